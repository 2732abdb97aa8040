/- A part of the proof of a law. -/
import Derived.Test.YtmcgghedgfkjiaaGreatDoorP6
import Derived.Test.YtmcgghedgfkjiaaGreatDoorP4
import Derived.Test.YtmcgghedgfkjiaaGreatDoorP5
import Derived.Maps.RangeRun
import Derived.Test.YtmcgghedgfkjiaaGreatDoorP6
import Derived.Shelf.Strings.Search3
import Derived.Shelf.Vars
import Derived.Shelf.Sort.Plain
import Derived.Shelf.Slices.In.SortNone
import Derived.Test.YtmcgghedgfkjiaaGreatDoorRows
import Derived.Test.YtmcgghedgfkjiaaGreatDoorTie
import Derived.Test.YtmcgghedgfkjiaaGreatDoorCards
import Derived.ChangeSame
import Derived.ChangeVars
import Derived.JoinedOf
import Derived.LaidLaws
import Derived.Lay
import Derived.MakeChecks
import Derived.Stop.Joined
import Derived.SevenTiedAt
set_option maxRecDepth 100000
set_option maxHeartbeats 4000000
set_option linter.all false
namespace Go.Proofs.YtmcgghedgfkjiaaGreatDoor.Av
open Go
section
open Go.Proofs
open Go.ChangeMaps (setBlock)
open jJ (den cds ag)
structure BM(r:Option Nat)(w w':World): Prop where
 os:w'.os=w.os
 tape:w'.tape=w.tape
 output:w'.output=w.output
 drawn:w.drawn<=w'.drawn
 size:w.heap.size<=w'.heap.size
 frame:∀k,k<w.heap.size->some k≠r->w'.heap[k]?=w.heap[k]?
theorem BM.trans{r:Option Nat}{a b c:World}(h:BM r a b)(k:BM r b c): BM r a c:=
 ⟨k.os.trans h.os,k.tape.trans h.tape,k.output.trans h.output,ZB h.drawn k.drawn,ZB h.size k.size,λi e d=>(k.frame i (YM e h.size) d).trans<|h.frame i e d⟩
theorem BM.refl(r:Option Nat)(a:World): BM r a a:=⟨rfl,rfl,rfl,Zf _,Zf _,λ_ _ _=>rfl⟩
theorem BM.of{r:Option Nat}{a b:World}(h:BM none a b): BM r a b:=⟨h.os,h.tape,h.output,h.drawn,h.size,λk c _=>h.frame k c<|by simp⟩
theorem BM.out{r:Nat}{a b w:World}(h:BM (some r) a b)(c:BM none w a)(e:w.heap.size<=r): BM none w b:=
 ⟨h.os.trans c.os,h.tape.trans c.tape,h.output.trans c.output,ZB c.drawn h.drawn,ZB c.size h.size,λk d _=>(h.frame k (YM d c.size)<|by simp;omega).trans<|c.frame k d<|by simp⟩
theorem qO{fl:Nat}{c c':dA}(h:bW fl c c')(b:∀id,c.β id=none): BM none c.w c'.w:=
 ⟨h.os,h.tape,h.output,h.drawn,h.size,λk d _=>h.frame k d λid a=>by rw[b id] at a;cases a⟩
theorem iK{w:World}{k:Nat}{o:Obj}(h:w.heap[k]?=some o): k<w.heap.size:=by
 rcases ZI k w.heap.size with a | a
 .exact a
 .rw[Yb a] at h;cases h
theorem SA(w:World)(o:Obj): BM none w<|w.alloc o:=
 ⟨rfl,rfl,rfl,Zf _,by show _<=(w.heap.push o).size;rw[Xu];exact Ys _,λk a _=>by show (w.heap.push o)[k]?=_;rw[ZU,ZF<|by omega]⟩
def sL: Code->Code
 | .seq a _=>a
 | c=>c
def sR: Code->Code
 | .seq _ b=>b
 | c=>c
def fF: Code->Array Oper
 | .region _ ops _=>ops
 | _=>#[]
def inB: Code->Code
 | .block _ c=>c
 | .loop c=>c
 | c=>c
def iV(c:Code)(i:Nat): Oper:=match (fF c)[i]? with
 | some o=>o
 | none=>default
noncomputable def sB: Code:=match Tryz.f112.body with
 | some c=>c
 | none=>.skip
noncomputable def Rg0: Code:=sL sB
noncomputable def Rg1: Code:=sL (sR sB)
noncomputable def Rg2: Code:=sL (sL (sR (sR sB)))
noncomputable def BD: Code:=inB (inB (sR (sL (sR (sR sB)))))
noncomputable def RgE: Code:=sL (sR (sR (sR sB)))
noncomputable def Rg3: Code:=sL BD
noncomputable def B4: Code:=inB (sR (sR BD))
noncomputable def V9: Code:=sL B4
noncomputable def Rg5: Code:=sL (sR B4)
noncomputable def Rg6: Code:=match sR (sR B4) with
 | .cond _ a _=>sL a
 | c=>c
theorem aTO: Tryz.f112.body=some (.seq (.region 0 (fF Rg0) false)<|.seq (.region 1 (fF Rg1) false)<|.seq (.seq (.region 2 (fF Rg2) false)<|.block 0<|.loop BD)<|.seq (.region 7 (fF RgE) false) .ret):=by kernel_rfl
theorem aQN: BD=.seq (.region 3 (fF Rg3) false) (.seq (.cond (.tmp 16) .skip<|.exit 0)<|.block 1<|.seq (.region 4 (fF V9) false)<|.seq (.region 5 (fF Rg5) false)<|.cond (.tmp 29) (.seq (.region 6 (fF Rg6) false) .ret) .skip):=by kernel_rfl
abbrev UV: AV:=.lit bQ
theorem ML{P:Program}{ops:Array Oper}{Q:Exit->Act->World->Prop}{i:Nat}{K:Act->World->Prop}{a:Act}{w w':World}{o:Oper}{v:Value}(c:ops[i]?=some o)(e:o.guard=none)(f:(execOp a.eval o).run P w=.ok (.value v) w')(d:K (a.put o.dst v) w'): wpOp P ops Q i K a w:=by
 unfold wpOp;rw[c];simp only[Region.wanted,e,Zz];left;unfold Oper.wp;rw[f];exact d
theorem aN6{FT:Nat->Option Nat}{c:dA}{b:List AV}{vs:Array Value}(n:Nat)(a:lQ FT c b vs): TR FT c (b++List.replicate (n-b.length) UV)<|vs++Array.replicate (n-vs.size) undef:=by
 refine⟨by simp[a.1],λt x d=>?_⟩;rw[Yk] at d;rw[XX,a.1];split at d
 .rename_i e;rw[Zu e];exact a.2 t x d
 .rename_i e;rw[ZF e];rw[XP] at d;split at d
  .rename_i f;cases d;refine⟨undef,?_,RV.lit _⟩;rw[XN,Zu f]
  .cases d
theorem v8{FT:Nat->Option Nat}{c:dA}{tm:List AV}{a:Act}{t:Nat}{v:Value}(h:TR FT c tm a.tmps)(d:tm[t]?=some (.lit v)): a.eval (.tmp t)=v:=by
 let⟨u,b,e⟩:=h.2 t _ d;rw[e.lit_inv] at b;simp[Act.eval,Yf,b]
theorem Kf{FT:Nat->Option Nat}{c:dA}(l:List Value): RV FT c (.tup<|l.map .lit)<|.tuple l.toArray:=by
 refine .tup _ _ (λi=>(l[i]?).getD bQ) (by simp) ?_ ?_
 .intro i x a;rw[Zk,Zq] at a;obtain⟨v,b,rfl⟩:=a;simp[b]
 .intro i x a;rw[Zk,Zq] at a;obtain⟨v,b,rfl⟩:=a;show RV FT c (.lit v)<|(l[i]?).getD bQ;rw[b];exact RV.lit _
theorem aEy: ∀{a:List<|Value×AV} {l:List<|Int×Int},aAO a=some l->a=l.map λe=>(Value.int .i64 e.1,AV.lit<|.int .i64 e.2)
 | [],l,h=>by cases h;rfl
 | (k,v)::r,l,h=>by
  unfold aAO at h;repeat' split at h;all_goals first | (cases h;done) | skip
  rename_i b _ _ _ _ c _ _ d;cases h;have b:k=_:=b;have c:v=_:=c;subst b c;rw[aEy d];rfl
theorem PR{x:AV}{l:List<|Int×Int}(h:Gy x=some l): (x=.lit (.map none)/\l=[])\/x=.rmp (l.map λe=>(Value.int .i64 e.1,AV.lit<|.int .i64 e.2)):=by
 unfold Gy at h;split at h
 .rw[aEy h];exact .inr rfl
 .repeat' split at h;all_goals first | (cases h;done) | skip
  cases h;exact .inl ⟨rfl,rfl⟩
 .cases h
theorem aOO{x:AV}{l:List<|Int×Int}(h:Gy x=some l): Qp (.rmp 1 1 l) x:=by
 have b:Qm (kk:=1) 1 l<|l.map λe=>[AV.lit<|.int .i64 e.2]:=by
  have:∀l:List<|Int×Int,Qm (kk:=1) 1 l<|l.map λe=>[AV.lit<|.int .i64 e.2]:=by
   intro l;induction l with
   | nil=>trivial
   | cons e l a=>exact⟨⟨.lit _,trivial⟩,a⟩
  exact this l
 rcases PR h with⟨rfl,rfl⟩ | rfl
 .exact Qp.mkM (rows:=[]) (.inl ⟨rfl,rfl⟩) trivial
 .refine Qp.mkM (.inr ?_) b;congr 1;have:∀l:List<|Int×Int,(l.map λe=>(Value.int .i64 e.1,AV.lit<|.int .i64 e.2))=gD (kk:=1) 1 l (l.map λe=>[AV.lit<|.int .i64 e.2]):=by
   intro l;induction l with
   | nil=>rfl
   | cons e l a=>show _::_=_::_;rw[a];rfl
  exact this l
theorem aNS{cf:CF}{fl:Nat}{tm:List AV}{H:aW}{c:AV}{old:List<|Int×Int}{k:Int}{x y:bB}(i:Gy c=some old)(j:aG tm x=c)(q:aG tm y=iv k): aL PP cf fl (.lookup 3 (.lit<|.int .i64 0) x y false) tm H=some (iv<|sdG old k,H):=by
 have f:Qt 2 ⟨[(0,.rmp 1 1 old),(1,.lit<|.int .i64 k)],List.replicate H.length .gone⟩ ⟨[c,iv k],H⟩:=⟨rfl,λt v a=>(by
  match t,a with
  | 0,a=>cases a;exact⟨_,rfl,.p _ _<|aOO i⟩
  | 1,a=>cases a;exact⟨_,rfl,.l _⟩
  | _+2,a=>cases a),aQt H⟩
 let⟨v,u,tv,s,b,_,o,h⟩:=E8 (P:=PP) (T:=T) (cf:=cf) (n:=0) (d:=some 0) (E:=((⟨C0,[],[],[],[]⟩:En PP T 2 fl .skip).xe GlC.g)) (K:=λtv _=>some tv) (r:=.lit<|.int .i64<|sdG old k)
  (En.ok _ _) f (kt:=3) (z:=.lit<|.int .i64 0) (m:=.tmp 0) (k:=.tmp 1) (ok:=false)<|by kernel_rfl
 rw[aQx b] at b;obtain rfl:=ZR h;rw[o.inL] at b;have e:aL PP cf fl (.lookup 3 (.lit<|.int .i64 0) x y false) tm H=aL PP cf fl (.lookup 3 (.lit<|.int .i64 0) (.tmp 0) (.tmp 1) false) [c,iv k] H:=by
  simp only[aL,j,q];rfl
 exact e.trans b
def Ni(l:List<|Nat×AV): List AV:=(List.range 30).map λk=>match dC k l with
 | some x=>x
 | none=>.undef
theorem aNB{l:List<|Nat×AV}(h:∀k v,dC k l=some v->k<30): At 30 l<|Ni l:=⟨by simp[Ni],λk v a=>by
 simp only[aG,Ni,Zk,YY<|h k v a,Yz,a]⟩
theorem qQ{N k:Nat}{l:List<|Nat×AV}{tm:List AV}{v:AV}(h:At N l tm)(e:dC k l=some v)(b:k<N): tm[k]?=some v:=by
 have:=h.get e;have a:k<tm.length:=by rw[h.ln];exact b
 simp only[aG,Zb a] at this;rw[Zb a,this]
def cW(a:Nat->Prop)(r:Nat)(W:World): dA:=⟨W,λb=>a b\/b=r,λ_=>none,[]⟩
theorem GY{a:Nat->Prop}{r b:Nat}{W:World}: lE (cW a r W) b↔¬a b/\b≠r:=⟨λh=>⟨λk=>h.1<|.inl k,λk=>h.1<|.inr k⟩,λh=>⟨λk=>k.elim h.1 h.2,λid h=>by cases h⟩⟩
structure LI(X0:Nat->Prop)(r:Nat)(m:Int)(xo:AV)(W:World)(a:Act): Prop where
 gl:tU (cW X0 r W)
 fr:∀k,W.heap.size<=k->¬X0 k
 hr:r<W.heap.size
 sz:a.tmps.size=30
 t2:a.tmps[2]?=some (.int .i64 m)
 t14:a.tmps[14]?=some (.pointer (some ⟨r,0,none⟩))
 t7:∃v,a.tmps[7]?=some v/\RP W (lE (cW X0 r W)) xo v
abbrev l0(m:Int)(xo:AV)(r:Nat): List (Nat×AV):=[(2,iv m),(7,xo),(14,.lit (.pointer (some ⟨r,0,none⟩)))]
theorem aAK(m:Int)(a:AV)(r:Nat): At 30 (l0 m a r)<|Ni<|l0 m a r:=aNB λk v h=>by
 simp only[dC] at h;repeat' split at h;all_goals first | cases h | skip
 all_goals (rename_i e;have:=Zc e;omega)
section
variable {X0:Nat->Prop}{r:Nat}{m:Int}{xo:AV}{W W':World}{a a':Act}
theorem LI.tr(h:LI X0 r m xo W a): TR (aJ T) (cW X0 r W) (Ni<|l0 m xo r) a.tmps:=by
 refine⟨by simp[Ni,h.sz],λt x c=>?_⟩;have d:t<a.tmps.size:=by
  rw[h.sz];rcases ZI t 30 with k | k
  .exact k
  .rw[Zy<|by simpa [Ni] using k] at c;cases c
 rw[h.sz] at d;simp only[Ni,Zk,YY d,Yz,Za] at c;have l:∀x:AV,x=.undef->∃v,a.tmps[t]?=some v/\RV (aJ T) (cW X0 r W) x v:=λx e=>⟨_,Z6<|by rw[h.sz];exact d,by rw[e];exact RV.undef _⟩;simp only[dC] at c;split at c
 .rename_i y b;subst c;split at b
  .rename_i e;cases b;rw[<-Zc e];exact⟨_,h.t2,RV.lit _⟩
  .split at b
   .rename_i e;cases b;rw[<-Zc e];let⟨v,i,j⟩:=h.t7;exact⟨v,i,.pure _ _ j⟩
   .split at b
    .rename_i e;cases b;rw[<-Zc e];exact⟨_,h.t14,RV.lit _⟩
    .cases b
 .exact l x c.symm
theorem LI.sim(h:LI X0 r m xo W a): bX (aJ T) (cW X0 r W) where
 gl:=h.gl;inj:=λ_ _ _ h=>by cases h
 dom:=λ_ _ h=>by cases h
 nx:=λ_ _ h=>by cases h
 fresh:=λk c e=>e.elim (h.fr k c) λe=>by have:=h.hr;have c:W.heap.size<=k:=c;omega
 lens:=λid s es h=>by cases h
 blk:=λid s es b h=>by cases h
 map:=λid es b h=>by cases h
 raw:=λid q b h=>by cases h
theorem aH3(f:BM (some r) W W'){x:AV}{v:Value}(h:RP W (lE<|cW X0 r W) x v): RP W' (lE<|cW X0 r W') x v:=h.mono λb o e d=>by
 let⟨i,c⟩:=GY.1 e;exact⟨GY.2 ⟨i,c⟩,(f.frame b (iK d)<|by simpa using c).trans d⟩
theorem LI.move(h:LI X0 r m xo W a)(c:BM (some r) W W')(d:a'.tmps.size=30/\a'.tmps[2]?=a.tmps[2]?/\a'.tmps[14]?=a.tmps[14]?/\a'.tmps[7]?=a.tmps[7]?): LI X0 r m xo W' a' where
 gl:=λg cs i=>by
  let⟨cc,T,fz,b,f,e,u,o,s⟩:=h.gl g cs i;let⟨w,l⟩:=GY.1 f;exact⟨cc,T,fz,b,GY.2 ⟨w,l⟩,(c.frame g (iK e)<|by simpa using l).trans e,u,o,λj x z=>aH3 c<|s j x z⟩
 fr:=λk t=>h.fr k<|ZB c.size t;hr:=YM h.hr c.size;sz:=d.1;t2:=d.2.1.trans h.t2;t14:=d.2.2.1.trans h.t14;t7:=by
  let⟨v,f,e⟩:=h.t7;exact⟨v,d.2.2.2.trans f,aH3 c e⟩
theorem aKW{FT:Nat->Option Nat}{c:dA}{a:AV}{old:List<|Int×Int}{v:Value}(d:Gy a=some old)(h:RV FT c a v): RP c.w (lE c) a v:=by
 rcases PR d with⟨rfl,_⟩ | rfl
 .rw[h.lit_inv];exact .lit _
 .cases h with
  | pure _ _ h=>exact h
theorem LI.ops{c':dA}{tm:List AV}{l:List<|Nat×AV}{old:List<|Int×Int}(h:LI X0 r m xo W a)(t:Gy xo=some old)(q:bW 0 (cW X0 r W) c')(f:At 30 l tm)(i:TR (aJ T) c' tm a'.tmps)(y:dC 2 l=some (iv m))(u:dC 7 l=some xo)(j:dC 14 l=some (.lit<|.pointer<|some ⟨r,0,none⟩)): LI X0 r m xo c'.w a':=by
 have p:=qO q λ_=>rfl;have e:LI X0 r m xo c'.w a:=h.move p.of ⟨h.sz,rfl,rfl,rfl⟩;refine { e with sz:=by rw[<-i.1];exact f.ln,t2:=?_,t14:=?_,t7:=?_ }
 .let⟨v,c,d⟩:=i.2 2 _<|qQ f y<|by decide
  rw[c,d.lit_inv]
 .let⟨v,c,d⟩:=i.2 14 _<|qQ f j<|by decide
  rw[c,d.lit_inv]
 .let⟨v,c,d⟩:=i.2 7 _<|qQ f u<|by decide
  refine⟨v,c,(aKW t d).mono λb o s p=>⟨GY.2 ?_,p⟩⟩;have:=s.1;rw[q.X] at this;exact⟨λk=>this<|.inl k,λk=>this<|.inr k⟩
end
def Bt(old:List<|Int×Int)(m k v:Int): Bool:=!decide (k=m)&&!decide (sdG old k=v)
def Ent(e:MapEntry)(k v:Int): Prop:=e.key=.int .i64 k/\e.val=.int .i64 v
theorem aPB: ∀(j:Nat) (o:Oper),[iV V9 1,iV V9 2,iV V9 3,iV V9 4][j]?=some o->(fF V9)[1+j]?=some o:=by
 have e:(fF V9).toList.drop 1=[iV V9 1,iV V9 2,iV V9 3,iV V9 4]:=by kernel_rfl
 intro j o h;rw[<-e,Zw,Z8] at h;exact h
theorem MB{c:Code}{n:Nat}(e:(fF c).toList=(List.range n).map (iV c)): ∀(j:Nat) (o:Oper),((List.range n).map<|iV c)[j]?=some o->(fF c)[0+j]?=some o:=by
 intro j o h;rw[<-e,Z8] at h;rw[Z0];exact h
section
variable {cf:CF}{X0:Nat->Prop}{r b clk cc:Nat}{m:Int}{xo:AV}{old:List (Int×Int)}{W:World}{a:Act}{seen:Array Nat}{es:Array MapEntry}
def gop(d:Nat)(a:Jn): bE:=⟨some d,a,some (23,true)⟩
def R5: List bE:=[om 20 8,om 21 2,o1 22<|.ibin .neq (tp 20)<|tp 21,om 23 22,gop 24<|.mov<|tp 7,gop 25<|.mov<|tp 8,gop 26<|.lookup 3 (.lit<|.int .i64 0) (tp 24) (tp 25) false,gop 27<|.mov<|tp 9,gop 28<|.ibin .neq (tp 26)<|tp 27,o1 29<|.pick (tp 23) (tp 28)<|.lit<|.bool false]
theorem aE4{P:Program}{fl:Nat}{tm:List AV}{H:aW}{l:List<|Nat×AV}{N d:Nat}{f:Jn}{rs:List bE}{K:St->Prop}(h:At N l tm)(e:dC 23 l=some (.lit<|.bool false))(k:∀a,At N ((d,.lit bQ)::l) a->WO P cf fl rs ⟨a,H⟩ K)(b:Nat.blt d N=true:=by rfl): WO P cf fl (gop d f::rs) ⟨tm,H⟩ K:=by
 let⟨s,g,c⟩:=k _<|h.set b;refine⟨s,?_,c⟩;simp only[iN,cH,gop,eD,h.get e];exact g
theorem aE3{P:Program}{fl:Nat}{tm:List AV}{H H':aW}{v:AV}{l:List<|Nat×AV}{N d:Nat}{b:Jn}{rs:List bE}{K:St->Prop}(h:At N l tm)(e:dC 23 l=some (.lit<|.bool true))(ev:aL P cf fl b tm H=some (v,H'))(k:∀a,At N ((d,v)::l) a->WO P cf fl rs ⟨a,H'⟩ K)(c:Nat.blt d N=true:=by rfl): WO P cf fl (gop d b::rs) ⟨tm,H⟩ K:=by
 let⟨s,g,f⟩:=k _<|h.set c;refine⟨s,?_,f⟩;simp only[iN,cH,gop,eD,h.get e,ev];exact g
theorem aUi{tm:List AV}{k v:Int}(d:Gy xo=some old)(h:At 30 ((9,iv v)::(8,iv k)::l0 m xo r) tm): WO PP cf 0 R5 ⟨tm,[]⟩ λs=>s.heap=[]/\∃l,At 30 l s.tmps/\dC 29 l=some (.lit<|.bool<|Bt old m k v)/\dC 2 l=some (iv m)/\dC 7 l=some xo/\dC 14 l=some (.lit<|.pointer<|some ⟨r,0,none⟩):=by
 refine AO.mov h rfl λtm h=>AO.mov h rfl λtm h=>AO.op h (Ng (v:=.bool<|k != m) (h.get rfl) (h.get rfl) rfl) λtm h=>AO.mov h rfl λtm h=>?_;by_cases e:k=m
 .have b:(k != m)=false:=by simp[e]
  rw[b] at h;refine aE4 h rfl λtm h=>aE4 h rfl λtm h=>aE4 h rfl λtm h=>aE4 h rfl λtm h=>aE4 h rfl λtm h=>AO.op (v:=.lit<|.bool false) (H':=[]) h (by simp only[aL,h.get (k:=23) rfl];rfl) λtm h=>AO.nil h ⟨rfl,_,h,?_,rfl,rfl,rfl⟩;have:Bt old m k v=false:=by simp[Bt,e]
  rw[this];rfl
 .have b:(k != m)=true:=by simpa using e
  rw[b] at h;refine aE3 h rfl (v:=xo) (H':=[]) (by simp only[aL,h.get (k:=7) rfl]) λtm h=>aE3 h rfl (v:=iv k) (H':=[]) (by simp only[aL,h.get (k:=8) rfl]) λtm h=>aE3 h rfl (aNS d (h.get rfl)<|h.get rfl) λtm h=>aE3 h rfl (v:=iv v) (H':=[]) (by simp only[aL,h.get (k:=9) rfl]) λtm h=>aE3 h rfl (Ng (v:=.bool<|sdG old k != v) (h.get rfl) (h.get rfl) rfl) λtm h=>AO.op (v:=.lit<|.bool<|sdG old k != v) (H':=[]) h (by simp only[aL,h.get (k:=23) rfl,h.get (k:=28) rfl,Zz]) λtm h=>AO.nil h ⟨rfl,_,h,?_,rfl,rfl,rfl⟩;have:Bt old m k v=(sdG old k != v):=by
   simp only[Bt,e,decide_false,X3,Wv];rw[XV];simp
  rw[this];rfl
theorem aTP(E:Bh PP T cf)(L:nH PP T)(ho:Gy xo=some old)(li:LI X0 r m xo W a)(hr:W.heap[r]?=some (.mapIter (some b) clk seen cc))(hb:W.heap[b]?=some (.map es clk))(i2:b≠r)(j1:clk<=cc)(hy:Yng es clk)(hE:∀e∈es.toList,∃k v,Ent e k v){Q:Exit->Act->World->Prop}(h1:∀a' C,LI X0 r m xo C a'->BM (some r) W C->(leftOf es seen).size=0->a'.defers=a.defers->Q (.exit 0) a' C)(l3:∀a' C e k v,e∈(leftOf es seen).toList->Ent e k v->Bt old m k v=false->LI X0 r m xo C a'->C.heap[r]?=some (.mapIter (some b) clk (seen.push e.born) clk)->C.heap[b]?=some (.map es clk)->BM (some r) W C->a'.defers=a.defers->Q .normal a' C)(f1:∀a' C e k v,e∈(leftOf es seen).toList->Ent e k v->Bt old m k v=true->LI X0 r m xo C a'->a'.tmps[6]?=some (.bool true)->BM (some r) W C->a'.defers=a.defers->Q .ret a' C): BD.wp PP Q a W:=by
 rw[aQN];refine Xk ?_;refine Xc ?_;show wpOps PP (fF Rg3) _ [0,1] a W;rw[Y3];have i1:(iV Rg3 0).op=.next (.tmp 14) false:=by kernel_rfl
 have g3:(iV Rg3 0).dst=some 15:=by kernel_rfl
 have S:a.eval (.tmp 14)=.pointer (some ⟨r,0,none⟩):=by simp[Act.eval,Yf,li.t14]
 rcases run_next_at (P:=PP) W (iV Rg3 0).type r b clk cc seen es clk hr hb hy.1 j1 with⟨hz,K⟩ | ⟨e,he,w1,J,K⟩
 .refine ML (o:=iV Rg3 0) (v:=.tuple #[.bool false]) (w':=W) (by kernel_rfl) (by kernel_rfl) (by simp[execOp,i1,S,K]) ?_;have i:=TR.put (d:=some 15) li.tr<|Kf (c:=cW X0 r W) [.bool false];have q:At 30 ((15,.tup [.lit<|.bool false])::l0 m xo r)<|hM (Ni<|l0 m xo r) (some 15)<|.tup<|[.bool false].map .lit:=(aAK m xo r).set rfl;rw[g3,Y3];have y:(a.put (some 15)<|.tuple #[.bool false]).defers=a.defers:=hJ _ _ _;generalize a.put (some 15) (.tuple #[.bool false])=a1 at i y |-;generalize hM (Ni<|l0 m xo r) (some 15) (.tup<|[.bool false].map .lit)=c1 at i q;refine kT (fl:=0) (c:=cW X0 r W) (o:=iV Rg3 1) (ao:=o1 16<|.extract (tp 15) 0) (st':=⟨c1.set 16<|.lit<|.bool false,[]⟩) E L li.sim i (ZG _) (by kernel_rfl) (by kernel_rfl) (by simp only[cH,eD,aL,q.get (k:=15) rfl];rfl) ?_;intro M I e2 s2 n1 p d2 _;have F:=q.set (v:=.lit<|.bool false) (k:=16) rfl;have l2:=li.ops ho s2 F p rfl rfl rfl;show ((Code.seq (.cond (.tmp 16) .skip<|.exit 0) _)).wp PP Q M I.w;refine Xk ?_;refine XJ (v8 p (t:=16)<|qQ F rfl<|by decide) ?_;exact wp_exit<|h1 M I.w l2 (qO s2 λ_=>rfl).of hz<|d2.trans y
 .let⟨kk,vv,hk,hv⟩:=hE e (mem_left he).1;have hf:w1.heap=W.heap:=by rcases J with rfl | rfl<;>rfl
  refine ML (o:=iV Rg3 0) (v:=.tuple #[.bool true,e.key,e.val]) (w':=setBlock w1 r<|.mapIter (some b) clk (seen.push e.born) clk) (by kernel_rfl) (by kernel_rfl) (by simp[execOp,i1,S,K]) ?_;have n:BM (some r) W<|setBlock w1 r<|.mapIter (some b) clk (seen.push e.born) clk:=by
   refine⟨by rcases J with rfl | rfl<;>rfl,by rcases J with rfl | rfl<;>rfl,by rcases J with rfl | rfl<;>rfl,(by rcases J with rfl | rfl<;>first | exact Zf _ | exact Ys _),by simp[setBlock,hf],λk _ hk=>?_⟩;simp only[setBlock,hf];rw[YB λe=>hk<|by rw[e]]
  have b1:(setBlock w1 r<|.mapIter (some b) clk (seen.push e.born) clk).heap[r]?=some (.mapIter (some b) clk (seen.push e.born) clk):=by
   simp only[setBlock,hf];rw[Array.getElem?_setIfInBounds_self_of_lt<|iK hr]
  generalize setBlock w1 r (.mapIter (some b) clk (seen.push e.born) clk)=W1 at n b1;have f2:W1.heap[b]?=some (.map es clk):=(n.frame b (iK hb)<|by simpa using i2).trans hb;have Y:LI X0 r m xo W1 a:=li.move n ⟨li.sz,rfl,rfl,rfl⟩;have i:=TR.put (d:=some 15) Y.tr<|Kf (c:=cW X0 r W1) [.bool true,e.key,e.val];have q:At 30 ((15,.tup [.lit<|.bool true,.lit e.key,.lit e.val])::l0 m xo r)<|hM (Ni<|l0 m xo r) (some 15)<|.tup<|[.bool true,e.key,e.val].map .lit:=(aAK m xo r).set rfl;rw[g3,Y3];have y:(a.put (some 15)<|.tuple #[.bool true,e.key,e.val]).defers=a.defers:=hJ _ _ _;show wpOp PP (fF Rg3) _ 1 _ (a.put (some 15)<|.tuple [.bool true,e.key,e.val].toArray) W1;replace y:(a.put (some 15)<|.tuple [.bool true,e.key,e.val].toArray).defers=a.defers:=y;generalize a.put (some 15) (.tuple [.bool true,e.key,e.val].toArray)=a1 at i y |-;generalize hM (Ni<|l0 m xo r) (some 15) (.tup<|[.bool true,e.key,e.val].map .lit)=c1 at i q;refine kT (fl:=0) (c:=cW X0 r W1) (o:=iV Rg3 1) (ao:=o1 16<|.extract (tp 15) 0) (st':=⟨c1.set 16<|.lit<|.bool true,[]⟩) E L Y.sim i (ZG _) (by kernel_rfl) (by kernel_rfl) (by simp only[cH,eD,aL,q.get (k:=15) rfl];rfl) ?_;intro M I e2 s2 n1 p d2 _;have F:=q.set (v:=.lit<|.bool true) (k:=16) rfl;have l2:=Y.ops ho s2 F p rfl rfl rfl;have b2:=qO s2 λ_=>rfl;show ((Code.seq (.cond (.tmp 16) .skip<|.exit 0) _)).wp PP Q M I.w;refine Xk ?_;refine Wd (v8 p (t:=16)<|qQ F rfl<|by decide) ?_;refine W5 ?_;refine WJ ?_;refine Xk ?_;refine Xc ?_;show wpOps PP (fF V9) _ [0,1,2,3,4] M I.w;rw[Y3];have Z:=(b2.frame r (iK b1)<|by simp).trans b1;have b3:=(b2.frame b (iK f2)<|by simp).trans f2;have o3:=run_entry_at (P:=PP) I.w r b clk seen es clk e Z b3 (mem_left he).1 hy.2;have p1:(iV V9 0).op=.entry (.tmp 14):=by kernel_rfl
  have j2:M.eval (.tmp 14)=.pointer (some ⟨r,0,none⟩):=by simp[Act.eval,Yf,l2.t14]
  refine ML (o:=iV V9 0) (v:=.tuple #[e.key,e.val]) (w':=I.w) (by kernel_rfl) (by kernel_rfl) (by simp[execOp,p1,j2,o3]) ?_;have n3:(iV V9 0).dst=some 17:=by kernel_rfl
  rw[n3];have D:=TR.put (d:=some 17) l2.tr<|Kf (c:=cW X0 r I.w) [e.key,e.val];have O:At 30 ((17,.tup [.lit e.key,.lit e.val])::l0 m xo r)<|hM (Ni<|l0 m xo r) (some 17)<|.tup<|[e.key,e.val].map .lit:=(aAK m xo r).set rfl;have U:(M.put (some 17)<|.tuple [e.key,e.val].toArray).defers=M.defers:=hJ _ _ _;show wpOps PP (fF V9) _ (List.range' 1 4) (M.put (some 17)<|.tuple [e.key,e.val].toArray) I.w;generalize M.put (some 17) (.tuple [e.key,e.val].toArray)=a3 at D U |-;generalize hM (Ni<|l0 m xo r) (some 17) (.tup<|[e.key,e.val].map .lit)=e3 at D O;have R:LI X0 r m xo I.w M:=l2;let⟨s4,j3,h4,l4,x,q2,q7,q8,q9,h2⟩:WO PP cf 0 [o1 18<|.extract (tp 17) 0,o1 19<|.extract (tp 17) 1,om 8 18,om 9 19] ⟨e3,[]⟩ λs=>s.heap=[]/\∃l,At 30 l s.tmps/\dC 2 l=some (iv m)/\dC 7 l=some xo/\dC 8 l=some (iv kk)/\dC 9 l=some (iv vv)/\dC 14 l=some (.lit<|.pointer<|some ⟨r,0,none⟩):=by
   rw[hk,hv] at O;exact AO.op (v:=iv kk) (H':=[]) O (by simp only[aL,O.get (k:=17) rfl];rfl) λtm h=>AO.op (v:=iv vv) (H':=[]) h (by simp only[aL,h.get (k:=17) rfl];rfl) λtm h=>AO.mov h rfl λtm h=>AO.mov h rfl λtm h=>AO.nil h ⟨rfl,_,h,rfl,rfl,rfl,rfl,rfl⟩
  refine Ca (ops:=fF V9) (fl:=0) E L [o1 18<|.extract (tp 17) 0,o1 19<|.extract (tp 17) 1,om 8 18,om 9 19] [iV V9 1,iV V9 2,iV V9 3,iV V9 4] 1 (cW X0 r I.w) a3 e3 s4 (by kernel_rfl) aPB R.sim D (ZG _) j3 ?_;intro a4 c4 e4 c3 m3 X d4;have q1:=R.ops ho c3 x X q2 q7 h2;have b4:=qO c3 λ_=>rfl;show (Code.seq (.region 5 (fF Rg5) false) _).wp PP _ a4 c4.w;refine Xk ?_;refine Xc ?_;show wpOps PP (fF Rg5) _ (List.range' 0 10) a4 c4.w;have k2:At 30 ((9,iv vv)::(8,iv kk)::l0 m xo r) s4.tmps:=.cons (x.get q9)<|.cons (x.get q8)<|.cons (x.get q2)<|.cons (x.get q7)<|.cons (x.get h2) ⟨x.ln,λ_ _ h=>by cases h⟩;have l1:c4.H=[]:=by rw[e4,h4]
  let⟨s5,n2,h5,l5,A,N,p2,p7,e1⟩:=aUi (cf:=cf) ho k2;refine Ca (ops:=fF Rg5) (fl:=0) E L R5 ((List.range 10).map<|iV Rg5) 0 c4 a4 s4.tmps s5 (by kernel_rfl) (MB<|by kernel_rfl) m3 X (ZG _) (by rw[l1];exact n2) ?_;intro a5 c5 e5 k3 m2 B d5;have d1:=c3.trans k3;have m1:=R.ops ho d1 A B p2 p7 e1;have b5:=qO d1 λ_=>rfl;have tot:BM (some r) W c5.w:=n.trans<|b2.of.trans b5.of;have f3:a5.defers=a.defers:=d5.trans<|d4.trans<|U.trans<|d2.trans y;show (Code.cond (.tmp 29) _ _).wp PP _ a5 c5.w;cases z:Bt old m kk vv with
  | false=>
   rw[z] at N;refine XJ (v8 B (t:=29)<|qQ A N<|by decide) ?_;refine W5 ?_;exact l3 a5 c5.w e kk vv he ⟨hk,hv⟩ z m1 ((b5.frame r (iK Z)<|by simp).trans Z) ((b5.frame b (iK b3)<|by simp).trans b3) tot f3
  | true=>
   rw[z] at N;refine Wd (v8 B (t:=29)<|qQ A N<|by decide) ?_;refine Xk ?_;refine Xc ?_;show wpOps PP (fF Rg6) _ (List.range' 0 1) a5 c5.w;have o2:c5.H=[]:=by rw[e5,h5]
   refine Ca (ops:=fF Rg6) (fl:=0) E L [o1 6<|.mov<|.lit<|.bool true] ((List.range 1).map<|iV Rg6) 0 c5 a5 s5.tmps ⟨s5.tmps.set 6<|.lit<|.bool true,[]⟩ (by kernel_rfl) (MB<|by kernel_rfl) m2 B (ZG _) (by rw[o2];rfl) ?_;intro a6 c6 e6 i3 p3 V d6;have d3:=d1.trans i3;have h3:=A.set (v:=.lit<|.bool true) (k:=6) rfl;have k1:=R.ops ho d3 h3 V p2 p7 e1;have b6:=qO d3 λ_=>rfl;refine wp_ret ?_;let⟨u,g1,g2⟩:=V.2 6 _<|qQ h3 rfl<|by decide
   exact f1 a6 c6.w e kk vv he ⟨hk,hv⟩ z k1 (by rw[g1,g2.lit_inv]) (n.trans<|b2.of.trans b6.of)<|d6.trans f3
theorem aA1(o:Bh PP T cf)(s:nH PP T)(H:Gy xo=some old)(j:b≠r)(D:Yng es clk)(F:∀e∈es.toList,∃k v,Ent e k v){Q:Exit->Act->World->Prop}{W0:World}{ds:List Deferred}(f:∀a' c,LI X0 r m xo c a'->BM (some r) W0 c->(∀e∈es.toList,∀k v,Ent e k v->Bt old m k v=false)->a'.defers=ds->Q (.exit 0) a' c)(g:∀a' c e k v,e∈es.toList->Ent e k v->Bt old m k v=true->LI X0 r m xo c a'->a'.tmps[6]?=some (.bool true)->BM (some r) W0 c->a'.defers=ds->Q .ret a' c):
 ∀(n:Nat) (seen:Array Nat) (cc:Nat) (W:World) (a:Act),(leftOf es seen).size<n->LI X0 r m xo W a->W.heap[r]?=some (.mapIter (some b) clk seen cc)->W.heap[b]?=some (.map es clk)->clk<=cc->BM (some r) W0 W->a.defers=ds->(∀e∈es.toList,seen.contains e.born=true->∀k v,Ent e k v->Bt old m k v=false)->Code.rounds PP BD Q n a W
 | 0,_,_,_,_,h,_,_,_,_,_,_,_=>by omega
 | n+1,seen,cc,W,a,Y,U,R,X,C,z,B,J=>by
  rw[rounds_succ];refine aTP o s H U R X j C D F (λa' c q l S p=>?_) (λa' c e k v he y w q A O l p=>?_) λa' c e k v he y w q A l p=>?_
  .exact f a' c q (z.trans l) (λe he k v t=>J e he (all_seen es seen S e he) k v t)<|p.trans B
  .refine aA1 o s H j D F f g n (seen.push e.born) clk c a' (by have:=left_shrinks es seen e he;omega) q A O (Zf _) (z.trans l) (p.trans B) λx K i k' L t=>?_;rw[contains_push] at i;rcases YU _ _▸i with i | i
   .exact J x K i k' L t
   .have M:x=e:=born_inj D.2 K (mem_left he).1<|by simpa using i
    subst M;let⟨I,G⟩:=t;let⟨V,N⟩:=y;rw[V] at I;rw[N] at G;cases I;cases G;exact w
  .exact g a' c e k v (mem_left he).1 y w q A (z.trans l)<|p.trans B
end
theorem CO(H H':aW)(x:AV): dE H' (dE H x)=dE H x:=by
 cases x with
 | lit v=>
  have a:sK v=.lit v\/sK v=.sl false []:=by
   unfold sK;repeat' split
   all_goals first | exact .inl rfl | exact .inr rfl
  rcases a with e | e
  .simp only[dE,e]
  .simp only[dE,e]
 | ms id tot off len=>
  have e:dE H (.ms id tot off len)=match rd H (.ms id tot off len) with | some es=>.vw (es.map λe=>e.map Fk) | none=>.undef:=rfl;rw[e];cases rd H (.ms id tot off len)<;>rfl
 | fn vi caps=>cases caps<;>rfl
 | _=>rfl
theorem aN5{FT:Nat->Option Nat}{c:dA}{tm:List AV}{tv:Array Value}{k:Nat}{v:Value}(h:TR FT c tm tv)(b:tv[k]?=some v): TR FT c (tm.set k<|.lit v) tv:=by
 refine⟨by rw[Yr];exact h.1,λt x a=>?_⟩;rw[Z5] at a;split at a
 .rename_i e;subst e;split at a
  .cases a;exact⟨v,b,RV.lit _⟩
  .cases a
 .exact h.2 t x a
theorem aBA{old:List<|Int×Int}{m:Int}: ∀a:List<|Int×Int,sdB old m a=true↔∃e∈a,Bt old m e.1 e.2=true
 | []=>by simp[sdB]
 | e::l=>by
  have b:=aBA (old:=old) (m:=m) l;show (match Bt old m e.1 e.2 with | true=>true | false=>sdB old m l)=true↔_;cases h:Bt old m e.1 e.2 with
  | true=>simp[h]
  | false=>simp[h,b]
theorem aRe{W:World}{a:Act}{x:Bool}{c:dA}{tm:List AV}(i:bX (aJ T) c)(m:c.H=[])(e:c.w=W)(h:TR (aJ T) c tm a.tmps)(j:tm.length=30)(l:a.tmps[6]?=some (.bool x)): (results Tryz.f112 a.tmps).run PP W=.ok (.bool x) W:=by
 have k:=aN5 h l;have g:lP ⟨tm.set 6<|.lit<|.bool x,[]⟩ [.tmp 6]=some [.lit<|.bool x]:=by
  simp only[lP,Ro,aG,Z3 (by rw[j];decide:6<tm.length)]
 let⟨v,d,f⟩:=ST (P:=PP) (fn:=Tryz.f112) (rs:=[.tmp 6]) (vs:=[.lit<|.bool x]) (st:=⟨tm.set 6<|.lit<|.bool x,[]⟩) i m k (by kernel_rfl) g;rw[e,f.lit_inv] at d;exact d
theorem aQ0{cf:CF}{fl:Nat}{tm:List AV}{H:aW}{x:bB}{cs:List AV}(a:aG tm x=.agg cs): aL PP cf fl (.box x) tm H=some (.ptr H.length 1 0 0,H++[.blk cs.length [cs]]):=by simp only[aL,a,cellsOf]
theorem aI7{cf:CF}{c:aW}{a:AV}{l:List<|Int×Int}(h:sdH cf 214 c a=some l): ∃z,(∀{fl:Nat} {tm:List AV} {H:aW} {x:bB},aG tm x=cL c a->aL PP cf fl (.callB 214 [x]) tm H=some (z,H))/\Gy z=some l/\∃x y w,cL c a=.agg [x,y,w]:=by
 let⟨j,m,k,p,d,t,q⟩:=aHu h;have u:∃g f i,j=dE c g/\m=dE c f/\k=dE c i:=by
  have s:∀b cs,dE c b=.agg cs->False:=by
   intro b cs e;cases b with
   | lit v=>
    simp only[dE] at e;split at e<;>cases e
   | ms=>simp only[dE] at e;split at e<;>cases e
   | fn vi caps=>cases caps<;>cases e
   | _=>cases e
  have A:∀b,(∀cs,b≠.agg cs)->cL c b=dE c b:=λb r=>by
   cases b with
   | agg cs=>exact (r cs rfl).elim
   | _=>rfl
  cases a with
  | agg cs=>
   have d:AV.agg (cs.map<|dE c)=.agg [j,m,k]:=d;injection d with d;match cs,d with
   | [g,f,i],d=>cases d;exact⟨_,_,_,rfl,rfl,rfl⟩
  | _=>exact (s _ _<|(A _ λcs e=>by cases e).symm.trans d).elim
 obtain⟨g,f,i,rfl,rfl,rfl⟩:=u;refine⟨fD p.2 0 p.1,λ{fl tm H x} n=>?_,q,_,_,_,d⟩;have e:cL H (.agg [dE c g,dE c f,dE c i])=.agg [dE c g,dE c f,dE c i]:=by
  show AV.agg [dE H<|dE c g,dE H<|dE c f,dE H<|dE c i]=_;rw[CO,CO,CO]
 rw[d] at n;simp only[aL,ZE,Yn,n,e,t]
theorem aFE{cf:CF}(G:Bh PP T cf)(I:nH PP T){c:dA}(hs:bX (aJ T) c){a b:AV}{m:Int}{old q:List<|Int×Int}(h1:sdH cf 214 c.H a=some old)(h2:sdH cf 214 c.H b=some q){vs:Array Value}(A:lQ (aJ T) c [a,b,iv m] vs):
 Calls PP 112 vs c.w λe w'=>e=.returned (.bool<|sdB old m q)/\BM none c.w w':=by
 refine calls_of_wp (fn:=Tryz.f112) Tryz.func112 aTO ?_;have z3:=Bb hs;have Y:lQ (aJ T) (eQ c) [cL c.H a,cL c.H b,iv m] vs:=by
  refine⟨A.1,λi x B=>?_⟩;match i,B with
  | 0,B=>cases B;let⟨v,k1,k2⟩:=A.2 0 a rfl;exact⟨v,k1,HH hs k2⟩
  | 1,B=>cases B;let⟨v,k1,k2⟩:=A.2 1 b rfl;exact⟨v,k1,HH hs k2⟩
  | 2,B=>cases B;let⟨v,k1,k2⟩:=A.2 2 (iv m) rfl;exact⟨v,k1,by rw[k2.lit_inv];exact RV.lit _⟩
 have f1:=aN6 30 Y;have hA:At 30 [(0,cL c.H a),(1,cL c.H b),(2,iv m)]<|[cL c.H a,cL c.H b,iv m]++List.replicate (30-[cL c.H a,cL c.H b,iv m].length) UV:=.cons rfl<|.cons rfl<|.cons rfl ⟨rfl,λ_ _ h=>by cases h⟩;have z1:Tryz.f112.ntmps=30:=by kernel_rfl
 rw[z1];generalize [cL c.H a,cL c.H b,iv m]++List.replicate (30-[cL c.H a,cL c.H b,iv m].length) UV=tm at f1 hA;generalize i3:(⟨vs++Array.replicate (30-vs.size) undef,[]⟩:Act)=a3;have f1:TR (aJ T) (eQ c) tm a3.tmps:=by rw[<-i3];exact f1
 have n1:a3.defers=[]:=by rw[<-i3]
 let⟨J,eo,io,x,y,z,ea⟩:=aI7 h1;let⟨xn,en,r3,x',y',z',eb⟩:=aI7 h2;rw[ea] at hA eo;rw[eb] at hA en;let⟨s0,v0,w0,r1⟩:WO PP cf 0 [o1 3<|.box<|tp 0,o1 4<|.box<|tp 1,o1 6<|.mov<|.lit<|.bool false] ⟨tm,[]⟩ λs=>s.heap=[.blk 3 [[x,y,z]],.blk 3 [[x',y',z']]]/\At 30 [(6,.lit<|.bool false),(4,.ptr 1 1 0 0),(3,.ptr 0 1 0 0),(0,.agg [x,y,z]),(1,.agg [x',y',z']),(2,iv m)] s.tmps:=
  AO.op hA (aQ0<|hA.get rfl) λtm h=>AO.op h (aQ0<|h.get rfl) λtm h=>AO.op (v:=.lit<|.bool false) (H':=[.blk 3 [[x,y,z]],.blk 3 [[x',y',z']]]) h rfl λtm h=>AO.nil h ⟨rfl,h⟩
 refine Xk ?_;refine Xc ?_;show wpOps PP (fF Rg0) _ (List.range' 0 3) a3 (eQ c).w;refine Ca (ops:=fF Rg0) (fl:=0) G I [o1 3<|.box<|tp 0,o1 4<|.box<|tp 1,o1 6<|.mov<|.lit<|.bool false] ((List.range 3).map<|iV Rg0) 0 (eQ c) a3 tm s0 (by kernel_rfl) (MB<|by kernel_rfl) z3 f1 (ZG _) v0 ?_;intro b1 c1 e1 t1 y1 D d1;have hh0:s0.heap[0]?=some (.blk 3 [[x,y,z]]):=by rw[w0];rfl
 have hh1:s0.heap[1]?=some (.blk 3 [[x',y',z']]):=by rw[w0];rfl
 let⟨s1,v1,w1,O⟩:WO PP cf 0 [o1 10<|.load true 3<|tp 3,o1 11<|.callB 214 [tp 10],om 7 11] s0 λs=>s.heap=s0.heap/\At 30 [(7,J),(11,J),(10,.agg [x,y,z]),(6,.lit<|.bool false),(4,.ptr 1 1 0 0),(3,.ptr 0 1 0 0),(0,.agg [x,y,z]),(1,.agg [x',y',z']),(2,iv m)] s.tmps:=by
  exact AO.op (v:=.agg [x,y,z]) (H':=s0.heap) r1 (Ry (agg:=true) (n:=3) (r1.get (k:=3) rfl) hh0 rfl rfl (Zf 3) rfl) λtm h=>AO.op h (eo<|h.get rfl) λtm h=>AO.mov h rfl λtm h=>AO.nil h ⟨rfl,h⟩
 show (Code.seq (.region 1 (fF Rg1) false) _).wp PP _ b1 c1.w;refine Xk ?_;refine Xc ?_;show wpOps PP (fF Rg1) _ (List.range' 0 3) b1 c1.w;refine Ca (ops:=fF Rg1) (fl:=0) G I [o1 10<|.load true 3<|tp 3,o1 11<|.callB 214 [tp 10],om 7 11] ((List.range 3).map<|iV Rg1) 0 c1 b1 s0.tmps s1 (by kernel_rfl) (MB<|by kernel_rfl) y1 D (ZG _) (by rw[e1];exact v1) ?_;intro b2 c2 e2 t2 x2 m1 d2;show (Code.seq (.seq (.region 2 (fF Rg2) false)<|.block 0<|.loop BD) _).wp PP _ b2 c2.w;refine Xk ?_;refine Xk ?_;refine Xc ?_;show wpOps PP (fF Rg2) _ [0,1,2] b2 c2.w;rw[Y3];refine kT (fl:=0) (o:=iV Rg2 0) (ao:=o1 12<|.load true 3<|tp 4) (st':=⟨s1.tmps.set 12<|.agg [x',y',z'],s0.heap⟩) G I x2 m1 (ZG _) (by kernel_rfl) (by kernel_rfl) (by
  rw[e2,w1];simp only[cH,eD,Ry (agg:=true) (n:=3) (P:=PP) (cf:=cf) (fl:=0) (v:=.agg [x',y',z']) (O.get (k:=4) rfl) hh1 rfl rfl (Zf 3) rfl,hM]) ?_
 intro b3 c3 e3 t3 y3 p1 d3 _;have x1:=O.set (k:=12) (v:=.agg [x',y',z']) rfl;rw[Y3];refine kT (fl:=0) (o:=iV Rg2 1) (ao:=o1 13<|.callB 214 [tp 12]) (st':=⟨(s1.tmps.set 12<|.agg [x',y',z']).set 13 xn,s0.heap⟩) G I y3 p1 (ZG _) (by kernel_rfl) (by kernel_rfl) (by
  rw[e3];simp only[cH,eD,en<|x1.get (k:=12) rfl,hM]) ?_
 intro b4 f e4 t4 s2 i2 d4 _;have l3:=x1.set (k:=13) (v:=xn) rfl;have tot:bW 0 (eQ c) f:=t1.trans<|t2.trans<|t3.trans t4;have j1:BM none (eQ c).w f.w:=qO tot λ_=>rfl;have u1:b4.defers=[]:=d4.trans<|d3.trans<|d2.trans<|d1.trans n1;rw[Y3];have n3:PP.underlying 171=some (.map 3 3):=by kernel_rfl
 have w3:(iV Rg2 2).op=.range 171 (.tmp 13):=by kernel_rfl
 have m2:(iV Rg2 2).dst=some 14:=by kernel_rfl
 let⟨u13,k13,x3⟩:=i2.2 13 xn<|qQ l3 rfl<|by decide
 have i1:b4.eval (.tmp 13)=u13:=by simp[Act.eval,Yf,k13]
 have u2:=aKW r3 x3;have L:=TR.put (d:=some 14) i2<|RV.lit<|.pointer<|some ⟨f.w.heap.size,0,none⟩;have Z:=l3.set (k:=14) (v:=.lit<|.pointer<|some ⟨f.w.heap.size,0,none⟩) rfl;have N:(b4.put (some 14)<|.pointer<|some ⟨f.w.heap.size,0,none⟩).defers=b4.defers:=hJ _ _ _;have h3:∀E,lE f E->¬(eQ f).X E:=λE h e=>e.elim h.1 λ⟨id,hid⟩=>h.2 id hid;have R:∀ob:Obj,LI (eQ f).X f.w.heap.size m J (f.w.alloc ob)<|b4.put (some 14)<|.pointer<|some ⟨f.w.heap.size,0,none⟩:=by
  intro ob;have ba:=SA f.w ob;have up:∀{x:AV} {v:Value},RP f.w (lE f) x v->RP (f.w.alloc ob) (lE<|cW (eQ f).X f.w.heap.size<|f.w.alloc ob) x v:=λh=>h.mono λE o hi hb=>by
   have C:=iK hb;exact⟨GY.2 ⟨h3 E hi,by omega⟩,(ba.frame E C<|by simp).trans hb⟩
  refine⟨λg cs y2=>?_,λk hk=>?_,?_,?_,?_,?_,?_⟩
  .let⟨cc,T,fz,M,U,Q,g3,g4,g5⟩:=s2.gl g cs y2;have C:=iK Q;exact⟨cc,T,fz,M,GY.2 ⟨h3 g U,by omega⟩,(ba.frame g C<|by simp).trans Q,g3,g4,λj x B=>up<|g5 j x B⟩
  .have:f.w.heap.size<=k:=ZB ba.size hk;exact (Bb s2).fresh k this
  .show f.w.heap.size<(f.w.heap.push ob).size;rw[Xu];exact Wk _
  .rw[<-L.1];exact Z.ln
  .let⟨v,U,Q⟩:=L.2 2 _<|qQ Z rfl<|by decide
   rw[U,Q.lit_inv]
  .let⟨v,U,Q⟩:=L.2 14 _<|qQ Z rfl<|by decide
   rw[U,Q.lit_inv]
  .let⟨v,U,Q⟩:=L.2 7 J<|qQ Z rfl<|by decide
   exact⟨v,U,up<|aKW io Q⟩
 have w2:∀(W:World) (a':Act) (x:Bool),LI (eQ f).X f.w.heap.size m J W a'->BM (some f.w.heap.size) (f.w) W->a'.tmps[6]?=some (.bool x)->a'.defers=[]->x=sdB old m q->bodyPost PP Tryz.f112 (λe w'=>e=.returned (.bool<|sdB old m q)/\BM none c.w w') .ret a' W:=by
  intro W a' x F j2 h6 hd B;refine⟨hd,.bool x,aRe F.sim rfl rfl F.tr (aAK m J _).ln h6,by rw[B],j2.out j1<|j1.size⟩
 have f3:∀(W:World) (a':Act),LI (eQ f).X f.w.heap.size m J W a'->BM (some f.w.heap.size) f.w W->a'.defers=[]->sdB old m q=false->(Code.seq (.region 7 (fF RgE) false) .ret).wp PP (bodyPost PP Tryz.f112 λe w'=>e=.returned (.bool<|sdB old m q)/\BM none c.w w') a' W:=by
  intro W a' F j2 hd B;refine Xk ?_;refine Xc ?_;show wpOps PP (fF RgE) _ (List.range' 0 1) a' (cW (eQ f).X f.w.heap.size W).w;refine Ca (ops:=fF RgE) (fl:=0) G I [o1 6<|.mov<|.lit<|.bool false] ((List.range 1).map<|iV RgE) 0 (cW (eQ f).X f.w.heap.size W) a' (Ni<|l0 m J f.w.heap.size) ⟨(Ni<|l0 m J f.w.heap.size).set 6<|.lit<|.bool false,[]⟩ (by kernel_rfl) (MB<|by kernel_rfl) F.sim F.tr (ZG _) rfl ?_;intro a6 c6 e6 n2 hs6 f2 d6;have v2:=(aAK m J f.w.heap.size).set (v:=.lit<|.bool false) (k:=6) rfl;have l66:=F.ops io n2 v2 f2 rfl rfl rfl;let⟨u,U,Q⟩:=f2.2 6 _<|qQ v2 rfl<|by decide
  exact wp_ret<|w2 c6.w a6 false l66 (j2.trans (qO n2 λ_=>rfl).of) (by rw[U,Q.lit_inv]) (d6.trans hd) B.symm
 rcases PR r3 with⟨rfl,rfl⟩ | rfl
 .cases u2;refine ML (o:=iV Rg2 2) (w':=f.w.alloc<|.mapIter none 0 #[] 0) (v:=.pointer<|some ⟨f.w.heap.size,0,none⟩) (by kernel_rfl) (by kernel_rfl) (by simp[execOp,w3,i1,run_range_nilMap (P:=PP) f.w 171 3 3 n3]) ?_;rw[m2];have F:=R<|.mapIter none 0 #[] 0;have j3:=run_next_nilMap (P:=PP) f.w (iV Rg3 0).type 0 0 #[];have S:BM (some f.w.heap.size) f.w<|f.w.alloc<|.mapIter none 0 #[] 0:=(SA _ _).of;generalize f.w.alloc (.mapIter none 0 #[] 0)=W at F j3 S |-;generalize b4.put (some 14) (.pointer<|some ⟨f.w.heap.size,0,none⟩)=a5 at F N |-;show (Code.block 0<|.loop BD).wp PP _ a5 W;refine WJ ?_;refine XA 1 ?_;rw[rounds_succ,aQN];refine Xk ?_;refine Xc ?_;show wpOps PP (fF Rg3) _ [0,1] a5 W;rw[Y3];have ho3:(iV Rg3 0).op=.next (.tmp 14) false:=by kernel_rfl
  have hd3:(iV Rg3 0).dst=some 15:=by kernel_rfl
  have o2:a5.eval (.tmp 14)=.pointer (some ⟨f.w.heap.size,0,none⟩):=by simp[Act.eval,Yf,F.t14]
  refine ML (o:=iV Rg3 0) (v:=.tuple #[.bool false]) (w':=W) (by kernel_rfl) (by kernel_rfl) (by simp[execOp,ho3,o2,j3]) ?_;have D:=TR.put (d:=some 15) F.tr<|Kf (c:=cW (eQ f).X f.w.heap.size W) [.bool false];have O:At 30 ((15,.tup [.lit<|.bool false])::l0 m J f.w.heap.size)<|hM (Ni<|l0 m J f.w.heap.size) (some 15)<|.tup<|[.bool false].map .lit:=(aAK m J _).set rfl;rw[hd3,Y3];have k3:(a5.put (some 15)<|.tuple #[.bool false]).defers=a5.defers:=hJ _ _ _;generalize a5.put (some 15) (.tuple #[.bool false])=a1 at D k3 |-;generalize hM (Ni<|l0 m J f.w.heap.size) (some 15) (.tup<|[.bool false].map .lit)=tm1 at D O;refine kT (fl:=0) (c:=cW (eQ f).X f.w.heap.size W) (o:=iV Rg3 1) (ao:=o1 16<|.extract (tp 15) 0) (st':=⟨tm1.set 16<|.lit<|.bool false,[]⟩) G I F.sim D (ZG _) (by kernel_rfl) (by kernel_rfl) (by simp only[cH,eD,aL,O.get (k:=15) rfl];rfl) ?_;intro a2 m3 e2' s3 hs2' V z2 _;have u3:=O.set (v:=.lit<|.bool false) (k:=16) rfl;have l2:=F.ops io s3 u3 V rfl rfl rfl;show ((Code.seq (.cond (.tmp 16) .skip<|.exit 0) _)).wp PP _ a2 m3.w;refine Xk ?_;refine XJ (v8 V (t:=16)<|qQ u3 rfl<|by decide) ?_;refine wp_exit ?_;exact f3 m3.w a2 l2 (S.trans (qO s3 λ_=>rfl).of) (z2.trans<|k3.trans<|N.trans u1) rfl
 .cases u2 with
  | rmp ents E es l M q1 q2 q3 q4 q5 q6=>
  refine ML (o:=iV Rg2 2) (w':=f.w.alloc<|.mapIter (some E) l #[] l) (v:=.pointer<|some ⟨f.w.heap.size,0,none⟩) (by kernel_rfl) (by kernel_rfl) (by simp[execOp,w3,i1,run_range_map (P:=PP) f.w 171 3 3 E es l n3 q2]) ?_;rw[m2];have F:=R<|.mapIter (some E) l #[] l;have C:=iK q2;have r2:(f.w.alloc<|.mapIter (some E) l #[] l).heap[f.w.heap.size]?=some (.mapIter (some E) l #[] l):=Wq f.w _;have o3:(f.w.alloc<|.mapIter (some E) l #[] l).heap[E]?=some (.map es l):=(heap_alloc_old f.w _ C).trans q2;have S:BM (some f.w.heap.size) f.w<|f.w.alloc<|.mapIter (some E) l #[] l:=(SA _ _).of;have hz:es.size=q.length:=by rw[q3,ZO]
  have v3:∀(i:Nat) (p:Int×Int),q[i]?=some p->∃e,es[i]?=some e/\Ent e p.1 p.2:=by
   intro i p hp;have B:(q.map λe=>(Value.int .i64 e.1,AV.lit<|.int .i64 e.2))[i]?=some (.int .i64 p.1,.lit<|.int .i64 p.2):=by rw[Zk,hp];rfl
   let⟨U,Q⟩:=q5 i _ _ B;have g3:=q6 i _ _ B;refine⟨M i,U,Q,?_⟩;generalize (M i).val=vv at g3;cases g3;rfl
  have hE:∀e∈es.toList,∃p∈q,Ent e p.1 p.2:=by
   intro e he;let⟨i,hi⟩:=Yi.1 he;rw[Z8] at hi;have C:i<q.length:=by
    rcases ZI i q.length with h | h
    .exact h
    .rw[Yb<|by omega] at hi;cases hi
   let⟨e',h1,h2⟩:=v3 i _<|Zb C;rw[hi] at h1;cases h1;exact⟨_,ZP C,h2⟩
  generalize f.w.alloc (.mapIter (some E) l #[] l)=W at F r2 o3 S |-;generalize b4.put (some 14) (.pointer<|some ⟨f.w.heap.size,0,none⟩)=a5 at F N |-;show (Code.block 0<|.loop BD).wp PP _ a5 W;refine WJ ?_;refine XA ((leftOf es #[]).size+1) ?_;refine aA1 G I io (W0:=f.w) (ds:=[]) (b:=E) (r:=f.w.heap.size) (by omega) q4 (λe he=>by let⟨p,_,h⟩:=hE e he;exact⟨_,_,h⟩) (λa' W' l1 b1 p3 d1=>?_) (λa' W' e k v he hv hg l1 h1 b1 d1=>?_) _ #[] l W a5 (Wk _) F r2 o3 (Zf _) S (N.trans u1) λx _ B=>by simp at B
  .refine f3 W' a' l1 b1 d1 ?_;cases hh:sdB old m q with
   | false=>rfl
   | true=>
    let⟨p,hp,p2⟩:=(aBA q).1 hh;let⟨i,hi⟩:=Yi.1 hp;let⟨e,h1,h2⟩:=v3 i p hi;rw[p3 e (by rw[<-Z8] at h1;exact Zg h1) p.1 p.2 h2] at p2;cases p2
  .let⟨p,hp,h2⟩:=hE e he;have e1:k=p.1:=by have:=hv.1.symm.trans h2.1;cases this;rfl
   have e2:v=p.2:=by have:=hv.2.symm.trans h2.2;cases this;rfl
   subst e1 e2;exact w2 W' a' true l1 b1 h1 d1 ((aBA q).2 ⟨p,hp,hg⟩).symm
end
section
open Go.Proofs Go.RowKit Go.Shelf Go.Sort
theorem mixed: PP.follows .mixedOrders=true:=by kernel_rfl
def rl: List Nat->Nat->Nat
 | a::b::r,n=>match Nat.beq a n with
  | true=>b
  | false=>rl r n
 | _,n=>n
theorem qP{P:Program}{f:FuncId}{B:Func} (h:((((P.funcs[f]?).map (·.name)).getD "")== "runtime.NumGoroutine")=false) (k:P.funcs[f]?=some {B with name:=((P.funcs[f]?).map (·.name)).getD ""}):Bears P f B:=⟨_,h,k⟩
def aOH: Ren:=⟨(rl [6,193,15,207,14,227,28,245,29,246,20,262,21,263,22,264,23,265,24,266,25,267,26,268,27,269,46,297,47,280,48,281,49,298,50,299,57,309]),(rl [22,186,24,191,25,225,39,112,53,229,55,272,46,265,45,264,50,92,66,296,70,300,76,313,77,314]),id⟩
theorem aLS: SlLaysF0.n6 PP aOH:=by
 constructor<;>first | kernel_rfl | exact λ_=>by kernel_rfl | exact qP (by kernel_rfl) (by kernel_rfl)
def aOG: Ren:=⟨(rl [6,216,15,207,14,252,28,245,29,246,20,285,21,286,22,287,23,288,24,289,25,290,26,291,27,292,46,304,47,280,48,281,49,305,50,306,57,311]),(rl [22,241,24,247,25,249,39,112,53,229,55,272,46,265,45,264,50,92,66,296,70,300,76,313,77,314]),id⟩
theorem aLR: SlLaysF0.n6 PP aOG:=by
 constructor<;>first | kernel_rfl | exact λ_=>by kernel_rfl | exact qP (by kernel_rfl) (by kernel_rfl)
def aOJ: Ren:=⟨(rl [6,189,15,207,14,226,28,245,29,246,20,254,21,255,22,256,23,257,24,258,25,259,26,260,27,261,46,294,47,280,48,281,49,295,50,296,57,308]),(rl [22,151,24,210,25,223,39,112,53,229,55,272,46,265,45,264,50,92,66,296,70,300,76,313,77,314]),id⟩
theorem aLU: SlLaysF0.n6 PP aOJ:=by
 constructor<;>first | kernel_rfl | exact λ_=>by kernel_rfl | exact qP (by kernel_rfl) (by kernel_rfl)
def aIg: Ren:=⟨(rl [6,203,15,207,14,233,28,245,29,246,20,271,21,272,22,273,23,274,24,275,25,276,26,277,27,278,46,300,47,280,48,281,49,301,50,302,57,310]),(rl [22,32,24,3,25,107,39,112,53,229,55,272,46,265,45,264,50,92,66,296,70,300,76,313,77,314]),id⟩
theorem aRW: SlLaysF.n6 PP aIg:=by
 constructor<;>first | kernel_rfl | exact λ_=>by kernel_rfl | exact qP (by kernel_rfl) (by kernel_rfl)
def aLQ: Ren:=⟨(rl [189,171,125,207,257,206,128,245,129,246,294,237,295,238,296,239,297,240,298,241,299,242,216,230,300,243,301,244,328,279,329,280,330,281,331,282,332,283,215,81,343,303]),(rl [28,32,46,112,51,229,53,272,183,265,182,264,131,92,218,296,222,300,228,313,229,314]),id⟩
theorem aIf: Lays.n189 PP aLQ:=by
 constructor<;>first | kernel_rfl | exact λ_=>by kernel_rfl
def aLT: Ren:=⟨(rl [144,83,143,114,219,139,217,165,225,166,267,168,266,200,314,201,224,167]),(rl [46,112,146,230,51,229]),id⟩
theorem aOI: Lays.n144 PP aLT:=by
 constructor<;>first | kernel_rfl | exact λ_=>by kernel_rfl
def aTR: Ren:=⟨rl [22,46,29,70,30,71],rl [24,22,9,49],id⟩
theorem aQW: aDa PP aTR 5 #[.int .i64 0,.int .i64 0,.int .i64 0,.string ⟨#[]⟩,.slice none 0 0] 64:=by
 constructor<;>first | kernel_rfl | exact λ_=>by kernel_rfl | exact qP (by kernel_rfl) (by kernel_rfl) | decide | exact λargs w=>run_callFunc_extern Tryz.func70 (by kernel_rfl) (by kernel_rfl) (by kernel_rfl) (e:=Extern.SlicesOverlaps.overlaps #[22,22] #[4]) (by kernel_rfl) args w
def aTS: Ren:=⟨rl [22,127,29,147,30,148],rl [24,30,9,63],id⟩
theorem aRM: aDa PP aTS 3 #[.int .i64 0,.int .i64 0,.int .i64 0] 24:=by
 constructor<;>first | kernel_rfl | exact λ_=>by kernel_rfl | exact qP (by kernel_rfl) (by kernel_rfl) | decide | exact λargs w=>run_callFunc_extern Tryz.func147 (by kernel_rfl) (by kernel_rfl) (by kernel_rfl) (e:=Extern.SlicesOverlaps.overlaps #[30,30] #[4]) (by kernel_rfl) args w
def aTT: Ren:=⟨rl [22,136,29,163,30,164],rl [24,35,9,104],id⟩
theorem aSj: aDa PP aTT 5 #[.int .i64 0,.int .i64 0,.int .i64 0,.string ⟨#[]⟩,.slice none 0 0] 64:=by
 constructor<;>first | kernel_rfl | exact λ_=>by kernel_rfl | exact qP (by kernel_rfl) (by kernel_rfl) | decide | exact λargs w=>run_callFunc_extern Tryz.func163 (by kernel_rfl) (by kernel_rfl) (by kernel_rfl) (e:=Extern.SlicesOverlaps.overlaps #[35,35] #[4]) (by kernel_rfl) args w
def aTU: Ren:=⟨rl [22,149,29,180,30,181],rl [24,31,9,120],id⟩
theorem aSL: aDa PP aTU 6 #[.int .i64 0,.int .i64 0,.int .i64 0,.slice none 0 0,.int .i64 0,.int .i64 0] 64:=by
 constructor<;>first | kernel_rfl | exact λ_=>by kernel_rfl | exact qP (by kernel_rfl) (by kernel_rfl) | decide | exact λargs w=>run_callFunc_extern Tryz.func180 (by kernel_rfl) (by kernel_rfl) (by kernel_rfl) (e:=Extern.SlicesOverlaps.overlaps #[31,31] #[4]) (by kernel_rfl) args w
theorem I4: nH PP T:=aEA checked
theorem aNF: O1 PP 171:=λblk off cap zs w h1 h2 h3=>Any.slices_Sort_int aIf blk off cap zs w h1 h2 h3
theorem aKB: UE PP 171:=λp cap w=>Any.slices_Sort_int_none aIf p cap w
theorem aOa: Lq PP true 193 4:=Ol aLS Tryz.isAgg191 Tryz.sizeOf191
theorem aLe: Jj PP 193:=Bs aLS
theorem aNR: Lq PP true 216 2:=Ol aLR Tryz.isAgg247 Tryz.sizeOf247
theorem aKP: Jj PP 216:=Bs aLR
theorem aP4: Lq PP true 189 4:=Ol aLU Tryz.isAgg210 Tryz.sizeOf210
theorem aMV: Jj PP 189:=Bs aLU
theorem aOQ: Lq PP false 203 1:=aD0 aRW
theorem aMg: Jj PP 203:=Bs (ρ:=aIg) (by constructor<;>first | kernel_rfl | exact λ_=>by kernel_rfl | exact qP (by kernel_rfl) (by kernel_rfl))
variable {H H':aW}{args:List AV}{c:dA}{cf:CF}{f fl m:Nat}{r:AV}{s vi:Nat}{vs:Array Value}
theorem aKG(hl:fl<=m/\m<=H.length)(h:Fx fl args H=some (r,H')): H'.take fl=H.take fl/\m<=H'.length:=by
 rcases NC h with⟨x,rfl,he,rfl,rfl⟩ | ⟨id,l,rfl,hne,hfl,hob,hbig,rfl,rfl⟩
 .exact⟨rfl,hl.2⟩
 .refine⟨?_,by rw[Yr];exact hl.2⟩
  apply Ym
  intro i
  rw[Zs,Zs]
  split
  .rw[Zv (by omega)]
  .rfl
theorem n5(hl:fl<=m/\m<=H.length)(h:Gz s fl args H=some (r,H')): H'.take fl=H.take fl/\m<=H'.length:=by
 obtain⟨id,id2,i,es,row,_,h1,h2,h3,h4,h5,h6,h7,rfl⟩:=G4 h
 exact⟨X6 h1,by simpa using hl.2⟩
theorem aAY(h:Rz fl args H=some (r,H')):
 ∃s t:ByteArray,args=[.lit (.string s),.lit (.string t)]/\s.size<4294967281/\r=.lit (.bool (Lib.contains s.data.toList t.data.toList))/\H'=H:=by
 unfold Rz at h
 repeat' split at h
 all_goals first
  | (cases h;done)
  | skip
 rename_i hb
 cases h
 exact⟨_,_,rfl,Zj hb,rfl,rfl⟩
section
theorem aMI(h:Rz fl args c.H=some (r,H'))(hs:bX (aJ T) c)(hargs:lQ (aJ T) c args vs): Calls PP 83 vs c.w λe w'=>∃v c',e=.returned v/\c'.w=w'/\c'.H=H'/\c'.X=c.X/\bW fl c c'/\bX (aJ T) c'/\RV (aJ T) c' r v:=by
 obtain⟨s,t,rfl,hsz,rfl,rfl⟩:=aAY h
 have hv:vs=#[.string s,.string t]:=by
  obtain⟨h1,h2⟩:=hargs
  obtain⟨v0,g0,k0⟩:=h2 0 _ rfl
  obtain⟨v1,g1,k1⟩:=h2 1 _ rfl
  have e0:=k0.lit_inv
  have e1:=k1.lit_inv
  subst e0 e1
  apply XQ
  .simpa using h1
  .intro i hi1 hi2
   have hi3:i<2:=by simpa using hi2
   match i,hi3 with
   | 0,_=>exact ZR ((Z6 hi1).symm.trans g0)
   | 1,_=>exact ZR ((Z6 hi1).symm.trans g1)
 subst hv
 obtain⟨cc,t',fz,vals,_,hheap,hok,_,_⟩:=hs.gl 1 [.undef] rfl
 obtain⟨m,hm⟩:=hok rfl
 have hcell:c.w.cell? ⟨1,0,none⟩=some (.int .i64 m):=by simp[World.cell?,hheap,hm]
 exact (Any.strings_Contains aOI s t m c.w hsz hcell).mono λe w' ⟨he,hw⟩=>⟨_,c,he,hw.symm,rfl,rfl,bW.refl fl c,hs,.lit _⟩
theorem n4{zb g:Nat}{ρ:Ren}{zs:Array Value}(L:aDa PP ρ s zs zb)(hg:ρ.f 22=g)(hz:zb<=100000)(h:Gz s fl args c.H=some (r,H'))(hs:bX (aJ T) c)(hargs:lQ (aJ T) c args vs): Calls PP g vs c.w λe w'=>∃v c',e=.returned v/\c'.w=w'/\c'.H=H'/\c'.X=c.X/\bW fl c c'/\bX (aJ T) c'/\RV (aJ T) c' r v:=by
 obtain⟨id,id2,i,es,row,rfl,h1,h2,h3,h4,h5,h6,rfl,rfl⟩:=G4 h
 subst hg
 exact (aSd L hz hs h1 h2 h3 h4 h5 h6 hargs).mono λe w' ⟨v,he,c',k1,k2,k3,k4,k5,k6⟩=>⟨v,c',he,k1,k2,k3,k4,k5,k6⟩
theorem aK6(hcf:Bh PP T cf)(h:sdA cf 214 args c.H=some (r,H'))(hs:bX (aJ T) c)(hargs:lQ (aJ T) c args vs): Calls PP 112 vs c.w λe w'=>∃v c',e=.returned v/\c'.w=w'/\c'.H=H'/\c'.X=c.X/\bW fl c c'/\bX (aJ T) c'/\RV (aJ T) c' r v:=by
 obtain⟨a,b,m,old,new,rfl,h1,h2,rfl,rfl⟩:=j8 h
 refine (aFE hcf I4 hs h1 h2 hargs).mono λe w' ⟨he,hb⟩=>?_
 have st:bW 0 (eQ c) ⟨w',(eQ c).X,λ_=>none,[]⟩:={ X:=rfl,os:=hb.os,tape:=hb.tape,output:=hb.output,drawn:=hb.drawn,size:=hb.size,len:=Zf _,frame:=λk hk _=>hb.frame k hk (by simp),img:=(λid b h=>by cases h),blkS:=(λid s n h=>by cases h),mpS:=(λid ⟨o,h,_⟩=>by cases h),floor:=λid h=>absurd h (YE _) }
 exact⟨_,pD c ⟨w',(eQ c).X,λ_=>none,[]⟩,he,rfl,rfl,rfl,xP hs st,Jh hs st,.lit _⟩
end
theorem aA3(h:Mg cf fl vi args H=some (r,H')): (vi=96/\sdA cf 214 args H=some (r,H'))\/(vi=52/\Gz 5 fl args H=some (r,H'))\/(vi=112/\Gz 3 fl args H=some (r,H'))\/(vi=122/\Gz 5 fl args H=some (r,H'))\/(vi=135/\Gz 6 fl args H=some (r,H'))\/(vi=99/\Rz fl args H=some (r,H'))\/(vi=166/\vL cf true 4 fl args H=some (r,H'))\/(vi=181/\vL cf true 2 fl args H=some (r,H'))\/(vi=168/\vL cf true 4 fl args H=some (r,H'))\/(vi=174/\vL cf false 1 fl args H=some (r,H'))\/(vi=149/\Fx fl args H=some (r,H')):=by
 unfold Mg at h
 have e:(aF.prim vi:Option aAl)=(match Nat.beq vi 96 with | true=>some (aB3 214) | false=>(match Nat.beq vi 52 with | true=>some (oV (Gz 5)) | false=>(match Nat.beq vi 112 with | true=>some (oV (Gz 3)) | false=>(match Nat.beq vi 122 with | true=>some (oV (Gz 5)) | false=>(match Nat.beq vi 135 with | true=>some (oV (Gz 6)) | false=>(match Nat.beq vi 99 with | true=>some (oV Rz) | false=>(match Nat.beq vi 166 with | true=>some (xZ true 4) | false=>(match Nat.beq vi 181 with | true=>some (xZ true 2) | false=>(match Nat.beq vi 168 with | true=>some (xZ true 4) | false=>(match Nat.beq vi 174 with | true=>some (xZ false 1) | false=>(match Nat.beq vi 149 with | true=>some (oV Fx) | false=>none))))))))))):=rfl
 rw[e] at h
 cases hb0:Nat.beq vi 96 with
 | true=>rw[hb0] at h;exact .inl ⟨Zc hb0,h⟩
 | false=>
  rw[hb0] at h
  cases hb1:Nat.beq vi 52 with
  | true=>rw[hb1] at h;exact .inr (.inl ⟨Zc hb1,h⟩)
  | false=>
   rw[hb1] at h
   cases hb2:Nat.beq vi 112 with
   | true=>rw[hb2] at h;exact .inr (.inr (.inl ⟨Zc hb2,h⟩))
   | false=>
    rw[hb2] at h
    cases hb3:Nat.beq vi 122 with
    | true=>rw[hb3] at h;exact .inr (.inr (.inr (.inl ⟨Zc hb3,h⟩)))
    | false=>
     rw[hb3] at h
     cases hb4:Nat.beq vi 135 with
     | true=>rw[hb4] at h;exact .inr (.inr (.inr (.inr (.inl ⟨Zc hb4,h⟩))))
     | false=>
      rw[hb4] at h
      cases hb5:Nat.beq vi 99 with
      | true=>rw[hb5] at h;exact .inr (.inr (.inr (.inr (.inr (.inl ⟨Zc hb5,h⟩)))))
      | false=>
       rw[hb5] at h
       cases hb6:Nat.beq vi 166 with
       | true=>rw[hb6] at h;exact .inr (.inr (.inr (.inr (.inr (.inr (.inl ⟨Zc hb6,h⟩))))))
       | false=>
        rw[hb6] at h
        cases hb7:Nat.beq vi 181 with
        | true=>rw[hb7] at h;exact .inr (.inr (.inr (.inr (.inr (.inr (.inr (.inl ⟨Zc hb7,h⟩)))))))
        | false=>
         rw[hb7] at h
         cases hb8:Nat.beq vi 168 with
         | true=>rw[hb8] at h;exact .inr (.inr (.inr (.inr (.inr (.inr (.inr (.inr (.inl ⟨Zc hb8,h⟩))))))))
         | false=>
          rw[hb8] at h
          cases hb9:Nat.beq vi 174 with
          | true=>rw[hb9] at h;exact .inr (.inr (.inr (.inr (.inr (.inr (.inr (.inr (.inr (.inl ⟨Zc hb9,h⟩)))))))))
          | false=>
           rw[hb9] at h
           cases hb10:Nat.beq vi 149 with
           | true=>rw[hb10] at h;exact .inr (.inr (.inr (.inr (.inr (.inr (.inr (.inr (.inr (.inr (⟨Zc hb10,h⟩))))))))))
           | false=>
            rw[hb10] at h
            cases h
theorem aOh: aGY PP T where
 fl:=λcf hcf fl m vi args H r H' hle hev=>by
  rcases aA3 hev with⟨_,h⟩ | ⟨_,h⟩ | ⟨_,h⟩ | ⟨_,h⟩ | ⟨_,h⟩ | ⟨_,h⟩ | ⟨_,h⟩ | ⟨_,h⟩ | ⟨_,h⟩ | ⟨_,h⟩ | ⟨_,h⟩
  .obtain⟨_,_,_,_,_,_,_,_,_,rfl⟩:=j8 h
   exact⟨rfl,hle.2⟩
  .exact n5 hle h
  .exact n5 hle h
  .exact n5 hle h
  .exact n5 hle h
  .obtain⟨_,_,_,_,_,rfl⟩:=aAY h
   exact⟨rfl,hle.2⟩
  .exact Om hle h
  .exact Om hle h
  .exact Om hle h
  .exact Om hle h
  .exact aKG hle h
 ok:=λcf hcf fl vi f args r H' c vs hev hf hs hfl hargs=>by
  rcases aA3 hev with⟨rfl,h⟩ | ⟨rfl,h⟩ | ⟨rfl,h⟩ | ⟨rfl,h⟩ | ⟨rfl,h⟩ | ⟨rfl,h⟩ | ⟨rfl,h⟩ | ⟨rfl,h⟩ | ⟨rfl,h⟩ | ⟨rfl,h⟩ | ⟨rfl,h⟩
  .obtain rfl:112=f:=ZR ((show aJ T 96=some 112 by kernel_rfl).symm.trans hf)
   exact aK6 hcf h hs hargs
  .obtain rfl:46=f:=ZR ((show aJ T 52=some 46 by kernel_rfl).symm.trans hf)
   exact n4 aQW rfl (by decide) h hs hargs
  .obtain rfl:127=f:=ZR ((show aJ T 112=some 127 by kernel_rfl).symm.trans hf)
   exact n4 aRM rfl (by decide) h hs hargs
  .obtain rfl:136=f:=ZR ((show aJ T 122=some 136 by kernel_rfl).symm.trans hf)
   exact n4 aSj rfl (by decide) h hs hargs
  .obtain rfl:149=f:=ZR ((show aJ T 135=some 149 by kernel_rfl).symm.trans hf)
   exact n4 aSL rfl (by decide) h hs hargs
  .obtain rfl:83=f:=ZR ((show aJ T 99=some 83 by kernel_rfl).symm.trans hf)
   exact aMI h hs hargs
  .obtain rfl:189=f:=ZR ((show aJ T 166=some 189 by kernel_rfl).symm.trans hf)
   exact HV hcf I4 (by simp) aP4 aMV h hs hargs
  .obtain rfl:216=f:=ZR ((show aJ T 181=some 216 by kernel_rfl).symm.trans hf)
   exact HV hcf I4 (by simp) aNR aKP h hs hargs
  .obtain rfl:193=f:=ZR ((show aJ T 168=some 193 by kernel_rfl).symm.trans hf)
   exact HV hcf I4 (by simp) aOa aLe h hs hargs
  .obtain rfl:203=f:=ZR ((show aJ T 174=some 203 by kernel_rfl).symm.trans hf)
   exact HV hcf I4 (by simp) aOQ aMg h hs hargs
  .obtain rfl:171=f:=ZR ((show aJ T 149=some 171 by kernel_rfl).symm.trans hf)
   exact aKF aNF aKB h hs hargs
end
section
open Go.Proofs
theorem own: ownKnob PP.godebug=none:=by kernel_rfl
theorem laid: laidOutB PP=true:=by kernel_rfl
def R4: List Value:=aQv (Go.Proofs.YtmcgghedgfkjiaaGreatDoor.Rows.laid_mapsheets_glyph_scripts)
theorem aMl{W:World}(hl:laidMetH Tryz.prog Rows.officeConvergesRow.laid W)(hsh:W.ShapedOpen Tryz.prog): tU (top W):=by
 intro g cs hcs
 match g with
 | 0=>
  obtain rfl:aNU=cs:=ZR hcs
  obtain⟨ps,hv,_,_⟩:laidMet Tryz.prog [("mapsheets/glyph.scripts",Rows.laid_mapsheets_glyph_scripts)] W:=hl
  obtain⟨g,t,cv,fuel,p,q,h1,h2,h3,h4,_,_⟩:=hv
  obtain rfl:0=g:=ZR ((show Tryz.prog.globalNamed "mapsheets/glyph.scripts"=some 0 by kernel_rfl).symm.trans h1)
  obtain rfl:147=t:=ZR ((show (Tryz.prog.globals[0]?).map (·.type)=some 147 by kernel_rfl).symm.trans h2)
  have hcv:cv.toList=R4:=aFC (m:=13) (e:=146) (ta:=21) (tb:=21) (tc:=3) (ka:=.i32) (kb:=.i32) (kc:=.i64) (f0:={ name:= "first",type:=21,offset:=0,embedded:=false,tag:= "",pkgPath:= "mapsheets/glyph",byteOffset:=0 }) (f1:={ name:= "last",type:=21,offset:=1,embedded:=false,tag:= "",pkgPath:= "mapsheets/glyph",byteOffset:=4 }) (f2:={ name:= "script",type:=3,offset:=2,embedded:=false,tag:= "",pkgPath:= "mapsheets/glyph",byteOffset:=8 }) (by kernel_rfl) (by kernel_rfl) (by kernel_rfl) (by kernel_rfl) rfl rfl rfl rfl rfl rfl (by kernel_rfl) (by kernel_rfl) (by kernel_rfl) (by kernel_rfl) (by kernel_rfl) (by kernel_rfl) h4
  have hheap:∃T fz,W.heap[0]?=some (.cells cv T fz):=by
   unfold World.var? at h3
   rw[h1] at h3
   simp only[Z2] at h3
   split at h3
   .rename_i c T fz hb
    cases h3
    exact⟨T,fz,hb⟩
   .cases h3
  obtain⟨T,fz,hheap⟩:=hheap
  have key:∀(j:Nat) (x:AV),aNU[j]?=some x->∃v,R4[j]?=some v/\bF v=true/\x=AV.lit v:=by
   have e:aNU=R4.map AV.lit:=by kernel_rfl
   have hs:R4.all bF=true:=by kernel_rfl
   intro j x hx
   rw[e,Zk,Zq] at hx
   obtain⟨v,h5,rfl⟩:=hx
   exact⟨v,h5,Yl.1 hs v (Zg h5),rfl⟩
  refine⟨cv,T,fz,λj=>(R4[j]?).getD undef,aB1 W 0,hheap,(λh=>absurd h (by decide)),?_,?_⟩
  .intro j x hx
   obtain⟨v,k1,k2,_⟩:=key j x hx
   have e:(R4[j]?).getD undef=v:=by rw[k1];rfl
   show cv[0+j]?=some ((R4[j]?).getD undef)/\bF ((R4[j]?).getD undef)=true
   rw[e,Z0,<-Z8,hcv]
   exact⟨k1,k2⟩
  .intro j x hx
   obtain⟨v,k1,_,rfl⟩:=key j x hx
   have e:(R4[j]?).getD undef=v:=by rw[k1];rfl
   show RP _ _ (AV.lit v) ((R4[j]?).getD undef)
   rw[e]
   exact .lit _
 | 1=>
  obtain rfl:[AV.undef]=cs:=ZR hcs
  obtain⟨m,hm⟩:=cell_of_shapedOpen_int (g:=1) (t:=3) (zero:=#[.int .i64 0]) (k:=.i64) hsh (Zl (by kernel_rfl)) (by kernel_rfl) rfl (by kernel_rfl) (by kernel_rfl) (by kernel_rfl)
  obtain⟨c,T,fz,hb,_,hc⟩:=cell?_inv hm
  refine⟨c,T,fz,λ_=>.int .i64 m,aB1 W 1,hb,λ_=>⟨m,hc⟩,?_,?_⟩
  .intro j x hx
   cases j with
   | zero=>exact⟨hc,rfl⟩
   | succ j=>simp at hx
  .intro j x hx
   cases j with
   | zero=>
    simp only[Zt,Za] at hx
    subst hx
    exact .undef _
   | succ j=>simp at hx
 | n+2=>cases hcs
end
section
variable {R:Type}(n:Nat)
noncomputable section
def Ss(n:Nat): (List aZ×Int)->((Bool->Option R)×Unit)->Unit->Option R:=λ(a,b) (c,_) _=>bnd (idx a b) λd=>cd ((ln d.Via) > 20) (c true)<|bnd (idx a b) λf=>cd ((ln f.Parts) > 20) (c true)<|bnd (idx a b) λg=>cd (((g.Name.size:Nat):Int) > 100) (c true)<|c false
def Lo:=fB Ss
def N5: Lc 11 0 1:=bO 0x92b7a7b82de8af39aaa9ad2 C0 [] [] @Ss
def Bd: (List aZ)->(Int->Option R)->((Unit->Option R)×(Unit->Option R)×Unit)->Int->Option R:=λa b (c,d,_) f=>cd (f<(ln a)) (cd (f<7) (bnd (Lo n (a,f)) λg=>cnd g (c ())<|b<|wr<|f+1)<|d ())<|d ()
def aCR:=qB Bd
def N6: Lc 11 0 0:=bL 0x7b96b2236693e5c1e260f6b37e C0 [⟨0,[cs N5]⟩] [] @Bd
def SF: Nat->(List aZ)->Option Bool
 | 0,_=>none
 | n+1,a=>bnd2 (aCR n a 0) (λ_=>some false) λb=>bnd (some b) λ_=>cd ((ln a)<=6) (some true)<|some false
def aFn: Kn:=bH 11 0x3c4ded C0 [⟨0,[N6]⟩] [] SF
abbrev C1:=aFn::C0
def Sr: (List aY×Int)->((Bool->Option R)×Unit)->Unit->Option R:=λ(a,b) (c,_) _=>bnd (idx a b) λd=>cd (((d.Source.size:Nat):Int) > 100) (c true)<|bnd (idx a b) λf=>bnd (SF n f.Edits) λg=>cnd g (c false)<|c true
def MD:=fB Sr
def N2: Lc 2 0 1:=bO 0x92b7a7b5e0f6ef70dbe4b75 C1 [] [] @Sr
def Bc: (List aY)->(Int->Option R)->((Unit->Option R)×(Unit->Option R)×Unit)->Int->Option R:=λa b (c,d,_) f=>cd (f<(ln a)) (bnd (MD n (a,f)) λg=>cnd g (c ())<|b<|wr<|f+1)<|d ()
def aCQ:=qB Bc
def N3: Lc 2 0 0:=bL 0x289ad31afd04 C1 [⟨0,[cs N2]⟩] [] @Bc
def Tz: Nat->(List aY)->Option Bool
 | 0,_=>none
 | n+1,a=>cd ((ln a) > 14) (some false)<|bnd2 (aCQ n a 0) (λ_=>some false) λb=>bnd (some b) λ_=>some true
def aFm: Kn:=bH 2 0x2cee67b6c C1 [⟨0,[N3]⟩] [] Tz
abbrev C2:=aFm::C1
def Kv: Nat->Int->Option (bK×Int)
 | 0,_=>none
 | n+1,a=>cd (a<1) (some ((bK.mk 0 []),2))<|cd (a > 8) (some ((bK.mk 0 []),2))<|some ((bK.mk a []),0)
def aBX: Kn:=bH 12 0x27c77423b15e C2 [] [] Kv
abbrev C3:=aBX::C2
def N4: Nat->Int->Int->Option (List aZ)
 | 0,_,_=>none
 | n+1,a,b=>some [(aZ.mk 1 a 0 0 0 (Aaa.mk b 0) [] (⟨#[]⟩:ByteArray) [])]
def aGS: Kn:=bH 13 0x9251ea5a3f66ffa15966 C3 [] [] N4
abbrev C4:=aGS::C3
def Co(n:Nat): (gF×Int)->((Bool->Option R)×Unit)->Unit->Option R:=λ(a,b) (c,_) _=>cd (a.first<=b) (cd (b<=a.last) (c true)<|c false)<|c false
def VP:=fB Co
def JZ: Lc 100 0 1:=bO 0xd3874c7ffdbae9f6aa984036973f3311c2d772481798e796f C4 [] [] @Co
def qE: (Int×xJ)->(Int->Option R)->(((gF×Int)->Option R)×(Unit->Option R)×Unit)->Int->Option R:=λ(a,b) c (d,f,_) g=>cd (g<13) (bnd (idx ([b.e0,b.e1,b.e2,b.e3,b.e4,b.e5,b.e6,b.e7,b.e8,b.e9,b.e10,b.e11,b.e12]:List gF) g) λh=>bnd (VP n (h,a)) λi=>cnd i (d (h,h.script))<|c<|wr<|g+1)<|f ()
def VQ:=qB qE
def KA: Lc 100 0 0:=bL 0x55ef1b613bcabf22f48d3e0c7c3feaa0f37a66b68c2b4a10000bb73641 C4 [⟨0,[cs JZ]⟩] [] @qE
def xB: Nat->Int->Option Int
 | 0,_=>none
 | n+1,a=>cd (a<0) (some (-1))<|cd (a > 1114111) (some (-1))<|bnd2 (VQ n ((IntKind.i32.wrap a),(xJ.mk (gF.mk 32 32 0) (gF.mk 39 41 0) (gF.mk 45 46 0) (gF.mk 48 57 0) (gF.mk 65 90 1) (gF.mk 97 122 1) (gF.mk 192 214 1) (gF.mk 216 246 1) (gF.mk 248 591 1) (gF.mk 880 1023 2) (gF.mk 1024 1279 3) (gF.mk 1488 1514 4)<|gF.mk 19968 40959 5)) 0) (λb=>some b.2) λc=>bnd (some c) λ_=>some (-1)
def G7: Kn:=bH 100 0x6cfb8d C4 [⟨0,[KA]⟩] [] xB
abbrev C5:=G7::C4
def qF: Unit->((List Int×(ByteArray×Nat))->Option R)->(((List Int×(ByteArray×Nat))->Option R)×((List Int×(ByteArray×Nat))->Option R)×Unit)->(List Int×(ByteArray×Nat))->Option R:=λ_ a (b,c,_) (d,f)=>cd (f.2<f.1.size) (bnd (xB n<|wr (((Utf8.decode f.1 f.2).1:Nat):Int)) λg=>cd (g<0) (b (d,(f.1,(f.2+(Utf8.decode f.1 f.2).2))))<|bnd (app d [(wr (((Utf8.decode f.1 f.2).1:Nat):Int))]) λh=>a (h,(f.1,(f.2+(Utf8.decode f.1 f.2).2))))<|c (d,(f.1,f.2))
def VR:=qB qF
def KB: Lc 98 0 0:=bL 0x22ea786cbfc66d378586cfe232c7ccc1958eb5dd514be364649617bb1bc75d4a6b5d11882e2deb6ff8f1c181fe4e0 C5 [] [] @qF
def Kz: Nat->ByteArray->Option (List Int×Int)
 | 0,_=>none
 | n+1,a=>bnd2 (VR n () ([],(a,0))) (λ_=>some ([],4)) λb=>bnd (some b) λc=>some (c.1,0)
def G8: Kn:=bH 98 0x16198fb086d41badf8 C5 [⟨0,[KB]⟩] [] Kz
abbrev C6:=G8::C5
def aSR: Kn:=aUZ 99 11 4 rfl (λn p=>aAX n p.1 p.2) λn p r h=>by obtain⟨m,h1⟩:=aS7 h;exact⟨m,p.1,p.2,r,h1,rfl,h,rfl⟩
abbrev C7:=aSR::C6
def Qd: ByteArray->((Bool->Option R)×Unit)->Unit->Option R:=λa (b,_) _=>bnd (sat a 0) λc=>cnd (c==32) (b true)<|bnd (sat a<|wr<|((a.size:Nat):Int)-1) λd=>cnd (d==32) (b true)<|bnd (aAX n a (⟨#[32,32]⟩:ByteArray)) λf=>cnd f (b true)<|b false
def aCc:=fB Qd
def D8: Lc 70 0 0:=bO 0x783dcd2e3781bd1a225a3d3f43d9e C7 [] [] @Qd
def yY: (List Int×List Int×Int)->(Int->Option R)->((Unit->Option R)×(Unit->Option R)×Unit)->Int->Option R:=λ(a,b,c) d (f,g,_) h=>cd (h<c) (bnd (idx b h) λi=>bnd (xB n i) λj=>cnd (j != 0) (f ())<|d<|wr<|h+1)<|g ()
def aCd:=qB yY
def D9: Lc 70 0 1:=bL 0x27acd98c4c7bf1782fe5570334299de76283cd C7 [] [] @yY
def aAE: Nat->ByteArray->Option (List Int×Int)
 | 0,_=>none
 | n+1,a=>cd (a=(⟨#[]⟩:ByteArray)) (some ([],14))<|cd (((a.size:Nat):Int) > 40) (some ([],3))<|bnd (Kz n a) λb=>cnd (b.2 != 0) (some ([],b.2))<|bnd (aCc n a) λc=>cnd c (some ([],14))<|bnd2 (aCd n (b.1,b.1,(ln b.1)) 0) (λ_=>some (b.1,0)) λd=>bnd (some d) λ_=>some ([],14)
def aEd: Kn:=bH 70 0x1da65c52e1aac30 C7 [⟨0,[D8]⟩,⟨1,[D9]⟩] [] aAE
abbrev C8:=aEd::C7
def sN: Nat->ByteArray->Option Int
 | 0,_=>none
 | n+1,a=>bnd (aAE n a) λb=>some b.2
def aCe: Kn:=bH 49 0x5137710aa C8 [] [] sN
abbrev C9:=aCe::C8
def dM: Nat->Int->Option Int
 | 0,_=>none
 | n+1,a=>cnd (a==1) (some 1)<|cnd (a==2) (some 1)<|cnd (a==8) (some 1)<|cnd (a==3) (some 2)<|cnd (a==4) (some 2)<|cnd (a==5) (some 3)<|cnd (a==6) (some 3)<|cnd (a==7) (some 3)<|some 0
def VV: Kn:=bH 71 0x6cfb8d C9 [] [] dM
abbrev C10:=VV::C9
def Dw(n:Nat): Int->((Bool->Option R)×Unit)->Unit->Option R:=λa (b,_) _=>cnd (a==1) (b true)<|cnd (a==3) (b true)<|b false
def Mw:=fB Dw
def LO: Lc 72 0 1:=bO 0xc3701b511312284d540e8d41851e4 C10 [] [] @Dw
def Dx: aZ->((aZ->Option R)×Unit)->Unit->Option R:=λa (b,_) _=>bnd (Mw n a.Kind) λc=>cnd c (b<|aZ.mk a.Kind a.ID a.A a.B a.C (Aaa.mk 0 0) a.Via a.Name a.Parts)<|cnd (a.Kind==4) (b<|aZ.mk a.Kind a.ID 0 0 0 a.At [] a.Name a.Parts)<|cnd (a.Kind==6) (b<|aZ.mk a.Kind a.ID a.A a.B a.C a.At [] a.Name a.Parts)<|cnd (a.Kind==7) (b<|aZ.mk a.Kind a.ID 0 0 a.C a.At a.Via (⟨#[]⟩:ByteArray) [])<|cnd (a.Kind==9) (b<|aZ.mk a.Kind a.ID a.A a.B a.C a.At a.Via (⟨#[]⟩:ByteArray) a.Parts)<|cnd (a.Kind==10) (b<|aZ.mk a.Kind a.ID a.A 0 a.C a.At a.Via a.Name a.Parts)<|cnd (a.Kind==11) (b<|aZ.mk a.Kind a.ID a.A a.B a.C a.At a.Via a.Name [])<|cnd (a.Kind==12) (b<|aZ.mk a.Kind a.ID 0 a.B a.C a.At a.Via a.Name a.Parts)<|b a
def Mx:=fB Dx
def LP: Lc 72 0 0:=bO 0x76a968f820f61aa0711d29a C10 [⟨0,[cs LO]⟩] [] @Dx
def Dv(n:Nat): aZ->((Bool->Option R)×Unit)->Unit->Option R:=λa (b,_) _=>cnd (a.A != 0) (b true)<|cnd (a.B != 0) (b true)<|cnd (a.C != 0) (b true)<|cd (a.At=(Aaa.mk 0 0)) (cd ((ln a.Via) > 0) (b true)<|cd (a.Name=(⟨#[]⟩:ByteArray)) (cd ((ln a.Parts) > 0) (b true)<|b false)<|b true)<|b true
def Mv:=fB Dv
def LN: Lc 72 0 2:=bO 0x6ffa00 C10 [] [] @Dv
def Lf: Nat->aZ->Option Bool
 | 0,_=>none
 | n+1,a=>bnd (Mx n a) λb=>bnd (Mv n b) λc=>cnd c (some true)<|some false
def K7: Kn:=bH 72 0x21ef8f4a0 C10 [⟨0,[LP]⟩,⟨2,[LN]⟩] [] Lf
abbrev C11:=K7::C10
def J9: Nat->Int->Option Bool
 | 0,_=>none
 | n+1,a=>cd (1<=a) (cd (a<=1073741824) (some true)<|some false)<|some false
def QX: Kn:=bH 101 0xb6a C11 [] [] J9
abbrev C12:=QX::C11
def KJ(n:Nat): (aKg×Aaa)->((Bool->Option R)×Unit)->Unit->Option R:=λ(a,b) (c,_) _=>cd (a.X0<=b.X) (cd (b.X<=a.X1) (cd (a.Y0<=b.Y) (cd (b.Y<=a.Y1) (c true)<|c false)<|c false)<|c false)<|c false
def I0:=fB KJ
def aCy: Lc 124 0 0:=bO 0x1e4a9e7b87185fc C12 [] [] @KJ
def aCz: Nat->aKg->Aaa->Option Bool
 | 0,_,_=>none
 | n+1,a,b=>bnd (I0 n (a,b)) λc=>cnd c (some true)<|some false
def aJG: Kn:=bH 124 0x1d58edee3af594a C12 [⟨0,[aCy]⟩] [] aCz
abbrev C13:=aJG::C12
def tB(n:Nat): Int->((Bool->Option R)×Unit)->Unit->Option R:=λa (b,_) _=>cd (1<=a) (cd (a<=1073741824) (b true)<|b false)<|b false
def eH:=uM tB
def RH: Ic:=cJ 101 0 1 0xd9d1c9e8b63ba17c3a64 C13 [] [] @tB
def tA: Aaa->((Bool->Option R)×Unit)->Unit->Option R:=λa (b,_) _=>bnd (aCz n (aKg.mk (-1048576) (-1048576) 1048576 1048576) a) λc=>cnd c (b false)<|b true
def iS:=uM tA
def RG: Ic:=cJ 102 0 2 0x2558aa57ae0d61aca8857af4d3a0169a0da5f6 C13 [] [] @tA
def RD: Ic:=cJ 102 4 2 0x4338f38afcc84708fc76a753edd0954f C13 [] [] @tA
def sZ: (List Aaa×Int)->(Int->Option R)->((Int->Option R)×(Unit->Option R)×Unit)->Int->Option R:=λ(a,b) c (d,f,_) g=>cd (g<b) (bnd (idx a g) λh=>bnd (iS n h) λi=>cnd i (d g)<|c<|wr<|g+1)<|f ()
def K3:=qB sZ
def QZ: Lc 125 0 0:=bL 0xfcb2820898ed1ae9994b8349595e54712774e41aeaeb9b C13 [] [RD] @sZ
def Hu: (List Aaa)->((Int->Option R)×Unit)->Unit->Option R:=λa (b,_) _=>bnd2 (K3 n (a,(ln a)) 0) (λc=>b c) λd=>bnd (some d) λ_=>b (-1)
def Ru:=uM Hu
def RE: Ic:=cJ 125 0 2 0x7912b8ec7868af6e2d21fc57e8 C13 [⟨0,[QZ]⟩] [] @Hu
def Hv: (List Aaa)->((Bool->Option R)×Unit)->Unit->Option R:=λa (b,_) _=>bnd (Ru n a) λc=>cd (c>=0) (b true)<|b false
def iQ:=uM Hv
def RF: Ic:=cJ 103 0 2 0x7908fa0deab057d97621e2ea14 C13 [] [RE] @Hv
def KZ: Ic:=cJ 101 4 1 0xa264018fe143d7b959eba43 C13 [] [] @tB
def Dp: Int->((Bool->Option R)×Unit)->Unit->Option R:=λa (b,_) _=>bnd (eH n a) λc=>cnd c (b false)<|b true
def Mq:=uM Dp
def LA: Ic:=cJ 104 4 2 0x1fb7fe3dca9fa8c802125 C13 [] [KZ] @Dp
def sY: (List Int×Int)->(Int->Option R)->((Int->Option R)×(Unit->Option R)×Unit)->Int->Option R:=λ(a,b) c (d,f,_) g=>cd (g<b) (bnd (idx a g) λh=>bnd (Mq n h) λi=>cnd i (d g)<|c<|wr<|g+1)<|f ()
def K0:=qB sY
def QY: Lc 126 0 0:=bL 0xbc59b7a500a41db40f92d5dbd3c2d57d78e2d8b1c5cedd2ce C13 [] [LA] @sY
def Hs: (List Int)->((Int->Option R)×Unit)->Unit->Option R:=λa (b,_) _=>bnd2 (K0 n (a,(ln a)) 0) (λc=>b c) λd=>bnd (some d) λ_=>b (-1)
def Rt:=uM Hs
def RB: Ic:=cJ 126 0 2 0xce63d32910941521876e978764579 C13 [⟨0,[QY]⟩] [] @Hs
def Ht: (List Int)->((Bool->Option R)×Unit)->Unit->Option R:=λa (b,_) _=>bnd (Rt n a) λc=>cd (c>=0) (b true)<|b false
def iP:=uM Ht
def RC: Ic:=cJ 105 0 2 0xd2273fc01ae8b93851aa431f5eaaa C13 [] [RB] @Ht
def Do(n:Nat): Int->((Bool->Option R)×Unit)->Unit->Option R:=λa (b,_) _=>cnd (a==7) (b true)<|cnd (a==10) (b true)<|b false
def Mp:=fB Do
def KY: Lc 73 0 0:=bO 0x18843810c60caf9e8bd2a3c8b48fe5ba2a4a3073c C13 [] [] @Do
def Dn(n:Nat): aZ->((Bool->Option R)×Unit)->Unit->Option R:=λa (b,_) _=>cd (a.B<1) (b true)<|cd (a.B > 9) (b true)<|b false
def Mo:=fB Dn
def KX: Lc 73 0 1:=bO 0x17cbc3ea7bcb9d00701e676d059ccbfef899ec964950 C13 [] [] @Dn
def Rv: Nat->aZ->Option Bool
 | 0,_=>none
 | n+1,a=>cnd (a.Kind==4) (bnd (eH n a.A) λb=>cnd b (bnd (eH n a.B) λc=>cnd c (bnd (eH n a.ID) λd=>cnd d (cd (a.C<(-1073741824)) (some false)<|cd (a.C > 1073741824) (some false)<|bnd (iS n a.At) λf=>cnd f (some false)<|bnd (iQ n a.Via) λg=>cnd g (some false)<|bnd (iP n a.Parts) λh=>cnd h (some false)<|some true)<|some false)<|some false)<|some false)<|cnd (a.Kind==12) (bnd (eH n a.A) λi=>cnd i (bnd (eH n a.ID) λj=>cnd j (cd (a.C<(-1073741824)) (some false)<|cd (a.C > 1073741824) (some false)<|bnd (iS n a.At) λl=>cnd l (some false)<|bnd (iQ n a.Via) λm=>cnd m (some false)<|bnd (iP n a.Parts) λo=>cnd o (some false)<|some true)<|some false)<|some false)<|bnd (Mp n a.Kind) λr=>cnd r (bnd (Mo n a) λs=>cnd s (some false)<|bnd (eH n a.ID) λt=>cnd t (cd (a.C<(-1073741824)) (some false)<|cd (a.C > 1073741824) (some false)<|bnd (iS n a.At) λu=>cnd u (some false)<|bnd (iQ n a.Via) λv=>cnd v (some false)<|bnd (iP n a.Parts) λw=>cnd w (some false)<|some true)<|some false)<|bnd (eH n a.ID) λx=>cnd x (cd (a.C<(-1073741824)) (some false)<|cd (a.C > 1073741824) (some false)<|bnd (iS n a.At) λy=>cnd y (some false)<|bnd (iQ n a.Via) λz=>cnd z (some false)<|bnd (iP n a.Parts) λa0=>cnd a0 (some false)<|some true)<|some false
def U5: Kn:=bH 73 0x21ef8f4a0 C13 [⟨0,[KY]⟩,⟨1,[KX]⟩] [RH,RG,RF,RC] Rv
abbrev C14:=U5::C13
def lN(n:Nat): (List Int)->(Int->Option R)->((Unit->Option R)×(Unit->Option R)×Unit)->Int->Option R:=λa b (c,d,_) f=>cd (f<(ln a)) (bnd (idx a<|wr<|f-1) λg=>bnd (idx a f) λh=>cd (g>=h) (c ())<|b<|wr<|f+1)<|d ()
def Qj:=qB lN
def PV: Lc 74 0 0:=bL 0x289ad2f86029 C14 [] [] @lN
def uH: Nat->(List Int)->Option Bool
 | 0,_=>none
 | n+1,a=>bnd2 (Qj n a 1) (λ_=>some false) λb=>bnd (some b) λ_=>some true
def T6: Kn:=bH 74 0x2d8c88 C14 [⟨0,[PV]⟩] [] uH
abbrev C15:=T6::C14
def Nf(n:Nat): aZ->((Bool->Option R)×Unit)->Unit->Option R:=λa (b,_) _=>cd (a.Kind<1) (b true)<|cd (a.Kind > 12) (b true)<|b false
def CE:=fB Nf
def c7: Lc 50 0 0:=bO 0x333351a85cbd C15 [] [] @Nf
def Nd: aZ->((Bool->Option R)×Unit)->Unit->Option R:=λa (b,_) _=>cnd (a.Kind==7) (bnd (dM n a.A) λc=>cnd (c==0) (b true)<|b false)<|b false
def CD:=fB Nd
def b9: Lc 50 0 1:=bO 0x333152b8ad1a C15 [] [] @Nd
def Nc(n:Nat): aZ->((Bool->Option R)×Unit)->Unit->Option R:=λa (b,_) _=>cd ((ln a.Via) > 64) (b true)<|cd ((ln a.Parts) > 64) (b true)<|b false
def CC:=fB Nc
def b8: Lc 50 0 2:=bO 0x333159f1976f C15 [] [] @Nc
def Nb: aZ->((Bool->Option R)×Unit)->Unit->Option R:=λa (b,_) _=>cd (a.Name=(⟨#[]⟩:ByteArray)) (b false)<|bnd (sN n a.Name) λc=>cnd (c != 0) (b true)<|b false
def CB:=fB Nb
def b7: Lc 50 0 3:=bO 0x25055c15ac6dfa0 C15 [] [] @Nb
def Lh: Nat->aZ->Option Int
 | 0,_=>none
 | n+1,a=>bnd (CE n a) λb=>cnd b (some 9)<|bnd (CD n a) λc=>cnd c (some 9)<|bnd (Lf n a) λd=>cnd d (some 1)<|bnd (CC n a) λf=>cnd f (some 3)<|bnd (Rv n a) λg=>cnd g (bnd (uH n a.Parts) λh=>cnd h (bnd (CB n a) λi=>cnd i (some 14)<|some 0)<|some 10)<|some 2
def aCE: Kn:=bH 50 0x24bf91ed9 C15 [⟨0,[c7]⟩,⟨1,[b9]⟩,⟨2,[b8]⟩,⟨3,[b7]⟩] [] Lh
abbrev C16:=aCE::C15
def Oe(n:Nat): aY->((Bool->Option R)×Unit)->Unit->Option R:=λa (b,_) _=>cd (a.Office<1) (b true)<|cd (a.Office > 8) (b true)<|cd (a.Seq<1) (b true)<|cd (a.Seq > 1073741824) (b true)<|cd (a.Time<0) (b true)<|cd (a.Time > 1073741824) (b true)<|b false
def HS:=fB Oe
def v6: Lc 27 0 0:=bO 0x26283bf6d8ebdb0 C16 [] [] @Oe
def Od: aY->((Unit->Option R)×(Int->Option R)×Unit)->Unit->Option R:=λa (b,c,_) _=>cd (a.Source=(⟨#[]⟩:ByteArray)) (b ())<|bnd (sN n a.Source) λd=>cnd (d != 0) (c d)<|b ()
def HR:=pc2 Od
def v5: Lc 27 0 1:=bO 0x1469c5be119317cd02b114320b267fa190b63107a C16 [] [] @Od
def Oc(n:Nat): aY->((Bool->Option R)×Unit)->Unit->Option R:=λa (b,_) _=>cd ((ln a.Edits)<1) (b true)<|cd ((ln a.Edits) > 64) (b true)<|b false
def HQ:=fB Oc
def u9: Lc 27 0 2:=bO 0x262843d50214c9f C16 [] [] @Oc
def xV: (List aZ×Int)->(Int->Option R)->(((aZ×Int)->Option R)×(Unit->Option R)×Unit)->Int->Option R:=λ(a,b) c (d,f,_) g=>cd (g<b) (bnd (idx a g) λh=>bnd (Lh n h) λi=>cnd (i != 0) (d (h,i))<|c<|wr<|g+1)<|f ()
def aBz:=qB xV
def v7: Lc 27 0 3:=bL 0x1aa345da8f6db06217d4717966cdc12881241e3e1 C16 [] [] @xV
def rV: Nat->aY->Option Int
 | 0,_=>none
 | n+1,a=>bnd (HS n a) λb=>cnd b (some 2)<|bnd2 (HR n a) (λ_=>bnd (HQ n a) λc=>cnd c (some 3)<|bnd2 (aBz n (a.Edits,(ln a.Edits)) 0) (λd=>some d.2) λf=>bnd (some f) λ_=>some 0) λg=>bnd (some g) λh=>some h
def aDr: Kn:=bH 27 0x24c0c8be6 C16 [⟨0,[v6]⟩,⟨1,[v5]⟩,⟨2,[u9]⟩,⟨3,[v7]⟩] [] rV
abbrev C17:=aDr::C16
def fQ: Nat->Int->Option Bool
 | 0,_=>none
 | n+1,a=>cnd (a != a) (some true)<|some false
def c8: Kn:=bH 75 0xb6a C17 [] [] fQ
abbrev C18:=c8::C17
def cD: Nat->Int->Int->Option Int
 | 0,_,_=>none
 | n+1,a,b=>bnd (fQ n a) λc=>cnd c (bnd (fQ n b) λd=>cnd d (some 0)<|some (-1))<|bnd (fQ n b) λf=>cnd f (some 1)<|cd (a<b) (some (-1))<|cd (a > b) (some 1)<|some 0
def LV: Kn:=bH 56 0x619db1317 C18 [] [] cD
abbrev C19:=LV::C18
def vI(n:Nat): (List Int×Int)->(Int->Option R)->((Int->Option R)×(Unit->Option R)×Unit)->Int->Option R:=λ(a,b) c (d,f,_) g=>cd (g<b) (bnd (idx a g) λh=>cnd (h != 0) (d h)<|c<|wr<|g+1)<|f ()
def V5:=qB vI
def c9: Lc 57 0 0:=bL 0x15306a482d3e132999c89f84604bdf547311d2896f5e C19 [] [] @vI
def Ax: Nat->(List Int)->Option Int
 | 0,_=>none
 | n+1,a=>bnd2 (V5 n (a,(ln a)) 0) (λb=>some b) λc=>bnd (some c) λ_=>some 0
def aCF: Kn:=bH 57 0x315285 C19 [⟨0,[c9]⟩] [] Ax
abbrev C20:=aCF::C19
def eX: Nat->aY->aY->Option Int
 | 0,_,_=>none
 | n+1,a,b=>bnd (cD n a.Time b.Time) λc=>bnd (cD n a.Office b.Office) λd=>bnd (cD n a.Seq b.Seq) λf=>bnd (Ax n [c,d,f]) λg=>some g
def OT: Kn:=bH 32 0x1d59db74ff7ee9b8b1 C20 [] [] eX
abbrev C21:=OT::C20
def Cf(n:Nat): bK->((Bool->Option R)×Unit)->Unit->Option R:=λa (b,_) _=>cd (a.ID<1) (b true)<|cd (a.ID > 8) (b true)<|cd ((ln a.Txns) > 256) (b true)<|b false
def Ml:=fB Cf
def JE: Lc 17 0 0:=bO 0x262836fec0950f9 C21 [] [] @Cf
def Ce: (bK×(List<|Aac×Bool)×aY×Int×Int×Int)->((Bool->Option R)×Unit)->Unit->Option R:=λ(a,b,c,d,f,g) (h,_) _=>bnd (rV n c) λi=>cnd (i != 0) (h true)<|cd (g > 0) (bnd (idx a.Txns<|wr<|g-1) λj=>bnd (eX n j c) λl=>cd (l>=0) (h true)<|cnd ((Option.getD (cE b<|Aac.mk d f) false)) (h true)<|h false)<|cnd ((Option.getD (cE b<|Aac.mk d f) false)) (h true)<|h false
def Mk:=fB Ce
def JD: Lc 17 0 2:=bO 0x11921f4e5912c94dbdde676e0e1b912e73e5d1dcc5a5c7a90e148a9a1462f00ffeb4ab6598976c355facc7e3855a5298989 C21 [] [] @Ce
def pY: (bK×List aY×Int)->(((List<|Aac×Bool)×Int)->Option R)->((((List<|Aac×Bool)×aY×Int×Int)->Option R)×(((List<|Aac×Bool))->Option R)×Unit)->((List<|Aac×Bool)×Int)->Option R:=λ(a,b,c) d (f,g,_) (h,i)=>cd (i<c) (bnd (idx b i) λj=>bnd (Mk n (a,h,j,j.Office,j.Seq,i)) λl=>cnd l (f (h,j,j.Office,j.Seq))<|d ((kW h (Aac.mk j.Office j.Seq) true),(wr<|i+1)))<|g h
def VH:=qB pY
def JF: Lc 17 0 1:=bL 0x76e7df91bea259c09219e1df9ed4da1284423350d7cb3b6a3c8c1821c3c1bf6914d0c72cbd14b17e5 C21 [⟨0,[cs JD]⟩] [] @pY
def fL: Nat->bK->Option Bool
 | 0,_=>none
 | n+1,a=>bnd (Ml n a) λb=>cnd b (some false)<|bnd2 (VH n (a,a.Txns,(ln a.Txns)) ([],0)) (λ_=>some false) λc=>bnd (some c) λ_=>some true
def B6: Kn:=bH 17 0x18f6517761e95e0 C21 [⟨0,[JE]⟩,⟨1,[JF]⟩] [] fL
abbrev C22:=B6::C21
def aSV: Kn:=aPq 39 2 3 ⟨_,_,_,rfl,by decide,by decide⟩ (λn p=>clF n p) (λp=>p) λn p r h=>by obtain⟨m,h1,h2,h3⟩:=aPt h;subst h2;exact⟨m,h1,rfl,h3,rfl,λe=>by cases (e:_=[]);rfl⟩
abbrev C23:=aSV::C22
def aSU: Kn:=aPq 40 0 14 ⟨_,_,_,rfl,by decide,by decide⟩ (λn p=>clF n p) (λp=>p) λn p r h=>by obtain⟨m,h1,h2,h3⟩:=aPt h;subst h2;exact⟨m,h1,rfl,h3,rfl,λe=>by cases (e:_=[]);rfl⟩
abbrev C24:=aSU::C23
def aST: Kn:=aPq 41 1 12 ⟨_,_,_,rfl,by decide,by decide⟩ (λn p=>clF n p) (λp=>p) λn p r h=>by obtain⟨m,h1,h2,h3⟩:=aPt h;subst h2;exact⟨m,h1,rfl,h3,rfl,λe=>by cases (e:_=[]);rfl⟩
abbrev C25:=aST::C24
def fG(n:Nat): Unit->(Unit->Option R)->((Unit->Option R)×Unit)->Unit->Option R:=λ_ a (b,_) _=>b ()
def nK:=qW fG
def JH: Lc 22 0 0:=bL 0x8abc032a79686322e3d9cbac4e C25 [] [] @fG
def kC: (Int×Int×Int×ByteArray×Int)->((List aZ×Int)->Option R)->(((List aZ)->Option R)×Unit)->(List aZ×Int)->Option R:=λ(a,b,c,d,f) g (h,_) (i,j)=>cd (j<f) (bnd (eM i (List.length i) j) λ_=>bnd (idx i j) λl=>bnd (clF n l.Via) λm=>bnd (eM i (List.length i) j) λ_=>bnd (idx i j) λo=>bnd (clF n l.Parts) λr=>bnd (eM (List.set i (Int.toNat j)<|aZ.mk o.Kind o.ID o.A o.B o.C o.At m o.Name o.Parts) (List.length<|List.set i (Int.toNat j)<|aZ.mk o.Kind o.ID o.A o.B o.C o.At m o.Name o.Parts) j) λ_=>bnd (idx (List.set i (Int.toNat j)<|aZ.mk o.Kind o.ID o.A o.B o.C o.At m o.Name o.Parts) j) λs=>g ((List.set (List.set i (Int.toNat j)<|aZ.mk o.Kind o.ID o.A o.B o.C o.At m o.Name o.Parts) (Int.toNat j)<|aZ.mk s.Kind s.ID s.A s.B s.C s.At s.Via s.Name r),(wr<|j+1)))<|h i
def uV:=qW kC
def JG: Lc 22 0 0:=bL 0x21abe8e7886e517be89785179e09861f31a4388f6177308 C25 [] [] @kC
def dW: Nat->aY->Option aY
 | 0,_=>none
 | n+1,a=>bnd (prd n) λ_=>cnd (List.isEmpty a.Edits) (bnd (nK n () ()) λ_=>some<|aY.mk a.Office a.Seq a.Time a.Source [])<|bnd (app ([]:List aZ) a.Edits) λb=>bnd (uV n (a.Office,a.Seq,a.Time,a.Source,(ln b)) (b,0)) λc=>some<|aY.mk a.Office a.Seq a.Time a.Source c
def B7: Kn:=bH 22 0x1615a88a25e4 C25 [⟨0,[JH,JG]⟩] [] dW
abbrev C26:=B7::C25
def fZ: (Int×List aY×Int)->((List aY×Int)->Option R)->(((List aY)->Option R)×Unit)->(List aY×Int)->Option R:=λ(a,b,c) d (f,_) (g,h)=>cd (h<c) (bnd (idx b h) λi=>bnd (dW n i) λj=>bnd (app g [j]) λl=>d (l,(wr<|h+1)))<|f g
def Gi:=qW fZ
def DM: Lc 18 0 0:=bL 0x491ace0e840f8293cf663ac0cd45e280210f63a455ea22fe397c9af94b13f C26 [] [] @fZ
def T2: Nat->bK->Option bK
 | 0,_=>none
 | n+1,a=>bnd (Gi n (a.ID,a.Txns,(ln a.Txns)) ([],0)) λb=>some<|bK.mk a.ID b
def VJ: Kn:=bH 18 0xc450cb8c610875f0d C26 [⟨0,[DM]⟩] [] T2
abbrev C27:=VJ::C26
def Gl(n:Nat): (aY×Int×Bool)->((Bool->Option R)×Unit)->Unit->Option R:=λ(a,b,c) (d,_) _=>cnd c (d true)<|cd (a.Time > b) (d true)<|d false
def D3:=fB Gl
def PB: Lc 14 0 1:=bO 0xab5bf081101be219df265a04ab419b1e03500673bdd66fd1ac6ff4bc163aa06c1b C27 [] [] @Gl
def Gn: (bK×Int×List aY×Int)->((Int×Bool×Int)->Option R)->(((Int×Bool)->Option R)×Unit)->(Int×Bool×Int)->Option R:=λ(a,b,c,d) f (g,_) (h,i,j)=>cd (j<d) (bnd (idx c j) λl=>cnd (l.Office==a.ID) (bnd (D3 n (l,b,i)) λm=>cnd m (f ((oB h l.Seq),true,(wr<|j+1)))<|f ((oB h l.Seq),false,(wr<|j+1)))<|f (h,i,(wr<|j+1)))<|g (h,i)
def D5:=qW Gn
def PE: Lc 14 0 0:=bL 0x6677ca0e474fdb712a023f7c6cc562ce983367d0cd73d47d3131dae53088193c1d965b18ef5d3509d C27 [⟨0,[cs PB]⟩] [] @Gn
def PD: Lc 18 3 0:=bL 0xe07d57f713120f9039d30706dd6dbf3f5b2a98ff21d9fe5d19c82b5a1b4bc61ec8e2074f C27 [] [] @fZ
def sJ: bK->(((List aY×Int×Int)->Option R)×Unit)->Unit->Option R:=λa (b,_) _=>bnd (Gi n (a.ID,a.Txns,(ln a.Txns)) ([],0)) λc=>b (c,a.ID,a.ID)
def yW:=uM sJ
def PI: Ic:=cJ 18 3 1 0x734d2742602acdc2ad500506196634707b174af07def6eb946390a4 C27 [⟨0,[PD]⟩] [] @sJ
def Gm: (List aY×Int×Int×Int×ByteArray×List aZ)->((Int×Int)->Option R)->((Int->Option R)×Unit)->(Int×Int)->Option R:=λ(a,b,c,d,f,g) h (i,_) (j,l)=>cd (j<l) (bnd (eM a (List.length a)<|wr<|Int.fdiv (IntKind.u64.wrap<|wr<|j+l) 2) λ_=>bnd (idx a<|wr<|Int.fdiv (IntKind.u64.wrap<|wr<|j+l) 2) λm=>bnd (eX n m<|aY.mk b c d f g) λo=>cd (o<0) (h ((wr<|(wr<|Int.fdiv (IntKind.u64.wrap<|wr<|j+l) 2)+1),l))<|h (j,(wr<|Int.fdiv (IntKind.u64.wrap<|wr<|j+l) 2)))<|i j
def D4:=qW Gm
def PC: Lc 51 0 0:=bL 0x2f45beb1afbb773e19b0b1528bac37515d971798ae632c09981bc63e83598f1144eb34 C27 [] [] @Gm
def Gk: (List aY×Int×Int×Int×ByteArray×List aZ×Int×Int)->((Bool->Option R)×Unit)->Unit->Option R:=λ(a,b,c,d,f,g,h,i) (j,_) _=>cd (i<h) (bnd (eM a (List.length a) i) λ_=>bnd (idx a i) λl=>bnd (eX n l<|aY.mk b c d f g) λm=>cnd (m==0) (j true)<|j false)<|j false
def D2:=fB Gk
def PA: Lc 51 0 1:=bO 0x171c22bb8cfca5c6a4a77570ea0d72daeb81143e30d8148b5a386f7a5da75848dac C27 [] [] @Gk
def Gp: (List aY×Int×Int×Int×ByteArray×List aZ)->(((Int×Bool)->Option R)×Unit)->Unit->Option R:=λ(a,b,c,d,f,g) (h,_) _=>bnd (D4 n (a,b,c,d,f,g) (0,(ln a))) λi=>bnd (D2 n (a,b,c,d,f,g,(ln a),i)) λj=>cnd j (h (i,true))<|h (i,false)
def D6:=uM Gp
def PG: Ic:=cJ 51 0 3 0x6676bcff8f96451ab38f4437bee6ff9c6ad00b02fc0567b0f5d3bd7 C27 [⟨0,[PC]⟩,⟨1,[PA]⟩] [] @Gp
def Gq: (Int×List aY×Int×Int×Int×Int×ByteArray×List aZ)->(((List aY×List aY)->Option R)×Unit)->Unit->Option R:=λ(a,b,c,d,f,g,h,i) (j,_) _=>bnd (D6 n (b,d,f,g,h,i)) λl=>cnd l.2 (bnd (dW n<|aY.mk d f g h i) λm=>bnd (prd n) λ_=>bnd (VN b l.1 m) λo=>j (o,[m]))<|bnd (dW n<|aY.mk d f g h i) λr=>bnd (prd n) λ_=>bnd (VN b l.1 r) λs=>j (s,[r])
def D7:=uM Gq
def PH: Ic:=cJ 28 0 2 0x2bbbe6c12ae9b87e5fabc03f0156886697d491018da10f73743d8f7b557f89e06a744fa31514ea82ffa9dfe4546ddf61e39502229f8d43196483 C27 [] [PG] @Gq
def Qa: Nat->bK->Int->ByteArray->(List aZ)->Option (bK×Int)
 | 0,_,_,_,_=>none
 | n+1,a,b,c,d=>bnd (fL n a) λf=>cnd f (bnd (D5 n (a,b,a.Txns,(ln a.Txns)) (0,false,0)) λg=>bnd (rV n<|aY.mk a.ID (wr<|g.1+1) b c d) λh=>cnd (h != 0) (some ((bK.mk 0 []),h))<|cd ((ln a.Txns)>=256) (some ((bK.mk 0 []),3))<|cnd g.2 (some ((bK.mk 0 []),10))<|bnd (yW n a) λi=>bnd (D7 n (i.2.2,i.1,i.2.1,a.ID,(wr<|g.1+1),b,c,d)) λj=>some ((bK.mk i.2.2 j.1),0))<|some ((bK.mk 0 []),19)
def T4: Kn:=bH 14 0xc472193110b4610b9291e40 C27 [⟨0,[PE]⟩] [PI,PH] Qa
abbrev C28:=T4::C27
def xU(n:Nat): (List aY×Int)->(((List<|Aac×Bool)×Int)->Option R)->((((List<|Aac×Bool))->Option R)×Unit)->((List<|Aac×Bool)×Int)->Option R:=λ(a,b) c (d,_) (f,g)=>cd (g<b) (bnd (idx a g) λh=>c ((kW f (Aac.mk h.Office h.Seq) true),(wr<|g+1)))<|d f
def aBw:=qW xU
def t5: Lc 15 0 0:=bL 0x521667deac3ec2175441b89454c7dcffdbdd805b7a8ba5fb55cf6680a0ccab0b C28 [] [] @xU
def pF(n:Nat): ((List<|Aac×Bool)×Int)->(Int->Option R)->((Int->Option R)×Unit)->Int->Option R:=λ(a,b) c (d,_) f=>cnd ((Option.getD (cE a<|Aac.mk b<|wr<|f+1) false)) (c<|wr<|f+1)<|d f
def aBu:=qW pF
def s8: Lc 29 5 0:=bL 0x6b35d6d8fcb8d5dd91c45e17d9e4fb2848afa9a54c810c69f4e2 C28 [] [] @pF
def Nz: ((List<|Aac×Bool)×Int)->((Int->Option R)×Unit)->Unit->Option R:=λ(a,b) (c,_) _=>bnd (aBu n (a,b) 0) λd=>c d
def HK:=uM Nz
def t6: Ic:=cJ 29 5 2 0x16dba34bd71c9e8d846f132feadad8b755fe8a0590cb C28 [⟨0,[s8]⟩] [] @Nz
def xT: ((List<|Aac×Bool))->((List Int×Int×Int)->Option R)->(((List Int)->Option R)×Unit)->(List Int×Int×Int)->Option R:=λa b (c,_) (d,f,g)=>cd (g<=8) (bnd (HK n (a,g)) λh=>cnd (h==0) (b (d,(wr<|f+1),(wr<|g+1)))<|bnd (rep 0 f f) λi=>bnd (app d i) λj=>bnd (app j [h]) λl=>b (l,0,(wr<|g+1)))<|c d
def aBv:=qW xT
def s9: Lc 30 0 0:=bL 0xa1c702b3243ea428c8c2da7e225719f8c41cd658a0f50d8dea231be59bcd1b110b8db68a2f814794e0ed C28 [] [t6] @xT
def Oa: ((List<|Aac×Bool))->(((List Int)->Option R)×Unit)->Unit->Option R:=λa (b,_) _=>bnd (aBv n a ([],0,1)) λc=>b c
def HL:=uM Oa
def t8: Ic:=cJ 30 0 1 0x734d29daac15fb07fb39cfe200c451b102449720ef7d20f2b829d1c C28 [⟨0,[s9]⟩] [] @Oa
def Fs: Nat->(List aY)->Option oU
 | 0,_=>none
 | n+1,a=>bnd (aBw n (a,(ln a)) ([],0)) λb=>bnd (HL n b) λc=>some<|oU.mk c
def aDo: Kn:=bH 15 0x1078bc6c8699401 C28 [⟨0,[t5]⟩] [t8] Fs
abbrev C29:=aDo::C28
def nR: Nat->Int->Int->Option Int
 | 0,_,_=>none
 | n+1,a,b=>cd (a<b) (some b)<|some a
def Ny: Kn:=bH 60 0x619db1317 C29 [] [] nR
abbrev C30:=Ny::C29
def Bp(n:Nat): (oU×Int)->((Bool->Option R)×Unit)->Unit->Option R:=λ(a,b) (c,_) _=>cd (b<1) (c true)<|cd (b > 8) (c true)<|cd (b > (ln a.Counts)) (c true)<|c false
def Lx:=fB Bp
def HJ: Lc 36 0 0:=bO 0x82f42c936f8dce68ba9f315cbc370d17 C30 [] [] @Bp
def Js: Nat->oU->Int->Option Int
 | 0,_,_=>none
 | n+1,a,b=>bnd (Lx n (a,b)) λc=>cnd c (some 0)<|bnd (idx a.Counts<|wr<|b-1) λd=>bnd (nR n d 0) λf=>some f
def s7: Kn:=bH 36 0x1b64b07bb22e C30 [⟨0,[HJ]⟩] [] Js
abbrev C31:=s7::C30
def Br: (oU×Int×Int)->((Bool->Option R)×Unit)->Unit->Option R:=λ(a,b,c) (d,_) _=>cd (1<=c) (bnd (Js n a b) λf=>cd (c<=f) (d true)<|d false)<|d false
def Ly:=fB Br
def HP: Lc 20 0 0:=bO 0xf54e9c8f25db7114e2ef12e C31 [] [] @Br
def wW: Nat->oU->Int->Int->Option Bool
 | 0,_,_,_=>none
 | n+1,a,b,c=>bnd (Ly n (a,b,c)) λd=>cnd d (some true)<|some false
def u5: Kn:=bH 20 0x2dfea8ad1c2dfc8 C31 [⟨0,[HP]⟩] [] wW
abbrev C32:=u5::C31
def MX: Nat->(List aZ)->Option (List aZ)
 | 0,_=>none
 | n+1,a=>cnd (List.isEmpty a) (some [])<|bnd (app ([]:List aZ) a) λb=>some b
def CP: Kn:=bH 53 0x6d0faf199b1c986c5e53602 C32 [] [] MX
abbrev C33:=CP::C32
def Bo: Nat->(List Aaa)->Option (List Aaa)
 | 0,_=>none
 | n+1,a=>cnd (List.isEmpty a) (some [])<|bnd (app ([]:List Aaa) a) λb=>some b
def Ua: Kn:=bH 54 0x2a567cfe8924afc88d C33 [] [] Bo
abbrev C34:=Ua::C33
def Lw: Nat->(List Int)->Option (List Int)
 | 0,_=>none
 | n+1,a=>cnd (List.isEmpty a) (some [])<|bnd (app ([]:List Int) a) λb=>some b
def HI: Kn:=bH 55 0x18d6473a48fc79bb8b C34 [] [] Lw
end
end
section
variable {R:Type}(n:Nat)
noncomputable section
abbrev C35:=HI::C34
def lU(n:Nat): (List aZ)->(((List aZ)->Option R)×((List aZ×List aZ)->Option R)×Unit)->Unit->Option R:=λa (b,c,_) _=>cnd (List.isEmpty a) (b [])<|bnd (app ([]:List aZ) a) λd=>c ([],d)
def HO:=DS lU
def Ue: Ic:=cJ 53 3 1 0x3bc4a00d73b1a7b2a403f7d6e7a16c754341084e9b8e289569ccc1493e8bd7b1 C35 [] [] @lU
def Uc: Lc 31 0 1:=bL 0x3c4a372e8c3f62aa9355a2a8b47bad2809c113 C35 [] [] @fG
def lS: (Int×Int×Int×ByteArray×Int)->((List aZ×Int)->Option R)->(((List aZ)->Option R)×Unit)->(List aZ×Int)->Option R:=λ(a,b,c,d,f) g (h,_) (i,j)=>cd (j<f) (bnd (eM i (List.length i) j) λ_=>bnd (idx i j) λl=>bnd (Bo n l.Via) λm=>bnd (eM i (List.length i) j) λ_=>bnd (idx i j) λo=>bnd (Lw n l.Parts) λr=>bnd (eM (List.set i (Int.toNat j)<|aZ.mk o.Kind o.ID o.A o.B o.C o.At m o.Name o.Parts) (List.length<|List.set i (Int.toNat j)<|aZ.mk o.Kind o.ID o.A o.B o.C o.At m o.Name o.Parts) j) λ_=>bnd (idx (List.set i (Int.toNat j)<|aZ.mk o.Kind o.ID o.A o.B o.C o.At m o.Name o.Parts) j) λs=>g ((List.set (List.set i (Int.toNat j)<|aZ.mk o.Kind o.ID o.A o.B o.C o.At m o.Name o.Parts) (Int.toNat j)<|aZ.mk s.Kind s.ID s.A s.B s.C s.At s.Via s.Name r),(wr<|j+1)))<|h i
def HN:=qW lS
def Ub: Lc 31 0 1:=bL 0x9a03c551431f965a82343e0a15bd365f43cce01dc95a6d6df5a7d103b781a7ecd704d8a5b4192efd2 C35 [] [] @lS
def lT: (oU×List aY×Int)->((List aY×Int)->Option R)->(((List aY)->Option R)×Unit)->(List aY×Int)->Option R:=λ(a,b,c) d (f,_) (g,h)=>cd (h<c) (bnd (idx b h) λi=>bnd (wW n a i.Office i.Seq) λj=>cnd j (d (g,(wr<|h+1)))<|bnd2 (HO n i.Edits) (λ_=>bnd (nK n () ()) λ_=>bnd (app g [(aY.mk i.Office i.Seq i.Time i.Source [])]) λl=>d (l,(wr<|h+1))) λm=>bnd (some m) λo=>bnd (HN n (i.Office,i.Seq,i.Time,i.Source,(ln o.2)) (o.2,0)) λr=>bnd (app g [(aY.mk i.Office i.Seq i.Time i.Source r)]) λs=>d (s,(wr<|h+1)))<|f g
def Bq:=qW lT
def Ud: Lc 31 0 0:=bL 0x8395f7a3e7ac359145184b1e09833fd0a863e81e1f543e7afc95e65 C35 [⟨0,[cs Uc,cs Ub]⟩] [Ue] @lT
def t9: Nat->oU->(List aY)->Option (List aY)
 | 0,_,_=>none
 | n+1,a,b=>bnd (Bq n (a,b,(ln b)) ([],0)) λc=>some c
def MY: Kn:=bH 31 0x514a2166b4939883f934d5efae C35 [⟨0,[Ud]⟩] [] t9
abbrev C36:=MY::C35
def OX: Ic:=cJ 53 5 1 0x18bfebbf78da058c0febb35a3ca77cb8dd2eec3edb041e8efe9a4ffe6600f8a7db5d2aa73 C36 [] [] @lU
def OV: Lc 31 0 1:=bL 0x217eafdc8bcadf586fce0e425ae480aae49999701539 C36 [] [] @fG
def OU: Lc 31 0 1:=bL 0x72cbef82a2d01999b532b6014fae1547b40ecba3aa2f8915145a7c53159714b1decf22ae0e2ceec7523a C36 [] [] @lS
def OW: Lc 31 0 0:=bL 0x4f1bfa9068c2ccf5ed677359cb4f30d39b9305e0bd61d07e598eaa4495d199d7 C36 [⟨0,[cs OV,cs OU]⟩] [OX] @lT
def Gj: (oU×List aY)->(((List aY)->Option R)×Unit)->Unit->Option R:=λ(a,b) (c,_) _=>bnd (Bq n (a,b,(ln b)) ([],0)) λd=>c d
def D1:=uM Gj
def OY: Ic:=cJ 31 0 2 0x1f5259e61c70331ae6c163e6c40b08bc4d684917f C36 [⟨0,[OW]⟩] [] @Gj
def Pv: Nat->bK->oU->Option (List aY)
 | 0,_,_=>none
 | n+1,a,b=>bnd (D1 n (b,a.Txns)) λc=>some c
def T3: Kn:=bH 16 0xc44e6a9aad18c7809 C36 [] [OY] Pv
abbrev C37:=T3::C36
def iG(n:Nat): (List Aaa×List Aaa×Int)->(Int->Option R)->((Unit->Option R)×(Unit->Option R)×Unit)->Int->Option R:=λ(a,b,c) d (f,g,_) h=>cd (h<c) (bnd (idx a h) λi=>bnd (idx b h) λj=>cd (i=j) (d<|wr<|h+1)<|f ())<|g ()
def Nl:=qB iG
def Fy: Lc 76 0 0:=bL 0xc874b625ae9b27d636180b9 C37 [] [] @iG
def nT: Nat->(List Aaa)->(List Aaa)->Option Bool
 | 0,_,_=>none
 | n+1,a,b=>cnd ((ln a) != (ln b)) (some false)<|bnd2 (Nl n (a,b,(ln a)) 0) (λ_=>some false) λc=>bnd (some c) λ_=>some true
def On: Kn:=bH 76 0x22517b639974 C37 [⟨0,[Fy]⟩] [] nT
abbrev C38:=On::C37
def gI(n:Nat): (List Int×List Int×Int)->(Int->Option R)->((Unit->Option R)×(Unit->Option R)×Unit)->Int->Option R:=λ(a,b,c) d (f,g,_) h=>cd (h<c) (bnd (idx a h) λi=>bnd (idx b h) λj=>cnd (i != j) (f ())<|d<|wr<|h+1)<|g ()
def Uh:=qB gI
def Nk: Lc 69 0 0:=bL 0x10cf01af06ed822527fde C38 [] [] @gI
def iF: Nat->(List Int)->(List Int)->Option Bool
 | 0,_,_=>none
 | n+1,a,b=>cnd ((ln a) != (ln b)) (some false)<|bnd2 (Uh n (a,b,(ln a)) 0) (λ_=>some false) λc=>bnd (some c) λ_=>some true
def CV: Kn:=bH 69 0x2e1187dd5 C38 [⟨0,[Nk]⟩] [] iF
abbrev C39:=CV::C38
def tZ: (aZ×aZ)->((Bool->Option R)×Unit)->Unit->Option R:=λ(a,b) (c,_) _=>cnd (a.Kind==b.Kind) (cnd (a.ID==b.ID) (cnd (a.A==b.A) (cnd (a.B==b.B) (cnd (a.C==b.C) (cd (a.At=b.At) (bnd (nT n a.Via b.Via) λd=>cnd d (cd (a.Name=b.Name) (bnd (iF n a.Parts b.Parts) λf=>cnd f (c true)<|c false)<|c false)<|c false)<|c false)<|c false)<|c false)<|c false)<|c false)<|c false
def DL:=fB tZ
def Pu: Lc 59 0 0:=bO 0x28a44f51e482 C39 [] [] @tZ
def uW: Nat->aZ->aZ->Option Bool
 | 0,_,_=>none
 | n+1,a,b=>bnd (DL n (a,b)) λc=>cnd c (some true)<|some false
def JI: Kn:=bH 59 0x2e0fbf1c2 C39 [⟨0,[Pu]⟩] [] uW
abbrev C40:=JI::C39
def pZ: (List aZ×List aZ×Int)->(Int->Option R)->(((aZ×aZ)->Option R)×(Unit->Option R)×Unit)->Int->Option R:=λ(a,b,c) d (f,g,_) h=>cd (h<c) (bnd (idx b h) λi=>bnd (idx a h) λj=>bnd (uW n i j) λl=>cnd l (d<|wr<|h+1)<|f (i,j))<|g ()
def VI:=qB pZ
def JJ: Lc 58 0 0:=bL 0x59d6d2784fd5096bbd1aab6d896c5b930318b7ca9698025dd2c361f C40 [] [] @pZ
def Cg: (List aZ×List aZ)->((Bool->Option R)×((aZ×aZ)->Option R)×Unit)->Unit->Option R:=λ(a,b) (c,d,_) _=>cnd ((ln a) != (ln b)) (c false)<|bnd2 (VI n (b,a,(ln a)) 0) (λf=>d (f.1,f.2)) λg=>bnd (some g) λ_=>c true
def Mm:=DS Cg
def JK: Ic:=cJ 58 0 3 0xb578d52bc3470a42694e6d9e4f12229af1dae1a7ea4e08 C40 [⟨0,[JJ]⟩] [] @Cg
def Ku: Nat->aY->aY->Option Bool
 | 0,_,_=>none
 | n+1,a,b=>bnd (eX n a b) λc=>cnd (c==0) (cd (a.Source=b.Source) (bnd2 (Mm n (a.Edits,b.Edits)) (λd=>cnd d (some true)<|some false) λf=>bnd (some f) λ_=>some false)<|some false)<|some false
def B8: Kn:=bH 35 0x275f79727979 C40 [] [JK] Ku
abbrev C41:=B8::C40
def Vm: Lc 18 2 0:=bL 0x3af71a703cae42337359848b26b840d7bb9a108fdb450468fcaca0366dae56894f3 C41 [] [] @fZ
def Vq: Ic:=cJ 18 2 1 0x734d2742602ad01cdfb5fa964ac15f81e5a699544734b3520896a63 C41 [⟨0,[Vm]⟩] [] @sJ
def vQ(n:Nat): (aY×aY)->((Bool->Option R)×Unit)->Unit->Option R:=λ(a,b) (c,_) _=>cnd (b.Office==a.Office) (cnd (b.Seq==a.Seq) (c true)<|c false)<|c false
def Ci:=fB vQ
def Vj: Lc 33 8 0:=bO 0x12c061a1db9b0069ecfa0af183fef87aa62f6d24f12b C41 [] [] @vQ
def vR: (aY×aY)->((Bool->Option R)×Unit)->Unit->Option R:=λ(a,b) (c,_) _=>bnd (Ci n (a,b)) λd=>cnd d (c true)<|c false
def Cj:=uM vR
def Vn: Ic:=cJ 33 8 2 0x78d89e28de1530f8b4fd37fbbb24d C41 [⟨0,[Vj]⟩] [] @vR
def mE: (List aY×aY×Int)->(Int->Option R)->((Int->Option R)×(Unit->Option R)×Unit)->Int->Option R:=λ(a,b,c) d (f,g,_) h=>cd (h<c) (bnd (eM a (List.length a) h) λ_=>bnd (idx a h) λi=>bnd (Cj n (b,i)) λj=>cnd j (f h)<|d<|wr<|h+1)<|g ()
def JM:=qB mE
def Vk: Lc 34 0 0:=bL 0x26d7c7f1090caab52f6e0cdc77cbf6033195cc9838cb C41 [] [Vn] @mE
def vS: (List aY×aY)->((Int->Option R)×Unit)->Unit->Option R:=λ(a,b) (c,_) _=>bnd2 (JM n (a,b,(ln a)) 0) (λd=>c d) λf=>bnd (some f) λ_=>c (-1)
def Ck:=uM vS
def Vo: Ic:=cJ 34 0 2 0x37381ed441c9351f23983c67138d96bd136 C41 [⟨0,[Vk]⟩] [] @vS
def vP: (List aY×Int×aY×Int)->((Bool->Option R)×Unit)->Unit->Option R:=λ(a,b,c,d) (f,_) _=>cd (d>=0) (bnd (eM a (List.length a) d) λ_=>bnd (idx a d) λg=>bnd (Ku n g c) λh=>cnd h (f true)<|f false)<|f false
def Ch:=fB vP
def Vi: Lc 19 0 0:=bO 0x3f6785a4389ebcbf7d59034adc003404740185ab8ea0d25755e545c8ad43f27d4336f86d294cc9ffc853 C41 [] [] @vP
def kU: (List aY×aY)->((Int×Int)->Option R)->((Int->Option R)×Unit)->(Int×Int)->Option R:=λ(a,b) c (d,_) (f,g)=>cd (f<g) (bnd (eM a (List.length a)<|wr<|Int.fdiv (IntKind.u64.wrap<|wr<|f+g) 2) λ_=>bnd (idx a<|wr<|Int.fdiv (IntKind.u64.wrap<|wr<|f+g) 2) λh=>bnd (eX n h b) λi=>cd (i<0) (c ((wr<|(wr<|Int.fdiv (IntKind.u64.wrap<|wr<|f+g) 2)+1),g))<|c (f,(wr<|Int.fdiv (IntKind.u64.wrap<|wr<|f+g) 2)))<|d f
def DN:=qW kU
def Px: Lc 51 0 0:=bL 0x99287ed72068929717491b4ad2fcc223ea3fa8912c429a3216900c9735 C41 [] [] @kU
def uA: (List aY×aY×Int×Int)->((Bool->Option R)×Unit)->Unit->Option R:=λ(a,b,c,d) (f,_) _=>cd (d<c) (bnd (eM a (List.length a) d) λ_=>bnd (idx a d) λg=>bnd (eX n g b) λh=>cnd (h==0) (f true)<|f false)<|f false
def yT:=fB uA
def Pw: Lc 51 0 1:=bO 0x16749ecf0b6d89f3c8e0bdd102ff42b555f6e875cbfbd10b43 C41 [] [] @uA
def uB: (List aY×aY)->(((Int×Bool)->Option R)×Unit)->Unit->Option R:=λ(a,b) (c,_) _=>bnd (DN n (a,b) (0,(ln a))) λd=>bnd (yT n (a,b,(ln a),d)) λf=>cnd f (c (d,true))<|c (d,false)
def yU:=uM uB
def Py: Ic:=cJ 51 0 3 0xb87ad74cbc4dfd977275443469a24686af7b1a4f82efc5a21 C41 [⟨0,[Px]⟩,⟨1,[Pw]⟩] [] @uB
def uC: (List aY×Int×aY)->(((List aY×List aY)->Option R)×Unit)->Unit->Option R:=λ(a,b,c) (d,_) _=>bnd (yU n (a,c)) λf=>cnd f.2 (bnd (dW n c) λg=>bnd (prd n) λ_=>bnd (VN a f.1 g) λh=>d (h,[g]))<|bnd (dW n c) λi=>bnd (prd n) λ_=>bnd (VN a f.1 i) λj=>d (j,[i])
def yV:=uM uC
def Pz: Ic:=cJ 28 0 2 0x123327d30c36c0e86f57add6f226fa49f2d0f6bb67bd1fe88d640888ad554580ff52cac7c1efee6 C41 [] [Py] @uC
def vT: (List aY×Int×aY)->((Int->Option R)×((List aY×List aY)->Option R)×Unit)->Unit->Option R:=λ(a,b,c) (d,f,_) _=>bnd (rV n c) λg=>cnd (g != 0) (d g)<|bnd (Ck n (a,c)) λh=>bnd (Ch n (a,b,c,h)) λi=>cnd i (d 0)<|cd (h>=0) (d 16)<|cd ((ln a)>=256) (d 3)<|bnd (yV n (a,b,c)) λj=>f (j.1,j.2)
def Cl:=DS vT
def Vp: Ic:=cJ 19 0 2 0x5f0c98296732d883af048aefe4c363c7233fe07fb46090424c209c983b79fbbd9fb9e53b46219a79642077a C41 [⟨0,[Vi]⟩] [Vo,Pz] @vT
def mF: (Int×Int×List aY×Int)->((List aY×Int)->Option R)->(((List aY×aY×aY×Int)->Option R)×((List aY)->Option R)×Unit)->(List aY×Int)->Option R:=λ(a,b,c,d) f (g,h,_) (i,j)=>cd (j<d) (bnd (idx c j) λl=>bnd2 (Cl n (i,b,l)) (λm=>cnd (m != 0) (g (i,l,l,m))<|f (i,(wr<|j+1))) λo=>bnd (some o) λr=>f (r.1,(wr<|j+1)))<|h i
def JN:=qB mF
def Vl: Lc 4 0 0:=bL 0x9c21a3866f8581bfffed8cfeb4c4829815022bb363235e2328d79505bf69cc0999275492d74f741e72990b88e70f6d2bd31a90de9e01f767b054f7a0d2a07904c1221ea63dbde0516fb1b919f009899217b8a8ef C41 [] [Vp] @mF
def gA: Nat->bK->(List aY)->Option (bK×Int)
 | 0,_,_=>none
 | n+1,a,b=>bnd (fL n a) λc=>cnd c (bnd (yW n a) λd=>bnd2 (JN n (d.2.1,d.2.2,b,(ln b)) (d.1,0)) (λf=>some ((bK.mk 0 []),f.2.2.2)) λg=>bnd (some g) λh=>some ((bK.mk d.2.2 h),0))<|some ((bK.mk 0 []),19)
def OZ: Kn:=bH 4 0x16198e2c07013ca7e0 C41 [⟨0,[Vl]⟩] [Vq] gA
abbrev C42:=OZ::C41
def qL: Nat->(List Aab)->Option (List Aab)
 | 0,_=>none
 | n+1,a=>bnd (rep (Aab.mk 0<|Aaa.mk 0 0) (ln a)<|ln a) λb=>bnd (cpy b (0,List.length b) a) λc=>bnd (Nu true) λ_=>some c
def RT: Kn:=bH 77 0x375856cc70c1984 C42 [] [] qL
abbrev C43:=RT::C42
def nC: Nat->(List aR)->Option (List aR)
 | 0,_=>none
 | n+1,a=>bnd (rep (aR.mk 0 0 0 [] 0 0) (ln a)<|ln a) λb=>bnd (cpy b (0,List.length b) a) λc=>bnd (Nu true) λ_=>some c
def VY: Kn:=bH 78 0x3758578aca57c00 C43 [] [] nC
abbrev C44:=VY::C43
def iA: Nat->(List Int)->Option (List Int)
 | 0,_=>none
 | n+1,a=>bnd (rep 0 (ln a)<|ln a) λb=>bnd (cpy b (0,List.length b) a) λc=>some c
def VX: Kn:=bH 79 0x2cb4bcd93dbe C44 [] [] iA
abbrev C45:=VX::C44
def kF: Nat->(List aH)->Option (List aH)
 | 0,_=>none
 | n+1,a=>bnd (rep (aH.mk 0 0 0 (⟨#[]⟩:ByteArray) []) (ln a)<|ln a) λb=>bnd (cpy b (0,List.length b) a) λc=>bnd (Nu true) λ_=>some c
def BF: Kn:=bH 80 0x3758583ee5ab67d C45 [] [] kF
abbrev C46:=BF::C45
def jH: Nat->(List Aaa)->Option (List Aaa)
 | 0,_=>none
 | n+1,a=>bnd (rep (Aaa.mk 0 0) (ln a)<|ln a) λb=>bnd (cpy b (0,List.length b) a) λc=>some c
def LM: Kn:=bH 81 0x4c350012588c C46 [] [] jH
abbrev C47:=LM::C46
def nM: (List Int×List Aab×List aH×Int)->((List aR×Int)->Option R)->(((List aR)->Option R)×Unit)->(List aR×Int)->Option R:=λ(a,b,c,d) f (g,_) (h,i)=>cd (i<d) (bnd (eM h (List.length h) i) λ_=>bnd (idx h i) λj=>bnd (jH n j.Via) λl=>bnd (eM h (List.length h) i) λ_=>bnd (idx h i) λm=>f ((List.set h (Int.toNat i)<|aR.mk m.ID m.From m.To l m.Left m.Right),(wr<|i+1)))<|g h
def BW:=qW nM
def WX: Lc 61 0 0:=bL 0x22a3953cadba766bacbcab692029e0f56233fabe527dc698764bc20a8c46b6d75b20e7 C47 [] [] @nM
def nL: (List Int×List Aab×List aR×Int)->((List aH×Int)->Option R)->(((List aH)->Option R)×Unit)->(List aH×Int)->Option R:=λ(a,b,c,d) f (g,_) (h,i)=>cd (i<d) (bnd (eM h (List.length h) i) λ_=>bnd (idx h i) λj=>bnd (iA n j.Parts) λl=>bnd (eM h (List.length h) i) λ_=>bnd (idx h i) λm=>f ((List.set h (Int.toNat i)<|aH.mk m.ID m.Kind m.Class m.Name l),(wr<|i+1)))<|g h
def BV:=qW nL
def WK: Lc 61 0 1:=bL 0x12d2eabdaa9c87b09f933b23779dd4b47a0a03ee3ea668125ad230747315a227ce3c69 C47 [] [] @nL
def GX: Nat->aK->Option aK
 | 0,_=>none
 | n+1,a=>bnd (qL n a.Plan.Nodes) λb=>bnd (nC n a.Plan.Arcs) λc=>bnd (iA n a.Plan.Faces) λd=>bnd (kF n a.Features) λf=>bnd (BW n (d,b,f,(ln c)) (c,0)) λg=>bnd (BV n (d,b,g,(ln f)) (f,0)) λh=>some<|aK.mk (aM.mk b g d) h
def aCB: Kn:=bH 61 0x107502ece749e6a C47 [⟨0,[WX]⟩,⟨1,[WK]⟩] [] GX
abbrev C48:=aCB::C47
def jS(n:Nat): (List Aab×Int)->((List Int×Int)->Option R)->(((List Int)->Option R)×Unit)->(List Int×Int)->Option R:=λ(a,b) c (d,_) (f,g)=>cd (g<b) (bnd (idx a g) λh=>bnd (app f [h.ID]) λi=>c (i,(wr<|g+1)))<|d f
def Ut:=qW jS
def Nq: Lc 159 0 0:=bL 0x4144f6f5d8a0e603181a9318d2c4f99f8c74a25c9fd88a6c20c44f0661fd4 C48 [] [] @jS
def jR(n:Nat): (List aR×Int)->((List Int×Int)->Option R)->(((List Int)->Option R)×Unit)->(List Int×Int)->Option R:=λ(a,b) c (d,_) (f,g)=>cd (g<b) (bnd (idx a g) λh=>bnd (app f [h.ID]) λi=>c (i,(wr<|g+1)))<|d f
def Us:=qW jR
def Np: Lc 159 0 1:=bL 0x5c60919369b61e069145b20d57cc36c10429e1060c1a1661ca0f0a0d0e8a5ee8 C48 [] [] @jR
def sG: Nat->aM->Option (List Int×List Int)
 | 0,_=>none
 | n+1,a=>bnd (Ut n (a.Nodes,(ln a.Nodes)) ([],0)) λb=>bnd (Us n (a.Arcs,(ln a.Arcs)) ([],0)) λc=>some (b,c)
def DG: Kn:=bH 159 0x6d097e3fdc1c3de638261e2 C48 [⟨0,[Nq]⟩,⟨1,[Np]⟩] [] sG
abbrev C49:=DG::C48
def Vg: Lc 160 0 0:=bL 0x289ad2f86029 C49 [] [] @lN
def kQ: Nat->(List Int)->Option Bool
 | 0,_=>none
 | n+1,a=>bnd2 (Qj n a 1) (λ_=>some false) λb=>bnd (some b) λ_=>some true
def OP: Kn:=bH 160 0x2d8c88 C49 [⟨0,[Vg]⟩] [] kQ
abbrev C50:=OP::C49
def sF: Nat->Int->Option Bool
 | 0,_=>none
 | n+1,a=>cd (a<1) (some true)<|cd (a > 1073741824) (some true)<|some false
def DC: Kn:=bH 178 0xb6a C50 [] [] sF
abbrev C51:=DC::C50
def nY: (List Int×Int)->(Int->Option R)->((Int->Option R)×(Unit->Option R)×Unit)->Int->Option R:=λ(a,b) c (d,f,_) g=>cd (g<b) (bnd (idx a g) λh=>bnd (sF n h) λi=>cnd i (d g)<|c<|wr<|g+1)<|f ()
def OK:=qB nY
def DD: Lc 126 0 0:=bL 0xac739c69ca17fa96b6a77cf C51 [] [] @nY
def yN: (List Int)->((Int->Option R)×Unit)->Unit->Option R:=λa (b,_) _=>bnd2 (OK n (a,(ln a)) 0) (λc=>b c) λd=>bnd (some d) λ_=>b (-1)
def OM:=uM yN
def DE: Ic:=cJ 126 0 2 0xd9ef7429fb39ee9eb9e6 C51 [⟨0,[DD]⟩] [] @yN
def yO: (List Int)->((Bool->Option R)×Unit)->Unit->Option R:=λa (b,_) _=>bnd (OM n a) λc=>cd (c>=0) (b true)<|b false
def ON:=uM yO
def DF: Ic:=cJ 105 0 2 0xa264006674a70e8432acac1 C51 [] [DE] @yO
def nA: Nat->(List Int)->Option Bool
 | 0,_=>none
 | n+1,a=>bnd (ON n a) λb=>cnd b (some false)<|some true
def VA: Kn:=bH 161 0x2d8c88 C51 [] [DF] nA
abbrev C52:=VA::C51
def lZ(n:Nat): Aaa->((Bool->Option R)×Unit)->Unit->Option R:=λa (b,_) _=>cd (a.X<(-1048576)) (b true)<|cd (a.X > 1048576) (b true)<|cd (a.Y<(-1048576)) (b true)<|cd (a.Y > 1048576) (b true)<|b false
def pW:=fB lZ
def Ur: Lc 179 0 0:=bO 0x65164922d C52 [] [] @lZ
def yM: Nat->Aaa->Option Bool
 | 0,_=>none
 | n+1,a=>bnd (pW n a) λb=>cnd b (some true)<|some false
def OB: Kn:=bH 179 0x3c4d5e C52 [⟨0,[Ur]⟩] [] yM
abbrev C53:=OB::C52
def OC: Lc 179 0 0:=bO 0x41e70e54556554e0c1a61509a5dfd C53 [] [] @lZ
def Gg: Aaa->((Bool->Option R)×Unit)->Unit->Option R:=λa (b,_) _=>bnd (pW n a) λc=>cnd c (b true)<|b false
def A3:=uM Gg
def OJ: Ic:=cJ 179 0 1 0x17a3b5919a578fe249874236 C53 [⟨0,[OC]⟩] [] @Gg
def sE: (List Aab×Int)->(Int->Option R)->(((Aab×Aaa)->Option R)×(Unit->Option R)×Unit)->Int->Option R:=λ(a,b) c (d,f,_) g=>cd (g<b) (bnd (idx a g) λh=>bnd (A3 n h.At) λi=>cnd i (d (h,h.At))<|c<|wr<|g+1)<|f ()
def A0:=qB sE
def OG: Lc 162 0 0:=bL 0x98bfb10743e3838b6938ce08b18893ad2b531fe1768c7fbe2f88508777 C53 [] [OJ] @sE
def sC: (List Aaa×Int)->(Int->Option R)->((Int->Option R)×(Unit->Option R)×Unit)->Int->Option R:=λ(a,b) c (d,f,_) g=>cd (g<b) (bnd (idx a g) λh=>bnd (yM n h) λi=>cnd i (d g)<|c<|wr<|g+1)<|f ()
def z7:=qB sC
def OD: Lc 125 0 0:=bL 0x4f15b7bdfd69e2c69d1333cb27e83 C53 [] [] @sC
def Ge: (List Aaa)->((Int->Option R)×Unit)->Unit->Option R:=λa (b,_) _=>bnd2 (z7 n (a,(ln a)) 0) (λc=>b c) λd=>bnd (some d) λ_=>b (-1)
def A1:=uM Ge
def OH: Ic:=cJ 125 0 2 0xd9ed95280ff88ffd0d72 C53 [⟨0,[OD]⟩] [] @Ge
def Gf: (List Aaa)->((Bool->Option R)×Unit)->Unit->Option R:=λa (b,_) _=>bnd (A1 n a) λc=>cd (c>=0) (b true)<|b false
def A2:=uM Gf
def OI: Ic:=cJ 103 0 2 0x12462b97e83ae3c438 C53 [] [OH] @Gf
def sD: (List aR×Int)->(Int->Option R)->((aR->Option R)×(Unit->Option R)×Unit)->Int->Option R:=λ(a,b) c (d,f,_) g=>cd (g<b) (bnd (idx a g) λh=>bnd (A2 n h.Via) λi=>cnd i (d h)<|c<|wr<|g+1)<|f ()
def z8:=qB sD
def OE: Lc 162 0 1:=bL 0xb570992d9cafba93c27c08647a6c5ca535e34ecaba04cc C53 [] [OI] @sD
def Pk: Nat->aM->Option Bool
 | 0,_=>none
 | n+1,a=>bnd2 (A0 n (a.Nodes,(ln a.Nodes)) 0) (λ_=>some false) λb=>bnd (some b) λ_=>bnd2 (z8 n (a.Arcs,(ln a.Arcs)) 0) (λ_=>some false) λc=>bnd (some c) λ_=>some true
def S5: Kn:=bH 162 0x2d8e31 C53 [⟨0,[OG]⟩,⟨1,[OE]⟩] [] Pk
abbrev C54:=S5::C53
def jP(n:Nat): (List Int×Int×Int)->(Int->Option R)->((Int->Option R)×(Unit->Option R)×Unit)->Int->Option R:=λ(a,b,c) d (f,g,_) h=>cd (h<c) (bnd (idx a h) λi=>cnd (b==i) (f h)<|d<|wr<|h+1)<|g ()
def Uf:=qB jP
def Nj: Lc 158 0 0:=bL 0xac739c69c70cbc322853493 C54 [] [] @jP
def lG: Nat->(List Int)->Int->Option Int
 | 0,_,_=>none
 | n+1,a,b=>bnd2 (Uf n (a,b,(ln a)) 0) (λc=>some c) λd=>bnd (some d) λ_=>some (-1)
def CU: Kn:=bH 158 0x31533f C54 [⟨0,[Nj]⟩] [] lG
abbrev C55:=CU::C54
def dP: Nat->(List Int)->Int->Option Bool
 | 0,_,_=>none
 | n+1,a,b=>bnd (lG n a b) λc=>cd (c>=0) (some true)<|some false
def Nm: Kn:=bH 134 0x2d8d42 C55 [] [] dP
abbrev C56:=Nm::C55
def mC(n:Nat): (Aab×List Aab×Int)->(Int->Option R)->((Aab->Option R)×(Unit->Option R)×Unit)->Int->Option R:=λ(a,b,c) d (f,g,_) h=>cd (h<c) (bnd (idx b h) λi=>cd (a.At=i.At) (f i)<|d<|wr<|h+1)<|g ()
def IZ:=qB mC
def Uy: Lc 163 0 1:=bL 0x1153dc8dfad31f8b2d77dff77293fe797f05f5972b4a866b5800c047f529900dd5a021ff5823 C56 [] [] @mC
def mD: (aM×List Aab×Int)->(Int->Option R)->(((Aab×Aab)->Option R)×(Unit->Option R)×Unit)->Int->Option R:=λ(a,b,c) d (f,g,_) h=>cd (h<c) (bnd (idx b h) λi=>bnd (cut a.Nodes 0 h) λj=>bnd2 (IZ n (i,j,(ln j)) 0) (λl=>f (i,l)) λm=>bnd (some m) λ_=>d<|wr<|h+1)<|g ()
def JA:=qB mD
def Uz: Lc 163 0 0:=bL 0x112f8fb8d54ffcbc8c33b476fd96e731710d1d6fc01dcfe45cc50 C56 [⟨0,[cs Uy]⟩] [] @mD
def vN: (aR×List Int)->((Bool->Option R)×Unit)->Unit->Option R:=λ(a,b) (c,_) _=>bnd (dP n b a.From) λd=>cnd d (bnd (dP n b a.To) λf=>cnd f (c false)<|c true)<|c true
def Bx:=fB vN
def Uv: Lc 163 0 3:=bO 0xf39b722f7f7ca619856659659c5ede9a09e6e4ed616ac0c73 C56 [] [] @vN
def mB: (List Int×List aR×Int)->(Int->Option R)->((aR->Option R)×(Unit->Option R)×Unit)->Int->Option R:=λ(a,b,c) d (f,g,_) h=>cd (h<c) (bnd (idx b h) λi=>bnd (Bx n (i,a)) λj=>cnd j (f i)<|d<|wr<|h+1)<|g ()
def IY:=qB mB
def Ux: Lc 163 0 2:=bL 0x164d0e9dad417d2ac88e7d09e965d76e3bacca542c86c575e6 C56 [⟨0,[cs Uv]⟩] [] @mB
def vM: (aM×Int)->((Bool->Option R)×Unit)->Unit->Option R:=λ(a,b) (c,_) _=>cnd (b != 0) (bnd (dP n a.Faces b) λd=>cnd d (c false)<|c true)<|c false
def pX:=fB vM
def Uu: Lc 163 0 6:=bO 0x8787f09fffa911de07cbd8e1db5fa15d1dae445862ef5237ebe793c C56 [] [] @vM
def mA: (aM×List aR×Int)->(Int->Option R)->((aR->Option R)×(Unit->Option R)×Unit)->Int->Option R:=λ(a,b,c) d (f,g,_) h=>cd (h<c) (bnd (idx b h) λi=>bnd (Nu<|Nat.ble 3 n) λ_=>bnd (pX n (a,i.Left)) λj=>cnd j (f i)<|bnd (pX n (a,i.Right)) λl=>cnd l (f i)<|d<|wr<|h+1)<|g ()
def IX:=qB mA
def Uw: Lc 163 0 4:=bL 0x259478cbd38b9cec845c193125dd5e8ec1bda5bf305b66a2aea21489ebbc7 C56 [⟨1,[cs Uu]⟩] [] @mA
def yP: Nat->aM->(List Int)->Option Int
 | 0,_,_=>none
 | n+1,a,b=>bnd2 (JA n (a,a.Nodes,(ln a.Nodes)) 0) (λ_=>some 8) λc=>bnd (some c) λ_=>bnd2 (IY n (b,a.Arcs,(ln a.Arcs)) 0) (λ_=>some 7) λd=>bnd (some d) λ_=>bnd2 (IX n (a,a.Arcs,(ln a.Arcs)) 0) (λ_=>some 12) λf=>bnd (some f) λ_=>some 0
def OO: Kn:=bH 163 0x53ecca081 C56 [⟨0,[Uz]⟩,⟨2,[Ux]⟩,⟨4,[Uw]⟩] [] yP
abbrev C57:=OO::C56
def Ew: (Int×List aR×Int)->(Int->Option R)->(((Int×Int×Int×List Aaa×Int×Int×Int×Int×Int×List Aaa×Int×Int)->Option R)×(Unit->Option R)×Unit)->Int->Option R:=λ(a,b,c) d (f,g,_) h=>cd (h<c) (bnd (idx b h) λi=>cnd (i.ID==a) (bnd (clF n i.Via) λj=>f (i.ID,i.From,i.To,j,i.Left,i.Right,i.ID,i.From,i.To,j,i.Left,i.Right))<|d<|wr<|h+1)<|g ()
def aDS:=qB Ew
def T1: Lc 157 0 0:=bL 0xf31ea78d382960ed0d7bd4132305061c619fe514b49a80c6003e00198fc546afaa3483e863c012d967beb36952080319b178d C57 [] [] @Ew
def Pp: Nat->aM->Int->Option (aR×Bool)
 | 0,_,_=>none
 | n+1,a,b=>bnd2 (aDS n (b,a.Arcs,(ln a.Arcs)) 0) (λc=>some ((aR.mk c.1 c.2.1 c.2.2.1 c.2.2.2.1 c.2.2.2.2.1 c.2.2.2.2.2.1),true)) λd=>bnd (some d) λ_=>some ((aR.mk 0 0 0 [] 0 0),false)
def aFV: Kn:=bH 157 0x3e53d82cc C57 [⟨0,[T1]⟩] [] Pp
abbrev C58:=aFV::C57
def yQ(n:Nat): (Int×List Aab×Int)->(Int->Option R)->(((Aab×Aab)->Option R)×(Unit->Option R)×Unit)->Int->Option R:=λ(a,b,c) d (f,g,_) h=>cd (h<c) (bnd (idx b h) λi=>cnd (i.ID==a) (f (i,i))<|d<|wr<|h+1)<|g ()
def aBN:=qB yQ
def A8: Lc 156 0 0:=bL 0x9f7f8e58b97d83b7683223ae8adeb0448451257767abf15b62642259aa86016b910c70b768c669 C58 [] [] @yQ
def jL: Nat->aM->Int->Option (Aab×Bool)
 | 0,_,_=>none
 | n+1,a,b=>bnd2 (aBN n (b,a.Nodes,(ln a.Nodes)) 0) (λc=>some (c.1,true)) λd=>bnd (some d) λ_=>some ((Aab.mk 0<|Aaa.mk 0 0),false)
def aDR: Kn:=bH 156 0x3e53d6af2 C58 [⟨0,[A8]⟩] [] jL
abbrev C59:=aDR::C58
def HX: Nat->(List Aaa)->Int->Option (List Aaa)
 | 0,_,_=>none
 | n+1,_,a=>cd (a<0) none none
def Ug: Kn:=bH 197 0x663d2120a C59 [] [] HX
abbrev C60:=Ug::C59
def gX(n:Nat): ((List<|List Aaa)×Int)->((Int×Int)->Option R)->((Int->Option R)×Unit)->(Int×Int)->Option R:=λ(a,b) c (d,_) (f,g)=>cd (g<b) (bnd (idx a g) λh=>cd ((wr<|f+(ln h))<0) none<|c ((wr<|f+(ln h)),(wr<|g+1)))<|d f
def Kd:=qW gX
def Em: Lc 175 0 0:=bL 0x10f9abb5a9224ff977082011638e2c4f94e C60 [] [] @gX
def mW(n:Nat): Int->((Unit->Option R)×((List Aaa×(Nat×Nat))->Option R)×Unit)->Unit->Option R:=λa (b,c,_) _=>cd (a<0) none<|cd ((wr<|a-0) > 0) (bnd (rep (Aaa.mk 0 0) (wr<|a-0)<|wr<|a-0) λd=>cnd (List.isEmpty d) (b ())<|bnd (sub d (0,List.length d) 0 0) λf=>c (d,f))<|b ()
def Ke:=DS mW
def Eo: Ic:=cJ 197 0 2 0x17588497a740fa5297d33b077d8828534652773d99a2 C60 [] [] @mW
def mV(n:Nat): ((List<|List Aaa)×Int)->(Int->Option R)->((Unit->Option R)×Unit)->Int->Option R:=λ(a,b) c (d,_) f=>cd (f<b) (bnd (idx a f) λg=>cnd (List.isEmpty g) (c<|wr<|f+1)<|bnd (app ([]:List Aaa) g) λ_=>none)<|d ()
def Kc:=qW mV
def El: Lc 175 0 1:=bL 0x2a05dabb3cf897ae57bae1a30be57b595e0026 C60 [] [] @mV
def gW(n:Nat): ((List<|List Aaa)×Int)->((List Aaa×(Nat×Nat)×Int)->Option R)->(((List Aaa×(Nat×Nat))->Option R)×Unit)->(List Aaa×(Nat×Nat)×Int)->Option R:=λ(a,b) c (d,_) (f,g,h)=>cd (h<b) (bnd (idx a h) λi=>bnd (SD f g i) λj=>c (j,(g.1,g.2+List.length i),(wr<|h+1)))<|d (f,g)
def Kb:=qW gW
def Ek: Lc 175 0 1:=bL 0x150f253d35dd4178504cda60ffc4847b53a0f9f0bf16b2f85d C60 [] [] @gW
def lV: Nat->(List<|List Aaa)->Option (List Aaa)
 | 0,_=>none
 | n+1,a=>bnd (Kd n (a,(ln a)) (0,0)) λb=>bnd2 (Ke n b) (λ_=>bnd (Kc n (a,(ln a)) 0) λ_=>some []) λc=>bnd (some c) λd=>bnd (Kb n (a,(ln a)) (d.1,d.2,0)) λf=>some<|win f.1<|some f.2
def Nn: Kn:=bH 175 0x4c33562aff06 C60 [⟨0,[Em]⟩,⟨1,[El,Ek]⟩] [Eo] lV
abbrev C61:=Nn::C60
def kR(n:Nat): Unit->((Unit->Option R)×Unit)->Unit->Option R:=λ_ (a,_) _=>a ()
def gQ:=fB kR
def A7: Lc 151 0 0:=bO 0x7707ae1e948da4c61baf405f3aab26ed238 C61 [] [] @kR
def A6: Lc 151 0 0:=bO 0x9fb6ec8cf2bde75f4c6a06dea963c9c0 C61 [] [] @kR
def A5: Lc 151 0 0:=bO 0x9fb6ec8ce75b652b36ec9cc62e6b9d52 C61 [] [] @kR
def A4: Lc 151 0 0:=bO 0x11f7b68da08a986ec9ede592ab1 C61 [] [] @kR
def xM: Nat->aM->Int->Option (List Aaa×Int)
 | 0,_,_=>none
 | n+1,a,b=>bnd (Pp n a b) λc=>cnd c.2 (bnd (jL n a c.1.From) λd=>cnd d.2 (bnd (jL n a c.1.To) λf=>cnd f.2 (bnd (gQ n ()) λ_=>bnd (lV n [[d.1.At],c.1.Via,[f.1.At]]) λg=>some (g,0))<|bnd (gQ n ()) λ_=>some ([],7))<|bnd (jL n a c.1.To) λh=>cnd h.2 (bnd (gQ n ()) λ_=>some ([],7))<|bnd (gQ n ()) λ_=>some ([],7))<|bnd (jL n a c.1.From) λi=>cnd i.2 (bnd (jL n a c.1.To) λj=>cnd j.2 (bnd (gQ n ()) λ_=>some ([],7))<|bnd (gQ n ()) λ_=>some ([],7))<|bnd (jL n a c.1.To) λl=>cnd l.2 (bnd (gQ n ()) λ_=>some ([],7))<|bnd (gQ n ()) λ_=>some ([],7)
def aDQ: Kn:=bH 151 0x6d236363638bd6ebfbc1b906578ad C61 [⟨0,[A7,A6,A5,A4]⟩] [] xM
abbrev C62:=aDQ::C61
def yL(n:Nat): (aR×List Aaa×Int)->((Bool->Option R)×Unit)->Unit->Option R:=λ(a,b,c) (d,_) _=>cnd (c != 0) (d true)<|cnd (a.From==a.To) (cd ((ln b)<4) (d true)<|d false)<|d false
def Gb:=fB yL
def CY: Lc 180 0 1:=bO 0x4b511ee473212993a6a18af79e882c90362012278040fd7857852a9320981 C62 [] [] @yL
def nW(n:Nat): (List Aaa×aBp×Int)->((List bA×Int)->Option R)->(((List bA×List bA)->Option R)×((List bA)->Option R)×Unit)->(List bA×Int)->Option R:=λ(a,b,c) d (f,g,_) (h,i)=>cd (i<c) (bnd (idx a i) λj=>bnd (idx a<|wr<|i+1) λl=>cd (j=l) (f (h,[]))<|bnd (app h [(bA.mk b i)]) λm=>d (m,(wr<|i+1)))<|g h
def NP:=qB nW
def CZ: Lc 180 0 2:=bL 0x16533b8fb1059467eccf0dc9752bc2c730b539013480bf9a4c560fbc270fb2856317c15a83df8f50815bb3c69389a308bc0974fa5e7a616def31526c1298a05c C62 [] [] @nW
def nX: (aM×List aR×Int)->((List bA×Int)->Option R)->(((List bA×aR×List bA)->Option R)×((List bA×aR×List bA)->Option R)×((List bA)->Option R)×Unit)->(List bA×Int)->Option R:=λ(a,b,c) d (f,g,h,_) (i,j)=>cd (j<c) (bnd (idx b j) λl=>bnd (xM n a l.ID) λm=>bnd (Gb n (l,m.1,m.2)) λo=>cnd o (f (i,l,[]))<|bnd2 (NP n (m.1,(aBp.mk l m.1),(wr<|(ln m.1)-1)) (i,0)) (λr=>g (r.1,l,r.2)) λs=>bnd (some s) λt=>d (t,(wr<|j+1)))<|h i
def NQ:=lp3 nX
def DB: Lc 180 0 0:=bL 0x596f509b22c00cd4e58969032a921b0d229a85c80a5b68e80d62360653f8b48a066a3edde7328c44e22a42981c6b33eace5dd2e8e4668889d9e3a952bfbf7d8a05cb6d5f C62 [⟨0,[cs CY]⟩,⟨1,[cs CZ]⟩] [] @nX
end
end
section
variable {R:Type}(n:Nat)
noncomputable section
def Eu: Nat->aM->Option (List bA×Bool)
 | 0,_=>none
 | n+1,a=>bnd2 (NQ n (a,a.Arcs,(ln a.Arcs)) ([],0)) (λb=>bnd (Nu true) λ_=>some (b.2.2,false)) λc=>bnd2 (some c) (λd=>bnd (Nu true) λ_=>some (d.2.2,false)) λf=>bnd (some f) λg=>bnd (Nu true) λ_=>some (g,true)
def UZ: Kn:=bH 180 0x3dbb2a9d08680e76bdf5 C62 [⟨0,[DB]⟩] [] Eu
abbrev C63:=UZ::C62
def dG: Nat->bA->Option (Aaa×Aaa)
 | 0,_=>none
 | n+1,a=>bnd (idx a.line.path a.at_) λb=>bnd (idx a.line.path<|wr<|a.at_+1) λc=>some (b,c)
def Uo: Kn:=bH 186 0x10750583e5743f4 C63 [] [] dG
abbrev C64:=Uo::C63
def gO: Nat->bA->Option Int
 | 0,_=>none
 | n+1,a=>bnd (dG n a) λb=>some<|PS b.1.X b.2.X
def Um: Kn:=bH 183 0x6cff6f C64 [] [] gO
abbrev C65:=Um::C64
def pV: Nat->bA->bA->Option Int
 | 0,_,_=>none
 | n+1,a,b=>bnd (gO n a) λc=>bnd (gO n b) λd=>bnd (cD n c d) λf=>some f
def NR: Kn:=bH 182 0x3e8df7116463 C65 [] [] pV
abbrev C66:=NR::C65
def pU: Nat->bA->Option Int
 | 0,_=>none
 | n+1,a=>bnd (dG n a) λb=>some<|oB b.1.X b.2.X
def Uq: Kn:=bH 184 0x6cff6f C66 [] [] pU
abbrev C67:=Uq::C66
def Qz(n:Nat): Aaa->((Bool->Option R)×Unit)->Unit->Option R:=λa (b,_) _=>cd (a.X<(-2097152)) (b true)<|cd (a.X > 2097152) (b true)<|cd (a.Y<(-2097152)) (b true)<|cd (a.Y > 2097152) (b true)<|b false
def KD:=fB Qz
def H3: Lc 201 0 1:=bO 0x1882be2763de5a5c6a2c82b73fb5f3e57f9c1853e C67 [] [] @Qz
def zE: (List Aaa×Int)->(Int->Option R)->((Aaa->Option R)×(Unit->Option R)×Unit)->Int->Option R:=λ(a,b) c (d,f,_) g=>cd (g<b) (bnd (idx a g) λh=>bnd (KD n h) λi=>cnd i (d h)<|c<|wr<|g+1)<|f ()
def aCt:=qB zE
def H4: Lc 201 0 0:=bL 0x476e4e278ab2e6543d07419f38f64d4c C67 [⟨0,[cs H3]⟩] [] @zE
def oZ: Nat->(List Aaa)->Option Bool
 | 0,_=>none
 | n+1,a=>bnd2 (aCt n (a,(ln a)) 0) (λ_=>some false) λb=>bnd (some b) λ_=>some true
def aE5: Kn:=bH 201 0x3c50fd C67 [⟨0,[H4]⟩] [] oZ
abbrev C68:=aE5::C67
def hP: Nat->Aaa->Aaa->Aaa->Option Int
 | 0,_,_,_=>none
 | n+1,a,b,c=>some<|wr<|(wr<|(wr<|b.X-a.X)*(wr<|c.Y-a.Y))-(wr<|(wr<|b.Y-a.Y)*(wr<|c.X-a.X))
def aCs: Kn:=bH 202 0x6a06c8 C68 [] [] hP
abbrev C69:=aCs::C68
def KF: (Aaa×Aaa×Aaa)->((Bool->Option R)×Unit)->Unit->Option R:=λ(a,b,c) (d,_) _=>bnd (oZ n [a,b,c]) λf=>cnd f (bnd (hP n a b c) λg=>cnd (g != 0) (d true)<|d false)<|d true
def H6:=fB KF
def aCx: Lc 187 0 0:=bO 0x734a14bd8b7f0541f30d14729465e56cd7798e514f260eb95a47ba3 C69 [] [] @KF
def KE(n:Nat): (Aaa×Aaa×Aaa)->((Bool->Option R)×Unit)->Unit->Option R:=λ(a,b,c) (d,_) _=>cd ((PS a.X b.X)<=c.X) (cd (c.X<=(oB a.X b.X)) (cd ((PS a.Y b.Y)<=c.Y) (cd (c.Y<=(oB a.Y b.Y)) (d true)<|d false)<|d false)<|d false)<|d false
def H5:=fB KE
def aCw: Lc 187 0 1:=bO 0x619bbbbf64eade60548fd0073b992ed13db C69 [] [] @KE
def tP: Nat->Aaa->Aaa->Aaa->Option Bool
 | 0,_,_,_=>none
 | n+1,a,b,c=>bnd (H6 n (a,b,c)) λd=>cnd d (some false)<|bnd (H5 n (a,b,c)) λf=>cnd f (some true)<|some false
def aJF: Kn:=bH 187 0x6f1ab1 C69 [⟨0,[aCx]⟩,⟨1,[aCw]⟩] [] tP
abbrev C70:=aJF::C69
def DW: Nat->Aaa->Aaa->Aaa->Option Int
 | 0,_,_,_=>none
 | n+1,a,b,c=>bnd (oZ n [a,b,c]) λd=>cnd d (bnd (hP n a b c) λf=>some f)<|some 0
def aCv: Kn:=bH 212 0x20b79e0b017936fe89 C70 [] [] DW
abbrev C71:=aCv::C70
def jM: Nat->Aaa->Aaa->Aaa->Option Int
 | 0,_,_,_=>none
 | n+1,a,b,c=>bnd (DW n a b c) λd=>cd (d > 0) (some 1)<|cd (d<0) (some (-1))<|some 0
def aE6: Kn:=bH 207 0x6a06c8 C71 [] [] jM
abbrev C72:=aE6::C71
def Hh(n:Nat): (Aaa×Aaa)->((Bool->Option R)×Unit)->Unit->Option R:=λ(a,b) (c,_) _=>cd (a.X<b.X) (c true)<|cnd (a.X==b.X) (cd (a.Y<b.Y) (c true)<|c false)<|c false
def Ra:=fB Hh
def QE: Lc 213 0 0:=bO 0x3686f9565 C72 [] [] @Hh
def pA: Nat->Aaa->Aaa->Option Bool
 | 0,_,_=>none
 | n+1,a,b=>bnd (Ra n (a,b)) λc=>cnd c (some true)<|some false
def U2: Kn:=bH 213 0x46e298 C72 [⟨0,[QE]⟩] [] pA
abbrev C73:=U2::C72
def sS: (Aaa×Aaa)->(((Aaa×Aaa)->Option R)×Unit)->Unit->Option R:=λ(a,b) (c,_) _=>bnd (pA n b a) λd=>cnd d (c (b,a))<|c (a,b)
def zD:=fB sS
def QD: Lc 208 0 0:=bO 0x17ca70fced6406a27bad010e6b690173670a94c7ecc1 C73 [] [] @sS
def QC: Lc 208 0 1:=bO 0xd37657a0fc1fc002919be9f1fc7138f640a3dc1bb2a96a3c5 C73 [] [] @sS
def Hg: (Aaa×Aaa)->((Aaa->Option R)×Unit)->Unit->Option R:=λ(a,b) (c,_) _=>bnd (pA n b a) λd=>cnd d (c a)<|c b
def Qx:=fB Hg
def QB: Lc 208 0 2:=bO 0x41417f7d20433e19b4609083f4687b0278df8c2f79c2126ea2ee266c7b244 C73 [] [] @Hg
def Hf: (Aaa×Aaa)->((Aaa->Option R)×Unit)->Unit->Option R:=λ(a,b) (c,_) _=>bnd (pA n a b) λd=>cnd d (c a)<|c b
def Qw:=fB Hf
def QA: Lc 208 0 3:=bO 0x5f42560e3c0c4c27529231d1c481a624de18bb88e729b7ee5421c13a9093c7a923903623 C73 [] [] @Hf
def Qy: Nat->Aaa->Aaa->Aaa->Aaa->Option Int
 | 0,_,_,_,_=>none
 | n+1,a,b,c,d=>bnd (zD n (a,b)) λf=>bnd (zD n (c,d)) λg=>bnd (Qx n (g.1,f.1)) λh=>bnd (Qw n (g.2,f.2)) λi=>cd (h=i) (some 1)<|bnd (pA n h i) λj=>cnd j (some 2)<|some 0
def U0: Kn:=bH 208 0x1b628e98f147 C73 [⟨0,[QD]⟩,⟨1,[QC]⟩,⟨2,[QB]⟩,⟨3,[QA]⟩] [] Qy
abbrev C74:=U0::C73
def Rc: (Aaa×Aaa×Aaa×Aaa)->((Bool->Option R)×Unit)->Unit->Option R:=λ(a,b,c,d) (f,_) _=>bnd (jM n a b c) λg=>cnd (g==0) (bnd (jM n a b d) λh=>cnd (h==0) (f true)<|f false)<|f false
def KH:=fB Rc
def H8: Lc 200 0 0:=bO 0x37ceea5d5dd3dcfcd5b207548fe3fff28bf76127eb7d101232cb22a6f0 C74 [] [] @Rc
def Rb: (Aaa×Aaa×Aaa×Aaa)->((Bool->Option R)×Unit)->Unit->Option R:=λ(a,b,c,d) (f,_) _=>bnd (jM n a b c) λg=>bnd (jM n a b d) λh=>cd ((wr<|g*h)<=0) (bnd (jM n c d a) λi=>bnd (jM n c d b) λj=>cd ((wr<|i*j)<=0) (f true)<|f false)<|f false
def KG:=fB Rb
def H7: Lc 200 0 1:=bO 0x2f2bad60e07e84c002d6ffcb291b63785a37f70d2 C74 [] [] @Rb
def Tm: Nat->Aaa->Aaa->Aaa->Aaa->Option Int
 | 0,_,_,_,_=>none
 | n+1,a,b,c,d=>bnd (oZ n [a,b,c,d]) λf=>cnd f (cd (a=b) (bnd (tP n c d a) λg=>cnd g (some 1)<|some 0)<|cd (c=d) (bnd (tP n a b c) λh=>cnd h (some 1)<|some 0)<|bnd (KH n (a,b,c,d)) λi=>cnd i (bnd (Qy n a b c d) λj=>some j)<|bnd (KG n (a,b,c,d)) λl=>cnd l (some 1)<|some 0)<|some 0
def aE7: Kn:=bH 200 0x873d0660c238d32b6f1703d C74 [⟨0,[H8]⟩,⟨1,[H7]⟩] [] Tm
abbrev C75:=aE7::C74
def jB: Nat->bA->Option Bool
 | 0,_=>none
 | n+1,a=>cnd (a.at_==0) (some true)<|some false
def Pe: Kn:=bH 188 0x3c50fe C75 [] [] jB
abbrev C76:=Pe::C75
def gP: Nat->bA->Option Bool
 | 0,_=>none
 | n+1,a=>cnd (a.at_==(wr<|(ln a.line.path)-2)) (some true)<|some false
def Un: Kn:=bH 189 0x3c50fe C76 [] [] gP
abbrev C77:=Un::C76
def kP(n:Nat): (bA×bA)->(((bA×bA)->Option R)×Unit)->Unit->Option R:=λ(a,b) (c,_) _=>cd (a.at_ > b.at_) (c (b,a))<|c (a,b)
def oA:=fB kP
def Po: Lc 185 0 0:=bO 0x22d1f4982beea35579b3877fa0a77d177d9994768415faf C77 [] [] @kP
def kO: (bA×bA)->((Bool->Option R)×Unit)->Unit->Option R:=λ(a,b) (c,_) _=>cnd ((wr<|a.at_+1)==b.at_) (c true)<|cnd (a.line.Arc.From==a.line.Arc.To) (bnd (jB n a) λd=>cnd d (bnd (gP n b) λf=>cnd f (c true)<|c false)<|c false)<|c false
def nZ:=fB kO
def Pn: Lc 185 0 1:=bO 0x3eadf6a79eb54305f0387825d826ae569d22b3252 C77 [] [] @kO
def kN: (bA×Aaa×Aaa×Aaa×Aaa×Int×Int×Int)->((Bool->Option R)×Unit)->Unit->Option R:=λ(a,b,c,d,f,g,h,i) (j,_) _=>cnd (i==a.line.Arc.From) (bnd (tP n b c<|Aaa.mk g h) λl=>cnd l (bnd (tP n d f<|Aaa.mk g h) λm=>cnd m (j true)<|j false)<|j false)<|cnd (i==a.line.Arc.To) (bnd (tP n b c<|Aaa.mk g h) λo=>cnd o (bnd (tP n d f<|Aaa.mk g h) λr=>cnd r (j true)<|j false)<|j false)<|j false
def fY:=fB kN
def Pm: Lc 185 0 3:=bO 0xd18cca90c65f080e48dd7e796755abd26186558607fe11eabb1b9f4027dc18fd11777e783d3e0d5dc53fc29fbf93225429ca3 C77 [] [] @kN
def VB: Nat->bA->bA->(List<|Int×Aaa)->Option Bool
 | 0,_,_,_=>none
 | n+1,a,b,c=>bnd (dG n a) λd=>bnd (dG n b) λf=>bnd (Tm n d.1 d.2 f.1 f.2) λg=>cnd (a.line.Arc.ID==b.line.Arc.ID) (bnd (oA n (a,b)) λh=>bnd (nZ n (h.1,h.2)) λi=>cnd i (cnd (g==1) (some true)<|some false)<|cnd (g==0) (some true)<|some false)<|cnd (g != 1) (cnd (g==0) (some true)<|some false)<|bnd (Nu<|Nat.ble 3 n) λ_=>bnd (fY n (b,d.1,d.2,f.1,f.2,(Option.getD (cE c a.line.Arc.From)<|Aaa.mk 0 0).X,(Option.getD (cE c a.line.Arc.From)<|Aaa.mk 0 0).Y,a.line.Arc.From)) λj=>cnd j (some true)<|bnd (fY n (b,d.1,d.2,f.1,f.2,(Option.getD (cE c a.line.Arc.To)<|Aaa.mk 0 0).X,(Option.getD (cE c a.line.Arc.To)<|Aaa.mk 0 0).Y,a.line.Arc.To)) λl=>cnd l (some true)<|some false
def JB: Kn:=bH 185 0x198d220275e645e672c1a C77 [⟨0,[Po]⟩,⟨1,[Pn]⟩,⟨3,[Pm]⟩] [] VB
abbrev C78:=JB::C77
def sA(n:Nat): (List Aab×Int)->(((List<|Int×Aaa)×Int)->Option R)->((((List<|Int×Aaa))->Option R)×Unit)->((List<|Int×Aaa)×Int)->Option R:=λ(a,b) c (d,_) (f,g)=>cd (g<b) (bnd (idx a g) λh=>c ((kW f h.ID h.At),(wr<|g+1)))<|d f
def z6:=qW sA
def NZ: Lc 164 0 0:=bL 0x414501807cbecc5d9a209cd58e43de55ceddabce9b58f1d670eb665a65966 C78 [] [] @sA
def NV: Lc 185 0 0:=bO 0x19f41e3f8f5b8aa311ea1a84658a138d6cc86750826254c78c C78 [] [] @kP
def NU: Lc 185 0 1:=bO 0x22d28d599ab1d2957a01d6f658557f687438ac04b335a2a C78 [] [] @kO
def NT: Lc 185 0 3:=bO 0x40ad82293d8fcc65a90639763310daa0ad45648c8776a8e108c343fa5719f7919b040baee042f09a56580e9a785acb576948bb97c588b4c0a C78 [] [] @kN
def Gd: ((List<|Int×Aaa)×bA×bA)->(((bA×bA×Aaa×Aaa×Aaa×Aaa×Bool)->Option R)×((Aaa×Aaa×Aaa×Aaa×Int×Int)->Option R)×Unit)->Unit->Option R:=λ(a,b,c) (d,f,_) _=>bnd (dG n b) λg=>bnd (dG n c) λh=>bnd (Tm n g.1 g.2 h.1 h.2) λi=>cnd (b.line.Arc.ID==c.line.Arc.ID) (bnd (oA n (b,c)) λj=>bnd (nZ n (j.1,j.2)) λl=>cnd l (cnd (i==1) (d (j.1,j.2,g.1,g.2,h.1,h.2,true))<|d (j.1,j.2,g.1,g.2,h.1,h.2,false))<|cnd (i==0) (d (j.1,j.2,g.1,g.2,h.1,h.2,true))<|d (j.1,j.2,g.1,g.2,h.1,h.2,false))<|cnd (i != 1) (cnd (i==0) (d (b,c,g.1,g.2,h.1,h.2,true))<|d (b,c,g.1,g.2,h.1,h.2,false))<|bnd (Nu<|Nat.ble 3 n) λ_=>bnd (fY n (c,g.1,g.2,h.1,h.2,(Option.getD (cE a b.line.Arc.From)<|Aaa.mk 0 0).X,(Option.getD (cE a b.line.Arc.From)<|Aaa.mk 0 0).Y,b.line.Arc.From)) λm=>cnd m (f (g.1,g.2,h.1,h.2,(Option.getD (cE a b.line.Arc.From)<|Aaa.mk 0 0).X,(Option.getD (cE a b.line.Arc.From)<|Aaa.mk 0 0).Y))<|bnd (fY n (c,g.1,g.2,h.1,h.2,(Option.getD (cE a b.line.Arc.To)<|Aaa.mk 0 0).X,(Option.getD (cE a b.line.Arc.To)<|Aaa.mk 0 0).Y,b.line.Arc.To)) λo=>cnd o (f (g.1,g.2,h.1,h.2,(Option.getD (cE a b.line.Arc.To)<|Aaa.mk 0 0).X,(Option.getD (cE a b.line.Arc.To)<|Aaa.mk 0 0).Y))<|d (b,c,g.1,g.2,h.1,h.2,false)
def Pi:=DS Gd
def OA: Ic:=cJ 185 0 3 0x18e41b987b9a4e4181769412b4a74b32886de6b3d5b86b216f67d588d776e073688d36efeebebfd07f9039a7cc9a59da6a278aaf103b12f4d C78 [⟨0,[NV]⟩,⟨1,[NU]⟩,⟨3,[NT]⟩] [] @Gd
def rY: ((List<|Int×Aaa)×bA×List bA×Int)->(Int->Option R)->((Unit->Option R)×((bA×bA×bA×Aaa×Aaa×Aaa×Aaa)->Option R)×Unit)->Int->Option R:=λ(a,b,c,d) f (g,h,_) i=>cd (i<d) (bnd (idx c i) λj=>bnd (gO n j) λl=>bnd (pU n b) λm=>cd (l > m) (g ())<|bnd2 (Pi n (a,b,j)) (λo=>cnd o.2.2.2.2.2.2 (f<|wr<|i+1)<|h (j,o.1,o.2.1,o.2.2.1,o.2.2.2.1,o.2.2.2.2.1,o.2.2.2.2.2.1)) λr=>bnd (some r) λ_=>f<|wr<|i+1)<|g ()
def z5:=qB rY
def NX: Lc 164 0 2:=bL 0x487a2b96926ddc41af6e2b888a41df239ab97e14c691ab33081bd00b0515c19d567a6e10ee2c192fc5ff07e33bd048b471a1d2ec5067c5aae67b C78 [] [OA] @rY
def Gc: (bA×Aab×Aaa×Aaa)->((Bool->Option R)×Unit)->Unit->Option R:=λ(a,b,c,d) (f,_) _=>bnd (tP n c d b.At) λg=>cnd g (bnd (jB n a) λh=>cnd h (cnd (a.line.Arc.From==b.ID) (f false)<|bnd (gP n a) λi=>cnd i (cnd (a.line.Arc.To==b.ID) (f false)<|f true)<|f true)<|bnd (gP n a) λj=>cnd j (cnd (a.line.Arc.To==b.ID) (f false)<|f true)<|f true)<|f false
def Pf:=fB Gc
def NS: Lc 164 0 4:=bO 0x276c2544b5205a6f44df6a0ed23c6bc76e64613f17c0d55bb465dd5cf593cc4a2c4bc14b8d1f9b06c C78 [] [] @Gc
def rW: (bA×List Aab×Int)->(Int->Option R)->(((Aab×Aaa×Aaa)->Option R)×(Unit->Option R)×Unit)->Int->Option R:=λ(a,b,c) d (f,g,_) h=>cd (h<c) (bnd (idx b h) λi=>bnd (dG n a) λj=>bnd (Pf n (a,i,j.1,j.2)) λl=>cnd l (f (i,j.1,j.2))<|d<|wr<|h+1)<|g ()
def y9:=qB rW
def NW: Lc 164 0 3:=bL 0xbbf7bdf0b747ab1f5e3731c716afc3da931325bc42ca063c6e83ee1ed28a15fd6f2d4672fbded21f6 C78 [⟨0,[cs NS]⟩] [] @rW
def rZ: (aM×(List<|Int×Aaa)×List bA×List bA×Int)->(Int->Option R)->(((bA×Aab×Aaa×Aaa)->Option R)×((bA×bA×bA×bA×Aaa×Aaa×Aaa×Aaa)->Option R)×(Unit->Option R)×Unit)->Int->Option R:=λ(a,b,c,d,f) g (h,i,j,_) l=>cd (l<f) (bnd (idx d l) λm=>bnd (cut c (wr<|l+1)<|ln c) λo=>bnd2 (z5 n (b,m,o,(ln o)) 0) (λ_=>bnd2 (y9 n (m,a.Nodes,(ln a.Nodes)) 0) (λr=>h (m,r.1,r.2.1,r.2.2)) λs=>bnd (some s) λ_=>g<|wr<|l+1) λt=>bnd (some t) λu=>i (m,u.1,u.2.1,u.2.2.1,u.2.2.2.1,u.2.2.2.2.1,u.2.2.2.2.2.1,u.2.2.2.2.2.2))<|j ()
def Pg:=lp3 rZ
def NY: Lc 164 0 1:=bL 0x49eb90d565332ce8303658c1ed340b9545bd053829811d9b1f0249704f5283cf5670328a36a35d294bf6e2e8acb9812340ff853b303b92567d681eaed939cbade8172f59 C78 [⟨0,[cs NX]⟩,⟨1,[cs NW]⟩] [] @rZ
def Pj: Nat->aM->Option Bool
 | 0,_=>none
 | n+1,a=>bnd (Eu n a) λb=>cnd b.2 (bnd (z6 n (a.Nodes,(ln a.Nodes)) ([],0)) λc=>bnd (prd n) λd=>bnd (Nu<|decide<|List.length b.1<=1000000) λ_=>bnd (qY (λ(f g:bA)=>bnd (pV d f g) λh=>some h) b.1) λi=>bnd2 (Pg n (a,c,i,i,(ln i)) 0) (λ_=>some false) λj=>bnd2 (some j) (λ_=>some false) λl=>bnd (some l) λ_=>some true)<|some false
def S4: Kn:=bH 164 0x194dae9a0fbe C78 [⟨0,[NZ]⟩,⟨1,[NY]⟩] [] Pj
abbrev C79:=S4::C78
def Mj(n:Nat): aM->((Bool->Option R)×Unit)->Unit->Option R:=λa (b,_) _=>cd ((ln a.Nodes) > 256) (b true)<|cd ((ln a.Arcs) > 256) (b true)<|cd ((ln a.Faces) > 64) (b true)<|b false
def S8:=fB Mj
def VE: Lc 136 0 0:=bO 0x262837d2c1fba20 C79 [] [] @Mj
def uU(n:Nat): (List aR×Int)->(Int->Option R)->((aR->Option R)×(Unit->Option R)×Unit)->Int->Option R:=λ(a,b) c (d,f,_) g=>cd (g<b) (bnd (idx a g) λh=>cd ((ln h.Via) > 64) (d h)<|c<|wr<|g+1)<|f ()
def S9:=qB uU
def VF: Lc 136 0 1:=bL 0x297e8ddbdfa61098082bd170be7d464caf846cf88a81 C79 [] [] @uU
def Mi: (aM×List Int×List Int)->((Bool->Option R)×Unit)->Unit->Option R:=λ(a,b,c) (d,_) _=>bnd (kQ n b) λf=>cnd f (bnd (kQ n c) λg=>cnd g (bnd (kQ n a.Faces) λh=>cnd h (d false)<|d true)<|d true)<|d true
def S7:=fB Mi
def VD: Lc 136 0 2:=bO 0x2f2b9f9d4814446de93e15c750a34107dc0ae5746 C79 [] [] @Mi
def Mh: (aM×List Int×List Int)->((Bool->Option R)×Unit)->Unit->Option R:=λ(a,b,c) (d,_) _=>bnd (nA n b) λf=>cnd f (bnd (nA n c) λg=>cnd g (bnd (nA n a.Faces) λh=>cnd h (bnd (Pk n a) λi=>cnd i (d false)<|d true)<|d true)<|d true)<|d true
def S6:=fB Mh
def VC: Lc 136 0 3:=bO 0x48beac58f8099dad97aa06054eaebdcbb5970e C79 [] [] @Mh
def Ko: Nat->aM->Option Int
 | 0,_=>none
 | n+1,a=>bnd (S8 n a) λb=>cnd b (some 3)<|bnd2 (S9 n (a.Arcs,(ln a.Arcs)) 0) (λ_=>some 3) λc=>bnd (some c) λ_=>bnd (sG n a) λd=>bnd (S7 n (a,d.1,d.2)) λf=>cnd f (some 10)<|bnd (S6 n (a,d.1,d.2)) λg=>cnd g (some 2)<|bnd (yP n a d.1) λh=>cnd (h != 0) (some h)<|bnd (Pj n a) λi=>cnd i (some 0)<|some 11
def aBO: Kn:=bH 136 0x31542e C79 [⟨0,[VE]⟩,⟨1,[VF]⟩,⟨2,[VD]⟩,⟨3,[VC]⟩] [] Ko
abbrev C80:=aBO::C79
def Mn(n:Nat): (Aaa×Aaa)->((Bool->Option R)×Unit)->Unit->Option R:=λ(a,b) (c,_) _=>cd (b.Y<a.Y) (c true)<|cnd (b.Y==a.Y) (cd (b.X<a.X) (c true)<|c false)<|c false
def U1:=fB Mn
def VS: Lc 206 0 0:=bO 0x3686f9565 C80 [] [] @Mn
def hU: Nat->Aaa->Aaa->Option Bool
 | 0,_,_=>none
 | n+1,a,b=>bnd (U1 n (a,b)) λc=>cnd c (some true)<|some false
def aCu: Kn:=bH 206 0x46e298 C80 [⟨0,[VS]⟩] [] hU
abbrev C81:=aCu::C80
def Rd: (Aaa×Aaa×Aaa)->((Bool->Option R)×Unit)->Unit->Option R:=λ(a,b,c) (d,_) _=>bnd (oZ n [a,b,c]) λf=>cnd f (cd (b=a) (d true)<|cd (c=a) (d true)<|d false)<|d true
def KI:=fB Rd
def H9: Lc 196 0 0:=bO 0x734a14bd8b7f0541f30d14729465e5716a185ab3e8d1d46147fed06 C81 [] [] @Rd
def Tn: Nat->Aaa->Aaa->Aaa->Option Bool
 | 0,_,_,_=>none
 | n+1,a,b,c=>bnd (KI n (a,b,c)) λd=>cnd d (some false)<|bnd (hU n a b) λf=>cnd f (bnd (hU n a c) λg=>cnd g (cd (true=true) (bnd (hP n a b c) λh=>cd (h > 0) (some true)<|some false)<|bnd (hU n a c) λi=>cnd i (some true)<|some false)<|cd (true=false) (bnd (hP n a b c) λj=>cd (j > 0) (some true)<|some false)<|bnd (hU n a c) λl=>cnd l (some true)<|some false)<|bnd (hU n a c) λm=>cnd m (cd (false=true) (bnd (hP n a b c) λo=>cd (o > 0) (some true)<|some false)<|bnd (hU n a c) λr=>cnd r (some true)<|some false)<|cd (false=false) (bnd (hP n a b c) λs=>cd (s > 0) (some true)<|some false)<|bnd (hU n a c) λt=>cnd t (some true)<|some false
def aE8: Kn:=bH 196 0x6f1ab1 C81 [⟨0,[H9]⟩] [] Tn
abbrev C82:=aE8::C81
def Fp(n:Nat): (aR×Int)->((Bool->Option R)×Unit)->Unit->Option R:=λ(a,b) (c,_) _=>cnd (a.From != b) (cnd (a.To != b) (c true)<|c false)<|c false
def r9:=fB Fp
def MS: Lc 147 0 1:=bO 0x5f336fb702643e478e14956d404c9103a73e7d3e0891d666495a22a808a04b392338bf63 C82 [] [] @Fp
def rU(n:Nat): (List Int×(List<|Int×Aaa)×Int×Aaa)->(((List Int×(List<|Int×Aaa))->Option R)×Unit)->Unit->Option R:=λ(a,b,c,d) (f,_) _=>bnd (app a [c]) λg=>f (g,(kW b c d))
def pE:=uM rU
def MW: Ic:=cJ 172 0 4 0x1e45a95d93b3abac2cdb058a1b4d0b638c5b36f0925dedf53fc1d8eed1bf6a6ecf2704 C82 [] [] @rU
def MV: Ic:=cJ 172 0 4 0x16904c4d0fa75b6544bd04d2f2a03e2bf8e20acb4ecada2a1e2dc9b45b6c25d8b849095ac C82 [] [] @rU
def lF: (aM×Int×List aR×Int)->((List Int×(List<|Int×Aaa)×Int)->Option R)->(((List Int×(List<|Int×Aaa))->Option R)×Unit)->(List Int×(List<|Int×Aaa)×Int)->Option R:=λ(a,b,c,d) f (g,_) (h,i,j)=>cd (j<d) (bnd (idx c j) λl=>bnd (r9 n (l,b)) λm=>cnd m (f (h,i,(wr<|j+1)))<|bnd (xM n a l.ID) λo=>cnd (o.2 != 0) (f (h,i,(wr<|j+1)))<|cnd (l.From==b) (bnd (idx o.1 1) λr=>bnd (pE n (h,i,l.ID,r)) λs=>cnd (l.To==b) (bnd (idx o.1<|wr<|(ln o.1)-2) λt=>bnd (pE n (s.1,s.2,(wr<|0-l.ID),t)) λu=>f (u.1,u.2,(wr<|j+1)))<|f (s.1,s.2,(wr<|j+1)))<|cnd (l.To==b) (bnd (idx o.1<|wr<|(ln o.1)-2) λv=>bnd (pE n (h,i,(wr<|0-l.ID),v)) λw=>f (w.1,w.2,(wr<|j+1)))<|f (h,i,(wr<|j+1)))<|g (h,i)
def s6:=qW lF
def MT: Lc 147 0 0:=bL 0x2a6e76c7eba9257c260e848d10b599c48c91ec8cf0575ef552b7d2ec21779d9533ffec3af01dc57d77e3b931db C82 [⟨0,[cs MS]⟩] [MW,MV] @lF
def Fq: (Aab×(List<|Int×Aaa)×Int×Int)->((Int->Option R)×Unit)->Unit->Option R:=λ(a,b,c,d) (f,_) _=>bnd (Tn n a.At (Aaa.mk ((Option.getD (cE b c)<|Aaa.mk 0 0).X)<|(Option.getD (cE b c)<|Aaa.mk 0 0).Y)<|Aaa.mk ((Option.getD (cE b d)<|Aaa.mk 0 0).X)<|(Option.getD (cE b d)<|Aaa.mk 0 0).Y) λg=>cnd g (f (-1))<|bnd (Tn n a.At (Aaa.mk ((Option.getD (cE b d)<|Aaa.mk 0 0).X)<|(Option.getD (cE b d)<|Aaa.mk 0 0).Y)<|Aaa.mk ((Option.getD (cE b c)<|Aaa.mk 0 0).X)<|(Option.getD (cE b c)<|Aaa.mk 0 0).Y) λh=>cnd h (f 1)<|f 0
def xS:=uM Fq
def MU: Ic:=cJ 173 6 4 0x1794f2b54fc78c9e83e6906a568874d19d823b76677d9e9f1d76035bcb4c632ca65304 C82 [] [] @Fq
def Nx: Nat->aM->Int->Option (List Int)
 | 0,_,_=>none
 | n+1,a,b=>bnd (jL n a b) λc=>cnd c.2 (bnd (s6 n (a,b,a.Arcs,(ln a.Arcs)) ([],[],0)) λd=>bnd (prd n) λf=>bnd (Nu<|decide<|List.length d.1<=1000000) λ_=>bnd (qY (λ(g h:Int)=>bnd (xS f (c.1,d.2,g,h)) λi=>some i) d.1) λj=>some j)<|some []
def Q9: Kn:=bH 147 0x1283e3f7bf3d171cabc19 C82 [⟨0,[MT]⟩] [MU] Nx
abbrev C83:=Q9::C82
def xR: Nat->(List Int)->Int->Option Int
 | 0,_,_=>none
 | n+1,a,b=>bnd (lG n a b) λc=>cd (c<0) (some 0)<|bnd (aJl (wr<|(wr<|c+(ln a))-1)<|ln a) λd=>bnd (idx a d) λf=>some f
def MM: Kn:=bH 148 0x31533f C83 [] [] xR
abbrev C84:=MM::C83
def rQ: (List Int×List Int×Int)->((List Int×(List<|Int×Int)×Int)->Option R)->(((List Int×(List<|Int×Int))->Option R)×Unit)->(List Int×(List<|Int×Int)×Int)->Option R:=λ(a,b,c) d (f,_) (g,h,i)=>cd (i<c) (bnd (idx b i) λj=>bnd (app g [j]) λl=>bnd (xR n a j) λm=>d (l,(kW h (wr<|0-j) m),(wr<|i+1)))<|f (g,h)
def r6:=qW rQ
def MP: Lc 127 0 1:=bL 0xaf00f2952b6a68053f6177a562f3a465c9ed294778fc69d57c8e75494df59edfd11068dfea4f3cdd5dca036d7a86f24c3c146c574f7 C84 [] [] @rQ
def rS: (aM×List Aab×Int)->((List Int×(List<|Int×Int)×Int)->Option R)->(((List Int×(List<|Int×Int))->Option R)×Unit)->(List Int×(List<|Int×Int)×Int)->Option R:=λ(a,b,c) d (f,_) (g,h,i)=>cd (i<c) (bnd (idx b i) λj=>bnd (Nx n a j.ID) λl=>bnd (r6 n (l,l,(ln l)) (g,h,0)) λm=>d (m.1,m.2,(wr<|i+1)))<|f (g,h)
def r7:=qW rS
def MQ: Lc 127 0 0:=bL 0xfd7518eea1e1d2609e1cdafa75b08d7f3ef6555630d07c65a8db3b4f096c99563c37bbdbcad046560 C84 [⟨0,[cs MP]⟩] [] @rS
def rJ(n:Nat): ((List<|Int×Int))->(((List<|Int×Bool)×List Int×Int)->Option R)->((((List<|Int×Bool)×List Int)->Option R)×Unit)->((List<|Int×Bool)×List Int×Int)->Option R:=λa b (c,_) (d,f,g)=>cnd ((Option.getD (cE d g) false)) (c (d,f))<|bnd (app f [g]) λh=>b ((kW d g true),h,(Option.getD (cE a g) 0))
def r5:=qW rJ
def MN: Lc 150 0 0:=bL 0x3191eb3adda51cc8079b0c7e36baa08eafffe7eb0d13f09090fd0387de6f41c13f10104efff054b39a2d8e54629f5 C84 [] [] @rJ
def Fo: ((List<|Int×Int)×(List<|Int×Bool)×Int)->((((List<|Int×Bool)×List Int)->Option R)×Unit)->Unit->Option R:=λ(a,b,c) (d,_) _=>bnd (r5 n a (b,[],c)) λf=>d (f.1,f.2)
def r8:=uM Fo
def MR: Ic:=cJ 150 0 3 0x13c50c7dc0060aae6b1cce2bb949ae17d1a025da20e7c6899b7409a4c46e435025d5f86d2 C84 [⟨0,[MN]⟩] [] @Fo
def rP: ((List<|Int×Int)×List Int×Int)->(((List<|List Int)×(List<|Int×Bool)×Int)->Option R)->((((List<|List Int)×(List<|Int×Bool))->Option R)×Unit)->((List<|List Int)×(List<|Int×Bool)×Int)->Option R:=λ(a,b,c) d (f,_) (g,h,i)=>cd (i<c) (bnd (idx b i) λj=>cnd ((Option.getD (cE h j) false)) (d (g,h,(wr<|i+1)))<|bnd (r8 n (a,h,j)) λl=>bnd (app g [l.2]) λm=>d (m,l.1,(wr<|i+1)))<|f (g,h)
def Nw:=qW rP
def MO: Lc 127 0 2:=bL 0x2713137b4a46309c9c59061f0ed8ba4d929af93fb1771d4d2279f04a58694c102b6355ab5c729f173a80218f3b88b95198a6a9e11459f5970043f33038 C84 [] [MR] @rP
def Bm: Nat->aM->Option ((List<|List Int)×Int)
 | 0,_=>none
 | n+1,a=>bnd (Ko n a) λb=>cnd (b != 0) (some ([],b))<|bnd (r7 n (a,a.Nodes,(ln a.Nodes)) ([],[],0)) λc=>bnd (prd n) λ_=>bnd (Nu<|decide<|List.length c.1<=1000000) λ_=>bnd (Nw n (c.2,(tX c.1),(ln<|tX c.1)) ([],[],0)) λd=>some (d.1,0)
def Q8: Kn:=bH 127 0x3ca22b7768037b59c081a7fe22883350089 C84 [⟨0,[MQ]⟩,⟨2,[MO]⟩] [] Bm
abbrev C85:=Q8::C84
def lX: (aM×List aR×Int)->(((List<|Int×List Aaa)×Int)->Option R)->((((List<|Int×List Aaa))->Option R)×Unit)->((List<|Int×List Aaa)×Int)->Option R:=λ(a,b,c) d (f,_) (g,h)=>cd (h<c) (bnd (idx b h) λi=>bnd (xM n a i.ID) λj=>cnd (j.2==0) (d ((kW g i.ID j.1),(wr<|h+1)))<|d (g,(wr<|h+1)))<|f g
def IF:=qW lX
def Uj: Lc 128 0 0:=bL 0x4fe9121ca6cece57243bf3db6772f64c0adb1aa8bb5927e0d64fb5c C85 [] [] @lX
def pM: Nat->aM->Option (List<|Int×List Aaa)
 | 0,_=>none
 | n+1,a=>bnd (IF n (a,a.Arcs,(ln a.Arcs)) ([],0)) λb=>some b
def NL: Kn:=bH 128 0xc44373e7f414c5624 C85 [⟨0,[Uj]⟩] [] pM
abbrev C86:=NL::C85
def Jq: Nat->aM->Int->Option (aR×Bool)
 | 0,_,_=>none
 | n+1,a,b=>cnd (b==0) (some ((aR.mk 0 0 0 [] 0 0),false))<|cnd (b==(-9223372036854775808)) (some ((aR.mk 0 0 0 [] 0 0),false))<|bnd (Pp n a<|oB b<|wr<|0-b) λc=>cnd c.2 (some (c.1,true))<|some (c.1,false)
def aBt: Kn:=bH 176 0x3e53d82cc C86 [] [] Jq
abbrev C87:=aBt::C86
def uN(n:Nat): (List Aaa×Int)->((Int×Int)->Option R)->((Int->Option R)×Unit)->(Int×Int)->Option R:=λ(a,b) c (d,_) (f,g)=>cd (g<b) (bnd (idx a g) λh=>bnd (idx a<|wr<|g+1) λi=>bnd (idx a<|wr<|g+1) λj=>bnd (idx a g) λl=>c ((wr<|f+(wr<|(wr<|h.X*i.Y)-(wr<|j.X*l.Y))),(wr<|g+1)))<|d f
def Q6:=qW uN
def UL: Lc 152 0 1:=bL 0x18f798698548e0411075e328963d5339803c902c589552e C87 [] [] @uN
def uO: (aM×List Int×Int)->((Int×Int)->Option R)->((aR->Option R)×(Int->Option R)×Unit)->(Int×Int)->Option R:=λ(a,b,c) d (f,g,_) (h,i)=>cd (i<c) (bnd (idx b i) λj=>bnd (Jq n a j) λl=>cnd l.2 (bnd (xM n a<|oB j<|wr<|0-j) λm=>cnd (m.2 != 0) (f l.1)<|bnd (Q6 n (m.1,(wr<|(ln m.1)-1)) (0,0)) λo=>cd (j<0) (d ((wr<|h+(wr<|0-o)),(wr<|i+1)))<|d ((wr<|h+o),(wr<|i+1)))<|f l.1)<|g h
def Q7:=qB uO
def UM: Lc 152 0 0:=bL 0xbc59ca31d3f30d72861587b6c7d32a81c9faae7ae9b32855d C87 [⟨0,[cs UL]⟩] [] @uO
def rH: Nat->aM->(List Int)->Option Int
 | 0,_,_=>none
 | n+1,a,b=>cd ((ln b) > 512) (some 0)<|bnd2 (Q7 n (a,b,(ln b)) (0,0)) (λ_=>some 0) λc=>bnd (some c) λd=>some d
def Jr: Kn:=bH 152 0x53ecca081 C87 [⟨0,[UM]⟩] [] rH
abbrev C88:=Jr::C87
def kJ: (Aaa×Aaa×Aaa)->((Bool->Option R)×Unit)->Unit->Option R:=λ(a,b,c) (d,_) _=>cd (b.Y<=a.Y) (cd (a.Y<c.Y) (bnd (jM n b c a) λf=>cd (f > 0) (d true)<|d false)<|d false)<|d false
def mY:=fB kJ
def yE: Lc 198 0 0:=bO 0x1348aad742493799c6c0c3ed8392ff35886378afd1d0450d779d299632c13 C88 [] [] @kJ
def kI: (Aaa×Aaa×Aaa)->((Bool->Option R)×Unit)->Unit->Option R:=λ(a,b,c) (d,_) _=>cd (c.Y<=a.Y) (cd (a.Y<b.Y) (bnd (jM n b c a) λf=>cd (f<0) (d true)<|d false)<|d false)<|d false
def mX:=fB kI
def yD: Lc 198 0 1:=bO 0x3e7a581e9e3e61ee7eeafb9583795aa13b86858a39124b460 C88 [] [] @kI
def kK: (Aaa×Bool×Bool×Aaa×Aaa)->(((Bool×Bool)->Option R)×Unit)->Unit->Option R:=λ(a,b,c,d,f) (g,_) _=>bnd (tP n d f a) λh=>cnd h (g (true,c))<|bnd (mY n (a,d,f)) λi=>cnd i (g (b,(!c)))<|bnd (mX n (a,d,f)) λj=>cnd j (g (b,(!c)))<|g (b,c)
def mZ:=uM kK
def yH: Ic:=cJ 198 0 5 0x8977ba3777b4f9ddfbef482effc21881de6b41deb4f44f3d4b06 C88 [⟨0,[yE]⟩,⟨1,[yD]⟩] [] @kK
def eG: (Aaa×List Aaa)->((Bool×Bool×Int)->Option R)->(((Bool×Bool)->Option R)×Unit)->(Bool×Bool×Int)->Option R:=λ(a,b) c (d,_) (f,g,h)=>cd (h<(ln b)) (bnd (idx b<|wr<|h-1) λi=>bnd (idx b h) λj=>bnd (mZ n (a,f,g,i,j)) λl=>cnd l.1 (cnd l.2 (c (true,true,(wr<|h+1)))<|c (true,false,(wr<|h+1)))<|cnd l.2 (c (false,true,(wr<|h+1)))<|c (false,false,(wr<|h+1)))<|d (f,g)
def Ep:=qW eG
def yF: Lc 199 0 1:=bL 0x64e3a9035d0e58aa32bf0e1f564db7630c19fe64189b771f23db6cb8b3 C88 [] [yH] @eG
def fW: (Aaa×(List<|Int×List Aaa)×List Int×Int)->((Bool×Bool×Int)->Option R)->(((Bool×Bool)->Option R)×Unit)->(Bool×Bool×Int)->Option R:=λ(a,b,c,d) f (g,_) (h,i,j)=>cd (j<d) (bnd (idx c j) λl=>bnd (Ep n (a,(Option.getD (cE b<|oB l<|wr<|0-l) [])) (h,i,1)) λm=>f (m.1,m.2,(wr<|j+1)))<|g (h,i)
def Er:=qW fW
def yG: Lc 199 0 0:=bL 0xc0f9d0591c017c5c5015769efcbdc44d7e3f2994bc3329 C88 [⟨0,[cs yF]⟩] [] @fW
def kL: (Aaa×(List<|Int×List Aaa)×List Int)->(((Bool×Bool)->Option R)×Unit)->Unit->Option R:=λ(a,b,c) (d,_) _=>bnd (Er n (a,b,c,(ln c)) (false,false,0)) λf=>d (f.1,f.2)
def Es:=uM kL
def yI: Ic:=cJ 199 0 3 0x25493394f9ffefbaf97adef53ecd54eacc9a04715 C88 [⟨0,[yG]⟩] [] @kL
def eN: Nat->(List<|Int×List Aaa)->(List Int)->Aaa->Option Bool
 | 0,_,_,_=>none
 | n+1,a,b,c=>bnd (Es n (c,a,b)) λd=>cnd d.1 (cnd d.2 (some false)<|some false)<|cnd d.2 (some true)<|some false
def Ga: Kn:=bH 177 0x2248772dc96131492a C88 [] [yI] eN
abbrev C89:=Ga::C88
def pL: (Aaa×(List<|Int×List Aaa)×List Lu×Int×Int)->((Bool->Option R)×Unit)->Unit->Option R:=λ(a,b,c,d,f) (g,_) _=>cnd (d==0) (bnd (idx c f) λh=>bnd (eN n b h.outer a) λi=>cnd i (g true)<|g false)<|bnd (idx c f) λj=>bnd (idx c d) λl=>cd (j.twice<l.twice) (bnd (idx c f) λm=>bnd (eN n b m.outer a) λo=>cnd o (g true)<|g false)<|g false
def tY:=fB pL
def Ki: Lc 153 0 1:=bO 0x37d76d3884350b089ab91896619d05c07d4b191845c06a88836ff8ee79 C89 [] [] @pL
def jA: (Aaa×(List<|Int×List Aaa)×List Lu)->((Int×Int)->Option R)->((Int->Option R)×Unit)->(Int×Int)->Option R:=λ(a,b,c) d (f,_) (g,h)=>cd (h<(ln c)) (bnd (tY n (a,b,c,g,h)) λi=>cnd i (d (h,(wr<|h+1)))<|d (g,(wr<|h+1)))<|f g
def Oz:=qW jA
def Kj: Lc 153 0 0:=bL 0x102e873a34a6f33256ea71fc0c95943a0b725cd7e918 C89 [⟨0,[cs Ki]⟩] [] @jA
end
end
section
variable {R:Type}(n:Nat)
noncomputable section
def eF: Nat->(List<|Int×List Aaa)->(List Lu)->Aaa->Option Int
 | 0,_,_,_=>none
 | n+1,a,b,c=>bnd (Oz n (c,a,b) (0,1)) λd=>some d
def lW: Kn:=bH 153 0x186295dbfb74a10320d10 C89 [⟨0,[Kj]⟩] [] eF
abbrev C90:=lW::C89
def Gh(n:Nat): (aR×Int×Int)->((Int->Option R)×Unit)->Unit->Option R:=λ(a,b,c) (d,_) _=>cnd (a.From==b) (d<|wr<|c+1)<|d c
def A9:=fB Gh
def OQ: Lc 113 0 1:=bO 0xa263bc7bcdd6d0765b6faa1907e4591578fcf6703145e988a C90 [] [] @Gh
def sH: (Int×List aR×Int)->((Int×Int)->Option R)->((Int->Option R)×Unit)->(Int×Int)->Option R:=λ(a,b,c) d (f,_) (g,h)=>cd (h<c) (bnd (idx b h) λi=>bnd (A9 n (i,a,g)) λj=>cnd (i.To==a) (d ((wr<|j+1),(wr<|h+1)))<|d (j,(wr<|h+1)))<|f g
def B0:=qW sH
def OR: Lc 113 0 0:=bL 0x4651c388ddafe9abfa8d77f2f9ead C90 [⟨0,[cs OQ]⟩] [] @sH
def kS: Nat->aM->Int->Option Int
 | 0,_,_=>none
 | n+1,a,b=>bnd (B0 n (b,a.Arcs,(ln a.Arcs)) (0,0)) λc=>some c
def Ev: Kn:=bH 113 0x315287 C90 [⟨0,[OR]⟩] [] kS
abbrev C91:=Ev::C90
end
end
section
open jJ (den cds ag)
noncomputable section
def bl(x n:Nat): List Bool:=(List.range n).map λi=>x.testBit i
abbrev z0: Value:=.int .i64 0
def aSx: bU:=(.seq (.region false [] [o1 24 (.ibin .lss (tp 23) (tp 22))]) (.seq (.cond (tp 24) .skip (.exit 0)) (.seq (.block 1 (.seq (.region false [] [o1 25 (.idxAddr 1 (tp 21) (tp 23)),o1 26 (.load false 1 (tp 25)),om 10 26]) (.seq (.region false [] [o1 27 (.load true 3 (tp 3)),om 28 10,o1 29 (.callB 152 [(tp 27),(tp 28)]),om 11 29]) (.seq (.region false [] [om 30 11,o1 31 (.ibin .gtr (tp 30) (.lit z0))]) (.cond (tp 31) (.region false [] [om 32 7,om 33 11,om 34 10,o1 35 (.build [z0,bS,bS,bS] [(0,1,(tp 33)),(1,1,(tp 34))]),o1 36 (.buildSl false 4 1 [z0,bS,bS,bS] [(0,(tp 35))]),o1 37 (.append 4 80 (tp 32) (tp 36)),om 7 37]) (.region false [] [om 38 8,om 39 10,o1 40 (.buildSl true 1 1 [bS] [(0,(tp 39))]),o1 41 (.append 1 24 (tp 38) (tp 40)),om 8 41])))))) (.region false [] [o1 42 (.ibin .add (tp 23) (.lit (.int .i64 1))),om 23 42]))))
def aSw: bU:=(.seq (.region false [] [o1 46 (.ibin .lss (tp 45) (tp 44))]) (.seq (.cond (tp 46) .skip (.exit 2)) (.seq (.block 3 (.seq (.region false [] [o1 47 (.idxAddr 1 (tp 43) (tp 45)),o1 48 (.load false 1 (tp 47)),om 13 48]) (.seq (.region true [] [om 49 2,om 50 13,o1 51 (.idxAddr 1 (tp 50) (.lit z0)),o1 52 (.load false 1 (tp 51)),om 53 13,o1 54 (.idxAddr 1 (tp 53) (.lit z0)),o1 55 (.load false 1 (tp 54)),o1 56 (.un .neg (tp 55)),o1 57 (.minmax true [(tp 52),(tp 56)]),o1 58 (.lookup 3 (.lit bS) (tp 49) (tp 57) false),om 14 58]) (.seq (.region false [] [om 59 2,om 60 7,om 61 14,o1 62 (.idxAddr 2 (tp 61) (.lit z0)),o1 63 (.load true 2 (tp 62)),o1 64 (.callB 153 [(tp 59),(tp 60),(tp 63)]),om 15 64]) (.region false [] [om 65 7,om 66 15,om 67 7,om 68 15,o1 69 (.idxAddr 4 (tp 67) (tp 68)),o1 70 (.fieldAddr 2 (tp 69)),o1 71 (.load false 1 (tp 70)),om 72 13,o1 73 (.buildSl true 1 1 [bS] [(0,(tp 72))]),o1 74 (.append 1 24 (tp 71) (tp 73)),o1 75 (.idxAddr 4 (tp 65) (tp 66)),o1 76 (.fieldAddr 2 (tp 75)),⟨none,.store 1 (tp 76) (tp 74),none⟩]))))) (.region false [] [o1 77 (.ibin .add (tp 45) (.lit (.int .i64 1))),om 45 77]))))
def aSv: bU:=(.seq (.region false [] [o1 82 (.ibin .lss (tp 81) (tp 80))]) (.seq (.cond (tp 82) .skip (.exit 4)) (.seq (.block 5 (.seq (.region false [] [o1 83 (.idxAddr 3 (tp 79) (tp 81)),o1 84 (.load true 3 (tp 83)),o1 17 (.alloc [z0,z0,z0]),⟨none,.store 3 (tp 17) (tp 84),none⟩]) (.seq (.region false [] [o1 85 (.load true 3 (tp 3)),o1 86 (.fieldAddr 0 (tp 17)),o1 87 (.load false 1 (tp 86)),o1 88 (.callB 113 [(tp 85),(tp 87)]),o1 89 (.ibin .eql (tp 88) (.lit z0))]) (.cond (tp 89) (.seq (.region false [] [om 90 2,om 91 7,o1 92 (.fieldAddr 1 (tp 17)),o1 93 (.load true 2 (tp 92)),o1 94 (.callB 153 [(tp 90),(tp 91),(tp 93)]),om 18 94]) (.region true [] [om 95 7,om 96 18,om 97 7,om 98 18,o1 99 (.idxAddr 4 (tp 97) (tp 98)),o1 100 (.fieldAddr 3 (tp 99)),o1 101 (.load false 1 (tp 100)),o1 102 (.fieldAddr 0 (tp 17)),o1 103 (.load false 1 (tp 102)),o1 104 (.buildSl true 1 1 [z0] [(0,(tp 103))]),o1 105 (.append 1 8 (tp 101) (tp 104)),o1 106 (.idxAddr 4 (tp 95) (tp 96)),o1 107 (.fieldAddr 3 (tp 106)),⟨none,.store 1 (tp 107) (tp 105),none⟩])) .skip)))) (.region false [] [o1 108 (.ibin .add (tp 81) (.lit (.int .i64 1))),om 81 108]))))
theorem aPe: (Q5 T 129).body=(.seq (.region false [] [o1 3 (.box (tp 0)),o1 6 (.movN (.lit bS))]) (.seq (.region false [] [o1 19 (.build [z0,bS,bS,bS] []),o1 20 (.buildSl false 4 1 [z0,bS,bS,bS] [(0,(tp 19))]),om 7 20]) (.seq (.region false [] [o1 8 (.claim 1)]) (.seq (.seq (.region false [] [om 21 1,o1 22 (.lenS (tp 21)),o1 23 (.mov (.lit z0))]) (.block 0 (.mask (bl 0x18c 9) (bl 0x40 7) false (.loop (some (bl 0xe0018c 24)) false aSx)))) (.seq (.seq (.region false [] [om 43 8,o1 44 (.lenS (tp 43)),o1 45 (.mov (.lit z0))]) (.block 2 (.mask (bl 0x8c 8) (bl 0x40 7) false (.loop (some (bl 0x38000000008c 46)) false aSw)))) (.seq (.seq (.region false [] [o1 78 (.fieldAddr 0 (tp 3)),o1 79 (.load false 1 (tp 78)),o1 80 (.lenS (tp 79)),o1 81 (.mov (.lit z0))]) (.block 4 (.mask (bl 0x80 8) (bl 0x40 7) false (.loop (some (bl 0x38000000000000000008c 82)) false aSv)))) (.seq (.region false [] [om 109 7,om 6 109]) .ret))))))):=by kernel_rfl
def arV(a:dO): Lu:=⟨a.twice,a.outer,(),()⟩
def dv1(n:Nat)(p:aM): List (List Int)->List dO->List (List Int)->Option (List dO×List (List Int))
 | [],l,q=>some (l,q)
 | c::cs,l,q=>bnd (rH n p c) λt=>cnd (decide (t > 0)) (dv1 n p cs (l++[⟨t,c,[],[]⟩]) q) (dv1 n p cs l (q++[c]))
def dv2(n:Nat)(m:List (Int×List Aaa)): List (List Int)->List dO->Option (List dO)
 | [],l=>some l
 | c::cs,l=>bnd (idx c 0) λd=>bnd (idx ((cE m (oB d (wr (0-d)))).getD []) 0) λat_=>bnd (eF n m (l.map arV) at_) λi=>bnd (idx l i) λa=>
  dv2 n m cs (l.set i.toNat ⟨a.twice,a.outer,a.inner++[c],a.alone⟩)
def dv3(n:Nat)(p:aM)(m:List (Int×List Aaa)): List Aab->List dO->Option (List dO)
 | [],l=>some l
 | x::xs,l=>bnd (kS n p x.ID) λd=>cnd (d==0)
  (bnd (eF n m (l.map arV) x.At) λi=>bnd (idx l i) λa=>dv3 n p m xs (l.set i.toNat ⟨a.twice,a.outer,a.inner,a.alone++[x.ID]⟩))
  (dv3 n p m xs l)
def jK: Nat->aM->List (List Int)->List (Int×List Aaa)->Option (List dO)
 | 0,_,_,_=>none
 | n+1,p,cs,m=>bnd (Nu (decide (cs.length<n/\p.Nodes.length<n/\cs.length<=190000/\p.Nodes.length<=9000))) λ_=>bnd (dv1 n p cs [⟨0,[],[],[]⟩] []) λq=>bnd (dv2 n m q.2 q.1) λl=>dv3 n p m p.Nodes l
structure RA where
 a:dO
 o:AV
 x:AV
 y:AV
def RA.c(r:RA): List AV:=[iv r.a.twice,r.o,r.x,r.y]
def iB(kd:Nat)(H:aW)(x:AV)(l:List (den kd)): Prop:=(x=.lit bS/\l=[])\/∃k es,x=.ms k es.length 0 es.length/\3<=k/\H[k]?=some (.blk 1 es)/\Ql kd l es
def idC: AV->Option Nat
 | .ms k _ _ _=>some k
 | _=>none
def sel(r:RA)(u:Bool): AV:=match u with
 | true=>r.y
 | false=>r.x
structure DI(H:aW)(w:List RA): Prop where
 co:∀(i:Nat) (r:RA),w[i]?=some r->Qp (.sl 1 r.a.outer) r.o
 cx:∀(i:Nat) (r:RA),w[i]?=some r->iB 12 H r.x r.a.inner
 cy:∀(i:Nat) (r:RA),w[i]?=some r->iB 1 H r.y r.a.alone
 ne:∀(i j:Nat) (r s:RA) (u v:Bool) (k:Nat),w[i]?=some r->w[j]?=some s->idC (sel r u)=some k->idC (sel s v)=some k->i=j/\u=v
theorem iB.id{kd:Nat}{H:aW}{x:AV}{l:List (den kd)}{k:Nat}(h:iB kd H x l)(hk:idC x=some k): 3<=k/\∃o,H[k]?=some o:=by
 rcases h with⟨rfl,_⟩ | ⟨k',es,rfl,h3,hh,_⟩
 .cases hk
 .cases hk;exact⟨h3,_,hh⟩
theorem iB.mono{kd:Nat}{H H':aW}{x:AV}{l:List (den kd)}(h:iB kd H x l)(hk:∀k,idC x=some k->H'[k]?=H[k]?): iB kd H' x l:=by
 rcases h with⟨rfl,h⟩ | ⟨k',es,rfl,h3,hh,q⟩
 .exact .inl ⟨rfl,h⟩
 .exact .inr ⟨k',es,rfl,h3,by rw[hk k' rfl];exact hh,q⟩
theorem iB.shut{kd:Nat}{H H':aW}{x:AV}{l:List (den kd)}{d:Nat}(h:iB kd H x l)(hk:∀k,3<=k->H'[k]?=H[k]?): Qp (.sl kd l) (eE H' 0 (d+1) x):=by
 rcases h with⟨rfl,rfl⟩ | ⟨k',es,rfl,h3,hh,q⟩
 .exact Qp.mkS (es:=[]) (.inr ⟨false,rfl⟩) trivial
 .simp only[eE,ZG,Zz,rd,hk k' h3,hh,YD,XO]
  exact Qp.mkS (.inr ⟨_,rfl⟩) ((Gs H' 0 d).ls q)
theorem iB.grow{kd:Nat}{H:aW}{x:AV}{l:List (den kd)}{bytes:Nat}{e:den kd}{row:List AV}(h:iB kd H x l)(hr:Qr (jX kd e) row)(h1:row.length=1)(hb:bytes<=100000)(hl:l.length<=200000)(h3:3<=H.length):
 ∃k es H',cR 0 H 1 bytes x [row]=some (.ms k es.length 0 es.length,H')/\3<=k/\H'[k]?=some (.blk 1 es)/\Ql kd (l++[e]) es/\(∀j,j≠k->H'[j]?=H[j]?)/\(idC x=some k\/H[k]?=none)/\H.length<=H'.length:=by
 have a1:eZ 1 [row]=true:=by simp[eZ,h1]
 have rm:∀z,z<=300000->lI z bytes=true:=λz hz=>by
  have:z*bytes<=300000*100000:=Y8 hz hb
  unfold lI;simp;omega
 rcases h with⟨rfl,rfl⟩ | ⟨k',es,rfl,hk,hh,q⟩
 .refine⟨H.length,[row],H++[.blk 1 [row]],?_,h3,?_,⟨hr,trivial⟩,?_,.inr (Zy (Zf _)),by simp⟩
  .show (if eZ 1 [row]=true/\0<1/\lI 1 bytes=true then _ else _)=_
   rw[Zu ⟨a1,by decide,rm 1 (by decide)⟩];rfl
  .rw[ZX (Zf _),XR];rfl
  .intro j hj
   rcases ZI j H.length with h | h
   .rw[Zo h]
   .rw[Zy h,Zy (by simp;omega)]
 .have hlt:k'<H.length:=(Ze.1 hh).1
  have hes:=q.len
  refine⟨k',es++[row],H.set k' (.blk 1 (es++[row])),?_,hk,?_,q.app ⟨hr,trivial⟩,?_,.inl rfl,by simp⟩
  .show (if eZ 1 [row]=true/\0<1/\lI 1 bytes=true then _ else _)=_
   rw[Zu ⟨a1,by decide,rm 1 (by decide)⟩]
   simp only[hh]
   simp only[We,Yd,rm (es.length+1) (by omega),Zz,Nat.one_ne_zero,Z9,ZG,Zh]
  .rw[Z3 hlt]
  .intro j hj;rw[Zv (Ne.symm hj)]
theorem DI.upd{H H' H2:aW}{w:List RA}{i:Nat}{r r':RA}{k:Nat}{u:Bool}(hI:DI H w)(hi:w[i]?=some r)(hk:3<=k)(hne:∀j,j≠k->H'[j]?=H[j]?)(hold:idC (sel r u)=some k\/H[k]?=none)(h2:∀j,j≠1->H2[j]?=H'[j]?)(ho:r'.o=r.o/\r'.a.outer=r.a.outer)(hx:iB 12 H2 r'.x r'.a.inner\/(r'.x=r.x/\r'.a.inner=r.a.inner/\u=true))(hy:iB 1 H2 r'.y r'.a.alone\/(r'.y=r.y/\r'.a.alone=r.a.alone/\u=false))(hu:idC (sel r' u)=some k)(hv:sel r' (!u)=sel r (!u)): DI H2 (w.set i r'):=by
 have hlt:=(Ze.1 hi).1
 have g:∀(j:Nat) (s:RA),(w.set i r')[j]?=some s->(j=i/\s=r')\/(j≠i/\w[j]?=some s):=by
  intro j s h
  by_cases hj:j=i
  .subst hj;rw[Z3 hlt] at h;cases h;exact .inl ⟨rfl,rfl⟩
  .rw[Zv (Ne.symm hj)] at h;exact .inr ⟨hj,h⟩
 have old:∀(j:Nat) (s:RA) (v:Bool) (q:Nat),w[j]?=some s->idC (sel s v)=some q->3<=q/\∃o,H[q]?=some o:=by
  intro j s v q hj hq
  cases v with
  | false=>exact (hI.cx j s hj).id hq
  | true=>exact (hI.cy j s hj).id hq
 have sep:∀(j:Nat) (s:RA) (v:Bool),w[j]?=some s->idC (sel s v)=some k->j=i/\v=u:=by
  intro j s v hj hq
  rcases hold with h | h
  .exact hI.ne j i s r v u k hj hi hq h
  .obtain⟨_,o,ho⟩:=old j s v k hj hq
   rw[h] at ho;cases ho
 have keep:∀(j:Nat) (s:RA) (v:Bool) (q:Nat),w[j]?=some s->idC (sel s v)=some q->¬(j=i/\v=u)->H2[q]?=H[q]?:=by
  intro j s v q hj hq hn
  have:=(old j s v q hj hq).1
  rw[h2 q (by omega),hne q (λe=>hn (sep j s v hj (e▸hq)))]
 refine⟨?_,?_,?_,?_⟩
 .intro j s hs
  rcases g j s hs with⟨rfl,rfl⟩ | ⟨_,hs⟩
  .rw[ho.1,ho.2];exact hI.co _ r hi
  .exact hI.co j s hs
 .intro j s hs
  rcases g j s hs with⟨rfl,rfl⟩ | ⟨hj,hs⟩
  .rcases hx with h | ⟨h1,h3,h4⟩
   .exact h
   .rw[h1,h3]
    exact (hI.cx _ r hi).mono λq hq=>keep _ r false q hi hq (by rw[h4];simp)
  .exact (hI.cx j s hs).mono λq hq=>keep j s false q hs hq (λe=>hj e.1)
 .intro j s hs
  rcases g j s hs with⟨rfl,rfl⟩ | ⟨hj,hs⟩
  .rcases hy with h | ⟨h1,h3,h4⟩
   .exact h
   .rw[h1,h3]
    exact (hI.cy _ r hi).mono λq hq=>keep _ r true q hi hq (by rw[h4];simp)
  .exact (hI.cy j s hs).mono λq hq=>keep j s true q hs hq (λe=>hj e.1)
 .have new:∀v q,idC (sel r' v)=some q->(v=u/\q=k)\/(v=!u/\idC (sel r (!u))=some q):=by
   intro v q h
   by_cases hvu:v=u
   .subst hvu;rw[hu] at h;cases h;exact .inl ⟨rfl,rfl⟩
   .have:v=!u:=by cases v<;>cases u<;>simp_all
    subst this;rw[hv] at h;exact .inr ⟨rfl,h⟩
  intro j1 j2 s1 s2 v1 v2 q e1 e2 q1 q2
  rcases g j1 s1 e1 with⟨rfl,rfl⟩ | ⟨n1,f1⟩
  .rcases g j2 s2 e2 with⟨rfl,rfl⟩ | ⟨n2,f2⟩
   .rcases new v1 q q1 with⟨rfl,rfl⟩ | ⟨rfl,o1⟩
    .rcases new v2 q q2 with⟨rfl,_⟩ | ⟨rfl,o2⟩
     .exact⟨rfl,rfl⟩
     .have:=(sep _ r (!v1) hi o2).2;cases v1<;>cases this
    .rcases new v2 q q2 with⟨rfl,rfl⟩ | ⟨rfl,o2⟩
     .have:=(sep _ r (!v2) hi o1).2;cases v2<;>cases this
     .exact⟨rfl,rfl⟩
   .rcases new v1 q q1 with⟨rfl,rfl⟩ | ⟨rfl,o1⟩
    .exact absurd (sep _ s2 v2 f2 q2).1 n2
    .exact absurd (hI.ne _ _ r s2 (!u) v2 q hi f2 o1 q2).1 (Ne.symm n2)
  .rcases g j2 s2 e2 with⟨rfl,rfl⟩ | ⟨n2,f2⟩
   .rcases new v2 q q2 with⟨rfl,rfl⟩ | ⟨rfl,o2⟩
    .exact absurd (sep _ s1 v1 f1 q1).1 n1
    .exact absurd (hI.ne _ _ s1 r v1 (!u) q f1 hi q1 o2).1 n1
   .exact hI.ne j1 j2 s1 s2 v1 v2 q f1 f2 q1 q2
theorem DI.view{H:aW}{w:List RA}(hI:DI H w)(h1:H[1]?=some (.blk 4 (w.map RA.c))): Qp (.vw 36 ((w.map RA.a).map arV)) (dE H (.ms 1 w.length 0 w.length)):=by
 simp only[dE,rd,h1,ZO,Zz,YD]
 rw[ZW (by simp)]
 refine Qp.mkV (.inr (.inr rfl)) ?_
 rw[Ya,Ya]
 have h:∀(v:List RA),(∀r∈v,Qp (.sl 1 r.a.outer) r.o)->Ql 36 (v.map (arV∘RA.a)) (v.map ((λe=>e.map Fk)∘RA.c)):=by
  intro v
  induction v with
  | nil=>exact λ_=>trivial
  | cons r v ih=>
   intro hv
   refine⟨⟨.lit _,uD.c (c:=.sl 1) (x:=r.a.outer) (hv r ZM),.undef _,.undef _,trivial⟩,ih λr hr=>hv r (ZQ _ hr)⟩
 exact h w λr hr=>by
  obtain⟨i,hi⟩:=Yi.1 hr
  exact hI.co i r hi
theorem DI.rows{H H':aW}{w:List RA}{d:Nat}(hI:DI H w)(hk:∀k,3<=k->H'[k]?=H[k]?): Ql 38 (w.map RA.a) ((w.map RA.c).map λe=>e.map (eE H' 0 (d+1))):=by
 rw[Ya]
 have h:∀(v:List RA),(∀r∈v,Qp (.sl 1 r.a.outer) r.o/\iB 12 H r.x r.a.inner/\iB 1 H r.y r.a.alone)->Ql 38 (v.map RA.a) (v.map ((λe=>e.map (eE H' 0 (d+1)))∘RA.c)):=by
  intro v
  induction v with
  | nil=>exact λ_=>trivial
  | cons r v ih=>
   intro hv
   obtain⟨a1,a2,a3⟩:=hv r ZM
   exact⟨⟨.lit _,(Gs H' 0 (d+1)).c (c:=.sl 1) (x:=r.a.outer) a1,a2.shut hk,a3.shut hk,trivial⟩,ih λr hr=>hv r (ZQ _ hr)⟩
 exact h w λr hr=>by
  obtain⟨i,hi⟩:=Yi.1 hr
  exact⟨hI.co i r hi,hI.cx i r hi,hI.cy i r hi⟩
section
variable (p:aM)(m:List (Int×List Aaa))(xn xa xf xm:AV)
structure DA(w:List RA)(H:aW): Prop where
 h0:H[0]?=some (.blk 3 [[xn,xa,xf]])
 h1:H[1]?=some (.blk 4 (w.map RA.c))
 h3:3<=H.length
 i:DI H w
variable {p m xn xa xf xm}{w:List RA}{tm:List AV}{H:aW}
variable (qn:Qp (.vw 18 p.Nodes) xn)(qa:Qp (.vw 20 p.Arcs) xa)(qf:Qp (.vw 1 p.Faces) xf)(qm:Qp (.rmp 1 14 m) xm)
theorem aIZ: FOK PP T 152 ⟨[.w 25,.w 12],[1],false,λn p=>rH n p.1 p.2⟩:=by
 have e:Jr.c=⟨[.w 25,.w 12],[1],false,λn p=>rH n p.1 p.2⟩:=by kernel_rfl
 have h:=Jr.ok
 rw[e] at h
 exact h
theorem aGF: FOK PP T 113 ⟨[.w 25,.w 1],[1],false,λn p=>kS n p.1 p.2⟩:=by
 have e:Ev.c=⟨[.w 25,.w 1],[1],false,λn p=>kS n p.1 p.2⟩:=by kernel_rfl
 have h:=Ev.ok
 rw[e] at h
 exact h
theorem aMr: FOK PP T 153 ⟨[.w 35,.w 37,.w 0],[1],false,λn p=>eF n p.1 p.2.1 p.2.2⟩:=by
 have e:lW.c=⟨[.w 35,.w 37,.w 0],[1],false,λn p=>eF n p.1 p.2.1 p.2.2⟩:=by kernel_rfl
 have h:=lW.ok
 rw[e] at h
 exact h
theorem R0{k:Nat}{l:List (den k)}{a:AV}(h:Qp (.vw k l) a): Qp (.vw k l) (dE H a):=by
 obtain⟨es,h1,h2⟩:=h.inV
 rcases h1 with⟨rfl,rfl⟩ | ⟨f,rfl⟩ | rfl
 .exact Qp.mkV (es:=[]) (.inr (.inr rfl)) h2
 .exact Qp.mkV (.inr (.inr rfl)) h2
 .exact Qp.mkV (.inr (.inr rfl)) h2
theorem aTF{kk vk:Nat}{m:List (den kk×den vk)}{a:AV}(h:Qp (.rmp kk vk m) a): Qp (.rmp kk vk m) (dE H a):=by
 obtain⟨rows,h1,h2⟩:=h.inM
 rcases h1 with⟨rfl,rfl⟩ | rfl
 .exact Qp.mkM (.inl ⟨rfl,rfl⟩) h2
 .exact Qp.mkM (.inr rfl) h2
theorem aMj{α:Type}{l:List α}{i:Nat}{x:α}(h:l[i]?=some x): idx l (i:Int)=some x:=by rw[bP];exact h
theorem Ts{α:Type}{l r:List α}{i:Nat}{x:α}(h:l.drop i=x::r): l[i]?=some x/\l.drop (i+1)=r/\i<l.length:=by
 have h1:(l.drop i)[0]?=some x:=by rw[h];rfl
 rw[Zw,Xm] at h1
 refine⟨h1,?_,(Ze.1 h1).1⟩
 have:l.drop (i+1)=(l.drop i).drop 1:=by rw[XD]
 rw[this,h];rfl
theorem aKu{i:Nat}(h:i<1000000): wr ((i:Int)+1)=((i+1:Nat):Int):=by
 show IntKind.i64.wrap _=_
 rw[Xe];push_cast;omega
theorem aNN{k:Nat}{l:List (den k)}{a:AV}(q:Qp (.vw k l) a): cL H a=dE H a:=by
 obtain⟨es,h1,_⟩:=q.inV
 rcases h1 with⟨rfl,_⟩ | ⟨f,rfl⟩ | rfl<;>rfl
theorem aSf(H:aW)(o:dI): (H++[o])[H.length]?=some o:=by rw[ZX (Zf _),XR];rfl
theorem hold{H:aW}{o b:dI}{k:Nat}(h:H[k]?=some b): (H++[o])[k]?=some b:=by rw[Zo (Ze.1 h).1];exact h
include qn qa qf in
theorem aPd{n:Nat}{x y:bB}{c:List Int}{a:AV}{t:Int}(e:rH n p c=some t)(hx:aG tm x=.agg [xn,xa,xf])(hy:aG tm y=a)(q:Qp (.vw 1 c) a): aL PP (fH PP T n) 0 (.callB 152 [x,y]) tm H=some (iv t,H):=by
 obtain⟨A,r,h1,h2⟩:=M1 (a:=.undef) aIZ (n:=n) (p:=(p,c)) (r:=t) e (λr=>⟨r,rfl⟩) (aw:=[cL H (.agg [xn,xa,xf]),dE H a])
  ⟨Qh.mkA ⟨.p _ _ (R0 qn),.p _ _ (R0 qa),.p _ _ (R0 qf),trivial⟩,.p _ _ (R0 q),trivial⟩
 simp only[aL,ZE,Yn,hx,hy,aNN q,h1]
 rw[h2];rfl
theorem aUM{n:Nat}{x y:bB}{a:AV}{l:List Int}{t:Int}(q:Qp (.sl 1 l) a)(hx:aG tm x=iv t)(hy:aG tm y=a): aL PP (fH PP T n) 0 (.build [z0,bS,bS,bS] [(0,1,x),(1,1,y)]) tm H=some (.agg [iv t,a,.lit bS,.lit bS],H):=by
 obtain⟨es,h1,_⟩:=q.inS
 simp only[aL,ZE,Yn,hx,hy]
 rcases h1 with⟨rfl,_⟩ | ⟨f,rfl⟩<;>rfl
theorem aQw{n:Nat}{y:bB}{a:AV}{k:Nat}{l:List (den k)}{z:Value}(q:Qp (.sl k l) a)(hy:aG tm y=a): aL PP (fH PP T n) 0 (.buildSl true 1 1 [z] [(0,y)]) tm H=some (.sl true [[Fk a]],H):=by
 obtain⟨es,h1,_⟩:=q.inS
 simp only[aL,ZE,Yn,hy]
 rcases h1 with⟨rfl,_⟩ | ⟨f,rfl⟩<;>rfl
theorem DA.grow{o y:bB}{a:AV}{l:List Int}{t:Int}(d:DA xn xa xf w H)(hn:∀r∈w,r.x=.lit bS/\r.y=.lit bS)(q:Qp (.sl 1 l) a){b:dI}: DA xn xa xf (w++[⟨⟨t,l,[],[]⟩,a,.lit bS,.lit bS⟩]) ((H++[b]).set 1 (.blk 4 (w.map RA.c++[[iv t,a,.lit bS,.lit bS]]))):=by
 have hw:∀r∈w++[(⟨⟨t,l,[],[]⟩,a,.lit bS,.lit bS⟩:RA)],r.x=.lit bS/\r.y=.lit bS:=by
  intro r hr
  rcases ZD.1 hr with hr | hr
  .exact hn r hr
  .rw[ZJ.1 hr];exact⟨rfl,rfl⟩
 have g:∀(i:Nat) (r:RA),(w++[(⟨⟨t,l,[],[]⟩,a,.lit bS,.lit bS⟩:RA)])[i]?=some r->w[i]?=some r\/r=⟨⟨t,l,[],[]⟩,a,.lit bS,.lit bS⟩:=by
  intro i r hr
  rcases ZI i w.length with h | h
  .rw[Zo h] at hr;exact .inl hr
  .rw[ZX h] at hr
   exact .inr (ZJ.1 (Zg hr))
 refine⟨?_,?_,by simp;have:=d.h3;omega,⟨?_,?_,?_,?_⟩⟩
 .rw[Zv (by decide)];exact hold d.h0
 .rw[Z3 (by simp;have:=d.h3;omega),YJ];rfl
 .intro i r hr
  rcases g i r hr with h | rfl
  .exact d.i.co i r h
  .exact q
 .intro i r hr
  rcases g i r hr with h | rfl
  .rcases d.i.cx i r h with h1 | ⟨k,es,h1,_⟩
   .exact .inl h1
   .rw[(hn r (Zg h)).1] at h1;cases h1
  .exact .inl ⟨rfl,rfl⟩
 .intro i r hr
  rcases g i r hr with h | rfl
  .rcases d.i.cy i r h with h1 | ⟨k,es,h1,_⟩
   .exact .inl h1
   .rw[(hn r (Zg h)).2] at h1;cases h1
  .exact .inl ⟨rfl,rfl⟩
 .intro i j r s u v k hr hs hk _
  have:=hw r (Zg hr)
  cases u with
  | true=>simp only[sel,this.2,idC] at hk;cases hk
  | false=>simp only[sel,this.1,idC] at hk;cases hk
abbrev dB(xm:AV)(w:List RA): List (Nat×AV):=[(2,xm),(3,.ptr 0 1 0 0),(7,.ms 1 w.length 0 w.length)]
include qn qa qf in
theorem aM7{n N:Nat}(cs:List (List Int)){xc:AV}(qc:Qp (.vw 12 cs) xc)(hb:cs.length<=190000): ∀(todo:List (List Int)) (k i:Nat) (tm:List AV) (H:aW) (w:List RA) (q:List (List Int)) (qr:List (List AV)) (r:List dO×List (List Int)),cs.drop i=todo->todo.length<k->w.length+todo.length<=200000->qr.length+todo.length<=200000->
 DA xn xa xf w H->(∀r∈w,r.x=.lit bS/\r.y=.lit bS)->H[2]?=some (.blk 1 qr)->Ql 12 q qr->At 110 ((8,.ms 2 qr.length 0 qr.length)::(21,xc)::(22,iv (cs.length:Nat))::(23,iv i)::dB xm w) tm->dv1 n p todo (w.map RA.a) q=some r->
 WL PP (fH PP T n) n 0 N (bl 0xe0018c 24) false aSx k ⟨tm,H⟩ λx s=>x=.exit 0/\∃w' qr',w'.map RA.a=r.1/\DA xn xa xf w' s.heap/\(∀r∈w',r.x=.lit bS/\r.y=.lit bS)/\s.heap[2]?=some (.blk 1 qr')/\Ql 12 r.2 qr'/\At 110 ((8,.ms 2 qr'.length 0 qr'.length)::dB xm w') s.tmps/\w'.length<=200000/\qr'.length<=200000
 | todo,0,i,tm,H,w,q,qr,r,_,h,_,_,_,_,_,_,_,_=>by omega
 | todo,k+1,i,tm,H,w,q,qr,r,hd,hk,hw,hq,d,hn,h2,ql,ha,h=>by
  apply WL.step
  show WC PP (fH PP T n) n 0 aSx ⟨cU (bl 0xe0018c 24) tm,H⟩ _
  replace ha:At 110 ((8,.ms 2 qr.length 0 qr.length)::(21,xc)::(22,iv (cs.length:Nat))::(23,iv i)::dB xm w) (cU (bl 0xe0018c 24) tm):=
   .cons (ha.live _ rfl rfl) (.cons (ha.live _ rfl rfl) (.cons (ha.live _ rfl rfl) (.cons (ha.live _ rfl rfl) (.cons (ha.live _ rfl rfl) (.cons (ha.live _ rfl rfl) (.cons (ha.live _ rfl rfl) (ha.mask _)))))))
  generalize cU (bl 0xe0018c 24) tm=tm at ha |-
  refine WC.seq (WC.reg (AO.op ha (Ng (ha.get rfl) (ha.get rfl) rfl) λtm ha=>AO.nil ha (WC.seq ?_)))
  cases todo with
  | nil=>
   have hi:cs.length<=i:=by
    have:=congrArg List.length hd
    rw[ZV,Z1] at this;omega
   cases h
   refine WC.condF (ha.get rfl) (YI (by omega)) (WC.exit ?_)
   exact⟨rfl,w,qr,rfl,d,hn,h2,ql,.cons (ha.get rfl) (.cons (ha.get rfl) (.cons (ha.get rfl) (.cons (ha.get rfl) ⟨ha.ln,λ_ _ h=>by cases h⟩))),by omega,by omega⟩
  | cons c todo=>
   obtain⟨g1,g2,g3⟩:=Ts hd
   simp only[Yc] at hk hw hq
   simp only[dv1] at h
   obtain⟨t,e2,h⟩:=bG h
   refine WC.condT (ha.get rfl) (Yj (by omega)) (WC.skip (WC.seq (WC.block (WC.seq ?_))))
   obtain⟨row,q1,e25⟩:=aI6 (P:=PP) (cf:=fH PP T n) (fl:=0) (H:=H) (s:=1) qc (ha.get (k:=21) rfl) (ha.get (k:=23) rfl) (aMj g1) rfl
   obtain⟨x,rfl,qx⟩:∃x,row=[x]/\Qp (.sl 1 c) x:=by
    match row,q1 with
    | [x],h=>exact⟨x,rfl,h.1⟩
   have hl:=qx.w
   refine WC.reg (AO.op ha e25 λtm ha=>AO.op ha (aM0 (ha.get rfl)) λtm ha=>AO.mov ha rfl λtm ha=>AO.nil ha (WC.seq (WC.reg ?_)))
   refine AO.op ha (Ry (ha.get rfl) d.h0 rfl rfl (Zf 3) rfl) λtm ha=>AO.mov ha rfl λtm ha=>AO.op ha (aPd qn qa qf e2 (ha.get rfl) (ha.get rfl) hl) λtm ha=>AO.mov ha rfl λtm ha=>AO.nil ha (WC.seq (WC.reg (AO.mov ha rfl λtm ha=>AO.op ha (Ng (ha.get rfl) rfl rfl) λtm ha=>AO.nil ha ?_)))
   cases ht:decide (t > 0) with
   | true=>
    rw[ht] at h
    refine WC.condT (ha.get rfl) ht (WC.reg (AO.mov ha rfl λtm ha=>AO.mov ha rfl λtm ha=>AO.mov ha rfl λtm ha=>AO.op ha (aUM qx (ha.get rfl) (ha.get rfl)) λtm ha=>AO.op (v:=.ms H.length 1 0 1) (H':=H++[.blk 4 [[iv t,x,.lit bS,.lit bS]]]) ha (by
     simp only[aL,ZE,Yn,ha.get (k:=35) rfl];rfl) λtm ha=>AO.op ha (aQ1 (es:=w.map RA.c) (ys:=[[iv t,x,.lit bS,.lit bS]]) (by rw[ZO];exact ha.get rfl) (by
      rw[ha.get (k:=36) rfl];simp only[rd,aSf];rfl) (hold d.h1) (by decide) rfl (by simp) (by decide) (by simp;omega)) λtm ha=>AO.mov ha rfl λtm ha=>AO.nil ha ?_))
    refine WC.reg (AO.op ha (Ng (ha.get rfl) rfl rfl) λtm ha=>AO.mov ha rfl λtm ha=>AO.nil ha ?_)
    have d':=d.grow (o:=.tmp 0) (y:=.tmp 0) (t:=t) hn qx (b:=.blk 4 [[iv t,x,.lit bS,.lit bS]])
    refine aM7 cs qc hb todo k (i+1) _ _ (w++[⟨⟨t,c,[],[]⟩,x,.lit bS,.lit bS⟩]) q qr r g2 (by omega) (by simp;omega) (by omega) d' ?_ ?_ ql ?_ (by rw[YJ];exact h)
    .intro r hr
     rcases ZD.1 hr with hr | hr
     .exact hn r hr
     .rw[ZJ.1 hr];exact⟨rfl,rfl⟩
    .rw[Zv (by decide)];exact hold h2
    .exact .cons (ha.get rfl) (.cons (ha.get rfl) (.cons (ha.get rfl) (.cons (by rw[<-aKu (by omega)];exact ha.get rfl) (.cons (ha.get rfl) (.cons (ha.get rfl) (.cons (by rw[ha.get (k:=7) rfl];simp) ⟨ha.ln,λ_ _ h=>by cases h⟩))))))
   | false=>
    rw[ht] at h
    refine WC.condF (ha.get rfl) ht (WC.reg (AO.mov ha rfl λtm ha=>AO.mov ha rfl λtm ha=>AO.op ha (aQw qx (ha.get rfl)) λtm ha=>AO.op ha (aQ1 (es:=qr) (ys:=[[Fk x]]) (ha.get rfl) (by rw[ha.get (k:=40) rfl];rfl) h2 (by decide) rfl (by simp) (by decide) (by simp;omega)) λtm ha=>AO.mov ha rfl λtm ha=>AO.nil ha ?_))
    refine WC.reg (AO.op ha (Ng (ha.get rfl) rfl rfl) λtm ha=>AO.mov ha rfl λtm ha=>AO.nil ha ?_)
    have d':DA xn xa xf w (H.set 2 (.blk 1 (qr++[[Fk x]]))):=⟨by rw[Zv (by decide)];exact d.h0,by rw[Zv (by decide)];exact d.h1,by simp;exact d.h3,⟨d.i.co,λi r hr=>(d.i.cx i r hr).mono λk hk=>Zv (by have:=((d.i.cx i r hr).id hk).1;omega),λi r hr=>(d.i.cy i r hr).mono λk hk=>Zv (by have:=((d.i.cy i r hr).id hk).1;omega),d.i.ne⟩⟩
    refine aM7 cs qc hb todo k (i+1) _ _ w (q++[c]) (qr++[[Fk x]]) r g2 (by omega) (by omega) (by simp;omega) d' hn ?_ (ql.app ⟨⟨uD.c (c:=.sl 1) (x:=c) qx,trivial⟩,trivial⟩) ?_ h
    .rw[Z3 (Ze.1 h2).1]
    .exact .cons (ha.get rfl) (.cons (ha.get rfl) (.cons (ha.get rfl) (.cons (by rw[<-aKu (by omega)];exact ha.get rfl) (.cons (ha.get rfl) (.cons (ha.get rfl) (.cons (ha.get rfl) ⟨ha.ln,λ_ _ h=>by cases h⟩))))))
end
section
variable {p:aM}{m:List (Int×List Aaa)}{xn xa xf xm:AV}{w:List RA}{tm:List AV}{H:aW}
variable (qn:Qp (.vw 18 p.Nodes) xn)(qa:Qp (.vw 20 p.Arcs) xa)(qf:Qp (.vw 1 p.Faces) xf)(qm:Qp (.rmp 1 14 m) xm)
theorem aRz{a:Aaa}{e:List AV}(q:Qr (jX 0 a) e): e=[iv a.X,iv a.Y]:=by
 match e,q with
 | [x,y],h=>obtain⟨h1,h2,_⟩:=h;cases h1;cases h2;rfl
theorem aOP{a:Int}{e:List AV}(q:Qr (jX 1 a) e): e=[iv a]:=by
 match e,q with
 | [x],h=>obtain⟨h1,_⟩:=h;cases h1;rfl
include qm in
theorem aM1{n:Nat}{x y z:bB}{i:Int}{a:Aaa}(d:DA xn xa xf w H)(hx:aG tm x=xm)(hy:aG tm y=.ms 1 w.length 0 w.length)(hz:aG tm z=.agg [iv a.X,iv a.Y])(h:eF n m ((w.map RA.a).map arV) a=some i):
 aL PP (fH PP T n) 0 (.callB 153 [x,y,z]) tm H=some (iv i,H):=by
 have e:cL H xm=dE H xm:=by
  obtain⟨rows,h1,_⟩:=qm.inM
  rcases h1 with⟨rfl,_⟩ | rfl<;>rfl
 obtain⟨A,r,h1,h2⟩:=M1 (a:=.undef) aMr (n:=n) (p:=(m,(w.map RA.a).map arV,a)) (r:=i) h (λr=>⟨r,rfl⟩) (aw:=[dE H xm,dE H (.ms 1 w.length 0 w.length),.agg [iv a.X,iv a.Y]])
  ⟨.p _ _ (aTF qm),.p _ _ (d.i.view d.h1),Qh.mkA ⟨.l _,.l _,trivial⟩,trivial⟩
 have e2:cL H (.ms 1 w.length 0 w.length)=dE H (.ms 1 w.length 0 w.length):=rfl
 have e3:cL H (.agg [iv a.X,iv a.Y])=.agg [iv a.X,iv a.Y]:=rfl
 simp only[aL,ZE,Yn,hx,hy,hz,e,e2,e3,h1]
 rw[h2];rfl
include qm in
theorem aSu{n:Nat}{k:Int}{x y:bB}(hx:aG tm x=xm)(hy:aG tm y=iv k): ∃a,aL PP (fH PP T n) 0 (.lookup 3 (.lit bS) x y false) tm H=some (a,H)/\Qp (.sl 0 ((cE m k).getD [])) a:=by
 have hq:Qt 2 ⟨[(0,.rmp 1 14 m),(1,.lit (.int .i64 k))],List.replicate H.length .gone⟩ ⟨[xm,iv k],H⟩:=⟨rfl,λt v hv=>(by
  match t,hv with
  | 0,hv=>cases hv;exact⟨_,rfl,.p _ _ qm⟩
  | 1,hv=>cases hv;exact⟨_,rfl,.l _⟩
  | _+2,hv=>cases hv),aQt H⟩
 obtain⟨v,A',tv,S',h1,_,h3,h4⟩:=E8 (P:=PP) (T:=T) (cf:=fH PP T n) (n:=n) (d:=some 0) (E:=((⟨C0,[],[],[],[]⟩:En PP T 2 0 .skip).xe GlC.g)) (K:=λtv _=>some tv) (r:=.sl 0 ((cE m k).getD []))
  (En.ok _ _) hq (kt:=3) (z:=.lit bS) (m:=.tmp 0) (k:=.tmp 1) (ok:=false) (by kernel_rfl)
 rw[aQx h1] at h1
 obtain rfl:=ZR h4
 have e:aL PP (fH PP T n) 0 (.lookup 3 (.lit bS) x y false) tm H=aL PP (fH PP T n) 0 (.lookup 3 (.lit bS) (.tmp 0) (.tmp 1) false) [xm,iv k] H:=by
  simp only[aL,hx,hy];rfl
 exact⟨v,e.trans h1,h3.pu trivial⟩
theorem RA.c_le(r:RA){k:Nat}(h:k<=4): k<=r.c.length:=h
def aUx: Bool->Nat
 | true=>3
 | false=>2
def upR(u:Bool)(r:RA)(a':dO)(v:AV): RA:=match u with
 | true=>⟨a',r.o,r.x,v⟩
 | false=>⟨a',r.o,v,r.y⟩
theorem aM5{u:Bool}{j bytes:Nat}{ro:RA}{a':dO}{row:List AV}{kd:Nat}{l:List (den kd)}{e:den kd}(d:DA xn xa xf w H)(hj:w[j]?=some ro)(hr:Qr (jX kd e) row)(h1:row.length=1)(hb:bytes<=100000)(hl:l.length<=200000)(hc:iB kd H (sel ro u) l)(ho:a'.outer=ro.a.outer/\a'.twice=ro.a.twice)(hx:(u=false/\∀H' v,iB kd H' v (l++[e])->iB 12 H' v a'.inner)\/(u=true/\a'.inner=ro.a.inner))(hy:(u=true/\∀H' v,iB kd H' v (l++[e])->iB 1 H' v a'.alone)\/(u=false/\a'.alone=ro.a.alone)):
 ∃k z H',cR 0 H 1 bytes (sel ro u) [row]=some (.ms k z 0 z,H')/\H'[1]?=some (.blk 4 (w.map RA.c))/\H'[2]?=H[2]? /\
  DA xn xa xf (w.set j (upR u ro a' (.ms k z 0 z))) (H'.set 1 (.blk 4 ((w.map RA.c).set j (aQ ro.c (aUx u) [.ms k z 0 z])))):=by
 obtain⟨k,es,H',g1,g2,g3,g4,g5,g6,g7⟩:=hc.grow hr h1 hb hl d.h3
 have e1:H'[1]?=some (.blk 4 (w.map RA.c)):=(g5 1 (by omega)).trans d.h1
 refine⟨k,es.length,H',g1,e1,g5 2 (by omega),?_⟩
 have es1:aQ ro.c (aUx u) [AV.ms k es.length 0 es.length]=(upR u ro a' (.ms k es.length 0 es.length)).c:=by
  cases u<;>simp only[upR,RA.c,ho.2]<;>rfl
 rw[es1,<-Xz]
 have h3:=d.h3
 have hn:∀q,3<=q->(H'.set 1 (dI.blk 4 ((w.set j (upR u ro a' (.ms k es.length 0 es.length))).map RA.c)))[q]?=H'[q]?:=λq hq=>Zv (by omega)
 refine⟨by rw[Zv (by decide),g5 0 (by omega)];exact d.h0,Z3 (by omega),by simp;omega,?_⟩
 have hC:iB kd (H'.set 1 (.blk 4 ((w.set j (upR u ro a' (.ms k es.length 0 es.length))).map RA.c))) (.ms k es.length 0 es.length) (l++[e]):=.inr ⟨k,es,rfl,g2,by rw[hn k g2];exact g3,g4⟩
 refine d.i.upd (u:=u) hj g2 g5 g6 (λq hq=>Zv (Ne.symm hq)) (by cases u<;>exact⟨rfl,ho.1⟩) ?_ ?_ (by cases u<;>rfl) (by cases u<;>rfl)
 .rcases hx with⟨rfl,h⟩ | ⟨rfl,h⟩
  .exact .inl (h _ _ hC)
  .exact .inr ⟨rfl,h,rfl⟩
 .rcases hy with⟨rfl,h⟩ | ⟨rfl,h⟩
  .exact .inl (h _ _ hC)
  .exact .inr ⟨rfl,h,rfl⟩
include qm in
theorem aQ2{n N:Nat}(cs:List (List Int))(qr:List (List AV))(qq:Ql 12 cs qr)(hb:cs.length<=200000): ∀(todo:List (List Int)) (k i:Nat) (tm:List AV) (H:aW) (w:List RA) (r:List dO),cs.drop i=todo->todo.length<k->i<=cs.length->
 DA xn xa xf w H->H[2]?=some (.blk 1 qr)->(∀(j:Nat) (s:RA),w[j]?=some s->s.a.inner.length+s.a.alone.length<=i)->At 110 ((43,.ms 2 qr.length 0 qr.length)::(44,iv (qr.length:Nat))::(45,iv i)::dB xm w) tm->dv2 n m todo (w.map RA.a)=some r->
 WL PP (fH PP T n) n 0 N (bl 0x38000000008c 46) false aSw k ⟨tm,H⟩ λx s=>x=.exit 2/\∃w',w'.map RA.a=r/\DA xn xa xf w' s.heap/\(∀(j:Nat) (s:RA),w'[j]?=some s->s.a.inner.length+s.a.alone.length<=cs.length)/\At 110 (dB xm w') s.tmps
 | todo,0,i,tm,H,w,r,_,h,_,_,_,_,_,_=>by omega
 | todo,k+1,i,tm,H,w,r,hd,hk,hi0,d,h2,hs,ha,h=>by
  have hql:qr.length=cs.length:=qq.len
  apply WL.step
  show WC PP (fH PP T n) n 0 aSw ⟨cU (bl 0x38000000008c 46) tm,H⟩ _
  replace ha:At 110 ((43,.ms 2 qr.length 0 qr.length)::(44,iv (qr.length:Nat))::(45,iv i)::dB xm w) (cU (bl 0x38000000008c 46) tm):=
   .cons (ha.live _ rfl rfl) (.cons (ha.live _ rfl rfl) (.cons (ha.live _ rfl rfl) (.cons (ha.live _ rfl rfl) (.cons (ha.live _ rfl rfl) (.cons (ha.live _ rfl rfl) (ha.mask _))))))
  generalize cU (bl 0x38000000008c 46) tm=tm at ha |-
  refine WC.seq (WC.reg (AO.op ha (Ng (ha.get rfl) (ha.get rfl) rfl) λtm ha=>AO.nil ha (WC.seq ?_)))
  cases todo with
  | nil=>
   have hi:cs.length<=i:=by
    have:=congrArg List.length hd
    rw[ZV,Z1] at this;omega
   cases h
   refine WC.condF (ha.get rfl) (YI (by omega)) (WC.exit ⟨rfl,w,rfl,d,λj s hj=>ZB (hs j s hj) hi0,.cons (ha.get rfl) (.cons (ha.get rfl) (.cons (ha.get rfl) ⟨ha.ln,λ_ _ h=>by cases h⟩))⟩)
  | cons c todo=>
   obtain⟨g1,g2,g3⟩:=Ts hd
   simp only[Yc] at hk
   simp only[dv2] at h
   obtain⟨t,e1,h⟩:=bG h
   obtain⟨a,e2,h⟩:=bG h
   obtain⟨ix,e3,h⟩:=bG h
   obtain⟨ra,e4,h⟩:=bG h
   refine WC.condT (ha.get rfl) (Yj (by omega)) (WC.skip (WC.seq (WC.block (WC.seq ?_))))
   obtain⟨row,hrow,q1⟩:=qq.get g1
   obtain⟨x,rfl,qx⟩:∃x,row=[x]/\Qp (.sl 1 c) x:=by
    match row,q1 with
    | [x],h=>exact⟨x,rfl,h.1⟩
   refine WC.reg (AO.op ha (aEP (ha.get rfl) (ha.get rfl) h2 rfl (Wc i) (by simp;omega)) λtm ha=>AO.op ha (Ry (v:=x) (e:=[x]) (ha.get rfl) h2 rfl (by simpa using hrow) (Zf 1) rfl) λtm ha=>AO.mov ha rfl λtm ha=>AO.nil ha (WC.seq (WC.reg ?_)))
   obtain⟨r1,q1,e51⟩:=aI6 (P:=PP) (cf:=fH PP T n) (fl:=0) (tm:=[x,iv 0]) (x:=.tmp 0) (i:=.tmp 1) (H:=H) (s:=1) qx.w rfl rfl e1 rfl
   obtain rfl:=aOP q1
   have e51:∀{tm:List AV} {y:bB},aG tm y=x->aL PP (fH PP T n) 0 (.idxAddr 1 y (.lit z0)) tm H=some (.rptr [iv t],H):=λ{tm y} hy=>by
    rw[<-e51];simp only[aL,hy];rfl
   have e58:=λ(tm:List AV)=>aSu (H:=H) (n:=n) (tm:=[xm,iv (oB t (wr (0-t)))]) qm (x:=.tmp 0) (y:=.tmp 1) rfl rfl
   obtain⟨b,e58,qb⟩:=e58 tm
   have e58:∀{tm:List AV} {y z:bB},aG tm y=xm->aG tm z=iv (oB t (wr (0-t)))->aL PP (fH PP T n) 0 (.lookup 3 (.lit bS) y z false) tm H=some (b,H):=λ{tm y z} hy hz=>by
    rw[<-e58];simp only[aL,hy,hz];rfl
   obtain⟨r2,q2,e62⟩:=aI6 (P:=PP) (cf:=fH PP T n) (fl:=0) (tm:=[b,iv 0]) (x:=.tmp 0) (i:=.tmp 1) (H:=H) (s:=2) qb.w rfl rfl e2 rfl
   obtain rfl:=aRz q2
   have e62:∀{tm:List AV} {y:bB},aG tm y=b->aL PP (fH PP T n) 0 (.idxAddr 2 y (.lit z0)) tm H=some (.rptr [iv a.X,iv a.Y],H):=λ{tm y} hy=>by
    rw[<-e62];simp only[aL,hy];rfl
   refine AO.mov ha rfl λtm ha=>AO.mov ha rfl λtm ha=>AO.op ha (e51 (ha.get rfl)) λtm ha=>AO.op ha (aM0 (ha.get rfl)) λtm ha=>AO.mov ha rfl λtm ha=>AO.op ha (e51 (ha.get rfl)) λtm ha=>AO.op ha (aM0 (ha.get rfl)) λtm ha=>AO.op ha (aUN (ha.get rfl)) λtm ha=>AO.op ha (aUO (ha.get rfl) (ha.get rfl)) λtm ha=>AO.op ha (e58 (ha.get rfl) (ha.get rfl)) λtm ha=>AO.mov ha rfl λtm ha=>AO.nil ha (WC.seq (WC.reg ?_))
   refine AO.mov ha rfl λtm ha=>AO.mov ha rfl λtm ha=>AO.mov ha rfl λtm ha=>AO.op ha (e62 (ha.get rfl)) λtm ha=>AO.op ha (aQz (n:=2) (ha.get rfl) rfl) λtm ha=>AO.op ha (aM1 qm d (ha.get rfl) (ha.get rfl) (ha.get rfl) e3) λtm ha=>AO.mov ha rfl λtm ha=>AO.nil ha (WC.reg ?_)
   obtain⟨f1,f2,f3⟩:=qD e4
   obtain⟨ro,f4,rfl⟩:∃ro,w[ix.toNat]?=some ro/\ro.a=ra:=by
    rw[Zk,Zq] at f2;exact f2
   have hlt:ix.toNat<w.length:=(Ze.1 f4).1
   have hbo:=hs _ _ f4
   have f5:(w.map RA.c)[ix.toNat]?=some ro.c:=by rw[Zk,f4];rfl
   obtain⟨kk,z,H',p1,p2,p3,p4⟩:=aM5 (u:=false) (bytes:=24) (a':=⟨ro.a.twice,ro.a.outer,ro.a.inner++[c],ro.a.alone⟩) (kd:=12) (l:=ro.a.inner) (e:=c) (row:=[Fk x]) d f4 ⟨uD.c (c:=.sl 1) (x:=c) qx,trivial⟩ rfl (by decide) (by omega) (d.i.cx _ _ f4) ⟨rfl,rfl⟩ (.inl ⟨rfl,λ_ _ h=>h⟩) (.inr ⟨rfl,rfl⟩)
   refine AO.mov ha rfl λtm ha=>AO.mov ha rfl λtm ha=>AO.mov ha rfl λtm ha=>AO.mov ha rfl λtm ha=>AO.op ha (aEP (ha.get rfl) (ha.get rfl) d.h1 (by simp) f1 hlt) λtm ha=>AO.op ha (aEQ (ha.get rfl)) λtm ha=>AO.op ha (Ry (v:=ro.x) (ha.get rfl) d.h1 (by simp) f5 (ro.c_le (by decide)) rfl) λtm ha=>AO.mov ha rfl λtm ha=>AO.op ha (aQw qx (ha.get rfl)) λtm ha=>AO.op ha (aM3 (ha.get rfl) (by rw[ha.get (k:=73) rfl];rfl) p1) λtm ha=>
    AO.op ha (aEP (ha.get rfl) (ha.get rfl) p2 (by simp) f1 hlt) λtm ha=>AO.op ha (aEQ (ha.get rfl)) λtm ha=>AO.sto ha (aUL (ha.get rfl) (ha.get rfl) p2 (by simp) f5 (ro.c_le (by decide)) (by decide)) (AO.nil ha (WC.reg ?_))
   refine AO.op ha (Ng (ha.get rfl) rfl rfl) λtm ha=>AO.mov ha rfl λtm ha=>AO.nil ha ?_
   refine aQ2 cs qr qq hb todo k (i+1) _ _ _ r g2 (by omega) (by omega) p4 (by rw[Zv (by decide),p3];exact h2) ?_ ?_ (by rw[Xz];exact h)
   .intro j s hj
    by_cases e:ix.toNat=j
    .subst e
     rw[Z3 hlt] at hj;cases hj
     simp only[upR,Zh,Yd];omega
    .rw[Zv e] at hj
     exact Xl (hs j s hj)
   .exact .cons (ha.get rfl) (.cons (ha.get rfl) (.cons (by rw[<-aKu (by omega)];exact ha.get rfl) (.cons (ha.get rfl) (.cons (ha.get rfl) (.cons (by rw[Yr];exact ha.get rfl) ⟨ha.ln,λ_ _ h=>by cases h⟩)))))
end
section
variable {p:aM}{m:List (Int×List Aaa)}{xn xa xf xm:AV}{w:List RA}{tm:List AV}{H:aW}
variable (qn:Qp (.vw 18 p.Nodes) xn)(qa:Qp (.vw 20 p.Arcs) xa)(qf:Qp (.vw 1 p.Faces) xf)(qm:Qp (.rmp 1 14 m) xm)
include qn qa qf in
theorem aM2{n:Nat}{x y:bB}{c t:Int}(e:kS n p c=some t)(hx:aG tm x=.agg [xn,xa,xf])(hy:aG tm y=iv c): aL PP (fH PP T n) 0 (.callB 113 [x,y]) tm H=some (iv t,H):=by
 obtain⟨A,r,h1,h2⟩:=M1 (a:=.undef) aGF (n:=n) (p:=(p,c)) (r:=t) e (λr=>⟨r,rfl⟩) (aw:=[cL H (.agg [xn,xa,xf]),iv c])
  ⟨Qh.mkA ⟨.p _ _ (R0 qn),.p _ _ (R0 qa),.p _ _ (R0 qf),trivial⟩,.l _,trivial⟩
 have e2:cL H (iv c)=iv c:=rfl
 simp only[aL,ZE,Yn,hx,hy,e2,h1]
 rw[h2];rfl
theorem aRL{a:Aab}{e:List AV}(q:Qr (jX 18 a) e): e=[iv a.ID,iv a.At.X,iv a.At.Y]:=by
 match e,q with
 | [x,y,z],h=>obtain⟨h1,h2,h3,_⟩:=h;cases h1;cases h2;cases h3;rfl
theorem DA.more(d:DA xn xa xf w H)(o:dI): DA xn xa xf w (H++[o]):=by
 have g:∀k,3<=k->k<H.length->(H++[o])[k]?=H[k]?:=λk _ h=>Zo h
 refine⟨hold d.h0,hold d.h1,by simp;have:=d.h3;omega,⟨d.i.co,λi r hr=>(d.i.cx i r hr).mono λk hk=>?_,λi r hr=>(d.i.cy i r hr).mono λk hk=>?_,d.i.ne⟩⟩
 .obtain⟨h3,b,hb⟩:=(d.i.cx i r hr).id hk
  exact g k h3 (Ze.1 hb).1
 .obtain⟨h3,b,hb⟩:=(d.i.cy i r hr).id hk
  exact g k h3 (Ze.1 hb).1
include qn qa qf qm in
theorem aM6{n N:Nat}(hb:p.Nodes.length<=9000): ∀(todo:List Aab) (k i:Nat) (tm:List AV) (H:aW) (w:List RA) (r:List dO),p.Nodes.drop i=todo->todo.length<k->i<=p.Nodes.length->
 DA xn xa xf w H->(∀(j:Nat) (s:RA),w[j]?=some s->s.a.inner.length+s.a.alone.length<=190000+i)->At 110 ((79,xn)::(80,iv (p.Nodes.length:Nat))::(81,iv i)::dB xm w) tm->dv3 n p m todo (w.map RA.a)=some r->
 WL PP (fH PP T n) n 0 N (bl 0x38000000000000000008c 82) false aSv k ⟨tm,H⟩ λx s=>x=.exit 4/\∃w',w'.map RA.a=r/\DA xn xa xf w' s.heap/\At 110 (dB xm w') s.tmps
 | todo,0,i,tm,H,w,r,_,h,_,_,_,_,_=>by omega
 | todo,k+1,i,tm,H,w,r,hd,hk,hi0,d,hs,ha,h=>by
  apply WL.step
  show WC PP (fH PP T n) n 0 aSv ⟨cU (bl 0x38000000000000000008c 82) tm,H⟩ _
  replace ha:At 110 ((79,xn)::(80,iv (p.Nodes.length:Nat))::(81,iv i)::dB xm w) (cU (bl 0x38000000000000000008c 82) tm):=
   .cons (ha.live _ rfl rfl) (.cons (ha.live _ rfl rfl) (.cons (ha.live _ rfl rfl) (.cons (ha.live _ rfl rfl) (.cons (ha.live _ rfl rfl) (.cons (ha.live _ rfl rfl) (ha.mask _))))))
  generalize cU (bl 0x38000000000000000008c 82) tm=tm at ha |-
  refine WC.seq (WC.reg (AO.op ha (Ng (ha.get rfl) (ha.get rfl) rfl) λtm ha=>AO.nil ha (WC.seq ?_)))
  cases todo with
  | nil=>
   have hi:p.Nodes.length<=i:=by
    have:=congrArg List.length hd
    rw[ZV,Z1] at this;omega
   cases h
   exact WC.condF (ha.get rfl) (YI (by omega)) (WC.exit ⟨rfl,w,rfl,d,.cons (ha.get rfl) (.cons (ha.get rfl) (.cons (ha.get rfl) ⟨ha.ln,λ_ _ h=>by cases h⟩))⟩)
  | cons c todo=>
   obtain⟨g1,g2,g3⟩:=Ts hd
   simp only[Yc] at hk
   simp only[dv3] at h
   obtain⟨t,e1,h⟩:=bG h
   refine WC.condT (ha.get rfl) (Yj (by omega)) (WC.skip (WC.seq (WC.block (WC.seq ?_))))
   obtain⟨row,q1,e83⟩:=aI6 (P:=PP) (cf:=fH PP T n) (fl:=0) (H:=H) (s:=3) qn (ha.get (k:=79) rfl) (ha.get (k:=81) rfl) (aMj g1) rfl
   obtain rfl:=aRL q1
   have d:=d.more (.blk 3 [[iv c.ID,iv c.At.X,iv c.At.Y]])
   have hH:((H++[dI.blk 3 [[iv 0,iv 0,iv 0]]]).set H.length (.blk 3 [[iv c.ID,iv c.At.X,iv c.At.Y]]))=H++[.blk 3 [[iv c.ID,iv c.At.X,iv c.At.Y]]]:=by
    rw[List.set_append_right _ _ (Zf _),XR];rfl
   have e17:∀{tm:List AV},aL PP (fH PP T n) 0 (.alloc [z0,z0,z0]) tm H=some (.ptr H.length 1 0 0,H++[.blk 3 [[iv 0,iv 0,iv 0]]]):=rfl
   have est:∀{tm:List AV} {x y:bB},aG tm x=.ptr H.length 1 0 0->aG tm y=.agg [iv c.ID,iv c.At.X,iv c.At.Y]->aL PP (fH PP T n) 0 (.store 3 x y) tm (H++[.blk 3 [[iv 0,iv 0,iv 0]]])=some (.lit bQ,H++[.blk 3 [[iv c.ID,iv c.At.X,iv c.At.Y]]]):=λ{tm x y} hx hy=>by
    rw[<-hH];simp only[aL,hx,hy,cellsOf,wY,aSf];rfl
   refine WC.reg (AO.op ha e83 λtm ha=>AO.op ha (aQz (n:=3) (ha.get rfl) rfl) λtm ha=>AO.op ha e17 λtm ha=>AO.sto ha (est (ha.get rfl) (ha.get rfl)) (AO.nil ha (WC.seq (WC.reg ?_))))
   have hn:=aSf H (.blk 3 [[iv c.ID,iv c.At.X,iv c.At.Y]])
   generalize H++[.blk 3 [[iv c.ID,iv c.At.X,iv c.At.Y]]]=H2 at d hn |-
   refine AO.op ha (Ry (ha.get rfl) d.h0 rfl rfl (Zf 3) rfl) λtm ha=>AO.op ha (aEQ (ha.get rfl)) λtm ha=>AO.op ha (Ry (v:=iv c.ID) (ha.get rfl) hn rfl rfl (Zj rfl) rfl) λtm ha=>AO.op ha (aM2 qn qa qf e1 (ha.get rfl) (ha.get rfl)) λtm ha=>AO.op ha (Ng (ha.get rfl) rfl rfl) λtm ha=>AO.nil ha ?_
   cases ht:(t==0) with
   | false=>
    rw[ht] at h
    refine WC.condF (ha.get rfl) ht (WC.skip (WC.reg (AO.op ha (Ng (ha.get rfl) rfl rfl) λtm ha=>AO.mov ha rfl λtm ha=>AO.nil ha ?_)))
    exact aM6 hb todo k (i+1) _ _ w r g2 (by omega) (by omega) d (λj s hj=>Xl (hs j s hj)) (.cons (ha.get rfl) (.cons (ha.get rfl) (.cons (by rw[<-aKu (by omega)];exact ha.get rfl) (.cons (ha.get rfl) (.cons (ha.get rfl) (.cons (ha.get rfl) ⟨ha.ln,λ_ _ h=>by cases h⟩)))))) h
   | true=>
    rw[ht] at h
    obtain⟨ix,e3,h⟩:=bG h
    obtain⟨ra,e4,h⟩:=bG h
    refine WC.condT (ha.get rfl) ht (WC.seq (WC.reg ?_))
    refine AO.mov ha rfl λtm ha=>AO.mov ha rfl λtm ha=>AO.op ha (aEQ (ha.get rfl)) λtm ha=>AO.op ha (Ry (v:=.agg [iv c.At.X,iv c.At.Y]) (ha.get rfl) hn rfl rfl (Zj rfl) rfl) λtm ha=>AO.op ha (aM1 qm d (ha.get rfl) (ha.get rfl) (ha.get rfl) e3) λtm ha=>AO.mov ha rfl λtm ha=>AO.nil ha (WC.reg ?_)
    obtain⟨f1,f2,f3⟩:=qD e4
    obtain⟨ro,f4,rfl⟩:∃ro,w[ix.toNat]?=some ro/\ro.a=ra:=by
     rw[Zk,Zq] at f2;exact f2
    have hlt:ix.toNat<w.length:=(Ze.1 f4).1
    have hbo:=hs _ _ f4
    have f5:(w.map RA.c)[ix.toNat]?=some ro.c:=by rw[Zk,f4];rfl
    obtain⟨kk,z,H',p1,p2,p3,p4⟩:=aM5 (u:=true) (bytes:=8) (a':=⟨ro.a.twice,ro.a.outer,ro.a.inner,ro.a.alone++[c.ID]⟩) (kd:=1) (l:=ro.a.alone) (e:=c.ID) (row:=[iv c.ID]) d f4 ⟨.lit _,trivial⟩ rfl (by decide) (by omega) (d.i.cy _ _ f4) ⟨rfl,rfl⟩ (.inr ⟨rfl,rfl⟩) (.inl ⟨rfl,λ_ _ h=>h⟩)
    refine AO.mov ha rfl λtm ha=>AO.mov ha rfl λtm ha=>AO.mov ha rfl λtm ha=>AO.mov ha rfl λtm ha=>AO.op ha (aEP (ha.get rfl) (ha.get rfl) d.h1 (by simp) f1 hlt) λtm ha=>AO.op ha (aEQ (ha.get rfl)) λtm ha=>AO.op ha (Ry (v:=ro.y) (ha.get rfl) d.h1 (by simp) f5 (ro.c_le (by decide)) rfl) λtm ha=>AO.op ha (aEQ (ha.get rfl)) λtm ha=>AO.op ha (Ry (v:=iv c.ID) (ha.get rfl) hn rfl rfl (Zj rfl) rfl) λtm ha=>AO.op (v:=.sl true [[iv c.ID]]) (H':=H2) ha (by
     simp only[aL,ZE,Yn,ha.get (k:=103) rfl];rfl) λtm ha=>AO.op ha (aM3 (ha.get rfl) (by rw[ha.get (k:=104) rfl];rfl) p1) λtm ha=>
     AO.op ha (aEP (ha.get rfl) (ha.get rfl) p2 (by simp) f1 hlt) λtm ha=>AO.op ha (aEQ (ha.get rfl)) λtm ha=>AO.sto ha (aUL (ha.get rfl) (ha.get rfl) p2 (by simp) f5 (ro.c_le (by decide)) (by decide)) (AO.nil ha (WC.reg ?_))
    refine AO.op ha (Ng (ha.get rfl) rfl rfl) λtm ha=>AO.mov ha rfl λtm ha=>AO.nil ha ?_
    refine aM6 hb todo k (i+1) _ _ _ r g2 (by omega) (by omega) p4 ?_ ?_ (by rw[Xz];exact h)
    .intro j s hj
     by_cases e:ix.toNat=j
     .subst e
      rw[Z3 hlt] at hj;cases hj
      simp only[upR,Zh,Yd];omega
     .rw[Zv e] at hj
      exact Xl (hs j s hj)
    .exact .cons (ha.get rfl) (.cons (ha.get rfl) (.cons (by rw[<-aKu (by omega)];exact ha.get rfl) (.cons (ha.get rfl) (.cons (ha.get rfl) (.cons (by rw[Yr];exact ha.get rfl) ⟨ha.ln,λ_ _ h=>by cases h⟩)))))
end
theorem aJM(n:Nat)(p:aM)(cs:List (List Int))(m:List (Int×List Aaa))(r:List dO)(h:jK n p cs m=some r){xn xa xf xc xm:AV}(qn:Qp (.vw 18 p.Nodes) xn)(qa:Qp (.vw 20 p.Arcs) xa)(qf:Qp (.vw 1 p.Faces) xf)(qc:Qp (.vw 12 cs) xc)(qm:Qp (.rmp 1 14 m) xm):
 ∃w H,fH PP T n 0 129 [.agg [xn,xa,xf],xc,xm] []=some (.ms 1 w.length 0 w.length,H)/\w.map RA.a=r/\DA xn xa xf w H:=by
 cases n with
 | zero=>cases h
 | succ n=>
  rw[jK] at h
  obtain⟨_,eg,h⟩:=bG h
  obtain⟨b1,b2,b3,b4⟩:=Zl (zC eg)
  obtain⟨lq,e1,h⟩:=bG h
  obtain⟨l2,e2,h⟩:=bG h
  have key:WC PP (fH PP T n) n 0 (Q5 T 129).body ⟨[.agg [xn,xa,xf],xc,xm]++List.replicate 107 (.lit bQ),[]⟩ λx s=>x=.ret/\∃w,w.map RA.a=r/\DA xn xa xf w s.heap/\aG s.tmps (.tmp 6)=.ms 1 w.length 0 w.length:=by
   rw[aPe]
   have ha:At 110 [(0,.agg [xn,xa,xf]),(1,xc),(2,xm)] ([.agg [xn,xa,xf],xc,xm]++List.replicate 107 (.lit bQ)):=.cons rfl (.cons rfl (.cons rfl ⟨rfl,λ_ _ h=>by cases h⟩))
   generalize [AV.agg [xn,xa,xf],xc,xm]++List.replicate 107 (.lit bQ)=tm at ha
   refine WC.seq (WC.reg (AO.op (v:=.ptr 0 1 0 0) (H':=[.blk 3 [[xn,xa,xf]]]) ha (by simp only[aL,ha.get (k:=0) rfl];rfl) λtm ha=>AO.op (v:=.sl false []) (H':=[.blk 3 [[xn,xa,xf]]]) ha rfl λtm ha=>AO.nil ha (WC.seq (WC.reg ?_))))
   refine AO.op (v:=.agg [iv 0,.lit bS,.lit bS,.lit bS]) (H':=[.blk 3 [[xn,xa,xf]]]) ha rfl λtm ha=>AO.op (v:=.ms 1 1 0 1) (H':=[.blk 3 [[xn,xa,xf]],.blk 4 [[iv 0,.lit bS,.lit bS,.lit bS]]]) ha (by simp only[aL,ZE,Yn,ha.get (k:=19) rfl];rfl) λtm ha=>AO.mov ha rfl λtm ha=>AO.nil ha (WC.seq (WC.reg ?_))
   refine AO.op (v:=.ms 2 0 0 0) (H':=[.blk 3 [[xn,xa,xf]],.blk 4 [[iv 0,.lit bS,.lit bS,.lit bS]],.blk 1 []]) ha rfl λtm ha=>AO.nil ha (WC.seq (WC.seq (WC.reg ?_)))
   refine AO.mov ha rfl λtm ha=>AO.op ha (aQy qc (ha.get rfl)) λtm ha=>AO.op (v:=iv 0) ha rfl λtm ha=>AO.nil ha ?_
   have d0:DA xn xa xf [⟨⟨0,[],[],[]⟩,.lit bS,.lit bS,.lit bS⟩] [.blk 3 [[xn,xa,xf]],.blk 4 [[iv 0,.lit bS,.lit bS,.lit bS]],.blk 1 []]:=by
    have g:∀(i:Nat) (r:RA),[(⟨⟨0,[],[],[]⟩,.lit bS,.lit bS,.lit bS⟩:RA)][i]?=some r->r=⟨⟨0,[],[],[]⟩,.lit bS,.lit bS,.lit bS⟩:=λi r hr=>ZJ.1 (Zg hr)
    refine⟨rfl,rfl,Zf 3,⟨λi r hr=>?_,λi r hr=>?_,λi r hr=>?_,λi j r s u v k hr _ hk _=>?_⟩⟩
    .rw[g i r hr];exact Qp.mkS (.inl ⟨rfl,rfl⟩) trivial
    .rw[g i r hr];exact .inl ⟨rfl,rfl⟩
    .rw[g i r hr];exact .inl ⟨rfl,rfl⟩
    .rw[g i r hr] at hk;cases u<;>cases hk
   refine WC.block (WC.mask (WC.loop ((aM7 (xm:=xm) qn qa qf cs qc b3 cs n 0 tm _ _ [] [] lq rfl b1 (by simp;omega) (by simp;omega) d0 (λr hr=>by rw[ZJ.1 hr];exact⟨rfl,rfl⟩) rfl trivial (.cons (ha.get rfl) (.cons (ha.get rfl) (.cons (ha.get rfl) (.cons (ha.get rfl) (.cons (ha.get rfl) (.cons (ha.get rfl) (.cons (ha.get rfl) ⟨ha.ln,λ_ _ h=>by cases h⟩))))))) e1).imp ?_)))
   rintro x s ⟨rfl,w,qr,rw1,d1,hn,h2,ql,ha,hw,hq⟩
   show WC PP (fH PP T n) n 0 _ ⟨cU (bl 0x18c 9) s.tmps,s.heap⟩ _
   replace ha:At 110 ((8,.ms 2 qr.length 0 qr.length)::dB xm w) (cU (bl 0x18c 9) s.tmps):=.cons (ha.live _ rfl rfl) (.cons (ha.live _ rfl rfl) (.cons (ha.live _ rfl rfl) (.cons (ha.live _ rfl rfl) (ha.mask _))))
   generalize cU (bl 0x18c 9) s.tmps=tm at ha
   generalize s.heap=H at d1 h2
   refine WC.seq (WC.seq (WC.reg (AO.mov ha rfl λtm ha=>AO.op (v:=iv (qr.length:Nat)) (H':=H) ha (by simp only[aL,ha.get (k:=43) rfl]) λtm ha=>AO.op (v:=iv 0) ha rfl λtm ha=>AO.nil ha ?_)))
   have hql:qr.length=lq.2.length:=ql.len
   have hin:∀(j:Nat) (s:RA),w[j]?=some s->s.a.inner.length+s.a.alone.length<=0:=λj s hj=>by
    have hm:=hn s (Zg hj)
    have c1:s.a.inner=[]:=by
     rcases d1.i.cx j s hj with⟨_,h⟩ | ⟨k,es,h,_⟩
     .exact h
     .rw[hm.1] at h;cases h
    have c2:s.a.alone=[]:=by
     rcases d1.i.cy j s hj with⟨_,h⟩ | ⟨k,es,h,_⟩
     .exact h
     .rw[hm.2] at h;cases h
    rw[c1,c2];exact Zf _
   have hlq:lq.2.length<=cs.length:=by
    have:∀(cs:List (List Int)) (l:List dO) (q:List (List Int)) (r:List dO×List (List Int)),dv1 n p cs l q=some r->r.2.length<=q.length+cs.length:=by
     intro cs
     induction cs with
     | nil=>intro l q r h;cases h;exact Zf _
     | cons c cs ih=>
      intro l q r h
      simp only[dv1] at h
      obtain⟨t,_,h⟩:=bG h
      simp only[Yc]
      cases ht:decide (t > 0) with
      | true=>rw[ht] at h;have:=ih _ _ _ h;omega
      | false=>rw[ht] at h;have:=ih _ _ _ h;rw[Zh,Yd] at this;omega
    have:=this cs _ _ _ e1
    simp only[Z1] at this;omega
   refine WC.block (WC.mask (WC.loop ((aQ2 (xn:=xn) (xa:=xa) (xf:=xf) qm lq.2 qr ql (by omega) lq.2 n 0 tm _ w l2 rfl (by omega) (ZG _) d1 h2 hin (.cons (ha.get rfl) (.cons (ha.get rfl) (.cons (ha.get rfl) (.cons (ha.get rfl) (.cons (ha.get rfl) (.cons (ha.get rfl) ⟨ha.ln,λ_ _ h=>by cases h⟩)))))) (by rw[rw1];exact e2)).imp ?_)))
   rintro x s ⟨rfl,w2,rw2,d2,hs2,ha⟩
   show WC PP (fH PP T n) n 0 _ ⟨cU (bl 0x8c 8) s.tmps,s.heap⟩ _
   replace ha:At 110 (dB xm w2) (cU (bl 0x8c 8) s.tmps):=.cons (ha.live _ rfl rfl) (.cons (ha.live _ rfl rfl) (.cons (ha.live _ rfl rfl) (ha.mask _)))
   generalize cU (bl 0x8c 8) s.tmps=tm at ha
   generalize s.heap=H at d2
   refine WC.seq (WC.seq (WC.reg (AO.op ha (aEQ (ha.get rfl)) λtm ha=>AO.op ha (Ry (v:=xn) (ha.get rfl) d2.h0 rfl rfl (Zj rfl) rfl) λtm ha=>AO.op ha (aQy qn (ha.get rfl)) λtm ha=>AO.op (v:=iv 0) ha rfl λtm ha=>AO.nil ha ?_)))
   refine WC.block (WC.mask (WC.loop ((aM6 qn qa qf qm b4 p.Nodes n 0 tm _ w2 r rfl b2 (ZG _) d2 (λj s hj=>by have:=hs2 j s hj;omega) (.cons (ha.get rfl) (.cons (ha.get rfl) (.cons (ha.get rfl) (.cons (ha.get rfl) (.cons (ha.get rfl) (.cons (ha.get rfl) ⟨ha.ln,λ_ _ h=>by cases h⟩)))))) (by rw[rw2];exact h)).imp ?_)))
   rintro x s ⟨rfl,w3,rw3,d3,ha⟩
   show WC PP (fH PP T n) n 0 _ ⟨cU (bl 0x80 8) s.tmps,s.heap⟩ _
   replace ha:At 110 [(7,.ms 1 w3.length 0 w3.length)] (cU (bl 0x80 8) s.tmps):=.cons (ha.live _ rfl rfl) (ha.mask _)
   generalize cU (bl 0x80 8) s.tmps=tm at ha
   exact WC.seq (WC.reg (AO.mov ha rfl λtm ha=>AO.mov ha rfl λtm ha=>AO.nil ha (WC.ret ⟨rfl,w3,rw3,d3,ha.get rfl⟩)))
  obtain⟨x,s,k1,rfl,w,rfl,d,k2⟩:=key
  refine⟨w,s.heap,?_,rfl,d⟩
  rw[I8 (Q5 T 129) (by kernel_rfl)]
  have e:(Q5 T 129).nt=110:=by kernel_rfl
  have e2:(Q5 T 129).rets=[.tmp 6]:=by kernel_rfl
  rw[e]
  show aG6 _ (eU PP (fH PP T n) n 0 (Q5 T 129).body ⟨[.agg [xn,xa,xf],xc,xm]++List.replicate 107 (.lit bQ),[]⟩)=_
  rw[k1]
  simp only[aG6,e2,lP,Ro,k2,kB]
theorem aGD: FOK PP T 129 ⟨[.w 25,.w 34,.w 35],[39],true,λn p=>jK n p.1 p.2.1 p.2.2⟩:=by
 rintro n ⟨p,cs,m⟩ r h aw q
 match aw,q with
 | [pl,xc,xm],q=>
 obtain⟨q1,q2,q3,_⟩:=q
 obtain⟨b,rfl,q4⟩:=Qh.inA (cs:=[.vw 18 p.Nodes,.vw 20 p.Arcs,.vw 1 p.Faces]) q1
 clear q1
 match b,q4 with
 | [xn,xa,xf],q4=>
 obtain⟨qn,qa,qf,_⟩:=q4
 replace qn:=Qh.pu (v:=.vw 18 p.Nodes) qn trivial
 replace qa:=Qh.pu (v:=.vw 20 p.Arcs) qa trivial
 replace qf:=Qh.pu (v:=.vw 1 p.Faces) qf trivial
 have qc:Qp (.vw 12 cs) xc:=Qh.pu (v:=.vw 12 cs) q2 trivial
 have qm:Qp (.rmp 1 14 m) xm:=Qh.pu (v:=.rmp 1 14 m) q3 trivial
 obtain⟨w,H,k1,rfl,d⟩:=aJM n p cs m r h qn qa qf qc qm
 have hw:(w.map RA.c).length=w.length:=ZO _
 refine⟨[.ms 1 w.length 0 w.length],H,k1,?_,?_,?_⟩
 .intro H1
  refine⟨.p _ _ ?_,trivial⟩
  show Qp (.sl 38 (w.map RA.a)) (eE H 0 6 (.ms 1 w.length 0 w.length))
  simp only[eE,ZG,Zz,rd,d.h1,hw,YD]
  rw[ZW (by simp)]
  exact Qp.mkS (.inr ⟨_,rfl⟩) (d.i.rows (d:=4) λk _=>rfl)
 .intro a ha l e
  rw[ZJ.1 ha] at e;cases e
 .intro _ k y us hv
  cases hv
  refine⟨_,[],_,rfl,?_,d.i.rows (d:=5) (H':=H.set 1 (.blk 4 (w.map RA.c++[List.replicate 4 .undef]))) λk hk=>Zv (by omega)⟩
  simp only[SS,d.h1,hw,Y5,Xr]
  rfl
def UW: Kn:=⟨129,_,aGD⟩
end
end
section
variable {R:Type}(n:Nat)
noncomputable section
abbrev C92:=UW::C91
def Fn: Nat->aM->Int->Option Int
 | 0,_,_=>none
 | n+1,a,b=>bnd (Jq n a b) λc=>cnd c.2 (cd (b > 0) (some c.1.Left)<|some c.1.Right)<|some 0
def aDl: Kn:=bH 154 0x315287 C92 [] [] Fn
abbrev C93:=aDl::C92
def fX: Nat->dO->Option (List<|List Int)
 | 0,_=>none
 | n+1,a=>bnd (app [a.outer] a.inner) λb=>some b
def Pc: Kn:=bH 155 0x514f02b2af518ef47ba84da00a C93 [] [] fX
abbrev C94:=Pc::C93
def Bv(n:Nat): ((List<|Int×Bool)×Int)->((Bool->Option R)×Unit)->Unit->Option R:=λ(a,b) (c,_) _=>cnd (b==0) (c true)<|cnd ((Option.getD (cE a b) false)) (c true)<|c false
def US:=fB Bv
def IG: Lc 130 0 1:=bO 0x1c5d72f670c072634f8e9cc43a508a4d64c6ab055ca3527af4b702f0d99c839119f0d061e C94 [] [] @Bv
def pN: (aM×List Int×Int×List Int×Int)->(Int->Option R)->((Unit->Option R)×(Unit->Option R)×Unit)->Int->Option R:=λ(a,b,c,d,f) g (h,i,_) j=>cd (j<f) (bnd (idx d j) λl=>bnd (Fn n a l) λm=>cnd (m != c) (h ())<|g<|wr<|j+1)<|i ()
def UT:=qB pN
def IH: Lc 130 0 3:=bL 0x509ec6850384075d924db0e760763599eef134587c9d393174a035b26c74fa470cb6ca43e70d57faeb824bf98934a26ed6987 C94 [] [] @pN
def pO: (aM×List Int×Int×(List<|List Int)×Int)->(Int->Option R)->((Unit->Option R)×(Unit->Option R)×Unit)->Int->Option R:=λ(a,b,c,d,f) g (h,i,_) j=>cd (j<f) (bnd (idx d j) λl=>bnd2 (UT n (a,b,c,l,(ln l)) 0) (λ_=>h ()) λm=>bnd (some m) λ_=>g<|wr<|j+1)<|i ()
def Mc:=qB pO
def II: Lc 130 0 2:=bL 0x3faa79a4aae88d8a4d5aab3e8080f56394c172b1bec15d4829587045f47f51969797d1047d5cd41d2544b25b58 C94 [⟨0,[cs IH]⟩] [] @pO
def pP: (aM×List dO×Int)->((List Int×(List<|Int×Bool)×Int)->Option R)->(((List Int×(List<|Int×Bool)×dO)->Option R)×((List Int×(List<|Int×Bool))->Option R)×Unit)->(List Int×(List<|Int×Bool)×Int)->Option R:=λ(a,b,c) d (f,g,_) (h,i,j)=>cd (j<c) (bnd (idx b j) λl=>cd (j > 0) (bnd (idx l.outer 0) λm=>bnd (Fn n a m) λo=>bnd (US n (i,o)) λr=>cnd r (f (h,i,l))<|bnd (fX n l) λs=>bnd2 (Mc n (a,h,o,s,(ln s)) 0) (λ_=>f (h,(kW i o true),l)) λt=>bnd (some t) λ_=>bnd (app h [o]) λu=>d (u,(kW i o true),(wr<|j+1)))<|bnd (fX n l) λv=>bnd2 (Mc n (a,h,0,v,(ln v)) 0) (λ_=>f (h,i,l)) λw=>bnd (some w) λ_=>bnd (app h [0]) λx=>d (x,i,(wr<|j+1)))<|g (h,i)
def UU:=qB pP
def IJ: Lc 130 0 0:=bL 0x46557010e8519dac438025759c81b3fc59417e0f0419769a854778b165f0626d8bb4ed26337ee7fd98f1e5fd6df02122519c24a301c53072c515 C94 [⟨0,[cs IG]⟩,⟨1,[cs II]⟩] [] @pP
def Kk: Nat->aM->(List dO)->Option (List Int×Bool)
 | 0,_,_=>none
 | n+1,a,b=>bnd2 (UU n (a,b,(ln b)) ([],[],0)) (λ_=>some ([],false)) λc=>bnd (some c) λd=>cnd ((ln d.2)==(ln a.Faces)) (some (d.1,true))<|some (d.1,false)
def y5: Kn:=bH 130 0x7f75403e44fbcaa3ff515bbb0b936 C94 [⟨0,[IJ]⟩] [] Kk
abbrev C95:=y5::C94
def Bu: Nat->aM->Option (List dO×List Int×(List<|Int×List Aaa)×Int)
 | 0,_=>none
 | n+1,a=>bnd (Bm n a) λb=>cnd (b.2 != 0) (some ([],[],[],b.2))<|bnd (pM n a) λc=>bnd (jK n a b.1 c) λd=>bnd (Kk n a d) λf=>cnd f.2 (some (d,f.1,c,0))<|some ([],[],[],12)
def R6: Kn:=bH 106 0xc44ce7ba32f9ee9a6 C95 [] [] Bu
abbrev C96:=R6::C95
def Km: Nat->aM->Option Int
 | 0,_=>none
 | n+1,a=>bnd (Bu n a) λb=>some b.2.2.2
def y7: Kn:=bH 82 0x31542e C96 [] [] Km
abbrev C97:=y7::C96
def QM: Nat->aH->Option Bool
 | 0,_=>none
 | n+1,a=>cd ((ln a.Parts) > 64) (some true)<|some false
def EG: Kn:=bH 83 0x90e C97 [] [] QM
abbrev C98:=EG::C97
def jV(n:Nat): aH->((Bool->Option R)×Unit)->Unit->Option R:=λa (b,_) _=>cd (a.ID<1) (b true)<|cd (a.ID > 1073741824) (b true)<|cd (a.Class<1) (b true)<|cd (a.Class > 9) (b true)<|b false
def mK:=fB jV
def Nt: Lc 85 0 0:=bO 0x651855ded C98 [] [] @jV
def QL: Nat->aH->Option Bool
 | 0,_=>none
 | n+1,a=>bnd (mK n a) λb=>cnd b (some true)<|some false
def EF: Kn:=bH 85 0x90e C98 [⟨0,[Nt]⟩] [] QL
abbrev C99:=EF::C98
def QK: Nat->aH->Option Bool
 | 0,_=>none
 | n+1,a=>bnd (dM n a.Kind) λb=>cnd (b==0) (some true)<|some false
def EE: Kn:=bH 86 0x90e C99 [] [] QK
abbrev aTq:=EE::C99
def jU: aH->((Bool->Option R)×Unit)->Unit->Option R:=λa (b,_) _=>cd (a.Name=(⟨#[]⟩:ByteArray)) (b false)<|bnd (sN n a.Name) λc=>cnd (c != 0) (b true)<|b false
def mJ:=fB jU
def Ns: Lc 87 0 0:=bO 0x651855ded aTq [] [] @jU
def QJ: Nat->aH->Option Bool
 | 0,_=>none
 | n+1,a=>bnd (mJ n a) λb=>cnd b (some true)<|some false
def ED: Kn:=bH 87 0x90e aTq [⟨0,[Ns]⟩] [] QJ
abbrev aTp:=ED::aTq
def jT: aH->((Bool->Option R)×Unit)->Unit->Option R:=λa (b,_) _=>cnd ((ln a.Parts)==0) (b true)<|bnd (dM n a.Kind) λc=>cnd (c==1) (cd ((ln a.Parts) > 1) (b true)<|b false)<|b false
def mI:=fB jT
def Nr: Lc 88 0 0:=bO 0x651855ded aTp [] [] @jT
def QI: Nat->aH->Option Bool
 | 0,_=>none
 | n+1,a=>bnd (mI n a) λb=>cnd b (some true)<|some false
def EC: Kn:=bH 88 0x90e aTp [⟨0,[Nr]⟩] [] QI
abbrev aVU:=EC::aTp
def oY: Nat->(List Int)->Int->Option Bool
 | 0,_,_=>none
 | n+1,a,b=>bnd (dP n a b) λc=>cnd c (some true)<|some false
def aE0: Kn:=bH 120 0x2d8d42 aVU [] [] oY
abbrev aKl:=aE0::aVU
def kZ: (aM×aH×Int)->((Bool->Option R)×Unit)->Unit->Option R:=λ(a,b,c) (d,_) _=>bnd (dM n b.Kind) λf=>cnd (f==1) (bnd (jL n a c) λg=>cnd g.2 (d false)<|d true)<|cnd (f==2) (bnd (Pp n a c) λh=>cnd h.2 (d false)<|d true)<|cnd (f==3) (bnd (oY n a.Faces c) λi=>cnd i (d false)<|d true)<|d true
def zG:=uM kZ
def Rl: Ic:=cJ 131 2 3 0xd9749225a2eac2adc22e166 aKl [] [] @kZ
def gV: (aM×aH×List Int×Int)->(Int->Option R)->((Int->Option R)×(Unit->Option R)×Unit)->Int->Option R:=λ(a,b,c,d) f (g,h,_) i=>cd (i<d) (bnd (idx c i) λj=>bnd (zG n (a,b,j)) λl=>cnd l (g i)<|f<|wr<|i+1)<|h ()
def DZ:=qB gV
def Rk: Lc 126 0 0:=bL 0x1592cd1430bbcbb6935048eb4e0ba47414ac141b0107bbce4b aKl [] [Rl] @gV
def lA: (aM×aH×List Int)->((Int->Option R)×Unit)->Unit->Option R:=λ(a,b,c) (d,_) _=>bnd2 (DZ n (a,b,c,(ln c)) 0) (λf=>d f) λg=>bnd (some g) λ_=>d (-1)
def zH:=uM lA
def Rm: Ic:=cJ 126 0 2 0x373320a17ec6b56cce7fd6a9b0f25f71217 aKl [⟨0,[Rk]⟩] [] @lA
def lB: (aM×aH×List Int)->((Bool->Option R)×Unit)->Unit->Option R:=λ(a,b,c) (d,_) _=>bnd (zH n (a,b,c)) λf=>cd (f>=0) (d true)<|d false
def oE:=uM lB
def Rn: Ic:=cJ 105 0 2 0x5a0c1bb9ba48dbeba521f19e86b80ff2 aKl [] [Rm] @lB
def VT: Nat->aM->aH->Option Bool
 | 0,_,_=>none
 | n+1,a,b=>bnd (oE n (a,b,b.Parts)) λc=>cnd c (some true)<|some false
def KL: Kn:=bH 108 0x34d2b3dfe aKl [] [Rn] VT
abbrev gH:=KL::aKl
def zP(n:Nat): aK->((Unit->Option R)×Unit)->Unit->Option R:=λa (b,_) _=>b ()
def Hq:=uM zP
def EQ: Ic:=cJ 84 0 1 0x29274ccaa174a137009386fc8a96c3cfc88803 gH [] [] @zP
def zO(n:Nat): Unit->((((List<|Aac×Bool))->Option R)×Unit)->Unit->Option R:=λ_ (a,_) _=>a []
def Hp:=uM zO
def EO: Ic:=cJ 90 0 0 0x1166a935924f79b9d4be60b6802da89dcf09bb2c2758d1f gH [] [] @zO
def zJ: aH->((Unit->Option R)×(Int->Option R)×Unit)->Unit->Option R:=λa (b,c,_) _=>bnd (dM n a.Kind) λd=>cnd (d==2) (b ())<|cnd (d==3) (c a.Kind)<|c 0
def Hk:=pc2 zJ
def EH: Lc 109 0 0:=bO 0x112f0558c8e519740db6164f72f2dc34cbb552504f64c09d3d4a5 gH [] [] @zJ
def oG(n:Nat): (Int×List Int×Int)->(((List<|Aac×Bool)×Int)->Option R)->((((List<|Aac×Bool)×Int)->Option R)×(((List<|Aac×Bool))->Option R)×Unit)->((List<|Aac×Bool)×Int)->Option R:=λ(a,b,c) d (f,g,_) (h,i)=>cd (i<c) (bnd (idx b i) λj=>cnd ((Option.getD (cE h<|Aac.mk a j) false)) (f (h,j))<|d ((kW h (Aac.mk a j) true),(wr<|i+1)))<|g h
def QN:=qB oG
def EI: Lc 109 0 1:=bL 0x1f7d408c00f4e066987b4d083e0f47889be7d9e76e10f41d6c7b174f3fb5f08b0c2e50f69d7f2c99df21d631bf424 gH [] [] @oG
def zL: ((List<|Aac×Bool)×aH)->((((List<|Aac×Bool))->Option R)×(((List<|Aac×Bool)×Int×Int)->Option R)×Unit)->Unit->Option R:=λ(a,b) (c,d,_) _=>bnd2 (Hk n b) (λ_=>c a) λf=>bnd (some f) λg=>bnd2 (QN n (g,b.Parts,(ln b.Parts)) (a,0)) (λh=>d (h.1,g,h.2)) λi=>bnd (some i) λj=>c j
def Hm:=DS zL
def EL: Ic:=cJ 109 0 2 0x1149ede6aba7e1d4e397c01cef396027d60946c34747b3e77f839dddf4a2be724d6e9d gH [⟨0,[EH]⟩,⟨1,[EI]⟩] [] @zL
def oH: (List aH×Int)->(((List<|Aac×Bool)×Int)->Option R)->((((List<|Aac×Bool)×aH×Int×Int×Int)->Option R)×(((List<|Aac×Bool))->Option R)×Unit)->((List<|Aac×Bool)×Int)->Option R:=λ(a,b) c (d,f,_) (g,h)=>cd (h<b) (bnd (idx a h) λi=>bnd2 (Hm n (g,i)) (λj=>c (j,(wr<|h+1))) λl=>bnd (some l) λm=>d (m.1,i,m.2.1,m.2.2,h))<|f g
def QO:=qB oH
def EJ: Lc 110 0 0:=bL 0x8c63ae17fbae926fdf9a3ea80ffd804769007a6b4d47ea0705f5 gH [] [EL] @oH
def zM: ((List<|Aac×Bool)×List aH)->((((List<|Aac×Bool)×Int×Int×Int×ByteArray×List Int×Int×Int×Int)->Option R)×(((List<|Aac×Bool))->Option R)×Unit)->Unit->Option R:=λ(a,b) (c,d,_) _=>bnd2 (QO n (b,(ln b)) (a,0)) (λf=>c (f.1,f.2.1.ID,f.2.1.Kind,f.2.1.Class,f.2.1.Name,f.2.1.Parts,f.2.2.1,f.2.2.2.1,f.2.2.2.2)) λg=>bnd (some g) λh=>d h
def Hn:=DS zM
def EM: Ic:=cJ 110 0 2 0x17308fe47d0aac84a48bffe12297145e95a26c96140286d28c7027c9613fc0096df gH [⟨0,[EJ]⟩] [] @zM
def zN: ((List<|Aac×Bool)×List aH)->((((List<|Aac×Bool)×Int×Int×Int×ByteArray×List Int×Int×Int×Bool)->Option R)×(((List<|Aac×Bool))->Option R)×Unit)->Unit->Option R:=λ(a,b) (c,d,_) _=>bnd2 (Hn n (a,b)) (λf=>cd (f.2.2.2.2.2.2.2.2>=0) (c (f.1,f.2.1,f.2.2.1,f.2.2.2.1,f.2.2.2.2.1,f.2.2.2.2.2.1,f.2.2.2.2.2.2.1,f.2.2.2.2.2.2.2.1,true))<|c (f.1,f.2.1,f.2.2.1,f.2.2.2.1,f.2.2.2.2.1,f.2.2.2.2.2.1,f.2.2.2.2.2.2.1,f.2.2.2.2.2.2.2.1,false)) λg=>bnd (some g) λh=>d h
def Ho:=DS zN
def EN: Ic:=cJ 91 0 2 0x1731b13c23ac1e51125e99dc9d4d82add56d3d8845995f4d7a4812ac366b780e47e gH [] [EM] @zN
def AY: Ic:=cJ 131 10 3 0x78cd4e8076a5e0e229cce4076d387 gH [] [] @kZ
def Xv: Lc 126 0 0:=bL 0x26d6a4e44da789edac591f7255f92ebbb349f785c499 gH [] [AY] @gV
def AZ: Ic:=cJ 126 0 2 0x4a1575710ea2eb906cbc9d90d8e6c49e gH [⟨0,[Xv]⟩] [] @lA
def BA: Ic:=cJ 105 0 2 0x5a0a87132358c2f6c9f724b17fad0799 gH [] [AZ] @lB
def wO: (aM×aH)->((Bool->Option R)×Unit)->Unit->Option R:=λ(a,b) (c,_) _=>bnd (oE n (a,b,b.Parts)) λd=>cnd d (c true)<|c false
def Di:=uM wO
def BB: Ic:=cJ 108 0 2 0xa2125b10c5665b398ec98c4fea gH [] [BA] @wO
def wP: (aK×aH)->(((aM×Bool)->Option R)×Unit)->Unit->Option R:=λ(a,b) (c,_) _=>bnd (Di n (a.Plan,b)) λd=>cnd d (c (a.Plan,true))<|c (a.Plan,false)
def Dj:=uM wP
def BC: Ic:=cJ 89 0 2 0x255b896cffb20c3ba2abd4c25c8fadaf4b1baf gH [] [BB] @wP
def mR: (aK×List aH×Int)->(Int->Option R)->(((aH×aM×aH×Int)->Option R)×(Unit->Option R)×Unit)->Int->Option R:=λ(a,b,c) d (f,g,_) h=>cd (h<c) (bnd (idx b h) λi=>bnd (Dj n (a,i)) λj=>cnd j.2 (f (i,j.1,i,h))<|d<|wr<|h+1)<|g ()
def KT:=qB mR
def AA: Lc 110 0 0:=bL 0x42f0d7ef324ba9641f9e904e992b85d1db855ee22e89e42c3170cb04bb gH [] [BC] @mR
def wQ: (aK×List aH)->(((aH×aM×aH×Int)->Option R)×(Unit->Option R)×Unit)->Unit->Option R:=λ(a,b) (c,d,_) _=>bnd2 (KT n (a,b,(ln b)) 0) (λf=>c (f.1,f.2.1,f.2.2.1,f.2.2.2)) λg=>bnd (some g) λ_=>d ()
def Dk:=DS wQ
def BE: Ic:=cJ 110 0 2 0x29bd97f2d0a333fa209fa928dc1e5422fe22fb5f0815c7ca3ef3d4dc2e0fd gH [⟨0,[AA]⟩] [] @wQ
def zK: (aK×List aH)->(((aH×aM×aH×Bool)->Option R)×(Unit->Option R)×Unit)->Unit->Option R:=λ(a,b) (c,d,_) _=>bnd2 (Dk n (a,b)) (λf=>cd (f.2.2.2>=0) (c (f.1,f.2.1,f.2.2.1,true))<|c (f.1,f.2.1,f.2.2.1,false)) λg=>bnd (some g) λ_=>d ()
def Hl:=DS zK
def EK: Ic:=cJ 91 0 2 0x1426c7c1e05f93aa48a8d1402213480f6c271280286aaa1be9573 gH [] [BE] @zK
def Vu: Lc 88 0 0:=bO 0x177c3f9ba1b4e7031c gH [] [] @jT
def wL: aH->((Bool->Option R)×Unit)->Unit->Option R:=λa (b,_) _=>bnd (mI n a) λc=>cnd c (b true)<|b false
def Df:=uM wL
def AU: Ic:=cJ 88 0 1 0xa05 gH [⟨0,[Vu]⟩] [] @wL
def mQ: (List aH×Int)->(Int->Option R)->(((aH×Int)->Option R)×(Unit->Option R)×Unit)->Int->Option R:=λ(a,b) c (d,f,_) g=>cd (g<b) (bnd (idx a g) λh=>bnd (Df n h) λi=>cnd i (d (h,g))<|c<|wr<|g+1)<|f ()
def KS:=qB mQ
def Wu: Lc 110 0 0:=bL 0x58d25ca96 gH [] [AU] @mQ
def wM: (List aH)->(((aH×Int)->Option R)×(Unit->Option R)×Unit)->Unit->Option R:=λa (b,c,_) _=>bnd2 (KS n (a,(ln a)) 0) (λd=>b (d.1,d.2)) λf=>bnd (some f) λ_=>c ()
def Dg:=DS wM
def AW: Ic:=cJ 110 0 2 0x589d06e99 gH [⟨0,[Wu]⟩] [] @wM
def wN: (List aH)->(((aH×Bool)->Option R)×(Unit->Option R)×Unit)->Unit->Option R:=λa (b,c,_) _=>bnd2 (Dg n a) (λd=>cd (d.2>=0) (b (d.1,true))<|b (d.1,false)) λf=>bnd (some f) λ_=>c ()
def Dh:=DS wN
def AX: Ic:=cJ 91 0 2 0x58a5ea802 gH [] [AW] @wN
def Vt: Lc 87 0 0:=bO 0x177c3f9ba1b4e7031c gH [] [] @jU
def wI: aH->((Bool->Option R)×Unit)->Unit->Option R:=λa (b,_) _=>bnd (mJ n a) λc=>cnd c (b true)<|b false
def Dc:=uM wI
def AP: Ic:=cJ 87 0 1 0xa05 gH [⟨0,[Vt]⟩] [] @wI
def mP: (List aH×Int)->(Int->Option R)->(((aH×Int)->Option R)×(Unit->Option R)×Unit)->Int->Option R:=λ(a,b) c (d,f,_) g=>cd (g<b) (bnd (idx a g) λh=>bnd (Dc n h) λi=>cnd i (d (h,g))<|c<|wr<|g+1)<|f ()
def KR:=qB mP
def Vz: Lc 110 0 0:=bL 0x58d25bea9 gH [] [AP] @mP
def wJ: (List aH)->(((aH×Int)->Option R)×(Unit->Option R)×Unit)->Unit->Option R:=λa (b,c,_) _=>bnd2 (KR n (a,(ln a)) 0) (λd=>b (d.1,d.2)) λf=>bnd (some f) λ_=>c ()
def Dd:=DS wJ
def AQ: Ic:=cJ 110 0 2 0x589d062ac gH [⟨0,[Vz]⟩] [] @wJ
def wK: (List aH)->(((aH×Bool)->Option R)×(Unit->Option R)×Unit)->Unit->Option R:=λa (b,c,_) _=>bnd2 (Dd n a) (λd=>cd (d.2>=0) (b (d.1,true))<|b (d.1,false)) λf=>bnd (some f) λ_=>c ()
def De:=DS wK
def AR: Ic:=cJ 91 0 2 0x58a5e9c15 gH [] [AQ] @wK
def wF: aH->((Bool->Option R)×Unit)->Unit->Option R:=λa (b,_) _=>bnd (dM n a.Kind) λc=>cnd (c==0) (b true)<|b false
def Cz:=uM wF
def AL: Ic:=cJ 86 0 1 0xa05 gH [] [] @wF
def mO: (List aH×Int)->(Int->Option R)->(((aH×Int)->Option R)×(Unit->Option R)×Unit)->Int->Option R:=λ(a,b) c (d,f,_) g=>cd (g<b) (bnd (idx a g) λh=>bnd (Cz n h) λi=>cnd i (d (h,g))<|c<|wr<|g+1)<|f ()
def KQ:=qB mO
def Vy: Lc 110 0 0:=bL 0x58d25b2bc gH [] [AL] @mO
def wG: (List aH)->(((aH×Int)->Option R)×(Unit->Option R)×Unit)->Unit->Option R:=λa (b,c,_) _=>bnd2 (KQ n (a,(ln a)) 0) (λd=>b (d.1,d.2)) λf=>bnd (some f) λ_=>c ()
def Da:=DS wG
def AM: Ic:=cJ 110 0 2 0x589d056bf gH [⟨0,[Vy]⟩] [] @wG
def wH: (List aH)->(((aH×Bool)->Option R)×(Unit->Option R)×Unit)->Unit->Option R:=λa (b,c,_) _=>bnd2 (Da n a) (λd=>cd (d.2>=0) (b (d.1,true))<|b (d.1,false)) λf=>bnd (some f) λ_=>c ()
def Db:=DS wH
def AN: Ic:=cJ 91 0 2 0x58a5e9028 gH [] [AM] @wH
def Vs: Lc 85 0 0:=bO 0x177c3f9ba1b4e7031c gH [] [] @jV
def wC: aH->((Bool->Option R)×Unit)->Unit->Option R:=λa (b,_) _=>bnd (mK n a) λc=>cnd c (b true)<|b false
def Cw:=uM wC
def AH: Ic:=cJ 85 0 1 0xa05 gH [⟨0,[Vs]⟩] [] @wC
def mN: (List aH×Int)->(Int->Option R)->(((aH×Int)->Option R)×(Unit->Option R)×Unit)->Int->Option R:=λ(a,b) c (d,f,_) g=>cd (g<b) (bnd (idx a g) λh=>bnd (Cw n h) λi=>cnd i (d (h,g))<|c<|wr<|g+1)<|f ()
def KP:=qB mN
def Vx: Lc 110 0 0:=bL 0x58d25a6cf gH [] [AH] @mN
def wD: (List aH)->(((aH×Int)->Option R)×(Unit->Option R)×Unit)->Unit->Option R:=λa (b,c,_) _=>bnd2 (KP n (a,(ln a)) 0) (λd=>b (d.1,d.2)) λf=>bnd (some f) λ_=>c ()
def Cx:=DS wD
def AJ: Ic:=cJ 110 0 2 0x589d04ad2 gH [⟨0,[Vx]⟩] [] @wD
def wE: (List aH)->(((aH×Bool)->Option R)×(Unit->Option R)×Unit)->Unit->Option R:=λa (b,c,_) _=>bnd2 (Cx n a) (λd=>cd (d.2>=0) (b (d.1,true))<|b (d.1,false)) λf=>bnd (some f) λ_=>c ()
def Cy:=DS wE
def AK: Ic:=cJ 91 0 2 0x58a5e843b gH [] [AJ] @wE
def vV: (aK×Int×aH)->((Bool->Option R)×Unit)->Unit->Option R:=λ(a,b,c) (d,_) _=>cd (b > 1) (bnd (idx a.Features<|wr<|b-2) λf=>cd (f.ID>=c.ID) (d true)<|bnd (uH n c.Parts) λg=>cnd g (d false)<|d true)<|bnd (uH n c.Parts) λh=>cnd h (d false)<|d true
def Cq:=fB vV
def Vr: Lc 107 0 0:=bO 0x363a45dfe44927ced7fe68de7d58dd4534098d4b2 gH [] [] @vV
def vZ: (aK×Int×aH)->(((Int×Bool)->Option R)×Unit)->Unit->Option R:=λ(a,b,c) (d,_) _=>bnd (Cq n (a,(wr<|b+1),c)) λf=>cnd f (d ((wr<|b+1),true))<|d ((wr<|b+1),false)
def Ct:=uM vZ
def AE: Ic:=cJ 107 0 3 0x321e3bacfb0d90dc52aafa9352c6da840fb gH [⟨0,[Vr]⟩] [] @vZ
def mM: (aK×List aH×Int)->((Int×Int)->Option R)->(((Int×aH×Int)->Option R)×(Int->Option R)×Unit)->(Int×Int)->Option R:=λ(a,b,c) d (f,g,_) (h,i)=>cd (i<c) (bnd (idx b i) λj=>bnd (Ct n (a,h,j)) λl=>cnd l.2 (f (l.1,j,i))<|d (l.1,(wr<|i+1)))<|g h
def KO:=qB mM
def Vw: Lc 110 0 0:=bL 0x68a40b66780ccc22edb20984b31d15d4bd549c39e4e9cc0898736fe gH [] [AE] @mM
def wA: (aK×Int×List aH)->(((Int×aH×Int)->Option R)×(Int->Option R)×Unit)->Unit->Option R:=λ(a,b,c) (d,f,_) _=>bnd2 (KO n (a,c,(ln c)) (b,0)) (λg=>d (g.1,g.2.1,g.2.2)) λh=>bnd (some h) λi=>f i
def Cu:=DS wA
def AF: Ic:=cJ 110 0 2 0x873c8b048996c77d26a99609e79f2fe8b38f7901ed0431ef9 gH [⟨0,[Vw]⟩] [] @wA
def wB: (aK×Int×List aH)->(((Int×aH×Bool)->Option R)×(Int->Option R)×Unit)->Unit->Option R:=λ(a,b,c) (d,f,_) _=>bnd2 (Cu n (a,b,c)) (λg=>cd (g.2.2>=0) (d (g.1,g.2.1,true))<|d (g.1,g.2.1,false)) λh=>bnd (some h) λi=>f i
def Cv:=DS wB
def AG: Ic:=cJ 91 0 2 0xb578d5ec8f1e5f163c4d43adea925295f9bd12e2016716 gH [] [AF] @wB
def vW(n:Nat): aH->((Bool->Option R)×Unit)->Unit->Option R:=λa (b,_) _=>cd ((ln a.Parts) > 64) (b true)<|b false
def qH:=uM vW
def AB: Ic:=cJ 83 0 1 0xa05 gH [] [] @vW
def mL: (List aH×Int)->(Int->Option R)->(((aH×Int)->Option R)×(Unit->Option R)×Unit)->Int->Option R:=λ(a,b) c (d,f,_) g=>cd (g<b) (bnd (idx a g) λh=>bnd (qH n h) λi=>cnd i (d (h,g))<|c<|wr<|g+1)<|f ()
def KN:=qB mL
def Vv: Lc 110 0 0:=bL 0x58d258ef5 gH [] [AB] @mL
def vX: (List aH)->(((aH×Int)->Option R)×(Unit->Option R)×Unit)->Unit->Option R:=λa (b,c,_) _=>bnd2 (KN n (a,(ln a)) 0) (λd=>b (d.1,d.2)) λf=>bnd (some f) λ_=>c ()
def Cr:=DS vX
def AC: Ic:=cJ 110 0 2 0x589d032f8 gH [⟨0,[Vv]⟩] [] @vX
def vY: (List aH)->(((aH×Bool)->Option R)×(Unit->Option R)×Unit)->Unit->Option R:=λa (b,c,_) _=>bnd2 (Cr n a) (λd=>cd (d.2>=0) (b (d.1,true))<|b (d.1,false)) λf=>bnd (some f) λ_=>c ()
def Cs:=DS vY
def AD: Ic:=cJ 91 0 2 0x58a5e6c61 gH [] [AC] @vY
def fP: Nat->aK->Option Int
 | 0,_=>none
 | n+1,a=>bnd (Km n a.Plan) λb=>cnd (b != 0) (some b)<|cd ((ln a.Features) > 128) (some 3)<|bnd (Hq n a) λ_=>bnd (Hp n ()) λc=>bnd (Nu<|Nat.ble 9 n) λ_=>(let d:=(let f:=λ(g:Int)=>(let h:=(let i:=(let j:=(let l:=(let m:=(let o:=λ(r:(List<|Aac×Bool))=>some 0;(bnd2 (Ho n (c,a.Features)) (λs=>cnd s.2.2.2.2.2.2.2.2 (some 13)<|o s.1) λt=>bnd (some t) λu=>o u));(bnd2 (Hl n (a,a.Features)) (λv=>cnd v.2.2.2 (some 7) m) λw=>bnd (some w) λ_=>m));(bnd2 (Dh n a.Features) (λx=>cnd x.2 (some 1) l) λy=>bnd (some y) λ_=>l));(bnd2 (De n a.Features) (λz=>cnd z.2 (some 14) j) λa0=>bnd (some a0) λ_=>j));(bnd2 (Db n a.Features) (λb0=>cnd b0.2 (some 9) i) λc0=>bnd (some c0) λ_=>i));(bnd2 (Cy n a.Features) (λd0=>cnd d0.2 (some 2) h) λf0=>bnd (some f0) λ_=>h));(bnd2 (Cv n (a,0,a.Features)) (λg0=>cnd g0.2.2 (some 10)<|f g0.1) λh0=>bnd (some h0) λi0=>f i0));(bnd2 (Cs n a.Features) (λj0=>cnd j0.2 (some 3) d) λl0=>bnd (some l0) λ_=>d))
def VW: Kn:=bH 62 0x146a8ffe2fb1168 gH [] [EQ,EO,EN,EK,AX,AR,AN,AK,AG,AD] fP
abbrev aVT:=VW::gH
def K5: Nat->Aab->Int->Option Int
 | 0,_,_=>none
 | n+1,a,b=>bnd (cD n a.ID b) λc=>some c
def RO: Kn:=bH 133 0x619d8b2e0 aVT [] [] K5
abbrev aNt:=RO::aVT
def Jb: (Aab×Int)->((Int->Option R)×Unit)->Unit->Option R:=λ(a,b) (c,_) _=>bnd (cD n a.ID b) λd=>c d
def qK:=uM Jb
def Ja: Ic:=cJ 133 0 2 0x29cb96b701c9298589 aNt [] [] @Jb
def tH: (List Aab×Int)->((Int×Int)->Option R)->((Int->Option R)×Unit)->(Int×Int)->Option R:=λ(a,b) c (d,_) (f,g)=>cd (f<g) (bnd (idx a<|wr<|Int.fdiv (IntKind.u64.wrap<|wr<|f+g) 2) λh=>bnd (qK n (h,b)) λi=>cd (i<0) (c ((wr<|(wr<|Int.fdiv (IntKind.u64.wrap<|wr<|f+g) 2)+1),g))<|c (f,(wr<|Int.fdiv (IntKind.u64.wrap<|wr<|f+g) 2)))<|d f
def K6:=qW tH
def RQ: Lc 132 0 0:=bL 0x1f05142069283a63e287ec507564afb2e173fbc0210808d aNt [] [Ja] @tH
def Jc: (List Aab×Int)->(((Aab×Int×Bool)->Option R)×(Int->Option R)×Unit)->Unit->Option R:=λ(a,b) (c,d,_) _=>bnd (K6 n (a,b) (0,(ln a))) λf=>cd (f<(ln a)) (bnd (idx a f) λg=>bnd (qK n (g,b)) λh=>cnd (h==0) (c (g,f,true))<|c (g,f,false))<|d f
def Rw:=DS Jc
def RS: Ic:=cJ 132 0 3 0x30ab131706f5d1c679fea57f19b0578cffabf165c48e aNt [⟨0,[RQ]⟩] [Ja] @Jc
def pB: Nat->aK->Int->Option (Int×Bool)
 | 0,_,_=>none
 | n+1,a,b=>bnd2 (Rw n (a.Plan.Nodes,b)) (λc=>cnd c.2.2 (some (c.2.1,true))<|some (c.2.1,false)) λd=>bnd (some d) λf=>some (f,false)
def U6: Kn:=bH 111 0x85ba78 aNt [] [RS] pB
abbrev aPV:=U6::aNt
def zI: (aH×Int×Int)->((Bool->Option R)×Unit)->Unit->Option R:=λ(a,b,c) (d,_) _=>bnd (dM n a.Kind) λf=>cnd (f==b) (bnd (dP n a.Parts c) λg=>cnd g (d true)<|d false)<|d false
def Hj:=fB zI
def EA: Lc 114 0 1:=bO 0x64dea6f5808a7626b80c4bcada68e504ac2181471aa12662e4174ae1bf aPV [] [] @zI
def oF: (Int×Int×List aH×Int)->((List Int×Int)->Option R)->(((List Int)->Option R)×Unit)->(List Int×Int)->Option R:=λ(a,b,c,d) f (g,_) (h,i)=>cd (i<d) (bnd (idx c i) λj=>bnd (Hj n (j,a,b)) λl=>cnd l (bnd (app h [j.ID]) λm=>f (m,(wr<|i+1)))<|f (h,(wr<|i+1)))<|g h
def QH:=qW oF
def EB: Lc 114 0 0:=bL 0x6214b4b3bb052ba1d5a702ae1d73ba52adcb28cd01ed31d53ed0cfb7e4 aPV [⟨0,[cs EA]⟩] [] @oF
def jN: Nat->aK->Int->Int->Option (List Int)
 | 0,_,_,_=>none
 | n+1,a,b,c=>cd (b<1) (some [])<|cd (b > 3) (some [])<|bnd (QH n (b,c,a.Features,(ln a.Features)) ([],0)) λd=>some d
def VU: Kn:=bH 114 0x12828224b07ea1bb3b627 aPV [⟨0,[EB]⟩] [] jN
abbrev aVS:=VU::aPV
def V0: Nat->aR->Int->Option Int
 | 0,_,_=>none
 | n+1,a,b=>bnd (cD n a.ID b) λc=>some c
def a7: Kn:=bH 143 0x46e326648 aVS [] [] V0
abbrev aNs:=a7::aVS
def Mz: (aR×Int)->((Int->Option R)×Unit)->Unit->Option R:=λ(a,b) (c,_) _=>bnd (cD n a.ID b) λd=>c d
def tQ:=uM Mz
def My: Ic:=cJ 143 0 2 0x29cb96b6ff567c8ee1 aNs [] [] @Mz
def vH: (List aR×Int)->((Int×Int)->Option R)->((Int->Option R)×Unit)->(Int×Int)->Option R:=λ(a,b) c (d,_) (f,g)=>cd (f<g) (bnd (idx a<|wr<|Int.fdiv (IntKind.u64.wrap<|wr<|f+g) 2) λh=>bnd (tQ n (h,b)) λi=>cd (i<0) (c ((wr<|(wr<|Int.fdiv (IntKind.u64.wrap<|wr<|f+g) 2)+1),g))<|c (f,(wr<|Int.fdiv (IntKind.u64.wrap<|wr<|f+g) 2)))<|d f
def V1:=qW vH
def a8: Lc 142 0 0:=bL 0x1f051420692ceec43beff82f244c221cb8e924d4d6f1931 aNs [] [My] @vH
def Na: (List aR×Int)->(((aR×Int×Bool)->Option R)×(Int->Option R)×Unit)->Unit->Option R:=λ(a,b) (c,d,_) _=>bnd (V1 n (a,b) (0,(ln a))) λf=>cd (f<(ln a)) (bnd (idx a f) λg=>bnd (tQ n (g,b)) λh=>cnd (h==0) (c (g,f,true))<|c (g,f,false))<|d f
def BX:=DS Na
def a9: Ic:=cJ 142 0 3 0x414b7ba2752bf2a5ab3f8a014aec29fe04cb3943b aNs [⟨0,[a8]⟩] [My] @Na
def Aw: Nat->aK->Int->Option (Int×Bool)
 | 0,_,_=>none
 | n+1,a,b=>bnd2 (BX n (a.Plan.Arcs,b)) (λc=>cnd c.2.2 (some (c.2.1,true))<|some (c.2.1,false)) λd=>bnd (some d) λf=>some (f,false)
def aCD: Kn:=bH 117 0x85ba78 aNs [] [a9] Aw
abbrev aXQ:=aCD::aNs
def aPL: Kn:=aPq 190 18 19 ⟨_,_,_,rfl,by decide,by decide⟩ (λn p=>clF n p) (λp=>p) λn p r h=>by obtain⟨m,h1,h2,h3⟩:=aPt h;subst h2;exact⟨m,h1,rfl,h3,rfl,λe=>by cases (e:_=[]);rfl⟩
abbrev aTo:=aPL::aXQ
def lJ: (List Int×List Aab×List aR×Int)->((List aR×Int)->Option R)->(((List aR)->Option R)×Unit)->(List aR×Int)->Option R:=λ(a,b,c,d) f (g,_) (h,i)=>cd (i<d) (bnd (idx c i) λj=>bnd (clF n j.Via) λl=>bnd (app h [(aR.mk j.ID j.From j.To l 0 0)]) λm=>f (m,(wr<|i+1)))<|g h
def Pb:=qW lJ
def NM: Lc 165 0 0:=bL 0x289d64d360696d62d11dbedfff2b6a757ae78e7a7e1a9aecafcb4ee5bf778117d7b aTo [] [] @lJ
def aDI: Nat->aM->Option aM
 | 0,_=>none
 | n+1,a=>bnd (clF n a.Nodes) λb=>bnd (Pb n ([],b,a.Arcs,(ln a.Arcs)) ([],0)) λc=>some<|aM.mk b c []
def R8: Kn:=bH 165 0x6d1b8064fa072d7af7fa0e5 aTo [⟨0,[NM]⟩] [] aDI
abbrev aPU:=R8::aTo
def Mb(n:Nat): (Int×Int)->((Bool->Option R)×Unit)->Unit->Option R:=λ(a,b) (c,_) _=>cd ((oB b<|wr<|0-b)<(oB a<|wr<|0-a)) (c true)<|cnd (b==(wr<|0-a)) (cd (b > 0) (c true)<|c false)<|c false
def R7:=fB Mb
def UQ: Lc 191 0 1:=bO 0x3b317c25fc60fe3e418a565b456f388d aPU [] [] @Mb
def uT: (List Int×Int)->((Int×Int)->Option R)->((Int->Option R)×Unit)->(Int×Int)->Option R:=λ(a,b) c (d,_) (f,g)=>cd (g<b) (bnd (idx a g) λh=>bnd (R7 n (f,h)) λi=>cnd i (c (h,(wr<|g+1)))<|c (f,(wr<|g+1)))<|d f
def BQ:=qW uT
def UR: Lc 191 0 0:=bL 0x4651c291d4c6028c52f9fcb09e6dd aPU [⟨0,[cs UQ]⟩] [] @uT
def nU: Nat->(List Int)->Option Int
 | 0,_=>none
 | n+1,a=>bnd (idx a 0) λb=>bnd (BQ n (a,(ln a)) (b,0)) λc=>some c
def aBG: Kn:=bH 191 0x315285 aPU [⟨0,[UR]⟩] [] nU
abbrev aVR:=aBG::aPU
def nV: Nat->Int->Int->Option Int
 | 0,_,_=>none
 | n+1,a,b=>bnd (cD n (oB a<|wr<|0-a)<|oB b<|wr<|0-b) λc=>bnd (cD n b a) λd=>bnd (Ax n [c,d]) λf=>some f
def Pa: Kn:=bH 192 0xf37fea0cdad8c8f00 aVR [] [] nV
abbrev aVQ:=Pa::aVR
def nJ: Nat->dO->dO->Option Int
 | 0,_,_=>none
 | n+1,a,b=>bnd (nU n a.outer) λc=>bnd (nU n b.outer) λd=>bnd (nV n c d) λf=>some f
def IL: Kn:=bH 167 0x2ea034b846658a2 aVQ [] [] nJ
abbrev aF3:=IL::aVQ
def IU: Lc 165 2 0:=bL 0x2bf3676b7fb056f359be0c2088503f54dc8b330f4fc53422ef96a78c245325c39e87ed aF3 [] [] @lJ
def Bw: aM->(((List aR×List Int×List Aab×List Aab)->Option R)×Unit)->Unit->Option R:=λa (b,_) _=>bnd (clF n a.Nodes) λc=>bnd (Pb n ([],c,a.Arcs,(ln a.Arcs)) ([],0)) λd=>b (d,[],c,c)
def Mf:=uM Bw
def IV: Ic:=cJ 165 2 1 0x2c8d3d5c96a4c32085b7ee705c69c3a02444f0ce21d72fdaddd489cd7d4830039de aF3 [⟨0,[IU]⟩] [] @Bw
end
end
section
variable {R:Type}(n:Nat)
noncomputable section
def pR(n:Nat): (Int×List Int×Int)->(((List<|Int×Int)×Int)->Option R)->((((List<|Int×Int))->Option R)×Unit)->((List<|Int×Int)×Int)->Option R:=λ(a,b,c) d (f,_) (g,h)=>cd (h<c) (bnd (idx b h) λi=>d ((kW g i<|wr<|a+1),(wr<|h+1)))<|f g
def UX:=qW pR
def IP: Lc 137 0 2:=bL 0x34e3e013ce324276178f6777ed7ea83c81b35412b401df3d21b7f1434ecd90049a56c4b9dda2c8 aF3 [] [] @pR
def pS: (Int×(List<|List Int)×Int)->(((List<|Int×Int)×Int)->Option R)->((((List<|Int×Int))->Option R)×Unit)->((List<|Int×Int)×Int)->Option R:=λ(a,b,c) d (f,_) (g,h)=>cd (h<c) (bnd (idx b h) λi=>bnd (UX n (a,i,(ln i)) (g,0)) λj=>d (j,(wr<|h+1)))<|f g
def UY:=qW pS
def IQ: Lc 137 0 1:=bL 0x3824c38ec5a1eb9a838cf64abd4b98f2915743629ee1f60d4cbd109ceb5ddc63 aF3 [⟨0,[cs IP]⟩] [] @pS
def pT: (List aR×List Aab×List Aab×List dO×(Nat×Nat)×Int)->((List Int×(List<|Int×Int)×Int)->Option R)->(((List Int×(List<|Int×Int))->Option R)×Unit)->(List Int×(List<|Int×Int)×Int)->Option R:=λ(a,b,c,d,f,g) h (i,_) (j,l,m)=>cd (m<g) (bnd (idx (win d<|some f) m) λ_=>bnd (idx d<|m+((f.1:Nat):Int)) λo=>bnd (app j [(wr<|m+1)]) λr=>bnd (fX n o) λs=>bnd (UY n (m,s,(ln s)) (l,0)) λt=>h (r,t,(wr<|m+1)))<|i (j,l)
def Me:=qW pT
def IR: Lc 137 0 0:=bL 0x2e157106a37acf33c1e1860e0f4b20804dda1fd9ffeaec3a4d5baf15397839b0d1e73c0c2a15f66e16953025d04487d548b068ee41ad4f34bf3a4dd2fcf3e21076ac54bf413f643193de aF3 [⟨0,[cs IQ]⟩] [] @pT
def pQ(n:Nat): (List Int×List Aab×List Aab×(List<|Int×Int)×Int)->((List aR×Int)->Option R)->(((List aR)->Option R)×Unit)->(List aR×Int)->Option R:=λ(a,b,c,d,f) g (h,_) (i,j)=>cd (j<f) (bnd (eM i (List.length i) j) λ_=>bnd (idx i j) λl=>bnd (eM i (List.length i) j) λ_=>bnd (idx i j) λm=>bnd (eM (List.set i (Int.toNat j)<|aR.mk m.ID m.From m.To m.Via (Option.getD (cE d l.ID) 0) m.Right) (List.length<|List.set i (Int.toNat j)<|aR.mk m.ID m.From m.To m.Via (Option.getD (cE d l.ID) 0) m.Right) j) λ_=>bnd (idx (List.set i (Int.toNat j)<|aR.mk m.ID m.From m.To m.Via (Option.getD (cE d l.ID) 0) m.Right) j) λo=>g ((List.set (List.set i (Int.toNat j)<|aR.mk m.ID m.From m.To m.Via (Option.getD (cE d l.ID) 0) m.Right) (Int.toNat j)<|aR.mk o.ID o.From o.To o.Via o.Left<|Option.getD (cE d<|wr<|0-l.ID) 0),(wr<|j+1)))<|h i
def Md:=qW pQ
def IM: Lc 137 0 3:=bL 0x1e3c05ae9f1dc015e52062b4bb270123612026dd1d14c21bda8f6ebba89090de9f238f6c1637f5a24be4a55dde0f36d8b1ab1b18dea9be38293a3444d9ab0 aF3 [] [] @pQ
def Kl: Nat->aM->Option (aM×Int)
 | 0,_=>none
 | n+1,a=>bnd (Mf n a) λb=>bnd (Bm n<|aM.mk b.2.2.2 b.1 b.2.1) λc=>cnd (c.2 != 0) (some ((aM.mk [] [] []),c.2))<|bnd (pM n<|aM.mk b.2.2.2 b.1 b.2.1) λd=>bnd (jK n (aM.mk b.2.2.2 b.1 b.2.1) c.1 d) λf=>bnd (sub f (0,List.length f) 1<|ln f) λg=>cd (((g.2:Nat):Int) > 64) (some ((aM.mk [] [] []),3))<|bnd (prd n) λh=>bnd (Nu<|decide<|List.length f<=1000000/\g.1+g.2<=List.length f) λ_=>bnd (qY (λ(i j:dO)=>bnd (nJ h i j) λl=>some l)<|win f<|some g) λm=>bnd (Me n (b.1,b.2.2.1,b.2.2.2,(aQ f g.1 m),g,((g.2:Nat):Int)) (b.2.1,[],0)) λo=>bnd (Md n (o.1,b.2.2.1,b.2.2.2,o.2,(ln b.1)) (b.1,0)) λr=>some ((aM.mk b.2.2.2 r o.1),0)
def y6: Kn:=bH 137 0x1da661e129e4321 aF3 [⟨0,[IR]⟩,⟨3,[IM]⟩] [IV] Kl
abbrev aVP:=y6::aF3
def jZ: Nat->dR->dR->Option Int
 | 0,_,_=>none
 | n+1,a,b=>bnd (cD n a.Face b.Face) λc=>some c
def Uk: Kn:=bH 169 0x2ea0358c4abc2e6 aVP [] [] jZ
abbrev aTn:=Uk::aVP
def lY(n:Nat): (List Int×List dO×Int)->((List dR×Int)->Option R)->(((List dR)->Option R)×Unit)->(List dR×Int)->Option R:=λ(a,b,c) d (f,_) (g,h)=>cd (h<c) (bnd (idx b h) λi=>bnd (idx a h) λj=>bnd (app g [(dR.mk j i.outer i.inner i.alone)]) λl=>d (l,(wr<|h+1)))<|f g
def IK:=qW lY
def Ul: Lc 138 0 0:=bL 0x289d49b5f39e2d186f9405569d8949cca8b1ab326d07f6eb73fabbe1fe5b607d565 aTn [] [] @lY
def kM: Nat->aM->Option (List dR×Int)
 | 0,_=>none
 | n+1,a=>bnd (Bu n a) λb=>cnd (b.2.2.2 != 0) (some ([],b.2.2.2))<|bnd (IK n (b.2.1,b.1,(ln b.1)) ([],0)) λc=>bnd (prd n) λd=>bnd (Nu<|decide<|List.length c<=1000000) λ_=>bnd (qY (λ(f g:dR)=>bnd (jZ d f g) λh=>some h) c) λi=>some (i,0)
def NN: Kn:=bH 138 0x1da668814c71d38 aTn [⟨0,[Ul]⟩] [] kM
abbrev aTm:=NN::aTn
def vG(n:Nat): ((List<|List Int)×Int)->((List Int×Int)->Option R)->(((List Int)->Option R)×Unit)->(List Int×Int)->Option R:=λ(a,b) c (d,_) (f,g)=>cd (g<b) (bnd (idx a g) λh=>bnd (app f h) λi=>c (i,(wr<|g+1)))<|d f
def U9:=qW vG
def XW: Lc 140 0 0:=bL 0x10919395a379907ca3f2a91752ee78e4d56393ccb7ac aTm [] [] @vG
def Lg: Nat->dR->Option (List Int)
 | 0,_=>none
 | n+1,a=>bnd (app ([]:List Int) a.Outer) λb=>bnd (U9 n (a.Inner,(ln a.Inner)) (b,0)) λc=>some c
def aCC: Kn:=bH 140 0x2151f73748cb603 aTm [⟨0,[XW]⟩] [] Lg
abbrev aNr:=aCC::aTm
def Hr(n:Nat): (Int×Int)->((Bool->Option R)×Unit)->Unit->Option R:=λ(a,b) (c,_) _=>cnd (b != a) (cnd (b != (wr<|0-a)) (c true)<|c false)<|c false
def Rr:=fB Hr
def QU: Lc 139 0 2:=bO 0x22b34cd12ad5a32f69a41e00ec127d35bd5ada5f8471b6a32139962 aNr [] [] @Hr
def sW: (aM×Int×List Int×Int)->(Int->Option R)->((Int->Option R)×(Unit->Option R)×Unit)->Int->Option R:=λ(a,b,c,d) f (g,h,_) i=>cd (i<d) (bnd (idx c i) λj=>bnd (Rr n (b,j)) λl=>cnd l (bnd (Fn n a j) λm=>g m)<|f<|wr<|i+1)<|h ()
def J6:=qB sW
def QV: Lc 139 0 1:=bL 0x14c2161c0a1943ad41d40b5ed96452cdf787f756fffbf3ad850bf3b2de3d7f1e8efd9b aNr [⟨0,[cs QU]⟩] [] @sW
def sX: (aM×Int×List dR×Int)->(Int->Option R)->(((dR×Int)->Option R)×(Unit->Option R)×Unit)->Int->Option R:=λ(a,b,c,d) f (g,h,_) i=>cd (i<d) (bnd (idx c i) λj=>bnd (Lg n j) λl=>bnd2 (J6 n (a,b,l,(ln l)) 0) (λm=>g (j,m)) λo=>bnd (some o) λ_=>f<|wr<|i+1)<|h ()
def J7:=qB sX
def QW: Lc 139 0 0:=bL 0xa1c01236aa2ee0651661f73dda89b6f293df0df0ce133d86b aNr [⟨0,[cs QV]⟩] [] @sX
def Rs: Nat->aM->Int->(List dR)->Option Int
 | 0,_,_,_=>none
 | n+1,a,b,c=>bnd2 (J7 n (a,b,c,(ln c)) 0) (λd=>some d.2) λf=>bnd (some f) λ_=>some 0
def U4: Kn:=bH 139 0x20b691c9459cb146cd aNr [⟨0,[QW]⟩] [] Rs
abbrev aVO:=U4::aNr
def UP: Nat->(List Int)->Int->Option (List Int)
 | 0,_,_=>none
 | n+1,_,a=>cd (a<0) none none
def HW: Kn:=bH 209 0x507d98 aVO [] [] UP
abbrev aKk:=HW::aVO
def iZ(n:Nat): ((List<|List Int)×Int)->((Int×Int)->Option R)->((Int->Option R)×Unit)->(Int×Int)->Option R:=λ(a,b) c (d,_) (f,g)=>cd (g<b) (bnd (idx a g) λh=>cd ((wr<|f+(ln h))<0) none<|c ((wr<|f+(ln h)),(wr<|g+1)))<|d f
def Ot:=qW iZ
def Jz: Lc 203 0 0:=bL 0x10f9abb5a9224ff977082038e56cda461d6 aKk [] [] @iZ
def pJ(n:Nat): Int->((Unit->Option R)×((List Int×(Nat×Nat))->Option R)×Unit)->Unit->Option R:=λa (b,c,_) _=>cd (a<0) none<|cd ((wr<|a-0) > 0) (bnd (rep 0 (wr<|a-0)<|wr<|a-0) λd=>cnd (List.isEmpty d) (b ())<|bnd (sub d (0,List.length d) 0 0) λf=>c (d,f))<|b ()
def Ou:=DS pJ
def Ka: Ic:=cJ 209 0 2 0x4ba35d217287db9db923f9721e75e7cd aKk [] [] @pJ
def iY(n:Nat): ((List<|List Int)×Int)->(Int->Option R)->((Unit->Option R)×Unit)->Int->Option R:=λ(a,b) c (d,_) f=>cd (f<b) (bnd (idx a f) λg=>cnd (List.isEmpty g) (c<|wr<|f+1)<|bnd (app ([]:List Int) g) λ_=>none)<|d ()
def Oq:=qW iY
def Jy: Lc 203 0 1:=bL 0x2a05dac6ef4f1609648637914b9c4a93071513 aKk [] [] @iY
def iX(n:Nat): ((List<|List Int)×Int)->((List Int×(Nat×Nat)×Int)->Option R)->(((List Int×(Nat×Nat))->Option R)×Unit)->(List Int×(Nat×Nat)×Int)->Option R:=λ(a,b) c (d,_) (f,g,h)=>cd (h<b) (bnd (idx a h) λi=>bnd (SD f g i) λj=>c (j,(g.1,g.2+List.length i),(wr<|h+1)))<|d (f,g)
def Oo:=qW iX
def Jx: Lc 203 0 1:=bL 0xa4c4a12125f6b0767bb437d9025b7 aKk [] [] @iX
def pK: Nat->(List<|List Int)->Option (List Int)
 | 0,_=>none
 | n+1,a=>bnd (Ot n (a,(ln a)) (0,0)) λb=>bnd2 (Ou n b) (λ_=>bnd (Oq n (a,(ln a)) 0) λ_=>bnd (Nu true) λ_=>some []) λc=>bnd (some c) λd=>bnd (Oo n (a,(ln a)) (d.1,d.2,0)) λf=>bnd (Nu<|decide<|f.2=(0,List.length f.1)) λ_=>some<|win f.1<|some f.2
def Ui: Kn:=bH 203 0x375853a70693aef aKk [⟨0,[Jz]⟩,⟨1,[Jy,Jx]⟩] [Ka] pK
abbrev aNq:=Ui::aKk
def oC(n:Nat): ((Nat×Nat))->((List Int×Int×Int)->Option R)->(((List Int×Int)->Option R)×Unit)->(List Int×Int×Int)->Option R:=λa b (c,_) (d,f,g)=>cd (g<((a.2:Nat):Int)) (bnd (idx (win d<|some a) g) λ_=>bnd (idx d<|g+((a.1:Nat):Int)) λh=>bnd (idx (win d<|some a)<|wr<|g-1) λ_=>bnd (idx d<|(wr<|g-1)+((a.1:Nat):Int)) λi=>cnd (h != i) (bnd (idx (win d<|some a) g) λ_=>bnd (idx d<|g+((a.1:Nat):Int)) λj=>bnd (eM d (List.length d) f) λ_=>bnd (idx d f) λ_=>b ((List.set d (Int.toNat f) j),(wr<|f+1),(wr<|g+1)))<|b (d,f,(wr<|g+1)))<|c (d,f)
def PT:=qW oC
def DT: Lc 204 0 1:=bL 0xbb31faaece525248ae08173d4b1f4eced45abcb1ff8e173be8dceeb aNq [] [] @oC
def oD: (List Int)->(Int->Option R)->(((List Int×(Nat×Nat))->Option R)×(Unit->Option R)×Unit)->Int->Option R:=λa b (c,d,_) f=>cd (f<(ln a)) (bnd (eM a (List.length a) f) λ_=>bnd (idx a f) λg=>bnd (eM a (List.length a)<|wr<|f-1) λ_=>bnd (idx a<|wr<|f-1) λh=>cnd (g==h) (bnd (sub a (0,List.length a) f<|ln a) λi=>bnd (PT n i (a,f,1)) λj=>bnd (sub j.1 (0,List.length j.1) j.2<|ln j.1) λl=>bnd (clr j.1 l 0) λm=>bnd (sub m (0,List.length m) 0 j.2) λo=>c (m,o))<|b<|wr<|f+1)<|d ()
def PU:=qB oD
def DU: Lc 204 0 0:=bL 0x25e73ba1b278c34bf7935f6d22f68b922b21dd41665a aNq [⟨0,[cs DT]⟩] [] @oD
def yZ: (List Int)->((Unit->Option R)×((List Int×(Nat×Nat))->Option R)×Unit)->Unit->Option R:=λa (b,c,_) _=>cd ((ln a)<2) (b ())<|bnd2 (PU n a 1) (λd=>c (d.1,d.2)) λf=>bnd (some f) λ_=>b ()
def Ha:=DS yZ
def DV: Ic:=cJ 204 0 1 0x4439918fff7f2e1330a729203c347029258ea1 aNq [⟨0,[DU]⟩] [] @yZ
def nB: Nat->(List<|List Int)->Option (List Int)
 | 0,_=>none
 | n+1,a=>bnd (pK n a) λb=>bnd (prd n) λ_=>bnd (Nu<|decide<|List.length b<=1000000) λ_=>bnd2 (Ha n<|tX b) (λ_=>some<|tX b) λc=>bnd (some c) λd=>some<|win d.1<|some d.2
def VO: Kn:=bH 193 0x2cb406d6b6ae aNq [] [DV] nB
abbrev aVN:=VO::aNq
def uI: Nat->(List Int)->(List Int)->Option (List Int)
 | 0,_,_=>none
 | n+1,a,b=>bnd (nB n [a,b]) λc=>some c
def T7: Kn:=bH 170 0x12828266022bfe003e9e4 aVN [] [] uI
abbrev aTl:=T7::aVN
def Dz: (Int×Int)->((Bool->Option R)×Unit)->Unit->Option R:=λ(a,b) (c,_) _=>bnd (fQ n a) λd=>cnd d (bnd (fQ n b) λf=>cnd f (cd (a<b) (c true)<|c false)<|c true)<|cd (a<b) (c true)<|c false
def Nh:=fB Dz
def LU: Lc 210 0 0:=bO 0x76ade62734514c12081bd24 aTl [] [] @Dz
def Lj: Nat->Int->Int->Option Bool
 | 0,_,_=>none
 | n+1,a,b=>bnd (Nh n (a,b)) λc=>cnd c (some true)<|some false
def L5: Kn:=bH 210 0x275f6aff6ebd aTl [⟨0,[LU]⟩] [] Lj
abbrev aVM:=L5::aTl
def NE: Nat->Int->Option Bool
 | 0,_=>none
 | n+1,a=>cnd (a != a) (some true)<|some false
def CT: Kn:=bH 211 0xb6a aVM [] [] NE
abbrev aPT:=CT::aVM
def fJ: (List Int×Int)->((Int×Int)->Option R)->((Int->Option R)×Unit)->(Int×Int)->Option R:=λ(a,b) c (d,_) (f,g)=>cd (f<g) (bnd (idx a<|wr<|Int.fdiv (IntKind.u64.wrap<|wr<|f+g) 2) λh=>bnd (Lj n h b) λi=>cnd i (c ((wr<|(wr<|Int.fdiv (IntKind.u64.wrap<|wr<|f+g) 2)+1),g))<|c (f,(wr<|Int.fdiv (IntKind.u64.wrap<|wr<|f+g) 2)))<|d f
def yB:=qW fJ
def uR: Lc 205 0 0:=bL 0x527a394b4fc7d3a76b00609d2dd9bd90f98b7c aPT [] [] @fJ
def jF(n:Nat): Int->((Bool->Option R)×Unit)->Unit->Option R:=λa (b,_) _=>cnd (a != a) (b true)<|b false
def fV:=uM jF
def uS: Ic:=cJ 211 0 1 0xd9de4b2a3be330b6a010 aPT [] [] @jF
def iH: Nat->(List Int)->Int->Option (Int×Bool)
 | 0,_,_=>none
 | n+1,a,b=>bnd (yB n (a,b) (0,(ln a))) λc=>cd (c<(ln a)) (bnd (idx a c) λd=>cnd (d==b) (some (c,true))<|bnd (idx a c) λf=>bnd (fV n f) λg=>cnd g (bnd (fV n b) λh=>cnd h (some (c,true))<|some (c,false))<|some (c,false))<|some (c,false)
def Bj: Kn:=bH 205 0x85b996 aPT [⟨0,[uR]⟩] [uS] iH
abbrev aNp:=Bj::aPT
def Hb: (List Int×Int)->((Bool->Option R)×Unit)->Unit->Option R:=λ(a,b) (c,_) _=>bnd (iH n a b) λd=>cnd d.2 (c false)<|c true
def Qk:=uM Hb
def PX: Ic:=cJ 194 0 2 0xd2216e8c22eb994f24d1d028679cd aNp [] [] @Hb
def sP: (List Int×List Int×Int)->((List Int×Int)->Option R)->(((List Int)->Option R)×Unit)->(List Int×Int)->Option R:=λ(a,b,c) d (f,_) (g,h)=>cd (h<c) (bnd (idx b h) λi=>bnd (Qk n (a,i)) λj=>cnd j (bnd (app g [i]) λl=>d (l,(wr<|h+1)))<|d (g,(wr<|h+1)))<|f g
def G5:=qW sP
def PW: Lc 195 0 0:=bL 0x491ad62cfcea724143f148156c489a802c5a2352f326f6be664558fd17430 aNp [] [PX] @sP
def Hc: (List Int×List Int)->(((List Int)->Option R)×Unit)->Unit->Option R:=λ(a,b) (c,_) _=>bnd (nB n [b]) λd=>bnd (G5 n (a,d,(ln d)) ([],0)) λf=>c f
def Qn:=uM Hc
def PY: Ic:=cJ 195 0 2 0x1d39f250dcbe0e020e2c1fa1f4690b35cf16d617f590 aNp [⟨0,[PW]⟩] [] @Hc
def Qq: Nat->(List Int)->(List Int)->Option (List Int)
 | 0,_,_=>none
 | n+1,a,b=>bnd (nB n [b]) λc=>bnd (Qn n (c,a)) λd=>some d
def T8: Kn:=bH 171 0x12828266022bfe003e9e4 aNp [] [PY] Qq
abbrev aVL:=T8::aNp
def LQ: Nat->aH->Int->Option Int
 | 0,_,_=>none
 | n+1,a,b=>bnd (cD n a.ID b) λc=>some c
def BG: Kn:=bH 146 0x619d8832c aVL [] [] LQ
abbrev aNo:=BG::aVL
def wT: (aH×Int)->((Int->Option R)×Unit)->Unit->Option R:=λ(a,b) (c,_) _=>bnd (cD n a.ID b) λd=>c d
def kG:=uM wT
def wS: Ic:=cJ 146 0 2 0x29cb96b6feb5edbf58 aNo [] [] @wT
def mS: (List aH×Int)->((Int×Int)->Option R)->((Int->Option R)×Unit)->(Int×Int)->Option R:=λ(a,b) c (d,_) (f,g)=>cd (f<g) (bnd (idx a<|wr<|Int.fdiv (IntKind.u64.wrap<|wr<|f+g) 2) λh=>bnd (kG n (h,b)) λi=>cd (i<0) (c ((wr<|(wr<|Int.fdiv (IntKind.u64.wrap<|wr<|f+g) 2)+1),g))<|c (f,(wr<|Int.fdiv (IntKind.u64.wrap<|wr<|f+g) 2)))<|d f
def LR:=qW mS
def BH: Lc 145 0 0:=bL 0x1f051420692e581456c262252591913c798c4aa80aef708 aNo [] [wS] @mS
def wU: (List aH×Int)->(((aH×Int×Bool)->Option R)×(Int->Option R)×Unit)->Unit->Option R:=λ(a,b) (c,d,_) _=>bnd (LR n (a,b) (0,(ln a))) λf=>cd (f<(ln a)) (bnd (idx a f) λg=>bnd (kG n (g,b)) λh=>cnd (h==0) (c (g,f,true))<|c (g,f,false))<|d f
def Dy:=DS wU
def BI: Ic:=cJ 145 0 3 0x30ab131706f5d1c3dbb0135a53ee7a6d5cf48a47d196 aNo [⟨0,[BH]⟩] [wS] @wU
def Au: Nat->aK->Int->Option (Int×Bool)
 | 0,_,_=>none
 | n+1,a,b=>bnd2 (Dy n (a.Features,b)) (λc=>cnd c.2.2 (some (c.2.1,true))<|some (c.2.1,false)) λd=>bnd (some d) λf=>some (f,false)
def RU: Kn:=bH 121 0x85ba78 aNo [] [BI] Au
abbrev aPS:=RU::aNo
def vE(n:Nat): (dR×List Int×Int)->(((List<|Int×Int)×Int)->Option R)->((((List<|Int×Int))->Option R)×Unit)->((List<|Int×Int)×Int)->Option R:=λ(a,b,c) d (f,_) (g,h)=>cd (h<c) (bnd (idx b h) λi=>d ((kW g i a.Face),(wr<|h+1)))<|f g
def U7:=qW vE
def VZ: Lc 214 0 1:=bL 0x898a0650508613b95b54c24277f1e9f471488b68c82e6714d919cf1c294ec0fca3a85fdbf1c884 aPS [] [] @vE
def vF: (List dR×Int)->(((List<|Int×Int)×Int)->Option R)->((((List<|Int×Int))->Option R)×Unit)->((List<|Int×Int)×Int)->Option R:=λ(a,b) c (d,_) (f,g)=>cd (g<b) (bnd (idx a g) λh=>bnd (U7 n (h,h.Alone,(ln h.Alone)) (f,0)) λi=>c (i,(wr<|g+1)))<|d f
def U8:=qW vF
def WF: Lc 214 0 0:=bL 0x8fd700f769b020c83790ddc7fb72ce8a55e6504749b507da3 aPS [⟨0,[cs VZ]⟩] [] @vF
def oS: Nat->aM->Option (List<|Int×Int)
 | 0,_=>none
 | n+1,a=>bnd (kM n a) λb=>bnd (U8 n (b.1,(ln b.1)) ([],0)) λc=>some c
def Ld: Kn:=bH 214 0xc44373e6b60e383d8 aPS [⟨0,[WF]⟩] [] oS
abbrev aXO:=Ld::aPS
end
end
section
open jJ (den cds ag)
noncomputable section
def dH: Nat->aM->aM->Int->Option Bool
 | 0,_,_,_=>none
 | n+1,p,q,m=>bnd (oS n p) λold=>bnd (oS n q) λnew=>some (sdB old m new)
theorem aIl: ∀(m:List (Int×Int)) (rows:List (List AV)),Qm (kk:=1) 1 m rows->aAO (gD (kk:=1) 1 m rows)=some m
 | [],rows,h=>rfl
 | e::m,[x]::rows,h=>by
  obtain⟨⟨h1,_⟩,h2⟩:=h
  cases h1
  show (match aAO (gD (kk:=1) 1 m rows) with | some l=>some ((e.1,e.2)::l) | none=>none)=_
  rw[aIl m rows h2]
theorem aJE: FOK PP T 214 ⟨[.w 25],[32],false,λn p=>oS n p⟩:=by
 have e:Ld.c=⟨[.w 25],[32],false,λn p=>oS n p⟩:=by kernel_rfl
 have h:=Ld.ok
 rw[e] at h
 exact h
theorem aKR{n:Nat}{p:aM}{m:List (Int×Int)}{a:AV}(h:oS n p=some m)(q:Qh [] (toW (val 25 p)) a): sdH (fH PP T n) 214 [] a=some m:=by
 obtain⟨b,rfl,q4⟩:=Qh.inA (cs:=[.vw 18 p.Nodes,.vw 20 p.Arcs,.vw 1 p.Faces]) q
 clear q
 match b,q4 with
 | [xn,xa,xf],q4=>
 obtain⟨qn,qa,qf,_⟩:=q4
 obtain⟨aw',A,h1,h2,h3,_⟩:=aJE n p m h [cL [] (.agg [xn,xa,xf])] ⟨Qh.mkA ⟨.p _ _ (R0 (Qh.pu (v:=.vw 18 p.Nodes) qn trivial)),.p _ _ (R0 (Qh.pu (v:=.vw 20 p.Arcs) qa trivial)),.p _ _ (R0 (Qh.pu (v:=.vw 1 p.Faces) qf trivial)),trivial⟩,trivial⟩
 have h2:=h2 []
 match aw',h2 with
 | [b],h2=>
  have e:fD A 0 b=dZ A 0 b:=by
   cases b with
   | tup l=>exact (h3 _ ZM l rfl).elim
   | _=>rfl
  have h4:Qp (.rmp 1 1 m) (fD A 0 b):=by rw[e];exact Qh.pu (v:=.rmp 1 1 m) h2.1 trivial
  have e2:cL [] (.agg [xn,xa,xf])=.agg [dE [] xn,dE [] xa,dE [] xf]:=rfl
  rw[e2] at h1
  unfold sdH
  rw[e2]
  simp only[h1]
  show Gy (fD A 0 b)=some m
  obtain⟨rows,h5,h6⟩:=h4.inM
  rcases h5 with⟨h5,rfl⟩ | h5
  .rw[h5];rfl
  .rw[h5];exact aIl m rows h6
theorem aDy: FOK PP T 96 ⟨[.w 25,.w 25,.w 1],[4],false,λn p=>dH n p.1 p.2.1 p.2.2⟩:=by
 rintro n ⟨p,q,m⟩ r h aw w
 match aw,w with
 | [a,b,c],w=>
 obtain⟨w1,w2,w3,_⟩:=w
 have hc:c=.lit (.int .i64 m):=Qh.inL (v:=.int .i64 m) w3
 subst hc
 cases n with
 | zero=>cases h
 | succ n=>
  obtain⟨old,h1,h⟩:=bG h
  obtain⟨new,h2,h⟩:=bG h
  cases h
  refine⟨[.lit (.bool (sdB old m new))],[],?_,λH1=>⟨.l _,trivial⟩,λx hx l e=>(by rw[ZJ.1 hx] at e;cases e),λe=>(by cases e)⟩
  have e:(aF.prim 96:Option aAl)=some (aB3 214):=rfl
  simp only[fH,e]
  show sdA (fH PP T n) 214 [a,b,.lit (.int .i64 m)] []=_
  simp only[sdA,aKR h1 w1,aKR h2 w2,kB]
def J8: Kn:=⟨96,_,aDy⟩
end
end
end Go.Proofs.YtmcgghedgfkjiaaGreatDoor.Av
