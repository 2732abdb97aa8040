/- A part of the proof of a law. -/
import Derived.Test.YtmlgedgcbfchjaaGreatDoorP7
import Derived.Test.YtmlgedgcbfchjaaGreatDoorP3
import Derived.Test.YtmlgedgcbfchjaaGreatDoorP5
import Derived.Maps.RangeRun
import Derived.Test.YtmlgedgcbfchjaaGreatDoorP6
import Derived.Shelf.Strings.Search3
import Derived.Shelf.Vars
import Derived.Shelf.Sort.Plain
import Derived.Shelf.Slices.In.SortNone
import Derived.Test.YtmlgedgcbfchjaaGreatDoorRows
import Derived.Test.YtmlgedgcbfchjaaGreatDoorTie
import Derived.Test.YtmlgedgcbfchjaaGreatDoorCards
import Derived.ChangeSame
import Derived.ChangeVars
import Derived.JoinedOf
import Derived.LaidLaws
import Derived.Lay
import Derived.MakeChecks
import Derived.Stop.Joined
import Derived.SevenTiedAt
set_option maxRecDepth 100000
set_option maxHeartbeats 4000000
set_option linter.all false
namespace Go.Proofs.YtmlgedgcbfchjaaGreatDoor.Av
open Go
section
open Go.Proofs
open Go.ChangeMaps (setBlock)
open jQ (den cds ag)
structure DX(r:Option Nat)(w w':World): Prop where
 os:w'.os=w.os
 tape:w'.tape=w.tape
 output:w'.output=w.output
 drawn:w.drawn<=w'.drawn
 size:w.heap.size<=w'.heap.size
 frame:∀k,k<w.heap.size->some k≠r->w'.heap[k]?=w.heap[k]?
theorem DX.trans{r:Option Nat}{a b c:World}(h:DX r a b)(k:DX r b c): DX r a c:=
 ⟨k.os.trans h.os,k.tape.trans h.tape,k.output.trans h.output,ZB h.drawn k.drawn,ZB h.size k.size,λi e d=>(k.frame i (YM e h.size) d).trans<|h.frame i e d⟩
theorem DX.refl(r:Option Nat)(a:World): DX r a a:=⟨rfl,rfl,rfl,Zf _,Zf _,λ_ _ _=>rfl⟩
theorem DX.of{r:Option Nat}{a b:World}(h:DX none a b): DX r a b:=⟨h.os,h.tape,h.output,h.drawn,h.size,λk c _=>h.frame k c<|by simp⟩
theorem DX.out{r:Nat}{a b w:World}(h:DX (some r) a b)(c:DX none w a)(e:w.heap.size<=r): DX none w b:=
 ⟨h.os.trans c.os,h.tape.trans c.tape,h.output.trans c.output,ZB c.drawn h.drawn,ZB c.size h.size,λk d _=>(h.frame k (YM d c.size)<|by simp;omega).trans<|c.frame k d<|by simp⟩
theorem sS{fl:Nat}{c c':dF}(h:bW fl c c')(b:∀id,c.β id=none): DX none c.w c'.w:=
 ⟨h.os,h.tape,h.output,h.drawn,h.size,λk d _=>h.frame k d λid a=>by rw[b id] at a;cases a⟩
theorem iG{w:World}{k:Nat}{o:Obj}(h:w.heap[k]?=some o): k<w.heap.size:=by
 rcases ZI k w.heap.size with a | a
 .exact a
 .rw[Yb a] at h;cases h
theorem UW(w:World)(o:Obj): DX none w<|w.alloc o:=
 ⟨rfl,rfl,rfl,Zf _,by show _<=(w.heap.push o).size;rw[Xu];exact Ys _,λk a _=>by show (w.heap.push o)[k]?=_;rw[ZU,ZF<|by omega]⟩
def sL: Code->Code
 | .seq a _=>a
 | c=>c
def sR: Code->Code
 | .seq _ b=>b
 | c=>c
def fG: Code->Array Oper
 | .region _ ops _=>ops
 | _=>#[]
def inB: Code->Code
 | .block _ c=>c
 | .loop c=>c
 | c=>c
def iZ(c:Code)(i:Nat): Oper:=match (fG c)[i]? with
 | some o=>o
 | none=>default
noncomputable def sB: Code:=match Tryz.f61.body with
 | some c=>c
 | none=>.skip
noncomputable def Rg0: Code:=sL sB
noncomputable def Rg1: Code:=sL (sR sB)
noncomputable def Rg2: Code:=sL (sL (sR (sR sB)))
noncomputable def BD: Code:=inB (inB (sR (sL (sR (sR sB)))))
noncomputable def RgE: Code:=sL (sR (sR (sR sB)))
noncomputable def Rg3: Code:=sL BD
noncomputable def B4: Code:=inB (sR (sR BD))
noncomputable def V8: Code:=sL B4
noncomputable def Rg5: Code:=sL (sR B4)
noncomputable def Rg6: Code:=match sR (sR B4) with
 | .cond _ a _=>sL a
 | c=>c
theorem aS4: Tryz.f61.body=some (.seq (.region 0 (fG Rg0) false)<|.seq (.region 1 (fG Rg1) false)<|.seq (.seq (.region 2 (fG Rg2) false)<|.block 0<|.loop BD)<|.seq (.region 7 (fG RgE) false) .ret):=by kernel_rfl
theorem aPE: BD=.seq (.region 3 (fG Rg3) false) (.seq (.cond (.tmp 16) .skip<|.exit 0)<|.block 1<|.seq (.region 4 (fG V8) false)<|.seq (.region 5 (fG Rg5) false)<|.cond (.tmp 29) (.seq (.region 6 (fG Rg6) false) .ret) .skip):=by kernel_rfl
abbrev UV: AV:=.lit bM
theorem OX{P:Program}{ops:Array Oper}{Q:Exit->Act->World->Prop}{i:Nat}{K:Act->World->Prop}{a:Act}{w w':World}{o:Oper}{v:Value}(c:ops[i]?=some o)(e:o.guard=none)(f:(execOp a.eval o).run P w=.ok (.value v) w')(d:K (a.put o.dst v) w'): wpOp P ops Q i K a w:=by
 unfold wpOp;rw[c];simp only[Region.wanted,e,Zz];left;unfold Oper.wp;rw[f];exact d
theorem aM5{FT:Nat->Option Nat}{c:dF}{b:List AV}{vs:Array Value}(n:Nat)(a:nF FT c b vs): TR FT c (b++List.replicate (n-b.length) UV)<|vs++Array.replicate (n-vs.size) undef:=by
 refine⟨by simp[a.1],λt x d=>?_⟩;rw[Yk] at d;rw[XX,a.1];split at d
 .rename_i e;rw[Zu e];exact a.2 t x d
 .rename_i e;rw[ZF e];rw[XP] at d;split at d
  .rename_i f;cases d;refine⟨undef,?_,RV.lit _⟩;rw[XN,Zu f]
  .cases d
theorem B3{FT:Nat->Option Nat}{c:dF}{tm:List AV}{a:Act}{t:Nat}{v:Value}(h:TR FT c tm a.tmps)(d:tm[t]?=some (.lit v)): a.eval (.tmp t)=v:=by
 let⟨u,b,e⟩:=h.2 t _ d;rw[e.lit_inv] at b;simp[Act.eval,Yf,b]
theorem Kj{FT:Nat->Option Nat}{c:dF}(l:List Value): RV FT c (.tup<|l.map .lit)<|.tuple l.toArray:=by
 refine .tup _ _ (λi=>(l[i]?).getD bM) (by simp) ?_ ?_
 .intro i x a;rw[Zk,Zq] at a;obtain⟨v,b,rfl⟩:=a;simp[b]
 .intro i x a;rw[Zk,Zq] at a;obtain⟨v,b,rfl⟩:=a;show RV FT c (.lit v)<|(l[i]?).getD bM;rw[b];exact RV.lit _
theorem aDU: ∀{a:List<|Value×AV} {l:List<|Int×Int},aAD a=some l->a=l.map λe=>(Value.int .i64 e.1,AV.lit<|.int .i64 e.2)
 | [],l,h=>by cases h;rfl
 | (k,v)::r,l,h=>by
  unfold aAD at h;repeat' split at h;all_goals first | (cases h;done) | skip
  rename_i b _ _ _ _ c _ _ d;cases h;have b:k=_:=b;have c:v=_:=c;subst b c;rw[aDU d];rfl
theorem RJ{x:AV}{l:List<|Int×Int}(h:Hu x=some l): (x=.lit (.map none)/\l=[])\/x=.rmp (l.map λe=>(Value.int .i64 e.1,AV.lit<|.int .i64 e.2)):=by
 unfold Hu at h;split at h
 .rw[aDU h];exact .inr rfl
 .repeat' split at h;all_goals first | (cases h;done) | skip
  cases h;exact .inl ⟨rfl,rfl⟩
 .cases h
theorem aNP{x:AV}{l:List<|Int×Int}(h:Hu x=some l): Qp (.rmp 3 3 l) x:=by
 have b:Qm (kk:=3) 3 l<|l.map λe=>[AV.lit<|.int .i64 e.2]:=by
  have:∀l:List<|Int×Int,Qm (kk:=3) 3 l<|l.map λe=>[AV.lit<|.int .i64 e.2]:=by
   intro l;induction l with
   | nil=>trivial
   | cons e l a=>exact⟨⟨.lit _,trivial⟩,a⟩
  exact this l
 rcases RJ h with⟨rfl,rfl⟩ | rfl
 .exact Qp.mkM (rows:=[]) (.inl ⟨rfl,rfl⟩) trivial
 .refine Qp.mkM (.inr ?_) b;congr 1;have:∀l:List<|Int×Int,(l.map λe=>(Value.int .i64 e.1,AV.lit<|.int .i64 e.2))=gB (kk:=3) 3 l (l.map λe=>[AV.lit<|.int .i64 e.2]):=by
   intro l;induction l with
   | nil=>rfl
   | cons e l a=>show _::_=_::_;rw[a];rfl
  exact this l
theorem aMR{cf:CF}{fl:Nat}{tm:List AV}{H:aU}{c:AV}{old:List<|Int×Int}{k:Int}{x y:bA}(i:Hu c=some old)(j:aH tm x=c)(q:aH tm y=iv k): aO PP cf fl (.lookup 3 (.lit<|.int .i64 0) x y false) tm H=some (iv<|sdG old k,H):=by
 have f:Qt 2 ⟨[(0,.rmp 3 3 old),(1,.lit<|.int .i64 k)],List.replicate H.length .gone⟩ ⟨[c,iv k],H⟩:=⟨rfl,λt v a=>(by
  match t,a with
  | 0,a=>cases a;exact⟨_,rfl,.p _ _<|aNP i⟩
  | 1,a=>cases a;exact⟨_,rfl,.l _⟩
  | _+2,a=>cases a),aPe H⟩
 let⟨v,u,tv,s,b,_,o,h⟩:=G9 (P:=PP) (T:=T) (cf:=cf) (n:=0) (d:=some 0) (E:=((⟨C0,[],[],[],[]⟩:En PP T 2 fl .skip).xe GlC.g)) (K:=λtv _=>some tv) (r:=.lit<|.int .i64<|sdG old k)
  (En.ok _ _) f (kt:=3) (z:=.lit<|.int .i64 0) (m:=.tmp 0) (k:=.tmp 1) (ok:=false)<|by kernel_rfl
 rw[aPq b] at b;obtain rfl:=ZR h;rw[o.inL] at b;have e:aO PP cf fl (.lookup 3 (.lit<|.int .i64 0) x y false) tm H=aO PP cf fl (.lookup 3 (.lit<|.int .i64 0) (.tmp 0) (.tmp 1) false) [c,iv k] H:=by
  simp only[aO,j,q];rfl
 exact e.trans b
def Nh(l:List<|Nat×AV): List AV:=(List.range 30).map λk=>match dD k l with
 | some x=>x
 | none=>.undef
theorem aMA{l:List<|Nat×AV}(h:∀k v,dD k l=some v->k<30): At 30 l<|Nh l:=⟨by simp[Nh],λk v a=>by
 simp only[aH,Nh,Zk,YY<|h k v a,Yz,a]⟩
theorem sV{N k:Nat}{l:List<|Nat×AV}{tm:List AV}{v:AV}(h:At N l tm)(e:dD k l=some v)(b:k<N): tm[k]?=some v:=by
 have:=h.get e;have a:k<tm.length:=by rw[h.ln];exact b
 simp only[aH,Zb a] at this;rw[Zb a,this]
def cW(a:Nat->Prop)(r:Nat)(W:World): dF:=⟨W,λb=>a b\/b=r,λ_=>none,[]⟩
theorem JB{a:Nat->Prop}{r b:Nat}{W:World}: nE (cW a r W) b↔¬a b/\b≠r:=⟨λh=>⟨λk=>h.1<|.inl k,λk=>h.1<|.inr k⟩,λh=>⟨λk=>k.elim h.1 h.2,λid h=>by cases h⟩⟩
structure LI(X0:Nat->Prop)(r:Nat)(m:Int)(xo:AV)(W:World)(a:Act): Prop where
 gl:vD (cW X0 r W)
 fr:∀k,W.heap.size<=k->¬X0 k
 hr:r<W.heap.size
 sz:a.tmps.size=30
 t2:a.tmps[2]?=some (.int .i64 m)
 t14:a.tmps[14]?=some (.pointer (some ⟨r,0,none⟩))
 t7:∃v,a.tmps[7]?=some v/\RP W (nE (cW X0 r W)) xo v
abbrev l0(m:Int)(xo:AV)(r:Nat): List (Nat×AV):=[(2,iv m),(7,xo),(14,.lit (.pointer (some ⟨r,0,none⟩)))]
theorem aAB(m:Int)(a:AV)(r:Nat): At 30 (l0 m a r)<|Nh<|l0 m a r:=aMA λk v h=>by
 simp only[dD] at h;repeat' split at h;all_goals first | cases h | skip
 all_goals (rename_i e;have:=Zc e;omega)
section
variable {X0:Nat->Prop}{r:Nat}{m:Int}{xo:AV}{W W':World}{a a':Act}
theorem LI.tr(h:LI X0 r m xo W a): TR (aK T) (cW X0 r W) (Nh<|l0 m xo r) a.tmps:=by
 refine⟨by simp[Nh,h.sz],λt x c=>?_⟩;have d:t<a.tmps.size:=by
  rw[h.sz];rcases ZI t 30 with k | k
  .exact k
  .rw[Zy<|by simpa [Nh] using k] at c;cases c
 rw[h.sz] at d;simp only[Nh,Zk,YY d,Yz,Za] at c;have l:∀x:AV,x=.undef->∃v,a.tmps[t]?=some v/\RV (aK T) (cW X0 r W) x v:=λx e=>⟨_,Z6<|by rw[h.sz];exact d,by rw[e];exact RV.undef _⟩;simp only[dD] at c;split at c
 .rename_i y b;subst c;split at b
  .rename_i e;cases b;rw[<-Zc e];exact⟨_,h.t2,RV.lit _⟩
  .split at b
   .rename_i e;cases b;rw[<-Zc e];let⟨v,i,j⟩:=h.t7;exact⟨v,i,.pure _ _ j⟩
   .split at b
    .rename_i e;cases b;rw[<-Zc e];exact⟨_,h.t14,RV.lit _⟩
    .cases b
 .exact l x c.symm
theorem LI.sim(h:LI X0 r m xo W a): bY (aK T) (cW X0 r W) where
 gl:=h.gl;inj:=λ_ _ _ h=>by cases h
 dom:=λ_ _ h=>by cases h
 nx:=λ_ _ h=>by cases h
 fresh:=λk c e=>e.elim (h.fr k c) λe=>by have:=h.hr;have c:W.heap.size<=k:=c;omega
 lens:=λid s es h=>by cases h
 blk:=λid s es b h=>by cases h
 map:=λid es b h=>by cases h
 raw:=λid q b h=>by cases h
theorem aGB(f:DX (some r) W W'){x:AV}{v:Value}(h:RP W (nE<|cW X0 r W) x v): RP W' (nE<|cW X0 r W') x v:=h.mono λb o e d=>by
 let⟨i,c⟩:=JB.1 e;exact⟨JB.2 ⟨i,c⟩,(f.frame b (iG d)<|by simpa using c).trans d⟩
theorem LI.move(h:LI X0 r m xo W a)(c:DX (some r) W W')(d:a'.tmps.size=30/\a'.tmps[2]?=a.tmps[2]?/\a'.tmps[14]?=a.tmps[14]?/\a'.tmps[7]?=a.tmps[7]?): LI X0 r m xo W' a' where
 gl:=λg cs i=>by
  let⟨cc,T,fz,b,f,e,u,o,s⟩:=h.gl g cs i;let⟨w,l⟩:=JB.1 f;exact⟨cc,T,fz,b,JB.2 ⟨w,l⟩,(c.frame g (iG e)<|by simpa using l).trans e,u,o,λj x z=>aGB c<|s j x z⟩
 fr:=λk t=>h.fr k<|ZB c.size t;hr:=YM h.hr c.size;sz:=d.1;t2:=d.2.1.trans h.t2;t14:=d.2.2.1.trans h.t14;t7:=by
  let⟨v,f,e⟩:=h.t7;exact⟨v,d.2.2.2.trans f,aGB c e⟩
theorem aJR{FT:Nat->Option Nat}{c:dF}{a:AV}{old:List<|Int×Int}{v:Value}(d:Hu a=some old)(h:RV FT c a v): RP c.w (nE c) a v:=by
 rcases RJ d with⟨rfl,_⟩ | rfl
 .rw[h.lit_inv];exact .lit _
 .cases h with
  | pure _ _ h=>exact h
theorem LI.ops{c':dF}{tm:List AV}{l:List<|Nat×AV}{old:List<|Int×Int}(h:LI X0 r m xo W a)(t:Hu xo=some old)(q:bW 0 (cW X0 r W) c')(f:At 30 l tm)(i:TR (aK T) c' tm a'.tmps)(y:dD 2 l=some (iv m))(u:dD 7 l=some xo)(j:dD 14 l=some (.lit<|.pointer<|some ⟨r,0,none⟩)): LI X0 r m xo c'.w a':=by
 have p:=sS q λ_=>rfl;have e:LI X0 r m xo c'.w a:=h.move p.of ⟨h.sz,rfl,rfl,rfl⟩;refine { e with sz:=by rw[<-i.1];exact f.ln,t2:=?_,t14:=?_,t7:=?_ }
 .let⟨v,c,d⟩:=i.2 2 _<|sV f y<|by decide
  rw[c,d.lit_inv]
 .let⟨v,c,d⟩:=i.2 14 _<|sV f j<|by decide
  rw[c,d.lit_inv]
 .let⟨v,c,d⟩:=i.2 7 _<|sV f u<|by decide
  refine⟨v,c,(aJR t d).mono λb o s p=>⟨JB.2 ?_,p⟩⟩;have:=s.1;rw[q.X] at this;exact⟨λk=>this<|.inl k,λk=>this<|.inr k⟩
end
def Dk(old:List<|Int×Int)(m k v:Int): Bool:=!decide (k=m)&&!decide (sdG old k=v)
def Ent(e:MapEntry)(k v:Int): Prop:=e.key=.int .i64 k/\e.val=.int .i64 v
theorem aOB: ∀(j:Nat) (o:Oper),[iZ V8 1,iZ V8 2,iZ V8 3,iZ V8 4][j]?=some o->(fG V8)[1+j]?=some o:=by
 have e:(fG V8).toList.drop 1=[iZ V8 1,iZ V8 2,iZ V8 3,iZ V8 4]:=by kernel_rfl
 intro j o h;rw[<-e,Zw,Z8] at h;exact h
theorem OI{c:Code}{n:Nat}(e:(fG c).toList=(List.range n).map (iZ c)): ∀(j:Nat) (o:Oper),((List.range n).map<|iZ c)[j]?=some o->(fG c)[0+j]?=some o:=by
 intro j o h;rw[<-e,Z8] at h;rw[Z0];exact h
section
variable {cf:CF}{X0:Nat->Prop}{r b clk cc:Nat}{m:Int}{xo:AV}{old:List (Int×Int)}{W:World}{a:Act}{seen:Array Nat}{es:Array MapEntry}
def gop(d:Nat)(a:Ju): bS:=⟨some d,a,some (23,true)⟩
def R5: List bS:=[om 20 8,om 21 2,o1 22<|.ibin .neq (tp 20)<|tp 21,om 23 22,gop 24<|.mov<|tp 7,gop 25<|.mov<|tp 8,gop 26<|.lookup 3 (.lit<|.int .i64 0) (tp 24) (tp 25) false,gop 27<|.mov<|tp 9,gop 28<|.ibin .neq (tp 26)<|tp 27,o1 29<|.pick (tp 23) (tp 28)<|.lit<|.bool false]
theorem aEa{P:Program}{fl:Nat}{tm:List AV}{H:aU}{l:List<|Nat×AV}{N d:Nat}{f:Ju}{rs:List bS}{K:St->Prop}(h:At N l tm)(e:dD 23 l=some (.lit<|.bool false))(k:∀a,At N ((d,.lit bM)::l) a->WO P cf fl rs ⟨a,H⟩ K)(b:Nat.blt d N=true:=by rfl): WO P cf fl (gop d f::rs) ⟨tm,H⟩ K:=by
 let⟨s,g,c⟩:=k _<|h.set b;refine⟨s,?_,c⟩;simp only[jM,cS,gop,fC,h.get e];exact g
theorem aDZ{P:Program}{fl:Nat}{tm:List AV}{H H':aU}{v:AV}{l:List<|Nat×AV}{N d:Nat}{b:Ju}{rs:List bS}{K:St->Prop}(h:At N l tm)(e:dD 23 l=some (.lit<|.bool true))(ev:aO P cf fl b tm H=some (v,H'))(k:∀a,At N ((d,v)::l) a->WO P cf fl rs ⟨a,H'⟩ K)(c:Nat.blt d N=true:=by rfl): WO P cf fl (gop d b::rs) ⟨tm,H⟩ K:=by
 let⟨s,g,f⟩:=k _<|h.set c;refine⟨s,?_,f⟩;simp only[jM,cS,gop,fC,h.get e,ev];exact g
theorem aSS{tm:List AV}{k v:Int}(d:Hu xo=some old)(h:At 30 ((9,iv v)::(8,iv k)::l0 m xo r) tm): WO PP cf 0 R5 ⟨tm,[]⟩ λs=>s.heap=[]/\∃l,At 30 l s.tmps/\dD 29 l=some (.lit<|.bool<|Dk old m k v)/\dD 2 l=some (iv m)/\dD 7 l=some xo/\dD 14 l=some (.lit<|.pointer<|some ⟨r,0,none⟩):=by
 refine AO.mov h rfl λtm h=>AO.mov h rfl λtm h=>AO.op h (Nc (v:=.bool<|k != m) (h.get rfl) (h.get rfl) rfl) λtm h=>AO.mov h rfl λtm h=>?_;by_cases e:k=m
 .have b:(k != m)=false:=by simp[e]
  rw[b] at h;refine aEa h rfl λtm h=>aEa h rfl λtm h=>aEa h rfl λtm h=>aEa h rfl λtm h=>aEa h rfl λtm h=>AO.op (v:=.lit<|.bool false) (H':=[]) h (by simp only[aO,h.get (k:=23) rfl];rfl) λtm h=>AO.nil h ⟨rfl,_,h,?_,rfl,rfl,rfl⟩;have:Dk old m k v=false:=by simp[Dk,e]
  rw[this];rfl
 .have b:(k != m)=true:=by simpa using e
  rw[b] at h;refine aDZ h rfl (v:=xo) (H':=[]) (by simp only[aO,h.get (k:=7) rfl]) λtm h=>aDZ h rfl (v:=iv k) (H':=[]) (by simp only[aO,h.get (k:=8) rfl]) λtm h=>aDZ h rfl (aMR d (h.get rfl)<|h.get rfl) λtm h=>aDZ h rfl (v:=iv v) (H':=[]) (by simp only[aO,h.get (k:=9) rfl]) λtm h=>aDZ h rfl (Nc (v:=.bool<|sdG old k != v) (h.get rfl) (h.get rfl) rfl) λtm h=>AO.op (v:=.lit<|.bool<|sdG old k != v) (H':=[]) h (by simp only[aO,h.get (k:=23) rfl,h.get (k:=28) rfl,Zz]) λtm h=>AO.nil h ⟨rfl,_,h,?_,rfl,rfl,rfl⟩;have:Dk old m k v=(sdG old k != v):=by
   simp only[Dk,e,decide_false,X3,Wv];rw[XV];simp
  rw[this];rfl
theorem aSB(E:De PP T cf)(L:pV PP T)(ho:Hu xo=some old)(li:LI X0 r m xo W a)(hr:W.heap[r]?=some (.mapIter (some b) clk seen cc))(hb:W.heap[b]?=some (.map es clk))(i2:b≠r)(j1:clk<=cc)(hy:Yng es clk)(hE:∀e∈es.toList,∃k v,Ent e k v){Q:Exit->Act->World->Prop}(h1:∀a' C,LI X0 r m xo C a'->DX (some r) W C->(leftOf es seen).size=0->a'.defers=a.defers->Q (.exit 0) a' C)(l3:∀a' C e k v,e∈(leftOf es seen).toList->Ent e k v->Dk old m k v=false->LI X0 r m xo C a'->C.heap[r]?=some (.mapIter (some b) clk (seen.push e.born) clk)->C.heap[b]?=some (.map es clk)->DX (some r) W C->a'.defers=a.defers->Q .normal a' C)(f1:∀a' C e k v,e∈(leftOf es seen).toList->Ent e k v->Dk old m k v=true->LI X0 r m xo C a'->a'.tmps[6]?=some (.bool true)->DX (some r) W C->a'.defers=a.defers->Q .ret a' C): BD.wp PP Q a W:=by
 rw[aPE];refine Xk ?_;refine Xc ?_;show wpOps PP (fG Rg3) _ [0,1] a W;rw[Y3];have i1:(iZ Rg3 0).op=.next (.tmp 14) false:=by kernel_rfl
 have g3:(iZ Rg3 0).dst=some 15:=by kernel_rfl
 have S:a.eval (.tmp 14)=.pointer (some ⟨r,0,none⟩):=by simp[Act.eval,Yf,li.t14]
 rcases run_next_at (P:=PP) W (iZ Rg3 0).type r b clk cc seen es clk hr hb hy.1 j1 with⟨hz,K⟩ | ⟨e,he,w1,J,K⟩
 .refine OX (o:=iZ Rg3 0) (v:=.tuple #[.bool false]) (w':=W) (by kernel_rfl) (by kernel_rfl) (by simp[execOp,i1,S,K]) ?_;have i:=TR.put (d:=some 15) li.tr<|Kj (c:=cW X0 r W) [.bool false];have q:At 30 ((15,.tup [.lit<|.bool false])::l0 m xo r)<|iY (Nh<|l0 m xo r) (some 15)<|.tup<|[.bool false].map .lit:=(aAB m xo r).set rfl;rw[g3,Y3];have y:(a.put (some 15)<|.tuple #[.bool false]).defers=a.defers:=jC _ _ _;generalize a.put (some 15) (.tuple #[.bool false])=a1 at i y |-;generalize iY (Nh<|l0 m xo r) (some 15) (.tup<|[.bool false].map .lit)=c1 at i q;refine lF (fl:=0) (c:=cW X0 r W) (o:=iZ Rg3 1) (ao:=o1 16<|.extract (tp 15) 0) (st':=⟨c1.set 16<|.lit<|.bool false,[]⟩) E L li.sim i (ZG _) (by kernel_rfl) (by kernel_rfl) (by simp only[cS,fC,aO,q.get (k:=15) rfl];rfl) ?_;intro M I e2 s2 n1 p d2 _;have F:=q.set (v:=.lit<|.bool false) (k:=16) rfl;have l2:=li.ops ho s2 F p rfl rfl rfl;show ((Code.seq (.cond (.tmp 16) .skip<|.exit 0) _)).wp PP Q M I.w;refine Xk ?_;refine XJ (B3 p (t:=16)<|sV F rfl<|by decide) ?_;exact wp_exit<|h1 M I.w l2 (sS s2 λ_=>rfl).of hz<|d2.trans y
 .let⟨kk,vv,hk,hv⟩:=hE e (mem_left he).1;have hf:w1.heap=W.heap:=by rcases J with rfl | rfl<;>rfl
  refine OX (o:=iZ Rg3 0) (v:=.tuple #[.bool true,e.key,e.val]) (w':=setBlock w1 r<|.mapIter (some b) clk (seen.push e.born) clk) (by kernel_rfl) (by kernel_rfl) (by simp[execOp,i1,S,K]) ?_;have n:DX (some r) W<|setBlock w1 r<|.mapIter (some b) clk (seen.push e.born) clk:=by
   refine⟨by rcases J with rfl | rfl<;>rfl,by rcases J with rfl | rfl<;>rfl,by rcases J with rfl | rfl<;>rfl,(by rcases J with rfl | rfl<;>first | exact Zf _ | exact Ys _),by simp[setBlock,hf],λk _ hk=>?_⟩;simp only[setBlock,hf];rw[YB λe=>hk<|by rw[e]]
  have b1:(setBlock w1 r<|.mapIter (some b) clk (seen.push e.born) clk).heap[r]?=some (.mapIter (some b) clk (seen.push e.born) clk):=by
   simp only[setBlock,hf];rw[Array.getElem?_setIfInBounds_self_of_lt<|iG hr]
  generalize setBlock w1 r (.mapIter (some b) clk (seen.push e.born) clk)=W1 at n b1;have f2:W1.heap[b]?=some (.map es clk):=(n.frame b (iG hb)<|by simpa using i2).trans hb;have Y:LI X0 r m xo W1 a:=li.move n ⟨li.sz,rfl,rfl,rfl⟩;have i:=TR.put (d:=some 15) Y.tr<|Kj (c:=cW X0 r W1) [.bool true,e.key,e.val];have q:At 30 ((15,.tup [.lit<|.bool true,.lit e.key,.lit e.val])::l0 m xo r)<|iY (Nh<|l0 m xo r) (some 15)<|.tup<|[.bool true,e.key,e.val].map .lit:=(aAB m xo r).set rfl;rw[g3,Y3];have y:(a.put (some 15)<|.tuple #[.bool true,e.key,e.val]).defers=a.defers:=jC _ _ _;show wpOp PP (fG Rg3) _ 1 _ (a.put (some 15)<|.tuple [.bool true,e.key,e.val].toArray) W1;replace y:(a.put (some 15)<|.tuple [.bool true,e.key,e.val].toArray).defers=a.defers:=y;generalize a.put (some 15) (.tuple [.bool true,e.key,e.val].toArray)=a1 at i y |-;generalize iY (Nh<|l0 m xo r) (some 15) (.tup<|[.bool true,e.key,e.val].map .lit)=c1 at i q;refine lF (fl:=0) (c:=cW X0 r W1) (o:=iZ Rg3 1) (ao:=o1 16<|.extract (tp 15) 0) (st':=⟨c1.set 16<|.lit<|.bool true,[]⟩) E L Y.sim i (ZG _) (by kernel_rfl) (by kernel_rfl) (by simp only[cS,fC,aO,q.get (k:=15) rfl];rfl) ?_;intro M I e2 s2 n1 p d2 _;have F:=q.set (v:=.lit<|.bool true) (k:=16) rfl;have l2:=Y.ops ho s2 F p rfl rfl rfl;have b2:=sS s2 λ_=>rfl;show ((Code.seq (.cond (.tmp 16) .skip<|.exit 0) _)).wp PP Q M I.w;refine Xk ?_;refine Wd (B3 p (t:=16)<|sV F rfl<|by decide) ?_;refine W5 ?_;refine WJ ?_;refine Xk ?_;refine Xc ?_;show wpOps PP (fG V8) _ [0,1,2,3,4] M I.w;rw[Y3];have Z:=(b2.frame r (iG b1)<|by simp).trans b1;have b3:=(b2.frame b (iG f2)<|by simp).trans f2;have o3:=run_entry_at (P:=PP) I.w r b clk seen es clk e Z b3 (mem_left he).1 hy.2;have p1:(iZ V8 0).op=.entry (.tmp 14):=by kernel_rfl
  have j2:M.eval (.tmp 14)=.pointer (some ⟨r,0,none⟩):=by simp[Act.eval,Yf,l2.t14]
  refine OX (o:=iZ V8 0) (v:=.tuple #[e.key,e.val]) (w':=I.w) (by kernel_rfl) (by kernel_rfl) (by simp[execOp,p1,j2,o3]) ?_;have n3:(iZ V8 0).dst=some 17:=by kernel_rfl
  rw[n3];have D:=TR.put (d:=some 17) l2.tr<|Kj (c:=cW X0 r I.w) [e.key,e.val];have O:At 30 ((17,.tup [.lit e.key,.lit e.val])::l0 m xo r)<|iY (Nh<|l0 m xo r) (some 17)<|.tup<|[e.key,e.val].map .lit:=(aAB m xo r).set rfl;have U:(M.put (some 17)<|.tuple [e.key,e.val].toArray).defers=M.defers:=jC _ _ _;show wpOps PP (fG V8) _ (List.range' 1 4) (M.put (some 17)<|.tuple [e.key,e.val].toArray) I.w;generalize M.put (some 17) (.tuple [e.key,e.val].toArray)=a3 at D U |-;generalize iY (Nh<|l0 m xo r) (some 17) (.tup<|[e.key,e.val].map .lit)=e3 at D O;have R:LI X0 r m xo I.w M:=l2;let⟨s4,j3,h4,l4,x,q2,q7,q8,q9,h2⟩:WO PP cf 0 [o1 18<|.extract (tp 17) 0,o1 19<|.extract (tp 17) 1,om 8 18,om 9 19] ⟨e3,[]⟩ λs=>s.heap=[]/\∃l,At 30 l s.tmps/\dD 2 l=some (iv m)/\dD 7 l=some xo/\dD 8 l=some (iv kk)/\dD 9 l=some (iv vv)/\dD 14 l=some (.lit<|.pointer<|some ⟨r,0,none⟩):=by
   rw[hk,hv] at O;exact AO.op (v:=iv kk) (H':=[]) O (by simp only[aO,O.get (k:=17) rfl];rfl) λtm h=>AO.op (v:=iv vv) (H':=[]) h (by simp only[aO,h.get (k:=17) rfl];rfl) λtm h=>AO.mov h rfl λtm h=>AO.mov h rfl λtm h=>AO.nil h ⟨rfl,_,h,rfl,rfl,rfl,rfl,rfl⟩
  refine Dt (ops:=fG V8) (fl:=0) E L [o1 18<|.extract (tp 17) 0,o1 19<|.extract (tp 17) 1,om 8 18,om 9 19] [iZ V8 1,iZ V8 2,iZ V8 3,iZ V8 4] 1 (cW X0 r I.w) a3 e3 s4 (by kernel_rfl) aOB R.sim D (ZG _) j3 ?_;intro a4 c4 e4 c3 m3 X d4;have q1:=R.ops ho c3 x X q2 q7 h2;have b4:=sS c3 λ_=>rfl;show (Code.seq (.region 5 (fG Rg5) false) _).wp PP _ a4 c4.w;refine Xk ?_;refine Xc ?_;show wpOps PP (fG Rg5) _ (List.range' 0 10) a4 c4.w;have k2:At 30 ((9,iv vv)::(8,iv kk)::l0 m xo r) s4.tmps:=.cons (x.get q9)<|.cons (x.get q8)<|.cons (x.get q2)<|.cons (x.get q7)<|.cons (x.get h2) ⟨x.ln,λ_ _ h=>by cases h⟩;have l1:c4.H=[]:=by rw[e4,h4]
  let⟨s5,n2,h5,l5,A,N,p2,p7,e1⟩:=aSS (cf:=cf) ho k2;refine Dt (ops:=fG Rg5) (fl:=0) E L R5 ((List.range 10).map<|iZ Rg5) 0 c4 a4 s4.tmps s5 (by kernel_rfl) (OI<|by kernel_rfl) m3 X (ZG _) (by rw[l1];exact n2) ?_;intro a5 c5 e5 k3 m2 B d5;have d1:=c3.trans k3;have m1:=R.ops ho d1 A B p2 p7 e1;have b5:=sS d1 λ_=>rfl;have tot:DX (some r) W c5.w:=n.trans<|b2.of.trans b5.of;have f3:a5.defers=a.defers:=d5.trans<|d4.trans<|U.trans<|d2.trans y;show (Code.cond (.tmp 29) _ _).wp PP _ a5 c5.w;cases z:Dk old m kk vv with
  | false=>
   rw[z] at N;refine XJ (B3 B (t:=29)<|sV A N<|by decide) ?_;refine W5 ?_;exact l3 a5 c5.w e kk vv he ⟨hk,hv⟩ z m1 ((b5.frame r (iG Z)<|by simp).trans Z) ((b5.frame b (iG b3)<|by simp).trans b3) tot f3
  | true=>
   rw[z] at N;refine Wd (B3 B (t:=29)<|sV A N<|by decide) ?_;refine Xk ?_;refine Xc ?_;show wpOps PP (fG Rg6) _ (List.range' 0 1) a5 c5.w;have o2:c5.H=[]:=by rw[e5,h5]
   refine Dt (ops:=fG Rg6) (fl:=0) E L [o1 6<|.mov<|.lit<|.bool true] ((List.range 1).map<|iZ Rg6) 0 c5 a5 s5.tmps ⟨s5.tmps.set 6<|.lit<|.bool true,[]⟩ (by kernel_rfl) (OI<|by kernel_rfl) m2 B (ZG _) (by rw[o2];rfl) ?_;intro a6 c6 e6 i3 p3 V d6;have d3:=d1.trans i3;have h3:=A.set (v:=.lit<|.bool true) (k:=6) rfl;have k1:=R.ops ho d3 h3 V p2 p7 e1;have b6:=sS d3 λ_=>rfl;refine wp_ret ?_;let⟨u,g1,g2⟩:=V.2 6 _<|sV h3 rfl<|by decide
   exact f1 a6 c6.w e kk vv he ⟨hk,hv⟩ z k1 (by rw[g1,g2.lit_inv]) (n.trans<|b2.of.trans b6.of)<|d6.trans f3
theorem aAt(o:De PP T cf)(s:pV PP T)(H:Hu xo=some old)(j:b≠r)(D:Yng es clk)(F:∀e∈es.toList,∃k v,Ent e k v){Q:Exit->Act->World->Prop}{W0:World}{ds:List Deferred}(f:∀a' c,LI X0 r m xo c a'->DX (some r) W0 c->(∀e∈es.toList,∀k v,Ent e k v->Dk old m k v=false)->a'.defers=ds->Q (.exit 0) a' c)(g:∀a' c e k v,e∈es.toList->Ent e k v->Dk old m k v=true->LI X0 r m xo c a'->a'.tmps[6]?=some (.bool true)->DX (some r) W0 c->a'.defers=ds->Q .ret a' c):
 ∀(n:Nat) (seen:Array Nat) (cc:Nat) (W:World) (a:Act),(leftOf es seen).size<n->LI X0 r m xo W a->W.heap[r]?=some (.mapIter (some b) clk seen cc)->W.heap[b]?=some (.map es clk)->clk<=cc->DX (some r) W0 W->a.defers=ds->(∀e∈es.toList,seen.contains e.born=true->∀k v,Ent e k v->Dk old m k v=false)->Code.rounds PP BD Q n a W
 | 0,_,_,_,_,h,_,_,_,_,_,_,_=>by omega
 | n+1,seen,cc,W,a,Y,U,R,X,C,z,B,J=>by
  rw[rounds_succ];refine aSB o s H U R X j C D F (λa' c q l S p=>?_) (λa' c e k v he y w q A O l p=>?_) λa' c e k v he y w q A l p=>?_
  .exact f a' c q (z.trans l) (λe he k v t=>J e he (all_seen es seen S e he) k v t)<|p.trans B
  .refine aAt o s H j D F f g n (seen.push e.born) clk c a' (by have:=left_shrinks es seen e he;omega) q A O (Zf _) (z.trans l) (p.trans B) λx K i k' L t=>?_;rw[contains_push] at i;rcases YU _ _▸i with i | i
   .exact J x K i k' L t
   .have M:x=e:=born_inj D.2 K (mem_left he).1<|by simpa using i
    subst M;let⟨I,G⟩:=t;let⟨V,N⟩:=y;rw[V] at I;rw[N] at G;cases I;cases G;exact w
  .exact g a' c e k v (mem_left he).1 y w q A (z.trans l)<|p.trans B
end
theorem ER(H H':aU)(x:AV): dG H' (dG H x)=dG H x:=by
 cases x with
 | lit v=>
  have a:uC v=.lit v\/uC v=.sl false []:=by
   unfold uC;repeat' split
   all_goals first | exact .inl rfl | exact .inr rfl
  rcases a with e | e
  .simp only[dG,e]
  .simp only[dG,e]
 | ms id tot off len=>
  have e:dG H (.ms id tot off len)=match rd H (.ms id tot off len) with | some es=>.vw (es.map λe=>e.map Gt) | none=>.undef:=rfl;rw[e];cases rd H (.ms id tot off len)<;>rfl
 | fn vi caps=>cases caps<;>rfl
 | _=>rfl
theorem aM4{FT:Nat->Option Nat}{c:dF}{tm:List AV}{tv:Array Value}{k:Nat}{v:Value}(h:TR FT c tm tv)(b:tv[k]?=some v): TR FT c (tm.set k<|.lit v) tv:=by
 refine⟨by rw[Yr];exact h.1,λt x a=>?_⟩;rw[Z5] at a;split at a
 .rename_i e;subst e;split at a
  .cases a;exact⟨v,b,RV.lit _⟩
  .cases a
 .exact h.2 t x a
theorem aBv{old:List<|Int×Int}{m:Int}: ∀a:List<|Int×Int,sdB old m a=true↔∃e∈a,Dk old m e.1 e.2=true
 | []=>by simp[sdB]
 | e::l=>by
  have b:=aBv (old:=old) (m:=m) l;show (match Dk old m e.1 e.2 with | true=>true | false=>sdB old m l)=true↔_;cases h:Dk old m e.1 e.2 with
  | true=>simp[h]
  | false=>simp[h,b]
theorem aPV{W:World}{a:Act}{x:Bool}{c:dF}{tm:List AV}(i:bY (aK T) c)(m:c.H=[])(e:c.w=W)(h:TR (aK T) c tm a.tmps)(j:tm.length=30)(l:a.tmps[6]?=some (.bool x)): (results Tryz.f61 a.tmps).run PP W=.ok (.bool x) W:=by
 have k:=aM4 h l;have g:nD ⟨tm.set 6<|.lit<|.bool x,[]⟩ [.tmp 6]=some [.lit<|.bool x]:=by
  simp only[nD,Qy,aH,Z3 (by rw[j];decide:6<tm.length)]
 let⟨v,d,f⟩:=VG (P:=PP) (fn:=Tryz.f61) (rs:=[.tmp 6]) (vs:=[.lit<|.bool x]) (st:=⟨tm.set 6<|.lit<|.bool x,[]⟩) i m k (by kernel_rfl) g;rw[e,f.lit_inv] at d;exact d
theorem aPt{cf:CF}{fl:Nat}{tm:List AV}{H:aU}{x:bA}{cs:List AV}(a:aH tm x=.agg cs): aO PP cf fl (.box x) tm H=some (.ptr H.length 1 0 0,H++[.blk cs.length [cs]]):=by simp only[aO,a,cellsOf]
theorem aHB{cf:CF}{c:aU}{a:AV}{l:List<|Int×Int}(h:sdH cf 196 c a=some l): ∃z,(∀{fl:Nat} {tm:List AV} {H:aU} {x:bA},aH tm x=cG c a->aO PP cf fl (.callB 196 [x]) tm H=some (z,H))/\Hu z=some l/\∃x y w,cG c a=.agg [x,y,w]:=by
 let⟨j,m,k,p,d,t,q⟩:=aG2 h;have u:∃g f i,j=dG c g/\m=dG c f/\k=dG c i:=by
  have s:∀b cs,dG c b=.agg cs->False:=by
   intro b cs e;cases b with
   | lit v=>
    simp only[dG] at e;split at e<;>cases e
   | ms=>simp only[dG] at e;split at e<;>cases e
   | fn vi caps=>cases caps<;>cases e
   | _=>cases e
  have A:∀b,(∀cs,b≠.agg cs)->cG c b=dG c b:=λb r=>by
   cases b with
   | agg cs=>exact (r cs rfl).elim
   | _=>rfl
  cases a with
  | agg cs=>
   have d:AV.agg (cs.map<|dG c)=.agg [j,m,k]:=d;injection d with d;match cs,d with
   | [g,f,i],d=>cases d;exact⟨_,_,_,rfl,rfl,rfl⟩
  | _=>exact (s _ _<|(A _ λcs e=>by cases e).symm.trans d).elim
 obtain⟨g,f,i,rfl,rfl,rfl⟩:=u;refine⟨fF p.2 0 p.1,λ{fl tm H x} n=>?_,q,_,_,_,d⟩;have e:cG H (.agg [dG c g,dG c f,dG c i])=.agg [dG c g,dG c f,dG c i]:=by
  show AV.agg [dG H<|dG c g,dG H<|dG c f,dG H<|dG c i]=_;rw[ER,ER,ER]
 rw[d] at n;simp only[aO,ZE,Yn,n,e,t]
theorem aEY{cf:CF}(G:De PP T cf)(I:pV PP T){c:dF}(hs:bY (aK T) c){a b:AV}{m:Int}{old q:List<|Int×Int}(h1:sdH cf 196 c.H a=some old)(h2:sdH cf 196 c.H b=some q){vs:Array Value}(A:nF (aK T) c [a,b,iv m] vs):
 Calls PP 61 vs c.w λe w'=>e=.returned (.bool<|sdB old m q)/\DX none c.w w':=by
 refine calls_of_wp (fn:=Tryz.f61) Tryz.func61 aS4 ?_;have z3:=Cv hs;have Y:nF (aK T) (eP c) [cG c.H a,cG c.H b,iv m] vs:=by
  refine⟨A.1,λi x B=>?_⟩;match i,B with
  | 0,B=>cases B;let⟨v,k1,k2⟩:=A.2 0 a rfl;exact⟨v,k1,KI hs k2⟩
  | 1,B=>cases B;let⟨v,k1,k2⟩:=A.2 1 b rfl;exact⟨v,k1,KI hs k2⟩
  | 2,B=>cases B;let⟨v,k1,k2⟩:=A.2 2 (iv m) rfl;exact⟨v,k1,by rw[k2.lit_inv];exact RV.lit _⟩
 have f1:=aM5 30 Y;have hA:At 30 [(0,cG c.H a),(1,cG c.H b),(2,iv m)]<|[cG c.H a,cG c.H b,iv m]++List.replicate (30-[cG c.H a,cG c.H b,iv m].length) UV:=.cons rfl<|.cons rfl<|.cons rfl ⟨rfl,λ_ _ h=>by cases h⟩;have z1:Tryz.f61.ntmps=30:=by kernel_rfl
 rw[z1];generalize [cG c.H a,cG c.H b,iv m]++List.replicate (30-[cG c.H a,cG c.H b,iv m].length) UV=tm at f1 hA;generalize i3:(⟨vs++Array.replicate (30-vs.size) undef,[]⟩:Act)=a3;have f1:TR (aK T) (eP c) tm a3.tmps:=by rw[<-i3];exact f1
 have n1:a3.defers=[]:=by rw[<-i3]
 let⟨J,eo,io,x,y,z,ea⟩:=aHB h1;let⟨xn,en,r3,x',y',z',eb⟩:=aHB h2;rw[ea] at hA eo;rw[eb] at hA en;let⟨s0,v0,w0,r1⟩:WO PP cf 0 [o1 3<|.box<|tp 0,o1 4<|.box<|tp 1,o1 6<|.mov<|.lit<|.bool false] ⟨tm,[]⟩ λs=>s.heap=[.blk 3 [[x,y,z]],.blk 3 [[x',y',z']]]/\At 30 [(6,.lit<|.bool false),(4,.ptr 1 1 0 0),(3,.ptr 0 1 0 0),(0,.agg [x,y,z]),(1,.agg [x',y',z']),(2,iv m)] s.tmps:=
  AO.op hA (aPt<|hA.get rfl) λtm h=>AO.op h (aPt<|h.get rfl) λtm h=>AO.op (v:=.lit<|.bool false) (H':=[.blk 3 [[x,y,z]],.blk 3 [[x',y',z']]]) h rfl λtm h=>AO.nil h ⟨rfl,h⟩
 refine Xk ?_;refine Xc ?_;show wpOps PP (fG Rg0) _ (List.range' 0 3) a3 (eP c).w;refine Dt (ops:=fG Rg0) (fl:=0) G I [o1 3<|.box<|tp 0,o1 4<|.box<|tp 1,o1 6<|.mov<|.lit<|.bool false] ((List.range 3).map<|iZ Rg0) 0 (eP c) a3 tm s0 (by kernel_rfl) (OI<|by kernel_rfl) z3 f1 (ZG _) v0 ?_;intro b1 c1 e1 t1 y1 D d1;have hh0:s0.heap[0]?=some (.blk 3 [[x,y,z]]):=by rw[w0];rfl
 have hh1:s0.heap[1]?=some (.blk 3 [[x',y',z']]):=by rw[w0];rfl
 let⟨s1,v1,w1,O⟩:WO PP cf 0 [o1 10<|.load true 3<|tp 3,o1 11<|.callB 196 [tp 10],om 7 11] s0 λs=>s.heap=s0.heap/\At 30 [(7,J),(11,J),(10,.agg [x,y,z]),(6,.lit<|.bool false),(4,.ptr 1 1 0 0),(3,.ptr 0 1 0 0),(0,.agg [x,y,z]),(1,.agg [x',y',z']),(2,iv m)] s.tmps:=by
  exact AO.op (v:=.agg [x,y,z]) (H':=s0.heap) r1 (Rc (agg:=true) (n:=3) (r1.get (k:=3) rfl) hh0 rfl rfl (Zf 3) rfl) λtm h=>AO.op h (eo<|h.get rfl) λtm h=>AO.mov h rfl λtm h=>AO.nil h ⟨rfl,h⟩
 show (Code.seq (.region 1 (fG Rg1) false) _).wp PP _ b1 c1.w;refine Xk ?_;refine Xc ?_;show wpOps PP (fG Rg1) _ (List.range' 0 3) b1 c1.w;refine Dt (ops:=fG Rg1) (fl:=0) G I [o1 10<|.load true 3<|tp 3,o1 11<|.callB 196 [tp 10],om 7 11] ((List.range 3).map<|iZ Rg1) 0 c1 b1 s0.tmps s1 (by kernel_rfl) (OI<|by kernel_rfl) y1 D (ZG _) (by rw[e1];exact v1) ?_;intro b2 c2 e2 t2 x2 m1 d2;show (Code.seq (.seq (.region 2 (fG Rg2) false)<|.block 0<|.loop BD) _).wp PP _ b2 c2.w;refine Xk ?_;refine Xk ?_;refine Xc ?_;show wpOps PP (fG Rg2) _ [0,1,2] b2 c2.w;rw[Y3];refine lF (fl:=0) (o:=iZ Rg2 0) (ao:=o1 12<|.load true 3<|tp 4) (st':=⟨s1.tmps.set 12<|.agg [x',y',z'],s0.heap⟩) G I x2 m1 (ZG _) (by kernel_rfl) (by kernel_rfl) (by
  rw[e2,w1];simp only[cS,fC,Rc (agg:=true) (n:=3) (P:=PP) (cf:=cf) (fl:=0) (v:=.agg [x',y',z']) (O.get (k:=4) rfl) hh1 rfl rfl (Zf 3) rfl,iY]) ?_
 intro b3 c3 e3 t3 y3 p1 d3 _;have x1:=O.set (k:=12) (v:=.agg [x',y',z']) rfl;rw[Y3];refine lF (fl:=0) (o:=iZ Rg2 1) (ao:=o1 13<|.callB 196 [tp 12]) (st':=⟨(s1.tmps.set 12<|.agg [x',y',z']).set 13 xn,s0.heap⟩) G I y3 p1 (ZG _) (by kernel_rfl) (by kernel_rfl) (by
  rw[e3];simp only[cS,fC,en<|x1.get (k:=12) rfl,iY]) ?_
 intro b4 f e4 t4 s2 i2 d4 _;have l3:=x1.set (k:=13) (v:=xn) rfl;have tot:bW 0 (eP c) f:=t1.trans<|t2.trans<|t3.trans t4;have j1:DX none (eP c).w f.w:=sS tot λ_=>rfl;have u1:b4.defers=[]:=d4.trans<|d3.trans<|d2.trans<|d1.trans n1;rw[Y3];have n3:PP.underlying 147=some (.map 3 3):=by kernel_rfl
 have w3:(iZ Rg2 2).op=.range 147 (.tmp 13):=by kernel_rfl
 have m2:(iZ Rg2 2).dst=some 14:=by kernel_rfl
 let⟨u13,k13,x3⟩:=i2.2 13 xn<|sV l3 rfl<|by decide
 have i1:b4.eval (.tmp 13)=u13:=by simp[Act.eval,Yf,k13]
 have u2:=aJR r3 x3;have L:=TR.put (d:=some 14) i2<|RV.lit<|.pointer<|some ⟨f.w.heap.size,0,none⟩;have Z:=l3.set (k:=14) (v:=.lit<|.pointer<|some ⟨f.w.heap.size,0,none⟩) rfl;have N:(b4.put (some 14)<|.pointer<|some ⟨f.w.heap.size,0,none⟩).defers=b4.defers:=jC _ _ _;have h3:∀E,nE f E->¬(eP f).X E:=λE h e=>e.elim h.1 λ⟨id,hid⟩=>h.2 id hid;have R:∀ob:Obj,LI (eP f).X f.w.heap.size m J (f.w.alloc ob)<|b4.put (some 14)<|.pointer<|some ⟨f.w.heap.size,0,none⟩:=by
  intro ob;have ba:=UW f.w ob;have up:∀{x:AV} {v:Value},RP f.w (nE f) x v->RP (f.w.alloc ob) (nE<|cW (eP f).X f.w.heap.size<|f.w.alloc ob) x v:=λh=>h.mono λE o hi hb=>by
   have C:=iG hb;exact⟨JB.2 ⟨h3 E hi,by omega⟩,(ba.frame E C<|by simp).trans hb⟩
  refine⟨λg cs y2=>?_,λk hk=>?_,?_,?_,?_,?_,?_⟩
  .let⟨cc,T,fz,M,U,Q,g3,g4,g5⟩:=s2.gl g cs y2;have C:=iG Q;exact⟨cc,T,fz,M,JB.2 ⟨h3 g U,by omega⟩,(ba.frame g C<|by simp).trans Q,g3,g4,λj x B=>up<|g5 j x B⟩
  .have:f.w.heap.size<=k:=ZB ba.size hk;exact (Cv s2).fresh k this
  .show f.w.heap.size<(f.w.heap.push ob).size;rw[Xu];exact Wk _
  .rw[<-L.1];exact Z.ln
  .let⟨v,U,Q⟩:=L.2 2 _<|sV Z rfl<|by decide
   rw[U,Q.lit_inv]
  .let⟨v,U,Q⟩:=L.2 14 _<|sV Z rfl<|by decide
   rw[U,Q.lit_inv]
  .let⟨v,U,Q⟩:=L.2 7 J<|sV Z rfl<|by decide
   exact⟨v,U,up<|aJR io Q⟩
 have w2:∀(W:World) (a':Act) (x:Bool),LI (eP f).X f.w.heap.size m J W a'->DX (some f.w.heap.size) (f.w) W->a'.tmps[6]?=some (.bool x)->a'.defers=[]->x=sdB old m q->bodyPost PP Tryz.f61 (λe w'=>e=.returned (.bool<|sdB old m q)/\DX none c.w w') .ret a' W:=by
  intro W a' x F j2 h6 hd B;refine⟨hd,.bool x,aPV F.sim rfl rfl F.tr (aAB m J _).ln h6,by rw[B],j2.out j1<|j1.size⟩
 have f3:∀(W:World) (a':Act),LI (eP f).X f.w.heap.size m J W a'->DX (some f.w.heap.size) f.w W->a'.defers=[]->sdB old m q=false->(Code.seq (.region 7 (fG RgE) false) .ret).wp PP (bodyPost PP Tryz.f61 λe w'=>e=.returned (.bool<|sdB old m q)/\DX none c.w w') a' W:=by
  intro W a' F j2 hd B;refine Xk ?_;refine Xc ?_;show wpOps PP (fG RgE) _ (List.range' 0 1) a' (cW (eP f).X f.w.heap.size W).w;refine Dt (ops:=fG RgE) (fl:=0) G I [o1 6<|.mov<|.lit<|.bool false] ((List.range 1).map<|iZ RgE) 0 (cW (eP f).X f.w.heap.size W) a' (Nh<|l0 m J f.w.heap.size) ⟨(Nh<|l0 m J f.w.heap.size).set 6<|.lit<|.bool false,[]⟩ (by kernel_rfl) (OI<|by kernel_rfl) F.sim F.tr (ZG _) rfl ?_;intro a6 c6 e6 n2 hs6 f2 d6;have v2:=(aAB m J f.w.heap.size).set (v:=.lit<|.bool false) (k:=6) rfl;have l66:=F.ops io n2 v2 f2 rfl rfl rfl;let⟨u,U,Q⟩:=f2.2 6 _<|sV v2 rfl<|by decide
  exact wp_ret<|w2 c6.w a6 false l66 (j2.trans (sS n2 λ_=>rfl).of) (by rw[U,Q.lit_inv]) (d6.trans hd) B.symm
 rcases RJ r3 with⟨rfl,rfl⟩ | rfl
 .cases u2;refine OX (o:=iZ Rg2 2) (w':=f.w.alloc<|.mapIter none 0 #[] 0) (v:=.pointer<|some ⟨f.w.heap.size,0,none⟩) (by kernel_rfl) (by kernel_rfl) (by simp[execOp,w3,i1,run_range_nilMap (P:=PP) f.w 147 3 3 n3]) ?_;rw[m2];have F:=R<|.mapIter none 0 #[] 0;have j3:=run_next_nilMap (P:=PP) f.w (iZ Rg3 0).type 0 0 #[];have S:DX (some f.w.heap.size) f.w<|f.w.alloc<|.mapIter none 0 #[] 0:=(UW _ _).of;generalize f.w.alloc (.mapIter none 0 #[] 0)=W at F j3 S |-;generalize b4.put (some 14) (.pointer<|some ⟨f.w.heap.size,0,none⟩)=a5 at F N |-;show (Code.block 0<|.loop BD).wp PP _ a5 W;refine WJ ?_;refine XA 1 ?_;rw[rounds_succ,aPE];refine Xk ?_;refine Xc ?_;show wpOps PP (fG Rg3) _ [0,1] a5 W;rw[Y3];have ho3:(iZ Rg3 0).op=.next (.tmp 14) false:=by kernel_rfl
  have hd3:(iZ Rg3 0).dst=some 15:=by kernel_rfl
  have o2:a5.eval (.tmp 14)=.pointer (some ⟨f.w.heap.size,0,none⟩):=by simp[Act.eval,Yf,F.t14]
  refine OX (o:=iZ Rg3 0) (v:=.tuple #[.bool false]) (w':=W) (by kernel_rfl) (by kernel_rfl) (by simp[execOp,ho3,o2,j3]) ?_;have D:=TR.put (d:=some 15) F.tr<|Kj (c:=cW (eP f).X f.w.heap.size W) [.bool false];have O:At 30 ((15,.tup [.lit<|.bool false])::l0 m J f.w.heap.size)<|iY (Nh<|l0 m J f.w.heap.size) (some 15)<|.tup<|[.bool false].map .lit:=(aAB m J _).set rfl;rw[hd3,Y3];have k3:(a5.put (some 15)<|.tuple #[.bool false]).defers=a5.defers:=jC _ _ _;generalize a5.put (some 15) (.tuple #[.bool false])=a1 at D k3 |-;generalize iY (Nh<|l0 m J f.w.heap.size) (some 15) (.tup<|[.bool false].map .lit)=tm1 at D O;refine lF (fl:=0) (c:=cW (eP f).X f.w.heap.size W) (o:=iZ Rg3 1) (ao:=o1 16<|.extract (tp 15) 0) (st':=⟨tm1.set 16<|.lit<|.bool false,[]⟩) G I F.sim D (ZG _) (by kernel_rfl) (by kernel_rfl) (by simp only[cS,fC,aO,O.get (k:=15) rfl];rfl) ?_;intro a2 m3 e2' s3 hs2' V z2 _;have u3:=O.set (v:=.lit<|.bool false) (k:=16) rfl;have l2:=F.ops io s3 u3 V rfl rfl rfl;show ((Code.seq (.cond (.tmp 16) .skip<|.exit 0) _)).wp PP _ a2 m3.w;refine Xk ?_;refine XJ (B3 V (t:=16)<|sV u3 rfl<|by decide) ?_;refine wp_exit ?_;exact f3 m3.w a2 l2 (S.trans (sS s3 λ_=>rfl).of) (z2.trans<|k3.trans<|N.trans u1) rfl
 .cases u2 with
  | rmp ents E es l M q1 q2 q3 q4 q5 q6=>
  refine OX (o:=iZ Rg2 2) (w':=f.w.alloc<|.mapIter (some E) l #[] l) (v:=.pointer<|some ⟨f.w.heap.size,0,none⟩) (by kernel_rfl) (by kernel_rfl) (by simp[execOp,w3,i1,run_range_map (P:=PP) f.w 147 3 3 E es l n3 q2]) ?_;rw[m2];have F:=R<|.mapIter (some E) l #[] l;have C:=iG q2;have r2:(f.w.alloc<|.mapIter (some E) l #[] l).heap[f.w.heap.size]?=some (.mapIter (some E) l #[] l):=Wq f.w _;have o3:(f.w.alloc<|.mapIter (some E) l #[] l).heap[E]?=some (.map es l):=(heap_alloc_old f.w _ C).trans q2;have S:DX (some f.w.heap.size) f.w<|f.w.alloc<|.mapIter (some E) l #[] l:=(UW _ _).of;have hz:es.size=q.length:=by rw[q3,ZO]
  have v3:∀(i:Nat) (p:Int×Int),q[i]?=some p->∃e,es[i]?=some e/\Ent e p.1 p.2:=by
   intro i p hp;have B:(q.map λe=>(Value.int .i64 e.1,AV.lit<|.int .i64 e.2))[i]?=some (.int .i64 p.1,.lit<|.int .i64 p.2):=by rw[Zk,hp];rfl
   let⟨U,Q⟩:=q5 i _ _ B;have g3:=q6 i _ _ B;refine⟨M i,U,Q,?_⟩;generalize (M i).val=vv at g3;cases g3;rfl
  have hE:∀e∈es.toList,∃p∈q,Ent e p.1 p.2:=by
   intro e he;let⟨i,hi⟩:=Yi.1 he;rw[Z8] at hi;have C:i<q.length:=by
    rcases ZI i q.length with h | h
    .exact h
    .rw[Yb<|by omega] at hi;cases hi
   let⟨e',h1,h2⟩:=v3 i _<|Zb C;rw[hi] at h1;cases h1;exact⟨_,ZP C,h2⟩
  generalize f.w.alloc (.mapIter (some E) l #[] l)=W at F r2 o3 S |-;generalize b4.put (some 14) (.pointer<|some ⟨f.w.heap.size,0,none⟩)=a5 at F N |-;show (Code.block 0<|.loop BD).wp PP _ a5 W;refine WJ ?_;refine XA ((leftOf es #[]).size+1) ?_;refine aAt G I io (W0:=f.w) (ds:=[]) (b:=E) (r:=f.w.heap.size) (by omega) q4 (λe he=>by let⟨p,_,h⟩:=hE e he;exact⟨_,_,h⟩) (λa' W' l1 b1 p3 d1=>?_) (λa' W' e k v he hv hg l1 h1 b1 d1=>?_) _ #[] l W a5 (Wk _) F r2 o3 (Zf _) S (N.trans u1) λx _ B=>by simp at B
  .refine f3 W' a' l1 b1 d1 ?_;cases hh:sdB old m q with
   | false=>rfl
   | true=>
    let⟨p,hp,p2⟩:=(aBv q).1 hh;let⟨i,hi⟩:=Yi.1 hp;let⟨e,h1,h2⟩:=v3 i p hi;rw[p3 e (by rw[<-Z8] at h1;exact Zg h1) p.1 p.2 h2] at p2;cases p2
  .let⟨p,hp,h2⟩:=hE e he;have e1:k=p.1:=by have:=hv.1.symm.trans h2.1;cases this;rfl
   have e2:v=p.2:=by have:=hv.2.symm.trans h2.2;cases this;rfl
   subst e1 e2;exact w2 W' a' true l1 b1 h1 d1 ((aBv q).2 ⟨p,hp,hg⟩).symm
end
section
open Go.Proofs Go.RowKit Go.Shelf Go.Sort
theorem mixed: PP.follows .mixedOrders=true:=by kernel_rfl
def rl: List Nat->Nat->Nat
 | a::b::r,n=>match Nat.beq a n with
  | true=>b
  | false=>rl r n
 | _,n=>n
theorem sU{P:Program}{f:FuncId}{B:Func} (h:((((P.funcs[f]?).map (·.name)).getD "")== "runtime.NumGoroutine")=false) (k:P.funcs[f]?=some {B with name:=((P.funcs[f]?).map (·.name)).getD ""}):Bears P f B:=⟨_,h,k⟩
def aNF: Ren:=⟨(rl [6,183,15,76,14,216,28,122,29,123,20,253,21,254,22,255,23,256,24,257,25,258,26,259,27,260,46,288,47,155,48,156,49,289,50,290,57,300]),(rl [22,180,24,185,25,226,39,116,53,160,55,162,46,154,45,153,50,137,66,196,70,200,76,230,77,231]),id⟩
theorem aKO: SlLaysF0.n6 PP aNF:=by
 constructor<;>first | kernel_rfl | exact λ_=>by kernel_rfl | exact sU (by kernel_rfl) (by kernel_rfl)
def aNE: Ren:=⟨(rl [6,205,15,76,14,243,28,122,29,123,20,276,21,277,22,278,23,279,24,280,25,281,26,282,27,283,46,295,47,155,48,156,49,296,50,297,57,302]),(rl [22,241,24,247,25,248,39,116,53,160,55,162,46,154,45,153,50,137,66,196,70,200,76,230,77,231]),id⟩
theorem aKN: SlLaysF0.n6 PP aNE:=by
 constructor<;>first | kernel_rfl | exact λ_=>by kernel_rfl | exact sU (by kernel_rfl) (by kernel_rfl)
def aNI: Ren:=⟨(rl [6,179,15,76,14,215,28,122,29,123,20,245,21,246,22,247,23,248,24,249,25,250,26,251,27,252,46,285,47,155,48,156,49,286,50,287,57,299]),(rl [22,127,24,211,25,224,39,116,53,160,55,162,46,154,45,153,50,137,66,196,70,200,76,230,77,231]),id⟩
theorem aKR: SlLaysF0.n6 PP aNI:=by
 constructor<;>first | kernel_rfl | exact λ_=>by kernel_rfl | exact sU (by kernel_rfl) (by kernel_rfl)
def aHm: Ren:=⟨(rl [6,193,15,76,14,226,28,122,29,123,20,264,21,265,22,266,23,267,24,268,25,269,26,270,27,271,46,291,47,155,48,156,49,292,50,293,57,301]),(rl [22,24,24,3,25,81,39,116,53,160,55,162,46,154,45,153,50,137,66,196,70,200,76,230,77,231]),id⟩
theorem aQK: SlLaysF.n6 PP aHm:=by
 constructor<;>first | kernel_rfl | exact λ_=>by kernel_rfl | exact sU (by kernel_rfl) (by kernel_rfl)
def aKM: Ren:=⟨(rl [189,162,125,76,257,196,128,122,129,123,294,230,295,231,296,232,297,233,298,234,299,235,216,219,300,236,301,237,328,272,329,155,330,156,331,273,332,274,215,77,343,294]),(rl [28,24,46,116,51,160,53,162,183,154,182,153,131,137,218,196,222,200,228,230,229,231]),id⟩
theorem aHl: Lays.n189 PP aKM:=by
 constructor<;>first | kernel_rfl | exact λ_=>by kernel_rfl
def aKP: Ren:=⟨(rl [144,127,143,159,219,191,217,222,225,223,267,225,266,262,314,263]),(rl [46,116,146,286,51,160]),id⟩
theorem aNG: Lays.n144 PP aKP:=by
 constructor<;>first | kernel_rfl | exact λ_=>by kernel_rfl
def aNH: Ren:=⟨(rl [6,34,15,76,14,75,28,122,29,123,20,114,21,115,22,116,23,117,24,118,25,119,26,120,27,121,46,154,47,155,48,156,49,157,50,158,57,190]),(rl [22,51,24,54,25,82,39,116,53,160,55,162,46,154,45,153,50,137,66,196,70,200,76,230,77,231]),id⟩
theorem aKQ: SlLaysF0.n6 PP aNH:=by
 constructor<;>first | kernel_rfl | exact λ_=>by kernel_rfl | exact sU (by kernel_rfl) (by kernel_rfl)
def aSD: Ren:=⟨rl [22,97,29,135,30,136],rl [24,22,9,73],id⟩
theorem aQ8: aEK PP aSD 3 #[.int .i64 0,.int .i64 0,.int .i64 0] 24:=by
 constructor<;>first | kernel_rfl | exact λ_=>by kernel_rfl | exact sU (by kernel_rfl) (by kernel_rfl) | decide | exact λargs w=>run_callFunc_extern Tryz.func135 (by kernel_rfl) (by kernel_rfl) (by kernel_rfl) (e:=Extern.SlicesOverlaps.overlaps #[22,22] #[4]) (by kernel_rfl) args w
def aSE: Ren:=⟨rl [22,106,29,151,30,152],rl [24,27,9,69],id⟩
theorem aQV: aEK PP aSE 5 #[.int .i64 0,.int .i64 0,.int .i64 0,.string ⟨#[]⟩,.slice none 0 0] 64:=by
 constructor<;>first | kernel_rfl | exact λ_=>by kernel_rfl | exact sU (by kernel_rfl) (by kernel_rfl) | decide | exact λargs w=>run_callFunc_extern Tryz.func151 (by kernel_rfl) (by kernel_rfl) (by kernel_rfl) (e:=Extern.SlicesOverlaps.overlaps #[27,27] #[4]) (by kernel_rfl) args w
def aSF: Ren:=⟨rl [22,137,29,170,30,171],rl [24,23,9,48],id⟩
theorem aR1: aEK PP aSF 6 #[.int .i64 0,.int .i64 0,.int .i64 0,.slice none 0 0,.int .i64 0,.int .i64 0] 64:=by
 constructor<;>first | kernel_rfl | exact λ_=>by kernel_rfl | exact sU (by kernel_rfl) (by kernel_rfl) | decide | exact λargs w=>run_callFunc_extern Tryz.func170 (by kernel_rfl) (by kernel_rfl) (by kernel_rfl) (e:=Extern.SlicesOverlaps.overlaps #[23,23] #[4]) (by kernel_rfl) args w
theorem RZ: pV PP T:=aEg checked
theorem aME: P3 PP 162:=λblk off cap zs w h1 h2 h3=>Any.slices_Sort_int aHl blk off cap zs w h1 h2 h3
theorem aJ7: c9 PP 162:=λp cap w=>Any.slices_Sort_int_none aHl p cap w
theorem aMY: Fi PP true 183 4:=Di aKO Tryz.isAgg185 Tryz.sizeOf185
theorem aKa: Cw PP 183:=vG aKO
theorem aMQ: Fi PP true 205 2:=Di aKN Tryz.isAgg247 Tryz.sizeOf247
theorem aJK: Cw PP 205:=vG aKN
theorem aO5: Fi PP true 179 4:=Di aKR Tryz.isAgg211 Tryz.sizeOf211
theorem aLT: Cw PP 179:=vG aKR
theorem aOq: Fi PP true 34 2:=Di aKQ Tryz.isAgg54 Tryz.sizeOf54
theorem aLI: Cw PP 34:=vG aKQ
theorem aNR: Fi PP false 193 1:=aCZ aQK
theorem aLc: Cw PP 193:=vG (ρ:=aHm) (by constructor<;>first | kernel_rfl | exact λ_=>by kernel_rfl | exact sU (by kernel_rfl) (by kernel_rfl))
variable {H H':aU}{args:List AV}{c:dF}{cf:CF}{f fl m:Nat}{r:AV}{s vi:Nat}{vs:Array Value}
theorem aJB(hl:fl<=m/\m<=H.length)(h:Hb fl args H=some (r,H')): H'.take fl=H.take fl/\m<=H'.length:=by
 rcases PN h with⟨x,rfl,he,rfl,rfl⟩ | ⟨id,l,rfl,hne,hfl,hob,hbig,rfl,rfl⟩
 .exact⟨rfl,hl.2⟩
 .refine⟨?_,by rw[Yr];exact hl.2⟩
  apply Ym
  intro i
  rw[Zs,Zs]
  split
  .rw[Zv (by omega)]
  .rfl
theorem aBW(hl:fl<=m/\m<=H.length)(h:Pu s fl args H=some (r,H')): H'.take fl=H.take fl/\m<=H'.length:=by
 obtain⟨id,id2,i,es,row,_,h1,h2,h3,h4,h5,h6,h7,rfl⟩:=I3 h
 exact⟨X6 h1,by simpa using hl.2⟩
theorem aAP(h:Rd fl args H=some (r,H')):
 ∃s t:ByteArray,args=[.lit (.string s),.lit (.string t)]/\s.size<4294967281/\r=.lit (.bool (Lib.contains s.data.toList t.data.toList))/\H'=H:=by
 unfold Rd at h
 repeat' split at h
 all_goals first
  | (cases h;done)
  | skip
 rename_i hb
 cases h
 exact⟨_,_,rfl,Zj hb,rfl,rfl⟩
section
theorem aLG(h:Rd fl args c.H=some (r,H'))(hs:bY (aK T) c)(hargs:nF (aK T) c args vs): Calls PP 127 vs c.w λe w'=>∃v c',e=.returned v/\c'.w=w'/\c'.H=H'/\c'.X=c.X/\bW fl c c'/\bY (aK T) c'/\RV (aK T) c' r v:=by
 obtain⟨s,t,rfl,hsz,rfl,rfl⟩:=aAP h
 have hv:vs=#[.string s,.string t]:=by
  obtain⟨h1,h2⟩:=hargs
  obtain⟨v0,g0,k0⟩:=h2 0 _ rfl
  obtain⟨v1,g1,k1⟩:=h2 1 _ rfl
  have e0:=k0.lit_inv
  have e1:=k1.lit_inv
  subst e0 e1
  apply XQ
  .simpa using h1
  .intro i hi1 hi2
   have hi3:i<2:=by simpa using hi2
   match i,hi3 with
   | 0,_=>exact ZR ((Z6 hi1).symm.trans g0)
   | 1,_=>exact ZR ((Z6 hi1).symm.trans g1)
 subst hv
 obtain⟨cc,t',fz,vals,_,hheap,hok,_,_⟩:=hs.gl 1 [.undef] rfl
 obtain⟨m,hm⟩:=hok rfl
 have hcell:c.w.cell? ⟨1,0,none⟩=some (.int .i64 m):=by simp[World.cell?,hheap,hm]
 exact (Any.strings_Contains aNG s t m c.w hsz hcell).mono λe w' ⟨he,hw⟩=>⟨_,c,he,hw.symm,rfl,rfl,bW.refl fl c,hs,.lit _⟩
theorem aBV{zb g:Nat}{ρ:Ren}{zs:Array Value}(L:aEK PP ρ s zs zb)(hg:ρ.f 22=g)(hz:zb<=100000)(h:Pu s fl args c.H=some (r,H'))(hs:bY (aK T) c)(hargs:nF (aK T) c args vs): Calls PP g vs c.w λe w'=>∃v c',e=.returned v/\c'.w=w'/\c'.H=H'/\c'.X=c.X/\bW fl c c'/\bY (aK T) c'/\RV (aK T) c' r v:=by
 obtain⟨id,id2,i,es,row,rfl,h1,h2,h3,h4,h5,h6,rfl,rfl⟩:=I3 h
 subst hg
 exact (aQP L hz hs h1 h2 h3 h4 h5 h6 hargs).mono λe w' ⟨v,he,c',k1,k2,k3,k4,k5,k6⟩=>⟨v,c',he,k1,k2,k3,k4,k5,k6⟩
theorem aJ2(hcf:De PP T cf)(h:sdA cf 196 args c.H=some (r,H'))(hs:bY (aK T) c)(hargs:nF (aK T) c args vs): Calls PP 61 vs c.w λe w'=>∃v c',e=.returned v/\c'.w=w'/\c'.H=H'/\c'.X=c.X/\bW fl c c'/\bY (aK T) c'/\RV (aK T) c' r v:=by
 obtain⟨a,b,m,old,new,rfl,h1,h2,rfl,rfl⟩:=w8 h
 refine (aEY hcf RZ hs h1 h2 hargs).mono λe w' ⟨he,hb⟩=>?_
 have st:bW 0 (eP c) ⟨w',(eP c).X,λ_=>none,[]⟩:={ X:=rfl,os:=hb.os,tape:=hb.tape,output:=hb.output,drawn:=hb.drawn,size:=hb.size,len:=Zf _,frame:=λk hk _=>hb.frame k hk (by simp),img:=(λid b h=>by cases h),blkS:=(λid s n h=>by cases h),mpS:=(λid ⟨o,h,_⟩=>by cases h),floor:=λid h=>absurd h (YE _) }
 exact⟨_,pW c ⟨w',(eP c).X,λ_=>none,[]⟩,he,rfl,rfl,rfl,yU hs st,Jo hs st,.lit _⟩
end
theorem aAv(h:Mj cf fl vi args H=some (r,H')): (vi=55/\sdA cf 196 args H=some (r,H'))\/(vi=89/\Pu 3 fl args H=some (r,H'))\/(vi=98/\Pu 5 fl args H=some (r,H'))\/(vi=119/\Pu 6 fl args H=some (r,H'))\/(vi=110/\Rd fl args H=some (r,H'))\/(vi=148/\vH cf true 4 fl args H=some (r,H'))\/(vi=163/\vH cf true 2 fl args H=some (r,H'))\/(vi=150/\vH cf true 4 fl args H=some (r,H'))\/(vi=31/\vH cf true 2 fl args H=some (r,H'))\/(vi=156/\vH cf false 1 fl args H=some (r,H'))\/(vi=134/\Hb fl args H=some (r,H')):=by
 unfold Mj at h
 have e:(aF.prim vi:Option aAg)=(match Nat.beq vi 55 with | true=>some (aBn 196) | false=>(match Nat.beq vi 89 with | true=>some (tC (Pu 3)) | false=>(match Nat.beq vi 98 with | true=>some (tC (Pu 5)) | false=>(match Nat.beq vi 119 with | true=>some (tC (Pu 6)) | false=>(match Nat.beq vi 110 with | true=>some (tC Rd) | false=>(match Nat.beq vi 148 with | true=>some (tP true 4) | false=>(match Nat.beq vi 163 with | true=>some (tP true 2) | false=>(match Nat.beq vi 150 with | true=>some (tP true 4) | false=>(match Nat.beq vi 31 with | true=>some (tP true 2) | false=>(match Nat.beq vi 156 with | true=>some (tP false 1) | false=>(match Nat.beq vi 134 with | true=>some (tC Hb) | false=>none))))))))))):=rfl
 rw[e] at h
 cases hb0:Nat.beq vi 55 with
 | true=>rw[hb0] at h;exact .inl ⟨Zc hb0,h⟩
 | false=>
  rw[hb0] at h
  cases hb1:Nat.beq vi 89 with
  | true=>rw[hb1] at h;exact .inr (.inl ⟨Zc hb1,h⟩)
  | false=>
   rw[hb1] at h
   cases hb2:Nat.beq vi 98 with
   | true=>rw[hb2] at h;exact .inr (.inr (.inl ⟨Zc hb2,h⟩))
   | false=>
    rw[hb2] at h
    cases hb3:Nat.beq vi 119 with
    | true=>rw[hb3] at h;exact .inr (.inr (.inr (.inl ⟨Zc hb3,h⟩)))
    | false=>
     rw[hb3] at h
     cases hb4:Nat.beq vi 110 with
     | true=>rw[hb4] at h;exact .inr (.inr (.inr (.inr (.inl ⟨Zc hb4,h⟩))))
     | false=>
      rw[hb4] at h
      cases hb5:Nat.beq vi 148 with
      | true=>rw[hb5] at h;exact .inr (.inr (.inr (.inr (.inr (.inl ⟨Zc hb5,h⟩)))))
      | false=>
       rw[hb5] at h
       cases hb6:Nat.beq vi 163 with
       | true=>rw[hb6] at h;exact .inr (.inr (.inr (.inr (.inr (.inr (.inl ⟨Zc hb6,h⟩))))))
       | false=>
        rw[hb6] at h
        cases hb7:Nat.beq vi 150 with
        | true=>rw[hb7] at h;exact .inr (.inr (.inr (.inr (.inr (.inr (.inr (.inl ⟨Zc hb7,h⟩)))))))
        | false=>
         rw[hb7] at h
         cases hb8:Nat.beq vi 31 with
         | true=>rw[hb8] at h;exact .inr (.inr (.inr (.inr (.inr (.inr (.inr (.inr (.inl ⟨Zc hb8,h⟩))))))))
         | false=>
          rw[hb8] at h
          cases hb9:Nat.beq vi 156 with
          | true=>rw[hb9] at h;exact .inr (.inr (.inr (.inr (.inr (.inr (.inr (.inr (.inr (.inl ⟨Zc hb9,h⟩)))))))))
          | false=>
           rw[hb9] at h
           cases hb10:Nat.beq vi 134 with
           | true=>rw[hb10] at h;exact .inr (.inr (.inr (.inr (.inr (.inr (.inr (.inr (.inr (.inr (⟨Zc hb10,h⟩))))))))))
           | false=>
            rw[hb10] at h
            cases h
theorem aNe: aGj PP T where
 fl:=λcf hcf fl m vi args H r H' hle hev=>by
  rcases aAv hev with⟨_,h⟩ | ⟨_,h⟩ | ⟨_,h⟩ | ⟨_,h⟩ | ⟨_,h⟩ | ⟨_,h⟩ | ⟨_,h⟩ | ⟨_,h⟩ | ⟨_,h⟩ | ⟨_,h⟩ | ⟨_,h⟩
  .obtain⟨_,_,_,_,_,_,_,_,_,rfl⟩:=w8 h
   exact⟨rfl,hle.2⟩
  .exact aBW hle h
  .exact aBW hle h
  .exact aBW hle h
  .obtain⟨_,_,_,_,_,rfl⟩:=aAP h
   exact⟨rfl,hle.2⟩
  .exact Hc hle h
  .exact Hc hle h
  .exact Hc hle h
  .exact Hc hle h
  .exact Hc hle h
  .exact aJB hle h
 ok:=λcf hcf fl vi f args r H' c vs hev hf hs hfl hargs=>by
  rcases aAv hev with⟨rfl,h⟩ | ⟨rfl,h⟩ | ⟨rfl,h⟩ | ⟨rfl,h⟩ | ⟨rfl,h⟩ | ⟨rfl,h⟩ | ⟨rfl,h⟩ | ⟨rfl,h⟩ | ⟨rfl,h⟩ | ⟨rfl,h⟩ | ⟨rfl,h⟩
  .obtain rfl:61=f:=ZR ((show aK T 55=some 61 by kernel_rfl).symm.trans hf)
   exact aJ2 hcf h hs hargs
  .obtain rfl:97=f:=ZR ((show aK T 89=some 97 by kernel_rfl).symm.trans hf)
   exact aBV aQ8 rfl (by decide) h hs hargs
  .obtain rfl:106=f:=ZR ((show aK T 98=some 106 by kernel_rfl).symm.trans hf)
   exact aBV aQV rfl (by decide) h hs hargs
  .obtain rfl:137=f:=ZR ((show aK T 119=some 137 by kernel_rfl).symm.trans hf)
   exact aBV aR1 rfl (by decide) h hs hargs
  .obtain rfl:127=f:=ZR ((show aK T 110=some 127 by kernel_rfl).symm.trans hf)
   exact aLG h hs hargs
  .obtain rfl:179=f:=ZR ((show aK T 148=some 179 by kernel_rfl).symm.trans hf)
   exact Om hcf RZ (by simp) aO5 aLT h hs hargs
  .obtain rfl:205=f:=ZR ((show aK T 163=some 205 by kernel_rfl).symm.trans hf)
   exact Om hcf RZ (by simp) aMQ aJK h hs hargs
  .obtain rfl:183=f:=ZR ((show aK T 150=some 183 by kernel_rfl).symm.trans hf)
   exact Om hcf RZ (by simp) aMY aKa h hs hargs
  .obtain rfl:34=f:=ZR ((show aK T 31=some 34 by kernel_rfl).symm.trans hf)
   exact Om hcf RZ (by simp) aOq aLI h hs hargs
  .obtain rfl:193=f:=ZR ((show aK T 156=some 193 by kernel_rfl).symm.trans hf)
   exact Om hcf RZ (by simp) aNR aLc h hs hargs
  .obtain rfl:162=f:=ZR ((show aK T 134=some 162 by kernel_rfl).symm.trans hf)
   exact aJA aME aJ7 h hs hargs
end
section
open Go.Proofs
theorem own: ownKnob PP.godebug=none:=by kernel_rfl
theorem laid: laidOutB PP=true:=by kernel_rfl
def R8: List Value:=aPh (Go.Proofs.YtmlgedgcbfchjaaGreatDoor.Rows.laid_mapsheets_glyph_scripts)
theorem aLl{W:World}(hl:laidMetH Tryz.prog Rows.changesetSingleRow.laid W)(hsh:W.ShapedOpen Tryz.prog): vD (top W):=by
 intro g cs hcs
 match g with
 | 0=>
  obtain rfl:aMT=cs:=ZR hcs
  obtain⟨ps,hv,_,_⟩:laidMet Tryz.prog [("mapsheets/glyph.scripts",Rows.laid_mapsheets_glyph_scripts)] W:=hl
  obtain⟨g,t,cv,fuel,p,q,h1,h2,h3,h4,_,_⟩:=hv
  obtain rfl:0=g:=ZR ((show Tryz.prog.globalNamed "mapsheets/glyph.scripts"=some 0 by kernel_rfl).symm.trans h1)
  obtain rfl:204=t:=ZR ((show (Tryz.prog.globals[0]?).map (·.type)=some 204 by kernel_rfl).symm.trans h2)
  have hcv:cv.toList=R8:=aEX (m:=13) (e:=203) (ta:=21) (tb:=21) (tc:=3) (ka:=.i32) (kb:=.i32) (kc:=.i64) (f0:={ name:= "first",type:=21,offset:=0,embedded:=false,tag:= "",pkgPath:= "mapsheets/glyph",byteOffset:=0 }) (f1:={ name:= "last",type:=21,offset:=1,embedded:=false,tag:= "",pkgPath:= "mapsheets/glyph",byteOffset:=4 }) (f2:={ name:= "script",type:=3,offset:=2,embedded:=false,tag:= "",pkgPath:= "mapsheets/glyph",byteOffset:=8 }) (by kernel_rfl) (by kernel_rfl) (by kernel_rfl) (by kernel_rfl) rfl rfl rfl rfl rfl rfl (by kernel_rfl) (by kernel_rfl) (by kernel_rfl) (by kernel_rfl) (by kernel_rfl) (by kernel_rfl) h4
  have hheap:∃T fz,W.heap[0]?=some (.cells cv T fz):=by
   unfold World.var? at h3
   rw[h1] at h3
   simp only[Z2] at h3
   split at h3
   .rename_i c T fz hb
    cases h3
    exact⟨T,fz,hb⟩
   .cases h3
  obtain⟨T,fz,hheap⟩:=hheap
  have key:∀(j:Nat) (x:AV),aMT[j]?=some x->∃v,R8[j]?=some v/\bC v=true/\x=AV.lit v:=by
   have e:aMT=R8.map AV.lit:=by kernel_rfl
   have hs:R8.all bC=true:=by kernel_rfl
   intro j x hx
   rw[e,Zk,Zq] at hx
   obtain⟨v,h5,rfl⟩:=hx
   exact⟨v,h5,Yl.1 hs v (Zg h5),rfl⟩
  refine⟨cv,T,fz,λj=>(R8[j]?).getD undef,aBl W 0,hheap,(λh=>absurd h (by decide)),?_,?_⟩
  .intro j x hx
   obtain⟨v,k1,k2,_⟩:=key j x hx
   have e:(R8[j]?).getD undef=v:=by rw[k1];rfl
   show cv[0+j]?=some ((R8[j]?).getD undef)/\bC ((R8[j]?).getD undef)=true
   rw[e,Z0,<-Z8,hcv]
   exact⟨k1,k2⟩
  .intro j x hx
   obtain⟨v,k1,_,rfl⟩:=key j x hx
   have e:(R8[j]?).getD undef=v:=by rw[k1];rfl
   show RP _ _ (AV.lit v) ((R8[j]?).getD undef)
   rw[e]
   exact .lit _
 | 1=>
  obtain rfl:[AV.undef]=cs:=ZR hcs
  obtain⟨m,hm⟩:=cell_of_shapedOpen_int (g:=1) (t:=3) (zero:=#[.int .i64 0]) (k:=.i64) hsh (Zl (by kernel_rfl)) (by kernel_rfl) rfl (by kernel_rfl) (by kernel_rfl) (by kernel_rfl)
  obtain⟨c,T,fz,hb,_,hc⟩:=cell?_inv hm
  refine⟨c,T,fz,λ_=>.int .i64 m,aBl W 1,hb,λ_=>⟨m,hc⟩,?_,?_⟩
  .intro j x hx
   cases j with
   | zero=>exact⟨hc,rfl⟩
   | succ j=>simp at hx
  .intro j x hx
   cases j with
   | zero=>
    simp only[Zt,Za] at hx
    subst hx
    exact .undef _
   | succ j=>simp at hx
 | n+2=>cases hcs
theorem cH{a b:Bool}(h:a=true)(k:b=true): (a&&b)=true:=by rw[h,k];rfl
set_option maxHeartbeats 0 in
theorem aIO: joinedFacts Tryz.prog 3 Tryz.f3 Rows.changesetSingleSpec Rows.changesetSingleRow=true:=by
 unfold joinedFacts
 exact cH (cH (cH (cH (cH (cH (cH (cH (cH (cH (cH (cH (cH (cH (cH (cH (cH (cH (cH (cH (cH (cH (cH (cH (cH (cH (cH (cH (cH (cH (cH (by kernel_rfl) (by kernel_rfl)) (by kernel_rfl)) (by kernel_rfl)) (by kernel_rfl)) (by kernel_rfl)) (by kernel_rfl)) (by kernel_rfl)) (by kernel_rfl)) (by kernel_rfl)) (by kernel_rfl)) (by kernel_rfl)) (by kernel_rfl)) (by kernel_rfl)) (by kernel_rfl)) (by kernel_rfl)) (by kernel_rfl)) (by kernel_rfl)) (by kernel_rfl)) (by kernel_rfl)) (by kernel_rfl)) (by kernel_rfl)) (by kernel_rfl)) (by kernel_rfl)) (by kernel_rfl)) (by kernel_rfl)) (by kernel_rfl)) (by kernel_rfl)) (by kernel_rfl)) (by kernel_rfl)) (by kernel_rfl)) (by kernel_rfl)
theorem aTm: Rows.changesetSingleRow.wfByText (OpenSpec.ofChange Rows.changesetSingleSpec)=true:=by kernel_rfl
theorem aTn: Tryz.prog.mainIs=some (true,"8ded7b73e8ce7513124d450069fa2681492d4b9f9d8f53802c389207cfad793a".toList):=by kernel_rfl
theorem aTq: Tryz.prog.funcNamed "mapsheets/mapsheetslaw28.ChangesetSingle"=some 3:=by kernel_rfl
theorem aTo: false=Tryz.prog.looks []:=by kernel_rfl
theorem aNK: Tryz.prog.wantsStandIn 29=false:=by kernel_rfl
theorem aNJ: Tryz.prog.wantsStandIn 34=false:=by kernel_rfl
theorem aTp: false=Rows.changesetSingleRow.goesBy Tryz.prog:=by kernel_rfl
end
section
variable {R:Type}(n:Nat)
noncomputable section
def OV(n:Nat): (aM×Int)->((Bool->Option R)×Unit)->Unit->Option R:=λ(a,b) (c,_) _=>cd ((ln a.Nodes) > b) (c true)<|cd ((ln a.Arcs) > b) (c true)<|cd ((ln a.Faces) > b) (c true)<|c false
def Q0:=fR OV
def aCA: Lc 25 0 0:=bG 0x14fcf0dd68c7b731bb93e5c2fd1 C0 [] [] @OV
def OU(n:Nat): (aM×Int×Int×Int)->((Bool->Option R)×Unit)->Unit->Option R:=λ(a,b,c,d) (f,_) _=>cd (d<(ln a.Arcs)) (cd (c<=b) (f true)<|f false)<|f false
def P9:=fR OU
def aC9: Lc 25 0 2:=bG 0x3d9babb8f3cd88290c5d23f5e2642fb3fb4 C0 [] [] @OU
def Lx: (aM×Int)->((Int×Int)->Option R)->((Int->Option R)×Unit)->(Int×Int)->Option R:=λ(a,b) c (d,_) (f,g)=>bnd (P9 n (a,b,f,g)) λh=>cnd h (bnd (idx a.Arcs g) λi=>c ((wr<|f+(Gc (ln i.Via)<|wr<|b+1)),(wr<|g+1)))<|d f
def aGi:=oH Lx
def aCB: Lc 25 0 1:=bE 0x19711c51f6048a72797fb7d49b4 C0 [⟨0,[cs aC9]⟩] [] @Lx
def aCC: Nat->aM->Int->Option Bool
 | 0,_,_=>none
 | n+1,a,b=>bnd (Q0 n (a,b)) λc=>cnd c (some false)<|bnd (aGi n (a,b) (0,0)) λd=>cd (d<=b) (some true)<|some false
def aJb: Kn:=bJ 25 0x795753 C0 [⟨0,[aCA]⟩,⟨1,[aCB]⟩] [] aCC
abbrev C1:=aJb::C0
def OR: (aJ×Int)->((Bool->Option R)×Unit)->Unit->Option R:=λ(a,b) (c,_) _=>bnd (aCC n a.Plan b) λd=>cnd d (cd ((ln a.Features) > b) (c true)<|c false)<|c true
def P7:=fR OR
def aC7: Lc 7 0 0:=bG 0x10509f3c1c71b405eb28e19260e3d1 C1 [] [] @OR
def OQ(n:Nat): (aJ×Int×Int×Int)->((Bool->Option R)×Unit)->Unit->Option R:=λ(a,b,c,d) (f,_) _=>cd (d<(ln a.Features)) (cd (c<=b) (f true)<|f false)<|f false
def P6:=fR OQ
def aC6: Lc 7 0 2:=bG 0x2fe4027cc584c4d7d566d74f261e6602b58a74 C1 [] [] @OQ
def Lw: (aJ×Int)->((Int×Int)->Option R)->((Int->Option R)×Unit)->(Int×Int)->Option R:=λ(a,b) c (d,_) (f,g)=>bnd (P6 n (a,b,f,g)) λh=>cnd h (bnd (idx a.Features g) λi=>c ((wr<|f+(Gc (ln i.Parts)<|wr<|b+1)),(wr<|g+1)))<|d f
def aGg:=oH Lw
def aC8: Lc 7 0 1:=bE 0x13c6ed03b63d879efc7244e411ea74 C1 [⟨0,[cs aC6]⟩] [] @Lw
def A5: Nat->aJ->Int->Option Bool
 | 0,_,_=>none
 | n+1,a,b=>bnd (P7 n (a,b)) λc=>cnd c (some false)<|bnd (aGg n (a,b) (0,0)) λd=>cd (d<=b) (some true)<|some false
def aJa: Kn:=bJ 7 0x7956e5 C1 [⟨0,[aC7]⟩,⟨1,[aC8]⟩] [] A5
abbrev C2:=aJa::C1
def Lt: Nat->aJ->aJ->Option Bool
 | 0,_,_=>none
 | n+1,a,b=>bnd (A5 n a 40) λc=>cnd c (bnd (A5 n b 40) λd=>cnd d (some true)<|some false)<|some false
def aIY: Kn:=bJ 1 0x35dae54ec C2 [] [] Lt
abbrev C3:=aIY::C2
def wB: Nat->Option aJ
 | 0=>none
 | n+1=>some<|aJ.mk (aM.mk [(Aab.mk 1<|Aaa.mk 0 0)] [(aP.mk 1 1 1 [(Aaa.mk 10 0),(Aaa.mk 10 10),(Aaa.mk 0 10)] 1 0)] [1]) []
def V7: Kn:=bJ 8 0x77ed32100afb9f274c5a4b5310 C3 [] [] wB
abbrev C4:=V7::C3
def kA(n:Nat): (List Aab×Int)->((List Int×Int)->Option R)->(((List Int)->Option R)×Unit)->(List Int×Int)->Option R:=λ(a,b) c (d,_) (f,g)=>cd (g<b) (bnd (idx a g) λh=>bnd (app f [h.ID]) λi=>c (i,(wr<|g+1)))<|d f
def BA:=oH kA
def Np: Lc 141 0 0:=bE 0xd181c4527f0299c95b4ffdd7b8e2bf6c32b02b235954570d0c493ee77d C4 [] [] @kA
def jZ(n:Nat): (List aP×Int)->((List Int×Int)->Option R)->(((List Int)->Option R)×Unit)->(List Int×Int)->Option R:=λ(a,b) c (d,_) (f,g)=>cd (g<b) (bnd (idx a g) λh=>bnd (app f [h.ID]) λi=>c (i,(wr<|g+1)))<|d f
def AZ:=oH jZ
def Nn: Lc 141 0 1:=bE 0x4332fa3d1925d992cc3ccefea95643ff65d187be39bb8ac2129bd3f1722b29d026297e6b8 C4 [] [] @jZ
def tZ: Nat->aM->Option (List Int×List Int)
 | 0,_=>none
 | n+1,a=>bnd (BA n (a.Nodes,(ln a.Nodes)) ([],0)) λb=>bnd (AZ n (a.Arcs,(ln a.Arcs)) ([],0)) λc=>some (b,c)
def FI: Kn:=bJ 141 0x297c3d2b8c3e69d2f120c86c653d3 C4 [⟨0,[Np]⟩,⟨1,[Nn]⟩] [] tZ
abbrev C5:=FI::C4
def gZ(n:Nat): (List Int)->(Int->Option R)->((Unit->Option R)×(Unit->Option R)×Unit)->Int->Option R:=λa b (c,d,_) f=>cd (f<(ln a)) (bnd (idx a<|wr<|f-1) λg=>bnd (idx a f) λh=>cd (g>=h) (c ())<|b<|wr<|f+1)<|d ()
def Ds:=qP gZ
def BI: Lc 142 0 0:=bE 0x1a983dfb044801025a762 C5 [] [] @gZ
def lD: Nat->(List Int)->Option Bool
 | 0,_=>none
 | n+1,a=>bnd2 (Ds n a 1) (λ_=>some false) λb=>bnd (some b) λ_=>some true
def QZ: Kn:=bJ 142 0x31725f C5 [⟨0,[BI]⟩] [] lD
abbrev C6:=QZ::C5
def tY: Nat->Int->Option Bool
 | 0,_=>none
 | n+1,a=>cd (a<1) (some true)<|cd (a > 1073741824) (some true)<|some false
def FE: Kn:=bJ 160 0xc17 C6 [] [] tY
abbrev C7:=FE::C6
def oT: (List Int×Int)->(Int->Option R)->((Int->Option R)×(Unit->Option R)×Unit)->Int->Option R:=λ(a,b) c (d,f,_) g=>cd (g<b) (bnd (idx a g) λh=>bnd (tY n h) λi=>cnd i (d g)<|c<|wr<|g+1)<|f ()
def QV:=qP oT
def FF: Lc 108 0 0:=bE 0xce51f0b94390b6bb354d3328bf C7 [] [] @oT
def zP: (List Int)->((Int->Option R)×Unit)->Unit->Option R:=λa (b,_) _=>bnd2 (QV n (a,(ln a)) 0) (λc=>b c) λd=>bnd (some d) λ_=>b (-1)
def QW:=qR zP
def FG: Ic:=bP 108 0 2 0xb19a692a494a2edd9b9b329 C7 [⟨0,[FF]⟩] [] @zP
def zQ: (List Int)->((Bool->Option R)×Unit)->Unit->Option R:=λa (b,_) _=>bnd (QW n a) λc=>cd (c>=0) (b true)<|b false
def QX:=qR zQ
def FH: Ic:=bP 76 0 2 0x235ef320f249233b9b329 C7 [] [FG] @zQ
def oG: Nat->(List Int)->Option Bool
 | 0,_=>none
 | n+1,a=>bnd (QX n a) λb=>cnd b (some false)<|some true
def l6: Kn:=bJ 143 0x31725f C7 [] [FH] oG
abbrev C8:=l6::C7
def nL(n:Nat): Aaa->((Bool->Option R)×Unit)->Unit->Option R:=λa (b,_) _=>cd (a.X<(-1048576)) (b true)<|cd (a.X > 1048576) (b true)<|cd (a.Y<(-1048576)) (b true)<|cd (a.Y > 1048576) (b true)<|b false
def qM:=fR nL
def AY: Lc 161 0 0:=bG 0x605f058c6 C8 [] [] @nL
def zO: Nat->Aaa->Option Bool
 | 0,_=>none
 | n+1,a=>bnd (qM n a) λb=>cnd b (some true)<|some false
def QN: Kn:=bJ 161 0x266b1a64f C8 [⟨0,[AY]⟩] [] zO
abbrev C9:=QN::C8
def QO: Lc 161 0 0:=bG 0xa8c043a7b495043ec5562a8 C9 [] [] @nL
def Hm: Aaa->((Bool->Option R)×Unit)->Unit->Option R:=λa (b,_) _=>bnd (qM n a) λc=>cnd c (b true)<|b false
def F2:=qR Hm
def QU: Ic:=bP 161 0 1 0xb1ab6aeb15f6493acd87578 C9 [⟨0,[QO]⟩] [] @Hm
def tX: (List Aab×Int)->(Int->Option R)->(((Aab×Aaa)->Option R)×(Unit->Option R)×Unit)->Int->Option R:=λ(a,b) c (d,f,_) g=>cd (g<b) (bnd (idx a g) λh=>bnd (F2 n h.At) λi=>cnd i (d (h,h.At))<|c<|wr<|g+1)<|f ()
def E9:=qP tX
def QR: Lc 144 0 0:=bE 0x8be2ae251dca1e8c3a10b0bd30b13bf2fc27bb20d8298fefbc49934a4139ec1c84d C9 [] [QU] @tX
def tV: (List Aaa×Int)->(Int->Option R)->((Int->Option R)×(Unit->Option R)×Unit)->Int->Option R:=λ(a,b) c (d,f,_) g=>cd (g<b) (bnd (idx a g) λh=>bnd (zO n h) λi=>cnd i (d g)<|c<|wr<|g+1)<|f ()
def E7:=qP tV
def QP: Lc 107 0 0:=bE 0x4c588c48c7bfc67041ef90c41f24ab3f8f8 C9 [] [] @tV
def Hk: (List Aaa)->((Int->Option R)×Unit)->Unit->Option R:=λa (b,_) _=>bnd2 (E7 n (a,(ln a)) 0) (λc=>b c) λd=>bnd (some d) λ_=>b (-1)
def F0:=qR Hk
def QS: Ic:=bP 107 0 2 0xb19a6a520ac67ba359b7638 C9 [⟨0,[QP]⟩] [] @Hk
def Hl: (List Aaa)->((Bool->Option R)×Unit)->Unit->Option R:=λa (b,_) _=>bnd (F0 n a) λc=>cd (c>=0) (b true)<|b false
def F1:=qR Hl
def QT: Ic:=bP 74 0 2 0x23601ae26e95e8f9b7638 C9 [] [QS] @Hl
def tW: (List aP×Int)->(Int->Option R)->((aP->Option R)×(Unit->Option R)×Unit)->Int->Option R:=λ(a,b) c (d,f,_) g=>cd (g<b) (bnd (idx a g) λh=>bnd (F1 n h.Via) λi=>cnd i (d h)<|c<|wr<|g+1)<|f ()
def E8:=qP tW
def QQ: Lc 144 0 1:=bE 0x1612d0ab76d0069cc7fa018b1aae9e76cc190286942561d C9 [] [QT] @tW
def Ph: Nat->aM->Option Bool
 | 0,_=>none
 | n+1,a=>bnd2 (E9 n (a.Nodes,(ln a.Nodes)) 0) (λ_=>some false) λb=>bnd (some b) λ_=>bnd2 (E8 n (a.Arcs,(ln a.Arcs)) 0) (λ_=>some false) λc=>bnd (some c) λ_=>some true
def S9: Kn:=bJ 144 0x3173da C9 [⟨0,[QR]⟩,⟨1,[QQ]⟩] [] Ph
abbrev C10:=S9::C9
def jW(n:Nat): (List Int×Int×Int)->(Int->Option R)->((Int->Option R)×(Unit->Option R)×Unit)->Int->Option R:=λ(a,b,c) d (f,g,_) h=>cd (h<c) (bnd (idx a h) λi=>cnd (b==i) (f h)<|d<|wr<|h+1)<|g ()
def AJ:=qP jW
def Ni: Lc 131 0 0:=bE 0xce51f0b9438f1113a984b208bf C10 [] [] @jW
def mR: Nat->(List Int)->Int->Option Int
 | 0,_,_=>none
 | n+1,a,b=>bnd2 (AJ n (a,b,(ln a)) 0) (λc=>some c) λd=>bnd (some d) λ_=>some (-1)
def EW: Kn:=bJ 131 0x579fb4 C10 [⟨0,[Ni]⟩] [] mR
abbrev C11:=EW::C10
def dU: Nat->(List Int)->Int->Option Bool
 | 0,_,_=>none
 | n+1,a,b=>bnd (mR n a b) λc=>cd (c>=0) (some true)<|some false
def Nl: Kn:=bJ 104 0x795754 C11 [] [] dU
abbrev C12:=Nl::C11
def nP(n:Nat): (Aab×List Aab×Int)->(Int->Option R)->((Aab->Option R)×(Unit->Option R)×Unit)->Int->Option R:=λ(a,b,c) d (f,g,_) h=>cd (h<c) (bnd (idx b h) λi=>cd (a.At=i.At) (f i)<|d<|wr<|h+1)<|g ()
def LL:=qP nP
def BG: Lc 145 0 1:=bE 0x3aedc8a9943c50f5ca1435f0f50fca112c5b9dbf6e94dfa5c22115c72c9793cab3de641968c4 C12 [] [] @nP
def nQ: (aM×List Aab×Int)->(Int->Option R)->(((Aab×Aab)->Option R)×(Unit->Option R)×Unit)->Int->Option R:=λ(a,b,c) d (f,g,_) h=>cd (h<c) (bnd (idx b h) λi=>bnd (cut a.Nodes 0 h) λj=>bnd2 (LL n (i,j,(ln j)) 0) (λl=>f (i,l)) λm=>bnd (some m) λ_=>d<|wr<|h+1)<|g ()
def LM:=qP nQ
def BH: Lc 145 0 0:=bE 0x129ce4fd3df58c9be99124e900eba87c009fb17d722797dbeecb82b464d C12 [⟨0,[cs BG]⟩] [] @nQ
def wW: (aP×List Int)->((Bool->Option R)×Unit)->Unit->Option R:=λ(a,b) (c,_) _=>bnd (dU n b a.From) λd=>cnd d (bnd (dU n b a.To) λf=>cnd f (c false)<|c true)<|c true
def Dr:=fR wW
def BC: Lc 145 0 3:=bG 0x19c83d8f5f69b566fa826f59960038cece0bb84907ffd946c4 C12 [] [] @wW
def nN: (List Int×List aP×Int)->(Int->Option R)->((aP->Option R)×(Unit->Option R)×Unit)->Int->Option R:=λ(a,b,c) d (f,g,_) h=>cd (h<c) (bnd (idx b h) λi=>bnd (Dr n (i,a)) λj=>cnd j (f i)<|d<|wr<|h+1)<|g ()
def LK:=qP nN
def BF: Lc 145 0 2:=bE 0x1f7f500dc31f98461368e31d587007bcf83dd421a902921494 C12 [⟨0,[cs BC]⟩] [] @nN
def wV: (aM×Int)->((Bool->Option R)×Unit)->Unit->Option R:=λ(a,b) (c,_) _=>cnd (b != 0) (bnd (dU n a.Faces b) λd=>cnd d (c false)<|c true)<|c false
def qN:=fR wV
def BB: Lc 145 0 6:=bG 0x157897e36ccd421d2bafad08fefc9b0245f5c184d3f37782364a0429 C12 [] [] @wV
def nM: (aM×List aP×Int)->(Int->Option R)->((aP->Option R)×(Unit->Option R)×Unit)->Int->Option R:=λ(a,b,c) d (f,g,_) h=>cd (h<c) (bnd (idx b h) λi=>bnd (Nq<|Nat.ble 3 n) λ_=>bnd (qN n (a,i.Left)) λj=>cnd j (f i)<|bnd (qN n (a,i.Right)) λl=>cnd l (f i)<|d<|wr<|h+1)<|g ()
def LJ:=qP nM
def BE: Lc 145 0 4:=bE 0x71b7d8c11c06252d90c00280b16ae1555935a7f0cdb4059fc32fe73abd C12 [⟨1,[cs BB]⟩] [] @nM
def zR: Nat->aM->(List Int)->Option Int
 | 0,_,_=>none
 | n+1,a,b=>bnd2 (LM n (a,a.Nodes,(ln a.Nodes)) 0) (λ_=>some 8) λc=>bnd (some c) λ_=>bnd2 (LK n (b,a.Arcs,(ln a.Arcs)) 0) (λ_=>some 7) λd=>bnd (some d) λ_=>bnd2 (LJ n (a,a.Arcs,(ln a.Arcs)) 0) (λ_=>some 12) λf=>bnd (some f) λ_=>some 0
def QY: Kn:=bJ 145 0x2a163b8e0 C12 [⟨0,[BH]⟩,⟨2,[BF]⟩,⟨4,[BE]⟩] [] zR
abbrev C13:=QY::C12
def aRD: Kn:=aRq 26 1 11 ⟨_,_,_,rfl,by decide,by decide⟩ (λn p=>clF n p) (λp=>p) λn p r h=>by obtain⟨m,h1,h2,h3⟩:=aRs h;subst h2;exact⟨m,h1,rfl,h3,rfl,λe=>by cases (e:_=[]);rfl⟩
abbrev C14:=aRD::C13
def Gb: (Int×List aP×Int)->(Int->Option R)->(((Int×Int×Int×List Aaa×Int×Int×Int×Int×Int×List Aaa×Int×Int)->Option R)×(Unit->Option R)×Unit)->Int->Option R:=λ(a,b,c) d (f,g,_) h=>cd (h<c) (bnd (idx b h) λi=>cnd (i.ID==a) (bnd (clF n i.Via) λj=>f (i.ID,i.From,i.To,j,i.Left,i.Right,i.ID,i.From,i.To,j,i.Left,i.Right))<|d<|wr<|h+1)<|g ()
def aDz:=qP Gb
def T5: Lc 60 0 0:=bE 0x70ae2963e07b686636921b76b1d5d1cb9d4c4af391a93ecc746ededfc0d3a282864f30f459cf471e723a504b661ec7d3 C14 [] [] @Gb
def zU: Nat->aM->Int->Option (aP×Bool)
 | 0,_,_=>none
 | n+1,a,b=>bnd2 (aDz n (b,a.Arcs,(ln a.Arcs)) 0) (λc=>some ((aP.mk c.1 c.2.1 c.2.2.1 c.2.2.2.1 c.2.2.2.2.1 c.2.2.2.2.2.1),true)) λd=>bnd (some d) λ_=>some ((aP.mk 0 0 0 [] 0 0),false)
def aFp: Kn:=bJ 60 0x329a32980943 C14 [⟨0,[T5]⟩] [] zU
abbrev C15:=aFp::C14
def zS(n:Nat): (Int×List Aab×Int)->(Int->Option R)->(((Aab×Aab)->Option R)×(Unit->Option R)×Unit)->Int->Option R:=λ(a,b,c) d (f,g,_) h=>cd (h<c) (bnd (idx b h) λi=>cnd (i.ID==a) (f (i,i))<|d<|wr<|h+1)<|g ()
def aB7:=qP zS
def F7: Lc 59 0 0:=bE 0x43f8203ce38a173112a3fee3ca7d14946bb3760e6594ba952c6eb821da1d0b440049d3 C15 [] [] @zS
def iF: Nat->aM->Int->Option (Aab×Bool)
 | 0,_,_=>none
 | n+1,a,b=>bnd2 (aB7 n (b,a.Nodes,(ln a.Nodes)) 0) (λc=>some (c.1,true)) λd=>bnd (some d) λ_=>some ((Aab.mk 0<|Aaa.mk 0 0),false)
def aDy: Kn:=bJ 59 0x275387ab1f58943 C15 [⟨0,[F7]⟩] [] iF
abbrev C16:=aDy::C15
def KN: Nat->(List Aaa)->Int->Option (List Aaa)
 | 0,_,_=>none
 | n+1,_,a=>cd (a<0) none none
def AK: Kn:=bJ 179 0x14841c41bd8e5f2 C16 [] [] KN
abbrev C17:=AK::C16
def gO(n:Nat): ((List<|List Aaa)×Int)->((Int×Int)->Option R)->((Int->Option R)×Unit)->(Int×Int)->Option R:=λ(a,b) c (d,_) (f,g)=>cd (g<b) (bnd (idx a g) λh=>cd ((wr<|f+(ln h))<0) none<|c ((wr<|f+(ln h)),(wr<|g+1)))<|d f
def Kh:=oH gO
def Fs: Lc 157 0 0:=bE 0x17f146ec3c0d361416fb3edb3c646d562d2 C17 [] [] @gO
def oC(n:Nat): Int->((Unit->Option R)×((List Aaa×(Nat×Nat))->Option R)×Unit)->Unit->Option R:=λa (b,c,_) _=>cd (a<0) none<|cd ((wr<|a-0) > 0) (bnd (rep (Aaa.mk 0 0) (wr<|a-0)<|wr<|a-0) λd=>cnd (List.isEmpty d) (b ())<|bnd (sub d (0,List.length d) 0 0) λf=>c (d,f))<|b ()
def Ki:=BJ oC
def Fu: Ic:=bP 179 0 2 0x349983a73878ca09e263ba2c7b57d2d00de7b1e83e89 C17 [] [] @oC
def oB(n:Nat): ((List<|List Aaa)×Int)->(Int->Option R)->((Unit->Option R)×Unit)->Int->Option R:=λ(a,b) c (d,_) f=>cd (f<b) (bnd (idx a f) λg=>cnd (List.isEmpty g) (c<|wr<|f+1)<|bnd (app ([]:List Aaa) g) λ_=>none)<|d ()
def Kg:=oH oB
def Fq: Lc 157 0 1:=bE 0x570bf05aedde133429fdbe46e74957babf9e43 C17 [] [] @oB
def gN(n:Nat): ((List<|List Aaa)×Int)->((List Aaa×(Nat×Nat)×Int)->Option R)->(((List Aaa×(Nat×Nat))->Option R)×Unit)->(List Aaa×(Nat×Nat)×Int)->Option R:=λ(a,b) c (d,_) (f,g,h)=>cd (h<b) (bnd (idx a h) λi=>bnd (V6 f g i) λj=>c (j,(g.1,g.2+List.length i),(wr<|h+1)))<|d (f,g)
def Kf:=oH gN
def Fp: Lc 157 0 1:=bE 0x2b0abba93c5e1ccf03587d040ed4dcd5049439c002fda1d6f3 C17 [] [] @gN
def nH: Nat->(List<|List Aaa)->Option (List Aaa)
 | 0,_=>none
 | n+1,a=>bnd (Kh n (a,(ln a)) (0,0)) λb=>bnd2 (Ki n b) (λ_=>bnd (Kg n (a,(ln a)) 0) λ_=>some []) λc=>bnd (some c) λd=>bnd (Kf n (a,(ln a)) (d.1,d.2,0)) λf=>some<|win f.1<|some f.2
def Nm: Kn:=bJ 157 0x14841c341b55962 C17 [⟨0,[Fs]⟩,⟨1,[Fq,Fp]⟩] [Fu] nH
abbrev C18:=Nm::C17
def eU(n:Nat): Unit->((Unit->Option R)×Unit)->Unit->Option R:=λ_ (a,_) _=>a ()
def fN:=fR eU
def F6: Lc 136 0 0:=bG 0x99ae470c77eccaef489e57fd8c5beaa26d65c3 C18 [] [] @eU
def F5: Lc 136 0 0:=bG 0x99a8efa20150a52c81bbfc8ded1d1af26d65c3 C18 [] [] @eU
def F4: Lc 136 0 0:=bG 0xfe4affa1adc370fff602e71abb5335c3 C18 [] [] @eU
def F3: Lc 136 0 0:=bG 0x1a4d4d5924f20e021af1a3875e3 C18 [] [] @eU
def yS: Nat->aM->Int->Option (List Aaa×Int)
 | 0,_,_=>none
 | n+1,a,b=>bnd (zU n a b) λc=>cnd c.2 (bnd (iF n a c.1.From) λd=>cnd d.2 (bnd (iF n a c.1.To) λf=>cnd f.2 (bnd (fN n ()) λ_=>bnd (nH n [[d.1.At],c.1.Via,[f.1.At]]) λg=>some (g,0))<|bnd (fN n ()) λ_=>some ([],7))<|bnd (iF n a c.1.To) λh=>cnd h.2 (bnd (fN n ()) λ_=>some ([],7))<|bnd (fN n ()) λ_=>some ([],7))<|bnd (iF n a c.1.From) λi=>cnd i.2 (bnd (iF n a c.1.To) λj=>cnd j.2 (bnd (fN n ()) λ_=>some ([],7))<|bnd (fN n ()) λ_=>some ([],7))<|bnd (iF n a c.1.To) λl=>cnd l.2 (bnd (fN n ()) λ_=>some ([],7))<|bnd (fN n ()) λ_=>some ([],7)
def aDx: Kn:=bJ 136 0x9bceb8e11bef34b8f3cf06c05dc7c201 C18 [⟨0,[F6,F5,F4,F3]⟩] [] yS
abbrev C19:=aDx::C18
def zN(n:Nat): (aP×List Aaa×Int)->((Bool->Option R)×Unit)->Unit->Option R:=λ(a,b,c) (d,_) _=>cnd (c != 0) (d true)<|cnd (a.From==a.To) (cd ((ln b)<4) (d true)<|d false)<|d false
def Hh:=fR zN
def FA: Lc 162 0 1:=bG 0x10b1dcc3dbdd054583269bc686d2d3ac23b873f5593b9b47d750db23228 C19 [] [] @zN
def oR(n:Nat): (List Aaa×aBh×Int)->((List aZ×Int)->Option R)->(((List aZ×List aZ)->Option R)×((List aZ)->Option R)×Unit)->(List aZ×Int)->Option R:=λ(a,b,c) d (f,g,_) (h,i)=>cd (i<c) (bnd (idx a i) λj=>bnd (idx a<|wr<|i+1) λl=>cd (j=l) (f (h,[]))<|bnd (app h [(aZ.mk b i)]) λm=>d (m,(wr<|i+1)))<|g h
def QB:=qP oR
def FB: Lc 162 0 2:=bE 0xfa3b0aefe703f7ad9c49149453c96c4257312261aa7890b7b4cd20e02d83a4589df45252de87959589cd6c05eb7411bafcd0e0ac587f3bc837647af C19 [] [] @oR
def oS: (aM×List aP×Int)->((List aZ×Int)->Option R)->(((List aZ×aP×List aZ)->Option R)×((List aZ×aP×List aZ)->Option R)×((List aZ)->Option R)×Unit)->(List aZ×Int)->Option R:=λ(a,b,c) d (f,g,h,_) (i,j)=>cd (j<c) (bnd (idx b j) λl=>bnd (yS n a l.ID) λm=>bnd (Hh n (l,m.1,m.2)) λo=>cnd o (f (i,l,[]))<|bnd2 (QB n (m.1,(aBh.mk l m.1),(wr<|(ln m.1)-1)) (i,0)) (λr=>g (r.1,l,r.2)) λs=>bnd (some s) λt=>d (t,(wr<|j+1)))<|h i
def QC:=lp3 oS
def FD: Lc 162 0 0:=bE 0x168748345970d5cf778b0016b755e5da5d89edb8676555d2a086ecb11e37755d237c527e4d1c123038609a7e558225cd927a42bf061b1a6b3d3bade598411b221e22101f8796061 C19 [⟨0,[cs FA]⟩,⟨1,[cs FB]⟩] [] @oS
def Fz: Nat->aM->Option (List aZ×Bool)
 | 0,_=>none
 | n+1,a=>bnd2 (QC n (a,a.Arcs,(ln a.Arcs)) ([],0)) (λb=>bnd (Nq true) λ_=>some (b.2.2,false)) λc=>bnd2 (some c) (λd=>bnd (Nq true) λ_=>some (d.2.2,false)) λf=>bnd (some f) λg=>bnd (Nq true) λ_=>some (g,true)
def k9: Kn:=bJ 162 0x28f72a8262cc2812de C19 [⟨0,[FD]⟩] [] Fz
abbrev C20:=k9::C19
def dI: Nat->aZ->Option (Aaa×Aaa)
 | 0,_=>none
 | n+1,a=>bnd (idx a.line.path a.at_) λb=>bnd (idx a.line.path<|wr<|a.at_+1) λc=>some (b,c)
def AW: Kn:=bJ 168 0xbc066a873c2 C20 [] [] dI
abbrev C21:=AW::C20
def gI: Nat->aZ->Option Int
 | 0,_=>none
 | n+1,a=>bnd (dI n a) λb=>some<|Gc b.1.X b.2.X
def AR: Kn:=bJ 165 0x3628d2 C21 [] [] gI
abbrev C22:=AR::C21
def fS: Nat->Int->Option Bool
 | 0,_=>none
 | n+1,a=>cnd (a != a) (some true)<|some false
def u7: Kn:=bJ 105 0xc17 C22 [] [] fS
abbrev C23:=u7::C22
def cE: Nat->Int->Int->Option Int
 | 0,_,_=>none
 | n+1,a,b=>bnd (fS n a) λc=>cnd c (bnd (fS n b) λd=>cnd d (some 0)<|some (-1))<|bnd (fS n b) λf=>cnd f (some 1)<|cd (a<b) (some (-1))<|cd (a > b) (some 1)<|some 0
def NX: Kn:=bJ 69 0x57a3b7 C23 [] [] cE
abbrev C24:=NX::C23
def qL: Nat->aZ->aZ->Option Int
 | 0,_,_=>none
 | n+1,a,b=>bnd (gI n a) λc=>bnd (gI n b) λd=>bnd (cE n c d) λf=>some f
def QD: Kn:=bJ 164 0x54328f503fe2 C24 [] [] qL
abbrev C25:=QD::C24
def qK: Nat->aZ->Option Int
 | 0,_=>none
 | n+1,a=>bnd (dI n a) λb=>some<|uF b.1.X b.2.X
def AX: Kn:=bJ 166 0x3628d2 C25 [] [] qK
abbrev C26:=AX::C25
def Qa(n:Nat): Aaa->((Bool->Option R)×Unit)->Unit->Option R:=λa (b,_) _=>cd (a.X<(-2097152)) (b true)<|cd (a.X > 2097152) (b true)<|cd (a.Y<(-2097152)) (b true)<|cd (a.Y > 2097152) (b true)<|b false
def MG:=fR Qa
def J2: Lc 183 0 1:=bG 0x478f99c4fb20b291b2f05f527711fb8d000 C26 [] [] @Qa
def Ai: (List Aaa×Int)->(Int->Option R)->((Aaa->Option R)×(Unit->Option R)×Unit)->Int->Option R:=λ(a,b) c (d,f,_) g=>cd (g<b) (bnd (idx a g) λh=>bnd (MG n h) λi=>cnd i (d h)<|c<|wr<|g+1)<|f ()
def aCa:=qP Ai
def J3: Lc 183 0 0:=bE 0x7cae5f165e591c3035143499cc20a670 C26 [⟨0,[cs J2]⟩] [] @Ai
def pQ: Nat->(List Aaa)->Option Bool
 | 0,_=>none
 | n+1,a=>bnd2 (aCa n (a,(ln a)) 0) (λ_=>some false) λb=>bnd (some b) λ_=>some true
def aEb: Kn:=bJ 183 0x266e26bd2 C26 [⟨0,[J3]⟩] [] pQ
abbrev C27:=aEb::C26
def gS: Nat->Aaa->Aaa->Aaa->Option Int
 | 0,_,_,_=>none
 | n+1,a,b,c=>some<|wr<|(wr<|(wr<|b.X-a.X)*(wr<|c.Y-a.Y))-(wr<|(wr<|b.Y-a.Y)*(wr<|c.X-a.X))
def aBZ: Kn:=bJ 184 0x7c0646 C27 [] [] gS
abbrev C28:=aBZ::C27
def MI: (Aaa×Aaa×Aaa)->((Bool->Option R)×Unit)->Unit->Option R:=λ(a,b,c) (d,_) _=>bnd (pQ n [a,b,c]) λf=>cnd f (bnd (gS n a b c) λg=>cnd (g != 0) (d true)<|d false)<|d true
def J5:=fR MI
def aCe: Lc 169 0 0:=bG 0xb9af390697ce3da1b67f633627b8fe1d595253fb78ddb825e516baedae026 C28 [] [] @MI
def MH(n:Nat): (Aaa×Aaa×Aaa)->((Bool->Option R)×Unit)->Unit->Option R:=λ(a,b,c) (d,_) _=>cd ((Gc a.X b.X)<=c.X) (cd (c.X<=(uF a.X b.X)) (cd ((Gc a.Y b.Y)<=c.Y) (cd (c.Y<=(uF a.Y b.Y)) (d true)<|d false)<|d false)<|d false)<|d false
def J4:=fR MH
def aCd: Lc 169 0 1:=bG 0x9db4d8c303169b2fed112b91cc1fedae026 C28 [] [] @MH
def uW: Nat->Aaa->Aaa->Aaa->Option Bool
 | 0,_,_,_=>none
 | n+1,a,b,c=>bnd (J5 n (a,b,c)) λd=>cnd d (some false)<|bnd (J4 n (a,b,c)) λf=>cnd f (some true)<|some false
def aIC: Kn:=bJ 169 0x943826 C28 [⟨0,[aCe]⟩,⟨1,[aCd]⟩] [] uW
abbrev C29:=aIC::C28
def FV: Nat->Aaa->Aaa->Aaa->Option Int
 | 0,_,_,_=>none
 | n+1,a,b,c=>bnd (pQ n [a,b,c]) λd=>cnd d (bnd (gS n a b c) λf=>some f)<|some 0
def aCc: Kn:=bJ 194 0x3a4076f323f77e1 C29 [] [] FV
abbrev C30:=aCc::C29
def jT: Nat->Aaa->Aaa->Aaa->Option Int
 | 0,_,_,_=>none
 | n+1,a,b,c=>bnd (FV n a b c) λd=>cd (d > 0) (some 1)<|cd (d<0) (some (-1))<|some 0
def aEc: Kn:=bJ 189 0x7c0646 C30 [] [] jT
abbrev C31:=aEc::C30
def Ib(n:Nat): (Aaa×Aaa)->((Bool->Option R)×Unit)->Unit->Option R:=λ(a,b) (c,_) _=>cd (a.X<b.X) (c true)<|cnd (a.X==b.X) (cd (a.Y<b.Y) (c true)<|c false)<|c false
def Qb:=fR Ib
def RY: Lc 195 0 0:=bG 0x3941a583a43b C31 [] [] @Ib
def pR: Nat->Aaa->Aaa->Option Bool
 | 0,_,_=>none
 | n+1,a,b=>bnd (Qb n (a,b)) λc=>cnd c (some true)<|some false
def U3: Kn:=bJ 195 0x35de763ff C31 [⟨0,[RY]⟩] [] pR
abbrev C32:=U3::C31
def uH: (Aaa×Aaa)->(((Aaa×Aaa)->Option R)×Unit)->Unit->Option R:=λ(a,b) (c,_) _=>bnd (pR n b a) λd=>cnd d (c (b,a))<|c (a,b)
def Ah:=fR uH
def RX: Lc 190 0 0:=bG 0x2e22e43a241a403470b92aaf9e4685ff91d5b36a92dd C32 [] [] @uH
def RW: Lc 190 0 1:=bG 0x41b7743fc7d04ba5c82c60afdda0c55821b24a7453bfd3733151d78 C32 [] [] @uH
def Ia: (Aaa×Aaa)->((Aaa->Option R)×Unit)->Unit->Option R:=λ(a,b) (c,_) _=>bnd (pR n b a) λd=>cnd d (c a)<|c b
def Py:=fR Ia
def RU: Lc 190 0 2:=bG 0x6264184a0fa848863f86c08b8ad9e277bf5e301e557ea21d9f60f952c0374101f83 C32 [] [] @Ia
def Hz: (Aaa×Aaa)->((Aaa->Option R)×Unit)->Unit->Option R:=λ(a,b) (c,_) _=>bnd (pR n a b) λd=>cnd d (c a)<|c b
def Px:=fR Hz
def RT: Lc 190 0 3:=bG 0x12a575076f1293622650aabbc40aa6a80146129e76b78bee6d80277603789b4e2b4afa C32 [] [] @Hz
def Pz: Nat->Aaa->Aaa->Aaa->Aaa->Option Int
 | 0,_,_,_,_=>none
 | n+1,a,b,c,d=>bnd (Ah n (a,b)) λf=>bnd (Ah n (c,d)) λg=>bnd (Py n (g.1,f.1)) λh=>bnd (Px n (g.2,f.2)) λi=>cd (h=i) (some 1)<|bnd (pR n h i) λj=>cnd j (some 2)<|some 0
def U1: Kn:=bJ 190 0x196cc7d0f6219e6 C32 [⟨0,[RX]⟩,⟨1,[RW]⟩,⟨2,[RU]⟩,⟨3,[RT]⟩] [] Pz
abbrev C33:=U1::C32
def Qe: (Aaa×Aaa×Aaa×Aaa)->((Bool->Option R)×Unit)->Unit->Option R:=λ(a,b,c,d) (f,_) _=>bnd (jT n a b c) λg=>cnd (g==0) (bnd (jT n a b d) λh=>cnd (h==0) (f true)<|f false)<|f false
def MK:=fR Qe
def J7: Lc 182 0 0:=bG 0x835534254a594630345da0a11a491e280ca1a2780ea006c1cb94ebedf0 C33 [] [] @Qe
def Qd: (Aaa×Aaa×Aaa×Aaa)->((Bool->Option R)×Unit)->Unit->Option R:=λ(a,b,c,d) (f,_) _=>bnd (jT n a b c) λg=>bnd (jT n a b d) λh=>cd ((wr<|g*h)<=0) (bnd (jT n c d a) λi=>bnd (jT n c d b) λj=>cd ((wr<|i*j)<=0) (f true)<|f false)<|f false
def MJ:=fR Qd
def J6: Lc 182 0 1:=bG 0x4b22e80f1fa6ae416f51f6c2e7ef48798ecb94ebedf0 C33 [] [] @Qd
def AB: Nat->Aaa->Aaa->Aaa->Aaa->Option Int
 | 0,_,_,_,_=>none
 | n+1,a,b,c,d=>bnd (pQ n [a,b,c,d]) λf=>cnd f (cd (a=b) (bnd (uW n c d a) λg=>cnd g (some 1)<|some 0)<|cd (c=d) (bnd (uW n a b c) λh=>cnd h (some 1)<|some 0)<|bnd (MK n (a,b,c,d)) λi=>cnd i (bnd (Pz n a b c d) λj=>some j)<|bnd (MJ n (a,b,c,d)) λl=>cnd l (some 1)<|some 0)<|some 0
def aEd: Kn:=bJ 182 0xbf14e6e49a88127d177f231 C33 [⟨0,[J7]⟩,⟨1,[J6]⟩] [] AB
abbrev C34:=aEd::C33
def jD: Nat->aZ->Option Bool
 | 0,_=>none
 | n+1,a=>cnd (a.at_==0) (some true)<|some false
def Pc: Kn:=bJ 170 0x317262 C34 [] [] jD
abbrev C35:=Pc::C34
def gJ: Nat->aZ->Option Bool
 | 0,_=>none
 | n+1,a=>cnd (a.at_==(wr<|(ln a.line.path)-2)) (some true)<|some false
def AU: Kn:=bJ 171 0x317262 C35 [] [] gJ
abbrev C36:=AU::C35
def lC(n:Nat): (aZ×aZ)->(((aZ×aZ)->Option R)×Unit)->Unit->Option R:=λ(a,b) (c,_) _=>cd (a.at_ > b.at_) (c (b,a))<|c (a,b)
def oV:=fR lC
def Pk: Lc 167 0 0:=bG 0x2892859a8575c2067dbbe73822ee94806a4b16a2c984678aa7d4f C36 [] [] @lC
def lB: (aZ×aZ)->((Bool->Option R)×Unit)->Unit->Option R:=λ(a,b) (c,_) _=>cnd ((wr<|a.at_+1)==b.at_) (c true)<|cnd (a.line.Arc.From==a.line.Arc.To) (bnd (jD n a) λd=>cnd d (bnd (gJ n b) λf=>cnd f (c true)<|c false)<|c false)<|c false
def oU:=fR lB
def Pj: Lc 167 0 1:=bG 0x4327484dcf0cb1a25baf5d3711cc76d9784464678aa7d4f C36 [] [] @lB
def lA: (aZ×Aaa×Aaa×Aaa×Aaa×Int×Int×Int)->((Bool->Option R)×Unit)->Unit->Option R:=λ(a,b,c,d,f,g,h,i) (j,_) _=>cnd (i==a.line.Arc.From) (bnd (uW n b c<|Aaa.mk g h) λl=>cnd l (bnd (uW n d f<|Aaa.mk g h) λm=>cnd m (j true)<|j false)<|j false)<|cnd (i==a.line.Arc.To) (bnd (uW n b c<|Aaa.mk g h) λo=>cnd o (bnd (uW n d f<|Aaa.mk g h) λr=>cnd r (j true)<|j false)<|j false)<|j false
def fY:=fR lA
def Pi: Lc 167 0 3:=bG 0x5c5f14b5bdac581b9e54633718fbcce29d4070a8f00d5a2fef14789edc1d363bb6be497451d86c6a31e6db284fde2014 C36 [] [] @lA
def l7: Nat->aZ->aZ->(List<|Int×Aaa)->Option Bool
 | 0,_,_,_=>none
 | n+1,a,b,c=>bnd (dI n a) λd=>bnd (dI n b) λf=>bnd (AB n d.1 d.2 f.1 f.2) λg=>cnd (a.line.Arc.ID==b.line.Arc.ID) (bnd (oV n (a,b)) λh=>bnd (oU n (h.1,h.2)) λi=>cnd i (cnd (g==1) (some true)<|some false)<|cnd (g==0) (some true)<|some false)<|cnd (g != 1) (cnd (g==0) (some true)<|some false)<|bnd (Nq<|Nat.ble 3 n) λ_=>bnd (fY n (b,d.1,d.2,f.1,f.2,(Option.getD (bQ c a.line.Arc.From)<|Aaa.mk 0 0).X,(Option.getD (bQ c a.line.Arc.From)<|Aaa.mk 0 0).Y,a.line.Arc.From)) λj=>cnd j (some true)<|bnd (fY n (b,d.1,d.2,f.1,f.2,(Option.getD (bQ c a.line.Arc.To)<|Aaa.mk 0 0).X,(Option.getD (bQ c a.line.Arc.To)<|Aaa.mk 0 0).Y,a.line.Arc.To)) λl=>cnd l (some true)<|some false
def LN: Kn:=bJ 167 0x361b291e6c6c658d22 C36 [⟨0,[Pk]⟩,⟨1,[Pj]⟩,⟨3,[Pi]⟩] [] l7
abbrev C37:=LN::C36
def tU(n:Nat): (List Aab×Int)->(((List<|Int×Aaa)×Int)->Option R)->((((List<|Int×Aaa))->Option R)×Unit)->((List<|Int×Aaa)×Int)->Option R:=λ(a,b) c (d,_) (f,g)=>cd (g<b) (bnd (idx a g) λh=>c ((dX f h.ID h.At),(wr<|g+1)))<|d f
def E6:=oH tU
def QL: Lc 146 0 0:=bE 0xa2dd004f9c9eb17f66543515ad8fc9f1cbc594184cf73b9257bc73e8681e8 C37 [] [] @tU
def QH: Lc 167 0 0:=bG 0x1f89e5ad8e3116f33cc5653b45bb942dd27000f7b19281efef4f4c47 C37 [] [] @lC
def QG: Lc 167 0 1:=bG 0x432748342e215f9304f2abc65109c40ed74efefef4f4c47 C37 [] [] @lB
def QF: Lc 167 0 3:=bG 0x14616cc40954a8000f61f0236a5714eb60d48d3e4b7c793d63b558699c31fefa96c1051f1d290f11aff8ffe2decf336c10719b94da149eb077 C37 [] [] @lA
def Hj: ((List<|Int×Aaa)×aZ×aZ)->(((aZ×aZ×Aaa×Aaa×Aaa×Aaa×Bool)->Option R)×((Aaa×Aaa×Aaa×Aaa×Int×Int)->Option R)×Unit)->Unit->Option R:=λ(a,b,c) (d,f,_) _=>bnd (dI n b) λg=>bnd (dI n c) λh=>bnd (AB n g.1 g.2 h.1 h.2) λi=>cnd (b.line.Arc.ID==c.line.Arc.ID) (bnd (oV n (b,c)) λj=>bnd (oU n (j.1,j.2)) λl=>cnd l (cnd (i==1) (d (j.1,j.2,g.1,g.2,h.1,h.2,true))<|d (j.1,j.2,g.1,g.2,h.1,h.2,false))<|cnd (i==0) (d (j.1,j.2,g.1,g.2,h.1,h.2,true))<|d (j.1,j.2,g.1,g.2,h.1,h.2,false))<|cnd (i != 1) (cnd (i==0) (d (b,c,g.1,g.2,h.1,h.2,true))<|d (b,c,g.1,g.2,h.1,h.2,false))<|bnd (Nq<|Nat.ble 3 n) λ_=>bnd (fY n (c,g.1,g.2,h.1,h.2,(Option.getD (bQ a b.line.Arc.From)<|Aaa.mk 0 0).X,(Option.getD (bQ a b.line.Arc.From)<|Aaa.mk 0 0).Y,b.line.Arc.From)) λm=>cnd m (f (g.1,g.2,h.1,h.2,(Option.getD (bQ a b.line.Arc.From)<|Aaa.mk 0 0).X,(Option.getD (bQ a b.line.Arc.From)<|Aaa.mk 0 0).Y))<|bnd (fY n (c,g.1,g.2,h.1,h.2,(Option.getD (bQ a b.line.Arc.To)<|Aaa.mk 0 0).X,(Option.getD (bQ a b.line.Arc.To)<|Aaa.mk 0 0).Y,b.line.Arc.To)) λo=>cnd o (f (g.1,g.2,h.1,h.2,(Option.getD (bQ a b.line.Arc.To)<|Aaa.mk 0 0).X,(Option.getD (bQ a b.line.Arc.To)<|Aaa.mk 0 0).Y))<|d (b,c,g.1,g.2,h.1,h.2,false)
end
end
section
variable {R:Type}(n:Nat)
noncomputable section
def Pf:=BJ Hj
def QM: Ic:=bP 167 0 3 0xe85e5c650e037b92e8ddd14dfc174a78e8728a78d6df58b91ce221aa3254a32ba9f8258adba79daa1215a2f2b68d88a0cc6488aa C37 [⟨0,[QH]⟩,⟨1,[QG]⟩,⟨3,[QF]⟩] [] @Hj
def tS: ((List<|Int×Aaa)×aZ×List aZ×Int)->(Int->Option R)->((Unit->Option R)×((aZ×aZ×aZ×Aaa×Aaa×Aaa×Aaa)->Option R)×Unit)->Int->Option R:=λ(a,b,c,d) f (g,h,_) i=>cd (i<d) (bnd (idx c i) λj=>bnd (gI n j) λl=>bnd (qK n b) λm=>cd (l > m) (g ())<|bnd2 (Pf n (a,b,j)) (λo=>cnd o.2.2.2.2.2.2 (f<|wr<|i+1)<|h (j,o.1,o.2.1,o.2.2.1,o.2.2.2.1,o.2.2.2.2.1,o.2.2.2.2.2.1)) λr=>bnd (some r) λ_=>f<|wr<|i+1)<|g ()
def E5:=qP tS
def QJ: Lc 146 0 2:=bE 0x23af93209efc0c86d1496b22ac20998c6ae7ea355d92f5f6d68f6f4af493a4e5032ba8fdf693e09f2f0076dcc69920c5a6c248ecb86826c988 C37 [] [QM] @tS
def Hi: (aZ×Aab×Aaa×Aaa)->((Bool->Option R)×Unit)->Unit->Option R:=λ(a,b,c,d) (f,_) _=>bnd (uW n c d b.At) λg=>cnd g (bnd (jD n a) λh=>cnd h (cnd (a.line.Arc.From==b.ID) (f false)<|bnd (gJ n a) λi=>cnd i (cnd (a.line.Arc.To==b.ID) (f false)<|f true)<|f true)<|bnd (gJ n a) λj=>cnd j (cnd (a.line.Arc.To==b.ID) (f false)<|f true)<|f true)<|f false
def Pd:=fR Hi
def QE: Lc 146 0 4:=bG 0x54a517a72db004ca132b93fa0b528a36e111594c4769c37b77d02fbb2eb21606edd533d428e2131051a7 C37 [] [] @Hi
def tR: (aZ×List Aab×Int)->(Int->Option R)->(((Aab×Aaa×Aaa)->Option R)×(Unit->Option R)×Unit)->Int->Option R:=λ(a,b,c) d (f,g,_) h=>cd (h<c) (bnd (idx b h) λi=>bnd (dI n a) λj=>bnd (Pd n (a,i,j.1,j.2)) λl=>cnd l (f (i,j.1,j.2))<|d<|wr<|h+1)<|g ()
def E4:=qP tR
def QI: Lc 146 0 3:=bE 0x2857183481cec60a89fb4d9f8e4f4d76373325d5651ff20be6e5e89127e4e84e68671ef79f387a7 C37 [⟨0,[cs QE]⟩] [] @tR
def tT: (aM×(List<|Int×Aaa)×List aZ×List aZ×Int)->(Int->Option R)->(((aZ×Aab×Aaa×Aaa)->Option R)×((aZ×aZ×aZ×aZ×Aaa×Aaa×Aaa×Aaa)->Option R)×(Unit->Option R)×Unit)->Int->Option R:=λ(a,b,c,d,f) g (h,i,j,_) l=>cd (l<f) (bnd (idx d l) λm=>bnd (cut c (wr<|l+1)<|ln c) λo=>bnd2 (E5 n (b,m,o,(ln o)) 0) (λ_=>bnd2 (E4 n (m,a.Nodes,(ln a.Nodes)) 0) (λr=>h (m,r.1,r.2.1,r.2.2)) λs=>bnd (some s) λ_=>g<|wr<|l+1) λt=>bnd (some t) λu=>i (m,u.1,u.2.1,u.2.2.1,u.2.2.2.1,u.2.2.2.2.1,u.2.2.2.2.2.1,u.2.2.2.2.2.2))<|j ()
def Pe:=lp3 tT
def QK: Lc 146 0 1:=bE 0x206867a316f2606a0c8b6aeb35158c9ed31a80911b434819018d4e8f6074f9334a678fad84379907e3df48ba9c9766825452ad75a48dd44dbafd3ce6df900e0e4e49b2a89 C37 [⟨0,[cs QJ]⟩,⟨1,[cs QI]⟩] [] @tT
def Pg: Nat->aM->Option Bool
 | 0,_=>none
 | n+1,a=>bnd (Fz n a) λb=>cnd b.2 (bnd (E6 n (a.Nodes,(ln a.Nodes)) ([],0)) λc=>bnd (prd n) λd=>bnd (Nq<|decide<|List.length b.1<=1000000) λ_=>bnd (qB (λ(f g:aZ)=>bnd (qL d f g) λh=>some h) b.1) λi=>bnd2 (Pe n (a,c,i,i,(ln i)) 0) (λ_=>some false) λj=>bnd2 (some j) (λ_=>some false) λl=>bnd (some l) λ_=>some true)<|some false
def S8: Kn:=bJ 146 0x1de06e1a1ee1 C37 [⟨0,[QL]⟩,⟨1,[QK]⟩] [] Pg
abbrev C38:=S8::C37
def Mm(n:Nat): aM->((Bool->Option R)×Unit)->Unit->Option R:=λa (b,_) _=>cd ((ln a.Nodes) > 256) (b true)<|cd ((ln a.Arcs) > 256) (b true)<|cd ((ln a.Faces) > 64) (b true)<|b false
def T3:=fR Mm
def m8: Lc 120 0 0:=bG 0x3849c0eed84661c5d6 C38 [] [] @Mm
def wI(n:Nat): (List aP×Int)->(Int->Option R)->((aP->Option R)×(Unit->Option R)×Unit)->Int->Option R:=λ(a,b) c (d,f,_) g=>cd (g<b) (bnd (idx a g) λh=>cd ((ln h.Via) > 64) (d h)<|c<|wr<|g+1)<|f ()
def T4:=qP wI
def m9: Lc 120 0 1:=bE 0x41959fccb812841b05bd09f8b8d50f56eac2f79eac64 C38 [] [] @wI
def Ml: (aM×List Int×List Int)->((Bool->Option R)×Unit)->Unit->Option R:=λ(a,b,c) (d,_) _=>bnd (lD n b) λf=>cnd f (bnd (lD n c) λg=>cnd g (bnd (lD n a.Faces) λh=>cnd h (d false)<|d true)<|d true)<|d true
def T2:=fR Ml
def l9: Lc 120 0 2:=bG 0x60a88119e40331d19904fb89e3d2fc9b842164bda C38 [] [] @Ml
def Mk: (aM×List Int×List Int)->((Bool->Option R)×Unit)->Unit->Option R:=λ(a,b,c) (d,_) _=>bnd (oG n b) λf=>cnd f (bnd (oG n c) λg=>cnd g (bnd (oG n a.Faces) λh=>cnd h (bnd (Ph n a) λi=>cnd i (d false)<|d true)<|d true)<|d true)<|d true
def T1:=fR Mk
def l8: Lc 120 0 3:=bG 0x7a940334c15b7fb0f92214f980b63092164bda C38 [] [] @Mk
def Kq: Nat->aM->Option Int
 | 0,_=>none
 | n+1,a=>bnd (T3 n a) λb=>cnd b (some 3)<|bnd2 (T4 n (a.Arcs,(ln a.Arcs)) 0) (λ_=>some 3) λc=>bnd (some c) λ_=>bnd (tZ n a) λd=>bnd (T2 n (a,d.1,d.2)) λf=>cnd f (some 10)<|bnd (T1 n (a,d.1,d.2)) λg=>cnd g (some 2)<|bnd (zR n a d.1) λh=>cnd (h != 0) (some h)<|bnd (Pg n a) λi=>cnd i (some 0)<|some 11
def aB8: Kn:=bJ 120 0x362a4a C38 [⟨0,[m8]⟩,⟨1,[m9]⟩,⟨2,[l9]⟩,⟨3,[l8]⟩] [] Kq
abbrev C39:=aB8::C38
def Mn(n:Nat): (Aaa×Aaa)->((Bool->Option R)×Unit)->Unit->Option R:=λ(a,b) (c,_) _=>cd (b.Y<a.Y) (c true)<|cnd (b.Y==a.Y) (cd (b.X<a.X) (c true)<|c false)<|c false
def U2:=fR Mn
def o6: Lc 188 0 0:=bG 0x3941a583a43b C39 [] [] @Mn
def gU: Nat->Aaa->Aaa->Option Bool
 | 0,_,_=>none
 | n+1,a,b=>bnd (U2 n (a,b)) λc=>cnd c (some true)<|some false
def aCb: Kn:=bJ 188 0x35de763ff C39 [⟨0,[o6]⟩] [] gU
abbrev C40:=aCb::C39
def Qf: (Aaa×Aaa×Aaa)->((Bool->Option R)×Unit)->Unit->Option R:=λ(a,b,c) (d,_) _=>bnd (pQ n [a,b,c]) λf=>cnd f (cd (b=a) (d true)<|cd (c=a) (d true)<|d false)<|d true
def ML:=fR Qf
def J8: Lc 178 0 0:=bG 0xb9af390697ce3da1b67f633627b8fe1d59a1ebfe839cb88f272bbaedae026 C40 [] [] @Qf
def AC: Nat->Aaa->Aaa->Aaa->Option Bool
 | 0,_,_,_=>none
 | n+1,a,b,c=>bnd (ML n (a,b,c)) λd=>cnd d (some false)<|bnd (gU n a b) λf=>cnd f (bnd (gU n a c) λg=>cnd g (cd (true=true) (bnd (gS n a b c) λh=>cd (h > 0) (some true)<|some false)<|bnd (gU n a c) λi=>cnd i (some true)<|some false)<|cd (true=false) (bnd (gS n a b c) λj=>cd (j > 0) (some true)<|some false)<|bnd (gU n a c) λl=>cnd l (some true)<|some false)<|bnd (gU n a c) λm=>cnd m (cd (false=true) (bnd (gS n a b c) λo=>cd (o > 0) (some true)<|some false)<|bnd (gU n a c) λr=>cnd r (some true)<|some false)<|cd (false=false) (bnd (gS n a b c) λs=>cd (s > 0) (some true)<|some false)<|bnd (gU n a c) λt=>cnd t (some true)<|some false
def aEe: Kn:=bJ 178 0x943826 C40 [⟨0,[J8]⟩] [] AC
abbrev C41:=aEe::C40
def Gw(n:Nat): (aP×Int)->((Bool->Option R)×Unit)->Unit->Option R:=λ(a,b) (c,_) _=>cnd (a.From != b) (cnd (a.To != b) (c true)<|c false)<|c false
def B1:=fR Gw
def PE: Lc 132 0 1:=bG 0xb434348d4a9f60465bb599fe7cb90ea377694797388b6a7f1cd0d3fcaaf3579d4469e8e6077 C41 [] [] @Gw
def tO(n:Nat): (List Int×(List<|Int×Aaa)×Int×Aaa)->(((List Int×(List<|Int×Aaa))->Option R)×Unit)->Unit->Option R:=λ(a,b,c,d) (f,_) _=>bnd (app a [c]) λg=>f (g,(dX b c d))
def pX:=qR tO
def PJ: Ic:=bP 154 0 4 0x2c62135f4cea2336e071eb9ea5c4cd325bf451c47af93b553d2ab15b6a583742374a77f1e286312 C41 [] [] @tO
def PI: Ic:=bP 154 0 4 0x2c62135f4cea2336e071eb8f9641bc71af3d39c09616556413affb20bc34e2fb24a6aaf549ca332 C41 [] [] @tO
def mQ: (aM×Int×List aP×Int)->((List Int×(List<|Int×Aaa)×Int)->Option R)->(((List Int×(List<|Int×Aaa))->Option R)×Unit)->(List Int×(List<|Int×Aaa)×Int)->Option R:=λ(a,b,c,d) f (g,_) (h,i,j)=>cd (j<d) (bnd (idx c j) λl=>bnd (B1 n (l,b)) λm=>cnd m (f (h,i,(wr<|j+1)))<|bnd (yS n a l.ID) λo=>cnd (o.2 != 0) (f (h,i,(wr<|j+1)))<|cnd (l.From==b) (bnd (idx o.1 1) λr=>bnd (pX n (h,i,l.ID,r)) λs=>cnd (l.To==b) (bnd (idx o.1<|wr<|(ln o.1)-2) λt=>bnd (pX n (s.1,s.2,(wr<|0-l.ID),t)) λu=>f (u.1,u.2,(wr<|j+1)))<|f (s.1,s.2,(wr<|j+1)))<|cnd (l.To==b) (bnd (idx o.1<|wr<|(ln o.1)-2) λv=>bnd (pX n (h,i,(wr<|0-l.ID),v)) λw=>f (w.1,w.2,(wr<|j+1)))<|f (h,i,(wr<|j+1)))<|g (h,i)
def B2:=oH mQ
def PG: Lc 132 0 0:=bE 0xc4a59cd5e5a86c044da23416e53459308d022914b4ffc8566a13a693ad66a71cf88d76c0a4d5a1469ecc932 C41 [⟨0,[cs PE]⟩] [PJ,PI] @mQ
def Gx: (Aab×(List<|Int×Aaa)×Int×Int)->((Int->Option R)×Unit)->Unit->Option R:=λ(a,b,c,d) (f,_) _=>bnd (AC n a.At (Aaa.mk ((Option.getD (bQ b c)<|Aaa.mk 0 0).X)<|(Option.getD (bQ b c)<|Aaa.mk 0 0).Y)<|Aaa.mk ((Option.getD (bQ b d)<|Aaa.mk 0 0).X)<|(Option.getD (bQ b d)<|Aaa.mk 0 0).Y) λg=>cnd g (f (-1))<|bnd (AC n a.At (Aaa.mk ((Option.getD (bQ b d)<|Aaa.mk 0 0).X)<|(Option.getD (bQ b d)<|Aaa.mk 0 0).Y)<|Aaa.mk ((Option.getD (bQ b c)<|Aaa.mk 0 0).X)<|(Option.getD (bQ b c)<|Aaa.mk 0 0).Y) λh=>cnd h (f 1)<|f 0
def yY:=qR Gx
def PH: Ic:=bP 155 6 4 0x40fb7e6c82445f7aec5cc31eda647af2b56fe0874702bf0d8843a3749444d4f1a07 C41 [] [] @Gx
def Oe: Nat->aM->Int->Option (List Int)
 | 0,_,_=>none
 | n+1,a,b=>bnd (iF n a b) λc=>cnd c.2 (bnd (B2 n (a,b,a.Arcs,(ln a.Arcs)) ([],[],0)) λd=>bnd (prd n) λf=>bnd (Nq<|decide<|List.length d.1<=1000000) λ_=>bnd (qB (λ(g h:Int)=>bnd (yY f (c.1,d.2,g,h)) λi=>some i) d.1) λj=>some j)<|some []
def R3: Kn:=bJ 132 0x13ac96f600f99cc13d3261e1 C41 [⟨0,[PG]⟩] [PH] Oe
abbrev C42:=R3::C41
def yW: Nat->(List Int)->Int->Option Int
 | 0,_,_=>none
 | n+1,a,b=>bnd (mR n a b) λc=>cd (c<0) (some 0)<|bnd (aIj (wr<|(wr<|c+(ln a))-1)<|ln a) λd=>bnd (idx a d) λf=>some f
def OY: Kn:=bJ 133 0x579fb4 C42 [] [] yW
abbrev C43:=OY::C42
def tM: (List Int×List Int×Int)->((List Int×(List<|Int×Int)×Int)->Option R)->(((List Int×(List<|Int×Int))->Option R)×Unit)->(List Int×(List<|Int×Int)×Int)->Option R:=λ(a,b,c) d (f,_) (g,h,i)=>cd (i<c) (bnd (idx b i) λj=>bnd (app g [j]) λl=>bnd (yW n a j) λm=>d (l,(dX h (wr<|0-j) m),(wr<|i+1)))<|f (g,h)
def A8:=oH tM
def PB: Lc 112 0 1:=bE 0x3b098bb04066fc240f4b6afa92220ca1fb2e86f58ff95f3506a338e7068fc22e353e97eed9763a786fd2f83221fb7ed2c907b315cd5a C43 [] [] @tM
def tN: (aM×List Aab×Int)->((List Int×(List<|Int×Int)×Int)->Option R)->(((List Int×(List<|Int×Int))->Option R)×Unit)->(List Int×(List<|Int×Int)×Int)->Option R:=λ(a,b,c) d (f,_) (g,h,i)=>cd (i<c) (bnd (idx b i) λj=>bnd (Oe n a j.ID) λl=>bnd (A8 n (l,l,(ln l)) (g,h,0)) λm=>d (m.1,m.2,(wr<|i+1)))<|f (g,h)
def A9:=oH tN
def PC: Lc 112 0 0:=bE 0x1312cd96176229338e835eabd23ee13c776497c3f02410ed379357812d16a456dc83d98b70fe1ec00c308db9 C43 [⟨0,[cs PB]⟩] [] @tN
def tK(n:Nat): ((List<|Int×Int))->(((List<|Int×Bool)×List Int×Int)->Option R)->((((List<|Int×Bool)×List Int)->Option R)×Unit)->((List<|Int×Bool)×List Int×Int)->Option R:=λa b (c,_) (d,f,g)=>cnd ((Option.getD (bQ d g) false)) (c (d,f))<|bnd (app f [g]) λh=>b ((dX d g true),h,(Option.getD (bQ a g) 0))
def A7:=oH tK
def OZ: Lc 135 0 0:=bE 0x1a2a1b2e25ecbfe1ba1dade1d6b18af06efa39111db8c966574e1dbc3aa9c3e03d1180cbca705a93b3ab7a17 C43 [] [] @tK
def Gv: ((List<|Int×Int)×(List<|Int×Bool)×Int)->((((List<|Int×Bool)×List Int)->Option R)×Unit)->Unit->Option R:=λ(a,b,c) (d,_) _=>bnd (A7 n a (b,[],c)) λf=>d (f.1,f.2)
def B0:=qR Gv
def PD: Ic:=bP 135 0 3 0x34b430928c9dee13fe93b31d33db85fe85daeee45b9f2e810f57457aab52d55ef013f568c8c7 C43 [⟨0,[OZ]⟩] [] @Gv
def tL: ((List<|Int×Int)×List Int×Int)->(((List<|List Int)×(List<|Int×Bool)×Int)->Option R)->((((List<|List Int)×(List<|Int×Bool))->Option R)×Unit)->((List<|List Int)×(List<|Int×Bool)×Int)->Option R:=λ(a,b,c) d (f,_) (g,h,i)=>cd (i<c) (bnd (idx b i) λj=>cnd ((Option.getD (bQ h j) false)) (d (g,h,(wr<|i+1)))<|bnd (B0 n (a,h,j)) λl=>bnd (app g [l.2]) λm=>d (m,l.1,(wr<|i+1)))<|f (g,h)
def Od:=oH tL
def PA: Lc 112 0 2:=bE 0x103d038a289684958aa4d7d135ecf0136da6e6a4d0b00ae2b0a08f0c5261668c2625f3c2c6d534235ba86bf5e97c8986fbfbe6eb643f4e9e51936ca737d C43 [] [PD] @tL
def Dg: Nat->aM->Option ((List<|List Int)×Int)
 | 0,_=>none
 | n+1,a=>bnd (Kq n a) λb=>cnd (b != 0) (some ([],b))<|bnd (A9 n (a,a.Nodes,(ln a.Nodes)) ([],[],0)) λc=>bnd (prd n) λ_=>bnd (Nq<|decide<|List.length c.1<=1000000) λ_=>bnd (Od n (c.2,(Db c.1),(ln<|Db c.1)) ([],[],0)) λd=>some (d.1,0)
def R2: Kn:=bJ 112 0x791dbd4615a11253036c98a9882dd3503da C43 [⟨0,[PC]⟩,⟨2,[PA]⟩] [] Dg
abbrev C44:=R2::C43
def nJ: (aM×List aP×Int)->(((List<|Int×List Aaa)×Int)->Option R)->((((List<|Int×List Aaa))->Option R)×Unit)->((List<|Int×List Aaa)×Int)->Option R:=λ(a,b,c) d (f,_) (g,h)=>cd (h<c) (bnd (idx b h) λi=>bnd (yS n a i.ID) λj=>cnd (j.2==0) (d ((dX g i.ID j.1),(wr<|h+1)))<|d (g,(wr<|h+1)))<|f g
def KS:=oH nJ
def AN: Lc 113 0 0:=bE 0x59fe658de4657e396eb68158eb8346d619ea883711b798ae5032092843f9fc5ffb5e432f26a3 C44 [] [] @nJ
def qH: Nat->aM->Option (List<|Int×List Aaa)
 | 0,_=>none
 | n+1,a=>bnd (KS n (a,a.Arcs,(ln a.Arcs)) ([],0)) λb=>some b
def PW: Kn:=bJ 113 0x14842119641d2f5 C44 [⟨0,[AN]⟩] [] qH
abbrev C45:=PW::C44
def yX: Nat->aM->Int->Option (aP×Bool)
 | 0,_,_=>none
 | n+1,a,b=>cnd (b==0) (some ((aP.mk 0 0 0 [] 0 0),false))<|cnd (b==(-9223372036854775808)) (some ((aP.mk 0 0 0 [] 0 0),false))<|bnd (zU n a<|uF b<|wr<|0-b) λc=>cnd c.2 (some (c.1,true))<|some (c.1,false)
def aBj: Kn:=bJ 158 0x329a32980943 C45 [] [] yX
abbrev C46:=aBj::C45
def wE(n:Nat): (List Aaa×Int)->((Int×Int)->Option R)->((Int->Option R)×Unit)->(Int×Int)->Option R:=λ(a,b) c (d,_) (f,g)=>cd (g<b) (bnd (idx a g) λh=>bnd (idx a<|wr<|g+1) λi=>bnd (idx a<|wr<|g+1) λj=>bnd (idx a g) λl=>c ((wr<|f+(wr<|(wr<|h.X*i.Y)-(wr<|j.X*l.Y))),(wr<|g+1)))<|d f
def R0:=oH wE
def d9: Lc 137 0 1:=bE 0xeb283d0feadb05a646e538ddf2074bf9ba960b07bbe9ec87a10c47dea8 C46 [] [] @wE
def wF: (aM×List Int×Int)->((Int×Int)->Option R)->((aP->Option R)×(Int->Option R)×Unit)->(Int×Int)->Option R:=λ(a,b,c) d (f,g,_) (h,i)=>cd (i<c) (bnd (idx b i) λj=>bnd (yX n a j) λl=>cnd l.2 (bnd (yS n a<|uF j<|wr<|0-j) λm=>cnd (m.2 != 0) (f l.1)<|bnd (R0 n (m.1,(wr<|(ln m.1)-1)) (0,0)) λo=>cd (j<0) (d ((wr<|h+(wr<|0-o)),(wr<|i+1)))<|d ((wr<|h+o),(wr<|i+1)))<|f l.1)<|g h
def R1:=qP wF
def g9: Lc 137 0 0:=bE 0x18c47f5d3e5c89e6e0d6b3c4df39524feb6b2a78c1d8075987 C46 [⟨0,[cs d9]⟩] [] @wF
def tJ: Nat->aM->(List Int)->Option Int
 | 0,_,_=>none
 | n+1,a,b=>cd ((ln b) > 512) (some 0)<|bnd2 (R1 n (a,b,(ln b)) (0,0)) (λ_=>some 0) λc=>bnd (some c) λd=>some d
def Jw: Kn:=bJ 137 0x2a163b8e0 C46 [⟨0,[g9]⟩] [] tJ
abbrev C47:=Jw::C46
def kW: (Aaa×Aaa×Aaa)->((Bool->Option R)×Unit)->Unit->Option R:=λ(a,b,c) (d,_) _=>cd (b.Y<=a.Y) (cd (a.Y<c.Y) (bnd (jT n b c a) λf=>cd (f > 0) (d true)<|d false)<|d false)<|d false
def oE:=fR kW
def zF: Lc 180 0 0:=bG 0x75bd41a1d66295386b758c22265b3c954347abd54c0e3c238a7303a5c701b4caa78 C47 [] [] @kW
def kV: (Aaa×Aaa×Aaa)->((Bool->Option R)×Unit)->Unit->Option R:=λ(a,b,c) (d,_) _=>cd (c.Y<=a.Y) (cd (a.Y<b.Y) (bnd (jT n b c a) λf=>cd (f<0) (d true)<|d false)<|d false)<|d false
def oD:=fR kV
def zE: Lc 180 0 1:=bG 0x215a211496c2a91af9707ae9b018d6362287bd3c701b4caa78 C47 [] [] @kV
def kX: (Aaa×Bool×Bool×Aaa×Aaa)->(((Bool×Bool)->Option R)×Unit)->Unit->Option R:=λ(a,b,c,d,f) (g,_) _=>bnd (uW n d f a) λh=>cnd h (g (true,c))<|bnd (oE n (a,d,f)) λi=>cnd i (g (b,(!c)))<|bnd (oD n (a,d,f)) λj=>cnd j (g (b,(!c)))<|g (b,c)
def oF:=qR kX
def zI: Ic:=bP 180 0 5 0xb1e3953e489e98d9dffc092955e9b72b1099bb89273729bc6fe3122 C47 [⟨0,[zF]⟩,⟨1,[zE]⟩] [] @kX
def eG: (Aaa×List Aaa)->((Bool×Bool×Int)->Option R)->(((Bool×Bool)->Option R)×Unit)->(Bool×Bool×Int)->Option R:=λ(a,b) c (d,_) (f,g,h)=>cd (h<(ln b)) (bnd (idx b<|wr<|h-1) λi=>bnd (idx b h) λj=>bnd (oF n (a,f,g,i,j)) λl=>cnd l.1 (cnd l.2 (c (true,true,(wr<|h+1)))<|c (true,false,(wr<|h+1)))<|cnd l.2 (c (false,true,(wr<|h+1)))<|c (false,false,(wr<|h+1)))<|d (f,g)
def Fv:=oH eG
def zG: Lc 181 0 1:=bE 0x969ec622f9772c9c7b27d3e23f7a368082b0cb6abd2fb837012bb58b0cffd C47 [] [zI] @eG
def fW: (Aaa×(List<|Int×List Aaa)×List Int×Int)->((Bool×Bool×Int)->Option R)->(((Bool×Bool)->Option R)×Unit)->(Bool×Bool×Int)->Option R:=λ(a,b,c,d) f (g,_) (h,i,j)=>cd (j<d) (bnd (idx c j) λl=>bnd (Fv n (a,(Option.getD (bQ b<|uF l<|wr<|0-l) [])) (h,i,1)) λm=>f (m.1,m.2,(wr<|j+1)))<|g (h,i)
def Fw:=oH fW
def zH: Lc 181 0 0:=bE 0x738f4f5070a2cfae1ea62dade52b26b8c55d55062 C47 [⟨0,[cs zG]⟩] [] @fW
def kY: (Aaa×(List<|Int×List Aaa)×List Int)->(((Bool×Bool)->Option R)×Unit)->Unit->Option R:=λ(a,b,c) (d,_) _=>bnd (Fw n (a,b,c,(ln c)) (false,false,0)) λf=>d (f.1,f.2)
def Fx:=qR kY
def zJ: Ic:=bP 181 0 3 0x48193fe10808483704bfd6c565a736912825f7679 C47 [⟨0,[zH]⟩] [] @kY
def eL: Nat->(List<|Int×List Aaa)->(List Int)->Aaa->Option Bool
 | 0,_,_,_=>none
 | n+1,a,b,c=>bnd (Fx n (c,a,b)) λd=>cnd d.1 (cnd d.2 (some false)<|some false)<|cnd d.2 (some true)<|some false
def Hg: Kn:=bJ 159 0x361cd2466a87d6fb52 C47 [] [zJ] eL
abbrev C48:=Hg::C47
def qG: (Aaa×(List<|Int×List Aaa)×List Lz×Int×Int)->((Bool->Option R)×Unit)->Unit->Option R:=λ(a,b,c,d,f) (g,_) _=>cnd (d==0) (bnd (idx c f) λh=>bnd (eL n b h.outer a) λi=>cnd i (g true)<|g false)<|bnd (idx c f) λj=>bnd (idx c d) λl=>cd (j.twice<l.twice) (bnd (idx c f) λm=>bnd (eL n b m.outer a) λo=>cnd o (g true)<|g false)<|g false
def vJ:=fR qG
def Km: Lc 138 0 1:=bG 0x835562d790c937871d40d42b91f1bc472ed6e143b3a509186209c8a008 C48 [] [] @qG
def jB: (Aaa×(List<|Int×List Aaa)×List Lz)->((Int×Int)->Option R)->((Int->Option R)×Unit)->(Int×Int)->Option R:=λ(a,b,c) d (f,_) (g,h)=>cd (h<(ln c)) (bnd (vJ n (a,b,c,g,h)) λi=>cnd i (d (h,(wr<|h+1)))<|d (g,(wr<|h+1)))<|f g
def Ox:=oH jB
def Ko: Lc 138 0 0:=bE 0x47d6a03d7043961ce28c3a827473fd46219c8a008 C48 [⟨0,[cs Km]⟩] [] @jB
def eF: Nat->(List<|Int×List Aaa)->(List Lz)->Aaa->Option Int
 | 0,_,_,_=>none
 | n+1,a,b,c=>bnd (Ox n (c,a,b) (0,1)) λd=>some d
def nI: Kn:=bJ 138 0x2d4739e55315a1ab52 C48 [⟨0,[Ko]⟩] [] eF
abbrev C49:=nI::C48
def Hn(n:Nat): (aP×Int×Int)->((Int->Option R)×Unit)->Unit->Option R:=λ(a,b,c) (d,_) _=>cnd (a.From==b) (d<|wr<|c+1)<|d c
def F8:=fR Hn
def RB: Lc 90 0 1:=bG 0xc44df10b4f45e410ebcc51ca0e9d35985bee8caca126f8874a01913 C49 [] [] @Hn
def uA: (Int×List aP×Int)->((Int×Int)->Option R)->((Int->Option R)×Unit)->(Int×Int)->Option R:=λ(a,b,c) d (f,_) (g,h)=>cd (h<c) (bnd (idx b h) λi=>bnd (F8 n (i,a,g)) λj=>cnd (i.To==a) (d ((wr<|j+1),(wr<|h+1)))<|d (j,(wr<|h+1)))<|f g
def F9:=oH uA
def RC: Lc 90 0 0:=bE 0xc4c22b02a808645deda5cf5bff4f3 C49 [⟨0,[cs RB]⟩] [] @uA
def lE: Nat->aM->Int->Option Int
 | 0,_,_=>none
 | n+1,a,b=>bnd (F9 n (b,a.Arcs,(ln a.Arcs)) (0,0)) λc=>some c
def Ga: Kn:=bJ 90 0x579fb3 C49 [⟨0,[RC]⟩] [] lE
abbrev C50:=Ga::C49
end
end
end Go.Proofs.YtmlgedgcbfchjaaGreatDoor.Av
