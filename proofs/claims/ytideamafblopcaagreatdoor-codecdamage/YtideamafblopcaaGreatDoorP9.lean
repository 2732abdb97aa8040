/- A part of the proof of a law. -/
import Derived.Test.YtideamafblopcaaGreatDoorP8
import Derived.Test.YtideamafblopcaaGreatDoorP5
import Derived.Test.YtideamafblopcaaGreatDoorChecked
import Derived.KernelRfl
import Derived.Shelf.Strings.Search3
import Derived.Shelf.Vars
import Derived.Shelf.Sort.Plain
import Derived.Shelf.Slices.In.SortNone
import Derived.Test.YtideamafblopcaaGreatDoorRows
import Derived.Test.YtideamafblopcaaGreatDoorTie
import Derived.Test.YtideamafblopcaaGreatDoorCards
import Derived.ChangeSame
import Derived.ChangeVars
import Derived.JoinedOf
import Derived.LaidLaws
import Derived.Lay
import Derived.MakeChecks
import Derived.Stop.Joined
import Derived.SevenTiedAt
set_option maxRecDepth 100000
set_option maxHeartbeats 4000000
set_option linter.all false
namespace Go.Proofs.YtideamafblopcaaGreatDoor.Av
open Go
section
open iG (den cds ag)
def WO[aB](P:Program)(cf:CF)(fl:Nat)(ops:List aL)(st:St)(K:St->Prop): Prop:=∃s,bE P cf fl ops st=some s/\K s
def WC[aB](P:Program)(cf:CF)(lf fl:Nat)(c:bI)(st:St)(K:bP->St->Prop): Prop:=∃x s,cH P cf lf fl c st=some (x,s)/\K x s
section
variable {P:Program}{cf:CF}{lf fl:Nat}{tm:List AV}{H H':aM}{v:AV}{K:bP->St->Prop}{st:St}
theorem WO.nil[aB]{K:St->Prop}(h:K st): WO P cf fl [] st K:=⟨st,rfl,h⟩
theorem WO.op[aB]{d:Option Nat}{op:xP}{r:List aL}{K:St->Prop}(h:aI P cf fl op tm H=some (v,H'))(k:WO P cf fl r ⟨eL tm d v,H'⟩ K): WO P cf fl (⟨d,op,none⟩::r) ⟨tm,H⟩ K:=by
 let⟨s,a,b⟩:=k;refine⟨s,?_,b⟩;simp only[bE,bD,cO,h,a]
theorem WC.reg[aB]{b:Bool}{ops:List aL}(h:WO P cf fl ops st<|K .normal): WC P cf lf fl (.region b [] ops) st K:=by
 let⟨s,a,c⟩:=h;exact⟨_,s,by simp only[cH,eI,a],c⟩
theorem WC.seq[aB]{a b:bI}(h:WC P cf lf fl a st λx s=>match x with | .normal=>WC P cf lf fl b s K | x=>K x s): WC P cf lf fl (.seq a b) st K:=by
 let⟨x,s,e,d⟩:=h;cases x with
 | normal=>
  let⟨y,u,j,k⟩:=d;exact⟨y,u,by simp only[cH,e,j],k⟩
 | exit i=>exact⟨_,s,by simp only[cH,e],d⟩
 | ret=>exact⟨_,s,by simp only[cH,e],d⟩
theorem WC.cond[aB]{c:aQ}{a b:bI}{t:Bool}(h:aC st.tmps c=.lit (.bool t))(k:WC P cf lf fl (match t with | true=>a | false=>b) st K): WC P cf lf fl (.cond c a b) st K:=by
 let⟨x,s,d,e⟩:=k;refine⟨x,s,?_,e⟩;cases t<;>simp only[cH,h]<;>exact d
theorem WC.condT[aB]{c:aQ}{a b:bI}{t:Bool}(h:aC st.tmps c=.lit (.bool t))(d:t=true)(k:WC P cf lf fl a st K): WC P cf lf fl (.cond c a b) st K:=by subst d;exact WC.cond h k
theorem WC.condF[aB]{c:aQ}{a b:bI}{t:Bool}(h:aC st.tmps c=.lit (.bool t))(d:t=false)(k:WC P cf lf fl b st K): WC P cf lf fl (.cond c a b) st K:=by subst d;exact WC.cond h k
theorem WC.block[aB]{i:Nat}{c:bI}(h:WC P cf lf fl c st λx s=>match x with | .exit j=>K (if j=i then .normal else .exit j) s | x=>K x s): WC P cf lf fl (.block i c) st K:=by
 let⟨x,s,d,b⟩:=h;cases x with
 | exit j=>
  refine⟨_,s,?_,b⟩;simp only[cH,d];split<;>rfl
 | normal=>exact⟨_,s,by simp only[cH,d],b⟩
 | ret=>exact⟨_,s,by simp only[cH,d],b⟩
theorem WC.skip[aB](h:K .normal st): WC P cf lf fl .skip st K:=⟨_,st,rfl,h⟩
theorem WC.exit[aB]{i:Nat}(h:K (.exit i) st): WC P cf lf fl (.exit i) st K:=⟨_,st,rfl,h⟩
theorem WC.ret[aB](h:K .ret st): WC P cf lf fl .ret st K:=⟨_,st,rfl,h⟩
theorem WC.scope[aB]{c:bI}(h:WC P cf lf fl c st K): WC P cf lf fl (.scope c) st K:=h
theorem WC.imp[aB]{c:bI}{a:bP->St->Prop}(h:WC P cf lf fl c st K)(k:∀x s,K x s->a x s): WC P cf lf fl c st a:=by
 let⟨x,s,d,b⟩:=h;exact⟨x,s,d,k x s b⟩
def WL[aB](P:Program)(cf:CF)(lf fl N:Nat)(live:List Bool)(tr:Bool)(b:bI)(m:Nat)(st:St)(K:bP->St->Prop): Prop:=∃x s,dN (bX (some live) tr fl N) (λst=>cH P cf lf fl b st) m st=some (x,s)/\K x s
theorem WL.step[aB]{N:Nat}{live:List Bool}{tr:Bool}{b:bI}{m:Nat}(h:WC P cf lf fl b (bX (some live) tr fl N st) λx s=>match x with | .normal=>WL P cf lf fl N live tr b m s K | x=>K x s): WL P cf lf fl N live tr b (m+1) st K:=by
 let⟨x,s,d,c⟩:=h;cases x with
 | normal=>
  let⟨y,u,g,j⟩:=c;exact⟨y,u,by simp only[dN,d,g],j⟩
 | exit i=>exact⟨_,s,by simp only[dN,d],c⟩
 | ret=>exact⟨_,s,by simp only[dN,d],c⟩
theorem WL.imp[aB]{N:Nat}{live:List Bool}{tr:Bool}{b:bI}{m:Nat}{a:bP->St->Prop}(h:WL P cf lf fl N live tr b m st K)(k:∀x s,K x s->a x s): WL P cf lf fl N live tr b m st a:=by
 let⟨x,s,c,d⟩:=h;exact⟨x,s,c,k x s d⟩
theorem WC.loop[aB]{live:List Bool}{tr:Bool}{b:bI}(h:WL P cf lf fl st.heap.length live tr b lf st K): WC P cf lf fl (.loop (some live) tr b) st K:=by
 let⟨x,s,a,c⟩:=h;exact⟨x,s,a,c⟩
def aJR(b a:List Bool)(tr:Bool)(fl N:Nat)(x:bP)(s:St): St:=match x with
 | .ret=>⟨bS a s.tmps,s.heap⟩
 | _=>bX (some b) tr fl N s
theorem WC.mask[aB]{b a:List Bool}{tr:Bool}{c:bI}(h:WC P cf lf fl c st λx s=>K x<|aJR b a tr fl st.heap.length x s): WC P cf lf fl (.mask b a tr c) st K:=by
 let⟨x,s,e,d⟩:=h;refine⟨x,_,?_,d⟩;simp only[cH,e,qJ];cases x<;>rfl
theorem n5[aB]{d t:Nat}: aC (tm.set d v) (.tmp t)=if d=t/\d<tm.length then v else aC tm (.tmp t):=by
 simp only[aC,List.getElem?_set];by_cases h:d=t
 .subst h;by_cases b:d<tm.length
  .simp[b]
  .simp[b,List.getElem?_eq_none<|Nat.le_of_not_lt b]
 .simp[h]
theorem CV[aB]: ∀(l:List Bool) (tm:List AV) (t:Nat),t<tm.length->aC (bS l tm) (.tmp t)=if l.getD t false then aC tm (.tmp t) else .undef
 | l,[],t,h=>by cases h
 | [],v::vs,0,_=>rfl
 | [],v::vs,t+1,h=>by
  have:=CV [] vs t<|by simpa using h
  simpa [aC,bS] using this
 | b::l,v::vs,0,_=>by cases b<;>rfl
 | b::l,v::vs,t+1,h=>by
  have:=CV l vs t<|by simpa using h
  simpa [aC,bS] using this
theorem SL: ∀(l:List Bool) (tm:List AV),(bS l tm).length=tm.length
 | _::l,_::vs=>by simp[bS,SL l vs]
 | [],vs=>by simp[bS]
 | _::_,[]=>rfl
abbrev tp:=aQ.tmp
abbrev o1(d:Nat)(o:xP): aL:=⟨some d,o,none⟩
abbrev om(d s:Nat): aL:=⟨some d,.mov (.tmp s),none⟩
theorem WO.mov[aB]{d s:Nat}{r:List aL}{K:St->Prop}(k:WO P cf fl r ⟨tm.set d<|aC tm<|.tmp s,H⟩ K): WO P cf fl (om d s::r) ⟨tm,H⟩ K:=WO.op (H':=H) rfl k
section
structure At[aB](N:Nat)(l:List (Nat×AV))(tm:List AV): Prop where
 ln:tm.length=N
 at_:∀k v,eD k l=some v->aC tm (.tmp k)=v
theorem At.get[aB]{N k:Nat}{l:List<|Nat×AV}(h:At N l tm)(e:eD k l=some v): aC tm (.tmp k)=v:=h.at_ k v e
theorem At.nil[aB]: At tm.length [] tm:=⟨rfl,λ_ _ h=>by cases h⟩
theorem At.cons[aB]{N k:Nat}{l:List<|Nat×AV}(e:aC tm (.tmp k)=v)(h:At N l tm): At N ((k,v)::l) tm:=⟨h.ln,λj u a=>by
 simp only[eD] at a;split at a
 .rename_i b;cases a;rw[<-Nat.eq_of_beq_eq_true b];exact e
 .exact h.at_ j u a⟩
theorem At.set[aB]{N k:Nat}{l:List<|Nat×AV}(h:At N l tm)(c:Nat.blt k N=true): At N ((k,v)::l)<|tm.set k v:=by
 have c:k<tm.length:=by rw[h.ln];simpa using c
 refine⟨by rw[List.length_set];exact h.ln,λj u a=>?_⟩;simp only[eD] at a;split at a
 .rename_i b;cases a;rw[<-Nat.eq_of_beq_eq_true b,n5,if_pos ⟨rfl,c⟩]
 .rename_i b;rw[n5,if_neg λe=>Nat.ne_of_beq_eq_false b e.1];exact h.at_ j u a
theorem At.live[aB]{N k:Nat}{l:List<|Nat×AV}(b:List Bool)(h:At N l tm)(e:eD k l=some v)(a:(Nat.blt k N&&b.getD k false)=true): aC (bS b tm) (.tmp k)=v:=by
 simp only[Bool.and_eq_true] at a;rw[CV _ _ _<|by rw[h.ln];simpa using a.1,if_pos a.2,h.get e]
theorem At.mask[aB]{N:Nat}{l:List<|Nat×AV}(b:List Bool)(h:At N l tm): At N []<|bS b tm:=⟨by rw[SL];exact h.ln,λ_ _ h=>by cases h⟩
theorem AO.op[aB]{N d:Nat}{l:List<|Nat×AV}{op:xP}{r:List aL}{K:St->Prop}(h:At N l tm)(e:aI P cf fl op tm H=some (v,H'))(k:∀a,At N ((d,v)::l) a->WO P cf fl r ⟨a,H'⟩ K)(b:Nat.blt d N=true:=by rfl): WO P cf fl (o1 d op::r) ⟨tm,H⟩ K:=WO.op e<|k _<|h.set b
theorem AO.mov[aB]{N d s:Nat}{l:List<|Nat×AV}{r:List aL}{K:St->Prop}(h:At N l tm)(e:eD s l=some v)(k:∀a,At N ((d,v)::l) a->WO P cf fl r ⟨a,H⟩ K)(b:Nat.blt d N=true:=by rfl): WO P cf fl (om d s::r) ⟨tm,H⟩ K:=WO.mov<|by rw[h.get e];exact k _<|h.set b
theorem AO.nil[aB]{N:Nat}{l:List<|Nat×AV}{K:St->Prop}(h:At N l tm)(k:K ⟨tm,H⟩): WO P cf fl [] ⟨tm,H⟩ K:=⟨_,rfl,k⟩
theorem Lj[aB]{c:BinOp}{x y:aQ}{a b:Int}{v:Value}(f:aC tm x=iv a)(e:aC tm y=iv b)(d:KB c .i64 a b=some v): aI P cf fl (.ibin c x y) tm H=some (.lit v,H):=by
 simp only[aI,f,e,if_true,d]
theorem aEn[cX][aB]{k:Nat}{l:List<|den k}{x:aQ}{a:AV}(q:Qp (.vw k l) a)(b:aC tm x=a): aI P cf fl (.lenS x) tm H=some (iv (l.length:Nat),H):=by
 let⟨es,c,d⟩:=q.inV;have:=d.len;rcases c with⟨rfl,rfl⟩ | ⟨f,rfl⟩ | rfl
 .simp only[aI,b];rw[<-this];rfl
 .simp only[aI,b];rw[<-this]
 .simp only[aI,b];rw[<-this]
theorem XT{i:Int}(h:0<=i): fA (iv i)=some i.toNat:=by simp only[fA,if_pos h]
theorem x9[cX][aB]{k s:Nat}{l:List<|den k}{x i:aQ}{a:AV}{j:Int}{z:den k}(q:Qp (.vw k l) a)(d:aC tm x=a)(m:aC tm i=iv j)(e:idx l j=some z)(u:(cds k).length=s): ∃r,Qr (iH k z) r/\aI P cf fl (.idxAddr s x i) tm H=some (.rptr r,H):=by
 let⟨es,t,o⟩:=q.inV;let⟨n,v,w⟩:=kE e;let⟨r,b,g⟩:=o.get v;have h:r.length=s:=by rw[g.len,mC,u]
 refine⟨r,g,?_⟩;rcases t with⟨rfl,rfl⟩ | ⟨f,rfl⟩ | rfl
 .cases b
 .simp only[aI,d,m,XT n,b,h,if_true]
 .simp only[aI,d,m,XT n,b,h,if_true]
theorem aA1[aB]{x:aQ}{c:AV}{r:List AV}(a:aC tm x=.rptr (c::r)): aI P cf fl (.load false 1 x) tm H=some (c,H):=by
 simp[aI,a,cJ]
theorem aEo[aB]{n:Nat}{x:aQ}{r:List AV}(a:aC tm x=.rptr r)(h:r.length=n): aI P cf fl (.load true n x) tm H=some (.agg r,H):=by
 simp only[aI,a,cJ,h,Nat.le_refl,if_true];rw[<-h,List.take_length]
theorem Qe[aB]{agg:Bool}{n id tot i off:Nat}{s:Nat}{x:aQ}{es:List<|List AV}{e:List AV}{v:AV}(f:aC tm x=.ptr id tot i off)(g:H[id]?=some (.blk s es))(b:es.length=tot)(he:es[i]?=some e)(d:off+n<=e.length)(a:(if agg then some (.agg<|(e.drop off).take n) else match (e.drop off).take n with | [c]=>some c | _=>none)=some v): aI P cf fl (.load agg n x) tm H=some (v,H):=by
 cases agg with
 | true=>simp only[if_true,Option.some.injEq] at a;simp[aI,f,cJ,g,b,he,d,a]
 | false=>
  simp only[Bool.false_eq_true,if_false] at a;simp only[aI,f,cJ,g,b,he,d,if_true,Bool.false_eq_true,if_false];split at a
  .rename_i c h;rw[h];cases a;rfl
  .cases a
theorem UJ[aB]{off id tot i o:Nat}{x:aQ}(a:aC tm x=.ptr id tot i o): aI P cf fl (.fieldAddr off x) tm H=some (.ptr id tot i<|o+off,H):=by simp only[aI,a]
theorem UI[aB]{s id tot:Nat}{x i:aQ}{es:List<|List AV}{j:Int}(c:aC tm x=.ms id tot 0 tot)(e:aC tm i=iv j)(d:H[id]?=some (.blk s es))(f:es.length=tot)(b:0<=j)(a:j.toNat<tot): aI P cf fl (.idxAddr s x i) tm H=some (.ptr id tot j.toNat 0,H):=by
 simp only[aI,c,e,XT b,d];simp only[f,a,and_self,if_true,Nat.zero_add]
theorem aEp[aB]{s bytes id:Nat}{x y:aQ}{es ys:List<|List AV}(f:aC tm x=.ms id es.length 0 es.length)(i:rd H (aC tm y)=some ys)(j:H[id]?=some (.blk s es))(g:0<s)(c:cY s ys=true)(a:ys≠[])(h:fl<=id)(k:(es.length+ys.length)*bytes<=1000000000000/\es.length+ys.length<=1000000000000): aI P cf fl (.append s bytes x y) tm H=some (.ms id (es++ys).length 0 (es++ys).length,H.set id<|.blk s<|es++ys):=by
 have d:kO ys.length bytes=true:=by
  unfold kO;have:ys.length*bytes<=(es.length+ys.length)*bytes:=Nat.mul_le_mul_right _<|by omega
  simp;omega
 have b:kO (es.length+ys.length) bytes=true:=by unfold kO;simp;omega
 have a:ys.length≠0:=λe=>a<|List.length_eq_zero_iff.1 e;have i:=BT (s:=s) i
 simp only[aI,i,f,cC];rw[if_pos ⟨c,g,d⟩];simp only[j];simp only[true_and,b,if_true,if_neg a,if_pos h,List.length_append]
theorem AO.sto[aB]{N:Nat}{l:List<|Nat×AV}{a:xP}{r:List aL}{K:St->Prop}(h:At N l tm)(e:aI P cf fl a tm H=some (v,H'))(k:WO P cf fl r ⟨tm,H'⟩ K): WO P cf fl (⟨none,a,none⟩::r) ⟨tm,H⟩ K:=WO.op e k
theorem aHV[aB]{id tot i off s a b c d:Nat}{x y:aQ}{es:List<|List AV}{e:List AV}(j:aC tm x=.ptr id tot i off)(h:aC tm y=.ms a b c d)(k:H[id]?=some (.blk s es))(l:es.length=tot)(he:es[i]?=some e)(f:off+1<=e.length)(g:fl<=id):
 aI P cf fl (.store 1 x y) tm H=some (.lit aW,H.set id<|.blk s<|es.set i<|aU e off [.ms a b c d]):=by
 simp only[aI,j,h,cellsOf,List.length_singleton,if_true,eM,g,k,l,he,f]
theorem aA4[aB]{s bytes:Nat}{x y:aQ}{ys:List<|List AV}{a:AV}(b:aC tm x=a)(c:rd H (aC tm y)=some ys)(h:cC fl H s bytes a ys=some (v,H')): aI P cf fl (.append s bytes x y) tm H=some (v,H'):=by
 simp only[aI,BT (s:=s) c,b,h]
theorem aHX[aB]{x:aQ}{a:Int}(b:aC tm x=iv a): aI P cf fl (.un .neg x) tm H=some (iv<|IntKind.i64.wrap<|0-a,H):=by
 have e:aK P (Op.unary .neg<|.int .i64 a)=some (.int .i64<|IntKind.i64.wrap<|0-a):=by kernel_rfl
 simp only[aI,b,e]
theorem aHY[aB]{x y:aQ}{a b:Int}(c:aC tm x=iv a)(d:aC tm y=iv b): aI P cf fl (.minmax true [x,y]) tm H=some (iv<|Fk a b,H):=by
 have e:=V8 (P:=P) (cf:=cf) (fl:=fl) (H:=H) (a:=a) (b:=b);simp only[aI,List.map_cons,List.map_nil,c,d] at e |-;exact e
theorem aHZ[aB]{kt:TypeId}{z m k:aQ}{ok:Bool}(h:aI P cf fl (.lookup kt z m k ok) tm H=some (v,H')): H'=H:=by
 simp only[aI] at h;repeat' split at h
 all_goals first | (cases h;rfl) | cases h
theorem aHP[cX]: ∀H:aM,Qs (List.replicate H.length .gone) H:=λH=>by
 have:∀(n:TH) (H:aM),bO (Qo n) (List.replicate H.length .gone) H:=by
  intro n H;induction H with
  | nil=>trivial
  | cons o H a=>exact⟨trivial,a⟩
 exact this _ H
theorem FN[cX][aB]{T:List bK}{vi:Nat}{ka:List Sh}{k:Nat}{F:Nat->fJ ka->Option (fJ<|[k].map .v)}(m:PG P T vi ⟨ka,[k],false,F⟩){n:Nat}{p:fJ ka}{r:den k}{a:AV}(e:F n p=some r)(t:∀r:den k,∃j:Int,val k r=.lit (.int .i64 j)){aw:List AV}(q:Qc [] (Dh ka p) aw):
 ∃A x,dK P T n 0 vi aw []=some (x,A)/\gS A 0 x=(match val k r with | .lit v=>.lit v | _=>.undef):=by
 let⟨d,A,i,c,h,_⟩:=m n p r e aw q;have c:=c [];match d,c with
 | [b],c=>
  refine⟨A,b,i,?_⟩;have g:Qh [] (val k r)<|dS A 0 b:=c.1;let⟨j,o⟩:=t r;rw[o] at g |-;have e:gS A 0 b=dS A 0 b:=by
   cases b with
   | tup l=>exact (h _ List.mem_cons_self l rfl).elim
   | _=>rfl
  rw[e,g.inL]
end
end
section
variable [cX]{P:Program}
def shF(P:Program)(chk:TypeId->List Cd->Bool): List Field->List Cd->Bool
 | [],cs=>cs.isEmpty
 | f::r,cs=>chk f.type (cs.take<|P.cellsOf f.type)&&shF P chk r (cs.drop<|P.cellsOf f.type)
def shK(P:Program): Nat->TypeId->List Cd->Bool
 | 0,_,_=>false
 | n+1,t,cs=>match P.underlying t with
  | some .bool=>match cs with
   | [.bool]=>true
   | _=>false
  | some (.int k)=>match cs with
   | [.int k']=>decide<|k=k'
   | _=>false
  | some .string=>match cs with
   | [.str]=>true
   | _=>false
  | some (.slice e)=>match cs with
   | [.sl k]=>shK P n e<|cds k
   | _=>false
  | some (.struct fs)=>shF P (shK P n) fs.toList cs
  | _=>false
def LnL(f:(cs:List Cd)->Ik cs->Prop): (cs:List Cd)->Ik cs->Prop
 | [],_=>True
 | .sl k::r,p=>(List.length (α:=den k) p.1<=mxL/\∀x:den k,List.Mem x p.1->f (cds k) (cX.un k x))/\LnL f r p.2
 | _::r,p=>LnL f r p.2
def LnC: Nat->(cs:List Cd)->Ik cs->Prop
 | 0,_,_=>True
 | n+1,cs,p=>LnL (LnC n) cs p
theorem i9: ∀(a b:List Cd) (p:Ik a) (q:Ik b),∃r:Ik<|a++b,lN (a++b) r=lN a p++lN b q/\∀f,LnL f a p->LnL f b q->LnL f (a++b) r
 | [],b,_,q=>⟨q,rfl,λ_ _ h=>h⟩
 | c::a,b,p,q=>by
  let⟨r,i,e⟩:=i9 a b p.2 q;refine⟨(p.1,r),?_,λf d g=>?_⟩
  .show c.tv p.1::lN (a++b) r=_;rw[i];rfl
  .cases c with
   | sl k=>exact⟨d.1,e f d.2 g⟩
   | _=>exact e f d g
theorem U6{a b:List Cd}(e:a=b)(p:Ik a): ∃q:Ik b,lN b q=lN a p/\∀f,LnL f a p->LnL f b q:=by subst e;exact⟨p,rfl,λ_ h=>h⟩
theorem b7{k:Nat}: ∀(es:List<|List AV),(∀x∈es,∃p:Ik<|cds k,Qr (lN (cds k) p) x/\∀d,LnC d (cds k) p)->∃l:List<|den k,Ql k l es/\∀d,∀x:den k,List.Mem x l->LnC d (cds k) (cX.un k x)
 | [],_=>⟨[],trivial,λd x h=>by cases h⟩
 | e::es,h=>by
  let⟨p,m,j⟩:=h e List.mem_cons_self;let⟨l,i,n⟩:=b7 es λx b=>h x<|List.mem_cons_of_mem _ b;refine⟨cX.pk k p::l,⟨?_,i⟩,λd x b=>?_⟩
  .show Qr (lN (cds k)<|cX.un k<|cX.pk k p) e;rw[cX.un_pk];exact m
  .cases b with
   | head=>rw[cX.un_pk];exact j d
   | tail _ b=>exact n d x b
theorem WJ: ∀(n:Nat) (t:TypeId) (cs:List Cd) (ys:List AV),shK P n t cs=true->nC P n t ys->∃p:Ik cs,Qr (lN cs p) ys/\∀d,LnC d cs p
 | 0,_,_,_,h,_=>by simp[shK] at h
 | n+1,t,cs,ys,a,h=>by
  unfold shK at a;unfold nC at h;split at a
  .rename_i j;simp only[j] at h;obtain⟨b,rfl⟩:=h;split at a
   .exact⟨(b,()),⟨.lit _,trivial⟩,λd=>by cases d<;>exact trivial⟩
   .cases a
  .rename_i k j;simp only[j] at h;obtain⟨z,_,rfl⟩:=h;split at a
   .rename_i k';obtain rfl:=of_decide_eq_true a;exact⟨(z,()),⟨.lit _,trivial⟩,λd=>by cases d<;>exact trivial⟩
   .cases a
  .rename_i j;simp only[j] at h;obtain⟨z,_,rfl⟩:=h;split at a
   .exact⟨(z,()),⟨.lit _,trivial⟩,λd=>by cases d<;>exact trivial⟩
   .cases a
  .rename_i e j;simp only[j] at h;obtain⟨es,rfl,R,v⟩:=h;split at a
   .rename_i k;let⟨l,m,o⟩:=b7 (k:=k) es λx B=>WJ n e (cds k) x a<|v x B;refine⟨(l,()),⟨Qp.mkS (.inr ⟨_,rfl⟩) m,trivial⟩,λd=>?_⟩;cases d with
    | zero=>trivial
    | succ d=>exact⟨⟨by show l.length<=mxL;rw[<-m.len];exact R,o d⟩,trivial⟩
   .cases a
  .rename_i O j;simp only[j] at h;obtain⟨c,rfl,K,v⟩:=h;have u:∀(l:List Field) (cs:List Cd) (c:List<|List AV),shF P (shK P n) l cs=true->c.length=l.length->(∀(i:Nat) (f:Field) (p:List AV),l[i]?=some f->c[i]?=some p->nC P n f.type p)->∃p:Ik cs,Qr (lN cs p) c.flatten/\∀d,LnC d cs p:=by
    intro l;induction l with
    | nil=>
     intro cs c m o _;have:cs=[]:=by simpa [shF] using m
     subst this;have:c=[]:=List.length_eq_zero_iff.1 o;subst this;exact⟨(),trivial,λd=>by cases d<;>exact trivial⟩
    | cons f l M=>
     intro cs c m o y;simp only[shF,Bool.and_eq_true] at m;match c,o with
     | q::c,o=>
      let⟨Q,F,S⟩:=WJ n f.type _ q m.1<|y 0 f q rfl rfl;let⟨A,C,J⟩:=M _ c m.2 (by simpa using o) λi g p H w=>y (i+1) g p (by simpa using H) (by simpa using w);let⟨r,I,E⟩:=i9 _ _ Q A;let⟨s,L,D⟩:=U6 (List.take_append_drop (P.cellsOf f.type) cs) r;refine⟨s,?_,λd=>?_⟩
      .rw[L,I,List.flatten_cons];exact F.app C
      .cases d with
       | zero=>trivial
       | succ d=>exact D _<|E _ (S<|d+1)<|J<|d+1
   exact u O.toList cs c a (by simpa using K) λi f p G w=>v i f p (by simpa using G) w
  .cases a
theorem AF{n k:Nat}{t:TypeId}{x:AV}{H:TH}(l:shK P n t (cds k)=true)(s:isAgg P t=ag k)(i:ag k=true\/∃c,cds k=[c])(h:∃ys,nC P n t ys/\x=Ha P t ys): ∃a:den k,Qh H (val k a) x/\∀d,LnC d (cds k)<|cX.un k a:=by
 obtain⟨ys,r,rfl⟩:=h;let⟨p,q,o⟩:=WJ n t (cds k) ys l r;refine⟨cX.pk k p,?_,λd=>by rw[cX.un_pk];exact o d⟩;have f:Qr (iH k<|cX.pk k p) ys:=by unfold iH;rw[cX.un_pk];exact q
 unfold val Ha;rw[s];cases e:ag k with
 | true=>exact Qh.mkA f.c
 | false=>
  have g:=mC<|cX.pk k p;rcases i with i | ⟨c,u⟩
  .rw[e] at i;cases i
  .rw[u] at g;revert f g;generalize iH k (cX.pk k p)=cs;intro f g;match cs,ys,f,g with
   | [v],[y],f,_=>exact .p _ _ f.1
theorem aDa[aB]{T:List bK}{vi kb:Nat}{ka:List Sh}{F:Nat->fJ ka->Option (fJ<|[kb].map .v)}(i:PG P T vi ⟨ka,[kb],false,F⟩){n:Nat}{p:fJ ka}{r:den kb}(e:F n p=some r)(h:val kb r=.lit (.bool true)){aw:List AV}(q:Qc [] (Dh ka p) aw): ∃k H',dK P T k 0 vi aw []=some (.lit<|.bool true,H'):=by
 let⟨d,A,j,c,s,_⟩:=i n p r e aw q;have c:=c [];match d,c with
 | [b],c=>
  refine⟨n,A,?_⟩;rw[j];have f:Qh [] (val kb r)<|dS A 0 b:=c.1;rw[h] at f;have a:=f.inL;have o:b=.lit (.bool true):=by
   cases b with
   | lit v=>
    have a:sS v=.lit (.bool true):=a;unfold sS at a;repeat' split at a
    all_goals first | (cases a;rfl) | cases a
   | ms id tot off len=>
    simp only[dS,gC,Nat.not_lt_zero,if_false,eZ,dZ,Nat.zero_le,if_true] at a;split at a<;>cases a
   | mp id=>
    simp only[dS,gC,Nat.not_lt_zero,if_false,eZ,dZ,Nat.zero_le,if_true] at a;split at a<;>cases a
   | ptr=>cases a
   | fn vi caps=>cases caps<;>cases a
   | _=>cases a
  rw[o];rfl
end
end
def gz: Gr:=⟨337,[(0,1),(10,1),(324,1),(321,1),(323,1),(0,3),(0,2),(0,4),(12,2),(17,1),(7,2),(2,2),(321,3),(2,1),(2,3),(0,16),(9,4),(14,2),(33,1),(8,1),(3,3),(35,1),(34,1),(10,2),(9,1),(0,7),(0,6),(0,8),(39,1),(321,2),(3,1),(48,1),(47,1),(326,1),(11,1),(1,3),(0,11),(55,1),(328,1),(58,1),(57,1),(13,1),(62,1),(71,1),(70,1),(0,5),(15,1),(78,1),(80,1),(3,2),(11,2),(0,10),(322,1),(334,1),(5,1),(21,1),(4,3),(4,2),(0,18),(19,1),(8,6),(325,1),(335,1),(22,1),(4,1),(27,1),(20,1),(5,3),(337,1),(1,2),(332,1),(1,1),(16,1),(6,1),(0,9),(28,1),(7,1),(0,14),(53,1),(8,2),(0,46),(6,3),(330,1),(26,1),(29,1),(0,12),(40,1),(25,1),(41,1),(52,1),(68,1),(72,1),(51,1),(73,1),(83,1),(87,1),(88,1),(90,1),(99,1),(103,1),(107,1),(86,1),(108,1),(7,3),(327,1),(6,4),(331,1),(9,3),(8,3),(18,1),(23,1),(30,1),(31,1),(44,1),(49,1),(54,1),(56,1),(0,20),(75,1),(79,1),(10,3),(11,3),(36,1),(45,1),(12,3),(13,3),(1,10),(14,3),(15,3),(14695981039346656037,0),(329,1),(16,3),(336,1),(13,2),(6,2),(8,4),(32,1),(42,1),(17,3),(18,3),(333,1),(19,3),(24,1),(20,3),(21,3),(22,3),(23,3),(1,5),(1000008,3),(2000008,3),(12,1),(37,1),(46,1),(29,3),(1000011,3),(2000011,3),(4294967295,0),(3988292384,0),(33,3),(32,3),(1099511628211,0),(34,3),(35,3),(36,3),(37,3),(38,3),(1073741824,0),(0,19),(39,3),(40,3),(42,3),(0,17),(44,3),(45,3),(47,3),(48,3),(49,3),(0,13),(50,3),(24,3),(26,3),(1048576,0),(1000026,3),(27,3),(59,1),(15,9),(15,8),(15,7),(60,1),(1000027,3),(28,3),(1000028,3),(14,1),(41,3),(0,37),(58,3),(1048576,1),(15,2),(1073741824,1),(0,27),(69,1),(59,3),(1,11),(60,3),(43,3),(30,3),(31,3),(1000031,3),(63,3),(1,22),(64,3),(46,3),(2,5),(5,4),(71,3),(72,3),(1,4),(73,3),(51,3),(52,3),(1000052,3),(53,3),(1000053,3),(54,3),(1000054,3),(55,3),(1000055,3),(56,3),(1000056,3),(57,3),(1000057,3),(79,3),(80,3),(82,3),(83,3),(66,3),(0,15),(38,1),(43,1),(65,3),(61,3),(1000061,3),(62,3),(1000062,3),(1,8),(50,1),(64,1),(85,3),(86,3),(5,2),(1,12),(65,1),(77,1),(82,1),(85,1),(95,1),(1,15),(81,1),(109,1),(87,3),(63,1),(88,3),(67,3),(12,5),(74,3),(61,1),(75,3),(76,3),(1000076,3),(77,3),(1000077,3),(78,3),(81,3),(16,2),(96,3),(92,3),(89,3),(90,3),(1114111,0),(3,4),(91,3),(84,3),(76,1),(97,3),(98,3),(99,3),(100,3),(101,3),(102,3),(512,0),(1,29),(74,1),(103,3),(1,26),(104,3),(105,3),(106,3),(107,3),(68,3),(69,3),(70,3),(95,3),(110,3),(111,3),(112,3),(113,3),(66,1),(2,4),(84,1),(114,3),(1,6),(1,38),(115,1),(116,1),(115,3),(116,3),(118,3),(117,3),(109,3),(122,3),(9223372036854775808,1),(123,3),(124,3),(93,3),(94,3),(126,3),(127,3),(128,3),(129,3),(1,7),(130,3),(132,3),(133,3),(1,14),(1,30),(101,1),(102,1),(106,1),(0,30),(136,1),(100,1),(134,3),(135,3),(0,39),(136,3),(137,3),(138,3),(119,3),(3,5),(154,3),(156,3),(155,3),(131,3),(1,24),(164,3),(2097152,1),(2097152,0),(140,3),(0,24),(142,3),(141,3),(157,3),(163,3),(189,3),(178,3),(197,3),(25,3),(908,1),(5000,1),(97,1)],707,2090,[0x492fe0a005cec0f403ff154da8050314912e92ec92cea901cdc236592619c283868bc711577f7c28b3ca66ddeeffe6e8294f34eb2966ecec92ea04273958932c400d85e27de11993e6002d84f9480d49a14bb0b82bd3457d70117208f87ab1bc1a93335fec53e7936fda0669ca18e0c51483dd90d43e411e68b0a2365668398222d1c2c99eba36265c39308bfd8af113b94333ce9265e78c38fb9e8ef69f7b8f2d2a6c5c9ad59a8eedf742a12c0d0eafb,
 0x233674eff851a75626d0aff5a812ce8f81df6169234762325e3f4397fb16f3c2cd8e33a0bd974bc8356890679fd9f6e09f8396e162f9306cd9495fe2661c39a7e33291a8104f0b5c33b9995f99488c3c9de168f31222544defa0059c38402cd84f4550e2005d91814032fbae7edfaece2053b6c6759e828a8fd06bee46ff8650bbcb30aedd8f2b94dc0279ba0c928c8c35f3f1e2916f4569acf1c6fe1caf0f206f069e8dcf99aad73ec98973d4ebe4c26,
 0x512158df6a2e1c5058e60521be9fe2daa886998b00432db619bcd66bd8959899ea739bf989c26da10dcd624867b8e8b42a5b7c35435bb5b3e12f149557ba1f5b83c8b65efd0bbc3f89e7ca83ac4c27c028df7649d8cc50844bd8876992c6b3ebb1187edb8d4c3769e7f19efa1d5453db6a8534682e51715876d24bf76d26cba7baaa882bd40a54c07257c69830d01d1c7ea99a129bd8d5ae61e15e2fbcd4f3b3448862a243dc6f153c9608bc5949c1592,
 0x793c057b1b3f360a3e08689320d692c3431b54ad88a352cbcac43e1688f7fda4125a0468b719e2bc1ced20a137f16d7c6953b13a77184ace1584c56bb4872482485d6b1d72f27bcd6750b55844fbeec42720bb6dbdee9c965c68e1051e7f410c6f0894c8df71b27ab03ffb076c9842f3b1e21b50bb216c8729f071549ce9ded65f34a6ef811bc25c86748ecbd06b8ab07e115ac1d7729c42741dd98e5d6c5829aa38e3de17551ad1fa6290b08152,
 0x26326264a113baef388f9b6b40ca298d20501798b29808ac3d5c495d86aa2dcf1d79f1485c4dfdc9cfae93029326b14cdf782f69368674f748e805a7e04fdff515376356f1c844f339484dbd0d70681c282a84d97977cab09541ea34ec2102e5f6f6d59aa457ce7db8efdcc6758654434fcfa68bf41e448909523d928939a01c55b2537950ec160dcf19170491a743f1dc505d387bbbd44957cec7423d82d11656374e956e7015f43e47b6e424f0807fb,
 0x22b27a4a79e6f5bb25bda877a8a0c5c6779070ac9e0c7cdc41bdc3337087715eab3b28bebd9edd473b8209c34f541ced9f8b5abc889a3eb185390c5fba7631a1dcfae72fb2a81da7deb7c1066c291b9a4cb3641b89f634619bbdec891968757667cf824f04082cb707ad13fa517cd12348115d1e037e5780c5f8b94db10fd5e2ffb7348d48a0490284fb073a37385e2b3afc7c5e8718e4c379d2a4396dfa475d8e13a90149f4ed4563562291f3bde3a8d,
 0x2336b23839dd33542e4d4d48aa75e2556398e55bc720e208971413fde169afe82632b0d44979b6dd759f57df52d3777892f1bfeac6918aa16c6383552a7f45966aea7862f5b6990bdf7bc2798abfaca2356ffe40abde509bcb76f4455175833f2e71d9e5fd75670fc263c13f2ab007c9a2a4432a11df02df4944b6a3b077b4eaf25b1b6a37ca7f0374e48af7307baef67369bd20ef4fd23699d843050ace19beead4325e60362a387ec5a1c3ff83bf591,
 0x5d2cd1b7da6a855847d2e558d6b545ee59d7a2a8f80f3404408e4beacdee0a12baa136397f4b26e5c3258e3baa66271bdae4ee16e4278900b173f201397c0a892daafff37a035f4708a15bb588281795c59b933e379c0eb515857b20a482f5fc0cd863562aac7dd74bcc1cc00e6027b83fbb69f61f318d8ed525f5ea8631711b8c32a102ba7ebc31714938af4e2c10955b90f6db9aeb9095384cd1f35d7cc93d18144fa31e86cdf4cc0cabf9607701c4d,
 0x4f49333d8e9ffe51649c2afed7d8fa2fae685e6c875b8c37778636f752915db84df6ab3233c875bfe18af9fd79179abb4fe14f119749e9be8975e6246c040bc7e05fa4e71896b47cc2382ca45f224598f33793545602d4c1b6aa1f56f8054ce58b710414717a97a14e308e7398737d489b7986ef125d00e8c5901624e3a9574c443265e7c54cc76db1bcb1f7eab05764cea274dd4067562db65845d4a6e1904585d349746e2a3e58a9eae81b10ff1ad3f,
 0x238c533186946c72aa40f99f06971fe4001adf22f4cd479ed5ab6802a9b91aba56f3c517eca82749a56863ff6eb8801226392620a137a691d75db5a937112c8f1cf9732cf168d2c4181e365e5a5740dc3fe843bc65855da19800733fd1b9e92c08b1bde51a8e6efb5019abcb62200ae477419bba76b9a5afc399778fa038e4f1f792a95c1eea0e2e27b9f2c942955ca7a4909829c4e0c77fa25406b8a3ab15d59980ed2091ae3f2c452ec2fb40fa32e03,
 0x51f3def73173267db178b4df74b54d40373527a7f27079221f699cddb8c12b795406b4f673df5c0373724d2be71b304a9b306515099000cc5b228fad2d418f0e02ef76fdb1e04d8bdd34e47f74ca3a34b56a8aeb68d845e5d542cfaee5897793768de7666146c0e505df48def29fc08d5d70eff6d35dd5bb1b1e1582e298861911b8350f2d43df73d6a102239da4d98171d6ccfe59f4df0735e7323da21ae4c516a2889aa970f668fccd547f771dca028,
 0x26e6d4463d80e87921fe98fec758b629538b023a5d0e2fd7baae77c24e1fdd997f8adee538a215e1736c054fd07d1a53b5d54ab3a6a99d7e282658faeffa52ef2076a6960d12b0fe1d2c6984d862e0515142b7ccc6bf905ba5f3e74e41dd8aaa31d782b824378bb2768c3c38827dec52347466d8c48839b1f5d78a3ae0cdf95ed990e303fb9d03b2e45a51b1598af40b979b8ad69901c63398ef1a2a6dbea785bd5d718d46cad148220ff23d4732feb76,
 0x4e0c58ef0cc3bac1e76bb3a7c42669965dc806f5618c5c66255cd1f95f8558720127479856a5769abcc2aa645627a3bfe5e600a07f27423911e00527f6d41f22d628fd3d11c3894a0fc7cde6935c8b9748183aa91b098a8683c11b60bbb63deb3a3d50534b346fe445234c06a29d859a9dea3e65c5a554a53a238f51f488da36f3a13d60910ea4d137948b6f05a1a0f2210d04d5d77f49fc4bf6c822b898698609347ab49962332c69eda95cb4acc34f7,
 0x21235b51041abec57d292df65b1abdc84e6a6fda96aa24420b0e7551a8a203edaee07d9c19c3ae8185c09377858fed55403bb5659d47c3875b1e1394c7e040ba98d4de7e853d959fe36250c4cdd8982537e9f27be01414d620ac91f3c430909623afcd6cf61c70a9fa5a48b908db552e0b7e3759f16bd008782e78b29ada096f2e068dc9f74a43fa4fb97ebadc3176a576cafd1816198a6e54dba2b37c0a977faf989f314678817b54676bebdc467ba23,
 0x58d90576c920929b1bc5c05735dc0716acc936c418838893fcdb7e9c02687de00821d1d13e7dd0e6992abca392703d823eeba79ff3d85c4c99f5defd0ed772ddfadae792cbfb31120bfdb3596b15da62ae683c1b6bd97b2f1394c01a6655e593092ef668ba06fed90b822f561fae2cd03fc5ef44f23c77a291d00f708d7c6ae3f20a20514f380654e743f654d0a0ef3785fa3197083a214d3d4584af6b25eb8fbc785f9b653ff83e4fa2bf9df96b728b5,
 0x6eae71dd96a1af6203b6092989c8125d1a4131fb6bcbe65b7d2f6e4adbd6da467c869c65dd3eb676aaeef9be4445a39865eb8f62b2f8b6ea045fc1ec61cefa2ae8691be2572e319fb5b1e61d5dfefebeab0c0db1d6fcce37d978d87f5e6b6a0d5e33d18bcb836c4818bfd488618b5783ba19eaca9be6789ee0956e9145ac70d2538f5b69e361d579f5d3271a6e224c6fbfefb0576535fc307f064020e207cd9ea1432043c7379421187bdec5c0bc53cf8,
 0xd2cb9536ceb5a0fb109d20e6559f6e328ad8f661b5426f560c66cd38074d231dadf6900aa21692ab2d108fa142b3a97975a3bb8948f28dedb757f09b40d7fe528763e1f832eb53e32ebe0e608ac4c8234afb49a1a294eb80091831009dda0d792d5b04c10f235177e54edc7d87aaa0cfd23090d3c504158a5954a8ef4e294f7131c8580c44ab280e9196eb40c700f8f3d862f9f6338718d0b521e6012e1a3c337035a2b75d0781fb8633568fda26505,
 0x25ae8f2ab8ebf21a3e0c5923854c58a37aaa9e60b4f26f363f4cc67fd2e14773ef85f5bc94e4ce08df85862c4391784f0468d093b7a6312a5d5e4c575f8430786c0b8ad83b03b6a58f6822e7eac95aec98a3b2ef3b98c7431ba2dc04dc81d777202e5f8cb4df999676a912006689bb217c3b68ea3520aa370d34f968c6d56464cc175d5764896f1b93814793ab7c7b1e56b7519c28f3350d7dc40ae5f6a66a5751fbc858a2e76d346877c3f9ca741eba8,
 0x25647a68ef13a9fb0df9381a3d27ba3604631ae8673d4a9df4476a5d21db868e65b238dc30427a579ec13c6e5cf01a94854b3590e7de9e4d232de5bf03526ddaad3ae526b4edfe8d9dbbf6fb47628fbd3722e72c55bd3ec81ac80e82a13848550be6f710ca71ea27c71ab43ded1c540b1a9b1138afb6400e0556bcec18163e05db0035b21db35f6962b71df5ca09c35eabbfea32d05410f6b73019ec9557c54ad4608bd01dcad7aeb1599ca34ce09ee5c,
 0x21635f648df2a96dfb654e585c91525aeef2c9f6b9a90eccde1fcddc85a06f165ad5b810cbcae27bf960c7adcb0a3ab506c30e13a6f2b1dcfbc0ff9fe401195437f90dad53e9dc37d7f6ce1ae3ba10eb4a8db67ec38d7b4ee82dfe9e1e370ba22d12ed7185566eb377b907b4896e44f1736e6dc19208cd87ea93a951b91542e4310d2a4f0c4caea53512282ef5990a8229931472340fce705ce4090bd4a93127d46f25a1590e85a517c5eb853916da614,
 0x88f216d49bb928cad818f18a834ed5f0dd245b6a3434b509c7f9695a8125b3d47e7bc6768d83944adb56d20cd7949b503472e6bdf72e089c3a60496c1292d7da453599499f97a4ce71959510a90c818d59a93a5701d8b0cffaa4dc4553584be4bb5aba017507743d620b078feebbc039f3a0743d7d8c30b9cec365f0e0bce95cc8de0fb2bc8871ccc3de15da127071715bad4a94b43a7ac1a204e2e3c4be3185e67afee397001b51b353719b0ec985f76,
 0x1372faef3dccccf357f60dac9c1d9ddef846c56b85887f481ded646c813e517f37d4d76f2a952400364b2642151001a01c99967d37688854ac982842b8e85d2a799e0e9f9ba5c6b3d04a5f4c59b230a17336dec624ab513b22b5a8d735cb7aecb9fb4b1a01f7e76c48563fb5]⟩
instance zT: ZT:=⟨gz⟩
def fz(n:Nat): bK:=rF (aIe gz n)
def aHl: List AV:=[.lit (.int .i32 32),.lit (.int .i32 32),.lit (.int .i64 0),.lit (.int .i32 39),.lit (.int .i32 41),.lit (.int .i64 0),.lit (.int .i32 45),.lit (.int .i32 46),.lit (.int .i64 0),.lit (.int .i32 48),.lit (.int .i32 57),.lit (.int .i64 0),.lit (.int .i32 65),.lit (.int .i32 90),.lit (.int .i64 1),.lit (.int .i32 97),.lit (.int .i32 122),.lit (.int .i64 1),.lit (.int .i32 192),.lit (.int .i32 214),.lit (.int .i64 1),.lit (.int .i32 216),.lit (.int .i32 246),.lit (.int .i64 1),.lit (.int .i32 248),.lit (.int .i32 591),.lit (.int .i64 1),.lit (.int .i32 880),.lit (.int .i32 1023),.lit (.int .i64 2),.lit (.int .i32 1024),.lit (.int .i32 1279),.lit (.int .i64 3),.lit (.int .i32 1488),.lit (.int .i32 1514),.lit (.int .i64 4),.lit (.int .i32 19968),.lit (.int .i32 40959),.lit (.int .i64 5)]
def aDS: List AV:=[.lit (.int .u32 0),.lit (.int .u32 498536548),.lit (.int .u32 997073096),.lit (.int .u32 651767980),.lit (.int .u32 1994146192),.lit (.int .u32 1802195444),.lit (.int .u32 1303535960),.lit (.int .u32 1342533948),.lit (.int .u32 3988292384),.lit (.int .u32 4027552580),.lit (.int .u32 3604390888),.lit (.int .u32 3412177804),.lit (.int .u32 2607071920),.lit (.int .u32 2262029012),.lit (.int .u32 2685067896),.lit (.int .u32 3183342108)]
instance gT: aB where
 tab:=λg=>match g with
  | 0=>some aDS
  | 1=>some aHl
  | 2=>some [.undef]
  | _=>none
 ok:=λg cc=>g=2->∃m,cc[0]?=some (.int .i64 m)
 prim:=λvi=>(match Nat.beq vi 6 with | true=>some (yW 21 [aZ,aZ,aZ,aZ] 4) | false=>(match Nat.beq vi 8 with | true=>some (yW 24 [(.int .i64 0),(.int .i64 0),(.int .i64 0),(.string ⟨#[]⟩),aZ] 5) | false=>(match Nat.beq vi 102 with | true=>some (Kw Gn) | false=>(match Nat.beq vi 138 with | true=>some (Ln true 2) | false=>(match Nat.beq vi 128 with | true=>some (Ln false 1) | false=>(match Nat.beq vi 108 with | true=>some (Kw Ck) | false=>none))))))
 sh:=[(43,44),(45,46),(47,48),(55,56),(64,65),(66,67),(68,69),(70,71),(72,73),(74,75),(82,83),(84,85),(93,94),(95,96)]
 ft:=92
 df:=[(6,21,2,3,24),(8,24,2,3,30)]
noncomputable abbrev PP:=Go.Proofs.Tryz.prog
def T: List bK:=[fz 0x16e42d295d7de31c674bf0bad31b8c7831eaea7e150d267d0dc714ee4e8bdb2a16b7efd7701ac60411243da419450b8746cdb122d0cfd28bca4c393e33fe67e2ab9427870dcef1d91f0b5cf284a9865cd3b5d2163bb083494320f3e65651106227be6d9055f19b86be67042ae17ee935f8579f0450152bdf73fb6f338f9eeffde203a6dddcaf67cb74df27fb21ae71b128c47da5ebd782f1270bc1e7e18dc4d6681786135473b43dc393a0b57ebbf00dcdbb69aa230b8ed56c551bfc6a05b0cf1ca6dee9bb6b64dadfedbbb1b771869398cac3978afd02e68cc33a32523f8f831d67658492a15adafb437be937041536f87dd6db7ddf1b71fbb1661a6a1bd012d43eb269826ad605559be541119f8242e3db52c609b7b6653bdcdfb5a07,
 fz 0x7cbd66dafc03b0a2c5afb0ee5731bd8cc527ad55c04a54a0ceeaa1f0273ccfdd6144b0576e17a944d41f89b4fa7c0667075406a84766982c56811c9284b0ff8b3c9a400818f4f2fb78ea1f33c764f2ca26c4d03eb2997ff3dab718727ddf339d6a0a635700e6f831430886143d4dac5,
 fz 0x4cf751fca8ceeac6d4a94d97a2866ac6078dc4a3c1cb03531b0bbee35e22b7e374fa6107e90c3cb846897965953038f1ffa6c250dd1bd0b788bf6357ffc56bcd90c8ba05e703a043a882017c2ee552f977032fc56e366611a290c91b5ed81cc926b70e66bf5328959bfe88101e5cc2e114fce0c45fa61edded115f41,
 fz 0x3fe2c9c5e843eb9710ccc4379386c76ce185d42a2997e18e64ac08cb097541fd6a95c7146364445ef69709389eaaa29e49efea493482a1df2a810a1aefb9f462433a5331aef89a5d19ef164ff2b4d1d56ae7fdc5070829a674ccd81213741f23656ac486f57fb4fa926791983bacc96cfba0478ab84d6948bf03a7abca061dfd1e55d46f71e650e8e2ca3c05c13db7d0a4a58cad29eac37087e50c286bb8bcb4e99a72cf790897f35b7da99e23a8a3d470246e834386904a996c3ddbac75f4d49cbc57aaec314ad939f34a99a38578abb307701779b96ceebb8ea7b9ebee59fc7d3f321e07ac6b837daf85a44cd88beec87af340cb6d4522192164716d81a8be60e34fd192d2442d89b498a65d460d793495fddaf373589d13fec5a5e53abfeff8bec2bdb64ffbae7dc15ebd18f5e876f02650e5b20e042157cdb3bcc28b23b39159631388ff85e4688ebf39b0dc8f8f97d4baf4bb96cb5c26423d0c3950c11f6dd175b266ef5655ecbcade5c3418c981de5aa2ec42f32dd210d8cdbb4b2d416df67bbf5a753724,
 fz 0x729e53acfc447eec9bf0fe9e78229e0f5366be04fd6da8df7962c2c1b05c0cdc7e43c653970a0d653ed4de17a50d64c5515969fd2c18ce8047c9581474e8f17121da13050037cf1e8afa73fee35824063a3d0aaf954f0faa00116a9f7a40da1ee7b1faa004adfc578e562c6a9669570c3fa64e7f648924411e85bb710677b416f457271ec00d3b7075cba9cf6daec0304c2d7337d6b23992086552288326ead28d83275a4e2fa256ee8c6c21a4e5a45254b438ec7c3278c33656d863232d38bca188386b42c77602cd818a955943d712fc2c3398896a551f2c54498b8486d1335f4d976723ee9b747bd42031811a751dc7a99fedeabfba2ddf67c92d536725831a442e6e5d797053798bcdf8383016d6e9a8fa2e362899f848c608825a0bee5602fdc1dcc0d822a5807a5d8136d117e6ac65fe952630704b2d3e3dd2ddc30abcffa26febc4e15210ceb864985ae,
 fz 0x39b21cff1bf2d0d043104a8df4a7eff6461ddc9e1807c7942f14a298dea42a96579877ac146a67011857ae4d168ff0e71cfabd,
 fz 0x1e39d925a6051b,
 fz 0x3e31be1e19139f8d5ff3bb413590ff6a414d58c1d8b1873c2def351c11d57831f0f519847dbc94bcc1469b5b850227b379f345a14f665859060f99b15b80fefa349ad7da2a904e5fd1bdc86923a847cceaf516a43fca7467242fae8bce22068a88141ce79fdb67fadd8276027270e18125d03eaba10962416cf2658d4a8e8d3fb6547ce1a41094f57280b5ad0cdac6e2b5fa80875297f0e448a85de8d628c5f7d4f7ab0e2c40dfb60984fcc026b8e1592e55aa29b92570b85a34427324d9a1bb50007805b160c6aa7e36de680c06f00db81dee53c7460cd394df628f7be9747659a818cfccc42122a95d1b93636538bc961d8e4ccf728c5842a41a7d818f4f6b52f3fe920232d2332874db6203e58474df8b2defbed603263e23085ad47532f8e3a,
 fz 0x1f1b715c51595b,
 fz 0x1515ec4014c566fb22dbd917c73e6fa0178f14e8a9360b7c2283ed18f8506e392dd8b9352d51d04f5a8d0d153f4ede6dbe8564bf3f7307c17cf19264af1dc8fc4d95693345c02ac721cf43704badd7b3707df5193c8437fdc05dba2b7815751cff16993c65073c5395ca6ac607d917d965464208b5f6a8473e5,
 fz 0x6c729fae0baf83e5d0e8b3eb5a4c712bc9539b237339b351f077c7bf5e774be6c12a7d1214cc1122ced7d76d,
 fz 0x242df928f29c031dd84a0a9fdf2ddba377cf9c5dd197e797049a19e808177ec66d58722c864ef3fceea741f42aff31b63ef102018a704024bbf1b48a87fa3d8,
 fz 0xd5ea72a10600d7571fabf9eccbaba2e1d066b6dbf469bcaa57a43da9acb16b203a63c8c740fe05f34d514,
 fz 0x41f02aa1525c2b1dca03bcf65b3db164b991ed440083908967f81f28650bdb5cb3e41dce1b73d536e882926d50f6b2473e12cde409cb42ece,
 fz 0x4fac15c456b8b136c471c46f8a4d37957a74f442523c6ea3d5b2a279374f53ef9c6fd36b6101160a63d44a9f80514b39f9b80e5db70320904042fb1931a858de66ff0fe9bcd2d66348db733b2b4b8512c33036e24513b992d3ca14c93b492e96a8cba2cf35325c21061f7f3db0b4b99ad16320c8a761847c5ac2c7414fd5e0dd27c723d4f41d49914e042b2becb3f4956e6d6357a6ed33c53cdd3576d9468f1f615e59c53a6b21c9c82543b6a9b5b701150794bb31c02a0f4ad76c03a9b5e722491b01b534f3f5a051daf228da41930433d,
 fz 0x50becc1b15abbfffdfa1ef1ba4eb9458cd3125d579db,
 fz 0x4359a89f79aca06266b10260ba31133c8a62a69e6ec4ec420cf2b8c8f88edd42fb26ed9099f6bd383f5cabe4ccbf2462cbd4a3458279666a2,
 fz 0x33d6085945208571608f018e448b5c6726081ee561aa10c6e15d7272eb92f8fbfc59cfa25a1be35ee45917ca49bb0c15043be14f4168080cc16f02348622759e4148e1928e2da20dcaf9fd52cd8c00ca8968659c046,
 fz 0x13276d08501746ea7e557faeeaf5566261c37f4b10c7400485a4430007908fc8cf12685981cffffb71c78f4d6b2c2699c9c4368504e56a47bdbf3907f41a7b30cf,
 fz 0x31142c4c6e3d9345288a30d6ac8a5209ace36faba78b8326abf9840f7c3e3a3435963,
 fz 0x716155f78b0ee2f14276b565cab1bc30703c5811c843367a25d098c2385b21032821136cd53ba894844ce08e,
 fz 0xc45d5c0da4d7db06caa1d36530029c80ea08637b238d17a0f48d73ff2f7d06188c17bea49e5bd7349d931edef69c3ed3384594ede9a2e48d35e8505ddf7eb5116ee917ea90ccb4d8f9ac35c3c32b5e53ae720b4d0eea5444fae781bd8e118aaccf9b4555ec44546b9c1348e3530b68bdc4483d7c6a81dc4204f968465b23b712,
 fz 0x7210e664eb84e277782bb8d8fee52e2f39e75f777476762db64166ba4167a3f5bde3d9ca27074948f18b8102,
 fz 0x10c3c87e938e1a96e4bb84edfa7658cbfe1ca5cad1938b71a2cd7f4604fb399a594d0c81a093f99026c511cf4941e6e868e526acfe0dc00039e4a516afe59111cf73524b8f8b6ba7a3f74d3997c414ddd29a2a9f90a1a90b8e2aa1d5fa60741486880a599dfc69aa65ab74b50e55bb3b007415a6312395ab75e89bd88abc0eb62bddee32cb66d264c1d046f9e898d0a2ed5451a90a789ea22fec310b08d5c0c864a3ef73e72bfac8821be3360828f7c338d28a6db4a58c9ad99987e616daf3bc02cedc79,
 fz 0xf7cd32aaa429d5385abae6b7325bdf9e3500b059b5fdc6052c988cb64c10a19a504d04825b0d755d58eb9e2ca301b3046b35ef5086fc09b3ba1727c145f19348ab5d49691760b2c16842aaa1291a30dc68cd4fbc04cf89dc5cf32736f06accf116052d1c22cb79e879a081bcaac52313a5561f619b1014e4b7d0469fe4cfdaebc420a63e975d0c137fe83f7561717cf79821ff95db7c17a06385ef8d52ea4a2590d915b789f5e937bae207ae8bf9ccd51569873943b9d3114453db4656e8,
 fz 0x73792727eeaf511f04f89a49401a2da5f40964e74c3461e6fb2c11a468ea93a1a78a633d9d28c3e478a1e5ae,
 fz 0x48342b674716e5826059666779defdffacc5085bad0abd7779b00f32bb5019ab6b458a81b0c577847534b11c0699bde7dbe20bddd472f60f320c1f68603aae0dc53a041e4c027cc33ceeccb1284ab5a17b5c0c287d6d4b2f066b0a97b11172c22709899dc7bf6f73c9d433183fffda3b96559bed62f2089f3c3e2997b10fdb5b3fc54bd8525210bda47ee7b74c7cd30c3bb0d03448f3f23fcb,
 fz 0x593bf63dbfc1403c2b2844e460f00cad71c5559950a0d402f380f381825a2d0ad905e684e7b703b7f5530e3698aff64b69915d50145dcdc3da6111cd2b12fc8805dd0e29150f4f090e,
 fz 0x9522657cfa57c64885a45eb52a829abf2ffb1a302136979cd50c8d13ef2c955a8a280dd8cc5dafc0a337869400240a8fe814e3474781629427bb599ce,
 fz 0x2b309444276857a0f0bcb76b17b12c0bf063177d4d478b6,
 fz 0x63c61e219422a7d977983a24569e33ffb8a235475061838cd604bab5cb49257b47,
 fz 0x999e0ba6918c74643b06490b6a3ad7,
 fz 0x162bda48551314160ec608894a53a4345b008d635893632e8f,
 fz 0x1a408d4ecf8997a79d47d3bb546434b7467559d28661ec830269a780577adc8df269c1db,
 fz 0x9b2611f284fe95b57c67bcadc4a433,
 fz 0x1848e9634374294399cdea17424c822acad8541878b6355f6522adb39d04a,
 fz 0x778c71ff6b0cced6df809551c9b1d186f597aef760d791438b8faeaca1f5bc1a8b0322d3c6345c87feb4b7d9,
 fz 0x568a2d33807a32cdc94e3f8ee9039b9e74e91d642e42,
 fz 0x5e03b235e99484d6d1f2745584e60ffec8c854f3e5f39ca07a4de62,
 fz 0x22c61d6d5bc8fd,
 fz 0x61bc0227950c7c1378ee019b5db5ae80831e53c0992cccea9a27f24595fa08d47596cfa775a6d72a2fca564b26b2ae4632aee8af6cb782029ee40765d907eb92eb053885804e4b56f8882572d5bd2f49840ea8dbb6fd676dde3d780a0bf1aa82948c65289783f409914debb4a3fc571bdae4cd9c0d0da34ff2f0eff6,
 fz 0xb56d32bd080fb63457e4d80efec75b6b5ecf37dfb2ead39645b51eb266e82755c454abe7f0477a232b2073ecd95c30698e0fa8efff8dcc5488d33947d7899d1590bb0df84d00986,
 fz 0x91d3f3fb118d5cd77cf,
 fz 0x86d86e5d,
 fz 0x770c88efab3051c517c8628ca3188231da7181848705301614ba7384b99dd39b401c2dfa3db23ff27cb312c6e43c6bcc3227ba0d69a007d342b53f2dc373dba48aac37c012182c0f746c329427967c5fb3cf980e398cca07aae,
 fz 0x452a4cfd99b,
 fz 0x1e555a153160ab62002f657f4516a98a0fde0e03f22c842f5b27f62f27311d09eb04a3a3668746e152d2a07610fd125c21f6b545ca9c31f537cbb069602243a4adb57d57b0752634847c1d57fe02a7463182e884f3206bf7bac7c9306253652af6f5391347a986e9eea618e8aeea02502a6e4ccc2aa417a6c87aa5c2f13bf0cc92017756a42bc001e4d5bfe775f901726ff92799b6375f26724b181d2f7bde748a21d9932c528fe3e2fefecf9198434410f36cd76bbdfc559b22bbc77d4dc3310bdbd77cb01eb2c3578f303035a222930c614b9b1c2d709d46b113342333b0b197886a6bf0a6ee8101aa6a008edf3c01d37240ae91151c6ca3b47d21567086ae7056ea4ceb2037b375e44008a520dc56aa23e37003892e23f7f7d7a2c35d28efe2bb9ce68802cb03e1a25392d32efd127943d9db222fbec95a859814741986cb620efc6edfa,
 fz 0x896127ac,
 fz 0xdffcd158e3a7749b575a182067e6d6a3bf7cf4a51ccd696d78f2163aa8ab71354ed1f15787,
 fz 0x41b88581fe0304e7cf0c1ccf7c49bcd42a3802608311fe2cc25bffdf0b17058794cdfdce33f4c26829c2d599580b6148ddc85f99c558f04fc3a1a95f0a49c28a93f54a7edadf48bd79a771f57454e4cd97946823adc548c06b29abd04b311b655a8e5f9e3be3b8373758acf0aa38343cc42010ff6e5387bc5ee80b536b0cc631b08f772080fd7c61bb6536659058,
 fz 0xd4e1507919c0d93b8bb19b1ef6ac260390611a3c63c36f4b01871671951f65b76f01db09e3ac0ab2cc743795b04b5e1e83e94029dde458533e27f6efbd31aa2db65695201325b52fee97476f397ad62e3117610d2206b559cda79886ba12438490cca7f8739086d9573db498c07e53ef43f2f909f40d5bdfec8eea2bea83904c188b0301e8ac7c1c6a96af485c816e2f053a20178e4afab783b45a0fad370b037d225f776a86160d048cf72d1d93a76604a9a59eba81d0e078bb223640415491639c7366a84aae68f0530c94f8ef54cc8208ad5a865f98fc1b5835396ed42fe1bc3f18526e01e3e28158e78697dff12b46621c422c87bc959849975818d5bff2a6856c86ad8128d58c5475d16069a56b72316df8d1243bc8d0cd80781d8990c07e4b67f8bd68781967552a3cee4bf03b414d1128968703f70e6e873,
 fz 0x1b03dd4a6a8dd0547a7d229d10c89d9d3c7c4063fb8919d98fd94029ce697b2048b81f172614320d8393fbd0ad829af16d38c19e9d02b809568f7c3038517b1373a91ff7003ae6080dd54883e9dca39d479c53cc03c31f89b3760441005ddc192e711f0c6add81003f349dc93f650d45231ccba947ea702153e0eb28d342ee68ff2e4a8730ce5354115f23a127bc194b48136a1d2508fa5ddc18cada181ea46c5bb4dcc5147456ac7cdd28ed3ff31031fef4d6c31e5fcb0cb0732f36f950e44367dc1eb1a1c53a8c59be8b88afd5bcc606aee7d5e7d1a5ec9c6cc41b575c368c0be8d511136691f5d2a41e5ed8976fb1971f9d6b59d3bad9a4ebe7e8325e9e373859d4ffb9afff61c4668b4f7e,
 fz 0x210011721800ed5df392888c1968a78700e8dccc02cc1d26ecd9e0b39943281030a0b23ec1505a9b17ae94f77292d4,
 fz 0x5bc454ef3c4af3138c53eb76baa6fe5c5bff327840d1,
 fz 0x992b7df23125550e24f,
 fz 0x483883e8e3c,
 fz 0xc671ae4f29af7385fe94a420f1e0f8b4c3974900b1b42efa8f8dc5e55ddabba348335279d3fc37b7f81197012cf43f94e9b1fbf910fe6831537b1f001c635222f13bb5f2e42139437780ebc03d35881ea4ab9e3d5add8a31df1b50be789d01be496f5a0d57007b8c8f55e32401372143e875477baa258a6024a9ef48f48e26f311cb6ec3412aef3774b0081d5d48f63fcc0dceaeccd1b7ae88a78dcb45a3a4f95a8eae9475cdec7f,
 fz 0x3975ad5b5dc9720c5b7da88dddf41c7a1eebfa98312e666788d70236e8e523d84483e613e835aeebc9fa78c748b5b66eed43c44fc1cefeafc6503c39a8b2be77b24e20864b617d924b57b382b4784fad63297535e46974324c765c959d40245e9b6f39908db0a0d942eda026f87d40bba9a5cd5429e7d0a8272bc6bafb14964bcd6525,
 fz 0x1e1cdbc39d7dd2d162192d4a442f0c3207293f118896895c07200998fa0a1bd2823e663ef55b3c33d5be2e55556c1a0f98b615023210a0173ec58adf4c357cf12fce8a887d2fde21ed1a842f2e78ba0de0f95871b1f9fd,
 fz 0xb65064ce42e02bd03c3096dd429a690c6f700a461,
 fz 0x50621bd4788716d0108b3a121af4f2b6308358cedbf4c97763058d0cba01128ecab90f09114403beb0135bf2681b1458bbd24586243c5aa4d8e1c29a57371af7df907b598746d501996b9542f2f89b7b2dfa2ac4fd499663f5cb86ecebac8ed784135f047b15eaf1fd2e8678f04ef282d21e4c8d1105021ba92119068d9496a2d1e438266edb185d6b5109ee38545c454c87d0660a4015d513,
 fz 0x2fd38520e9f40b12051c3a822fcf383c0d1e4556c938abb,
 fz 0x35d6f10063565db8d21afa814f2058d1dccc73ebb23749b51d340d014ddfd15230438600c2cd40e4baa9d6bc6fa327ba5c1f8047b9ed9ad70fcdd70098fb2fddfe956aa8ecdd83411d66cf990b092b27dbe60095efde9d4574a5c93d8bc9be7303552249a2a192d89fe70880927d1160ba15340043be9976215707c26c1,
 fz 0x1e8ec2718481e63895564085c55fab466850f5b10aed70d4047823a8e363160268330dcdf67741a490d7f9ec3a1074f16c44bac2e7031e26bb7b203e8d25c44683bbe7534481fb1a774d6845fdd247017588f0937929a5,
 fz 0x910034e4,
 fz 0x21433c0509ed5f3f28b8187b93221ed9c418ab67186f882c193012c5a3aa80727bb1e709f8612fc7838e27d229e370b6cbe4c1a453fbd9fd8214811614fa8e16650aa397c4c5c462be888698463daf923b1a6879203719c095be2efbf,
 fz 0x918528de,
 fz 0x556e2efc340eb6df4ac9775b93ae3e719e9d84f8c3c922fe2167e825bc8433b726d7d5c8eb1f8ba97246ee67af72ce4c4a5bd0e0a8df62ece5dbbc3b7587,
 fz 0x2600d72ad17806,
 fz 0x48e242c9844230517f5358feab78f6a3b8164ccf102c057547a821f7e97d32f4773924ee9e8bb6b8c43e5bed7b43916b2a34bb,
 fz 0x26238c1f8512a2,
 fz 0x129b2e03bae2fbff58fded5383bed19b471e07b9e8d464483048d72a1796b481320ea11988206d4e82cc4f5c66c0164bf323854c639dd26a05051b3d61dcba5d9c1ae80483d6363d4221ab829b1c2b91893a70f290e4ae3213d90a886596ca31192ae71,
 fz 0x93156c07,
 fz 0xc70ff696c85feab99a4f1b0d9a5c32679c9b381d428d7721b6bcf5c21a45f2364b3937d45ddbada732cfa7a70f8b8b7b3849aa762df6a3889babc842ac5fdc53964d202b04bf52e,
 fz 0x4b46bb42e89,
 fz 0x77e7d4b7d00dfcd30543eacd824d0d921cc964e27ed48c30e4a1cc3c96eb040e2ff41372048f4d711b21681988626ec5a861f118e663b12686fe11101afdbc3b961b883dd58ee6ce929304d95030166712f5737a,
 fz 0x19152a963e16d0d637409242e243511fee8b38fc9853b43e75,
 fz 0x314286ba7cd34003e4c0846c4c4dd05eea058f4fc5ba75a,
 fz 0x26b49d2650e0d9,
 fz 0xbddd362b6cfa950fd4132be04e055a8afd26e4cea,
 fz 0x26d7521b09df23,
 fz 0x239c9a437f83f6f67eb60fe6641b201c44b0a52289798f20447f9e029624fd49c0b5faf4b4c1726a22165b9c101f5b0854e3c7151a86bb07060c394357069cb7617a0255bc4b19eaa22fae6aa8f395b494ba8e8f8e4c981a6773b0d0ed6f16053e19be1c7c848d5d93ac992497f721fae20a0d1f733d2850b23e7ba68a6e67c453ac357f29151a87c192c9b618570dcfbdf90ed8f13c41e6637c0fd13891fd1dc93b204b7b5896c2d942427ff7a23e8c753fe4433819801a77e5a84b39,
 fz 0x9677e59b,
 fz 0xbbc19574be3a9b6cf11799e91d1e2e860bfbb26313cfc52918c291a248676601f12ac69c7db614a2132867143aa80c8de50451894ebf5c3b66c96db1821b6b51dc9e,
 fz 0x274a8f0d81e897,
 fz 0x27ce707324c4c467508f3dd0d16834e16f5fc1dad4d48019201b44dc480a6df23ae78bbd8563853f3afdbb0dc4aff70018643896654c79792c830d1fdc4681f0375d7675ad3d7fb7f0901bf22f14f496680c129bc20f48bd2719cae5515836dc4940075a9f60e0b521aed7365a6b3cc366bcc77a2b295ad76143c8373d2c226e3aa0e15c4fb70a72dadab02cc3a4d144cac9a02706,
 fz 0x4386f65c963392dd9d27147dcc6d3d3dc636fa87ba96b47661b39fd45501223432b79424a712bb68f2f6c20ee0f8204d5c58414d6a7eb982ccb6fd1f5a6ff8b89c1b26f9c572a59b9e38e6bbe7bb601b898ef5899869f2a3cef0aa590ce874403da2bd0c57a6d39b9aac85ee0594557a326d097a3b8b55953fb0b534dda0a1462ade2e0a9c1d45360e1f6a93a907a433115d645fe934b5c8772b26a873b2e4882a83969ae80c9c4e92142e4a755dccf724bf53c97ac94ea53417f41d02c1070ed10320dc181329d4e88e4cfd414b1d84e4f6f2588627b17aeb6b9b3ed2fa8271973f1f54c8b588524f584b125d0c63ff3d3fd93a972eed6a03e39ebf2dd258f9457023245dc9dd2779b5ee9b2e2adf94eb1340df49278,
 fz 0x917d6581dc0a163e5fc15741bb5978053d274f45f37a7e14581eae057d327783948d3a2be46f1c5ddfd5fc717ca6df39492850888fc24a9e08e8b17c645c235e2089383a327cd418cfcabfd597c6056572c7e15e7e3d2c65fadf2799e0fb81,
 fz 0x76fd405aab79405081a17d3604cc123213efa42a0b0d889b15d361f75170fe165b1ece29eb6ca25169cfc07020fdf2bdcd4090578924dcdb36a0297ff3d4bc5ff31b89db75f19c864dcd164bd3e0c75df74256bae12a2b6923211ac67dba3d78926495fdedba2a12feacec25206c0148bc16a60fdf8aaaa2ba6a0458f6340e6eceed91e735aec49c58030818478525a7f482b630c825c58f9d439501f6aca057dad2431d4ab67b62226cf9347eaaad48a71cdc4bb30a7e6cb63bfefc35b21f24fed95cb22c02bc8414c12fdce0c8b5e55cf9905182025b224a144716521d11b005b1042f09407d10067f10f540f6d95765d9523d20389cdd975cea41434c69b3dafa6a275317dd2c1d82eaa3ab39708b6a6c6fab1d6fbc963eff3407d8e3787514a49678937e5e51a9df5bc1989870ab28758e17a5af15a06dc222b4dc95174bc6ecc6f05a9a5452b73d1809a6e0585f7e34ef2024298671a9a5ab76a73740437dbf4af14f9f34cc05f1a,
 fz 0x9f6b1a46a5fc54812426208e6fac9f0648882ce911730fe666d4289a76991266439509bfcae46210dffeb33d950ac51133ef497cd3bb826f0633c28d0a495e9d182d0d374a8e65b0e20b4ecb2994b5a567554ae6e1586a069c50f33ea3e540e1b6681fc527c3960364ef3be0b75e6f4a37d9f1e4d84b572dacece76cf19899a7a9f990e7830d1124fbbb4f4cb0d9a3d9ddcf36e2df59ff1bfb58c712c40a8fd8b72186644c80c446e807349711420401b97034809bb4112d2c914b8383d69e2cb9e5b3b03808ffb384d76a4a8c48582468e04fc23a09a8853adf914cab8e4e0e76c9a0ede60d732b532220f25b335388afe36bd18bc6ae42a76f56315b635bb5ee2ad63dc8230a42848de3bd5923afc9720282697bdc3b49f33997268e4c0727,
 fz 0x1576eb25f068c34c2c8b8a501e35dfbdcca6f85b71588e7d9b08ea0034c8e2cf491372744f21d7bd3a7bb9c7219cd80e3aa233db907f7ebc38cbafc5a247ee49220b2f7f36bda785a0b44bd3191e3abfd0330d5f1ccb7812583825c1f074ba29981653120d2ed6d90f,
 fz 0x1cc5ef51f0c2fa755a8eef7b5d54a4b8c69b50cc271e87c15641387fafde8,
 fz 0x743126a0fd2bd8be00afb0c4af14db93fc0f7d18871e6ee46a93aa3ed57109552a2aaf29bbc26d20fb0d036b347d919042bc462dcddbec2dffb1498aaec537310e8f03276de2a65ac4881d97e6534c44c62fb50c5e20ee11109427d1ba5ac8f8bf388359a68366862ea657941c5c24165a7a489935b7bc23795033b3ae36458230e39f6f941da4f703faa7b7a598a83f0f1cd2a5b5717b97fb25d6fd68c0b3f2f33be534a70bb85b160d9ba0072471d28114509b44451131495eea9dbb650b49a15948529020949ec52df992f345814c0786dba58daa872d5a4eaf315efe9d50272a42c2c4b45c6ed02b172aa4c86c8766f98be495f5e9fa9bf6d34611c6e87823aa86309529f2950c14,
 fz 0x9d6d5a4a,
 fz 0x2b7ee73d0d2f527716357c1ec7934a4220242d669cdca3e05172875a3ae3c527eb859758875b014c59688c3f840452094c63b97144ebdb7007af,
 fz 0x9e04739a,
 fz 0xa3c3393db3363faaf38f9afc63c1f9f926162e01ee6b3b3e84551488e3b1feb338cf27e90974e85d9f50c848549690f7e079be6b564a6c003d3556abaa69cca2972abc14e116fa01164a88f4ac72a3bf84d4ae14a15c3376c18c79c9d4d201cf841b731bd,
 fz 0x311544a456b4e996d09b2e6ae1ceef16e0f4d80b8939b0c34e903791d0cb60f7d2f32ac4dfc0959eb225e172ff175e960c6651c5e59af25ca8cc4393c8d272ca1822e787e892d9b69b1c4bf37fe2e33194772d824a5b6e1cd4b1025ec0569c06daeb518b084682125cd72a49539302db733facf33102396c40a39685c6b963d7710e46a472599830ac8492c8bda76b0afd18e11832d74ded20c3f76c7393870f,
 fz 0x12ff6ea7c505c640cb134675d386a5f0e72667179aa34ddba3eea45b02bba568343e9f79357ba76f046a5cf6a26196b4b,
 fz 0xcb4ab222af023ad4050a5f87e5a2492f6dcb10313,
 fz 0x30e16caebf5491d8b7fea5ea50b228b45e53,
 fz 0xd7ec323b3823db0242c77510131704386f4b84d5145cd8b51eef01ac3622d9dc0592ce64d7f11c34a7de8ff32d4e9b9748a75ecabc0711a919086ab052840e57a5fcf8affcadb49,
 fz 0xa01a0481,
 fz 0x10ef2fd71cfb0c5d55290c39c1b68a7d3aaeb10dfe180360b781a58276433ca979a0077c93cf6b412993a4b7ae33a66ce6485feffffe4d2979b61096b84c79cb7f4dd8decb75a812ce5bf587b0d245abee6cd9d612652630e43997aedd130bc4c07d534f8a2824c5b9334194a22434dcdf21ce9834566033fe73eb1de490ededc0286ddd0807,
 fz 0x4e6fce1e2bdd877a4b0b2aad4f0b5c054fc24fe0cfaba54d53f22e24c2f13fb8b4d335ca109d8a8428303f47463ec14a1af415a20e24ddf4115d3a3049817c261fd201a896039dde7c3e82fb100ea202ece33efd78586e24eec38e212b148eec8,
 fz 0xdce3de5eda35690d4ac0027841a3728231ce87793def1ff81f571fca43145ed68dc62768315c5bf299daf23ca0cbc66a15c40b6c22f5e56d5d902adb04dbe30916233d3c0a63f0afafb6fe0c6499909888c0919fd0c5362915e98ef3034883dafbed8336a8373470c5c69ead4e48edfa53adf8a752c504e890a94d43b485165c9e55b7245ad83d4c5a116c6196ee5ab066be59a0eb74173d22082bade84da95dd9d5052198d505e03bbe73caeb56d3af8916a8e43e0896eaea1d5e6410fdc7d54333593e31840bb70f7b64eb36df319562d4a711e3a,
 fz 0x21ca3653c2e0925c9e7911964d34381b16939da94dd82699f9602d990776c0755b43c0887990b88f3970ab657729e757291d2ff266cd4abfe9905ad30dd0d5537b17e6b10cb0a415be5fbfe4d93ff6f7fd58f1fd725fbd46ab54d0c6beeb54c931dbb31be4107855ce4556768ed75812fb4bc95d960827933cfb859f16c875081893998b319f2df51289ecfcb1cd744cf8aceb1500d0398410ccdb3d693ad3e0cf25b9676f887012b07441177fa868ce6826aa3c91f84d6d66126f720372c3381edc9b4d29b6bbe8300c4fa2985c9c9e8a56d1914b9881c72822565bb945bf197fc9e4d3244b248bf379a34b3a46a5116bf371269c9d19d4f869eaf1dd8d1e55abc5e00198c291116786fd99381df3b91b1d6,
 fz 0x260173473e41ee9bbc8309e61f0d1a633423c6d63c08fef9d0121a606c9911d79f0ab4795ef656f6e18946ef1653b0,
 fz 0xa25fbd2d,
 fz 0x79a3488cb502da6e86d4832177842b58e752552115394c885d19792ec0a505d66a3e410716f84d550774efd1e36751026afd6e65b8f7d800cfebd16a85586d1b99862e4f886077f2dc7bd001bd9b5,
 fz 0x2e86f18c706b5881227280ee4c68d67fa51a7a7a707403e3056b9f29e523692c8c02e6162de6a90ab1a9c3f2eb09aa637b50222fa22b932f0c064989d2d2dcdda16a470e1b881b1a150316a4012b433c7021e299f1541fbcd415db614b9db7b0b8027b2b3102aea30d4edf1d09c8ef9447510a97fa8fa2775e8858a3c4910f01a849f9d5c7b22a88cfd69e2630b4b66af6ff8e3ad382f0f647064,
 fz 0x2939f071702253c8cdf13e9094f9bdac1710dc9febc168c21c5f3172439605c1b8c43cc74ad31a699ea1c7537bb24c1b641150dee31402ca87d5eda5846d92815e801a9b0a170a8fa31508b75b74347be8c28542b8d10bba0afb7e594599c20436ef9378add07d0aa8f60e777d8105ce8d27f5900aff97b68c28976c6d204d23948473bc6c856750a915509df9a95b6d54ef026f8d1f01511d9fa196fbc5e810780d8f79443bbe7d7b51936db3e3d97a30dd940b4e5292bc706a3b1969d830ee2110f94dbd7f065ddb159410c359225d5dc8d600422820bd3b498a0acfedfc4d4281e55ee1d62267d9f714dfb9c9db54,
 fz 0xa6499b50d15b3f51e2c2a21cf979a5e20f0cb94743217154ff5a698d49b1908ee8a4d92aebb411da9fdae3c4cff84dc07d6af948c891c82b23dccb08942d4303655d2eaadace98012d3716d319bf8b54c1979524b1f299f7166fc766d2ebbd2dea5adeef50ab660612da92e6a15d1b41a836f8ff5ace63ab58a0e27282efeaf5775e17e465487086769548b6c2a8817f1d58,
 fz 0x442dc4b33130e0adfc5246630d4be2c90db31de2afc62b60bffed3f8064ed9fd01d20f4268b1f8e4a28cb977119fa3ace0b0b305e0e51feb6280a0f52ec82c8cc46657d3f97ff14d544ee7b182421e0b1d05c97e60c,
 fz 0x3a0c2ba399db4e19645f0149b2c40ec2b8f550056ccc04d037eba0c55079f378f55ebcce380c841a6d7462572fd1755db376ca4b484ca46be0dd820a9e2f7755f30d418e74a153915543f,
 fz 0x36dd8274f829334453d232ee3b17e6def8eada2141486b3,
 fz 0x7bdfcdcf4c30c73ade0b4e42b6680899507d4509cda0cd83a64f561713508f1d3b11623f02dac04464e7f6ab4d12695f193c396dbf61bb8f6f23d4187faeecc094f0306df493edf7ca91272686fd4,
 fz 0x9e4acb411cc1354c8dc90718178c809cd306777973dfd775fe64a63a08a598907ff550c51329c3da4f3e1d82ee93fd0b304e0972ef662e6f0f83a1eb43019e45117ff8345faba3521f476701345c678b52edc1879d0b6018a7a19a5c43b63e,
 fz 0x5bd6e9e2150a0f0f85f172,
 fz 0x34b42ec08465ef41084231123dbab5db5a1eaeb618ba4813d152902c40b9acdd21382627915c0aa471366a5f7a09904ce5c4ffa4e89d7986709a3d9cde4cfb382ed7800aa520660487a636f1bb6b4263d5564d3c9ed45603aa60e3a584c1c6ead504957b5787965aa0c1272638a6e2315586d,
 fz 0x5115b8166626a1ba4ba13e8a2e618d8fd904635b9024ac7d4842d124750911f3d8098345ebd3cbadaa5106a7fffc28546924c8d647badfe31ef006dc04b9683b37b5ef76405cbfcfabda885663b23c13bfb9ac144f5a73ea6225b12d9b43acd64,
 fz 0x271b51f77122d91249dced0a753076fc3f9c4259ee3215ef5274de26f35d1e037615702e7cd8ed4a1c3afcf77292d4,
 fz 0x3324f6f75a9f49cfcb0b0a47bc1b5a4efe82,
 fz 0x517af9882f6f7e52dd15b1d2d3218016b0db9000ff8bdb9bee0e36cec22a9482e444f5709240f94cc7b9d09d0a0d26b20a58d9f71625bcc272e9b2c71b50c75d755540272b0206d1833e9c1220ab45673446a893ce5897643a4ec930ca6c4af48,
 fz 0x14239d3b9511142cc579dc5849f3f34a7fdc6cf494b0be3d322cdab37d37897b3761a93a5bfa66428b8209021004f3301868f2176d86613239a92d5109c3777464a01c4a5915f8ce6f9b9872bb13fc81fae3d52f60eb2ea7b8f72b5b9941f0142ce4509019b32e5acf32c66d68c000dde7aff33a97a2a8eeb46423dde325eaed364a3943c2c5517e9dfe0f13a3ff44865f4a789dc53d810ea5f40a4cb3b8c45ddfdcf3ba848d060982bbd9aa3039d2e8c9cd56219f2c9541a37423685058fe30ad91e1bd5162d808f100a6f8db1b1c2a25a1452b0b7be94461186152b7ef533cbe1c3ce23491c1fbe3988ebde94eb01d49c86c303c3341b09cdf5b1ded4dbf7a30727ab481d5ddfe76c7295f5cde41b27fe1baef399c48ff3189aae311f7de7895d0044d39c1d5fac3ac1f4f143ed6e812de5d88acd0e0e9ef715ec281e52037070f85d1423ae77358221361f0a377314b2c0eea60db7da0d0716085a029c3d38d73196f713daa13b185abd9689b70eab2de565e706cd2a454e9,
 fz 0x91d510de3fc4e22305ee51e133928e659f40c94093c52fedbc47405253d91cc8cc0406e1a5f19eaf1f5292adcd3368c2a1031ae3ed1d57253a708295d473c2079cb571b32f34723c99aa5e18c750e666f8c6453cae0a0957317afc31f32ab2125deae99a6e09cdc41886f961ed402931867dfe757889582b3c98b9d0b6ced7051171983fd94c411ea003a2aa54b6e90b8dfc90c5309e6cbbf9770b7d092947f7933ea0839d8e459aaeb5569eeaa60c5a18f7bbde5cea79301e28fa1e8bbbd57d92e3978bb8af32c159f56656e45440e9cf971b66b3a152228ca8e70b595bd67bf1ad6f73e327ef4d25a94e79997bdebecfc9e79d3297913d5d326fd1ac9dbccf3e3b192dfd2d9075261daabff29b94b3b6027fa42b61eb2e5079acbfab08e6578f3625258f947ed86745180a8fbfed34a7e30e13a193718ebdef3b6434244fde2f00f94424fc77d442f1ef8bb3983d9d566f2b154c44b1de60a83517d8eb57dc7156f4ceb685b730967a20e9bf666941072eceaa3a898e258327f0e0fdfcc001bb8a755e49591c80b926eba6f1d51cf8762e4611dea7941ebccbacac126c3d9b2b8f5ca2c79eb920978be9e0131313eab1f04a83a181b6dd92e6eb9f17dd5096344799cbf6969cbe4fe119ab43989e011,
 fz 0x8d111b8b4728b441f8d57a505fb0000c1910e7183e7b3c39ce4ded0c0fb5d2fc9c92420a90c73,
 fz 0x40f2e1b3bc1a979dd61ad23a03d1dfda738a254432b35f2e71ca5d75062c60cd1fca8ea3da41663deb8d74520d32d4da97ab151b4ec61b741ede1e33189afc4cfb951ad3712971dd6cf0eed225e53547,
 fz 0xaa71f2cc,
 fz 0xc8e99e635e9f3fc556d9526abf4553,
 fz 0x3fc465426a40199747cf70087224da60320bbf5093dd941b652c706f9fedd892a4b02e25301b080915197330aeb90385d1e82bfea5970d274487239ee03a669172e0009fe0a190c20b56cf29dd1b732c7cb274f60ffeb1c34670d0dc66c62e0d9ff22e296d75514038f7c5f68908477a09ac90590dbfb3ab078243d6ac4,
 fz 0xe7c339020107c61ff6c13b9fa1da49f761d144eb3ede331f1cb6eb1fa2aeebef6e9ff02f2cceeed6b6343b18922ba67c09e5a8478a262df4d3fa247f95679a7afd8f9f99a9cd539,
 fz 0x5cd39e38a43d7632d4932dd6e26384fc54f26facd498dfb3d81387c6930f24d66ddab794393cbfbf9fdafb641f84502b25ed4875f562e41c8,
 fz 0x101f5d86caab044fb7674561e4bfb7fd5b8452a694be26d599139d972bfcc7e8,
 fz 0x2cdfc6519e5091,
 fz 0x1af379354aaff34d655b696e1236c65c57893b5,
 fz 0x119490429ef9dc41141db35dcb520d1423767dd2667ff2beb115313c648858ad12ca85a161b,
 fz 0x6cd29d24e9f460b11824a5056888f1f3df9924cdd2853b4fa54288984da22b11fc44799e3a4a51b53694df4c708779bd6573f6c77c7c52aa34aa4a81953e6b0b3f036fb4ca6fa0854fa13e74d928c20bf67dfd9356bb19faeb9faf26c27d39e55750e224e7fbebd37ceee901949add74fcaee729733a838c0a8b842b9f6e5e59dab549ed04dfc0592c86877bf1630150aacab9d2207d640cc2ab5be8b02c632bf9e448ecf2d5f563c7d1ef3eb9246993bc284a949f34780706e3581cd27fccaed77d9fd4d580cbd7d362ea114fba32000f9b22206686a9538337d4731c1a2500d7aefbecbf2697f3df40cacdf2529a5daf793815f289ad66c8d99e7be23417,
 fz 0xad4f1e98,
 fz 0x7aaff68fc04df08d97f4cf9851821d22a8cc3014a54b16aab101100,
 fz 0x11b46f40b12b03dc1824ee378b30a0bb5373635e40dbd45be12d2f0d2c2741e1b2e0fe7c0b7,
 fz 0x22bffe56c43bcf0b9f1e86a4000a5e1250e20528ecbb6d119dd621cef5d31dfbaeb7c0b7,
 fz 0xe94ba3735f115eaa530c3fc1054c6cb2abe23bfd70594a8d3a62992f401a05c143cd72522682e83175d984b4cc04fec1e8f54646748588adaece104d68f78010b2f88440b1d7764d7d62f532a1fb12cc80b191a93df1c0ccf9247d3dbbfd2e4f192a734dc156ddbfd4a6c322d7d8666e1a726219888b54c9c1cb588627b3a1d4c969346685dd733155e2f24d6d09247ecbb397ca70202bfdb261389aebe12af038933362f300b1d5142d1b8b082349963347ea20a4f8d4c4722d096b560127b4eaaa294757bdeb3b784c34f5fe70564ba6c9624e5837b3e6446b6507c61d08516afd2670b320650c4459b10b6b5c57a9b07e7b2eff9b11fb5f601b5bc9a9f4002742f820554e6efb68582bc346814918e7b6b6eddfd5863547af36efe22d911e11965f9b68ff0c71f2d809c775e254834077c4301539f04c2ce39bc0f621e49af50319b438e1bacad92071ed1ed6f01865e693ae9bb98a37454065662905c86c01eb7fd98d8a0d50b3b116cc2d6d33973c742d1b285ceebf272c714b31e21e455b1ebf1ff58de193c862c94912c7fa7e9bacacf5400565f56280db8cf91bc1c6ef9fb4c5faf4b8d7666899f03cf208b8eeef8da770429dd414b199c5c2407,
 fz 0xef25354ccb111797ae85dd5f878bac1bcfc26cf7ed66e23cbba1f2390c2c21f118042db65e84d1c4d24a61793b7e16514b95f9812888ddfe6bfc05d6e3632685555662a9f3a54ab,
 fz 0x5b927bc6f275b5d8348cd2db84753138f08e8bf0836088c812a30e9e910a283e9bf5f2c22fa03c1df841bbab44bed2e64765d312177e4ccfbe88e8e0e6138c53c8eceea7bb3e7c3bba4a47341616c81df9f030ac91fbe3fbed682e69c35299364c62b926736ede817d77f60ecdc032b60fca7d973eb75543148740f4c43150c90b2ab3aa594035546d807ada9c681c9efe756de,
 fz 0x322b7e1f63183da256b347202,
 fz 0x7da0efd4b9506f9b8796a631bedf0684a5e51a51de0207448c2ebd5,
 fz 0xd90388c7016ac62602f2501472c8eaaeac99af57ee609b112b74b67e86aafe79c31f1ff7428c3bd44f4ba11d016e4e7d154b23a01e3442c0e47dc49bf6a3972b727a3bc3499d5b6b303248f9a7931d9963617c2204ad5ebe7a57484647c3757aa662ff62cae909675dda561f6e5458a,
 fz 0x3ef1e9e1442f970c89589d29b431ee6e9905308f9b0a3cfe8e2a8202c092c207b940c23b630b4fd446edfcc7cc317e4b7e8b088d8b8706a0bed21bc3c93d06ac91a991216c6200fd4cceb,
 fz 0x64280dd56ddac497f7282d11b22ab30335f778dbc22ed0f4dda753b149e8b7723124e5a1115a39357515a9fad5222f6e813455b3c1d7c38a126c660fb1fa0b5cd6bb41e61a7c15d2a4434836a0db27e2fdffcd8da5c7a3b77d7128f2edb5fab4ca82143a6ded5c4a096f652fe3c5320d410f8c364249e36fa28f58a63a25b2d93cf928a632f4ff26f2566c887461841bdb8104d8baf416c4bc,
 fz 0x3da3a012181effa0a25d31f88818367945ae3dd204ef733473216eab09a0282c3371b36cd66ccff8164a315359cd1d0d44957f3c29289adb87af9201468fea85678f329d2480f2c135d4a944fff74823381efc8888749c461e40694c394d62d284e883c82c85737f6ac824cd4c8faadef12404b7e5b6ee0c,
 fz 0x1dbaa4984a0af23c77583f79a7ceab0eee20867b562e6f6e3a3a54598f42ff7ad13681c3cfac9b85b9d102eb7fcf336e436bbc1fffb88a25d5b4d295c9adead5e9aee0c6a6af4,
 fz 0x1ff6d828a89b0d963e7408a1cce92c82e1ababbe7d3047f97683d463f29a3b32b8df402480f396fe753d318830539f60f0aed51522784e61c80a5bc47d9b52266cf8ee6e80dbde82373ec9e78bb83f3c24b5cc68b49b13fe2a5aee52e7a28aaf32a6ce348d6212c5b324381980d531442f5908da020de291da9415e4b9b229e3e17d52d2e09a21f24a76660d01706a27d64884ba6e24c05a46d67f7aed03cd1fc6195681a160e38732f559bb947f20ab0c15322d3e2c01f0194cbededb22bfeb7ba249ff60e505a68fd81054ba7d09a7e319e18fcabbd4b7e23c7ac323a9ff1526778b5431b5fcf09e80490a83617e1de3a2e231b877a2b1257115934fdaec20672df4560da9440,
 fz 0x11f896e6d8b180b52e175568721b39b380d2a8dd13ea40eebf123911c5b8c036fb60f3c221d5f6cc2ef7812cc8e037b34d39718f4fae4edb0bee898723cdedd0e13e33e93245ad528f90f7b65285990baa494e,
 fz 0x53571d1b73f82e99f72e365b55582d058f200920a2e0171318ba8f322aaf40d5aec78e28578e4b2b045c386c576,
 fz 0xb17c0500466ddd0b46894bb2e7a837ea36ba4819437d300ce1bfb7aafd2f85847fc6ec677c61b9c1ae34f5db29e90f85b14,
 fz 0x1799ee9cf59804708e3a3c8d8e6ebf51aec81ba4bd408bac7d3159c44d0315494dd9c05e9e550437d0c53eed9c79975ac8f4e85198e6,
 fz 0xd633989f3282e55a7e002137f4c876,
 fz 0x17f26ff7ebf531035ce5352eda2358aba462f98af04829bc186ed80a7378e7bee467e71e4223c1cd995212529450daf84cc5c3809e25a2b8165df737b0e5718c84685d46caa815eddfdae60bf73f971af0a5d3aa32d562df892c01e8dc9e5d1f3557e5997e9b1dbbba48607d35abf7ce84aac1a368e0e91fa0505d12d5d1566aafbf0746e56ac4d66478c06ffc576b0d0d0e216f1ae393efafa23fe758be540e3097b273c7872fb0ac7324de30802051a47b93cdc88ba787aa2bf5fb8bc2d061037d9e1d,
 fz 0x2ad4e5e153e679fb43d1abcfab7fb13c377d29d9488b81cafa7e862814d04069b2b90f4f032947a626b3af87468555,
 fz 0x5b360c4385ed0b503426a1b7a9162547a43c5b37ae91b31b5eb4cf30d6d547e69a39b9d6ee147c01a03ac90fdf8b95cf91a144,
 fz 0x1a635e94b85aae6e78a4ae5effe7]
theorem aKm: ((T.drop 0).take 40).all (Xo PP T)=true:=by kernel_rfl
theorem aKl: ((T.drop 40).take 41).all (Xo PP T)=true:=by kernel_rfl
theorem aKk: ((T.drop 81).take 40).all (Xo PP T)=true:=by kernel_rfl
theorem aKj: ((T.drop 121).take 41).all (Xo PP T)=true:=by kernel_rfl
theorem AG{l:List bK}{p:bK->Bool}{a b:Nat}(h1:((l.drop a).take b).all p=true)(h2:(l.drop (a+b)).all p=true): (l.drop a).all p=true:=by
 rw[<-List.take_append_drop b (l.drop a),List.all_append,h1,List.drop_drop,h2];rfl
theorem checked: Checked PP T:=ZE (show (T.drop 0).all (Xo PP T)=true from AG aKm (AG aKl (AG aKk (AG aKj ((show (T.drop 162).all (Xo PP T)=true from rfl))))))
theorem aKh: aBm PP T:=aDw (by kernel_rfl)
theorem aKi: aBn PP T:=aDx (by kernel_rfl)
def AWN: Nat:=200
theorem aKq: awB (dK PP T AWN 0 3 [] [])=true:=by kernel_rfl
noncomputable section
structure Aaa where
 X:Int
 Y:Int
 deriving DecidableEq
structure cW where
 ID:Int
 At:Aaa
 deriving DecidableEq
structure eP where
 ID:Int
 From:Int
 To:Int
 Via:(List Aaa)
 Left:Int
 Right:Int
 deriving DecidableEq
structure aX where
 Nodes:(List cW)
 Arcs:(List eP)
 Faces:(List Int)
 deriving DecidableEq
structure aP where
 ID:Int
 Kind:Int
 Class:Int
 Name:ByteArray
 Parts:(List Int)
 deriving DecidableEq
structure cS where
 Plan:aX
 Features:(List aP)
 deriving DecidableEq
structure dJ where
 Kind:Int
 ID:Int
 A:Int
 B:Int
 C:Int
 At:Aaa
 Via:(List Aaa)
 Name:ByteArray
 Parts:(List Int)
 deriving DecidableEq
structure Nk where
 Office:Int
 Seq:Int
 Time:Int
 Source:ByteArray
 Edits:(List dJ)
 deriving DecidableEq
structure Aab where
 e0:Int
 e1:Int
 deriving DecidableEq
structure LI where
 Arc:eP
 path:(List Aaa)
 deriving DecidableEq
structure aS where
 line:LI
 at_:Int
 deriving DecidableEq
structure Ch where
 twice:Int
 outer:(List Int)
 inner:Unit
 alone:Unit
 deriving DecidableEq
structure eO where
 twice:Int
 outer:(List Int)
 inner:(List (List Int))
 alone:(List Int)
 deriving DecidableEq
structure fU where
 first:Int
 last:Int
 script:Int
 deriving DecidableEq
structure tC where
 e0:fU
 e1:fU
 e2:fU
 e3:fU
 e4:fU
 e5:fU
 e6:fU
 e7:fU
 e8:fU
 e9:fU
 e10:fU
 e11:fU
 e12:fU
 deriving DecidableEq
structure Aac where
 e0:Int
 e1:Int
 e2:Int
 e3:Int
 deriving DecidableEq
structure A7 where
 b:(List Int)
 deriving DecidableEq
structure M5 where
 X0:Int
 Y0:Int
 X1:Int
 Y1:Int
 deriving DecidableEq
abbrev aFH: Nat->Type
 | 0=>cW
 | 1=>Aaa
 | 2=>eP
 | 3=>Int
 | 4=>aX
 | 5=>Bool
 | 6=>aP
 | 7=>cS
 | 8=>dJ
 | 9=>Nk
 | 10=>(List cW)
 | 11=>(List eP)
 | 12=>(List Int)
 | 13=>(List Aaa)
 | 14=>(List (List Aaa))
 | 15=>LI
 | 16=>aS
 | 17=>LI
 | 18=>(List aS)
 | 19=>(List (Int×Aaa))
 | 20=>(List (Int×Int))
 | 21=>(List (Int×Bool))
 | 22=>(List (List Int))
 | 23=>(List (Int×(List Aaa)))
 | 24=>Ch
 | 25=>(List Ch)
 | 26=>eO
 | 27=>(List eO)
 | 28=>Int
 | 29=>tC
 | 30=>fU
 | 31=>ByteArray
 | 32=>Aab
 | 33=>(List (Aab×Bool))
 | 34=>(List aP)
 | 35=>Int
 | 36=>(List Int)
 | 37=>Int
 | 38=>Int
 | 39=>Aac
 | 40=>A7
 | 41=>A7
 | 42=>M5
 | 43=>(List dJ)
 | _=>Unit
abbrev aFI: Nat->List Cd
 | 0=>[.int .i64,.int .i64,.int .i64]
 | 1=>[.int .i64,.int .i64]
 | 2=>[.int .i64,.int .i64,.int .i64,.sl 1,.int .i64,.int .i64]
 | 3=>[.int .i64]
 | 4=>[.sl 0,.sl 2,.sl 3]
 | 5=>[.bool]
 | 6=>[.int .i64,.int .i64,.int .i64,.str,.sl 3]
 | 7=>[.sl 0,.sl 2,.sl 3,.sl 6]
 | 8=>[.int .i64,.int .i64,.int .i64,.int .i64,.int .i64,.int .i64,.int .i64,.sl 1,.str,.sl 3]
 | 9=>[.int .i64,.int .i64,.int .i64,.str,.sl 8]
 | 10=>[.sl 0]
 | 11=>[.sl 2]
 | 12=>[.sl 3]
 | 13=>[.sl 1]
 | 14=>[.sl 13]
 | 15=>[.int .i64,.int .i64,.int .i64,.sl 1,.int .i64,.int .i64,.sl 1]
 | 16=>[.sptr 15,.int .i64]
 | 17=>[.sptr 15]
 | 18=>[.sl 16]
 | 19=>[.mp 3 1]
 | 20=>[.mp 3 3]
 | 21=>[.mp 3 5]
 | 22=>[.sl 12]
 | 23=>[.mp 3 13]
 | 24=>[.int .i64,.sl 3,.any,.any]
 | 25=>[.sl 24]
 | 26=>[.int .i64,.sl 3,.sl 12,.sl 3]
 | 27=>[.sl 26]
 | 28=>[.int .i32]
 | 29=>[.int .i32,.int .i32,.int .i64,.int .i32,.int .i32,.int .i64,.int .i32,.int .i32,.int .i64,.int .i32,.int .i32,.int .i64,.int .i32,.int .i32,.int .i64,.int .i32,.int .i32,.int .i64,.int .i32,.int .i32,.int .i64,.int .i32,.int .i32,.int .i64,.int .i32,.int .i32,.int .i64,.int .i32,.int .i32,.int .i64,.int .i32,.int .i32,.int .i64,.int .i32,.int .i32,.int .i64,.int .i32,.int .i32,.int .i64]
 | 30=>[.int .i32,.int .i32,.int .i64]
 | 31=>[.str]
 | 32=>[.int .i64,.int .i64]
 | 33=>[.mp 32 5]
 | 34=>[.sl 6]
 | 35=>[.int .u8]
 | 36=>[.sl 35]
 | 37=>[.int .u64]
 | 38=>[.int .u32]
 | 39=>[.int .u8,.int .u8,.int .u8,.int .u8]
 | 40=>[.sl 35]
 | 41=>[.sptr 40]
 | 42=>[.int .i64,.int .i64,.int .i64,.int .i64]
 | 43=>[.sl 8]
 | _=>[]
abbrev kAg: Nat->Bool
 | 0=>true
 | 1=>true
 | 2=>true
 | 4=>true
 | 6=>true
 | 7=>true
 | 8=>true
 | 9=>true
 | 15=>true
 | 16=>true
 | 24=>true
 | 26=>true
 | 29=>true
 | 30=>true
 | 32=>true
 | 39=>true
 | 40=>true
 | 42=>true
 | _=>false
instance iD: iG:=⟨aFH,aFI,kAg⟩
def kPk: ∀k,Ik (aFI k)->aFH k
 | 0,p=>⟨p.1,⟨p.2.1,p.2.2.1⟩⟩
 | 1,p=>⟨p.1,p.2.1⟩
 | 2,p=>⟨p.1,p.2.1,p.2.2.1,p.2.2.2.1,p.2.2.2.2.1,p.2.2.2.2.2.1⟩
 | 3,p=>p.1
 | 4,p=>⟨p.1,p.2.1,p.2.2.1⟩
 | 5,p=>p.1
 | 6,p=>⟨p.1,p.2.1,p.2.2.1,p.2.2.2.1,p.2.2.2.2.1⟩
 | 7,p=>⟨⟨p.1,p.2.1,p.2.2.1⟩,p.2.2.2.1⟩
 | 8,p=>⟨p.1,p.2.1,p.2.2.1,p.2.2.2.1,p.2.2.2.2.1,⟨p.2.2.2.2.2.1,p.2.2.2.2.2.2.1⟩,p.2.2.2.2.2.2.2.1,p.2.2.2.2.2.2.2.2.1,p.2.2.2.2.2.2.2.2.2.1⟩
 | 9,p=>⟨p.1,p.2.1,p.2.2.1,p.2.2.2.1,p.2.2.2.2.1⟩
 | 10,p=>p.1
 | 11,p=>p.1
 | 12,p=>p.1
 | 13,p=>p.1
 | 14,p=>p.1
 | 15,p=>⟨⟨p.1,p.2.1,p.2.2.1,p.2.2.2.1,p.2.2.2.2.1,p.2.2.2.2.2.1⟩,p.2.2.2.2.2.2.1⟩
 | 16,p=>⟨p.1,p.2.1⟩
 | 17,p=>p.1
 | 18,p=>p.1
 | 19,p=>p.1
 | 20,p=>p.1
 | 21,p=>p.1
 | 22,p=>p.1
 | 23,p=>p.1
 | 24,p=>⟨p.1,p.2.1,p.2.2.1,p.2.2.2.1⟩
 | 25,p=>p.1
 | 26,p=>⟨p.1,p.2.1,p.2.2.1,p.2.2.2.1⟩
 | 27,p=>p.1
 | 28,p=>p.1
 | 29,p=>⟨⟨p.1,p.2.1,p.2.2.1⟩,⟨p.2.2.2.1,p.2.2.2.2.1,p.2.2.2.2.2.1⟩,⟨p.2.2.2.2.2.2.1,p.2.2.2.2.2.2.2.1,p.2.2.2.2.2.2.2.2.1⟩,⟨p.2.2.2.2.2.2.2.2.2.1,p.2.2.2.2.2.2.2.2.2.2.1,p.2.2.2.2.2.2.2.2.2.2.2.1⟩,⟨p.2.2.2.2.2.2.2.2.2.2.2.2.1,p.2.2.2.2.2.2.2.2.2.2.2.2.2.1,p.2.2.2.2.2.2.2.2.2.2.2.2.2.2.1⟩,⟨p.2.2.2.2.2.2.2.2.2.2.2.2.2.2.2.1,p.2.2.2.2.2.2.2.2.2.2.2.2.2.2.2.2.1,p.2.2.2.2.2.2.2.2.2.2.2.2.2.2.2.2.2.1⟩,⟨p.2.2.2.2.2.2.2.2.2.2.2.2.2.2.2.2.2.2.1,p.2.2.2.2.2.2.2.2.2.2.2.2.2.2.2.2.2.2.2.1,p.2.2.2.2.2.2.2.2.2.2.2.2.2.2.2.2.2.2.2.2.1⟩,⟨p.2.2.2.2.2.2.2.2.2.2.2.2.2.2.2.2.2.2.2.2.2.1,p.2.2.2.2.2.2.2.2.2.2.2.2.2.2.2.2.2.2.2.2.2.2.1,p.2.2.2.2.2.2.2.2.2.2.2.2.2.2.2.2.2.2.2.2.2.2.2.1⟩,⟨p.2.2.2.2.2.2.2.2.2.2.2.2.2.2.2.2.2.2.2.2.2.2.2.2.1,p.2.2.2.2.2.2.2.2.2.2.2.2.2.2.2.2.2.2.2.2.2.2.2.2.2.1,p.2.2.2.2.2.2.2.2.2.2.2.2.2.2.2.2.2.2.2.2.2.2.2.2.2.2.1⟩,⟨p.2.2.2.2.2.2.2.2.2.2.2.2.2.2.2.2.2.2.2.2.2.2.2.2.2.2.2.1,p.2.2.2.2.2.2.2.2.2.2.2.2.2.2.2.2.2.2.2.2.2.2.2.2.2.2.2.2.1,p.2.2.2.2.2.2.2.2.2.2.2.2.2.2.2.2.2.2.2.2.2.2.2.2.2.2.2.2.2.1⟩,⟨p.2.2.2.2.2.2.2.2.2.2.2.2.2.2.2.2.2.2.2.2.2.2.2.2.2.2.2.2.2.2.1,p.2.2.2.2.2.2.2.2.2.2.2.2.2.2.2.2.2.2.2.2.2.2.2.2.2.2.2.2.2.2.2.1,p.2.2.2.2.2.2.2.2.2.2.2.2.2.2.2.2.2.2.2.2.2.2.2.2.2.2.2.2.2.2.2.2.1⟩,⟨p.2.2.2.2.2.2.2.2.2.2.2.2.2.2.2.2.2.2.2.2.2.2.2.2.2.2.2.2.2.2.2.2.2.1,p.2.2.2.2.2.2.2.2.2.2.2.2.2.2.2.2.2.2.2.2.2.2.2.2.2.2.2.2.2.2.2.2.2.2.1,p.2.2.2.2.2.2.2.2.2.2.2.2.2.2.2.2.2.2.2.2.2.2.2.2.2.2.2.2.2.2.2.2.2.2.2.1⟩,⟨p.2.2.2.2.2.2.2.2.2.2.2.2.2.2.2.2.2.2.2.2.2.2.2.2.2.2.2.2.2.2.2.2.2.2.2.2.1,p.2.2.2.2.2.2.2.2.2.2.2.2.2.2.2.2.2.2.2.2.2.2.2.2.2.2.2.2.2.2.2.2.2.2.2.2.2.1,p.2.2.2.2.2.2.2.2.2.2.2.2.2.2.2.2.2.2.2.2.2.2.2.2.2.2.2.2.2.2.2.2.2.2.2.2.2.2.1⟩⟩
 | 30,p=>⟨p.1,p.2.1,p.2.2.1⟩
 | 31,p=>p.1
 | 32,p=>⟨p.1,p.2.1⟩
 | 33,p=>p.1
 | 34,p=>p.1
 | 35,p=>p.1
 | 36,p=>p.1
 | 37,p=>p.1
 | 38,p=>p.1
 | 39,p=>⟨p.1,p.2.1,p.2.2.1,p.2.2.2.1⟩
 | 40,p=>⟨p.1⟩
 | 41,p=>p.1
 | 42,p=>⟨p.1,p.2.1,p.2.2.1,p.2.2.2.1⟩
 | 43,p=>p.1
 | _+44,_=>()
def kUn: ∀k,aFH k->Ik (aFI k)
 | 0,x=>(x.ID,x.At.X,x.At.Y,())
 | 1,x=>(x.X,x.Y,())
 | 2,x=>(x.ID,x.From,x.To,x.Via,x.Left,x.Right,())
 | 3,x=>(x,())
 | 4,x=>(x.Nodes,x.Arcs,x.Faces,())
 | 5,x=>(x,())
 | 6,x=>(x.ID,x.Kind,x.Class,x.Name,x.Parts,())
 | 7,x=>(x.Plan.Nodes,x.Plan.Arcs,x.Plan.Faces,x.Features,())
 | 8,x=>(x.Kind,x.ID,x.A,x.B,x.C,x.At.X,x.At.Y,x.Via,x.Name,x.Parts,())
 | 9,x=>(x.Office,x.Seq,x.Time,x.Source,x.Edits,())
 | 10,x=>(x,())
 | 11,x=>(x,())
 | 12,x=>(x,())
 | 13,x=>(x,())
 | 14,x=>(x,())
 | 15,x=>(x.Arc.ID,x.Arc.From,x.Arc.To,x.Arc.Via,x.Arc.Left,x.Arc.Right,x.path,())
 | 16,x=>(x.line,x.at_,())
 | 17,x=>(x,())
 | 18,x=>(x,())
 | 19,x=>(x,())
 | 20,x=>(x,())
 | 21,x=>(x,())
 | 22,x=>(x,())
 | 23,x=>(x,())
 | 24,x=>(x.twice,x.outer,x.inner,x.alone,())
 | 25,x=>(x,())
 | 26,x=>(x.twice,x.outer,x.inner,x.alone,())
 | 27,x=>(x,())
 | 28,x=>(x,())
 | 29,x=>(x.e0.first,x.e0.last,x.e0.script,x.e1.first,x.e1.last,x.e1.script,x.e2.first,x.e2.last,x.e2.script,x.e3.first,x.e3.last,x.e3.script,x.e4.first,x.e4.last,x.e4.script,x.e5.first,x.e5.last,x.e5.script,x.e6.first,x.e6.last,x.e6.script,x.e7.first,x.e7.last,x.e7.script,x.e8.first,x.e8.last,x.e8.script,x.e9.first,x.e9.last,x.e9.script,x.e10.first,x.e10.last,x.e10.script,x.e11.first,x.e11.last,x.e11.script,x.e12.first,x.e12.last,x.e12.script,())
 | 30,x=>(x.first,x.last,x.script,())
 | 31,x=>(x,())
 | 32,x=>(x.e0,x.e1,())
 | 33,x=>(x,())
 | 34,x=>(x,())
 | 35,x=>(x,())
 | 36,x=>(x,())
 | 37,x=>(x,())
 | 38,x=>(x,())
 | 39,x=>(x.e0,x.e1,x.e2,x.e3,())
 | 40,x=>(x.b,())
 | 41,x=>(x,())
 | 42,x=>(x.X0,x.Y0,x.X1,x.Y1,())
 | 43,x=>(x,())
 | _+44,_=>()
theorem kUP: ∀k p,kUn k (kPk k p)=p
 | 0,p=>rfl
 | 1,p=>rfl
 | 2,p=>rfl
 | 3,p=>rfl
 | 4,p=>rfl
 | 5,p=>rfl
 | 6,p=>rfl
 | 7,p=>rfl
 | 8,p=>rfl
 | 9,p=>rfl
 | 10,p=>rfl
 | 11,p=>rfl
 | 12,p=>rfl
 | 13,p=>rfl
 | 14,p=>rfl
 | 15,p=>rfl
 | 16,p=>rfl
 | 17,p=>rfl
 | 18,p=>rfl
 | 19,p=>rfl
 | 20,p=>rfl
 | 21,p=>rfl
 | 22,p=>rfl
 | 23,p=>rfl
 | 24,p=>rfl
 | 25,p=>rfl
 | 26,p=>rfl
 | 27,p=>rfl
 | 28,p=>rfl
 | 29,p=>rfl
 | 30,p=>rfl
 | 31,p=>rfl
 | 32,p=>rfl
 | 33,p=>rfl
 | 34,p=>rfl
 | 35,p=>rfl
 | 36,p=>rfl
 | 37,p=>rfl
 | 38,p=>rfl
 | 39,p=>rfl
 | 40,p=>rfl
 | 41,p=>rfl
 | 42,p=>rfl
 | 43,p=>rfl
 | _+44,_=>rfl
instance iR: cX:=⟨kPk,kUn,kUP⟩
open iG (den)
def P8: List Int:=[0,498536548,997073096,651767980,1994146192,1802195444,1303535960,1342533948,3988292384,4027552580,3604390888,3412177804,2607071920,2262029012,2685067896,3183342108]
theorem Bx(a b:Int): aK PP (Op.equalIn 9999 3 (.int .i64 a) (.int .i64 b))=some (a==b):=by kernel_rfl
theorem OD(a0 b0 a1 b1:Int): aK PP (Op.equalIn 10000 51 (.agg #[.int .i64 a0,.int .i64 a1]) (.agg #[.int .i64 b0,.int .i64 b1]))=some (a0==b0&&a1==b1):=by
 have p0:∀x0 x1:Value,aK PP (part 3 #[x0,x1] 0)=some x0:=by intro x0 x1;kernel_rfl
 have p1:∀x0 x1:Value,aK PP (part 3 #[x0,x1] 1)=some x1:=by intro x0 x1;kernel_rfl
 have h1:aK PP (underlying 51)=some (.struct #[{ name:= "X",type:=3,offset:=0,embedded:=false,tag:= "",pkgPath:= "",byteOffset:=0 },{ name:= "Y",type:=3,offset:=1,embedded:=false,tag:= "",pkgPath:= "",byteOffset:=8 }]):=by kernel_rfl
 have h5:aK PP program=some PP:=rfl
 have h6:Program.stoodInHeld PP 51=false:=by kernel_rfl
 have n0:¬("X"= "_"):=by decide
 have n1:¬("Y"= "_"):=by decide
 rw[Op.equalIn]
 simp only[cA,h1,Option.bind_some,h5,h6,Bool.false_eq_true,if_false,List.forIn_toArray,List.forIn_cons,List.forIn_nil,n0,n1,ne_eq,not_false_eq_true,if_true,p0,p1,Bx,cQ]
 cases e0:(a0==b0)
 .rfl
 simp only[Bool.not_true,Bool.false_eq_true,if_false,cQ,Option.bind_some,cA,p0,p1,Bx,n0,n1,ne_eq,not_false_eq_true,if_true]
 cases e1:(a1==b1)<;>rfl
theorem aFX(x y:Aaa): decide (x=y)=(x.X==y.X&&x.Y==y.Y):=by
 rw[Bool.eq_iff_iff]
 simp only[decide_eq_true_eq,Bool.and_eq_true,beq_iff_eq]
 constructor
 .rintro rfl;simp
 .obtain⟨_,_⟩:=x;obtain⟨_,_⟩:=y;simp only[Aaa.mk.injEq];intro h;simp only[h,and_self]
theorem Bw(a b:Int): aK PP (Op.equalIn 9999 5 (.int .u8 a) (.int .u8 b))=some (a==b):=by kernel_rfl
theorem OC(a0 b0 a1 b1 a2 b2 a3 b3:Int): aK PP (Op.equalIn 10000 89 (.agg #[.int .u8 a0,.int .u8 a1,.int .u8 a2,.int .u8 a3]) (.agg #[.int .u8 b0,.int .u8 b1,.int .u8 b2,.int .u8 b3]))=some ((a0==b0&&(a1==b1&&(a2==b2&&a3==b3)))):=by
 have h1:aK PP (underlying 89)=some (.array 4 5):=by kernel_rfl
 have h2:aK PP (sizeOf 5)=some 1:=by kernel_rfl
 have p0:∀x0 x1 x2 x3:Value,aK PP (part 5 #[x0,x1,x2,x3] 0)=some x0:=by intro x0 x1 x2 x3;kernel_rfl
 have p1:∀x0 x1 x2 x3:Value,aK PP (part 5 #[x0,x1,x2,x3] 1)=some x1:=by intro x0 x1 x2 x3;kernel_rfl
 have p2:∀x0 x1 x2 x3:Value,aK PP (part 5 #[x0,x1,x2,x3] 2)=some x2:=by intro x0 x1 x2 x3;kernel_rfl
 have p3:∀x0 x1 x2 x3:Value,aK PP (part 5 #[x0,x1,x2,x3] 3)=some x3:=by intro x0 x1 x2 x3;kernel_rfl
 rw[Op.equalIn]
 simp only[cA,h1,Option.bind_some,h2,Std.Legacy.Range.forIn_eq_forIn_range',Std.Legacy.Range.size,Nat.sub_zero,Nat.add_one_sub_one,Nat.div_one,List.range',List.forIn_cons,List.forIn_nil,Nat.zero_mul,Nat.zero_add,Nat.one_mul,Nat.mul_one,Nat.reduceAdd,Nat.reduceSub,p0,p1,p2,p3,Bw,cQ]
 cases e0:(a0==b0)
 .rfl
 simp only[Bool.not_true,Bool.false_eq_true,if_false,cQ,Option.bind_some,cA,p0,p1,p2,p3,Bw,if_true]
 cases e1:(a1==b1)
 .rfl
 simp only[Bool.not_true,Bool.false_eq_true,if_false,cQ,Option.bind_some,cA,p0,p1,p2,p3,Bw,if_true]
 cases e2:(a2==b2)
 .rfl
 simp only[Bool.not_true,Bool.false_eq_true,if_false,cQ,Option.bind_some,cA,p0,p1,p2,p3,Bw,if_true]
 cases e3:(a3==b3)<;>rfl
theorem aFW(x y:Aac): decide (x=y)=(x.e0==y.e0&&(x.e1==y.e1&&(x.e2==y.e2&&x.e3==y.e3))):=by
 rw[Bool.eq_iff_iff]
 simp only[decide_eq_true_eq,Bool.and_eq_true,beq_iff_eq]
 constructor
 .rintro rfl;simp
 .obtain⟨_,_,_,_⟩:=x;obtain⟨_,_,_,_⟩:=y;simp only[Aac.mk.injEq];intro h;simp only[h,and_self]
theorem HV(a0 b0 a1 b1:Int): aK PP (Op.equalIn 10000 122 (.agg #[.int .i64 a0,.int .i64 a1]) (.agg #[.int .i64 b0,.int .i64 b1]))=some ((a0==b0&&a1==b1)):=by
 have h1:aK PP (underlying 122)=some (.array 2 3):=by kernel_rfl
 have h2:aK PP (sizeOf 3)=some 1:=by kernel_rfl
 have p0:∀x0 x1:Value,aK PP (part 3 #[x0,x1] 0)=some x0:=by intro x0 x1;kernel_rfl
 have p1:∀x0 x1:Value,aK PP (part 3 #[x0,x1] 1)=some x1:=by intro x0 x1;kernel_rfl
 rw[Op.equalIn]
 simp only[cA,h1,Option.bind_some,h2,Std.Legacy.Range.forIn_eq_forIn_range',Std.Legacy.Range.size,Nat.sub_zero,Nat.add_one_sub_one,Nat.div_one,List.range',List.forIn_cons,List.forIn_nil,Nat.zero_mul,Nat.zero_add,Nat.one_mul,Nat.mul_one,Nat.reduceAdd,Nat.reduceSub,p0,p1,Bx,cQ]
 cases e0:(a0==b0)
 .rfl
 simp only[Bool.not_true,Bool.false_eq_true,if_false,cQ,Option.bind_some,cA,p0,p1,Bx,if_true]
 cases e1:(a1==b1)<;>rfl
theorem aDc(x y:Aab): decide (x=y)=(x.e0==y.e0&&x.e1==y.e1):=by
 rw[Bool.eq_iff_iff]
 simp only[decide_eq_true_eq,Bool.and_eq_true,beq_iff_eq]
 constructor
 .rintro rfl;simp
 .obtain⟨_,_⟩:=x;obtain⟨_,_⟩:=y;simp only[Aab.mk.injEq];intro h;simp only[h,and_self]
theorem gfo: ∀cf,gW cf->gW (Co cf):=aFP λvi=>(Tm l4 (Tm l4 (Tm aCm (Tm k9 (Tm k9 (Tm V0 aFp))))))
instance gG: GlC PP T:=⟨⟨[⟨51,⟨⟨1,λa b=>instDecidableEqAaa a b⟩,w7 rfl rfl _ (λx y=>⟨by kernel_rfl,by kernel_rfl⟩) (λx y=>(OD x.X y.X x.Y y.Y).trans (congrArg some (aFX x y).symm))⟩⟩,⟨4,⟨⟨5,λa b=>instDecidableEqBool a b⟩,aFZ rfl (λx=>x) (λx=>rfl) (λcf fl H x y=>by cases (x:Bool)<;>cases (y:Bool)<;>exact⟨by kernel_rfl,by kernel_rfl⟩)⟩⟩,⟨89,⟨⟨39,λa b=>instDecidableEqAac a b⟩,w7 rfl rfl _ (λx y=>⟨by kernel_rfl,by kernel_rfl⟩) (λx y=>(OC x.e0 y.e0 x.e1 y.e1 x.e2 y.e2 x.e3 y.e3).trans (congrArg some (aFW x y).symm))⟩⟩],[⟨3,⟨⟨3,(inferInstance:DecidableEq Int)⟩,rfl,aCO (by kernel_rfl)⟩⟩,⟨122,⟨⟨32,λa b=>instDecidableEqAab a b⟩,rfl,aJU (λa b=>instDecidableEqAab a b) (u:=.array 2 3) (by kernel_rfl) (λk x r=>rfl) (λx y=>(HV x.e0 y.e0 x.e1 y.e1).trans (congrArg some (aDc x y).symm)) (λe k=>by kernel_rfl) (λk=>by show Instr.sameBits 10000 (.agg #[.int .i64 k.e0,.int .i64 k.e1]) (.agg #[.int .i64 k.e0,.int .i64 k.e1])=true;simp[Instr.sameBits])⟩⟩],[⟨9,⟨by kernel_rfl,λs=>by kernel_rfl⟩⟩],[⟨(3,21),⟨.i32,λj a=>by kernel_rfl⟩⟩,⟨(3,59),⟨.u64,λj a=>by kernel_rfl⟩⟩,⟨(5,59),⟨.u64,λj a=>by kernel_rfl⟩⟩,⟨(5,106),⟨.u32,λj a=>by kernel_rfl⟩⟩,⟨(21,3),⟨.i64,λj a=>by kernel_rfl⟩⟩,⟨(36,9),⟨.u16,by show Bp PP 36 9=true;kernel_rfl⟩⟩,⟨(59,3),⟨.i64,λj a=>by kernel_rfl⟩⟩,⟨(59,5),⟨.u8,λj a=>by kernel_rfl⟩⟩,⟨(106,5),⟨.u8,λj a=>by kernel_rfl⟩⟩],[⟨108,⟨.ord 3 yT,aH6 rfl (λx=>x) (λx=>rfl) rfl aBG⟩⟩,⟨128,⟨.srt 3,rfl⟩⟩,⟨138,⟨.srt 16,rfl⟩⟩],gfo⟩⟩
abbrev Lc(vi fl j:Nat):=LC PP T (GO T vi).nt fl (lpA (GO T vi).body j)
abbrev Ic:=IC PP T
abbrev Kn:=ZM PP T
abbrev C0: List Kn:=[]
end
section
open Go.Proofs Go.RowKit Go.Shelf Go.Sort
theorem Y3: PP.follows .mixedOrders=true:=by kernel_rfl
def rl: List Nat->Nat->Nat
 | a::b::r,n=>match Nat.beq a n with
  | true=>b
  | false=>rl r n
 | _,n=>n
theorem FR{P:Program}{f:FuncId}{B:Func} (h:((((P.funcs[f]?).map (·.name)).getD "")== "runtime.NumGoroutine")=false) (k:P.funcs[f]?=some {B with name:=((P.funcs[f]?).map (·.name)).getD ""}):Bears P f B:=⟨_,h,k⟩
def aCJ: Ren:=⟨(rl [6,129,15,121,14,162,28,152,29,153,20,181,21,182,22,183,23,184,24,185,25,186,26,187,27,188,46,194,47,174,48,175,49,195,50,196,57,199]),(rl [22,180,24,186,25,187,39,124,53,106,55,59,46,199,45,198,50,204,66,220,70,224,76,235,77,236]),id⟩
theorem Z4: SlLaysF0.n6 PP aCJ:=by
 constructor<;>first | kernel_rfl | exact λ_=>by kernel_rfl | exact FR (by kernel_rfl) (by kernel_rfl)
def t8: Ren:=⟨(rl [6,117,15,121,14,139,28,152,29,153,20,165,21,166,22,167,23,168,24,169,25,170,26,171,27,172,46,190,47,174,48,175,49,191,50,192,57,198]),(rl [22,24,24,3,25,175,39,124,53,106,55,59,46,199,45,198,50,204,66,220,70,224,76,235,77,236]),id⟩
theorem aFD: SlLaysF.n6 PP t8:=by
 constructor<;>first | kernel_rfl | exact λ_=>by kernel_rfl | exact FR (by kernel_rfl) (by kernel_rfl)
def Z3: Ren:=⟨(rl [189,100,125,121,257,120,128,152,129,153,294,143,295,144,296,145,297,146,298,147,299,148,216,149,300,150,301,151,328,173,329,174,330,175,331,176,332,177,215,163,343,193]),(rl [28,24,46,124,51,106,53,59,183,199,182,198,131,204,218,220,222,224,228,235,229,236]),id⟩
theorem s9: Lays.n189 PP Z3:=by
 constructor<;>first | kernel_rfl | exact λ_=>by kernel_rfl
def Z5: Ren:=⟨(rl [144,90,143,108,219,125,217,158,225,159,267,161,266,179,314,180,224,160]),(rl [46,124,146,226,51,106]),rl [1,2]⟩
theorem aCK: Lays.n144 PP Z5:=by
 constructor<;>first | kernel_rfl | exact λ_=>by kernel_rfl
theorem NT: fW PP T:=Pk checked
theorem aBD: GA PP 100:=λblk off cap zs w h1 h2 h3=>Any.slices_Sort_int s9 blk off cap zs w h1 h2 h3
theorem Q6: Xt PP 100:=λp cap w=>Any.slices_Sort_int_none s9 p cap w
theorem aBS: Rb PP true 129 2:=QH Z4 Tryz.isAgg186 Tryz.sizeOf186
theorem R8: Ra PP 129:=We Z4
theorem aCV: Rb PP false 117 1:=QG aFD
theorem aAg: Ra PP 117:=We (ρ:=t8) (by constructor<;>first | kernel_rfl | exact λ_=>by kernel_rfl | exact FR (by kernel_rfl) (by kernel_rfl))
theorem K0{fl:Nat}{args:List AV}{H H':aM}{r:AV}(h:Gn fl args H=some (r,H')):
 ∃s t:ByteArray,args=[.lit (.string s),.lit (.string t)]/\s.size<4294967281/\r=.lit (.bool (Lib.contains s.data.toList t.data.toList))/\H'=H:=by
 unfold Gn at h
 repeat' split at h
 all_goals first
  | (cases h;done)
  | skip
 rename_i hb
 cases h
 exact⟨_,_,rfl,Nat.le_of_ble_eq_true hb,rfl,rfl⟩
section
variable {cf:CF}{fl vi f:Nat}{args:List AV}{r:AV}{H':aM}{c:bV}{vs:Array Value}
theorem aAF(h:Gn fl args c.H=some (r,H'))(hs:bJ (aG T) c)(hargs:jQ (aG T) c args vs): Calls PP 90 vs c.w λe w'=>∃v c',e=.returned v/\c'.w=w'/\c'.H=H'/\c'.X=c.X/\bG fl c c'/\bJ (aG T) c'/\RV (aG T) c' r v:=by
 obtain⟨s,t,rfl,hsz,rfl,rfl⟩:=K0 h
 have hv:vs=#[.string s,.string t]:=by
  obtain⟨h1,h2⟩:=hargs
  obtain⟨v0,g0,k0⟩:=h2 0 _ rfl
  obtain⟨v1,g1,k1⟩:=h2 1 _ rfl
  have e0:=k0.lit_inv
  have e1:=k1.lit_inv
  subst e0 e1
  apply Array.ext
  .simpa using h1
  .intro i hi1 hi2
   have hi3:i<2:=by simpa using hi2
   match i,hi3 with
   | 0,_=>exact Option.some.inj ((Array.getElem?_eq_getElem hi1).symm.trans g0)
   | 1,_=>exact Option.some.inj ((Array.getElem?_eq_getElem hi1).symm.trans g1)
 subst hv
 obtain⟨cc,t',fz,vals,_,hheap,hok,_,_⟩:=hs.gl 2 [.undef] rfl
 obtain⟨m,hm⟩:=hok rfl
 have hcell:c.w.cell? ⟨2,0,none⟩=some (.int .i64 m):=by simp[World.cell?,hheap,hm]
 exact (Any.strings_Contains aCK s t m c.w hsz hcell).mono λe w' ⟨he,hw⟩=>⟨_,c,he,hw.symm,rfl,rfl,bG.refl fl c,hs,.lit _⟩
end
theorem F4{cf:CF}{fl vi:Nat}{args:List AV}{H H':aM}{r:AV}(h:Co cf fl vi args H=some (r,H')): (vi=6/\(yW 21 [aZ,aZ,aZ,aZ] 4).run cf fl args H=some (r,H'))\/(vi=8/\(yW 24 [(.int .i64 0),(.int .i64 0),(.int .i64 0),(.string ⟨#[]⟩),aZ] 5).run cf fl args H=some (r,H'))\/(vi=102/\Gn fl args H=some (r,H'))\/(vi=138/\vQ cf true 2 fl args H=some (r,H'))\/(vi=128/\vQ cf false 1 fl args H=some (r,H'))\/(vi=108/\Ck fl args H=some (r,H')):=by
 unfold Co at h
 have e:(aB.prim vi:Option PC)=(match Nat.beq vi 6 with | true=>some (yW 21 [aZ,aZ,aZ,aZ] 4) | false=>(match Nat.beq vi 8 with | true=>some (yW 24 [(.int .i64 0),(.int .i64 0),(.int .i64 0),(.string ⟨#[]⟩),aZ] 5) | false=>(match Nat.beq vi 102 with | true=>some (Kw Gn) | false=>(match Nat.beq vi 138 with | true=>some (Ln true 2) | false=>(match Nat.beq vi 128 with | true=>some (Ln false 1) | false=>(match Nat.beq vi 108 with | true=>some (Kw Ck) | false=>none)))))):=rfl
 rw[e] at h
 cases hb0:Nat.beq vi 6 with
 | true=>rw[hb0] at h;exact .inl ⟨Nat.eq_of_beq_eq_true hb0,h⟩
 | false=>
  rw[hb0] at h
  cases hb1:Nat.beq vi 8 with
  | true=>rw[hb1] at h;exact .inr (.inl ⟨Nat.eq_of_beq_eq_true hb1,h⟩)
  | false=>
   rw[hb1] at h
   cases hb2:Nat.beq vi 102 with
   | true=>rw[hb2] at h;exact .inr (.inr (.inl ⟨Nat.eq_of_beq_eq_true hb2,h⟩))
   | false=>
    rw[hb2] at h
    cases hb3:Nat.beq vi 138 with
    | true=>rw[hb3] at h;exact .inr (.inr (.inr (.inl ⟨Nat.eq_of_beq_eq_true hb3,h⟩)))
    | false=>
     rw[hb3] at h
     cases hb4:Nat.beq vi 128 with
     | true=>rw[hb4] at h;exact .inr (.inr (.inr (.inr (.inl ⟨Nat.eq_of_beq_eq_true hb4,h⟩))))
     | false=>
      rw[hb4] at h
      cases hb5:Nat.beq vi 108 with
      | true=>rw[hb5] at h;exact .inr (.inr (.inr (.inr (.inr (⟨Nat.eq_of_beq_eq_true hb5,h⟩)))))
      | false=>
       rw[hb5] at h
       cases h
theorem aCd: PB PP T where
 fl:=gfo
 ok:=λcf hfo hcf hpan hdef fl vi f args r H' c vs hev hf hs hfl hargs=>by
  rcases F4 hev with⟨rfl,h⟩ | ⟨rfl,h⟩ | ⟨rfl,h⟩ | ⟨rfl,h⟩ | ⟨rfl,h⟩ | ⟨rfl,h⟩
  .obtain rfl:8=f:=Option.some.inj ((show aG T 6=some 8 by kernel_rfl).symm.trans hf)
   exact d8 (vi:=6) (vs:=21) (t1:=2) (t2:=3) (g:=24) (f:=8) (vr:=161) (fr:=25) (n1:=4) (z:=[aZ,aZ,aZ,aZ]) (t:=20) (T1:=29) (T2:=37) Y3 hfo hcf NT hdef (by show _∈[_,_];first | exact .head _ | exact .tail _ (.head _)) hf (by kernel_rfl) (by kernel_rfl) (by kernel_rfl) (λn=>by kernel_rfl) ⟨_,Tryz.func24,by kernel_rfl,by kernel_rfl⟩ (λfn e=>by rw[Tryz.func8] at e;cases e;rfl) (by kernel_rfl) (by kernel_rfl) (by kernel_rfl) (by kernel_rfl) (by decide) h hs hfl hargs
  .obtain rfl:11=f:=Option.some.inj ((show aG T 8=some 11 by kernel_rfl).symm.trans hf)
   exact d8 (vi:=8) (vs:=24) (t1:=2) (t2:=3) (g:=30) (f:=11) (vr:=161) (fr:=25) (n1:=5) (z:=[(.int .i64 0),(.int .i64 0),(.int .i64 0),(.string ⟨#[]⟩),aZ]) (t:=20) (T1:=32) (T2:=37) Y3 hfo hcf NT hdef (by show _∈[_,_];first | exact .head _ | exact .tail _ (.head _)) hf (by kernel_rfl) (by kernel_rfl) (by kernel_rfl) (λn=>by kernel_rfl) ⟨_,Tryz.func30,by kernel_rfl,by kernel_rfl⟩ (λfn e=>by rw[Tryz.func11] at e;cases e;rfl) (by kernel_rfl) (by kernel_rfl) (by kernel_rfl) (by kernel_rfl) (by decide) h hs hfl hargs
  .obtain rfl:90=f:=Option.some.inj ((show aG T 102=some 90 by kernel_rfl).symm.trans hf)
   exact aAF h hs hargs
  .obtain rfl:129=f:=Option.some.inj ((show aG T 138=some 129 by kernel_rfl).symm.trans hf)
   exact QI hcf NT (by simp) aBS R8 h hs hargs
  .obtain rfl:117=f:=Option.some.inj ((show aG T 128=some 117 by kernel_rfl).symm.trans hf)
   exact QI hcf NT (by simp) aCV aAg h hs hargs
  .obtain rfl:100=f:=Option.some.inj ((show aG T 108=some 100 by kernel_rfl).symm.trans hf)
   exact Q9 aBD Q6 h hs hargs
end
section
open Go.Proofs
theorem own: ownKnob PP.godebug=none:=by kernel_rfl
theorem laid: laidOutB PP=true:=by kernel_rfl
def aJC: List Value:=aEl (Go.Proofs.YtideamafblopcaaGreatDoor.Rows.laid_mapsheets_glyph_scripts)
def aJ9: List Value:=KE (Go.Proofs.YtideamafblopcaaGreatDoor.Rows.laid_mapsheets_digest_steps)
theorem aAl{W:World}(hl:laidMetH Tryz.prog Rows.codecDamageRow.laid W)(hsh:W.ShapedOpen Tryz.prog): tB (GZ W):=by
 obtain⟨ps,hv,_,_⟩:laidMet Tryz.prog [("mapsheets/digest.steps",Rows.laid_mapsheets_digest_steps),("mapsheets/glyph.scripts",Rows.laid_mapsheets_glyph_scripts)] W:=hl
 obtain⟨g0,t0,cv0,u0,p0,q0,a1,a2,a3,a4,hv,_⟩:=hv
 obtain⟨g1,t1,cv1,u1,p1,q1,b1,b2,b3,b4,_,_⟩:=hv
 intro g cs hcs
 match g with
 | 0=>
  obtain rfl:aDS=cs:=Option.some.inj hcs
  obtain rfl:0=g0:=Option.some.inj ((show Tryz.prog.globalNamed "mapsheets/digest.steps"=some 0 by kernel_rfl).symm.trans a1)
  obtain rfl:149=t0:=Option.some.inj ((show (Tryz.prog.globals[0]?).map (·.type)=some 149 by kernel_rfl).symm.trans a2)
  exact TL (V:=aJ9) (λh=>absurd h (by decide)) (by kernel_rfl) (by kernel_rfl) (D4 (m:=16) (e:=106) (k:=.u32) (by kernel_rfl) (by kernel_rfl) (by kernel_rfl) (by kernel_rfl) a4) (QA a1 a3)
 | 1=>
  obtain rfl:aHl=cs:=Option.some.inj hcs
  obtain rfl:1=g1:=Option.some.inj ((show Tryz.prog.globalNamed "mapsheets/glyph.scripts"=some 1 by kernel_rfl).symm.trans b1)
  obtain rfl:167=t1:=Option.some.inj ((show (Tryz.prog.globals[1]?).map (·.type)=some 167 by kernel_rfl).symm.trans b2)
  exact TL (V:=aJC) (λh=>absurd h (by decide)) (by kernel_rfl) (by kernel_rfl) (VY (m:=13) (e:=166) (ta:=21) (tb:=21) (tc:=3) (ka:=.i32) (kb:=.i32) (kc:=.i64) (f0:={ name:= "first",type:=21,offset:=0,embedded:=false,tag:= "",pkgPath:= "mapsheets/glyph",byteOffset:=0 }) (f1:={ name:= "last",type:=21,offset:=1,embedded:=false,tag:= "",pkgPath:= "mapsheets/glyph",byteOffset:=4 }) (f2:={ name:= "script",type:=3,offset:=2,embedded:=false,tag:= "",pkgPath:= "mapsheets/glyph",byteOffset:=8 }) (by kernel_rfl) (by kernel_rfl) (by kernel_rfl) (by kernel_rfl) rfl rfl rfl rfl rfl rfl (by kernel_rfl) (by kernel_rfl) (by kernel_rfl) (by kernel_rfl) (by kernel_rfl) (by kernel_rfl) b4) (QA b1 b3)
 | 2=>
  obtain rfl:[AV.undef]=cs:=Option.some.inj hcs
  obtain⟨m,hm⟩:=cell_of_shapedOpen_int (g:=2) (t:=3) (zero:=#[.int .i64 0]) (k:=.i64) hsh (of_decide_eq_true (by kernel_rfl)) (by kernel_rfl) rfl (by kernel_rfl) (by kernel_rfl) (by kernel_rfl)
  obtain⟨c,T,fz,hb,_,hc⟩:=cell?_inv hm
  refine⟨c,T,fz,λ_=>.int .i64 m,LP W 2,hb,λ_=>⟨m,hc⟩,?_,?_⟩
  .intro j x hx
   cases j with
   | zero=>exact⟨hc,rfl⟩
   | succ j=>simp at hx
  .intro j x hx
   cases j with
   | zero=>
    simp only[List.getElem?_cons_zero,Option.some.injEq] at hx
    subst hx
    exact .undef _
   | succ j=>simp at hx
 | n+3=>cases hcs
end
noncomputable section
def Hj{R:Type}(n:Nat): aX->((Bool->Option R)×Unit)->Unit->Option R:=λa (b,_) _=>(cd ((ln a.Nodes) > 40) (b true) (cd ((ln a.Arcs) > 40) (b true) (cd ((ln a.Faces) > 80) (b true) (b false))))
def OZ:=nE Hj
def GF: Lc 9 0 0:=dD 0x32390b4c5a76ade46 C0 [] [] @Hj
def oO{R:Type}(n:Nat): aX->((Int×Int)->Option R)->((Unit->Option R)×(Int->Option R)×Unit)->(Int×Int)->Option R:=λa b (c,d,_) (f,g)=>(cd (g<(ln a.Arcs)) (bnd (idx a.Arcs g) λh=>(cd ((ln h.Via) > 300) (c ()) (bnd (idx a.Arcs g) λi=>(b ((wr (f+(ln i.Via))),(wr (g+1))))))) (d f))
def PA:=yJ oO
def GG: Lc 9 0 1:=dE 0x5d85fcdc2190090d27a90a207b667e9f7389 C0 [] [] @oO
def Vv: Nat->aX->Option Bool
 | 0,_=>none
 | n+1,a=>(bnd (OZ n a) λb=>(cnd (b) (some false) (bnd2 (PA n a (0,0)) (λ_=>(some false)) λc=>(bnd (some c) λd=>(cd (d<=300) (some true) (some false))))))
def VK: Kn:=cK 9 0x1bb4e8 C0 [⟨0,[GF]⟩,⟨1,[GG]⟩] [] Vv
abbrev C1:=VK::C0
def Hi{R:Type}(n:Nat): cS->((Bool->Option R)×Unit)->Unit->Option R:=λa (b,_) _=>(bnd (Vv n a.Plan) λc=>(cnd (c) (cd ((ln a.Features) > 20) (b true) (b false)) (b true)))
def OX:=nE Hi
def GD: Lc 1 0 0:=dD 0x627c09d110470c C1 [] [] @Hi
def Hh{R:Type}(n:Nat): (cS×Int)->((Bool->Option R)×Unit)->Unit->Option R:=λ(a,b) (c,_) _=>(bnd (idx a.Features b) λd=>(cd ((ln d.Parts) > 70) (c true) (bnd (idx a.Features b) λf=>(cd (((f.Name.size:Nat):Int) > 200) (c true) (c false)))))
def OW:=nE Hh
def GC: Lc 1 0 2:=dD 0x1112610e30cf6d7406cf3e0a92a1aa1 C1 [] [] @Hh
def oN{R:Type}(n:Nat): cS->(Int->Option R)->((Unit->Option R)×(Unit->Option R)×Unit)->Int->Option R:=λa b (c,d,_) f=>(cd (f<(ln a.Features)) (bnd (OW n (a,f)) λg=>(cnd (g) (c ()) (b (wr (f+1))))) (d ()))
def OY:=yJ oN
def GE: Lc 1 0 1:=dE 0xa0b4856bee916a1e6902a59cd4cb09ac1 C1 [⟨0,[cs GC]⟩] [] @oN
def Vu: Nat->cS->Option Bool
 | 0,_=>none
 | n+1,a=>(bnd (OX n a) λb=>(cnd (b) (some false) (bnd2 (OY n a 0) (λ_=>(some false)) λc=>(bnd (some c) λ_=>(some true)))))
def VJ: Kn:=cK 1 0xfea1cef2 C1 [⟨0,[GD]⟩,⟨1,[GE]⟩] [] Vu
abbrev C2:=VJ::C1
def xO{R:Type}(n:Nat): Nk->((Bool->Option R)×Unit)->Unit->Option R:=λa (b,_) _=>(cd ((ln a.Edits) > 80) (b true) (cd (((a.Source.size:Nat):Int) > 200) (b true) (b false)))
def Zf:=nE xO
def Rd: Lc 2 0 0:=dD 0x323904ca6ff3f0ca0 C2 [] [] @xO
def xN{R:Type}(n:Nat): dJ->((Bool->Option R)×Unit)->Unit->Option R:=λa (b,_) _=>(cd ((ln a.Via) > 80) (b true) (cd ((ln a.Parts) > 80) (b true) (cd (((a.Name.size:Nat):Int) > 200) (b true) (b false))))
def Dg:=nE xN
def Rc: Lc 2 0 2:=dD 0x1efc2df6487b6df724cb60fc0f9f6757f6ec5bc58d C2 [] [] @xN
def jP{R:Type}(n:Nat): Nk->(Int->Option R)->((dJ->Option R)×(Unit->Option R)×Unit)->Int->Option R:=λa b (c,d,_) f=>(cd (f<(ln a.Edits)) (bnd (idx a.Edits f) λg=>(bnd (Dg n g) λh=>(cnd (h) (c g) (b (wr (f+1)))))) (d ()))
def Zg:=yJ jP
def Re: Lc 2 0 1:=dE 0xae4c9232b66e353a6f98b22d2ab4fd13842c4e8a20c9 C2 [⟨0,[cs Rc]⟩] [] @jP
def Cf: Nat->Nk->Option Bool
 | 0,_=>none
 | n+1,a=>(bnd (Zf n a) λb=>(cnd (b) (some false) (bnd2 (Zg n a 0) (λ_=>(some false)) λc=>(bnd (some c) λ_=>(some true)))))
def GB: Kn:=cK 2 0xfea1df46 C2 [⟨0,[Rd]⟩,⟨1,[Re]⟩] [] Cf
abbrev C3:=GB::C2
def iF(n:Nat): Option Bool:=cnd (Nat.ble AWN n) (some true) none
def VF: Kn:=aKp 3 5 AWN aKq (λn _=>iF n) (λn p r h=>by obtain⟨h1,h2⟩:=aIx h;exact⟨h1,by subst h2;rfl⟩)
abbrev C4:=VF::C3
def jE{R:Type}(n:Nat): ((List cW)×Int)->(((List Int)×Int)->Option R)->(((List Int)->Option R)×Unit)->((List Int)×Int)->Option R:=λ(a,b) c (d,_) (f,g)=>(cd (g<b) (bnd (idx a g) λh=>(bnd (app f [h.ID]) λi=>(c (i,(wr (g+1)))))) (d f))
def Iv:=Ym jE
def Dm: Lc 120 0 0:=dE 0x1298e6ae1359d836a23795b3ea2aa2fe70ae6df06d0c42541a6cb23e8a13d0fe6ef C4 [] [] @jE
def jD{R:Type}(n:Nat): ((List eP)×Int)->(((List Int)×Int)->Option R)->(((List Int)->Option R)×Unit)->((List Int)×Int)->Option R:=λ(a,b) c (d,_) (f,g)=>(cd (g<b) (bnd (idx a g) λh=>(bnd (app f [h.ID]) λi=>(c (i,(wr (g+1)))))) (d f))
def Iu:=Ym jD
def Dl: Lc 120 0 1:=dE 0x115bcc87bd599d03348796c428197a950b7d5a4a5fb69d2dc86b30ce0646c C4 [] [] @jD
def pM: Nat->aX->Option ((List Int)×(List Int))
 | 0,_=>none
 | n+1,a=>(bnd (Iv n (a.Nodes,(ln a.Nodes)) ([],0)) λb=>(bnd (Iu n (a.Arcs,(ln a.Arcs)) ([],0)) λc=>(some (b,c))))
def Lz: Kn:=cK 120 0xe582cc73f82128726b4470ba8b3 C4 [⟨0,[Dm]⟩,⟨1,[Dl]⟩] [] pM
abbrev C5:=Lz::C4
def gY{R:Type}(n:Nat): (List Int)->(Int->Option R)->((Unit->Option R)×(Unit->Option R)×Unit)->Int->Option R:=λa b (c,d,_) f=>(cd (f<(ln a)) (bnd (idx a (wr (f-1))) λg=>(bnd (idx a f) λh=>(cd (g>=h) (c ()) (b (wr (f+1)))))) (d ()))
def vU:=yJ gY
def Jc: Lc 121 0 0:=dE 0xe220f7067bdaa11370ac20 C5 [] [] @gY
def kA: Nat->(List Int)->Option Bool
 | 0,_=>none
 | n+1,a=>(bnd2 (vU n a 1) (λ_=>(some false)) λb=>(bnd (some b) λ_=>(some true)))
def Tj: Kn:=cK 121 0x1f35f2 C5 [⟨0,[Jc]⟩] [] kA
abbrev C6:=Tj::C5
def pL: Nat->Int->Option Bool
 | 0,_=>none
 | n+1,a=>(cd (a<1) (some true) (cd (a > 1073741824) (some true) (some false)))
def Lv: Kn:=cK 135 0x1f359f C6 [] [] pL
abbrev C7:=Lv::C6
def mK{R:Type}(n:Nat): ((List Int)×Int)->(Int->Option R)->((Int->Option R)×(Unit->Option R)×Unit)->Int->Option R:=λ(a,b) c (d,f,_) g=>(cd (g<b) (bnd (idx a g) λh=>(bnd (pL n h) λi=>(cnd (i) (d g) (c (wr (g+1)))))) (f ()))
def Tf:=yJ mK
def Lw: Lc 100 0 0:=dE 0x3addb33d3d2db3c95bae7f59ae55 C7 [] [] @mK
def uF{R:Type}(n:Nat): (List Int)->((Int->Option R)×Unit)->Unit->Option R:=λa (b,_) _=>(bnd2 (Tf n (a,(ln a)) 0) (λc=>(b c)) λd=>(bnd (some d) λ_=>(b (-1))))
def Tg:=Dq uF
def Lx: Ic:=dU 100 0 2 0x1a411f4094ffa772074b C7 [⟨0,[Lw]⟩] [] @uF
def uG{R:Type}(n:Nat): (List Int)->((Bool->Option R)×Unit)->Unit->Option R:=λa (b,_) _=>(bnd (Tg n a) λc=>(cd (c>=0) (b true) (b false)))
def Th:=Dq uG
def Ly: Ic:=dU 80 0 2 0x22341f92870a8b21218b C7 [] [Lx] @uG
def lY: Nat->(List Int)->Option Bool
 | 0,_=>none
 | n+1,a=>(bnd (Th n a) λb=>(cnd (b) (some false) (some true)))
def Ye: Kn:=cK 122 0x1f35f2 C7 [] [Ly] lY
abbrev C8:=Ye::C7
def kV{R:Type}(n:Nat): Aaa->((Bool->Option R)×Unit)->Unit->Option R:=λa (b,_) _=>(cd (a.X<(-1048576)) (b true) (cd (a.X > 1048576) (b true) (cd (a.Y<(-1048576)) (b true) (cd (a.Y > 1048576) (b true) (b false)))))
def nW:=nE kV
def It: Lc 136 0 0:=dD 0x75d7b408c16cd0 C8 [] [] @kV
def uE: Nat->Aaa->Option Bool
 | 0,_=>none
 | n+1,a=>(bnd (nW n a) λb=>(cnd (b) (some true) (some false)))
def Sw: Kn:=cK 136 0x1f35f1 C8 [⟨0,[It]⟩] [] uE
abbrev C9:=Sw::C8
def Sy: Lc 136 0 0:=dD 0x21710ecc8c7cb9e9ea43f6b438da C9 [] [] @kV
def zC{R:Type}(n:Nat): Aaa->((Bool->Option R)×Unit)->Unit->Option R:=λa (b,_) _=>(bnd (nW n a) λc=>(cnd (c) (b true) (b false)))
def CI:=Dq zC
def Te: Ic:=dU 136 0 1 0x3fb3804ed066ab03cccf7f782 C9 [⟨0,[Sy]⟩] [] @zC
def pK{R:Type}(n:Nat): ((List cW)×Int)->(Int->Option R)->(((cW×Aaa)->Option R)×(Unit->Option R)×Unit)->Int->Option R:=λ(a,b) c (d,f,_) g=>(cd (g<b) (bnd (idx a g) λh=>(bnd (CI n h.At) λi=>(cnd (i) (d (h,h.At)) (c (wr (g+1)))))) (f ()))
def CE:=yJ pK
def Tb: Lc 123 0 0:=dE 0x538a480b6fdf9bc12f295b4627d78ad2f85296cba8f698cf2c919c789d119 C9 [] [Te] @pK
def pI{R:Type}(n:Nat): ((List Aaa)×Int)->(Int->Option R)->((Int->Option R)×(Unit->Option R)×Unit)->Int->Option R:=λ(a,b) c (d,f,_) g=>(cd (g<b) (bnd (idx a g) λh=>(bnd (uE n h) λi=>(cnd (i) (d g) (c (wr (g+1)))))) (f ()))
def CC:=yJ pI
def Sz: Lc 99 0 0:=dE 0x1dad73ad236ef583faa2ee6262035b6 C9 [] [] @pI
def zA{R:Type}(n:Nat): (List Aaa)->((Int->Option R)×Unit)->Unit->Option R:=λa (b,_) _=>(bnd2 (CC n (a,(ln a)) 0) (λc=>(b c)) λd=>(bnd (some d) λ_=>(b (-1))))
def CG:=Dq zA
def Tc: Ic:=dU 99 0 2 0xd64ed3903dd4828afc59d0 C9 [⟨0,[Sz]⟩] [] @zA
def zB{R:Type}(n:Nat): (List Aaa)->((Bool->Option R)×Unit)->Unit->Option R:=λa (b,_) _=>(bnd (CG n a) λc=>(cd (c>=0) (b true) (b false)))
def CH:=Dq zB
def Td: Ic:=dU 78 0 2 0x2235f18c715e11e620d0 C9 [] [Tc] @zB
def pJ{R:Type}(n:Nat): ((List eP)×Int)->(Int->Option R)->((eP->Option R)×(Unit->Option R)×Unit)->Int->Option R:=λ(a,b) c (d,f,_) g=>(cd (g<b) (bnd (idx a g) λh=>(bnd (CH n h.Via) λi=>(cnd (i) (d h) (c (wr (g+1)))))) (f ()))
def CD:=yJ pJ
def Ta: Lc 123 0 1:=dE 0x1267fa3e7dd4b3086e048ce561a593b588d7149e1bde177d97545 C9 [] [Td] @pJ
def Es: Nat->aX->Option Bool
 | 0,_=>none
 | n+1,a=>(bnd2 (CE n (a.Nodes,(ln a.Nodes)) 0) (λ_=>(some false)) λb=>(bnd (some b) λ_=>(bnd2 (CD n (a.Arcs,(ln a.Arcs)) 0) (λ_=>(some false)) λc=>(bnd (some c) λ_=>(some true)))))
def HG: Kn:=cK 123 0x1bb4e8 C9 [⟨0,[Tb]⟩,⟨1,[Ta]⟩] [] Es
abbrev C10:=HG::C9
def jC{R:Type}(n:Nat): ((List Int)×Int×Int)->(Int->Option R)->((Int->Option R)×(Unit->Option R)×Unit)->Int->Option R:=λ(a,b,c) d (f,g,_) h=>(cd (h<c) (bnd (idx a h) λi=>(cnd (b==i) (f h) (d (wr (h+1))))) (g ()))
def Il:=yJ jC
def Di: Lc 129 0 0:=dE 0x3addb33d3d2ce9f34019f4952a15 C10 [] [] @jC
def kN: Nat->(List Int)->Int->Option Int
 | 0,_,_=>none
 | n+1,a,b=>(bnd2 (Il n (a,b,(ln a)) 0) (λc=>(some c)) λd=>(bnd (some d) λ_=>(some (-1))))
def Lo: Kn:=cK 129 0x1dd135 C10 [⟨0,[Di]⟩] [] kN
abbrev C11:=Lo::C10
def eF: Nat->(List Int)->Int->Option Bool
 | 0,_,_=>none
 | n+1,a,b=>(bnd (kN n a b) λc=>(cd (c>=0) (some true) (some false)))
def Dj: Kn:=cK 134 0x1bb661 C11 [] [] eF
abbrev C12:=Dj::C11
def kY{R:Type}(n:Nat): (cW×(List cW)×Int)->(Int->Option R)->((cW->Option R)×(Unit->Option R)×Unit)->Int->Option R:=λ(a,b,c) d (f,g,_) h=>(cd (h<c) (bnd (idx b h) λi=>(cd (a.At=i.At) (f i) (d (wr (h+1))))) (g ()))
def Oi:=yJ kY
def Ja: Lc 124 0 1:=dE 0x149588cd8345f9cbd77037b7a6c4f9ed7a057afbe16b6f8aa5106fd817e80531f2b C12 [] [] @kY
def kZ{R:Type}(n:Nat): (aX×(List cW)×Int)->(Int->Option R)->(((cW×cW)->Option R)×(Unit->Option R)×Unit)->Int->Option R:=λ(a,b,c) d (f,g,_) h=>(cd (h<c) (bnd (idx b h) λi=>(bnd (PM a.Nodes 0 h) λj=>(bnd2 (Oi n (i,j,(ln j)) 0) (λl=>(f (i,l))) λm=>(bnd (some m) λ_=>(d (wr (h+1))))))) (g ()))
def Oj:=yJ kZ
def Jb: Lc 124 0 0:=dE 0x140dd7d5342bb76f5589ceabf955b539e85e9d7bba98f9be9e23cf81 C12 [⟨0,[cs Ja]⟩] [] @kZ
def qZ{R:Type}(n:Nat): (eP×(List Int))->((Bool->Option R)×Unit)->Unit->Option R:=λ(a,b) (c,_) _=>(bnd (eF n b a.From) λd=>(cnd (d) (bnd (eF n b a.To) λf=>(cnd (f) (c false) (c true))) (c true)))
def vT:=nE qZ
def Ix: Lc 124 0 3:=dD 0x13ea514c094d2b348ed41e10b5434d470333e31a60691 C12 [] [] @qZ
def kX{R:Type}(n:Nat): ((List Int)×(List eP)×Int)->(Int->Option R)->((eP->Option R)×(Unit->Option R)×Unit)->Int->Option R:=λ(a,b,c) d (f,g,_) h=>(cd (h<c) (bnd (idx b h) λi=>(bnd (vT n (i,a)) λj=>(cnd (j) (f i) (d (wr (h+1)))))) (g ()))
def Oh:=yJ kX
def Iz: Lc 124 0 2:=dE 0x429c735287ad061e35d3f4d55714bb545bed6096e836e2d849ca1c9 C12 [⟨0,[cs Ix]⟩] [] @kX
def qY{R:Type}(n:Nat): (aX×Int)->((Bool->Option R)×Unit)->Unit->Option R:=λ(a,b) (c,_) _=>(cnd (b != 0) (bnd (eF n a.Faces b) λd=>(cnd (d) (c false) (c true))) (c false))
def nX:=nE qY
def Iw: Lc 124 0 6:=dD 0x48dbecf655298f2656a32f7ca2645cf2b7cdb1bf9c0443c1b8 C12 [] [] @qY
def kW{R:Type}(n:Nat): (aX×(List eP)×Int)->(Int->Option R)->((eP->Option R)×(Unit->Option R)×Unit)->Int->Option R:=λ(a,b,c) d (f,g,_) h=>(cd (h<c) (bnd (idx b h) λi=>(bnd (jK (Nat.ble 3 n)) λ_=>(bnd (nX n (a,i.Left)) λj=>(cnd (j) (f i) (bnd (nX n (a,i.Right)) λl=>(cnd (l) (f i) (d (wr (h+1))))))))) (g ()))
def Og:=yJ kW
def Iy: Lc 124 0 4:=dE 0x5b62d0a9a4c55ebaa523ff842e828cad2bbe229eba2686f12f0ed461123a5 C12 [⟨1,[cs Iw]⟩] [] @kW
def uH: Nat->aX->(List Int)->Option Int
 | 0,_,_=>none
 | n+1,a,b=>(bnd2 (Oj n (a,a.Nodes,(ln a.Nodes)) 0) (λ_=>(some 8)) λc=>(bnd (some c) λ_=>(bnd2 (Oh n (b,a.Arcs,(ln a.Arcs)) 0) (λ_=>(some 7)) λd=>(bnd (some d) λ_=>(bnd2 (Og n (a,a.Arcs,(ln a.Arcs)) 0) (λ_=>(some 12)) λf=>(bnd (some f) λ_=>(some 0)))))))
def Ti: Kn:=cK 124 0xf997cc3e1a6 C12 [⟨0,[Jb]⟩,⟨2,[Iz]⟩,⟨4,[Iy]⟩] [] uH
abbrev C13:=Ti::C12
def aDL: Kn:=aIn 133 1 13 ⟨_,_,_,rfl,by decide,by decide⟩ (λn p=>clF n p) (λp=>p) (λn p r h=>by obtain⟨m,h1,h2,h3⟩:=aIo h;subst h2;exact⟨m,h1,rfl,h3,rfl,λe=>by cases (e:_=[]);rfl⟩)
abbrev C14:=aDL::C13
def yD{R:Type}(n:Nat): (Int×(List eP)×Int)->(Int->Option R)->(((Int×Int×Int×(List Aaa)×Int×Int×Int×Int×Int×(List Aaa)×Int×Int)->Option R)×(Unit->Option R)×Unit)->Int->Option R:=λ(a,b,c) d (f,g,_) h=>(cd (h<c) (bnd (idx b h) λi=>(cnd (i.ID==a) (bnd (clF n i.Via) λj=>(f (i.ID,i.From,i.To,j,i.Left,i.Right,i.ID,i.From,i.To,j,i.Left,i.Right))) (d (wr (h+1))))) (g ()))
def RM:=yJ yD
def HL: Lc 117 0 0:=dE 0x4da20ab58e8b0185a10cf418ef7ea5434ec2b6d8df3a11a01f0509e3a3c7d2fd34c60a061dac0813b8bffbea2679754b8340dee78 C14 [] [] @yD
def Ex: Nat->aX->Int->Option (eP×Bool)
 | 0,_,_=>none
 | n+1,a,b=>(bnd2 (RM n (b,a.Arcs,(ln a.Arcs)) 0) (λc=>(some ((eP.mk c.1 c.2.1 c.2.2.1 c.2.2.2.1 c.2.2.2.2.1 c.2.2.2.2.2.1),true))) λd=>(bnd (some d) λ_=>(some ((eP.mk 0 0 0 [] 0 0),false))))
def WZ: Kn:=cK 117 0x21899b15e C14 [⟨0,[HL]⟩] [] Ex
abbrev C15:=WZ::C14
def uI{R:Type}(n:Nat): (Int×(List cW)×Int)->(Int->Option R)->(((cW×cW)->Option R)×(Unit->Option R)×Unit)->Int->Option R:=λ(a,b,c) d (f,g,_) h=>(cd (h<c) (bnd (idx b h) λi=>(cnd (i.ID==a) (f (i,i)) (d (wr (h+1))))) (g ()))
def MJ:=yJ uI
def CN: Lc 116 0 0:=dE 0x7740299a169892b4016575ac9446ea5712165042f5500ab2e3e192bde96e56f35d438 C15 [] [] @uI
def iY: Nat->aX->Int->Option (cW×Bool)
 | 0,_,_=>none
 | n+1,a,b=>(bnd2 (MJ n (b,a.Nodes,(ln a.Nodes)) 0) (λc=>(some (c.1,true))) λd=>(bnd (some d) λ_=>(some ((cW.mk 0 (Aaa.mk 0 0)),false))))
def RL: Kn:=cK 116 0x8bbbe1b255fb08 C15 [⟨0,[CN]⟩] [] iY
abbrev C16:=RL::C15
def Nu: Nat->(List Aaa)->Int->Option (List Aaa)
 | 0,_,_=>none
 | n+1,_,a=>(cd (a<0) none none)
def Im: Kn:=cK 148 0x34665034e9f626 C16 [] [] Nu
abbrev C17:=Im::C16
def gM{R:Type}(n:Nat): ((List (List Aaa))×Int)->((Int×Int)->Option R)->((Int->Option R)×Unit)->(Int×Int)->Option R:=λ(a,b) c (d,_) (f,g)=>(cd (g<b) (bnd (idx a g) λh=>(cd ((wr (f+(ln h)))<0) none (c ((wr (f+(ln h))),(wr (g+1)))))) (d f))
def Ax:=Ym gM
def xV: Lc 130 0 0:=dE 0x13c7b751ee56f515c8b80622780af3f9e2 C17 [] [] @gM
def lS{R:Type}(n:Nat): Int->((Unit->Option R)×(((List Aaa)×(Nat×Nat))->Option R)×Unit)->Unit->Option R:=λa (b,c,_) _=>(cd (a<0) none (cd ((wr (a-0)) > 0) (bnd (rep (Aaa.mk 0 0) (wr (a-0)) (wr (a-0))) λd=>(cnd (List.isEmpty d) (b ()) (bnd (sub d (0,List.length d) 0 0) λf=>(c (d,f))))) (b ())))
def Ay:=KA lS
def xW: Ic:=dU 148 0 2 0xe68f635515beb22b8d8da653ff064c2f983e643dc1ff9311450ce5b C17 [] [] @lS
def lR{R:Type}(n:Nat): ((List (List Aaa))×Int)->(Int->Option R)->((Unit->Option R)×Unit)->Int->Option R:=λ(a,b) c (d,_) f=>(cd (f<b) (bnd (idx a f) λg=>(cnd (List.isEmpty g) (c (wr (f+1))) (bnd (app ([]:List Aaa) g) λ_=>none))) (d ()))
def Aw:=Ym lR
def xU: Lc 130 0 1:=dE 0x6c778ec1bf06c0cbc7cb3ff67fd564bcbf1c7993c80e010 C17 [] [] @lR
def gL{R:Type}(n:Nat): ((List (List Aaa))×Int)->(((List Aaa)×(Nat×Nat)×Int)->Option R)->((((List Aaa)×(Nat×Nat))->Option R)×Unit)->((List Aaa)×(Nat×Nat)×Int)->Option R:=λ(a,b) c (d,_) (f,g,h)=>(cd (h<b) (bnd (idx a h) λi=>(bnd (L8 f g i) λj=>(c (j,(g.1,g.2+List.length i),(wr (h+1)))))) (d (f,g)))
def Au:=Ym gL
def xS: Lc 130 0 1:=dE 0xa0c6cb5c6887025e38c81bee65dc5f7bfd334432eae46128f5dd60614274aa92d4d90 C17 [] [] @gL
def kS: Nat->(List (List Aaa))->Option (List Aaa)
 | 0,_=>none
 | n+1,a=>(bnd (Ax n (a,(ln a)) (0,0)) λb=>(bnd2 (Ay n b) (λ_=>(bnd (Aw n (a,(ln a)) 0) λ_=>(some []))) λc=>(bnd (some c) λd=>(bnd (Au n (a,(ln a)) (d.1,d.2,0)) λf=>(some (B7 f.1 (some f.2)))))))
def Dk: Kn:=cK 130 0x34664fd901ddec C17 [⟨0,[xV]⟩,⟨1,[xU,xS]⟩] [xW] kS
abbrev C18:=Dk::C17
def kB{R:Type}(n:Nat): Unit->((Unit->Option R)×Unit)->Unit->Option R:=λ_ (a,_) _=>(a ())
def gF:=nE kB
def CM: Lc 110 0 0:=dD 0xa5e969d875efe185e340b5d4e3e4e6b25225 C18 [] [] @kB
def CL: Lc 110 0 0:=dD 0x54a56de76c7a38de7b23388d94e153e7b17d125 C18 [] [] @kB
def CK: Lc 110 0 0:=dD 0xa5e3ef274aa9545f5d0d67c10a49826669f5 C18 [] [] @kB
def CJ: Lc 110 0 0:=dD 0x98f3c5d9eb6c1661cf7905ce9 C18 [] [] @kB
def tF: Nat->aX->Int->Option ((List Aaa)×Int)
 | 0,_,_=>none
 | n+1,a,b=>(bnd (Ex n a b) λc=>(cnd (c.2) (bnd (iY n a c.1.From) λd=>(cnd (d.2) (bnd (iY n a c.1.To) λf=>(cnd (f.2) (bnd (gF n ()) λ_=>(bnd (kS n [[d.1.At],c.1.Via,[f.1.At]]) λg=>(some (g,0)))) (bnd (gF n ()) λ_=>(some ([],7))))) (bnd (iY n a c.1.To) λh=>(cnd (h.2) (bnd (gF n ()) λ_=>(some ([],7))) (bnd (gF n ()) λ_=>(some ([],7))))))) (bnd (iY n a c.1.From) λi=>(cnd (i.2) (bnd (iY n a c.1.To) λj=>(cnd (j.2) (bnd (gF n ()) λ_=>(some ([],7))) (bnd (gF n ()) λ_=>(some ([],7))))) (bnd (iY n a c.1.To) λl=>(cnd (l.2) (bnd (gF n ()) λ_=>(some ([],7))) (bnd (gF n ()) λ_=>(some ([],7)))))))))
def RK: Kn:=cK 110 0x3051954a566f508122ff47708201 C18 [⟨0,[CM,CL,CK,CJ]⟩] [] tF
abbrev C19:=RK::C18
def uD{R:Type}(n:Nat): (eP×(List Aaa)×Int)->((Bool->Option R)×Unit)->Unit->Option R:=λ(a,b,c) (d,_) _=>(cnd (c != 0) (d true) (cnd (a.From==a.To) (cd ((ln b)<4) (d true) (d false)) (d false)))
def yX:=nE uD
def Ls: Lc 137 0 1:=dD 0x4f112630bca4f3bf5ee8d5ae357a21e77dc508a76a4bf0c7f6422a651875e C19 [] [] @uD
def mI{R:Type}(n:Nat): ((List Aaa)×LI×Int)->(((List aS)×Int)->Option R)->((((List aS)×(List aS))->Option R)×((List aS)->Option R)×Unit)->((List aS)×Int)->Option R:=λ(a,b,c) d (f,g,_) (h,i)=>(cd (i<c) (bnd (idx a i) λj=>(bnd (idx a (wr (i+1))) λl=>(cd (j=l) (f (h,[])) (bnd (app h [(aS.mk b i)]) λm=>(d (m,(wr (i+1)))))))) (g h))
def Sg:=yJ mI
def Lt: Lc 137 0 2:=dE 0x11f0b73fc0b8b5988c9587908db05ca3d956288f280bd39e677c210093ea980e2edc985349c0693b055224ec75db6863ee80196974e53ad53d434c57f3bc8 C19 [] [] @mI
def mJ{R:Type}(n:Nat): (aX×(List eP)×Int)->(((List aS)×Int)->Option R)->((((List aS)×eP×(List aS))->Option R)×(((List aS)×eP×(List aS))->Option R)×((List aS)->Option R)×Unit)->((List aS)×Int)->Option R:=λ(a,b,c) d (f,g,h,_) (i,j)=>(cd (j<c) (bnd (idx b j) λl=>(bnd (tF n a l.ID) λm=>(bnd (yX n (l,m.1,m.2)) λo=>(cnd (o) (f (i,l,[])) (bnd2 (Sg n (m.1,(LI.mk l m.1),(wr ((ln m.1)-1))) (i,0)) (λr=>(g (r.1,l,r.2))) λs=>(bnd (some s) λt=>(d (t,(wr (j+1)))))))))) (h i))
def Si:=lp3 mJ
def Lu: Lc 137 0 0:=dE 0xeef140935fe6d4a96e4a353f477e2513d992483962f37c62634fbbaa7288c8ec268e24ab6496f0ff009e371895d7c4f76e85db69be2a189c892a4f18f39cffb0b805f8dc9917805575 C19 [⟨0,[cs Ls]⟩,⟨1,[cs Lt]⟩] [] @mJ
def yB: Nat->aX->Option ((List aS)×Bool)
 | 0,_=>none
 | n+1,a=>(bnd2 (Si n (a,a.Arcs,(ln a.Arcs)) ([],0)) (λb=>(bnd (jK true) λ_=>(some (b.2.2,false)))) λc=>(bnd2 (some c) (λd=>(bnd (jK true) λ_=>(some (d.2.2,false)))) λf=>(bnd (some f) λg=>(bnd (jK true) λ_=>(some (g,true))))))
def Yd: Kn:=cK 137 0x6bdecfbd7aad65b0874 C19 [⟨0,[Lu]⟩] [] yB
abbrev C20:=Yd::C19
def dA: Nat->aS->Option (Aaa×Aaa)
 | 0,_=>none
 | n+1,a=>(bnd (idx a.line.path a.at_) λb=>(bnd (idx a.line.path (wr (a.at_+1))) λc=>(some (b,c))))
def Ir: Kn:=cK 143 0x19eb7905c99a9c C20 [] [] dA
abbrev C21:=Ir::C20
def gD: Nat->aS->Option Int
 | 0,_=>none
 | n+1,a=>(bnd (dA n a) λb=>(some (HP b.1.X b.2.X)))
def Ip: Kn:=cK 140 0x30570c C21 [] [] gD
abbrev C22:=Ip::C21
def lZ: Nat->Int->Option Bool
 | 0,_=>none
 | n+1,a=>(cnd (a != a) (some true) (some false))
def Zd: Kn:=cK 157 0x1f359f C22 [] [] lZ
abbrev C23:=Zd::C22
def qV: Nat->Int->Int->Option Int
 | 0,_,_=>none
 | n+1,a,b=>(bnd (lZ n a) λc=>(cnd (c) (bnd (lZ n b) λd=>(cnd (d) (some 0) (some (-1)))) (bnd (lZ n b) λf=>(cnd (f) (some 1) (cd (a<b) (some (-1)) (cd (a > b) (some 1) (some 0)))))))
def Qq: Kn:=cK 151 0xf98a5e9616a C23 [] [] qV
abbrev C24:=Qq::C23
def nV: Nat->aS->aS->Option Int
 | 0,_,_=>none
 | n+1,a,b=>(bnd (gD n a) λc=>(bnd (gD n b) λd=>(bnd (qV n c d) λf=>(some f))))
def Sj: Kn:=cK 139 0xf98efe394f2 C24 [] [] nV
abbrev C25:=Sj::C24
def nU: Nat->aS->Option Int
 | 0,_=>none
 | n+1,a=>(bnd (dA n a) λb=>(some (Fk b.1.X b.2.X)))
def Is: Kn:=cK 141 0x30570c C25 [] [] nU
abbrev C26:=Is::C25
def Fs{R:Type}(n:Nat): Aaa->((Bool->Option R)×Unit)->Unit->Option R:=λa (b,_) _=>(cd (a.X<(-2097152)) (b true) (cd (a.X > 2097152) (b true) (cd (a.Y<(-2097152)) (b true) (cd (a.Y > 2097152) (b true) (b false)))))
def Pc:=nE Fs
def DY: Lc 153 0 1:=dD 0x30d86c0fc46b23575804f69d87983c5e263854e C26 [] [] @Fs
def uS{R:Type}(n:Nat): ((List Aaa)×Int)->(Int->Option R)->((Aaa->Option R)×(Unit->Option R)×Unit)->Int->Option R:=λ(a,b) c (d,f,_) g=>(cd (g<b) (bnd (idx a g) λh=>(bnd (Pc n h) λi=>(cnd (i) (d h) (c (wr (g+1)))))) (f ()))
def NM:=yJ uS
def DZ: Lc 153 0 0:=dE 0x1e0a9f4b53915524cd1074ac9db338b C26 [⟨0,[cs DY]⟩] [] @uS
def mW: Nat->(List Aaa)->Option Bool
 | 0,_=>none
 | n+1,a=>(bnd2 (NM n (a,(ln a)) 0) (λ_=>(some false)) λb=>(bnd (some b) λ_=>(some true)))
def TM: Kn:=cK 153 0xfea1ffee C26 [⟨0,[DZ]⟩] [] mW
abbrev C27:=TM::C26
def gP: Nat->Aaa->Aaa->Aaa->Option Int
 | 0,_,_,_=>none
 | n+1,a,b,c=>(some (wr ((wr ((wr (b.X-a.X))*(wr (c.Y-a.Y))))-(wr ((wr (b.Y-a.Y))*(wr (c.X-a.X)))))))
def NL: Kn:=cK 154 0x1dd136 C27 [] [] gP
abbrev C28:=NL::C27
def Pe{R:Type}(n:Nat): (Aaa×Aaa×Aaa)->((Bool->Option R)×Unit)->Unit->Option R:=λ(a,b,c) (d,_) _=>(bnd (mW n [a,b,c]) λf=>(cnd (f) (bnd (gP n a b c) λg=>(cnd (g != 0) (d true) (d false))) (d true)))
def EB:=nE Pe
def NQ: Lc 144 0 0:=dD 0x1c3d7cee33b6094f1d94ae46943d43fa54866e44464b9c89c082e C28 [] [] @Pe
def Pd{R:Type}(n:Nat): (Aaa×Aaa×Aaa)->((Bool->Option R)×Unit)->Unit->Option R:=λ(a,b,c) (d,_) _=>(cd ((HP a.X b.X)<=c.X) (cd (c.X<=(Fk a.X b.X)) (cd ((HP a.Y b.Y)<=c.Y) (cd (c.Y<=(Fk a.Y b.Y)) (d true) (d false)) (d false)) (d false)) (d false))
def EA:=nE Pd
def NP: Lc 144 0 1:=dD 0x8b540b420fc7fa63a224d423f94f54aae C28 [] [] @Pd
def qC: Nat->Aaa->Aaa->Aaa->Option Bool
 | 0,_,_,_=>none
 | n+1,a,b,c=>(bnd (EB n (a,b,c)) λd=>(cnd (d) (some false) (bnd (EA n (a,b,c)) λf=>(cnd (f) (some true) (some false)))))
def J0: Kn:=cK 144 0x1bb662 C28 [⟨0,[NQ]⟩,⟨1,[NP]⟩] [] qC
abbrev C29:=J0::C28
def Mg: Nat->Aaa->Aaa->Aaa->Option Int
 | 0,_,_,_=>none
 | n+1,a,b,c=>(bnd (mW n [a,b,c]) λd=>(cnd (d) (bnd (gP n a b c) λf=>(some f)) (some 0)))
def NO: Kn:=cK 159 0x107caaaf76c99001ce8d C29 [] [] Mg
abbrev C30:=NO::C29
def jA: Nat->Aaa->Aaa->Aaa->Option Int
 | 0,_,_,_=>none
 | n+1,a,b,c=>(bnd (Mg n a b c) λd=>(cd (d > 0) (some 1) (cd (d<0) (some (-1)) (some 0))))
def TN: Kn:=cK 156 0x1dd136 C30 [] [] jA
abbrev C31:=TN::C30
def zL{R:Type}(n:Nat): (Aaa×Aaa)->((Bool->Option R)×Unit)->Unit->Option R:=λ(a,b) (c,_) _=>(cd (a.X<b.X) (c true) (cnd (a.X==b.X) (cd (a.Y<b.Y) (c true) (c false)) (c false)))
def Ft:=nE zL
def Ul: Lc 160 0 0:=dD 0x80802c5f3bc536535a4f1c C31 [] [] @zL
def mX: Nat->Aaa->Aaa->Option Bool
 | 0,_,_=>none
 | n+1,a,b=>(bnd (Ft n (a,b)) λc=>(cnd (c) (some true) (some false)))
def HU: Kn:=cK 160 0x3be172 C31 [⟨0,[Ul]⟩] [] mX
abbrev C32:=HU::C31
def pV{R:Type}(n:Nat): (Aaa×Aaa)->(((Aaa×Aaa)->Option R)×Unit)->Unit->Option R:=λ(a,b) (c,_) _=>(bnd (mX n b a) λd=>(cnd (d) (c (b,a)) (c (a,b))))
def uR:=nE pV
def Uk: Lc 158 0 0:=dD 0x3cb9e852eb2bb8da8ef17a7e83b546484790bb2 C32 [] [] @pV
def Uj: Lc 158 0 1:=dD 0x1f59c0b0221f63310563a4c0d6fe72beeefbf663a43e9e6 C32 [] [] @pV
def zK{R:Type}(n:Nat): (Aaa×Aaa)->((Aaa->Option R)×Unit)->Unit->Option R:=λ(a,b) (c,_) _=>(bnd (mX n b a) λd=>(cnd (d) (c a) (c b)))
def Fp:=nE zK
def Ui: Lc 158 0 2:=dD 0x129a69ec066612d8465d1c5962b99d933f37feddb1d22629c97900a6dfc2999718a C32 [] [] @zK
def zJ{R:Type}(n:Nat): (Aaa×Aaa)->((Aaa->Option R)×Unit)->Unit->Option R:=λ(a,b) (c,_) _=>(bnd (mX n a b) λd=>(cnd (d) (c a) (c b)))
def Fo:=nE zJ
def Uh: Lc 158 0 3:=dD 0x484716a9363456a1abb679f846031e32cfd70c7b5bd285c89496c3187e931c922b C32 [] [] @zJ
def Fq: Nat->Aaa->Aaa->Aaa->Aaa->Option Int
 | 0,_,_,_,_=>none
 | n+1,a,b,c,d=>(bnd (uR n (a,b)) λf=>(bnd (uR n (c,d)) λg=>(bnd (Fp n (g.1,f.1)) λh=>(bnd (Fo n (g.2,f.2)) λi=>(cd (h=i) (some 1) (bnd (mX n h i) λj=>(cnd (j) (some 2) (some 0))))))))
def HS: Kn:=cK 158 0x7c1a62d62f4 C32 [⟨0,[Uk]⟩,⟨1,[Uj]⟩,⟨2,[Ui]⟩,⟨3,[Uh]⟩] [] Fq
abbrev C33:=HS::C32
def Fv{R:Type}(n:Nat): (Aaa×Aaa×Aaa×Aaa)->((Bool->Option R)×Unit)->Unit->Option R:=λ(a,b,c,d) (f,_) _=>(bnd (jA n a b c) λg=>(cnd (g==0) (bnd (jA n a b d) λh=>(cnd (h==0) (f true) (f false))) (f false)))
def Pg:=nE Fv
def ED: Lc 152 0 0:=dD 0xa3d4889754c91d472af72ceb29ba9849377116dffaa18dfa186e39c C33 [] [] @Fv
def Fu{R:Type}(n:Nat): (Aaa×Aaa×Aaa×Aaa)->((Bool->Option R)×Unit)->Unit->Option R:=λ(a,b,c,d) (f,_) _=>(bnd (jA n a b c) λg=>(bnd (jA n a b d) λh=>(cd ((wr (g*h))<=0) (bnd (jA n c d a) λi=>(bnd (jA n c d b) λj=>(cd ((wr (i*j))<=0) (f true) (f false)))) (f false))))
def Pf:=nE Fu
def EC: Lc 152 0 1:=dD 0x244915a336443c415650c650bf01f54ae59dd9c C33 [] [] @Fu
def Hz: Nat->Aaa->Aaa->Aaa->Aaa->Option Int
 | 0,_,_,_,_=>none
 | n+1,a,b,c,d=>(bnd (mW n [a,b,c,d]) λf=>(cnd (f) (cd (a=b) (bnd (qC n c d a) λg=>(cnd (g) (some 1) (some 0))) (cd (c=d) (bnd (qC n a b c) λh=>(cnd (h) (some 1) (some 0))) (bnd (Pg n (a,b,c,d)) λi=>(cnd (i) (bnd (Fq n a b c d) λj=>(some j)) (bnd (Pf n (a,b,c,d)) λl=>(cnd (l) (some 1) (some 0))))))) (some 0)))
def TO: Kn:=cK 152 0x8699d2337c07e6408eb0c3 C33 [⟨0,[ED]⟩,⟨1,[EC]⟩] [] Hz
abbrev C34:=TO::C33
def iM: Nat->aS->Option Bool
 | 0,_=>none
 | n+1,a=>(cnd (a.at_==0) (some true) (some false))
def El: Kn:=cK 145 0x1f36f2 C34 [] [] iM
abbrev C35:=El::C34
def gE: Nat->aS->Option Bool
 | 0,_=>none
 | n+1,a=>(cnd (a.at_==(wr ((ln a.line.path)-2))) (some true) (some false))
def Iq: Kn:=cK 146 0x1f36f2 C35 [] [] gE
abbrev C36:=Iq::C35
def jZ{R:Type}(n:Nat): (aS×aS)->(((aS×aS)->Option R)×Unit)->Unit->Option R:=λ(a,b) (c,_) _=>(cd (a.at_ > b.at_) (c (b,a)) (c (a,b)))
def mM:=nE jZ
def Ew: Lc 142 0 0:=dD 0x51342e2fb576a725f47255a406dfa0de91dbfd6 C36 [] [] @jZ
def jY{R:Type}(n:Nat): (aS×aS)->((Bool->Option R)×Unit)->Unit->Option R:=λ(a,b) (c,_) _=>(cnd ((wr (a.at_+1))==b.at_) (c true) (cnd (a.line.Arc.From==a.line.Arc.To) (bnd (iM n a) λd=>(cnd (d) (bnd (gE n b) λf=>(cnd (f) (c true) (c false))) (c false))) (c false)))
def mL:=nE jY
def Eu: Lc 142 0 1:=dD 0x137e2a422f61c6a491453758bb9baa3856 C36 [] [] @jY
def jX{R:Type}(n:Nat): (aS×Aaa×Aaa×Aaa×Aaa×Int×Int×Int)->((Bool->Option R)×Unit)->Unit->Option R:=λ(a,b,c,d,f,g,h,i) (j,_) _=>(cnd (i==a.line.Arc.From) (bnd (qC n b c (Aaa.mk g h)) λl=>(cnd (l) (bnd (qC n d f (Aaa.mk g h)) λm=>(cnd (m) (j true) (j false))) (j false))) (cnd (i==a.line.Arc.To) (bnd (qC n b c (Aaa.mk g h)) λo=>(cnd (o) (bnd (qC n d f (Aaa.mk g h)) λr=>(cnd (r) (j true) (j false))) (j false))) (j false)))
def fN:=nE jX
def Et: Lc 142 0 3:=dD 0x131446ce63538f0041290962a0553f9684dd7c091a29a33db83fef67b5ee8b6eb761aad0d2cb9742bb3d9a3c9e2d09f9e457 C36 [] [] @jX
def Yf: Nat->aS->aS->(List (Int×Aaa))->Option Bool
 | 0,_,_,_=>none
 | n+1,a,b,c=>(bnd (dA n a) λd=>(bnd (dA n b) λf=>(bnd (Hz n d.1 d.2 f.1 f.2) λg=>(cnd (a.line.Arc.ID==b.line.Arc.ID) (bnd (mM n (a,b)) λh=>(bnd (mL n (h.1,h.2)) λi=>(cnd (i) (cnd (g==1) (some true) (some false)) (cnd (g==0) (some true) (some false))))) (cnd (g != 1) (cnd (g==0) (some true) (some false)) (bnd (jK (Nat.ble 3 n)) λ_=>(bnd (fN n (b,d.1,d.2,f.1,f.2,(Option.getD (cR c a.line.Arc.From) (Aaa.mk 0 0)).X,(Option.getD (cR c a.line.Arc.From) (Aaa.mk 0 0)).Y,a.line.Arc.From)) λj=>(cnd (j) (some true) (bnd (fN n (b,d.1,d.2,f.1,f.2,(Option.getD (cR c a.line.Arc.To) (Aaa.mk 0 0)).X,(Option.getD (cR c a.line.Arc.To) (Aaa.mk 0 0)).Y,a.line.Arc.To)) λl=>(cnd (l) (some true) (some false)))))))))))
def Ok: Kn:=cK 142 0x7d174a536f9c956fa2e2ae C36 [⟨0,[Ew]⟩,⟨1,[Eu]⟩,⟨3,[Et]⟩] [] Yf
abbrev C37:=Ok::C36
def pH{R:Type}(n:Nat): ((List cW)×Int)->(((List (Int×Aaa))×Int)->Option R)->((((List (Int×Aaa)))->Option R)×Unit)->((List (Int×Aaa))×Int)->Option R:=λ(a,b) c (d,_) (f,g)=>(cd (g<b) (bnd (idx a g) λh=>(c ((oQ f h.ID h.At),(wr (g+1))))) (d f))
def CB:=Ym pH
def Ss: Lc 125 0 0:=dE 0x8bfe8f51e9d82aa2a51299fbb98f37ec665db01de2fe7f82028d08ab52 C37 [] [] @pH
def So: Lc 142 0 0:=dD 0x51342ed5d4491433e5f18460b7f7f14b1ae3aaf C37 [] [] @jZ
def Sn: Lc 142 0 1:=dD 0x9f24052f66b39910c78f77d9fa5bc57087af C37 [] [] @jY
end
noncomputable section
def Sl: Lc 142 0 3:=dD 0x2fb4a6711f896df13d34b7dedde47aa4674ecd06df6d3148f3049ecb703c2ee94552de8b9502ec912fd77c3c3cafd23938002e12a420ac8ff480af6dff0261fd35 C37 [] [] @jX
def yZ{R:Type}(n:Nat): ((List (Int×Aaa))×aS×aS)->(((aS×aS×Aaa×Aaa×Aaa×Aaa×Bool)->Option R)×((Aaa×Aaa×Aaa×Aaa×Int×Int)->Option R)×Unit)->Unit->Option R:=λ(a,b,c) (d,f,_) _=>(bnd (dA n b) λg=>(bnd (dA n c) λh=>(bnd (Hz n g.1 g.2 h.1 h.2) λi=>(cnd (b.line.Arc.ID==c.line.Arc.ID) (bnd (mM n (b,c)) λj=>(bnd (mL n (j.1,j.2)) λl=>(cnd (l) (cnd (i==1) (d (j.1,j.2,g.1,g.2,h.1,h.2,true)) (d (j.1,j.2,g.1,g.2,h.1,h.2,false))) (cnd (i==0) (d (j.1,j.2,g.1,g.2,h.1,h.2,true)) (d (j.1,j.2,g.1,g.2,h.1,h.2,false)))))) (cnd (i != 1) (cnd (i==0) (d (b,c,g.1,g.2,h.1,h.2,true)) (d (b,c,g.1,g.2,h.1,h.2,false))) (bnd (jK (Nat.ble 3 n)) λ_=>(bnd (fN n (c,g.1,g.2,h.1,h.2,(Option.getD (cR a b.line.Arc.From) (Aaa.mk 0 0)).X,(Option.getD (cR a b.line.Arc.From) (Aaa.mk 0 0)).Y,b.line.Arc.From)) λm=>(cnd (m) (f (g.1,g.2,h.1,h.2,(Option.getD (cR a b.line.Arc.From) (Aaa.mk 0 0)).X,(Option.getD (cR a b.line.Arc.From) (Aaa.mk 0 0)).Y)) (bnd (fN n (c,g.1,g.2,h.1,h.2,(Option.getD (cR a b.line.Arc.To) (Aaa.mk 0 0)).X,(Option.getD (cR a b.line.Arc.To) (Aaa.mk 0 0)).Y,b.line.Arc.To)) λo=>(cnd (o) (f (g.1,g.2,h.1,h.2,(Option.getD (cR a b.line.Arc.To) (Aaa.mk 0 0)).X,(Option.getD (cR a b.line.Arc.To) (Aaa.mk 0 0)).Y)) (d (b,c,g.1,g.2,h.1,h.2,false))))))))))))
def Ep:=KA yZ
def Sv: Ic:=dU 142 0 3 0x10cccab4735fcb970cb9692c4107f66adcba58a743ae93f50c3fc16814f4eac51f5ef10dfd0ad5fd356174f7a2139e4b6b408502c545fac2f1 C37 [⟨0,[So]⟩,⟨1,[Sn]⟩,⟨3,[Sl]⟩] [] @yZ
def pF{R:Type}(n:Nat): ((List (Int×Aaa))×aS×(List aS)×Int)->(Int->Option R)->((Unit->Option R)×((aS×aS×aS×Aaa×Aaa×Aaa×Aaa)->Option R)×Unit)->Int->Option R:=λ(a,b,c,d) f (g,h,_) i=>(cd (i<d) (bnd (idx c i) λj=>(bnd (gD n j) λl=>(bnd (nU n b) λm=>(cd (l > m) (g ()) (bnd2 (Ep n (a,b,j)) (λo=>(cnd (o.2.2.2.2.2.2) (f (wr (i+1))) (h (j,o.1,o.2.1,o.2.2.1,o.2.2.2.1,o.2.2.2.2.1,o.2.2.2.2.2.1)))) λr=>(bnd (some r) λ_=>(f (wr (i+1))))))))) (g ()))
def CA:=yJ pF
def Sq: Lc 125 0 2:=dE 0x1c7bfc470bcef63138e982d721467aff0dccbd2c68e340462a004c8e8a072b5282ee9872f437d0bed1f7b91e56cb3484c8f7bd65586dc2e C37 [] [Sv] @pF
def yY{R:Type}(n:Nat): (aS×cW×Aaa×Aaa)->((Bool->Option R)×Unit)->Unit->Option R:=λ(a,b,c,d) (f,_) _=>(bnd (qC n c d b.At) λg=>(cnd (g) (bnd (iM n a) λh=>(cnd (h) (cnd (a.line.Arc.From==b.ID) (f false) (bnd (gE n a) λi=>(cnd (i) (cnd (a.line.Arc.To==b.ID) (f false) (f true)) (f true)))) (bnd (gE n a) λj=>(cnd (j) (cnd (a.line.Arc.To==b.ID) (f false) (f true)) (f true))))) (f false)))
def Em:=nE yY
def Sk: Lc 125 0 4:=dD 0x146473bdb0f0b2e25ab67fd1ac4b5d9688e5c99ec22fa4d0913fd00b1cfb6de8c32f634d791c168314e C37 [] [] @yY
def pE{R:Type}(n:Nat): (aS×(List cW)×Int)->(Int->Option R)->(((cW×Aaa×Aaa)->Option R)×(Unit->Option R)×Unit)->Int->Option R:=λ(a,b,c) d (f,g,_) h=>(cd (h<c) (bnd (idx b h) λi=>(bnd (dA n a) λj=>(bnd (Em n (a,i,j.1,j.2)) λl=>(cnd (l) (f (i,j.1,j.2)) (d (wr (h+1))))))) (g ()))
def BZ:=yJ pE
def Sp: Lc 125 0 3:=dE 0xa679714df0c379a457637f48b0219bbd29d5d32ec95c52b580c900efa04290c18c8d11a632435405169ce C37 [⟨0,[cs Sk]⟩] [] @pE
def pG{R:Type}(n:Nat): (aX×(List (Int×Aaa))×(List aS)×(List aS)×Int)->(Int->Option R)->(((aS×cW×Aaa×Aaa)->Option R)×((aS×aS×aS×aS×Aaa×Aaa×Aaa×Aaa)->Option R)×(Unit->Option R)×Unit)->Int->Option R:=λ(a,b,c,d,f) g (h,i,j,_) l=>(cd (l<f) (bnd (idx d l) λm=>(bnd (PM c (wr (l+1)) (ln c)) λo=>(bnd2 (CA n (b,m,o,(ln o)) 0) (λ_=>(bnd2 (BZ n (m,a.Nodes,(ln a.Nodes)) 0) (λr=>(h (m,r.1,r.2.1,r.2.2))) λs=>(bnd (some s) λ_=>(g (wr (l+1)))))) λt=>(bnd (some t) λu=>(i (m,u.1,u.2.1,u.2.2.1,u.2.2.2.1,u.2.2.2.2.1,u.2.2.2.2.2.1,u.2.2.2.2.2.2)))))) (j ()))
def Eo:=lp3 pG
def Sr: Lc 125 0 1:=dE 0x7bc535c0ccb2e5a9d12fdba39d9b68aa9df2db24beba6b6eeebeb679bdd0d6c95981ea955d23cde5915e8d8b65d5f0df43ec0eb788702766d3c5d0447942f64a1f6e31c C37 [⟨0,[cs Sq]⟩,⟨1,[cs Sp]⟩] [] @pG
def Er: Nat->aX->Option Bool
 | 0,_=>none
 | n+1,a=>(bnd (yB n a) λb=>(cnd (b.2) (bnd (CB n (a.Nodes,(ln a.Nodes)) ([],0)) λc=>(bnd (prd n) λd=>(bnd (jK (decide (List.length b.1<=1000000))) λ_=>(bnd (qX (λ(f g:aS)=>(bnd (nV d f g) λh=>(some h))) b.1) λi=>(bnd2 (Eo n (a,c,i,i,(ln i)) 0) (λ_=>(some false)) λj=>(bnd2 (some j) (λ_=>(some false)) λl=>(bnd (some l) λ_=>(some true)))))))) (some false)))
def HE: Kn:=cK 125 0x3adde98488c241 C37 [⟨0,[Ss]⟩,⟨1,[Sr]⟩] [] Er
abbrev C38:=HE::C37
def Cr{R:Type}(n:Nat): aX->((Bool->Option R)×Unit)->Unit->Option R:=λa (b,_) _=>(cd ((ln a.Nodes) > 256) (b true) (cd ((ln a.Arcs) > 256) (b true) (cd ((ln a.Faces) > 64) (b true) (b false))))
def HJ:=nE Cr
def Yi: Lc 105 0 0:=dD 0x32390d77a9c23d466 C38 [] [] @Cr
def qR{R:Type}(n:Nat): ((List eP)×Int)->(Int->Option R)->((eP->Option R)×(Unit->Option R)×Unit)->Int->Option R:=λ(a,b) c (d,f,_) g=>(cd (g<b) (bnd (idx a g) λh=>(cd ((ln h.Via) > 64) (d h) (c (wr (g+1))))) (f ()))
def HK:=yJ qR
def Yj: Lc 105 0 1:=dE 0x96ee4767acf5b07b3f032f2fd7aef525f880696c0a4c917 C38 [] [] @qR
def Cq{R:Type}(n:Nat): (aX×(List Int)×(List Int))->((Bool->Option R)×Unit)->Unit->Option R:=λ(a,b,c) (d,_) _=>(bnd (kA n b) λf=>(cnd (f) (bnd (kA n c) λg=>(cnd (g) (bnd (kA n a.Faces) λh=>(cnd (h) (d false) (d true))) (d true))) (d true)))
def HI:=nE Cq
def Yh: Lc 105 0 2:=dD 0x9727f4783e64d47c40615b789e66410b09acd7d93688 C38 [] [] @Cq
def Cp{R:Type}(n:Nat): (aX×(List Int)×(List Int))->((Bool->Option R)×Unit)->Unit->Option R:=λ(a,b,c) (d,_) _=>(bnd (lY n b) λf=>(cnd (f) (bnd (lY n c) λg=>(cnd (g) (bnd (lY n a.Faces) λh=>(cnd (h) (bnd (Es n a) λi=>(cnd (i) (d false) (d true))) (d true))) (d true))) (d true)))
def HH:=nE Cp
def Yg: Lc 105 0 3:=dD 0x471de24f639c6b29f0a23c54aa61fa644288 C38 [] [] @Cp
def Ma: Nat->aX->Option Int
 | 0,_=>none
 | n+1,a=>(bnd (HJ n a) λb=>(cnd (b) (some 3) (bnd2 (HK n (a.Arcs,(ln a.Arcs)) 0) (λ_=>(some 3)) λc=>(bnd (some c) λ_=>(bnd (pM n a) λd=>(bnd (HI n (a,d.1,d.2)) λf=>(cnd (f) (some 10) (bnd (HH n (a,d.1,d.2)) λg=>(cnd (g) (some 2) (bnd (uH n a d.1) λh=>(cnd (h != 0) (some h) (bnd (Er n a) λi=>(cnd (i) (some 0) (some 11))))))))))))))
def MK: Kn:=cK 105 0x1dcfbc C38 [⟨0,[Yi]⟩,⟨1,[Yj]⟩,⟨2,[Yh]⟩,⟨3,[Yg]⟩] [] Ma
abbrev C39:=MK::C38
def Cs{R:Type}(n:Nat): (Aaa×Aaa)->((Bool->Option R)×Unit)->Unit->Option R:=λ(a,b) (c,_) _=>(cd (b.Y<a.Y) (c true) (cnd (b.Y==a.Y) (cd (b.X<a.X) (c true) (c false)) (c false)))
def HT:=nE Cs
def Yq: Lc 155 0 0:=dD 0x80802c5f3bc536535a4f1c C39 [] [] @Cs
def gQ: Nat->Aaa->Aaa->Option Bool
 | 0,_,_=>none
 | n+1,a,b=>(bnd (HT n (a,b)) λc=>(cnd (c) (some true) (some false)))
def NN: Kn:=cK 155 0x3be172 C39 [⟨0,[Yq]⟩] [] gQ
abbrev C40:=NN::C39
def Fw{R:Type}(n:Nat): (Aaa×Aaa×Aaa)->((Bool->Option R)×Unit)->Unit->Option R:=λ(a,b,c) (d,_) _=>(bnd (mW n [a,b,c]) λf=>(cnd (f) (cd (b=a) (d true) (cd (c=a) (d true) (d false))) (d true)))
def Pi:=nE Fw
def EE: Lc 147 0 0:=dD 0x1c3d7cee33b6094f1d94ae46943f10f429a54405461290893c62e C40 [] [] @Fw
def Ia: Nat->Aaa->Aaa->Aaa->Option Bool
 | 0,_,_,_=>none
 | n+1,a,b,c=>(bnd (Pi n (a,b,c)) λd=>(cnd (d) (some false) (bnd (gQ n a b) λf=>(cnd (f) (bnd (gQ n a c) λg=>(cnd (g) (cd (true=true) (bnd (gP n a b c) λh=>(cd (h > 0) (some true) (some false))) (bnd (gQ n a c) λi=>(cnd (i) (some true) (some false)))) (cd (true=false) (bnd (gP n a b c) λj=>(cd (j > 0) (some true) (some false))) (bnd (gQ n a c) λl=>(cnd (l) (some true) (some false)))))) (bnd (gQ n a c) λm=>(cnd (m) (cd (false=true) (bnd (gP n a b c) λo=>(cd (o > 0) (some true) (some false))) (bnd (gQ n a c) λr=>(cnd (r) (some true) (some false)))) (cd (false=false) (bnd (gP n a b c) λs=>(cd (s > 0) (some true) (some false))) (bnd (gQ n a c) λt=>(cnd (t) (some true) (some false))))))))))
def TP: Kn:=cK 147 0x1bb662 C40 [⟨0,[EE]⟩] [] Ia
abbrev C41:=TP::C40
def yO{R:Type}(n:Nat): (eP×Int)->((Bool->Option R)×Unit)->Unit->Option R:=λ(a,b) (c,_) _=>(cnd (a.From != b) (cnd (a.To != b) (c true) (c false)) (c false))
def AW:=nE yO
def Rr: Lc 106 0 1:=dD 0x997da0ab5c39490945d043769a2a80eb85039c858c3dcfee1914a07df699502acb18a510bd C41 [] [] @yO
def pB{R:Type}(n:Nat): ((List Int)×(List (Int×Aaa))×Int×Aaa)->((((List Int)×(List (Int×Aaa)))->Option R)×Unit)->Unit->Option R:=λ(a,b,c,d) (f,_) _=>(bnd (app a [c]) λg=>(f (g,(oQ b c d))))
def nK:=Dq pB
def Rv: Ic:=dU 126 0 4 0x1bb581978af37b00448c7c9d84ac805958b0564a1aa6b21a1afc6a6a5dc75ede035adee8eaae90 C41 [] [] @pB
def Ru: Ic:=dU 126 0 4 0xe237d3ff3467ca302fa2f1345df7ed82958bd4af8a2d97ac804a4dcdab81560a4c7d9b6758094cdc C41 [] [] @pB
def kM{R:Type}(n:Nat): (aX×Int×(List eP)×Int)->(((List Int)×(List (Int×Aaa))×Int)->Option R)->((((List Int)×(List (Int×Aaa)))->Option R)×Unit)->((List Int)×(List (Int×Aaa))×Int)->Option R:=λ(a,b,c,d) f (g,_) (h,i,j)=>(cd (j<d) (bnd (idx c j) λl=>(bnd (AW n (l,b)) λm=>(cnd (m) (f (h,i,(wr (j+1)))) (bnd (tF n a l.ID) λo=>(cnd (o.2 != 0) (f (h,i,(wr (j+1)))) (cnd (l.From==b) (bnd (idx o.1 1) λr=>(bnd (nK n (h,i,l.ID,r)) λs=>(cnd (l.To==b) (bnd (idx o.1 (wr ((ln o.1)-2))) λt=>(bnd (nK n (s.1,s.2,(wr (0-l.ID)),t)) λu=>(f (u.1,u.2,(wr (j+1)))))) (f (s.1,s.2,(wr (j+1))))))) (cnd (l.To==b) (bnd (idx o.1 (wr ((ln o.1)-2))) λv=>(bnd (nK n (h,i,(wr (0-l.ID)),v)) λw=>(f (w.1,w.2,(wr (j+1)))))) (f (h,i,(wr (j+1))))))))))) (g (h,i)))
def AX:=Ym kM
def Rs: Lc 106 0 0:=dE 0x1314189ab2a4f9f082d53a2e5f81fd84a7b083732f18246b2188a61bf2ffe2395d14b17ccfc7662f18f8f076f4f9434c4897 C41 [⟨0,[cs Rr]⟩] [Rv,Ru] @kM
def yP{R:Type}(n:Nat): (cW×(List (Int×Aaa))×Int×Int)->((Int->Option R)×Unit)->Unit->Option R:=λ(a,b,c,d) (f,_) _=>(bnd (Ia n a.At (Aaa.mk ((Option.getD (cR b c) (Aaa.mk 0 0)).X) ((Option.getD (cR b c) (Aaa.mk 0 0)).Y)) (Aaa.mk ((Option.getD (cR b d) (Aaa.mk 0 0)).X) ((Option.getD (cR b d) (Aaa.mk 0 0)).Y))) λg=>(cnd (g) (f (-1)) (bnd (Ia n a.At (Aaa.mk ((Option.getD (cR b d) (Aaa.mk 0 0)).X) ((Option.getD (cR b d) (Aaa.mk 0 0)).Y)) (Aaa.mk ((Option.getD (cR b c) (Aaa.mk 0 0)).X) ((Option.getD (cR b c) (Aaa.mk 0 0)).Y))) λh=>(cnd (h) (f 1) (f 0)))))
def tO:=Dq yP
def Rt: Ic:=dU 127 6 4 0xacb2934d8990c434b1f41c3076d868ce0085d658055ae4dd154cec08b9ea21230e C41 [] [] @yP
def Dw: Nat->aX->Int->Option (List Int)
 | 0,_,_=>none
 | n+1,a,b=>(bnd (iY n a b) λc=>(cnd (c.2) (bnd (AX n (a,b,a.Arcs,(ln a.Arcs)) ([],[],0)) λd=>(bnd (prd n) λf=>(bnd (jK (decide (List.length d.1<=1000000))) λ_=>(bnd (qX (λ(g h:Int)=>(bnd (tO f (c.1,d.2,g,h)) λi=>(some i))) d.1) λj=>(some j))))) (some [])))
def GY: Kn:=cK 106 0x6f61486dd1ddbcc6397b77 C41 [⟨0,[Rs]⟩] [Rt] Dw
abbrev C42:=GY::C41
def tN: Nat->(List Int)->Int->Option Int
 | 0,_,_=>none
 | n+1,a,b=>(bnd (kN n a b) λc=>(cd (c<0) (some 0) (bnd (WW (wr ((wr (c+(ln a)))-1)) (ln a)) λd=>(bnd (idx a d) λf=>(some f)))))
def Rl: Kn:=cK 107 0x1dd135 C42 [] [] tN
abbrev C43:=Rl::C42
def oZ{R:Type}(n:Nat): ((List Int)×(List Int)×Int)->(((List Int)×(List (Int×Int))×Int)->Option R)->((((List Int)×(List (Int×Int)))->Option R)×Unit)->((List Int)×(List (Int×Int))×Int)->Option R:=λ(a,b,c) d (f,_) (g,h,i)=>(cd (i<c) (bnd (idx b i) λj=>(bnd (app g [j]) λl=>(bnd (tN n a j) λm=>(d (l,(oQ h (wr (0-j)) m),(wr (i+1))))))) (f (g,h)))
def AQ:=Ym oZ
def Ro: Lc 86 0 1:=dE 0x6d67581c8297359b9205ba704d72468dc42e42fe7c92e120061efd7050e8b7dc1065c08639040ebccccfced47ae4a8f0c312149a0 C43 [] [] @oZ
def pA{R:Type}(n:Nat): (aX×(List cW)×Int)->(((List Int)×(List (Int×Int))×Int)->Option R)->((((List Int)×(List (Int×Int)))->Option R)×Unit)->((List Int)×(List (Int×Int))×Int)->Option R:=λ(a,b,c) d (f,_) (g,h,i)=>(cd (i<c) (bnd (idx b i) λj=>(bnd (Dw n a j.ID) λl=>(bnd (AQ n (l,l,(ln l)) (g,h,0)) λm=>(d (m.1,m.2,(wr (i+1))))))) (f (g,h)))
def AR:=Ym pA
def Rp: Lc 86 0 0:=dE 0xa6b4c9e9715f808104c412571eb5223b3f3382ab0d8fbddf33ade195945e34b387cb6f3551aa88c64fa38 C43 [⟨0,[cs Ro]⟩] [] @pA
def oX{R:Type}(n:Nat): ((List (Int×Int)))->(((List (Int×Bool))×(List Int)×Int)->Option R)->((((List (Int×Bool))×(List Int))->Option R)×Unit)->((List (Int×Bool))×(List Int)×Int)->Option R:=λa b (c,_) (d,f,g)=>(cnd ((Option.getD (cR d g) false)) (c (d,f)) (bnd (app f [g]) λh=>(b ((oQ d g true),h,(Option.getD (cR a g) 0)))))
def AP:=Ym oX
def Rm: Lc 109 0 0:=dE 0x15253476b4eba957316b1fb11e44daca3f91693e027b596bc9717f2285e6851d6c0a22e3f3c22e817e975b571eae5da23186 C43 [] [] @oX
def yN{R:Type}(n:Nat): ((List (Int×Int))×(List (Int×Bool))×Int)->((((List (Int×Bool))×(List Int))->Option R)×Unit)->Unit->Option R:=λ(a,b,c) (d,_) _=>(bnd (AP n a (b,[],c)) λf=>(d (f.1,f.2)))
def AU:=Dq yN
def Rq: Ic:=dU 109 0 3 0x10f5c5763030349d279885a1dd30cbad7589d8a72b68d20779512cf4fce7d3809de5842cb3a2bc C43 [⟨0,[Rm]⟩] [] @yN
def oY{R:Type}(n:Nat): ((List (Int×Int))×(List Int)×Int)->(((List (List Int))×(List (Int×Bool))×Int)->Option R)->((((List (List Int))×(List (Int×Bool)))->Option R)×Unit)->((List (List Int))×(List (Int×Bool))×Int)->Option R:=λ(a,b,c) d (f,_) (g,h,i)=>(cd (i<c) (bnd (idx b i) λj=>(cnd ((Option.getD (cR h j) false)) (d (g,h,(wr (i+1)))) (bnd (AU n (a,h,j)) λl=>(bnd (app g [l.2]) λm=>(d (m,l.1,(wr (i+1)))))))) (f (g,h)))
def Du:=Ym oY
def Rn: Lc 86 0 2:=dE 0x2657e3145a9f024b0fbcb0cf103c07e543fe53a2b4a2c8c11a4233108ca927de5a90844034afb8af986e90bc3903f71f3e9c91904e7b897a4278675f8f C43 [] [Rq] @oY
def Dv: Nat->aX->Option ((List (List Int))×Int)
 | 0,_=>none
 | n+1,a=>(bnd (Ma n a) λb=>(cnd (b != 0) (some ([],b)) (bnd (AR n (a,a.Nodes,(ln a.Nodes)) ([],[],0)) λc=>(bnd (prd n) λ_=>(bnd (jK (decide (List.length c.1<=1000000))) λ_=>(bnd (Du n (c.2,(yT c.1),(ln (yT c.1))) ([],[],0)) λd=>(some (d.1,0))))))))
def GX: Kn:=cK 86 0x18a7a607482171512d3980bc2857b6c C43 [⟨0,[Rp]⟩,⟨2,[Rn]⟩] [] Dv
abbrev C44:=GX::C43
def kU{R:Type}(n:Nat): (aX×(List eP)×Int)->(((List (Int×(List Aaa)))×Int)->Option R)->((((List (Int×(List Aaa))))->Option R)×Unit)->((List (Int×(List Aaa)))×Int)->Option R:=λ(a,b,c) d (f,_) (g,h)=>(cd (h<c) (bnd (idx b h) λi=>(bnd (tF n a i.ID) λj=>(cnd (j.2==0) (d ((oQ g i.ID j.1),(wr (h+1)))) (d (g,(wr (h+1))))))) (f g))
def Nz:=Ym kU
def Io: Lc 87 0 0:=dE 0x5c2cf5c7d6f7faf5fe2a8ecdb02d42fffcb45a983206cc94cd644477b03139a70c08c1105ea46793ef9 C44 [] [] @kU
def uA: Nat->aX->Option (List (Int×(List Aaa)))
 | 0,_=>none
 | n+1,a=>(bnd (Nz n (a,a.Arcs,(ln a.Arcs)) ([],0)) λb=>(some b))
def Sf: Kn:=cK 87 0x1abcbf67f826cfaa7 C44 [⟨0,[Io]⟩] [] uA
abbrev C45:=Sf::C44
def An: Nat->aX->Int->Option (eP×Bool)
 | 0,_,_=>none
 | n+1,a,b=>(cnd (b==0) (some ((eP.mk 0 0 0 [] 0 0),false)) (cnd (b==(-9223372036854775808)) (some ((eP.mk 0 0 0 [] 0 0),false)) (bnd (Ex n a (Fk b (wr (0-b)))) λc=>(cnd (c.2) (some (c.1,true)) (some (c.1,false))))))
def LM: Kn:=cK 131 0x21899b15e C45 [] [] An
abbrev C46:=LM::C45
def qP{R:Type}(n:Nat): ((List Aaa)×Int)->((Int×Int)->Option R)->((Int->Option R)×Unit)->(Int×Int)->Option R:=λ(a,b) c (d,_) (f,g)=>(cd (g<b) (bnd (idx a g) λh=>(bnd (idx a (wr (g+1))) λi=>(bnd (idx a (wr (g+1))) λj=>(bnd (idx a g) λl=>(c ((wr (f+(wr ((wr (h.X*i.Y))-(wr (j.X*l.Y)))))),(wr (g+1)))))))) (d f))
def GV:=Ym qP
def Xx: Lc 111 0 1:=dE 0x21f8e41a9c76163156091915829386cfb8155b63782477664bcb2edd6a C46 [] [] @qP
def qQ{R:Type}(n:Nat): (aX×(List Int)×Int)->((Int×Int)->Option R)->((eP->Option R)×(Int->Option R)×Unit)->(Int×Int)->Option R:=λ(a,b,c) d (f,g,_) (h,i)=>(cd (i<c) (bnd (idx b i) λj=>(bnd (An n a j) λl=>(cnd (l.2) (bnd (tF n a (Fk j (wr (0-j)))) λm=>(cnd (m.2 != 0) (f l.1) (bnd (GV n (m.1,(wr ((ln m.1)-1))) (0,0)) λo=>(cd (j<0) (d ((wr (h+(wr (0-o)))),(wr (i+1)))) (d ((wr (h+o)),(wr (i+1)))))))) (f l.1)))) (g h))
def GW:=yJ qQ
def Xy: Lc 111 0 0:=dE 0x1a68cd4e254a6a9b11089bb3342738d63ced095b32bc5ba2743f1 C46 [⟨0,[cs Xx]⟩] [] @qQ
def oW: Nat->aX->(List Int)->Option Int
 | 0,_,_=>none
 | n+1,a,b=>(cd ((ln b) > 512) (some 0) (bnd2 (GW n (a,b,(ln b)) (0,0)) (λ_=>(some 0)) λc=>(bnd (some c) λd=>(some d))))
def Ao: Kn:=cK 111 0xf997cc3e1a6 C46 [⟨0,[Xy]⟩] [] oW
abbrev C47:=Ao::C46
def jU{R:Type}(n:Nat): (Aaa×Aaa×Aaa)->((Bool->Option R)×Unit)->Unit->Option R:=λ(a,b,c) (d,_) _=>(cd (b.Y<=a.Y) (cd (a.Y<c.Y) (bnd (jA n b c a) λf=>(cd (f > 0) (d true) (d false))) (d false)) (d false))
def lV:=nE jU
def tV: Lc 149 0 0:=dD 0x21fd5e000fc4edbfca22fd1dd7dfe46b10fe76aa7f1ba9c18a9e329ab3 C47 [] [] @jU
def jT{R:Type}(n:Nat): (Aaa×Aaa×Aaa)->((Bool->Option R)×Unit)->Unit->Option R:=λ(a,b,c) (d,_) _=>(cd (c.Y<=a.Y) (cd (a.Y<b.Y) (bnd (jA n b c a) λf=>(cd (f<0) (d true) (d false))) (d false)) (d false))
def lU:=nE jT
def tU: Lc 149 0 1:=dD 0x1f56bacde0ac8da713a803c14dd92bcec85dd41c19c1ab3 C47 [] [] @jT
def jV{R:Type}(n:Nat): (Aaa×Bool×Bool×Aaa×Aaa)->(((Bool×Bool)->Option R)×Unit)->Unit->Option R:=λ(a,b,c,d,f) (g,_) _=>(bnd (qC n d f a) λh=>(cnd (h) (g (true,c)) (bnd (lV n (a,d,f)) λi=>(cnd (i) (g (b,(!c))) (bnd (lU n (a,d,f)) λj=>(cnd (j) (g (b,(!c))) (g (b,c))))))))
def lW:=Dq jV
def tY: Ic:=dU 149 0 5 0x1381066d178bd4ff79f56cde0521d05f87972f61d5c135bd1983a C47 [⟨0,[tV]⟩,⟨1,[tU]⟩] [] @jV
def eB{R:Type}(n:Nat): (Aaa×(List Aaa))->((Bool×Bool×Int)->Option R)->(((Bool×Bool)->Option R)×Unit)->(Bool×Bool×Int)->Option R:=λ(a,b) c (d,_) (f,g,h)=>(cd (h<(ln b)) (bnd (idx b (wr (h-1))) λi=>(bnd (idx b h) λj=>(bnd (lW n (a,f,g,i,j)) λl=>(cnd (l.1) (cnd (l.2) (c (true,true,(wr (h+1)))) (c (true,false,(wr (h+1))))) (cnd (l.2) (c (false,true,(wr (h+1)))) (c (false,false,(wr (h+1))))))))) (d (f,g)))
def xX:=Ym eB
def tW: Lc 150 0 1:=dE 0x2de714a5b6202ef6e9377afdb385e10713941e4e2531abe82e99b202f8b5121d C47 [] [tY] @eB
def fM{R:Type}(n:Nat): (Aaa×(List (Int×(List Aaa)))×(List Int)×Int)->((Bool×Bool×Int)->Option R)->(((Bool×Bool)->Option R)×Unit)->(Bool×Bool×Int)->Option R:=λ(a,b,c,d) f (g,_) (h,i,j)=>(cd (j<d) (bnd (idx c j) λl=>(bnd (xX n (a,(Option.getD (cR b (Fk l (wr (0-l)))) [])) (h,i,1)) λm=>(f (m.1,m.2,(wr (j+1)))))) (g (h,i)))
def xY:=Ym fM
def tX: Lc 150 0 0:=dE 0x24dd452ce3429aafd32b5976b156cab9d8bc7c79a8f2690ba04a6 C47 [⟨0,[cs tW]⟩] [] @fM
def jW{R:Type}(n:Nat): (Aaa×(List (Int×(List Aaa)))×(List Int))->(((Bool×Bool)->Option R)×Unit)->Unit->Option R:=λ(a,b,c) (d,_) _=>(bnd (xY n (a,b,c,(ln c)) (false,false,0)) λf=>(d (f.1,f.2)))
def xZ:=Dq jW
def tZ: Ic:=dU 150 0 3 0x92db1f59c0a02b5a07c5587a668f3629d0e904506e27 C47 [⟨0,[tX]⟩] [] @jW
def eN: Nat->(List (Int×(List Aaa)))->(List Int)->Aaa->Option Bool
 | 0,_,_,_=>none
 | n+1,a,b,c=>(bnd (xZ n (c,a,b)) λd=>(cnd (d.1) (cnd (d.2) (some false) (some false)) (cnd (d.2) (some true) (some false))))
def yV: Kn:=cK 132 0x1e0c60800b0bead3a C47 [] [tZ] eN
abbrev C48:=yV::C47
def nQ{R:Type}(n:Nat): (Aaa×(List (Int×(List Aaa)))×(List Ch)×Int×Int)->((Bool->Option R)×Unit)->Unit->Option R:=λ(a,b,c,d,f) (g,_) _=>(cnd (d==0) (bnd (idx c f) λh=>(bnd (eN n b h.outer a) λi=>(cnd (i) (g true) (g false)))) (bnd (idx c f) λj=>(bnd (idx c d) λl=>(cd (j.twice<l.twice) (bnd (idx c f) λm=>(bnd (eN n b m.outer a) λo=>(cnd (o) (g true) (g false)))) (g false)))))
def qH:=nE nQ
def Be: Lc 112 0 1:=dD 0x2aaf1038b900edb00c4b85d597b5739f9af3c280a202f06a984d4c8df6560 C48 [] [] @nQ
def iJ{R:Type}(n:Nat): (Aaa×(List (Int×(List Aaa)))×(List Ch))->((Int×Int)->Option R)->((Int->Option R)×Unit)->(Int×Int)->Option R:=λ(a,b,c) d (f,_) (g,h)=>(cd (h<(ln c)) (bnd (qH n (a,b,c,g,h)) λi=>(cnd (i) (d (h,(wr (h+1)))) (d (g,(wr (h+1)))))) (f g))
def Ei:=Ym iJ
def Bf: Lc 112 0 0:=dE 0x11588f1672e7985afdc2af4d5c3c271e20e8447eacf60 C48 [⟨0,[cs Be]⟩] [] @iJ
def eA: Nat->(List (Int×(List Aaa)))->(List Ch)->Aaa->Option Int
 | 0,_,_,_=>none
 | n+1,a,b,c=>(bnd (Ei n (c,a,b) (0,1)) λd=>(some d))
def kT: Kn:=cK 112 0x107f429e65c10d8867d2 C48 [⟨0,[Bf]⟩] [] eA
abbrev C49:=kT::C48
def zD{R:Type}(n:Nat): (eP×Int×Int)->((Int->Option R)×Unit)->Unit->Option R:=λ(a,b,c) (d,_) _=>(cnd (a.From==b) (d (wr (c+1))) (d c))
def CO:=nE zD
def Tk: Lc 113 0 1:=dD 0x34fa123795d7eaf6a70bee1a4d029e589014169b2845b3ada6 C49 [] [] @zD
def pN{R:Type}(n:Nat): (Int×(List eP)×Int)->((Int×Int)->Option R)->((Int->Option R)×Unit)->(Int×Int)->Option R:=λ(a,b,c) d (f,_) (g,h)=>(cd (h<c) (bnd (idx b h) λi=>(bnd (CO n (i,a,g)) λj=>(cnd (i.To==a) (d ((wr (j+1)),(wr (h+1)))) (d (j,(wr (h+1))))))) (f g))
def CP:=Ym pN
def Tl: Lc 113 0 0:=dE 0xffeefe4a2f98b91da4cd3caadb2220b96 C49 [⟨0,[cs Tk]⟩] [] @pN
def mU: Nat->aX->Int->Option Int
 | 0,_,_=>none
 | n+1,a,b=>(bnd (CP n (b,a.Arcs,(ln a.Arcs)) (0,0)) λc=>(some c))
def yC: Kn:=cK 113 0x1dd0b2 C49 [⟨0,[Tl]⟩] [] mU
abbrev C50:=yC::C49
end
end Go.Proofs.YtideamafblopcaaGreatDoor.Av
