/- A part of the proof of a law. -/
import Derived.Test.YtmlgedgcbfchjaaGreatDoorP8
import Derived.Test.YtmlgedgcbfchjaaGreatDoorP7
set_option maxRecDepth 100000
set_option maxHeartbeats 4000000
set_option linter.all false
namespace Go.Proofs.YtmlgedgcbfchjaaGreatDoor.Av
open Go
section
open jQ (den cds ag)
noncomputable section
def bl(x n:Nat): List Bool:=(List.range n).map λi=>x.testBit i
abbrev z0: Value:=.int .i64 0
def aRg: bT:=(.seq (.region false [] [o1 24 (.ibin .lss (tp 23) (tp 22))]) (.seq (.cond (tp 24) .skip (.exit 0)) (.seq (.block 1 (.seq (.region false [] [o1 25 (.idxAddr 1 (tp 21) (tp 23)),o1 26 (.load false 1 (tp 25)),om 10 26]) (.seq (.region false [] [o1 27 (.load true 3 (tp 3)),om 28 10,o1 29 (.callB 137 [(tp 27),(tp 28)]),om 11 29]) (.seq (.region false [] [om 30 11,o1 31 (.ibin .gtr (tp 30) (.lit z0))]) (.cond (tp 31) (.region false [] [om 32 7,om 33 11,om 34 10,o1 35 (.build [z0,bO,bO,bO] [(0,1,(tp 33)),(1,1,(tp 34))]),o1 36 (.buildSl false 4 1 [z0,bO,bO,bO] [(0,(tp 35))]),o1 37 (.append 4 80 (tp 32) (tp 36)),om 7 37]) (.region false [] [om 38 8,om 39 10,o1 40 (.buildSl true 1 1 [bO] [(0,(tp 39))]),o1 41 (.append 1 24 (tp 38) (tp 40)),om 8 41])))))) (.region false [] [o1 42 (.ibin .add (tp 23) (.lit (.int .i64 1))),om 23 42]))))
def aRf: bT:=(.seq (.region false [] [o1 46 (.ibin .lss (tp 45) (tp 44))]) (.seq (.cond (tp 46) .skip (.exit 2)) (.seq (.block 3 (.seq (.region false [] [o1 47 (.idxAddr 1 (tp 43) (tp 45)),o1 48 (.load false 1 (tp 47)),om 13 48]) (.seq (.region true [] [om 49 2,om 50 13,o1 51 (.idxAddr 1 (tp 50) (.lit z0)),o1 52 (.load false 1 (tp 51)),om 53 13,o1 54 (.idxAddr 1 (tp 53) (.lit z0)),o1 55 (.load false 1 (tp 54)),o1 56 (.un .neg (tp 55)),o1 57 (.minmax true [(tp 52),(tp 56)]),o1 58 (.lookup 3 (.lit bO) (tp 49) (tp 57) false),om 14 58]) (.seq (.region false [] [om 59 2,om 60 7,om 61 14,o1 62 (.idxAddr 2 (tp 61) (.lit z0)),o1 63 (.load true 2 (tp 62)),o1 64 (.callB 138 [(tp 59),(tp 60),(tp 63)]),om 15 64]) (.region false [] [om 65 7,om 66 15,om 67 7,om 68 15,o1 69 (.idxAddr 4 (tp 67) (tp 68)),o1 70 (.fieldAddr 2 (tp 69)),o1 71 (.load false 1 (tp 70)),om 72 13,o1 73 (.buildSl true 1 1 [bO] [(0,(tp 72))]),o1 74 (.append 1 24 (tp 71) (tp 73)),o1 75 (.idxAddr 4 (tp 65) (tp 66)),o1 76 (.fieldAddr 2 (tp 75)),⟨none,.store 1 (tp 76) (tp 74),none⟩]))))) (.region false [] [o1 77 (.ibin .add (tp 45) (.lit (.int .i64 1))),om 45 77]))))
def aRe: bT:=(.seq (.region false [] [o1 82 (.ibin .lss (tp 81) (tp 80))]) (.seq (.cond (tp 82) .skip (.exit 4)) (.seq (.block 5 (.seq (.region false [] [o1 83 (.idxAddr 3 (tp 79) (tp 81)),o1 84 (.load true 3 (tp 83)),o1 17 (.alloc [z0,z0,z0]),⟨none,.store 3 (tp 17) (tp 84),none⟩]) (.seq (.region false [] [o1 85 (.load true 3 (tp 3)),o1 86 (.fieldAddr 0 (tp 17)),o1 87 (.load false 1 (tp 86)),o1 88 (.callB 90 [(tp 85),(tp 87)]),o1 89 (.ibin .eql (tp 88) (.lit z0))]) (.cond (tp 89) (.seq (.region false [] [om 90 2,om 91 7,o1 92 (.fieldAddr 1 (tp 17)),o1 93 (.load true 2 (tp 92)),o1 94 (.callB 138 [(tp 90),(tp 91),(tp 93)]),om 18 94]) (.region true [] [om 95 7,om 96 18,om 97 7,om 98 18,o1 99 (.idxAddr 4 (tp 97) (tp 98)),o1 100 (.fieldAddr 3 (tp 99)),o1 101 (.load false 1 (tp 100)),o1 102 (.fieldAddr 0 (tp 17)),o1 103 (.load false 1 (tp 102)),o1 104 (.buildSl true 1 1 [z0] [(0,(tp 103))]),o1 105 (.append 1 8 (tp 101) (tp 104)),o1 106 (.idxAddr 4 (tp 95) (tp 96)),o1 107 (.fieldAddr 3 (tp 106)),⟨none,.store 1 (tp 107) (tp 105),none⟩])) .skip)))) (.region false [] [o1 108 (.ibin .add (tp 81) (.lit (.int .i64 1))),om 81 108]))))
theorem aOi: (Q9 T 114).body=(.seq (.region false [] [o1 3 (.box (tp 0)),o1 6 (.movN (.lit bO))]) (.seq (.region false [] [o1 19 (.build [z0,bO,bO,bO] []),o1 20 (.buildSl false 4 1 [z0,bO,bO,bO] [(0,(tp 19))]),om 7 20]) (.seq (.region false [] [o1 8 (.claim 1)]) (.seq (.seq (.region false [] [om 21 1,o1 22 (.lenS (tp 21)),o1 23 (.mov (.lit z0))]) (.block 0 (.mask (bl 0x18c 9) (bl 0x40 7) false (.loop (some (bl 0xe0018c 24)) false aRg)))) (.seq (.seq (.region false [] [om 43 8,o1 44 (.lenS (tp 43)),o1 45 (.mov (.lit z0))]) (.block 2 (.mask (bl 0x8c 8) (bl 0x40 7) false (.loop (some (bl 0x38000000008c 46)) false aRf)))) (.seq (.seq (.region false [] [o1 78 (.fieldAddr 0 (tp 3)),o1 79 (.load false 1 (tp 78)),o1 80 (.lenS (tp 79)),o1 81 (.mov (.lit z0))]) (.block 4 (.mask (bl 0x80 8) (bl 0x40 7) false (.loop (some (bl 0x38000000000000000008c 82)) false aRe)))) (.seq (.region false [] [om 109 7,om 6 109]) .ret))))))):=by kernel_rfl
def arV(a:dS): Lz:=⟨a.twice,a.outer,(),()⟩
def dv1(n:Nat)(p:aM): List (List Int)->List dS->List (List Int)->Option (List dS×List (List Int))
 | [],l,q=>some (l,q)
 | c::cs,l,q=>bnd (tJ n p c) λt=>cnd (decide (t > 0)) (dv1 n p cs (l++[⟨t,c,[],[]⟩]) q) (dv1 n p cs l (q++[c]))
def dv2(n:Nat)(m:List (Int×List Aaa)): List (List Int)->List dS->Option (List dS)
 | [],l=>some l
 | c::cs,l=>bnd (idx c 0) λd=>bnd (idx ((bQ m (uF d (wr (0-d)))).getD []) 0) λat_=>bnd (eF n m (l.map arV) at_) λi=>bnd (idx l i) λa=>
  dv2 n m cs (l.set i.toNat ⟨a.twice,a.outer,a.inner++[c],a.alone⟩)
def dv3(n:Nat)(p:aM)(m:List (Int×List Aaa)): List Aab->List dS->Option (List dS)
 | [],l=>some l
 | x::xs,l=>bnd (lE n p x.ID) λd=>cnd (d==0)
  (bnd (eF n m (l.map arV) x.At) λi=>bnd (idx l i) λa=>dv3 n p m xs (l.set i.toNat ⟨a.twice,a.outer,a.inner,a.alone++[x.ID]⟩))
  (dv3 n p m xs l)
def jR: Nat->aM->List (List Int)->List (Int×List Aaa)->Option (List dS)
 | 0,_,_,_=>none
 | n+1,p,cs,m=>bnd (Nq (decide (cs.length<n/\p.Nodes.length<n/\cs.length<=190000/\p.Nodes.length<=9000))) λ_=>bnd (dv1 n p cs [⟨0,[],[],[]⟩] []) λq=>bnd (dv2 n m q.2 q.1) λl=>dv3 n p m p.Nodes l
structure RA where
 a:dS
 o:AV
 x:AV
 y:AV
def RA.c(r:RA): List AV:=[iv r.a.twice,r.o,r.x,r.y]
def gX(kd:Nat)(H:aU)(x:AV)(l:List (den kd)): Prop:=(x=.lit bO/\l=[])\/∃k es,x=.ms k es.length 0 es.length/\3<=k/\H[k]?=some (.blk 1 es)/\Ql kd l es
def idC: AV->Option Nat
 | .ms k _ _ _=>some k
 | _=>none
def sel(r:RA)(u:Bool): AV:=match u with
 | true=>r.y
 | false=>r.x
structure DI(H:aU)(w:List RA): Prop where
 co:∀(i:Nat) (r:RA),w[i]?=some r->Qp (.sl 3 r.a.outer) r.o
 cx:∀(i:Nat) (r:RA),w[i]?=some r->gX 10 H r.x r.a.inner
 cy:∀(i:Nat) (r:RA),w[i]?=some r->gX 3 H r.y r.a.alone
 ne:∀(i j:Nat) (r s:RA) (u v:Bool) (k:Nat),w[i]?=some r->w[j]?=some s->idC (sel r u)=some k->idC (sel s v)=some k->i=j/\u=v
theorem gX.id{kd:Nat}{H:aU}{x:AV}{l:List (den kd)}{k:Nat}(h:gX kd H x l)(hk:idC x=some k): 3<=k/\∃o,H[k]?=some o:=by
 rcases h with⟨rfl,_⟩ | ⟨k',es,rfl,h3,hh,_⟩
 .cases hk
 .cases hk;exact⟨h3,_,hh⟩
theorem gX.mono{kd:Nat}{H H':aU}{x:AV}{l:List (den kd)}(h:gX kd H x l)(hk:∀k,idC x=some k->H'[k]?=H[k]?): gX kd H' x l:=by
 rcases h with⟨rfl,h⟩ | ⟨k',es,rfl,h3,hh,q⟩
 .exact .inl ⟨rfl,h⟩
 .exact .inr ⟨k',es,rfl,h3,by rw[hk k' rfl];exact hh,q⟩
theorem gX.shut{kd:Nat}{H H':aU}{x:AV}{l:List (den kd)}{d:Nat}(h:gX kd H x l)(hk:∀k,3<=k->H'[k]?=H[k]?): Qp (.sl kd l) (eE H' 0 (d+1) x):=by
 rcases h with⟨rfl,rfl⟩ | ⟨k',es,rfl,h3,hh,q⟩
 .exact Qp.mkS (es:=[]) (.inr ⟨false,rfl⟩) trivial
 .simp only[eE,ZG,Zz,rd,hk k' h3,hh,YD,XO]
  exact Qp.mkS (.inr ⟨_,rfl⟩) ((Ho H' 0 d).ls q)
theorem gX.grow{kd:Nat}{H:aU}{x:AV}{l:List (den kd)}{bytes:Nat}{e:den kd}{row:List AV}(h:gX kd H x l)(hr:Qr (kI kd e) row)(h1:row.length=1)(hb:bytes<=100000)(hl:l.length<=200000)(h3:3<=H.length):
 ∃k es H',cP 0 H 1 bytes x [row]=some (.ms k es.length 0 es.length,H')/\3<=k/\H'[k]?=some (.blk 1 es)/\Ql kd (l++[e]) es/\(∀j,j≠k->H'[j]?=H[j]?)/\(idC x=some k\/H[k]?=none)/\H.length<=H'.length:=by
 have a1:fA 1 [row]=true:=by simp[fA,h1]
 have rm:∀z,z<=300000->mT z bytes=true:=λz hz=>by
  have:z*bytes<=300000*100000:=Y8 hz hb
  unfold mT;simp;omega
 rcases h with⟨rfl,rfl⟩ | ⟨k',es,rfl,hk,hh,q⟩
 .refine⟨H.length,[row],H++[.blk 1 [row]],?_,h3,?_,⟨hr,trivial⟩,?_,.inr (Zy (Zf _)),by simp⟩
  .show (if fA 1 [row]=true/\0<1/\mT 1 bytes=true then _ else _)=_
   rw[Zu ⟨a1,by decide,rm 1 (by decide)⟩];rfl
  .rw[ZX (Zf _),XR];rfl
  .intro j hj
   rcases ZI j H.length with h | h
   .rw[Zo h]
   .rw[Zy h,Zy (by simp;omega)]
 .have hlt:k'<H.length:=(Ze.1 hh).1
  have hes:=q.len
  refine⟨k',es++[row],H.set k' (.blk 1 (es++[row])),?_,hk,?_,q.app ⟨hr,trivial⟩,?_,.inl rfl,by simp⟩
  .show (if fA 1 [row]=true/\0<1/\mT 1 bytes=true then _ else _)=_
   rw[Zu ⟨a1,by decide,rm 1 (by decide)⟩]
   simp only[hh]
   simp only[We,Yd,rm (es.length+1) (by omega),Zz,Nat.one_ne_zero,Z9,ZG,Zh]
  .rw[Z3 hlt]
  .intro j hj;rw[Zv (Ne.symm hj)]
theorem DI.upd{H H' H2:aU}{w:List RA}{i:Nat}{r r':RA}{k:Nat}{u:Bool}(hI:DI H w)(hi:w[i]?=some r)(hk:3<=k)(hne:∀j,j≠k->H'[j]?=H[j]?)(hold:idC (sel r u)=some k\/H[k]?=none)(h2:∀j,j≠1->H2[j]?=H'[j]?)(ho:r'.o=r.o/\r'.a.outer=r.a.outer)(hx:gX 10 H2 r'.x r'.a.inner\/(r'.x=r.x/\r'.a.inner=r.a.inner/\u=true))(hy:gX 3 H2 r'.y r'.a.alone\/(r'.y=r.y/\r'.a.alone=r.a.alone/\u=false))(hu:idC (sel r' u)=some k)(hv:sel r' (!u)=sel r (!u)): DI H2 (w.set i r'):=by
 have hlt:=(Ze.1 hi).1
 have g:∀(j:Nat) (s:RA),(w.set i r')[j]?=some s->(j=i/\s=r')\/(j≠i/\w[j]?=some s):=by
  intro j s h
  by_cases hj:j=i
  .subst hj;rw[Z3 hlt] at h;cases h;exact .inl ⟨rfl,rfl⟩
  .rw[Zv (Ne.symm hj)] at h;exact .inr ⟨hj,h⟩
 have old:∀(j:Nat) (s:RA) (v:Bool) (q:Nat),w[j]?=some s->idC (sel s v)=some q->3<=q/\∃o,H[q]?=some o:=by
  intro j s v q hj hq
  cases v with
  | false=>exact (hI.cx j s hj).id hq
  | true=>exact (hI.cy j s hj).id hq
 have sep:∀(j:Nat) (s:RA) (v:Bool),w[j]?=some s->idC (sel s v)=some k->j=i/\v=u:=by
  intro j s v hj hq
  rcases hold with h | h
  .exact hI.ne j i s r v u k hj hi hq h
  .obtain⟨_,o,ho⟩:=old j s v k hj hq
   rw[h] at ho;cases ho
 have keep:∀(j:Nat) (s:RA) (v:Bool) (q:Nat),w[j]?=some s->idC (sel s v)=some q->¬(j=i/\v=u)->H2[q]?=H[q]?:=by
  intro j s v q hj hq hn
  have:=(old j s v q hj hq).1
  rw[h2 q (by omega),hne q (λe=>hn (sep j s v hj (e▸hq)))]
 refine⟨?_,?_,?_,?_⟩
 .intro j s hs
  rcases g j s hs with⟨rfl,rfl⟩ | ⟨_,hs⟩
  .rw[ho.1,ho.2];exact hI.co _ r hi
  .exact hI.co j s hs
 .intro j s hs
  rcases g j s hs with⟨rfl,rfl⟩ | ⟨hj,hs⟩
  .rcases hx with h | ⟨h1,h3,h4⟩
   .exact h
   .rw[h1,h3]
    exact (hI.cx _ r hi).mono λq hq=>keep _ r false q hi hq (by rw[h4];simp)
  .exact (hI.cx j s hs).mono λq hq=>keep j s false q hs hq (λe=>hj e.1)
 .intro j s hs
  rcases g j s hs with⟨rfl,rfl⟩ | ⟨hj,hs⟩
  .rcases hy with h | ⟨h1,h3,h4⟩
   .exact h
   .rw[h1,h3]
    exact (hI.cy _ r hi).mono λq hq=>keep _ r true q hi hq (by rw[h4];simp)
  .exact (hI.cy j s hs).mono λq hq=>keep j s true q hs hq (λe=>hj e.1)
 .have new:∀v q,idC (sel r' v)=some q->(v=u/\q=k)\/(v=!u/\idC (sel r (!u))=some q):=by
   intro v q h
   by_cases hvu:v=u
   .subst hvu;rw[hu] at h;cases h;exact .inl ⟨rfl,rfl⟩
   .have:v=!u:=by cases v<;>cases u<;>simp_all
    subst this;rw[hv] at h;exact .inr ⟨rfl,h⟩
  intro j1 j2 s1 s2 v1 v2 q e1 e2 q1 q2
  rcases g j1 s1 e1 with⟨rfl,rfl⟩ | ⟨n1,f1⟩
  .rcases g j2 s2 e2 with⟨rfl,rfl⟩ | ⟨n2,f2⟩
   .rcases new v1 q q1 with⟨rfl,rfl⟩ | ⟨rfl,o1⟩
    .rcases new v2 q q2 with⟨rfl,_⟩ | ⟨rfl,o2⟩
     .exact⟨rfl,rfl⟩
     .have:=(sep _ r (!v1) hi o2).2;cases v1<;>cases this
    .rcases new v2 q q2 with⟨rfl,rfl⟩ | ⟨rfl,o2⟩
     .have:=(sep _ r (!v2) hi o1).2;cases v2<;>cases this
     .exact⟨rfl,rfl⟩
   .rcases new v1 q q1 with⟨rfl,rfl⟩ | ⟨rfl,o1⟩
    .exact absurd (sep _ s2 v2 f2 q2).1 n2
    .exact absurd (hI.ne _ _ r s2 (!u) v2 q hi f2 o1 q2).1 (Ne.symm n2)
  .rcases g j2 s2 e2 with⟨rfl,rfl⟩ | ⟨n2,f2⟩
   .rcases new v2 q q2 with⟨rfl,rfl⟩ | ⟨rfl,o2⟩
    .exact absurd (sep _ s1 v1 f1 q1).1 n1
    .exact absurd (hI.ne _ _ s1 r v1 (!u) q f1 hi q1 o2).1 n1
   .exact hI.ne j1 j2 s1 s2 v1 v2 q f1 f2 q1 q2
theorem DI.view{H:aU}{w:List RA}(hI:DI H w)(h1:H[1]?=some (.blk 4 (w.map RA.c))): Qp (.vw 22 ((w.map RA.a).map arV)) (dG H (.ms 1 w.length 0 w.length)):=by
 simp only[dG,rd,h1,ZO,Zz,YD]
 rw[ZW (by simp)]
 refine Qp.mkV (.inr (.inr rfl)) ?_
 rw[Ya,Ya]
 have h:∀(v:List RA),(∀r∈v,Qp (.sl 3 r.a.outer) r.o)->Ql 22 (v.map (arV∘RA.a)) (v.map ((λe=>e.map Gt)∘RA.c)):=by
  intro v
  induction v with
  | nil=>exact λ_=>trivial
  | cons r v ih=>
   intro hv
   refine⟨⟨.lit _,vK.c (c:=.sl 3) (x:=r.a.outer) (hv r ZM),.undef _,.undef _,trivial⟩,ih λr hr=>hv r (ZQ _ hr)⟩
 exact h w λr hr=>by
  obtain⟨i,hi⟩:=Yi.1 hr
  exact hI.co i r hi
theorem DI.rows{H H':aU}{w:List RA}{d:Nat}(hI:DI H w)(hk:∀k,3<=k->H'[k]?=H[k]?): Ql 24 (w.map RA.a) ((w.map RA.c).map λe=>e.map (eE H' 0 (d+1))):=by
 rw[Ya]
 have h:∀(v:List RA),(∀r∈v,Qp (.sl 3 r.a.outer) r.o/\gX 10 H r.x r.a.inner/\gX 3 H r.y r.a.alone)->Ql 24 (v.map RA.a) (v.map ((λe=>e.map (eE H' 0 (d+1)))∘RA.c)):=by
  intro v
  induction v with
  | nil=>exact λ_=>trivial
  | cons r v ih=>
   intro hv
   obtain⟨a1,a2,a3⟩:=hv r ZM
   exact⟨⟨.lit _,(Ho H' 0 (d+1)).c (c:=.sl 3) (x:=r.a.outer) a1,a2.shut hk,a3.shut hk,trivial⟩,ih λr hr=>hv r (ZQ _ hr)⟩
 exact h w λr hr=>by
  obtain⟨i,hi⟩:=Yi.1 hr
  exact⟨hI.co i r hi,hI.cx i r hi,hI.cy i r hi⟩
section
variable (p:aM)(m:List (Int×List Aaa))(xn xa xf xm:AV)
structure DA(w:List RA)(H:aU): Prop where
 h0:H[0]?=some (.blk 3 [[xn,xa,xf]])
 h1:H[1]?=some (.blk 4 (w.map RA.c))
 h3:3<=H.length
 i:DI H w
variable {p m xn xa xf xm}{w:List RA}{tm:List AV}{H:aU}
variable (qn:Qp (.vw 0 p.Nodes) xn)(qa:Qp (.vw 2 p.Arcs) xa)(qf:Qp (.vw 3 p.Faces) xf)(qm:Qp (.rmp 3 11 m) xm)
theorem aHW: FOK PP T 137 ⟨[.w 4,.w 10],[3],false,λn p=>tJ n p.1 p.2⟩:=by
 have e:Jw.c=⟨[.w 4,.w 10],[3],false,λn p=>tJ n p.1 p.2⟩:=by kernel_rfl
 have h:=Jw.ok
 rw[e] at h
 exact h
theorem aFS: FOK PP T 90 ⟨[.w 4,.w 3],[3],false,λn p=>lE n p.1 p.2⟩:=by
 have e:Ga.c=⟨[.w 4,.w 3],[3],false,λn p=>lE n p.1 p.2⟩:=by kernel_rfl
 have h:=Ga.ok
 rw[e] at h
 exact h
theorem aLp: FOK PP T 138 ⟨[.w 21,.w 23,.w 1],[3],false,λn p=>eF n p.1 p.2.1 p.2.2⟩:=by
 have e:nI.c=⟨[.w 21,.w 23,.w 1],[3],false,λn p=>eF n p.1 p.2.1 p.2.2⟩:=by kernel_rfl
 have h:=nI.ok
 rw[e] at h
 exact h
theorem R4{k:Nat}{l:List (den k)}{a:AV}(h:Qp (.vw k l) a): Qp (.vw k l) (dG H a):=by
 obtain⟨es,h1,h2⟩:=h.inV
 rcases h1 with⟨rfl,rfl⟩ | ⟨f,rfl⟩ | rfl
 .exact Qp.mkV (es:=[]) (.inr (.inr rfl)) h2
 .exact Qp.mkV (.inr (.inr rfl)) h2
 .exact Qp.mkV (.inr (.inr rfl)) h2
theorem aSs{kk vk:Nat}{m:List (den kk×den vk)}{a:AV}(h:Qp (.rmp kk vk m) a): Qp (.rmp kk vk m) (dG H a):=by
 obtain⟨rows,h1,h2⟩:=h.inM
 rcases h1 with⟨rfl,rfl⟩ | rfl
 .exact Qp.mkM (.inl ⟨rfl,rfl⟩) h2
 .exact Qp.mkM (.inr rfl) h2
theorem aLi{α:Type}{l:List α}{i:Nat}{x:α}(h:l[i]?=some x): idx l (i:Int)=some x:=by rw[bL];exact h
theorem UP{α:Type}{l r:List α}{i:Nat}{x:α}(h:l.drop i=x::r): l[i]?=some x/\l.drop (i+1)=r/\i<l.length:=by
 have h1:(l.drop i)[0]?=some x:=by rw[h];rfl
 rw[Zw,Xm] at h1
 refine⟨h1,?_,(Ze.1 h1).1⟩
 have:l.drop (i+1)=(l.drop i).drop 1:=by rw[XD]
 rw[this,h];rfl
theorem aJt{i:Nat}(h:i<1000000): wr ((i:Int)+1)=((i+1:Nat):Int):=by
 show IntKind.i64.wrap _=_
 rw[Xe];push_cast;omega
theorem aMM{k:Nat}{l:List (den k)}{a:AV}(q:Qp (.vw k l) a): cG H a=dG H a:=by
 obtain⟨es,h1,_⟩:=q.inV
 rcases h1 with⟨rfl,_⟩ | ⟨f,rfl⟩ | rfl<;>rfl
theorem aQR(H:aU)(o:dK): (H++[o])[H.length]?=some o:=by rw[ZX (Zf _),XR];rfl
theorem hold{H:aU}{o b:dK}{k:Nat}(h:H[k]?=some b): (H++[o])[k]?=some b:=by rw[Zo (Ze.1 h).1];exact h
include qn qa qf in
theorem aOg{n:Nat}{x y:bA}{c:List Int}{a:AV}{t:Int}(e:tJ n p c=some t)(hx:aH tm x=.agg [xn,xa,xf])(hy:aH tm y=a)(q:Qp (.vw 3 c) a): aO PP (fH PP T n) 0 (.callB 137 [x,y]) tm H=some (iv t,H):=by
 obtain⟨A,r,h1,h2⟩:=O0 (a:=.undef) aHW (n:=n) (p:=(p,c)) (r:=t) e (λr=>⟨r,rfl⟩) (aw:=[cG H (.agg [xn,xa,xf]),dG H a])
  ⟨Qh.mkA ⟨.p _ _ (R4 qn),.p _ _ (R4 qa),.p _ _ (R4 qf),trivial⟩,.p _ _ (R4 q),trivial⟩
 simp only[aO,ZE,Yn,hx,hy,aMM q,h1]
 rw[h2];rfl
theorem aTE{n:Nat}{x y:bA}{a:AV}{l:List Int}{t:Int}(q:Qp (.sl 3 l) a)(hx:aH tm x=iv t)(hy:aH tm y=a): aO PP (fH PP T n) 0 (.build [z0,bO,bO,bO] [(0,1,x),(1,1,y)]) tm H=some (.agg [iv t,a,.lit bO,.lit bO],H):=by
 obtain⟨es,h1,_⟩:=q.inS
 simp only[aO,ZE,Yn,hx,hy]
 rcases h1 with⟨rfl,_⟩ | ⟨f,rfl⟩<;>rfl
theorem aPp{n:Nat}{y:bA}{a:AV}{k:Nat}{l:List (den k)}{z:Value}(q:Qp (.sl k l) a)(hy:aH tm y=a): aO PP (fH PP T n) 0 (.buildSl true 1 1 [z] [(0,y)]) tm H=some (.sl true [[Gt a]],H):=by
 obtain⟨es,h1,_⟩:=q.inS
 simp only[aO,ZE,Yn,hy]
 rcases h1 with⟨rfl,_⟩ | ⟨f,rfl⟩<;>rfl
theorem DA.grow{o y:bA}{a:AV}{l:List Int}{t:Int}(d:DA xn xa xf w H)(hn:∀r∈w,r.x=.lit bO/\r.y=.lit bO)(q:Qp (.sl 3 l) a){b:dK}: DA xn xa xf (w++[⟨⟨t,l,[],[]⟩,a,.lit bO,.lit bO⟩]) ((H++[b]).set 1 (.blk 4 (w.map RA.c++[[iv t,a,.lit bO,.lit bO]]))):=by
 have hw:∀r∈w++[(⟨⟨t,l,[],[]⟩,a,.lit bO,.lit bO⟩:RA)],r.x=.lit bO/\r.y=.lit bO:=by
  intro r hr
  rcases ZD.1 hr with hr | hr
  .exact hn r hr
  .rw[ZJ.1 hr];exact⟨rfl,rfl⟩
 have g:∀(i:Nat) (r:RA),(w++[(⟨⟨t,l,[],[]⟩,a,.lit bO,.lit bO⟩:RA)])[i]?=some r->w[i]?=some r\/r=⟨⟨t,l,[],[]⟩,a,.lit bO,.lit bO⟩:=by
  intro i r hr
  rcases ZI i w.length with h | h
  .rw[Zo h] at hr;exact .inl hr
  .rw[ZX h] at hr
   exact .inr (ZJ.1 (Zg hr))
 refine⟨?_,?_,by simp;have:=d.h3;omega,⟨?_,?_,?_,?_⟩⟩
 .rw[Zv (by decide)];exact hold d.h0
 .rw[Z3 (by simp;have:=d.h3;omega),YJ];rfl
 .intro i r hr
  rcases g i r hr with h | rfl
  .exact d.i.co i r h
  .exact q
 .intro i r hr
  rcases g i r hr with h | rfl
  .rcases d.i.cx i r h with h1 | ⟨k,es,h1,_⟩
   .exact .inl h1
   .rw[(hn r (Zg h)).1] at h1;cases h1
  .exact .inl ⟨rfl,rfl⟩
 .intro i r hr
  rcases g i r hr with h | rfl
  .rcases d.i.cy i r h with h1 | ⟨k,es,h1,_⟩
   .exact .inl h1
   .rw[(hn r (Zg h)).2] at h1;cases h1
  .exact .inl ⟨rfl,rfl⟩
 .intro i j r s u v k hr hs hk _
  have:=hw r (Zg hr)
  cases u with
  | true=>simp only[sel,this.2,idC] at hk;cases hk
  | false=>simp only[sel,this.1,idC] at hk;cases hk
abbrev dB(xm:AV)(w:List RA): List (Nat×AV):=[(2,xm),(3,.ptr 0 1 0 0),(7,.ms 1 w.length 0 w.length)]
include qn qa qf in
theorem aL8{n N:Nat}(cs:List (List Int)){xc:AV}(qc:Qp (.vw 10 cs) xc)(hb:cs.length<=190000): ∀(todo:List (List Int)) (k i:Nat) (tm:List AV) (H:aU) (w:List RA) (q:List (List Int)) (qr:List (List AV)) (r:List dS×List (List Int)),cs.drop i=todo->todo.length<k->w.length+todo.length<=200000->qr.length+todo.length<=200000->
 DA xn xa xf w H->(∀r∈w,r.x=.lit bO/\r.y=.lit bO)->H[2]?=some (.blk 1 qr)->Ql 10 q qr->At 110 ((8,.ms 2 qr.length 0 qr.length)::(21,xc)::(22,iv (cs.length:Nat))::(23,iv i)::dB xm w) tm->dv1 n p todo (w.map RA.a) q=some r->
 WL PP (fH PP T n) n 0 N (bl 0xe0018c 24) false aRg k ⟨tm,H⟩ λx s=>x=.exit 0/\∃w' qr',w'.map RA.a=r.1/\DA xn xa xf w' s.heap/\(∀r∈w',r.x=.lit bO/\r.y=.lit bO)/\s.heap[2]?=some (.blk 1 qr')/\Ql 10 r.2 qr'/\At 110 ((8,.ms 2 qr'.length 0 qr'.length)::dB xm w') s.tmps/\w'.length<=200000/\qr'.length<=200000
 | todo,0,i,tm,H,w,q,qr,r,_,h,_,_,_,_,_,_,_,_=>by omega
 | todo,k+1,i,tm,H,w,q,qr,r,hd,hk,hw,hq,d,hn,h2,ql,ha,h=>by
  apply WL.step
  show WC PP (fH PP T n) n 0 aRg ⟨cV (bl 0xe0018c 24) tm,H⟩ _
  replace ha:At 110 ((8,.ms 2 qr.length 0 qr.length)::(21,xc)::(22,iv (cs.length:Nat))::(23,iv i)::dB xm w) (cV (bl 0xe0018c 24) tm):=
   .cons (ha.live _ rfl rfl) (.cons (ha.live _ rfl rfl) (.cons (ha.live _ rfl rfl) (.cons (ha.live _ rfl rfl) (.cons (ha.live _ rfl rfl) (.cons (ha.live _ rfl rfl) (.cons (ha.live _ rfl rfl) (ha.mask _)))))))
  generalize cV (bl 0xe0018c 24) tm=tm at ha |-
  refine WC.seq (WC.reg (AO.op ha (Nc (ha.get rfl) (ha.get rfl) rfl) λtm ha=>AO.nil ha (WC.seq ?_)))
  cases todo with
  | nil=>
   have hi:cs.length<=i:=by
    have:=congrArg List.length hd
    rw[ZV,Z1] at this;omega
   cases h
   refine WC.condF (ha.get rfl) (YI (by omega)) (WC.exit ?_)
   exact⟨rfl,w,qr,rfl,d,hn,h2,ql,.cons (ha.get rfl) (.cons (ha.get rfl) (.cons (ha.get rfl) (.cons (ha.get rfl) ⟨ha.ln,λ_ _ h=>by cases h⟩))),by omega,by omega⟩
  | cons c todo=>
   obtain⟨g1,g2,g3⟩:=UP hd
   simp only[Yc] at hk hw hq
   simp only[dv1] at h
   obtain⟨t,e2,h⟩:=bD h
   refine WC.condT (ha.get rfl) (Yj (by omega)) (WC.skip (WC.seq (WC.block (WC.seq ?_))))
   obtain⟨row,q1,e25⟩:=aHA (P:=PP) (cf:=fH PP T n) (fl:=0) (H:=H) (s:=1) qc (ha.get (k:=21) rfl) (ha.get (k:=23) rfl) (aLi g1) rfl
   obtain⟨x,rfl,qx⟩:∃x,row=[x]/\Qp (.sl 3 c) x:=by
    match row,q1 with
    | [x],h=>exact⟨x,rfl,h.1⟩
   have hl:=qx.w
   refine WC.reg (AO.op ha e25 λtm ha=>AO.op ha (aL2 (ha.get rfl)) λtm ha=>AO.mov ha rfl λtm ha=>AO.nil ha (WC.seq (WC.reg ?_)))
   refine AO.op ha (Rc (ha.get rfl) d.h0 rfl rfl (Zf 3) rfl) λtm ha=>AO.mov ha rfl λtm ha=>AO.op ha (aOg qn qa qf e2 (ha.get rfl) (ha.get rfl) hl) λtm ha=>AO.mov ha rfl λtm ha=>AO.nil ha (WC.seq (WC.reg (AO.mov ha rfl λtm ha=>AO.op ha (Nc (ha.get rfl) rfl rfl) λtm ha=>AO.nil ha ?_)))
   cases ht:decide (t > 0) with
   | true=>
    rw[ht] at h
    refine WC.condT (ha.get rfl) ht (WC.reg (AO.mov ha rfl λtm ha=>AO.mov ha rfl λtm ha=>AO.mov ha rfl λtm ha=>AO.op ha (aTE qx (ha.get rfl) (ha.get rfl)) λtm ha=>AO.op (v:=.ms H.length 1 0 1) (H':=H++[.blk 4 [[iv t,x,.lit bO,.lit bO]]]) ha (by
     simp only[aO,ZE,Yn,ha.get (k:=35) rfl];rfl) λtm ha=>AO.op ha (aPu (es:=w.map RA.c) (ys:=[[iv t,x,.lit bO,.lit bO]]) (by rw[ZO];exact ha.get rfl) (by
      rw[ha.get (k:=36) rfl];simp only[rd,aQR];rfl) (hold d.h1) (by decide) rfl (by simp) (by decide) (by simp;omega)) λtm ha=>AO.mov ha rfl λtm ha=>AO.nil ha ?_))
    refine WC.reg (AO.op ha (Nc (ha.get rfl) rfl rfl) λtm ha=>AO.mov ha rfl λtm ha=>AO.nil ha ?_)
    have d':=d.grow (o:=.tmp 0) (y:=.tmp 0) (t:=t) hn qx (b:=.blk 4 [[iv t,x,.lit bO,.lit bO]])
    refine aL8 cs qc hb todo k (i+1) _ _ (w++[⟨⟨t,c,[],[]⟩,x,.lit bO,.lit bO⟩]) q qr r g2 (by omega) (by simp;omega) (by omega) d' ?_ ?_ ql ?_ (by rw[YJ];exact h)
    .intro r hr
     rcases ZD.1 hr with hr | hr
     .exact hn r hr
     .rw[ZJ.1 hr];exact⟨rfl,rfl⟩
    .rw[Zv (by decide)];exact hold h2
    .exact .cons (ha.get rfl) (.cons (ha.get rfl) (.cons (ha.get rfl) (.cons (by rw[<-aJt (by omega)];exact ha.get rfl) (.cons (ha.get rfl) (.cons (ha.get rfl) (.cons (by rw[ha.get (k:=7) rfl];simp) ⟨ha.ln,λ_ _ h=>by cases h⟩))))))
   | false=>
    rw[ht] at h
    refine WC.condF (ha.get rfl) ht (WC.reg (AO.mov ha rfl λtm ha=>AO.mov ha rfl λtm ha=>AO.op ha (aPp qx (ha.get rfl)) λtm ha=>AO.op ha (aPu (es:=qr) (ys:=[[Gt x]]) (ha.get rfl) (by rw[ha.get (k:=40) rfl];rfl) h2 (by decide) rfl (by simp) (by decide) (by simp;omega)) λtm ha=>AO.mov ha rfl λtm ha=>AO.nil ha ?_))
    refine WC.reg (AO.op ha (Nc (ha.get rfl) rfl rfl) λtm ha=>AO.mov ha rfl λtm ha=>AO.nil ha ?_)
    have d':DA xn xa xf w (H.set 2 (.blk 1 (qr++[[Gt x]]))):=⟨by rw[Zv (by decide)];exact d.h0,by rw[Zv (by decide)];exact d.h1,by simp;exact d.h3,⟨d.i.co,λi r hr=>(d.i.cx i r hr).mono λk hk=>Zv (by have:=((d.i.cx i r hr).id hk).1;omega),λi r hr=>(d.i.cy i r hr).mono λk hk=>Zv (by have:=((d.i.cy i r hr).id hk).1;omega),d.i.ne⟩⟩
    refine aL8 cs qc hb todo k (i+1) _ _ w (q++[c]) (qr++[[Gt x]]) r g2 (by omega) (by omega) (by simp;omega) d' hn ?_ (ql.app ⟨⟨vK.c (c:=.sl 3) (x:=c) qx,trivial⟩,trivial⟩) ?_ h
    .rw[Z3 (Ze.1 h2).1]
    .exact .cons (ha.get rfl) (.cons (ha.get rfl) (.cons (ha.get rfl) (.cons (by rw[<-aJt (by omega)];exact ha.get rfl) (.cons (ha.get rfl) (.cons (ha.get rfl) (.cons (ha.get rfl) ⟨ha.ln,λ_ _ h=>by cases h⟩))))))
end
section
variable {p:aM}{m:List (Int×List Aaa)}{xn xa xf xm:AV}{w:List RA}{tm:List AV}{H:aU}
variable (qn:Qp (.vw 0 p.Nodes) xn)(qa:Qp (.vw 2 p.Arcs) xa)(qf:Qp (.vw 3 p.Faces) xf)(qm:Qp (.rmp 3 11 m) xm)
theorem aQp{a:Aaa}{e:List AV}(q:Qr (kI 1 a) e): e=[iv a.X,iv a.Y]:=by
 match e,q with
 | [x,y],h=>obtain⟨h1,h2,_⟩:=h;cases h1;cases h2;rfl
theorem aNQ{a:Int}{e:List AV}(q:Qr (kI 3 a) e): e=[iv a]:=by
 match e,q with
 | [x],h=>obtain⟨h1,_⟩:=h;cases h1;rfl
include qm in
theorem aL3{n:Nat}{x y z:bA}{i:Int}{a:Aaa}(d:DA xn xa xf w H)(hx:aH tm x=xm)(hy:aH tm y=.ms 1 w.length 0 w.length)(hz:aH tm z=.agg [iv a.X,iv a.Y])(h:eF n m ((w.map RA.a).map arV) a=some i):
 aO PP (fH PP T n) 0 (.callB 138 [x,y,z]) tm H=some (iv i,H):=by
 have e:cG H xm=dG H xm:=by
  obtain⟨rows,h1,_⟩:=qm.inM
  rcases h1 with⟨rfl,_⟩ | rfl<;>rfl
 obtain⟨A,r,h1,h2⟩:=O0 (a:=.undef) aLp (n:=n) (p:=(m,(w.map RA.a).map arV,a)) (r:=i) h (λr=>⟨r,rfl⟩) (aw:=[dG H xm,dG H (.ms 1 w.length 0 w.length),.agg [iv a.X,iv a.Y]])
  ⟨.p _ _ (aSs qm),.p _ _ (d.i.view d.h1),Qh.mkA ⟨.l _,.l _,trivial⟩,trivial⟩
 have e2:cG H (.ms 1 w.length 0 w.length)=dG H (.ms 1 w.length 0 w.length):=rfl
 have e3:cG H (.agg [iv a.X,iv a.Y])=.agg [iv a.X,iv a.Y]:=rfl
 simp only[aO,ZE,Yn,hx,hy,hz,e,e2,e3,h1]
 rw[h2];rfl
include qm in
theorem aRd{n:Nat}{k:Int}{x y:bA}(hx:aH tm x=xm)(hy:aH tm y=iv k): ∃a,aO PP (fH PP T n) 0 (.lookup 3 (.lit bO) x y false) tm H=some (a,H)/\Qp (.sl 1 ((bQ m k).getD [])) a:=by
 have hq:Qt 2 ⟨[(0,.rmp 3 11 m),(1,.lit (.int .i64 k))],List.replicate H.length .gone⟩ ⟨[xm,iv k],H⟩:=⟨rfl,λt v hv=>(by
  match t,hv with
  | 0,hv=>cases hv;exact⟨_,rfl,.p _ _ qm⟩
  | 1,hv=>cases hv;exact⟨_,rfl,.l _⟩
  | _+2,hv=>cases hv),aPe H⟩
 obtain⟨v,A',tv,S',h1,_,h3,h4⟩:=G9 (P:=PP) (T:=T) (cf:=fH PP T n) (n:=n) (d:=some 0) (E:=((⟨C0,[],[],[],[]⟩:En PP T 2 0 .skip).xe GlC.g)) (K:=λtv _=>some tv) (r:=.sl 1 ((bQ m k).getD []))
  (En.ok _ _) hq (kt:=3) (z:=.lit bO) (m:=.tmp 0) (k:=.tmp 1) (ok:=false) (by kernel_rfl)
 rw[aPq h1] at h1
 obtain rfl:=ZR h4
 have e:aO PP (fH PP T n) 0 (.lookup 3 (.lit bO) x y false) tm H=aO PP (fH PP T n) 0 (.lookup 3 (.lit bO) (.tmp 0) (.tmp 1) false) [xm,iv k] H:=by
  simp only[aO,hx,hy];rfl
 exact⟨v,e.trans h1,h3.pu trivial⟩
theorem RA.c_le(r:RA){k:Nat}(h:k<=4): k<=r.c.length:=h
def aTc: Bool->Nat
 | true=>3
 | false=>2
def upR(u:Bool)(r:RA)(a':dS)(v:AV): RA:=match u with
 | true=>⟨a',r.o,r.x,v⟩
 | false=>⟨a',r.o,v,r.y⟩
theorem aL6{u:Bool}{j bytes:Nat}{ro:RA}{a':dS}{row:List AV}{kd:Nat}{l:List (den kd)}{e:den kd}(d:DA xn xa xf w H)(hj:w[j]?=some ro)(hr:Qr (kI kd e) row)(h1:row.length=1)(hb:bytes<=100000)(hl:l.length<=200000)(hc:gX kd H (sel ro u) l)(ho:a'.outer=ro.a.outer/\a'.twice=ro.a.twice)(hx:(u=false/\∀H' v,gX kd H' v (l++[e])->gX 10 H' v a'.inner)\/(u=true/\a'.inner=ro.a.inner))(hy:(u=true/\∀H' v,gX kd H' v (l++[e])->gX 3 H' v a'.alone)\/(u=false/\a'.alone=ro.a.alone)):
 ∃k z H',cP 0 H 1 bytes (sel ro u) [row]=some (.ms k z 0 z,H')/\H'[1]?=some (.blk 4 (w.map RA.c))/\H'[2]?=H[2]? /\
  DA xn xa xf (w.set j (upR u ro a' (.ms k z 0 z))) (H'.set 1 (.blk 4 ((w.map RA.c).set j (aV ro.c (aTc u) [.ms k z 0 z])))):=by
 obtain⟨k,es,H',g1,g2,g3,g4,g5,g6,g7⟩:=hc.grow hr h1 hb hl d.h3
 have e1:H'[1]?=some (.blk 4 (w.map RA.c)):=(g5 1 (by omega)).trans d.h1
 refine⟨k,es.length,H',g1,e1,g5 2 (by omega),?_⟩
 have es1:aV ro.c (aTc u) [AV.ms k es.length 0 es.length]=(upR u ro a' (.ms k es.length 0 es.length)).c:=by
  cases u<;>simp only[upR,RA.c,ho.2]<;>rfl
 rw[es1,<-Xz]
 have h3:=d.h3
 have hn:∀q,3<=q->(H'.set 1 (dK.blk 4 ((w.set j (upR u ro a' (.ms k es.length 0 es.length))).map RA.c)))[q]?=H'[q]?:=λq hq=>Zv (by omega)
 refine⟨by rw[Zv (by decide),g5 0 (by omega)];exact d.h0,Z3 (by omega),by simp;omega,?_⟩
 have hC:gX kd (H'.set 1 (.blk 4 ((w.set j (upR u ro a' (.ms k es.length 0 es.length))).map RA.c))) (.ms k es.length 0 es.length) (l++[e]):=.inr ⟨k,es,rfl,g2,by rw[hn k g2];exact g3,g4⟩
 refine d.i.upd (u:=u) hj g2 g5 g6 (λq hq=>Zv (Ne.symm hq)) (by cases u<;>exact⟨rfl,ho.1⟩) ?_ ?_ (by cases u<;>rfl) (by cases u<;>rfl)
 .rcases hx with⟨rfl,h⟩ | ⟨rfl,h⟩
  .exact .inl (h _ _ hC)
  .exact .inr ⟨rfl,h,rfl⟩
 .rcases hy with⟨rfl,h⟩ | ⟨rfl,h⟩
  .exact .inl (h _ _ hC)
  .exact .inr ⟨rfl,h,rfl⟩
include qm in
theorem aPv{n N:Nat}(cs:List (List Int))(qr:List (List AV))(qq:Ql 10 cs qr)(hb:cs.length<=200000): ∀(todo:List (List Int)) (k i:Nat) (tm:List AV) (H:aU) (w:List RA) (r:List dS),cs.drop i=todo->todo.length<k->i<=cs.length->
 DA xn xa xf w H->H[2]?=some (.blk 1 qr)->(∀(j:Nat) (s:RA),w[j]?=some s->s.a.inner.length+s.a.alone.length<=i)->At 110 ((43,.ms 2 qr.length 0 qr.length)::(44,iv (qr.length:Nat))::(45,iv i)::dB xm w) tm->dv2 n m todo (w.map RA.a)=some r->
 WL PP (fH PP T n) n 0 N (bl 0x38000000008c 46) false aRf k ⟨tm,H⟩ λx s=>x=.exit 2/\∃w',w'.map RA.a=r/\DA xn xa xf w' s.heap/\(∀(j:Nat) (s:RA),w'[j]?=some s->s.a.inner.length+s.a.alone.length<=cs.length)/\At 110 (dB xm w') s.tmps
 | todo,0,i,tm,H,w,r,_,h,_,_,_,_,_,_=>by omega
 | todo,k+1,i,tm,H,w,r,hd,hk,hi0,d,h2,hs,ha,h=>by
  have hql:qr.length=cs.length:=qq.len
  apply WL.step
  show WC PP (fH PP T n) n 0 aRf ⟨cV (bl 0x38000000008c 46) tm,H⟩ _
  replace ha:At 110 ((43,.ms 2 qr.length 0 qr.length)::(44,iv (qr.length:Nat))::(45,iv i)::dB xm w) (cV (bl 0x38000000008c 46) tm):=
   .cons (ha.live _ rfl rfl) (.cons (ha.live _ rfl rfl) (.cons (ha.live _ rfl rfl) (.cons (ha.live _ rfl rfl) (.cons (ha.live _ rfl rfl) (.cons (ha.live _ rfl rfl) (ha.mask _))))))
  generalize cV (bl 0x38000000008c 46) tm=tm at ha |-
  refine WC.seq (WC.reg (AO.op ha (Nc (ha.get rfl) (ha.get rfl) rfl) λtm ha=>AO.nil ha (WC.seq ?_)))
  cases todo with
  | nil=>
   have hi:cs.length<=i:=by
    have:=congrArg List.length hd
    rw[ZV,Z1] at this;omega
   cases h
   refine WC.condF (ha.get rfl) (YI (by omega)) (WC.exit ⟨rfl,w,rfl,d,λj s hj=>ZB (hs j s hj) hi0,.cons (ha.get rfl) (.cons (ha.get rfl) (.cons (ha.get rfl) ⟨ha.ln,λ_ _ h=>by cases h⟩))⟩)
  | cons c todo=>
   obtain⟨g1,g2,g3⟩:=UP hd
   simp only[Yc] at hk
   simp only[dv2] at h
   obtain⟨t,e1,h⟩:=bD h
   obtain⟨a,e2,h⟩:=bD h
   obtain⟨ix,e3,h⟩:=bD h
   obtain⟨ra,e4,h⟩:=bD h
   refine WC.condT (ha.get rfl) (Yj (by omega)) (WC.skip (WC.seq (WC.block (WC.seq ?_))))
   obtain⟨row,hrow,q1⟩:=qq.get g1
   obtain⟨x,rfl,qx⟩:∃x,row=[x]/\Qp (.sl 3 c) x:=by
    match row,q1 with
    | [x],h=>exact⟨x,rfl,h.1⟩
   refine WC.reg (AO.op ha (aEv (ha.get rfl) (ha.get rfl) h2 rfl (Wc i) (by simp;omega)) λtm ha=>AO.op ha (Rc (v:=x) (e:=[x]) (ha.get rfl) h2 rfl (by simpa using hrow) (Zf 1) rfl) λtm ha=>AO.mov ha rfl λtm ha=>AO.nil ha (WC.seq (WC.reg ?_)))
   obtain⟨r1,q1,e51⟩:=aHA (P:=PP) (cf:=fH PP T n) (fl:=0) (tm:=[x,iv 0]) (x:=.tmp 0) (i:=.tmp 1) (H:=H) (s:=1) qx.w rfl rfl e1 rfl
   obtain rfl:=aNQ q1
   have e51:∀{tm:List AV} {y:bA},aH tm y=x->aO PP (fH PP T n) 0 (.idxAddr 1 y (.lit z0)) tm H=some (.rptr [iv t],H):=λ{tm y} hy=>by
    rw[<-e51];simp only[aO,hy];rfl
   have e58:=λ(tm:List AV)=>aRd (H:=H) (n:=n) (tm:=[xm,iv (uF t (wr (0-t)))]) qm (x:=.tmp 0) (y:=.tmp 1) rfl rfl
   obtain⟨b,e58,qb⟩:=e58 tm
   have e58:∀{tm:List AV} {y z:bA},aH tm y=xm->aH tm z=iv (uF t (wr (0-t)))->aO PP (fH PP T n) 0 (.lookup 3 (.lit bO) y z false) tm H=some (b,H):=λ{tm y z} hy hz=>by
    rw[<-e58];simp only[aO,hy,hz];rfl
   obtain⟨r2,q2,e62⟩:=aHA (P:=PP) (cf:=fH PP T n) (fl:=0) (tm:=[b,iv 0]) (x:=.tmp 0) (i:=.tmp 1) (H:=H) (s:=2) qb.w rfl rfl e2 rfl
   obtain rfl:=aQp q2
   have e62:∀{tm:List AV} {y:bA},aH tm y=b->aO PP (fH PP T n) 0 (.idxAddr 2 y (.lit z0)) tm H=some (.rptr [iv a.X,iv a.Y],H):=λ{tm y} hy=>by
    rw[<-e62];simp only[aO,hy];rfl
   refine AO.mov ha rfl λtm ha=>AO.mov ha rfl λtm ha=>AO.op ha (e51 (ha.get rfl)) λtm ha=>AO.op ha (aL2 (ha.get rfl)) λtm ha=>AO.mov ha rfl λtm ha=>AO.op ha (e51 (ha.get rfl)) λtm ha=>AO.op ha (aL2 (ha.get rfl)) λtm ha=>AO.op ha (aTF (ha.get rfl)) λtm ha=>AO.op ha (aTG (ha.get rfl) (ha.get rfl)) λtm ha=>AO.op ha (e58 (ha.get rfl) (ha.get rfl)) λtm ha=>AO.mov ha rfl λtm ha=>AO.nil ha (WC.seq (WC.reg ?_))
   refine AO.mov ha rfl λtm ha=>AO.mov ha rfl λtm ha=>AO.mov ha rfl λtm ha=>AO.op ha (e62 (ha.get rfl)) λtm ha=>AO.op ha (aPs (n:=2) (ha.get rfl) rfl) λtm ha=>AO.op ha (aL3 qm d (ha.get rfl) (ha.get rfl) (ha.get rfl) e3) λtm ha=>AO.mov ha rfl λtm ha=>AO.nil ha (WC.reg ?_)
   obtain⟨f1,f2,f3⟩:=qS e4
   obtain⟨ro,f4,rfl⟩:∃ro,w[ix.toNat]?=some ro/\ro.a=ra:=by
    rw[Zk,Zq] at f2;exact f2
   have hlt:ix.toNat<w.length:=(Ze.1 f4).1
   have hbo:=hs _ _ f4
   have f5:(w.map RA.c)[ix.toNat]?=some ro.c:=by rw[Zk,f4];rfl
   obtain⟨kk,z,H',p1,p2,p3,p4⟩:=aL6 (u:=false) (bytes:=24) (a':=⟨ro.a.twice,ro.a.outer,ro.a.inner++[c],ro.a.alone⟩) (kd:=10) (l:=ro.a.inner) (e:=c) (row:=[Gt x]) d f4 ⟨vK.c (c:=.sl 3) (x:=c) qx,trivial⟩ rfl (by decide) (by omega) (d.i.cx _ _ f4) ⟨rfl,rfl⟩ (.inl ⟨rfl,λ_ _ h=>h⟩) (.inr ⟨rfl,rfl⟩)
   refine AO.mov ha rfl λtm ha=>AO.mov ha rfl λtm ha=>AO.mov ha rfl λtm ha=>AO.mov ha rfl λtm ha=>AO.op ha (aEv (ha.get rfl) (ha.get rfl) d.h1 (by simp) f1 hlt) λtm ha=>AO.op ha (aEw (ha.get rfl)) λtm ha=>AO.op ha (Rc (v:=ro.x) (ha.get rfl) d.h1 (by simp) f5 (ro.c_le (by decide)) rfl) λtm ha=>AO.mov ha rfl λtm ha=>AO.op ha (aPp qx (ha.get rfl)) λtm ha=>AO.op ha (aL5 (ha.get rfl) (by rw[ha.get (k:=73) rfl];rfl) p1) λtm ha=>
    AO.op ha (aEv (ha.get rfl) (ha.get rfl) p2 (by simp) f1 hlt) λtm ha=>AO.op ha (aEw (ha.get rfl)) λtm ha=>AO.sto ha (aTD (ha.get rfl) (ha.get rfl) p2 (by simp) f5 (ro.c_le (by decide)) (by decide)) (AO.nil ha (WC.reg ?_))
   refine AO.op ha (Nc (ha.get rfl) rfl rfl) λtm ha=>AO.mov ha rfl λtm ha=>AO.nil ha ?_
   refine aPv cs qr qq hb todo k (i+1) _ _ _ r g2 (by omega) (by omega) p4 (by rw[Zv (by decide),p3];exact h2) ?_ ?_ (by rw[Xz];exact h)
   .intro j s hj
    by_cases e:ix.toNat=j
    .subst e
     rw[Z3 hlt] at hj;cases hj
     simp only[upR,Zh,Yd];omega
    .rw[Zv e] at hj
     exact Xl (hs j s hj)
   .exact .cons (ha.get rfl) (.cons (ha.get rfl) (.cons (by rw[<-aJt (by omega)];exact ha.get rfl) (.cons (ha.get rfl) (.cons (ha.get rfl) (.cons (by rw[Yr];exact ha.get rfl) ⟨ha.ln,λ_ _ h=>by cases h⟩)))))
end
section
variable {p:aM}{m:List (Int×List Aaa)}{xn xa xf xm:AV}{w:List RA}{tm:List AV}{H:aU}
variable (qn:Qp (.vw 0 p.Nodes) xn)(qa:Qp (.vw 2 p.Arcs) xa)(qf:Qp (.vw 3 p.Faces) xf)(qm:Qp (.rmp 3 11 m) xm)
include qn qa qf in
theorem aL4{n:Nat}{x y:bA}{c t:Int}(e:lE n p c=some t)(hx:aH tm x=.agg [xn,xa,xf])(hy:aH tm y=iv c): aO PP (fH PP T n) 0 (.callB 90 [x,y]) tm H=some (iv t,H):=by
 obtain⟨A,r,h1,h2⟩:=O0 (a:=.undef) aFS (n:=n) (p:=(p,c)) (r:=t) e (λr=>⟨r,rfl⟩) (aw:=[cG H (.agg [xn,xa,xf]),iv c])
  ⟨Qh.mkA ⟨.p _ _ (R4 qn),.p _ _ (R4 qa),.p _ _ (R4 qf),trivial⟩,.l _,trivial⟩
 have e2:cG H (iv c)=iv c:=rfl
 simp only[aO,ZE,Yn,hx,hy,e2,h1]
 rw[h2];rfl
theorem aQ7{a:Aab}{e:List AV}(q:Qr (kI 0 a) e): e=[iv a.ID,iv a.At.X,iv a.At.Y]:=by
 match e,q with
 | [x,y,z],h=>obtain⟨h1,h2,h3,_⟩:=h;cases h1;cases h2;cases h3;rfl
theorem DA.more(d:DA xn xa xf w H)(o:dK): DA xn xa xf w (H++[o]):=by
 have g:∀k,3<=k->k<H.length->(H++[o])[k]?=H[k]?:=λk _ h=>Zo h
 refine⟨hold d.h0,hold d.h1,by simp;have:=d.h3;omega,⟨d.i.co,λi r hr=>(d.i.cx i r hr).mono λk hk=>?_,λi r hr=>(d.i.cy i r hr).mono λk hk=>?_,d.i.ne⟩⟩
 .obtain⟨h3,b,hb⟩:=(d.i.cx i r hr).id hk
  exact g k h3 (Ze.1 hb).1
 .obtain⟨h3,b,hb⟩:=(d.i.cy i r hr).id hk
  exact g k h3 (Ze.1 hb).1
include qn qa qf qm in
theorem aL7{n N:Nat}(hb:p.Nodes.length<=9000): ∀(todo:List Aab) (k i:Nat) (tm:List AV) (H:aU) (w:List RA) (r:List dS),p.Nodes.drop i=todo->todo.length<k->i<=p.Nodes.length->
 DA xn xa xf w H->(∀(j:Nat) (s:RA),w[j]?=some s->s.a.inner.length+s.a.alone.length<=190000+i)->At 110 ((79,xn)::(80,iv (p.Nodes.length:Nat))::(81,iv i)::dB xm w) tm->dv3 n p m todo (w.map RA.a)=some r->
 WL PP (fH PP T n) n 0 N (bl 0x38000000000000000008c 82) false aRe k ⟨tm,H⟩ λx s=>x=.exit 4/\∃w',w'.map RA.a=r/\DA xn xa xf w' s.heap/\At 110 (dB xm w') s.tmps
 | todo,0,i,tm,H,w,r,_,h,_,_,_,_,_=>by omega
 | todo,k+1,i,tm,H,w,r,hd,hk,hi0,d,hs,ha,h=>by
  apply WL.step
  show WC PP (fH PP T n) n 0 aRe ⟨cV (bl 0x38000000000000000008c 82) tm,H⟩ _
  replace ha:At 110 ((79,xn)::(80,iv (p.Nodes.length:Nat))::(81,iv i)::dB xm w) (cV (bl 0x38000000000000000008c 82) tm):=
   .cons (ha.live _ rfl rfl) (.cons (ha.live _ rfl rfl) (.cons (ha.live _ rfl rfl) (.cons (ha.live _ rfl rfl) (.cons (ha.live _ rfl rfl) (.cons (ha.live _ rfl rfl) (ha.mask _))))))
  generalize cV (bl 0x38000000000000000008c 82) tm=tm at ha |-
  refine WC.seq (WC.reg (AO.op ha (Nc (ha.get rfl) (ha.get rfl) rfl) λtm ha=>AO.nil ha (WC.seq ?_)))
  cases todo with
  | nil=>
   have hi:p.Nodes.length<=i:=by
    have:=congrArg List.length hd
    rw[ZV,Z1] at this;omega
   cases h
   exact WC.condF (ha.get rfl) (YI (by omega)) (WC.exit ⟨rfl,w,rfl,d,.cons (ha.get rfl) (.cons (ha.get rfl) (.cons (ha.get rfl) ⟨ha.ln,λ_ _ h=>by cases h⟩))⟩)
  | cons c todo=>
   obtain⟨g1,g2,g3⟩:=UP hd
   simp only[Yc] at hk
   simp only[dv3] at h
   obtain⟨t,e1,h⟩:=bD h
   refine WC.condT (ha.get rfl) (Yj (by omega)) (WC.skip (WC.seq (WC.block (WC.seq ?_))))
   obtain⟨row,q1,e83⟩:=aHA (P:=PP) (cf:=fH PP T n) (fl:=0) (H:=H) (s:=3) qn (ha.get (k:=79) rfl) (ha.get (k:=81) rfl) (aLi g1) rfl
   obtain rfl:=aQ7 q1
   have d:=d.more (.blk 3 [[iv c.ID,iv c.At.X,iv c.At.Y]])
   have hH:((H++[dK.blk 3 [[iv 0,iv 0,iv 0]]]).set H.length (.blk 3 [[iv c.ID,iv c.At.X,iv c.At.Y]]))=H++[.blk 3 [[iv c.ID,iv c.At.X,iv c.At.Y]]]:=by
    rw[List.set_append_right _ _ (Zf _),XR];rfl
   have e17:∀{tm:List AV},aO PP (fH PP T n) 0 (.alloc [z0,z0,z0]) tm H=some (.ptr H.length 1 0 0,H++[.blk 3 [[iv 0,iv 0,iv 0]]]):=rfl
   have est:∀{tm:List AV} {x y:bA},aH tm x=.ptr H.length 1 0 0->aH tm y=.agg [iv c.ID,iv c.At.X,iv c.At.Y]->aO PP (fH PP T n) 0 (.store 3 x y) tm (H++[.blk 3 [[iv 0,iv 0,iv 0]]])=some (.lit bM,H++[.blk 3 [[iv c.ID,iv c.At.X,iv c.At.Y]]]):=λ{tm x y} hx hy=>by
    rw[<-hH];simp only[aO,hx,hy,cellsOf,yE,aQR];rfl
   refine WC.reg (AO.op ha e83 λtm ha=>AO.op ha (aPs (n:=3) (ha.get rfl) rfl) λtm ha=>AO.op ha e17 λtm ha=>AO.sto ha (est (ha.get rfl) (ha.get rfl)) (AO.nil ha (WC.seq (WC.reg ?_))))
   have hn:=aQR H (.blk 3 [[iv c.ID,iv c.At.X,iv c.At.Y]])
   generalize H++[.blk 3 [[iv c.ID,iv c.At.X,iv c.At.Y]]]=H2 at d hn |-
   refine AO.op ha (Rc (ha.get rfl) d.h0 rfl rfl (Zf 3) rfl) λtm ha=>AO.op ha (aEw (ha.get rfl)) λtm ha=>AO.op ha (Rc (v:=iv c.ID) (ha.get rfl) hn rfl rfl (Zj rfl) rfl) λtm ha=>AO.op ha (aL4 qn qa qf e1 (ha.get rfl) (ha.get rfl)) λtm ha=>AO.op ha (Nc (ha.get rfl) rfl rfl) λtm ha=>AO.nil ha ?_
   cases ht:(t==0) with
   | false=>
    rw[ht] at h
    refine WC.condF (ha.get rfl) ht (WC.skip (WC.reg (AO.op ha (Nc (ha.get rfl) rfl rfl) λtm ha=>AO.mov ha rfl λtm ha=>AO.nil ha ?_)))
    exact aL7 hb todo k (i+1) _ _ w r g2 (by omega) (by omega) d (λj s hj=>Xl (hs j s hj)) (.cons (ha.get rfl) (.cons (ha.get rfl) (.cons (by rw[<-aJt (by omega)];exact ha.get rfl) (.cons (ha.get rfl) (.cons (ha.get rfl) (.cons (ha.get rfl) ⟨ha.ln,λ_ _ h=>by cases h⟩)))))) h
   | true=>
    rw[ht] at h
    obtain⟨ix,e3,h⟩:=bD h
    obtain⟨ra,e4,h⟩:=bD h
    refine WC.condT (ha.get rfl) ht (WC.seq (WC.reg ?_))
    refine AO.mov ha rfl λtm ha=>AO.mov ha rfl λtm ha=>AO.op ha (aEw (ha.get rfl)) λtm ha=>AO.op ha (Rc (v:=.agg [iv c.At.X,iv c.At.Y]) (ha.get rfl) hn rfl rfl (Zj rfl) rfl) λtm ha=>AO.op ha (aL3 qm d (ha.get rfl) (ha.get rfl) (ha.get rfl) e3) λtm ha=>AO.mov ha rfl λtm ha=>AO.nil ha (WC.reg ?_)
    obtain⟨f1,f2,f3⟩:=qS e4
    obtain⟨ro,f4,rfl⟩:∃ro,w[ix.toNat]?=some ro/\ro.a=ra:=by
     rw[Zk,Zq] at f2;exact f2
    have hlt:ix.toNat<w.length:=(Ze.1 f4).1
    have hbo:=hs _ _ f4
    have f5:(w.map RA.c)[ix.toNat]?=some ro.c:=by rw[Zk,f4];rfl
    obtain⟨kk,z,H',p1,p2,p3,p4⟩:=aL6 (u:=true) (bytes:=8) (a':=⟨ro.a.twice,ro.a.outer,ro.a.inner,ro.a.alone++[c.ID]⟩) (kd:=3) (l:=ro.a.alone) (e:=c.ID) (row:=[iv c.ID]) d f4 ⟨.lit _,trivial⟩ rfl (by decide) (by omega) (d.i.cy _ _ f4) ⟨rfl,rfl⟩ (.inr ⟨rfl,rfl⟩) (.inl ⟨rfl,λ_ _ h=>h⟩)
    refine AO.mov ha rfl λtm ha=>AO.mov ha rfl λtm ha=>AO.mov ha rfl λtm ha=>AO.mov ha rfl λtm ha=>AO.op ha (aEv (ha.get rfl) (ha.get rfl) d.h1 (by simp) f1 hlt) λtm ha=>AO.op ha (aEw (ha.get rfl)) λtm ha=>AO.op ha (Rc (v:=ro.y) (ha.get rfl) d.h1 (by simp) f5 (ro.c_le (by decide)) rfl) λtm ha=>AO.op ha (aEw (ha.get rfl)) λtm ha=>AO.op ha (Rc (v:=iv c.ID) (ha.get rfl) hn rfl rfl (Zj rfl) rfl) λtm ha=>AO.op (v:=.sl true [[iv c.ID]]) (H':=H2) ha (by
     simp only[aO,ZE,Yn,ha.get (k:=103) rfl];rfl) λtm ha=>AO.op ha (aL5 (ha.get rfl) (by rw[ha.get (k:=104) rfl];rfl) p1) λtm ha=>
     AO.op ha (aEv (ha.get rfl) (ha.get rfl) p2 (by simp) f1 hlt) λtm ha=>AO.op ha (aEw (ha.get rfl)) λtm ha=>AO.sto ha (aTD (ha.get rfl) (ha.get rfl) p2 (by simp) f5 (ro.c_le (by decide)) (by decide)) (AO.nil ha (WC.reg ?_))
    refine AO.op ha (Nc (ha.get rfl) rfl rfl) λtm ha=>AO.mov ha rfl λtm ha=>AO.nil ha ?_
    refine aL7 hb todo k (i+1) _ _ _ r g2 (by omega) (by omega) p4 ?_ ?_ (by rw[Xz];exact h)
    .intro j s hj
     by_cases e:ix.toNat=j
     .subst e
      rw[Z3 hlt] at hj;cases hj
      simp only[upR,Zh,Yd];omega
     .rw[Zv e] at hj
      exact Xl (hs j s hj)
    .exact .cons (ha.get rfl) (.cons (ha.get rfl) (.cons (by rw[<-aJt (by omega)];exact ha.get rfl) (.cons (ha.get rfl) (.cons (ha.get rfl) (.cons (by rw[Yr];exact ha.get rfl) ⟨ha.ln,λ_ _ h=>by cases h⟩)))))
end
theorem aIK(n:Nat)(p:aM)(cs:List (List Int))(m:List (Int×List Aaa))(r:List dS)(h:jR n p cs m=some r){xn xa xf xc xm:AV}(qn:Qp (.vw 0 p.Nodes) xn)(qa:Qp (.vw 2 p.Arcs) xa)(qf:Qp (.vw 3 p.Faces) xf)(qc:Qp (.vw 10 cs) xc)(qm:Qp (.rmp 3 11 m) xm):
 ∃w H,fH PP T n 0 114 [.agg [xn,xa,xf],xc,xm] []=some (.ms 1 w.length 0 w.length,H)/\w.map RA.a=r/\DA xn xa xf w H:=by
 cases n with
 | zero=>cases h
 | succ n=>
  rw[jR] at h
  obtain⟨_,eg,h⟩:=bD h
  obtain⟨b1,b2,b3,b4⟩:=Zl (Ag eg)
  obtain⟨lq,e1,h⟩:=bD h
  obtain⟨l2,e2,h⟩:=bD h
  have key:WC PP (fH PP T n) n 0 (Q9 T 114).body ⟨[.agg [xn,xa,xf],xc,xm]++List.replicate 107 (.lit bM),[]⟩ λx s=>x=.ret/\∃w,w.map RA.a=r/\DA xn xa xf w s.heap/\aH s.tmps (.tmp 6)=.ms 1 w.length 0 w.length:=by
   rw[aOi]
   have ha:At 110 [(0,.agg [xn,xa,xf]),(1,xc),(2,xm)] ([.agg [xn,xa,xf],xc,xm]++List.replicate 107 (.lit bM)):=.cons rfl (.cons rfl (.cons rfl ⟨rfl,λ_ _ h=>by cases h⟩))
   generalize [AV.agg [xn,xa,xf],xc,xm]++List.replicate 107 (.lit bM)=tm at ha
   refine WC.seq (WC.reg (AO.op (v:=.ptr 0 1 0 0) (H':=[.blk 3 [[xn,xa,xf]]]) ha (by simp only[aO,ha.get (k:=0) rfl];rfl) λtm ha=>AO.op (v:=.sl false []) (H':=[.blk 3 [[xn,xa,xf]]]) ha rfl λtm ha=>AO.nil ha (WC.seq (WC.reg ?_))))
   refine AO.op (v:=.agg [iv 0,.lit bO,.lit bO,.lit bO]) (H':=[.blk 3 [[xn,xa,xf]]]) ha rfl λtm ha=>AO.op (v:=.ms 1 1 0 1) (H':=[.blk 3 [[xn,xa,xf]],.blk 4 [[iv 0,.lit bO,.lit bO,.lit bO]]]) ha (by simp only[aO,ZE,Yn,ha.get (k:=19) rfl];rfl) λtm ha=>AO.mov ha rfl λtm ha=>AO.nil ha (WC.seq (WC.reg ?_))
   refine AO.op (v:=.ms 2 0 0 0) (H':=[.blk 3 [[xn,xa,xf]],.blk 4 [[iv 0,.lit bO,.lit bO,.lit bO]],.blk 1 []]) ha rfl λtm ha=>AO.nil ha (WC.seq (WC.seq (WC.reg ?_)))
   refine AO.mov ha rfl λtm ha=>AO.op ha (aPr qc (ha.get rfl)) λtm ha=>AO.op (v:=iv 0) ha rfl λtm ha=>AO.nil ha ?_
   have d0:DA xn xa xf [⟨⟨0,[],[],[]⟩,.lit bO,.lit bO,.lit bO⟩] [.blk 3 [[xn,xa,xf]],.blk 4 [[iv 0,.lit bO,.lit bO,.lit bO]],.blk 1 []]:=by
    have g:∀(i:Nat) (r:RA),[(⟨⟨0,[],[],[]⟩,.lit bO,.lit bO,.lit bO⟩:RA)][i]?=some r->r=⟨⟨0,[],[],[]⟩,.lit bO,.lit bO,.lit bO⟩:=λi r hr=>ZJ.1 (Zg hr)
    refine⟨rfl,rfl,Zf 3,⟨λi r hr=>?_,λi r hr=>?_,λi r hr=>?_,λi j r s u v k hr _ hk _=>?_⟩⟩
    .rw[g i r hr];exact Qp.mkS (.inl ⟨rfl,rfl⟩) trivial
    .rw[g i r hr];exact .inl ⟨rfl,rfl⟩
    .rw[g i r hr];exact .inl ⟨rfl,rfl⟩
    .rw[g i r hr] at hk;cases u<;>cases hk
   refine WC.block (WC.mask (WC.loop ((aL8 (xm:=xm) qn qa qf cs qc b3 cs n 0 tm _ _ [] [] lq rfl b1 (by simp;omega) (by simp;omega) d0 (λr hr=>by rw[ZJ.1 hr];exact⟨rfl,rfl⟩) rfl trivial (.cons (ha.get rfl) (.cons (ha.get rfl) (.cons (ha.get rfl) (.cons (ha.get rfl) (.cons (ha.get rfl) (.cons (ha.get rfl) (.cons (ha.get rfl) ⟨ha.ln,λ_ _ h=>by cases h⟩))))))) e1).imp ?_)))
   rintro x s ⟨rfl,w,qr,rw1,d1,hn,h2,ql,ha,hw,hq⟩
   show WC PP (fH PP T n) n 0 _ ⟨cV (bl 0x18c 9) s.tmps,s.heap⟩ _
   replace ha:At 110 ((8,.ms 2 qr.length 0 qr.length)::dB xm w) (cV (bl 0x18c 9) s.tmps):=.cons (ha.live _ rfl rfl) (.cons (ha.live _ rfl rfl) (.cons (ha.live _ rfl rfl) (.cons (ha.live _ rfl rfl) (ha.mask _))))
   generalize cV (bl 0x18c 9) s.tmps=tm at ha
   generalize s.heap=H at d1 h2
   refine WC.seq (WC.seq (WC.reg (AO.mov ha rfl λtm ha=>AO.op (v:=iv (qr.length:Nat)) (H':=H) ha (by simp only[aO,ha.get (k:=43) rfl]) λtm ha=>AO.op (v:=iv 0) ha rfl λtm ha=>AO.nil ha ?_)))
   have hql:qr.length=lq.2.length:=ql.len
   have hin:∀(j:Nat) (s:RA),w[j]?=some s->s.a.inner.length+s.a.alone.length<=0:=λj s hj=>by
    have hm:=hn s (Zg hj)
    have c1:s.a.inner=[]:=by
     rcases d1.i.cx j s hj with⟨_,h⟩ | ⟨k,es,h,_⟩
     .exact h
     .rw[hm.1] at h;cases h
    have c2:s.a.alone=[]:=by
     rcases d1.i.cy j s hj with⟨_,h⟩ | ⟨k,es,h,_⟩
     .exact h
     .rw[hm.2] at h;cases h
    rw[c1,c2];exact Zf _
   have hlq:lq.2.length<=cs.length:=by
    have:∀(cs:List (List Int)) (l:List dS) (q:List (List Int)) (r:List dS×List (List Int)),dv1 n p cs l q=some r->r.2.length<=q.length+cs.length:=by
     intro cs
     induction cs with
     | nil=>intro l q r h;cases h;exact Zf _
     | cons c cs ih=>
      intro l q r h
      simp only[dv1] at h
      obtain⟨t,_,h⟩:=bD h
      simp only[Yc]
      cases ht:decide (t > 0) with
      | true=>rw[ht] at h;have:=ih _ _ _ h;omega
      | false=>rw[ht] at h;have:=ih _ _ _ h;rw[Zh,Yd] at this;omega
    have:=this cs _ _ _ e1
    simp only[Z1] at this;omega
   refine WC.block (WC.mask (WC.loop ((aPv (xn:=xn) (xa:=xa) (xf:=xf) qm lq.2 qr ql (by omega) lq.2 n 0 tm _ w l2 rfl (by omega) (ZG _) d1 h2 hin (.cons (ha.get rfl) (.cons (ha.get rfl) (.cons (ha.get rfl) (.cons (ha.get rfl) (.cons (ha.get rfl) (.cons (ha.get rfl) ⟨ha.ln,λ_ _ h=>by cases h⟩)))))) (by rw[rw1];exact e2)).imp ?_)))
   rintro x s ⟨rfl,w2,rw2,d2,hs2,ha⟩
   show WC PP (fH PP T n) n 0 _ ⟨cV (bl 0x8c 8) s.tmps,s.heap⟩ _
   replace ha:At 110 (dB xm w2) (cV (bl 0x8c 8) s.tmps):=.cons (ha.live _ rfl rfl) (.cons (ha.live _ rfl rfl) (.cons (ha.live _ rfl rfl) (ha.mask _)))
   generalize cV (bl 0x8c 8) s.tmps=tm at ha
   generalize s.heap=H at d2
   refine WC.seq (WC.seq (WC.reg (AO.op ha (aEw (ha.get rfl)) λtm ha=>AO.op ha (Rc (v:=xn) (ha.get rfl) d2.h0 rfl rfl (Zj rfl) rfl) λtm ha=>AO.op ha (aPr qn (ha.get rfl)) λtm ha=>AO.op (v:=iv 0) ha rfl λtm ha=>AO.nil ha ?_)))
   refine WC.block (WC.mask (WC.loop ((aL7 qn qa qf qm b4 p.Nodes n 0 tm _ w2 r rfl b2 (ZG _) d2 (λj s hj=>by have:=hs2 j s hj;omega) (.cons (ha.get rfl) (.cons (ha.get rfl) (.cons (ha.get rfl) (.cons (ha.get rfl) (.cons (ha.get rfl) (.cons (ha.get rfl) ⟨ha.ln,λ_ _ h=>by cases h⟩)))))) (by rw[rw2];exact h)).imp ?_)))
   rintro x s ⟨rfl,w3,rw3,d3,ha⟩
   show WC PP (fH PP T n) n 0 _ ⟨cV (bl 0x80 8) s.tmps,s.heap⟩ _
   replace ha:At 110 [(7,.ms 1 w3.length 0 w3.length)] (cV (bl 0x80 8) s.tmps):=.cons (ha.live _ rfl rfl) (ha.mask _)
   generalize cV (bl 0x80 8) s.tmps=tm at ha
   exact WC.seq (WC.reg (AO.mov ha rfl λtm ha=>AO.mov ha rfl λtm ha=>AO.nil ha (WC.ret ⟨rfl,w3,rw3,d3,ha.get rfl⟩)))
  obtain⟨x,s,k1,rfl,w,rfl,d,k2⟩:=key
  refine⟨w,s.heap,?_,rfl,d⟩
  rw[K8 (Q9 T 114) (by kernel_rfl)]
  have e:(Q9 T 114).nt=110:=by kernel_rfl
  have e2:(Q9 T 114).rets=[.tmp 6]:=by kernel_rfl
  rw[e]
  show aFI _ (eS PP (fH PP T n) n 0 (Q9 T 114).body ⟨[.agg [xn,xa,xf],xc,xm]++List.replicate 107 (.lit bM),[]⟩)=_
  rw[k1]
  simp only[aFI,e2,nD,Qy,k2,kO]
theorem aFQ: FOK PP T 114 ⟨[.w 4,.w 20,.w 21],[25],true,λn p=>jR n p.1 p.2.1 p.2.2⟩:=by
 rintro n ⟨p,cs,m⟩ r h aw q
 match aw,q with
 | [pl,xc,xm],q=>
 obtain⟨q1,q2,q3,_⟩:=q
 obtain⟨b,rfl,q4⟩:=Qh.inA (cs:=[.vw 0 p.Nodes,.vw 2 p.Arcs,.vw 3 p.Faces]) q1
 clear q1
 match b,q4 with
 | [xn,xa,xf],q4=>
 obtain⟨qn,qa,qf,_⟩:=q4
 replace qn:=Qh.pu (v:=.vw 0 p.Nodes) qn trivial
 replace qa:=Qh.pu (v:=.vw 2 p.Arcs) qa trivial
 replace qf:=Qh.pu (v:=.vw 3 p.Faces) qf trivial
 have qc:Qp (.vw 10 cs) xc:=Qh.pu (v:=.vw 10 cs) q2 trivial
 have qm:Qp (.rmp 3 11 m) xm:=Qh.pu (v:=.rmp 3 11 m) q3 trivial
 obtain⟨w,H,k1,rfl,d⟩:=aIK n p cs m r h qn qa qf qc qm
 have hw:(w.map RA.c).length=w.length:=ZO _
 refine⟨[.ms 1 w.length 0 w.length],H,k1,?_,?_,?_⟩
 .intro H1
  refine⟨.p _ _ ?_,trivial⟩
  show Qp (.sl 24 (w.map RA.a)) (eE H 0 6 (.ms 1 w.length 0 w.length))
  simp only[eE,ZG,Zz,rd,d.h1,hw,YD]
  rw[ZW (by simp)]
  exact Qp.mkS (.inr ⟨_,rfl⟩) (d.i.rows (d:=4) λk _=>rfl)
 .intro a ha l e
  rw[ZJ.1 ha] at e;cases e
 .intro _ k y us hv
  cases hv
  refine⟨_,[],_,rfl,?_,d.i.rows (d:=5) (H':=H.set 1 (.blk 4 (w.map RA.c++[List.replicate 4 .undef]))) λk hk=>Zv (by omega)⟩
  simp only[VF,d.h1,hw,Y5,Xr]
  rfl
def j6: Kn:=⟨114,_,aFQ⟩
end
end
section
variable {R:Type}(n:Nat)
noncomputable section
abbrev C51:=j6::C50
def yQ: Nat->aM->Int->Option Int
 | 0,_,_=>none
 | n+1,a,b=>bnd (yX n a b) λc=>cnd c.2 (cd (b > 0) (some c.1.Left)<|some c.1.Right)<|some 0
def aCP: Kn:=bJ 139 0x579fb3 C51 [] [] yQ
abbrev C52:=aCP::C51
def fX: Nat->dS->Option (List<|List Int)
 | 0,_=>none
 | n+1,a=>bnd (app [a.outer] a.inner) λb=>some b
def Pa: Kn:=bJ 140 0x77dbb138509fae6ad453efeada C52 [] [] fX
abbrev C53:=Pa::C52
def Dl(n:Nat): ((List<|Int×Bool)×Int)->((Bool->Option R)×Unit)->Unit->Option R:=λ(a,b) (c,_) _=>cnd (b==0) (c true)<|cnd ((Option.getD (bQ a b) false)) (c true)<|c false
def Mg:=fR Dl
def KT: Lc 115 0 1:=bG 0x55df3fb74bd081f6f9151be529caa25ae262cd13562e61d8dc86b546154d07b438ff73 C53 [] [] @Dl
def qI: (aM×List Int×Int×List Int×Int)->(Int->Option R)->((Unit->Option R)×(Unit->Option R)×Unit)->Int->Option R:=λ(a,b,c,d,f) g (h,i,_) j=>cd (j<f) (bnd (idx d j) λl=>bnd (yQ n a l) λm=>cnd (m != c) (h ())<|g<|wr<|j+1)<|i ()
def i7:=qP qI
def KU: Lc 115 0 3:=bE 0x157f46bfb60aeca0cd8b015943152d9043da54097a9625164935d6c499924bece8e632b101c2dbdfea8a1b3d C53 [] [] @qI
def qJ: (aM×List Int×Int×(List<|List Int)×Int)->(Int->Option R)->((Unit->Option R)×(Unit->Option R)×Unit)->Int->Option R:=λ(a,b,c,d,f) g (h,i,_) j=>cd (j<f) (bnd (idx d j) λl=>bnd2 (i7 n (a,b,c,l,(ln l)) 0) (λ_=>h ()) λm=>bnd (some m) λ_=>g<|wr<|j+1)<|i ()
def Mh:=qP qJ
def KV: Lc 115 0 2:=bE 0x1b49b6bfec76f3f76048a7875721e31bb2f7b11a9ff6be648590e9b0354d43b8b00d61b20ea0bf1f9b61883d C53 [⟨0,[cs KU]⟩] [] @qJ
def kK: (aM×List dS×Int)->((List Int×(List<|Int×Bool)×Int)->Option R)->(((List Int×(List<|Int×Bool)×dS)->Option R)×((List Int×(List<|Int×Bool))->Option R)×Unit)->(List Int×(List<|Int×Bool)×Int)->Option R:=λ(a,b,c) d (f,g,_) (h,i,j)=>cd (j<c) (bnd (idx b j) λl=>cd (j > 0) (bnd (idx l.outer 0) λm=>bnd (yQ n a m) λo=>bnd (Mg n (i,o)) λr=>cnd r (f (h,i,l))<|bnd (fX n l) λs=>bnd2 (Mh n (a,h,o,s,(ln s)) 0) (λ_=>f (h,(dX i o true),l)) λt=>bnd (some t) λ_=>bnd (app h [o]) λu=>d (u,(dX i o true),(wr<|j+1)))<|bnd (fX n l) λv=>bnd2 (Mh n (a,h,0,v,(ln v)) 0) (λ_=>f (h,i,l)) λw=>bnd (some w) λ_=>bnd (app h [0]) λx=>d (x,i,(wr<|j+1)))<|g (h,i)
def j5:=qP kK
def KW: Lc 115 0 0:=bE 0x103d148af35cca2070693fdd80895d312e14d407c3675e92416640db803a27ad7e81b4c811125f0bb2445e33b8009fe6c7db7afe2419ee5ab8054a41f57 C53 [⟨0,[cs KT]⟩,⟨1,[cs KV]⟩] [] @kK
def yG: Nat->aM->(List dS)->Option (List Int×Bool)
 | 0,_,_=>none
 | n+1,a,b=>bnd2 (j5 n (a,b,(ln b)) ([],[],0)) (λ_=>some ([],false)) λc=>bnd (some c) λd=>cnd ((ln d.2)==(ln a.Faces)) (some (d.1,true))<|some (d.1,false)
def D7: Kn:=bJ 115 0x8ad45713adea521972a3f5aa02939ec3 C53 [⟨0,[KW]⟩] [] yG
abbrev C54:=D7::C53
def vI: Nat->aM->Option (List dS×List Int×(List<|Int×List Aaa)×Int)
 | 0,_=>none
 | n+1,a=>bnd (Dg n a) λb=>cnd (b.2 != 0) (some ([],[],[],b.2))<|bnd (qH n a) λc=>bnd (jR n a b.1 c) λd=>bnd (yG n a d) λf=>cnd f.2 (some (d,f.1,c,0))<|some ([],[],[],12)
def R9: Kn:=bJ 78 0x71b568261ff2a5bda C54 [] [] vI
abbrev C55:=R9::C54
def yH: Nat->aM->Option Int
 | 0,_=>none
 | n+1,a=>bnd (vI n a) λb=>some b.2.2.2
def D9: Kn:=bJ 40 0x362a4a C55 [] [] yH
abbrev C56:=D9::C55
def SI: Nat->aD->Option Bool
 | 0,_=>none
 | n+1,a=>cd ((ln a.Parts) > 64) (some true)<|some false
def GF: Kn:=bJ 41 0xa1c C56 [] [] SI
abbrev C57:=GF::C56
def RN: Lc 38 0 0:=bE 0x1a983dfb044801025a762 C57 [] [] @gZ
def vO: Nat->(List Int)->Option Bool
 | 0,_=>none
 | n+1,a=>bnd2 (Ds n a 1) (λ_=>some false) λb=>bnd (some b) λ_=>some true
def T7: Kn:=bJ 38 0x31725f C57 [⟨0,[RN]⟩] [] vO
abbrev C58:=T7::C57
def kE(n:Nat): aD->((Bool->Option R)×Unit)->Unit->Option R:=λa (b,_) _=>cd (a.ID<1) (b true)<|cd (a.ID > 1073741824) (b true)<|cd (a.Class<1) (b true)<|cd (a.Class > 9) (b true)<|b false
def nT:=fR kE
def Nt: Lc 43 0 0:=bG 0x6060c1696 C58 [] [] @kE
def SH: Nat->aD->Option Bool
 | 0,_=>none
 | n+1,a=>bnd (nT n a) λb=>cnd b (some true)<|some false
def GE: Kn:=bJ 43 0xa1c C58 [⟨0,[Nt]⟩] [] SH
abbrev C59:=GE::C58
def cL: Nat->Int->Option Int
 | 0,_=>none
 | n+1,a=>cnd (a==1) (some 1)<|cnd (a==2) (some 1)<|cnd (a==8) (some 1)<|cnd (a==3) (some 2)<|cnd (a==4) (some 2)<|cnd (a==5) (some 3)<|cnd (a==6) (some 3)<|cnd (a==7) (some 3)<|some 0
def o9: Kn:=bJ 35 0x3627da C59 [] [] cL
abbrev C60:=o9::C59
def SG: Nat->aD->Option Bool
 | 0,_=>none
 | n+1,a=>bnd (cL n a.Kind) λb=>cnd (b==0) (some true)<|some false
def GD: Kn:=bJ 44 0xa1c C60 [] [] SG
abbrev C61:=GD::C60
def Dz(n:Nat): (gD×Int)->((Bool->Option R)×Unit)->Unit->Option R:=λ(a,b) (c,_) _=>cd (a.first<=b) (cd (b<=a.last) (c true)<|c false)<|c false
def n9:=fR Dz
def MC: Lc 111 0 1:=bG 0x1be06d9c115039906fffd12b6649c3fdeda69dbfcd5b2768a0 C61 [] [] @Dz
def qT: (Int×yP)->(Int->Option R)->(((gD×Int)->Option R)×(Unit->Option R)×Unit)->Int->Option R:=λ(a,b) c (d,f,_) g=>cd (g<13) (bnd (idx ([b.e0,b.e1,b.e2,b.e3,b.e4,b.e5,b.e6,b.e7,b.e8,b.e9,b.e10,b.e11,b.e12]:List gD) g) λh=>bnd (n9 n (h,a)) λi=>cnd i (d (h,h.script))<|c<|wr<|g+1)<|f ()
def o4:=qP qT
def MD: Lc 111 0 0:=bE 0xeedfab0376db1377b432cbf28ee1e79a69d13e772f9d9b1d436fc8a452 C61 [⟨0,[cs MC]⟩] [] @qT
def yI: Nat->Int->Option Int
 | 0,_=>none
 | n+1,a=>cd (a<0) (some (-1))<|cd (a > 1114111) (some (-1))<|bnd2 (o4 n ((IntKind.i32.wrap a),(yP.mk (gD.mk 32 32 0) (gD.mk 39 41 0) (gD.mk 45 46 0) (gD.mk 48 57 0) (gD.mk 65 90 1) (gD.mk 97 122 1) (gD.mk 192 214 1) (gD.mk 216 246 1) (gD.mk 248 591 1) (gD.mk 880 1023 2) (gD.mk 1024 1279 3) (gD.mk 1488 1514 4)<|gD.mk 19968 40959 5)) 0) (λb=>some b.2) λc=>bnd (some c) λ_=>some (-1)
def I9: Kn:=bJ 111 0x3627da C61 [⟨0,[MD]⟩] [] yI
abbrev C62:=I9::C61
def qU: Unit->((List Int×(ByteArray×Nat))->Option R)->(((List Int×(ByteArray×Nat))->Option R)×((List Int×(ByteArray×Nat))->Option R)×Unit)->(List Int×(ByteArray×Nat))->Option R:=λ_ a (b,c,_) (d,f)=>cd (f.2<f.1.size) (bnd (yI n<|wr (((Utf8.decode f.1 f.2).1:Nat):Int)) λg=>cd (g<0) (b (d,(f.1,(f.2+(Utf8.decode f.1 f.2).2))))<|bnd (app d [(wr (((Utf8.decode f.1 f.2).1:Nat):Int))]) λh=>a (h,(f.1,(f.2+(Utf8.decode f.1 f.2).2))))<|c (d,(f.1,f.2))
def o5:=qP qU
def ME: Lc 109 0 0:=bE 0x831413a9c3b83dd6e1cf32dc395a4e4fee8bedf0d46c964d58a942dc018125e86896c7432496d8f5a70ece508d C62 [] [] @qU
def Ky: Nat->ByteArray->Option (List Int×Int)
 | 0,_=>none
 | n+1,a=>bnd2 (o5 n () ([],(a,0))) (λ_=>some ([],4)) λb=>bnd (some b) λc=>some (c.1,0)
def J0: Kn:=bJ 109 0x1aab686448e56d904c1d3 C62 [⟨0,[ME]⟩] [] Ky
abbrev C63:=J0::C62
def aRB: Kn:=aTP 110 29 5 rfl (λn p=>aAO n p.1 p.2) λn p r h=>by obtain⟨m,h1⟩:=aRk h;exact⟨m,p.1,p.2,r,h1,rfl,h,rfl⟩
abbrev C64:=aRB::C63
def Pq: ByteArray->((Bool->Option R)×Unit)->Unit->Option R:=λa (b,_) _=>bnd (sat a 0) λc=>cnd (c==32) (b true)<|bnd (sat a<|wr<|((a.size:Nat):Int)-1) λd=>cnd (d==32) (b true)<|bnd (aAO n a (⟨#[32,32]⟩:ByteArray)) λf=>cnd f (b true)<|b false
def aBI:=fR Pq
def G3: Lc 77 0 0:=bG 0xb7adb329df1e5bf35ade686827192 C64 [] [] @Pq
def zY: (List Int×List Int×Int)->(Int->Option R)->((Unit->Option R)×(Unit->Option R)×Unit)->Int->Option R:=λ(a,b,c) d (f,g,_) h=>cd (h<c) (bnd (idx b h) λi=>bnd (yI n i) λj=>cnd (j != 0) (f ())<|d<|wr<|h+1)<|g ()
def aBJ:=qP zY
def G4: Lc 77 0 1:=bE 0x7ca36937b0adafbfce867374cbba9d5d C64 [] [] @zY
def aA6: Nat->ByteArray->Option (List Int×Int)
 | 0,_=>none
 | n+1,a=>cd (a=(⟨#[]⟩:ByteArray)) (some ([],14))<|cd (((a.size:Nat):Int) > 40) (some ([],3))<|bnd (Ky n a) λb=>cnd (b.2 != 0) (some ([],b.2))<|bnd (aBI n a) λc=>cnd c (some ([],14))<|bnd2 (aBJ n (b.1,b.1,(ln b.1)) 0) (λ_=>some (b.1,0)) λd=>bnd (some d) λ_=>some ([],14)
def aDA: Kn:=bJ 77 0x2c22bacffe7bcd2 C64 [⟨0,[G3]⟩,⟨1,[G4]⟩] [] aA6
abbrev C65:=aDA::C64
def zZ: Nat->ByteArray->Option Int
 | 0,_=>none
 | n+1,a=>bnd (aA6 n a) λb=>some b.2
def aBK: Kn:=bJ 39 0x20b642ccbcd2 C65 [] [] zZ
abbrev C66:=aBK::C65
def kD: aD->((Bool->Option R)×Unit)->Unit->Option R:=λa (b,_) _=>cd (a.Name=(⟨#[]⟩:ByteArray)) (b false)<|bnd (zZ n a.Name) λc=>cnd (c != 0) (b true)<|b false
def nS:=fR kD
def Ns: Lc 45 0 0:=bG 0x6060c1696 C66 [] [] @kD
def SF: Nat->aD->Option Bool
 | 0,_=>none
 | n+1,a=>bnd (nS n a) λb=>cnd b (some true)<|some false
def GC: Kn:=bJ 45 0xa1c C66 [⟨0,[Ns]⟩] [] SF
abbrev C67:=GC::C66
def kC: aD->((Bool->Option R)×Unit)->Unit->Option R:=λa (b,_) _=>cnd ((ln a.Parts)==0) (b true)<|bnd (cL n a.Kind) λc=>cnd (c==1) (cd ((ln a.Parts) > 1) (b true)<|b false)<|b false
def hJ:=fR kC
def Nr: Lc 46 0 0:=bG 0x6060c1696 C67 [] [] @kC
def SE: Nat->aD->Option Bool
 | 0,_=>none
 | n+1,a=>bnd (hJ n a) λb=>cnd b (some true)<|some false
def GB: Kn:=bJ 46 0xa1c C67 [⟨0,[Nr]⟩] [] SE
abbrev C68:=GB::C67
def iM: Nat->(List Int)->Int->Option Bool
 | 0,_,_=>none
 | n+1,a,b=>bnd (dU n a b) λc=>cnd c (some true)<|some false
def aDW: Kn:=bJ 63 0x795754 C68 [] [] iM
abbrev C69:=aDW::C68
def lH: (aM×aD×Int)->((Bool->Option R)×Unit)->Unit->Option R:=λ(a,b,c) (d,_) _=>bnd (cL n b.Kind) λf=>cnd (f==1) (bnd (iF n a c) λg=>cnd g.2 (d false)<|d true)<|cnd (f==2) (bnd (zU n a c) λh=>cnd h.2 (d false)<|d true)<|cnd (f==3) (bnd (iM n a.Faces c) λi=>cnd i (d false)<|d true)<|d true
def oW:=qR lH
def Qv: Ic:=bP 116 2 3 0xfe072ff9a70f09988d60c9fad9 C69 [] [] @lH
def eV: (aM×aD×List Int×Int)->(Int->Option R)->((Int->Option R)×(Unit->Option R)×Unit)->Int->Option R:=λ(a,b,c,d) f (g,h,_) i=>cd (i<d) (bnd (idx c i) λj=>bnd (oW n (a,b,j)) λl=>cnd l (g i)<|f<|wr<|i+1)<|h ()
def FY:=qP eV
def Qu: Lc 108 0 0:=bE 0xef7126622c9930af3da2ea0b27af6b1157a33ad3118e4f36be5761f C69 [] [Qv] @eV
def lI: (aM×aD×List Int)->((Int->Option R)×Unit)->Unit->Option R:=λ(a,b,c) (d,_) _=>bnd2 (FY n (a,b,c,(ln c)) 0) (λf=>d f) λg=>bnd (some g) λ_=>d (-1)
def oX:=qR lI
def Qw: Ic:=bP 108 0 2 0x326826662d55a0d6e9829928164fb00e6d0509 C69 [⟨0,[Qu]⟩] [] @lI
def lJ: (aM×aD×List Int)->((Bool->Option R)×Unit)->Unit->Option R:=λ(a,b,c) (d,_) _=>bnd (oX n (a,b,c)) λf=>cd (f>=0) (d true)<|d false
def jE:=qR lJ
def Qx: Ic:=bP 76 0 2 0x77527818142891662126b4a2fb00e6d0509 C69 [] [Qw] @lJ
def o7: Nat->aM->aD->Option Bool
 | 0,_,_=>none
 | n+1,a,b=>bnd (jE n (a,b,b.Parts)) λc=>cnd c (some true)<|some false
def MO: Kn:=bJ 80 0x35dae4610 C69 [] [Qx] o7
abbrev Da:=MO::C69
def Aw(n:Nat): aJ->((Unit->Option R)×Unit)->Unit->Option R:=λa (b,_) _=>b ()
def uL:=qR Aw
def GO: Ic:=bP 42 0 1 0x3263ca6daa3e8667e3ee3cee784f44ce395d2d Da [] [] @Aw
def Au(n:Nat): Unit->((((List<|Aad×Bool))->Option R)×Unit)->Unit->Option R:=λ_ (a,_) _=>a []
def uK:=qR Au
def GN: Ic:=bP 48 0 0 0x3499758cea0ad9e4d15562b1ca19f78f6eea95294c41 Da [] [] @Au
def Am: aD->((Unit->Option R)×(Int->Option R)×Unit)->Unit->Option R:=λa (b,c,_) _=>bnd (cL n a.Kind) λd=>cnd (d==2) (b ())<|cnd (d==3) (c a.Kind)<|c 0
def Ie:=pc2 Am
def GG: Lc 81 0 0:=bG 0x129ce4e2d22b60c53860f3c218d1417bf7443f6ebd1b23bec9a49ea9b95 Da [] [] @Am
def oY(n:Nat): (Int×List Int×Int)->(((List<|Aad×Bool)×Int)->Option R)->((((List<|Aad×Bool)×Int)->Option R)×(((List<|Aad×Bool))->Option R)×Unit)->((List<|Aad×Bool)×Int)->Option R:=λ(a,b,c) d (f,g,_) (h,i)=>cd (i<c) (bnd (idx b i) λj=>cnd ((Option.getD (bQ h<|Aad.mk a j) false)) (f (h,j))<|d ((dX h (Aad.mk a j) true),(wr<|i+1)))<|g h
def SJ:=qP oY
def GH: Lc 81 0 1:=bE 0x1beeb052d73cef397659eadd49dd4f0161ec5af8a6783496949e9eecd1030d28a1c3e457608474d Da [] [] @oY
def Ao: ((List<|Aad×Bool)×aD)->((((List<|Aad×Bool))->Option R)×(((List<|Aad×Bool)×Int×Int)->Option R)×Unit)->Unit->Option R:=λ(a,b) (c,d,_) _=>bnd2 (Ie n b) (λ_=>c a) λf=>bnd (some f) λg=>bnd2 (SJ n (g,b.Parts,(ln b.Parts)) (a,0)) (λh=>d (h.1,g,h.2)) λi=>bnd (some i) λj=>c j
def Ig:=BJ Ao
def GK: Ic:=bP 81 0 2 0x2d29f6513a6b543b3ab9dd38af746e71fd84d110919e16ea1e2c8bd31d6e35bc5019f8e53 Da [⟨0,[GG]⟩,⟨1,[GH]⟩] [] @Ao
def oZ: (List aD×Int)->(((List<|Aad×Bool)×Int)->Option R)->((((List<|Aad×Bool)×aD×Int×Int×Int)->Option R)×(((List<|Aad×Bool))->Option R)×Unit)->((List<|Aad×Bool)×Int)->Option R:=λ(a,b) c (d,f,_) (g,h)=>cd (h<b) (bnd (idx a h) λi=>bnd2 (Ig n (g,i)) (λj=>c (j,(wr<|h+1))) λl=>bnd (some l) λm=>d (m.1,i,m.2.1,m.2.2,h))<|f g
def SK:=qP oZ
def GI: Lc 82 0 0:=bE 0x18c33326c008b685f8db9c6c47bfe8f0980c12e2c8c562c213 Da [] [GK] @oZ
def Ap: ((List<|Aad×Bool)×List aD)->((((List<|Aad×Bool)×Int×Int×Int×ByteArray×List Int×Int×Int×Int)->Option R)×(((List<|Aad×Bool))->Option R)×Unit)->Unit->Option R:=λ(a,b) (c,d,_) _=>bnd2 (SK n (b,(ln b)) (a,0)) (λf=>c (f.1,f.2.1.ID,f.2.1.Kind,f.2.1.Class,f.2.1.Name,f.2.1.Parts,f.2.2.1,f.2.2.2.1,f.2.2.2.2)) λg=>bnd (some g) λh=>d h
def Ih:=BJ Ap
def GL: Ic:=bP 82 0 2 0xccb1e012047c6a0eb5bb294ff3ed321903f0051d26fc528a54f8e53 Da [⟨0,[GI]⟩] [] @Ap
def Aq: ((List<|Aad×Bool)×List aD)->((((List<|Aad×Bool)×Int×Int×Int×ByteArray×List Int×Int×Int×Bool)->Option R)×(((List<|Aad×Bool))->Option R)×Unit)->Unit->Option R:=λ(a,b) (c,d,_) _=>bnd2 (Ih n (a,b)) (λf=>cd (f.2.2.2.2.2.2.2.2>=0) (c (f.1,f.2.1,f.2.2.1,f.2.2.2.1,f.2.2.2.2.1,f.2.2.2.2.2.1,f.2.2.2.2.2.2.1,f.2.2.2.2.2.2.2.1,true))<|c (f.1,f.2.1,f.2.2.1,f.2.2.2.1,f.2.2.2.2.1,f.2.2.2.2.2.1,f.2.2.2.2.2.2.1,f.2.2.2.2.2.2.2.1,false)) λg=>bnd (some g) λh=>d h
def Ii:=BJ Aq
def GM: Ic:=bP 49 0 2 0x1076f1f44f31617a02707b82b037beff557d8f359c528a54f8e53 Da [] [GL] @Aq
def CT: Ic:=bP 116 10 3 0xfe1632da5a451d0e13bb0809a3 Da [] [] @lH
def BW: Lc 108 0 0:=bE 0x28fc3b750c480c8ef9fa46bcc681c82152f82a7f58d3 Da [] [CT] @eV
def CU: Ic:=bP 108 0 2 0x536b2e1acd9ca39ad806f056ea60d613 Da [⟨0,[BW]⟩] [] @lI
def CV: Ic:=bP 76 0 2 0xc58341b33e2fa31b49a36ea60d613 Da [] [CU] @lJ
def xR: (aM×aD)->((Bool->Option R)×Unit)->Unit->Option R:=λ(a,b) (c,_) _=>bnd (jE n (a,b,b.Parts)) λd=>cnd d (c true)<|c false
def rU:=qR xR
def CW: Ic:=bP 80 0 2 0x1a47d736f2df7a1ee4513 Da [] [CV] @xR
def xS: (aJ×aD)->(((aM×Bool)->Option R)×Unit)->Unit->Option R:=λ(a,b) (c,_) _=>bnd (rU n (a.Plan,b)) λd=>cnd d (c (a.Plan,true))<|c (a.Plan,false)
def rV:=qR xS
def CX: Ic:=bP 47 0 2 0x3269690d865ed4bf271f9e950349ed5f4d107b Da [] [CW] @xS
def hU: (aJ×List aD×Int)->(Int->Option R)->(((aD×aM×aD×Int)->Option R)×(Unit->Option R)×Unit)->Int->Option R:=λ(a,b,c) d (f,g,_) h=>cd (h<c) (bnd (idx b h) λi=>bnd (rV n (a,i)) λj=>cnd j.2 (f (i,j.1,i,h))<|d<|wr<|h+1)<|g ()
def MW:=qP hU
def BX: Lc 82 0 0:=bE 0x626be7a7bef84795ece72d0f798216ef89f63f061ea920032f59b7a53539215b Da [] [CX] @hU
def xT: (aJ×List aD)->(((aD×aM×aD×Int)->Option R)×(Unit->Option R)×Unit)->Unit->Option R:=λ(a,b) (c,d,_) _=>bnd2 (MW n (a,b,(ln b)) 0) (λf=>c (f.1,f.2.1,f.2.2.1,f.2.2.2)) λg=>bnd (some g) λ_=>d ()
def rW:=BJ xT
def CY: Ic:=bP 82 0 2 0x4abdb7956de23d7ce92bd535149de0011ae1ed37b1d2039640e20d1584cdadbc07b Da [⟨0,[BX]⟩] [] @xT
def An: (aJ×List aD)->(((aD×aM×aD×Bool)->Option R)×(Unit->Option R)×Unit)->Unit->Option R:=λ(a,b) (c,d,_) _=>bnd2 (rW n (a,b)) (λf=>cd (f.2.2.2>=0) (c (f.1,f.2.1,f.2.2.1,true))<|c (f.1,f.2.1,f.2.2.1,false)) λg=>bnd (some g) λ_=>d ()
def uJ:=BJ An
def GJ: Ic:=bP 49 0 2 0x19c1edc24e8ed0057733d20e484eea7025c6c2a28bc4ad1584cdadbc07b Da [] [CY] @An
def BO: Lc 46 0 0:=bG 0x20220b8d65946af7b5 Da [] [] @kC
def xO: aD->((Bool->Option R)×Unit)->Unit->Option R:=λa (b,_) _=>bnd (hJ n a) λc=>cnd c (b true)<|b false
def rP:=qR xO
def CP: Ic:=bP 46 0 1 0xa2b Da [⟨0,[BO]⟩] [] @xO
def hP: (List aD×Int)->(Int->Option R)->(((aD×Int)->Option R)×(Unit->Option R)×Unit)->Int->Option R:=λ(a,b) c (d,f,_) g=>cd (g<b) (bnd (idx a g) λh=>bnd (rP n h) λi=>cnd i (d (h,g))<|c<|wr<|g+1)<|f ()
def MV:=qP hP
def BV: Lc 82 0 0:=bE 0x617021a40 Da [] [CP] @hP
def xP: (List aD)->(((aD×Int)->Option R)×(Unit->Option R)×Unit)->Unit->Option R:=λa (b,c,_) _=>bnd2 (MV n (a,(ln a)) 0) (λd=>b (d.1,d.2)) λf=>bnd (some f) λ_=>c ()
def rQ:=BJ xP
def CQ: Ic:=bP 82 0 2 0x62582aec1 Da [⟨0,[BV]⟩] [] @xP
def xQ: (List aD)->(((aD×Bool)->Option R)×(Unit->Option R)×Unit)->Unit->Option R:=λa (b,c,_) _=>bnd2 (rQ n a) (λd=>cd (d.2>=0) (b (d.1,true))<|b (d.1,false)) λf=>bnd (some f) λ_=>c ()
def rS:=BJ xQ
def CS: Ic:=bP 49 0 2 0x620ad26c1 Da [] [CQ] @xQ
def BN: Lc 45 0 0:=bG 0x20220b8d65946af7b5 Da [] [] @kD
def xL: aD->((Bool->Option R)×Unit)->Unit->Option R:=λa (b,_) _=>bnd (nS n a) λc=>cnd c (b true)<|b false
def Ef:=qR xL
def CM: Ic:=bP 45 0 1 0xa2b Da [⟨0,[BN]⟩] [] @xL
def nW: (List aD×Int)->(Int->Option R)->(((aD×Int)->Option R)×(Unit->Option R)×Unit)->Int->Option R:=λ(a,b) c (d,f,_) g=>cd (g<b) (bnd (idx a g) λh=>bnd (Ef n h) λi=>cnd i (d (h,g))<|c<|wr<|g+1)<|f ()
def MU:=qP nW
def BU: Lc 82 0 0:=bE 0x617020dd0 Da [] [CM] @nW
def xM: (List aD)->(((aD×Int)->Option R)×(Unit->Option R)×Unit)->Unit->Option R:=λa (b,c,_) _=>bnd2 (MU n (a,(ln a)) 0) (λd=>b (d.1,d.2)) λf=>bnd (some f) λ_=>c ()
def Eg:=BJ xM
def CN: Ic:=bP 82 0 2 0x62582a251 Da [⟨0,[BU]⟩] [] @xM
def xN: (List aD)->(((aD×Bool)->Option R)×(Unit->Option R)×Unit)->Unit->Option R:=λa (b,c,_) _=>bnd2 (Eg n a) (λd=>cd (d.2>=0) (b (d.1,true))<|b (d.1,false)) λf=>bnd (some f) λ_=>c ()
def Eh:=BJ xN
def CO: Ic:=bP 49 0 2 0x620ad1a51 Da [] [CN] @xN
def xI: aD->((Bool->Option R)×Unit)->Unit->Option R:=λa (b,_) _=>bnd (cL n a.Kind) λc=>cnd (c==0) (b true)<|b false
def rG:=qR xI
def CJ: Ic:=bP 44 0 1 0xa2b Da [] [] @xI
def hM: (List aD×Int)->(Int->Option R)->(((aD×Int)->Option R)×(Unit->Option R)×Unit)->Int->Option R:=λ(a,b) c (d,f,_) g=>cd (g<b) (bnd (idx a g) λh=>bnd (rG n h) λi=>cnd i (d (h,g))<|c<|wr<|g+1)<|f ()
def MT:=qP hM
def BT: Lc 82 0 0:=bE 0x617020160 Da [] [CJ] @hM
def xJ: (List aD)->(((aD×Int)->Option R)×(Unit->Option R)×Unit)->Unit->Option R:=λa (b,c,_) _=>bnd2 (MT n (a,(ln a)) 0) (λd=>b (d.1,d.2)) λf=>bnd (some f) λ_=>c ()
def rH:=BJ xJ
def CK: Ic:=bP 82 0 2 0x6258295e1 Da [⟨0,[BT]⟩] [] @xJ
def xK: (List aD)->(((aD×Bool)->Option R)×(Unit->Option R)×Unit)->Unit->Option R:=λa (b,c,_) _=>bnd2 (rH n a) (λd=>cd (d.2>=0) (b (d.1,true))<|b (d.1,false)) λf=>bnd (some f) λ_=>c ()
def rJ:=BJ xK
def CL: Ic:=bP 49 0 2 0x620ad0de1 Da [] [CK] @xK
def BM: Lc 43 0 0:=bG 0x20220b8d65946af7b5 Da [] [] @kE
def xF: aD->((Bool->Option R)×Unit)->Unit->Option R:=λa (b,_) _=>bnd (nT n a) λc=>cnd c (b true)<|b false
def Ec:=qR xF
def CG: Ic:=bP 43 0 1 0xa2b Da [⟨0,[BM]⟩] [] @xF
def nV: (List aD×Int)->(Int->Option R)->(((aD×Int)->Option R)×(Unit->Option R)×Unit)->Int->Option R:=λ(a,b) c (d,f,_) g=>cd (g<b) (bnd (idx a g) λh=>bnd (Ec n h) λi=>cnd i (d (h,g))<|c<|wr<|g+1)<|f ()
def MS:=qP nV
def BS: Lc 82 0 0:=bE 0x61701f4f0 Da [] [CG] @nV
def xG: (List aD)->(((aD×Int)->Option R)×(Unit->Option R)×Unit)->Unit->Option R:=λa (b,c,_) _=>bnd2 (MS n (a,(ln a)) 0) (λd=>b (d.1,d.2)) λf=>bnd (some f) λ_=>c ()
def Ed:=BJ xG
def CH: Ic:=bP 82 0 2 0x625828971 Da [⟨0,[BS]⟩] [] @xG
def xH: (List aD)->(((aD×Bool)->Option R)×(Unit->Option R)×Unit)->Unit->Option R:=λa (b,c,_) _=>bnd2 (Ed n a) (λd=>cd (d.2>=0) (b (d.1,true))<|b (d.1,false)) λf=>bnd (some f) λ_=>c ()
def Ee:=BJ xH
def CI: Ic:=bP 49 0 2 0x620ad0171 Da [] [CH] @xH
def wY: (aJ×Int×aD)->((Bool->Option R)×Unit)->Unit->Option R:=λ(a,b,c) (d,_) _=>cd (b > 1) (bnd (idx a.Features<|wr<|b-2) λf=>cd (f.ID>=c.ID) (d true)<|bnd (vO n c.Parts) λg=>cnd g (d false)<|d true)<|bnd (vO n c.Parts) λh=>cnd h (d false)<|d true
def qX:=fR wY
def BK: Lc 79 0 0:=bG 0x5f4bd4e7e32d32bbadc4b1638f4585dd006867899 Da [] [] @wY
def xC: (aJ×Int×aD)->(((Int×Bool)->Option R)×Unit)->Unit->Option R:=λ(a,b,c) (d,_) _=>bnd (qX n (a,(wr<|b+1),c)) λf=>cnd f (d ((wr<|b+1),true))<|d ((wr<|b+1),false)
def qZ:=qR xC
def CC: Ic:=bP 79 0 3 0x40d7aad1bea6aec1a06e9e4071caa70aca9 Da [⟨0,[BK]⟩] [] @xC
def hK: (aJ×List aD×Int)->((Int×Int)->Option R)->(((Int×aD×Int)->Option R)×(Int->Option R)×Unit)->(Int×Int)->Option R:=λ(a,b,c) d (f,g,_) (h,i)=>cd (i<c) (bnd (idx b i) λj=>bnd (qZ n (a,h,j)) λl=>cnd l.2 (f (l.1,j,i))<|d (l.1,(wr<|i+1)))<|g h
def MR:=qP hK
def BR: Lc 82 0 0:=bE 0x1340bf017ab304acb1c904701bec490b54db716fe8e318cbefbd9 Da [] [CC] @hK
def xD: (aJ×Int×List aD)->(((Int×aD×Int)->Option R)×(Int->Option R)×Unit)->Unit->Option R:=λ(a,b,c) (d,f,_) _=>bnd2 (MR n (a,c,(ln c)) (b,0)) (λg=>d (g.1,g.2.1,g.2.2)) λh=>bnd (some h) λi=>f i
def rA:=BJ xD
def CD: Ic:=bP 82 0 2 0x152c0446179756ead81a20c19b69a3d88d0451a55cacc14919 Da [⟨0,[BR]⟩] [] @xD
def xE: (aJ×Int×List aD)->(((Int×aD×Bool)->Option R)×(Int->Option R)×Unit)->Unit->Option R:=λ(a,b,c) (d,f,_) _=>bnd2 (rA n (a,b,c)) (λg=>cd (g.2.2>=0) (d (g.1,g.2.1,true))<|d (g.1,g.2.1,false)) λh=>bnd (some h) λi=>f i
def rE:=BJ xE
def CE: Ic:=bP 49 0 2 0x1b3f58325fb2cf3509d602b4389ede568d0960cacc14919 Da [] [CD] @xE
def wZ(n:Nat): aD->((Bool->Option R)×Unit)->Unit->Option R:=λa (b,_) _=>cd ((ln a.Parts) > 64) (b true)<|b false
def qY:=qR wZ
def BZ: Ic:=bP 41 0 1 0xa2b Da [] [] @wZ
def nU: (List aD×Int)->(Int->Option R)->(((aD×Int)->Option R)×(Unit->Option R)×Unit)->Int->Option R:=λ(a,b) c (d,f,_) g=>cd (g<b) (bnd (idx a g) λh=>bnd (qY n h) λi=>cnd i (d (h,g))<|c<|wr<|g+1)<|f ()
def MQ:=qP nU
def BQ: Lc 82 0 0:=bE 0x61701dc10 Da [] [BZ] @nU
def xA: (List aD)->(((aD×Int)->Option R)×(Unit->Option R)×Unit)->Unit->Option R:=λa (b,c,_) _=>bnd2 (MQ n (a,(ln a)) 0) (λd=>b (d.1,d.2)) λf=>bnd (some f) λ_=>c ()
def Ea:=BJ xA
def CA: Ic:=bP 82 0 2 0x625827091 Da [⟨0,[BQ]⟩] [] @xA
def xB: (List aD)->(((aD×Bool)->Option R)×(Unit->Option R)×Unit)->Unit->Option R:=λa (b,c,_) _=>bnd2 (Ea n a) (λd=>cd (d.2>=0) (b (d.1,true))<|b (d.1,false)) λf=>bnd (some f) λ_=>c ()
def Eb:=BJ xB
def CB: Ic:=bP 49 0 2 0x620ace891 Da [] [CA] @xB
def cC: Nat->aJ->Option Int
 | 0,_=>none
 | n+1,a=>bnd (yH n a.Plan) λb=>cnd (b != 0) (some b)<|cd ((ln a.Features) > 128) (some 3)<|bnd (uL n a) λ_=>bnd (uK n ()) λc=>bnd (Nq<|Nat.ble 9 n) λ_=>(let d:=(let f:=λ(g:Int)=>(let h:=(let i:=(let j:=(let l:=(let m:=(let o:=λ(r:(List<|Aad×Bool))=>some 0;(bnd2 (Ii n (c,a.Features)) (λs=>cnd s.2.2.2.2.2.2.2.2 (some 13)<|o s.1) λt=>bnd (some t) λu=>o u));(bnd2 (uJ n (a,a.Features)) (λv=>cnd v.2.2.2 (some 7) m) λw=>bnd (some w) λ_=>m));(bnd2 (rS n a.Features) (λx=>cnd x.2 (some 1) l) λy=>bnd (some y) λ_=>l));(bnd2 (Eh n a.Features) (λz=>cnd z.2 (some 14) j) λa0=>bnd (some a0) λ_=>j));(bnd2 (rJ n a.Features) (λb0=>cnd b0.2 (some 9) i) λc0=>bnd (some c0) λ_=>i));(bnd2 (Ee n a.Features) (λd0=>cnd d0.2 (some 2) h) λf0=>bnd (some f0) λ_=>h));(bnd2 (rE n (a,0,a.Features)) (λg0=>cnd g0.2.2 (some 10)<|f g0.1) λh0=>bnd (some h0) λi0=>f i0));(bnd2 (Eb n a.Features) (λj0=>cnd j0.2 (some 3) d) λl0=>bnd (some l0) λ_=>d))
def p9: Kn:=bJ 14 0x20b6e0ac61b0 Da [] [GO,GN,GM,GJ,CS,CO,CL,CI,CE,CB] cC
abbrev C71:=p9::Da
def jX(n:Nat): (List Int×List Int×Int)->(Int->Option R)->((Unit->Option R)×(Unit->Option R)×Unit)->Int->Option R:=λ(a,b,c) d (f,g,_) h=>cd (h<c) (bnd (idx a h) λi=>bnd (idx b h) λj=>cnd (i != j) (f ())<|d<|wr<|h+1)<|g ()
def AL:=qP jX
def Nj: Lc 65 0 0:=bE 0x1f54fbb40f78a58fa5d5f C71 [] [] @jX
def eN: Nat->(List Int)->(List Int)->Option Bool
 | 0,_,_=>none
 | n+1,a,b=>cnd ((ln a) != (ln b)) (some false)<|bnd2 (AL n (a,b,(ln a)) 0) (λ_=>some false) λc=>bnd (some c) λ_=>some true
def EX: Kn:=bJ 65 0x1dde46656534 C71 [⟨0,[Nj]⟩] [] eN
abbrev C72:=EX::C71
def JE: Nat->Aab->Aab->Option Bool
 | 0,_,_=>none
 | n+1,a,b=>cnd (a.ID==b.ID) (some true)<|some false
def Rq: Kn:=bJ 101 0x29dd23acac82 C72 [] [] JE
abbrev C73:=Rq::C72
def iW(n:Nat): (aP×aP)->((Bool->Option R)×Unit)->Unit->Option R:=λ(a,b) (c,_) _=>cnd (a.ID==b.ID) (cnd (a.From==b.From) (cnd (a.To==b.To) (cnd (a.Left==b.Left) (cnd (a.Right==b.Right) (c true)<|c false)<|c false)<|c false)<|c false)<|c false
def kG:=fR iW
def Je: Lc 103 0 0:=bG 0x229ab75d152496f02b C73 [] [] @iW
def JD: Nat->aP->aP->Option Bool
 | 0,_,_=>none
 | n+1,a,b=>bnd (kG n (a,b)) λc=>cnd c (some true)<|some false
def Rp: Kn:=bJ 103 0x510eab1be C73 [⟨0,[Je]⟩] [] JD
abbrev C74:=Rp::C73
def vR(n:Nat): (Aab×Aab)->((Bool->Option R)×Unit)->Unit->Option R:=λ(a,b) (c,_) _=>cnd (a.ID==b.ID) (c true)<|c false
def Ck:=qR vR
def Rw: Ic:=bP 101 0 2 0xfe0ae46ed7102f40787f7e2a33 C74 [] [] @vR
def lP: (List Aab×List Aab×Int)->(Int->Option R)->(((Aab×Aab×Aab×Aab)->Option R)×(Unit->Option R)×Unit)->Int->Option R:=λ(a,b,c) d (f,g,_) h=>cd (h<c) (bnd (idx b h) λi=>bnd (idx a h) λj=>bnd (Ck n (i,j)) λl=>cnd l (d<|wr<|h+1)<|f (i,j,i,j))<|g ()
def JG:=qP lP
def Rt: Lc 100 0 0:=bE 0x10d840ee7ff53100eac423d1a492574f1e32e69748302a8fd9f38 C74 [] [Rw] @lP
def vS: (List Aab×List Aab)->((Bool->Option R)×((Aab×Aab×Aab×Aab)->Option R)×Unit)->Unit->Option R:=λ(a,b) (c,d,_) _=>cnd ((ln a) != (ln b)) (c false)<|bnd2 (JG n (b,a,(ln a)) 0) (λf=>d (f.1,f.2.1,f.2.2.1,f.2.2.2)) λg=>bnd (some g) λ_=>c true
def Cl:=BJ vS
def Rx: Ic:=bP 100 0 3 0x1b4068485f12615f03385397194b8778505e80e557639c8 C74 [⟨0,[Rt]⟩] [] @vS
def Rr: Lc 103 0 0:=bG 0x9bd0e5fa92b1839306eccd328b063 C74 [] [] @iW
def vP: (aP×aP)->((Bool->Option R)×Unit)->Unit->Option R:=λ(a,b) (c,_) _=>bnd (kG n (a,b)) λd=>cnd d (c true)<|c false
def Ci:=qR vP
def Ru: Ic:=bP 103 0 2 0x146cefa1ff483f53d684da33 C74 [⟨0,[Rr]⟩] [] @vP
def lO: (List aP×List aP×Int)->(Int->Option R)->(((aP×aP×aP×aP)->Option R)×(Unit->Option R)×Unit)->Int->Option R:=λ(a,b,c) d (f,g,_) h=>cd (h<c) (bnd (idx b h) λi=>bnd (idx a h) λj=>bnd (Ci n (i,j)) λl=>cnd l (d<|wr<|h+1)<|f (i,j,i,j))<|g ()
end
end
section
variable {R:Type}(n:Nat)
noncomputable section
def JF:=qP lO
def Rs: Lc 102 0 0:=bE 0x10d840ee7ff53100ea9f7e3ab405522c2c0c71e709cae51009f38 C74 [] [Ru] @lO
def vQ: (List aP×List aP)->((Bool->Option R)×((aP×aP×aP×aP)->Option R)×Unit)->Unit->Option R:=λ(a,b) (c,d,_) _=>cnd ((ln a) != (ln b)) (c false)<|bnd2 (JF n (b,a,(ln a)) 0) (λf=>d (f.1,f.2.1,f.2.2.1,f.2.2.2)) λg=>bnd (some g) λ_=>c true
def Cj:=BJ vQ
def Rv: Ic:=bP 102 0 3 0x1b4068323a1f174ddcbb985b90cab8599c32d2ad96589c8 C74 [⟨0,[Rs]⟩] [] @vQ
def wT: Nat->aM->aM->Option Bool
 | 0,_,_=>none
 | n+1,a,b=>bnd (eN n a.Faces b.Faces) λc=>cnd c (bnd2 (Cl n (a.Nodes,b.Nodes)) (λd=>cnd d (bnd2 (Cj n (a.Arcs,b.Arcs)) (λf=>cnd f (some true)<|some false) λg=>bnd (some g) λ_=>some false)<|some false) λh=>bnd (some h) λ_=>some false)<|some false
def OA: Kn:=bJ 56 0x35dae2d30 C74 [] [Rx,Rv] wT
abbrev C75:=OA::C74
def Eu(n:Nat): Int->((Bool->Option R)×Unit)->Unit->Option R:=λa (b,_) _=>cnd (a==1) (b true)<|cnd (a==3) (b true)<|b false
def wP:=fR Eu
def NR: Lc 36 0 1:=bG 0x1293a83445be5924f8454785f24 C75 [] [] @Eu
def Ev: aN->((aN->Option R)×Unit)->Unit->Option R:=λa (b,_) _=>bnd (wP n a.Kind) λc=>cnd c (b<|aN.mk a.Kind a.ID a.A a.B a.C (Aaa.mk 0 0) a.Via a.Name a.Parts)<|cnd (a.Kind==4) (b<|aN.mk a.Kind a.ID 0 0 0 a.At [] a.Name a.Parts)<|cnd (a.Kind==6) (b<|aN.mk a.Kind a.ID a.A a.B a.C a.At [] a.Name a.Parts)<|cnd (a.Kind==7) (b<|aN.mk a.Kind a.ID 0 0 a.C a.At a.Via (⟨#[]⟩:ByteArray) [])<|cnd (a.Kind==9) (b<|aN.mk a.Kind a.ID a.A a.B a.C a.At a.Via (⟨#[]⟩:ByteArray) a.Parts)<|cnd (a.Kind==10) (b<|aN.mk a.Kind a.ID a.A 0 a.C a.At a.Via a.Name a.Parts)<|cnd (a.Kind==11) (b<|aN.mk a.Kind a.ID a.A a.B a.C a.At a.Via a.Name [])<|cnd (a.Kind==12) (b<|aN.mk a.Kind a.ID 0 a.B a.C a.At a.Via a.Name a.Parts)<|b a
def wQ:=fR Ev
def NS: Lc 36 0 0:=bG 0xa89d19bfceb66a3c036ea01 C75 [⟨0,[cs NR]⟩] [] @Ev
def Et(n:Nat): aN->((Bool->Option R)×Unit)->Unit->Option R:=λa (b,_) _=>cnd (a.A != 0) (b true)<|cnd (a.B != 0) (b true)<|cnd (a.C != 0) (b true)<|cd (a.At=(Aaa.mk 0 0)) (cd ((ln a.Via) > 0) (b true)<|cd (a.Name=(⟨#[]⟩:ByteArray)) (cd ((ln a.Parts) > 0) (b true)<|b false)<|b true)<|b true
def wO:=fR Et
def NQ: Lc 36 0 2:=bG 0x7bf8f2 C75 [] [] @Et
def nC: Nat->aN->Option Bool
 | 0,_=>none
 | n+1,a=>bnd (wQ n a) λb=>bnd (wO n b) λc=>cnd c (some true)<|some false
def M8: Kn:=bJ 36 0x266bea9d2 C75 [⟨0,[NS]⟩,⟨2,[NQ]⟩] [] nC
abbrev C76:=M8::C75
def M2: Nat->Int->Option Bool
 | 0,_=>none
 | n+1,a=>cd (1<=a) (cd (a<=1073741824) (some true)<|some false)<|some false
def SQ: Kn:=bJ 72 0xc17 C76 [] [] M2
abbrev C77:=SQ::C76
def MM(n:Nat): (aJf×Aaa)->((Bool->Option R)×Unit)->Unit->Option R:=λ(a,b) (c,_) _=>cd (a.X0<=b.X) (cd (b.X<=a.X1) (cd (a.Y0<=b.Y) (cd (b.Y<=a.Y1) (c true)<|c false)<|c false)<|c false)<|c false
def J9:=fR MM
def aCf: Lc 106 0 0:=bG 0x2c84a9a8c56fe2b C77 [] [] @MM
def aCg: Nat->aJf->Aaa->Option Bool
 | 0,_,_=>none
 | n+1,a,b=>bnd (J9 n (a,b)) λc=>cnd c (some true)<|some false
def aID: Kn:=bJ 106 0x29dfedb0c802 C77 [⟨0,[aCf]⟩] [] aCg
abbrev C78:=aID::C77
def uP(n:Nat): Int->((Bool->Option R)×Unit)->Unit->Option R:=λa (b,_) _=>cd (1<=a) (cd (a<=1073741824) (b true)<|b false)<|b false
def eH:=qR uP
def SZ: Ic:=bP 72 0 1 0x2360b616e680c4305d7d1 C78 [] [] @uP
def uO: Aaa->((Bool->Option R)×Unit)->Unit->Option R:=λa (b,_) _=>bnd (aCg n (aJf.mk (-1048576) (-1048576) 1048576 1048576) a) λc=>cnd c (b false)<|b true
def iQ:=qR uO
def SY: Ic:=bP 73 0 2 0x2731fd58aa1321196c495adb903da4afcd3c6aa38 C78 [] [] @uO
def SV: Ic:=bP 73 4 2 0x40dd53a5f298163ad5c1321e78bbf4cd33f C78 [] [] @uO
def uN: (List Aaa×Int)->(Int->Option R)->((Int->Option R)×(Unit->Option R)×Unit)->Int->Option R:=λ(a,b) c (d,f,_) g=>cd (g<b) (bnd (idx a g) λh=>bnd (iQ n h) λi=>cnd i (d g)<|c<|wr<|g+1)<|f ()
def M4:=qP uN
def SS: Lc 107 0 0:=bE 0x18c33362c9c6747b624532227eb6c060410adcda0b4eda4173 C78 [] [SV] @uN
def Ip: (List Aaa)->((Int->Option R)×Unit)->Unit->Option R:=λa (b,_) _=>bnd2 (M4 n (a,(ln a)) 0) (λc=>b c) λd=>bnd (some d) λ_=>b (-1)
def Ra:=qR Ip
def SW: Ic:=bP 107 0 2 0x6b5296b62045057c6aedc9449b93f C78 [⟨0,[SS]⟩] [] @Ip
def Iq: (List Aaa)->((Bool->Option R)×Unit)->Unit->Option R:=λa (b,_) _=>bnd (Ra n a) λc=>cd (c>=0) (b true)<|b false
def iP:=qR Iq
def SX: Ic:=bP 74 0 2 0x6b52ac0b08a4864a5b6669449b93f C78 [] [SW] @Iq
def NE: Ic:=bP 72 4 1 0x23605f85156800f457973 C78 [] [] @uP
def Em: Int->((Bool->Option R)×Unit)->Unit->Option R:=λa (b,_) _=>bnd (eH n a) λc=>cnd c (b false)<|b true
def Mr:=qR Em
def NF: Ic:=bP 75 4 2 0xb192f55b99efe8674a7919f C78 [] [NE] @Em
def uM: (List Int×Int)->(Int->Option R)->((Int->Option R)×(Unit->Option R)×Unit)->Int->Option R:=λ(a,b) c (d,f,_) g=>cd (g<b) (bnd (idx a g) λh=>bnd (Mr n h) λi=>cnd i (d g)<|c<|wr<|g+1)<|f ()
def M3:=qP uM
def SR: Lc 108 0 0:=bE 0x1fdaf0c9a43c4bce3988bcac60b978addd5e9bc2b5731af C78 [] [NF] @uM
def Im: (List Int)->((Int->Option R)×Unit)->Unit->Option R:=λa (b,_) _=>bnd2 (M3 n (a,(ln a)) 0) (λc=>b c) λd=>bnd (some d) λ_=>b (-1)
def Qz:=qR Im
def ST: Ic:=bP 108 0 2 0x6b4e49ead17fbf29df9f4dbe5419f C78 [⟨0,[SR]⟩] [] @Im
def Io: (List Int)->((Bool->Option R)×Unit)->Unit->Option R:=λa (b,_) _=>bnd (Qz n a) λc=>cd (c>=0) (b true)<|b false
def iN:=qR Io
def SU: Ic:=bP 76 0 2 0x6b4d2e34beeff476e15afdbe5419f C78 [] [ST] @Io
def El(n:Nat): Int->((Bool->Option R)×Unit)->Unit->Option R:=λa (b,_) _=>cnd (a==7) (b true)<|cnd (a==10) (b true)<|b false
def Mq:=fR El
def ND: Lc 37 0 0:=bG 0x5c137ef4bbfbd343ffb0c49443def747 C78 [] [] @El
def Ek(n:Nat): aN->((Bool->Option R)×Unit)->Unit->Option R:=λa (b,_) _=>cd (a.B<1) (b true)<|cd (a.B > 9) (b true)<|b false
def Mp:=fR Ek
def NC: Lc 37 0 1:=bG 0x8bdbf0099f4f36397c1932c35b308b71e6a3ccb800a158 C78 [] [] @Ek
def Rb: Nat->aN->Option Bool
 | 0,_=>none
 | n+1,a=>cnd (a.Kind==4) (bnd (eH n a.A) λb=>cnd b (bnd (eH n a.B) λc=>cnd c (bnd (eH n a.ID) λd=>cnd d (cd (a.C<(-1073741824)) (some false)<|cd (a.C > 1073741824) (some false)<|bnd (iQ n a.At) λf=>cnd f (some false)<|bnd (iP n a.Via) λg=>cnd g (some false)<|bnd (iN n a.Parts) λh=>cnd h (some false)<|some true)<|some false)<|some false)<|some false)<|cnd (a.Kind==12) (bnd (eH n a.A) λi=>cnd i (bnd (eH n a.ID) λj=>cnd j (cd (a.C<(-1073741824)) (some false)<|cd (a.C > 1073741824) (some false)<|bnd (iQ n a.At) λl=>cnd l (some false)<|bnd (iP n a.Via) λm=>cnd m (some false)<|bnd (iN n a.Parts) λo=>cnd o (some false)<|some true)<|some false)<|some false)<|bnd (Mq n a.Kind) λr=>cnd r (bnd (Mp n a) λs=>cnd s (some false)<|bnd (eH n a.ID) λt=>cnd t (cd (a.C<(-1073741824)) (some false)<|cd (a.C > 1073741824) (some false)<|bnd (iQ n a.At) λu=>cnd u (some false)<|bnd (iP n a.Via) λv=>cnd v (some false)<|bnd (iN n a.Parts) λw=>cnd w (some false)<|some true)<|some false)<|bnd (eH n a.ID) λx=>cnd x (cd (a.C<(-1073741824)) (some false)<|cd (a.C > 1073741824) (some false)<|bnd (iQ n a.At) λy=>cnd y (some false)<|bnd (iP n a.Via) λz=>cnd z (some false)<|bnd (iN n a.Parts) λa0=>cnd a0 (some false)<|some true)<|some false
def U6: Kn:=bJ 37 0x266bea9d2 C78 [⟨0,[ND]⟩,⟨1,[NC]⟩] [SZ,SY,SX,SU] Rb
abbrev C79:=U6::C78
def Nb(n:Nat): aN->((Bool->Option R)×Unit)->Unit->Option R:=λa (b,_) _=>cd (a.Kind<1) (b true)<|cd (a.Kind > 12) (b true)<|b false
def EK:=fR Nb
def u6: Lc 13 0 0:=bG 0x77d825151 C79 [] [] @Nb
def Na: aN->((Bool->Option R)×Unit)->Unit->Option R:=λa (b,_) _=>cnd (a.Kind==7) (bnd (cL n a.A) λc=>cnd (c==0) (b true)<|b false)<|b false
def EJ:=fR Na
def u5: Lc 13 0 1:=bG 0x77dd2b961 C79 [] [] @Na
def Mz(n:Nat): aN->((Bool->Option R)×Unit)->Unit->Option R:=λa (b,_) _=>cd ((ln a.Via) > 64) (b true)<|cd ((ln a.Parts) > 64) (b true)<|b false
def EI:=fR Mz
def t9: Lc 13 0 2:=bG 0x5d26d1c48f81 C79 [] [] @Mz
def My: aN->((Bool->Option R)×Unit)->Unit->Option R:=λa (b,_) _=>cd (a.Name=(⟨#[]⟩:ByteArray)) (b false)<|bnd (zZ n a.Name) λc=>cnd (c != 0) (b true)<|b false
def EH:=fR My
def t8: Lc 13 0 3:=bG 0x3fc483f77ac1 C79 [] [] @My
def JA: Nat->aN->Option Int
 | 0,_=>none
 | n+1,a=>bnd (EK n a) λb=>cnd b (some 9)<|bnd (EJ n a) λc=>cnd c (some 9)<|bnd (nC n a) λd=>cnd d (some 1)<|bnd (EI n a) λf=>cnd f (some 3)<|bnd (Rb n a) λg=>cnd g (bnd (vO n a.Parts) λh=>cnd h (bnd (EH n a) λi=>cnd i (some 14)<|some 0)<|some 10)<|some 2
def aCu: Kn:=bJ 13 0x2a15bbad2 C79 [⟨0,[u6]⟩,⟨1,[u5]⟩,⟨2,[t9]⟩,⟨3,[t8]⟩] [] JA
abbrev C80:=aCu::C79
def sC: Nat->(List Aab)->Option (List Aab)
 | 0,_=>none
 | n+1,a=>bnd (rep (Aab.mk 0<|Aaa.mk 0 0) (ln a)<|ln a) λb=>bnd (cpy b (0,List.length b) a) λc=>bnd (Nq true) λ_=>some c
def UN: Kn:=bJ 83 0x34b3caccc421798 C80 [] [] sC
abbrev C81:=UN::C80
def oJ: Nat->(List aP)->Option (List aP)
 | 0,_=>none
 | n+1,a=>bnd (rep (aP.mk 0 0 0 [] 0 0) (ln a)<|ln a) λb=>bnd (cpy b (0,List.length b) a) λc=>bnd (Nq true) λ_=>some c
def r7: Kn:=bJ 84 0x34b319b74094052 C81 [] [] oJ
abbrev C82:=r7::C81
def gW: Nat->(List Int)->Option (List Int)
 | 0,_=>none
 | n+1,a=>bnd (rep 0 (ln a)<|ln a) λb=>bnd (cpy b (0,List.length b) a) λc=>some c
def r6: Kn:=bJ 85 0x35e1da633c53 C82 [] [] gW
abbrev C83:=r6::C82
def kR: Nat->(List aD)->Option (List aD)
 | 0,_=>none
 | n+1,a=>bnd (rep (aD.mk 0 0 0 (⟨#[]⟩:ByteArray) []) (ln a)<|ln a) λb=>bnd (cpy b (0,List.length b) a) λc=>bnd (Nq true) λ_=>some c
def CZ: Kn:=bJ 86 0x28f678b0d7b5f0ea56 C83 [] [] kR
abbrev C84:=CZ::C83
def jO: Nat->(List Aaa)->Option (List Aaa)
 | 0,_=>none
 | n+1,a=>bnd (rep (Aaa.mk 0 0) (ln a)<|ln a) λb=>bnd (cpy b (0,List.length b) a) λc=>some c
def NP: Kn:=bJ 87 0x14841c5a0d7ac51 C84 [] [] jO
abbrev C85:=NP::C84
def oP: (List Int×List Aab×List aD×Int)->((List aP×Int)->Option R)->(((List aP)->Option R)×Unit)->(List aP×Int)->Option R:=λ(a,b,c,d) f (g,_) (h,i)=>cd (i<d) (bnd (iL h (List.length h) i) λ_=>bnd (idx h i) λj=>bnd (jO n j.Via) λl=>bnd (iL h (List.length h) i) λ_=>bnd (idx h i) λm=>f ((List.set h (Int.toNat i)<|aP.mk m.ID m.From m.To l m.Left m.Right),(wr<|i+1)))<|g h
def EG:=oH oP
def s7: Lc 50 0 0:=bE 0x83fcb1808062979c1fed631efff59d6445850645f34ebc0e1fdc366a7e0d17a8b04 C85 [] [] @oP
def oO: (List Int×List Aab×List aP×Int)->((List aD×Int)->Option R)->(((List aD)->Option R)×Unit)->(List aD×Int)->Option R:=λ(a,b,c,d) f (g,_) (h,i)=>cd (i<d) (bnd (iL h (List.length h) i) λ_=>bnd (idx h i) λj=>bnd (gW n j.Parts) λl=>bnd (iL h (List.length h) i) λ_=>bnd (idx h i) λm=>f ((List.set h (Int.toNat i)<|aD.mk m.ID m.Kind m.Class m.Name l),(wr<|i+1)))<|g h
def EF:=oH oO
def s6: Lc 50 0 1:=bE 0x251ef05356f3549ebe3e0e208b928173a19ba4b2e95b0132f2dcf88bb5757b5f1e6b6dd04 C85 [] [] @oO
def aFP: Nat->aJ->Option aJ
 | 0,_=>none
 | n+1,a=>bnd (sC n a.Plan.Nodes) λb=>bnd (oJ n a.Plan.Arcs) λc=>bnd (gW n a.Plan.Faces) λd=>bnd (kR n a.Features) λf=>bnd (EG n (d,b,f,(ln c)) (c,0)) λg=>bnd (EF n (d,b,g,(ln f)) (f,0)) λh=>some<|aJ.mk (aM.mk b g d) h
def aCr: Kn:=bJ 50 0x1a64796450c2 C85 [⟨0,[s7]⟩,⟨1,[s6]⟩] [] aFP
abbrev C86:=aCr::C85
def M6: Nat->Aab->Int->Option Int
 | 0,_,_=>none
 | n+1,a,b=>bnd (cE n a.ID b) λc=>some c
def UK: Kn:=bJ 118 0x57a0a6 C86 [] [] M6
abbrev C87:=UK::C86
def Iy: (Aab×Int)->((Int->Option R)×Unit)->Unit->Option R:=λ(a,b) (c,_) _=>bnd (cE n a.ID b) λd=>c d
def lM:=qR Iy
def Ix: Ic:=bP 118 0 2 0xe48f19f8dfb7dbe0edb4 C87 [] [] @Iy
def uQ: (List Aab×Int)->((Int×Int)->Option R)->((Int->Option R)×Unit)->(Int×Int)->Option R:=λ(a,b) c (d,_) (f,g)=>cd (f<g) (bnd (idx a<|wr<|Int.fdiv (IntKind.u64.wrap<|wr<|f+g) 2) λh=>bnd (lM n (h,b)) λi=>cd (i<0) (c ((wr<|(wr<|Int.fdiv (IntKind.u64.wrap<|wr<|f+g) 2)+1),g))<|c (f,(wr<|Int.fdiv (IntKind.u64.wrap<|wr<|f+g) 2)))<|d f
def M7:=oH uQ
def UL: Lc 117 0 0:=bE 0x548992fa98bad6bb5ee13570daf53a7fcb9038b9cf651a51a259 C87 [] [Ix] @uQ
def Iz: (List Aab×Int)->(((Aab×Int×Bool)->Option R)×(Int->Option R)×Unit)->Unit->Option R:=λ(a,b) (c,d,_) _=>bnd (M7 n (a,b) (0,(ln a))) λf=>cd (f<(ln a)) (bnd (idx a f) λg=>bnd (lM n (g,b)) λh=>cnd (h==0) (c (g,f,true))<|c (g,f,false))<|d f
def Cf:=BJ Iz
def UM: Ic:=bP 117 0 3 0x5ac186842618cda1d17f1f6e34e790723fb6fff1f8e9 C87 [⟨0,[UL]⟩] [Ix] @Iz
def lN: Nat->aJ->Int->Option (Int×Bool)
 | 0,_,_=>none
 | n+1,a,b=>bnd2 (Cf n (a.Plan.Nodes,b)) (λc=>cnd c.2.2 (some (c.2.1,true))<|some (c.2.1,false)) λd=>bnd (some d) λf=>some (f,false)
def U7: Kn:=bJ 88 0x8f9745 C87 [] [UM] lN
abbrev C88:=U7::C87
def Ak: (aD×Int×Int)->((Bool->Option R)×Unit)->Unit->Option R:=λ(a,b,c) (d,_) _=>bnd (cL n a.Kind) λf=>cnd (f==b) (bnd (dU n a.Parts c) λg=>cnd g (d true)<|d false)<|d false
def SC:=fR Ak
def FZ: Lc 91 0 1:=bG 0xc1bea798a09b3752071ebefd540668a060a8380a1dc4b6aa44894d5248 C88 [] [] @Ak
def Al: (Int×Int×List aD×Int)->((List Int×Int)->Option R)->(((List Int)->Option R)×Unit)->(List Int×Int)->Option R:=λ(a,b,c,d) f (g,_) (h,i)=>cd (i<d) (bnd (idx c i) λj=>bnd (SC n (j,a,b)) λl=>cnd l (bnd (app h [j.ID]) λm=>f (m,(wr<|i+1)))<|f (h,(wr<|i+1)))<|g h
def SD:=oH Al
def GA: Lc 91 0 0:=bE 0x14ce76c5970b029f1b437410cda66f2962ce65165075ae2803981da4 C88 [⟨0,[cs FZ]⟩] [] @Al
def oI: Nat->aJ->Int->Int->Option (List Int)
 | 0,_,_,_=>none
 | n+1,a,b,c=>cd (b<1) (some [])<|cd (b > 3) (some [])<|bnd (SD n (b,c,a.Features,(ln a.Features)) ([],0)) λd=>some d
def o8: Kn:=bJ 91 0x194e49283b355b3721653 C88 [⟨0,[GA]⟩] [] oI
abbrev C89:=o8::C88
def V1: Nat->aP->Int->Option Int
 | 0,_,_=>none
 | n+1,a,b=>bnd (cE n a.ID b) λc=>some c
def s9: Kn:=bJ 127 0x57a23e C89 [] [] V1
abbrev C90:=s9::C89
def Mw: (aP×Int)->((Int->Option R)×Unit)->Unit->Option R:=λ(a,b) (c,_) _=>bnd (cE n a.ID b) λd=>c d
def oK:=qR Mw
def Mv: Ic:=bP 127 0 2 0xe48f19f8dfb895fde1b4 C90 [] [] @Mw
def wR: (List aP×Int)->((Int×Int)->Option R)->((Int->Option R)×Unit)->(Int×Int)->Option R:=λ(a,b) c (d,_) (f,g)=>cd (f<g) (bnd (idx a<|wr<|Int.fdiv (IntKind.u64.wrap<|wr<|f+g) 2) λh=>bnd (oK n (h,b)) λi=>cd (i<0) (c ((wr<|(wr<|Int.fdiv (IntKind.u64.wrap<|wr<|f+g) 2)+1),g))<|c (f,(wr<|Int.fdiv (IntKind.u64.wrap<|wr<|f+g) 2)))<|d f
def V2:=oH wR
def t5: Lc 126 0 0:=bE 0x548992fa98bad6bb5eea3a07b7b07a4e8889983608a9fd8ab559 C90 [] [Mv] @wR
def Mx: (List aP×Int)->(((aP×Int×Bool)->Option R)×(Int->Option R)×Unit)->Unit->Option R:=λ(a,b) (c,d,_) _=>bnd (V2 n (a,b) (0,(ln a))) λf=>cd (f<(ln a)) (bnd (idx a f) λg=>bnd (oK n (g,b)) λh=>cnd (h==0) (c (g,f,true))<|c (g,f,false))<|d f
def Gg:=BJ Mx
def t6: Ic:=bP 126 0 3 0x74c05ab6dd6416bb06b9433230fa310dae32b0be9 C90 [⟨0,[t5]⟩] [Mv] @Mx
def uR: Nat->aJ->Int->Option (Int×Bool)
 | 0,_,_=>none
 | n+1,a,b=>bnd2 (Gg n (a.Plan.Arcs,b)) (λc=>cnd c.2.2 (some (c.2.1,true))<|some (c.2.1,false)) λd=>bnd (some d) λf=>some (f,false)
def aCt: Kn:=bJ 94 0x8f9745 C90 [] [t6] uR
abbrev C91:=aCt::C90
def aOI: Kn:=aRq 172 0 8 ⟨_,_,_,rfl,by decide,by decide⟩ (λn p=>clF n p) (λp=>p) λn p r h=>by obtain⟨m,h1,h2,h3⟩:=aRs h;subst h2;exact⟨m,h1,rfl,h3,rfl,λe=>by cases (e:_=[]);rfl⟩
abbrev C92:=aOI::C91
def tQ: (List Int×List Aab×List aP×Int)->((List aP×Int)->Option R)->(((List aP)->Option R)×Unit)->(List aP×Int)->Option R:=λ(a,b,c,d) f (g,_) (h,i)=>cd (i<d) (bnd (idx c i) λj=>bnd (clF n j.Via) λl=>bnd (app h [(aP.mk j.ID j.From j.To l 0 0)]) λm=>f (m,(wr<|i+1)))<|g h
def Oz:=oH tQ
def PX: Lc 147 0 0:=bE 0x3918a37e5cad1436bc036a0b506ca5c0cdc096ede1229f574a192791491f5699e5a63985c064 C92 [] [] @tQ
def aDq: Nat->aM->Option aM
 | 0,_=>none
 | n+1,a=>bnd (clF n a.Nodes) λb=>bnd (Oz n ([],b,a.Arcs,(ln a.Arcs)) ([],0)) λc=>some<|aM.mk b c []
def S5: Kn:=bJ 147 0x9a3044e78f76c036e569a02 C92 [⟨0,[PX]⟩] [] aDq
abbrev C93:=S5::C92
def Me(n:Nat): (Int×Int)->((Bool->Option R)×Unit)->Unit->Option R:=λ(a,b) (c,_) _=>cd ((uF b<|wr<|0-b)<(uF a<|wr<|0-a)) (c true)<|cnd (b==(wr<|0-a)) (cd (b > 0) (c true)<|c false)<|c false
def S0:=fR Me
def i5: Lc 173 0 1:=bG 0x478948a4660531087a4e0168ebc5dd7a4a0 C93 [] [] @Me
def Mf: (List Int×Int)->((Int×Int)->Option R)->((Int->Option R)×Unit)->(Int×Int)->Option R:=λ(a,b) c (d,_) (f,g)=>cd (g<b) (bnd (idx a g) λh=>bnd (S0 n (f,h)) λi=>cnd i (c (h,(wr<|g+1)))<|c (f,(wr<|g+1)))<|d f
def S4:=oH Mf
def i6: Lc 173 0 0:=bE 0xfd1dcf602e1c62634a511b62d2 C93 [⟨0,[cs i5]⟩] [] @Mf
def EZ: Nat->(List Int)->Option Int
 | 0,_=>none
 | n+1,a=>bnd (idx a 0) λb=>bnd (S4 n (a,(ln a)) (b,0)) λc=>some c
def aB1: Kn:=bJ 173 0x3628cf C93 [⟨0,[i6]⟩] [] EZ
abbrev C94:=aB1::C93
def Nd(n:Nat): (List Int×Int)->(Int->Option R)->((Int->Option R)×(Unit->Option R)×Unit)->Int->Option R:=λ(a,b) c (d,f,_) g=>cd (g<b) (bnd (idx a g) λh=>cnd (h != 0) (d h)<|c<|wr<|g+1)<|f ()
def V3:=qP Nd
def u9: Lc 70 0 0:=bE 0x28fac6efc6ec2e29eae28036d09eeb23f17d9ea1da12 C94 [] [] @Nd
def JC: Nat->(List Int)->Option Int
 | 0,_=>none
 | n+1,a=>bnd2 (V3 n (a,(ln a)) 0) (λb=>some b) λc=>bnd (some c) λ_=>some 0
def aCw: Kn:=bJ 70 0x3628cf C94 [⟨0,[u9]⟩] [] JC
abbrev C95:=aCw::C94
def zK: Nat->Int->Int->Option Int
 | 0,_,_=>none
 | n+1,a,b=>bnd (cE n (uF a<|wr<|0-a)<|uF b<|wr<|0-b) λc=>bnd (cE n b a) λd=>bnd (JC n [c,d]) λf=>some f
def Oy: Kn:=bJ 174 0x2925654deda6703 C95 [] [] zK
abbrev C96:=Oy::C95
def Mi: Nat->dS->dS->Option Int
 | 0,_,_=>none
 | n+1,a,b=>bnd (EZ n a.outer) λc=>bnd (EZ n b.outer) λd=>bnd (zK n c d) λf=>some f
def KY: Kn:=bJ 149 0x417351ddff140a2 C96 [] [] Mi
abbrev C97:=KY::C96
def LE: Lc 147 2 0:=bE 0x6699a8792574a3782c451b8cd1ff0f947d0b266a50f0be7c05e13023d662a05c8598f7 C97 [] [] @tQ
def Dq: aM->(((List aP×List Int×List Aab×List Aab)->Option R)×Unit)->Unit->Option R:=λa (b,_) _=>bnd (clF n a.Nodes) λc=>bnd (Oz n ([],c,a.Arcs,(ln a.Arcs)) ([],0)) λd=>b (d,[],c,c)
def k8:=qR Dq
def LF: Ic:=bP 147 2 1 0x28db88099f46f9e1ddeeaa95fef3568f083c6899652c5470cd1d33e3c7e5f70cfcb8fb3d10ee578 C97 [⟨0,[LE]⟩] [] @Dq
def Dn(n:Nat): (Int×List Int×Int)->(((List<|Int×Int)×Int)->Option R)->((((List<|Int×Int))->Option R)×Unit)->((List<|Int×Int)×Int)->Option R:=λ(a,b,c) d (f,_) (g,h)=>cd (h<c) (bnd (idx b h) λi=>d ((dX g i<|wr<|a+1),(wr<|h+1)))<|f g
def j8:=oH Dn
def LA: Lc 121 0 2:=bE 0xb4342b90bd83f027528f40694e11ea161a95ed19dda1ca483de39abaf1b3b156da905850374 C97 [] [] @Dn
def Do: (Int×(List<|List Int)×Int)->(((List<|Int×Int)×Int)->Option R)->((((List<|Int×Int))->Option R)×Unit)->((List<|Int×Int)×Int)->Option R:=λ(a,b,c) d (f,_) (g,h)=>cd (h<c) (bnd (idx b h) λi=>bnd (j8 n (a,i,(ln i)) (g,0)) λj=>d (j,(wr<|h+1)))<|f g
def j9:=oH Do
def LB: Lc 121 0 1:=bE 0xcfa23e876063b4d0e98d7bd2fa3ae871bfec2501e98351d3cdc41029f0374 C97 [⟨0,[cs LA]⟩] [] @Do
def Dp: (List aP×List Aab×List Aab×List dS×(Nat×Nat)×Int)->((List Int×(List<|Int×Int)×Int)->Option R)->(((List Int×(List<|Int×Int))->Option R)×Unit)->(List Int×(List<|Int×Int)×Int)->Option R:=λ(a,b,c,d,f,g) h (i,_) (j,l,m)=>cd (m<g) (bnd (idx (win d<|some f) m) λ_=>bnd (idx d<|m+((f.1:Nat):Int)) λo=>bnd (app j [(wr<|m+1)]) λr=>bnd (fX n o) λs=>bnd (j9 n (m,s,(ln s)) (l,0)) λt=>h (r,t,(wr<|m+1)))<|i (j,l)
def k7:=oH Dp
def LD: Lc 121 0 0:=bE 0x1326429971ea55db624adc4708393d5cd8e07aacd30bd24b10389d19932f6032b78c3ed8f48b7267411efd51de1050803fff8e4ae49c88451e41329a9b14bdd525b2efbc84d1059aebcad3e1 C97 [⟨0,[cs LB]⟩] [] @Dp
def Dm(n:Nat): (List Int×List Aab×List Aab×(List<|Int×Int)×Int)->((List aP×Int)->Option R)->(((List aP)->Option R)×Unit)->(List aP×Int)->Option R:=λ(a,b,c,d,f) g (h,_) (i,j)=>cd (j<f) (bnd (iL i (List.length i) j) λ_=>bnd (idx i j) λl=>bnd (iL i (List.length i) j) λ_=>bnd (idx i j) λm=>bnd (iL (List.set i (Int.toNat j)<|aP.mk m.ID m.From m.To m.Via (Option.getD (bQ d l.ID) 0) m.Right) (List.length<|List.set i (Int.toNat j)<|aP.mk m.ID m.From m.To m.Via (Option.getD (bQ d l.ID) 0) m.Right) j) λ_=>bnd (idx (List.set i (Int.toNat j)<|aP.mk m.ID m.From m.To m.Via (Option.getD (bQ d l.ID) 0) m.Right) j) λo=>g ((List.set (List.set i (Int.toNat j)<|aP.mk m.ID m.From m.To m.Via (Option.getD (bQ d l.ID) 0) m.Right) (Int.toNat j)<|aP.mk o.ID o.From o.To o.Via o.Left<|Option.getD (bQ d<|wr<|0-l.ID) 0),(wr<|j+1)))<|h i
def j7:=oH Dm
def KZ: Lc 121 0 3:=bE 0xedb3b764955904d00a00c44fe1a670d47679ac73648bcbfa931b2eb9baf419cbd173f719b8ada7acd413f7efdf9c30d2a550f8c912b35186a17c61d1a1 C97 [] [] @Dm
def LG: Nat->aM->Option (aM×Int)
 | 0,_=>none
 | n+1,a=>bnd (k8 n a) λb=>bnd (Dg n<|aM.mk b.2.2.2 b.1 b.2.1) λc=>cnd (c.2 != 0) (some ((aM.mk [] [] []),c.2))<|bnd (qH n<|aM.mk b.2.2.2 b.1 b.2.1) λd=>bnd (jR n (aM.mk b.2.2.2 b.1 b.2.1) c.1 d) λf=>bnd (sub f (0,List.length f) 1<|ln f) λg=>cd (((g.2:Nat):Int) > 64) (some ((aM.mk [] [] []),3))<|bnd (prd n) λh=>bnd (Nq<|decide<|List.length f<=1000000/\g.1+g.2<=List.length f) λ_=>bnd (qB (λ(i j:dS)=>bnd (Mi h i j) λl=>some l)<|win f<|some g) λm=>bnd (k7 n (b.1,b.2.2.1,b.2.2.2,(aV f g.1 m),g,((g.2:Nat):Int)) (b.2.1,[],0)) λo=>bnd (j7 n (o.1,b.2.2.1,b.2.2.2,o.2,(ln b.1)) (b.1,0)) λr=>some ((aM.mk b.2.2.2 r o.1),0)
def D8: Kn:=bJ 121 0x719ddd99a2eb460a2 C97 [⟨0,[LD]⟩,⟨3,[KZ]⟩] [LF] LG
abbrev C98:=D8::C97
def kL: Nat->eR->eR->Option Int
 | 0,_,_=>none
 | n+1,a,b=>bnd (cE n a.Face b.Face) λc=>some c
def AP: Kn:=bJ 151 0x41735708ba99972 C98 [] [] kL
abbrev C99:=AP::C98
def nK(n:Nat): (List Int×List dS×Int)->((List eR×Int)->Option R)->(((List eR)->Option R)×Unit)->(List eR×Int)->Option R:=λ(a,b,c) d (f,_) (g,h)=>cd (h<c) (bnd (idx b h) λi=>bnd (idx a h) λj=>bnd (app g [(eR.mk j i.outer i.inner i.alone)]) λl=>d (l,(wr<|h+1)))<|f g
def KX:=oH nK
def AQ: Lc 122 0 0:=bE 0x798dd02127f7167a40850b856120813dc0ed6c0b874bb827a38b67c21e7a6552bf4 C99 [] [] @nK
def kZ: Nat->aM->Option (List eR×Int)
 | 0,_=>none
 | n+1,a=>bnd (vI n a) λb=>cnd (b.2.2.2 != 0) (some ([],b.2.2.2))<|bnd (KX n (b.2.1,b.1,(ln b.1)) ([],0)) λc=>bnd (prd n) λd=>bnd (Nq<|decide<|List.length c<=1000000) λ_=>bnd (qB (λ(f g:eR)=>bnd (kL d f g) λh=>some h) c) λi=>some (i,0)
def PY: Kn:=bJ 122 0x2c22c73940ad2f3 C99 [⟨0,[AQ]⟩] [] kZ
abbrev aRS:=PY::C99
def Mu(n:Nat): ((List<|List Int)×Int)->((List Int×Int)->Option R)->(((List Int)->Option R)×Unit)->(List Int×Int)->Option R:=λ(a,b) c (d,_) (f,g)=>cd (g<b) (bnd (idx a g) λh=>bnd (app f h) λi=>c (i,(wr<|g+1)))<|d f
def V0:=oH Mu
def s8: Lc 124 0 0:=bE 0x2fa8926360ca1a2c266db2b09aadeca6a69764 aRS [] [] @Mu
def IZ: Nat->eR->Option (List Int)
 | 0,_=>none
 | n+1,a=>bnd (app ([]:List Int) a.Outer) λb=>bnd (V0 n (a.Inner,(ln a.Inner)) (b,0)) λc=>some c
def aCs: Kn:=bJ 124 0x208e9381ee374d61d3 aRS [⟨0,[s8]⟩] [] IZ
abbrev aMs:=aCs::aRS
def Ij(n:Nat): (Int×Int)->((Bool->Option R)×Unit)->Unit->Option R:=λ(a,b) (c,_) _=>cnd (b != a) (cnd (b != (wr<|0-a)) (c true)<|c false)<|c false
def L8:=fR Ij
def SN: Lc 123 0 2:=bG 0x2382f9241dc955b15d1079a0f54266b8b9c01c1bb0e19b2758 aMs [] [] @Ij
def Ik: (aM×Int×List Int×Int)->(Int->Option R)->((Int->Option R)×(Unit->Option R)×Unit)->Int->Option R:=λ(a,b,c,d) f (g,h,_) i=>cd (i<d) (bnd (idx c i) λj=>bnd (L8 n (b,j)) λl=>cnd l (bnd (yQ n a j) λm=>g m)<|f<|wr<|i+1)<|h ()
def L9:=qP Ik
def SO: Lc 123 0 1:=bE 0x47b1a334c069dc02f7069bc07f7476ae5d65e5f515ecdce892f1be0727403fc9689 aMs [⟨0,[cs SN]⟩] [] @Ik
def Il: (aM×Int×List eR×Int)->(Int->Option R)->(((eR×Int)->Option R)×(Unit->Option R)×Unit)->Int->Option R:=λ(a,b,c,d) f (g,h,_) i=>cd (i<d) (bnd (idx c i) λj=>bnd (IZ n j) λl=>bnd2 (L9 n (a,b,l,(ln l)) 0) (λm=>g (j,m)) λo=>bnd (some o) λ_=>f<|wr<|i+1)<|h ()
def M0:=qP Il
def SP: Lc 123 0 0:=bE 0x23e28dd4f4140e8a4ff0581f96544c50b58bc1c33113 aMs [⟨0,[cs SO]⟩] [] @Il
def a7: Nat->aM->Int->(List eR)->Option Int
 | 0,_,_,_=>none
 | n+1,a,b,c=>bnd2 (M0 n (a,b,c,(ln c)) 0) (λd=>some d.2) λf=>bnd (some f) λ_=>some 0
def U5: Kn:=bJ 123 0x4aebb4a34c33 aMs [⟨0,[SP]⟩] [] a7
abbrev aU4:=U5::aMs
def i4: Nat->(List Int)->Int->Option (List Int)
 | 0,_,_=>none
 | n+1,_,a=>cd (a<0) none none
def KM: Kn:=bJ 191 0x4550cc444 aU4 [] [] i4
abbrev aJm:=KM::aU4
def qE(n:Nat): ((List<|List Int)×Int)->((Int×Int)->Option R)->((Int->Option R)×Unit)->(Int×Int)->Option R:=λ(a,b) c (d,_) (f,g)=>cd (g<b) (bnd (idx a g) λh=>cd ((wr<|f+(ln h))<0) none<|c ((wr<|f+(ln h)),(wr<|g+1)))<|d f
def Ot:=oH qE
def Kd: Lc 185 0 0:=bE 0x1ecce62c0a5b9bc2603429f633ac62d2 aJm [] [] @qE
def qF(n:Nat): Int->((Unit->Option R)×((List Int×(Nat×Nat))->Option R)×Unit)->Unit->Option R:=λa (b,c,_) _=>cd (a<0) none<|cd ((wr<|a-0) > 0) (bnd (rep 0 (wr<|a-0)<|wr<|a-0) λd=>cnd (List.isEmpty d) (b ())<|bnd (sub d (0,List.length d) 0 0) λf=>c (d,f))<|b ()
def Ou:=BJ qF
def Ke: Ic:=bP 191 0 2 0x900e44abecd1e6574327357991e83e89 aJm [] [] @qF
def qD(n:Nat): ((List<|List Int)×Int)->(Int->Option R)->((Unit->Option R)×Unit)->Int->Option R:=λ(a,b) c (d,_) f=>cd (f<b) (bnd (idx a f) λg=>cnd (List.isEmpty g) (c<|wr<|f+1)<|bnd (app ([]:List Int) g) λ_=>none)<|d ()
def Oq:=oH qD
def Kc: Lc 185 0 1:=bE 0x6ffac6029107de538cd3069035d8a36ae43 aJm [] [] @qD
def qC(n:Nat): ((List<|List Int)×Int)->((List Int×(Nat×Nat)×Int)->Option R)->(((List Int×(Nat×Nat))->Option R)×Unit)->(List Int×(Nat×Nat)×Int)->Option R:=λ(a,b) c (d,_) (f,g,h)=>cd (h<b) (bnd (idx a h) λi=>bnd (V6 f g i) λj=>c (j,(g.1,g.2+List.length i),(wr<|h+1)))<|d (f,g)
def Oo:=oH qC
def Kb: Lc 185 0 1:=bE 0x142d6f14088cca275208b638af3 aJm [] [] @qC
def Dj: Nat->(List<|List Int)->Option (List Int)
 | 0,_=>none
 | n+1,a=>bnd (Ot n (a,(ln a)) (0,0)) λb=>bnd2 (Ou n b) (λ_=>bnd (Oq n (a,(ln a)) 0) λ_=>bnd (Nq true) λ_=>some []) λc=>bnd (some c) λd=>bnd (Oo n (a,(ln a)) (d.1,d.2,0)) λf=>bnd (Nq<|decide<|f.2=(0,List.length f.1)) λ_=>some<|win f.1<|some f.2
def AM: Kn:=bJ 185 0x34b388d9c0d2ce2 aJm [⟨0,[Kd]⟩,⟨1,[Kc,Kb]⟩] [Ke] Dj
abbrev aMr:=AM::aJm
def Ab(n:Nat): ((Nat×Nat))->((List Int×Int×Int)->Option R)->(((List Int×Int)->Option R)×Unit)->(List Int×Int×Int)->Option R:=λa b (c,_) (d,f,g)=>cd (g<((a.2:Nat):Int)) (bnd (idx (win d<|some a) g) λ_=>bnd (idx d<|g+((a.1:Nat):Int)) λh=>bnd (idx (win d<|some a)<|wr<|g-1) λ_=>bnd (idx d<|(wr<|g-1)+((a.1:Nat):Int)) λi=>cnd (h != i) (bnd (idx (win d<|some a) g) λ_=>bnd (idx d<|g+((a.1:Nat):Int)) λj=>bnd (iL d (List.length d) f) λ_=>bnd (idx d f) λ_=>b ((List.set d (Int.toNat f) j),(wr<|f+1),(wr<|g+1)))<|b (d,f,(wr<|g+1)))<|c (d,f)
def RK:=oH Ab
def FQ: Lc 186 0 1:=bE 0x2b09b47d4f9b9c065632da5245479a58bdd9d1dead0c52aa42 aMr [] [] @Ab
def Ac: (List Int)->(Int->Option R)->(((List Int×(Nat×Nat))->Option R)×(Unit->Option R)×Unit)->Int->Option R:=λa b (c,d,_) f=>cd (f<(ln a)) (bnd (iL a (List.length a) f) λ_=>bnd (idx a f) λg=>bnd (iL a (List.length a)<|wr<|f-1) λ_=>bnd (idx a<|wr<|f-1) λh=>cnd (g==h) (bnd (sub a (0,List.length a) f<|ln a) λi=>bnd (RK n i (a,f,1)) λj=>bnd (sub j.1 (0,List.length j.1) j.2<|ln j.1) λl=>bnd (clr j.1 l 0) λm=>bnd (sub m (0,List.length m) 0 j.2) λo=>c (m,o))<|b<|wr<|f+1)<|d ()
def RL:=qP Ac
def FR: Lc 186 0 0:=bE 0x47396b73313c516a94b534ec0c153386cab98f6683f2 aMr [⟨0,[cs FQ]⟩] [] @Ac
def Ad: (List Int)->((Unit->Option R)×((List Int×(Nat×Nat))->Option R)×Unit)->Unit->Option R:=λa (b,c,_) _=>cd ((ln a)<2) (b ())<|bnd2 (RL n a 1) (λd=>c (d.1,d.2)) λf=>bnd (some f) λ_=>b ()
def RM:=BJ Ad
def FU: Ic:=bP 186 0 1 0x97a828c93f60dcea487fa9717edd3f92385 aMr [⟨0,[FR]⟩] [] @Ad
end
end
section
variable {R:Type}(n:Nat)
noncomputable section
def uU: Nat->(List<|List Int)->Option (List Int)
 | 0,_=>none
 | n+1,a=>bnd (Dj n a) λb=>bnd (prd n) λ_=>bnd (Nq<|decide<|List.length b<=1000000) λ_=>bnd2 (RM n<|Db b) (λ_=>some<|Db b) λc=>bnd (some c) λd=>some<|win d.1<|some d.2
def n8: Kn:=bJ 175 0x35e0e0fa9ce2 aMr [] [FU] uU
abbrev aU3:=n8::aMr
def Dy: Nat->(List Int)->(List Int)->Option (List Int)
 | 0,_,_=>none
 | n+1,a,b=>bnd (uU n [a,b]) λc=>some c
def T8: Kn:=bJ 152 0x194e49656a3ec9efa275a aU3 [] [] Dy
abbrev aRR:=T8::aU3
def Ew: (Int×Int)->((Bool->Option R)×Unit)->Unit->Option R:=λ(a,b) (c,_) _=>bnd (fS n a) λd=>cnd d (bnd (fS n b) λf=>cnd f (cd (a<b) (c true)<|c false)<|c true)<|cd (a<b) (c true)<|c false
def Nf:=fR Ew
def NW: Lc 192 0 0:=bG 0xc451033e7f42093a3029 aRR [] [] @Ew
def Ld: Nat->Int->Int->Option Bool
 | 0,_,_=>none
 | n+1,a,b=>bnd (Nf n (a,b)) λc=>cnd c (some true)<|some false
def N3: Kn:=bJ 192 0x795b57 aRR [⟨0,[NW]⟩] [] Ld
abbrev aU2:=N3::aRR
def PQ: Nat->Int->Option Bool
 | 0,_=>none
 | n+1,a=>cnd (a != a) (some true)<|some false
def EV: Kn:=bJ 193 0xc17 aU2 [] [] PQ
abbrev aOP:=EV::aU2
def jJ: (List Int×Int)->((Int×Int)->Option R)->((Int->Option R)×Unit)->(Int×Int)->Option R:=λ(a,b) c (d,_) (f,g)=>cd (f<g) (bnd (idx a<|wr<|Int.fdiv (IntKind.u64.wrap<|wr<|f+g) 2) λh=>bnd (Ld n h b) λi=>cnd i (c ((wr<|(wr<|Int.fdiv (IntKind.u64.wrap<|wr<|f+g) 2)+1),g))<|c (f,(wr<|Int.fdiv (IntKind.u64.wrap<|wr<|f+g) 2)))<|d f
def zC:=oH jJ
def wG: Lc 187 0 0:=bE 0xe776f6d85cd53fe90473fa00897e002294702dbf aOP [] [] @jJ
def jK(n:Nat): Int->((Bool->Option R)×Unit)->Unit->Option R:=λa (b,_) _=>cnd (a != a) (b true)<|b false
def fV:=qR jK
def wH: Ic:=bP 193 0 1 0x2d8094099b6cfa7a92 aOP [] [] @jK
def pO: Nat->(List Int)->Int->Option (Int×Bool)
 | 0,_,_=>none
 | n+1,a,b=>bnd (zC n (a,b) (0,(ln a))) λc=>cd (c<(ln a)) (bnd (idx a c) λd=>cnd (d==b) (some (c,true))<|bnd (idx a c) λf=>bnd (fV n f) λg=>cnd g (bnd (fV n b) λh=>cnd h (some (c,true))<|some (c,false))<|some (c,false))<|some (c,false)
def Dc: Kn:=bJ 187 0x8f97b4 aOP [⟨0,[wG]⟩] [wH] pO
abbrev aMq:=Dc::aOP
def Hw: (List Int×Int)->((Bool->Option R)×Unit)->Unit->Option R:=λ(a,b) (c,_) _=>bnd (pO n a b) λd=>cnd d.2 (c false)<|c true
def I5:=qR Hw
def RQ: Ic:=bP 176 0 2 0x5368fe72e686b76156df1637bc2711c9 aMq [] [] @Hw
def Hv: (List Int×List Int×Int)->((List Int×Int)->Option R)->(((List Int)->Option R)×Unit)->(List Int×Int)->Option R:=λ(a,b,c) d (f,_) (g,h)=>cd (h<c) (bnd (idx b h) λi=>bnd (I5 n (a,i)) λj=>cnd j (bnd (app g [i]) λl=>d (l,(wr<|h+1)))<|d (g,(wr<|h+1)))<|f g
def I4:=oH Hv
def RO: Lc 177 0 0:=bE 0x5e7d09ff69872c8e5bb001f9876142bb3230160c6a37ce7139d8b0e75cf02e0cdadeea aMq [] [RQ] @Hv
def Hx: (List Int×List Int)->(((List Int)->Option R)×Unit)->Unit->Option R:=λ(a,b) (c,_) _=>bnd (uU n [b]) λd=>bnd (I4 n (a,d,(ln d)) ([],0)) λf=>c f
def I6:=qR Hx
def RS: Ic:=bP 177 0 2 0x28c8e97430f1a92f3243a6f46058baa9e3424f6db108cb9 aMq [⟨0,[RO]⟩] [] @Hx
def VT: Nat->(List Int)->(List Int)->Option (List Int)
 | 0,_,_=>none
 | n+1,a,b=>bnd (uU n [b]) λc=>bnd (I6 n (c,a)) λd=>some d
def T9: Kn:=bJ 153 0x194e49656a3ec9efa275a aMq [] [RS] VT
abbrev aU1:=T9::aMq
def NT: Nat->aD->Int->Option Int
 | 0,_,_=>none
 | n+1,a,b=>bnd (cE n a.ID b) λc=>some c
def DB: Kn:=bJ 130 0x4417ce8c2 aU1 [] [] NT
abbrev aMp:=DB::aU1
def xV: (aD×Int)->((Int->Option R)×Unit)->Unit->Option R:=λ(a,b) (c,_) _=>bnd (cE n a.ID b) λd=>c d
def gM:=qR xV
def xU: Ic:=bP 130 0 2 0xe48f19f8dfb8c3ea6db4 aMp [] [] @xV
def nX: (List aD×Int)->((Int×Int)->Option R)->((Int->Option R)×Unit)->(Int×Int)->Option R:=λ(a,b) c (d,_) (f,g)=>cd (f<g) (bnd (idx a<|wr<|Int.fdiv (IntKind.u64.wrap<|wr<|f+g) 2) λh=>bnd (gM n (h,b)) λi=>cd (i<0) (c ((wr<|(wr<|Int.fdiv (IntKind.u64.wrap<|wr<|f+g) 2)+1),g))<|c (f,(wr<|Int.fdiv (IntKind.u64.wrap<|wr<|f+g) 2)))<|d f
def NU:=oH nX
def DC: Lc 129 0 0:=bE 0x548992fa98bad6bb5eed3b8f56998f9372320d5f7114144bef59 aMp [] [xU] @nX
def xW: (List aD×Int)->(((aD×Int×Bool)->Option R)×(Int->Option R)×Unit)->Unit->Option R:=λ(a,b) (c,d,_) _=>bnd (NU n (a,b) (0,(ln a))) λf=>cd (f<(ln a)) (bnd (idx a f) λg=>bnd (gM n (g,b)) λh=>cnd (h==0) (c (g,f,true))<|c (g,f,false))<|d f
def sD:=BJ xW
def DD: Ic:=bP 129 0 3 0x5ac186842618cd9f4acc06b6e504393db6c5f9ec45e9 aMp [⟨0,[DC]⟩] [xU] @xW
def sE: Nat->aJ->Int->Option (Int×Bool)
 | 0,_,_=>none
 | n+1,a,b=>bnd2 (sD n (a.Features,b)) (λc=>cnd c.2.2 (some (c.2.1,true))<|some (c.2.1,false)) λd=>bnd (some d) λf=>some (f,false)
def UO: Kn:=bJ 97 0x8f9745 aMp [] [DD] sE
abbrev aOO:=UO::aMp
def wM(n:Nat): (eR×List Int×Int)->(((List<|Int×Int)×Int)->Option R)->((((List<|Int×Int))->Option R)×Unit)->((List<|Int×Int)×Int)->Option R:=λ(a,b,c) d (f,_) (g,h)=>cd (h<c) (bnd (idx b h) λi=>d ((dX g i a.Face),(wr<|h+1)))<|f g
def U8:=oH wM
def r8: Lc 196 0 1:=bE 0x145852d6ce94a90ce244a83a7ef9dae497d226d5efe5b3b10def5a8b38f19cf04fa25bf2ccf75c3a94 aOO [] [] @wM
def wN: (List eR×Int)->(((List<|Int×Int)×Int)->Option R)->((((List<|Int×Int))->Option R)×Unit)->((List<|Int×Int)×Int)->Option R:=λ(a,b) c (d,_) (f,g)=>cd (g<b) (bnd (idx a g) λh=>bnd (U8 n (h,h.Alone,(ln h.Alone)) (f,0)) λi=>c (i,(wr<|g+1)))<|d f
def U9:=oH wN
def r9: Lc 196 0 0:=bE 0x14631d241ffa0086e3d2de67faf0ed1f02c9afccf6c16412038b45bd aOO [⟨0,[cs r8]⟩] [] @wN
def pF: Nat->aM->Option (List<|Int×Int)
 | 0,_=>none
 | n+1,a=>bnd (kZ n a) λb=>bnd (U9 n (b.1,(ln b.1)) ([],0)) λc=>some c
def La: Kn:=bJ 196 0x14841fb0a532df2 aOO [⟨0,[r9]⟩] [] pF
abbrev aWz:=La::aOO
end
end
section
open jQ (den cds ag)
noncomputable section
def dJ: Nat->aM->aM->Int->Option Bool
 | 0,_,_,_=>none
 | n+1,p,q,m=>bnd (pF n p) λold=>bnd (pF n q) λnew=>some (sdB old m new)
theorem aHp: ∀(m:List (Int×Int)) (rows:List (List AV)),Qm (kk:=3) 3 m rows->aAD (gB (kk:=3) 3 m rows)=some m
 | [],rows,h=>rfl
 | e::m,[x]::rows,h=>by
  obtain⟨⟨h1,_⟩,h2⟩:=h
  cases h1
  show (match aAD (gB (kk:=3) 3 m rows) with | some l=>some ((e.1,e.2)::l) | none=>none)=_
  rw[aHp m rows h2]
theorem aIB: FOK PP T 196 ⟨[.w 4],[18],false,λn p=>pF n p⟩:=by
 have e:La.c=⟨[.w 4],[18],false,λn p=>pF n p⟩:=by kernel_rfl
 have h:=La.ok
 rw[e] at h
 exact h
theorem aJM{n:Nat}{p:aM}{m:List (Int×Int)}{a:AV}(h:pF n p=some m)(q:Qh [] (toW (val 4 p)) a): sdH (fH PP T n) 196 [] a=some m:=by
 obtain⟨b,rfl,q4⟩:=Qh.inA (cs:=[.vw 0 p.Nodes,.vw 2 p.Arcs,.vw 3 p.Faces]) q
 clear q
 match b,q4 with
 | [xn,xa,xf],q4=>
 obtain⟨qn,qa,qf,_⟩:=q4
 obtain⟨aw',A,h1,h2,h3,_⟩:=aIB n p m h [cG [] (.agg [xn,xa,xf])] ⟨Qh.mkA ⟨.p _ _ (R4 (Qh.pu (v:=.vw 0 p.Nodes) qn trivial)),.p _ _ (R4 (Qh.pu (v:=.vw 2 p.Arcs) qa trivial)),.p _ _ (R4 (Qh.pu (v:=.vw 3 p.Faces) qf trivial)),trivial⟩,trivial⟩
 have h2:=h2 []
 match aw',h2 with
 | [b],h2=>
  have e:fF A 0 b=dZ A 0 b:=by
   cases b with
   | tup l=>exact (h3 _ ZM l rfl).elim
   | _=>rfl
  have h4:Qp (.rmp 3 3 m) (fF A 0 b):=by rw[e];exact Qh.pu (v:=.rmp 3 3 m) h2.1 trivial
  have e2:cG [] (.agg [xn,xa,xf])=.agg [dG [] xn,dG [] xa,dG [] xf]:=rfl
  rw[e2] at h1
  unfold sdH
  rw[e2]
  simp only[h1]
  show Hu (fF A 0 b)=some m
  obtain⟨rows,h5,h6⟩:=h4.inM
  rcases h5 with⟨h5,rfl⟩ | h5
  .rw[h5];rfl
  .rw[h5];exact aHp m rows h6
theorem aCX: FOK PP T 55 ⟨[.w 4,.w 4,.w 3],[5],false,λn p=>dJ n p.1 p.2.1 p.2.2⟩:=by
 rintro n ⟨p,q,m⟩ r h aw w
 match aw,w with
 | [a,b,c],w=>
 obtain⟨w1,w2,w3,_⟩:=w
 have hc:c=.lit (.int .i64 m):=Qh.inL (v:=.int .i64 m) w3
 subst hc
 cases n with
 | zero=>cases h
 | succ n=>
  obtain⟨old,h1,h⟩:=bD h
  obtain⟨new,h2,h⟩:=bD h
  cases h
  refine⟨[.lit (.bool (sdB old m new))],[],?_,λH1=>⟨.l _,trivial⟩,λx hx l e=>(by rw[ZJ.1 hx] at e;cases e),λe=>(by cases e)⟩
  have e:(aF.prim 55:Option aAg)=some (aBn 196):=rfl
  simp only[fH,e]
  show sdA (fH PP T n) 196 [a,b,.lit (.int .i64 m)] []=_
  simp only[sdA,aJM h1 w1,aJM h2 w2,kO]
def M1: Kn:=⟨55,_,aCX⟩
end
end
end Go.Proofs.YtmlgedgcbfchjaaGreatDoor.Av
