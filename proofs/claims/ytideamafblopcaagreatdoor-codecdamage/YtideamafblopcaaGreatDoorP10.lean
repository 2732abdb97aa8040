/- A part of the proof of a law. -/
import Derived.Test.YtideamafblopcaaGreatDoorP9
set_option maxRecDepth 100000
set_option maxHeartbeats 4000000
set_option linter.all false
namespace Go.Proofs.YtideamafblopcaaGreatDoor.Av
open Go
section
open iG (den cds ag)
noncomputable section
def bl(x n:Nat): List Bool:=(List.range n).map λi=>x.testBit i
abbrev z0: Value:=.int .i64 0
def aGf: bI:=(.seq (.region false [] [o1 24 (.ibin .lss (tp 23) (tp 22))]) (.seq (.cond (tp 24) .skip (.exit 0)) (.seq (.block 1 (.seq (.region false [] [o1 25 (.idxAddr 1 (tp 21) (tp 23)),o1 26 (.load false 1 (tp 25)),om 10 26]) (.seq (.region false [] [o1 27 (.load true 3 (tp 3)),om 28 10,o1 29 (.callB 111 [(tp 27),(tp 28)]),om 11 29]) (.seq (.region false [] [om 30 11,o1 31 (.ibin .gtr (tp 30) (.lit z0))]) (.cond (tp 31) (.region false [] [om 32 7,om 33 11,om 34 10,o1 35 (.build [z0,aZ,aZ,aZ] [(0,1,(tp 33)),(1,1,(tp 34))]),o1 36 (.buildSl false 4 1 [z0,aZ,aZ,aZ] [(0,(tp 35))]),o1 37 (.append 4 80 (tp 32) (tp 36)),om 7 37]) (.region false [] [om 38 8,om 39 10,o1 40 (.buildSl true 1 1 [aZ] [(0,(tp 39))]),o1 41 (.append 1 24 (tp 38) (tp 40)),om 8 41])))))) (.region false [] [o1 42 (.ibin .add (tp 23) (.lit (.int .i64 1))),om 23 42]))))
def aGe: bI:=(.seq (.region false [] [o1 46 (.ibin .lss (tp 45) (tp 44))]) (.seq (.cond (tp 46) .skip (.exit 2)) (.seq (.block 3 (.seq (.region false [] [o1 47 (.idxAddr 1 (tp 43) (tp 45)),o1 48 (.load false 1 (tp 47)),om 13 48]) (.seq (.region true [] [om 49 2,om 50 13,o1 51 (.idxAddr 1 (tp 50) (.lit z0)),o1 52 (.load false 1 (tp 51)),om 53 13,o1 54 (.idxAddr 1 (tp 53) (.lit z0)),o1 55 (.load false 1 (tp 54)),o1 56 (.un .neg (tp 55)),o1 57 (.minmax true [(tp 52),(tp 56)]),o1 58 (.lookup 3 (.lit aZ) (tp 49) (tp 57) false),om 14 58]) (.seq (.region false [] [om 59 2,om 60 7,om 61 14,o1 62 (.idxAddr 2 (tp 61) (.lit z0)),o1 63 (.load true 2 (tp 62)),o1 64 (.callB 112 [(tp 59),(tp 60),(tp 63)]),om 15 64]) (.region false [] [om 65 7,om 66 15,om 67 7,om 68 15,o1 69 (.idxAddr 4 (tp 67) (tp 68)),o1 70 (.fieldAddr 2 (tp 69)),o1 71 (.load false 1 (tp 70)),om 72 13,o1 73 (.buildSl true 1 1 [aZ] [(0,(tp 72))]),o1 74 (.append 1 24 (tp 71) (tp 73)),o1 75 (.idxAddr 4 (tp 65) (tp 66)),o1 76 (.fieldAddr 2 (tp 75)),⟨none,.store 1 (tp 76) (tp 74),none⟩]))))) (.region false [] [o1 77 (.ibin .add (tp 45) (.lit (.int .i64 1))),om 45 77]))))
def aGd: bI:=(.seq (.region false [] [o1 82 (.ibin .lss (tp 81) (tp 80))]) (.seq (.cond (tp 82) .skip (.exit 4)) (.seq (.block 5 (.seq (.region false [] [o1 83 (.idxAddr 3 (tp 79) (tp 81)),o1 84 (.load true 3 (tp 83)),o1 17 (.alloc [z0,z0,z0]),⟨none,.store 3 (tp 17) (tp 84),none⟩]) (.seq (.region false [] [o1 85 (.load true 3 (tp 3)),o1 86 (.fieldAddr 0 (tp 17)),o1 87 (.load false 1 (tp 86)),o1 88 (.callB 113 [(tp 85),(tp 87)]),o1 89 (.ibin .eql (tp 88) (.lit z0))]) (.cond (tp 89) (.seq (.region false [] [om 90 2,om 91 7,o1 92 (.fieldAddr 1 (tp 17)),o1 93 (.load true 2 (tp 92)),o1 94 (.callB 112 [(tp 90),(tp 91),(tp 93)]),om 18 94]) (.region true [] [om 95 7,om 96 18,om 97 7,om 98 18,o1 99 (.idxAddr 4 (tp 97) (tp 98)),o1 100 (.fieldAddr 3 (tp 99)),o1 101 (.load false 1 (tp 100)),o1 102 (.fieldAddr 0 (tp 17)),o1 103 (.load false 1 (tp 102)),o1 104 (.buildSl true 1 1 [z0] [(0,(tp 103))]),o1 105 (.append 1 8 (tp 101) (tp 104)),o1 106 (.idxAddr 4 (tp 95) (tp 96)),o1 107 (.fieldAddr 3 (tp 106)),⟨none,.store 1 (tp 107) (tp 105),none⟩])) .skip)))) (.region false [] [o1 108 (.ibin .add (tp 81) (.lit (.int .i64 1))),om 81 108]))))
theorem aDh: (GO T 88).body=(.seq (.region false [] [o1 3 (.box (tp 0)),o1 6 (.movN (.lit aZ))]) (.seq (.region false [] [o1 19 (.build [z0,aZ,aZ,aZ] []),o1 20 (.buildSl false 4 1 [z0,aZ,aZ,aZ] [(0,(tp 19))]),om 7 20]) (.seq (.region false [] [o1 8 (.claim 1)]) (.seq (.seq (.region false [] [om 21 1,o1 22 (.lenS (tp 21)),o1 23 (.mov (.lit z0))]) (.block 0 (.mask (bl 0x18c 9) (bl 0x40 7) false (.loop (some (bl 0xe0018c 24)) false aGf)))) (.seq (.seq (.region false [] [om 43 8,o1 44 (.lenS (tp 43)),o1 45 (.mov (.lit z0))]) (.block 2 (.mask (bl 0x8c 8) (bl 0x40 7) false (.loop (some (bl 0x38000000008c 46)) false aGe)))) (.seq (.seq (.region false [] [o1 78 (.fieldAddr 0 (tp 3)),o1 79 (.load false 1 (tp 78)),o1 80 (.lenS (tp 79)),o1 81 (.mov (.lit z0))]) (.block 4 (.mask (bl 0x80 8) (bl 0x40 7) false (.loop (some (bl 0x38000000000000000008c 82)) false aGd)))) (.seq (.region false [] [om 109 7,om 6 109]) .ret))))))):=by kernel_rfl
def arV(a:eO): Ch:=⟨a.twice,a.outer,(),()⟩
def dv1(n:Nat)(p:aX): List (List Int)->List eO->List (List Int)->Option (List eO×List (List Int))
 | [],l,q=>some (l,q)
 | c::cs,l,q=>bnd (oW n p c) λt=>cnd (decide (t > 0)) (dv1 n p cs (l++[⟨t,c,[],[]⟩]) q) (dv1 n p cs l (q++[c]))
def dv2(n:Nat)(m:List (Int×List Aaa)): List (List Int)->List eO->Option (List eO)
 | [],l=>some l
 | c::cs,l=>bnd (idx c 0) λd=>bnd (idx ((cR m (Fk d (wr (0-d)))).getD []) 0) λat_=>bnd (eA n m (l.map arV) at_) λi=>bnd (idx l i) λa=>
  dv2 n m cs (l.set i.toNat ⟨a.twice,a.outer,a.inner++[c],a.alone⟩)
def dv3(n:Nat)(p:aX)(m:List (Int×List Aaa)): List cW->List eO->Option (List eO)
 | [],l=>some l
 | x::xs,l=>bnd (mU n p x.ID) λd=>cnd (d==0)
  (bnd (eA n m (l.map arV) x.At) λi=>bnd (idx l i) λa=>dv3 n p m xs (l.set i.toNat ⟨a.twice,a.outer,a.inner,a.alone++[x.ID]⟩))
  (dv3 n p m xs l)
def lX: Nat->aX->List (List Int)->List (Int×List Aaa)->Option (List eO)
 | 0,_,_,_=>none
 | n+1,p,cs,m=>bnd (jK (decide (cs.length<n/\p.Nodes.length<n/\cs.length<=190000/\p.Nodes.length<=9000))) λ_=>bnd (dv1 n p cs [⟨0,[],[],[]⟩] []) λq=>bnd (dv2 n m q.2 q.1) λl=>dv3 n p m p.Nodes l
structure RA where
 a:eO
 o:AV
 x:AV
 y:AV
def RA.c(r:RA): List AV:=[iv r.a.twice,r.o,r.x,r.y]
def gR(kd:Nat)(H:aM)(x:AV)(l:List (den kd)): Prop:=(x=.lit aZ/\l=[])\/∃k es,x=.ms k es.length 0 es.length/\3<=k/\H[k]?=some (.blk 1 es)/\Ql kd l es
def u6: AV->Option Nat
 | .ms k _ _ _=>some k
 | _=>none
def WM(r:RA)(u:Bool): AV:=match u with
 | true=>r.y
 | false=>r.x
structure DI(H:aM)(w:List RA): Prop where
 co:∀(i:Nat) (r:RA),w[i]?=some r->Qp (.sl 3 r.a.outer) r.o
 cx:∀(i:Nat) (r:RA),w[i]?=some r->gR 12 H r.x r.a.inner
 cy:∀(i:Nat) (r:RA),w[i]?=some r->gR 3 H r.y r.a.alone
 ne:∀(i j:Nat) (r s:RA) (u v:Bool) (k:Nat),w[i]?=some r->w[j]?=some s->u6 (WM r u)=some k->u6 (WM s v)=some k->i=j/\u=v
theorem gR.id{kd:Nat}{H:aM}{x:AV}{l:List (den kd)}{k:Nat}(h:gR kd H x l)(hk:u6 x=some k): 3<=k/\∃o,H[k]?=some o:=by
 rcases h with⟨rfl,_⟩ | ⟨k',es,rfl,h3,hh,_⟩
 .cases hk
 .cases hk;exact⟨h3,_,hh⟩
theorem gR.mono{kd:Nat}{H H':aM}{x:AV}{l:List (den kd)}(h:gR kd H x l)(hk:∀k,u6 x=some k->H'[k]?=H[k]?): gR kd H' x l:=by
 rcases h with⟨rfl,h⟩ | ⟨k',es,rfl,h3,hh,q⟩
 .exact .inl ⟨rfl,h⟩
 .exact .inr ⟨k',es,rfl,h3,by rw[hk k' rfl];exact hh,q⟩
theorem gR.shut{kd:Nat}{H H':aM}{x:AV}{l:List (den kd)}{d:Nat}(h:gR kd H x l)(hk:∀k,3<=k->H'[k]?=H[k]?): Qp (.sl kd l) (dZ H' 0 (d+1) x):=by
 rcases h with⟨rfl,rfl⟩ | ⟨k',es,rfl,h3,hh,q⟩
 .exact Qp.mkS (es:=[]) (.inr ⟨false,rfl⟩) trivial
 .simp only[dZ,Nat.zero_le,if_true,rd,hk k' h3,hh,List.drop_zero,List.take_length]
  exact Qp.mkS (.inr ⟨_,rfl⟩) ((zE H' 0 d).ls q)
theorem gR.grow{kd:Nat}{H:aM}{x:AV}{l:List (den kd)}{bytes:Nat}{e:den kd}{row:List AV}(h:gR kd H x l)(hr:Qr (iH kd e) row)(h1:row.length=1)(hb:bytes<=100000)(hl:l.length<=200000)(h3:3<=H.length):
 ∃k es H',cC 0 H 1 bytes x [row]=some (.ms k es.length 0 es.length,H')/\3<=k/\H'[k]?=some (.blk 1 es)/\Ql kd (l++[e]) es/\(∀j,j≠k->H'[j]?=H[j]?)/\(u6 x=some k\/H[k]?=none)/\H.length<=H'.length:=by
 have a1:cY 1 [row]=true:=by simp[cY,h1]
 have rm:∀z,z<=300000->kO z bytes=true:=λz hz=>by
  have:z*bytes<=300000*100000:=Nat.mul_le_mul hz hb
  unfold kO;simp;omega
 rcases h with⟨rfl,rfl⟩ | ⟨k',es,rfl,hk,hh,q⟩
 .refine⟨H.length,[row],H++[.blk 1 [row]],?_,h3,?_,⟨hr,trivial⟩,?_,.inr (List.getElem?_eq_none (Nat.le_refl _)),by simp⟩
  .show (if cY 1 [row]=true/\0<1/\kO 1 bytes=true then _ else _)=_
   rw[if_pos ⟨a1,by decide,rm 1 (by decide)⟩];rfl
  .rw[List.getElem?_append_right (Nat.le_refl _),Nat.sub_self];rfl
  .intro j hj
   rcases Nat.lt_or_ge j H.length with h | h
   .rw[List.getElem?_append_left h]
   .rw[List.getElem?_eq_none h,List.getElem?_eq_none (by simp;omega)]
 .have hlt:k'<H.length:=(List.getElem?_eq_some_iff.1 hh).1
  have hes:=q.len
  refine⟨k',es++[row],H.set k' (.blk 1 (es++[row])),?_,hk,?_,q.app ⟨hr,trivial⟩,?_,.inl rfl,by simp⟩
  .show (if cY 1 [row]=true/\0<1/\kO 1 bytes=true then _ else _)=_
   rw[if_pos ⟨a1,by decide,rm 1 (by decide)⟩]
   simp only[hh]
   simp only[true_and,List.length_singleton,rm (es.length+1) (by omega),if_true,Nat.one_ne_zero,if_false,Nat.zero_le,List.length_append]
  .rw[List.getElem?_set_self hlt]
  .intro j hj;rw[List.getElem?_set_ne (Ne.symm hj)]
theorem DI.upd{H H' H2:aM}{w:List RA}{i:Nat}{r r':RA}{k:Nat}{u:Bool}(hI:DI H w)(hi:w[i]?=some r)(hk:3<=k)(hne:∀j,j≠k->H'[j]?=H[j]?)(hold:u6 (WM r u)=some k\/H[k]?=none)(h2:∀j,j≠1->H2[j]?=H'[j]?)(ho:r'.o=r.o/\r'.a.outer=r.a.outer)(hx:gR 12 H2 r'.x r'.a.inner\/(r'.x=r.x/\r'.a.inner=r.a.inner/\u=true))(hy:gR 3 H2 r'.y r'.a.alone\/(r'.y=r.y/\r'.a.alone=r.a.alone/\u=false))(hu:u6 (WM r' u)=some k)(hv:WM r' (!u)=WM r (!u)): DI H2 (w.set i r'):=by
 have hlt:=(List.getElem?_eq_some_iff.1 hi).1
 have g:∀(j:Nat) (s:RA),(w.set i r')[j]?=some s->(j=i/\s=r')\/(j≠i/\w[j]?=some s):=by
  intro j s h
  by_cases hj:j=i
  .subst hj;rw[List.getElem?_set_self hlt] at h;cases h;exact .inl ⟨rfl,rfl⟩
  .rw[List.getElem?_set_ne (Ne.symm hj)] at h;exact .inr ⟨hj,h⟩
 have old:∀(j:Nat) (s:RA) (v:Bool) (q:Nat),w[j]?=some s->u6 (WM s v)=some q->3<=q/\∃o,H[q]?=some o:=by
  intro j s v q hj hq
  cases v with
  | false=>exact (hI.cx j s hj).id hq
  | true=>exact (hI.cy j s hj).id hq
 have sep:∀(j:Nat) (s:RA) (v:Bool),w[j]?=some s->u6 (WM s v)=some k->j=i/\v=u:=by
  intro j s v hj hq
  rcases hold with h | h
  .exact hI.ne j i s r v u k hj hi hq h
  .obtain⟨_,o,ho⟩:=old j s v k hj hq
   rw[h] at ho;cases ho
 have keep:∀(j:Nat) (s:RA) (v:Bool) (q:Nat),w[j]?=some s->u6 (WM s v)=some q->¬(j=i/\v=u)->H2[q]?=H[q]?:=by
  intro j s v q hj hq hn
  have:=(old j s v q hj hq).1
  rw[h2 q (by omega),hne q (λe=>hn (sep j s v hj (e▸hq)))]
 refine⟨?_,?_,?_,?_⟩
 .intro j s hs
  rcases g j s hs with⟨rfl,rfl⟩ | ⟨_,hs⟩
  .rw[ho.1,ho.2];exact hI.co _ r hi
  .exact hI.co j s hs
 .intro j s hs
  rcases g j s hs with⟨rfl,rfl⟩ | ⟨hj,hs⟩
  .rcases hx with h | ⟨h1,h3,h4⟩
   .exact h
   .rw[h1,h3]
    exact (hI.cx _ r hi).mono λq hq=>keep _ r false q hi hq (by rw[h4];simp)
  .exact (hI.cx j s hs).mono λq hq=>keep j s false q hs hq (λe=>hj e.1)
 .intro j s hs
  rcases g j s hs with⟨rfl,rfl⟩ | ⟨hj,hs⟩
  .rcases hy with h | ⟨h1,h3,h4⟩
   .exact h
   .rw[h1,h3]
    exact (hI.cy _ r hi).mono λq hq=>keep _ r true q hi hq (by rw[h4];simp)
  .exact (hI.cy j s hs).mono λq hq=>keep j s true q hs hq (λe=>hj e.1)
 .have new:∀v q,u6 (WM r' v)=some q->(v=u/\q=k)\/(v=!u/\u6 (WM r (!u))=some q):=by
   intro v q h
   by_cases hvu:v=u
   .subst hvu;rw[hu] at h;cases h;exact .inl ⟨rfl,rfl⟩
   .have:v=!u:=by cases v<;>cases u<;>simp_all
    subst this;rw[hv] at h;exact .inr ⟨rfl,h⟩
  intro j1 j2 s1 s2 v1 v2 q e1 e2 q1 q2
  rcases g j1 s1 e1 with⟨rfl,rfl⟩ | ⟨n1,f1⟩
  .rcases g j2 s2 e2 with⟨rfl,rfl⟩ | ⟨n2,f2⟩
   .rcases new v1 q q1 with⟨rfl,rfl⟩ | ⟨rfl,o1⟩
    .rcases new v2 q q2 with⟨rfl,_⟩ | ⟨rfl,o2⟩
     .exact⟨rfl,rfl⟩
     .have:=(sep _ r (!v1) hi o2).2;cases v1<;>cases this
    .rcases new v2 q q2 with⟨rfl,rfl⟩ | ⟨rfl,o2⟩
     .have:=(sep _ r (!v2) hi o1).2;cases v2<;>cases this
     .exact⟨rfl,rfl⟩
   .rcases new v1 q q1 with⟨rfl,rfl⟩ | ⟨rfl,o1⟩
    .exact absurd (sep _ s2 v2 f2 q2).1 n2
    .exact absurd (hI.ne _ _ r s2 (!u) v2 q hi f2 o1 q2).1 (Ne.symm n2)
  .rcases g j2 s2 e2 with⟨rfl,rfl⟩ | ⟨n2,f2⟩
   .rcases new v2 q q2 with⟨rfl,rfl⟩ | ⟨rfl,o2⟩
    .exact absurd (sep _ s1 v1 f1 q1).1 n1
    .exact absurd (hI.ne _ _ s1 r v1 (!u) q f1 hi q1 o2).1 n1
   .exact hI.ne j1 j2 s1 s2 v1 v2 q f1 f2 q1 q2
theorem DI.view{H:aM}{w:List RA}(hI:DI H w)(h1:H[1]?=some (.blk 4 (w.map RA.c))): Qp (.vw 24 ((w.map RA.a).map arV)) (lQ H (.ms 1 w.length 0 w.length)):=by
 simp only[lQ,rd,h1,List.length_map,if_true,List.drop_zero]
 rw[List.take_of_length_le (by simp)]
 refine Qp.mkV (.inr (.inr rfl)) ?_
 rw[List.map_map,List.map_map]
 have h:∀(v:List RA),(∀r∈v,Qp (.sl 3 r.a.outer) r.o)->Ql 24 (v.map (arV∘RA.a)) (v.map ((λe=>e.map vJ)∘RA.c)):=by
  intro v
  induction v with
  | nil=>exact λ_=>trivial
  | cons r v ih=>
   intro hv
   refine⟨⟨.lit _,nZ.c (c:=.sl 3) (x:=r.a.outer) (hv r List.mem_cons_self),.undef _,.undef _,trivial⟩,ih λr hr=>hv r (List.mem_cons_of_mem _ hr)⟩
 exact h w λr hr=>by
  obtain⟨i,hi⟩:=List.mem_iff_getElem?.1 hr
  exact hI.co i r hi
theorem DI.rows{H H':aM}{w:List RA}{d:Nat}(hI:DI H w)(hk:∀k,3<=k->H'[k]?=H[k]?): Ql 26 (w.map RA.a) ((w.map RA.c).map λe=>e.map (dZ H' 0 (d+1))):=by
 rw[List.map_map]
 have h:∀(v:List RA),(∀r∈v,Qp (.sl 3 r.a.outer) r.o/\gR 12 H r.x r.a.inner/\gR 3 H r.y r.a.alone)->Ql 26 (v.map RA.a) (v.map ((λe=>e.map (dZ H' 0 (d+1)))∘RA.c)):=by
  intro v
  induction v with
  | nil=>exact λ_=>trivial
  | cons r v ih=>
   intro hv
   obtain⟨a1,a2,a3⟩:=hv r List.mem_cons_self
   exact⟨⟨.lit _,(zE H' 0 (d+1)).c (c:=.sl 3) (x:=r.a.outer) a1,a2.shut hk,a3.shut hk,trivial⟩,ih λr hr=>hv r (List.mem_cons_of_mem _ hr)⟩
 exact h w λr hr=>by
  obtain⟨i,hi⟩:=List.mem_iff_getElem?.1 hr
  exact⟨hI.co i r hi,hI.cx i r hi,hI.cy i r hi⟩
section
variable (p:aX)(m:List (Int×List Aaa))(xn xa xf xm:AV)
structure DA(w:List RA)(H:aM): Prop where
 h0:H[0]?=some (.blk 3 [[xn,xa,xf]])
 h1:H[1]?=some (.blk 4 (w.map RA.c))
 h3:3<=H.length
 i:DI H w
variable {p m xn xa xf xm}{w:List RA}{tm:List AV}{H:aM}
variable (qn:Qp (.vw 0 p.Nodes) xn)(qa:Qp (.vw 2 p.Arcs) xa)(qf:Qp (.vw 3 p.Faces) xf)(qm:Qp (.rmp 3 13 m) xm)
theorem D1: PG PP T 111 ⟨[.w 4,.w 12],[3],false,λn p=>oW n p.1 p.2⟩:=by
 have e:Ao.c=⟨[.w 4,.w 12],[3],false,λn p=>oW n p.1 p.2⟩:=by kernel_rfl
 have h:=Ao.ok
 rw[e] at h
 exact h
theorem YV: PG PP T 113 ⟨[.w 4,.w 3],[3],false,λn p=>mU n p.1 p.2⟩:=by
 have e:yC.c=⟨[.w 4,.w 3],[3],false,λn p=>mU n p.1 p.2⟩:=by kernel_rfl
 have h:=yC.ok
 rw[e] at h
 exact h
theorem aAp: PG PP T 112 ⟨[.w 23,.w 25,.w 1],[3],false,λn p=>eA n p.1 p.2.1 p.2.2⟩:=by
 have e:kT.c=⟨[.w 23,.w 25,.w 1],[3],false,λn p=>eA n p.1 p.2.1 p.2.2⟩:=by kernel_rfl
 have h:=kT.ok
 rw[e] at h
 exact h
theorem VU{k:Nat}{l:List (den k)}{a:AV}(h:Qp (.vw k l) a): Qp (.vw k l) (lQ H a):=by
 obtain⟨es,h1,h2⟩:=h.inV
 rcases h1 with⟨rfl,rfl⟩ | ⟨f,rfl⟩ | rfl
 .exact Qp.mkV (es:=[]) (.inr (.inr rfl)) h2
 .exact Qp.mkV (.inr (.inr rfl)) h2
 .exact Qp.mkV (.inr (.inr rfl)) h2
theorem aHf{kk vk:Nat}{m:List (den kk×den vk)}{a:AV}(h:Qp (.rmp kk vk m) a): Qp (.rmp kk vk m) (lQ H a):=by
 obtain⟨rows,h1,h2⟩:=h.inM
 rcases h1 with⟨rfl,rfl⟩ | rfl
 .exact Qp.mkM (.inl ⟨rfl,rfl⟩) h2
 .exact Qp.mkM (.inr rfl) h2
theorem aAh{α:Type}{l:List α}{i:Nat}{x:α}(h:l[i]?=some x): idx l (i:Int)=some x:=by rw[eU];exact h
theorem Vk{α:Type}{l r:List α}{i:Nat}{x:α}(h:l.drop i=x::r): l[i]?=some x/\l.drop (i+1)=r/\i<l.length:=by
 have h1:(l.drop i)[0]?=some x:=by rw[h];rfl
 rw[List.getElem?_drop,Nat.add_zero] at h1
 refine⟨h1,?_,(List.getElem?_eq_some_iff.1 h1).1⟩
 have:l.drop (i+1)=(l.drop i).drop 1:=by rw[List.drop_drop]
 rw[this,h];rfl
theorem O1{i:Nat}(h:i<1000000): wr ((i:Int)+1)=((i+1:Nat):Int):=by
 show IntKind.i64.wrap _=_
 rw[IntKind.wrap_i64];push_cast;omega
theorem aBN{k:Nat}{l:List (den k)}{a:AV}(q:Qp (.vw k l) a): eK H a=lQ H a:=by
 obtain⟨es,h1,_⟩:=q.inV
 rcases h1 with⟨rfl,_⟩ | ⟨f,rfl⟩ | rfl<;>rfl
theorem aFN(H:aM)(o:cN): (H++[o])[H.length]?=some o:=by rw[List.getElem?_append_right (Nat.le_refl _),Nat.sub_self];rfl
theorem hold{H:aM}{o b:cN}{k:Nat}(h:H[k]?=some b): (H++[o])[k]?=some b:=by rw[List.getElem?_append_left (List.getElem?_eq_some_iff.1 h).1];exact h
include qn qa qf in
theorem aDg{n:Nat}{x y:aQ}{c:List Int}{a:AV}{t:Int}(e:oW n p c=some t)(hx:aC tm x=.agg [xn,xa,xf])(hy:aC tm y=a)(q:Qp (.vw 3 c) a): aI PP (dK PP T n) 0 (.callB 111 [x,y]) tm H=some (iv t,H):=by
 obtain⟨A,r,h1,h2⟩:=FN (a:=.undef) D1 (n:=n) (p:=(p,c)) (r:=t) e (λr=>⟨r,rfl⟩) (aw:=[eK H (.agg [xn,xa,xf]),lQ H a])
  ⟨Qh.mkA ⟨.p _ _ (VU qn),.p _ _ (VU qa),.p _ _ (VU qf),trivial⟩,.p _ _ (VU q),trivial⟩
 simp only[aI,List.map_cons,List.map_nil,hx,hy,aBN q,h1]
 rw[h2];rfl
theorem aHW{n:Nat}{x y:aQ}{a:AV}{l:List Int}{t:Int}(q:Qp (.sl 3 l) a)(hx:aC tm x=iv t)(hy:aC tm y=a): aI PP (dK PP T n) 0 (.build [z0,aZ,aZ,aZ] [(0,1,x),(1,1,y)]) tm H=some (.agg [iv t,a,.lit aZ,.lit aZ],H):=by
 obtain⟨es,h1,_⟩:=q.inS
 simp only[aI,List.map_cons,List.map_nil,hx,hy]
 rcases h1 with⟨rfl,_⟩ | ⟨f,rfl⟩<;>rfl
theorem aEm{n:Nat}{y:aQ}{a:AV}{k:Nat}{l:List (den k)}{z:Value}(q:Qp (.sl k l) a)(hy:aC tm y=a): aI PP (dK PP T n) 0 (.buildSl true 1 1 [z] [(0,y)]) tm H=some (.sl true [[vJ a]],H):=by
 obtain⟨es,h1,_⟩:=q.inS
 simp only[aI,List.map_cons,List.map_nil,hy]
 rcases h1 with⟨rfl,_⟩ | ⟨f,rfl⟩<;>rfl
theorem DA.grow{o y:aQ}{a:AV}{l:List Int}{t:Int}(d:DA xn xa xf w H)(hn:∀r∈w,r.x=.lit aZ/\r.y=.lit aZ)(q:Qp (.sl 3 l) a){b:cN}: DA xn xa xf (w++[⟨⟨t,l,[],[]⟩,a,.lit aZ,.lit aZ⟩]) ((H++[b]).set 1 (.blk 4 (w.map RA.c++[[iv t,a,.lit aZ,.lit aZ]]))):=by
 have hw:∀r∈w++[(⟨⟨t,l,[],[]⟩,a,.lit aZ,.lit aZ⟩:RA)],r.x=.lit aZ/\r.y=.lit aZ:=by
  intro r hr
  rcases List.mem_append.1 hr with hr | hr
  .exact hn r hr
  .rw[List.mem_singleton.1 hr];exact⟨rfl,rfl⟩
 have g:∀(i:Nat) (r:RA),(w++[(⟨⟨t,l,[],[]⟩,a,.lit aZ,.lit aZ⟩:RA)])[i]?=some r->w[i]?=some r\/r=⟨⟨t,l,[],[]⟩,a,.lit aZ,.lit aZ⟩:=by
  intro i r hr
  rcases Nat.lt_or_ge i w.length with h | h
  .rw[List.getElem?_append_left h] at hr;exact .inl hr
  .rw[List.getElem?_append_right h] at hr
   exact .inr (List.mem_singleton.1 (List.mem_of_getElem? hr))
 refine⟨?_,?_,by simp;have:=d.h3;omega,⟨?_,?_,?_,?_⟩⟩
 .rw[List.getElem?_set_ne (by decide)];exact hold d.h0
 .rw[List.getElem?_set_self (by simp;have:=d.h3;omega),List.map_append];rfl
 .intro i r hr
  rcases g i r hr with h | rfl
  .exact d.i.co i r h
  .exact q
 .intro i r hr
  rcases g i r hr with h | rfl
  .rcases d.i.cx i r h with h1 | ⟨k,es,h1,_⟩
   .exact .inl h1
   .rw[(hn r (List.mem_of_getElem? h)).1] at h1;cases h1
  .exact .inl ⟨rfl,rfl⟩
 .intro i r hr
  rcases g i r hr with h | rfl
  .rcases d.i.cy i r h with h1 | ⟨k,es,h1,_⟩
   .exact .inl h1
   .rw[(hn r (List.mem_of_getElem? h)).2] at h1;cases h1
  .exact .inl ⟨rfl,rfl⟩
 .intro i j r s u v k hr hs hk _
  have:=hw r (List.mem_of_getElem? hr)
  cases u with
  | true=>simp only[WM,this.2,u6] at hk;cases hk
  | false=>simp only[WM,this.1,u6] at hk;cases hk
abbrev dB(xm:AV)(w:List RA): List (Nat×AV):=[(2,xm),(3,.ptr 0 1 0 0),(7,.ms 1 w.length 0 w.length)]
include qn qa qf in
theorem aA7{n N:Nat}(cs:List (List Int)){xc:AV}(qc:Qp (.vw 12 cs) xc)(hb:cs.length<=190000): ∀(todo:List (List Int)) (k i:Nat) (tm:List AV) (H:aM) (w:List RA) (q:List (List Int)) (qr:List (List AV)) (r:List eO×List (List Int)),cs.drop i=todo->todo.length<k->w.length+todo.length<=200000->qr.length+todo.length<=200000->
 DA xn xa xf w H->(∀r∈w,r.x=.lit aZ/\r.y=.lit aZ)->H[2]?=some (.blk 1 qr)->Ql 12 q qr->At 110 ((8,.ms 2 qr.length 0 qr.length)::(21,xc)::(22,iv (cs.length:Nat))::(23,iv i)::dB xm w) tm->dv1 n p todo (w.map RA.a) q=some r->
 WL PP (dK PP T n) n 0 N (bl 0xe0018c 24) false aGf k ⟨tm,H⟩ λx s=>x=.exit 0/\∃w' qr',w'.map RA.a=r.1/\DA xn xa xf w' s.heap/\(∀r∈w',r.x=.lit aZ/\r.y=.lit aZ)/\s.heap[2]?=some (.blk 1 qr')/\Ql 12 r.2 qr'/\At 110 ((8,.ms 2 qr'.length 0 qr'.length)::dB xm w') s.tmps/\w'.length<=200000/\qr'.length<=200000
 | todo,0,i,tm,H,w,q,qr,r,_,h,_,_,_,_,_,_,_,_=>by omega
 | todo,k+1,i,tm,H,w,q,qr,r,hd,hk,hw,hq,d,hn,h2,ql,ha,h=>by
  apply WL.step
  show WC PP (dK PP T n) n 0 aGf ⟨bS (bl 0xe0018c 24) tm,H⟩ _
  replace ha:At 110 ((8,.ms 2 qr.length 0 qr.length)::(21,xc)::(22,iv (cs.length:Nat))::(23,iv i)::dB xm w) (bS (bl 0xe0018c 24) tm):=
   .cons (ha.live _ rfl rfl) (.cons (ha.live _ rfl rfl) (.cons (ha.live _ rfl rfl) (.cons (ha.live _ rfl rfl) (.cons (ha.live _ rfl rfl) (.cons (ha.live _ rfl rfl) (.cons (ha.live _ rfl rfl) (ha.mask _)))))))
  generalize bS (bl 0xe0018c 24) tm=tm at ha |-
  refine WC.seq (WC.reg (AO.op ha (Lj (ha.get rfl) (ha.get rfl) rfl) λtm ha=>AO.nil ha (WC.seq ?_)))
  cases todo with
  | nil=>
   have hi:cs.length<=i:=by
    have:=congrArg List.length hd
    rw[List.length_drop,List.length_nil] at this;omega
   cases h
   refine WC.condF (ha.get rfl) (decide_eq_false (by omega)) (WC.exit ?_)
   exact⟨rfl,w,qr,rfl,d,hn,h2,ql,.cons (ha.get rfl) (.cons (ha.get rfl) (.cons (ha.get rfl) (.cons (ha.get rfl) ⟨ha.ln,λ_ _ h=>by cases h⟩))),by omega,by omega⟩
  | cons c todo=>
   obtain⟨g1,g2,g3⟩:=Vk hd
   simp only[List.length_cons] at hk hw hq
   simp only[dv1] at h
   obtain⟨t,e2,h⟩:=aV h
   refine WC.condT (ha.get rfl) (decide_eq_true (by omega)) (WC.skip (WC.seq (WC.block (WC.seq ?_))))
   obtain⟨row,q1,e25⟩:=x9 (P:=PP) (cf:=dK PP T n) (fl:=0) (H:=H) (s:=1) qc (ha.get (k:=21) rfl) (ha.get (k:=23) rfl) (aAh g1) rfl
   obtain⟨x,rfl,qx⟩:∃x,row=[x]/\Qp (.sl 3 c) x:=by
    match row,q1 with
    | [x],h=>exact⟨x,rfl,h.1⟩
   have hl:=qx.w
   refine WC.reg (AO.op ha e25 λtm ha=>AO.op ha (aA1 (ha.get rfl)) λtm ha=>AO.mov ha rfl λtm ha=>AO.nil ha (WC.seq (WC.reg ?_)))
   refine AO.op ha (Qe (ha.get rfl) d.h0 rfl rfl (Nat.le_refl 3) rfl) λtm ha=>AO.mov ha rfl λtm ha=>AO.op ha (aDg qn qa qf e2 (ha.get rfl) (ha.get rfl) hl) λtm ha=>AO.mov ha rfl λtm ha=>AO.nil ha (WC.seq (WC.reg (AO.mov ha rfl λtm ha=>AO.op ha (Lj (ha.get rfl) rfl rfl) λtm ha=>AO.nil ha ?_)))
   cases ht:decide (t > 0) with
   | true=>
    rw[ht] at h
    refine WC.condT (ha.get rfl) ht (WC.reg (AO.mov ha rfl λtm ha=>AO.mov ha rfl λtm ha=>AO.mov ha rfl λtm ha=>AO.op ha (aHW qx (ha.get rfl) (ha.get rfl)) λtm ha=>AO.op (v:=.ms H.length 1 0 1) (H':=H++[.blk 4 [[iv t,x,.lit aZ,.lit aZ]]]) ha (by
     simp only[aI,List.map_cons,List.map_nil,ha.get (k:=35) rfl];rfl) λtm ha=>AO.op ha (aEp (es:=w.map RA.c) (ys:=[[iv t,x,.lit aZ,.lit aZ]]) (by rw[List.length_map];exact ha.get rfl) (by
      rw[ha.get (k:=36) rfl];simp only[rd,aFN];rfl) (hold d.h1) (by decide) rfl (by simp) (by decide) (by simp;omega)) λtm ha=>AO.mov ha rfl λtm ha=>AO.nil ha ?_))
    refine WC.reg (AO.op ha (Lj (ha.get rfl) rfl rfl) λtm ha=>AO.mov ha rfl λtm ha=>AO.nil ha ?_)
    have d':=d.grow (o:=.tmp 0) (y:=.tmp 0) (t:=t) hn qx (b:=.blk 4 [[iv t,x,.lit aZ,.lit aZ]])
    refine aA7 cs qc hb todo k (i+1) _ _ (w++[⟨⟨t,c,[],[]⟩,x,.lit aZ,.lit aZ⟩]) q qr r g2 (by omega) (by simp;omega) (by omega) d' ?_ ?_ ql ?_ (by rw[List.map_append];exact h)
    .intro r hr
     rcases List.mem_append.1 hr with hr | hr
     .exact hn r hr
     .rw[List.mem_singleton.1 hr];exact⟨rfl,rfl⟩
    .rw[List.getElem?_set_ne (by decide)];exact hold h2
    .exact .cons (ha.get rfl) (.cons (ha.get rfl) (.cons (ha.get rfl) (.cons (by rw[<-O1 (by omega)];exact ha.get rfl) (.cons (ha.get rfl) (.cons (ha.get rfl) (.cons (by rw[ha.get (k:=7) rfl];simp) ⟨ha.ln,λ_ _ h=>by cases h⟩))))))
   | false=>
    rw[ht] at h
    refine WC.condF (ha.get rfl) ht (WC.reg (AO.mov ha rfl λtm ha=>AO.mov ha rfl λtm ha=>AO.op ha (aEm qx (ha.get rfl)) λtm ha=>AO.op ha (aEp (es:=qr) (ys:=[[vJ x]]) (ha.get rfl) (by rw[ha.get (k:=40) rfl];rfl) h2 (by decide) rfl (by simp) (by decide) (by simp;omega)) λtm ha=>AO.mov ha rfl λtm ha=>AO.nil ha ?_))
    refine WC.reg (AO.op ha (Lj (ha.get rfl) rfl rfl) λtm ha=>AO.mov ha rfl λtm ha=>AO.nil ha ?_)
    have d':DA xn xa xf w (H.set 2 (.blk 1 (qr++[[vJ x]]))):=⟨by rw[List.getElem?_set_ne (by decide)];exact d.h0,by rw[List.getElem?_set_ne (by decide)];exact d.h1,by simp;exact d.h3,⟨d.i.co,λi r hr=>(d.i.cx i r hr).mono λk hk=>List.getElem?_set_ne (by have:=((d.i.cx i r hr).id hk).1;omega),λi r hr=>(d.i.cy i r hr).mono λk hk=>List.getElem?_set_ne (by have:=((d.i.cy i r hr).id hk).1;omega),d.i.ne⟩⟩
    refine aA7 cs qc hb todo k (i+1) _ _ w (q++[c]) (qr++[[vJ x]]) r g2 (by omega) (by omega) (by simp;omega) d' hn ?_ (ql.app ⟨⟨nZ.c (c:=.sl 3) (x:=c) qx,trivial⟩,trivial⟩) ?_ h
    .rw[List.getElem?_set_self (List.getElem?_eq_some_iff.1 h2).1]
    .exact .cons (ha.get rfl) (.cons (ha.get rfl) (.cons (ha.get rfl) (.cons (by rw[<-O1 (by omega)];exact ha.get rfl) (.cons (ha.get rfl) (.cons (ha.get rfl) (.cons (ha.get rfl) ⟨ha.ln,λ_ _ h=>by cases h⟩))))))
end
section
variable {p:aX}{m:List (Int×List Aaa)}{xn xa xf xm:AV}{w:List RA}{tm:List AV}{H:aM}
variable (qn:Qp (.vw 0 p.Nodes) xn)(qa:Qp (.vw 2 p.Arcs) xa)(qf:Qp (.vw 3 p.Faces) xf)(qm:Qp (.rmp 3 13 m) xm)
theorem aFh{a:Aaa}{e:List AV}(q:Qr (iH 1 a) e): e=[iv a.X,iv a.Y]:=by
 match e,q with
 | [x,y],h=>obtain⟨h1,h2,_⟩:=h;cases h1;cases h2;rfl
theorem aCU{a:Int}{e:List AV}(q:Qr (iH 3 a) e): e=[iv a]:=by
 match e,q with
 | [x],h=>obtain⟨h1,_⟩:=h;cases h1;rfl
include qm in
theorem aA2{n:Nat}{x y z:aQ}{i:Int}{a:Aaa}(d:DA xn xa xf w H)(hx:aC tm x=xm)(hy:aC tm y=.ms 1 w.length 0 w.length)(hz:aC tm z=.agg [iv a.X,iv a.Y])(h:eA n m ((w.map RA.a).map arV) a=some i):
 aI PP (dK PP T n) 0 (.callB 112 [x,y,z]) tm H=some (iv i,H):=by
 have e:eK H xm=lQ H xm:=by
  obtain⟨rows,h1,_⟩:=qm.inM
  rcases h1 with⟨rfl,_⟩ | rfl<;>rfl
 obtain⟨A,r,h1,h2⟩:=FN (a:=.undef) aAp (n:=n) (p:=(m,(w.map RA.a).map arV,a)) (r:=i) h (λr=>⟨r,rfl⟩) (aw:=[lQ H xm,lQ H (.ms 1 w.length 0 w.length),.agg [iv a.X,iv a.Y]])
  ⟨.p _ _ (aHf qm),.p _ _ (d.i.view d.h1),Qh.mkA ⟨.l _,.l _,trivial⟩,trivial⟩
 have e2:eK H (.ms 1 w.length 0 w.length)=lQ H (.ms 1 w.length 0 w.length):=rfl
 have e3:eK H (.agg [iv a.X,iv a.Y])=.agg [iv a.X,iv a.Y]:=rfl
 simp only[aI,List.map_cons,List.map_nil,hx,hy,hz,e,e2,e3,h1]
 rw[h2];rfl
include qm in
theorem aGb{n:Nat}{k:Int}{x y:aQ}(hx:aC tm x=xm)(hy:aC tm y=iv k): ∃a,aI PP (dK PP T n) 0 (.lookup 3 (.lit aZ) x y false) tm H=some (a,H)/\Qp (.sl 1 ((cR m k).getD [])) a:=by
 have hq:Qt 2 ⟨[(0,.rmp 3 13 m),(1,.lit (.int .i64 k))],List.replicate H.length .gone⟩ ⟨[xm,iv k],H⟩:=⟨rfl,λt v hv=>(by
  match t,hv with
  | 0,hv=>cases hv;exact⟨_,rfl,.p _ _ qm⟩
  | 1,hv=>cases hv;exact⟨_,rfl,.l _⟩
  | _+2,hv=>cases hv),aHP H⟩
 obtain⟨v,A',tv,S',h1,_,h3,h4⟩:=SP (P:=PP) (T:=T) (cf:=dK PP T n) (n:=n) (d:=some 0) (E:=((⟨C0,[],[],[],[]⟩:En PP T 2 0 .skip).xe GlC.g)) (K:=λtv _=>some tv) (r:=.sl 1 ((cR m k).getD []))
  (En.ok _ _) hq (kt:=3) (z:=.lit aZ) (m:=.tmp 0) (k:=.tmp 1) (ok:=false) (by kernel_rfl)
 rw[aHZ h1] at h1
 obtain rfl:=Option.some.inj h4
 have e:aI PP (dK PP T n) 0 (.lookup 3 (.lit aZ) x y false) tm H=aI PP (dK PP T n) 0 (.lookup 3 (.lit aZ) (.tmp 0) (.tmp 1) false) [xm,iv k] H:=by
  simp only[aI,hx,hy];rfl
 exact⟨v,e.trans h1,h3.pu trivial⟩
theorem RA.c_le(r:RA){k:Nat}(h:k<=4): k<=r.c.length:=h
def aH9: Bool->Nat
 | true=>3
 | false=>2
def upR(u:Bool)(r:RA)(a':eO)(v:AV): RA:=match u with
 | true=>⟨a',r.o,r.x,v⟩
 | false=>⟨a',r.o,v,r.y⟩
theorem aA5{u:Bool}{j bytes:Nat}{ro:RA}{a':eO}{row:List AV}{kd:Nat}{l:List (den kd)}{e:den kd}(d:DA xn xa xf w H)(hj:w[j]?=some ro)(hr:Qr (iH kd e) row)(h1:row.length=1)(hb:bytes<=100000)(hl:l.length<=200000)(hc:gR kd H (WM ro u) l)(ho:a'.outer=ro.a.outer/\a'.twice=ro.a.twice)(hx:(u=false/\∀H' v,gR kd H' v (l++[e])->gR 12 H' v a'.inner)\/(u=true/\a'.inner=ro.a.inner))(hy:(u=true/\∀H' v,gR kd H' v (l++[e])->gR 3 H' v a'.alone)\/(u=false/\a'.alone=ro.a.alone)):
 ∃k z H',cC 0 H 1 bytes (WM ro u) [row]=some (.ms k z 0 z,H')/\H'[1]?=some (.blk 4 (w.map RA.c))/\H'[2]?=H[2]? /\
  DA xn xa xf (w.set j (upR u ro a' (.ms k z 0 z))) (H'.set 1 (.blk 4 ((w.map RA.c).set j (aU ro.c (aH9 u) [.ms k z 0 z])))):=by
 obtain⟨k,es,H',g1,g2,g3,g4,g5,g6,g7⟩:=hc.grow hr h1 hb hl d.h3
 have e1:H'[1]?=some (.blk 4 (w.map RA.c)):=(g5 1 (by omega)).trans d.h1
 refine⟨k,es.length,H',g1,e1,g5 2 (by omega),?_⟩
 have es1:aU ro.c (aH9 u) [AV.ms k es.length 0 es.length]=(upR u ro a' (.ms k es.length 0 es.length)).c:=by
  cases u<;>simp only[upR,RA.c,ho.2]<;>rfl
 rw[es1,<-List.map_set]
 have h3:=d.h3
 have hn:∀q,3<=q->(H'.set 1 (cN.blk 4 ((w.set j (upR u ro a' (.ms k es.length 0 es.length))).map RA.c)))[q]?=H'[q]?:=λq hq=>List.getElem?_set_ne (by omega)
 refine⟨by rw[List.getElem?_set_ne (by decide),g5 0 (by omega)];exact d.h0,List.getElem?_set_self (by omega),by simp;omega,?_⟩
 have hC:gR kd (H'.set 1 (.blk 4 ((w.set j (upR u ro a' (.ms k es.length 0 es.length))).map RA.c))) (.ms k es.length 0 es.length) (l++[e]):=.inr ⟨k,es,rfl,g2,by rw[hn k g2];exact g3,g4⟩
 refine d.i.upd (u:=u) hj g2 g5 g6 (λq hq=>List.getElem?_set_ne (Ne.symm hq)) (by cases u<;>exact⟨rfl,ho.1⟩) ?_ ?_ (by cases u<;>rfl) (by cases u<;>rfl)
 .rcases hx with⟨rfl,h⟩ | ⟨rfl,h⟩
  .exact .inl (h _ _ hC)
  .exact .inr ⟨rfl,h,rfl⟩
 .rcases hy with⟨rfl,h⟩ | ⟨rfl,h⟩
  .exact .inl (h _ _ hC)
  .exact .inr ⟨rfl,h,rfl⟩
include qm in
theorem aEq{n N:Nat}(cs:List (List Int))(qr:List (List AV))(qq:Ql 12 cs qr)(hb:cs.length<=200000): ∀(todo:List (List Int)) (k i:Nat) (tm:List AV) (H:aM) (w:List RA) (r:List eO),cs.drop i=todo->todo.length<k->i<=cs.length->
 DA xn xa xf w H->H[2]?=some (.blk 1 qr)->(∀(j:Nat) (s:RA),w[j]?=some s->s.a.inner.length+s.a.alone.length<=i)->At 110 ((43,.ms 2 qr.length 0 qr.length)::(44,iv (qr.length:Nat))::(45,iv i)::dB xm w) tm->dv2 n m todo (w.map RA.a)=some r->
 WL PP (dK PP T n) n 0 N (bl 0x38000000008c 46) false aGe k ⟨tm,H⟩ λx s=>x=.exit 2/\∃w',w'.map RA.a=r/\DA xn xa xf w' s.heap/\(∀(j:Nat) (s:RA),w'[j]?=some s->s.a.inner.length+s.a.alone.length<=cs.length)/\At 110 (dB xm w') s.tmps
 | todo,0,i,tm,H,w,r,_,h,_,_,_,_,_,_=>by omega
 | todo,k+1,i,tm,H,w,r,hd,hk,hi0,d,h2,hs,ha,h=>by
  have hql:qr.length=cs.length:=qq.len
  apply WL.step
  show WC PP (dK PP T n) n 0 aGe ⟨bS (bl 0x38000000008c 46) tm,H⟩ _
  replace ha:At 110 ((43,.ms 2 qr.length 0 qr.length)::(44,iv (qr.length:Nat))::(45,iv i)::dB xm w) (bS (bl 0x38000000008c 46) tm):=
   .cons (ha.live _ rfl rfl) (.cons (ha.live _ rfl rfl) (.cons (ha.live _ rfl rfl) (.cons (ha.live _ rfl rfl) (.cons (ha.live _ rfl rfl) (.cons (ha.live _ rfl rfl) (ha.mask _))))))
  generalize bS (bl 0x38000000008c 46) tm=tm at ha |-
  refine WC.seq (WC.reg (AO.op ha (Lj (ha.get rfl) (ha.get rfl) rfl) λtm ha=>AO.nil ha (WC.seq ?_)))
  cases todo with
  | nil=>
   have hi:cs.length<=i:=by
    have:=congrArg List.length hd
    rw[List.length_drop,List.length_nil] at this;omega
   cases h
   refine WC.condF (ha.get rfl) (decide_eq_false (by omega)) (WC.exit ⟨rfl,w,rfl,d,λj s hj=>Nat.le_trans (hs j s hj) hi0,.cons (ha.get rfl) (.cons (ha.get rfl) (.cons (ha.get rfl) ⟨ha.ln,λ_ _ h=>by cases h⟩))⟩)
  | cons c todo=>
   obtain⟨g1,g2,g3⟩:=Vk hd
   simp only[List.length_cons] at hk
   simp only[dv2] at h
   obtain⟨t,e1,h⟩:=aV h
   obtain⟨a,e2,h⟩:=aV h
   obtain⟨ix,e3,h⟩:=aV h
   obtain⟨ra,e4,h⟩:=aV h
   refine WC.condT (ha.get rfl) (decide_eq_true (by omega)) (WC.skip (WC.seq (WC.block (WC.seq ?_))))
   obtain⟨row,hrow,q1⟩:=qq.get g1
   obtain⟨x,rfl,qx⟩:∃x,row=[x]/\Qp (.sl 3 c) x:=by
    match row,q1 with
    | [x],h=>exact⟨x,rfl,h.1⟩
   refine WC.reg (AO.op ha (UI (ha.get rfl) (ha.get rfl) h2 rfl (Int.natCast_nonneg i) (by simp;omega)) λtm ha=>AO.op ha (Qe (v:=x) (e:=[x]) (ha.get rfl) h2 rfl (by simpa using hrow) (Nat.le_refl 1) rfl) λtm ha=>AO.mov ha rfl λtm ha=>AO.nil ha (WC.seq (WC.reg ?_)))
   obtain⟨r1,q1,e51⟩:=x9 (P:=PP) (cf:=dK PP T n) (fl:=0) (tm:=[x,iv 0]) (x:=.tmp 0) (i:=.tmp 1) (H:=H) (s:=1) qx.w rfl rfl e1 rfl
   obtain rfl:=aCU q1
   have e51:∀{tm:List AV} {y:aQ},aC tm y=x->aI PP (dK PP T n) 0 (.idxAddr 1 y (.lit z0)) tm H=some (.rptr [iv t],H):=λ{tm y} hy=>by
    rw[<-e51];simp only[aI,hy];rfl
   have e58:=λ(tm:List AV)=>aGb (H:=H) (n:=n) (tm:=[xm,iv (Fk t (wr (0-t)))]) qm (x:=.tmp 0) (y:=.tmp 1) rfl rfl
   obtain⟨b,e58,qb⟩:=e58 tm
   have e58:∀{tm:List AV} {y z:aQ},aC tm y=xm->aC tm z=iv (Fk t (wr (0-t)))->aI PP (dK PP T n) 0 (.lookup 3 (.lit aZ) y z false) tm H=some (b,H):=λ{tm y z} hy hz=>by
    rw[<-e58];simp only[aI,hy,hz];rfl
   obtain⟨r2,q2,e62⟩:=x9 (P:=PP) (cf:=dK PP T n) (fl:=0) (tm:=[b,iv 0]) (x:=.tmp 0) (i:=.tmp 1) (H:=H) (s:=2) qb.w rfl rfl e2 rfl
   obtain rfl:=aFh q2
   have e62:∀{tm:List AV} {y:aQ},aC tm y=b->aI PP (dK PP T n) 0 (.idxAddr 2 y (.lit z0)) tm H=some (.rptr [iv a.X,iv a.Y],H):=λ{tm y} hy=>by
    rw[<-e62];simp only[aI,hy];rfl
   refine AO.mov ha rfl λtm ha=>AO.mov ha rfl λtm ha=>AO.op ha (e51 (ha.get rfl)) λtm ha=>AO.op ha (aA1 (ha.get rfl)) λtm ha=>AO.mov ha rfl λtm ha=>AO.op ha (e51 (ha.get rfl)) λtm ha=>AO.op ha (aA1 (ha.get rfl)) λtm ha=>AO.op ha (aHX (ha.get rfl)) λtm ha=>AO.op ha (aHY (ha.get rfl) (ha.get rfl)) λtm ha=>AO.op ha (e58 (ha.get rfl) (ha.get rfl)) λtm ha=>AO.mov ha rfl λtm ha=>AO.nil ha (WC.seq (WC.reg ?_))
   refine AO.mov ha rfl λtm ha=>AO.mov ha rfl λtm ha=>AO.mov ha rfl λtm ha=>AO.op ha (e62 (ha.get rfl)) λtm ha=>AO.op ha (aEo (n:=2) (ha.get rfl) rfl) λtm ha=>AO.op ha (aA2 qm d (ha.get rfl) (ha.get rfl) (ha.get rfl) e3) λtm ha=>AO.mov ha rfl λtm ha=>AO.nil ha (WC.reg ?_)
   obtain⟨f1,f2,f3⟩:=kE e4
   obtain⟨ro,f4,rfl⟩:∃ro,w[ix.toNat]?=some ro/\ro.a=ra:=by
    rw[List.getElem?_map,Option.map_eq_some_iff] at f2;exact f2
   have hlt:ix.toNat<w.length:=(List.getElem?_eq_some_iff.1 f4).1
   have hbo:=hs _ _ f4
   have f5:(w.map RA.c)[ix.toNat]?=some ro.c:=by rw[List.getElem?_map,f4];rfl
   obtain⟨kk,z,H',p1,p2,p3,p4⟩:=aA5 (u:=false) (bytes:=24) (a':=⟨ro.a.twice,ro.a.outer,ro.a.inner++[c],ro.a.alone⟩) (kd:=12) (l:=ro.a.inner) (e:=c) (row:=[vJ x]) d f4 ⟨nZ.c (c:=.sl 3) (x:=c) qx,trivial⟩ rfl (by decide) (by omega) (d.i.cx _ _ f4) ⟨rfl,rfl⟩ (.inl ⟨rfl,λ_ _ h=>h⟩) (.inr ⟨rfl,rfl⟩)
   refine AO.mov ha rfl λtm ha=>AO.mov ha rfl λtm ha=>AO.mov ha rfl λtm ha=>AO.mov ha rfl λtm ha=>AO.op ha (UI (ha.get rfl) (ha.get rfl) d.h1 (by simp) f1 hlt) λtm ha=>AO.op ha (UJ (ha.get rfl)) λtm ha=>AO.op ha (Qe (v:=ro.x) (ha.get rfl) d.h1 (by simp) f5 (ro.c_le (by decide)) rfl) λtm ha=>AO.mov ha rfl λtm ha=>AO.op ha (aEm qx (ha.get rfl)) λtm ha=>AO.op ha (aA4 (ha.get rfl) (by rw[ha.get (k:=73) rfl];rfl) p1) λtm ha=>
    AO.op ha (UI (ha.get rfl) (ha.get rfl) p2 (by simp) f1 hlt) λtm ha=>AO.op ha (UJ (ha.get rfl)) λtm ha=>AO.sto ha (aHV (ha.get rfl) (ha.get rfl) p2 (by simp) f5 (ro.c_le (by decide)) (by decide)) (AO.nil ha (WC.reg ?_))
   refine AO.op ha (Lj (ha.get rfl) rfl rfl) λtm ha=>AO.mov ha rfl λtm ha=>AO.nil ha ?_
   refine aEq cs qr qq hb todo k (i+1) _ _ _ r g2 (by omega) (by omega) p4 (by rw[List.getElem?_set_ne (by decide),p3];exact h2) ?_ ?_ (by rw[List.map_set];exact h)
   .intro j s hj
    by_cases e:ix.toNat=j
    .subst e
     rw[List.getElem?_set_self hlt] at hj;cases hj
     simp only[upR,List.length_append,List.length_singleton];omega
    .rw[List.getElem?_set_ne e] at hj
     exact Nat.le_succ_of_le (hs j s hj)
   .exact .cons (ha.get rfl) (.cons (ha.get rfl) (.cons (by rw[<-O1 (by omega)];exact ha.get rfl) (.cons (ha.get rfl) (.cons (ha.get rfl) (.cons (by rw[List.length_set];exact ha.get rfl) ⟨ha.ln,λ_ _ h=>by cases h⟩)))))
end
section
variable {p:aX}{m:List (Int×List Aaa)}{xn xa xf xm:AV}{w:List RA}{tm:List AV}{H:aM}
variable (qn:Qp (.vw 0 p.Nodes) xn)(qa:Qp (.vw 2 p.Arcs) xa)(qf:Qp (.vw 3 p.Faces) xf)(qm:Qp (.rmp 3 13 m) xm)
include qn qa qf in
theorem aA3{n:Nat}{x y:aQ}{c t:Int}(e:mU n p c=some t)(hx:aC tm x=.agg [xn,xa,xf])(hy:aC tm y=iv c): aI PP (dK PP T n) 0 (.callB 113 [x,y]) tm H=some (iv t,H):=by
 obtain⟨A,r,h1,h2⟩:=FN (a:=.undef) YV (n:=n) (p:=(p,c)) (r:=t) e (λr=>⟨r,rfl⟩) (aw:=[eK H (.agg [xn,xa,xf]),iv c])
  ⟨Qh.mkA ⟨.p _ _ (VU qn),.p _ _ (VU qa),.p _ _ (VU qf),trivial⟩,.l _,trivial⟩
 have e2:eK H (iv c)=iv c:=rfl
 simp only[aI,List.map_cons,List.map_nil,hx,hy,e2,h1]
 rw[h2];rfl
theorem aF1{a:cW}{e:List AV}(q:Qr (iH 0 a) e): e=[iv a.ID,iv a.At.X,iv a.At.Y]:=by
 match e,q with
 | [x,y,z],h=>obtain⟨h1,h2,h3,_⟩:=h;cases h1;cases h2;cases h3;rfl
theorem DA.more(d:DA xn xa xf w H)(o:cN): DA xn xa xf w (H++[o]):=by
 have g:∀k,3<=k->k<H.length->(H++[o])[k]?=H[k]?:=λk _ h=>List.getElem?_append_left h
 refine⟨hold d.h0,hold d.h1,by simp;have:=d.h3;omega,⟨d.i.co,λi r hr=>(d.i.cx i r hr).mono λk hk=>?_,λi r hr=>(d.i.cy i r hr).mono λk hk=>?_,d.i.ne⟩⟩
 .obtain⟨h3,b,hb⟩:=(d.i.cx i r hr).id hk
  exact g k h3 (List.getElem?_eq_some_iff.1 hb).1
 .obtain⟨h3,b,hb⟩:=(d.i.cy i r hr).id hk
  exact g k h3 (List.getElem?_eq_some_iff.1 hb).1
include qn qa qf qm in
theorem aA6{n N:Nat}(hb:p.Nodes.length<=9000): ∀(todo:List cW) (k i:Nat) (tm:List AV) (H:aM) (w:List RA) (r:List eO),p.Nodes.drop i=todo->todo.length<k->i<=p.Nodes.length->
 DA xn xa xf w H->(∀(j:Nat) (s:RA),w[j]?=some s->s.a.inner.length+s.a.alone.length<=190000+i)->At 110 ((79,xn)::(80,iv (p.Nodes.length:Nat))::(81,iv i)::dB xm w) tm->dv3 n p m todo (w.map RA.a)=some r->
 WL PP (dK PP T n) n 0 N (bl 0x38000000000000000008c 82) false aGd k ⟨tm,H⟩ λx s=>x=.exit 4/\∃w',w'.map RA.a=r/\DA xn xa xf w' s.heap/\At 110 (dB xm w') s.tmps
 | todo,0,i,tm,H,w,r,_,h,_,_,_,_,_=>by omega
 | todo,k+1,i,tm,H,w,r,hd,hk,hi0,d,hs,ha,h=>by
  apply WL.step
  show WC PP (dK PP T n) n 0 aGd ⟨bS (bl 0x38000000000000000008c 82) tm,H⟩ _
  replace ha:At 110 ((79,xn)::(80,iv (p.Nodes.length:Nat))::(81,iv i)::dB xm w) (bS (bl 0x38000000000000000008c 82) tm):=
   .cons (ha.live _ rfl rfl) (.cons (ha.live _ rfl rfl) (.cons (ha.live _ rfl rfl) (.cons (ha.live _ rfl rfl) (.cons (ha.live _ rfl rfl) (.cons (ha.live _ rfl rfl) (ha.mask _))))))
  generalize bS (bl 0x38000000000000000008c 82) tm=tm at ha |-
  refine WC.seq (WC.reg (AO.op ha (Lj (ha.get rfl) (ha.get rfl) rfl) λtm ha=>AO.nil ha (WC.seq ?_)))
  cases todo with
  | nil=>
   have hi:p.Nodes.length<=i:=by
    have:=congrArg List.length hd
    rw[List.length_drop,List.length_nil] at this;omega
   cases h
   exact WC.condF (ha.get rfl) (decide_eq_false (by omega)) (WC.exit ⟨rfl,w,rfl,d,.cons (ha.get rfl) (.cons (ha.get rfl) (.cons (ha.get rfl) ⟨ha.ln,λ_ _ h=>by cases h⟩))⟩)
  | cons c todo=>
   obtain⟨g1,g2,g3⟩:=Vk hd
   simp only[List.length_cons] at hk
   simp only[dv3] at h
   obtain⟨t,e1,h⟩:=aV h
   refine WC.condT (ha.get rfl) (decide_eq_true (by omega)) (WC.skip (WC.seq (WC.block (WC.seq ?_))))
   obtain⟨row,q1,e83⟩:=x9 (P:=PP) (cf:=dK PP T n) (fl:=0) (H:=H) (s:=3) qn (ha.get (k:=79) rfl) (ha.get (k:=81) rfl) (aAh g1) rfl
   obtain rfl:=aF1 q1
   have d:=d.more (.blk 3 [[iv c.ID,iv c.At.X,iv c.At.Y]])
   have hH:((H++[cN.blk 3 [[iv 0,iv 0,iv 0]]]).set H.length (.blk 3 [[iv c.ID,iv c.At.X,iv c.At.Y]]))=H++[.blk 3 [[iv c.ID,iv c.At.X,iv c.At.Y]]]:=by
    rw[List.set_append_right _ _ (Nat.le_refl _),Nat.sub_self];rfl
   have e17:∀{tm:List AV},aI PP (dK PP T n) 0 (.alloc [z0,z0,z0]) tm H=some (.ptr H.length 1 0 0,H++[.blk 3 [[iv 0,iv 0,iv 0]]]):=rfl
   have est:∀{tm:List AV} {x y:aQ},aC tm x=.ptr H.length 1 0 0->aC tm y=.agg [iv c.ID,iv c.At.X,iv c.At.Y]->aI PP (dK PP T n) 0 (.store 3 x y) tm (H++[.blk 3 [[iv 0,iv 0,iv 0]]])=some (.lit aW,H++[.blk 3 [[iv c.ID,iv c.At.X,iv c.At.Y]]]):=λ{tm x y} hx hy=>by
    rw[<-hH];simp only[aI,hx,hy,cellsOf,eM,aFN];rfl
   refine WC.reg (AO.op ha e83 λtm ha=>AO.op ha (aEo (n:=3) (ha.get rfl) rfl) λtm ha=>AO.op ha e17 λtm ha=>AO.sto ha (est (ha.get rfl) (ha.get rfl)) (AO.nil ha (WC.seq (WC.reg ?_))))
   have hn:=aFN H (.blk 3 [[iv c.ID,iv c.At.X,iv c.At.Y]])
   generalize H++[.blk 3 [[iv c.ID,iv c.At.X,iv c.At.Y]]]=H2 at d hn |-
   refine AO.op ha (Qe (ha.get rfl) d.h0 rfl rfl (Nat.le_refl 3) rfl) λtm ha=>AO.op ha (UJ (ha.get rfl)) λtm ha=>AO.op ha (Qe (v:=iv c.ID) (ha.get rfl) hn rfl rfl (Nat.le_of_ble_eq_true rfl) rfl) λtm ha=>AO.op ha (aA3 qn qa qf e1 (ha.get rfl) (ha.get rfl)) λtm ha=>AO.op ha (Lj (ha.get rfl) rfl rfl) λtm ha=>AO.nil ha ?_
   cases ht:(t==0) with
   | false=>
    rw[ht] at h
    refine WC.condF (ha.get rfl) ht (WC.skip (WC.reg (AO.op ha (Lj (ha.get rfl) rfl rfl) λtm ha=>AO.mov ha rfl λtm ha=>AO.nil ha ?_)))
    exact aA6 hb todo k (i+1) _ _ w r g2 (by omega) (by omega) d (λj s hj=>Nat.le_succ_of_le (hs j s hj)) (.cons (ha.get rfl) (.cons (ha.get rfl) (.cons (by rw[<-O1 (by omega)];exact ha.get rfl) (.cons (ha.get rfl) (.cons (ha.get rfl) (.cons (ha.get rfl) ⟨ha.ln,λ_ _ h=>by cases h⟩)))))) h
   | true=>
    rw[ht] at h
    obtain⟨ix,e3,h⟩:=aV h
    obtain⟨ra,e4,h⟩:=aV h
    refine WC.condT (ha.get rfl) ht (WC.seq (WC.reg ?_))
    refine AO.mov ha rfl λtm ha=>AO.mov ha rfl λtm ha=>AO.op ha (UJ (ha.get rfl)) λtm ha=>AO.op ha (Qe (v:=.agg [iv c.At.X,iv c.At.Y]) (ha.get rfl) hn rfl rfl (Nat.le_of_ble_eq_true rfl) rfl) λtm ha=>AO.op ha (aA2 qm d (ha.get rfl) (ha.get rfl) (ha.get rfl) e3) λtm ha=>AO.mov ha rfl λtm ha=>AO.nil ha (WC.reg ?_)
    obtain⟨f1,f2,f3⟩:=kE e4
    obtain⟨ro,f4,rfl⟩:∃ro,w[ix.toNat]?=some ro/\ro.a=ra:=by
     rw[List.getElem?_map,Option.map_eq_some_iff] at f2;exact f2
    have hlt:ix.toNat<w.length:=(List.getElem?_eq_some_iff.1 f4).1
    have hbo:=hs _ _ f4
    have f5:(w.map RA.c)[ix.toNat]?=some ro.c:=by rw[List.getElem?_map,f4];rfl
    obtain⟨kk,z,H',p1,p2,p3,p4⟩:=aA5 (u:=true) (bytes:=8) (a':=⟨ro.a.twice,ro.a.outer,ro.a.inner,ro.a.alone++[c.ID]⟩) (kd:=3) (l:=ro.a.alone) (e:=c.ID) (row:=[iv c.ID]) d f4 ⟨.lit _,trivial⟩ rfl (by decide) (by omega) (d.i.cy _ _ f4) ⟨rfl,rfl⟩ (.inr ⟨rfl,rfl⟩) (.inl ⟨rfl,λ_ _ h=>h⟩)
    refine AO.mov ha rfl λtm ha=>AO.mov ha rfl λtm ha=>AO.mov ha rfl λtm ha=>AO.mov ha rfl λtm ha=>AO.op ha (UI (ha.get rfl) (ha.get rfl) d.h1 (by simp) f1 hlt) λtm ha=>AO.op ha (UJ (ha.get rfl)) λtm ha=>AO.op ha (Qe (v:=ro.y) (ha.get rfl) d.h1 (by simp) f5 (ro.c_le (by decide)) rfl) λtm ha=>AO.op ha (UJ (ha.get rfl)) λtm ha=>AO.op ha (Qe (v:=iv c.ID) (ha.get rfl) hn rfl rfl (Nat.le_of_ble_eq_true rfl) rfl) λtm ha=>AO.op (v:=.sl true [[iv c.ID]]) (H':=H2) ha (by
     simp only[aI,List.map_cons,List.map_nil,ha.get (k:=103) rfl];rfl) λtm ha=>AO.op ha (aA4 (ha.get rfl) (by rw[ha.get (k:=104) rfl];rfl) p1) λtm ha=>
     AO.op ha (UI (ha.get rfl) (ha.get rfl) p2 (by simp) f1 hlt) λtm ha=>AO.op ha (UJ (ha.get rfl)) λtm ha=>AO.sto ha (aHV (ha.get rfl) (ha.get rfl) p2 (by simp) f5 (ro.c_le (by decide)) (by decide)) (AO.nil ha (WC.reg ?_))
    refine AO.op ha (Lj (ha.get rfl) rfl rfl) λtm ha=>AO.mov ha rfl λtm ha=>AO.nil ha ?_
    refine aA6 hb todo k (i+1) _ _ _ r g2 (by omega) (by omega) p4 ?_ ?_ (by rw[List.map_set];exact h)
    .intro j s hj
     by_cases e:ix.toNat=j
     .subst e
      rw[List.getElem?_set_self hlt] at hj;cases hj
      simp only[upR,List.length_append,List.length_singleton];omega
     .rw[List.getElem?_set_ne e] at hj
      exact Nat.le_succ_of_le (hs j s hj)
    .exact .cons (ha.get rfl) (.cons (ha.get rfl) (.cons (by rw[<-O1 (by omega)];exact ha.get rfl) (.cons (ha.get rfl) (.cons (ha.get rfl) (.cons (by rw[List.length_set];exact ha.get rfl) ⟨ha.ln,λ_ _ h=>by cases h⟩)))))
end
theorem J9(n:Nat)(p:aX)(cs:List (List Int))(m:List (Int×List Aaa))(r:List eO)(h:lX n p cs m=some r){xn xa xf xc xm:AV}(qn:Qp (.vw 0 p.Nodes) xn)(qa:Qp (.vw 2 p.Arcs) xa)(qf:Qp (.vw 3 p.Faces) xf)(qc:Qp (.vw 12 cs) xc)(qm:Qp (.rmp 3 13 m) xm):
 ∃w H,dK PP T n 0 88 [.agg [xn,xa,xf],xc,xm] []=some (.ms 1 w.length 0 w.length,H)/\w.map RA.a=r/\DA xn xa xf w H:=by
 cases n with
 | zero=>cases h
 | succ n=>
  rw[lX] at h
  obtain⟨_,eg,h⟩:=aV h
  obtain⟨b1,b2,b3,b4⟩:=of_decide_eq_true (iU eg)
  obtain⟨lq,e1,h⟩:=aV h
  obtain⟨l2,e2,h⟩:=aV h
  have key:WC PP (dK PP T n) n 0 (GO T 88).body ⟨[.agg [xn,xa,xf],xc,xm]++List.replicate 107 (.lit aW),[]⟩ λx s=>x=.ret/\∃w,w.map RA.a=r/\DA xn xa xf w s.heap/\aC s.tmps (.tmp 6)=.ms 1 w.length 0 w.length:=by
   rw[aDh]
   have ha:At 110 [(0,.agg [xn,xa,xf]),(1,xc),(2,xm)] ([.agg [xn,xa,xf],xc,xm]++List.replicate 107 (.lit aW)):=.cons rfl (.cons rfl (.cons rfl ⟨rfl,λ_ _ h=>by cases h⟩))
   generalize [AV.agg [xn,xa,xf],xc,xm]++List.replicate 107 (.lit aW)=tm at ha
   refine WC.seq (WC.reg (AO.op (v:=.ptr 0 1 0 0) (H':=[.blk 3 [[xn,xa,xf]]]) ha (by simp only[aI,ha.get (k:=0) rfl];rfl) λtm ha=>AO.op (v:=.sl false []) (H':=[.blk 3 [[xn,xa,xf]]]) ha rfl λtm ha=>AO.nil ha (WC.seq (WC.reg ?_))))
   refine AO.op (v:=.agg [iv 0,.lit aZ,.lit aZ,.lit aZ]) (H':=[.blk 3 [[xn,xa,xf]]]) ha rfl λtm ha=>AO.op (v:=.ms 1 1 0 1) (H':=[.blk 3 [[xn,xa,xf]],.blk 4 [[iv 0,.lit aZ,.lit aZ,.lit aZ]]]) ha (by simp only[aI,List.map_cons,List.map_nil,ha.get (k:=19) rfl];rfl) λtm ha=>AO.mov ha rfl λtm ha=>AO.nil ha (WC.seq (WC.reg ?_))
   refine AO.op (v:=.ms 2 0 0 0) (H':=[.blk 3 [[xn,xa,xf]],.blk 4 [[iv 0,.lit aZ,.lit aZ,.lit aZ]],.blk 1 []]) ha rfl λtm ha=>AO.nil ha (WC.seq (WC.seq (WC.reg ?_)))
   refine AO.mov ha rfl λtm ha=>AO.op ha (aEn qc (ha.get rfl)) λtm ha=>AO.op (v:=iv 0) ha rfl λtm ha=>AO.nil ha ?_
   have d0:DA xn xa xf [⟨⟨0,[],[],[]⟩,.lit aZ,.lit aZ,.lit aZ⟩] [.blk 3 [[xn,xa,xf]],.blk 4 [[iv 0,.lit aZ,.lit aZ,.lit aZ]],.blk 1 []]:=by
    have g:∀(i:Nat) (r:RA),[(⟨⟨0,[],[],[]⟩,.lit aZ,.lit aZ,.lit aZ⟩:RA)][i]?=some r->r=⟨⟨0,[],[],[]⟩,.lit aZ,.lit aZ,.lit aZ⟩:=λi r hr=>List.mem_singleton.1 (List.mem_of_getElem? hr)
    refine⟨rfl,rfl,Nat.le_refl 3,⟨λi r hr=>?_,λi r hr=>?_,λi r hr=>?_,λi j r s u v k hr _ hk _=>?_⟩⟩
    .rw[g i r hr];exact Qp.mkS (.inl ⟨rfl,rfl⟩) trivial
    .rw[g i r hr];exact .inl ⟨rfl,rfl⟩
    .rw[g i r hr];exact .inl ⟨rfl,rfl⟩
    .rw[g i r hr] at hk;cases u<;>cases hk
   refine WC.block (WC.mask (WC.loop ((aA7 (xm:=xm) qn qa qf cs qc b3 cs n 0 tm _ _ [] [] lq rfl b1 (by simp;omega) (by simp;omega) d0 (λr hr=>by rw[List.mem_singleton.1 hr];exact⟨rfl,rfl⟩) rfl trivial (.cons (ha.get rfl) (.cons (ha.get rfl) (.cons (ha.get rfl) (.cons (ha.get rfl) (.cons (ha.get rfl) (.cons (ha.get rfl) (.cons (ha.get rfl) ⟨ha.ln,λ_ _ h=>by cases h⟩))))))) e1).imp ?_)))
   rintro x s ⟨rfl,w,qr,rw1,d1,hn,h2,ql,ha,hw,hq⟩
   show WC PP (dK PP T n) n 0 _ ⟨bS (bl 0x18c 9) s.tmps,s.heap⟩ _
   replace ha:At 110 ((8,.ms 2 qr.length 0 qr.length)::dB xm w) (bS (bl 0x18c 9) s.tmps):=.cons (ha.live _ rfl rfl) (.cons (ha.live _ rfl rfl) (.cons (ha.live _ rfl rfl) (.cons (ha.live _ rfl rfl) (ha.mask _))))
   generalize bS (bl 0x18c 9) s.tmps=tm at ha
   generalize s.heap=H at d1 h2
   refine WC.seq (WC.seq (WC.reg (AO.mov ha rfl λtm ha=>AO.op (v:=iv (qr.length:Nat)) (H':=H) ha (by simp only[aI,ha.get (k:=43) rfl]) λtm ha=>AO.op (v:=iv 0) ha rfl λtm ha=>AO.nil ha ?_)))
   have hql:qr.length=lq.2.length:=ql.len
   have hin:∀(j:Nat) (s:RA),w[j]?=some s->s.a.inner.length+s.a.alone.length<=0:=λj s hj=>by
    have hm:=hn s (List.mem_of_getElem? hj)
    have c1:s.a.inner=[]:=by
     rcases d1.i.cx j s hj with⟨_,h⟩ | ⟨k,es,h,_⟩
     .exact h
     .rw[hm.1] at h;cases h
    have c2:s.a.alone=[]:=by
     rcases d1.i.cy j s hj with⟨_,h⟩ | ⟨k,es,h,_⟩
     .exact h
     .rw[hm.2] at h;cases h
    rw[c1,c2];exact Nat.le_refl _
   have hlq:lq.2.length<=cs.length:=by
    have:∀(cs:List (List Int)) (l:List eO) (q:List (List Int)) (r:List eO×List (List Int)),dv1 n p cs l q=some r->r.2.length<=q.length+cs.length:=by
     intro cs
     induction cs with
     | nil=>intro l q r h;cases h;exact Nat.le_refl _
     | cons c cs ih=>
      intro l q r h
      simp only[dv1] at h
      obtain⟨t,_,h⟩:=aV h
      simp only[List.length_cons]
      cases ht:decide (t > 0) with
      | true=>rw[ht] at h;have:=ih _ _ _ h;omega
      | false=>rw[ht] at h;have:=ih _ _ _ h;rw[List.length_append,List.length_singleton] at this;omega
    have:=this cs _ _ _ e1
    simp only[List.length_nil] at this;omega
   refine WC.block (WC.mask (WC.loop ((aEq (xn:=xn) (xa:=xa) (xf:=xf) qm lq.2 qr ql (by omega) lq.2 n 0 tm _ w l2 rfl (by omega) (Nat.zero_le _) d1 h2 hin (.cons (ha.get rfl) (.cons (ha.get rfl) (.cons (ha.get rfl) (.cons (ha.get rfl) (.cons (ha.get rfl) (.cons (ha.get rfl) ⟨ha.ln,λ_ _ h=>by cases h⟩)))))) (by rw[rw1];exact e2)).imp ?_)))
   rintro x s ⟨rfl,w2,rw2,d2,hs2,ha⟩
   show WC PP (dK PP T n) n 0 _ ⟨bS (bl 0x8c 8) s.tmps,s.heap⟩ _
   replace ha:At 110 (dB xm w2) (bS (bl 0x8c 8) s.tmps):=.cons (ha.live _ rfl rfl) (.cons (ha.live _ rfl rfl) (.cons (ha.live _ rfl rfl) (ha.mask _)))
   generalize bS (bl 0x8c 8) s.tmps=tm at ha
   generalize s.heap=H at d2
   refine WC.seq (WC.seq (WC.reg (AO.op ha (UJ (ha.get rfl)) λtm ha=>AO.op ha (Qe (v:=xn) (ha.get rfl) d2.h0 rfl rfl (Nat.le_of_ble_eq_true rfl) rfl) λtm ha=>AO.op ha (aEn qn (ha.get rfl)) λtm ha=>AO.op (v:=iv 0) ha rfl λtm ha=>AO.nil ha ?_)))
   refine WC.block (WC.mask (WC.loop ((aA6 qn qa qf qm b4 p.Nodes n 0 tm _ w2 r rfl b2 (Nat.zero_le _) d2 (λj s hj=>by have:=hs2 j s hj;omega) (.cons (ha.get rfl) (.cons (ha.get rfl) (.cons (ha.get rfl) (.cons (ha.get rfl) (.cons (ha.get rfl) (.cons (ha.get rfl) ⟨ha.ln,λ_ _ h=>by cases h⟩)))))) (by rw[rw2];exact h)).imp ?_)))
   rintro x s ⟨rfl,w3,rw3,d3,ha⟩
   show WC PP (dK PP T n) n 0 _ ⟨bS (bl 0x80 8) s.tmps,s.heap⟩ _
   replace ha:At 110 [(7,.ms 1 w3.length 0 w3.length)] (bS (bl 0x80 8) s.tmps):=.cons (ha.live _ rfl rfl) (ha.mask _)
   generalize bS (bl 0x80 8) s.tmps=tm at ha
   exact WC.seq (WC.reg (AO.mov ha rfl λtm ha=>AO.mov ha rfl λtm ha=>AO.nil ha (WC.ret ⟨rfl,w3,rw3,d3,ha.get rfl⟩)))
  obtain⟨x,s,k1,rfl,w,rfl,d,k2⟩:=key
  refine⟨w,s.heap,?_,rfl,d⟩
  rw[EM (GO T 88) (by kernel_rfl)]
  have e:(GO T 88).nt=110:=by kernel_rfl
  have e2:(GO T 88).rets=[.tmp 6]:=by kernel_rfl
  rw[e]
  show YL _ (cH PP (dK PP T n) n 0 (GO T 88).body ⟨[.agg [xn,xa,xf],xc,xm]++List.replicate 107 (.lit aW),[]⟩)=_
  rw[k1]
  simp only[YL,e2,dM,sK,k2,eH]
theorem YU: PG PP T 88 ⟨[.w 4,.w 22,.w 23],[27],true,λn p=>lX n p.1 p.2.1 p.2.2⟩:=by
 rintro n ⟨p,cs,m⟩ r h aw q
 match aw,q with
 | [pl,xc,xm],q=>
 obtain⟨q1,q2,q3,_⟩:=q
 obtain⟨b,rfl,q4⟩:=Qh.inA (cs:=[.vw 0 p.Nodes,.vw 2 p.Arcs,.vw 3 p.Faces]) q1
 clear q1
 match b,q4 with
 | [xn,xa,xf],q4=>
 obtain⟨qn,qa,qf,_⟩:=q4
 replace qn:=Qh.pu (v:=.vw 0 p.Nodes) qn trivial
 replace qa:=Qh.pu (v:=.vw 2 p.Arcs) qa trivial
 replace qf:=Qh.pu (v:=.vw 3 p.Faces) qf trivial
 have qc:Qp (.vw 12 cs) xc:=Qh.pu (v:=.vw 12 cs) q2 trivial
 have qm:Qp (.rmp 3 13 m) xm:=Qh.pu (v:=.rmp 3 13 m) q3 trivial
 obtain⟨w,H,k1,rfl,d⟩:=J9 n p cs m r h qn qa qf qc qm
 have hw:(w.map RA.c).length=w.length:=List.length_map _
 refine⟨[.ms 1 w.length 0 w.length],H,k1,?_,?_,?_⟩
 .intro H1
  refine⟨.p _ _ ?_,trivial⟩
  show Qp (.sl 26 (w.map RA.a)) (dZ H 0 6 (.ms 1 w.length 0 w.length))
  simp only[dZ,Nat.zero_le,if_true,rd,d.h1,hw,List.drop_zero]
  rw[List.take_of_length_le (by simp)]
  exact Qp.mkS (.inr ⟨_,rfl⟩) (d.i.rows (d:=4) λk _=>rfl)
 .intro a ha l e
  rw[List.mem_singleton.1 ha] at e;cases e
 .intro _ k y us hv
  cases hv
  refine⟨_,[],_,rfl,?_,d.i.rows (d:=5) (H':=H.set 1 (.blk 4 (w.map RA.c++[List.replicate 4 .undef]))) λk hk=>List.getElem?_set_ne (by omega)⟩
  simp only[Wi,d.h1,hw,Nat.beq_refl,Bool.and_self]
  rfl
def Yc: Kn:=⟨88,_,YU⟩
end
end
noncomputable section
abbrev C51:=Yc::C50
def Hm: Nat->aX->Int->Option Int
 | 0,_,_=>none
 | n+1,a,b=>(bnd (An n a b) λc=>(cnd (c.2) (cd (b > 0) (some c.1.Left) (some c.1.Right)) (some 0)))
def PW: Kn:=cK 114 0x1dd0b2 C51 [] [] Hm
abbrev C52:=PW::C51
def iK: Nat->eO->Option (List (List Int))
 | 0,_=>none
 | n+1,a=>(bnd (app [a.outer] a.inner) λb=>(some b))
def Ej: Kn:=cK 115 0x38d519cc1ef835b9c3b4cd3a0 C52 [] [] iK
abbrev C53:=Ej::C52
def vS{R:Type}(n:Nat): ((List (Int×Bool))×Int)->((Bool->Option R)×Unit)->Unit->Option R:=λ(a,b) (c,_) _=>(cnd (b==0) (c true) (cnd ((Option.getD (cR a b) false)) (c true) (c false)))
def Xz:=nE vS
def Oa: Lc 89 0 1:=dD 0x4e51b92baef98503409d0c03e2154bc8a4ce55d80a7ce7362feb764b5de1137b1eb0b6be3d5b5 C53 [] [] @vS
def nR{R:Type}(n:Nat): (aX×(List Int)×Int×(List Int)×Int)->(Int->Option R)->((Unit->Option R)×(Unit->Option R)×Unit)->Int->Option R:=λ(a,b,c,d,f) g (h,i,_) j=>(cd (j<f) (bnd (idx d j) λl=>(bnd (Hm n a l) λm=>(cnd (m != c) (h ()) (g (wr (j+1)))))) (i ()))
def Ya:=yJ nR
def Ob: Lc 89 0 3:=dE 0x17fc9b11cf1ca1cdf7713a31b2abaddc56636a386e0b544afa51d7eb7804eee36412a9a003eb5c0cb8944e905126dd89bd9da68b4 C53 [] [] @nR
def nS{R:Type}(n:Nat): (aX×(List Int)×Int×(List (List Int))×Int)->(Int->Option R)->((Unit->Option R)×(Unit->Option R)×Unit)->Int->Option R:=λ(a,b,c,d,f) g (h,i,_) j=>(cd (j<f) (bnd (idx d j) λl=>(bnd2 (Ya n (a,b,c,l,(ln l)) 0) (λ_=>(h ())) λm=>(bnd (some m) λ_=>(g (wr (j+1)))))) (i ()))
def Cn:=yJ nS
def Oc: Lc 89 0 2:=dE 0x3a92ec346abfd97f4cd461b06f5ad19a6e682c33378e4b6a37ee220a250721c1802f9ec4fb206f641be9c99470d54d124 C53 [⟨0,[cs Ob]⟩] [] @nS
def nT{R:Type}(n:Nat): (aX×(List eO)×Int)->(((List Int)×(List (Int×Bool))×Int)->Option R)->((((List Int)×(List (Int×Bool))×eO)->Option R)×(((List Int)×(List (Int×Bool)))->Option R)×Unit)->((List Int)×(List (Int×Bool))×Int)->Option R:=λ(a,b,c) d (f,g,_) (h,i,j)=>(cd (j<c) (bnd (idx b j) λl=>(cd (j > 0) (bnd (idx l.outer 0) λm=>(bnd (Hm n a m) λo=>(bnd (Xz n (i,o)) λr=>(cnd (r) (f (h,i,l)) (bnd (iK n l) λs=>(bnd2 (Cn n (a,h,o,s,(ln s)) 0) (λ_=>(f (h,(oQ i o true),l))) λt=>(bnd (some t) λ_=>(bnd (app h [o]) λu=>(d (u,(oQ i o true),(wr (j+1)))))))))))) (bnd (iK n l) λv=>(bnd2 (Cn n (a,h,0,v,(ln v)) 0) (λ_=>(f (h,i,l))) λw=>(bnd (some w) λ_=>(bnd (app h [0]) λx=>(d (x,i,(wr (j+1)))))))))) (g (h,i)))
def Yb:=yJ nT
def Od: Lc 89 0 0:=dE 0x9fbc24fbc04e859c80c0b9d76275d550216c8f5bde144bb9db7f2db4a572c925d5ac768c2374d50f3304a0fd0084f0abd9b10a177c44dbd39927e506b6e95e9 C53 [⟨0,[cs Oa]⟩,⟨1,[cs Oc]⟩] [] @nT
def Bg: Nat->aX->(List eO)->Option ((List Int)×Bool)
 | 0,_,_=>none
 | n+1,a,b=>(bnd2 (Yb n (a,b,(ln b)) ([],[],0)) (λ_=>(some ([],false))) λc=>(bnd (some c) λd=>(cnd ((ln d.2)==(ln a.Faces)) (some (d.1,true)) (some (d.1,false)))))
def BQ: Kn:=cK 89 0x4d51357e01e67cc0c7b82388b89f C53 [⟨0,[Od]⟩] [] Bg
abbrev C54:=BQ::C53
def Eh: Nat->aX->Option ((List eO)×(List Int)×(List (Int×(List Aaa)))×Int)
 | 0,_=>none
 | n+1,a=>(bnd (Dv n a) λb=>(cnd (b.2 != 0) (some ([],[],[],b.2)) (bnd (uA n a) λc=>(bnd (lX n a b.1 c) λd=>(bnd (Bg n a d) λf=>(cnd (f.2) (some (d,f.1,c,0)) (some ([],[],[],12))))))))
def HC: Kn:=cK 57 0x6bfa16d5b4fb4884066 C54 [] [] Eh
abbrev C55:=HC::C54
def Bh: Nat->aX->Option Int
 | 0,_=>none
 | n+1,a=>(bnd (Eh n a) λb=>(some b.2.2.2))
def BR: Kn:=cK 30 0x1dcfbc C55 [] [] Bh
abbrev C56:=BR::C55
def Ut: Nat->aP->Option Bool
 | 0,_=>none
 | n+1,a=>(cd ((ln a.Parts) > 64) (some true) (some false))
def Mp: Kn:=cK 31 0x6e3 C56 [] [] Ut
abbrev C57:=Mp::C56
def Ue: Lc 52 0 0:=dE 0xe220f7067bdaa11370ac20 C57 [] [] @gY
def qL: Nat->(List Int)->Option Bool
 | 0,_=>none
 | n+1,a=>(bnd2 (vU n a 1) (λ_=>(some false)) λb=>(bnd (some b) λ_=>(some true)))
def HQ: Kn:=cK 52 0x1f35f2 C57 [⟨0,[Ue]⟩] [] qL
abbrev C58:=HQ::C57
def jH{R:Type}(n:Nat): aP->((Bool->Option R)×Unit)->Unit->Option R:=λa (b,_) _=>(cd (a.ID<1) (b true) (cd (a.ID > 1073741824) (b true) (cd (a.Class<1) (b true) (cd (a.Class > 9) (b true) (b false)))))
def lE:=nE jH
def Dp: Lc 33 0 0:=dD 0xe6f64da786a C58 [] [] @jH
def Us: Nat->aP->Option Bool
 | 0,_=>none
 | n+1,a=>(bnd (lE n a) λb=>(cnd (b) (some true) (some false)))
def Mo: Kn:=cK 33 0x6e3 C58 [⟨0,[Dp]⟩] [] Us
abbrev C59:=Mo::C58
def fH: Nat->Int->Option Int
 | 0,_=>none
 | n+1,a=>(cnd (a==1) (some 1) (cnd (a==2) (some 1) (cnd (a==8) (some 1) (cnd (a==3) (some 2) (cnd (a==4) (some 2) (cnd (a==5) (some 3) (cnd (a==6) (some 3) (cnd (a==7) (some 3) (some 0)))))))))
def Ys: Kn:=cK 49 0x3055b9 C59 [] [] fH
abbrev C60:=Ys::C59
def Ur: Nat->aP->Option Bool
 | 0,_=>none
 | n+1,a=>(bnd (fH n a.Kind) λb=>(cnd (b==0) (some true) (some false)))
def Mn: Kn:=cK 34 0x6e3 C60 [] [] Ur
abbrev C61:=Mn::C60
def wB{R:Type}(n:Nat): (fU×Int)->((Bool->Option R)×Unit)->Unit->Option R:=λ(a,b) (c,_) _=>(cd (a.first<=b) (cd (b<=a.last) (c true) (c false)) (c false))
def Yn:=nE wB
def Oy: Lc 103 0 1:=dD 0x219886261ad1c28665c044ee231e0cdd94efc1b834d8cb60c77d2 C61 [] [] @wB
def oC{R:Type}(n:Nat): (Int×tC)->(Int->Option R)->(((fU×Int)->Option R)×(Unit->Option R)×Unit)->Int->Option R:=λ(a,b) c (d,f,_) g=>(cd (g<13) (bnd (idx ([b.e0,b.e1,b.e2,b.e3,b.e4,b.e5,b.e6,b.e7,b.e8,b.e9,b.e10,b.e11,b.e12]:List fU) g) λh=>(bnd (Yn n (h,a)) λi=>(cnd (i) (d (h,h.script)) (c (wr (g+1)))))) (f ()))
def Yo:=yJ oC
def Oz: Lc 103 0 0:=dE 0x1c3d8296c6f8f1b73fcd8c4c3d373b1a3f501d9e5c5a59922f1dc C61 [⟨0,[cs Oy]⟩] [] @oC
def sU: Nat->Int->Option Int
 | 0,_=>none
 | n+1,a=>(cd (a<0) (some (-1)) (cd (a > 1114111) (some (-1)) (bnd2 (Yo n ((IntKind.i32.wrap a),(tC.mk (fU.mk 32 32 0) (fU.mk 39 41 0) (fU.mk 45 46 0) (fU.mk 48 57 0) (fU.mk 65 90 1) (fU.mk 97 122 1) (fU.mk 192 214 1) (fU.mk 216 246 1) (fU.mk 248 591 1) (fU.mk 880 1023 2) (fU.mk 1024 1279 3) (fU.mk 1488 1514 4) (fU.mk 19968 40959 5))) 0) (λb=>(some b.2)) λc=>(bnd (some c) λ_=>(some (-1))))))
def DV: Kn:=cK 103 0x3055b9 C61 [⟨0,[Oz]⟩] [] sU
abbrev C62:=DV::C61
def oD{R:Type}(n:Nat): Unit->(((List Int)×(ByteArray×Nat))->Option R)->((((List Int)×(ByteArray×Nat))->Option R)×(((List Int)×(ByteArray×Nat))->Option R)×Unit)->((List Int)×(ByteArray×Nat))->Option R:=λ_ a (b,c,_) (d,f)=>(cd (f.2<f.1.size) (bnd (sU n (wr (((Utf8.decode f.1 f.2).1:Nat):Int))) λg=>(cd (g<0) (b (d,(f.1,(f.2+(Utf8.decode f.1 f.2).2)))) (bnd (app d [(wr (((Utf8.decode f.1 f.2).1:Nat):Int))]) λh=>(a (h,(f.1,(f.2+(Utf8.decode f.1 f.2).2))))))) (c (d,(f.1,f.2))))
def Yp:=yJ oD
def Pa: Lc 101 0 0:=dE 0x1380e0bc849bfe39c6e5f1f1df4cddc5f69927cef773d7f3ed32635e7d37d6ddc5de9d89debe4e62b471f4dc3 C62 [] [] @oD
def Bq: Nat->ByteArray->Option ((List Int)×Int)
 | 0,_=>none
 | n+1,a=>(bnd2 (Yp n () ([],(a,0))) (λ_=>(some ([],4))) λb=>(bnd (some b) λc=>(some (c.1,0))))
def DW: Kn:=cK 101 0x2c8cd927621e3359f C62 [⟨0,[Pa]⟩] [] Bq
abbrev C63:=DW::C62
def aGA: Kn:=aIj 102 31 5 rfl (λn p=>KP n p.1 p.2) (λn p r h=>by obtain⟨m,h1⟩:=aGl h;exact⟨m,p.1,p.2,r,h1,rfl,h,rfl⟩)
abbrev C64:=aGA::C63
def Fd{R:Type}(n:Nat): ByteArray->((Bool->Option R)×Unit)->Unit->Option R:=λa (b,_) _=>(bnd (sat a 0) λc=>(cnd (c==32) (b true) (bnd (sat a (wr (((a.size:Nat):Int)-1))) λd=>(cnd (d==32) (b true) (bnd (KP n a (⟨#[32,32]⟩:ByteArray)) λf=>(cnd (f) (b true) (b false)))))))
def MV:=nE Fd
def CX: Lc 81 0 0:=dD 0x38a0441ab4b0b09d776cbbd044f9fa9b0 C64 [] [] @Fd
def uN{R:Type}(n:Nat): ((List Int)×(List Int)×Int)->(Int->Option R)->((Unit->Option R)×(Unit->Option R)×Unit)->Int->Option R:=λ(a,b,c) d (f,g,_) h=>(cd (h<c) (bnd (idx b h) λi=>(bnd (sU n i) λj=>(cnd (j != 0) (f ()) (d (wr (h+1)))))) (g ()))
def MW:=yJ uN
def CY: Lc 81 0 1:=dE 0xf55730c44e0734292a8a59d650df05ea9 C64 [] [] @uN
def JP: Nat->ByteArray->Option ((List Int)×Int)
 | 0,_=>none
 | n+1,a=>(cd (a=(⟨#[]⟩:ByteArray)) (some ([],14)) (cd (((a.size:Nat):Int) > 40) (some ([],3)) (bnd (Bq n a) λb=>(cnd (b.2 != 0) (some ([],b.2)) (bnd (MV n a) λc=>(cnd (c) (some ([],14)) (bnd2 (MW n (b.1,b.1,(ln b.1)) 0) (λ_=>(some (b.1,0))) λd=>(bnd (some d) λ_=>(some ([],14))))))))))
def SE: Kn:=cK 81 0x574f51e0e7787e C64 [⟨0,[CX]⟩,⟨1,[CY]⟩] [] JP
abbrev C65:=SE::C64
def uO: Nat->ByteArray->Option Int
 | 0,_=>none
 | n+1,a=>(bnd (JP n a) λb=>(some b.2))
def MX: Kn:=cK 53 0x18a72a726 C65 [] [] uO
abbrev C66:=MX::C65
def jG{R:Type}(n:Nat): aP->((Bool->Option R)×Unit)->Unit->Option R:=λa (b,_) _=>(cd (a.Name=(⟨#[]⟩:ByteArray)) (b false) (bnd (uO n a.Name) λc=>(cnd (c != 0) (b true) (b false))))
def lD:=nE jG
def Do: Lc 35 0 0:=dD 0xe6f64da786a C66 [] [] @jG
def Uq: Nat->aP->Option Bool
 | 0,_=>none
 | n+1,a=>(bnd (lD n a) λb=>(cnd (b) (some true) (some false)))
def Mm: Kn:=cK 35 0x6e3 C66 [⟨0,[Do]⟩] [] Uq
abbrev C67:=Mm::C66
def jF{R:Type}(n:Nat): aP->((Bool->Option R)×Unit)->Unit->Option R:=λa (b,_) _=>(cnd ((ln a.Parts)==0) (b true) (bnd (fH n a.Kind) λc=>(cnd (c==1) (cd ((ln a.Parts) > 1) (b true) (b false)) (b false))))
def lC:=nE jF
def Dn: Lc 36 0 0:=dD 0xe6f64da786a C67 [] [] @jF
def Uo: Nat->aP->Option Bool
 | 0,_=>none
 | n+1,a=>(bnd (lC n a) λb=>(cnd (b) (some true) (some false)))
def Ml: Kn:=cK 36 0x6e3 C67 [⟨0,[Dn]⟩] [] Uo
abbrev C68:=Ml::C67
def Uf: Nat->(List Int)->Int->Option Bool
 | 0,_,_=>none
 | n+1,a,b=>(bnd (eF n a b) λc=>(cnd (c) (some true) (some false)))
def TG: Kn:=cK 118 0x1bb661 C68 [] [] Uf
abbrev C69:=TG::C68
def kF{R:Type}(n:Nat): (aX×aP×Int)->((Bool->Option R)×Unit)->Unit->Option R:=λ(a,b,c) (d,_) _=>(bnd (fH n b.Kind) λf=>(cnd (f==1) (bnd (iY n a c) λg=>(cnd (g.2) (d false) (d true))) (cnd (f==2) (bnd (Ex n a c) λh=>(cnd (h.2) (d false) (d true))) (cnd (f==3) (bnd (Uf n a.Faces c) λi=>(cnd (i) (d false) (d true))) (d true)))))
def uU:=Dq kF
def Gc: Ic:=dU 90 2 3 0x2084b98d83c645c9b3413f1858f5 C69 [] [] @kF
def gI{R:Type}(n:Nat): (aX×aP×(List Int)×Int)->(Int->Option R)->((Int->Option R)×(Unit->Option R)×Unit)->Int->Option R:=λ(a,b,c,d) f (g,h,_) i=>(cd (i<d) (bnd (idx c i) λj=>(bnd (uU n (a,b,j)) λl=>(cnd (l) (g i) (f (wr (i+1)))))) (h ()))
def Mk:=yJ gI
def Gb: Lc 100 0 0:=dE 0x33bc9cb9455e9f6db284bb0e2af1cb08e69a64793cad33c625 C69 [] [Gc] @gI
def kG{R:Type}(n:Nat): (aX×aP×(List Int))->((Int->Option R)×Unit)->Unit->Option R:=λ(a,b,c) (d,_) _=>(bnd2 (Mk n (a,b,c,(ln c)) 0) (λf=>(d f)) λg=>(bnd (some g) λ_=>(d (-1))))
def uV:=Dq kG
def Gd: Ic:=dU 100 0 2 0x875c1e4cbc7df3bb32c1312b191ef55e7 C69 [⟨0,[Gb]⟩] [] @kG
def kH{R:Type}(n:Nat): (aX×aP×(List Int))->((Bool->Option R)×Unit)->Unit->Option R:=λ(a,b,c) (d,_) _=>(bnd (uV n (a,b,c)) λf=>(cd (f>=0) (d true) (d false)))
def mP:=Dq kH
def Ge: Ic:=dU 80 0 2 0x2084b9f79b9aa911846d41c309e7 C69 [] [Gd] @kH
def Yr: Nat->aX->aP->Option Bool
 | 0,_,_=>none
 | n+1,a,b=>(bnd (mP n (a,b,b.Parts)) λc=>(cnd (c) (some true) (some false)))
def Pm: Kn:=cK 59 0x7f3fc6672809c6 C69 [] [Ge] Yr
abbrev vI:=Pm::C69
def vC{R:Type}(n:Nat): cS->((Unit->Option R)×Unit)->Unit->Option R:=λa (b,_) _=>(b ())
def zV:=Dq vC
def My: Ic:=dU 32 0 1 0x451160c336e6a8e2297857665c886bad83f3 vI [] [] @vC
def vB{R:Type}(n:Nat): Unit->((((List (Aab×Bool)))->Option R)×Unit)->Unit->Option R:=λ_ (a,_) _=>(a [])
def zU:=Dq vB
def Mx: Ic:=dU 38 0 0 0x2f9ed6fd244de96cecf6de94972a72e177d9883 vI [] [] @vB
def uW{R:Type}(n:Nat): aP->((Unit->Option R)×(Int->Option R)×Unit)->Unit->Option R:=λa (b,c,_) _=>(bnd (fH n a.Kind) λd=>(cnd (d==2) (b ()) (cnd (d==3) (c a.Kind) (c 0))))
def zO:=pc2 uW
def Mq: Lc 60 0 0:=dD 0x274cdc9a94a07ebc23d7b0d0ee92b1de5f407050dec443f5c8db4 vI [] [] @uW
def mQ{R:Type}(n:Nat): (Int×(List Int)×Int)->(((List (Aab×Bool))×Int)->Option R)->((((List (Aab×Bool))×Int)->Option R)×(((List (Aab×Bool)))->Option R)×Unit)->((List (Aab×Bool))×Int)->Option R:=λ(a,b,c) d (f,g,_) (h,i)=>(cd (i<c) (bnd (idx b i) λj=>(cnd ((Option.getD (cR h (Aab.mk a j)) false)) (f (h,j)) (d ((oQ h (Aab.mk a j) true),(wr (i+1)))))) (g h))
def Uu:=yJ mQ
def Mr: Lc 60 0 1:=dE 0x7b0c902c6d18573e3ca72b161d7f17a39276468c70630ad30e2a5e73a95e102b5e92b3295ab868edfa39888973d vI [] [] @mQ
def uY{R:Type}(n:Nat): ((List (Aab×Bool))×aP)->((((List (Aab×Bool)))->Option R)×(((List (Aab×Bool))×Int×Int)->Option R)×Unit)->Unit->Option R:=λ(a,b) (c,d,_) _=>(bnd2 (zO n b) (λ_=>(c a)) λf=>(bnd (some f) λg=>(bnd2 (Uu n (g,b.Parts,(ln b.Parts)) (a,0)) (λh=>(d (h.1,g,h.2))) λi=>(bnd (some i) λj=>(c j)))))
def zQ:=KA uY
def Mu: Ic:=dU 60 0 2 0x2edd8eb03ccb3eed3abfea04bfd9803bf00e27589a0a4b9bdeb7e99b54a2f vI [⟨0,[Mq]⟩,⟨1,[Mr]⟩] [] @uY
def mR{R:Type}(n:Nat): ((List aP)×Int)->(((List (Aab×Bool))×Int)->Option R)->((((List (Aab×Bool))×aP×Int×Int×Int)->Option R)×(((List (Aab×Bool)))->Option R)×Unit)->((List (Aab×Bool))×Int)->Option R:=λ(a,b) c (d,f,_) (g,h)=>(cd (h<b) (bnd (idx a h) λi=>(bnd2 (zQ n (g,i)) (λj=>(c (j,(wr (h+1))))) λl=>(bnd (some l) λm=>(d (m.1,i,m.2.1,m.2.2,h))))) (f g))
def Uv:=yJ mR
def Ms: Lc 61 0 0:=dE 0xd786fc60fe467a734e7cde61c31262c6f60efa5d4d77ef1dfbdf9eb vI [] [Mu] @mR
def uZ{R:Type}(n:Nat): ((List (Aab×Bool))×(List aP))->((((List (Aab×Bool))×Int×Int×Int×ByteArray×(List Int)×Int×Int×Int)->Option R)×(((List (Aab×Bool)))->Option R)×Unit)->Unit->Option R:=λ(a,b) (c,d,_) _=>(bnd2 (Uv n (b,(ln b)) (a,0)) (λf=>(c (f.1,f.2.1.ID,f.2.1.Kind,f.2.1.Class,f.2.1.Name,f.2.1.Parts,f.2.2.1,f.2.2.2.1,f.2.2.2.2))) λg=>(bnd (some g) λh=>(d h)))
def zR:=KA uZ
def Mv: Ic:=dU 61 0 2 0x175c75831d13be890560ac3744fe5039511d6a90e521917fa15c47a44f63b0cb8bf vI [⟨0,[Ms]⟩] [] @uZ
def vA{R:Type}(n:Nat): ((List (Aab×Bool))×(List aP))->((((List (Aab×Bool))×Int×Int×Int×ByteArray×(List Int)×Int×Int×Bool)->Option R)×(((List (Aab×Bool)))->Option R)×Unit)->Unit->Option R:=λ(a,b) (c,d,_) _=>(bnd2 (zR n (a,b)) (λf=>(cd (f.2.2.2.2.2.2.2.2>=0) (c (f.1,f.2.1,f.2.2.1,f.2.2.2.1,f.2.2.2.2.1,f.2.2.2.2.2.1,f.2.2.2.2.2.2.1,f.2.2.2.2.2.2.2.1,true)) (c (f.1,f.2.1,f.2.2.1,f.2.2.2.1,f.2.2.2.2.1,f.2.2.2.2.2.1,f.2.2.2.2.2.2.1,f.2.2.2.2.2.2.2.1,false)))) λg=>(bnd (some g) λh=>(d h)))
def zS:=KA vA
def Mw: Ic:=dU 39 0 2 0xbeb37ba1194781488150ae631d342eabc5cc1e34269f67fcd98aeab4f495edfccb8bf vI [] [Mv] @vA
def Kh: Ic:=dU 90 10 3 0x4518893b46a00640185cd6d3a5824092ccc7 vI [] [] @kF
def Jn: Lc 100 0 0:=dE 0x6564e8da23b8bab73f1d8f59d789ebfc0be9233ebe6858d vI [] [Kh] @gI
def Ki: Ic:=dU 100 0 2 0x451160f5eece772e8828bb6448c1016d5257 vI [⟨0,[Jn]⟩] [] @kG
def Kj: Ic:=dU 80 0 2 0x876a25337658815ea50a81087f6b14257 vI [] [Ki] @kH
def sH{R:Type}(n:Nat): (aX×aP)->((Bool->Option R)×Unit)->Unit->Option R:=λ(a,b) (c,_) _=>(bnd (mP n (a,b,b.Parts)) λd=>(cnd (d) (c true) (c false)))
def wU:=Dq sH
def Kk: Ic:=dU 59 0 2 0x2081b750b40a5529519ba0a806df vI [] [Kj] @sH
def sI{R:Type}(n:Nat): (cS×aP)->(((aX×Bool)->Option R)×Unit)->Unit->Option R:=λ(a,b) (c,_) _=>(bnd (wU n (a.Plan,b)) λd=>(cnd (d) (c (a.Plan,true)) (c (a.Plan,false))))
def wV:=Dq sI
def Kl: Ic:=dU 37 0 2 0x2344ae885b582826607774e6e0d400d1bf9e1e1 vI [] [Kk] @sI
def lL{R:Type}(n:Nat): (cS×(List aP)×Int)->(Int->Option R)->(((aP×aX×aP×Int)->Option R)×(Unit->Option R)×Unit)->Int->Option R:=λ(a,b,c) d (f,g,_) h=>(cd (h<c) (bnd (idx b h) λi=>(bnd (wV n (a,i)) λj=>(cnd (j.2) (f (i,j.1,i,h)) (d (wr (h+1)))))) (g ()))
def Pt:=yJ lL
def Jo: Lc 61 0 0:=dE 0x689e8f222d44bbce54df223797a9baecbd47c0cbfeb698f30c88f8cbabeb7342f0ab5 vI [] [Kl] @lL
def sJ{R:Type}(n:Nat): (cS×(List aP))->(((aP×aX×aP×Int)->Option R)×(Unit->Option R)×Unit)->Unit->Option R:=λ(a,b) (c,d,_) _=>(bnd2 (Pt n (a,b,(ln b)) 0) (λf=>(c (f.1,f.2.1,f.2.2.1,f.2.2.2))) λg=>(bnd (some g) λ_=>(d ())))
def wW:=KA sJ
def Km: Ic:=dU 61 0 2 0x2ee6cb845bb5b302fc59427b8ca893cf838dc3a1be2d906c5cec0e64ea8f1 vI [⟨0,[Jo]⟩] [] @sJ
def uX{R:Type}(n:Nat): (cS×(List aP))->(((aP×aX×aP×Bool)->Option R)×(Unit->Option R)×Unit)->Unit->Option R:=λ(a,b) (c,d,_) _=>(bnd2 (wW n (a,b)) (λf=>(cd (f.2.2.2>=0) (c (f.1,f.2.1,f.2.2.1,true)) (c (f.1,f.2.1,f.2.2.1,false)))) λg=>(bnd (some g) λ_=>(d ())))
def zP:=KA uX
def Mt: Ic:=dU 39 0 2 0xb42613101f137c847a1983a4c222415538db29cc1838836fd2e28f1 vI [] [Km] @uX
def Jg: Lc 36 0 0:=dD 0x2c7ee09a256cdf114 vI [] [] @jF
def sE{R:Type}(n:Nat): aP->((Bool->Option R)×Unit)->Unit->Option R:=λa (b,_) _=>(bnd (lC n a) λc=>(cnd (c) (b true) (b false)))
def wR:=Dq sE
def Ke: Ic:=dU 36 0 1 0x6ee vI [⟨0,[Jg]⟩] [] @sE
def lK{R:Type}(n:Nat): ((List aP)×Int)->(Int->Option R)->(((aP×Int)->Option R)×(Unit->Option R)×Unit)->Int->Option R:=λ(a,b) c (d,f,_) g=>(cd (g<b) (bnd (idx a g) λh=>(bnd (wR n h) λi=>(cnd (i) (d (h,g)) (c (wr (g+1)))))) (f ()))
def Ps:=yJ lK
def Jm: Lc 61 0 0:=dE 0x1ceec485d vI [] [Ke] @lK
def sF{R:Type}(n:Nat): (List aP)->(((aP×Int)->Option R)×(Unit->Option R)×Unit)->Unit->Option R:=λa (b,c,_) _=>(bnd2 (Ps n (a,(ln a)) 0) (λd=>(b (d.1,d.2))) λf=>(bnd (some f) λ_=>(c ())))
def wS:=KA sF
def Kf: Ic:=dU 61 0 2 0x1ce66f871 vI [⟨0,[Jm]⟩] [] @sF
def sG{R:Type}(n:Nat): (List aP)->(((aP×Bool)->Option R)×(Unit->Option R)×Unit)->Unit->Option R:=λa (b,c,_) _=>(bnd2 (wS n a) (λd=>(cd (d.2>=0) (b (d.1,true)) (b (d.1,false)))) λf=>(bnd (some f) λ_=>(c ())))
def wT:=KA sG
def Kg: Ic:=dU 39 0 2 0x1ce24518d vI [] [Kf] @sG
def Jf: Lc 35 0 0:=dD 0x2c7ee09a256cdf114 vI [] [] @jG
def sB{R:Type}(n:Nat): aP->((Bool->Option R)×Unit)->Unit->Option R:=λa (b,_) _=>(bnd (lD n a) λc=>(cnd (c) (b true) (b false)))
def wO:=Dq sB
def Kb: Ic:=dU 35 0 1 0x6ee vI [⟨0,[Jf]⟩] [] @sB
def lJ{R:Type}(n:Nat): ((List aP)×Int)->(Int->Option R)->(((aP×Int)->Option R)×(Unit->Option R)×Unit)->Int->Option R:=λ(a,b) c (d,f,_) g=>(cd (g<b) (bnd (idx a g) λh=>(bnd (wO n h) λi=>(cnd (i) (d (h,g)) (c (wr (g+1)))))) (f ()))
def Pr:=yJ lJ
def Jl: Lc 61 0 0:=dE 0x1ceec4033 vI [] [Kb] @lJ
def sC{R:Type}(n:Nat): (List aP)->(((aP×Int)->Option R)×(Unit->Option R)×Unit)->Unit->Option R:=λa (b,c,_) _=>(bnd2 (Pr n (a,(ln a)) 0) (λd=>(b (d.1,d.2))) λf=>(bnd (some f) λ_=>(c ())))
def wP:=KA sC
def Kc: Ic:=dU 61 0 2 0x1ce66f047 vI [⟨0,[Jl]⟩] [] @sC
def sD{R:Type}(n:Nat): (List aP)->(((aP×Bool)->Option R)×(Unit->Option R)×Unit)->Unit->Option R:=λa (b,c,_) _=>(bnd2 (wP n a) (λd=>(cd (d.2>=0) (b (d.1,true)) (b (d.1,false)))) λf=>(bnd (some f) λ_=>(c ())))
def wQ:=KA sD
def Kd: Ic:=dU 39 0 2 0x1ce244963 vI [] [Kc] @sD
def rW{R:Type}(n:Nat): aP->((Bool->Option R)×Unit)->Unit->Option R:=λa (b,_) _=>(bnd (fH n a.Kind) λc=>(cnd (c==0) (b true) (b false)))
def wL:=Dq rW
def Jy: Ic:=dU 34 0 1 0x6ee vI [] [] @rW
def lI{R:Type}(n:Nat): ((List aP)×Int)->(Int->Option R)->(((aP×Int)->Option R)×(Unit->Option R)×Unit)->Int->Option R:=λ(a,b) c (d,f,_) g=>(cd (g<b) (bnd (idx a g) λh=>(bnd (wL n h) λi=>(cnd (i) (d (h,g)) (c (wr (g+1)))))) (f ()))
def Pq:=yJ lI
def Jk: Lc 61 0 0:=dE 0x1ceec3809 vI [] [Jy] @lI
def rY{R:Type}(n:Nat): (List aP)->(((aP×Int)->Option R)×(Unit->Option R)×Unit)->Unit->Option R:=λa (b,c,_) _=>(bnd2 (Pq n (a,(ln a)) 0) (λd=>(b (d.1,d.2))) λf=>(bnd (some f) λ_=>(c ())))
def wM:=KA rY
def Jz: Ic:=dU 61 0 2 0x1ce66e81d vI [⟨0,[Jk]⟩] [] @rY
def rZ{R:Type}(n:Nat): (List aP)->(((aP×Bool)->Option R)×(Unit->Option R)×Unit)->Unit->Option R:=λa (b,c,_) _=>(bnd2 (wM n a) (λd=>(cd (d.2>=0) (b (d.1,true)) (b (d.1,false)))) λf=>(bnd (some f) λ_=>(c ())))
def wN:=KA rZ
def Ka: Ic:=dU 39 0 2 0x1ce244139 vI [] [Jz] @rZ
def Je: Lc 33 0 0:=dD 0x2c7ee09a256cdf114 vI [] [] @jH
def rS{R:Type}(n:Nat): aP->((Bool->Option R)×Unit)->Unit->Option R:=λa (b,_) _=>(bnd (lE n a) λc=>(cnd (c) (b true) (b false)))
def wI:=Dq rS
def Jv: Ic:=dU 33 0 1 0x6ee vI [⟨0,[Je]⟩] [] @rS
def lH{R:Type}(n:Nat): ((List aP)×Int)->(Int->Option R)->(((aP×Int)->Option R)×(Unit->Option R)×Unit)->Int->Option R:=λ(a,b) c (d,f,_) g=>(cd (g<b) (bnd (idx a g) λh=>(bnd (wI n h) λi=>(cnd (i) (d (h,g)) (c (wr (g+1)))))) (f ()))
def Pp:=yJ lH
def Jj: Lc 61 0 0:=dE 0x1ceec2fdf vI [] [Jv] @lH
def rU{R:Type}(n:Nat): (List aP)->(((aP×Int)->Option R)×(Unit->Option R)×Unit)->Unit->Option R:=λa (b,c,_) _=>(bnd2 (Pp n (a,(ln a)) 0) (λd=>(b (d.1,d.2))) λf=>(bnd (some f) λ_=>(c ())))
def wJ:=KA rU
def Jw: Ic:=dU 61 0 2 0x1ce66dff3 vI [⟨0,[Jj]⟩] [] @rU
def rV{R:Type}(n:Nat): (List aP)->(((aP×Bool)->Option R)×(Unit->Option R)×Unit)->Unit->Option R:=λa (b,c,_) _=>(bnd2 (wJ n a) (λd=>(cd (d.2>=0) (b (d.1,true)) (b (d.1,false)))) λf=>(bnd (some f) λ_=>(c ())))
def wK:=KA rV
def Jx: Ic:=dU 39 0 2 0x1ce24390f vI [] [Jw] @rV
def rA{R:Type}(n:Nat): (cS×Int×aP)->((Bool->Option R)×Unit)->Unit->Option R:=λ(a,b,c) (d,_) _=>(cd (b > 1) (bnd (idx a.Features (wr (b-2))) λf=>(cd (f.ID>=c.ID) (d true) (bnd (qL n c.Parts) λg=>(cnd (g) (d false) (d true))))) (bnd (qL n c.Parts) λh=>(cnd (h) (d false) (d true))))
def wC:=nE rA
def Jd: Lc 58 0 0:=dD 0x971d2e3baf591e9989a8bc3415fb190e6bed7376bcb0 vI [] [] @rA
def rJ{R:Type}(n:Nat): (cS×Int×aP)->(((Int×Bool)->Option R)×Unit)->Unit->Option R:=λ(a,b,c) (d,_) _=>(bnd (wC n (a,(wr (b+1)),c)) λf=>(cnd (f) (d ((wr (b+1)),true)) (d ((wr (b+1)),false))))
def wF:=Dq rJ
def Js: Ic:=dU 58 0 3 0x2342185f63ee1c8a235f4744bfa6e912edaeecc vI [⟨0,[Jd]⟩] [] @rJ
def lG{R:Type}(n:Nat): (cS×(List aP)×Int)->((Int×Int)->Option R)->(((Int×aP×Int)->Option R)×(Int->Option R)×Unit)->(Int×Int)->Option R:=λ(a,b,c) d (f,g,_) (h,i)=>(cd (i<c) (bnd (idx b i) λj=>(bnd (wF n (a,h,j)) λl=>(cnd (l.2) (f (l.1,j,i)) (d (l.1,(wr (i+1))))))) (g h))
def Po:=yJ lG
def Ji: Lc 61 0 0:=dE 0x1a68cd2ff608adab80881a82038e39dac46e8f371f5094f584388 vI [] [Js] @lG
def rP{R:Type}(n:Nat): (cS×Int×(List aP))->(((Int×aP×Int)->Option R)×(Int->Option R)×Unit)->Unit->Option R:=λ(a,b,c) (d,f,_) _=>(bnd2 (Po n (a,c,(ln c)) (b,0)) (λg=>(d (g.1,g.2.1,g.2.2))) λh=>(bnd (some h) λi=>(f i)))
def wG:=KA rP
def Jt: Ic:=dU 61 0 2 0xa221eeba3ce5d6e5681d1d08b59a45812876fc7649dbf3c vI [⟨0,[Ji]⟩] [] @rP
def rQ{R:Type}(n:Nat): (cS×Int×(List aP))->(((Int×aP×Bool)->Option R)×(Int->Option R)×Unit)->Unit->Option R:=λ(a,b,c) (d,f,_) _=>(bnd2 (wG n (a,b,c)) (λg=>(cd (g.2.2>=0) (d (g.1,g.2.1,true)) (d (g.1,g.2.1,false)))) λh=>(bnd (some h) λi=>(f i)))
def wH:=KA rQ
def Ju: Ic:=dU 39 0 2 0x13db6c1bd9a492c0269ae96951b6cf7706ed8fed5733c vI [] [Jt] @rQ
def rE{R:Type}(n:Nat): aP->((Bool->Option R)×Unit)->Unit->Option R:=λa (b,_) _=>(cd ((ln a.Parts) > 64) (b true) (b false))
def oG:=Dq rE
def Jp: Ic:=dU 31 0 1 0x6ee vI [] [] @rE
def lF{R:Type}(n:Nat): ((List aP)×Int)->(Int->Option R)->(((aP×Int)->Option R)×(Unit->Option R)×Unit)->Int->Option R:=λ(a,b) c (d,f,_) g=>(cd (g<b) (bnd (idx a g) λh=>(bnd (oG n h) λi=>(cnd (i) (d (h,g)) (c (wr (g+1)))))) (f ()))
def Pn:=yJ lF
def Jh: Lc 61 0 0:=dE 0x1ceec1f8b vI [] [Jp] @lF
def rG{R:Type}(n:Nat): (List aP)->(((aP×Int)->Option R)×(Unit->Option R)×Unit)->Unit->Option R:=λa (b,c,_) _=>(bnd2 (Pn n (a,(ln a)) 0) (λd=>(b (d.1,d.2))) λf=>(bnd (some f) λ_=>(c ())))
def wD:=KA rG
def Jq: Ic:=dU 61 0 2 0x1ce66cf9f vI [⟨0,[Jh]⟩] [] @rG
def rH{R:Type}(n:Nat): (List aP)->(((aP×Bool)->Option R)×(Unit->Option R)×Unit)->Unit->Option R:=λa (b,c,_) _=>(bnd2 (wD n a) (λd=>(cd (d.2>=0) (b (d.1,true)) (b (d.1,false)))) λf=>(bnd (some f) λ_=>(c ())))
def wE:=KA rH
def Jr: Ic:=dU 39 0 2 0x1ce2428bb vI [] [Jq] @rH
def yE: Nat->cS->Option Int
 | 0,_=>none
 | n+1,a=>(bnd (Bh n a.Plan) λb=>(cnd (b != 0) (some b) (cd ((ln a.Features) > 128) (some 3) (bnd (zV n a) λ_=>(bnd (zU n ()) λc=>(bnd (jK (Nat.ble 9 n)) λ_=>(let d:=(let f:=λ(g:Int)=>(let h:=(let i:=(let j:=(let l:=(let m:=(let o:=λ(r:(List (Aab×Bool)))=>(some 0);(bnd2 (zS n (c,a.Features)) (λs=>(cnd (s.2.2.2.2.2.2.2.2) (some 13) (o s.1))) λt=>(bnd (some t) λu=>(o u))));(bnd2 (zP n (a,a.Features)) (λv=>(cnd (v.2.2.2) (some 7) (m))) λw=>(bnd (some w) λ_=>(m))));(bnd2 (wT n a.Features) (λx=>(cnd (x.2) (some 1) (l))) λy=>(bnd (some y) λ_=>(l))));(bnd2 (wQ n a.Features) (λz=>(cnd (z.2) (some 14) (j))) λa0=>(bnd (some a0) λ_=>(j))));(bnd2 (wN n a.Features) (λb0=>(cnd (b0.2) (some 9) (i))) λc0=>(bnd (some c0) λ_=>(i))));(bnd2 (wK n a.Features) (λd0=>(cnd (d0.2) (some 2) (h))) λf0=>(bnd (some f0) λ_=>(h))));(bnd2 (wH n (a,0,a.Features)) (λg0=>(cnd (g0.2.2) (some 10) (f g0.1))) λh0=>(bnd (some h0) λi0=>(f i0))));(bnd2 (wE n a.Features) (λj0=>(cnd (j0.2) (some 3) (d))) λl0=>(bnd (some l0) λ_=>(d))))))))))
def Yt: Kn:=cK 14 0x7c282667c39 vI [] [My,Mx,Mw,Mt,Kg,Kd,Ka,Jx,Ju,Jr] yE
abbrev C71:=Yt::vI
def gZ{R:Type}(n:Nat): (Int×Int)->((Int->Option R)×Unit)->Unit->Option R:=λ(a,b) (c,_) _=>(cd (a<0) (c (G8 .u64 b)) (c b))
def nJ:=nE gZ
def Ri: Lc 40 0 0:=dD 0x26c4ee42282b58cb63a43f0f3631735 C71 [] [] @gZ
def kL{R:Type}(n:Nat): ((List Int)×Int)->((((List Int)×(List Int))->Option R)×Unit)->Unit->Option R:=λ(a,b) (c,_) _=>(bnd (jK (decide (0<=1))) λ_=>(bnd (nJ n (b,(QN .u64 (IntKind.u64.wrap b) 1))) λd=>(bnd (jK (Nat.ble 10 n)) λ_=>(cd (d>=128) (bnd (app a [(eG .or .u8 (IntKind.u8.wrap d) 128)]) λf=>(bnd (jK (decide (0<=7))) λ_=>(cd ((aO .u64 d 7)>=128) (bnd (app f [(eG .or .u8 (IntKind.u8.wrap (aO .u64 d 7)) 128)]) λg=>(bnd (jK (decide (0<=7))) λ_=>(cd ((aO .u64 (aO .u64 d 7) 7)>=128) (bnd (app g [(eG .or .u8 (IntKind.u8.wrap (aO .u64 (aO .u64 d 7) 7)) 128)]) λh=>(bnd (jK (decide (0<=7))) λ_=>(cd ((aO .u64 (aO .u64 (aO .u64 d 7) 7) 7)>=128) (bnd (app h [(eG .or .u8 (IntKind.u8.wrap (aO .u64 (aO .u64 (aO .u64 d 7) 7) 7)) 128)]) λi=>(bnd (jK (decide (0<=7))) λ_=>(cd ((aO .u64 (aO .u64 (aO .u64 (aO .u64 d 7) 7) 7) 7)>=128) (bnd (app i [(eG .or .u8 (IntKind.u8.wrap (aO .u64 (aO .u64 (aO .u64 (aO .u64 d 7) 7) 7) 7)) 128)]) λj=>(bnd (jK (decide (0<=7))) λ_=>(cd ((aO .u64 (aO .u64 (aO .u64 (aO .u64 (aO .u64 d 7) 7) 7) 7) 7)>=128) (bnd (app j [(eG .or .u8 (IntKind.u8.wrap (aO .u64 (aO .u64 (aO .u64 (aO .u64 (aO .u64 d 7) 7) 7) 7) 7)) 128)]) λl=>(bnd (jK (decide (0<=7))) λ_=>(cd ((aO .u64 (aO .u64 (aO .u64 (aO .u64 (aO .u64 (aO .u64 d 7) 7) 7) 7) 7) 7)>=128) (bnd (app l [(eG .or .u8 (IntKind.u8.wrap (aO .u64 (aO .u64 (aO .u64 (aO .u64 (aO .u64 (aO .u64 d 7) 7) 7) 7) 7) 7)) 128)]) λm=>(bnd (jK (decide (0<=7))) λ_=>(cd ((aO .u64 (aO .u64 (aO .u64 (aO .u64 (aO .u64 (aO .u64 (aO .u64 d 7) 7) 7) 7) 7) 7) 7)>=128) (bnd (app m [(eG .or .u8 (IntKind.u8.wrap (aO .u64 (aO .u64 (aO .u64 (aO .u64 (aO .u64 (aO .u64 (aO .u64 d 7) 7) 7) 7) 7) 7) 7)) 128)]) λo=>(bnd (jK (decide (0<=7))) λ_=>(cd ((aO .u64 (aO .u64 (aO .u64 (aO .u64 (aO .u64 (aO .u64 (aO .u64 (aO .u64 d 7) 7) 7) 7) 7) 7) 7) 7)>=128) (bnd (app o [(eG .or .u8 (IntKind.u8.wrap (aO .u64 (aO .u64 (aO .u64 (aO .u64 (aO .u64 (aO .u64 (aO .u64 (aO .u64 d 7) 7) 7) 7) 7) 7) 7) 7)) 128)]) λr=>(bnd (jK (decide (0<=7))) λ_=>(cd ((aO .u64 (aO .u64 (aO .u64 (aO .u64 (aO .u64 (aO .u64 (aO .u64 (aO .u64 (aO .u64 d 7) 7) 7) 7) 7) 7) 7) 7) 7)>=128) (bnd (app r [(eG .or .u8 (IntKind.u8.wrap (aO .u64 (aO .u64 (aO .u64 (aO .u64 (aO .u64 (aO .u64 (aO .u64 (aO .u64 (aO .u64 d 7) 7) 7) 7) 7) 7) 7) 7) 7)) 128)]) λ_=>(bnd (jK (decide (0<=7))) λ_=>none)) (bnd (app r [(IntKind.u8.wrap (aO .u64 (aO .u64 (aO .u64 (aO .u64 (aO .u64 (aO .u64 (aO .u64 (aO .u64 (aO .u64 d 7) 7) 7) 7) 7) 7) 7) 7) 7))]) λs=>(c ([],s)))))) (bnd (app o [(IntKind.u8.wrap (aO .u64 (aO .u64 (aO .u64 (aO .u64 (aO .u64 (aO .u64 (aO .u64 (aO .u64 d 7) 7) 7) 7) 7) 7) 7) 7))]) λt=>(c ([],t)))))) (bnd (app m [(IntKind.u8.wrap (aO .u64 (aO .u64 (aO .u64 (aO .u64 (aO .u64 (aO .u64 (aO .u64 d 7) 7) 7) 7) 7) 7) 7))]) λu=>(c ([],u)))))) (bnd (app l [(IntKind.u8.wrap (aO .u64 (aO .u64 (aO .u64 (aO .u64 (aO .u64 (aO .u64 d 7) 7) 7) 7) 7) 7))]) λv=>(c ([],v)))))) (bnd (app j [(IntKind.u8.wrap (aO .u64 (aO .u64 (aO .u64 (aO .u64 (aO .u64 d 7) 7) 7) 7) 7))]) λw=>(c ([],w)))))) (bnd (app i [(IntKind.u8.wrap (aO .u64 (aO .u64 (aO .u64 (aO .u64 d 7) 7) 7) 7))]) λx=>(c ([],x)))))) (bnd (app h [(IntKind.u8.wrap (aO .u64 (aO .u64 (aO .u64 d 7) 7) 7))]) λy=>(c ([],y)))))) (bnd (app g [(IntKind.u8.wrap (aO .u64 (aO .u64 d 7) 7))]) λz=>(c ([],z)))))) (bnd (app f [(IntKind.u8.wrap (aO .u64 d 7))]) λa0=>(c ([],a0)))))) (bnd (app a [(IntKind.u8.wrap d)]) λb0=>(c ([],b0)))))))
end
noncomputable section
def hJ:=Dq kL
def yM: Ic:=dU 40 0 2 0x2ea1423fff50249c9655c9198d6d74ce08d2f597e0dcb1cbba06b9b136252df3 C71 [⟨0,[Ri]⟩] [] @kL
def gB: Nat->(List Int)->Int->Option (List Int)
 | 0,_,_=>none
 | n+1,a,b=>(bnd (jK (decide (0<=(ln a)/\(ln a)=(ln a)/\(ln a)<=(ln a)))) λ_=>(bnd (hJ n ((List.take (Int.toNat (ln a)) a),b)) λc=>(some c.2)))
def GR: Kn:=cK 15 0x5e2ac3d2bafe5c C71 [] [yM] gB
abbrev C72:=GR::C71
def mS{R:Type}(n:Nat): ((List Int)×Int)->(((List Int)×Int)->Option R)->(((List Int)->Option R)×Unit)->((List Int)×Int)->Option R:=λ(a,b) c (d,_) (f,g)=>(cd (g<b) (bnd (idx a g) λh=>(bnd (gB n f h) λi=>(c (i,(wr (g+1)))))) (d f))
def Vm:=Ym mS
def Nc: Lc 16 0 0:=dE 0xffeeff10a70e62287f77a0be516957b50 C72 [] [] @mS
def fI: Nat->(List Int)->(List Int)->Option (List Int)
 | 0,_,_=>none
 | n+1,a,b=>(bnd (Vm n (b,(ln b)) (a,0)) λc=>(some c))
def Yz: Kn:=cK 16 0x215a1b8aa C72 [⟨0,[Nc]⟩] [] fI
abbrev C73:=Yz::C72
def kJ{R:Type}(n:Nat): ((List Aaa)×Int)->(((List Int)×Int)->Option R)->(((List Int)->Option R)×Unit)->((List Int)×Int)->Option R:=λ(a,b) c (d,_) (f,g)=>(cd (g<b) (bnd (idx a g) λh=>(bnd (fI n f [h.X,h.Y]) λi=>(c (i,(wr (g+1)))))) (d f))
def Nb:=Ym kJ
def Gp: Lc 17 0 0:=dE 0x3307b384bdab1b8c886ab05def317e997371ea2 C73 [] [] @kJ
def mB: Nat->(List Int)->(List Aaa)->Option (List Int)
 | 0,_,_=>none
 | n+1,a,b=>(bnd (gB n a (ln b)) λc=>(bnd (Nb n (b,(ln b)) (c,0)) λd=>(some d)))
def Qi: Kn:=cK 17 0x215b5453c C73 [⟨0,[Gp]⟩] [] mB
abbrev C74:=Qi::C73
def Nn: Lc 40 0 0:=dD 0x26c4ee42282c035a8638cfb4cc6d906 C74 [] [] @gZ
def nH{R:Type}(n:Nat): ((List Int)×Int)->((((List Int)×(List Int))->Option R)×Unit)->Unit->Option R:=λ(a,b) (c,_) _=>(bnd (jK (decide (0<=1))) λ_=>(bnd (nJ n (b,(QN .u64 (IntKind.u64.wrap b) 1))) λd=>(bnd (jK (Nat.ble 10 n)) λ_=>(cd (d>=128) (bnd (app a [(eG .or .u8 (IntKind.u8.wrap d) 128)]) λf=>(bnd (jK (decide (0<=7))) λ_=>(cd ((aO .u64 d 7)>=128) (bnd (app f [(eG .or .u8 (IntKind.u8.wrap (aO .u64 d 7)) 128)]) λg=>(bnd (jK (decide (0<=7))) λ_=>(cd ((aO .u64 (aO .u64 d 7) 7)>=128) (bnd (app g [(eG .or .u8 (IntKind.u8.wrap (aO .u64 (aO .u64 d 7) 7)) 128)]) λh=>(bnd (jK (decide (0<=7))) λ_=>(cd ((aO .u64 (aO .u64 (aO .u64 d 7) 7) 7)>=128) (bnd (app h [(eG .or .u8 (IntKind.u8.wrap (aO .u64 (aO .u64 (aO .u64 d 7) 7) 7)) 128)]) λi=>(bnd (jK (decide (0<=7))) λ_=>(cd ((aO .u64 (aO .u64 (aO .u64 (aO .u64 d 7) 7) 7) 7)>=128) (bnd (app i [(eG .or .u8 (IntKind.u8.wrap (aO .u64 (aO .u64 (aO .u64 (aO .u64 d 7) 7) 7) 7)) 128)]) λj=>(bnd (jK (decide (0<=7))) λ_=>(cd ((aO .u64 (aO .u64 (aO .u64 (aO .u64 (aO .u64 d 7) 7) 7) 7) 7)>=128) (bnd (app j [(eG .or .u8 (IntKind.u8.wrap (aO .u64 (aO .u64 (aO .u64 (aO .u64 (aO .u64 d 7) 7) 7) 7) 7)) 128)]) λl=>(bnd (jK (decide (0<=7))) λ_=>(cd ((aO .u64 (aO .u64 (aO .u64 (aO .u64 (aO .u64 (aO .u64 d 7) 7) 7) 7) 7) 7)>=128) (bnd (app l [(eG .or .u8 (IntKind.u8.wrap (aO .u64 (aO .u64 (aO .u64 (aO .u64 (aO .u64 (aO .u64 d 7) 7) 7) 7) 7) 7)) 128)]) λm=>(bnd (jK (decide (0<=7))) λ_=>(cd ((aO .u64 (aO .u64 (aO .u64 (aO .u64 (aO .u64 (aO .u64 (aO .u64 d 7) 7) 7) 7) 7) 7) 7)>=128) (bnd (app m [(eG .or .u8 (IntKind.u8.wrap (aO .u64 (aO .u64 (aO .u64 (aO .u64 (aO .u64 (aO .u64 (aO .u64 d 7) 7) 7) 7) 7) 7) 7)) 128)]) λo=>(bnd (jK (decide (0<=7))) λ_=>(cd ((aO .u64 (aO .u64 (aO .u64 (aO .u64 (aO .u64 (aO .u64 (aO .u64 (aO .u64 d 7) 7) 7) 7) 7) 7) 7) 7)>=128) (bnd (app o [(eG .or .u8 (IntKind.u8.wrap (aO .u64 (aO .u64 (aO .u64 (aO .u64 (aO .u64 (aO .u64 (aO .u64 (aO .u64 d 7) 7) 7) 7) 7) 7) 7) 7)) 128)]) λr=>(bnd (jK (decide (0<=7))) λ_=>(cd ((aO .u64 (aO .u64 (aO .u64 (aO .u64 (aO .u64 (aO .u64 (aO .u64 (aO .u64 (aO .u64 d 7) 7) 7) 7) 7) 7) 7) 7) 7)>=128) (bnd (app r [(eG .or .u8 (IntKind.u8.wrap (aO .u64 (aO .u64 (aO .u64 (aO .u64 (aO .u64 (aO .u64 (aO .u64 (aO .u64 (aO .u64 d 7) 7) 7) 7) 7) 7) 7) 7) 7)) 128)]) λ_=>(bnd (jK (decide (0<=7))) λ_=>none)) (bnd (app r [(IntKind.u8.wrap (aO .u64 (aO .u64 (aO .u64 (aO .u64 (aO .u64 (aO .u64 (aO .u64 (aO .u64 (aO .u64 d 7) 7) 7) 7) 7) 7) 7) 7) 7))]) λs=>(c (s,[])))))) (bnd (app o [(IntKind.u8.wrap (aO .u64 (aO .u64 (aO .u64 (aO .u64 (aO .u64 (aO .u64 (aO .u64 (aO .u64 d 7) 7) 7) 7) 7) 7) 7) 7))]) λt=>(c (t,[])))))) (bnd (app m [(IntKind.u8.wrap (aO .u64 (aO .u64 (aO .u64 (aO .u64 (aO .u64 (aO .u64 (aO .u64 d 7) 7) 7) 7) 7) 7) 7))]) λu=>(c (u,[])))))) (bnd (app l [(IntKind.u8.wrap (aO .u64 (aO .u64 (aO .u64 (aO .u64 (aO .u64 (aO .u64 d 7) 7) 7) 7) 7) 7))]) λv=>(c (v,[])))))) (bnd (app j [(IntKind.u8.wrap (aO .u64 (aO .u64 (aO .u64 (aO .u64 (aO .u64 d 7) 7) 7) 7) 7))]) λw=>(c (w,[])))))) (bnd (app i [(IntKind.u8.wrap (aO .u64 (aO .u64 (aO .u64 (aO .u64 d 7) 7) 7) 7))]) λx=>(c (x,[])))))) (bnd (app h [(IntKind.u8.wrap (aO .u64 (aO .u64 (aO .u64 d 7) 7) 7))]) λy=>(c (y,[])))))) (bnd (app g [(IntKind.u8.wrap (aO .u64 (aO .u64 d 7) 7))]) λz=>(c (z,[])))))) (bnd (app f [(IntKind.u8.wrap (aO .u64 d 7))]) λa0=>(c (a0,[])))))) (bnd (app a [(IntKind.u8.wrap d)]) λb0=>(c (b0,[])))))))
def mA:=Dq nH
def Nq: Ic:=dU 40 0 2 0x52098e32ca82dc81e0394c7ad1ebcb3180357f7720f128b6a090df4dd4ac2f38b17e817f C74 [⟨0,[Nn]⟩] [] @nH
def nG{R:Type}(n:Nat): ((List Int)×Int)->(((List Int)×Int)->Option R)->(((List Int)->Option R)×Unit)->((List Int)×Int)->Option R:=λ(a,b) c (d,_) (f,g)=>(cd (g<b) (bnd (idx a g) λh=>(bnd (mA n (f,h)) λi=>(c (i.1,(wr (g+1)))))) (d f))
def Xw:=Ym nG
def Np: Lc 18 0 0:=dE 0x45bd65b6ac69744e1e7530d79ab1d6675d673fe53711946def C74 [] [Nq] @nG
def nI: Nat->(List Int)->(List Int)->Option (List Int)
 | 0,_,_=>none
 | n+1,a,b=>(bnd (jK (decide (0<=(ln a)/\(ln a)=(ln a)/\(ln a)<=(ln a)))) λ_=>(bnd (hJ n ((List.take (Int.toNat (ln a)) a),(ln b))) λc=>(bnd (Xw n (b,(ln b)) (c.2,0)) λd=>(some d))))
def AL: Kn:=cK 18 0x215a1b8aa C74 [⟨0,[Np]⟩] [yM] nI
abbrev C75:=AL::C74
def Nl: Lc 40 0 0:=dD 0x26c4ee42282b78fc71cc277fd7a286a C75 [] [] @gZ
def Nm: Ic:=dU 40 0 2 0x17cb086de7a644ae663585bca9ca0d2c7e516828ab838424092ead711de326d2b67 C75 [⟨0,[Nl]⟩] [] @kL
def nF: Nat->(List Int)->ByteArray->Option (List Int)
 | 0,_,_=>none
 | n+1,a,b=>(bnd (jK (decide (0<=(ln a)/\(ln a)=(ln a)/\(ln a)<=(ln a)))) λ_=>(bnd (hJ n ((List.take (Int.toNat (ln a)) a),((b.size:Nat):Int))) λc=>(bnd (app c.2 (Q2 b)) λd=>(some d))))
def AK: Kn:=cK 19 0x8ae570e7714040 C75 [] [Nm] nF
abbrev C76:=AK::C75
def fY{R:Type}(n:Nat): ((List Int)×Int)->((Int×Int)->Option R)->((Int->Option R)×Unit)->(Int×Int)->Option R:=λ(a,b) c (d,_) (f,g)=>(cd (g<b) (bnd (idx a g) λh=>(bnd (jK (decide (0<=4))) λ_=>(bnd (idx P8 (eG .and .u32 (eG .xor .u32 f (IntKind.u32.wrap h)) 15)) λi=>(bnd (jK (decide (0<=4))) λ_=>(bnd (idx P8 (eG .and .u32 (eG .xor .u32 (aO .u32 (eG .xor .u32 f (IntKind.u32.wrap h)) 4) i) 15)) λj=>(c ((eG .xor .u32 (aO .u32 (eG .xor .u32 (aO .u32 (eG .xor .u32 f (IntKind.u32.wrap h)) 4) i) 4) j),(wr (g+1))))))))) (d f))
def HZ:=Ym fY
def Yy: Lc 62 0 0:=dE 0xd71cfe0f095d1edeef31c4710bfa3c602275657b93007eb9870c310 C76 [] [] @fY
def Na: Nat->(List Int)->Option Int
 | 0,_=>none
 | n+1,a=>(bnd (HZ n (a,(ln a)) (4294967295,0)) λb=>(some (G8 .u32 b)))
def OH: Kn:=cK 62 0xc9432c8d C76 [⟨0,[Yy]⟩] [] Na
abbrev C77:=OH::C76
def xF: Nat->(List Int)->Option Aac
 | 0,_=>none
 | n+1,a=>(bnd (Na n a) λb=>(bnd (jK (decide (0<=24))) λ_=>(bnd (jK (decide (0<=16))) λ_=>(bnd (jK (decide (0<=8))) λ_=>(some (Aac.mk (IntKind.u8.wrap (aO .u32 b 24)) (IntKind.u8.wrap (aO .u32 b 16)) (IntKind.u8.wrap (aO .u32 b 8)) (IntKind.u8.wrap b)))))))
def IA: Kn:=cK 41 0xc94334b7 C77 [] [] xF
abbrev C78:=IA::C77
def xG: Nat->(List Int)->Option (List Int)
 | 0,_=>none
 | n+1,a=>(bnd (xF n a) λb=>(bnd (jK (decide (0<=(ln a)/\(ln a)=(ln a)/\(ln a)<=(ln a)))) λ_=>(bnd (app (List.take (Int.toNat (ln a)) a) [b.e0,b.e1,b.e2,b.e3]) λc=>(some c))))
def IB: Kn:=cK 20 0x1887a4dfc1ec69805f93 C78 [] [] xG
abbrev C79:=IB::C78
def jO{R:Type}(n:Nat): ((List cW)×Int)->(((List Int)×Int)->Option R)->(((List Int)->Option R)×Unit)->((List Int)×Int)->Option R:=λ(a,b) c (d,_) (f,g)=>(cd (g<b) (bnd (idx a g) λh=>(bnd (fI n f [h.ID,h.At.X,h.At.Y]) λi=>(c (i,(wr (g+1)))))) (d f))
def Zc:=Ym jO
def Qn: Lc 4 0 0:=dE 0x85af19514e644a76860a38ddc7809c72751f C79 [] [] @jO
def jN{R:Type}(n:Nat): ((List eP)×Int)->(((List Int)×Int)->Option R)->(((List Int)->Option R)×Unit)->((List Int)×Int)->Option R:=λ(a,b) c (d,_) (f,g)=>(cd (g<b) (bnd (idx a g) λh=>(bnd (fI n f [h.ID,h.From,h.To,h.Left,h.Right]) λi=>(bnd (mB n i h.Via) λj=>(c (j,(wr (g+1))))))) (d f))
def Zb:=Ym jN
def Qk: Lc 4 0 1:=dE 0x44367855f30da46b4ca4bff983d37872d04a2fb C79 [] [] @jN
def jM{R:Type}(n:Nat): ((List aP)×Int)->(((List Int)×Int)->Option R)->(((List Int)->Option R)×Unit)->((List Int)×Int)->Option R:=λ(a,b) c (d,_) (f,g)=>(cd (g<b) (bnd (idx a g) λh=>(bnd (fI n f [h.ID,h.Kind,h.Class]) λi=>(bnd (nF n i h.Name) λj=>(bnd (nI n j h.Parts) λl=>(c (l,(wr (g+1)))))))) (d f))
def Za:=Ym jM
def Qj: Lc 4 0 2:=dE 0x1a0a952e7542237fc58370e3f9ba1f7e693057557d C79 [] [] @jM
def Cb: Nat->cS->Option ((List Int)×Int)
 | 0,_=>none
 | n+1,a=>(bnd (yE n a) λb=>(cnd (b != 0) (some ([],b)) (bnd (gB n [] (ln a.Plan.Nodes)) λc=>(bnd (Zc n (a.Plan.Nodes,(ln a.Plan.Nodes)) (c,0)) λd=>(bnd (gB n d (ln a.Plan.Arcs)) λf=>(bnd (Zb n (a.Plan.Arcs,(ln a.Plan.Arcs)) (f,0)) λg=>(bnd (nI n g a.Plan.Faces) λh=>(bnd (gB n h (ln a.Features)) λi=>(bnd (Za n (a.Features,(ln a.Features)) (i,0)) λj=>(bnd (xG n j) λl=>(some (l,0))))))))))))
def FE: Kn:=cK 4 0xab1cb4d8440 C79 [⟨0,[Qn]⟩,⟨1,[Qk]⟩,⟨2,[Qj]⟩] [] Cb
abbrev C80:=FE::C79
def nB: Nat->(List Int)->Int->Int->Option (List Int)
 | 0,_,_,_=>none
 | n+1,a,b,c=>(bnd (app ([]:List Int) a) λd=>(bnd (YF d (List.length d) b) λ_=>(bnd (idx d b) λf=>(bnd (YF d (List.length d) b) λ_=>(bnd (idx d b) λ_=>(some (List.set d (Int.toNat b) (eG .xor .u8 f c))))))))
def IJ: Kn:=cK 5 0xc829065947b816a726e0d5 C80 [] [] nB
abbrev C81:=IJ::C80
def aGC: Kn:=aIn 91 35 36 ⟨_,_,_,rfl,by decide,by decide⟩ (λn p=>clF n p) (λp=>p) (λn p r h=>by obtain⟨m,h1,h2,h3⟩:=aIo h;subst h2;exact⟨m,h1,rfl,h3,rfl,λe=>by cases (e:_=[]);rfl⟩)
abbrev C82:=aGC::C81
def Gm: Nat->(List Int)->Option ((List Int)×Int)
 | 0,_=>none
 | n+1,a=>(cd ((ln a)<4) (some ([],5)) (bnd (PM a 0 (wr ((ln a)-4))) λb=>(bnd (xF n b) λc=>(bnd (PM a (wr ((ln a)-4)) (ln a)) λd=>(bnd (idx d 0) λf=>(bnd (idx d 1) λg=>(bnd (idx d 2) λh=>(bnd (idx d 3) λi=>(cd (c=(Aac.mk f g h i)) (bnd (clF n b) λj=>(some (j,0))) (some ([],6)))))))))))
def IE: Kn:=cK 63 0x14f58d8e5 C82 [] [] Gm
abbrev C83:=IE::C82
def Ks{R:Type}(n:Nat): ((List Int)×Int)->((Bool->Option R)×Unit)->Unit->Option R:=λ(a,b) (c,_) _=>(cd (b > 0) (bnd (idx a b) λd=>(cnd (d==0) (c true) (cnd (b==9) (bnd (idx a b) λf=>(cd (f > 1) (c true) (c false))) (c false)))) (cnd (b==9) (bnd (idx a b) λg=>(cd (g > 1) (c true) (c false))) (c false)))
def PT:=nE Ks
def GT: Lc 92 0 1:=dD 0xebf39ce30278c638fd8ff74d0de78d8a27b8f2 C83 [] [] @Ks
def Kr{R:Type}(n:Nat): (Int×Int)->((Int->Option R)×Unit)->Unit->Option R:=λ(a,b) (c,_) _=>(cnd ((eG .and .u64 b 1)==1) (c (G8 .i64 a)) (c a))
def PS:=nE Kr
def GS: Lc 92 0 2:=dD 0xd98636fd100adfd4f33b5cb0563 C83 [] [] @Kr
def Kt{R:Type}(n:Nat): ((List Int)×Int)->((Int×Int)->Option R)->(((Int×Int×Int)->Option R)×(Unit->Option R)×Unit)->(Int×Int)->Option R:=λ(a,b) c (d,f,_) (g,h)=>(cd (h<b) (bnd (idx a h) λi=>(bnd (jK (decide (0<=(wr (7*h))))) λ_=>(bnd (idx a h) λj=>(cd (j>=128) (c ((eG .or .u64 g (QN .u64 (IntKind.u64.wrap (eG .and .u8 i 127)) (wr (7*h)))),(wr (h+1)))) (bnd (PT n (a,h)) λl=>(cnd (l) (d (0,0,4)) (bnd (PS n ((wr (Int.fdiv (eG .or .u64 g (QN .u64 (IntKind.u64.wrap (eG .and .u8 i 127)) (wr (7*h)))) 2)),(eG .or .u64 g (QN .u64 (IntKind.u64.wrap (eG .and .u8 i 127)) (wr (7*h)))))) λm=>(d (m,(wr (h+1)),0))))))))) (f ()))
def PU:=yJ Kt
def GU: Lc 92 0 0:=dE 0xc6ba49dddb516f9743bfc46fd781de3bad91ac9a0202 C83 [⟨0,[cs GT]⟩,⟨1,[cs GS]⟩] [] @Kt
def AN: Nat->(List Int)->Option (Int×Int×Int)
 | 0,_=>none
 | n+1,a=>(bnd2 (PU n (a,(HP (ln a) 10)) (0,0)) (λb=>(some (b.1,b.2.1,b.2.2))) λc=>(bnd (some c) λ_=>(cd ((ln a)>=10) (some (0,0,4)) (some (0,0,5)))))
def VS: Kn:=cK 92 0x104a680035f1 C83 [⟨0,[GU]⟩] [] AN
abbrev C84:=VS::C83
def yL{R:Type}(n:Nat): (Int×Int×Int×Int)->((Int->Option R)×(Unit->Option R)×Unit)->Unit->Option R:=λ(a,b,c,d) (f,g,_) _=>(cnd (d != 0) (f d) (cd (b<0) (f 4) (cd (b > (Fk a 0)) (f 3) (g ()))))
def AJ:=pc2 yL
def Rh: Lc 119 0 0:=dD 0x8a89045010e7abe66a23b51b9d925d003061e8a60e86 C84 [] [] @yL
def Ds: Nat->(List Int)->Int->Option (Int×Int×Int)
 | 0,_,_=>none
 | n+1,a,b=>(bnd (AN n a) λc=>(bnd2 (AJ n (b,c.1,c.2.1,c.2.2)) (λd=>(some (0,0,d))) λf=>(bnd (some f) λ_=>(some (c.1,c.2.1,0)))))
def GQ: Kn:=cK 119 0x84ff75119ab52a C84 [⟨0,[Rh]⟩] [] Ds
abbrev C85:=GQ::C84
def Dt{R:Type}(n:Nat): ((List Int)×Int)->(((List Int)×Int×Int)->Option R)->((((List Int)×Int)->Option R)×(((List Int)×Int)->Option R)×Unit)->((List Int)×Int×Int)->Option R:=λ(a,b) c (d,f,_) (g,h,i)=>(cd (i<b) (bnd (jK (decide ((ln a)<=(ln a)/\(ln a)<=(ln a)))) λ_=>(bnd (PM a h (ln a)) λj=>(bnd (AN n j) λl=>(cnd (l.2.2 != 0) (d (g,l.2.2)) (bnd (app g [l.1]) λm=>(c (m,(wr (h+l.2.1)),(wr (i+1))))))))) (f (g,h)))
def LK:=yJ Dt
def AM: Lc 97 0 0:=dE 0x4ae8e4d75ee3b421f44dba29dcee61d946a64a0461a52544d67a5f4fa6a8022549e44a0091196af8c96 C85 [] [] @Dt
def B6: Nat->(List Int)->Int->Option ((List Int)×Int×Int)
 | 0,_,_=>none
 | n+1,a,b=>(bnd (Ds n a b) λc=>(cnd (c.2.2 != 0) (some ([],0,c.2.2)) (bnd2 (LK n (a,c.1) ([],c.2.1,0)) (λd=>(some ([],0,d.2))) λf=>(bnd (some f) λg=>(some (g.1,g.2,0))))))
def PR: Kn:=cK 97 0x22a27c08ee3ecbdb4b79 C85 [⟨0,[AM]⟩] [] B6
abbrev C86:=PR::C85
def B5: Nat->(List Int)->Int->Option (ByteArray×Int×Int)
 | 0,_,_=>none
 | n+1,a,b=>(bnd (Ds n a b) λc=>(cnd (c.2.2 != 0) (some ((⟨#[]⟩:ByteArray),0,c.2.2)) (cd (c.1 > (wr ((ln a)-c.2.1))) (some ((⟨#[]⟩:ByteArray),0,5)) (bnd (PM a c.2.1 (wr (c.2.1+c.1))) λd=>(some ((aKo d),(wr (c.2.1+c.1)),0))))))
def PQ: Kn:=cK 104 0x8506d5d726ca7e C86 [] [] B5
abbrev C87:=PQ::C86
def codec_reader_survey!_K: Kn:=⟨46,⟨[.w 41],[5,3,7],false,λn p=>none⟩,λn p r h=>by cases h⟩
abbrev C88:=codec_reader_survey!_K::C87
def codec_ReadSurvey?_I2_B{R:Type}(n:Nat): (List Int)->((Int->Option R)×((List Int)->Option R)×Unit)->Unit->Option R:=λa (b,c,_) _=>(cd ((ln a) > 1048576) (b 3) (bnd (Gm n a) λd=>(cnd (d.2 != 0) (cnd (d.2==0) (b d.2) (b d.2)) (c d.1))))
def codec_ReadSurvey?_I2:=KA codec_ReadSurvey?_I2_B
def codec_ReadSurvey?_I2_l: Ic:=dU 44 0 1 0x2b35bd800e760bc193ad17eaaf0bff9eb2373a4bb74de41aca C88 [] [] @codec_ReadSurvey?_I2_B
def codec_ReadSurvey?_I1_B{R:Type}(n:Nat): (List Int)->((Int->Option R)×Unit)->Unit->Option R:=λa (b,_) _=>(bnd2 (codec_ReadSurvey?_I2 n a) (λc=>(b c)) λd=>(bnd (some d) λ_=>none))
def codec_ReadSurvey?_I1:=Dq codec_ReadSurvey?_I1_B
def codec_ReadSurvey?_I1_l: Ic:=dU 21 0 1 0x26398736d58e1bbe27232a9a77964d781a8ee63ea5b25ffd8c C88 [] [codec_ReadSurvey?_I2_l] @codec_ReadSurvey?_I1_B
def codec_ReadSurvey?: Nat->(List Int)->Option (cS×Int)
 | 0,_=>none
 | n+1,a=>(bnd (codec_ReadSurvey?_I1 n a) λb=>(some ((cS.mk (aX.mk [] [] []) []),b)))
def codec_ReadSurvey?_K: Kn:=cK 22 0xab1c3a433d8 C88 [] [codec_ReadSurvey?_I1_l] codec_ReadSurvey?
abbrev C89:=codec_ReadSurvey?_K::C88
def codec_ReadSurvey?R_K: Kn:=aHe 6 22 21 4 [aZ,aZ,aZ,aZ] codec_ReadSurvey?_K
abbrev C90:=codec_ReadSurvey?R_K::C89
def xD{R:Type}(n:Nat): Int->((Bool->Option R)×Unit)->Unit->Option R:=λa (b,_) _=>(cnd (a==1) (b true) (cnd (a==3) (b true) (b false)))
def Cy:=nE xD
def Qb: Lc 50 0 1:=dD 0x710f9f261950f14d3d3a90631 C90 [] [] @xD
def xE{R:Type}(n:Nat): dJ->((dJ->Option R)×Unit)->Unit->Option R:=λa (b,_) _=>(bnd (Cy n a.Kind) λc=>(cnd (c) (b (dJ.mk a.Kind a.ID a.A a.B a.C (Aaa.mk 0 0) a.Via a.Name a.Parts)) (cnd (a.Kind==4) (b (dJ.mk a.Kind a.ID 0 0 0 a.At [] a.Name a.Parts)) (cnd (a.Kind==6) (b (dJ.mk a.Kind a.ID a.A a.B a.C a.At [] a.Name a.Parts)) (cnd (a.Kind==7) (b (dJ.mk a.Kind a.ID 0 0 a.C a.At a.Via (⟨#[]⟩:ByteArray) [])) (cnd (a.Kind==9) (b (dJ.mk a.Kind a.ID a.A a.B a.C a.At a.Via (⟨#[]⟩:ByteArray) a.Parts)) (cnd (a.Kind==10) (b (dJ.mk a.Kind a.ID a.A 0 a.C a.At a.Via a.Name a.Parts)) (cnd (a.Kind==11) (b (dJ.mk a.Kind a.ID a.A a.B a.C a.At a.Via a.Name [])) (cnd (a.Kind==12) (b (dJ.mk a.Kind a.ID 0 a.B a.C a.At a.Via a.Name a.Parts)) (b a))))))))))
def Cz:=nE xE
def Qd: Lc 50 0 0:=dD 0x4184e91722079c9188ee51754 C90 [⟨0,[cs Qb]⟩] [] @xE
def xC{R:Type}(n:Nat): dJ->((Bool->Option R)×Unit)->Unit->Option R:=λa (b,_) _=>(cnd (a.A != 0) (b true) (cnd (a.B != 0) (b true) (cnd (a.C != 0) (b true) (cd (a.At=(Aaa.mk 0 0)) (cd ((ln a.Via) > 0) (b true) (cd (a.Name=(⟨#[]⟩:ByteArray)) (cd ((ln a.Parts) > 0) (b true) (b false)) (b true))) (b true)))))
def Cx:=nE xC
def Qa: Lc 50 0 2:=dD 0x377338 C90 [] [] @xC
def Bz: Nat->dJ->Option Bool
 | 0,_=>none
 | n+1,a=>(bnd (Cz n a) λb=>(bnd (Cx n b) λc=>(cnd (c) (some true) (some false))))
def EY: Kn:=cK 50 0xfea1d71c C90 [⟨0,[Qd]⟩,⟨2,[Qa]⟩] [] Bz
abbrev C91:=EY::C90
def EV: Nat->Int->Option Bool
 | 0,_=>none
 | n+1,a=>(cd (1<=a) (cd (a<=1073741824) (some true) (some false)) (some false))
def Va: Kn:=cK 76 0x1f359f C91 [] [] EV
abbrev C92:=Va::C91
def Pj{R:Type}(n:Nat): (M5×Aaa)->((Bool->Option R)×Unit)->Unit->Option R:=λ(a,b) (c,_) _=>(cd (a.X0<=b.X) (cd (b.X<=a.X1) (cd (a.Y0<=b.Y) (cd (b.Y<=a.Y1) (c true) (c false)) (c false)) (c false)) (c false))
def EF:=nE Pj
def NR: Lc 98 0 0:=dD 0x2174d0ff7aae10d28b26db6045dc C92 [] [] @Pj
def NS: Nat->M5->Aaa->Option Bool
 | 0,_,_=>none
 | n+1,a,b=>(bnd (EF n (a,b)) λc=>(cnd (c) (some true) (some false)))
def J1: Kn:=cK 98 0x7f43bcb76afde0 C92 [⟨0,[NR]⟩] [] NS
abbrev ZO:=J1::C92
def pZ{R:Type}(n:Nat): Int->((Bool->Option R)×Unit)->Unit->Option R:=λa (b,_) _=>(cd (1<=a) (cd (a<=1073741824) (b true) (b false)) (b false))
def eE:=Dq pZ
def Vj: Ic:=dU 76 0 1 0x22370064fd15efea7f57 ZO [] [] @pZ
def pY{R:Type}(n:Nat): Aaa->((Bool->Option R)×Unit)->Unit->Option R:=λa (b,_) _=>(bnd (NS n (M5.mk (-1048576) (-1048576) 1048576 1048576) a) λc=>(cnd (c) (b false) (b true)))
def iB:=Dq pY
def Vi: Ic:=dU 77 0 2 0x11fb8f2ae3133dab30e913388358ccafc78aeaa498 ZO [] [] @pY
def Vf: Ic:=dU 77 4 2 0x4511946107c8d41eb3fc9628138d5c8c8db9 ZO [] [] @pY
def pX{R:Type}(n:Nat): ((List Aaa)×Int)->(Int->Option R)->((Int->Option R)×(Unit->Option R)×Unit)->Int->Option R:=λ(a,b) c (d,f,_) g=>(cd (g<b) (bnd (idx a g) λh=>(bnd (iB n h) λi=>(cnd (i) (d g) (c (wr (g+1)))))) (f ()))
def EX:=yJ pX
def Vc: Lc 99 0 0:=dE 0x33ba15cc18e7af0cca75cc3f322fe99cfe09b09c879c076a09 ZO [] [Vf] @pX
def zZ{R:Type}(n:Nat): (List Aaa)->((Int->Option R)×Unit)->Unit->Option R:=λa (b,_) _=>(bnd2 (EX n (a,(ln a)) 0) (λc=>(b c)) λd=>(bnd (some d) λ_=>(b (-1))))
def Gk:=Dq zZ
def Vg: Ic:=dU 99 0 2 0x877a748fa8fc077f53563e1409f9c7be1 ZO [⟨0,[Vc]⟩] [] @zZ
def Aa{R:Type}(n:Nat): (List Aaa)->((Bool->Option R)×Unit)->Unit->Option R:=λa (b,_) _=>(bnd (Gk n a) λc=>(cd (c>=0) (b true) (b false)))
def iA:=Dq Aa
def Vh: Ic:=dU 78 0 2 0x8775d2afd008733e930254a583345f3e1 ZO [] [Vg] @Aa
def Py: Ic:=dU 76 4 1 0x22366190696ab6ed822d ZO [] [] @pZ
def xB{R:Type}(n:Nat): Int->((Bool->Option R)×Unit)->Unit->Option R:=λa (b,_) _=>(bnd (eE n a) λc=>(cnd (c) (b false) (b true)))
def Cw:=Dq xB
def Pz: Ic:=dU 79 4 2 0x7cd795f967432cacfdf0a4 ZO [] [Py] @xB
def pW{R:Type}(n:Nat): ((List Int)×Int)->(Int->Option R)->((Int->Option R)×(Unit->Option R)×Unit)->Int->Option R:=λ(a,b) c (d,f,_) g=>(cd (g<b) (bnd (idx a g) λh=>(bnd (Cw n h) λi=>(cnd (i) (d g) (c (wr (g+1)))))) (f ()))
def EW:=yJ pW
def Vb: Lc 100 0 0:=dE 0x33bca67125c83dcb7ff80fa4323c3ab095e6a265f00cb86054 ZO [] [Pz] @pW
def zX{R:Type}(n:Nat): (List Int)->((Int->Option R)×Unit)->Unit->Option R:=λa (b,_) _=>(bnd2 (EW n (a,(ln a)) 0) (λc=>(b c)) λd=>(bnd (some d) λ_=>(b (-1))))
def Gj:=Dq zX
def Vd: Ic:=dU 100 0 2 0x208147a3388ad1acd168dc4cc39c ZO [⟨0,[Vb]⟩] [] @zX
def zY{R:Type}(n:Nat): (List Int)->((Bool->Option R)×Unit)->Unit->Option R:=λa (b,_) _=>(bnd (Gj n a) λc=>(cd (c>=0) (b true) (b false)))
def hZ:=Dq zY
def Ve: Ic:=dU 80 0 2 0x2080f7a598fdab859c9d7792ff9c ZO [] [Vd] @zY
def xA{R:Type}(n:Nat): Int->((Bool->Option R)×Unit)->Unit->Option R:=λa (b,_) _=>(cnd (a==7) (b true) (cnd (a==10) (b true) (b false)))
def Cv:=nE xA
def Px: Lc 51 0 0:=dD 0x5fc39994af8eeadd12721eabfd6f82d9ba3e ZO [] [] @xA
def wZ{R:Type}(n:Nat): dJ->((Bool->Option R)×Unit)->Unit->Option R:=λa (b,_) _=>(cd (a.B<1) (b true) (cd (a.B > 9) (b true) (b false)))
def Cu:=nE wZ
def Pw: Lc 51 0 1:=dD 0x78656c6c5bd3d220d741bba6a1c5b454a7e1355a7 ZO [] [] @wZ
def Gl: Nat->dJ->Option Bool
 | 0,_=>none
 | n+1,a=>(cnd (a.Kind==4) (bnd (eE n a.A) λb=>(cnd (b) (bnd (eE n a.B) λc=>(cnd (c) (bnd (eE n a.ID) λd=>(cnd (d) (cd (a.C<(-1073741824)) (some false) (cd (a.C > 1073741824) (some false) (bnd (iB n a.At) λf=>(cnd (f) (some false) (bnd (iA n a.Via) λg=>(cnd (g) (some false) (bnd (hZ n a.Parts) λh=>(cnd (h) (some false) (some true))))))))) (some false))) (some false))) (some false))) (cnd (a.Kind==12) (bnd (eE n a.A) λi=>(cnd (i) (bnd (eE n a.ID) λj=>(cnd (j) (cd (a.C<(-1073741824)) (some false) (cd (a.C > 1073741824) (some false) (bnd (iB n a.At) λl=>(cnd (l) (some false) (bnd (iA n a.Via) λm=>(cnd (m) (some false) (bnd (hZ n a.Parts) λo=>(cnd (o) (some false) (some true))))))))) (some false))) (some false))) (bnd (Cv n a.Kind) λr=>(cnd (r) (bnd (Cu n a) λs=>(cnd (s) (some false) (bnd (eE n a.ID) λt=>(cnd (t) (cd (a.C<(-1073741824)) (some false) (cd (a.C > 1073741824) (some false) (bnd (iB n a.At) λu=>(cnd (u) (some false) (bnd (iA n a.Via) λv=>(cnd (v) (some false) (bnd (hZ n a.Parts) λw=>(cnd (w) (some false) (some true))))))))) (some false))))) (bnd (eE n a.ID) λx=>(cnd (x) (cd (a.C<(-1073741824)) (some false) (cd (a.C > 1073741824) (some false) (bnd (iB n a.At) λy=>(cnd (y) (some false) (bnd (iA n a.Via) λz=>(cnd (z) (some false) (bnd (hZ n a.Parts) λa0=>(cnd (a0) (some false) (some true))))))))) (some false)))))))
def HY: Kn:=cK 51 0xfea1d71c ZO [⟨0,[Px]⟩,⟨1,[Pw]⟩] [Vj,Vi,Vh,Ve] Gl
abbrev C94:=HY::ZO
def Dd{R:Type}(n:Nat): dJ->((Bool->Option R)×Unit)->Unit->Option R:=λa (b,_) _=>(cd (a.Kind<1) (b true) (cd (a.Kind > 12) (b true) (b false)))
def Li:=nE Dd
def Yx: Lc 23 0 0:=dD 0x17a24da4a C94 [] [] @Dd
def Dc{R:Type}(n:Nat): dJ->((Bool->Option R)×Unit)->Unit->Option R:=λa (b,_) _=>(cnd (a.Kind==7) (bnd (fH n a.A) λc=>(cnd (c==0) (b true) (b false))) (b false))
def Lh:=nE Dc
def Yw: Lc 23 0 1:=dD 0xc0e5d85dace C94 [] [] @Dc
def Db{R:Type}(n:Nat): dJ->((Bool->Option R)×Unit)->Unit->Option R:=λa (b,_) _=>(cd ((ln a.Via) > 64) (b true) (cd ((ln a.Parts) > 64) (b true) (b false)))
def Lg:=nE Db
def Yv: Lc 23 0 2:=dD 0xc0e60e85462 C94 [] [] @Db
def Da{R:Type}(n:Nat): dJ->((Bool->Option R)×Unit)->Unit->Option R:=λa (b,_) _=>(cd (a.Name=(⟨#[]⟩:ByteArray)) (b false) (bnd (uO n a.Name) λc=>(cnd (c != 0) (b true) (b false))))
def Lf:=nE Da
def Yu: Lc 23 0 3:=dD 0x57326a4f42c1d2 C94 [] [] @Da
def Mz: Nat->dJ->Option Int
 | 0,_=>none
 | n+1,a=>(bnd (Li n a) λb=>(cnd (b) (some 9) (bnd (Lh n a) λc=>(cnd (c) (some 9) (bnd (Bz n a) λd=>(cnd (d) (some 1) (bnd (Lg n a) λf=>(cnd (f) (some 3) (bnd (Gl n a) λg=>(cnd (g) (bnd (qL n a.Parts) λh=>(cnd (h) (bnd (Lf n a) λi=>(cnd (i) (some 14) (some 0))) (some 10))) (some 2)))))))))))
def OG: Kn:=cK 23 0x18a71eb60 C94 [⟨0,[Yx]⟩,⟨1,[Yw]⟩,⟨2,[Yv]⟩,⟨3,[Yu]⟩] [] Mz
abbrev C95:=OG::C94
def Gq{R:Type}(n:Nat): Nk->((Bool->Option R)×Unit)->Unit->Option R:=λa (b,_) _=>(cd (((a.Source.size:Nat):Int) > 40) (b true) (cd ((ln a.Edits) > 64) (b true) (b false)))
def OI:=nE Gq
def FB: Lc 7 0 0:=dD 0x1aa3e2f86cbaaefbece35a090 C95 [] [] @Gq
def oK{R:Type}(n:Nat): ((List dJ)×Int)->(Int->Option R)->(((dJ×Int)->Option R)×(Unit->Option R)×Unit)->Int->Option R:=λ(a,b) c (d,f,_) g=>(cd (g<b) (bnd (idx a g) λh=>(bnd (Mz n h) λi=>(cnd (i != 0) (d (h,i)) (c (wr (g+1)))))) (f ()))
def OK:=yJ oK
def FD: Lc 7 0 1:=dE 0x140dd7ea2facd9aa72762fe101514d4c31e534147e786b3580657fe7 C95 [] [] @oK
def oJ{R:Type}(n:Nat): ((List dJ)×Int)->(((List Int)×Int)->Option R)->(((List Int)->Option R)×Unit)->((List Int)×Int)->Option R:=λ(a,b) c (d,_) (f,g)=>(cd (g<b) (bnd (idx a g) λh=>(bnd (fI n f [h.Kind,h.ID,h.A,h.B,h.C,h.At.X,h.At.Y]) λi=>(bnd (mB n i h.Via) λj=>(bnd (nF n j h.Name) λl=>(bnd (nI n l h.Parts) λm=>(c (m,(wr (g+1))))))))) (d f))
def OJ:=Ym oJ
def FC: Lc 7 0 2:=dE 0xc4004b93c6f66778334b8fbb1197686f1 C95 [] [] @oJ
def Ie: Nat->Nk->Option ((List Int)×Int)
 | 0,_=>none
 | n+1,a=>(bnd (OI n a) λb=>(cnd (b) (some ([],3)) (bnd2 (OK n (a.Edits,(ln a.Edits)) 0) (λc=>(some ([],c.2))) λd=>(bnd (some d) λ_=>(bnd (fI n [] [a.Office,a.Seq,a.Time]) λf=>(bnd (nF n f a.Source) λg=>(bnd (gB n g (ln a.Edits)) λh=>(bnd (OJ n (a.Edits,(ln a.Edits)) (h,0)) λi=>(bnd (xG n i) λj=>(some (j,0)))))))))))
def UP: Kn:=cK 7 0x16bb6b95e847e5583a87 C95 [⟨0,[FB]⟩,⟨1,[FD]⟩,⟨2,[FC]⟩] [] Ie
abbrev C96:=UP::C95
def codec_reader_txn!_K: Kn:=⟨56,⟨[.w 41],[5,3,9],false,λn p=>none⟩,λn p r h=>by cases h⟩
abbrev C97:=codec_reader_txn!_K::C96
def codec_ReadTxn?_I2_l: Ic:=dU 44 0 1 0x2b35bd800e760bc193ad17eaaf0bff9eb2373a4bb74de41aca C97 [] [] @codec_ReadSurvey?_I2_B
def codec_ReadTxn?_I1_B{R:Type}(n:Nat): (List Int)->(((ByteArray×Int)->Option R)×Unit)->Unit->Option R:=λa (b,_) _=>(bnd2 (codec_ReadSurvey?_I2 n a) (λc=>(b ((⟨#[]⟩:ByteArray),c))) λd=>(bnd (some d) λ_=>none))
def codec_ReadTxn?_I1:=Dq codec_ReadTxn?_I1_B
def codec_ReadTxn?_I1_l: Ic:=dU 24 0 1 0x4ae984cd478bb1d756b2c01fd2b55296185918cae65aecc C97 [] [codec_ReadTxn?_I2_l] @codec_ReadTxn?_I1_B
def codec_ReadTxn?: Nat->(List Int)->Option (Nk×Int)
 | 0,_=>none
 | n+1,a=>(bnd (codec_ReadTxn?_I1 n a) λb=>(some ((Nk.mk 0 0 0 (⟨#[]⟩:ByteArray) []),b.2)))
def codec_ReadTxn?_K: Kn:=cK 25 0xab1c42981a0 C97 [] [codec_ReadTxn?_I1_l] codec_ReadTxn?
abbrev C98:=codec_ReadTxn?_K::C97
def codec_ReadTxn?R_K: Kn:=aHe 8 25 24 5 [(.int .i64 0),(.int .i64 0),(.int .i64 0),(.string ⟨#[]⟩),aZ] codec_ReadTxn?_K
abbrev C99:=codec_ReadTxn?R_K::C98
def qN{R:Type}(n:Nat): (cS×Nk×Int×Int)->((Bool->Option R)×Unit)->Unit->Option R:=λ(a,b,c,d) (f,_) _=>(bnd (Vu n a) λg=>(cnd (g) (bnd (Cf n b) λh=>(cnd (h) (cnd (d==0) (f true) (cd (c<0) (f true) (f false))) (f true))) (f true)))
def Ni:=nE qN
def Hf: Lc 0 0 0:=dD 0xa3f13338167965a5813e7f6b7768d5ba22906088e3d07b9da05522e C99 [] [] @qN
def gK{R:Type}(n:Nat): (Int×(List Int)×Int)->((Bool->Option R)×Unit)->Unit->Option R:=λ(a,b,c) (d,_) _=>(cnd (c==0) (cd (a<(ln b)) (d true) (d false)) (d false))
def fT:=nE gK
def He: Lc 0 0 1:=dD 0x1ce6c824abff6ab30c16993a105a496cd494 C99 [] [] @gK
def Hc: Lc 0 0 2:=dD 0x3d6c8ecca8eb5b0a5070170b52ff17285cb554feca20 C99 [] [] @gK
def Hb: Lc 0 0 2:=dD 0xebebaa288c9c33aebb3a8fa5c97cffaf41457c C99 [] [] @gK
def mE: Nat->cS->Nk->Int->Int->Option Bool
 | 0,_,_,_,_=>none
 | n+1,a,b,c,d=>(bnd (Ni n (a,b,c,d)) λf=>(cnd (f) (bnd (iF n) λg=>(cnd (g) (some true) (some false))) (bnd (Cb n a) λh=>(bnd (fT n (c,h.1,h.2)) λi=>(cnd (i) (bnd (nB n h.1 c d) λj=>(bnd (codec_ReadSurvey? n j) λl=>(cnd (l.2 != 6) (some false) (bnd (Ie n b) λm=>(bnd (fT n (c,m.1,m.2)) λo=>(cnd (o) (bnd (nB n m.1 c d) λr=>(bnd (codec_ReadTxn? n r) λs=>(cnd (s.2 != 6) (some false) (bnd (iF n) λt=>(cnd (t) (some true) (some false)))))) (bnd (iF n) λu=>(cnd (u) (some true) (some false))))))))) (bnd (Ie n b) λv=>(bnd (fT n (c,v.1,v.2)) λw=>(cnd (w) (bnd (nB n v.1 c d) λx=>(bnd (codec_ReadTxn? n x) λy=>(cnd (y.2 != 6) (some false) (bnd (iF n) λz=>(cnd (z) (some true) (some false)))))) (bnd (iF n) λa0=>(cnd (a0) (some true) (some false)))))))))))
def xL: Kn:=cK 0 0x7d1753356d2462076539e2 C99 [⟨0,[Hf]⟩,⟨1,[He]⟩,⟨2,[Hc,Hb]⟩] [] mE
end
def aD{α:Type}(f:Nat->Nat->Option α)(P:α->Prop): Prop:=∃r,P r/\∃K,∀n m,K<=n->K<=m->f n m=some r
section
variable {α β γ:Type}{P:α->Prop}{Q:β->Prop}{R:γ->Prop}
theorem aA{x:α}(h:P x): aD (λ_ _=>some x) P:=⟨x,h,0,λ_ _ _ _=>rfl⟩
theorem aD.imp{a:α->Prop}{f:Nat->Nat->Option α}(h:aD f P)(k:∀r,P r->a r): aD f a:=by
 let⟨r,b,K,c⟩:=h;exact⟨r,k r b,K,c⟩
theorem aH{f:Nat->Nat->Option β}{g:Nat->Nat->β->Option α}(h:aD f Q)(k:∀r,Q r->aD (λn m=>g n m r) P): aD (λn m=>Av.bnd (f n m)<|g n m) P:=by
 let⟨r,a,K,d⟩:=h;let⟨s,b,J,c⟩:=k r a;refine⟨s,b,max K J,λn m j l=>?_⟩;have i:=d n m (by omega)<|by omega
 show Av.bnd (f n m) (g n m)=some s;rw[i];exact c n m (by omega)<|by omega
theorem aJ{o:Option β}{g:Nat->Nat->β->Option α}{x:β}(e:o=some x)(k:aD (λn m=>g n m x) P): aD (λn m=>Av.bnd o<|g n m) P:=by
 subst e;exact k
def Su(Q:β->Prop)(R:γ->Prop): β⊕γ->Prop
 | .inl a=>Q a
 | .inr b=>R b
theorem aT{f:Nat->Nat->Option (β⊕γ)}{g:Nat->Nat->β->Option α}{k:Nat->Nat->γ->Option α}(h:aD f<|Su Q R)(o:∀a,Q a->aD (λn m=>g n m a) P)(l:∀b,R b->aD (λn m=>k n m b) P): aD (λn m=>Av.bnd2 (f n m) (g n m)<|k n m) P:=by
 let⟨r,j,K,i⟩:=h;cases r with
 | inl a=>
  let⟨s,d,J,c⟩:=o a j;refine⟨s,d,max K J,λn m q p=>?_⟩;show Av.bnd2 (f n m) (g n m) (k n m)=some s;rw[i n m (by omega)<|by omega];exact c n m (by omega)<|by omega
 | inr a=>
  let⟨s,d,J,c⟩:=l a j;refine⟨s,d,max K J,λn m q p=>?_⟩;show Av.bnd2 (f n m) (g n m) (k n m)=some s;rw[i n m (by omega)<|by omega];exact c n m (by omega)<|by omega
theorem aE{b:Bool}{x y:Nat->Nat->Option α}(c:b=true->aD x P)(a:b=false->aD y P): aD (λn m=>Av.cnd b (x n m)<|y n m) P:=by
 cases b with
 | true=>exact c rfl
 | false=>exact a rfl
theorem bF{g:Nat->Nat->Nat->Option α}(h:aD (λn m=>g (n+1) m n) P): aD (λn m=>Av.bnd (Av.prd n)<|g n m) P:=by
 let⟨r,a,K,b⟩:=h;refine⟨r,a,K+1,λn m c d=>?_⟩;cases n with
 | zero=>omega
 | succ n=>exact b n m (by omega)<|by omega
theorem bA{f:Nat->Option α}{g:Nat->Option α}(e:∀n,f (n+1)=g n)(h:aD (λn _=>g n) P): aD (λn _=>f n) P:=by
 let⟨r,a,K,b⟩:=h;refine⟨r,a,K+1,λn m c d=>?_⟩;cases n with
 | zero=>omega
 | succ n=>show f (n+1)=some r;rw[e];exact b n m (by omega)<|by omega
theorem aD.lp{f:Nat->Nat->Option α}{g:Nat->Nat->Option α}(e:∀n m,f n (m+1)=g n m)(h:aD g P): aD f P:=by
 let⟨r,a,K,b⟩:=h;refine⟨r,a,K+1,λn m c d=>?_⟩;cases m with
 | zero=>omega
 | succ m=>rw[e];exact b n m (by omega)<|by omega
theorem bH{f:Nat->Nat->Option α}(h:aD f P): aD (λn _=>f n n) P:=by
 let⟨r,b,K,c⟩:=h;exact⟨r,b,K,λn m a d=>c n n a a⟩
theorem aD.sh{f:Nat->Option α}(h:aD (λn _=>f n) P): aD (λn _=>f<|n+1) P:=by
 let⟨r,a,K,c⟩:=h;exact⟨r,a,K,λn m d b=>c (n+1) m (by omega) b⟩
theorem bB{l:List β}{i:Nat}{f:Nat->Nat->β->Option α}{e:Nat->Nat->Option α}(c:∀x,l[i]?=some x->i<l.length->aD (λn m=>f n m x) P)(b:l.length<=i->aD e P):
 aD (λn m=>Av.cnd (decide<|(i:Int)<((l.length:Nat):Int)) (Av.bnd (idx l (i:Int))<|f n m)<|e n m) P:=by
 refine aE (λh=>?_) λh=>b ?_
 .have a:i<l.length:=by have:=of_decide_eq_true h;omega
  exact aJ (x:=l[i]) (by rw[eU];exact List.getElem?_eq_getElem a)<|c _ (List.getElem?_eq_getElem a) a
 .have:=of_decide_eq_false h;omega
theorem aD.val{f:Nat->Nat->Option α}(k:aD f P): ∃r,P r/\aD f λx=>x=r:=by
 let⟨s,a,J,b⟩:=k;exact⟨s,a,s,rfl,J,b⟩
theorem A2{l:List α}{x:α}(h:l.length<=100000): app l [x]=some (l++[x]):=yH<|by simp;omega
end
def Fh{Q V X:Type}(B:Nat->Q->(V->Option X)->((X->Option X)×Unit)->V->Option X)(n m:Nat)(p:Q)(q:V): Option X:=N1 (λk q=>B n p k (λt=>some t,()) q) m q
def vK{Q V X Y:Type}(B:Nat->Q->(V->Option (X⊕Y))->((X->Option (X⊕Y))×(Y->Option (X⊕Y))×Unit)->V->Option (X⊕Y))(n m:Nat)(p:Q)(q:V): Option<|X⊕Y:=N1 (λk q=>B n p k (λt=>some<|.inl t,λt=>some<|.inr t,()) q) m q
def lm3{Q V X Y Z:Type}(B:Nat->Q->(V->Option (X⊕Y⊕Z))->((X->Option (X⊕Y⊕Z))×(Y->Option (X⊕Y⊕Z))×(Z->Option (X⊕Y⊕Z))×Unit)->V->Option (X⊕Y⊕Z))(n m:Nat)(p:Q)(q:V): Option<|X⊕Y⊕Z:=N1 (λk q=>B n p k (λt=>some<|.inl t,λt=>some<|.inr<|.inl t,λt=>some<|.inr<|.inr t,()) q) m q
theorem fE{Q V X:Type}{P:X->Prop}{B:Nat->Q->(V->Option X)->((X->Option X)×Unit)->V->Option X}{p:Q}{q:V}(h:aD (λn m=>B n p (λq=>Fh B n m p q) (λt=>some t,()) q) P): aD (λn m=>Fh B n m p q) P:=aD.lp (λ_ _=>rfl) h
theorem cG{Q V X Y:Type}{P:X⊕Y->Prop}{B:Nat->Q->(V->Option (X⊕Y))->((X->Option (X⊕Y))×(Y->Option (X⊕Y))×Unit)->V->Option (X⊕Y)}{p:Q}{q:V}(h:aD (λn m=>B n p (λq=>vK B n m p q) (λt=>some<|.inl t,λt=>some<|.inr t,()) q) P): aD (λn m=>vK B n m p q) P:=aD.lp (λ_ _=>rfl) h
theorem aAY{Q V X Y Z:Type}{P:X⊕Y⊕Z->Prop}{B:Nat->Q->(V->Option (X⊕Y⊕Z))->((X->Option (X⊕Y⊕Z))×(Y->Option (X⊕Y⊕Z))×(Z->Option (X⊕Y⊕Z))×Unit)->V->Option (X⊕Y⊕Z)}{p:Q}{q:V}(h:aD (λn m=>B n p (λq=>lm3 B n m p q) (λt=>some<|.inl t,λt=>some<|.inr<|.inl t,λt=>some<|.inr<|.inr t,()) q) P): aD (λn m=>lm3 B n m p q) P:=aD.lp (λ_ _=>rfl) h
abbrev Tt{α:Type}(f:Nat->Nat->Option α): Prop:=aD f λ_=>True
theorem i64_in(x:Int)(h:-9223372036854775808<=x/\x<=9223372036854775807): IntKind.i64.wrap x=x:=by rw[IntKind.wrap_i64];omega
theorem dL{i:Nat}(h:i<1000000): wr ((i:Int)+1)=((i+1:Nat):Int):=by rw[wr,i64_in _<|by omega];push_cast;rfl
def oR{α:Type}(l:List α)(i:Nat)(Q:α->Prop): Prop:=∀(j:Nat) (x:α),j<i->l[j]?=some x->Q x
theorem oR.nil{α:Type}{l:List α}{Q:α->Prop}: oR l 0 Q:=λj x h _=>by omega
theorem oR.step{α:Type}{l:List α}{i:Nat}{Q:α->Prop}{x:α}(h:oR l i Q)(d:l[i]?=some x)(e:Q x): oR l (i+1) Q:=λj y f b=>by
 by_cases c:j=i
 .subst c;rw[d] at b;cases b;exact e
 .exact h j y (by omega) b
theorem oR.fin{α:Type}{l:List α}{i:Nat}{Q:α->Prop}(h:oR l i Q)(c:l.length<=i): ∀x∈l,Q x:=λx b=>by
 let⟨j,a⟩:=List.mem_iff_getElem?.1 b;exact h j x (by have:=(List.getElem?_eq_some_iff.1 a).1;omega) a
structure Sm(p:aX): Prop where
 n:p.Nodes.length<=300
 a:p.Arcs.length<=300
 f:p.Faces.length<=300
 v:∀a∈p.Arcs,a.Via.length<=300
theorem TJ(p:List cW)(d:p.length<=300)(i:Nat)(l:List Int)(b:l=(p.take i).map cW.ID): aD (λn m=>Fh jE n m (p,ln p) (l,(i:Int))) λr=>r=p.map cW.ID:=
 fE<|bB (λx e c=>aJ (A2<|by rw[b];simp;omega)<|by
  rw[dL<|by omega];exact TJ p d (i+1) _<|by rw[b,List.take_add_one,e];simp)
  (λa=>aA<|by rw[b,List.take_of_length_le a])
termination_by p.length-i
theorem TI(p:List eP)(d:p.length<=300)(i:Nat)(l:List Int)(b:l=(p.take i).map eP.ID): aD (λn m=>Fh jD n m (p,ln p) (l,(i:Int))) λr=>r=p.map eP.ID:=
 fE<|bB (λx e c=>aJ (A2<|by rw[b];simp;omega)<|by
  rw[dL<|by omega];exact TI p d (i+1) _<|by rw[b,List.take_add_one,e];simp)
  (λa=>aA<|by rw[b,List.take_of_length_le a])
termination_by p.length-i
theorem aHM(p:aX)(b:Sm p): aD (λn _=>pM n p) λr=>r=(p.Nodes.map cW.ID,p.Arcs.map eP.ID):=
 bA (λ_=>rfl)<|aH (bH<|TJ _ b.n 0 [] rfl) λv d=>aH (bH<|TI _ b.a 0 [] rfl) λw c=>aA<|by rw[d,c]
def B4(l:List Int): Prop:=∀j x y,l[j]?=some x->l[j+1]?=some y->x<y
theorem FU(l:List Int)(k:l.length<=1000)(i:Nat)(p:1<=i)(f:∀j x y,j+1<i->l[j]?=some x->l[j+1]?=some y->x<y): aD (λn m=>vK gY n m l (i:Int))<|Su (λ_=>True) λ_=>B4 l:=
 cG<|aE (λh=>by
  have d:i<l.length:=by have:(i:Int)<(l.length:Int):=of_decide_eq_true h;omega
  have o:wr ((i:Int)-1)=((i-1:Nat):Int):=by rw[wr,i64_in _<|by omega];omega
  rw[o];refine aJ (x:=l[i-1]) (by rw[eU];exact List.getElem?_eq_getElem<|by omega)<|aJ (x:=l[i]) (by rw[eU];exact List.getElem?_eq_getElem d)<|aE (λ_=>aA trivial) λg=>?_;rw[dL<|by omega];refine FU l k (i+1) (by omega) λj x y q c b=>?_;by_cases e:j+1=i
  .subst e;rw[List.getElem?_eq_getElem<|by omega] at c b;cases c;cases b;have:=of_decide_eq_false g;simp only[Nat.add_sub_cancel] at this;omega
  .exact f j x y (by omega) c b)
  (λh=>aA λj x y c b=>by
   have:¬(i:Int)<(l.length:Int):=of_decide_eq_false h;exact f j x y (by have:=(List.getElem?_eq_some_iff.1 b).1;omega) c b)
termination_by l.length-i
theorem aAR(l:List Int)(a:l.length<=1000): aD (λn _=>kA n l) λr=>r=true->B4 l:=
 bA (λ_=>rfl)<|aT (bH<|FU l a 1 (by omega) λj x y b _ _=>by omega) (λ_ _=>aA<|by simp) λ_ h=>aA λ_=>h
theorem X5(x:Int): aD (λn _=>pL n x) λr=>r=false->1<=x/\x<=1073741824:=
 bA (λ_=>rfl)<|aE (λ_=>aA<|by simp) λb=>aE (λ_=>aA<|by simp) λa=>aA λ_=>by
  have:=of_decide_eq_false b;have:=of_decide_eq_false a;omega
theorem SC(l:List Int)(f:l.length<=1000)(i:Nat)(b:oR l i λx=>1<=x/\x<=1073741824): aD (λn m=>vK mK n m (l,ln l) (i:Int)) (Su (λv=>0<=v) λ_=>∀x∈l,1<=x/\x<=1073741824):=
 cG<|bB (λx e c=>aH (X5 x) λr d=>aE (λ_=>aA<|by show (0:Int)<=(i:Int);omega) λh=>by
  rw[dL<|by omega];exact SC l f (i+1)<|b.step e<|d h)
  (λa=>aA<|b.fin a)
termination_by l.length-i
theorem X6(l:List Int)(b:l.length<=1000): aD (λn _=>lY n l) λr=>r=true->∀x∈l,1<=x/\x<=1073741824:=
 bA (λ_=>rfl)<|aH (Q:=λr=>r=false->∀x∈l,1<=x/\x<=1073741824) (bF<|aH (Q:=λv=>0<=v\/∀x∈l,1<=x/\x<=1073741824) (bF<|aT (bH<|SC l b 0 .nil) (λv a=>aA<|.inl a) λ_ h=>aA<|.inr h)
  λv a=>aE (λ_=>aA<|by simp) λh=>aA λ_=>by have:=of_decide_eq_false h;rcases a with a | a;omega;exact a)
  λr c=>aE (λ_=>aA<|by simp) λh=>aA λ_=>c h
def Cg(x:Aaa): Prop:=-1048576<=x.X/\x.X<=1048576/\-1048576<=x.Y/\x.Y<=1048576
theorem Wn(x:Aaa): aD (λn _=>nW n x) λr=>r=false->Cg x:=
 aE (λ_=>aA<|by simp) λb=>aE (λ_=>aA<|by simp) λc=>aE (λ_=>aA<|by simp) λa=>aE (λ_=>aA<|by simp) λd=>aA λ_=>by
 have:=of_decide_eq_false b;have:=of_decide_eq_false c;have:=of_decide_eq_false a;have:=of_decide_eq_false d;exact⟨by omega,by omega,by omega,by omega⟩
theorem aAO{P:Bool->Prop}{b:Bool}(h:P b): aD (λ_ _=>cnd b (some true)<|some false) P:=by cases b<;>exact aA h
theorem RO(x:Aaa): aD (λn _=>uE n x) λr=>r=false->Cg x:=
 bA (λ_=>rfl)<|aH (Wn x) λr a=>aAO a
theorem Wq(l:List cW)(f:l.length<=300)(i:Nat)(c:oR l i λx=>Cg x.At): aD (λn m=>vK pK n m (l,ln l) (i:Int)) (Su (λ_=>True) λ_=>∀x∈l,Cg x.At):=
 cG<|bB (λx e d=>aH (Q:=λr=>r=false->Cg x.At) (bF<|aH (Wn x.At) λr b=>aAO b) λr b=>aE (λ_=>aA trivial) λh=>by
  rw[dL<|by omega];exact Wq l f (i+1)<|c.step e<|b h)
  (λa=>aA<|c.fin a)
termination_by l.length-i
theorem Wo(l:List Aaa)(f:l.length<=300)(i:Nat)(b:oR l i Cg): aD (λn m=>vK pI n m (l,ln l) (i:Int)) (Su (λv=>0<=v) λ_=>∀x∈l,Cg x):=
 cG<|bB (λx e c=>aH (RO x) λr d=>aE (λ_=>aA<|by show (0:Int)<=(i:Int);omega) λh=>by
  rw[dL<|by omega];exact Wo l f (i+1)<|b.step e<|d h)
  (λa=>aA<|b.fin a)
termination_by l.length-i
theorem Wp(l:List eP)(j:l.length<=300)(b:∀a∈l,a.Via.length<=300)(i:Nat)(e:oR l i λa=>∀y∈a.Via,Cg y): aD (λn m=>vK pJ n m (l,ln l) (i:Int)) (Su (λ_=>True) λ_=>∀a∈l,∀y∈a.Via,Cg y):=
 cG<|bB (λx d f=>aH (Q:=λr=>r=false->∀y∈x.Via,Cg y) (bF<|aH (Q:=λv=>0<=v\/∀y∈x.Via,Cg y) (bF<|aT (bH<|Wo x.Via (b x<|List.mem_of_getElem? d) 0 .nil) (λv b=>aA<|.inl b) λ_ h=>aA<|.inr h)
  λv b=>aE (λ_=>aA<|by simp) λh=>aA λ_=>by have:=of_decide_eq_false h;rcases b with b | b;omega;exact b) λr g=>aE (λ_=>aA trivial) λh=>by
  rw[dL<|by omega];exact Wp l j b (i+1)<|e.step d<|g h)
  (λc=>aA<|e.fin c)
termination_by l.length-i
theorem U9(p:aX)(b:Sm p): aD (λn _=>Es n p) λr=>r=true->(∀x∈p.Nodes,Cg x.At)/\∀a∈p.Arcs,∀y∈a.Via,Cg y:=
 bA (λ_=>rfl)<|aT (bH<|Wq _ b.n 0 .nil) (λ_ _=>aA<|by simp) λ_ d=>aT (bH<|Wp _ b.a b.v 0 .nil) (λ_ _=>aA<|by simp) λ_ c=>aA λ_=>⟨d,c⟩
theorem GK(l:List Int)(x:Int)(g:l.length<=100000)(i:Nat)(d:oR l i (·≠x)): aD (λn m=>vK jC n m (l,x,ln l) (i:Int))<|Su (λv=>0<=v/\v.toNat<l.length/\x∈l) λ_=>x∉l:=
 cG<|bB (λy f b=>aE (λh=>aA<|by
  refine⟨by omega,by simpa using b,?_⟩;rw[eq_of_beq h];exact List.mem_of_getElem? f) λh=>by
  rw[dL<|by omega];exact GK l x g (i+1)<|d.step f λe=>by subst e;simp at h)
  (λc=>aA λh=>d.fin c x h rfl)
termination_by l.length-i
theorem A6(l:List Int)(x:Int)(b:l.length<=100000): aD (λn _=>kN n l x) λr=>(0<=r/\r.toNat<l.length/\x∈l)\/(r=-1/\x∉l):=
 bA (λ_=>rfl)<|aT (bH<|GK l x b 0 .nil) (λv a=>aA<|.inl a) λ_ h=>aA<|.inr ⟨rfl,h⟩
theorem Ci(l:List Int)(x:Int)(b:l.length<=100000): aD (λn _=>eF n l x) λr=>r=decide (x∈l):=
 bA (λ_=>rfl)<|aH (A6 l x b) λr a=>aE (λh=>aA (by
  rcases a with a | a
  .simp[a.2.2]
  .have:=of_decide_eq_true h;omega)) λh=>aA (by
  rcases a with a | a
  .have:=of_decide_eq_false h;omega
  .simp[a.2])
theorem aAC{α:Type}{l:List α}{a b:Nat}(d:a<=b)(c:b<=l.length): PM l (a:Int) (b:Int)=some ((l.take b).drop a):=by
 unfold PM;rw[if_pos<|by omega];simp
theorem KT(x:cW)(l:List cW)(b:l.length<=300)(i:Nat): aD (λn m=>vK kY n m (x,l,ln l) (i:Int))<|Su (λ_=>True) λ_=>True:=
 cG<|bB (λy c a=>aE (λ_=>aA trivial) λ_=>by
  rw[dL<|by omega];exact KT x l b<|i+1) λ_=>aA trivial
termination_by l.length-i
theorem KU(p:aX)(b:Sm p)(i:Nat): aD (λn m=>vK kZ n m (p,p.Nodes,ln p.Nodes) (i:Int))<|Su (λ_=>True) λ_=>True:=
 cG<|bB (λy d c=>aJ (aAC (a:=0) (Nat.zero_le i)<|by omega)<|aT (bH<|KT y _ (by simp;have:=b.n;omega) 0) (λ_ _=>aA trivial) λ_ _=>by
  have:=b.n;rw[dL<|by omega];exact KU p b<|i+1) λ_=>aA trivial
termination_by p.Nodes.length-i
theorem K3(x:eP)(a:List Int)(d:a.length<=100000): aD (λn _=>vT n (x,a)) λr=>r=false->x.From∈a/\x.To∈a:=
 aH (Ci a x.From d) λr b=>aE (λe=>aH (Ci a x.To d) λs c=>aE (λf=>aA λ_=>by rw[e] at b;rw[f] at c;exact⟨of_decide_eq_true b.symm,of_decide_eq_true c.symm⟩) λ_=>aA<|by simp) λ_=>aA<|by simp
theorem KS(a:List Int)(c:a.length<=100000)(l:List eP)(g:l.length<=300)(i:Nat)(d:oR l i λx=>x.From∈a/\x.To∈a): aD (λn m=>vK kX n m (a,l,ln l) (i:Int)) (Su (λ_=>True) λ_=>∀x∈l,x.From∈a/\x.To∈a):=
 cG<|bB (λy f e=>aH (K3 y a c) λr j=>aE (λ_=>aA trivial) λh=>by
  rw[dL<|by omega];exact KS a c l g (i+1)<|d.step f<|j h) λb=>aA<|d.fin b
termination_by l.length-i
theorem KQ(p:aX)(b:Sm p)(x:Int): aD (λn _=>nX n (p,x)) λr=>r=false->x=0\/x∈p.Faces:=
 aE (λh=>aH (Ci p.Faces x<|by have:=b.f;omega) λr a=>aE (λh=>aA λ_=>by rw[h] at a;exact .inr<|of_decide_eq_true a.symm) λ_=>aA<|by simp) λh=>aA λ_=>.inl<|by simpa using h
theorem FZ{α:Type}{P:α->Prop}{k:Nat}{g:Nat->Nat->Unit->Option α}(h:aD (λn m=>g n m ()) P): aD (λn m=>Av.bnd (jK<|Nat.ble k n)<|g n m) P:=by
 let⟨r,a,K,b⟩:=h;refine⟨r,a,K+k,λn m c d=>?_⟩;have:jK (Nat.ble k n)=some ():=by rw[Nat.ble_eq_true_of_le (by omega:k<=n)];rfl
 show Av.bnd (jK<|Nat.ble k n) (g n m)=some r;rw[this];exact b n m (by omega)<|by omega
theorem KR(p:aX)(c:Sm p)(l:List eP)(f:l.length<=300)(i:Nat)(d:oR l i λx=>(x.Left=0\/x.Left∈p.Faces)/\(x.Right=0\/x.Right∈p.Faces)): aD (λn m=>vK kW n m (p,l,ln l) (i:Int)) (Su (λ_=>True) λ_=>∀x∈l,(x.Left=0\/x.Left∈p.Faces)/\(x.Right=0\/x.Right∈p.Faces)):=
 cG<|bB (λy k e=>FZ<|aH (KQ p c y.Left) λr j=>aE (λ_=>aA trivial) λh=>aH (KQ p c y.Right) λs b=>aE (λ_=>aA trivial) λg=>by
  rw[dL<|by omega];exact KR p c l f (i+1)<|d.step k ⟨j h,b g⟩) λa=>aA<|d.fin a
termination_by l.length-i
theorem aGm(p:aX)(c:Sm p)(b:List Int)(d:b.length<=100000): aD (λn _=>uH n p b) λr=>r=0->(∀x∈p.Arcs,x.From∈b/\x.To∈b)/\∀x∈p.Arcs,(x.Left=0\/x.Left∈p.Faces)/\(x.Right=0\/x.Right∈p.Faces):=
 bA (λ_=>rfl)<|aT (bH<|KU p c 0) (λ_ _=>aA<|by simp) λ_ _=>aT (bH<|KS b d _ c.a 0 .nil) (λ_ _=>aA<|by simp) λ_ e=>aT (bH<|KR p c _ c.a 0 .nil) (λ_ _=>aA<|by simp) λ_ f=>aA λ_=>⟨e,f⟩
class TC{α:Type}(f:Nat->Option α): Prop where
 h:aD (λn _=>f n) λ_=>True
theorem bQ{α β:Type}{P:α->Prop}{f:Nat->Option β}[t:TC f]{g:Nat->Nat->β->Option α}(k:∀r,aD (λn m=>g n m r) P): aD (λn m=>Av.bnd (f n)<|g n m) P:=aH t.h λr _=>k r
theorem fD{α:Type}{x:α}: aD (λ_ _=>some x) λ_=>True:=aA trivial
def SD(x:Aaa): Prop:=-2097152<=x.X/\x.X<=2097152/\-2097152<=x.Y/\x.Y<=2097152
theorem H5(x:Aaa): aD (λn _=>Pc n x) λr=>r=true->¬SD x:=by
 refine aE (λh=>aA λ_ a=>?_) λe=>aE (λh=>aA λ_ a=>?_) λc=>aE (λh=>aA λ_ a=>?_) λd=>aE (λh=>aA λ_ a=>?_) λb=>aA (by simp);all_goals (have:=of_decide_eq_true h;unfold SD at a;omega)
theorem JO(l:List Aaa)(e:l.length<=1000)(i:Nat): aD (λn m=>vK uS n m (l,ln l) (i:Int))<|Su (λ_=>¬∀x∈l,SD x) λ_=>True:=
 cG<|bB (λy d a=>aH (H5 y) λr c=>aE (λh=>aA λb=>c h<|b y<|List.mem_of_getElem? d) λh=>by
  rw[dL<|by omega];exact JO l e<|i+1)
  (λf=>aA trivial)
termination_by l.length-i
theorem XS(l:List Aaa)(b:l.length<=1000): aD (λn _=>mW n l) λr=>(∀x∈l,SD x)->r=true:=
 bA (λ_=>rfl)<|aT (bH<|JO l b 0) (λ_ h=>aA λa=>absurd a h) λ_ _=>aA λ_=>rfl
instance aJP{a b c:Aaa}: TC (λn=>mW n [a,b,c]):=⟨(XS _ (by simp)).imp λ_ _=>trivial⟩
instance aJO{a b c d:Aaa}: TC (λn=>mW n [a,b,c,d]):=⟨(XS _ (by simp)).imp λ_ _=>trivial⟩
def twV(a b c:Aaa): Int:=wr<|(wr<|(wr<|b.X-a.X)*(wr<|c.Y-a.Y))-(wr<|(wr<|b.Y-a.Y)*(wr<|c.X-a.X))
theorem ZU(a b c:Aaa): aD (λn _=>gP n a b c) λr=>r=twV a b c:=bA (λ_=>rfl)<|aA rfl
instance aIR{a b c:Aaa}: TC (λn=>gP n a b c):=⟨(ZU a b c).imp λ_ _=>trivial⟩
section
variable {a b c d:Aaa}
instance aM5: TC (λn=>EB n (a,b,c)):=⟨by repeat' first | exact aA trivial | refine aE (λ_=>?_) (λ_=>?_) | refine bQ λ_=>?_⟩
instance aM4: TC (λn=>EA n (a,b,c)):=⟨by repeat' first | exact aA trivial | refine aE (λ_=>?_) (λ_=>?_) | refine bQ λ_=>?_⟩
instance aM3: TC (λn=>qC n a b c):=⟨bA (λ_=>rfl) (by repeat' first | exact aA trivial | refine aE (λ_=>?_) (λ_=>?_) | refine bQ λ_=>?_)⟩
instance aJg: TC (λn=>Mg n a b c):=⟨bA (λ_=>rfl) (by repeat' first | exact aA trivial | refine aE (λ_=>?_) (λ_=>?_) | refine bQ λ_=>?_)⟩
instance aKw: TC (λn=>jA n a b c):=⟨bA (λ_=>rfl) (by repeat' first | exact aA trivial | refine aE (λ_=>?_) (λ_=>?_) | refine bQ λ_=>?_)⟩
instance aLc: TC (λn=>Ft n (a,b)):=⟨by repeat' first | exact aA trivial | refine aE (λ_=>?_) (λ_=>?_) | refine bQ λ_=>?_⟩
instance aIw: TC (λn=>mX n a b):=⟨bA (λ_=>rfl) (by repeat' first | exact aA trivial | refine aE (λ_=>?_) (λ_=>?_) | refine bQ λ_=>?_)⟩
instance aLE: TC (λn=>uR n (a,b)):=⟨by repeat' first | exact aA trivial | refine aE (λ_=>?_) (λ_=>?_) | refine bQ λ_=>?_⟩
instance aLD: TC (λn=>Fp n (a,b)):=⟨by repeat' first | exact aA trivial | refine aE (λ_=>?_) (λ_=>?_) | refine bQ λ_=>?_⟩
instance aLC: TC (λn=>Fo n (a,b)):=⟨by repeat' first | exact aA trivial | refine aE (λ_=>?_) (λ_=>?_) | refine bQ λ_=>?_⟩
instance aHj: TC (λn=>Fq n a b c d):=⟨bA (λ_=>rfl) (by repeat' first | exact aA trivial | refine aE (λ_=>?_) (λ_=>?_) | refine bQ λ_=>?_)⟩
instance aLY: TC (λn=>Pg n (a,b,c,d)):=⟨by repeat' first | exact aA trivial | refine aE (λ_=>?_) (λ_=>?_) | refine bQ λ_=>?_⟩
instance aLX: TC (λn=>Pf n (a,b,c,d)):=⟨by repeat' first | exact aA trivial | refine aE (λ_=>?_) (λ_=>?_) | refine bQ λ_=>?_⟩
instance aK1: TC (λn=>Hz n a b c d):=⟨bA (λ_=>rfl) (by repeat' first | exact aA trivial | refine aE (λ_=>?_) (λ_=>?_) | refine bQ λ_=>?_)⟩
instance aJb{s:aS}: TC (λn=>iM n s):=⟨bA (λ_=>rfl) (by repeat' first | exact aA trivial | refine aE (λ_=>?_) (λ_=>?_))⟩
instance aJT{s:aS}: TC (λn=>gE n s):=⟨bA (λ_=>rfl) (by repeat' first | exact aA trivial | refine aE (λ_=>?_) (λ_=>?_))⟩
instance aMt{s t:aS}: TC (λn=>mM n (s,t)):=⟨by repeat' first | exact aA trivial | refine aE (λ_=>?_) (λ_=>?_) | refine bQ λ_=>?_⟩
instance aMs{s t:aS}: TC (λn=>mL n (s,t)):=⟨by repeat' first | exact aA trivial | refine aE (λ_=>?_) (λ_=>?_) | refine bQ λ_=>?_⟩
instance aMr{t:aS}{x y z:Int}: TC (λn=>fN n (t,a,b,c,d,x,y,z)):=⟨by repeat' first | exact aA trivial | refine aE (λ_=>?_) (λ_=>?_) | refine bQ λ_=>?_⟩
end
theorem OA{α:Type}{Q:Nat->α->Prop}: ∀(l:List α),(∀x∈l,∃K,∀n,K<=n->Q n x)->∃K,∀n,K<=n->∀x∈l,Q n x
 | [],_=>⟨0,λ_ _ _ h=>by cases h⟩
 | a::l,h=>by
  let⟨K,d⟩:=h a<|List.mem_cons_self ..;let⟨J,c⟩:=OA l λx b=>h x<|List.mem_cons_of_mem _ b;refine⟨max K J,λn f x b=>?_⟩;rcases List.mem_cons.1 b with rfl | b
  .exact d n<|by omega
  .exact c n (by omega) x b
theorem FY{α β:Type}{f:α->Option β}{g:α->β}: ∀(l:List α),(∀x∈l,f x=some (g x))->Kq (l.map f)=some (l.map g)
 | [],_=>rfl
 | a::l,h=>by
  simp only[List.map_cons,Kq,h a<|List.mem_cons_self ..,FY l λx b=>h x<|List.mem_cons_of_mem _ b]
structure Swo{α:Type}(g:α->α->Int)(l:List α): Prop where
 ir:∀x∈l,¬g x x<0
 tr:∀x∈l,∀y∈l,∀z∈l,g x y<0->g y z<0->g x z<0
 ti:∀x∈l,∀y∈l,∀z∈l,¬g x y<0->¬g y z<0->¬g x z<0
theorem aDC{α:Type}{g:α->α->Int}{l:List α}{i j:Nat}{x y:α}(b:l[i]?=some x)(a:l[j]?=some y): N2 (l.map λx=>l.map<|g x) i j=g x y:=by
 simp[N2,List.getElem?_map,b,a]
theorem Swo.tab{α:Type}{g:α->α->Int}{l:List α}(h:Swo g l): HA l.length (l.map λx=>l.map<|g x)=true:=by
 unfold HA;simp only[List.all_eq_true,List.mem_range,Bool.and_eq_true,Bool.not_eq_true'];have e:∀i j (b:i<l.length) (c:j<l.length),ltT (l.map λx=>l.map<|g x) i j=decide (g l[i] l[j]<0):=λi j b c=>by
  unfold ltT;rw[aDC (List.getElem?_eq_getElem b)<|List.getElem?_eq_getElem c]
 intro i b;refine⟨by rw[e i i b b];exact decide_eq_false<|h.ir _<|List.getElem_mem b,λj c k m=>?_⟩;rw[e i j b c,e j k c m,e i k b m];have n:=List.getElem_mem b;have o:=List.getElem_mem c;have mk:=List.getElem_mem m;have q:=h.tr _ n _ o _ mk;have p:=h.ti _ n _ o _ mk;by_cases f:g l[i] l[j]<0
 .rw[decide_eq_true f];show (!decide (g l[j] l[k]<0)||decide (g l[i] l[k]<0))=true;by_cases d:g l[j] l[k]<0
  .rw[decide_eq_true<|q f d];simp
  .rw[decide_eq_false d];rfl
 .rw[decide_eq_false f];show (decide (g l[j] l[k]<0)||!decide (g l[i] l[k]<0))=true;by_cases d:g l[j] l[k]<0
  .rw[decide_eq_true d];rfl
  .rw[decide_eq_false<|p f d];simp
theorem a9{α:Type}{F:Nat->α->α->Option Int}{g:α->α->Int}{l:List α}(q:∀x∈l,∀y∈l,aD (λn _=>F n x y) λr=>r=g x y)(o:Swo g l): aD (λn _=>qX (λx y=>F n x y) l) λr=>r.length=l.length/\∀x∈r,x∈l:=by
 let⟨K,e⟩:=OA (Q:=λn x=>∀y∈l,F n x y=some (g x y)) l λx b=>OA (Q:=λn y=>F n x y=some (g x y)) l λy h=>by
  obtain⟨r,rfl,K,e⟩:=q x b y h;exact⟨K,λn c=>e n n c c⟩
 cases l with
 | nil=>exact⟨[],⟨rfl,λx b=>b⟩,0,λ_ _ _ _=>rfl⟩
 | cons a l=>
  have k:∀n,K<=n->Nr (λx y=>F n x y) (a::l)=some ((a::l).map λx=>(a::l).map<|g x):=λn c=>
   FY (f:=λx=>Kq<|(a::l).map λy=>F n x y) (g:=λx=>(a::l).map<|g x) (a::l) λx b=>FY (a::l) λy h=>e n c x b y h
  have j:=o.tab;refine⟨(Z8 l.length<|(a::l).map λx=>(a::l).map<|g x).map<|yU a (a::l),⟨?_,?_⟩,K,λn m c s=>?_⟩
  .rw[List.length_map,NG<|by simpa using j];rfl
  .intro x b;obtain⟨i,p,rfl⟩:=List.mem_map.1 b;have:=YC p;unfold yU;rw[List.getElem?_eq_getElem<|by simpa using this];exact List.getElem_mem _
  .have d:HA (l.length+1) ((a::l).map λx=>(a::l).map<|g x)=true:=by simpa using j
   simp only[qX,k n c,d]
def UQ(a b:Int): Int:=if a<b then -1 else if a > b then 1 else 0
theorem M8(a b:Int): aD (λn _=>qV n a b) λr=>r=UQ a b:=by
 have d:∀a:Int,aD (λn _=>lZ n a) λr=>r=false:=λa=>bA (λ_=>rfl)<|aE (λh=>by simp at h) λ_=>aA rfl;refine bA (λ_=>rfl)<|aH (d a) λr c=>aE (λh=>by rw[c] at h;cases h) λ_=>aH (d b) λr c=>aE (λh=>by rw[c] at h;cases h) λ_=>aE (λh=>aA ?_) λe=>aE (λh=>aA ?_) λf=>aA ?_
 .unfold UQ;rw[if_pos<|of_decide_eq_true h]
 .unfold UQ;rw[if_neg<|of_decide_eq_false e,if_pos<|of_decide_eq_true h]
 .unfold UQ;rw[if_neg<|of_decide_eq_false e,if_neg<|of_decide_eq_false f]
theorem FF{a b:Int}: UQ a b<0↔a<b:=by unfold UQ;split<;>(try split)<;>omega
theorem aEM{α:Type}(k:α->Int)(l:List α): Swo (λx y=>UQ (k x)<|k y) l where
 ir x _:=by rw[FF];omega
 tr x _ y _ z _:=by simp only[FF];omega
 ti x _ y _ z _:=by simp only[FF];omega
end Go.Proofs.YtideamafblopcaaGreatDoor.Av
