/- A part of the proof of a law on transactions. -/
import Derived.Shelf.Spec.SlicesInsertGrow
import Derived.Shelf.SlGeneric
import Derived.Test.YtglfoebmkbglgaaGreatDoorP2
import Derived.Test.YtglfoebmkbglgaaGreatDoorP3
import Derived.Test.YtglfoebmkbglgaaGreatDoorP6
import Derived.Test.YtglfoebmkbglgaaGreatDoorP5
import Derived.Maps.RangeRun
import Derived.Shelf.Strings.Search3
import Derived.Shelf.Vars
import Derived.Shelf.Sort.Plain
import Derived.Shelf.Slices.In.SortNone
import Derived.Test.YtglfoebmkbglgaaGreatDoorRows
import Derived.Test.YtglfoebmkbglgaaGreatDoorTie
import Derived.Test.YtglfoebmkbglgaaGreatDoorCards
import Derived.ChangeSame
import Derived.ChangeVars
import Derived.JoinedOf
import Derived.LaidLaws
import Derived.Lay
import Derived.MakeChecks
import Derived.Stop.Joined
import Derived.SevenTiedAt
set_option maxRecDepth 100000
set_option maxHeartbeats 4000000
set_option linter.all false
namespace Go.Proofs.YtglfoebmkbglgaaGreatDoor.Av
open Go
section
open Go.Proofs Go.Shelf Go.RowKit Go.Lib
variable {P:Program}{s zb:Nat}{zs:Array Value}{ρ:Ren}
structure aEV(P:Program)(ρ:Ren)(s:Nat)(zs:Array Value)(zb:Nat): Prop where
 mixed:P.follows .mixedOrders=true
 f22:Bears P (ρ.f 22) (Body2.n22 ρ)
 ov:∀args w,(callFunc (ρ.f 29) args).run P w=((Extern.SlicesOverlaps.overlaps #[ρ.t 24,ρ.t 24] #[ρ.t 4] args).run P w).andThen λv w'=>.ok (.value v) w'
 t3:P.underlying (ρ.t 3)=some (TypeDesc.int IntKind.i64)
 a3:∀w,(Go.isAgg (ρ.t 3)).run P w=.ok false w
 z3:∀w,(Go.sizeOf (ρ.t 3)).run P w=.ok 1 w
 v3:∀w,(zeroValue (ρ.t 3)).run P w=.ok (Value.int IntKind.i64 0) w
 t4:P.underlying (ρ.t 4)=some (TypeDesc.bool)
 a4:∀w,(Go.isAgg (ρ.t 4)).run P w=.ok false w
 z4:∀w,(Go.sizeOf (ρ.t 4)).run P w=.ok 1 w
 v4:∀w,(zeroValue (ρ.t 4)).run P w=.ok (Value.bool false) w
 z9:∀w,(Go.sizeOf (ρ.t 9)).run P w=.ok s w
 t24:P.underlying (ρ.t 24)=some (TypeDesc.slice (ρ.t 9))
 a24:∀w,(Go.isAgg (ρ.t 24)).run P w=.ok false w
 z24:∀w,(Go.sizeOf (ρ.t 24)).run P w=.ok 1 w
 v24:∀w,(zeroValue (ρ.t 24)).run P w=.ok (Value.slice none 0 0) w
 i9:(P.info? (ρ.t 9)).map (λi=>(i.zero,i.size,i.bytes))=some (some (Value.agg zs),s,zb)
 zl:zs.size=s
 s0:0<s
theorem Sb(w:World)(dT sT ty elem:TypeId)(g o dLen dCap:Nat)(a:Addr)(sLen sCap n:Nat)(cur:Array Value)(t:TypeId)(cs:List Value)(hu:P.underlying dT=some (.slice elem))(hs:(P.info? elem).map (·.size)=some s)(hn:Nat.min sLen dLen=n)(hcs:cs.length=n*s)(hsrc:∀j v,cs[j]?=some v->w.cell? (a.add j)=some v)(hg:w.heap[g]?=some (.cells cur t (0,0)))(hfit:o+n*s<=cur.size)(h1:∀v∈cs,v.oneCell'=true):
 (Builtin.copy_ #[dT,sT] ty #[.slice (some ⟨g,o,none⟩) dLen dCap,.slice (some a) sLen sCap]).run P w=.ok (goInt n) (w.setRow g (aU cur.toList o cs).toArray):=by
 have hl:=X7 (P:=P) w s n a sLen sCap cs hcs hsrc
 have hst:=YY P g o t cs 0 cur w hg (by rw[hcs];omega) h1
 rw[gO] at hst
 cases hq:P.info? elem with
 | none=>simp[hq] at hs
 | some i=>
  have hi:i.size=s:=by simpa [hq] using hs
  simp[Builtin.copy_,Zo hu,Builtin.lenOf,sizeOf,typeInfo,hq,hi,hn,hl,hst]
theorem J2{w:World}{b j:Nat}{cc:Array Value}{t:TypeId}{fz:Nat×Nat}{v:Value}(h:w.heap[b]?=some (.cells cc t fz))(hj:cc[j]?=some v): w.cell? ⟨b,j,none⟩=some v:=by
 simp[World.cell?,h,hj]
theorem aIZ(L:aEV P ρ s zs zb)(b n c i vb vc:Nat)(cc vv:Array Value)(Ty Tv:TypeId)(w:World)(hi:i<n)(hroom:n+1<=c)(h40:n+1<=1099511627776)(hvb:vb≠b)(hb:w.heap[b]?=some (.cells cc Ty (0,0)))(hfit:(n+1)*s<=cc.size)(hv:w.heap[vb]?=some (.cells vv Tv (0,0)))(hvl:s<=vv.size)(h1c:∀v∈cc.toList.take (n*s),v.oneCell'=true)(h1v:∀v∈vv.toList.take s,v.oneCell'=true):
 Calls P (ρ.f 22) #[.slice (some ⟨b,0,none⟩) n c,.int .i64 i,.slice (some ⟨vb,0,none⟩) 1 vc] w λe w'=>
  e=.returned (.slice (some ⟨b,0,none⟩) (n+1) c) /\
  w'=(w.drew.setRow b (aU cc.toList ((i+1)*s) ((cc.toList.take (n*s)).drop (i*s))).toArray).setRow b (aU (aU cc.toList ((i+1)*s) ((cc.toList.take (n*s)).drop (i*s))) (i*s) (vv.toList.take s)).toArray:=by
 have x1:(n+1)*s=n*s+s:=by rw[ZA,Yv]
 have x2:(i+1)*s=i*s+s:=by rw[ZA,Yv]
 have x3:(n-i)*s=n*s-i*s:=YU _ _ _
 have x4:i*s+s<=n*s:=by rw[<-x2];exact Zr _ hi
 have x5:1*s=s:=Yv _
 have s0:=L.s0
 rw[x2]
 have t3:=L.t3;have a3:=L.a3;have z3:=L.z3;have v3:=L.v3;have t4:=L.t4;have a4:=L.a4;have z4:=L.z4;have v4:=L.v4;have z9:=L.z9;have t24:=L.t24;have a24:=L.a24;have z24:=L.z24;have v24:=L.v24
 have u3:=Zo L.t3;have u4:=Zo L.t4;have u24:=Zo L.t24
 have mixed:=L.mixed
 obtain⟨nm22,_,F22⟩:=L.f22
 have hz2:¬((i:Int)=(n:Int)):=by omega
 have hsz:(P.info? (ρ.t 9)).map (·.size)=some s:=by
  obtain⟨i0,hi0,h0,h1,h2⟩:=info_parts L.i9
  rw[hi0];simp[h1]
 have hov:∀lb cb,(callFunc (ρ.f 29) #[.slice (some ⟨vb,0,none⟩) 1 vc,.slice (some ⟨b,i*s+s,none⟩) lb cb]).run P w=.ok (.value (.bool false)) w:=λlb cb=>by
  rw[L.ov,
   Lib.run_overlaps_apart w (ρ.t 24) (ρ.t 4) (ρ.t 9) L.t24 s L.z9 ⟨vb,0,none⟩ ⟨b,i*s+s,none⟩ 1 vc lb cb hvb Tv Ty vv.size cc.size (by simp[World.shape?,hv]) (by simp[World.shape?,hb]) (by omega) (by simp[World.frozen?,hv]) (by simp[World.frozen?,hv])]
  rfl
 have hw1:IntKind.i64.wrap ((i:Int)+1)=((i+1:Nat):Int):=by rw[Xh];omega
 have hw2:IntKind.i64.wrap ((n:Int)+1)=((n+1:Nat):Int):=by rw[Xh];omega
 have hg1:¬(((n+1:Nat):Int) > (c:Int)):=by omega
 have hin:i<=n:=by omega
 have hb1:(0:Int)<=(i:Int)+1:=by omega
 have hb2:¬(c=i+1):=by omega
 have hb3:(i:Int)<=(n:Int)+1:=by omega
 have hb4:¬(c=i):=by omega
 have hD:((cc.toList.take (n*s)).drop (i*s)).length=(n-i)*s:=by
  rw[ZX,ZK,Zx,Yp (by omega),YU]
 have hV:(vv.toList.take s).length=1*s:=by
  rw[ZK,Zx,Yp hvl,x5]
 have hcp1:∀ty dc sc,(Builtin.copy_ #[(ρ.t 24),(ρ.t 24)] ty #[.slice (some ⟨b,i*s+s,none⟩) (n-i) dc,.slice (some ⟨b,i*s,none⟩) (n+1-i) sc]).run P w.drew=.ok (goInt ((n-i:Nat):Int)) (w.drew.setRow b (aU cc.toList (i*s+s) ((cc.toList.take (n*s)).drop (i*s))).toArray):=λty dc sc=>
  Sb w.drew _ _ ty (ρ.t 9) b (i*s+s) (n-i) dc ⟨b,i*s,none⟩ (n+1-i) sc (n-i) cc Ty _ L.t24 hsz (by simp only[Wp];split<;>omega) hD
   (λj v hj=>by
    rw[XY]
    refine J2 (w:=w.drew) hb ?_
    rw[Zw,Zs] at hj
    split at hj
    .simpa using hj
    .cases hj) hb (by omega) (λv hv'=>h1c v (Z1 hv'))
 generalize hX:aU cc.toList (i*s+s) ((cc.toList.take (n*s)).drop (i*s))=X at hcp1 |-
 have hXl:X.length=cc.size:=by rw[<-hX,cM (by rw[hD,Zx];omega)];simp
 obtain⟨W1,hW1⟩:∃W1,W1=w.drew.setRow b X.toArray:=⟨_,rfl⟩
 have hW1b:W1.heap[b]?=some (.cells X.toArray Ty (0,0)):=by rw[hW1];exact Yu w.drew b cc _ Ty _ hb
 have hW1v:W1.heap[vb]?=some (.cells vv Tv (0,0)):=by rw[hW1,Yx w.drew b vb _ hvb];exact hv
 rw[<-hW1] at hcp1 |-
 have hcp2:∀ty dc,(Builtin.copy_ #[(ρ.t 24),(ρ.t 24)] ty #[.slice (some ⟨b,i*s,none⟩) (n+1-i) dc,.slice (some ⟨vb,0,none⟩) 1 vc]).run P W1=.ok (goInt 1) (W1.setRow b (aU X (i*s) (vv.toList.take s)).toArray):=λty dc=>
  Sb W1 _ _ ty (ρ.t 9) b (i*s) (n+1-i) dc ⟨vb,0,none⟩ 1 vc 1 X.toArray Ty _ L.t24 hsz (by simp only[Wp];split<;>omega) hV
   (λj v hj=>by
    rw[XY,ZZ]
    refine J2 hW1v ?_
    rw[Zs] at hj
    split at hj
    .simpa using hj
    .cases hj) hW1b (by simp[hXl];omega) h1v
 clear hW1
 go_enter F22,Body2.n22_ntmps ρ
 go_wp2_with (simp only[hov])
 go_region_law_o (refine step_copy_runI rfl _ _ (ρ.t 24) (ρ.t 24) rfl (.slice (some ⟨b,i*s+s,none⟩) (n-i) (c-(i+1))) (.slice (some ⟨b,i*s,none⟩) (n+1-i) (c-i)) (by simp[Act.eval,Act.put]) (by simp[Act.eval,Act.put]) (hcp1 _ _ _) ?_)
 go_wp2_with (at_builtin;refine wpList_copy_runI _ rfl _ _ (ρ.t 24) (ρ.t 24) rfl _ _ rfl rfl (hcp2 _ _) ?_)
 go_ret
 exact⟨rfl,rfl⟩
theorem aOu(L:aEV P ρ s zs zb)(base:Option Addr)(n c vb vc:Nat)(w w':World)(rv:Value)(hnc:n<=c)(hnil:base=none->n=0)(hrun:∀ty,(Builtin.append_ #[(ρ.t 24),(ρ.t 24)] ty #[.slice base n c,.slice (some ⟨vb,0,none⟩) 1 vc]).run P w=.ok rv w'):
 Calls P (ρ.f 22) #[.slice base n c,.int .i64 n,.slice (some ⟨vb,0,none⟩) 1 vc] w λe w''=>e=.returned rv/\w''=w':=by
 have t3:=L.t3;have a3:=L.a3;have z3:=L.z3;have v3:=L.v3;have t4:=L.t4;have a4:=L.a4;have z4:=L.z4;have v4:=L.v4;have z9:=L.z9;have t24:=L.t24;have a24:=L.a24;have z24:=L.z24;have v24:=L.v24
 have u3:=Zo L.t3;have u4:=Zo L.t4;have u24:=Zo L.t24
 have mixed:=L.mixed
 obtain⟨nm22,_,F22⟩:=L.f22
 go_enter F22,Body2.n22_ntmps ρ
 cases base with
 | none=>
  have h0:=hnil rfl
  subst h0
  go_wp2_with (at_builtin;refine Lib.wpList_append_run _ rfl _ _ _ _ rfl _ _ rfl rfl _ _ (hrun _) ?_)
  go_ret
  exact⟨rfl,rfl⟩
 | some a=>
  obtain⟨ab,ao,asp⟩:=a
  go_wp2_with (at_builtin;refine Lib.wpList_append_run _ rfl _ _ _ _ rfl _ _ rfl rfl _ _ (hrun _) ?_)
  all_goals (go_ret;exact⟨rfl,rfl⟩)
theorem aLC{l v d o:List Value}{i n:Nat}(hl:(n+1)*s<=l.length)(hv:v.length=1*s)(hd:d.length=(n-i)*s)(ho:l.take (i*s)=o)(hi:i<n):
 (aU (aU l (i*s) v) ((i+1)*s) d).take ((n+1)*s)=o++(v++d):=by
 have x1:(n+1)*s=n*s+s:=by rw[ZA,Yv]
 have x2:(i+1)*s=i*s+s:=by rw[ZA,Yv]
 have x3:(n-i)*s=n*s-i*s:=YU _ _ _
 have x4:i*s+s<=n*s:=by rw[<-x2];exact Zr _ hi
 have x5:1*s=s:=Yv _
 subst ho
 unfold aU
 have h1:(List.take (i*s) l).length=i*s:=by rw[ZK];omega
 have e1:(List.take (i*s) l++(v++List.drop (i*s+v.length) l)).take ((i+1)*s)=List.take (i*s) l++v:=by
  rw[<-Yf,Yj (by rw[Zi,h1,hv];omega)]
  exact ZC (by rw[Zi,h1,hv];omega)
 rw[e1,Yf,<-Yf v d,<-Yf]
 rw[Yj (by simp only[Zi,h1,hv,hd];omega)]
 exact ZC (by simp only[Zi,h1,hv,hd];omega)
theorem aLD(L:aEV P ρ s zs zb)(b n c i vb vc:Nat)(cc vv:Array Value)(Ty Tv:TypeId)(w:World)(hi:i<n)(hnc:n<=c)(hroom:c<n+1)(hbig:(n+1)*zb<=140737488355328)(h40:n+1<=1099511627776)(hb:w.heap[b]?=some (.cells cc Ty (0,0)))(hfit:n*s<=cc.size)(hv:w.heap[vb]?=some (.cells vv Tv (0,0)))(hvl:s<=vv.size)(h1c:∀v∈cc.toList.take (n*s),v.oneCell'=true)(h1v:∀v∈vv.toList.take s,v.oneCell'=true):
 Calls P (ρ.f 22) #[.slice (some ⟨b,0,none⟩) n c,.int .i64 i,.slice (some ⟨vb,0,none⟩) 1 vc] w λe w'=>∃(G:Nat) (R:Array Value) (q:Nat),n+1<=G/\R.size=G*s /\
  R.toList.take ((n+1)*s)=cc.toList.take (i*s)++(vv.toList.take s++(cc.toList.take (n*s)).drop (i*s)) /\
  e=.returned (.slice (some ⟨w.heap.size,0,none⟩) (n+1) G)/\w'.heap=w.heap.push (.cells R (ρ.t 9) (0,0))/\w'.os=w.os/\w'.tape=w.tape/\w'.output=w.output/\w.drawn<=w'.drawn:=by
 have x1:(n+1)*s=n*s+s:=by rw[ZA,Yv]
 have x2:(i+1)*s=i*s+s:=by rw[ZA,Yv]
 have x3:(n-i)*s=n*s-i*s:=YU _ _ _
 have x4:i*s+s<=n*s:=by rw[<-x2];exact Zr _ hi
 have x5:1*s=s:=Yv _
 have s0:=L.s0
 have t3:=L.t3;have a3:=L.a3;have z3:=L.z3;have v3:=L.v3;have t4:=L.t4;have a4:=L.a4;have z4:=L.z4;have v4:=L.v4;have z9:=L.z9;have t24:=L.t24;have a24:=L.a24;have z24:=L.z24;have v24:=L.v24
 have u3:=Zo L.t3;have u4:=Zo L.t4;have u24:=Zo L.t24
 have mixed:=L.mixed
 obtain⟨nm22,_,F22⟩:=L.f22
 obtain⟨i0,hi0,hz0,hzs,hzb⟩:=info_parts L.i9
 have hz2:¬((i:Int)=(n:Int)):=by omega
 have hz3:(c:Int)<(n:Int)+1:=by omega
 have hsz:(P.info? (ρ.t 9)).map (·.size)=some s:=by rw[hi0];simp[hzs]
 have hbw:b<w.heap.size:=by
  rcases ZL b w.heap.size with h | h
  .exact h
  .rw[Yd h] at hb;cases hb
 have hvw:vb<w.heap.size:=by
  rcases ZL vb w.heap.size with h | h
  .exact h
  .rw[Yd h] at hv;cases hv
 have hkk:(n:Int)+1-(i:Int)=((n+1-i:Nat):Int):=by omega
 have hik:i+(n+1-i)=n+1:=by omega
 have hold:(Builtin.firstCells i0.size i (.slice (some ⟨b,0,none⟩) i c)).run P w.drew=.ok (cc.toList.take (i*s)).toArray w.drew:=by
  rw[hzs]
  exact X7 w.drew s i ⟨b,0,none⟩ i c (cc.toList.take (i*s)) (by rw[ZK,Zx];omega) (λj v hj=>by
   rw[XY,ZZ]
   refine J2 (w:=w.drew) hb ?_
   rw[Zs] at hj
   split at hj
   .simpa using hj
   .cases hj)
 have hrz:∀ty,(Builtin.append_ #[(ρ.t 24),(ρ.t 3)] ty #[.slice (some ⟨b,0,none⟩) i c,.int .i64 ((n:Int)+1-(i:Int))]).run P w =
  .ok (.slice (some ⟨w.heap.size,0,none⟩) (n+1) (grownCap w (n+1) c (ρ.t 9))) (w.drew.alloc (.cells ((cc.toList.take (i*s)).toArray++Builtin.zeroCells (Value.agg zs).cells (n+1-i)++Builtin.zeroCells (Value.agg zs).cells (grownCap w (n+1) c (ρ.t 9)-(n+1))) (ρ.t 9))):=λty=>by
  have h:=Lib.run_append_grow_zeros w (ρ.t 24) (ρ.t 3) ty (ρ.t 9) i0 _ .i64 .i64 L.t24 L.t3 hi0 hz0 (some ⟨b,0,none⟩) i c (cc.toList.take (i*s)) hold (n+1-i) (by omega) (by omega) (by omega) (by omega) (by rw[hzb];exact ZB (Zr _ (by omega:n+1-i<=n+1)) (by omega)) (by rw[hzb,hik];exact growslice_fits hroom hbig)
  rw[hik] at h
  rw[hkk]
  exact h
 obtain⟨G,hG⟩:∃G,G=grownCap w (n+1) c (ρ.t 9):=⟨_,rfl⟩
 have hGn:n+1<=G:=by rw[hG];exact WM w _ _ _
 obtain⟨ROW,hROW⟩:∃ROW:Array Value,ROW=(cc.toList.take (i*s)).toArray++Builtin.zeroCells (Value.agg zs).cells (n+1-i)++Builtin.zeroCells (Value.agg zs).cells (G-(n+1)):=⟨_,rfl⟩
 rw[<-hG] at hrz
 rw[<-hROW] at hrz
 have hzc:(Value.agg zs).cells=zs:=rfl
 have hRl:ROW.size=G*s:=by
  rw[hROW,hzc]
  simp only[Wk,X4,L.zl,YS,ZK,Zx]
  have y1:(n+1-i)*s=(n+1)*s-i*s:=YU _ _ _
  have y2:(G-(n+1))*s=G*s-(n+1)*s:=YU _ _ _
  have y3:(n+1)*s<=G*s:=Zr _ hGn
  omega
 obtain⟨W1,hW1⟩:∃W1,W1=w.drew.alloc (.cells ROW (ρ.t 9)):=⟨_,rfl⟩
 have hh1:W1.heap=w.heap.push (.cells ROW (ρ.t 9) (0,0)):=by rw[hW1];rfl
 have e1:W1.os=w.os:=by rw[hW1];rfl
 have e2:W1.tape=w.tape:=by rw[hW1];rfl
 have e3:W1.output=w.output:=by rw[hW1];rfl
 have e4:w.drawn<=W1.drawn:=by rw[hW1];exact Yr _
 rw[<-hW1] at hrz
 have hNb:W1.heap[w.heap.size]?=some (.cells ROW (ρ.t 9) (0,0)):=by rw[hh1];simp
 have hOb:W1.heap[b]?=some (.cells cc Ty (0,0)):=by rw[hh1,ZW,ZG (by omega)];exact hb
 have hOv:W1.heap[vb]?=some (.cells vv Tv (0,0)):=by rw[hh1,ZW,ZG (by omega)];exact hv
 clear hW1
 have hV:(vv.toList.take s).length=1*s:=by rw[ZK,Zx,Yp hvl,x5]
 have hD:((cc.toList.take (n*s)).drop (i*s)).length=(n-i)*s:=by
  rw[ZX,ZK,Zx,Yp (by omega),YU]
 have hG63:G<=9223372036854775807:=by
  have:=grownCap_le_maxLen w (n+1) c (ρ.t 9) (by unfold maxLen;omega)
  rw[<-hG] at this
  unfold maxLen at this
  omega
 clear hG
 generalize hA:aU ROW.toList (i*s) (vv.toList.take s)=A
 have x6:(n+1)*s<=G*s:=Zr _ hGn
 have hAl:A.length=G*s:=by rw[<-hA,cM (by rw[hV,Zx];omega),Zx,hRl]
 have hcpA:∀ty dc,(Builtin.copy_ #[(ρ.t 24),(ρ.t 24)] ty #[.slice (some ⟨w.heap.size,i*s,none⟩) (n+1-i) dc,.slice (some ⟨vb,0,none⟩) 1 vc]).run P W1=.ok (goInt 1) (W1.setRow w.heap.size A.toArray):=λty dc=>by
  rw[<-hA]
  exact Sb W1 _ _ ty (ρ.t 9) w.heap.size (i*s) (n+1-i) dc ⟨vb,0,none⟩ 1 vc 1 ROW (ρ.t 9) _ L.t24 hsz (by simp only[Wp];split<;>omega) hV
   (λj v hj=>by
    rw[XY,ZZ]
    refine J2 hOv ?_
    rw[Zs] at hj
    split at hj
    .simpa using hj
    .cases hj) hNb (by omega) h1v
 obtain⟨W2,hW2⟩:∃W2,W2=W1.setRow w.heap.size A.toArray:=⟨_,rfl⟩
 rw[<-hW2] at hcpA
 have hN2:W2.heap[w.heap.size]?=some (.cells A.toArray (ρ.t 9) (0,0)):=by rw[hW2];exact Yu W1 _ ROW _ _ _ hNb
 have hO2:W2.heap[b]?=some (.cells cc Ty (0,0)):=by rw[hW2,Yx W1 _ b _ (by omega)];exact hOb
 have hh2:W2.heap=w.heap.push (.cells A.toArray (ρ.t 9) (0,0)):=by
  apply Xr
  intro k
  by_cases hk:k=w.heap.size
  .subst hk;rw[hN2];simp
  .rw[hW2,Yx W1 _ k _ hk,hh1,ZW,ZW,ZG hk,ZG hk]
 have f1:W2.os=W1.os:=by rw[hW2];rfl
 have f2:W2.tape=W1.tape:=by rw[hW2];rfl
 have f3:W2.output=W1.output:=by rw[hW2];rfl
 have f4:W2.drawn=W1.drawn:=by rw[hW2];rfl
 clear hW2
 generalize hB:aU A (i*s+s) ((cc.toList.take (n*s)).drop (i*s))=B
 have hBl:B.length=G*s:=by rw[<-hB,cM (by rw[hD,hAl];omega),hAl]
 have hcpB:∀ty dc sc,(Builtin.copy_ #[(ρ.t 24),(ρ.t 24)] ty #[.slice (some ⟨w.heap.size,i*s+s,none⟩) (n-i) dc,.slice (some ⟨b,i*s,none⟩) (n-i) sc]).run P W2.drew=.ok (goInt ((n-i:Nat):Int)) (W2.drew.setRow w.heap.size B.toArray):=λty dc sc=>by
  rw[<-hB]
  exact Sb W2.drew _ _ ty (ρ.t 9) w.heap.size (i*s+s) (n-i) dc ⟨b,i*s,none⟩ (n-i) sc (n-i) A.toArray (ρ.t 9) _ L.t24 hsz (by simp only[Wp];split<;>omega) hD
   (λj v hj=>by
    rw[XY]
    refine J2 (w:=W2.drew) hO2 ?_
    rw[Zw,Zs] at hj
    split at hj
    .simpa using hj
    .cases hj) hN2 (by rw[YS,hAl];omega) (λv hv'=>h1c v (Z1 hv'))
 obtain⟨W3,hW3⟩:∃W3,W3=W2.drew.setRow w.heap.size B.toArray:=⟨_,rfl⟩
 rw[<-hW3] at hcpB
 have hh3:W3.heap=w.heap.push (.cells B.toArray (ρ.t 9) (0,0)):=by
  have hN2':W2.drew.heap[w.heap.size]?=some (.cells A.toArray (ρ.t 9) (0,0)):=hN2
  apply Xr
  intro k
  by_cases hk:k=w.heap.size
  .subst hk;rw[hW3,Yu W2.drew _ A.toArray _ _ _ hN2'];simp
  .rw[hW3,Yx W2.drew _ k _ hk]
   show W2.heap[k]?=_
   rw[hh2,ZW,ZW,ZG hk,ZG hk]
 have g1:W3.os=w.os:=by rw[hW3,<-e1,<-f1];rfl
 have g2:W3.tape=w.tape:=by rw[hW3,<-e2,<-f2];rfl
 have g3:W3.output=w.output:=by rw[hW3,<-e3,<-f3];rfl
 have g4:w.drawn<=W3.drawn:=by
  rw[hW3]
  show w.drawn<=W2.drawn+1
  omega
 clear hW3
 have hfin:B.toArray.toList.take ((n+1)*s)=cc.toList.take (i*s)++(vv.toList.take s++(cc.toList.take (n*s)).drop (i*s)):=by
  have hRo:ROW.toList.take (i*s)=cc.toList.take (i*s):=by
   rw[hROW]
   simp only[Array.toList_append,Yf]
   rw[Yj (by rw[ZK,Zx];omega)]
   exact ZC (by rw[ZK,Zx];omega)
  show B.take ((n+1)*s)=_
  rw[<-hB,<-hA,<-x2]
  refine aLC (l:=ROW.toList) (by rw[Zx,hRl];omega) (by rw[hV]) (by rw[hD]) hRo (by omega)
 have hw1:IntKind.i64.wrap ((i:Int)+1)=(i:Int)+1:=by rw[Xh];omega
 have hw2:IntKind.i64.wrap ((n:Int)+1)=(n:Int)+1:=by rw[Xh];omega
 have hb1:(0:Int)<=(i:Int)+1:=by omega
 have hin:i<=n:=by omega
 have hb3:(i:Int)<=(n:Int):=by omega
 have hGi:¬(G=i):=by omega
 have hGim:¬(G=i+1):=by omega
 have hci:¬(c=i):=by omega
 have hres:∀e w',e=Ending.returned (.slice (some ⟨w.heap.size,0,none⟩) (n+1) G)/\w'=W3->∃(G:Nat) (R:Array Value) (q:Nat),n+1<=G/\R.size=G*s /\
  R.toList.take ((n+1)*s)=cc.toList.take (i*s)++(vv.toList.take s++(cc.toList.take (n*s)).drop (i*s)) /\
  e=.returned (.slice (some ⟨w.heap.size,0,none⟩) (n+1) G)/\w'.heap=w.heap.push (.cells R (ρ.t 9) (0,0))/\w'.os=w.os/\w'.tape=w.tape/\w'.output=w.output/\w.drawn<=w'.drawn:=by
  rintro e w' ⟨rfl,rfl⟩
  exact⟨G,B.toArray,0,hGn,by simpa using hBl,hfin,rfl,hh3,g1,g2,g3,g4⟩
 clear hkk hik hold hROW hRl hfin hh1 hh2 hh3 e1 e2 e3 e4 f1 f2 f3 f4 g1 g2 g3 g4 hNb hOb hOv hN2 hO2
 refine Calls.mono (R:=λe w'=>e=Ending.returned (.slice (some ⟨w.heap.size,0,none⟩) (n+1) G)/\w'=W3) ?_ λe w' h=>hres e w' h
 clear hres
 go_enter F22,Body2.n22_ntmps ρ
 go_wp2_with (first
  | (at_builtin;refine Lib.wpList_append_run _ rfl _ _ _ _ rfl _ _ rfl rfl _ _ (hrz _) ?_)
  | (at_builtin;refine wpList_copy_runI _ rfl _ _ (ρ.t 24) (ρ.t 24) rfl _ _ rfl rfl (hcpA _ _) ?_))
 go_region_law_o (refine step_copy_runI rfl _ _ (ρ.t 24) (ρ.t 24) rfl (.slice (some ⟨w.heap.size,i*s+s,none⟩) (n-i) (G-(i+1))) (.slice (some ⟨b,i*s,none⟩) (n-i) (c-i)) (by simp[Act.eval,Act.put]) (by simp[Act.eval,Act.put]) (hcpB (ρ.t 3) (G-(i+1)) (c-i)) ?_)
 go_wp2
 go_ret
 exact⟨rfl,rfl⟩
end
section
open Go.Proofs Go.Shelf Go.RowKit Go.Lib
variable {FT:Nat->Option Nat}{P:Program}{T:List cS}{c:dE}{es:List (List AV)}{fl i id id2 k:Nat}{m:List Value}{row:List AV}{s:Nat}{ys:List (List AV)}
section
def aC5[aG](FT:Nat->Option Nat)(c:dE)(fl:Nat)(r:AV)(H':aY)(v:Value)(w':World): Prop:=
 ∃c',c'.w=w'/\c'.H=H'/\c'.X=c.X/\bY fl c c'/\bZ FT c'/\RV FT c' r v
theorem aGw[aG](hs:bZ (aL T) c){t e:TypeId}{i:TypeInfo}{z:Value}{bytes:Nat}{xv yv:Value}(hflid:fl<=id)(hob:c.H[id]?=some (.blk s es))(hov:c.H[id2]?=some (.blk s [row]))(hx:RV (aL T) c (.ms id es.length 0 es.length) xv)(hy:RV (aL T) c (.ms id2 1 0 1) yv)(ht:P.underlying t=some (.slice e))(hi:P.info? e=some i)(hsz:i.size=s)(hby:i.bytes=bytes)(hz:i.zero=some z)(hzs:z.cells.size=s)(hs0:0<s)(hroom:lA (es.length+1) bytes=true)(ty:TypeId):
 ∃v w',(Builtin.append_ #[t,t] ty #[xv,yv]).run P c.w=.ok v w'/\aC5 (aL T) c fl (.ms id (es.length+1) 0 (es.length+1)) (c.H.set id (.blk s (es++[row]))) v w':=by
 subst hsz hby
 have hlens:=hs.lens id i.size es hob
 have hly:∀e∈[row],e.length=i.size:=hs.lens id2 i.size [row] hov
 obtain⟨xa,xc,news,hv2,_,hE,hfc⟩:=aDj (P:=P) hs hy (by simp[rd,hov]:rd c.H (.ms id2 1 0 1)=some [row]) hly hs0
 have hsrc:Src P c.w t t e i yv 1 news:=by
  rw[hv2]
  refine V1 ht ht hi (λw' hd=>?_)
  have:=hfc w' hd
  rw[hv2] at this
  exact this
 obtain⟨ad,cap,s0,n0,hv,g1,g2,g3,g4⟩:=hx.ms_inv
 rw[eT hob] at g1
 cases g1
 obtain⟨m1,m2⟩:=g4 rfl
 have moves:cap<es.length+1->∃v w',(Builtin.append_ #[t,t] ty #[xv,yv]).run P c.w=.ok v w'/\aC5 (aL T) c fl (.ms id (es.length+1) 0 (es.length+1)) (c.H.set id (.blk i.size (es++[row]))) v w':=by
  intro hcap
  obtain⟨xa',xc',olds,k1,k2,k3⟩:=sC (P:=P) hs hx (by simp[rd,hob]:rd c.H (.ms id es.length 0 es.length)=some es) hlens hs0
  rw[hv] at k1
  cases k1
  obtain⟨f1,f2⟩:=aAt hroom hcap
  obtain⟨cells,q1,q2⟩:=hsrc.grow ty z ad es.length cap olds hz hcap f2 f1 k3
  have hge:=WM c.w (es.length+1) cap e
  have hsize:cells.size=grownCap c.w (es.length+1) cap e*i.size:=by
   have:=congrArg List.length q1
   simp only[Zx,Zi,k2.1,hE.1,X4,hzs] at this
   rw[this,<-ZA,<-ZA];congr 1;show es.length+1+_=_;omega
  have hgt:es.length<(es++[row]).length:=by simp
  have q4:∀f∈es++[row],f.length=i.size:=by
   intro f hf
   rcases ZD.1 hf with h | h
   .exact hlens f h
   .exact hly f h
  have q5:∀k j x,bM (es++[row]) k j=some x->∃v,cells[k*i.size+j]?=some v/\bE v=true/\RV (aL T) c x v:=by
   intro k j x hx
   obtain⟨u,k1,k2,k3⟩:=Nq (rest:=(Builtin.zeroCells z.cells (grownCap c.w (es.length+1) cap e-(es.length+1))).toList) k2 hE k j x hx
   refine⟨u,?_,k2,k3⟩
   rw[<-q1] at k1
   simpa using k1
  rw[hv]
  refine⟨_,_,q2,⟨c.w.drew.alloc (.cells cells e (0,0)),c.X,upd c.β id c.w.heap.size,c.H.set id (.blk i.size (es++[row]))⟩,rfl,rfl,rfl,El (ob:=.cells cells e (0,0)) hs hflid hob hgt rfl rfl rfl rfl,
   HL (cs':=cells) (T:=e) hs hob hgt rfl rfl rfl rfl q4 (by rw[hsize];exact Zr _ (by simpa using hge)) q5,?_⟩
  refine .ms id (es.length+1) 0 (es.length+1) _ _ i.size (es.length+1) (by rw[sV hob];simp) (Zg _) hge λ_=>⟨by omega,.inr ⟨c.w.heap.size,cells,e,_,eB _ _ _,?_,by simpa using hsize.symm,rfl,λ_=>by simp⟩⟩
  exact Wr c.w.drew _
 rcases m2 with⟨_,m3,m4,m5⟩ | ⟨b,cc,Ty,a',m3,m4,m5,m6,m7⟩
 .exact moves (by omega)
 .by_cases hcap:cap<es.length+1
  .exact moves hcap
  .have ha:=m7 (by omega)
   subst m6
   subst ha
   obtain⟨cc',Ty',q1,q2,q3⟩:=hs.blk id i.size es b hob m3
   rw[m4] at q1
   cases q1
   have hfit:es.length*i.size+news.length<=cc.size:=by
    rw[hE.1,<-m5,<-ZA];exact Zr _ (by show es.length+1<=0+cap;omega)
   obtain⟨p1,p2⟩:=Hl (k:=es.length) hlens hly (Zg _) hE hfit q3
   have hsp:aU es es.length [row]=es++[row]:=by simp[aU]
   rw[hsp] at p1 p2
   have hst:=YY P b (es.length*i.size) Ty news 0 cc c.w m4 (by simpa using hfit) (gR hly hE)
   rw[gO] at hst
   have hsplen:=cM (l:=cc.toList) (vs:=news) (k:=es.length*i.size) (by simpa using hfit)
   have hrun:=hsrc.run ty (some ⟨b,0*i.size,none⟩) es.length cap (by omega) _ (λad' h=>by cases h;rw[fH];simpa using hst) (λh=>by cases h)
   rw[<-hv] at hrun
   refine⟨_,_,hrun,⟨c.w.setRow b (aU cc.toList (es.length*i.size) news).toArray,c.X,c.β,c.H.set id (.blk i.size (es++[row]))⟩,rfl,rfl,rfl,
    mI (cs':=(aU cc.toList (es.length*i.size) news).toArray) hs hflid hob m3 m4 (by simp) (by simpa using hsplen) (Yu c.w b cc _ Ty _ m4) (λk hk=>Yx c.w b k _ hk) (by simp) rfl rfl rfl,
    vZ (cs':=(aU cc.toList (es.length*i.size) news).toArray) hs hob m3 m4 (by simp) (by simpa using hsplen) (Yu c.w b cc _ Ty _ m4) (λk hk=>Yx c.w b k _ hk) (by simp) rfl rfl rfl p1 ?_ p2,?_⟩
   .simp only[Zi,YS,hsplen,Zx]
    rw[ZA,<-hE.1];exact hfit
   .refine .ms id (es.length+1) 0 (es.length+1) _ cap i.size (es.length+1) (by rw[sV hob];simp) (Zg _) (by omega) λ_=>⟨by omega,.inr ⟨b,_,Ty,_,m3,Yu c.w b cc _ Ty _ m4,?_,rfl,λ_=>rfl⟩⟩
    simpa [hsplen] using m5
theorem G7[aG]{zs:List (List AV)}{n:List Value}(h:eU FT c s ys m)(k:eU FT c s zs n): eU FT c s (ys++zs) (m++n):=by
 refine⟨by rw[Zi,Zi,h.1,k.1,ZA],λi j x hx=>?_⟩
 obtain⟨u,h1,h2,h3⟩:=Nq (rest:=[]) h k i j x hx
 exact⟨u,by simpa using h1,h2,h3⟩
theorem aEn(hl:∀e∈ys,e.length=s)(h:eU FT c s ys m)(hk:k<=ys.length): eU FT c s (ys.take k) (m.take (k*s)):=by
 refine⟨?_,λi j x hx=>?_⟩
 .rw[ZK,ZK,h.1,Yp hk,Yp (Zr _ hk)]
 .obtain⟨e,h1,h2⟩:=dC hx
  rw[Zs] at h1
  split at h1
  .rename_i hi
   have hj:j<s:=by
    have:=hl e (Zf h1)
    rw[<-this];exact (Ze.1 h2).1
   obtain⟨u,g1,g2,g3⟩:=h.2 i j x (by simp[bM,h1,h2])
   exact⟨u,by rw[Zs,Zu (NN hi hj)];exact g1,g2,g3⟩
  .cases h1
theorem aEo(h:eU FT c s ys m): eU FT c s (ys.drop k) (m.drop (k*s)):=by
 refine⟨?_,λi j x hx=>?_⟩
 .rw[ZX,ZX,h.1,YU]
 .obtain⟨e,h1,h2⟩:=dC hx
  rw[Zw] at h1
  obtain⟨u,g1,g2,g3⟩:=h.2 (k+i) j x (by simp[bM,h1,h2])
  exact⟨u,by rw[Zw,<-Yt,<-ZA];exact g1,g2,g3⟩
theorem G6{cc:Array Value}(hl:∀e∈es,e.length=s)(hfit:es.length*s<=cc.size)(h:∀i j x,bM es i j=some x->∃v,cc[i*s+j]?=some v/\bE v=true/\RV FT c x v): eU FT c s es (cc.toList.take (es.length*s)):=by
 refine⟨by rw[ZK,Zx];exact Yp hfit,λi j x hx=>?_⟩
 obtain⟨e,h1,h2⟩:=dC hx
 have hi:=(Ze.1 h1).1
 have hj:j<s:=by
  have:=hl e (Zf h1)
  rw[<-this];exact (Ze.1 h2).1
 obtain⟨u,g1,g2,g3⟩:=h i j x hx
 exact⟨u,by rw[Zs,Zu (NN hi hj),Z6];exact g1,g2,g3⟩
theorem aJa{l v d:List Value}{n:Nat}(hl:(n+1)*s<=l.length)(hv:v.length=1*s)(hd:d.length=(n-i)*s)(hi:i<n):
 (aU (aU l ((i+1)*s) d) (i*s) v).take ((n+1)*s)=l.take (i*s)++(v++d):=by
 have x1:(n+1)*s=n*s+s:=by rw[ZA,Yv]
 have x2:(i+1)*s=i*s+s:=by rw[ZA,Yv]
 have x3:(n-i)*s=n*s-i*s:=YU _ _ _
 have x4:i*s+s<=n*s:=by rw[<-x2];exact Zr _ hi
 have x5:1*s=s:=Yv _
 unfold aU
 have h0:(List.take ((i+1)*s) l).length=(i+1)*s:=by rw[ZK];omega
 have e1:(List.take ((i+1)*s) l++(d++List.drop ((i+1)*s+d.length) l)).take (i*s)=l.take (i*s):=by
  rw[Yj (by rw[h0];omega),Xa,Yp (by omega)]
 have e2:(List.take ((i+1)*s) l++(d++List.drop ((i+1)*s+d.length) l)).drop (i*s+v.length)=d++List.drop ((i+1)*s+d.length) l:=by
  rw[hv,show i*s+1*s=(List.take ((i+1)*s) l).length by rw[h0];omega,Y5]
 have h1:(List.take (i*s) l).length=i*s:=by rw[ZK];omega
 rw[e1,e2,<-Yf v d,<-Yf]
 rw[Yj (by simp only[Zi,h1,hv,hd];omega)]
 exact ZC (by simp only[Zi,h1,hv,hd];omega)
theorem aRx[aG]{ρ:Ren}{zs:Array Value}{zb:Nat}(L:aEV P ρ s zs zb)(hzb:zb<=100000)(hs:bZ (aL T) c){vs:Array Value}(hflid:fl<=id)(hne:id≠id2)(hob:c.H[id]?=some (.blk s es))(hov:c.H[id2]?=some (.blk s [row]))(hi:i<=es.length)(hl:es.length<=1000000)(hargs:lJ (aL T) c [.ms id es.length 0 es.length,.lit (.int .i64 i),.ms id2 1 0 1] vs):
 Calls P (ρ.f 22) vs c.w λe w'=>∃v,e=.returned v/\aC5 (aL T) c fl (.ms id (es.length+1) 0 (es.length+1)) (c.H.set id (.blk s (es.take i++row::es.drop i))) v w':=by
 obtain⟨x0,k0,r0⟩:=hargs.2 0 _ rfl
 obtain⟨x1,k1,r1⟩:=hargs.2 1 _ rfl
 obtain⟨x2,k2,r2⟩:=hargs.2 2 _ rfl
 have hx1:=r1.lit_inv
 have hvs:vs=#[x0,.int .i64 i,x2]:=by
  subst hx1
  apply XW
  .exact hargs.1
  .intro j hj1 hj2
   have hj3:j<3:=by simpa using hj2
   match j,hj3 with
   | 0,_=>exact ZE ((Z9 hj1).symm.trans k0)
   | 1,_=>exact ZE ((Z9 hj1).symm.trans k1)
   | 2,_=>exact ZE ((Z9 hj1).symm.trans k2)
 subst hvs
 have hlens:=hs.lens id s es hob
 have hly:∀e∈[row],e.length=s:=hs.lens id2 s [row] hov
 obtain⟨i0,hi0,hz0,hzs,hzb'⟩:=info_parts L.i9
 have hroom:lA (es.length+1) zb=true:=by
  have h1:(es.length+1)*zb<=1000001*100000:=Xt (by omega) hzb
  simp only[lA,Zd,Z3]
  omega
 obtain⟨a0,c0,s0,n0,rfl,g1,g2,g3,g4⟩:=r0.ms_inv
 rw[eT hob] at g1
 cases g1
 obtain⟨m1,m2⟩:=g4 rfl
 obtain⟨a2,c2,s2,n2,rfl,j1,j2,j3,j4⟩:=r2.ms_inv
 rw[eT hov] at j1
 cases j1
 obtain⟨_,p2⟩:=j4 rfl
 rcases p2 with⟨_,h0,_⟩ | ⟨vb,vv,Tv,b2,q1,q2,q3,rfl,q5⟩
 .cases h0
 obtain rfl:=q5 (by omega)
 rw[YT] at r2 |-
 by_cases hin:i=es.length
 .subst hin
  obtain⟨v,w',hrun,hleft⟩:∃v w',(∀ty,(Builtin.append_ #[(ρ.t 24),(ρ.t 24)] ty #[.slice a0 es.length c0,.slice (some ⟨vb,0,none⟩) 1 c2]).run P c.w=.ok v w')/\aC5 (aL T) c fl (.ms id (es.length+1) 0 (es.length+1)) (c.H.set id (.blk s (es++[row]))) v w':=by
   have key:=λty=>aGw (P:=P) (fl:=fl) hs (id:=id) (id2:=id2) (es:=es) (row:=row) (t:=ρ.t 24) (e:=ρ.t 9) (i:=i0) (z:=.agg zs) (s:=s) (bytes:=zb) hflid hob hov r0 r2 L.t24 hi0 hzs hzb' hz0 L.zl L.s0 hroom ty
   obtain⟨v,w',h1,h2⟩:=key 0
   refine⟨v,w',λty=>?_,h2⟩
   rw[<-h1]
   rfl
  refine (aOu L a0 es.length c0 vb c2 c.w w' v g3 (λh=>by
   rcases m2 with⟨_,h0,_⟩ | ⟨b,cc,Ty,a',m3,m4,m5,m6,m7⟩
   .exact h0
   .rw[h] at m6;cases m6) (by simpa using hrun)).mono λe w'' ⟨he,hw⟩=>?_
  subst hw
  refine⟨v,he,?_⟩
  simpa using hleft
 have hlt:i<es.length:=by omega
 rcases m2 with⟨_,h0,_⟩ | ⟨b,cc,Ty,a',m3,m4,m5,rfl,m7⟩
 .omega
 obtain rfl:=m7 (by omega)
 rw[YT] at r0 |-
 have hvb:vb≠b:=λe=>hne (hs.inj id id2 b m3 (e▸q1))
 obtain⟨cc',Ty',u1,u2,u3⟩:=hs.blk id s es b hob m3
 rw[m4] at u1
 cases u1
 obtain⟨vv',Tv',w1,w2,w3⟩:=hs.blk id2 s [row] vb hov q1
 rw[q2] at w1
 cases w1
 have E1:=G6 hlens u2 u3
 have E2:=G6 hly w2 w3
 have E2':eU (aL T) c s [row] (vv.toList.take s):=by simpa using E2
 have hvl:s<=vv.size:=by simpa using w2
 have h1c:=gR hlens E1
 have h1v:=gR hly E2'
 have E3:eU (aL T) c s (es.take i++row::es.drop i) (cc.toList.take (i*s)++(vv.toList.take s++(cc.toList.take (es.length*s)).drop (i*s))):=by
  have e1:cc.toList.take (i*s)=(cc.toList.take (es.length*s)).take (i*s):=by rw[Xa,Yp (Zr _ hi)]
  rw[e1]
  exact G7 (aEn hlens E1 hi) (G7 (ys:=[row]) E2' (aEo E1))
 have hl':∀f∈es.take i++row::es.drop i,f.length=s:=by
  intro f hf
  rcases ZD.1 hf with h | h
  .exact hlens f (Ya h)
  .rcases ZO.1 h with rfl | h
   .exact hly _ (by simp)
   .exact hlens f (Z1 h)
 have hlen':(es.take i++row::es.drop i).length=es.length+1:=by
  simp only[Zi,ZK,Z5,ZX]
  omega
 have hrows:∀R:Array Value,R.toList.take ((es.length+1)*s)=cc.toList.take (i*s)++(vv.toList.take s++(cc.toList.take (es.length*s)).drop (i*s))->
  ∀k j x,bM (es.take i++row::es.drop i) k j=some x->∃v,R[k*s+j]?=some v/\bE v=true/\RV (aL T) c x v:=by
  intro R hR k j x hx
  obtain⟨v,h1,h2,h3⟩:=E3.2 k j x hx
  refine⟨v,?_,h2,h3⟩
  rw[<-hR,Zs] at h1
  split at h1
  .rw[<-Z6];exact h1
  .cases h1
 by_cases hcap:c0<es.length+1
 .refine (aLD L b es.length c0 i vb c2 cc vv Ty Tv c.w hlt g3 hcap (by
   have:=(X2 hroom).1
   omega) (by omega) m4 u2 q2 hvl h1c h1v).mono λe w' hq=>?_
  obtain⟨G,R,q,f1,f2,f3,rfl,f5,f6,f7,f8,f9⟩:=hq
  have hgt:es.length<(es.take i++row::es.drop i).length:=by omega
  refine⟨_,rfl,⟨w',c.X,upd c.β id c.w.heap.size,c.H.set id (.blk s (es.take i++row::es.drop i))⟩,rfl,rfl,rfl,El hs hflid hob hgt f5 f6 f7 f8 f9,HL (cs':=R) hs hob hgt f5 f6 f7 f8 hl' (by rw[hlen',f2];exact Zr _ f1) (hrows R f3) f9,?_⟩
  refine .ms id (es.length+1) 0 (es.length+1) _ G s (es.length+1) (by rw[sV hob,Zu rfl,hlen']) (Zg _) f1 λ_=>⟨by omega,.inr ⟨c.w.heap.size,R,ρ.t 9,_,eB _ _ _,?_,by rw[f2,ZZ],rfl,λ_=>by simp⟩⟩
  show w'.heap[c.w.heap.size]?=_
  rw[f5];simp
 .have hfit:(es.length+1)*s<=cc.size:=by rw[<-m5,ZZ];exact Zr _ (by omega)
  .refine (aIZ L b es.length c0 i vb c2 cc vv Ty Tv c.w hlt (by omega) (by omega) hvb m4 hfit q2 hvl h1c h1v).mono λe w' hq=>?_
   obtain⟨rfl,rfl⟩:=hq
   have hD:((cc.toList.take (es.length*s)).drop (i*s)).length=(es.length-i)*s:=by
    rw[ZX,ZK,Zx,Yp (by omega),YU]
   have x1:(es.length+1)*s=es.length*s+s:=by rw[ZA,Yv]
   have x2:(i+1)*s=i*s+s:=by rw[ZA,Yv]
   have x3:(es.length-i)*s=es.length*s-i*s:=YU _ _ _
   have x4:i*s+s<=es.length*s:=by rw[<-x2];exact Zr _ hlt
   have x5:1*s=s:=Yv _
   have hV:(vv.toList.take s).length=1*s:=by rw[ZK,Zx,Yp hvl,x5]
   have hB:=aJa (l:=cc.toList) (v:=vv.toList.take s) (i:=i) (n:=es.length) (by rw[Zx];exact hfit) hV hD hlt
   have hXl:(aU cc.toList ((i+1)*s) ((cc.toList.take (es.length*s)).drop (i*s))).length=cc.size:=by
    have h1:(i+1)*s+(es.length-i)*s<=cc.size:=by
     clear hrows hl' E3 h1c h1v E1 E2 E2'
     omega
    rw[cM (by rw[hD,Zx];exact h1),Zx]
   generalize hX:aU cc.toList ((i+1)*s) ((cc.toList.take (es.length*s)).drop (i*s))=X at hXl hB |-
   have hYl:(aU X (i*s) (vv.toList.take s)).length=cc.size:=by rw[cM (by rw[hV,hXl];omega),hXl]
   generalize hY:aU X (i*s) (vv.toList.take s)=Y at hYl hB |-
   have h1:(c.w.drew.setRow b X.toArray).heap[b]?=some (.cells X.toArray Ty (0,0)):=Yu c.w.drew b cc _ Ty _ m4
   have h2:((c.w.drew.setRow b X.toArray).setRow b Y.toArray).heap[b]?=some (.cells Y.toArray Ty (0,0)):=Yu _ b _ _ Ty _ h1
   have h3:∀k,k≠b->((c.w.drew.setRow b X.toArray).setRow b Y.toArray).heap[k]?=c.w.heap[k]?:=λk hk=>(Yx _ b k _ hk).trans (Yx c.w.drew b k _ hk)
   have h4:((c.w.drew.setRow b X.toArray).setRow b Y.toArray).heap.size=c.w.heap.size:=by simp
   refine⟨_,rfl,⟨(c.w.drew.setRow b X.toArray).setRow b Y.toArray,c.X,c.β,c.H.set id (.blk s (es.take i++row::es.drop i))⟩,rfl,rfl,rfl,
    mI (cs':=Y.toArray) hs hflid hob m3 m4 (by omega) (by simpa using hYl) h2 h3 h4 rfl rfl rfl (Yr _),
    vZ (cs':=Y.toArray) hs hob m3 m4 (by omega) (by simpa using hYl) h2 h3 h4 rfl rfl rfl hl' (by rw[hlen'];simpa [hYl] using hfit) (hrows Y.toArray hB) (Yr _),?_⟩
   refine .ms id (es.length+1) 0 (es.length+1) _ c0 s (es.length+1) (by rw[sV hob,Zu rfl,hlen']) (Zg _) (by omega) λ_=>⟨by omega,.inr ⟨b,Y.toArray,Ty,_,m3,h2,by rw[YS,hYl];exact m5,rfl,λ_=>by rw[YT]⟩⟩
end
end
section
open iW (den cds ag)
def WO[aG](P:Program)(cf:CF)(fl:Nat)(ops:List bU)(st:St)(K:St->Prop): Prop:=∃s,jA P cf fl ops st=some s/\K s
def WC[aG](P:Program)(cf:CF)(lf fl:Nat)(c:bV)(st:St)(K:cY->St->Prop): Prop:=∃x s,eQ P cf lf fl c st=some (x,s)/\K x s
section
variable {P:Program}{cf:CF}{lf fl:Nat}{tm:List AV}{H H':aY}{v:AV}{K:cY->St->Prop}{st:St}
theorem WO.nil[aG]{K:St->Prop}(h:K st): WO P cf fl [] st K:=⟨st,rfl,h⟩
theorem WO.op[aG]{d:Option Nat}{op:Ia}{r:List bU}{K:St->Prop}(h:aQ P cf fl op tm H=some (v,H'))(k:WO P cf fl r ⟨iG tm d v,H'⟩ K): WO P cf fl (⟨d,op,none⟩::r) ⟨tm,H⟩ K:=by
 obtain⟨s,h1,h2⟩:=k
 refine⟨s,?_,h2⟩
 simp only[jA,cU,eW,h,h1]
theorem WC.reg[aG]{b:Bool}{ops:List bU}(h:WO P cf fl ops st (K .normal)): WC P cf lf fl (.region b [] ops) st K:=by
 obtain⟨s,h1,h2⟩:=h
 exact⟨_,s,by simp only[eQ,Li,h1],h2⟩
theorem WC.seq[aG]{a b:bV}(h:WC P cf lf fl a st λx s=>match x with | .normal=>WC P cf lf fl b s K | x=>K x s): WC P cf lf fl (.seq a b) st K:=by
 obtain⟨x,s,h1,h2⟩:=h
 cases x with
 | normal=>
  obtain⟨y,u,h3,h4⟩:=h2
  exact⟨y,u,by simp only[eQ,h1,h3],h4⟩
 | exit i=>exact⟨_,s,by simp only[eQ,h1],h2⟩
 | ret=>exact⟨_,s,by simp only[eQ,h1],h2⟩
theorem WC.cond[aG]{c:bC}{a b:bV}{t:Bool}(h:aH st.tmps c=.lit (.bool t))(k:WC P cf lf fl (match t with | true=>a | false=>b) st K): WC P cf lf fl (.cond c a b) st K:=by
 obtain⟨x,s,h1,h2⟩:=k
 refine⟨x,s,?_,h2⟩
 cases t<;>simp only[eQ,h]<;>exact h1
theorem WC.condT[aG]{c:bC}{a b:bV}{t:Bool}(h:aH st.tmps c=.lit (.bool t))(ht:t=true)(k:WC P cf lf fl a st K): WC P cf lf fl (.cond c a b) st K:=by subst ht;exact WC.cond h k
theorem WC.condF[aG]{c:bC}{a b:bV}{t:Bool}(h:aH st.tmps c=.lit (.bool t))(ht:t=false)(k:WC P cf lf fl b st K): WC P cf lf fl (.cond c a b) st K:=by subst ht;exact WC.cond h k
theorem WC.block[aG]{i:Nat}{c:bV}(h:WC P cf lf fl c st λx s=>match x with | .exit j=>K (if j=i then .normal else .exit j) s | x=>K x s): WC P cf lf fl (.block i c) st K:=by
 obtain⟨x,s,h1,h2⟩:=h
 cases x with
 | exit j=>
  refine⟨_,s,?_,h2⟩
  simp only[eQ,h1]
  split<;>rfl
 | normal=>exact⟨_,s,by simp only[eQ,h1],h2⟩
 | ret=>exact⟨_,s,by simp only[eQ,h1],h2⟩
theorem WC.skip[aG](h:K .normal st): WC P cf lf fl .skip st K:=⟨_,st,rfl,h⟩
theorem WC.exit[aG]{i:Nat}(h:K (.exit i) st): WC P cf lf fl (.exit i) st K:=⟨_,st,rfl,h⟩
theorem WC.ret[aG](h:K .ret st): WC P cf lf fl .ret st K:=⟨_,st,rfl,h⟩
theorem WC.scope[aG]{c:bV}(h:WC P cf lf fl c st K): WC P cf lf fl (.scope c) st K:=h
theorem WC.imp[aG]{c:bV}{K':cY->St->Prop}(h:WC P cf lf fl c st K)(k:∀x s,K x s->K' x s): WC P cf lf fl c st K':=by
 obtain⟨x,s,h1,h2⟩:=h
 exact⟨x,s,h1,k x s h2⟩
def WL[aG](P:Program)(cf:CF)(lf fl N:Nat)(live:List Bool)(tr:Bool)(b:bV)(m:Nat)(st:St)(K:cY->St->Prop): Prop:=∃x s,fW (dN (some live) tr fl N) (λst=>eQ P cf lf fl b st) m st=some (x,s)/\K x s
theorem WL.step[aG]{N:Nat}{live:List Bool}{tr:Bool}{b:bV}{m:Nat}(h:WC P cf lf fl b (dN (some live) tr fl N st) λx s=>match x with | .normal=>WL P cf lf fl N live tr b m s K | x=>K x s): WL P cf lf fl N live tr b (m+1) st K:=by
 obtain⟨x,s,h1,h2⟩:=h
 cases x with
 | normal=>
  obtain⟨y,u,h3,h4⟩:=h2
  exact⟨y,u,by simp only[fW,h1,h3],h4⟩
 | exit i=>exact⟨_,s,by simp only[fW,h1],h2⟩
 | ret=>exact⟨_,s,by simp only[fW,h1],h2⟩
theorem WL.imp[aG]{N:Nat}{live:List Bool}{tr:Bool}{b:bV}{m:Nat}{K':cY->St->Prop}(h:WL P cf lf fl N live tr b m st K)(k:∀x s,K x s->K' x s): WL P cf lf fl N live tr b m st K':=by
 obtain⟨x,s,h1,h2⟩:=h
 exact⟨x,s,h1,k x s h2⟩
theorem WC.loop[aG]{live:List Bool}{tr:Bool}{b:bV}(h:WL P cf lf fl st.heap.length live tr b lf st K): WC P cf lf fl (.loop (some live) tr b) st K:=by
 obtain⟨x,s,h1,h2⟩:=h
 exact⟨x,s,h1,h2⟩
def aWe(lx lr:List Bool)(tr:Bool)(fl N:Nat)(x:cY)(s:St): St:=match x with
 | .ret=>⟨cZ lr s.tmps,s.heap⟩
 | _=>dN (some lx) tr fl N s
theorem WC.mask[aG]{lx lr:List Bool}{tr:Bool}{c:bV}(h:WC P cf lf fl c st λx s=>K x (aWe lx lr tr fl st.heap.length x s)): WC P cf lf fl (.mask lx lr tr c) st K:=by
 obtain⟨x,s,h1,h2⟩:=h
 refine⟨x,_,?_,h2⟩
 simp only[eQ,h1,Fa]
 cases x<;>rfl
theorem aHr[aG]{d t:Nat}: aH (tm.set d v) (.tmp t)=if d=t/\d<tm.length then v else aH tm (.tmp t):=by
 simp only[aH,Z8]
 by_cases h:d=t
 .subst h
  by_cases h2:d<tm.length
  .simp[h2]
  .simp[h2,Zz (Nat.le_of_not_lt h2)]
 .simp[h]
theorem A5[aG]: ∀(l:List Bool) (tm:List AV) (t:Nat),t<tm.length->aH (cZ l tm) (.tmp t)=if l.getD t false then aH tm (.tmp t) else .undef
 | l,[],t,h=>by cases h
 | [],v::vs,0,_=>rfl
 | [],v::vs,t+1,h=>by
  have:=A5 [] vs t (by simpa using h)
  simpa [aH,cZ] using this
 | b::l,v::vs,0,_=>by cases b<;>rfl
 | b::l,v::vs,t+1,h=>by
  have:=A5 l vs t (by simpa using h)
  simpa [aH,cZ] using this
theorem aD8: ∀(l:List Bool) (tm:List AV),(cZ l tm).length=tm.length
 | _::l,_::vs=>by simp[cZ,aD8 l vs]
 | [],vs=>by simp[cZ]
 | _::_,[]=>rfl
abbrev tp:=bC.tmp
abbrev o1(d:Nat)(o:Ia): bU:=⟨some d,o,none⟩
abbrev om(d s:Nat): bU:=⟨some d,.mov (.tmp s),none⟩
theorem WO.mov[aG]{d s:Nat}{r:List bU}{K:St->Prop}(k:WO P cf fl r ⟨tm.set d (aH tm (.tmp s)),H⟩ K): WO P cf fl (om d s::r) ⟨tm,H⟩ K:=WO.op (H':=H) rfl k
section
structure At[aG](N:Nat)(l:List (Nat×AV))(tm:List AV): Prop where
 ln:tm.length=N
 at_:∀k v,dD k l=some v->aH tm (.tmp k)=v
theorem At.get[aG]{N k:Nat}{l:List (Nat×AV)}(h:At N l tm)(e:dD k l=some v): aH tm (.tmp k)=v:=h.at_ k v e
theorem At.nil[aG]: At tm.length [] tm:=⟨rfl,λ_ _ h=>by cases h⟩
theorem At.cons[aG]{N k:Nat}{l:List (Nat×AV)}(e:aH tm (.tmp k)=v)(h:At N l tm): At N ((k,v)::l) tm:=⟨h.ln,λj u hj=>by
 simp only[dD] at hj
 split at hj
 .rename_i hb;cases hj;rw[<-Zc hb];exact e
 .exact h.at_ j u hj⟩
theorem At.set[aG]{N k:Nat}{l:List (Nat×AV)}(h:At N l tm)(hk:Nat.blt k N=true): At N ((k,v)::l) (tm.set k v):=by
 have hk:k<tm.length:=by rw[h.ln];simpa using hk
 refine⟨by rw[Yq];exact h.ln,λj u hj=>?_⟩
 simp only[dD] at hj
 split at hj
 .rename_i hb;cases hj;rw[<-Zc hb,aHr,Zu ⟨rfl,hk⟩]
 .rename_i hb;rw[aHr,ZG (λe=>YE hb e.1)];exact h.at_ j u hj
theorem At.live[aG]{N k:Nat}{l:List (Nat×AV)}(b:List Bool)(h:At N l tm)(e:dD k l=some v)(hk:(Nat.blt k N&&b.getD k false)=true): aH (cZ b tm) (.tmp k)=v:=by
 simp only[Zd] at hk
 rw[A5 _ _ _ (by rw[h.ln];simpa using hk.1),Zu hk.2,h.get e]
theorem At.mask[aG]{N:Nat}{l:List (Nat×AV)}(b:List Bool)(h:At N l tm): At N [] (cZ b tm):=⟨by rw[aD8];exact h.ln,λ_ _ h=>by cases h⟩
theorem AO.op[aG]{N d:Nat}{l:List (Nat×AV)}{op:Ia}{r:List bU}{K:St->Prop}(h:At N l tm)(e:aQ P cf fl op tm H=some (v,H'))(k:∀tm',At N ((d,v)::l) tm'->WO P cf fl r ⟨tm',H'⟩ K)(hd:Nat.blt d N=true:=by rfl): WO P cf fl (o1 d op::r) ⟨tm,H⟩ K:=WO.op e (k _ (h.set hd))
theorem AO.mov[aG]{N d s:Nat}{l:List (Nat×AV)}{r:List bU}{K:St->Prop}(h:At N l tm)(e:dD s l=some v)(k:∀tm',At N ((d,v)::l) tm'->WO P cf fl r ⟨tm',H⟩ K)(hd:Nat.blt d N=true:=by rfl): WO P cf fl (om d s::r) ⟨tm,H⟩ K:=WO.mov (by rw[h.get e];exact k _ (h.set hd))
theorem AO.nil[aG]{N:Nat}{l:List (Nat×AV)}{K:St->Prop}(h:At N l tm)(k:K ⟨tm,H⟩): WO P cf fl [] ⟨tm,H⟩ K:=⟨_,rfl,k⟩
theorem Mb[aG]{op:BinOp}{x y:bC}{a b:Int}{v:Value}(hx:aH tm x=iv a)(hy:aH tm y=iv b)(hv:aAs op .i64 a b=some v): aQ P cf fl (.ibin op x y) tm H=some (.lit v,H):=by
 simp only[aQ,hx,hy,Zy,hv]
theorem aPO[dQ][aG]{k:Nat}{l:List (den k)}{x:bC}{a:AV}(q:Qp (.vw k l) a)(hx:aH tm x=a): aQ P cf fl (.lenS x) tm H=some (iv (l.length:Nat),H):=by
 obtain⟨es,h1,h2⟩:=q.inV
 have:=h2.len
 rcases h1 with⟨rfl,rfl⟩ | ⟨f,rfl⟩ | rfl
 .simp only[aQ,hx];rw[<-this];rfl
 .simp only[aQ,hx];rw[<-this]
 .simp only[aQ,hx];rw[<-this]
theorem aFM{i:Int}(h:0<=i): gV (iv i)=some i.toNat:=by simp only[gV,Zu h]
theorem aHW[dQ][aG]{k s:Nat}{l:List (den k)}{x i:bC}{a:AV}{j:Int}{z:den k}(q:Qp (.vw k l) a)(hx:aH tm x=a)(hi:aH tm i=iv j)(e:idx l j=some z)(hs:(cds k).length=s): ∃r,Qr (kA k z) r/\aQ P cf fl (.idxAddr s x i) tm H=some (.rptr r,H):=by
 obtain⟨es,h1,h2⟩:=q.inV
 obtain⟨g1,g2,g3⟩:=pO e
 obtain⟨r,hr,qr⟩:=h2.get g2
 have hl:r.length=s:=by rw[qr.len,sY,hs]
 refine⟨r,qr,?_⟩
 rcases h1 with⟨rfl,rfl⟩ | ⟨f,rfl⟩ | rfl
 .cases hr
 .simp only[aQ,hx,hi,aFM g1,hr,hl,Zy]
 .simp only[aQ,hx,hi,aFM g1,hr,hl,Zy]
theorem aLV[aG]{x:bC}{c:AV}{r:List AV}(hx:aH tm x=.rptr (c::r)): aQ P cf fl (.load false 1 x) tm H=some (c,H):=by
 simp[aQ,hx,eK]
theorem aPP[aG]{n:Nat}{x:bC}{r:List AV}(hx:aH tm x=.rptr r)(h:r.length=n): aQ P cf fl (.load true n x) tm H=some (.agg r,H):=by
 simp only[aQ,hx,eK,h,Zg,Zy]
 rw[<-h,XU]
theorem Qe[aG]{agg:Bool}{n id tot i off:Nat}{s:Nat}{x:bC}{es:List (List AV)}{e:List AV}{v:AV}(hx:aH tm x=.ptr id tot i off)(ho:H[id]?=some (.blk s es))(ht:es.length=tot)(he:es[i]?=some e)(hn:off+n<=e.length)(hv:(if agg then some (.agg ((e.drop off).take n)) else match (e.drop off).take n with | [c]=>some c | _=>none)=some v): aQ P cf fl (.load agg n x) tm H=some (v,H):=by
 cases agg with
 | true=>simp only[Zy,Zb] at hv;simp[aQ,hx,eK,ho,ht,he,hn,hv]
 | false=>
  simp only[Zm,Z4] at hv
  simp only[aQ,hx,eK,ho,ht,he,hn,Zy,Zm,Z4]
  split at hv
  .rename_i c hc;rw[hc];cases hv;rfl
  .cases hv
theorem aEs[aG]{off id tot i o:Nat}{x:bC}(hx:aH tm x=.ptr id tot i o): aQ P cf fl (.fieldAddr off x) tm H=some (.ptr id tot i (o+off),H):=by simp only[aQ,hx]
theorem aEr[aG]{s id tot:Nat}{x i:bC}{es:List (List AV)}{j:Int}(hx:aH tm x=.ms id tot 0 tot)(hi:aH tm i=iv j)(ho:H[id]?=some (.blk s es))(ht:es.length=tot)(h0:0<=j)(hj:j.toNat<tot): aQ P cf fl (.idxAddr s x i) tm H=some (.ptr id tot j.toNat 0,H):=by
 simp only[aQ,hx,hi,aFM h0,ho]
 simp only[ht,hj,Y3,Zy,ZZ]
theorem aPR[aG]{s bytes id:Nat}{x y:bC}{es ys:List (List AV)}(hx:aH tm x=.ms id es.length 0 es.length)(hy:rd H (aH tm y)=some ys)(ho:H[id]?=some (.blk s es))(hs:0<s)(hl:fG s ys=true)(h0:ys≠[])(hf:fl<=id)(hb:(es.length+ys.length)*bytes<=1000000000000/\es.length+ys.length<=1000000000000): aQ P cf fl (.append s bytes x y) tm H=some (.ms id (es++ys).length 0 (es++ys).length,H.set id (.blk s (es++ys))):=by
 have r1:lA ys.length bytes=true:=by
  unfold lA
  have:ys.length*bytes<=(es.length+ys.length)*bytes:=Zr _ (by omega)
  simp;omega
 have r2:lA (es.length+ys.length) bytes=true:=by unfold lA;simp;omega
 have h0:ys.length≠0:=λe=>h0 (ZM.1 e)
 simp only[aQ,hy,hx,cR]
 rw[Zu ⟨hl,hs,r1⟩]
 simp only[ho]
 simp only[Wh,r2,Zy,ZG h0,Zu hf,Zi]
theorem AO.sto[aG]{N:Nat}{l:List (Nat×AV)}{op:Ia}{r:List bU}{K:St->Prop}(h:At N l tm)(e:aQ P cf fl op tm H=some (v,H'))(k:WO P cf fl r ⟨tm,H'⟩ K): WO P cf fl (⟨none,op,none⟩::r) ⟨tm,H⟩ K:=WO.op e k
theorem aUl[aG]{id tot i off s a b c d:Nat}{x y:bC}{es:List (List AV)}{e:List AV}(hx:aH tm x=.ptr id tot i off)(hy:aH tm y=.ms a b c d)(ho:H[id]?=some (.blk s es))(ht:es.length=tot)(he:es[i]?=some e)(hn:off+1<=e.length)(hf:fl<=id):
 aQ P cf fl (.store 1 x y) tm H=some (.lit bP,H.set id (.blk s (es.set i (aU e off [.ms a b c d])))):=by
 simp only[aQ,hx,hy,cellsOf,Ye,Zy,vY,hf,ho,ht,he,hn]
theorem aLY[aG]{s bytes:Nat}{x y:bC}{ys:List (List AV)}{a:AV}(hx:aH tm x=a)(hy:rd H (aH tm y)=some ys)(h:cR fl H s bytes a ys=some (v,H')): aQ P cf fl (.append s bytes x y) tm H=some (v,H'):=by
 simp only[aQ,hy,hx,h]
theorem aUn[aG]{x:bC}{a:Int}(hx:aH tm x=iv a): aQ P cf fl (.un .neg x) tm H=some (iv (IntKind.i64.wrap (0-a)),H):=by
 have e:aR P (Op.unary .neg (.int .i64 a))=some (.int .i64 (IntKind.i64.wrap (0-a))):=by kernel_rfl
 simp only[aQ,hx,e]
theorem aUo[aG]{x y:bC}{a b:Int}(hx:aH tm x=iv a)(hy:aH tm y=iv b): aQ P cf fl (.minmax true [x,y]) tm H=some (iv (nF a b),H):=by
 have e:=aKS (P:=P) (cf:=cf) (fl:=fl) (H:=H) (a:=a) (b:=b)
 simp only[aQ,ZH,Yn,hx,hy] at e |-
 exact e
theorem aPN[aG]{kt:TypeId}{z m k:bC}{ok:Bool}(h:aQ P cf fl (.lookup kt z m k ok) tm H=some (v,H')): H'=H:=by
 simp only[aQ] at h
 repeat' split at h
 all_goals first | (cases h;rfl) | cases h
theorem aPK[dQ]: ∀H:aY,Qs (List.replicate H.length .gone) H:=λH=>by
 have:∀(n:TH) (H:aY),cA (Qo n) (List.replicate H.length .gone) H:=by
  intro n H
  induction H with
  | nil=>trivial
  | cons o H ih=>exact⟨trivial,ih⟩
 exact this _ H
theorem J3[dQ][aG]{T:List cS}{vi:Nat}{ka:List Sh}{k:Nat}{F:Nat->fO ka->Option (fO ([k].map .v))}(hf:FOK P T vi ⟨ka,[k],false,F⟩){n:Nat}{p:fO ka}{r:den k}{a:AV}(e:F n p=some r)(hc:∀r:den k,∃j:Int,val k r=.lit (.int .i64 j)){aw:List AV}(q:Qc [] (Nc ka p) aw):
 ∃A x,fC P T n 0 vi aw []=some (x,A)/\fA A 0 x=(match val k r with | .lit v=>.lit v | _=>.undef):=by
 obtain⟨aw',A,h1,h2,h3,_⟩:=hf n p r e aw q
 have h2:=h2 []
 match aw',h2 with
 | [b],h2=>
  refine⟨A,b,h1,?_⟩
  have h4:Qh [] (val k r) (eA A 0 b):=h2.1
  obtain⟨j,hj⟩:=hc r
  rw[hj] at h4 |-
  have e:fA A 0 b=eA A 0 b:=by
   cases b with
   | tup l=>exact (h3 _ ZP l rfl).elim
   | _=>rfl
  rw[e,h4.inL]
end
end
theorem aGv[aG]{K:Type}[DecidableEq K]{P:Program}{kt:TypeId}{b:K->Value}(he:∀k x,aR P (Op.equal kt (b k) (b x))=some (decide (k=x)))(k:K):
 ∀(d:List K) (i:Nat),aR P (Instr.findAsking kt (b k) (d.map λx=>{ key:=b x,val:=.bool false,born:=0 }) i)=some ((d.findIdx? λx=>decide (x=k)).map λj=>(i+j,.bool false))
 | [],i=>rfl
 | x::r,i=>by
  have he:aR P (Op.equal kt (b k) (b x))=some (decide (x=k)):=(he k x).trans (congrArg some (decide_eq_decide.2 ⟨λh=>h.symm,λh=>h.symm⟩));simp only[ZH,Instr.findAsking,bN,he,ZQ,XJ];cases decide (x=k) with
  | true=>simp[bW]
  | false=>
   simp only[Zm,Z4,aGv ‹∀k x,_› k r (i+1)];cases r.findIdx? λx=>decide (x=k) with
   | none=>rfl
   | some j=>simp;omega
theorem aTT[aG]{K:Type}(g:DecidableEq K){P:Program}{kt:TypeId}{b:K->Value}{u:TypeDesc}(l:aR P (underlying kt)=some u)(i:∀k x r,Instr.findNow u (b k) ({ key:=b x,val:=.bool false,born:=0 }::r) 0=none)(he:∀k x,aR P (Op.equal kt (b k) (b x))=some (decide (k=x)))(p:∀e k,aR P (Instr.checkKey e 10000 kt (b k))=some ())(q:∀k,Instr.sameBits 10000 (b k) (b k)=true): N4 P kt b where
 find:=λk m=>by
  unfold jX;simp only[Instr.findKey,bN,l,ZQ,Yc,W7];cases m with
  | nil=>
   have:=aGv he k [] 0;simp only[Yn] at this |-;cases h:Instr.findNow u (b k) [] 0 with
   | none=>simp only[this];rfl
   | some j=>cases u<;>first | (cases h;rfl) | (cases h)
  | cons x r=>
   simp only[ZH,i];have:=aGv he k (x::r) 0;simp only[ZH] at this;simp only[this];cases (x::r).findIdx? λx=>decide (x=k) with
   | none=>rfl
   | some j=>simp
 chk:=p;same:=q
section
variable [dQ][aG]{P:Program}{T:List cS}
theorem aLE{vi k:Nat}(b:aG.prim vi=some (qJ (Ou (cds k).length))): POK T vi (.ins k):=
 ⟨_,b,λ_ _ _ _ _ _ _ d e a h c g=>aOv d e a c g⟩
theorem aTB{vi k:Nat}{F:List (den k)->List (den k)}(u:aG.prim vi=some (qJ Em))(f:den k->Int)(n:∀x,kA k x=[.lit (.int .i64 (f x))])(t:(cds k).length=1)(o:∀l,(F l).map f=tE (l.map f)): POK T vi (.ord k F):=by
 refine⟨_,u,λfl H id l es j q s r=>?_⟩;have m:∀{l:List (den k)} {es:List (List AV)},Ql k l es->es=(l.map f).map cI:=by
  intro l;induction l with
  | nil=>intro es h;cases es with
   | nil=>rfl
   | cons=>exact h.elim
  | cons x l i=>
   intro es h;cases es with
   | nil=>exact h.elim
   | cons e es=>
    rw[i h.2];have g:Qr (kA k x) e:=h.1;rw[n] at g;match e,g with
    | [a],g=>rw[(Qh.p (H:=[]) _ _ g.1).inL];rfl
 have d:∀l:List (den k),Ql k l ((l.map f).map cI):=by
  intro l;induction l with
  | nil=>trivial
  | cons x l i=>exact⟨by show Qr (kA k x) (cI (f x));rw[n];exact⟨.lit _,trivial⟩,i⟩
 have c:(F l).length=l.length:=by
  have:=congrArg List.length (o l);rw[ZR,wW,ZR] at this;exact this
 have e:=m s;subst e;refine⟨((F l).map f).map cI,?_,d _,c⟩;rw[t] at q |-;have:=aNn (fl:=fl) (id:=id) (l:=l.map f) (H:=H) j q (by simpa using r);rw[ZR] at this;rw[this,o]
theorem aNk(l:List Int): (tE l).map (λx=>x)=tE (l.map λx=>x):=by simp
def aU0(vi ks kb:Nat)(hp:aG.prim vi=some (qJ Qf))(F:Nat->fO [.v ks,.v ks]->Option (fO ([kb].map .v)))(h:∀n p r,F n p=some r->∃m s t b,n=m+1/\Nc [.v ks,.v ks] p=[.lit (.string s),.lit (.string t)]/\aA0 n s t=some b/\Dq 2 [] ([kb].map .v) [.lit (.bool b)]=some r): Con P T:=
 ⟨vi,⟨[.v ks,.v ks],[kb],false,F⟩,.of0 (by
  intro n p r hr aw q
  obtain⟨m,s,t,b,rfl,h1,h2,h3⟩:=h n p r hr
  have q:Qc [] (Nc [.v ks,.v ks] p) aw:=q
  rw[h1] at q
  obtain⟨a,a',rfl⟩:∃a a',aw=[a,a']:=by
   match aw,q with
   | [a,a'],_=>exact⟨a,a',rfl⟩
  have e1:=q.1.inL
  have e2:=q.2.1.inL
  subst e1;subst e2
  have e:fC P T (m+1) 0 vi [.lit (.string s),.lit (.string t)] []=some (.lit (.bool b),[]):=by
   simp only[fC,hp,Qf]
   simp only[aA0] at h2
   split at h2
   .rename_i hb;cases h2;simp only[hb]
   .cases h2
  exact⟨[.lit (.bool b)],[.lit (.bool b)],[],[],e,trivial,⟨Qh.l _,trivial⟩,h3,λh=>by cases h⟩) rfl⟩
def aOK(vi k ks:Nat)(hc:aQj T vi k)(F:Nat->fO [.w ks]->Option (fO ([ks].map .v)))(L:fO [.w ks]->List (den k))(h:∀n p r,F n p=some r->∃m,n=m+1/\Nc [.w ks] p=[.vw k (L p)]/\(L p).length<=1000000/\Dq 2 [.lst k (L p)] ([ks].map .v) [.ms 0 none]=some r/\(L p=[]->Dq 2 [] ([ks].map .v) [.emp false]=some r)): Con P T:=
 ⟨vi,⟨[.w ks],[ks],false,F⟩,.of0 (by
  intro n p r hr aw q
  obtain⟨m,rfl,h1,h2,h3,h4⟩:=h n p r hr
  have q:Qc [] (Nc [.w ks] p) aw:=q
  rw[h1] at q
  obtain⟨a,rfl⟩:∃a,aw=[a]:=by
   match aw,q with
   | [a],_=>exact⟨a,rfl⟩
  obtain⟨fid,bytes,z,hT,h0,hb⟩:=hc
  obtain⟨e1,e2,e3⟩:=aMr (P:=P) (n:=m) (G:=[]) hT h0
  obtain⟨es,hk,hq⟩:=(q.1.pu trivial).inV
  have em:L p=[]->es=[]:=λe=>ZM.1 (by have:=hq.len;rw[e] at this;exact this)
  cases es with
  | nil=>
   have e:L p=[]:=ZM.1 hq.len.symm
   have fin:∀v,fC P T (m+1) 0 vi [a] []=some (v,[])->(v=.lit bQ\/v=.sl false [])->∃vs aw' A H,fC P T (m+1) 0 vi [a] []=some (jV aw',A)/\Qs H A/\Qc H vs aw'/\Dq 2 H ([ks].map .v) vs=some r/\(false=true->SY H vs=true):=by
    intro v hv hd
    refine⟨[.emp false],[v],[],[],hv,trivial,⟨.p _ _ (.emp _ _ ?_),trivial⟩,h4 e,λh=>by cases h⟩
    rcases hd with h | h
    .exact .inl h
    .exact .inr (.inr ⟨rfl,h⟩)
   rcases hk with⟨rfl,_⟩ | hk | hk
   .exact fin _ e1 (.inl rfl)
   .exact fin _ (e2 a (.inl hk)) (.inr rfl)
   .exact fin _ (e2 a (.inr hk)) (.inr rfl)
  | cons e es=>
   have hk:(∃f,a=.sl f (e::es))\/a=.vw (e::es):=by
    rcases hk with⟨_,hk⟩ | hk
    .cases hk
    .exact hk
   have g:=e3 a e es hk (hq.all rfl) (Az (by rw[hq.len];exact h2) hb)
   refine⟨[.ms 0 none],[.ms 0 (e::es).length 0 (e::es).length],_,[.lst k (L p)],g,⟨⟨_,rfl,hq⟩,trivial⟩,⟨?_,trivial⟩,h3,λh=>by cases h⟩
   rw[hq.len]
   exact .ms 0 k (L p) rfl) rfl⟩
theorem aON{α:Type}{n:Nat}{l a:List α}(h:clF n l=some a): ∃m,n=m+1/\a=l/\l.length<=1000000:=by
 cases n with
 | zero=>cases h
 | succ m=>
  obtain⟨c,b⟩:=LN h;exact⟨m,rfl,by simpa using c,by simpa using b⟩
theorem aRR{n:Nat}{s t:ByteArray}{b:Bool}(h:aA0 n s t=some b): ∃m,n=m+1:=by
 cases n with
 | zero=>cases h
 | succ m=>exact⟨m,rfl⟩
end
end
section
def PF(g:U4): Prop:=∀cf fl m args H r H',(fl<=m/\m<=H.length)->g.run cf fl args H=some (r,H')->H'.take fl=H.take fl/\m<=H'.length
variable {H:aY}{fl m s:Nat}
theorem aHk{H':aY}(h:fl<=m/\m<=H.length)(e:H'=H): H'.take fl=H.take fl/\m<=H'.length:=by subst e;exact⟨rfl,h.2⟩
theorem aKK{i:Nat}{o:dK}(h:fl<=m/\m<=H.length)(a:fl<=i): (H.set i o).take fl=H.take fl/\m<=(H.set i o).length:=⟨Wa a,by simpa using h.2⟩
theorem aNC: PF (qJ Qf):=λ_ fl m a H r H' h e=>by
 have e:Qf fl a H=some (r,H'):=e;refine aHk h ?_;unfold Qf at e;repeat' (first | (cases e;done) | (cases e;rfl) | split at e)
theorem aKJ: PF (qJ Em):=λ_ fl m a H r H' h e=>by
 rcases NH (show Em fl a H=some (r,H') from e) with⟨x,_,_,_,rfl⟩ | ⟨id,l,_,_,b,_,_,_,rfl⟩
 .exact⟨rfl,h.2⟩
 .exact aKK h b
theorem IQ{b:Bool}: PF (qV b s):=λ_ _ _ _ _ _ _ h e=>Eo h e
theorem aF1: PF (qJ (Ou s)):=λ_ fl m a H r H' h e=>by
 obtain⟨_,_,_,_,_,_,b,_,_,_,_,_,_,rfl⟩:=D7 e;exact aKK h b
theorem aKI{a:Nat}: PF (aAU a):=λ_ _ _ _ _ _ _ h e=>by
 obtain⟨_,_,_,_,_,_,_,_,_,e⟩:=g9 e;exact aHk h e
theorem xP{vi k:Nat}{g:U4}{o:Option U4}(a:PF g)(b:∀q,o=some q->PF q): ∀q,(match Nat.beq vi k with | true=>some g | false=>o)=some q->PF q:=by
 intro q h;split at h
 .cases h;exact a
 .exact b q h
theorem aQT: ∀q,(none:Option U4)=some q->PF q:=λ_ h=>by cases h
theorem aR1[aG](h:∀vi q,aG.prim vi=some q->PF q): ∀cf,Aa cf->Aa (Kx cf):=by
 intro cf _ fl m vi b H r H' d a;unfold Kx at a;split at a
 .rename_i g c;exact h vi g c cf fl m b H r H' d a
 .cases a
end
noncomputable section
structure Aaa where
 X:Int
 Y:Int
 deriving DecidableEq
structure U5 where
 X0:Int
 Y0:Int
 X1:Int
 Y1:Int
 deriving DecidableEq
structure Aad where
 ID:Int
 At:Aaa
 deriving DecidableEq
structure aP where
 ID:Int
 From:Int
 To:Int
 Via:(List Aaa)
 Left:Int
 Right:Int
 deriving DecidableEq
structure aN where
 Nodes:(List Aad)
 Arcs:(List aP)
 Faces:(List Int)
 deriving DecidableEq
structure aD where
 ID:Int
 Kind:Int
 Class:Int
 Name:ByteArray
 Parts:(List Int)
 deriving DecidableEq
structure aK where
 Plan:aN
 Features:(List aD)
 deriving DecidableEq
structure bG where
 Kind:Int
 ID:Int
 A:Int
 B:Int
 C:Int
 At:Aaa
 Via:(List Aaa)
 Name:ByteArray
 Parts:(List Int)
 deriving DecidableEq
structure dJ where
 Office:Int
 Seq:Int
 Time:Int
 Source:ByteArray
 Edits:(List bG)
 deriving DecidableEq
structure cN where
 Survey:aK
 Txns:(List dJ)
 deriving DecidableEq
structure fZ where
 first:Int
 last:Int
 script:Int
 deriving DecidableEq
structure wI where
 e0:fZ
 e1:fZ
 e2:fZ
 e3:fZ
 e4:fZ
 e5:fZ
 e6:fZ
 e7:fZ
 e8:fZ
 e9:fZ
 e10:fZ
 e11:fZ
 e12:fZ
 deriving DecidableEq
structure Aae where
 e0:Int
 e1:Int
 deriving DecidableEq
structure aAI where
 Arc:aP
 path:(List Aaa)
 deriving DecidableEq
structure bB where
 line:aAI
 at_:Int
 deriving DecidableEq
structure Kh where
 twice:Int
 outer:(List Int)
 inner:Unit
 alone:Unit
 deriving DecidableEq
structure dR where
 twice:Int
 outer:(List Int)
 inner:(List (List Int))
 alone:(List Int)
 deriving DecidableEq
structure dW where
 Face:Int
 Outer:(List Int)
 Inner:(List (List Int))
 Alone:(List Int)
 deriving DecidableEq
structure Aab where
 kind:Int
 id:Int
 deriving DecidableEq
structure Aac where
 Kind:Int
 ID:Int
 Made:Int
 Changed:Int
 deriving DecidableEq
abbrev aRu: Nat->Type
 | 0=>Int
 | 1=>Aaa
 | 2=>(List Aaa)
 | 3=>U5
 | 4=>Aad
 | 5=>aP
 | 6=>aN
 | 7=>Bool
 | 8=>aD
 | 9=>aK
 | 10=>bG
 | 11=>dJ
 | 12=>(List dJ)
 | 13=>cN
 | 14=>Int
 | 15=>wI
 | 16=>fZ
 | 17=>ByteArray
 | 18=>(List Int)
 | 19=>(List bG)
 | 20=>(List Aad)
 | 21=>(List aP)
 | 22=>(List aD)
 | 23=>(List (List Aaa))
 | 24=>aAI
 | 25=>bB
 | 26=>aAI
 | 27=>(List bB)
 | 28=>(List (Int×Aaa))
 | 29=>(List (Int×Int))
 | 30=>(List (Int×Bool))
 | 31=>(List (List Int))
 | 32=>(List (Int×(List Aaa)))
 | 33=>Kh
 | 34=>(List Kh)
 | 35=>dR
 | 36=>(List dR)
 | 37=>Aae
 | 38=>(List (Aae×Bool))
 | 39=>dW
 | 40=>(List dW)
 | 41=>Aab
 | 42=>(List Aab)
 | 43=>Aac
 | 44=>(List (Aab×Aac))
 | 45=>(List (Int×Aad))
 | 46=>(List (Int×aP))
 | 47=>(List (Int×aD))
 | 48=>(List Aac)
 | _=>Unit
abbrev aRv: Nat->List Cd
 | 0=>[.int .i64]
 | 1=>[.int .i64,.int .i64]
 | 2=>[.sl 1]
 | 3=>[.int .i64,.int .i64,.int .i64,.int .i64]
 | 4=>[.int .i64,.int .i64,.int .i64]
 | 5=>[.int .i64,.int .i64,.int .i64,.sl 1,.int .i64,.int .i64]
 | 6=>[.sl 4,.sl 5,.sl 0]
 | 7=>[.bool]
 | 8=>[.int .i64,.int .i64,.int .i64,.str,.sl 0]
 | 9=>[.sl 4,.sl 5,.sl 0,.sl 8]
 | 10=>[.int .i64,.int .i64,.int .i64,.int .i64,.int .i64,.int .i64,.int .i64,.sl 1,.str,.sl 0]
 | 11=>[.int .i64,.int .i64,.int .i64,.str,.sl 10]
 | 12=>[.sl 11]
 | 13=>[.sl 4,.sl 5,.sl 0,.sl 8,.sl 11]
 | 14=>[.int .i32]
 | 15=>[.int .i32,.int .i32,.int .i64,.int .i32,.int .i32,.int .i64,.int .i32,.int .i32,.int .i64,.int .i32,.int .i32,.int .i64,.int .i32,.int .i32,.int .i64,.int .i32,.int .i32,.int .i64,.int .i32,.int .i32,.int .i64,.int .i32,.int .i32,.int .i64,.int .i32,.int .i32,.int .i64,.int .i32,.int .i32,.int .i64,.int .i32,.int .i32,.int .i64,.int .i32,.int .i32,.int .i64,.int .i32,.int .i32,.int .i64]
 | 16=>[.int .i32,.int .i32,.int .i64]
 | 17=>[.str]
 | 18=>[.sl 0]
 | 19=>[.sl 10]
 | 20=>[.sl 4]
 | 21=>[.sl 5]
 | 22=>[.sl 8]
 | 23=>[.sl 2]
 | 24=>[.int .i64,.int .i64,.int .i64,.sl 1,.int .i64,.int .i64,.sl 1]
 | 25=>[.sptr 24,.int .i64]
 | 26=>[.sptr 24]
 | 27=>[.sl 25]
 | 28=>[.mp 0 1]
 | 29=>[.mp 0 0]
 | 30=>[.mp 0 7]
 | 31=>[.sl 18]
 | 32=>[.mp 0 2]
 | 33=>[.int .i64,.sl 0,.any,.any]
 | 34=>[.sl 33]
 | 35=>[.int .i64,.sl 0,.sl 18,.sl 0]
 | 36=>[.sl 35]
 | 37=>[.int .i64,.int .i64]
 | 38=>[.mp 37 7]
 | 39=>[.int .i64,.sl 0,.sl 18,.sl 0]
 | 40=>[.sl 39]
 | 41=>[.int .i64,.int .i64]
 | 42=>[.sl 41]
 | 43=>[.int .i64,.int .i64,.int .i64,.int .i64]
 | 44=>[.mp 41 43]
 | 45=>[.mp 0 4]
 | 46=>[.mp 0 5]
 | 47=>[.mp 0 8]
 | 48=>[.sl 43]
 | _=>[]
abbrev kAg: Nat->Bool
 | 1=>true
 | 3=>true
 | 4=>true
 | 5=>true
 | 6=>true
 | 8=>true
 | 9=>true
 | 10=>true
 | 11=>true
 | 13=>true
 | 15=>true
 | 16=>true
 | 24=>true
 | 25=>true
 | 33=>true
 | 35=>true
 | 37=>true
 | 39=>true
 | 41=>true
 | 43=>true
 | _=>false
instance iD: iW:=⟨aRu,aRv,kAg⟩
def kPk: ∀k,SF (aRv k)->aRu k
 | 0,p=>p.1
 | 1,p=>⟨p.1,p.2.1⟩
 | 2,p=>p.1
 | 3,p=>⟨p.1,p.2.1,p.2.2.1,p.2.2.2.1⟩
 | 4,p=>⟨p.1,⟨p.2.1,p.2.2.1⟩⟩
 | 5,p=>⟨p.1,p.2.1,p.2.2.1,p.2.2.2.1,p.2.2.2.2.1,p.2.2.2.2.2.1⟩
 | 6,p=>⟨p.1,p.2.1,p.2.2.1⟩
 | 7,p=>p.1
 | 8,p=>⟨p.1,p.2.1,p.2.2.1,p.2.2.2.1,p.2.2.2.2.1⟩
 | 9,p=>⟨⟨p.1,p.2.1,p.2.2.1⟩,p.2.2.2.1⟩
 | 10,p=>⟨p.1,p.2.1,p.2.2.1,p.2.2.2.1,p.2.2.2.2.1,⟨p.2.2.2.2.2.1,p.2.2.2.2.2.2.1⟩,p.2.2.2.2.2.2.2.1,p.2.2.2.2.2.2.2.2.1,p.2.2.2.2.2.2.2.2.2.1⟩
 | 11,p=>⟨p.1,p.2.1,p.2.2.1,p.2.2.2.1,p.2.2.2.2.1⟩
 | 12,p=>p.1
 | 13,p=>⟨⟨⟨p.1,p.2.1,p.2.2.1⟩,p.2.2.2.1⟩,p.2.2.2.2.1⟩
 | 14,p=>p.1
 | 15,p=>⟨⟨p.1,p.2.1,p.2.2.1⟩,⟨p.2.2.2.1,p.2.2.2.2.1,p.2.2.2.2.2.1⟩,⟨p.2.2.2.2.2.2.1,p.2.2.2.2.2.2.2.1,p.2.2.2.2.2.2.2.2.1⟩,⟨p.2.2.2.2.2.2.2.2.2.1,p.2.2.2.2.2.2.2.2.2.2.1,p.2.2.2.2.2.2.2.2.2.2.2.1⟩,⟨p.2.2.2.2.2.2.2.2.2.2.2.2.1,p.2.2.2.2.2.2.2.2.2.2.2.2.2.1,p.2.2.2.2.2.2.2.2.2.2.2.2.2.2.1⟩,⟨p.2.2.2.2.2.2.2.2.2.2.2.2.2.2.2.1,p.2.2.2.2.2.2.2.2.2.2.2.2.2.2.2.2.1,p.2.2.2.2.2.2.2.2.2.2.2.2.2.2.2.2.2.1⟩,⟨p.2.2.2.2.2.2.2.2.2.2.2.2.2.2.2.2.2.2.1,p.2.2.2.2.2.2.2.2.2.2.2.2.2.2.2.2.2.2.2.1,p.2.2.2.2.2.2.2.2.2.2.2.2.2.2.2.2.2.2.2.2.1⟩,⟨p.2.2.2.2.2.2.2.2.2.2.2.2.2.2.2.2.2.2.2.2.2.1,p.2.2.2.2.2.2.2.2.2.2.2.2.2.2.2.2.2.2.2.2.2.2.1,p.2.2.2.2.2.2.2.2.2.2.2.2.2.2.2.2.2.2.2.2.2.2.2.1⟩,⟨p.2.2.2.2.2.2.2.2.2.2.2.2.2.2.2.2.2.2.2.2.2.2.2.2.1,p.2.2.2.2.2.2.2.2.2.2.2.2.2.2.2.2.2.2.2.2.2.2.2.2.2.1,p.2.2.2.2.2.2.2.2.2.2.2.2.2.2.2.2.2.2.2.2.2.2.2.2.2.2.1⟩,⟨p.2.2.2.2.2.2.2.2.2.2.2.2.2.2.2.2.2.2.2.2.2.2.2.2.2.2.2.1,p.2.2.2.2.2.2.2.2.2.2.2.2.2.2.2.2.2.2.2.2.2.2.2.2.2.2.2.2.1,p.2.2.2.2.2.2.2.2.2.2.2.2.2.2.2.2.2.2.2.2.2.2.2.2.2.2.2.2.2.1⟩,⟨p.2.2.2.2.2.2.2.2.2.2.2.2.2.2.2.2.2.2.2.2.2.2.2.2.2.2.2.2.2.2.1,p.2.2.2.2.2.2.2.2.2.2.2.2.2.2.2.2.2.2.2.2.2.2.2.2.2.2.2.2.2.2.2.1,p.2.2.2.2.2.2.2.2.2.2.2.2.2.2.2.2.2.2.2.2.2.2.2.2.2.2.2.2.2.2.2.2.1⟩,⟨p.2.2.2.2.2.2.2.2.2.2.2.2.2.2.2.2.2.2.2.2.2.2.2.2.2.2.2.2.2.2.2.2.2.1,p.2.2.2.2.2.2.2.2.2.2.2.2.2.2.2.2.2.2.2.2.2.2.2.2.2.2.2.2.2.2.2.2.2.2.1,p.2.2.2.2.2.2.2.2.2.2.2.2.2.2.2.2.2.2.2.2.2.2.2.2.2.2.2.2.2.2.2.2.2.2.2.1⟩,⟨p.2.2.2.2.2.2.2.2.2.2.2.2.2.2.2.2.2.2.2.2.2.2.2.2.2.2.2.2.2.2.2.2.2.2.2.2.1,p.2.2.2.2.2.2.2.2.2.2.2.2.2.2.2.2.2.2.2.2.2.2.2.2.2.2.2.2.2.2.2.2.2.2.2.2.2.1,p.2.2.2.2.2.2.2.2.2.2.2.2.2.2.2.2.2.2.2.2.2.2.2.2.2.2.2.2.2.2.2.2.2.2.2.2.2.2.1⟩⟩
 | 16,p=>⟨p.1,p.2.1,p.2.2.1⟩
 | 17,p=>p.1
 | 18,p=>p.1
 | 19,p=>p.1
 | 20,p=>p.1
 | 21,p=>p.1
 | 22,p=>p.1
 | 23,p=>p.1
 | 24,p=>⟨⟨p.1,p.2.1,p.2.2.1,p.2.2.2.1,p.2.2.2.2.1,p.2.2.2.2.2.1⟩,p.2.2.2.2.2.2.1⟩
 | 25,p=>⟨p.1,p.2.1⟩
 | 26,p=>p.1
 | 27,p=>p.1
 | 28,p=>p.1
 | 29,p=>p.1
 | 30,p=>p.1
 | 31,p=>p.1
 | 32,p=>p.1
 | 33,p=>⟨p.1,p.2.1,p.2.2.1,p.2.2.2.1⟩
 | 34,p=>p.1
 | 35,p=>⟨p.1,p.2.1,p.2.2.1,p.2.2.2.1⟩
 | 36,p=>p.1
 | 37,p=>⟨p.1,p.2.1⟩
 | 38,p=>p.1
 | 39,p=>⟨p.1,p.2.1,p.2.2.1,p.2.2.2.1⟩
 | 40,p=>p.1
 | 41,p=>⟨p.1,p.2.1⟩
 | 42,p=>p.1
 | 43,p=>⟨p.1,p.2.1,p.2.2.1,p.2.2.2.1⟩
 | 44,p=>p.1
 | 45,p=>p.1
 | 46,p=>p.1
 | 47,p=>p.1
 | 48,p=>p.1
 | _+49,_=>()
def kUn: ∀k,aRu k->SF (aRv k)
 | 0,x=>(x,())
 | 1,x=>(x.X,x.Y,())
 | 2,x=>(x,())
 | 3,x=>(x.X0,x.Y0,x.X1,x.Y1,())
 | 4,x=>(x.ID,x.At.X,x.At.Y,())
 | 5,x=>(x.ID,x.From,x.To,x.Via,x.Left,x.Right,())
 | 6,x=>(x.Nodes,x.Arcs,x.Faces,())
 | 7,x=>(x,())
 | 8,x=>(x.ID,x.Kind,x.Class,x.Name,x.Parts,())
 | 9,x=>(x.Plan.Nodes,x.Plan.Arcs,x.Plan.Faces,x.Features,())
 | 10,x=>(x.Kind,x.ID,x.A,x.B,x.C,x.At.X,x.At.Y,x.Via,x.Name,x.Parts,())
 | 11,x=>(x.Office,x.Seq,x.Time,x.Source,x.Edits,())
 | 12,x=>(x,())
 | 13,x=>(x.Survey.Plan.Nodes,x.Survey.Plan.Arcs,x.Survey.Plan.Faces,x.Survey.Features,x.Txns,())
 | 14,x=>(x,())
 | 15,x=>(x.e0.first,x.e0.last,x.e0.script,x.e1.first,x.e1.last,x.e1.script,x.e2.first,x.e2.last,x.e2.script,x.e3.first,x.e3.last,x.e3.script,x.e4.first,x.e4.last,x.e4.script,x.e5.first,x.e5.last,x.e5.script,x.e6.first,x.e6.last,x.e6.script,x.e7.first,x.e7.last,x.e7.script,x.e8.first,x.e8.last,x.e8.script,x.e9.first,x.e9.last,x.e9.script,x.e10.first,x.e10.last,x.e10.script,x.e11.first,x.e11.last,x.e11.script,x.e12.first,x.e12.last,x.e12.script,())
 | 16,x=>(x.first,x.last,x.script,())
 | 17,x=>(x,())
 | 18,x=>(x,())
 | 19,x=>(x,())
 | 20,x=>(x,())
 | 21,x=>(x,())
 | 22,x=>(x,())
 | 23,x=>(x,())
 | 24,x=>(x.Arc.ID,x.Arc.From,x.Arc.To,x.Arc.Via,x.Arc.Left,x.Arc.Right,x.path,())
 | 25,x=>(x.line,x.at_,())
 | 26,x=>(x,())
 | 27,x=>(x,())
 | 28,x=>(x,())
 | 29,x=>(x,())
 | 30,x=>(x,())
 | 31,x=>(x,())
 | 32,x=>(x,())
 | 33,x=>(x.twice,x.outer,x.inner,x.alone,())
 | 34,x=>(x,())
 | 35,x=>(x.twice,x.outer,x.inner,x.alone,())
 | 36,x=>(x,())
 | 37,x=>(x.e0,x.e1,())
 | 38,x=>(x,())
 | 39,x=>(x.Face,x.Outer,x.Inner,x.Alone,())
 | 40,x=>(x,())
 | 41,x=>(x.kind,x.id,())
 | 42,x=>(x,())
 | 43,x=>(x.Kind,x.ID,x.Made,x.Changed,())
 | 44,x=>(x,())
 | 45,x=>(x,())
 | 46,x=>(x,())
 | 47,x=>(x,())
 | 48,x=>(x,())
 | _+49,_=>()
theorem kUP: ∀k p,kUn k (kPk k p)=p
 | 0,p=>rfl
 | 1,p=>rfl
 | 2,p=>rfl
 | 3,p=>rfl
 | 4,p=>rfl
 | 5,p=>rfl
 | 6,p=>rfl
 | 7,p=>rfl
 | 8,p=>rfl
 | 9,p=>rfl
 | 10,p=>rfl
 | 11,p=>rfl
 | 12,p=>rfl
 | 13,p=>rfl
 | 14,p=>rfl
 | 15,p=>rfl
 | 16,p=>rfl
 | 17,p=>rfl
 | 18,p=>rfl
 | 19,p=>rfl
 | 20,p=>rfl
 | 21,p=>rfl
 | 22,p=>rfl
 | 23,p=>rfl
 | 24,p=>rfl
 | 25,p=>rfl
 | 26,p=>rfl
 | 27,p=>rfl
 | 28,p=>rfl
 | 29,p=>rfl
 | 30,p=>rfl
 | 31,p=>rfl
 | 32,p=>rfl
 | 33,p=>rfl
 | 34,p=>rfl
 | 35,p=>rfl
 | 36,p=>rfl
 | 37,p=>rfl
 | 38,p=>rfl
 | 39,p=>rfl
 | 40,p=>rfl
 | 41,p=>rfl
 | 42,p=>rfl
 | 43,p=>rfl
 | 44,p=>rfl
 | 45,p=>rfl
 | 46,p=>rfl
 | 47,p=>rfl
 | 48,p=>rfl
 | _+49,_=>rfl
instance iR: dQ:=⟨kPk,kUn,kUP⟩
open iW (den)
theorem fF(a b:Int): aR PP (Op.equalIn 9999 3 (.int .i64 a) (.int .i64 b))=some (a==b):=by kernel_rfl
theorem aCc(a0 b0 a1 b1:Int): aR PP (Op.equalIn 10000 53 (.agg #[.int .i64 a0,.int .i64 a1]) (.agg #[.int .i64 b0,.int .i64 b1]))=some (a0==b0&&a1==b1):=by
 have p0:∀x0 x1:Value,aR PP (part 3 #[x0,x1] 0)=some x0:=by intro x0 x1;kernel_rfl
 have p1:∀x0 x1:Value,aR PP (part 3 #[x0,x1] 1)=some x1:=by intro x0 x1;kernel_rfl
 have h1:aR PP (underlying 53)=some (.struct #[{ name:= "X",type:=3,offset:=0,embedded:=false,tag:= "",pkgPath:= "",byteOffset:=0 },{ name:= "Y",type:=3,offset:=1,embedded:=false,tag:= "",pkgPath:= "",byteOffset:=8 }]):=by kernel_rfl
 have h5:aR PP program=some PP:=rfl
 have h6:Program.stoodInHeld PP 53=false:=by kernel_rfl
 have n0:¬("X"= "_"):=by decide
 have n1:¬("Y"= "_"):=by decide
 rw[Op.equalIn]
 simp only[bN,h1,ZQ,h5,h6,Zm,Z4,Xp,Xm,Xw,n0,n1,XT,Yz,Zy,p0,p1,fF,bW]
 cases e0:(a0==b0)
 .rfl
 simp only[YP,Zm,Z4,bW,ZQ,bN,p0,p1,fF,n0,n1,XT,Yz,Zy]
 cases e1:(a1==b1)<;>rfl
theorem aR9(x y:Aaa): decide (x=y)=(x.X==y.X&&x.Y==y.Y):=by
 rw[Xn]
 simp only[Z3,Zd,ZI]
 constructor
 .rintro rfl;simp
 .obtain⟨_,_⟩:=x;obtain⟨_,_⟩:=y;simp only[Aaa.mk.injEq];intro h;simp only[h,Y3]
theorem aCd(a0 b0 a1 b1 a2 b2 a3 b3:Int): aR PP (Op.equalIn 10000 50 (.agg #[.int .i64 a0,.int .i64 a1,.int .i64 a2,.int .i64 a3]) (.agg #[.int .i64 b0,.int .i64 b1,.int .i64 b2,.int .i64 b3]))=some (a0==b0&&(a1==b1&&(a2==b2&&a3==b3))):=by
 have p0:∀x0 x1 x2 x3:Value,aR PP (part 3 #[x0,x1,x2,x3] 0)=some x0:=by intro x0 x1 x2 x3;kernel_rfl
 have p1:∀x0 x1 x2 x3:Value,aR PP (part 3 #[x0,x1,x2,x3] 1)=some x1:=by intro x0 x1 x2 x3;kernel_rfl
 have p2:∀x0 x1 x2 x3:Value,aR PP (part 3 #[x0,x1,x2,x3] 2)=some x2:=by intro x0 x1 x2 x3;kernel_rfl
 have p3:∀x0 x1 x2 x3:Value,aR PP (part 3 #[x0,x1,x2,x3] 3)=some x3:=by intro x0 x1 x2 x3;kernel_rfl
 have h1:aR PP (underlying 50)=some (.struct #[{ name:= "Kind",type:=3,offset:=0,embedded:=false,tag:= "",pkgPath:= "",byteOffset:=0 },{ name:= "ID",type:=3,offset:=1,embedded:=false,tag:= "",pkgPath:= "",byteOffset:=8 },{ name:= "Made",type:=3,offset:=2,embedded:=false,tag:= "",pkgPath:= "",byteOffset:=16 },{ name:= "Changed",type:=3,offset:=3,embedded:=false,tag:= "",pkgPath:= "",byteOffset:=24 }]):=by kernel_rfl
 have h5:aR PP program=some PP:=rfl
 have h6:Program.stoodInHeld PP 50=false:=by kernel_rfl
 have n0:¬("Kind"= "_"):=by decide
 have n1:¬("ID"= "_"):=by decide
 have n2:¬("Made"= "_"):=by decide
 have n3:¬("Changed"= "_"):=by decide
 rw[Op.equalIn]
 simp only[bN,h1,ZQ,h5,h6,Zm,Z4,Xp,Xm,Xw,n0,n1,n2,n3,XT,Yz,Zy,p0,p1,p2,p3,fF,bW]
 cases e0:(a0==b0)
 .rfl
 simp only[YP,Zm,Z4,bW,ZQ,bN,p0,p1,p2,p3,fF,n0,n1,n2,n3,XT,Yz,Zy]
 cases e1:(a1==b1)
 .rfl
 simp only[YP,Zm,Z4,bW,ZQ,bN,p0,p1,p2,p3,fF,n0,n1,n2,n3,XT,Yz,Zy]
 cases e2:(a2==b2)
 .rfl
 simp only[YP,Zm,Z4,bW,ZQ,bN,p0,p1,p2,p3,fF,n0,n1,n2,n3,XT,Yz,Zy]
 cases e3:(a3==b3)<;>rfl
theorem aRA(x y:Aac): decide (x=y)=(x.Kind==y.Kind&&(x.ID==y.ID&&(x.Made==y.Made&&x.Changed==y.Changed))):=by
 rw[Xn]
 simp only[Z3,Zd,ZI]
 constructor
 .rintro rfl;simp
 .obtain⟨_,_,_,_⟩:=x;obtain⟨_,_,_,_⟩:=y;simp only[Aac.mk.injEq];intro h;simp only[h,Y3]
theorem G1(a b:Int): aR PP (Op.equalIn 9998 3 (.int .i64 a) (.int .i64 b))=some (a==b):=by kernel_rfl
theorem TK(a0 b0 a1 b1:Int): aR PP (Op.equalIn 9999 53 (.agg #[.int .i64 a0,.int .i64 a1]) (.agg #[.int .i64 b0,.int .i64 b1]))=some (a0==b0&&a1==b1):=by
 have p0:∀x0 x1:Value,aR PP (part 3 #[x0,x1] 0)=some x0:=by intro x0 x1;kernel_rfl
 have p1:∀x0 x1:Value,aR PP (part 3 #[x0,x1] 1)=some x1:=by intro x0 x1;kernel_rfl
 have h1:aR PP (underlying 53)=some (.struct #[{ name:= "X",type:=3,offset:=0,embedded:=false,tag:= "",pkgPath:= "",byteOffset:=0 },{ name:= "Y",type:=3,offset:=1,embedded:=false,tag:= "",pkgPath:= "",byteOffset:=8 }]):=by kernel_rfl
 have h5:aR PP program=some PP:=rfl
 have h6:Program.stoodInHeld PP 53=false:=by kernel_rfl
 have n0:¬("X"= "_"):=by decide
 have n1:¬("Y"= "_"):=by decide
 rw[Op.equalIn]
 simp only[bN,h1,ZQ,h5,h6,Zm,Z4,Xp,Xm,Xw,n0,n1,XT,Yz,Zy,p0,p1,G1,bW]
 cases e0:(a0==b0)
 .rfl
 simp only[YP,Zm,Z4,bW,ZQ,bN,p0,p1,G1,n0,n1,XT,Yz,Zy]
 cases e1:(a1==b1)<;>rfl
theorem aCa(a0 b0 a1 b1 a2 b2:Int): aR PP (Op.equalIn 10000 96 (.agg #[.int .i64 a0,.int .i64 a1,.int .i64 a2]) (.agg #[.int .i64 b0,.int .i64 b1,.int .i64 b2]))=some (a0==b0&&(a1==b1&&a2==b2)):=by
 have p0:∀x0 x1 x2:Value,aR PP (part 3 #[x0,x1,x2] 0)=some x0:=by intro x0 x1 x2;kernel_rfl
 have p1:∀x0 x1 x2:Value,aR PP (part 53 #[x0,x1,x2] 1)=some (.agg #[x1,x2]):=by intro x0 x1 x2;kernel_rfl
 have h1:aR PP (underlying 96)=some (.struct #[{ name:= "ID",type:=3,offset:=0,embedded:=false,tag:= "",pkgPath:= "",byteOffset:=0 },{ name:= "At",type:=53,offset:=1,embedded:=false,tag:= "",pkgPath:= "",byteOffset:=8 }]):=by kernel_rfl
 have h5:aR PP program=some PP:=rfl
 have h6:Program.stoodInHeld PP 96=false:=by kernel_rfl
 have n0:¬("ID"= "_"):=by decide
 have n1:¬("At"= "_"):=by decide
 rw[Op.equalIn]
 simp only[bN,h1,ZQ,h5,h6,Zm,Z4,Xp,Xm,Xw,n0,n1,XT,Yz,Zy,p0,p1,fF,TK,bW]
 cases e0:(a0==b0)
 .rfl
 simp only[YP,Zm,Z4,bW,ZQ,bN,p0,p1,fF,TK,n0,n1,XT,Yz,Zy]
 cases e1:(a1==b1&&a2==b2)<;>rfl
theorem aR7(x y:Aad): decide (x=y)=(x.ID==y.ID&&(x.At.X==y.At.X&&x.At.Y==y.At.Y)):=by
 rw[Xn]
 simp only[Z3,Zd,ZI]
 constructor
 .rintro rfl;simp
 .obtain⟨_,⟨_,_⟩⟩:=x;obtain⟨_,⟨_,_⟩⟩:=y;simp only[Aad.mk.injEq,Aaa.mk.injEq];intro h;simp only[h,Y3]
theorem R2(a0 b0 a1 b1:Int): aR PP (Op.equalIn 10000 149 (.agg #[.int .i64 a0,.int .i64 a1]) (.agg #[.int .i64 b0,.int .i64 b1]))=some (a0==b0&&a1==b1):=by
 have h1:aR PP (underlying 149)=some (.array 2 3):=by kernel_rfl
 have h2:aR PP (sizeOf 3)=some 1:=by kernel_rfl
 have h3:∀x y:Value,aR PP (part 3 #[x,y] 0)=some x:=by intro x y;kernel_rfl
 have h4:∀x y:Value,aR PP (part 3 #[x,y] 1)=some y:=by intro x y;kernel_rfl
 rw[Op.equalIn]
 simp only[bN,h1,ZQ,h2,Std.Legacy.Range.forIn_eq_forIn_range',Std.Legacy.Range.size,WA,Nat.add_one_sub_one,WN,List.range',Xm,Xw,YT,ZZ,Yv,h3,h4,fF,bW]
 cases h7:(a0==b0)
 .rfl
 .simp only[YP,Zm,Z4,bW,ZQ,bN,h3,h4,fF,Zy]
  cases h8:(a1==b1)<;>rfl
theorem aO5(x y:Aae): decide (x=y)=(x.e0==y.e0&&x.e1==y.e1):=by
 rw[Xn]
 simp only[Z3,Zd,ZI]
 constructor
 .rintro rfl;simp
 .obtain⟨_,_⟩:=x;obtain⟨_,_⟩:=y;simp only[Aae.mk.injEq];intro h;simp only[h,Y3]
theorem aCb(a0 b0 a1 b1:Int): aR PP (Op.equalIn 10000 83 (.agg #[.int .i64 a0,.int .i64 a1]) (.agg #[.int .i64 b0,.int .i64 b1]))=some (a0==b0&&a1==b1):=by
 have p0:∀x0 x1:Value,aR PP (part 3 #[x0,x1] 0)=some x0:=by intro x0 x1;kernel_rfl
 have p1:∀x0 x1:Value,aR PP (part 3 #[x0,x1] 1)=some x1:=by intro x0 x1;kernel_rfl
 have h1:aR PP (underlying 83)=some (.struct #[{ name:= "kind",type:=3,offset:=0,embedded:=false,tag:= "",pkgPath:= "mapsheets/txn",byteOffset:=0 },{ name:= "id",type:=3,offset:=1,embedded:=false,tag:= "",pkgPath:= "mapsheets/txn",byteOffset:=8 }]):=by kernel_rfl
 have h5:aR PP program=some PP:=rfl
 have h6:Program.stoodInHeld PP 83=false:=by kernel_rfl
 have n0:¬("kind"= "_"):=by decide
 have n1:¬("id"= "_"):=by decide
 rw[Op.equalIn]
 simp only[bN,h1,ZQ,h5,h6,Zm,Z4,Xp,Xm,Xw,n0,n1,XT,Yz,Zy,p0,p1,fF,bW]
 cases e0:(a0==b0)
 .rfl
 simp only[YP,Zm,Z4,bW,ZQ,bN,p0,p1,fF,n0,n1,XT,Yz,Zy]
 cases e1:(a1==b1)<;>rfl
theorem aR8(x y:Aab): decide (x=y)=(x.kind==y.kind&&x.id==y.id):=by
 rw[Xn]
 simp only[Z3,Zd,ZI]
 constructor
 .rintro rfl;simp
 .obtain⟨_,_⟩:=x;obtain⟨_,_⟩:=y;simp only[Aab.mk.injEq];intro h;simp only[h,Y3]
theorem gfo: ∀cf,Aa cf->Aa (Kx cf):=aR1 λvi=>(xP aKI (xP aF1 (xP aF1 (xP aF1 (xP aNC (xP IQ (xP IQ (xP IQ (xP IQ (xP IQ (xP aKJ aQT)))))))))))
instance gG: GlC PP T:=⟨⟨[⟨53,⟨⟨1,λa b=>instDecidableEqAaa a b⟩,aCe rfl rfl _ (λx y=>⟨by kernel_rfl,by kernel_rfl⟩) (λx y=>(aCc x.X y.X x.Y y.Y).trans (congrArg some (aR9 x y).symm))⟩⟩,⟨4,⟨⟨7,λa b=>instDecidableEqBool a b⟩,aRB rfl (λx=>x) (λx=>rfl) (λcf fl H x y=>by cases (x:Bool)<;>cases (y:Bool)<;>exact⟨by kernel_rfl,by kernel_rfl⟩)⟩⟩,⟨50,⟨⟨43,λa b=>instDecidableEqAac a b⟩,aCe rfl rfl _ (λx y=>⟨by kernel_rfl,by kernel_rfl⟩) (λx y=>(aCd x.Kind y.Kind x.ID y.ID x.Made y.Made x.Changed y.Changed).trans (congrArg some (aRA x y).symm))⟩⟩,⟨96,⟨⟨4,λa b=>instDecidableEqAad a b⟩,aCe rfl rfl _ (λx y=>⟨by kernel_rfl,by kernel_rfl⟩) (λx y=>(aCa x.ID y.ID x.At.X y.At.X x.At.Y y.At.Y).trans (congrArg some (aR7 x y).symm))⟩⟩],[⟨3,⟨⟨0,(inferInstance:DecidableEq Int)⟩,rfl,aOn (by kernel_rfl)⟩⟩,⟨149,⟨⟨37,λa b=>instDecidableEqAae a b⟩,rfl,aTT (λa b=>instDecidableEqAae a b) (u:=.array 2 3) (by kernel_rfl) (λk x r=>rfl) (λx y=>(R2 x.e0 y.e0 x.e1 y.e1).trans (congrArg some (aO5 x y).symm)) (λe k=>by kernel_rfl) (λk=>by show Instr.sameBits 10000 (.agg #[.int .i64 k.e0,.int .i64 k.e1]) (.agg #[.int .i64 k.e0,.int .i64 k.e1])=true;simp[Instr.sameBits])⟩⟩,⟨83,⟨⟨41,λa b=>instDecidableEqAab a b⟩,rfl,aTT (λa b=>instDecidableEqAab a b) (u:=.struct #[{ name:= "kind",type:=3,offset:=0,embedded:=false,tag:= "",pkgPath:= "mapsheets/txn",byteOffset:=0 },{ name:= "id",type:=3,offset:=1,embedded:=false,tag:= "",pkgPath:= "mapsheets/txn",byteOffset:=8 }]) (by kernel_rfl) (λk x r=>rfl) (λx y=>(aCb x.kind y.kind x.id y.id).trans (congrArg some (aR8 x y).symm)) (λe k=>by kernel_rfl) (λk=>by show Instr.sameBits 10000 (.agg #[.int .i64 k.kind,.int .i64 k.id]) (.agg #[.int .i64 k.kind,.int .i64 k.id])=true;simp[Instr.sameBits])⟩⟩],[⟨9,⟨by kernel_rfl,λs=>by kernel_rfl⟩⟩],[⟨(3,21),⟨.i32,λj a=>by kernel_rfl⟩⟩,⟨(3,127),⟨.u64,λj a=>by kernel_rfl⟩⟩,⟨(21,3),⟨.i64,λj a=>by kernel_rfl⟩⟩,⟨(127,3),⟨.i64,λj a=>by kernel_rfl⟩⟩],[⟨30,⟨.srt 43,rfl⟩⟩,⟨37,⟨.cln 10,⟨_,_,_,rfl,by decide,by decide⟩⟩⟩,⟨90,⟨.ins 4,aLE rfl⟩⟩,⟨100,⟨.ins 8,aLE rfl⟩⟩,⟨117,⟨.ins 5,aLE rfl⟩⟩,⟨131,⟨.ord 0 tE,aTB rfl (λx=>x) (λx=>rfl) rfl aNk⟩⟩,⟨148,⟨.srt 35,rfl⟩⟩,⟨150,⟨.srt 39,rfl⟩⟩,⟨156,⟨.srt 0,rfl⟩⟩,⟨163,⟨.srt 25,rfl⟩⟩],gfo⟩⟩
abbrev Lc(vi fl j:Nat):=LC PP T (O0 T vi).nt fl (lpA (O0 T vi).body j)
abbrev Ic:=IC PP T
abbrev Kn:=Con PP T
abbrev C0: List Kn:=[]
end
section
open Go.Proofs
open Go.ChangeMaps (setBlock)
open iW (den cds ag)
structure Vs(r:Option Nat)(w w':World): Prop where
 os:w'.os=w.os
 tape:w'.tape=w.tape
 output:w'.output=w.output
 drawn:w.drawn<=w'.drawn
 size:w.heap.size<=w'.heap.size
 frame:∀k,k<w.heap.size->some k≠r->w'.heap[k]?=w.heap[k]?
theorem Vs.trans{r:Option Nat}{a b c:World}(h:Vs r a b)(k:Vs r b c): Vs r a c:=
 ⟨k.os.trans h.os,k.tape.trans h.tape,k.output.trans h.output,ZB h.drawn k.drawn,ZB h.size k.size,λi hi hn=>(k.frame i (YN hi h.size) hn).trans (h.frame i hi hn)⟩
theorem Vs.refl(r:Option Nat)(a:World): Vs r a a:=⟨rfl,rfl,rfl,Zg _,Zg _,λ_ _ _=>rfl⟩
theorem Vs.of{r:Option Nat}{a b:World}(h:Vs none a b): Vs r a b:=⟨h.os,h.tape,h.output,h.drawn,h.size,λk hk _=>h.frame k hk (by simp)⟩
theorem Vs.out{r:Nat}{a b w:World}(h:Vs (some r) a b)(hw:Vs none w a)(hr:w.heap.size<=r): Vs none w b:=
 ⟨h.os.trans hw.os,h.tape.trans hw.tape,h.output.trans hw.output,ZB hw.drawn h.drawn,ZB hw.size h.size,λk hk _=>(h.frame k (YN hk hw.size) (by simp;omega)).trans (hw.frame k hk (by simp))⟩
theorem qA{fl:Nat}{c c':dE}(h:bY fl c c')(hb:∀id,c.β id=none): Vs none c.w c'.w:=
 ⟨h.os,h.tape,h.output,h.drawn,h.size,λk hk _=>h.frame k hk λid hid=>by rw[hb id] at hid;cases hid⟩
theorem gZ{w:World}{k:Nat}{o:Obj}(h:w.heap[k]?=some o): k<w.heap.size:=by
 rcases ZL k w.heap.size with h' | h'
 .exact h'
 .rw[Yd h'] at h;cases h
theorem RK(w:World)(o:Obj): Vs none w (w.alloc o):=
 ⟨rfl,rfl,rfl,Zg _,by show _<=(w.heap.push o).size;rw[XC];exact Yr _,λk hk _=>by show (w.heap.push o)[k]?=_;rw[ZW,ZG (by omega)]⟩
def sL: Code->Code
 | .seq a _=>a
 | c=>c
def sR: Code->Code
 | .seq _ b=>b
 | c=>c
def fB: Code->Array Oper
 | .region _ ops _=>ops
 | _=>#[]
def inB: Code->Code
 | .block _ c=>c
 | .loop c=>c
 | c=>c
def iH(c:Code)(i:Nat): Oper:=match (fB c)[i]? with
 | some o=>o
 | none=>default
noncomputable def sB: Code:=match Tryz.f72.body with
 | some c=>c
 | none=>.skip
noncomputable def Rg0: Code:=sL sB
noncomputable def Rg1: Code:=sL (sR sB)
noncomputable def Rg2: Code:=sL (sL (sR (sR sB)))
noncomputable def BD: Code:=inB (inB (sR (sL (sR (sR sB)))))
noncomputable def RgE: Code:=sL (sR (sR (sR sB)))
noncomputable def Rg3: Code:=sL BD
noncomputable def B4: Code:=inB (sR (sR BD))
noncomputable def T3: Code:=sL B4
noncomputable def Rg5: Code:=sL (sR B4)
noncomputable def Rg6: Code:=match sR (sR B4) with
 | .cond _ a _=>sL a
 | c=>c
theorem aTh: Tryz.f72.body=some (.seq (.region 0 (fB Rg0) false) (.seq (.region 1 (fB Rg1) false) (.seq (.seq (.region 2 (fB Rg2) false) (.block 0 (.loop BD))) (.seq (.region 7 (fB RgE) false) .ret)))):=by kernel_rfl
theorem aQo: BD=.seq (.region 3 (fB Rg3) false) (.seq (.cond (.tmp 16) .skip (.exit 0)) (.block 1 (.seq (.region 4 (fB T3) false) (.seq (.region 5 (fB Rg5) false) (.cond (.tmp 29) (.seq (.region 6 (fB Rg6) false) .ret) .skip))))):=by kernel_rfl
abbrev UV: AV:=.lit bP
theorem MH{P:Program}{ops:Array Oper}{Q:Exit->Act->World->Prop}{i:Nat}{K:Act->World->Prop}{a:Act}{w w':World}{o:Oper}{v:Value}(hi:ops[i]?=some o)(hg:o.guard=none)(hr:(execOp a.eval o).run P w=.ok (.value v) w')(hK:K (a.put o.dst v) w'): wpOp P ops Q i K a w:=by
 unfold wpOp
 rw[hi]
 simp only[Region.wanted,hg,Zy]
 left
 unfold Oper.wp
 rw[hr]
 exact hK
theorem aMY{FT:Nat->Option Nat}{c:dE}{args:List AV}{vs:Array Value}(n:Nat)(hargs:lJ FT c args vs): TR FT c (args++List.replicate (n-args.length) UV) (vs++Array.replicate (n-vs.size) undef):=by
 refine⟨by simp[hargs.1],λt x hx=>?_⟩
 rw[Yl] at hx
 rw[X3,hargs.1]
 split at hx
 .rename_i ht
  rw[Zu ht]
  exact hargs.2 t x hx
 .rename_i ht
  rw[ZG ht]
  rw[XV] at hx
  split at hx
  .rename_i hlt
   cases hx
   refine⟨undef,?_,RV.lit _⟩
   rw[XS,Zu hlt]
  .cases hx
theorem s7{FT:Nat->Option Nat}{c:dE}{tm:List AV}{a:Act}{t:Nat}{v:Value}(h:TR FT c tm a.tmps)(ht:tm[t]?=some (.lit v)): a.eval (.tmp t)=v:=by
 obtain⟨u,g1,g2⟩:=h.2 t _ ht
 rw[g2.lit_inv] at g1
 simp[Act.eval,Yg,g1]
theorem Iy{FT:Nat->Option Nat}{c:dE}(l:List Value): RV FT c (.tup (l.map .lit)) (.tuple l.toArray):=by
 refine .tup _ _ (λi=>(l[i]?).getD bP) (by simp) ?_ ?_
 .intro i x hx
  rw[Zl,Zq] at hx
  obtain⟨v,h1,rfl⟩:=hx
  simp[h1]
 .intro i x hx
  rw[Zl,Zq] at hx
  obtain⟨v,h1,rfl⟩:=hx
  show RV FT c (.lit v) ((l[i]?).getD bP)
  rw[h1]
  exact RV.lit _
theorem aDO: ∀{ents:List (Value×AV)} {l:List (Int×Int)},aAr ents=some l->ents=l.map λe=>(Value.int .i64 e.1,AV.lit (.int .i64 e.2))
 | [],l,h=>by cases h;rfl
 | (k,v)::r,l,h=>by
  unfold aAr at h
  repeat' split at h
  all_goals first | (cases h;done) | skip
  rename_i h1 _ _ _ _ h2 _ _ h3
  cases h
  have h1:k=_:=h1
  have h2:v=_:=h2
  subst h1 h2
  rw[aDO h3];rfl
theorem PH{x:AV}{l:List (Int×Int)}(h:Fd x=some l): (x=.lit (.map none)/\l=[])\/x=.rmp (l.map λe=>(Value.int .i64 e.1,AV.lit (.int .i64 e.2))):=by
 unfold Fd at h
 split at h
 .rw[aDO h];exact .inr rfl
 .repeat' split at h
  all_goals first | (cases h;done) | skip
  cases h;exact .inl ⟨rfl,rfl⟩
 .cases h
theorem aOr{x:AV}{l:List (Int×Int)}(h:Fd x=some l): Qp (.rmp 0 0 l) x:=by
 have hq:Qm (kk:=0) 0 l (l.map λe=>[AV.lit (.int .i64 e.2)]):=by
  have:∀l:List (Int×Int),Qm (kk:=0) 0 l (l.map λe=>[AV.lit (.int .i64 e.2)]):=by
   intro l
   induction l with
   | nil=>trivial
   | cons e l ih=>exact⟨⟨.lit _,trivial⟩,ih⟩
  exact this l
 rcases PH h with⟨rfl,rfl⟩ | rfl
 .exact Qp.mkM (rows:=[]) (.inl ⟨rfl,rfl⟩) trivial
 .refine Qp.mkM (.inr ?_) hq
  congr 1
  have:∀l:List (Int×Int),(l.map λe=>(Value.int .i64 e.1,AV.lit (.int .i64 e.2)))=fX (kk:=0) 0 l (l.map λe=>[AV.lit (.int .i64 e.2)]):=by
   intro l
   induction l with
   | nil=>rfl
   | cons e l ih=>show _::_=_::_;rw[ih];rfl
  exact this l
theorem aNv{cf:CF}{fl:Nat}{tm:List AV}{H:aY}{xo:AV}{old:List (Int×Int)}{k:Int}{x y:bC}(ho:Fd xo=some old)(hx:aH tm x=xo)(hy:aH tm y=iv k): aQ PP cf fl (.lookup 3 (.lit (.int .i64 0)) x y false) tm H=some (iv (sdG old k),H):=by
 have hq:Qt 2 ⟨[(0,.rmp 0 0 old),(1,.lit (.int .i64 k))],List.replicate H.length .gone⟩ ⟨[xo,iv k],H⟩:=⟨rfl,λt v hv=>(by
  match t,hv with
  | 0,hv=>cases hv;exact⟨_,rfl,.p _ _ (aOr ho)⟩
  | 1,hv=>cases hv;exact⟨_,rfl,.l _⟩
  | _+2,hv=>cases hv),aPK H⟩
 obtain⟨v,A',tv,S',h1,_,h3,h4⟩:=B5 (P:=PP) (T:=T) (cf:=cf) (n:=0) (d:=some 0) (E:=((⟨C0,[],[],[],[]⟩:En PP T 2 fl .skip).xe GlC.g)) (K:=λtv _=>some tv) (r:=.lit (.int .i64 (sdG old k)))
  (En.ok _ _) hq (kt:=3) (z:=.lit (.int .i64 0)) (m:=.tmp 0) (k:=.tmp 1) (ok:=false) (by kernel_rfl)
 rw[aPN h1] at h1
 obtain rfl:=ZE h4
 rw[h3.inL] at h1
 have e:aQ PP cf fl (.lookup 3 (.lit (.int .i64 0)) x y false) tm H=aQ PP cf fl (.lookup 3 (.lit (.int .i64 0)) (.tmp 0) (.tmp 1) false) [xo,iv k] H:=by
  simp only[aQ,hx,hy];rfl
 exact e.trans h1
def Mh(l:List (Nat×AV)): List AV:=(List.range 30).map λk=>match dD k l with
 | some x=>x
 | none=>.undef
theorem aNd{l:List (Nat×AV)}(h:∀k v,dD k l=some v->k<30): At 30 l (Mh l):=⟨by simp[Mh],λk v hk=>by
 simp only[aH,Mh,Zl,Y2 (h k v hk),Yy,hk]⟩
theorem qC{N k:Nat}{l:List (Nat×AV)}{tm:List AV}{v:AV}(h:At N l tm)(e:dD k l=some v)(hk:k<N): tm[k]?=some v:=by
 have:=h.get e
 have hlt:k<tm.length:=by rw[h.ln];exact hk
 simp only[aH,Za hlt] at this
 rw[Za hlt,this]
def cW(X0:Nat->Prop)(r:Nat)(W:World): dE:=⟨W,λb=>X0 b\/b=r,λ_=>none,[]⟩
theorem FD{X0:Nat->Prop}{r b:Nat}{W:World}: lI (cW X0 r W) b↔¬X0 b/\b≠r:=⟨λh=>⟨λk=>h.1 (.inl k),λk=>h.1 (.inr k)⟩,λh=>⟨λk=>k.elim h.1 h.2,λid h=>by cases h⟩⟩
structure LI(X0:Nat->Prop)(r:Nat)(m:Int)(xo:AV)(W:World)(a:Act): Prop where
 gl:tA (cW X0 r W)
 fr:∀k,W.heap.size<=k->¬X0 k
 hr:r<W.heap.size
 sz:a.tmps.size=30
 t2:a.tmps[2]?=some (.int .i64 m)
 t14:a.tmps[14]?=some (.pointer (some ⟨r,0,none⟩))
 t7:∃v,a.tmps[7]?=some v/\RP W (lI (cW X0 r W)) xo v
abbrev l0(m:Int)(xo:AV)(r:Nat): List (Nat×AV):=[(2,iv m),(7,xo),(14,.lit (.pointer (some ⟨r,0,none⟩)))]
theorem aAp(m:Int)(xo:AV)(r:Nat): At 30 (l0 m xo r) (Mh (l0 m xo r)):=aNd λk v h=>by
 simp only[dD] at h
 repeat' split at h
 all_goals first | cases h | skip
 all_goals (rename_i e;have:=Zc e;omega)
section
variable {X0:Nat->Prop}{r:Nat}{m:Int}{xo:AV}{W W':World}{a a':Act}
theorem LI.tr(h:LI X0 r m xo W a): TR (aL T) (cW X0 r W) (Mh (l0 m xo r)) a.tmps:=by
 refine⟨by simp[Mh,h.sz],λt x hx=>?_⟩
 have ht:t<a.tmps.size:=by
  rw[h.sz]
  rcases ZL t 30 with k | k
  .exact k
  .rw[Zz (by simpa [Mh] using k)] at hx;cases hx
 rw[h.sz] at ht
 simp only[Mh,Zl,Y2 ht,Yy,Zb] at hx
 have un:∀x:AV,x=.undef->∃v,a.tmps[t]?=some v/\RV (aL T) (cW X0 r W) x v:=λx e=>⟨_,Z9 (by rw[h.sz];exact ht),by rw[e];exact RV.undef _⟩
 simp only[dD] at hx
 split at hx
 .rename_i y hy
  subst hx
  split at hy
  .rename_i e;cases hy;rw[<-Zc e];exact⟨_,h.t2,RV.lit _⟩
  .split at hy
   .rename_i e;cases hy;rw[<-Zc e];obtain⟨v,h1,h2⟩:=h.t7;exact⟨v,h1,.pure _ _ h2⟩
   .split at hy
    .rename_i e;cases hy;rw[<-Zc e];exact⟨_,h.t14,RV.lit _⟩
    .cases hy
 .exact un x hx.symm
theorem LI.sim(h:LI X0 r m xo W a): bZ (aL T) (cW X0 r W) where
 gl:=h.gl
 inj:=λ_ _ _ h=>by cases h
 dom:=λ_ _ h=>by cases h
 nx:=λ_ _ h=>by cases h
 fresh:=λk hk e=>e.elim (h.fr k hk) λe=>by have:=h.hr;have hk:W.heap.size<=k:=hk;omega
 lens:=λid s es h=>by cases h
 blk:=λid s es b h=>by cases h
 map:=λid es b h=>by cases h
 raw:=λid q b h=>by cases h
theorem aGY(hb:Vs (some r) W W'){x:AV}{v:Value}(h:RP W (lI (cW X0 r W)) x v): RP W' (lI (cW X0 r W')) x v:=h.mono λb o hi ho=>by
 obtain⟨h1,h2⟩:=FD.1 hi
 exact⟨FD.2 ⟨h1,h2⟩,(hb.frame b (gZ ho) (by simpa using h2)).trans ho⟩
theorem LI.move(h:LI X0 r m xo W a)(hb:Vs (some r) W W')(ht:a'.tmps.size=30/\a'.tmps[2]?=a.tmps[2]?/\a'.tmps[14]?=a.tmps[14]?/\a'.tmps[7]?=a.tmps[7]?): LI X0 r m xo W' a' where
 gl:=λg cs hcs=>by
  obtain⟨cc,T,fz,vals,h1,h2,h3,h4,h5⟩:=h.gl g cs hcs
  obtain⟨k1,k2⟩:=FD.1 h1
  exact⟨cc,T,fz,vals,FD.2 ⟨k1,k2⟩,(hb.frame g (gZ h2) (by simpa using k2)).trans h2,h3,h4,λj x hx=>aGY hb (h5 j x hx)⟩
 fr:=λk hk=>h.fr k (ZB hb.size hk)
 hr:=YN h.hr hb.size
 sz:=ht.1
 t2:=ht.2.1.trans h.t2
 t14:=ht.2.2.1.trans h.t14
 t7:=by
  obtain⟨v,h1,h2⟩:=h.t7
  exact⟨v,ht.2.2.2.trans h1,aGY hb h2⟩
theorem aK1{FT:Nat->Option Nat}{c:dE}{xo:AV}{old:List (Int×Int)}{v:Value}(ho:Fd xo=some old)(h:RV FT c xo v): RP c.w (lI c) xo v:=by
 rcases PH ho with⟨rfl,_⟩ | rfl
 .rw[h.lit_inv];exact .lit _
 .cases h with
  | pure _ _ h=>exact h
theorem LI.ops{c':dE}{tm:List AV}{l:List (Nat×AV)}{old:List (Int×Int)}(h:LI X0 r m xo W a)(ho:Fd xo=some old)(hs:bY 0 (cW X0 r W) c')(hA:At 30 l tm)(ht:TR (aL T) c' tm a'.tmps)(h2:dD 2 l=some (iv m))(h7:dD 7 l=some xo)(h14:dD 14 l=some (.lit (.pointer (some ⟨r,0,none⟩)))): LI X0 r m xo c'.w a':=by
 have hb:=qA hs (λ_=>rfl)
 have base:LI X0 r m xo c'.w a:=h.move hb.of ⟨h.sz,rfl,rfl,rfl⟩
 refine { base with sz:=by rw[<-ht.1];exact hA.ln,t2:=?_,t14:=?_,t7:=?_ }
 .obtain⟨v,g1,g2⟩:=ht.2 2 _ (qC hA h2 (by decide))
  rw[g1,g2.lit_inv]
 .obtain⟨v,g1,g2⟩:=ht.2 14 _ (qC hA h14 (by decide))
  rw[g1,g2.lit_inv]
 .obtain⟨v,g1,g2⟩:=ht.2 7 _ (qC hA h7 (by decide))
  refine⟨v,g1,(aK1 ho g2).mono λb o hi hb=>⟨FD.2 ?_,hb⟩⟩
  have:=hi.1
  rw[hs.X] at this
  exact⟨λk=>this (.inl k),λk=>this (.inr k)⟩
end
def Ax(old:List (Int×Int))(m k v:Int): Bool:=!decide (k=m)&&!decide (sdG old k=v)
def Ent(e:MapEntry)(k v:Int): Prop:=e.key=.int .i64 k/\e.val=.int .i64 v
theorem aPg: ∀(j:Nat) (o:Oper),[iH T3 1,iH T3 2,iH T3 3,iH T3 4][j]?=some o->(fB T3)[1+j]?=some o:=by
 have e:(fB T3).toList.drop 1=[iH T3 1,iH T3 2,iH T3 3,iH T3 4]:=by kernel_rfl
 intro j o h
 rw[<-e,Zw,Z6] at h
 exact h
theorem LO{c:Code}{n:Nat}(e:(fB c).toList=(List.range n).map (iH c)): ∀(j:Nat) (o:Oper),((List.range n).map (iH c))[j]?=some o->(fB c)[0+j]?=some o:=by
 intro j o h
 rw[<-e,Z6] at h
 rw[ZZ];exact h
section
variable {cf:CF}{X0:Nat->Prop}{r b clk cc:Nat}{m:Int}{xo:AV}{old:List (Int×Int)}{W:World}{a:Act}{seen:Array Nat}{es:Array MapEntry}
def gop(d:Nat)(op:Ia): bU:=⟨some d,op,some (23,true)⟩
def R5: List bU:=[om 20 8,om 21 2,o1 22 (.ibin .neq (tp 20) (tp 21)),om 23 22,gop 24 (.mov (tp 7)),gop 25 (.mov (tp 8)),gop 26 (.lookup 3 (.lit (.int .i64 0)) (tp 24) (tp 25) false),gop 27 (.mov (tp 9)),gop 28 (.ibin .neq (tp 26) (tp 27)),o1 29 (.pick (tp 23) (tp 28) (.lit (.bool false)))]
theorem aDU{P:Program}{fl:Nat}{tm:List AV}{H:aY}{l:List (Nat×AV)}{N d:Nat}{op:Ia}{rs:List bU}{K:St->Prop}(h:At N l tm)(e:dD 23 l=some (.lit (.bool false)))(k:∀tm',At N ((d,.lit bP)::l) tm'->WO P cf fl rs ⟨tm',H⟩ K)(hd:Nat.blt d N=true:=by rfl): WO P cf fl (gop d op::rs) ⟨tm,H⟩ K:=by
 obtain⟨s,h1,h2⟩:=k _ (h.set hd)
 refine⟨s,?_,h2⟩
 simp only[jA,cU,gop,eW,h.get e]
 exact h1
theorem aDT{P:Program}{fl:Nat}{tm:List AV}{H H':aY}{v:AV}{l:List (Nat×AV)}{N d:Nat}{op:Ia}{rs:List bU}{K:St->Prop}(h:At N l tm)(e:dD 23 l=some (.lit (.bool true)))(ev:aQ P cf fl op tm H=some (v,H'))(k:∀tm',At N ((d,v)::l) tm'->WO P cf fl rs ⟨tm',H'⟩ K)(hd:Nat.blt d N=true:=by rfl): WO P cf fl (gop d op::rs) ⟨tm,H⟩ K:=by
 obtain⟨s,h1,h2⟩:=k _ (h.set hd)
 refine⟨s,?_,h2⟩
 simp only[jA,cU,gop,eW,h.get e,ev]
 exact h1
theorem aT0{tm:List AV}{k v:Int}(ho:Fd xo=some old)(h:At 30 ((9,iv v)::(8,iv k)::l0 m xo r) tm): WO PP cf 0 R5 ⟨tm,[]⟩ λs=>s.heap=[]/\∃l,At 30 l s.tmps/\dD 29 l=some (.lit (.bool (Ax old m k v)))/\dD 2 l=some (iv m)/\dD 7 l=some xo/\dD 14 l=some (.lit (.pointer (some ⟨r,0,none⟩))):=by
 refine AO.mov h rfl λtm h=>AO.mov h rfl λtm h=>AO.op h (Mb (v:=.bool (k != m)) (h.get rfl) (h.get rfl) rfl) λtm h=>AO.mov h rfl λtm h=>?_
 by_cases e:k=m
 .have e1:(k != m)=false:=by simp[e]
  rw[e1] at h
  refine aDU h rfl λtm h=>aDU h rfl λtm h=>aDU h rfl λtm h=>aDU h rfl λtm h=>aDU h rfl λtm h=>AO.op (v:=.lit (.bool false)) (H':=[]) h (by simp only[aQ,h.get (k:=23) rfl];rfl) λtm h=>AO.nil h ⟨rfl,_,h,?_,rfl,rfl,rfl⟩
  have:Ax old m k v=false:=by simp[Ax,e]
  rw[this];rfl
 .have e1:(k != m)=true:=by simpa using e
  rw[e1] at h
  refine aDT h rfl (v:=xo) (H':=[]) (by simp only[aQ,h.get (k:=7) rfl]) λtm h=>aDT h rfl (v:=iv k) (H':=[]) (by simp only[aQ,h.get (k:=8) rfl]) λtm h=>aDT h rfl (aNv ho (h.get rfl) (h.get rfl)) λtm h=>aDT h rfl (v:=iv v) (H':=[]) (by simp only[aQ,h.get (k:=9) rfl]) λtm h=>aDT h rfl (Mb (v:=.bool (sdG old k != v)) (h.get rfl) (h.get rfl) rfl) λtm h=>AO.op (v:=.lit (.bool (sdG old k != v))) (H':=[]) h (by simp only[aQ,h.get (k:=23) rfl,h.get (k:=28) rfl,Zy]) λtm h=>AO.nil h ⟨rfl,_,h,?_,rfl,rfl,rfl⟩
  have:Ax old m k v=(sdG old k != v):=by
   simp only[Ax,e,decide_false,X6,Ww]
   rw[Xn];simp
  rw[this];rfl
theorem aTi(hcf:Af PP T cf)(hfn:oG PP T)(ho:Fd xo=some old)(li:LI X0 r m xo W a)(hr:W.heap[r]?=some (.mapIter (some b) clk seen cc))(hb:W.heap[b]?=some (.map es clk))(hbr:b≠r)(hcc:clk<=cc)(hy:Yng es clk)(hE:∀e∈es.toList,∃k v,Ent e k v){Q:Exit->Act->World->Prop}(hEnd:∀a' W',LI X0 r m xo W' a'->Vs (some r) W W'->(leftOf es seen).size=0->a'.defers=a.defers->Q (.exit 0) a' W')(hGo:∀a' W' e k v,e∈(leftOf es seen).toList->Ent e k v->Ax old m k v=false->LI X0 r m xo W' a'->W'.heap[r]?=some (.mapIter (some b) clk (seen.push e.born) clk)->W'.heap[b]?=some (.map es clk)->Vs (some r) W W'->a'.defers=a.defers->Q .normal a' W')(hRet:∀a' W' e k v,e∈(leftOf es seen).toList->Ent e k v->Ax old m k v=true->LI X0 r m xo W' a'->a'.tmps[6]?=some (.bool true)->Vs (some r) W W'->a'.defers=a.defers->Q .ret a' W'): BD.wp PP Q a W:=by
 rw[aQo]
 refine Xs ?_
 refine Xe ?_
 show wpOps PP (fB Rg3) _ [0,1] a W
 rw[Y6]
 have ho3:(iH Rg3 0).op=.next (.tmp 14) false:=by kernel_rfl
 have hd3:(iH Rg3 0).dst=some 15:=by kernel_rfl
 have ev14:a.eval (.tmp 14)=.pointer (some ⟨r,0,none⟩):=by simp[Act.eval,Yg,li.t14]
 rcases run_next_at (P:=PP) W (iH Rg3 0).type r b clk cc seen es clk hr hb hy.1 hcc with⟨hz,hrun⟩ | ⟨e,he,w1,hw1,hrun⟩
 .refine MH (o:=iH Rg3 0) (v:=.tuple #[.bool false]) (w':=W) (by kernel_rfl) (by kernel_rfl) (by simp[execOp,ho3,ev14,hrun]) ?_
  have htr1:=TR.put (d:=some 15) li.tr (Iy (c:=cW X0 r W) [.bool false])
  have hA1:At 30 ((15,.tup [.lit (.bool false)])::l0 m xo r) (iG (Mh (l0 m xo r)) (some 15) (.tup ([.bool false].map .lit))):=(aAp m xo r).set rfl
  rw[hd3,Y6]
  have hdf:(a.put (some 15) (.tuple #[.bool false])).defers=a.defers:=iS _ _ _
  generalize a.put (some 15) (.tuple #[.bool false])=a1 at htr1 hdf |-
  generalize iG (Mh (l0 m xo r)) (some 15) (.tup ([.bool false].map .lit))=tm1 at htr1 hA1
  refine kO (fl:=0) (c:=cW X0 r W) (o:=iH Rg3 1) (ao:=o1 16 (.extract (tp 15) 0)) (st':=⟨tm1.set 16 (.lit (.bool false)),[]⟩) hcf hfn li.sim htr1 (ZF _) (by kernel_rfl) (by kernel_rfl) (by simp only[cU,eW,aQ,hA1.get (k:=15) rfl];rfl) ?_
  intro a2 c2 e2 s2 hs2 htr2 d2 _
  have hA2:=hA1.set (v:=.lit (.bool false)) (k:=16) rfl
  have l2:=li.ops ho s2 hA2 htr2 rfl rfl rfl
  show ((Code.seq (.cond (.tmp 16) .skip (.exit 0)) _)).wp PP Q a2 c2.w
  refine Xs ?_
  refine XO (s7 htr2 (t:=16) (qC hA2 rfl (by decide))) ?_
  exact wp_exit (hEnd a2 c2.w l2 (qA s2 (λ_=>rfl)).of hz (d2.trans hdf))
 .obtain⟨kk,vv,hk,hv⟩:=hE e (mem_left he).1
  have hf:w1.heap=W.heap:=by rcases hw1 with rfl | rfl<;>rfl
  refine MH (o:=iH Rg3 0) (v:=.tuple #[.bool true,e.key,e.val]) (w':=setBlock w1 r (.mapIter (some b) clk (seen.push e.born) clk)) (by kernel_rfl) (by kernel_rfl) (by simp[execOp,ho3,ev14,hrun]) ?_
  have hbut:Vs (some r) W (setBlock w1 r (.mapIter (some b) clk (seen.push e.born) clk)):=by
   refine⟨by rcases hw1 with rfl | rfl<;>rfl,by rcases hw1 with rfl | rfl<;>rfl,by rcases hw1 with rfl | rfl<;>rfl,(by rcases hw1 with rfl | rfl<;>first | exact Zg _ | exact Yr _),by simp[setBlock,hf],λk _ hk=>?_⟩
   simp only[setBlock,hf]
   rw[YC (λe=>hk (by rw[e]))]
  have hr1:(setBlock w1 r (.mapIter (some b) clk (seen.push e.born) clk)).heap[r]?=some (.mapIter (some b) clk (seen.push e.born) clk):=by
   simp only[setBlock,hf]
   rw[Array.getElem?_setIfInBounds_self_of_lt (gZ hr)]
  generalize setBlock w1 r (.mapIter (some b) clk (seen.push e.born) clk)=W1 at hbut hr1
  have hb1:W1.heap[b]?=some (.map es clk):=(hbut.frame b (gZ hb) (by simpa using hbr)).trans hb
  have li1:LI X0 r m xo W1 a:=li.move hbut ⟨li.sz,rfl,rfl,rfl⟩
  have htr1:=TR.put (d:=some 15) li1.tr (Iy (c:=cW X0 r W1) [.bool true,e.key,e.val])
  have hA1:At 30 ((15,.tup [.lit (.bool true),.lit e.key,.lit e.val])::l0 m xo r) (iG (Mh (l0 m xo r)) (some 15) (.tup ([.bool true,e.key,e.val].map .lit))):=(aAp m xo r).set rfl
  rw[hd3,Y6]
  have hdf:(a.put (some 15) (.tuple #[.bool true,e.key,e.val])).defers=a.defers:=iS _ _ _
  show wpOp PP (fB Rg3) _ 1 _ (a.put (some 15) (.tuple [.bool true,e.key,e.val].toArray)) W1
  replace hdf:(a.put (some 15) (.tuple [.bool true,e.key,e.val].toArray)).defers=a.defers:=hdf
  generalize a.put (some 15) (.tuple [.bool true,e.key,e.val].toArray)=a1 at htr1 hdf |-
  generalize iG (Mh (l0 m xo r)) (some 15) (.tup ([.bool true,e.key,e.val].map .lit))=tm1 at htr1 hA1
  refine kO (fl:=0) (c:=cW X0 r W1) (o:=iH Rg3 1) (ao:=o1 16 (.extract (tp 15) 0)) (st':=⟨tm1.set 16 (.lit (.bool true)),[]⟩) hcf hfn li1.sim htr1 (ZF _) (by kernel_rfl) (by kernel_rfl) (by simp only[cU,eW,aQ,hA1.get (k:=15) rfl];rfl) ?_
  intro a2 c2 e2 s2 hs2 htr2 d2 _
  have hA2:=hA1.set (v:=.lit (.bool true)) (k:=16) rfl
  have l2:=li1.ops ho s2 hA2 htr2 rfl rfl rfl
  have b2:=qA s2 (λ_=>rfl)
  show ((Code.seq (.cond (.tmp 16) .skip (.exit 0)) _)).wp PP Q a2 c2.w
  refine Xs ?_
  refine Wg (s7 htr2 (t:=16) (qC hA2 rfl (by decide))) ?_
  refine W5 ?_
  refine WJ ?_
  refine Xs ?_
  refine Xe ?_
  show wpOps PP (fB T3) _ [0,1,2,3,4] a2 c2.w
  rw[Y6]
  have hr2:=(b2.frame r (gZ hr1) (by simp)).trans hr1
  have hb2:=(b2.frame b (gZ hb1) (by simp)).trans hb1
  have hen:=run_entry_at (P:=PP) c2.w r b clk seen es clk e hr2 hb2 (mem_left he).1 hy.2
  have ho4:(iH T3 0).op=.entry (.tmp 14):=by kernel_rfl
  have ev2:a2.eval (.tmp 14)=.pointer (some ⟨r,0,none⟩):=by simp[Act.eval,Yg,l2.t14]
  refine MH (o:=iH T3 0) (v:=.tuple #[e.key,e.val]) (w':=c2.w) (by kernel_rfl) (by kernel_rfl) (by simp[execOp,ho4,ev2,hen]) ?_
  have hd4:(iH T3 0).dst=some 17:=by kernel_rfl
  rw[hd4]
  have htr3:=TR.put (d:=some 17) l2.tr (Iy (c:=cW X0 r c2.w) [e.key,e.val])
  have hA3:At 30 ((17,.tup [.lit e.key,.lit e.val])::l0 m xo r) (iG (Mh (l0 m xo r)) (some 17) (.tup ([e.key,e.val].map .lit))):=(aAp m xo r).set rfl
  have hdf3:(a2.put (some 17) (.tuple [e.key,e.val].toArray)).defers=a2.defers:=iS _ _ _
  show wpOps PP (fB T3) _ (List.range' 1 4) (a2.put (some 17) (.tuple [e.key,e.val].toArray)) c2.w
  generalize a2.put (some 17) (.tuple [e.key,e.val].toArray)=a3 at htr3 hdf3 |-
  generalize iG (Mh (l0 m xo r)) (some 17) (.tup ([e.key,e.val].map .lit))=tm3 at htr3 hA3
  have li2:LI X0 r m xo c2.w a2:=l2
  obtain⟨s4,ev4,h4,l4,hA4,q2,q7,q8,q9,q14⟩:WO PP cf 0 [o1 18 (.extract (tp 17) 0),o1 19 (.extract (tp 17) 1),om 8 18,om 9 19] ⟨tm3,[]⟩ λs=>s.heap=[]/\∃l,At 30 l s.tmps/\dD 2 l=some (iv m)/\dD 7 l=some xo/\dD 8 l=some (iv kk)/\dD 9 l=some (iv vv)/\dD 14 l=some (.lit (.pointer (some ⟨r,0,none⟩))):=by
   rw[hk,hv] at hA3
   exact AO.op (v:=iv kk) (H':=[]) hA3 (by simp only[aQ,hA3.get (k:=17) rfl];rfl) λtm h=>AO.op (v:=iv vv) (H':=[]) h (by simp only[aQ,h.get (k:=17) rfl];rfl) λtm h=>AO.mov h rfl λtm h=>AO.mov h rfl λtm h=>AO.nil h ⟨rfl,_,h,rfl,rfl,rfl,rfl,rfl⟩
  refine Be (ops:=fB T3) (fl:=0) hcf hfn [o1 18 (.extract (tp 17) 0),o1 19 (.extract (tp 17) 1),om 8 18,om 9 19] [iH T3 1,iH T3 2,iH T3 3,iH T3 4] 1 (cW X0 r c2.w) a3 tm3 s4 (by kernel_rfl) aPg li2.sim htr3 (ZF _) ev4 ?_
  intro a4 c4 e4 s44 hs4 htr4 d4
  have l44:=li2.ops ho s44 hA4 htr4 q2 q7 q14
  have b4:=qA s44 (λ_=>rfl)
  show (Code.seq (.region 5 (fB Rg5) false) _).wp PP _ a4 c4.w
  refine Xs ?_
  refine Xe ?_
  show wpOps PP (fB Rg5) _ (List.range' 0 10) a4 c4.w
  have hA5:At 30 ((9,iv vv)::(8,iv kk)::l0 m xo r) s4.tmps:=.cons (hA4.get q9) (.cons (hA4.get q8) (.cons (hA4.get q2) (.cons (hA4.get q7) (.cons (hA4.get q14) ⟨hA4.ln,λ_ _ h=>by cases h⟩))))
  have e44:c4.H=[]:=by rw[e4,h4]
  obtain⟨s5,ev5,h5,l5,hA55,p29,p2,p7,p14⟩:=aT0 (cf:=cf) ho hA5
  refine Be (ops:=fB Rg5) (fl:=0) hcf hfn R5 ((List.range 10).map (iH Rg5)) 0 c4 a4 s4.tmps s5 (by kernel_rfl) (LO (by kernel_rfl)) hs4 htr4 (ZF _) (by rw[e44];exact ev5) ?_
  intro a5 c5 e5 s55 hs5 htr5 d5
  have s45:=s44.trans s55
  have l55:=li2.ops ho s45 hA55 htr5 p2 p7 p14
  have b5:=qA s45 (λ_=>rfl)
  have tot:Vs (some r) W c5.w:=hbut.trans (b2.of.trans b5.of)
  have hdd:a5.defers=a.defers:=d5.trans (d4.trans (hdf3.trans (d2.trans hdf)))
  show (Code.cond (.tmp 29) _ _).wp PP _ a5 c5.w
  cases hbad:Ax old m kk vv with
  | false=>
   rw[hbad] at p29
   refine XO (s7 htr5 (t:=29) (qC hA55 p29 (by decide))) ?_
   refine W5 ?_
   exact hGo a5 c5.w e kk vv he ⟨hk,hv⟩ hbad l55 ((b5.frame r (gZ hr2) (by simp)).trans hr2) ((b5.frame b (gZ hb2) (by simp)).trans hb2) tot hdd
  | true=>
   rw[hbad] at p29
   refine Wg (s7 htr5 (t:=29) (qC hA55 p29 (by decide))) ?_
   refine Xs ?_
   refine Xe ?_
   show wpOps PP (fB Rg6) _ (List.range' 0 1) a5 c5.w
   have e55:c5.H=[]:=by rw[e5,h5]
   refine Be (ops:=fB Rg6) (fl:=0) hcf hfn [o1 6 (.mov (.lit (.bool true)))] ((List.range 1).map (iH Rg6)) 0 c5 a5 s5.tmps ⟨s5.tmps.set 6 (.lit (.bool true)),[]⟩ (by kernel_rfl) (LO (by kernel_rfl)) hs5 htr5 (ZF _) (by rw[e55];rfl) ?_
   intro a6 c6 e6 s66 hs6 htr6 d6
   have s46:=s45.trans s66
   have hA6:=hA55.set (v:=.lit (.bool true)) (k:=6) rfl
   have l66:=li2.ops ho s46 hA6 htr6 p2 p7 p14
   have b6:=qA s46 (λ_=>rfl)
   refine wp_ret ?_
   obtain⟨u,g1,g2⟩:=htr6.2 6 _ (qC hA6 rfl (by decide))
   exact hRet a6 c6.w e kk vv he ⟨hk,hv⟩ hbad l66 (by rw[g1,g2.lit_inv]) (hbut.trans (b2.of.trans b6.of)) (d6.trans hdd)
theorem V9(hcf:Af PP T cf)(hfn:oG PP T)(ho:Fd xo=some old)(hbr:b≠r)(hy:Yng es clk)(hE:∀e∈es.toList,∃k v,Ent e k v){Q:Exit->Act->World->Prop}{W0:World}{ds:List Deferred}(hEnd:∀a' W',LI X0 r m xo W' a'->Vs (some r) W0 W'->(∀e∈es.toList,∀k v,Ent e k v->Ax old m k v=false)->a'.defers=ds->Q (.exit 0) a' W')(hRet:∀a' W' e k v,e∈es.toList->Ent e k v->Ax old m k v=true->LI X0 r m xo W' a'->a'.tmps[6]?=some (.bool true)->Vs (some r) W0 W'->a'.defers=ds->Q .ret a' W'):
 ∀(n:Nat) (seen:Array Nat) (cc:Nat) (W:World) (a:Act),(leftOf es seen).size<n->LI X0 r m xo W a->W.heap[r]?=some (.mapIter (some b) clk seen cc)->W.heap[b]?=some (.map es clk)->clk<=cc->Vs (some r) W0 W->a.defers=ds->(∀e∈es.toList,seen.contains e.born=true->∀k v,Ent e k v->Ax old m k v=false)->Code.rounds PP BD Q n a W
 | 0,_,_,_,_,h,_,_,_,_,_,_,_=>by omega
 | n+1,seen,cc,W,a,hn,li,hr,hb,hcc,hW,hd,hs=>by
  rw[rounds_succ]
  refine aTi hcf hfn ho li hr hb hbr hcc hy hE (λa' W' l1 b1 hz d1=>?_) (λa' W' e k v he hv hg l1 h1 h2 b1 d1=>?_) (λa' W' e k v he hv hg l1 h1 b1 d1=>?_)
  .exact hEnd a' W' l1 (hW.trans b1) (λe he k v hk=>hs e he (all_seen es seen hz e he) k v hk) (d1.trans hd)
  .refine V9 hcf hfn ho hbr hy hE hEnd hRet n (seen.push e.born) clk W' a' (by have:=left_shrinks es seen e he;omega) l1 h1 h2 (Zg _) (hW.trans b1) (d1.trans hd) λx hx hc k' v' hk=>?_
   rw[contains_push] at hc
   rcases YX _ _▸hc with hc | hc
   .exact hs x hx hc k' v' hk
   .have e1:x=e:=born_inj hy.2 hx (mem_left he).1 (by simpa using hc)
    subst e1
    obtain⟨p1,p2⟩:=hk
    obtain⟨q1,q2⟩:=hv
    rw[q1] at p1;rw[q2] at p2
    cases p1;cases p2;exact hg
  .exact hRet a' W' e k v (mem_left he).1 hv hg l1 h1 (hW.trans b1) (d1.trans hd)
end
theorem AX(H H':aY)(x:AV): dF H' (dF H x)=dF H x:=by
 cases x with
 | lit v=>
  have hor:rS v=.lit v\/rS v=.sl false []:=by
   unfold rS
   repeat' split
   all_goals first | exact .inl rfl | exact .inr rfl
  rcases hor with e | e
  .simp only[dF,e]
  .simp only[dF,e]
 | ms id tot off len=>
  have e:dF H (.ms id tot off len)=match rd H (.ms id tot off len) with | some es=>.vw (es.map λe=>e.map Ek) | none=>.undef:=rfl
  rw[e]
  cases rd H (.ms id tot off len)<;>rfl
 | fn vi caps=>cases caps<;>rfl
 | _=>rfl
theorem aMX{FT:Nat->Option Nat}{c:dE}{tm:List AV}{tv:Array Value}{k:Nat}{v:Value}(h:TR FT c tm tv)(hv:tv[k]?=some v): TR FT c (tm.set k (.lit v)) tv:=by
 refine⟨by rw[Yq];exact h.1,λt x hx=>?_⟩
 rw[Z8] at hx
 split at hx
 .rename_i e
  subst e
  split at hx
  .cases hx;exact⟨v,hv,RV.lit _⟩
  .cases hx
 .exact h.2 t x hx
theorem aBb{old:List (Int×Int)}{m:Int}: ∀new:List (Int×Int),sdB old m new=true↔∃e∈new,Ax old m e.1 e.2=true
 | []=>by simp[sdB]
 | e::l=>by
  have ih:=aBb (old:=old) (m:=m) l
  show (match Ax old m e.1 e.2 with | true=>true | false=>sdB old m l)=true↔_
  cases h:Ax old m e.1 e.2 with
  | true=>simp[h]
  | false=>simp[h,ih]
theorem aQ5{W:World}{a:Act}{x:Bool}{c:dE}{tm:List AV}(hs:bZ (aL T) c)(hH:c.H=[])(hw:c.w=W)(h:TR (aL T) c tm a.tmps)(hl:tm.length=30)(h6:a.tmps[6]?=some (.bool x)): (results Tryz.f72 a.tmps).run PP W=.ok (.bool x) W:=by
 have h':=aMX h h6
 have ha:lH ⟨tm.set 6 (.lit (.bool x)),[]⟩ [.tmp 6]=some [.lit (.bool x)]:=by
  simp only[lH,Pv,aH,Z7 (by rw[hl];decide:6<tm.length)]
 obtain⟨v,q1,q2⟩:=SO (P:=PP) (fn:=Tryz.f72) (rs:=[.tmp 6]) (vs:=[.lit (.bool x)]) (st:=⟨tm.set 6 (.lit (.bool x)),[]⟩) hs hH h' (by kernel_rfl) ha
 rw[hw,q2.lit_inv] at q1
 exact q1
theorem aPQ{cf:CF}{fl:Nat}{tm:List AV}{H:aY}{x:bC}{cs:List AV}(hx:aH tm x=.agg cs): aQ PP cf fl (.box x) tm H=some (.ptr H.length 1 0 0,H++[.blk cs.length [cs]]):=by simp only[aQ,hx,cellsOf]
theorem aHX{cf:CF}{H0:aY}{a:AV}{l:List (Int×Int)}(h:sdH cf 196 H0 a=some l): ∃z,(∀{fl:Nat} {tm:List AV} {H:aY} {x:bC},aH tm x=cK H0 a->aQ PP cf fl (.callB 196 [x]) tm H=some (z,H))/\Fd z=some l/\∃x y w,cK H0 a=.agg [x,y,w]:=by
 obtain⟨x',y',z',p,h1,h2,h3⟩:=aGP h
 have ea:∃a0 a1 a2,x'=dF H0 a0/\y'=dF H0 a1/\z'=dF H0 a2:=by
  have na:∀b cs,dF H0 b=.agg cs->False:=by
   intro b cs e
   cases b with
   | lit v=>
    simp only[dF] at e
    split at e<;>cases e
   | ms=>simp only[dF] at e;split at e<;>cases e
   | fn vi caps=>cases caps<;>cases e
   | _=>cases e
  have v2:∀b,(∀cs,b≠.agg cs)->cK H0 b=dF H0 b:=λb hb=>by
   cases b with
   | agg cs=>exact (hb cs rfl).elim
   | _=>rfl
  cases a with
  | agg cs=>
   have h1:AV.agg (cs.map (dF H0))=.agg [x',y',z']:=h1
   injection h1 with h1
   match cs,h1 with
   | [a0,a1,a2],h1=>cases h1;exact⟨_,_,_,rfl,rfl,rfl⟩
  | _=>exact (na _ _ ((v2 _ (λcs e=>by cases e)).symm.trans h1)).elim
 obtain⟨a0,a1,a2,rfl,rfl,rfl⟩:=ea
 refine⟨fA p.2 0 p.1,λ{fl tm H x} hx=>?_,h3,_,_,_,h1⟩
 have e:cK H (.agg [dF H0 a0,dF H0 a1,dF H0 a2])=.agg [dF H0 a0,dF H0 a1,dF H0 a2]:=by
  show AV.agg [dF H (dF H0 a0),dF H (dF H0 a1),dF H (dF H0 a2)]=_
  rw[AX,AX,AX]
 rw[h1] at hx
 simp only[aQ,ZH,Yn,hx,e,h2]
theorem aFk{cf:CF}(hcf:Af PP T cf)(hfn:oG PP T){c:dE}(hs:bZ (aL T) c){a b:AV}{m:Int}{old new:List (Int×Int)}(h1:sdH cf 196 c.H a=some old)(h2:sdH cf 196 c.H b=some new){vs:Array Value}(hargs:lJ (aL T) c [a,b,iv m] vs):
 Calls PP 72 vs c.w λe w'=>e=.returned (.bool (sdB old m new))/\Vs none c.w w':=by
 refine calls_of_wp (fn:=Tryz.f72) Tryz.func72 aTh ?_
 have hs0:=zR hs
 have hargs0:lJ (aL T) (eO c) [cK c.H a,cK c.H b,iv m] vs:=by
  refine⟨hargs.1,λi x hx=>?_⟩
  match i,hx with
  | 0,hx=>cases hx;obtain⟨v,k1,k2⟩:=hargs.2 0 a rfl;exact⟨v,k1,FO hs k2⟩
  | 1,hx=>cases hx;obtain⟨v,k1,k2⟩:=hargs.2 1 b rfl;exact⟨v,k1,FO hs k2⟩
  | 2,hx=>cases hx;obtain⟨v,k1,k2⟩:=hargs.2 2 (iv m) rfl;exact⟨v,k1,by rw[k2.lit_inv];exact RV.lit _⟩
 have htr:=aMY 30 hargs0
 have hA:At 30 [(0,cK c.H a),(1,cK c.H b),(2,iv m)] ([cK c.H a,cK c.H b,iv m]++List.replicate (30-[cK c.H a,cK c.H b,iv m].length) UV):=.cons rfl (.cons rfl (.cons rfl ⟨rfl,λ_ _ h=>by cases h⟩))
 have hsz:Tryz.f72.ntmps=30:=by kernel_rfl
 rw[hsz]
 generalize [cK c.H a,cK c.H b,iv m]++List.replicate (30-[cK c.H a,cK c.H b,iv m].length) UV=tm at htr hA
 generalize hact:(⟨vs++Array.replicate (30-vs.size) undef,[]⟩:Act)=act
 have htr:TR (aL T) (eO c) tm act.tmps:=by rw[<-hact];exact htr
 have hdf0:act.defers=[]:=by rw[<-hact]
 obtain⟨xo,eo,io,x,y,z,ea⟩:=aHX h1
 obtain⟨xn,en,inn,x',y',z',eb⟩:=aHX h2
 rw[ea] at hA eo
 rw[eb] at hA en
 obtain⟨s0,v0,w0,hA0⟩:WO PP cf 0 [o1 3 (.box (tp 0)),o1 4 (.box (tp 1)),o1 6 (.mov (.lit (.bool false)))] ⟨tm,[]⟩ λs=>s.heap=[.blk 3 [[x,y,z]],.blk 3 [[x',y',z']]]/\At 30 [(6,.lit (.bool false)),(4,.ptr 1 1 0 0),(3,.ptr 0 1 0 0),(0,.agg [x,y,z]),(1,.agg [x',y',z']),(2,iv m)] s.tmps:=
  AO.op hA (aPQ (hA.get rfl)) λtm h=>AO.op h (aPQ (h.get rfl)) λtm h=>AO.op (v:=.lit (.bool false)) (H':=[.blk 3 [[x,y,z]],.blk 3 [[x',y',z']]]) h rfl λtm h=>AO.nil h ⟨rfl,h⟩
 refine Xs ?_
 refine Xe ?_
 show wpOps PP (fB Rg0) _ (List.range' 0 3) act (eO c).w
 refine Be (ops:=fB Rg0) (fl:=0) hcf hfn [o1 3 (.box (tp 0)),o1 4 (.box (tp 1)),o1 6 (.mov (.lit (.bool false)))] ((List.range 3).map (iH Rg0)) 0 (eO c) act tm s0 (by kernel_rfl) (LO (by kernel_rfl)) hs0 htr (ZF _) v0 ?_
 intro b1 c1 e1 t1 hs1 htr1 d1
 have hh0:s0.heap[0]?=some (.blk 3 [[x,y,z]]):=by rw[w0];rfl
 have hh1:s0.heap[1]?=some (.blk 3 [[x',y',z']]):=by rw[w0];rfl
 obtain⟨s1,v1,w1,hA1⟩:WO PP cf 0 [o1 10 (.load true 3 (tp 3)),o1 11 (.callB 196 [tp 10]),om 7 11] s0 λs=>s.heap=s0.heap/\At 30 [(7,xo),(11,xo),(10,.agg [x,y,z]),(6,.lit (.bool false)),(4,.ptr 1 1 0 0),(3,.ptr 0 1 0 0),(0,.agg [x,y,z]),(1,.agg [x',y',z']),(2,iv m)] s.tmps:=by
  exact AO.op (v:=.agg [x,y,z]) (H':=s0.heap) hA0 (Qe (agg:=true) (n:=3) (hA0.get (k:=3) rfl) hh0 rfl rfl (Zg 3) rfl) λtm h=>AO.op h (eo (h.get rfl)) λtm h=>AO.mov h rfl λtm h=>AO.nil h ⟨rfl,h⟩
 show (Code.seq (.region 1 (fB Rg1) false) _).wp PP _ b1 c1.w
 refine Xs ?_
 refine Xe ?_
 show wpOps PP (fB Rg1) _ (List.range' 0 3) b1 c1.w
 refine Be (ops:=fB Rg1) (fl:=0) hcf hfn [o1 10 (.load true 3 (tp 3)),o1 11 (.callB 196 [tp 10]),om 7 11] ((List.range 3).map (iH Rg1)) 0 c1 b1 s0.tmps s1 (by kernel_rfl) (LO (by kernel_rfl)) hs1 htr1 (ZF _) (by rw[e1];exact v1) ?_
 intro b2 c2 e2 t2 hs2 htr2 d2
 show (Code.seq (.seq (.region 2 (fB Rg2) false) (.block 0 (.loop BD))) _).wp PP _ b2 c2.w
 refine Xs ?_
 refine Xs ?_
 refine Xe ?_
 show wpOps PP (fB Rg2) _ [0,1,2] b2 c2.w
 rw[Y6]
 refine kO (fl:=0) (o:=iH Rg2 0) (ao:=o1 12 (.load true 3 (tp 4))) (st':=⟨s1.tmps.set 12 (.agg [x',y',z']),s0.heap⟩) hcf hfn hs2 htr2 (ZF _) (by kernel_rfl) (by kernel_rfl) (by
  rw[e2,w1]
  simp only[cU,eW,Qe (agg:=true) (n:=3) (P:=PP) (cf:=cf) (fl:=0) (v:=.agg [x',y',z']) (hA1.get (k:=4) rfl) hh1 rfl rfl (Zg 3) rfl,iG]) ?_
 intro b3 c3 e3 t3 hs3 htr3 d3 _
 have hA3:=hA1.set (k:=12) (v:=.agg [x',y',z']) rfl
 rw[Y6]
 refine kO (fl:=0) (o:=iH Rg2 1) (ao:=o1 13 (.callB 196 [tp 12])) (st':=⟨(s1.tmps.set 12 (.agg [x',y',z'])).set 13 xn,s0.heap⟩) hcf hfn hs3 htr3 (ZF _) (by kernel_rfl) (by kernel_rfl) (by
  rw[e3]
  simp only[cU,eW,en (hA3.get (k:=12) rfl),iG]) ?_
 intro b4 c4 e4 t4 hs4 htr4 d4 _
 have hA4:=hA3.set (k:=13) (v:=xn) rfl
 have tot:bY 0 (eO c) c4:=t1.trans (t2.trans (t3.trans t4))
 have but4:Vs none (eO c).w c4.w:=qA tot (λ_=>rfl)
 have df4:b4.defers=[]:=d4.trans (d3.trans (d2.trans (d1.trans hdf0)))
 rw[Y6]
 have hut:PP.underlying 161=some (.map 3 3):=by kernel_rfl
 have hor:(iH Rg2 2).op=.range 161 (.tmp 13):=by kernel_rfl
 have hdr:(iH Rg2 2).dst=some 14:=by kernel_rfl
 obtain⟨u13,k13,r13⟩:=htr4.2 13 xn (qC hA4 rfl (by decide))
 have ev13:b4.eval (.tmp 13)=u13:=by simp[Act.eval,Yg,k13]
 have p13:=aK1 inn r13
 have htr5:=TR.put (d:=some 14) htr4 (RV.lit (.pointer (some ⟨c4.w.heap.size,0,none⟩)))
 have hA5:=hA4.set (k:=14) (v:=.lit (.pointer (some ⟨c4.w.heap.size,0,none⟩))) rfl
 have hdf5:(b4.put (some 14) (.pointer (some ⟨c4.w.heap.size,0,none⟩))).defers=b4.defers:=iS _ _ _
 have himm:∀bb,lI c4 bb->¬(eO c4).X bb:=λbb h e=>e.elim h.1 λ⟨id,hid⟩=>h.2 id hid
 have enter:∀ob:Obj,LI (eO c4).X c4.w.heap.size m xo (c4.w.alloc ob) (b4.put (some 14) (.pointer (some ⟨c4.w.heap.size,0,none⟩))):=by
  intro ob
  have ba:=RK c4.w ob
  have up:∀{x:AV} {v:Value},RP c4.w (lI c4) x v->RP (c4.w.alloc ob) (lI (cW (eO c4).X c4.w.heap.size (c4.w.alloc ob))) x v:=λh=>h.mono λbb o hi hb=>by
   have hlt:=gZ hb
   exact⟨FD.2 ⟨himm bb hi,by omega⟩,(ba.frame bb hlt (by simp)).trans hb⟩
  refine⟨λg cs hcs=>?_,λk hk=>?_,?_,?_,?_,?_,?_⟩
  .obtain⟨cc,T,fz,vals,g1,g2,g3,g4,g5⟩:=hs4.gl g cs hcs
   have hlt:=gZ g2
   exact⟨cc,T,fz,vals,FD.2 ⟨himm g g1,by omega⟩,(ba.frame g hlt (by simp)).trans g2,g3,g4,λj x hx=>up (g5 j x hx)⟩
  .have:c4.w.heap.size<=k:=ZB ba.size hk
   exact (zR hs4).fresh k this
  .show c4.w.heap.size<(c4.w.heap.push ob).size
   rw[XC];exact Wn _
  .rw[<-htr5.1];exact hA5.ln
  .obtain⟨v,g1,g2⟩:=htr5.2 2 _ (qC hA5 rfl (by decide))
   rw[g1,g2.lit_inv]
  .obtain⟨v,g1,g2⟩:=htr5.2 14 _ (qC hA5 rfl (by decide))
   rw[g1,g2.lit_inv]
  .obtain⟨v,g1,g2⟩:=htr5.2 7 xo (qC hA5 rfl (by decide))
   exact⟨v,g1,up (aK1 io g2)⟩
 have fin:∀(W:World) (a':Act) (x:Bool),LI (eO c4).X c4.w.heap.size m xo W a'->Vs (some c4.w.heap.size) (c4.w) W->a'.tmps[6]?=some (.bool x)->a'.defers=[]->x=sdB old m new->bodyPost PP Tryz.f72 (λe w'=>e=.returned (.bool (sdB old m new))/\Vs none c.w w') .ret a' W:=by
  intro W a' x li hbw h6 hd hx
  refine⟨hd,.bool x,aQ5 li.sim rfl rfl li.tr (aAp m xo _).ln h6,by rw[hx],hbw.out but4 (but4.size)⟩
 have tail:∀(W:World) (a':Act),LI (eO c4).X c4.w.heap.size m xo W a'->Vs (some c4.w.heap.size) c4.w W->a'.defers=[]->sdB old m new=false->(Code.seq (.region 7 (fB RgE) false) .ret).wp PP (bodyPost PP Tryz.f72 (λe w'=>e=.returned (.bool (sdB old m new))/\Vs none c.w w')) a' W:=by
  intro W a' li hbw hd hx
  refine Xs ?_
  refine Xe ?_
  show wpOps PP (fB RgE) _ (List.range' 0 1) a' (cW (eO c4).X c4.w.heap.size W).w
  refine Be (ops:=fB RgE) (fl:=0) hcf hfn [o1 6 (.mov (.lit (.bool false)))] ((List.range 1).map (iH RgE)) 0 (cW (eO c4).X c4.w.heap.size W) a' (Mh (l0 m xo c4.w.heap.size)) ⟨(Mh (l0 m xo c4.w.heap.size)).set 6 (.lit (.bool false)),[]⟩ (by kernel_rfl) (LO (by kernel_rfl)) li.sim li.tr (ZF _) rfl ?_
  intro a6 c6 e6 s66 hs6 htr6 d6
  have hA6:=(aAp m xo c4.w.heap.size).set (v:=.lit (.bool false)) (k:=6) rfl
  have l66:=li.ops io s66 hA6 htr6 rfl rfl rfl
  obtain⟨u,g1,g2⟩:=htr6.2 6 _ (qC hA6 rfl (by decide))
  exact wp_ret (fin c6.w a6 false l66 (hbw.trans (qA s66 (λ_=>rfl)).of) (by rw[g1,g2.lit_inv]) (d6.trans hd) hx.symm)
 rcases PH inn with⟨rfl,rfl⟩ | rfl
 .cases p13
  refine MH (o:=iH Rg2 2) (w':=c4.w.alloc (.mapIter none 0 #[] 0)) (v:=.pointer (some ⟨c4.w.heap.size,0,none⟩)) (by kernel_rfl) (by kernel_rfl) (by simp[execOp,hor,ev13,run_range_nilMap (P:=PP) c4.w 161 3 3 hut]) ?_
  rw[hdr]
  have li:=enter (.mapIter none 0 #[] 0)
  have hnx:=run_next_nilMap (P:=PP) c4.w (iH Rg3 0).type 0 0 #[]
  have hb0:Vs (some c4.w.heap.size) c4.w (c4.w.alloc (.mapIter none 0 #[] 0)):=(RK _ _).of
  generalize c4.w.alloc (.mapIter none 0 #[] 0)=W at li hnx hb0 |-
  generalize b4.put (some 14) (.pointer (some ⟨c4.w.heap.size,0,none⟩))=a5 at li hdf5 |-
  show (Code.block 0 (.loop BD)).wp PP _ a5 W
  refine WJ ?_
  refine XI 1 ?_
  rw[rounds_succ,aQo]
  refine Xs ?_
  refine Xe ?_
  show wpOps PP (fB Rg3) _ [0,1] a5 W
  rw[Y6]
  have ho3:(iH Rg3 0).op=.next (.tmp 14) false:=by kernel_rfl
  have hd3:(iH Rg3 0).dst=some 15:=by kernel_rfl
  have ev14:a5.eval (.tmp 14)=.pointer (some ⟨c4.w.heap.size,0,none⟩):=by simp[Act.eval,Yg,li.t14]
  refine MH (o:=iH Rg3 0) (v:=.tuple #[.bool false]) (w':=W) (by kernel_rfl) (by kernel_rfl) (by simp[execOp,ho3,ev14,hnx]) ?_
  have htr1:=TR.put (d:=some 15) li.tr (Iy (c:=cW (eO c4).X c4.w.heap.size W) [.bool false])
  have hA1:At 30 ((15,.tup [.lit (.bool false)])::l0 m xo c4.w.heap.size) (iG (Mh (l0 m xo c4.w.heap.size)) (some 15) (.tup ([.bool false].map .lit))):=(aAp m xo _).set rfl
  rw[hd3,Y6]
  have hdf:(a5.put (some 15) (.tuple #[.bool false])).defers=a5.defers:=iS _ _ _
  generalize a5.put (some 15) (.tuple #[.bool false])=a1 at htr1 hdf |-
  generalize iG (Mh (l0 m xo c4.w.heap.size)) (some 15) (.tup ([.bool false].map .lit))=tm1 at htr1 hA1
  refine kO (fl:=0) (c:=cW (eO c4).X c4.w.heap.size W) (o:=iH Rg3 1) (ao:=o1 16 (.extract (tp 15) 0)) (st':=⟨tm1.set 16 (.lit (.bool false)),[]⟩) hcf hfn li.sim htr1 (ZF _) (by kernel_rfl) (by kernel_rfl) (by simp only[cU,eW,aQ,hA1.get (k:=15) rfl];rfl) ?_
  intro a2 c2' e2' s2' hs2' htr2' d2' _
  have hA2:=hA1.set (v:=.lit (.bool false)) (k:=16) rfl
  have l2:=li.ops io s2' hA2 htr2' rfl rfl rfl
  show ((Code.seq (.cond (.tmp 16) .skip (.exit 0)) _)).wp PP _ a2 c2'.w
  refine Xs ?_
  refine XO (s7 htr2' (t:=16) (qC hA2 rfl (by decide))) ?_
  refine wp_exit ?_
  exact tail c2'.w a2 l2 (hb0.trans (qA s2' (λ_=>rfl)).of) (d2'.trans (hdf.trans (hdf5.trans df4))) rfl
 .cases p13 with
  | rmp ents bb es clk vals q1 q2 q3 q4 q5 q6=>
  refine MH (o:=iH Rg2 2) (w':=c4.w.alloc (.mapIter (some bb) clk #[] clk)) (v:=.pointer (some ⟨c4.w.heap.size,0,none⟩)) (by kernel_rfl) (by kernel_rfl) (by simp[execOp,hor,ev13,run_range_map (P:=PP) c4.w 161 3 3 bb es clk hut q2]) ?_
  rw[hdr]
  have li:=enter (.mapIter (some bb) clk #[] clk)
  have hlt:=gZ q2
  have hr2:(c4.w.alloc (.mapIter (some bb) clk #[] clk)).heap[c4.w.heap.size]?=some (.mapIter (some bb) clk #[] clk):=Wr c4.w _
  have hb2:(c4.w.alloc (.mapIter (some bb) clk #[] clk)).heap[bb]?=some (.map es clk):=(heap_alloc_old c4.w _ hlt).trans q2
  have hb0:Vs (some c4.w.heap.size) c4.w (c4.w.alloc (.mapIter (some bb) clk #[] clk)):=(RK _ _).of
  have hz:es.size=new.length:=by rw[q3,ZR]
  have hen:∀(i:Nat) (p:Int×Int),new[i]?=some p->∃e,es[i]?=some e/\Ent e p.1 p.2:=by
   intro i p hp
   have hx:(new.map λe=>(Value.int .i64 e.1,AV.lit (.int .i64 e.2)))[i]?=some (.int .i64 p.1,.lit (.int .i64 p.2)):=by rw[Zl,hp];rfl
   obtain⟨g1,g2⟩:=q5 i _ _ hx
   have g3:=q6 i _ _ hx
   refine⟨vals i,g1,g2,?_⟩
   generalize (vals i).val=vv at g3
   cases g3;rfl
  have hE:∀e∈es.toList,∃p∈new,Ent e p.1 p.2:=by
   intro e he
   obtain⟨i,hi⟩:=Yk.1 he
   rw[Z6] at hi
   have hlt:i<new.length:=by
    rcases ZL i new.length with h | h
    .exact h
    .rw[Yd (by omega)] at hi;cases hi
   obtain⟨e',h1,h2⟩:=hen i _ (Za hlt)
   rw[hi] at h1;cases h1
   exact⟨_,ZS hlt,h2⟩
  generalize c4.w.alloc (.mapIter (some bb) clk #[] clk)=W at li hr2 hb2 hb0 |-
  generalize b4.put (some 14) (.pointer (some ⟨c4.w.heap.size,0,none⟩))=a5 at li hdf5 |-
  show (Code.block 0 (.loop BD)).wp PP _ a5 W
  refine WJ ?_
  refine XI ((leftOf es #[]).size+1) ?_
  refine V9 hcf hfn io (W0:=c4.w) (ds:=[]) (b:=bb) (r:=c4.w.heap.size) (by omega) q4 (λe he=>by obtain⟨p,_,h⟩:=hE e he;exact⟨_,_,h⟩) (λa' W' l1 b1 hall d1=>?_) (λa' W' e k v he hv hg l1 h1 b1 d1=>?_) _ #[] clk W a5 (Wn _) li hr2 hb2 (Zg _) hb0 (hdf5.trans df4) (λx _ hx=>by simp at hx)
  .refine tail W' a' l1 b1 d1 ?_
   cases hh:sdB old m new with
   | false=>rfl
   | true=>
    obtain⟨p,hp,hbd⟩:=(aBb new).1 hh
    obtain⟨i,hi⟩:=Yk.1 hp
    obtain⟨e,h1,h2⟩:=hen i p hi
    rw[hall e (by rw[<-Z6] at h1;exact Zf h1) p.1 p.2 h2] at hbd
    cases hbd
  .obtain⟨p,hp,h2⟩:=hE e he
   have e1:k=p.1:=by have:=hv.1.symm.trans h2.1;cases this;rfl
   have e2:v=p.2:=by have:=hv.2.symm.trans h2.2;cases this;rfl
   subst e1 e2
   exact fin W' a' true l1 b1 h1 d1 ((aBb new).2 ⟨p,hp,hg⟩).symm
end
section
open Go.Proofs Go.RowKit Go.Shelf Go.Sort
theorem mixed: PP.follows .mixedOrders=true:=by kernel_rfl
def rl: List Nat->Nat->Nat
 | a::b::r,n=>match Nat.beq a n with
  | true=>b
  | false=>rl r n
 | _,n=>n
theorem qB{P:Program}{f:FuncId}{B:Func} (h:((((P.funcs[f]?).map (·.name)).getD "")== "runtime.NumGoroutine")=false) (k:P.funcs[f]?=some {B with name:=((P.funcs[f]?).map (·.name)).getD ""}):Bears P f B:=⟨_,h,k⟩
def aOi: Ren:=⟨(rl [6,33,15,78,14,77,28,121,29,122,20,113,21,114,22,115,23,116,24,117,25,118,26,119,27,120,46,153,47,154,48,155,49,156,50,157,57,190]),(rl [22,47,24,50,25,87,39,127,53,171,55,173,46,165,45,164,50,151,66,205,70,209,76,240,77,241]),id⟩
theorem aLz: SlLaysF0.n6 PP aOi:=by
 constructor<;>first | kernel_rfl | exact λ_=>by kernel_rfl | exact qB (by kernel_rfl) (by kernel_rfl)
def aOh: Ren:=⟨(rl [6,183,15,78,14,216,28,121,29,122,20,253,21,254,22,255,23,256,24,257,25,258,26,259,27,260,46,288,47,154,48,155,49,289,50,290,57,300]),(rl [22,190,24,195,25,236,39,127,53,171,55,173,46,165,45,164,50,151,66,205,70,209,76,240,77,241]),id⟩
theorem aLy: SlLaysF0.n6 PP aOh:=by
 constructor<;>first | kernel_rfl | exact λ_=>by kernel_rfl | exact qB (by kernel_rfl) (by kernel_rfl)
def aOg: Ren:=⟨(rl [6,205,15,78,14,243,28,121,29,122,20,276,21,277,22,278,23,279,24,280,25,281,26,282,27,283,46,295,47,154,48,155,49,296,50,297,57,302]),(rl [22,251,24,257,25,259,39,127,53,171,55,173,46,165,45,164,50,151,66,205,70,209,76,240,77,241]),id⟩
theorem aLx: SlLaysF0.n6 PP aOg:=by
 constructor<;>first | kernel_rfl | exact λ_=>by kernel_rfl | exact qB (by kernel_rfl) (by kernel_rfl)
def aOk: Ren:=⟨(rl [6,179,15,78,14,215,28,121,29,122,20,245,21,246,22,247,23,248,24,249,25,250,26,251,27,252,46,285,47,154,48,155,49,286,50,287,57,299]),(rl [22,140,24,222,25,234,39,127,53,171,55,173,46,165,45,164,50,151,66,205,70,209,76,240,77,241]),id⟩
theorem aL1: SlLaysF0.n6 PP aOk:=by
 constructor<;>first | kernel_rfl | exact λ_=>by kernel_rfl | exact qB (by kernel_rfl) (by kernel_rfl)
def aH9: Ren:=⟨(rl [6,193,15,78,14,226,28,121,29,122,20,264,21,265,22,266,23,267,24,268,25,269,26,270,27,271,46,291,47,154,48,155,49,292,50,293,57,301]),(rl [22,24,24,3,25,86,39,127,53,171,55,173,46,165,45,164,50,151,66,205,70,209,76,240,77,241]),id⟩
theorem aRq: SlLaysF.n6 PP aH9:=by
 constructor<;>first | kernel_rfl | exact λ_=>by kernel_rfl | exact qB (by kernel_rfl) (by kernel_rfl)
def aLw: Ren:=⟨(rl [189,161,125,78,257,196,128,121,129,122,294,230,295,231,296,232,297,233,298,234,299,235,216,219,300,236,301,237,328,272,329,154,330,155,331,273,332,274,215,79,343,294]),(rl [28,24,46,127,51,171,53,173,183,165,182,164,131,151,218,205,222,209,228,240,229,241]),id⟩
theorem aH8: Lays.n189 PP aLw:=by
 constructor<;>first | kernel_rfl | exact λ_=>by kernel_rfl
def aL0: Ren:=⟨(rl [144,124,143,158,219,191,217,222,225,223,267,225,266,262,314,263]),(rl [46,127,146,297,51,171]),id⟩
theorem aOj: Lays.n144 PP aL0:=by
 constructor<;>first | kernel_rfl | exact λ_=>by kernel_rfl
def aTk: Ren:=⟨rl [22,101,29,135,30,136],rl [24,22,9,96],id⟩
theorem aRg: aEV PP aTk 3 #[.int .i64 0,.int .i64 0,.int .i64 0] 24:=by
 constructor<;>first | kernel_rfl | exact λ_=>by kernel_rfl | exact qB (by kernel_rfl) (by kernel_rfl) | decide | exact λargs w=>run_callFunc_extern Tryz.func135 (by kernel_rfl) (by kernel_rfl) (by kernel_rfl) (e:=Extern.SlicesOverlaps.overlaps #[22,22] #[4]) (by kernel_rfl) args w
def aTl: Ren:=⟨rl [22,110,29,151,30,152],rl [24,27,9,68],id⟩
theorem aR3: aEV PP aTl 5 #[.int .i64 0,.int .i64 0,.int .i64 0,.string ⟨#[]⟩,.slice none 0 0] 64:=by
 constructor<;>first | kernel_rfl | exact λ_=>by kernel_rfl | exact qB (by kernel_rfl) (by kernel_rfl) | decide | exact λargs w=>run_callFunc_extern Tryz.func151 (by kernel_rfl) (by kernel_rfl) (by kernel_rfl) (e:=Extern.SlicesOverlaps.overlaps #[27,27] #[4]) (by kernel_rfl) args w
def aTm: Ren:=⟨rl [22,137,29,170,30,171],rl [24,23,9,99],id⟩
theorem aSf: aEV PP aTm 6 #[.int .i64 0,.int .i64 0,.int .i64 0,.slice none 0 0,.int .i64 0,.int .i64 0] 64:=by
 constructor<;>first | kernel_rfl | exact λ_=>by kernel_rfl | exact qB (by kernel_rfl) (by kernel_rfl) | decide | exact λargs w=>run_callFunc_extern Tryz.func170 (by kernel_rfl) (by kernel_rfl) (by kernel_rfl) (e:=Extern.SlicesOverlaps.overlaps #[23,23] #[4]) (by kernel_rfl) args w
theorem PU: oG PP T:=aEb checked
theorem aNh: M1 PP 161:=λblk off cap zs w h1 h2 h3=>Any.slices_Sort_int aH8 blk off cap zs w h1 h2 h3
theorem aKe: TX PP 161:=λp cap w=>Any.slices_Sort_int_none aH8 p cap w
theorem aNJ: Dg PP true 33 4:=Aw aLz Tryz.isAgg50 Tryz.sizeOf50
theorem aKL: zY PP 33:=tF aLz
theorem aN3: Dg PP true 183 4:=Aw aLy Tryz.isAgg195 Tryz.sizeOf195
theorem aK9: zY PP 183:=tF aLy
theorem aNu: Dg PP true 205 2:=Aw aLx Tryz.isAgg257 Tryz.sizeOf257
theorem aKu: zY PP 205:=tF aLx
theorem aOZ: Dg PP true 179 4:=Aw aL1 Tryz.isAgg222 Tryz.sizeOf222
theorem aM0: zY PP 179:=tF aL1
theorem aOt: Dg PP false 193 1:=aCQ aRq
theorem aLB: zY PP 193:=tF (ρ:=aH9) (by constructor<;>first | kernel_rfl | exact λ_=>by kernel_rfl | exact qB (by kernel_rfl) (by kernel_rfl))
variable {H H':aY}{args:List AV}{c:dE}{cf:CF}{f fl m:Nat}{r:AV}{s vi:Nat}{vs:Array Value}
theorem aKi(hl:fl<=m/\m<=H.length)(h:Em fl args H=some (r,H')): H'.take fl=H.take fl/\m<=H'.length:=by
 rcases NH h with⟨x,rfl,he,rfl,rfl⟩ | ⟨id,l,rfl,hne,hfl,hob,hbig,rfl,rfl⟩
 .exact⟨rfl,hl.2⟩
 .refine⟨?_,by rw[Yq];exact hl.2⟩
  apply Ym
  intro i
  rw[Zs,Zs]
  split
  .rw[Zv (by omega)]
  .rfl
theorem aBI(hl:fl<=m/\m<=H.length)(h:Ou s fl args H=some (r,H')): H'.take fl=H.take fl/\m<=H'.length:=by
 obtain⟨id,id2,i,es,row,_,h1,h2,h3,h4,h5,h6,h7,rfl⟩:=D7 h
 exact⟨Wa h1,by simpa using hl.2⟩
theorem aA1(h:Qf fl args H=some (r,H')):
 ∃s t:ByteArray,args=[.lit (.string s),.lit (.string t)]/\s.size<4294967281/\r=.lit (.bool (Lib.contains s.data.toList t.data.toList))/\H'=H:=by
 unfold Qf at h
 repeat' split at h
 all_goals first
  | (cases h;done)
  | skip
 rename_i hb
 cases h
 exact⟨_,_,rfl,Zn hb,rfl,rfl⟩
section
theorem aMn(h:Qf fl args c.H=some (r,H'))(hs:bZ (aL T) c)(hargs:lJ (aL T) c args vs): Calls PP 124 vs c.w λe w'=>∃v c',e=.returned v/\c'.w=w'/\c'.H=H'/\c'.X=c.X/\bY fl c c'/\bZ (aL T) c'/\RV (aL T) c' r v:=by
 obtain⟨s,t,rfl,hsz,rfl,rfl⟩:=aA1 h
 have hv:vs=#[.string s,.string t]:=by
  obtain⟨h1,h2⟩:=hargs
  obtain⟨v0,g0,k0⟩:=h2 0 _ rfl
  obtain⟨v1,g1,k1⟩:=h2 1 _ rfl
  have e0:=k0.lit_inv
  have e1:=k1.lit_inv
  subst e0 e1
  apply XW
  .simpa using h1
  .intro i hi1 hi2
   have hi3:i<2:=by simpa using hi2
   match i,hi3 with
   | 0,_=>exact ZE ((Z9 hi1).symm.trans g0)
   | 1,_=>exact ZE ((Z9 hi1).symm.trans g1)
 subst hv
 obtain⟨cc,t',fz,vals,_,hheap,hok,_,_⟩:=hs.gl 1 [.undef] rfl
 obtain⟨m,hm⟩:=hok rfl
 have hcell:c.w.cell? ⟨1,0,none⟩=some (.int .i64 m):=by simp[World.cell?,hheap,hm]
 exact (Any.strings_Contains aOj s t m c.w hsz hcell).mono λe w' ⟨he,hw⟩=>⟨_,c,he,hw.symm,rfl,rfl,bY.refl fl c,hs,.lit _⟩
theorem aBH{zb g:Nat}{ρ:Ren}{zs:Array Value}(L:aEV PP ρ s zs zb)(hg:ρ.f 22=g)(hz:zb<=100000)(h:Ou s fl args c.H=some (r,H'))(hs:bZ (aL T) c)(hargs:lJ (aL T) c args vs): Calls PP g vs c.w λe w'=>∃v c',e=.returned v/\c'.w=w'/\c'.H=H'/\c'.X=c.X/\bY fl c c'/\bZ (aL T) c'/\RV (aL T) c' r v:=by
 obtain⟨id,id2,i,es,row,rfl,h1,h2,h3,h4,h5,h6,rfl,rfl⟩:=D7 h
 subst hg
 exact (aRx L hz hs h1 h2 h3 h4 h5 h6 hargs).mono λe w' ⟨v,he,c',k1,k2,k3,k4,k5,k6⟩=>⟨v,c',he,k1,k2,k3,k4,k5,k6⟩
theorem aKa(hcf:Af PP T cf)(h:sdA cf 196 args c.H=some (r,H'))(hs:bZ (aL T) c)(hargs:lJ (aL T) c args vs): Calls PP 72 vs c.w λe w'=>∃v c',e=.returned v/\c'.w=w'/\c'.H=H'/\c'.X=c.X/\bY fl c c'/\bZ (aL T) c'/\RV (aL T) c' r v:=by
 obtain⟨a,b,m,old,new,rfl,h1,h2,rfl,rfl⟩:=g9 h
 refine (aFk hcf PU hs h1 h2 hargs).mono λe w' ⟨he,hb⟩=>?_
 have st:bY 0 (eO c) ⟨w',(eO c).X,λ_=>none,[]⟩:={ X:=rfl,os:=hb.os,tape:=hb.tape,output:=hb.output,drawn:=hb.drawn,size:=hb.size,len:=Zg _,frame:=λk hk _=>hb.frame k hk (by simp),img:=(λid b h=>by cases h),blkS:=(λid s n h=>by cases h),mpS:=(λid ⟨o,h,_⟩=>by cases h),floor:=λid h=>absurd h (YD _) }
 exact⟨_,oI c ⟨w',(eO c).X,λ_=>none,[]⟩,he,rfl,rfl,rfl,wN hs st,Hn hs st,.lit _⟩
end
theorem X8(h:Kx cf fl vi args H=some (r,H')): (vi=65/\sdA cf 196 args H=some (r,H'))\/(vi=90/\Ou 3 fl args H=some (r,H'))\/(vi=100/\Ou 5 fl args H=some (r,H'))\/(vi=117/\Ou 6 fl args H=some (r,H'))\/(vi=104/\Qf fl args H=some (r,H'))\/(vi=148/\tG cf true 4 fl args H=some (r,H'))\/(vi=163/\tG cf true 2 fl args H=some (r,H'))\/(vi=150/\tG cf true 4 fl args H=some (r,H'))\/(vi=30/\tG cf true 4 fl args H=some (r,H'))\/(vi=156/\tG cf false 1 fl args H=some (r,H'))\/(vi=131/\Em fl args H=some (r,H')):=by
 unfold Kx at h
 have e:(aG.prim vi:Option U4)=(match Nat.beq vi 65 with | true=>some (aAU 196) | false=>(match Nat.beq vi 90 with | true=>some (qJ (Ou 3)) | false=>(match Nat.beq vi 100 with | true=>some (qJ (Ou 5)) | false=>(match Nat.beq vi 117 with | true=>some (qJ (Ou 6)) | false=>(match Nat.beq vi 104 with | true=>some (qJ Qf) | false=>(match Nat.beq vi 148 with | true=>some (qV true 4) | false=>(match Nat.beq vi 163 with | true=>some (qV true 2) | false=>(match Nat.beq vi 150 with | true=>some (qV true 4) | false=>(match Nat.beq vi 30 with | true=>some (qV true 4) | false=>(match Nat.beq vi 156 with | true=>some (qV false 1) | false=>(match Nat.beq vi 131 with | true=>some (qJ Em) | false=>none))))))))))):=rfl
 rw[e] at h
 cases hb0:Nat.beq vi 65 with
 | true=>rw[hb0] at h;exact .inl ⟨Zc hb0,h⟩
 | false=>
  rw[hb0] at h
  cases hb1:Nat.beq vi 90 with
  | true=>rw[hb1] at h;exact .inr (.inl ⟨Zc hb1,h⟩)
  | false=>
   rw[hb1] at h
   cases hb2:Nat.beq vi 100 with
   | true=>rw[hb2] at h;exact .inr (.inr (.inl ⟨Zc hb2,h⟩))
   | false=>
    rw[hb2] at h
    cases hb3:Nat.beq vi 117 with
    | true=>rw[hb3] at h;exact .inr (.inr (.inr (.inl ⟨Zc hb3,h⟩)))
    | false=>
     rw[hb3] at h
     cases hb4:Nat.beq vi 104 with
     | true=>rw[hb4] at h;exact .inr (.inr (.inr (.inr (.inl ⟨Zc hb4,h⟩))))
     | false=>
      rw[hb4] at h
      cases hb5:Nat.beq vi 148 with
      | true=>rw[hb5] at h;exact .inr (.inr (.inr (.inr (.inr (.inl ⟨Zc hb5,h⟩)))))
      | false=>
       rw[hb5] at h
       cases hb6:Nat.beq vi 163 with
       | true=>rw[hb6] at h;exact .inr (.inr (.inr (.inr (.inr (.inr (.inl ⟨Zc hb6,h⟩))))))
       | false=>
        rw[hb6] at h
        cases hb7:Nat.beq vi 150 with
        | true=>rw[hb7] at h;exact .inr (.inr (.inr (.inr (.inr (.inr (.inr (.inl ⟨Zc hb7,h⟩)))))))
        | false=>
         rw[hb7] at h
         cases hb8:Nat.beq vi 30 with
         | true=>rw[hb8] at h;exact .inr (.inr (.inr (.inr (.inr (.inr (.inr (.inr (.inl ⟨Zc hb8,h⟩))))))))
         | false=>
          rw[hb8] at h
          cases hb9:Nat.beq vi 156 with
          | true=>rw[hb9] at h;exact .inr (.inr (.inr (.inr (.inr (.inr (.inr (.inr (.inr (.inl ⟨Zc hb9,h⟩)))))))))
          | false=>
           rw[hb9] at h
           cases hb10:Nat.beq vi 131 with
           | true=>rw[hb10] at h;exact .inr (.inr (.inr (.inr (.inr (.inr (.inr (.inr (.inr (.inr (⟨Zc hb10,h⟩))))))))))
           | false=>
            rw[hb10] at h
            cases h
theorem aN7: aG2 PP T where
 fl:=λcf hcf fl m vi args H r H' hle hev=>by
  rcases X8 hev with⟨_,h⟩ | ⟨_,h⟩ | ⟨_,h⟩ | ⟨_,h⟩ | ⟨_,h⟩ | ⟨_,h⟩ | ⟨_,h⟩ | ⟨_,h⟩ | ⟨_,h⟩ | ⟨_,h⟩ | ⟨_,h⟩
  .obtain⟨_,_,_,_,_,_,_,_,_,rfl⟩:=g9 h
   exact⟨rfl,hle.2⟩
  .exact aBI hle h
  .exact aBI hle h
  .exact aBI hle h
  .obtain⟨_,_,_,_,_,rfl⟩:=aA1 h
   exact⟨rfl,hle.2⟩
  .exact Eo hle h
  .exact Eo hle h
  .exact Eo hle h
  .exact Eo hle h
  .exact Eo hle h
  .exact aKi hle h
 ok:=λcf hcf fl vi f args r H' c vs hev hf hs hfl hargs=>by
  rcases X8 hev with⟨rfl,h⟩ | ⟨rfl,h⟩ | ⟨rfl,h⟩ | ⟨rfl,h⟩ | ⟨rfl,h⟩ | ⟨rfl,h⟩ | ⟨rfl,h⟩ | ⟨rfl,h⟩ | ⟨rfl,h⟩ | ⟨rfl,h⟩ | ⟨rfl,h⟩
  .obtain rfl:72=f:=ZE ((show aL T 65=some 72 by kernel_rfl).symm.trans hf)
   exact aKa hcf h hs hargs
  .obtain rfl:101=f:=ZE ((show aL T 90=some 101 by kernel_rfl).symm.trans hf)
   exact aBH aRg rfl (by decide) h hs hargs
  .obtain rfl:110=f:=ZE ((show aL T 100=some 110 by kernel_rfl).symm.trans hf)
   exact aBH aR3 rfl (by decide) h hs hargs
  .obtain rfl:137=f:=ZE ((show aL T 117=some 137 by kernel_rfl).symm.trans hf)
   exact aBH aSf rfl (by decide) h hs hargs
  .obtain rfl:124=f:=ZE ((show aL T 104=some 124 by kernel_rfl).symm.trans hf)
   exact aMn h hs hargs
  .obtain rfl:179=f:=ZE ((show aL T 148=some 179 by kernel_rfl).symm.trans hf)
   exact Ni hcf PU (by simp) aOZ aM0 h hs hargs
  .obtain rfl:205=f:=ZE ((show aL T 163=some 205 by kernel_rfl).symm.trans hf)
   exact Ni hcf PU (by simp) aNu aKu h hs hargs
  .obtain rfl:183=f:=ZE ((show aL T 150=some 183 by kernel_rfl).symm.trans hf)
   exact Ni hcf PU (by simp) aN3 aK9 h hs hargs
  .obtain rfl:33=f:=ZE ((show aL T 30=some 33 by kernel_rfl).symm.trans hf)
   exact Ni hcf PU (by simp) aNJ aKL h hs hargs
  .obtain rfl:193=f:=ZE ((show aL T 156=some 193 by kernel_rfl).symm.trans hf)
   exact Ni hcf PU (by simp) aOt aLB h hs hargs
  .obtain rfl:161=f:=ZE ((show aL T 131=some 161 by kernel_rfl).symm.trans hf)
   exact aKh aNh aKe h hs hargs
end
section
open Go.Proofs
theorem own: ownKnob PP.godebug=none:=by kernel_rfl
theorem laid: laidOutB PP=true:=by kernel_rfl
def P0: List Value:=aPL (Go.Proofs.YtglfoebmkbglgaaGreatDoor.Rows.laid_mapsheets_glyph_scripts)
theorem aLH{W:World}(hl:laidMetH Tryz.prog Rows.txnEachRow.laid W)(hsh:W.ShapedOpen Tryz.prog): tA (top W):=by
 intro g cs hcs
 match g with
 | 0=>
  obtain rfl:aNx=cs:=ZE hcs
  obtain⟨ps,hv,_,_⟩:laidMet Tryz.prog [("mapsheets/glyph.scripts",Rows.laid_mapsheets_glyph_scripts)] W:=hl
  obtain⟨g,t,cv,fuel,p,q,h1,h2,h3,h4,_,_⟩:=hv
  obtain rfl:0=g:=ZE ((show Tryz.prog.globalNamed "mapsheets/glyph.scripts"=some 0 by kernel_rfl).symm.trans h1)
  obtain rfl:213=t:=ZE ((show (Tryz.prog.globals[0]?).map (·.type)=some 213 by kernel_rfl).symm.trans h2)
  have hcv:cv.toList=P0:=aFj (m:=13) (e:=212) (ta:=21) (tb:=21) (tc:=3) (ka:=.i32) (kb:=.i32) (kc:=.i64) (f0:={ name:= "first",type:=21,offset:=0,embedded:=false,tag:= "",pkgPath:= "mapsheets/glyph",byteOffset:=0 }) (f1:={ name:= "last",type:=21,offset:=1,embedded:=false,tag:= "",pkgPath:= "mapsheets/glyph",byteOffset:=4 }) (f2:={ name:= "script",type:=3,offset:=2,embedded:=false,tag:= "",pkgPath:= "mapsheets/glyph",byteOffset:=8 }) (by kernel_rfl) (by kernel_rfl) (by kernel_rfl) (by kernel_rfl) rfl rfl rfl rfl rfl rfl (by kernel_rfl) (by kernel_rfl) (by kernel_rfl) (by kernel_rfl) (by kernel_rfl) (by kernel_rfl) h4
  have hheap:∃T fz,W.heap[0]?=some (.cells cv T fz):=by
   unfold World.var? at h3
   rw[h1] at h3
   simp only[ZQ] at h3
   split at h3
   .rename_i c T fz hb
    cases h3
    exact⟨T,fz,hb⟩
   .cases h3
  obtain⟨T,fz,hheap⟩:=hheap
  have key:∀(j:Nat) (x:AV),aNx[j]?=some x->∃v,P0[j]?=some v/\bE v=true/\x=AV.lit v:=by
   have e:aNx=P0.map AV.lit:=by kernel_rfl
   have hs:P0.all bE=true:=by kernel_rfl
   intro j x hx
   rw[e,Zl,Zq] at hx
   obtain⟨v,h5,rfl⟩:=hx
   exact⟨v,h5,Yh.1 hs v (Zf h5),rfl⟩
  refine⟨cv,T,fz,λj=>(P0[j]?).getD undef,aAS W 0,hheap,(λh=>absurd h (by decide)),?_,?_⟩
  .intro j x hx
   obtain⟨v,k1,k2,_⟩:=key j x hx
   have e:(P0[j]?).getD undef=v:=by rw[k1];rfl
   show cv[0+j]?=some ((P0[j]?).getD undef)/\bE ((P0[j]?).getD undef)=true
   rw[e,ZZ,<-Z6,hcv]
   exact⟨k1,k2⟩
  .intro j x hx
   obtain⟨v,k1,_,rfl⟩:=key j x hx
   have e:(P0[j]?).getD undef=v:=by rw[k1];rfl
   show RP _ _ (AV.lit v) ((P0[j]?).getD undef)
   rw[e]
   exact .lit _
 | 1=>
  obtain rfl:[AV.undef]=cs:=ZE hcs
  obtain⟨m,hm⟩:=cell_of_shapedOpen_int (g:=1) (t:=3) (zero:=#[.int .i64 0]) (k:=.i64) hsh (Zh (by kernel_rfl)) (by kernel_rfl) rfl (by kernel_rfl) (by kernel_rfl) (by kernel_rfl)
  obtain⟨c,T,fz,hb,_,hc⟩:=cell?_inv hm
  refine⟨c,T,fz,λ_=>.int .i64 m,aAS W 1,hb,λ_=>⟨m,hc⟩,?_,?_⟩
  .intro j x hx
   cases j with
   | zero=>exact⟨hc,rfl⟩
   | succ j=>simp at hx
  .intro j x hx
   cases j with
   | zero=>
    simp only[Zt,Zb] at hx
    subst hx
    exact .undef _
   | succ j=>simp at hx
 | n+2=>cases hcs
end
end Go.Proofs.YtglfoebmkbglgaaGreatDoor.Av
