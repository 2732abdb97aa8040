/- A part of the proof of a law. -/
import Derived.Shelf.Spec.SlicesInsertGrow
import Derived.Shelf.SlGeneric
import Derived.Test.YtabioopnpgiijaaGreatDoorP2
import Derived.Test.YtabioopnpgiijaaGreatDoorP3
import Derived.Test.YtabioopnpgiijaaGreatDoorP6
import Derived.Test.YtabioopnpgiijaaGreatDoorP5
import Derived.Maps.RangeRun
import Derived.Shelf.Strings.Search3
import Derived.Shelf.Vars
import Derived.Shelf.Sort.Plain
import Derived.Shelf.Slices.In.SortNone
import Derived.Test.YtabioopnpgiijaaGreatDoorRows
import Derived.Test.YtabioopnpgiijaaGreatDoorTie
import Derived.Test.YtabioopnpgiijaaGreatDoorCards
import Derived.ChangeSame
import Derived.ChangeVars
import Derived.JoinedOf
import Derived.LaidLaws
import Derived.Lay
import Derived.MakeChecks
import Derived.Stop.Joined
import Derived.SevenTiedAt
set_option maxRecDepth 100000
set_option maxHeartbeats 4000000
set_option linter.all false
namespace Go.Proofs.YtabioopnpgiijaaGreatDoor.Av
open Go
section
open Go.Proofs Go.Shelf Go.RowKit Go.Lib
variable {P:Program}{s zb:Nat}{zs:Array Value}{ρ:Ren}
structure aDp(P:Program)(ρ:Ren)(s:Nat)(zs:Array Value)(zb:Nat): Prop where
 mixed:P.follows .mixedOrders=true
 f22:Bears P (ρ.f 22) (Body2.n22 ρ)
 ov:∀args w,(callFunc (ρ.f 29) args).run P w=((Extern.SlicesOverlaps.overlaps #[ρ.t 24,ρ.t 24] #[ρ.t 4] args).run P w).andThen λv w'=>.ok (.value v) w'
 t3:P.underlying (ρ.t 3)=some (TypeDesc.int IntKind.i64)
 a3:∀w,(Go.isAgg (ρ.t 3)).run P w=.ok false w
 z3:∀w,(Go.sizeOf (ρ.t 3)).run P w=.ok 1 w
 v3:∀w,(zeroValue (ρ.t 3)).run P w=.ok (Value.int IntKind.i64 0) w
 t4:P.underlying (ρ.t 4)=some (TypeDesc.bool)
 a4:∀w,(Go.isAgg (ρ.t 4)).run P w=.ok false w
 z4:∀w,(Go.sizeOf (ρ.t 4)).run P w=.ok 1 w
 v4:∀w,(zeroValue (ρ.t 4)).run P w=.ok (Value.bool false) w
 z9:∀w,(Go.sizeOf (ρ.t 9)).run P w=.ok s w
 t24:P.underlying (ρ.t 24)=some (TypeDesc.slice (ρ.t 9))
 a24:∀w,(Go.isAgg (ρ.t 24)).run P w=.ok false w
 z24:∀w,(Go.sizeOf (ρ.t 24)).run P w=.ok 1 w
 v24:∀w,(zeroValue (ρ.t 24)).run P w=.ok (Value.slice none 0 0) w
 i9:(P.info? (ρ.t 9)).map (λi=>(i.zero,i.size,i.bytes))=some (some (Value.agg zs),s,zb)
 zl:zs.size=s
 s0:0<s
theorem Qg(w:World)(dT sT ty elem:TypeId)(g o dLen dCap:Nat)(a:Addr)(sLen sCap n:Nat)(cur:Array Value)(t:TypeId)(cs:List Value)(hu:P.underlying dT=some (.slice elem))(hs:(P.info? elem).map (·.size)=some s)(hn:Nat.min sLen dLen=n)(hcs:cs.length=n*s)(hsrc:∀j v,cs[j]?=some v->w.cell? (a.add j)=some v)(hg:w.heap[g]?=some (.cells cur t (0,0)))(hfit:o+n*s<=cur.size)(h1:∀v∈cs,v.oneCell'=true):
 (Builtin.copy_ #[dT,sT] ty #[.slice (some ⟨g,o,none⟩) dLen dCap,.slice (some a) sLen sCap]).run P w=.ok (goInt n) (w.setRow g (aT cur.toList o cs).toArray):=by
 have hl:=X4 (P:=P) w s n a sLen sCap cs hcs hsrc
 have hst:=YV P g o t cs 0 cur w hg (by rw[hcs];omega) h1
 rw[gQ] at hst
 cases hq:P.info? elem with
 | none=>simp[hq] at hs
 | some i=>
  have hi:i.size=s:=by simpa [hq] using hs
  simp[Builtin.copy_,Zm hu,Builtin.lenOf,sizeOf,typeInfo,hq,hi,hn,hl,hst]
theorem w7{w:World}{b j:Nat}{cc:Array Value}{t:TypeId}{fz:Nat×Nat}{v:Value}(h:w.heap[b]?=some (.cells cc t fz))(hj:cc[j]?=some v): w.cell? ⟨b,j,none⟩=some v:=by
 simp[World.cell?,h,hj]
theorem aHu(L:aDp P ρ s zs zb)(b n c i vb vc:Nat)(cc vv:Array Value)(Ty Tv:TypeId)(w:World)(hi:i<n)(hroom:n+1<=c)(h40:n+1<=1099511627776)(hvb:vb≠b)(hb:w.heap[b]?=some (.cells cc Ty (0,0)))(hfit:(n+1)*s<=cc.size)(hv:w.heap[vb]?=some (.cells vv Tv (0,0)))(hvl:s<=vv.size)(h1c:∀v∈cc.toList.take (n*s),v.oneCell'=true)(h1v:∀v∈vv.toList.take s,v.oneCell'=true):
 Calls P (ρ.f 22) #[.slice (some ⟨b,0,none⟩) n c,.int .i64 i,.slice (some ⟨vb,0,none⟩) 1 vc] w λe w'=>
  e=.returned (.slice (some ⟨b,0,none⟩) (n+1) c) /\
  w'=(w.drew.setRow b (aT cc.toList ((i+1)*s)<|(cc.toList.take<|n*s).drop<|i*s).toArray).setRow b (aT (aT cc.toList ((i+1)*s)<|(cc.toList.take<|n*s).drop<|i*s) (i*s)<|vv.toList.take s).toArray:=by
 have x1:(n+1)*s=n*s+s:=by rw[ZA,Yw]
 have x2:(i+1)*s=i*s+s:=by rw[ZA,Yw]
 have x3:(n-i)*s=n*s-i*s:=YR _ _ _
 have x4:i*s+s<=n*s:=by rw[<-x2];exact Zr _ hi
 have x5:1*s=s:=Yw _
 have s0:=L.s0
 rw[x2]
 have t3:=L.t3;have a3:=L.a3;have z3:=L.z3;have v3:=L.v3;have t4:=L.t4;have a4:=L.a4;have z4:=L.z4;have v4:=L.v4;have z9:=L.z9;have t24:=L.t24;have a24:=L.a24;have z24:=L.z24;have v24:=L.v24
 have u3:=Zm L.t3;have u4:=Zm L.t4;have u24:=Zm L.t24
 have mixed:=L.mixed
 let⟨nm22,_,F22⟩:=L.f22
 have hz2:¬((i:Int)=(n:Int)):=by omega
 have hsz:(P.info?<|ρ.t 9).map (·.size)=some s:=by
  let⟨i0,hi0,h0,h1,h2⟩:=info_parts L.i9
  rw[hi0];simp[h1]
 have hov:∀lb cb,(callFunc (ρ.f 29) #[.slice (some ⟨vb,0,none⟩) 1 vc,.slice (some ⟨b,i*s+s,none⟩) lb cb]).run P w=.ok (.value<|.bool false) w:=λlb cb=>by
  rw[L.ov,
   Lib.run_overlaps_apart w (ρ.t 24) (ρ.t 4) (ρ.t 9) L.t24 s L.z9 ⟨vb,0,none⟩ ⟨b,i*s+s,none⟩ 1 vc lb cb hvb Tv Ty vv.size cc.size (by simp[World.shape?,hv]) (by simp[World.shape?,hb]) (by omega) (by simp[World.frozen?,hv])<|by simp[World.frozen?,hv]]
  rfl
 have hw1:IntKind.i64.wrap ((i:Int)+1)=((i+1:Nat):Int):=by rw[Xe];omega
 have hw2:IntKind.i64.wrap ((n:Int)+1)=((n+1:Nat):Int):=by rw[Xe];omega
 have hg1:¬(((n+1:Nat):Int) > (c:Int)):=by omega
 have hin:i<=n:=by omega
 have hb1:(0:Int)<=(i:Int)+1:=by omega
 have hb2:¬(c=i+1):=by omega
 have hb3:(i:Int)<=(n:Int)+1:=by omega
 have hb4:¬(c=i):=by omega
 have hD:((cc.toList.take<|n*s).drop<|i*s).length=(n-i)*s:=by
  rw[ZV,ZH,Zx,Yq<|by omega,YR]
 have hV:(vv.toList.take s).length=1*s:=by
  rw[ZH,Zx,Yq hvl,x5]
 have hcp1:∀ty dc sc,(Builtin.copy_ #[(ρ.t 24),(ρ.t 24)] ty #[.slice (some ⟨b,i*s+s,none⟩) (n-i) dc,.slice (some ⟨b,i*s,none⟩) (n+1-i) sc]).run P w.drew=.ok (goInt ((n-i:Nat):Int)) (w.drew.setRow b (aT cc.toList (i*s+s)<|(cc.toList.take<|n*s).drop<|i*s).toArray):=λty dc sc=>
  Qg w.drew _ _ ty (ρ.t 9) b (i*s+s) (n-i) dc ⟨b,i*s,none⟩ (n+1-i) sc (n-i) cc Ty _ L.t24 hsz (by simp only[Wm];split<;>omega) hD
   (λj v hj=>by
    rw[XS]
    refine w7 (w:=w.drew) hb ?_
    rw[Zw,Zs] at hj
    split at hj
    .simpa using hj
    .cases hj) hb (by omega) λv hv'=>h1c v<|ZZ hv'
 generalize hX:aT cc.toList (i*s+s) ((cc.toList.take<|n*s).drop<|i*s)=X at hcp1 |-
 have hXl:X.length=cc.size:=by rw[<-hX,cL<|by rw[hD,Zx];omega];simp
 let⟨W1,hW1⟩:∃W1,W1=w.drew.setRow b X.toArray:=⟨_,rfl⟩
 have hW1b:W1.heap[b]?=some (.cells X.toArray Ty (0,0)):=by rw[hW1];exact Yv w.drew b cc _ Ty _ hb
 have hW1v:W1.heap[vb]?=some (.cells vv Tv (0,0)):=by rw[hW1,Yy w.drew b vb _ hvb];exact hv
 rw[<-hW1] at hcp1 |-
 have hcp2:∀ty dc,(Builtin.copy_ #[(ρ.t 24),(ρ.t 24)] ty #[.slice (some ⟨b,i*s,none⟩) (n+1-i) dc,.slice (some ⟨vb,0,none⟩) 1 vc]).run P W1=.ok (goInt 1) (W1.setRow b (aT X (i*s)<|vv.toList.take s).toArray):=λty dc=>
  Qg W1 _ _ ty (ρ.t 9) b (i*s) (n+1-i) dc ⟨vb,0,none⟩ 1 vc 1 X.toArray Ty _ L.t24 hsz (by simp only[Wm];split<;>omega) hV
   (λj v hj=>by
    rw[XS,Z0]
    refine w7 hW1v ?_
    rw[Zs] at hj
    split at hj
    .simpa using hj
    .cases hj) hW1b (by simp[hXl];omega) h1v
 clear hW1
 go_enter F22,Body2.n22_ntmps ρ
 go_wp2_with (simp only[hov])
 go_region_law_o (refine step_copy_runI rfl _ _ (ρ.t 24) (ρ.t 24) rfl (.slice (some ⟨b,i*s+s,none⟩) (n-i)<|c-(i+1)) (.slice (some ⟨b,i*s,none⟩) (n+1-i)<|c-i) (by simp[Act.eval,Act.put]) (by simp[Act.eval,Act.put]) (hcp1 _ _ _) ?_)
 go_wp2_with (at_builtin;refine wpList_copy_runI _ rfl _ _ (ρ.t 24) (ρ.t 24) rfl _ _ rfl rfl (hcp2 _ _) ?_)
 go_ret
 exact⟨rfl,rfl⟩
theorem aMw(L:aDp P ρ s zs zb)(base:Option Addr)(n c vb vc:Nat)(w w':World)(rv:Value)(hnc:n<=c)(hnil:base=none->n=0)(hrun:∀ty,(Builtin.append_ #[(ρ.t 24),(ρ.t 24)] ty #[.slice base n c,.slice (some ⟨vb,0,none⟩) 1 vc]).run P w=.ok rv w'):
 Calls P (ρ.f 22) #[.slice base n c,.int .i64 n,.slice (some ⟨vb,0,none⟩) 1 vc] w λe w''=>e=.returned rv/\w''=w':=by
 have t3:=L.t3;have a3:=L.a3;have z3:=L.z3;have v3:=L.v3;have t4:=L.t4;have a4:=L.a4;have z4:=L.z4;have v4:=L.v4;have z9:=L.z9;have t24:=L.t24;have a24:=L.a24;have z24:=L.z24;have v24:=L.v24
 have u3:=Zm L.t3;have u4:=Zm L.t4;have u24:=Zm L.t24
 have mixed:=L.mixed
 let⟨nm22,_,F22⟩:=L.f22
 go_enter F22,Body2.n22_ntmps ρ
 cases base with
 | none=>
  have h0:=hnil rfl
  subst h0
  go_wp2_with (at_builtin;refine Lib.wpList_append_run _ rfl _ _ _ _ rfl _ _ rfl rfl _ _ (hrun _) ?_)
  go_ret
  exact⟨rfl,rfl⟩
 | some a=>
  let⟨ab,ao,asp⟩:=a
  go_wp2_with (at_builtin;refine Lib.wpList_append_run _ rfl _ _ _ _ rfl _ _ rfl rfl _ _ (hrun _) ?_)
  all_goals (go_ret;exact⟨rfl,rfl⟩)
theorem aJO{l v d o:List Value}{i n:Nat}(hl:(n+1)*s<=l.length)(hv:v.length=1*s)(hd:d.length=(n-i)*s)(ho:l.take (i*s)=o)(hi:i<n):
 (aT (aT l (i*s) v) ((i+1)*s) d).take ((n+1)*s)=o++(v++d):=by
 have x1:(n+1)*s=n*s+s:=by rw[ZA,Yw]
 have x2:(i+1)*s=i*s+s:=by rw[ZA,Yw]
 have x3:(n-i)*s=n*s-i*s:=YR _ _ _
 have x4:i*s+s<=n*s:=by rw[<-x2];exact Zr _ hi
 have x5:1*s=s:=Yw _
 subst ho
 unfold aT
 have h1:(List.take (i*s) l).length=i*s:=by rw[ZH];omega
 have e1:(List.take (i*s) l++(v++List.drop (i*s+v.length) l)).take ((i+1)*s)=List.take (i*s) l++v:=by
  rw[<-Ye,Yg<|by rw[Zh,h1,hv];omega]
  exact ZW<|by rw[Zh,h1,hv];omega
 rw[e1,Ye,<-Ye v d,<-Ye]
 rw[Yg<|by simp only[Zh,h1,hv,hd];omega]
 exact ZW<|by simp only[Zh,h1,hv,hd];omega
theorem aJP(L:aDp P ρ s zs zb)(b n c i vb vc:Nat)(cc vv:Array Value)(Ty Tv:TypeId)(w:World)(hi:i<n)(hnc:n<=c)(hroom:c<n+1)(hbig:(n+1)*zb<=140737488355328)(h40:n+1<=1099511627776)(hb:w.heap[b]?=some (.cells cc Ty (0,0)))(hfit:n*s<=cc.size)(hv:w.heap[vb]?=some (.cells vv Tv (0,0)))(hvl:s<=vv.size)(h1c:∀v∈cc.toList.take (n*s),v.oneCell'=true)(h1v:∀v∈vv.toList.take s,v.oneCell'=true):
 Calls P (ρ.f 22) #[.slice (some ⟨b,0,none⟩) n c,.int .i64 i,.slice (some ⟨vb,0,none⟩) 1 vc] w λe w'=>∃(G:Nat) (R:Array Value) (q:Nat),n+1<=G/\R.size=G*s /\
  R.toList.take ((n+1)*s)=cc.toList.take (i*s)++(vv.toList.take s++(cc.toList.take<|n*s).drop (i*s)) /\
  e=.returned (.slice (some ⟨w.heap.size,0,none⟩) (n+1) G)/\w'.heap=w.heap.push (.cells R (ρ.t 9) (0,0))/\w'.os=w.os/\w'.tape=w.tape/\w'.output=w.output/\w.drawn<=w'.drawn:=by
 have x1:(n+1)*s=n*s+s:=by rw[ZA,Yw]
 have x2:(i+1)*s=i*s+s:=by rw[ZA,Yw]
 have x3:(n-i)*s=n*s-i*s:=YR _ _ _
 have x4:i*s+s<=n*s:=by rw[<-x2];exact Zr _ hi
 have x5:1*s=s:=Yw _
 have s0:=L.s0
 have t3:=L.t3;have a3:=L.a3;have z3:=L.z3;have v3:=L.v3;have t4:=L.t4;have a4:=L.a4;have z4:=L.z4;have v4:=L.v4;have z9:=L.z9;have t24:=L.t24;have a24:=L.a24;have z24:=L.z24;have v24:=L.v24
 have u3:=Zm L.t3;have u4:=Zm L.t4;have u24:=Zm L.t24
 have mixed:=L.mixed
 let⟨nm22,_,F22⟩:=L.f22
 let⟨i0,hi0,hz0,hzs,hzb⟩:=info_parts L.i9
 have hz2:¬((i:Int)=(n:Int)):=by omega
 have hz3:(c:Int)<(n:Int)+1:=by omega
 have hsz:(P.info?<|ρ.t 9).map (·.size)=some s:=by rw[hi0];simp[hzs]
 have hbw:b<w.heap.size:=by
  rcases ZI b w.heap.size with h | h
  .exact h
  .rw[Yb h] at hb;cases hb
 have hvw:vb<w.heap.size:=by
  rcases ZI vb w.heap.size with h | h
  .exact h
  .rw[Yb h] at hv;cases hv
 have hkk:(n:Int)+1-(i:Int)=((n+1-i:Nat):Int):=by omega
 have hik:i+(n+1-i)=n+1:=by omega
 have hold:(Builtin.firstCells i0.size i<|.slice (some ⟨b,0,none⟩) i c).run P w.drew=.ok (cc.toList.take<|i*s).toArray w.drew:=by
  rw[hzs]
  exact X4 w.drew s i ⟨b,0,none⟩ i c (cc.toList.take<|i*s) (by rw[ZH,Zx];omega) (λj v hj=>by
   rw[XS,Z0]
   refine w7 (w:=w.drew) hb ?_
   rw[Zs] at hj
   split at hj
   .simpa using hj
   .cases hj)
 have hrz:∀ty,(Builtin.append_ #[(ρ.t 24),(ρ.t 3)] ty #[.slice (some ⟨b,0,none⟩) i c,.int .i64<|(n:Int)+1-(i:Int)]).run P w =
  .ok (.slice (some ⟨w.heap.size,0,none⟩) (n+1)<|grownCap w (n+1) c<|ρ.t 9) (w.drew.alloc<|.cells ((cc.toList.take<|i*s).toArray++Builtin.zeroCells (Value.agg zs).cells (n+1-i)++Builtin.zeroCells (Value.agg zs).cells (grownCap w (n+1) c (ρ.t 9)-(n+1)))<|ρ.t 9):=λty=>by
  have h:=Lib.run_append_grow_zeros w (ρ.t 24) (ρ.t 3) ty (ρ.t 9) i0 _ .i64 .i64 L.t24 L.t3 hi0 hz0 (some ⟨b,0,none⟩) i c (cc.toList.take<|i*s) hold (n+1-i) (by omega) (by omega) (by omega) (by omega) (by rw[hzb];exact ZB (Zr _ (by omega:n+1-i<=n+1))<|by omega)<|by rw[hzb,hik];exact growslice_fits hroom hbig
  rw[hik] at h
  rw[hkk]
  exact h
 let⟨G,hG⟩:∃G,G=grownCap w (n+1) c (ρ.t 9):=⟨_,rfl⟩
 have hGn:n+1<=G:=by rw[hG];exact WM w _ _ _
 let⟨ROW,hROW⟩:∃ROW:Array Value,ROW=(cc.toList.take<|i*s).toArray++Builtin.zeroCells (Value.agg zs).cells (n+1-i)++Builtin.zeroCells (Value.agg zs).cells (G-(n+1)):=⟨_,rfl⟩
 rw[<-hG] at hrz
 rw[<-hROW] at hrz
 have hzc:(Value.agg zs).cells=zs:=rfl
 have hRl:ROW.size=G*s:=by
  rw[hROW,hzc]
  simp only[Wh,XY,L.zl,YP,ZH,Zx]
  have y1:(n+1-i)*s=(n+1)*s-i*s:=YR _ _ _
  have y2:(G-(n+1))*s=G*s-(n+1)*s:=YR _ _ _
  have y3:(n+1)*s<=G*s:=Zr _ hGn
  omega
 let⟨W1,hW1⟩:∃W1,W1=w.drew.alloc (.cells ROW<|ρ.t 9):=⟨_,rfl⟩
 have hh1:W1.heap=w.heap.push (.cells ROW (ρ.t 9) (0,0)):=by rw[hW1];rfl
 have e1:W1.os=w.os:=by rw[hW1];rfl
 have e2:W1.tape=w.tape:=by rw[hW1];rfl
 have e3:W1.output=w.output:=by rw[hW1];rfl
 have e4:w.drawn<=W1.drawn:=by rw[hW1];exact Ys _
 rw[<-hW1] at hrz
 have hNb:W1.heap[w.heap.size]?=some (.cells ROW (ρ.t 9) (0,0)):=by rw[hh1];simp
 have hOb:W1.heap[b]?=some (.cells cc Ty (0,0)):=by rw[hh1,ZU,ZF<|by omega];exact hb
 have hOv:W1.heap[vb]?=some (.cells vv Tv (0,0)):=by rw[hh1,ZU,ZF<|by omega];exact hv
 clear hW1
 have hV:(vv.toList.take s).length=1*s:=by rw[ZH,Zx,Yq hvl,x5]
 have hD:((cc.toList.take<|n*s).drop<|i*s).length=(n-i)*s:=by
  rw[ZV,ZH,Zx,Yq<|by omega,YR]
 have hG63:G<=9223372036854775807:=by
  have:=grownCap_le_maxLen w (n+1) c (ρ.t 9)<|by unfold maxLen;omega
  rw[<-hG] at this
  unfold maxLen at this
  omega
 clear hG
 generalize hA:aT ROW.toList (i*s) (vv.toList.take s)=A
 have x6:(n+1)*s<=G*s:=Zr _ hGn
 have hAl:A.length=G*s:=by rw[<-hA,cL<|by rw[hV,Zx];omega,Zx,hRl]
 have hcpA:∀ty dc,(Builtin.copy_ #[(ρ.t 24),(ρ.t 24)] ty #[.slice (some ⟨w.heap.size,i*s,none⟩) (n+1-i) dc,.slice (some ⟨vb,0,none⟩) 1 vc]).run P W1=.ok (goInt 1) (W1.setRow w.heap.size A.toArray):=λty dc=>by
  rw[<-hA]
  exact Qg W1 _ _ ty (ρ.t 9) w.heap.size (i*s) (n+1-i) dc ⟨vb,0,none⟩ 1 vc 1 ROW (ρ.t 9) _ L.t24 hsz (by simp only[Wm];split<;>omega) hV
   (λj v hj=>by
    rw[XS,Z0]
    refine w7 hOv ?_
    rw[Zs] at hj
    split at hj
    .simpa using hj
    .cases hj) hNb (by omega) h1v
 let⟨W2,hW2⟩:∃W2,W2=W1.setRow w.heap.size A.toArray:=⟨_,rfl⟩
 rw[<-hW2] at hcpA
 have hN2:W2.heap[w.heap.size]?=some (.cells A.toArray (ρ.t 9) (0,0)):=by rw[hW2];exact Yv W1 _ ROW _ _ _ hNb
 have hO2:W2.heap[b]?=some (.cells cc Ty (0,0)):=by rw[hW2,Yy W1 _ b _<|by omega];exact hOb
 have hh2:W2.heap=w.heap.push (.cells A.toArray (ρ.t 9) (0,0)):=by
  apply Xj
  intro k
  by_cases hk:k=w.heap.size
  .subst hk;rw[hN2];simp
  .rw[hW2,Yy W1 _ k _ hk,hh1,ZU,ZU,ZF hk,ZF hk]
 have f1:W2.os=W1.os:=by rw[hW2];rfl
 have f2:W2.tape=W1.tape:=by rw[hW2];rfl
 have f3:W2.output=W1.output:=by rw[hW2];rfl
 have f4:W2.drawn=W1.drawn:=by rw[hW2];rfl
 clear hW2
 generalize hB:aT A (i*s+s) ((cc.toList.take<|n*s).drop<|i*s)=B
 have hBl:B.length=G*s:=by rw[<-hB,cL<|by rw[hD,hAl];omega,hAl]
 have hcpB:∀ty dc sc,(Builtin.copy_ #[(ρ.t 24),(ρ.t 24)] ty #[.slice (some ⟨w.heap.size,i*s+s,none⟩) (n-i) dc,.slice (some ⟨b,i*s,none⟩) (n-i) sc]).run P W2.drew=.ok (goInt ((n-i:Nat):Int)) (W2.drew.setRow w.heap.size B.toArray):=λty dc sc=>by
  rw[<-hB]
  exact Qg W2.drew _ _ ty (ρ.t 9) w.heap.size (i*s+s) (n-i) dc ⟨b,i*s,none⟩ (n-i) sc (n-i) A.toArray (ρ.t 9) _ L.t24 hsz (by simp only[Wm];split<;>omega) hD
   (λj v hj=>by
    rw[XS]
    refine w7 (w:=W2.drew) hO2 ?_
    rw[Zw,Zs] at hj
    split at hj
    .simpa using hj
    .cases hj) hN2 (by rw[YP,hAl];omega) λv hv'=>h1c v<|ZZ hv'
 let⟨W3,hW3⟩:∃W3,W3=W2.drew.setRow w.heap.size B.toArray:=⟨_,rfl⟩
 rw[<-hW3] at hcpB
 have hh3:W3.heap=w.heap.push (.cells B.toArray (ρ.t 9) (0,0)):=by
  have hN2':W2.drew.heap[w.heap.size]?=some (.cells A.toArray (ρ.t 9) (0,0)):=hN2
  apply Xj
  intro k
  by_cases hk:k=w.heap.size
  .subst hk;rw[hW3,Yv W2.drew _ A.toArray _ _ _ hN2'];simp
  .rw[hW3,Yy W2.drew _ k _ hk]
   show W2.heap[k]?=_
   rw[hh2,ZU,ZU,ZF hk,ZF hk]
 have g1:W3.os=w.os:=by rw[hW3,<-e1,<-f1];rfl
 have g2:W3.tape=w.tape:=by rw[hW3,<-e2,<-f2];rfl
 have g3:W3.output=w.output:=by rw[hW3,<-e3,<-f3];rfl
 have g4:w.drawn<=W3.drawn:=by
  rw[hW3]
  show w.drawn<=W2.drawn+1
  omega
 clear hW3
 have hfin:B.toArray.toList.take ((n+1)*s)=cc.toList.take (i*s)++(vv.toList.take s++(cc.toList.take<|n*s).drop (i*s)):=by
  have hRo:ROW.toList.take (i*s)=cc.toList.take (i*s):=by
   rw[hROW]
   simp only[Array.toList_append,Ye]
   rw[Yg<|by rw[ZH,Zx];omega]
   exact ZW<|by rw[ZH,Zx];omega
  show B.take ((n+1)*s)=_
  rw[<-hB,<-hA,<-x2]
  refine aJO (l:=ROW.toList) (by rw[Zx,hRl];omega) (by rw[hV]) (by rw[hD]) hRo<|by omega
 have hw1:IntKind.i64.wrap ((i:Int)+1)=(i:Int)+1:=by rw[Xe];omega
 have hw2:IntKind.i64.wrap ((n:Int)+1)=(n:Int)+1:=by rw[Xe];omega
 have hb1:(0:Int)<=(i:Int)+1:=by omega
 have hin:i<=n:=by omega
 have hb3:(i:Int)<=(n:Int):=by omega
 have hGi:¬(G=i):=by omega
 have hGim:¬(G=i+1):=by omega
 have hci:¬(c=i):=by omega
 have hres:∀e w',e=Ending.returned (.slice (some ⟨w.heap.size,0,none⟩) (n+1) G)/\w'=W3->∃(G:Nat) (R:Array Value) (q:Nat),n+1<=G/\R.size=G*s /\
  R.toList.take ((n+1)*s)=cc.toList.take (i*s)++(vv.toList.take s++(cc.toList.take<|n*s).drop (i*s)) /\
  e=.returned (.slice (some ⟨w.heap.size,0,none⟩) (n+1) G)/\w'.heap=w.heap.push (.cells R (ρ.t 9) (0,0))/\w'.os=w.os/\w'.tape=w.tape/\w'.output=w.output/\w.drawn<=w'.drawn:=by
  rintro e w' ⟨rfl,rfl⟩
  exact⟨G,B.toArray,0,hGn,by simpa using hBl,hfin,rfl,hh3,g1,g2,g3,g4⟩
 clear hkk hik hold hROW hRl hfin hh1 hh2 hh3 e1 e2 e3 e4 f1 f2 f3 f4 g1 g2 g3 g4 hNb hOb hOv hN2 hO2
 refine Calls.mono (R:=λe w'=>e=Ending.returned (.slice (some ⟨w.heap.size,0,none⟩) (n+1) G)/\w'=W3) ?_ λe w' h=>hres e w' h
 clear hres
 go_enter F22,Body2.n22_ntmps ρ
 go_wp2_with (first
  | (at_builtin;refine Lib.wpList_append_run _ rfl _ _ _ _ rfl _ _ rfl rfl _ _ (hrz _) ?_)
  | (at_builtin;refine wpList_copy_runI _ rfl _ _ (ρ.t 24) (ρ.t 24) rfl _ _ rfl rfl (hcpA _ _) ?_))
 go_region_law_o (refine step_copy_runI rfl _ _ (ρ.t 24) (ρ.t 24) rfl (.slice (some ⟨w.heap.size,i*s+s,none⟩) (n-i)<|G-(i+1)) (.slice (some ⟨b,i*s,none⟩) (n-i)<|c-i) (by simp[Act.eval,Act.put]) (by simp[Act.eval,Act.put]) (hcpB (ρ.t 3) (G-(i+1))<|c-i) ?_)
 go_wp2
 go_ret
 exact⟨rfl,rfl⟩
end
section
open Go.Proofs Go.Shelf Go.RowKit Go.Lib
variable {FT:Nat->Option Nat}{P:Program}{T:List cQ}{c:dH}{es:List<|List AV}{fl i id id2 k:Nat}{m:List Value}{row:List AV}{s:Nat}{ys:List<|List AV}
section
def aAZ[aH](FT:Nat->Option Nat)(c:dH)(fl:Nat)(r:AV)(H':aY)(v:Value)(w':World): Prop:=
 ∃c',c'.w=w'/\c'.H=H'/\c'.X=c.X/\bV fl c c'/\bY FT c'/\RV FT c' r v
theorem aED[aH](A:bY (aL T) c){t e:TypeId}{i:TypeInfo}{z:Value}{bytes:Nat}{xv yv:Value}(q:fl<=id)(m:c.H[id]?=some (.blk s es))(K:c.H[id2]?=some (.blk s [row]))(Z:RV (aL T) c (.ms id es.length 0 es.length) xv)(hy:RV (aL T) c (.ms id2 1 0 1) yv)(ht:P.underlying t=some (.slice e))(hi:P.info? e=some i)(a3:i.size=s)(a1:i.bytes=bytes)(hz:i.zero=some z)(a2:z.cells.size=s)(Q:0<s)(F:lD (es.length+1) bytes=true)(Y:TypeId):
 ∃v w',(Builtin.append_ #[t,t] Y #[xv,yv]).run P c.w=.ok v w'/\aAZ (aL T) c fl (.ms id (es.length+1) 0<|es.length+1) (c.H.set id<|.blk s<|es++[row]) v w':=by
 subst a3 a1;have n:=A.lens id i.size es m;have B:∀e∈[row],e.length=i.size:=A.lens id2 i.size [row] K;let⟨xa,xc,g,V,_,G,b2⟩:=aB8 (P:=P) A hy (by simp[rd,K]:rd c.H (.ms id2 1 0 1)=some [row]) B Q;have C:Src P c.w t t e i yv 1 g:=by
  rw[V];refine L5 ht ht hi λw' hd=>?_;have:=b2 w' hd;rw[V] at this;exact this
 let⟨ad,cap,s0,n0,hv,g1,g2,g3,g4⟩:=Z.ms_inv;rw[eT m] at g1;cases g1;let⟨m1,m2⟩:=g4 rfl;have y:cap<es.length+1->∃v w',(Builtin.append_ #[t,t] Y #[xv,yv]).run P c.w=.ok v w'/\aAZ (aL T) c fl (.ms id (es.length+1) 0<|es.length+1) (c.H.set id<|.blk i.size<|es++[row]) v w':=by
  intro p;let⟨c2,d1,O,M,W,k3⟩:=sX (P:=P) A Z (by simp[rd,m]:rd c.H (.ms id es.length 0 es.length)=some es) n Q;rw[hv] at M;cases M;let⟨f1,f2⟩:=O5 F p;let⟨a,S,q2⟩:=C.grow Y z ad es.length cap O hz p f2 f1 k3;have R:=WM c.w (es.length+1) cap e;have r:a.size=grownCap c.w (es.length+1) cap e*i.size:=by
   have:=congrArg List.length S;simp only[Zx,Zh,W.1,G.1,XY,a2] at this;rw[this,<-ZA,<-ZA];congr 1;show es.length+1+_=_;omega
  have N:es.length<(es++[row]).length:=by simp
  have q4:∀f∈es++[row],f.length=i.size:=by
   intro f hf;rcases ZD.1 hf with h | h
   .exact n f h
   .exact B f h
  have q5:∀k j x,bI (es++[row]) k j=some x->∃v,a[k*i.size+j]?=some v/\bC v=true/\RV (aL T) c x v:=by
   intro k j x Z;let⟨u,M,W,k3⟩:=Mu (rest:=(Builtin.zeroCells z.cells<|grownCap c.w (es.length+1) cap e-(es.length+1)).toList) W G k j x Z;refine⟨u,?_,W,k3⟩;rw[<-S] at M;simpa using M
  rw[hv];refine⟨_,_,q2,⟨c.w.drew.alloc<|.cells a e (0,0),c.X,upd c.β id c.w.heap.size,c.H.set id<|.blk i.size<|es++[row]⟩,rfl,rfl,rfl,El (ob:=.cells a e (0,0)) A q m N rfl rfl rfl rfl,
   EN (cs':=a) (T:=e) A m N rfl rfl rfl rfl q4 (by rw[r];exact Zr _<|by simpa using R) q5,?_⟩
  refine .ms id (es.length+1) 0 (es.length+1) _ _ i.size (es.length+1) (by rw[tQ m];simp) (Zf _) R λ_=>⟨by omega,.inr ⟨c.w.heap.size,a,e,_,eC _ _ _,?_,by simpa using r.symm,rfl,λ_=>by simp⟩⟩;exact Wq c.w.drew _
 rcases m2 with⟨_,U,E,m5⟩ | ⟨b,cc,L,a',U,E,m5,m6,m7⟩
 .exact y<|by omega
 .by_cases p:cap<es.length+1
  .exact y p
  .have ha:=m7<|by omega
   subst m6;subst ha;let⟨c1,b3,S,q2,q3⟩:=A.blk id i.size es b m U;rw[E] at S;cases S;have o:es.length*i.size+g.length<=cc.size:=by
    rw[G.1,<-m5,<-ZA];exact Zr _<|by show es.length+1<=0+cap;omega
   let⟨p1,p2⟩:=Hh (k:=es.length) n B (Zf _) G o q3;have b1:aT es es.length [row]=es++[row]:=by simp[aT]
   rw[b1] at p1 p2;have J:=YV P b (es.length*i.size) L g 0 cc c.w E (by simpa using o)<|gW B G;rw[gQ] at J;have d:=cL (l:=cc.toList) (vs:=g) (k:=es.length*i.size)<|by simpa using o
   have D:=C.run Y (some ⟨b,0*i.size,none⟩) es.length cap (by omega) _ (λc3 h=>by cases h;rw[fF];simpa using J) λh=>by cases h
   rw[<-hv] at D;refine⟨_,_,D,⟨c.w.setRow b (aT cc.toList (es.length*i.size) g).toArray,c.X,c.β,c.H.set id<|.blk i.size<|es++[row]⟩,rfl,rfl,rfl,
    mP (cs':=(aT cc.toList (es.length*i.size) g).toArray) A q m U E (by simp) (by simpa using d) (Yv c.w b cc _ L _ E) (λk hk=>Yy c.w b k _ hk) (by simp) rfl rfl rfl,
    wP (cs':=(aT cc.toList (es.length*i.size) g).toArray) A m U E (by simp) (by simpa using d) (Yv c.w b cc _ L _ E) (λk hk=>Yy c.w b k _ hk) (by simp) rfl rfl rfl p1 ?_ p2,?_⟩
   .simp only[Zh,YP,d,Zx];rw[ZA,<-G.1];exact o
   .refine .ms id (es.length+1) 0 (es.length+1) _ cap i.size (es.length+1) (by rw[tQ m];simp) (Zf _) (by omega) λ_=>⟨by omega,.inr ⟨b,_,L,_,U,Yv c.w b cc _ L _ E,?_,rfl,λ_=>rfl⟩⟩;simpa [d] using m5
theorem p9[aH]{a:List<|List AV}{n:List Value}(h:eX FT c s ys m)(k:eX FT c s a n): eX FT c s (ys++a)<|m++n:=by
 refine⟨by rw[Zh,Zh,h.1,k.1,ZA],λi j x f=>?_⟩;let⟨u,b,d,e⟩:=Mu (rest:=[]) h k i j x f;exact⟨u,by simpa using b,d,e⟩
theorem aCD(l:∀e∈ys,e.length=s)(h:eX FT c s ys m)(b:k<=ys.length): eX FT c s (ys.take k)<|m.take<|k*s:=by
 refine⟨?_,λi j x g=>?_⟩
 .rw[ZH,ZH,h.1,Yq b,Yq<|Zr _ b]
 .let⟨e,a,d⟩:=dC g;rw[Zs] at a;split at a
  .rename_i p;have f:j<s:=by
    have:=l e<|Zg a;rw[<-this];exact (Ze.1 d).1
   let⟨u,n,q,o⟩:=h.2 i j x<|by simp[bI,a,d]
   exact⟨u,by rw[Zs,Zu<|KM p f];exact n,q,o⟩
  .cases a
theorem aCE(h:eX FT c s ys m): eX FT c s (ys.drop k)<|m.drop<|k*s:=by
 refine⟨?_,λi j x g=>?_⟩
 .rw[ZV,ZV,h.1,YR]
 .let⟨e,a,d⟩:=dC g;rw[Zw] at a;let⟨u,l,b,f⟩:=h.2 (k+i) j x<|by simp[bI,a,d]
  exact⟨u,by rw[Zw,<-Yu,<-ZA];exact l,b,f⟩
theorem p8{cc:Array Value}(k:∀e∈es,e.length=s)(a:es.length*s<=cc.size)(h:∀i j x,bI es i j=some x->∃v,cc[i*s+j]?=some v/\bC v=true/\RV FT c x v): eX FT c s es<|cc.toList.take<|es.length*s:=by
 refine⟨by rw[ZH,Zx];exact Yq a,λi j x b=>?_⟩;let⟨e,d,g⟩:=dC b;have m:=(Ze.1 d).1;have o:j<s:=by
  have:=k e<|Zg d;rw[<-this];exact (Ze.1 g).1
 let⟨u,f,n,l⟩:=h i j x b;exact⟨u,by rw[Zs,Zu<|KM m o,Z8];exact f,n,l⟩
theorem aHv{l v d:List Value}{n:Nat}(m:(n+1)*s<=l.length)(a:v.length=1*s)(e:d.length=(n-i)*s)(g:i<n):
 (aT (aT l ((i+1)*s) d) (i*s) v).take ((n+1)*s)=l.take (i*s)++(v++d):=by
 have k:(n+1)*s=n*s+s:=by rw[ZA,Yw]
 have f:(i+1)*s=i*s+s:=by rw[ZA,Yw]
 have o:(n-i)*s=n*s-i*s:=YR _ _ _;have p:i*s+s<=n*s:=by rw[<-f];exact Zr _ g
 have j:1*s=s:=Yw _;unfold aT;have c:(List.take ((i+1)*s) l).length=(i+1)*s:=by rw[ZH];omega
 have h:(List.take ((i+1)*s) l++(d++List.drop ((i+1)*s+d.length) l)).take (i*s)=l.take (i*s):=by
  rw[Yg<|by rw[c];omega,Y9,Yq<|by omega]
 have e2:(List.take ((i+1)*s) l++(d++List.drop ((i+1)*s+d.length) l)).drop (i*s+v.length)=d++List.drop ((i+1)*s+d.length) l:=by
  rw[a,show i*s+1*s=(List.take ((i+1)*s) l).length by rw[c];omega,Y2]
 have b:(List.take (i*s) l).length=i*s:=by rw[ZH];omega
 rw[h,e2,<-Ye v d,<-Ye];rw[Yg<|by simp only[Zh,b,a,e];omega];exact ZW<|by simp only[Zh,b,a,e];omega
theorem aP4[aH]{ρ:Ren}{zs:Array Value}{zb:Nat}(L:aDp P ρ s zs zb)(e3:zb<=100000)(C:bY (aL T) c){vs:Array Value}(p:fl<=id)(k3:id≠id2)(d:c.H[id]?=some (.blk s es))(E:c.H[id2]?=some (.blk s [row]))(hi:i<=es.length)(hl:es.length<=1000000)(m:lO (aL T) c [.ms id es.length 0 es.length,.lit<|.int .i64 i,.ms id2 1 0 1] vs):
 Calls P (ρ.f 22) vs c.w λe w'=>∃v,e=.returned v/\aAZ (aL T) c fl (.ms id (es.length+1) 0<|es.length+1) (c.H.set id<|.blk s (es.take i++row::es.drop i)) v w':=by
 let⟨x0,k0,r0⟩:=m.2 0 _ rfl;let⟨x1,k1,r1⟩:=m.2 1 _ rfl;let⟨x2,k2,r2⟩:=m.2 2 _ rfl;have i1:=r1.lit_inv;have l1:vs=#[x0,.int .i64 i,x2]:=by
  subst i1;apply XQ
  .exact m.1
  .intro j O c1;have i3:j<3:=by simpa using c1
   match j,i3 with
   | 0,_=>exact ZR<|(Z6 O).symm.trans k0
   | 1,_=>exact ZR<|(Z6 O).symm.trans k1
   | 2,_=>exact ZR<|(Z6 O).symm.trans k2
 subst l1;have a:=C.lens id s es d;have Z:∀e∈[row],e.length=s:=C.lens id2 s [row] E;let⟨i0,c3,i2,d2,b1⟩:=info_parts L.i9;have B:lD (es.length+1) zb=true:=by
  have y:(es.length+1)*zb<=1000001*100000:=Y8 (by omega) e3;simp only[lD,Zd,Z4];omega
 obtain⟨a0,c0,s0,n0,rfl,g1,g2,g3,g4⟩:=r0.ms_inv;rw[eT d] at g1;cases g1;let⟨m1,m2⟩:=g4 rfl;obtain⟨a2,c2,s2,n2,rfl,j1,j2,j3,j4⟩:=r2.ms_inv;rw[eT E] at j1;cases j1;let⟨_,p2⟩:=j4 rfl;rcases p2 with⟨_,h0,_⟩ | ⟨vb,D,Tv,b2,q1,q2,q3,rfl,q5⟩
 .cases h0
 obtain rfl:=q5<|by omega
 rw[YQ] at r2 |-;by_cases e2:i=es.length
 .subst e2;let⟨v,w',b3,J⟩:∃v w',(∀ty,(Builtin.append_ #[(ρ.t 24),(ρ.t 24)] ty #[.slice a0 es.length c0,.slice (some ⟨vb,0,none⟩) 1 c2]).run P c.w=.ok v w')/\aAZ (aL T) c fl (.ms id (es.length+1) 0<|es.length+1) (c.H.set id<|.blk s<|es++[row]) v w':=by
   have d3:=λty=>aED (P:=P) (fl:=fl) C (id:=id) (id2:=id2) (es:=es) (row:=row) (t:=ρ.t 24) (e:=ρ.t 9) (i:=i0) (z:=.agg zs) (s:=s) (bytes:=zb) p d E r0 r2 L.t24 c3 d2 b1 i2 L.zl L.s0 B ty;let⟨v,w',y,M⟩:=d3 0;refine⟨v,w',λty=>?_,M⟩;rw[<-y];rfl
  refine (aMw L a0 es.length c0 vb c2 c.w w' v g3 (λh=>by
   rcases m2 with⟨_,h0,_⟩ | ⟨b,cc,I,a',m3,N,m5,m6,m7⟩
   .exact h0
   .rw[h] at m6;cases m6)<|by simpa using b3).mono λe n3 ⟨he,hw⟩=>?_
  subst hw;refine⟨v,he,?_⟩;simpa using J
 have F:i<es.length:=by omega
 rcases m2 with⟨_,h0,_⟩ | ⟨b,cc,I,a',m3,N,m5,rfl,m7⟩
 .omega
 obtain rfl:=m7<|by omega
 rw[YQ] at r0 |-;have d1:vb≠b:=λe=>k3<|C.inj id id2 b m3<|e▸q1;let⟨l2,o1,u1,u2,u3⟩:=C.blk id s es b d m3;rw[N] at u1;cases u1;let⟨l3,n1,w1,w2,w3⟩:=C.blk id2 s [row] vb E q1;rw[q2] at w1;cases w1;have E1:=p8 a u2 u3;have E2:=p8 Z w2 w3;have S:eX (aL T) c s [row]<|D.toList.take s:=by simpa using E2
 have W:s<=D.size:=by simpa using w2
 have K:=gW a E1;have V:=gW Z S;have E3:eX (aL T) c s (es.take i++row::es.drop i)<|cc.toList.take (i*s)++(D.toList.take s++(cc.toList.take<|es.length*s).drop (i*s)):=by
  have e1:cc.toList.take (i*s)=(cc.toList.take<|es.length*s).take (i*s):=by rw[Y9,Yq<|Zr _ hi]
  rw[e1];exact p9 (aCD a E1 hi)<|p9 (ys:=[row]) S<|aCE E1
 have Q:∀f∈es.take i++row::es.drop i,f.length=s:=by
  intro f hf;rcases ZD.1 hf with h | h
  .exact a f<|Z7 h
  .rcases ZN.1 h with rfl | h
   .exact Z _<|by simp
   .exact a f<|ZZ h
 have g:(es.take i++row::es.drop i).length=es.length+1:=by
  simp only[Zh,ZH,Yc,ZV];omega
 have o:∀R:Array Value,R.toList.take ((es.length+1)*s)=cc.toList.take (i*s)++(D.toList.take s++(cc.toList.take<|es.length*s).drop (i*s))->
  ∀k j x,bI (es.take i++row::es.drop i) k j=some x->∃v,R[k*s+j]?=some v/\bC v=true/\RV (aL T) c x v:=by
  intro R hR k j x hx;let⟨v,y,M,h3⟩:=E3.2 k j x hx;refine⟨v,?_,M,h3⟩;rw[<-hR,Zs] at y;split at y
  .rw[<-Z8];exact y
  .cases y
 by_cases a3:c0<es.length+1
 .refine (aJP L b es.length c0 i vb c2 cc D I Tv c.w F g3 a3 (by
   have:=(M4 B).1;omega) (by omega) N u2 q2 W K V).mono λe w' hq=>?_
  obtain⟨G,R,q,f1,f2,f3,rfl,f5,f6,f7,f8,f9⟩:=hq;have a1:es.length<(es.take i++row::es.drop i).length:=by omega
  refine⟨_,rfl,⟨w',c.X,upd c.β id c.w.heap.size,c.H.set id<|.blk s (es.take i++row::es.drop i)⟩,rfl,rfl,rfl,El C p d a1 f5 f6 f7 f8 f9,EN (cs':=R) C d a1 f5 f6 f7 f8 Q (by rw[g,f2];exact Zr _ f1) (o R f3) f9,?_⟩;refine .ms id (es.length+1) 0 (es.length+1) _ G s (es.length+1) (by rw[tQ d,Zu rfl,g]) (Zf _) f1 λ_=>⟨by omega,.inr ⟨c.w.heap.size,R,ρ.t 9,_,eC _ _ _,?_,by rw[f2,Z0],rfl,λ_=>by simp⟩⟩;show w'.heap[c.w.heap.size]?=_;rw[f5];simp
 .have u:(es.length+1)*s<=cc.size:=by rw[<-m5,Z0];exact Zr _<|by omega
  .refine (aHu L b es.length c0 i vb c2 cc D I Tv c.w F (by omega) (by omega) d1 N u q2 W K V).mono λe w' hq=>?_;obtain⟨rfl,rfl⟩:=hq;have hD:((cc.toList.take<|es.length*s).drop<|i*s).length=(es.length-i)*s:=by
    rw[ZV,ZH,Zx,Yq<|by omega,YR]
   have x1:(es.length+1)*s=es.length*s+s:=by rw[ZA,Yw]
   have x2:(i+1)*s=i*s+s:=by rw[ZA,Yw]
   have x3:(es.length-i)*s=es.length*s-i*s:=YR _ _ _;have x4:i*s+s<=es.length*s:=by rw[<-x2];exact Zr _ F
   have x5:1*s=s:=Yw _;have hV:(D.toList.take s).length=1*s:=by rw[ZH,Zx,Yq W,x5]
   have hB:=aHv (l:=cc.toList) (v:=D.toList.take s) (i:=i) (n:=es.length) (by rw[Zx];exact u) hV hD F;have U:(aT cc.toList ((i+1)*s)<|(cc.toList.take<|es.length*s).drop<|i*s).length=cc.size:=by
    have y:(i+1)*s+(es.length-i)*s<=cc.size:=by
     clear o Q E3 K V E1 E2 S;omega
    rw[cL<|by rw[hD,Zx];exact y,Zx]
   generalize hX:aT cc.toList ((i+1)*s) ((cc.toList.take<|es.length*s).drop<|i*s)=X at U hB |-;have A:(aT X (i*s)<|D.toList.take s).length=cc.size:=by rw[cL<|by rw[hV,U];omega,U]
   generalize hY:aT X (i*s) (D.toList.take s)=Y at A hB |-;have y:(c.w.drew.setRow b X.toArray).heap[b]?=some (.cells X.toArray I (0,0)):=Yv c.w.drew b cc _ I _ N;have M:((c.w.drew.setRow b X.toArray).setRow b Y.toArray).heap[b]?=some (.cells Y.toArray I (0,0)):=Yv _ b _ _ I _ y;have h3:∀k,k≠b->((c.w.drew.setRow b X.toArray).setRow b Y.toArray).heap[k]?=c.w.heap[k]?:=λk hk=>(Yy _ b k _ hk).trans<|Yy c.w.drew b k _ hk;have h4:((c.w.drew.setRow b X.toArray).setRow b Y.toArray).heap.size=c.w.heap.size:=by simp
   refine⟨_,rfl,⟨(c.w.drew.setRow b X.toArray).setRow b Y.toArray,c.X,c.β,c.H.set id<|.blk s (es.take i++row::es.drop i)⟩,rfl,rfl,rfl,
    mP (cs':=Y.toArray) C p d m3 N (by omega) (by simpa using A) M h3 h4 rfl rfl rfl<|Ys _,
    wP (cs':=Y.toArray) C d m3 N (by omega) (by simpa using A) M h3 h4 rfl rfl rfl Q (by rw[g];simpa [A] using u) (o Y.toArray hB)<|Ys _,?_⟩
   refine .ms id (es.length+1) 0 (es.length+1) _ c0 s (es.length+1) (by rw[tQ d,Zu rfl,g]) (Zf _) (by omega) λ_=>⟨by omega,.inr ⟨b,Y.toArray,I,_,m3,M,by rw[YP,A];exact m5,rfl,λ_=>by rw[YQ]⟩⟩
end
end
section
open jH (den cds ag)
def WO[aH](P:Program)(cf:CF)(fl:Nat)(ops:List bR)(st:St)(K:St->Prop): Prop:=∃s,jF P cf fl ops st=some s/\K s
def WC[aH](P:Program)(cf:CF)(lf fl:Nat)(c:bS)(st:St)(K:cV->St->Prop): Prop:=∃x s,eS P cf lf fl c st=some (x,s)/\K x s
section
variable {P:Program}{cf:CF}{lf fl:Nat}{tm:List AV}{H H':aY}{v:AV}{K:cV->St->Prop}{st:St}
theorem WO.nil[aH]{K:St->Prop}(h:K st): WO P cf fl [] st K:=⟨st,rfl,h⟩
theorem WO.op[aH]{d:Option Nat}{op:Hq}{r:List bR}{K:St->Prop}(h:aM P cf fl op tm H=some (v,H'))(k:WO P cf fl r ⟨iM tm d v,H'⟩ K): WO P cf fl (⟨d,op,none⟩::r) ⟨tm,H⟩ K:=by
 let⟨s,a,b⟩:=k;refine⟨s,?_,b⟩;simp only[jF,cR,eY,h,a]
theorem WC.reg[aH]{b:Bool}{ops:List bR}(h:WO P cf fl ops st<|K .normal): WC P cf lf fl (.region b [] ops) st K:=by
 let⟨s,a,c⟩:=h;exact⟨_,s,by simp only[eS,Kg,a],c⟩
theorem WC.seq[aH]{a b:bS}(h:WC P cf lf fl a st λx s=>match x with | .normal=>WC P cf lf fl b s K | x=>K x s): WC P cf lf fl (.seq a b) st K:=by
 let⟨x,s,e,d⟩:=h;cases x with
 | normal=>
  let⟨y,u,j,k⟩:=d;exact⟨y,u,by simp only[eS,e,j],k⟩
 | exit i=>exact⟨_,s,by simp only[eS,e],d⟩
 | ret=>exact⟨_,s,by simp only[eS,e],d⟩
theorem WC.cond[aH]{c:bB}{a b:bS}{t:Bool}(h:aI st.tmps c=.lit (.bool t))(k:WC P cf lf fl (match t with | true=>a | false=>b) st K): WC P cf lf fl (.cond c a b) st K:=by
 let⟨x,s,d,e⟩:=k;refine⟨x,s,?_,e⟩;cases t<;>simp only[eS,h]<;>exact d
theorem WC.condT[aH]{c:bB}{a b:bS}{t:Bool}(h:aI st.tmps c=.lit (.bool t))(d:t=true)(k:WC P cf lf fl a st K): WC P cf lf fl (.cond c a b) st K:=by subst d;exact WC.cond h k
theorem WC.condF[aH]{c:bB}{a b:bS}{t:Bool}(h:aI st.tmps c=.lit (.bool t))(d:t=false)(k:WC P cf lf fl b st K): WC P cf lf fl (.cond c a b) st K:=by subst d;exact WC.cond h k
theorem WC.block[aH]{i:Nat}{c:bS}(h:WC P cf lf fl c st λx s=>match x with | .exit j=>K (if j=i then .normal else .exit j) s | x=>K x s): WC P cf lf fl (.block i c) st K:=by
 let⟨x,s,d,b⟩:=h;cases x with
 | exit j=>
  refine⟨_,s,?_,b⟩;simp only[eS,d];split<;>rfl
 | normal=>exact⟨_,s,by simp only[eS,d],b⟩
 | ret=>exact⟨_,s,by simp only[eS,d],b⟩
theorem WC.skip[aH](h:K .normal st): WC P cf lf fl .skip st K:=⟨_,st,rfl,h⟩
theorem WC.exit[aH]{i:Nat}(h:K (.exit i) st): WC P cf lf fl (.exit i) st K:=⟨_,st,rfl,h⟩
theorem WC.ret[aH](h:K .ret st): WC P cf lf fl .ret st K:=⟨_,st,rfl,h⟩
theorem WC.scope[aH]{c:bS}(h:WC P cf lf fl c st K): WC P cf lf fl (.scope c) st K:=h
theorem WC.imp[aH]{c:bS}{a:cV->St->Prop}(h:WC P cf lf fl c st K)(k:∀x s,K x s->a x s): WC P cf lf fl c st a:=by
 let⟨x,s,d,b⟩:=h;exact⟨x,s,d,k x s b⟩
def WL[aH](P:Program)(cf:CF)(lf fl N:Nat)(live:List Bool)(tr:Bool)(b:bS)(m:Nat)(st:St)(K:cV->St->Prop): Prop:=∃x s,fV (dO (some live) tr fl N) (λst=>eS P cf lf fl b st) m st=some (x,s)/\K x s
theorem WL.step[aH]{N:Nat}{live:List Bool}{tr:Bool}{b:bS}{m:Nat}(h:WC P cf lf fl b (dO (some live) tr fl N st) λx s=>match x with | .normal=>WL P cf lf fl N live tr b m s K | x=>K x s): WL P cf lf fl N live tr b (m+1) st K:=by
 let⟨x,s,d,c⟩:=h;cases x with
 | normal=>
  let⟨y,u,g,j⟩:=c;exact⟨y,u,by simp only[fV,d,g],j⟩
 | exit i=>exact⟨_,s,by simp only[fV,d],c⟩
 | ret=>exact⟨_,s,by simp only[fV,d],c⟩
theorem WL.imp[aH]{N:Nat}{live:List Bool}{tr:Bool}{b:bS}{m:Nat}{a:cV->St->Prop}(h:WL P cf lf fl N live tr b m st K)(k:∀x s,K x s->a x s): WL P cf lf fl N live tr b m st a:=by
 let⟨x,s,c,d⟩:=h;exact⟨x,s,c,k x s d⟩
theorem WC.loop[aH]{live:List Bool}{tr:Bool}{b:bS}(h:WL P cf lf fl st.heap.length live tr b lf st K): WC P cf lf fl (.loop (some live) tr b) st K:=by
 let⟨x,s,a,c⟩:=h;exact⟨x,s,a,c⟩
def aU1(b a:List Bool)(tr:Bool)(fl N:Nat)(x:cV)(s:St): St:=match x with
 | .ret=>⟨cX a s.tmps,s.heap⟩
 | _=>dO (some b) tr fl N s
theorem WC.mask[aH]{b a:List Bool}{tr:Bool}{c:bS}(h:WC P cf lf fl c st λx s=>K x<|aU1 b a tr fl st.heap.length x s): WC P cf lf fl (.mask b a tr c) st K:=by
 let⟨x,s,e,d⟩:=h;refine⟨x,_,?_,d⟩;simp only[eS,e,Fa];cases x<;>rfl
theorem aFC[aH]{d t:Nat}: aI (tm.set d v) (.tmp t)=if d=t/\d<tm.length then v else aI tm (.tmp t):=by
 simp only[aI,Z5];by_cases h:d=t
 .subst h;by_cases b:d<tm.length
  .simp[b]
  .simp[b,Zy<|Nat.le_of_not_lt b]
 .simp[h]
theorem VY[aH]: ∀(l:List Bool) (tm:List AV) (t:Nat),t<tm.length->aI (cX l tm) (.tmp t)=if l.getD t false then aI tm (.tmp t) else .undef
 | l,[],t,h=>by cases h
 | [],v::vs,0,_=>rfl
 | [],v::vs,t+1,h=>by
  have:=VY [] vs t<|by simpa using h
  simpa [aI,cX] using this
 | b::l,v::vs,0,_=>by cases b<;>rfl
 | b::l,v::vs,t+1,h=>by
  have:=VY l vs t<|by simpa using h
  simpa [aI,cX] using this
theorem aBX: ∀(l:List Bool) (tm:List AV),(cX l tm).length=tm.length
 | _::l,_::vs=>by simp[cX,aBX l vs]
 | [],vs=>by simp[cX]
 | _::_,[]=>rfl
abbrev tp:=bB.tmp
abbrev o1(d:Nat)(o:Hq): bR:=⟨some d,o,none⟩
abbrev om(d s:Nat): bR:=⟨some d,.mov (.tmp s),none⟩
theorem WO.mov[aH]{d s:Nat}{r:List bR}{K:St->Prop}(k:WO P cf fl r ⟨tm.set d<|aI tm<|.tmp s,H⟩ K): WO P cf fl (om d s::r) ⟨tm,H⟩ K:=WO.op (H':=H) rfl k
section
structure At[aH](N:Nat)(l:List (Nat×AV))(tm:List AV): Prop where
 ln:tm.length=N
 at_:∀k v,dF k l=some v->aI tm (.tmp k)=v
theorem At.get[aH]{N k:Nat}{l:List<|Nat×AV}(h:At N l tm)(e:dF k l=some v): aI tm (.tmp k)=v:=h.at_ k v e
theorem At.nil[aH]: At tm.length [] tm:=⟨rfl,λ_ _ h=>by cases h⟩
theorem At.cons[aH]{N k:Nat}{l:List<|Nat×AV}(e:aI tm (.tmp k)=v)(h:At N l tm): At N ((k,v)::l) tm:=⟨h.ln,λj u a=>by
 simp only[dF] at a;split at a
 .rename_i b;cases a;rw[<-Zc b];exact e
 .exact h.at_ j u a⟩
theorem At.set[aH]{N k:Nat}{l:List<|Nat×AV}(h:At N l tm)(c:Nat.blt k N=true): At N ((k,v)::l)<|tm.set k v:=by
 have c:k<tm.length:=by rw[h.ln];simpa using c
 refine⟨by rw[Yr];exact h.ln,λj u a=>?_⟩;simp only[dF] at a;split at a
 .rename_i b;cases a;rw[<-Zc b,aFC,Zu ⟨rfl,c⟩]
 .rename_i b;rw[aFC,ZF λe=>YF b e.1];exact h.at_ j u a
theorem At.live[aH]{N k:Nat}{l:List<|Nat×AV}(b:List Bool)(h:At N l tm)(e:dF k l=some v)(a:(Nat.blt k N&&b.getD k false)=true): aI (cX b tm) (.tmp k)=v:=by
 simp only[Zd] at a;rw[VY _ _ _<|by rw[h.ln];simpa using a.1,Zu a.2,h.get e]
theorem At.mask[aH]{N:Nat}{l:List<|Nat×AV}(b:List Bool)(h:At N l tm): At N []<|cX b tm:=⟨by rw[aBX];exact h.ln,λ_ _ h=>by cases h⟩
theorem AO.op[aH]{N d:Nat}{l:List<|Nat×AV}{op:Hq}{r:List bR}{K:St->Prop}(h:At N l tm)(e:aM P cf fl op tm H=some (v,H'))(k:∀a,At N ((d,v)::l) a->WO P cf fl r ⟨a,H'⟩ K)(b:Nat.blt d N=true:=by rfl): WO P cf fl (o1 d op::r) ⟨tm,H⟩ K:=WO.op e<|k _<|h.set b
theorem AO.mov[aH]{N d s:Nat}{l:List<|Nat×AV}{r:List bR}{K:St->Prop}(h:At N l tm)(e:dF s l=some v)(k:∀a,At N ((d,v)::l) a->WO P cf fl r ⟨a,H⟩ K)(b:Nat.blt d N=true:=by rfl): WO P cf fl (om d s::r) ⟨tm,H⟩ K:=WO.mov<|by rw[h.get e];exact k _<|h.set b
theorem AO.nil[aH]{N:Nat}{l:List<|Nat×AV}{K:St->Prop}(h:At N l tm)(k:K ⟨tm,H⟩): WO P cf fl [] ⟨tm,H⟩ K:=⟨_,rfl,k⟩
theorem Lg[aH]{c:BinOp}{x y:bB}{a b:Int}{v:Value}(f:aI tm x=iv a)(e:aI tm y=iv b)(d:O4 c .i64 a b=some v): aM P cf fl (.ibin c x y) tm H=some (.lit v,H):=by
 simp only[aM,f,e,Zz,d]
theorem aNQ[dS][aH]{k:Nat}{l:List<|den k}{x:bB}{a:AV}(q:Qp (.vw k l) a)(b:aI tm x=a): aM P cf fl (.lenS x) tm H=some (iv (l.length:Nat),H):=by
 let⟨es,c,d⟩:=q.inV;have:=d.len;rcases c with⟨rfl,rfl⟩ | ⟨f,rfl⟩ | rfl
 .simp only[aM,b];rw[<-this];rfl
 .simp only[aM,b];rw[<-this]
 .simp only[aM,b];rw[<-this]
theorem aEi{i:Int}(h:0<=i): gZ (iv i)=some i.toNat:=by simp only[gZ,Zu h]
theorem aGq[dS][aH]{k s:Nat}{l:List<|den k}{x i:bB}{a:AV}{j:Int}{z:den k}(q:Qp (.vw k l) a)(d:aI tm x=a)(m:aI tm i=iv j)(e:idx l j=some z)(u:(cds k).length=s): ∃r,Qr (jX k z) r/\aM P cf fl (.idxAddr s x i) tm H=some (.rptr r,H):=by
 let⟨es,t,o⟩:=q.inV;let⟨n,v,w⟩:=pP e;let⟨r,b,g⟩:=o.get v;have h:r.length=s:=by rw[g.len,tV,u]
 refine⟨r,g,?_⟩;rcases t with⟨rfl,rfl⟩ | ⟨f,rfl⟩ | rfl
 .cases b
 .simp only[aM,d,m,aEi n,b,h,Zz]
 .simp only[aM,d,m,aEi n,b,h,Zz]
theorem aKh[aH]{x:bB}{c:AV}{r:List AV}(a:aI tm x=.rptr (c::r)): aM P cf fl (.load false 1 x) tm H=some (c,H):=by
 simp[aM,a,eD]
theorem aNR[aH]{n:Nat}{x:bB}{r:List AV}(a:aI tm x=.rptr r)(h:r.length=n): aM P cf fl (.load true n x) tm H=some (.agg r,H):=by
 simp only[aM,a,eD,h,Zf,Zz];rw[<-h,XO]
theorem Pc[aH]{agg:Bool}{n id tot i off:Nat}{s:Nat}{x:bB}{es:List<|List AV}{e:List AV}{v:AV}(f:aI tm x=.ptr id tot i off)(g:H[id]?=some (.blk s es))(b:es.length=tot)(he:es[i]?=some e)(d:off+n<=e.length)(a:(if agg then some (.agg<|(e.drop off).take n) else match (e.drop off).take n with | [c]=>some c | _=>none)=some v): aM P cf fl (.load agg n x) tm H=some (v,H):=by
 cases agg with
 | true=>simp only[Zz,Za] at a;simp[aM,f,eD,g,b,he,d,a]
 | false=>
  simp only[Zn,Z9] at a;simp only[aM,f,eD,g,b,he,d,Zz,Zn,Z9];split at a
  .rename_i c h;rw[h];cases a;rfl
  .cases a
theorem aCJ[aH]{off id tot i o:Nat}{x:bB}(a:aI tm x=.ptr id tot i o): aM P cf fl (.fieldAddr off x) tm H=some (.ptr id tot i<|o+off,H):=by simp only[aM,a]
theorem aCI[aH]{s id tot:Nat}{x i:bB}{es:List<|List AV}{j:Int}(c:aI tm x=.ms id tot 0 tot)(e:aI tm i=iv j)(d:H[id]?=some (.blk s es))(f:es.length=tot)(b:0<=j)(a:j.toNat<tot): aM P cf fl (.idxAddr s x i) tm H=some (.ptr id tot j.toNat 0,H):=by
 simp only[aM,c,e,aEi b,d];simp only[f,a,Y7,Zz,Z0]
theorem aNT[aH]{s bytes id:Nat}{x y:bB}{es ys:List<|List AV}(f:aI tm x=.ms id es.length 0 es.length)(i:rd H (aI tm y)=some ys)(j:H[id]?=some (.blk s es))(g:0<s)(c:eW s ys=true)(a:ys≠[])(h:fl<=id)(k:(es.length+ys.length)*bytes<=1000000000000/\es.length+ys.length<=1000000000000): aM P cf fl (.append s bytes x y) tm H=some (.ms id (es++ys).length 0 (es++ys).length,H.set id<|.blk s<|es++ys):=by
 have d:lD ys.length bytes=true:=by
  unfold lD;have:ys.length*bytes<=(es.length+ys.length)*bytes:=Zr _<|by omega
  simp;omega
 have b:lD (es.length+ys.length) bytes=true:=by unfold lD;simp;omega
 have a:ys.length≠0:=λe=>a<|ZK.1 e;simp only[aM,i,f,cP];rw[Zu ⟨c,g,d⟩];simp only[j];simp only[We,b,Zz,ZF a,Zu h,Zh]
theorem AO.sto[aH]{N:Nat}{l:List<|Nat×AV}{a:Hq}{r:List bR}{K:St->Prop}(h:At N l tm)(e:aM P cf fl a tm H=some (v,H'))(k:WO P cf fl r ⟨tm,H'⟩ K): WO P cf fl (⟨none,a,none⟩::r) ⟨tm,H⟩ K:=WO.op e k
theorem aSv[aH]{id tot i off s a b c d:Nat}{x y:bB}{es:List<|List AV}{e:List AV}(j:aI tm x=.ptr id tot i off)(h:aI tm y=.ms a b c d)(k:H[id]?=some (.blk s es))(l:es.length=tot)(he:es[i]?=some e)(f:off+1<=e.length)(g:fl<=id):
 aM P cf fl (.store 1 x y) tm H=some (.lit bL,H.set id<|.blk s<|es.set i<|aT e off [.ms a b c d]):=by
 simp only[aM,j,h,cellsOf,Yd,Zz,wO,g,k,l,he,f]
theorem aKk[aH]{s bytes:Nat}{x y:bB}{ys:List<|List AV}{a:AV}(b:aI tm x=a)(c:rd H (aI tm y)=some ys)(h:cP fl H s bytes a ys=some (v,H')): aM P cf fl (.append s bytes x y) tm H=some (v,H'):=by
 simp only[aM,c,b,h]
theorem aSx[aH]{x:bB}{a:Int}(b:aI tm x=iv a): aM P cf fl (.un .neg x) tm H=some (iv<|IntKind.i64.wrap<|0-a,H):=by
 have e:aN P (Op.unary .neg<|.int .i64 a)=some (.int .i64<|IntKind.i64.wrap<|0-a):=by kernel_rfl
 simp only[aM,b,e]
theorem aSy[aH]{x y:bB}{a b:Int}(c:aI tm x=iv a)(d:aI tm y=iv b): aM P cf fl (.minmax true [x,y]) tm H=some (iv<|iY a b,H):=by
 have e:=aJh (P:=P) (cf:=cf) (fl:=fl) (H:=H) (a:=a) (b:=b);simp only[aM,ZE,Yn,c,d] at e |-;exact e
theorem aNP[aH]{kt:TypeId}{z m k:bB}{ok:Bool}(h:aM P cf fl (.lookup kt z m k ok) tm H=some (v,H')): H'=H:=by
 simp only[aM] at h;repeat' split at h
 all_goals first | (cases h;rfl) | cases h
theorem aNG[dS]: ∀H:aY,Qs (List.replicate H.length .gone) H:=λH=>by
 have:∀(n:TH) (H:aY),bW (Qo n) (List.replicate H.length .gone) H:=by
  intro n H;induction H with
  | nil=>trivial
  | cons o H a=>exact⟨trivial,a⟩
 exact this _ H
theorem w8[dS][aH]{T:List cQ}{vi:Nat}{ka:List Sh}{k:Nat}{F:Nat->fP ka->Option (fP<|[k].map .v)}(m:FOK P T vi ⟨ka,[k],false,F⟩){n:Nat}{p:fP ka}{r:den k}{a:AV}(e:F n p=some r)(t:∀r:den k,∃j:Int,val k r=.lit (.int .i64 j)){aw:List AV}(q:Qc [] (Mi ka p) aw):
 ∃A x,fC P T n 0 vi aw []=some (x,A)/\fA A 0 x=(match val k r with | .lit v=>.lit v | _=>.undef):=by
 let⟨d,A,i,c,h,_⟩:=m n p r e aw q;have c:=c [];match d,c with
 | [b],c=>
  refine⟨A,b,i,?_⟩;have g:Qh [] (val k r)<|eB A 0 b:=c.1;let⟨j,o⟩:=t r;rw[o] at g |-;have e:fA A 0 b=eB A 0 b:=by
   cases b with
   | tup l=>exact (h _ ZM l rfl).elim
   | _=>rfl
  rw[e,g.inL]
end
end
theorem aEB[aH]{K:Type}[DecidableEq K]{P:Program}{kt:TypeId}{b:K->Value}(he:∀k x,aN P (Op.equal kt (b k)<|b x)=some (decide<|k=x))(k:K):
 ∀(d:List K) (i:Nat),aN P (Instr.findAsking kt (b k) (d.map λx=>{ key:=b x,val:=.bool false,born:=0 }) i)=some ((d.findIdx? λx=>decide<|x=k).map λj=>(i+j,.bool false))
 | [],i=>rfl
 | x::r,i=>by
  have he:aN P (Op.equal kt (b k)<|b x)=some (decide<|x=k):=(he k x).trans<|congrArg some<|decide_eq_decide.2 ⟨λh=>h.symm,λh=>h.symm⟩;simp only[ZE,Instr.findAsking,bP,he,Z2,XC];cases decide (x=k) with
  | true=>simp[cC]
  | false=>
   simp only[Zn,Z9,aEB ‹∀k x,_› k r<|i+1];cases r.findIdx? λx=>decide (x=k) with
   | none=>rfl
   | some j=>simp;omega
theorem aU8[aH]{K:Type}(g:DecidableEq K){P:Program}{kt:TypeId}{b:K->Value}{u:TypeDesc}(l:aN P (underlying kt)=some u)(i:∀k x r,Instr.findNow u (b k) ({ key:=b x,val:=.bool false,born:=0 }::r) 0=none)(he:∀k x,aN P (Op.equal kt (b k)<|b x)=some (decide<|k=x))(p:∀e k,aN P (Instr.checkKey e 10000 kt<|b k)=some ())(q:∀k,Instr.sameBits 10000 (b k) (b k)=true): D0 P kt b where
 find:=λk m=>by
  unfold kE;simp only[Instr.findKey,bP,l,Z2,Ya,W7];cases m with
  | nil=>
   have:=aEB he k [] 0;simp only[Yn] at this |-;cases h:Instr.findNow u (b k) [] 0 with
   | none=>simp only[this];rfl
   | some j=>cases u<;>first | (cases h;rfl) | (cases h)
  | cons x r=>
   simp only[ZE,i];have:=aEB he k (x::r) 0;simp only[ZE] at this;simp only[this];cases (x::r).findIdx? λx=>decide (x=k) with
   | none=>rfl
   | some j=>simp
 chk:=p;same:=q
section
variable [dS][aH]{P:Program}{T:List cQ}
theorem aJQ{vi k:Nat}(b:aH.prim vi=some (rA<|Nu (cds k).length)): POK T vi<|.ins k:=
 ⟨_,b,λ_ _ _ _ _ _ _ d e a h c g=>aMx d e a c g⟩
theorem aRM{vi k:Nat}{F:List (den k)->List (den k)}(u:aH.prim vi=some (rA Em))(f:den k->Int)(n:∀x,jX k x=[.lit<|.int .i64<|f x])(t:(cds k).length=1)(o:∀l,(F l).map f=uA (l.map f)): POK T vi<|.ord k F:=by
 refine⟨_,u,λfl H id l es j q s r=>?_⟩;have m:∀{l:List<|den k} {es:List<|List AV},Ql k l es->es=(l.map f).map cI:=by
  intro l;induction l with
  | nil=>intro es h;cases es with
   | nil=>rfl
   | cons=>exact h.elim
  | cons x l i=>
   intro es h;cases es with
   | nil=>exact h.elim
   | cons e es=>
    rw[i h.2];have g:Qr (jX k x) e:=h.1;rw[n] at g;match e,g with
    | [a],g=>rw[(Qh.p (H:=[]) _ _ g.1).inL];rfl
 have d:∀l:List<|den k,Ql k l<|(l.map f).map cI:=by
  intro l;induction l with
  | nil=>trivial
  | cons x l i=>exact⟨by show Qr (jX k x)<|cI<|f x;rw[n];exact⟨.lit _,trivial⟩,i⟩
 have c:(F l).length=l.length:=by
  have:=congrArg List.length<|o l;rw[ZO,xN,ZO] at this;exact this
 have e:=m s;subst e;refine⟨((F l).map f).map cI,?_,d _,c⟩;rw[t] at q |-;have:=aLr (fl:=fl) (id:=id) (l:=l.map f) (H:=H) j q (by simpa using r);rw[ZO] at this;rw[this,o]
theorem aLo(l:List Int): (uA l).map (λx=>x)=uA (l.map λx=>x):=by simp
def aS7(vi ks kb:Nat)(hp:aH.prim vi=some (rA Pd))(F:Nat->fP [.v ks,.v ks]->Option (fP<|[kb].map .v))(h:∀n p r,F n p=some r->∃m s t b,n=m+1/\Mi [.v ks,.v ks] p=[.lit<|.string s,.lit<|.string t]/\P3 n s t=some b/\Di 2 [] ([kb].map .v) [.lit<|.bool b]=some r): Con P T:=
 ⟨vi,⟨[.v ks,.v ks],[kb],false,F⟩,.of0 (by
  intro n p r hr aw q
  obtain⟨m,s,t,b,rfl,h1,h2,h3⟩:=h n p r hr
  have q:Qc [] (Mi [.v ks,.v ks] p) aw:=q
  rw[h1] at q
  obtain⟨a,a',rfl⟩:∃a a',aw=[a,a']:=by
   match aw,q with
   | [a,a'],_=>exact⟨a,a',rfl⟩
  have e1:=q.1.inL
  have e2:=q.2.1.inL
  subst e1;subst e2
  have e:fC P T (m+1) 0 vi [.lit<|.string s,.lit<|.string t] []=some (.lit<|.bool b,[]):=by
   simp only[fC,hp,Pd]
   simp only[P3] at h2
   split at h2
   .rename_i hb;cases h2;simp only[hb]
   .cases h2
  exact⟨[.lit<|.bool b],[.lit<|.bool b],[],[],e,trivial,⟨Qh.l _,trivial⟩,h3,λh=>by cases h⟩) rfl⟩
def aQb(vi k ks:Nat)(hc:aOk T vi k)(F:Nat->fP [.w ks]->Option (fP<|[ks].map .v))(L:fP [.w ks]->List (den k))(h:∀n p r,F n p=some r->∃m,n=m+1/\Mi [.w ks] p=[.vw k<|L p]/\(L p).length<=1000000/\Di 2 [.lst k<|L p] ([ks].map .v) [.ms 0 none]=some r/\(L p=[]->Di 2 [] ([ks].map .v) [.emp false]=some r)): Con P T:=
 ⟨vi,⟨[.w ks],[ks],false,F⟩,.of0 (by
  intro n p r hr aw q
  obtain⟨m,rfl,h1,h2,h3,h4⟩:=h n p r hr
  have q:Qc [] (Mi [.w ks] p) aw:=q
  rw[h1] at q
  obtain⟨a,rfl⟩:∃a,aw=[a]:=by
   match aw,q with
   | [a],_=>exact⟨a,rfl⟩
  obtain⟨fid,bytes,z,hT,h0,hb⟩:=hc
  obtain⟨e1,e2,e3⟩:=aK0 (P:=P) (n:=m) (G:=[]) hT h0
  obtain⟨es,hk,hq⟩:=(q.1.pu trivial).inV
  have em:L p=[]->es=[]:=λe=>ZK.1<|by have:=hq.len;rw[e] at this;exact this
  cases es with
  | nil=>
   have e:L p=[]:=ZK.1 hq.len.symm
   have fin:∀v,fC P T (m+1) 0 vi [a] []=some (v,[])->(v=.lit bM\/v=.sl false [])->∃vs aw' A H,fC P T (m+1) 0 vi [a] []=some (kC aw',A)/\Qs H A/\Qc H vs aw'/\Di 2 H ([ks].map .v) vs=some r/\(false=true->PM H vs=true):=by
    intro v hv hd
    refine⟨[.emp false],[v],[],[],hv,trivial,⟨.p _ _<|.emp _ _ ?_,trivial⟩,h4 e,λh=>by cases h⟩
    rcases hd with h | h
    .exact .inl h
    .exact .inr<|.inr ⟨rfl,h⟩
   rcases hk with⟨rfl,_⟩ | hk | hk
   .exact fin _ e1<|.inl rfl
   .exact fin _ (e2 a<|.inl hk)<|.inr rfl
   .exact fin _ (e2 a<|.inr hk)<|.inr rfl
  | cons e es=>
   have hk:(∃f,a=.sl f (e::es))\/a=.vw (e::es):=by
    rcases hk with⟨_,hk⟩ | hk
    .cases hk
    .exact hk
   have g:=e3 a e es hk (hq.all rfl)<|tR (by rw[hq.len];exact h2) hb
   refine⟨[.ms 0 none],[.ms 0 (e::es).length 0 (e::es).length],_,[.lst k<|L p],g,⟨⟨_,rfl,hq⟩,trivial⟩,⟨?_,trivial⟩,h3,λh=>by cases h⟩
   rw[hq.len]
   exact .ms 0 k (L p) rfl) rfl⟩
theorem aQd{α:Type}{n:Nat}{l a:List α}(h:clF n l=some a): ∃m,n=m+1/\a=l/\l.length<=1000000:=by
 cases n with
 | zero=>cases h
 | succ m=>
  let⟨c,b⟩:=Pq h;exact⟨m,rfl,by simpa using c,by simpa using b⟩
theorem aPV{n:Nat}{s t:ByteArray}{b:Bool}(h:P3 n s t=some b): ∃m,n=m+1:=by
 cases n with
 | zero=>cases h
 | succ m=>exact⟨m,rfl⟩
end
end
section
def PF(g:K8): Prop:=∀cf fl m args H r H',(fl<=m/\m<=H.length)->g.run cf fl args H=some (r,H')->H'.take fl=H.take fl/\m<=H'.length
variable {H:aY}{fl m s:Nat}
theorem aF5{H':aY}(h:fl<=m/\m<=H.length)(e:H'=H): H'.take fl=H.take fl/\m<=H'.length:=by subst e;exact⟨rfl,h.2⟩
theorem aJb{i:Nat}{o:dL}(h:fl<=m/\m<=H.length)(a:fl<=i): (H.set i o).take fl=H.take fl/\m<=(H.set i o).length:=⟨X6 a,by simpa using h.2⟩
theorem aLG: PF<|rA Pd:=λ_ fl m a H r H' h e=>by
 have e:Pd fl a H=some (r,H'):=e;refine aF5 h ?_;unfold Pd at e;repeat' (first | (cases e;done) | (cases e;rfl) | split at e)
theorem aJa: PF<|rA Em:=λ_ fl m a H r H' h e=>by
 rcases KG (show Em fl a H=some (r,H') from e) with⟨x,_,_,_,rfl⟩ | ⟨id,l,_,_,b,_,_,_,rfl⟩
 .exact⟨rfl,h.2⟩
 .exact aJb h b
theorem TM{b:Bool}: PF<|xO b s:=λ_ _ _ _ _ _ _ h e=>Mo h e
theorem aDN: PF<|rA<|Nu s:=λ_ fl m a H r H' h e=>by
 obtain⟨_,_,_,_,_,_,b,_,_,_,_,_,_,rfl⟩:=i7 e;exact aJb h b
theorem aIZ{a:Nat}: PF<|S0 a:=λ_ _ _ _ _ _ _ h e=>by
 let⟨_,_,_,_,_,_,_,_,_,e⟩:=TI e;exact aF5 h e
theorem Dm{vi k:Nat}{g:K8}{o:Option K8}(a:PF g)(b:∀q,o=some q->PF q): ∀q,(match Nat.beq vi k with | true=>some g | false=>o)=some q->PF q:=by
 intro q h;split at h
 .cases h;exact a
 .exact b q h
theorem aOV: ∀q,(none:Option K8)=some q->PF q:=λ_ h=>by cases h
theorem aP8[aH](h:∀vi q,aH.prim vi=some q->PF q): ∀cf,An cf->An (Kb cf):=by
 intro cf _ fl m vi b H r H' d a;unfold Kb at a;split at a
 .rename_i g c;exact h vi g c cf fl m b H r H' d a
 .cases a
end
noncomputable section
structure Aaa where
 X:Int
 Y:Int
 deriving DecidableEq
structure Aab where
 ID:Int
 At:Aaa
 deriving DecidableEq
structure aQ where
 ID:Int
 From:Int
 To:Int
 Via:(List Aaa)
 Left:Int
 Right:Int
 deriving DecidableEq
structure aK where
 Nodes:(List Aab)
 Arcs:(List aQ)
 Faces:(List Int)
 deriving DecidableEq
structure aG where
 ID:Int
 Kind:Int
 Class:Int
 Name:ByteArray
 Parts:(List Int)
 deriving DecidableEq
structure aJ where
 Plan:aK
 Features:(List aG)
 deriving DecidableEq
structure aO where
 Kind:Int
 ID:Int
 A:Int
 B:Int
 C:Int
 At:Aaa
 Via:(List Aaa)
 Name:ByteArray
 Parts:(List Int)
 deriving DecidableEq
structure Aad where
 X0:Int
 Y0:Int
 X1:Int
 Y1:Int
 deriving DecidableEq
structure gA where
 first:Int
 last:Int
 script:Int
 deriving DecidableEq
structure xC where
 e0:gA
 e1:gA
 e2:gA
 e3:gA
 e4:gA
 e5:gA
 e6:gA
 e7:gA
 e8:gA
 e9:gA
 e10:gA
 e11:gA
 e12:gA
 deriving DecidableEq
structure Aac where
 e0:Int
 e1:Int
 deriving DecidableEq
structure R0 where
 Arc:aQ
 path:(List Aaa)
 deriving DecidableEq
structure bA where
 line:R0
 at_:Int
 deriving DecidableEq
structure Jr where
 twice:Int
 outer:(List Int)
 inner:Unit
 alone:Unit
 deriving DecidableEq
structure dQ where
 twice:Int
 outer:(List Int)
 inner:(List (List Int))
 alone:(List Int)
 deriving DecidableEq
structure dW where
 Face:Int
 Outer:(List Int)
 Inner:(List (List Int))
 Alone:(List Int)
 deriving DecidableEq
abbrev aP1: Nat->Type
 | 0=>Aab
 | 1=>Aaa
 | 2=>aQ
 | 3=>Int
 | 4=>aK
 | 5=>Bool
 | 6=>aG
 | 7=>aJ
 | 8=>aO
 | 9=>(List aO)
 | 10=>(List Aab)
 | 11=>(List aQ)
 | 12=>(List Int)
 | 13=>(List aG)
 | 14=>(List Aaa)
 | 15=>Aad
 | 16=>Int
 | 17=>xC
 | 18=>gA
 | 19=>ByteArray
 | 20=>(List (List Aaa))
 | 21=>R0
 | 22=>bA
 | 23=>R0
 | 24=>(List bA)
 | 25=>(List (Int×Aaa))
 | 26=>(List (Int×Int))
 | 27=>(List (Int×Bool))
 | 28=>(List (List Int))
 | 29=>(List (Int×(List Aaa)))
 | 30=>Jr
 | 31=>(List Jr)
 | 32=>dQ
 | 33=>(List dQ)
 | 34=>Aac
 | 35=>(List (Aac×Bool))
 | 36=>dW
 | 37=>(List dW)
 | _=>Unit
abbrev aP2: Nat->List Cd
 | 0=>[.int .i64,.int .i64,.int .i64]
 | 1=>[.int .i64,.int .i64]
 | 2=>[.int .i64,.int .i64,.int .i64,.sl 1,.int .i64,.int .i64]
 | 3=>[.int .i64]
 | 4=>[.sl 0,.sl 2,.sl 3]
 | 5=>[.bool]
 | 6=>[.int .i64,.int .i64,.int .i64,.str,.sl 3]
 | 7=>[.sl 0,.sl 2,.sl 3,.sl 6]
 | 8=>[.int .i64,.int .i64,.int .i64,.int .i64,.int .i64,.int .i64,.int .i64,.sl 1,.str,.sl 3]
 | 9=>[.sl 8]
 | 10=>[.sl 0]
 | 11=>[.sl 2]
 | 12=>[.sl 3]
 | 13=>[.sl 6]
 | 14=>[.sl 1]
 | 15=>[.int .i64,.int .i64,.int .i64,.int .i64]
 | 16=>[.int .i32]
 | 17=>[.int .i32,.int .i32,.int .i64,.int .i32,.int .i32,.int .i64,.int .i32,.int .i32,.int .i64,.int .i32,.int .i32,.int .i64,.int .i32,.int .i32,.int .i64,.int .i32,.int .i32,.int .i64,.int .i32,.int .i32,.int .i64,.int .i32,.int .i32,.int .i64,.int .i32,.int .i32,.int .i64,.int .i32,.int .i32,.int .i64,.int .i32,.int .i32,.int .i64,.int .i32,.int .i32,.int .i64,.int .i32,.int .i32,.int .i64]
 | 18=>[.int .i32,.int .i32,.int .i64]
 | 19=>[.str]
 | 20=>[.sl 14]
 | 21=>[.int .i64,.int .i64,.int .i64,.sl 1,.int .i64,.int .i64,.sl 1]
 | 22=>[.sptr 21,.int .i64]
 | 23=>[.sptr 21]
 | 24=>[.sl 22]
 | 25=>[.mp 3 1]
 | 26=>[.mp 3 3]
 | 27=>[.mp 3 5]
 | 28=>[.sl 12]
 | 29=>[.mp 3 14]
 | 30=>[.int .i64,.sl 3,.any,.any]
 | 31=>[.sl 30]
 | 32=>[.int .i64,.sl 3,.sl 12,.sl 3]
 | 33=>[.sl 32]
 | 34=>[.int .i64,.int .i64]
 | 35=>[.mp 34 5]
 | 36=>[.int .i64,.sl 3,.sl 12,.sl 3]
 | 37=>[.sl 36]
 | _=>[]
abbrev kAg: Nat->Bool
 | 0=>true
 | 1=>true
 | 2=>true
 | 4=>true
 | 6=>true
 | 7=>true
 | 8=>true
 | 15=>true
 | 17=>true
 | 18=>true
 | 21=>true
 | 22=>true
 | 30=>true
 | 32=>true
 | 34=>true
 | 36=>true
 | _=>false
instance iD: jH:=⟨aP1,aP2,kAg⟩
def kPk: ∀k,OU (aP2 k)->aP1 k
 | 0,p=>⟨p.1,⟨p.2.1,p.2.2.1⟩⟩
 | 1,p=>⟨p.1,p.2.1⟩
 | 2,p=>⟨p.1,p.2.1,p.2.2.1,p.2.2.2.1,p.2.2.2.2.1,p.2.2.2.2.2.1⟩
 | 3,p=>p.1
 | 4,p=>⟨p.1,p.2.1,p.2.2.1⟩
 | 5,p=>p.1
 | 6,p=>⟨p.1,p.2.1,p.2.2.1,p.2.2.2.1,p.2.2.2.2.1⟩
 | 7,p=>⟨⟨p.1,p.2.1,p.2.2.1⟩,p.2.2.2.1⟩
 | 8,p=>⟨p.1,p.2.1,p.2.2.1,p.2.2.2.1,p.2.2.2.2.1,⟨p.2.2.2.2.2.1,p.2.2.2.2.2.2.1⟩,p.2.2.2.2.2.2.2.1,p.2.2.2.2.2.2.2.2.1,p.2.2.2.2.2.2.2.2.2.1⟩
 | 9,p=>p.1
 | 10,p=>p.1
 | 11,p=>p.1
 | 12,p=>p.1
 | 13,p=>p.1
 | 14,p=>p.1
 | 15,p=>⟨p.1,p.2.1,p.2.2.1,p.2.2.2.1⟩
 | 16,p=>p.1
 | 17,p=>⟨⟨p.1,p.2.1,p.2.2.1⟩,⟨p.2.2.2.1,p.2.2.2.2.1,p.2.2.2.2.2.1⟩,⟨p.2.2.2.2.2.2.1,p.2.2.2.2.2.2.2.1,p.2.2.2.2.2.2.2.2.1⟩,⟨p.2.2.2.2.2.2.2.2.2.1,p.2.2.2.2.2.2.2.2.2.2.1,p.2.2.2.2.2.2.2.2.2.2.2.1⟩,⟨p.2.2.2.2.2.2.2.2.2.2.2.2.1,p.2.2.2.2.2.2.2.2.2.2.2.2.2.1,p.2.2.2.2.2.2.2.2.2.2.2.2.2.2.1⟩,⟨p.2.2.2.2.2.2.2.2.2.2.2.2.2.2.2.1,p.2.2.2.2.2.2.2.2.2.2.2.2.2.2.2.2.1,p.2.2.2.2.2.2.2.2.2.2.2.2.2.2.2.2.2.1⟩,⟨p.2.2.2.2.2.2.2.2.2.2.2.2.2.2.2.2.2.2.1,p.2.2.2.2.2.2.2.2.2.2.2.2.2.2.2.2.2.2.2.1,p.2.2.2.2.2.2.2.2.2.2.2.2.2.2.2.2.2.2.2.2.1⟩,⟨p.2.2.2.2.2.2.2.2.2.2.2.2.2.2.2.2.2.2.2.2.2.1,p.2.2.2.2.2.2.2.2.2.2.2.2.2.2.2.2.2.2.2.2.2.2.1,p.2.2.2.2.2.2.2.2.2.2.2.2.2.2.2.2.2.2.2.2.2.2.2.1⟩,⟨p.2.2.2.2.2.2.2.2.2.2.2.2.2.2.2.2.2.2.2.2.2.2.2.2.1,p.2.2.2.2.2.2.2.2.2.2.2.2.2.2.2.2.2.2.2.2.2.2.2.2.2.1,p.2.2.2.2.2.2.2.2.2.2.2.2.2.2.2.2.2.2.2.2.2.2.2.2.2.2.1⟩,⟨p.2.2.2.2.2.2.2.2.2.2.2.2.2.2.2.2.2.2.2.2.2.2.2.2.2.2.2.1,p.2.2.2.2.2.2.2.2.2.2.2.2.2.2.2.2.2.2.2.2.2.2.2.2.2.2.2.2.1,p.2.2.2.2.2.2.2.2.2.2.2.2.2.2.2.2.2.2.2.2.2.2.2.2.2.2.2.2.2.1⟩,⟨p.2.2.2.2.2.2.2.2.2.2.2.2.2.2.2.2.2.2.2.2.2.2.2.2.2.2.2.2.2.2.1,p.2.2.2.2.2.2.2.2.2.2.2.2.2.2.2.2.2.2.2.2.2.2.2.2.2.2.2.2.2.2.2.1,p.2.2.2.2.2.2.2.2.2.2.2.2.2.2.2.2.2.2.2.2.2.2.2.2.2.2.2.2.2.2.2.2.1⟩,⟨p.2.2.2.2.2.2.2.2.2.2.2.2.2.2.2.2.2.2.2.2.2.2.2.2.2.2.2.2.2.2.2.2.2.1,p.2.2.2.2.2.2.2.2.2.2.2.2.2.2.2.2.2.2.2.2.2.2.2.2.2.2.2.2.2.2.2.2.2.2.1,p.2.2.2.2.2.2.2.2.2.2.2.2.2.2.2.2.2.2.2.2.2.2.2.2.2.2.2.2.2.2.2.2.2.2.2.1⟩,⟨p.2.2.2.2.2.2.2.2.2.2.2.2.2.2.2.2.2.2.2.2.2.2.2.2.2.2.2.2.2.2.2.2.2.2.2.2.1,p.2.2.2.2.2.2.2.2.2.2.2.2.2.2.2.2.2.2.2.2.2.2.2.2.2.2.2.2.2.2.2.2.2.2.2.2.2.1,p.2.2.2.2.2.2.2.2.2.2.2.2.2.2.2.2.2.2.2.2.2.2.2.2.2.2.2.2.2.2.2.2.2.2.2.2.2.2.1⟩⟩
 | 18,p=>⟨p.1,p.2.1,p.2.2.1⟩
 | 19,p=>p.1
 | 20,p=>p.1
 | 21,p=>⟨⟨p.1,p.2.1,p.2.2.1,p.2.2.2.1,p.2.2.2.2.1,p.2.2.2.2.2.1⟩,p.2.2.2.2.2.2.1⟩
 | 22,p=>⟨p.1,p.2.1⟩
 | 23,p=>p.1
 | 24,p=>p.1
 | 25,p=>p.1
 | 26,p=>p.1
 | 27,p=>p.1
 | 28,p=>p.1
 | 29,p=>p.1
 | 30,p=>⟨p.1,p.2.1,p.2.2.1,p.2.2.2.1⟩
 | 31,p=>p.1
 | 32,p=>⟨p.1,p.2.1,p.2.2.1,p.2.2.2.1⟩
 | 33,p=>p.1
 | 34,p=>⟨p.1,p.2.1⟩
 | 35,p=>p.1
 | 36,p=>⟨p.1,p.2.1,p.2.2.1,p.2.2.2.1⟩
 | 37,p=>p.1
 | _+38,_=>()
def kUn: ∀k,aP1 k->OU (aP2 k)
 | 0,x=>(x.ID,x.At.X,x.At.Y,())
 | 1,x=>(x.X,x.Y,())
 | 2,x=>(x.ID,x.From,x.To,x.Via,x.Left,x.Right,())
 | 3,x=>(x,())
 | 4,x=>(x.Nodes,x.Arcs,x.Faces,())
 | 5,x=>(x,())
 | 6,x=>(x.ID,x.Kind,x.Class,x.Name,x.Parts,())
 | 7,x=>(x.Plan.Nodes,x.Plan.Arcs,x.Plan.Faces,x.Features,())
 | 8,x=>(x.Kind,x.ID,x.A,x.B,x.C,x.At.X,x.At.Y,x.Via,x.Name,x.Parts,())
 | 9,x=>(x,())
 | 10,x=>(x,())
 | 11,x=>(x,())
 | 12,x=>(x,())
 | 13,x=>(x,())
 | 14,x=>(x,())
 | 15,x=>(x.X0,x.Y0,x.X1,x.Y1,())
 | 16,x=>(x,())
 | 17,x=>(x.e0.first,x.e0.last,x.e0.script,x.e1.first,x.e1.last,x.e1.script,x.e2.first,x.e2.last,x.e2.script,x.e3.first,x.e3.last,x.e3.script,x.e4.first,x.e4.last,x.e4.script,x.e5.first,x.e5.last,x.e5.script,x.e6.first,x.e6.last,x.e6.script,x.e7.first,x.e7.last,x.e7.script,x.e8.first,x.e8.last,x.e8.script,x.e9.first,x.e9.last,x.e9.script,x.e10.first,x.e10.last,x.e10.script,x.e11.first,x.e11.last,x.e11.script,x.e12.first,x.e12.last,x.e12.script,())
 | 18,x=>(x.first,x.last,x.script,())
 | 19,x=>(x,())
 | 20,x=>(x,())
 | 21,x=>(x.Arc.ID,x.Arc.From,x.Arc.To,x.Arc.Via,x.Arc.Left,x.Arc.Right,x.path,())
 | 22,x=>(x.line,x.at_,())
 | 23,x=>(x,())
 | 24,x=>(x,())
 | 25,x=>(x,())
 | 26,x=>(x,())
 | 27,x=>(x,())
 | 28,x=>(x,())
 | 29,x=>(x,())
 | 30,x=>(x.twice,x.outer,x.inner,x.alone,())
 | 31,x=>(x,())
 | 32,x=>(x.twice,x.outer,x.inner,x.alone,())
 | 33,x=>(x,())
 | 34,x=>(x.e0,x.e1,())
 | 35,x=>(x,())
 | 36,x=>(x.Face,x.Outer,x.Inner,x.Alone,())
 | 37,x=>(x,())
 | _+38,_=>()
theorem kUP: ∀k p,kUn k (kPk k p)=p
 | 0,p=>rfl
 | 1,p=>rfl
 | 2,p=>rfl
 | 3,p=>rfl
 | 4,p=>rfl
 | 5,p=>rfl
 | 6,p=>rfl
 | 7,p=>rfl
 | 8,p=>rfl
 | 9,p=>rfl
 | 10,p=>rfl
 | 11,p=>rfl
 | 12,p=>rfl
 | 13,p=>rfl
 | 14,p=>rfl
 | 15,p=>rfl
 | 16,p=>rfl
 | 17,p=>rfl
 | 18,p=>rfl
 | 19,p=>rfl
 | 20,p=>rfl
 | 21,p=>rfl
 | 22,p=>rfl
 | 23,p=>rfl
 | 24,p=>rfl
 | 25,p=>rfl
 | 26,p=>rfl
 | 27,p=>rfl
 | 28,p=>rfl
 | 29,p=>rfl
 | 30,p=>rfl
 | 31,p=>rfl
 | 32,p=>rfl
 | 33,p=>rfl
 | 34,p=>rfl
 | 35,p=>rfl
 | 36,p=>rfl
 | 37,p=>rfl
 | _+38,_=>rfl
instance iR: dS:=⟨kPk,kUn,kUP⟩
open jH (den)
theorem gV(a b:Int): aN PP (Op.equalIn 9999 3 (.int .i64 a) (.int .i64 b))=some (a==b):=by kernel_rfl
theorem aA3(a0 b0 a1 b1:Int): aN PP (Op.equalIn 10000 31 (.agg #[.int .i64 a0,.int .i64 a1]) (.agg #[.int .i64 b0,.int .i64 b1]))=some (a0==b0&&a1==b1):=by
 have p0:∀x0 x1:Value,aN PP (part 3 #[x0,x1] 0)=some x0:=by intro x0 x1;kernel_rfl
 have p1:∀x0 x1:Value,aN PP (part 3 #[x0,x1] 1)=some x1:=by intro x0 x1;kernel_rfl
 have h1:aN PP (underlying 31)=some (.struct #[{ name:= "X",type:=3,offset:=0,embedded:=false,tag:= "",pkgPath:= "",byteOffset:=0 },{ name:= "Y",type:=3,offset:=1,embedded:=false,tag:= "",pkgPath:= "",byteOffset:=8 }]):=by kernel_rfl
 have h5:aN PP program=some PP:=rfl
 have h6:Program.stoodInHeld PP 31=false:=by kernel_rfl
 have n0:¬("X"= "_"):=by decide
 have n1:¬("Y"= "_"):=by decide
 rw[Op.equalIn]
 simp only[bP,h1,Z2,h5,h6,Zn,Z9,Wb,XT,XZ,n0,n1,Ww,Y6,Zz,p0,p1,gV,cC]
 cases e0:(a0==b0)
 .rfl
 simp only[Xg,Zn,Z9,cC,Z2,bP,p0,p1,gV,n0,n1,Ww,Y6,Zz]
 cases e1:(a1==b1)<;>rfl
theorem aPG(x y:Aaa): decide (x=y)=(x.X==y.X&&x.Y==y.Y):=by
 rw[XV]
 simp only[Z4,Zd,ZC]
 constructor
 .rintro rfl;simp
 .obtain⟨_,_⟩:=x;obtain⟨_,_⟩:=y;simp only[Aaa.mk.injEq];intro h;simp only[h,Y7]
theorem o5(a b:Int): aN PP (Op.equalIn 9998 3 (.int .i64 a) (.int .i64 b))=some (a==b):=by kernel_rfl
theorem PX(a0 b0 a1 b1:Int): aN PP (Op.equalIn 9999 31 (.agg #[.int .i64 a0,.int .i64 a1]) (.agg #[.int .i64 b0,.int .i64 b1]))=some (a0==b0&&a1==b1):=by
 have p0:∀x0 x1:Value,aN PP (part 3 #[x0,x1] 0)=some x0:=by intro x0 x1;kernel_rfl
 have p1:∀x0 x1:Value,aN PP (part 3 #[x0,x1] 1)=some x1:=by intro x0 x1;kernel_rfl
 have h1:aN PP (underlying 31)=some (.struct #[{ name:= "X",type:=3,offset:=0,embedded:=false,tag:= "",pkgPath:= "",byteOffset:=0 },{ name:= "Y",type:=3,offset:=1,embedded:=false,tag:= "",pkgPath:= "",byteOffset:=8 }]):=by kernel_rfl
 have h5:aN PP program=some PP:=rfl
 have h6:Program.stoodInHeld PP 31=false:=by kernel_rfl
 have n0:¬("X"= "_"):=by decide
 have n1:¬("Y"= "_"):=by decide
 rw[Op.equalIn]
 simp only[bP,h1,Z2,h5,h6,Zn,Z9,Wb,XT,XZ,n0,n1,Ww,Y6,Zz,p0,p1,o5,cC]
 cases e0:(a0==b0)
 .rfl
 simp only[Xg,Zn,Z9,cC,Z2,bP,p0,p1,o5,n0,n1,Ww,Y6,Zz]
 cases e1:(a1==b1)<;>rfl
theorem aA1(a0 b0 a1 b1 a2 b2:Int): aN PP (Op.equalIn 10000 68 (.agg #[.int .i64 a0,.int .i64 a1,.int .i64 a2]) (.agg #[.int .i64 b0,.int .i64 b1,.int .i64 b2]))=some (a0==b0&&(a1==b1&&a2==b2)):=by
 have p0:∀x0 x1 x2:Value,aN PP (part 3 #[x0,x1,x2] 0)=some x0:=by intro x0 x1 x2;kernel_rfl
 have p1:∀x0 x1 x2:Value,aN PP (part 31 #[x0,x1,x2] 1)=some (.agg #[x1,x2]):=by intro x0 x1 x2;kernel_rfl
 have h1:aN PP (underlying 68)=some (.struct #[{ name:= "ID",type:=3,offset:=0,embedded:=false,tag:= "",pkgPath:= "",byteOffset:=0 },{ name:= "At",type:=31,offset:=1,embedded:=false,tag:= "",pkgPath:= "",byteOffset:=8 }]):=by kernel_rfl
 have h5:aN PP program=some PP:=rfl
 have h6:Program.stoodInHeld PP 68=false:=by kernel_rfl
 have n0:¬("ID"= "_"):=by decide
 have n1:¬("At"= "_"):=by decide
 rw[Op.equalIn]
 simp only[bP,h1,Z2,h5,h6,Zn,Z9,Wb,XT,XZ,n0,n1,Ww,Y6,Zz,p0,p1,gV,PX,cC]
 cases e0:(a0==b0)
 .rfl
 simp only[Xg,Zn,Z9,cC,Z2,bP,p0,p1,gV,PX,n0,n1,Ww,Y6,Zz]
 cases e1:(a1==b1&&a2==b2)<;>rfl
theorem aPE(x y:Aab): decide (x=y)=(x.ID==y.ID&&(x.At.X==y.At.X&&x.At.Y==y.At.Y)):=by
 rw[XV]
 simp only[Z4,Zd,ZC]
 constructor
 .rintro rfl;simp
 .obtain⟨_,⟨_,_⟩⟩:=x;obtain⟨_,⟨_,_⟩⟩:=y;simp only[Aab.mk.injEq,Aaa.mk.injEq];intro h;simp only[h,Y7]
theorem aA2(a0 b0 a1 b1 a2 b2 a3 b3:Int): aN PP (Op.equalIn 10000 42 (.agg #[.int .i64 a0,.int .i64 a1,.int .i64 a2,.int .i64 a3]) (.agg #[.int .i64 b0,.int .i64 b1,.int .i64 b2,.int .i64 b3]))=some (a0==b0&&(a1==b1&&(a2==b2&&a3==b3))):=by
 have p0:∀x0 x1 x2 x3:Value,aN PP (part 3 #[x0,x1,x2,x3] 0)=some x0:=by intro x0 x1 x2 x3;kernel_rfl
 have p1:∀x0 x1 x2 x3:Value,aN PP (part 3 #[x0,x1,x2,x3] 1)=some x1:=by intro x0 x1 x2 x3;kernel_rfl
 have p2:∀x0 x1 x2 x3:Value,aN PP (part 3 #[x0,x1,x2,x3] 2)=some x2:=by intro x0 x1 x2 x3;kernel_rfl
 have p3:∀x0 x1 x2 x3:Value,aN PP (part 3 #[x0,x1,x2,x3] 3)=some x3:=by intro x0 x1 x2 x3;kernel_rfl
 have h1:aN PP (underlying 42)=some (.struct #[{ name:= "X0",type:=3,offset:=0,embedded:=false,tag:= "",pkgPath:= "",byteOffset:=0 },{ name:= "Y0",type:=3,offset:=1,embedded:=false,tag:= "",pkgPath:= "",byteOffset:=8 },{ name:= "X1",type:=3,offset:=2,embedded:=false,tag:= "",pkgPath:= "",byteOffset:=16 },{ name:= "Y1",type:=3,offset:=3,embedded:=false,tag:= "",pkgPath:= "",byteOffset:=24 }]):=by kernel_rfl
 have h5:aN PP program=some PP:=rfl
 have h6:Program.stoodInHeld PP 42=false:=by kernel_rfl
 have n0:¬("X0"= "_"):=by decide
 have n1:¬("Y0"= "_"):=by decide
 have n2:¬("X1"= "_"):=by decide
 have n3:¬("Y1"= "_"):=by decide
 rw[Op.equalIn]
 simp only[bP,h1,Z2,h5,h6,Zn,Z9,Wb,XT,XZ,n0,n1,n2,n3,Ww,Y6,Zz,p0,p1,p2,p3,gV,cC]
 cases e0:(a0==b0)
 .rfl
 simp only[Xg,Zn,Z9,cC,Z2,bP,p0,p1,p2,p3,gV,n0,n1,n2,n3,Ww,Y6,Zz]
 cases e1:(a1==b1)
 .rfl
 simp only[Xg,Zn,Z9,cC,Z2,bP,p0,p1,p2,p3,gV,n0,n1,n2,n3,Ww,Y6,Zz]
 cases e2:(a2==b2)
 .rfl
 simp only[Xg,Zn,Z9,cC,Z2,bP,p0,p1,p2,p3,gV,n0,n1,n2,n3,Ww,Y6,Zz]
 cases e3:(a3==b3)<;>rfl
theorem aPF(x y:Aad): decide (x=y)=(x.X0==y.X0&&(x.Y0==y.Y0&&(x.X1==y.X1&&x.Y1==y.Y1))):=by
 rw[XV]
 simp only[Z4,Zd,ZC]
 constructor
 .rintro rfl;simp
 .obtain⟨_,_,_,_⟩:=x;obtain⟨_,_,_,_⟩:=y;simp only[Aad.mk.injEq];intro h;simp only[h,Y7]
theorem G9(a0 b0 a1 b1:Int): aN PP (Op.equalIn 10000 123 (.agg #[.int .i64 a0,.int .i64 a1]) (.agg #[.int .i64 b0,.int .i64 b1]))=some (a0==b0&&a1==b1):=by
 have h1:aN PP (underlying 123)=some (.array 2 3):=by kernel_rfl
 have h2:aN PP (sizeOf 3)=some 1:=by kernel_rfl
 have h3:∀x y:Value,aN PP (part 3 #[x,y] 0)=some x:=by intro x y;kernel_rfl
 have h4:∀x y:Value,aN PP (part 3 #[x,y] 1)=some y:=by intro x y;kernel_rfl
 rw[Op.equalIn]
 simp only[bP,h1,Z2,h2,Std.Legacy.Range.forIn_eq_forIn_range',Std.Legacy.Range.size,WA,Nat.add_one_sub_one,WN,List.range',XT,XZ,YQ,Z0,Yw,h3,h4,gV,cC]
 cases h7:(a0==b0)
 .rfl
 .simp only[Xg,Zn,Z9,cC,Z2,bP,h3,h4,gV,Zz]
  cases h8:(a1==b1)<;>rfl
theorem aM9(x y:Aac): decide (x=y)=(x.e0==y.e0&&x.e1==y.e1):=by
 rw[XV]
 simp only[Z4,Zd,ZC]
 constructor
 .rintro rfl;simp
 .obtain⟨_,_⟩:=x;obtain⟨_,_⟩:=y;simp only[Aac.mk.injEq];intro h;simp only[h,Y7]
theorem gfo: ∀cf,An cf->An (Kb cf):=aP8 λvi=>(Dm aIZ (Dm aDN (Dm aDN (Dm aDN (Dm aLG (Dm TM (Dm TM (Dm TM (Dm TM (Dm aJa aOV))))))))))
instance gG: GlC PP T:=⟨⟨[⟨31,⟨⟨1,λa b=>instDecidableEqAaa a b⟩,aA4 rfl rfl _ (λx y=>⟨by kernel_rfl,by kernel_rfl⟩) (λx y=>(aA3 x.X y.X x.Y y.Y).trans (congrArg some (aPG x y).symm))⟩⟩,⟨4,⟨⟨5,λa b=>instDecidableEqBool a b⟩,aPH rfl (λx=>x) (λx=>rfl) (λcf fl H x y=>by cases (x:Bool)<;>cases (y:Bool)<;>exact⟨by kernel_rfl,by kernel_rfl⟩)⟩⟩,⟨68,⟨⟨0,λa b=>instDecidableEqAab a b⟩,aA4 rfl rfl _ (λx y=>⟨by kernel_rfl,by kernel_rfl⟩) (λx y=>(aA1 x.ID y.ID x.At.X y.At.X x.At.Y y.At.Y).trans (congrArg some (aPE x y).symm))⟩⟩,⟨42,⟨⟨15,λa b=>instDecidableEqAad a b⟩,aA4 rfl rfl _ (λx y=>⟨by kernel_rfl,by kernel_rfl⟩) (λx y=>(aA2 x.X0 y.X0 x.Y0 y.Y0 x.X1 y.X1 x.Y1 y.Y1).trans (congrArg some (aPF x y).symm))⟩⟩],[⟨3,⟨⟨3,(inferInstance:DecidableEq Int)⟩,rfl,aMq (by kernel_rfl)⟩⟩,⟨123,⟨⟨34,λa b=>instDecidableEqAac a b⟩,rfl,aU8 (λa b=>instDecidableEqAac a b) (u:=.array 2 3) (by kernel_rfl) (λk x r=>rfl) (λx y=>(G9 x.e0 y.e0 x.e1 y.e1).trans (congrArg some (aM9 x y).symm)) (λe k=>by kernel_rfl) (λk=>by show Instr.sameBits 10000 (.agg #[.int .i64 k.e0,.int .i64 k.e1]) (.agg #[.int .i64 k.e0,.int .i64 k.e1])=true;simp[Instr.sameBits])⟩⟩],[⟨9,⟨by kernel_rfl,λs=>by kernel_rfl⟩⟩],[⟨(3,21),⟨.i32,λj a=>by kernel_rfl⟩⟩,⟨(3,186),⟨.u64,λj a=>by kernel_rfl⟩⟩,⟨(21,3),⟨.i64,λj a=>by kernel_rfl⟩⟩,⟨(186,3),⟨.i64,λj a=>by kernel_rfl⟩⟩],[⟨81,⟨.ins 0,aJQ rfl⟩⟩,⟨91,⟨.ins 6,aJQ rfl⟩⟩,⟨109,⟨.ins 2,aJQ rfl⟩⟩,⟨124,⟨.ord 3 uA,aRM rfl (λx=>x) (λx=>rfl) rfl aLo⟩⟩,⟨138,⟨.srt 32,rfl⟩⟩,⟨140,⟨.srt 36,rfl⟩⟩,⟨147,⟨.srt 3,rfl⟩⟩,⟨154,⟨.srt 22,rfl⟩⟩],gfo⟩⟩
abbrev Lc(vi fl j:Nat):=LC PP T (D7 T vi).nt fl (lpA (D7 T vi).body j)
abbrev Ic:=IC PP T
abbrev Kn:=Con PP T
abbrev C0: List Kn:=[]
end
section
open Go.Proofs
open Go.ChangeMaps (setBlock)
open jH (den cds ag)
structure Uf(r:Option Nat)(w w':World): Prop where
 os:w'.os=w.os
 tape:w'.tape=w.tape
 output:w'.output=w.output
 drawn:w.drawn<=w'.drawn
 size:w.heap.size<=w'.heap.size
 frame:∀k,k<w.heap.size->some k≠r->w'.heap[k]?=w.heap[k]?
theorem Uf.trans{r:Option Nat}{a b c:World}(h:Uf r a b)(k:Uf r b c): Uf r a c:=
 ⟨k.os.trans h.os,k.tape.trans h.tape,k.output.trans h.output,ZB h.drawn k.drawn,ZB h.size k.size,λi e d=>(k.frame i (YM e h.size) d).trans<|h.frame i e d⟩
theorem Uf.refl(r:Option Nat)(a:World): Uf r a a:=⟨rfl,rfl,rfl,Zf _,Zf _,λ_ _ _=>rfl⟩
theorem Uf.of{r:Option Nat}{a b:World}(h:Uf none a b): Uf r a b:=⟨h.os,h.tape,h.output,h.drawn,h.size,λk c _=>h.frame k c<|by simp⟩
theorem Uf.out{r:Nat}{a b w:World}(h:Uf (some r) a b)(c:Uf none w a)(e:w.heap.size<=r): Uf none w b:=
 ⟨h.os.trans c.os,h.tape.trans c.tape,h.output.trans c.output,ZB c.drawn h.drawn,ZB c.size h.size,λk d _=>(h.frame k (YM d c.size)<|by simp;omega).trans<|c.frame k d<|by simp⟩
theorem qQ{fl:Nat}{c c':dH}(h:bV fl c c')(b:∀id,c.β id=none): Uf none c.w c'.w:=
 ⟨h.os,h.tape,h.output,h.drawn,h.size,λk d _=>h.frame k d λid a=>by rw[b id] at a;cases a⟩
theorem iF{w:World}{k:Nat}{o:Obj}(h:w.heap[k]?=some o): k<w.heap.size:=by
 rcases ZI k w.heap.size with a | a
 .exact a
 .rw[Yb a] at h;cases h
theorem OI(w:World)(o:Obj): Uf none w<|w.alloc o:=
 ⟨rfl,rfl,rfl,Zf _,by show _<=(w.heap.push o).size;rw[Xu];exact Ys _,λk a _=>by show (w.heap.push o)[k]?=_;rw[ZU,ZF<|by omega]⟩
def sL: Code->Code
 | .seq a _=>a
 | c=>c
def sR: Code->Code
 | .seq _ b=>b
 | c=>c
def fB: Code->Array Oper
 | .region _ ops _=>ops
 | _=>#[]
def inB: Code->Code
 | .block _ c=>c
 | .loop c=>c
 | c=>c
def iN(c:Code)(i:Nat): Oper:=match (fB c)[i]? with
 | some o=>o
 | none=>default
noncomputable def sB: Code:=match Tryz.f61.body with
 | some c=>c
 | none=>.skip
noncomputable def Rg0: Code:=sL sB
noncomputable def Rg1: Code:=sL (sR sB)
noncomputable def Rg2: Code:=sL (sL (sR (sR sB)))
noncomputable def BD: Code:=inB (inB (sR (sL (sR (sR sB)))))
noncomputable def RgE: Code:=sL (sR (sR (sR sB)))
noncomputable def Rg3: Code:=sL BD
noncomputable def B4: Code:=inB (sR (sR BD))
noncomputable def J8: Code:=sL B4
noncomputable def Rg5: Code:=sL (sR B4)
noncomputable def Rg6: Code:=match sR (sR B4) with
 | .cond _ a _=>sL a
 | c=>c
theorem aRn: Tryz.f61.body=some (.seq (.region 0 (fB Rg0) false)<|.seq (.region 1 (fB Rg1) false)<|.seq (.seq (.region 2 (fB Rg2) false)<|.block 0<|.loop BD)<|.seq (.region 7 (fB RgE) false) .ret):=by kernel_rfl
theorem aOp: BD=.seq (.region 3 (fB Rg3) false) (.seq (.cond (.tmp 16) .skip<|.exit 0)<|.block 1<|.seq (.region 4 (fB J8) false)<|.seq (.region 5 (fB Rg5) false)<|.cond (.tmp 29) (.seq (.region 6 (fB Rg6) false) .ret) .skip):=by kernel_rfl
abbrev UV: AV:=.lit bL
theorem JR{P:Program}{ops:Array Oper}{Q:Exit->Act->World->Prop}{i:Nat}{K:Act->World->Prop}{a:Act}{w w':World}{o:Oper}{v:Value}(c:ops[i]?=some o)(e:o.guard=none)(f:(execOp a.eval o).run P w=.ok (.value v) w')(d:K (a.put o.dst v) w'): wpOp P ops Q i K a w:=by
 unfold wpOp;rw[c];simp only[Region.wanted,e,Zz];left;unfold Oper.wp;rw[f];exact d
theorem aLc{FT:Nat->Option Nat}{c:dH}{b:List AV}{vs:Array Value}(n:Nat)(a:lO FT c b vs): TR FT c (b++List.replicate (n-b.length) UV)<|vs++Array.replicate (n-vs.size) undef:=by
 refine⟨by simp[a.1],λt x d=>?_⟩;rw[Yk] at d;rw[XX,a.1];split at d
 .rename_i e;rw[Zu e];exact a.2 t x d
 .rename_i e;rw[ZF e];rw[XP] at d;split at d
  .rename_i f;cases d;refine⟨undef,?_,RV.lit _⟩;rw[XN,Zu f]
  .cases d
theorem UO{FT:Nat->Option Nat}{c:dH}{tm:List AV}{a:Act}{t:Nat}{v:Value}(h:TR FT c tm a.tmps)(d:tm[t]?=some (.lit v)): a.eval (.tmp t)=v:=by
 let⟨u,b,e⟩:=h.2 t _ d;rw[e.lit_inv] at b;simp[Act.eval,Yf,b]
theorem Ii{FT:Nat->Option Nat}{c:dH}(l:List Value): RV FT c (.tup<|l.map .lit)<|.tuple l.toArray:=by
 refine .tup _ _ (λi=>(l[i]?).getD bL) (by simp) ?_ ?_
 .intro i x a;rw[Zk,Zq] at a;obtain⟨v,b,rfl⟩:=a;simp[b]
 .intro i x a;rw[Zk,Zq] at a;obtain⟨v,b,rfl⟩:=a;show RV FT c (.lit v)<|(l[i]?).getD bL;rw[b];exact RV.lit _
theorem aCn: ∀{a:List<|Value×AV} {l:List<|Int×Int},O3 a=some l->a=l.map λe=>(Value.int .i64 e.1,AV.lit<|.int .i64 e.2)
 | [],l,h=>by cases h;rfl
 | (k,v)::r,l,h=>by
  unfold O3 at h;repeat' split at h;all_goals first | (cases h;done) | skip
  rename_i b _ _ _ _ c _ _ d;cases h;have b:k=_:=b;have c:v=_:=c;subst b c;rw[aCn d];rfl
theorem ME{x:AV}{l:List<|Int×Int}(h:Fe x=some l): (x=.lit (.map none)/\l=[])\/x=.rmp (l.map λe=>(Value.int .i64 e.1,AV.lit<|.int .i64 e.2)):=by
 unfold Fe at h;split at h
 .rw[aCn h];exact .inr rfl
 .repeat' split at h;all_goals first | (cases h;done) | skip
  cases h;exact .inl ⟨rfl,rfl⟩
 .cases h
theorem aMt{x:AV}{l:List<|Int×Int}(h:Fe x=some l): Qp (.rmp 3 3 l) x:=by
 have b:Qm (kk:=3) 3 l<|l.map λe=>[AV.lit<|.int .i64 e.2]:=by
  have:∀l:List<|Int×Int,Qm (kk:=3) 3 l<|l.map λe=>[AV.lit<|.int .i64 e.2]:=by
   intro l;induction l with
   | nil=>trivial
   | cons e l a=>exact⟨⟨.lit _,trivial⟩,a⟩
  exact this l
 rcases ME h with⟨rfl,rfl⟩ | rfl
 .exact Qp.mkM (rows:=[]) (.inl ⟨rfl,rfl⟩) trivial
 .refine Qp.mkM (.inr ?_) b;congr 1;have:∀l:List<|Int×Int,(l.map λe=>(Value.int .i64 e.1,AV.lit<|.int .i64 e.2))=fW (kk:=3) 3 l (l.map λe=>[AV.lit<|.int .i64 e.2]):=by
   intro l;induction l with
   | nil=>rfl
   | cons e l a=>show _::_=_::_;rw[a];rfl
  exact this l
theorem aLy{cf:CF}{fl:Nat}{tm:List AV}{H:aY}{c:AV}{old:List<|Int×Int}{k:Int}{x y:bB}(i:Fe c=some old)(j:aI tm x=c)(q:aI tm y=iv k): aM PP cf fl (.lookup 3 (.lit<|.int .i64 0) x y false) tm H=some (iv<|sdG old k,H):=by
 have f:Qt 2 ⟨[(0,.rmp 3 3 old),(1,.lit<|.int .i64 k)],List.replicate H.length .gone⟩ ⟨[c,iv k],H⟩:=⟨rfl,λt v a=>(by
  match t,a with
  | 0,a=>cases a;exact⟨_,rfl,.p _ _<|aMt i⟩
  | 1,a=>cases a;exact⟨_,rfl,.l _⟩
  | _+2,a=>cases a),aNG H⟩
 let⟨v,u,tv,s,b,_,o,h⟩:=b8 (P:=PP) (T:=T) (cf:=cf) (n:=0) (d:=some 0) (E:=((⟨C0,[],[],[],[]⟩:En PP T 2 fl .skip).xe GlC.g)) (K:=λtv _=>some tv) (r:=.lit<|.int .i64<|sdG old k)
  (En.ok _ _) f (kt:=3) (z:=.lit<|.int .i64 0) (m:=.tmp 0) (k:=.tmp 1) (ok:=false)<|by kernel_rfl
 rw[aNP b] at b;obtain rfl:=ZR h;rw[o.inL] at b;have e:aM PP cf fl (.lookup 3 (.lit<|.int .i64 0) x y false) tm H=aM PP cf fl (.lookup 3 (.lit<|.int .i64 0) (.tmp 0) (.tmp 1) false) [c,iv k] H:=by
  simp only[aM,j,q];rfl
 exact e.trans b
def Lk(l:List<|Nat×AV): List AV:=(List.range 30).map λk=>match dF k l with
 | some x=>x
 | none=>.undef
theorem aLh{l:List<|Nat×AV}(h:∀k v,dF k l=some v->k<30): At 30 l<|Lk l:=⟨by simp[Lk],λk v a=>by
 simp only[aI,Lk,Zk,YY<|h k v a,Yz,a]⟩
theorem qR{N k:Nat}{l:List<|Nat×AV}{tm:List AV}{v:AV}(h:At N l tm)(e:dF k l=some v)(b:k<N): tm[k]?=some v:=by
 have:=h.get e;have a:k<tm.length:=by rw[h.ln];exact b
 simp only[aI,Zb a] at this;rw[Zb a,this]
def cW(a:Nat->Prop)(r:Nat)(W:World): dH:=⟨W,λb=>a b\/b=r,λ_=>none,[]⟩
theorem DX{a:Nat->Prop}{r b:Nat}{W:World}: lM (cW a r W) b↔¬a b/\b≠r:=⟨λh=>⟨λk=>h.1<|.inl k,λk=>h.1<|.inr k⟩,λh=>⟨λk=>k.elim h.1 h.2,λid h=>by cases h⟩⟩
structure LI(X0:Nat->Prop)(r:Nat)(m:Int)(xo:AV)(W:World)(a:Act): Prop where
 gl:tX (cW X0 r W)
 fr:∀k,W.heap.size<=k->¬X0 k
 hr:r<W.heap.size
 sz:a.tmps.size=30
 t2:a.tmps[2]?=some (.int .i64 m)
 t14:a.tmps[14]?=some (.pointer (some ⟨r,0,none⟩))
 t7:∃v,a.tmps[7]?=some v/\RP W (lM (cW X0 r W)) xo v
abbrev l0(m:Int)(xo:AV)(r:Nat): List (Nat×AV):=[(2,iv m),(7,xo),(14,.lit (.pointer (some ⟨r,0,none⟩)))]
theorem O1(m:Int)(a:AV)(r:Nat): At 30 (l0 m a r)<|Lk<|l0 m a r:=aLh λk v h=>by
 simp only[dF] at h;repeat' split at h;all_goals first | cases h | skip
 all_goals (rename_i e;have:=Zc e;omega)
section
variable {X0:Nat->Prop}{r:Nat}{m:Int}{xo:AV}{W W':World}{a a':Act}
theorem LI.tr(h:LI X0 r m xo W a): TR (aL T) (cW X0 r W) (Lk<|l0 m xo r) a.tmps:=by
 refine⟨by simp[Lk,h.sz],λt x c=>?_⟩;have d:t<a.tmps.size:=by
  rw[h.sz];rcases ZI t 30 with k | k
  .exact k
  .rw[Zy<|by simpa [Lk] using k] at c;cases c
 rw[h.sz] at d;simp only[Lk,Zk,YY d,Yz,Za] at c;have l:∀x:AV,x=.undef->∃v,a.tmps[t]?=some v/\RV (aL T) (cW X0 r W) x v:=λx e=>⟨_,Z6<|by rw[h.sz];exact d,by rw[e];exact RV.undef _⟩;simp only[dF] at c;split at c
 .rename_i y b;subst c;split at b
  .rename_i e;cases b;rw[<-Zc e];exact⟨_,h.t2,RV.lit _⟩
  .split at b
   .rename_i e;cases b;rw[<-Zc e];let⟨v,i,j⟩:=h.t7;exact⟨v,i,.pure _ _ j⟩
   .split at b
    .rename_i e;cases b;rw[<-Zc e];exact⟨_,h.t14,RV.lit _⟩
    .cases b
 .exact l x c.symm
theorem LI.sim(h:LI X0 r m xo W a): bY (aL T) (cW X0 r W) where
 gl:=h.gl;inj:=λ_ _ _ h=>by cases h
 dom:=λ_ _ h=>by cases h
 nx:=λ_ _ h=>by cases h
 fresh:=λk c e=>e.elim (h.fr k c) λe=>by have:=h.hr;have c:W.heap.size<=k:=c;omega
 lens:=λid s es h=>by cases h
 blk:=λid s es b h=>by cases h
 map:=λid es b h=>by cases h
 raw:=λid q b h=>by cases h
theorem aFt(f:Uf (some r) W W'){x:AV}{v:Value}(h:RP W (lM<|cW X0 r W) x v): RP W' (lM<|cW X0 r W') x v:=h.mono λb o e d=>by
 let⟨i,c⟩:=DX.1 e;exact⟨DX.2 ⟨i,c⟩,(f.frame b (iF d)<|by simpa using c).trans d⟩
theorem LI.move(h:LI X0 r m xo W a)(c:Uf (some r) W W')(d:a'.tmps.size=30/\a'.tmps[2]?=a.tmps[2]?/\a'.tmps[14]?=a.tmps[14]?/\a'.tmps[7]?=a.tmps[7]?): LI X0 r m xo W' a' where
 gl:=λg cs i=>by
  let⟨cc,T,fz,b,f,e,u,o,s⟩:=h.gl g cs i;let⟨w,l⟩:=DX.1 f;exact⟨cc,T,fz,b,DX.2 ⟨w,l⟩,(c.frame g (iF e)<|by simpa using l).trans e,u,o,λj x z=>aFt c<|s j x z⟩
 fr:=λk t=>h.fr k<|ZB c.size t;hr:=YM h.hr c.size;sz:=d.1;t2:=d.2.1.trans h.t2;t14:=d.2.2.1.trans h.t14;t7:=by
  let⟨v,f,e⟩:=h.t7;exact⟨v,d.2.2.2.trans f,aFt c e⟩
theorem aIH{FT:Nat->Option Nat}{c:dH}{a:AV}{old:List<|Int×Int}{v:Value}(d:Fe a=some old)(h:RV FT c a v): RP c.w (lM c) a v:=by
 rcases ME d with⟨rfl,_⟩ | rfl
 .rw[h.lit_inv];exact .lit _
 .cases h with
  | pure _ _ h=>exact h
theorem LI.ops{c':dH}{tm:List AV}{l:List<|Nat×AV}{old:List<|Int×Int}(h:LI X0 r m xo W a)(t:Fe xo=some old)(q:bV 0 (cW X0 r W) c')(f:At 30 l tm)(i:TR (aL T) c' tm a'.tmps)(y:dF 2 l=some (iv m))(u:dF 7 l=some xo)(j:dF 14 l=some (.lit<|.pointer<|some ⟨r,0,none⟩)): LI X0 r m xo c'.w a':=by
 have p:=qQ q λ_=>rfl;have e:LI X0 r m xo c'.w a:=h.move p.of ⟨h.sz,rfl,rfl,rfl⟩;refine { e with sz:=by rw[<-i.1];exact f.ln,t2:=?_,t14:=?_,t7:=?_ }
 .let⟨v,c,d⟩:=i.2 2 _<|qR f y<|by decide
  rw[c,d.lit_inv]
 .let⟨v,c,d⟩:=i.2 14 _<|qR f j<|by decide
  rw[c,d.lit_inv]
 .let⟨v,c,d⟩:=i.2 7 _<|qR f u<|by decide
  refine⟨v,c,(aIH t d).mono λb o s p=>⟨DX.2 ?_,p⟩⟩;have:=s.1;rw[q.X] at this;exact⟨λk=>this<|.inl k,λk=>this<|.inr k⟩
end
def Ba(old:List<|Int×Int)(m k v:Int): Bool:=!decide (k=m)&&!decide (sdG old k=v)
def Ent(e:MapEntry)(k v:Int): Prop:=e.key=.int .i64 k/\e.val=.int .i64 v
theorem aNf: ∀(j:Nat) (o:Oper),[iN J8 1,iN J8 2,iN J8 3,iN J8 4][j]?=some o->(fB J8)[1+j]?=some o:=by
 have e:(fB J8).toList.drop 1=[iN J8 1,iN J8 2,iN J8 3,iN J8 4]:=by kernel_rfl
 intro j o h;rw[<-e,Zw,Z8] at h;exact h
theorem IY{c:Code}{n:Nat}(e:(fB c).toList=(List.range n).map (iN c)): ∀(j:Nat) (o:Oper),((List.range n).map<|iN c)[j]?=some o->(fB c)[0+j]?=some o:=by
 intro j o h;rw[<-e,Z8] at h;rw[Z0];exact h
section
variable {cf:CF}{X0:Nat->Prop}{r b clk cc:Nat}{m:Int}{xo:AV}{old:List (Int×Int)}{W:World}{a:Act}{seen:Array Nat}{es:Array MapEntry}
def gop(d:Nat)(a:Hq): bR:=⟨some d,a,some (23,true)⟩
def R5: List bR:=[om 20 8,om 21 2,o1 22<|.ibin .neq (tp 20)<|tp 21,om 23 22,gop 24<|.mov<|tp 7,gop 25<|.mov<|tp 8,gop 26<|.lookup 3 (.lit<|.int .i64 0) (tp 24) (tp 25) false,gop 27<|.mov<|tp 9,gop 28<|.ibin .neq (tp 26)<|tp 27,o1 29<|.pick (tp 23) (tp 28)<|.lit<|.bool false]
theorem aCt{P:Program}{fl:Nat}{tm:List AV}{H:aY}{l:List<|Nat×AV}{N d:Nat}{f:Hq}{rs:List bR}{K:St->Prop}(h:At N l tm)(e:dF 23 l=some (.lit<|.bool false))(k:∀a,At N ((d,.lit bL)::l) a->WO P cf fl rs ⟨a,H⟩ K)(b:Nat.blt d N=true:=by rfl): WO P cf fl (gop d f::rs) ⟨tm,H⟩ K:=by
 let⟨s,g,c⟩:=k _<|h.set b;refine⟨s,?_,c⟩;simp only[jF,cR,gop,eY,h.get e];exact g
theorem aCs{P:Program}{fl:Nat}{tm:List AV}{H H':aY}{v:AV}{l:List<|Nat×AV}{N d:Nat}{b:Hq}{rs:List bR}{K:St->Prop}(h:At N l tm)(e:dF 23 l=some (.lit<|.bool true))(ev:aM P cf fl b tm H=some (v,H'))(k:∀a,At N ((d,v)::l) a->WO P cf fl rs ⟨a,H'⟩ K)(c:Nat.blt d N=true:=by rfl): WO P cf fl (gop d b::rs) ⟨tm,H⟩ K:=by
 let⟨s,g,f⟩:=k _<|h.set c;refine⟨s,?_,f⟩;simp only[jF,cR,gop,eY,h.get e,ev];exact g
theorem aRE{tm:List AV}{k v:Int}(d:Fe xo=some old)(h:At 30 ((9,iv v)::(8,iv k)::l0 m xo r) tm): WO PP cf 0 R5 ⟨tm,[]⟩ λs=>s.heap=[]/\∃l,At 30 l s.tmps/\dF 29 l=some (.lit<|.bool<|Ba old m k v)/\dF 2 l=some (iv m)/\dF 7 l=some xo/\dF 14 l=some (.lit<|.pointer<|some ⟨r,0,none⟩):=by
 refine AO.mov h rfl λtm h=>AO.mov h rfl λtm h=>AO.op h (Lg (v:=.bool<|k != m) (h.get rfl) (h.get rfl) rfl) λtm h=>AO.mov h rfl λtm h=>?_;by_cases e:k=m
 .have b:(k != m)=false:=by simp[e]
  rw[b] at h;refine aCt h rfl λtm h=>aCt h rfl λtm h=>aCt h rfl λtm h=>aCt h rfl λtm h=>aCt h rfl λtm h=>AO.op (v:=.lit<|.bool false) (H':=[]) h (by simp only[aM,h.get (k:=23) rfl];rfl) λtm h=>AO.nil h ⟨rfl,_,h,?_,rfl,rfl,rfl⟩;have:Ba old m k v=false:=by simp[Ba,e]
  rw[this];rfl
 .have b:(k != m)=true:=by simpa using e
  rw[b] at h;refine aCs h rfl (v:=xo) (H':=[]) (by simp only[aM,h.get (k:=7) rfl]) λtm h=>aCs h rfl (v:=iv k) (H':=[]) (by simp only[aM,h.get (k:=8) rfl]) λtm h=>aCs h rfl (aLy d (h.get rfl)<|h.get rfl) λtm h=>aCs h rfl (v:=iv v) (H':=[]) (by simp only[aM,h.get (k:=9) rfl]) λtm h=>aCs h rfl (Lg (v:=.bool<|sdG old k != v) (h.get rfl) (h.get rfl) rfl) λtm h=>AO.op (v:=.lit<|.bool<|sdG old k != v) (H':=[]) h (by simp only[aM,h.get (k:=23) rfl,h.get (k:=28) rfl,Zz]) λtm h=>AO.nil h ⟨rfl,_,h,?_,rfl,rfl,rfl⟩;have:Ba old m k v=(sdG old k != v):=by
   simp only[Ba,e,decide_false,X3,Wv];rw[XV];simp
  rw[this];rfl
theorem aRr(E:Au PP T cf)(L:oQ PP T)(ho:Fe xo=some old)(li:LI X0 r m xo W a)(hr:W.heap[r]?=some (.mapIter (some b) clk seen cc))(hb:W.heap[b]?=some (.map es clk))(i2:b≠r)(j1:clk<=cc)(hy:Yng es clk)(hE:∀e∈es.toList,∃k v,Ent e k v){Q:Exit->Act->World->Prop}(h1:∀a' C,LI X0 r m xo C a'->Uf (some r) W C->(leftOf es seen).size=0->a'.defers=a.defers->Q (.exit 0) a' C)(l3:∀a' C e k v,e∈(leftOf es seen).toList->Ent e k v->Ba old m k v=false->LI X0 r m xo C a'->C.heap[r]?=some (.mapIter (some b) clk (seen.push e.born) clk)->C.heap[b]?=some (.map es clk)->Uf (some r) W C->a'.defers=a.defers->Q .normal a' C)(f1:∀a' C e k v,e∈(leftOf es seen).toList->Ent e k v->Ba old m k v=true->LI X0 r m xo C a'->a'.tmps[6]?=some (.bool true)->Uf (some r) W C->a'.defers=a.defers->Q .ret a' C): BD.wp PP Q a W:=by
 rw[aOp];refine Xk ?_;refine Xc ?_;show wpOps PP (fB Rg3) _ [0,1] a W;rw[Y3];have i1:(iN Rg3 0).op=.next (.tmp 14) false:=by kernel_rfl
 have g3:(iN Rg3 0).dst=some 15:=by kernel_rfl
 have S:a.eval (.tmp 14)=.pointer (some ⟨r,0,none⟩):=by simp[Act.eval,Yf,li.t14]
 rcases run_next_at (P:=PP) W (iN Rg3 0).type r b clk cc seen es clk hr hb hy.1 j1 with⟨hz,K⟩ | ⟨e,he,w1,J,K⟩
 .refine JR (o:=iN Rg3 0) (v:=.tuple #[.bool false]) (w':=W) (by kernel_rfl) (by kernel_rfl) (by simp[execOp,i1,S,K]) ?_;have i:=TR.put (d:=some 15) li.tr<|Ii (c:=cW X0 r W) [.bool false];have q:At 30 ((15,.tup [.lit<|.bool false])::l0 m xo r)<|iM (Lk<|l0 m xo r) (some 15)<|.tup<|[.bool false].map .lit:=(O1 m xo r).set rfl;rw[g3,Y3];have y:(a.put (some 15)<|.tuple #[.bool false]).defers=a.defers:=iW _ _ _;generalize a.put (some 15) (.tuple #[.bool false])=a1 at i y |-;generalize iM (Lk<|l0 m xo r) (some 15) (.tup<|[.bool false].map .lit)=c1 at i q;refine kV (fl:=0) (c:=cW X0 r W) (o:=iN Rg3 1) (ao:=o1 16<|.extract (tp 15) 0) (st':=⟨c1.set 16<|.lit<|.bool false,[]⟩) E L li.sim i (ZG _) (by kernel_rfl) (by kernel_rfl) (by simp only[cR,eY,aM,q.get (k:=15) rfl];rfl) ?_;intro M I e2 s2 n1 p d2 _;have F:=q.set (v:=.lit<|.bool false) (k:=16) rfl;have l2:=li.ops ho s2 F p rfl rfl rfl;show ((Code.seq (.cond (.tmp 16) .skip<|.exit 0) _)).wp PP Q M I.w;refine Xk ?_;refine XJ (UO p (t:=16)<|qR F rfl<|by decide) ?_;exact wp_exit<|h1 M I.w l2 (qQ s2 λ_=>rfl).of hz<|d2.trans y
 .let⟨kk,vv,hk,hv⟩:=hE e (mem_left he).1;have hf:w1.heap=W.heap:=by rcases J with rfl | rfl<;>rfl
  refine JR (o:=iN Rg3 0) (v:=.tuple #[.bool true,e.key,e.val]) (w':=setBlock w1 r<|.mapIter (some b) clk (seen.push e.born) clk) (by kernel_rfl) (by kernel_rfl) (by simp[execOp,i1,S,K]) ?_;have n:Uf (some r) W<|setBlock w1 r<|.mapIter (some b) clk (seen.push e.born) clk:=by
   refine⟨by rcases J with rfl | rfl<;>rfl,by rcases J with rfl | rfl<;>rfl,by rcases J with rfl | rfl<;>rfl,(by rcases J with rfl | rfl<;>first | exact Zf _ | exact Ys _),by simp[setBlock,hf],λk _ hk=>?_⟩;simp only[setBlock,hf];rw[YB λe=>hk<|by rw[e]]
  have b1:(setBlock w1 r<|.mapIter (some b) clk (seen.push e.born) clk).heap[r]?=some (.mapIter (some b) clk (seen.push e.born) clk):=by
   simp only[setBlock,hf];rw[Array.getElem?_setIfInBounds_self_of_lt<|iF hr]
  generalize setBlock w1 r (.mapIter (some b) clk (seen.push e.born) clk)=W1 at n b1;have f2:W1.heap[b]?=some (.map es clk):=(n.frame b (iF hb)<|by simpa using i2).trans hb;have Y:LI X0 r m xo W1 a:=li.move n ⟨li.sz,rfl,rfl,rfl⟩;have i:=TR.put (d:=some 15) Y.tr<|Ii (c:=cW X0 r W1) [.bool true,e.key,e.val];have q:At 30 ((15,.tup [.lit<|.bool true,.lit e.key,.lit e.val])::l0 m xo r)<|iM (Lk<|l0 m xo r) (some 15)<|.tup<|[.bool true,e.key,e.val].map .lit:=(O1 m xo r).set rfl;rw[g3,Y3];have y:(a.put (some 15)<|.tuple #[.bool true,e.key,e.val]).defers=a.defers:=iW _ _ _;show wpOp PP (fB Rg3) _ 1 _ (a.put (some 15)<|.tuple [.bool true,e.key,e.val].toArray) W1;replace y:(a.put (some 15)<|.tuple [.bool true,e.key,e.val].toArray).defers=a.defers:=y;generalize a.put (some 15) (.tuple [.bool true,e.key,e.val].toArray)=a1 at i y |-;generalize iM (Lk<|l0 m xo r) (some 15) (.tup<|[.bool true,e.key,e.val].map .lit)=c1 at i q;refine kV (fl:=0) (c:=cW X0 r W1) (o:=iN Rg3 1) (ao:=o1 16<|.extract (tp 15) 0) (st':=⟨c1.set 16<|.lit<|.bool true,[]⟩) E L Y.sim i (ZG _) (by kernel_rfl) (by kernel_rfl) (by simp only[cR,eY,aM,q.get (k:=15) rfl];rfl) ?_;intro M I e2 s2 n1 p d2 _;have F:=q.set (v:=.lit<|.bool true) (k:=16) rfl;have l2:=Y.ops ho s2 F p rfl rfl rfl;have b2:=qQ s2 λ_=>rfl;show ((Code.seq (.cond (.tmp 16) .skip<|.exit 0) _)).wp PP Q M I.w;refine Xk ?_;refine Wd (UO p (t:=16)<|qR F rfl<|by decide) ?_;refine W5 ?_;refine WJ ?_;refine Xk ?_;refine Xc ?_;show wpOps PP (fB J8) _ [0,1,2,3,4] M I.w;rw[Y3];have Z:=(b2.frame r (iF b1)<|by simp).trans b1;have b3:=(b2.frame b (iF f2)<|by simp).trans f2;have o3:=run_entry_at (P:=PP) I.w r b clk seen es clk e Z b3 (mem_left he).1 hy.2;have p1:(iN J8 0).op=.entry (.tmp 14):=by kernel_rfl
  have j2:M.eval (.tmp 14)=.pointer (some ⟨r,0,none⟩):=by simp[Act.eval,Yf,l2.t14]
  refine JR (o:=iN J8 0) (v:=.tuple #[e.key,e.val]) (w':=I.w) (by kernel_rfl) (by kernel_rfl) (by simp[execOp,p1,j2,o3]) ?_;have n3:(iN J8 0).dst=some 17:=by kernel_rfl
  rw[n3];have D:=TR.put (d:=some 17) l2.tr<|Ii (c:=cW X0 r I.w) [e.key,e.val];have O:At 30 ((17,.tup [.lit e.key,.lit e.val])::l0 m xo r)<|iM (Lk<|l0 m xo r) (some 17)<|.tup<|[e.key,e.val].map .lit:=(O1 m xo r).set rfl;have U:(M.put (some 17)<|.tuple [e.key,e.val].toArray).defers=M.defers:=iW _ _ _;show wpOps PP (fB J8) _ (List.range' 1 4) (M.put (some 17)<|.tuple [e.key,e.val].toArray) I.w;generalize M.put (some 17) (.tuple [e.key,e.val].toArray)=a3 at D U |-;generalize iM (Lk<|l0 m xo r) (some 17) (.tup<|[e.key,e.val].map .lit)=e3 at D O;have R:LI X0 r m xo I.w M:=l2;let⟨s4,j3,h4,l4,x,q2,q7,q8,q9,h2⟩:WO PP cf 0 [o1 18<|.extract (tp 17) 0,o1 19<|.extract (tp 17) 1,om 8 18,om 9 19] ⟨e3,[]⟩ λs=>s.heap=[]/\∃l,At 30 l s.tmps/\dF 2 l=some (iv m)/\dF 7 l=some xo/\dF 8 l=some (iv kk)/\dF 9 l=some (iv vv)/\dF 14 l=some (.lit<|.pointer<|some ⟨r,0,none⟩):=by
   rw[hk,hv] at O;exact AO.op (v:=iv kk) (H':=[]) O (by simp only[aM,O.get (k:=17) rfl];rfl) λtm h=>AO.op (v:=iv vv) (H':=[]) h (by simp only[aM,h.get (k:=17) rfl];rfl) λtm h=>AO.mov h rfl λtm h=>AO.mov h rfl λtm h=>AO.nil h ⟨rfl,_,h,rfl,rfl,rfl,rfl,rfl⟩
  refine Be (ops:=fB J8) (fl:=0) E L [o1 18<|.extract (tp 17) 0,o1 19<|.extract (tp 17) 1,om 8 18,om 9 19] [iN J8 1,iN J8 2,iN J8 3,iN J8 4] 1 (cW X0 r I.w) a3 e3 s4 (by kernel_rfl) aNf R.sim D (ZG _) j3 ?_;intro a4 c4 e4 c3 m3 X d4;have q1:=R.ops ho c3 x X q2 q7 h2;have b4:=qQ c3 λ_=>rfl;show (Code.seq (.region 5 (fB Rg5) false) _).wp PP _ a4 c4.w;refine Xk ?_;refine Xc ?_;show wpOps PP (fB Rg5) _ (List.range' 0 10) a4 c4.w;have k2:At 30 ((9,iv vv)::(8,iv kk)::l0 m xo r) s4.tmps:=.cons (x.get q9)<|.cons (x.get q8)<|.cons (x.get q2)<|.cons (x.get q7)<|.cons (x.get h2) ⟨x.ln,λ_ _ h=>by cases h⟩;have l1:c4.H=[]:=by rw[e4,h4]
  let⟨s5,n2,h5,l5,A,N,p2,p7,e1⟩:=aRE (cf:=cf) ho k2;refine Be (ops:=fB Rg5) (fl:=0) E L R5 ((List.range 10).map<|iN Rg5) 0 c4 a4 s4.tmps s5 (by kernel_rfl) (IY<|by kernel_rfl) m3 X (ZG _) (by rw[l1];exact n2) ?_;intro a5 c5 e5 k3 m2 B d5;have d1:=c3.trans k3;have m1:=R.ops ho d1 A B p2 p7 e1;have b5:=qQ d1 λ_=>rfl;have tot:Uf (some r) W c5.w:=n.trans<|b2.of.trans b5.of;have f3:a5.defers=a.defers:=d5.trans<|d4.trans<|U.trans<|d2.trans y;show (Code.cond (.tmp 29) _ _).wp PP _ a5 c5.w;cases z:Ba old m kk vv with
  | false=>
   rw[z] at N;refine XJ (UO B (t:=29)<|qR A N<|by decide) ?_;refine W5 ?_;exact l3 a5 c5.w e kk vv he ⟨hk,hv⟩ z m1 ((b5.frame r (iF Z)<|by simp).trans Z) ((b5.frame b (iF b3)<|by simp).trans b3) tot f3
  | true=>
   rw[z] at N;refine Wd (UO B (t:=29)<|qR A N<|by decide) ?_;refine Xk ?_;refine Xc ?_;show wpOps PP (fB Rg6) _ (List.range' 0 1) a5 c5.w;have o2:c5.H=[]:=by rw[e5,h5]
   refine Be (ops:=fB Rg6) (fl:=0) E L [o1 6<|.mov<|.lit<|.bool true] ((List.range 1).map<|iN Rg6) 0 c5 a5 s5.tmps ⟨s5.tmps.set 6<|.lit<|.bool true,[]⟩ (by kernel_rfl) (IY<|by kernel_rfl) m2 B (ZG _) (by rw[o2];rfl) ?_;intro a6 c6 e6 i3 p3 V d6;have d3:=d1.trans i3;have h3:=A.set (v:=.lit<|.bool true) (k:=6) rfl;have k1:=R.ops ho d3 h3 V p2 p7 e1;have b6:=qQ d3 λ_=>rfl;refine wp_ret ?_;let⟨u,g1,g2⟩:=V.2 6 _<|qR h3 rfl<|by decide
   exact f1 a6 c6.w e kk vv he ⟨hk,hv⟩ z k1 (by rw[g1,g2.lit_inv]) (n.trans<|b2.of.trans b6.of)<|d6.trans f3
theorem M3(o:Au PP T cf)(s:oQ PP T)(H:Fe xo=some old)(j:b≠r)(D:Yng es clk)(F:∀e∈es.toList,∃k v,Ent e k v){Q:Exit->Act->World->Prop}{W0:World}{ds:List Deferred}(f:∀a' c,LI X0 r m xo c a'->Uf (some r) W0 c->(∀e∈es.toList,∀k v,Ent e k v->Ba old m k v=false)->a'.defers=ds->Q (.exit 0) a' c)(g:∀a' c e k v,e∈es.toList->Ent e k v->Ba old m k v=true->LI X0 r m xo c a'->a'.tmps[6]?=some (.bool true)->Uf (some r) W0 c->a'.defers=ds->Q .ret a' c):
 ∀(n:Nat) (seen:Array Nat) (cc:Nat) (W:World) (a:Act),(leftOf es seen).size<n->LI X0 r m xo W a->W.heap[r]?=some (.mapIter (some b) clk seen cc)->W.heap[b]?=some (.map es clk)->clk<=cc->Uf (some r) W0 W->a.defers=ds->(∀e∈es.toList,seen.contains e.born=true->∀k v,Ent e k v->Ba old m k v=false)->Code.rounds PP BD Q n a W
 | 0,_,_,_,_,h,_,_,_,_,_,_,_=>by omega
 | n+1,seen,cc,W,a,Y,U,R,X,C,z,B,J=>by
  rw[rounds_succ];refine aRr o s H U R X j C D F (λa' c q l S p=>?_) (λa' c e k v he y w q A O l p=>?_) λa' c e k v he y w q A l p=>?_
  .exact f a' c q (z.trans l) (λe he k v t=>J e he (all_seen es seen S e he) k v t)<|p.trans B
  .refine M3 o s H j D F f g n (seen.push e.born) clk c a' (by have:=left_shrinks es seen e he;omega) q A O (Zf _) (z.trans l) (p.trans B) λx K i k' L t=>?_;rw[contains_push] at i;rcases YU _ _▸i with i | i
   .exact J x K i k' L t
   .have M:x=e:=born_inj D.2 K (mem_left he).1<|by simpa using i
    subst M;let⟨I,G⟩:=t;let⟨V,N⟩:=y;rw[V] at I;rw[N] at G;cases I;cases G;exact w
  .exact g a' c e k v (mem_left he).1 y w q A (z.trans l)<|p.trans B
end
theorem Vp(H H':aY)(x:AV): dI H' (dI H x)=dI H x:=by
 cases x with
 | lit v=>
  have a:sP v=.lit v\/sP v=.sl false []:=by
   unfold sP;repeat' split
   all_goals first | exact .inl rfl | exact .inr rfl
  rcases a with e | e
  .simp only[dI,e]
  .simp only[dI,e]
 | ms id tot off len=>
  have e:dI H (.ms id tot off len)=match rd H (.ms id tot off len) with | some es=>.vw (es.map λe=>e.map Ed) | none=>.undef:=rfl;rw[e];cases rd H (.ms id tot off len)<;>rfl
 | fn vi caps=>cases caps<;>rfl
 | _=>rfl
theorem aLb{FT:Nat->Option Nat}{c:dH}{tm:List AV}{tv:Array Value}{k:Nat}{v:Value}(h:TR FT c tm tv)(b:tv[k]?=some v): TR FT c (tm.set k<|.lit v) tv:=by
 refine⟨by rw[Yr];exact h.1,λt x a=>?_⟩;rw[Z5] at a;split at a
 .rename_i e;subst e;split at a
  .cases a;exact⟨v,b,RV.lit _⟩
  .cases a
 .exact h.2 t x a
theorem T1{old:List<|Int×Int}{m:Int}: ∀a:List<|Int×Int,sdB old m a=true↔∃e∈a,Ba old m e.1 e.2=true
 | []=>by simp[sdB]
 | e::l=>by
  have b:=T1 (old:=old) (m:=m) l;show (match Ba old m e.1 e.2 with | true=>true | false=>sdB old m l)=true↔_;cases h:Ba old m e.1 e.2 with
  | true=>simp[h]
  | false=>simp[h,b]
theorem aO5{W:World}{a:Act}{x:Bool}{c:dH}{tm:List AV}(i:bY (aL T) c)(m:c.H=[])(e:c.w=W)(h:TR (aL T) c tm a.tmps)(j:tm.length=30)(l:a.tmps[6]?=some (.bool x)): (results Tryz.f61 a.tmps).run PP W=.ok (.bool x) W:=by
 have k:=aLb h l;have g:lL ⟨tm.set 6<|.lit<|.bool x,[]⟩ [.tmp 6]=some [.lit<|.bool x]:=by
  simp only[lL,Ow,aI,Z3 (by rw[j];decide:6<tm.length)]
 let⟨v,d,f⟩:=PB (P:=PP) (fn:=Tryz.f61) (rs:=[.tmp 6]) (vs:=[.lit<|.bool x]) (st:=⟨tm.set 6<|.lit<|.bool x,[]⟩) i m k (by kernel_rfl) g;rw[e,f.lit_inv] at d;exact d
theorem aNS{cf:CF}{fl:Nat}{tm:List AV}{H:aY}{x:bB}{cs:List AV}(a:aI tm x=.agg cs): aM PP cf fl (.box x) tm H=some (.ptr H.length 1 0 0,H++[.blk cs.length [cs]]):=by simp only[aM,a,cellsOf]
theorem aGr{cf:CF}{c:aY}{a:AV}{l:List<|Int×Int}(h:sdH cf 187 c a=some l): ∃z,(∀{fl:Nat} {tm:List AV} {H:aY} {x:bB},aI tm x=cJ c a->aM PP cf fl (.callB 187 [x]) tm H=some (z,H))/\Fe z=some l/\∃x y w,cJ c a=.agg [x,y,w]:=by
 let⟨j,m,k,p,d,t,q⟩:=aFk h;have u:∃g f i,j=dI c g/\m=dI c f/\k=dI c i:=by
  have s:∀b cs,dI c b=.agg cs->False:=by
   intro b cs e;cases b with
   | lit v=>
    simp only[dI] at e;split at e<;>cases e
   | ms=>simp only[dI] at e;split at e<;>cases e
   | fn vi caps=>cases caps<;>cases e
   | _=>cases e
  have A:∀b,(∀cs,b≠.agg cs)->cJ c b=dI c b:=λb r=>by
   cases b with
   | agg cs=>exact (r cs rfl).elim
   | _=>rfl
  cases a with
  | agg cs=>
   have d:AV.agg (cs.map<|dI c)=.agg [j,m,k]:=d;injection d with d;match cs,d with
   | [g,f,i],d=>cases d;exact⟨_,_,_,rfl,rfl,rfl⟩
  | _=>exact (s _ _<|(A _ λcs e=>by cases e).symm.trans d).elim
 obtain⟨g,f,i,rfl,rfl,rfl⟩:=u;refine⟨fA p.2 0 p.1,λ{fl tm H x} n=>?_,q,_,_,_,d⟩;have e:cJ H (.agg [dI c g,dI c f,dI c i])=.agg [dI c g,dI c f,dI c i]:=by
  show AV.agg [dI H<|dI c g,dI H<|dI c f,dI H<|dI c i]=_;rw[Vp,Vp,Vp]
 rw[d] at n;simp only[aM,ZE,Yn,n,e,t]
theorem aD5{cf:CF}(G:Au PP T cf)(I:oQ PP T){c:dH}(hs:bY (aL T) c){a b:AV}{m:Int}{old q:List<|Int×Int}(h1:sdH cf 187 c.H a=some old)(h2:sdH cf 187 c.H b=some q){vs:Array Value}(A:lO (aL T) c [a,b,iv m] vs):
 Calls PP 61 vs c.w λe w'=>e=.returned (.bool<|sdB old m q)/\Uf none c.w w':=by
 refine calls_of_wp (fn:=Tryz.f61) Tryz.func61 aRn ?_;have z3:=Af hs;have Y:lO (aL T) (eP c) [cJ c.H a,cJ c.H b,iv m] vs:=by
  refine⟨A.1,λi x B=>?_⟩;match i,B with
  | 0,B=>cases B;let⟨v,k1,k2⟩:=A.2 0 a rfl;exact⟨v,k1,EH hs k2⟩
  | 1,B=>cases B;let⟨v,k1,k2⟩:=A.2 1 b rfl;exact⟨v,k1,EH hs k2⟩
  | 2,B=>cases B;let⟨v,k1,k2⟩:=A.2 2 (iv m) rfl;exact⟨v,k1,by rw[k2.lit_inv];exact RV.lit _⟩
 have f1:=aLc 30 Y;have hA:At 30 [(0,cJ c.H a),(1,cJ c.H b),(2,iv m)]<|[cJ c.H a,cJ c.H b,iv m]++List.replicate (30-[cJ c.H a,cJ c.H b,iv m].length) UV:=.cons rfl<|.cons rfl<|.cons rfl ⟨rfl,λ_ _ h=>by cases h⟩;have z1:Tryz.f61.ntmps=30:=by kernel_rfl
 rw[z1];generalize [cJ c.H a,cJ c.H b,iv m]++List.replicate (30-[cJ c.H a,cJ c.H b,iv m].length) UV=tm at f1 hA;generalize i3:(⟨vs++Array.replicate (30-vs.size) undef,[]⟩:Act)=a3;have f1:TR (aL T) (eP c) tm a3.tmps:=by rw[<-i3];exact f1
 have n1:a3.defers=[]:=by rw[<-i3]
 let⟨J,eo,io,x,y,z,ea⟩:=aGr h1;let⟨xn,en,r3,x',y',z',eb⟩:=aGr h2;rw[ea] at hA eo;rw[eb] at hA en;let⟨s0,v0,w0,r1⟩:WO PP cf 0 [o1 3<|.box<|tp 0,o1 4<|.box<|tp 1,o1 6<|.mov<|.lit<|.bool false] ⟨tm,[]⟩ λs=>s.heap=[.blk 3 [[x,y,z]],.blk 3 [[x',y',z']]]/\At 30 [(6,.lit<|.bool false),(4,.ptr 1 1 0 0),(3,.ptr 0 1 0 0),(0,.agg [x,y,z]),(1,.agg [x',y',z']),(2,iv m)] s.tmps:=
  AO.op hA (aNS<|hA.get rfl) λtm h=>AO.op h (aNS<|h.get rfl) λtm h=>AO.op (v:=.lit<|.bool false) (H':=[.blk 3 [[x,y,z]],.blk 3 [[x',y',z']]]) h rfl λtm h=>AO.nil h ⟨rfl,h⟩
 refine Xk ?_;refine Xc ?_;show wpOps PP (fB Rg0) _ (List.range' 0 3) a3 (eP c).w;refine Be (ops:=fB Rg0) (fl:=0) G I [o1 3<|.box<|tp 0,o1 4<|.box<|tp 1,o1 6<|.mov<|.lit<|.bool false] ((List.range 3).map<|iN Rg0) 0 (eP c) a3 tm s0 (by kernel_rfl) (IY<|by kernel_rfl) z3 f1 (ZG _) v0 ?_;intro b1 c1 e1 t1 y1 D d1;have hh0:s0.heap[0]?=some (.blk 3 [[x,y,z]]):=by rw[w0];rfl
 have hh1:s0.heap[1]?=some (.blk 3 [[x',y',z']]):=by rw[w0];rfl
 let⟨s1,v1,w1,O⟩:WO PP cf 0 [o1 10<|.load true 3<|tp 3,o1 11<|.callB 187 [tp 10],om 7 11] s0 λs=>s.heap=s0.heap/\At 30 [(7,J),(11,J),(10,.agg [x,y,z]),(6,.lit<|.bool false),(4,.ptr 1 1 0 0),(3,.ptr 0 1 0 0),(0,.agg [x,y,z]),(1,.agg [x',y',z']),(2,iv m)] s.tmps:=by
  exact AO.op (v:=.agg [x,y,z]) (H':=s0.heap) r1 (Pc (agg:=true) (n:=3) (r1.get (k:=3) rfl) hh0 rfl rfl (Zf 3) rfl) λtm h=>AO.op h (eo<|h.get rfl) λtm h=>AO.mov h rfl λtm h=>AO.nil h ⟨rfl,h⟩
 show (Code.seq (.region 1 (fB Rg1) false) _).wp PP _ b1 c1.w;refine Xk ?_;refine Xc ?_;show wpOps PP (fB Rg1) _ (List.range' 0 3) b1 c1.w;refine Be (ops:=fB Rg1) (fl:=0) G I [o1 10<|.load true 3<|tp 3,o1 11<|.callB 187 [tp 10],om 7 11] ((List.range 3).map<|iN Rg1) 0 c1 b1 s0.tmps s1 (by kernel_rfl) (IY<|by kernel_rfl) y1 D (ZG _) (by rw[e1];exact v1) ?_;intro b2 c2 e2 t2 x2 m1 d2;show (Code.seq (.seq (.region 2 (fB Rg2) false)<|.block 0<|.loop BD) _).wp PP _ b2 c2.w;refine Xk ?_;refine Xk ?_;refine Xc ?_;show wpOps PP (fB Rg2) _ [0,1,2] b2 c2.w;rw[Y3];refine kV (fl:=0) (o:=iN Rg2 0) (ao:=o1 12<|.load true 3<|tp 4) (st':=⟨s1.tmps.set 12<|.agg [x',y',z'],s0.heap⟩) G I x2 m1 (ZG _) (by kernel_rfl) (by kernel_rfl) (by
  rw[e2,w1];simp only[cR,eY,Pc (agg:=true) (n:=3) (P:=PP) (cf:=cf) (fl:=0) (v:=.agg [x',y',z']) (O.get (k:=4) rfl) hh1 rfl rfl (Zf 3) rfl,iM]) ?_
 intro b3 c3 e3 t3 y3 p1 d3 _;have x1:=O.set (k:=12) (v:=.agg [x',y',z']) rfl;rw[Y3];refine kV (fl:=0) (o:=iN Rg2 1) (ao:=o1 13<|.callB 187 [tp 12]) (st':=⟨(s1.tmps.set 12<|.agg [x',y',z']).set 13 xn,s0.heap⟩) G I y3 p1 (ZG _) (by kernel_rfl) (by kernel_rfl) (by
  rw[e3];simp only[cR,eY,en<|x1.get (k:=12) rfl,iM]) ?_
 intro b4 f e4 t4 s2 i2 d4 _;have l3:=x1.set (k:=13) (v:=xn) rfl;have tot:bV 0 (eP c) f:=t1.trans<|t2.trans<|t3.trans t4;have j1:Uf none (eP c).w f.w:=qQ tot λ_=>rfl;have u1:b4.defers=[]:=d4.trans<|d3.trans<|d2.trans<|d1.trans n1;rw[Y3];have n3:PP.underlying 135=some (.map 3 3):=by kernel_rfl
 have w3:(iN Rg2 2).op=.range 135 (.tmp 13):=by kernel_rfl
 have m2:(iN Rg2 2).dst=some 14:=by kernel_rfl
 let⟨u13,k13,x3⟩:=i2.2 13 xn<|qR l3 rfl<|by decide
 have i1:b4.eval (.tmp 13)=u13:=by simp[Act.eval,Yf,k13]
 have u2:=aIH r3 x3;have L:=TR.put (d:=some 14) i2<|RV.lit<|.pointer<|some ⟨f.w.heap.size,0,none⟩;have Z:=l3.set (k:=14) (v:=.lit<|.pointer<|some ⟨f.w.heap.size,0,none⟩) rfl;have N:(b4.put (some 14)<|.pointer<|some ⟨f.w.heap.size,0,none⟩).defers=b4.defers:=iW _ _ _;have h3:∀E,lM f E->¬(eP f).X E:=λE h e=>e.elim h.1 λ⟨id,hid⟩=>h.2 id hid;have R:∀ob:Obj,LI (eP f).X f.w.heap.size m J (f.w.alloc ob)<|b4.put (some 14)<|.pointer<|some ⟨f.w.heap.size,0,none⟩:=by
  intro ob;have ba:=OI f.w ob;have up:∀{x:AV} {v:Value},RP f.w (lM f) x v->RP (f.w.alloc ob) (lM<|cW (eP f).X f.w.heap.size<|f.w.alloc ob) x v:=λh=>h.mono λE o hi hb=>by
   have C:=iF hb;exact⟨DX.2 ⟨h3 E hi,by omega⟩,(ba.frame E C<|by simp).trans hb⟩
  refine⟨λg cs y2=>?_,λk hk=>?_,?_,?_,?_,?_,?_⟩
  .let⟨cc,T,fz,M,U,Q,g3,g4,g5⟩:=s2.gl g cs y2;have C:=iF Q;exact⟨cc,T,fz,M,DX.2 ⟨h3 g U,by omega⟩,(ba.frame g C<|by simp).trans Q,g3,g4,λj x B=>up<|g5 j x B⟩
  .have:f.w.heap.size<=k:=ZB ba.size hk;exact (Af s2).fresh k this
  .show f.w.heap.size<(f.w.heap.push ob).size;rw[Xu];exact Wk _
  .rw[<-L.1];exact Z.ln
  .let⟨v,U,Q⟩:=L.2 2 _<|qR Z rfl<|by decide
   rw[U,Q.lit_inv]
  .let⟨v,U,Q⟩:=L.2 14 _<|qR Z rfl<|by decide
   rw[U,Q.lit_inv]
  .let⟨v,U,Q⟩:=L.2 7 J<|qR Z rfl<|by decide
   exact⟨v,U,up<|aIH io Q⟩
 have w2:∀(W:World) (a':Act) (x:Bool),LI (eP f).X f.w.heap.size m J W a'->Uf (some f.w.heap.size) (f.w) W->a'.tmps[6]?=some (.bool x)->a'.defers=[]->x=sdB old m q->bodyPost PP Tryz.f61 (λe w'=>e=.returned (.bool<|sdB old m q)/\Uf none c.w w') .ret a' W:=by
  intro W a' x F j2 h6 hd B;refine⟨hd,.bool x,aO5 F.sim rfl rfl F.tr (O1 m J _).ln h6,by rw[B],j2.out j1<|j1.size⟩
 have f3:∀(W:World) (a':Act),LI (eP f).X f.w.heap.size m J W a'->Uf (some f.w.heap.size) f.w W->a'.defers=[]->sdB old m q=false->(Code.seq (.region 7 (fB RgE) false) .ret).wp PP (bodyPost PP Tryz.f61 λe w'=>e=.returned (.bool<|sdB old m q)/\Uf none c.w w') a' W:=by
  intro W a' F j2 hd B;refine Xk ?_;refine Xc ?_;show wpOps PP (fB RgE) _ (List.range' 0 1) a' (cW (eP f).X f.w.heap.size W).w;refine Be (ops:=fB RgE) (fl:=0) G I [o1 6<|.mov<|.lit<|.bool false] ((List.range 1).map<|iN RgE) 0 (cW (eP f).X f.w.heap.size W) a' (Lk<|l0 m J f.w.heap.size) ⟨(Lk<|l0 m J f.w.heap.size).set 6<|.lit<|.bool false,[]⟩ (by kernel_rfl) (IY<|by kernel_rfl) F.sim F.tr (ZG _) rfl ?_;intro a6 c6 e6 n2 hs6 f2 d6;have v2:=(O1 m J f.w.heap.size).set (v:=.lit<|.bool false) (k:=6) rfl;have l66:=F.ops io n2 v2 f2 rfl rfl rfl;let⟨u,U,Q⟩:=f2.2 6 _<|qR v2 rfl<|by decide
  exact wp_ret<|w2 c6.w a6 false l66 (j2.trans (qQ n2 λ_=>rfl).of) (by rw[U,Q.lit_inv]) (d6.trans hd) B.symm
 rcases ME r3 with⟨rfl,rfl⟩ | rfl
 .cases u2;refine JR (o:=iN Rg2 2) (w':=f.w.alloc<|.mapIter none 0 #[] 0) (v:=.pointer<|some ⟨f.w.heap.size,0,none⟩) (by kernel_rfl) (by kernel_rfl) (by simp[execOp,w3,i1,run_range_nilMap (P:=PP) f.w 135 3 3 n3]) ?_;rw[m2];have F:=R<|.mapIter none 0 #[] 0;have j3:=run_next_nilMap (P:=PP) f.w (iN Rg3 0).type 0 0 #[];have S:Uf (some f.w.heap.size) f.w<|f.w.alloc<|.mapIter none 0 #[] 0:=(OI _ _).of;generalize f.w.alloc (.mapIter none 0 #[] 0)=W at F j3 S |-;generalize b4.put (some 14) (.pointer<|some ⟨f.w.heap.size,0,none⟩)=a5 at F N |-;show (Code.block 0<|.loop BD).wp PP _ a5 W;refine WJ ?_;refine XA 1 ?_;rw[rounds_succ,aOp];refine Xk ?_;refine Xc ?_;show wpOps PP (fB Rg3) _ [0,1] a5 W;rw[Y3];have ho3:(iN Rg3 0).op=.next (.tmp 14) false:=by kernel_rfl
  have hd3:(iN Rg3 0).dst=some 15:=by kernel_rfl
  have o2:a5.eval (.tmp 14)=.pointer (some ⟨f.w.heap.size,0,none⟩):=by simp[Act.eval,Yf,F.t14]
  refine JR (o:=iN Rg3 0) (v:=.tuple #[.bool false]) (w':=W) (by kernel_rfl) (by kernel_rfl) (by simp[execOp,ho3,o2,j3]) ?_;have D:=TR.put (d:=some 15) F.tr<|Ii (c:=cW (eP f).X f.w.heap.size W) [.bool false];have O:At 30 ((15,.tup [.lit<|.bool false])::l0 m J f.w.heap.size)<|iM (Lk<|l0 m J f.w.heap.size) (some 15)<|.tup<|[.bool false].map .lit:=(O1 m J _).set rfl;rw[hd3,Y3];have k3:(a5.put (some 15)<|.tuple #[.bool false]).defers=a5.defers:=iW _ _ _;generalize a5.put (some 15) (.tuple #[.bool false])=a1 at D k3 |-;generalize iM (Lk<|l0 m J f.w.heap.size) (some 15) (.tup<|[.bool false].map .lit)=tm1 at D O;refine kV (fl:=0) (c:=cW (eP f).X f.w.heap.size W) (o:=iN Rg3 1) (ao:=o1 16<|.extract (tp 15) 0) (st':=⟨tm1.set 16<|.lit<|.bool false,[]⟩) G I F.sim D (ZG _) (by kernel_rfl) (by kernel_rfl) (by simp only[cR,eY,aM,O.get (k:=15) rfl];rfl) ?_;intro a2 m3 e2' s3 hs2' V z2 _;have u3:=O.set (v:=.lit<|.bool false) (k:=16) rfl;have l2:=F.ops io s3 u3 V rfl rfl rfl;show ((Code.seq (.cond (.tmp 16) .skip<|.exit 0) _)).wp PP _ a2 m3.w;refine Xk ?_;refine XJ (UO V (t:=16)<|qR u3 rfl<|by decide) ?_;refine wp_exit ?_;exact f3 m3.w a2 l2 (S.trans (qQ s3 λ_=>rfl).of) (z2.trans<|k3.trans<|N.trans u1) rfl
 .cases u2 with
  | rmp ents E es l M q1 q2 q3 q4 q5 q6=>
  refine JR (o:=iN Rg2 2) (w':=f.w.alloc<|.mapIter (some E) l #[] l) (v:=.pointer<|some ⟨f.w.heap.size,0,none⟩) (by kernel_rfl) (by kernel_rfl) (by simp[execOp,w3,i1,run_range_map (P:=PP) f.w 135 3 3 E es l n3 q2]) ?_;rw[m2];have F:=R<|.mapIter (some E) l #[] l;have C:=iF q2;have r2:(f.w.alloc<|.mapIter (some E) l #[] l).heap[f.w.heap.size]?=some (.mapIter (some E) l #[] l):=Wq f.w _;have o3:(f.w.alloc<|.mapIter (some E) l #[] l).heap[E]?=some (.map es l):=(heap_alloc_old f.w _ C).trans q2;have S:Uf (some f.w.heap.size) f.w<|f.w.alloc<|.mapIter (some E) l #[] l:=(OI _ _).of;have hz:es.size=q.length:=by rw[q3,ZO]
  have v3:∀(i:Nat) (p:Int×Int),q[i]?=some p->∃e,es[i]?=some e/\Ent e p.1 p.2:=by
   intro i p hp;have B:(q.map λe=>(Value.int .i64 e.1,AV.lit<|.int .i64 e.2))[i]?=some (.int .i64 p.1,.lit<|.int .i64 p.2):=by rw[Zk,hp];rfl
   let⟨U,Q⟩:=q5 i _ _ B;have g3:=q6 i _ _ B;refine⟨M i,U,Q,?_⟩;generalize (M i).val=vv at g3;cases g3;rfl
  have hE:∀e∈es.toList,∃p∈q,Ent e p.1 p.2:=by
   intro e he;let⟨i,hi⟩:=Yi.1 he;rw[Z8] at hi;have C:i<q.length:=by
    rcases ZI i q.length with h | h
    .exact h
    .rw[Yb<|by omega] at hi;cases hi
   let⟨e',h1,h2⟩:=v3 i _<|Zb C;rw[hi] at h1;cases h1;exact⟨_,ZP C,h2⟩
  generalize f.w.alloc (.mapIter (some E) l #[] l)=W at F r2 o3 S |-;generalize b4.put (some 14) (.pointer<|some ⟨f.w.heap.size,0,none⟩)=a5 at F N |-;show (Code.block 0<|.loop BD).wp PP _ a5 W;refine WJ ?_;refine XA ((leftOf es #[]).size+1) ?_;refine M3 G I io (W0:=f.w) (ds:=[]) (b:=E) (r:=f.w.heap.size) (by omega) q4 (λe he=>by let⟨p,_,h⟩:=hE e he;exact⟨_,_,h⟩) (λa' W' l1 b1 p3 d1=>?_) (λa' W' e k v he hv hg l1 h1 b1 d1=>?_) _ #[] l W a5 (Wk _) F r2 o3 (Zf _) S (N.trans u1) λx _ B=>by simp at B
  .refine f3 W' a' l1 b1 d1 ?_;cases hh:sdB old m q with
   | false=>rfl
   | true=>
    let⟨p,hp,p2⟩:=(T1 q).1 hh;let⟨i,hi⟩:=Yi.1 hp;let⟨e,h1,h2⟩:=v3 i p hi;rw[p3 e (by rw[<-Z8] at h1;exact Zg h1) p.1 p.2 h2] at p2;cases p2
  .let⟨p,hp,h2⟩:=hE e he;have e1:k=p.1:=by have:=hv.1.symm.trans h2.1;cases this;rfl
   have e2:v=p.2:=by have:=hv.2.symm.trans h2.2;cases this;rfl
   subst e1 e2;exact w2 W' a' true l1 b1 h1 d1 ((T1 q).2 ⟨p,hp,hg⟩).symm
end
section
open Go.Proofs Go.RowKit Go.Shelf Go.Sort
theorem mixed: PP.follows .mixedOrders=true:=by kernel_rfl
def rl: List Nat->Nat->Nat
 | a::b::r,n=>match Nat.beq a n with
  | true=>b
  | false=>rl r n
 | _,n=>n
theorem uJ{P:Program}{f:FuncId}{B:Func} (h:((((P.funcs[f]?).map (·.name)).getD "")== "runtime.NumGoroutine")=false) (k:P.funcs[f]?=some {B with name:=((P.funcs[f]?).map (·.name)).getD ""}):Bears P f B:=⟨_,h,k⟩
def aMj: Ren:=⟨(rl [6,158,15,171,14,191,28,213,29,214,20,229,21,230,22,231,23,232,24,233,25,234,26,235,27,236,46,266,47,249,48,250,49,267,50,268,57,278]),(rl [22,158,24,163,25,198,39,186,53,242,55,244,46,236,45,235,50,125,66,268,70,272,76,285,77,286]),id⟩
theorem aJA: SlLaysF0.n6 PP aMj:=by
 constructor<;>first | kernel_rfl | exact λ_=>by kernel_rfl | exact uJ (by kernel_rfl) (by kernel_rfl)
def aMi: Ren:=⟨(rl [6,179,15,171,14,219,28,213,29,214,20,254,21,255,22,256,23,257,24,258,25,259,26,260,27,261,46,273,47,249,48,250,49,274,50,275,57,280]),(rl [22,210,24,216,25,218,39,186,53,242,55,244,46,236,45,235,50,125,66,268,70,272,76,285,77,286]),id⟩
theorem aJ9: SlLaysF0.n6 PP aMi:=by
 constructor<;>first | kernel_rfl | exact λ_=>by kernel_rfl | exact uJ (by kernel_rfl) (by kernel_rfl)
def aMl: Ren:=⟨(rl [6,154,15,171,14,189,28,213,29,214,20,221,21,222,22,223,23,224,24,225,25,226,26,227,27,228,46,263,47,249,48,250,49,264,50,265,57,277]),(rl [22,117,24,182,25,196,39,186,53,242,55,244,46,236,45,235,50,125,66,268,70,272,76,285,77,286]),id⟩
theorem aJC: SlLaysF0.n6 PP aMl:=by
 constructor<;>first | kernel_rfl | exact λ_=>by kernel_rfl | exact uJ (by kernel_rfl) (by kernel_rfl)
def aFU: Ren:=⟨(rl [6,167,15,171,14,201,28,213,29,214,20,240,21,241,22,242,23,243,24,244,25,245,26,246,27,247,46,269,47,249,48,250,49,270,50,271,57,279]),(rl [22,24,24,3,25,151,39,186,53,242,55,244,46,236,45,235,50,125,66,268,70,272,76,285,77,286]),id⟩
theorem aPw: SlLaysF.n6 PP aFU:=by
 constructor<;>first | kernel_rfl | exact λ_=>by kernel_rfl | exact uJ (by kernel_rfl) (by kernel_rfl)
def aJ8: Ren:=⟨(rl [189,137,125,171,257,170,128,213,129,214,294,205,295,206,296,207,297,208,298,209,299,210,216,194,300,211,301,212,328,248,329,249,330,250,331,251,332,252,215,143,343,272]),(rl [28,24,46,186,51,242,53,244,183,236,182,235,131,125,218,268,222,272,228,285,229,286]),id⟩
theorem aFT: Lays.n189 PP aJ8:=by
 constructor<;>first | kernel_rfl | exact λ_=>by kernel_rfl
def aJB: Ren:=⟨(rl [144,106,143,134,219,165,217,197,225,198,267,200,266,238,314,239,224,199]),(rl [46,186,146,261,51,242]),id⟩
theorem aMk: Lays.n144 PP aJB:=by
 constructor<;>first | kernel_rfl | exact λ_=>by kernel_rfl
def aRv: Ren:=⟨rl [22,87,29,115,30,116],rl [24,22,9,68],id⟩
theorem aPj: aDp PP aRv 3 #[.int .i64 0,.int .i64 0,.int .i64 0] 24:=by
 constructor<;>first | kernel_rfl | exact λ_=>by kernel_rfl | exact uJ (by kernel_rfl) (by kernel_rfl) | decide | exact λargs w=>run_callFunc_extern Tryz.func115 (by kernel_rfl) (by kernel_rfl) (by kernel_rfl) (e:=Extern.SlicesOverlaps.overlaps #[22,22] #[4]) (by kernel_rfl) args w
def aRw: Ren:=⟨rl [22,96,29,131,30,132],rl [24,27,9,61],id⟩
theorem aPA: aDp PP aRw 5 #[.int .i64 0,.int .i64 0,.int .i64 0,.string ⟨#[]⟩,.slice none 0 0] 64:=by
 constructor<;>first | kernel_rfl | exact λ_=>by kernel_rfl | exact uJ (by kernel_rfl) (by kernel_rfl) | decide | exact λargs w=>run_callFunc_extern Tryz.func131 (by kernel_rfl) (by kernel_rfl) (by kernel_rfl) (e:=Extern.SlicesOverlaps.overlaps #[27,27] #[4]) (by kernel_rfl) args w
def aRx: Ren:=⟨rl [22,117,29,145,30,146],rl [24,23,9,49],id⟩
theorem aQq: aDp PP aRx 6 #[.int .i64 0,.int .i64 0,.int .i64 0,.slice none 0 0,.int .i64 0,.int .i64 0] 64:=by
 constructor<;>first | kernel_rfl | exact λ_=>by kernel_rfl | exact uJ (by kernel_rfl) (by kernel_rfl) | decide | exact λargs w=>run_callFunc_extern Tryz.func145 (by kernel_rfl) (by kernel_rfl) (by kernel_rfl) (e:=Extern.SlicesOverlaps.overlaps #[23,23] #[4]) (by kernel_rfl) args w
theorem m9: oQ PP T:=aCz checked
theorem aLl: A2 PP 137:=λblk off cap zs w h1 h2 h3=>Any.slices_Sort_int aFT blk off cap zs w h1 h2 h3
theorem aI0: QL PP 137:=λp cap w=>Any.slices_Sort_int_none aFT p cap w
theorem aL6: Jl PP true 158 4:=Mn aJA Tryz.isAgg163 Tryz.sizeOf163
theorem aIP: Hm PP 158:=Az aJA
theorem aLx: Jl PP true 179 2:=Mn aJ9 Tryz.isAgg216 Tryz.sizeOf216
theorem aIA: Hm PP 179:=Az aJ9
theorem aNa: Jl PP true 154 4:=Mn aJC Tryz.isAgg182 Tryz.sizeOf182
theorem aK8: Hm PP 154:=Az aJC
theorem aMv: Jl PP false 167 1:=aBr aPw
theorem aJN: Hm PP 167:=Az (ρ:=aFU) (by constructor<;>first | kernel_rfl | exact λ_=>by kernel_rfl | exact uJ (by kernel_rfl) (by kernel_rfl))
variable {H H':aY}{args:List AV}{c:dH}{cf:CF}{f fl m:Nat}{r:AV}{s vi:Nat}{vs:Array Value}
theorem aI4(hl:fl<=m/\m<=H.length)(h:Em fl args H=some (r,H')): H'.take fl=H.take fl/\m<=H'.length:=by
 rcases KG h with⟨x,rfl,he,rfl,rfl⟩ | ⟨id,l,rfl,hne,hfl,hob,hbig,rfl,rfl⟩
 .exact⟨rfl,hl.2⟩
 .refine⟨?_,by rw[Yr];exact hl.2⟩
  apply Ym
  intro i
  rw[Zs,Zs]
  split
  .rw[Zv (by omega)]
  .rfl
theorem aAl(hl:fl<=m/\m<=H.length)(h:Nu s fl args H=some (r,H')): H'.take fl=H.take fl/\m<=H'.length:=by
 obtain⟨id,id2,i,es,row,_,h1,h2,h3,h4,h5,h6,h7,rfl⟩:=i7 h
 exact⟨X6 h1,by simpa using hl.2⟩
theorem P4(h:Pd fl args H=some (r,H')):
 ∃s t:ByteArray,args=[.lit (.string s),.lit (.string t)]/\s.size<4294967281/\r=.lit (.bool (Lib.contains s.data.toList t.data.toList))/\H'=H:=by
 unfold Pd at h
 repeat' split at h
 all_goals first
  | (cases h;done)
  | skip
 rename_i hb
 cases h
 exact⟨_,_,rfl,Zj hb,rfl,rfl⟩
section
theorem aKx(h:Pd fl args c.H=some (r,H'))(hs:bY (aL T) c)(hargs:lO (aL T) c args vs): Calls PP 106 vs c.w λe w'=>∃v c',e=.returned v/\c'.w=w'/\c'.H=H'/\c'.X=c.X/\bV fl c c'/\bY (aL T) c'/\RV (aL T) c' r v:=by
 obtain⟨s,t,rfl,hsz,rfl,rfl⟩:=P4 h
 have hv:vs=#[.string s,.string t]:=by
  obtain⟨h1,h2⟩:=hargs
  obtain⟨v0,g0,k0⟩:=h2 0 _ rfl
  obtain⟨v1,g1,k1⟩:=h2 1 _ rfl
  have e0:=k0.lit_inv
  have e1:=k1.lit_inv
  subst e0 e1
  apply XQ
  .simpa using h1
  .intro i hi1 hi2
   have hi3:i<2:=by simpa using hi2
   match i,hi3 with
   | 0,_=>exact ZR ((Z6 hi1).symm.trans g0)
   | 1,_=>exact ZR ((Z6 hi1).symm.trans g1)
 subst hv
 obtain⟨cc,t',fz,vals,_,hheap,hok,_,_⟩:=hs.gl 1 [.undef] rfl
 obtain⟨m,hm⟩:=hok rfl
 have hcell:c.w.cell? ⟨1,0,none⟩=some (.int .i64 m):=by simp[World.cell?,hheap,hm]
 exact (Any.strings_Contains aMk s t m c.w hsz hcell).mono λe w' ⟨he,hw⟩=>⟨_,c,he,hw.symm,rfl,rfl,bV.refl fl c,hs,.lit _⟩
theorem aAk{zb g:Nat}{ρ:Ren}{zs:Array Value}(L:aDp PP ρ s zs zb)(hg:ρ.f 22=g)(hz:zb<=100000)(h:Nu s fl args c.H=some (r,H'))(hs:bY (aL T) c)(hargs:lO (aL T) c args vs): Calls PP g vs c.w λe w'=>∃v c',e=.returned v/\c'.w=w'/\c'.H=H'/\c'.X=c.X/\bV fl c c'/\bY (aL T) c'/\RV (aL T) c' r v:=by
 obtain⟨id,id2,i,es,row,rfl,h1,h2,h3,h4,h5,h6,rfl,rfl⟩:=i7 h
 subst hg
 exact (aP4 L hz hs h1 h2 h3 h4 h5 h6 hargs).mono λe w' ⟨v,he,c',k1,k2,k3,k4,k5,k6⟩=>⟨v,c',he,k1,k2,k3,k4,k5,k6⟩
theorem aIv(hcf:Au PP T cf)(h:sdA cf 187 args c.H=some (r,H'))(hs:bY (aL T) c)(hargs:lO (aL T) c args vs): Calls PP 61 vs c.w λe w'=>∃v c',e=.returned v/\c'.w=w'/\c'.H=H'/\c'.X=c.X/\bV fl c c'/\bY (aL T) c'/\RV (aL T) c' r v:=by
 obtain⟨a,b,m,old,new,rfl,h1,h2,rfl,rfl⟩:=TI h
 refine (aD5 hcf m9 hs h1 h2 hargs).mono λe w' ⟨he,hb⟩=>?_
 have st:bV 0 (eP c) ⟨w',(eP c).X,λ_=>none,[]⟩:={ X:=rfl,os:=hb.os,tape:=hb.tape,output:=hb.output,drawn:=hb.drawn,size:=hb.size,len:=Zf _,frame:=λk hk _=>hb.frame k hk (by simp),img:=(λid b h=>by cases h),blkS:=(λid s n h=>by cases h),mpS:=(λid ⟨o,h,_⟩=>by cases h),floor:=λid h=>absurd h (YE _) }
 exact⟨_,oS c ⟨w',(eP c).X,λ_=>none,[]⟩,he,rfl,rfl,rfl,xH hs st,Hj hs st,.lit _⟩
end
theorem M5(h:Kb cf fl vi args H=some (r,H')): (vi=57/\sdA cf 187 args H=some (r,H'))\/(vi=81/\Nu 3 fl args H=some (r,H'))\/(vi=91/\Nu 5 fl args H=some (r,H'))\/(vi=109/\Nu 6 fl args H=some (r,H'))\/(vi=100/\Pd fl args H=some (r,H'))\/(vi=138/\vE cf true 4 fl args H=some (r,H'))\/(vi=154/\vE cf true 2 fl args H=some (r,H'))\/(vi=140/\vE cf true 4 fl args H=some (r,H'))\/(vi=147/\vE cf false 1 fl args H=some (r,H'))\/(vi=124/\Em fl args H=some (r,H')):=by
 unfold Kb at h
 have e:(aH.prim vi:Option K8)=(match Nat.beq vi 57 with | true=>some (S0 187) | false=>(match Nat.beq vi 81 with | true=>some (rA (Nu 3)) | false=>(match Nat.beq vi 91 with | true=>some (rA (Nu 5)) | false=>(match Nat.beq vi 109 with | true=>some (rA (Nu 6)) | false=>(match Nat.beq vi 100 with | true=>some (rA Pd) | false=>(match Nat.beq vi 138 with | true=>some (xO true 4) | false=>(match Nat.beq vi 154 with | true=>some (xO true 2) | false=>(match Nat.beq vi 140 with | true=>some (xO true 4) | false=>(match Nat.beq vi 147 with | true=>some (xO false 1) | false=>(match Nat.beq vi 124 with | true=>some (rA Em) | false=>none)))))))))):=rfl
 rw[e] at h
 cases hb0:Nat.beq vi 57 with
 | true=>rw[hb0] at h;exact .inl ⟨Zc hb0,h⟩
 | false=>
  rw[hb0] at h
  cases hb1:Nat.beq vi 81 with
  | true=>rw[hb1] at h;exact .inr (.inl ⟨Zc hb1,h⟩)
  | false=>
   rw[hb1] at h
   cases hb2:Nat.beq vi 91 with
   | true=>rw[hb2] at h;exact .inr (.inr (.inl ⟨Zc hb2,h⟩))
   | false=>
    rw[hb2] at h
    cases hb3:Nat.beq vi 109 with
    | true=>rw[hb3] at h;exact .inr (.inr (.inr (.inl ⟨Zc hb3,h⟩)))
    | false=>
     rw[hb3] at h
     cases hb4:Nat.beq vi 100 with
     | true=>rw[hb4] at h;exact .inr (.inr (.inr (.inr (.inl ⟨Zc hb4,h⟩))))
     | false=>
      rw[hb4] at h
      cases hb5:Nat.beq vi 138 with
      | true=>rw[hb5] at h;exact .inr (.inr (.inr (.inr (.inr (.inl ⟨Zc hb5,h⟩)))))
      | false=>
       rw[hb5] at h
       cases hb6:Nat.beq vi 154 with
       | true=>rw[hb6] at h;exact .inr (.inr (.inr (.inr (.inr (.inr (.inl ⟨Zc hb6,h⟩))))))
       | false=>
        rw[hb6] at h
        cases hb7:Nat.beq vi 140 with
        | true=>rw[hb7] at h;exact .inr (.inr (.inr (.inr (.inr (.inr (.inr (.inl ⟨Zc hb7,h⟩)))))))
        | false=>
         rw[hb7] at h
         cases hb8:Nat.beq vi 147 with
         | true=>rw[hb8] at h;exact .inr (.inr (.inr (.inr (.inr (.inr (.inr (.inr (.inl ⟨Zc hb8,h⟩))))))))
         | false=>
          rw[hb8] at h
          cases hb9:Nat.beq vi 124 with
          | true=>rw[hb9] at h;exact .inr (.inr (.inr (.inr (.inr (.inr (.inr (.inr (.inr (⟨Zc hb9,h⟩)))))))))
          | false=>
           rw[hb9] at h
           cases h
theorem aLB: aEN PP T where
 fl:=λcf hcf fl m vi args H r H' hle hev=>by
  rcases M5 hev with⟨_,h⟩ | ⟨_,h⟩ | ⟨_,h⟩ | ⟨_,h⟩ | ⟨_,h⟩ | ⟨_,h⟩ | ⟨_,h⟩ | ⟨_,h⟩ | ⟨_,h⟩ | ⟨_,h⟩
  .obtain⟨_,_,_,_,_,_,_,_,_,rfl⟩:=TI h
   exact⟨rfl,hle.2⟩
  .exact aAl hle h
  .exact aAl hle h
  .exact aAl hle h
  .obtain⟨_,_,_,_,_,rfl⟩:=P4 h
   exact⟨rfl,hle.2⟩
  .exact Mo hle h
  .exact Mo hle h
  .exact Mo hle h
  .exact Mo hle h
  .exact aI4 hle h
 ok:=λcf hcf fl vi f args r H' c vs hev hf hs hfl hargs=>by
  rcases M5 hev with⟨rfl,h⟩ | ⟨rfl,h⟩ | ⟨rfl,h⟩ | ⟨rfl,h⟩ | ⟨rfl,h⟩ | ⟨rfl,h⟩ | ⟨rfl,h⟩ | ⟨rfl,h⟩ | ⟨rfl,h⟩ | ⟨rfl,h⟩
  .obtain rfl:61=f:=ZR ((show aL T 57=some 61 by kernel_rfl).symm.trans hf)
   exact aIv hcf h hs hargs
  .obtain rfl:87=f:=ZR ((show aL T 81=some 87 by kernel_rfl).symm.trans hf)
   exact aAk aPj rfl (by decide) h hs hargs
  .obtain rfl:96=f:=ZR ((show aL T 91=some 96 by kernel_rfl).symm.trans hf)
   exact aAk aPA rfl (by decide) h hs hargs
  .obtain rfl:117=f:=ZR ((show aL T 109=some 117 by kernel_rfl).symm.trans hf)
   exact aAk aQq rfl (by decide) h hs hargs
  .obtain rfl:106=f:=ZR ((show aL T 100=some 106 by kernel_rfl).symm.trans hf)
   exact aKx h hs hargs
  .obtain rfl:154=f:=ZR ((show aL T 138=some 154 by kernel_rfl).symm.trans hf)
   exact EK hcf m9 (by simp) aNa aK8 h hs hargs
  .obtain rfl:179=f:=ZR ((show aL T 154=some 179 by kernel_rfl).symm.trans hf)
   exact EK hcf m9 (by simp) aLx aIA h hs hargs
  .obtain rfl:158=f:=ZR ((show aL T 140=some 158 by kernel_rfl).symm.trans hf)
   exact EK hcf m9 (by simp) aL6 aIP h hs hargs
  .obtain rfl:167=f:=ZR ((show aL T 147=some 167 by kernel_rfl).symm.trans hf)
   exact EK hcf m9 (by simp) aMv aJN h hs hargs
  .obtain rfl:137=f:=ZR ((show aL T 124=some 137 by kernel_rfl).symm.trans hf)
   exact aI3 aLl aI0 h hs hargs
end
section
open Go.Proofs
theorem own: ownKnob PP.godebug=none:=by kernel_rfl
theorem laid: laidOutB PP=true:=by kernel_rfl
def E7: List Value:=aNJ (Go.Proofs.YtabioopnpgiijaaGreatDoor.Rows.laid_mapsheets_glyph_scripts)
theorem aJV{W:World}(hl:laidMetH Tryz.prog Rows.editOutsideRow.laid W)(hsh:W.ShapedOpen Tryz.prog): tX (top W):=by
 intro g cs hcs
 match g with
 | 0=>
  obtain rfl:aL0=cs:=ZR hcs
  obtain⟨ps,hv,_,_⟩:laidMet Tryz.prog [("mapsheets/glyph.scripts",Rows.laid_mapsheets_glyph_scripts)] W:=hl
  obtain⟨g,t,cv,fuel,p,q,h1,h2,h3,h4,_,_⟩:=hv
  obtain rfl:0=g:=ZR ((show Tryz.prog.globalNamed "mapsheets/glyph.scripts"=some 0 by kernel_rfl).symm.trans h1)
  obtain rfl:177=t:=ZR ((show (Tryz.prog.globals[0]?).map (·.type)=some 177 by kernel_rfl).symm.trans h2)
  have hcv:cv.toList=E7:=aD4 (m:=13) (e:=176) (ta:=21) (tb:=21) (tc:=3) (ka:=.i32) (kb:=.i32) (kc:=.i64) (f0:={ name:= "first",type:=21,offset:=0,embedded:=false,tag:= "",pkgPath:= "mapsheets/glyph",byteOffset:=0 }) (f1:={ name:= "last",type:=21,offset:=1,embedded:=false,tag:= "",pkgPath:= "mapsheets/glyph",byteOffset:=4 }) (f2:={ name:= "script",type:=3,offset:=2,embedded:=false,tag:= "",pkgPath:= "mapsheets/glyph",byteOffset:=8 }) (by kernel_rfl) (by kernel_rfl) (by kernel_rfl) (by kernel_rfl) rfl rfl rfl rfl rfl rfl (by kernel_rfl) (by kernel_rfl) (by kernel_rfl) (by kernel_rfl) (by kernel_rfl) (by kernel_rfl) h4
  have hheap:∃T fz,W.heap[0]?=some (.cells cv T fz):=by
   unfold World.var? at h3
   rw[h1] at h3
   simp only[Z2] at h3
   split at h3
   .rename_i c T fz hb
    cases h3
    exact⟨T,fz,hb⟩
   .cases h3
  obtain⟨T,fz,hheap⟩:=hheap
  have key:∀(j:Nat) (x:AV),aL0[j]?=some x->∃v,E7[j]?=some v/\bC v=true/\x=AV.lit v:=by
   have e:aL0=E7.map AV.lit:=by kernel_rfl
   have hs:E7.all bC=true:=by kernel_rfl
   intro j x hx
   rw[e,Zk,Zq] at hx
   obtain⟨v,h5,rfl⟩:=hx
   exact⟨v,h5,Yl.1 hs v (Zg h5),rfl⟩
  refine⟨cv,T,fz,λj=>(E7[j]?).getD undef,R8 W 0,hheap,(λh=>absurd h (by decide)),?_,?_⟩
  .intro j x hx
   obtain⟨v,k1,k2,_⟩:=key j x hx
   have e:(E7[j]?).getD undef=v:=by rw[k1];rfl
   show cv[0+j]?=some ((E7[j]?).getD undef)/\bC ((E7[j]?).getD undef)=true
   rw[e,Z0,<-Z8,hcv]
   exact⟨k1,k2⟩
  .intro j x hx
   obtain⟨v,k1,_,rfl⟩:=key j x hx
   have e:(E7[j]?).getD undef=v:=by rw[k1];rfl
   show RP _ _ (AV.lit v) ((E7[j]?).getD undef)
   rw[e]
   exact .lit _
 | 1=>
  obtain rfl:[AV.undef]=cs:=ZR hcs
  obtain⟨m,hm⟩:=cell_of_shapedOpen_int (g:=1) (t:=3) (zero:=#[.int .i64 0]) (k:=.i64) hsh (Zl (by kernel_rfl)) (by kernel_rfl) rfl (by kernel_rfl) (by kernel_rfl) (by kernel_rfl)
  obtain⟨c,T,fz,hb,_,hc⟩:=cell?_inv hm
  refine⟨c,T,fz,λ_=>.int .i64 m,R8 W 1,hb,λ_=>⟨m,hc⟩,?_,?_⟩
  .intro j x hx
   cases j with
   | zero=>exact⟨hc,rfl⟩
   | succ j=>simp at hx
  .intro j x hx
   cases j with
   | zero=>
    simp only[Zt,Za] at hx
    subst hx
    exact .undef _
   | succ j=>simp at hx
 | n+2=>cases hcs
theorem cK{a b:Bool}(h:a=true)(k:b=true): (a&&b)=true:=by rw[h,k];rfl
set_option maxHeartbeats 0 in
theorem aHE: joinedFacts Tryz.prog 3 Tryz.f3 Rows.editOutsideSpec Rows.editOutsideRow=true:=by
 unfold joinedFacts
 exact cK (cK (cK (cK (cK (cK (cK (cK (cK (cK (cK (cK (cK (cK (cK (cK (cK (cK (cK (cK (cK (cK (cK (cK (cK (cK (cK (cK (cK (cK (cK (by kernel_rfl) (by kernel_rfl)) (by kernel_rfl)) (by kernel_rfl)) (by kernel_rfl)) (by kernel_rfl)) (by kernel_rfl)) (by kernel_rfl)) (by kernel_rfl)) (by kernel_rfl)) (by kernel_rfl)) (by kernel_rfl)) (by kernel_rfl)) (by kernel_rfl)) (by kernel_rfl)) (by kernel_rfl)) (by kernel_rfl)) (by kernel_rfl)) (by kernel_rfl)) (by kernel_rfl)) (by kernel_rfl)) (by kernel_rfl)) (by kernel_rfl)) (by kernel_rfl)) (by kernel_rfl)) (by kernel_rfl)) (by kernel_rfl)) (by kernel_rfl)) (by kernel_rfl)) (by kernel_rfl)) (by kernel_rfl)) (by kernel_rfl)
theorem aRX: Rows.editOutsideRow.wfByText (OpenSpec.ofChange Rows.editOutsideSpec)=true:=by kernel_rfl
theorem aRY: Tryz.prog.mainIs=some (true,"840ba4ae51e0abe49a9fc47521eecafb130921000781108fe3f944600d4ccb88".toList):=by kernel_rfl
theorem aSb: Tryz.prog.funcNamed "mapsheets/mapsheetslaw20.EditOutside"=some 3:=by kernel_rfl
theorem aRZ: false=Tryz.prog.looks []:=by kernel_rfl
theorem aMo: Tryz.prog.wantsStandIn 29=false:=by kernel_rfl
theorem aMn: Tryz.prog.wantsStandIn 34=false:=by kernel_rfl
theorem aSa: false=Rows.editOutsideRow.goesBy Tryz.prog:=by kernel_rfl
end
end Go.Proofs.YtabioopnpgiijaaGreatDoor.Av
