/- A part of the proof of a law. -/
import Derived.Shelf.Spec.SlicesInsertGrow
import Derived.Shelf.SlGeneric
import Derived.Test.YtmcgghedgfkjiaaGreatDoorP2
import Derived.Test.YtmcgghedgfkjiaaGreatDoorP3
import Derived.Test.YtmcgghedgfkjiaaGreatDoorP6
import Derived.Test.YtmcgghedgfkjiaaGreatDoorP5
import Derived.Maps.RangeRun
import Derived.Shelf.Strings.Search3
import Derived.Shelf.Vars
import Derived.Shelf.Sort.Plain
import Derived.Shelf.Slices.In.SortNone
import Derived.Test.YtmcgghedgfkjiaaGreatDoorRows
import Derived.Test.YtmcgghedgfkjiaaGreatDoorTie
import Derived.Test.YtmcgghedgfkjiaaGreatDoorCards
import Derived.ChangeSame
import Derived.ChangeVars
import Derived.JoinedOf
import Derived.LaidLaws
import Derived.Lay
import Derived.MakeChecks
import Derived.Stop.Joined
import Derived.SevenTiedAt
set_option maxRecDepth 100000
set_option maxHeartbeats 4000000
set_option linter.all false
namespace Go.Proofs.YtmcgghedgfkjiaaGreatDoor.Av
open Go
section
open Go.Proofs Go.Shelf Go.RowKit Go.Lib
variable {P:Program}{s zb:Nat}{zs:Array Value}{ρ:Ren}
structure aCW(P:Program)(ρ:Ren)(s:Nat)(zs:Array Value)(zb:Nat): Prop where
 mixed:P.follows .mixedOrders=true
 f22:Bears P (ρ.f 22) (Body2.n22 ρ)
 ov:∀args w,(callFunc (ρ.f 29) args).run P w=((Extern.SlicesOverlaps.overlaps #[ρ.t 24,ρ.t 24] #[ρ.t 4] args).run P w).andThen λv w'=>.ok (.value v) w'
 t3:P.underlying (ρ.t 3)=some (TypeDesc.int IntKind.i64)
 a3:∀w,(Go.isAgg (ρ.t 3)).run P w=.ok false w
 z3:∀w,(Go.sizeOf (ρ.t 3)).run P w=.ok 1 w
 v3:∀w,(zeroValue (ρ.t 3)).run P w=.ok (Value.int IntKind.i64 0) w
 t4:P.underlying (ρ.t 4)=some (TypeDesc.bool)
 a4:∀w,(Go.isAgg (ρ.t 4)).run P w=.ok false w
 z4:∀w,(Go.sizeOf (ρ.t 4)).run P w=.ok 1 w
 v4:∀w,(zeroValue (ρ.t 4)).run P w=.ok (Value.bool false) w
 z9:∀w,(Go.sizeOf (ρ.t 9)).run P w=.ok s w
 t24:P.underlying (ρ.t 24)=some (TypeDesc.slice (ρ.t 9))
 a24:∀w,(Go.isAgg (ρ.t 24)).run P w=.ok false w
 z24:∀w,(Go.sizeOf (ρ.t 24)).run P w=.ok 1 w
 v24:∀w,(zeroValue (ρ.t 24)).run P w=.ok (Value.slice none 0 0) w
 i9:(P.info? (ρ.t 9)).map (λi=>(i.zero,i.size,i.bytes))=some (some (Value.agg zs),s,zb)
 zl:zs.size=s
 s0:0<s
theorem Sp(w:World)(dT sT ty elem:TypeId)(g o dLen dCap:Nat)(a:Addr)(sLen sCap n:Nat)(cur:Array Value)(t:TypeId)(cs:List Value)(hu:P.underlying dT=some (.slice elem))(hs:(P.info? elem).map (·.size)=some s)(hn:Nat.min sLen dLen=n)(hcs:cs.length=n*s)(hsrc:∀j v,cs[j]?=some v->w.cell? (a.add j)=some v)(hg:w.heap[g]?=some (.cells cur t (0,0)))(hfit:o+n*s<=cur.size)(h1:∀v∈cs,v.oneCell'=true):
 (Builtin.copy_ #[dT,sT] ty #[.slice (some ⟨g,o,none⟩) dLen dCap,.slice (some a) sLen sCap]).run P w=.ok (goInt n) (w.setRow g (aR cur.toList o cs).toArray):=by
 have hl:=X6 (P:=P) w s n a sLen sCap cs hcs hsrc
 have hst:=YX P g o t cs 0 cur w hg (by rw[hcs];omega) h1
 rw[gL] at hst
 cases hq:P.info? elem with
 | none=>simp[hq] at hs
 | some i=>
  have hi:i.size=s:=by simpa [hq] using hs
  simp[Builtin.copy_,Zn hu,Builtin.lenOf,sizeOf,typeInfo,hq,hi,hn,hl,hst]
theorem L9{w:World}{b j:Nat}{cc:Array Value}{t:TypeId}{fz:Nat×Nat}{v:Value}(h:w.heap[b]?=some (.cells cc t fz))(hj:cc[j]?=some v): w.cell? ⟨b,j,none⟩=some v:=by
 simp[World.cell?,h,hj]
theorem aJw(L:aCW P ρ s zs zb)(b n c i vb vc:Nat)(cc vv:Array Value)(Ty Tv:TypeId)(w:World)(hi:i<n)(hroom:n+1<=c)(h40:n+1<=1099511627776)(hvb:vb≠b)(hb:w.heap[b]?=some (.cells cc Ty (0,0)))(hfit:(n+1)*s<=cc.size)(hv:w.heap[vb]?=some (.cells vv Tv (0,0)))(hvl:s<=vv.size)(h1c:∀v∈cc.toList.take (n*s),v.oneCell'=true)(h1v:∀v∈vv.toList.take s,v.oneCell'=true):
 Calls P (ρ.f 22) #[.slice (some ⟨b,0,none⟩) n c,.int .i64 i,.slice (some ⟨vb,0,none⟩) 1 vc] w λe w'=>
  e=.returned (.slice (some ⟨b,0,none⟩) (n+1) c) /\
  w'=(w.drew.setRow b (aR cc.toList ((i+1)*s)<|(cc.toList.take<|n*s).drop<|i*s).toArray).setRow b (aR (aR cc.toList ((i+1)*s)<|(cc.toList.take<|n*s).drop<|i*s) (i*s)<|vv.toList.take s).toArray:=by
 have x1:(n+1)*s=n*s+s:=by rw[ZA,Yw]
 have x2:(i+1)*s=i*s+s:=by rw[ZA,Yw]
 have x3:(n-i)*s=n*s-i*s:=YU _ _ _
 have x4:i*s+s<=n*s:=by rw[<-x2];exact Zr _ hi
 have x5:1*s=s:=Yw _
 have s0:=L.s0
 rw[x2]
 have t3:=L.t3;have a3:=L.a3;have z3:=L.z3;have v3:=L.v3;have t4:=L.t4;have a4:=L.a4;have z4:=L.z4;have v4:=L.v4;have z9:=L.z9;have t24:=L.t24;have a24:=L.a24;have z24:=L.z24;have v24:=L.v24
 have u3:=Zn L.t3;have u4:=Zn L.t4;have u24:=Zn L.t24
 have mixed:=L.mixed
 let⟨nm22,_,F22⟩:=L.f22
 have hz2:¬((i:Int)=(n:Int)):=by omega
 have hsz:(P.info?<|ρ.t 9).map (·.size)=some s:=by
  let⟨i0,hi0,h0,h1,h2⟩:=info_parts L.i9
  rw[hi0];simp[h1]
 have hov:∀lb cb,(callFunc (ρ.f 29) #[.slice (some ⟨vb,0,none⟩) 1 vc,.slice (some ⟨b,i*s+s,none⟩) lb cb]).run P w=.ok (.value<|.bool false) w:=λlb cb=>by
  rw[L.ov,
   Lib.run_overlaps_apart w (ρ.t 24) (ρ.t 4) (ρ.t 9) L.t24 s L.z9 ⟨vb,0,none⟩ ⟨b,i*s+s,none⟩ 1 vc lb cb hvb Tv Ty vv.size cc.size (by simp[World.shape?,hv]) (by simp[World.shape?,hb]) (by omega) (by simp[World.frozen?,hv])<|by simp[World.frozen?,hv]]
  rfl
 have hw1:IntKind.i64.wrap ((i:Int)+1)=((i+1:Nat):Int):=by rw[Xh];omega
 have hw2:IntKind.i64.wrap ((n:Int)+1)=((n+1:Nat):Int):=by rw[Xh];omega
 have hg1:¬(((n+1:Nat):Int) > (c:Int)):=by omega
 have hin:i<=n:=by omega
 have hb1:(0:Int)<=(i:Int)+1:=by omega
 have hb2:¬(c=i+1):=by omega
 have hb3:(i:Int)<=(n:Int)+1:=by omega
 have hb4:¬(c=i):=by omega
 have hD:((cc.toList.take<|n*s).drop<|i*s).length=(n-i)*s:=by
  rw[ZU,ZM,Zx,Yq<|by omega,YU]
 have hV:(vv.toList.take s).length=1*s:=by
  rw[ZM,Zx,Yq hvl,x5]
 have hcp1:∀ty dc sc,(Builtin.copy_ #[(ρ.t 24),(ρ.t 24)] ty #[.slice (some ⟨b,i*s+s,none⟩) (n-i) dc,.slice (some ⟨b,i*s,none⟩) (n+1-i) sc]).run P w.drew=.ok (goInt ((n-i:Nat):Int)) (w.drew.setRow b (aR cc.toList (i*s+s)<|(cc.toList.take<|n*s).drop<|i*s).toArray):=λty dc sc=>
  Sp w.drew _ _ ty (ρ.t 9) b (i*s+s) (n-i) dc ⟨b,i*s,none⟩ (n+1-i) sc (n-i) cc Ty _ L.t24 hsz (by simp only[Wo];split<;>omega) hD
   (λj v hj=>by
    rw[XU]
    refine L9 (w:=w.drew) hb ?_
    rw[Zw,Zs] at hj
    split at hj
    .simpa using hj
    .cases hj) hb (by omega) λv hv'=>h1c v<|ZX hv'
 generalize hX:aR cc.toList (i*s+s) ((cc.toList.take<|n*s).drop<|i*s)=X at hcp1 |-
 have hXl:X.length=cc.size:=by rw[<-hX,cL<|by rw[hD,Zx];omega];simp
 let⟨W1,hW1⟩:∃W1,W1=w.drew.setRow b X.toArray:=⟨_,rfl⟩
 have hW1b:W1.heap[b]?=some (.cells X.toArray Ty (0,0)):=by rw[hW1];exact Yv w.drew b cc _ Ty _ hb
 have hW1v:W1.heap[vb]?=some (.cells vv Tv (0,0)):=by rw[hW1,Yy w.drew b vb _ hvb];exact hv
 rw[<-hW1] at hcp1 |-
 have hcp2:∀ty dc,(Builtin.copy_ #[(ρ.t 24),(ρ.t 24)] ty #[.slice (some ⟨b,i*s,none⟩) (n+1-i) dc,.slice (some ⟨vb,0,none⟩) 1 vc]).run P W1=.ok (goInt 1) (W1.setRow b (aR X (i*s)<|vv.toList.take s).toArray):=λty dc=>
  Sp W1 _ _ ty (ρ.t 9) b (i*s) (n+1-i) dc ⟨vb,0,none⟩ 1 vc 1 X.toArray Ty _ L.t24 hsz (by simp only[Wo];split<;>omega) hV
   (λj v hj=>by
    rw[XU,Z0]
    refine L9 hW1v ?_
    rw[Zs] at hj
    split at hj
    .simpa using hj
    .cases hj) hW1b (by simp[hXl];omega) h1v
 clear hW1
 go_enter F22,Body2.n22_ntmps ρ
 go_wp2_with (simp only[hov])
 go_region_law_o (refine step_copy_runI rfl _ _ (ρ.t 24) (ρ.t 24) rfl (.slice (some ⟨b,i*s+s,none⟩) (n-i)<|c-(i+1)) (.slice (some ⟨b,i*s,none⟩) (n+1-i)<|c-i) (by simp[Act.eval,Act.put]) (by simp[Act.eval,Act.put]) (hcp1 _ _ _) ?_)
 go_wp2_with (at_builtin;refine wpList_copy_runI _ rfl _ _ (ρ.t 24) (ρ.t 24) rfl _ _ rfl rfl (hcp2 _ _) ?_)
 go_ret
 exact⟨rfl,rfl⟩
theorem aOE(L:aCW P ρ s zs zb)(base:Option Addr)(n c vb vc:Nat)(w w':World)(rv:Value)(hnc:n<=c)(hnil:base=none->n=0)(hrun:∀ty,(Builtin.append_ #[(ρ.t 24),(ρ.t 24)] ty #[.slice base n c,.slice (some ⟨vb,0,none⟩) 1 vc]).run P w=.ok rv w'):
 Calls P (ρ.f 22) #[.slice base n c,.int .i64 n,.slice (some ⟨vb,0,none⟩) 1 vc] w λe w''=>e=.returned rv/\w''=w':=by
 have t3:=L.t3;have a3:=L.a3;have z3:=L.z3;have v3:=L.v3;have t4:=L.t4;have a4:=L.a4;have z4:=L.z4;have v4:=L.v4;have z9:=L.z9;have t24:=L.t24;have a24:=L.a24;have z24:=L.z24;have v24:=L.v24
 have u3:=Zn L.t3;have u4:=Zn L.t4;have u24:=Zn L.t24
 have mixed:=L.mixed
 let⟨nm22,_,F22⟩:=L.f22
 go_enter F22,Body2.n22_ntmps ρ
 cases base with
 | none=>
  have h0:=hnil rfl
  subst h0
  go_wp2_with (at_builtin;refine Lib.wpList_append_run _ rfl _ _ _ _ rfl _ _ rfl rfl _ _ (hrun _) ?_)
  go_ret
  exact⟨rfl,rfl⟩
 | some a=>
  let⟨ab,ao,asp⟩:=a
  go_wp2_with (at_builtin;refine Lib.wpList_append_run _ rfl _ _ _ _ rfl _ _ rfl rfl _ _ (hrun _) ?_)
  all_goals (go_ret;exact⟨rfl,rfl⟩)
theorem aLZ{l v d o:List Value}{i n:Nat}(hl:(n+1)*s<=l.length)(hv:v.length=1*s)(hd:d.length=(n-i)*s)(ho:l.take (i*s)=o)(hi:i<n):
 (aR (aR l (i*s) v) ((i+1)*s) d).take ((n+1)*s)=o++(v++d):=by
 have x1:(n+1)*s=n*s+s:=by rw[ZA,Yw]
 have x2:(i+1)*s=i*s+s:=by rw[ZA,Yw]
 have x3:(n-i)*s=n*s-i*s:=YU _ _ _
 have x4:i*s+s<=n*s:=by rw[<-x2];exact Zr _ hi
 have x5:1*s=s:=Yw _
 subst ho
 unfold aR
 have h1:(List.take (i*s) l).length=i*s:=by rw[ZM];omega
 have e1:(List.take (i*s) l++(v++List.drop (i*s+v.length) l)).take ((i+1)*s)=List.take (i*s) l++v:=by
  rw[<-Yf,Yi<|by rw[Zj,h1,hv];omega]
  exact ZS<|by rw[Zj,h1,hv];omega
 rw[e1,Yf,<-Yf v d,<-Yf]
 rw[Yi<|by simp only[Zj,h1,hv,hd];omega]
 exact ZS<|by simp only[Zj,h1,hv,hd];omega
theorem aMa(L:aCW P ρ s zs zb)(b n c i vb vc:Nat)(cc vv:Array Value)(Ty Tv:TypeId)(w:World)(hi:i<n)(hnc:n<=c)(hroom:c<n+1)(hbig:(n+1)*zb<=140737488355328)(h40:n+1<=1099511627776)(hb:w.heap[b]?=some (.cells cc Ty (0,0)))(hfit:n*s<=cc.size)(hv:w.heap[vb]?=some (.cells vv Tv (0,0)))(hvl:s<=vv.size)(h1c:∀v∈cc.toList.take (n*s),v.oneCell'=true)(h1v:∀v∈vv.toList.take s,v.oneCell'=true):
 Calls P (ρ.f 22) #[.slice (some ⟨b,0,none⟩) n c,.int .i64 i,.slice (some ⟨vb,0,none⟩) 1 vc] w λe w'=>∃(G:Nat) (R:Array Value) (q:Nat),n+1<=G/\R.size=G*s /\
  R.toList.take ((n+1)*s)=cc.toList.take (i*s)++(vv.toList.take s++(cc.toList.take<|n*s).drop (i*s)) /\
  e=.returned (.slice (some ⟨w.heap.size,0,none⟩) (n+1) G)/\w'.heap=w.heap.push (.cells R (ρ.t 9) (0,0))/\w'.os=w.os/\w'.tape=w.tape/\w'.output=w.output/\w.drawn<=w'.drawn:=by
 have x1:(n+1)*s=n*s+s:=by rw[ZA,Yw]
 have x2:(i+1)*s=i*s+s:=by rw[ZA,Yw]
 have x3:(n-i)*s=n*s-i*s:=YU _ _ _
 have x4:i*s+s<=n*s:=by rw[<-x2];exact Zr _ hi
 have x5:1*s=s:=Yw _
 have s0:=L.s0
 have t3:=L.t3;have a3:=L.a3;have z3:=L.z3;have v3:=L.v3;have t4:=L.t4;have a4:=L.a4;have z4:=L.z4;have v4:=L.v4;have z9:=L.z9;have t24:=L.t24;have a24:=L.a24;have z24:=L.z24;have v24:=L.v24
 have u3:=Zn L.t3;have u4:=Zn L.t4;have u24:=Zn L.t24
 have mixed:=L.mixed
 let⟨nm22,_,F22⟩:=L.f22
 let⟨i0,hi0,hz0,hzs,hzb⟩:=info_parts L.i9
 have hz2:¬((i:Int)=(n:Int)):=by omega
 have hz3:(c:Int)<(n:Int)+1:=by omega
 have hsz:(P.info?<|ρ.t 9).map (·.size)=some s:=by rw[hi0];simp[hzs]
 have hbw:b<w.heap.size:=by
  rcases ZI b w.heap.size with h | h
  .exact h
  .rw[Yc h] at hb;cases hb
 have hvw:vb<w.heap.size:=by
  rcases ZI vb w.heap.size with h | h
  .exact h
  .rw[Yc h] at hv;cases hv
 have hkk:(n:Int)+1-(i:Int)=((n+1-i:Nat):Int):=by omega
 have hik:i+(n+1-i)=n+1:=by omega
 have hold:(Builtin.firstCells i0.size i<|.slice (some ⟨b,0,none⟩) i c).run P w.drew=.ok (cc.toList.take<|i*s).toArray w.drew:=by
  rw[hzs]
  exact X6 w.drew s i ⟨b,0,none⟩ i c (cc.toList.take<|i*s) (by rw[ZM,Zx];omega) (λj v hj=>by
   rw[XU,Z0]
   refine L9 (w:=w.drew) hb ?_
   rw[Zs] at hj
   split at hj
   .simpa using hj
   .cases hj)
 have hrz:∀ty,(Builtin.append_ #[(ρ.t 24),(ρ.t 3)] ty #[.slice (some ⟨b,0,none⟩) i c,.int .i64<|(n:Int)+1-(i:Int)]).run P w =
  .ok (.slice (some ⟨w.heap.size,0,none⟩) (n+1)<|grownCap w (n+1) c<|ρ.t 9) (w.drew.alloc<|.cells ((cc.toList.take<|i*s).toArray++Builtin.zeroCells (Value.agg zs).cells (n+1-i)++Builtin.zeroCells (Value.agg zs).cells (grownCap w (n+1) c (ρ.t 9)-(n+1)))<|ρ.t 9):=λty=>by
  have h:=Lib.run_append_grow_zeros w (ρ.t 24) (ρ.t 3) ty (ρ.t 9) i0 _ .i64 .i64 L.t24 L.t3 hi0 hz0 (some ⟨b,0,none⟩) i c (cc.toList.take<|i*s) hold (n+1-i) (by omega) (by omega) (by omega) (by omega) (by rw[hzb];exact ZB (Zr _ (by omega:n+1-i<=n+1))<|by omega)<|by rw[hzb,hik];exact growslice_fits hroom hbig
  rw[hik] at h
  rw[hkk]
  exact h
 let⟨G,hG⟩:∃G,G=grownCap w (n+1) c (ρ.t 9):=⟨_,rfl⟩
 have hGn:n+1<=G:=by rw[hG];exact WN w _ _ _
 let⟨ROW,hROW⟩:∃ROW:Array Value,ROW=(cc.toList.take<|i*s).toArray++Builtin.zeroCells (Value.agg zs).cells (n+1-i)++Builtin.zeroCells (Value.agg zs).cells (G-(n+1)):=⟨_,rfl⟩
 rw[<-hG] at hrz
 rw[<-hROW] at hrz
 have hzc:(Value.agg zs).cells=zs:=rfl
 have hRl:ROW.size=G*s:=by
  rw[hROW,hzc]
  simp only[Wj,X2,L.zl,YS,ZM,Zx]
  have y1:(n+1-i)*s=(n+1)*s-i*s:=YU _ _ _
  have y2:(G-(n+1))*s=G*s-(n+1)*s:=YU _ _ _
  have y3:(n+1)*s<=G*s:=Zr _ hGn
  omega
 let⟨W1,hW1⟩:∃W1,W1=w.drew.alloc (.cells ROW<|ρ.t 9):=⟨_,rfl⟩
 have hh1:W1.heap=w.heap.push (.cells ROW (ρ.t 9) (0,0)):=by rw[hW1];rfl
 have e1:W1.os=w.os:=by rw[hW1];rfl
 have e2:W1.tape=w.tape:=by rw[hW1];rfl
 have e3:W1.output=w.output:=by rw[hW1];rfl
 have e4:w.drawn<=W1.drawn:=by rw[hW1];exact Ys _
 rw[<-hW1] at hrz
 have hNb:W1.heap[w.heap.size]?=some (.cells ROW (ρ.t 9) (0,0)):=by rw[hh1];simp
 have hOb:W1.heap[b]?=some (.cells cc Ty (0,0)):=by rw[hh1,ZW,ZF<|by omega];exact hb
 have hOv:W1.heap[vb]?=some (.cells vv Tv (0,0)):=by rw[hh1,ZW,ZF<|by omega];exact hv
 clear hW1
 have hV:(vv.toList.take s).length=1*s:=by rw[ZM,Zx,Yq hvl,x5]
 have hD:((cc.toList.take<|n*s).drop<|i*s).length=(n-i)*s:=by
  rw[ZU,ZM,Zx,Yq<|by omega,YU]
 have hG63:G<=9223372036854775807:=by
  have:=grownCap_le_maxLen w (n+1) c (ρ.t 9)<|by unfold maxLen;omega
  rw[<-hG] at this
  unfold maxLen at this
  omega
 clear hG
 generalize hA:aR ROW.toList (i*s) (vv.toList.take s)=A
 have x6:(n+1)*s<=G*s:=Zr _ hGn
 have hAl:A.length=G*s:=by rw[<-hA,cL<|by rw[hV,Zx];omega,Zx,hRl]
 have hcpA:∀ty dc,(Builtin.copy_ #[(ρ.t 24),(ρ.t 24)] ty #[.slice (some ⟨w.heap.size,i*s,none⟩) (n+1-i) dc,.slice (some ⟨vb,0,none⟩) 1 vc]).run P W1=.ok (goInt 1) (W1.setRow w.heap.size A.toArray):=λty dc=>by
  rw[<-hA]
  exact Sp W1 _ _ ty (ρ.t 9) w.heap.size (i*s) (n+1-i) dc ⟨vb,0,none⟩ 1 vc 1 ROW (ρ.t 9) _ L.t24 hsz (by simp only[Wo];split<;>omega) hV
   (λj v hj=>by
    rw[XU,Z0]
    refine L9 hOv ?_
    rw[Zs] at hj
    split at hj
    .simpa using hj
    .cases hj) hNb (by omega) h1v
 let⟨W2,hW2⟩:∃W2,W2=W1.setRow w.heap.size A.toArray:=⟨_,rfl⟩
 rw[<-hW2] at hcpA
 have hN2:W2.heap[w.heap.size]?=some (.cells A.toArray (ρ.t 9) (0,0)):=by rw[hW2];exact Yv W1 _ ROW _ _ _ hNb
 have hO2:W2.heap[b]?=some (.cells cc Ty (0,0)):=by rw[hW2,Yy W1 _ b _<|by omega];exact hOb
 have hh2:W2.heap=w.heap.push (.cells A.toArray (ρ.t 9) (0,0)):=by
  apply Xm
  intro k
  by_cases hk:k=w.heap.size
  .subst hk;rw[hN2];simp
  .rw[hW2,Yy W1 _ k _ hk,hh1,ZW,ZW,ZF hk,ZF hk]
 have f1:W2.os=W1.os:=by rw[hW2];rfl
 have f2:W2.tape=W1.tape:=by rw[hW2];rfl
 have f3:W2.output=W1.output:=by rw[hW2];rfl
 have f4:W2.drawn=W1.drawn:=by rw[hW2];rfl
 clear hW2
 generalize hB:aR A (i*s+s) ((cc.toList.take<|n*s).drop<|i*s)=B
 have hBl:B.length=G*s:=by rw[<-hB,cL<|by rw[hD,hAl];omega,hAl]
 have hcpB:∀ty dc sc,(Builtin.copy_ #[(ρ.t 24),(ρ.t 24)] ty #[.slice (some ⟨w.heap.size,i*s+s,none⟩) (n-i) dc,.slice (some ⟨b,i*s,none⟩) (n-i) sc]).run P W2.drew=.ok (goInt ((n-i:Nat):Int)) (W2.drew.setRow w.heap.size B.toArray):=λty dc sc=>by
  rw[<-hB]
  exact Sp W2.drew _ _ ty (ρ.t 9) w.heap.size (i*s+s) (n-i) dc ⟨b,i*s,none⟩ (n-i) sc (n-i) A.toArray (ρ.t 9) _ L.t24 hsz (by simp only[Wo];split<;>omega) hD
   (λj v hj=>by
    rw[XU]
    refine L9 (w:=W2.drew) hO2 ?_
    rw[Zw,Zs] at hj
    split at hj
    .simpa using hj
    .cases hj) hN2 (by rw[YS,hAl];omega) λv hv'=>h1c v<|ZX hv'
 let⟨W3,hW3⟩:∃W3,W3=W2.drew.setRow w.heap.size B.toArray:=⟨_,rfl⟩
 rw[<-hW3] at hcpB
 have hh3:W3.heap=w.heap.push (.cells B.toArray (ρ.t 9) (0,0)):=by
  have hN2':W2.drew.heap[w.heap.size]?=some (.cells A.toArray (ρ.t 9) (0,0)):=hN2
  apply Xm
  intro k
  by_cases hk:k=w.heap.size
  .subst hk;rw[hW3,Yv W2.drew _ A.toArray _ _ _ hN2'];simp
  .rw[hW3,Yy W2.drew _ k _ hk]
   show W2.heap[k]?=_
   rw[hh2,ZW,ZW,ZF hk,ZF hk]
 have g1:W3.os=w.os:=by rw[hW3,<-e1,<-f1];rfl
 have g2:W3.tape=w.tape:=by rw[hW3,<-e2,<-f2];rfl
 have g3:W3.output=w.output:=by rw[hW3,<-e3,<-f3];rfl
 have g4:w.drawn<=W3.drawn:=by
  rw[hW3]
  show w.drawn<=W2.drawn+1
  omega
 clear hW3
 have hfin:B.toArray.toList.take ((n+1)*s)=cc.toList.take (i*s)++(vv.toList.take s++(cc.toList.take<|n*s).drop (i*s)):=by
  have hRo:ROW.toList.take (i*s)=cc.toList.take (i*s):=by
   rw[hROW]
   simp only[Array.toList_append,Yf]
   rw[Yi<|by rw[ZM,Zx];omega]
   exact ZS<|by rw[ZM,Zx];omega
  show B.take ((n+1)*s)=_
  rw[<-hB,<-hA,<-x2]
  refine aLZ (l:=ROW.toList) (by rw[Zx,hRl];omega) (by rw[hV]) (by rw[hD]) hRo<|by omega
 have hw1:IntKind.i64.wrap ((i:Int)+1)=(i:Int)+1:=by rw[Xh];omega
 have hw2:IntKind.i64.wrap ((n:Int)+1)=(n:Int)+1:=by rw[Xh];omega
 have hb1:(0:Int)<=(i:Int)+1:=by omega
 have hin:i<=n:=by omega
 have hb3:(i:Int)<=(n:Int):=by omega
 have hGi:¬(G=i):=by omega
 have hGim:¬(G=i+1):=by omega
 have hci:¬(c=i):=by omega
 have hres:∀e w',e=Ending.returned (.slice (some ⟨w.heap.size,0,none⟩) (n+1) G)/\w'=W3->∃(G:Nat) (R:Array Value) (q:Nat),n+1<=G/\R.size=G*s /\
  R.toList.take ((n+1)*s)=cc.toList.take (i*s)++(vv.toList.take s++(cc.toList.take<|n*s).drop (i*s)) /\
  e=.returned (.slice (some ⟨w.heap.size,0,none⟩) (n+1) G)/\w'.heap=w.heap.push (.cells R (ρ.t 9) (0,0))/\w'.os=w.os/\w'.tape=w.tape/\w'.output=w.output/\w.drawn<=w'.drawn:=by
  rintro e w' ⟨rfl,rfl⟩
  exact⟨G,B.toArray,0,hGn,by simpa using hBl,hfin,rfl,hh3,g1,g2,g3,g4⟩
 clear hkk hik hold hROW hRl hfin hh1 hh2 hh3 e1 e2 e3 e4 f1 f2 f3 f4 g1 g2 g3 g4 hNb hOb hOv hN2 hO2
 refine Calls.mono (R:=λe w'=>e=Ending.returned (.slice (some ⟨w.heap.size,0,none⟩) (n+1) G)/\w'=W3) ?_ λe w' h=>hres e w' h
 clear hres
 go_enter F22,Body2.n22_ntmps ρ
 go_wp2_with (first
  | (at_builtin;refine Lib.wpList_append_run _ rfl _ _ _ _ rfl _ _ rfl rfl _ _ (hrz _) ?_)
  | (at_builtin;refine wpList_copy_runI _ rfl _ _ (ρ.t 24) (ρ.t 24) rfl _ _ rfl rfl (hcpA _ _) ?_))
 go_region_law_o (refine step_copy_runI rfl _ _ (ρ.t 24) (ρ.t 24) rfl (.slice (some ⟨w.heap.size,i*s+s,none⟩) (n-i)<|G-(i+1)) (.slice (some ⟨b,i*s,none⟩) (n-i)<|c-i) (by simp[Act.eval,Act.put]) (by simp[Act.eval,Act.put]) (hcpB (ρ.t 3) (G-(i+1))<|c-i) ?_)
 go_wp2
 go_ret
 exact⟨rfl,rfl⟩
end
section
open Go.Proofs Go.Shelf Go.RowKit Go.Lib
variable {FT:Nat->Option Nat}{P:Program}{T:List cP}{c:dC}{es:List<|List AV}{fl i id id2 k:Nat}{m:List Value}{row:List AV}{s:Nat}{ys:List<|List AV}
section
def aCV[aF](FT:Nat->Option Nat)(c:dC)(fl:Nat)(r:AV)(H':aT)(v:Value)(w':World): Prop:=
 ∃c',c'.w=w'/\c'.H=H'/\c'.X=c.X/\bV fl c c'/\bX FT c'/\RV FT c' r v
theorem aGI[aF](A:bX (aK T) c){t e:TypeId}{i:TypeInfo}{z:Value}{bytes:Nat}{xv yv:Value}(q:fl<=id)(m:c.H[id]?=some (.blk s es))(K:c.H[id2]?=some (.blk s [row]))(Z:RV (aK T) c (.ms id es.length 0 es.length) xv)(hy:RV (aK T) c (.ms id2 1 0 1) yv)(ht:P.underlying t=some (.slice e))(hi:P.info? e=some i)(a3:i.size=s)(a1:i.bytes=bytes)(hz:i.zero=some z)(a2:z.cells.size=s)(Q:0<s)(F:kV (es.length+1) bytes=true)(Y:TypeId):
 ∃v w',(Builtin.append_ #[t,t] Y #[xv,yv]).run P c.w=.ok v w'/\aCV (aK T) c fl (.ms id (es.length+1) 0<|es.length+1) (c.H.set id<|.blk s<|es++[row]) v w':=by
 subst a3 a1;have n:=A.lens id i.size es m;have B:∀e∈[row],e.length=i.size:=A.lens id2 i.size [row] K;let⟨xa,xc,g,V,_,G,b2⟩:=aDC (P:=P) A hy (by simp[rd,K]:rd c.H (.ms id2 1 0 1)=some [row]) B Q;have C:Src P c.w t t e i yv 1 g:=by
  rw[V];refine aAq ht ht hi λw' hd=>?_;have:=b2 w' hd;rw[V] at this;exact this
 let⟨ad,cap,s0,n0,hv,g1,g2,g3,g4⟩:=Z.ms_inv;rw[eQ m] at g1;cases g1;let⟨m1,m2⟩:=g4 rfl;have y:cap<es.length+1->∃v w',(Builtin.append_ #[t,t] Y #[xv,yv]).run P c.w=.ok v w'/\aCV (aK T) c fl (.ms id (es.length+1) 0<|es.length+1) (c.H.set id<|.blk i.size<|es++[row]) v w':=by
  intro p;let⟨c2,d1,O,M,W,k3⟩:=rY (P:=P) A Z (by simp[rd,m]:rd c.H (.ms id es.length 0 es.length)=some es) n Q;rw[hv] at M;cases M;let⟨f1,f2⟩:=aAL F p;let⟨a,S,q2⟩:=C.grow Y z ad es.length cap O hz p f2 f1 k3;have R:=WN c.w (es.length+1) cap e;have r:a.size=grownCap c.w (es.length+1) cap e*i.size:=by
   have:=congrArg List.length S;simp only[Zx,Zj,W.1,G.1,X2,a2] at this;rw[this,<-ZA,<-ZA];congr 1;show es.length+1+_=_;omega
  have N:es.length<(es++[row]).length:=by simp
  have q4:∀f∈es++[row],f.length=i.size:=by
   intro f hf;rcases ZC.1 hf with h | h
   .exact n f h
   .exact B f h
  have q5:∀k j x,bK (es++[row]) k j=some x->∃v,a[k*i.size+j]?=some v/\bE v=true/\RV (aK T) c x v:=by
   intro k j x Z;let⟨u,M,W,k3⟩:=Oa (rest:=(Builtin.zeroCells z.cells<|grownCap c.w (es.length+1) cap e-(es.length+1)).toList) W G k j x Z;refine⟨u,?_,W,k3⟩;rw[<-S] at M;simpa using M
  rw[hv];refine⟨_,_,q2,⟨c.w.drew.alloc<|.cells a e (0,0),c.X,upd c.β id c.w.heap.size,c.H.set id<|.blk i.size<|es++[row]⟩,rfl,rfl,rfl,Ev (ob:=.cells a e (0,0)) A q m N rfl rfl rfl rfl,
   HT (cs':=a) (T:=e) A m N rfl rfl rfl rfl q4 (by rw[r];exact Zr _<|by simpa using R) q5,?_⟩
  refine .ms id (es.length+1) 0 (es.length+1) _ _ i.size (es.length+1) (by rw[sQ m];simp) (Zf _) R λ_=>⟨by omega,.inr ⟨c.w.heap.size,a,e,_,dZ _ _ _,?_,by simpa using r.symm,rfl,λ_=>by simp⟩⟩;exact Wr c.w.drew _
 rcases m2 with⟨_,U,E,m5⟩ | ⟨b,cc,L,a',U,E,m5,m6,m7⟩
 .exact y<|by omega
 .by_cases p:cap<es.length+1
  .exact y p
  .have ha:=m7<|by omega
   subst m6;subst ha;let⟨c1,b3,S,q2,q3⟩:=A.blk id i.size es b m U;rw[E] at S;cases S;have o:es.length*i.size+g.length<=cc.size:=by
    rw[G.1,<-m5,<-ZA];exact Zr _<|by show es.length+1<=0+cap;omega
   let⟨p1,p2⟩:=Id (k:=es.length) n B (Zf _) G o q3;have b1:aR es es.length [row]=es++[row]:=by simp[aR]
   rw[b1] at p1 p2;have J:=YX P b (es.length*i.size) L g 0 cc c.w E (by simpa using o)<|gO B G;rw[gL] at J;have d:=cL (l:=cc.toList) (vs:=g) (k:=es.length*i.size)<|by simpa using o
   have D:=C.run Y (some ⟨b,0*i.size,none⟩) es.length cap (by omega) _ (λc3 h=>by cases h;rw[fE];simpa using J) λh=>by cases h
   rw[<-hv] at D;refine⟨_,_,D,⟨c.w.setRow b (aR cc.toList (es.length*i.size) g).toArray,c.X,c.β,c.H.set id<|.blk i.size<|es++[row]⟩,rfl,rfl,rfl,
    mF (cs':=(aR cc.toList (es.length*i.size) g).toArray) A q m U E (by simp) (by simpa using d) (Yv c.w b cc _ L _ E) (λk hk=>Yy c.w b k _ hk) (by simp) rfl rfl rfl,
    wJ (cs':=(aR cc.toList (es.length*i.size) g).toArray) A m U E (by simp) (by simpa using d) (Yv c.w b cc _ L _ E) (λk hk=>Yy c.w b k _ hk) (by simp) rfl rfl rfl p1 ?_ p2,?_⟩
   .simp only[Zj,YS,d,Zx];rw[ZA,<-G.1];exact o
   .refine .ms id (es.length+1) 0 (es.length+1) _ cap i.size (es.length+1) (by rw[sQ m];simp) (Zf _) (by omega) λ_=>⟨by omega,.inr ⟨b,_,L,_,U,Yv c.w b cc _ L _ E,?_,rfl,λ_=>rfl⟩⟩;simpa [d] using m5
theorem J5[aF]{a:List<|List AV}{n:List Value}(h:eV FT c s ys m)(k:eV FT c s a n): eV FT c s (ys++a)<|m++n:=by
 refine⟨by rw[Zj,Zj,h.1,k.1,ZA],λi j x f=>?_⟩;let⟨u,b,d,e⟩:=Oa (rest:=[]) h k i j x f;exact⟨u,by simpa using b,d,e⟩
theorem aEF(l:∀e∈ys,e.length=s)(h:eV FT c s ys m)(b:k<=ys.length): eV FT c s (ys.take k)<|m.take<|k*s:=by
 refine⟨?_,λi j x g=>?_⟩
 .rw[ZM,ZM,h.1,Yq b,Yq<|Zr _ b]
 .let⟨e,a,d⟩:=cY g;rw[Zs] at a;split at a
  .rename_i p;have f:j<s:=by
    have:=l e<|Zg a;rw[<-this];exact (Zd.1 d).1
   let⟨u,n,q,o⟩:=h.2 i j x<|by simp[bK,a,d]
   exact⟨u,by rw[Zs,Zu<|NT p f];exact n,q,o⟩
  .cases a
theorem aEG(h:eV FT c s ys m): eV FT c s (ys.drop k)<|m.drop<|k*s:=by
 refine⟨?_,λi j x g=>?_⟩
 .rw[ZU,ZU,h.1,YU]
 .let⟨e,a,d⟩:=cY g;rw[Zw] at a;let⟨u,l,b,f⟩:=h.2 (k+i) j x<|by simp[bK,a,d]
  exact⟨u,by rw[Zw,<-Yu,<-ZA];exact l,b,f⟩
theorem J4{cc:Array Value}(k:∀e∈es,e.length=s)(a:es.length*s<=cc.size)(h:∀i j x,bK es i j=some x->∃v,cc[i*s+j]?=some v/\bE v=true/\RV FT c x v): eV FT c s es<|cc.toList.take<|es.length*s:=by
 refine⟨by rw[ZM,Zx];exact Yq a,λi j x b=>?_⟩;let⟨e,d,g⟩:=cY b;have m:=(Zd.1 d).1;have o:j<s:=by
  have:=k e<|Zg d;rw[<-this];exact (Zd.1 g).1
 let⟨u,f,n,l⟩:=h i j x b;exact⟨u,by rw[Zs,Zu<|NT m o,Z4];exact f,n,l⟩
theorem aJx{l v d:List Value}{n:Nat}(m:(n+1)*s<=l.length)(a:v.length=1*s)(e:d.length=(n-i)*s)(g:i<n):
 (aR (aR l ((i+1)*s) d) (i*s) v).take ((n+1)*s)=l.take (i*s)++(v++d):=by
 have k:(n+1)*s=n*s+s:=by rw[ZA,Yw]
 have f:(i+1)*s=i*s+s:=by rw[ZA,Yw]
 have o:(n-i)*s=n*s-i*s:=YU _ _ _;have p:i*s+s<=n*s:=by rw[<-f];exact Zr _ g
 have j:1*s=s:=Yw _;unfold aR;have c:(List.take ((i+1)*s) l).length=(i+1)*s:=by rw[ZM];omega
 have h:(List.take ((i+1)*s) l++(d++List.drop ((i+1)*s+d.length) l)).take (i*s)=l.take (i*s):=by
  rw[Yi<|by rw[c];omega,Xc,Yq<|by omega]
 have e2:(List.take ((i+1)*s) l++(d++List.drop ((i+1)*s+d.length) l)).drop (i*s+v.length)=d++List.drop ((i+1)*s+d.length) l:=by
  rw[a,show i*s+1*s=(List.take ((i+1)*s) l).length by rw[c];omega,Y4]
 have b:(List.take (i*s) l).length=i*s:=by rw[ZM];omega
 rw[h,e2,<-Yf v d,<-Yf];rw[Yi<|by simp only[Zj,b,a,e];omega];exact ZS<|by simp only[Zj,b,a,e];omega
theorem aRK[aF]{ρ:Ren}{zs:Array Value}{zb:Nat}(L:aCW P ρ s zs zb)(e3:zb<=100000)(C:bX (aK T) c){vs:Array Value}(p:fl<=id)(k3:id≠id2)(d:c.H[id]?=some (.blk s es))(E:c.H[id2]?=some (.blk s [row]))(hi:i<=es.length)(hl:es.length<=1000000)(m:lD (aK T) c [.ms id es.length 0 es.length,.lit<|.int .i64 i,.ms id2 1 0 1] vs):
 Calls P (ρ.f 22) vs c.w λe w'=>∃v,e=.returned v/\aCV (aK T) c fl (.ms id (es.length+1) 0<|es.length+1) (c.H.set id<|.blk s (es.take i++row::es.drop i)) v w':=by
 let⟨x0,k0,r0⟩:=m.2 0 _ rfl;let⟨x1,k1,r1⟩:=m.2 1 _ rfl;let⟨x2,k2,r2⟩:=m.2 2 _ rfl;have i1:=r1.lit_inv;have l1:vs=#[x0,.int .i64 i,x2]:=by
  subst i1;apply XS
  .exact m.1
  .intro j O c1;have i3:j<3:=by simpa using c1
   match j,i3 with
   | 0,_=>exact ZE<|(Z8 O).symm.trans k0
   | 1,_=>exact ZE<|(Z8 O).symm.trans k1
   | 2,_=>exact ZE<|(Z8 O).symm.trans k2
 subst l1;have a:=C.lens id s es d;have Z:∀e∈[row],e.length=s:=C.lens id2 s [row] E;let⟨i0,c3,i2,d2,b1⟩:=info_parts L.i9;have B:kV (es.length+1) zb=true:=by
  have y:(es.length+1)*zb<=1000001*100000:=Xb (by omega) e3;simp only[kV,Ze,Z6];omega
 obtain⟨a0,c0,s0,n0,rfl,g1,g2,g3,g4⟩:=r0.ms_inv;rw[eQ d] at g1;cases g1;let⟨m1,m2⟩:=g4 rfl;obtain⟨a2,c2,s2,n2,rfl,j1,j2,j3,j4⟩:=r2.ms_inv;rw[eQ E] at j1;cases j1;let⟨_,p2⟩:=j4 rfl;rcases p2 with⟨_,h0,_⟩ | ⟨vb,D,Tv,b2,q1,q2,q3,rfl,q5⟩
 .cases h0
 obtain rfl:=q5<|by omega
 rw[YT] at r2 |-;by_cases e2:i=es.length
 .subst e2;let⟨v,w',b3,J⟩:∃v w',(∀ty,(Builtin.append_ #[(ρ.t 24),(ρ.t 24)] ty #[.slice a0 es.length c0,.slice (some ⟨vb,0,none⟩) 1 c2]).run P c.w=.ok v w')/\aCV (aK T) c fl (.ms id (es.length+1) 0<|es.length+1) (c.H.set id<|.blk s<|es++[row]) v w':=by
   have d3:=λty=>aGI (P:=P) (fl:=fl) C (id:=id) (id2:=id2) (es:=es) (row:=row) (t:=ρ.t 24) (e:=ρ.t 9) (i:=i0) (z:=.agg zs) (s:=s) (bytes:=zb) p d E r0 r2 L.t24 c3 d2 b1 i2 L.zl L.s0 B ty;let⟨v,w',y,M⟩:=d3 0;refine⟨v,w',λty=>?_,M⟩;rw[<-y];rfl
  refine (aOE L a0 es.length c0 vb c2 c.w w' v g3 (λh=>by
   rcases m2 with⟨_,h0,_⟩ | ⟨b,cc,I,a',m3,N,m5,m6,m7⟩
   .exact h0
   .rw[h] at m6;cases m6)<|by simpa using b3).mono λe n3 ⟨he,hw⟩=>?_
  subst hw;refine⟨v,he,?_⟩;simpa using J
 have F:i<es.length:=by omega
 rcases m2 with⟨_,h0,_⟩ | ⟨b,cc,I,a',m3,N,m5,rfl,m7⟩
 .omega
 obtain rfl:=m7<|by omega
 rw[YT] at r0 |-;have d1:vb≠b:=λe=>k3<|C.inj id id2 b m3<|e▸q1;let⟨l2,o1,u1,u2,u3⟩:=C.blk id s es b d m3;rw[N] at u1;cases u1;let⟨l3,n1,w1,w2,w3⟩:=C.blk id2 s [row] vb E q1;rw[q2] at w1;cases w1;have E1:=J4 a u2 u3;have E2:=J4 Z w2 w3;have S:eV (aK T) c s [row]<|D.toList.take s:=by simpa using E2
 have W:s<=D.size:=by simpa using w2
 have K:=gO a E1;have V:=gO Z S;have E3:eV (aK T) c s (es.take i++row::es.drop i)<|cc.toList.take (i*s)++(D.toList.take s++(cc.toList.take<|es.length*s).drop (i*s)):=by
  have e1:cc.toList.take (i*s)=(cc.toList.take<|es.length*s).take (i*s):=by rw[Xc,Yq<|Zr _ hi]
  rw[e1];exact J5 (aEF a E1 hi)<|J5 (ys:=[row]) S<|aEG E1
 have Q:∀f∈es.take i++row::es.drop i,f.length=s:=by
  intro f hf;rcases ZC.1 hf with h | h
  .exact a f<|Z1 h
  .rcases ZJ.1 h with rfl | h
   .exact Z _<|by simp
   .exact a f<|ZX h
 have g:(es.take i++row::es.drop i).length=es.length+1:=by
  simp only[Zj,ZM,Z9,ZU];omega
 have o:∀R:Array Value,R.toList.take ((es.length+1)*s)=cc.toList.take (i*s)++(D.toList.take s++(cc.toList.take<|es.length*s).drop (i*s))->
  ∀k j x,bK (es.take i++row::es.drop i) k j=some x->∃v,R[k*s+j]?=some v/\bE v=true/\RV (aK T) c x v:=by
  intro R hR k j x hx;let⟨v,y,M,h3⟩:=E3.2 k j x hx;refine⟨v,?_,M,h3⟩;rw[<-hR,Zs] at y;split at y
  .rw[<-Z4];exact y
  .cases y
 by_cases a3:c0<es.length+1
 .refine (aMa L b es.length c0 i vb c2 cc D I Tv c.w F g3 a3 (by
   have:=(aAz B).1;omega) (by omega) N u2 q2 W K V).mono λe w' hq=>?_
  obtain⟨G,R,q,f1,f2,f3,rfl,f5,f6,f7,f8,f9⟩:=hq;have a1:es.length<(es.take i++row::es.drop i).length:=by omega
  refine⟨_,rfl,⟨w',c.X,upd c.β id c.w.heap.size,c.H.set id<|.blk s (es.take i++row::es.drop i)⟩,rfl,rfl,rfl,Ev C p d a1 f5 f6 f7 f8 f9,HT (cs':=R) C d a1 f5 f6 f7 f8 Q (by rw[g,f2];exact Zr _ f1) (o R f3) f9,?_⟩;refine .ms id (es.length+1) 0 (es.length+1) _ G s (es.length+1) (by rw[sQ d,Zu rfl,g]) (Zf _) f1 λ_=>⟨by omega,.inr ⟨c.w.heap.size,R,ρ.t 9,_,dZ _ _ _,?_,by rw[f2,Z0],rfl,λ_=>by simp⟩⟩;show w'.heap[c.w.heap.size]?=_;rw[f5];simp
 .have u:(es.length+1)*s<=cc.size:=by rw[<-m5,Z0];exact Zr _<|by omega
  .refine (aJw L b es.length c0 i vb c2 cc D I Tv c.w F (by omega) (by omega) d1 N u q2 W K V).mono λe w' hq=>?_;obtain⟨rfl,rfl⟩:=hq;have hD:((cc.toList.take<|es.length*s).drop<|i*s).length=(es.length-i)*s:=by
    rw[ZU,ZM,Zx,Yq<|by omega,YU]
   have x1:(es.length+1)*s=es.length*s+s:=by rw[ZA,Yw]
   have x2:(i+1)*s=i*s+s:=by rw[ZA,Yw]
   have x3:(es.length-i)*s=es.length*s-i*s:=YU _ _ _;have x4:i*s+s<=es.length*s:=by rw[<-x2];exact Zr _ F
   have x5:1*s=s:=Yw _;have hV:(D.toList.take s).length=1*s:=by rw[ZM,Zx,Yq W,x5]
   have hB:=aJx (l:=cc.toList) (v:=D.toList.take s) (i:=i) (n:=es.length) (by rw[Zx];exact u) hV hD F;have U:(aR cc.toList ((i+1)*s)<|(cc.toList.take<|es.length*s).drop<|i*s).length=cc.size:=by
    have y:(i+1)*s+(es.length-i)*s<=cc.size:=by
     clear o Q E3 K V E1 E2 S;omega
    rw[cL<|by rw[hD,Zx];exact y,Zx]
   generalize hX:aR cc.toList ((i+1)*s) ((cc.toList.take<|es.length*s).drop<|i*s)=X at U hB |-;have A:(aR X (i*s)<|D.toList.take s).length=cc.size:=by rw[cL<|by rw[hV,U];omega,U]
   generalize hY:aR X (i*s) (D.toList.take s)=Y at A hB |-;have y:(c.w.drew.setRow b X.toArray).heap[b]?=some (.cells X.toArray I (0,0)):=Yv c.w.drew b cc _ I _ N;have M:((c.w.drew.setRow b X.toArray).setRow b Y.toArray).heap[b]?=some (.cells Y.toArray I (0,0)):=Yv _ b _ _ I _ y;have h3:∀k,k≠b->((c.w.drew.setRow b X.toArray).setRow b Y.toArray).heap[k]?=c.w.heap[k]?:=λk hk=>(Yy _ b k _ hk).trans<|Yy c.w.drew b k _ hk;have h4:((c.w.drew.setRow b X.toArray).setRow b Y.toArray).heap.size=c.w.heap.size:=by simp
   refine⟨_,rfl,⟨(c.w.drew.setRow b X.toArray).setRow b Y.toArray,c.X,c.β,c.H.set id<|.blk s (es.take i++row::es.drop i)⟩,rfl,rfl,rfl,
    mF (cs':=Y.toArray) C p d m3 N (by omega) (by simpa using A) M h3 h4 rfl rfl rfl<|Ys _,
    wJ (cs':=Y.toArray) C d m3 N (by omega) (by simpa using A) M h3 h4 rfl rfl rfl Q (by rw[g];simpa [A] using u) (o Y.toArray hB)<|Ys _,?_⟩
   refine .ms id (es.length+1) 0 (es.length+1) _ c0 s (es.length+1) (by rw[sQ d,Zu rfl,g]) (Zf _) (by omega) λ_=>⟨by omega,.inr ⟨b,Y.toArray,I,_,m3,M,by rw[YS,A];exact m5,rfl,λ_=>by rw[YT]⟩⟩
end
end
section
open iW (den cds ag)
def WO[aF](P:Program)(cf:CF)(fl:Nat)(ops:List bQ)(st:St)(K:St->Prop): Prop:=∃s,iT P cf fl ops st=some s/\K s
def WC[aF](P:Program)(cf:CF)(lf fl:Nat)(c:bR)(st:St)(K:cT->St->Prop): Prop:=∃x s,eP P cf lf fl c st=some (x,s)/\K x s
section
variable {P:Program}{cf:CF}{lf fl:Nat}{tm:List AV}{H H':aT}{v:AV}{K:cT->St->Prop}{st:St}
theorem WO.nil[aF]{K:St->Prop}(h:K st): WO P cf fl [] st K:=⟨st,rfl,h⟩
theorem WO.op[aF]{d:Option Nat}{op:Io}{r:List bQ}{K:St->Prop}(h:aL P cf fl op tm H=some (v,H'))(k:WO P cf fl r ⟨hZ tm d v,H'⟩ K): WO P cf fl (⟨d,op,none⟩::r) ⟨tm,H⟩ K:=by
 let⟨s,a,b⟩:=k;refine⟨s,?_,b⟩;simp only[iT,cQ,eW,h,a]
theorem WC.reg[aF]{b:Bool}{ops:List bQ}(h:WO P cf fl ops st<|K .normal): WC P cf lf fl (.region b [] ops) st K:=by
 let⟨s,a,c⟩:=h;exact⟨_,s,by simp only[eP,Lt,a],c⟩
theorem WC.seq[aF]{a b:bR}(h:WC P cf lf fl a st λx s=>match x with | .normal=>WC P cf lf fl b s K | x=>K x s): WC P cf lf fl (.seq a b) st K:=by
 let⟨x,s,e,d⟩:=h;cases x with
 | normal=>
  let⟨y,u,j,k⟩:=d;exact⟨y,u,by simp only[eP,e,j],k⟩
 | exit i=>exact⟨_,s,by simp only[eP,e],d⟩
 | ret=>exact⟨_,s,by simp only[eP,e],d⟩
theorem WC.cond[aF]{c:bB}{a b:bR}{t:Bool}(h:aH st.tmps c=.lit (.bool t))(k:WC P cf lf fl (match t with | true=>a | false=>b) st K): WC P cf lf fl (.cond c a b) st K:=by
 let⟨x,s,d,e⟩:=k;refine⟨x,s,?_,e⟩;cases t<;>simp only[eP,h]<;>exact d
theorem WC.condT[aF]{c:bB}{a b:bR}{t:Bool}(h:aH st.tmps c=.lit (.bool t))(d:t=true)(k:WC P cf lf fl a st K): WC P cf lf fl (.cond c a b) st K:=by subst d;exact WC.cond h k
theorem WC.condF[aF]{c:bB}{a b:bR}{t:Bool}(h:aH st.tmps c=.lit (.bool t))(d:t=false)(k:WC P cf lf fl b st K): WC P cf lf fl (.cond c a b) st K:=by subst d;exact WC.cond h k
theorem WC.block[aF]{i:Nat}{c:bR}(h:WC P cf lf fl c st λx s=>match x with | .exit j=>K (if j=i then .normal else .exit j) s | x=>K x s): WC P cf lf fl (.block i c) st K:=by
 let⟨x,s,d,b⟩:=h;cases x with
 | exit j=>
  refine⟨_,s,?_,b⟩;simp only[eP,d];split<;>rfl
 | normal=>exact⟨_,s,by simp only[eP,d],b⟩
 | ret=>exact⟨_,s,by simp only[eP,d],b⟩
theorem WC.skip[aF](h:K .normal st): WC P cf lf fl .skip st K:=⟨_,st,rfl,h⟩
theorem WC.exit[aF]{i:Nat}(h:K (.exit i) st): WC P cf lf fl (.exit i) st K:=⟨_,st,rfl,h⟩
theorem WC.ret[aF](h:K .ret st): WC P cf lf fl .ret st K:=⟨_,st,rfl,h⟩
theorem WC.scope[aF]{c:bR}(h:WC P cf lf fl c st K): WC P cf lf fl (.scope c) st K:=h
theorem WC.imp[aF]{c:bR}{a:cT->St->Prop}(h:WC P cf lf fl c st K)(k:∀x s,K x s->a x s): WC P cf lf fl c st a:=by
 let⟨x,s,d,b⟩:=h;exact⟨x,s,d,k x s b⟩
def WL[aF](P:Program)(cf:CF)(lf fl N:Nat)(live:List Bool)(tr:Bool)(b:bR)(m:Nat)(st:St)(K:cT->St->Prop): Prop:=∃x s,fS (dK (some live) tr fl N) (λst=>eP P cf lf fl b st) m st=some (x,s)/\K x s
theorem WL.step[aF]{N:Nat}{live:List Bool}{tr:Bool}{b:bR}{m:Nat}(h:WC P cf lf fl b (dK (some live) tr fl N st) λx s=>match x with | .normal=>WL P cf lf fl N live tr b m s K | x=>K x s): WL P cf lf fl N live tr b (m+1) st K:=by
 let⟨x,s,d,c⟩:=h;cases x with
 | normal=>
  let⟨y,u,g,j⟩:=c;exact⟨y,u,by simp only[fS,d,g],j⟩
 | exit i=>exact⟨_,s,by simp only[fS,d],c⟩
 | ret=>exact⟨_,s,by simp only[fS,d],c⟩
theorem WL.imp[aF]{N:Nat}{live:List Bool}{tr:Bool}{b:bR}{m:Nat}{a:cT->St->Prop}(h:WL P cf lf fl N live tr b m st K)(k:∀x s,K x s->a x s): WL P cf lf fl N live tr b m st a:=by
 let⟨x,s,c,d⟩:=h;exact⟨x,s,c,k x s d⟩
theorem WC.loop[aF]{live:List Bool}{tr:Bool}{b:bR}(h:WL P cf lf fl st.heap.length live tr b lf st K): WC P cf lf fl (.loop (some live) tr b) st K:=by
 let⟨x,s,a,c⟩:=h;exact⟨x,s,a,c⟩
def aW9(b a:List Bool)(tr:Bool)(fl N:Nat)(x:cT)(s:St): St:=match x with
 | .ret=>⟨cU a s.tmps,s.heap⟩
 | _=>dK (some b) tr fl N s
theorem WC.mask[aF]{b a:List Bool}{tr:Bool}{c:bR}(h:WC P cf lf fl c st λx s=>K x<|aW9 b a tr fl st.heap.length x s): WC P cf lf fl (.mask b a tr c) st K:=by
 let⟨x,s,e,d⟩:=h;refine⟨x,_,?_,d⟩;simp only[eP,e,Fs];cases x<;>rfl
theorem aHG[aF]{d t:Nat}: aH (tm.set d v) (.tmp t)=if d=t/\d<tm.length then v else aH tm (.tmp t):=by
 simp only[aH,Z7];by_cases h:d=t
 .subst h;by_cases b:d<tm.length
  .simp[b]
  .simp[b,Zy<|Nat.le_of_not_lt b]
 .simp[h]
theorem B7[aF]: ∀(l:List Bool) (tm:List AV) (t:Nat),t<tm.length->aH (cU l tm) (.tmp t)=if l.getD t false then aH tm (.tmp t) else .undef
 | l,[],t,h=>by cases h
 | [],v::vs,0,_=>rfl
 | [],v::vs,t+1,h=>by
  have:=B7 [] vs t<|by simpa using h
  simpa [aH,cU] using this
 | b::l,v::vs,0,_=>by cases b<;>rfl
 | b::l,v::vs,t+1,h=>by
  have:=B7 l vs t<|by simpa using h
  simpa [aH,cU] using this
theorem aEb: ∀(l:List Bool) (tm:List AV),(cU l tm).length=tm.length
 | _::l,_::vs=>by simp[cU,aEb l vs]
 | [],vs=>by simp[cU]
 | _::_,[]=>rfl
abbrev tp:=bB.tmp
abbrev o1(d:Nat)(o:Io): bQ:=⟨some d,o,none⟩
abbrev om(d s:Nat): bQ:=⟨some d,.mov (.tmp s),none⟩
theorem WO.mov[aF]{d s:Nat}{r:List bQ}{K:St->Prop}(k:WO P cf fl r ⟨tm.set d<|aH tm<|.tmp s,H⟩ K): WO P cf fl (om d s::r) ⟨tm,H⟩ K:=WO.op (H':=H) rfl k
section
structure At[aF](N:Nat)(l:List (Nat×AV))(tm:List AV): Prop where
 ln:tm.length=N
 at_:∀k v,cZ k l=some v->aH tm (.tmp k)=v
theorem At.get[aF]{N k:Nat}{l:List<|Nat×AV}(h:At N l tm)(e:cZ k l=some v): aH tm (.tmp k)=v:=h.at_ k v e
theorem At.nil[aF]: At tm.length [] tm:=⟨rfl,λ_ _ h=>by cases h⟩
theorem At.cons[aF]{N k:Nat}{l:List<|Nat×AV}(e:aH tm (.tmp k)=v)(h:At N l tm): At N ((k,v)::l) tm:=⟨h.ln,λj u a=>by
 simp only[cZ] at a;split at a
 .rename_i b;cases a;rw[<-Zc b];exact e
 .exact h.at_ j u a⟩
theorem At.set[aF]{N k:Nat}{l:List<|Nat×AV}(h:At N l tm)(c:Nat.blt k N=true): At N ((k,v)::l)<|tm.set k v:=by
 have c:k<tm.length:=by rw[h.ln];simpa using c
 refine⟨by rw[Yr];exact h.ln,λj u a=>?_⟩;simp only[cZ] at a;split at a
 .rename_i b;cases a;rw[<-Zc b,aHG,Zu ⟨rfl,c⟩]
 .rename_i b;rw[aHG,ZF λe=>YF b e.1];exact h.at_ j u a
theorem At.live[aF]{N k:Nat}{l:List<|Nat×AV}(b:List Bool)(h:At N l tm)(e:cZ k l=some v)(a:(Nat.blt k N&&b.getD k false)=true): aH (cU b tm) (.tmp k)=v:=by
 simp only[Ze] at a;rw[B7 _ _ _<|by rw[h.ln];simpa using a.1,Zu a.2,h.get e]
theorem At.mask[aF]{N:Nat}{l:List<|Nat×AV}(b:List Bool)(h:At N l tm): At N []<|cU b tm:=⟨by rw[aEb];exact h.ln,λ_ _ h=>by cases h⟩
theorem AO.op[aF]{N d:Nat}{l:List<|Nat×AV}{op:Io}{r:List bQ}{K:St->Prop}(h:At N l tm)(e:aL P cf fl op tm H=some (v,H'))(k:∀a,At N ((d,v)::l) a->WO P cf fl r ⟨a,H'⟩ K)(b:Nat.blt d N=true:=by rfl): WO P cf fl (o1 d op::r) ⟨tm,H⟩ K:=WO.op e<|k _<|h.set b
theorem AO.mov[aF]{N d s:Nat}{l:List<|Nat×AV}{r:List bQ}{K:St->Prop}(h:At N l tm)(e:cZ s l=some v)(k:∀a,At N ((d,v)::l) a->WO P cf fl r ⟨a,H⟩ K)(b:Nat.blt d N=true:=by rfl): WO P cf fl (om d s::r) ⟨tm,H⟩ K:=WO.mov<|by rw[h.get e];exact k _<|h.set b
theorem AO.nil[aF]{N:Nat}{l:List<|Nat×AV}{K:St->Prop}(h:At N l tm)(k:K ⟨tm,H⟩): WO P cf fl [] ⟨tm,H⟩ K:=⟨_,rfl,k⟩
theorem Ml[aF]{c:BinOp}{x y:bB}{a b:Int}{v:Value}(f:aH tm x=iv a)(e:aH tm y=iv b)(d:aAK c .i64 a b=some v): aL P cf fl (.ibin c x y) tm H=some (.lit v,H):=by
 simp only[aL,f,e,Zz,d]
theorem aQn[dN][aF]{k:Nat}{l:List<|den k}{x:bB}{a:AV}(q:Qp (.vw k l) a)(b:aH tm x=a): aL P cf fl (.lenS x) tm H=some (iv (l.length:Nat),H):=by
 let⟨es,c,d⟩:=q.inV;have:=d.len;rcases c with⟨rfl,rfl⟩ | ⟨f,rfl⟩ | rfl
 .simp only[aL,b];rw[<-this];rfl
 .simp only[aL,b];rw[<-this]
 .simp only[aL,b];rw[<-this]
theorem aGm{i:Int}(h:0<=i): gR (iv i)=some i.toNat:=by simp only[gR,Zu h]
theorem aIw[dN][aF]{k s:Nat}{l:List<|den k}{x i:bB}{a:AV}{j:Int}{z:den k}(q:Qp (.vw k l) a)(d:aH tm x=a)(m:aH tm i=iv j)(e:idx l j=some z)(u:(cds k).length=s): ∃r,Qr (jL k z) r/\aL P cf fl (.idxAddr s x i) tm H=some (.rptr r,H):=by
 let⟨es,t,o⟩:=q.inV;let⟨n,v,w⟩:=pN e;let⟨r,b,g⟩:=o.get v;have h:r.length=s:=by rw[g.len,sX,u]
 refine⟨r,g,?_⟩;rcases t with⟨rfl,rfl⟩ | ⟨f,rfl⟩ | rfl
 .cases b
 .simp only[aL,d,m,aGm n,b,h,Zz]
 .simp only[aL,d,m,aGm n,b,h,Zz]
theorem aMs[aF]{x:bB}{c:AV}{r:List AV}(a:aH tm x=.rptr (c::r)): aL P cf fl (.load false 1 x) tm H=some (c,H):=by
 simp[aL,a,eA]
theorem aQo[aF]{n:Nat}{x:bB}{r:List AV}(a:aH tm x=.rptr r)(h:r.length=n): aL P cf fl (.load true n x) tm H=some (.agg r,H):=by
 simp only[aL,a,eA,h,Zf,Zz];rw[<-h,XQ]
theorem Rd[aF]{agg:Bool}{n id tot i off:Nat}{s:Nat}{x:bB}{es:List<|List AV}{e:List AV}{v:AV}(f:aH tm x=.ptr id tot i off)(g:H[id]?=some (.blk s es))(b:es.length=tot)(he:es[i]?=some e)(d:off+n<=e.length)(a:(if agg then some (.agg<|(e.drop off).take n) else match (e.drop off).take n with | [c]=>some c | _=>none)=some v): aL P cf fl (.load agg n x) tm H=some (v,H):=by
 cases agg with
 | true=>simp only[Zz,Zb] at a;simp[aL,f,eA,g,b,he,d,a]
 | false=>
  simp only[Zo,Ya] at a;simp only[aL,f,eA,g,b,he,d,Zz,Zo,Ya];split at a
  .rename_i c h;rw[h];cases a;rfl
  .cases a
theorem aEJ[aF]{off id tot i o:Nat}{x:bB}(a:aH tm x=.ptr id tot i o): aL P cf fl (.fieldAddr off x) tm H=some (.ptr id tot i<|o+off,H):=by simp only[aL,a]
theorem aEI[aF]{s id tot:Nat}{x i:bB}{es:List<|List AV}{j:Int}(c:aH tm x=.ms id tot 0 tot)(e:aH tm i=iv j)(d:H[id]?=some (.blk s es))(f:es.length=tot)(b:0<=j)(a:j.toNat<tot): aL P cf fl (.idxAddr s x i) tm H=some (.ptr id tot j.toNat 0,H):=by
 simp only[aL,c,e,aGm b,d];simp only[f,a,Xa,Zz,Z0]
theorem aQq[aF]{s bytes id:Nat}{x y:bB}{es ys:List<|List AV}(f:aH tm x=.ms id es.length 0 es.length)(i:rd H (aH tm y)=some ys)(j:H[id]?=some (.blk s es))(g:0<s)(c:eU s ys=true)(a:ys≠[])(h:fl<=id)(k:(es.length+ys.length)*bytes<=1000000000000/\es.length+ys.length<=1000000000000): aL P cf fl (.append s bytes x y) tm H=some (.ms id (es++ys).length 0 (es++ys).length,H.set id<|.blk s<|es++ys):=by
 have d:kV ys.length bytes=true:=by
  unfold kV;have:ys.length*bytes<=(es.length+ys.length)*bytes:=Zr _<|by omega
  simp;omega
 have b:kV (es.length+ys.length) bytes=true:=by unfold kV;simp;omega
 have a:ys.length≠0:=λe=>a<|ZO.1 e;simp only[aL,i,f,cO];rw[Zu ⟨c,g,d⟩];simp only[j];simp only[Wg,b,Zz,ZF a,Zu h,Zj]
theorem AO.sto[aF]{N:Nat}{l:List<|Nat×AV}{a:Io}{r:List bQ}{K:St->Prop}(h:At N l tm)(e:aL P cf fl a tm H=some (v,H'))(k:WO P cf fl r ⟨tm,H'⟩ K): WO P cf fl (⟨none,a,none⟩::r) ⟨tm,H⟩ K:=WO.op e k
theorem aU8[aF]{id tot i off s a b c d:Nat}{x y:bB}{es:List<|List AV}{e:List AV}(j:aH tm x=.ptr id tot i off)(h:aH tm y=.ms a b c d)(k:H[id]?=some (.blk s es))(l:es.length=tot)(he:es[i]?=some e)(f:off+1<=e.length)(g:fl<=id):
 aL P cf fl (.store 1 x y) tm H=some (.lit bM,H.set id<|.blk s<|es.set i<|aR e off [.ms a b c d]):=by
 simp only[aL,j,h,cellsOf,Ye,Zz,wI,g,k,l,he,f]
theorem aMv[aF]{s bytes:Nat}{x y:bB}{ys:List<|List AV}{a:AV}(b:aH tm x=a)(c:rd H (aH tm y)=some ys)(h:cO fl H s bytes a ys=some (v,H')): aL P cf fl (.append s bytes x y) tm H=some (v,H'):=by
 simp only[aL,c,b,h]
theorem aUA[aF]{x:bB}{a:Int}(b:aH tm x=iv a): aL P cf fl (.un .neg x) tm H=some (iv<|IntKind.i64.wrap<|0-a,H):=by
 have e:aN P (Op.unary .neg<|.int .i64 a)=some (.int .i64<|IntKind.i64.wrap<|0-a):=by kernel_rfl
 simp only[aL,b,e]
theorem aUB[aF]{x y:bB}{a b:Int}(c:aH tm x=iv a)(d:aH tm y=iv b): aL P cf fl (.minmax true [x,y]) tm H=some (iv<|nE a b,H):=by
 have e:=aLl (P:=P) (cf:=cf) (fl:=fl) (H:=H) (a:=a) (b:=b);simp only[aL,ZK,Yn,c,d] at e |-;exact e
theorem aQm[aF]{kt:TypeId}{z m k:bB}{ok:Bool}(h:aL P cf fl (.lookup kt z m k ok) tm H=some (v,H')): H'=H:=by
 simp only[aL] at h;repeat' split at h
 all_goals first | (cases h;rfl) | cases h
theorem aQj[dN]: ∀H:aT,Qs (List.replicate H.length .gone) H:=λH=>by
 have:∀(n:TH) (H:aT),bW (Qo n) (List.replicate H.length .gone) H:=by
  intro n H;induction H with
  | nil=>trivial
  | cons o H a=>exact⟨trivial,a⟩
 exact this _ H
theorem M0[dN][aF]{T:List cP}{vi:Nat}{ka:List Sh}{k:Nat}{F:Nat->fM ka->Option (fM<|[k].map .v)}(m:FOK P T vi ⟨ka,[k],false,F⟩){n:Nat}{p:fM ka}{r:den k}{a:AV}(e:F n p=some r)(t:∀r:den k,∃j:Int,val k r=.lit (.int .i64 j)){aw:List AV}(q:Qc [] (Nm ka p) aw):
 ∃A x,fB P T n 0 vi aw []=some (x,A)/\eY A 0 x=(match val k r with | .lit v=>.lit v | _=>.undef):=by
 let⟨d,A,i,c,h,_⟩:=m n p r e aw q;have c:=c [];match d,c with
 | [b],c=>
  refine⟨A,b,i,?_⟩;have g:Qh [] (val k r)<|dY A 0 b:=c.1;let⟨j,o⟩:=t r;rw[o] at g |-;have e:eY A 0 b=dY A 0 b:=by
   cases b with
   | tup l=>exact (h _ ZG l rfl).elim
   | _=>rfl
  rw[e,g.inL]
end
end
theorem aGH[aF]{K:Type}[DecidableEq K]{P:Program}{kt:TypeId}{b:K->Value}(he:∀k x,aN P (Op.equal kt (b k)<|b x)=some (decide<|k=x))(k:K):
 ∀(d:List K) (i:Nat),aN P (Instr.findAsking kt (b k) (d.map λx=>{ key:=b x,val:=.bool false,born:=0 }) i)=some ((d.findIdx? λx=>decide<|x=k).map λj=>(i+j,.bool false))
 | [],i=>rfl
 | x::r,i=>by
  have he:aN P (Op.equal kt (b k)<|b x)=some (decide<|x=k):=(he k x).trans<|congrArg some<|decide_eq_decide.2 ⟨λh=>h.symm,λh=>h.symm⟩;simp only[ZK,Instr.findAsking,cG,he,Z3,XG];cases decide (x=k) with
  | true=>simp[cX]
  | false=>
   simp only[Zo,Ya,aGH ‹∀k x,_› k r<|i+1];cases r.findIdx? λx=>decide (x=k) with
   | none=>rfl
   | some j=>simp;omega
theorem aWE[aF]{K:Type}(g:DecidableEq K){P:Program}{kt:TypeId}{b:K->Value}{u:TypeDesc}(l:aN P (underlying kt)=some u)(i:∀k x r,Instr.findNow u (b k) ({ key:=b x,val:=.bool false,born:=0 }::r) 0=none)(he:∀k x,aN P (Op.equal kt (b k)<|b x)=some (decide<|k=x))(p:∀e k,aN P (Instr.checkKey e 10000 kt<|b k)=some ())(q:∀k,Instr.sameBits 10000 (b k) (b k)=true): P5 P kt b where
 find:=λk m=>by
  unfold jT;simp only[Instr.findKey,cG,l,Z3,Yb,W7];cases m with
  | nil=>
   have:=aGH he k [] 0;simp only[Yn] at this |-;cases h:Instr.findNow u (b k) [] 0 with
   | none=>simp only[this];rfl
   | some j=>cases u<;>first | (cases h;rfl) | (cases h)
  | cons x r=>
   simp only[ZK,i];have:=aGH he k (x::r) 0;simp only[ZK] at this;simp only[this];cases (x::r).findIdx? λx=>decide (x=k) with
   | none=>rfl
   | some j=>simp
 chk:=p;same:=q
section
variable [dN][aF]{P:Program}{T:List cP}
theorem aIe{vi k:Nat}(b:aF.prim vi=some (oA<|Fy (cds k).length)): POK T vi<|.ins k:=
 ⟨_,b,λ_ _ _ _ _ _ _ d e a h c g=>aOF d e a c g⟩
theorem aUf{vi k:Nat}{F:List (den k)->List (den k)}(u:aF.prim vi=some (oA Ew))(f:den k->Int)(n:∀x,jL k x=[.lit<|.int .i64<|f x])(t:(cds k).length=1)(o:∀l,(F l).map f=tD (l.map f)): POK T vi<|.ord k F:=by
 refine⟨_,u,λfl H id l es j q s r=>?_⟩;have m:∀{l:List<|den k} {es:List<|List AV},Ql k l es->es=(l.map f).map cI:=by
  intro l;induction l with
  | nil=>intro es h;cases es with
   | nil=>rfl
   | cons=>exact h.elim
  | cons x l i=>
   intro es h;cases es with
   | nil=>exact h.elim
   | cons e es=>
    rw[i h.2];have g:Qr (jL k x) e:=h.1;rw[n] at g;match e,g with
    | [a],g=>rw[(Qh.p (H:=[]) _ _ g.1).inL];rfl
 have d:∀l:List<|den k,Ql k l<|(l.map f).map cI:=by
  intro l;induction l with
  | nil=>trivial
  | cons x l i=>exact⟨by show Qr (jL k x)<|cI<|f x;rw[n];exact⟨.lit _,trivial⟩,i⟩
 have c:(F l).length=l.length:=by
  have:=congrArg List.length<|o l;rw[ZR,xJ,ZR] at this;exact this
 have e:=m s;subst e;refine⟨((F l).map f).map cI,?_,d _,c⟩;rw[t] at q |-;have:=aNC (fl:=fl) (id:=id) (l:=l.map f) (H:=H) j q (by simpa using r);rw[ZR] at this;rw[this,o]
theorem aN9(l:List Int): (tD l).map (λx=>x)=tD (l.map λx=>x):=by simp
def aUK(vi ks kb:Nat)(hp:aF.prim vi=some (oA Re))(F:Nat->fM [.v ks,.v ks]->Option (fM<|[kb].map .v))(h:∀n p r,F n p=some r->∃m s t b,n=m+1/\Nm [.v ks,.v ks] p=[.lit<|.string s,.lit<|.string t]/\aAS n s t=some b/\Dy 2 [] ([kb].map .v) [.lit<|.bool b]=some r): Con P T:=
 ⟨vi,⟨[.v ks,.v ks],[kb],false,F⟩,.of0 (by
  intro n p r hr aw q
  obtain⟨m,s,t,b,rfl,h1,h2,h3⟩:=h n p r hr
  have q:Qc [] (Nm [.v ks,.v ks] p) aw:=q
  rw[h1] at q
  obtain⟨a,a',rfl⟩:∃a a',aw=[a,a']:=by
   match aw,q with
   | [a,a'],_=>exact⟨a,a',rfl⟩
  have e1:=q.1.inL
  have e2:=q.2.1.inL
  subst e1;subst e2
  have e:fB P T (m+1) 0 vi [.lit<|.string s,.lit<|.string t] []=some (.lit<|.bool b,[]):=by
   simp only[fB,hp,Re]
   simp only[aAS] at h2
   split at h2
   .rename_i hb;cases h2;simp only[hb]
   .cases h2
  exact⟨[.lit<|.bool b],[.lit<|.bool b],[],[],e,trivial,⟨Qh.l _,trivial⟩,h3,λh=>by cases h⟩) rfl⟩
def aPd(vi k ks:Nat)(hc:aQ8 T vi k)(F:Nat->fM [.w ks]->Option (fM<|[ks].map .v))(L:fM [.w ks]->List (den k))(h:∀n p r,F n p=some r->∃m,n=m+1/\Nm [.w ks] p=[.vw k<|L p]/\(L p).length<=1000000/\Dy 2 [.lst k<|L p] ([ks].map .v) [.ms 0 none]=some r/\(L p=[]->Dy 2 [] ([ks].map .v) [.emp false]=some r)): Con P T:=
 ⟨vi,⟨[.w ks],[ks],false,F⟩,.of0 (by
  intro n p r hr aw q
  obtain⟨m,rfl,h1,h2,h3,h4⟩:=h n p r hr
  have q:Qc [] (Nm [.w ks] p) aw:=q
  rw[h1] at q
  obtain⟨a,rfl⟩:∃a,aw=[a]:=by
   match aw,q with
   | [a],_=>exact⟨a,rfl⟩
  obtain⟨fid,bytes,z,hT,h0,hb⟩:=hc
  obtain⟨e1,e2,e3⟩:=aME (P:=P) (n:=m) (G:=[]) hT h0
  obtain⟨es,hk,hq⟩:=(q.1.pu trivial).inV
  have em:L p=[]->es=[]:=λe=>ZO.1<|by have:=hq.len;rw[e] at this;exact this
  cases es with
  | nil=>
   have e:L p=[]:=ZO.1 hq.len.symm
   have fin:∀v,fB P T (m+1) 0 vi [a] []=some (v,[])->(v=.lit bO\/v=.sl false [])->∃vs aw' A H,fB P T (m+1) 0 vi [a] []=some (jP aw',A)/\Qs H A/\Qc H vs aw'/\Dy 2 H ([ks].map .v) vs=some r/\(false=true->TK H vs=true):=by
    intro v hv hd
    refine⟨[.emp false],[v],[],[],hv,trivial,⟨.p _ _<|.emp _ _ ?_,trivial⟩,h4 e,λh=>by cases h⟩
    rcases hd with h | h
    .exact .inl h
    .exact .inr<|.inr ⟨rfl,h⟩
   rcases hk with⟨rfl,_⟩ | hk | hk
   .exact fin _ e1<|.inl rfl
   .exact fin _ (e2 a<|.inl hk)<|.inr rfl
   .exact fin _ (e2 a<|.inr hk)<|.inr rfl
  | cons e es=>
   have hk:(∃f,a=.sl f (e::es))\/a=.vw (e::es):=by
    rcases hk with⟨_,hk⟩ | hk
    .cases hk
    .exact hk
   have g:=e3 a e es hk (hq.all rfl)<|sS (by rw[hq.len];exact h2) hb
   refine⟨[.ms 0 none],[.ms 0 (e::es).length 0 (e::es).length],_,[.lst k<|L p],g,⟨⟨_,rfl,hq⟩,trivial⟩,⟨?_,trivial⟩,h3,λh=>by cases h⟩
   rw[hq.len]
   exact .ms 0 k (L p) rfl) rfl⟩
theorem aPg{α:Type}{n:Nat}{l a:List α}(h:clF n l=some a): ∃m,n=m+1/\a=l/\l.length<=1000000:=by
 cases n with
 | zero=>cases h
 | succ m=>
  let⟨c,b⟩:=Rs h;exact⟨m,rfl,by simpa using c,by simpa using b⟩
theorem aSn{n:Nat}{s t:ByteArray}{b:Bool}(h:aAS n s t=some b): ∃m,n=m+1:=by
 cases n with
 | zero=>cases h
 | succ m=>exact⟨m,rfl⟩
end
end
section
def PF(g:aAk): Prop:=∀cf fl m args H r H',(fl<=m/\m<=H.length)->g.run cf fl args H=some (r,H')->H'.take fl=H.take fl/\m<=H'.length
variable {H:aT}{fl m s:Nat}
theorem aHA{H':aT}(h:fl<=m/\m<=H.length)(e:H'=H): H'.take fl=H.take fl/\m<=H'.length:=by subst e;exact⟨rfl,h.2⟩
theorem aLe{i:Nat}{o:dH}(h:fl<=m/\m<=H.length)(a:fl<=i): (H.set i o).take fl=H.take fl/\m<=(H.set i o).length:=⟨X8 a,by simpa using h.2⟩
theorem aOa: PF<|oA Re:=λ_ fl m a H r H' h e=>by
 have e:Re fl a H=some (r,H'):=e;refine aHA h ?_;unfold Re at e;repeat' (first | (cases e;done) | (cases e;rfl) | split at e)
theorem aLd: PF<|oA Ew:=λ_ fl m a H r H' h e=>by
 rcases NN (show Ew fl a H=some (r,H') from e) with⟨x,_,_,_,rfl⟩ | ⟨id,l,_,_,b,_,_,_,rfl⟩
 .exact⟨rfl,h.2⟩
 .exact aLe h b
theorem k9{b:Bool}: PF<|xK b s:=λ_ _ _ _ _ _ _ h e=>Nt h e
theorem aBM: PF<|oA<|Fy s:=λ_ fl m a H r H' h e=>by
 obtain⟨_,_,_,_,_,_,b,_,_,_,_,_,_,rfl⟩:=G3 e;exact aLe h b
theorem aLc{a:Nat}: PF<|aBy a:=λ_ _ _ _ _ _ _ h e=>by
 let⟨_,_,_,_,_,_,_,_,_,e⟩:=j8 e;exact aHA h e
theorem yD{vi k:Nat}{g:aAk}{o:Option aAk}(a:PF g)(b:∀q,o=some q->PF q): ∀q,(match Nat.beq vi k with | true=>some g | false=>o)=some q->PF q:=by
 intro q h;split at h
 .cases h;exact a
 .exact b q h
theorem aRq: ∀q,(none:Option aAk)=some q->PF q:=λ_ h=>by cases h
theorem aRO[aF](h:∀vi q,aF.prim vi=some q->PF q): ∀cf,Ao cf->Ao (Lj cf):=by
 intro cf _ fl m vi b H r H' d a;unfold Lj at a;split at a
 .rename_i g c;exact h vi g c cf fl m b H r H' d a
 .cases a
end
noncomputable section
structure Aaa where
 X:Int
 Y:Int
 deriving DecidableEq
structure aZ where
 Kind:Int
 ID:Int
 A:Int
 B:Int
 C:Int
 At:Aaa
 Via:(List Aaa)
 Name:ByteArray
 Parts:(List Int)
 deriving DecidableEq
structure bD where
 Office:Int
 Seq:Int
 Time:Int
 Source:ByteArray
 Edits:(List aZ)
 deriving DecidableEq
structure bT where
 ID:Int
 Txns:(List bD)
 deriving DecidableEq
structure fV where
 first:Int
 last:Int
 script:Int
 deriving DecidableEq
structure wU where
 e0:fV
 e1:fV
 e2:fV
 e3:fV
 e4:fV
 e5:fV
 e6:fV
 e7:fV
 e8:fV
 e9:fV
 e10:fV
 e11:fV
 e12:fV
 deriving DecidableEq
structure aJW where
 X0:Int
 Y0:Int
 X1:Int
 Y1:Int
 deriving DecidableEq
structure Aac where
 e0:Int
 e1:Int
 deriving DecidableEq
structure nZ where
 Counts:(List Int)
 deriving DecidableEq
structure Aab where
 ID:Int
 At:Aaa
 deriving DecidableEq
structure aO where
 ID:Int
 From:Int
 To:Int
 Via:(List Aaa)
 Left:Int
 Right:Int
 deriving DecidableEq
structure aG where
 ID:Int
 Kind:Int
 Class:Int
 Name:ByteArray
 Parts:(List Int)
 deriving DecidableEq
structure aM where
 Nodes:(List Aab)
 Arcs:(List aO)
 Faces:(List Int)
 deriving DecidableEq
structure aJ where
 Plan:aM
 Features:(List aG)
 deriving DecidableEq
structure aBk where
 Arc:aO
 path:(List Aaa)
 deriving DecidableEq
structure aY where
 line:aBk
 at_:Int
 deriving DecidableEq
structure Kv where
 twice:Int
 outer:(List Int)
 inner:Unit
 alone:Unit
 deriving DecidableEq
structure dO where
 twice:Int
 outer:(List Int)
 inner:(List (List Int))
 alone:(List Int)
 deriving DecidableEq
structure dR where
 Face:Int
 Outer:(List Int)
 Inner:(List (List Int))
 Alone:(List Int)
 deriving DecidableEq
structure dE where
 Survey:aJ
 Txns:(List bD)
 deriving DecidableEq
abbrev aRH: Nat->Type
 | 0=>Aaa
 | 1=>Int
 | 2=>aZ
 | 3=>(List aZ)
 | 4=>Bool
 | 5=>bD
 | 6=>(List bD)
 | 7=>bT
 | 8=>Int
 | 9=>wU
 | 10=>fV
 | 11=>ByteArray
 | 12=>(List Int)
 | 13=>aJW
 | 14=>(List Aaa)
 | 15=>Aac
 | 16=>(List (Aac×Bool))
 | 17=>nZ
 | 18=>Aab
 | 19=>(List Aab)
 | 20=>aO
 | 21=>(List aO)
 | 22=>aG
 | 23=>(List aG)
 | 24=>aJ
 | 25=>aM
 | 26=>(List (List Aaa))
 | 27=>aBk
 | 28=>aY
 | 29=>aBk
 | 30=>(List aY)
 | 31=>(List (Int×Aaa))
 | 32=>(List (Int×Int))
 | 33=>(List (Int×Bool))
 | 34=>(List (List Int))
 | 35=>(List (Int×(List Aaa)))
 | 36=>Kv
 | 37=>(List Kv)
 | 38=>dO
 | 39=>(List dO)
 | 40=>dR
 | 41=>(List dR)
 | 42=>dE
 | _=>Unit
abbrev aRI: Nat->List Cd
 | 0=>[.int .i64,.int .i64]
 | 1=>[.int .i64]
 | 2=>[.int .i64,.int .i64,.int .i64,.int .i64,.int .i64,.int .i64,.int .i64,.sl 0,.str,.sl 1]
 | 3=>[.sl 2]
 | 4=>[.bool]
 | 5=>[.int .i64,.int .i64,.int .i64,.str,.sl 2]
 | 6=>[.sl 5]
 | 7=>[.int .i64,.sl 5]
 | 8=>[.int .i32]
 | 9=>[.int .i32,.int .i32,.int .i64,.int .i32,.int .i32,.int .i64,.int .i32,.int .i32,.int .i64,.int .i32,.int .i32,.int .i64,.int .i32,.int .i32,.int .i64,.int .i32,.int .i32,.int .i64,.int .i32,.int .i32,.int .i64,.int .i32,.int .i32,.int .i64,.int .i32,.int .i32,.int .i64,.int .i32,.int .i32,.int .i64,.int .i32,.int .i32,.int .i64,.int .i32,.int .i32,.int .i64,.int .i32,.int .i32,.int .i64]
 | 10=>[.int .i32,.int .i32,.int .i64]
 | 11=>[.str]
 | 12=>[.sl 1]
 | 13=>[.int .i64,.int .i64,.int .i64,.int .i64]
 | 14=>[.sl 0]
 | 15=>[.int .i64,.int .i64]
 | 16=>[.mp 15 4]
 | 17=>[.sl 1]
 | 18=>[.int .i64,.int .i64,.int .i64]
 | 19=>[.sl 18]
 | 20=>[.int .i64,.int .i64,.int .i64,.sl 0,.int .i64,.int .i64]
 | 21=>[.sl 20]
 | 22=>[.int .i64,.int .i64,.int .i64,.str,.sl 1]
 | 23=>[.sl 22]
 | 24=>[.sl 18,.sl 20,.sl 1,.sl 22]
 | 25=>[.sl 18,.sl 20,.sl 1]
 | 26=>[.sl 14]
 | 27=>[.int .i64,.int .i64,.int .i64,.sl 0,.int .i64,.int .i64,.sl 0]
 | 28=>[.sptr 27,.int .i64]
 | 29=>[.sptr 27]
 | 30=>[.sl 28]
 | 31=>[.mp 1 0]
 | 32=>[.mp 1 1]
 | 33=>[.mp 1 4]
 | 34=>[.sl 12]
 | 35=>[.mp 1 14]
 | 36=>[.int .i64,.sl 1,.any,.any]
 | 37=>[.sl 36]
 | 38=>[.int .i64,.sl 1,.sl 12,.sl 1]
 | 39=>[.sl 38]
 | 40=>[.int .i64,.sl 1,.sl 12,.sl 1]
 | 41=>[.sl 40]
 | 42=>[.sl 18,.sl 20,.sl 1,.sl 22,.sl 5]
 | _=>[]
abbrev kAg: Nat->Bool
 | 0=>true
 | 2=>true
 | 5=>true
 | 7=>true
 | 9=>true
 | 10=>true
 | 13=>true
 | 15=>true
 | 17=>true
 | 18=>true
 | 20=>true
 | 22=>true
 | 24=>true
 | 25=>true
 | 27=>true
 | 28=>true
 | 36=>true
 | 38=>true
 | 40=>true
 | 42=>true
 | _=>false
instance iD: iW:=⟨aRH,aRI,kAg⟩
def kPk: ∀k,SQ (aRI k)->aRH k
 | 0,p=>⟨p.1,p.2.1⟩
 | 1,p=>p.1
 | 2,p=>⟨p.1,p.2.1,p.2.2.1,p.2.2.2.1,p.2.2.2.2.1,⟨p.2.2.2.2.2.1,p.2.2.2.2.2.2.1⟩,p.2.2.2.2.2.2.2.1,p.2.2.2.2.2.2.2.2.1,p.2.2.2.2.2.2.2.2.2.1⟩
 | 3,p=>p.1
 | 4,p=>p.1
 | 5,p=>⟨p.1,p.2.1,p.2.2.1,p.2.2.2.1,p.2.2.2.2.1⟩
 | 6,p=>p.1
 | 7,p=>⟨p.1,p.2.1⟩
 | 8,p=>p.1
 | 9,p=>⟨⟨p.1,p.2.1,p.2.2.1⟩,⟨p.2.2.2.1,p.2.2.2.2.1,p.2.2.2.2.2.1⟩,⟨p.2.2.2.2.2.2.1,p.2.2.2.2.2.2.2.1,p.2.2.2.2.2.2.2.2.1⟩,⟨p.2.2.2.2.2.2.2.2.2.1,p.2.2.2.2.2.2.2.2.2.2.1,p.2.2.2.2.2.2.2.2.2.2.2.1⟩,⟨p.2.2.2.2.2.2.2.2.2.2.2.2.1,p.2.2.2.2.2.2.2.2.2.2.2.2.2.1,p.2.2.2.2.2.2.2.2.2.2.2.2.2.2.1⟩,⟨p.2.2.2.2.2.2.2.2.2.2.2.2.2.2.2.1,p.2.2.2.2.2.2.2.2.2.2.2.2.2.2.2.2.1,p.2.2.2.2.2.2.2.2.2.2.2.2.2.2.2.2.2.1⟩,⟨p.2.2.2.2.2.2.2.2.2.2.2.2.2.2.2.2.2.2.1,p.2.2.2.2.2.2.2.2.2.2.2.2.2.2.2.2.2.2.2.1,p.2.2.2.2.2.2.2.2.2.2.2.2.2.2.2.2.2.2.2.2.1⟩,⟨p.2.2.2.2.2.2.2.2.2.2.2.2.2.2.2.2.2.2.2.2.2.1,p.2.2.2.2.2.2.2.2.2.2.2.2.2.2.2.2.2.2.2.2.2.2.1,p.2.2.2.2.2.2.2.2.2.2.2.2.2.2.2.2.2.2.2.2.2.2.2.1⟩,⟨p.2.2.2.2.2.2.2.2.2.2.2.2.2.2.2.2.2.2.2.2.2.2.2.2.1,p.2.2.2.2.2.2.2.2.2.2.2.2.2.2.2.2.2.2.2.2.2.2.2.2.2.1,p.2.2.2.2.2.2.2.2.2.2.2.2.2.2.2.2.2.2.2.2.2.2.2.2.2.2.1⟩,⟨p.2.2.2.2.2.2.2.2.2.2.2.2.2.2.2.2.2.2.2.2.2.2.2.2.2.2.2.1,p.2.2.2.2.2.2.2.2.2.2.2.2.2.2.2.2.2.2.2.2.2.2.2.2.2.2.2.2.1,p.2.2.2.2.2.2.2.2.2.2.2.2.2.2.2.2.2.2.2.2.2.2.2.2.2.2.2.2.2.1⟩,⟨p.2.2.2.2.2.2.2.2.2.2.2.2.2.2.2.2.2.2.2.2.2.2.2.2.2.2.2.2.2.2.1,p.2.2.2.2.2.2.2.2.2.2.2.2.2.2.2.2.2.2.2.2.2.2.2.2.2.2.2.2.2.2.2.1,p.2.2.2.2.2.2.2.2.2.2.2.2.2.2.2.2.2.2.2.2.2.2.2.2.2.2.2.2.2.2.2.2.1⟩,⟨p.2.2.2.2.2.2.2.2.2.2.2.2.2.2.2.2.2.2.2.2.2.2.2.2.2.2.2.2.2.2.2.2.2.1,p.2.2.2.2.2.2.2.2.2.2.2.2.2.2.2.2.2.2.2.2.2.2.2.2.2.2.2.2.2.2.2.2.2.2.1,p.2.2.2.2.2.2.2.2.2.2.2.2.2.2.2.2.2.2.2.2.2.2.2.2.2.2.2.2.2.2.2.2.2.2.2.1⟩,⟨p.2.2.2.2.2.2.2.2.2.2.2.2.2.2.2.2.2.2.2.2.2.2.2.2.2.2.2.2.2.2.2.2.2.2.2.2.1,p.2.2.2.2.2.2.2.2.2.2.2.2.2.2.2.2.2.2.2.2.2.2.2.2.2.2.2.2.2.2.2.2.2.2.2.2.2.1,p.2.2.2.2.2.2.2.2.2.2.2.2.2.2.2.2.2.2.2.2.2.2.2.2.2.2.2.2.2.2.2.2.2.2.2.2.2.2.1⟩⟩
 | 10,p=>⟨p.1,p.2.1,p.2.2.1⟩
 | 11,p=>p.1
 | 12,p=>p.1
 | 13,p=>⟨p.1,p.2.1,p.2.2.1,p.2.2.2.1⟩
 | 14,p=>p.1
 | 15,p=>⟨p.1,p.2.1⟩
 | 16,p=>p.1
 | 17,p=>⟨p.1⟩
 | 18,p=>⟨p.1,⟨p.2.1,p.2.2.1⟩⟩
 | 19,p=>p.1
 | 20,p=>⟨p.1,p.2.1,p.2.2.1,p.2.2.2.1,p.2.2.2.2.1,p.2.2.2.2.2.1⟩
 | 21,p=>p.1
 | 22,p=>⟨p.1,p.2.1,p.2.2.1,p.2.2.2.1,p.2.2.2.2.1⟩
 | 23,p=>p.1
 | 24,p=>⟨⟨p.1,p.2.1,p.2.2.1⟩,p.2.2.2.1⟩
 | 25,p=>⟨p.1,p.2.1,p.2.2.1⟩
 | 26,p=>p.1
 | 27,p=>⟨⟨p.1,p.2.1,p.2.2.1,p.2.2.2.1,p.2.2.2.2.1,p.2.2.2.2.2.1⟩,p.2.2.2.2.2.2.1⟩
 | 28,p=>⟨p.1,p.2.1⟩
 | 29,p=>p.1
 | 30,p=>p.1
 | 31,p=>p.1
 | 32,p=>p.1
 | 33,p=>p.1
 | 34,p=>p.1
 | 35,p=>p.1
 | 36,p=>⟨p.1,p.2.1,p.2.2.1,p.2.2.2.1⟩
 | 37,p=>p.1
 | 38,p=>⟨p.1,p.2.1,p.2.2.1,p.2.2.2.1⟩
 | 39,p=>p.1
 | 40,p=>⟨p.1,p.2.1,p.2.2.1,p.2.2.2.1⟩
 | 41,p=>p.1
 | 42,p=>⟨⟨⟨p.1,p.2.1,p.2.2.1⟩,p.2.2.2.1⟩,p.2.2.2.2.1⟩
 | _+43,_=>()
def kUn: ∀k,aRH k->SQ (aRI k)
 | 0,x=>(x.X,x.Y,())
 | 1,x=>(x,())
 | 2,x=>(x.Kind,x.ID,x.A,x.B,x.C,x.At.X,x.At.Y,x.Via,x.Name,x.Parts,())
 | 3,x=>(x,())
 | 4,x=>(x,())
 | 5,x=>(x.Office,x.Seq,x.Time,x.Source,x.Edits,())
 | 6,x=>(x,())
 | 7,x=>(x.ID,x.Txns,())
 | 8,x=>(x,())
 | 9,x=>(x.e0.first,x.e0.last,x.e0.script,x.e1.first,x.e1.last,x.e1.script,x.e2.first,x.e2.last,x.e2.script,x.e3.first,x.e3.last,x.e3.script,x.e4.first,x.e4.last,x.e4.script,x.e5.first,x.e5.last,x.e5.script,x.e6.first,x.e6.last,x.e6.script,x.e7.first,x.e7.last,x.e7.script,x.e8.first,x.e8.last,x.e8.script,x.e9.first,x.e9.last,x.e9.script,x.e10.first,x.e10.last,x.e10.script,x.e11.first,x.e11.last,x.e11.script,x.e12.first,x.e12.last,x.e12.script,())
 | 10,x=>(x.first,x.last,x.script,())
 | 11,x=>(x,())
 | 12,x=>(x,())
 | 13,x=>(x.X0,x.Y0,x.X1,x.Y1,())
 | 14,x=>(x,())
 | 15,x=>(x.e0,x.e1,())
 | 16,x=>(x,())
 | 17,x=>(x.Counts,())
 | 18,x=>(x.ID,x.At.X,x.At.Y,())
 | 19,x=>(x,())
 | 20,x=>(x.ID,x.From,x.To,x.Via,x.Left,x.Right,())
 | 21,x=>(x,())
 | 22,x=>(x.ID,x.Kind,x.Class,x.Name,x.Parts,())
 | 23,x=>(x,())
 | 24,x=>(x.Plan.Nodes,x.Plan.Arcs,x.Plan.Faces,x.Features,())
 | 25,x=>(x.Nodes,x.Arcs,x.Faces,())
 | 26,x=>(x,())
 | 27,x=>(x.Arc.ID,x.Arc.From,x.Arc.To,x.Arc.Via,x.Arc.Left,x.Arc.Right,x.path,())
 | 28,x=>(x.line,x.at_,())
 | 29,x=>(x,())
 | 30,x=>(x,())
 | 31,x=>(x,())
 | 32,x=>(x,())
 | 33,x=>(x,())
 | 34,x=>(x,())
 | 35,x=>(x,())
 | 36,x=>(x.twice,x.outer,x.inner,x.alone,())
 | 37,x=>(x,())
 | 38,x=>(x.twice,x.outer,x.inner,x.alone,())
 | 39,x=>(x,())
 | 40,x=>(x.Face,x.Outer,x.Inner,x.Alone,())
 | 41,x=>(x,())
 | 42,x=>(x.Survey.Plan.Nodes,x.Survey.Plan.Arcs,x.Survey.Plan.Faces,x.Survey.Features,x.Txns,())
 | _+43,_=>()
theorem kUP: ∀k p,kUn k (kPk k p)=p
 | 0,p=>rfl
 | 1,p=>rfl
 | 2,p=>rfl
 | 3,p=>rfl
 | 4,p=>rfl
 | 5,p=>rfl
 | 6,p=>rfl
 | 7,p=>rfl
 | 8,p=>rfl
 | 9,p=>rfl
 | 10,p=>rfl
 | 11,p=>rfl
 | 12,p=>rfl
 | 13,p=>rfl
 | 14,p=>rfl
 | 15,p=>rfl
 | 16,p=>rfl
 | 17,p=>rfl
 | 18,p=>rfl
 | 19,p=>rfl
 | 20,p=>rfl
 | 21,p=>rfl
 | 22,p=>rfl
 | 23,p=>rfl
 | 24,p=>rfl
 | 25,p=>rfl
 | 26,p=>rfl
 | 27,p=>rfl
 | 28,p=>rfl
 | 29,p=>rfl
 | 30,p=>rfl
 | 31,p=>rfl
 | 32,p=>rfl
 | 33,p=>rfl
 | 34,p=>rfl
 | 35,p=>rfl
 | 36,p=>rfl
 | 37,p=>rfl
 | 38,p=>rfl
 | 39,p=>rfl
 | 40,p=>rfl
 | 41,p=>rfl
 | 42,p=>rfl
 | _+43,_=>rfl
instance iR: dN:=⟨kPk,kUn,kUP⟩
open iW (den)
theorem rZ(a b:Int): aN PP (Op.equalIn 9999 3 (.int .i64 a) (.int .i64 b))=some (a==b):=by kernel_rfl
theorem aC8(a0 b0 a1 b1:Int): aN PP (Op.equalIn 10000 61 (.agg #[.int .i64 a0,.int .i64 a1]) (.agg #[.int .i64 b0,.int .i64 b1]))=some (a0==b0&&a1==b1):=by
 have p0:∀x0 x1:Value,aN PP (part 3 #[x0,x1] 0)=some x0:=by intro x0 x1;kernel_rfl
 have p1:∀x0 x1:Value,aN PP (part 3 #[x0,x1] 1)=some x1:=by intro x0 x1;kernel_rfl
 have h1:aN PP (underlying 61)=some (.struct #[{ name:= "X",type:=3,offset:=0,embedded:=false,tag:= "",pkgPath:= "",byteOffset:=0 },{ name:= "Y",type:=3,offset:=1,embedded:=false,tag:= "",pkgPath:= "",byteOffset:=8 }]):=by kernel_rfl
 have h5:aN PP program=some PP:=rfl
 have h6:Program.stoodInHeld PP 61=false:=by kernel_rfl
 have n0:¬("X"= "_"):=by decide
 have n1:¬("Y"= "_"):=by decide
 rw[Op.equalIn]
 simp only[cG,h1,Z3,h5,h6,Zo,Ya,Wd,XV,X3,n0,n1,Wx,Y9,Zz,p0,p1,rZ,cX]
 cases e0:(a0==b0)
 .rfl
 simp only[Xj,Zo,Ya,cX,Z3,cG,p0,p1,rZ,n0,n1,Wx,Y9,Zz]
 cases e1:(a1==b1)<;>rfl
theorem aRW(x y:Aaa): decide (x=y)=(x.X==y.X&&x.Y==y.Y):=by
 rw[XX]
 simp only[Z6,Ze,ZD]
 constructor
 .rintro rfl;simp
 .obtain⟨_,_⟩:=x;obtain⟨_,_⟩:=y;simp only[Aaa.mk.injEq];intro h;simp only[h,Xa]
theorem I9(a b:Int): aN PP (Op.equalIn 9998 3 (.int .i64 a) (.int .i64 b))=some (a==b):=by kernel_rfl
theorem TY(a0 b0 a1 b1:Int): aN PP (Op.equalIn 9999 61 (.agg #[.int .i64 a0,.int .i64 a1]) (.agg #[.int .i64 b0,.int .i64 b1]))=some (a0==b0&&a1==b1):=by
 have p0:∀x0 x1:Value,aN PP (part 3 #[x0,x1] 0)=some x0:=by intro x0 x1;kernel_rfl
 have p1:∀x0 x1:Value,aN PP (part 3 #[x0,x1] 1)=some x1:=by intro x0 x1;kernel_rfl
 have h1:aN PP (underlying 61)=some (.struct #[{ name:= "X",type:=3,offset:=0,embedded:=false,tag:= "",pkgPath:= "",byteOffset:=0 },{ name:= "Y",type:=3,offset:=1,embedded:=false,tag:= "",pkgPath:= "",byteOffset:=8 }]):=by kernel_rfl
 have h5:aN PP program=some PP:=rfl
 have h6:Program.stoodInHeld PP 61=false:=by kernel_rfl
 have n0:¬("X"= "_"):=by decide
 have n1:¬("Y"= "_"):=by decide
 rw[Op.equalIn]
 simp only[cG,h1,Z3,h5,h6,Zo,Ya,Wd,XV,X3,n0,n1,Wx,Y9,Zz,p0,p1,I9,cX]
 cases e0:(a0==b0)
 .rfl
 simp only[Xj,Zo,Ya,cX,Z3,cG,p0,p1,I9,n0,n1,Wx,Y9,Zz]
 cases e1:(a1==b1)<;>rfl
theorem aC7(a0 b0 a1 b1 a2 b2:Int): aN PP (Op.equalIn 10000 63 (.agg #[.int .i64 a0,.int .i64 a1,.int .i64 a2]) (.agg #[.int .i64 b0,.int .i64 b1,.int .i64 b2]))=some (a0==b0&&(a1==b1&&a2==b2)):=by
 have p0:∀x0 x1 x2:Value,aN PP (part 3 #[x0,x1,x2] 0)=some x0:=by intro x0 x1 x2;kernel_rfl
 have p1:∀x0 x1 x2:Value,aN PP (part 61 #[x0,x1,x2] 1)=some (.agg #[x1,x2]):=by intro x0 x1 x2;kernel_rfl
 have h1:aN PP (underlying 63)=some (.struct #[{ name:= "ID",type:=3,offset:=0,embedded:=false,tag:= "",pkgPath:= "",byteOffset:=0 },{ name:= "At",type:=61,offset:=1,embedded:=false,tag:= "",pkgPath:= "",byteOffset:=8 }]):=by kernel_rfl
 have h5:aN PP program=some PP:=rfl
 have h6:Program.stoodInHeld PP 63=false:=by kernel_rfl
 have n0:¬("ID"= "_"):=by decide
 have n1:¬("At"= "_"):=by decide
 rw[Op.equalIn]
 simp only[cG,h1,Z3,h5,h6,Zo,Ya,Wd,XV,X3,n0,n1,Wx,Y9,Zz,p0,p1,rZ,TY,cX]
 cases e0:(a0==b0)
 .rfl
 simp only[Xj,Zo,Ya,cX,Z3,cG,p0,p1,rZ,TY,n0,n1,Wx,Y9,Zz]
 cases e1:(a1==b1&&a2==b2)<;>rfl
theorem aRV(x y:Aab): decide (x=y)=(x.ID==y.ID&&(x.At.X==y.At.X&&x.At.Y==y.At.Y)):=by
 rw[XX]
 simp only[Z6,Ze,ZD]
 constructor
 .rintro rfl;simp
 .obtain⟨_,⟨_,_⟩⟩:=x;obtain⟨_,⟨_,_⟩⟩:=y;simp only[Aab.mk.injEq,Aaa.mk.injEq];intro h;simp only[h,Xa]
theorem aC6(a0 b0 a1 b1:Int): aN PP (Op.equalIn 10000 83 (.agg #[.int .i64 a0,.int .i64 a1]) (.agg #[.int .i64 b0,.int .i64 b1]))=some (a0==b0&&a1==b1):=by
 have h1:aN PP (underlying 83)=some (.array 2 3):=by kernel_rfl
 have h2:aN PP (sizeOf 3)=some 1:=by kernel_rfl
 have h3:∀x y:Value,aN PP (part 3 #[x,y] 0)=some x:=by intro x y;kernel_rfl
 have h4:∀x y:Value,aN PP (part 3 #[x,y] 1)=some y:=by intro x y;kernel_rfl
 rw[Op.equalIn]
 simp only[cG,h1,Z3,h2,Std.Legacy.Range.forIn_eq_forIn_range',Std.Legacy.Range.size,WB,Nat.add_one_sub_one,WP,List.range',XV,X3,YT,Z0,Yw,h3,h4,rZ,cX]
 cases h7:(a0==b0)
 .rfl
 .simp only[Xj,Zo,Ya,cX,Z3,cG,h3,h4,rZ,Zz]
  cases h8:(a1==b1)<;>rfl
theorem aRU(x y:Aac): decide (x=y)=(x.e0==y.e0&&x.e1==y.e1):=by
 rw[XX]
 simp only[Z6,Ze,ZD]
 constructor
 .rintro rfl;simp
 .obtain⟨_,_⟩:=x;obtain⟨_,_⟩:=y;simp only[Aac.mk.injEq];intro h;simp only[h,Xa]
theorem gfo: ∀cf,Ao cf->Ao (Lj cf):=aRO λvi=>(yD aLc (yD aBM (yD aBM (yD aBM (yD aBM (yD aOa (yD k9 (yD k9 (yD k9 (yD k9 (yD aLd aRq)))))))))))
instance gG: GlC PP T:=⟨⟨[⟨61,⟨⟨0,λa b=>instDecidableEqAaa a b⟩,aIq rfl rfl _ (λx y=>⟨by kernel_rfl,by kernel_rfl⟩) (λx y=>(aC8 x.X y.X x.Y y.Y).trans (congrArg some (aRW x y).symm))⟩⟩,⟨4,⟨⟨4,λa b=>instDecidableEqBool a b⟩,aRX rfl (λx=>x) (λx=>rfl) (λcf fl H x y=>by cases (x:Bool)<;>cases (y:Bool)<;>exact⟨by kernel_rfl,by kernel_rfl⟩)⟩⟩,⟨63,⟨⟨18,λa b=>instDecidableEqAab a b⟩,aIq rfl rfl _ (λx y=>⟨by kernel_rfl,by kernel_rfl⟩) (λx y=>(aC7 x.ID y.ID x.At.X y.At.X x.At.Y y.At.Y).trans (congrArg some (aRV x y).symm))⟩⟩],[⟨83,⟨⟨15,λa b=>instDecidableEqAac a b⟩,rfl,aWE (λa b=>instDecidableEqAac a b) (u:=.array 2 3) (by kernel_rfl) (λk x r=>rfl) (λx y=>(aC6 x.e0 y.e0 x.e1 y.e1).trans (congrArg some (aRU x y).symm)) (λe k=>by kernel_rfl) (λk=>by show Instr.sameBits 10000 (.agg #[.int .i64 k.e0,.int .i64 k.e1]) (.agg #[.int .i64 k.e0,.int .i64 k.e1])=true;simp[Instr.sameBits])⟩⟩,⟨3,⟨⟨1,(inferInstance:DecidableEq Int)⟩,rfl,aO7 (by kernel_rfl)⟩⟩],[⟨9,⟨by kernel_rfl,λs=>by kernel_rfl⟩⟩],[⟨(3,21),⟨.i32,λj a=>by kernel_rfl⟩⟩,⟨(3,112),⟨.u64,λj a=>by kernel_rfl⟩⟩,⟨(21,3),⟨.i64,λj a=>by kernel_rfl⟩⟩,⟨(112,3),⟨.i64,λj a=>by kernel_rfl⟩⟩],[⟨39,⟨.cln 2,⟨_,_,_,rfl,by decide,by decide⟩⟩⟩,⟨52,⟨.ins 5,aIe rfl⟩⟩,⟨112,⟨.ins 18,aIe rfl⟩⟩,⟨122,⟨.ins 22,aIe rfl⟩⟩,⟨135,⟨.ins 20,aIe rfl⟩⟩,⟨149,⟨.ord 1 tD,aUf rfl (λx=>x) (λx=>rfl) rfl aN9⟩⟩,⟨166,⟨.srt 38,rfl⟩⟩,⟨168,⟨.srt 40,rfl⟩⟩,⟨174,⟨.srt 1,rfl⟩⟩,⟨181,⟨.srt 28,rfl⟩⟩],gfo⟩⟩
abbrev Lc(vi fl j:Nat):=LC PP T (Q3 T vi).nt fl (lpA (Q3 T vi).body j)
abbrev Ic:=IC PP T
abbrev Kn:=Con PP T
abbrev C0: List Kn:=[]
end
section
open Go.Proofs
open Go.ChangeMaps (setBlock)
open iW (den cds ag)
structure AY(r:Option Nat)(w w':World): Prop where
 os:w'.os=w.os
 tape:w'.tape=w.tape
 output:w'.output=w.output
 drawn:w.drawn<=w'.drawn
 size:w.heap.size<=w'.heap.size
 frame:∀k,k<w.heap.size->some k≠r->w'.heap[k]?=w.heap[k]?
theorem AY.trans{r:Option Nat}{a b c:World}(h:AY r a b)(k:AY r b c): AY r a c:=
 ⟨k.os.trans h.os,k.tape.trans h.tape,k.output.trans h.output,ZB h.drawn k.drawn,ZB h.size k.size,λi e d=>(k.frame i (YO e h.size) d).trans<|h.frame i e d⟩
theorem AY.refl(r:Option Nat)(a:World): AY r a a:=⟨rfl,rfl,rfl,Zf _,Zf _,λ_ _ _=>rfl⟩
theorem AY.of{r:Option Nat}{a b:World}(h:AY none a b): AY r a b:=⟨h.os,h.tape,h.output,h.drawn,h.size,λk c _=>h.frame k c<|by simp⟩
theorem AY.out{r:Nat}{a b w:World}(h:AY (some r) a b)(c:AY none w a)(e:w.heap.size<=r): AY none w b:=
 ⟨h.os.trans c.os,h.tape.trans c.tape,h.output.trans c.output,ZB c.drawn h.drawn,ZB c.size h.size,λk d _=>(h.frame k (YO d c.size)<|by simp;omega).trans<|c.frame k d<|by simp⟩
theorem pZ{fl:Nat}{c c':dC}(h:bV fl c c')(b:∀id,c.β id=none): AY none c.w c'.w:=
 ⟨h.os,h.tape,h.output,h.drawn,h.size,λk d _=>h.frame k d λid a=>by rw[b id] at a;cases a⟩
theorem gW{w:World}{k:Nat}{o:Obj}(h:w.heap[k]?=some o): k<w.heap.size:=by
 rcases ZI k w.heap.size with a | a
 .exact a
 .rw[Yc a] at h;cases h
theorem SH(w:World)(o:Obj): AY none w<|w.alloc o:=
 ⟨rfl,rfl,rfl,Zf _,by show _<=(w.heap.push o).size;rw[Xx];exact Ys _,λk a _=>by show (w.heap.push o)[k]?=_;rw[ZW,ZF<|by omega]⟩
def sL: Code->Code
 | .seq a _=>a
 | c=>c
def sR: Code->Code
 | .seq _ b=>b
 | c=>c
def eZ: Code->Array Oper
 | .region _ ops _=>ops
 | _=>#[]
def inB: Code->Code
 | .block _ c=>c
 | .loop c=>c
 | c=>c
def iA(c:Code)(i:Nat): Oper:=match (eZ c)[i]? with
 | some o=>o
 | none=>default
noncomputable def sB: Code:=match Tryz.f112.body with
 | some c=>c
 | none=>.skip
noncomputable def Rg0: Code:=sL sB
noncomputable def Rg1: Code:=sL (sR sB)
noncomputable def Rg2: Code:=sL (sL (sR (sR sB)))
noncomputable def BD: Code:=inB (inB (sR (sL (sR (sR sB)))))
noncomputable def RgE: Code:=sL (sR (sR (sR sB)))
noncomputable def Rg3: Code:=sL BD
noncomputable def B4: Code:=inB (sR (sR BD))
noncomputable def V8: Code:=sL B4
noncomputable def Rg5: Code:=sL (sR B4)
noncomputable def Rg6: Code:=match sR (sR B4) with
 | .cond _ a _=>sL a
 | c=>c
theorem aT9: Tryz.f112.body=some (.seq (.region 0 (eZ Rg0) false)<|.seq (.region 1 (eZ Rg1) false)<|.seq (.seq (.region 2 (eZ Rg2) false)<|.block 0<|.loop BD)<|.seq (.region 7 (eZ RgE) false) .ret):=by kernel_rfl
theorem aQC: BD=.seq (.region 3 (eZ Rg3) false) (.seq (.cond (.tmp 16) .skip<|.exit 0)<|.block 1<|.seq (.region 4 (eZ V8) false)<|.seq (.region 5 (eZ Rg5) false)<|.cond (.tmp 29) (.seq (.region 6 (eZ Rg6) false) .ret) .skip):=by kernel_rfl
abbrev UV: AV:=.lit bM
theorem MV{P:Program}{ops:Array Oper}{Q:Exit->Act->World->Prop}{i:Nat}{K:Act->World->Prop}{a:Act}{w w':World}{o:Oper}{v:Value}(c:ops[i]?=some o)(e:o.guard=none)(f:(execOp a.eval o).run P w=.ok (.value v) w')(d:K (a.put o.dst v) w'): wpOp P ops Q i K a w:=by
 unfold wpOp;rw[c];simp only[Region.wanted,e,Zz];left;unfold Oper.wp;rw[f];exact d
theorem aNx{FT:Nat->Option Nat}{c:dC}{b:List AV}{vs:Array Value}(n:Nat)(a:lD FT c b vs): TR FT c (b++List.replicate (n-b.length) UV)<|vs++Array.replicate (n-vs.size) undef:=by
 refine⟨by simp[a.1],λt x d=>?_⟩;rw[Yl] at d;rw[XZ,a.1];split at d
 .rename_i e;rw[Zu e];exact a.2 t x d
 .rename_i e;rw[ZF e];rw[XR] at d;split at d
  .rename_i f;cases d;refine⟨undef,?_,RV.lit _⟩;rw[XP,Zu f]
  .cases d
theorem v7{FT:Nat->Option Nat}{c:dC}{tm:List AV}{a:Act}{t:Nat}{v:Value}(h:TR FT c tm a.tmps)(d:tm[t]?=some (.lit v)): a.eval (.tmp t)=v:=by
 let⟨u,b,e⟩:=h.2 t _ d;rw[e.lit_inv] at b;simp[Act.eval,Yg,b]
theorem Ji{FT:Nat->Option Nat}{c:dC}(l:List Value): RV FT c (.tup<|l.map .lit)<|.tuple l.toArray:=by
 refine .tup _ _ (λi=>(l[i]?).getD bM) (by simp) ?_ ?_
 .intro i x a;rw[Zm,Zq] at a;obtain⟨v,b,rfl⟩:=a;simp[b]
 .intro i x a;rw[Zm,Zq] at a;obtain⟨v,b,rfl⟩:=a;show RV FT c (.lit v)<|(l[i]?).getD bM;rw[b];exact RV.lit _
theorem aEr: ∀{a:List<|Value×AV} {l:List<|Int×Int},aAJ a=some l->a=l.map λe=>(Value.int .i64 e.1,AV.lit<|.int .i64 e.2)
 | [],l,h=>by cases h;rfl
 | (k,v)::r,l,h=>by
  unfold aAJ at h;repeat' split at h;all_goals first | (cases h;done) | skip
  rename_i b _ _ _ _ c _ _ d;cases h;have b:k=_:=b;have c:v=_:=c;subst b c;rw[aEr d];rfl
theorem QD{x:AV}{l:List<|Int×Int}(h:Fx x=some l): (x=.lit (.map none)/\l=[])\/x=.rmp (l.map λe=>(Value.int .i64 e.1,AV.lit<|.int .i64 e.2)):=by
 unfold Fx at h;split at h
 .rw[aEr h];exact .inr rfl
 .repeat' split at h;all_goals first | (cases h;done) | skip
  cases h;exact .inl ⟨rfl,rfl⟩
 .cases h
theorem aOB{x:AV}{l:List<|Int×Int}(h:Fx x=some l): Qp (.rmp 1 1 l) x:=by
 have b:Qm (kk:=1) 1 l<|l.map λe=>[AV.lit<|.int .i64 e.2]:=by
  have:∀l:List<|Int×Int,Qm (kk:=1) 1 l<|l.map λe=>[AV.lit<|.int .i64 e.2]:=by
   intro l;induction l with
   | nil=>trivial
   | cons e l a=>exact⟨⟨.lit _,trivial⟩,a⟩
  exact this l
 rcases QD h with⟨rfl,rfl⟩ | rfl
 .exact Qp.mkM (rows:=[]) (.inl ⟨rfl,rfl⟩) trivial
 .refine Qp.mkM (.inr ?_) b;congr 1;have:∀l:List<|Int×Int,(l.map λe=>(Value.int .i64 e.1,AV.lit<|.int .i64 e.2))=fT (kk:=1) 1 l (l.map λe=>[AV.lit<|.int .i64 e.2]):=by
   intro l;induction l with
   | nil=>rfl
   | cons e l a=>show _::_=_::_;rw[a];rfl
  exact this l
theorem aNJ{cf:CF}{fl:Nat}{tm:List AV}{H:aT}{c:AV}{old:List<|Int×Int}{k:Int}{x y:bB}(i:Fx c=some old)(j:aH tm x=c)(q:aH tm y=iv k): aL PP cf fl (.lookup 3 (.lit<|.int .i64 0) x y false) tm H=some (iv<|sdG old k,H):=by
 have f:Qt 2 ⟨[(0,.rmp 1 1 old),(1,.lit<|.int .i64 k)],List.replicate H.length .gone⟩ ⟨[c,iv k],H⟩:=⟨rfl,λt v a=>(by
  match t,a with
  | 0,a=>cases a;exact⟨_,rfl,.p _ _<|aOB i⟩
  | 1,a=>cases a;exact⟨_,rfl,.l _⟩
  | _+2,a=>cases a),aQj H⟩
 let⟨v,u,tv,s,b,_,o,h⟩:=F0 (P:=PP) (T:=T) (cf:=cf) (n:=0) (d:=some 0) (E:=((⟨C0,[],[],[],[]⟩:En PP T 2 fl .skip).xe GlC.g)) (K:=λtv _=>some tv) (r:=.lit<|.int .i64<|sdG old k)
  (En.ok _ _) f (kt:=3) (z:=.lit<|.int .i64 0) (m:=.tmp 0) (k:=.tmp 1) (ok:=false)<|by kernel_rfl
 rw[aQm b] at b;obtain rfl:=ZE h;rw[o.inL] at b;have e:aL PP cf fl (.lookup 3 (.lit<|.int .i64 0) x y false) tm H=aL PP cf fl (.lookup 3 (.lit<|.int .i64 0) (.tmp 0) (.tmp 1) false) [c,iv k] H:=by
  simp only[aL,j,q];rfl
 exact e.trans b
def Mo(l:List<|Nat×AV): List AV:=(List.range 30).map λk=>match cZ k l with
 | some x=>x
 | none=>.undef
theorem aN2{l:List<|Nat×AV}(h:∀k v,cZ k l=some v->k<30): At 30 l<|Mo l:=⟨by simp[Mo],λk v a=>by
 simp only[aH,Mo,Zm,Y2<|h k v a,Yz,a]⟩
theorem qB{N k:Nat}{l:List<|Nat×AV}{tm:List AV}{v:AV}(h:At N l tm)(e:cZ k l=some v)(b:k<N): tm[k]?=some v:=by
 have:=h.get e;have a:k<tm.length:=by rw[h.ln];exact b
 simp only[aH,Za a] at this;rw[Za a,this]
def cW(a:Nat->Prop)(r:Nat)(W:World): dC:=⟨W,λb=>a b\/b=r,λ_=>none,[]⟩
theorem GR{a:Nat->Prop}{r b:Nat}{W:World}: lC (cW a r W) b↔¬a b/\b≠r:=⟨λh=>⟨λk=>h.1<|.inl k,λk=>h.1<|.inr k⟩,λh=>⟨λk=>k.elim h.1 h.2,λid h=>by cases h⟩⟩
structure LI(X0:Nat->Prop)(r:Nat)(m:Int)(xo:AV)(W:World)(a:Act): Prop where
 gl:tA (cW X0 r W)
 fr:∀k,W.heap.size<=k->¬X0 k
 hr:r<W.heap.size
 sz:a.tmps.size=30
 t2:a.tmps[2]?=some (.int .i64 m)
 t14:a.tmps[14]?=some (.pointer (some ⟨r,0,none⟩))
 t7:∃v,a.tmps[7]?=some v/\RP W (lC (cW X0 r W)) xo v
abbrev l0(m:Int)(xo:AV)(r:Nat): List (Nat×AV):=[(2,iv m),(7,xo),(14,.lit (.pointer (some ⟨r,0,none⟩)))]
theorem aAH(m:Int)(a:AV)(r:Nat): At 30 (l0 m a r)<|Mo<|l0 m a r:=aN2 λk v h=>by
 simp only[cZ] at h;repeat' split at h;all_goals first | cases h | skip
 all_goals (rename_i e;have:=Zc e;omega)
section
variable {X0:Nat->Prop}{r:Nat}{m:Int}{xo:AV}{W W':World}{a a':Act}
theorem LI.tr(h:LI X0 r m xo W a): TR (aK T) (cW X0 r W) (Mo<|l0 m xo r) a.tmps:=by
 refine⟨by simp[Mo,h.sz],λt x c=>?_⟩;have d:t<a.tmps.size:=by
  rw[h.sz];rcases ZI t 30 with k | k
  .exact k
  .rw[Zy<|by simpa [Mo] using k] at c;cases c
 rw[h.sz] at d;simp only[Mo,Zm,Y2 d,Yz,Zb] at c;have l:∀x:AV,x=.undef->∃v,a.tmps[t]?=some v/\RV (aK T) (cW X0 r W) x v:=λx e=>⟨_,Z8<|by rw[h.sz];exact d,by rw[e];exact RV.undef _⟩;simp only[cZ] at c;split at c
 .rename_i y b;subst c;split at b
  .rename_i e;cases b;rw[<-Zc e];exact⟨_,h.t2,RV.lit _⟩
  .split at b
   .rename_i e;cases b;rw[<-Zc e];let⟨v,i,j⟩:=h.t7;exact⟨v,i,.pure _ _ j⟩
   .split at b
    .rename_i e;cases b;rw[<-Zc e];exact⟨_,h.t14,RV.lit _⟩
    .cases b
 .exact l x c.symm
theorem LI.sim(h:LI X0 r m xo W a): bX (aK T) (cW X0 r W) where
 gl:=h.gl;inj:=λ_ _ _ h=>by cases h
 dom:=λ_ _ h=>by cases h
 nx:=λ_ _ h=>by cases h
 fresh:=λk c e=>e.elim (h.fr k c) λe=>by have:=h.hr;have c:W.heap.size<=k:=c;omega
 lens:=λid s es h=>by cases h
 blk:=λid s es b h=>by cases h
 map:=λid es b h=>by cases h
 raw:=λid q b h=>by cases h
theorem aHy(f:AY (some r) W W'){x:AV}{v:Value}(h:RP W (lC<|cW X0 r W) x v): RP W' (lC<|cW X0 r W') x v:=h.mono λb o e d=>by
 let⟨i,c⟩:=GR.1 e;exact⟨GR.2 ⟨i,c⟩,(f.frame b (gW d)<|by simpa using c).trans d⟩
theorem LI.move(h:LI X0 r m xo W a)(c:AY (some r) W W')(d:a'.tmps.size=30/\a'.tmps[2]?=a.tmps[2]?/\a'.tmps[14]?=a.tmps[14]?/\a'.tmps[7]?=a.tmps[7]?): LI X0 r m xo W' a' where
 gl:=λg cs i=>by
  let⟨cc,T,fz,b,f,e,u,o,s⟩:=h.gl g cs i;let⟨w,l⟩:=GR.1 f;exact⟨cc,T,fz,b,GR.2 ⟨w,l⟩,(c.frame g (gW e)<|by simpa using l).trans e,u,o,λj x z=>aHy c<|s j x z⟩
 fr:=λk t=>h.fr k<|ZB c.size t;hr:=YO h.hr c.size;sz:=d.1;t2:=d.2.1.trans h.t2;t14:=d.2.2.1.trans h.t14;t7:=by
  let⟨v,f,e⟩:=h.t7;exact⟨v,d.2.2.2.trans f,aHy c e⟩
theorem aKL{FT:Nat->Option Nat}{c:dC}{a:AV}{old:List<|Int×Int}{v:Value}(d:Fx a=some old)(h:RV FT c a v): RP c.w (lC c) a v:=by
 rcases QD d with⟨rfl,_⟩ | rfl
 .rw[h.lit_inv];exact .lit _
 .cases h with
  | pure _ _ h=>exact h
theorem LI.ops{c':dC}{tm:List AV}{l:List<|Nat×AV}{old:List<|Int×Int}(h:LI X0 r m xo W a)(t:Fx xo=some old)(q:bV 0 (cW X0 r W) c')(f:At 30 l tm)(i:TR (aK T) c' tm a'.tmps)(y:cZ 2 l=some (iv m))(u:cZ 7 l=some xo)(j:cZ 14 l=some (.lit<|.pointer<|some ⟨r,0,none⟩)): LI X0 r m xo c'.w a':=by
 have p:=pZ q λ_=>rfl;have e:LI X0 r m xo c'.w a:=h.move p.of ⟨h.sz,rfl,rfl,rfl⟩;refine { e with sz:=by rw[<-i.1];exact f.ln,t2:=?_,t14:=?_,t7:=?_ }
 .let⟨v,c,d⟩:=i.2 2 _<|qB f y<|by decide
  rw[c,d.lit_inv]
 .let⟨v,c,d⟩:=i.2 14 _<|qB f j<|by decide
  rw[c,d.lit_inv]
 .let⟨v,c,d⟩:=i.2 7 _<|qB f u<|by decide
  refine⟨v,c,(aKL t d).mono λb o s p=>⟨GR.2 ?_,p⟩⟩;have:=s.1;rw[q.X] at this;exact⟨λk=>this<|.inl k,λk=>this<|.inr k⟩
end
def Be(old:List<|Int×Int)(m k v:Int): Bool:=!decide (k=m)&&!decide (sdG old k=v)
def Ent(e:MapEntry)(k v:Int): Prop:=e.key=.int .i64 k/\e.val=.int .i64 v
theorem aP1: ∀(j:Nat) (o:Oper),[iA V8 1,iA V8 2,iA V8 3,iA V8 4][j]?=some o->(eZ V8)[1+j]?=some o:=by
 have e:(eZ V8).toList.drop 1=[iA V8 1,iA V8 2,iA V8 3,iA V8 4]:=by kernel_rfl
 intro j o h;rw[<-e,Zw,Z4] at h;exact h
theorem MK{c:Code}{n:Nat}(e:(eZ c).toList=(List.range n).map (iA c)): ∀(j:Nat) (o:Oper),((List.range n).map<|iA c)[j]?=some o->(eZ c)[0+j]?=some o:=by
 intro j o h;rw[<-e,Z4] at h;rw[Z0];exact h
section
variable {cf:CF}{X0:Nat->Prop}{r b clk cc:Nat}{m:Int}{xo:AV}{old:List (Int×Int)}{W:World}{a:Act}{seen:Array Nat}{es:Array MapEntry}
def gop(d:Nat)(a:Io): bQ:=⟨some d,a,some (23,true)⟩
def R5: List bQ:=[om 20 8,om 21 2,o1 22<|.ibin .neq (tp 20)<|tp 21,om 23 22,gop 24<|.mov<|tp 7,gop 25<|.mov<|tp 8,gop 26<|.lookup 3 (.lit<|.int .i64 0) (tp 24) (tp 25) false,gop 27<|.mov<|tp 9,gop 28<|.ibin .neq (tp 26)<|tp 27,o1 29<|.pick (tp 23) (tp 28)<|.lit<|.bool false]
theorem aEx{P:Program}{fl:Nat}{tm:List AV}{H:aT}{l:List<|Nat×AV}{N d:Nat}{f:Io}{rs:List bQ}{K:St->Prop}(h:At N l tm)(e:cZ 23 l=some (.lit<|.bool false))(k:∀a,At N ((d,.lit bM)::l) a->WO P cf fl rs ⟨a,H⟩ K)(b:Nat.blt d N=true:=by rfl): WO P cf fl (gop d f::rs) ⟨tm,H⟩ K:=by
 let⟨s,g,c⟩:=k _<|h.set b;refine⟨s,?_,c⟩;simp only[iT,cQ,gop,eW,h.get e];exact g
theorem aEw{P:Program}{fl:Nat}{tm:List AV}{H H':aT}{v:AV}{l:List<|Nat×AV}{N d:Nat}{b:Io}{rs:List bQ}{K:St->Prop}(h:At N l tm)(e:cZ 23 l=some (.lit<|.bool true))(ev:aL P cf fl b tm H=some (v,H'))(k:∀a,At N ((d,v)::l) a->WO P cf fl rs ⟨a,H'⟩ K)(c:Nat.blt d N=true:=by rfl): WO P cf fl (gop d b::rs) ⟨tm,H⟩ K:=by
 let⟨s,g,f⟩:=k _<|h.set c;refine⟨s,?_,f⟩;simp only[iT,cQ,gop,eW,h.get e,ev];exact g
theorem aTT{tm:List AV}{k v:Int}(d:Fx xo=some old)(h:At 30 ((9,iv v)::(8,iv k)::l0 m xo r) tm): WO PP cf 0 R5 ⟨tm,[]⟩ λs=>s.heap=[]/\∃l,At 30 l s.tmps/\cZ 29 l=some (.lit<|.bool<|Be old m k v)/\cZ 2 l=some (iv m)/\cZ 7 l=some xo/\cZ 14 l=some (.lit<|.pointer<|some ⟨r,0,none⟩):=by
 refine AO.mov h rfl λtm h=>AO.mov h rfl λtm h=>AO.op h (Ml (v:=.bool<|k != m) (h.get rfl) (h.get rfl) rfl) λtm h=>AO.mov h rfl λtm h=>?_;by_cases e:k=m
 .have b:(k != m)=false:=by simp[e]
  rw[b] at h;refine aEx h rfl λtm h=>aEx h rfl λtm h=>aEx h rfl λtm h=>aEx h rfl λtm h=>aEx h rfl λtm h=>AO.op (v:=.lit<|.bool false) (H':=[]) h (by simp only[aL,h.get (k:=23) rfl];rfl) λtm h=>AO.nil h ⟨rfl,_,h,?_,rfl,rfl,rfl⟩;have:Be old m k v=false:=by simp[Be,e]
  rw[this];rfl
 .have b:(k != m)=true:=by simpa using e
  rw[b] at h;refine aEw h rfl (v:=xo) (H':=[]) (by simp only[aL,h.get (k:=7) rfl]) λtm h=>aEw h rfl (v:=iv k) (H':=[]) (by simp only[aL,h.get (k:=8) rfl]) λtm h=>aEw h rfl (aNJ d (h.get rfl)<|h.get rfl) λtm h=>aEw h rfl (v:=iv v) (H':=[]) (by simp only[aL,h.get (k:=9) rfl]) λtm h=>aEw h rfl (Ml (v:=.bool<|sdG old k != v) (h.get rfl) (h.get rfl) rfl) λtm h=>AO.op (v:=.lit<|.bool<|sdG old k != v) (H':=[]) h (by simp only[aL,h.get (k:=23) rfl,h.get (k:=28) rfl,Zz]) λtm h=>AO.nil h ⟨rfl,_,h,?_,rfl,rfl,rfl⟩;have:Be old m k v=(sdG old k != v):=by
   simp only[Be,e,decide_false,X5,Ww];rw[XX];simp
  rw[this];rfl
theorem aTA(E:Au PP T cf)(L:oI PP T)(ho:Fx xo=some old)(li:LI X0 r m xo W a)(hr:W.heap[r]?=some (.mapIter (some b) clk seen cc))(hb:W.heap[b]?=some (.map es clk))(i2:b≠r)(j1:clk<=cc)(hy:Yng es clk)(hE:∀e∈es.toList,∃k v,Ent e k v){Q:Exit->Act->World->Prop}(h1:∀a' C,LI X0 r m xo C a'->AY (some r) W C->(leftOf es seen).size=0->a'.defers=a.defers->Q (.exit 0) a' C)(l3:∀a' C e k v,e∈(leftOf es seen).toList->Ent e k v->Be old m k v=false->LI X0 r m xo C a'->C.heap[r]?=some (.mapIter (some b) clk (seen.push e.born) clk)->C.heap[b]?=some (.map es clk)->AY (some r) W C->a'.defers=a.defers->Q .normal a' C)(f1:∀a' C e k v,e∈(leftOf es seen).toList->Ent e k v->Be old m k v=true->LI X0 r m xo C a'->a'.tmps[6]?=some (.bool true)->AY (some r) W C->a'.defers=a.defers->Q .ret a' C): BD.wp PP Q a W:=by
 rw[aQC];refine Xn ?_;refine Xf ?_;show wpOps PP (eZ Rg3) _ [0,1] a W;rw[Y5];have i1:(iA Rg3 0).op=.next (.tmp 14) false:=by kernel_rfl
 have g3:(iA Rg3 0).dst=some 15:=by kernel_rfl
 have S:a.eval (.tmp 14)=.pointer (some ⟨r,0,none⟩):=by simp[Act.eval,Yg,li.t14]
 rcases run_next_at (P:=PP) W (iA Rg3 0).type r b clk cc seen es clk hr hb hy.1 j1 with⟨hz,K⟩ | ⟨e,he,w1,J,K⟩
 .refine MV (o:=iA Rg3 0) (v:=.tuple #[.bool false]) (w':=W) (by kernel_rfl) (by kernel_rfl) (by simp[execOp,i1,S,K]) ?_;have i:=TR.put (d:=some 15) li.tr<|Ji (c:=cW X0 r W) [.bool false];have q:At 30 ((15,.tup [.lit<|.bool false])::l0 m xo r)<|hZ (Mo<|l0 m xo r) (some 15)<|.tup<|[.bool false].map .lit:=(aAH m xo r).set rfl;rw[g3,Y5];have y:(a.put (some 15)<|.tuple #[.bool false]).defers=a.defers:=iK _ _ _;generalize a.put (some 15) (.tuple #[.bool false])=a1 at i y |-;generalize hZ (Mo<|l0 m xo r) (some 15) (.tup<|[.bool false].map .lit)=c1 at i q;refine kJ (fl:=0) (c:=cW X0 r W) (o:=iA Rg3 1) (ao:=o1 16<|.extract (tp 15) 0) (st':=⟨c1.set 16<|.lit<|.bool false,[]⟩) E L li.sim i (ZL _) (by kernel_rfl) (by kernel_rfl) (by simp only[cQ,eW,aL,q.get (k:=15) rfl];rfl) ?_;intro M I e2 s2 n1 p d2 _;have F:=q.set (v:=.lit<|.bool false) (k:=16) rfl;have l2:=li.ops ho s2 F p rfl rfl rfl;show ((Code.seq (.cond (.tmp 16) .skip<|.exit 0) _)).wp PP Q M I.w;refine Xn ?_;refine XL (v7 p (t:=16)<|qB F rfl<|by decide) ?_;exact wp_exit<|h1 M I.w l2 (pZ s2 λ_=>rfl).of hz<|d2.trans y
 .let⟨kk,vv,hk,hv⟩:=hE e (mem_left he).1;have hf:w1.heap=W.heap:=by rcases J with rfl | rfl<;>rfl
  refine MV (o:=iA Rg3 0) (v:=.tuple #[.bool true,e.key,e.val]) (w':=setBlock w1 r<|.mapIter (some b) clk (seen.push e.born) clk) (by kernel_rfl) (by kernel_rfl) (by simp[execOp,i1,S,K]) ?_;have n:AY (some r) W<|setBlock w1 r<|.mapIter (some b) clk (seen.push e.born) clk:=by
   refine⟨by rcases J with rfl | rfl<;>rfl,by rcases J with rfl | rfl<;>rfl,by rcases J with rfl | rfl<;>rfl,(by rcases J with rfl | rfl<;>first | exact Zf _ | exact Ys _),by simp[setBlock,hf],λk _ hk=>?_⟩;simp only[setBlock,hf];rw[YB λe=>hk<|by rw[e]]
  have b1:(setBlock w1 r<|.mapIter (some b) clk (seen.push e.born) clk).heap[r]?=some (.mapIter (some b) clk (seen.push e.born) clk):=by
   simp only[setBlock,hf];rw[Array.getElem?_setIfInBounds_self_of_lt<|gW hr]
  generalize setBlock w1 r (.mapIter (some b) clk (seen.push e.born) clk)=W1 at n b1;have f2:W1.heap[b]?=some (.map es clk):=(n.frame b (gW hb)<|by simpa using i2).trans hb;have Y:LI X0 r m xo W1 a:=li.move n ⟨li.sz,rfl,rfl,rfl⟩;have i:=TR.put (d:=some 15) Y.tr<|Ji (c:=cW X0 r W1) [.bool true,e.key,e.val];have q:At 30 ((15,.tup [.lit<|.bool true,.lit e.key,.lit e.val])::l0 m xo r)<|hZ (Mo<|l0 m xo r) (some 15)<|.tup<|[.bool true,e.key,e.val].map .lit:=(aAH m xo r).set rfl;rw[g3,Y5];have y:(a.put (some 15)<|.tuple #[.bool true,e.key,e.val]).defers=a.defers:=iK _ _ _;show wpOp PP (eZ Rg3) _ 1 _ (a.put (some 15)<|.tuple [.bool true,e.key,e.val].toArray) W1;replace y:(a.put (some 15)<|.tuple [.bool true,e.key,e.val].toArray).defers=a.defers:=y;generalize a.put (some 15) (.tuple [.bool true,e.key,e.val].toArray)=a1 at i y |-;generalize hZ (Mo<|l0 m xo r) (some 15) (.tup<|[.bool true,e.key,e.val].map .lit)=c1 at i q;refine kJ (fl:=0) (c:=cW X0 r W1) (o:=iA Rg3 1) (ao:=o1 16<|.extract (tp 15) 0) (st':=⟨c1.set 16<|.lit<|.bool true,[]⟩) E L Y.sim i (ZL _) (by kernel_rfl) (by kernel_rfl) (by simp only[cQ,eW,aL,q.get (k:=15) rfl];rfl) ?_;intro M I e2 s2 n1 p d2 _;have F:=q.set (v:=.lit<|.bool true) (k:=16) rfl;have l2:=Y.ops ho s2 F p rfl rfl rfl;have b2:=pZ s2 λ_=>rfl;show ((Code.seq (.cond (.tmp 16) .skip<|.exit 0) _)).wp PP Q M I.w;refine Xn ?_;refine Wf (v7 p (t:=16)<|qB F rfl<|by decide) ?_;refine W5 ?_;refine WK ?_;refine Xn ?_;refine Xf ?_;show wpOps PP (eZ V8) _ [0,1,2,3,4] M I.w;rw[Y5];have Z:=(b2.frame r (gW b1)<|by simp).trans b1;have b3:=(b2.frame b (gW f2)<|by simp).trans f2;have o3:=run_entry_at (P:=PP) I.w r b clk seen es clk e Z b3 (mem_left he).1 hy.2;have p1:(iA V8 0).op=.entry (.tmp 14):=by kernel_rfl
  have j2:M.eval (.tmp 14)=.pointer (some ⟨r,0,none⟩):=by simp[Act.eval,Yg,l2.t14]
  refine MV (o:=iA V8 0) (v:=.tuple #[e.key,e.val]) (w':=I.w) (by kernel_rfl) (by kernel_rfl) (by simp[execOp,p1,j2,o3]) ?_;have n3:(iA V8 0).dst=some 17:=by kernel_rfl
  rw[n3];have D:=TR.put (d:=some 17) l2.tr<|Ji (c:=cW X0 r I.w) [e.key,e.val];have O:At 30 ((17,.tup [.lit e.key,.lit e.val])::l0 m xo r)<|hZ (Mo<|l0 m xo r) (some 17)<|.tup<|[e.key,e.val].map .lit:=(aAH m xo r).set rfl;have U:(M.put (some 17)<|.tuple [e.key,e.val].toArray).defers=M.defers:=iK _ _ _;show wpOps PP (eZ V8) _ (List.range' 1 4) (M.put (some 17)<|.tuple [e.key,e.val].toArray) I.w;generalize M.put (some 17) (.tuple [e.key,e.val].toArray)=a3 at D U |-;generalize hZ (Mo<|l0 m xo r) (some 17) (.tup<|[e.key,e.val].map .lit)=e3 at D O;have R:LI X0 r m xo I.w M:=l2;let⟨s4,j3,h4,l4,x,q2,q7,q8,q9,h2⟩:WO PP cf 0 [o1 18<|.extract (tp 17) 0,o1 19<|.extract (tp 17) 1,om 8 18,om 9 19] ⟨e3,[]⟩ λs=>s.heap=[]/\∃l,At 30 l s.tmps/\cZ 2 l=some (iv m)/\cZ 7 l=some xo/\cZ 8 l=some (iv kk)/\cZ 9 l=some (iv vv)/\cZ 14 l=some (.lit<|.pointer<|some ⟨r,0,none⟩):=by
   rw[hk,hv] at O;exact AO.op (v:=iv kk) (H':=[]) O (by simp only[aL,O.get (k:=17) rfl];rfl) λtm h=>AO.op (v:=iv vv) (H':=[]) h (by simp only[aL,h.get (k:=17) rfl];rfl) λtm h=>AO.mov h rfl λtm h=>AO.mov h rfl λtm h=>AO.nil h ⟨rfl,_,h,rfl,rfl,rfl,rfl,rfl⟩
  refine Bj (ops:=eZ V8) (fl:=0) E L [o1 18<|.extract (tp 17) 0,o1 19<|.extract (tp 17) 1,om 8 18,om 9 19] [iA V8 1,iA V8 2,iA V8 3,iA V8 4] 1 (cW X0 r I.w) a3 e3 s4 (by kernel_rfl) aP1 R.sim D (ZL _) j3 ?_;intro a4 c4 e4 c3 m3 X d4;have q1:=R.ops ho c3 x X q2 q7 h2;have b4:=pZ c3 λ_=>rfl;show (Code.seq (.region 5 (eZ Rg5) false) _).wp PP _ a4 c4.w;refine Xn ?_;refine Xf ?_;show wpOps PP (eZ Rg5) _ (List.range' 0 10) a4 c4.w;have k2:At 30 ((9,iv vv)::(8,iv kk)::l0 m xo r) s4.tmps:=.cons (x.get q9)<|.cons (x.get q8)<|.cons (x.get q2)<|.cons (x.get q7)<|.cons (x.get h2) ⟨x.ln,λ_ _ h=>by cases h⟩;have l1:c4.H=[]:=by rw[e4,h4]
  let⟨s5,n2,h5,l5,A,N,p2,p7,e1⟩:=aTT (cf:=cf) ho k2;refine Bj (ops:=eZ Rg5) (fl:=0) E L R5 ((List.range 10).map<|iA Rg5) 0 c4 a4 s4.tmps s5 (by kernel_rfl) (MK<|by kernel_rfl) m3 X (ZL _) (by rw[l1];exact n2) ?_;intro a5 c5 e5 k3 m2 B d5;have d1:=c3.trans k3;have m1:=R.ops ho d1 A B p2 p7 e1;have b5:=pZ d1 λ_=>rfl;have tot:AY (some r) W c5.w:=n.trans<|b2.of.trans b5.of;have f3:a5.defers=a.defers:=d5.trans<|d4.trans<|U.trans<|d2.trans y;show (Code.cond (.tmp 29) _ _).wp PP _ a5 c5.w;cases z:Be old m kk vv with
  | false=>
   rw[z] at N;refine XL (v7 B (t:=29)<|qB A N<|by decide) ?_;refine W5 ?_;exact l3 a5 c5.w e kk vv he ⟨hk,hv⟩ z m1 ((b5.frame r (gW Z)<|by simp).trans Z) ((b5.frame b (gW b3)<|by simp).trans b3) tot f3
  | true=>
   rw[z] at N;refine Wf (v7 B (t:=29)<|qB A N<|by decide) ?_;refine Xn ?_;refine Xf ?_;show wpOps PP (eZ Rg6) _ (List.range' 0 1) a5 c5.w;have o2:c5.H=[]:=by rw[e5,h5]
   refine Bj (ops:=eZ Rg6) (fl:=0) E L [o1 6<|.mov<|.lit<|.bool true] ((List.range 1).map<|iA Rg6) 0 c5 a5 s5.tmps ⟨s5.tmps.set 6<|.lit<|.bool true,[]⟩ (by kernel_rfl) (MK<|by kernel_rfl) m2 B (ZL _) (by rw[o2];rfl) ?_;intro a6 c6 e6 i3 p3 V d6;have d3:=d1.trans i3;have h3:=A.set (v:=.lit<|.bool true) (k:=6) rfl;have k1:=R.ops ho d3 h3 V p2 p7 e1;have b6:=pZ d3 λ_=>rfl;refine wp_ret ?_;let⟨u,g1,g2⟩:=V.2 6 _<|qB h3 rfl<|by decide
   exact f1 a6 c6.w e kk vv he ⟨hk,hv⟩ z k1 (by rw[g1,g2.lit_inv]) (n.trans<|b2.of.trans b6.of)<|d6.trans f3
theorem aAy(o:Au PP T cf)(s:oI PP T)(H:Fx xo=some old)(j:b≠r)(D:Yng es clk)(F:∀e∈es.toList,∃k v,Ent e k v){Q:Exit->Act->World->Prop}{W0:World}{ds:List Deferred}(f:∀a' c,LI X0 r m xo c a'->AY (some r) W0 c->(∀e∈es.toList,∀k v,Ent e k v->Be old m k v=false)->a'.defers=ds->Q (.exit 0) a' c)(g:∀a' c e k v,e∈es.toList->Ent e k v->Be old m k v=true->LI X0 r m xo c a'->a'.tmps[6]?=some (.bool true)->AY (some r) W0 c->a'.defers=ds->Q .ret a' c):
 ∀(n:Nat) (seen:Array Nat) (cc:Nat) (W:World) (a:Act),(leftOf es seen).size<n->LI X0 r m xo W a->W.heap[r]?=some (.mapIter (some b) clk seen cc)->W.heap[b]?=some (.map es clk)->clk<=cc->AY (some r) W0 W->a.defers=ds->(∀e∈es.toList,seen.contains e.born=true->∀k v,Ent e k v->Be old m k v=false)->Code.rounds PP BD Q n a W
 | 0,_,_,_,_,h,_,_,_,_,_,_,_=>by omega
 | n+1,seen,cc,W,a,Y,U,R,X,C,z,B,J=>by
  rw[rounds_succ];refine aTA o s H U R X j C D F (λa' c q l S p=>?_) (λa' c e k v he y w q A O l p=>?_) λa' c e k v he y w q A l p=>?_
  .exact f a' c q (z.trans l) (λe he k v t=>J e he (all_seen es seen S e he) k v t)<|p.trans B
  .refine aAy o s H j D F f g n (seen.push e.born) clk c a' (by have:=left_shrinks es seen e he;omega) q A O (Zf _) (z.trans l) (p.trans B) λx K i k' L t=>?_;rw[contains_push] at i;rcases YW _ _▸i with i | i
   .exact J x K i k' L t
   .have M:x=e:=born_inj D.2 K (mem_left he).1<|by simpa using i
    subst M;let⟨I,G⟩:=t;let⟨V,N⟩:=y;rw[V] at I;rw[N] at G;cases I;cases G;exact w
  .exact g a' c e k v (mem_left he).1 y w q A (z.trans l)<|p.trans B
end
theorem CH(H H':aT)(x:AV): dD H' (dD H x)=dD H x:=by
 cases x with
 | lit v=>
  have a:rJ v=.lit v\/rJ v=.sl false []:=by
   unfold rJ;repeat' split
   all_goals first | exact .inl rfl | exact .inr rfl
  rcases a with e | e
  .simp only[dD,e]
  .simp only[dD,e]
 | ms id tot off len=>
  have e:dD H (.ms id tot off len)=match rd H (.ms id tot off len) with | some es=>.vw (es.map λe=>e.map Ej) | none=>.undef:=rfl;rw[e];cases rd H (.ms id tot off len)<;>rfl
 | fn vi caps=>cases caps<;>rfl
 | _=>rfl
theorem aNw{FT:Nat->Option Nat}{c:dC}{tm:List AV}{tv:Array Value}{k:Nat}{v:Value}(h:TR FT c tm tv)(b:tv[k]?=some v): TR FT c (tm.set k<|.lit v) tv:=by
 refine⟨by rw[Yr];exact h.1,λt x a=>?_⟩;rw[Z7] at a;split at a
 .rename_i e;subst e;split at a
  .cases a;exact⟨v,b,RV.lit _⟩
  .cases a
 .exact h.2 t x a
theorem aB5{old:List<|Int×Int}{m:Int}: ∀a:List<|Int×Int,sdB old m a=true↔∃e∈a,Be old m e.1 e.2=true
 | []=>by simp[sdB]
 | e::l=>by
  have b:=aB5 (old:=old) (m:=m) l;show (match Be old m e.1 e.2 with | true=>true | false=>sdB old m l)=true↔_;cases h:Be old m e.1 e.2 with
  | true=>simp[h]
  | false=>simp[h,b]
theorem aQS{W:World}{a:Act}{x:Bool}{c:dC}{tm:List AV}(i:bX (aK T) c)(m:c.H=[])(e:c.w=W)(h:TR (aK T) c tm a.tmps)(j:tm.length=30)(l:a.tmps[6]?=some (.bool x)): (results Tryz.f112 a.tmps).run PP W=.ok (.bool x) W:=by
 have k:=aNw h l;have g:lB ⟨tm.set 6<|.lit<|.bool x,[]⟩ [.tmp 6]=some [.lit<|.bool x]:=by
  simp only[lB,Qv,aH,Z5 (by rw[j];decide:6<tm.length)]
 let⟨v,d,f⟩:=SY (P:=PP) (fn:=Tryz.f112) (rs:=[.tmp 6]) (vs:=[.lit<|.bool x]) (st:=⟨tm.set 6<|.lit<|.bool x,[]⟩) i m k (by kernel_rfl) g;rw[e,f.lit_inv] at d;exact d
theorem aQp{cf:CF}{fl:Nat}{tm:List AV}{H:aT}{x:bB}{cs:List AV}(a:aH tm x=.agg cs): aL PP cf fl (.box x) tm H=some (.ptr H.length 1 0 0,H++[.blk cs.length [cs]]):=by simp only[aL,a,cellsOf]
theorem aIx{cf:CF}{c:aT}{a:AV}{l:List<|Int×Int}(h:sdH cf 214 c a=some l): ∃z,(∀{fl:Nat} {tm:List AV} {H:aT} {x:bB},aH tm x=cJ c a->aL PP cf fl (.callB 214 [x]) tm H=some (z,H))/\Fx z=some l/\∃x y w,cJ c a=.agg [x,y,w]:=by
 let⟨j,m,k,p,d,t,q⟩:=aHp h;have u:∃g f i,j=dD c g/\m=dD c f/\k=dD c i:=by
  have s:∀b cs,dD c b=.agg cs->False:=by
   intro b cs e;cases b with
   | lit v=>
    simp only[dD] at e;split at e<;>cases e
   | ms=>simp only[dD] at e;split at e<;>cases e
   | fn vi caps=>cases caps<;>cases e
   | _=>cases e
  have A:∀b,(∀cs,b≠.agg cs)->cJ c b=dD c b:=λb r=>by
   cases b with
   | agg cs=>exact (r cs rfl).elim
   | _=>rfl
  cases a with
  | agg cs=>
   have d:AV.agg (cs.map<|dD c)=.agg [j,m,k]:=d;injection d with d;match cs,d with
   | [g,f,i],d=>cases d;exact⟨_,_,_,rfl,rfl,rfl⟩
  | _=>exact (s _ _<|(A _ λcs e=>by cases e).symm.trans d).elim
 obtain⟨g,f,i,rfl,rfl,rfl⟩:=u;refine⟨eY p.2 0 p.1,λ{fl tm H x} n=>?_,q,_,_,_,d⟩;have e:cJ H (.agg [dD c g,dD c f,dD c i])=.agg [dD c g,dD c f,dD c i]:=by
  show AV.agg [dD H<|dD c g,dD H<|dD c f,dD H<|dD c i]=_;rw[CH,CH,CH]
 rw[d] at n;simp only[aL,ZK,Yn,n,e,t]
theorem aFB{cf:CF}(G:Au PP T cf)(I:oI PP T){c:dC}(hs:bX (aK T) c){a b:AV}{m:Int}{old q:List<|Int×Int}(h1:sdH cf 214 c.H a=some old)(h2:sdH cf 214 c.H b=some q){vs:Array Value}(A:lD (aK T) c [a,b,iv m] vs):
 Calls PP 112 vs c.w λe w'=>e=.returned (.bool<|sdB old m q)/\AY none c.w w':=by
 refine calls_of_wp (fn:=Tryz.f112) Tryz.func112 aT9 ?_;have z3:=Af hs;have Y:lD (aK T) (eM c) [cJ c.H a,cJ c.H b,iv m] vs:=by
  refine⟨A.1,λi x B=>?_⟩;match i,B with
  | 0,B=>cases B;let⟨v,k1,k2⟩:=A.2 0 a rfl;exact⟨v,k1,HA hs k2⟩
  | 1,B=>cases B;let⟨v,k1,k2⟩:=A.2 1 b rfl;exact⟨v,k1,HA hs k2⟩
  | 2,B=>cases B;let⟨v,k1,k2⟩:=A.2 2 (iv m) rfl;exact⟨v,k1,by rw[k2.lit_inv];exact RV.lit _⟩
 have f1:=aNx 30 Y;have hA:At 30 [(0,cJ c.H a),(1,cJ c.H b),(2,iv m)]<|[cJ c.H a,cJ c.H b,iv m]++List.replicate (30-[cJ c.H a,cJ c.H b,iv m].length) UV:=.cons rfl<|.cons rfl<|.cons rfl ⟨rfl,λ_ _ h=>by cases h⟩;have z1:Tryz.f112.ntmps=30:=by kernel_rfl
 rw[z1];generalize [cJ c.H a,cJ c.H b,iv m]++List.replicate (30-[cJ c.H a,cJ c.H b,iv m].length) UV=tm at f1 hA;generalize i3:(⟨vs++Array.replicate (30-vs.size) undef,[]⟩:Act)=a3;have f1:TR (aK T) (eM c) tm a3.tmps:=by rw[<-i3];exact f1
 have n1:a3.defers=[]:=by rw[<-i3]
 let⟨J,eo,io,x,y,z,ea⟩:=aIx h1;let⟨xn,en,r3,x',y',z',eb⟩:=aIx h2;rw[ea] at hA eo;rw[eb] at hA en;let⟨s0,v0,w0,r1⟩:WO PP cf 0 [o1 3<|.box<|tp 0,o1 4<|.box<|tp 1,o1 6<|.mov<|.lit<|.bool false] ⟨tm,[]⟩ λs=>s.heap=[.blk 3 [[x,y,z]],.blk 3 [[x',y',z']]]/\At 30 [(6,.lit<|.bool false),(4,.ptr 1 1 0 0),(3,.ptr 0 1 0 0),(0,.agg [x,y,z]),(1,.agg [x',y',z']),(2,iv m)] s.tmps:=
  AO.op hA (aQp<|hA.get rfl) λtm h=>AO.op h (aQp<|h.get rfl) λtm h=>AO.op (v:=.lit<|.bool false) (H':=[.blk 3 [[x,y,z]],.blk 3 [[x',y',z']]]) h rfl λtm h=>AO.nil h ⟨rfl,h⟩
 refine Xn ?_;refine Xf ?_;show wpOps PP (eZ Rg0) _ (List.range' 0 3) a3 (eM c).w;refine Bj (ops:=eZ Rg0) (fl:=0) G I [o1 3<|.box<|tp 0,o1 4<|.box<|tp 1,o1 6<|.mov<|.lit<|.bool false] ((List.range 3).map<|iA Rg0) 0 (eM c) a3 tm s0 (by kernel_rfl) (MK<|by kernel_rfl) z3 f1 (ZL _) v0 ?_;intro b1 c1 e1 t1 y1 D d1;have hh0:s0.heap[0]?=some (.blk 3 [[x,y,z]]):=by rw[w0];rfl
 have hh1:s0.heap[1]?=some (.blk 3 [[x',y',z']]):=by rw[w0];rfl
 let⟨s1,v1,w1,O⟩:WO PP cf 0 [o1 10<|.load true 3<|tp 3,o1 11<|.callB 214 [tp 10],om 7 11] s0 λs=>s.heap=s0.heap/\At 30 [(7,J),(11,J),(10,.agg [x,y,z]),(6,.lit<|.bool false),(4,.ptr 1 1 0 0),(3,.ptr 0 1 0 0),(0,.agg [x,y,z]),(1,.agg [x',y',z']),(2,iv m)] s.tmps:=by
  exact AO.op (v:=.agg [x,y,z]) (H':=s0.heap) r1 (Rd (agg:=true) (n:=3) (r1.get (k:=3) rfl) hh0 rfl rfl (Zf 3) rfl) λtm h=>AO.op h (eo<|h.get rfl) λtm h=>AO.mov h rfl λtm h=>AO.nil h ⟨rfl,h⟩
 show (Code.seq (.region 1 (eZ Rg1) false) _).wp PP _ b1 c1.w;refine Xn ?_;refine Xf ?_;show wpOps PP (eZ Rg1) _ (List.range' 0 3) b1 c1.w;refine Bj (ops:=eZ Rg1) (fl:=0) G I [o1 10<|.load true 3<|tp 3,o1 11<|.callB 214 [tp 10],om 7 11] ((List.range 3).map<|iA Rg1) 0 c1 b1 s0.tmps s1 (by kernel_rfl) (MK<|by kernel_rfl) y1 D (ZL _) (by rw[e1];exact v1) ?_;intro b2 c2 e2 t2 x2 m1 d2;show (Code.seq (.seq (.region 2 (eZ Rg2) false)<|.block 0<|.loop BD) _).wp PP _ b2 c2.w;refine Xn ?_;refine Xn ?_;refine Xf ?_;show wpOps PP (eZ Rg2) _ [0,1,2] b2 c2.w;rw[Y5];refine kJ (fl:=0) (o:=iA Rg2 0) (ao:=o1 12<|.load true 3<|tp 4) (st':=⟨s1.tmps.set 12<|.agg [x',y',z'],s0.heap⟩) G I x2 m1 (ZL _) (by kernel_rfl) (by kernel_rfl) (by
  rw[e2,w1];simp only[cQ,eW,Rd (agg:=true) (n:=3) (P:=PP) (cf:=cf) (fl:=0) (v:=.agg [x',y',z']) (O.get (k:=4) rfl) hh1 rfl rfl (Zf 3) rfl,hZ]) ?_
 intro b3 c3 e3 t3 y3 p1 d3 _;have x1:=O.set (k:=12) (v:=.agg [x',y',z']) rfl;rw[Y5];refine kJ (fl:=0) (o:=iA Rg2 1) (ao:=o1 13<|.callB 214 [tp 12]) (st':=⟨(s1.tmps.set 12<|.agg [x',y',z']).set 13 xn,s0.heap⟩) G I y3 p1 (ZL _) (by kernel_rfl) (by kernel_rfl) (by
  rw[e3];simp only[cQ,eW,en<|x1.get (k:=12) rfl,hZ]) ?_
 intro b4 f e4 t4 s2 i2 d4 _;have l3:=x1.set (k:=13) (v:=xn) rfl;have tot:bV 0 (eM c) f:=t1.trans<|t2.trans<|t3.trans t4;have j1:AY none (eM c).w f.w:=pZ tot λ_=>rfl;have u1:b4.defers=[]:=d4.trans<|d3.trans<|d2.trans<|d1.trans n1;rw[Y5];have n3:PP.underlying 171=some (.map 3 3):=by kernel_rfl
 have w3:(iA Rg2 2).op=.range 171 (.tmp 13):=by kernel_rfl
 have m2:(iA Rg2 2).dst=some 14:=by kernel_rfl
 let⟨u13,k13,x3⟩:=i2.2 13 xn<|qB l3 rfl<|by decide
 have i1:b4.eval (.tmp 13)=u13:=by simp[Act.eval,Yg,k13]
 have u2:=aKL r3 x3;have L:=TR.put (d:=some 14) i2<|RV.lit<|.pointer<|some ⟨f.w.heap.size,0,none⟩;have Z:=l3.set (k:=14) (v:=.lit<|.pointer<|some ⟨f.w.heap.size,0,none⟩) rfl;have N:(b4.put (some 14)<|.pointer<|some ⟨f.w.heap.size,0,none⟩).defers=b4.defers:=iK _ _ _;have h3:∀E,lC f E->¬(eM f).X E:=λE h e=>e.elim h.1 λ⟨id,hid⟩=>h.2 id hid;have R:∀ob:Obj,LI (eM f).X f.w.heap.size m J (f.w.alloc ob)<|b4.put (some 14)<|.pointer<|some ⟨f.w.heap.size,0,none⟩:=by
  intro ob;have ba:=SH f.w ob;have up:∀{x:AV} {v:Value},RP f.w (lC f) x v->RP (f.w.alloc ob) (lC<|cW (eM f).X f.w.heap.size<|f.w.alloc ob) x v:=λh=>h.mono λE o hi hb=>by
   have C:=gW hb;exact⟨GR.2 ⟨h3 E hi,by omega⟩,(ba.frame E C<|by simp).trans hb⟩
  refine⟨λg cs y2=>?_,λk hk=>?_,?_,?_,?_,?_,?_⟩
  .let⟨cc,T,fz,M,U,Q,g3,g4,g5⟩:=s2.gl g cs y2;have C:=gW Q;exact⟨cc,T,fz,M,GR.2 ⟨h3 g U,by omega⟩,(ba.frame g C<|by simp).trans Q,g3,g4,λj x B=>up<|g5 j x B⟩
  .have:f.w.heap.size<=k:=ZB ba.size hk;exact (Af s2).fresh k this
  .show f.w.heap.size<(f.w.heap.push ob).size;rw[Xx];exact Wm _
  .rw[<-L.1];exact Z.ln
  .let⟨v,U,Q⟩:=L.2 2 _<|qB Z rfl<|by decide
   rw[U,Q.lit_inv]
  .let⟨v,U,Q⟩:=L.2 14 _<|qB Z rfl<|by decide
   rw[U,Q.lit_inv]
  .let⟨v,U,Q⟩:=L.2 7 J<|qB Z rfl<|by decide
   exact⟨v,U,up<|aKL io Q⟩
 have w2:∀(W:World) (a':Act) (x:Bool),LI (eM f).X f.w.heap.size m J W a'->AY (some f.w.heap.size) (f.w) W->a'.tmps[6]?=some (.bool x)->a'.defers=[]->x=sdB old m q->bodyPost PP Tryz.f112 (λe w'=>e=.returned (.bool<|sdB old m q)/\AY none c.w w') .ret a' W:=by
  intro W a' x F j2 h6 hd B;refine⟨hd,.bool x,aQS F.sim rfl rfl F.tr (aAH m J _).ln h6,by rw[B],j2.out j1<|j1.size⟩
 have f3:∀(W:World) (a':Act),LI (eM f).X f.w.heap.size m J W a'->AY (some f.w.heap.size) f.w W->a'.defers=[]->sdB old m q=false->(Code.seq (.region 7 (eZ RgE) false) .ret).wp PP (bodyPost PP Tryz.f112 λe w'=>e=.returned (.bool<|sdB old m q)/\AY none c.w w') a' W:=by
  intro W a' F j2 hd B;refine Xn ?_;refine Xf ?_;show wpOps PP (eZ RgE) _ (List.range' 0 1) a' (cW (eM f).X f.w.heap.size W).w;refine Bj (ops:=eZ RgE) (fl:=0) G I [o1 6<|.mov<|.lit<|.bool false] ((List.range 1).map<|iA RgE) 0 (cW (eM f).X f.w.heap.size W) a' (Mo<|l0 m J f.w.heap.size) ⟨(Mo<|l0 m J f.w.heap.size).set 6<|.lit<|.bool false,[]⟩ (by kernel_rfl) (MK<|by kernel_rfl) F.sim F.tr (ZL _) rfl ?_;intro a6 c6 e6 n2 hs6 f2 d6;have v2:=(aAH m J f.w.heap.size).set (v:=.lit<|.bool false) (k:=6) rfl;have l66:=F.ops io n2 v2 f2 rfl rfl rfl;let⟨u,U,Q⟩:=f2.2 6 _<|qB v2 rfl<|by decide
  exact wp_ret<|w2 c6.w a6 false l66 (j2.trans (pZ n2 λ_=>rfl).of) (by rw[U,Q.lit_inv]) (d6.trans hd) B.symm
 rcases QD r3 with⟨rfl,rfl⟩ | rfl
 .cases u2;refine MV (o:=iA Rg2 2) (w':=f.w.alloc<|.mapIter none 0 #[] 0) (v:=.pointer<|some ⟨f.w.heap.size,0,none⟩) (by kernel_rfl) (by kernel_rfl) (by simp[execOp,w3,i1,run_range_nilMap (P:=PP) f.w 171 3 3 n3]) ?_;rw[m2];have F:=R<|.mapIter none 0 #[] 0;have j3:=run_next_nilMap (P:=PP) f.w (iA Rg3 0).type 0 0 #[];have S:AY (some f.w.heap.size) f.w<|f.w.alloc<|.mapIter none 0 #[] 0:=(SH _ _).of;generalize f.w.alloc (.mapIter none 0 #[] 0)=W at F j3 S |-;generalize b4.put (some 14) (.pointer<|some ⟨f.w.heap.size,0,none⟩)=a5 at F N |-;show (Code.block 0<|.loop BD).wp PP _ a5 W;refine WK ?_;refine XD 1 ?_;rw[rounds_succ,aQC];refine Xn ?_;refine Xf ?_;show wpOps PP (eZ Rg3) _ [0,1] a5 W;rw[Y5];have ho3:(iA Rg3 0).op=.next (.tmp 14) false:=by kernel_rfl
  have hd3:(iA Rg3 0).dst=some 15:=by kernel_rfl
  have o2:a5.eval (.tmp 14)=.pointer (some ⟨f.w.heap.size,0,none⟩):=by simp[Act.eval,Yg,F.t14]
  refine MV (o:=iA Rg3 0) (v:=.tuple #[.bool false]) (w':=W) (by kernel_rfl) (by kernel_rfl) (by simp[execOp,ho3,o2,j3]) ?_;have D:=TR.put (d:=some 15) F.tr<|Ji (c:=cW (eM f).X f.w.heap.size W) [.bool false];have O:At 30 ((15,.tup [.lit<|.bool false])::l0 m J f.w.heap.size)<|hZ (Mo<|l0 m J f.w.heap.size) (some 15)<|.tup<|[.bool false].map .lit:=(aAH m J _).set rfl;rw[hd3,Y5];have k3:(a5.put (some 15)<|.tuple #[.bool false]).defers=a5.defers:=iK _ _ _;generalize a5.put (some 15) (.tuple #[.bool false])=a1 at D k3 |-;generalize hZ (Mo<|l0 m J f.w.heap.size) (some 15) (.tup<|[.bool false].map .lit)=tm1 at D O;refine kJ (fl:=0) (c:=cW (eM f).X f.w.heap.size W) (o:=iA Rg3 1) (ao:=o1 16<|.extract (tp 15) 0) (st':=⟨tm1.set 16<|.lit<|.bool false,[]⟩) G I F.sim D (ZL _) (by kernel_rfl) (by kernel_rfl) (by simp only[cQ,eW,aL,O.get (k:=15) rfl];rfl) ?_;intro a2 m3 e2' s3 hs2' V z2 _;have u3:=O.set (v:=.lit<|.bool false) (k:=16) rfl;have l2:=F.ops io s3 u3 V rfl rfl rfl;show ((Code.seq (.cond (.tmp 16) .skip<|.exit 0) _)).wp PP _ a2 m3.w;refine Xn ?_;refine XL (v7 V (t:=16)<|qB u3 rfl<|by decide) ?_;refine wp_exit ?_;exact f3 m3.w a2 l2 (S.trans (pZ s3 λ_=>rfl).of) (z2.trans<|k3.trans<|N.trans u1) rfl
 .cases u2 with
  | rmp ents E es l M q1 q2 q3 q4 q5 q6=>
  refine MV (o:=iA Rg2 2) (w':=f.w.alloc<|.mapIter (some E) l #[] l) (v:=.pointer<|some ⟨f.w.heap.size,0,none⟩) (by kernel_rfl) (by kernel_rfl) (by simp[execOp,w3,i1,run_range_map (P:=PP) f.w 171 3 3 E es l n3 q2]) ?_;rw[m2];have F:=R<|.mapIter (some E) l #[] l;have C:=gW q2;have r2:(f.w.alloc<|.mapIter (some E) l #[] l).heap[f.w.heap.size]?=some (.mapIter (some E) l #[] l):=Wr f.w _;have o3:(f.w.alloc<|.mapIter (some E) l #[] l).heap[E]?=some (.map es l):=(heap_alloc_old f.w _ C).trans q2;have S:AY (some f.w.heap.size) f.w<|f.w.alloc<|.mapIter (some E) l #[] l:=(SH _ _).of;have hz:es.size=q.length:=by rw[q3,ZR]
  have v3:∀(i:Nat) (p:Int×Int),q[i]?=some p->∃e,es[i]?=some e/\Ent e p.1 p.2:=by
   intro i p hp;have B:(q.map λe=>(Value.int .i64 e.1,AV.lit<|.int .i64 e.2))[i]?=some (.int .i64 p.1,.lit<|.int .i64 p.2):=by rw[Zm,hp];rfl
   let⟨U,Q⟩:=q5 i _ _ B;have g3:=q6 i _ _ B;refine⟨M i,U,Q,?_⟩;generalize (M i).val=vv at g3;cases g3;rfl
  have hE:∀e∈es.toList,∃p∈q,Ent e p.1 p.2:=by
   intro e he;let⟨i,hi⟩:=Yd.1 he;rw[Z4] at hi;have C:i<q.length:=by
    rcases ZI i q.length with h | h
    .exact h
    .rw[Yc<|by omega] at hi;cases hi
   let⟨e',h1,h2⟩:=v3 i _<|Za C;rw[hi] at h1;cases h1;exact⟨_,ZQ C,h2⟩
  generalize f.w.alloc (.mapIter (some E) l #[] l)=W at F r2 o3 S |-;generalize b4.put (some 14) (.pointer<|some ⟨f.w.heap.size,0,none⟩)=a5 at F N |-;show (Code.block 0<|.loop BD).wp PP _ a5 W;refine WK ?_;refine XD ((leftOf es #[]).size+1) ?_;refine aAy G I io (W0:=f.w) (ds:=[]) (b:=E) (r:=f.w.heap.size) (by omega) q4 (λe he=>by let⟨p,_,h⟩:=hE e he;exact⟨_,_,h⟩) (λa' W' l1 b1 p3 d1=>?_) (λa' W' e k v he hv hg l1 h1 b1 d1=>?_) _ #[] l W a5 (Wm _) F r2 o3 (Zf _) S (N.trans u1) λx _ B=>by simp at B
  .refine f3 W' a' l1 b1 d1 ?_;cases hh:sdB old m q with
   | false=>rfl
   | true=>
    let⟨p,hp,p2⟩:=(aB5 q).1 hh;let⟨i,hi⟩:=Yd.1 hp;let⟨e,h1,h2⟩:=v3 i p hi;rw[p3 e (by rw[<-Z4] at h1;exact Zg h1) p.1 p.2 h2] at p2;cases p2
  .let⟨p,hp,h2⟩:=hE e he;have e1:k=p.1:=by have:=hv.1.symm.trans h2.1;cases this;rfl
   have e2:v=p.2:=by have:=hv.2.symm.trans h2.2;cases this;rfl
   subst e1 e2;exact w2 W' a' true l1 b1 h1 d1 ((aB5 q).2 ⟨p,hp,hg⟩).symm
end
section
open Go.Proofs Go.RowKit Go.Shelf Go.Sort
theorem mixed: PP.follows .mixedOrders=true:=by kernel_rfl
def rl: List Nat->Nat->Nat
 | a::b::r,n=>match Nat.beq a n with
  | true=>b
  | false=>rl r n
 | _,n=>n
theorem qA{P:Program}{f:FuncId}{B:Func} (h:((((P.funcs[f]?).map (·.name)).getD "")== "runtime.NumGoroutine")=false) (k:P.funcs[f]?=some {B with name:=((P.funcs[f]?).map (·.name)).getD ""}):Bears P f B:=⟨_,h,k⟩
def aO2: Ren:=⟨(rl [6,193,15,207,14,227,28,245,29,246,20,262,21,263,22,264,23,265,24,266,25,267,26,268,27,269,46,297,47,280,48,281,49,298,50,299,57,309]),(rl [22,186,24,191,25,225,39,112,53,229,55,272,46,265,45,264,50,92,66,296,70,300,76,313,77,314]),id⟩
theorem aLJ: SlLaysF0.n6 PP aO2:=by
 constructor<;>first | kernel_rfl | exact λ_=>by kernel_rfl | exact qA (by kernel_rfl) (by kernel_rfl)
def aO1: Ren:=⟨(rl [6,216,15,207,14,252,28,245,29,246,20,285,21,286,22,287,23,288,24,289,25,290,26,291,27,292,46,304,47,280,48,281,49,305,50,306,57,311]),(rl [22,241,24,247,25,249,39,112,53,229,55,272,46,265,45,264,50,92,66,296,70,300,76,313,77,314]),id⟩
theorem aLI: SlLaysF0.n6 PP aO1:=by
 constructor<;>first | kernel_rfl | exact λ_=>by kernel_rfl | exact qA (by kernel_rfl) (by kernel_rfl)
def aO4: Ren:=⟨(rl [6,189,15,207,14,226,28,245,29,246,20,254,21,255,22,256,23,257,24,258,25,259,26,260,27,261,46,294,47,280,48,281,49,295,50,296,57,308]),(rl [22,151,24,210,25,223,39,112,53,229,55,272,46,265,45,264,50,92,66,296,70,300,76,313,77,314]),id⟩
theorem aLL: SlLaysF0.n6 PP aO4:=by
 constructor<;>first | kernel_rfl | exact λ_=>by kernel_rfl | exact qA (by kernel_rfl) (by kernel_rfl)
def aHY: Ren:=⟨(rl [6,203,15,207,14,233,28,245,29,246,20,271,21,272,22,273,23,274,24,275,25,276,26,277,27,278,46,300,47,280,48,281,49,301,50,302,57,310]),(rl [22,32,24,3,25,107,39,112,53,229,55,272,46,265,45,264,50,92,66,296,70,300,76,313,77,314]),id⟩
theorem aRD: SlLaysF.n6 PP aHY:=by
 constructor<;>first | kernel_rfl | exact λ_=>by kernel_rfl | exact qA (by kernel_rfl) (by kernel_rfl)
def aLH: Ren:=⟨(rl [189,171,125,207,257,206,128,245,129,246,294,237,295,238,296,239,297,240,298,241,299,242,216,230,300,243,301,244,328,279,329,280,330,281,331,282,332,283,215,81,343,303]),(rl [28,32,46,112,51,229,53,272,183,265,182,264,131,92,218,296,222,300,228,313,229,314]),id⟩
theorem aHX: Lays.n189 PP aLH:=by
 constructor<;>first | kernel_rfl | exact λ_=>by kernel_rfl
def aLK: Ren:=⟨(rl [144,83,143,114,219,139,217,165,225,166,267,168,266,200,314,201,224,167]),(rl [46,112,146,230,51,229]),id⟩
theorem aO3: Lays.n144 PP aLK:=by
 constructor<;>first | kernel_rfl | exact λ_=>by kernel_rfl
def aTC: Ren:=⟨rl [22,46,29,70,30,71],rl [24,22,9,49],id⟩
theorem aQK: aCW PP aTC 5 #[.int .i64 0,.int .i64 0,.int .i64 0,.string ⟨#[]⟩,.slice none 0 0] 64:=by
 constructor<;>first | kernel_rfl | exact λ_=>by kernel_rfl | exact qA (by kernel_rfl) (by kernel_rfl) | decide | exact λargs w=>run_callFunc_extern Tryz.func70 (by kernel_rfl) (by kernel_rfl) (by kernel_rfl) (e:=Extern.SlicesOverlaps.overlaps #[22,22] #[4]) (by kernel_rfl) args w
def aTD: Ren:=⟨rl [22,127,29,147,30,148],rl [24,30,9,63],id⟩
theorem aR3: aCW PP aTD 3 #[.int .i64 0,.int .i64 0,.int .i64 0] 24:=by
 constructor<;>first | kernel_rfl | exact λ_=>by kernel_rfl | exact qA (by kernel_rfl) (by kernel_rfl) | decide | exact λargs w=>run_callFunc_extern Tryz.func147 (by kernel_rfl) (by kernel_rfl) (by kernel_rfl) (e:=Extern.SlicesOverlaps.overlaps #[30,30] #[4]) (by kernel_rfl) args w
def aTE: Ren:=⟨rl [22,136,29,163,30,164],rl [24,35,9,104],id⟩
theorem aRQ: aCW PP aTE 5 #[.int .i64 0,.int .i64 0,.int .i64 0,.string ⟨#[]⟩,.slice none 0 0] 64:=by
 constructor<;>first | kernel_rfl | exact λ_=>by kernel_rfl | exact qA (by kernel_rfl) (by kernel_rfl) | decide | exact λargs w=>run_callFunc_extern Tryz.func163 (by kernel_rfl) (by kernel_rfl) (by kernel_rfl) (e:=Extern.SlicesOverlaps.overlaps #[35,35] #[4]) (by kernel_rfl) args w
def aTF: Ren:=⟨rl [22,149,29,180,30,181],rl [24,31,9,120],id⟩
theorem aS1: aCW PP aTF 6 #[.int .i64 0,.int .i64 0,.int .i64 0,.slice none 0 0,.int .i64 0,.int .i64 0] 64:=by
 constructor<;>first | kernel_rfl | exact λ_=>by kernel_rfl | exact qA (by kernel_rfl) (by kernel_rfl) | decide | exact λargs w=>run_callFunc_extern Tryz.func180 (by kernel_rfl) (by kernel_rfl) (by kernel_rfl) (e:=Extern.SlicesOverlaps.overlaps #[31,31] #[4]) (by kernel_rfl) args w
theorem I2: oI PP T:=aE3 checked
theorem aN6: O2 PP 171:=λblk off cap zs w h1 h2 h3=>Any.slices_Sort_int aHX blk off cap zs w h1 h2 h3
theorem aK1: UH PP 171:=λp cap w=>Any.slices_Sort_int_none aHX p cap w
theorem aNR: Kt PP true 193 4:=Ns aLJ Tryz.isAgg191 Tryz.sizeOf191
theorem aKT: Ii PP 193:=Bd aLJ
theorem aNI: Kt PP true 216 2:=Ns aLI Tryz.isAgg247 Tryz.sizeOf247
theorem aKE: Ii PP 216:=Bd aLI
theorem aPt: Kt PP true 189 4:=Ns aLL Tryz.isAgg210 Tryz.sizeOf210
theorem aMM: Ii PP 189:=Bd aLL
theorem aOD: Kt PP false 203 1:=aDu aRD
theorem aLY: Ii PP 203:=Bd (ρ:=aHY) (by constructor<;>first | kernel_rfl | exact λ_=>by kernel_rfl | exact qA (by kernel_rfl) (by kernel_rfl))
theorem aK5{fl m:Nat}{args:List AV}{H H':aT}{r:AV}(hl:fl<=m/\m<=H.length)(h:Ew fl args H=some (r,H')): H'.take fl=H.take fl/\m<=H'.length:=by
 rcases NN h with⟨x,rfl,he,rfl,rfl⟩ | ⟨id,l,rfl,hne,hfl,hob,hbig,rfl,rfl⟩
 .exact⟨rfl,hl.2⟩
 .refine⟨?_,by rw[Yr];exact hl.2⟩
  apply Ym
  intro i
  rw[Zs,Zs]
  split
  .rw[Zv (by omega)]
  .rfl
theorem n4{s fl m:Nat}{args:List AV}{H H':aT}{r:AV}(hl:fl<=m/\m<=H.length)(h:Fy s fl args H=some (r,H')): H'.take fl=H.take fl/\m<=H'.length:=by
 obtain⟨id,id2,i,es,row,_,h1,h2,h3,h4,h5,h6,h7,rfl⟩:=G3 h
 exact⟨X8 h1,by simpa using hl.2⟩
theorem aAT{fl:Nat}{args:List AV}{H H':aT}{r:AV}(h:Re fl args H=some (r,H')):
 ∃s t:ByteArray,args=[.lit (.string s),.lit (.string t)]/\s.size<4294967281/\r=.lit (.bool (Lib.contains s.data.toList t.data.toList))/\H'=H:=by
 unfold Re at h
 repeat' split at h
 all_goals first
  | (cases h;done)
  | skip
 rename_i hb
 cases h
 exact⟨_,_,rfl,Zl hb,rfl,rfl⟩
section
variable {cf:CF}{fl vi f:Nat}{args:List AV}{r:AV}{H':aT}{c:dC}{vs:Array Value}
theorem aMA(h:Re fl args c.H=some (r,H'))(hs:bX (aK T) c)(hargs:lD (aK T) c args vs): Calls PP 83 vs c.w λe w'=>∃v c',e=.returned v/\c'.w=w'/\c'.H=H'/\c'.X=c.X/\bV fl c c'/\bX (aK T) c'/\RV (aK T) c' r v:=by
 obtain⟨s,t,rfl,hsz,rfl,rfl⟩:=aAT h
 have hv:vs=#[.string s,.string t]:=by
  obtain⟨h1,h2⟩:=hargs
  obtain⟨v0,g0,k0⟩:=h2 0 _ rfl
  obtain⟨v1,g1,k1⟩:=h2 1 _ rfl
  have e0:=k0.lit_inv
  have e1:=k1.lit_inv
  subst e0 e1
  apply XS
  .simpa using h1
  .intro i hi1 hi2
   have hi3:i<2:=by simpa using hi2
   match i,hi3 with
   | 0,_=>exact ZE ((Z8 hi1).symm.trans g0)
   | 1,_=>exact ZE ((Z8 hi1).symm.trans g1)
 subst hv
 obtain⟨cc,t',fz,vals,_,hheap,hok,_,_⟩:=hs.gl 1 [.undef] rfl
 obtain⟨m,hm⟩:=hok rfl
 have hcell:c.w.cell? ⟨1,0,none⟩=some (.int .i64 m):=by simp[World.cell?,hheap,hm]
 exact (Any.strings_Contains aO3 s t m c.w hsz hcell).mono λe w' ⟨he,hw⟩=>⟨_,c,he,hw.symm,rfl,rfl,bV.refl fl c,hs,.lit _⟩
theorem m9{s zb g:Nat}{ρ:Ren}{zs:Array Value}(L:aCW PP ρ s zs zb)(hg:ρ.f 22=g)(hz:zb<=100000)(h:Fy s fl args c.H=some (r,H'))(hs:bX (aK T) c)(hargs:lD (aK T) c args vs): Calls PP g vs c.w λe w'=>∃v c',e=.returned v/\c'.w=w'/\c'.H=H'/\c'.X=c.X/\bV fl c c'/\bX (aK T) c'/\RV (aK T) c' r v:=by
 obtain⟨id,id2,i,es,row,rfl,h1,h2,h3,h4,h5,h6,rfl,rfl⟩:=G3 h
 subst hg
 exact (aRK L hz hs h1 h2 h3 h4 h5 h6 hargs).mono λe w' ⟨v,he,c',k1,k2,k3,k4,k5,k6⟩=>⟨v,c',he,k1,k2,k3,k4,k5,k6⟩
theorem aKw(hcf:Au PP T cf)(h:sdA cf 214 args c.H=some (r,H'))(hs:bX (aK T) c)(hargs:lD (aK T) c args vs): Calls PP 112 vs c.w λe w'=>∃v c',e=.returned v/\c'.w=w'/\c'.H=H'/\c'.X=c.X/\bV fl c c'/\bX (aK T) c'/\RV (aK T) c' r v:=by
 obtain⟨a,b,m,old,new,rfl,h1,h2,rfl,rfl⟩:=j8 h
 refine (aFB hcf I2 hs h1 h2 hargs).mono λe w' ⟨he,hb⟩=>?_
 have st:bV 0 (eM c) ⟨w',(eM c).X,λ_=>none,[]⟩:={ X:=rfl,os:=hb.os,tape:=hb.tape,output:=hb.output,drawn:=hb.drawn,size:=hb.size,len:=Zf _,frame:=λk hk _=>hb.frame k hk (by simp),img:=(λid b h=>by cases h),blkS:=(λid s n h=>by cases h),mpS:=(λid ⟨o,h,_⟩=>by cases h),floor:=λid h=>absurd h (YE _) }
 exact⟨_,oJ c ⟨w',(eM c).X,λ_=>none,[]⟩,he,rfl,rfl,rfl,xA hs st,Ig hs st,.lit _⟩
end
theorem aA0{cf:CF}{fl vi:Nat}{args:List AV}{H H':aT}{r:AV}(h:Lj cf fl vi args H=some (r,H')): (vi=96/\sdA cf 214 args H=some (r,H'))\/(vi=52/\Fy 5 fl args H=some (r,H'))\/(vi=112/\Fy 3 fl args H=some (r,H'))\/(vi=122/\Fy 5 fl args H=some (r,H'))\/(vi=135/\Fy 6 fl args H=some (r,H'))\/(vi=99/\Re fl args H=some (r,H'))\/(vi=166/\uU cf true 4 fl args H=some (r,H'))\/(vi=181/\uU cf true 2 fl args H=some (r,H'))\/(vi=168/\uU cf true 4 fl args H=some (r,H'))\/(vi=174/\uU cf false 1 fl args H=some (r,H'))\/(vi=149/\Ew fl args H=some (r,H')):=by
 unfold Lj at h
 have e:(aF.prim vi:Option aAk)=(match Nat.beq vi 96 with | true=>some (aBy 214) | false=>(match Nat.beq vi 52 with | true=>some (oA (Fy 5)) | false=>(match Nat.beq vi 112 with | true=>some (oA (Fy 3)) | false=>(match Nat.beq vi 122 with | true=>some (oA (Fy 5)) | false=>(match Nat.beq vi 135 with | true=>some (oA (Fy 6)) | false=>(match Nat.beq vi 99 with | true=>some (oA Re) | false=>(match Nat.beq vi 166 with | true=>some (xK true 4) | false=>(match Nat.beq vi 181 with | true=>some (xK true 2) | false=>(match Nat.beq vi 168 with | true=>some (xK true 4) | false=>(match Nat.beq vi 174 with | true=>some (xK false 1) | false=>(match Nat.beq vi 149 with | true=>some (oA Ew) | false=>none))))))))))):=rfl
 rw[e] at h
 cases hb0:Nat.beq vi 96 with
 | true=>rw[hb0] at h;exact .inl ⟨Zc hb0,h⟩
 | false=>
  rw[hb0] at h
  cases hb1:Nat.beq vi 52 with
  | true=>rw[hb1] at h;exact .inr (.inl ⟨Zc hb1,h⟩)
  | false=>
   rw[hb1] at h
   cases hb2:Nat.beq vi 112 with
   | true=>rw[hb2] at h;exact .inr (.inr (.inl ⟨Zc hb2,h⟩))
   | false=>
    rw[hb2] at h
    cases hb3:Nat.beq vi 122 with
    | true=>rw[hb3] at h;exact .inr (.inr (.inr (.inl ⟨Zc hb3,h⟩)))
    | false=>
     rw[hb3] at h
     cases hb4:Nat.beq vi 135 with
     | true=>rw[hb4] at h;exact .inr (.inr (.inr (.inr (.inl ⟨Zc hb4,h⟩))))
     | false=>
      rw[hb4] at h
      cases hb5:Nat.beq vi 99 with
      | true=>rw[hb5] at h;exact .inr (.inr (.inr (.inr (.inr (.inl ⟨Zc hb5,h⟩)))))
      | false=>
       rw[hb5] at h
       cases hb6:Nat.beq vi 166 with
       | true=>rw[hb6] at h;exact .inr (.inr (.inr (.inr (.inr (.inr (.inl ⟨Zc hb6,h⟩))))))
       | false=>
        rw[hb6] at h
        cases hb7:Nat.beq vi 181 with
        | true=>rw[hb7] at h;exact .inr (.inr (.inr (.inr (.inr (.inr (.inr (.inl ⟨Zc hb7,h⟩)))))))
        | false=>
         rw[hb7] at h
         cases hb8:Nat.beq vi 168 with
         | true=>rw[hb8] at h;exact .inr (.inr (.inr (.inr (.inr (.inr (.inr (.inr (.inl ⟨Zc hb8,h⟩))))))))
         | false=>
          rw[hb8] at h
          cases hb9:Nat.beq vi 174 with
          | true=>rw[hb9] at h;exact .inr (.inr (.inr (.inr (.inr (.inr (.inr (.inr (.inr (.inl ⟨Zc hb9,h⟩)))))))))
          | false=>
           rw[hb9] at h
           cases hb10:Nat.beq vi 149 with
           | true=>rw[hb10] at h;exact .inr (.inr (.inr (.inr (.inr (.inr (.inr (.inr (.inr (.inr (⟨Zc hb10,h⟩))))))))))
           | false=>
            rw[hb10] at h
            cases h
theorem aNV: aGP PP T where
 fl:=λcf hcf fl m vi args H r H' hle hev=>by
  rcases aA0 hev with⟨_,h⟩ | ⟨_,h⟩ | ⟨_,h⟩ | ⟨_,h⟩ | ⟨_,h⟩ | ⟨_,h⟩ | ⟨_,h⟩ | ⟨_,h⟩ | ⟨_,h⟩ | ⟨_,h⟩ | ⟨_,h⟩
  .obtain⟨_,_,_,_,_,_,_,_,_,rfl⟩:=j8 h
   exact⟨rfl,hle.2⟩
  .exact n4 hle h
  .exact n4 hle h
  .exact n4 hle h
  .exact n4 hle h
  .obtain⟨_,_,_,_,_,rfl⟩:=aAT h
   exact⟨rfl,hle.2⟩
  .exact Nt hle h
  .exact Nt hle h
  .exact Nt hle h
  .exact Nt hle h
  .exact aK5 hle h
 ok:=λcf hcf fl vi f args r H' c vs hev hf hs hfl hargs=>by
  rcases aA0 hev with⟨rfl,h⟩ | ⟨rfl,h⟩ | ⟨rfl,h⟩ | ⟨rfl,h⟩ | ⟨rfl,h⟩ | ⟨rfl,h⟩ | ⟨rfl,h⟩ | ⟨rfl,h⟩ | ⟨rfl,h⟩ | ⟨rfl,h⟩ | ⟨rfl,h⟩
  .obtain rfl:112=f:=ZE ((show aK T 96=some 112 by kernel_rfl).symm.trans hf)
   exact aKw hcf h hs hargs
  .obtain rfl:46=f:=ZE ((show aK T 52=some 46 by kernel_rfl).symm.trans hf)
   exact m9 aQK rfl (by decide) h hs hargs
  .obtain rfl:127=f:=ZE ((show aK T 112=some 127 by kernel_rfl).symm.trans hf)
   exact m9 aR3 rfl (by decide) h hs hargs
  .obtain rfl:136=f:=ZE ((show aK T 122=some 136 by kernel_rfl).symm.trans hf)
   exact m9 aRQ rfl (by decide) h hs hargs
  .obtain rfl:149=f:=ZE ((show aK T 135=some 149 by kernel_rfl).symm.trans hf)
   exact m9 aS1 rfl (by decide) h hs hargs
  .obtain rfl:83=f:=ZE ((show aK T 99=some 83 by kernel_rfl).symm.trans hf)
   exact aMA h hs hargs
  .obtain rfl:189=f:=ZE ((show aK T 166=some 189 by kernel_rfl).symm.trans hf)
   exact HQ hcf I2 (by simp) aPt aMM h hs hargs
  .obtain rfl:216=f:=ZE ((show aK T 181=some 216 by kernel_rfl).symm.trans hf)
   exact HQ hcf I2 (by simp) aNI aKE h hs hargs
  .obtain rfl:193=f:=ZE ((show aK T 168=some 193 by kernel_rfl).symm.trans hf)
   exact HQ hcf I2 (by simp) aNR aKT h hs hargs
  .obtain rfl:203=f:=ZE ((show aK T 174=some 203 by kernel_rfl).symm.trans hf)
   exact HQ hcf I2 (by simp) aOD aLY h hs hargs
  .obtain rfl:171=f:=ZE ((show aK T 149=some 171 by kernel_rfl).symm.trans hf)
   exact aK4 aN6 aK1 h hs hargs
end
section
open Go.Proofs
theorem own: ownKnob PP.godebug=none:=by kernel_rfl
theorem laid: laidOutB PP=true:=by kernel_rfl
def R3: List Value:=aQk (Go.Proofs.YtmcgghedgfkjiaaGreatDoor.Rows.laid_mapsheets_glyph_scripts)
theorem aMd{W:World}(hl:laidMetH Tryz.prog Rows.officeKeepsRow.laid W)(hsh:W.ShapedOpen Tryz.prog): tA (top W):=by
 intro g cs hcs
 match g with
 | 0=>
  obtain rfl:aNL=cs:=ZE hcs
  obtain⟨ps,hv,_,_⟩:laidMet Tryz.prog [("mapsheets/glyph.scripts",Rows.laid_mapsheets_glyph_scripts)] W:=hl
  obtain⟨g,t,cv,fuel,p,q,h1,h2,h3,h4,_,_⟩:=hv
  obtain rfl:0=g:=ZE ((show Tryz.prog.globalNamed "mapsheets/glyph.scripts"=some 0 by kernel_rfl).symm.trans h1)
  obtain rfl:147=t:=ZE ((show (Tryz.prog.globals[0]?).map (·.type)=some 147 by kernel_rfl).symm.trans h2)
  have hcv:cv.toList=R3:=aFA (m:=13) (e:=146) (ta:=21) (tb:=21) (tc:=3) (ka:=.i32) (kb:=.i32) (kc:=.i64) (f0:={ name:= "first",type:=21,offset:=0,embedded:=false,tag:= "",pkgPath:= "mapsheets/glyph",byteOffset:=0 }) (f1:={ name:= "last",type:=21,offset:=1,embedded:=false,tag:= "",pkgPath:= "mapsheets/glyph",byteOffset:=4 }) (f2:={ name:= "script",type:=3,offset:=2,embedded:=false,tag:= "",pkgPath:= "mapsheets/glyph",byteOffset:=8 }) (by kernel_rfl) (by kernel_rfl) (by kernel_rfl) (by kernel_rfl) rfl rfl rfl rfl rfl rfl (by kernel_rfl) (by kernel_rfl) (by kernel_rfl) (by kernel_rfl) (by kernel_rfl) (by kernel_rfl) h4
  have hheap:∃T fz,W.heap[0]?=some (.cells cv T fz):=by
   unfold World.var? at h3
   rw[h1] at h3
   simp only[Z3] at h3
   split at h3
   .rename_i c T fz hb
    cases h3
    exact⟨T,fz,hb⟩
   .cases h3
  obtain⟨T,fz,hheap⟩:=hheap
  have key:∀(j:Nat) (x:AV),aNL[j]?=some x->∃v,R3[j]?=some v/\bE v=true/\x=AV.lit v:=by
   have e:aNL=R3.map AV.lit:=by kernel_rfl
   have hs:R3.all bE=true:=by kernel_rfl
   intro j x hx
   rw[e,Zm,Zq] at hx
   obtain⟨v,h5,rfl⟩:=hx
   exact⟨v,h5,Yh.1 hs v (Zg h5),rfl⟩
  refine⟨cv,T,fz,λj=>(R3[j]?).getD undef,aBw W 0,hheap,(λh=>absurd h (by decide)),?_,?_⟩
  .intro j x hx
   obtain⟨v,k1,k2,_⟩:=key j x hx
   have e:(R3[j]?).getD undef=v:=by rw[k1];rfl
   show cv[0+j]?=some ((R3[j]?).getD undef)/\bE ((R3[j]?).getD undef)=true
   rw[e,Z0,<-Z4,hcv]
   exact⟨k1,k2⟩
  .intro j x hx
   obtain⟨v,k1,_,rfl⟩:=key j x hx
   have e:(R3[j]?).getD undef=v:=by rw[k1];rfl
   show RP _ _ (AV.lit v) ((R3[j]?).getD undef)
   rw[e]
   exact .lit _
 | 1=>
  obtain rfl:[AV.undef]=cs:=ZE hcs
  obtain⟨m,hm⟩:=cell_of_shapedOpen_int (g:=1) (t:=3) (zero:=#[.int .i64 0]) (k:=.i64) hsh (Zh (by kernel_rfl)) (by kernel_rfl) rfl (by kernel_rfl) (by kernel_rfl) (by kernel_rfl)
  obtain⟨c,T,fz,hb,_,hc⟩:=cell?_inv hm
  refine⟨c,T,fz,λ_=>.int .i64 m,aBw W 1,hb,λ_=>⟨m,hc⟩,?_,?_⟩
  .intro j x hx
   cases j with
   | zero=>exact⟨hc,rfl⟩
   | succ j=>simp at hx
  .intro j x hx
   cases j with
   | zero=>
    simp only[Zt,Zb] at hx
    subst hx
    exact .undef _
   | succ j=>simp at hx
 | n+2=>cases hcs
end
end Go.Proofs.YtmcgghedgfkjiaaGreatDoor.Av
