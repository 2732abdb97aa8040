/- A part of the proof of a law. -/
import Derived.Test.YtideamafblopcaaGreatDoorP2
set_option maxRecDepth 100000
set_option maxHeartbeats 4000000
set_option linter.all false
namespace Go.Proofs.YtideamafblopcaaGreatDoor.Av
open Go
section
variable {P:Program}{T:List bK}{cf:Nat->Nat->List AV->aM->Option (AV×aM)}{c:bV}{fl:Nat}{o:Oper}{a:Act}{tm:List AV}
theorem nM{α:Type}{as:Array α}{x y:α}(h:as.toList=[x,y]): as=#[x,y]:=by apply Array.ext';simpa using h
theorem iT{α:Type}{as:Array α}{x:α}(h:as.toList=[x]): as=#[x]:=by apply Array.ext';simpa using h
theorem YO[aB](hcf:lP P T cf)(hfn:fW P T)(hs:bJ (aG T) c)(htr:TR (aG T) c tm a.tmps)(hfl:fl<=c.H.length){ao:xP}{v:AV}{H':aM}(hchk:bZ P T ao o.op=true)(hev:aI P cf fl ao tm c.H=some (v,H')): cZ P (aG T) c fl o a v H':=by
 generalize hop:o.op=op at hchk
 cases ao with
 | mov x=>
  simp only[aI,Option.some.injEq,Prod.mk.injEq] at hev
  let⟨rfl,rfl⟩:=hev
  simp only[bZ] at hchk
  split at hchk
  .exact XI hs htr (.inl hop) hchk
  .exact XI hs htr (.inr hop) hchk
  .cases hchk
 | movN x=>
  simp only[aI,Option.some.injEq,Prod.mk.injEq] at hev
  let⟨rfl,rfl⟩:=hev
  simp only[bZ] at hchk
  split at hchk
  .exact n7 hs htr (.inl hop) hchk
  .exact n7 hs htr (.inr hop) hchk
  .cases hchk
 | rangeStr x=>
  simp only[bZ] at hchk
  split at hchk
  .rename_i t y
   simp only[Bool.and_eq_true] at hchk
   simp only[aI] at hev
   split at hev
   .rename_i s hx
    cases hev
    exact RX hs htr hfl hop hchk.1 (by
     have:=hchk.2
     split at this
     .assumption
     .cases this) hx
   .cases hev
  .cases hchk
 | nextStr x=>
  simp only[bZ] at hchk
  split at hchk
  .rename_i y b
   simp only[Bool.and_eq_true] at hchk
   obtain⟨hy,rfl⟩:=hchk
   simp only[aI] at hev
   split at hev
   .rename_i id hx
    split at hev
    .rename_i hle
     split at hev
     .rename_i s pos hob
      split at hev
      .rename_i hp
       cases hev
       exact XH hs htr hop hy hx hle hob hp
      .rename_i hp
       cases hev
       exact XG hs htr hop hy hx hob hp
     .cases hev
    .cases hev
   .cases hev
  .cases hchk
 | slArr s n x=>
  simp only[bZ] at hchk
  split at hchk
  .rename_i t y
   simp only[Bool.and_eq_true] at hchk
   let⟨⟨h1,_⟩,h3⟩:=hchk
   split at h3
   .rename_i m e hu
    simp only[Bool.and_eq_true,beq_iff_eq] at h3
    let⟨h4,h5⟩:=h3
    subst h4
    simp only[aI] at hev
    split at hev
    .rename_i id tot idx off hx
     split at hev
     .rename_i hle
      split at hev
      .rename_i s es hob
       split at hev
       .rename_i htot
        split at hev
        .rename_i e he
         split at hev
         .rename_i hc
          let⟨c1,c2,c3⟩:=hc
          subst c1
          cases hev
          exact V6 hs htr hop h1 hu h5 hx hle hob htot he c2 c3
         .cases hev
        .cases hev
       .cases hev
      .cases hev
     .cases hev
    .cases hev
   .cases h3
  .cases hchk
 | tail2 x=>simp only[bZ] at hchk;cases hchk
 | arrPtr s n x=>
  simp only[bZ] at hchk
  split at hchk
  .rename_i t y
   simp only[Bool.and_eq_true] at hchk
   let⟨⟨h1,_⟩,h3⟩:=hchk
   split at h3
   .rename_i m e hu
    simp only[Bool.and_eq_true,beq_iff_eq] at h3
    let⟨h4,h5⟩:=h3
    subst h4
    simp only[aI] at hev
    split at hev
    .rename_i f es hx
     split at hev
     .rename_i hc
      cases hev
      exact JK hs htr hop h1 hu hc.1 hc.2.1 hc.2.2 (.inl ⟨f,hx,rfl⟩)
     .cases hev
    .rename_i es hx
     split at hev
     .rename_i hc
      cases hev
      exact JK hs htr hop h1 hu hc.1 hc.2.1 hc.2.2 (.inr ⟨hx,rfl⟩)
     .cases hev
    .cases hev
   .cases h3
  .cases hchk
 | freeze x=>
  simp only[bZ] at hchk
  have hmv:∃y,(o.op=.move y\/o.op=.assign y)/\aN T x y=true:=by
   split at hchk
   .exact⟨_,.inl hop,hchk⟩
   .exact⟨_,.inr hop,hchk⟩
   .cases hchk
  let⟨y,ho,hy⟩:=hmv
  simp only[aI] at hev
  split at hev
  .rename_i id tot off len hx
   split at hev
   .rename_i hle
    split at hev
    .rename_i s es hob
     split at hev
     .rename_i htot
      cases hev
      exact G4 hs htr ho hy hx hle hob htot
     .cases hev
    .cases hev
   .cases hev
  .rename_i id tot idx off hx
   split at hev
   .rename_i hle
    split at hev
    .rename_i s es hob
     split at hev
     .rename_i htot
      split at hev
      .rename_i e he
       cases hev
       exact XK hs htr ho hy hx hle hob htot he
      .cases hev
     .cases hev
    .cases hev
   .cases hev
  .cases hev
   exact XI hs htr ho hy
 | loadF n k x=>
  simp only[bZ] at hchk
  split at hchk
  .simp only[Bool.and_eq_true] at hchk
   let⟨⟨h1,h2⟩,h4⟩:=hchk
   simp only[aI] at hev
   split at hev
   .rename_i cs hcs
    split at hev
    .rename_i id tot off len hk
     split at hev
     .rename_i hle
      split at hev
      .rename_i s es hob
       split at hev
       .rename_i htot
        cases hev
        exact V9 hs htr hop h4 h1 h2 hcs hk hle hob htot
       .cases hev
      .cases hev
     .cases hev
    .cases hev
     exact MO hs htr hop h4 h1 h2 hcs<|by simp
    .cases hev
   .cases hev
  .cases hchk
 | pick x y z=>
  simp only[bZ] at hchk
  split at hchk
  .simp only[Bool.and_eq_true] at hchk
   simp only[aI] at hev
   split at hev
   .rename_i t ht
    simp only[Option.some.injEq,Prod.mk.injEq] at hev
    let⟨rfl,rfl⟩:=hev
    exact aCt hs htr hop hchk.1.1 hchk.1.2 hchk.2 ht
   .cases hev
  .cases hchk
 | alloc z=>
  simp only[aI,Option.some.injEq,Prod.mk.injEq] at hev
  let⟨rfl,rfl⟩:=hev
  simp only[bZ] at hchk
  split at hchk
  .exact W8 hs hfl hop hchk
  .cases hchk
 | claim s=>
  simp only[aI,Option.some.injEq,Prod.mk.injEq] at hev
  let⟨rfl,rfl⟩:=hev
  simp only[bZ] at hchk
  split at hchk
  .exact SA hs hfl<|.inl hop
  .exact SA hs hfl<|.inr hop
  .cases hchk
 | allocC z cl=>
  simp only[aI,Option.some.injEq,Prod.mk.injEq] at hev
  let⟨rfl,rfl⟩:=hev
  simp only[bZ] at hchk
  split at hchk
  .simp only[Bool.and_eq_true] at hchk
   refine G6 hs hfl hop hchk.1 λx hx=>?_
   have:=List.all_eq_true.1 hchk.2 x hx
   split at this
   .rename_i h;exact h
   .cases this
  .cases hchk
 | box x=>
  simp only[bZ] at hchk
  split at hchk
  .simp only[aI] at hev
   split at hev
   .rename_i cs hcs
    simp only[Option.some.injEq,Prod.mk.injEq] at hev
    let⟨rfl,rfl⟩:=hev
    exact aFs hs htr hfl hop hchk hcs
   .cases hev
  .cases hchk
 | ptrK n=>simp only[bZ] at hchk;cases hchk
 | boxC x cl=>
  simp only[bZ] at hchk
  split at hchk
  .simp only[aI] at hev
   split at hev
   .rename_i cs hcs
    split at hev
    .rename_i hn
     simp only[Option.some.injEq,Prod.mk.injEq] at hev
     let⟨rfl,rfl⟩:=hev
     exact aCz hs htr hfl hop hchk hcs hn
    .cases hev
   .cases hev
  .cases hchk
 | build z ps=>
  have hchk0:=hchk
  simp only[bZ] at hchk
  split at hchk
  .simp only[Bool.and_eq_true] at hchk
   simp only[aI] at hev
   split at hev
   .rename_i cs hcs
    simp only[Option.some.injEq,Prod.mk.injEq] at hev
    let⟨rfl,rfl⟩:=hev
    exact SB hs htr hop hchk.1 hchk0 hcs
   .cases hev
  .cases hchk
 | buildC z ps cl=>
  have hchk0:bZ P T (.build z ps) _=true:=hchk
  simp only[bZ] at hchk
  split at hchk
  .simp only[Bool.and_eq_true] at hchk
   simp only[aI] at hev
   split at hev
   .rename_i cs hcs
    split at hev
    .rename_i hn
     simp only[Option.some.injEq,Prod.mk.injEq] at hev
     let⟨rfl,rfl⟩:=hev
     exact G5 hs hfl (SB hs htr hop hchk.1 hchk0 hcs) hn
    .cases hev
   .cases hev
  .cases hchk
 | buildSl pu s n z ps=>
  simp only[bZ] at hchk
  split at hchk
  .rename_i t m qs
   simp only[Bool.and_eq_true,beq_iff_eq] at hchk
   let⟨rfl,hchk⟩:=hchk
   split at hchk
   .rename_i e hu
    simp only[Bool.and_eq_true,beq_iff_eq,decide_eq_true_eq] at hchk
    let⟨⟨⟨⟨⟨h1,h2⟩,h3⟩,h4⟩,h5⟩,h6⟩:=hchk
    simp only[aI] at hev
    split at hev
    .rename_i es hes
     have key:=XM (pu:=pu) hs htr hfl hop hu h1 h2 h3 h4 h5 h6 hes
     cases pu with
     | true=>
      simp only[if_true,Option.some.injEq,Prod.mk.injEq] at hev
      let⟨rfl,rfl⟩:=hev
      simpa using key
     | false=>
      simp only[Bool.false_eq_true,if_false,Option.some.injEq,Prod.mk.injEq] at hev
      let⟨rfl,rfl⟩:=hev
      simpa using key
    .cases hev
   .cases hchk
  .cases hchk
 | load agg n x=>
  simp only[bZ] at hchk
  split at hchk
  .simp only[Bool.and_eq_true] at hchk
   let⟨⟨⟨h1,h2⟩,h3⟩,h4⟩:=hchk
   simp only[aI] at hev
   split at hev
   .rename_i cs hcs
    cases agg with
    | true=>
     simp only[if_true,Option.some.injEq,Prod.mk.injEq] at hev
     let⟨rfl,rfl⟩:=hev
     exact MO hs htr hop h4 h1 h2 hcs<|by simp
    | false=>
     simp only[Bool.false_eq_true,if_false] at hev
     split at hev
     .simp only[Option.some.injEq,Prod.mk.injEq] at hev
      let⟨rfl,rfl⟩:=hev
      exact MO hs htr hop h4 h1 h2 hcs<|by simp
     .cases hev
   .cases hev
  .cases hchk
 | store n x u=>
  simp only[bZ] at hchk
  split at hchk
  .simp only[Bool.and_eq_true] at hchk
   let⟨⟨h1,h2⟩,h3⟩:=hchk
   simp only[aI] at hev
   split at hev
   .rename_i cs hcs
    split at hev
    .rename_i hn
     split at hev
     .rename_i H1 hst
      simp only[Option.some.injEq,Prod.mk.injEq] at hev
      let⟨rfl,rfl⟩:=hev
      exact V4 hs htr hop h2 h3 h1 hcs hn hst
     .cases hev
    .cases hev
   .cases hev
  .cases hchk
 | nilCheck x=>
  simp only[bZ] at hchk
  split at hchk
  .simp only[aI] at hev
   split at hev
   .rename_i id tot idx off hx
    simp only[Option.some.injEq,Prod.mk.injEq] at hev
    let⟨rfl,rfl⟩:=hev
    exact vV hs htr hop hchk<|.inl ⟨_,_,_,_,hx⟩
   .rename_i cs hx
    simp only[Option.some.injEq,Prod.mk.injEq] at hev
    let⟨rfl,rfl⟩:=hev
    exact vV hs htr hop hchk<|.inr<|.inl ⟨_,hx⟩
   .rename_i cs hx
    simp only[Option.some.injEq,Prod.mk.injEq] at hev
    let⟨rfl,rfl⟩:=hev
    exact vV hs htr hop hchk<|.inr<|.inr<|.inl ⟨_,hx⟩
   .rename_i vi caps hx
    simp only[Option.some.injEq,Prod.mk.injEq] at hev
    let⟨rfl,rfl⟩:=hev
    exact vV hs htr hop hchk<|.inr<|.inr<|.inr ⟨_,_,hx⟩
   .cases hev
  .cases hchk
 | ibin op x y=>
  simp only[bZ] at hchk
  split at hchk
  .simp only[Bool.and_eq_true,decide_eq_true_eq] at hchk
   let⟨⟨rfl,h1⟩,h2⟩:=hchk
   simp only[aI] at hev
   split at hev
   .rename_i k n k' m e1 e2
    split at hev
    .rename_i hk
     subst hk
     split at hev
     .rename_i r hr
      simp only[Option.some.injEq,Prod.mk.injEq] at hev
      let⟨rfl,rfl⟩:=hev
      exact aCw hs htr hop h1 h2 e1 e2 hr
     .cases hev
    .cases hev
   .cases hev
  .cases hchk
 | bin op t x y=>
  simp only[bZ] at hchk
  split at hchk
  .simp only[Bool.and_eq_true,decide_eq_true_eq,beq_iff_eq] at hchk
   let⟨⟨⟨rfl,rfl⟩,h1⟩,h2⟩:=hchk
   simp only[aI] at hev
   split at hev
   .rename_i v1 v2 e1 e2
    split at hev
    .rename_i g hg
     split at hev
     .rename_i r hr
      simp only[Option.some.injEq,Prod.mk.injEq] at hev
      let⟨rfl,rfl⟩:=hev
      split at hg
      .rename_i hn
       exact aFt hs htr hop h1 h2 e1 e2 hn hg hr
      .cases hg
     .cases hev
    .cases hev
   .cases hev
  .cases hchk
 | un op x=>
  simp only[bZ] at hchk
  split at hchk
  .simp only[Bool.and_eq_true,decide_eq_true_eq] at hchk
   let⟨rfl,h1⟩:=hchk
   simp only[aI] at hev
   split at hev
   .rename_i v1 e1
    split at hev
    .rename_i r hr
     simp only[Option.some.injEq,Prod.mk.injEq] at hev
     let⟨rfl,rfl⟩:=hev
     exact aH8 hs htr hop h1 e1 hr
    .cases hev
   .cases hev
  .cases hchk
 | conv s d x=>
  simp only[bZ] at hchk
  split at hchk
  .simp only[Bool.and_eq_true,beq_iff_eq] at hchk
   let⟨⟨rfl,rfl⟩,h1⟩:=hchk
   simp only[aI] at hev
   split at hev
   .split at hev
    .rename_i v1 e1
     split at hev
     .rename_i r hr
      simp only[Option.some.injEq,Prod.mk.injEq] at hev
      let⟨rfl,rfl⟩:=hev
      exact aCy hs htr hop h1 e1 hr
     .cases hev
    .cases hev
   .split at hev
    .rename_i hb
     split at hev
     .rename_i es e1
      split at hev
      .rename_i ns hns
       simp only[Option.some.injEq,Prod.mk.injEq] at hev
       let⟨rfl,rfl⟩:=hev
       exact W0 hs htr hop h1 (aFb e1) hb hns
      .cases hev
     .cases hev
    .cases hev
  .cases hchk
 | fieldAddr off x=>
  simp only[bZ] at hchk
  split at hchk
  .simp only[Bool.and_eq_true] at hchk
   let⟨h1,hchk⟩:=hchk
   split at hchk
   .rename_i fs hu
    split at hchk
    .rename_i fd hf
     simp only[Bool.and_eq_true,beq_iff_eq] at hchk
     let⟨hof,hchk⟩:=hchk
     split at hchk
     .rename_i i hi
      have hsz:i.size≠0:=by simpa using hchk
      simp only[aI] at hev
      split at hev
      .rename_i id tot idx k hx
       simp only[Option.some.injEq,Prod.mk.injEq] at hev
       let⟨rfl,rfl⟩:=hev
       exact Bm hs htr hop h1 hu hf hof hi hsz<|.inl ⟨_,_,_,_,hx,rfl⟩
      .rename_i cs hx
       simp only[Option.some.injEq,Prod.mk.injEq] at hev
       let⟨rfl,rfl⟩:=hev
       exact Bm hs htr hop h1 hu hf hof hi hsz<|.inr ⟨_,.inl hx,rfl⟩
      .rename_i cs hx
       simp only[Option.some.injEq,Prod.mk.injEq] at hev
       let⟨rfl,rfl⟩:=hev
       exact Bm hs htr hop h1 hu hf hof hi hsz<|.inr ⟨_,.inr hx,rfl⟩
      .cases hev
     .cases hchk
    .cases hchk
   .cases hchk
  .cases hchk
 | field agg n off x=>
  simp only[bZ] at hchk
  split at hchk
  .simp only[Bool.and_eq_true] at hchk
   let⟨h1,hchk⟩:=hchk
   split at hchk
   .rename_i fs hu
    split at hchk
    .rename_i fd hf
     simp only[Bool.and_eq_true,beq_iff_eq] at hchk
     let⟨⟨⟨hof,h2⟩,h3⟩,h4⟩:=hchk
     have h4':agg=true\/n=1:=by simpa using h4
     simp only[aI] at hev
     split at hev
     .rename_i cs hx
      split at hev
      .rename_i hle
       cases agg with
       | true=>
        simp only[if_true,Option.some.injEq,Prod.mk.injEq] at hev
        let⟨rfl,rfl⟩:=hev
        exact RZ hs htr hop h1 hu hf hof h2 h3 h4' hx hle<|by simp
       | false=>
        simp only[Bool.false_eq_true,if_false] at hev
        split at hev
        .rename_i c0 hc0
         simp only[Option.some.injEq,Prod.mk.injEq] at hev
         let⟨rfl,rfl⟩:=hev
         exact RZ hs htr hop h1 hu hf hof h2 h3 h4' hx hle<|by simpa using hc0
        .cases hev
      .cases hev
     .cases hev
    .cases hchk
   .cases hchk
  .cases hchk
 | idxAddr s x i=>
  simp only[bZ] at hchk
  split at hchk
  .simp only[Bool.and_eq_true] at hchk
   let⟨⟨h1,h2⟩,hchk⟩:=hchk
   split at hchk
   .rename_i e hu
    simp only[aI] at hev
    split at hev
    .rename_i n hn
     split at hev
     .rename_i f es hx
      split at hev
      .rename_i cs hcs
       split at hev
       .rename_i hl
        simp only[Option.some.injEq,Prod.mk.injEq] at hev
        let⟨rfl,rfl⟩:=hev
        exact Md hs htr hop h1 h2 hu hchk hn<|.inl ⟨_,_,_,hx,hcs,hl,rfl⟩
       .cases hev
      .cases hev
     .rename_i es hx
      split at hev
      .rename_i cs hcs
       split at hev
       .rename_i hl
        simp only[Option.some.injEq,Prod.mk.injEq] at hev
        let⟨rfl,rfl⟩:=hev
        exact Md hs htr hop h1 h2 hu hchk hn<|.inr<|.inl ⟨_,_,hx,hcs,hl,rfl⟩
       .cases hev
      .cases hev
     .rename_i id tot off len hx
      split at hev
      .rename_i s' es hob
       split at hev
       .rename_i hc
        let⟨rfl,hc1,hc2⟩:=hc
        simp only[Option.some.injEq,Prod.mk.injEq] at hev
        let⟨rfl,rfl⟩:=hev
        exact Md hs htr hop h1 h2 hu hchk hn<|.inr<|.inr ⟨_,_,_,_,_,hx,hob,hc1,hc2,rfl⟩
       .cases hev
      .cases hev
     .cases hev
    .cases hev
   .cases hchk
  .cases hchk
 | idxArr s n x i=>
  simp only[bZ] at hchk
  split at hchk
  .simp only[Bool.and_eq_true] at hchk
   let⟨⟨h1,h2⟩,hchk⟩:=hchk
   split at hchk
   .rename_i m e hu
    simp only[Bool.and_eq_true,beq_iff_eq] at hchk
    let⟨rfl,h3⟩:=hchk
    simp only[aI] at hev
    split at hev
    .rename_i k hn
     split at hev
     .rename_i hlt
      split at hev
      .rename_i id tot idx off hx
       simp only[Option.some.injEq,Prod.mk.injEq] at hev
       let⟨rfl,rfl⟩:=hev
       exact JI hs htr hop h1 h2 hu h3 hn hlt<|.inl ⟨_,_,_,_,hx,rfl⟩
      .rename_i cs hx
       simp only[Option.some.injEq,Prod.mk.injEq] at hev
       let⟨rfl,rfl⟩:=hev
       exact JI hs htr hop h1 h2 hu h3 hn hlt<|.inr ⟨_,hx,rfl⟩
      .cases hev
     .cases hev
    .cases hev
   .cases hchk
  .cases hchk
 | index agg s n x i=>
  simp only[bZ] at hchk
  split at hchk
  .simp only[Bool.and_eq_true] at hchk
   let⟨⟨h1,h2⟩,hchk⟩:=hchk
   split at hchk
   .rename_i m e hu
    simp only[Bool.and_eq_true,beq_iff_eq] at hchk
    let⟨⟨⟨rfl,h3⟩,h4⟩,h5⟩:=hchk
    have h5':agg=true\/s=1:=by simpa using h5
    simp only[aI] at hev
    split at hev
    .rename_i k hn
     split at hev
     .rename_i hlt
      split at hev
      .rename_i cs hx
       split at hev
       .rename_i hle
        cases agg with
        | true=>
         simp only[if_true,Option.some.injEq,Prod.mk.injEq] at hev
         let⟨rfl,rfl⟩:=hev
         exact RY hs htr hop h1 h2 hu h3 h4 h5' hn hlt hx hle<|by simp
        | false=>
         simp only[Bool.false_eq_true,if_false] at hev
         split at hev
         .rename_i c0 hc0
          simp only[Option.some.injEq,Prod.mk.injEq] at hev
          let⟨rfl,rfl⟩:=hev
          exact RY hs htr hop h1 h2 hu h3 h4 h5' hn hlt hx hle<|by simpa using hc0
         .cases hev
       .cases hev
      .cases hev
     .cases hev
    .cases hev
   .cases hchk
  .cases hchk
 | strIdx t x i=>
  simp only[bZ] at hchk
  split at hchk
  .simp only[Bool.and_eq_true,beq_iff_eq] at hchk
   let⟨⟨rfl,h1⟩,h2⟩:=hchk
   simp only[aI] at hev
   split at hev
   .rename_i v1 v2 e1 e2
    split at hev
    .rename_i r hr
     simp only[Option.some.injEq,Prod.mk.injEq] at hev
     let⟨rfl,rfl⟩:=hev
     exact G0 hs htr hop h1 h2 e1 e2 hr
    .cases hev
   .cases hev
  .cases hchk
 | slice s x lo hi mx=>
  simp only[bZ] at hchk
  split at hchk
  .simp only[Bool.and_eq_true] at hchk
   let⟨⟨⟨⟨h1,h2⟩,h3⟩,h4⟩,hchk⟩:=hchk
   split at hchk
   .rename_i e hu
    simp only[aI] at hev
    split at hev
    .rename_i nlo nhi nmx n1 n2 n3
     split at hev
     .rename_i r hr
      simp only[Option.some.injEq,Prod.mk.injEq] at hev
      let⟨rfl,rfl⟩:=hev
      exact V5 hs htr hop h1 h2 h3 h4 hu hchk n1 n2 n3 hr
     .cases hev
    .cases hev
   .cases hchk
  .cases hchk
 | strSlice t x lo hi=>
  simp only[bZ] at hchk
  split at hchk
  .simp only[Bool.and_eq_true,beq_iff_eq] at hchk
   let⟨⟨⟨⟨rfl,h1⟩,h2⟩,h3⟩,hchk⟩:=hchk
   split at hchk
   .rename_i hu
    simp only[aI] at hev
    split at hev
    .rename_i s nlo nhi e1 n1 n2
     split at hev
     .rename_i hc
      simp only[Option.some.injEq,Prod.mk.injEq] at hev
      let⟨rfl,rfl⟩:=hev
      exact RW hs htr hop h1 h2 h3 hu n1 n2 e1 hc
     .cases hev
    .cases hev
   .cases hchk
  .cases hchk
 | mkSlice s z bytes l k=>
  simp only[bZ] at hchk
  split at hchk
  .simp only[Bool.and_eq_true] at hchk
   let⟨⟨h1,h2⟩,hchk⟩:=hchk
   split at hchk
   .rename_i e hu
    simp only[Bool.and_eq_true,decide_eq_true_eq] at hchk
    let⟨⟨⟨h3,h4⟩,h5⟩,h6⟩:=hchk
    simp only[aI] at hev
    split at hev
    .rename_i nl nk e1 e2
     split at hev
     .rename_i hc
      simp only[Option.some.injEq,Prod.mk.injEq] at hev
      let⟨rfl,rfl⟩:=hev
      exact XJ hs htr hfl hop h1 h2 hu h3 h4 h5 h6 e1 e2 hc.1 hc.2.1 hc.2.2.1 hc.2.2.2
     .cases hev
    .cases hev
   .cases hchk
  .cases hchk
 | mkMap=>
  simp only[aI,Option.some.injEq,Prod.mk.injEq] at hev
  let⟨rfl,rfl⟩:=hev
  simp only[bZ] at hchk
  split at hchk
  .exact V7 hs hfl hop
  .cases hchk
 | lookup kt z m k ok=>
  simp only[bZ] at hchk
  split at hchk
  .simp only[Bool.and_eq_true,beq_iff_eq] at hchk
   obtain⟨⟨⟨rfl,h1⟩,h2⟩,hchk⟩:=hchk
   split at hchk
   .rename_i kt' e hu
    simp only[Bool.and_eq_true,beq_iff_eq] at hchk
    obtain⟨rfl,hchk⟩:=hchk
    split at hchk
    .rename_i i hi
     have hz:∃zv,i.zero=some zv/\RV (aG T) c (aC tm z) zv:=by
      split at hchk
      .rename_i u v hz
       exact⟨u,hz,by rw[<-AY hchk];exact RV.lit _⟩
      .rename_i us vs hz
       refine⟨.agg us,hz,?_⟩
       have:us=vs.toArray:=by rw[Zj hchk]
       rw[this]
       exact Wh vs<|vO hchk
      .cases hchk
     let⟨zv,hz1,hz2⟩:=hz
     simp only[aI] at hev
     split at hev
     .rename_i kv hk
      have fin:∀ents:List<|Value×AV,((aC tm m=.lit (.map none)/\ents=[])\/(∃id,aC tm m=.mp id/\c.H[id]?=some (.mp ents))\/aC tm m=.rmp ents)->
       (match aK P<|Instr.checkKey ents.isEmpty 10000 kt kv,jL P kt kv ents with
        | some _,some (some i)=>match ents[i]? with
         | some e=>some (if ok then AV.tup [e.2,.lit<|.bool true] else e.2,c.H)
         | none=>none
        | some _,some none=>some (if ok then AV.tup [aC tm z,.lit<|.bool false] else aC tm z,c.H)
        | _,_=>none)=some (v,H')->cZ P (aG T) c fl o a v H':=by
       intro ents hm hr
       split at hr
       .rename_i u i0 hck hf
        split at hr
        .rename_i en hen
         simp only[Option.some.injEq,Prod.mk.injEq] at hr
         let⟨rfl,rfl⟩:=hr
         exact JH hs htr hop h1 h2 hu hi hz1 hz2 hk hck hm<|.inl ⟨_,_,hf,hen,rfl,rfl⟩
        .cases hr
       .rename_i u hck hf
        simp only[Option.some.injEq,Prod.mk.injEq] at hr
        let⟨rfl,rfl⟩:=hr
        exact JH hs htr hop h1 h2 hu hi hz1 hz2 hk hck hm<|.inr ⟨hf,rfl,rfl⟩
       .cases hr
      split at hev
      .rename_i hm
       exact fin [] (.inl ⟨hm,rfl⟩) hev
      .rename_i id hm
       split at hev
       .rename_i ents hob
        exact fin ents (.inr<|.inl ⟨id,hm,hob⟩) hev
       .cases hev
      .rename_i ents hm
       exact fin ents (.inr<|.inr hm) hev
      .cases hev
     .cases hev
    .cases hchk
   .cases hchk
  .cases hchk
 | mapUpd kt m k x=>
  have fin:∀(t:TypeId) (m' k' x':Operand) (e:TypeId),(o.op=.mapUpdate t m' k' x'\/o.op=.insert t m' k' x')->aN T m m'=true->aN T k k'=true->aN T x x'=true->
   P.underlying t=some (.map kt e)->cZ P (aG T) c fl o a v H':=by
   intro t m' k' x' e ho h1 h2 h3 hu
   simp only[aI] at hev
   split at hev
   .rename_i kv id hk hm
    split at hev
    .rename_i hflid
     split at hev
     .rename_i ents hob
      split at hev
      .rename_i u i0 hck hf
       split at hev
       .rename_i en hen
        split at hev
        .rename_i hsb
         simp only[Option.some.injEq,Prod.mk.injEq] at hev
         let⟨rfl,rfl⟩:=hev
         exact JG hs htr ho h1 h2 h3 hu hk hck hflid hm hob<|.inl ⟨_,_,hf,hen,hsb,rfl⟩
        .cases hev
       .cases hev
      .rename_i u hck hf
       simp only[Option.some.injEq,Prod.mk.injEq] at hev
       let⟨rfl,rfl⟩:=hev
       exact JG hs htr ho h1 h2 h3 hu hk hck hflid hm hob<|.inr ⟨hf,rfl⟩
      .cases hev
     .cases hev
    .cases hev
   .cases hev
  simp only[bZ] at hchk
  split at hchk
  .simp only[Bool.and_eq_true] at hchk
   let⟨⟨⟨h1,h2⟩,h3⟩,hchk⟩:=hchk
   split at hchk
   .rename_i kt' e hu
    have:kt=kt':=by simpa using hchk
    subst this
    exact fin _ _ _ _ e (.inl hop) h1 h2 h3 hu
   .cases hchk
  .simp only[Bool.and_eq_true] at hchk
   let⟨⟨⟨h1,h2⟩,h3⟩,hchk⟩:=hchk
   split at hchk
   .rename_i kt' e hu
    have:kt=kt':=by simpa using hchk
    subst this
    exact fin _ _ _ _ e (.inr hop) h1 h2 h3 hu
   .cases hchk
  .cases hchk
 | lenS x=>
  simp only[bZ] at hchk
  split at hchk
  .rename_i as ts
   split at hchk
   .rename_i y t ha ht
    simp only[Bool.and_eq_true] at hchk
    let⟨h1,hchk⟩:=hchk
    split at hchk
    .rename_i e hu
     rw[iT ha,iT ht] at hop
     simp only[aI] at hev
     split at hev
     .rename_i hx
      simp only[Option.some.injEq,Prod.mk.injEq] at hev
      let⟨rfl,rfl⟩:=hev
      exact Zu (n:=0) hs htr hop h1 hu<|.inl ⟨hx,rfl⟩
     .rename_i f es hx
      simp only[Option.some.injEq,Prod.mk.injEq] at hev
      let⟨rfl,rfl⟩:=hev
      exact Zu hs htr hop h1 hu<|.inr<|.inl ⟨_,_,hx,rfl⟩
     .rename_i es hx
      simp only[Option.some.injEq,Prod.mk.injEq] at hev
      let⟨rfl,rfl⟩:=hev
      exact Zu hs htr hop h1 hu<|.inr<|.inr<|.inr ⟨_,hx,rfl⟩
     .rename_i id tot off len hx
      simp only[Option.some.injEq,Prod.mk.injEq] at hev
      let⟨rfl,rfl⟩:=hev
      exact Zu hs htr hop h1 hu<|.inr<|.inr<|.inl ⟨_,_,_,hx⟩
     .cases hev
    .cases hchk
   .cases hchk
  .cases hchk
 | lenM x=>
  simp only[bZ] at hchk
  split at hchk
  .rename_i as ts
   split at hchk
   .rename_i y t ha ht
    simp only[Bool.and_eq_true] at hchk
    let⟨h1,hchk⟩:=hchk
    split at hchk
    .rename_i k e hu
     rw[iT ha,iT ht] at hop
     simp only[aI] at hev
     split at hev
     .rename_i hx
      simp only[Option.some.injEq,Prod.mk.injEq] at hev
      let⟨rfl,rfl⟩:=hev
      exact MP (n:=0) hs htr hop h1 hu<|.inl ⟨hx,rfl⟩
     .rename_i id hx
      split at hev
      .rename_i ents hob
       simp only[Option.some.injEq,Prod.mk.injEq] at hev
       let⟨rfl,rfl⟩:=hev
       exact MP hs htr hop h1 hu<|.inr<|.inl ⟨_,_,hx,hob,rfl⟩
      .cases hev
     .rename_i ents hx
      simp only[Option.some.injEq,Prod.mk.injEq] at hev
      let⟨rfl,rfl⟩:=hev
      exact MP hs htr hop h1 hu<|.inr<|.inr ⟨_,hx,rfl⟩
     .cases hev
    .cases hchk
   .cases hchk
  .cases hchk
 | lenStr t x=>
  simp only[bZ] at hchk
  split at hchk
  .rename_i as ts
   split at hchk
   .rename_i y t' ha ht
    simp only[Bool.and_eq_true,beq_iff_eq] at hchk
    let⟨rfl,h1⟩:=hchk
    rw[iT ha,iT ht] at hop
    simp only[aI] at hev
    split at hev
    .rename_i v1 hx
     split at hev
     .rename_i r hr
      simp only[Option.some.injEq,Prod.mk.injEq] at hev
      let⟨rfl,rfl⟩:=hev
      exact G3 hs htr hop h1 hx hr
     .cases hev
    .cases hev
   .cases hchk
  .cases hchk
 | lenC n=>
  simp only[aI,Option.some.injEq,Prod.mk.injEq] at hev
  let⟨rfl,rfl⟩:=hev
  simp only[bZ] at hchk
  split at hchk
  .rename_i as ts
   split at hchk
   .rename_i y t ha ht
    split at hchk
    .rename_i m e hu
     have:m=n:=by simpa using hchk
     subst this
     rw[iT ha,iT ht] at hop
     exact aCv hs hop hu
    .cases hchk
   .cases hchk
  .cases hchk
 | append s bytes x y=>
  simp only[bZ] at hchk
  split at hchk
  .rename_i as ts
   split at hchk
   .rename_i x' y' t t' ha ht
    simp only[Bool.and_eq_true] at hchk
    let⟨⟨⟨h1,h2⟩,h3⟩,hchk⟩:=hchk
    have h3':∃U,P.underlying t'=some U/\(U=.string\/∃e',U=.slice e'):=by
     split at h3
     .rename_i e' hu';exact⟨_,hu',.inr ⟨_,rfl⟩⟩
     .rename_i hu';exact⟨_,hu',.inl rfl⟩
     .cases h3
    let⟨U,hu',hU⟩:=h3'
    split at hchk
    .rename_i e hu
     simp only[Bool.and_eq_true] at hchk
     let⟨⟨h4,h5⟩,hchk⟩:=hchk
     split at hchk
     .rename_i i hi
      split at hchk
      .rename_i z hz
       have hzs:z.cells.size=s:=by simpa using hchk
       have hsz:i.size=s:=by simpa [cT,hi] using h4
       have hby:i.bytes=bytes:=by simpa [qE,hi] using h5
       rw[nM ha,nM ht] at hop
       simp only[aI] at hev
       split at hev
       .rename_i ys hys
        exact Ts hs htr hfl hop h1 h2 hu hu' hU hi hsz hby hz hzs hys hev
       .cases hev
      .cases hchk
     .cases hchk
    .cases hchk
   .cases hchk
  .cases hchk
 | appendP s bytes x y=>
  simp only[bZ] at hchk
  split at hchk
  .rename_i as ts
   split at hchk
   .rename_i x' y' t t' ha ht
    simp only[Bool.and_eq_true] at hchk
    let⟨⟨⟨h1,h2⟩,h3⟩,hchk⟩:=hchk
    split at h3
    .rename_i e' hu'
     split at hchk
     .rename_i e hu
      simp only[Bool.and_eq_true] at hchk
      let⟨⟨h4,h5⟩,hchk⟩:=hchk
      split at hchk
      .rename_i i hi
       split at hchk
       .rename_i z hz
        have hzs:z.cells.size=s:=by simpa using hchk
        have hsz:i.size=s:=by simpa [cT,hi] using h4
        have hby:i.bytes=bytes:=by simpa [qE,hi] using h5
        rw[nM ha,nM ht] at hop
        simp only[aI] at hev
        split at hev
        .rename_i r hr
         cases hev
         exact XO hs htr hop h1 h2 hu hu' hi hsz hby hz hzs hr
        .cases hev
       .cases hchk
      .cases hchk
     .cases hchk
    .cases h3
   .cases hchk
  .cases hchk
 | appendZ s bytes z x y=>
  simp only[bZ] at hchk
  split at hchk
  .rename_i as ts
   split at hchk
   .rename_i x' y' t t' ha ht
    simp only[Bool.and_eq_true] at hchk
    let⟨⟨⟨h1,h2⟩,h3⟩,hchk⟩:=hchk
    split at h3
    .rename_i k hu'
     split at hchk
     .rename_i e hu
      simp only[Bool.and_eq_true] at hchk
      let⟨⟨h4,h5⟩,h6⟩:=hchk
      rw[nM ha,nM ht] at hop
      simp only[aI] at hev
      split at hev
      .rename_i n hn
       split at hev
       .rename_i hc
        exact XN hs htr hfl hop h1 h2 hu hu' h4 h5 h6 hc.1 hn hc.2.1 hc.2.2 hev
       .cases hev
      .cases hev
     .cases hchk
    .cases h3
   .cases hchk
  .cases hchk
 | copy s x y=>
  simp only[bZ] at hchk
  split at hchk
  .rename_i as ts
   split at hchk
   .rename_i x' y' t t' ha ht
    simp only[Bool.and_eq_true] at hchk
    let⟨⟨h1,h2⟩,hchk⟩:=hchk
    split at hchk
    .rename_i e hu
     let⟨i,hi,hsz⟩:=dR hchk
     rw[nM ha,nM ht] at hop
     simp only[aI] at hev
     split at hev
     .rename_i ys hrd
      split at hev
      .rename_i hal
       split at hev
       .rename_i id tot off len hx
        split at hev
        .rename_i s' es hob
         split at hev
         .rename_i hc
          let⟨rfl,c2,c3,c4⟩:=hc
          exact aCx hs htr hop h1 h2 hu hi hsz hrd hal.1 hal.2 hx hob c2 c3 c4 hev
         .cases hev
        .cases hev
       .cases hev
      .cases hev
     .cases hev
    .cases hchk
   .cases hchk
  .cases hchk
 | clear s z x=>
  simp only[bZ] at hchk
  split at hchk
  .rename_i as ts
   split at hchk
   .rename_i x' t ha ht
    simp only[Bool.and_eq_true] at hchk
    let⟨h1,hchk⟩:=hchk
    split at hchk
    .rename_i e hu
     simp only[Bool.and_eq_true] at hchk
     rw[iT ha,iT ht] at hop
     refine W1 hs htr hop h1 hu hchk.1 hchk.2 ?_
     simp only[aI] at hev
     split at hev
     .rename_i hx
      cases hev
      exact .inl ⟨hx,rfl,rfl⟩
     .rename_i f hx
      cases hev
      exact .inr<|.inl ⟨f,hx,rfl,rfl⟩
     .rename_i id tot off len hx
      split at hev
      .rename_i s' es hob
       split at hev
       .rename_i hc
        let⟨rfl,c2,c3,c4,c5,c6⟩:=hc
        exact .inr<|.inr ⟨id,tot,off,len,es,hx,hob,c2,c3,c4,c5,c6,hev⟩
       .cases hev
      .cases hev
     .cases hev
    .cases hchk
   .cases hchk
  .cases hchk
 | delete kt m k=>
  simp only[bZ] at hchk
  split at hchk
  .rename_i as ts
   split at hchk
   .rename_i m' k' t ts' ha ht
    simp only[Bool.and_eq_true] at hchk
    let⟨⟨h1,h2⟩,hchk⟩:=hchk
    split at hchk
    .rename_i kt' e hu
     have:kt=kt':=by simpa using hchk
     subst this
     have ht0:ts[0]?=some t:=by rw[<-Array.getElem?_toList,ht];rfl
     rw[nM ha] at hop
     simp only[aI] at hev
     split at hev
     .rename_i kv id hk hm
      split at hev
      .rename_i hflid
       split at hev
       .rename_i ents hob
        split at hev
        .rename_i u i0 hck hf
         simp only[Option.some.injEq,Prod.mk.injEq] at hev
         let⟨rfl,rfl⟩:=hev
         exact JJ hs htr hop ht0 h1 h2 hu hk hck hflid hm hob<|.inl ⟨_,hf,rfl⟩
        .rename_i u hck hf
         simp only[Option.some.injEq,Prod.mk.injEq] at hev
         let⟨rfl,rfl⟩:=hev
         have key:=JJ hs htr hop ht0 h1 h2 hu hk hck hflid hm hob<|.inr ⟨hf,rfl⟩
         have e0:c.H.set id (.mp ents)=c.H:=by
          apply List.ext_getElem?
          intro j
          by_cases hj:j=id
          .subst hj;rw[getElem?_set_eq' hob,hob]
          .rw[getElem?_set_ne' hj]
         rw[e0] at key
         exact key
        .cases hev
       .cases hev
      .cases hev
     .cases hev
    .cases hchk
   .cases hchk
  .cases hchk
 | minmax mx xs=>
  simp only[aI] at hev
  split at hev
  .rename_i vs hvs
   split at hev
   .rename_i r hr
    simp only[Option.some.injEq,Prod.mk.injEq] at hev
    let⟨rfl,rfl⟩:=hev
    simp only[bZ] at hchk
    split at hchk
    .simp only[Bool.and_eq_true] at hchk
     obtain⟨rfl,h1⟩:=hchk
     exact JF hs htr hop (.inl rfl) h1 hvs<|by simpa using hr
    .simp only[Bool.and_eq_true,Bool.not_eq_true'] at hchk
     obtain⟨rfl,h1⟩:=hchk
     exact JF hs htr hop (.inr rfl) h1 hvs<|by simpa using hr
    .cases hchk
   .cases hev
  .cases hev
 | mkFn vi caps=>
  simp only[aI,Option.some.injEq,Prod.mk.injEq] at hev
  let⟨rfl,rfl⟩:=hev
  simp only[bZ] at hchk
  split at hchk
  .rename_i f first cs
   simp only[Bool.and_eq_true,beq_iff_eq] at hchk
   let⟨⟨h1,h2⟩,h3⟩:=hchk
   have:first=#[]:=by simpa using h1
   subst this
   exact aCu hs htr hop h2 h3
  .cases hchk
 | call pu vi args=>
  simp only[bZ] at hchk
  split at hchk
  .simp only[Bool.and_eq_true,beq_iff_eq] at hchk
   simp only[aI] at hev
   exact n9 hcf hfn hs htr hfl hop hchk.1 hchk.2 hev
  .cases hchk
 | callS vi args=>
  simp only[bZ] at hchk
  split at hchk
  .simp only[Bool.and_eq_true,beq_iff_eq] at hchk
   simp only[aI] at hev
   split at hev
   .rename_i r H1 he
    split at hev
    .rename_i hr
     cases hev
     exact W5 hcf hfn hs htr hop hchk.1 hchk.2 he hr
    .cases hev
   .cases hev
  .cases hchk
 | callF vi args=>
  simp only[bZ] at hchk
  split at hchk
  .simp only[Bool.and_eq_true,beq_iff_eq] at hchk
   simp only[aI] at hev
   exact W6 hcf hfn hs htr hfl hop hchk.1 hchk.2 hev
  .cases hchk
 | callB vi args=>
  simp only[bZ] at hchk
  split at hchk
  .simp only[Bool.and_eq_true,beq_iff_eq] at hchk
   simp only[aI] at hev
   split at hev
   .rename_i r H1 he
    cases hev
    exact W7 hcf hfn hs htr hop hchk.1 hchk.2 he
   .cases hev
  .cases hchk
 | callT s vi args=>
  simp only[bZ] at hchk
  split at hchk
  .simp only[Bool.and_eq_true,beq_iff_eq] at hchk
   simp only[aI] at hev
   exact W4 hcf hfn hs htr hfl hop hchk.1 hchk.2 hev
  .cases hchk
 | capS x=>
  simp only[bZ] at hchk
  split at hchk
  .rename_i as ts
   split at hchk
   .rename_i y t ha ht
    simp only[Bool.and_eq_true] at hchk
    let⟨h1,hchk⟩:=hchk
    split at hchk
    .rename_i e hu
     rw[iT ha,iT ht] at hop
     simp only[aI] at hev
     split at hev
     .rename_i hx
      simp only[Option.some.injEq,Prod.mk.injEq] at hev
      let⟨rfl,rfl⟩:=hev
      exact n8 (n:=0) hs htr hop h1 hu<|.inl ⟨hx,rfl⟩
     .rename_i es hx
      simp only[Option.some.injEq,Prod.mk.injEq] at hev
      let⟨rfl,rfl⟩:=hev
      exact n8 hs htr hop h1 hu<|.inr ⟨_,hx,rfl⟩
     .cases hev
    .cases hchk
   .cases hchk
  .cases hchk
 | callv pu x args=>
  simp only[bZ] at hchk
  split at hchk
  .simp only[Bool.and_eq_true] at hchk
   simp only[aI] at hev
   split at hev
   .rename_i vi caps hx
    exact W3 hcf hfn hs htr hfl hop hchk.1 hx hchk.2 hev
   .cases hev
  .cases hchk
 | extract x i=>
  simp only[bZ] at hchk
  split at hchk
  .simp only[Bool.and_eq_true,beq_iff_eq] at hchk
   let⟨rfl,h1⟩:=hchk
   simp only[aI] at hev
   split at hev
   .rename_i vs hx
    split at hev
    .rename_i u hu
     simp only[Option.some.injEq,Prod.mk.injEq] at hev
     let⟨rfl,rfl⟩:=hev
     exact XL hs htr hop h1 hx hu
    .cases hev
   .cases hev
  .cases hchk
end
section
variable {P:Program}{T:List bK}{cf:Nat->Nat->List AV->aM->Option (AV×aM)}{fl:Nat}
theorem TR.put{FT:Nat->Option Nat}{c:bV}{tm:List AV}{a:Act}{d:Option Nat}{x:AV}{v:Value}(h:TR FT c tm a.tmps)(j:RV FT c x v): TR FT c (eL tm d x) (a.put d v).tmps:=by
 cases d with
 | none=>exact h
 | some d=>
  simp only[eL,Act.put];refine⟨by simpa using h.1,λt y e=>?_⟩;rw[List.getElem?_set] at e;split at e
  .rename_i b;subst b;split at e
   .rename_i f;cases e;exact⟨v,by simp[<-h.1,f],j⟩
   .cases e
  .rename_i b;let⟨u,g,i⟩:=h.2 t y e;exact⟨u,by rw[Array.getElem?_setIfInBounds_ne b];exact g,i⟩
theorem gN(a:Act)(d:Option Nat)(v:Value): (a.put d v).defers=a.defers:=by cases d<;>rfl
theorem Am[aB]{c:bV}{tm:List AV}{a:Act}{ops:Array Oper}{g:Option<|Nat×Bool}{o:Oper}{b:Bool}(h:TR (aG T) c tm a.tmps)(e:Gt ops g o.guard=true)(d:cO tm g=some b):
 Region.wanted o (yielded ops a.tmps)=b:=by
 unfold Region.wanted;cases g with
 | none=>
  cases k:o.guard with
  | none=>
   simp only[cO,Option.some.injEq] at d;exact d
  | some q=>rw[k] at e;simp[Gt] at e
 | some q=>
  let⟨t,A⟩:=q;cases k:o.guard with
  | none=>rw[k] at e;simp[Gt] at e
  | some q=>
   let⟨j,C⟩:=q;rw[k] at e;simp only[Gt,Bool.and_eq_true,beq_iff_eq] at e;let⟨rfl,e⟩:=e;split at e
   .rename_i p s;have B:p.dst=some t:=by simpa using e
    simp only[cO] at d;have z:yielded ops a.tmps j=match a.tmps[t]? with | some (.bool b)=>some b | _=>none:=by
     unfold yielded;simp only[s,Option.bind_some,B];cases a.tmps[t]? with
     | none=>rfl
     | some v=>cases v<;>rfl
    simp only[z];simp only[aC] at d;cases i:tm[t]? with
    | none=>
     rw[i] at d;simp only[aW] at d;have y:a.tmps[t]?=none:=by
      rw[Array.getElem?_eq_none_iff,<-h.1];simpa using i
     rw[y];cases d;rfl
    | some x=>
     rw[i] at d;let⟨v,w,r⟩:=h.2 t x i;rw[w];simp only at d;split at d
     .rename_i n;rw[r.lit_inv];cases d;cases n<;>cases A<;>rfl
     .rename_i u l;rw[r.lit_inv];cases d;split
      .rename_i n m;cases m;exact (l n rfl).elim
      .rfl
     .cases d
   .cases e
theorem uK[aB](j:lP P T cf)(k:fW P T){c:bV}{a:Act}{tm:List AV}{ops:Array Oper}{i:Nat}{ao:aL}{o:Oper}{st':St}{K:Act->World->Prop}{Q:Exit->Act->World->Prop}(n:bJ (aG T) c)(d:TR (aG T) c tm a.tmps)(g:fl<=c.H.length)(u:ops[i]?=some o)(e:dO P T ops ao o=true)(b:bD P cf fl ao ⟨tm,c.H⟩=some st')(l:∀a' c',c'.H=st'.heap->bG fl c c'->bJ (aG T) c'->TR (aG T) c' st'.tmps a'.tmps->a'.defers=a.defers->(∃x v,st'.tmps=eL tm o.dst x/\a'=a.put o.dst v/\RV (aG T) c' x v)->K a' c'.w):
 wpOp P ops Q i K a c.w:=by
 simp only[dO,Bool.and_eq_true,beq_iff_eq] at e;let⟨⟨r,q⟩,h⟩:=e;unfold wpOp;rw[u];simp only;unfold bD at b;rw[r] at b;split at b
 .rename_i f;rw[Am d q f];simp only[if_true];split at b
  .rename_i v H he;cases b;left;refine YO j k n d g h he K Q ?_;intro cv c' t m s p;exact l _ c' t m s ((d.step m).put p) (gN _ _ _) ⟨v,cv,rfl,rfl,p⟩
  .cases b
 .rename_i f;rw[Am d q f];simp only[Bool.false_eq_true,if_false];cases b;exact l _ c rfl (bG.refl _ _) n (d.put<|RV.lit _) (gN _ _ _) ⟨_,_,rfl,rfl,RV.lit _⟩
 .cases b
theorem n4[aB](h:lP P T cf)(l:fW P T){ops:Array Oper}{Q:Exit->Act->World->Prop}: ∀(aops:List aL) (os:List Oper) (k:Nat) (c:bV) (a:Act) (tm:List AV) (st':St),
 dF P T ops aops os=true->(∀j o,os[j]?=some o->ops[k+j]?=some o)->bJ (aG T) c->TR (aG T) c tm a.tmps->fl<=c.H.length->bE P cf fl aops ⟨tm,c.H⟩=some st'->
 (∀a' c',c'.H=st'.heap->bG fl c c'->bJ (aG T) c'->TR (aG T) c' st'.tmps a'.tmps->a'.defers=a.defers->Q .normal a' c'.w)->wpOps P ops Q (List.range' k aops.length) a c.w
 | [],[],k,c,a,tm,st',_,_,s,f,_,d,n=>by
  simp only[bE,Option.some.injEq] at d;subst d;exact n a c rfl (bG.refl _ _) s f rfl
 | ao::r,o::os,k,c,a,tm,st',b,e,s,f,i,d,n=>by
  simp only[dF,Bool.and_eq_true] at b;simp only[bE] at d;split at d
  .rename_i g x;simp only[List.length_cons,List.range'_succ,wpOps_cons];refine uK h l s f i (e 0 o<|by simp) b.1 x ?_;intro a' c' t e2 y u z _;have:(⟨g.tmps,c'.H⟩:St)=g:=by rw[t]
   refine n4 h l r os (k+1) c' a' g.tmps st' b.2 (λj p B=>?_) y u (Nat.le_trans i e2.len) (by rw[this];exact d) ?_
   .have:=e (j+1) p (by simpa using B);rwa [show k+(j+1)=k+1+j by omega] at this
   .intro q m f1 f2 A v C;exact n q m f1 (e2.trans f2) A v<|C.trans z
  .cases d
 | [],_::_,_,_,_,_,_,b,_,_,_,_,_,_=>by cases b
 | _::_,[],_,_,_,_,_,b,_,_,_,_,_,_=>by cases b
end
section
variable {P:Program}{T:List bK}{cf:Nat->Nat->List AV->aM->Option (AV×aM)}{fl:Nat}
theorem DC[aB]{t:Nat}: ∀{a:List aQ},aQ.tmp t∈a->t∈Dz a
 | x::r,h=>by
  rcases List.mem_cons.1 h with e | b
  .subst e;simp[Dz]
  .have c:=DC b;cases x<;>simp[Dz,c]
theorem Br[aB]{tm a:List AV}{b:List aQ}(h:∀t∈Dz b,tm[t]?=a[t]?): ∀x∈b,aC tm x=aC a x:=by
 intro x d;cases x with
 | tmp t=>simp only[aC,h t<|DC d]
 | _=>rfl
theorem nY[aB]{tm a:List AV}{x:Option aQ}(h:∀y∈XD x,aC tm y=aC a y): cU tm x=cU a x:=by
 cases x with
 | none=>rfl
 | some y=>simp only[cU,h y<|by simp[XD]]
theorem YP[aB]{tm a:List AV}{H:aM}{k:xP}(h:∀x∈fP k,aC tm x=aC a x): aI P cf fl k tm H=aI P cf fl k a H:=by
 cases k with
 | build z c=>
  have e:(c.map λ(p:Nat×Nat×aQ)=>(p.1,p.2.1,aC tm p.2.2))=c.map λ(p:Nat×Nat×aQ)=>(p.1,p.2.1,aC a p.2.2):=by
   apply List.map_congr_left;intro p B;rw[h p.2.2<|by simp only[fP,List.mem_map];exact⟨p,B,rfl⟩]
  simp only[aI];have w:(c.map λ(o,s,x)=>(o,s,aC tm x))=c.map λ(o,s,x)=>(o,s,aC a x):=e;rw[w]
 | buildC z c cl=>
  have e:(c.map λ(p:Nat×Nat×aQ)=>(p.1,p.2.1,aC tm p.2.2))=c.map λ(p:Nat×Nat×aQ)=>(p.1,p.2.1,aC a p.2.2):=by
   apply List.map_congr_left;intro p B;rw[h p.2.2<|by simp only[fP,List.mem_map];exact⟨p,B,rfl⟩]
  simp only[aI];have w:(c.map λ(o,s,x)=>(o,s,aC tm x))=c.map λ(o,s,x)=>(o,s,aC a x):=e;rw[w]
 | buildSl pu s n z c=>
  have w:(c.map λ(i,x)=>(i,aC tm x))=c.map λ(i,x)=>(i,aC a x):=by
   apply List.map_congr_left;intro p B;show (p.1,aC tm p.2)=(p.1,aC a p.2);rw[h p.2<|by simp only[fP,List.mem_map];exact⟨p,B,rfl⟩]
  simp only[aI];rw[w]
 | slice s x F l mx=>
  simp only[fP] at h;simp only[aI];rw[h x<|by simp,nY λy b=>h y<|by simp[b],nY (x:=l) λy b=>h y<|by simp[b],nY (x:=mx) λy b=>h y<|by simp[b]]
 | strSlice t x F l=>
  simp only[fP] at h;simp only[aI];rw[h x<|by simp,nY λy b=>h y<|by simp[b],nY (x:=l) λy b=>h y<|by simp[b]]
 | minmax mx d=>
  simp only[fP] at h;simp only[aI];rw[List.map_congr_left h]
 | mkFn vi d=>
  simp only[fP] at h;simp only[aI];rw[List.map_congr_left h]
 | call pu vi d=>
  simp only[fP] at h;simp only[aI];rw[List.map_congr_left h]
 | callF vi d=>
  simp only[fP] at h;simp only[aI];rw[List.map_congr_left h]
 | callT s vi d=>
  simp only[fP] at h;simp only[aI];rw[List.map_congr_left h]
 | callB vi d=>
  simp only[fP] at h;simp only[aI];rw[List.map_congr_left h]
 | callS vi d=>
  simp only[fP] at h;simp only[aI];rw[List.map_congr_left h]
 | callv pu x d=>
  simp only[fP] at h;simp only[aI];rw[h x<|by simp,List.map_congr_left λy b=>h y<|by simp[b]]
 | _=>
  simp only[fP,List.mem_cons,List.not_mem_nil,or_false,forall_eq_or_imp,forall_eq,false_imp_iff,implies_true] at h;simp[aI,h]
theorem Vz[aB]{tm a:List AV}{g:Option<|Nat×Bool}(h:∀t b,g=some (t,b)->tm[t]?=a[t]?): cO tm g=cO a g:=by
 cases g with
 | none=>rfl
 | some q=>
  let⟨t,b⟩:=q;simp only[cO,aC,h t b rfl]
theorem sX[aB]{tm c:List AV}{H:aM}{o:aL}{st':St}(h:∀t∈oA o,tm[t]?=c[t]?)(a:bD P cf fl o ⟨c,H⟩=some st'):
 ∃x,st'.tmps=eL c o.dst x/\bD P cf fl o ⟨tm,H⟩=some ⟨eL tm o.dst x,st'.heap⟩:=by
 have f:cO tm o.guard=cO c o.guard:=Vz λt b e=>h t (by simp[oA,e]);have g:aI P cf fl o.op tm H=aI P cf fl o.op c H:=YP<|Br λt d=>h t (by
  unfold oA;split
  .simp[d]
  .exact d)
 unfold bD at a |-;simp only[f,g] at a |-;split at a
 .split at a
  .rename_i v H1 he;cases a;exact⟨v,rfl,rfl⟩
  .cases a
 .cases a;exact⟨_,rfl,rfl⟩
 .cases a
theorem EK[aB]{tm:List AV}{H H':aM}{f:xP}{v:AV}(b:eR f=true)(a:aI P cf fl f tm H=some (v,H')): H'=H:=by
 cases f with
 | call pu vi h=>
  simp only[eR] at b;subst b;simp only[aI,kR] at a;split at a<;>split at a<;>cases a<;>rfl
 | callv pu x h=>
  simp only[eR] at b;subst b;simp only[aI,kR] at a;split at a
  .split at a<;>split at a<;>cases a<;>rfl
  .cases a
 | buildSl pu s n z i=>
  simp only[eR] at b;subst b;simp only[aI,if_true] at a;split at a<;>cases a;rfl
 | lookup kt z m k ok=>
  simp only[aI] at a;split at a
  .split at a
   .split at a
    .split at a<;>cases a;rfl
    .cases a;rfl
    .cases a
   .split at a
    .split at a
     .split at a<;>cases a;rfl
     .cases a;rfl
     .cases a
    .cases a
   .split at a
    .split at a<;>cases a;rfl
    .cases a;rfl
    .cases a
   .cases a
  .cases a
 | _=>
  first
  | (simp[eR] at b;done)
  | (simp only[aI] at a;(repeat' split at a)<;>first | (cases a;rfl) | cases a)
theorem sW[aB]{st st':St}{o:aL}(b:eR o.op=true)(a:bD P cf fl o st=some st'): st'.heap=st.heap:=by
 unfold bD at a;split at a
 .split at a
  .rename_i v H he;cases a;exact EK b he
  .cases a
 .cases a;rfl
 .cases a
theorem BB[aB]: ∀(aops:List aL) (st st':St),bE P cf fl aops st=some st'->
 ∃S:Nat->St,S 0=st/\S aops.length=st'/\∀k ao,aops[k]?=some ao->bD P cf fl ao (S k)=some (S<|k+1)
 | [],st,st',h=>by
  simp only[bE,Option.some.injEq] at h;exact⟨λ_=>st,rfl,h,λk ao a=>by simp at a⟩
 | o::r,st,st',h=>by
  simp only[bE] at h;split at h
  .rename_i b e;let⟨S,c,e2,d⟩:=BB r b st' h;refine⟨λk=>match k with | 0=>st | k+1=>S k,rfl,by simpa using e2,λk ao a=>?_⟩;cases k with
   | zero=>
    simp only[List.getElem?_cons_zero,Option.some.injEq] at a;subst a;rw[e,<-c]
   | succ k=>
    simp only[List.getElem?_cons_succ] at a;exact d k ao a
  .cases h
def sY(aops:List aL)(k:Nat): Option Nat:=match aops[k]? with | some o=>o.dst | none=>none
def fG(aops:List aL)(tm:List AV)(val:Nat->AV)(D:Nat->Bool): Nat->List AV
 | 0=>tm
 | n+1=>if D n then eL (fG aops tm val D n) (sY aops n) (val n) else fG aops tm val D n
theorem mT(tm:List AV)(d:Option Nat)(x:AV): (eL tm d x).length=tm.length:=by cases d<;>simp[eL]
theorem dC[aB]{aops:List aL}{tm:List AV}{val:Nat->AV}{D:Nat->Bool}: ∀n,(fG aops tm val D n).length=tm.length
 | 0=>rfl
 | n+1=>by
  simp only[fG];split
  .rw[mT,dC n]
  .exact dC n
theorem iS{tm:List AV}{d:Option Nat}{x:AV}{t:Nat}: (eL tm d x)[t]?=if d=some t then (if t<tm.length then some x else none) else tm[t]?:=by
 cases d with
 | none=>simp[eL]
 | some d=>
  simp only[eL,List.getElem?_set,Option.some.injEq];by_cases e:d=t
  .subst e;rfl
  .simp[e]
theorem mZ[aB]{aops:List aL}{tm:List AV}{val:Nat->AV}{D D':Nat->Bool}{t:Nat}: ∀n,(∀j,j<n->sY aops j=some t->D j=D' j)->(fG aops tm val D n)[t]?=(fG aops tm val D' n)[t]?
 | 0,_=>rfl
 | n+1,h=>by
  have d:=mZ (val:=val) (tm:=tm) n λj e b=>h j (by omega) b;simp only[fG];by_cases b:sY aops n=some t
  .rw[h n (by omega) b];split
   .simp only[iS,b,if_true,dC]
   .exact d
  .have c:∀l:List AV,(eL l (sY aops n)<|val n)[t]?=l[t]?:=λl=>by rw[iS,if_neg b]
   split<;>split<;>(try simp only[c])<;>exact d
theorem Xb[aB]{aops:List aL}{tm:List AV}{val:Nat->AV}{D D':Nat->Bool}: ∀n,(∀j,j<n->D j=D' j)->fG aops tm val D n=fG aops tm val D' n
 | 0,_=>rfl
 | n+1,h=>by
  simp only[fG,h n<|by omega,Xb n λj a=>h j<|by omega]
theorem Mh[aB]{aops:List aL}{tm:List AV}{val:Nat->AV}{D:Nat->Bool}{t k:Nat}(f:D k=true)(d:sY aops k=some t): ∀n,k<n->(∀j,k<j->j<n->sY aops j=some t->D j=false)->
 (fG aops tm val D n)[t]?=if t<tm.length then some (val k) else none
 | 0,h,_=>by omega
 | n+1,l,h=>by
  simp only[fG];by_cases e:k=n
  .subst e;rw[if_pos f,iS,if_pos d,dC]
  .have c:=Mh (tm:=tm) (val:=val) f d n (by omega) λj g m i=>h j g (by omega) i;by_cases b:sY aops n=some t
   .rw[h n (by omega) (by omega) b];simpa using c
   .split
    .rw[iS,if_neg b];exact c
    .exact c
theorem tI[aB]{aops:List aL}{tm:List AV}{val:Nat->AV}{S:Nat->St}(b:(S 0).tmps=tm)(a:∀k ao,aops[k]?=some ao->(S<|k+1).tmps=eL (S k).tmps ao.dst (val k)):
 ∀n,n<=aops.length->fG aops tm val (λ_=>true) n=(S n).tmps
 | 0,_=>b.symm
 | n+1,h=>by
  have c:n<aops.length:=by omega
  simp only[fG,if_true,tI b a n<|by omega];rw[a n aops[n]<|by simp];simp[sY,c]
theorem mY[aB]{aops:List aL}{tm:List AV}{val:Nat->AV}{D:Nat->Bool}{k:Nat}: ∀n,k<=n->(∀j,k<=j->j<n->D j=false)->fG aops tm val D n=fG aops tm val D k
 | 0,h,_=>by have:k=0:=(by omega);rw[this]
 | n+1,h,b=>by
  by_cases e:k=n+1
  .rw[e]
  .simp only[fG,b n (by omega)<|by omega];simpa using mY n (by omega) λj c d=>b j c<|by omega
theorem Bs[aB]{aops:List aL}{tm:List AV}{val:Nat->AV}{S:Nat->St}{D:Nat->Bool}{k n:Nat}(c:(S 0).tmps=tm)(a:∀k ao,aops[k]?=some ao->(S<|k+1).tmps=eL (S k).tmps ao.dst (val k))(d:k<=n)(f:n<=aops.length)(e:∀j,j<k->D j=true)(b:∀j,k<=j->j<n->D j=false): fG aops tm val D n=(S k).tmps:=by
 rw[mY n d b,Xb (D':=λ_=>true) k e];exact tI c a k<|by omega
theorem JD[aB]{a:List Nat}{i:Nat}: ∀{ds:List Nat},(Ol a ds).testBit i=true->∃d∈ds,i=d\/(a.getD d 0).testBit i=true
 | [],h=>by simp[Ol] at h
 | d::r,h=>by
  simp only[Ol,Nat.testBit_or,Bool.or_eq_true] at h;rcases h with (h | h) | h
  .have:d=i:=by simpa [Nat.testBit_two_pow] using h
   exact⟨d,by simp,.inl this.symm⟩
  .exact⟨d,by simp,.inr h⟩
  .let⟨e,c,b⟩:=JD h;exact⟨e,by simp[c],b⟩
def aAA(ops:List Oper)(k:Nat): List Nat:=match ops[k]? with
 | some o=>(o.after.toList.filter λe=>Region.binds .any e&&decide (e.on<k)).map λ(e:Edge)=>e.on
 | none=>[]
theorem LG[aB]{ops:List Oper}: ∀(n:Nat) (a:List Nat),(∃L,kQ ops n a=a++L/\L.length=n) /\
 ∀k,a.length<=k->k<a.length+n->(kQ ops n a).getD k 0=Ol ((kQ ops n a).take k) (aAA ops k)
 | 0,a=>⟨⟨[],by simp[kQ],rfl⟩,λk c d=>by omega⟩
 | n+1,a=>by
  let⟨⟨L,c,d⟩,h⟩:=LG (ops:=ops) n<|a++[Ol a<|aAA ops a.length];have e:kQ ops (n+1) a=kQ ops n (a++[Ol a<|aAA ops a.length]):=rfl;rw[e];refine⟨⟨Ol a (aAA ops a.length)::L,by rw[c];simp,by simp[d]⟩,λk i f=>?_⟩;by_cases g:k=a.length
  .subst g;rw[c];simp[List.getD_eq_getElem?_getD]
  .exact h k (by simp;omega)<|by simp;omega
theorem FX[aB]{ops:List Oper}{k i:Nat}(g:k<ops.length)(h:((kQ ops ops.length []).getD k 0).testBit i=true):
 ∃o,ops[k]?=some o/\∃e∈o.after,Region.binds .any e=true/\e.on<k/\(i=e.on\/((kQ ops ops.length []).getD e.on 0).testBit i=true):=by
 let⟨_,j⟩:=LG (ops:=ops) ops.length [];rw[j k (by simp)<|by simpa using g] at h;let⟨d,f,a⟩:=JD h;unfold aAA at f;rw[List.getElem?_eq_getElem g] at f;simp only[List.mem_map,List.mem_filter,Bool.and_eq_true,decide_eq_true_eq] at f;obtain⟨e,⟨he,l,b⟩,rfl⟩:=f;refine⟨ops[k],List.getElem?_eq_getElem g,e,by simpa using he,l,b,?_⟩;rcases a with a | a
 .exact .inl a
 .right;rw[<-a];congr 1;simp only[List.getD_eq_getElem?_getD];rw[List.getElem?_take,if_pos b]
theorem eT[aB]{f:Nat}{aops:List aL}{an:List Nat}: ∀n,sR f aops an n=true->∀i j,i<j->j<n->(an.getD j 0).testBit i=true \/
 (((bC aops i=true\/bC aops j=true)\/(i=f/\j=f+1/\dW aops i=true/\dW aops j=true))/\∃x y,aops[i]?=some x/\aops[j]?=some y/\xI x y=false/\xI y x=false)
 | 0,_,i,j,_,h=>by omega
 | n+1,h,i,j,d,p=>by
  simp only[sR,Bool.and_eq_true] at h;by_cases e:j=n
  .subst e;have:=List.all_eq_true.1 h.2 i (by simpa using d);simp only[Bool.or_eq_true,Bool.and_eq_true,beq_iff_eq] at this;rcases this with a | ⟨a,c⟩
   .exact .inl a
   .right;refine⟨by rcases a with a | ⟨⟨⟨a,g⟩,k⟩,l⟩;exact .inl a;exact .inr ⟨a,g,k,l⟩,?_⟩;split at c
    .rename_i x y m o;simp only[Bool.and_eq_true,Bool.not_eq_true'] at c;exact⟨x,y,m,o,c.1,c.2⟩
    .cases c
  .exact eT n h.1 i j d<|by omega
theorem Wd{aops:List aL}{e:List<|Nat×Nat}{an:List Nat}{n k m:Nat}(h:LS aops e an n=true)(g:k<n)(f:m<n)(c:bC aops k=true)(d:bC aops m=false):
 fK aops k=true\/(an.getD k 0).testBit m=true\/(an.getD m 0).testBit k=true\/(k,m)∈e:=by
 have b:=List.all_eq_true.1 h k (by simpa using g);simp only[Bool.or_eq_true,c,Bool.not_true,Bool.false_eq_true,or_false] at b;rcases b with b | b
 .exact .inl b
 .have a:=List.all_eq_true.1 b m (by simpa using f);simp only[Bool.or_eq_true,d,Bool.false_eq_true,false_or] at a;rcases a with (a | a) | a
  .exact .inr<|.inl a
  .exact .inr<|.inr<|.inl a
  .exact .inr<|.inr<|.inr<|by simpa using a
theorem Pv[aB]{tm:List AV}{H H':aM}{c:xP}{v:AV}{H1:aM}(d:tG c=true)(a:aI P cf fl c tm H=some (v,H1)): aI P cf fl c tm H'=some (v,H'):=by
 cases c with
 | buildSl pu s n z e=>
  simp only[tG] at d;subst d;simp only[aI,if_true] at a |-;split at a<;>cases a;rfl
 | _=>
  first
  | (simp[tG] at d;done)
  | (simp only[aI] at a |-;(repeat' split at a)<;>first | (cases a;rfl) | (cases a;simp_all) | cases a)
theorem HO{H H':aM}{x:AV}{n:Nat}(h:∀id,Ws x=some id->H'[id]?=H[id]?): cJ H' x n=cJ H x n:=by
 cases x<;>try rfl
 rename_i id tot a off;simp only[cJ,h id rfl]
theorem LU{H H':aM}{s:Nat}{x:AV}{a b mx:Option Nat}(h:∀id,Ws x=some id->H'[id]?=H[id]?): eQ H' s x a b mx=eQ H s x a b mx:=by
 cases x with
 | ms id tot off len=>simp only[eQ,h id rfl]
 | lit v=>unfold eQ;split<;>rename_i d<;>first | rfl | cases d
 | _=>rfl
theorem Wg{H H':aM}{x:AV}(h:Bj x=true): gC H 0 x=gC H' 0 x:=by
 cases x with
 | fn v caps=>cases caps<;>rfl
 | _=>first | rfl | (simp[Bj] at h)
theorem QU[aB]{H H':aM}{x:AV}(h:pO x=true): dS H 0 x=dS H' 0 x:=by
 cases x with
 | agg cs=>
  simp only[pO] at h;simp only[dS];congr 1;exact List.map_congr_left λy a=>Wg<|Mb h y a
 | _=>exact Wg (H:=H) (H':=H')<|by simpa [pO] using h
theorem wY[aB]{tm:List AV}{H H':aM}{l:xP}{v:AV}{H1:aM}{r:Option Nat}(b:bU l tm=some r)(d:∀id,r=some id->H'[id]?=H[id]?)(a:aI P cf fl l tm H=some (v,H1)): aI P cf fl l tm H'=some (v,H'):=by
 cases l with
 | load agg n x=>
  simp only[bU,Option.some.injEq] at b;simp only[aI,HO (H:=H) (H':=H') (x:=aC tm x) λid h=>d id<|by rw[<-b];exact h] at a |-;split at a
  .split at a
   .cases a;simp_all
   .split at a
    .cases a;simp_all
    .cases a
  .cases a
 | idxAddr s x i=>
  simp only[bU,Option.some.injEq] at b;simp only[aI] at a |-;split at a
  .split at a
   .split at a
    .split at a
     .cases a;simp_all
     .cases a
    .cases a
   .split at a
    .split at a
     .cases a;simp_all
     .cases a
    .cases a
   .rename_i id tot off len j;rw[d id<|by rw[<-b,j];rfl];split at a
    .split at a
     .cases a;simp_all
     .cases a
    .cases a
   .cases a
  .cases a
 | slice s x K G mx=>
  simp only[bU,Option.some.injEq] at b;simp only[aI,LU (H:=H) (H':=H') (x:=aC tm x) λid h=>d id<|by rw[<-b];exact h] at a |-;split at a
  .split at a
   .cases a;simp_all
   .cases a
  .cases a
 | lookup kt z m k ok=>
  simp only[bU,Option.some.injEq] at b;simp only[aI] at a |-;split at a
  .rename_i J E;split at a
   .rename_i w;split at a
    .split at a<;>cases a;simp_all
    .cases a;simp_all
    .cases a
   .rename_i id w;rw[d id<|by rw[<-b,w];rfl];split at a
    .rename_i C D;split at a
     .split at a<;>cases a;simp_all
     .cases a;simp_all
     .cases a
    .cases a
   .rename_i w;split at a
    .split at a<;>cases a;simp_all
    .cases a;simp_all
    .cases a
   .cases a
  .cases a
 | lenM x=>
  simp only[bU,Option.some.injEq] at b;simp only[aI] at a |-;split at a
  .cases a;simp_all
  .rename_i id j;rw[d id<|by rw[<-b,j];rfl];split at a
   .cases a;simp_all
   .cases a
  .cases a;simp_all
  .cases a
 | call pu vi c=>
  cases pu with
  | false=>simp[bU] at b
  | true=>
   simp only[bU] at b;split at b
   .rename_i f;simp only[aI,kR,f] at a |-;split at a<;>cases a;simp_all
   .cases b
 | callB vi c=>
  simp only[bU] at b;split at b
  .rename_i x;have e:eK H' (aC tm x)=eK H (aC tm x):=by
    split at b<;>first | (rename_i h;rw[h];rfl) | cases b
   simp only[aI,List.map_cons,List.map_nil,e] at a |-;split at a<;>cases a;simp_all
  .cases b
 | callS vi c=>
  simp only[bU] at b;split at b
  .rename_i f;have e:(c.map<|aC tm).map (dS H' 0)=(c.map<|aC tm).map (dS H 0):=List.map_congr_left λy F=>QU<|Bi f y F;simp only[aI,e] at a |-;split at a
   .rename_i r I he;split at a
    .rename_i d;cases a;simp[he,d]
    .cases a
   .cases a
  .cases b
 | callv pu x c=>
  cases pu with
  | false=>simp[bU] at b
  | true=>
   simp only[bU] at b;split at b
   .rename_i vi caps j;split at b
    .rename_i f;simp only[aI,j,kR,f] at a |-;split at a<;>cases a;simp_all
    .cases b
   .cases b
 | _=>simp[bU] at b
theorem DQ{s:Nat}{H H':aM}{r:AV}{q:Option<|AV×aM}(h:Kz s H q=some (r,H')): ∃o,H'=H++[o]:=by
 unfold Kz at h;repeat' split at h
 all_goals first
  | (cases h;done)
  | (cases h;exact⟨_,rfl⟩)
theorem ZI{a b:Nat}(h:Nat.blt a b=true): a<b:=Nat.le_of_ble_eq_true h
theorem oE[aB]{H:aM}{L:List cN}{id:Nat}(h:Nat.blt id H.length=true): (H++L)[id]?=H[id]?:=List.getElem?_append_left<|ZI h
theorem Pb{H:aM}{o:cN}{i id:Nat}(h:(!Nat.beq i id)=true): (H.set i o)[id]?=H[id]?:=by
 have:i≠id:=by
  intro e;subst e;simp at h
 rw[List.getElem?_set_ne this]
theorem IG[aB]{H H':aM}{s bytes id:Nat}{x r:AV}{ys:List<|List AV}(b:(match x with | .ms i _ _ _=>!Nat.beq i id | _=>Nat.blt id H.length)=true)(a:cC fl H s bytes x ys=some (r,H')): H'[id]?=H[id]?:=by
 unfold cC at a;split at a
 .split at a
  .split at a<;>cases a
   .rfl
   .exact oE b
  .split at a
   .cases a;rfl
   .split at a<;>cases a;exact oE b
  .split at a
   .split at a
    .split at a
     .cases a;rfl
     .split at a
      .split at a
       .cases a;exact Pb b
       .split at a
        .cases a;exact Pb b
        .cases a
      .cases a
    .cases a
   .cases a
  .cases a
 .cases a
def gW(cf:Nat->Nat->List AV->aM->Option (AV×aM)): Prop:=∀fl n vi args H r H',(fl<=n/\n<=H.length)->cf fl vi args H=some (r,H')->H'.take fl=H.take fl/\n<=H'.length
theorem EL[aB](B:gW cf){tm:List AV}{H H':aM}{A:xP}{v:AV}{id:Nat}(e:fQ A tm H.length id=true)(a:aI P cf fl A tm H=some (v,H')): H'[id]?=H[id]?:=by
 cases A with
 | alloc z=>simp only[aI] at a;cases a;exact oE e
 | claim s=>simp only[aI] at a;cases a;exact oE e
 | allocC z M=>simp only[aI] at a;cases a;rw[List.append_assoc];exact oE e
 | box x=>
  simp only[aI] at a;split at a<;>cases a;exact oE e
 | boxC x M=>
  simp only[aI] at a;split at a
  .split at a<;>cases a;rw[List.append_assoc];exact oE e
  .cases a
 | buildC z L M=>
  simp only[aI] at a;split at a
  .split at a<;>cases a;exact oE e
  .cases a
 | buildSl pu s n z L=>
  simp only[aI] at a;split at a
  .split at a<;>cases a
   .rfl
   .exact oE e
  .cases a
 | mkSlice s z b l c=>
  simp only[aI] at a;split at a
  .split at a<;>cases a;exact oE e
  .cases a
 | mkMap=>simp only[aI] at a;cases a;exact oE e
 | callT s vi f=>
  simp only[aI] at a;obtain⟨o,rfl⟩:=DQ a;exact List.getElem?_append_left<|ZI e
 | callF vi f=>
  simp only[aI] at a;let⟨F,G⟩:=B _ _ _ _ _ _ _ ⟨Nat.le_refl _,Nat.le_refl _⟩ a;have j:=ZI e;have:(H'.take H.length)[id]?=(H.take H.length)[id]?:=by rw[F]
  rw[List.getElem?_take,List.getElem?_take,if_pos j,if_pos j] at this;exact this
 | store n x u=>
  simp only[fQ] at e;simp only[aI] at a;split at a
  .split at a
   .split at a
    .rename_i N d;cases a;unfold eM at d;split at d
     .rename_i i tot J off K;rw[K] at e;split at d
      .split at d
       .split at d
        .split at d
         .split at d<;>cases d;exact Pb e
         .cases d
        .cases d
       .cases d
      .cases d
     .cases d
    .cases a
   .cases a
  .cases a
 | append s b x y=>
  simp only[fQ] at e;simp only[aI] at a;split at a
  .exact IG e a
  .cases a
 | mapUpd kt m k x=>
  simp only[fQ] at e;simp only[aI] at a;split at a
  .rename_i O i F G;rw[G] at e;split at a
   .split at a
    .split at a
     .split at a
      .split at a<;>cases a;exact Pb e
      .cases a
     .cases a;exact Pb e
     .cases a
    .cases a
   .cases a
  .cases a
 | _=>simp[fQ] at e
theorem nA{x y:aL}{d:Nat}(h:xI x y=false)(a:x.dst=some d): d∉oA y/\y.dst≠some d:=by
 unfold xI at h;rw[a] at h;simp only[Bool.or_eq_false_iff,beq_eq_false_iff_ne,ne_eq] at h;refine⟨λb=>?_,h.2⟩;have:(oA y).contains d=true:=by simpa using b
 rw[this] at h;cases h.1
def Fr(fl n:Nat)(H H':aM): Prop:=H'.take fl=H.take fl/\n<=H'.length
theorem Fr.refl{n:Nat}{H:aM}(h:fl<=n/\n<=H.length): Fr fl n H H:=⟨rfl,h.2⟩
theorem Fr.go{n m:Nat}{H H':aM}(h:fl<=n/\n<=m)(k:Fr fl n H H'): fl<=n/\n<=H'.length:=⟨h.1,k.2⟩
theorem Fr.trans{n:Nat}{a b c:aM}(h:Fr fl n a b)(k:Fr fl n b c): Fr fl n a c:=⟨k.1.trans h.1,k.2⟩
theorem Fr.app{n:Nat}{H L:aM}(h:fl<=n/\n<=H.length): Fr fl n H<|H++L:=⟨List.take_append_of_le_length<|Nat.le_trans h.1 h.2,by simp;omega⟩
theorem Fr.set{n:Nat}{H:aM}{i:Nat}{o:cN}(h:fl<=n/\n<=H.length)(a:fl<=i): Fr fl n H<|H.set i o:=⟨List.take_set_of_le a,by simpa using h.2⟩
theorem FV[aB]{m:Nat}{H H':aM}{s bytes:Nat}{x r:AV}{ys:List<|List AV}(h:fl<=m/\m<=H.length)(a:cC fl H s bytes x ys=some (r,H')): Fr fl m H H':=by
 unfold cC at a;split at a
 .split at a
  .split at a<;>cases a
   .exact .refl h
   .exact .app h
  .split at a
   .cases a;exact .refl h
   .split at a<;>cases a;exact .app h
  .split at a
   .split at a
    .split at a
     .cases a;exact .refl h
     .split at a
      .rename_i b;split at a
       .cases a;exact .set h b
       .split at a
        .cases a;exact .set h b
        .cases a
      .cases a
    .cases a
   .cases a
  .cases a
 .cases a
theorem OB[aB](g:gW cf){m:Nat}{tm:List AV}{H H':aM}{J:xP}{v:AV}(h:fl<=m/\m<=H.length)(a:aI P cf fl J tm H=some (v,H')): Fr fl m H H':=by
 by_cases w:eR J=true
 .rw[EK w a];exact .refl h
 .cases J with
  | alloc z=>simp only[aI] at a;cases a;exact .app h
  | claim s=>simp only[aI] at a;cases a;exact .app h
  | allocC z T=>simp only[aI] at a;cases a;rw[List.append_assoc];exact .app h
  | box x=>simp only[aI] at a;split at a<;>cases a;exact .app h
  | boxC x M=>
   simp only[aI] at a;split at a
   .split at a<;>cases a;rw[List.append_assoc];exact .app h
   .cases a
  | buildC z L M=>
   simp only[aI] at a;split at a
   .split at a<;>cases a;exact .app h
   .cases a
  | buildSl pu s n z U=>
   simp only[aI] at a;split at a
   .split at a<;>cases a
    .exact .refl h
    .exact .app h
   .cases a
  | mkSlice s z b l c=>
   simp only[aI] at a;split at a
   .split at a<;>cases a;exact .app h
   .cases a
  | mkMap=>simp only[aI] at a;cases a;exact .app h
  | rangeStr x=>simp only[aI] at a;split at a<;>cases a;exact .app h
  | nextStr x=>
   simp only[aI] at a;split at a
   .split at a
    .rename_i e;split at a
     .split at a<;>cases a
      .exact .set h e
      .exact .refl h
     .cases a
    .cases a
   .cases a
  | store n x u=>
   simp only[aI] at a;split at a
   .split at a
    .split at a
     .rename_i V d;cases a;unfold eM at d;split at d
      .split at d
       .rename_i e;split at d
        .split at d
         .split at d
          .split at d<;>cases d;exact .set h e
          .cases d
         .cases d
        .cases d
       .cases d
      .cases d
     .cases a
    .cases a
   .cases a
  | append s b x y=>
   simp only[aI] at a;split at a
   .exact FV h a
   .cases a
  | appendZ s b z x n=>
   simp only[aI] at a;split at a
   .split at a
    .exact FV h a
    .cases a
   .cases a
  | mapUpd kt m k x=>
   simp only[aI] at a;split at a
   .split at a
    .rename_i e;split at a
     .split at a
      .split at a
       .split at a<;>cases a;exact .set h e
       .cases a
      .cases a;exact .set h e
      .cases a
     .cases a
    .cases a
   .cases a
  | delete kt m k=>
   simp only[aI] at a;split at a
   .split at a
    .rename_i e;split at a
     .split at a
      .cases a;exact .set h e
      .cases a;exact .refl h
      .cases a
     .cases a
    .cases a
   .cases a
  | copy s x y=>
   simp only[aI] at a;split at a
   .split at a
    .split at a
     .split at a
      .split at a
       .rename_i e;split at a<;>cases a
        .exact .refl h
        .exact .set h e.2.2.2
       .cases a
      .cases a
     .cases a
    .cases a
   .cases a
  | clear s z x=>
   simp only[aI] at a;split at a
   .cases a;exact .refl h
   .cases a;exact .refl h
   .split at a
    .split at a
     .rename_i e;split at a<;>cases a
      .exact .refl h
      .exact .set h e.2.2.2.1
     .cases a
    .cases a
   .cases a
  | loadF n k x=>
   simp only[aI] at a;split at a
   .split at a
    .split at a
     .rename_i e;split at a
      .split at a<;>cases a;exact .set h e
      .cases a
     .cases a
    .cases a;exact .refl h
    .cases a
   .cases a
  | freeze x=>
   simp only[aI] at a;split at a
   .split at a
    .rename_i e;split at a
     .split at a<;>cases a;exact .set h e
     .cases a
    .cases a
   .split at a
    .rename_i e;split at a
     .split at a
      .split at a<;>cases a;exact .set h e
      .cases a
     .cases a
    .cases a
   .cases a;exact .refl h
  | slArr z n x=>
   simp only[aI] at a;split at a
   .split at a
    .rename_i e;split at a
     .split at a
      .split at a
       .split at a<;>cases a;exact .set h e
       .cases a
      .cases a
     .cases a
    .cases a
   .cases a
  | call pu vi f=>
   cases pu with
   | true=>simp[eR] at w
   | false=>exact g _ _ _ _ _ _ _ h a
  | callv pu x f=>
   cases pu with
   | true=>simp[eR] at w
   | false=>
    simp only[aI] at a;split at a
    .exact g _ _ _ _ _ _ _ h a
    .cases a
  | callT s vi f=>
   simp only[aI] at a;obtain⟨o,rfl⟩:=DQ a;exact .app h
  | callF vi f=>
   simp only[aI] at a;let⟨Q,R⟩:=g _ _ _ _ _ _ _ ⟨Nat.le_refl _,Nat.le_refl _⟩ a;refine⟨?_,Nat.le_trans h.2 R⟩;have:(H'.take H.length).take fl=(H.take H.length).take fl:=by rw[Q]
   rwa [List.take_take,List.take_take,Nat.min_eq_left<|Nat.le_trans h.1 h.2] at this
  | _=>simp[eR] at w
theorem KI[aB](b:gW cf){m:Nat}{o:aL}{st st':St}(h:fl<=m/\m<=st.heap.length)(a:bD P cf fl o st=some st'): Fr fl m st.heap st'.heap:=by
 unfold bD at a;split at a
 .split at a
  .rename_i v H he;cases a;exact OB b h he
  .cases a
 .cases a;exact .refl h
 .cases a
end
structure Ph (c : bV) (id s : Nat) (es : List (List AV)) : Prop where
  h : c.H[id]? = some (.blk s es)
  b : c.β id = none
  n : 0 < es.length
def M9 (c : bV) (w' : World) (id : Nat) : bV := ⟨w', c.X, upd c.β id c.w.heap.size, c.H⟩
section
variable [aB] {FT : Nat → Option Nat} {c : bV} {w' : World} {id s : Nat} {es : List (List AV)} {ob : Obj}
theorem k7 (p : Ph c id s es) {i b : Nat} (h : c.β i = some b) : i ≠ id := fun e => by
  subst e
  rw [p.b] at h
  cases h
theorem Fa (hw : w'.heap = c.w.heap.push ob) {k : Nat} {o : Obj} (h : c.w.heap[k]? = some o) : w'.heap[k]? = some o := by
  have : k < c.w.heap.size := by
    rcases Nat.lt_or_ge k c.w.heap.size with g | g
    · exact g
    · rw [Array.getElem?_eq_none g] at h; cases h
  rw [hw, Array.getElem?_push, if_neg (by omega)]
  exact h
theorem XA (p : Ph c id s es) (hw : w'.heap = c.w.heap.push ob) {b : Nat} {o : Obj} (v : OT c b) (h : c.w.heap[b]? = some o) : OT (M9 c w' id) b := fun i e => by
  by_cases q : i = id
  · subst q
    have e : upd c.β i c.w.heap.size i = some b := e
    rw [dG] at e
    cases e
    rw [Array.getElem?_eq_none (Nat.le_refl _)] at h
    cases h
  · have e : upd c.β id c.w.heap.size i = some b := e
    rw [bN q] at e
    exact v i e
theorem CT (p : Ph c id s es) (hw : w'.heap = c.w.heap.push ob) {b : Nat} {o : Obj} (v : mF c b) (h : c.w.heap[b]? = some o) : mF (M9 c w' id) b /\ w'.heap[b]? = some o := ⟨⟨v.1, XA p hw v.2 h⟩, Fa hw h⟩
theorem k6 (p : Ph c id s es) (hw : w'.heap = c.w.heap.push ob) {x : AV} {v : Value} (N : RV FT c x v) : RV FT (M9 c w' id) x v := by
  induction N with
  | pure x v z => exact .pure x v (z.mono fun b o m g => CT p hw m g)
  | ms i tot off len a cap s' n k G S q =>
    refine .ms i tot off len a cap s' n k G S fun e => ?_
    obtain ⟨u, f⟩ := q e
    refine ⟨u, ?_⟩
    rcases f with ⟨d, k2, l, j⟩ | ⟨b, cs, T, a', d, k2, l, j, v⟩
    · by_cases g : i = id
      · subst g
        have : shp c.H i = some (s, es.length) := by simp [shp, p.h]
        rw [this] at k
        cases k
        have := p.n
        omega
      · exact .inl ⟨(bN g).trans d, k2, l, j⟩
    · exact .inr ⟨b, cs, T, a', (bN (k7 p d)).trans d, Fa hw k2, l, j, v⟩
  | ptr i tot C off a s' n k G q =>
    refine .ptr i tot C off a s' n k G fun e => ?_
    obtain ⟨b, g, Q⟩ := q e
    exact ⟨b, (bN (k7 p g)).trans g, Q⟩
  | rptr cs b off cc T B d m g l z => exact .rptr cs b off cc T B d (XA p hw m g) (Fa hw g) l fun j x E => (z j x E).mono fun b o m g => CT p hw m g
  | vnil a cap => exact .vnil a cap
  | vw es b off cap cc T B s d D m g y A l z => exact .vw es b off cap cc T B s d D (XA p hw m g) (Fa hw g) y A l fun i j x E => (z i j x E).mono fun b o m g => CT p hw m g
  | mp i b q g => exact .mp i b q ((bN (k7 p g)).trans g)
  | it i b q g => exact .it i b q ((bN (k7 p g)).trans g)
  | fn vi f caps cv d R k l _ w => exact .fn vi f caps cv d R k l w
  | agg cs cv d k l _ w => exact .agg cs cv d k l w
  | tup cs cv d k l _ w => exact .tup cs cv d k l w
theorem aH2 (p : Ph c id s es) (hw : w'.heap = c.w.heap.push ob) {tm : List AV} {tv : Array Value} (a : TR FT c tm tv) : TR FT (M9 c w' id) tm tv :=
  ⟨a.1, fun t x e => let ⟨v, b, d⟩ := a.2 t x e; ⟨v, b, k6 p hw d⟩⟩
theorem aFo {cs' : Array Value} {T : TypeId} (l : bJ FT c) (p : Ph c id s es) (hw : w'.heap = c.w.heap.push (.cells cs' T (0, 0))) (u : es.length * s <= cs'.size) (O : ∀ i j x, bL es i j = some x → ∃ v, cs'[i * s + j]? = some v /\ aY v = true /\ RV FT c x v) : bJ FT (M9 c w' id) := by
  have one : ∀ {i b : Nat}, (M9 c w' id).β i = some b → (i = id /\ b = c.w.heap.size) \/ (i ≠ id /\ c.β i = some b) := fun {i b} h => by
    have h : upd c.β id c.w.heap.size i = some b := h
    by_cases e : i = id
    · subst e
      rw [dG] at h
      cases h
      exact .inl ⟨rfl, rfl⟩
    · rw [bN e] at h
      exact .inr ⟨e, h⟩
  refine ⟨?_, ?_, ?_, ?_, ?_, l.lens, ?_, ?_, ?_⟩
  · intro g cs d
    obtain ⟨cc, T, m, a, r, q, k, n, t⟩ := l.gl g cs d
    obtain ⟨f, e⟩ := CT p hw r q
    exact ⟨cc, T, m, a, f, e, k, n, fun j x z => (t j x z).mono fun b o s' l' => CT p hw s' l'⟩
  · intro i j b B o
    rcases one B with ⟨e1, e2⟩ | ⟨e1, e2⟩ <;> rcases one o with ⟨f1, f2⟩ | ⟨f1, f2⟩
    · exact e1.trans f1.symm
    · have := l.lt f2; omega
    · have := l.lt e2; omega
    · exact l.inj i j b e2 f2
  · intro i b h
    rcases one h with ⟨e1, _⟩ | ⟨_, e2⟩
    · subst e1
      exact (List.getElem?_eq_some_iff.1 p.h).1
    · exact l.dom i b e2
  · intro i b h
    rcases one h with ⟨_, e2⟩ | ⟨_, e2⟩
    · rw [e2]; exact l.fresh _ (Nat.le_refl _)
    · exact l.nx i b e2
  · intro k R
    have R : w'.heap.size <= k := R
    exact l.fresh k (by rw [hw, Array.size_push] at R; omega)
  · intro i s' m b' g h
    rcases one h with ⟨e1, e2⟩ | ⟨e1, e2⟩
    · subst e1 e2
      have g : c.H[i]? = some (.blk s' m) := g
      rw [p.h] at g
      cases g
      exact ⟨cs', T, by show w'.heap[c.w.heap.size]? = _; rw [hw]; simp, u, fun a d x A => let ⟨v, z, t, r⟩ := O a d x A; ⟨v, z, t, k6 p hw r⟩⟩
    · obtain ⟨I, U, y, J, L⟩ := l.blk i s' m b' g e2
      exact ⟨I, U, Fa hw y, J, fun a d x A => let ⟨v, z, t, r⟩ := L a d x A; ⟨v, z, t, k6 p hw r⟩⟩
  · intro i D b' g h
    rcases one h with ⟨e1, e2⟩ | ⟨e1, e2⟩
    · subst e1
      have g : c.H[i]? = some (.mp D) := g
      rw [p.h] at g
      cases g
    · obtain ⟨m, K, y, J, L⟩ := l.map i D b' g e2
      exact ⟨m, K, Fa hw y, J, fun a k x A => let ⟨N, z, t, r⟩ := L a k x A; ⟨N, z, t, k6 p hw r⟩⟩
  · intro i q b' g h
    rcases one h with ⟨e1, e2⟩ | ⟨e1, e2⟩
    · subst e1
      have g : c.H[i]? = some (.raw q) := g
      rw [p.h] at g
      cases g
    · exact Fa hw (l.raw i q b' g e2)
theorem aCk {fl : Nat} {c0 : bV} (l : bJ FT c) (h : bG fl c0 c) (hn : c0.H.length <= id) (hf : fl <= c0.H.length) (hw : w'.heap = c.w.heap.push ob) (w1 : w'.os = c.w.os) (w2 : w'.tape = c.w.tape) (w3 : w'.output = c.w.output) (w4 : c.w.drawn <= w'.drawn) : bG fl c0 (M9 c w' id) where
  X := h.X
  os := w1.trans h.os
  tape := w2.trans h.tape
  output := w3.trans h.output
  drawn := Nat.le_trans h.drawn w4
  size := by show c0.w.heap.size <= w'.heap.size; rw [hw, Array.size_push]; have := h.size; omega
  len := h.len
  frame := fun k hk v => by
    show w'.heap[k]? = _
    rw [hw, Array.getElem?_push, if_neg (by have := h.size; omega)]
    exact h.frame k hk v
  img := fun i b e => by
    have e : upd c.β id c.w.heap.size i = some b := e
    by_cases q : i = id
    · subst q
      rw [dG] at e
      cases e
      exact .inl h.size
    · rw [bN q] at e
      exact h.img i b e
  blkS := fun i s' n k => by
    obtain ⟨n', a1, a2, a3⟩ := h.blkS i s' n k
    have ne : i ≠ id := fun e => by
      subst e
      unfold shp at k
      rw [List.getElem?_eq_none hn] at k
      cases k
    refine ⟨n', a1, a2, fun e => ?_⟩
    obtain ⟨b1, b2⟩ := a3 e
    refine ⟨(bN ne).trans b1, fun b cs T f g => ?_⟩
    obtain ⟨cs', d1, d2⟩ := b2 b cs T f g
    exact ⟨cs', Fa hw d1, d2⟩
  mpS := fun i k => by
    obtain ⟨a1, a2⟩ := h.mpS i k
    have ne : i ≠ id := fun e => by
      subst e
      obtain ⟨f, he, j⟩ := k
      rw [List.getElem?_eq_none hn] at he
      cases he
    exact ⟨a1, (bN ne).trans a2⟩
  floor := fun i k => by
    obtain ⟨a1, a2, a3⟩ := h.floor i k
    have ne : i ≠ id := by omega
    refine ⟨a1, (bN ne).trans a2, fun b e => ?_⟩
    have g := a3 b e
    show w'.heap[b]? = _
    rw [<- g]
    have : b < c.w.heap.size := l.lt (a2.trans e)
    rw [hw, Array.getElem?_push, if_neg (by omega)]
theorem ZY {fl : Nat} (m : fl <= c.H.length) : bG fl c ⟨c.w, c.X, c.β, c.H ++ [.blk s es]⟩ := { X := rfl, os := rfl, tape := rfl, output := rfl, drawn := Nat.le_refl _, size := Nat.le_refl _, len := by simp, frame := fun _ _ _ => rfl, img := fun i _ l => .inr ⟨i, l⟩, blkS := fun id s n r => ⟨n, Lp r, Nat.le_refl _, fun _ => ⟨rfl, fun b cs T _ e => ⟨cs, e, rfl⟩⟩⟩, mpS := fun id p => ⟨Bo p, rfl⟩, floor := fun id k => ⟨List.getElem?_append_left (by omega), rfl, fun _ _ => rfl⟩ }
theorem aEP (d : bJ FT c) (hl : ∀ e ∈ es, e.length = s) : bJ FT ⟨c.w, c.X, c.β, c.H ++ [.blk s es]⟩ := by
  have st := ZY (c := c) (s := s) (es := es) (Nat.zero_le _)
  refine ⟨d.gl.step st, d.inj, ?_, d.nx, d.fresh, ?_, ?_, ?_, fun id q b a g => by
    have f := d.dom id b g
    rw [List.getElem?_append_left f] at a
    exact d.raw id q b a g⟩
  · intro id b g
    have := d.dom id b g
    simp
    omega
  · intro id s' es' a
    rw [List.getElem?_append] at a
    split at a
    · exact d.lens id s' es' a
    · have : id - c.H.length = 0 := by
        have := (List.getElem?_eq_some_iff.1 a).1
        simp at this
        omega
      rw [this] at a
      cases a
      exact hl
  · intro id s' es' b a g
    have f := d.dom id b g
    rw [List.getElem?_append_left f] at a
    obtain ⟨cs, T, o, y, r⟩ := d.blk id s' es' b a g
    exact ⟨cs, T, o, y, fun i j x t => let ⟨v, n, p, u⟩ := r i j x t; ⟨v, n, p, u.step st⟩⟩
  · intro id l b a g
    have f := d.dom id b g
    rw [List.getElem?_append_left f] at a
    obtain ⟨es', m, o, y, r⟩ := d.map id l b a g
    exact ⟨es', m, o, y, fun i k x t => let ⟨e, n, p, u⟩ := r i k x t; ⟨e, n, p, u.step st⟩⟩
end
theorem IH[aB]{P:Program}{T:List bK}{c:bV}{a:Act}{tm:List AV}{ops:Array Oper}{i id d:Nat}{z:List Value}{o:Oper}{K:Act->World->Prop}{Q:Exit->Act->World->Prop}(y:bJ (aG T) c)(h:TR (aG T) c tm a.tmps)(R:ops[i]?=some o)(b:dO P T ops ⟨some d,.alloc z,none⟩ o=true)(p:Ph c id z.length [z.map .lit])(I:∀a' w' t,w'.heap=c.w.heap.push (.cells z.toArray t (0,0))->w'.os=c.w.os->w'.tape=c.w.tape->w'.output=c.w.output->c.w.drawn<=w'.drawn->bJ (aG T) (M9 c w' id)->TR (aG T) (M9 c w' id) (eL tm (some d)<|.ptr id 1 0 0) a'.tmps->a'.defers=a.defers->K a' w'):
 wpOp P ops Q i K a c.w:=by
 simp only[dO,Bool.and_eq_true,beq_iff_eq] at b;let⟨⟨J,O⟩,g⟩:=b;unfold wpOp;rw[R];simp only;have C:=Am h O rfl;rw[C];left;simp only[bZ] at g;split at g
 .rename_i t G;let⟨S,v,m,M,L,q⟩:=gA g;have k:(execOp a.eval o).run P c.w=.ok (.value<|.pointer<|some ⟨c.w.heap.size,0,none⟩) (c.w.alloc<|.cells z.toArray t (0,0)):=by
   have e:=L.symm;rw[e];simp[execOp,G,Instr.alloc,zeroValue,typeInfo,m,M,newVar,newRow]
  have hw:(c.w.alloc<|.cells z.toArray t (0,0)).heap=c.w.heap.push (.cells z.toArray t (0,0)):=rfl
  have l:bJ (aG T) (M9 c (c.w.alloc<|.cells z.toArray t (0,0)) id):=aFo y p hw (by simp) (by
   intro i j x F;obtain⟨rfl,s⟩:=Vq F;simp only[List.getElem?_map,Option.map_eq_some_iff] at s;obtain⟨u,A,rfl⟩:=s;exact⟨u,by simpa using A,q u<|List.mem_of_getElem? A,RV.lit _⟩)
  have I2:=I (a.put (some d) (.pointer (some ⟨c.w.heap.size,0,none⟩))) _ t hw rfl rfl rfl (Nat.le_refl _) l (TR.put (aH2 p hw h) (by
   refine .ptr id 1 0 0 _ z.length 1 ?_ (Nat.le_refl _) λ_=>⟨c.w.heap.size,dG _ _ _,by simp⟩;simp[M9,shp,p.h])) (gN _ _ _)
  unfold Oper.wp;rw[k];rw[J] at I2;exact I2
 .grind
section
variable {P:Program}{T:List bK}{cf:Nat->Nat->List AV->aM->Option (AV×aM)}{fl:Nat}
theorem eV[aB]{ops:Array Oper}: ∀{aops:List aL} {os:List Oper},dF P T ops aops os=true->aops.length=os.length/\∀(k:Nat) (o:Oper),os[k]?=some o->∃ao,aops[k]?=some ao/\dO P T ops ao o=true
 | [],[],_=>⟨rfl,λk o h=>by simp at h⟩
 | a::r,o::s,h=>by
  simp only[dF,Bool.and_eq_true] at h;let⟨b,c⟩:=eV h.2;grind
 | [],_::_,h=>by cases h
 | _::_,[],h=>by cases h
theorem Nf[aB]{ops:List Oper}: ∀{n:Nat},Ng ops n=true->∀k o,k<n->ops[k]?=some o->∀e∈o.after,Region.binds .any e=true->e.on<k
 | 0,_,k,_,h,_,_,_,_=>by omega
 | n+1,h,k,o,c,d,e,he,f=>by
  simp only[Ng,Bool.and_eq_true] at h;by_cases g:k=n
  .grind
  .exact Nf h.1 k o (by omega) d e he f
def unl(N:Nat)(listed:Array Bool): Nat:=((List.range N).filter λi=>!listed.getD i true).length
theorem O9{N k:Nat}{a:Array Bool}(f:k<N)(h:a.getD k true=false)(d:a.size=N): unl N (a.setIfInBounds k true)<unl N a:=by
 unfold unl;have e:((List.range N).filter λi=>!(a.setIfInBounds k true).getD i true)=(((List.range N).filter λi=>!a.getD i true).filter λi=>decide<|i≠k):=by
  rw[List.filter_filter];apply List.filter_congr;intro i g;by_cases c:i=k
  .simp_all
  .rw[getD_set_ne true λe=>c e.symm];simp[c]
 rw[e];refine List.length_filter_lt_length_iff_exists.2 ⟨k,?_,by simp⟩;grind
theorem iN{a:Array Bool}{k:Nat}(b:k<a.size): a.getD k true=a.getD k false:=by grind
def gH(aops:List aL)(D:Nat->Bool): Nat->Nat
 | 0=>0
 | n+1=>if D n&&!bC aops n then n+1 else gH aops D n
theorem mV[aB]{aops:List aL}{D D':Nat->Bool}: ∀n,(∀j,j<n->bC aops j=false->D j=D' j)->gH aops D n=gH aops D' n
 | 0,_=>rfl
 | n+1,h=>by
  have b:=mV n λj a=>h j (by omega);simp only[gH];grind
theorem kD[aB]{aops:List aL}{D:Nat->Bool}{k:Nat}: ∀n,k<=n->(∀j,k<=j->j<n->bC aops j=false->D j=false)->gH aops D n=gH aops D k
 | 0,h,_=>by have:k=0:=(by omega);rw[this]
 | n+1,h,b=>by
  by_cases e:k=n+1
  .rw[e]
  .have f:=kD n (by omega) λj c d=>b j c (by omega);simp only[gH];grind
theorem ST[aB]{aops:List aL}{D:Nat->Bool}: ∀n,gH aops D n<=n
 | 0=>Nat.le_refl _
 | n+1=>by
  simp only[gH];split
  .grind
  .exact Nat.le_succ_of_le<|ST n
theorem DL[aB]{aops:List aL}{D:Nat->Bool}{p:Nat}: ∀n,gH aops D n=p+1->p<n/\D p=true/\bC aops p=false
 | 0,h=>by cases h
 | n+1,h=>by
  simp only[gH] at h;split at h
  .grind
  .let⟨b,a⟩:=DL n h;exact⟨by omega,a⟩
theorem SU[aB]{aops:List aL}{D:Nat->Bool}{m:Nat}: ∀n,m<n->D m=true->bC aops m=false->m+1<=gH aops D n
 | 0,h,_,_=>by omega
 | n+1,h,c,b=>by
  simp only[gH];split
  .omega
  .rename_i d;by_cases e:m=n
   .grind
   .exact SU n (by omega) c b
theorem iQ{aops:List aL}{k:Nat}(h:dW aops k=true): ∃d z,aops[k]?=some ⟨some d,.alloc z,none⟩:=by
 unfold dW at h;split at h
 .rename_i o f;split at h
  .rename_i c;split at h
   .rename_i g;split at h
    .rename_i b;let⟨a,e,guard⟩:=o;grind
    .cases h
   .cases h
  .cases h
 .cases h
def zAt(aops:List aL)(k:Nat): List Value:=match aops[k]? with
 | some ⟨_,.alloc z,_⟩=>z
 | _=>[]
def aC3(aops:List aL)(S:Nat->St)(sw:Nat): aM:=(S sw).heap++[.blk (zAt aops sw).length [],.blk (zAt aops<|sw+1).length [(zAt aops<|sw+1).map .lit]]
def qS(D:Nat->Bool)(sw:Nat): Bool:=D (sw+1)&&!D sw
def PL(aops:List aL)(S:Nat->St)(sw N:Nat)(D:Nat->Bool): aM:=if qS D sw=true then aC3 aops S sw else (S<|gH aops D N).heap
theorem OS[aB]{c:bV}{a:Act}{tm:List AV}{ops:Array Oper}{i id d:Nat}{z:List Value}{o:Oper}{K:Act->World->Prop}{Q:Exit->Act->World->Prop}(y:bJ (aG T) c)(h:TR (aG T) c tm a.tmps)(R:ops[i]?=some o)(b:dO P T ops ⟨some d,.alloc z,none⟩ o=true)(f:c.H[id]?=some (.blk z.length []))(n:fl<=id)(I:∀a' c',c'.H=c.H.set id (.blk z.length [z.map .lit])->bG fl c c'->bJ (aG T) c'->TR (aG T) c' (eL tm (some d)<|.ptr id 1 0 0) a'.tmps->a'.defers=a.defers->K a' c'.w):
 wpOp P ops Q i K a c.w:=by
 simp only[dO,Bool.and_eq_true,beq_iff_eq] at b;let⟨⟨J,O⟩,g⟩:=b;unfold wpOp;rw[R];simp only;have C:=Am h O rfl;rw[C];left;simp only[bZ] at g;split at g
 .rename_i t G;let⟨S,v,m,M,L,q⟩:=gA g;have k:(execOp a.eval o).run P c.w=.ok (.value<|.pointer<|some ⟨c.w.heap.size,0,none⟩) (c.w.alloc<|.cells z.toArray t (0,0)):=by
   have e:=L.symm;rw[e];simp[execOp,G,Instr.alloc,zeroValue,typeInfo,m,M,newVar,newRow]
  have p:=Rz (es':=[z.map AV.lit]) (w':=c.w.alloc<|.cells z.toArray t (0,0)) y n f (by simp) rfl rfl rfl rfl;have l:bJ (aG T) ⟨c.w.alloc<|.cells z.toArray t (0,0),c.X,upd c.β id c.w.heap.size,c.H.set id<|.blk z.length [z.map AV.lit]⟩:=by
   refine QM y f (by simp) rfl rfl rfl rfl (by intro e he;simp at he;subst he;simp) (by simp) ?_;intro i j x F;obtain⟨rfl,s⟩:=Vq F;simp only[List.getElem?_map,Option.map_eq_some_iff] at s;obtain⟨u,A,rfl⟩:=s;exact⟨u,by simpa using A,q u<|List.mem_of_getElem? A,RV.lit _⟩
  refine (eC (v:=.ptr id 1 0 0) k p l ?_) _ _ ?_
  .refine .ptr id 1 0 0 _ z.length 1 ?_ (Nat.le_refl _) λ_=>⟨c.w.heap.size,dG _ _ _,by simp⟩;rw[Ho f];simp
  .intro cv c' N B D E;rw[<-J];exact I _ c' N B D ((h.step B).put E)<|gN _ _ _
 .grind
structure aI1[aB](P:Program)(T:List bK)(fl N sw pm n0:Nat)(zp:List Value)(aops:List aL)(an:List Nat)(tm:List AV)(val:Nat->AV)(S:Nat->St)(c0:bV)(ds:List Deferred)(listed:Array Bool)(a:Act)(c:bV): Prop where
 size:listed.size=N
 sim:bJ (aG T) c
 step:bG fl c0 c
 defers:a.defers=ds
 closed:∀i j,j<N->listed.getD j false=true->(an.getD j 0).testBit i=true->listed.getD i false=true
 tr:TR (aG T) c (fG aops tm val (λj=>listed.getD j false) N) a.tmps
 heap:c.H=PL aops S sw N (λj=>listed.getD j false)
 ph:pm<N->listed.getD pm false=false->Ph c n0 zp.length [zp.map .lit]
theorem BG[aB]{aops:List aL}{an:List Nat}: ∀(n i:Nat),mG aops an n i=aops.length\/(dW aops (mG aops an n i)=true/\dW aops (mG aops an n i+1)=true)
 | 0,_=>.inl rfl
 | n+1,i=>by
  simp only[mG];split
  .grind
  .exact BG n<|i+1
theorem Wa[aB]{aops:List aL}{an:List Nat}{n i N:Nat}(a:aops.length=N): mG aops an n i+1<N->dW aops (mG aops an n i)=true/\dW aops (mG aops an n i+1)=true:=by
 intro h;rcases BG (aops:=aops) (an:=an) n i with e | e
 .omega
 .exact e
theorem BH{a:Nat}{aops:List aL}{b:List<|Nat×Nat}{an:List Nat}{n:Nat}(h:Zk a aops b an n=true): a+1<n->∀k,k<n->bC aops k=true->fK aops k=true\/(an.getD k 0).testBit a=true\/(k,a)∈b:=by
 intro e k d c;simp only[Zk] at h;grind
theorem LF[aB](hcf:lP P T cf)(hfn:fW P T){ops:Array Oper}{aops:List aL}{sw:Nat}{ck:List<|Nat×Nat}{tm:List AV}{c0:bV}{ds:List Deferred}{val:Nat->AV}{S:Nat->St}{Q:Exit->Act->World->Prop}{H1:aM}{pm n0:Nat}{zp:List Value}(hlen':aops.length=ops.size)(hget:∀k o,ops[k]?=some o->∃ao,aops[k]?=some ao/\(k≠pm->dO P T ops ao o=true))(hpm:pm<ops.size->∃d,aops[pm]?=some ⟨some d,.ptrK n0,none⟩/\∀o,ops[pm]?=some o->dO P T ops ⟨some d,.alloc zp,none⟩ o=true)(hn0:pm<ops.size->c0.H.length<=n0)(hp0:pm<ops.size->(S 0).heap[n0]?=some (.blk zp.length [zp.map .lit]))(hpk:∀k,k<pm->pm<ops.size->bC aops k=false->(S<|k+1).heap[n0]?=(S k).heap[n0]?)(hpl:pm<ops.size->∀k,pm<k->k<ops.size->bC aops k=true\/((kQ ops.toList ops.size []).getD k 0).testBit pm=true)(hord:sR sw aops (kQ ops.toList ops.size []) ops.size=true)(hstab:LS aops ck (kQ ops.toList ops.size []) ops.size=true)(hback:Ng ops.toList ops.size=true)(h0:S 0=⟨tm,H1⟩)(hc0:c0.H.length<=H1.length)(hS:∀k ao,aops[k]?=some ao->bD P cf fl ao (S k)=some (S<|k+1))(hval:∀k ao,aops[k]?=some ao->(S<|k+1).tmps=eL (S k).tmps ao.dst (val k))(hck:∀k m,(k,m)∈ck->∀ao,aops[k]?=some ao->cO (S k).tmps ao.guard=some false\/bU ao.op (S k).tmps=some none\/∃id,bU ao.op (S k).tmps=some (some id)/\(S<|m+1).heap[id]?=(S m).heap[id]?)(hsw:sw+1<ops.size->dW aops sw=true/\dW aops (sw+1)=true)(hstab2:sw+1<ops.size->∀k,k<ops.size->bC aops k=true->fK aops k=true\/((kQ ops.toList ops.size []).getD k 0).testBit sw=true\/(k,sw)∈ck)(hfo:gW cf)(hfl:fl<=c0.H.length)(hQ:∀a' c',c'.H=(S ops.size).heap->bG fl c0 c'->bJ (aG T) c'->TR (aG T) c' (S ops.size).tmps a'.tmps->a'.defers=ds->Q .normal a' c'.w):
 ∀(fuel:Nat) (listed:Array Bool) (a:Act) (c:bV),unl ops.size listed<=fuel->aI1 P T fl ops.size sw pm n0 zp aops (kQ ops.toList ops.size []) tm val S c0 ds listed a c->wpAny P .any ops Q fuel listed a c.w:=by
 have hquiet:∀k,k<ops.size->bC aops k=true->(S<|k+1).heap=(S k).heap:=by
  intro k hk hq
  have hao:aops[k]?=some (aops[k]'(by omega)):=by simp
  simp only[bC,hao] at hq
  exact sW hq<|hS k _ hao
 have hheapA:∀k,k<=ops.size->(S<|gH aops (λ_=>true) k).heap=(S k).heap:=by
  intro k
  induction k with
  | zero=>intro _;rfl
  | succ k ih=>
   intro hk
   simp only[gH,Bool.true_and]
   cases hq:bC aops k with
   | false=>rfl
   | true=>grind
 have hkeep:∀(id a b:Nat),a<=b->b<=ops.size->(∀m,a<=m->m<b->bC aops m=false->(S<|m+1).heap[id]?=(S m).heap[id]?)->(S b).heap[id]?=(S a).heap[id]?:=by
  intro id a b
  induction b with
  | zero=>grind
  | succ b ih=>
   intro h1 h2 h3
   by_cases e:a=b+1
   .rw[e]
   .have h4:(S<|b+1).heap[id]?=(S b).heap[id]?:=by
     cases hq:bC aops b with
     | true=>grind
     | false=>grind
    rw[h4]
    exact ih (by omega) (by omega) λm g1 g2=>h3 m g1<|by omega
 have h0t:(S 0).tmps=tm:=by rw[h0]
 have hlenS:∀k,k<=ops.size->fl<=(S k).heap.length:=by
  intro k
  induction k with
  | zero=>intro _;rw[h0];exact Nat.le_trans hfl hc0
  | succ k ih=>
   intro hk
   exact (KI hfo ⟨Nat.le_refl _,ih<|by omega⟩<|hS k (aops[k]'(by omega))<|by simp).2
 have done:∀(listed:Array Bool) (a:Act) (c:bV),(∀j,j<ops.size->listed.getD j false=true)->aI1 P T fl ops.size sw pm n0 zp aops (kQ ops.toList ops.size []) tm val S c0 ds listed a c->Q .normal a c.w:=by
  intro listed a c hall hI
  have hfold:fG aops tm val (λj=>listed.getD j false) ops.size=(S ops.size).tmps:=
   Bs h0t hval (Nat.le_refl _) (by omega) hall λj h1 h2=>by omega
  have hH:c.H=(S ops.size).heap:=by
   have hodd:qS (λj=>listed.getD j false) sw=false:=by
    unfold qS
    by_cases h:sw<ops.size
    .simp[hall sw h]
    .have:listed.getD (sw+1) false=false:=by
      rw[Array.getD_eq_getD_getElem?,Array.getElem?_eq_none<|by rw[hI.size];omega];rfl
     simp only[this,Bool.false_and]
   rw[hI.heap,PL,if_neg<|by rw[hodd];exact Bool.false_ne_true,mV (D':=λ_=>true) ops.size λj hj _=>hall j hj,hheapA _<|Nat.le_refl _]
  refine hQ a c hH hI.step hI.sim ?_ hI.defers
  rw[<-hfold]
  exact hI.tr
 have noready:∀(listed:Array Bool),listed.size=ops.size->Region.ready .any ops listed=[]->∀j,j<ops.size->listed.getD j false=true:=by
  intro listed hsz hr j
  induction j using Nat.strongRecOn with
  | _ j ih=>
   intro hj
   cases hd:listed.getD j false with
   | true=>rfl
   | false=>
    exfalso
    have hmem:j∈Region.ready .any ops listed:=by
     rw[mem_ready]
     refine⟨by rw[iN<|by omega];exact hd,ops[j],by simp,λe he hb=>?_⟩
     have hlt:=Nf hback j ops[j] hj (by simp) e he hb
     exact ih e.on hlt<|by omega
    rw[hr] at hmem
    cases hmem
 intro fuel
 induction fuel with
 | zero=>
  intro listed a c hu hI
  have hall:∀j,j<ops.size->listed.getD j false=true:=by
   intro j hj
   cases hd:listed.getD j false with
   | true=>rfl
   | false=>
    exfalso
    have:j∈(List.range ops.size).filter λi=>!listed.getD i true:=by
     simp only[List.mem_filter,List.mem_range,Bool.not_eq_true']
     exact⟨hj,by rw[iN<|by rw[hI.size];exact hj];exact hd⟩
    unfold unl at hu
    have h2:=List.eq_nil_of_length_eq_zero<|Nat.le_zero.1 hu
    rw[h2] at this
    cases this
  refine⟨?_,done listed a c hall hI⟩
  cases hr:Region.ready .any ops listed with
  | nil=>rfl
  | cons i r=>
   exfalso
   have:i∈Region.ready .any ops listed:=by rw[hr];simp
   rw[mem_ready] at this
   let⟨h1,o,ho,_⟩:=this
   have hi:i<ops.size:=(Array.getElem?_eq_some_iff.1 ho).1
   rw[iN<|by rw[hI.size];exact hi,hall i hi] at h1
   cases h1
 | succ fuel ih=>
  intro listed a c hu hI
  refine⟨λhr=>done listed a c (noready listed hI.size hr) hI,λk hk=>?_⟩
  rw[mem_ready] at hk
  let⟨hk1,o,ho,hedges⟩:=hk
  have hkN:k<ops.size:=(Array.getElem?_eq_some_iff.1 ho).1
  have hkD:listed.getD k false=false:=by rw[<-iN<|by rw[hI.size];exact hkN];exact hk1
  let⟨ao,hao,hok0⟩:=hget k o<|by simpa using ho
  have hol:ops.toList[k]?=some o:=by simpa using ho
  have hanc:∀i,((kQ ops.toList ops.size []).getD k 0).testBit i=true->listed.getD i false=true:=by
   intro i hi
   have hi':((kQ ops.toList ops.toList.length []).getD k 0).testBit i=true:=by simpa using hi
   let⟨o',ho',e,he,hb,hlt,hh⟩:=FX (by simpa using hkN) hi'
   rw[hol] at ho'
   cases ho'
   have hde:=hedges e he hb
   rcases hh with rfl | hh
   .exact hde
   .exact hI.closed i e.on (by omega) hde<|by simpa using hh
  have later:∀j,k<j->j<ops.size->listed.getD j false=true->((bC aops k=true\/bC aops j=true)\/(k=sw/\j=sw+1/\dW aops k=true/\dW aops j=true))/\∃x y,aops[k]?=some x/\aops[j]?=some y/\xI x y=false/\xI y x=false:=by
   intro j hkj hj hD
   rcases eT _ hord k j hkj hj with h | h
   .have:=hI.closed k j hj hD h
    rw[hkD] at this;cases this
   .exact h
  have earlier:∀j,j<k->listed.getD j false=true\/(((bC aops j=true\/bC aops k=true)\/(j=sw/\k=sw+1/\dW aops j=true/\dW aops k=true))/\∃x y,aops[j]?=some x/\aops[k]?=some y/\xI x y=false/\xI y x=false):=by
   intro j hj
   rcases eT _ hord j k hj hkN with h | h
   .exact .inl<|hanc j h
   .exact .inr h
  have hdst:sY aops k=ao.dst:=by simp[sY,hao]
  have hlook:∀t∈oA ao,(fG aops tm val (λj=>listed.getD j false) ops.size)[t]?=(S k).tmps[t]?:=by
   intro t ht
   rw[<-Bs (D:=λj=>decide<|j<k) (n:=ops.size) h0t hval (Nat.le_of_lt hkN) (by omega) (λj hj=>by simpa using hj) λj h1 _=>by simp;omega]
   apply mZ
   intro j hj hd
   by_cases hjk:j<k
   .have:decide (j<k)=true:=by simpa using hjk
    rw[this]
    rcases earlier j hjk with h | ⟨_,x,y,hx,hy,hc1,hc2⟩
    .exact h
    .exfalso
     rw[hao] at hy
     cases hy
     have hdx:x.dst=some t:=by simpa [sY,hx] using hd
     exact (nA hc1 hdx).1 ht
   .have:decide (j<k)=false:=by simpa using hjk
    rw[this]
    by_cases ej:j=k
    .subst ej;exact hkD
    .cases hDj:listed.getD j false with
     | false=>rfl
     | true=>
      exfalso
      let⟨_,x,y,hx,hy,hc1,hc2⟩:=later j (by omega) hj hDj
      rw[hao] at hx
      cases hx
      have hdy:y.dst=some t:=by simpa [sY,hy] using hd
      exact (nA hc2 hdy).1 ht
  have hset:∀j,(listed.setIfInBounds k true).getD j false=if j=k then true else listed.getD j false:=by
   intro j
   by_cases ej:j=k
   .subst ej
    simp[hI.size,hkN]
   .rw[getD_set_ne false λe=>ej e.symm,if_neg ej]
  have ancLt:∀q m,q<ops.size->((kQ ops.toList ops.size []).getD q 0).testBit m=true->m<q:=by
   intro q m
   induction q using Nat.strongRecOn with
   | _ q ihq=>
    intro hqN hqb
    have hqb':((kQ ops.toList ops.toList.length []).getD q 0).testBit m=true:=by simpa using hqb
    let⟨o',ho',e,he,hb',hlt',hh⟩:=FX (by simpa using hqN) hqb'
    rcases hh with rfl | hh
    .exact hlt'
    .have:=ihq e.on hlt' (by omega)<|by simpa using hh
     omega
  have hcl:∀i j,j<ops.size->(listed.setIfInBounds k true).getD j false=true->((kQ ops.toList ops.size []).getD j 0).testBit i=true->(listed.setIfInBounds k true).getD i false=true:=by
   intro i j hj hD hb
   rw[hset] at hD |-
   split
   .rfl
   .by_cases ej:j=k
    .subst ej;exact hanc i hb
    .rw[if_neg ej] at hD
     exact hI.closed i j hj hD hb
  have fin0:∀(x:AV) a' c',(S<|k+1).tmps=eL (S k).tmps ao.dst x->c'.H=PL aops S sw ops.size (λj=>(listed.setIfInBounds k true).getD j false)->bG fl c0 c'->(pm<ops.size->(listed.setIfInBounds k true).getD pm false=false->Ph c' n0 zp.length [zp.map .lit])->bJ (aG T) c'->TR (aG T) c' (eL (fG aops tm val (λj=>listed.getD j false) ops.size) ao.dst x) a'.tmps->a'.defers=a.defers->wpAny P .any ops Q fuel (listed.setIfInBounds k true) a' c'.w:=by
   intro x a' c' hx1 e1 e2 eph e3 e4 e5
   refine ih (listed.setIfInBounds k true) a' c' (by have:=O9 hkN hk1 hI.size;omega) ?_
   refine⟨by simpa using hI.size,e3,e2,e5.trans hI.defers,hcl,?_,e1,eph⟩
   .refine⟨by rw[dC,<-e4.1,mT,dC],λt y hy=>?_⟩
    refine e4.2 t y ?_
    rw[<-hy,iS]
    split
    .rename_i hd
     have hdk:sY aops k=some t:=by rw[hdst];exact hd
     rw[dC]
     rw[Mh (k:=k) (by simp[hset]) hdk ops.size hkN]
     .split
      .rename_i hlt
       congr 1
       have h1:(S<|k+1).tmps[t]?=some x:=by rw[hx1,iS,if_pos hd,if_pos<|by rw[<-tI h0t hval k<|by omega,dC];exact hlt]
       have h2:(S<|k+1).tmps[t]?=some (val k):=by rw[hval k ao hao,iS,if_pos hd,if_pos<|by rw[<-tI h0t hval k<|by omega,dC];exact hlt]
       rw[h1] at h2
       exact Option.some.inj h2
      .rfl
     .intro j h1 h2 h3
      rw[hset,if_neg<|by omega]
      cases hDj:listed.getD j false with
      | false=>rfl
      | true=>
       exfalso
       let⟨_,x',y',hx',hy',hc1,hc2⟩:=later j h1 h2 hDj
       rw[hao] at hx'
       cases hx'
       have hdy:y'.dst=some t:=by simpa [sY,hy'] using h3
       exact (nA hc1 hd).2 hdy
    .rename_i hd
     apply mZ
     intro j hj hdj
     rw[hset]
     by_cases ej:j=k
     .subst ej
      rw[hdst] at hdj
      exact (hd hdj).elim
     .rw[if_neg ej]
  have hbox:∀D:Nat->Bool,pm<ops.size->D pm=false->(∀j,ops.size<=j->D j=false)->(∀i j,j<ops.size->D j=true->((kQ ops.toList ops.size []).getD j 0).testBit i=true->D i=true)->(PL aops S sw ops.size D)[n0]?=some (.blk zp.length [zp.map .lit]):=by
   intro D hp hDp hDN hDc
   have below:∀p,p<ops.size->D p=true->bC aops p=false->p<pm:=by
    intro p h1 h2 h3
    rcases Nat.lt_trichotomy p pm with g | g | g
    .exact g
    .rw[g,hDp] at h2;cases h2
    .rcases hpl hp p g h1 with q | q
     .rw[h3] at q;cases q
     .rw[hDc pm p h1 h2 q] at hDp;cases hDp
   have at0:∀b,b<=pm->(S b).heap[n0]?=some (.blk zp.length [zp.map .lit]):=by
    intro b hb
    rw[hkeep n0 0 b (Nat.zero_le _) (by omega) λm _ g2 g3=>hpk m (by omega) hp g3]
    exact hp0 hp
   unfold PL
   split
   .rename_i hodd
    simp only[qS,Bool.and_eq_true,Bool.not_eq_true'] at hodd
    have hN:sw+1<ops.size:=by
     rcases Nat.lt_or_ge (sw+1) ops.size with g | g
     .exact g
     .exfalso;exact absurd hodd.1 (by rw[hDN _ g];simp)
    let⟨_,h2⟩:=hsw hN
    have:=below (sw+1) hN hodd.1 (by let⟨d,z,hz⟩:=iQ h2;simp[bC,hz,eR])
    have e:=at0 sw (by omega)
    rw[aC3,List.getElem?_append_left (List.getElem?_eq_some_iff.1 e).1]
    exact e
   .cases hl:gH aops D ops.size with
    | zero=>exact at0 0 (Nat.zero_le _)
    | succ p=>
     let⟨q1,q2,q3⟩:=DL ops.size hl
     exact at0 (p+1) (below p q1 q2 q3)
  by_cases hkp:k=pm
  .subst hkp
   let⟨d,p1,p2⟩:=hpm hkN
   rw[hao] at p1
   cases p1
   have P0:=hI.ph hkN hkD
   refine IH hI.sim hI.tr ho (p2 o ho) P0 ?_
   intro a' w' t g1 g2 g3 g4 g5 g6 g7 g8
   refine fin0 (.ptr n0 1 0 0) a' (M9 c w' n0) ?_ ?_ (aCk hI.sim hI.step (hn0 hkN) hfl g1 g2 g3 g4 g5) (λ_ g=>by rw[hset,if_pos rfl] at g;cases g) g6 g7 g8
   .have:=hS k _ hao
    simp only[bD,cO,aI,Option.some.injEq] at this
    rw[<-this]
   .show c.H=_
    have hqk:bC aops k=true:=by simp[bC,hao,eR]
    have ne1:qS (λj=>(listed.setIfInBounds k true).getD j false) sw=qS (λj=>listed.getD j false) sw:=by
     unfold qS
     by_cases hN:sw+1<ops.size
     .let⟨h1,h2⟩:=hsw hN
      let⟨d1,z1,hz1⟩:=iQ h1
      let⟨d2,z2,hz2⟩:=iQ h2
      have a1:sw≠k:=λe=>by rw[e,hao] at hz1;cases hz1
      have a2:sw+1≠k:=λe=>by rw[e,hao] at hz2;cases hz2
      show ((listed.setIfInBounds k true).getD (sw+1) false&&!(listed.setIfInBounds k true).getD sw false)=(listed.getD (sw+1) false&&!listed.getD sw false)
      rw[hset,hset,if_neg a1,if_neg a2]
     .have z0:∀l:Array Bool,l.size=ops.size->l.getD (sw+1) false=false:=λl hl=>by
       rw[Array.getD_eq_getD_getElem?,Array.getElem?_eq_none<|by rw[hl];omega];rfl
      show ((listed.setIfInBounds k true).getD (sw+1) false&&!(listed.setIfInBounds k true).getD sw false)=(listed.getD (sw+1) false&&!listed.getD sw false)
      rw[z0 _ hI.size,z0 _ (by simpa using hI.size)];rfl
    rw[hI.heap]
    unfold PL
    rw[ne1,mV (D':=λj=>(listed.setIfInBounds k true).getD j false) ops.size λj _ hq=>by
     rw[hset,if_neg λe=>by rw[e,hqk] at hq;cases hq]]
  have hok:=hok0 hkp
  have fin:∀(x:AV) a' c',(S<|k+1).tmps=eL (S k).tmps ao.dst x->c'.H=PL aops S sw ops.size (λj=>(listed.setIfInBounds k true).getD j false)->bG fl c c'->bJ (aG T) c'->TR (aG T) c' (eL (fG aops tm val (λj=>listed.getD j false) ops.size) ao.dst x) a'.tmps->a'.defers=a.defers->wpAny P .any ops Q fuel (listed.setIfInBounds k true) a' c'.w:=by
   intro x a' c' hx1 e1 e2 e3 e4 e5
   refine fin0 x a' c' hx1 e1 (hI.step.trans e2) (λhp hD=>?_) e3 e4 e5
   have hD0:listed.getD pm false=false:=by rw[hset,if_neg λe=>hkp e.symm] at hD;exact hD
   have P0:=hI.ph hp hD0
   have hH:c'.H[n0]?=some (.blk zp.length [zp.map .lit]):=by rw[e1];exact hbox _ hp hD (λj hj=>by rw[Array.getD_eq_getD_getElem?,Array.getElem?_eq_none<|by simpa [hI.size] using hj];rfl) hcl
   let⟨n',q1,_,q3⟩:=e2.blkS n0 zp.length 1 (by simp[shp,P0.h])
   have q4:n'=1:=by simp[shp,hH] at q1;exact q1.symm
   exact⟨hH,((q3 q4.symm).1).trans P0.b,Nat.zero_lt_one⟩
  have byOp:∀c1:bV,c1.w=c.w->bG fl c c1->bJ (aG T) c1->(∃st',bD P cf fl ao ⟨(S k).tmps,c1.H⟩=some st'/\st'.tmps=(S<|k+1).tmps/\st'.heap=PL aops S sw ops.size (λj=>(listed.setIfInBounds k true).getD j false))->wpOp P ops Q k (λa' w'=>wpAny P .any ops Q fuel (listed.setIfInBounds k true) a' w') a c.w:=by
   intro c1 hw hst hs1 ⟨stk',hevk',hstt,hsth⟩
   let⟨x,hx1,hx2⟩:=sX (tm:=fG aops tm val (λj=>listed.getD j false) ops.size) hlook hevk'
   rw[hstt] at hx1
   rw[<-hw]
   refine uK hcf hfn hs1 (hI.tr.step hst) (Nat.le_trans hfl (hI.step.trans hst).len) ho hok hx2 ?_
   intro a' c' e1 e2 e3 e4 e5 _
   exact fin x a' c' hx1 (e1.trans hsth) (hst.trans e2) e3 e4 e5
  have hmutA:∀m,dW aops m=true->bC aops m=false:=by
   intro m hm
   let⟨d,z,hz⟩:=iQ hm
   simp[bC,hz,eR]
  have pairF:sw+1<ops.size->∃d1 z1 d2 z2,aops[sw]?=some ⟨some d1,.alloc z1,none⟩/\aops[sw+1]?=some ⟨some d2,.alloc z2,none⟩/\zAt aops sw=z1/\zAt aops (sw+1)=z2 /\
   S (sw+1)=⟨(S sw).tmps.set d1<|.ptr (S sw).heap.length 1 0 0,(S sw).heap++[.blk z1.length [z1.map .lit]]⟩ /\
   S (sw+2)=⟨(S<|sw+1).tmps.set d2<|.ptr ((S sw).heap.length+1) 1 0 0,(S sw).heap++[.blk z1.length [z1.map .lit],.blk z2.length [z2.map .lit]]⟩:=by
   intro h
   let⟨h1,h2⟩:=hsw h
   let⟨d1,z1,e1⟩:=iQ h1
   let⟨d2,z2,e2⟩:=iQ h2
   have t1:=hS sw _ e1
   have t2:=hS (sw+1) _ e2
   simp only[bD,cO,aI,eL,Option.some.injEq] at t1 t2
   refine⟨d1,z1,d2,z2,e1,e2,by simp[zAt,e1],by simp[zAt,e2],t1.symm,?_⟩
   rw[<-t2,<-t1]
   simp
  by_cases hodd:qS (λj=>listed.getD j false) sw=true
  .have ho2:listed.getD (sw+1) false=true/\listed.getD sw false=false:=by
    simp only[qS,Bool.and_eq_true,Bool.not_eq_true'] at hodd;exact hodd
   have hswN:sw+1<ops.size:=by
    rcases Nat.lt_or_ge (sw+1) ops.size with h | h
    .exact h
    .have:=ho2.1
     rw[Array.getD_eq_getD_getElem?,Array.getElem?_eq_none<|by rw[hI.size];exact h] at this
     cases this
   let⟨hal1,hal2⟩:=hsw hswN
   let⟨d1,z1,d2,z2,p1,p2,p3,p4,p5,p6⟩:=pairF hswN
   have hcH:c.H=(S sw).heap++[.blk z1.length [],.blk z2.length [z2.map .lit]]:=by
    rw[hI.heap,PL,if_pos hodd,aC3,p3,p4]
   have hbehind:∀j,sw+1<j->j<ops.size->bC aops j=false->listed.getD j false=false:=by
    intro j h1 h2 h3
    cases hd:listed.getD j false with
    | false=>rfl
    | true=>
     rcases eT _ hord sw j (by omega) h2 with h | ⟨(h | h) | h,_⟩
     .have:=hI.closed sw j h2 hd h
      rw[ho2.2] at this;cases this
     .rw[hmutA sw hal1] at h;cases h
     .rw[h3] at h;cases h
     .omega
   by_cases hksw:k=sw
   .subst hksw
    rw[hao] at p1
    cases p1
    have hid:c.H[(S k).heap.length]?=some (.blk z1.length []):=by rw[hcH];simp
    refine OS (id:=(S k).heap.length) hI.sim hI.tr ho hok hid (hlenS k<|by omega) ?_
    intro a' c' e1 e2 e3 e4 e5
    refine fin (.ptr (S k).heap.length 1 0 0) a' c' (by rw[p5];rfl) ?_ e2 e3 e4 e5
    have hnod:qS (λj=>(listed.setIfInBounds k true).getD j false) k=false:=by simp[qS,hset]
    rw[e1,PL,if_neg<|by rw[hnod];exact Bool.false_ne_true,kD (k:=k+2) ops.size (by omega) λj h1 h2 h3=>by
     rw[hset,if_neg<|by omega];exact hbehind j (by omega) h2 h3]
    have hl2:gH aops (λj=>(listed.setIfInBounds k true).getD j false) (k+2)=k+2:=by
     have e:(listed.setIfInBounds k true).getD (k+1) false=true:=by rw[hset,if_neg<|by omega];exact ho2.1
     show (if ((listed.setIfInBounds k true).getD (k+1) false&&!bC aops (k+1))=true then k+1+1 else _)=_
     rw[e,hmutA _ hal2]
     rfl
    rw[hl2,p6,hcH]
    simp
   .have hq:bC aops k=true:=by
     cases hq:bC aops k with
     | true=>rfl
     | false=>
      exfalso
      rcases Nat.lt_or_ge k sw with h | h
      .rcases eT _ hord k (sw+1) (by omega) hswN with g | ⟨(g | g) | g,_⟩
       .have:=hI.closed k (sw+1) hswN ho2.1 g
        rw[hkD] at this;cases this
       .rw[hq] at g;cases g
       .rw[hmutA _ hal2] at g;cases g
       .omega
      .by_cases h':k=sw+1
       .subst h';rw[hkD] at ho2;cases ho2.1
       .rcases eT _ hord sw k (by omega) hkN with g | ⟨(g | g) | g,_⟩
        .have:=hanc sw g
         rw[ho2.2] at this;cases this
        .rw[hmutA _ hal1] at g;cases g
        .rw[hq] at g;cases g
        .omega
    have hD':qS (λj=>(listed.setIfInBounds k true).getD j false) sw=true:=by
     have q1:(listed.setIfInBounds k true).getD sw false=false:=by rw[hset,if_neg λe=>hksw e.symm];exact ho2.2
     have q2:(listed.setIfInBounds k true).getD (sw+1) false=true:=by
      rw[hset]
      split
      .rfl
      .exact ho2.1
     simp only[qS,q1,q2]
     rfl
    refine byOp c rfl (bG.refl _ _) hI.sim ?_
    have hpe:PL aops S sw ops.size (λj=>(listed.setIfInBounds k true).getD j false)=c.H:=by
     rw[PL,if_pos hD',hI.heap,PL,if_pos hodd]
    rw[hpe]
    have hev:=hS k ao hao
    have hqo:eR ao.op=true:=by simpa [bC,hao] using hq
    have hwant:∀(hop:∀v H1,aI P cf fl ao.op (S k).tmps (S k).heap=some (v,H1)->aI P cf fl ao.op (S k).tmps c.H=some (v,c.H)),∃st',bD P cf fl ao ⟨(S k).tmps,c.H⟩=some st'/\st'.tmps=(S<|k+1).tmps/\st'.heap=c.H:=by
     intro hop
     unfold bD at hev |-
     simp only at hev |-
     split at hev
     .rename_i hw
      split at hev
      .rename_i v H1 he
       simp only[Option.some.injEq] at hev
       rw[hop v H1 he]
       exact⟨_,rfl,by rw[<-hev],rfl⟩
      .cases hev
     .rename_i hw
      simp only[Option.some.injEq] at hev
      exact⟨_,rfl,by rw[<-hev],rfl⟩
     .cases hev
    by_cases hn:fK aops k=true
    .have hno:tG ao.op=true:=by simpa [fK,hao] using hn
     exact hwant λv H1 he=>Pv hno he
    by_cases hg:cO (S k).tmps ao.guard=some false
    .unfold bD at hev |-
     simp only[hg] at hev |-
     simp only[Option.some.injEq] at hev
     exact⟨_,rfl,by rw[<-hev],rfl⟩
    have hks:(k,sw)∈ck:=by
     rcases hstab2 hswN k hkN hq with h | h | h
     .exact (hn h).elim
     .have:=hanc sw h
      rw[ho2.2] at this;cases this
     .exact h
    have hmid:∀m,m<ops.size->bC aops m=false->((sw+2<=m/\m<k)\/(k<=m/\m<sw+2))->(k,m)∈ck:=by
     intro m hm hmq hb
     by_cases em:m=sw
     .subst em;exact hks
     have hmD:m<=sw+1->listed.getD m false=true:=by
      intro hle
      by_cases e:m=sw+1
      .subst e;exact ho2.1
      .rcases eT _ hord m (sw+1) (by omega) hswN with g | ⟨(g | g) | g,_⟩
       .exact hI.closed m (sw+1) hswN ho2.1 g
       .rw[hmq] at g;cases g
       .rw[hmutA _ hal2] at g;cases g
       .omega
     rcases Wd hstab hkN hm hq hmq with h | h | h | h
     .exact (hn h).elim
     .have hlt:=ancLt k m hkN h
      have hml:=hanc m h
      rcases hb with⟨b1,b2⟩ | ⟨b1,b2⟩
      .rw[hbehind m (by omega) hm hmq] at hml;cases hml
      .omega
     .have hlt:=ancLt m k hm h
      rcases hb with⟨b1,b2⟩ | ⟨b1,b2⟩
      .omega
      .have:=hI.closed k m hm (hmD<|by omega) h
       rw[hkD] at this;cases this
     .exact h
    rcases hck k sw hks ao hao with h | h | ⟨id,h,hkp⟩
    .exact (hg h).elim
    .exact hwant λv H1 he=>wY h (λid hid=>by cases hid) he
    .refine hwant λv H1 he=>wY h (λid' hid=>?_) he
     cases hid
     have hidn:id≠(S sw).heap.length:=by
      intro e
      rw[p5] at hkp
      simp only[e] at hkp
      rw[List.getElem?_append_right<|Nat.le_refl _,List.getElem?_eq_none<|Nat.le_refl _] at hkp
      simp at hkp
     have hbase:c.H[id]?=(S<|sw+2).heap[id]?:=by
      rw[hcH,p6]
      simp only
      rcases Nat.lt_or_ge id (S sw).heap.length with hl | hl
      .rw[List.getElem?_append_left hl,List.getElem?_append_left hl]
      .rw[List.getElem?_append_right hl,List.getElem?_append_right hl]
       let⟨q,hq'⟩:∃q,id-(S sw).heap.length=q+1:=⟨id-(S sw).heap.length-1,by omega⟩
       rw[hq']
       rfl
     have hsts:∀m,m<ops.size->bC aops m=false->((sw+2<=m/\m<k)\/(k<=m/\m<sw+2))->(S<|m+1).heap[id]?=(S m).heap[id]?:=by
      intro m h1 h2 h3
      rcases hck k m (hmid m h1 h2 h3) ao hao with g | g | ⟨id2,g,g2⟩
      .exact (hg g).elim
      .rw[h] at g;cases g
      .rw[h] at g;cases g;exact g2
     rw[hbase]
     rcases Nat.le_total (sw+2) k with hle | hle
     .exact (hkeep id (sw+2) k hle (by omega) λm g1 g2 g3=>hsts m (by omega) g3<|.inl ⟨g1,g2⟩).symm
     .exact hkeep id k (sw+2) hle (by omega) λm g1 g2 g3=>hsts m (by omega) g3<|.inr ⟨g1,g2⟩
  .have hcH:c.H=(S<|gH aops (λj=>listed.getD j false) ops.size).heap:=by rw[hI.heap,PL,if_neg hodd]
   by_cases hI1:k=sw+1/\listed.getD sw false=false
   .let⟨hk',hD1⟩:=hI1
    subst hk'
    let⟨hal1,hal2⟩:=hsw hkN
    let⟨d1,z1,d2,z2,p1,p2,p3,p4,p5,p6⟩:=pairF hkN
    have hL:gH aops (λj=>listed.getD j false) ops.size=gH aops (λ_=>true) sw:=by
     rw[kD (k:=sw) ops.size (by omega) (λj h1 h2 h3=>by
      by_cases e:j=sw
      .subst e;exact hD1
      .by_cases e':j=sw+1
       .subst e';exact hkD
       .cases hd:listed.getD j false with
        | false=>rfl
        | true=>
         rcases (later j (by omega) h2 hd).1 with (h | h) | h
         .rw[hmutA _ hal2] at h;cases h
         .rw[h3] at h;cases h
         .omega)]
     refine mV sw λj hj hjq=>?_
     rcases earlier j (by omega) with h | ⟨(h | h) | h,_⟩
     .exact h
     .rw[hjq] at h;cases h
     .rw[hmutA _ hal2] at h;cases h
     .omega
    have hH:c.H=(S sw).heap:=by rw[hcH,hL,hheapA sw<|by omega]
    rw[hao] at p2
    cases p2
    refine byOp ⟨c.w,c.X,c.β,c.H++[.blk z1.length []]⟩ rfl (Ar<|Nat.le_trans hfl hI.step.len) (Sb hI.sim) ?_
    refine⟨⟨(S<|sw+1).tmps.set d2<|.ptr (c.H++[cN.blk z1.length []]).length 1 0 0,(c.H++[.blk z1.length []])++[.blk z2.length [z2.map .lit]]⟩,rfl,?_,?_⟩
    .rw[p6,hH];simp
    .have hD':qS (λj=>(listed.setIfInBounds (sw+1) true).getD j false) sw=true:=by
      have q1:(listed.setIfInBounds (sw+1) true).getD sw false=false:=by rw[hset,if_neg<|by omega];exact hD1
      have q2:(listed.setIfInBounds (sw+1) true).getD (sw+1) false=true:=by rw[hset,if_pos rfl]
      simp only[qS,q1,q2]
      rfl
     rw[PL,if_pos hD',aC3,p3,p4,hH]
     simp
   .have hnodd':qS (λj=>(listed.setIfInBounds k true).getD j false) sw=false:=by
     cases h:qS (λj=>(listed.setIfInBounds k true).getD j false) sw with
     | false=>rfl
     | true=>
      exfalso
      simp only[qS,hset,Bool.and_eq_true,Bool.not_eq_true'] at h
      let⟨h1,h2⟩:=h
      split at h2
      .cases h2
      .rename_i hks
       split at h1
       .rename_i e;exact hI1 ⟨e.symm,h2⟩
       .exact hodd<|by simp[qS,h1,h2]
    refine byOp c rfl (bG.refl _ _) hI.sim ?_
    rw[PL,if_neg<|by rw[hnodd'];exact Bool.false_ne_true]
    cases hq:bC aops k with
    | false=>
     have hlat:∀j,k<j->j<ops.size->bC aops j=false->listed.getD j false=false:=by
      intro j h1 h2 h3
      cases hd:listed.getD j false with
      | false=>rfl
      | true=>
       rcases (later j h1 h2 hd).1 with (h | h) | ⟨e1,e2,_⟩
       .rw[hq] at h;cases h
       .rw[h3] at h;cases h
       .exfalso
        subst e1 e2
        exact hodd<|by simp[qS,hd,hkD]
     have hL:gH aops (λj=>listed.getD j false) ops.size=gH aops (λ_=>true) k:=by
      rw[kD (k:=k) ops.size (by omega) (λj h1 h2 h3=>by
       by_cases e:j=k
       .subst e;exact hkD
       .exact hlat j (by omega) h2 h3)]
      refine mV k λj hj hjq=>?_
      rcases earlier j hj with h | ⟨(h | h) | ⟨e1,e2,_⟩,_⟩
      .exact h
      .rw[hjq] at h;cases h
      .rw[hq] at h;cases h
      .cases hd:listed.getD j false with
       | true=>rfl
       | false=>exact (hI1 ⟨e2,by rw[<-e1];exact hd⟩).elim
     have hH:c.H=(S k).heap:=by rw[hcH,hL,hheapA k<|by omega]
     refine⟨S<|k+1,by rw[hH];exact hS k ao hao,rfl,?_⟩
     rw[kD (k:=k+1) ops.size (by omega) λj h1 h2 h3=>by
      rw[hset,if_neg<|by omega]
      exact hlat j (by omega) h2 h3]
     simp only[gH,hset,if_true,hq]
     rfl
    | true=>
     have hL:gH aops (λj=>(listed.setIfInBounds k true).getD j false) ops.size=gH aops (λj=>listed.getD j false) ops.size:=by
      refine mV ops.size λj hj hjq=>?_
      rw[hset,if_neg<|by intro e;subst e;rw[hq] at hjq;cases hjq]
     rw[hL,<-hcH]
     have hqo:eR ao.op=true:=by simpa [bC,hao] using hq
     have hev:=hS k ao hao
     have hpl:=ST (aops:=aops) (D:=λj=>listed.getD j false) ops.size
     generalize hp:gH aops (λj=>listed.getD j false) ops.size=p at *
     have hbetween:∀m,m<ops.size->bC aops m=false->((p<=m/\m<k)\/(k<=m/\m<p))->fK aops k=true\/(k,m)∈ck:=by
      intro m hm hmq hb
      rcases Wd hstab hkN hm hq hmq with h | h | h | h
      .exact .inl h
      .exfalso
       have hml:=hanc m h
       have:=SU (aops:=aops) (D:=λj=>listed.getD j false) ops.size hm hml hmq
       rw[hp] at this
       have hlt:=ancLt k m hkN h
       omega
      .exfalso
       have hlt:=ancLt m k hm h
       rcases hb with⟨h1,h2⟩ | ⟨h1,h2⟩
       .omega
       .obtain⟨p',rfl⟩:∃p',p=p'+1:=⟨p-1,by omega⟩
        let⟨g1,g2,g3⟩:=DL ops.size hp
        have hmD:listed.getD m false=true:=by
         by_cases e:m=p'
         .subst e;exact g2
         .rcases eT _ hord m p' (by omega) g1 with h' | ⟨(h' | h') | ⟨e1,e2,_⟩,_⟩
          .exact hI.closed m p' g1 g2 h'
          .rw[hmq] at h';cases h'
          .rw[g3] at h';cases h'
          .cases hd:listed.getD m false with
           | true=>rfl
           | false=>
            exfalso
            subst e1 e2
            exact hodd<|by simp[qS,g2,hd]
        have:=hI.closed k m hm hmD h
        rw[hkD] at this
        cases this
      .exact .inr h
     have hsame:c.H=(S k).heap->∃st',bD P cf fl ao ⟨(S k).tmps,c.H⟩=some st'/\st'.tmps=(S<|k+1).tmps/\st'.heap=c.H:=by
      intro e
      refine⟨S<|k+1,by rw[e];exact hev,rfl,?_⟩
      rw[e]
      exact sW hqo hev
     have hwant:∀(hop:∀v H1,aI P cf fl ao.op (S k).tmps (S k).heap=some (v,H1)->aI P cf fl ao.op (S k).tmps c.H=some (v,c.H)),∃st',bD P cf fl ao ⟨(S k).tmps,c.H⟩=some st'/\st'.tmps=(S<|k+1).tmps/\st'.heap=c.H:=by
      intro hop
      unfold bD at hev |-
      simp only at hev |-
      split at hev
      .rename_i hw
       split at hev
       .rename_i v H1 he
        simp only[Option.some.injEq] at hev
        rw[hop v H1 he]
        exact⟨_,rfl,by rw[<-hev],rfl⟩
       .cases hev
      .rename_i hw
       simp only[Option.some.injEq] at hev
       exact⟨_,rfl,by rw[<-hev],rfl⟩
      .cases hev
     by_cases hn:fK aops k=true
     .have hno:tG ao.op=true:=by simpa [fK,hao] using hn
      exact hwant λv H1 he=>Pv hno he
     .have hmid:∀m,m<ops.size->bC aops m=false->((p<=m/\m<k)\/(k<=m/\m<p))->(k,m)∈ck:=by
       intro m h1 h2 h3
       rcases hbetween m h1 h2 h3 with h | h
       .exact (hn h).elim
       .exact h
      by_cases hg:cO (S k).tmps ao.guard=some false
      .unfold bD at hev |-
       simp only[hg] at hev |-
       simp only[Option.some.injEq] at hev
       exact⟨_,rfl,by rw[<-hev],rfl⟩
      by_cases hex:∃m,m<ops.size/\bC aops m=false/\((p<=m/\m<k)\/(k<=m/\m<p))
      .let⟨m0,q1,q2,q3⟩:=hex
       rcases hck k m0 (hmid m0 q1 q2 q3) ao hao with h | h | ⟨id,h,_⟩
       .exact (hg h).elim
       .exact hwant λv H1 he=>wY h (λid hid=>by cases hid) he
       .refine hwant λv H1 he=>wY h (λid' hid=>?_) he
        cases hid
        have hsts:∀m,m<ops.size->bC aops m=false->((p<=m/\m<k)\/(k<=m/\m<p))->(S<|m+1).heap[id]?=(S m).heap[id]?:=by
         intro m h1 h2 h3
         rcases hck k m (hmid m h1 h2 h3) ao hao with g | g | ⟨id2,g,g2⟩
         .exact (hg g).elim
         .rw[h] at g;cases g
         .rw[h] at g;cases g;exact g2
        rw[hcH]
        rcases Nat.le_total p k with hle | hle
        .exact (hkeep id p k hle (by omega) λm g1 g2 g3=>hsts m (by omega) g3<|.inl ⟨g1,g2⟩).symm
        .exact hkeep id k p hle hpl λm g1 g2 g3=>hsts m (by omega) g3<|.inr ⟨g1,g2⟩
      .refine hsame ?_
       rw[hcH]
       apply List.ext_getElem?
       intro id
       rcases Nat.le_total p k with hle | hle
       .exact (hkeep id p k hle (by omega) λm g1 g2 g3=>(hex ⟨m,by omega,g3,.inl ⟨g1,g2⟩⟩).elim).symm
       .exact hkeep id k p hle hpl λm g1 g2 g3=>(hex ⟨m,by omega,g3,.inr ⟨g1,g2⟩⟩).elim
theorem Rw[aB]: ∀(aops:List aL) (st:St) (l:List St),cM P cf fl aops st=some l->
 ∃S:Nat->St,S 0=st/\l.getLast?=some (S aops.length)/\(∀k,k<=aops.length->l[k]?=some (S k))/\∀k ao,aops[k]?=some ao->bD P cf fl ao (S k)=some (S<|k+1)
 | [],st,l,h=>by
  simp only[cM,Option.some.injEq] at h;subst h;exact⟨λ_=>st,rfl,rfl,λk a=>by have:=(by simpa using a);subst this;rfl,λk ao a=>by simp at a⟩
 | o::r,st,l,h=>by
  simp only[cM] at h;split at h
  .rename_i b i;split at h
   .rename_i c d;let⟨S,e,e2,g,f⟩:=Rw r b c d;refine⟨λk=>match k with | 0=>st | k+1=>S k,rfl,?_,?_,λk ao a=>?_⟩
    .grind
    .grind
    .grind
   .cases h
  .cases h
theorem KX[aB]{ops:List aL}{l:List St}: ∀{c:List<|Nat×Nat},oV ops l c=true->∀k m,(k,m)∈c->De ops l k m=true
 | [],_,k,m,h=>by cases h
 | (a,b)::r,h,k,m,d=>by
  simp only[oV] at h;split at h
  .rename_i f;rcases List.mem_cons.1 d with e | e
   .grind
   .exact KX h k m e
  .cases h
theorem Bu[aB]: ∀(aops:List aL) (st:St) (l:List St),cM P cf fl aops st=some l->bE P cf fl aops st=l.getLast?
 | [],st,l,h=>by
  simp only[cM,Option.some.injEq] at h;subst h;rfl
 | o::r,st,l,h=>by
  simp only[cM] at h;split at h
  .rename_i a f;split at h
   .rename_i c d;cases h;have i:=Bu r a c d;have b:c≠[]:=by
     intro e;subst e;let⟨S,_,g,_⟩:=Rw r a [] d;simp at g
    simp only[bE,f,i];rw[List.getLast?_cons_of_ne_nil b]
   .cases h
  .cases h
theorem aBz{a b:Value}(h:B8 a b=true): a=b:=by
 unfold B8 at h;split at h
 .simp_all
 .split at h
  .rename_i e;rw[of_decide_eq_true e,of_decide_eq_true h]
  .cases h
 .rename_i x y;simp only[decide_eq_true_eq] at h;cases x;cases y;simp_all
 all_goals first | rfl | cases h
theorem EN{α:Type}{f:α->α->Bool}(g:∀x y,f x y=true->x=y): ∀{a b:List α},eqL f a b=true->a=b
 | [],[],_=>rfl
 | x::r,y::s,h=>by
  simp only[eqL] at h;split at h
  .rename_i e;rw[g x y e,EN g h]
  .cases h
 | [],_::_,h=>by cases h
 | _::_,[],h=>by cases h
theorem w8: ∀(d:Nat) (x y:AV),HX d x y=true->x=y
 | 0,x,y,h=>by cases h
 | d+1,x,y,h=>by
  simp only[HX] at h;split at h
  .rfl
  .rw[aBz h]
  .simp only[Bool.and_eq_true] at h;let⟨⟨⟨a,b⟩,e⟩,g⟩:=h;rw[Nat.eq_of_beq_eq_true a,Nat.eq_of_beq_eq_true b,Nat.eq_of_beq_eq_true e,Nat.eq_of_beq_eq_true g]
  .simp only[Bool.and_eq_true] at h;let⟨⟨⟨a,b⟩,e⟩,g⟩:=h;rw[Nat.eq_of_beq_eq_true a,Nat.eq_of_beq_eq_true b,Nat.eq_of_beq_eq_true e,Nat.eq_of_beq_eq_true g]
  .simp only[Bool.and_eq_true,beq_iff_eq] at h;rw[h.1,EN (λ_ _ k=>EN (w8 d) k) h.2]
  .cases h
theorem X4{a b:Option cN}(h:o5 a b=true): a=b:=by
 unfold o5 at h;split at h
 .simp only[Bool.and_eq_true] at h;rw[Nat.eq_of_beq_eq_true h.1,EN (λ_ _ k=>EN (w8 6) k) h.2]
 .cases h
theorem WD{o:xP}{l:List St}{m id:Nat}{s t:St}(h:Ea o l m id=true)(a:l[m]?=some s)(b:l[m+1]?=some t): t.heap[id]?=s.heap[id]?:=by
 unfold Ea at h;split at h
 .simp only[a,b] at h;exact (X4 h).symm
 .cases h
theorem UU[aB](hfo:gW cf){ck:List<|Nat×Nat}{aops:List aL}{st st':St}{l:List St}(hl:cM P cf fl aops st=some l)(hck:oV aops l ck=true)(h:l.getLast?=some st'):
 ∃S:Nat->St,S 0=st/\S aops.length=st'/\(∀k,k<=aops.length->l[k]?=some (S k))/\(∀k ao,aops[k]?=some ao->bD P cf fl ao (S k)=some (S<|k+1)) /\
  ∀k m,(k,m)∈ck->∀ao,aops[k]?=some ao->cO (S k).tmps ao.guard=some false\/bU ao.op (S k).tmps=some none\/∃id,bU ao.op (S k).tmps=some (some id)/\(S<|m+1).heap[id]?=(S m).heap[id]?:=by
 let⟨S,e1,e2,e3,e4⟩:=Rw aops st l hl;rw[e2] at h;cases h;refine⟨S,e1,rfl,e3,e4,λk m hm ao hao=>?_⟩;have:=KX hck k m hm;unfold De at this
 have hk:=(List.getElem?_eq_some_iff.1 hao).1
 simp only[hao,e3 k<|by omega] at this
 split at this
 .grind
 .split at this
  .grind
  .rename_i id hs
   refine .inr<|.inr ⟨id,hs,?_⟩
   split at this
   .rename_i om hom
    have hm':=(List.getElem?_eq_some_iff.1 hom).1
    simp only[e3 m<|by omega] at this
    have hev:=e4 m om hom
    unfold bD at hev
    split at this
    .grind
    .rename_i hw
     split at this
     .rename_i hkp
      split at hev
      .split at hev
       .rename_i he
        simp at hev
        rw[<-hev]
        exact EL hfo hkp he
       .grind
      .grind
      .grind
     .exact WD this (e3 m<|by omega) (e3 (m+1)<|by omega)
   .grind
  .grind
theorem E9[aB](hfo:gW cf){ck:List<|Nat×Nat}{aops:List aL}{st st':St}(hm:vM ck=none)(h:eI P cf fl ck aops st=some st'):
 ∃S:Nat->St,S 0=st/\S aops.length=st'/\(∀k ao,aops[k]?=some ao->bD P cf fl ao (S k)=some (S<|k+1)) /\
  ∀k m,(k,m)∈ck->∀ao,aops[k]?=some ao->cO (S k).tmps ao.guard=some false\/bU ao.op (S k).tmps=some none\/∃id,bU ao.op (S k).tmps=some (some id)/\(S<|m+1).heap[id]?=(S m).heap[id]?:=by
 cases ck with
 | nil=>let⟨S,e1,e2,e3⟩:=BB aops st st' h;exact⟨S,e1,e2,e3,λk m hm=>by cases hm⟩
 | cons x r=>
  have hb:Nat.beq x.1 x.2=false:=by
   cases e:Nat.beq x.1 x.2 with
   | false=>rfl
   | true=>simp only[vM,e] at hm;cases hm
  simp only[eI,hb] at h;split at h
  .rename_i l hl;split at h
   .rename_i hck;let⟨S,a,b,_,d,e⟩:=UU hfo hl hck h;exact⟨S,a,b,d,e⟩
   .cases h
  .cases h
theorem JR{ck:List<|Nat×Nat}{m:Nat}(h:vM ck=some m): ∃r,ck=(m,m)::r:=by
 cases ck with
 | nil=>cases h
 | cons x r=>
  simp only[vM] at h;split at h
  .rename_i e;cases h;let⟨a,b⟩:=x;have:a=b:=Nat.eq_of_beq_eq_true e;subst this;exact⟨r,rfl⟩
  .cases h
theorem RE[aB](hfo:gW cf){r:List<|Nat×Nat}{m:Nat}{aops:List aL}{st st':St}(h:eI P cf fl ((m,m)::r) aops st=some st'):
 ∃(S:Nat->St)(l:List St),S 0=⟨st.tmps,st.heap++[.blk (XB aops m).length [(XB aops m).map .lit]]⟩/\S (eX aops m st.heap.length).length=st'/\(∀k,k<=(eX aops m st.heap.length).length->l[k]?=some (S k))/\(∀k ao,(eX aops m st.heap.length)[k]?=some ao->bD P cf fl ao (S k)=some (S<|k+1)) /\
  (∀k m',(k,m')∈r->∀ao,(eX aops m st.heap.length)[k]?=some ao->cO (S k).tmps ao.guard=some false\/bU ao.op (S k).tmps=some none\/∃id,bU ao.op (S k).tmps=some (some id)/\(S<|m'+1).heap[id]?=(S m').heap[id]?) /\
  Fj st.heap.length m (eX aops m st.heap.length) l=true/\bE P cf fl (eX aops m st.heap.length) ⟨st.tmps,st.heap++[.blk (XB aops m).length [(XB aops m).map .lit]]⟩=some st':=by
 have hb:Nat.beq m m=true:=Nat.beq_refl m
 simp only[eI,hb] at h;split at h
 .rename_i l hl;split at h
  .rename_i hck;split at h
   .rename_i hk;let⟨S,a,b,c,d,e⟩:=UU hfo hl hck h;exact⟨S,l,a,b,c,d,e,hk,by rw[Bu _ _ _ hl];exact h⟩
   .cases h
  .cases h
 .cases h
theorem sP{n:Nat}: ∀{l:List aL}{m:Nat},(eX l m n).length=l.length
 | [],_=>rfl
 | _::_,0=>rfl
 | _::r,m+1=>by simp only[eX,List.length_cons,sP (l:=r)]
theorem Ee{n:Nat}: ∀{l:List aL}{m k:Nat},k≠m->(eX l m n)[k]?=l[k]?
 | [],_,_,_=>rfl
 | _::_,0,0,h=>absurd rfl h
 | _::_,0,_+1,_=>rfl
 | _::_,_+1,0,_=>rfl
 | _::r,m+1,k+1,h=>by simp only[eX,List.getElem?_cons_succ];exact Ee (l:=r) λe=>h<|by rw[e]
theorem Nv{n:Nat}: ∀{l:List aL}{m:Nat},(eX l m n)[m]?=match l[m]? with
  | some o=>some ⟨o.dst,.ptrK n,none⟩
  | none=>none
 | [],_=>rfl
 | _::_,0=>rfl
 | _::r,m+1=>by simp only[eX,List.getElem?_cons_succ];exact Nv (l:=r)
def Eg(a b:List aL): Prop:=∀k:Nat,a[k]?=b[k]?\/∃d n n',a[k]?=some ⟨d,.ptrK n,none⟩/\b[k]?=some ⟨d,.ptrK n',none⟩
theorem WK(l:List aL)(m n n':Nat): Eg (eX l m n) (eX l m n'):=λk=>by
 by_cases e:k=m
 .subst e;rw[Nv,Nv];cases l[k]? with
  | none=>exact .inl rfl
  | some o=>exact .inr ⟨_,_,_,rfl,rfl⟩
 .rw[Ee e,Ee e];exact .inl rfl
section
variable {a b:List aL}(h:Eg a b)
include h
theorem Eg.q(k:Nat): bC a k=bC b k:=by
 unfold bC;rcases h k with e | ⟨_,_,_,e,f⟩
 .rw[e]
 .rw[e,f];rfl
theorem Eg.n(k:Nat): fK a k=fK b k:=by
 unfold fK;rcases h k with e | ⟨_,_,_,e,f⟩
 .rw[e]
 .rw[e,f];rfl
theorem Eg.al(k:Nat): dW a k=dW b k:=by
 unfold dW;rcases h k with e | ⟨d,_,_,e,f⟩
 .rw[e]
 .rw[e,f]
theorem Eg.sw(g:a.length=b.length)(an:List Nat): ∀n i,mG a an n i=mG b an n i
 | 0,_=>g
 | n+1,i=>by simp only[mG,h.al,Eg.sw g an n]
theorem Eg.ord(w:Nat)(an:List Nat): ∀n,sR w a an n=sR w b an n
 | 0=>rfl
 | n+1=>by
  simp only[sR,Eg.ord w an n,h.q,h.al];congr 1;congr 1;funext i;congr 1;congr 1
  rcases h i with e | ⟨_,_,_,e,f⟩<;>rcases h n with e' | ⟨_,_,_,e',f'⟩
  .rw[e,e']
  .rw[e,e',f'];cases b[i]? <;> rfl
  .rw[e,f,e'];cases b[n]? <;> rfl
  .rw[e,f,e',f'];rfl
theorem Eg.any(g:a.length=b.length)(ck:List<|Nat×Nat)(an:List Nat)(n:Nat): Xs a ck an n=Xs b ck an n:=by
 unfold Xs LS Zk;simp only[h.sw g,h.ord,h.q,h.n]
end
theorem JW[aB]{n:Nat}: ∀{m:Nat}{l:List aL}{ss:List St},Fj n m l ss=true->∀k,k<m->∀o s,l[k]?=some o->ss[k]?=some s->eR o.op=true\/cO s.tmps o.guard=some false\/fQ o.op s.tmps s.heap.length n=true
 | 0,_,_,_,k,h,_,_,_,_=>by omega
 | _+1,[],_,h,_,_,_,_,_,_=>by cases h
 | _+1,_::_,[],h,_,_,_,_,_,_=>by cases h
 | m+1,o::r,s::l,h,k,hk,o',s',ho,hs=>by
  simp only[Fj] at h;split at h
  .rename_i g;cases k with
   | zero=>
    cases ho;cases hs;split at g
    .rename_i q;exact .inl q
    .split at g
     .rename_i q;exact .inr<|.inl q
     .exact .inr<|.inr g
   | succ k=>exact JW h k (by omega) o' s' ho hs
  .cases h
theorem zW[aB](hfo:gW cf){a:List<|Nat×Nat}{aops:List aL}{st st':St}(h:eI P cf fl a aops st=some st'): (vM a=none/\bE P cf fl aops st=some st')\/∃(m n:Nat)(z:List Value),vM a=some m/\bE P cf fl (eX aops m n) ⟨st.tmps,st.heap++[.blk z.length [z.map .lit]]⟩=some st':=by
 cases e:vM a with
 | none=>
  refine .inl ⟨rfl,?_⟩;cases a with
  | nil=>exact h
  | cons x r=>
   have hb:Nat.beq x.1 x.2=false:=by
    cases e':Nat.beq x.1 x.2 with
    | false=>rfl
    | true=>simp only[vM,e'] at e;cases e
   simp only[eI,hb] at h;split at h
   .rename_i l hl;split at h
    .rw[Bu _ _ _ hl];exact h
    .cases h
   .cases h
 | some m=>obtain⟨r,rfl⟩:=JR e;let⟨_,_,_,_,_,_,_,_,g⟩:=RE hfo h;exact .inr ⟨m,_,_,rfl,g⟩
theorem VW[aB]{aops:List aL}{S:Nat->St}(L:∀k ao,aops[k]?=some ao->bD P cf fl ao (S k)=some (S<|k+1)): ∃val:Nat->AV,∀k ao,aops[k]?=some ao->(S<|k+1).tmps=eL (S k).tmps ao.dst (val k):=by
 have:∀k,∃x,∀ao,aops[k]?=some ao->(S<|k+1).tmps=eL (S k).tmps ao.dst x:=by
  intro k;cases U:aops[k]? with
  | none=>simp_all
  | some ao=>
   let⟨x,M,_⟩:=sX (λ_ _=>rfl)<|L k ao U;exact⟨x,λN h=>by cases h;exact M⟩
 exact⟨λk=>Classical.choose<|this k,λk=>Classical.choose_spec<|this k⟩
theorem WV(n j:Nat): (Array.replicate n false).getD j false=false:=by
 simp only[Array.getD_eq_getD_getElem?,Array.getElem?_replicate];split<;>rfl
theorem RC[aB](V:P.follows .mixedOrders=true)(q:gW cf)(r:lP P T cf)(u:fW P T){id pm:Nat}{B:List<|Nat×Nat}{ops:Array Oper}{aops:List aL}{tm:List AV}{c:bV}{a:Act}{st':St}{Q:Exit->Act->World->Prop}(z:dF P T ops aops ops.toList=true)(W:Xs (eX aops pm 0) B (kQ ops.toList ops.size []) ops.size=true)(Y:dW aops pm=true)(X:∀k,k<ops.size->pm<k->bC aops k=true\/((kQ ops.toList ops.size []).getD k 0).testBit pm=true)(R:Ng ops.toList ops.size=true)(K:bJ (aG T) c)(s:TR (aG T) c tm a.tmps)(t:fl<=c.H.length)(g:eI P cf fl ((pm,pm)::B) aops ⟨tm,c.H⟩=some st')(D:∀a' c',c'.H=st'.heap->bG fl c c'->bJ (aG T) c'->TR (aG T) c' st'.tmps a'.tmps->a'.defers=a.defers->Q .normal a' c'.w): (Code.region id ops true).wp P Q a c.w:=by
 let⟨p,hg⟩:=eV z
 have d:aops.length=ops.size:=by simpa using p
 let⟨S,l,I,e2,e3,L,y,kp,_⟩:=RE q g
 simp only at I e2 e3 L y kp
 have dl:(eX aops pm c.H.length).length=ops.size:=sP.trans d
 let⟨val,e⟩:=VW L
 rw[Eg.any (WK aops pm 0 c.H.length) (by rw[sP,sP])] at W
 unfold Xs at W
 simp only[Bool.and_eq_true] at W
 let⟨W,E⟩:=W
 let⟨d0,z0,hz⟩:=iQ Y
 have hz0:XB aops pm=z0:=by simp only[XB,hz]
 rw[hz0] at I
 refine wp_region_any V ?_
 have J:sN c.w { c.w with drawn:=c.w.drawn+1 }:=⟨rfl,rfl,rfl,rfl,Nat.le_succ _⟩
 have l1:=pC (fl:=fl) J
 have K1:=K.drawn J
 have le:∀e∈[z0.map AV.lit],e.length=z0.length:=by intro e he;simp at he;subst he;simp
 have K2:=aEP (es:=[z0.map AV.lit]) (s:=z0.length) K1 le
 have l2:=ZY (c:=⟨{ c.w with drawn:=c.w.drawn+1 },c.X,c.β,c.H⟩) (s:=z0.length) (es:=[z0.map AV.lit]) (fl:=fl) t
 have hpmA:(eX aops pm c.H.length)[pm]?=some ⟨some d0,.ptrK c.H.length,none⟩:=by rw[Nv,hz]
 have keeps:∀k,k<pm->pm<ops.size->bC (eX aops pm c.H.length) k=false->(S<|k+1).heap[c.H.length]?=(S k).heap[c.H.length]?:=by
  intro k hk hp hq
  have hlt:k<(eX aops pm c.H.length).length:=by omega
  have ho:(eX aops pm c.H.length)[k]?=some (eX aops pm c.H.length)[k]:=by simp [hlt]
  have hev:=L k _ ho
  rcases JW kp k hk _ _ ho (e3 k (by omega)) with h | h | h
  .simp only[bC,ho,h] at hq;cases hq
  .unfold bD at hev;rw[h] at hev;simp only[Option.some.injEq] at hev;rw[<-hev]
  .unfold bD at hev;split at hev
   .split at hev
    .rename_i he;simp only[Option.some.injEq] at hev;rw[<-hev];exact EL q h he
    .cases hev
   .simp only[Option.some.injEq] at hev;rw[<-hev]
   .cases hev
 refine LF (c0:=⟨{ c.w with drawn:=c.w.drawn+1 },c.X,c.β,c.H⟩) (ds:=a.defers) (pm:=pm) (n0:=c.H.length) (zp:=z0) r u dl (λk o h=>?_) (λh=>?_) (λ_=>Nat.le_refl _) (λ_=>?_) keeps (λh k h1 h2=>?_) W E.1 R I (by simp) L e y (Wa dl) (BH E.2) q t ?_ ops.size (Array.replicate ops.size false) a ⟨{ c.w with drawn:=c.w.drawn+1 },c.X,c.β,c.H++[.blk z0.length [z0.map .lit]]⟩ ?_ ?_
 .let⟨ao,h1,h2⟩:=hg k o (by simpa using h)
  by_cases e:k=pm
  .subst e;exact⟨_,hpmA,λn=>absurd rfl n⟩
  .exact⟨ao,by rw[Ee e];exact h1,λ_=>h2⟩
 .refine⟨d0,hpmA,λo ho=>?_⟩
  let⟨ao,h1,h2⟩:=hg pm o (by simpa using ho)
  rw[hz] at h1;cases h1;exact h2
 .rw[I];simp
 .rcases X k h2 h1 with e | e
  .refine .inl ?_;unfold bC at e |-;rw[Ee (by omega)];exact e
  .exact .inr e
 .intro a' c' f1 f2 Y F Z;rw[<-dl,e2] at f1 F;exact D a' c' f1 (l1.trans f2) Y F Z
 .unfold unl;exact Nat.le_trans (List.length_filter_le _ _)<|by simp
 .have v:∀j,(Array.replicate ops.size false).getD j false=false:=WV _
  refine⟨by simp,K2,l2,rfl,(λi j _ C _=>by rw[v] at C;cases C),?_,?_,λ_ _=>⟨by simp,?_,by simp⟩⟩
  .have A:fG (eX aops pm c.H.length) tm val (λj=>(Array.replicate ops.size false).getD j false) ops.size=tm:=
    mY ops.size (Nat.zero_le _) λj _ _=>v j
   rw[A];exact s.step (l1.trans l2)
  .have n:qS (λj=>(Array.replicate ops.size false).getD j false) (mG (eX aops pm c.H.length) (kQ ops.toList ops.size []) ops.size 0)=false:=by simp only[qS,v,Bool.false_and]
   rw[PL,if_neg<|by rw[n];exact Bool.false_ne_true,kD ops.size (Nat.zero_le _) λj _ _ _=>v j];simp only[gH,I]
  .show c.β c.H.length=none
   cases e:c.β c.H.length with
   | none=>rfl
   | some b=>have:=K.dom _ _ e;omega
theorem Bd[aB](V:P.follows .mixedOrders=true)(q:gW cf)(r:lP P T cf)(u:fW P T){id:Nat}{B:List<|Nat×Nat}{b:Bool}{ops:Array Oper}{aops:List aL}{tm:List AV}{c:bV}{a:Act}{st':St}{Q:Exit->Act->World->Prop}(m:eW P T (.region b B aops) (.region id ops b)=true)(K:bJ (aG T) c)(s:TR (aG T) c tm a.tmps)(t:fl<=c.H.length)(g:eI P cf fl B aops ⟨tm,c.H⟩=some st')(D:∀a' c',c'.H=st'.heap->bG fl c c'->bJ (aG T) c'->TR (aG T) c' st'.tmps a'.tmps->a'.defers=a.defers->Q .normal a' c'.w): (Code.region id ops b).wp P Q a c.w:=by
 simp only[eW,Bool.and_eq_true] at m;let⟨⟨_,z⟩,G⟩:=m;let⟨p,_⟩:=eV z;cases b with
 | false=>
  refine wp_region ?_;rcases zW q g with ⟨_,g⟩ | ⟨_,_,_,k,_⟩
  .have:=n4 r u aops ops.toList 0 c a tm st' z (λj o O=>by simpa using O) K s t g D;rw[List.range_eq_range'];grind
  .simp only[k,Option.isNone] at G;cases G
 | true=>
  simp only[Bool.and_eq_true] at G;let⟨⟨G1,G2⟩,R⟩:=G
  cases hm:vM B with
  | some pm=>
   obtain⟨r',rfl⟩:=JR hm
   simp only[aCs,ckK,aHD,hm,List.tail] at G1 G2
   simp only[Bool.and_eq_true,List.all_eq_true,List.mem_range,Bool.or_eq_true] at G2
   refine RC V q r u z G1 G2.1 (λk h1 h2=>?_) R K s t g D
   rcases G2.2 k h1 with (e | e) | e
   .have:=Nat.le_of_ble_eq_true e;omega
   .exact .inl e
   .exact .inr e
  | none=>
   simp only[aCs,ckK,hm,Xs,Bool.and_eq_true] at G1;let⟨W,E⟩:=G1;let⟨S,I,e2,L,y⟩:=E9 q hm g;let⟨val,e⟩:=VW L;have d:=by simpa using p
   refine wp_region_any V ?_;have J:sN c.w { c.w with drawn:=c.w.drawn+1 }:=⟨rfl,rfl,rfl,rfl,Nat.le_succ _⟩;have l:=pC (fl:=fl) J;refine LF (c0:=⟨{ c.w with drawn:=c.w.drawn+1 },c.X,c.β,c.H⟩) (ds:=a.defers) (pm:=ops.size) (n0:=0) (zp:=[]) r u d (λk o h=>let ⟨ao,h1,h2⟩:=(eV z).2 k o (by simpa using h);⟨ao,h1,λ_=>h2⟩) (λh=>absurd h (Nat.lt_irrefl _)) (λh=>absurd h (Nat.lt_irrefl _)) (λh=>absurd h (Nat.lt_irrefl _)) (λ_ _ h=>absurd h (Nat.lt_irrefl _)) (λh=>absurd h (Nat.lt_irrefl _)) W E.1 R I (Nat.le_refl _) L e y (Wa d) (BH E.2) q t ?_ ops.size (Array.replicate ops.size false) a ⟨{ c.w with drawn:=c.w.drawn+1 },c.X,c.β,c.H⟩ ?_ ?_
   .intro a' c' f1 f2 Y F Z;rw[<-d,e2] at f1 F;exact D a' c' f1 (l.trans f2) Y F Z
   .unfold unl;exact Nat.le_trans (List.length_filter_le _ _)<|by simp
   .have v:=WV ops.size
    refine⟨by simp,K.drawn J,bG.refl _ _,rfl,(λi j _ C _=>by rw[v] at C;cases C),?_,?_,λh=>absurd h (Nat.lt_irrefl _)⟩
    .have A:fG aops tm val (λj=>(Array.replicate ops.size false).getD j false) ops.size=tm:=
      mY ops.size (Nat.zero_le _) λj _ _=>v j
     rw[A];exact s.step l
    .have n:qS (λj=>(Array.replicate ops.size false).getD j false) (mG aops (kQ ops.toList ops.size []) ops.size 0)=false:=by simp only[qS,v,Bool.false_and]
     rw[PL,if_neg<|by rw[n];exact Bool.false_ne_true,kD ops.size (Nat.zero_le _) λj _ _ _=>v j];simp only[gH,I]
end
end Go.Proofs.YtideamafblopcaaGreatDoor.Av
