/- A part of the proof of a law. -/
import Derived.Test.YthadajkojciapaaGreatDoorP2
set_option maxRecDepth 100000
set_option maxHeartbeats 4000000
set_option linter.all false
namespace Go.Proofs.YthadajkojciapaaGreatDoor.Av
open Go
section
variable {P:Program}{T:List bC}{cf:Nat->Nat->List AV->aK->Option (AV×aK)}{c:bM}{fl:Nat}{o:Oper}{a:Act}{tm:List AV}
theorem jZ{α:Type}{as:Array α}{x y:α}(h:as.toList=[x,y]): as=#[x,y]:=by apply Array.ext';simpa using h
theorem gJ{α:Type}{as:Array α}{x:α}(h:as.toList=[x]): as=#[x]:=by apply Array.ext';simpa using h
theorem HB[aA](hcf:jD P T cf)(hfn:fA P T)(hs:aZ (aF T) c)(htr:TR (aF T) c tm a.tmps)(hfl:fl<=c.H.length){ao:tK}{v:AV}{H':aK}(hchk:bP P T ao o.op=true)(hev:aG P cf fl ao tm c.H=some (v,H')): cJ P (aF T) c fl o a v H':=by
 generalize hop:o.op=op at hchk
 cases ao with
 | mov x=>
  simp only[aG,Option.some.injEq,Prod.mk.injEq] at hev
  let⟨rfl,rfl⟩:=hev
  simp only[bP] at hchk
  split at hchk
  .exact FY hs htr (.inl hop) hchk
  .exact FY hs htr (.inr hop) hchk
  .cases hchk
 | movN x=>
  simp only[aG,Option.some.injEq,Prod.mk.injEq] at hev
  let⟨rfl,rfl⟩:=hev
  simp only[bP] at hchk
  split at hchk
  .exact KR hs htr (.inl hop) hchk
  .exact KR hs htr (.inr hop) hchk
  .cases hchk
 | rangeStr x=>
  simp only[bP] at hchk
  split at hchk
  .rename_i t y
   simp only[Bool.and_eq_true] at hchk
   simp only[aG] at hev
   split at hev
   .rename_i s hx
    cases hev
    exact AZ hs htr hfl hop hchk.1 (by
     have:=hchk.2
     split at this
     .assumption
     .cases this) hx
   .cases hev
  .cases hchk
 | nextStr x=>
  simp only[bP] at hchk
  split at hchk
  .rename_i y b
   simp only[Bool.and_eq_true] at hchk
   obtain⟨hy,rfl⟩:=hchk
   simp only[aG] at hev
   split at hev
   .rename_i id hx
    split at hev
    .rename_i hle
     split at hev
     .rename_i s pos hob
      split at hev
      .rename_i hp
       cases hev
       exact FX hs htr hop hy hx hle hob hp
      .rename_i hp
       cases hev
       exact FW hs htr hop hy hx hob hp
     .cases hev
    .cases hev
   .cases hev
  .cases hchk
 | slArr s n x=>
  simp only[bP] at hchk
  split at hchk
  .rename_i t y
   simp only[Bool.and_eq_true] at hchk
   let⟨⟨h1,_⟩,h3⟩:=hchk
   split at h3
   .rename_i m e hu
    simp only[Bool.and_eq_true,beq_iff_eq] at h3
    let⟨h4,h5⟩:=h3
    subst h4
    simp only[aG] at hev
    split at hev
    .rename_i id tot idx off hx
     split at hev
     .rename_i hle
      split at hev
      .rename_i s es hob
       split at hev
       .rename_i htot
        split at hev
        .rename_i e he
         split at hev
         .rename_i hc
          let⟨c1,c2,c3⟩:=hc
          subst c1
          cases hev
          exact TN hs htr hop h1 hu h5 hx hle hob htot he c2 c3
         .cases hev
        .cases hev
       .cases hev
      .cases hev
     .cases hev
    .cases hev
   .cases h3
  .cases hchk
 | tail2 x=>simp only[bP] at hchk;cases hchk
 | arrPtr s n x=>
  simp only[bP] at hchk
  split at hchk
  .rename_i t y
   simp only[Bool.and_eq_true] at hchk
   let⟨⟨h1,_⟩,h3⟩:=hchk
   split at h3
   .rename_i m e hu
    simp only[Bool.and_eq_true,beq_iff_eq] at h3
    let⟨h4,h5⟩:=h3
    subst h4
    simp only[aG] at hev
    split at hev
    .rename_i f es hx
     split at hev
     .rename_i hc
      cases hev
      exact Tl hs htr hop h1 hu hc.1 hc.2.1 hc.2.2 (.inl ⟨f,hx,rfl⟩)
     .cases hev
    .rename_i es hx
     split at hev
     .rename_i hc
      cases hev
      exact Tl hs htr hop h1 hu hc.1 hc.2.1 hc.2.2 (.inr ⟨hx,rfl⟩)
     .cases hev
    .cases hev
   .cases h3
  .cases hchk
 | freeze x=>
  simp only[bP] at hchk
  have hmv:∃y,(o.op=.move y\/o.op=.assign y)/\aI T x y=true:=by
   split at hchk
   .exact⟨_,.inl hop,hchk⟩
   .exact⟨_,.inr hop,hchk⟩
   .cases hchk
  let⟨y,ho,hy⟩:=hmv
  simp only[aG] at hev
  split at hev
  .rename_i id tot off len hx
   split at hev
   .rename_i hle
    split at hev
    .rename_i s es hob
     split at hev
     .rename_i htot
      cases hev
      exact OE hs htr ho hy hx hle hob htot
     .cases hev
    .cases hev
   .cases hev
  .rename_i id tot idx off hx
   split at hev
   .rename_i hle
    split at hev
    .rename_i s es hob
     split at hev
     .rename_i htot
      split at hev
      .rename_i e he
       cases hev
       exact GA hs htr ho hy hx hle hob htot he
      .cases hev
     .cases hev
    .cases hev
   .cases hev
  .cases hev
   exact FY hs htr ho hy
 | loadF n k x=>
  simp only[bP] at hchk
  split at hchk
  .simp only[Bool.and_eq_true] at hchk
   let⟨⟨h1,h2⟩,h4⟩:=hchk
   simp only[aG] at hev
   split at hev
   .rename_i cs hcs
    split at hev
    .rename_i id tot off len hk
     split at hev
     .rename_i hle
      split at hev
      .rename_i s es hob
       split at hev
       .rename_i htot
        cases hev
        exact TP hs htr hop h4 h1 h2 hcs hk hle hob htot
       .cases hev
      .cases hev
     .cases hev
    .cases hev
     exact Wc hs htr hop h4 h1 h2 hcs<|by simp
    .cases hev
   .cases hev
  .cases hchk
 | pick x y z=>
  simp only[bP] at hchk
  split at hchk
  .simp only[Bool.and_eq_true] at hchk
   simp only[aG] at hev
   split at hev
   .rename_i t ht
    simp only[Option.some.injEq,Prod.mk.injEq] at hev
    let⟨rfl,rfl⟩:=hev
    exact d9 hs htr hop hchk.1.1 hchk.1.2 hchk.2 ht
   .cases hev
  .cases hchk
 | alloc z=>
  simp only[aG,Option.some.injEq,Prod.mk.injEq] at hev
  let⟨rfl,rfl⟩:=hev
  simp only[bP] at hchk
  split at hchk
  .exact UC hs hfl hop hchk
  .cases hchk
 | claim s=>
  simp only[aG,Option.some.injEq,Prod.mk.injEq] at hev
  let⟨rfl,rfl⟩:=hev
  simp only[bP] at hchk
  split at hchk
  .exact BC hs hfl<|.inl hop
  .exact BC hs hfl<|.inr hop
  .cases hchk
 | allocC z cl=>
  simp only[aG,Option.some.injEq,Prod.mk.injEq] at hev
  let⟨rfl,rfl⟩:=hev
  simp only[bP] at hchk
  split at hchk
  .simp only[Bool.and_eq_true] at hchk
   refine OH hs hfl hop hchk.1 λx hx=>?_
   have:=List.all_eq_true.1 hchk.2 x hx
   split at this
   .rename_i h;exact h
   .cases this
  .cases hchk
 | box x=>
  simp only[bP] at hchk
  split at hchk
  .simp only[aG] at hev
   split at hev
   .rename_i cs hcs
    simp only[Option.some.injEq,Prod.mk.injEq] at hev
    let⟨rfl,rfl⟩:=hev
    exact Q2 hs htr hfl hop hchk hcs
   .cases hev
  .cases hchk
 | ptrK n=>simp only[bP] at hchk;cases hchk
 | boxC x cl=>
  simp only[bP] at hchk
  split at hchk
  .simp only[aG] at hev
   split at hev
   .rename_i cs hcs
    split at hev
    .rename_i hn
     simp only[Option.some.injEq,Prod.mk.injEq] at hev
     let⟨rfl,rfl⟩:=hev
     exact i7 hs htr hfl hop hchk hcs hn
    .cases hev
   .cases hev
  .cases hchk
 | build z ps=>
  have hchk0:=hchk
  simp only[bP] at hchk
  split at hchk
  .simp only[Bool.and_eq_true] at hchk
   simp only[aG] at hev
   split at hev
   .rename_i cs hcs
    simp only[Option.some.injEq,Prod.mk.injEq] at hev
    let⟨rfl,rfl⟩:=hev
    exact BD hs htr hop hchk.1 hchk0 hcs
   .cases hev
  .cases hchk
 | buildC z ps cl=>
  have hchk0:bP P T (.build z ps) _=true:=hchk
  simp only[bP] at hchk
  split at hchk
  .simp only[Bool.and_eq_true] at hchk
   simp only[aG] at hev
   split at hev
   .rename_i cs hcs
    split at hev
    .rename_i hn
     simp only[Option.some.injEq,Prod.mk.injEq] at hev
     let⟨rfl,rfl⟩:=hev
     exact OG hs hfl (BD hs htr hop hchk.1 hchk0 hcs) hn
    .cases hev
   .cases hev
  .cases hchk
 | buildSl pu s n z ps=>
  simp only[bP] at hchk
  split at hchk
  .rename_i t m qs
   simp only[Bool.and_eq_true,beq_iff_eq] at hchk
   let⟨rfl,hchk⟩:=hchk
   split at hchk
   .rename_i e hu
    simp only[Bool.and_eq_true,beq_iff_eq,decide_eq_true_eq] at hchk
    let⟨⟨⟨⟨⟨h1,h2⟩,h3⟩,h4⟩,h5⟩,h6⟩:=hchk
    simp only[aG] at hev
    split at hev
    .rename_i es hes
     have key:=GC (pu:=pu) hs htr hfl hop hu h1 h2 h3 h4 h5 h6 hes
     cases pu with
     | true=>
      simp only[if_true,Option.some.injEq,Prod.mk.injEq] at hev
      let⟨rfl,rfl⟩:=hev
      simpa using key
     | false=>
      simp only[Bool.false_eq_true,if_false,Option.some.injEq,Prod.mk.injEq] at hev
      let⟨rfl,rfl⟩:=hev
      simpa using key
    .cases hev
   .cases hchk
  .cases hchk
 | load agg n x=>
  simp only[bP] at hchk
  split at hchk
  .simp only[Bool.and_eq_true] at hchk
   let⟨⟨⟨h1,h2⟩,h3⟩,h4⟩:=hchk
   simp only[aG] at hev
   split at hev
   .rename_i cs hcs
    cases agg with
    | true=>
     simp only[if_true,Option.some.injEq,Prod.mk.injEq] at hev
     let⟨rfl,rfl⟩:=hev
     exact Wc hs htr hop h4 h1 h2 hcs<|by simp
    | false=>
     simp only[Bool.false_eq_true,if_false] at hev
     split at hev
     .simp only[Option.some.injEq,Prod.mk.injEq] at hev
      let⟨rfl,rfl⟩:=hev
      exact Wc hs htr hop h4 h1 h2 hcs<|by simp
     .cases hev
   .cases hev
  .cases hchk
 | store n x u=>
  simp only[bP] at hchk
  split at hchk
  .simp only[Bool.and_eq_true] at hchk
   let⟨⟨h1,h2⟩,h3⟩:=hchk
   simp only[aG] at hev
   split at hev
   .rename_i cs hcs
    split at hev
    .rename_i hn
     split at hev
     .rename_i H1 hst
      simp only[Option.some.injEq,Prod.mk.injEq] at hev
      let⟨rfl,rfl⟩:=hev
      exact TL hs htr hop h2 h3 h1 hcs hn hst
     .cases hev
    .cases hev
   .cases hev
  .cases hchk
 | nilCheck x=>
  simp only[bP] at hchk
  split at hchk
  .simp only[aG] at hev
   split at hev
   .rename_i id tot idx off hx
    simp only[Option.some.injEq,Prod.mk.injEq] at hev
    let⟨rfl,rfl⟩:=hev
    exact qD hs htr hop hchk<|.inl ⟨_,_,_,_,hx⟩
   .rename_i cs hx
    simp only[Option.some.injEq,Prod.mk.injEq] at hev
    let⟨rfl,rfl⟩:=hev
    exact qD hs htr hop hchk<|.inr<|.inl ⟨_,hx⟩
   .rename_i cs hx
    simp only[Option.some.injEq,Prod.mk.injEq] at hev
    let⟨rfl,rfl⟩:=hev
    exact qD hs htr hop hchk<|.inr<|.inr<|.inl ⟨_,hx⟩
   .rename_i vi caps hx
    simp only[Option.some.injEq,Prod.mk.injEq] at hev
    let⟨rfl,rfl⟩:=hev
    exact qD hs htr hop hchk<|.inr<|.inr<|.inr ⟨_,_,hx⟩
   .cases hev
  .cases hchk
 | ibin op x y=>
  simp only[bP] at hchk
  split at hchk
  .simp only[Bool.and_eq_true,decide_eq_true_eq] at hchk
   let⟨⟨rfl,h1⟩,h2⟩:=hchk
   simp only[aG] at hev
   split at hev
   .rename_i k n k' m e1 e2
    split at hev
    .rename_i hk
     subst hk
     split at hev
     .rename_i r hr
      simp only[Option.some.injEq,Prod.mk.injEq] at hev
      let⟨rfl,rfl⟩:=hev
      exact f8 hs htr hop h1 h2 e1 e2 hr
     .cases hev
    .cases hev
   .cases hev
  .cases hchk
 | bin op t x y=>
  simp only[bP] at hchk
  split at hchk
  .simp only[Bool.and_eq_true,decide_eq_true_eq,beq_iff_eq] at hchk
   let⟨⟨⟨rfl,rfl⟩,h1⟩,h2⟩:=hchk
   simp only[aG] at hev
   split at hev
   .rename_i v1 v2 e1 e2
    split at hev
    .rename_i g hg
     split at hev
     .rename_i r hr
      simp only[Option.some.injEq,Prod.mk.injEq] at hev
      let⟨rfl,rfl⟩:=hev
      split at hg
      .rename_i hn
       exact Q3 hs htr hop h1 h2 e1 e2 hn hg hr
      .cases hg
     .cases hev
    .cases hev
   .cases hev
  .cases hchk
 | un op x=>
  simp only[bP] at hchk
  split at hchk
  .simp only[Bool.and_eq_true,decide_eq_true_eq] at hchk
   let⟨rfl,h1⟩:=hchk
   simp only[aG] at hev
   split at hev
   .rename_i v1 e1
    split at hev
    .rename_i r hr
     simp only[Option.some.injEq,Prod.mk.injEq] at hev
     let⟨rfl,rfl⟩:=hev
     exact aAV hs htr hop h1 e1 hr
    .cases hev
   .cases hev
  .cases hchk
 | conv s d x=>
  simp only[bP] at hchk
  split at hchk
  .simp only[Bool.and_eq_true,beq_iff_eq] at hchk
   let⟨⟨rfl,rfl⟩,h1⟩:=hchk
   simp only[aG] at hev
   split at hev
   .split at hev
    .rename_i v1 e1
     split at hev
     .rename_i r hr
      simp only[Option.some.injEq,Prod.mk.injEq] at hev
      let⟨rfl,rfl⟩:=hev
      exact i4 hs htr hop h1 e1 hr
     .cases hev
    .cases hev
   .split at hev
    .rename_i hb
     split at hev
     .rename_i es e1
      split at hev
      .rename_i ns hns
       simp only[Option.some.injEq,Prod.mk.injEq] at hev
       let⟨rfl,rfl⟩:=hev
       exact TQ hs htr hop h1 (O0 e1) hb hns
      .cases hev
     .cases hev
    .cases hev
  .cases hchk
 | fieldAddr off x=>
  simp only[bP] at hchk
  split at hchk
  .simp only[Bool.and_eq_true] at hchk
   let⟨h1,hchk⟩:=hchk
   split at hchk
   .rename_i fs hu
    split at hchk
    .rename_i fd hf
     simp only[Bool.and_eq_true,beq_iff_eq] at hchk
     let⟨hof,hchk⟩:=hchk
     split at hchk
     .rename_i i hi
      have hsz:i.size≠0:=by simpa using hchk
      simp only[aG] at hev
      split at hev
      .rename_i id tot idx k hx
       simp only[Option.some.injEq,Prod.mk.injEq] at hev
       let⟨rfl,rfl⟩:=hev
       exact uA hs htr hop h1 hu hf hof hi hsz<|.inl ⟨_,_,_,_,hx,rfl⟩
      .rename_i cs hx
       simp only[Option.some.injEq,Prod.mk.injEq] at hev
       let⟨rfl,rfl⟩:=hev
       exact uA hs htr hop h1 hu hf hof hi hsz<|.inr ⟨_,.inl hx,rfl⟩
      .rename_i cs hx
       simp only[Option.some.injEq,Prod.mk.injEq] at hev
       let⟨rfl,rfl⟩:=hev
       exact uA hs htr hop h1 hu hf hof hi hsz<|.inr ⟨_,.inr hx,rfl⟩
      .cases hev
     .cases hchk
    .cases hchk
   .cases hchk
  .cases hchk
 | field agg n off x=>
  simp only[bP] at hchk
  split at hchk
  .simp only[Bool.and_eq_true] at hchk
   let⟨h1,hchk⟩:=hchk
   split at hchk
   .rename_i fs hu
    split at hchk
    .rename_i fd hf
     simp only[Bool.and_eq_true,beq_iff_eq] at hchk
     let⟨⟨⟨hof,h2⟩,h3⟩,h4⟩:=hchk
     have h4':agg=true\/n=1:=by simpa using h4
     simp only[aG] at hev
     split at hev
     .rename_i cs hx
      split at hev
      .rename_i hle
       cases agg with
       | true=>
        simp only[if_true,Option.some.injEq,Prod.mk.injEq] at hev
        let⟨rfl,rfl⟩:=hev
        exact BB hs htr hop h1 hu hf hof h2 h3 h4' hx hle<|by simp
       | false=>
        simp only[Bool.false_eq_true,if_false] at hev
        split at hev
        .rename_i c0 hc0
         simp only[Option.some.injEq,Prod.mk.injEq] at hev
         let⟨rfl,rfl⟩:=hev
         exact BB hs htr hop h1 hu hf hof h2 h3 h4' hx hle<|by simpa using hc0
        .cases hev
      .cases hev
     .cases hev
    .cases hchk
   .cases hchk
  .cases hchk
 | idxAddr s x i=>
  simp only[bP] at hchk
  split at hchk
  .simp only[Bool.and_eq_true] at hchk
   let⟨⟨h1,h2⟩,hchk⟩:=hchk
   split at hchk
   .rename_i e hu
    simp only[aG] at hev
    split at hev
    .rename_i n hn
     split at hev
     .rename_i f es hx
      split at hev
      .rename_i cs hcs
       split at hev
       .rename_i hl
        simp only[Option.some.injEq,Prod.mk.injEq] at hev
        let⟨rfl,rfl⟩:=hev
        exact Ar hs htr hop h1 h2 hu hchk hn<|.inl ⟨_,_,_,hx,hcs,hl,rfl⟩
       .cases hev
      .cases hev
     .rename_i es hx
      split at hev
      .rename_i cs hcs
       split at hev
       .rename_i hl
        simp only[Option.some.injEq,Prod.mk.injEq] at hev
        let⟨rfl,rfl⟩:=hev
        exact Ar hs htr hop h1 h2 hu hchk hn<|.inr<|.inl ⟨_,_,hx,hcs,hl,rfl⟩
       .cases hev
      .cases hev
     .rename_i id tot off len hx
      split at hev
      .rename_i s' es hob
       split at hev
       .rename_i hc
        let⟨rfl,hc1,hc2⟩:=hc
        simp only[Option.some.injEq,Prod.mk.injEq] at hev
        let⟨rfl,rfl⟩:=hev
        exact Ar hs htr hop h1 h2 hu hchk hn<|.inr<|.inr ⟨_,_,_,_,_,hx,hob,hc1,hc2,rfl⟩
       .cases hev
      .cases hev
     .cases hev
    .cases hev
   .cases hchk
  .cases hchk
 | idxArr s n x i=>
  simp only[bP] at hchk
  split at hchk
  .simp only[Bool.and_eq_true] at hchk
   let⟨⟨h1,h2⟩,hchk⟩:=hchk
   split at hchk
   .rename_i m e hu
    simp only[Bool.and_eq_true,beq_iff_eq] at hchk
    let⟨rfl,h3⟩:=hchk
    simp only[aG] at hev
    split at hev
    .rename_i k hn
     split at hev
     .rename_i hlt
      split at hev
      .rename_i id tot idx off hx
       simp only[Option.some.injEq,Prod.mk.injEq] at hev
       let⟨rfl,rfl⟩:=hev
       exact Tj hs htr hop h1 h2 hu h3 hn hlt<|.inl ⟨_,_,_,_,hx,rfl⟩
      .rename_i cs hx
       simp only[Option.some.injEq,Prod.mk.injEq] at hev
       let⟨rfl,rfl⟩:=hev
       exact Tj hs htr hop h1 h2 hu h3 hn hlt<|.inr ⟨_,hx,rfl⟩
      .cases hev
     .cases hev
    .cases hev
   .cases hchk
  .cases hchk
 | index agg s n x i=>
  simp only[bP] at hchk
  split at hchk
  .simp only[Bool.and_eq_true] at hchk
   let⟨⟨h1,h2⟩,hchk⟩:=hchk
   split at hchk
   .rename_i m e hu
    simp only[Bool.and_eq_true,beq_iff_eq] at hchk
    let⟨⟨⟨rfl,h3⟩,h4⟩,h5⟩:=hchk
    have h5':agg=true\/s=1:=by simpa using h5
    simp only[aG] at hev
    split at hev
    .rename_i k hn
     split at hev
     .rename_i hlt
      split at hev
      .rename_i cs hx
       split at hev
       .rename_i hle
        cases agg with
        | true=>
         simp only[if_true,Option.some.injEq,Prod.mk.injEq] at hev
         let⟨rfl,rfl⟩:=hev
         exact BA hs htr hop h1 h2 hu h3 h4 h5' hn hlt hx hle<|by simp
        | false=>
         simp only[Bool.false_eq_true,if_false] at hev
         split at hev
         .rename_i c0 hc0
          simp only[Option.some.injEq,Prod.mk.injEq] at hev
          let⟨rfl,rfl⟩:=hev
          exact BA hs htr hop h1 h2 hu h3 h4 h5' hn hlt hx hle<|by simpa using hc0
         .cases hev
       .cases hev
      .cases hev
     .cases hev
    .cases hev
   .cases hchk
  .cases hchk
 | strIdx t x i=>
  simp only[bP] at hchk
  split at hchk
  .simp only[Bool.and_eq_true,beq_iff_eq] at hchk
   let⟨⟨rfl,h1⟩,h2⟩:=hchk
   simp only[aG] at hev
   split at hev
   .rename_i v1 v2 e1 e2
    split at hev
    .rename_i r hr
     simp only[Option.some.injEq,Prod.mk.injEq] at hev
     let⟨rfl,rfl⟩:=hev
     exact OC hs htr hop h1 h2 e1 e2 hr
    .cases hev
   .cases hev
  .cases hchk
 | slice s x lo hi mx=>
  simp only[bP] at hchk
  split at hchk
  .simp only[Bool.and_eq_true] at hchk
   let⟨⟨⟨⟨h1,h2⟩,h3⟩,h4⟩,hchk⟩:=hchk
   split at hchk
   .rename_i e hu
    simp only[aG] at hev
    split at hev
    .rename_i nlo nhi nmx n1 n2 n3
     split at hev
     .rename_i r hr
      simp only[Option.some.injEq,Prod.mk.injEq] at hev
      let⟨rfl,rfl⟩:=hev
      exact TM hs htr hop h1 h2 h3 h4 hu hchk n1 n2 n3 hr
     .cases hev
    .cases hev
   .cases hchk
  .cases hchk
 | strSlice t x lo hi=>
  simp only[bP] at hchk
  split at hchk
  .simp only[Bool.and_eq_true,beq_iff_eq] at hchk
   let⟨⟨⟨⟨rfl,h1⟩,h2⟩,h3⟩,hchk⟩:=hchk
   split at hchk
   .rename_i hu
    simp only[aG] at hev
    split at hev
    .rename_i s nlo nhi e1 n1 n2
     split at hev
     .rename_i hc
      simp only[Option.some.injEq,Prod.mk.injEq] at hev
      let⟨rfl,rfl⟩:=hev
      exact AY hs htr hop h1 h2 h3 hu n1 n2 e1 hc
     .cases hev
    .cases hev
   .cases hchk
  .cases hchk
 | mkSlice s z bytes l k=>
  simp only[bP] at hchk
  split at hchk
  .simp only[Bool.and_eq_true] at hchk
   let⟨⟨h1,h2⟩,hchk⟩:=hchk
   split at hchk
   .rename_i e hu
    simp only[Bool.and_eq_true,decide_eq_true_eq] at hchk
    let⟨⟨⟨h3,h4⟩,h5⟩,h6⟩:=hchk
    simp only[aG] at hev
    split at hev
    .rename_i nl nk e1 e2
     split at hev
     .rename_i hc
      simp only[Option.some.injEq,Prod.mk.injEq] at hev
      let⟨rfl,rfl⟩:=hev
      exact FZ hs htr hfl hop h1 h2 hu h3 h4 h5 h6 e1 e2 hc.1 hc.2.1 hc.2.2.1 hc.2.2.2
     .cases hev
    .cases hev
   .cases hchk
  .cases hchk
 | mkMap=>
  simp only[aG,Option.some.injEq,Prod.mk.injEq] at hev
  let⟨rfl,rfl⟩:=hev
  simp only[bP] at hchk
  split at hchk
  .exact TO hs hfl hop
  .cases hchk
 | lookup kt z m k ok=>
  simp only[bP] at hchk
  split at hchk
  .simp only[Bool.and_eq_true,beq_iff_eq] at hchk
   obtain⟨⟨⟨rfl,h1⟩,h2⟩,hchk⟩:=hchk
   split at hchk
   .rename_i kt' e hu
    simp only[Bool.and_eq_true,beq_iff_eq] at hchk
    obtain⟨rfl,hchk⟩:=hchk
    split at hchk
    .rename_i i hi
     have hz:∃zv,i.zero=some zv/\RV (aF T) c (aB tm z) zv:=by
      split at hchk
      .rename_i u v hz
       exact⟨u,hz,by rw[<-Lb hchk];exact RV.lit _⟩
      .rename_i us vs hz
       refine⟨.agg us,hz,?_⟩
       have:us=vs.toArray:=by rw[Jz hchk]
       rw[this]
       exact Gy vs<|pX hchk
      .cases hchk
     let⟨zv,hz1,hz2⟩:=hz
     simp only[aG] at hev
     split at hev
     .rename_i kv hk
      have fin:∀ents:List<|Value×AV,((aB tm m=.lit (.map none)/\ents=[])\/(∃id,aB tm m=.mp id/\c.H[id]?=some (.mp ents))\/aB tm m=.rmp ents)->
       (match aJ P<|Instr.checkKey ents.isEmpty 10000 kt kv,iU P kt kv ents with
        | some _,some (some i)=>match ents[i]? with
         | some e=>some (if ok then AV.tup [e.2,.lit<|.bool true] else e.2,c.H)
         | none=>none
        | some _,some none=>some (if ok then AV.tup [aB tm z,.lit<|.bool false] else aB tm z,c.H)
        | _,_=>none)=some (v,H')->cJ P (aF T) c fl o a v H':=by
       intro ents hm hr
       split at hr
       .rename_i u i0 hck hf
        split at hr
        .rename_i en hen
         simp only[Option.some.injEq,Prod.mk.injEq] at hr
         let⟨rfl,rfl⟩:=hr
         exact Ti hs htr hop h1 h2 hu hi hz1 hz2 hk hck hm<|.inl ⟨_,_,hf,hen,rfl,rfl⟩
        .cases hr
       .rename_i u hck hf
        simp only[Option.some.injEq,Prod.mk.injEq] at hr
        let⟨rfl,rfl⟩:=hr
        exact Ti hs htr hop h1 h2 hu hi hz1 hz2 hk hck hm<|.inr ⟨hf,rfl,rfl⟩
       .cases hr
      split at hev
      .rename_i hm
       exact fin [] (.inl ⟨hm,rfl⟩) hev
      .rename_i id hm
       split at hev
       .rename_i ents hob
        exact fin ents (.inr<|.inl ⟨id,hm,hob⟩) hev
       .cases hev
      .rename_i ents hm
       exact fin ents (.inr<|.inr hm) hev
      .cases hev
     .cases hev
    .cases hchk
   .cases hchk
  .cases hchk
 | mapUpd kt m k x=>
  have fin:∀(t:TypeId) (m' k' x':Operand) (e:TypeId),(o.op=.mapUpdate t m' k' x'\/o.op=.insert t m' k' x')->aI T m m'=true->aI T k k'=true->aI T x x'=true->
   P.underlying t=some (.map kt e)->cJ P (aF T) c fl o a v H':=by
   intro t m' k' x' e ho h1 h2 h3 hu
   simp only[aG] at hev
   split at hev
   .rename_i kv id hk hm
    split at hev
    .rename_i hflid
     split at hev
     .rename_i ents hob
      split at hev
      .rename_i u i0 hck hf
       split at hev
       .rename_i en hen
        split at hev
        .rename_i hsb
         simp only[Option.some.injEq,Prod.mk.injEq] at hev
         let⟨rfl,rfl⟩:=hev
         exact Th hs htr ho h1 h2 h3 hu hk hck hflid hm hob<|.inl ⟨_,_,hf,hen,hsb,rfl⟩
        .cases hev
       .cases hev
      .rename_i u hck hf
       simp only[Option.some.injEq,Prod.mk.injEq] at hev
       let⟨rfl,rfl⟩:=hev
       exact Th hs htr ho h1 h2 h3 hu hk hck hflid hm hob<|.inr ⟨hf,rfl⟩
      .cases hev
     .cases hev
    .cases hev
   .cases hev
  simp only[bP] at hchk
  split at hchk
  .simp only[Bool.and_eq_true] at hchk
   let⟨⟨⟨h1,h2⟩,h3⟩,hchk⟩:=hchk
   split at hchk
   .rename_i kt' e hu
    have:kt=kt':=by simpa using hchk
    subst this
    exact fin _ _ _ _ e (.inl hop) h1 h2 h3 hu
   .cases hchk
  .simp only[Bool.and_eq_true] at hchk
   let⟨⟨⟨h1,h2⟩,h3⟩,hchk⟩:=hchk
   split at hchk
   .rename_i kt' e hu
    have:kt=kt':=by simpa using hchk
    subst this
    exact fin _ _ _ _ e (.inr hop) h1 h2 h3 hu
   .cases hchk
  .cases hchk
 | lenS x=>
  simp only[bP] at hchk
  split at hchk
  .rename_i as ts
   split at hchk
   .rename_i y t ha ht
    simp only[Bool.and_eq_true] at hchk
    let⟨h1,hchk⟩:=hchk
    split at hchk
    .rename_i e hu
     rw[gJ ha,gJ ht] at hop
     simp only[aG] at hev
     split at hev
     .rename_i hx
      simp only[Option.some.injEq,Prod.mk.injEq] at hev
      let⟨rfl,rfl⟩:=hev
      exact Kk (n:=0) hs htr hop h1 hu<|.inl ⟨hx,rfl⟩
     .rename_i f es hx
      simp only[Option.some.injEq,Prod.mk.injEq] at hev
      let⟨rfl,rfl⟩:=hev
      exact Kk hs htr hop h1 hu<|.inr<|.inl ⟨_,_,hx,rfl⟩
     .rename_i es hx
      simp only[Option.some.injEq,Prod.mk.injEq] at hev
      let⟨rfl,rfl⟩:=hev
      exact Kk hs htr hop h1 hu<|.inr<|.inr<|.inr ⟨_,hx,rfl⟩
     .rename_i id tot off len hx
      simp only[Option.some.injEq,Prod.mk.injEq] at hev
      let⟨rfl,rfl⟩:=hev
      exact Kk hs htr hop h1 hu<|.inr<|.inr<|.inl ⟨_,_,_,hx⟩
     .cases hev
    .cases hchk
   .cases hchk
  .cases hchk
 | lenM x=>
  simp only[bP] at hchk
  split at hchk
  .rename_i as ts
   split at hchk
   .rename_i y t ha ht
    simp only[Bool.and_eq_true] at hchk
    let⟨h1,hchk⟩:=hchk
    split at hchk
    .rename_i k e hu
     rw[gJ ha,gJ ht] at hop
     simp only[aG] at hev
     split at hev
     .rename_i hx
      simp only[Option.some.injEq,Prod.mk.injEq] at hev
      let⟨rfl,rfl⟩:=hev
      exact Wd (n:=0) hs htr hop h1 hu<|.inl ⟨hx,rfl⟩
     .rename_i id hx
      split at hev
      .rename_i ents hob
       simp only[Option.some.injEq,Prod.mk.injEq] at hev
       let⟨rfl,rfl⟩:=hev
       exact Wd hs htr hop h1 hu<|.inr<|.inl ⟨_,_,hx,hob,rfl⟩
      .cases hev
     .rename_i ents hx
      simp only[Option.some.injEq,Prod.mk.injEq] at hev
      let⟨rfl,rfl⟩:=hev
      exact Wd hs htr hop h1 hu<|.inr<|.inr ⟨_,hx,rfl⟩
     .cases hev
    .cases hchk
   .cases hchk
  .cases hchk
 | lenStr t x=>
  simp only[bP] at hchk
  split at hchk
  .rename_i as ts
   split at hchk
   .rename_i y t' ha ht
    simp only[Bool.and_eq_true,beq_iff_eq] at hchk
    let⟨rfl,h1⟩:=hchk
    rw[gJ ha,gJ ht] at hop
    simp only[aG] at hev
    split at hev
    .rename_i v1 hx
     split at hev
     .rename_i r hr
      simp only[Option.some.injEq,Prod.mk.injEq] at hev
      let⟨rfl,rfl⟩:=hev
      exact OD hs htr hop h1 hx hr
     .cases hev
    .cases hev
   .cases hchk
  .cases hchk
 | lenC n=>
  simp only[aG,Option.some.injEq,Prod.mk.injEq] at hev
  let⟨rfl,rfl⟩:=hev
  simp only[bP] at hchk
  split at hchk
  .rename_i as ts
   split at hchk
   .rename_i y t ha ht
    split at hchk
    .rename_i m e hu
     have:m=n:=by simpa using hchk
     subst this
     rw[gJ ha,gJ ht] at hop
     exact f7 hs hop hu
    .cases hchk
   .cases hchk
  .cases hchk
 | append s bytes x y=>
  simp only[bP] at hchk
  split at hchk
  .rename_i as ts
   split at hchk
   .rename_i x' y' t t' ha ht
    simp only[Bool.and_eq_true] at hchk
    let⟨⟨⟨h1,h2⟩,h3⟩,hchk⟩:=hchk
    have h3':∃U,P.underlying t'=some U/\(U=.string\/∃e',U=.slice e'):=by
     split at h3
     .rename_i e' hu';exact⟨_,hu',.inr ⟨_,rfl⟩⟩
     .rename_i hu';exact⟨_,hu',.inl rfl⟩
     .cases h3
    let⟨U,hu',hU⟩:=h3'
    split at hchk
    .rename_i e hu
     simp only[Bool.and_eq_true] at hchk
     let⟨⟨h4,h5⟩,hchk⟩:=hchk
     split at hchk
     .rename_i i hi
      split at hchk
      .rename_i z hz
       have hzs:z.cells.size=s:=by simpa using hchk
       have hsz:i.size=s:=by simpa [cC,hi] using h4
       have hby:i.bytes=bytes:=by simpa [lV,hi] using h5
       rw[jZ ha,jZ ht] at hop
       simp only[aG] at hev
       split at hev
       .rename_i ys hys
        exact Er hs htr hfl hop h1 h2 hu hu' hU hi hsz hby hz hzs hys hev
       .cases hev
      .cases hchk
     .cases hchk
    .cases hchk
   .cases hchk
  .cases hchk
 | appendP s bytes x y=>
  simp only[bP] at hchk
  split at hchk
  .rename_i as ts
   split at hchk
   .rename_i x' y' t t' ha ht
    simp only[Bool.and_eq_true] at hchk
    let⟨⟨⟨h1,h2⟩,h3⟩,hchk⟩:=hchk
    split at h3
    .rename_i e' hu'
     split at hchk
     .rename_i e hu
      simp only[Bool.and_eq_true] at hchk
      let⟨⟨h4,h5⟩,hchk⟩:=hchk
      split at hchk
      .rename_i i hi
       split at hchk
       .rename_i z hz
        have hzs:z.cells.size=s:=by simpa using hchk
        have hsz:i.size=s:=by simpa [cC,hi] using h4
        have hby:i.bytes=bytes:=by simpa [lV,hi] using h5
        rw[jZ ha,jZ ht] at hop
        simp only[aG] at hev
        split at hev
        .rename_i r hr
         cases hev
         exact GE hs htr hop h1 h2 hu hu' hi hsz hby hz hzs hr
        .cases hev
       .cases hchk
      .cases hchk
     .cases hchk
    .cases h3
   .cases hchk
  .cases hchk
 | appendZ s bytes z x y=>
  simp only[bP] at hchk
  split at hchk
  .rename_i as ts
   split at hchk
   .rename_i x' y' t t' ha ht
    simp only[Bool.and_eq_true] at hchk
    let⟨⟨⟨h1,h2⟩,h3⟩,hchk⟩:=hchk
    split at h3
    .rename_i k hu'
     split at hchk
     .rename_i e hu
      simp only[Bool.and_eq_true] at hchk
      let⟨⟨h4,h5⟩,h6⟩:=hchk
      rw[jZ ha,jZ ht] at hop
      simp only[aG] at hev
      split at hev
      .rename_i n hn
       split at hev
       .rename_i hc
        exact GD hs htr hfl hop h1 h2 hu hu' h4 h5 h6 hc.1 hn hc.2.1 hc.2.2 hev
       .cases hev
      .cases hev
     .cases hchk
    .cases h3
   .cases hchk
  .cases hchk
 | copy s x y=>
  simp only[bP] at hchk
  split at hchk
  .rename_i as ts
   split at hchk
   .rename_i x' y' t t' ha ht
    simp only[Bool.and_eq_true] at hchk
    let⟨⟨h1,h2⟩,hchk⟩:=hchk
    split at hchk
    .rename_i e hu
     let⟨i,hi,hsz⟩:=dA hchk
     rw[jZ ha,jZ ht] at hop
     simp only[aG] at hev
     split at hev
     .rename_i ys hrd
      split at hev
      .rename_i hal
       split at hev
       .rename_i id tot off len hx
        split at hev
        .rename_i s' es hob
         split at hev
         .rename_i hc
          let⟨rfl,c2,c3,c4⟩:=hc
          exact f9 hs htr hop h1 h2 hu hi hsz hrd hal.1 hal.2 hx hob c2 c3 c4 hev
         .cases hev
        .cases hev
       .cases hev
      .cases hev
     .cases hev
    .cases hchk
   .cases hchk
  .cases hchk
 | clear s z x=>
  simp only[bP] at hchk
  split at hchk
  .rename_i as ts
   split at hchk
   .rename_i x' t ha ht
    simp only[Bool.and_eq_true] at hchk
    let⟨h1,hchk⟩:=hchk
    split at hchk
    .rename_i e hu
     simp only[Bool.and_eq_true] at hchk
     rw[gJ ha,gJ ht] at hop
     refine TU hs htr hop h1 hu hchk.1 hchk.2 ?_
     simp only[aG] at hev
     split at hev
     .rename_i hx
      cases hev
      exact .inl ⟨hx,rfl,rfl⟩
     .rename_i f hx
      cases hev
      exact .inr<|.inl ⟨f,hx,rfl,rfl⟩
     .rename_i id tot off len hx
      split at hev
      .rename_i s' es hob
       split at hev
       .rename_i hc
        let⟨rfl,c2,c3,c4,c5,c6⟩:=hc
        exact .inr<|.inr ⟨id,tot,off,len,es,hx,hob,c2,c3,c4,c5,c6,hev⟩
       .cases hev
      .cases hev
     .cases hev
    .cases hchk
   .cases hchk
  .cases hchk
 | delete kt m k=>
  simp only[bP] at hchk
  split at hchk
  .rename_i as ts
   split at hchk
   .rename_i m' k' t ts' ha ht
    simp only[Bool.and_eq_true] at hchk
    let⟨⟨h1,h2⟩,hchk⟩:=hchk
    split at hchk
    .rename_i kt' e hu
     have:kt=kt':=by simpa using hchk
     subst this
     have ht0:ts[0]?=some t:=by rw[<-Array.getElem?_toList,ht];rfl
     rw[jZ ha] at hop
     simp only[aG] at hev
     split at hev
     .rename_i kv id hk hm
      split at hev
      .rename_i hflid
       split at hev
       .rename_i ents hob
        split at hev
        .rename_i u i0 hck hf
         simp only[Option.some.injEq,Prod.mk.injEq] at hev
         let⟨rfl,rfl⟩:=hev
         exact Tk hs htr hop ht0 h1 h2 hu hk hck hflid hm hob<|.inl ⟨_,hf,rfl⟩
        .rename_i u hck hf
         simp only[Option.some.injEq,Prod.mk.injEq] at hev
         let⟨rfl,rfl⟩:=hev
         have key:=Tk hs htr hop ht0 h1 h2 hu hk hck hflid hm hob<|.inr ⟨hf,rfl⟩
         have e0:c.H.set id (.mp ents)=c.H:=by
          apply List.ext_getElem?
          intro j
          by_cases hj:j=id
          .subst hj;rw[getElem?_set_eq' hob,hob]
          .rw[getElem?_set_ne' hj]
         rw[e0] at key
         exact key
        .cases hev
       .cases hev
      .cases hev
     .cases hev
    .cases hchk
   .cases hchk
  .cases hchk
 | minmax mx xs=>
  simp only[aG] at hev
  split at hev
  .rename_i vs hvs
   split at hev
   .rename_i r hr
    simp only[Option.some.injEq,Prod.mk.injEq] at hev
    let⟨rfl,rfl⟩:=hev
    simp only[bP] at hchk
    split at hchk
    .simp only[Bool.and_eq_true] at hchk
     obtain⟨rfl,h1⟩:=hchk
     exact Tg hs htr hop (.inl rfl) h1 hvs<|by simpa using hr
    .simp only[Bool.and_eq_true,Bool.not_eq_true'] at hchk
     obtain⟨rfl,h1⟩:=hchk
     exact Tg hs htr hop (.inr rfl) h1 hvs<|by simpa using hr
    .cases hchk
   .cases hev
  .cases hev
 | mkFn vi caps=>
  simp only[aG,Option.some.injEq,Prod.mk.injEq] at hev
  let⟨rfl,rfl⟩:=hev
  simp only[bP] at hchk
  split at hchk
  .rename_i f first cs
   simp only[Bool.and_eq_true,beq_iff_eq] at hchk
   let⟨⟨h1,h2⟩,h3⟩:=hchk
   have:first=#[]:=by simpa using h1
   subst this
   exact f6 hs htr hop h2 h3
  .cases hchk
 | call pu vi args=>
  simp only[bP] at hchk
  split at hchk
  .simp only[Bool.and_eq_true,beq_iff_eq] at hchk
   simp only[aG] at hev
   exact KT hcf hfn hs htr hfl hop hchk.1 hchk.2 hev
  .cases hchk
 | callS vi args=>
  simp only[bP] at hchk
  split at hchk
  .simp only[Bool.and_eq_true,beq_iff_eq] at hchk
   simp only[aG] at hev
   split at hev
   .rename_i r H1 he
    split at hev
    .rename_i hr
     cases hev
     exact TY hcf hfn hs htr hop hchk.1 hchk.2 he hr
    .cases hev
   .cases hev
  .cases hchk
 | callF vi args=>
  simp only[bP] at hchk
  split at hchk
  .simp only[Bool.and_eq_true,beq_iff_eq] at hchk
   simp only[aG] at hev
   exact TZ hcf hfn hs htr hfl hop hchk.1 hchk.2 hev
  .cases hchk
 | callB vi args=>
  simp only[bP] at hchk
  split at hchk
  .simp only[Bool.and_eq_true,beq_iff_eq] at hchk
   simp only[aG] at hev
   split at hev
   .rename_i r H1 he
    cases hev
    exact UA hcf hfn hs htr hop hchk.1 hchk.2 he
   .cases hev
  .cases hchk
 | callT s vi args=>
  simp only[bP] at hchk
  split at hchk
  .simp only[Bool.and_eq_true,beq_iff_eq] at hchk
   simp only[aG] at hev
   exact TX hcf hfn hs htr hfl hop hchk.1 hchk.2 hev
  .cases hchk
 | capS x=>
  simp only[bP] at hchk
  split at hchk
  .rename_i as ts
   split at hchk
   .rename_i y t ha ht
    simp only[Bool.and_eq_true] at hchk
    let⟨h1,hchk⟩:=hchk
    split at hchk
    .rename_i e hu
     rw[gJ ha,gJ ht] at hop
     simp only[aG] at hev
     split at hev
     .rename_i hx
      simp only[Option.some.injEq,Prod.mk.injEq] at hev
      let⟨rfl,rfl⟩:=hev
      exact KS (n:=0) hs htr hop h1 hu<|.inl ⟨hx,rfl⟩
     .rename_i es hx
      simp only[Option.some.injEq,Prod.mk.injEq] at hev
      let⟨rfl,rfl⟩:=hev
      exact KS hs htr hop h1 hu<|.inr ⟨_,hx,rfl⟩
     .cases hev
    .cases hchk
   .cases hchk
  .cases hchk
 | callv pu x args=>
  simp only[bP] at hchk
  split at hchk
  .simp only[Bool.and_eq_true] at hchk
   simp only[aG] at hev
   split at hev
   .rename_i vi caps hx
    exact TW hcf hfn hs htr hfl hop hchk.1 hx hchk.2 hev
   .cases hev
  .cases hchk
 | extract x i=>
  simp only[bP] at hchk
  split at hchk
  .simp only[Bool.and_eq_true,beq_iff_eq] at hchk
   let⟨rfl,h1⟩:=hchk
   simp only[aG] at hev
   split at hev
   .rename_i vs hx
    split at hev
    .rename_i u hu
     simp only[Option.some.injEq,Prod.mk.injEq] at hev
     let⟨rfl,rfl⟩:=hev
     exact GB hs htr hop h1 hx hu
    .cases hev
   .cases hev
  .cases hchk
end
section
variable {P:Program}{T:List bC}{cf:Nat->Nat->List AV->aK->Option (AV×aK)}{fl:Nat}
theorem TR.put{FT:Nat->Option Nat}{c:bM}{tm:List AV}{a:Act}{d:Option Nat}{x:AV}{v:Value}(h:TR FT c tm a.tmps)(j:RV FT c x v): TR FT c (dL tm d x) (a.put d v).tmps:=by
 cases d with
 | none=>exact h
 | some d=>
  simp only[dL,Act.put];refine⟨by simpa using h.1,λt y e=>?_⟩;rw[List.getElem?_set] at e;split at e
  .rename_i b;subst b;split at e
   .rename_i f;cases e;exact⟨v,by simp[<-h.1,f],j⟩
   .cases e
  .rename_i b;let⟨u,g,i⟩:=h.2 t y e;exact⟨u,by rw[Array.getElem?_setIfInBounds_ne b];exact g,i⟩
theorem fJ(a:Act)(d:Option Nat)(v:Value): (a.put d v).defers=a.defers:=by cases d<;>rfl
theorem tM[aA]{c:bM}{tm:List AV}{a:Act}{ops:Array Oper}{g:Option<|Nat×Bool}{o:Oper}{b:Bool}(h:TR (aF T) c tm a.tmps)(e:xL ops g o.guard=true)(d:bY tm g=some b):
 Region.wanted o (yielded ops a.tmps)=b:=by
 unfold Region.wanted;cases g with
 | none=>
  cases k:o.guard with
  | none=>
   simp only[bY,Option.some.injEq] at d;exact d
  | some q=>rw[k] at e;simp[xL] at e
 | some q=>
  let⟨t,A⟩:=q;cases k:o.guard with
  | none=>rw[k] at e;simp[xL] at e
  | some q=>
   let⟨j,C⟩:=q;rw[k] at e;simp only[xL,Bool.and_eq_true,beq_iff_eq] at e;let⟨rfl,e⟩:=e;split at e
   .rename_i p s;have B:p.dst=some t:=by simpa using e
    simp only[bY] at d;have z:yielded ops a.tmps j=match a.tmps[t]? with | some (.bool b)=>some b | _=>none:=by
     unfold yielded;simp only[s,Option.bind_some,B];cases a.tmps[t]? with
     | none=>rfl
     | some v=>cases v<;>rfl
    simp only[z];simp only[aB] at d;cases i:tm[t]? with
    | none=>
     rw[i] at d;simp only[aT] at d;have y:a.tmps[t]?=none:=by
      rw[Array.getElem?_eq_none_iff,<-h.1];simpa using i
     rw[y];cases d;rfl
    | some x=>
     rw[i] at d;let⟨v,w,r⟩:=h.2 t x i;rw[w];simp only at d;split at d
     .rename_i n;rw[r.lit_inv];cases d;cases n<;>cases A<;>rfl
     .rename_i u l;rw[r.lit_inv];cases d;split
      .rename_i n m;cases m;exact (l n rfl).elim
      .rfl
     .cases d
   .cases e
theorem oU[aA](j:jD P T cf)(k:fA P T){c:bM}{a:Act}{tm:List AV}{ops:Array Oper}{i:Nat}{ao:aH}{o:Oper}{st':St}{K:Act->World->Prop}{Q:Exit->Act->World->Prop}(n:aZ (aF T) c)(d:TR (aF T) c tm a.tmps)(g:fl<=c.H.length)(u:ops[i]?=some o)(e:cW P T ops ao o=true)(b:aV P cf fl ao ⟨tm,c.H⟩=some st')(l:∀a' c',c'.H=st'.heap->aY fl c c'->aZ (aF T) c'->TR (aF T) c' st'.tmps a'.tmps->a'.defers=a.defers->(∃x v,st'.tmps=dL tm o.dst x/\a'=a.put o.dst v/\RV (aF T) c' x v)->K a' c'.w):
 wpOp P ops Q i K a c.w:=by
 simp only[cW,Bool.and_eq_true,beq_iff_eq] at e;let⟨⟨r,q⟩,h⟩:=e;unfold wpOp;rw[u];simp only;unfold aV at b;rw[r] at b;split at b
 .rename_i f;rw[tM d q f];simp only[if_true];split at b
  .rename_i v H he;cases b;left;refine HB j k n d g h he K Q ?_;intro cv c' t m s p;exact l _ c' t m s ((d.step m).put p) (fJ _ _ _) ⟨v,cv,rfl,rfl,p⟩
  .cases b
 .rename_i f;rw[tM d q f];simp only[Bool.false_eq_true,if_false];cases b;exact l _ c rfl (aY.refl _ _) n (d.put<|RV.lit _) (fJ _ _ _) ⟨_,_,rfl,rfl,RV.lit _⟩
 .cases b
theorem KQ[aA](h:jD P T cf)(l:fA P T){ops:Array Oper}{Q:Exit->Act->World->Prop}: ∀(aops:List aH) (os:List Oper) (k:Nat) (c:bM) (a:Act) (tm:List AV) (st':St),
 cP P T ops aops os=true->(∀j o,os[j]?=some o->ops[k+j]?=some o)->aZ (aF T) c->TR (aF T) c tm a.tmps->fl<=c.H.length->aW P cf fl aops ⟨tm,c.H⟩=some st'->
 (∀a' c',c'.H=st'.heap->aY fl c c'->aZ (aF T) c'->TR (aF T) c' st'.tmps a'.tmps->a'.defers=a.defers->Q .normal a' c'.w)->wpOps P ops Q (List.range' k aops.length) a c.w
 | [],[],k,c,a,tm,st',_,_,s,f,_,d,n=>by
  simp only[aW,Option.some.injEq] at d;subst d;exact n a c rfl (aY.refl _ _) s f rfl
 | ao::r,o::os,k,c,a,tm,st',b,e,s,f,i,d,n=>by
  simp only[cP,Bool.and_eq_true] at b;simp only[aW] at d;split at d
  .rename_i g x;simp only[List.length_cons,List.range'_succ,wpOps_cons];refine oU h l s f i (e 0 o<|by simp) b.1 x ?_;intro a' c' t e2 y u z _;have:(⟨g.tmps,c'.H⟩:St)=g:=by rw[t]
   refine KQ h l r os (k+1) c' a' g.tmps st' b.2 (λj p B=>?_) y u (Nat.le_trans i e2.len) (by rw[this];exact d) ?_
   .have:=e (j+1) p (by simpa using B);rwa [show k+(j+1)=k+1+j by omega] at this
   .intro q m f1 f2 A v C;exact n q m f1 (e2.trans f2) A v<|C.trans z
  .cases d
 | [],_::_,_,_,_,_,_,b,_,_,_,_,_,_=>by cases b
 | _::_,[],_,_,_,_,_,b,_,_,_,_,_,_=>by cases b
end
section
variable {P:Program}{T:List bC}{cf:Nat->Nat->List AV->aK->Option (AV×aK)}{fl:Nat}
theorem Mo[aA]{t:Nat}: ∀{a:List aN},aN.tmp t∈a->t∈vW a
 | x::r,h=>by
  rcases List.mem_cons.1 h with e | b
  .subst e;simp[vW]
  .have c:=Mo b;cases x<;>simp[vW,c]
theorem uG[aA]{tm a:List AV}{b:List aN}(h:∀t∈vW b,tm[t]?=a[t]?): ∀x∈b,aB tm x=aB a x:=by
 intro x d;cases x with
 | tmp t=>simp only[aB,h t<|Mo d]
 | _=>rfl
theorem kC[aA]{tm a:List AV}{x:Option aN}(h:∀y∈FU x,aB tm y=aB a y): cD tm x=cD a x:=by
 cases x with
 | none=>rfl
 | some y=>simp only[cD,h y<|by simp[FU]]
theorem HC[aA]{tm a:List AV}{H:aK}{k:tK}(h:∀x∈eN k,aB tm x=aB a x): aG P cf fl k tm H=aG P cf fl k a H:=by
 cases k with
 | build z c=>
  have e:(c.map λ(p:Nat×Nat×aN)=>(p.1,p.2.1,aB tm p.2.2))=c.map λ(p:Nat×Nat×aN)=>(p.1,p.2.1,aB a p.2.2):=by
   apply List.map_congr_left;intro p B;rw[h p.2.2<|by simp only[eN,List.mem_map];exact⟨p,B,rfl⟩]
  simp only[aG];have w:(c.map λ(o,s,x)=>(o,s,aB tm x))=c.map λ(o,s,x)=>(o,s,aB a x):=e;rw[w]
 | buildC z c cl=>
  have e:(c.map λ(p:Nat×Nat×aN)=>(p.1,p.2.1,aB tm p.2.2))=c.map λ(p:Nat×Nat×aN)=>(p.1,p.2.1,aB a p.2.2):=by
   apply List.map_congr_left;intro p B;rw[h p.2.2<|by simp only[eN,List.mem_map];exact⟨p,B,rfl⟩]
  simp only[aG];have w:(c.map λ(o,s,x)=>(o,s,aB tm x))=c.map λ(o,s,x)=>(o,s,aB a x):=e;rw[w]
 | buildSl pu s n z c=>
  have w:(c.map λ(i,x)=>(i,aB tm x))=c.map λ(i,x)=>(i,aB a x):=by
   apply List.map_congr_left;intro p B;show (p.1,aB tm p.2)=(p.1,aB a p.2);rw[h p.2<|by simp only[eN,List.mem_map];exact⟨p,B,rfl⟩]
  simp only[aG];rw[w]
 | slice s x F l mx=>
  simp only[eN] at h;simp only[aG];rw[h x<|by simp,kC λy b=>h y<|by simp[b],kC (x:=l) λy b=>h y<|by simp[b],kC (x:=mx) λy b=>h y<|by simp[b]]
 | strSlice t x F l=>
  simp only[eN] at h;simp only[aG];rw[h x<|by simp,kC λy b=>h y<|by simp[b],kC (x:=l) λy b=>h y<|by simp[b]]
 | minmax mx d=>
  simp only[eN] at h;simp only[aG];rw[List.map_congr_left h]
 | mkFn vi d=>
  simp only[eN] at h;simp only[aG];rw[List.map_congr_left h]
 | call pu vi d=>
  simp only[eN] at h;simp only[aG];rw[List.map_congr_left h]
 | callF vi d=>
  simp only[eN] at h;simp only[aG];rw[List.map_congr_left h]
 | callT s vi d=>
  simp only[eN] at h;simp only[aG];rw[List.map_congr_left h]
 | callB vi d=>
  simp only[eN] at h;simp only[aG];rw[List.map_congr_left h]
 | callS vi d=>
  simp only[eN] at h;simp only[aG];rw[List.map_congr_left h]
 | callv pu x d=>
  simp only[eN] at h;simp only[aG];rw[h x<|by simp,List.map_congr_left λy b=>h y<|by simp[b]]
 | _=>
  simp only[eN,List.mem_cons,List.not_mem_nil,or_false,forall_eq_or_imp,forall_eq,false_imp_iff,implies_true] at h;simp[aG,h]
theorem Gn[aA]{tm a:List AV}{g:Option<|Nat×Bool}(h:∀t b,g=some (t,b)->tm[t]?=a[t]?): bY tm g=bY a g:=by
 cases g with
 | none=>rfl
 | some q=>
  let⟨t,b⟩:=q;simp only[bY,aB,h t b rfl]
theorem nW[aA]{tm c:List AV}{H:aK}{o:aH}{st':St}(h:∀t∈kD o,tm[t]?=c[t]?)(a:aV P cf fl o ⟨c,H⟩=some st'):
 ∃x,st'.tmps=dL c o.dst x/\aV P cf fl o ⟨tm,H⟩=some ⟨dL tm o.dst x,st'.heap⟩:=by
 have f:bY tm o.guard=bY c o.guard:=Gn λt b e=>h t (by simp[kD,e]);have g:aG P cf fl o.op tm H=aG P cf fl o.op c H:=HC<|uG λt d=>h t (by
  unfold kD;split
  .simp[d]
  .exact d)
 unfold aV at a |-;simp only[f,g] at a |-;split at a
 .split at a
  .rename_i v H1 he;cases a;exact⟨v,rfl,rfl⟩
  .cases a
 .cases a;exact⟨_,rfl,rfl⟩
 .cases a
theorem Ns[aA]{tm:List AV}{H H':aK}{f:tK}{v:AV}(b:dQ f=true)(a:aG P cf fl f tm H=some (v,H')): H'=H:=by
 cases f with
 | call pu vi h=>
  simp only[dQ] at b;subst b;simp only[aG,iV] at a;split at a<;>split at a<;>cases a<;>rfl
 | callv pu x h=>
  simp only[dQ] at b;subst b;simp only[aG,iV] at a;split at a
  .split at a<;>split at a<;>cases a<;>rfl
  .cases a
 | buildSl pu s n z i=>
  simp only[dQ] at b;subst b;simp only[aG,if_true] at a;split at a<;>cases a;rfl
 | lookup kt z m k ok=>
  simp only[aG] at a;split at a
  .split at a
   .split at a
    .split at a<;>cases a;rfl
    .cases a;rfl
    .cases a
   .split at a
    .split at a
     .split at a<;>cases a;rfl
     .cases a;rfl
     .cases a
    .cases a
   .split at a
    .split at a<;>cases a;rfl
    .cases a;rfl
    .cases a
   .cases a
  .cases a
 | _=>
  first
  | (simp[dQ] at b;done)
  | (simp only[aG] at a;(repeat' split at a)<;>first | (cases a;rfl) | cases a)
theorem nV[aA]{st st':St}{o:aH}(b:dQ o.op=true)(a:aV P cf fl o st=some st'): st'.heap=st.heap:=by
 unfold aV at a;split at a
 .split at a
  .rename_i v H he;cases a;exact Ns b he
  .cases a
 .cases a;rfl
 .cases a
theorem Lg[aA]: ∀(aops:List aH) (st st':St),aW P cf fl aops st=some st'->
 ∃S:Nat->St,S 0=st/\S aops.length=st'/\∀k ao,aops[k]?=some ao->aV P cf fl ao (S k)=some (S<|k+1)
 | [],st,st',h=>by
  simp only[aW,Option.some.injEq] at h;exact⟨λ_=>st,rfl,h,λk ao a=>by simp at a⟩
 | o::r,st,st',h=>by
  simp only[aW] at h;split at h
  .rename_i b e;let⟨S,c,e2,d⟩:=Lg r b st' h;refine⟨λk=>match k with | 0=>st | k+1=>S k,rfl,by simpa using e2,λk ao a=>?_⟩;cases k with
   | zero=>
    simp only[List.getElem?_cons_zero,Option.some.injEq] at a;subst a;rw[e,<-c]
   | succ k=>
    simp only[List.getElem?_cons_succ] at a;exact d k ao a
  .cases h
def nX(aops:List aH)(k:Nat): Option Nat:=match aops[k]? with | some o=>o.dst | none=>none
def eI(aops:List aH)(tm:List AV)(val:Nat->AV)(D:Nat->Bool): Nat->List AV
 | 0=>tm
 | n+1=>if D n then dL (eI aops tm val D n) (nX aops n) (val n) else eI aops tm val D n
theorem jT(tm:List AV)(d:Option Nat)(x:AV): (dL tm d x).length=tm.length:=by cases d<;>simp[dL]
theorem cL[aA]{aops:List aH}{tm:List AV}{val:Nat->AV}{D:Nat->Bool}: ∀n,(eI aops tm val D n).length=tm.length
 | 0=>rfl
 | n+1=>by
  simp only[eI];split
  .rw[jT,cL n]
  .exact cL n
theorem gI{tm:List AV}{d:Option Nat}{x:AV}{t:Nat}: (dL tm d x)[t]?=if d=some t then (if t<tm.length then some x else none) else tm[t]?:=by
 cases d with
 | none=>simp[dL]
 | some d=>
  simp only[dL,List.getElem?_set,Option.some.injEq];by_cases e:d=t
  .subst e;rfl
  .simp[e]
theorem jW[aA]{aops:List aH}{tm:List AV}{val:Nat->AV}{D D':Nat->Bool}{t:Nat}: ∀n,(∀j,j<n->nX aops j=some t->D j=D' j)->(eI aops tm val D n)[t]?=(eI aops tm val D' n)[t]?
 | 0,_=>rfl
 | n+1,h=>by
  have d:=jW (val:=val) (tm:=tm) n λj e b=>h j (by omega) b;simp only[eI];by_cases b:nX aops n=some t
  .rw[h n (by omega) b];split
   .simp only[gI,b,if_true,cL]
   .exact d
  .have c:∀l:List AV,(dL l (nX aops n)<|val n)[t]?=l[t]?:=λl=>by rw[gI,if_neg b]
   split<;>split<;>(try simp only[c])<;>exact d
theorem Hk[aA]{aops:List aH}{tm:List AV}{val:Nat->AV}{D D':Nat->Bool}: ∀n,(∀j,j<n->D j=D' j)->eI aops tm val D n=eI aops tm val D' n
 | 0,_=>rfl
 | n+1,h=>by
  simp only[eI,h n<|by omega,Hk n λj a=>h j<|by omega]
theorem Ax[aA]{aops:List aH}{tm:List AV}{val:Nat->AV}{D:Nat->Bool}{t k:Nat}(f:D k=true)(d:nX aops k=some t): ∀n,k<n->(∀j,k<j->j<n->nX aops j=some t->D j=false)->
 (eI aops tm val D n)[t]?=if t<tm.length then some (val k) else none
 | 0,h,_=>by omega
 | n+1,l,h=>by
  simp only[eI];by_cases e:k=n
  .subst e;rw[if_pos f,gI,if_pos d,cL]
  .have c:=Ax (tm:=tm) (val:=val) f d n (by omega) λj g m i=>h j g (by omega) i;by_cases b:nX aops n=some t
   .rw[h n (by omega) (by omega) b];simpa using c
   .split
    .rw[gI,if_neg b];exact c
    .exact c
theorem oH[aA]{aops:List aH}{tm:List AV}{val:Nat->AV}{S:Nat->St}(b:(S 0).tmps=tm)(a:∀k ao,aops[k]?=some ao->(S<|k+1).tmps=dL (S k).tmps ao.dst (val k)):
 ∀n,n<=aops.length->eI aops tm val (λ_=>true) n=(S n).tmps
 | 0,_=>b.symm
 | n+1,h=>by
  have c:n<aops.length:=by omega
  simp only[eI,if_true,oH b a n<|by omega];rw[a n aops[n]<|by simp];simp[nX,c]
theorem jV[aA]{aops:List aH}{tm:List AV}{val:Nat->AV}{D:Nat->Bool}{k:Nat}: ∀n,k<=n->(∀j,k<=j->j<n->D j=false)->eI aops tm val D n=eI aops tm val D k
 | 0,h,_=>by have:k=0:=(by omega);rw[this]
 | n+1,h,b=>by
  by_cases e:k=n+1
  .rw[e]
  .simp only[eI,b n (by omega)<|by omega];simpa using jV n (by omega) λj c d=>b j c<|by omega
theorem uH[aA]{aops:List aH}{tm:List AV}{val:Nat->AV}{S:Nat->St}{D:Nat->Bool}{k n:Nat}(c:(S 0).tmps=tm)(a:∀k ao,aops[k]?=some ao->(S<|k+1).tmps=dL (S k).tmps ao.dst (val k))(d:k<=n)(f:n<=aops.length)(e:∀j,j<k->D j=true)(b:∀j,k<=j->j<n->D j=false): eI aops tm val D n=(S k).tmps:=by
 rw[jV n d b,Hk (D':=λ_=>true) k e];exact oH c a k<|by omega
theorem Te[aA]{a:List Nat}{i:Nat}: ∀{ds:List Nat},(Bz a ds).testBit i=true->∃d∈ds,i=d\/(a.getD d 0).testBit i=true
 | [],h=>by simp[Bz] at h
 | d::r,h=>by
  simp only[Bz,Nat.testBit_or,Bool.or_eq_true] at h;rcases h with (h | h) | h
  .have:d=i:=by simpa [Nat.testBit_two_pow] using h
   exact⟨d,by simp,.inl this.symm⟩
  .exact⟨d,by simp,.inr h⟩
  .let⟨e,c,b⟩:=Te h;exact⟨e,by simp[c],b⟩
def WB(ops:List Oper)(k:Nat): List Nat:=match ops[k]? with
 | some o=>(o.after.toList.filter λe=>Region.binds .any e&&decide (e.on<k)).map λ(e:Edge)=>e.on
 | none=>[]
theorem Ut[aA]{ops:List Oper}: ∀(n:Nat) (a:List Nat),(∃L,iP ops n a=a++L/\L.length=n) /\
 ∀k,a.length<=k->k<a.length+n->(iP ops n a).getD k 0=Bz ((iP ops n a).take k) (WB ops k)
 | 0,a=>⟨⟨[],by simp[iP],rfl⟩,λk c d=>by omega⟩
 | n+1,a=>by
  let⟨⟨L,c,d⟩,h⟩:=Ut (ops:=ops) n<|a++[Bz a<|WB ops a.length];have e:iP ops (n+1) a=iP ops n (a++[Bz a<|WB ops a.length]):=rfl;rw[e];refine⟨⟨Bz a (WB ops a.length)::L,by rw[c];simp,by simp[d]⟩,λk i f=>?_⟩;by_cases g:k=a.length
  .subst g;rw[c];simp[List.getD_eq_getElem?_getD]
  .exact h k (by simp;omega)<|by simp;omega
theorem Pa[aA]{ops:List Oper}{k i:Nat}(g:k<ops.length)(h:((iP ops ops.length []).getD k 0).testBit i=true):
 ∃o,ops[k]?=some o/\∃e∈o.after,Region.binds .any e=true/\e.on<k/\(i=e.on\/((iP ops ops.length []).getD e.on 0).testBit i=true):=by
 let⟨_,j⟩:=Ut (ops:=ops) ops.length [];rw[j k (by simp)<|by simpa using g] at h;let⟨d,f,a⟩:=Te h;unfold WB at f;rw[List.getElem?_eq_getElem g] at f;simp only[List.mem_map,List.mem_filter,Bool.and_eq_true,decide_eq_true_eq] at f;obtain⟨e,⟨he,l,b⟩,rfl⟩:=f;refine⟨ops[k],List.getElem?_eq_getElem g,e,by simpa using he,l,b,?_⟩;rcases a with a | a
 .exact .inl a
 .right;rw[<-a];congr 1;simp only[List.getD_eq_getElem?_getD];rw[List.getElem?_take,if_pos b]
theorem dR[aA]{f:Nat}{aops:List aH}{an:List Nat}: ∀n,nP f aops an n=true->∀i j,i<j->j<n->(an.getD j 0).testBit i=true \/
 (((aU aops i=true\/aU aops j=true)\/(i=f/\j=f+1/\dC aops i=true/\dC aops j=true))/\∃x y,aops[i]?=some x/\aops[j]?=some y/\qR x y=false/\qR y x=false)
 | 0,_,i,j,_,h=>by omega
 | n+1,h,i,j,d,p=>by
  simp only[nP,Bool.and_eq_true] at h;by_cases e:j=n
  .subst e;have:=List.all_eq_true.1 h.2 i (by simpa using d);simp only[Bool.or_eq_true,Bool.and_eq_true,beq_iff_eq] at this;rcases this with a | ⟨a,c⟩
   .exact .inl a
   .right;refine⟨by rcases a with a | ⟨⟨⟨a,g⟩,k⟩,l⟩;exact .inl a;exact .inr ⟨a,g,k,l⟩,?_⟩;split at c
    .rename_i x y m o;simp only[Bool.and_eq_true,Bool.not_eq_true'] at c;exact⟨x,y,m,o,c.1,c.2⟩
    .cases c
  .exact dR n h.1 i j d<|by omega
theorem Gt{aops:List aH}{e:List<|Nat×Nat}{an:List Nat}{n k m:Nat}(h:Ve aops e an n=true)(g:k<n)(f:m<n)(c:aU aops k=true)(d:aU aops m=false):
 eK aops k=true\/(an.getD k 0).testBit m=true\/(an.getD m 0).testBit k=true\/(k,m)∈e:=by
 have b:=List.all_eq_true.1 h k (by simpa using g);simp only[Bool.or_eq_true,c,Bool.not_true,Bool.false_eq_true,or_false] at b;rcases b with b | b
 .exact .inl b
 .have a:=List.all_eq_true.1 b m (by simpa using f);simp only[Bool.or_eq_true,d,Bool.false_eq_true,false_or] at a;rcases a with (a | a) | a
  .exact .inr<|.inl a
  .exact .inr<|.inr<|.inl a
  .exact .inr<|.inr<|.inr<|by simpa using a
theorem Cu[aA]{tm:List AV}{H H':aK}{c:tK}{v:AV}{H1:aK}(d:oF c=true)(a:aG P cf fl c tm H=some (v,H1)): aG P cf fl c tm H'=some (v,H'):=by
 cases c with
 | buildSl pu s n z e=>
  simp only[oF] at d;subst d;simp only[aG,if_true] at a |-;split at a<;>cases a;rfl
 | _=>
  first
  | (simp[oF] at d;done)
  | (simp only[aG] at a |-;(repeat' split at a)<;>first | (cases a;rfl) | (cases a;simp_all) | cases a)
theorem Ra{H H':aK}{x:AV}{n:Nat}(h:∀id,Hb x=some id->H'[id]?=H[id]?): cA H' x n=cA H x n:=by
 cases x<;>try rfl
 rename_i id tot a off;simp only[cA,h id rfl]
theorem Vh{H H':aK}{s:Nat}{x:AV}{a b mx:Option Nat}(h:∀id,Hb x=some id->H'[id]?=H[id]?): dO H' s x a b mx=dO H s x a b mx:=by
 cases x with
 | ms id tot off len=>simp only[dO,h id rfl]
 | lit v=>unfold dO;split<;>rename_i d<;>first | rfl | cases d
 | _=>rfl
theorem Gx{H H':aK}{x:AV}(h:tX x=true): fE H 0 x=fE H' 0 x:=by
 cases x with
 | fn v caps=>cases caps<;>rfl
 | _=>first | rfl | (simp[tX] at h)
theorem Zz[aA]{H H':aK}{x:AV}(h:lB x=true): dF H 0 x=dF H' 0 x:=by
 cases x with
 | agg cs=>
  simp only[lB] at h;simp only[dF];congr 1;exact List.map_congr_left λy a=>Gx<|Ao h y a
 | _=>exact Gx (H:=H) (H':=H')<|by simpa [lB] using h
theorem qL[aA]{tm:List AV}{H H':aK}{l:tK}{v:AV}{H1:aK}{r:Option Nat}(b:bL l tm=some r)(d:∀id,r=some id->H'[id]?=H[id]?)(a:aG P cf fl l tm H=some (v,H1)): aG P cf fl l tm H'=some (v,H'):=by
 cases l with
 | load agg n x=>
  simp only[bL,Option.some.injEq] at b;simp only[aG,Ra (H:=H) (H':=H') (x:=aB tm x) λid h=>d id<|by rw[<-b];exact h] at a |-;split at a
  .split at a
   .cases a;simp_all
   .split at a
    .cases a;simp_all
    .cases a
  .cases a
 | idxAddr s x i=>
  simp only[bL,Option.some.injEq] at b;simp only[aG] at a |-;split at a
  .split at a
   .split at a
    .split at a
     .cases a;simp_all
     .cases a
    .cases a
   .split at a
    .split at a
     .cases a;simp_all
     .cases a
    .cases a
   .rename_i id tot off len j;rw[d id<|by rw[<-b,j];rfl];split at a
    .split at a
     .cases a;simp_all
     .cases a
    .cases a
   .cases a
  .cases a
 | slice s x K G mx=>
  simp only[bL,Option.some.injEq] at b;simp only[aG,Vh (H:=H) (H':=H') (x:=aB tm x) λid h=>d id<|by rw[<-b];exact h] at a |-;split at a
  .split at a
   .cases a;simp_all
   .cases a
  .cases a
 | lookup kt z m k ok=>
  simp only[bL,Option.some.injEq] at b;simp only[aG] at a |-;split at a
  .rename_i J E;split at a
   .rename_i w;split at a
    .split at a<;>cases a;simp_all
    .cases a;simp_all
    .cases a
   .rename_i id w;rw[d id<|by rw[<-b,w];rfl];split at a
    .rename_i C D;split at a
     .split at a<;>cases a;simp_all
     .cases a;simp_all
     .cases a
    .cases a
   .rename_i w;split at a
    .split at a<;>cases a;simp_all
    .cases a;simp_all
    .cases a
   .cases a
  .cases a
 | lenM x=>
  simp only[bL,Option.some.injEq] at b;simp only[aG] at a |-;split at a
  .cases a;simp_all
  .rename_i id j;rw[d id<|by rw[<-b,j];rfl];split at a
   .cases a;simp_all
   .cases a
  .cases a;simp_all
  .cases a
 | call pu vi c=>
  cases pu with
  | false=>simp[bL] at b
  | true=>
   simp only[bL] at b;split at b
   .rename_i f;simp only[aG,iV,f] at a |-;split at a<;>cases a;simp_all
   .cases b
 | callB vi c=>
  simp only[bL] at b;split at b
  .rename_i x;have e:fI H' (aB tm x)=fI H (aB tm x):=by
    split at b<;>first | (rename_i h;rw[h];rfl) | cases b
   simp only[aG,List.map_cons,List.map_nil,e] at a |-;split at a<;>cases a;simp_all
  .cases b
 | callS vi c=>
  simp only[bL] at b;split at b
  .rename_i f;have e:(c.map<|aB tm).map (dF H' 0)=(c.map<|aB tm).map (dF H 0):=List.map_congr_left λy F=>Zz<|tW f y F;simp only[aG,e] at a |-;split at a
   .rename_i r I he;split at a
    .rename_i d;cases a;simp[he,d]
    .cases a
   .cases a
  .cases b
 | callv pu x c=>
  cases pu with
  | false=>simp[bL] at b
  | true=>
   simp only[bL] at b;split at b
   .rename_i vi caps j;split at b
    .rename_i f;simp only[aG,j,iV,f] at a |-;split at a<;>cases a;simp_all
    .cases b
   .cases b
 | _=>simp[bL] at b
theorem Nb{s:Nat}{H H':aK}{r:AV}{q:Option<|AV×aK}(h:zX s H q=some (r,H')): ∃o,H'=H++[o]:=by
 unfold zX at h;repeat' split at h
 all_goals first
  | (cases h;done)
  | (cases h;exact⟨_,rfl⟩)
theorem HU{a b:Nat}(h:Nat.blt a b=true): a<b:=Nat.le_of_ble_eq_true h
theorem kI[aA]{H:aK}{L:List cG}{id:Nat}(h:Nat.blt id H.length=true): (H++L)[id]?=H[id]?:=List.getElem?_append_left<|HU h
theorem Cq{H:aK}{o:cG}{i id:Nat}(h:(!Nat.beq i id)=true): (H.set i o)[id]?=H[id]?:=by
 have:i≠id:=by
  intro e;subst e;simp at h
 rw[List.getElem?_set_ne this]
theorem Rp[aA]{H H':aK}{s bytes id:Nat}{x r:AV}{ys:List<|List AV}(b:(match x with | .ms i _ _ _=>!Nat.beq i id | _=>Nat.blt id H.length)=true)(a:bV fl H s bytes x ys=some (r,H')): H'[id]?=H[id]?:=by
 unfold bV at a;split at a
 .split at a
  .split at a<;>cases a
   .rfl
   .exact kI b
  .split at a
   .cases a;rfl
   .split at a<;>cases a;exact kI b
  .split at a
   .split at a
    .split at a
     .cases a;rfl
     .split at a
      .split at a
       .cases a;exact Cq b
       .split at a
        .cases a;exact Cq b
        .cases a
      .cases a
    .cases a
   .cases a
  .cases a
 .cases a
def fP(cf:Nat->Nat->List AV->aK->Option (AV×aK)): Prop:=∀fl n vi args H r H',(fl<=n/\n<=H.length)->cf fl vi args H=some (r,H')->H'.take fl=H.take fl/\n<=H'.length
theorem Nt[aA](B:fP cf){tm:List AV}{H H':aK}{A:tK}{v:AV}{id:Nat}(e:eP A tm H.length id=true)(a:aG P cf fl A tm H=some (v,H')): H'[id]?=H[id]?:=by
 cases A with
 | alloc z=>simp only[aG] at a;cases a;exact kI e
 | claim s=>simp only[aG] at a;cases a;exact kI e
 | allocC z M=>simp only[aG] at a;cases a;rw[List.append_assoc];exact kI e
 | box x=>
  simp only[aG] at a;split at a<;>cases a;exact kI e
 | boxC x M=>
  simp only[aG] at a;split at a
  .split at a<;>cases a;rw[List.append_assoc];exact kI e
  .cases a
 | buildC z L M=>
  simp only[aG] at a;split at a
  .split at a<;>cases a;exact kI e
  .cases a
 | buildSl pu s n z L=>
  simp only[aG] at a;split at a
  .split at a<;>cases a
   .rfl
   .exact kI e
  .cases a
 | mkSlice s z b l c=>
  simp only[aG] at a;split at a
  .split at a<;>cases a;exact kI e
  .cases a
 | mkMap=>simp only[aG] at a;cases a;exact kI e
 | callT s vi f=>
  simp only[aG] at a;obtain⟨o,rfl⟩:=Nb a;exact List.getElem?_append_left<|HU e
 | callF vi f=>
  simp only[aG] at a;let⟨F,G⟩:=B _ _ _ _ _ _ _ ⟨Nat.le_refl _,Nat.le_refl _⟩ a;have j:=HU e;have:(H'.take H.length)[id]?=(H.take H.length)[id]?:=by rw[F]
  rw[List.getElem?_take,List.getElem?_take,if_pos j,if_pos j] at this;exact this
 | store n x u=>
  simp only[eP] at e;simp only[aG] at a;split at a
  .split at a
   .split at a
    .rename_i N d;cases a;unfold dY at d;split at d
     .rename_i i tot J off K;rw[K] at e;split at d
      .split at d
       .split at d
        .split at d
         .split at d<;>cases d;exact Cq e
         .cases d
        .cases d
       .cases d
      .cases d
     .cases d
    .cases a
   .cases a
  .cases a
 | append s b x y=>
  simp only[eP] at e;simp only[aG] at a;split at a
  .exact Rp e a
  .cases a
 | mapUpd kt m k x=>
  simp only[eP] at e;simp only[aG] at a;split at a
  .rename_i O i F G;rw[G] at e;split at a
   .split at a
    .split at a
     .split at a
      .split at a<;>cases a;exact Cq e
      .cases a
     .cases a;exact Cq e
     .cases a
    .cases a
   .cases a
  .cases a
 | _=>simp[eP] at e
theorem jX{x y:aH}{d:Nat}(h:qR x y=false)(a:x.dst=some d): d∉kD y/\y.dst≠some d:=by
 unfold qR at h;rw[a] at h;simp only[Bool.or_eq_false_iff,beq_eq_false_iff_ne,ne_eq] at h;refine⟨λb=>?_,h.2⟩;have:(kD y).contains d=true:=by simpa using b
 rw[this] at h;cases h.1
def Fr(fl n:Nat)(H H':aK): Prop:=H'.take fl=H.take fl/\n<=H'.length
theorem Fr.refl{n:Nat}{H:aK}(h:fl<=n/\n<=H.length): Fr fl n H H:=⟨rfl,h.2⟩
theorem Fr.go{n m:Nat}{H H':aK}(h:fl<=n/\n<=m)(k:Fr fl n H H'): fl<=n/\n<=H'.length:=⟨h.1,k.2⟩
theorem Fr.trans{n:Nat}{a b c:aK}(h:Fr fl n a b)(k:Fr fl n b c): Fr fl n a c:=⟨k.1.trans h.1,k.2⟩
theorem Fr.app{n:Nat}{H L:aK}(h:fl<=n/\n<=H.length): Fr fl n H<|H++L:=⟨List.take_append_of_le_length<|Nat.le_trans h.1 h.2,by simp;omega⟩
theorem Fr.set{n:Nat}{H:aK}{i:Nat}{o:cG}(h:fl<=n/\n<=H.length)(a:fl<=i): Fr fl n H<|H.set i o:=⟨List.take_set_of_le a,by simpa using h.2⟩
theorem Oy[aA]{m:Nat}{H H':aK}{s bytes:Nat}{x r:AV}{ys:List<|List AV}(h:fl<=m/\m<=H.length)(a:bV fl H s bytes x ys=some (r,H')): Fr fl m H H':=by
 unfold bV at a;split at a
 .split at a
  .split at a<;>cases a
   .exact .refl h
   .exact .app h
  .split at a
   .cases a;exact .refl h
   .split at a<;>cases a;exact .app h
  .split at a
   .split at a
    .split at a
     .cases a;exact .refl h
     .split at a
      .rename_i b;split at a
       .cases a;exact .set h b
       .split at a
        .cases a;exact .set h b
        .cases a
      .cases a
    .cases a
   .cases a
  .cases a
 .cases a
theorem Xh[aA](g:fP cf){m:Nat}{tm:List AV}{H H':aK}{J:tK}{v:AV}(h:fl<=m/\m<=H.length)(a:aG P cf fl J tm H=some (v,H')): Fr fl m H H':=by
 by_cases w:dQ J=true
 .rw[Ns w a];exact .refl h
 .cases J with
  | alloc z=>simp only[aG] at a;cases a;exact .app h
  | claim s=>simp only[aG] at a;cases a;exact .app h
  | allocC z T=>simp only[aG] at a;cases a;rw[List.append_assoc];exact .app h
  | box x=>simp only[aG] at a;split at a<;>cases a;exact .app h
  | boxC x M=>
   simp only[aG] at a;split at a
   .split at a<;>cases a;rw[List.append_assoc];exact .app h
   .cases a
  | buildC z L M=>
   simp only[aG] at a;split at a
   .split at a<;>cases a;exact .app h
   .cases a
  | buildSl pu s n z U=>
   simp only[aG] at a;split at a
   .split at a<;>cases a
    .exact .refl h
    .exact .app h
   .cases a
  | mkSlice s z b l c=>
   simp only[aG] at a;split at a
   .split at a<;>cases a;exact .app h
   .cases a
  | mkMap=>simp only[aG] at a;cases a;exact .app h
  | rangeStr x=>simp only[aG] at a;split at a<;>cases a;exact .app h
  | nextStr x=>
   simp only[aG] at a;split at a
   .split at a
    .rename_i e;split at a
     .split at a<;>cases a
      .exact .set h e
      .exact .refl h
     .cases a
    .cases a
   .cases a
  | store n x u=>
   simp only[aG] at a;split at a
   .split at a
    .split at a
     .rename_i V d;cases a;unfold dY at d;split at d
      .split at d
       .rename_i e;split at d
        .split at d
         .split at d
          .split at d<;>cases d;exact .set h e
          .cases d
         .cases d
        .cases d
       .cases d
      .cases d
     .cases a
    .cases a
   .cases a
  | append s b x y=>
   simp only[aG] at a;split at a
   .exact Oy h a
   .cases a
  | appendZ s b z x n=>
   simp only[aG] at a;split at a
   .split at a
    .exact Oy h a
    .cases a
   .cases a
  | mapUpd kt m k x=>
   simp only[aG] at a;split at a
   .split at a
    .rename_i e;split at a
     .split at a
      .split at a
       .split at a<;>cases a;exact .set h e
       .cases a
      .cases a;exact .set h e
      .cases a
     .cases a
    .cases a
   .cases a
  | delete kt m k=>
   simp only[aG] at a;split at a
   .split at a
    .rename_i e;split at a
     .split at a
      .cases a;exact .set h e
      .cases a;exact .refl h
      .cases a
     .cases a
    .cases a
   .cases a
  | copy s x y=>
   simp only[aG] at a;split at a
   .split at a
    .split at a
     .split at a
      .split at a
       .rename_i e;split at a<;>cases a
        .exact .refl h
        .exact .set h e.2.2.2
       .cases a
      .cases a
     .cases a
    .cases a
   .cases a
  | clear s z x=>
   simp only[aG] at a;split at a
   .cases a;exact .refl h
   .cases a;exact .refl h
   .split at a
    .split at a
     .rename_i e;split at a<;>cases a
      .exact .refl h
      .exact .set h e.2.2.2.1
     .cases a
    .cases a
   .cases a
  | loadF n k x=>
   simp only[aG] at a;split at a
   .split at a
    .split at a
     .rename_i e;split at a
      .split at a<;>cases a;exact .set h e
      .cases a
     .cases a
    .cases a;exact .refl h
    .cases a
   .cases a
  | freeze x=>
   simp only[aG] at a;split at a
   .split at a
    .rename_i e;split at a
     .split at a<;>cases a;exact .set h e
     .cases a
    .cases a
   .split at a
    .rename_i e;split at a
     .split at a
      .split at a<;>cases a;exact .set h e
      .cases a
     .cases a
    .cases a
   .cases a;exact .refl h
  | slArr z n x=>
   simp only[aG] at a;split at a
   .split at a
    .rename_i e;split at a
     .split at a
      .split at a
       .split at a<;>cases a;exact .set h e
       .cases a
      .cases a
     .cases a
    .cases a
   .cases a
  | call pu vi f=>
   cases pu with
   | true=>simp[dQ] at w
   | false=>exact g _ _ _ _ _ _ _ h a
  | callv pu x f=>
   cases pu with
   | true=>simp[dQ] at w
   | false=>
    simp only[aG] at a;split at a
    .exact g _ _ _ _ _ _ _ h a
    .cases a
  | callT s vi f=>
   simp only[aG] at a;obtain⟨o,rfl⟩:=Nb a;exact .app h
  | callF vi f=>
   simp only[aG] at a;let⟨Q,R⟩:=g _ _ _ _ _ _ _ ⟨Nat.le_refl _,Nat.le_refl _⟩ a;refine⟨?_,Nat.le_trans h.2 R⟩;have:(H'.take H.length).take fl=(H.take H.length).take fl:=by rw[Q]
   rwa [List.take_take,List.take_take,Nat.min_eq_left<|Nat.le_trans h.1 h.2] at this
  | _=>simp[dQ] at w
theorem Uh[aA](b:fP cf){m:Nat}{o:aH}{st st':St}(h:fl<=m/\m<=st.heap.length)(a:aV P cf fl o st=some st'): Fr fl m st.heap st'.heap:=by
 unfold aV at a;split at a
 .split at a
  .rename_i v H he;cases a;exact Xh b h he
  .cases a
 .cases a;exact .refl h
 .cases a
end
structure Ph (c : bM) (id s : Nat) (es : List (List AV)) : Prop where
  h : c.H[id]? = some (.blk s es)
  b : c.β id = none
  n : 0 < es.length
def QQ (c : bM) (w' : World) (id : Nat) : bM := ⟨w', c.X, Yx c.β id c.w.heap.size, c.H⟩
section
variable [aA] {FT : Nat → Option Nat} {c : bM} {w' : World} {id s : Nat} {es : List (List AV)} {ob : Obj}
theorem KI (p : Ph c id s es) {i b : Nat} (h : c.β i = some b) : i ≠ id := fun e => by
  subst e
  rw [p.b] at h
  cases h
theorem wJ (hw : w'.heap = c.w.heap.push ob) {k : Nat} {o : Obj} (h : c.w.heap[k]? = some o) : w'.heap[k]? = some o := by
  have : k < c.w.heap.size := by
    rcases Nat.lt_or_ge k c.w.heap.size with g | g
    · exact g
    · rw [Array.getElem?_eq_none g] at h; cases h
  rw [hw, Array.getElem?_push, if_neg (by omega)]
  exact h
theorem FN (p : Ph c id s es) (hw : w'.heap = c.w.heap.push ob) {b : Nat} {o : Obj} (v : Xy c b) (h : c.w.heap[b]? = some o) : Xy (QQ c w' id) b := fun i e => by
  by_cases q : i = id
  · subst q
    have e : Yx c.β i c.w.heap.size i = some b := e
    rw [cR] at e
    cases e
    rw [Array.getElem?_eq_none (Nat.le_refl _)] at h
    cases h
  · have e : Yx c.β id c.w.heap.size i = some b := e
    rw [bE q] at e
    exact v i e
theorem Me (p : Ph c id s es) (hw : w'.heap = c.w.heap.push ob) {b : Nat} {o : Obj} (v : jO c b) (h : c.w.heap[b]? = some o) : jO (QQ c w' id) b /\ w'.heap[b]? = some o := ⟨⟨v.1, FN p hw v.2 h⟩, wJ hw h⟩
theorem KH (p : Ph c id s es) (hw : w'.heap = c.w.heap.push ob) {x : AV} {v : Value} (N : RV FT c x v) : RV FT (QQ c w' id) x v := by
  induction N with
  | pure x v z => exact .pure x v (z.mono fun b o m g => Me p hw m g)
  | ms i tot off len a cap s' n k G S q =>
    refine .ms i tot off len a cap s' n k G S fun e => ?_
    obtain ⟨u, f⟩ := q e
    refine ⟨u, ?_⟩
    rcases f with ⟨d, k2, l, j⟩ | ⟨b, cs, T, a', d, k2, l, j, v⟩
    · by_cases g : i = id
      · subst g
        have : shp c.H i = some (s, es.length) := by simp [shp, p.h]
        rw [this] at k
        cases k
        have := p.n
        omega
      · exact .inl ⟨(bE g).trans d, k2, l, j⟩
    · exact .inr ⟨b, cs, T, a', (bE (KI p d)).trans d, wJ hw k2, l, j, v⟩
  | ptr i tot C off a s' n k G q =>
    refine .ptr i tot C off a s' n k G fun e => ?_
    obtain ⟨b, g, Q⟩ := q e
    exact ⟨b, (bE (KI p g)).trans g, Q⟩
  | rptr cs b off cc T B d m g l z => exact .rptr cs b off cc T B d (FN p hw m g) (wJ hw g) l fun j x E => (z j x E).mono fun b o m g => Me p hw m g
  | vnil a cap => exact .vnil a cap
  | vw es b off cap cc T B s d D m g y A l z => exact .vw es b off cap cc T B s d D (FN p hw m g) (wJ hw g) y A l fun i j x E => (z i j x E).mono fun b o m g => Me p hw m g
  | mp i b q g => exact .mp i b q ((bE (KI p g)).trans g)
  | it i b q g => exact .it i b q ((bE (KI p g)).trans g)
  | fn vi f caps cv d R k l _ w => exact .fn vi f caps cv d R k l w
  | agg cs cv d k l _ w => exact .agg cs cv d k l w
  | tup cs cv d k l _ w => exact .tup cs cv d k l w
theorem aAQ (p : Ph c id s es) (hw : w'.heap = c.w.heap.push ob) {tm : List AV} {tv : Array Value} (a : TR FT c tm tv) : TR FT (QQ c w' id) tm tv :=
  ⟨a.1, fun t x e => let ⟨v, b, d⟩ := a.2 t x e; ⟨v, b, KH p hw d⟩⟩
theorem P4 {cs' : Array Value} {T : TypeId} (l : aZ FT c) (p : Ph c id s es) (hw : w'.heap = c.w.heap.push (.cells cs' T (0, 0))) (u : es.length * s <= cs'.size) (O : ∀ i j x, bA es i j = some x → ∃ v, cs'[i * s + j]? = some v /\ aS v = true /\ RV FT c x v) : aZ FT (QQ c w' id) := by
  have one : ∀ {i b : Nat}, (QQ c w' id).β i = some b → (i = id /\ b = c.w.heap.size) \/ (i ≠ id /\ c.β i = some b) := fun {i b} h => by
    have h : Yx c.β id c.w.heap.size i = some b := h
    by_cases e : i = id
    · subst e
      rw [cR] at h
      cases h
      exact .inl ⟨rfl, rfl⟩
    · rw [bE e] at h
      exact .inr ⟨e, h⟩
  refine ⟨?_, ?_, ?_, ?_, ?_, l.lens, ?_, ?_, ?_⟩
  · intro g cs d
    obtain ⟨cc, T, m, a, r, q, k, n, t⟩ := l.gl g cs d
    obtain ⟨f, e⟩ := Me p hw r q
    exact ⟨cc, T, m, a, f, e, k, n, fun j x z => (t j x z).mono fun b o s' l' => Me p hw s' l'⟩
  · intro i j b B o
    rcases one B with ⟨e1, e2⟩ | ⟨e1, e2⟩ <;> rcases one o with ⟨f1, f2⟩ | ⟨f1, f2⟩
    · exact e1.trans f1.symm
    · have := l.lt f2; omega
    · have := l.lt e2; omega
    · exact l.inj i j b e2 f2
  · intro i b h
    rcases one h with ⟨e1, _⟩ | ⟨_, e2⟩
    · subst e1
      exact (List.getElem?_eq_some_iff.1 p.h).1
    · exact l.dom i b e2
  · intro i b h
    rcases one h with ⟨_, e2⟩ | ⟨_, e2⟩
    · rw [e2]; exact l.fresh _ (Nat.le_refl _)
    · exact l.nx i b e2
  · intro k R
    have R : w'.heap.size <= k := R
    exact l.fresh k (by rw [hw, Array.size_push] at R; omega)
  · intro i s' m b' g h
    rcases one h with ⟨e1, e2⟩ | ⟨e1, e2⟩
    · subst e1 e2
      have g : c.H[i]? = some (.blk s' m) := g
      rw [p.h] at g
      cases g
      exact ⟨cs', T, by show w'.heap[c.w.heap.size]? = _; rw [hw]; simp, u, fun a d x A => let ⟨v, z, t, r⟩ := O a d x A; ⟨v, z, t, KH p hw r⟩⟩
    · obtain ⟨I, U, y, J, L⟩ := l.blk i s' m b' g e2
      exact ⟨I, U, wJ hw y, J, fun a d x A => let ⟨v, z, t, r⟩ := L a d x A; ⟨v, z, t, KH p hw r⟩⟩
  · intro i D b' g h
    rcases one h with ⟨e1, e2⟩ | ⟨e1, e2⟩
    · subst e1
      have g : c.H[i]? = some (.mp D) := g
      rw [p.h] at g
      cases g
    · obtain ⟨m, K, y, J, L⟩ := l.map i D b' g e2
      exact ⟨m, K, wJ hw y, J, fun a k x A => let ⟨N, z, t, r⟩ := L a k x A; ⟨N, z, t, KH p hw r⟩⟩
  · intro i q b' g h
    rcases one h with ⟨e1, e2⟩ | ⟨e1, e2⟩
    · subst e1
      have g : c.H[i]? = some (.raw q) := g
      rw [p.h] at g
      cases g
    · exact wJ hw (l.raw i q b' g e2)
theorem b8 {fl : Nat} {c0 : bM} (l : aZ FT c) (h : aY fl c0 c) (hn : c0.H.length <= id) (hf : fl <= c0.H.length) (hw : w'.heap = c.w.heap.push ob) (w1 : w'.os = c.w.os) (w2 : w'.tape = c.w.tape) (w3 : w'.output = c.w.output) (w4 : c.w.drawn <= w'.drawn) : aY fl c0 (QQ c w' id) where
  X := h.X
  os := w1.trans h.os
  tape := w2.trans h.tape
  output := w3.trans h.output
  drawn := Nat.le_trans h.drawn w4
  size := by show c0.w.heap.size <= w'.heap.size; rw [hw, Array.size_push]; have := h.size; omega
  len := h.len
  frame := fun k hk v => by
    show w'.heap[k]? = _
    rw [hw, Array.getElem?_push, if_neg (by have := h.size; omega)]
    exact h.frame k hk v
  img := fun i b e => by
    have e : Yx c.β id c.w.heap.size i = some b := e
    by_cases q : i = id
    · subst q
      rw [cR] at e
      cases e
      exact .inl h.size
    · rw [bE q] at e
      exact h.img i b e
  blkS := fun i s' n k => by
    obtain ⟨n', a1, a2, a3⟩ := h.blkS i s' n k
    have ne : i ≠ id := fun e => by
      subst e
      unfold shp at k
      rw [List.getElem?_eq_none hn] at k
      cases k
    refine ⟨n', a1, a2, fun e => ?_⟩
    obtain ⟨b1, b2⟩ := a3 e
    refine ⟨(bE ne).trans b1, fun b cs T f g => ?_⟩
    obtain ⟨cs', d1, d2⟩ := b2 b cs T f g
    exact ⟨cs', wJ hw d1, d2⟩
  mpS := fun i k => by
    obtain ⟨a1, a2⟩ := h.mpS i k
    have ne : i ≠ id := fun e => by
      subst e
      obtain ⟨f, he, j⟩ := k
      rw [List.getElem?_eq_none hn] at he
      cases he
    exact ⟨a1, (bE ne).trans a2⟩
  floor := fun i k => by
    obtain ⟨a1, a2, a3⟩ := h.floor i k
    have ne : i ≠ id := by omega
    refine ⟨a1, (bE ne).trans a2, fun b e => ?_⟩
    have g := a3 b e
    show w'.heap[b]? = _
    rw [<- g]
    have : b < c.w.heap.size := l.lt (a2.trans e)
    rw [hw, Array.getElem?_push, if_neg (by omega)]
theorem JG {fl : Nat} (m : fl <= c.H.length) : aY fl c ⟨c.w, c.X, c.β, c.H ++ [.blk s es]⟩ := { X := rfl, os := rfl, tape := rfl, output := rfl, drawn := Nat.le_refl _, size := Nat.le_refl _, len := by simp, frame := fun _ _ _ => rfl, img := fun i _ l => .inr ⟨i, l⟩, blkS := fun id s n r => ⟨n, Ak r, Nat.le_refl _, fun _ => ⟨rfl, fun b cs T _ e => ⟨cs, e, rfl⟩⟩⟩, mpS := fun id p => ⟨uD p, rfl⟩, floor := fun id k => ⟨List.getElem?_append_left (by omega), rfl, fun _ _ => rfl⟩ }
theorem M6 (d : aZ FT c) (hl : ∀ e ∈ es, e.length = s) : aZ FT ⟨c.w, c.X, c.β, c.H ++ [.blk s es]⟩ := by
  have st := JG (c := c) (s := s) (es := es) (Nat.zero_le _)
  refine ⟨d.gl.step st, d.inj, ?_, d.nx, d.fresh, ?_, ?_, ?_, fun id q b a g => by
    have f := d.dom id b g
    rw [List.getElem?_append_left f] at a
    exact d.raw id q b a g⟩
  · intro id b g
    have := d.dom id b g
    simp
    omega
  · intro id s' es' a
    rw [List.getElem?_append] at a
    split at a
    · exact d.lens id s' es' a
    · have : id - c.H.length = 0 := by
        have := (List.getElem?_eq_some_iff.1 a).1
        simp at this
        omega
      rw [this] at a
      cases a
      exact hl
  · intro id s' es' b a g
    have f := d.dom id b g
    rw [List.getElem?_append_left f] at a
    obtain ⟨cs, T, o, y, r⟩ := d.blk id s' es' b a g
    exact ⟨cs, T, o, y, fun i j x t => let ⟨v, n, p, u⟩ := r i j x t; ⟨v, n, p, u.step st⟩⟩
  · intro id l b a g
    have f := d.dom id b g
    rw [List.getElem?_append_left f] at a
    obtain ⟨es', m, o, y, r⟩ := d.map id l b a g
    exact ⟨es', m, o, y, fun i k x t => let ⟨e, n, p, u⟩ := r i k x t; ⟨e, n, p, u.step st⟩⟩
end
theorem Rq[aA]{P:Program}{T:List bC}{c:bM}{a:Act}{tm:List AV}{ops:Array Oper}{i id d:Nat}{z:List Value}{o:Oper}{K:Act->World->Prop}{Q:Exit->Act->World->Prop}(y:aZ (aF T) c)(h:TR (aF T) c tm a.tmps)(R:ops[i]?=some o)(b:cW P T ops ⟨some d,.alloc z,none⟩ o=true)(p:Ph c id z.length [z.map .lit])(I:∀a' w' t,w'.heap=c.w.heap.push (.cells z.toArray t (0,0))->w'.os=c.w.os->w'.tape=c.w.tape->w'.output=c.w.output->c.w.drawn<=w'.drawn->aZ (aF T) (QQ c w' id)->TR (aF T) (QQ c w' id) (dL tm (some d)<|.ptr id 1 0 0) a'.tmps->a'.defers=a.defers->K a' w'):
 wpOp P ops Q i K a c.w:=by
 simp only[cW,Bool.and_eq_true,beq_iff_eq] at b;let⟨⟨J,O⟩,g⟩:=b;unfold wpOp;rw[R];simp only;have C:=tM h O rfl;rw[C];left;simp only[bP] at g;split at g
 .rename_i t G;let⟨S,v,m,M,L,q⟩:=fD g;have k:(execOp a.eval o).run P c.w=.ok (.value<|.pointer<|some ⟨c.w.heap.size,0,none⟩) (c.w.alloc<|.cells z.toArray t (0,0)):=by
   have e:=L.symm;rw[e];simp[execOp,G,Instr.alloc,zeroValue,typeInfo,m,M,newVar,newRow]
  have hw:(c.w.alloc<|.cells z.toArray t (0,0)).heap=c.w.heap.push (.cells z.toArray t (0,0)):=rfl
  have l:aZ (aF T) (QQ c (c.w.alloc<|.cells z.toArray t (0,0)) id):=P4 y p hw (by simp) (by
   intro i j x F;obtain⟨rfl,s⟩:=Fy F;simp only[List.getElem?_map,Option.map_eq_some_iff] at s;obtain⟨u,A,rfl⟩:=s;exact⟨u,by simpa using A,q u<|List.mem_of_getElem? A,RV.lit _⟩)
  have I2:=I (a.put (some d) (.pointer (some ⟨c.w.heap.size,0,none⟩))) _ t hw rfl rfl rfl (Nat.le_refl _) l (TR.put (aAQ p hw h) (by
   refine .ptr id 1 0 0 _ z.length 1 ?_ (Nat.le_refl _) λ_=>⟨c.w.heap.size,cR _ _ _,by simp⟩;simp[QQ,shp,p.h])) (fJ _ _ _)
  unfold Oper.wp;rw[k];rw[J] at I2;exact I2
 .grind
section
variable {P:Program}{T:List bC}{cf:Nat->Nat->List AV->aK->Option (AV×aK)}{fl:Nat}
theorem dS[aA]{ops:Array Oper}: ∀{aops:List aH} {os:List Oper},cP P T ops aops os=true->aops.length=os.length/\∀(k:Nat) (o:Oper),os[k]?=some o->∃ao,aops[k]?=some ao/\cW P T ops ao o=true
 | [],[],_=>⟨rfl,λk o h=>by simp at h⟩
 | a::r,o::s,h=>by
  simp only[cP,Bool.and_eq_true] at h;let⟨b,c⟩:=dS h.2;grind
 | [],_::_,h=>by cases h
 | _::_,[],h=>by cases h
theorem Be[aA]{ops:List Oper}: ∀{n:Nat},Bf ops n=true->∀k o,k<n->ops[k]?=some o->∀e∈o.after,Region.binds .any e=true->e.on<k
 | 0,_,k,_,h,_,_,_,_=>by omega
 | n+1,h,k,o,c,d,e,he,f=>by
  simp only[Bf,Bool.and_eq_true] at h;by_cases g:k=n
  .grind
  .exact Be h.1 k o (by omega) d e he f
def XY(N:Nat)(listed:Array Bool): Nat:=((List.range N).filter λi=>!listed.getD i true).length
theorem RF{N k:Nat}{a:Array Bool}(f:k<N)(h:a.getD k true=false)(d:a.size=N): XY N (a.setIfInBounds k true)<XY N a:=by
 unfold XY;have e:((List.range N).filter λi=>!(a.setIfInBounds k true).getD i true)=(((List.range N).filter λi=>!a.getD i true).filter λi=>decide<|i≠k):=by
  rw[List.filter_filter];apply List.filter_congr;intro i g;by_cases c:i=k
  .simp_all
  .rw[getD_set_ne true λe=>c e.symm];simp[c]
 rw[e];refine List.length_filter_lt_length_iff_exists.2 ⟨k,?_,by simp⟩;grind
theorem gD{a:Array Bool}{k:Nat}(b:k<a.size): a.getD k true=a.getD k false:=by grind
def fG(aops:List aH)(D:Nat->Bool): Nat->Nat
 | 0=>0
 | n+1=>if D n&&!aU aops n then n+1 else fG aops D n
theorem jU[aA]{aops:List aH}{D D':Nat->Bool}: ∀n,(∀j,j<n->aU aops j=false->D j=D' j)->fG aops D n=fG aops D' n
 | 0,_=>rfl
 | n+1,h=>by
  have b:=jU n λj a=>h j (by omega);simp only[fG];grind
theorem hZ[aA]{aops:List aH}{D:Nat->Bool}{k:Nat}: ∀n,k<=n->(∀j,k<=j->j<n->aU aops j=false->D j=false)->fG aops D n=fG aops D k
 | 0,h,_=>by have:k=0:=(by omega);rw[this]
 | n+1,h,b=>by
  by_cases e:k=n+1
  .rw[e]
  .have f:=hZ n (by omega) λj c d=>b j c (by omega);simp only[fG];grind
theorem BT[aA]{aops:List aH}{D:Nat->Bool}: ∀n,fG aops D n<=n
 | 0=>Nat.le_refl _
 | n+1=>by
  simp only[fG];split
  .grind
  .exact Nat.le_succ_of_le<|BT n
theorem Mv[aA]{aops:List aH}{D:Nat->Bool}{p:Nat}: ∀n,fG aops D n=p+1->p<n/\D p=true/\aU aops p=false
 | 0,h=>by cases h
 | n+1,h=>by
  simp only[fG] at h;split at h
  .grind
  .let⟨b,a⟩:=Mv n h;exact⟨by omega,a⟩
theorem BU[aA]{aops:List aH}{D:Nat->Bool}{m:Nat}: ∀n,m<n->D m=true->aU aops m=false->m+1<=fG aops D n
 | 0,h,_,_=>by omega
 | n+1,h,c,b=>by
  simp only[fG];split
  .omega
  .rename_i d;by_cases e:m=n
   .grind
   .exact BU n (by omega) c b
theorem gH{aops:List aH}{k:Nat}(h:dC aops k=true): ∃d z,aops[k]?=some ⟨some d,.alloc z,none⟩:=by
 unfold dC at h;split at h
 .rename_i o f;split at h
  .rename_i c;split at h
   .rename_i g;split at h
    .rename_i b;let⟨a,e,guard⟩:=o;grind
    .cases h
   .cases h
  .cases h
 .cases h
def L8(aops:List aH)(k:Nat): List Value:=match aops[k]? with
 | some ⟨_,.alloc z,_⟩=>z
 | _=>[]
def j7(aops:List aH)(S:Nat->St)(sw:Nat): aK:=(S sw).heap++[.blk (L8 aops sw).length [],.blk (L8 aops<|sw+1).length [(L8 aops<|sw+1).map .lit]]
def mK(D:Nat->Bool)(sw:Nat): Bool:=D (sw+1)&&!D sw
def Yz(aops:List aH)(S:Nat->St)(sw N:Nat)(D:Nat->Bool): aK:=if mK D sw=true then j7 aops S sw else (S<|fG aops D N).heap
theorem Xx[aA]{c:bM}{a:Act}{tm:List AV}{ops:Array Oper}{i id d:Nat}{z:List Value}{o:Oper}{K:Act->World->Prop}{Q:Exit->Act->World->Prop}(y:aZ (aF T) c)(h:TR (aF T) c tm a.tmps)(R:ops[i]?=some o)(b:cW P T ops ⟨some d,.alloc z,none⟩ o=true)(f:c.H[id]?=some (.blk z.length []))(n:fl<=id)(I:∀a' c',c'.H=c.H.set id (.blk z.length [z.map .lit])->aY fl c c'->aZ (aF T) c'->TR (aF T) c' (dL tm (some d)<|.ptr id 1 0 0) a'.tmps->a'.defers=a.defers->K a' c'.w):
 wpOp P ops Q i K a c.w:=by
 simp only[cW,Bool.and_eq_true,beq_iff_eq] at b;let⟨⟨J,O⟩,g⟩:=b;unfold wpOp;rw[R];simp only;have C:=tM h O rfl;rw[C];left;simp only[bP] at g;split at g
 .rename_i t G;let⟨S,v,m,M,L,q⟩:=fD g;have k:(execOp a.eval o).run P c.w=.ok (.value<|.pointer<|some ⟨c.w.heap.size,0,none⟩) (c.w.alloc<|.cells z.toArray t (0,0)):=by
   have e:=L.symm;rw[e];simp[execOp,G,Instr.alloc,zeroValue,typeInfo,m,M,newVar,newRow]
  have p:=Ee (es':=[z.map AV.lit]) (w':=c.w.alloc<|.cells z.toArray t (0,0)) y n f (by simp) rfl rfl rfl rfl;have l:aZ (aF T) ⟨c.w.alloc<|.cells z.toArray t (0,0),c.X,Yx c.β id c.w.heap.size,c.H.set id<|.blk z.length [z.map AV.lit]⟩:=by
   refine Zv y f (by simp) rfl rfl rfl rfl (by intro e he;simp at he;subst he;simp) (by simp) ?_;intro i j x F;obtain⟨rfl,s⟩:=Fy F;simp only[List.getElem?_map,Option.map_eq_some_iff] at s;obtain⟨u,A,rfl⟩:=s;exact⟨u,by simpa using A,q u<|List.mem_of_getElem? A,RV.lit _⟩
  refine (dG (v:=.ptr id 1 0 0) k p l ?_) _ _ ?_
  .refine .ptr id 1 0 0 _ z.length 1 ?_ (Nat.le_refl _) λ_=>⟨c.w.heap.size,cR _ _ _,by simp⟩;rw[yN f];simp
  .intro cv c' N B D E;rw[<-J];exact I _ c' N B D ((h.step B).put E)<|fJ _ _ _
 .grind
structure aBB[aA](P:Program)(T:List bC)(fl N sw pm n0:Nat)(zp:List Value)(aops:List aH)(an:List Nat)(tm:List AV)(val:Nat->AV)(S:Nat->St)(c0:bM)(ds:List Deferred)(listed:Array Bool)(a:Act)(c:bM): Prop where
 size:listed.size=N
 sim:aZ (aF T) c
 step:aY fl c0 c
 defers:a.defers=ds
 closed:∀i j,j<N->listed.getD j false=true->(an.getD j 0).testBit i=true->listed.getD i false=true
 tr:TR (aF T) c (eI aops tm val (λj=>listed.getD j false) N) a.tmps
 heap:c.H=Yz aops S sw N (λj=>listed.getD j false)
 ph:pm<N->listed.getD pm false=false->Ph c n0 zp.length [zp.map .lit]
theorem Lm[aA]{aops:List aH}{an:List Nat}: ∀(n i:Nat),jP aops an n i=aops.length\/(dC aops (jP aops an n i)=true/\dC aops (jP aops an n i+1)=true)
 | 0,_=>.inl rfl
 | n+1,i=>by
  simp only[jP];split
  .grind
  .exact Lm n<|i+1
theorem Gp[aA]{aops:List aH}{an:List Nat}{n i N:Nat}(a:aops.length=N): jP aops an n i+1<N->dC aops (jP aops an n i)=true/\dC aops (jP aops an n i+1)=true:=by
 intro h;rcases Lm (aops:=aops) (an:=an) n i with e | e
 .omega
 .exact e
theorem Ln{a:Nat}{aops:List aH}{b:List<|Nat×Nat}{an:List Nat}{n:Nat}(h:Ka a aops b an n=true): a+1<n->∀k,k<n->aU aops k=true->eK aops k=true\/(an.getD k 0).testBit a=true\/(k,a)∈b:=by
 intro e k d c;simp only[Ka] at h;grind
theorem Us[aA](hcf:jD P T cf)(hfn:fA P T){ops:Array Oper}{aops:List aH}{sw:Nat}{ck:List<|Nat×Nat}{tm:List AV}{c0:bM}{ds:List Deferred}{val:Nat->AV}{S:Nat->St}{Q:Exit->Act->World->Prop}{H1:aK}{pm n0:Nat}{zp:List Value}(hlen':aops.length=ops.size)(hget:∀k o,ops[k]?=some o->∃ao,aops[k]?=some ao/\(k≠pm->cW P T ops ao o=true))(hpm:pm<ops.size->∃d,aops[pm]?=some ⟨some d,.ptrK n0,none⟩/\∀o,ops[pm]?=some o->cW P T ops ⟨some d,.alloc zp,none⟩ o=true)(hn0:pm<ops.size->c0.H.length<=n0)(hp0:pm<ops.size->(S 0).heap[n0]?=some (.blk zp.length [zp.map .lit]))(hpk:∀k,k<pm->pm<ops.size->aU aops k=false->(S<|k+1).heap[n0]?=(S k).heap[n0]?)(hpl:pm<ops.size->∀k,pm<k->k<ops.size->aU aops k=true\/((iP ops.toList ops.size []).getD k 0).testBit pm=true)(hord:nP sw aops (iP ops.toList ops.size []) ops.size=true)(hstab:Ve aops ck (iP ops.toList ops.size []) ops.size=true)(hback:Bf ops.toList ops.size=true)(h0:S 0=⟨tm,H1⟩)(hc0:c0.H.length<=H1.length)(hS:∀k ao,aops[k]?=some ao->aV P cf fl ao (S k)=some (S<|k+1))(hval:∀k ao,aops[k]?=some ao->(S<|k+1).tmps=dL (S k).tmps ao.dst (val k))(hck:∀k m,(k,m)∈ck->∀ao,aops[k]?=some ao->bY (S k).tmps ao.guard=some false\/bL ao.op (S k).tmps=some none\/∃id,bL ao.op (S k).tmps=some (some id)/\(S<|m+1).heap[id]?=(S m).heap[id]?)(hsw:sw+1<ops.size->dC aops sw=true/\dC aops (sw+1)=true)(hstab2:sw+1<ops.size->∀k,k<ops.size->aU aops k=true->eK aops k=true\/((iP ops.toList ops.size []).getD k 0).testBit sw=true\/(k,sw)∈ck)(hfo:fP cf)(hfl:fl<=c0.H.length)(hQ:∀a' c',c'.H=(S ops.size).heap->aY fl c0 c'->aZ (aF T) c'->TR (aF T) c' (S ops.size).tmps a'.tmps->a'.defers=ds->Q .normal a' c'.w):
 ∀(fuel:Nat) (listed:Array Bool) (a:Act) (c:bM),XY ops.size listed<=fuel->aBB P T fl ops.size sw pm n0 zp aops (iP ops.toList ops.size []) tm val S c0 ds listed a c->wpAny P .any ops Q fuel listed a c.w:=by
 have hquiet:∀k,k<ops.size->aU aops k=true->(S<|k+1).heap=(S k).heap:=by
  intro k hk hq
  have hao:aops[k]?=some (aops[k]'(by omega)):=by simp
  simp only[aU,hao] at hq
  exact nV hq<|hS k _ hao
 have hheapA:∀k,k<=ops.size->(S<|fG aops (λ_=>true) k).heap=(S k).heap:=by
  intro k
  induction k with
  | zero=>intro _;rfl
  | succ k ih=>
   intro hk
   simp only[fG,Bool.true_and]
   cases hq:aU aops k with
   | false=>rfl
   | true=>grind
 have hkeep:∀(id a b:Nat),a<=b->b<=ops.size->(∀m,a<=m->m<b->aU aops m=false->(S<|m+1).heap[id]?=(S m).heap[id]?)->(S b).heap[id]?=(S a).heap[id]?:=by
  intro id a b
  induction b with
  | zero=>grind
  | succ b ih=>
   intro h1 h2 h3
   by_cases e:a=b+1
   .rw[e]
   .have h4:(S<|b+1).heap[id]?=(S b).heap[id]?:=by
     cases hq:aU aops b with
     | true=>grind
     | false=>grind
    rw[h4]
    exact ih (by omega) (by omega) λm g1 g2=>h3 m g1<|by omega
 have h0t:(S 0).tmps=tm:=by rw[h0]
 have hlenS:∀k,k<=ops.size->fl<=(S k).heap.length:=by
  intro k
  induction k with
  | zero=>intro _;rw[h0];exact Nat.le_trans hfl hc0
  | succ k ih=>
   intro hk
   exact (Uh hfo ⟨Nat.le_refl _,ih<|by omega⟩<|hS k (aops[k]'(by omega))<|by simp).2
 have done:∀(listed:Array Bool) (a:Act) (c:bM),(∀j,j<ops.size->listed.getD j false=true)->aBB P T fl ops.size sw pm n0 zp aops (iP ops.toList ops.size []) tm val S c0 ds listed a c->Q .normal a c.w:=by
  intro listed a c hall hI
  have hfold:eI aops tm val (λj=>listed.getD j false) ops.size=(S ops.size).tmps:=
   uH h0t hval (Nat.le_refl _) (by omega) hall λj h1 h2=>by omega
  have hH:c.H=(S ops.size).heap:=by
   have hodd:mK (λj=>listed.getD j false) sw=false:=by
    unfold mK
    by_cases h:sw<ops.size
    .simp[hall sw h]
    .have:listed.getD (sw+1) false=false:=by
      rw[Array.getD_eq_getD_getElem?,Array.getElem?_eq_none<|by rw[hI.size];omega];rfl
     simp only[this,Bool.false_and]
   rw[hI.heap,Yz,if_neg<|by rw[hodd];exact Bool.false_ne_true,jU (D':=λ_=>true) ops.size λj hj _=>hall j hj,hheapA _<|Nat.le_refl _]
  refine hQ a c hH hI.step hI.sim ?_ hI.defers
  rw[<-hfold]
  exact hI.tr
 have noready:∀(listed:Array Bool),listed.size=ops.size->Region.ready .any ops listed=[]->∀j,j<ops.size->listed.getD j false=true:=by
  intro listed hsz hr j
  induction j using Nat.strongRecOn with
  | _ j ih=>
   intro hj
   cases hd:listed.getD j false with
   | true=>rfl
   | false=>
    exfalso
    have hmem:j∈Region.ready .any ops listed:=by
     rw[mem_ready]
     refine⟨by rw[gD<|by omega];exact hd,ops[j],by simp,λe he hb=>?_⟩
     have hlt:=Be hback j ops[j] hj (by simp) e he hb
     exact ih e.on hlt<|by omega
    rw[hr] at hmem
    cases hmem
 intro fuel
 induction fuel with
 | zero=>
  intro listed a c hu hI
  have hall:∀j,j<ops.size->listed.getD j false=true:=by
   intro j hj
   cases hd:listed.getD j false with
   | true=>rfl
   | false=>
    exfalso
    have:j∈(List.range ops.size).filter λi=>!listed.getD i true:=by
     simp only[List.mem_filter,List.mem_range,Bool.not_eq_true']
     exact⟨hj,by rw[gD<|by rw[hI.size];exact hj];exact hd⟩
    unfold XY at hu
    have h2:=List.eq_nil_of_length_eq_zero<|Nat.le_zero.1 hu
    rw[h2] at this
    cases this
  refine⟨?_,done listed a c hall hI⟩
  cases hr:Region.ready .any ops listed with
  | nil=>rfl
  | cons i r=>
   exfalso
   have:i∈Region.ready .any ops listed:=by rw[hr];simp
   rw[mem_ready] at this
   let⟨h1,o,ho,_⟩:=this
   have hi:i<ops.size:=(Array.getElem?_eq_some_iff.1 ho).1
   rw[gD<|by rw[hI.size];exact hi,hall i hi] at h1
   cases h1
 | succ fuel ih=>
  intro listed a c hu hI
  refine⟨λhr=>done listed a c (noready listed hI.size hr) hI,λk hk=>?_⟩
  rw[mem_ready] at hk
  let⟨hk1,o,ho,hedges⟩:=hk
  have hkN:k<ops.size:=(Array.getElem?_eq_some_iff.1 ho).1
  have hkD:listed.getD k false=false:=by rw[<-gD<|by rw[hI.size];exact hkN];exact hk1
  let⟨ao,hao,hok0⟩:=hget k o<|by simpa using ho
  have hol:ops.toList[k]?=some o:=by simpa using ho
  have hanc:∀i,((iP ops.toList ops.size []).getD k 0).testBit i=true->listed.getD i false=true:=by
   intro i hi
   have hi':((iP ops.toList ops.toList.length []).getD k 0).testBit i=true:=by simpa using hi
   let⟨o',ho',e,he,hb,hlt,hh⟩:=Pa (by simpa using hkN) hi'
   rw[hol] at ho'
   cases ho'
   have hde:=hedges e he hb
   rcases hh with rfl | hh
   .exact hde
   .exact hI.closed i e.on (by omega) hde<|by simpa using hh
  have later:∀j,k<j->j<ops.size->listed.getD j false=true->((aU aops k=true\/aU aops j=true)\/(k=sw/\j=sw+1/\dC aops k=true/\dC aops j=true))/\∃x y,aops[k]?=some x/\aops[j]?=some y/\qR x y=false/\qR y x=false:=by
   intro j hkj hj hD
   rcases dR _ hord k j hkj hj with h | h
   .have:=hI.closed k j hj hD h
    rw[hkD] at this;cases this
   .exact h
  have earlier:∀j,j<k->listed.getD j false=true\/(((aU aops j=true\/aU aops k=true)\/(j=sw/\k=sw+1/\dC aops j=true/\dC aops k=true))/\∃x y,aops[j]?=some x/\aops[k]?=some y/\qR x y=false/\qR y x=false):=by
   intro j hj
   rcases dR _ hord j k hj hkN with h | h
   .exact .inl<|hanc j h
   .exact .inr h
  have hdst:nX aops k=ao.dst:=by simp[nX,hao]
  have hlook:∀t∈kD ao,(eI aops tm val (λj=>listed.getD j false) ops.size)[t]?=(S k).tmps[t]?:=by
   intro t ht
   rw[<-uH (D:=λj=>decide<|j<k) (n:=ops.size) h0t hval (Nat.le_of_lt hkN) (by omega) (λj hj=>by simpa using hj) λj h1 _=>by simp;omega]
   apply jW
   intro j hj hd
   by_cases hjk:j<k
   .have:decide (j<k)=true:=by simpa using hjk
    rw[this]
    rcases earlier j hjk with h | ⟨_,x,y,hx,hy,hc1,hc2⟩
    .exact h
    .exfalso
     rw[hao] at hy
     cases hy
     have hdx:x.dst=some t:=by simpa [nX,hx] using hd
     exact (jX hc1 hdx).1 ht
   .have:decide (j<k)=false:=by simpa using hjk
    rw[this]
    by_cases ej:j=k
    .subst ej;exact hkD
    .cases hDj:listed.getD j false with
     | false=>rfl
     | true=>
      exfalso
      let⟨_,x,y,hx,hy,hc1,hc2⟩:=later j (by omega) hj hDj
      rw[hao] at hx
      cases hx
      have hdy:y.dst=some t:=by simpa [nX,hy] using hd
      exact (jX hc2 hdy).1 ht
  have hset:∀j,(listed.setIfInBounds k true).getD j false=if j=k then true else listed.getD j false:=by
   intro j
   by_cases ej:j=k
   .subst ej
    simp[hI.size,hkN]
   .rw[getD_set_ne false λe=>ej e.symm,if_neg ej]
  have ancLt:∀q m,q<ops.size->((iP ops.toList ops.size []).getD q 0).testBit m=true->m<q:=by
   intro q m
   induction q using Nat.strongRecOn with
   | _ q ihq=>
    intro hqN hqb
    have hqb':((iP ops.toList ops.toList.length []).getD q 0).testBit m=true:=by simpa using hqb
    let⟨o',ho',e,he,hb',hlt',hh⟩:=Pa (by simpa using hqN) hqb'
    rcases hh with rfl | hh
    .exact hlt'
    .have:=ihq e.on hlt' (by omega)<|by simpa using hh
     omega
  have hcl:∀i j,j<ops.size->(listed.setIfInBounds k true).getD j false=true->((iP ops.toList ops.size []).getD j 0).testBit i=true->(listed.setIfInBounds k true).getD i false=true:=by
   intro i j hj hD hb
   rw[hset] at hD |-
   split
   .rfl
   .by_cases ej:j=k
    .subst ej;exact hanc i hb
    .rw[if_neg ej] at hD
     exact hI.closed i j hj hD hb
  have fin0:∀(x:AV) a' c',(S<|k+1).tmps=dL (S k).tmps ao.dst x->c'.H=Yz aops S sw ops.size (λj=>(listed.setIfInBounds k true).getD j false)->aY fl c0 c'->(pm<ops.size->(listed.setIfInBounds k true).getD pm false=false->Ph c' n0 zp.length [zp.map .lit])->aZ (aF T) c'->TR (aF T) c' (dL (eI aops tm val (λj=>listed.getD j false) ops.size) ao.dst x) a'.tmps->a'.defers=a.defers->wpAny P .any ops Q fuel (listed.setIfInBounds k true) a' c'.w:=by
   intro x a' c' hx1 e1 e2 eph e3 e4 e5
   refine ih (listed.setIfInBounds k true) a' c' (by have:=RF hkN hk1 hI.size;omega) ?_
   refine⟨by simpa using hI.size,e3,e2,e5.trans hI.defers,hcl,?_,e1,eph⟩
   .refine⟨by rw[cL,<-e4.1,jT,cL],λt y hy=>?_⟩
    refine e4.2 t y ?_
    rw[<-hy,gI]
    split
    .rename_i hd
     have hdk:nX aops k=some t:=by rw[hdst];exact hd
     rw[cL]
     rw[Ax (k:=k) (by simp[hset]) hdk ops.size hkN]
     .split
      .rename_i hlt
       congr 1
       have h1:(S<|k+1).tmps[t]?=some x:=by rw[hx1,gI,if_pos hd,if_pos<|by rw[<-oH h0t hval k<|by omega,cL];exact hlt]
       have h2:(S<|k+1).tmps[t]?=some (val k):=by rw[hval k ao hao,gI,if_pos hd,if_pos<|by rw[<-oH h0t hval k<|by omega,cL];exact hlt]
       rw[h1] at h2
       exact Option.some.inj h2
      .rfl
     .intro j h1 h2 h3
      rw[hset,if_neg<|by omega]
      cases hDj:listed.getD j false with
      | false=>rfl
      | true=>
       exfalso
       let⟨_,x',y',hx',hy',hc1,hc2⟩:=later j h1 h2 hDj
       rw[hao] at hx'
       cases hx'
       have hdy:y'.dst=some t:=by simpa [nX,hy'] using h3
       exact (jX hc1 hd).2 hdy
    .rename_i hd
     apply jW
     intro j hj hdj
     rw[hset]
     by_cases ej:j=k
     .subst ej
      rw[hdst] at hdj
      exact (hd hdj).elim
     .rw[if_neg ej]
  have hbox:∀D:Nat->Bool,pm<ops.size->D pm=false->(∀j,ops.size<=j->D j=false)->(∀i j,j<ops.size->D j=true->((iP ops.toList ops.size []).getD j 0).testBit i=true->D i=true)->(Yz aops S sw ops.size D)[n0]?=some (.blk zp.length [zp.map .lit]):=by
   intro D hp hDp hDN hDc
   have below:∀p,p<ops.size->D p=true->aU aops p=false->p<pm:=by
    intro p h1 h2 h3
    rcases Nat.lt_trichotomy p pm with g | g | g
    .exact g
    .rw[g,hDp] at h2;cases h2
    .rcases hpl hp p g h1 with q | q
     .rw[h3] at q;cases q
     .rw[hDc pm p h1 h2 q] at hDp;cases hDp
   have at0:∀b,b<=pm->(S b).heap[n0]?=some (.blk zp.length [zp.map .lit]):=by
    intro b hb
    rw[hkeep n0 0 b (Nat.zero_le _) (by omega) λm _ g2 g3=>hpk m (by omega) hp g3]
    exact hp0 hp
   unfold Yz
   split
   .rename_i hodd
    simp only[mK,Bool.and_eq_true,Bool.not_eq_true'] at hodd
    have hN:sw+1<ops.size:=by
     rcases Nat.lt_or_ge (sw+1) ops.size with g | g
     .exact g
     .exfalso;exact absurd hodd.1 (by rw[hDN _ g];simp)
    let⟨_,h2⟩:=hsw hN
    have:=below (sw+1) hN hodd.1 (by let⟨d,z,hz⟩:=gH h2;simp[aU,hz,dQ])
    have e:=at0 sw (by omega)
    rw[j7,List.getElem?_append_left (List.getElem?_eq_some_iff.1 e).1]
    exact e
   .cases hl:fG aops D ops.size with
    | zero=>exact at0 0 (Nat.zero_le _)
    | succ p=>
     let⟨q1,q2,q3⟩:=Mv ops.size hl
     exact at0 (p+1) (below p q1 q2 q3)
  by_cases hkp:k=pm
  .subst hkp
   let⟨d,p1,p2⟩:=hpm hkN
   rw[hao] at p1
   cases p1
   have P0:=hI.ph hkN hkD
   refine Rq hI.sim hI.tr ho (p2 o ho) P0 ?_
   intro a' w' t g1 g2 g3 g4 g5 g6 g7 g8
   refine fin0 (.ptr n0 1 0 0) a' (QQ c w' n0) ?_ ?_ (b8 hI.sim hI.step (hn0 hkN) hfl g1 g2 g3 g4 g5) (λ_ g=>by rw[hset,if_pos rfl] at g;cases g) g6 g7 g8
   .have:=hS k _ hao
    simp only[aV,bY,aG,Option.some.injEq] at this
    rw[<-this]
   .show c.H=_
    have hqk:aU aops k=true:=by simp[aU,hao,dQ]
    have ne1:mK (λj=>(listed.setIfInBounds k true).getD j false) sw=mK (λj=>listed.getD j false) sw:=by
     unfold mK
     by_cases hN:sw+1<ops.size
     .let⟨h1,h2⟩:=hsw hN
      let⟨d1,z1,hz1⟩:=gH h1
      let⟨d2,z2,hz2⟩:=gH h2
      have a1:sw≠k:=λe=>by rw[e,hao] at hz1;cases hz1
      have a2:sw+1≠k:=λe=>by rw[e,hao] at hz2;cases hz2
      show ((listed.setIfInBounds k true).getD (sw+1) false&&!(listed.setIfInBounds k true).getD sw false)=(listed.getD (sw+1) false&&!listed.getD sw false)
      rw[hset,hset,if_neg a1,if_neg a2]
     .have z0:∀l:Array Bool,l.size=ops.size->l.getD (sw+1) false=false:=λl hl=>by
       rw[Array.getD_eq_getD_getElem?,Array.getElem?_eq_none<|by rw[hl];omega];rfl
      show ((listed.setIfInBounds k true).getD (sw+1) false&&!(listed.setIfInBounds k true).getD sw false)=(listed.getD (sw+1) false&&!listed.getD sw false)
      rw[z0 _ hI.size,z0 _ (by simpa using hI.size)];rfl
    rw[hI.heap]
    unfold Yz
    rw[ne1,jU (D':=λj=>(listed.setIfInBounds k true).getD j false) ops.size λj _ hq=>by
     rw[hset,if_neg λe=>by rw[e,hqk] at hq;cases hq]]
  have hok:=hok0 hkp
  have fin:∀(x:AV) a' c',(S<|k+1).tmps=dL (S k).tmps ao.dst x->c'.H=Yz aops S sw ops.size (λj=>(listed.setIfInBounds k true).getD j false)->aY fl c c'->aZ (aF T) c'->TR (aF T) c' (dL (eI aops tm val (λj=>listed.getD j false) ops.size) ao.dst x) a'.tmps->a'.defers=a.defers->wpAny P .any ops Q fuel (listed.setIfInBounds k true) a' c'.w:=by
   intro x a' c' hx1 e1 e2 e3 e4 e5
   refine fin0 x a' c' hx1 e1 (hI.step.trans e2) (λhp hD=>?_) e3 e4 e5
   have hD0:listed.getD pm false=false:=by rw[hset,if_neg λe=>hkp e.symm] at hD;exact hD
   have P0:=hI.ph hp hD0
   have hH:c'.H[n0]?=some (.blk zp.length [zp.map .lit]):=by rw[e1];exact hbox _ hp hD (λj hj=>by rw[Array.getD_eq_getD_getElem?,Array.getElem?_eq_none<|by simpa [hI.size] using hj];rfl) hcl
   let⟨n',q1,_,q3⟩:=e2.blkS n0 zp.length 1 (by simp[shp,P0.h])
   have q4:n'=1:=by simp[shp,hH] at q1;exact q1.symm
   exact⟨hH,((q3 q4.symm).1).trans P0.b,Nat.zero_lt_one⟩
  have byOp:∀c1:bM,c1.w=c.w->aY fl c c1->aZ (aF T) c1->(∃st',aV P cf fl ao ⟨(S k).tmps,c1.H⟩=some st'/\st'.tmps=(S<|k+1).tmps/\st'.heap=Yz aops S sw ops.size (λj=>(listed.setIfInBounds k true).getD j false))->wpOp P ops Q k (λa' w'=>wpAny P .any ops Q fuel (listed.setIfInBounds k true) a' w') a c.w:=by
   intro c1 hw hst hs1 ⟨stk',hevk',hstt,hsth⟩
   let⟨x,hx1,hx2⟩:=nW (tm:=eI aops tm val (λj=>listed.getD j false) ops.size) hlook hevk'
   rw[hstt] at hx1
   rw[<-hw]
   refine oU hcf hfn hs1 (hI.tr.step hst) (Nat.le_trans hfl (hI.step.trans hst).len) ho hok hx2 ?_
   intro a' c' e1 e2 e3 e4 e5 _
   exact fin x a' c' hx1 (e1.trans hsth) (hst.trans e2) e3 e4 e5
  have hmutA:∀m,dC aops m=true->aU aops m=false:=by
   intro m hm
   let⟨d,z,hz⟩:=gH hm
   simp[aU,hz,dQ]
  have pairF:sw+1<ops.size->∃d1 z1 d2 z2,aops[sw]?=some ⟨some d1,.alloc z1,none⟩/\aops[sw+1]?=some ⟨some d2,.alloc z2,none⟩/\L8 aops sw=z1/\L8 aops (sw+1)=z2 /\
   S (sw+1)=⟨(S sw).tmps.set d1<|.ptr (S sw).heap.length 1 0 0,(S sw).heap++[.blk z1.length [z1.map .lit]]⟩ /\
   S (sw+2)=⟨(S<|sw+1).tmps.set d2<|.ptr ((S sw).heap.length+1) 1 0 0,(S sw).heap++[.blk z1.length [z1.map .lit],.blk z2.length [z2.map .lit]]⟩:=by
   intro h
   let⟨h1,h2⟩:=hsw h
   let⟨d1,z1,e1⟩:=gH h1
   let⟨d2,z2,e2⟩:=gH h2
   have t1:=hS sw _ e1
   have t2:=hS (sw+1) _ e2
   simp only[aV,bY,aG,dL,Option.some.injEq] at t1 t2
   refine⟨d1,z1,d2,z2,e1,e2,by simp[L8,e1],by simp[L8,e2],t1.symm,?_⟩
   rw[<-t2,<-t1]
   simp
  by_cases hodd:mK (λj=>listed.getD j false) sw=true
  .have ho2:listed.getD (sw+1) false=true/\listed.getD sw false=false:=by
    simp only[mK,Bool.and_eq_true,Bool.not_eq_true'] at hodd;exact hodd
   have hswN:sw+1<ops.size:=by
    rcases Nat.lt_or_ge (sw+1) ops.size with h | h
    .exact h
    .have:=ho2.1
     rw[Array.getD_eq_getD_getElem?,Array.getElem?_eq_none<|by rw[hI.size];exact h] at this
     cases this
   let⟨hal1,hal2⟩:=hsw hswN
   let⟨d1,z1,d2,z2,p1,p2,p3,p4,p5,p6⟩:=pairF hswN
   have hcH:c.H=(S sw).heap++[.blk z1.length [],.blk z2.length [z2.map .lit]]:=by
    rw[hI.heap,Yz,if_pos hodd,j7,p3,p4]
   have hbehind:∀j,sw+1<j->j<ops.size->aU aops j=false->listed.getD j false=false:=by
    intro j h1 h2 h3
    cases hd:listed.getD j false with
    | false=>rfl
    | true=>
     rcases dR _ hord sw j (by omega) h2 with h | ⟨(h | h) | h,_⟩
     .have:=hI.closed sw j h2 hd h
      rw[ho2.2] at this;cases this
     .rw[hmutA sw hal1] at h;cases h
     .rw[h3] at h;cases h
     .omega
   by_cases hksw:k=sw
   .subst hksw
    rw[hao] at p1
    cases p1
    have hid:c.H[(S k).heap.length]?=some (.blk z1.length []):=by rw[hcH];simp
    refine Xx (id:=(S k).heap.length) hI.sim hI.tr ho hok hid (hlenS k<|by omega) ?_
    intro a' c' e1 e2 e3 e4 e5
    refine fin (.ptr (S k).heap.length 1 0 0) a' c' (by rw[p5];rfl) ?_ e2 e3 e4 e5
    have hnod:mK (λj=>(listed.setIfInBounds k true).getD j false) k=false:=by simp[mK,hset]
    rw[e1,Yz,if_neg<|by rw[hnod];exact Bool.false_ne_true,hZ (k:=k+2) ops.size (by omega) λj h1 h2 h3=>by
     rw[hset,if_neg<|by omega];exact hbehind j (by omega) h2 h3]
    have hl2:fG aops (λj=>(listed.setIfInBounds k true).getD j false) (k+2)=k+2:=by
     have e:(listed.setIfInBounds k true).getD (k+1) false=true:=by rw[hset,if_neg<|by omega];exact ho2.1
     show (if ((listed.setIfInBounds k true).getD (k+1) false&&!aU aops (k+1))=true then k+1+1 else _)=_
     rw[e,hmutA _ hal2]
     rfl
    rw[hl2,p6,hcH]
    simp
   .have hq:aU aops k=true:=by
     cases hq:aU aops k with
     | true=>rfl
     | false=>
      exfalso
      rcases Nat.lt_or_ge k sw with h | h
      .rcases dR _ hord k (sw+1) (by omega) hswN with g | ⟨(g | g) | g,_⟩
       .have:=hI.closed k (sw+1) hswN ho2.1 g
        rw[hkD] at this;cases this
       .rw[hq] at g;cases g
       .rw[hmutA _ hal2] at g;cases g
       .omega
      .by_cases h':k=sw+1
       .subst h';rw[hkD] at ho2;cases ho2.1
       .rcases dR _ hord sw k (by omega) hkN with g | ⟨(g | g) | g,_⟩
        .have:=hanc sw g
         rw[ho2.2] at this;cases this
        .rw[hmutA _ hal1] at g;cases g
        .rw[hq] at g;cases g
        .omega
    have hD':mK (λj=>(listed.setIfInBounds k true).getD j false) sw=true:=by
     have q1:(listed.setIfInBounds k true).getD sw false=false:=by rw[hset,if_neg λe=>hksw e.symm];exact ho2.2
     have q2:(listed.setIfInBounds k true).getD (sw+1) false=true:=by
      rw[hset]
      split
      .rfl
      .exact ho2.1
     simp only[mK,q1,q2]
     rfl
    refine byOp c rfl (aY.refl _ _) hI.sim ?_
    have hpe:Yz aops S sw ops.size (λj=>(listed.setIfInBounds k true).getD j false)=c.H:=by
     rw[Yz,if_pos hD',hI.heap,Yz,if_pos hodd]
    rw[hpe]
    have hev:=hS k ao hao
    have hqo:dQ ao.op=true:=by simpa [aU,hao] using hq
    have hwant:∀(hop:∀v H1,aG P cf fl ao.op (S k).tmps (S k).heap=some (v,H1)->aG P cf fl ao.op (S k).tmps c.H=some (v,c.H)),∃st',aV P cf fl ao ⟨(S k).tmps,c.H⟩=some st'/\st'.tmps=(S<|k+1).tmps/\st'.heap=c.H:=by
     intro hop
     unfold aV at hev |-
     simp only at hev |-
     split at hev
     .rename_i hw
      split at hev
      .rename_i v H1 he
       simp only[Option.some.injEq] at hev
       rw[hop v H1 he]
       exact⟨_,rfl,by rw[<-hev],rfl⟩
      .cases hev
     .rename_i hw
      simp only[Option.some.injEq] at hev
      exact⟨_,rfl,by rw[<-hev],rfl⟩
     .cases hev
    by_cases hn:eK aops k=true
    .have hno:oF ao.op=true:=by simpa [eK,hao] using hn
     exact hwant λv H1 he=>Cu hno he
    by_cases hg:bY (S k).tmps ao.guard=some false
    .unfold aV at hev |-
     simp only[hg] at hev |-
     simp only[Option.some.injEq] at hev
     exact⟨_,rfl,by rw[<-hev],rfl⟩
    have hks:(k,sw)∈ck:=by
     rcases hstab2 hswN k hkN hq with h | h | h
     .exact (hn h).elim
     .have:=hanc sw h
      rw[ho2.2] at this;cases this
     .exact h
    have hmid:∀m,m<ops.size->aU aops m=false->((sw+2<=m/\m<k)\/(k<=m/\m<sw+2))->(k,m)∈ck:=by
     intro m hm hmq hb
     by_cases em:m=sw
     .subst em;exact hks
     have hmD:m<=sw+1->listed.getD m false=true:=by
      intro hle
      by_cases e:m=sw+1
      .subst e;exact ho2.1
      .rcases dR _ hord m (sw+1) (by omega) hswN with g | ⟨(g | g) | g,_⟩
       .exact hI.closed m (sw+1) hswN ho2.1 g
       .rw[hmq] at g;cases g
       .rw[hmutA _ hal2] at g;cases g
       .omega
     rcases Gt hstab hkN hm hq hmq with h | h | h | h
     .exact (hn h).elim
     .have hlt:=ancLt k m hkN h
      have hml:=hanc m h
      rcases hb with⟨b1,b2⟩ | ⟨b1,b2⟩
      .rw[hbehind m (by omega) hm hmq] at hml;cases hml
      .omega
     .have hlt:=ancLt m k hm h
      rcases hb with⟨b1,b2⟩ | ⟨b1,b2⟩
      .omega
      .have:=hI.closed k m hm (hmD<|by omega) h
       rw[hkD] at this;cases this
     .exact h
    rcases hck k sw hks ao hao with h | h | ⟨id,h,hkp⟩
    .exact (hg h).elim
    .exact hwant λv H1 he=>qL h (λid hid=>by cases hid) he
    .refine hwant λv H1 he=>qL h (λid' hid=>?_) he
     cases hid
     have hidn:id≠(S sw).heap.length:=by
      intro e
      rw[p5] at hkp
      simp only[e] at hkp
      rw[List.getElem?_append_right<|Nat.le_refl _,List.getElem?_eq_none<|Nat.le_refl _] at hkp
      simp at hkp
     have hbase:c.H[id]?=(S<|sw+2).heap[id]?:=by
      rw[hcH,p6]
      simp only
      rcases Nat.lt_or_ge id (S sw).heap.length with hl | hl
      .rw[List.getElem?_append_left hl,List.getElem?_append_left hl]
      .rw[List.getElem?_append_right hl,List.getElem?_append_right hl]
       let⟨q,hq'⟩:∃q,id-(S sw).heap.length=q+1:=⟨id-(S sw).heap.length-1,by omega⟩
       rw[hq']
       rfl
     have hsts:∀m,m<ops.size->aU aops m=false->((sw+2<=m/\m<k)\/(k<=m/\m<sw+2))->(S<|m+1).heap[id]?=(S m).heap[id]?:=by
      intro m h1 h2 h3
      rcases hck k m (hmid m h1 h2 h3) ao hao with g | g | ⟨id2,g,g2⟩
      .exact (hg g).elim
      .rw[h] at g;cases g
      .rw[h] at g;cases g;exact g2
     rw[hbase]
     rcases Nat.le_total (sw+2) k with hle | hle
     .exact (hkeep id (sw+2) k hle (by omega) λm g1 g2 g3=>hsts m (by omega) g3<|.inl ⟨g1,g2⟩).symm
     .exact hkeep id k (sw+2) hle (by omega) λm g1 g2 g3=>hsts m (by omega) g3<|.inr ⟨g1,g2⟩
  .have hcH:c.H=(S<|fG aops (λj=>listed.getD j false) ops.size).heap:=by rw[hI.heap,Yz,if_neg hodd]
   by_cases hI1:k=sw+1/\listed.getD sw false=false
   .let⟨hk',hD1⟩:=hI1
    subst hk'
    let⟨hal1,hal2⟩:=hsw hkN
    let⟨d1,z1,d2,z2,p1,p2,p3,p4,p5,p6⟩:=pairF hkN
    have hL:fG aops (λj=>listed.getD j false) ops.size=fG aops (λ_=>true) sw:=by
     rw[hZ (k:=sw) ops.size (by omega) (λj h1 h2 h3=>by
      by_cases e:j=sw
      .subst e;exact hD1
      .by_cases e':j=sw+1
       .subst e';exact hkD
       .cases hd:listed.getD j false with
        | false=>rfl
        | true=>
         rcases (later j (by omega) h2 hd).1 with (h | h) | h
         .rw[hmutA _ hal2] at h;cases h
         .rw[h3] at h;cases h
         .omega)]
     refine jU sw λj hj hjq=>?_
     rcases earlier j (by omega) with h | ⟨(h | h) | h,_⟩
     .exact h
     .rw[hjq] at h;cases h
     .rw[hmutA _ hal2] at h;cases h
     .omega
    have hH:c.H=(S sw).heap:=by rw[hcH,hL,hheapA sw<|by omega]
    rw[hao] at p2
    cases p2
    refine byOp ⟨c.w,c.X,c.β,c.H++[.blk z1.length []]⟩ rfl (tO<|Nat.le_trans hfl hI.step.len) (Eg hI.sim) ?_
    refine⟨⟨(S<|sw+1).tmps.set d2<|.ptr (c.H++[cG.blk z1.length []]).length 1 0 0,(c.H++[.blk z1.length []])++[.blk z2.length [z2.map .lit]]⟩,rfl,?_,?_⟩
    .rw[p6,hH];simp
    .have hD':mK (λj=>(listed.setIfInBounds (sw+1) true).getD j false) sw=true:=by
      have q1:(listed.setIfInBounds (sw+1) true).getD sw false=false:=by rw[hset,if_neg<|by omega];exact hD1
      have q2:(listed.setIfInBounds (sw+1) true).getD (sw+1) false=true:=by rw[hset,if_pos rfl]
      simp only[mK,q1,q2]
      rfl
     rw[Yz,if_pos hD',j7,p3,p4,hH]
     simp
   .have hnodd':mK (λj=>(listed.setIfInBounds k true).getD j false) sw=false:=by
     cases h:mK (λj=>(listed.setIfInBounds k true).getD j false) sw with
     | false=>rfl
     | true=>
      exfalso
      simp only[mK,hset,Bool.and_eq_true,Bool.not_eq_true'] at h
      let⟨h1,h2⟩:=h
      split at h2
      .cases h2
      .rename_i hks
       split at h1
       .rename_i e;exact hI1 ⟨e.symm,h2⟩
       .exact hodd<|by simp[mK,h1,h2]
    refine byOp c rfl (aY.refl _ _) hI.sim ?_
    rw[Yz,if_neg<|by rw[hnodd'];exact Bool.false_ne_true]
    cases hq:aU aops k with
    | false=>
     have hlat:∀j,k<j->j<ops.size->aU aops j=false->listed.getD j false=false:=by
      intro j h1 h2 h3
      cases hd:listed.getD j false with
      | false=>rfl
      | true=>
       rcases (later j h1 h2 hd).1 with (h | h) | ⟨e1,e2,_⟩
       .rw[hq] at h;cases h
       .rw[h3] at h;cases h
       .exfalso
        subst e1 e2
        exact hodd<|by simp[mK,hd,hkD]
     have hL:fG aops (λj=>listed.getD j false) ops.size=fG aops (λ_=>true) k:=by
      rw[hZ (k:=k) ops.size (by omega) (λj h1 h2 h3=>by
       by_cases e:j=k
       .subst e;exact hkD
       .exact hlat j (by omega) h2 h3)]
      refine jU k λj hj hjq=>?_
      rcases earlier j hj with h | ⟨(h | h) | ⟨e1,e2,_⟩,_⟩
      .exact h
      .rw[hjq] at h;cases h
      .rw[hq] at h;cases h
      .cases hd:listed.getD j false with
       | true=>rfl
       | false=>exact (hI1 ⟨e2,by rw[<-e1];exact hd⟩).elim
     have hH:c.H=(S k).heap:=by rw[hcH,hL,hheapA k<|by omega]
     refine⟨S<|k+1,by rw[hH];exact hS k ao hao,rfl,?_⟩
     rw[hZ (k:=k+1) ops.size (by omega) λj h1 h2 h3=>by
      rw[hset,if_neg<|by omega]
      exact hlat j (by omega) h2 h3]
     simp only[fG,hset,if_true,hq]
     rfl
    | true=>
     have hL:fG aops (λj=>(listed.setIfInBounds k true).getD j false) ops.size=fG aops (λj=>listed.getD j false) ops.size:=by
      refine jU ops.size λj hj hjq=>?_
      rw[hset,if_neg<|by intro e;subst e;rw[hq] at hjq;cases hjq]
     rw[hL,<-hcH]
     have hqo:dQ ao.op=true:=by simpa [aU,hao] using hq
     have hev:=hS k ao hao
     have hpl:=BT (aops:=aops) (D:=λj=>listed.getD j false) ops.size
     generalize hp:fG aops (λj=>listed.getD j false) ops.size=p at *
     have hbetween:∀m,m<ops.size->aU aops m=false->((p<=m/\m<k)\/(k<=m/\m<p))->eK aops k=true\/(k,m)∈ck:=by
      intro m hm hmq hb
      rcases Gt hstab hkN hm hq hmq with h | h | h | h
      .exact .inl h
      .exfalso
       have hml:=hanc m h
       have:=BU (aops:=aops) (D:=λj=>listed.getD j false) ops.size hm hml hmq
       rw[hp] at this
       have hlt:=ancLt k m hkN h
       omega
      .exfalso
       have hlt:=ancLt m k hm h
       rcases hb with⟨h1,h2⟩ | ⟨h1,h2⟩
       .omega
       .obtain⟨p',rfl⟩:∃p',p=p'+1:=⟨p-1,by omega⟩
        let⟨g1,g2,g3⟩:=Mv ops.size hp
        have hmD:listed.getD m false=true:=by
         by_cases e:m=p'
         .subst e;exact g2
         .rcases dR _ hord m p' (by omega) g1 with h' | ⟨(h' | h') | ⟨e1,e2,_⟩,_⟩
          .exact hI.closed m p' g1 g2 h'
          .rw[hmq] at h';cases h'
          .rw[g3] at h';cases h'
          .cases hd:listed.getD m false with
           | true=>rfl
           | false=>
            exfalso
            subst e1 e2
            exact hodd<|by simp[mK,g2,hd]
        have:=hI.closed k m hm hmD h
        rw[hkD] at this
        cases this
      .exact .inr h
     have hsame:c.H=(S k).heap->∃st',aV P cf fl ao ⟨(S k).tmps,c.H⟩=some st'/\st'.tmps=(S<|k+1).tmps/\st'.heap=c.H:=by
      intro e
      refine⟨S<|k+1,by rw[e];exact hev,rfl,?_⟩
      rw[e]
      exact nV hqo hev
     have hwant:∀(hop:∀v H1,aG P cf fl ao.op (S k).tmps (S k).heap=some (v,H1)->aG P cf fl ao.op (S k).tmps c.H=some (v,c.H)),∃st',aV P cf fl ao ⟨(S k).tmps,c.H⟩=some st'/\st'.tmps=(S<|k+1).tmps/\st'.heap=c.H:=by
      intro hop
      unfold aV at hev |-
      simp only at hev |-
      split at hev
      .rename_i hw
       split at hev
       .rename_i v H1 he
        simp only[Option.some.injEq] at hev
        rw[hop v H1 he]
        exact⟨_,rfl,by rw[<-hev],rfl⟩
       .cases hev
      .rename_i hw
       simp only[Option.some.injEq] at hev
       exact⟨_,rfl,by rw[<-hev],rfl⟩
      .cases hev
     by_cases hn:eK aops k=true
     .have hno:oF ao.op=true:=by simpa [eK,hao] using hn
      exact hwant λv H1 he=>Cu hno he
     .have hmid:∀m,m<ops.size->aU aops m=false->((p<=m/\m<k)\/(k<=m/\m<p))->(k,m)∈ck:=by
       intro m h1 h2 h3
       rcases hbetween m h1 h2 h3 with h | h
       .exact (hn h).elim
       .exact h
      by_cases hg:bY (S k).tmps ao.guard=some false
      .unfold aV at hev |-
       simp only[hg] at hev |-
       simp only[Option.some.injEq] at hev
       exact⟨_,rfl,by rw[<-hev],rfl⟩
      by_cases hex:∃m,m<ops.size/\aU aops m=false/\((p<=m/\m<k)\/(k<=m/\m<p))
      .let⟨m0,q1,q2,q3⟩:=hex
       rcases hck k m0 (hmid m0 q1 q2 q3) ao hao with h | h | ⟨id,h,_⟩
       .exact (hg h).elim
       .exact hwant λv H1 he=>qL h (λid hid=>by cases hid) he
       .refine hwant λv H1 he=>qL h (λid' hid=>?_) he
        cases hid
        have hsts:∀m,m<ops.size->aU aops m=false->((p<=m/\m<k)\/(k<=m/\m<p))->(S<|m+1).heap[id]?=(S m).heap[id]?:=by
         intro m h1 h2 h3
         rcases hck k m (hmid m h1 h2 h3) ao hao with g | g | ⟨id2,g,g2⟩
         .exact (hg g).elim
         .rw[h] at g;cases g
         .rw[h] at g;cases g;exact g2
        rw[hcH]
        rcases Nat.le_total p k with hle | hle
        .exact (hkeep id p k hle (by omega) λm g1 g2 g3=>hsts m (by omega) g3<|.inl ⟨g1,g2⟩).symm
        .exact hkeep id k p hle hpl λm g1 g2 g3=>hsts m (by omega) g3<|.inr ⟨g1,g2⟩
      .refine hsame ?_
       rw[hcH]
       apply List.ext_getElem?
       intro id
       rcases Nat.le_total p k with hle | hle
       .exact (hkeep id p k hle (by omega) λm g1 g2 g3=>(hex ⟨m,by omega,g3,.inl ⟨g1,g2⟩⟩).elim).symm
       .exact hkeep id k p hle hpl λm g1 g2 g3=>(hex ⟨m,by omega,g3,.inr ⟨g1,g2⟩⟩).elim
theorem Ea[aA]: ∀(aops:List aH) (st:St) (l:List St),bU P cf fl aops st=some l->
 ∃S:Nat->St,S 0=st/\l.getLast?=some (S aops.length)/\(∀k,k<=aops.length->l[k]?=some (S k))/\∀k ao,aops[k]?=some ao->aV P cf fl ao (S k)=some (S<|k+1)
 | [],st,l,h=>by
  simp only[bU,Option.some.injEq] at h;subst h;exact⟨λ_=>st,rfl,rfl,λk a=>by have:=(by simpa using a);subst this;rfl,λk ao a=>by simp at a⟩
 | o::r,st,l,h=>by
  simp only[bU] at h;split at h
  .rename_i b i;split at h
   .rename_i c d;let⟨S,e,e2,g,f⟩:=Ea r b c d;refine⟨λk=>match k with | 0=>st | k+1=>S k,rfl,?_,?_,λk ao a=>?_⟩
    .grind
    .grind
    .grind
   .cases h
  .cases h
theorem Uo[aA]{ops:List aH}{l:List St}: ∀{c:List<|Nat×Nat},kX ops l c=true->∀k m,(k,m)∈c->vM ops l k m=true
 | [],_,k,m,h=>by cases h
 | (a,b)::r,h,k,m,d=>by
  simp only[kX] at h;split at h
  .rename_i f;rcases List.mem_cons.1 d with e | e
   .grind
   .exact Uo h k m e
  .cases h
theorem uJ[aA]: ∀(aops:List aH) (st:St) (l:List St),bU P cf fl aops st=some l->aW P cf fl aops st=l.getLast?
 | [],st,l,h=>by
  simp only[bU,Option.some.injEq] at h;subst h;rfl
 | o::r,st,l,h=>by
  simp only[bU] at h;split at h
  .rename_i a f;split at h
   .rename_i c d;cases h;have i:=uJ r a c d;have b:c≠[]:=by
     intro e;subst e;let⟨S,_,g,_⟩:=Ea r a [] d;simp at g
    simp only[aW,f,i];rw[List.getLast?_cons_of_ne_nil b]
   .cases h
  .cases h
theorem YK{a b:Value}(h:MZ a b=true): a=b:=by
 unfold MZ at h;split at h
 .simp_all
 .split at h
  .rename_i e;rw[of_decide_eq_true e,of_decide_eq_true h]
  .cases h
 .rename_i x y;simp only[decide_eq_true_eq] at h;cases x;cases y;simp_all
 all_goals first | rfl | cases h
theorem Nv{α:Type}{f:α->α->Bool}(g:∀x y,f x y=true->x=y): ∀{a b:List α},YE f a b=true->a=b
 | [],[],_=>rfl
 | x::r,y::s,h=>by
  simp only[YE] at h;split at h
  .rename_i e;rw[g x y e,Nv g h]
  .cases h
 | [],_::_,h=>by cases h
 | _::_,[],h=>by cases h
theorem MD: ∀(d:Nat) (x y:AV),Rg d x y=true->x=y
 | 0,x,y,h=>by cases h
 | d+1,x,y,h=>by
  simp only[Rg] at h;split at h
  .rfl
  .rw[YK h]
  .simp only[Bool.and_eq_true] at h;let⟨⟨⟨a,b⟩,e⟩,g⟩:=h;rw[Nat.eq_of_beq_eq_true a,Nat.eq_of_beq_eq_true b,Nat.eq_of_beq_eq_true e,Nat.eq_of_beq_eq_true g]
  .simp only[Bool.and_eq_true] at h;let⟨⟨⟨a,b⟩,e⟩,g⟩:=h;rw[Nat.eq_of_beq_eq_true a,Nat.eq_of_beq_eq_true b,Nat.eq_of_beq_eq_true e,Nat.eq_of_beq_eq_true g]
  .simp only[Bool.and_eq_true,beq_iff_eq] at h;rw[h.1,Nv (λ_ _ k=>Nv (MD d) k) h.2]
  .cases h
theorem UF{a b:Option cG}(h:KX a b=true): a=b:=by
 unfold KX at h;split at h
 .simp only[Bool.and_eq_true] at h;rw[Nat.eq_of_beq_eq_true h.1,Nv (λ_ _ k=>Nv (MD 6) k) h.2]
 .cases h
theorem EO{o:tK}{l:List St}{m id:Nat}{s t:St}(h:vY o l m id=true)(a:l[m]?=some s)(b:l[m+1]?=some t): t.heap[id]?=s.heap[id]?:=by
 unfold vY at h;split at h
 .simp only[a,b] at h;exact (UF h).symm
 .cases h
theorem DD[aA](hfo:fP cf){ck:List<|Nat×Nat}{aops:List aH}{st st':St}{l:List St}(hl:bU P cf fl aops st=some l)(hck:kX aops l ck=true)(h:l.getLast?=some st'):
 ∃S:Nat->St,S 0=st/\S aops.length=st'/\(∀k,k<=aops.length->l[k]?=some (S k))/\(∀k ao,aops[k]?=some ao->aV P cf fl ao (S k)=some (S<|k+1)) /\
  ∀k m,(k,m)∈ck->∀ao,aops[k]?=some ao->bY (S k).tmps ao.guard=some false\/bL ao.op (S k).tmps=some none\/∃id,bL ao.op (S k).tmps=some (some id)/\(S<|m+1).heap[id]?=(S m).heap[id]?:=by
 let⟨S,e1,e2,e3,e4⟩:=Ea aops st l hl;rw[e2] at h;cases h;refine⟨S,e1,rfl,e3,e4,λk m hm ao hao=>?_⟩;have:=Uo hck k m hm;unfold vM at this
 have hk:=(List.getElem?_eq_some_iff.1 hao).1
 simp only[hao,e3 k<|by omega] at this
 split at this
 .grind
 .split at this
  .grind
  .rename_i id hs
   refine .inr<|.inr ⟨id,hs,?_⟩
   split at this
   .rename_i om hom
    have hm':=(List.getElem?_eq_some_iff.1 hom).1
    simp only[e3 m<|by omega] at this
    have hev:=e4 m om hom
    unfold aV at hev
    split at this
    .grind
    .rename_i hw
     split at this
     .rename_i hkp
      split at hev
      .split at hev
       .rename_i he
        simp at hev
        rw[<-hev]
        exact Nt hfo hkp he
       .grind
      .grind
      .grind
     .exact EO this (e3 m<|by omega) (e3 (m+1)<|by omega)
   .grind
  .grind
theorem NO[aA](hfo:fP cf){ck:List<|Nat×Nat}{aops:List aH}{st st':St}(hm:pT ck=none)(h:dN P cf fl ck aops st=some st'):
 ∃S:Nat->St,S 0=st/\S aops.length=st'/\(∀k ao,aops[k]?=some ao->aV P cf fl ao (S k)=some (S<|k+1)) /\
  ∀k m,(k,m)∈ck->∀ao,aops[k]?=some ao->bY (S k).tmps ao.guard=some false\/bL ao.op (S k).tmps=some none\/∃id,bL ao.op (S k).tmps=some (some id)/\(S<|m+1).heap[id]?=(S m).heap[id]?:=by
 cases ck with
 | nil=>let⟨S,e1,e2,e3⟩:=Lg aops st st' h;exact⟨S,e1,e2,e3,λk m hm=>by cases hm⟩
 | cons x r=>
  have hb:Nat.beq x.1 x.2=false:=by
   cases e:Nat.beq x.1 x.2 with
   | false=>rfl
   | true=>simp only[pT,e] at hm;cases hm
  simp only[dN,hb] at h;split at h
  .rename_i l hl;split at h
   .rename_i hck;let⟨S,a,b,_,d,e⟩:=DD hfo hl hck h;exact⟨S,a,b,d,e⟩
   .cases h
  .cases h
theorem Tp{ck:List<|Nat×Nat}{m:Nat}(h:pT ck=some m): ∃r,ck=(m,m)::r:=by
 cases ck with
 | nil=>cases h
 | cons x r=>
  simp only[pT] at h;split at h
  .rename_i e;cases h;let⟨a,b⟩:=x;have:a=b:=Nat.eq_of_beq_eq_true e;subst this;exact⟨r,rfl⟩
  .cases h
theorem AJ[aA](hfo:fP cf){r:List<|Nat×Nat}{m:Nat}{aops:List aH}{st st':St}(h:dN P cf fl ((m,m)::r) aops st=some st'):
 ∃(S:Nat->St)(l:List St),S 0=⟨st.tmps,st.heap++[.blk (FO aops m).length [(FO aops m).map .lit]]⟩/\S (dU aops m st.heap.length).length=st'/\(∀k,k<=(dU aops m st.heap.length).length->l[k]?=some (S k))/\(∀k ao,(dU aops m st.heap.length)[k]?=some ao->aV P cf fl ao (S k)=some (S<|k+1)) /\
  (∀k m',(k,m')∈r->∀ao,(dU aops m st.heap.length)[k]?=some ao->bY (S k).tmps ao.guard=some false\/bL ao.op (S k).tmps=some none\/∃id,bL ao.op (S k).tmps=some (some id)/\(S<|m'+1).heap[id]?=(S m').heap[id]?) /\
  wS st.heap.length m (dU aops m st.heap.length) l=true/\aW P cf fl (dU aops m st.heap.length) ⟨st.tmps,st.heap++[.blk (FO aops m).length [(FO aops m).map .lit]]⟩=some st':=by
 have hb:Nat.beq m m=true:=Nat.beq_refl m
 simp only[dN,hb] at h;split at h
 .rename_i l hl;split at h
  .rename_i hck;split at h
   .rename_i hk;let⟨S,a,b,c,d,e⟩:=DD hfo hl hck h;exact⟨S,l,a,b,c,d,e,hk,by rw[uJ _ _ _ hl];exact h⟩
   .cases h
  .cases h
 .cases h
theorem nM{n:Nat}: ∀{l:List aH}{m:Nat},(dU l m n).length=l.length
 | [],_=>rfl
 | _::_,0=>rfl
 | _::r,m+1=>by simp only[dU,List.length_cons,nM (l:=r)]
theorem wC{n:Nat}: ∀{l:List aH}{m k:Nat},k≠m->(dU l m n)[k]?=l[k]?
 | [],_,_,_=>rfl
 | _::_,0,0,h=>absurd rfl h
 | _::_,0,_+1,_=>rfl
 | _::_,_+1,0,_=>rfl
 | _::r,m+1,k+1,h=>by simp only[dU,List.getElem?_cons_succ];exact wC (l:=r) λe=>h<|by rw[e]
theorem Bp{n:Nat}: ∀{l:List aH}{m:Nat},(dU l m n)[m]?=match l[m]? with
  | some o=>some ⟨o.dst,.ptrK n,none⟩
  | none=>none
 | [],_=>rfl
 | _::_,0=>rfl
 | _::r,m+1=>by simp only[dU,List.getElem?_cons_succ];exact Bp (l:=r)
def wE(a b:List aH): Prop:=∀k:Nat,a[k]?=b[k]?\/∃d n n',a[k]?=some ⟨d,.ptrK n,none⟩/\b[k]?=some ⟨d,.ptrK n',none⟩
theorem EZ(l:List aH)(m n n':Nat): wE (dU l m n) (dU l m n'):=λk=>by
 by_cases e:k=m
 .subst e;rw[Bp,Bp];cases l[k]? with
  | none=>exact .inl rfl
  | some o=>exact .inr ⟨_,_,_,rfl,rfl⟩
 .rw[wC e,wC e];exact .inl rfl
section
variable {a b:List aH}(h:wE a b)
include h
theorem wE.q(k:Nat): aU a k=aU b k:=by
 unfold aU;rcases h k with e | ⟨_,_,_,e,f⟩
 .rw[e]
 .rw[e,f];rfl
theorem wE.n(k:Nat): eK a k=eK b k:=by
 unfold eK;rcases h k with e | ⟨_,_,_,e,f⟩
 .rw[e]
 .rw[e,f];rfl
theorem wE.al(k:Nat): dC a k=dC b k:=by
 unfold dC;rcases h k with e | ⟨d,_,_,e,f⟩
 .rw[e]
 .rw[e,f]
theorem wE.sw(g:a.length=b.length)(an:List Nat): ∀n i,jP a an n i=jP b an n i
 | 0,_=>g
 | n+1,i=>by simp only[jP,h.al,wE.sw g an n]
theorem wE.ord(w:Nat)(an:List Nat): ∀n,nP w a an n=nP w b an n
 | 0=>rfl
 | n+1=>by
  simp only[nP,wE.ord w an n,h.q,h.al];congr 1;congr 1;funext i;congr 1;congr 1
  rcases h i with e | ⟨_,_,_,e,f⟩<;>rcases h n with e' | ⟨_,_,_,e',f'⟩
  .rw[e,e']
  .rw[e,e',f'];cases b[i]? <;> rfl
  .rw[e,f,e'];cases b[n]? <;> rfl
  .rw[e,f,e',f'];rfl
theorem wE.any(g:a.length=b.length)(ck:List<|Nat×Nat)(an:List Nat)(n:Nat): Id a ck an n=Id b ck an n:=by
 unfold Id Ve Ka;simp only[h.sw g,h.ord,h.q,h.n]
end
theorem Tx[aA]{n:Nat}: ∀{m:Nat}{l:List aH}{ss:List St},wS n m l ss=true->∀k,k<m->∀o s,l[k]?=some o->ss[k]?=some s->dQ o.op=true\/bY s.tmps o.guard=some false\/eP o.op s.tmps s.heap.length n=true
 | 0,_,_,_,k,h,_,_,_,_=>by omega
 | _+1,[],_,h,_,_,_,_,_,_=>by cases h
 | _+1,_::_,[],h,_,_,_,_,_,_=>by cases h
 | m+1,o::r,s::l,h,k,hk,o',s',ho,hs=>by
  simp only[wS] at h;split at h
  .rename_i g;cases k with
   | zero=>
    cases ho;cases hs;split at g
    .rename_i q;exact .inl q
    .split at g
     .rename_i q;exact .inr<|.inl q
     .exact .inr<|.inr g
   | succ k=>exact Tx h k (by omega) o' s' ho hs
  .cases h
theorem sO[aA](hfo:fP cf){a:List<|Nat×Nat}{aops:List aH}{st st':St}(h:dN P cf fl a aops st=some st'): (pT a=none/\aW P cf fl aops st=some st')\/∃(m n:Nat)(z:List Value),pT a=some m/\aW P cf fl (dU aops m n) ⟨st.tmps,st.heap++[.blk z.length [z.map .lit]]⟩=some st':=by
 cases e:pT a with
 | none=>
  refine .inl ⟨rfl,?_⟩;cases a with
  | nil=>exact h
  | cons x r=>
   have hb:Nat.beq x.1 x.2=false:=by
    cases e':Nat.beq x.1 x.2 with
    | false=>rfl
    | true=>simp only[pT,e'] at e;cases e
   simp only[dN,hb] at h;split at h
   .rename_i l hl;split at h
    .rw[uJ _ _ _ hl];exact h
    .cases h
   .cases h
 | some m=>obtain⟨r,rfl⟩:=Tp e;let⟨_,_,_,_,_,_,_,_,g⟩:=AJ hfo h;exact .inr ⟨m,_,_,rfl,g⟩
theorem EH[aA]{aops:List aH}{S:Nat->St}(L:∀k ao,aops[k]?=some ao->aV P cf fl ao (S k)=some (S<|k+1)): ∃val:Nat->AV,∀k ao,aops[k]?=some ao->(S<|k+1).tmps=dL (S k).tmps ao.dst (val k):=by
 have:∀k,∃x,∀ao,aops[k]?=some ao->(S<|k+1).tmps=dL (S k).tmps ao.dst x:=by
  intro k;cases U:aops[k]? with
  | none=>simp_all
  | some ao=>
   let⟨x,M,_⟩:=nW (λ_ _=>rfl)<|L k ao U;exact⟨x,λN h=>by cases h;exact M⟩
 exact⟨λk=>Classical.choose<|this k,λk=>Classical.choose_spec<|this k⟩
theorem FI(n j:Nat): (Array.replicate n false).getD j false=false:=by
 simp only[Array.getD_eq_getD_getElem?,Array.getElem?_replicate];split<;>rfl
theorem AG[aA](V:P.follows .mixedOrders=true)(q:fP cf)(r:jD P T cf)(u:fA P T){id pm:Nat}{B:List<|Nat×Nat}{ops:Array Oper}{aops:List aH}{tm:List AV}{c:bM}{a:Act}{st':St}{Q:Exit->Act->World->Prop}(z:cP P T ops aops ops.toList=true)(W:Id (dU aops pm 0) B (iP ops.toList ops.size []) ops.size=true)(Y:dC aops pm=true)(X:∀k,k<ops.size->pm<k->aU aops k=true\/((iP ops.toList ops.size []).getD k 0).testBit pm=true)(R:Bf ops.toList ops.size=true)(K:aZ (aF T) c)(s:TR (aF T) c tm a.tmps)(t:fl<=c.H.length)(g:dN P cf fl ((pm,pm)::B) aops ⟨tm,c.H⟩=some st')(D:∀a' c',c'.H=st'.heap->aY fl c c'->aZ (aF T) c'->TR (aF T) c' st'.tmps a'.tmps->a'.defers=a.defers->Q .normal a' c'.w): (Code.region id ops true).wp P Q a c.w:=by
 let⟨p,hg⟩:=dS z
 have d:aops.length=ops.size:=by simpa using p
 let⟨S,l,I,e2,e3,L,y,kp,_⟩:=AJ q g
 simp only at I e2 e3 L y kp
 have dl:(dU aops pm c.H.length).length=ops.size:=nM.trans d
 let⟨val,e⟩:=EH L
 rw[wE.any (EZ aops pm 0 c.H.length) (by rw[nM,nM])] at W
 unfold Id at W
 simp only[Bool.and_eq_true] at W
 let⟨W,E⟩:=W
 let⟨d0,z0,hz⟩:=gH Y
 have hz0:FO aops pm=z0:=by simp only[FO,hz]
 rw[hz0] at I
 refine wp_region_any V ?_
 have J:nK c.w { c.w with drawn:=c.w.drawn+1 }:=⟨rfl,rfl,rfl,rfl,Nat.le_succ _⟩
 have l1:=kZ (fl:=fl) J
 have K1:=K.drawn J
 have le:∀e∈[z0.map AV.lit],e.length=z0.length:=by intro e he;simp at he;subst he;simp
 have K2:=M6 (es:=[z0.map AV.lit]) (s:=z0.length) K1 le
 have l2:=JG (c:=⟨{ c.w with drawn:=c.w.drawn+1 },c.X,c.β,c.H⟩) (s:=z0.length) (es:=[z0.map AV.lit]) (fl:=fl) t
 have hpmA:(dU aops pm c.H.length)[pm]?=some ⟨some d0,.ptrK c.H.length,none⟩:=by rw[Bp,hz]
 have keeps:∀k,k<pm->pm<ops.size->aU (dU aops pm c.H.length) k=false->(S<|k+1).heap[c.H.length]?=(S k).heap[c.H.length]?:=by
  intro k hk hp hq
  have hlt:k<(dU aops pm c.H.length).length:=by omega
  have ho:(dU aops pm c.H.length)[k]?=some (dU aops pm c.H.length)[k]:=by simp [hlt]
  have hev:=L k _ ho
  rcases Tx kp k hk _ _ ho (e3 k (by omega)) with h | h | h
  .simp only[aU,ho,h] at hq;cases hq
  .unfold aV at hev;rw[h] at hev;simp only[Option.some.injEq] at hev;rw[<-hev]
  .unfold aV at hev;split at hev
   .split at hev
    .rename_i he;simp only[Option.some.injEq] at hev;rw[<-hev];exact Nt q h he
    .cases hev
   .simp only[Option.some.injEq] at hev;rw[<-hev]
   .cases hev
 refine Us (c0:=⟨{ c.w with drawn:=c.w.drawn+1 },c.X,c.β,c.H⟩) (ds:=a.defers) (pm:=pm) (n0:=c.H.length) (zp:=z0) r u dl (λk o h=>?_) (λh=>?_) (λ_=>Nat.le_refl _) (λ_=>?_) keeps (λh k h1 h2=>?_) W E.1 R I (by simp) L e y (Gp dl) (Ln E.2) q t ?_ ops.size (Array.replicate ops.size false) a ⟨{ c.w with drawn:=c.w.drawn+1 },c.X,c.β,c.H++[.blk z0.length [z0.map .lit]]⟩ ?_ ?_
 .let⟨ao,h1,h2⟩:=hg k o (by simpa using h)
  by_cases e:k=pm
  .subst e;exact⟨_,hpmA,λn=>absurd rfl n⟩
  .exact⟨ao,by rw[wC e];exact h1,λ_=>h2⟩
 .refine⟨d0,hpmA,λo ho=>?_⟩
  let⟨ao,h1,h2⟩:=hg pm o (by simpa using ho)
  rw[hz] at h1;cases h1;exact h2
 .rw[I];simp
 .rcases X k h2 h1 with e | e
  .refine .inl ?_;unfold aU at e |-;rw[wC (by omega)];exact e
  .exact .inr e
 .intro a' c' f1 f2 Y F Z;rw[<-dl,e2] at f1 F;exact D a' c' f1 (l1.trans f2) Y F Z
 .unfold XY;exact Nat.le_trans (List.length_filter_le _ _)<|by simp
 .have v:∀j,(Array.replicate ops.size false).getD j false=false:=FI _
  refine⟨by simp,K2,l2,rfl,(λi j _ C _=>by rw[v] at C;cases C),?_,?_,λ_ _=>⟨by simp,?_,by simp⟩⟩
  .have A:eI (dU aops pm c.H.length) tm val (λj=>(Array.replicate ops.size false).getD j false) ops.size=tm:=
    jV ops.size (Nat.zero_le _) λj _ _=>v j
   rw[A];exact s.step (l1.trans l2)
  .have n:mK (λj=>(Array.replicate ops.size false).getD j false) (jP (dU aops pm c.H.length) (iP ops.toList ops.size []) ops.size 0)=false:=by simp only[mK,v,Bool.false_and]
   rw[Yz,if_neg<|by rw[n];exact Bool.false_ne_true,hZ ops.size (Nat.zero_le _) λj _ _ _=>v j];simp only[fG,I]
  .show c.β c.H.length=none
   cases e:c.β c.H.length with
   | none=>rfl
   | some b=>have:=K.dom _ _ e;omega
theorem tV[aA](V:P.follows .mixedOrders=true)(q:fP cf)(r:jD P T cf)(u:fA P T){id:Nat}{B:List<|Nat×Nat}{b:Bool}{ops:Array Oper}{aops:List aH}{tm:List AV}{c:bM}{a:Act}{st':St}{Q:Exit->Act->World->Prop}(m:dT P T (.region b B aops) (.region id ops b)=true)(K:aZ (aF T) c)(s:TR (aF T) c tm a.tmps)(t:fl<=c.H.length)(g:dN P cf fl B aops ⟨tm,c.H⟩=some st')(D:∀a' c',c'.H=st'.heap->aY fl c c'->aZ (aF T) c'->TR (aF T) c' st'.tmps a'.tmps->a'.defers=a.defers->Q .normal a' c'.w): (Code.region id ops b).wp P Q a c.w:=by
 simp only[dT,Bool.and_eq_true] at m;let⟨⟨_,z⟩,G⟩:=m;let⟨p,_⟩:=dS z;cases b with
 | false=>
  refine wp_region ?_;rcases sO q g with ⟨_,g⟩ | ⟨_,_,_,k,_⟩
  .have:=KQ r u aops ops.toList 0 c a tm st' z (λj o O=>by simpa using O) K s t g D;rw[List.range_eq_range'];grind
  .simp only[k,Option.isNone] at G;cases G
 | true=>
  simp only[Bool.and_eq_true] at G;let⟨⟨G1,G2⟩,R⟩:=G
  cases hm:pT B with
  | some pm=>
   obtain⟨r',rfl⟩:=Tp hm
   simp only[d8,ckK,aAY,hm,List.tail] at G1 G2
   simp only[Bool.and_eq_true,List.all_eq_true,List.mem_range,Bool.or_eq_true] at G2
   refine AG V q r u z G1 G2.1 (λk h1 h2=>?_) R K s t g D
   rcases G2.2 k h1 with (e | e) | e
   .have:=Nat.le_of_ble_eq_true e;omega
   .exact .inl e
   .exact .inr e
  | none=>
   simp only[d8,ckK,hm,Id,Bool.and_eq_true] at G1;let⟨W,E⟩:=G1;let⟨S,I,e2,L,y⟩:=NO q hm g;let⟨val,e⟩:=EH L;have d:=by simpa using p
   refine wp_region_any V ?_;have J:nK c.w { c.w with drawn:=c.w.drawn+1 }:=⟨rfl,rfl,rfl,rfl,Nat.le_succ _⟩;have l:=kZ (fl:=fl) J;refine Us (c0:=⟨{ c.w with drawn:=c.w.drawn+1 },c.X,c.β,c.H⟩) (ds:=a.defers) (pm:=ops.size) (n0:=0) (zp:=[]) r u d (λk o h=>let ⟨ao,h1,h2⟩:=(dS z).2 k o (by simpa using h);⟨ao,h1,λ_=>h2⟩) (λh=>absurd h (Nat.lt_irrefl _)) (λh=>absurd h (Nat.lt_irrefl _)) (λh=>absurd h (Nat.lt_irrefl _)) (λ_ _ h=>absurd h (Nat.lt_irrefl _)) (λh=>absurd h (Nat.lt_irrefl _)) W E.1 R I (Nat.le_refl _) L e y (Gp d) (Ln E.2) q t ?_ ops.size (Array.replicate ops.size false) a ⟨{ c.w with drawn:=c.w.drawn+1 },c.X,c.β,c.H⟩ ?_ ?_
   .intro a' c' f1 f2 Y F Z;rw[<-d,e2] at f1 F;exact D a' c' f1 (l.trans f2) Y F Z
   .unfold XY;exact Nat.le_trans (List.length_filter_le _ _)<|by simp
   .have v:=FI ops.size
    refine⟨by simp,K.drawn J,aY.refl _ _,rfl,(λi j _ C _=>by rw[v] at C;cases C),?_,?_,λh=>absurd h (Nat.lt_irrefl _)⟩
    .have A:eI aops tm val (λj=>(Array.replicate ops.size false).getD j false) ops.size=tm:=
      jV ops.size (Nat.zero_le _) λj _ _=>v j
     rw[A];exact s.step l
    .have n:mK (λj=>(Array.replicate ops.size false).getD j false) (jP aops (iP ops.toList ops.size []) ops.size 0)=false:=by simp only[mK,v,Bool.false_and]
     rw[Yz,if_neg<|by rw[n];exact Bool.false_ne_true,hZ ops.size (Nat.zero_le _) λj _ _ _=>v j];simp only[fG,I]
end
end Go.Proofs.YthadajkojciapaaGreatDoor.Av
