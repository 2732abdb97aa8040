/- A part of the proof of a law. -/
import Derived.Test.YtideamafblopcaaGreatDoorP3
import Derived.Scope
import Derived.Control
set_option maxRecDepth 100000
set_option maxHeartbeats 4000000
set_option linter.all false
namespace Go.Proofs.YtideamafblopcaaGreatDoor.Av
open Go
section
variable {FT:Nat->Option Nat}
theorem sT[aB]{c:bV}: ∀(l:List Bool) (tm:List AV) (tv:Array Value),TR FT c tm tv->TR FT c (bS l tm) tv:=by
 intro l tm tv h;have f:∀(l:List Bool) (tm:List AV),(bS l tm).length=tm.length/\∀(t:Nat) (x:AV),(bS l tm)[t]?=some x->x=.undef\/tm[t]?=some x:=by
  intro l;induction l with
  | nil=>
   intro tm;cases tm with
   | nil=>exact⟨rfl,λt x a=>by simp[bS] at a⟩
   | cons v vs=>
    refine⟨by simp[bS],λt x a=>?_⟩;simp only[bS] at a;grind
  | cons b k i=>
   intro tm;cases tm with
   | nil=>exact⟨rfl,λt x a=>by simp[bS] at a⟩
   | cons v vs=>
    let⟨d,e⟩:=i vs;refine⟨by simp[bS,d],λt x a=>?_⟩;cases t with
    | zero=>
     simp only[bS] at a |-;grind
    | succ t=>
     exact e t x a
 let⟨d,e⟩:=f l tm;refine⟨d.trans h.1,λt x a=>?_⟩;rcases e t x a with rfl | g
 .have j:t<tv.size:=by rw[<-h.1,<-d];exact (List.getElem?_eq_some_iff.1 a).1
  exact⟨tv[t],by simp,RV.undef _⟩
 .exact h.2 t x g
structure N5(n:Nat)(c c':bV): Prop where
 w:c'.w=c.w
 X:c'.X=c.X
 lo:∀id,id<n->c'.β id=c.β id
 img:∀id b,c'.β id=some b->∃i,c.β i=some b
 shp:∀id,id<n->shp c'.H id=shp c.H id
 mp:∀id,id<n->vZ c.H id->vZ c'.H id
theorem N5.imm{n:Nat}{c c':bV}(h:N5 n c c'){b:Nat}(e:mF c b): mF c' b:=by
 refine⟨by rw[h.X];exact e.1,λid a=>?_⟩;let⟨i,d⟩:=h.img id b a;exact e.2 i d
theorem N5.vis{n:Nat}{c c':bV}(h:N5 n c c'){b:Nat}(e:OT c b): OT c' b:=by
 intro id a;let⟨i,d⟩:=h.img id b a;exact e i d
theorem N5.rp[aB]{n:Nat}{c c':bV}(h:N5 n c c'){x:AV}{v:Value}(a:RP c.w (mF c) x v): RP c'.w (mF c') x v:=
 a.mono λb o e d=>⟨h.imm e,by rw[h.w];exact d⟩
theorem KW[aB]{n:Nat}{c c':bV}(h:N5 n c c'){x:AV}{v:Value}(S:RV FT c x v): RV FT c' (jI n x) v:=by
 cases S with
 | pure _ _ X=>
  have H:=h.rp X;cases H with
  | undef v=>exact .pure _ _<|.undef v
  | lit v=>exact .pure _ _<|.lit v
  | nil f a cap W=>exact .pure _ _<|.nil f a cap W
  | sl f es b off cap cc T u s d p o r q y B J Y=>exact .pure _ _<|.sl f es b off cap cc T u s d p o r q y B J Y
  | sptr cs b off cc T u d p o r q=>exact .pure _ _<|.sptr cs b off cc T u d p o r q
  | rmp A b es F d p o r q y B=>exact .pure _ _<|.rmp A b es F d p o r q y B
 | ms id tot off len a cap s m l k t C=>
  simp only[jI];split
  .rename_i g;refine .ms id tot off len a cap s m ((h.shp id g).trans l) k t λe=>?_;let⟨m1,V⟩:=C e;refine⟨m1,?_⟩;rcases V with⟨I,E,G,K⟩ | ⟨b,cs,T,a',I,E,G,K,U⟩
   .exact .inl ⟨(h.lo id g).trans I,E,G,K⟩
   .exact .inr ⟨b,cs,T,a',(h.lo id g).trans I,by rw[h.w];exact E,G,K,U⟩
  .exact RV.undef _
 | ptr id tot D off a s m l k t=>
  simp only[jI];split
  .rename_i g;refine .ptr id tot D off a s m ((h.shp id g).trans l) k λe=>?_;let⟨b,R,ha⟩:=t e;exact⟨b,(h.lo id g).trans R,ha⟩
  .exact RV.undef _
 | rptr cs b off cc T u d l k t C=>exact .rptr cs b off cc T u d (h.vis l) (by rw[h.w];exact k) t λj x z=>h.rp<|C j x z
 | vnil a cap=>exact .vnil a cap
 | vw es b off cap cc T u s d p o r q y B J=>exact .vw es b off cap cc T u s d p (h.vis o) (by rw[h.w];exact r) q y B λi j x z=>h.rp<|J i j x z
 | mp id b l k=>
  simp only[jI];split
  .rename_i g;exact .mp id b (h.mp id g l)<|(h.lo id g).trans k
  .exact RV.undef _
 | it id b l k=>
  simp only[jI];split
  .rename_i g;exact .it id b (h.mp id g l)<|(h.lo id g).trans k
  .exact RV.undef _
 | fn vi f caps cv d l k t C=>
  cases caps with
  | nil=>exact .fn vi f [] cv d l k t λi x z=>by simp at z
  | cons _ _=>exact RV.undef _
 | agg=>exact RV.undef _
 | tup=>exact RV.undef _
theorem Ab[aB]{n:Nat}{c c':bV}(h:N5 n c c'){x:AV}{v:Value}(e:RV FT c x v): RV FT c' (iE n x) v:=by
 unfold iE;split
 .rename_i vi caps;cases e with
  | pure _ _ g=>cases g
  | fn _ f _ cv a l k o j=>
   refine .fn vi f _ cv a l (by simpa using k) ?_ ?_
   .grind
   .intro i x b;simp at b;obtain⟨y,m,rfl⟩:=b;exact KW h<|j i y m
 .exact KW h e
theorem Ig[aB]{n:Nat}{c c':bV}(h:N5 n c c'){x:AV}{v:Value}(b:RV FT c x v): RV FT c' (yG n x) v:=by
 unfold yG;split
 .rename_i cs;obtain⟨cv,a,rfl,e,j,g⟩:=b.agg_inv;refine .agg _ cv a (by simpa using e) ?_ ?_
  .grind
  .intro i x d;simp at d;obtain⟨y,f,rfl⟩:=d;exact Ab h<|g i y f
 .exact Ab h b
theorem KV[aB]{n:Nat}{c c':bV}(h:N5 n c c'){x:AV}{v:Value}(b:RV FT c x v): RV FT c' (yF n x) v:=by
 unfold yF;split
 .rename_i cs;obtain⟨cv,a,rfl,e,j,g⟩:=b.tup_inv;refine .tup _ cv a (by simpa using e) ?_ ?_
  .grind
  .intro i x d;simp at d;obtain⟨y,f,rfl⟩:=d;exact Ig h<|g i y f
 .exact Ig h b
def jS(fl n:Nat)(c:bV): bV:=
 ⟨c.w,c.X,λid=>if id<n then c.β id else none,c.H.take fl++((c.H.take n).drop fl).map (bT n)⟩
theorem yR{fl n:Nat}{c:bV}(a:fl<=n)(b:n<=c.H.length)(id:Nat):
 (jS fl n c).H[id]?=if id<fl then c.H[id]? else if id<n then (c.H[id]?).map (bT n) else none:=by
 simp only[jS];grind
theorem nN{fl n:Nat}{c:bV}(a:fl<=n)(b:n<=c.H.length): (jS fl n c).H.length=n:=by
 simp only[jS,List.length_append,List.length_take,List.length_map,List.length_drop];omega
theorem yQ[aB]{fl n:Nat}{c:bV}(f:fl<=n)(i:n<=c.H.length): N5 n c (jS fl n c) where
 w:=rfl;X:=rfl;lo:=λid a=>by simp[jS,a]
 img:=λid b l=>by
  simp only[jS] at l;grind
 shp:=λid a=>by
  have r:=yR f i id;unfold shp;rw[r];by_cases h:id<fl
  .grind
  .rw[if_neg h,if_pos a];cases c.H[id]? with
   | none=>rfl
   | some o=>cases o<;>simp[bT]
 mp:=λid a j=>by
  let⟨d,he,g⟩:=j;simp only[vZ,yR f i,he];split
  .grind
  .refine⟨bT n d,by simp,?_⟩;cases d with
   | blk=>exact g
   | mp=>trivial
   | raw=>trivial
theorem Ll[aB]{fl:Nat}{c0 c:bV}(v:bJ FT c0)(h:bG fl c0 c)(f:fl<=c0.H.length): bG fl c0<|jS fl c0.H.length c:=by
 have d:=yQ f h.len;have i:=yR f h.len;have l:∀id r,shp c0.H id=some r->id<c0.H.length:=λid r u=>by
  rcases Nat.lt_or_ge id c0.H.length with p | p
  .grind
  .simp[shp,List.getElem?_eq_none p] at u
 refine⟨h.X,h.os,h.tape,h.output,h.drawn,h.size,by rw[nN f h.len];exact Nat.le_refl _,h.frame,?_,?_,?_,?_⟩
 .intro id b m;simp only[jS] at m;split at m
  .exact h.img id b m
  .grind
 .intro id s n o;let⟨w,g,j,k⟩:=h.blkS id s n o;have a:=l id _ o;exact⟨w,(d.shp id a).trans g,j,λe=>⟨(d.lo id a).trans (k e).1,(k e).2⟩⟩
 .intro id q;have a:id<c0.H.length:=by
   let⟨t,he,_⟩:=q;grind
  let⟨g,j⟩:=h.mpS id q;exact⟨d.mp id a g,(d.lo id a).trans j⟩
 .intro id a;let⟨g,j,k⟩:=h.floor id a;exact⟨by rw[i,if_pos a];exact g,(d.lo id<|by omega).trans j,k⟩
theorem IL[aB]{fl:Nat}{c0 c:bV}(hs0:bJ FT c0)(hs:bJ FT c)(h:bG fl c0 c)(hfl:fl<=c0.H.length): bJ FT<|jS fl c0.H.length c:=by
 have hsub:=yQ hfl h.len
 have hget:=yR hfl h.len
 have hst:=Ll hs0 h hfl
 have hβ:∀id b,(jS fl c0.H.length c).β id=some b->id<c0.H.length/\c.β id=some b:=by
  intro id b hb
  simp only[jS] at hb
  split at hb
  .grind
  .grind
 refine⟨hs0.gl.step hst,?_,?_,?_,hs.fresh,?_,?_,?_,?_⟩
 .intro i j b hi hj
  exact hs.inj i j b (hβ i b hi).2 (hβ j b hj).2
 .intro id b hb
  rw[nN hfl h.len];exact (hβ id b hb).1
 .intro id b hb
  exact hs.nx id b (hβ id b hb).2
 .intro id s es ho
  rw[hget] at ho
  split at ho
  .exact hs.lens id s es ho
  .split at ho
   .simp only[Option.map_eq_some_iff] at ho
    let⟨o,ho1,ho2⟩:=ho
    cases o with
    | blk s' es'=>
     simp only[bT,cN.blk.injEq] at ho2
     let⟨rfl,rfl⟩:=ho2
     intro e he
     simp only[List.mem_map] at he
     obtain⟨e0,h0,rfl⟩:=he
     simpa using hs.lens id s' es' ho1 e0 h0
    | mp ents=>simp[bT] at ho2
    | raw q=>simp[bT] at ho2
   .grind
 .intro id s es b ho hb
  let⟨hid,hb'⟩:=hβ id b hb
  rw[hget] at ho
  split at ho
  .rename_i hlo
   let⟨f1,f2,f3⟩:=h.floor id hlo
   rw[f1] at ho
   rw[f2] at hb'
   let⟨cs,T,g1,g2,g3⟩:=hs0.blk id s es b ho hb'
   exact⟨cs,T,(f3 b hb').trans g1,g2,λi j x hx=>let ⟨v,k1,k2,k3⟩:=g3 i j x hx;⟨v,k1,k2,k3.step hst⟩⟩
  .simp only[Option.map_eq_some_iff] at ho
   let⟨o,ho1,ho2⟩:=ho
   cases o with
   | blk s' es'=>
    simp only[bT,cN.blk.injEq] at ho2
    let⟨rfl,rfl⟩:=ho2
    let⟨cs,T,g1,g2,g3⟩:=hs.blk id s' es' b ho1 hb'
    refine⟨cs,T,g1,by simpa using g2,λi j x hx=>?_⟩
    obtain⟨y,hy,rfl⟩:=jB hx
    let⟨v,k1,k2,k3⟩:=g3 i j y hy
    exact⟨v,k1,k2,Ab hsub k3⟩
   | mp ents=>simp[bT] at ho2
   | raw q=>simp[bT] at ho2
 .intro id ents b ho hb
  let⟨hid,hb'⟩:=hβ id b hb
  rw[hget] at ho
  split at ho
  .rename_i hlo
   let⟨f1,f2,f3⟩:=h.floor id hlo
   rw[f1] at ho
   rw[f2] at hb'
   let⟨es,clk,g1,g2,g3⟩:=hs0.map id ents b ho hb'
   exact⟨es,clk,(f3 b hb').trans g1,g2,λi k x hx=>let ⟨e,k1,k2,k3⟩:=g3 i k x hx;⟨e,k1,k2,k3.step hst⟩⟩
  .simp only[Option.map_eq_some_iff] at ho
   let⟨o,ho1,ho2⟩:=ho
   cases o with
   | blk s' es'=>simp[bT] at ho2
   | mp ents'=>
    simp only[bT,cN.mp.injEq] at ho2
    subst ho2
    let⟨es,clk,g1,g2,g3⟩:=hs.map id ents' b ho1 hb'
    refine⟨es,clk,g1,by simpa using g2,λi k x hx=>?_⟩
    simp only[List.getElem?_map,Option.map_eq_some_iff] at hx
    let⟨⟨k0,y⟩,hy,he⟩:=hx
    obtain⟨rfl,rfl⟩:=he
    let⟨e,k1,k2,k3⟩:=g3 i k0 y hy
    exact⟨e,k1,k2,Ig hsub k3⟩
   | raw q=>simp[bT] at ho2
 .intro id q b ho hb
  let⟨hid,hb'⟩:=hβ id b hb
  rw[hget] at ho
  split at ho
  .rename_i hlo
   let⟨f1,f2,f3⟩:=h.floor id hlo
   rw[f1] at ho
   rw[f2] at hb'
   exact (f3 b hb').trans<|hs0.raw id q b ho hb'
  .simp only[Option.map_eq_some_iff] at ho
   let⟨o,ho1,ho2⟩:=ho
   cases o with
   | blk s' es'=>simp[bT] at ho2
   | mp ents'=>simp[bT] at ho2
   | raw q'=>
    simp only[bT,cN.raw.injEq] at ho2
    subst ho2
    exact hs.raw id q' b ho1 hb'
theorem pT[aB]{fl:Nat}{live:Option<|List Bool}{tr:Bool}{c0 c:bV}{tm:List AV}{tv:Array Value}(d:bJ FT c0)(f:bJ FT c)(h:bG fl c0 c)(a:fl<=c0.H.length)(e:TR FT c tm tv):
 ∃c',c'.w=c.w/\c'.H=(bX live tr fl c0.H.length ⟨tm,c.H⟩).heap/\bG fl c0 c'/\bJ FT c'/\TR FT c' (bX live tr fl c0.H.length ⟨tm,c.H⟩).tmps tv:=by
 have b:TR FT c (Ff live tm) tv:=by
  cases live with
  | none=>exact e
  | some l=>exact sT l tm tv e
 cases tr with
 | false=>exact⟨c,rfl,by simp[bX],h,f,by simpa [bX] using b⟩
 | true=>
  refine⟨jS fl c0.H.length c,rfl,by simp[bX,jS],Ll d h a,IL d f h a,?_⟩;simp only[bX,if_true];refine⟨by simpa using b.1,λt x g=>?_⟩;simp at g;obtain⟨y,k,rfl⟩:=g;let⟨v,i,j⟩:=b.2 t y k;exact⟨v,i,KV (yQ a h.len) j⟩
def Mc(c:bV)(id s:Nat)(es:List<|List AV): bV:=
 ⟨c.w,c.X,λi=>if i=c.H.length then c.β id else if i=id then none else c.β i,c.H.set id (.blk s<|es++[List.replicate s .undef])++[.blk s es]⟩
theorem MM{c:bV}{id s:Nat}{es:List<|List AV}(a:c.H[id]?=some (.blk s es))(i:Nat):
 (Mc c id s es).H[i]?=if i=c.H.length then some (.blk s es) else if i=id then some (.blk s<|es++[List.replicate s .undef]) else c.H[i]?:=by
 simp only[Mc];grind
theorem RT[aB]{fl:Nat}{c:bV}{id s:Nat}{es:List<|List AV}(hfl:fl<=id)(hob:c.H[id]?=some (.blk s es)): bG fl c<|Mc c id s es:=by
 have hlt:=(List.getElem?_eq_some_iff.1 hob).1;have hg:=MM hob;have hlo:∀i o,c.H[i]?=some o->i<c.H.length:=λi o h=>(List.getElem?_eq_some_iff.1 h).1;refine⟨rfl,rfl,rfl,rfl,Nat.le_refl _,Nat.le_refl _,by simp[Mc],λ_ _ _=>rfl,?_,?_,?_,?_⟩
 .intro i b hb;simp only[Mc] at hb;grind
 .intro i s' n hs;have hi:i<c.H.length:=by
   rcases Nat.lt_or_ge i c.H.length with h' | h'
   .grind
   .simp[shp,List.getElem?_eq_none h'] at hs
  by_cases h2:i=id
  .subst h2;have e:=by simp[shp,hob] at hs;omega
   let⟨rfl,rfl⟩:=e;unfold shp
   grind
  .refine⟨n,?_,Nat.le_refl _,λ_=>⟨?_,λb cs T _ hb=>⟨cs,hb,rfl⟩⟩⟩
   .unfold shp
    rw[hg,if_neg<|by omega,if_neg h2]
    exact hs
   .simp only[Mc]
    rw[if_neg<|by omega,if_neg h2]
 .intro i hm
  let⟨o,ho,hnb⟩:=hm
  have hi:=hlo i o ho
  have h2:i≠id:=by
   intro e
   subst e
   rw[hob] at ho
   cases ho
   exact hnb
  refine⟨⟨o,by rw[hg,if_neg<|by omega,if_neg h2];exact ho,hnb⟩,?_⟩
  simp only[Mc]
  rw[if_neg<|by omega,if_neg h2]
 .intro i hi
  refine⟨by rw[hg,if_neg<|by omega,if_neg<|by omega],?_,λ_ _=>rfl⟩
  simp only[Mc]
  rw[if_neg<|by omega,if_neg<|by omega]
theorem aCp[aB]{c:bV}{id s:Nat}{es:List<|List AV}(hs:bJ FT c)(hob:c.H[id]?=some (.blk s es)): bJ FT<|Mc c id s es:=by
 have hg:=MM hob
 have hst:=RT (fl:=0) (Nat.zero_le _) hob
 have hβ:∀i b,(Mc c id s es).β i=some b->(i=c.H.length/\c.β id=some b)\/(i≠c.H.length/\i≠id/\c.β i=some b):=by
  intro i b hb
  simp only[Mc] at hb
  grind
 refine⟨hs.gl.step hst,?_,?_,?_,hs.fresh,?_,?_,?_,?_⟩
 .intro i j b hi hj
  rcases hβ i b hi with⟨h1,h2⟩ | ⟨h1,h2,h3⟩<;>rcases hβ j b hj with⟨k1,k2⟩ | ⟨k1,k2,k3⟩
  .omega
  .exact (k2<|hs.inj _ _ b k3 h2).elim
  .exact (h2<|hs.inj _ _ b h3 k2).elim
  .exact hs.inj _ _ b h3 k3
 .intro i b hb
  simp only[Mc,List.length_append,List.length_set,List.length_singleton]
  rcases hβ i b hb with⟨h1,h2⟩ | ⟨h1,h2,h3⟩
  .omega
  .have:=hs.dom i b h3;omega
 .intro i b hb
  rcases hβ i b hb with⟨h1,h2⟩ | ⟨h1,h2,h3⟩
  .exact hs.nx _ b h2
  .exact hs.nx _ b h3
 .intro i s' es' ho
  rw[hg] at ho
  split at ho
  .cases ho;exact hs.lens id s es hob
  .split at ho
   .cases ho
    intro e he
    rcases List.mem_append.1 he with h | h
    .exact hs.lens id s es hob e h
    .grind
   .exact hs.lens i s' es' ho
 .intro i s' es' b ho hb
  rcases hβ i b hb with⟨h1,h2⟩ | ⟨h1,h2,h3⟩
  .rw[hg,if_pos h1] at ho
   cases ho
   let⟨cs,T,g1,g2,g3⟩:=hs.blk id s es b hob h2
   exact⟨cs,T,g1,g2,λi j x hx=>let ⟨v,k1,k2,k3⟩:=g3 i j x hx;⟨v,k1,k2,k3.step hst⟩⟩
  .rw[hg,if_neg h1,if_neg h2] at ho
   let⟨cs,T,g1,g2,g3⟩:=hs.blk i s' es' b ho h3
   exact⟨cs,T,g1,g2,λi j x hx=>let ⟨v,k1,k2,k3⟩:=g3 i j x hx;⟨v,k1,k2,k3.step hst⟩⟩
 .intro i ents b ho hb
  rcases hβ i b hb with⟨h1,h2⟩ | ⟨h1,h2,h3⟩
  .grind
  .rw[hg,if_neg h1,if_neg h2] at ho
   let⟨es,clk,g1,g2,g3⟩:=hs.map i ents b ho h3
   exact⟨es,clk,g1,g2,λi k x hx=>let ⟨e,k1,k2,k3⟩:=g3 i k x hx;⟨e,k1,k2,k3.step hst⟩⟩
 .intro i q b ho hb
  rcases hβ i b hb with⟨h1,h2⟩ | ⟨h1,h2,h3⟩
  .grind
  .rw[hg,if_neg h1,if_neg h2] at ho
   exact hs.raw i q b ho h3
theorem r6{c c':bV}{id m s tot off len:Nat}{es es':List<|List AV}(d:c.H[id]?=some (.blk s es))(b:c'.H[m]?=some (.blk s es'))(r:es'.length=es.length)(o:c'.w=c.w)(q:c'.β m=c.β id){v:Value}(l:RV FT c (.ms id tot off len) v): RV FT c' (.ms m tot off len) v:=by
 cases l with
 | pure _ _ h=>cases h
 | ms _ _ _ _ a cap s' n g u k i=>
  have e:s'=s/\n=es.length:=by simp[shp,d] at g;omega
  let⟨rfl,rfl⟩:=e;refine .ms m tot off len a cap s' es'.length (by simp[shp,b]) (by omega) k λe=>?_;let⟨j,t⟩:=i (by omega);refine⟨j,?_⟩;grind
theorem F7[aB]{fl t:Nat}{c:bV}{tm:List AV}{tv:Array Value}{d:St}(p:bJ FT c)(b:TR FT c tm tv)(h:l7 fl t ⟨tm,c.H⟩=some d):
 ∃c',c'.w=c.w/\c'.H=d.heap/\bG fl c c'/\bJ FT c'/\TR FT c' d.tmps tv:=by
 unfold l7 at h;split at h
 .rename_i id tot off len n;split at h
  .rename_i l;split at h
   .rename_i s es a;split at h
    .rename_i o;cases h;have i:=RT l a;refine⟨Mc c id s es,rfl,rfl,i,aCp p a,?_⟩;refine⟨by simpa using b.1,λu y g=>?_⟩;rw[List.getElem?_set] at g;split at g
     .rename_i m;subst m;split at g
      .rename_i f;cases g;let⟨cv,k,j⟩:=b.2 t tm[t]<|List.getElem?_eq_getElem f;have e:=by
        simp only[aC,List.getElem?_eq_getElem f] at n;exact n
       rw[e] at j;refine⟨cv,k,r6 (c':=Mc c id s es) a (by rw[MM a,if_pos rfl]) rfl rfl (by simp[Mc]) j⟩
      .grind
     .let⟨cv,k,j⟩:=b.2 u y g;exact⟨cv,k,j.step i⟩
    .cases h
   .cases h
  .cases h
 .cases h
def oT(fl n id s:Nat)(es:List<|List AV)(c:bV): bV:=
 ⟨c.w,c.X,λi=>if i<n then c.β i else if i=n then c.β id else none,(jS fl n c).H++[bT n<|.blk s es]⟩
theorem Fe[aB]{fl n id s:Nat}{es:List<|List AV}{c:bV}(a:fl<=n)(b:n<=c.H.length)(i:Nat):
 (oT fl n id s es c).H[i]?=if i<n then (jS fl n c).H[i]? else if i=n then some (bT n<|.blk s es) else none:=by
 simp only[oT];rw[List.getElem?_append];rw[nN a b];grind
theorem CZ[aB]{fl n id s:Nat}{es:List<|List AV}{c:bV}(a:fl<=n)(e:n<=c.H.length): N5 n c (oT fl n id s es c) where
 w:=rfl;X:=rfl;lo:=λi d=>by simp[oT,d]
 img:=λi b h=>by
  simp only[oT] at h;grind
 shp:=λi d=>by
  have:=(yQ a e).shp i d;unfold shp at this |-;rw[Fe a e,if_pos d];exact this
 mp:=λi d f=>by
  have:=(yQ a e).mp i d f;unfold vZ at this |-;rw[Fe a e,if_pos d];exact this
theorem JQ[aB]{fl id s:Nat}{es:List<|List AV}{c0 c:bV}(p:bJ FT c0)(h:bG fl c0 c)(f:fl<=c0.H.length): bG fl c0<|oT fl c0.H.length id s es c:=by
 have a:=CZ (id:=id) (s:=s) (es:=es) f h.len;have w:=Ll p h f;have g:=Fe (id:=id) (s:=s) (es:=es) f h.len;have k:(oT fl c0.H.length id s es c).H.length=c0.H.length+1:=by
  simp only[oT,List.length_append,nN f h.len,List.length_singleton]
 refine⟨h.X,h.os,h.tape,h.output,h.drawn,h.size,by rw[k];omega,h.frame,?_,?_,?_,?_⟩
 .intro i b j;simp only[oT] at j;split at j
  .exact h.img i b j
  .split at j
   .exact h.img id b j
   .grind
 .intro i s' n u;have d:i<c0.H.length:=by
   rcases Nat.lt_or_ge i c0.H.length with q | q
   .grind
   .simp[shp,List.getElem?_eq_none q] at u
  let⟨x,l,o,m⟩:=h.blkS i s' n u;exact⟨x,(a.shp i d).trans l,o,λe=>⟨(a.lo i d).trans (m e).1,(m e).2⟩⟩
 .intro i v;have d:i<c0.H.length:=by
   let⟨t,he,_⟩:=v;exact (List.getElem?_eq_some_iff.1 he).1
  let⟨l,o⟩:=h.mpS i v;exact⟨a.mp i d l,(a.lo i d).trans o⟩
 .intro i r;let⟨l,o,m⟩:=w.floor i r;exact⟨by rw[g,if_pos<|by omega];exact l,(a.lo i<|by omega).trans (h.floor i r).2.1,m⟩
theorem X9[aB]{fl id s:Nat}{es:List<|List AV}{c0 c:bV}(hs0:bJ FT c0)(hs:bJ FT c)(h:bG fl c0 c)(hfl:fl<=c0.H.length)(hid:c0.H.length<=id)(hob:c.H[id]?=some (.blk s es)): bJ FT<|oT fl c0.H.length id s es c:=by
 have hsub:=CZ (id:=id) (s:=s) (es:=es) hfl h.len
 have hst:=JQ (id:=id) (s:=s) (es:=es) hs0 h hfl
 have ht:=IL hs0 hs h hfl
 have hget:=Fe (id:=id) (s:=s) (es:=es) hfl h.len
 have htg:=yR hfl h.len
 have hlen:(oT fl c0.H.length id s es c).H.length=c0.H.length+1:=by
  simp only[oT,List.length_append,nN hfl h.len,List.length_singleton]
 have hβ:∀i b,(oT fl c0.H.length id s es c).β i=some b->(i<c0.H.length/\c.β i=some b)\/(i=c0.H.length/\c.β id=some b):=by
  intro i b hb
  simp only[oT] at hb
  split at hb
  .grind
  .grind
 refine⟨hs0.gl.step hst,?_,?_,?_,hs.fresh,?_,?_,?_,?_⟩
 .intro i j b hi hj
  rcases hβ i b hi with⟨h1,h2⟩ | ⟨h1,h2⟩<;>rcases hβ j b hj with⟨k1,k2⟩ | ⟨k1,k2⟩
  .exact hs.inj _ _ b h2 k2
  .have:=hs.inj _ _ b h2 k2;omega
  .have:=hs.inj _ _ b h2 k2;omega
  .omega
 .grind
 .intro i b hb
  rcases hβ i b hb with⟨h1,h2⟩ | ⟨h1,h2⟩
  .exact hs.nx _ b h2
  .exact hs.nx _ b h2
 .intro i s' es' ho
  rw[hget] at ho
  split at ho
  .exact ht.lens i s' es' ho
  .split at ho
   .simp only[bT,Option.some.injEq,cN.blk.injEq] at ho
    let⟨rfl,rfl⟩:=ho
    intro e he
    simp only[List.mem_map] at he
    obtain⟨e0,h0,rfl⟩:=he
    simpa using hs.lens id s es hob e0 h0
   .grind
 .intro i s' es' b ho hb
  rcases hβ i b hb with⟨hi,hb'⟩ | ⟨hi,hb'⟩
  .rw[hget,if_pos hi,htg] at ho
   split at ho
   .rename_i hlo
    let⟨f1,f2,f3⟩:=h.floor i hlo
    rw[f1] at ho
    rw[f2] at hb'
    let⟨cs,T,g1,g2,g3⟩:=hs0.blk i s' es' b ho hb'
    exact⟨cs,T,(f3 b hb').trans g1,g2,λi j x hx=>let ⟨v,k1,k2,k3⟩:=g3 i j x hx;⟨v,k1,k2,k3.step hst⟩⟩
   .try rw[if_pos hi] at ho
    simp only[Option.map_eq_some_iff] at ho
    let⟨o,ho1,ho2⟩:=ho
    cases o with
    | blk s2 es2=>
     simp only[bT,cN.blk.injEq] at ho2
     let⟨rfl,rfl⟩:=ho2
     let⟨cs,T,g1,g2,g3⟩:=hs.blk i s2 es2 b ho1 hb'
     refine⟨cs,T,g1,by simpa using g2,λi j x hx=>?_⟩
     obtain⟨y,hy,rfl⟩:=jB hx
     let⟨v,k1,k2,k3⟩:=g3 i j y hy
     exact⟨v,k1,k2,Ab hsub k3⟩
    | mp ents=>simp[bT] at ho2
    | raw q=>simp[bT] at ho2
  .rw[hget,if_neg<|by omega,if_pos hi] at ho
   simp only[bT,Option.some.injEq,cN.blk.injEq] at ho
   let⟨rfl,rfl⟩:=ho
   let⟨cs,T,g1,g2,g3⟩:=hs.blk id s es b hob hb'
   refine⟨cs,T,g1,by simpa using g2,λi j x hx=>?_⟩
   obtain⟨y,hy,rfl⟩:=jB hx
   let⟨v,k1,k2,k3⟩:=g3 i j y hy
   exact⟨v,k1,k2,Ab hsub k3⟩
 .intro i ents b ho hb
  rcases hβ i b hb with⟨hi,hb'⟩ | ⟨hi,hb'⟩
  .rw[hget,if_pos hi,htg] at ho
   split at ho
   .rename_i hlo
    let⟨f1,f2,f3⟩:=h.floor i hlo
    rw[f1] at ho
    rw[f2] at hb'
    let⟨es,clk,g1,g2,g3⟩:=hs0.map i ents b ho hb'
    exact⟨es,clk,(f3 b hb').trans g1,g2,λi k x hx=>let ⟨e,k1,k2,k3⟩:=g3 i k x hx;⟨e,k1,k2,k3.step hst⟩⟩
   .try rw[if_pos hi] at ho
    simp only[Option.map_eq_some_iff] at ho
    let⟨o,ho1,ho2⟩:=ho
    cases o with
    | blk s' es'=>simp[bT] at ho2
    | mp ents'=>
     simp only[bT,cN.mp.injEq] at ho2
     subst ho2
     let⟨es,clk,g1,g2,g3⟩:=hs.map i ents' b ho1 hb'
     refine⟨es,clk,g1,by simpa using g2,λi k x hx=>?_⟩
     simp only[List.getElem?_map,Option.map_eq_some_iff] at hx
     let⟨⟨k0,y⟩,hy,he⟩:=hx
     simp only[Prod.mk.injEq] at he
     let⟨rfl,rfl⟩:=he
     let⟨e,k1,k2,k3⟩:=g3 i k0 y hy
     exact⟨e,k1,k2,Ig hsub k3⟩
    | raw q=>simp[bT] at ho2
  .rw[hget,if_neg<|by omega,if_pos hi] at ho
   simp[bT] at ho
 .intro i q b ho hb
  rcases hβ i b hb with⟨hi,hb'⟩ | ⟨hi,hb'⟩
  .rw[hget,if_pos hi,htg] at ho
   split at ho
   .rename_i hlo
    let⟨f1,f2,f3⟩:=h.floor i hlo
    rw[f1] at ho
    rw[f2] at hb'
    exact (f3 b hb').trans<|hs0.raw i q b ho hb'
   .try rw[if_pos hi] at ho
    simp only[Option.map_eq_some_iff] at ho
    let⟨o,ho1,ho2⟩:=ho
    cases o with
    | blk s' es'=>simp[bT] at ho2
    | mp ents'=>simp[bT] at ho2
    | raw q'=>
     simp only[bT,cN.raw.injEq] at ho2
     subst ho2
     exact hs.raw i q' b ho1 hb'
  .rw[hget,if_neg<|by omega,if_pos hi] at ho
   simp[bT] at ho
theorem Fm[aB]{fl t:Nat}{live:List Bool}{c0 c:bV}{tm:List AV}{tv:Array Value}(g:bJ FT c0)(r:bJ FT c)(h:bG fl c0 c)(a:fl<=c0.H.length)(b:TR FT c tm tv):
 ∃c',c'.w=c.w/\c'.H=(Ox live t fl c0.H.length ⟨tm,c.H⟩).heap/\bG fl c0 c'/\bJ FT c'/\TR FT c' (Ox live t fl c0.H.length ⟨tm,c.H⟩).tmps tv:=by
 have p:=pT (live:=some live) (tr:=true) g r h a b;unfold Ox;split
 .rename_i id tot off len q;split
  .rename_i n;split
   .rename_i s es j;have f:=sT live tm tv b;have k:=CZ (id:=id) (s:=s) (es:=es) a h.len;refine⟨oT fl c0.H.length id s es c,rfl,by simp[oT,jS],JQ g h a,X9 g r h a n j,?_⟩;refine⟨by simpa using f.1,λu y i=>?_⟩;rw[List.getElem?_set] at i;split at i
    .rename_i m;subst m;split at i
     .rename_i A;cases i;have d:t<tm.length:=by
       have B:=f.1;have e2:=b.1;grind
      let⟨cv,o,l⟩:=b.2 t tm[t]<|List.getElem?_eq_getElem d;have e:=by
       simp only[aC,List.getElem?_eq_getElem d] at q;exact q
      rw[e] at l;refine⟨cv,o,r6 (c':=oT fl c0.H.length id s es c) (es':=es.map λe=>e.map<|iE c0.H.length) j ?_ (by simp) rfl (by simp[oT]) l⟩;rw[Fe a h.len,if_neg<|by omega,if_pos rfl];rfl
     .grind
    .simp at i;obtain⟨z,x,rfl⟩:=i;let⟨v,o,l⟩:=f.2 u z x;exact⟨v,o,KV k l⟩
   .grind
  .grind
 .grind
end
section
variable {P:Program}{T:List bK}{cf:Nat->Nat->List AV->aM->Option (AV×aM)}{fl lf:Nat}
def vD: bP->Exit
 | .normal=>.normal
 | .exit id=>.exit id
 | .ret=>.ret
def PJ[aB](P:Program)(T:List bK)(fl:Nat)(ev:St->Option (bP×St))(code:Code): Prop:=
 ∀(c:bV) (a:Act) (tm:List AV) (x:bP) (st':St) (Q:Exit->Act->World->Prop),bJ (aG T) c->TR (aG T) c tm a.tmps->fl<=c.H.length->ev ⟨tm,c.H⟩=some (x,st')->
  (∀a' c',c'.H=st'.heap->bG fl c c'->bJ (aG T) c'->TR (aG T) c' st'.tmps a'.tmps->a'.defers=a.defers->Q (vD x) a' c'.w)->code.wp P Q a c.w
theorem DG[aB]{e:Code}{step:St->Option (bP×St)}{live:Option<|List Bool}{tr:Bool}(d:PJ P T fl step e){c0:bV}(i:bJ (aG T) c0)(f:fl<=c0.H.length){ds:List Deferred}{x:bP}{st':St}{Q:Exit->Act->World->Prop}(v:∀a' c',c'.H=st'.heap->bG fl c0 c'->bJ (aG T) c'->TR (aG T) c' st'.tmps a'.tmps->a'.defers=ds->Q (vD x) a' c'.w):
 ∀(n:Nat) (c:bV) (a:Act) (tm:List AV),bJ (aG T) c->bG fl c0 c->TR (aG T) c tm a.tmps->a.defers=ds->dN (bX live tr fl c0.H.length) step n ⟨tm,c.H⟩=some (x,st')->Code.rounds P e Q n a c.w
 | 0,c,a,tm,_,_,_,_,b=>by cases b
 | n+1,c,a,tm,G,r,s,A,b=>by
  simp only[dN] at b;obtain⟨m,F,D,k,z,C⟩:=pT i G r f s;rw[<-F];have j:(bX live tr fl c0.H.length ⟨tm,c.H⟩)=⟨(bX live tr fl c0.H.length ⟨tm,c.H⟩).tmps,m.H⟩:=by rw[D]
  rw[j] at b;split at b
  .rename_i h he;refine d m a _ .normal h _ z C (Nat.le_trans f k.len) he ?_;intro a' c' o e2 q u p;refine DG (live:=live) (tr:=tr) d i f v n c' a' h.tmps q (k.trans e2) u (p.trans A) ?_;rw[o];exact b
  .rename_i E;have g:∀y,vD x=y->y≠.normal->e.wp P (Exit.then (Code.rounds P e Q n) Q) a m.w:=by
    intro y I t;refine d m a _ x st' _ z C (Nat.le_trans f k.len) b ?_;intro a' c' o e2 q u p;have:=v a' c' o (k.trans e2) q u<|p.trans A;rw[I] at this |-;cases y<;>first | exact (t rfl).elim | exact this
   cases x with
   | normal=>grind
   | exit id=>exact g _ rfl<|by simp[vD]
   | ret=>exact g _ rfl<|by simp[vD]
theorem Fg[aB]{f:Code}{step:St->Option (bP×St)}{b:St->St}(e:PJ P T fl step f){c0:bV}(h:fl<=c0.H.length)(g:∀(c:bV) (tm:List AV) (tv:Array Value),bJ (aG T) c->bG fl c0 c->TR (aG T) c tm tv->∃c',c'.w=c.w/\c'.H=(b ⟨tm,c.H⟩).heap/\bG fl c0 c'/\bJ (aG T) c'/\TR (aG T) c' (b ⟨tm,c.H⟩).tmps tv){ds:List Deferred}{x:bP}{st':St}{Q:Exit->Act->World->Prop}(C:∀a' c',c'.H=st'.heap->bG fl c0 c'->bJ (aG T) c'->TR (aG T) c' st'.tmps a'.tmps->a'.defers=ds->Q (vD x) a' c'.w):
 ∀(n:Nat) (c:bV) (a:Act) (tm:List AV),bJ (aG T) c->bG fl c0 c->TR (aG T) c tm a.tmps->a.defers=ds->dN b step n ⟨tm,c.H⟩=some (x,st')->Code.rounds P f Q n a c.w
 | 0,c,a,tm,_,_,_,_,d=>by cases d
 | n+1,c,a,tm,I,s,t,A,d=>by
  simp only[dN] at d;let⟨l,G,J,m,B,D⟩:=g c tm a.tmps I s t;rw[<-G];have j:(b ⟨tm,c.H⟩)=⟨(b ⟨tm,c.H⟩).tmps,l.H⟩:=by rw[J]
  rw[j] at d;split at d
  .rename_i k he;refine e l a _ .normal k _ B D (Nat.le_trans h m.len) he ?_;intro a' c' p e2 r u q;refine Fg e h g C n c' a' k.tmps r (m.trans e2) u (q.trans A) ?_;rw[p];exact d
  .rename_i E;have i:∀y,vD x=y->y≠.normal->f.wp P (Exit.then (Code.rounds P f Q n) Q) a l.w:=by
    intro y F v;refine e l a _ x st' _ B D (Nat.le_trans h m.len) d ?_;intro a' c' p e2 r u q;have:=C a' c' p (m.trans e2) r u<|q.trans A;rw[F] at this |-;cases y<;>first | exact (v rfl).elim | exact this
   cases x with
   | normal=>grind
   | exit id=>exact i _ rfl<|by simp[vD]
   | ret=>exact i _ rfl<|by simp[vD]
theorem H3[aB]{c:bV}{x:AV}{u:Value}(e:RV (aG T) c x u)(d:Yk c.H x≠3): ∃ad n cap,u=.slice ad n cap/\(Yk c.H x=0->ad=none)/\(Yk c.H x=1->ad.isNone=false):=by
 unfold Yk at d |-;split at d
 .rename_i v;have:=e.lit_inv;grind
 .rename_i es;have q:=e.sl_inv;cases q with
  | nil _ ad cap B=>grind
  | sl _ _ b off cap cc p o s a f l m k F z r w=>grind
 .rename_i es;obtain⟨ad,cap,rfl,_,i⟩:=e.vw_inv;rcases i with rfl | ⟨b,off,cc,p,o,s,a,rfl,_⟩
  .grind
  .grind
 .rename_i len;split at d
  .grind
  .rename_i j;split at d
   .rename_i g;split at d
    .rename_i h;let⟨ad,cap,D,E,A,f,l,m,k⟩:=e.ms_inv;rw[fL g] at f;cases f;let⟨y,C⟩:=k (Nat.eq_of_beq_eq_true h).symm;grind
    .grind
   .grind
 .grind
theorem G9[aB](hcf:lP P T cf)(hfn:fW P T){c:bV}{a:Act}{tm:List AV}{ops:Array Oper}{o1 o2:Oper}{id t d0 d1:Nat}{Q:Exit->Act->World->Prop}(hops:ops.toList=[o1,o2])(hc1:dO P T ops ⟨some d0,.mov<|.tmp t,none⟩ o1=true)(hc2:NI P d0 d1 o2=true)(hs:bJ (aG T) c)(htr:TR (aG T) c tm a.tmps)(hfl:fl<=c.H.length)(hd0:d0<tm.length)(h3:Yk c.H (aC tm<|.tmp t)≠3)(hQ:∀b a' c',(Yk c.H (aC tm<|.tmp t)=0->b=true)->(Yk c.H (aC tm<|.tmp t)=1->b=false)->c'.H=c.H->bG fl c c'->bJ (aG T) c'->TR (aG T) c' (vX tm t d0 d1 b) a'.tmps->a'.defers=a.defers->Q .normal a' c'.w):
 (Code.region id ops false).wp P Q a c.w:=by
 have e1:ops[0]?=some o1:=by rw[<-Array.getElem?_toList,hops];rfl
 have e2:ops[1]?=some o2:=by rw[<-Array.getElem?_toList,hops];rfl
 have hsz:ops.size=2:=by rw[<-Array.length_toList,hops];rfl
 refine wp_region ?_;rw[hsz];have hev1:bD P cf fl ⟨some d0,.mov<|.tmp t,none⟩ ⟨tm,c.H⟩=some ⟨tm.set d0<|aC tm<|.tmp t,c.H⟩:=rfl;refine uK hcf hfn hs htr hfl e1 hc1 hev1 ?_;intro a1 c1 f1 f2 f3 f4 f5 _;rw[wpOps_cons];unfold NI at hc2;simp at hc2;let⟨⟨h1,h2⟩,h4⟩:=hc2;have hdst:o2.dst=some d1:=by
  grind
 have hguard:=by simpa using h2
 split at h4
 .rename_i ty x' ty' hop;simp only[Bool.and_eq_true,beq_iff_eq] at h4;let⟨rfl,h4⟩:=h4;split at h4
  .rename_i hu;unfold wpOp;rw[e2];simp only;have hw:Region.wanted o2 (yielded ops a1.tmps)=true:=by simp[Region.wanted,hguard]
   rw[hw];left;let⟨u,k1,k2⟩:=f4.2 x' (aC tm<|.tmp t) (by simp[hd0]);let⟨ad,n,cap,hu',z0,z1⟩:=H3 k2 (by rw[f1];exact h3);rw[f1] at z0 z1;have hrun:(execOp a1.eval o2).run P c1.w=.ok (.value<|.bool ad.isNone) c1.w:=by
    have heq:∀w:World,(Op.equalIn Op.maxDepth ty (.slice ad n cap)<|.slice none 0 0).run P w=.ok ad.isNone w:=by
     have hm:Op.maxDepth=(Op.maxDepth-1)+1:=by decide
     rw[hm,Op.equalIn];cases ad<;>simp[run_underlying hu]
    simp[execOp,hop,Act.eval,k1,hu',eqGuard,binOp,Op.equal,heq]
   refine (bM (fl:=fl) f3 hrun<|RV.lit _) _ _ ?_;intro cv c2 q1 q2 q3 q4;rw[hdst]
   refine hQ ad.isNone _ c2 (λh=>by rw[z0 h];rfl) z1 (q1.trans f1) (f2.trans q2) q3 ?_<|(gN _ _ _).trans f5
   exact TR.put (d:=some d1) (f4.step q2) q4
  .grind
 .grind
theorem x8[aB]{c c':bV}{x:AV}{v:Value}(h:aA0 x=true)(a:RV (aG T) c x v): RV (aG T) c' (.sl false []) v:=by
 unfold aA0 at h;split at h
 .rename_i u;have:=a.lit_inv;subst this;split at h
  .split at h
   .split at h
    .split at h
     .exact .pure _ _<|.nil false none 0<|by simp
     .cases h
    .cases h
   .cases h
  .cases h
 .split at h
  .have e:=a.sl_inv;cases e with
   | nil _ ad cap i=>exact .pure _ _<|.nil false ad cap<|by simp
   | sl _ _ b off cap cc l j s d r k p o f q g n=>grind
  .cases h
 .cases h
theorem JX[aB]: ∀(a ys:List AV),a.length=ys.length->(La a ys).length=a.length/\∀(t:Nat) (z:AV),(La a ys)[t]?=some z->∃x y,a[t]?=some x/\ys[t]?=some y/\z=t9 x y
 | [],[],_=>⟨rfl,λt z h=>by simp[La] at h⟩
 | x::r,y::s,h=>by
  let⟨d,c⟩:=JX r s (by simpa using h);refine⟨by simp[La,d],λt z b=>?_⟩;cases t with
  | zero=>
   simp only[La,List.getElem?_cons_zero,Option.some.injEq] at b;exact⟨x,y,rfl,rfl,b.symm⟩
  | succ t=>
   exact c t z b
 | [],_::_,h=>by simp at h
 | _::_,[],h=>by simp at h
theorem aCQ[aB]{c c':bV}{d ys:List AV}{tv:Array Value}(f:d.length=ys.length)(h:TR (aG T) c d tv\/TR (aG T) c ys tv): TR (aG T) c' (La d ys) tv:=by
 let⟨l,o⟩:=JX d ys f;have e:d.length=tv.size:=by rcases h with h | h;exact h.1;rw[f];exact h.1
 refine⟨l.trans e,λt z j=>?_⟩;obtain⟨x,y,k,i,rfl⟩:=o t z j;have g:∃v,tv[t]?=some v/\(RV (aG T) c x v\/RV (aG T) c y v):=by
  rcases h with h | h
  .let⟨v,b,a⟩:=h.2 t x k;exact⟨v,b,.inl a⟩
  .let⟨v,b,a⟩:=h.2 t y i;exact⟨v,b,.inr a⟩
 let⟨v,b,a⟩:=g;refine⟨v,b,?_⟩;unfold t9;split
 .rename_i m;split
  .rename_i n;rcases a with a | a
   .exact x8 m a
   .exact x8 n a
  .exact RV.undef _
 .exact RV.undef _
theorem J3[aB]{FT:Nat->Option Nat}{c b:bV}(l:bJ FT c)(d:bJ FT b)(h:bG c.H.length c b): ∃a,a.w=b.w/\a.H=c.H/\bG c.H.length c a/\bJ FT a:=by
 let⟨a,g,k,n,m,_⟩:=pT (live:=none) (tr:=true) (tm:=[]) (tv:=#[]) l d h (Nat.le_refl _) ⟨rfl,λt x f=>by simp at f⟩;refine⟨a,g,?_,n,m⟩;rw[k];simp only[bX,if_true];apply List.ext_getElem?;intro i;have e:(b.H.take c.H.length).drop c.H.length=[]:=List.drop_eq_nil_of_le (by simp;omega);rw[e,List.map_nil,List.append_nil,List.getElem?_take];split
 .rename_i j;exact (h.floor i j).1
 .grind
theorem u9[aB]{c:bV}{tm:List AV}{t:Nat}{v:AV}{H':aM}(hs:bJ (aG T) c)(he:aI P cf fl (.freeze<|.tmp t) tm c.H=some (v,H')): ∃c',c'.w=c.w/\c'.H=H'/\bG fl c c'/\bJ (aG T) c'/\∀cv,RV (aG T) c (aC tm<|.tmp t) cv->RV (aG T) c' v cv:=by
 simp only[aI] at he
 split at he
 .rename_i id tot off len hx
  split at he
  .rename_i hle
   split at he
   .rename_i s es hob
    split at he
    .rename_i htot
     cases he
     exact⟨frz c id s es,rfl,rfl,nP hle hob,Ba hs hob,λcv hcv=>LZ hs hob htot<|by rw[hx] at hcv;exact hcv⟩
    .cases he
   .cases he
  .cases he
 .rename_i id tot idx off hx
  split at he
  .rename_i hle
   split at he
   .rename_i s es hob
    split at he
    .rename_i htot
     split at he
     .rename_i e hi
      cases he
      exact⟨frz c id s es,rfl,rfl,nP hle hob,Ba hs hob,λcv hcv=>LY hs hob htot hi<|by rw[hx] at hcv;exact hcv⟩
     .cases he
    .cases he
   .cases he
  .cases he
 .cases he
  exact⟨c,rfl,rfl,bG.refl _ _,hs,λ_ h=>h⟩
theorem dQ[aB](hm:P.follows .mixedOrders=true)(hfo:gW cf)(hcf:lP P T cf)(hfn:fW P T): ∀(ac:bI) (code:Code),eW P T ac code=true->PJ P T fl (cH P cf lf fl ac) code
 | .skip,code,hchk=>by
  cases code<;>simp only[eW,Bool.false_eq_true] at hchk
  .intro c a tm x st' Q hs htr hfl hev hQ
   simp only[cH,Option.some.injEq,Prod.mk.injEq] at hev
   let⟨rfl,rfl⟩:=hev
   exact wp_skip<|hQ a c rfl (bG.refl _ _) hs htr rfl
  .intro c a tm x st' Q hs htr hfl hev hQ
   simp only[cH,Option.some.injEq,Prod.mk.injEq] at hev
   let⟨rfl,rfl⟩:=hev
   exact wp_label<|hQ a c rfl (bG.refl _ _) hs htr rfl
 | .scope p,code,hchk=>by
  cases code<;>try (simp only[eW,Bool.false_eq_true] at hchk;done)
  rename_i p'
  simp only[eW] at hchk
  have hp:=dQ hm hfo hcf hfn p p' hchk
  intro c a tm x st' Q hs htr hfl hev hQ
  simp only[cH] at hev
  refine wp_scope_straight<|hp c a tm x st' _ hs htr hfl hev ?_
  intro a' c' e1 e2 e3 e4 e5
  have:=hQ a' c' e1 e2 e3 e4 e5
  cases x<;>exact this
 | .nilIf t d0 d1 p q,code,hchk=>by
  cases code<;>try (simp only[eW,Bool.false_eq_true] at hchk;done)
  rename_i l q'
  cases l<;>try (simp only[eW,Bool.false_eq_true] at hchk;done)
  rename_i r cd
  cases r<;>try (simp only[eW,Bool.false_eq_true] at hchk;done)
  rename_i id ops draw
  cases cd<;>try (simp only[eW,Bool.false_eq_true] at hchk;done)
  rename_i k p' sk
  cases k<;>try (simp only[eW,Bool.false_eq_true] at hchk;done)
  rename_i e
  cases sk<;>try (simp only[eW,Bool.false_eq_true] at hchk;done)
  simp only[eW,Bool.and_eq_true,Bool.not_eq_true',beq_iff_eq] at hchk
  obtain⟨⟨⟨⟨rfl,rfl⟩,ho⟩,hcp⟩,hcq⟩:=hchk
  have hp:=dQ hm hfo hcf hfn p p' hcp
  have hq:=dQ hm hfo hcf hfn q q' hcq
  split at ho
  .rename_i o1 o2 hops
   simp only[Bool.and_eq_true] at ho
   intro c a tm x st' Q hs htr hfl hev hQ
   simp only[cH] at hev
   split at hev
   .rename_i hd0
    simp only[Bool.and_eq_true] at hd0
    have hd0':d0<tm.length:=Nat.le_of_ble_eq_true hd0.1
    have hd1':e<tm.length:=Nat.le_of_ble_eq_true hd0.2
    have h3:Yk c.H (aC tm<|.tmp t)≠3:=by
     intro h
     rw[h] at hev
     cases hev
    refine wp_seq<|wp_seq<|G9 hcf hfn hops ho.1 ho.2 hs htr hfl hd0' h3 ?_
    intro b a' c' hb0 hb1 e1 e2 e3 e4 e5
    have hval:a'.eval (.tmp e)=.bool b:=by
     let⟨v,k1,k2⟩:=e4.2 e (.lit<|.bool b)<|by simp[vX,hd1']
     simp only[Act.eval,Array.getD_eq_getD_getElem?,k1,Option.getD_some,k2.lit_inv]
    have e6:∀tm':List AV,(⟨tm',c'.H⟩:St)=⟨tm',c.H⟩:=λtm'=>by rw[e1]
    have joined:∀(pc:bI) (tm':List AV) (sa sb:St) (code:Code) (Q':Exit->Act->World->Prop),PJ P T fl (cH P cf lf fl pc) code->fl=c.H.length->sa.tmps.length=sb.tmps.length->
     (cH P cf lf fl pc ⟨tm',c.H⟩=some (.ret,sa)\/cH P cf lf fl pc ⟨tm',c.H⟩=some (.ret,sb))->TR (aG T) c' tm' a'.tmps->x=.ret->st'=⟨La sa.tmps sb.tmps,c.H⟩->(∀a w,Q .ret a w->Q' .ret a w)->code.wp P Q' a' c'.w:=by
     intro pc tm' sa sb code Q' hok hflc hlen hor htr' hx hst hQ'
     subst hx hst
     have key:∀(s:St),cH P cf lf fl pc ⟨tm',c.H⟩=some (.ret,s)->(s=sa\/s=sb)->code.wp P Q' a' c'.w:=by
      intro s hes hss
      refine hok c' a' tm' .ret s Q' e3 htr' (Nat.le_trans hfl e2.len) (by rw[e6];exact hes) ?_
      intro a'' c'' k1 k2 k3 k4 k5
      have hst2:=e2.trans k2
      rw[hflc] at hst2
      let⟨c2,m1,m2,m3,m4⟩:=J3 hs k3 hst2
      rw[<-hflc] at m3
      have:=hQ a'' c2 m2 m3 m4 (aCQ hlen<|by rcases hss with rfl | rfl;exact .inl k4;exact .inr k4)<|k5.trans e5
      rw[m1] at this
      exact hQ' _ _ this
     rcases hor with h | h
     .grind
     .grind
    show (Code.cond (.tmp e) p' .skip).wp P _ a' c'.w
    cases b with
    | true=>
     refine wp_cond_true hval ?_
     split at hev
     .rename_i hk
      unfold Ht at hev
      split at hev
      .rename_i x1 s1 he
       split at hev
       .grind
       .rename_i hne
        cases hev
        refine hp c' a' _ x st' _ e3 e4 (Nat.le_trans hfl e2.len) (by rw[e6];exact he) ?_
        intro a'' c'' k1 k2 k3 k4 k5
        have:=hQ a'' c'' k1 (e2.trans k2) k3 k4<|k5.trans e5
        cases x with
        | normal=>grind
        | exit i=>exact this
        | ret=>exact this
      .grind
     .grind
     .rename_i hk
      split at hev
      .rename_i hb
       unfold TB at hev
       split at hev
       .rename_i sa sb h1 h2
        split at hev
        .rename_i hl
         cases hev
         exact joined p _ sa sb p' _ hp (Nat.eq_of_beq_eq_true hb) (Nat.eq_of_beq_eq_true hl) (.inl h1) e4 rfl rfl λa w h=>h
        .grind
       .grind
      .grind
     .grind
    | false=>
     refine wp_cond_false hval<|wp_skip ?_
     show q'.wp P Q a' c'.w
     split at hev
     .grind
     .rename_i hk
      refine hq c' a' _ x st' _ e3 e4 (Nat.le_trans hfl e2.len) (by rw[e6];exact hev) ?_
      intro a'' c'' k1 k2 k3 k4 k5
      exact hQ a'' c'' k1 (e2.trans k2) k3 k4<|k5.trans e5
     .rename_i hk
      split at hev
      .rename_i hb
       unfold TB at hev
       split at hev
       .rename_i sa sb h1 h2
        split at hev
        .rename_i hl
         cases hev
         exact joined q _ sa sb q' _ hq (Nat.eq_of_beq_eq_true hb) (Nat.eq_of_beq_eq_true hl) (.inr h2) e4 rfl rfl λa w h=>h
        .cases hev
       .cases hev
      .cases hev
     .cases hev
   .cases hev
  .cases ho
 | .frz t q,code,hchk=>by
  have hq:=dQ hm hfo hcf hfn q code<|by cases code<;>(simp only[eW] at hchk;exact hchk)
  intro c a tm x st' Q hs htr hfl hev hQ
  simp only[cH] at hev
  split at hev
  .rename_i v H' he
   let⟨c',k1,k2,k3,k4,k5⟩:=u9 hs he
   have htr':TR (aG T) c' (tm.set t v) a.tmps:=by
    refine⟨by simpa using htr.1,λu y hy=>?_⟩
    rw[List.getElem?_set] at hy
    split at hy
    .rename_i hut
     subst hut
     split at hy
     .rename_i hlt
      cases hy
      let⟨cv,g1,g2⟩:=htr.2 t tm[t]<|List.getElem?_eq_getElem hlt
      refine⟨cv,g1,k5 cv ?_⟩
      simp only[aC,List.getElem?_eq_getElem hlt]
      exact g2
     .cases hy
    .let⟨cv,g1,g2⟩:=htr.2 u y hy
     exact⟨cv,g1,g2.step k3⟩
   have:=hq c' a (tm.set t v) x st' Q k4 htr' (Nat.le_trans hfl k3.len) (by rw[k2];exact hev) λa' c'' e1 e2 e3 e4 e5=>hQ a' c'' e1 (k3.trans e2) e3 e4 e5
   rwa [k1] at this
  .cases hev
 | .stop,code,hchk=>by
  intro c a tm x st' Q hs htr hfl hev hQ
  simp only[cH] at hev
  cases hev
 | .mask lx lr tr q,code,hchk=>by
  have hq:=dQ hm hfo hcf hfn q code<|by cases code<;>(simp only[eW] at hchk;exact hchk)
  intro c a tm x st' Q hs htr hfl hev hQ
  simp only[cH,qJ] at hev
  split at hev
  .rename_i x1 st1 he
   have key:∀y,st'=bX (some lx) tr fl c.H.length st1->cH P cf lf fl q ⟨tm,c.H⟩=some (y,st1)->x=y->code.wp P Q a c.w:=by
    intro y e he e'
    subst e e'
    refine hq c a tm x st1 Q hs htr hfl he ?_
    intro a' c' e1 e2 e3 e4 e5
    let⟨c2,h1,h2,h3,h4,h5⟩:=pT (live:=some lx) (tr:=tr) hs e3 e2 hfl e4
    have e6:(⟨st1.tmps,c'.H⟩:St)=st1:=by rw[e1]
    rw[e6] at h2 h5
    have:=hQ a' c2 h2 h3 h4 h5 e5
    rwa [h1] at this
   split at hev
   .simp only[Option.some.injEq,Prod.mk.injEq] at hev
    let⟨rfl,rfl⟩:=hev
    refine hq c a tm .ret st1 Q hs htr hfl he ?_
    intro a' c' e1 e2 e3 e4 e5
    exact hQ a' c' e1 e2 e3 (sT lr _ _ e4) e5
   .simp only[Option.some.injEq,Prod.mk.injEq] at hev
    let⟨rfl,rfl⟩:=hev
    exact key .normal rfl he rfl
   .rename_i i
    simp only[Option.some.injEq,Prod.mk.injEq] at hev
    let⟨rfl,rfl⟩:=hev
    exact key (.exit i) rfl he rfl
  .cases hev
 | .told li lx lr q,code,hchk=>by
  have hq:=dQ hm hfo hcf hfn q code<|by cases code<;>(simp only[eW] at hchk;exact hchk)
  intro c a tm x st' Q hs htr hfl hev hQ
  simp only[cH,qJ] at hev
  split at hev
  .rename_i x1 st1 he
   have key:∀y,st'=bX (some lx) false fl c.H.length st1->cH P cf lf fl q ⟨bS li tm,c.H⟩=some (y,st1)->x=y->code.wp P Q a c.w:=by
    intro y e he e'
    subst e e'
    refine hq c a (bS li tm) x st1 Q hs (sT li tm _ htr) hfl he ?_
    intro a' c' e1 e2 e3 e4 e5
    let⟨c2,h1,h2,h3,h4,h5⟩:=pT (live:=some lx) (tr:=false) hs e3 e2 hfl e4
    have e6:(⟨st1.tmps,c'.H⟩:St)=st1:=by rw[e1]
    rw[e6] at h2 h5
    have:=hQ a' c2 h2 h3 h4 h5 e5
    rwa [h1] at this
   split at hev
   .simp only[Option.some.injEq,Prod.mk.injEq] at hev
    let⟨rfl,rfl⟩:=hev
    refine hq c a (bS li tm) .ret st1 Q hs (sT li tm _ htr) hfl he ?_
    intro a' c' e1 e2 e3 e4 e5
    exact hQ a' c' e1 e2 e3 (sT lr _ _ e4) e5
   .simp only[Option.some.injEq,Prod.mk.injEq] at hev
    let⟨rfl,rfl⟩:=hev
    exact key .normal rfl he rfl
   .rename_i i
    simp only[Option.some.injEq,Prod.mk.injEq] at hev
    let⟨rfl,rfl⟩:=hev
    exact key (.exit i) rfl he rfl
  .cases hev
 | .region draw ck aops,code,hchk=>by
  cases code<;>try (simp only[eW,Bool.false_eq_true] at hchk;done)
  rename_i id ops draw'
  have hd:draw=draw':=by simp only[eW,Bool.and_eq_true,beq_iff_eq] at hchk;exact hchk.1.1
  subst hd
  intro c a tm x st' Q hs htr hfl hev hQ
  simp only[cH] at hev
  split at hev
  .rename_i st1 he
   simp only[Option.some.injEq,Prod.mk.injEq] at hev
   let⟨rfl,rfl⟩:=hev
   exact Bd hm hfo hcf hfn hchk hs htr hfl he hQ
  .cases hev
 | .seq p q,code,hchk=>by
  cases code<;>try (simp only[eW,Bool.false_eq_true] at hchk;done)
  rename_i p' q'
  simp only[eW,Bool.and_eq_true] at hchk
  have hp:=dQ hm hfo hcf hfn p p' hchk.1
  have hq:=dQ hm hfo hcf hfn q q' hchk.2
  intro c a tm x st' Q hs htr hfl hev hQ
  simp only[cH] at hev
  refine wp_seq ?_
  split at hev
  .rename_i st1 he
   refine hp c a tm .normal st1 _ hs htr hfl he ?_
   intro a' c' e1 e2 e3 e4 e5
   show q'.wp P Q a' c'.w
   refine hq c' a' st1.tmps x st' Q e3 e4 (Nat.le_trans hfl e2.len) (by rw[e1];exact hev) ?_
   intro a'' c'' f1 f2 f3 f4 f5
   exact hQ a'' c'' f1 (e2.trans f2) f3 f4<|f5.trans e5
  .rename_i r hne
   refine hp c a tm x st' _ hs htr hfl hev ?_
   intro a' c' e1 e2 e3 e4 e5
   have:=hQ a' c' e1 e2 e3 e4 e5
   cases x with
   | normal=>exact (hne st' hev).elim
   | exit id=>exact this
   | ret=>exact this
 | .cond k p q,code,hchk=>by
  cases code<;>try (simp only[eW,Bool.false_eq_true] at hchk;done)
  rename_i k' p' q'
  simp only[eW,Bool.and_eq_true] at hchk
  have hp:=dQ hm hfo hcf hfn p p' hchk.1.2
  have hq:=dQ hm hfo hcf hfn q q' hchk.2
  intro c a tm x st' Q hs htr hfl hev hQ
  have hk:=aR hs htr hchk.1.1
  simp only[cH] at hev
  split at hev
  .rename_i hb
   rw[hb] at hk
   exact wp_cond_true hk.lit_inv<|hp c a tm x st' Q hs htr hfl hev hQ
  .rename_i hb
   rw[hb] at hk
   exact wp_cond_false hk.lit_inv<|hq c a tm x st' Q hs htr hfl hev hQ
  .cases hev
 | .block i p,code,hchk=>by
  cases code<;>try (simp only[eW,Bool.false_eq_true] at hchk;done)
  rename_i i' p'
  simp only[eW,Bool.and_eq_true,beq_iff_eq] at hchk
  let⟨rfl,hchk⟩:=hchk
  have hp:=dQ hm hfo hcf hfn p p' hchk
  intro c a tm x st' Q hs htr hfl hev hQ
  simp only[cH] at hev
  refine wp_block ?_
  split at hev
  .rename_i j st1 he
   refine hp c a tm (.exit j) st1 _ hs htr hfl he ?_
   intro a' c' e1 e2 e3 e4 e5
   simp only[vD,Exit.inBlock]
   split at hev
   .rename_i hj
    simp only[Option.some.injEq,Prod.mk.injEq] at hev
    let⟨rfl,rfl⟩:=hev
    rw[if_pos hj]
    exact hQ a' c' e1 e2 e3 e4 e5
   .rename_i hj
    simp only[Option.some.injEq,Prod.mk.injEq] at hev
    let⟨rfl,rfl⟩:=hev
    rw[if_neg hj]
    exact hQ a' c' e1 e2 e3 e4 e5
  .rename_i r hne
   refine hp c a tm x st' _ hs htr hfl hev ?_
   intro a' c' e1 e2 e3 e4 e5
   have:=hQ a' c' e1 e2 e3 e4 e5
   cases x with
   | normal=>exact this
   | exit id=>exact (hne id st' hev).elim
   | ret=>exact this
 | .loop live tr p,code,hchk=>by
  cases code<;>try (simp only[eW,Bool.false_eq_true] at hchk;done)
  rename_i p'
  simp only[eW] at hchk
  have hp:=dQ hm hfo hcf hfn p p' hchk
  intro c a tm x st' Q hs htr hfl hev hQ
  simp only[cH] at hev
  exact wp_loop_rounds lf<|DG hp hs hfl hQ lf c a tm hs (bG.refl _ _) htr rfl hev
 | .loopV live lx lr t p,code,hchk=>by
  cases code<;>try (simp only[eW,Bool.false_eq_true] at hchk;done)
  rename_i p'
  simp only[eW] at hchk
  have hp:=dQ hm hfo hcf hfn p p' hchk
  intro c a tm x st' Q hs htr hfl hev hQ
  simp only[cH] at hev
  split at hev
  .rename_i st1 hown
   let⟨c1,h1,h2,h3,h4,h5⟩:=F7 hs htr hown
   unfold SM at hev
   split at hev
   .rename_i x1 st2 he
    have e6:st1=⟨st1.tmps,c1.H⟩:=by rw[h2]
    rw[e6] at he
    have key:∀y,st'=Ox lx t fl c.H.length st2->x1=y->x=y->(Code.loop p').wp P Q a c.w:=by
     intro y e e1 e'
     subst e e1 e'
     rw[<-h1]
     refine wp_loop_rounds lf<|Fg hp (c0:=c) hfl (λd tm tv k1 k2 k3=>Fm hs k1 k2 hfl k3) ?_ lf c1 a _ h4 h3 h5 rfl he
     intro a' c' e1 e2 e3 e4 e5
     let⟨c2,g1,g2,g3,g4,g5⟩:=Fm (live:=lx) (t:=t) hs e3 e2 hfl e4
     have e7:(⟨st2.tmps,c'.H⟩:St)=st2:=by rw[e1]
     rw[e7] at g2 g5
     have:=hQ a' c2 g2 g3 g4 g5 e5
     rwa [g1] at this
    split at hev
    .simp only[Option.some.injEq,Prod.mk.injEq] at hev
     let⟨rfl,rfl⟩:=hev
     rw[<-h1]
     refine wp_loop_rounds lf<|Fg hp (c0:=c) hfl (λd tm tv k1 k2 k3=>Fm hs k1 k2 hfl k3) ?_ lf c1 a _ h4 h3 h5 rfl he
     intro a' c' e1 e2 e3 e4 e5
     exact hQ a' c' e1 e2 e3 (sT lr _ _ e4) e5
    .simp only[Option.some.injEq,Prod.mk.injEq] at hev
     let⟨rfl,rfl⟩:=hev
     exact key .normal rfl rfl rfl
    .rename_i i
     simp only[Option.some.injEq,Prod.mk.injEq] at hev
     let⟨rfl,rfl⟩:=hev
     exact key (.exit i) rfl rfl rfl
   .cases hev
  .cases hev
 | .exit i,code,hchk=>by
  cases code<;>try (simp only[eW,Bool.false_eq_true] at hchk;done)
  rename_i i'
  simp only[eW,beq_iff_eq] at hchk
  subst hchk
  intro c a tm x st' Q hs htr hfl hev hQ
  simp only[cH,Option.some.injEq,Prod.mk.injEq] at hev
  let⟨rfl,rfl⟩:=hev
  exact wp_exit<|hQ a c rfl (bG.refl _ _) hs htr rfl
 | .ret,code,hchk=>by
  cases code<;>try (simp only[eW,Bool.false_eq_true] at hchk;done)
  intro c a tm x st' Q hs htr hfl hev hQ
  simp only[cH,Option.some.injEq,Prod.mk.injEq] at hev
  let⟨rfl,rfl⟩:=hev
  exact wp_ret<|hQ a c rfl (bG.refl _ _) hs htr rfl
end
section
variable {P:Program}{T:List bK}{cf:Nat->Nat->List AV->aM->Option (AV×aM)}{fl lf:Nat}
theorem Gf[aB](b:gW cf){m:Nat}: ∀(l:List aL) (st st':St),(fl<=m/\m<=st.heap.length)->bE P cf fl l st=some st'->Fr fl m st.heap st'.heap
 | [],st,st',h,a=>by simp only[bE] at a;cases a;exact .refl h
 | o::r,st,st',h,a=>by
  simp only[bE] at a;split at a
  .rename_i c d;have k:=KI b h d;exact k.trans<|Gf b r c st' (Fr.go h k) a
  .cases a
theorem pU[aB]{m:Nat}{live:Option<|List Bool}{tr:Bool}{n:Nat}{st:St}(h:fl<=m/\m<=st.heap.length)(a:fl<=m/\m<=n): Fr fl m st.heap (bX live tr fl n st).heap:=by
 cases tr with
 | false=>exact .refl h
 | true=>
  simp only[bX,if_true];refine⟨?_,by simp;omega⟩;rw[List.take_append_of_le_length<|by simp;omega,List.take_take,Nat.min_self]
theorem DT[aB]{m:Nat}{live:List Bool}{t n:Nat}{st:St}(h:fl<=m/\m<=st.heap.length)(b:fl<=m/\m<=n): Fr fl m st.heap (Ox live t fl n st).heap:=by
 have a:=pU (live:=some live) (tr:=true) h b;unfold Ox;split
 .split
  .split
   .refine⟨?_,by simp;omega⟩;simp only;rw[List.append_assoc,List.take_append_of_le_length<|by simp;omega,List.take_take,Nat.min_self]
   .exact a
  .exact a
 .exact a
theorem Uz[aB]{m:Nat}{b:St->St}{step:St->Option (bP×St)}(g:∀st,(fl<=m/\m<=st.heap.length)->Fr fl m st.heap (b st).heap)(d:∀st x st',(fl<=m/\m<=st.heap.length)->step st=some (x,st')->Fr fl m st.heap st'.heap):
 ∀(n:Nat) (st:St) (x:bP) (st':St),(fl<=m/\m<=st.heap.length)->dN b step n st=some (x,st')->Fr fl m st.heap st'.heap
 | 0,_,_,_,_,h=>by cases h
 | n+1,st,x,st',h,a=>by
  simp only[dN] at a;have c:=g st h;split at a
  .rename_i e he;have f:=d _ _ _ (Fr.go h c) he;exact (c.trans f).trans<|Uz g d n e x st' (Fr.go h f) a
  .exact c.trans<|d _ _ _ (Fr.go h c) a
theorem kI[aB](e:gW cf){m:Nat}: ∀(c:bI) (st:St) (x:bP) (st':St),(fl<=m/\m<=st.heap.length)->cH P cf lf fl c st=some (x,st')->Fr fl m st.heap st'.heap
 | .skip,st,x,st',h,d=>by simp only[cH] at d;cases d;exact .refl h
 | .exit _,st,x,st',h,d=>by simp only[cH] at d;cases d;exact .refl h
 | .ret,st,x,st',h,d=>by simp only[cH] at d;cases d;exact .refl h
 | .stop,st,x,st',h,d=>by simp only[cH] at d;cases d
 | .region _ y ops,st,x,st',h,d=>by
  simp only[cH] at d;split at d
  .rename_i g he;cases d;rcases zW e he with ⟨_,k⟩ | ⟨_,_,z,_,k⟩
   .exact Gf e ops st _ h k
   .have a:=Fr.app (L:=[.blk z.length [z.map .lit]]) h;exact a.trans<|Gf e _ _ _ (Fr.go h a) k
  .cases d
 | .seq a b,st,x,st',h,d=>by
  simp only[cH] at d;split at d
  .rename_i g he;have k:=kI e a st _ g h he;exact k.trans<|kI e b g x st' (Fr.go h k) d
  .exact kI e a st x st' h d
 | .cond c a b,st,x,st',h,d=>by
  simp only[cH] at d;split at d
  .exact kI e a st x st' h d
  .exact kI e b st x st' h d
  .cases d
 | .block id c,st,x,st',h,d=>by
  simp only[cH] at d;split at d
  .rename_i i g he;have k:=kI e c st _ g h he;split at d<;>cases d<;>exact k
  .exact kI e c st x st' h d
 | .loop live tr c,st,x,st',h,d=>by
  simp only[cH] at d;exact Uz (λst k=>pU k h) (λst x st' k he=>kI e c st x st' k he) lf st x st' h d
 | .frz t c,st,x,st',h,d=>by
  simp only[cH] at d;split at d
  .rename_i v H he;have k:=OB e h he;exact k.trans<|kI e c _ x st' (Fr.go h k) d
  .cases d
 | .mask n s tr c,st,x,st',h,d=>by
  simp only[cH,qJ] at d;split at d
  .rename_i j g he;have k:=kI e c st _ g h he;split at d
   .cases d;exact k
   .cases d;exact k.trans<|pU (Fr.go h k) h
   .cases d;exact k.trans<|pU (Fr.go h k) h
  .cases d
 | .told w n s c,st,x,st',h,d=>by
  simp only[cH,qJ] at d;split at d
  .rename_i j g he;have k:=kI e c ⟨bS w st.tmps,st.heap⟩ _ g h he;split at d
   .cases d;exact k
   .cases d;exact k.trans<|pU (Fr.go h k) h
   .cases d;exact k.trans<|pU (Fr.go h k) h
  .cases d
 | .scope c,st,x,st',h,d=>by
  simp only[cH] at d;exact kI e c st x st' h d
 | .nilIf t r q a b,st,x,st',h,d=>by
  simp only[cH] at d;split at d
  .split at d
   .unfold Ht at d;split at d
    .rename_i j z he;split at d
     .cases d
     .cases d;exact kI e a ⟨vX st.tmps t r q true,st.heap⟩ _ _ h he
    .cases d
   .exact kI e b ⟨vX st.tmps t r q false,st.heap⟩ _ _ h d
   .split at d
    .unfold TB at d;split at d
     .split at d
      .cases d;exact .refl h
      .cases d
     .cases d
    .cases d
   .cases d
  .cases d
 | .loopV live n s t c,st,x,st',h,d=>by
  simp only[cH] at d;split at d
  .rename_i g f;have o:Fr fl m st.heap g.heap:=by
    unfold l7 at f;split at f
    .split at f
     .rename_i p;split at f
      .split at f
       .cases f;exact (Fr.set h p).trans<|.app<|Fr.go h<|Fr.set h p
       .cases f
      .cases f
     .cases f
    .cases f
   unfold SM at d;split at d
   .rename_i j l he;have u:=Uz (λst k=>DT k h) (λst x st' k he=>kI e c st x st' k he) lf g _ l (Fr.go h o) he;have k:=o.trans u;split at d
    .cases d;exact k
    .cases d;exact k.trans<|DT (Fr.go h k) h
    .cases d;exact k.trans<|DT (Fr.go h k) h
   .cases d
  .cases d
end
theorem Bv[aB](P:Program)(T:List bK)(c:∀cf,gW cf->gW (Co cf)): ∀n,gW<|dK P T n
 | 0=>λ_ _ _ _ _ _ _ _ h=>by cases h
 | n+1=>λfl m vi b H r H' h a=>by
  simp only[dK] at a;split at a
  .rename_i g d;exact c _ (Bv P T c n) fl m vi b H r H' h<|by simp only[Co,d];exact a
  .split at a
   .cases a
   split at a
   .rename_i st he;split at a
    .cases a;exact kI (Bv P T c n) _ _ _ _ h he
    .cases a
   .rename_i st he;split at a
    .cases a;exact kI (Bv P T c n) _ _ _ _ h he
    .cases a
   .cases a
def Wu: Nat->List (Nat×Nat)->Option Nat
 | _,[]=>none
 | v,p::r=>match Nat.beq p.1 v with
  | true=>some p.2
  | false=>Wu v r
def iV[aB](n:Int): Value:=.iface aB.ft (.agg #[.int .i64 n])
def Gv[aB](n:Int): List PanicEntry:=[{ v:=iV n,recovered:=false }]
def aG5[aB](FT:Nat->Option Nat)(c:bV)(r:AV)(e:Ending): Prop:=
 (∃e0 rr v,r=.tup (.lit (.bool false)::e0::rr)/\e=.returned v/\RV FT c (qM rr) v)\/∃n rr,r=.tup (.lit (.bool true)::.lit (.int .i64 n)::rr)/\e=.panicked (Gv n)
def Xu[aB](P:Program)(T:List bK)(cf:CF): Prop:=
 ∀(fl vi vs f:Nat) (args:List AV) (r:AV) (H':aM) (c:bV) (us:Array Value),Wu vi aB.sh=some vs->aG T vi=some f->args.length<=4->cf fl vs args c.H=some (r,H')->bJ (aG T) c->fl<=c.H.length->jQ (aG T) c args us->
  Calls P f us c.w λe w'=>∃c',c'.w=w'/\c'.H=H'/\c'.X=c.X/\bG fl c c'/\bJ (aG T) c'/\aG5 (aG T) c' r e
def o9: Option (AV×aM)->Option (AV×aM)
 | some (r,H)=>match r with
  | .tup vs=>match vs with
   | a::b=>match a with
    | .lit u=>match u with
     | .bool t=>match t with
      | false=>match b with
       | _::rr=>some (qM rr,H)
       | []=>none
      | true=>none
     | _=>none
    | _=>none
   | []=>none
  | _=>none
 | none=>none
theorem CW{q:Option (AV×aM)}{r:AV}{H:aM}(h:o9 q=some (r,H)): ∃e0 rr,q=some (.tup (.lit (.bool false)::e0::rr),H)/\r=qM rr:=by
 unfold o9 at h
 repeat' split at h
 all_goals first | cases h;done | skip
 simp only[Option.some.injEq,Prod.mk.injEq] at h;let⟨e,g⟩:=h;subst e g;exact⟨_,_,rfl,rfl⟩
def uL[aB](cf:CF): CF:=λfl vi args H=>match Wu vi aB.sh with
 | some vs=>match Nat.ble args.length 4 with
  | true=>o9 (cf fl vs args H)
  | false=>none
 | none=>cf fl vi args H
section
variable {P:Program}{T:List bK}{cf:CF}{fl lf:Nat}
theorem aC7[aB](h:lP P T cf)(k:Xu P T cf): lP P T (uL cf):=by
 intro fl vi f args r H' c us e g s l a;unfold uL at e;split at e
 .rename_i vs z;split at e
  .rename_i b;let⟨e0,rr,q,y⟩:=CW e;subst y
   refine (k fl vi vs f args _ H' c us z g (Nat.le_of_ble_eq_true b) q s l a).mono ?_;rintro e w' ⟨c',h1,h2,h3,h4,h5,h6⟩
   rcases h6 with⟨e1,rr',v,d,rfl,m⟩ | ⟨n,rr',d,_⟩
   .simp only[AV.tup.injEq,List.cons.injEq] at d;let⟨_,_,d⟩:=d;subst d;exact⟨v,c',rfl,h1,h2,h3,h4,h5,m⟩
   .simp only[AV.tup.injEq,List.cons.injEq,AV.lit.injEq,Value.bool.injEq] at d;cases d.1
  .cases e
 .exact h fl vi f args r H' c us e g s l a
theorem aC8[aB](h:gW cf): gW (uL cf):=by
 intro fl n vi args H r H' g e;unfold uL at e;split at e
 .split at e
  .let⟨_,_,q,_⟩:=CW e;exact h fl n _ args H _ H' g q
  .cases e
 .exact h fl n vi args H r H' g e
def N4(FT:Nat->Option Nat)(n0:Nat)(c:bV)(tm:List AV)(tv:Array Value): Prop:=n0+3<=tm.length/\TR FT c (tm.take n0) tv
def NJ(n0:Nat)(o:aL): Bool:=(oA o).all λt=>Nat.blt t n0
theorem take_set{α:Type}: ∀(l:List α) (n i:Nat) (x:α),(l.set i x).take n=(l.take n).set i x:=λl n i x=>by rw[List.take_set]
theorem F3(tm:List AV)(d:Option Nat)(x:AV)(n:Nat): (eL tm d x).take n=eL (tm.take n) d x:=by
 cases d with
 | none=>rfl
 | some d=>exact take_set tm n d x
theorem Tq[aB]{n0:Nat}{o:aL}{tm:List AV}{H:aM}{st:St}(h:NJ n0 o=true)(e:bD P cf fl o ⟨tm,H⟩=some st): bD P cf fl o ⟨tm.take n0,H⟩=some ⟨st.tmps.take n0,st.heap⟩/\st.tmps.length=tm.length:=by
 have g:∀t∈oA o,(tm.take n0)[t]?=tm[t]?:=λt m=>by
  have:=List.all_eq_true.1 h t m;rw[List.getElem?_take,if_pos];simpa [Nat.blt_eq] using this
 let⟨x,a,b⟩:=sX g e;rw[b,a,F3];exact⟨rfl,mT _ _ _⟩
theorem qI[aB]{n0:Nat}: ∀{l:List aL}{tm:List AV}{H:aM}{st:St},l.all (NJ n0)=true->bE P cf fl l ⟨tm,H⟩=some st->bE P cf fl l ⟨tm.take n0,H⟩=some ⟨st.tmps.take n0,st.heap⟩/\st.tmps.length=tm.length
 | [],tm,H,st,_,e=>by simp only[bE,Option.some.injEq] at e;subst e;exact⟨rfl,rfl⟩
 | o::r,tm,H,st,h,e=>by
  simp only[List.all_cons,Bool.and_eq_true] at h;simp only[bE] at e;split at e
  .rename_i s k;let⟨a,b⟩:=Tq h.1 k;let⟨d,g⟩:=qI h.2 e;simp only[bE,a];exact⟨d,g.trans b⟩
  .cases e
def dY(n0:Nat)(s:St): St:=⟨s.tmps.take n0,s.heap⟩
theorem Tp[aB]{n0:Nat}: ∀{l:List aL}{tm:List AV}{H:aM}{L:List St},l.all (NJ n0)=true->cM P cf fl l ⟨tm,H⟩=some L->cM P cf fl l ⟨tm.take n0,H⟩=some (L.map (dY n0))
 | [],tm,H,L,_,e=>by simp only[cM,Option.some.injEq] at e;subst e;rfl
 | o::r,tm,H,L,h,e=>by
  simp only[List.all_cons,Bool.and_eq_true] at h;simp only[cM] at e;split at e
  .rename_i s k;split at e
   .rename_i q m;cases e;let⟨a,_⟩:=Tq h.1 k;simp only[cM,a,Tp h.2 m];rfl
   .cases e
  .cases e
theorem Rk[aB]{n0:Nat}{o:aL}{tm:List AV}(h:NJ n0 o=true): cO (tm.take n0) o.guard=cO tm o.guard:=by
 apply Vz;intro t b e;have:=List.all_eq_true.1 h t (by simp[oA,e]);rw[List.getElem?_take,if_pos];simpa [Nat.blt_eq] using this
theorem Fc[aB]{n0:Nat}{o:aL}{tm:List AV}(h:NJ n0 o=true): ∀x∈fP o.op,aC (tm.take n0) x=aC tm x:=by
 apply Br;intro t m;have:=List.all_eq_true.1 h t (by unfold oA;split<;>simp[m]);rw[List.getElem?_take,if_pos];simpa [Nat.blt_eq] using this
theorem Wc[aB]{n0:Nat}{o:aL}{tm:List AV}(h:NJ n0 o=true): bU o.op (tm.take n0)=bU o.op tm:=by
 have g:=Fc (tm:=tm) h;generalize o.op=k at g |-;cases k with
 | call pu vi d=>cases pu<;>simp only[fP] at g<;>simp only[bU,List.map_congr_left g]
 | callS vi d=>simp only[fP] at g;simp only[bU,List.map_congr_left g]
 | callB vi d=>
  simp only[fP] at g;match d,g with
  | [],_=>rfl
  | [x],g=>simp only[bU,g x (by simp)]
  | _::_::_,_=>rfl
 | callv pu x d=>
  simp only[fP] at g;cases pu with
  | false=>rfl
  | true=>
   have q:d.map (aC (tm.take n0))=d.map (aC tm):=List.map_congr_left λy m=>g y (List.mem_cons_of_mem _ m)
   simp only[bU,g x (by simp),q]
 | _=>first | rfl | (simp only[fP,List.mem_cons,List.not_mem_nil,or_false,forall_eq_or_imp,forall_eq,false_imp_iff,implies_true] at g;simp only[bU];first | rfl | rw[g] | rw[g.1]) | (simp only[fP] at g;simp only[bU];rw[g _ (by simp)])
theorem YB[aB]{n0:Nat}{o:aL}{tm:List AV}{n id:Nat}(h:NJ n0 o=true): fQ o.op (tm.take n0) n id=fQ o.op tm n id:=by
 have g:=Fc (tm:=tm) h;generalize o.op=k at g |-;cases k with
 | store _ x v=>simp only[fP] at g;simp only[fQ,g x (by simp)]
 | append _ _ x y=>simp only[fP] at g;simp only[fQ,g x (by simp)]
 | mapUpd _ m k v=>simp only[fP] at g;simp only[fQ,g m (by simp)]
 | _=>rfl
theorem Hx{n0:Nat}{L:List St}{k:Nat}: (L.map (dY n0))[k]?=(L[k]?).map (dY n0):=by simp
theorem WB{n0:Nat}{o:xP}{L:List St}{m id:Nat}: Ea o (L.map (dY n0)) m id=Ea o L m id:=by
 unfold Ea;split
 .rw[Hx,Hx];cases L[m]? with
  | none=>rfl
  | some s=>cases L[m+1]?<;>rfl
 .rfl
theorem ZB[aB]{n0:Nat}{ops:List aL}{L:List St}{k m:Nat}(h:ops.all (NJ n0)=true)(e:De ops L k m=true): De ops (L.map (dY n0)) k m=true:=by
 have g:∀{i:Nat}{o:aL},ops[i]?=some o->NJ n0 o=true:=λa=>List.all_eq_true.1 h _ (List.mem_of_getElem? a)
 unfold De at e |-;rw[Hx,Hx];cases a:ops[k]? with
 | none=>rw[a] at e;cases e
 | some ok=>
  cases b:L[k]? with
  | none=>rw[a,b] at e;cases e
  | some sk=>
   simp only[a,b,Option.map_some,dY,Rk (g a),Wc (g a)] at e |-
   cases q:ops[m]? with
   | none=>simp only[q] at e |-;exact e
   | some om=>
    cases y:L[m]? with
    | none=>simp only[q,y,Option.map_none] at e |-;exact e
    | some sm=>
     simp only[q,y,Option.map_some,dY,Rk (g q),YB (g q),WB] at e |-;exact e
theorem FH[aB]{n0:Nat}{ops:List aL}{L:List St}(h:ops.all (NJ n0)=true): ∀{r:List (Nat×Nat)},oV ops L r=true->oV ops (L.map (dY n0)) r=true
 | [],_=>rfl
 | (k,m)::r,e=>by
  simp only[oV] at e |-;split at e
  .rename_i d;rw[ZB h d];exact FH h e
  .cases e
theorem XY{n0:Nat}{L:List St}{s:St}(h:L.getLast?=some s): (L.map (dY n0)).getLast?=some (dY n0 s):=by
 rw[List.getLast?_map,h];rfl
theorem V2[aB]: ∀{l:List aL}{st:St}{L:List St}{s:St},cM P cf fl l st=some L->L.getLast?=some s->s.tmps.length=st.tmps.length:=by
 intro l st L s h e;have a:=Bu l st L h;rw[e] at a
 have g:∀(l:List aL) (st s:St),bE P cf fl l st=some s->s.tmps.length=st.tmps.length:=by
  intro l;induction l with
  | nil=>intro st s a;simp only[bE,Option.some.injEq] at a;rw[a]
  | cons o r i=>
   intro st s a;simp only[bE] at a;split at a
   .rename_i t k;rw[i t s a];unfold bD at k;split at k
    .split at k
     .cases k;exact mT _ _ _
     .cases k
    .cases k;exact mT _ _ _
    .cases k
   .cases a
 exact g l st s a
theorem T9[aB]{n0:Nat}{ck:List (Nat×Nat)}{ops:List aL}{tm:List AV}{H:aM}{st:St}(hm:vM ck=none)(h:ops.all (NJ n0)=true)(e:eI P cf fl ck ops ⟨tm,H⟩=some st): eI P cf fl ck ops ⟨tm.take n0,H⟩=some ⟨st.tmps.take n0,st.heap⟩/\st.tmps.length=tm.length:=by
 cases ck with
 | nil=>exact qI h e
 | cons c r=>
  unfold eI at e |-;cases hb:Nat.beq c.1 c.2 with
  | true=>simp only[vM,hb] at hm;cases hm
  | false=>
   simp only[hb] at e |-;split at e
   .rename_i L a;rw[Tp h a];simp only;split at e
    .rename_i d;rw[FH h d];simp only;rw[XY e];exact⟨rfl,V2 a e⟩
    .cases e
   .cases e
def Tv: xP->Bool
 | .call _ _ _=>false
 | .callv _ _ _=>false
 | .callF _ _=>false
 | .callT _ _ _=>false
 | .callB _ _=>false
 | .callS _ _=>false
 | _=>true
theorem UC[aB]{cf cf':CF}{o:xP}{tm:List AV}{H:aM}(h:Tv o=true): aI P cf fl o tm H=aI P cf' fl o tm H:=by
 cases o<;>first | rfl | cases h
theorem Ld[aB]{cf cf':CF}{o:aL}{st:St}(h:Tv o.op=true): bD P cf fl o st=bD P cf' fl o st:=by
 unfold bD;rw[UC (cf':=cf') h]
theorem oI[aB]{cf cf':CF}: ∀{l:List aL}{st:St},l.all (λo=>Tv o.op)=true->bE P cf fl l st=bE P cf' fl l st
 | [],_,_=>rfl
 | o::r,st,h=>by
  simp only[List.all_cons,Bool.and_eq_true] at h;simp only[bE,Ld (cf':=cf') h.1];split
  .exact oI h.2
  .rfl
theorem Lb[aB]{cf cf':CF}: ∀{l:List aL}{st:St},l.all (λo=>Tv o.op)=true->cM P cf fl l st=cM P cf' fl l st
 | [],_,_=>rfl
 | o::r,st,h=>by
  simp only[List.all_cons,Bool.and_eq_true] at h;simp only[cM,Ld (cf':=cf') h.1];split
  .rw[Lb (cf':=cf') h.2]
  .rfl
theorem Uy[aB]: ∀{A B:List aL}{st s:St},bE P cf fl (A++B) st=some s->∃m,bE P cf fl A st=some m/\bE P cf fl B m=some s
 | [],B,st,s,h=>⟨st,rfl,h⟩
 | o::r,B,st,s,h=>by
  simp only[List.cons_append,bE] at h;split at h
  .rename_i t e;let⟨m,a,b⟩:=Uy h;exact⟨m,by simp only[bE,e];exact a,b⟩
  .cases h
theorem Ux[aB]: ∀{A B:List aL}{st m s:St},bE P cf fl A st=some m->bE P cf fl B m=some s->bE P cf fl (A++B) st=some s
 | [],B,st,m,s,a,b=>by simp only[bE,Option.some.injEq] at a;subst a;exact b
 | o::r,B,st,m,s,a,b=>by
  simp only[bE] at a;split at a
  .rename_i t e;simp only[List.cons_append,bE,e];exact Ux a b
  .cases a
theorem Hr[aB]{l:List aL}{st:St}{L:List St}(h:cM P cf fl l st=some L): ∃r,L=st::r:=by
 cases l with
 | nil=>simp only[cM,Option.some.injEq] at h;exact⟨[],h.symm⟩
 | cons o r=>
  simp only[cM] at h;split at h
  .split at h
   .rename_i q _;cases h;exact⟨q,rfl⟩
   .cases h
  .cases h
theorem CU[aB]: ∀{A B:List aL}{st:St}{L:List St},cM P cf fl (A++B) st=some L->∃LA m LB,cM P cf fl A st=some LA/\bE P cf fl A st=some m/\cM P cf fl B m=some LB/\L=LA.dropLast++LB/\LA.length=A.length+1
 | [],B,st,L,h=>⟨[st],st,L,rfl,rfl,h,rfl,rfl⟩
 | o::r,B,st,L,h=>by
  simp only[List.cons_append,cM] at h;split at h
  .rename_i t e;split at h
   .rename_i q z;cases h;let⟨LA,m,LB,a,b,d,f,g⟩:=CU z;let⟨w,y⟩:=Hr a;subst y
    exact⟨st::t::w,m,LB,by simp only[cM,e,a],by simp only[bE,e];exact b,d,by rw[f];rfl,by simpa using g⟩
   .cases h
  .cases h
theorem RU[aB]: ∀{A B:List aL}{st m:St}{LA LB:List St},cM P cf fl A st=some LA->bE P cf fl A st=some m->cM P cf fl B m=some LB->cM P cf fl (A++B) st=some (LA.dropLast++LB)
 | [],B,st,m,LA,LB,a,b,d=>by
  simp only[cM,Option.some.injEq] at a;simp only[bE,Option.some.injEq] at b;subst a b;exact d
 | o::r,B,st,m,LA,LB,a,b,d=>by
  simp only[cM] at a;simp only[bE] at b;split at a
  .rename_i t e;split at a
   .rename_i q z;cases a;simp only[e] at b;let⟨w,y⟩:=Hr z;subst y;simp only[List.cons_append,cM,e,RU z b d];rfl
   .cases a
  .cases a
theorem JE[aB]: ∀{l:List aL}{st s:St},bE P cf fl l st=some s->∃L,cM P cf fl l st=some L/\L.getLast?=some s
 | [],st,s,h=>by simp only[bE,Option.some.injEq] at h;subst h;exact⟨[st],rfl,rfl⟩
 | o::r,st,s,h=>by
  simp only[bE] at h;split at h
  .rename_i t e;let⟨L,a,b⟩:=JE h;let⟨w,y⟩:=Hr a;subst y;exact⟨st::t::w,by simp only[cM,e,a],by rw[List.getLast?_cons_cons];exact b⟩
  .cases h
def aCe: List aL->Option (List aL×aL×aL×aL)
 | x::r=>match aCe r with
  | some (A,p)=>some (x::A,p)
  | none=>match r with
   | [y,z]=>some ([],x,y,z)
   | _=>none
 | []=>none
theorem JA: ∀{L A:List aL}{x y z:aL},aCe L=some (A,x,y,z)->L=A++[x,y,z]
 | [],_,_,_,_,h=>by cases h
 | o::r,A,x,y,z,h=>by
  simp only[aCe] at h;split at h
  .rename_i A' p e;simp only[Option.some.injEq,Prod.mk.injEq] at h;let⟨h1,h2⟩:=h;subst h1 h2;rw[JA e];rfl
  .split at h
   .simp only[Option.some.injEq,Prod.mk.injEq] at h;let⟨h1,h2,h3,h4⟩:=h;subst h1 h2 h3 h4;rfl
   .cases h
def aCS(o:aL)(t d i:Nat): Bool:=o.dst==some t&&o.guard.isNone&&match o.op with
 | .extract x j=>match x with
  | .tmp s=>Nat.beq s d&&Nat.beq j i
  | _=>false
 | _=>false
theorem JY{o:aL}{t d i:Nat}(h:aCS o t d i=true): o=⟨some t,.extract (.tmp d) i,none⟩:=by
 unfold aCS at h;let⟨a,b,g⟩:=o;simp only[Bool.and_eq_true,beq_iff_eq,Option.isNone_iff_eq_none] at h;let⟨⟨h1,h2⟩,h3⟩:=h;subst h1 h2;split at h3
 .split at h3
  .simp only[Bool.and_eq_true] at h3;rw[Nat.eq_of_beq_eq_true h3.1,Nat.eq_of_beq_eq_true h3.2]
  .cases h3
 .cases h3
def aCR(o:aL)(d t:Nat): Bool:=match o.guard with
 | none=>match o.dst with
  | some e=>match Nat.beq e d with
   | true=>match o.op with
    | .tail2 x=>match x with
     | .tmp u=>Nat.beq u t
     | _=>false
    | _=>false
   | false=>false
  | none=>false
 | some _=>false
theorem I1{o:aL}{d t:Nat}(h:aCR o d t=true): o=⟨some d,.tail2 (.tmp t),none⟩:=by
 unfold aCR at h;let⟨a,b,g⟩:=o;simp only at h
 split at h
 case h_2=>cases h
 split at h
 case h_2=>cases h
 split at h
 case h_2=>cases h
 rename_i e
 split at h
 case h_2=>cases h
 split at h
 case h_2=>cases h
 rw[Nat.eq_of_beq_eq_true h,Nat.eq_of_beq_eq_true e]
def aAj(n0:Nat)(R:List aL): Option Nat×List aL:=match R with
 | []=>(none,[])
 | o::B=>match o.dst with
  | some d=>match aCR o d n0 with
   | true=>(some d,B)
   | false=>(none,o::B)
  | none=>(none,o::B)
end
section
variable {P:Program}{T:List bK}{cf:CF}{fl lf:Nat}
theorem Bl[aB](h:lP P T cf)(l:fW P T){ops:Array Oper}{Q:Exit->Act->World->Prop}{rest:List Nat}: ∀(aops:List aL) (os:List Oper) (k:Nat) (c:bV) (a:Act) (tm:List AV) (st':St),
 dF P T ops aops os=true->(∀j o,os[j]?=some o->ops[k+j]?=some o)->bJ (aG T) c->TR (aG T) c tm a.tmps->fl<=c.H.length->bE P cf fl aops ⟨tm,c.H⟩=some st'->
 (∀a' c',c'.H=st'.heap->bG fl c c'->bJ (aG T) c'->TR (aG T) c' st'.tmps a'.tmps->a'.defers=a.defers->wpOps P ops Q rest a' c'.w)->wpOps P ops Q (List.range' k aops.length++rest) a c.w
 | [],[],k,c,a,tm,st',_,_,s,f,_,d,n=>by
  simp only[bE,Option.some.injEq] at d;subst d;exact n a c rfl (bG.refl _ _) s f rfl
 | ao::r,o::os,k,c,a,tm,st',b,e,s,f,i,d,n=>by
  simp only[dF,Bool.and_eq_true] at b;simp only[bE] at d;split at d
  .rename_i g x;simp only[List.length_cons,List.range'_succ,List.cons_append,wpOps_cons];refine uK h l s f i (e 0 o<|by simp) b.1 x ?_;intro a' c' t e2 y u z _;have:(⟨g.tmps,c'.H⟩:St)=g:=by rw[t]
   refine Bl h l r os (k+1) c' a' g.tmps st' b.2 (λj p B=>?_) y u (Nat.le_trans i e2.len) (by rw[this];exact d) ?_
   .have:=e (j+1) p (by simpa using B);rwa [show k+(j+1)=k+1+j by omega] at this
   .intro q m f1 f2 A v C;exact n q m f1 (e2.trans f2) A v<|C.trans z
  .cases d
 | [],_::_,_,_,_,_,_,b,_,_,_,_,_,_=>by cases b
 | _::_,[],_,_,_,_,_,b,_,_,_,_,_,_=>by cases b
theorem KY[aB]{ops:Array Oper}{d:Option Nat}{pu:Bool}{vi:Nat}{args:List aQ}{o:Oper}(h:dO P T ops ⟨d,.call pu vi args,none⟩ o=true): d=o.dst/\o.guard=none/\∃f as1 ts,o.op=.call ⟨.value<|.func f,as1,ts⟩/\aG T vi=some f/\dP T args as1.toList=true:=by
 simp only[dO,Bool.and_eq_true,beq_iff_eq] at h;let⟨⟨a,b⟩,e⟩:=h;refine⟨a,?_,?_⟩
 .cases g:o.guard with
  | none=>rfl
  | some q=>rw[g] at b;cases b
 .simp only[bZ] at e;split at e
  .rename_i f as1 ts q;simp only[Bool.and_eq_true,beq_iff_eq] at e;exact⟨f,as1,ts,q,e.1,e.2⟩
  .cases e
theorem RS[aB](hpan:Xu P T cf)(hfn:fW P T){ops:Array Oper}{i vi vs f:Nat}{o:Oper}{args:List aQ}{as1:Array Operand}{ts:Array TypeId}{c:bV}{a:Act}{tm:List AV}{r:AV}{H':aM}{K:Act->World->Prop}{Q:Exit->Act->World->Prop}(ho:ops[i]?=some o)(hop:o.op=.call ⟨.value<|.func f,as1,ts⟩)(hg:o.guard=none)(hft:aG T vi=some f)(hsh:Wu vi aB.sh=some vs)(hargs:dP T args as1.toList=true)(hle:args.length<=4)(hs:bJ (aG T) c)(htr:TR (aG T) c tm a.tmps)(hfl:fl<=c.H.length)(hev:cf fl vs (args.map<|aC tm) c.H=some (r,H'))
 (hk:∀c' v e0 rr,r=.tup (.lit (.bool false)::e0::rr)->c'.H=H'->bG fl c c'->bJ (aG T) c'->RV (aG T) c' (qM rr) v->K (a.put o.dst v) c'.w)
 (hp:∀c' n rr,r=.tup (.lit (.bool true)::.lit (.int .i64 n)::rr)->c'.H=H'->bG fl c c'->bJ (aG T) c'->Q (.panic (Gv n)) a c'.w): wpOp P ops Q i K a c.w:=by
 unfold wpOp;rw[ho];simp only
 have hw:Region.wanted o (yielded ops a.tmps)=true:=by simp[Region.wanted,hg]
 rw[if_pos hw];left
 let⟨fn,B,D,C⟩:=hfn vi f hft
 have e:(execOp a.eval o).run P c.w=(callFunc f (as1.map a.eval)).run P c.w:=by simp[execOp,hop,resolve,Act.eval,Deferred.ofValue,invoke]
 unfold Oper.wp;rw[e,iP B D C]
 have ea:(as1.toList.map a.eval).toArray=as1.map a.eval:=by apply Array.ext';simp
 have ha:=vH hs htr hargs;rw[ea] at ha
 refine (hpan fl vi vs f _ r H' c _ hsh hft (by simpa using hle) hev hs hfl ha).mono ?_
 rintro e w' ⟨c',rfl,h2,_,h4,h5,h6⟩
 rcases h6 with⟨e0,rr,v,hr,rfl,hv⟩ | ⟨n,rr,hr,rfl⟩
 .exact hk c' v e0 rr hr h2 h4 h5 hv
 .exact hp c' n rr hr h2 h4 h5
theorem aCo[aB](hcf:lP P T cf)(hfn:fW P T){ops:Array Oper}{aops:List aL}{sw p:Nat}{tm:List AV}{c0:bV}{ds:List Deferred}{val:Nat->AV}{S:Nat->St}{Q:Exit->Act->World->Prop}(hlen:aops.length=ops.size)(hp:p<ops.size)(hget:∀k o,k<p->ops[k]?=some o->∃ao,aops[k]?=some ao/\dO P T ops ao o=true)(hq:∀k,k<p->bC aops k=true)(hord:sR sw aops (kQ ops.toList ops.size []) ops.size=true)(hback:Ng ops.toList ops.size=true)(hdesc:∀k,p<k->k<ops.size->((kQ ops.toList ops.size []).getD k 0).testBit p=true)(h0:S 0=⟨tm,c0.H⟩)(hS:∀k ao,k<p->aops[k]?=some ao->bD P cf fl ao (S k)=some (S<|k+1))(hval:∀k ao,aops[k]?=some ao->(S<|k+1).tmps=eL (S k).tmps ao.dst (val k))(hfl:fl<=c0.H.length)
 (hpan:∀(a:Act) (c:bV) (K:Act->World->Prop) (tmx:List AV),bJ (aG T) c->bG fl c0 c->c.H=c0.H->a.defers=ds->TR (aG T) c tmx a.tmps->(∀ao,aops[p]?=some ao->∀t∈oA ao,tmx[t]?=(S p).tmps[t]?)->(∀t,(∀k,k<p->sY aops k≠some t)->tmx[t]?=tm[t]?)->wpOp P ops Q p K a c.w):
 ∀(fuel:Nat) (listed:Array Bool) (a:Act) (c:bV),unl ops.size listed<=fuel->listed.size=ops.size->bJ (aG T) c->bG fl c0 c->c.H=c0.H->a.defers=ds->(∀i j,j<ops.size->listed.getD j false=true->((kQ ops.toList ops.size []).getD j 0).testBit i=true->listed.getD i false=true)->(∀j,p<=j->listed.getD j false=false)->TR (aG T) c (fG aops tm val (λj=>listed.getD j false) ops.size) a.tmps->wpAny P .any ops Q fuel listed a c.w:=by
 have h0t:(S 0).tmps=tm:=by rw[h0]
 have hheap:∀k,k<=p->(S k).heap=c0.H:=by
  intro k
  induction k with
  | zero=>intro _;rw[h0]
  | succ k i=>
   intro h
   have hk:k<aops.length:=by omega
   have:=hq k (by omega)
   simp only[bC,List.getElem?_eq_getElem hk] at this
   rw[sW this (hS k _ (by omega) (List.getElem?_eq_getElem hk)),i (by omega)]
 intro fuel
 induction fuel with
 | zero=>
  intro listed a c hu hsz _ _ _ _ _ low _
  exfalso
  have:p∈(List.range ops.size).filter λi=>!listed.getD i true:=by
   simp only[List.mem_filter,List.mem_range,Bool.not_eq_true']
   exact⟨hp,by rw[iN<|by rw[hsz];exact hp];exact low p (Nat.le_refl _)⟩
  unfold unl at hu
  have h2:=List.eq_nil_of_length_eq_zero<|Nat.le_zero.1 hu
  rw[h2] at this
  cases this
 | succ fuel ih=>
  intro listed a c hu hsz hs hst hH hds hcl low htr
  refine⟨λhr=>?_,λk hk=>?_⟩
  .exfalso
   have all:∀j,j<ops.size->listed.getD j false=true:=by
    intro j
    induction j using Nat.strongRecOn with
    | _ j ij=>
     intro hj
     cases hd:listed.getD j false with
     | true=>rfl
     | false=>
      exfalso
      have hmem:j∈Region.ready .any ops listed:=by
       rw[mem_ready]
       refine⟨by rw[iN<|by omega];exact hd,ops[j],by simp,λe he hb=>?_⟩
       have hlt:=Nf hback j ops[j] hj (by simp) e he hb
       exact ij e.on hlt<|by omega
      rw[hr] at hmem
      cases hmem
   have:=all p hp
   rw[low p (Nat.le_refl _)] at this
   cases this
  rw[mem_ready] at hk
  let⟨hk1,o,ho,hedges⟩:=hk
  have hkN:k<ops.size:=(Array.getElem?_eq_some_iff.1 ho).1
  have hkD:listed.getD k false=false:=by rw[<-iN<|by rw[hsz];exact hkN];exact hk1
  have hol:ops.toList[k]?=some o:=by simpa using ho
  have hanc:∀i,((kQ ops.toList ops.size []).getD k 0).testBit i=true->listed.getD i false=true:=by
   intro i hi
   have hi':((kQ ops.toList ops.toList.length []).getD k 0).testBit i=true:=by simpa using hi
   let⟨o',ho',e,he,hb,hlt,hh⟩:=FX (by simpa using hkN) hi'
   rw[hol] at ho'
   cases ho'
   have hde:=hedges e he hb
   rcases hh with rfl | hh
   .exact hde
   .exact hcl i e.on (by omega) hde<|by simpa using hh
  have later:∀j,k<j->j<ops.size->listed.getD j false=true->∃x y,aops[k]?=some x/\aops[j]?=some y/\xI x y=false/\xI y x=false:=by
   intro j hkj hj hD
   rcases eT _ hord k j hkj hj with h | h
   .have:=hcl k j hj hD h
    rw[hkD] at this;cases this
   .exact h.2
  have earlier:∀j,j<k->listed.getD j false=true\/∃x y,aops[j]?=some x/\aops[k]?=some y/\xI x y=false/\xI y x=false:=by
   intro j hj
   rcases eT _ hord j k hj hkN with h | h
   .exact .inl<|hanc j h
   .exact .inr h.2
  have hlook:∀ao,aops[k]?=some ao->∀t∈oA ao,(fG aops tm val (λj=>listed.getD j false) ops.size)[t]?=(S k).tmps[t]?:=by
   intro ao hao t ht
   rw[<-Bs (D:=λj=>decide<|j<k) (n:=ops.size) h0t hval (Nat.le_of_lt hkN) (by omega) (λj hj=>by simpa using hj) λj h1 _=>by simp;omega]
   apply mZ
   intro j hj hd
   by_cases hjk:j<k
   .have:decide (j<k)=true:=by simpa using hjk
    rw[this]
    rcases earlier j hjk with h | ⟨x,y,hx,hy,hc1,hc2⟩
    .exact h
    .exfalso
     rw[hao] at hy
     cases hy
     have hdx:x.dst=some t:=by simpa [sY,hx] using hd
     exact (nA hc1 hdx).1 ht
   .have:decide (j<k)=false:=by simpa using hjk
    rw[this]
    by_cases ej:j=k
    .subst ej;exact hkD
    .cases hDj:listed.getD j false with
     | false=>rfl
     | true=>
      exfalso
      let⟨x,y,hx,hy,hc1,hc2⟩:=later j (by omega) hj hDj
      rw[hao] at hx
      cases hx
      have hdy:y.dst=some t:=by simpa [sY,hy] using hd
      exact (nA hc2 hdy).1 ht
  rcases Nat.lt_trichotomy k p with hkp | hkp | hkp
  .let⟨ao,hao,hok⟩:=hget k o hkp ho
   have hev:=hS k ao hkp hao
   have hdst:sY aops k=ao.dst:=by simp[sY,hao]
   have es:S k=⟨(S k).tmps,(S k).heap⟩:=rfl
   rw[es] at hev
   let⟨x,hx1,hx2⟩:=sX (tm:=fG aops tm val (λj=>listed.getD j false) ops.size) (hlook ao hao) hev
   rw[hheap k (by omega),<-hH] at hx2
   refine uK hcf hfn hs htr (Nat.le_trans hfl hst.len) ho hok hx2 ?_
   intro a' c' e1 e2 e3 e4 e5 _
   have hset:∀j,(listed.setIfInBounds k true).getD j false=if j=k then true else listed.getD j false:=by
    intro j
    by_cases ej:j=k
    .subst ej
     simp[hsz,hkN]
    .rw[getD_set_ne false λe=>ej e.symm,if_neg ej]
   refine ih (listed.setIfInBounds k true) a' c' (by have:=O9 hkN hk1 hsz;omega) (by simpa using hsz) e3 (hst.trans e2) (e1.trans (hheap (k+1) (by omega))) (e5.trans hds) ?_ ?_ ?_
   .intro i j hj hD hb
    rw[hset] at hD |-
    split
    .rfl
    .by_cases ej:j=k
     .subst ej;exact hanc i hb
     .rw[if_neg ej] at hD
      exact hcl i j hj hD hb
   .intro j hj
    rw[hset,if_neg (by omega)];exact low j hj
   .refine⟨by rw[dC,<-e4.1,mT,dC],λt y hy=>?_⟩
    refine e4.2 t y ?_
    rw[<-hy,iS]
    split
    .rename_i hd
     have hdk:sY aops k=some t:=by rw[hdst];exact hd
     rw[dC]
     rw[Mh (k:=k) (by simp[hset]) hdk ops.size hkN]
     .split
      .rename_i hlt
       congr 1
       have h1:(S<|k+1).tmps[t]?=some x:=by rw[hx1,iS,if_pos hd,if_pos<|by rw[<-tI h0t hval k<|by omega,dC];exact hlt]
       have h2:(S<|k+1).tmps[t]?=some (val k):=by rw[hval k ao hao,iS,if_pos hd,if_pos<|by rw[<-tI h0t hval k<|by omega,dC];exact hlt]
       rw[h1] at h2
       exact Option.some.inj h2
      .rfl
     .intro j h1 h2 h3
      rw[hset,if_neg<|by omega]
      cases hDj:listed.getD j false with
      | false=>rfl
      | true=>
       exfalso
       let⟨x',y',hx',hy',hc1,hc2⟩:=later j h1 h2 hDj
       rw[hao] at hx'
       cases hx'
       have hdy:y'.dst=some t:=by simpa [sY,hy'] using h3
       exact (nA hc1 hd).2 hdy
    .rename_i hd
     apply mZ
     intro j hj hdj
     rw[hset]
     by_cases ej:j=k
     .subst ej
      rw[hdst] at hdj
      exact (hd hdj).elim
     .rw[if_neg ej]
  .subst hkp
   refine hpan a c _ _ hs hst hH hds htr hlook ?_
   intro t ht
   have e0:fG aops tm val (λ_=>false) ops.size=tm:=mY ops.size (Nat.zero_le _) λj _ _=>rfl
   rw[show tm[t]?=(fG aops tm val (λ_=>false) ops.size)[t]? by rw[e0]]
   apply mZ
   intro j hj hd
   rcases Nat.lt_or_ge j k with h | h
   .exact (ht j h hd).elim
   .exact low j h
  .exfalso
   have:=hanc p (hdesc k hkp hkN)
   rw[low p (Nat.le_refl _)] at this
   cases this
end
section
variable {P:Program}{T:List bK}{cf:CF}{fl lf:Nat}
theorem Id[aB]{t:Nat}: ∀{l:List aL}{st s:St},bE P cf fl l st=some s->(∀o∈l,o.dst≠some t)->s.tmps[t]?=st.tmps[t]?
 | [],st,s,h,_=>by simp only[bE,Option.some.injEq] at h;rw[h]
 | o::r,st,s,h,g=>by
  simp only[bE] at h;split at h
  .rename_i m e;rw[Id h λo' k=>g o' (by simp[k])]
   have g0:=g o (by simp);have q:∀x,(eL st.tmps o.dst x)[t]?=st.tmps[t]?:=λx=>by rw[iS,if_neg g0]
   unfold bD at e;split at e
   .split at e
    .cases e;exact q _
    .cases e
   .cases e;exact q _
   .cases e
  .cases h
def R5(A:List aL)(K:List Nat): Bool:=A.all λo=>match o.dst with
 | some d=>!K.contains d
 | none=>true
theorem Wf{A:List aL}{K:List Nat}(h:R5 A K=true){t:Nat}(k:t∈K): ∀o∈A,o.dst≠some t:=by
 intro o m e;have:=List.all_eq_true.1 h o m;rw[e] at this;simp at this;exact this k
structure fF where
 A:List aL
 vi:Nat
 vs:Nat
 args:List aQ
 dst:Option Nat
 B:List aL
def fF.call(p:fF): aL:=⟨p.dst,.call false p.vi p.args,none⟩
def fF.full(p:fF): List aL:=p.A++p.call::p.B
def fF.callS(p:fF)(n0:Nat): aL:=⟨some n0,.call false p.vs p.args,none⟩
def fF.L(p:fF)(n0:Nat): List aL:=p.A++[p.callS n0,⟨some (n0+1),.extract (.tmp n0) 0,none⟩,⟨some (n0+2),.extract (.tmp n0) 1,none⟩]
def fF.R(p:fF)(n0:Nat): List aL:=match p.dst with
 | some d=>⟨some d,.tail2 (.tmp n0),none⟩::p.B
 | none=>p.B
def VE(ops:Array Oper)(p:Nat): Bool:=(List.range ops.size).all λk=>Nat.ble k p||((kQ ops.toList ops.size []).getD k 0).testBit p
def g9(aops:List aL)(p:Nat): Bool:=(List.range p).all λk=>bC aops k
def fF.ok[aB](P:Program)(T:List bK)(n0:Nat)(K:List Nat)(ck:List (Nat×Nat))(id:Nat)(ops:Array Oper)(draw:Bool)(p:fF): Bool:=
 eW P T (.region draw ck p.full) (.region id ops draw)&&(p.full.all (NJ n0)&&(p.A.all (λo=>Tv o.op)&&(p.B.all (λo=>Tv o.op)&&(Wu p.vi aB.sh==some p.vs&&(R5 p.A K&&(Nat.ble p.args.length 4&&((vM ck).isNone&&((ck.all λq=>Nat.blt q.1 p.A.length&&Nat.beq q.2 p.A.length)&&(!draw||VE ops p.A.length&&g9 p.full p.A.length)))))))))
variable {n0:Nat}{K:List Nat}{ck:List (Nat×Nat)}{id:Nat}{ops:Array Oper}{draw:Bool}{p:fF}
theorem Xh[aB]{t d i:Nat}{st s:St}(h:bD P cf fl ⟨some t,.extract (.tmp d) i,none⟩ st=some s): ∃vs v,aC st.tmps (.tmp d)=.tup vs/\vs[i]?=some v/\s=⟨st.tmps.set t v,st.heap⟩:=by
 simp only[bD,cO,aI] at h;split at h
 .rename_i v H e;split at e
  .rename_i vs a;split at e
   .rename_i w b;cases e;cases h;exact⟨vs,_,a,b,rfl⟩
   .cases e
  .cases e
 .cases h
theorem P5[aB]{t d:Nat}{st s:St}(h:bD P cf fl ⟨some t,.tail2 (.tmp d),none⟩ st=some s): ∃a b rr,aC st.tmps (.tmp d)=.tup (a::b::rr)/\s=⟨st.tmps.set t (qM rr),st.heap⟩:=by
 simp only[bD,cO,aI] at h;split at h
 .rename_i v H e;split at e
  case h_2=>cases e
  rename_i vs a;split at e
  case h_2=>cases e
  split at e
  case h_2=>cases e
  cases e;cases h;exact⟨_,_,_,a,rfl⟩
 .cases h
theorem YI{tm:List AV}[aB]{d:Nat}{v:AV}{vs:List AV}(h:aC (tm.set d v) (.tmp d)=.tup vs): d<tm.length/\v=.tup vs:=by
 simp only[aC] at h;split at h
 .rename_i x e;rw[List.getElem?_set] at e;simp only[if_true] at e;split at e
  .rename_i l;cases e;exact⟨l,h⟩
  .cases e
 .cases h
theorem fF.first[aB]{tm:List AV}{H:aM}{s1:St}{ck:List (Nat×Nat)}(hfo:gW cf)(hm:vM ck=none)(e:eI P cf fl ck (p.L n0) ⟨tm,H⟩=some s1): ∃sA v0 v1 rr H1,bE P cf fl p.A ⟨tm,H⟩=some sA/\cf fl p.vs (p.args.map<|aC sA.tmps) sA.heap=some (.tup (v0::v1::rr),H1)/\n0<sA.tmps.length/\s1=⟨((sA.tmps.set n0 (.tup (v0::v1::rr))).set (n0+1) v0).set (n0+2) v1,H1⟩:=by
 have a:bE P cf fl (p.L n0) ⟨tm,H⟩=some s1:=by
  rcases zW hfo e with⟨_,g⟩ | ⟨_,_,_,_,_⟩
  .exact g
  .simp_all
 unfold fF.L at a;let⟨sA,h1,h2⟩:=Uy a;simp only[bE] at h2;split at h2
 .rename_i sx ex;split at h2
  .rename_i sy ey;split at h2
   .rename_i sz ez;cases h2
    have e1:∃r H1,cf fl p.vs (p.args.map<|aC sA.tmps) sA.heap=some (r,H1)/\sx=⟨sA.tmps.set n0 r,H1⟩:=by
     simp only[fF.callS,bD,cO,aI,kR] at ex;split at ex
     .rename_i r H1 q;cases ex;exact⟨r,H1,q,rfl⟩
     .cases ex
    let⟨r,H1,q,hx⟩:=e1;subst hx
    let⟨vs,v0,b1,b2,b3⟩:=Xh ey;subst b3
    let⟨vs',v1,c1,c2,c3⟩:=Xh ez;subst c3
    let⟨l,hr⟩:=YI b1;subst hr
    have hv:vs'=vs:=by
     simp only[aC,List.getElem?_set,List.length_set] at c1;simp at c1;rw[if_pos l] at c1;simpa using c1.symm
    subst hv
    match vs',b2,c2 with
    | x::y::rr,b2,c2=>
     simp only[List.getElem?_cons_zero,Option.some.injEq] at b2;simp only[List.getElem?_cons_succ,List.getElem?_cons_zero,Option.some.injEq] at c2;subst b2 c2;exact⟨sA,x,y,rr,H1,h1,q,l,rfl⟩
    | [x],b2,c2=>simp at c2
    | [],b2,c2=>simp at b2
   .cases h2
  .cases h2
 .cases h2
theorem Ry{tm:List AV}{r v0 v1:AV}: ((((tm.set n0 r).set (n0+1) v0).set (n0+2) v1).take n0)=tm.take n0:=by
 rw[List.take_set,List.take_set,List.take_set]
 apply List.ext_getElem?;intro i;simp only[List.getElem?_set,List.length_set,List.length_take];repeat' split
 all_goals first | rfl | omega | skip
 all_goals (rw[List.getElem?_take];split<;>first | omega | rfl)
theorem Wz[aB]{tm:List AV}{o:aL}(h:NJ n0 o=true){args:List aQ}{d:Option Nat}{b:Bool}{v:Nat}(e:o=⟨d,.call b v args,none⟩): args.map (aC (tm.take n0))=args.map (aC tm):=by
 subst e;exact List.map_congr_left λx m=>Fc (tm:=tm) h x m
theorem fF.normal[aB]{tm:List AV}{H:aM}{s1 st':St}(hfo:gW cf)(hok:p.ok P T n0 K ck id ops draw=true)(e:eI P cf fl ck (p.L n0) ⟨tm,H⟩=some s1)(hf:s1.tmps[n0+1]?=some (.lit (.bool false)))(e2:bE P cf fl (p.R n0) s1=some st'): eI P (uL cf) fl ck p.full ⟨tm.take n0,H⟩=some ⟨st'.tmps.take n0,st'.heap⟩/\st'.tmps.length=tm.length:=by
 simp only[fF.ok,Bool.and_eq_true,beq_iff_eq,Option.isNone_iff_eq_none] at hok;let⟨_,h1,h2,h3,h4,_,hle,h6,h7,_⟩:=hok
 let⟨sA,v0,v1,rr,H1,a1,a2,a3,a4⟩:=fF.first hfo h6 e
 simp only[fF.full,List.all_append,List.all_cons,Bool.and_eq_true] at h1;let⟨i1,i2,i3⟩:=h1
 let⟨k1,k2⟩:=qI i1 a1
 have hv0:v0=.lit (.bool false):=by
  subst a4;simp only[List.getElem?_set,List.length_set] at hf;simp at hf;exact hf.2
 subst hv0
 have hcall:bD P (uL cf) fl p.call (dY n0 sA)=some ⟨eL (sA.tmps.take n0) p.dst (qM rr),H1⟩:=by
  simp only[fF.call,bD,cO,aI,kR,dY,Wz (o:=p.call) i2 rfl,uL,h4,List.length_map,hle,a2,o9]
 have hB:bE P (uL cf) fl p.B ⟨eL (sA.tmps.take n0) p.dst (qM rr),H1⟩=some ⟨st'.tmps.take n0,st'.heap⟩/\st'.tmps.length=tm.length:=by
  unfold fF.R at e2;cases hd:p.dst with
  | none=>
   rw[hd] at e2;simp only at e2;have es:s1=⟨s1.tmps,s1.heap⟩:=rfl
   rw[es] at e2;let⟨g1,g2⟩:=qI i3 e2;rw[oI (cf':=uL cf) h3] at g1
   subst a4;simp only[Ry] at g1;exact⟨g1,by rw[g2];simp[k2]⟩
  | some d=>
   rw[hd] at e2;simp only[bE] at e2;split at e2
   .rename_i s2 ee;let⟨y0,y1,rv,b1,b3⟩:=P5 ee;subst b3
    have hw:rr=rv:=by
     subst a4;simp only[aC,List.getElem?_set,List.length_set] at b1;simp at b1;rw[if_pos a3] at b1;simp only[AV.tup.injEq,List.cons.injEq] at b1;exact b1.2.2
    subst hw
    let⟨g1,g2⟩:=qI i3 e2;rw[oI (cf':=uL cf) h3] at g1
    subst a4;simp only[take_set,Ry] at g1
    have h5:∀q:List AV,(q.set d (qM rr)).take n0=(q.take n0).set d (qM rr):=λq=>take_set _ _ _ _
    refine⟨?_,by rw[g2];simp[k2]⟩
    have:((((sA.tmps.set n0 (.tup (.lit (.bool false)::v1::rr))).set (n0+1) (.lit (.bool false))).set (n0+2) v1).take n0).set d (qM rr)=(sA.tmps.take n0).set d (qM rr):=by rw[Ry]
    simp only[eL];rw[<-this,<-h5];simp only[take_set] at g1 |-;exact g1
   .cases e2
 have hall:bE P (uL cf) fl p.full ⟨tm.take n0,H⟩=some ⟨st'.tmps.take n0,st'.heap⟩:=by
  unfold fF.full;refine Ux (m:=dY n0 sA) ?_ ?_
  .rw[oI (cf':=cf) h2];exact k1
  .simp only[bE,hcall];exact hB.1
 refine⟨?_,hB.2⟩
 cases ck with
 | nil=>exact hall
 | cons c r=>
  unfold eI at e |-;cases hb:Nat.beq c.1 c.2 with
  | true=>simp only[vM,hb] at h6;cases h6
  | false=>
   simp only[hb] at e |-;split at e
   .rename_i L hL;split at e
    .rename_i hck
     unfold fF.L at hL;let⟨LA,m,LB,b1,b2,b3,b4,b5⟩:=CU hL
     rw[a1] at b2;cases b2
     have g1:=Tp i1 b1;rw[Lb (cf':=uL cf) h2] at g1
     have g2:bE P (uL cf) fl p.A ⟨tm.take n0,H⟩=some (dY n0 sA):=by rw[oI (cf':=cf) h2];exact k1
     let⟨LB',d1,d2⟩:=JE (show bE P (uL cf) fl (p.call::p.B) (dY n0 sA)=some ⟨st'.tmps.take n0,st'.heap⟩ by simp only[bE,hcall];exact hB.1)
     have g3:=RU g1 g2 d1
     have hfull:cM P (uL cf) fl p.full ⟨tm.take n0,H⟩=some ((LA.map (dY n0)).dropLast++LB'):=g3
     rw[hfull];simp only
     have hlast:((LA.map (dY n0)).dropLast++LB').getLast?=some ⟨st'.tmps.take n0,st'.heap⟩:=by
      let⟨w,y⟩:=Hr d1;subst y;rw[List.getLast?_append];simp only[d2,Option.some_or]
     have hckF:oV p.full ((LA.map (dY n0)).dropLast++LB') (c::r)=true:=by
      have key:∀(l:List (Nat×Nat)),(l.all λq=>Nat.blt q.1 p.A.length&&Nat.beq q.2 p.A.length)=true->oV (p.L n0) L l=true->oV p.full ((LA.map (dY n0)).dropLast++LB') l=true:=by
       intro l;induction l with
       | nil=>intro _ _;rfl
       | cons q w ih=>
        intro z1 z2;let⟨k,m⟩:=q;simp only[List.all_cons,Bool.and_eq_true] at z1;let⟨⟨z3,z4⟩,z5⟩:=z1
        have z3:k<p.A.length:=by simpa [Nat.blt_eq] using z3
        have z4:m=p.A.length:=by simpa using z4
        subst z4
        simp only[oV] at z2 |-;split at z2
        .rename_i z6
         have:De p.full ((LA.map (dY n0)).dropLast++LB') k p.A.length=true:=by
          have lA:LA.length=p.A.length+1:=b5
          have q1:(p.L n0)[k]?=p.A[k]?:=by unfold fF.L;rw[List.getElem?_append_left z3]
          have q2:p.full[k]?=p.A[k]?:=by unfold fF.full;rw[List.getElem?_append_left z3]
          have q3:(p.L n0)[p.A.length]?=some (p.callS n0):=by unfold fF.L;rw[List.getElem?_append_right (Nat.le_refl _)];simp
          have q4:p.full[p.A.length]?=some p.call:=by unfold fF.full;rw[List.getElem?_append_right (Nat.le_refl _)];simp
          have q5:L[k]?=LA[k]?:=by rw[b4,List.getElem?_append_left (by simp[lA];exact z3),List.getElem?_dropLast,if_pos (by omega)]
          have q6:((LA.map (dY n0)).dropLast++LB')[k]?=(LA[k]?).map (dY n0):=by rw[List.getElem?_append_left (by simp[lA];exact z3),List.getElem?_dropLast,if_pos (by simp;omega)];simp
          simp only[cM] at b3 d1
          split at b3
          .rename_i sx ex
           split at b3
           .rename_i LB1 eLB
            cases b3
            let⟨w1,y1⟩:=Hr (l:=[⟨some (n0+1),.extract (.tmp n0) 0,none⟩,⟨some (n0+2),.extract (.tmp n0) 1,none⟩]) (show cM P cf fl _ sx=some LB1 from eLB)
            subst y1
            rw[hcall] at d1
            simp only at d1
            split at d1
            .rename_i LB2 eLB2
             cases d1
             let⟨w2,y2⟩:=Hr eLB2
             subst y2
             have hsx:sx.heap=H1:=by
              simp only[fF.callS,bD,cO,aI,kR,a2] at ex;cases ex;rfl
             have q7:L[p.A.length]?=some sA:=by rw[b4,List.getElem?_append_right (by simp[lA])];simp[lA]
             have q8:L[p.A.length+1]?=some sx:=by rw[b4,List.getElem?_append_right (by simp[lA])];simp[lA]
             have q9:((LA.map (dY n0)).dropLast++(dY n0 sA::⟨eL (sA.tmps.take n0) p.dst (qM rr),H1⟩::w2))[p.A.length]?=some (dY n0 sA):=by rw[List.getElem?_append_right (by simp[lA])];simp[lA]
             have q10:((LA.map (dY n0)).dropLast++(dY n0 sA::⟨eL (sA.tmps.take n0) p.dst (qM rr),H1⟩::w2))[p.A.length+1]?=some ⟨eL (sA.tmps.take n0) p.dst (qM rr),H1⟩:=by rw[List.getElem?_append_right (by simp[lA])];simp[lA]
             have hin:∀{o:aL},p.A[k]?=some o->NJ n0 o=true:=λa=>List.all_eq_true.1 i1 _ (List.mem_of_getElem? a)
             unfold De at z6 |-
             rw[q1,q3,q5,q7] at z6
             rw[q2,q4,q6,q9]
             cases hA:p.A[k]? with
             | none=>rw[hA] at z6;cases z6
             | some ok=>
              cases hLk:LA[k]? with
              | none=>rw[hA,hLk] at z6;cases z6
              | some sk=>
               simp only[hA,hLk,Option.map_some,dY,Rk (hin hA),Wc (hin hA)] at z6 |-
               generalize cO sk.tmps ok.guard=W at z6 |-
               generalize bU ok.op sk.tmps=V at z6 |-
               simp only[fF.callS,fF.call,cO,fQ,Ea,ZH,q7,q8,hsx] at z6 |-
               simp only[dY] at q9 q10
               simp only[q9,q10]
               exact z6
            .cases d1
           .cases b3
          .cases b3
         rw[this];exact ih z5 z2
        .cases z2
      exact key _ h7 hck
     rw[hckF];exact hlast
    .cases e
   .cases e
end
section
variable {P:Program}{T:List bK}{cf:CF}{fl lf:Nat}{n0:Nat}{K:List Nat}{ck:List (Nat×Nat)}{id:Nat}{ops:Array Oper}{draw:Bool}{p:fF}
theorem Qu[aB]{ops:Array Oper}: ∀{A B:List aL}{os:List Oper},dF P T ops (A++B) os=true->dF P T ops A (os.take A.length)=true/\dF P T ops B (os.drop A.length)=true
 | [],B,os,h=>⟨by cases os<;>rfl,h⟩
 | a::A,B,[],h=>by cases h
 | a::A,B,o::os,h=>by
  simp only[List.cons_append,dF,Bool.and_eq_true] at h;let⟨x,y⟩:=Qu h.2;simp only[List.length_cons,List.take_succ_cons,List.drop_succ_cons,dF,h.1,x,Bool.and_self,y,and_self]
theorem II{p:Nat}(h:VE ops p=true): ∀k,p<k->k<ops.size->((kQ ops.toList ops.size []).getD k 0).testBit p=true:=by
 intro k a b;have:=List.all_eq_true.1 h k (by simpa using b);simp only[Bool.or_eq_true] at this;rcases this with g | g
 .have:=Nat.le_of_ble_eq_true g;omega
 .exact g
theorem Of{aops:List aL}{p:Nat}(h:g9 aops p=true): ∀k,k<p->bC aops k=true:=λk a=>List.all_eq_true.1 h k (by simpa using a)
def YM(aops:List aL)(S0:Nat->St)(p:Nat): Nat->St
 | 0=>S0 0
 | k+1=>if k<p then S0 (k+1) else ⟨eL (YM aops S0 p k).tmps (sY aops k) .undef,(YM aops S0 p k).heap⟩
theorem Pu{aops:List aL}{S0:Nat->St}{p:Nat}: ∀{k:Nat},k<=p->YM aops S0 p k=S0 k
 | 0,_=>rfl
 | k+1,h=>by simp only[YM,if_pos (show k<p from h)]
theorem BX[aB]: ∀{l:List aL}{st s:St},bE P cf fl l st=some s->(∀o∈l,eR o.op=true)->s.heap=st.heap
 | [],st,s,h,_=>by simp only[bE,Option.some.injEq] at h;rw[h]
 | o::r,st,s,h,g=>by
  simp only[bE] at h;split at h
  .rename_i m e;rw[BX h λo' k=>g o' (by simp[k]),sW (g o (by simp)) e]
  .cases h
theorem fF.panics[aB](hm:P.follows .mixedOrders=true)(hcf:lP P T cf)(hpan:Xu P T cf)(hfn:fW P T){tm:List AV}{c:bV}{a:Act}{sA:St}{v1:AV}{rr:List AV}{H1:aM}{Q:Exit->Act->World->Prop}(hok:p.ok P T n0 K ck id ops draw=true)(hs:bJ (aG T) c)(htr:TR (aG T) c tm a.tmps)(hfl:fl<=c.H.length)(h1:bE P cf fl p.A ⟨tm,c.H⟩=some sA)(h2:cf fl p.vs (p.args.map<|aC sA.tmps) sA.heap=some (.tup (.lit (.bool true)::v1::rr),H1))
 (hQ:∀n a' c' tmx,v1=.lit (.int .i64 n)->c'.H=H1->bG fl c c'->bJ (aG T) c'->TR (aG T) c' tmx a'.tmps->(∀t,(∀o∈p.A,o.dst≠some t)->tmx[t]?=tm[t]?)->a'.defers=a.defers->Q (.panic (Gv n)) a' c'.w): (Code.region id ops draw).wp P Q a c.w:=by
 simp only[fF.ok,Bool.and_eq_true,beq_iff_eq,Option.isNone_iff_eq_none] at hok;let⟨hc,_,_,_,h4,_,hle,_,_,h8⟩:=hok
 have hle:=Nat.le_of_ble_eq_true hle
 simp only[eW,Bool.and_eq_true] at hc;let⟨⟨_,hz⟩,hG⟩:=hc
 have hlen:p.full.length=ops.size:=by simpa using (eV hz).1
 have hpl:p.A.length<ops.size:=by rw[<-hlen];simp[fF.full]
 have hcall:p.full[p.A.length]?=some p.call:=by unfold fF.full;rw[List.getElem?_append_right (Nat.le_refl _)];simp
 have hcallO:∃o,ops[p.A.length]?=some o/\dO P T ops p.call o=true:=by
  have ho:ops[p.A.length]?=some ops[p.A.length]:=by simp
  let⟨ao,g1,g2⟩:=(eV hz).2 p.A.length ops[p.A.length] (by simpa using ho)
  rw[hcall] at g1;cases g1;exact⟨_,ho,g2⟩
 let⟨o,ho,hco⟩:=hcallO
 let⟨_,hg,f,as1,ts,hop,hft,hargs⟩:=KY (show dO P T ops ⟨p.dst,.call false p.vi p.args,none⟩ o=true from hco)
 cases draw with
 | false=>
  refine wp_region ?_
  unfold fF.full at hz
  let⟨z1,_⟩:=Qu hz
  have er:List.range ops.size=List.range' 0 p.A.length++(p.A.length::List.range' (p.A.length+1) p.B.length):=by
   have e1:p.full.length=p.A.length+(p.B.length+1):=by simp[fF.full]
   rw[List.range_eq_range',<-hlen,e1,<-List.range'_append_1];simp[List.range'_succ]
  rw[er]
  refine Bl hcf hfn p.A (ops.toList.take p.A.length) 0 c a tm sA z1 (λj o h=>?_) hs htr hfl h1 ?_
  .rw[List.getElem?_take] at h;split at h
   .simpa using h
   .cases h
  intro a' c' e1 e2 e3 e4 e5
  rw[wpOps_cons]
  refine RS hpan hfn ho hop hg hft h4 hargs hle e3 e4 (Nat.le_trans hfl e2.len) (by rw[e1];exact h2) ?_ ?_
  .intro c2 v e0 r2 hr;simp at hr
  .intro c2 n2 r2 hr g1 g2 g3
   simp only[AV.tup.injEq,List.cons.injEq,true_and] at hr
   exact hQ n2 a' c2 sA.tmps hr.1 g1 (e2.trans g2) g3 (e4.step g2) (λt ht=>Id h1 ht) e5
 | true=>
  simp only[Bool.not_true,Bool.false_or,Bool.and_eq_true] at h8;let⟨h8,h9⟩:=h8
  simp only[Bool.and_eq_true] at hG;let⟨⟨G1,G2⟩,hback⟩:=hG
  have hmk:vM ck=none:=by simp_all
  simp only[aCs,ckK,hmk,Xs,Bool.and_eq_true] at G1;let⟨hord,_⟩:=G1
  let⟨S0,f1,f2,f3⟩:=BB p.A ⟨tm,c.H⟩ sA h1
  let⟨val0,f4⟩:=VW f3
  have hA:∀k,k<p.A.length->p.full[k]?=p.A[k]?:=λk h=>by unfold fF.full;rw[List.getElem?_append_left h]
  have hqA:sA.heap=c.H:=BX h1 λo m=>by
   let⟨k,hk,e⟩:=List.mem_iff_getElem.1 m
   have:=Of h9 k hk
   simp only[bC,hA k hk,List.getElem?_eq_getElem hk] at this;rw[e] at this;exact this
  have J:sN c.w { c.w with drawn:=c.w.drawn+1 }:=⟨rfl,rfl,rfl,rfl,Nat.le_succ _⟩
  have l:=pC (fl:=fl) J
  refine wp_region_any hm ?_
  have v:=WV ops.size
  refine aCo (c0:=⟨{ c.w with drawn:=c.w.drawn+1 },c.X,c.β,c.H⟩) (ds:=a.defers) (tm:=tm) (S:=YM p.full S0 p.A.length) (val:=λk=>if k<p.A.length then val0 k else .undef) (p:=p.A.length) (aops:=p.full) hcf hfn hlen hpl (λk o _ h=>(eV hz).2 k o (by simpa using h)) (Of h9) hord hback (II h8) f1 ?_ ?_ hfl ?_ ops.size (Array.replicate ops.size false) a ⟨{ c.w with drawn:=c.w.drawn+1 },c.X,c.β,c.H⟩ ?_ (by simp) (hs.drawn J) (bG.refl _ _) rfl rfl (λi j _ C _=>by rw[v] at C;cases C) (λj _=>v j) ?_
  .intro k ao hk hao
   rw[Pu (Nat.le_of_lt hk),Pu hk];exact f3 k ao (by rw[<-hA k hk];exact hao)
  .intro k ao hao
   by_cases hk:k<p.A.length
   .rw[Pu (Nat.le_of_lt hk),Pu hk,if_pos hk];exact f4 k ao (by rw[<-hA k hk];exact hao)
   .rw[if_neg hk];simp only[YM,if_neg hk,sY,hao]
  .intro a2 c2 K2 tmx hs2 hst2 hH2 hds htr2 hlk hun
   have eS:(YM p.full S0 p.A.length p.A.length).tmps=sA.tmps:=by rw[Pu (Nat.le_refl _),f2]
   have earg:p.args.map (aC tmx)=p.args.map (aC sA.tmps):=List.map_congr_left<|Br λt ht=>by
    rw[<-eS];exact hlk p.call hcall t (by simpa [fF.call,oA,fP] using ht)
   refine RS hpan hfn ho hop hg hft h4 hargs hle hs2 htr2 (Nat.le_trans hfl hst2.len) (show cf fl p.vs (p.args.map (aC tmx)) c2.H=_ by rw[earg,hH2,<-h2,hqA]) ?_ ?_
   .intro c3 v e0 r2 hr;simp at hr
   .intro c3 n2 r2 hr g1 g2 g3
    simp only[AV.tup.injEq,List.cons.injEq,true_and] at hr
    refine hQ n2 a2 c3 tmx hr.1 g1 (l.trans (hst2.trans g2)) g3 (htr2.step g2) (λt ht=>hun t λk hk e=>?_) hds
    simp only[sY,hA k hk,List.getElem?_eq_getElem hk] at e;exact ht _ (List.getElem_mem hk) e
  .unfold unl;exact Nat.le_trans (List.length_filter_le _ _)<|by simp
  .have A:fG p.full tm (λk=>if k<p.A.length then val0 k else .undef) (λj=>(Array.replicate ops.size false).getD j false) ops.size=tm:=mY ops.size (Nat.zero_le _) λj _ _=>v j
   rw[A];exact htr.step l
end
section
variable {P:Program}{T:List bK}{cf:CF}{fl lf:Nat}
def XR[aB](FT:Nat->Option Nat)(n0:Nat)(K:List Nat)(c:bV)(st:St)(tv:Array Value): bP->Exit->Prop
 | .normal,e=>e=.normal/\N4 FT n0 c st.tmps tv
 | .exit i,e=>e=.exit i/\N4 FT n0 c st.tmps tv
 | .ret,e=>(e=.ret/\st.tmps[n0+1]?=some (.lit (.bool false))/\N4 FT n0 c st.tmps tv)\/∃n tmx,e=.panic (Gv n)/\st.tmps[n0+1]?=some (.lit (.bool true))/\st.tmps[n0+2]?=some (.lit (.int .i64 n))/\TR FT c tmx tv/\∀t∈K,tmx[t]?=st.tmps[t]?
def B3[aB](P:Program)(T:List bK)(fl n0:Nat)(K:List Nat)(ev:St->Option (bP×St))(code:Code): Prop:=
 ∀(c:bV) (a:Act) (tm:List AV) (x:bP) (st':St) (Q:Exit->Act->World->Prop),bJ (aG T) c->N4 (aG T) n0 c tm a.tmps->fl<=c.H.length->ev ⟨tm,c.H⟩=some (x,st')->
  (∀a' c' e,c'.H=st'.heap->bG fl c c'->bJ (aG T) c'->XR (aG T) n0 K c' st' a'.tmps x e->a'.defers=a.defers->Q e a' c'.w)->code.wp P Q a c.w
def sQ: aQ->aQ->Bool
 | .tmp t,.tmp u=>Nat.beq t u
 | .lit a,.lit b=>veq a b
 | _,_=>false
theorem mH{a b:aQ}(h:sQ a b=true): a=b:=by
 unfold sQ at h;split at h
 .rw[Nat.eq_of_beq_eq_true h]
 .rw[AY h]
 .cases h
structure Nj where
 A:List aL
 X:aQ
 d:Nat
def Nj.bld(p:Nj): aL:=⟨some p.d,.build [.int .i64 0] [(0,1,p.X)],none⟩
def Nj.L(p:Nj)(n0:Nat): List aL:=p.A++[⟨some n0,.ibin .eql p.X (.lit (.int .i64 0)),none⟩,⟨some (n0+1),.mov (.lit (.bool true)),none⟩,⟨some (n0+2),.mov p.X,none⟩,p.bld]
def Ou(P:Program)(t:TypeId): Bool:=match P.underlying t with
 | some (.struct _)=>true
 | _=>false
def Nj.ok[aB](P:Program)(T:List bK)(n0:Nat)(K:List Nat)(ops:Array Oper)(p:Nj): Bool:=
 dF P T ops (p.A++[p.bld]) (ops.toList.take (p.A.length+1))&&((p.A++[p.bld]).all (NJ n0)&&(Nat.beq ops.size (p.A.length+3)&&(Ou P aB.ft&&(Nat.blt p.d n0&&match ops[p.A.length+1]?,ops[p.A.length+2]? with
  | some o1,some o2=>o1.guard.isNone&&(o2.guard.isNone&&match o1.op,o2.op,o1.dst with
   | .makeInterface t (.tmp u),.panic (.tmp v),some e=>Nat.beq t aB.ft&&(Nat.beq u p.d&&(Nat.beq v e&&(Nat.blt e n0&&(!K.contains e&&K.all λt=>Nat.blt t n0))))
   | _,_,_=>false)
  | _,_=>false))))
variable {n0:Nat}{K:List Nat}
theorem Xa[aB]{tm tm':List AV}{o:aL}{x:aQ}(h:NJ n0 o=true)(m:x∈fP o.op)(e:tm'.take n0=tm.take n0): aC tm' x=aC tm x:=by
 rw[<-Fc (tm:=tm') h x m,<-Fc (tm:=tm) h x m,e]
theorem tR{tm:List AV}{i:Nat}{x:AV}: (tm.set (n0+i) x).take n0=tm.take n0:=by
 rw[List.take_set]
 apply List.ext_getElem?;intro j;simp only[List.getElem?_set,List.length_take];repeat' split
 all_goals first | rfl | omega | skip
 all_goals (rw[List.getElem?_take];split<;>first | omega | rfl)
theorem Nj.sound[aB](hcf:lP P T cf)(hfn:fW P T){id:Nat}{ops:Array Oper}{p:Nj}{c:bV}{a:Act}{tm:List AV}{st':St}{Q:Exit->Act->World->Prop}(hok:p.ok P T n0 K ops=true)(hs:bJ (aG T) c)(htr:N4 (aG T) n0 c tm a.tmps)(hfl:fl<=c.H.length)(hev:bE P cf fl (p.L n0) ⟨tm,c.H⟩=some st')
 (hQ:∀a' c' e,c'.H=st'.heap->bG fl c c'->bJ (aG T) c'->XR (aG T) n0 K c' st' a'.tmps .ret e->a'.defers=a.defers->Q e a' c'.w): (Code.region id ops false).wp P Q a c.w:=by
 simp only[Nj.ok,Bool.and_eq_true] at hok;let⟨hz,hin,hn,hst,hd,hm⟩:=hok
 have hn:ops.size=p.A.length+3:=Nat.eq_of_beq_eq_true hn
 unfold Nj.L at hev;let⟨sA,h1,h2⟩:=Uy hev
 simp only[List.all_append,List.all_cons,List.all_nil,Bool.and_true,Bool.and_eq_true] at hin;let⟨i1,i2⟩:=hin
 simp only[bE] at h2
 split at h2
 case h_2=>cases h2
 rename_i s1 k1
 split at h2
 case h_2=>cases h2
 rename_i s2 k2
 split at h2
 case h_2=>cases h2
 rename_i s3 k3
 split at h2
 case h_2=>cases h2
 rename_i s4 k4
 simp only[Option.some.injEq] at h2
 subst h2
 have hx:p.X∈fP p.bld.op:=by simp[Nj.bld,fP]
 have hnum:∃n,aC sA.tmps p.X=.lit (.int .i64 n)/\∃v,s1=⟨sA.tmps.set n0 v,sA.heap⟩:=by
  simp only[bD,cO,aI,aC] at k1
  split at k1
  .rename_i v H e
   split at e
   .rename_i k b k' b' e1 e2
    cases e2
    split at e
    .rename_i hk;subst hk
     split at e
     .cases e;cases k1;exact⟨b,e1,_,rfl⟩
     .cases e
    .cases e
   .cases e
  .cases k1
 let⟨n,hX,v,hs1⟩:=hnum
 subst hs1
 simp only[bD,cO,aI,aC,eL,Option.some.injEq] at k2
 subst k2
 have t1:((sA.tmps.set n0 v).set (n0+1) (.lit (.bool true))).take n0=sA.tmps.take n0:=by rw[tR];exact tR (i:=0)
 have hX3:aC ((sA.tmps.set n0 v).set (n0+1) (.lit (.bool true))) p.X=.lit (.int .i64 n):=by rw[Xa i2 hx t1,hX]
 simp only[bD,cO,aI,eL,hX3,Option.some.injEq] at k3
 subst k3
 have t2:(((sA.tmps.set n0 v).set (n0+1) (.lit (.bool true))).set (n0+2) (.lit (.int .i64 n))).take n0=sA.tmps.take n0:=by rw[tR,t1]
 have hX4:aC (((sA.tmps.set n0 v).set (n0+1) (.lit (.bool true))).set (n0+2) (.lit (.int .i64 n))) p.X=.lit (.int .i64 n):=by rw[Xa i2 hx t2,hX]
 have k4':=k4
 simp only[Nj.bld,bD,cO,aI,List.map_cons,List.map_nil,hX4,Ct,cellsOf,aY,aU,eL] at k4
 simp at k4
 let⟨j1,j2⟩:=qI i1 h1
 let⟨j3,_⟩:=Tq i2 k4'
 rw[t2] at j3
 have hall:bE P cf fl (p.A++[p.bld]) ⟨tm.take n0,c.H⟩=some ⟨s4.tmps.take n0,s4.heap⟩:=Ux j1 (by simp only[bE,j3])
 split at hm
 case h_2=>cases hm
 rename_i o1 o2 q1 q2
 simp only[Bool.and_eq_true,Option.isNone_iff_eq_none] at hm;let⟨g1,g2,hm⟩:=hm
 split at hm
 case h_2=>cases hm
 rename_i t u w e q3 q4 q5
 simp only[Bool.and_eq_true,Bool.not_eq_true'] at hm;let⟨b1,b2,b3,b4,b5,b6⟩:=hm
 have b1:t=aB.ft:=Nat.eq_of_beq_eq_true b1
 have b2:u=p.d:=Nat.eq_of_beq_eq_true b2
 have b3:w=e:=Nat.eq_of_beq_eq_true b3
 subst b1 b2 b3
 refine wp_region ?_
 have er:List.range ops.size=List.range' 0 (p.A++[p.bld]).length++[p.A.length+1,p.A.length+2]:=by
  have e1:(p.A++[p.bld]).length=p.A.length+1:=by simp
  rw[List.range_eq_range',hn,e1,show p.A.length+3=(p.A.length+1)+2 by omega,<-List.range'_append_1];simp[List.range'_succ]
 rw[er]
 refine Bl hcf hfn (p.A++[p.bld]) (ops.toList.take (p.A.length+1)) 0 c a (tm.take n0) ⟨s4.tmps.take n0,s4.heap⟩ hz (λj o h=>?_) hs htr.2 hfl hall ?_
 .rw[List.getElem?_take] at h;split at h
  .simpa using h
  .cases h
 intro a' c' e1 e2 e3 e4 e5
 have hd:p.d<n0:=by simpa [Nat.blt_eq] using hd
 have l0:n0+3<=sA.tmps.length:=by rw[j2];exact htr.1
 have hs4:s4=⟨(((sA.tmps.set n0 v).set (n0+1) (.lit (.bool true))).set (n0+2) (.lit (.int .i64 n))).set p.d (.agg [.lit (.int .i64 n)]),sA.heap⟩:=k4.symm
 have hdv:(s4.tmps.take n0)[p.d]?=some (.agg [.lit (.int .i64 n)]):=by
  rw[hs4,List.getElem?_take,if_pos hd,List.getElem?_set_self (by simp only[List.length_set];omega)]
 let⟨vd,z1,z2⟩:=e4.2 p.d _ hdv
 obtain⟨cv,val,rfl,z3,z4,z5⟩:=z2.agg_inv
 have hcv:cv=#[.int .i64 n]:=by
  have y1:=z4 0 (.lit (.int .i64 n)) rfl
  have y2:=(z5 0 (.lit (.int .i64 n)) rfl).lit_inv
  rw[y2] at y1
  apply Array.ext'
  apply List.ext_getElem?
  intro i
  cases i with
  | zero=>simpa using y1.1
  | succ i=>
   have:cv.size<=i+1:=by rw[z3];simp
   rw[List.getElem?_eq_none (by simpa using this),List.getElem?_eq_none (by simp)]
 subst hcv
 have hev1:a'.eval (.tmp p.d)=.agg #[.int .i64 n]:=by simp[Act.eval,z1]
 have hstr:∃fs,P.underlying aB.ft=some (.struct fs):=by
  unfold Ou at hst;split at hst
  .rename_i fs h;exact⟨fs,h⟩
  .cases hst
 let⟨fs,hfs⟩:=hstr
 rw[wpOps_cons]
 unfold wpOp;rw[q1];simp only
 rw[if_pos (by simp[Region.wanted,g1])];left
 have r1:(execOp a'.eval o1).run P c'.w=.ok (.value (iV n)) c'.w:=by
  simp[execOp,q3,Instr.makeInterface,hev1,run_underlying hfs,iV]
 unfold Oper.wp;rw[r1,Oper.upon_value,wpOps_cons]
 unfold wpOp;rw[q2];simp only
 rw[if_pos (by simp[Region.wanted,g2])];left
 have hw:w<n0:=by simpa [Nat.blt_eq] using b4
 have hsz:a'.tmps.size=n0:=by
  have y:=e4.1;rw[hs4] at y;simp only[List.length_take,List.length_set] at y;omega
 have hlt:w<a'.tmps.size:=by rw[hsz];exact hw
 have hev2:(a'.put o1.dst (iV n)).eval (.tmp w)=iV n:=by
  rw[q5];simp[Act.put,Act.eval,hlt]
 have r2:(execOp (a'.put o1.dst (iV n)).eval o2).run P c'.w=.halt (.panic (iV n)) c'.w:=by
  unfold iV at hev2 |-;simp[execOp,q4,hev2,Instr.panic,goPanic]
 unfold Oper.wp;rw[r2,Oper.upon_panic]
 have hfl1:s4.tmps[n0+1]?=some (.lit (.bool true)):=by
  rw[hs4];rw[List.getElem?_set_ne (by omega),List.getElem?_set_ne (by omega),List.getElem?_set_self (by simp only[List.length_set];omega)]
 have hfl2:s4.tmps[n0+2]?=some (.lit (.int .i64 n)):=by
  rw[hs4];rw[List.getElem?_set_ne (by omega),List.getElem?_set_self (by simp only[List.length_set];omega)]
 refine hQ _ c' _ e1 e2 e3 (.inr ⟨n,eL (s4.tmps.take n0) o1.dst .undef,rfl,hfl1,hfl2,TR.put e4 (RV.undef _),λt ht=>?_⟩) ((gN _ _ _).trans e5)
 have ht0:t<n0:=by simpa [Nat.blt_eq] using List.all_eq_true.1 b6 t ht
 have hne:w≠t:=λe=>by subst e;simp at b5;exact b5 ht
 rw[iS,q5,if_neg (by simpa using hne),List.getElem?_take,if_pos ht0]
def NU(n0:Nat): List aL:=[⟨some (n0+1),.mov (.lit (.bool false)),none⟩,⟨some (n0+2),.mov (.lit (.int .i64 0)),none⟩]
def aCf: List aL->Option (List aL×aL×aL×aL×aL)
 | x::r=>match aCf r with
  | some (A,p)=>some (x::A,p)
  | none=>match r with
   | [y,z,u]=>some ([],x,y,z,u)
   | _=>none
 | []=>none
theorem JB: ∀{L A:List aL}{x y z u:aL},aCf L=some (A,x,y,z,u)->L=A++[x,y,z,u]
 | [],_,_,_,_,_,h=>by cases h
 | o::r,A,x,y,z,u,h=>by
  simp only[aCf] at h;split at h
  .rename_i A' p e;simp only[Option.some.injEq,Prod.mk.injEq] at h;let⟨h1,h2⟩:=h;subst h1 h2;rw[JB e];rfl
  .split at h
   .simp only[Option.some.injEq,Prod.mk.injEq] at h;let⟨h1,h2,h3,h4,h5⟩:=h;subst h1 h2 h3 h4 h5;rfl
   .cases h
def Wy(o:aL)(t:Nat): Option aQ:=match o.guard with
 | none=>match o.op with
  | .mov x=>match o.dst with
   | some d=>match Nat.beq d t with
    | true=>some x
    | false=>none
   | none=>none
  | _=>none
 | some _=>none
theorem AZ: ∀{a b:List Value},BA a b=true->a=b
 | [],[],_=>rfl
 | a::r,b::s,h=>by simp only[BA,Bool.and_eq_true] at h;rw[AY h.1,AZ h.2]
 | [],_::_,h=>by cases h
 | _::_,[],h=>by cases h
theorem pS{o:aL}{t:Nat}{x:aQ}(h:Wy o t=some x): o=⟨some t,.mov x,none⟩:=by
 unfold Wy at h;let⟨a,b,g⟩:=o;simp only at h;split at h
 .split at h
  .split at h
   .split at h
    .rename_i e;cases h;rw[Nat.eq_of_beq_eq_true e]
    .cases h
   .cases h
  .cases h
 .cases h
def aEz: Nat->List (Nat×Nat)->Option Nat
 | _,[]=>none
 | v,p::r=>match Nat.beq p.2 v with
  | true=>some p.1
  | false=>aEz v r
def XV[aB](n0:Nat)(L R:List aL): Option fF:=match aCe L with
 | some (A,x,y,z)=>match aCS y (n0+1) n0 0&&aCS z (n0+2) n0 1 with
  | true=>match x.guard with
   | none=>match x.op with
    | .call pu vs args=>match pu with
     | false=>match x.dst with
      | some d=>match Nat.beq d n0 with
       | true=>match aEz vs aB.sh with
        | some vi=>some ⟨A,vi,vs,args,(aAj n0 R).1,(aAj n0 R).2⟩
        | none=>none
       | false=>none
      | none=>none
     | true=>none
    | _=>none
   | some _=>none
  | false=>none
 | none=>none
theorem SJ[aB]{L R:List aL}{p:fF}(h:XV n0 L R=some p): L=p.L n0/\R=p.R n0:=by
 unfold XV at h;split at h
 case h_2=>cases h
 rename_i A x y z e
 split at h
 case h_2=>cases h
 rename_i q
 simp only[Bool.and_eq_true] at q
 split at h
 case h_2=>cases h
 rename_i g1
 split at h
 case h_2=>cases h
 rename_i pu vs args g2
 split at h
 case h_2=>cases h
 split at h
 case h_2=>cases h
 rename_i d g3
 split at h
 case h_2=>cases h
 rename_i g4
 split at h
 case h_2=>cases h
 rename_i vi g5
 cases h
 have g4:=Nat.eq_of_beq_eq_true g4
 subst g4
 have hx:x=⟨some d,.call false vs args,none⟩:=by let⟨a,b,c⟩:=x;simp only at g1 g2 g3;rw[g1,g2,g3]
 refine⟨by rw[JA e,JY q.1,JY q.2,hx];rfl,?_⟩
 unfold aAj fF.R
 cases R with
 | nil=>rfl
 | cons o B=>
  simp only;cases hd:o.dst with
  | none=>rfl
  | some t=>
   simp only;cases hE:aCR o t d with
   | true=>simp only;rw[I1 hE]
   | false=>rfl
def aFK(o:aL)(t:Nat): Option aQ:=match o.guard with
 | none=>match o.op with
  | .ibin b x y=>match b with
   | .eql=>match y with
    | .lit u=>match u with
     | .int k n=>match k with
      | .i64=>match decide (n=0) with
       | true=>match o.dst with
        | some d=>match Nat.beq d t with
         | true=>some x
         | false=>none
        | none=>none
       | false=>none
      | _=>none
     | _=>none
    | _=>none
   | _=>none
  | _=>none
 | some _=>none
theorem I4{o:aL}{t:Nat}{x:aQ}(h:aFK o t=some x): o=⟨some t,.ibin .eql x (.lit (.int .i64 0)),none⟩:=by
 unfold aFK at h;let⟨a,b,g⟩:=o;simp only at h
 repeat' split at h
 all_goals first | cases h;done | skip
 rename_i e0 _ _ _ e2
 cases h;rw[Nat.eq_of_beq_eq_true e2,of_decide_eq_true e0]
def aAf(o:aL): Option (Nat×aQ):=match o.guard with
 | none=>match o.op with
  | .build z ps=>match BA z [.int .i64 0] with
   | true=>match ps with
    | [(i,n,x)]=>match Nat.beq i 0&&Nat.beq n 1 with
     | true=>match o.dst with
      | some d=>some (d,x)
      | none=>none
     | false=>none
    | _=>none
   | false=>none
  | _=>none
 | some _=>none
theorem YE{o:aL}{d:Nat}{x:aQ}(h:aAf o=some (d,x)): o=⟨some d,.build [.int .i64 0] [(0,1,x)],none⟩:=by
 unfold aAf at h;let⟨a,b,g⟩:=o;simp only at h
 repeat' split at h
 all_goals first | cases h;done | skip
 rename_i e0 _ _ _ _ _ e2 _ _
 cases h;simp only[Bool.and_eq_true] at e2;rw[Nat.eq_of_beq_eq_true e2.1,Nat.eq_of_beq_eq_true e2.2,AZ e0]
def XU(n0:Nat)(L:List aL): Option Nj:=match aCf L with
 | some (A,w,y,z,b)=>match aFK w n0 with
  | some X1=>match Wy y (n0+1) with
   | some fy=>match sQ fy (.lit (.bool true)) with
    | true=>match Wy z (n0+2) with
     | some X=>match aAf b with
      | some (d,X2)=>match sQ X1 X&&sQ X2 X with
       | true=>some ⟨A,X,d⟩
       | false=>none
      | none=>none
     | none=>none
    | false=>none
   | none=>none
  | none=>none
 | none=>none
theorem SI{L:List aL}{p:Nj}(h:XU n0 L=some p): L=p.L n0:=by
 unfold XU at h
 split at h
 case h_2=>cases h
 rename_i A w y z b e
 split at h
 case h_2=>cases h
 rename_i X1 e1
 split at h
 case h_2=>cases h
 rename_i fy e2
 split at h
 case h_2=>cases h
 rename_i e3
 split at h
 case h_2=>cases h
 rename_i X e4
 split at h
 case h_2=>cases h
 rename_i d X2 e5
 split at h
 case h_2=>cases h
 rename_i e6
 cases h
 simp only[Bool.and_eq_true] at e6
 rw[JB e,I4 e1,pS e2,pS e4,YE e5,mH e3,mH e6.1,mH e6.2];rfl
def aCD(n0:Nat)(lr:List Bool): Bool:=match lr[n0+1]?,lr[n0+2]? with
 | some a,some b=>a&&b
 | _,_=>false
theorem H8{lr:List Bool}(h:aCD n0 lr=true): lr[n0+1]?=some true/\lr[n0+2]?=some true:=by
 unfold aCD at h;split at h
 .rename_i a b u v;simp only[Bool.and_eq_true] at h;rw[u,v,h.1,h.2];exact⟨rfl,rfl⟩
 .cases h
theorem DF: ∀(l:List Bool) (tm:List AV) (i:Nat) (v:AV),l[i]?=some true->tm[i]?=some v->(bS l tm)[i]?=some v
 | [],_,_,_,h,_=>by simp at h
 | b::l,[],_,_,_,h=>by simp at h
 | b::l,x::r,0,v,h,g=>by simp at h g;simp[bS,h,g]
 | b::l,x::r,i+1,v,h,g=>by simp at h g;simpa[bS] using DF l r i v h g
def eJ[aB](P:Program)(T:List bK)(n0:Nat)(K:List Nat): bI->Code->Bool
 | .skip,code=>match code with
  | .skip=>true
  | .label _=>true
  | _=>false
 | .exit i,code=>match code with
  | .exit j=>Nat.beq i j
  | _=>false
 | .scope p,code=>match code with
  | .scope q=>eJ P T n0 K p q
  | _=>false
 | .cond k p q,code=>match code with
  | .cond k' p' q'=>aN T k k'&&((match k with | .tmp t=>Nat.blt t n0 | _=>false)&&(eJ P T n0 K p p'&&eJ P T n0 K q q'))
  | _=>false
 | .block i p,code=>match code with
  | .block j q=>Nat.beq i j&&eJ P T n0 K p q
  | _=>false
 | .loop live tr p,code=>match code with
  | .loop q=>eJ P T n0 K p q
  | _=>false
 | .mask lx lr tr p,code=>aCD n0 lr&&eJ P T n0 K p code
 | .frz t p,code=>Nat.blt t n0&&eJ P T n0 K p code
 | .region d ck l,code=>match code with
  | .region id ops d'=>eW P T (.region d ck l) (.region id ops d')&&(l.all (NJ n0)&&(vM ck).isNone)
  | _=>false
 | .seq p q,code=>match code with
  | .seq p' q'=>eJ P T n0 K p p'&&eJ P T n0 K q q'
  | .ret=>match p,q with
   | .region _ ck l,.ret=>match ck,l with
    | [],[x,y]=>(match Wy x (n0+1),Wy y (n0+2) with
     | some a,some b=>sQ a (.lit (.bool false))&&sQ b (.lit (.int .i64 0))
     | _,_=>false)
    | _,_=>false
   | _,_=>false
  | .region id ops draw=>match p with
   | .region _ ck l=>match q with
    | .ret=>match XU n0 l with
     | some x=>(match ck with | [] => true | _=>false)&&(!draw&&x.ok P T n0 K ops)
     | none=>false
    | .cond k a b=>match k,a,b with
     | .tmp t,.ret,.region _ ck' r=>match XV n0 l r with
      | some x=>Nat.beq t (n0+1)&&((match ck' with | [] => true | _=>false)&&(x.ok P T n0 K ck id ops draw&&K.all λt=>Nat.blt t n0))
      | none=>false
     | _,_,_=>false
    | _=>false
   | _=>false
  | _=>false
 | _,_=>false
theorem tH: ∀(l:List Bool) (tm:List AV),(bS l tm).length=tm.length
 | [],tm=>by cases tm<;>simp[bS]
 | b::l,[]=>rfl
 | b::l,x::r=>by simp[bS,tH l r]
theorem Tw: ∀(l:List Bool) (tm tm':List AV) (t:Nat),tm[t]?=tm'[t]?->(bS l tm)[t]?=(bS l tm')[t]?
 | [],tm,tm',t,h=>by have e:∀v:List AV,bS [] v=v.map λ_=>.undef:=λv=>by cases v<;>rfl
                     rw[e,e,List.getElem?_map,List.getElem?_map,h]
 | b::l,[],[],t,h=>rfl
 | b::l,[],y::s,t,h=>by rw[List.getElem?_nil] at h;have h:=List.getElem?_eq_none_iff.1 h.symm;rw[List.getElem?_eq_none (by simp[bS]),List.getElem?_eq_none (by rw[tH];exact h)]
 | b::l,x::r,[],t,h=>by rw[List.getElem?_nil] at h;have h:=List.getElem?_eq_none_iff.1 h;rw[List.getElem?_eq_none (by rw[tH];exact h),List.getElem?_eq_none (by simp[bS])]
 | b::l,x::r,y::s,0,h=>by simp at h;simp[bS,h]
 | b::l,x::r,y::s,t+1,h=>by simp at h;simpa[bS] using Tw l r s t h
theorem DE: ∀(l:List Bool) (tm:List AV) (n:Nat),(bS l tm).take n=bS l (tm.take n):=by
 intro l tm n;apply List.ext_getElem?;intro t
 rw[List.getElem?_take];split
 .exact Tw l _ _ t (by rw[List.getElem?_take,if_pos (by assumption)])
 .rw[List.getElem?_eq_none];rw[tH];simp;omega
theorem TK{live:Option (List Bool)}{tr:Bool}{fl n:Nat}{tm:List AV}{H:aM}: (bX live tr fl n ⟨tm,H⟩).tmps.take n0=(bX live tr fl n ⟨tm.take n0,H⟩).tmps/\(bX live tr fl n ⟨tm,H⟩).heap=(bX live tr fl n ⟨tm.take n0,H⟩).heap/\(bX live tr fl n ⟨tm,H⟩).tmps.length=tm.length:=by
 have e:(Ff live tm).take n0=Ff live (tm.take n0)/\(Ff live tm).length=tm.length:=by
  cases live with
  | none=>exact⟨rfl,rfl⟩
  | some l=>exact⟨DE l tm n0,tH l tm⟩
 cases tr with
 | false=>simp only[bX];exact⟨e.1,rfl,e.2⟩
 | true=>simp only[bX,if_true,true_and];exact⟨by rw[<-List.map_take,e.1],by rw[List.length_map,e.2]⟩
theorem aEk[aB]{live:Option (List Bool)}{tr:Bool}{c0 c:bV}{tm:List AV}{tv:Array Value}(d:bJ (aG T) c0)(f:bJ (aG T) c)(h:bG fl c0 c)(a:fl<=c0.H.length)(e:N4 (aG T) n0 c tm tv):
 ∃c',c'.w=c.w/\c'.H=(bX live tr fl c0.H.length ⟨tm,c.H⟩).heap/\bG fl c0 c'/\bJ (aG T) c'/\N4 (aG T) n0 c' (bX live tr fl c0.H.length ⟨tm,c.H⟩).tmps tv:=by
 let⟨c',h1,h2,h3,h4,h5⟩:=pT (live:=live) (tr:=tr) d f h a e.2
 let⟨k1,k2,k3⟩:=TK (n0:=n0) (live:=live) (tr:=tr) (fl:=fl) (n:=c0.H.length) (tm:=tm) (H:=c.H)
 exact⟨c',h1,by rw[k2];exact h2,h3,h4,by rw[k3];exact e.1,by rw[k1];exact h5⟩
theorem XR.ne[aB]{c:bV}{st:St}{tv:Array Value}{x:bP}{e:Exit}(h:XR (aG T) n0 K c st tv x e)(k:x≠.normal): e≠.normal:=by
 cases x with
 | normal=>exact (k rfl).elim
 | exit i=>rw[h.1];simp
 | ret=>
  rcases h with⟨rfl,_⟩ | ⟨n,_,rfl,_⟩<;>simp
theorem ZW{Q:Exit->Act->World->Prop}{next:Act->World->Prop}{e:Exit}{a:Act}{w:World}(h:Q e a w)(k:e≠.normal): Exit.then next Q e a w:=by
 cases e<;>first | exact (k rfl).elim | exact h
theorem aEf[aB]{code:Code}{step:St->Option (bP×St)}{live:Option (List Bool)}{tr:Bool}(d:B3 P T fl n0 K step code){c0:bV}(i:bJ (aG T) c0)(f:fl<=c0.H.length){ds:List Deferred}{x:bP}{st':St}{Q:Exit->Act->World->Prop}(v:∀a' c' e,c'.H=st'.heap->bG fl c0 c'->bJ (aG T) c'->XR (aG T) n0 K c' st' a'.tmps x e->a'.defers=ds->Q e a' c'.w)(hx:x≠.normal):
 ∀(n:Nat) (c:bV) (a:Act) (tm:List AV),bJ (aG T) c->bG fl c0 c->N4 (aG T) n0 c tm a.tmps->a.defers=ds->dN (bX live tr fl c0.H.length) step n ⟨tm,c.H⟩=some (x,st')->Code.rounds P code Q n a c.w
 | 0,c,a,tm,_,_,_,_,b=>by cases b
 | n+1,c,a,tm,G,r,s,A,b=>by
  simp only[dN] at b;obtain⟨m,F,D,k,z,C⟩:=aEk (live:=live) (tr:=tr) i G r f s;rw[<-F];have j:(bX live tr fl c0.H.length ⟨tm,c.H⟩)=⟨(bX live tr fl c0.H.length ⟨tm,c.H⟩).tmps,m.H⟩:=by rw[D]
  rw[j] at b;split at b
  .rename_i h he;refine d m a _ .normal h _ z C (Nat.le_trans f k.len) he ?_;intro a' c' e o e2 q u p;have u2:=u.2;have he:=u.1;subst he;refine aEf (live:=live) (tr:=tr) d i f v hx n c' a' h.tmps q (k.trans e2) u2 (p.trans A) ?_;rw[o];exact b
  .refine d m a _ x st' _ z C (Nat.le_trans f k.len) b ?_;intro a' c' e o e2 q u p;exact ZW (v a' c' e o (k.trans e2) q u (p.trans A)) (u.ne hx)
theorem s5{b:St->St}{step:St->Option (bP×St)}: ∀{n:Nat}{st:St}{x:bP}{s:St},dN b step n st=some (x,s)->x≠.normal
 | 0,_,_,_,h=>by cases h
 | n+1,st,x,s,h=>by
  simp only[dN] at h;split at h
  .exact s5 h
  .rename_i k;intro e;subst e;exact k _ h
end
section
variable {P:Program}{T:List bK}{cf:CF}{fl lf:Nat}{n0:Nat}{K:List Nat}
theorem Hy[aB]{tm:List AV}{t:Nat}(h:t<n0): aC (tm.take n0) (.tmp t)=aC tm (.tmp t):=by
 simp only[aC,List.getElem?_take,if_pos h]
theorem s6[aB]{tm:List AV}{t:Nat}{b:Bool}(h:aC tm (.tmp t)=.lit (.bool b)): tm[t]?=some (.lit (.bool b)):=by
 simp only[aC] at h;split at h
 .rename_i v e;rw[e,h]
 .cases h
theorem eY[aB](hm:P.follows .mixedOrders=true)(hfo:gW cf)(hcf:lP P T cf)(hpan:Xu P T cf)(hfn:fW P T): ∀(ac:bI) (code:Code),eJ P T n0 K ac code=true->B3 P T fl n0 K (cH P cf lf fl ac) code
 | .skip,code,hchk=>by
  cases code<;>simp only[eJ,Bool.false_eq_true] at hchk
  .intro c a tm x st' Q hs htr hfl hev hQ
   simp only[cH,Option.some.injEq,Prod.mk.injEq] at hev
   let⟨rfl,rfl⟩:=hev
   exact wp_skip<|hQ a c _ rfl (bG.refl _ _) hs ⟨rfl,htr⟩ rfl
  .intro c a tm x st' Q hs htr hfl hev hQ
   simp only[cH,Option.some.injEq,Prod.mk.injEq] at hev
   let⟨rfl,rfl⟩:=hev
   exact wp_label<|hQ a c _ rfl (bG.refl _ _) hs ⟨rfl,htr⟩ rfl
 | .exit i,code,hchk=>by
  cases code<;>try (simp only[eJ,Bool.false_eq_true] at hchk;done)
  simp only[eJ] at hchk
  have hchk:=Nat.eq_of_beq_eq_true hchk
  subst hchk
  intro c a tm x st' Q hs htr hfl hev hQ
  simp only[cH,Option.some.injEq,Prod.mk.injEq] at hev
  let⟨rfl,rfl⟩:=hev
  exact wp_exit<|hQ a c _ rfl (bG.refl _ _) hs ⟨rfl,htr⟩ rfl
 | .scope p,code,hchk=>by
  cases code<;>try (simp only[eJ,Bool.false_eq_true] at hchk;done)
  rename_i p'
  simp only[eJ] at hchk
  have hp:=eY hm hfo hcf hpan hfn p p' hchk
  intro c a tm x st' Q hs htr hfl hev hQ
  simp only[cH] at hev
  refine wp_scope_straight<|hp c a tm x st' _ hs htr hfl hev ?_
  intro a' c' e e1 e2 e3 e4 e5
  have:=hQ a' c' e e1 e2 e3 e4 e5
  cases x with
  | normal=>rw[e4.1] at this |-;exact this
  | exit id=>rw[e4.1] at this |-;exact this
  | ret=>rcases e4 with⟨rfl,_⟩ | ⟨n,_,rfl,_⟩<;>exact this
 | .cond k p q,code,hchk=>by
  cases code<;>try (simp only[eJ,Bool.false_eq_true] at hchk;done)
  rename_i k' p' q'
  simp only[eJ,Bool.and_eq_true] at hchk
  let⟨h1,h2,h3,h4⟩:=hchk
  have hp:=eY hm hfo hcf hpan hfn p p' h3
  have hq:=eY hm hfo hcf hpan hfn q q' h4
  intro c a tm x st' Q hs htr hfl hev hQ
  have hk:=aR hs htr.2 h1
  cases k<;>try (simp only[Bool.false_eq_true] at h2;done)
  rename_i t
  have ht:t<n0:=by simpa [Nat.blt_eq] using h2
  rw[Hy ht] at hk
  simp only[cH] at hev
  split at hev
  .rename_i hb
   rw[hb] at hk
   exact wp_cond_true hk.lit_inv<|hp c a tm x st' Q hs htr hfl hev hQ
  .rename_i hb
   rw[hb] at hk
   exact wp_cond_false hk.lit_inv<|hq c a tm x st' Q hs htr hfl hev hQ
  .cases hev
 | .block i p,code,hchk=>by
  cases code<;>try (simp only[eJ,Bool.false_eq_true] at hchk;done)
  rename_i i' p'
  simp only[eJ,Bool.and_eq_true] at hchk
  let⟨h1,h2⟩:=hchk
  have h1:=Nat.eq_of_beq_eq_true h1
  subst h1
  have hp:=eY hm hfo hcf hpan hfn p p' h2
  intro c a tm x st' Q hs htr hfl hev hQ
  simp only[cH] at hev
  refine wp_block ?_
  split at hev
  .rename_i j st1 he
   refine hp c a tm (.exit j) st1 _ hs htr hfl he ?_
   intro a' c' e e1 e2 e3 e4 e5
   have e4:=e4
   have he:=e4.1
   subst he
   simp only[Exit.inBlock]
   split at hev
   .rename_i hj
    simp only[Option.some.injEq,Prod.mk.injEq] at hev
    let⟨rfl,rfl⟩:=hev
    rw[if_pos hj]
    exact hQ a' c' _ e1 e2 e3 ⟨rfl,e4.2⟩ e5
   .rename_i hj
    simp only[Option.some.injEq,Prod.mk.injEq] at hev
    let⟨rfl,rfl⟩:=hev
    rw[if_neg hj]
    exact hQ a' c' _ e1 e2 e3 ⟨rfl,e4.2⟩ e5
  .rename_i r hne
   refine hp c a tm x st' _ hs htr hfl hev ?_
   intro a' c' e e1 e2 e3 e4 e5
   have:=hQ a' c' e e1 e2 e3 e4 e5
   cases x with
   | normal=>rw[e4.1] at this |-;exact this
   | exit id=>exact (hne id st' hev).elim
   | ret=>rcases e4 with⟨rfl,_⟩ | ⟨n,_,rfl,_⟩<;>exact this
 | .loop live tr p,code,hchk=>by
  cases code<;>try (simp only[eJ,Bool.false_eq_true] at hchk;done)
  rename_i p'
  simp only[eJ] at hchk
  have hp:=eY hm hfo hcf hpan hfn p p' hchk
  intro c a tm x st' Q hs htr hfl hev hQ
  simp only[cH] at hev
  exact wp_loop_rounds lf<|aEf hp hs hfl hQ (s5 hev) lf c a tm hs (bG.refl _ _) htr rfl hev
 | .mask lx lr tr q,code,hchk=>by
  have hchk:aCD n0 lr=true/\eJ P T n0 K q code=true:=by
   cases code<;>simpa only[eJ,Bool.and_eq_true] using hchk
  let⟨hlr,hchk⟩:=hchk
  have hq:=eY hm hfo hcf hpan hfn q code hchk
  intro c a tm x st' Q hs htr hfl hev hQ
  simp only[cH,qJ] at hev
  split at hev
  .rename_i x1 st1 he
   have key:∀y,y≠.ret->st'=bX (some lx) tr fl c.H.length st1->cH P cf lf fl q ⟨tm,c.H⟩=some (y,st1)->x=y->code.wp P Q a c.w:=by
    intro y hy e he e'
    subst e e'
    refine hq c a tm x st1 Q hs htr hfl he ?_
    intro a' c' e e1 e2 e3 e4 e5
    have e4':N4 (aG T) n0 c' st1.tmps a'.tmps:=by
     cases x with
     | normal=>exact e4.2
     | exit i=>exact e4.2
     | ret=>exact (hy rfl).elim
    let⟨c2,h1,h2,h3,h4,h5⟩:=aEk (live:=some lx) (tr:=tr) hs e3 e2 hfl e4'
    have e6:(⟨st1.tmps,c'.H⟩:St)=st1:=by rw[e1]
    rw[e6] at h2 h5
    have:=hQ a' c2 e h2 h3 h4 (by
     cases x with
     | normal=>exact ⟨e4.1,h5⟩
     | exit i=>exact ⟨e4.1,h5⟩
     | ret=>exact (hy rfl).elim) e5
    rwa [h1] at this
   split at hev
   .simp only[Option.some.injEq,Prod.mk.injEq] at hev
    obtain⟨rfl,rfl⟩:=hev
    refine hq c a tm .ret st1 Q hs htr hfl he ?_
    intro a' c' e e1 e2 e3 e4 e5
    have keep:∀i v,lr[i]?=some true->st1.tmps[i]?=some v->(bS lr st1.tmps)[i]?=some v:=DF lr st1.tmps
    have hl:=H8 hlr
    refine hQ a' c' e e1 e2 e3 ?_ e5
    rcases e4 with⟨rfl,k1,k2⟩ | ⟨n,tmx,rfl,k1,k2,k3,k4⟩
    .exact .inl ⟨rfl,keep _ _ hl.1 k1,by rw[tH];exact k2.1,by rw[DE];exact sT lr _ _ k2.2⟩
    .exact .inr ⟨n,bS lr tmx,rfl,keep _ _ hl.1 k1,keep _ _ hl.2 k2,sT lr _ _ k3,λt ht=>Tw lr _ _ t (k4 t ht)⟩
   .simp only[Option.some.injEq,Prod.mk.injEq] at hev
    obtain⟨rfl,rfl⟩:=hev
    exact key .normal (by simp) rfl he rfl
   .rename_i i
    simp only[Option.some.injEq,Prod.mk.injEq] at hev
    obtain⟨rfl,rfl⟩:=hev
    exact key (.exit i) (by simp) rfl he rfl
  .cases hev
 | .region draw ck aops,code,hchk=>by
  cases code<;>try (simp only[eJ,Bool.false_eq_true] at hchk;done)
  rename_i id ops draw'
  simp only[eJ,Bool.and_eq_true,Option.isNone_iff_eq_none] at hchk
  let⟨h1,h2,h3⟩:=hchk
  have hd:draw=draw':=by simp only[eW,Bool.and_eq_true,beq_iff_eq] at h1;exact h1.1.1
  subst hd
  intro c a tm x st' Q hs htr hfl hev hQ
  simp only[cH] at hev
  split at hev
  .rename_i st1 he
   simp only[Option.some.injEq,Prod.mk.injEq] at hev
   let⟨rfl,rfl⟩:=hev
   let⟨k1,k2⟩:=T9 h3 h2 he
   refine Bd hm hfo hcf hfn h1 hs htr.2 hfl k1 ?_
   intro a' c' e1 e2 e3 e4 e5
   exact hQ a' c' .normal e1 e2 e3 ⟨rfl,by rw[k2];exact htr.1,e4⟩ e5
  .cases hev
 | .seq p q,code,hchk=>by
  cases code<;>try (simp only[eJ,Bool.false_eq_true] at hchk;done)
  case seq p' q'=>
   simp only[eJ,Bool.and_eq_true] at hchk
   have hp:=eY hm hfo hcf hpan hfn p p' hchk.1
   have hq:=eY hm hfo hcf hpan hfn q q' hchk.2
   intro c a tm x st' Q hs htr hfl hev hQ
   simp only[cH] at hev
   refine wp_seq ?_
   split at hev
   .rename_i st1 he
    refine hp c a tm .normal st1 _ hs htr hfl he ?_
    intro a' c' e e1 e2 e3 e4 e5
    have he:=e4.1
    subst he
    show q'.wp P Q a' c'.w
    refine hq c' a' st1.tmps x st' Q e3 e4.2 (Nat.le_trans hfl e2.len) (by rw[e1];exact hev) ?_
    intro a'' c'' e f1 f2 f3 f4 f5
    exact hQ a'' c'' e f1 (e2.trans f2) f3 f4<|f5.trans e5
   .rename_i r hne
    refine hp c a tm x st' _ hs htr hfl hev ?_
    intro a' c' e e1 e2 e3 e4 e5
    exact ZW (hQ a' c' e e1 e2 e3 e4 e5) (e4.ne (λk=>hne st' (by rw[k] at hev;exact hev)))
  case ret=>
   simp only[eJ] at hchk
   split at hchk
   case h_2=>cases hchk
   rename_i dr ck l
   split at hchk
   case h_2=>cases hchk
   rename_i x y
   split at hchk
   case h_2=>cases hchk
   rename_i fa fb g1 g2
   simp only[Bool.and_eq_true] at hchk
   have g1:=pS g1
   have g2:=pS g2
   rw[mH hchk.1] at g1
   rw[mH hchk.2] at g2
   subst g1 g2
   intro c a tm x st' Q hs htr hfl hev hQ
   simp only[cH,eI,bE,bD,cO,aI,aC,eL,Option.some.injEq,Prod.mk.injEq] at hev
   let⟨rfl,rfl⟩:=hev
   have hl:=htr.1
   refine wp_ret<|hQ a c .ret rfl (bG.refl _ _) hs (.inl ⟨rfl,?_,?_,?_⟩) rfl
   .show ((tm.set (n0+1) _).set (n0+2) _)[n0+1]?=_
    rw[List.getElem?_set_ne (by omega),List.getElem?_set_self (by omega)]
   .simp only[List.length_set];exact hl
   .show TR (aG T) c (((tm.set (n0+1) _).set (n0+2) _).take n0) a.tmps
    rw[tR,tR];exact htr.2
  case region id ops draw=>
   simp only[eJ] at hchk
   split at hchk
   case h_2=>cases hchk
   rename_i dr ck l
   split at hchk
   case h_3=>cases hchk
   case h_1=>
    split at hchk
    case h_2=>cases hchk
    rename_i px hx
    simp only[Bool.and_eq_true,Bool.not_eq_true'] at hchk
    let⟨h1,h2,h3⟩:=hchk
    subst h2
    cases ck with
    | cons _ _=>cases h1
    | nil=>
     have hL:=SI hx
     subst hL
     intro c a tm x st' Q hs htr hfl hev hQ
     simp only[cH,eI] at hev
     split at hev
     .rename_i st1 he
      split at he
      .rename_i s2 he2
       simp only[Option.some.injEq,Prod.mk.injEq] at he hev
       let⟨_,rfl⟩:=he
       let⟨rfl,rfl⟩:=hev
       exact Nj.sound hcf hfn h3 hs htr hfl he2 hQ
      .cases he
     .rename_i r hne
      split at hev
      .rename_i s2 he2
       simp only[he2] at hne
       exact (hne _ rfl).elim
      .cases hev
   case h_2 k pa pb=>
    split at hchk
    case h_2=>cases hchk
    rename_i t dr' ck' r
    split at hchk
    case h_2=>cases hchk
    rename_i pr hx
    simp only[Bool.and_eq_true] at hchk
    let⟨h1,h2,h3,h4⟩:=hchk
    have h1:=Nat.eq_of_beq_eq_true h1
    subst h1
    cases ck' with
    | cons _ _=>cases h2
    | nil=>
     let⟨hL,hR⟩:=SJ hx
     subst hL hR
     intro c a tm x st' Q hs htr hfl hev hQ
     simp only[cH] at hev
     split at hev
     .rename_i st1 he
      split at he
      .rename_i s2 he2
       simp only[Option.some.injEq,Prod.mk.injEq] at he
       let⟨_,rfl⟩:=he
       split at hev
       ·
        rename_i hb
        simp only[Option.some.injEq,Prod.mk.injEq] at hev
        let⟨rfl,rfl⟩:=hev
        have hf:=s6 hb
        have hok:=h3
        simp only[fF.ok,Bool.and_eq_true,beq_iff_eq,Option.isNone_iff_eq_none] at h3
        let⟨_,i1,_,_,_,i5,_,i6,_,_⟩:=h3
        let⟨sA,v0,v1,rr,H1,a1,a2,a3,a4⟩:=fF.first hfo i6 he2
        subst a4
        simp only[fF.full,List.all_append,List.all_cons,Bool.and_eq_true] at i1
        let⟨k1,k2⟩:=qI i1.1 a1
        have hl:n0+3<=sA.tmps.length:=by rw[k2];exact htr.1
        have hv0:v0=.lit (.bool true):=by
         simp only at hf
         rw[List.getElem?_set_ne (by omega),List.getElem?_set_self (by simp only[List.length_set];omega)] at hf;exact Option.some.inj hf
        subst hv0
        refine fF.panics hm hcf hpan hfn hok hs htr.2 hfl k1 (by rw[Wz (o:=pr.call) i1.2.1 rfl];exact a2) ?_
        intro n a' c' tmx hv e1 e2 e3 e4 hun e5
        subst hv
        refine hQ a' c' _ e1 e2 e3 (.inr ⟨n,tmx,rfl,hf,?_,e4,λt ht=>?_⟩) e5
        .show (((sA.tmps.set n0 _).set (n0+1) _).set (n0+2) _)[n0+2]?=_
         rw[List.getElem?_set_self (by simp only[List.length_set];omega)]
        .have ht0:t<n0:=by simpa [Nat.blt_eq] using List.all_eq_true.1 h4 t ht
         rw[hun t (Wf i5 ht),List.getElem?_take,if_pos ht0]
         show tm[t]?=(((sA.tmps.set n0 _).set (n0+1) _).set (n0+2) _)[t]?
         rw[List.getElem?_set_ne (by omega),List.getElem?_set_ne (by omega),List.getElem?_set_ne (by omega),Id a1 (Wf i5 ht)]
       .rename_i hb
        have hf:=s6 hb
        split at hev
        .rename_i s3 he3
         simp only[Option.some.injEq,Prod.mk.injEq] at hev
         let⟨rfl,rfl⟩:=hev
         let⟨k1,k2⟩:=fF.normal hfo h3 he2 hf he3
         have hc:eW P T (.region draw ck pr.full) (.region id ops draw)=true:=by
          simp only[fF.ok,Bool.and_eq_true] at h3;exact h3.1
         refine Bd hm (aC8 hfo) (aC7 hcf hpan) hfn hc hs htr.2 hfl k1 ?_
         intro a' c' e1 e2 e3 e4 e5
         exact hQ a' c' .normal e1 e2 e3 ⟨rfl,by rw[k2];exact htr.1,e4⟩ e5
        .cases hev
       .cases hev
      .cases he
     .rename_i r hne
      split at hev
      .rename_i s2 he2
       simp only[he2] at hne
       exact (hne _ rfl).elim
      .cases hev
 | .ret,code,hchk=>by cases code<;>simp only[eJ,Bool.false_eq_true] at hchk
 | .frz t q,code,hchk=>by
  have hchk:Nat.blt t n0=true/\eJ P T n0 K q code=true:=by
   cases code<;>simpa only[eJ,Bool.and_eq_true] using hchk
  let⟨ht,hchk⟩:=hchk
  have ht:t<n0:=by simpa [Nat.blt_eq] using ht
  have hq:=eY hm hfo hcf hpan hfn q code hchk
  intro c a tm x st' Q hs htr hfl hev hQ
  simp only[cH] at hev
  split at hev
  .rename_i v H' he
   let⟨c',k1,k2,k3,k4,k5⟩:=u9 hs he
   have htr':N4 (aG T) n0 c' (tm.set t v) a.tmps:=by
    refine⟨by simpa using htr.1,?_⟩;rw[take_set]
    refine⟨by simpa using htr.2.1,λu y hy=>?_⟩
    rw[List.getElem?_set] at hy
    split at hy
    .rename_i hut
     subst hut
     split at hy
     .rename_i hlt
      cases hy
      let⟨cv,g1,g2⟩:=htr.2.2 t (tm.take n0)[t]<|List.getElem?_eq_getElem hlt
      refine⟨cv,g1,k5 cv ?_⟩
      rw[<-Hy ht]
      simp only[aC,List.getElem?_eq_getElem hlt]
      exact g2
     .cases hy
    .let⟨cv,g1,g2⟩:=htr.2.2 u y hy
     exact⟨cv,g1,g2.step k3⟩
   have:=hq c' a (tm.set t v) x st' Q k4 htr' (Nat.le_trans hfl k3.len) (by rw[k2];exact hev) λa' c'' e e1 e2 e3 e4 e5=>hQ a' c'' e e1 (k3.trans e2) e3 e4 e5
   rwa [k1] at this
  .cases hev
 | .told _ _ _ _,code,hchk=>by cases code<;>simp only[eJ,Bool.false_eq_true] at hchk
 | .nilIf _ _ _ _ _,code,hchk=>by cases code<;>simp only[eJ,Bool.false_eq_true] at hchk
 | .loopV _ _ _ _ _,code,hchk=>by cases code<;>simp only[eJ,Bool.false_eq_true] at hchk
 | .stop,code,hchk=>by cases code<;>simp only[eJ,Bool.false_eq_true] at hchk
end
section
variable {P:Program}{T:List bK}{cf:CF}{fl lf:Nat}{n0:Nat}
def oS(t:Nat): bI->Bool
 | .region _ ck l=>(vM ck).isNone&&l.all λo=>match o.dst with
  | some d=>!Nat.beq d t
  | none=>true
 | .seq a b=>oS t a&&oS t b
 | .cond _ a b=>oS t a&&oS t b
 | .block _ c=>oS t c
 | .loop _ _ c=>oS t c
 | .mask _ _ _ c=>oS t c
 | .scope c=>oS t c
 | .skip=>true
 | .exit _=>true
 | .ret=>true
 | _=>false
def Hk(t i w j k:Nat)(st:St): Prop:=st.tmps[t]?=some (.ptr i w j k)\/st.tmps[t]?=some .undef
theorem JS{t i w j k:Nat}: ∀{l:List Bool}{tm:List AV},(tm[t]?=some (.ptr i w j k)\/tm[t]?=some .undef)->((bS l tm)[t]?=some (.ptr i w j k)\/(bS l tm)[t]?=some .undef):=by
 intro l;induction l generalizing t with
 | nil=>
  intro tm h;have e:bS [] tm=tm.map λ_=>.undef:=by cases tm<;>rfl
  rw[e,List.getElem?_map];rcases h with h | h<;>rw[h]<;>exact .inr rfl
 | cons b l ih=>
  intro tm h;cases tm with
  | nil=>simp at h
  | cons x r=>
   cases t with
   | zero=>cases b<;>simp[bS] at h |-;exact h
   | succ t=>simp at h;simpa[bS] using ih h
theorem Ug{live:Option (List Bool)}{tr:Bool}{n t i w j k:Nat}{st:St}(h:Hk t i w j k st): Hk t i w j k (bX live tr fl n st):=by
 have m:(Ff live st.tmps)[t]?=some (.ptr i w j k)\/(Ff live st.tmps)[t]?=some .undef:=by
  cases live with
  | none=>exact h
  | some l=>exact JS h
 cases tr with
 | false=>exact m
 | true=>
  simp only[bX,if_true,Hk,List.getElem?_map]
  rcases m with m | m
  .rw[m];by_cases a:i<n
   .left;simp[yF,yG,iE,jI,a]
   .right;simp[yF,yG,iE,jI,a]
  .rw[m];exact .inr rfl
theorem RD[aB](hfo:gW cf){ck:List (Nat×Nat)}{l:List aL}{t i w j k:Nat}{st st':St}(hm:vM ck=none)(h:(l.all λo=>match o.dst with | some d=>!Nat.beq d t | none=>true)=true)(e:eI P cf fl ck l st=some st')(a:Hk t i w j k st): Hk t i w j k st':=by
 have a2:bE P cf fl l st=some st':=by
  rcases zW hfo e with⟨_,g⟩ | ⟨_,_,_,_,_⟩
  .exact g
  .simp_all
 have:=Id (t:=t) a2 λo m e=>by
  have:=List.all_eq_true.1 h o m;rw[e] at this;simp at this
 unfold Hk;rw[this];exact a
theorem JU{b:St->St}{step:St->Option (bP×St)}{t i w j k:Nat}(h1:∀st,Hk t i w j k st->Hk t i w j k (b st))(h2:∀st x st',step st=some (x,st')->Hk t i w j k st->Hk t i w j k st'): ∀{n:Nat}{st:St}{x:bP}{s:St},dN b step n st=some (x,s)->Hk t i w j k st->Hk t i w j k s
 | 0,_,_,_,h,_=>by cases h
 | n+1,st,x,s,h,a=>by
  simp only[dN] at h;split at h
  .rename_i m e;exact JU h1 h2 h (h2 _ _ _ e (h1 _ a))
  .exact h2 _ _ _ h (h1 _ a)
theorem gJ[aB](hfo:gW cf){t i w j k:Nat}: ∀(c:bI) (st:St) (x:bP) (st':St),oS t c=true->cH P cf lf fl c st=some (x,st')->Hk t i w j k st->Hk t i w j k st'
 | .skip,st,x,st',_,e,a=>by simp only[cH,Option.some.injEq,Prod.mk.injEq] at e;rw[<-e.2];exact a
 | .exit _,st,x,st',_,e,a=>by simp only[cH,Option.some.injEq,Prod.mk.injEq] at e;rw[<-e.2];exact a
 | .ret,st,x,st',_,e,a=>by simp only[cH,Option.some.injEq,Prod.mk.injEq] at e;rw[<-e.2];exact a
 | .stop,st,x,st',h,_,_=>by cases h
 | .frz _ _,st,x,st',h,_,_=>by cases h
 | .told _ _ _ _,st,x,st',h,_,_=>by cases h
 | .nilIf _ _ _ _ _,st,x,st',h,_,_=>by cases h
 | .loopV _ _ _ _ _,st,x,st',h,_,_=>by cases h
 | .region _ ck l,st,x,st',h,e,a=>by
  simp only[oS,Bool.and_eq_true,Option.isNone_iff_eq_none] at h;simp only[cH] at e;split at e
  .rename_i s g;cases e;exact RD hfo h.1 h.2 g a
  .cases e
 | .seq p q,st,x,st',h,e,a=>by
  simp only[oS,Bool.and_eq_true] at h;simp only[cH] at e;split at e
  .rename_i s g;exact gJ hfo q s x st' h.2 e (gJ hfo p st _ s h.1 g a)
  .exact gJ hfo p st x st' h.1 e a
 | .cond _ p q,st,x,st',h,e,a=>by
  simp only[oS,Bool.and_eq_true] at h;simp only[cH] at e;split at e
  .exact gJ hfo p st x st' h.1 e a
  .exact gJ hfo q st x st' h.2 e a
  .cases e
 | .block _ p,st,x,st',h,e,a=>by
  simp only[oS] at h;simp only[cH] at e;split at e
  .rename_i m s g;have:=gJ hfo p st _ s h g a
   split at e<;>(cases e;exact this)
  .exact gJ hfo p st x st' h e a
 | .loop live tr p,st,x,st',h,e,a=>by
  simp only[oS] at h;simp only[cH] at e
  exact JU (λs=>Ug) (λs y s' g=>gJ hfo p s y s' h g) e a
 | .mask lx lr tr p,st,x,st',h,e,a=>by
  simp only[oS] at h;simp only[cH,qJ] at e;split at e
  .rename_i y s g;have b:=gJ hfo p st y s h g a
   split at e
   .cases e;exact JS b
   .cases e;exact Ug b
   .cases e;exact Ug b
  .cases e
 | .scope p,st,x,st',h,e,a=>by
  simp only[oS] at h;simp only[cH] at e;exact gJ hfo p st x st' h e a
end
def aG9[aB](FT:Nat->Option Nat)(c:bV)(r:AV)(t1 t2 g:Nat)(a:Act)(e:Exit): Prop:=
 ∃b err p1 p2 u1 u2,r=.tup [.lit (.bool b),err,p1,p2]/\RV FT c p1 u1/\RV FT c p2 u2/\(∃v,a.tmps[t1]?=some v/\RV FT c p1 v)/\(∃v,a.tmps[t2]?=some v/\RV FT c p2 v)/\a.defers=[{ target:=.fn (.func g) #[u1,u2],args:=#[] }]/\((b=false/\(e=.ret\/e=.normal))\/∃n,b=true/\err=.lit (.int .i64 n)/\e=.panic (Gv n))
def aBo[aB](P:Program)(T:List bK)(cf:CF): Prop:=
 ∀(fl vi vs t1 t2 g f:Nat) (args:List AV) (r:AV) (H':aM) (c:bV) (us:Array Value),(vi,vs,t1,t2,g)∈aB.df->aG T vi=some f->args.length<=4->cf fl vs args c.H=some (r,H')->bJ (aG T) c->fl<=c.H.length->jQ (aG T) c args us->
  ∃fn code,P.funcs[f]?=some fn/\fn.body=some code/\∀Q:Exit->Act->World->Prop,(∀a' c' e,c'.H=H'->c'.X=c.X->bG fl c c'->bJ (aG T) c'->aG9 (aG T) c' r t1 t2 g a' e->Q e a' c'.w)->code.wp P Q { tmps:=us++Array.replicate (fn.ntmps-us.size) undef,defers:=[] } c.w
end Go.Proofs.YtideamafblopcaaGreatDoor.Av
