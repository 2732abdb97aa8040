/- A part of the proof of a law. -/
import Derived.Test.YthadajkojciapaaGreatDoorP3
import Derived.Scope
import Derived.Control
set_option maxRecDepth 100000
set_option maxHeartbeats 4000000
set_option linter.all false
namespace Go.Proofs.YthadajkojciapaaGreatDoor.Av
open Go
section
variable {FT:Nat->Option Nat}
theorem nR[aA]{c:bM}: ∀(l:List Bool) (tm:List AV) (tv:Array Value),TR FT c tm tv->TR FT c (cH l tm) tv:=by
 intro l tm tv h;have f:∀(l:List Bool) (tm:List AV),(cH l tm).length=tm.length/\∀(t:Nat) (x:AV),(cH l tm)[t]?=some x->x=.undef\/tm[t]?=some x:=by
  intro l;induction l with
  | nil=>
   intro tm;cases tm with
   | nil=>exact⟨rfl,λt x a=>by simp[cH] at a⟩
   | cons v vs=>
    refine⟨by simp[cH],λt x a=>?_⟩;simp only[cH] at a;grind
  | cons b k i=>
   intro tm;cases tm with
   | nil=>exact⟨rfl,λt x a=>by simp[cH] at a⟩
   | cons v vs=>
    let⟨d,e⟩:=i vs;refine⟨by simp[cH,d],λt x a=>?_⟩;cases t with
    | zero=>
     simp only[cH] at a |-;grind
    | succ t=>
     exact e t x a
 let⟨d,e⟩:=f l tm;refine⟨d.trans h.1,λt x a=>?_⟩;rcases e t x a with rfl | g
 .have j:t<tv.size:=by rw[<-h.1,<-d];exact (List.getElem?_eq_some_iff.1 a).1
  exact⟨tv[t],by simp,RV.undef _⟩
 .exact h.2 t x g
structure QV(n:Nat)(c c':bM): Prop where
 w:c'.w=c.w
 X:c'.X=c.X
 lo:∀id,id<n->c'.β id=c.β id
 img:∀id b,c'.β id=some b->∃i,c.β i=some b
 shp:∀id,id<n->shp c'.H id=shp c.H id
 mp:∀id,id<n->qH c.H id->qH c'.H id
theorem QV.imm{n:Nat}{c c':bM}(h:QV n c c'){b:Nat}(e:jO c b): jO c' b:=by
 refine⟨by rw[h.X];exact e.1,λid a=>?_⟩;let⟨i,d⟩:=h.img id b a;exact e.2 i d
theorem QV.vis{n:Nat}{c c':bM}(h:QV n c c'){b:Nat}(e:Xy c b): Xy c' b:=by
 intro id a;let⟨i,d⟩:=h.img id b a;exact e i d
theorem QV.rp[aA]{n:Nat}{c c':bM}(h:QV n c c'){x:AV}{v:Value}(a:RP c.w (jO c) x v): RP c'.w (jO c') x v:=
 a.mono λb o e d=>⟨h.imm e,by rw[h.w];exact d⟩
theorem Un[aA]{n:Nat}{c c':bM}(h:QV n c c'){x:AV}{v:Value}(S:RV FT c x v): RV FT c' (gU n x) v:=by
 cases S with
 | pure _ _ X=>
  have H:=h.rp X;cases H with
  | undef v=>exact .pure _ _<|.undef v
  | lit v=>exact .pure _ _<|.lit v
  | nil f a cap W=>exact .pure _ _<|.nil f a cap W
  | sl f es b off cap cc T u s d p o r q y B J Y=>exact .pure _ _<|.sl f es b off cap cc T u s d p o r q y B J Y
  | sptr cs b off cc T u d p o r q=>exact .pure _ _<|.sptr cs b off cc T u d p o r q
  | rmp A b es F d p o r q y B=>exact .pure _ _<|.rmp A b es F d p o r q y B
 | ms id tot off len a cap s m l k t C=>
  simp only[gU];split
  .rename_i g;refine .ms id tot off len a cap s m ((h.shp id g).trans l) k t λe=>?_;let⟨m1,V⟩:=C e;refine⟨m1,?_⟩;rcases V with⟨I,E,G,K⟩ | ⟨b,cs,T,a',I,E,G,K,U⟩
   .exact .inl ⟨(h.lo id g).trans I,E,G,K⟩
   .exact .inr ⟨b,cs,T,a',(h.lo id g).trans I,by rw[h.w];exact E,G,K,U⟩
  .exact RV.undef _
 | ptr id tot D off a s m l k t=>
  simp only[gU];split
  .rename_i g;refine .ptr id tot D off a s m ((h.shp id g).trans l) k λe=>?_;let⟨b,R,ha⟩:=t e;exact⟨b,(h.lo id g).trans R,ha⟩
  .exact RV.undef _
 | rptr cs b off cc T u d l k t C=>exact .rptr cs b off cc T u d (h.vis l) (by rw[h.w];exact k) t λj x z=>h.rp<|C j x z
 | vnil a cap=>exact .vnil a cap
 | vw es b off cap cc T u s d p o r q y B J=>exact .vw es b off cap cc T u s d p (h.vis o) (by rw[h.w];exact r) q y B λi j x z=>h.rp<|J i j x z
 | mp id b l k=>
  simp only[gU];split
  .rename_i g;exact .mp id b (h.mp id g l)<|(h.lo id g).trans k
  .exact RV.undef _
 | it id b l k=>
  simp only[gU];split
  .rename_i g;exact .it id b (h.mp id g l)<|(h.lo id g).trans k
  .exact RV.undef _
 | fn vi f caps cv d l k t C=>
  cases caps with
  | nil=>exact .fn vi f [] cv d l k t λi x z=>by simp at z
  | cons _ _=>exact RV.undef _
 | agg=>exact RV.undef _
 | tup=>exact RV.undef _
theorem sU[aA]{n:Nat}{c c':bM}(h:QV n c c'){x:AV}{v:Value}(e:RV FT c x v): RV FT c' (fZ n x) v:=by
 unfold fZ;split
 .rename_i vi caps;cases e with
  | pure _ _ g=>cases g
  | fn _ f _ cv a l k o j=>
   refine .fn vi f _ cv a l (by simpa using k) ?_ ?_
   .grind
   .intro i x b;simp at b;obtain⟨y,m,rfl⟩:=b;exact Un h<|j i y m
 .exact Un h e
theorem zB[aA]{n:Nat}{c c':bM}(h:QV n c c'){x:AV}{v:Value}(b:RV FT c x v): RV FT c' (rJ n x) v:=by
 unfold rJ;split
 .rename_i cs;obtain⟨cv,a,rfl,e,j,g⟩:=b.agg_inv;refine .agg _ cv a (by simpa using e) ?_ ?_
  .grind
  .intro i x d;simp at d;obtain⟨y,f,rfl⟩:=d;exact sU h<|g i y f
 .exact sU h b
theorem Um[aA]{n:Nat}{c c':bM}(h:QV n c c'){x:AV}{v:Value}(b:RV FT c x v): RV FT c' (rH n x) v:=by
 unfold rH;split
 .rename_i cs;obtain⟨cv,a,rfl,e,j,g⟩:=b.tup_inv;refine .tup _ cv a (by simpa using e) ?_ ?_
  .grind
  .intro i x d;simp at d;obtain⟨y,f,rfl⟩:=d;exact zB h<|g i y f
 .exact zB h b
def hC(fl n:Nat)(c:bM): bM:=
 ⟨c.w,c.X,λid=>if id<n then c.β id else none,c.H.take fl++((c.H.take n).drop fl).map (bI n)⟩
theorem sF{fl n:Nat}{c:bM}(a:fl<=n)(b:n<=c.H.length)(id:Nat):
 (hC fl n c).H[id]?=if id<fl then c.H[id]? else if id<n then (c.H[id]?).map (bI n) else none:=by
 simp only[hC];grind
theorem kA{fl n:Nat}{c:bM}(a:fl<=n)(b:n<=c.H.length): (hC fl n c).H.length=n:=by
 simp only[hC,List.length_append,List.length_take,List.length_map,List.length_drop];omega
theorem sE[aA]{fl n:Nat}{c:bM}(f:fl<=n)(i:n<=c.H.length): QV n c (hC fl n c) where
 w:=rfl;X:=rfl;lo:=λid a=>by simp[hC,a]
 img:=λid b l=>by
  simp only[hC] at l;grind
 shp:=λid a=>by
  have r:=sF f i id;unfold shp;rw[r];by_cases h:id<fl
  .grind
  .rw[if_neg h,if_pos a];cases c.H[id]? with
   | none=>rfl
   | some o=>cases o<;>simp[bI]
 mp:=λid a j=>by
  let⟨d,he,g⟩:=j;simp only[qH,sF f i,he];split
  .grind
  .refine⟨bI n d,by simp,?_⟩;cases d with
   | blk=>exact g
   | mp=>trivial
   | raw=>trivial
theorem Ah[aA]{fl:Nat}{c0 c:bM}(v:aZ FT c0)(h:aY fl c0 c)(f:fl<=c0.H.length): aY fl c0<|hC fl c0.H.length c:=by
 have d:=sE f h.len;have i:=sF f h.len;have l:∀id r,shp c0.H id=some r->id<c0.H.length:=λid r u=>by
  rcases Nat.lt_or_ge id c0.H.length with p | p
  .grind
  .simp[shp,List.getElem?_eq_none p] at u
 refine⟨h.X,h.os,h.tape,h.output,h.drawn,h.size,by rw[kA f h.len];exact Nat.le_refl _,h.frame,?_,?_,?_,?_⟩
 .intro id b m;simp only[hC] at m;split at m
  .exact h.img id b m
  .grind
 .intro id s n o;let⟨w,g,j,k⟩:=h.blkS id s n o;have a:=l id _ o;exact⟨w,(d.shp id a).trans g,j,λe=>⟨(d.lo id a).trans (k e).1,(k e).2⟩⟩
 .intro id q;have a:id<c0.H.length:=by
   let⟨t,he,_⟩:=q;grind
  let⟨g,j⟩:=h.mpS id q;exact⟨d.mp id a g,(d.lo id a).trans j⟩
 .intro id a;let⟨g,j,k⟩:=h.floor id a;exact⟨by rw[i,if_pos a];exact g,(d.lo id<|by omega).trans j,k⟩
theorem Sn[aA]{fl:Nat}{c0 c:bM}(hs0:aZ FT c0)(hs:aZ FT c)(h:aY fl c0 c)(hfl:fl<=c0.H.length): aZ FT<|hC fl c0.H.length c:=by
 have hsub:=sE hfl h.len
 have hget:=sF hfl h.len
 have hst:=Ah hs0 h hfl
 have hβ:∀id b,(hC fl c0.H.length c).β id=some b->id<c0.H.length/\c.β id=some b:=by
  intro id b hb
  simp only[hC] at hb
  split at hb
  .grind
  .grind
 refine⟨hs0.gl.step hst,?_,?_,?_,hs.fresh,?_,?_,?_,?_⟩
 .intro i j b hi hj
  exact hs.inj i j b (hβ i b hi).2 (hβ j b hj).2
 .intro id b hb
  rw[kA hfl h.len];exact (hβ id b hb).1
 .intro id b hb
  exact hs.nx id b (hβ id b hb).2
 .intro id s es ho
  rw[hget] at ho
  split at ho
  .exact hs.lens id s es ho
  .split at ho
   .simp only[Option.map_eq_some_iff] at ho
    let⟨o,ho1,ho2⟩:=ho
    cases o with
    | blk s' es'=>
     simp only[bI,cG.blk.injEq] at ho2
     let⟨rfl,rfl⟩:=ho2
     intro e he
     simp only[List.mem_map] at he
     obtain⟨e0,h0,rfl⟩:=he
     simpa using hs.lens id s' es' ho1 e0 h0
    | mp ents=>simp[bI] at ho2
    | raw q=>simp[bI] at ho2
   .grind
 .intro id s es b ho hb
  let⟨hid,hb'⟩:=hβ id b hb
  rw[hget] at ho
  split at ho
  .rename_i hlo
   let⟨f1,f2,f3⟩:=h.floor id hlo
   rw[f1] at ho
   rw[f2] at hb'
   let⟨cs,T,g1,g2,g3⟩:=hs0.blk id s es b ho hb'
   exact⟨cs,T,(f3 b hb').trans g1,g2,λi j x hx=>let ⟨v,k1,k2,k3⟩:=g3 i j x hx;⟨v,k1,k2,k3.step hst⟩⟩
  .simp only[Option.map_eq_some_iff] at ho
   let⟨o,ho1,ho2⟩:=ho
   cases o with
   | blk s' es'=>
    simp only[bI,cG.blk.injEq] at ho2
    let⟨rfl,rfl⟩:=ho2
    let⟨cs,T,g1,g2,g3⟩:=hs.blk id s' es' b ho1 hb'
    refine⟨cs,T,g1,by simpa using g2,λi j x hx=>?_⟩
    obtain⟨y,hy,rfl⟩:=gR hx
    let⟨v,k1,k2,k3⟩:=g3 i j y hy
    exact⟨v,k1,k2,sU hsub k3⟩
   | mp ents=>simp[bI] at ho2
   | raw q=>simp[bI] at ho2
 .intro id ents b ho hb
  let⟨hid,hb'⟩:=hβ id b hb
  rw[hget] at ho
  split at ho
  .rename_i hlo
   let⟨f1,f2,f3⟩:=h.floor id hlo
   rw[f1] at ho
   rw[f2] at hb'
   let⟨es,clk,g1,g2,g3⟩:=hs0.map id ents b ho hb'
   exact⟨es,clk,(f3 b hb').trans g1,g2,λi k x hx=>let ⟨e,k1,k2,k3⟩:=g3 i k x hx;⟨e,k1,k2,k3.step hst⟩⟩
  .simp only[Option.map_eq_some_iff] at ho
   let⟨o,ho1,ho2⟩:=ho
   cases o with
   | blk s' es'=>simp[bI] at ho2
   | mp ents'=>
    simp only[bI,cG.mp.injEq] at ho2
    subst ho2
    let⟨es,clk,g1,g2,g3⟩:=hs.map id ents' b ho1 hb'
    refine⟨es,clk,g1,by simpa using g2,λi k x hx=>?_⟩
    simp only[List.getElem?_map,Option.map_eq_some_iff] at hx
    let⟨⟨k0,y⟩,hy,he⟩:=hx
    obtain⟨rfl,rfl⟩:=he
    let⟨e,k1,k2,k3⟩:=g3 i k0 y hy
    exact⟨e,k1,k2,zB hsub k3⟩
   | raw q=>simp[bI] at ho2
 .intro id q b ho hb
  let⟨hid,hb'⟩:=hβ id b hb
  rw[hget] at ho
  split at ho
  .rename_i hlo
   let⟨f1,f2,f3⟩:=h.floor id hlo
   rw[f1] at ho
   rw[f2] at hb'
   exact (f3 b hb').trans<|hs0.raw id q b ho hb'
  .simp only[Option.map_eq_some_iff] at ho
   let⟨o,ho1,ho2⟩:=ho
   cases o with
   | blk s' es'=>simp[bI] at ho2
   | mp ents'=>simp[bI] at ho2
   | raw q'=>
    simp only[bI,cG.raw.injEq] at ho2
    subst ho2
    exact hs.raw id q' b ho1 hb'
theorem lH[aA]{fl:Nat}{live:Option<|List Bool}{tr:Bool}{c0 c:bM}{tm:List AV}{tv:Array Value}(d:aZ FT c0)(f:aZ FT c)(h:aY fl c0 c)(a:fl<=c0.H.length)(e:TR FT c tm tv):
 ∃c',c'.w=c.w/\c'.H=(bR live tr fl c0.H.length ⟨tm,c.H⟩).heap/\aY fl c0 c'/\aZ FT c'/\TR FT c' (bR live tr fl c0.H.length ⟨tm,c.H⟩).tmps tv:=by
 have b:TR FT c (wP live tm) tv:=by
  cases live with
  | none=>exact e
  | some l=>exact nR l tm tv e
 cases tr with
 | false=>exact⟨c,rfl,by simp[bR],h,f,by simpa [bR] using b⟩
 | true=>
  refine⟨hC fl c0.H.length c,rfl,by simp[bR,hC],Ah d h a,Sn d f h a,?_⟩;simp only[bR,if_true];refine⟨by simpa using b.1,λt x g=>?_⟩;simp at g;obtain⟨y,k,rfl⟩:=g;let⟨v,i,j⟩:=b.2 t y k;exact⟨v,i,Um (sE a h.len) j⟩
def Aq(c:bM)(id s:Nat)(es:List<|List AV): bM:=
 ⟨c.w,c.X,λi=>if i=c.H.length then c.β id else if i=id then none else c.β i,c.H.set id (.blk s<|es++[List.replicate s .undef])++[.blk s es]⟩
theorem Wa{c:bM}{id s:Nat}{es:List<|List AV}(a:c.H[id]?=some (.blk s es))(i:Nat):
 (Aq c id s es).H[i]?=if i=c.H.length then some (.blk s es) else if i=id then some (.blk s<|es++[List.replicate s .undef]) else c.H[i]?:=by
 simp only[Aq];grind
theorem AW[aA]{fl:Nat}{c:bM}{id s:Nat}{es:List<|List AV}(hfl:fl<=id)(hob:c.H[id]?=some (.blk s es)): aY fl c<|Aq c id s es:=by
 have hlt:=(List.getElem?_eq_some_iff.1 hob).1;have hg:=Wa hob;have hlo:∀i o,c.H[i]?=some o->i<c.H.length:=λi o h=>(List.getElem?_eq_some_iff.1 h).1;refine⟨rfl,rfl,rfl,rfl,Nat.le_refl _,Nat.le_refl _,by simp[Aq],λ_ _ _=>rfl,?_,?_,?_,?_⟩
 .intro i b hb;simp only[Aq] at hb;grind
 .intro i s' n hs;have hi:i<c.H.length:=by
   rcases Nat.lt_or_ge i c.H.length with h' | h'
   .grind
   .simp[shp,List.getElem?_eq_none h'] at hs
  by_cases h2:i=id
  .subst h2;have e:=by simp[shp,hob] at hs;omega
   let⟨rfl,rfl⟩:=e;unfold shp
   grind
  .refine⟨n,?_,Nat.le_refl _,λ_=>⟨?_,λb cs T _ hb=>⟨cs,hb,rfl⟩⟩⟩
   .unfold shp
    rw[hg,if_neg<|by omega,if_neg h2]
    exact hs
   .simp only[Aq]
    rw[if_neg<|by omega,if_neg h2]
 .intro i hm
  let⟨o,ho,hnb⟩:=hm
  have hi:=hlo i o ho
  have h2:i≠id:=by
   intro e
   subst e
   rw[hob] at ho
   cases ho
   exact hnb
  refine⟨⟨o,by rw[hg,if_neg<|by omega,if_neg h2];exact ho,hnb⟩,?_⟩
  simp only[Aq]
  rw[if_neg<|by omega,if_neg h2]
 .intro i hi
  refine⟨by rw[hg,if_neg<|by omega,if_neg<|by omega],?_,λ_ _=>rfl⟩
  simp only[Aq]
  rw[if_neg<|by omega,if_neg<|by omega]
theorem d5[aA]{c:bM}{id s:Nat}{es:List<|List AV}(hs:aZ FT c)(hob:c.H[id]?=some (.blk s es)): aZ FT<|Aq c id s es:=by
 have hg:=Wa hob
 have hst:=AW (fl:=0) (Nat.zero_le _) hob
 have hβ:∀i b,(Aq c id s es).β i=some b->(i=c.H.length/\c.β id=some b)\/(i≠c.H.length/\i≠id/\c.β i=some b):=by
  intro i b hb
  simp only[Aq] at hb
  grind
 refine⟨hs.gl.step hst,?_,?_,?_,hs.fresh,?_,?_,?_,?_⟩
 .intro i j b hi hj
  rcases hβ i b hi with⟨h1,h2⟩ | ⟨h1,h2,h3⟩<;>rcases hβ j b hj with⟨k1,k2⟩ | ⟨k1,k2,k3⟩
  .omega
  .exact (k2<|hs.inj _ _ b k3 h2).elim
  .exact (h2<|hs.inj _ _ b h3 k2).elim
  .exact hs.inj _ _ b h3 k3
 .intro i b hb
  simp only[Aq,List.length_append,List.length_set,List.length_singleton]
  rcases hβ i b hb with⟨h1,h2⟩ | ⟨h1,h2,h3⟩
  .omega
  .have:=hs.dom i b h3;omega
 .intro i b hb
  rcases hβ i b hb with⟨h1,h2⟩ | ⟨h1,h2,h3⟩
  .exact hs.nx _ b h2
  .exact hs.nx _ b h3
 .intro i s' es' ho
  rw[hg] at ho
  split at ho
  .cases ho;exact hs.lens id s es hob
  .split at ho
   .cases ho
    intro e he
    rcases List.mem_append.1 he with h | h
    .exact hs.lens id s es hob e h
    .grind
   .exact hs.lens i s' es' ho
 .intro i s' es' b ho hb
  rcases hβ i b hb with⟨h1,h2⟩ | ⟨h1,h2,h3⟩
  .rw[hg,if_pos h1] at ho
   cases ho
   let⟨cs,T,g1,g2,g3⟩:=hs.blk id s es b hob h2
   exact⟨cs,T,g1,g2,λi j x hx=>let ⟨v,k1,k2,k3⟩:=g3 i j x hx;⟨v,k1,k2,k3.step hst⟩⟩
  .rw[hg,if_neg h1,if_neg h2] at ho
   let⟨cs,T,g1,g2,g3⟩:=hs.blk i s' es' b ho h3
   exact⟨cs,T,g1,g2,λi j x hx=>let ⟨v,k1,k2,k3⟩:=g3 i j x hx;⟨v,k1,k2,k3.step hst⟩⟩
 .intro i ents b ho hb
  rcases hβ i b hb with⟨h1,h2⟩ | ⟨h1,h2,h3⟩
  .grind
  .rw[hg,if_neg h1,if_neg h2] at ho
   let⟨es,clk,g1,g2,g3⟩:=hs.map i ents b ho h3
   exact⟨es,clk,g1,g2,λi k x hx=>let ⟨e,k1,k2,k3⟩:=g3 i k x hx;⟨e,k1,k2,k3.step hst⟩⟩
 .intro i q b ho hb
  rcases hβ i b hb with⟨h1,h2⟩ | ⟨h1,h2,h3⟩
  .grind
  .rw[hg,if_neg h1,if_neg h2] at ho
   exact hs.raw i q b ho h3
theorem LF{c c':bM}{id m s tot off len:Nat}{es es':List<|List AV}(d:c.H[id]?=some (.blk s es))(b:c'.H[m]?=some (.blk s es'))(r:es'.length=es.length)(o:c'.w=c.w)(q:c'.β m=c.β id){v:Value}(l:RV FT c (.ms id tot off len) v): RV FT c' (.ms m tot off len) v:=by
 cases l with
 | pure _ _ h=>cases h
 | ms _ _ _ _ a cap s' n g u k i=>
  have e:s'=s/\n=es.length:=by simp[shp,d] at g;omega
  let⟨rfl,rfl⟩:=e;refine .ms m tot off len a cap s' es'.length (by simp[shp,b]) (by omega) k λe=>?_;let⟨j,t⟩:=i (by omega);refine⟨j,?_⟩;grind
theorem NZ[aA]{fl t:Nat}{c:bM}{tm:List AV}{tv:Array Value}{d:St}(p:aZ FT c)(b:TR FT c tm tv)(h:KN fl t ⟨tm,c.H⟩=some d):
 ∃c',c'.w=c.w/\c'.H=d.heap/\aY fl c c'/\aZ FT c'/\TR FT c' d.tmps tv:=by
 unfold KN at h;split at h
 .rename_i id tot off len n;split at h
  .rename_i l;split at h
   .rename_i s es a;split at h
    .rename_i o;cases h;have i:=AW l a;refine⟨Aq c id s es,rfl,rfl,i,d5 p a,?_⟩;refine⟨by simpa using b.1,λu y g=>?_⟩;rw[List.getElem?_set] at g;split at g
     .rename_i m;subst m;split at g
      .rename_i f;cases g;let⟨cv,k,j⟩:=b.2 t tm[t]<|List.getElem?_eq_getElem f;have e:=by
        simp only[aB,List.getElem?_eq_getElem f] at n;exact n
       rw[e] at j;refine⟨cv,k,LF (c':=Aq c id s es) a (by rw[Wa a,if_pos rfl]) rfl rfl (by simp[Aq]) j⟩
      .grind
     .let⟨cv,k,j⟩:=b.2 u y g;exact⟨cv,k,j.step i⟩
    .cases h
   .cases h
  .cases h
 .cases h
def kW(fl n id s:Nat)(es:List<|List AV)(c:bM): bM:=
 ⟨c.w,c.X,λi=>if i<n then c.β i else if i=n then c.β id else none,(hC fl n c).H++[bI n<|.blk s es]⟩
theorem wO[aA]{fl n id s:Nat}{es:List<|List AV}{c:bM}(a:fl<=n)(b:n<=c.H.length)(i:Nat):
 (kW fl n id s es c).H[i]?=if i<n then (hC fl n c).H[i]? else if i=n then some (bI n<|.blk s es) else none:=by
 simp only[kW];rw[List.getElem?_append];rw[kA a b];grind
theorem Mm[aA]{fl n id s:Nat}{es:List<|List AV}{c:bM}(a:fl<=n)(e:n<=c.H.length): QV n c (kW fl n id s es c) where
 w:=rfl;X:=rfl;lo:=λi d=>by simp[kW,d]
 img:=λi b h=>by
  simp only[kW] at h;grind
 shp:=λi d=>by
  have:=(sE a e).shp i d;unfold shp at this |-;rw[wO a e,if_pos d];exact this
 mp:=λi d f=>by
  have:=(sE a e).mp i d f;unfold qH at this |-;rw[wO a e,if_pos d];exact this
theorem To[aA]{fl id s:Nat}{es:List<|List AV}{c0 c:bM}(p:aZ FT c0)(h:aY fl c0 c)(f:fl<=c0.H.length): aY fl c0<|kW fl c0.H.length id s es c:=by
 have a:=Mm (id:=id) (s:=s) (es:=es) f h.len;have w:=Ah p h f;have g:=wO (id:=id) (s:=s) (es:=es) f h.len;have k:(kW fl c0.H.length id s es c).H.length=c0.H.length+1:=by
  simp only[kW,List.length_append,kA f h.len,List.length_singleton]
 refine⟨h.X,h.os,h.tape,h.output,h.drawn,h.size,by rw[k];omega,h.frame,?_,?_,?_,?_⟩
 .intro i b j;simp only[kW] at j;split at j
  .exact h.img i b j
  .split at j
   .exact h.img id b j
   .grind
 .intro i s' n u;have d:i<c0.H.length:=by
   rcases Nat.lt_or_ge i c0.H.length with q | q
   .grind
   .simp[shp,List.getElem?_eq_none q] at u
  let⟨x,l,o,m⟩:=h.blkS i s' n u;exact⟨x,(a.shp i d).trans l,o,λe=>⟨(a.lo i d).trans (m e).1,(m e).2⟩⟩
 .intro i v;have d:i<c0.H.length:=by
   let⟨t,he,_⟩:=v;exact (List.getElem?_eq_some_iff.1 he).1
  let⟨l,o⟩:=h.mpS i v;exact⟨a.mp i d l,(a.lo i d).trans o⟩
 .intro i r;let⟨l,o,m⟩:=w.floor i r;exact⟨by rw[g,if_pos<|by omega];exact l,(a.lo i<|by omega).trans (h.floor i r).2.1,m⟩
theorem UI[aA]{fl id s:Nat}{es:List<|List AV}{c0 c:bM}(hs0:aZ FT c0)(hs:aZ FT c)(h:aY fl c0 c)(hfl:fl<=c0.H.length)(hid:c0.H.length<=id)(hob:c.H[id]?=some (.blk s es)): aZ FT<|kW fl c0.H.length id s es c:=by
 have hsub:=Mm (id:=id) (s:=s) (es:=es) hfl h.len
 have hst:=To (id:=id) (s:=s) (es:=es) hs0 h hfl
 have ht:=Sn hs0 hs h hfl
 have hget:=wO (id:=id) (s:=s) (es:=es) hfl h.len
 have htg:=sF hfl h.len
 have hlen:(kW fl c0.H.length id s es c).H.length=c0.H.length+1:=by
  simp only[kW,List.length_append,kA hfl h.len,List.length_singleton]
 have hβ:∀i b,(kW fl c0.H.length id s es c).β i=some b->(i<c0.H.length/\c.β i=some b)\/(i=c0.H.length/\c.β id=some b):=by
  intro i b hb
  simp only[kW] at hb
  split at hb
  .grind
  .grind
 refine⟨hs0.gl.step hst,?_,?_,?_,hs.fresh,?_,?_,?_,?_⟩
 .intro i j b hi hj
  rcases hβ i b hi with⟨h1,h2⟩ | ⟨h1,h2⟩<;>rcases hβ j b hj with⟨k1,k2⟩ | ⟨k1,k2⟩
  .exact hs.inj _ _ b h2 k2
  .have:=hs.inj _ _ b h2 k2;omega
  .have:=hs.inj _ _ b h2 k2;omega
  .omega
 .grind
 .intro i b hb
  rcases hβ i b hb with⟨h1,h2⟩ | ⟨h1,h2⟩
  .exact hs.nx _ b h2
  .exact hs.nx _ b h2
 .intro i s' es' ho
  rw[hget] at ho
  split at ho
  .exact ht.lens i s' es' ho
  .split at ho
   .simp only[bI,Option.some.injEq,cG.blk.injEq] at ho
    let⟨rfl,rfl⟩:=ho
    intro e he
    simp only[List.mem_map] at he
    obtain⟨e0,h0,rfl⟩:=he
    simpa using hs.lens id s es hob e0 h0
   .grind
 .intro i s' es' b ho hb
  rcases hβ i b hb with⟨hi,hb'⟩ | ⟨hi,hb'⟩
  .rw[hget,if_pos hi,htg] at ho
   split at ho
   .rename_i hlo
    let⟨f1,f2,f3⟩:=h.floor i hlo
    rw[f1] at ho
    rw[f2] at hb'
    let⟨cs,T,g1,g2,g3⟩:=hs0.blk i s' es' b ho hb'
    exact⟨cs,T,(f3 b hb').trans g1,g2,λi j x hx=>let ⟨v,k1,k2,k3⟩:=g3 i j x hx;⟨v,k1,k2,k3.step hst⟩⟩
   .try rw[if_pos hi] at ho
    simp only[Option.map_eq_some_iff] at ho
    let⟨o,ho1,ho2⟩:=ho
    cases o with
    | blk s2 es2=>
     simp only[bI,cG.blk.injEq] at ho2
     let⟨rfl,rfl⟩:=ho2
     let⟨cs,T,g1,g2,g3⟩:=hs.blk i s2 es2 b ho1 hb'
     refine⟨cs,T,g1,by simpa using g2,λi j x hx=>?_⟩
     obtain⟨y,hy,rfl⟩:=gR hx
     let⟨v,k1,k2,k3⟩:=g3 i j y hy
     exact⟨v,k1,k2,sU hsub k3⟩
    | mp ents=>simp[bI] at ho2
    | raw q=>simp[bI] at ho2
  .rw[hget,if_neg<|by omega,if_pos hi] at ho
   simp only[bI,Option.some.injEq,cG.blk.injEq] at ho
   let⟨rfl,rfl⟩:=ho
   let⟨cs,T,g1,g2,g3⟩:=hs.blk id s es b hob hb'
   refine⟨cs,T,g1,by simpa using g2,λi j x hx=>?_⟩
   obtain⟨y,hy,rfl⟩:=gR hx
   let⟨v,k1,k2,k3⟩:=g3 i j y hy
   exact⟨v,k1,k2,sU hsub k3⟩
 .intro i ents b ho hb
  rcases hβ i b hb with⟨hi,hb'⟩ | ⟨hi,hb'⟩
  .rw[hget,if_pos hi,htg] at ho
   split at ho
   .rename_i hlo
    let⟨f1,f2,f3⟩:=h.floor i hlo
    rw[f1] at ho
    rw[f2] at hb'
    let⟨es,clk,g1,g2,g3⟩:=hs0.map i ents b ho hb'
    exact⟨es,clk,(f3 b hb').trans g1,g2,λi k x hx=>let ⟨e,k1,k2,k3⟩:=g3 i k x hx;⟨e,k1,k2,k3.step hst⟩⟩
   .try rw[if_pos hi] at ho
    simp only[Option.map_eq_some_iff] at ho
    let⟨o,ho1,ho2⟩:=ho
    cases o with
    | blk s' es'=>simp[bI] at ho2
    | mp ents'=>
     simp only[bI,cG.mp.injEq] at ho2
     subst ho2
     let⟨es,clk,g1,g2,g3⟩:=hs.map i ents' b ho1 hb'
     refine⟨es,clk,g1,by simpa using g2,λi k x hx=>?_⟩
     simp only[List.getElem?_map,Option.map_eq_some_iff] at hx
     let⟨⟨k0,y⟩,hy,he⟩:=hx
     simp only[Prod.mk.injEq] at he
     let⟨rfl,rfl⟩:=he
     let⟨e,k1,k2,k3⟩:=g3 i k0 y hy
     exact⟨e,k1,k2,zB hsub k3⟩
    | raw q=>simp[bI] at ho2
  .rw[hget,if_neg<|by omega,if_pos hi] at ho
   simp[bI] at ho
 .intro i q b ho hb
  rcases hβ i b hb with⟨hi,hb'⟩ | ⟨hi,hb'⟩
  .rw[hget,if_pos hi,htg] at ho
   split at ho
   .rename_i hlo
    let⟨f1,f2,f3⟩:=h.floor i hlo
    rw[f1] at ho
    rw[f2] at hb'
    exact (f3 b hb').trans<|hs0.raw i q b ho hb'
   .try rw[if_pos hi] at ho
    simp only[Option.map_eq_some_iff] at ho
    let⟨o,ho1,ho2⟩:=ho
    cases o with
    | blk s' es'=>simp[bI] at ho2
    | mp ents'=>simp[bI] at ho2
    | raw q'=>
     simp only[bI,cG.raw.injEq] at ho2
     subst ho2
     exact hs.raw i q' b ho1 hb'
  .rw[hget,if_neg<|by omega,if_pos hi] at ho
   simp[bI] at ho
theorem wV[aA]{fl t:Nat}{live:List Bool}{c0 c:bM}{tm:List AV}{tv:Array Value}(g:aZ FT c0)(r:aZ FT c)(h:aY fl c0 c)(a:fl<=c0.H.length)(b:TR FT c tm tv):
 ∃c',c'.w=c.w/\c'.H=(Cm live t fl c0.H.length ⟨tm,c.H⟩).heap/\aY fl c0 c'/\aZ FT c'/\TR FT c' (Cm live t fl c0.H.length ⟨tm,c.H⟩).tmps tv:=by
 have p:=lH (live:=some live) (tr:=true) g r h a b;unfold Cm;split
 .rename_i id tot off len q;split
  .rename_i n;split
   .rename_i s es j;have f:=nR live tm tv b;have k:=Mm (id:=id) (s:=s) (es:=es) a h.len;refine⟨kW fl c0.H.length id s es c,rfl,by simp[kW,hC],To g h a,UI g r h a n j,?_⟩;refine⟨by simpa using f.1,λu y i=>?_⟩;rw[List.getElem?_set] at i;split at i
    .rename_i m;subst m;split at i
     .rename_i A;cases i;have d:t<tm.length:=by
       have B:=f.1;have e2:=b.1;grind
      let⟨cv,o,l⟩:=b.2 t tm[t]<|List.getElem?_eq_getElem d;have e:=by
       simp only[aB,List.getElem?_eq_getElem d] at q;exact q
      rw[e] at l;refine⟨cv,o,LF (c':=kW fl c0.H.length id s es c) (es':=es.map λe=>e.map<|fZ c0.H.length) j ?_ (by simp) rfl (by simp[kW]) l⟩;rw[wO a h.len,if_neg<|by omega,if_pos rfl];rfl
     .grind
    .simp at i;obtain⟨z,x,rfl⟩:=i;let⟨v,o,l⟩:=f.2 u z x;exact⟨v,o,Um k l⟩
   .grind
  .grind
 .grind
end
section
variable {P:Program}{T:List bC}{cf:Nat->Nat->List AV->aK->Option (AV×aK)}{fl lf:Nat}
def pC: bJ->Exit
 | .normal=>.normal
 | .exit id=>.exit id
 | .ret=>.ret
def Yw[aA](P:Program)(T:List bC)(fl:Nat)(ev:St->Option (bJ×St))(code:Code): Prop:=
 ∀(c:bM) (a:Act) (tm:List AV) (x:bJ) (st':St) (Q:Exit->Act->World->Prop),aZ (aF T) c->TR (aF T) c tm a.tmps->fl<=c.H.length->ev ⟨tm,c.H⟩=some (x,st')->
  (∀a' c',c'.H=st'.heap->aY fl c c'->aZ (aF T) c'->TR (aF T) c' st'.tmps a'.tmps->a'.defers=a.defers->Q (pC x) a' c'.w)->code.wp P Q a c.w
theorem Ms[aA]{e:Code}{step:St->Option (bJ×St)}{live:Option<|List Bool}{tr:Bool}(d:Yw P T fl step e){c0:bM}(i:aZ (aF T) c0)(f:fl<=c0.H.length){ds:List Deferred}{x:bJ}{st':St}{Q:Exit->Act->World->Prop}(v:∀a' c',c'.H=st'.heap->aY fl c0 c'->aZ (aF T) c'->TR (aF T) c' st'.tmps a'.tmps->a'.defers=ds->Q (pC x) a' c'.w):
 ∀(n:Nat) (c:bM) (a:Act) (tm:List AV),aZ (aF T) c->aY fl c0 c->TR (aF T) c tm a.tmps->a.defers=ds->dK (bR live tr fl c0.H.length) step n ⟨tm,c.H⟩=some (x,st')->Code.rounds P e Q n a c.w
 | 0,c,a,tm,_,_,_,_,b=>by cases b
 | n+1,c,a,tm,G,r,s,A,b=>by
  simp only[dK] at b;obtain⟨m,F,D,k,z,C⟩:=lH i G r f s;rw[<-F];have j:(bR live tr fl c0.H.length ⟨tm,c.H⟩)=⟨(bR live tr fl c0.H.length ⟨tm,c.H⟩).tmps,m.H⟩:=by rw[D]
  rw[j] at b;split at b
  .rename_i h he;refine d m a _ .normal h _ z C (Nat.le_trans f k.len) he ?_;intro a' c' o e2 q u p;refine Ms (live:=live) (tr:=tr) d i f v n c' a' h.tmps q (k.trans e2) u (p.trans A) ?_;rw[o];exact b
  .rename_i E;have g:∀y,pC x=y->y≠.normal->e.wp P (Exit.then (Code.rounds P e Q n) Q) a m.w:=by
    intro y I t;refine d m a _ x st' _ z C (Nat.le_trans f k.len) b ?_;intro a' c' o e2 q u p;have:=v a' c' o (k.trans e2) q u<|p.trans A;rw[I] at this |-;cases y<;>first | exact (t rfl).elim | exact this
   cases x with
   | normal=>grind
   | exit id=>exact g _ rfl<|by simp[pC]
   | ret=>exact g _ rfl<|by simp[pC]
theorem wQ[aA]{f:Code}{step:St->Option (bJ×St)}{b:St->St}(e:Yw P T fl step f){c0:bM}(h:fl<=c0.H.length)(g:∀(c:bM) (tm:List AV) (tv:Array Value),aZ (aF T) c->aY fl c0 c->TR (aF T) c tm tv->∃c',c'.w=c.w/\c'.H=(b ⟨tm,c.H⟩).heap/\aY fl c0 c'/\aZ (aF T) c'/\TR (aF T) c' (b ⟨tm,c.H⟩).tmps tv){ds:List Deferred}{x:bJ}{st':St}{Q:Exit->Act->World->Prop}(C:∀a' c',c'.H=st'.heap->aY fl c0 c'->aZ (aF T) c'->TR (aF T) c' st'.tmps a'.tmps->a'.defers=ds->Q (pC x) a' c'.w):
 ∀(n:Nat) (c:bM) (a:Act) (tm:List AV),aZ (aF T) c->aY fl c0 c->TR (aF T) c tm a.tmps->a.defers=ds->dK b step n ⟨tm,c.H⟩=some (x,st')->Code.rounds P f Q n a c.w
 | 0,c,a,tm,_,_,_,_,d=>by cases d
 | n+1,c,a,tm,I,s,t,A,d=>by
  simp only[dK] at d;let⟨l,G,J,m,B,D⟩:=g c tm a.tmps I s t;rw[<-G];have j:(b ⟨tm,c.H⟩)=⟨(b ⟨tm,c.H⟩).tmps,l.H⟩:=by rw[J]
  rw[j] at d;split at d
  .rename_i k he;refine e l a _ .normal k _ B D (Nat.le_trans h m.len) he ?_;intro a' c' p e2 r u q;refine wQ e h g C n c' a' k.tmps r (m.trans e2) u (q.trans A) ?_;rw[p];exact d
  .rename_i E;have i:∀y,pC x=y->y≠.normal->f.wp P (Exit.then (Code.rounds P f Q n) Q) a l.w:=by
    intro y F v;refine e l a _ x st' _ B D (Nat.le_trans h m.len) d ?_;intro a' c' p e2 r u q;have:=C a' c' p (m.trans e2) r u<|q.trans A;rw[F] at this |-;cases y<;>first | exact (v rfl).elim | exact this
   cases x with
   | normal=>grind
   | exit id=>exact i _ rfl<|by simp[pC]
   | ret=>exact i _ rfl<|by simp[pC]
theorem OM[aA]{c:bM}{x:AV}{u:Value}(e:RV (aF T) c x u)(d:Io c.H x≠3): ∃ad n cap,u=.slice ad n cap/\(Io c.H x=0->ad=none)/\(Io c.H x=1->ad.isNone=false):=by
 unfold Io at d |-;split at d
 .rename_i v;have:=e.lit_inv;grind
 .rename_i es;have q:=e.sl_inv;cases q with
  | nil _ ad cap B=>grind
  | sl _ _ b off cap cc p o s a f l m k F z r w=>grind
 .rename_i es;obtain⟨ad,cap,rfl,_,i⟩:=e.vw_inv;rcases i with rfl | ⟨b,off,cc,p,o,s,a,rfl,_⟩
  .grind
  .grind
 .rename_i len;split at d
  .grind
  .rename_i j;split at d
   .rename_i g;split at d
    .rename_i h;let⟨ad,cap,D,E,A,f,l,m,k⟩:=e.ms_inv;rw[eL g] at f;cases f;let⟨y,C⟩:=k (Nat.eq_of_beq_eq_true h).symm;grind
    .grind
   .grind
 .grind
theorem OK[aA](hcf:jD P T cf)(hfn:fA P T){c:bM}{a:Act}{tm:List AV}{ops:Array Oper}{o1 o2:Oper}{id t d0 d1:Nat}{Q:Exit->Act->World->Prop}(hops:ops.toList=[o1,o2])(hc1:cW P T ops ⟨some d0,.mov<|.tmp t,none⟩ o1=true)(hc2:Wx P d0 d1 o2=true)(hs:aZ (aF T) c)(htr:TR (aF T) c tm a.tmps)(hfl:fl<=c.H.length)(hd0:d0<tm.length)(h3:Io c.H (aB tm<|.tmp t)≠3)(hQ:∀b a' c',(Io c.H (aB tm<|.tmp t)=0->b=true)->(Io c.H (aB tm<|.tmp t)=1->b=false)->c'.H=c.H->aY fl c c'->aZ (aF T) c'->TR (aF T) c' (qF tm t d0 d1 b) a'.tmps->a'.defers=a.defers->Q .normal a' c'.w):
 (Code.region id ops false).wp P Q a c.w:=by
 have e1:ops[0]?=some o1:=by rw[<-Array.getElem?_toList,hops];rfl
 have e2:ops[1]?=some o2:=by rw[<-Array.getElem?_toList,hops];rfl
 have hsz:ops.size=2:=by rw[<-Array.length_toList,hops];rfl
 refine wp_region ?_;rw[hsz];have hev1:aV P cf fl ⟨some d0,.mov<|.tmp t,none⟩ ⟨tm,c.H⟩=some ⟨tm.set d0<|aB tm<|.tmp t,c.H⟩:=rfl;refine oU hcf hfn hs htr hfl e1 hc1 hev1 ?_;intro a1 c1 f1 f2 f3 f4 f5 _;rw[wpOps_cons];unfold Wx at hc2;simp at hc2;let⟨⟨h1,h2⟩,h4⟩:=hc2;have hdst:o2.dst=some d1:=by
  grind
 have hguard:=by simpa using h2
 split at h4
 .rename_i ty x' ty' hop;simp only[Bool.and_eq_true,beq_iff_eq] at h4;let⟨rfl,h4⟩:=h4;split at h4
  .rename_i hu;unfold wpOp;rw[e2];simp only;have hw:Region.wanted o2 (yielded ops a1.tmps)=true:=by simp[Region.wanted,hguard]
   rw[hw];left;let⟨u,k1,k2⟩:=f4.2 x' (aB tm<|.tmp t) (by simp[hd0]);let⟨ad,n,cap,hu',z0,z1⟩:=OM k2 (by rw[f1];exact h3);rw[f1] at z0 z1;have hrun:(execOp a1.eval o2).run P c1.w=.ok (.value<|.bool ad.isNone) c1.w:=by
    have heq:∀w:World,(Op.equalIn Op.maxDepth ty (.slice ad n cap)<|.slice none 0 0).run P w=.ok ad.isNone w:=by
     have hm:Op.maxDepth=(Op.maxDepth-1)+1:=by decide
     rw[hm,Op.equalIn];cases ad<;>simp[run_underlying hu]
    simp[execOp,hop,Act.eval,k1,hu',eqGuard,binOp,Op.equal,heq]
   refine (bD (fl:=fl) f3 hrun<|RV.lit _) _ _ ?_;intro cv c2 q1 q2 q3 q4;rw[hdst]
   refine hQ ad.isNone _ c2 (λh=>by rw[z0 h];rfl) z1 (q1.trans f1) (f2.trans q2) q3 ?_<|(fJ _ _ _).trans f5
   exact TR.put (d:=some d1) (f4.step q2) q4
  .grind
 .grind
theorem MG[aA]{c c':bM}{x:AV}{v:Value}(h:WA x=true)(a:RV (aF T) c x v): RV (aF T) c' (.sl false []) v:=by
 unfold WA at h;split at h
 .rename_i u;have:=a.lit_inv;subst this;split at h
  .split at h
   .split at h
    .split at h
     .exact .pure _ _<|.nil false none 0<|by simp
     .cases h
    .cases h
   .cases h
  .cases h
 .split at h
  .have e:=a.sl_inv;cases e with
   | nil _ ad cap i=>exact .pure _ _<|.nil false ad cap<|by simp
   | sl _ _ b off cap cc l j s d r k p o f q g n=>grind
  .cases h
 .cases h
theorem Tz[aA]: ∀(a ys:List AV),a.length=ys.length->(zY a ys).length=a.length/\∀(t:Nat) (z:AV),(zY a ys)[t]?=some z->∃x y,a[t]?=some x/\ys[t]?=some y/\z=LQ x y
 | [],[],_=>⟨rfl,λt z h=>by simp[zY] at h⟩
 | x::r,y::s,h=>by
  let⟨d,c⟩:=Tz r s (by simpa using h);refine⟨by simp[zY,d],λt z b=>?_⟩;cases t with
  | zero=>
   simp only[zY,List.getElem?_cons_zero,Option.some.injEq] at b;exact⟨x,y,rfl,rfl,b.symm⟩
  | succ t=>
   exact c t z b
 | [],_::_,h=>by simp at h
 | _::_,[],h=>by simp at h
theorem s7[aA]{c c':bM}{d ys:List AV}{tv:Array Value}(f:d.length=ys.length)(h:TR (aF T) c d tv\/TR (aF T) c ys tv): TR (aF T) c' (zY d ys) tv:=by
 let⟨l,o⟩:=Tz d ys f;have e:d.length=tv.size:=by rcases h with h | h;exact h.1;rw[f];exact h.1
 refine⟨l.trans e,λt z j=>?_⟩;obtain⟨x,y,k,i,rfl⟩:=o t z j;have g:∃v,tv[t]?=some v/\(RV (aF T) c x v\/RV (aF T) c y v):=by
  rcases h with h | h
  .let⟨v,b,a⟩:=h.2 t x k;exact⟨v,b,.inl a⟩
  .let⟨v,b,a⟩:=h.2 t y i;exact⟨v,b,.inr a⟩
 let⟨v,b,a⟩:=g;refine⟨v,b,?_⟩;unfold LQ;split
 .rename_i m;split
  .rename_i n;rcases a with a | a
   .exact MG m a
   .exact MG n a
  .exact RV.undef _
 .exact RV.undef _
theorem PH[aA]{FT:Nat->Option Nat}{c b:bM}(l:aZ FT c)(d:aZ FT b)(h:aY c.H.length c b): ∃a,a.w=b.w/\a.H=c.H/\aY c.H.length c a/\aZ FT a:=by
 let⟨a,g,k,n,m,_⟩:=lH (live:=none) (tr:=true) (tm:=[]) (tv:=#[]) l d h (Nat.le_refl _) ⟨rfl,λt x f=>by simp at f⟩;refine⟨a,g,?_,n,m⟩;rw[k];simp only[bR,if_true];apply List.ext_getElem?;intro i;have e:(b.H.take c.H.length).drop c.H.length=[]:=List.drop_eq_nil_of_le (by simp;omega);rw[e,List.map_nil,List.append_nil,List.getElem?_take];split
 .rename_i j;exact (h.floor i j).1
 .grind
theorem LY[aA]{c:bM}{tm:List AV}{t:Nat}{v:AV}{H':aK}(hs:aZ (aF T) c)(he:aG P cf fl (.freeze<|.tmp t) tm c.H=some (v,H')): ∃c',c'.w=c.w/\c'.H=H'/\aY fl c c'/\aZ (aF T) c'/\∀cv,RV (aF T) c (aB tm<|.tmp t) cv->RV (aF T) c' v cv:=by
 simp only[aG] at he
 split at he
 .rename_i id tot off len hx
  split at he
  .rename_i hle
   split at he
   .rename_i s es hob
    split at he
    .rename_i htot
     cases he
     exact⟨frz c id s es,rfl,rfl,kB hle hob,tR hs hob,λcv hcv=>Vn hs hob htot<|by rw[hx] at hcv;exact hcv⟩
    .cases he
   .cases he
  .cases he
 .rename_i id tot idx off hx
  split at he
  .rename_i hle
   split at he
   .rename_i s es hob
    split at he
    .rename_i htot
     split at he
     .rename_i e hi
      cases he
      exact⟨frz c id s es,rfl,rfl,kB hle hob,tR hs hob,λcv hcv=>Vm hs hob htot hi<|by rw[hx] at hcv;exact hcv⟩
     .cases he
    .cases he
   .cases he
  .cases he
 .cases he
  exact⟨c,rfl,rfl,aY.refl _ _,hs,λ_ h=>h⟩
theorem cZ[aA](hm:P.follows .mixedOrders=true)(hfo:fP cf)(hcf:jD P T cf)(hfn:fA P T): ∀(ac:bK) (code:Code),dT P T ac code=true->Yw P T fl (bW P cf lf fl ac) code
 | .skip,code,hchk=>by
  cases code<;>simp only[dT,Bool.false_eq_true] at hchk
  .intro c a tm x st' Q hs htr hfl hev hQ
   simp only[bW,Option.some.injEq,Prod.mk.injEq] at hev
   let⟨rfl,rfl⟩:=hev
   exact wp_skip<|hQ a c rfl (aY.refl _ _) hs htr rfl
  .intro c a tm x st' Q hs htr hfl hev hQ
   simp only[bW,Option.some.injEq,Prod.mk.injEq] at hev
   let⟨rfl,rfl⟩:=hev
   exact wp_label<|hQ a c rfl (aY.refl _ _) hs htr rfl
 | .scope p,code,hchk=>by
  cases code<;>try (simp only[dT,Bool.false_eq_true] at hchk;done)
  rename_i p'
  simp only[dT] at hchk
  have hp:=cZ hm hfo hcf hfn p p' hchk
  intro c a tm x st' Q hs htr hfl hev hQ
  simp only[bW] at hev
  refine wp_scope_straight<|hp c a tm x st' _ hs htr hfl hev ?_
  intro a' c' e1 e2 e3 e4 e5
  have:=hQ a' c' e1 e2 e3 e4 e5
  cases x<;>exact this
 | .nilIf t d0 d1 p q,code,hchk=>by
  cases code<;>try (simp only[dT,Bool.false_eq_true] at hchk;done)
  rename_i l q'
  cases l<;>try (simp only[dT,Bool.false_eq_true] at hchk;done)
  rename_i r cd
  cases r<;>try (simp only[dT,Bool.false_eq_true] at hchk;done)
  rename_i id ops draw
  cases cd<;>try (simp only[dT,Bool.false_eq_true] at hchk;done)
  rename_i k p' sk
  cases k<;>try (simp only[dT,Bool.false_eq_true] at hchk;done)
  rename_i e
  cases sk<;>try (simp only[dT,Bool.false_eq_true] at hchk;done)
  simp only[dT,Bool.and_eq_true,Bool.not_eq_true',beq_iff_eq] at hchk
  obtain⟨⟨⟨⟨rfl,rfl⟩,ho⟩,hcp⟩,hcq⟩:=hchk
  have hp:=cZ hm hfo hcf hfn p p' hcp
  have hq:=cZ hm hfo hcf hfn q q' hcq
  split at ho
  .rename_i o1 o2 hops
   simp only[Bool.and_eq_true] at ho
   intro c a tm x st' Q hs htr hfl hev hQ
   simp only[bW] at hev
   split at hev
   .rename_i hd0
    simp only[Bool.and_eq_true] at hd0
    have hd0':d0<tm.length:=Nat.le_of_ble_eq_true hd0.1
    have hd1':e<tm.length:=Nat.le_of_ble_eq_true hd0.2
    have h3:Io c.H (aB tm<|.tmp t)≠3:=by
     intro h
     rw[h] at hev
     cases hev
    refine wp_seq<|wp_seq<|OK hcf hfn hops ho.1 ho.2 hs htr hfl hd0' h3 ?_
    intro b a' c' hb0 hb1 e1 e2 e3 e4 e5
    have hval:a'.eval (.tmp e)=.bool b:=by
     let⟨v,k1,k2⟩:=e4.2 e (.lit<|.bool b)<|by simp[qF,hd1']
     simp only[Act.eval,Array.getD_eq_getD_getElem?,k1,Option.getD_some,k2.lit_inv]
    have e6:∀tm':List AV,(⟨tm',c'.H⟩:St)=⟨tm',c.H⟩:=λtm'=>by rw[e1]
    have joined:∀(pc:bK) (tm':List AV) (sa sb:St) (code:Code) (Q':Exit->Act->World->Prop),Yw P T fl (bW P cf lf fl pc) code->fl=c.H.length->sa.tmps.length=sb.tmps.length->
     (bW P cf lf fl pc ⟨tm',c.H⟩=some (.ret,sa)\/bW P cf lf fl pc ⟨tm',c.H⟩=some (.ret,sb))->TR (aF T) c' tm' a'.tmps->x=.ret->st'=⟨zY sa.tmps sb.tmps,c.H⟩->(∀a w,Q .ret a w->Q' .ret a w)->code.wp P Q' a' c'.w:=by
     intro pc tm' sa sb code Q' hok hflc hlen hor htr' hx hst hQ'
     subst hx hst
     have key:∀(s:St),bW P cf lf fl pc ⟨tm',c.H⟩=some (.ret,s)->(s=sa\/s=sb)->code.wp P Q' a' c'.w:=by
      intro s hes hss
      refine hok c' a' tm' .ret s Q' e3 htr' (Nat.le_trans hfl e2.len) (by rw[e6];exact hes) ?_
      intro a'' c'' k1 k2 k3 k4 k5
      have hst2:=e2.trans k2
      rw[hflc] at hst2
      let⟨c2,m1,m2,m3,m4⟩:=PH hs k3 hst2
      rw[<-hflc] at m3
      have:=hQ a'' c2 m2 m3 m4 (s7 hlen<|by rcases hss with rfl | rfl;exact .inl k4;exact .inr k4)<|k5.trans e5
      rw[m1] at this
      exact hQ' _ _ this
     rcases hor with h | h
     .grind
     .grind
    show (Code.cond (.tmp e) p' .skip).wp P _ a' c'.w
    cases b with
    | true=>
     refine wp_cond_true hval ?_
     split at hev
     .rename_i hk
      unfold yS at hev
      split at hev
      .rename_i x1 s1 he
       split at hev
       .grind
       .rename_i hne
        cases hev
        refine hp c' a' _ x st' _ e3 e4 (Nat.le_trans hfl e2.len) (by rw[e6];exact he) ?_
        intro a'' c'' k1 k2 k3 k4 k5
        have:=hQ a'' c'' k1 (e2.trans k2) k3 k4<|k5.trans e5
        cases x with
        | normal=>grind
        | exit i=>exact this
        | ret=>exact this
      .grind
     .grind
     .rename_i hk
      split at hev
      .rename_i hb
       unfold CC at hev
       split at hev
       .rename_i sa sb h1 h2
        split at hev
        .rename_i hl
         cases hev
         exact joined p _ sa sb p' _ hp (Nat.eq_of_beq_eq_true hb) (Nat.eq_of_beq_eq_true hl) (.inl h1) e4 rfl rfl λa w h=>h
        .grind
       .grind
      .grind
     .grind
    | false=>
     refine wp_cond_false hval<|wp_skip ?_
     show q'.wp P Q a' c'.w
     split at hev
     .grind
     .rename_i hk
      refine hq c' a' _ x st' _ e3 e4 (Nat.le_trans hfl e2.len) (by rw[e6];exact hev) ?_
      intro a'' c'' k1 k2 k3 k4 k5
      exact hQ a'' c'' k1 (e2.trans k2) k3 k4<|k5.trans e5
     .rename_i hk
      split at hev
      .rename_i hb
       unfold CC at hev
       split at hev
       .rename_i sa sb h1 h2
        split at hev
        .rename_i hl
         cases hev
         exact joined q _ sa sb q' _ hq (Nat.eq_of_beq_eq_true hb) (Nat.eq_of_beq_eq_true hl) (.inr h2) e4 rfl rfl λa w h=>h
        .cases hev
       .cases hev
      .cases hev
     .cases hev
   .cases hev
  .cases ho
 | .frz t q,code,hchk=>by
  have hq:=cZ hm hfo hcf hfn q code<|by cases code<;>(simp only[dT] at hchk;exact hchk)
  intro c a tm x st' Q hs htr hfl hev hQ
  simp only[bW] at hev
  split at hev
  .rename_i v H' he
   let⟨c',k1,k2,k3,k4,k5⟩:=LY hs he
   have htr':TR (aF T) c' (tm.set t v) a.tmps:=by
    refine⟨by simpa using htr.1,λu y hy=>?_⟩
    rw[List.getElem?_set] at hy
    split at hy
    .rename_i hut
     subst hut
     split at hy
     .rename_i hlt
      cases hy
      let⟨cv,g1,g2⟩:=htr.2 t tm[t]<|List.getElem?_eq_getElem hlt
      refine⟨cv,g1,k5 cv ?_⟩
      simp only[aB,List.getElem?_eq_getElem hlt]
      exact g2
     .cases hy
    .let⟨cv,g1,g2⟩:=htr.2 u y hy
     exact⟨cv,g1,g2.step k3⟩
   have:=hq c' a (tm.set t v) x st' Q k4 htr' (Nat.le_trans hfl k3.len) (by rw[k2];exact hev) λa' c'' e1 e2 e3 e4 e5=>hQ a' c'' e1 (k3.trans e2) e3 e4 e5
   rwa [k1] at this
  .cases hev
 | .stop,code,hchk=>by
  intro c a tm x st' Q hs htr hfl hev hQ
  simp only[bW] at hev
  cases hev
 | .mask lx lr tr q,code,hchk=>by
  have hq:=cZ hm hfo hcf hfn q code<|by cases code<;>(simp only[dT] at hchk;exact hchk)
  intro c a tm x st' Q hs htr hfl hev hQ
  simp only[bW,nH] at hev
  split at hev
  .rename_i x1 st1 he
   have key:∀y,st'=bR (some lx) tr fl c.H.length st1->bW P cf lf fl q ⟨tm,c.H⟩=some (y,st1)->x=y->code.wp P Q a c.w:=by
    intro y e he e'
    subst e e'
    refine hq c a tm x st1 Q hs htr hfl he ?_
    intro a' c' e1 e2 e3 e4 e5
    let⟨c2,h1,h2,h3,h4,h5⟩:=lH (live:=some lx) (tr:=tr) hs e3 e2 hfl e4
    have e6:(⟨st1.tmps,c'.H⟩:St)=st1:=by rw[e1]
    rw[e6] at h2 h5
    have:=hQ a' c2 h2 h3 h4 h5 e5
    rwa [h1] at this
   split at hev
   .simp only[Option.some.injEq,Prod.mk.injEq] at hev
    let⟨rfl,rfl⟩:=hev
    refine hq c a tm .ret st1 Q hs htr hfl he ?_
    intro a' c' e1 e2 e3 e4 e5
    exact hQ a' c' e1 e2 e3 (nR lr _ _ e4) e5
   .simp only[Option.some.injEq,Prod.mk.injEq] at hev
    let⟨rfl,rfl⟩:=hev
    exact key .normal rfl he rfl
   .rename_i i
    simp only[Option.some.injEq,Prod.mk.injEq] at hev
    let⟨rfl,rfl⟩:=hev
    exact key (.exit i) rfl he rfl
  .cases hev
 | .told li lx lr q,code,hchk=>by
  have hq:=cZ hm hfo hcf hfn q code<|by cases code<;>(simp only[dT] at hchk;exact hchk)
  intro c a tm x st' Q hs htr hfl hev hQ
  simp only[bW,nH] at hev
  split at hev
  .rename_i x1 st1 he
   have key:∀y,st'=bR (some lx) false fl c.H.length st1->bW P cf lf fl q ⟨cH li tm,c.H⟩=some (y,st1)->x=y->code.wp P Q a c.w:=by
    intro y e he e'
    subst e e'
    refine hq c a (cH li tm) x st1 Q hs (nR li tm _ htr) hfl he ?_
    intro a' c' e1 e2 e3 e4 e5
    let⟨c2,h1,h2,h3,h4,h5⟩:=lH (live:=some lx) (tr:=false) hs e3 e2 hfl e4
    have e6:(⟨st1.tmps,c'.H⟩:St)=st1:=by rw[e1]
    rw[e6] at h2 h5
    have:=hQ a' c2 h2 h3 h4 h5 e5
    rwa [h1] at this
   split at hev
   .simp only[Option.some.injEq,Prod.mk.injEq] at hev
    let⟨rfl,rfl⟩:=hev
    refine hq c a (cH li tm) .ret st1 Q hs (nR li tm _ htr) hfl he ?_
    intro a' c' e1 e2 e3 e4 e5
    exact hQ a' c' e1 e2 e3 (nR lr _ _ e4) e5
   .simp only[Option.some.injEq,Prod.mk.injEq] at hev
    let⟨rfl,rfl⟩:=hev
    exact key .normal rfl he rfl
   .rename_i i
    simp only[Option.some.injEq,Prod.mk.injEq] at hev
    let⟨rfl,rfl⟩:=hev
    exact key (.exit i) rfl he rfl
  .cases hev
 | .region draw ck aops,code,hchk=>by
  cases code<;>try (simp only[dT,Bool.false_eq_true] at hchk;done)
  rename_i id ops draw'
  have hd:draw=draw':=by simp only[dT,Bool.and_eq_true,beq_iff_eq] at hchk;exact hchk.1.1
  subst hd
  intro c a tm x st' Q hs htr hfl hev hQ
  simp only[bW] at hev
  split at hev
  .rename_i st1 he
   simp only[Option.some.injEq,Prod.mk.injEq] at hev
   let⟨rfl,rfl⟩:=hev
   exact tV hm hfo hcf hfn hchk hs htr hfl he hQ
  .cases hev
 | .seq p q,code,hchk=>by
  cases code<;>try (simp only[dT,Bool.false_eq_true] at hchk;done)
  rename_i p' q'
  simp only[dT,Bool.and_eq_true] at hchk
  have hp:=cZ hm hfo hcf hfn p p' hchk.1
  have hq:=cZ hm hfo hcf hfn q q' hchk.2
  intro c a tm x st' Q hs htr hfl hev hQ
  simp only[bW] at hev
  refine wp_seq ?_
  split at hev
  .rename_i st1 he
   refine hp c a tm .normal st1 _ hs htr hfl he ?_
   intro a' c' e1 e2 e3 e4 e5
   show q'.wp P Q a' c'.w
   refine hq c' a' st1.tmps x st' Q e3 e4 (Nat.le_trans hfl e2.len) (by rw[e1];exact hev) ?_
   intro a'' c'' f1 f2 f3 f4 f5
   exact hQ a'' c'' f1 (e2.trans f2) f3 f4<|f5.trans e5
  .rename_i r hne
   refine hp c a tm x st' _ hs htr hfl hev ?_
   intro a' c' e1 e2 e3 e4 e5
   have:=hQ a' c' e1 e2 e3 e4 e5
   cases x with
   | normal=>exact (hne st' hev).elim
   | exit id=>exact this
   | ret=>exact this
 | .cond k p q,code,hchk=>by
  cases code<;>try (simp only[dT,Bool.false_eq_true] at hchk;done)
  rename_i k' p' q'
  simp only[dT,Bool.and_eq_true] at hchk
  have hp:=cZ hm hfo hcf hfn p p' hchk.1.2
  have hq:=cZ hm hfo hcf hfn q q' hchk.2
  intro c a tm x st' Q hs htr hfl hev hQ
  have hk:=aM hs htr hchk.1.1
  simp only[bW] at hev
  split at hev
  .rename_i hb
   rw[hb] at hk
   exact wp_cond_true hk.lit_inv<|hp c a tm x st' Q hs htr hfl hev hQ
  .rename_i hb
   rw[hb] at hk
   exact wp_cond_false hk.lit_inv<|hq c a tm x st' Q hs htr hfl hev hQ
  .cases hev
 | .block i p,code,hchk=>by
  cases code<;>try (simp only[dT,Bool.false_eq_true] at hchk;done)
  rename_i i' p'
  simp only[dT,Bool.and_eq_true,beq_iff_eq] at hchk
  let⟨rfl,hchk⟩:=hchk
  have hp:=cZ hm hfo hcf hfn p p' hchk
  intro c a tm x st' Q hs htr hfl hev hQ
  simp only[bW] at hev
  refine wp_block ?_
  split at hev
  .rename_i j st1 he
   refine hp c a tm (.exit j) st1 _ hs htr hfl he ?_
   intro a' c' e1 e2 e3 e4 e5
   simp only[pC,Exit.inBlock]
   split at hev
   .rename_i hj
    simp only[Option.some.injEq,Prod.mk.injEq] at hev
    let⟨rfl,rfl⟩:=hev
    rw[if_pos hj]
    exact hQ a' c' e1 e2 e3 e4 e5
   .rename_i hj
    simp only[Option.some.injEq,Prod.mk.injEq] at hev
    let⟨rfl,rfl⟩:=hev
    rw[if_neg hj]
    exact hQ a' c' e1 e2 e3 e4 e5
  .rename_i r hne
   refine hp c a tm x st' _ hs htr hfl hev ?_
   intro a' c' e1 e2 e3 e4 e5
   have:=hQ a' c' e1 e2 e3 e4 e5
   cases x with
   | normal=>exact this
   | exit id=>exact (hne id st' hev).elim
   | ret=>exact this
 | .loop live tr p,code,hchk=>by
  cases code<;>try (simp only[dT,Bool.false_eq_true] at hchk;done)
  rename_i p'
  simp only[dT] at hchk
  have hp:=cZ hm hfo hcf hfn p p' hchk
  intro c a tm x st' Q hs htr hfl hev hQ
  simp only[bW] at hev
  exact wp_loop_rounds lf<|Ms hp hs hfl hQ lf c a tm hs (aY.refl _ _) htr rfl hev
 | .loopV live lx lr t p,code,hchk=>by
  cases code<;>try (simp only[dT,Bool.false_eq_true] at hchk;done)
  rename_i p'
  simp only[dT] at hchk
  have hp:=cZ hm hfo hcf hfn p p' hchk
  intro c a tm x st' Q hs htr hfl hev hQ
  simp only[bW] at hev
  split at hev
  .rename_i st1 hown
   let⟨c1,h1,h2,h3,h4,h5⟩:=NZ hs htr hown
   unfold BK at hev
   split at hev
   .rename_i x1 st2 he
    have e6:st1=⟨st1.tmps,c1.H⟩:=by rw[h2]
    rw[e6] at he
    have key:∀y,st'=Cm lx t fl c.H.length st2->x1=y->x=y->(Code.loop p').wp P Q a c.w:=by
     intro y e e1 e'
     subst e e1 e'
     rw[<-h1]
     refine wp_loop_rounds lf<|wQ hp (c0:=c) hfl (λd tm tv k1 k2 k3=>wV hs k1 k2 hfl k3) ?_ lf c1 a _ h4 h3 h5 rfl he
     intro a' c' e1 e2 e3 e4 e5
     let⟨c2,g1,g2,g3,g4,g5⟩:=wV (live:=lx) (t:=t) hs e3 e2 hfl e4
     have e7:(⟨st2.tmps,c'.H⟩:St)=st2:=by rw[e1]
     rw[e7] at g2 g5
     have:=hQ a' c2 g2 g3 g4 g5 e5
     rwa [g1] at this
    split at hev
    .simp only[Option.some.injEq,Prod.mk.injEq] at hev
     let⟨rfl,rfl⟩:=hev
     rw[<-h1]
     refine wp_loop_rounds lf<|wQ hp (c0:=c) hfl (λd tm tv k1 k2 k3=>wV hs k1 k2 hfl k3) ?_ lf c1 a _ h4 h3 h5 rfl he
     intro a' c' e1 e2 e3 e4 e5
     exact hQ a' c' e1 e2 e3 (nR lr _ _ e4) e5
    .simp only[Option.some.injEq,Prod.mk.injEq] at hev
     let⟨rfl,rfl⟩:=hev
     exact key .normal rfl rfl rfl
    .rename_i i
     simp only[Option.some.injEq,Prod.mk.injEq] at hev
     let⟨rfl,rfl⟩:=hev
     exact key (.exit i) rfl rfl rfl
   .cases hev
  .cases hev
 | .exit i,code,hchk=>by
  cases code<;>try (simp only[dT,Bool.false_eq_true] at hchk;done)
  rename_i i'
  simp only[dT,beq_iff_eq] at hchk
  subst hchk
  intro c a tm x st' Q hs htr hfl hev hQ
  simp only[bW,Option.some.injEq,Prod.mk.injEq] at hev
  let⟨rfl,rfl⟩:=hev
  exact wp_exit<|hQ a c rfl (aY.refl _ _) hs htr rfl
 | .ret,code,hchk=>by
  cases code<;>try (simp only[dT,Bool.false_eq_true] at hchk;done)
  intro c a tm x st' Q hs htr hfl hev hQ
  simp only[bW,Option.some.injEq,Prod.mk.injEq] at hev
  let⟨rfl,rfl⟩:=hev
  exact wp_ret<|hQ a c rfl (aY.refl _ _) hs htr rfl
end
section
variable {P:Program}{T:List bC}{cf:Nat->Nat->List AV->aK->Option (AV×aK)}{fl lf:Nat}
theorem xB[aA](b:fP cf){m:Nat}: ∀(l:List aH) (st st':St),(fl<=m/\m<=st.heap.length)->aW P cf fl l st=some st'->Fr fl m st.heap st'.heap
 | [],st,st',h,a=>by simp only[aW] at a;cases a;exact .refl h
 | o::r,st,st',h,a=>by
  simp only[aW] at a;split at a
  .rename_i c d;have k:=Uh b h d;exact k.trans<|xB b r c st' (Fr.go h k) a
  .cases a
theorem lI[aA]{m:Nat}{live:Option<|List Bool}{tr:Bool}{n:Nat}{st:St}(h:fl<=m/\m<=st.heap.length)(a:fl<=m/\m<=n): Fr fl m st.heap (bR live tr fl n st).heap:=by
 cases tr with
 | false=>exact .refl h
 | true=>
  simp only[bR,if_true];refine⟨?_,by simp;omega⟩;rw[List.take_append_of_le_length<|by simp;omega,List.take_take,Nat.min_self]
theorem Nh[aA]{m:Nat}{live:List Bool}{t n:Nat}{st:St}(h:fl<=m/\m<=st.heap.length)(b:fl<=m/\m<=n): Fr fl m st.heap (Cm live t fl n st).heap:=by
 have a:=lI (live:=some live) (tr:=true) h b;unfold Cm;split
 .split
  .split
   .refine⟨?_,by simp;omega⟩;simp only;rw[List.append_assoc,List.take_append_of_le_length<|by simp;omega,List.take_take,Nat.min_self]
   .exact a
  .exact a
 .exact a
theorem Fh[aA]{m:Nat}{b:St->St}{step:St->Option (bJ×St)}(g:∀st,(fl<=m/\m<=st.heap.length)->Fr fl m st.heap (b st).heap)(d:∀st x st',(fl<=m/\m<=st.heap.length)->step st=some (x,st')->Fr fl m st.heap st'.heap):
 ∀(n:Nat) (st:St) (x:bJ) (st':St),(fl<=m/\m<=st.heap.length)->dK b step n st=some (x,st')->Fr fl m st.heap st'.heap
 | 0,_,_,_,_,h=>by cases h
 | n+1,st,x,st',h,a=>by
  simp only[dK] at a;have c:=g st h;split at a
  .rename_i e he;have f:=d _ _ _ (Fr.go h c) he;exact (c.trans f).trans<|Fh g d n e x st' (Fr.go h f) a
  .exact c.trans<|d _ _ _ (Fr.go h c) a
theorem iB[aA](e:fP cf){m:Nat}: ∀(c:bK) (st:St) (x:bJ) (st':St),(fl<=m/\m<=st.heap.length)->bW P cf lf fl c st=some (x,st')->Fr fl m st.heap st'.heap
 | .skip,st,x,st',h,d=>by simp only[bW] at d;cases d;exact .refl h
 | .exit _,st,x,st',h,d=>by simp only[bW] at d;cases d;exact .refl h
 | .ret,st,x,st',h,d=>by simp only[bW] at d;cases d;exact .refl h
 | .stop,st,x,st',h,d=>by simp only[bW] at d;cases d
 | .region _ y ops,st,x,st',h,d=>by
  simp only[bW] at d;split at d
  .rename_i g he;cases d;rcases sO e he with ⟨_,k⟩ | ⟨_,_,z,_,k⟩
   .exact xB e ops st _ h k
   .have a:=Fr.app (L:=[.blk z.length [z.map .lit]]) h;exact a.trans<|xB e _ _ _ (Fr.go h a) k
  .cases d
 | .seq a b,st,x,st',h,d=>by
  simp only[bW] at d;split at d
  .rename_i g he;have k:=iB e a st _ g h he;exact k.trans<|iB e b g x st' (Fr.go h k) d
  .exact iB e a st x st' h d
 | .cond c a b,st,x,st',h,d=>by
  simp only[bW] at d;split at d
  .exact iB e a st x st' h d
  .exact iB e b st x st' h d
  .cases d
 | .block id c,st,x,st',h,d=>by
  simp only[bW] at d;split at d
  .rename_i i g he;have k:=iB e c st _ g h he;split at d<;>cases d<;>exact k
  .exact iB e c st x st' h d
 | .loop live tr c,st,x,st',h,d=>by
  simp only[bW] at d;exact Fh (λst k=>lI k h) (λst x st' k he=>iB e c st x st' k he) lf st x st' h d
 | .frz t c,st,x,st',h,d=>by
  simp only[bW] at d;split at d
  .rename_i v H he;have k:=Xh e h he;exact k.trans<|iB e c _ x st' (Fr.go h k) d
  .cases d
 | .mask n s tr c,st,x,st',h,d=>by
  simp only[bW,nH] at d;split at d
  .rename_i j g he;have k:=iB e c st _ g h he;split at d
   .cases d;exact k
   .cases d;exact k.trans<|lI (Fr.go h k) h
   .cases d;exact k.trans<|lI (Fr.go h k) h
  .cases d
 | .told w n s c,st,x,st',h,d=>by
  simp only[bW,nH] at d;split at d
  .rename_i j g he;have k:=iB e c ⟨cH w st.tmps,st.heap⟩ _ g h he;split at d
   .cases d;exact k
   .cases d;exact k.trans<|lI (Fr.go h k) h
   .cases d;exact k.trans<|lI (Fr.go h k) h
  .cases d
 | .scope c,st,x,st',h,d=>by
  simp only[bW] at d;exact iB e c st x st' h d
 | .nilIf t r q a b,st,x,st',h,d=>by
  simp only[bW] at d;split at d
  .split at d
   .unfold yS at d;split at d
    .rename_i j z he;split at d
     .cases d
     .cases d;exact iB e a ⟨qF st.tmps t r q true,st.heap⟩ _ _ h he
    .cases d
   .exact iB e b ⟨qF st.tmps t r q false,st.heap⟩ _ _ h d
   .split at d
    .unfold CC at d;split at d
     .split at d
      .cases d;exact .refl h
      .cases d
     .cases d
    .cases d
   .cases d
  .cases d
 | .loopV live n s t c,st,x,st',h,d=>by
  simp only[bW] at d;split at d
  .rename_i g f;have o:Fr fl m st.heap g.heap:=by
    unfold KN at f;split at f
    .split at f
     .rename_i p;split at f
      .split at f
       .cases f;exact (Fr.set h p).trans<|.app<|Fr.go h<|Fr.set h p
       .cases f
      .cases f
     .cases f
    .cases f
   unfold BK at d;split at d
   .rename_i j l he;have u:=Fh (λst k=>Nh k h) (λst x st' k he=>iB e c st x st' k he) lf g _ l (Fr.go h o) he;have k:=o.trans u;split at d
    .cases d;exact k
    .cases d;exact k.trans<|Nh (Fr.go h k) h
    .cases d;exact k.trans<|Nh (Fr.go h k) h
   .cases d
  .cases d
end
theorem uK[aA](P:Program)(T:List bC)(c:∀cf,fP cf->fP (vE cf)): ∀n,fP<|eB P T n
 | 0=>λ_ _ _ _ _ _ _ _ h=>by cases h
 | n+1=>λfl m vi b H r H' h a=>by
  simp only[eB] at a;split at a
  .rename_i g d;exact c _ (uK P T c n) fl m vi b H r H' h<|by simp only[vE,d];exact a
  .split at a
   .cases a
   split at a
   .rename_i st he;split at a
    .cases a;exact iB (uK P T c n) _ _ _ _ h he
    .cases a
   .rename_i st he;split at a
    .cases a;exact iB (uK P T c n) _ _ _ _ h he
    .cases a
   .cases a
def He: Nat->List (Nat×Nat)->Option Nat
 | _,[]=>none
 | v,p::r=>match Nat.beq p.1 v with
  | true=>some p.2
  | false=>He v r
def gK[aA](n:Int): Value:=.iface aA.ft (.agg #[.int .i64 n])
def xN[aA](n:Int): List PanicEntry:=[{ v:=gK n,recovered:=false }]
def Y6[aA](FT:Nat->Option Nat)(c:bM)(r:AV)(e:Ending): Prop:=
 (∃e0 rr v,r=.tup (.lit (.bool false)::e0::rr)/\e=.returned v/\RV FT c (mG rr) v)\/∃n rr,r=.tup (.lit (.bool true)::.lit (.int .i64 n)::rr)/\e=.panicked (xN n)
def Il[aA](P:Program)(T:List bC)(cf:CF): Prop:=
 ∀(fl vi vs f:Nat) (args:List AV) (r:AV) (H':aK) (c:bM) (us:Array Value),He vi aA.sh=some vs->aF T vi=some f->args.length<=4->cf fl vs args c.H=some (r,H')->aZ (aF T) c->fl<=c.H.length->gY (aF T) c args us->
  Calls P f us c.w λe w'=>∃c',c'.w=w'/\c'.H=H'/\c'.X=c.X/\aY fl c c'/\aZ (aF T) c'/\Y6 (aF T) c' r e
def LD: Option (AV×aK)->Option (AV×aK)
 | some (r,H)=>match r with
  | .tup vs=>match vs with
   | a::b=>match a with
    | .lit u=>match u with
     | .bool t=>match t with
      | false=>match b with
       | _::rr=>some (mG rr,H)
       | []=>none
      | true=>none
     | _=>none
    | _=>none
   | []=>none
  | _=>none
 | none=>none
theorem Mj{q:Option (AV×aK)}{r:AV}{H:aK}(h:LD q=some (r,H)): ∃e0 rr,q=some (.tup (.lit (.bool false)::e0::rr),H)/\r=mG rr:=by
 unfold LD at h
 repeat' split at h
 all_goals first | cases h;done | skip
 simp only[Option.some.injEq,Prod.mk.injEq] at h;let⟨e,g⟩:=h;subst e g;exact⟨_,_,rfl,rfl⟩
def oW[aA](cf:CF): CF:=λfl vi args H=>match He vi aA.sh with
 | some vs=>match Nat.ble args.length 4 with
  | true=>LD (cf fl vs args H)
  | false=>none
 | none=>cf fl vi args H
section
variable {P:Program}{T:List bC}{cf:CF}{fl lf:Nat}
theorem k7[aA](h:jD P T cf)(k:Il P T cf): jD P T (oW cf):=by
 intro fl vi f args r H' c us e g s l a;unfold oW at e;split at e
 .rename_i vs z;split at e
  .rename_i b;let⟨e0,rr,q,y⟩:=Mj e;subst y
   refine (k fl vi vs f args _ H' c us z g (Nat.le_of_ble_eq_true b) q s l a).mono ?_;rintro e w' ⟨c',h1,h2,h3,h4,h5,h6⟩
   rcases h6 with⟨e1,rr',v,d,rfl,m⟩ | ⟨n,rr',d,_⟩
   .simp only[AV.tup.injEq,List.cons.injEq] at d;let⟨_,_,d⟩:=d;subst d;exact⟨v,c',rfl,h1,h2,h3,h4,h5,m⟩
   .simp only[AV.tup.injEq,List.cons.injEq,AV.lit.injEq,Value.bool.injEq] at d;cases d.1
  .cases e
 .exact h fl vi f args r H' c us e g s l a
theorem k8[aA](h:fP cf): fP (oW cf):=by
 intro fl n vi args H r H' g e;unfold oW at e;split at e
 .split at e
  .let⟨_,_,q,_⟩:=Mj e;exact h fl n _ args H _ H' g q
  .cases e
 .exact h fl n vi args H r H' g e
def QU(FT:Nat->Option Nat)(n0:Nat)(c:bM)(tm:List AV)(tv:Array Value): Prop:=n0+3<=tm.length/\TR FT c (tm.take n0) tv
def Wy(n0:Nat)(o:aH): Bool:=(kD o).all λt=>Nat.blt t n0
theorem take_set{α:Type}: ∀(l:List α) (n i:Nat) (x:α),(l.set i x).take n=(l.take n).set i x:=λl n i x=>by rw[List.take_set]
theorem NT(tm:List AV)(d:Option Nat)(x:AV)(n:Nat): (dL tm d x).take n=dL (tm.take n) d x:=by
 cases d with
 | none=>rfl
 | some d=>exact take_set tm n d x
theorem Ep[aA]{n0:Nat}{o:aH}{tm:List AV}{H:aK}{st:St}(h:Wy n0 o=true)(e:aV P cf fl o ⟨tm,H⟩=some st): aV P cf fl o ⟨tm.take n0,H⟩=some ⟨st.tmps.take n0,st.heap⟩/\st.tmps.length=tm.length:=by
 have g:∀t∈kD o,(tm.take n0)[t]?=tm[t]?:=λt m=>by
  have:=List.all_eq_true.1 h t m;rw[List.getElem?_take,if_pos];simpa [Nat.blt_eq] using this
 let⟨x,a,b⟩:=nW g e;rw[b,a,NT];exact⟨rfl,jT _ _ _⟩
theorem mD[aA]{n0:Nat}: ∀{l:List aH}{tm:List AV}{H:aK}{st:St},l.all (Wy n0)=true->aW P cf fl l ⟨tm,H⟩=some st->aW P cf fl l ⟨tm.take n0,H⟩=some ⟨st.tmps.take n0,st.heap⟩/\st.tmps.length=tm.length
 | [],tm,H,st,_,e=>by simp only[aW,Option.some.injEq] at e;subst e;exact⟨rfl,rfl⟩
 | o::r,tm,H,st,h,e=>by
  simp only[List.all_cons,Bool.and_eq_true] at h;simp only[aW] at e;split at e
  .rename_i s k;let⟨a,b⟩:=Ep h.1 k;let⟨d,g⟩:=mD h.2 e;simp only[aW,a];exact⟨d,g.trans b⟩
  .cases e
def dE(n0:Nat)(s:St): St:=⟨s.tmps.take n0,s.heap⟩
theorem Eo[aA]{n0:Nat}: ∀{l:List aH}{tm:List AV}{H:aK}{L:List St},l.all (Wy n0)=true->bU P cf fl l ⟨tm,H⟩=some L->bU P cf fl l ⟨tm.take n0,H⟩=some (L.map (dE n0))
 | [],tm,H,L,_,e=>by simp only[bU,Option.some.injEq] at e;subst e;rfl
 | o::r,tm,H,L,h,e=>by
  simp only[List.all_cons,Bool.and_eq_true] at h;simp only[bU] at e;split at e
  .rename_i s k;split at e
   .rename_i q m;cases e;let⟨a,_⟩:=Ep h.1 k;simp only[bU,a,Eo h.2 m];rfl
   .cases e
  .cases e
theorem Dz[aA]{n0:Nat}{o:aH}{tm:List AV}(h:Wy n0 o=true): bY (tm.take n0) o.guard=bY tm o.guard:=by
 apply Gn;intro t b e;have:=List.all_eq_true.1 h t (by simp[kD,e]);rw[List.getElem?_take,if_pos];simpa [Nat.blt_eq] using this
theorem wN[aA]{n0:Nat}{o:aH}{tm:List AV}(h:Wy n0 o=true): ∀x∈eN o.op,aB (tm.take n0) x=aB tm x:=by
 apply uG;intro t m;have:=List.all_eq_true.1 h t (by unfold kD;split<;>simp[m]);rw[List.getElem?_take,if_pos];simpa [Nat.blt_eq] using this
theorem Gs[aA]{n0:Nat}{o:aH}{tm:List AV}(h:Wy n0 o=true): bL o.op (tm.take n0)=bL o.op tm:=by
 have g:=wN (tm:=tm) h;generalize o.op=k at g |-;cases k with
 | call pu vi d=>cases pu<;>simp only[eN] at g<;>simp only[bL,List.map_congr_left g]
 | callS vi d=>simp only[eN] at g;simp only[bL,List.map_congr_left g]
 | callB vi d=>
  simp only[eN] at g;match d,g with
  | [],_=>rfl
  | [x],g=>simp only[bL,g x (by simp)]
  | _::_::_,_=>rfl
 | callv pu x d=>
  simp only[eN] at g;cases pu with
  | false=>rfl
  | true=>
   have q:d.map (aB (tm.take n0))=d.map (aB tm):=List.map_congr_left λy m=>g y (List.mem_cons_of_mem _ m)
   simp only[bL,g x (by simp),q]
 | _=>first | rfl | (simp only[eN,List.mem_cons,List.not_mem_nil,or_false,forall_eq_or_imp,forall_eq,false_imp_iff,implies_true] at g;simp only[bL];first | rfl | rw[g] | rw[g.1]) | (simp only[eN] at g;simp only[bL];rw[g _ (by simp)])
theorem GP[aA]{n0:Nat}{o:aH}{tm:List AV}{n id:Nat}(h:Wy n0 o=true): eP o.op (tm.take n0) n id=eP o.op tm n id:=by
 have g:=wN (tm:=tm) h;generalize o.op=k at g |-;cases k with
 | store _ x v=>simp only[eN] at g;simp only[eP,g x (by simp)]
 | append _ _ x y=>simp only[eN] at g;simp only[eP,g x (by simp)]
 | mapUpd _ m k v=>simp only[eN] at g;simp only[eP,g m (by simp)]
 | _=>rfl
theorem yX{n0:Nat}{L:List St}{k:Nat}: (L.map (dE n0))[k]?=(L[k]?).map (dE n0):=by simp
theorem EN{n0:Nat}{o:tK}{L:List St}{m id:Nat}: vY o (L.map (dE n0)) m id=vY o L m id:=by
 unfold vY;split
 .rw[yX,yX];cases L[m]? with
  | none=>rfl
  | some s=>cases L[m+1]?<;>rfl
 .rfl
theorem HL[aA]{n0:Nat}{ops:List aH}{L:List St}{k m:Nat}(h:ops.all (Wy n0)=true)(e:vM ops L k m=true): vM ops (L.map (dE n0)) k m=true:=by
 have g:∀{i:Nat}{o:aH},ops[i]?=some o->Wy n0 o=true:=λa=>List.all_eq_true.1 h _ (List.mem_of_getElem? a)
 unfold vM at e |-;rw[yX,yX];cases a:ops[k]? with
 | none=>rw[a] at e;cases e
 | some ok=>
  cases b:L[k]? with
  | none=>rw[a,b] at e;cases e
  | some sk=>
   simp only[a,b,Option.map_some,dE,Dz (g a),Gs (g a)] at e |-
   cases q:ops[m]? with
   | none=>simp only[q] at e |-;exact e
   | some om=>
    cases y:L[m]? with
    | none=>simp only[q,y,Option.map_none] at e |-;exact e
    | some sm=>
     simp only[q,y,Option.map_some,dE,Dz (g q),GP (g q),EN] at e |-;exact e
theorem Ok[aA]{n0:Nat}{ops:List aH}{L:List St}(h:ops.all (Wy n0)=true): ∀{r:List (Nat×Nat)},kX ops L r=true->kX ops (L.map (dE n0)) r=true
 | [],_=>rfl
 | (k,m)::r,e=>by
  simp only[kX] at e |-;split at e
  .rename_i d;rw[HL h d];exact Ok h e
  .cases e
theorem GM{n0:Nat}{L:List St}{s:St}(h:L.getLast?=some s): (L.map (dE n0)).getLast?=some (dE n0 s):=by
 rw[List.getLast?_map,h];rfl
theorem TJ[aA]: ∀{l:List aH}{st:St}{L:List St}{s:St},bU P cf fl l st=some L->L.getLast?=some s->s.tmps.length=st.tmps.length:=by
 intro l st L s h e;have a:=uJ l st L h;rw[e] at a
 have g:∀(l:List aH) (st s:St),aW P cf fl l st=some s->s.tmps.length=st.tmps.length:=by
  intro l;induction l with
  | nil=>intro st s a;simp only[aW,Option.some.injEq] at a;rw[a]
  | cons o r i=>
   intro st s a;simp only[aW] at a;split at a
   .rename_i t k;rw[i t s a];unfold aV at k;split at k
    .split at k
     .cases k;exact jT _ _ _
     .cases k
    .cases k;exact jT _ _ _
    .cases k
   .cases a
 exact g l st s a
theorem SV[aA]{n0:Nat}{ck:List (Nat×Nat)}{ops:List aH}{tm:List AV}{H:aK}{st:St}(hm:pT ck=none)(h:ops.all (Wy n0)=true)(e:dN P cf fl ck ops ⟨tm,H⟩=some st): dN P cf fl ck ops ⟨tm.take n0,H⟩=some ⟨st.tmps.take n0,st.heap⟩/\st.tmps.length=tm.length:=by
 cases ck with
 | nil=>exact mD h e
 | cons c r=>
  unfold dN at e |-;cases hb:Nat.beq c.1 c.2 with
  | true=>simp only[pT,hb] at hm;cases hm
  | false=>
   simp only[hb] at e |-;split at e
   .rename_i L a;rw[Eo h a];simp only;split at e
    .rename_i d;rw[Ok h d];simp only;rw[GM e];exact⟨rfl,TJ a e⟩
    .cases e
   .cases e
def Et: tK->Bool
 | .call _ _ _=>false
 | .callv _ _ _=>false
 | .callF _ _=>false
 | .callT _ _ _=>false
 | .callB _ _=>false
 | .callS _ _=>false
 | _=>true
theorem CS[aA]{cf cf':CF}{o:tK}{tm:List AV}{H:aK}(h:Et o=true): aG P cf fl o tm H=aG P cf' fl o tm H:=by
 cases o<;>first | rfl | cases h
theorem Aa[aA]{cf cf':CF}{o:aH}{st:St}(h:Et o.op=true): aV P cf fl o st=aV P cf' fl o st:=by
 unfold aV;rw[CS (cf':=cf') h]
theorem kL[aA]{cf cf':CF}: ∀{l:List aH}{st:St},l.all (λo=>Et o.op)=true->aW P cf fl l st=aW P cf' fl l st
 | [],_,_=>rfl
 | o::r,st,h=>by
  simp only[List.all_cons,Bool.and_eq_true] at h;simp only[aW,Aa (cf':=cf') h.1];split
  .exact kL h.2
  .rfl
theorem zZ[aA]{cf cf':CF}: ∀{l:List aH}{st:St},l.all (λo=>Et o.op)=true->bU P cf fl l st=bU P cf' fl l st
 | [],_,_=>rfl
 | o::r,st,h=>by
  simp only[List.all_cons,Bool.and_eq_true] at h;simp only[bU,Aa (cf':=cf') h.1];split
  .rw[zZ (cf':=cf') h.2]
  .rfl
theorem Fg[aA]: ∀{A B:List aH}{st s:St},aW P cf fl (A++B) st=some s->∃m,aW P cf fl A st=some m/\aW P cf fl B m=some s
 | [],B,st,s,h=>⟨st,rfl,h⟩
 | o::r,B,st,s,h=>by
  simp only[List.cons_append,aW] at h;split at h
  .rename_i t e;let⟨m,a,b⟩:=Fg h;exact⟨m,by simp only[aW,e];exact a,b⟩
  .cases h
theorem Ff[aA]: ∀{A B:List aH}{st m s:St},aW P cf fl A st=some m->aW P cf fl B m=some s->aW P cf fl (A++B) st=some s
 | [],B,st,m,s,a,b=>by simp only[aW,Option.some.injEq] at a;subst a;exact b
 | o::r,B,st,m,s,a,b=>by
  simp only[aW] at a;split at a
  .rename_i t e;simp only[List.cons_append,aW,e];exact Ff a b
  .cases a
theorem yQ[aA]{l:List aH}{st:St}{L:List St}(h:bU P cf fl l st=some L): ∃r,L=st::r:=by
 cases l with
 | nil=>simp only[bU,Option.some.injEq] at h;exact⟨[],h.symm⟩
 | cons o r=>
  simp only[bU] at h;split at h
  .split at h
   .rename_i q _;cases h;exact⟨q,rfl⟩
   .cases h
  .cases h
theorem Mi[aA]: ∀{A B:List aH}{st:St}{L:List St},bU P cf fl (A++B) st=some L->∃LA m LB,bU P cf fl A st=some LA/\aW P cf fl A st=some m/\bU P cf fl B m=some LB/\L=LA.dropLast++LB/\LA.length=A.length+1
 | [],B,st,L,h=>⟨[st],st,L,rfl,rfl,h,rfl,rfl⟩
 | o::r,B,st,L,h=>by
  simp only[List.cons_append,bU] at h;split at h
  .rename_i t e;split at h
   .rename_i q z;cases h;let⟨LA,m,LB,a,b,d,f,g⟩:=Mi z;let⟨w,y⟩:=yQ a;subst y
    exact⟨st::t::w,m,LB,by simp only[bU,e,a],by simp only[aW,e];exact b,d,by rw[f];rfl,by simpa using g⟩
   .cases h
  .cases h
theorem AX[aA]: ∀{A B:List aH}{st m:St}{LA LB:List St},bU P cf fl A st=some LA->aW P cf fl A st=some m->bU P cf fl B m=some LB->bU P cf fl (A++B) st=some (LA.dropLast++LB)
 | [],B,st,m,LA,LB,a,b,d=>by
  simp only[bU,Option.some.injEq] at a;simp only[aW,Option.some.injEq] at b;subst a b;exact d
 | o::r,B,st,m,LA,LB,a,b,d=>by
  simp only[bU] at a;simp only[aW] at b;split at a
  .rename_i t e;split at a
   .rename_i q z;cases a;simp only[e] at b;let⟨w,y⟩:=yQ z;subst y;simp only[List.cons_append,bU,e,AX z b d];rfl
   .cases a
  .cases a
theorem Tf[aA]: ∀{l:List aH}{st s:St},aW P cf fl l st=some s->∃L,bU P cf fl l st=some L/\L.getLast?=some s
 | [],st,s,h=>by simp only[aW,Option.some.injEq] at h;subst h;exact⟨[st],rfl,rfl⟩
 | o::r,st,s,h=>by
  simp only[aW] at h;split at h
  .rename_i t e;let⟨L,a,b⟩:=Tf h;let⟨w,y⟩:=yQ a;subst y;exact⟨st::t::w,by simp only[bU,e,a],by rw[List.getLast?_cons_cons];exact b⟩
  .cases h
def a6: List aH->Option (List aH×aH×aH×aH)
 | x::r=>match a6 r with
  | some (A,p)=>some (x::A,p)
  | none=>match r with
   | [y,z]=>some ([],x,y,z)
   | _=>none
 | []=>none
theorem Ta: ∀{L A:List aH}{x y z:aH},a6 L=some (A,x,y,z)->L=A++[x,y,z]
 | [],_,_,_,_,h=>by cases h
 | o::r,A,x,y,z,h=>by
  simp only[a6] at h;split at h
  .rename_i A' p e;simp only[Option.some.injEq,Prod.mk.injEq] at h;let⟨h1,h2⟩:=h;subst h1 h2;rw[Ta e];rfl
  .split at h
   .simp only[Option.some.injEq,Prod.mk.injEq] at h;let⟨h1,h2,h3,h4⟩:=h;subst h1 h2 h3 h4;rfl
   .cases h
def s9(o:aH)(t d i:Nat): Bool:=o.dst==some t&&o.guard.isNone&&match o.op with
 | .extract x j=>match x with
  | .tmp s=>Nat.beq s d&&Nat.beq j i
  | _=>false
 | _=>false
theorem Ua{o:aH}{t d i:Nat}(h:s9 o t d i=true): o=⟨some t,.extract (.tmp d) i,none⟩:=by
 unfold s9 at h;let⟨a,b,g⟩:=o;simp only[Bool.and_eq_true,beq_iff_eq,Option.isNone_iff_eq_none] at h;let⟨⟨h1,h2⟩,h3⟩:=h;subst h1 h2;split at h3
 .split at h3
  .simp only[Bool.and_eq_true] at h3;rw[Nat.eq_of_beq_eq_true h3.1,Nat.eq_of_beq_eq_true h3.2]
  .cases h3
 .cases h3
def s8(o:aH)(d t:Nat): Bool:=match o.guard with
 | none=>match o.dst with
  | some e=>match Nat.beq e d with
   | true=>match o.op with
    | .tail2 x=>match x with
     | .tmp u=>Nat.beq u t
     | _=>false
    | _=>false
   | false=>false
  | none=>false
 | some _=>false
theorem OV{o:aH}{d t:Nat}(h:s8 o d t=true): o=⟨some d,.tail2 (.tmp t),none⟩:=by
 unfold s8 at h;let⟨a,b,g⟩:=o;simp only at h
 split at h
 case h_2=>cases h
 split at h
 case h_2=>cases h
 split at h
 case h_2=>cases h
 rename_i e
 split at h
 case h_2=>cases h
 split at h
 case h_2=>cases h
 rw[Nat.eq_of_beq_eq_true h,Nat.eq_of_beq_eq_true e]
def VK(n0:Nat)(R:List aH): Option Nat×List aH:=match R with
 | []=>(none,[])
 | o::B=>match o.dst with
  | some d=>match s8 o d n0 with
   | true=>(some d,B)
   | false=>(none,o::B)
  | none=>(none,o::B)
end
section
variable {P:Program}{T:List bC}{cf:CF}{fl lf:Nat}
theorem tZ[aA](h:jD P T cf)(l:fA P T){ops:Array Oper}{Q:Exit->Act->World->Prop}{rest:List Nat}: ∀(aops:List aH) (os:List Oper) (k:Nat) (c:bM) (a:Act) (tm:List AV) (st':St),
 cP P T ops aops os=true->(∀j o,os[j]?=some o->ops[k+j]?=some o)->aZ (aF T) c->TR (aF T) c tm a.tmps->fl<=c.H.length->aW P cf fl aops ⟨tm,c.H⟩=some st'->
 (∀a' c',c'.H=st'.heap->aY fl c c'->aZ (aF T) c'->TR (aF T) c' st'.tmps a'.tmps->a'.defers=a.defers->wpOps P ops Q rest a' c'.w)->wpOps P ops Q (List.range' k aops.length++rest) a c.w
 | [],[],k,c,a,tm,st',_,_,s,f,_,d,n=>by
  simp only[aW,Option.some.injEq] at d;subst d;exact n a c rfl (aY.refl _ _) s f rfl
 | ao::r,o::os,k,c,a,tm,st',b,e,s,f,i,d,n=>by
  simp only[cP,Bool.and_eq_true] at b;simp only[aW] at d;split at d
  .rename_i g x;simp only[List.length_cons,List.range'_succ,List.cons_append,wpOps_cons];refine oU h l s f i (e 0 o<|by simp) b.1 x ?_;intro a' c' t e2 y u z _;have:(⟨g.tmps,c'.H⟩:St)=g:=by rw[t]
   refine tZ h l r os (k+1) c' a' g.tmps st' b.2 (λj p B=>?_) y u (Nat.le_trans i e2.len) (by rw[this];exact d) ?_
   .have:=e (j+1) p (by simpa using B);rwa [show k+(j+1)=k+1+j by omega] at this
   .intro q m f1 f2 A v C;exact n q m f1 (e2.trans f2) A v<|C.trans z
  .cases d
 | [],_::_,_,_,_,_,_,b,_,_,_,_,_,_=>by cases b
 | _::_,[],_,_,_,_,_,b,_,_,_,_,_,_=>by cases b
theorem Up[aA]{ops:Array Oper}{d:Option Nat}{pu:Bool}{vi:Nat}{args:List aN}{o:Oper}(h:cW P T ops ⟨d,.call pu vi args,none⟩ o=true): d=o.dst/\o.guard=none/\∃f as1 ts,o.op=.call ⟨.value<|.func f,as1,ts⟩/\aF T vi=some f/\cX T args as1.toList=true:=by
 simp only[cW,Bool.and_eq_true,beq_iff_eq] at h;let⟨⟨a,b⟩,e⟩:=h;refine⟨a,?_,?_⟩
 .cases g:o.guard with
  | none=>rfl
  | some q=>rw[g] at b;cases b
 .simp only[bP] at e;split at e
  .rename_i f as1 ts q;simp only[Bool.and_eq_true,beq_iff_eq] at e;exact⟨f,as1,ts,q,e.1,e.2⟩
  .cases e
theorem AP[aA](hpan:Il P T cf)(hfn:fA P T){ops:Array Oper}{i vi vs f:Nat}{o:Oper}{args:List aN}{as1:Array Operand}{ts:Array TypeId}{c:bM}{a:Act}{tm:List AV}{r:AV}{H':aK}{K:Act->World->Prop}{Q:Exit->Act->World->Prop}(ho:ops[i]?=some o)(hop:o.op=.call ⟨.value<|.func f,as1,ts⟩)(hg:o.guard=none)(hft:aF T vi=some f)(hsh:He vi aA.sh=some vs)(hargs:cX T args as1.toList=true)(hle:args.length<=4)(hs:aZ (aF T) c)(htr:TR (aF T) c tm a.tmps)(hfl:fl<=c.H.length)(hev:cf fl vs (args.map<|aB tm) c.H=some (r,H'))
 (hk:∀c' v e0 rr,r=.tup (.lit (.bool false)::e0::rr)->c'.H=H'->aY fl c c'->aZ (aF T) c'->RV (aF T) c' (mG rr) v->K (a.put o.dst v) c'.w)
 (hp:∀c' n rr,r=.tup (.lit (.bool true)::.lit (.int .i64 n)::rr)->c'.H=H'->aY fl c c'->aZ (aF T) c'->Q (.panic (xN n)) a c'.w): wpOp P ops Q i K a c.w:=by
 unfold wpOp;rw[ho];simp only
 have hw:Region.wanted o (yielded ops a.tmps)=true:=by simp[Region.wanted,hg]
 rw[if_pos hw];left
 let⟨fn,B,D,C⟩:=hfn vi f hft
 have e:(execOp a.eval o).run P c.w=(callFunc f (as1.map a.eval)).run P c.w:=by simp[execOp,hop,resolve,Act.eval,Deferred.ofValue,invoke]
 unfold Oper.wp;rw[e,gF B D C]
 have ea:(as1.toList.map a.eval).toArray=as1.map a.eval:=by apply Array.ext';simp
 have ha:=pJ hs htr hargs;rw[ea] at ha
 refine (hpan fl vi vs f _ r H' c _ hsh hft (by simpa using hle) hev hs hfl ha).mono ?_
 rintro e w' ⟨c',rfl,h2,_,h4,h5,h6⟩
 rcases h6 with⟨e0,rr,v,hr,rfl,hv⟩ | ⟨n,rr,hr,rfl⟩
 .exact hk c' v e0 rr hr h2 h4 h5 hv
 .exact hp c' n rr hr h2 h4 h5
theorem c8[aA](hcf:jD P T cf)(hfn:fA P T){ops:Array Oper}{aops:List aH}{sw p:Nat}{tm:List AV}{c0:bM}{ds:List Deferred}{val:Nat->AV}{S:Nat->St}{Q:Exit->Act->World->Prop}(hlen:aops.length=ops.size)(hp:p<ops.size)(hget:∀k o,k<p->ops[k]?=some o->∃ao,aops[k]?=some ao/\cW P T ops ao o=true)(hq:∀k,k<p->aU aops k=true)(hord:nP sw aops (iP ops.toList ops.size []) ops.size=true)(hback:Bf ops.toList ops.size=true)(hdesc:∀k,p<k->k<ops.size->((iP ops.toList ops.size []).getD k 0).testBit p=true)(h0:S 0=⟨tm,c0.H⟩)(hS:∀k ao,k<p->aops[k]?=some ao->aV P cf fl ao (S k)=some (S<|k+1))(hval:∀k ao,aops[k]?=some ao->(S<|k+1).tmps=dL (S k).tmps ao.dst (val k))(hfl:fl<=c0.H.length)
 (hpan:∀(a:Act) (c:bM) (K:Act->World->Prop) (tmx:List AV),aZ (aF T) c->aY fl c0 c->c.H=c0.H->a.defers=ds->TR (aF T) c tmx a.tmps->(∀ao,aops[p]?=some ao->∀t∈kD ao,tmx[t]?=(S p).tmps[t]?)->(∀t,(∀k,k<p->nX aops k≠some t)->tmx[t]?=tm[t]?)->wpOp P ops Q p K a c.w):
 ∀(fuel:Nat) (listed:Array Bool) (a:Act) (c:bM),XY ops.size listed<=fuel->listed.size=ops.size->aZ (aF T) c->aY fl c0 c->c.H=c0.H->a.defers=ds->(∀i j,j<ops.size->listed.getD j false=true->((iP ops.toList ops.size []).getD j 0).testBit i=true->listed.getD i false=true)->(∀j,p<=j->listed.getD j false=false)->TR (aF T) c (eI aops tm val (λj=>listed.getD j false) ops.size) a.tmps->wpAny P .any ops Q fuel listed a c.w:=by
 have h0t:(S 0).tmps=tm:=by rw[h0]
 have hheap:∀k,k<=p->(S k).heap=c0.H:=by
  intro k
  induction k with
  | zero=>intro _;rw[h0]
  | succ k i=>
   intro h
   have hk:k<aops.length:=by omega
   have:=hq k (by omega)
   simp only[aU,List.getElem?_eq_getElem hk] at this
   rw[nV this (hS k _ (by omega) (List.getElem?_eq_getElem hk)),i (by omega)]
 intro fuel
 induction fuel with
 | zero=>
  intro listed a c hu hsz _ _ _ _ _ low _
  exfalso
  have:p∈(List.range ops.size).filter λi=>!listed.getD i true:=by
   simp only[List.mem_filter,List.mem_range,Bool.not_eq_true']
   exact⟨hp,by rw[gD<|by rw[hsz];exact hp];exact low p (Nat.le_refl _)⟩
  unfold XY at hu
  have h2:=List.eq_nil_of_length_eq_zero<|Nat.le_zero.1 hu
  rw[h2] at this
  cases this
 | succ fuel ih=>
  intro listed a c hu hsz hs hst hH hds hcl low htr
  refine⟨λhr=>?_,λk hk=>?_⟩
  .exfalso
   have all:∀j,j<ops.size->listed.getD j false=true:=by
    intro j
    induction j using Nat.strongRecOn with
    | _ j ij=>
     intro hj
     cases hd:listed.getD j false with
     | true=>rfl
     | false=>
      exfalso
      have hmem:j∈Region.ready .any ops listed:=by
       rw[mem_ready]
       refine⟨by rw[gD<|by omega];exact hd,ops[j],by simp,λe he hb=>?_⟩
       have hlt:=Be hback j ops[j] hj (by simp) e he hb
       exact ij e.on hlt<|by omega
      rw[hr] at hmem
      cases hmem
   have:=all p hp
   rw[low p (Nat.le_refl _)] at this
   cases this
  rw[mem_ready] at hk
  let⟨hk1,o,ho,hedges⟩:=hk
  have hkN:k<ops.size:=(Array.getElem?_eq_some_iff.1 ho).1
  have hkD:listed.getD k false=false:=by rw[<-gD<|by rw[hsz];exact hkN];exact hk1
  have hol:ops.toList[k]?=some o:=by simpa using ho
  have hanc:∀i,((iP ops.toList ops.size []).getD k 0).testBit i=true->listed.getD i false=true:=by
   intro i hi
   have hi':((iP ops.toList ops.toList.length []).getD k 0).testBit i=true:=by simpa using hi
   let⟨o',ho',e,he,hb,hlt,hh⟩:=Pa (by simpa using hkN) hi'
   rw[hol] at ho'
   cases ho'
   have hde:=hedges e he hb
   rcases hh with rfl | hh
   .exact hde
   .exact hcl i e.on (by omega) hde<|by simpa using hh
  have later:∀j,k<j->j<ops.size->listed.getD j false=true->∃x y,aops[k]?=some x/\aops[j]?=some y/\qR x y=false/\qR y x=false:=by
   intro j hkj hj hD
   rcases dR _ hord k j hkj hj with h | h
   .have:=hcl k j hj hD h
    rw[hkD] at this;cases this
   .exact h.2
  have earlier:∀j,j<k->listed.getD j false=true\/∃x y,aops[j]?=some x/\aops[k]?=some y/\qR x y=false/\qR y x=false:=by
   intro j hj
   rcases dR _ hord j k hj hkN with h | h
   .exact .inl<|hanc j h
   .exact .inr h.2
  have hlook:∀ao,aops[k]?=some ao->∀t∈kD ao,(eI aops tm val (λj=>listed.getD j false) ops.size)[t]?=(S k).tmps[t]?:=by
   intro ao hao t ht
   rw[<-uH (D:=λj=>decide<|j<k) (n:=ops.size) h0t hval (Nat.le_of_lt hkN) (by omega) (λj hj=>by simpa using hj) λj h1 _=>by simp;omega]
   apply jW
   intro j hj hd
   by_cases hjk:j<k
   .have:decide (j<k)=true:=by simpa using hjk
    rw[this]
    rcases earlier j hjk with h | ⟨x,y,hx,hy,hc1,hc2⟩
    .exact h
    .exfalso
     rw[hao] at hy
     cases hy
     have hdx:x.dst=some t:=by simpa [nX,hx] using hd
     exact (jX hc1 hdx).1 ht
   .have:decide (j<k)=false:=by simpa using hjk
    rw[this]
    by_cases ej:j=k
    .subst ej;exact hkD
    .cases hDj:listed.getD j false with
     | false=>rfl
     | true=>
      exfalso
      let⟨x,y,hx,hy,hc1,hc2⟩:=later j (by omega) hj hDj
      rw[hao] at hx
      cases hx
      have hdy:y.dst=some t:=by simpa [nX,hy] using hd
      exact (jX hc2 hdy).1 ht
  rcases Nat.lt_trichotomy k p with hkp | hkp | hkp
  .let⟨ao,hao,hok⟩:=hget k o hkp ho
   have hev:=hS k ao hkp hao
   have hdst:nX aops k=ao.dst:=by simp[nX,hao]
   have es:S k=⟨(S k).tmps,(S k).heap⟩:=rfl
   rw[es] at hev
   let⟨x,hx1,hx2⟩:=nW (tm:=eI aops tm val (λj=>listed.getD j false) ops.size) (hlook ao hao) hev
   rw[hheap k (by omega),<-hH] at hx2
   refine oU hcf hfn hs htr (Nat.le_trans hfl hst.len) ho hok hx2 ?_
   intro a' c' e1 e2 e3 e4 e5 _
   have hset:∀j,(listed.setIfInBounds k true).getD j false=if j=k then true else listed.getD j false:=by
    intro j
    by_cases ej:j=k
    .subst ej
     simp[hsz,hkN]
    .rw[getD_set_ne false λe=>ej e.symm,if_neg ej]
   refine ih (listed.setIfInBounds k true) a' c' (by have:=RF hkN hk1 hsz;omega) (by simpa using hsz) e3 (hst.trans e2) (e1.trans (hheap (k+1) (by omega))) (e5.trans hds) ?_ ?_ ?_
   .intro i j hj hD hb
    rw[hset] at hD |-
    split
    .rfl
    .by_cases ej:j=k
     .subst ej;exact hanc i hb
     .rw[if_neg ej] at hD
      exact hcl i j hj hD hb
   .intro j hj
    rw[hset,if_neg (by omega)];exact low j hj
   .refine⟨by rw[cL,<-e4.1,jT,cL],λt y hy=>?_⟩
    refine e4.2 t y ?_
    rw[<-hy,gI]
    split
    .rename_i hd
     have hdk:nX aops k=some t:=by rw[hdst];exact hd
     rw[cL]
     rw[Ax (k:=k) (by simp[hset]) hdk ops.size hkN]
     .split
      .rename_i hlt
       congr 1
       have h1:(S<|k+1).tmps[t]?=some x:=by rw[hx1,gI,if_pos hd,if_pos<|by rw[<-oH h0t hval k<|by omega,cL];exact hlt]
       have h2:(S<|k+1).tmps[t]?=some (val k):=by rw[hval k ao hao,gI,if_pos hd,if_pos<|by rw[<-oH h0t hval k<|by omega,cL];exact hlt]
       rw[h1] at h2
       exact Option.some.inj h2
      .rfl
     .intro j h1 h2 h3
      rw[hset,if_neg<|by omega]
      cases hDj:listed.getD j false with
      | false=>rfl
      | true=>
       exfalso
       let⟨x',y',hx',hy',hc1,hc2⟩:=later j h1 h2 hDj
       rw[hao] at hx'
       cases hx'
       have hdy:y'.dst=some t:=by simpa [nX,hy'] using h3
       exact (jX hc1 hd).2 hdy
    .rename_i hd
     apply jW
     intro j hj hdj
     rw[hset]
     by_cases ej:j=k
     .subst ej
      rw[hdst] at hdj
      exact (hd hdj).elim
     .rw[if_neg ej]
  .subst hkp
   refine hpan a c _ _ hs hst hH hds htr hlook ?_
   intro t ht
   have e0:eI aops tm val (λ_=>false) ops.size=tm:=jV ops.size (Nat.zero_le _) λj _ _=>rfl
   rw[show tm[t]?=(eI aops tm val (λ_=>false) ops.size)[t]? by rw[e0]]
   apply jW
   intro j hj hd
   rcases Nat.lt_or_ge j k with h | h
   .exact (ht j h hd).elim
   .exact low j h
  .exfalso
   have:=hanc p (hdesc k hkp hkN)
   rw[low p (Nat.le_refl _)] at this
   cases this
end
section
variable {P:Program}{T:List bC}{cf:CF}{fl lf:Nat}
theorem zA[aA]{t:Nat}: ∀{l:List aH}{st s:St},aW P cf fl l st=some s->(∀o∈l,o.dst≠some t)->s.tmps[t]?=st.tmps[t]?
 | [],st,s,h,_=>by simp only[aW,Option.some.injEq] at h;rw[h]
 | o::r,st,s,h,g=>by
  simp only[aW] at h;split at h
  .rename_i m e;rw[zA h λo' k=>g o' (by simp[k])]
   have g0:=g o (by simp);have q:∀x,(dL st.tmps o.dst x)[t]?=st.tmps[t]?:=λx=>by rw[gI,if_neg g0]
   unfold aV at e;split at e
   .split at e
    .cases e;exact q _
    .cases e
   .cases e;exact q _
   .cases e
  .cases h
def SH(A:List aH)(K:List Nat): Bool:=A.all λo=>match o.dst with
 | some d=>!K.contains d
 | none=>true
theorem Gw{A:List aH}{K:List Nat}(h:SH A K=true){t:Nat}(k:t∈K): ∀o∈A,o.dst≠some t:=by
 intro o m e;have:=List.all_eq_true.1 h o m;rw[e] at this;simp at this;exact this k
structure eH where
 A:List aH
 vi:Nat
 vs:Nat
 args:List aN
 dst:Option Nat
 B:List aH
def eH.call(p:eH): aH:=⟨p.dst,.call false p.vi p.args,none⟩
def eH.full(p:eH): List aH:=p.A++p.call::p.B
def eH.callS(p:eH)(n0:Nat): aH:=⟨some n0,.call false p.vs p.args,none⟩
def eH.L(p:eH)(n0:Nat): List aH:=p.A++[p.callS n0,⟨some (n0+1),.extract (.tmp n0) 0,none⟩,⟨some (n0+2),.extract (.tmp n0) 1,none⟩]
def eH.R(p:eH)(n0:Nat): List aH:=match p.dst with
 | some d=>⟨some d,.tail2 (.tmp n0),none⟩::p.B
 | none=>p.B
def DK(ops:Array Oper)(p:Nat): Bool:=(List.range ops.size).all λk=>Nat.ble k p||((iP ops.toList ops.size []).getD k 0).testBit p
def KB(aops:List aH)(p:Nat): Bool:=(List.range p).all λk=>aU aops k
def eH.ok[aA](P:Program)(T:List bC)(n0:Nat)(K:List Nat)(ck:List (Nat×Nat))(id:Nat)(ops:Array Oper)(draw:Bool)(p:eH): Bool:=
 dT P T (.region draw ck p.full) (.region id ops draw)&&(p.full.all (Wy n0)&&(p.A.all (λo=>Et o.op)&&(p.B.all (λo=>Et o.op)&&(He p.vi aA.sh==some p.vs&&(SH p.A K&&(Nat.ble p.args.length 4&&((pT ck).isNone&&((ck.all λq=>Nat.blt q.1 p.A.length&&Nat.beq q.2 p.A.length)&&(!draw||DK ops p.A.length&&KB p.full p.A.length)))))))))
variable {n0:Nat}{K:List Nat}{ck:List (Nat×Nat)}{id:Nat}{ops:Array Oper}{draw:Bool}{p:eH}
theorem Hp[aA]{t d i:Nat}{st s:St}(h:aV P cf fl ⟨some t,.extract (.tmp d) i,none⟩ st=some s): ∃vs v,aB st.tmps (.tmp d)=.tup vs/\vs[i]?=some v/\s=⟨st.tmps.set t v,st.heap⟩:=by
 simp only[aV,bY,aG] at h;split at h
 .rename_i v H e;split at e
  .rename_i vs a;split at e
   .rename_i w b;cases e;cases h;exact⟨vs,_,a,b,rfl⟩
   .cases e
  .cases e
 .cases h
theorem RK[aA]{t d:Nat}{st s:St}(h:aV P cf fl ⟨some t,.tail2 (.tmp d),none⟩ st=some s): ∃a b rr,aB st.tmps (.tmp d)=.tup (a::b::rr)/\s=⟨st.tmps.set t (mG rr),st.heap⟩:=by
 simp only[aV,bY,aG] at h;split at h
 .rename_i v H e;split at e
  case h_2=>cases e
  rename_i vs a;split at e
  case h_2=>cases e
  split at e
  case h_2=>cases e
  cases e;cases h;exact⟨_,_,_,a,rfl⟩
 .cases h
theorem GV{tm:List AV}[aA]{d:Nat}{v:AV}{vs:List AV}(h:aB (tm.set d v) (.tmp d)=.tup vs): d<tm.length/\v=.tup vs:=by
 simp only[aB] at h;split at h
 .rename_i x e;rw[List.getElem?_set] at e;simp only[if_true] at e;split at e
  .rename_i l;cases e;exact⟨l,h⟩
  .cases e
 .cases h
theorem eH.first[aA]{tm:List AV}{H:aK}{s1:St}{ck:List (Nat×Nat)}(hfo:fP cf)(hm:pT ck=none)(e:dN P cf fl ck (p.L n0) ⟨tm,H⟩=some s1): ∃sA v0 v1 rr H1,aW P cf fl p.A ⟨tm,H⟩=some sA/\cf fl p.vs (p.args.map<|aB sA.tmps) sA.heap=some (.tup (v0::v1::rr),H1)/\n0<sA.tmps.length/\s1=⟨((sA.tmps.set n0 (.tup (v0::v1::rr))).set (n0+1) v0).set (n0+2) v1,H1⟩:=by
 have a:aW P cf fl (p.L n0) ⟨tm,H⟩=some s1:=by
  rcases sO hfo e with⟨_,g⟩ | ⟨_,_,_,_,_⟩
  .exact g
  .simp_all
 unfold eH.L at a;let⟨sA,h1,h2⟩:=Fg a;simp only[aW] at h2;split at h2
 .rename_i sx ex;split at h2
  .rename_i sy ey;split at h2
   .rename_i sz ez;cases h2
    have e1:∃r H1,cf fl p.vs (p.args.map<|aB sA.tmps) sA.heap=some (r,H1)/\sx=⟨sA.tmps.set n0 r,H1⟩:=by
     simp only[eH.callS,aV,bY,aG,iV] at ex;split at ex
     .rename_i r H1 q;cases ex;exact⟨r,H1,q,rfl⟩
     .cases ex
    let⟨r,H1,q,hx⟩:=e1;subst hx
    let⟨vs,v0,b1,b2,b3⟩:=Hp ey;subst b3
    let⟨vs',v1,c1,c2,c3⟩:=Hp ez;subst c3
    let⟨l,hr⟩:=GV b1;subst hr
    have hv:vs'=vs:=by
     simp only[aB,List.getElem?_set,List.length_set] at c1;simp at c1;rw[if_pos l] at c1;simpa using c1.symm
    subst hv
    match vs',b2,c2 with
    | x::y::rr,b2,c2=>
     simp only[List.getElem?_cons_zero,Option.some.injEq] at b2;simp only[List.getElem?_cons_succ,List.getElem?_cons_zero,Option.some.injEq] at c2;subst b2 c2;exact⟨sA,x,y,rr,H1,h1,q,l,rfl⟩
    | [x],b2,c2=>simp at c2
    | [],b2,c2=>simp at b2
   .cases h2
  .cases h2
 .cases h2
theorem Ec{tm:List AV}{r v0 v1:AV}: ((((tm.set n0 r).set (n0+1) v0).set (n0+2) v1).take n0)=tm.take n0:=by
 rw[List.take_set,List.take_set,List.take_set]
 apply List.ext_getElem?;intro i;simp only[List.getElem?_set,List.length_set,List.length_take];repeat' split
 all_goals first | rfl | omega | skip
 all_goals (rw[List.getElem?_take];split<;>first | omega | rfl)
theorem Hi[aA]{tm:List AV}{o:aH}(h:Wy n0 o=true){args:List aN}{d:Option Nat}{b:Bool}{v:Nat}(e:o=⟨d,.call b v args,none⟩): args.map (aB (tm.take n0))=args.map (aB tm):=by
 subst e;exact List.map_congr_left λx m=>wN (tm:=tm) h x m
theorem eH.normal[aA]{tm:List AV}{H:aK}{s1 st':St}(hfo:fP cf)(hok:p.ok P T n0 K ck id ops draw=true)(e:dN P cf fl ck (p.L n0) ⟨tm,H⟩=some s1)(hf:s1.tmps[n0+1]?=some (.lit (.bool false)))(e2:aW P cf fl (p.R n0) s1=some st'): dN P (oW cf) fl ck p.full ⟨tm.take n0,H⟩=some ⟨st'.tmps.take n0,st'.heap⟩/\st'.tmps.length=tm.length:=by
 simp only[eH.ok,Bool.and_eq_true,beq_iff_eq,Option.isNone_iff_eq_none] at hok;let⟨_,h1,h2,h3,h4,_,hle,h6,h7,_⟩:=hok
 let⟨sA,v0,v1,rr,H1,a1,a2,a3,a4⟩:=eH.first hfo h6 e
 simp only[eH.full,List.all_append,List.all_cons,Bool.and_eq_true] at h1;let⟨i1,i2,i3⟩:=h1
 let⟨k1,k2⟩:=mD i1 a1
 have hv0:v0=.lit (.bool false):=by
  subst a4;simp only[List.getElem?_set,List.length_set] at hf;simp at hf;exact hf.2
 subst hv0
 have hcall:aV P (oW cf) fl p.call (dE n0 sA)=some ⟨dL (sA.tmps.take n0) p.dst (mG rr),H1⟩:=by
  simp only[eH.call,aV,bY,aG,iV,dE,Hi (o:=p.call) i2 rfl,oW,h4,List.length_map,hle,a2,LD]
 have hB:aW P (oW cf) fl p.B ⟨dL (sA.tmps.take n0) p.dst (mG rr),H1⟩=some ⟨st'.tmps.take n0,st'.heap⟩/\st'.tmps.length=tm.length:=by
  unfold eH.R at e2;cases hd:p.dst with
  | none=>
   rw[hd] at e2;simp only at e2;have es:s1=⟨s1.tmps,s1.heap⟩:=rfl
   rw[es] at e2;let⟨g1,g2⟩:=mD i3 e2;rw[kL (cf':=oW cf) h3] at g1
   subst a4;simp only[Ec] at g1;exact⟨g1,by rw[g2];simp[k2]⟩
  | some d=>
   rw[hd] at e2;simp only[aW] at e2;split at e2
   .rename_i s2 ee;let⟨y0,y1,rv,b1,b3⟩:=RK ee;subst b3
    have hw:rr=rv:=by
     subst a4;simp only[aB,List.getElem?_set,List.length_set] at b1;simp at b1;rw[if_pos a3] at b1;simp only[AV.tup.injEq,List.cons.injEq] at b1;exact b1.2.2
    subst hw
    let⟨g1,g2⟩:=mD i3 e2;rw[kL (cf':=oW cf) h3] at g1
    subst a4;simp only[take_set,Ec] at g1
    have h5:∀q:List AV,(q.set d (mG rr)).take n0=(q.take n0).set d (mG rr):=λq=>take_set _ _ _ _
    refine⟨?_,by rw[g2];simp[k2]⟩
    have:((((sA.tmps.set n0 (.tup (.lit (.bool false)::v1::rr))).set (n0+1) (.lit (.bool false))).set (n0+2) v1).take n0).set d (mG rr)=(sA.tmps.take n0).set d (mG rr):=by rw[Ec]
    simp only[dL];rw[<-this,<-h5];simp only[take_set] at g1 |-;exact g1
   .cases e2
 have hall:aW P (oW cf) fl p.full ⟨tm.take n0,H⟩=some ⟨st'.tmps.take n0,st'.heap⟩:=by
  unfold eH.full;refine Ff (m:=dE n0 sA) ?_ ?_
  .rw[kL (cf':=cf) h2];exact k1
  .simp only[aW,hcall];exact hB.1
 refine⟨?_,hB.2⟩
 cases ck with
 | nil=>exact hall
 | cons c r=>
  unfold dN at e |-;cases hb:Nat.beq c.1 c.2 with
  | true=>simp only[pT,hb] at h6;cases h6
  | false=>
   simp only[hb] at e |-;split at e
   .rename_i L hL;split at e
    .rename_i hck
     unfold eH.L at hL;let⟨LA,m,LB,b1,b2,b3,b4,b5⟩:=Mi hL
     rw[a1] at b2;cases b2
     have g1:=Eo i1 b1;rw[zZ (cf':=oW cf) h2] at g1
     have g2:aW P (oW cf) fl p.A ⟨tm.take n0,H⟩=some (dE n0 sA):=by rw[kL (cf':=cf) h2];exact k1
     let⟨LB',d1,d2⟩:=Tf (show aW P (oW cf) fl (p.call::p.B) (dE n0 sA)=some ⟨st'.tmps.take n0,st'.heap⟩ by simp only[aW,hcall];exact hB.1)
     have g3:=AX g1 g2 d1
     have hfull:bU P (oW cf) fl p.full ⟨tm.take n0,H⟩=some ((LA.map (dE n0)).dropLast++LB'):=g3
     rw[hfull];simp only
     have hlast:((LA.map (dE n0)).dropLast++LB').getLast?=some ⟨st'.tmps.take n0,st'.heap⟩:=by
      let⟨w,y⟩:=yQ d1;subst y;rw[List.getLast?_append];simp only[d2,Option.some_or]
     have hckF:kX p.full ((LA.map (dE n0)).dropLast++LB') (c::r)=true:=by
      have key:∀(l:List (Nat×Nat)),(l.all λq=>Nat.blt q.1 p.A.length&&Nat.beq q.2 p.A.length)=true->kX (p.L n0) L l=true->kX p.full ((LA.map (dE n0)).dropLast++LB') l=true:=by
       intro l;induction l with
       | nil=>intro _ _;rfl
       | cons q w ih=>
        intro z1 z2;let⟨k,m⟩:=q;simp only[List.all_cons,Bool.and_eq_true] at z1;let⟨⟨z3,z4⟩,z5⟩:=z1
        have z3:k<p.A.length:=by simpa [Nat.blt_eq] using z3
        have z4:m=p.A.length:=by simpa using z4
        subst z4
        simp only[kX] at z2 |-;split at z2
        .rename_i z6
         have:vM p.full ((LA.map (dE n0)).dropLast++LB') k p.A.length=true:=by
          have lA:LA.length=p.A.length+1:=b5
          have q1:(p.L n0)[k]?=p.A[k]?:=by unfold eH.L;rw[List.getElem?_append_left z3]
          have q2:p.full[k]?=p.A[k]?:=by unfold eH.full;rw[List.getElem?_append_left z3]
          have q3:(p.L n0)[p.A.length]?=some (p.callS n0):=by unfold eH.L;rw[List.getElem?_append_right (Nat.le_refl _)];simp
          have q4:p.full[p.A.length]?=some p.call:=by unfold eH.full;rw[List.getElem?_append_right (Nat.le_refl _)];simp
          have q5:L[k]?=LA[k]?:=by rw[b4,List.getElem?_append_left (by simp[lA];exact z3),List.getElem?_dropLast,if_pos (by omega)]
          have q6:((LA.map (dE n0)).dropLast++LB')[k]?=(LA[k]?).map (dE n0):=by rw[List.getElem?_append_left (by simp[lA];exact z3),List.getElem?_dropLast,if_pos (by simp;omega)];simp
          simp only[bU] at b3 d1
          split at b3
          .rename_i sx ex
           split at b3
           .rename_i LB1 eLB
            cases b3
            let⟨w1,y1⟩:=yQ (l:=[⟨some (n0+1),.extract (.tmp n0) 0,none⟩,⟨some (n0+2),.extract (.tmp n0) 1,none⟩]) (show bU P cf fl _ sx=some LB1 from eLB)
            subst y1
            rw[hcall] at d1
            simp only at d1
            split at d1
            .rename_i LB2 eLB2
             cases d1
             let⟨w2,y2⟩:=yQ eLB2
             subst y2
             have hsx:sx.heap=H1:=by
              simp only[eH.callS,aV,bY,aG,iV,a2] at ex;cases ex;rfl
             have q7:L[p.A.length]?=some sA:=by rw[b4,List.getElem?_append_right (by simp[lA])];simp[lA]
             have q8:L[p.A.length+1]?=some sx:=by rw[b4,List.getElem?_append_right (by simp[lA])];simp[lA]
             have q9:((LA.map (dE n0)).dropLast++(dE n0 sA::⟨dL (sA.tmps.take n0) p.dst (mG rr),H1⟩::w2))[p.A.length]?=some (dE n0 sA):=by rw[List.getElem?_append_right (by simp[lA])];simp[lA]
             have q10:((LA.map (dE n0)).dropLast++(dE n0 sA::⟨dL (sA.tmps.take n0) p.dst (mG rr),H1⟩::w2))[p.A.length+1]?=some ⟨dL (sA.tmps.take n0) p.dst (mG rr),H1⟩:=by rw[List.getElem?_append_right (by simp[lA])];simp[lA]
             have hin:∀{o:aH},p.A[k]?=some o->Wy n0 o=true:=λa=>List.all_eq_true.1 i1 _ (List.mem_of_getElem? a)
             unfold vM at z6 |-
             rw[q1,q3,q5,q7] at z6
             rw[q2,q4,q6,q9]
             cases hA:p.A[k]? with
             | none=>rw[hA] at z6;cases z6
             | some ok=>
              cases hLk:LA[k]? with
              | none=>rw[hA,hLk] at z6;cases z6
              | some sk=>
               simp only[hA,hLk,Option.map_some,dE,Dz (hin hA),Gs (hin hA)] at z6 |-
               generalize bY sk.tmps ok.guard=W at z6 |-
               generalize bL ok.op sk.tmps=V at z6 |-
               simp only[eH.callS,eH.call,bY,eP,vY,HS,q7,q8,hsx] at z6 |-
               simp only[dE] at q9 q10
               simp only[q9,q10]
               exact z6
            .cases d1
           .cases b3
          .cases b3
         rw[this];exact ih z5 z2
        .cases z2
      exact key _ h7 hck
     rw[hckF];exact hlast
    .cases e
   .cases e
end
section
variable {P:Program}{T:List bC}{cf:CF}{fl lf:Nat}{n0:Nat}{K:List Nat}{ck:List (Nat×Nat)}{id:Nat}{ops:Array Oper}{draw:Bool}{p:eH}
theorem Dd[aA]{ops:Array Oper}: ∀{A B:List aH}{os:List Oper},cP P T ops (A++B) os=true->cP P T ops A (os.take A.length)=true/\cP P T ops B (os.drop A.length)=true
 | [],B,os,h=>⟨by cases os<;>rfl,h⟩
 | a::A,B,[],h=>by cases h
 | a::A,B,o::os,h=>by
  simp only[List.cons_append,cP,Bool.and_eq_true] at h;let⟨x,y⟩:=Dd h.2;simp only[List.length_cons,List.take_succ_cons,List.drop_succ_cons,cP,h.1,x,Bool.and_self,y,and_self]
theorem Rr{p:Nat}(h:DK ops p=true): ∀k,p<k->k<ops.size->((iP ops.toList ops.size []).getD k 0).testBit p=true:=by
 intro k a b;have:=List.all_eq_true.1 h k (by simpa using b);simp only[Bool.or_eq_true] at this;rcases this with g | g
 .have:=Nat.le_of_ble_eq_true g;omega
 .exact g
theorem Bu{aops:List aH}{p:Nat}(h:KB aops p=true): ∀k,k<p->aU aops k=true:=λk a=>List.all_eq_true.1 h k (by simpa using a)
def GZ(aops:List aH)(S0:Nat->St)(p:Nat): Nat->St
 | 0=>S0 0
 | k+1=>if k<p then S0 (k+1) else ⟨dL (GZ aops S0 p k).tmps (nX aops k) .undef,(GZ aops S0 p k).heap⟩
theorem Ct{aops:List aH}{S0:Nat->St}{p:Nat}: ∀{k:Nat},k<=p->GZ aops S0 p k=S0 k
 | 0,_=>rfl
 | k+1,h=>by simp only[GZ,if_pos (show k<p from h)]
theorem Ma[aA]: ∀{l:List aH}{st s:St},aW P cf fl l st=some s->(∀o∈l,dQ o.op=true)->s.heap=st.heap
 | [],st,s,h,_=>by simp only[aW,Option.some.injEq] at h;rw[h]
 | o::r,st,s,h,g=>by
  simp only[aW] at h;split at h
  .rename_i m e;rw[Ma h λo' k=>g o' (by simp[k]),nV (g o (by simp)) e]
  .cases h
theorem eH.panics[aA](hm:P.follows .mixedOrders=true)(hcf:jD P T cf)(hpan:Il P T cf)(hfn:fA P T){tm:List AV}{c:bM}{a:Act}{sA:St}{v1:AV}{rr:List AV}{H1:aK}{Q:Exit->Act->World->Prop}(hok:p.ok P T n0 K ck id ops draw=true)(hs:aZ (aF T) c)(htr:TR (aF T) c tm a.tmps)(hfl:fl<=c.H.length)(h1:aW P cf fl p.A ⟨tm,c.H⟩=some sA)(h2:cf fl p.vs (p.args.map<|aB sA.tmps) sA.heap=some (.tup (.lit (.bool true)::v1::rr),H1))
 (hQ:∀n a' c' tmx,v1=.lit (.int .i64 n)->c'.H=H1->aY fl c c'->aZ (aF T) c'->TR (aF T) c' tmx a'.tmps->(∀t,(∀o∈p.A,o.dst≠some t)->tmx[t]?=tm[t]?)->a'.defers=a.defers->Q (.panic (xN n)) a' c'.w): (Code.region id ops draw).wp P Q a c.w:=by
 simp only[eH.ok,Bool.and_eq_true,beq_iff_eq,Option.isNone_iff_eq_none] at hok;let⟨hc,_,_,_,h4,_,hle,_,_,h8⟩:=hok
 have hle:=Nat.le_of_ble_eq_true hle
 simp only[dT,Bool.and_eq_true] at hc;let⟨⟨_,hz⟩,hG⟩:=hc
 have hlen:p.full.length=ops.size:=by simpa using (dS hz).1
 have hpl:p.A.length<ops.size:=by rw[<-hlen];simp[eH.full]
 have hcall:p.full[p.A.length]?=some p.call:=by unfold eH.full;rw[List.getElem?_append_right (Nat.le_refl _)];simp
 have hcallO:∃o,ops[p.A.length]?=some o/\cW P T ops p.call o=true:=by
  have ho:ops[p.A.length]?=some ops[p.A.length]:=by simp
  let⟨ao,g1,g2⟩:=(dS hz).2 p.A.length ops[p.A.length] (by simpa using ho)
  rw[hcall] at g1;cases g1;exact⟨_,ho,g2⟩
 let⟨o,ho,hco⟩:=hcallO
 let⟨_,hg,f,as1,ts,hop,hft,hargs⟩:=Up (show cW P T ops ⟨p.dst,.call false p.vi p.args,none⟩ o=true from hco)
 cases draw with
 | false=>
  refine wp_region ?_
  unfold eH.full at hz
  let⟨z1,_⟩:=Dd hz
  have er:List.range ops.size=List.range' 0 p.A.length++(p.A.length::List.range' (p.A.length+1) p.B.length):=by
   have e1:p.full.length=p.A.length+(p.B.length+1):=by simp[eH.full]
   rw[List.range_eq_range',<-hlen,e1,<-List.range'_append_1];simp[List.range'_succ]
  rw[er]
  refine tZ hcf hfn p.A (ops.toList.take p.A.length) 0 c a tm sA z1 (λj o h=>?_) hs htr hfl h1 ?_
  .rw[List.getElem?_take] at h;split at h
   .simpa using h
   .cases h
  intro a' c' e1 e2 e3 e4 e5
  rw[wpOps_cons]
  refine AP hpan hfn ho hop hg hft h4 hargs hle e3 e4 (Nat.le_trans hfl e2.len) (by rw[e1];exact h2) ?_ ?_
  .intro c2 v e0 r2 hr;simp at hr
  .intro c2 n2 r2 hr g1 g2 g3
   simp only[AV.tup.injEq,List.cons.injEq,true_and] at hr
   exact hQ n2 a' c2 sA.tmps hr.1 g1 (e2.trans g2) g3 (e4.step g2) (λt ht=>zA h1 ht) e5
 | true=>
  simp only[Bool.not_true,Bool.false_or,Bool.and_eq_true] at h8;let⟨h8,h9⟩:=h8
  simp only[Bool.and_eq_true] at hG;let⟨⟨G1,G2⟩,hback⟩:=hG
  have hmk:pT ck=none:=by simp_all
  simp only[d8,ckK,hmk,Id,Bool.and_eq_true] at G1;let⟨hord,_⟩:=G1
  let⟨S0,f1,f2,f3⟩:=Lg p.A ⟨tm,c.H⟩ sA h1
  let⟨val0,f4⟩:=EH f3
  have hA:∀k,k<p.A.length->p.full[k]?=p.A[k]?:=λk h=>by unfold eH.full;rw[List.getElem?_append_left h]
  have hqA:sA.heap=c.H:=Ma h1 λo m=>by
   let⟨k,hk,e⟩:=List.mem_iff_getElem.1 m
   have:=Bu h9 k hk
   simp only[aU,hA k hk,List.getElem?_eq_getElem hk] at this;rw[e] at this;exact this
  have J:nK c.w { c.w with drawn:=c.w.drawn+1 }:=⟨rfl,rfl,rfl,rfl,Nat.le_succ _⟩
  have l:=kZ (fl:=fl) J
  refine wp_region_any hm ?_
  have v:=FI ops.size
  refine c8 (c0:=⟨{ c.w with drawn:=c.w.drawn+1 },c.X,c.β,c.H⟩) (ds:=a.defers) (tm:=tm) (S:=GZ p.full S0 p.A.length) (val:=λk=>if k<p.A.length then val0 k else .undef) (p:=p.A.length) (aops:=p.full) hcf hfn hlen hpl (λk o _ h=>(dS hz).2 k o (by simpa using h)) (Bu h9) hord hback (Rr h8) f1 ?_ ?_ hfl ?_ ops.size (Array.replicate ops.size false) a ⟨{ c.w with drawn:=c.w.drawn+1 },c.X,c.β,c.H⟩ ?_ (by simp) (hs.drawn J) (aY.refl _ _) rfl rfl (λi j _ C _=>by rw[v] at C;cases C) (λj _=>v j) ?_
  .intro k ao hk hao
   rw[Ct (Nat.le_of_lt hk),Ct hk];exact f3 k ao (by rw[<-hA k hk];exact hao)
  .intro k ao hao
   by_cases hk:k<p.A.length
   .rw[Ct (Nat.le_of_lt hk),Ct hk,if_pos hk];exact f4 k ao (by rw[<-hA k hk];exact hao)
   .rw[if_neg hk];simp only[GZ,if_neg hk,nX,hao]
  .intro a2 c2 K2 tmx hs2 hst2 hH2 hds htr2 hlk hun
   have eS:(GZ p.full S0 p.A.length p.A.length).tmps=sA.tmps:=by rw[Ct (Nat.le_refl _),f2]
   have earg:p.args.map (aB tmx)=p.args.map (aB sA.tmps):=List.map_congr_left<|uG λt ht=>by
    rw[<-eS];exact hlk p.call hcall t (by simpa [eH.call,kD,eN] using ht)
   refine AP hpan hfn ho hop hg hft h4 hargs hle hs2 htr2 (Nat.le_trans hfl hst2.len) (show cf fl p.vs (p.args.map (aB tmx)) c2.H=_ by rw[earg,hH2,<-h2,hqA]) ?_ ?_
   .intro c3 v e0 r2 hr;simp at hr
   .intro c3 n2 r2 hr g1 g2 g3
    simp only[AV.tup.injEq,List.cons.injEq,true_and] at hr
    refine hQ n2 a2 c3 tmx hr.1 g1 (l.trans (hst2.trans g2)) g3 (htr2.step g2) (λt ht=>hun t λk hk e=>?_) hds
    simp only[nX,hA k hk,List.getElem?_eq_getElem hk] at e;exact ht _ (List.getElem_mem hk) e
  .unfold XY;exact Nat.le_trans (List.length_filter_le _ _)<|by simp
  .have A:eI p.full tm (λk=>if k<p.A.length then val0 k else .undef) (λj=>(Array.replicate ops.size false).getD j false) ops.size=tm:=jV ops.size (Nat.zero_le _) λj _ _=>v j
   rw[A];exact htr.step l
end
section
variable {P:Program}{T:List bC}{cf:CF}{fl lf:Nat}
def XR[aA](FT:Nat->Option Nat)(n0:Nat)(K:List Nat)(c:bM)(st:St)(tv:Array Value): bJ->Exit->Prop
 | .normal,e=>e=.normal/\QU FT n0 c st.tmps tv
 | .exit i,e=>e=.exit i/\QU FT n0 c st.tmps tv
 | .ret,e=>(e=.ret/\st.tmps[n0+1]?=some (.lit (.bool false))/\QU FT n0 c st.tmps tv)\/∃n tmx,e=.panic (xN n)/\st.tmps[n0+1]?=some (.lit (.bool true))/\st.tmps[n0+2]?=some (.lit (.int .i64 n))/\TR FT c tmx tv/\∀t∈K,tmx[t]?=st.tmps[t]?
def MY[aA](P:Program)(T:List bC)(fl n0:Nat)(K:List Nat)(ev:St->Option (bJ×St))(code:Code): Prop:=
 ∀(c:bM) (a:Act) (tm:List AV) (x:bJ) (st':St) (Q:Exit->Act->World->Prop),aZ (aF T) c->QU (aF T) n0 c tm a.tmps->fl<=c.H.length->ev ⟨tm,c.H⟩=some (x,st')->
  (∀a' c' e,c'.H=st'.heap->aY fl c c'->aZ (aF T) c'->XR (aF T) n0 K c' st' a'.tmps x e->a'.defers=a.defers->Q e a' c'.w)->code.wp P Q a c.w
def nN: aN->aN->Bool
 | .tmp t,.tmp u=>Nat.beq t u
 | .lit a,.lit b=>F5 a b
 | _,_=>false
theorem jQ{a b:aN}(h:nN a b=true): a=b:=by
 unfold nN at h;split at h
 .rw[Nat.eq_of_beq_eq_true h]
 .rw[Lb h]
 .cases h
structure Bm where
 A:List aH
 X:aN
 d:Nat
def Bm.bld(p:Bm): aH:=⟨some p.d,.build [.int .i64 0] [(0,1,p.X)],none⟩
def Bm.L(p:Bm)(n0:Nat): List aH:=p.A++[⟨some n0,.ibin .eql p.X (.lit (.int .i64 0)),none⟩,⟨some (n0+1),.mov (.lit (.bool true)),none⟩,⟨some (n0+2),.mov p.X,none⟩,p.bld]
def Cj(P:Program)(t:TypeId): Bool:=match P.underlying t with
 | some (.struct _)=>true
 | _=>false
def Bm.ok[aA](P:Program)(T:List bC)(n0:Nat)(K:List Nat)(ops:Array Oper)(p:Bm): Bool:=
 cP P T ops (p.A++[p.bld]) (ops.toList.take (p.A.length+1))&&((p.A++[p.bld]).all (Wy n0)&&(Nat.beq ops.size (p.A.length+3)&&(Cj P aA.ft&&(Nat.blt p.d n0&&match ops[p.A.length+1]?,ops[p.A.length+2]? with
  | some o1,some o2=>o1.guard.isNone&&(o2.guard.isNone&&match o1.op,o2.op,o1.dst with
   | .makeInterface t (.tmp u),.panic (.tmp v),some e=>Nat.beq t aA.ft&&(Nat.beq u p.d&&(Nat.beq v e&&(Nat.blt e n0&&(!K.contains e&&K.all λt=>Nat.blt t n0))))
   | _,_,_=>false)
  | _,_=>false))))
variable {n0:Nat}{K:List Nat}
theorem Hj[aA]{tm tm':List AV}{o:aH}{x:aN}(h:Wy n0 o=true)(m:x∈eN o.op)(e:tm'.take n0=tm.take n0): aB tm' x=aB tm x:=by
 rw[<-wN (tm:=tm') h x m,<-wN (tm:=tm) h x m,e]
theorem oP{tm:List AV}{i:Nat}{x:AV}: (tm.set (n0+i) x).take n0=tm.take n0:=by
 rw[List.take_set]
 apply List.ext_getElem?;intro j;simp only[List.getElem?_set,List.length_take];repeat' split
 all_goals first | rfl | omega | skip
 all_goals (rw[List.getElem?_take];split<;>first | omega | rfl)
theorem Bm.sound[aA](hcf:jD P T cf)(hfn:fA P T){id:Nat}{ops:Array Oper}{p:Bm}{c:bM}{a:Act}{tm:List AV}{st':St}{Q:Exit->Act->World->Prop}(hok:p.ok P T n0 K ops=true)(hs:aZ (aF T) c)(htr:QU (aF T) n0 c tm a.tmps)(hfl:fl<=c.H.length)(hev:aW P cf fl (p.L n0) ⟨tm,c.H⟩=some st')
 (hQ:∀a' c' e,c'.H=st'.heap->aY fl c c'->aZ (aF T) c'->XR (aF T) n0 K c' st' a'.tmps .ret e->a'.defers=a.defers->Q e a' c'.w): (Code.region id ops false).wp P Q a c.w:=by
 simp only[Bm.ok,Bool.and_eq_true] at hok;let⟨hz,hin,hn,hst,hd,hm⟩:=hok
 have hn:ops.size=p.A.length+3:=Nat.eq_of_beq_eq_true hn
 unfold Bm.L at hev;let⟨sA,h1,h2⟩:=Fg hev
 simp only[List.all_append,List.all_cons,List.all_nil,Bool.and_true,Bool.and_eq_true] at hin;let⟨i1,i2⟩:=hin
 simp only[aW] at h2
 split at h2
 case h_2=>cases h2
 rename_i s1 k1
 split at h2
 case h_2=>cases h2
 rename_i s2 k2
 split at h2
 case h_2=>cases h2
 rename_i s3 k3
 split at h2
 case h_2=>cases h2
 rename_i s4 k4
 simp only[Option.some.injEq] at h2
 subst h2
 have hx:p.X∈eN p.bld.op:=by simp[Bm.bld,eN]
 have hnum:∃n,aB sA.tmps p.X=.lit (.int .i64 n)/\∃v,s1=⟨sA.tmps.set n0 v,sA.heap⟩:=by
  simp only[aV,bY,aG,aB] at k1
  split at k1
  .rename_i v H e
   split at e
   .rename_i k b k' b' e1 e2
    cases e2
    split at e
    .rename_i hk;subst hk
     split at e
     .cases e;cases k1;exact⟨b,e1,_,rfl⟩
     .cases e
    .cases e
   .cases e
  .cases k1
 let⟨n,hX,v,hs1⟩:=hnum
 subst hs1
 simp only[aV,bY,aG,aB,dL,Option.some.injEq] at k2
 subst k2
 have t1:((sA.tmps.set n0 v).set (n0+1) (.lit (.bool true))).take n0=sA.tmps.take n0:=by rw[oP];exact oP (i:=0)
 have hX3:aB ((sA.tmps.set n0 v).set (n0+1) (.lit (.bool true))) p.X=.lit (.int .i64 n):=by rw[Hj i2 hx t1,hX]
 simp only[aV,bY,aG,dL,hX3,Option.some.injEq] at k3
 subst k3
 have t2:(((sA.tmps.set n0 v).set (n0+1) (.lit (.bool true))).set (n0+2) (.lit (.int .i64 n))).take n0=sA.tmps.take n0:=by rw[oP,t1]
 have hX4:aB (((sA.tmps.set n0 v).set (n0+1) (.lit (.bool true))).set (n0+2) (.lit (.int .i64 n))) p.X=.lit (.int .i64 n):=by rw[Hj i2 hx t2,hX]
 have k4':=k4
 simp only[Bm.bld,aV,bY,aG,List.map_cons,List.map_nil,hX4,vG,cellsOf,aS,aR,dL] at k4
 simp at k4
 let⟨j1,j2⟩:=mD i1 h1
 let⟨j3,_⟩:=Ep i2 k4'
 rw[t2] at j3
 have hall:aW P cf fl (p.A++[p.bld]) ⟨tm.take n0,c.H⟩=some ⟨s4.tmps.take n0,s4.heap⟩:=Ff j1 (by simp only[aW,j3])
 split at hm
 case h_2=>cases hm
 rename_i o1 o2 q1 q2
 simp only[Bool.and_eq_true,Option.isNone_iff_eq_none] at hm;let⟨g1,g2,hm⟩:=hm
 split at hm
 case h_2=>cases hm
 rename_i t u w e q3 q4 q5
 simp only[Bool.and_eq_true,Bool.not_eq_true'] at hm;let⟨b1,b2,b3,b4,b5,b6⟩:=hm
 have b1:t=aA.ft:=Nat.eq_of_beq_eq_true b1
 have b2:u=p.d:=Nat.eq_of_beq_eq_true b2
 have b3:w=e:=Nat.eq_of_beq_eq_true b3
 subst b1 b2 b3
 refine wp_region ?_
 have er:List.range ops.size=List.range' 0 (p.A++[p.bld]).length++[p.A.length+1,p.A.length+2]:=by
  have e1:(p.A++[p.bld]).length=p.A.length+1:=by simp
  rw[List.range_eq_range',hn,e1,show p.A.length+3=(p.A.length+1)+2 by omega,<-List.range'_append_1];simp[List.range'_succ]
 rw[er]
 refine tZ hcf hfn (p.A++[p.bld]) (ops.toList.take (p.A.length+1)) 0 c a (tm.take n0) ⟨s4.tmps.take n0,s4.heap⟩ hz (λj o h=>?_) hs htr.2 hfl hall ?_
 .rw[List.getElem?_take] at h;split at h
  .simpa using h
  .cases h
 intro a' c' e1 e2 e3 e4 e5
 have hd:p.d<n0:=by simpa [Nat.blt_eq] using hd
 have l0:n0+3<=sA.tmps.length:=by rw[j2];exact htr.1
 have hs4:s4=⟨(((sA.tmps.set n0 v).set (n0+1) (.lit (.bool true))).set (n0+2) (.lit (.int .i64 n))).set p.d (.agg [.lit (.int .i64 n)]),sA.heap⟩:=k4.symm
 have hdv:(s4.tmps.take n0)[p.d]?=some (.agg [.lit (.int .i64 n)]):=by
  rw[hs4,List.getElem?_take,if_pos hd,List.getElem?_set_self (by simp only[List.length_set];omega)]
 let⟨vd,z1,z2⟩:=e4.2 p.d _ hdv
 obtain⟨cv,val,rfl,z3,z4,z5⟩:=z2.agg_inv
 have hcv:cv=#[.int .i64 n]:=by
  have y1:=z4 0 (.lit (.int .i64 n)) rfl
  have y2:=(z5 0 (.lit (.int .i64 n)) rfl).lit_inv
  rw[y2] at y1
  apply Array.ext'
  apply List.ext_getElem?
  intro i
  cases i with
  | zero=>simpa using y1.1
  | succ i=>
   have:cv.size<=i+1:=by rw[z3];simp
   rw[List.getElem?_eq_none (by simpa using this),List.getElem?_eq_none (by simp)]
 subst hcv
 have hev1:a'.eval (.tmp p.d)=.agg #[.int .i64 n]:=by simp[Act.eval,z1]
 have hstr:∃fs,P.underlying aA.ft=some (.struct fs):=by
  unfold Cj at hst;split at hst
  .rename_i fs h;exact⟨fs,h⟩
  .cases hst
 let⟨fs,hfs⟩:=hstr
 rw[wpOps_cons]
 unfold wpOp;rw[q1];simp only
 rw[if_pos (by simp[Region.wanted,g1])];left
 have r1:(execOp a'.eval o1).run P c'.w=.ok (.value (gK n)) c'.w:=by
  simp[execOp,q3,Instr.makeInterface,hev1,run_underlying hfs,gK]
 unfold Oper.wp;rw[r1,Oper.upon_value,wpOps_cons]
 unfold wpOp;rw[q2];simp only
 rw[if_pos (by simp[Region.wanted,g2])];left
 have hw:w<n0:=by simpa [Nat.blt_eq] using b4
 have hsz:a'.tmps.size=n0:=by
  have y:=e4.1;rw[hs4] at y;simp only[List.length_take,List.length_set] at y;omega
 have hlt:w<a'.tmps.size:=by rw[hsz];exact hw
 have hev2:(a'.put o1.dst (gK n)).eval (.tmp w)=gK n:=by
  rw[q5];simp[Act.put,Act.eval,hlt]
 have r2:(execOp (a'.put o1.dst (gK n)).eval o2).run P c'.w=.halt (.panic (gK n)) c'.w:=by
  unfold gK at hev2 |-;simp[execOp,q4,hev2,Instr.panic,goPanic]
 unfold Oper.wp;rw[r2,Oper.upon_panic]
 have hfl1:s4.tmps[n0+1]?=some (.lit (.bool true)):=by
  rw[hs4];rw[List.getElem?_set_ne (by omega),List.getElem?_set_ne (by omega),List.getElem?_set_self (by simp only[List.length_set];omega)]
 have hfl2:s4.tmps[n0+2]?=some (.lit (.int .i64 n)):=by
  rw[hs4];rw[List.getElem?_set_ne (by omega),List.getElem?_set_self (by simp only[List.length_set];omega)]
 refine hQ _ c' _ e1 e2 e3 (.inr ⟨n,dL (s4.tmps.take n0) o1.dst .undef,rfl,hfl1,hfl2,TR.put e4 (RV.undef _),λt ht=>?_⟩) ((fJ _ _ _).trans e5)
 have ht0:t<n0:=by simpa [Nat.blt_eq] using List.all_eq_true.1 b6 t ht
 have hne:w≠t:=λe=>by subst e;simp at b5;exact b5 ht
 rw[gI,q5,if_neg (by simpa using hne),List.getElem?_take,if_pos ht0]
def Xd(n0:Nat): List aH:=[⟨some (n0+1),.mov (.lit (.bool false)),none⟩,⟨some (n0+2),.mov (.lit (.int .i64 0)),none⟩]
def a7: List aH->Option (List aH×aH×aH×aH×aH)
 | x::r=>match a7 r with
  | some (A,p)=>some (x::A,p)
  | none=>match r with
   | [y,z,u]=>some ([],x,y,z,u)
   | _=>none
 | []=>none
theorem Tb: ∀{L A:List aH}{x y z u:aH},a7 L=some (A,x,y,z,u)->L=A++[x,y,z,u]
 | [],_,_,_,_,_,h=>by cases h
 | o::r,A,x,y,z,u,h=>by
  simp only[a7] at h;split at h
  .rename_i A' p e;simp only[Option.some.injEq,Prod.mk.injEq] at h;let⟨h1,h2⟩:=h;subst h1 h2;rw[Tb e];rfl
  .split at h
   .simp only[Option.some.injEq,Prod.mk.injEq] at h;let⟨h1,h2,h3,h4,h5⟩:=h;subst h1 h2 h3 h4 h5;rfl
   .cases h
def Hh(o:aH)(t:Nat): Option aN:=match o.guard with
 | none=>match o.op with
  | .mov x=>match o.dst with
   | some d=>match Nat.beq d t with
    | true=>some x
    | false=>none
   | none=>none
  | _=>none
 | some _=>none
theorem Ld: ∀{a b:List Value},Lf a b=true->a=b
 | [],[],_=>rfl
 | a::r,b::s,h=>by simp only[Lf,Bool.and_eq_true] at h;rw[Lb h.1,Ld h.2]
 | [],_::_,h=>by cases h
 | _::_,[],h=>by cases h
theorem lG{o:aH}{t:Nat}{x:aN}(h:Hh o t=some x): o=⟨some t,.mov x,none⟩:=by
 unfold Hh at h;let⟨a,b,g⟩:=o;simp only at h;split at h
 .split at h
  .split at h
   .split at h
    .rename_i e;cases h;rw[Nat.eq_of_beq_eq_true e]
    .cases h
   .cases h
  .cases h
 .cases h
def J3: Nat->List (Nat×Nat)->Option Nat
 | _,[]=>none
 | v,p::r=>match Nat.beq p.2 v with
  | true=>some p.1
  | false=>J3 v r
def GJ[aA](n0:Nat)(L R:List aH): Option eH:=match a6 L with
 | some (A,x,y,z)=>match s9 y (n0+1) n0 0&&s9 z (n0+2) n0 1 with
  | true=>match x.guard with
   | none=>match x.op with
    | .call pu vs args=>match pu with
     | false=>match x.dst with
      | some d=>match Nat.beq d n0 with
       | true=>match J3 vs aA.sh with
        | some vi=>some ⟨A,vi,vs,args,(VK n0 R).1,(VK n0 R).2⟩
        | none=>none
       | false=>none
      | none=>none
     | true=>none
    | _=>none
   | some _=>none
  | false=>none
 | none=>none
theorem BI[aA]{L R:List aH}{p:eH}(h:GJ n0 L R=some p): L=p.L n0/\R=p.R n0:=by
 unfold GJ at h;split at h
 case h_2=>cases h
 rename_i A x y z e
 split at h
 case h_2=>cases h
 rename_i q
 simp only[Bool.and_eq_true] at q
 split at h
 case h_2=>cases h
 rename_i g1
 split at h
 case h_2=>cases h
 rename_i pu vs args g2
 split at h
 case h_2=>cases h
 split at h
 case h_2=>cases h
 rename_i d g3
 split at h
 case h_2=>cases h
 rename_i g4
 split at h
 case h_2=>cases h
 rename_i vi g5
 cases h
 have g4:=Nat.eq_of_beq_eq_true g4
 subst g4
 have hx:x=⟨some d,.call false vs args,none⟩:=by let⟨a,b,c⟩:=x;simp only at g1 g2 g3;rw[g1,g2,g3]
 refine⟨by rw[Ta e,Ua q.1,Ua q.2,hx];rfl,?_⟩
 unfold VK eH.R
 cases R with
 | nil=>rfl
 | cons o B=>
  simp only;cases hd:o.dst with
  | none=>rfl
  | some t=>
   simp only;cases hE:s8 o t d with
   | true=>simp only;rw[OV hE]
   | false=>rfl
def T8(o:aH)(t:Nat): Option aN:=match o.guard with
 | none=>match o.op with
  | .ibin b x y=>match b with
   | .eql=>match y with
    | .lit u=>match u with
     | .int k n=>match k with
      | .i64=>match decide (n=0) with
       | true=>match o.dst with
        | some d=>match Nat.beq d t with
         | true=>some x
         | false=>none
        | none=>none
       | false=>none
      | _=>none
     | _=>none
    | _=>none
   | _=>none
  | _=>none
 | some _=>none
theorem OX{o:aH}{t:Nat}{x:aN}(h:T8 o t=some x): o=⟨some t,.ibin .eql x (.lit (.int .i64 0)),none⟩:=by
 unfold T8 at h;let⟨a,b,g⟩:=o;simp only at h
 repeat' split at h
 all_goals first | cases h;done | skip
 rename_i e0 _ _ _ e2
 cases h;rw[Nat.eq_of_beq_eq_true e2,of_decide_eq_true e0]
def VH(o:aH): Option (Nat×aN):=match o.guard with
 | none=>match o.op with
  | .build z ps=>match Lf z [.int .i64 0] with
   | true=>match ps with
    | [(i,n,x)]=>match Nat.beq i 0&&Nat.beq n 1 with
     | true=>match o.dst with
      | some d=>some (d,x)
      | none=>none
     | false=>none
    | _=>none
   | false=>none
  | _=>none
 | some _=>none
theorem GR{o:aH}{d:Nat}{x:aN}(h:VH o=some (d,x)): o=⟨some d,.build [.int .i64 0] [(0,1,x)],none⟩:=by
 unfold VH at h;let⟨a,b,g⟩:=o;simp only at h
 repeat' split at h
 all_goals first | cases h;done | skip
 rename_i e0 _ _ _ _ _ e2 _ _
 cases h;simp only[Bool.and_eq_true] at e2;rw[Nat.eq_of_beq_eq_true e2.1,Nat.eq_of_beq_eq_true e2.2,Ld e0]
def GI(n0:Nat)(L:List aH): Option Bm:=match a7 L with
 | some (A,w,y,z,b)=>match T8 w n0 with
  | some X1=>match Hh y (n0+1) with
   | some fy=>match nN fy (.lit (.bool true)) with
    | true=>match Hh z (n0+2) with
     | some X=>match VH b with
      | some (d,X2)=>match nN X1 X&&nN X2 X with
       | true=>some ⟨A,X,d⟩
       | false=>none
      | none=>none
     | none=>none
    | false=>none
   | none=>none
  | none=>none
 | none=>none
theorem BH{L:List aH}{p:Bm}(h:GI n0 L=some p): L=p.L n0:=by
 unfold GI at h
 split at h
 case h_2=>cases h
 rename_i A w y z b e
 split at h
 case h_2=>cases h
 rename_i X1 e1
 split at h
 case h_2=>cases h
 rename_i fy e2
 split at h
 case h_2=>cases h
 rename_i e3
 split at h
 case h_2=>cases h
 rename_i X e4
 split at h
 case h_2=>cases h
 rename_i d X2 e5
 split at h
 case h_2=>cases h
 rename_i e6
 cases h
 simp only[Bool.and_eq_true] at e6
 rw[Tb e,OX e1,lG e2,lG e4,GR e5,jQ e3,jQ e6.1,jQ e6.2];rfl
def l9(n0:Nat)(lr:List Bool): Bool:=match lr[n0+1]?,lr[n0+2]? with
 | some a,some b=>a&&b
 | _,_=>false
theorem OQ{lr:List Bool}(h:l9 n0 lr=true): lr[n0+1]?=some true/\lr[n0+2]?=some true:=by
 unfold l9 at h;split at h
 .rename_i a b u v;simp only[Bool.and_eq_true] at h;rw[u,v,h.1,h.2];exact⟨rfl,rfl⟩
 .cases h
theorem Mr: ∀(l:List Bool) (tm:List AV) (i:Nat) (v:AV),l[i]?=some true->tm[i]?=some v->(cH l tm)[i]?=some v
 | [],_,_,_,h,_=>by simp at h
 | b::l,[],_,_,_,h=>by simp at h
 | b::l,x::r,0,v,h,g=>by simp at h g;simp[cH,h,g]
 | b::l,x::r,i+1,v,h,g=>by simp at h g;simpa[cH] using Mr l r i v h g
def dI[aA](P:Program)(T:List bC)(n0:Nat)(K:List Nat): bK->Code->Bool
 | .skip,code=>match code with
  | .skip=>true
  | .label _=>true
  | _=>false
 | .exit i,code=>match code with
  | .exit j=>Nat.beq i j
  | _=>false
 | .scope p,code=>match code with
  | .scope q=>dI P T n0 K p q
  | _=>false
 | .cond k p q,code=>match code with
  | .cond k' p' q'=>aI T k k'&&((match k with | .tmp t=>Nat.blt t n0 | _=>false)&&(dI P T n0 K p p'&&dI P T n0 K q q'))
  | _=>false
 | .block i p,code=>match code with
  | .block j q=>Nat.beq i j&&dI P T n0 K p q
  | _=>false
 | .loop live tr p,code=>match code with
  | .loop q=>dI P T n0 K p q
  | _=>false
 | .mask lx lr tr p,code=>l9 n0 lr&&dI P T n0 K p code
 | .frz t p,code=>Nat.blt t n0&&dI P T n0 K p code
 | .region d ck l,code=>match code with
  | .region id ops d'=>dT P T (.region d ck l) (.region id ops d')&&(l.all (Wy n0)&&(pT ck).isNone)
  | _=>false
 | .seq p q,code=>match code with
  | .seq p' q'=>dI P T n0 K p p'&&dI P T n0 K q q'
  | .ret=>match p,q with
   | .region _ ck l,.ret=>match ck,l with
    | [],[x,y]=>(match Hh x (n0+1),Hh y (n0+2) with
     | some a,some b=>nN a (.lit (.bool false))&&nN b (.lit (.int .i64 0))
     | _,_=>false)
    | _,_=>false
   | _,_=>false
  | .region id ops draw=>match p with
   | .region _ ck l=>match q with
    | .ret=>match GI n0 l with
     | some x=>(match ck with | [] => true | _=>false)&&(!draw&&x.ok P T n0 K ops)
     | none=>false
    | .cond k a b=>match k,a,b with
     | .tmp t,.ret,.region _ ck' r=>match GJ n0 l r with
      | some x=>Nat.beq t (n0+1)&&((match ck' with | [] => true | _=>false)&&(x.ok P T n0 K ck id ops draw&&K.all λt=>Nat.blt t n0))
      | none=>false
     | _,_,_=>false
    | _=>false
   | _=>false
  | _=>false
 | _,_=>false
theorem oG: ∀(l:List Bool) (tm:List AV),(cH l tm).length=tm.length
 | [],tm=>by cases tm<;>simp[cH]
 | b::l,[]=>rfl
 | b::l,x::r=>by simp[cH,oG l r]
theorem Ew: ∀(l:List Bool) (tm tm':List AV) (t:Nat),tm[t]?=tm'[t]?->(cH l tm)[t]?=(cH l tm')[t]?
 | [],tm,tm',t,h=>by have e:∀v:List AV,cH [] v=v.map λ_=>.undef:=λv=>by cases v<;>rfl
                     rw[e,e,List.getElem?_map,List.getElem?_map,h]
 | b::l,[],[],t,h=>rfl
 | b::l,[],y::s,t,h=>by rw[List.getElem?_nil] at h;have h:=List.getElem?_eq_none_iff.1 h.symm;rw[List.getElem?_eq_none (by simp[cH]),List.getElem?_eq_none (by rw[oG];exact h)]
 | b::l,x::r,[],t,h=>by rw[List.getElem?_nil] at h;have h:=List.getElem?_eq_none_iff.1 h;rw[List.getElem?_eq_none (by rw[oG];exact h),List.getElem?_eq_none (by simp[cH])]
 | b::l,x::r,y::s,0,h=>by simp at h;simp[cH,h]
 | b::l,x::r,y::s,t+1,h=>by simp at h;simpa[cH] using Ew l r s t h
theorem Mq: ∀(l:List Bool) (tm:List AV) (n:Nat),(cH l tm).take n=cH l (tm.take n):=by
 intro l tm n;apply List.ext_getElem?;intro t
 rw[List.getElem?_take];split
 .exact Ew l _ _ t (by rw[List.getElem?_take,if_pos (by assumption)])
 .rw[List.getElem?_eq_none];rw[oG];simp;omega
theorem CI{live:Option (List Bool)}{tr:Bool}{fl n:Nat}{tm:List AV}{H:aK}: (bR live tr fl n ⟨tm,H⟩).tmps.take n0=(bR live tr fl n ⟨tm.take n0,H⟩).tmps/\(bR live tr fl n ⟨tm,H⟩).heap=(bR live tr fl n ⟨tm.take n0,H⟩).heap/\(bR live tr fl n ⟨tm,H⟩).tmps.length=tm.length:=by
 have e:(wP live tm).take n0=wP live (tm.take n0)/\(wP live tm).length=tm.length:=by
  cases live with
  | none=>exact⟨rfl,rfl⟩
  | some l=>exact⟨Mq l tm n0,oG l tm⟩
 cases tr with
 | false=>simp only[bR];exact⟨e.1,rfl,e.2⟩
 | true=>simp only[bR,if_true,true_and];exact⟨by rw[<-List.map_take,e.1],by rw[List.length_map,e.2]⟩
theorem I5[aA]{live:Option (List Bool)}{tr:Bool}{c0 c:bM}{tm:List AV}{tv:Array Value}(d:aZ (aF T) c0)(f:aZ (aF T) c)(h:aY fl c0 c)(a:fl<=c0.H.length)(e:QU (aF T) n0 c tm tv):
 ∃c',c'.w=c.w/\c'.H=(bR live tr fl c0.H.length ⟨tm,c.H⟩).heap/\aY fl c0 c'/\aZ (aF T) c'/\QU (aF T) n0 c' (bR live tr fl c0.H.length ⟨tm,c.H⟩).tmps tv:=by
 let⟨c',h1,h2,h3,h4,h5⟩:=lH (live:=live) (tr:=tr) d f h a e.2
 let⟨k1,k2,k3⟩:=CI (n0:=n0) (live:=live) (tr:=tr) (fl:=fl) (n:=c0.H.length) (tm:=tm) (H:=c.H)
 exact⟨c',h1,by rw[k2];exact h2,h3,h4,by rw[k3];exact e.1,by rw[k1];exact h5⟩
theorem XR.ne[aA]{c:bM}{st:St}{tv:Array Value}{x:bJ}{e:Exit}(h:XR (aF T) n0 K c st tv x e)(k:x≠.normal): e≠.normal:=by
 cases x with
 | normal=>exact (k rfl).elim
 | exit i=>rw[h.1];simp
 | ret=>
  rcases h with⟨rfl,_⟩ | ⟨n,_,rfl,_⟩<;>simp
theorem JD{Q:Exit->Act->World->Prop}{next:Act->World->Prop}{e:Exit}{a:Act}{w:World}(h:Q e a w)(k:e≠.normal): Exit.then next Q e a w:=by
 cases e<;>first | exact (k rfl).elim | exact h
theorem I0[aA]{code:Code}{step:St->Option (bJ×St)}{live:Option (List Bool)}{tr:Bool}(d:MY P T fl n0 K step code){c0:bM}(i:aZ (aF T) c0)(f:fl<=c0.H.length){ds:List Deferred}{x:bJ}{st':St}{Q:Exit->Act->World->Prop}(v:∀a' c' e,c'.H=st'.heap->aY fl c0 c'->aZ (aF T) c'->XR (aF T) n0 K c' st' a'.tmps x e->a'.defers=ds->Q e a' c'.w)(hx:x≠.normal):
 ∀(n:Nat) (c:bM) (a:Act) (tm:List AV),aZ (aF T) c->aY fl c0 c->QU (aF T) n0 c tm a.tmps->a.defers=ds->dK (bR live tr fl c0.H.length) step n ⟨tm,c.H⟩=some (x,st')->Code.rounds P code Q n a c.w
 | 0,c,a,tm,_,_,_,_,b=>by cases b
 | n+1,c,a,tm,G,r,s,A,b=>by
  simp only[dK] at b;obtain⟨m,F,D,k,z,C⟩:=I5 (live:=live) (tr:=tr) i G r f s;rw[<-F];have j:(bR live tr fl c0.H.length ⟨tm,c.H⟩)=⟨(bR live tr fl c0.H.length ⟨tm,c.H⟩).tmps,m.H⟩:=by rw[D]
  rw[j] at b;split at b
  .rename_i h he;refine d m a _ .normal h _ z C (Nat.le_trans f k.len) he ?_;intro a' c' e o e2 q u p;have u2:=u.2;have he:=u.1;subst he;refine I0 (live:=live) (tr:=tr) d i f v hx n c' a' h.tmps q (k.trans e2) u2 (p.trans A) ?_;rw[o];exact b
  .refine d m a _ x st' _ z C (Nat.le_trans f k.len) b ?_;intro a' c' e o e2 q u p;exact JD (v a' c' e o (k.trans e2) q u (p.trans A)) (u.ne hx)
theorem LJ{b:St->St}{step:St->Option (bJ×St)}: ∀{n:Nat}{st:St}{x:bJ}{s:St},dK b step n st=some (x,s)->x≠.normal
 | 0,_,_,_,h=>by cases h
 | n+1,st,x,s,h=>by
  simp only[dK] at h;split at h
  .exact LJ h
  .rename_i k;intro e;subst e;exact k _ h
end
section
variable {P:Program}{T:List bC}{cf:CF}{fl lf:Nat}{n0:Nat}{K:List Nat}
theorem yY[aA]{tm:List AV}{t:Nat}(h:t<n0): aB (tm.take n0) (.tmp t)=aB tm (.tmp t):=by
 simp only[aB,List.getElem?_take,if_pos h]
theorem LK[aA]{tm:List AV}{t:Nat}{b:Bool}(h:aB tm (.tmp t)=.lit (.bool b)): tm[t]?=some (.lit (.bool b)):=by
 simp only[aB] at h;split at h
 .rename_i v e;rw[e,h]
 .cases h
theorem dW[aA](hm:P.follows .mixedOrders=true)(hfo:fP cf)(hcf:jD P T cf)(hpan:Il P T cf)(hfn:fA P T): ∀(ac:bK) (code:Code),dI P T n0 K ac code=true->MY P T fl n0 K (bW P cf lf fl ac) code
 | .skip,code,hchk=>by
  cases code<;>simp only[dI,Bool.false_eq_true] at hchk
  .intro c a tm x st' Q hs htr hfl hev hQ
   simp only[bW,Option.some.injEq,Prod.mk.injEq] at hev
   let⟨rfl,rfl⟩:=hev
   exact wp_skip<|hQ a c _ rfl (aY.refl _ _) hs ⟨rfl,htr⟩ rfl
  .intro c a tm x st' Q hs htr hfl hev hQ
   simp only[bW,Option.some.injEq,Prod.mk.injEq] at hev
   let⟨rfl,rfl⟩:=hev
   exact wp_label<|hQ a c _ rfl (aY.refl _ _) hs ⟨rfl,htr⟩ rfl
 | .exit i,code,hchk=>by
  cases code<;>try (simp only[dI,Bool.false_eq_true] at hchk;done)
  simp only[dI] at hchk
  have hchk:=Nat.eq_of_beq_eq_true hchk
  subst hchk
  intro c a tm x st' Q hs htr hfl hev hQ
  simp only[bW,Option.some.injEq,Prod.mk.injEq] at hev
  let⟨rfl,rfl⟩:=hev
  exact wp_exit<|hQ a c _ rfl (aY.refl _ _) hs ⟨rfl,htr⟩ rfl
 | .scope p,code,hchk=>by
  cases code<;>try (simp only[dI,Bool.false_eq_true] at hchk;done)
  rename_i p'
  simp only[dI] at hchk
  have hp:=dW hm hfo hcf hpan hfn p p' hchk
  intro c a tm x st' Q hs htr hfl hev hQ
  simp only[bW] at hev
  refine wp_scope_straight<|hp c a tm x st' _ hs htr hfl hev ?_
  intro a' c' e e1 e2 e3 e4 e5
  have:=hQ a' c' e e1 e2 e3 e4 e5
  cases x with
  | normal=>rw[e4.1] at this |-;exact this
  | exit id=>rw[e4.1] at this |-;exact this
  | ret=>rcases e4 with⟨rfl,_⟩ | ⟨n,_,rfl,_⟩<;>exact this
 | .cond k p q,code,hchk=>by
  cases code<;>try (simp only[dI,Bool.false_eq_true] at hchk;done)
  rename_i k' p' q'
  simp only[dI,Bool.and_eq_true] at hchk
  let⟨h1,h2,h3,h4⟩:=hchk
  have hp:=dW hm hfo hcf hpan hfn p p' h3
  have hq:=dW hm hfo hcf hpan hfn q q' h4
  intro c a tm x st' Q hs htr hfl hev hQ
  have hk:=aM hs htr.2 h1
  cases k<;>try (simp only[Bool.false_eq_true] at h2;done)
  rename_i t
  have ht:t<n0:=by simpa [Nat.blt_eq] using h2
  rw[yY ht] at hk
  simp only[bW] at hev
  split at hev
  .rename_i hb
   rw[hb] at hk
   exact wp_cond_true hk.lit_inv<|hp c a tm x st' Q hs htr hfl hev hQ
  .rename_i hb
   rw[hb] at hk
   exact wp_cond_false hk.lit_inv<|hq c a tm x st' Q hs htr hfl hev hQ
  .cases hev
 | .block i p,code,hchk=>by
  cases code<;>try (simp only[dI,Bool.false_eq_true] at hchk;done)
  rename_i i' p'
  simp only[dI,Bool.and_eq_true] at hchk
  let⟨h1,h2⟩:=hchk
  have h1:=Nat.eq_of_beq_eq_true h1
  subst h1
  have hp:=dW hm hfo hcf hpan hfn p p' h2
  intro c a tm x st' Q hs htr hfl hev hQ
  simp only[bW] at hev
  refine wp_block ?_
  split at hev
  .rename_i j st1 he
   refine hp c a tm (.exit j) st1 _ hs htr hfl he ?_
   intro a' c' e e1 e2 e3 e4 e5
   have e4:=e4
   have he:=e4.1
   subst he
   simp only[Exit.inBlock]
   split at hev
   .rename_i hj
    simp only[Option.some.injEq,Prod.mk.injEq] at hev
    let⟨rfl,rfl⟩:=hev
    rw[if_pos hj]
    exact hQ a' c' _ e1 e2 e3 ⟨rfl,e4.2⟩ e5
   .rename_i hj
    simp only[Option.some.injEq,Prod.mk.injEq] at hev
    let⟨rfl,rfl⟩:=hev
    rw[if_neg hj]
    exact hQ a' c' _ e1 e2 e3 ⟨rfl,e4.2⟩ e5
  .rename_i r hne
   refine hp c a tm x st' _ hs htr hfl hev ?_
   intro a' c' e e1 e2 e3 e4 e5
   have:=hQ a' c' e e1 e2 e3 e4 e5
   cases x with
   | normal=>rw[e4.1] at this |-;exact this
   | exit id=>exact (hne id st' hev).elim
   | ret=>rcases e4 with⟨rfl,_⟩ | ⟨n,_,rfl,_⟩<;>exact this
 | .loop live tr p,code,hchk=>by
  cases code<;>try (simp only[dI,Bool.false_eq_true] at hchk;done)
  rename_i p'
  simp only[dI] at hchk
  have hp:=dW hm hfo hcf hpan hfn p p' hchk
  intro c a tm x st' Q hs htr hfl hev hQ
  simp only[bW] at hev
  exact wp_loop_rounds lf<|I0 hp hs hfl hQ (LJ hev) lf c a tm hs (aY.refl _ _) htr rfl hev
 | .mask lx lr tr q,code,hchk=>by
  have hchk:l9 n0 lr=true/\dI P T n0 K q code=true:=by
   cases code<;>simpa only[dI,Bool.and_eq_true] using hchk
  let⟨hlr,hchk⟩:=hchk
  have hq:=dW hm hfo hcf hpan hfn q code hchk
  intro c a tm x st' Q hs htr hfl hev hQ
  simp only[bW,nH] at hev
  split at hev
  .rename_i x1 st1 he
   have key:∀y,y≠.ret->st'=bR (some lx) tr fl c.H.length st1->bW P cf lf fl q ⟨tm,c.H⟩=some (y,st1)->x=y->code.wp P Q a c.w:=by
    intro y hy e he e'
    subst e e'
    refine hq c a tm x st1 Q hs htr hfl he ?_
    intro a' c' e e1 e2 e3 e4 e5
    have e4':QU (aF T) n0 c' st1.tmps a'.tmps:=by
     cases x with
     | normal=>exact e4.2
     | exit i=>exact e4.2
     | ret=>exact (hy rfl).elim
    let⟨c2,h1,h2,h3,h4,h5⟩:=I5 (live:=some lx) (tr:=tr) hs e3 e2 hfl e4'
    have e6:(⟨st1.tmps,c'.H⟩:St)=st1:=by rw[e1]
    rw[e6] at h2 h5
    have:=hQ a' c2 e h2 h3 h4 (by
     cases x with
     | normal=>exact ⟨e4.1,h5⟩
     | exit i=>exact ⟨e4.1,h5⟩
     | ret=>exact (hy rfl).elim) e5
    rwa [h1] at this
   split at hev
   .simp only[Option.some.injEq,Prod.mk.injEq] at hev
    obtain⟨rfl,rfl⟩:=hev
    refine hq c a tm .ret st1 Q hs htr hfl he ?_
    intro a' c' e e1 e2 e3 e4 e5
    have keep:∀i v,lr[i]?=some true->st1.tmps[i]?=some v->(cH lr st1.tmps)[i]?=some v:=Mr lr st1.tmps
    have hl:=OQ hlr
    refine hQ a' c' e e1 e2 e3 ?_ e5
    rcases e4 with⟨rfl,k1,k2⟩ | ⟨n,tmx,rfl,k1,k2,k3,k4⟩
    .exact .inl ⟨rfl,keep _ _ hl.1 k1,by rw[oG];exact k2.1,by rw[Mq];exact nR lr _ _ k2.2⟩
    .exact .inr ⟨n,cH lr tmx,rfl,keep _ _ hl.1 k1,keep _ _ hl.2 k2,nR lr _ _ k3,λt ht=>Ew lr _ _ t (k4 t ht)⟩
   .simp only[Option.some.injEq,Prod.mk.injEq] at hev
    obtain⟨rfl,rfl⟩:=hev
    exact key .normal (by simp) rfl he rfl
   .rename_i i
    simp only[Option.some.injEq,Prod.mk.injEq] at hev
    obtain⟨rfl,rfl⟩:=hev
    exact key (.exit i) (by simp) rfl he rfl
  .cases hev
 | .region draw ck aops,code,hchk=>by
  cases code<;>try (simp only[dI,Bool.false_eq_true] at hchk;done)
  rename_i id ops draw'
  simp only[dI,Bool.and_eq_true,Option.isNone_iff_eq_none] at hchk
  let⟨h1,h2,h3⟩:=hchk
  have hd:draw=draw':=by simp only[dT,Bool.and_eq_true,beq_iff_eq] at h1;exact h1.1.1
  subst hd
  intro c a tm x st' Q hs htr hfl hev hQ
  simp only[bW] at hev
  split at hev
  .rename_i st1 he
   simp only[Option.some.injEq,Prod.mk.injEq] at hev
   let⟨rfl,rfl⟩:=hev
   let⟨k1,k2⟩:=SV h3 h2 he
   refine tV hm hfo hcf hfn h1 hs htr.2 hfl k1 ?_
   intro a' c' e1 e2 e3 e4 e5
   exact hQ a' c' .normal e1 e2 e3 ⟨rfl,by rw[k2];exact htr.1,e4⟩ e5
  .cases hev
 | .seq p q,code,hchk=>by
  cases code<;>try (simp only[dI,Bool.false_eq_true] at hchk;done)
  case seq p' q'=>
   simp only[dI,Bool.and_eq_true] at hchk
   have hp:=dW hm hfo hcf hpan hfn p p' hchk.1
   have hq:=dW hm hfo hcf hpan hfn q q' hchk.2
   intro c a tm x st' Q hs htr hfl hev hQ
   simp only[bW] at hev
   refine wp_seq ?_
   split at hev
   .rename_i st1 he
    refine hp c a tm .normal st1 _ hs htr hfl he ?_
    intro a' c' e e1 e2 e3 e4 e5
    have he:=e4.1
    subst he
    show q'.wp P Q a' c'.w
    refine hq c' a' st1.tmps x st' Q e3 e4.2 (Nat.le_trans hfl e2.len) (by rw[e1];exact hev) ?_
    intro a'' c'' e f1 f2 f3 f4 f5
    exact hQ a'' c'' e f1 (e2.trans f2) f3 f4<|f5.trans e5
   .rename_i r hne
    refine hp c a tm x st' _ hs htr hfl hev ?_
    intro a' c' e e1 e2 e3 e4 e5
    exact JD (hQ a' c' e e1 e2 e3 e4 e5) (e4.ne (λk=>hne st' (by rw[k] at hev;exact hev)))
  case ret=>
   simp only[dI] at hchk
   split at hchk
   case h_2=>cases hchk
   rename_i dr ck l
   split at hchk
   case h_2=>cases hchk
   rename_i x y
   split at hchk
   case h_2=>cases hchk
   rename_i fa fb g1 g2
   simp only[Bool.and_eq_true] at hchk
   have g1:=lG g1
   have g2:=lG g2
   rw[jQ hchk.1] at g1
   rw[jQ hchk.2] at g2
   subst g1 g2
   intro c a tm x st' Q hs htr hfl hev hQ
   simp only[bW,dN,aW,aV,bY,aG,aB,dL,Option.some.injEq,Prod.mk.injEq] at hev
   let⟨rfl,rfl⟩:=hev
   have hl:=htr.1
   refine wp_ret<|hQ a c .ret rfl (aY.refl _ _) hs (.inl ⟨rfl,?_,?_,?_⟩) rfl
   .show ((tm.set (n0+1) _).set (n0+2) _)[n0+1]?=_
    rw[List.getElem?_set_ne (by omega),List.getElem?_set_self (by omega)]
   .simp only[List.length_set];exact hl
   .show TR (aF T) c (((tm.set (n0+1) _).set (n0+2) _).take n0) a.tmps
    rw[oP,oP];exact htr.2
  case region id ops draw=>
   simp only[dI] at hchk
   split at hchk
   case h_2=>cases hchk
   rename_i dr ck l
   split at hchk
   case h_3=>cases hchk
   case h_1=>
    split at hchk
    case h_2=>cases hchk
    rename_i px hx
    simp only[Bool.and_eq_true,Bool.not_eq_true'] at hchk
    let⟨h1,h2,h3⟩:=hchk
    subst h2
    cases ck with
    | cons _ _=>cases h1
    | nil=>
     have hL:=BH hx
     subst hL
     intro c a tm x st' Q hs htr hfl hev hQ
     simp only[bW,dN] at hev
     split at hev
     .rename_i st1 he
      split at he
      .rename_i s2 he2
       simp only[Option.some.injEq,Prod.mk.injEq] at he hev
       let⟨_,rfl⟩:=he
       let⟨rfl,rfl⟩:=hev
       exact Bm.sound hcf hfn h3 hs htr hfl he2 hQ
      .cases he
     .rename_i r hne
      split at hev
      .rename_i s2 he2
       simp only[he2] at hne
       exact (hne _ rfl).elim
      .cases hev
   case h_2 k pa pb=>
    split at hchk
    case h_2=>cases hchk
    rename_i t dr' ck' r
    split at hchk
    case h_2=>cases hchk
    rename_i pr hx
    simp only[Bool.and_eq_true] at hchk
    let⟨h1,h2,h3,h4⟩:=hchk
    have h1:=Nat.eq_of_beq_eq_true h1
    subst h1
    cases ck' with
    | cons _ _=>cases h2
    | nil=>
     let⟨hL,hR⟩:=BI hx
     subst hL hR
     intro c a tm x st' Q hs htr hfl hev hQ
     simp only[bW] at hev
     split at hev
     .rename_i st1 he
      split at he
      .rename_i s2 he2
       simp only[Option.some.injEq,Prod.mk.injEq] at he
       let⟨_,rfl⟩:=he
       split at hev
       ·
        rename_i hb
        simp only[Option.some.injEq,Prod.mk.injEq] at hev
        let⟨rfl,rfl⟩:=hev
        have hf:=LK hb
        have hok:=h3
        simp only[eH.ok,Bool.and_eq_true,beq_iff_eq,Option.isNone_iff_eq_none] at h3
        let⟨_,i1,_,_,_,i5,_,i6,_,_⟩:=h3
        let⟨sA,v0,v1,rr,H1,a1,a2,a3,a4⟩:=eH.first hfo i6 he2
        subst a4
        simp only[eH.full,List.all_append,List.all_cons,Bool.and_eq_true] at i1
        let⟨k1,k2⟩:=mD i1.1 a1
        have hl:n0+3<=sA.tmps.length:=by rw[k2];exact htr.1
        have hv0:v0=.lit (.bool true):=by
         simp only at hf
         rw[List.getElem?_set_ne (by omega),List.getElem?_set_self (by simp only[List.length_set];omega)] at hf;exact Option.some.inj hf
        subst hv0
        refine eH.panics hm hcf hpan hfn hok hs htr.2 hfl k1 (by rw[Hi (o:=pr.call) i1.2.1 rfl];exact a2) ?_
        intro n a' c' tmx hv e1 e2 e3 e4 hun e5
        subst hv
        refine hQ a' c' _ e1 e2 e3 (.inr ⟨n,tmx,rfl,hf,?_,e4,λt ht=>?_⟩) e5
        .show (((sA.tmps.set n0 _).set (n0+1) _).set (n0+2) _)[n0+2]?=_
         rw[List.getElem?_set_self (by simp only[List.length_set];omega)]
        .have ht0:t<n0:=by simpa [Nat.blt_eq] using List.all_eq_true.1 h4 t ht
         rw[hun t (Gw i5 ht),List.getElem?_take,if_pos ht0]
         show tm[t]?=(((sA.tmps.set n0 _).set (n0+1) _).set (n0+2) _)[t]?
         rw[List.getElem?_set_ne (by omega),List.getElem?_set_ne (by omega),List.getElem?_set_ne (by omega),zA a1 (Gw i5 ht)]
       .rename_i hb
        have hf:=LK hb
        split at hev
        .rename_i s3 he3
         simp only[Option.some.injEq,Prod.mk.injEq] at hev
         let⟨rfl,rfl⟩:=hev
         let⟨k1,k2⟩:=eH.normal hfo h3 he2 hf he3
         have hc:dT P T (.region draw ck pr.full) (.region id ops draw)=true:=by
          simp only[eH.ok,Bool.and_eq_true] at h3;exact h3.1
         refine tV hm (k8 hfo) (k7 hcf hpan) hfn hc hs htr.2 hfl k1 ?_
         intro a' c' e1 e2 e3 e4 e5
         exact hQ a' c' .normal e1 e2 e3 ⟨rfl,by rw[k2];exact htr.1,e4⟩ e5
        .cases hev
       .cases hev
      .cases he
     .rename_i r hne
      split at hev
      .rename_i s2 he2
       simp only[he2] at hne
       exact (hne _ rfl).elim
      .cases hev
 | .ret,code,hchk=>by cases code<;>simp only[dI,Bool.false_eq_true] at hchk
 | .frz t q,code,hchk=>by
  have hchk:Nat.blt t n0=true/\dI P T n0 K q code=true:=by
   cases code<;>simpa only[dI,Bool.and_eq_true] using hchk
  let⟨ht,hchk⟩:=hchk
  have ht:t<n0:=by simpa [Nat.blt_eq] using ht
  have hq:=dW hm hfo hcf hpan hfn q code hchk
  intro c a tm x st' Q hs htr hfl hev hQ
  simp only[bW] at hev
  split at hev
  .rename_i v H' he
   let⟨c',k1,k2,k3,k4,k5⟩:=LY hs he
   have htr':QU (aF T) n0 c' (tm.set t v) a.tmps:=by
    refine⟨by simpa using htr.1,?_⟩;rw[take_set]
    refine⟨by simpa using htr.2.1,λu y hy=>?_⟩
    rw[List.getElem?_set] at hy
    split at hy
    .rename_i hut
     subst hut
     split at hy
     .rename_i hlt
      cases hy
      let⟨cv,g1,g2⟩:=htr.2.2 t (tm.take n0)[t]<|List.getElem?_eq_getElem hlt
      refine⟨cv,g1,k5 cv ?_⟩
      rw[<-yY ht]
      simp only[aB,List.getElem?_eq_getElem hlt]
      exact g2
     .cases hy
    .let⟨cv,g1,g2⟩:=htr.2.2 u y hy
     exact⟨cv,g1,g2.step k3⟩
   have:=hq c' a (tm.set t v) x st' Q k4 htr' (Nat.le_trans hfl k3.len) (by rw[k2];exact hev) λa' c'' e e1 e2 e3 e4 e5=>hQ a' c'' e e1 (k3.trans e2) e3 e4 e5
   rwa [k1] at this
  .cases hev
 | .told _ _ _ _,code,hchk=>by cases code<;>simp only[dI,Bool.false_eq_true] at hchk
 | .nilIf _ _ _ _ _,code,hchk=>by cases code<;>simp only[dI,Bool.false_eq_true] at hchk
 | .loopV _ _ _ _ _,code,hchk=>by cases code<;>simp only[dI,Bool.false_eq_true] at hchk
 | .stop,code,hchk=>by cases code<;>simp only[dI,Bool.false_eq_true] at hchk
end
section
variable {P:Program}{T:List bC}{cf:CF}{fl lf:Nat}{n0:Nat}
def kV(t:Nat): bK->Bool
 | .region _ ck l=>(pT ck).isNone&&l.all λo=>match o.dst with
  | some d=>!Nat.beq d t
  | none=>true
 | .seq a b=>kV t a&&kV t b
 | .cond _ a b=>kV t a&&kV t b
 | .block _ c=>kV t c
 | .loop _ _ c=>kV t c
 | .mask _ _ _ c=>kV t c
 | .scope c=>kV t c
 | .skip=>true
 | .exit _=>true
 | .ret=>true
 | _=>false
def yK(t i w j k:Nat)(st:St): Prop:=st.tmps[t]?=some (.ptr i w j k)\/st.tmps[t]?=some .undef
theorem Tq{t i w j k:Nat}: ∀{l:List Bool}{tm:List AV},(tm[t]?=some (.ptr i w j k)\/tm[t]?=some .undef)->((cH l tm)[t]?=some (.ptr i w j k)\/(cH l tm)[t]?=some .undef):=by
 intro l;induction l generalizing t with
 | nil=>
  intro tm h;have e:cH [] tm=tm.map λ_=>.undef:=by cases tm<;>rfl
  rw[e,List.getElem?_map];rcases h with h | h<;>rw[h]<;>exact .inr rfl
 | cons b l ih=>
  intro tm h;cases tm with
  | nil=>simp at h
  | cons x r=>
   cases t with
   | zero=>cases b<;>simp[cH] at h |-;exact h
   | succ t=>simp at h;simpa[cH] using ih h
theorem Fc{live:Option (List Bool)}{tr:Bool}{n t i w j k:Nat}{st:St}(h:yK t i w j k st): yK t i w j k (bR live tr fl n st):=by
 have m:(wP live st.tmps)[t]?=some (.ptr i w j k)\/(wP live st.tmps)[t]?=some .undef:=by
  cases live with
  | none=>exact h
  | some l=>exact Tq h
 cases tr with
 | false=>exact m
 | true=>
  simp only[bR,if_true,yK,List.getElem?_map]
  rcases m with m | m
  .rw[m];by_cases a:i<n
   .left;simp[rH,rJ,fZ,gU,a]
   .right;simp[rH,rJ,fZ,gU,a]
  .rw[m];exact .inr rfl
theorem AH[aA](hfo:fP cf){ck:List (Nat×Nat)}{l:List aH}{t i w j k:Nat}{st st':St}(hm:pT ck=none)(h:(l.all λo=>match o.dst with | some d=>!Nat.beq d t | none=>true)=true)(e:dN P cf fl ck l st=some st')(a:yK t i w j k st): yK t i w j k st':=by
 have a2:aW P cf fl l st=some st':=by
  rcases sO hfo e with⟨_,g⟩ | ⟨_,_,_,_,_⟩
  .exact g
  .simp_all
 have:=zA (t:=t) a2 λo m e=>by
  have:=List.all_eq_true.1 h o m;rw[e] at this;simp at this
 unfold yK;rw[this];exact a
theorem Tu{b:St->St}{step:St->Option (bJ×St)}{t i w j k:Nat}(h1:∀st,yK t i w j k st->yK t i w j k (b st))(h2:∀st x st',step st=some (x,st')->yK t i w j k st->yK t i w j k st'): ∀{n:Nat}{st:St}{x:bJ}{s:St},dK b step n st=some (x,s)->yK t i w j k st->yK t i w j k s
 | 0,_,_,_,h,_=>by cases h
 | n+1,st,x,s,h,a=>by
  simp only[dK] at h;split at h
  .rename_i m e;exact Tu h1 h2 h (h2 _ _ _ e (h1 _ a))
  .exact h2 _ _ _ h (h1 _ a)
theorem fH[aA](hfo:fP cf){t i w j k:Nat}: ∀(c:bK) (st:St) (x:bJ) (st':St),kV t c=true->bW P cf lf fl c st=some (x,st')->yK t i w j k st->yK t i w j k st'
 | .skip,st,x,st',_,e,a=>by simp only[bW,Option.some.injEq,Prod.mk.injEq] at e;rw[<-e.2];exact a
 | .exit _,st,x,st',_,e,a=>by simp only[bW,Option.some.injEq,Prod.mk.injEq] at e;rw[<-e.2];exact a
 | .ret,st,x,st',_,e,a=>by simp only[bW,Option.some.injEq,Prod.mk.injEq] at e;rw[<-e.2];exact a
 | .stop,st,x,st',h,_,_=>by cases h
 | .frz _ _,st,x,st',h,_,_=>by cases h
 | .told _ _ _ _,st,x,st',h,_,_=>by cases h
 | .nilIf _ _ _ _ _,st,x,st',h,_,_=>by cases h
 | .loopV _ _ _ _ _,st,x,st',h,_,_=>by cases h
 | .region _ ck l,st,x,st',h,e,a=>by
  simp only[kV,Bool.and_eq_true,Option.isNone_iff_eq_none] at h;simp only[bW] at e;split at e
  .rename_i s g;cases e;exact AH hfo h.1 h.2 g a
  .cases e
 | .seq p q,st,x,st',h,e,a=>by
  simp only[kV,Bool.and_eq_true] at h;simp only[bW] at e;split at e
  .rename_i s g;exact fH hfo q s x st' h.2 e (fH hfo p st _ s h.1 g a)
  .exact fH hfo p st x st' h.1 e a
 | .cond _ p q,st,x,st',h,e,a=>by
  simp only[kV,Bool.and_eq_true] at h;simp only[bW] at e;split at e
  .exact fH hfo p st x st' h.1 e a
  .exact fH hfo q st x st' h.2 e a
  .cases e
 | .block _ p,st,x,st',h,e,a=>by
  simp only[kV] at h;simp only[bW] at e;split at e
  .rename_i m s g;have:=fH hfo p st _ s h g a
   split at e<;>(cases e;exact this)
  .exact fH hfo p st x st' h e a
 | .loop live tr p,st,x,st',h,e,a=>by
  simp only[kV] at h;simp only[bW] at e
  exact Tu (λs=>Fc) (λs y s' g=>fH hfo p s y s' h g) e a
 | .mask lx lr tr p,st,x,st',h,e,a=>by
  simp only[kV] at h;simp only[bW,nH] at e;split at e
  .rename_i y s g;have b:=fH hfo p st y s h g a
   split at e
   .cases e;exact Tq b
   .cases e;exact Fc b
   .cases e;exact Fc b
  .cases e
 | .scope p,st,x,st',h,e,a=>by
  simp only[kV] at h;simp only[bW] at e;exact fH hfo p st x st' h e a
end
def Z9[aA](FT:Nat->Option Nat)(c:bM)(r:AV)(t1 t2 g:Nat)(a:Act)(e:Exit): Prop:=
 ∃b err p1 p2 u1 u2,r=.tup [.lit (.bool b),err,p1,p2]/\RV FT c p1 u1/\RV FT c p2 u2/\(∃v,a.tmps[t1]?=some v/\RV FT c p1 v)/\(∃v,a.tmps[t2]?=some v/\RV FT c p2 v)/\a.defers=[{ target:=.fn (.func g) #[u1,u2],args:=#[] }]/\((b=false/\(e=.ret\/e=.normal))\/∃n,b=true/\err=.lit (.int .i64 n)/\e=.panic (xN n))
def XW[aA](P:Program)(T:List bC)(cf:CF): Prop:=
 ∀(fl vi vs t1 t2 g f:Nat) (args:List AV) (r:AV) (H':aK) (c:bM) (us:Array Value),(vi,vs,t1,t2,g)∈aA.df->aF T vi=some f->args.length<=4->cf fl vs args c.H=some (r,H')->aZ (aF T) c->fl<=c.H.length->gY (aF T) c args us->
  ∃fn code,P.funcs[f]?=some fn/\fn.body=some code/\∀Q:Exit->Act->World->Prop,(∀a' c' e,c'.H=H'->c'.X=c.X->aY fl c c'->aZ (aF T) c'->Z9 (aF T) c' r t1 t2 g a' e->Q e a' c'.w)->code.wp P Q { tmps:=us++Array.replicate (fn.ntmps-us.size) undef,defers:=[] } c.w
end Go.Proofs.YthadajkojciapaaGreatDoor.Av
