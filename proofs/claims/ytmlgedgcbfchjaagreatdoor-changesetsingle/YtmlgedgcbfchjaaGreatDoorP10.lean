/- A part of the proof of a law. -/
import Derived.Test.YtmlgedgcbfchjaaGreatDoorP9
set_option maxRecDepth 100000
set_option maxHeartbeats 4000000
set_option linter.all false
namespace Go.Proofs.YtmlgedgcbfchjaaGreatDoor.Av
open Go
section
variable {R:Type}(n:Nat)
noncomputable section
abbrev dY:=M1::aWz
def NL: Lc 50 0 0:=bE 0x4f071211b985d5e69c8ffe075c0ae0d56143d318ecf0b9a8304bf0fec57a8d93 dY [] [] @oP
def NK: Lc 50 0 1:=bE 0x185701f54697988dd880fe5fb3670994aae2751daac399665ab6df93 dY [] [] @oO
def Es: aJ->(((List Int×List Aab×List aP×List aD×List Int)->Option R)×Unit)->Unit->Option R:=λa (b,_) _=>bnd (sC n a.Plan.Nodes) λc=>bnd (oJ n a.Plan.Arcs) λd=>bnd (gW n a.Plan.Faces) λf=>bnd (kR n a.Features) λg=>bnd (EG n (f,c,g,(ln d)) (d,0)) λh=>bnd (EF n (f,c,h,(ln g)) (g,0)) λi=>b (f,c,h,i,f)
def Mt:=qR Es
def NO: Ic:=bP 50 0 1 0x538ebd066c9b2ed5c936a4086e8c18bcb08fc0367741f451a996b3ca903c47d1 dY [⟨0,[NL]⟩,⟨1,[NK]⟩] [] @Es
def sA(n:Nat): Int->((Bool->Option R)×Unit)->Unit->Option R:=λa (b,_) _=>cnd (a==1) (b true)<|cnd (a==2) (b true)<|cnd (a==3) (b true)<|b false
def jN:=fR sA
def NJ: Lc 15 0 0:=bG 0x5ad9e7d586bfee8636e8bebe30b816aa5d3 dY [] [] @sA
def Eo: (List Int×List Aab×List aP×List aD×aN)->((Bool->Option R)×Unit)->Unit->Option R:=λ(a,b,c,d,f) (g,_) _=>bnd (lE n (aM.mk b c a) f.ID) λh=>cd (h > 0) (g true)<|bnd (oI n (aJ.mk (aM.mk b c a) d) 1 f.ID) λi=>cd ((ln i) > 0) (g true)<|g false
def r4:=fR Eo
def NI: Lc 51 0 0:=bG 0x3312a1b739580480f681817d5279eb1799bef72181888600058a78438a dY [] [] @Eo
def Ep(n:Nat): (List Int×List Int×List Aab×List aP×List aD×Int×Int)->((Unit->Option R)×((List Aab×(Nat×Nat))->Option R)×Unit)->Unit->Option R:=λ(a,b,c,d,f,g,h) (i,j,_) _=>bnd (Nq<|decide<|0<=g/\g<=h/\h<=(ln c)/\(ln c)<=(ln c)) λ_=>cnd (g==h) (i ())<|bnd (sub c (0,List.length c) 0 g) λl=>bnd (sub c (0,List.length c) h<|ln c) λm=>bnd (V6 c l<|win c<|some m) λo=>bnd (sub o (l.1,l.2+List.length (win c<|some m)) (((l.1,l.2+List.length (win c<|some m)).2:Nat):Int)<|ln c) λr=>bnd (clr o r<|Aab.mk 0<|Aaa.mk 0 0) λs=>j (s,(l.1,l.2+List.length (win c<|some m)))
def r5:=BJ Ep
def NM: Ic:=bP 92 0 3 0xd86f37052747a8c6ccd613f7d505f23507d1c0ad2986d3bd12c5 dY [] [] @Ep
def Er: (List Int×List Int×List Aab×List aP×List aD×aN)->(((List Aab×Int)->Option R)×(((Nat×Nat)×List Aab)->Option R)×((List Aab×List Aab)->Option R)×Unit)->Unit->Option R:=λ(a,b,c,d,f,g) (h,i,j,_) _=>bnd (lN n (aJ.mk (aM.mk c d a) f) g.ID) λl=>cnd l.2 (cnd (g.Kind==1) (h (c,8))<|cnd (g.Kind==3) (bnd (iL c (List.length c) l.1) λ_=>bnd (idx c l.1) λm=>h ((List.set c (Int.toNat l.1)<|Aab.mk m.ID g.At),0))<|bnd (r4 n (a,c,d,f,g)) λo=>cnd o (h (c,13))<|bnd2 (r5 n (a,b,c,d,f,l.1,(wr<|l.1+1))) (λ_=>h (c,0)) λr=>bnd (some r) λs=>i (s.2,s.1))<|cnd (g.Kind==1) (bnd (prd n) λ_=>bnd (aLg c l.1<|Aab.mk g.ID g.At) λt=>j (t,[(Aab.mk g.ID g.At)]))<|h (c,7)
def Ms:=in3 Er
def NN: Ic:=bP 51 0 2 0xa8943cdafb2c119e7f1086207e47d5d74a21ae0a957fd220f0bc82e635ac105b226699f243ac7cbaf0482e7 dY [⟨0,[NI]⟩] [NM] @Er
def fI: (List Int×List Aab×List aP×List aD×Int)->((Int->Option R)×Unit)->Unit->Option R:=λ(a,b,c,d,f) (g,_) _=>cnd (f==0) (bnd (cC n<|aJ.mk (aM.mk b c a) d) λh=>g h)<|g f
def cN:=fR fI
def NH: Lc 15 0 2:=bG 0x4b0dadf899bf dY [] [] @fI
def pE: (aJ×aN×List Int×List Aab×List aP×List aD×Int×Int)->((Bool->Option R)×Unit)->Unit->Option R:=λ(a,b,c,d,f,g,h,i) (j,_) _=>cnd (h==0) (cnd (b.Kind==3) (bnd (dJ n a.Plan (aM.mk d f c) i) λl=>cnd l (j true)<|j false)<|cnd (b.Kind==6) (bnd (dJ n a.Plan (aM.mk d f c) i) λm=>cnd m (j true)<|j false)<|j false)<|j false
def It:=fR pE
def IA: Lc 15 0 4:=bG 0x3a2da0d0074af0d dY [] [] @pE
def rZ: (aJ×aN×List Int×List Aab×List aP×List aD×Int×Int)->((Int->Option R)×Unit)->Unit->Option R:=λ(a,b,c,d,f,g,h,i) (j,_) _=>bnd (It n (a,b,c,d,f,g,h,i)) λl=>cnd l (j 12)<|j h
def fJ:=fR rZ
def NG: Lc 15 0 3:=bG 0x3a27c93808da20d dY [⟨0,[cs IA]⟩] [] @rZ
def Bm: ((Nat×Nat)×List Int×List Aab×List aP×List aD×Int)->((Int->Option R)×Unit)->Unit->Option R:=λ(a,b,c,d,f,g) (h,_) _=>cnd (g==0) (bnd (cC n<|aJ.mk (aM.mk (win c<|some a) d b) f) λi=>h i)<|h g
def TX:=fR Bm
def HZ: Lc 15 0 2:=bG 0xa4d7fcdaf6275a739e9146d8c53aa00758f dY [] [] @Bm
def Bk: (aJ×aN×(Nat×Nat)×List Int×List Aab×List aP×List aD×Int×Int)->((Bool->Option R)×Unit)->Unit->Option R:=λ(a,b,c,d,f,g,h,i,j) (l,_) _=>cnd (i==0) (cnd (b.Kind==3) (bnd (dJ n a.Plan (aM.mk (win f<|some c) g d) j) λm=>cnd m (l true)<|l false)<|cnd (b.Kind==6) (bnd (dJ n a.Plan (aM.mk (win f<|some c) g d) j) λo=>cnd o (l true)<|l false)<|l false)<|l false
def TU:=fR Bk
def HX: Lc 15 0 4:=bG 0x808cf8ad874fa697e1cc9f3c18b4dafe807222 dY [] [] @Bk
def Bl: (aJ×aN×(Nat×Nat)×List Int×List Aab×List aP×List aD×Int×Int)->((Int->Option R)×Unit)->Unit->Option R:=λ(a,b,c,d,f,g,h,i,j) (l,_) _=>bnd (TU n (a,b,c,d,f,g,h,i,j)) λm=>cnd m (l 12)<|l i
def TW:=fR Bl
def HY: Lc 15 0 3:=bG 0x52ca6f0ada97741e9398bccc49527a11807222 dY [⟨0,[cs HX]⟩] [] @Bl
def HW: Lc 15 0 2:=bG 0x1b67fadf38ebe2f8cc48b066 dY [] [] @fI
def HU: Lc 15 0 4:=bG 0x1083e4373be833c6a3d56e0683ab84 dY [] [] @pE
def HV: Lc 15 0 3:=bG 0x10823bb72ba87dc1cf129d1983ab84 dY [⟨0,[cs HU]⟩] [] @rZ
def pD(n:Nat): Int->((Bool->Option R)×Unit)->Unit->Option R:=λa (b,_) _=>cnd (a==4) (b true)<|cnd (a==5) (b true)<|cnd (a==6) (b true)<|b false
def mZ:=fR pD
def HT: Lc 15 0 1:=bG 0x5ad9e7d586bfee8636eb040957234eaa5d3 dY [] [] @pD
def Bj(n:Nat): (aN×Int×Int)->((Int->Option R)×Unit)->Unit->Option R:=λ(a,b,c) (d,_) _=>cd (a.C<0) (d b)<|d c
def TQ:=fR Bj
def HS: Lc 93 0 0:=bG 0xf9aefb585d7dd4bfa8754672539d4e4f54a72d47635d48735a1b9f7603453b7b1b3846bf5ebe9e55722eb0c dY [] [] @Bj
def Bi: (List Aab×List Int×List aP×Int×Int)->((Int->Option R)×(Unit->Option R)×Unit)->Unit->Option R:=λ(a,b,c,d,f) (g,h,_) _=>cnd (f==0) (g 12)<|bnd (iM n b f) λi=>cnd i (g 8)<|cnd (d==0) (g 12)<|h ()
def TP:=pc2 Bi
def HR: Lc 93 0 1:=bG 0x774cfc23686db87c249fee6556e97eefb77a4e9f755f70615e4b75fc20bac3cfcf77ce1510fda872791eed0de759de6cf5da9d0b988a9c56fad95854229717d6eafbb2c19fbdbfbacc9ebe3789837 dY [] [] @Bi
def Bs: (List Int×List Aab×List aD×List Int×Int×List Int×Int)->((List aP×Int)->Option R)->(((List aP)->Option R)×Unit)->(List aP×Int)->Option R:=λ(a,b,c,d,f,g,h) i (j,_) (l,m)=>cd (m<h) (bnd (idx g m) λo=>bnd (uR n (aJ.mk (aM.mk b l a) c)<|uF o<|wr<|0-o) λr=>cnd r.2 (cd (o > 0) (bnd (iL l (List.length l) r.1) λ_=>bnd (idx l r.1) λs=>i ((List.set l (Int.toNat r.1)<|aP.mk s.ID s.From s.To s.Via f s.Right),(wr<|m+1)))<|bnd (iL l (List.length l) r.1) λ_=>bnd (idx l r.1) λt=>i ((List.set l (Int.toNat r.1)<|aP.mk t.ID t.From t.To t.Via t.Left f),(wr<|m+1)))<|i (l,(wr<|m+1)))<|j l
def UD:=oH Bs
def II: Lc 125 0 0:=bE 0x189634485c27723570ae991e4819a356e55f14cf2e30c1315401f9ef5b20f0e0181cf6ea3ef70dc5000ae7c7a05fb067b2f3316f908d5ade34fca dY [] [] @Bs
def Bh: (aD×Int)->((Bool->Option R)×Unit)->Unit->Option R:=λ(a,b) (c,_) _=>bnd (cL n a.Kind) λd=>cnd (d==3) (bnd (iM n a.Parts b) λf=>cnd f (c true)<|c false)<|c false
def TO:=fR Bh
def HQ: Lc 125 0 2:=bG 0x185e00a0542c3e0f2f5ef99d280dd2020f38ac63c2eb8cf5a780017bbe5a18b06b7b9acf2b5867a4e7acd dY [] [] @Bh
def Br: (List Int×List Int×List Aab×List aP×List aP×Int×Int×Int)->((List aD×Int)->Option R)->(((List aD)->Option R)×Unit)->(List aD×Int)->Option R:=λ(a,b,c,d,f,g,h,i) j (l,_) (m,o)=>cd (o<i) (bnd (iL m (List.length m) o) λ_=>bnd (idx m o) λr=>bnd (TO n (r,g)) λs=>cnd s (bnd (Dy n r.Parts [h]) λt=>bnd (iL m (List.length m) o) λ_=>bnd (idx m o) λu=>j ((List.set m (Int.toNat o)<|aD.mk u.ID u.Kind u.Class u.Name t),(wr<|o+1)))<|j (m,(wr<|o+1)))<|l m
def UC:=oH Br
def IH: Lc 125 0 1:=bE 0xfcf948e7353e3a1030a291fa5b4d9151f8030d6206ca4d9252fd0bf767c15c2618853256bbc8ad7cd42770305f1ad dY [⟨0,[cs HQ]⟩] [] @Br
def Cb: (List Int×List Int×List Aab×List aP×List aD×List Int×List aP×List Int×Int×Int)->(((List Int×List aD×List aP)->Option R)×Unit)->Unit->Option R:=λ(a,b,c,d,f,g,h,i,j,l) (m,_) _=>bnd (UD n (a,c,f,g,l,i,(ln i)) (h,0)) λo=>bnd (Dy n a [l]) λr=>bnd (UC n (r,b,c,d,o,j,l,(ln f)) (f,0)) λs=>m (r,s,o)
def UI:=qR Cb
def IW: Ic:=bP 125 0 4 0x6c6797f393418e147920a0fe9ef77f02b387295a7ec2d3827b51f34b8dfc384a781106dbae24166a2414d2d3bd59adae1fbdad dY [⟨0,[II]⟩,⟨1,[IH]⟩] [] @Cb
def Cc: (List Int×List Int×List Aab×List aP×List aD×aN)->((Int->Option R)×((List aP×List aP×Int)->Option R)×((List aP×List aP×aM×Int)->Option R)×((List Int×List aD×List aP×List aP×aM)->Option R)×Unit)->Unit->Option R:=λ(a,b,c,d,f,g) (h,i,j,l,_) _=>bnd (uR n (aJ.mk (aM.mk c d a) f) g.ID) λm=>cnd m.2 (h 8)<|bnd (lN n (aJ.mk (aM.mk c d a) f) g.A) λo=>cnd o.2 (bnd (lN n (aJ.mk (aM.mk c d a) f) g.B) λr=>cnd r.2 (bnd (oJ n d) λs=>bnd (jO n g.Via) λt=>bnd (prd n) λ_=>bnd (aLg s m.1<|aP.mk g.ID g.A g.B t 0 0) λu=>bnd (Kq n<|aM.mk c u a) λv=>cnd (v != 0) (i (u,[(aP.mk g.ID g.A g.B t 0 0)],v))<|bnd (LG n<|aM.mk c u a) λw=>cnd (w.2 != 0) (j (u,[(aP.mk g.ID g.A g.B t 0 0)],w.1,w.2))<|bnd (kZ n w.1) λx=>cnd (x.2 != 0) (j (u,[(aP.mk g.ID g.A g.B t 0 0)],w.1,x.2))<|bnd (idx w.1.Arcs m.1) λy=>bnd (idx w.1.Arcs m.1) λz=>bnd (idx x.1 y.Left) λa0=>bnd (idx x.1 z.Right) λb0=>bnd (a7 n (aM.mk c d a) g.ID [a0,b0]) λc0=>bnd (iL u (List.length u) m.1) λ_=>bnd (idx u m.1) λd0=>bnd (iL (List.set u (Int.toNat m.1)<|aP.mk d0.ID d0.From d0.To d0.Via c0 d0.Right) (List.length<|List.set u (Int.toNat m.1)<|aP.mk d0.ID d0.From d0.To d0.Via c0 d0.Right) m.1) λ_=>bnd (idx (List.set u (Int.toNat m.1)<|aP.mk d0.ID d0.From d0.To d0.Via c0 d0.Right) m.1) λf0=>cnd (y.Left==z.Right) (cnd (g.C != 0) (j ((List.set (List.set u (Int.toNat m.1)<|aP.mk d0.ID d0.From d0.To d0.Via c0 d0.Right) (Int.toNat m.1)<|aP.mk f0.ID f0.From f0.To f0.Via f0.Left c0),[(aP.mk g.ID g.A g.B t 0 0)],w.1,12))<|l (a,f,(List.set (List.set u (Int.toNat m.1)<|aP.mk d0.ID d0.From d0.To d0.Via c0 d0.Right) (Int.toNat m.1)<|aP.mk f0.ID f0.From f0.To f0.Via f0.Left c0),[(aP.mk g.ID g.A g.B t 0 0)],w.1))<|bnd (TQ n (g,z.Right,y.Left)) λg0=>bnd2 (TP n (c,a,(List.set (List.set u (Int.toNat m.1)<|aP.mk d0.ID d0.From d0.To d0.Via c0 d0.Right) (Int.toNat m.1)<|aP.mk f0.ID f0.From f0.To f0.Via f0.Left c0),g0,(uF g.C<|wr<|0-g.C))) (λh0=>j ((List.set (List.set u (Int.toNat m.1)<|aP.mk d0.ID d0.From d0.To d0.Via c0 d0.Right) (Int.toNat m.1)<|aP.mk f0.ID f0.From f0.To f0.Via f0.Left c0),[(aP.mk g.ID g.A g.B t 0 0)],w.1,h0)) λi0=>bnd (some i0) λ_=>bnd (idx x.1 g0) λj0=>bnd (IZ n j0) λl0=>bnd (UI n (a,b,c,d,f,a,(List.set (List.set u (Int.toNat m.1)<|aP.mk d0.ID d0.From d0.To d0.Via c0 d0.Right) (Int.toNat m.1)<|aP.mk f0.ID f0.From f0.To f0.Via f0.Left c0),l0,c0,(uF g.C<|wr<|0-g.C))) λm0=>l (m0.1,m0.2.1,m0.2.2,[(aP.mk g.ID g.A g.B t 0 0)],w.1))<|h 7)<|bnd (lN n (aJ.mk (aM.mk c d a) f) g.B) λo0=>cnd o0.2 (h 7)<|h 7
def UJ:=λ(n:Nat) p=>bnd (prd n) λn=>Cc n p (λt=>some<|Sum.inl t,λt=>some<|Sum.inr<|Sum.inl t,λt=>some<|Sum.inr<|Sum.inr<|Sum.inl t,λt=>some<|Sum.inr<|Sum.inr<|Sum.inr t,()) ()
def IX: Ic:=bP 93 0 2 0x4c869d8b8d253aa7f8be2ce340d66af4b7b1f3cc62712fc32e80ecbae909498d0e34dc310b31e165f8c7e88ab7895d595ff474c3182f7164d7db68c021f034941ecc85334731aea38b4d92b75b5903067cd dY [⟨0,[HS]⟩,⟨1,[HR]⟩] [IW] @Cc
def Bg: (List Int×List Aab×List aP×List aD×Int×Int)->((Bool->Option R)×Unit)->Unit->Option R:=λ(a,b,c,d,f,g) (h,_) _=>cnd (f != g) (bnd (oI n (aJ.mk (aM.mk b c a) d) 3 f) λi=>bnd (oI n (aJ.mk (aM.mk b c a) d) 3 g) λj=>bnd (eN n i j) λl=>cnd l (h false)<|h true)<|h false
def TN:=fR Bg
def HP: Lc 52 0 0:=bG 0x1edc8529eda5f401e3b7093202330d32cafff5332fda250818221dbcf2246936 dY [] [] @Bg
def Ca(n:Nat): (List Int×List Int×List Aab×List aP×List aD×Int×Int)->((Unit->Option R)×((List aP×(Nat×Nat))->Option R)×Unit)->Unit->Option R:=λ(a,b,c,d,f,g,h) (i,j,_) _=>bnd (Nq<|decide<|0<=g/\g<=h/\h<=(ln d)/\(ln d)<=(ln d)) λ_=>cnd (g==h) (i ())<|bnd (sub d (0,List.length d) 0 g) λl=>bnd (sub d (0,List.length d) h<|ln d) λm=>bnd (V6 d l<|win d<|some m) λo=>bnd (sub o (l.1,l.2+List.length (win d<|some m)) (((l.1,l.2+List.length (win d<|some m)).2:Nat):Int)<|ln d) λr=>bnd (clr o r<|aP.mk 0 0 0 [] 0 0) λs=>j (s,(l.1,l.2+List.length (win d<|some m)))
def UH:=BJ Ca
def IV: Ic:=bP 95 0 3 0xa83e774e89338c4c90dd95398f128fc0ac98ffaa28d252d7532c0c5 dY [] [] @Ca
def Bf(n:Nat): (List Int×List Int×List Aab×List aP×List aD×Int×Int×aP×Int)->(((List aP)->Option R)×Unit)->Unit->Option R:=λ(a,b,c,d,f,g,h,i,j) (l,_) _=>cnd (i.Left==g) (bnd (iL d (List.length d) j) λ_=>bnd (idx d j) λm=>l<|List.set d (Int.toNat j)<|aP.mk m.ID m.From m.To m.Via h m.Right)<|l d
def TM:=fR Bf
def HO: Lc 96 0 1:=bG 0x37bab17867ca05841cf7d980e1604765e6ca198cb070244d1e4509141b6ab33eff68c0 dY [] [] @Bf
def Bq: (List Int×List Int×List Aab×List aD×Int×Int×Int)->((List aP×Int)->Option R)->(((List aP)->Option R)×Unit)->(List aP×Int)->Option R:=λ(a,b,c,d,f,g,h) i (j,_) (l,m)=>cd (m<h) (bnd (iL l (List.length l) m) λ_=>bnd (idx l m) λo=>bnd (TM n (a,b,c,l,d,f,g,o,m)) λr=>cnd (o.Right==f) (bnd (iL r (List.length r) m) λ_=>bnd (idx r m) λs=>i ((List.set r (Int.toNat m)<|aP.mk s.ID s.From s.To s.Via s.Left g),(wr<|m+1)))<|i (r,(wr<|m+1)))<|j l
def UB:=oH Bq
def IG: Lc 96 0 0:=bE 0x12a5b53aaaa7e840f6970cbf371392d92694d84a4d1be3126163a6999b5c005b5026f0 dY [⟨0,[cs HO]⟩] [] @Bq
def gC: (Int×Int×List Int)->(((List Int)->Option R)×Unit)->Unit->Option R:=λ(a,b,c) (d,_) _=>bnd (iM n c a) λf=>cnd f (bnd (VT n c [a]) λg=>cnd (b != 0) (bnd (Dy n g [b]) λh=>d h)<|d g)<|d c
def nA:=qR gC
def IU: Ic:=bP 128 11 3 0x2bdf2e1674493b8946f5c dY [] [] @gC
def IR: Ic:=bP 128 12 3 0x221bca3572c4b3b3935de67c dY [] [] @gC
def Bp: (List Int×List Int×List Aab×List aP×Int×Int×Int)->((List aD×Int)->Option R)->(((List aD)->Option R)×Unit)->(List aD×Int)->Option R:=λ(a,b,c,d,f,g,h) i (j,_) (l,m)=>cd (m<h) (bnd (iL l (List.length l) m) λ_=>bnd (idx l m) λo=>bnd (cL n o.Kind) λr=>cnd (r==3) (bnd (nA n (f,g,o.Parts)) λs=>bnd (iL l (List.length l) m) λ_=>bnd (idx l m) λt=>i ((List.set l (Int.toNat m)<|aD.mk t.ID t.Kind t.Class t.Name s),(wr<|m+1)))<|i (l,(wr<|m+1)))<|j l
def UA:=oH Bp
def IF: Lc 96 0 2:=bE 0x8e32cbaef27ded3623e03c5f7b3ab4762bda074a03b1ecc3084eb5fc187f9c55e10 dY [] [IR] @Bp
def Bz: (List Int×List Int×List Aab×List aP×List aD×Int×Int)->(((List Int×List aP×List aD)->Option R)×Unit)->Unit->Option R:=λ(a,b,c,d,f,g,h) (i,_) _=>bnd (UB n (a,b,c,f,g,h,(ln d)) (d,0)) λj=>bnd (nA n (g,h,a)) λl=>bnd (UA n (l,b,c,j,g,h,(ln f)) (f,0)) λm=>i (l,j,m)
def Iv:=qR Bz
def Bx: Ic:=bP 96 0 3 0xbaca077de3cca19a530d299c3b149c357c5 dY [⟨0,[IG]⟩,⟨2,[IF]⟩] [IU] @Bz
def Be(n:Nat): ((Nat×Nat)×List Int×List Int×List Aab×List aP×List aD×Int×Int×aP×Int×(Nat×Nat))->(((List aP)->Option R)×Unit)->Unit->Option R:=λ(a,b,c,d,f,g,h,i,j,l,m) (o,_) _=>cnd (j.Left==h) (bnd (idx (win f<|some a) l) λ_=>bnd (idx f<|l+((a.1:Nat):Int)) λr=>o<|List.set f (Int.toNat<|l+((a.1:Nat):Int))<|aP.mk r.ID r.From r.To r.Via i r.Right)<|o f
def TL:=fR Be
def HN: Lc 96 0 1:=bG 0x145941bdf59c6db5bb9d541a85d75908c874aa8925e2fddf5644eec53c10d9ed5d54fc8c3f4afc42c0 dY [] [] @Be
def Bo: ((Nat×Nat)×List Int×List Int×List Aab×List aD×Int×Int×(Nat×Nat)×Int)->((List aP×Int)->Option R)->(((List aP)->Option R)×Unit)->(List aP×Int)->Option R:=λ(a,b,c,d,f,g,h,i,j) l (m,_) (o,r)=>cd (r<j) (bnd (idx (win o<|some i) r) λ_=>bnd (idx o<|r+((i.1:Nat):Int)) λs=>bnd (TL n (a,b,c,d,o,f,g,h,s,r,i)) λt=>cnd (s.Right==g) (bnd (idx (win t<|some a) r) λ_=>bnd (idx t<|r+((a.1:Nat):Int)) λu=>l ((List.set t (Int.toNat<|r+((a.1:Nat):Int))<|aP.mk u.ID u.From u.To u.Via u.Left h),(wr<|r+1)))<|l (t,(wr<|r+1)))<|m o
def TZ:=oH Bo
def IE: Lc 96 0 0:=bE 0x8c24ebad7544edafed8821c2d8df7653699e7997ae6b1202c0e08cf2c86461db6596d1428026f0 dY [⟨0,[cs HN]⟩] [] @Bo
def IP: Ic:=bP 128 11 3 0x2bdf2e1674493b8946f5c dY [] [] @gC
def IM: Ic:=bP 128 12 3 0x221bca3572c4b3b3935de67c dY [] [] @gC
def Bn: ((Nat×Nat)×List Int×List Int×List Aab×List aP×Int×Int×Int)->((List aD×Int)->Option R)->(((List aD)->Option R)×Unit)->(List aD×Int)->Option R:=λ(a,b,c,d,f,g,h,i) j (l,_) (m,o)=>cd (o<i) (bnd (iL m (List.length m) o) λ_=>bnd (idx m o) λr=>bnd (cL n r.Kind) λs=>cnd (s==3) (bnd (nA n (g,h,r.Parts)) λt=>bnd (iL m (List.length m) o) λ_=>bnd (idx m o) λu=>j ((List.set m (Int.toNat o)<|aD.mk u.ID u.Kind u.Class u.Name t),(wr<|o+1)))<|j (m,(wr<|o+1)))<|l m
def TY:=oH Bn
def IB: Lc 96 0 2:=bE 0x55ecdfb00bfa449450f42eadaa9616b9e78c22a66c2d2f2859b16ac92ea80fc58e0f55e10 dY [] [IM] @Bn
def Bw: ((Nat×Nat)×List Int×List Int×List Aab×List aP×List aD×Int×Int)->(((List Int×List aP×List aD)->Option R)×Unit)->Unit->Option R:=λ(a,b,c,d,f,g,h,i) (j,_) _=>bnd (TZ n (a,b,c,d,g,h,i,a,((a.2:Nat):Int)) (f,0)) λl=>bnd (nA n (h,i,b)) λm=>bnd (TY n (a,m,c,d,l,h,i,(ln g)) (g,0)) λo=>j (m,l,o)
def UG:=qR Bw
def IQ: Ic:=bP 96 0 3 0x29366f328d95ad7f9d171c6ce2b390463d53eea2ae3ac1be02c25 dY [⟨0,[IE]⟩,⟨2,[IB]⟩] [IP] @Bw
def Ce: (List Int×List Int×List Aab×List aP×List aD×aN)->((Int->Option R)×((List aP×List aP×Int)->Option R)×((List aP×List aP×List Aab×List aP×List Int×Int)->Option R)×((List Int×List aD×List aP×List aP×List Aab×List aP×List Int)->Option R)×((List aP×Int)->Option R)×((List Int×List aP×List aD×Int×Int)->Option R)×(((Nat×Nat)×List Int×List aP×List aD×Int×Int)->Option R)×(((Nat×Nat)×List aP)->Option R)×Unit)->Unit->Option R:=λ(a,b,c,d,f,g) (h,i,j,l,m,o,r,s,_) _=>cnd (g.Kind==4) (bnd2 (UJ n (a,b,c,d,f,g)) (λt=>h t) λu=>bnd2 (some u) (λv=>i (v.1,v.2.1,v.2.2)) λw=>bnd2 (some w) (λx=>j (x.1,x.2.1,x.2.2.1.Nodes,x.2.2.1.Arcs,x.2.2.1.Faces,x.2.2.2)) λy=>bnd (some y) λz=>l (z.1,z.2.1,z.2.2.1,z.2.2.2.1,z.2.2.2.2.Nodes,z.2.2.2.2.Arcs,z.2.2.2.2.Faces))<|bnd (uR n (aJ.mk (aM.mk c d a) f) g.ID) λa0=>cnd a0.2 (cnd (g.Kind==6) (bnd (jO n g.Via) λb0=>bnd (iL d (List.length d) a0.1) λ_=>bnd (idx d a0.1) λc0=>m ((List.set d (Int.toNat a0.1)<|aP.mk c0.ID c0.From c0.To b0 c0.Left c0.Right),0))<|bnd (oI n (aJ.mk (aM.mk c d a) f) 2 g.ID) λd0=>cd ((ln d0) > 0) (m (d,13))<|bnd (iL d (List.length d) a0.1) λ_=>bnd (idx d a0.1) λf0=>bnd (iL d (List.length d) a0.1) λ_=>bnd (idx d a0.1) λg0=>bnd (TN n (a,c,d,f,f0.Left,g0.Right)) λh0=>cnd h0 (m (d,13))<|bnd2 (UH n (a,b,c,d,f,a0.1,(wr<|a0.1+1))) (λ_=>cnd (f0.Left != g0.Right) (bnd (Iv n (a,b,c,d,f,(uF f0.Left g0.Right),(Gc f0.Left g0.Right))) λi0=>o (i0.1,i0.2.1,i0.2.2,(uF f0.Left g0.Right),(Gc f0.Left g0.Right)))<|m (d,0)) λj0=>bnd (some j0) λl0=>cnd (f0.Left != g0.Right) (bnd (UG n (l0.2,a,b,c,l0.1,f,(uF f0.Left g0.Right),(Gc f0.Left g0.Right))) λm0=>r (l0.2,m0.1,m0.2.1,m0.2.2,(uF f0.Left g0.Right),(Gc f0.Left g0.Right)))<|s (l0.2,l0.1))<|m (d,7)
def Iw:=λ(n:Nat) p=>bnd (prd n) λn=>Ce n p (λt=>some<|Sum.inl t,λt=>some<|Sum.inr<|Sum.inl t,λt=>some<|Sum.inr<|Sum.inr<|Sum.inl t,λt=>some<|Sum.inr<|Sum.inr<|Sum.inr<|Sum.inl t,λt=>some<|Sum.inr<|Sum.inr<|Sum.inr<|Sum.inr<|Sum.inl t,λt=>some<|Sum.inr<|Sum.inr<|Sum.inr<|Sum.inr<|Sum.inr<|Sum.inl t,λt=>some<|Sum.inr<|Sum.inr<|Sum.inr<|Sum.inr<|Sum.inr<|Sum.inr<|Sum.inl t,λt=>some<|Sum.inr<|Sum.inr<|Sum.inr<|Sum.inr<|Sum.inr<|Sum.inr<|Sum.inr t,()) ()
def IY: Ic:=bP 52 0 2 0xf324731f76035aec06a3d350de18b89343bac29db6b205e28ade05b7f0c26a9ff00a2dd98b1d3d79c9aba19c889a38eca7f886898199fca49f86d03f4b59055d57d5d9fc9957b37204f13bc251db768f8308171f6a55d57cea9bda862439e397964032187f7a9b6e15c18f8dd34d4ae7 dY [⟨0,[HP]⟩] [IX,IV,Bx,IQ] @Ce
def HL: Lc 15 0 2:=bG 0x1b68104615bf09ccfefb4cf6 dY [] [] @fI
def jF: (aJ×aN×List Int×List Aab×List aP×List aD×Int)->((Bool->Option R)×Unit)->Unit->Option R:=λ(a,b,c,d,f,g,h) (i,_) _=>cnd (h==0) (cnd (b.Kind==3) (bnd (dJ n a.Plan (aM.mk d f c) 0) λj=>cnd j (i true)<|i false)<|cnd (b.Kind==6) (bnd (dJ n a.Plan (aM.mk d f c) 0) λl=>cnd l (i true)<|i false)<|i false)<|i false
def TK:=fR jF
def HJ: Lc 15 0 4:=bG 0x1083f125e916128c945a96df0d4c14 dY [] [] @jF
def jG: (aJ×aN×List Int×List Aab×List aP×List aD×Int)->((Int->Option R)×Unit)->Unit->Option R:=λ(a,b,c,d,f,g,h) (i,_) _=>bnd (TK n (a,b,c,d,f,g,h)) λj=>cnd j (i 12)<|i h
def iS:=fR jG
def HK: Lc 15 0 3:=bG 0x108248a5d8dc8a0eb59e7bce0d4c14 dY [⟨0,[cs HJ]⟩] [] @jG
def HI: Lc 15 0 2:=bG 0x154ddf555e8a2e1dde8e160aed6 dY [] [] @fI
def HG: Lc 15 0 4:=bG 0x1083ed03dc105e64a271886d8398f4 dY [] [] @jF
def HH: Lc 15 0 3:=bG 0x10824483cbd6d5e6c3b56d5c8398f4 dY [⟨0,[cs HG]⟩] [] @jG
def Bd: (List Int×List Aab×List aD×List aP×Int)->((Int->Option R)×Unit)->Unit->Option R:=λ(a,b,c,d,f) (g,_) _=>cnd (f==0) (bnd (cC n<|aJ.mk (aM.mk b d a) c) λh=>g h)<|g f
def TJ:=fR Bd
def HE: Lc 15 0 2:=bG 0x1e944acb384885b067b56103934f42ea75d08869bff80bcfca dY [] [] @Bd
def Bb: (aJ×aN×List Int×List Aab×List aD×List aP×Int)->((Bool->Option R)×Unit)->Unit->Option R:=λ(a,b,c,d,f,g,h) (i,_) _=>cnd (h==0) (cnd (b.Kind==3) (bnd (dJ n a.Plan (aM.mk d g c) 0) λj=>cnd j (i true)<|i false)<|cnd (b.Kind==6) (bnd (dJ n a.Plan (aM.mk d g c) 0) λl=>cnd l (i true)<|i false)<|i false)<|i false
def TG:=fR Bb
def HC: Lc 15 0 4:=bG 0x303c666e155b55ef2220bead0fe3c059e2067123bbc0a20 dY [] [] @Bb
def Bc: (aJ×aN×List Int×List Aab×List aD×List aP×Int)->((Int->Option R)×Unit)->Unit->Option R:=λ(a,b,c,d,f,g,h) (i,_) _=>bnd (TG n (a,b,c,d,f,g,h)) λj=>cnd j (i 12)<|i h
def TI:=fR Bc
def HD: Lc 15 0 3:=bG 0x26e233eab73ef71378d217f59c5f823abef06a23bbc0a20 dY [⟨0,[cs HC]⟩] [] @Bc
def HB: Lc 15 0 2:=bG 0x1b676efcecaf5e954ef9ec66 dY [] [] @fI
def GZ: Lc 15 0 4:=bG 0x3a30ef4ceb55988 dY [] [] @jF
def HA: Lc 15 0 3:=bG 0x3a2b17b5fb9a888 dY [⟨0,[cs GZ]⟩] [] @jG
def pC: ((Nat×Nat)×List Int×List Aab×List aP×List aD×Int)->((Int->Option R)×Unit)->Unit->Option R:=λ(a,b,c,d,f,g) (h,_) _=>cnd (g==0) (bnd (cC n<|aJ.mk (aM.mk c (win d<|some a) b) f) λi=>h i)<|h g
def Is:=fR pC
def GY: Lc 15 0 2:=bG 0xa4d7fd64b7c244510cca5b8fd669f29ec66 dY [] [] @pC
def pA: (aJ×aN×(Nat×Nat)×List Int×List Aab×List aP×List aD×Int)->((Bool->Option R)×Unit)->Unit->Option R:=λ(a,b,c,d,f,g,h,i) (j,_) _=>cnd (i==0) (cnd (b.Kind==3) (bnd (dJ n a.Plan (aM.mk f (win g<|some c) d) 0) λl=>cnd l (j true)<|j false)<|cnd (b.Kind==6) (bnd (dJ n a.Plan (aM.mk f (win g<|some c) d) 0) λm=>cnd m (j true)<|j false)<|j false)<|j false
def TF:=fR pA
def GW: Lc 15 0 4:=bG 0x246b34386706884dd2308 dY [] [] @pA
def pB: (aJ×aN×(Nat×Nat)×List Int×List Aab×List aP×List aD×Int)->((Int->Option R)×Unit)->Unit->Option R:=λ(a,b,c,d,f,g,h,i) (j,_) _=>bnd (TF n (a,b,c,d,f,g,h,i)) λl=>cnd l (j 12)<|j i
def Ir:=fR pB
def GX: Lc 15 0 3:=bG 0x1774d22f9d83e94e3b308 dY [⟨0,[cs GW]⟩] [] @pB
def GV: Lc 15 0 2:=bG 0x244c60709bb4163c19d8f dY [] [] @pC
def GT: Lc 15 0 4:=bG 0x2ed9ab2c190e98f222 dY [] [] @pA
def GU: Lc 15 0 3:=bG 0x1e2ccb49f5aabe4122 dY [⟨0,[cs GT]⟩] [] @pB
def Ba: (List Int×List Aab×List aP×List aD×aN)->((Int->Option R)×(Unit->Option R)×Unit)->Unit->Option R:=λ(a,b,c,d,f) (g,h,_) _=>bnd (iM n a f.ID) λi=>cnd i (bnd (iM n a f.A) λj=>cnd j (g 8)<|h ())<|g 7
def TE:=pc2 Ba
def GS: Lc 53 0 0:=bG 0x2f1543f5895f68070b764e8936f675129084d76bc89b058cec383b6fe461358a78438a dY [] [] @Ba
def Bv: (List Int×List Int×List Aab×List aP×List aD×aN)->((Int->Option R)×((List Int×List aP×List aD×Int×Int)->Option R)×Unit)->Unit->Option R:=λ(a,b,c,d,f,g) (h,i,_) _=>bnd2 (TE n (a,c,d,f,g)) (λj=>h j) λl=>bnd (some l) λ_=>bnd (Iv n (a,b,c,d,f,g.ID,g.A)) λm=>i (m.1,m.2.1,m.2.2,g.ID,g.A)
def UF:=BJ Bv
def IL: Ic:=bP 53 0 2 0x57bd1a026280e43e70fdfd912ba2b1a0fefb268a7ee7 dY [⟨0,[GS]⟩] [Bx] @Bv
def Bt(n:Nat): (List Int×List Int×List Aab×List aP×List aD×Int×Int)->((Unit->Option R)×((List aD×(Nat×Nat))->Option R)×Unit)->Unit->Option R:=λ(a,b,c,d,f,g,h) (i,j,_) _=>bnd (Nq<|decide<|0<=g/\g<=h/\h<=(ln f)/\(ln f)<=(ln f)) λ_=>cnd (g==h) (i ())<|bnd (sub f (0,List.length f) 0 g) λl=>bnd (sub f (0,List.length f) h<|ln f) λm=>bnd (V6 f l<|win f<|some m) λo=>bnd (sub o (l.1,l.2+List.length (win f<|some m)) (((l.1,l.2+List.length (win f<|some m)).2:Nat):Int)<|ln f) λr=>bnd (clr o r<|aD.mk 0 0 0 (⟨#[]⟩:ByteArray) []) λs=>j (s,(l.1,l.2+List.length (win f<|some m)))
def UE:=BJ Bt
def IJ: Ic:=bP 99 0 3 0xd067369563cf769651db714c6bb0e1f6d309e993ccf0e8f631202c5 dY [] [] @Bt
def Bu: (List Int×List Int×List Aab×List aP×List aD×aN)->(((List aD×Int)->Option R)×(((Nat×Nat)×List aD)->Option R)×((List aD×Int×Int×Int×ByteArray×List Int×List aD)->Option R)×Unit)->Unit->Option R:=λ(a,b,c,d,f,g) (h,i,j,_) _=>bnd (sE n (aJ.mk (aM.mk c d a) f) g.ID) λl=>cnd l.2 (cnd (g.Kind==7) (h (f,8))<|cnd (g.Kind==8) (bnd2 (UE n (a,b,c,d,f,l.1,(wr<|l.1+1))) (λ_=>h (f,0)) λm=>bnd (some m) λo=>i (o.2,o.1))<|cnd (g.Kind==9) (bnd (iL f (List.length f) l.1) λ_=>bnd (idx f l.1) λr=>h ((List.set f (Int.toNat l.1)<|aD.mk r.ID r.Kind r.Class g.Name r.Parts),0))<|cnd (g.Kind==10) (bnd (iL f (List.length f) l.1) λ_=>bnd (idx f l.1) λs=>h ((List.set f (Int.toNat l.1)<|aD.mk s.ID s.Kind g.B s.Name s.Parts),0))<|cnd (g.Kind==11) (bnd (gW n g.Parts) λt=>bnd (iL f (List.length f) l.1) λ_=>bnd (idx f l.1) λu=>h ((List.set f (Int.toNat l.1)<|aD.mk u.ID u.Kind u.Class u.Name t),0))<|h (f,0))<|cnd (g.Kind==7) (bnd (gW n g.Parts) λv=>bnd (prd n) λ_=>bnd (aLg f l.1<|aD.mk g.ID g.A g.B g.Name v) λw=>j (w,g.ID,g.A,g.B,g.Name,v,[(aD.mk g.ID g.A g.B g.Name v)]))<|h (f,7)
def Iu:=in3 Bu
def IK: Ic:=bP 54 0 2 0xfcf5c47fff0a1e00fabfc48802a334a37a3305eb4f0b1d1fa1de61c71c07f0f0e00d14816c1e73c62ba123e7c67e7 dY [] [IJ] @Bu
def Az: (List Int×(Nat×Nat)×List Aab×List aP×List aD×Int)->((Int->Option R)×Unit)->Unit->Option R:=λ(a,b,c,d,f,g) (h,_) _=>cnd (g==0) (bnd (cC n<|aJ.mk (aM.mk c d a)<|win f<|some b) λi=>h i)<|h g
def TD:=fR Az
def GR: Lc 15 0 2:=bG 0xa4d83050cc5057f396ea29182ed584ab62f dY [] [] @Az
def Ax: (aJ×aN×List Int×(Nat×Nat)×List Aab×List aP×List aD×Int)->((Bool->Option R)×Unit)->Unit->Option R:=λ(a,b,c,d,f,g,h,i) (j,_) _=>cnd (i==0) (cnd (b.Kind==3) (bnd (dJ n a.Plan (aM.mk f g c) 0) λl=>cnd l (j true)<|j false)<|cnd (b.Kind==6) (bnd (dJ n a.Plan (aM.mk f g c) 0) λm=>cnd m (j true)<|j false)<|j false)<|j false
def TA:=fR Ax
def GP: Lc 15 0 4:=bG 0x63ec530ba397f0fb8f4397ef961282a53d84ab2c2 dY [] [] @Ax
def Ay: (aJ×aN×List Int×(Nat×Nat)×List Aab×List aP×List aD×Int)->((Int->Option R)×Unit)->Unit->Option R:=λ(a,b,c,d,f,g,h,i) (j,_) _=>bnd (TA n (a,b,c,d,f,g,h,i)) λl=>cnd l (j 12)<|j i
def TB:=fR Ay
def GQ: Lc 15 0 3:=bG 0x405a1a0e2f54c1bf437e104e951c40ab0684ab2c2 dY [⟨0,[cs GP]⟩] [] @Ay
def nB: Nat->aJ->aN->Option (aJ×Int)
 | 0,_,_=>none
 | n+1,a,b=>bnd (Mt n a) λc=>bnd (jN n b.Kind) λd=>cnd d (bnd2 (Ms n (c.2.2.2.2,c.1,c.2.1,c.2.2.1,c.2.2.2.1,b)) (λf=>bnd (cN n (c.2.2.2.2,f.1,c.2.2.1,c.2.2.2.1,f.2)) λg=>bnd (fJ n (a,b,c.2.2.2.2,f.1,c.2.2.1,c.2.2.2.1,g,b.ID)) λh=>cnd (h != 0) (some ((aJ.mk (aM.mk [] [] []) []),h))<|some ((aJ.mk (aM.mk f.1 c.2.2.1 c.2.2.2.2) c.2.2.2.1),0)) λi=>bnd2 (some i) (λj=>bnd (TX n (j.1,c.2.2.2.2,j.2,c.2.2.1,c.2.2.2.1,0)) λl=>bnd (TW n (a,b,j.1,c.2.2.2.2,j.2,c.2.2.1,c.2.2.2.1,l,b.ID)) λm=>cnd (m != 0) (some ((aJ.mk (aM.mk [] [] []) []),m))<|some ((aJ.mk (aM.mk (win j.2<|some j.1) c.2.2.1 c.2.2.2.2) c.2.2.2.1),0)) λo=>bnd (some o) λr=>bnd (cN n (c.2.2.2.2,r.1,c.2.2.1,c.2.2.2.1,0)) λs=>bnd (fJ n (a,b,c.2.2.2.2,r.1,c.2.2.1,c.2.2.2.1,s,b.ID)) λt=>cnd (t != 0) (some ((aJ.mk (aM.mk [] [] []) []),t))<|some ((aJ.mk (aM.mk r.1 c.2.2.1 c.2.2.2.2) c.2.2.2.1),0))<|bnd (mZ n b.Kind) λu=>cnd u (bnd2 (Iw n (c.2.2.2.2,c.1,c.2.1,c.2.2.1,c.2.2.2.1,b)) (λv=>bnd (cN n (c.2.2.2.2,c.2.1,c.2.2.1,c.2.2.2.1,v)) λw=>bnd (fJ n (a,b,c.2.2.2.2,c.2.1,c.2.2.1,c.2.2.2.1,w,0)) λx=>cnd (x != 0) (some ((aJ.mk (aM.mk [] [] []) []),x))<|some ((aJ.mk (aM.mk c.2.1 c.2.2.1 c.2.2.2.2) c.2.2.2.1),0)) λy=>bnd2 (some y) (λz=>bnd (cN n (c.2.2.2.2,c.2.1,c.2.2.1,c.2.2.2.1,z.2.2)) λa0=>bnd (iS n (a,b,c.2.2.2.2,c.2.1,c.2.2.1,c.2.2.2.1,a0)) λb0=>cnd (b0 != 0) (some ((aJ.mk (aM.mk [] [] []) []),b0))<|some ((aJ.mk (aM.mk c.2.1 c.2.2.1 c.2.2.2.2) c.2.2.2.1),0)) λc0=>bnd2 (some c0) (λd0=>bnd (cN n (c.2.2.2.2,c.2.1,c.2.2.1,c.2.2.2.1,d0.2.2.2.2.2)) λf0=>bnd (iS n (a,b,c.2.2.2.2,c.2.1,c.2.2.1,c.2.2.2.1,f0)) λg0=>cnd (g0 != 0) (some ((aJ.mk (aM.mk [] [] []) []),g0))<|some ((aJ.mk (aM.mk c.2.1 c.2.2.1 c.2.2.2.2) c.2.2.2.1),0)) λh0=>bnd2 (some h0) (λi0=>bnd (TJ n (i0.1,c.2.1,i0.2.1,i0.2.2.1,0)) λj0=>bnd (TI n (a,b,i0.1,c.2.1,i0.2.1,i0.2.2.1,j0)) λl0=>cnd (l0 != 0) (some ((aJ.mk (aM.mk [] [] []) []),l0))<|some ((aJ.mk (aM.mk c.2.1 i0.2.2.1 i0.1) i0.2.1),0)) λm0=>bnd2 (some m0) (λo0=>bnd (cN n (c.2.2.2.2,c.2.1,o0.1,c.2.2.2.1,o0.2)) λr0=>bnd (fJ n (a,b,c.2.2.2.2,c.2.1,o0.1,c.2.2.2.1,r0,0)) λs0=>cnd (s0 != 0) (some ((aJ.mk (aM.mk [] [] []) []),s0))<|some ((aJ.mk (aM.mk c.2.1 o0.1 c.2.2.2.2) c.2.2.2.1),0)) λt0=>bnd2 (some t0) (λu0=>bnd (cN n (u0.1,c.2.1,u0.2.1,u0.2.2.1,0)) λv0=>bnd (iS n (a,b,u0.1,c.2.1,u0.2.1,u0.2.2.1,v0)) λw0=>cnd (w0 != 0) (some ((aJ.mk (aM.mk [] [] []) []),w0))<|some ((aJ.mk (aM.mk c.2.1 u0.2.1 u0.1) u0.2.2.1),0)) λx0=>bnd2 (some x0) (λy0=>bnd (Is n (y0.1,y0.2.1,c.2.1,y0.2.2.1,y0.2.2.2.1,0)) λz0=>bnd (Ir n (a,b,y0.1,y0.2.1,c.2.1,y0.2.2.1,y0.2.2.2.1,z0)) λa1=>cnd (a1 != 0) (some ((aJ.mk (aM.mk [] [] []) []),a1))<|some ((aJ.mk (aM.mk c.2.1 (win y0.2.2.1<|some y0.1) y0.2.1) y0.2.2.2.1),0)) λb1=>bnd (some b1) λc1=>bnd (Is n (c1.1,c.2.2.2.2,c.2.1,c1.2,c.2.2.2.1,0)) λd1=>bnd (Ir n (a,b,c1.1,c.2.2.2.2,c.2.1,c1.2,c.2.2.2.1,d1)) λf1=>cnd (f1 != 0) (some ((aJ.mk (aM.mk [] [] []) []),f1))<|some ((aJ.mk (aM.mk c.2.1 (win c1.2<|some c1.1) c.2.2.2.2) c.2.2.2.1),0))<|cnd (b.Kind==12) (bnd2 (UF n (c.2.2.2.2,c.1,c.2.1,c.2.2.1,c.2.2.2.1,b)) (λg1=>bnd (cN n (c.2.2.2.2,c.2.1,c.2.2.1,c.2.2.2.1,g1)) λh1=>bnd (fJ n (a,b,c.2.2.2.2,c.2.1,c.2.2.1,c.2.2.2.1,h1,0)) λi1=>cnd (i1 != 0) (some ((aJ.mk (aM.mk [] [] []) []),i1))<|some ((aJ.mk (aM.mk c.2.1 c.2.2.1 c.2.2.2.2) c.2.2.2.1),0)) λj1=>bnd (some j1) λl1=>bnd (cN n (l1.1,c.2.1,l1.2.1,l1.2.2.1,0)) λm1=>bnd (iS n (a,b,l1.1,c.2.1,l1.2.1,l1.2.2.1,m1)) λo1=>cnd (o1 != 0) (some ((aJ.mk (aM.mk [] [] []) []),o1))<|some ((aJ.mk (aM.mk c.2.1 l1.2.1 l1.1) l1.2.2.1),0))<|bnd2 (Iu n (c.2.2.2.2,c.1,c.2.1,c.2.2.1,c.2.2.2.1,b)) (λr1=>bnd (cN n (c.2.2.2.2,c.2.1,c.2.2.1,r1.1,r1.2)) λs1=>bnd (fJ n (a,b,c.2.2.2.2,c.2.1,c.2.2.1,r1.1,s1,0)) λt1=>cnd (t1 != 0) (some ((aJ.mk (aM.mk [] [] []) []),t1))<|some ((aJ.mk (aM.mk c.2.1 c.2.2.1 c.2.2.2.2) r1.1),0)) λu1=>bnd2 (some u1) (λv1=>bnd (TD n (c.2.2.2.2,v1.1,c.2.1,c.2.2.1,v1.2,0)) λw1=>bnd (TB n (a,b,c.2.2.2.2,v1.1,c.2.1,c.2.2.1,v1.2,w1)) λx1=>cnd (x1 != 0) (some ((aJ.mk (aM.mk [] [] []) []),x1))<|some ((aJ.mk (aM.mk c.2.1 c.2.2.1 c.2.2.2.2)<|win v1.2<|some v1.1),0)) λy1=>bnd (some y1) λz1=>bnd (cN n (c.2.2.2.2,c.2.1,c.2.2.1,z1.1,0)) λa2=>bnd (iS n (a,b,c.2.2.2.2,c.2.1,c.2.2.1,z1.1,a2)) λb2=>cnd (b2 != 0) (some ((aJ.mk (aM.mk [] [] []) []),b2))<|some ((aJ.mk (aM.mk c.2.1 c.2.2.1 c.2.2.2.2) z1.1),0)
end
end
section
variable {R:Type}(n:Nat)
noncomputable section
def M5: Kn:=bJ 15 0x2c22b954b7272fc dY [⟨0,[NJ]⟩,⟨1,[HT]⟩,⟨2,[NH,HZ,HW,HL,HI,HE,HB,GY,GV,GR]⟩,⟨3,[NG,HY,HV,HK,HH,HD,HA,GX,GU,GQ]⟩] [NO,NN,IY,IL,IK] nB
abbrev aU0:=M5::dY
def dH: Nat->aJ->aN->Option (aJ×Int)
 | 0,_,_=>none
 | n+1,a,b=>bnd (JA n b) λc=>cnd (c != 0) (some ((aJ.mk (aM.mk [] [] []) []),c))<|bnd (cC n a) λd=>cnd (d != 0) (some ((aJ.mk (aM.mk [] [] []) []),d))<|bnd (nB n a b) λf=>some (f.1,f.2)
def aCv: Kn:=bJ 3 0x2c22b954b7272fc aU0 [] [] dH
abbrev aRQ:=aCv::aU0
def fD(n:Nat): (List Aaa×List Aaa×Int)->(Int->Option R)->((Unit->Option R)×(Unit->Option R)×Unit)->Int->Option R:=λ(a,b,c) d (f,g,_) h=>cd (h<c) (bnd (idx a h) λi=>bnd (idx b h) λj=>cd (i=j) (d<|wr<|h+1)<|f ())<|g ()
def Nk:=qP fD
def He: Lc 58 0 0:=bE 0x185b0f96164f4e0568745d5f aRQ [] [] @fD
def fU: Nat->(List Aaa)->(List Aaa)->Option Bool
 | 0,_,_=>none
 | n+1,a,b=>cnd ((ln a) != (ln b)) (some false)<|bnd2 (Nk n (a,b,(ln a)) 0) (λ_=>some false) λc=>bnd (some c) λ_=>some true
def On: Kn:=bJ 58 0x208aebc6de3eef2 aRQ [⟨0,[He]⟩] [] fU
abbrev aJl:=On::aRQ
def iB: (aM×List Aab×Int)->(((List<|Int×Bool)×Int)->Option R)->((((List<|Int×Bool))->Option R)×Unit)->((List<|Int×Bool)×Int)->Option R:=λ(a,b,c) d (f,_) (g,h)=>cd (h<c) (bnd (idx b h) λi=>bnd (iF n a i.ID) λj=>cnd j.2 (cd (j.1.At=i.At) (d ((dX g i.ID true),(wr<|h+1)))<|d ((dX g i.ID false),(wr<|h+1)))<|d ((dX g i.ID false),(wr<|h+1)))<|f g
def Fa:=oH iB
def DJ: Lc 17 0 0:=bE 0x7e9c35c6404177a5348c3c570ff4833c24e82140733982c36135f63788afd3e7 aJl [] [] @iB
def hZ: (aP×aP)->((Bool->Option R)×Unit)->Unit->Option R:=λ(a,b) (c,_) _=>cnd (a.From==b.From) (cnd (a.To==b.To) (bnd (fU n a.Via b.Via) λd=>cnd d (c true)<|c false)<|c false)<|c false
def NZ:=fR hZ
def DG: Lc 17 0 2:=bG 0x42c0e965d66ae6e0c95c3703a331534d4107539c7fa669ecd1a0ec386363f34315afd9077 aJl [] [] @hZ
def DF: Lc 17 0 2:=bG 0x7d17e702b0b707d164e822501aaddb1c253 aJl [] [] @eU
def iA: (aM×(List<|Int×Bool)×List aP×Int)->(((List<|Int×Bool)×Int)->Option R)->((((List<|Int×Bool))->Option R)×Unit)->((List<|Int×Bool)×Int)->Option R:=λ(a,b,c,d) f (g,_) (h,i)=>cd (i<d) (bnd (idx c i) λj=>bnd (zU n a j.ID) λl=>cnd l.2 (bnd (NZ n (j,l.1)) λm=>cnd m (cnd ((Option.getD (bQ b j.From) false)) (cnd ((Option.getD (bQ b j.To) false)) (f ((dX h j.ID true),(wr<|i+1)))<|f ((dX h j.ID false),(wr<|i+1)))<|f ((dX h j.ID false),(wr<|i+1)))<|f ((dX h j.ID false),(wr<|i+1)))<|bnd (fN n ()) λ_=>f ((dX h j.ID false),(wr<|i+1)))<|g h
def Ez:=oH iA
def DH: Lc 17 0 1:=bE 0x75c6b60645f4c3e33033b871772bc927eb24abf14c4d64515da28184f688473be1d aJl [⟨0,[cs DG,cs DF]⟩] [] @iA
def N8: Nat->aM->aM->Option Q5
 | 0,_,_=>none
 | n+1,a,b=>bnd (Fa n (b,a.Nodes,(ln a.Nodes)) ([],0)) λc=>bnd (Ez n (b,c,a.Arcs,(ln a.Arcs)) ([],0)) λd=>some<|Q5.mk c d
def US: Kn:=bJ 17 0x9a30b89253e08681566b177 aJl [⟨0,[DJ]⟩,⟨1,[DH]⟩] [] N8
abbrev aWy:=US::aJl
def aRC: Kn:=aRq 27 3 10 ⟨_,_,_,rfl,by decide,by decide⟩ (λn p=>clF n p) (λp=>p) λn p r h=>by obtain⟨m,h1,h2,h3⟩:=aRs h;subst h2;exact⟨m,h1,rfl,h3,rfl,λe=>by cases (e:_=[]);rfl⟩
abbrev aRP:=aRC::aWy
def qW: (ByteArray×Int×List aD×Int)->(Int->Option R)->(((Int×Int×Int×ByteArray×List Int×Int×Int×Int×ByteArray×List Int)->Option R)×(Unit->Option R)×Unit)->Int->Option R:=λ(a,b,c,d) f (g,h,_) i=>cd (i<d) (bnd (idx c i) λj=>cnd (j.ID==b) (bnd (clF n j.Parts) λl=>g (j.ID,j.Kind,j.Class,j.Name,l,j.ID,j.Kind,j.Class,j.Name,l))<|f<|wr<|i+1)<|h ()
def p8:=qP qW
def MP: Lc 64 0 0:=bE 0x18cfe6778fc0b2edfffad99864d689535b988bd4a3f3e5d5b841e697ff960679155e260904575fb7d3 aRP [] [] @qW
def Kz: Nat->aJ->Int->Option (aD×Bool)
 | 0,_,_=>none
 | n+1,a,b=>bnd2 (p8 n ((⟨#[]⟩:ByteArray),b,a.Features,(ln a.Features)) 0) (λc=>some ((aD.mk c.1 c.2.1 c.2.2.1 c.2.2.2.1 c.2.2.2.2.1),true)) λd=>bnd (some d) λ_=>some ((aD.mk 0 0 0 (⟨#[]⟩:ByteArray) []),false)
def K2: Kn:=bJ 64 0x275387ab595aed5 aRP [⟨0,[MP]⟩] [] Kz
abbrev aMo:=K2::aRP
def iV: (aJ×List aD×Int)->((List aN×(List<|Int×Bool)×(List<|Int×aD)×Int)->Option R)->(((List aN×(List<|Int×Bool)×(List<|Int×aD))->Option R)×Unit)->(List aN×(List<|Int×Bool)×(List<|Int×aD)×Int)->Option R:=λ(a,b,c) d (f,_) (g,h,i,j)=>cd (j<c) (bnd (idx b j) λl=>bnd (Kz n a l.ID) λm=>cnd m.2 (cnd (l.Kind==m.1.Kind) (bnd (eN n l.Parts m.1.Parts) λo=>cnd o (cnd ((Option.getD (bQ (dX h l.ID true) l.ID) false)) (d (g,(dX h l.ID true),(dX i l.ID l),(wr<|j+1)))<|bnd (app g [(aN.mk 8 l.ID 0 0 0 (Aaa.mk 0 0) [] (⟨#[]⟩:ByteArray) [])]) λr=>d (r,(dX h l.ID true),(dX i l.ID l),(wr<|j+1)))<|cnd ((Option.getD (bQ (dX h l.ID false) l.ID) false)) (d (g,(dX h l.ID false),(dX i l.ID l),(wr<|j+1)))<|bnd (app g [(aN.mk 8 l.ID 0 0 0 (Aaa.mk 0 0) [] (⟨#[]⟩:ByteArray) [])]) λs=>d (s,(dX h l.ID false),(dX i l.ID l),(wr<|j+1)))<|cnd ((Option.getD (bQ (dX h l.ID false) l.ID) false)) (d (g,(dX h l.ID false),(dX i l.ID l),(wr<|j+1)))<|bnd (app g [(aN.mk 8 l.ID 0 0 0 (Aaa.mk 0 0) [] (⟨#[]⟩:ByteArray) [])]) λt=>d (t,(dX h l.ID false),(dX i l.ID l),(wr<|j+1)))<|cnd ((Option.getD (bQ (dX h l.ID false) l.ID) false)) (d (g,(dX h l.ID false),(dX i l.ID l),(wr<|j+1)))<|bnd (app g [(aN.mk 8 l.ID 0 0 0 (Aaa.mk 0 0) [] (⟨#[]⟩:ByteArray) [])]) λu=>d (u,(dX h l.ID false),(dX i l.ID l),(wr<|j+1)))<|f (g,h,i)
def Nw:=oH iV
def Jd: Lc 21 0 0:=bE 0x2ff1a07f92811a4757eb01d6956ddad973cc51d2f14bee7eaaacb4b15997f13109bdc158060152711722f7bb1e59650c9c51cd2c4b407d04ee3d5d6c12098fab9eb0ad aMo [] [] @iV
def dL(n:Nat): ((List<|Int×Bool)×(List<|Int×aD)×List aD×Int)->((List aN×Int)->Option R)->(((List aN)->Option R)×Unit)->(List aN×Int)->Option R:=λ(a,b,c,d) f (g,_) (h,i)=>cd (i<d) (bnd (idx c i) λj=>cnd ((Option.getD (bQ a j.ID) false)) (cd ((Option.getD (bQ b j.ID)<|aD.mk 0 0 0 (⟨#[]⟩:ByteArray) []).Name=j.Name) (cnd ((Option.getD (bQ b j.ID)<|aD.mk 0 0 0 (⟨#[]⟩:ByteArray) []).Class != j.Class) (bnd (app h [(aN.mk 10 j.ID 0 j.Class 0 (Aaa.mk 0 0) [] (⟨#[]⟩:ByteArray) [])]) λl=>f (l,(wr<|i+1)))<|f (h,(wr<|i+1)))<|bnd (app h [(aN.mk 9 j.ID 0 0 0 (Aaa.mk 0 0) [] j.Name [])]) λm=>cnd ((Option.getD (bQ b j.ID)<|aD.mk 0 0 0 (⟨#[]⟩:ByteArray) []).Class != j.Class) (bnd (app m [(aN.mk 10 j.ID 0 j.Class 0 (Aaa.mk 0 0) [] (⟨#[]⟩:ByteArray) [])]) λo=>f (o,(wr<|i+1)))<|f (m,(wr<|i+1)))<|f (h,(wr<|i+1)))<|g h
def Nv:=oH dL
def Jc: Lc 21 0 1:=bE 0x12af3a71e1fcf5140b37676290eb484ac97a879a12460dfca4c48471dcd8e21940b73da4ace5ce12cfe09e26db4d72e2775a78 aMo [] [] @dL
def iU: ((List<|Int×Bool)×List aD×Int)->((List aN×Int)->Option R)->(((List aN)->Option R)×Unit)->(List aN×Int)->Option R:=λ(a,b,c) d (f,_) (g,h)=>cd (h<c) (bnd (idx b h) λi=>cnd ((Option.getD (bQ a i.ID) false)) (d (g,(wr<|h+1)))<|bnd (clF n i.Parts) λj=>bnd (app g [(aN.mk 7 i.ID i.Kind i.Class 0 (Aaa.mk 0 0) [] i.Name j)]) λl=>d (l,(wr<|h+1)))<|f g
def Nu:=oH iU
def Jb: Lc 21 0 2:=bE 0xd8dd84c9fafbbc1ac87ce1fd2d711fb0df1531ba14231f28fed14ba30723e298a0ad5d3c0b9cdbc1d0ea aMo [] [] @iU
def dC: Nat->aJ->aJ->Option (List aN)
 | 0,_,_=>none
 | n+1,a,b=>bnd (Nw n (b,a.Features,(ln a.Features)) ([],[],[],0)) λc=>bnd (Nv n (c.2.1,c.2.2,b.Features,(ln b.Features)) (c.1,0)) λd=>bnd (Nu n (c.2.1,b.Features,(ln b.Features)) (d,0)) λf=>some f
def Rm: Kn:=bJ 21 0x486d26c5c2c7426e68cee0b9dd8a6ae1 aMo [⟨0,[Jd]⟩,⟨1,[Jc]⟩,⟨2,[Jb]⟩] [] dC
abbrev dA:=Rm::aMo
def xZ: (List aN×List Aab×List aP×List Int×List aD×List Aab×List aP×List Int×List aD×Int×Int×Int×ByteArray)->(((List aN×List Aab×List aP×List Int×List aD×aJ×Bool)->Option R)×Unit)->Unit->Option R:=λ(a,b,c,d,f,g,h,i,j,l,m,o,r) (s,_) _=>bnd (dH n (aJ.mk (aM.mk b c d) f)<|aN.mk 3 l 0 0 0 (Aaa.mk m o) [] r []) λt=>cnd (t.2 != 0) (s (a,b,c,d,f,t.1,false))<|bnd (app a [(aN.mk 3 l 0 0 0 (Aaa.mk m o) [] r [])]) λu=>s (u,t.1.Plan.Nodes,t.1.Plan.Arcs,t.1.Plan.Faces,t.1.Features,t.1,true)
def Fd:=qR xZ
def DS: Ic:=bP 57 0 2 0x3dff81558cf7461a487fe8b023b045f01ba19ecc5f62fbc91c3b687a4ae69f768328bab1674d dA [] [] @xZ
def fL: (List Aab×List aP×List Int×List aD×List Aab×List aP×List Int×List Aab×Int)->((List aN×List Aab×List aP×List Int×List aD×Int)->Option R)->(((List aN×List Aab×List aP×List Int×List aD×Aab×Int×Int×Int×ByteArray×List Aab×List aP×List Int×List aD)->Option R)×((List aN×List Aab×List aP×List Int×List aD)->Option R)×Unit)->(List aN×List Aab×List aP×List Int×List aD×Int)->Option R:=λ(a,b,c,d,f,g,h,i,j) l (m,o,_) (r,s,t,u,v,w)=>cd (w<j) (bnd (idx i w) λx=>bnd (idx f w) λy=>cd (x.At=y.At) (l (r,s,t,u,v,(wr<|w+1)))<|bnd (Fd n (r,s,t,u,v,a,b,c,d,x.ID,x.At.X,x.At.Y,(⟨#[]⟩:ByteArray))) λz=>cnd z.2.2.2.2.2.2 (l (z.1,z.2.1,z.2.2.1,z.2.2.2.1,z.2.2.2.2.1,(wr<|w+1)))<|m (z.1,z.2.1,z.2.2.1,z.2.2.2.1,z.2.2.2.2.1,x,x.ID,x.At.X,x.At.Y,(⟨#[]⟩:ByteArray),z.2.2.2.2.2.1.Plan.Nodes,z.2.2.2.2.2.1.Plan.Arcs,z.2.2.2.2.2.1.Plan.Faces,z.2.2.2.2.2.1.Features))<|o (r,s,t,u,v)
def OC:=qP fL
def DP: Lc 16 0 0:=bE 0x3769c0cb92c013ba36119a80a69dd413a82538128a9b772830ba67748c458950e11705b81044891aba393beccef6c5854ff3a5e35531 dA [] [DS] @fL
def xY: (List aN×List Aab×List aP×List Int×List aD×List Aab×List aP×List Int×List aD×Int×List Aaa×ByteArray)->(((List aN×List Aab×List aP×List Int×List aD×aJ×Bool)->Option R)×Unit)->Unit->Option R:=λ(a,b,c,d,f,g,h,i,j,l,m,o) (r,_) _=>bnd (dH n (aJ.mk (aM.mk b c d) f)<|aN.mk 6 l 0 0 0 (Aaa.mk 0 0) m o []) λs=>cnd (s.2 != 0) (r (a,b,c,d,f,s.1,false))<|bnd (app a [(aN.mk 6 l 0 0 0 (Aaa.mk 0 0) m o [])]) λt=>r (t,s.1.Plan.Nodes,s.1.Plan.Arcs,s.1.Plan.Faces,s.1.Features,s.1,true)
def Fc:=qR xY
def DR: Ic:=bP 57 0 2 0xa9cb9b3969c16eeb55374e7ccdd75d28cc8773da1dfb7a9ec90e2578bab1674d dA [] [] @xY
def fK: (List Aab×List aP×List Int×List aD×List Aab×List aP×List Int×List aP×Int)->((List aN×List Aab×List aP×List Int×List aD×Int)->Option R)->(((List aN×List Aab×List aP×List Int×List aD×aP×Int×List Aaa×ByteArray×List Aab×List aP×List Int×List aD)->Option R)×((List aN×List Aab×List aP×List Int×List aD)->Option R)×Unit)->(List aN×List Aab×List aP×List Int×List aD×Int)->Option R:=λ(a,b,c,d,f,g,h,i,j) l (m,o,_) (r,s,t,u,v,w)=>cd (w<j) (bnd (idx i w) λx=>bnd (idx g w) λy=>bnd (fU n x.Via y.Via) λz=>cnd z (l (r,s,t,u,v,(wr<|w+1)))<|bnd (clF n x.Via) λa0=>bnd (Fc n (r,s,t,u,v,a,b,c,d,x.ID,a0,(⟨#[]⟩:ByteArray))) λb0=>cnd b0.2.2.2.2.2.2 (l (b0.1,b0.2.1,b0.2.2.1,b0.2.2.2.1,b0.2.2.2.2.1,(wr<|w+1)))<|m (b0.1,b0.2.1,b0.2.2.1,b0.2.2.2.1,b0.2.2.2.2.1,x,x.ID,a0,(⟨#[]⟩:ByteArray),b0.2.2.2.2.2.1.Plan.Nodes,b0.2.2.2.2.2.1.Plan.Arcs,b0.2.2.2.2.2.1.Plan.Faces,b0.2.2.2.2.2.1.Features))<|o (r,s,t,u,v)
def OB:=qP fK
def DO: Lc 16 0 1:=bE 0x66cc262a8a79d9d44b10d03a994b35538414bfa929f7b60fadf2342bc92e2bacd97a895f164b9e7714f29260a80d08e78b5531 dA [] [DR] @fK
def yA: (List aN×List Aab×List aP×List Int×List aD×List Aab×List aP×List Int×List aD)->(((List aN×List Aab×List aP×List Int×List aD×Int×Int×Int×Int×Int×Int×ByteArray×List Aab×List aP×List Int×List aD)->Option R)×((List aN×List Aab×List aP×List Int×List aD×Int×Int×Int×List Aaa×Int×Int×Int×List Aaa×ByteArray×List Aab×List aP×List Int×List aD)->Option R)×((List aN×List Aab×List aP×List Int×List aD×Bool)->Option R)×Unit)->Unit->Option R:=λ(a,b,c,d,f,g,h,i,j) (l,m,o,_) _=>bnd (wT n (aM.mk b c d)<|aM.mk g h i) λr=>cnd r (bnd2 (OC n (g,h,i,j,b,c,d,g,(ln g)) (a,b,c,d,f,0)) (λs=>l (s.1,s.2.1,s.2.2.1,s.2.2.2.1,s.2.2.2.2.1,s.2.2.2.2.2.1.ID,s.2.2.2.2.2.1.At.X,s.2.2.2.2.2.1.At.Y,s.2.2.2.2.2.2.1,s.2.2.2.2.2.2.2.1,s.2.2.2.2.2.2.2.2.1,s.2.2.2.2.2.2.2.2.2.1,s.2.2.2.2.2.2.2.2.2.2.1,s.2.2.2.2.2.2.2.2.2.2.2.1,s.2.2.2.2.2.2.2.2.2.2.2.2.1,s.2.2.2.2.2.2.2.2.2.2.2.2.2)) λt=>bnd (some t) λu=>bnd2 (OB n (g,h,i,j,b,c,d,h,(ln h)) (u.1,u.2.1,u.2.2.1,u.2.2.2.1,u.2.2.2.2,0)) (λv=>m (v.1,v.2.1,v.2.2.1,v.2.2.2.1,v.2.2.2.2.1,v.2.2.2.2.2.1.ID,v.2.2.2.2.2.1.From,v.2.2.2.2.2.1.To,v.2.2.2.2.2.1.Via,v.2.2.2.2.2.1.Left,v.2.2.2.2.2.1.Right,v.2.2.2.2.2.2.1,v.2.2.2.2.2.2.2.1,v.2.2.2.2.2.2.2.2.1,v.2.2.2.2.2.2.2.2.2.1,v.2.2.2.2.2.2.2.2.2.2.1,v.2.2.2.2.2.2.2.2.2.2.2.1,v.2.2.2.2.2.2.2.2.2.2.2.2)) λw=>bnd (some w) λx=>o (x.1,x.2.1,x.2.2.1,x.2.2.2.1,x.2.2.2.2,true))<|o (a,b,c,d,f,false)
def Fe:=in3 yA
def DT: Ic:=bP 16 0 1 0x16b9f85dda73d491612c207f4029995242452d189353dc7a088a6f8c5dd2dd3df027e643af42937ffc10fac3365d34c45c179b7f155aeef396fd8e120024b8748bc1688fce29482f0da3f3d1 dA [⟨0,[DP]⟩,⟨1,[DO]⟩] [] @yA
def DN: Lc 17 0 0:=bE 0xd1f20f3172566494d9c1aa7154127194bd3973dbe5fbff3eb2c9d7e22658d286d80f9a1fcd851eb5d52527488d dA [] [] @iB
def DL: Lc 17 0 2:=bG 0x1f5b0240f63cd94faa3450dfcdb14ef0edfa320ff37439a22c274fa9650d21bcccfe3394d6f0bbe593 dA [] [] @hZ
def Sn: Lc 17 0 2:=bG 0x157472efff0ea8419c51f5848ca3d19edd048231134974cad2c12283 dA [] [] @eU
def DM: Lc 17 0 1:=bE 0x14332d1b8f46d013b677c3e9fc3b7f80bde7c9f995ade34445f970507dcbe855916279e4492670378a4f888d dA [⟨0,[cs DL,cs Sn]⟩] [] @iA
def nZ: (aM×aM)->((((List<|Int×Bool)×(List<|Int×Bool))->Option R)×Unit)->Unit->Option R:=λ(a,b) (c,_) _=>bnd (Fa n (b,a.Nodes,(ln a.Nodes)) ([],0)) λd=>bnd (Ez n (b,d,a.Arcs,(ln a.Arcs)) ([],0)) λf=>c (d,f)
def sI:=qR nZ
def DQ: Ic:=bP 17 0 2 0x348ed70cc7d8c556256b8c40afcff463434a2c144f98623950b1177a5dbc2295dd69cb2cd38d dA [⟨0,[DN]⟩,⟨1,[DM]⟩] [] @nZ
def mG(n:Nat): ((List<|Int×Bool)×List aP×Int)->(((List<|Int×Bool)×Int)->Option R)->((((List<|Int×Bool))->Option R)×Unit)->((List<|Int×Bool)×Int)->Option R:=λ(a,b,c) d (f,_) (g,h)=>cd (h<c) (bnd (idx b h) λi=>cnd ((Option.getD (bQ a i.ID) false)) (d (g,(wr<|h+1)))<|d ((dX (dX g i.Left true) i.Right true),(wr<|h+1)))<|f g
def JU:=oH mG
def Ts: Lc 18 0 0:=bE 0x23f043943f08e4c6f87a04a189d0433ead1f19a52d8cc68d462ddceaaea9ea9acb74430ca2aed83 dA [] [] @mG
def lV: ((List<|Int×Bool)×(List<|Int×Bool)×(List<|Int×Bool)×aD×Int)->((Bool->Option R)×Unit)->Unit->Option R:=λ(a,b,c,d,f) (g,_) _=>bnd (cL n d.Kind) λh=>cnd (h==1) (cnd ((Option.getD (bQ a f) false)) (g false)<|g true)<|cnd (h==2) (cnd ((Option.getD (bQ b f) false)) (g false)<|g true)<|cnd (h==3) (cnd ((Option.getD (bQ c f) false)) (g true)<|g false)<|g false
def JI:=fR lV
def Sl: Lc 18 0 3:=bG 0x7d9e82143b2c23ccac56a3612e939a44ef79b62fe9382fe51e2a0e6a9fba9c0953cb9e743cd162097e2ea2c3379f512287d dA [] [] @lV
def mO: (List aN×List Aab×List aP×List Int×List aD×List Aab×List aP×List Int×List aD×Int×ByteArray)->(((List aN×List Aab×List aP×List Int×List aD×aJ×Bool)->Option R)×Unit)->Unit->Option R:=λ(a,b,c,d,f,g,h,i,j,l,m) (o,_) _=>bnd (dH n (aJ.mk (aM.mk b c d) f)<|aN.mk 8 l 0 0 0 (Aaa.mk 0 0) [] m []) λr=>cnd (r.2 != 0) (o (a,b,c,d,f,r.1,false))<|bnd (app a [(aN.mk 8 l 0 0 0 (Aaa.mk 0 0) [] m [])]) λs=>o (s,r.1.Plan.Nodes,r.1.Plan.Arcs,r.1.Plan.Faces,r.1.Features,r.1,true)
def JZ:=qR mO
def Us: Ic:=bP 57 0 2 0x24c58262157430e5654984c3a5150ad97779da13b2c38d2cbd dA [] [] @mO
def mE: (List aN×List Aab×List aP×List Int×List aD×List Aab×List aP×List Int×List aD×(List<|Int×Bool)×(List<|Int×Bool)×(List<|Int×Bool)×aD×List Int×Int)->(Int->Option R)->(((List aN×List Aab×List aP×List Int×List aD)->Option R)×(Unit->Option R)×Unit)->Int->Option R:=λ(a,b,c,d,f,g,h,i,j,l,m,o,r,s,t) u (v,w,_) x=>cd (x<t) (bnd (idx s x) λy=>bnd (JI n (l,m,o,r,y)) λz=>cnd z (bnd (JZ n (a,b,c,d,f,g,h,i,j,r.ID,(⟨#[]⟩:ByteArray))) λa0=>cnd a0.2.2.2.2.2.2 (v (a0.1,a0.2.1,a0.2.2.1,a0.2.2.2.1,a0.2.2.2.2.1))<|v (a0.1,a0.2.1,a0.2.2.1,a0.2.2.2.1,a0.2.2.2.2.1))<|u<|wr<|x+1)<|w ()
def JS:=qP mE
def Tp: Lc 18 0 2:=bE 0x5c975dd1e3a7dd769eee627a139b6ad2e8f81329caab5b81deb4a84f8d8b56ac3a2cf80ab95f5a5ba0dcc86a89a4640fc5c9381787c943e1ba57eb42df26c68b dA [⟨0,[cs Sl]⟩] [Us] @mE
def mF: (List Aab×List aP×List Int×List aD×(List<|Int×Bool)×(List<|Int×Bool)×(List<|Int×Bool)×List aD×Int)->((List aN×List Aab×List aP×List Int×List aD×Int)->Option R)->(((List aN×List Aab×List aP×List Int×List aD)->Option R)×Unit)->(List aN×List Aab×List aP×List Int×List aD×Int)->Option R:=λ(a,b,c,d,f,g,h,i,j) l (m,_) (o,r,s,t,u,v)=>cd (v<j) (bnd (idx i v) λw=>bnd2 (JS n (o,r,s,t,u,a,b,c,d,f,g,h,w,w.Parts,(ln w.Parts)) 0) (λx=>l (x.1,x.2.1,x.2.2.1,x.2.2.2.1,x.2.2.2.2,(wr<|v+1))) λy=>bnd (some y) λ_=>l (o,r,s,t,u,(wr<|v+1)))<|m (o,r,s,t,u)
def JT:=oH mF
def Tq: Lc 18 0 1:=bE 0x1f723c81bdbcd85293be1edc272b5efc79d02b59ca0e2ce1001a7739c09f6ba13522a919532c68b dA [⟨0,[cs Tp]⟩] [] @mF
def mP: (List aN×List Aab×List aP×List Int×List aD×List Aab×List aP×List Int×List aD×(List<|Int×Bool)×(List<|Int×Bool))->(((List aN×List Aab×List aP×List Int×List aD×(List<|Int×Bool))->Option R)×Unit)->Unit->Option R:=λ(a,b,c,d,f,g,h,i,j,l,m) (o,_) _=>bnd (JU n (m,c,(ln c)) ([],0)) λr=>bnd (JT n (g,h,i,j,l,m,r,f,(ln f)) (a,b,c,d,f,0)) λs=>o (s.1,s.2.1,s.2.2.1,s.2.2.2.1,s.2.2.2.2,r)
def pJ:=qR mP
def Ut: Ic:=bP 18 0 2 0xec4ba89852267b6da8bade7cfd8df3d5a73f44f105f2f36fccdcaebb080cd63b96acdaf61508288296573cb dA [⟨0,[Ts]⟩,⟨1,[Tq]⟩] [] @mP
def mM: (List aN×List Aab×List aP×List Int×List aD×List Aab×List aP×List Int×List aD×Int×ByteArray)->(((List aN×List Aab×List aP×List Int×List aD×aJ×Bool)->Option R)×Unit)->Unit->Option R:=λ(a,b,c,d,f,g,h,i,j,l,m) (o,_) _=>bnd (dH n (aJ.mk (aM.mk b c d) f)<|aN.mk 5 l 0 0 0 (Aaa.mk 0 0) [] m []) λr=>cnd (r.2 != 0) (o (a,b,c,d,f,r.1,false))<|bnd (app a [(aN.mk 5 l 0 0 0 (Aaa.mk 0 0) [] m [])]) λs=>o (s,r.1.Plan.Nodes,r.1.Plan.Arcs,r.1.Plan.Faces,r.1.Features,r.1,true)
def JY:=qR mM
def Uq: Ic:=bP 57 0 2 0x3cda7d343ebc82386cbfb667dbac86c777c6af5c5048 dA [] [] @mM
def mD: (List Aab×List aP×List Int×List aD×(List<|Int×Bool)×List aP×Int)->((List aN×List Aab×List aP×List Int×List aD×Int)->Option R)->(((List aN×List Aab×List aP×List Int×List aD)->Option R)×Unit)->(List aN×List Aab×List aP×List Int×List aD×Int)->Option R:=λ(a,b,c,d,f,g,h) i (j,_) (l,m,o,r,s,t)=>cd (t<h) (bnd (idx g t) λu=>cnd ((Option.getD (bQ f u.ID) false)) (i (l,m,o,r,s,(wr<|t+1)))<|bnd (JY n (l,m,o,r,s,a,b,c,d,u.ID,(⟨#[]⟩:ByteArray))) λv=>cnd v.2.2.2.2.2.2 (i (v.1,v.2.1,v.2.2.1,v.2.2.2.1,v.2.2.2.2.1,(wr<|t+1)))<|i (v.1,v.2.1,v.2.2.1,v.2.2.2.1,v.2.2.2.2.1,(wr<|t+1)))<|j (l,m,o,r,s)
def JR:=oH mD
def Tn: Lc 19 0 0:=bE 0x142746c56c752dec5dcb6e9a99e68301737b008b5123714495c1cd3d dA [] [Uq] @mD
def mL: (List aN×List Aab×List aP×List Int×List aD×List Aab×List aP×List Int×List aD×Int×ByteArray)->(((List aN×List Aab×List aP×List Int×List aD×aJ×Bool)->Option R)×Unit)->Unit->Option R:=λ(a,b,c,d,f,g,h,i,j,l,m) (o,_) _=>bnd (dH n (aJ.mk (aM.mk b c d) f)<|aN.mk 2 l 0 0 0 (Aaa.mk 0 0) [] m []) λr=>cnd (r.2 != 0) (o (a,b,c,d,f,r.1,false))<|bnd (app a [(aN.mk 2 l 0 0 0 (Aaa.mk 0 0) [] m [])]) λs=>o (s,r.1.Plan.Nodes,r.1.Plan.Arcs,r.1.Plan.Faces,r.1.Features,r.1,true)
def JX:=qR mL
def Uo: Ic:=bP 57 0 2 0x3cda7d3419597b6ff9c72d4dbbd1ee5c64c57c5c5048 dA [] [] @mL
def mC: (List Aab×List aP×List Int×List aD×(List<|Int×Bool)×List Aab×Int)->((List aN×List Aab×List aP×List Int×List aD×Int)->Option R)->(((List aN×List Aab×List aP×List Int×List aD)->Option R)×Unit)->(List aN×List Aab×List aP×List Int×List aD×Int)->Option R:=λ(a,b,c,d,f,g,h) i (j,_) (l,m,o,r,s,t)=>cd (t<h) (bnd (idx g t) λu=>cnd ((Option.getD (bQ f u.ID) false)) (i (l,m,o,r,s,(wr<|t+1)))<|bnd (JX n (l,m,o,r,s,a,b,c,d,u.ID,(⟨#[]⟩:ByteArray))) λv=>cnd v.2.2.2.2.2.2 (i (v.1,v.2.1,v.2.2.1,v.2.2.2.1,v.2.2.2.2.1,(wr<|t+1)))<|i (v.1,v.2.1,v.2.2.1,v.2.2.2.1,v.2.2.2.2.1,(wr<|t+1)))<|j (l,m,o,r,s)
def JQ:=oH mC
def Tm: Lc 19 0 1:=bE 0x18655c61ea661a7c98e1462594072f45507fcec5ca355a22eb dA [] [Uo] @mC
def mK: (List aN×List Aab×List aP×List Int×List aD×List Aab×List aP×List Int×List aD×Int×Int×Int×ByteArray)->(((List aN×List Aab×List aP×List Int×List aD×aJ×Bool)->Option R)×Unit)->Unit->Option R:=λ(a,b,c,d,f,g,h,i,j,l,m,o,r) (s,_) _=>bnd (dH n (aJ.mk (aM.mk b c d) f)<|aN.mk 1 l 0 0 0 (Aaa.mk m o) [] r []) λt=>cnd (t.2 != 0) (s (a,b,c,d,f,t.1,false))<|bnd (app a [(aN.mk 1 l 0 0 0 (Aaa.mk m o) [] r [])]) λu=>s (u,t.1.Plan.Nodes,t.1.Plan.Arcs,t.1.Plan.Faces,t.1.Features,t.1,true)
def JW:=qR mK
def Un: Ic:=bP 57 0 2 0xa6ef4983ab077637b8867ed0d32b365f3a351167aeec2653dc639f4c0b5c5048 dA [] [] @mK
def mB: (List Aab×List aP×List Int×List aD×(List<|Int×Bool)×List Aab×Int)->((List aN×List Aab×List aP×List Int×List aD×Int)->Option R)->(((List aN×List Aab×List aP×List Int×List aD)->Option R)×Unit)->(List aN×List Aab×List aP×List Int×List aD×Int)->Option R:=λ(a,b,c,d,f,g,h) i (j,_) (l,m,o,r,s,t)=>cd (t<h) (bnd (idx g t) λu=>cnd ((Option.getD (bQ f u.ID) false)) (i (l,m,o,r,s,(wr<|t+1)))<|bnd (JW n (l,m,o,r,s,a,b,c,d,u.ID,u.At.X,u.At.Y,(⟨#[]⟩:ByteArray))) λv=>cnd v.2.2.2.2.2.2 (i (v.1,v.2.1,v.2.2.1,v.2.2.2.1,v.2.2.2.2.1,(wr<|t+1)))<|i (v.1,v.2.1,v.2.2.1,v.2.2.2.1,v.2.2.2.2.1,(wr<|t+1)))<|j (l,m,o,r,s)
def JP:=oH mB
def Tl: Lc 19 0 2:=bE 0x18670ec3217b80d573a3b87f9c365e5bcf6c764227bbf422eb dA [] [Un] @mB
def eX: (List aN×List Aab×List aP×List Int×List aD×List Aab×List aP×List Int×List aD×Int)->((Bool->Option R)×Unit)->Unit->Option R:=λ(a,b,c,d,f,g,h,i,j,l) (m,_) _=>bnd (iM n i l) λo=>cnd o (m true)<|bnd (iM n d l) λr=>cnd r (m true)<|m false
def JH:=fR eX
def Sk: Lc 61 0 1:=bG 0x218e5982cbadb96df1d8380f dA [] [] @eX
def eY: (List aN×List Aab×List aP×List Int×List aD×List Aab×List aP×List Int×List aD)->(Int->Option R)->((Int->Option R)×Unit)->Int->Option R:=λ(a,b,c,d,f,g,h,i,j) l (m,_) o=>bnd (JH n (a,b,c,d,f,g,h,i,j,o)) λr=>cnd r (l<|wr<|o+1)<|m o
def JN:=oH eY
def vU: Lc 61 0 0:=bE 0x2919d829d3da10afaa80f dA [⟨0,[cs Sk]⟩] [] @eY
def dQ: (List aN×List Aab×List aP×List Int×List aD×List Aab×List aP×List Int×List aD)->((Int->Option R)×Unit)->Unit->Option R:=λ(a,b,c,d,f,g,h,i,j) (l,_) _=>bnd (JN n (a,b,c,d,f,g,h,i,j) 1) λm=>l m
def pH:=qR dQ
def Um: Ic:=bP 61 0 1 0x1f01bdeeb081e8c1df7cf dA [⟨0,[vU]⟩] [] @dQ
def mJ: (List aN×List Aab×List aP×List Int×List aD×List Aab×List aP×List Int×List aD×Int×Int×Int×Int×List Aaa×ByteArray)->(((List aN×List Aab×List aP×List Int×List aD×aJ×Bool)->Option R)×Unit)->Unit->Option R:=λ(a,b,c,d,f,g,h,i,j,l,m,o,r,s,t) (u,_) _=>bnd (dH n (aJ.mk (aM.mk b c d) f)<|aN.mk 4 l m o r (Aaa.mk 0 0) s t []) λv=>cnd (v.2 != 0) (u (a,b,c,d,f,v.1,false))<|bnd (app a [(aN.mk 4 l m o r (Aaa.mk 0 0) s t [])]) λw=>u (w,v.1.Plan.Nodes,v.1.Plan.Arcs,v.1.Plan.Faces,v.1.Features,v.1,true)
def JV:=qR mJ
def Ul: Ic:=bP 57 0 2 0xa700742ac30d08e8215ac576fe5cb2a394995ed775ebed1394dde6944f6bd32a dA [] [] @mJ
def lZ: (List Aab×List aP×List Int×List aD×Int×Int×Int×List Aaa×ByteArray×List Int×Int)->((List aN×List Aab×List aP×List Int×List aD×Int×Int)->Option R)->(((List aN×List Aab×List aP×List Int×List aD×Int)->Option R)×((List aN×List Aab×List aP×List Int×List aD×Int)->Option R)×Unit)->(List aN×List Aab×List aP×List Int×List aD×Int×Int)->Option R:=λ(a,b,c,d,f,g,h,i,j,l,m) o (r,s,_) (t,u,v,w,x,y,z)=>cd (z<m) (bnd (iL l (List.length l) z) λ_=>bnd (idx l z) λa0=>bnd (JV n (t,u,v,w,x,a,b,c,d,f,g,h,a0,i,j)) λb0=>cnd b0.2.2.2.2.2.2 (r (b0.1,b0.2.1,b0.2.2.1,b0.2.2.2.1,b0.2.2.2.2.1,a0))<|o (b0.1,b0.2.1,b0.2.2.1,b0.2.2.2.1,b0.2.2.2.2.1,a0,(wr<|z+1)))<|s (t,u,v,w,x,y)
def JM:=qP lZ
def Tj: Lc 19 0 4:=bE 0x470ed6aa49a2c408bcbbb9988f85121df4bef14c470c6715b76e2e468a18992ddfd69c2b4bf89ad87a925155138e0d7e37e9c98be5d6c6c2da654892f56ab2ae4d1838 dA [] [Ul] @lZ
def mA: (List Aab×List aP×List Int×List aD×(List<|Int×Bool)×List aP×Int)->((List aN×List Aab×List aP×List Int×List aD×Int)->Option R)->(((List aN×List Aab×List aP×List Int×List aD)->Option R)×Unit)->(List aN×List Aab×List aP×List Int×List aD×Int)->Option R:=λ(a,b,c,d,f,g,h) i (j,_) (l,m,o,r,s,t)=>cd (t<h) (bnd (idx g t) λu=>cnd ((Option.getD (bQ f u.ID) false)) (i (l,m,o,r,s,(wr<|t+1)))<|bnd (clF n u.Via) λv=>bnd (pH n (l,m,o,r,s,a,b,c,d)) λw=>bnd2 (JM n (a,b,c,d,u.ID,u.From,u.To,v,(⟨#[]⟩:ByteArray),[0,w,(wr<|0-w)],(ln [0,w,(wr<|0-w)])) (l,m,o,r,s,0,0)) (λx=>i (x.1,x.2.1,x.2.2.1,x.2.2.2.1,x.2.2.2.2.1,(wr<|t+1))) λy=>bnd (some y) λz=>i (z.1,z.2.1,z.2.2.1,z.2.2.2.1,z.2.2.2.2.1,(wr<|t+1)))<|j (l,m,o,r,s)
def JO:=oH mA
def Tk: Lc 19 0 3:=bE 0x8e8039d5e0aa9620973257fcb2b700e0ee468a158008359f4d9e85441cd3d dA [⟨0,[cs Tj]⟩] [Um] @mA
def mN: (List aN×List Aab×List aP×List Int×List aD×List Aab×List aP×List Int×List aD×(List<|Int×Bool)×(List<|Int×Bool))->(((List aN×List Aab×List aP×List Int×List aD)->Option R)×Unit)->Unit->Option R:=λ(a,b,c,d,f,g,h,i,j,l,m) (o,_) _=>bnd (JR n (g,h,i,j,m,c,(ln c)) (a,b,c,d,f,0)) λr=>bnd (JQ n (g,h,i,j,l,b,(ln b)) (r.1,r.2.1,r.2.2.1,r.2.2.2.1,r.2.2.2.2,0)) λs=>bnd (JP n (g,h,i,j,l,g,(ln g)) (s.1,s.2.1,s.2.2.1,s.2.2.2.1,s.2.2.2.2,0)) λt=>bnd (JO n (g,h,i,j,m,h,(ln h)) (t.1,t.2.1,t.2.2.1,t.2.2.2.1,t.2.2.2.2,0)) λu=>o (u.1,u.2.1,u.2.2.1,u.2.2.2.1,u.2.2.2.2)
def pI:=qR mN
def Ur: Ic:=bP 19 0 2 0x287597b6a3abfee33de5fe1ca1538a6bf2ddd6a47e30f67e714af2feaff614fb7404d2717fcb dA [⟨0,[Tn]⟩,⟨1,[Tm]⟩,⟨2,[Tl]⟩,⟨3,[Tk]⟩] [] @mN
def lX: (List aN×List Aab×List aP×List Int×List aD×List Aab×List aP×List Int×List aD×Int×List aP×Int)->(Int->Option R)->(((aP×aP×Int)->Option R)×(Unit->Option R)×Unit)->Int->Option R:=λ(a,b,c,d,f,g,h,i,j,l,m,o) r (s,t,_) u=>cd (u<o) (bnd (idx m u) λv=>bnd (zU n (aM.mk b c d) v.ID) λw=>cnd w.2 (cnd (l==v.Left) (s (v,w.1,w.1.Left))<|cnd (l==v.Right) (s (v,w.1,w.1.Right))<|r<|wr<|u+1)<|cnd (l==v.Left) (s (v,w.1,w.1.Left))<|cnd (l==v.Right) (s (v,w.1,w.1.Right))<|r<|wr<|u+1)<|t ()
def JK:=qP lX
def Th: Lc 62 0 0:=bE 0xba3320c5d725cfd025dd8d17e9c772e8d4c2ba9c49a35e899b78d69372 dA [] [] @lX
def mH: (List aN×List Aab×List aP×List Int×List aD×List Aab×List aP×List Int×List aD×Int)->(((aP×aP×Int)->Option R)×(Unit->Option R)×Unit)->Unit->Option R:=λ(a,b,c,d,f,g,h,i,j,l) (m,o,_) _=>bnd2 (JK n (a,b,c,d,f,g,h,i,j,l,h,(ln h)) 0) (λr=>m (r.1,r.2.1,r.2.2)) λs=>bnd (some s) λ_=>o ()
def Cs:=BJ mH
def wA: Ic:=bP 62 0 2 0x2d19d2769fe14935ccf2e7da96aca9fe44ae6f692 dA [⟨0,[Th]⟩] [] @mH
def eW: (List Int×Int×Int)->((Bool->Option R)×Unit)->Unit->Option R:=λ(a,b,c) (d,_) _=>cnd (c != b) (bnd (iM n a c) λf=>cnd f (d true)<|d false)<|d false
def Cr:=fR eW
def Sj: Lc 20 0 1:=bG 0x9972aa9df997d789a5fe27a399781c7e5326ad dA [] [] @eW
def Uj: Ic:=bP 61 0 1 0x1f01bdeeb081e8c1df7cf dA [⟨0,[vU]⟩] [] @dQ
def eZ: (List aN×List Aab×List aP×List Int×List aD×List Aab×List aP×List Int×List aD×Int×Int×ByteArray)->(((List aN×List Aab×List aP×List Int×List aD×aJ×Bool)->Option R)×Unit)->Unit->Option R:=λ(a,b,c,d,f,g,h,i,j,l,m,o) (r,_) _=>bnd (dH n (aJ.mk (aM.mk b c d) f)<|aN.mk 12 l m 0 0 (Aaa.mk 0 0) [] o []) λs=>cnd (s.2 != 0) (r (a,b,c,d,f,s.1,false))<|bnd (app a [(aN.mk 12 l m 0 0 (Aaa.mk 0 0) [] o [])]) λt=>r (t,s.1.Plan.Nodes,s.1.Plan.Arcs,s.1.Plan.Faces,s.1.Features,s.1,true)
def jI:=qR eZ
def vZ: Ic:=bP 57 0 2 0xd66d114747456b05a95418e8ce5af dA [] [] @eZ
def Si: Lc 20 0 1:=bG 0xc5663bc6de3cafdbb14db447efe897844ad dA [] [] @eW
def Sg: Lc 61 0 1:=bG 0x218e5982cb06dba6bb92f612 dA [] [] @eX
def Tg: Lc 61 0 0:=bE 0x34e184380523c66612 dA [⟨0,[cs Sg]⟩] [] @eY
def Ui: Ic:=bP 61 0 1 0x27e53e5bf218a9b5d2 dA [⟨0,[Tg]⟩] [] @dQ
def vY: Ic:=bP 57 0 2 0xd66d114741e4a4562334b7a4ea3b2 dA [] [] @eZ
end
end
section
variable {R:Type}(n:Nat)
noncomputable section
def lY: (List Aab×List aP×List Int×List aD×List Int×List Int×Int)->((List aN×List Aab×List aP×List Int×List aD×Int)->Option R)->(((List aN×List Aab×List aP×List Int×List aD)->Option R)×Unit)->(List aN×List Aab×List aP×List Int×List aD×Int)->Option R:=λ(a,b,c,d,f,g,h) i (j,_) (l,m,o,r,s,t)=>cd (t<h) (bnd (idx g t) λu=>bnd2 (Cs n (l,m,o,r,s,a,b,c,d,u)) (λv=>bnd (Cr n (f,u,v.2.2)) λw=>cnd w (bnd (pH n (l,m,o,r,s,a,b,c,d)) λx=>bnd (jI n (l,m,o,r,s,a,b,c,d,v.2.2,x,(⟨#[]⟩:ByteArray))) λy=>cnd y.2.2.2.2.2.2 (i (y.1,y.2.1,y.2.2.1,y.2.2.2.1,y.2.2.2.2.1,(wr<|t+1)))<|i (y.1,y.2.1,y.2.2.1,y.2.2.2.1,y.2.2.2.2.1,(wr<|t+1)))<|i (l,m,o,r,s,(wr<|t+1))) λz=>bnd (some z) λ_=>bnd (Cr n (f,u,u)) λa0=>cnd a0 (bnd (pH n (l,m,o,r,s,a,b,c,d)) λb0=>bnd (jI n (l,m,o,r,s,a,b,c,d,u,b0,(⟨#[]⟩:ByteArray))) λc0=>cnd c0.2.2.2.2.2.2 (i (c0.1,c0.2.1,c0.2.2.1,c0.2.2.2.1,c0.2.2.2.2.1,(wr<|t+1)))<|i (c0.1,c0.2.1,c0.2.2.1,c0.2.2.2.1,c0.2.2.2.2.1,(wr<|t+1)))<|i (l,m,o,r,s,(wr<|t+1)))<|j (l,m,o,r,s)
def JL:=oH lY
def Ti: Lc 20 0 0:=bE 0x1864ff5755cd6b8bdba0717d8cf95b105f69c1450a2142c0c2 dA [⟨0,[cs Sj,cs Si]⟩] [wA,Uj,vZ,Ui,vY] @lY
def lW: (List Aab×List aP×List Int×List aD×List Int×Int)->((List aN×List Aab×List aP×List Int×List aD×Int)->Option R)->(((List aN×List Aab×List aP×List Int×List aD)->Option R)×Unit)->(List aN×List Aab×List aP×List Int×List aD×Int)->Option R:=λ(a,b,c,d,f,g) h (i,_) (j,l,m,o,r,s)=>cd (s<g) (bnd (idx f s) λt=>bnd2 (Cs n (j,l,m,o,r,a,b,c,d,t)) (λu=>cnd (u.2.2 != t) (bnd (jI n (j,l,m,o,r,a,b,c,d,u.2.2,t,(⟨#[]⟩:ByteArray))) λv=>cnd v.2.2.2.2.2.2 (h (v.1,v.2.1,v.2.2.1,v.2.2.2.1,v.2.2.2.2.1,(wr<|s+1)))<|h (v.1,v.2.1,v.2.2.1,v.2.2.2.1,v.2.2.2.2.1,(wr<|s+1)))<|h (j,l,m,o,r,(wr<|s+1))) λw=>bnd (some w) λ_=>cnd (t != t) (bnd (jI n (j,l,m,o,r,a,b,c,d,t,t,(⟨#[]⟩:ByteArray))) λx=>cnd x.2.2.2.2.2.2 (h (x.1,x.2.1,x.2.2.1,x.2.2.2.1,x.2.2.2.2.1,(wr<|s+1)))<|h (x.1,x.2.1,x.2.2.1,x.2.2.2.1,x.2.2.2.2.1,(wr<|s+1)))<|h (j,l,m,o,r,(wr<|s+1)))<|i (j,l,m,o,r)
def JJ:=oH lW
def Tf: Lc 20 0 2:=bE 0x285f7eeba26417818a969bee66326197bbf30a3da312 dA [] [wA,vZ,vY] @lW
def mI: (List aN×List Aab×List aP×List Int×List aD×List Aab×List aP×List Int×List aD)->(((List aN×List Aab×List aP×List Int×List aD)->Option R)×Unit)->Unit->Option R:=λ(a,b,c,d,f,g,h,i,j) (l,_) _=>bnd (JL n (g,h,i,j,i,i,(ln i)) (a,b,c,d,f,0)) λm=>bnd (JJ n (g,h,i,j,i,(ln i)) (m.1,m.2.1,m.2.2.1,m.2.2.2.1,m.2.2.2.2,0)) λo=>l (o.1,o.2.1,o.2.2.1,o.2.2.2.1,o.2.2.2.2)
def pG:=qR mI
def Uk: Ic:=bP 20 0 1 0x8e431664449b2fed735324588f5d2 dA [⟨0,[Ti]⟩,⟨2,[Tf]⟩] [] @mI
def Te: Lc 17 0 0:=bE 0x1bef568e1cced1d1869a3e87dbbe63bd3f0814e01af3815ce9ec3b7d111465abd094c3c85abd4aca4d dA [] [] @iB
def Sf: Lc 17 0 2:=bG 0x285633c8a2656f088f0a9ecf4d555837db94bfe8717e6b67af293f4e5a7df3b7b2109d852f0577d dA [] [] @hZ
def Se: Lc 17 0 2:=bG 0x1b99a9ba872626ec33e445b1ac047c21e7eb7113af0b1aafc0eb3 dA [] [] @eU
def Td: Lc 17 0 1:=bE 0x216dd1c00e74c3d479702221b5096a4997a8a71a51e8b25365f26b65074e4409185d94e6ab82ad354d dA [⟨0,[cs Sf,cs Se]⟩] [] @iA
def Uh: Ic:=bP 17 0 2 0x439cbd2b74de420a32f150da753d61ece06b4b016d57b1aac893d0a0e017d6144c58b175c dA [⟨0,[Te]⟩,⟨1,[Td]⟩] [] @nZ
def Tc: Lc 18 0 0:=bE 0xd1f549ba71075b2570a9291bf88e019448d52ebd13632b8d7e40d84cd124605edb3d68f4e2fa7260af4bf4378d dA [] [] @mG
def Sd: Lc 18 0 3:=bG 0xa199bd350a83655a29ab8b5322a8f897ff94024335a2315d8ba9a67daed310b34c8437fc9dba031425da5571d61fccfd dA [] [] @lV
def Uf: Ic:=bP 57 0 2 0x1143943bdc86251735ad598a0e2c5eb7c8b5ce475629ec53857de91b153 dA [] [] @mO
def Ta: Lc 18 0 2:=bE 0x5c975dcca896e5731a0b83d9c5762872e359be47db754e281dd3a2ae55ee2960ad6d9d28b2046a27568fc67c2bf0c0e20e3898e8c3f4dfbb63e571501c49d943 dA [⟨0,[cs Sd]⟩] [Uf] @mE
def Tb: Lc 18 0 1:=bE 0x42cb19cee40e28a0f505f395f0b718158d8f810ea3981329afe1224daf603b036653ad55d943 dA [⟨0,[cs Ta]⟩] [] @mF
def Ug: Ic:=bP 18 0 2 0x21a896aed814a5415a3af8ee18a487881983df6ef30e01ee7b4a25f49edd93b4d99f537b64fba25948473 dA [⟨0,[Tc]⟩,⟨1,[Tb]⟩] [] @mP
def Ud: Ic:=bP 57 0 2 0x3cd2f565baa4308a0c69bd0e7a20484d8ff9ed93ee26 dA [] [] @mM
def Sz: Lc 19 0 0:=bE 0x215a121371944e9166c8b1134f72b517de02d3b0160e85f3d3 dA [] [Ud] @mD
def Uc: Ic:=bP 57 0 2 0x3cd2f565954129c1997133f45a45afe27cf8ba93ee26 dA [] [] @mL
def Sy: Lc 19 0 1:=bE 0x42a91c4ef3de6aea1f7fc5ad917bb7996ab0dcd15043 dA [] [Uc] @mC
def Ub: Ic:=bP 57 0 2 0xa6da9f46a10c31bdf74c8622120df81faff5b54221e52fbb93aa8a014993ee26 dA [] [] @mK
def Sw: Lc 19 0 2:=bE 0x1bbbcf8261a7421bf563ab1247da915d2c0ca5551bab043 dA [] [Ub] @mB
def Sc: Lc 61 0 1:=bG 0x218e58d958a548f34fdc86bd dA [] [] @eX
def vT: Lc 61 0 0:=bE 0x2919d7e1249dac58ef6bd dA [⟨0,[cs Sc]⟩] [] @eY
def Ua: Ic:=bP 61 0 1 0x1f01bda60145846b2467d dA [⟨0,[vT]⟩] [] @dQ
def Tz: Ic:=bP 57 0 2 0xa6ebc9edb911c46e5b0593bcb93f54f5edc974a2ecff13f19aa18e976afc96f3 dA [] [] @mJ
def Ss: Lc 19 0 4:=bE 0x5b69479c06ec54210ba8776951d35337738156352717d16ffbe997e630a117bddd08138bd5e6816f2c9696d023da16c1de2839d988e7eb5a1578c67355b8c4d1816 dA [] [Tz] @lZ
def Sv: Lc 19 0 3:=bE 0x2197cc32b82fba037544a45d10d4666090d05dce1d7c1409c73d3 dA [⟨0,[cs Ss]⟩] [Ua] @mA
def Ue: Ic:=bP 19 0 2 0x2dfb41ec8422d7ea90a6feafacdde297ccc2541a40426a12d6dd61607504c68277ba8f483 dA [⟨0,[Sz]⟩,⟨1,[Sy]⟩,⟨2,[Sw]⟩,⟨3,[Sv]⟩] [] @mN
def Sq: Lc 62 0 0:=bE 0xba3320c59e8d5522a2604ce4583a0124ae0ed78dea129e114ea2669369 dA [] [] @lX
def vX: Ic:=bP 62 0 2 0x2d19d2768fd92090efc3fa1ec21ed825b8d6c4589 dA [⟨0,[Sq]⟩] [] @mH
def Sb: Lc 20 0 1:=bG 0x146aea75a5a94cbcb81cb6bfb9a93d dA [] [] @eW
def Tw: Ic:=bP 61 0 1 0x1f01bda60145846b2467d dA [⟨0,[vT]⟩] [] @dQ
def vW: Ic:=bP 57 0 2 0xd652894614397cd4e554d8d91345d dA [] [] @eZ
def Sa: Lc 20 0 1:=bG 0xc568700645e901f862d4efcbae5bab14a4d dA [] [] @eW
def Rz: Lc 61 0 1:=bG 0x218e58d957fe6b2c19974509 dA [] [] @eX
def Sp: Lc 61 0 0:=bE 0x34e183da8bb4cab509 dA [⟨0,[cs Rz]⟩] [] @eY
def Tu: Ic:=bP 61 0 1 0x27e53dfe78a9ae04c9 dA [⟨0,[Sp]⟩] [] @dQ
def vV: Ic:=bP 57 0 2 0xd652894613a1b0650d6be15f1f2a9 dA [] [] @eZ
def Sr: Lc 20 0 0:=bE 0x158ceee28e391e3fde64efef778e7a894635c4121c19f950b9 dA [⟨0,[cs Sb,cs Sa]⟩] [vX,Tw,vW,Tu,vV] @lY
def So: Lc 20 0 2:=bE 0x55c0f5fdd91992f4488f78e00c0626a7868dca309 dA [] [vX,vW,vV] @lW
def Tx: Ic:=bP 20 0 1 0x7dae15c2077791fc2fd3a5d7e44c9 dA [⟨0,[Sr]⟩,⟨2,[So]⟩] [] @mI
def cY: Nat->aJ->aJ->Option (List aN×Int)
 | 0,_,_=>none
 | n+1,a,b=>bnd (cC n a) λc=>cnd (c != 0) (some ([],c))<|bnd (cC n b) λd=>cnd (d != 0) (some ([],d))<|bnd2 (Fe n ([],a.Plan.Nodes,a.Plan.Arcs,a.Plan.Faces,a.Features,b.Plan.Nodes,b.Plan.Arcs,b.Plan.Faces,b.Features)) (λ_=>bnd (sI n (a.Plan,b.Plan)) λf=>bnd (pJ n ([],a.Plan.Nodes,a.Plan.Arcs,a.Plan.Faces,a.Features,b.Plan.Nodes,b.Plan.Arcs,b.Plan.Faces,b.Features,f.1,f.2)) λg=>bnd (pI n (g.1,g.2.1,g.2.2.1,g.2.2.2.1,g.2.2.2.2.1,b.Plan.Nodes,b.Plan.Arcs,b.Plan.Faces,b.Features,f.1,f.2)) λh=>bnd (pG n (h.1,h.2.1,h.2.2.1,h.2.2.2.1,h.2.2.2.2,b.Plan.Nodes,b.Plan.Arcs,b.Plan.Faces,b.Features)) λi=>bnd (dC n (aJ.mk (aM.mk i.2.1 i.2.2.1 i.2.2.2.1) i.2.2.2.2) b) λj=>bnd (app i.1 j) λl=>some (l,0)) λm=>bnd2 (some m) (λ_=>bnd (sI n (a.Plan,b.Plan)) λo=>bnd (pJ n ([],a.Plan.Nodes,a.Plan.Arcs,a.Plan.Faces,a.Features,b.Plan.Nodes,b.Plan.Arcs,b.Plan.Faces,b.Features,o.1,o.2)) λr=>bnd (pI n (r.1,r.2.1,r.2.2.1,r.2.2.2.1,r.2.2.2.2.1,b.Plan.Nodes,b.Plan.Arcs,b.Plan.Faces,b.Features,o.1,o.2)) λs=>bnd (pG n (s.1,s.2.1,s.2.2.1,s.2.2.2.1,s.2.2.2.2,b.Plan.Nodes,b.Plan.Arcs,b.Plan.Faces,b.Features)) λt=>bnd (dC n (aJ.mk (aM.mk t.2.1 t.2.2.1 t.2.2.2.1) t.2.2.2.2) b) λu=>bnd (app t.1 u) λv=>some (v,0)) λw=>bnd (some w) λx=>cnd x.2.2.2.2.2 (bnd (dC n (aJ.mk (aM.mk x.2.1 x.2.2.1 x.2.2.2.1) x.2.2.2.2.1) b) λy=>bnd (app x.1 y) λz=>some (z,0))<|bnd (sI n (a.Plan,b.Plan)) λa0=>bnd (pJ n ([],a.Plan.Nodes,a.Plan.Arcs,a.Plan.Faces,a.Features,b.Plan.Nodes,b.Plan.Arcs,b.Plan.Faces,b.Features,a0.1,a0.2)) λb0=>bnd (pI n (b0.1,b0.2.1,b0.2.2.1,b0.2.2.2.1,b0.2.2.2.2.1,b.Plan.Nodes,b.Plan.Arcs,b.Plan.Faces,b.Features,a0.1,a0.2)) λc0=>bnd (pG n (c0.1,c0.2.1,c0.2.2.1,c0.2.2.2.1,c0.2.2.2.2,b.Plan.Nodes,b.Plan.Arcs,b.Plan.Faces,b.Features)) λd0=>bnd (dC n (aJ.mk (aM.mk d0.2.1 d0.2.2.1 d0.2.2.2.1) d0.2.2.2.2) b) λf0=>bnd (app d0.1 f0) λg0=>some (g0,0)
def UT: Kn:=bJ 4 0x791dd5763c43829214267f13aa85cf87ce1 dA [] [DT,DQ,Ut,Ur,Uk,Uh,Ug,Ue,Tx] cY
abbrev aON:=UT::dA
def sH(n:Nat): Int->((Bool->Option R)×Unit)->Unit->Option R:=λa (b,_) _=>cnd (a==3) (b true)<|cnd (a==6) (b true)<|cnd (a==9) (b true)<|cnd (a==10) (b true)<|cnd (a==11) (b true)<|b false
def Ro:=fR sH
def Lj: Lc 28 0 0:=bG 0xa28cef4173579a722cbcac96a0188 aON [] [] @sH
def sG(n:Nat): aN->((Bool->Option R)×Unit)->Unit->Option R:=λa (b,_) _=>cnd (a.Kind==9) (b true)<|cnd (a.Kind==10) (b true)<|cnd (a.Kind==11) (b true)<|b false
def Rn:=fR sG
def Li: Lc 28 0 1:=bG 0x65e98d6565fcd70a49eb1077bac09 aON [] [] @sG
def Fb: Nat->aN->aN->Option Bool
 | 0,_,_=>none
 | n+1,a,b=>cnd (a.ID != b.ID) (some false)<|bnd (Ro n b.Kind) λc=>cnd c (cnd (a.Kind==b.Kind) (some true)<|some false)<|cnd (b.Kind==2) (cnd (a.Kind==3) (some true)<|some false)<|cnd (b.Kind==5) (cnd (a.Kind==6) (some true)<|some false)<|cnd (b.Kind==8) (bnd (Rn n a) λd=>cnd d (some true)<|some false)<|some false
def DK: Kn:=bJ 28 0x3f025a06c242 aON [⟨0,[Lj]⟩,⟨1,[Li]⟩] [] Fb
abbrev aRO:=DK::aON
def oL(n:Nat): (aN×aN)->((Bool->Option R)×Unit)->Unit->Option R:=λ(a,b) (c,_) _=>cnd (a.C==0) (cnd (b.Kind==5) (c true)<|c false)<|c false
def Lk:=fR oL
def Gi: Lc 29 0 0:=bG 0x39433451d4fb aRO [] [] @oL
def xX: Nat->aN->aN->Option Bool
 | 0,_,_=>none
 | n+1,a,b=>cnd (a.ID != b.ID) (some false)<|cnd (a.Kind==1) (cnd (b.Kind==2) (some true)<|some false)<|cnd (a.Kind==7) (cnd (b.Kind==8) (some true)<|some false)<|cnd (a.Kind==4) (bnd (Lk n (a,b)) λc=>cnd c (some true)<|some false)<|some false
def Nx: Kn:=bJ 29 0x3f025a06c242 aRO [⟨0,[Gi]⟩] [] xX
abbrev aGo:=Nx::aRO
def sK: (List aN×Int×Int×Int×Int×Int×Int×Int×List Aaa×ByteArray×List Int×(Nat×Nat))->((Bool->Option R)×Unit)->Unit->Option R:=λ(a,b,c,d,f,g,h,i,j,l,m,o) (r,_) _=>cd (((o.2:Nat):Int) > 0) (bnd (idx (win a<|some o)<|wr<|((o.2:Nat):Int)-1) λ_=>bnd (idx a<|(wr<|((o.2:Nat):Int)-1)+((o.1:Nat):Int)) λs=>bnd (Fb n s<|aN.mk b c d f g (Aaa.mk h i) j l m) λt=>cnd t (r true)<|r false)<|r false
def Uv:=fR sK
def Lm: Lc 9 0 2:=bG 0x5c351024e0cb1d1c4a11bcd8497fdc8e3107effec6ec3ab4a47062f6d8d6bd57 aGo [] [] @sK
def sM: (List aN×Int×Int×Int×Int×Int×Int×Int×List Aaa×ByteArray×List Int)->(((Nat×Nat))->Option R)->((((Nat×Nat))->Option R)×Unit)->((Nat×Nat))->Option R:=λ(a,b,c,d,f,g,h,i,j,l,m) o (r,_) s=>bnd (Uv n (a,b,c,d,f,g,h,i,j,l,m,s)) λt=>cnd t (bnd (sub a s 0<|wr<|((s.2:Nat):Int)-1) λu=>o u)<|r s
def Uw:=oH sM
def Ln: Lc 9 0 1:=bE 0x769e4ff1cb27c30b35ae81efa6071fc25534dcd1e62bb9f3c01af4526bd57 aGo [⟨0,[cs Lm]⟩] [] @sM
def sO(n:Nat): (List aN×Int×Int×Int×Int×Int×Int×Int×Int×List Aaa×ByteArray×List Int)->(((List aN×Bool)->Option R)×Unit)->Unit->Option R:=λ(a,b,c,d,f,g,h,i,j,l,m,o) (r,_) _=>bnd (idx a b) λs=>cnd (s.ID != d) (r (a,false))<|bnd (idx a b) λt=>cd ((Aad.mk t.Kind c)=(Aad.mk 1 3)) (bnd (idx a b) λu=>r ((List.set a (Int.toNat b)<|aN.mk u.Kind u.ID u.A u.B u.C (Aaa.mk i j) u.Via u.Name u.Parts),true))<|cd ((Aad.mk t.Kind c)=(Aad.mk 4 6)) (bnd (idx a b) λv=>r ((List.set a (Int.toNat b)<|aN.mk v.Kind v.ID v.A v.B v.C v.At l v.Name v.Parts),true))<|cd ((Aad.mk t.Kind c)=(Aad.mk 7 9)) (bnd (idx a b) λw=>r ((List.set a (Int.toNat b)<|aN.mk w.Kind w.ID w.A w.B w.C w.At w.Via m w.Parts),true))<|cd ((Aad.mk t.Kind c)=(Aad.mk 7 10)) (bnd (idx a b) λx=>r ((List.set a (Int.toNat b)<|aN.mk x.Kind x.ID x.A g x.C x.At x.Via x.Name x.Parts),true))<|cd ((Aad.mk t.Kind c)=(Aad.mk 7 11)) (bnd (idx a b) λy=>r ((List.set a (Int.toNat b)<|aN.mk y.Kind y.ID y.A y.B y.C y.At y.Via y.Name o),true))<|r (a,false)
def Uy:=qR sO
def Lp: Ic:=bP 30 0 2 0x32d305219dc30f2cff80f68804370b6306f325261b5f6b7b671a8c28964cf2553ed0b31838afd2d aGo [] [] @sO
def sJ(n:Nat): (List aN×Int×Int×Int×Int×Int×Int×Int×List Aaa×ByteArray×List Int×Int)->((Bool->Option R)×Unit)->Unit->Option R:=λ(a,b,c,d,f,g,h,i,j,l,m,o) (r,_) _=>bnd (idx a o) λs=>cnd (s.Kind==12) (cnd (b==12) (bnd (idx a o) λt=>cnd (t.A==c) (r true)<|r false)<|r false)<|r false
def Uu:=fR sJ
def Ll: Lc 9 0 3:=bG 0x6cfb4179e5999a445ad2153a36a751531655c54aac04f61a74192328b531d03afde205c640a4c5500 aGo [] [] @sJ
def sN: (List aN×Int)->((List aN×(Nat×Nat)×Int)->Option R)->(((List aN×(Nat×Nat))->Option R)×Unit)->(List aN×(Nat×Nat)×Int)->Option R:=λ(a,b) c (d,_) (f,g,h)=>cd (h<b) (bnd (idx a h) λi=>bnd (clF n i.Via) λj=>bnd (clF n i.Parts) λl=>bnd (Uw n (f,i.Kind,i.ID,i.A,i.B,i.C,i.At.X,i.At.Y,j,i.Name,l) g) λm=>cnd (((m.2:Nat):Int)==0) (bnd (aLX f m [(aN.mk i.Kind i.ID i.A i.B i.C i.At j i.Name l)]) λo=>c (o,(m.1,m.2+List.length [(aN.mk i.Kind i.ID i.A i.B i.C i.At j i.Name l)]),(wr<|h+1)))<|bnd (idx (win f<|some m)<|wr<|((m.2:Nat):Int)-1) λ_=>bnd (idx f<|(wr<|((m.2:Nat):Int)-1)+((m.1:Nat):Int)) λr=>bnd (xX n r<|aN.mk i.Kind i.ID i.A i.B i.C i.At j i.Name l) λs=>cnd s (bnd (sub f m 0<|wr<|((m.2:Nat):Int)-1) λt=>c (f,t,(wr<|h+1)))<|bnd (Uy n (f,((wr<|((m.2:Nat):Int)-1)+((m.1:Nat):Int)),i.Kind,i.ID,i.A,i.B,i.C,i.At.X,i.At.Y,j,i.Name,l)) λu=>cnd u.2 (cnd (Nat.beq (List.length u.1) (List.length f)&&true) (c (u.1,m,(wr<|h+1))) none)<|cnd (Nat.beq (List.length u.1) (List.length f)&&true) (bnd (Uu n (u.1,i.Kind,i.ID,i.A,i.B,i.C,i.At.X,i.At.Y,j,i.Name,l,((wr<|((m.2:Nat):Int)-1)+((m.1:Nat):Int)))) λv=>cnd v (bnd (idx u.1<|(wr<|((m.2:Nat):Int)-1)+((m.1:Nat):Int)) λw=>cnd (i.A==w.ID) (bnd (sub u.1 m 0<|wr<|((m.2:Nat):Int)-1) λx=>c (u.1,x,(wr<|h+1)))<|bnd (idx u.1<|(wr<|((m.2:Nat):Int)-1)+((m.1:Nat):Int)) λy=>c ((List.set u.1 (Int.toNat<|(wr<|((m.2:Nat):Int)-1)+((m.1:Nat):Int))<|aN.mk y.Kind y.ID i.A y.B y.C y.At y.Via y.Name y.Parts),m,(wr<|h+1)))<|bnd (aLX u.1 m [(aN.mk i.Kind i.ID i.A i.B i.C i.At j i.Name l)]) λz=>c (z,(m.1,m.2+List.length [(aN.mk i.Kind i.ID i.A i.B i.C i.At j i.Name l)]),(wr<|h+1))) none)<|d (f,g)
def Ux:=oH sN
def Lo: Lc 9 0 0:=bE 0x2fc403a23f4232a5bccd14d20f398f81209d287329a4721ceb12f5bbedd5d2d4a1aa1d aGo [⟨0,[cs Ln]⟩,⟨2,[cs Ll]⟩] [Lp] @sN
def sP: Nat->(List aN)->Option (List aN)
 | 0,_=>none
 | n+1,a=>bnd (Ux n (a,(ln a)) ([],((0,0):Nat×Nat),0)) λb=>some<|win b.1<|some b.2
def DU: Kn:=bJ 9 0x9a30c23b6369225afc7c0f1 aGo [⟨0,[Lo]⟩] [] sP
abbrev aRN:=DU::aGo
def kT(n:Nat): (List Aaa×List Aaa)->(Int->Option R)->((Unit->Option R)×(Unit->Option R)×Unit)->Int->Option R:=λ(a,b) c (d,f,_) g=>cd (g<(ln a)) (bnd (idx a g) λh=>bnd (idx b g) λi=>cd (h=i) (c<|wr<|g+1)<|d ())<|f ()
def v8:=qP kT
def OS: Lc 68 0 0:=bE 0x5853094568bb aRN [] [] @kT
def tA: Nat->(List Aaa)->(List Aaa)->Option Bool
 | 0,_,_=>none
 | n+1,a,b=>cnd ((ln a) != (ln b)) (some false)<|bnd2 (v8 n (a,b) 0) (λ_=>some false) λc=>bnd (some c) λ_=>some true
def P8: Kn:=bJ 68 0x208aebc6de3eef2 aRN [⟨0,[OS]⟩] [] tA
abbrev aRM:=P8::aRN
def kS(n:Nat): (List Int×List Int)->(Int->Option R)->((Unit->Option R)×(Unit->Option R)×Unit)->Int->Option R:=λ(a,b) c (d,f,_) g=>cd (g<(ln a)) (bnd (idx a g) λh=>bnd (idx b g) λi=>cnd (h != i) (d ())<|c<|wr<|g+1)<|f ()
def v7:=qP kS
def ON: Lc 67 0 0:=bE 0x58519017a7bb aRM [] [] @kS
def sZ: Nat->(List Int)->(List Int)->Option Bool
 | 0,_,_=>none
 | n+1,a,b=>cnd ((ln a) != (ln b)) (some false)<|bnd2 (v7 n (a,b) 0) (λ_=>some false) λc=>bnd (some c) λ_=>some true
def P5: Kn:=bJ 67 0x1dde46656534 aRM [⟨0,[ON]⟩] [] sZ
abbrev aRL:=P5::aRM
def Fm: (aN×aN)->((Bool->Option R)×Unit)->Unit->Option R:=λ(a,b) (c,_) _=>cnd (a.Kind==b.Kind) (cnd (a.ID==b.ID) (cnd (a.A==b.A) (cnd (a.B==b.B) (cnd (a.C==b.C) (cd (a.At=b.At) (cd (a.Name=b.Name) (bnd (tA n a.Via b.Via) λd=>cnd d (bnd (sZ n a.Parts b.Parts) λf=>cnd f (c true)<|c false)<|c false)<|c false)<|c false)<|c false)<|c false)<|c false)<|c false)<|c false
def Ng:=fR Fm
def OM: Lc 24 0 0:=bG 0x39433451d4fb aRL [] [] @Fm
def Lv: Nat->aN->aN->Option Bool
 | 0,_,_=>none
 | n+1,a,b=>bnd (Ng n (a,b)) λc=>cnd c (some true)<|some false
def P4: Kn:=bJ 24 0x3f025a06c242 aRL [⟨0,[OM]⟩] [] Lv
abbrev aRK:=P4::aRL
def pM: (List aN×List aN)->(Int->Option R)->((Unit->Option R)×(Unit->Option R)×Unit)->Int->Option R:=λ(a,b) c (d,f,_) g=>cd (g<(ln a)) (bnd (idx a g) λh=>bnd (idx b g) λi=>bnd (Lv n h i) λj=>cnd j (c<|wr<|g+1)<|d ())<|f ()
def UY:=qP pM
def KE: Lc 6 0 0:=bE 0x58550b0e669b aRK [] [] @pM
def jV: Nat->(List aN)->(List aN)->Option Bool
 | 0,_,_=>none
 | n+1,a,b=>cnd ((ln a) != (ln b)) (some false)<|bnd2 (UY n (a,b) 0) (λ_=>some false) λc=>bnd (some c) λ_=>some true
def v6: Kn:=bJ 6 0x208af8edd2d8b32 aRK [⟨0,[KE]⟩] [] jV
abbrev aUz:=v6::aRK
def tF: Nat->Aac->Aac->Option Int
 | 0,_,_=>none
 | n+1,a,b=>bnd (cE n a.Kind b.Kind) λc=>bnd (cE n a.ID b.ID) λd=>bnd (JC n [c,d]) λf=>some f
def Jg: Kn:=bJ 32 0x278ca485bc43c5ede9e43 aUz [] [] tF
abbrev aJk:=Jg::aUz
def Ji: Lc 10 0 2:=bG 0x8dd05ee13c1fb2df90982bb44c99a8f7 aJk [] [] @sA
def Jh: Lc 10 0 3:=bG 0x6e3cf9c115bca40bc85fb53b87fca0ee8f7 aJk [] [] @pD
def pS: aN->((Int->Option R)×(Unit->Option R)×Unit)->Unit->Option R:=λa (b,c,_) _=>bnd (jN n a.Kind) λd=>cnd d (b 1)<|bnd (mZ n a.Kind) λf=>cnd f (b 2)<|cnd (a.Kind==7) (b 3)<|cnd (a.Kind==8) (b 3)<|cnd (a.Kind==9) (b 3)<|cnd (a.Kind==10) (b 3)<|cnd (a.Kind==11) (b 3)<|c ()
def Ny:=pc2 pS
def Jj: Lc 10 0 1:=bG 0x6185837623618cd4f7433be9b7f6e20214359c5deb7322b9ba04f721fad06172127c38 aJk [⟨0,[cs Ji]⟩,⟨1,[cs Jh]⟩] [] @pS
def pT: (List aN×Int)->((List Aac×(List<|Aac×Bool)×Int)->Option R)->(((List Aac×(List<|Aac×Bool))->Option R)×Unit)->(List Aac×(List<|Aac×Bool)×Int)->Option R:=λ(a,b) c (d,_) (f,g,h)=>cd (h<b) (bnd (idx a h) λi=>bnd2 (Ny n i) (λj=>cnd ((Option.getD (bQ g<|Aac.mk j i.ID) false)) (c (f,g,(wr<|h+1)))<|bnd (app f [(Aac.mk j i.ID)]) λl=>c (l,(dX g (Aac.mk j i.ID) true),(wr<|h+1))) λm=>bnd (some m) λ_=>c (f,g,(wr<|h+1)))<|d (f,g)
def Nz:=oH pT
def Jk: Lc 10 0 0:=bE 0x4f34b4afe439372462fbf26d358270d0ae3bd80b6b985b0fd512ff64e39a3f670a29c6e22a656eeb1230597c1b3034df aJk [⟨0,[cs Jj]⟩] [] @pT
def jH: Nat->(List aN)->Option (List Aac)
 | 0,_=>none
 | n+1,a=>bnd (Nz n (a,(ln a)) ([],[],0)) λb=>bnd (prd n) λc=>bnd (Nq<|decide<|List.length b.1<=1000000) λ_=>bnd (qB (λ(d f:Aac)=>bnd (tF c d f) λg=>some g) b.1) λh=>some h
def Ry: Kn:=bJ 10 0x9a30ccd293e9907122469f8 aJk [⟨0,[Jk]⟩] [] jH
abbrev aRJ:=Ry::aJk
def tI(n:Nat): (List Aac×List Aac)->(Int->Option R)->((Unit->Option R)×(Unit->Option R)×Unit)->Int->Option R:=λ(a,b) c (d,f,_) g=>cd (g<(ln a)) (bnd (idx a g) λh=>bnd (idx b g) λi=>cd (h=i) (c<|wr<|g+1)<|d ())<|f ()
def DW:=qP tI
def Oa: Lc 11 0 0:=bE 0x355d9630356be9676b aRJ [] [] @tI
def Jq: Nat->(List Aac)->(List Aac)->Option Bool
 | 0,_,_=>none
 | n+1,a,b=>cnd ((ln a) != (ln b)) (some false)<|bnd2 (DW n (a,b) 0) (λ_=>some false) λc=>bnd (some c) λ_=>some true
def KD: Kn:=bJ 11 0x208afa5691a0082 aRJ [⟨0,[Oa]⟩] [] Jq
abbrev aGn:=KD::aRJ
def lR(n:Nat): (List Aac×Int)->(((List<|Aac×Bool)×Int)->Option R)->((((List<|Aac×Bool))->Option R)×Unit)->((List<|Aac×Bool)×Int)->Option R:=λ(a,b) c (d,_) (f,g)=>cd (g<b) (bnd (idx a g) λh=>c ((dX f h true),(wr<|g+1)))<|d f
def Gk:=oH lR
def Cn: Lc 12 0 0:=bE 0x17f1a9fdeb8b80905b84c15331e2095db396427456b066f5e01d39ff aGn [] [] @lR
def lS(n:Nat): ((List<|Aac×Bool)×Aac)->((Bool->Option R)×Unit)->Unit->Option R:=λ(a,b) (c,_) _=>cnd ((Option.getD (bQ a b) false)) (c true)<|c false
def Gl:=qR lS
def Co: Ic:=bP 33 0 2 0x8a0b78af4f881d5ea8f890bd09 aGn [] [] @lS
def lQ: ((List<|Aac×Bool)×List Aac×Int)->(Int->Option R)->(((Aac×Int)->Option R)×(Unit->Option R)×Unit)->Int->Option R:=λ(a,b,c) d (f,g,_) h=>cd (h<c) (bnd (idx b h) λi=>bnd (Gl n (a,i)) λj=>cnd j (f (i,h))<|d<|wr<|h+1)<|g ()
def Gj:=qP lQ
def Cm: Lc 71 0 0:=bE 0x133fbc8fbd2660fe9ea71f53cc2fd9657016e9796078204f8561f aGn [] [Co] @lQ
def lT: ((List<|Aac×Bool)×List Aac)->(((Aac×Int)->Option R)×(Unit->Option R)×Unit)->Unit->Option R:=λ(a,b) (c,d,_) _=>bnd2 (Gj n (a,b,(ln b)) 0) (λf=>c (f.1,f.2)) λg=>bnd (some g) λ_=>d ()
def Gm:=BJ lT
def Cp: Ic:=bP 71 0 2 0x107537527a4cc2764a32d55226e48cf919e6091bad884d5606709 aGn [⟨0,[Cm]⟩] [] @lT
def lU: ((List<|Aac×Bool)×List Aac)->(((Aac×Bool)->Option R)×(Unit->Option R)×Unit)->Unit->Option R:=λ(a,b) (c,d,_) _=>bnd2 (Gm n (a,b)) (λf=>cd (f.2>=0) (c (f.1,true))<|c (f.1,false)) λg=>bnd (some g) λ_=>d ()
def Gn:=BJ lU
def Cq: Ic:=bP 34 0 2 0x152e3d6e8a425ad5a303168b6eed3b19c27c8c6584d5606709 aGn [] [Cp] @lU
def kH: Nat->(List aN)->(List aN)->Option Bool
 | 0,_,_=>none
 | n+1,a,b=>bnd (jH n a) λc=>bnd (Gk n (c,(ln c)) ([],0)) λd=>bnd (jH n b) λf=>bnd2 (Gn n (d,f)) (λg=>cnd g.2 (some false)<|some true) λh=>bnd (some h) λ_=>some true
def Jf: Kn:=bJ 12 0x13aa19d52d4524274b209 aGn [⟨0,[Cn]⟩] [Cq] kH
abbrev aOM:=Jf::aGn
def Vn: (List aN×Int×List aN×Int×List aN×List aN)->((Bool->Option R)×Unit)->Unit->Option R:=λ(a,b,c,d,f,g) (h,_) _=>cnd (b != 0) (h true)<|bnd (jV n a f) λi=>cnd i (cnd (d != 0) (h true)<|cnd ((ln c) != 0) (h true)<|bnd (jH n g) λj=>bnd (Jq n j [(Aac.mk 2 5),(Aac.mk 3 3)]) λl=>cnd l (h false)<|h true)<|h true
def aC4:=fR Vn
def P2: Lc 2 0 0:=bG 0x33134934a7e9dfdd956c39fcc0aadf527bb65f0671e526f71c6434d0e8 aOM [] [] @Vn
def Vm: (List aN×List aN)->((Bool->Option R)×Unit)->Unit->Option R:=λ(a,b) (c,_) _=>bnd (cut a 2<|ln a) λd=>bnd (kH n a d) λf=>cnd f (c false)<|bnd (cut a 1 2) λg=>bnd (cut a 2<|ln a) λh=>bnd (kH n g h) λi=>cnd i (bnd (jV n b [(aN.mk 1 1 0 0 0 (Aaa.mk 2 2) [] (⟨#[]⟩:ByteArray) []),(aN.mk 9 3 0 0 0 (Aaa.mk 0 0) [] (⟨#[98]⟩:ByteArray) [])]) λj=>cnd j (bnd (sP n [(aN.mk 12 1 2 0 0 (Aaa.mk 0 0) [] (⟨#[]⟩:ByteArray) []),(aN.mk 12 2 1 0 0 (Aaa.mk 0 0) [] (⟨#[]⟩:ByteArray) [])]) λl=>cnd ((ln l)==0) (c true)<|c false)<|c false)<|c false
def aC3:=fR Vm
def P1: Lc 2 0 1:=bG 0x56ceb95bae64cab17279efb0ba8ec8673c68c0 aOM [] [] @Vm
def pU: Nat->Option Bool
 | 0=>none
 | n+1=>bnd (wB n) λa=>bnd (cY n (aJ.mk (aM.mk [] [] []) []) a) λb=>bnd (wB n) λc=>bnd (wB n) λd=>bnd (cY n c d) λf=>bnd (wB n) λg=>bnd (idx g.Plan.Arcs 0) λh=>bnd (sP n [(aN.mk 1 1 0 0 0 (Aaa.mk 0 0) [] (⟨#[]⟩:ByteArray) []),(aN.mk 3 1 0 0 0 (Aaa.mk 2 2) [] (⟨#[]⟩:ByteArray) []),(aN.mk 9 3 0 0 0 (Aaa.mk 0 0) [] (⟨#[97]⟩:ByteArray) []),(aN.mk 9 3 0 0 0 (Aaa.mk 0 0) [] (⟨#[98]⟩:ByteArray) [])]) λi=>bnd (aC4 n (b.1,b.2,f.1,f.2,[(aN.mk 1 1 0 0 0 (Aaa.mk 0 0) [] (⟨#[]⟩:ByteArray) []),(aN.mk 4 1 1 1 2 (Aaa.mk 0 0) h.Via (⟨#[]⟩:ByteArray) []),(aN.mk 12 2 1 0 0 (Aaa.mk 0 0) [] (⟨#[]⟩:ByteArray) [])],[(aN.mk 9 3 0 0 0 (Aaa.mk 0 0) [] (⟨#[97]⟩:ByteArray) []),(aN.mk 6 5 0 0 0 (Aaa.mk 0 0) [] (⟨#[]⟩:ByteArray) []),(aN.mk 10 3 0 1 0 (Aaa.mk 0 0) [] (⟨#[]⟩:ByteArray) [])])) λj=>cnd j (some false)<|bnd (aC3 n ([(aN.mk 9 3 0 0 0 (Aaa.mk 0 0) [] (⟨#[97]⟩:ByteArray) []),(aN.mk 6 5 0 0 0 (Aaa.mk 0 0) [] (⟨#[]⟩:ByteArray) []),(aN.mk 10 3 0 1 0 (Aaa.mk 0 0) [] (⟨#[]⟩:ByteArray) [])],i)) λl=>cnd l (some true)<|some false
def aEC: Kn:=bJ 2 0xe074bb6c73c20c6d0551 aOM [⟨0,[P2]⟩,⟨1,[P1]⟩] [] pU
abbrev aRI:=aEC::aOM
def Jr: (aP×aP)->((Bool->Option R)×Unit)->Unit->Option R:=λ(a,b) (c,_) _=>cnd (a.ID==b.ID) (cnd (a.From==b.From) (cnd (a.To==b.To) (cnd (a.Left==b.Left) (cnd (a.Right==b.Right) (bnd (tA n a.Via b.Via) λd=>cnd d (c true)<|c false)<|c false)<|c false)<|c false)<|c false)<|c false
def Cx:=fR Jr
def UZ: Lc 66 0 0:=bG 0x229ab75d152496f02b aRI [] [] @Jr
def Fn: Nat->aP->aP->Option Bool
 | 0,_,_=>none
 | n+1,a,b=>bnd (Cx n (a,b)) λc=>cnd c (some true)<|some false
def aAf: Kn:=bJ 66 0x510eab1be aRI [⟨0,[UZ]⟩] [] Fn
abbrev aJj:=aAf::aRI
def EO(n:Nat): (aM×aM)->((Bool->Option R)×Unit)->Unit->Option R:=λ(a,b) (c,_) _=>cnd ((ln a.Nodes) != (ln b.Nodes)) (c true)<|cnd ((ln a.Arcs) != (ln b.Arcs)) (c true)<|cnd ((ln a.Faces) != (ln b.Faces)) (c true)<|c false
def Vr:=fR EO
def aAb: Lc 22 0 0:=bG 0x154a14fb1ed37b1530679928a2b aJj [] [] @EO
def vC(n:Nat): (aM×aM)->(Int->Option R)->((Unit->Option R)×(Unit->Option R)×Unit)->Int->Option R:=λ(a,b) c (d,f,_) g=>cd (g<(ln a.Nodes)) (bnd (idx a.Nodes g) λh=>bnd (idx b.Nodes g) λi=>cd (h=i) (c<|wr<|g+1)<|d ())<|f ()
def aEJ:=qP vC
def aAe: Lc 22 0 1:=bE 0x704befd822c5df1353267e18c04371af aJj [] [] @vC
def vB: (aM×aM)->(Int->Option R)->((Unit->Option R)×(Unit->Option R)×Unit)->Int->Option R:=λ(a,b) c (d,f,_) g=>cd (g<(ln a.Arcs)) (bnd (idx a.Arcs g) λh=>bnd (idx b.Arcs g) λi=>bnd (Fn n h i) λj=>cnd j (c<|wr<|g+1)<|d ())<|f ()
def aEI:=qP vB
def aAd: Lc 22 0 2:=bE 0x3c73ff7421c03ac3cbec59a36d2c0437e1f aJj [] [] @vB
def vA(n:Nat): (aM×aM)->(Int->Option R)->((Unit->Option R)×(Unit->Option R)×Unit)->Int->Option R:=λ(a,b) c (d,f,_) g=>cd (g<(ln a.Faces)) (bnd (idx a.Faces g) λh=>bnd (idx b.Faces g) λi=>cnd (h != i) (d ())<|c<|wr<|g+1)<|f ()
def d7:=qP vA
def aAc: Lc 22 0 3:=bE 0x6236dbb6b3594938613f857fd9b38a8f aJj [] [] @vA
def OT: Nat->aM->aM->Option Bool
 | 0,_,_=>none
 | n+1,a,b=>bnd (Vr n (a,b)) λc=>cnd c (some false)<|bnd2 (aEJ n (a,b) 0) (λ_=>some false) λd=>bnd (some d) λ_=>bnd2 (aEI n (a,b) 0) (λ_=>some false) λf=>bnd (some f) λ_=>bnd2 (d7 n (a,b) 0) (λ_=>some false) λg=>bnd (some g) λ_=>some true
def aGh: Kn:=bJ 22 0x35dae2d30 aJj [⟨0,[aAb]⟩,⟨1,[aAe]⟩,⟨2,[aAd]⟩,⟨3,[aAc]⟩] [] OT
abbrev aRH:=aGh::aJj
def wD: (aD×aD)->((Bool->Option R)×Unit)->Unit->Option R:=λ(a,b) (c,_) _=>cnd (a.ID==b.ID) (cnd (a.Kind==b.Kind) (cnd (a.Class==b.Class) (cd (a.Name=b.Name) (bnd (sZ n a.Parts b.Parts) λd=>cnd d (c true)<|c false)<|c false)<|c false)<|c false)<|c false
def pN:=fR wD
def Vq: Lc 23 0 0:=bG 0x394661c21dfb aRH [] [] @wD
def oQ: Nat->aD->aD->Option Bool
 | 0,_,_=>none
 | n+1,a,b=>bnd (pN n (a,b)) λc=>cnd c (some true)<|some false
def OO: Kn:=bJ 23 0x29dd2759cb52 aRH [⟨0,[Vq]⟩] [] oQ
abbrev aOL:=OO::aRH
def EN: (aJ×aJ)->((Bool->Option R)×Unit)->Unit->Option R:=λ(a,b) (c,_) _=>bnd (OT n a.Plan b.Plan) λd=>cnd d (cnd ((ln a.Features) != (ln b.Features)) (c true)<|c false)<|c true
def Vp:=fR EN
def V9: Lc 5 0 0:=bG 0x108c964f34f3bee1586453924163eb aOL [] [] @EN
def uZ: (aJ×aJ)->(Int->Option R)->((Unit->Option R)×(Unit->Option R)×Unit)->Int->Option R:=λ(a,b) c (d,f,_) g=>cd (g<(ln a.Features)) (bnd (idx a.Features g) λh=>bnd (idx b.Features g) λi=>bnd (oQ n h i) λj=>cnd j (c<|wr<|g+1)<|d ())<|f ()
def aEH:=qP uZ
def aAa: Lc 5 0 1:=bE 0x43d3aca3e83b4498f5a8a6ae6e84e8199a27af aOL [] [] @uZ
def OP: Nat->aJ->aJ->Option Bool
 | 0,_,_=>none
 | n+1,a,b=>bnd (Vp n (a,b)) λc=>cnd c (some false)<|bnd2 (aEH n (a,b) 0) (λ_=>some false) λd=>bnd (some d) λ_=>some true
end
end
section
variable {R:Type}(n:Nat)
noncomputable section
def aGf: Kn:=bJ 5 0x35dae54ec aOL [⟨0,[V9]⟩,⟨1,[aAa]⟩] [] OP
abbrev aRG:=aGf::aOL
def oN: (aJ×aN)->((Bool->Option R)×Unit)->Unit->Option R:=λ(a,b) (c,_) _=>cnd (b.Kind != 9) (cnd (b.Kind != 10) (cnd (b.Kind != 3) (cnd (b.Kind != 6) (c true)<|bnd (Lt n a a) λd=>cnd d (c false)<|c true)<|bnd (Lt n a a) λf=>cnd f (c false)<|c true)<|bnd (Lt n a a) λg=>cnd g (c false)<|c true)<|bnd (Lt n a a) λh=>cnd h (c false)<|c true
def sX:=fR oN
def Gq: Lc 0 0 0:=bG 0x108c964f34f664af117be2d520914b aRG [] [] @oN
def oM: (List aN×Int)->((Bool->Option R)×Unit)->Unit->Option R:=λ(a,b) (c,_) _=>cnd (b==0) (cnd ((ln a)==0) (bnd (pU n) λd=>cnd d (c true)<|c false)<|c false)<|c false
def sW:=fR oM
def Gp: Lc 0 0 1:=bG 0x47ae8d1bbd3c5a546fb0c5a9e1ece2e7 aRG [] [] @oM
def iC: Nat->aJ->aN->Option Bool
 | 0,_,_=>none
 | n+1,a,b=>bnd (sX n (a,b)) λc=>cnd c (bnd (pU n) λd=>cnd d (some true)<|some false)<|bnd (dH n a b) λf=>cnd (f.2 != 0) (bnd (pU n) λg=>cnd g (some true)<|some false)<|bnd (cY n a f.1) λh=>bnd (OP n a f.1) λi=>cnd i (bnd (sW n (h.1,h.2)) λj=>cnd j (some true)<|some false)<|cnd (h.2==0) (bnd (jV n h.1 [b]) λl=>cnd l (bnd (pU n) λm=>cnd m (some true)<|some false)<|some false)<|some false
def tG: Kn:=bJ 0 0x1d982bdb676f9ec80b1e1 aRG [⟨0,[Gq]⟩,⟨1,[Gp]⟩] [] iC
end
end
def aB{α:Type}(f:Nat->Nat->Option α)(P:α->Prop): Prop:=∃r,P r/\∃K,∀n m,K<=n->K<=m->f n m=some r
section
variable {α β γ:Type}{P:α->Prop}{Q:β->Prop}{R:γ->Prop}
theorem aA{x:α}(h:P x): aB (λ_ _=>some x) P:=⟨x,h,0,λ_ _ _ _=>rfl⟩
theorem aB.imp{a:α->Prop}{f:Nat->Nat->Option α}(h:aB f P)(k:∀r,P r->a r): aB f a:=by
 let⟨r,b,K,c⟩:=h;exact⟨r,k r b,K,c⟩
theorem aE{f:Nat->Nat->Option β}{g:Nat->Nat->β->Option α}(h:aB f Q)(k:∀r,Q r->aB (λn m=>g n m r) P): aB (λn m=>Av.bnd (f n m)<|g n m) P:=by
 let⟨r,a,K,d⟩:=h;let⟨s,b,J,c⟩:=k r a;refine⟨s,b,max K J,λn m j l=>?_⟩;have i:=d n m (by omega)<|by omega
 show Av.bnd (f n m) (g n m)=some s;rw[i];exact c n m (by omega)<|by omega
theorem aI{o:Option β}{g:Nat->Nat->β->Option α}{x:β}(e:o=some x)(k:aB (λn m=>g n m x) P): aB (λn m=>Av.bnd o<|g n m) P:=by
 subst e;exact k
def Su(Q:β->Prop)(R:γ->Prop): β⊕γ->Prop
 | .inl a=>Q a
 | .inr b=>R b
theorem aR{f:Nat->Nat->Option (β⊕γ)}{g:Nat->Nat->β->Option α}{k:Nat->Nat->γ->Option α}(h:aB f<|Su Q R)(o:∀a,Q a->aB (λn m=>g n m a) P)(l:∀b,R b->aB (λn m=>k n m b) P): aB (λn m=>Av.bnd2 (f n m) (g n m)<|k n m) P:=by
 let⟨r,j,K,i⟩:=h;cases r with
 | inl a=>
  let⟨s,d,J,c⟩:=o a j;refine⟨s,d,max K J,λn m q p=>?_⟩;show Av.bnd2 (f n m) (g n m) (k n m)=some s;rw[i n m (by omega)<|by omega];exact c n m (by omega)<|by omega
 | inr a=>
  let⟨s,d,J,c⟩:=l a j;refine⟨s,d,max K J,λn m q p=>?_⟩;show Av.bnd2 (f n m) (g n m) (k n m)=some s;rw[i n m (by omega)<|by omega];exact c n m (by omega)<|by omega
theorem aC{b:Bool}{x y:Nat->Nat->Option α}(c:b=true->aB x P)(a:b=false->aB y P): aB (λn m=>Av.cnd b (x n m)<|y n m) P:=by
 cases b with
 | true=>exact c rfl
 | false=>exact a rfl
theorem aT{g:Nat->Nat->Nat->Option α}(h:aB (λn m=>g (n+1) m n) P): aB (λn m=>Av.bnd (Av.prd n)<|g n m) P:=by
 let⟨r,a,K,b⟩:=h;refine⟨r,a,K+1,λn m c d=>?_⟩;cases n with
 | zero=>omega
 | succ n=>exact b n m (by omega)<|by omega
theorem aW{f:Nat->Option α}{g:Nat->Option α}(e:∀n,f (n+1)=g n)(h:aB (λn _=>g n) P): aB (λn _=>f n) P:=by
 let⟨r,a,K,b⟩:=h;refine⟨r,a,K+1,λn m c d=>?_⟩;cases n with
 | zero=>omega
 | succ n=>show f (n+1)=some r;rw[e];exact b n m (by omega)<|by omega
theorem aB.lp{f:Nat->Nat->Option α}{g:Nat->Nat->Option α}(e:∀n m,f n (m+1)=g n m)(h:aB g P): aB f P:=by
 let⟨r,a,K,b⟩:=h;refine⟨r,a,K+1,λn m c d=>?_⟩;cases m with
 | zero=>omega
 | succ m=>rw[e];exact b n m (by omega)<|by omega
theorem bB{f:Nat->Nat->Option α}(h:aB f P): aB (λn _=>f n n) P:=by
 let⟨r,b,K,c⟩:=h;exact⟨r,b,K,λn m a d=>c n n a a⟩
theorem aMb{f:Nat->Option α}(h:aB (λn _=>f n) P): aB (λn _=>f<|n+1) P:=by
 let⟨r,a,K,c⟩:=h;exact⟨r,a,K,λn m d b=>c (n+1) m (by omega) b⟩
theorem aY{l:List β}{i:Nat}{f:Nat->Nat->β->Option α}{e:Nat->Nat->Option α}(c:∀x,l[i]?=some x->i<l.length->aB (λn m=>f n m x) P)(b:l.length<=i->aB e P):
 aB (λn m=>Av.cnd (decide<|(i:Int)<((l.length:Nat):Int)) (Av.bnd (idx l (i:Int))<|f n m)<|e n m) P:=by
 refine aC (λh=>?_) λh=>b ?_
 .have a:i<l.length:=by have:=Zl h;omega
  exact aI (x:=l[i]) (by rw[bL];exact Zb a)<|c _ (Zb a) a
 .have:=Zp h;omega
theorem aB.uniq{f:Nat->Nat->Option α}{r:α}(h:aB f λx=>x=r)(k:aB f P): P r:=by
 let⟨_,rfl,K,d⟩:=h;let⟨s,e,J,g⟩:=k;have c:=d (max K J) (max K J) (by omega)<|by omega
 have b:=g (max K J) (max K J) (by omega)<|by omega
 rw[c] at b;cases b;exact e
theorem aB.val{f:Nat->Nat->Option α}(k:aB f P): ∃r,P r/\aB f λx=>x=r:=by
 let⟨s,a,J,b⟩:=k;exact⟨s,a,s,rfl,J,b⟩
theorem c8{l:List α}{x:α}(h:l.length<=100000): app l [x]=some (l++[x]):=O7<|by simp;omega
end
def Ob{Q V X:Type}(B:Nat->Q->(V->Option X)->((X->Option X)×Unit)->V->Option X)(n m:Nat)(p:Q)(q:V): Option X:=lpB (λk q=>B n p k (λt=>some t,()) q) m q
def mV{Q V X Y:Type}(B:Nat->Q->(V->Option (X⊕Y))->((X->Option (X⊕Y))×(Y->Option (X⊕Y))×Unit)->V->Option (X⊕Y))(n m:Nat)(p:Q)(q:V): Option<|X⊕Y:=lpB (λk q=>B n p k (λt=>some<|.inl t,λt=>some<|.inr t,()) q) m q
def lm3{Q V X Y Z:Type}(B:Nat->Q->(V->Option (X⊕Y⊕Z))->((X->Option (X⊕Y⊕Z))×(Y->Option (X⊕Y⊕Z))×(Z->Option (X⊕Y⊕Z))×Unit)->V->Option (X⊕Y⊕Z))(n m:Nat)(p:Q)(q:V): Option<|X⊕Y⊕Z:=lpB (λk q=>B n p k (λt=>some<|.inl t,λt=>some<|.inr<|.inl t,λt=>some<|.inr<|.inr t,()) q) m q
theorem eD{Q V X:Type}{P:X->Prop}{B:Nat->Q->(V->Option X)->((X->Option X)×Unit)->V->Option X}{p:Q}{q:V}(h:aB (λn m=>B n p (λq=>Ob B n m p q) (λt=>some t,()) q) P): aB (λn m=>Ob B n m p q) P:=aB.lp (λ_ _=>rfl) h
theorem bF{Q V X Y:Type}{P:X⊕Y->Prop}{B:Nat->Q->(V->Option (X⊕Y))->((X->Option (X⊕Y))×(Y->Option (X⊕Y))×Unit)->V->Option (X⊕Y)}{p:Q}{q:V}(h:aB (λn m=>B n p (λq=>mV B n m p q) (λt=>some<|.inl t,λt=>some<|.inr t,()) q) P): aB (λn m=>mV B n m p q) P:=aB.lp (λ_ _=>rfl) h
theorem aMc{Q V X Y Z:Type}{P:X⊕Y⊕Z->Prop}{B:Nat->Q->(V->Option (X⊕Y⊕Z))->((X->Option (X⊕Y⊕Z))×(Y->Option (X⊕Y⊕Z))×(Z->Option (X⊕Y⊕Z))×Unit)->V->Option (X⊕Y⊕Z)}{p:Q}{q:V}(h:aB (λn m=>B n p (λq=>lm3 B n m p q) (λt=>some<|.inl t,λt=>some<|.inr<|.inl t,λt=>some<|.inr<|.inr t,()) q) P): aB (λn m=>lm3 B n m p q) P:=aB.lp (λ_ _=>rfl) h
abbrev Tt{α:Type}(f:Nat->Nat->Option α): Prop:=aB f λ_=>True
theorem i64_in(x:Int)(h:-9223372036854775808<=x/\x<=9223372036854775807): IntKind.i64.wrap x=x:=by rw[Xe];omega
theorem cD{i:Nat}(h:i<1000000): wr ((i:Int)+1)=((i+1:Nat):Int):=by rw[wr,i64_in _<|by omega];push_cast;rfl
def wC{α:Type}(l:List α)(i:Nat)(Q:α->Prop): Prop:=∀(j:Nat) (x:α),j<i->l[j]?=some x->Q x
theorem wC.nil{α:Type}{l:List α}{Q:α->Prop}: wC l 0 Q:=λj x h _=>by omega
theorem wC.step{α:Type}{l:List α}{i:Nat}{Q:α->Prop}{x:α}(h:wC l i Q)(d:l[i]?=some x)(e:Q x): wC l (i+1) Q:=λj y f b=>by
 by_cases c:j=i
 .subst c;rw[d] at b;cases b;exact e
 .exact h j y (by omega) b
theorem wC.fin{α:Type}{l:List α}{i:Nat}{Q:α->Prop}(h:wC l i Q)(c:l.length<=i): ∀x∈l,Q x:=λx b=>by
 let⟨j,a⟩:=Yi.1 b;exact h j x (by have:=(Ze.1 a).1;omega) a
structure Sm(p:aM): Prop where
 n:p.Nodes.length<=300
 a:p.Arcs.length<=300
 f:p.Faces.length<=300
 v:∀a∈p.Arcs,a.Via.length<=300
theorem aDY(p:List Aab)(d:p.length<=300)(i:Nat)(l:List Int)(b:l=(p.take i).map Aab.ID): aB (λn m=>Ob kA n m (p,ln p) (l,(i:Int))) λr=>r=p.map Aab.ID:=
 eD<|aY (λx e c=>aI (c8<|by rw[b];simp;omega)<|by
  rw[cD<|by omega];exact aDY p d (i+1) _<|by rw[b,YX,e];simp)
  (λa=>aA<|by rw[b,ZW a])
termination_by p.length-i
theorem aDX(p:List aP)(d:p.length<=300)(i:Nat)(l:List Int)(b:l=(p.take i).map aP.ID): aB (λn m=>Ob jZ n m (p,ln p) (l,(i:Int))) λr=>r=p.map aP.ID:=
 eD<|aY (λx e c=>aI (c8<|by rw[b];simp;omega)<|by
  rw[cD<|by omega];exact aDX p d (i+1) _<|by rw[b,YX,e];simp)
  (λa=>aA<|by rw[b,ZW a])
termination_by p.length-i
theorem aTu(p:aM)(b:Sm p): aB (λn _=>tZ n p) λr=>r=(p.Nodes.map Aab.ID,p.Arcs.map aP.ID):=
 aW (λ_=>rfl)<|aE (bB<|aDY _ b.n 0 [] rfl) λv d=>aE (bB<|aDX _ b.a 0 [] rfl) λw c=>aA<|by rw[d,c]
def Asc(l:List Int): Prop:=∀j x y,l[j]?=some x->l[j+1]?=some y->x<y
theorem O5(l:List Int)(k:l.length<=1000)(i:Nat)(p:1<=i)(f:∀j x y,j+1<i->l[j]?=some x->l[j+1]?=some y->x<y): aB (λn m=>mV gZ n m l (i:Int))<|Su (λ_=>True) λ_=>Asc l:=
 bF<|aC (λh=>by
  have d:i<l.length:=by have:(i:Int)<(l.length:Int):=Zl h;omega
  have o:wr ((i:Int)-1)=((i-1:Nat):Int):=by rw[wr,i64_in _<|by omega];omega
  rw[o];refine aI (x:=l[i-1]) (by rw[bL];exact Zb<|by omega)<|aI (x:=l[i]) (by rw[bL];exact Zb d)<|aC (λ_=>aA trivial) λg=>?_;rw[cD<|by omega];refine O5 l k (i+1) (by omega) λj x y q c b=>?_;by_cases e:j+1=i
  .subst e;rw[Zb<|by omega] at c b;cases c;cases b;have:=Zp g;simp only[Nat.add_sub_cancel] at this;omega
  .exact f j x y (by omega) c b)
  (λh=>aA λj x y c b=>by
   have:¬(i:Int)<(l.length:Int):=Zp h;exact f j x y (by have:=(Ze.1 b).1;omega) c b)
termination_by l.length-i
theorem aLR(l:List Int)(a:l.length<=1000): aB (λn _=>lD n l) λr=>r=true->Asc l:=
 aW (λ_=>rfl)<|aR (bB<|O5 l a 1 (by omega) λj x y b _ _=>by omega) (λ_ _=>aA<|by simp) λ_ h=>aA λ_=>h
theorem aK4(x:Int): aB (λn _=>tY n x) λr=>r=false->1<=x/\x<=1073741824:=
 aW (λ_=>rfl)<|aC (λ_=>aA<|by simp) λb=>aC (λ_=>aA<|by simp) λa=>aA λ_=>by
  have:=Zp b;have:=Zp a;omega
theorem aD8(l:List Int)(f:l.length<=1000)(i:Nat)(b:wC l i λx=>1<=x/\x<=1073741824): aB (λn m=>mV oT n m (l,ln l) (i:Int)) (Su (λv=>0<=v) λ_=>∀x∈l,1<=x/\x<=1073741824):=
 bF<|aY (λx e c=>aE (aK4 x) λr d=>aC (λ_=>aA<|by show (0:Int)<=(i:Int);omega) λh=>by
  rw[cD<|by omega];exact aD8 l f (i+1)<|b.step e<|d h)
  (λa=>aA<|b.fin a)
termination_by l.length-i
theorem aK5(l:List Int)(b:l.length<=1000): aB (λn _=>oG n l) λr=>r=true->∀x∈l,1<=x/\x<=1073741824:=
 aW (λ_=>rfl)<|aE (Q:=λr=>r=false->∀x∈l,1<=x/\x<=1073741824) (aT<|aE (Q:=λv=>0<=v\/∀x∈l,1<=x/\x<=1073741824) (aT<|aR (bB<|aD8 l b 0 .nil) (λv a=>aA<|.inl a) λ_ h=>aA<|.inr h)
  λv a=>aC (λ_=>aA<|by simp) λh=>aA λ_=>by have:=Zp h;rcases a with a | a;omega;exact a)
  λr c=>aC (λ_=>aA<|by simp) λh=>aA λ_=>c h
def Ly(x:Aaa): Prop:=-1048576<=x.X/\x.X<=1048576/\-1048576<=x.Y/\x.Y<=1048576
theorem VL(x:Aaa): aB (λn _=>qM n x) λr=>r=false->Ly x:=
 aC (λ_=>aA<|by simp) λb=>aC (λ_=>aA<|by simp) λc=>aC (λ_=>aA<|by simp) λa=>aC (λ_=>aA<|by simp) λd=>aA λ_=>by
 have:=Zp b;have:=Zp c;have:=Zp a;have:=Zp d;exact⟨by omega,by omega,by omega,by omega⟩
theorem aLP{P:Bool->Prop}{b:Bool}(h:P b): aB (λ_ _=>cnd b (some true)<|some false) P:=by cases b<;>exact aA h
theorem aD1(x:Aaa): aB (λn _=>zO n x) λr=>r=false->Ly x:=
 aW (λ_=>rfl)<|aE (VL x) λr a=>aLP a
theorem VO(l:List Aab)(f:l.length<=300)(i:Nat)(c:wC l i λx=>Ly x.At): aB (λn m=>mV tX n m (l,ln l) (i:Int)) (Su (λ_=>True) λ_=>∀x∈l,Ly x.At):=
 bF<|aY (λx e d=>aE (Q:=λr=>r=false->Ly x.At) (aT<|aE (VL x.At) λr b=>aLP b) λr b=>aC (λ_=>aA trivial) λh=>by
  rw[cD<|by omega];exact VO l f (i+1)<|c.step e<|b h)
  (λa=>aA<|c.fin a)
termination_by l.length-i
theorem VM(l:List Aaa)(f:l.length<=300)(i:Nat)(b:wC l i Ly): aB (λn m=>mV tV n m (l,ln l) (i:Int)) (Su (λv=>0<=v) λ_=>∀x∈l,Ly x):=
 bF<|aY (λx e c=>aE (aD1 x) λr d=>aC (λ_=>aA<|by show (0:Int)<=(i:Int);omega) λh=>by
  rw[cD<|by omega];exact VM l f (i+1)<|b.step e<|d h)
  (λa=>aA<|b.fin a)
termination_by l.length-i
theorem VN(l:List aP)(j:l.length<=300)(b:∀a∈l,a.Via.length<=300)(i:Nat)(e:wC l i λa=>∀y∈a.Via,Ly y): aB (λn m=>mV tW n m (l,ln l) (i:Int)) (Su (λ_=>True) λ_=>∀a∈l,∀y∈a.Via,Ly y):=
 bF<|aY (λx d f=>aE (Q:=λr=>r=false->∀y∈x.Via,Ly y) (aT<|aE (Q:=λv=>0<=v\/∀y∈x.Via,Ly y) (aT<|aR (bB<|VM x.Via (b x<|Zg d) 0 .nil) (λv b=>aA<|.inl b) λ_ h=>aA<|.inr h)
  λv b=>aC (λ_=>aA<|by simp) λh=>aA λ_=>by have:=Zp h;rcases b with b | b;omega;exact b) λr g=>aC (λ_=>aA trivial) λh=>by
  rw[cD<|by omega];exact VN l j b (i+1)<|e.step d<|g h)
  (λc=>aA<|e.fin c)
termination_by l.length-i
theorem aKi(p:aM)(b:Sm p): aB (λn _=>Ph n p) λr=>r=true->(∀x∈p.Nodes,Ly x.At)/\∀a∈p.Arcs,∀y∈a.Via,Ly y:=
 aW (λ_=>rfl)<|aR (bB<|VO _ b.n 0 .nil) (λ_ _=>aA<|by simp) λ_ d=>aR (bB<|VN _ b.a b.v 0 .nil) (λ_ _=>aA<|by simp) λ_ c=>aA λ_=>⟨d,c⟩
theorem Q4(l:List Int)(x:Int)(g:l.length<=100000)(i:Nat)(d:wC l i (·≠x)): aB (λn m=>mV jW n m (l,x,ln l) (i:Int))<|Su (λv=>0<=v/\v.toNat<l.length/\x∈l) λ_=>x∉l:=
 bF<|aY (λy f b=>aC (λh=>aA<|by
  refine⟨by omega,by simpa using b,?_⟩;rw[Wi h];exact Zg f) λh=>by
  rw[cD<|by omega];exact Q4 l x g (i+1)<|d.step f λe=>by subst e;simp at h)
  (λc=>aA λh=>d.fin c x h rfl)
termination_by l.length-i
theorem aHS(l:List Int)(x:Int)(b:l.length<=100000): aB (λn _=>mR n l x) λr=>(0<=r/\r.toNat<l.length/\x∈l)\/(r=-1/\x∉l):=
 aW (λ_=>rfl)<|aR (bB<|Q4 l x b 0 .nil) (λv a=>aA<|.inl a) λ_ h=>aA<|.inr ⟨rfl,h⟩
theorem Ma(l:List Int)(x:Int)(b:l.length<=100000): aB (λn _=>dU n l x) λr=>r=decide (x∈l):=
 aW (λ_=>rfl)<|aE (aHS l x b) λr a=>aC (λh=>aA (by
  rcases a with a | a
  .simp[a.2.2]
  .have:=Zl h;omega)) λh=>aA (by
  rcases a with a | a
  .have:=Zp h;omega
  .simp[a.2])
theorem aLC{α:Type}{l:List α}{a b:Nat}(d:a<=b)(c:b<=l.length): cut l (a:Int) (b:Int)=some ((l.take b).drop a):=by
 unfold cut;rw[Zu<|by omega];simp
theorem aAT(x:Aab)(l:List Aab)(b:l.length<=300)(i:Nat): aB (λn m=>mV nP n m (x,l,ln l) (i:Int))<|Su (λ_=>True) λ_=>True:=
 bF<|aY (λy c a=>aC (λ_=>aA trivial) λ_=>by
  rw[cD<|by omega];exact aAT x l b<|i+1) λ_=>aA trivial
termination_by l.length-i
theorem aAU(p:aM)(b:Sm p)(i:Nat): aB (λn m=>mV nQ n m (p,p.Nodes,ln p.Nodes) (i:Int))<|Su (λ_=>True) λ_=>True:=
 bF<|aY (λy d c=>aI (aLC (a:=0) (ZG i)<|by omega)<|aR (bB<|aAT y _ (by simp;have:=b.n;omega) 0) (λ_ _=>aA trivial) λ_ _=>by
  have:=b.n;rw[cD<|by omega];exact aAU p b<|i+1) λ_=>aA trivial
termination_by p.Nodes.length-i
theorem aIL(x:aP)(a:List Int)(d:a.length<=100000): aB (λn _=>Dr n (x,a)) λr=>r=false->x.From∈a/\x.To∈a:=
 aE (Ma a x.From d) λr b=>aC (λe=>aE (Ma a x.To d) λs c=>aC (λf=>aA λ_=>by rw[e] at b;rw[f] at c;exact⟨Zl b.symm,Zl c.symm⟩) λ_=>aA<|by simp) λ_=>aA<|by simp
theorem aAS(a:List Int)(c:a.length<=100000)(l:List aP)(g:l.length<=300)(i:Nat)(d:wC l i λx=>x.From∈a/\x.To∈a): aB (λn m=>mV nN n m (a,l,ln l) (i:Int)) (Su (λ_=>True) λ_=>∀x∈l,x.From∈a/\x.To∈a):=
 bF<|aY (λy f e=>aE (aIL y a c) λr j=>aC (λ_=>aA trivial) λh=>by
  rw[cD<|by omega];exact aAS a c l g (i+1)<|d.step f<|j h) λb=>aA<|d.fin b
termination_by l.length-i
theorem aAQ(p:aM)(b:Sm p)(x:Int): aB (λn _=>qN n (p,x)) λr=>r=false->x=0\/x∈p.Faces:=
 aC (λh=>aE (Ma p.Faces x<|by have:=b.f;omega) λr a=>aC (λh=>aA λ_=>by rw[h] at a;exact .inr<|Zl a.symm) λ_=>aA<|by simp) λh=>aA λ_=>.inl<|by simpa using h
theorem OJ{α:Type}{P:α->Prop}{k:Nat}{g:Nat->Nat->Unit->Option α}(h:aB (λn m=>g n m ()) P): aB (λn m=>Av.bnd (Nq<|Nat.ble k n)<|g n m) P:=by
 let⟨r,a,K,b⟩:=h;refine⟨r,a,K+k,λn m c d=>?_⟩;have:Nq (Nat.ble k n)=some ():=by rw[Yx (by omega:k<=n)];rfl
 show Av.bnd (Nq<|Nat.ble k n) (g n m)=some r;rw[this];exact b n m (by omega)<|by omega
theorem aAR(p:aM)(c:Sm p)(l:List aP)(f:l.length<=300)(i:Nat)(d:wC l i λx=>(x.Left=0\/x.Left∈p.Faces)/\(x.Right=0\/x.Right∈p.Faces)): aB (λn m=>mV nM n m (p,l,ln l) (i:Int)) (Su (λ_=>True) λ_=>∀x∈l,(x.Left=0\/x.Left∈p.Faces)/\(x.Right=0\/x.Right∈p.Faces)):=
 bF<|aY (λy k e=>OJ<|aE (aAQ p c y.Left) λr j=>aC (λ_=>aA trivial) λh=>aE (aAQ p c y.Right) λs b=>aC (λ_=>aA trivial) λg=>by
  rw[cD<|by omega];exact aAR p c l f (i+1)<|d.step k ⟨j h,b g⟩) λa=>aA<|d.fin a
termination_by l.length-i
theorem aRl(p:aM)(c:Sm p)(b:List Int)(d:b.length<=100000): aB (λn _=>zR n p b) λr=>r=0->(∀x∈p.Arcs,x.From∈b/\x.To∈b)/\∀x∈p.Arcs,(x.Left=0\/x.Left∈p.Faces)/\(x.Right=0\/x.Right∈p.Faces):=
 aW (λ_=>rfl)<|aR (bB<|aAU p c 0) (λ_ _=>aA<|by simp) λ_ _=>aR (bB<|aAS b d _ c.a 0 .nil) (λ_ _=>aA<|by simp) λ_ e=>aR (bB<|aAR p c _ c.a 0 .nil) (λ_ _=>aA<|by simp) λ_ f=>aA λ_=>⟨e,f⟩
class TC{α:Type}(f:Nat->Option α): Prop where
 h:aB (λn _=>f n) λ_=>True
theorem bN{α β:Type}{P:α->Prop}{f:Nat->Option β}[t:TC f]{g:Nat->Nat->β->Option α}(k:∀r,aB (λn m=>g n m r) P): aB (λn m=>Av.bnd (f n)<|g n m) P:=aE t.h λr _=>k r
theorem eK{α:Type}{x:α}: aB (λ_ _=>some x) λ_=>True:=aA trivial
def aD9(x:Aaa): Prop:=-2097152<=x.X/\x.X<=2097152/\-2097152<=x.Y/\x.Y<=2097152
theorem aIz(x:Aaa): aB (λn _=>MG n x) λr=>r=true->¬aD9 x:=by
 refine aC (λh=>aA λ_ a=>?_) λe=>aC (λh=>aA λ_ a=>?_) λc=>aC (λh=>aA λ_ a=>?_) λd=>aC (λh=>aA λ_ a=>?_) λb=>aA (by simp);all_goals (have:=Zl h;unfold aD9 at a;omega)
theorem aA5(l:List Aaa)(e:l.length<=1000)(i:Nat): aB (λn m=>mV Ai n m (l,ln l) (i:Int))<|Su (λ_=>¬∀x∈l,aD9 x) λ_=>True:=
 bF<|aY (λy d a=>aE (aIz y) λr c=>aC (λh=>aA λb=>c h<|b y<|Zg d) λh=>by
  rw[cD<|by omega];exact aA5 l e<|i+1)
  (λf=>aA trivial)
termination_by l.length-i
theorem aF5(l:List Aaa)(b:l.length<=1000): aB (λn _=>pQ n l) λr=>(∀x∈l,aD9 x)->r=true:=
 aW (λ_=>rfl)<|aR (bB<|aA5 l b 0) (λ_ h=>aA λa=>absurd a h) λ_ _=>aA λ_=>rfl
instance aV0{a b c:Aaa}: TC (λn=>pQ n [a,b,c]):=⟨(aF5 _ (by simp)).imp λ_ _=>trivial⟩
instance aVz{a b c d:Aaa}: TC (λn=>pQ n [a,b,c,d]):=⟨(aF5 _ (by simp)).imp λ_ _=>trivial⟩
def twV(a b c:Aaa): Int:=wr<|(wr<|(wr<|b.X-a.X)*(wr<|c.Y-a.Y))-(wr<|(wr<|b.Y-a.Y)*(wr<|c.X-a.X))
theorem aGu(a b c:Aaa): aB (λn _=>gS n a b c) λr=>r=twV a b c:=aW (λ_=>rfl)<|aA rfl
instance aUA{a b c:Aaa}: TC (λn=>gS n a b c):=⟨(aGu a b c).imp λ_ _=>trivial⟩
section
variable {a b c d:Aaa}
instance aYn: TC (λn=>J5 n (a,b,c)):=⟨by repeat' first | exact aA trivial | refine aC (λ_=>?_) (λ_=>?_) | refine bN λ_=>?_⟩
instance aYm: TC (λn=>J4 n (a,b,c)):=⟨by repeat' first | exact aA trivial | refine aC (λ_=>?_) (λ_=>?_) | refine bN λ_=>?_⟩
instance aYl: TC (λn=>uW n a b c):=⟨aW (λ_=>rfl) (by repeat' first | exact aA trivial | refine aC (λ_=>?_) (λ_=>?_) | refine bN λ_=>?_)⟩
instance aUL: TC (λn=>FV n a b c):=⟨aW (λ_=>rfl) (by repeat' first | exact aA trivial | refine aC (λ_=>?_) (λ_=>?_) | refine bN λ_=>?_)⟩
instance aVS: TC (λn=>jT n a b c):=⟨aW (λ_=>rfl) (by repeat' first | exact aA trivial | refine aC (λ_=>?_) (λ_=>?_) | refine bN λ_=>?_)⟩
instance aWI: TC (λn=>Qb n (a,b)):=⟨by repeat' first | exact aA trivial | refine aC (λ_=>?_) (λ_=>?_) | refine bN λ_=>?_⟩
instance aTV: TC (λn=>pR n a b):=⟨aW (λ_=>rfl) (by repeat' first | exact aA trivial | refine aC (λ_=>?_) (λ_=>?_) | refine bN λ_=>?_)⟩
instance aX0: TC (λn=>Ah n (a,b)):=⟨by repeat' first | exact aA trivial | refine aC (λ_=>?_) (λ_=>?_) | refine bN λ_=>?_⟩
instance aXz: TC (λn=>Py n (a,b)):=⟨by repeat' first | exact aA trivial | refine aC (λ_=>?_) (λ_=>?_) | refine bN λ_=>?_⟩
instance aXy: TC (λn=>Px n (a,b)):=⟨by repeat' first | exact aA trivial | refine aC (λ_=>?_) (λ_=>?_) | refine bN λ_=>?_⟩
instance aSz: TC (λn=>Pz n a b c d):=⟨aW (λ_=>rfl) (by repeat' first | exact aA trivial | refine aC (λ_=>?_) (λ_=>?_) | refine bN λ_=>?_)⟩
instance aXL: TC (λn=>MK n (a,b,c,d)):=⟨by repeat' first | exact aA trivial | refine aC (λ_=>?_) (λ_=>?_) | refine bN λ_=>?_⟩
instance aXK: TC (λn=>MJ n (a,b,c,d)):=⟨by repeat' first | exact aA trivial | refine aC (λ_=>?_) (λ_=>?_) | refine bN λ_=>?_⟩
instance aVX: TC (λn=>AB n a b c d):=⟨aW (λ_=>rfl) (by repeat' first | exact aA trivial | refine aC (λ_=>?_) (λ_=>?_) | refine bN λ_=>?_)⟩
instance aUI{s:aZ}: TC (λn=>jD n s):=⟨aW (λ_=>rfl) (by repeat' first | exact aA trivial | refine aC (λ_=>?_) (λ_=>?_))⟩
instance aV6{s:aZ}: TC (λn=>gJ n s):=⟨aW (λ_=>rfl) (by repeat' first | exact aA trivial | refine aC (λ_=>?_) (λ_=>?_))⟩
instance aYh{s t:aZ}: TC (λn=>oV n (s,t)):=⟨by repeat' first | exact aA trivial | refine aC (λ_=>?_) (λ_=>?_) | refine bN λ_=>?_⟩
instance aYg{s t:aZ}: TC (λn=>oU n (s,t)):=⟨by repeat' first | exact aA trivial | refine aC (λ_=>?_) (λ_=>?_) | refine bN λ_=>?_⟩
instance aYf{t:aZ}{x y z:Int}: TC (λn=>fY n (t,a,b,c,d,x,y,z)):=⟨by repeat' first | exact aA trivial | refine aC (λ_=>?_) (λ_=>?_) | refine bN λ_=>?_⟩
end
theorem aCm{α:Type}{Q:Nat->α->Prop}: ∀(l:List α),(∀x∈l,∃K,∀n,K<=n->Q n x)->∃K,∀n,K<=n->∀x∈l,Q n x
 | [],_=>⟨0,λ_ _ _ h=>by cases h⟩
 | a::l,h=>by
  let⟨K,d⟩:=h a<|ZM ..;let⟨J,c⟩:=aCm l λx b=>h x<|ZQ _ b;refine⟨max K J,λn f x b=>?_⟩;rcases ZN.1 b with rfl | b
  .exact d n<|by omega
  .exact c n (by omega) x b
theorem P0{α β:Type}{f:α->Option β}{g:α->β}: ∀(l:List α),(∀x∈l,f x=some (g x))->DV (l.map f)=some (l.map g)
 | [],_=>rfl
 | a::l,h=>by
  simp only[ZE,DV,h a<|ZM ..,P0 l λx b=>h x<|ZQ _ b]
structure Swo{α:Type}(g:α->α->Int)(l:List α): Prop where
 ir:∀x∈l,¬g x x<0
 tr:∀x∈l,∀y∈l,∀z∈l,g x y<0->g y z<0->g x z<0
 ti:∀x∈l,∀y∈l,∀z∈l,¬g x y<0->¬g y z<0->¬g x z<0
theorem aO4{α:Type}{g:α->α->Int}{l:List α}{i j:Nat}{x y:α}(b:l[i]?=some x)(a:l[j]?=some y): at2 (l.map λx=>l.map<|g x) i j=g x y:=by
 simp[at2,Zk,b,a]
theorem Swo.tab{α:Type}{g:α->α->Int}{l:List α}(h:Swo g l): R6 l.length (l.map λx=>l.map<|g x)=true:=by
 unfold R6;simp only[Yl,Ws,Zd,YG];have e:∀i j (b:i<l.length) (c:j<l.length),ltT (l.map λx=>l.map<|g x) i j=decide (g l[i] l[j]<0):=λi j b c=>by
  unfold ltT;rw[aO4 (Zb b)<|Zb c]
 intro i b;refine⟨by rw[e i i b b];exact YI<|h.ir _<|ZP b,λj c k m=>?_⟩;rw[e i j b c,e j k c m,e i k b m];have n:=ZP b;have o:=ZP c;have mk:=ZP m;have q:=h.tr _ n _ o _ mk;have p:=h.ti _ n _ o _ mk;by_cases f:g l[i] l[j]<0
 .rw[Yj f];show (!decide (g l[j] l[k]<0)||decide (g l[i] l[k]<0))=true;by_cases d:g l[j] l[k]<0
  .rw[Yj<|q f d];simp
  .rw[YI d];rfl
 .rw[YI f];show (decide (g l[j] l[k]<0)||!decide (g l[i] l[k]<0))=true;by_cases d:g l[j] l[k]<0
  .rw[Yj d];rfl
  .rw[YI<|p f d];simp
theorem aBr{α:Type}{F:Nat->α->α->Option Int}{g:α->α->Int}{l:List α}(q:∀x∈l,∀y∈l,aB (λn _=>F n x y) λr=>r=g x y)(o:Swo g l): aB (λn _=>qB (λx y=>F n x y) l) λr=>r.length=l.length/\∀x∈r,x∈l:=by
 let⟨K,e⟩:=aCm (Q:=λn x=>∀y∈l,F n x y=some (g x y)) l λx b=>aCm (Q:=λn y=>F n x y=some (g x y)) l λy h=>by
  obtain⟨r,rfl,K,e⟩:=q x b y h;exact⟨K,λn c=>e n n c c⟩
 cases l with
 | nil=>exact⟨[],⟨rfl,λx b=>b⟩,0,λ_ _ _ _=>rfl⟩
 | cons a l=>
  have k:∀n,K<=n->KJ (λx y=>F n x y) (a::l)=some ((a::l).map λx=>(a::l).map<|g x):=λn c=>
   P0 (f:=λx=>DV<|(a::l).map λy=>F n x y) (g:=λx=>(a::l).map<|g x) (a::l) λx b=>P0 (a::l) λy h=>e n c x b y h
  have j:=o.tab;refine⟨(ixG l.length<|(a::l).map λx=>(a::l).map<|g x).map<|Hf a (a::l),⟨?_,?_⟩,K,λn m c s=>?_⟩
  .rw[ZO,aBS<|by simpa using j];rfl
  .intro x b;obtain⟨i,p,rfl⟩:=Yh.1 b;have:=aFA p;unfold Hf;rw[Zb<|by simpa using this];exact ZP _
  .have d:R6 (l.length+1) ((a::l).map λx=>(a::l).map<|g x)=true:=by simpa using j
   simp only[qB,k n c,d]
def NY(a b:Int): Int:=if a<b then -1 else if a > b then 1 else 0
theorem iX(a b:Int): aB (λn _=>cE n a b) λr=>r=NY a b:=by
 have d:∀a:Int,aB (λn _=>fS n a) λr=>r=false:=λa=>aW (λ_=>rfl)<|aC (λh=>by simp at h) λ_=>aA rfl;refine aW (λ_=>rfl)<|aE (d a) λr c=>aC (λh=>by rw[c] at h;cases h) λ_=>aE (d b) λr c=>aC (λh=>by rw[c] at h;cases h) λ_=>aC (λh=>aA ?_) λe=>aC (λh=>aA ?_) λf=>aA ?_
 .unfold NY;rw[Zu<|Zl h]
 .unfold NY;rw[ZF<|Zp e,Zu<|Zl h]
 .unfold NY;rw[ZF<|Zp e,ZF<|Zp f]
theorem N4{a b:Int}: NY a b<0↔a<b:=by unfold NY;split<;>(try split)<;>omega
theorem aJ1{α:Type}(k:α->Int)(l:List α): Swo (λx y=>NY (k x)<|k y) l where
 ir x _:=by rw[N4];omega
 tr x _ y _ z _:=by simp only[N4];omega
 ti x _ y _ z _:=by simp only[N4];omega
theorem Lr{α:Type}{l:List α}{x:α}(h:l.length<=900000): app l [x]=some (l++[x]):=O7<|by simp;omega
theorem aFD{α:Type}{l:List α}{i:Nat}{x:α}{q:α->Bool}(a:l[i]?=some x)(h:q x=true): (l.drop i).find? q=some x:=by
 obtain⟨b,rfl⟩:=Ze.1 a;rw[XH b,List.find?_cons,h]
theorem aFE{α:Type}{l:List α}{i:Nat}{x:α}{q:α->Bool}(a:l[i]?=some x)(h:q x=false): (l.drop i).find? q=(l.drop<|i+1).find? q:=by
 obtain⟨b,rfl⟩:=Ze.1 a;rw[XH b,List.find?_cons,h]
theorem aFF{α:Type}{l:List α}{i:Nat}{q:α->Bool}(h:l.length<=i): (l.drop i).find? q=none:=by
 rw[Xo h];rfl
def kB(p:aM)(id:Int): Aab×Bool:=match p.Nodes.find? λx=>x.ID==id with
 | some x=>(x,true)
 | none=>(⟨0,⟨0,0⟩⟩,false)
def KB(p:aM)(id:Int): aP×Bool:=match p.Arcs.find? λx=>x.ID==id with
 | some x=>(x,true)
 | none=>(⟨0,0,0,[],0,0⟩,false)
theorem aBg(l:List Aab)(d:l.length<=300)(id:Int)(i:Nat): aB (λn m=>mV zS n m (id,l,ln l) (i:Int))<|Su (λv=>∃x,(l.drop i).find? (λx=>x.ID==id)=some x/\v=(x,x)) λ_=>(l.drop i).find? (λx=>x.ID==id)=none:=
 bF<|aY (λx b c=>aC (λh=>aA ⟨x,aFD (q:=λx=>x.ID==id) b h,rfl⟩) λh=>by
  rw[cD<|by omega,aFE (q:=λx=>x.ID==id) b h];exact aBg l d id<|i+1)
  (λa=>aA<|aFF a)
termination_by l.length-i
theorem KF(p:aM)(c:Sm p)(id:Int): aB (λn _=>iF n p id) λr=>r=kB p id:=
 aW (λ_=>rfl)<|aR (bB<|aBg _ c.n id 0) (λv b=>aA<|by
  obtain⟨x,a,rfl⟩:=b;rw[YD] at a;unfold kB;rw[a]) λ_ h=>aA<|by
  rw[YD] at h;unfold kB;rw[h]
theorem aLN{α:Type}(l:List α)(h:l.length<=1000000): aB (λn _=>clF n l) λr=>r=l:=
 aW (g:=λ_=>app [] l) (λ_=>rfl) ⟨l,rfl,0,λ_ _ _ _=>by rw[O7<|by simpa using h];rfl⟩
theorem aEP(l:List aP)(g:l.length<=300)(d:∀a∈l,a.Via.length<=300)(id:Int)(i:Nat): aB (λn m=>mV Gb n m (id,l,ln l) (i:Int))<|Su (λv=>∃x,(l.drop i).find? (λx=>x.ID==id)=some x/\v=(x.ID,x.From,x.To,x.Via,x.Left,x.Right,x.ID,x.From,x.To,x.Via,x.Left,x.Right)) λ_=>(l.drop i).find? (λx=>x.ID==id)=none:=
 bF<|aY (λx c e=>aC (λh=>aE (aLN x.Via<|by have:=d x<|Zg c;omega) λr f=>aA ⟨x,aFD (q:=λx=>x.ID==id) c h,by rw[f]⟩) λh=>by
  rw[cD<|by omega,aFE (q:=λx=>x.ID==id) c h];exact aEP l g d id<|i+1)
  (λb=>aA<|aFF b)
termination_by l.length-i
theorem aEO(p:aM)(c:Sm p)(id:Int): aB (λn _=>zU n p id) λr=>r=KB p id:=
 aW (λ_=>rfl)<|aR (bB<|aEP _ c.a c.v id 0) (λv d=>aA<|by
  obtain⟨x,b,rfl⟩:=d;rw[YD] at b;unfold KB;rw[b]) λ_ h=>aA<|by
  rw[YD] at h;unfold KB;rw[h]
theorem aAM{α:Type}{a:List<|List α}{i:Nat}{x:List α}(b:a[i]?=some x): (a.drop i).flatten=x++(a.drop<|i+1).flatten:=by
 obtain⟨c,rfl⟩:=Ze.1 b;rw[XH c,Yt]
theorem aHZ{α:Type}{a:List<|List α}{i:Nat}{x:List α}(b:a[i]?=some x): (a.take<|i+1).flatten=(a.take i).flatten++x:=by
 rw[YX,b];simp
theorem aHK(c:List<|List Aaa)(g:c.length<=1000)(i a:Nat)(f:a+(c.drop i).flatten.length<=100000): aB (λn m=>Ob gO n m (c,ln c) ((a:Int),(i:Int))) λr=>r=((a+(c.drop i).flatten.length:Nat):Int):=
 eD<|aY (λx k o=>by
  have e:=aAM k;rw[e,Zh] at f;have l:wr ((a:Int)+ln x)=((a+x.length:Nat):Int):=by rw[wr,ln,i64_in _<|by omega];push_cast;rfl
  rw[l,cD<|by omega];refine aC (λh=>?_) λ_=>?_
  .have:=Zl h;omega
  .refine (aHK c g (i+1) (a+x.length)<|by omega).imp λr j=>?_;rw[j,e,Zh,Yu])
  (λd=>aA<|by rw[Xo d];rfl)
termination_by c.length-i
theorem aHJ(a:List<|List Aaa)(o:a.length<=1000)(N:Nat)(g:N<=100000)(i:Nat)(l:List Aaa)(k:Nat)(q:l.length=N)(d:l.take k=(a.take i).flatten)(j:k=(a.take i).flatten.length)(h:k+(a.drop i).flatten.length=N): aB (λn m=>Ob gN n m (a,ln a) (l,(0,k),(i:Int))) λr=>win r.1 (some r.2)=a.flatten:=
 eD<|aY (λx f p=>by
  have e:=aAM f;rw[e,Zh] at h;rw[cD<|by omega];have c:=aHZ f;refine aI (x:=aV l k x) (by unfold V6;rw[Zu<|by simp only[Z0];omega,Z0])<|aHJ a o N g (i+1) _ (k+x.length) (by simp[aV];omega) ?_ (by rw[c,Zh,j]) (by omega);unfold aV;rw[c,<-d,<-Ye,Yg<|by simp;omega,ZW<|by simp;omega])
  (λb=>aA<|by
   show (l.drop 0).take k=a.flatten;rw[YD,d,ZW b])
termination_by a.length-i
theorem aMm(a:List<|List Aaa)(c:a.length<=1000)(g:0<a.flatten.length)(d:a.flatten.length<=100000): aB (λn _=>nH n a) λr=>r=a.flatten:=by
 refine aW (λ_=>rfl)<|aE (bB<|aHK a c 0 0<|by simpa using d) λv e=>?_;have f:v=((a.flatten.length:Nat):Int):=by rw[e];simp
 have e2:wr (v-0)=((a.flatten.length:Nat):Int):=by rw[f,wr,i64_in _<|by omega];omega
 refine aR (Q:=λ_=>False) (R:=λr=>r=(List.replicate a.flatten.length ⟨0,0⟩,(0,0))) (aT<|aC (λh=>by have:=Zl h;omega) λ_=>aC (λ_=>?_) λh=>by rw[e2] at h;have:=Zp h;omega) (λ_ h=>h.elim) λr b=>?_
 .refine aI (x:=List.replicate a.flatten.length ⟨0,0⟩) (by rw[e2];unfold rep;rw[Zu<|by omega];simp)<|aC (λh=>?_) λ_=>aI (x:=(0,0)) (by unfold sub;rw[Zu<|by simp];rfl)<|aA rfl;rw[Vd] at h;have:=congrArg List.length h;rw[Yo,Z1] at this;omega
 .subst b;exact aI rfl<|aE (bB<|aHJ a c a.flatten.length d 0 _ 0 (by simp) (by simp) (by simp)<|by simp) λr b=>aA b
def dW(p:aM)(id:Int): List Aaa×Int:=match (KB p id).2&&(kB p (KB p id).1.From).2&&(kB p (KB p id).1.To).2 with
 | true=>([(kB p (KB p id).1.From).1.At]++(KB p id).1.Via++[(kB p (KB p id).1.To).1.At],0)
 | false=>([],7)
theorem aE8(p:aM)(a:Sm p)(id:Int): (KB p id).1.Via.length<=300:=by
 unfold KB;split
 .rename_i x h;exact a.v x<|Xf h
 .simp
theorem aCD(p:aM)(a:Sm p)(id:Int): aB (λn _=>yS n p id) λr=>r=dW p id:=by
 have k:=aE8 p a id;refine aW (λ_=>rfl)<|aE (aEO p a id) λl j=>?_;subst j;refine aC (λc=>aE (KF p a _) λg f=>?_) λc=>aE (KF p a _) λg f=>?_;all_goals subst f;all_goals refine aC (λb=>aE (KF p a _) λi e=>?_) λb=>aE (KF p a _) λi e=>?_;all_goals subst e;all_goals refine aC (λd=>aE (Q:=λ_=>True) (aA trivial) λ_ _=>?_) λd=>aE (Q:=λ_=>True) (aA trivial) λ_ _=>?_
 .refine aE (aMm _ (by simp) (by simp)<|by simp;omega) λr h=>aA ?_;unfold dW;rw[c,b,d,h];simp
 all_goals (refine aA ?_;unfold dW;rw[c,b,d];rfl)
theorem Kt(p:aM)(a:Sm p)(id:Int): (dW p id).1.length<=302:=by
 have b:=aE8 p a id;unfold dW;split
 .simp;omega
 .simp
theorem zW{p:aM}{id:Int}(h:(dW p id).2=0): 2<=(dW p id).1.length:=by
 unfold dW at h |-;split
 .simp
 .rename_i a;rw[a] at h;cases h
def aJd(l:List Aaa): Prop:=∀(j:Nat) (x y:Aaa),l[j]?=some x->l[j+1]?=some y->x≠y
structure yC(s:aZ): Prop where
 h0:0<=s.at_
 h1:s.at_.toNat+1<s.line.path.length
 h2:s.line.path.length<=302
theorem aJL(x:aP)(l:List Aaa)(v:Int): aB (λn _=>Hh n (x,l,v)) λr=>r=false->v=0:=by
 refine aC (λ_=>aA<|by simp) λh=>aC (λ_=>aC (λ_=>aA<|by simp) λ_=>aA λ_=>?_) λ_=>aA λ_=>?_;all_goals simpa using h
theorem aDg(v:List Aaa)(g:aBh)(p:g.path=v)(C:2<=v.length)(t:v.length<=302)(i:Nat)(l:List aZ)(B:Nat)(A:l.length<=B+i/\B<=100000)(F:i+1<=v.length)(u:∀s∈l,yC s)(q:∀(j:Nat) (x y:Aaa),j<i->v[j]?=some x->v[j+1]?=some y->x≠y):
 aB (λn m=>mV oR n m (v,g,wr<|ln v-1) (l,(i:Int)))<|Su (λ_=>True) λr=>r.length<=B+302/\(∀s∈r,yC s)/\aJd v:=by
 have z:wr (ln v-1)=((v.length-1:Nat):Int):=by rw[wr,ln,i64_in _<|by omega];omega
 refine bF<|aC (λh=>?_) λh=>aA ⟨by omega,u,λj x y E w=>q j x y ?_ E w⟩
 .have D:i<v.length-1:=by rw[z] at h;have:=Zl h;omega
  rw[cD<|by omega];refine aI (x:=v[i]) (by rw[bL];exact Zb<|by omega)<|aI (x:=v[i+1]) (by rw[bL];exact Zb<|by omega)<|aC (λ_=>aA trivial) λf=>aI (Lr<|by omega) ?_;refine aDg v g p C t (i+1) _ B ⟨by simp;omega,A.2⟩ (by omega) ?_ ?_
  .intro s o;rcases ZD.1 o with h | h
   .exact u s h
   .rw[ZJ.1 h];exact⟨by show (0:Int)<=(i:Int);omega,by show (i:Int).toNat+1<g.path.length;rw[p];omega,by show g.path.length<=302;rw[p];exact t⟩
  .intro j a b G e d;by_cases k:j=i
   .subst k;rw[Zb<|by omega] at e d;cases e;cases d;exact Zp f
   .exact q j a b (by omega) e d
 .rw[z] at h;have:=Zp h;have:=(Ze.1 w).1;omega
termination_by v.length-i
theorem aDh(p:aM)(d:Sm p)(i:Nat)(u:i<=p.Arcs.length)(l:List aZ)(A:l.length<=302*i)(g:∀s∈l,yC s)(k:wC p.Arcs i λa=>(dW p a.ID).2=0/\aJd (dW p a.ID).1):
 aB (λn m=>lm3 oS n m (p,p.Arcs,ln p.Arcs) (l,(i:Int)))<|Su (λ_=>True) (Su (λ_=>True) λr=>r.length<=100000/\(∀s∈r,yC s)/\∀a∈p.Arcs,(dW p a.ID).2=0/\aJd (dW p a.ID).1):=by
 have z:=d.a;refine aMc<|aY (λx o q=>aE (aCD p d x.ID) λv c=>aE (aJL _ v.1 v.2) λr t=>aC (λ_=>aA trivial) λh=>?_) λf=>aA ⟨?_,g,k.fin f⟩
 .have b:=t h;rw[cD<|by omega];refine aR (bB<|aDg v.1 ⟨x,v.1⟩ rfl (by rw[c] at b |-;exact zW b) (by rw[c];exact Kt p d x.ID) 0 l (302*i) ⟨by omega,by omega⟩ (by rw[c] at b |-;have:=zW b;omega) g λj x y h=>by omega) (λ_ _=>aA trivial) λw e=>?_;exact aDh p d (i+1) (by omega) w (by have:=e.1;omega) e.2.1<|k.step o ⟨by rw[c] at b;exact b,by have:=e.2.2;rw[c] at this;exact this⟩
 .omega
termination_by p.Arcs.length-i
theorem aPU(p:aM)(c:Sm p): aB (λn _=>Fz n p) λr=>(r.2=true->r.1.length<=100000/\(∀s∈r.1,yC s)/\∀a∈p.Arcs,(dW p a.ID).2=0/\aJd (dW p a.ID).1):=
 aW (λ_=>rfl)<|aR (bB<|aDh p c 0 (by omega) [] (by simp) (by simp) wC.nil) (λ_ _=>aI rfl<|aA<|by simp) λw b=>aR (aA b) (λ_ _=>aI rfl<|aA<|by simp) λv d=>aI rfl<|aA λ_=>d
theorem Gd{α:Type}{l:List α}{i:Int}(a:0<=i)(h:i.toNat<l.length): idx l i=some l[i.toNat]:=by
 unfold idx;rw[Zu a];exact Zb h
def L5(s:aZ): Aaa×Aaa:=(s.line.path.getD s.at_.toNat ⟨0,0⟩,s.line.path.getD (s.at_.toNat+1) ⟨0,0⟩)
theorem L4(s:aZ)(a:yC s): aB (λn _=>dI n s) λr=>r=L5 s:=by
 have e:=a.h0;have c:=a.h1;have g:=a.h2;have b:wr (s.at_+1)=s.at_+1:=i64_in _ (by omega);have e2:(s.at_+1).toNat=s.at_.toNat+1:=by omega
 have d:idx s.line.path s.at_=some (s.line.path.getD s.at_.toNat ⟨0,0⟩):=by rw[Gd e<|by omega,YS,Zb<|by omega];rfl
 have f:idx s.line.path (wr<|s.at_+1)=some (s.line.path.getD (s.at_.toNat+1) ⟨0,0⟩):=by
  rw[b];unfold idx;rw[Zu<|by omega,e2,YS,Zb c];rfl
 exact aW (λ_=>rfl)<|aI d<|aI f<|aA rfl
theorem aET(s:aZ)(b:yC s): aB (λn _=>gI n s) λr=>r=Gc (L5 s).1.X (L5 s).2.X:=
 aW (λ_=>rfl)<|aE (L4 s b) λr a=>aA<|by rw[a]
theorem aRc(s:aZ)(a:yC s): Tt λn _=>qK n s:=
 aW (λ_=>rfl)<|aE (L4 s a) λr b=>aA trivial
theorem aSX(s t:aZ)(f:yC s)(c:yC t): aB (λn _=>qL n s t) λr=>r=NY (Gc (L5 s).1.X (L5 s).2.X) (Gc (L5 t).1.X (L5 t).2.X):=
 aW (λ_=>rfl)<|aE (aET s f) λa e=>aE (aET t c) λb d=>aE (iX a b) λr g=>aA<|by rw[g,e,d]
theorem aBX{b:Bool}(h:b=true): Nq b=some ():=by subst h;rfl
theorem VK(l:List Aab)(b:l.length<=300)(i:Nat)(m:List<|Int×Aaa): Tt λn k=>Ob tU n k (l,ln l) (m,(i:Int)):=
 eD<|aY (λx d a=>by
  rw[cD<|by omega];exact VK l b (i+1) _)
  (λc=>aA trivial)
termination_by l.length-i
theorem aNf(m:List<|Int×Aaa)(x y:aZ)(b:yC x)(a:yC y): aB (λn _=>Pf n (m,x,y))<|Su (λ_=>True) λ_=>True:=by
 refine aT<|aE (L4 x b) λ_ _=>aE (L4 y a) λ_ _=>?_;repeat' first
  | exact aA trivial
  | refine aC (λ_=>?_) (λ_=>?_)
  | refine OJ ?_
  | refine bN λ_=>?_
theorem aB9(m:List<|Int×Aaa)(x:aZ)(l:List aZ)(b:yC x)(c:∀s∈l,yC s)(d:l.length<=100000)(i:Nat): aB (λn k=>mV tS n k (m,x,l,ln l) (i:Int))<|Su (λ_=>True) λ_=>True:=
 bF<|aY (λy f e=>by
  have a:=c y<|Zg f;rw[cD<|by omega];refine aE (aET y a) λ_ _=>aE (aRc x b) λ_ _=>aC (λ_=>aA trivial) λ_=>aR (aNf m x y b a) (λ_ _=>aC (λ_=>aB9 m x l b c d<|i+1) λ_=>aA trivial) λ_ _=>aB9 m x l b c d<|i+1)
  (λg=>aA trivial)
termination_by l.length-i
instance aXD{s:aZ}{x:Aab}{a b:Aaa}: TC (λn=>Pd n (s,x,a,b)):=⟨by repeat' first | exact aA trivial | refine aC (λ_=>?_) (λ_=>?_) | refine bN λ_=>?_⟩
theorem aGJ(x:aZ)(a:yC x)(l:List Aab)(c:l.length<=300)(i:Nat): aB (λn m=>mV tR n m (x,l,ln l) (i:Int))<|Su (λ_=>True) λ_=>True:=
 bF<|aY (λy e b=>by
  rw[cD<|by omega];exact aE (L4 x a) λ_ _=>bN λ_=>aC (λ_=>aA trivial) λ_=>aGJ x a l c<|i+1)
  (λd=>aA trivial)
termination_by l.length-i
theorem aGK(p:aM)(e:Sm p)(m:List<|Int×Aaa)(l:List aZ)(d:∀s∈l,yC s)(j:l.length<=100000)(i:Nat): aB (λn k=>lm3 tT n k (p,m,l,l,ln l) (i:Int))<|Su (λ_=>True)<|Su (λ_=>True) λ_=>True:=
 aMc<|aY (λy g f=>by
  have c:=d y<|Zg g;rw[cD<|by omega];refine aI (aLC (a:=i+1) (b:=l.length) (by omega)<|Zf _)<|aR (bB<|aB9 m y _ c (λs h=>d s<|Z7<|ZZ h) (by simp;omega) 0) (λ_ _=>aR (bB<|aGJ y c _ e.n 0) (λ_ _=>aA trivial) λ_ _=>aGK p e m l d j<|i+1) λ_ _=>aA trivial)
  (λo=>aA trivial)
termination_by l.length-i
theorem aKh(p:aM)(c:Sm p): aB (λn _=>Pg n p) λr=>r=true->∀a∈p.Arcs,(dW p a.ID).2=0/\aJd (dW p a.ID).1:=by
 refine aW (λ_=>rfl)<|aE (aPU p c) λv b=>aC (λh=>aE (bB<|VK _ c.n 0 []) λw _=>aT ?_) λ_=>aA (by simp);have b:=b h;refine aI (aBX<|Yj<|by have:=b.1;omega)<|aE (aBr (F:=λn x y=>bnd (qL n x y) λh=>some h) (λx i y g=>aE (aSX x y (b.2.1 x i)<|b.2.1 y g) λ_ h=>aA h)<|aJ1 _ _) λl d=>?_;refine aR (aMb (f:=λn=>Pe n (p,w,l,l,ln l) 0)<|bB<|aGK p c w l (λs j=>b.2.1 s<|d.2 s j) (by rw[d.1];exact b.1) 0) (λ_ _=>aA<|by simp) λw e=>aR (aA e) (λ_ _=>aA<|by simp) λ_ _=>aA λ_=>b.2.2
theorem aHI(l:List aP)(e:l.length<=300)(i:Nat)(c:wC l i λa=>a.Via.length<=64): aB (λn m=>mV wI n m (l,ln l) (i:Int)) (Su (λ_=>True) λ_=>∀a∈l,a.Via.length<=64):=
 bF<|aY (λy f d=>by
  rw[cD<|by omega];exact aC (λ_=>aA trivial) λh=>aHI l e (i+1)<|c.step f<|by have:¬ln y.Via > 64:=Zp h;unfold ln at this;omega)
  (λb=>aA<|c.fin b)
termination_by l.length-i
structure tH(p:aM): Prop where
 leN:p.Nodes.length<=256
 leA:p.Arcs.length<=256
 leF:p.Faces.length<=64
 leV:∀a∈p.Arcs,a.Via.length<=64
 asN:Asc (p.Nodes.map Aab.ID)
 asA:Asc (p.Arcs.map aP.ID)
 asF:Asc p.Faces
 nuA:∀a∈p.Arcs,1<=a.ID/\a.ID<=1073741824
 nuN:∀x∈p.Nodes,1<=x.ID/\x.ID<=1073741824
 nuF:∀x∈p.Faces,1<=x/\x<=1073741824
 ptN:∀x∈p.Nodes,Ly x.At
 ptA:∀a∈p.Arcs,∀y∈a.Via,Ly y
 con:∀a∈p.Arcs,a.From∈p.Nodes.map Aab.ID/\a.To∈p.Nodes.map Aab.ID
 sid:∀a∈p.Arcs,(a.Left=0\/a.Left∈p.Faces)/\(a.Right=0\/a.Right∈p.Faces)
 pth:∀a∈p.Arcs,(dW p a.ID).2=0/\aJd (dW p a.ID).1
theorem aOJ(p:aM)(c:Sm p): aB (λn _=>Kq n p) λr=>r=0->tH p:=by
 have T:=c.n;have m:=c.a;have S:=c.f;refine aW (λ_=>rfl)<|aE (Q:=λr=>r=false->p.Nodes.length<=256/\p.Arcs.length<=256/\p.Faces.length<=64) ?_ λU H=>aC (λ_=>aA<|by simp) λI=>aR (bB<|aHI _ c.a 0 .nil) (λ_ _=>aA<|by simp) λ_ e=>aI rfl<|aE (aTu p c) λv M=>?_
 .refine aC (λ_=>aA<|by simp) λq=>aC (λ_=>aA<|by simp) λt=>aC (λ_=>aA<|by simp) λs=>aA λ_=>?_;have q:¬ln p.Nodes > 256:=Zp q;have t:¬ln p.Arcs > 256:=Zp t;have s:¬ln p.Faces > 64:=Zp s;unfold ln at q t s;omega
 subst M;refine aE (Q:=λr=>r=false->Asc (p.Nodes.map Aab.ID)/\Asc (p.Arcs.map aP.ID)/\Asc p.Faces) ?_ λw j=>aC (λ_=>aA<|by simp) λk=>aE (Q:=λr=>r=false->(∀x∈p.Nodes.map Aab.ID,1<=x/\x<=1073741824)/\(∀x∈p.Arcs.map aP.ID,1<=x/\x<=1073741824)/\(∀x∈p.Faces,1<=x/\x<=1073741824)/\(∀x∈p.Nodes,Ly x.At)/\∀a∈p.Arcs,∀y∈a.Via,Ly y) ?_ λz g=>aC (λ_=>aA<|by simp) λi=>aE (aRl p c (p.Nodes.map Aab.ID)<|by simp;omega) λu d=>aC (λb=>aA λh=>?_) λb=>aE (aKh p c) λL l=>aC (λo=>aA λ_=>?_) λ_=>aA<|by simp
 .exact aE (aLR _<|by simp;omega) λw j=>aC (λk=>aE (aLR _<|by simp;omega) λz g=>aC (λi=>aE (aLR _<|by omega) λu d=>aC (λb=>aA λ_=>⟨j k,g i,d b⟩) λ_=>aA<|by simp) λ_=>aA<|by simp) λ_=>aA<|by simp
 .exact aE (aK5 _<|by simp;omega) λw j=>aC (λk=>aE (aK5 _<|by simp;omega) λz g=>aC (λi=>aE (aK5 _<|by omega) λu d=>aC (λb=>aE (aKi p c) λL l=>aC (λo=>aA λ_=>⟨j k,g i,d b,(l o).1,(l o).2⟩) λ_=>aA<|by simp) λ_=>aA<|by simp) λ_=>aA<|by simp) λ_=>aA<|by simp
 .rw[h] at b;simp at b
 .have A:u=0:=by simpa using b
  let⟨C,F,E,B,O⟩:=g i;let⟨N,D,J⟩:=j k;let⟨G,R,K⟩:=H I;exact⟨G,R,K,e,N,D,J,λa m=>F _<|WV m,λa m=>C _<|WV m,E,B,O,(d A).1,(d A).2,l o⟩
end Go.Proofs.YtmlgedgcbfchjaaGreatDoor.Av
