/- A part of the proof of a law. -/
import Derived.Test.YtmcgghedgfkjiaaGreatDoorP8
import Derived.Test.YtmcgghedgfkjiaaGreatDoorP0
import Derived.Test.YtmcgghedgfkjiaaGreatDoorP6
set_option maxRecDepth 100000
set_option maxHeartbeats 4000000
set_option linter.all false
namespace Go.Proofs.YtmcgghedgfkjiaaGreatDoor.Av
open Go
section
variable {R:Type}(n:Nat)
noncomputable section
abbrev dS:=J8::aXO
def LH: Lc 61 0 0:=bL 0x1111fd5364bd518051a35de1ee016dcfd5f6de9c7e2b74e77778c08cf277ff0db6a817509 dS [] [] @nM
def LG: Lc 61 0 1:=bL 0x4e8c99da0ab12737acdae3977cb25b3aad85409d5d40b3f030ef77f90f034 dS [] [] @nL
def Du: aK->(((List Int×List Aab×List aR×List aH×List Int)->Option R)×Unit)->Unit->Option R:=λa (b,_) _=>bnd (qL n a.Plan.Nodes) λc=>bnd (nC n a.Plan.Arcs) λd=>bnd (iA n a.Plan.Faces) λf=>bnd (kF n a.Features) λg=>bnd (BW n (f,c,g,(ln d)) (d,0)) λh=>bnd (BV n (f,c,h,(ln g)) (g,0)) λi=>b (f,c,h,i,f)
def Mu:=uM Du
def LL: Ic:=cJ 61 0 1 0x6676aebc8b780c08d61b825c121a45cf2beffda63ec3cffab5a1e8e dS [⟨0,[LH]⟩,⟨1,[LG]⟩] [] @Du
def Dr(n:Nat): Int->((Bool->Option R)×Unit)->Unit->Option R:=λa (b,_) _=>cnd (a==1) (b true)<|cnd (a==2) (b true)<|cnd (a==3) (b true)<|b false
def Ms:=fB Dr
def LF: Lc 63 0 0:=bO 0x24c322399416532889581f34255ac0a444457a1dc dS [] [] @Dr
def Dq: (List Int×List Aab×List aR×List aH×aZ)->((Bool->Option R)×Unit)->Unit->Option R:=λ(a,b,c,d,f) (g,_) _=>bnd (kS n (aM.mk b c a) f.ID) λh=>cd (h > 0) (g true)<|bnd (jN n (aK.mk (aM.mk b c a) d) 1 f.ID) λi=>cd ((ln i) > 0) (g true)<|g false
def Mr:=fB Dq
def LE: Lc 92 0 0:=bO 0x19dfeedd6e6572cbbe4e421b36dc06a14a656adfe2c4570dcd10e2986b dS [] [] @Dq
def Ds(n:Nat): (List Int×List Int×List Aab×List aR×List aH×Int×Int)->((Unit->Option R)×((List Aab×(Nat×Nat))->Option R)×Unit)->Unit->Option R:=λ(a,b,c,d,f,g,h) (i,j,_) _=>bnd (Nu<|decide<|0<=g/\g<=h/\h<=(ln c)/\(ln c)<=(ln c)) λ_=>cnd (g==h) (i ())<|bnd (sub c (0,List.length c) 0 g) λl=>bnd (sub c (0,List.length c) h<|ln c) λm=>bnd (SD c l<|win c<|some m) λo=>bnd (sub o (l.1,l.2+List.length (win c<|some m)) (((l.1,l.2+List.length (win c<|some m)).2:Nat):Int)<|ln c) λr=>bnd (clr o r<|Aab.mk 0<|Aaa.mk 0 0) λs=>j (s,(l.1,l.2+List.length (win c<|some m)))
def Mt:=DS Ds
def LJ: Ic:=cJ 115 0 3 0x858f0a6b3f355f28a422f048a3a62dd5ac8c319f5a2869f2039a dS [] [] @Ds
def Dt: (List Int×List Int×List Aab×List aR×List aH×aZ)->(((List Aab×Int)->Option R)×(((Nat×Nat)×List Aab)->Option R)×((List Aab×List Aab)->Option R)×Unit)->Unit->Option R:=λ(a,b,c,d,f,g) (h,i,j,_) _=>bnd (pB n (aK.mk (aM.mk c d a) f) g.ID) λl=>cnd l.2 (cnd (g.Kind==1) (h (c,8))<|cnd (g.Kind==3) (bnd (eM c (List.length c) l.1) λ_=>bnd (idx c l.1) λm=>h ((List.set c (Int.toNat l.1)<|Aab.mk m.ID g.At),0))<|bnd (Mr n (a,c,d,f,g)) λo=>cnd o (h (c,13))<|bnd2 (Mt n (a,b,c,d,f,l.1,(wr<|l.1+1))) (λ_=>h (c,0)) λr=>bnd (some r) λs=>i (s.2,s.1))<|cnd (g.Kind==1) (bnd (prd n) λ_=>bnd (VN c l.1<|Aab.mk g.ID g.At) λt=>j (t,[(Aab.mk g.ID g.At)]))<|h (c,7)
def vD:=in3 Dt
def LK: Ic:=cJ 92 0 2 0x22e88425212a3623f7f0fc82e2f4b3918077780cf1a06babb97259395dbb5eadcc8d2927103daf7c2937f11ac0a55 dS [⟨0,[LE]⟩] [LJ] @Dt
def fI: (List Int×List Aab×List aR×List aH×Int)->((Int->Option R)×Unit)->Unit->Option R:=λ(a,b,c,d,f) (g,_) _=>cnd (f==0) (bnd (fP n<|aK.mk (aM.mk b c a) d) λh=>g h)<|g f
def cK:=fB fI
def LD: Lc 63 0 2:=bO 0x40ddd6a2d67a dS [] [] @fI
def oL: (aK×aZ×List Int×List Aab×List aR×List aH×Int×Int)->((Bool->Option R)×Unit)->Unit->Option R:=λ(a,b,c,d,f,g,h,i) (j,_) _=>cnd (h==0) (cnd (b.Kind==3) (bnd (dH n a.Plan (aM.mk d f c) i) λl=>cnd l (j true)<|j false)<|cnd (b.Kind==6) (bnd (dH n a.Plan (aM.mk d f c) i) λm=>cnd m (j true)<|j false)<|j false)<|j false
def Ir:=fB oL
def GE: Lc 63 0 4:=bO 0x3031d794b683579 dS [] [] @oL
def qJ: (aK×aZ×List Int×List Aab×List aR×List aH×Int×Int)->((Int->Option R)×Unit)->Unit->Option R:=λ(a,b,c,d,f,g,h,i) (j,_) _=>bnd (Ir n (a,b,c,d,f,g,h,i)) λl=>cnd l (j 12)<|j h
def dY:=fB qJ
def LB: Lc 63 0 3:=bO 0x302ce757b28a876 dS [⟨0,[cs GE]⟩] [] @qJ
def Ah: ((Nat×Nat)×List Int×List Aab×List aR×List aH×Int)->((Int->Option R)×Unit)->Unit->Option R:=λ(a,b,c,d,f,g) (h,_) _=>cnd (g==0) (bnd (fP n<|aK.mk (aM.mk (win c<|some a) d b) f) λi=>h i)<|h g
def tF:=fB Ah
def GD: Lc 63 0 2:=bO 0x8940540e28d958e3925e14a2b82582d8 dS [] [] @Ah
def Af: (aK×aZ×(Nat×Nat)×List Int×List Aab×List aR×List aH×Int×Int)->((Bool->Option R)×Unit)->Unit->Option R:=λ(a,b,c,d,f,g,h,i,j) (l,_) _=>cnd (i==0) (cnd (b.Kind==3) (bnd (dH n a.Plan (aM.mk (win f<|some c) g d) j) λm=>cnd m (l true)<|l false)<|cnd (b.Kind==6) (bnd (dH n a.Plan (aM.mk (win f<|some c) g d) j) λo=>cnd o (l true)<|l false)<|l false)<|l false
def Ip:=fB Af
def GB: Lc 63 0 4:=bO 0x6e20fb75ec9dc209565e94ffb2051e9d54b dS [] [] @Af
def Ag: (aK×aZ×(Nat×Nat)×List Int×List Aab×List aR×List aH×Int×Int)->((Int->Option R)×Unit)->Unit->Option R:=λ(a,b,c,d,f,g,h,i,j) (l,_) _=>bnd (Ip n (a,b,c,d,f,g,h,i,j)) λm=>cnd m (l 12)<|l i
def tE:=fB Ag
def GC: Lc 63 0 3:=bO 0x4021a11770d55dcfb22e537af8cb320580b dS [⟨0,[cs GB]⟩] [] @Ag
def GA: Lc 63 0 2:=bO 0x140616e451064730472cd958 dS [] [] @fI
def FY: Lc 63 0 4:=bO 0x13f5babea78182f54bf113fa dS [] [] @oL
def FZ: Lc 63 0 3:=bO 0x13f3af3ab120f40ca04be75b dS [⟨0,[cs FY]⟩] [] @qJ
def Ae(n:Nat): Int->((Bool->Option R)×Unit)->Unit->Option R:=λa (b,_) _=>cnd (a==4) (b true)<|cnd (a==5) (b true)<|cnd (a==6) (b true)<|b false
def Io:=fB Ae
def FX: Lc 63 0 1:=bO 0x24c3223994165328895924f5e1f7beeb442aa0e04 dS [] [] @Ae
def Ad(n:Nat): (aZ×Int×Int)->((Int->Option R)×Unit)->Unit->Option R:=λ(a,b,c) (d,_) _=>cd (a.C<0) (d b)<|d c
def Im:=fB Ad
def FW: Lc 116 0 0:=bO 0x55642930552c0e2b76501a5fe3236c99492f3ff20e75a9d6cc5446d751ed3755f106eea55d82b0bf4daad91 dS [] [] @Ad
def Ac: (List Aab×List Int×List aR×Int×Int)->((Int->Option R)×(Unit->Option R)×Unit)->Unit->Option R:=λ(a,b,c,d,f) (g,h,_) _=>cnd (f==0) (g 12)<|bnd (oY n b f) λi=>cnd i (g 8)<|cnd (d==0) (g 12)<|h ()
def Il:=pc2 Ac
def FV: Lc 116 0 1:=bO 0x36c4cf4760b25b4077757eeef8b1aa9bcecbbbb760e9158f4b427c8d54b42a799dfa4bcaf0286e2141443c2ebee08d9658a25db5cce4ceac9097783b926942a73f90506fec530c dS [] [] @Ac
def oR: (List Int×List Aab×List aH×List Int×Int×List Int×Int)->((List aR×Int)->Option R)->(((List aR)->Option R)×Unit)->(List aR×Int)->Option R:=λ(a,b,c,d,f,g,h) i (j,_) (l,m)=>cd (m<h) (bnd (idx g m) λo=>bnd (Aw n (aK.mk (aM.mk b l a) c)<|oB o<|wr<|0-o) λr=>cnd r.2 (cd (o > 0) (bnd (eM l (List.length l) r.1) λ_=>bnd (idx l r.1) λs=>i ((List.set l (Int.toNat r.1)<|aR.mk s.ID s.From s.To s.Via f s.Right),(wr<|m+1)))<|bnd (eM l (List.length l) r.1) λ_=>bnd (idx l r.1) λt=>i ((List.set l (Int.toNat r.1)<|aR.mk t.ID t.From t.To t.Via t.Left f),(wr<|m+1)))<|i (l,(wr<|m+1)))<|j l
def RN:=qW oR
def GK: Lc 141 0 0:=bL 0xec8ff6642c6f242361b8d93b7a5d0fe7cef9e3240dfe237e8ca1c24c2c073c6dab127bc60b5d99a28b36af732cf4724cfdc8c71e dS [] [] @oR
def Ab: (aH×Int)->((Bool->Option R)×Unit)->Unit->Option R:=λ(a,b) (c,_) _=>bnd (dM n a.Kind) λd=>cnd (d==3) (bnd (oY n a.Parts b) λf=>cnd f (c true)<|c false)<|c false
def Ik:=fB Ab
def FU: Lc 141 0 2:=bO 0x2037ef7d982673c1ef30652bbead7973bbf3f47f2f437751d893260808defaeff6fd388922bb7c1d53e9037be42a0fa16fc dS [] [] @Ab
def oQ: (List Int×List Int×List Aab×List aR×List aR×Int×Int×Int)->((List aH×Int)->Option R)->(((List aH)->Option R)×Unit)->(List aH×Int)->Option R:=λ(a,b,c,d,f,g,h,i) j (l,_) (m,o)=>cd (o<i) (bnd (eM m (List.length m) o) λ_=>bnd (idx m o) λr=>bnd (Ik n (r,g)) λs=>cnd s (bnd (uI n r.Parts [h]) λt=>bnd (eM m (List.length m) o) λ_=>bnd (idx m o) λu=>j ((List.set m (Int.toNat o)<|aH.mk u.ID u.Kind u.Class u.Name t),(wr<|o+1)))<|j (m,(wr<|o+1)))<|l m
def RM:=qW oQ
def GJ: Lc 141 0 1:=bL 0x1b8a0e4cef03dae0a47357f818529320cc2a76027df49ee27172f9d5a628b6f79061f5926aff8a445c0f55eeb31dc3743a3 dS [⟨0,[cs FU]⟩] [] @oQ
def Ap: (List Int×List Int×List Aab×List aR×List aH×List Int×List aR×List Int×Int×Int)->(((List Int×List aH×List aR)->Option R)×Unit)->Unit->Option R:=λ(a,b,c,d,f,g,h,i,j,l) (m,_) _=>bnd (RN n (a,c,f,g,l,i,(ln i)) (h,0)) λo=>bnd (uI n a [l]) λr=>bnd (RM n (r,b,c,d,o,j,l,(ln f)) (f,0)) λs=>m (r,s,o)
def Ix:=uM Ap
def GU: Ic:=cJ 141 0 4 0x252b339f3c42f360ede10f5c2db96637e3772ba52ad43d9634dde75a9b87a103d920e8ccb3e0a4ad70f19f9303549a4bb65 dS [⟨0,[GK]⟩,⟨1,[GJ]⟩] [] @Ap
def Aq: (List Int×List Int×List Aab×List aR×List aH×aZ)->((Int->Option R)×((List aR×List aR×Int)->Option R)×((List aR×List aR×aM×Int)->Option R)×((List Int×List aH×List aR×List aR×aM)->Option R)×Unit)->Unit->Option R:=λ(a,b,c,d,f,g) (h,i,j,l,_) _=>bnd (Aw n (aK.mk (aM.mk c d a) f) g.ID) λm=>cnd m.2 (h 8)<|bnd (pB n (aK.mk (aM.mk c d a) f) g.A) λo=>cnd o.2 (bnd (pB n (aK.mk (aM.mk c d a) f) g.B) λr=>cnd r.2 (bnd (nC n d) λs=>bnd (jH n g.Via) λt=>bnd (prd n) λ_=>bnd (VN s m.1<|aR.mk g.ID g.A g.B t 0 0) λu=>bnd (Ko n<|aM.mk c u a) λv=>cnd (v != 0) (i (u,[(aR.mk g.ID g.A g.B t 0 0)],v))<|bnd (Kl n<|aM.mk c u a) λw=>cnd (w.2 != 0) (j (u,[(aR.mk g.ID g.A g.B t 0 0)],w.1,w.2))<|bnd (kM n w.1) λx=>cnd (x.2 != 0) (j (u,[(aR.mk g.ID g.A g.B t 0 0)],w.1,x.2))<|bnd (idx w.1.Arcs m.1) λy=>bnd (idx w.1.Arcs m.1) λz=>bnd (idx x.1 y.Left) λa0=>bnd (idx x.1 z.Right) λb0=>bnd (Rs n (aM.mk c d a) g.ID [a0,b0]) λc0=>bnd (eM u (List.length u) m.1) λ_=>bnd (idx u m.1) λd0=>bnd (eM (List.set u (Int.toNat m.1)<|aR.mk d0.ID d0.From d0.To d0.Via c0 d0.Right) (List.length<|List.set u (Int.toNat m.1)<|aR.mk d0.ID d0.From d0.To d0.Via c0 d0.Right) m.1) λ_=>bnd (idx (List.set u (Int.toNat m.1)<|aR.mk d0.ID d0.From d0.To d0.Via c0 d0.Right) m.1) λf0=>cnd (y.Left==z.Right) (cnd (g.C != 0) (j ((List.set (List.set u (Int.toNat m.1)<|aR.mk d0.ID d0.From d0.To d0.Via c0 d0.Right) (Int.toNat m.1)<|aR.mk f0.ID f0.From f0.To f0.Via f0.Left c0),[(aR.mk g.ID g.A g.B t 0 0)],w.1,12))<|l (a,f,(List.set (List.set u (Int.toNat m.1)<|aR.mk d0.ID d0.From d0.To d0.Via c0 d0.Right) (Int.toNat m.1)<|aR.mk f0.ID f0.From f0.To f0.Via f0.Left c0),[(aR.mk g.ID g.A g.B t 0 0)],w.1))<|bnd (Im n (g,z.Right,y.Left)) λg0=>bnd2 (Il n (c,a,(List.set (List.set u (Int.toNat m.1)<|aR.mk d0.ID d0.From d0.To d0.Via c0 d0.Right) (Int.toNat m.1)<|aR.mk f0.ID f0.From f0.To f0.Via f0.Left c0),g0,(oB g.C<|wr<|0-g.C))) (λh0=>j ((List.set (List.set u (Int.toNat m.1)<|aR.mk d0.ID d0.From d0.To d0.Via c0 d0.Right) (Int.toNat m.1)<|aR.mk f0.ID f0.From f0.To f0.Via f0.Left c0),[(aR.mk g.ID g.A g.B t 0 0)],w.1,h0)) λi0=>bnd (some i0) λ_=>bnd (idx x.1 g0) λj0=>bnd (Lg n j0) λl0=>bnd (Ix n (a,b,c,d,f,a,(List.set (List.set u (Int.toNat m.1)<|aR.mk d0.ID d0.From d0.To d0.Via c0 d0.Right) (Int.toNat m.1)<|aR.mk f0.ID f0.From f0.To f0.Via f0.Left c0),l0,c0,(oB g.C<|wr<|0-g.C))) λm0=>l (m0.1,m0.2.1,m0.2.2,[(aR.mk g.ID g.A g.B t 0 0)],w.1))<|h 7)<|bnd (pB n (aK.mk (aM.mk c d a) f) g.B) λo0=>cnd o0.2 (h 7)<|h 7
def Iy:=λ(n:Nat) p=>bnd (prd n) λn=>Aq n p (λt=>some<|Sum.inl t,λt=>some<|Sum.inr<|Sum.inl t,λt=>some<|Sum.inr<|Sum.inr<|Sum.inl t,λt=>some<|Sum.inr<|Sum.inr<|Sum.inr t,()) ()
def GV: Ic:=cJ 116 0 2 0x732ac39fa7e6851369a1d89cae54abc5fddd2bdd88a6936632bea806c0ef9aee534bb213e59c9ffea2232ad5b493ff547d2f35bbad09e7a3346ead1361ce4182c1c0401cb92 dS [⟨0,[FW]⟩,⟨1,[FV]⟩] [GU] @Aq
def Aa: (List Int×List Aab×List aR×List aH×Int×Int)->((Bool->Option R)×Unit)->Unit->Option R:=λ(a,b,c,d,f,g) (h,_) _=>cnd (f != g) (bnd (jN n (aK.mk (aM.mk b c a) d) 3 f) λi=>bnd (jN n (aK.mk (aM.mk b c a) d) 3 g) λj=>bnd (iF n i j) λl=>cnd l (h false)<|h true)<|h false
def Ij:=fB Aa
def FR: Lc 93 0 0:=bO 0x46fd6fb9508ebda796856f54387ef9f44fecb1d13d195c49890119513a4116865dcbc452e01 dS [] [] @Aa
def Ao(n:Nat): (List Int×List Int×List Aab×List aR×List aH×Int×Int)->((Unit->Option R)×((List aR×(Nat×Nat))->Option R)×Unit)->Unit->Option R:=λ(a,b,c,d,f,g,h) (i,j,_) _=>bnd (Nu<|decide<|0<=g/\g<=h/\h<=(ln d)/\(ln d)<=(ln d)) λ_=>cnd (g==h) (i ())<|bnd (sub d (0,List.length d) 0 g) λl=>bnd (sub d (0,List.length d) h<|ln d) λm=>bnd (SD d l<|win d<|some m) λo=>bnd (sub o (l.1,l.2+List.length (win d<|some m)) (((l.1,l.2+List.length (win d<|some m)).2:Nat):Int)<|ln d) λr=>bnd (clr o r<|aR.mk 0 0 0 [] 0 0) λs=>j (s,(l.1,l.2+List.length (win d<|some m)))
def Iw:=DS Ao
def GT: Ic:=cJ 118 0 3 0x638cafaf61c08a5acce8da14f22bd47dbd30877bc5ddeb7613427ac dS [] [] @Ao
def zZ(n:Nat): (List Int×List Int×List Aab×List aR×List aH×Int×Int×aR×Int)->(((List aR)->Option R)×Unit)->Unit->Option R:=λ(a,b,c,d,f,g,h,i,j) (l,_) _=>cnd (i.Left==g) (bnd (eM d (List.length d) j) λ_=>bnd (idx d j) λm=>l<|List.set d (Int.toNat j)<|aR.mk m.ID m.From m.To m.Via h m.Right)<|l d
def Ii:=fB zZ
def FQ: Lc 119 0 1:=bO 0xb870adb55e9393a03715d65713782997501a6b5cb938aff0142f0ec66c921633d406b46adc8 dS [] [] @zZ
def oP: (List Int×List Int×List Aab×List aH×Int×Int×Int)->((List aR×Int)->Option R)->(((List aR)->Option R)×Unit)->(List aR×Int)->Option R:=λ(a,b,c,d,f,g,h) i (j,_) (l,m)=>cd (m<h) (bnd (eM l (List.length l) m) λ_=>bnd (idx l m) λo=>bnd (Ii n (a,b,c,l,d,f,g,o,m)) λr=>cnd (o.Right==f) (bnd (eM r (List.length r) m) λ_=>bnd (idx r m) λs=>i ((List.set r (Int.toNat m)<|aR.mk s.ID s.From s.To s.Via s.Left g),(wr<|m+1)))<|i (r,(wr<|m+1)))<|j l
def RL:=qW oP
def GI: Lc 119 0 0:=bL 0x45d9bb3d35155b71d2b5a44d5f242d50f26175523add96ac7101648aa6babd05a6e dS [⟨0,[cs FQ]⟩] [] @oP
def gE: (Int×Int×List Int)->(((List Int)->Option R)×Unit)->Unit->Option R:=λ(a,b,c) (d,_) _=>bnd (oY n c a) λf=>cnd f (bnd (Qq n c [a]) λg=>cnd (b != 0) (bnd (uI n g [b]) λh=>d h)<|d g)<|d c
def iT:=uM gE
def GS: Ic:=cJ 144 11 3 0x208e6187b2bc4c32cf5ea dS [] [] @gE
def GR: Ic:=cJ 144 12 3 0x121589f99bc6a7e3856e16ec988 dS [] [] @gE
def oO: (List Int×List Int×List Aab×List aR×Int×Int×Int)->((List aH×Int)->Option R)->(((List aH)->Option R)×Unit)->(List aH×Int)->Option R:=λ(a,b,c,d,f,g,h) i (j,_) (l,m)=>cd (m<h) (bnd (eM l (List.length l) m) λ_=>bnd (idx l m) λo=>bnd (dM n o.Kind) λr=>cnd (r==3) (bnd (iT n (f,g,o.Parts)) λs=>bnd (eM l (List.length l) m) λ_=>bnd (idx l m) λt=>i ((List.set l (Int.toNat m)<|aH.mk t.ID t.Kind t.Class t.Name s),(wr<|m+1)))<|i (l,(wr<|m+1)))<|j l
def RK:=qW oO
def GH: Lc 119 0 2:=bL 0x2086e1e06385c30ddb008c446f1bb884c5a2b483a9d6ab7c7a643905ade228a7506641 dS [] [GR] @oO
def An: (List Int×List Int×List Aab×List aR×List aH×Int×Int)->(((List Int×List aR×List aH)->Option R)×Unit)->Unit->Option R:=λ(a,b,c,d,f,g,h) (i,_) _=>bnd (RL n (a,b,c,f,g,h,(ln d)) (d,0)) λj=>bnd (iT n (g,h,a)) λl=>bnd (RK n (l,b,c,j,g,h,(ln f)) (f,0)) λm=>i (l,j,m)
def tG:=uM An
def Am: Ic:=cJ 119 0 3 0x71a9c312047752c5f86c90dab6188912c44 dS [⟨0,[GI]⟩,⟨2,[GH]⟩] [GS] @An
def zY(n:Nat): ((Nat×Nat)×List Int×List Int×List Aab×List aR×List aH×Int×Int×aR×Int×(Nat×Nat))->(((List aR)->Option R)×Unit)->Unit->Option R:=λ(a,b,c,d,f,g,h,i,j,l,m) (o,_) _=>cnd (j.Left==h) (bnd (idx (win f<|some a) l) λ_=>bnd (idx f<|l+((a.1:Nat):Int)) λr=>o<|List.set f (Int.toNat<|l+((a.1:Nat):Int))<|aR.mk r.ID r.From r.To r.Via i r.Right)<|o f
def Ih:=fB zY
def FP: Lc 119 0 1:=bO 0x4c60377b136a8f39b09388dca28358724534b7ef39db975a6d2fa874b3c68c0166d4a844f897822b2ef5 dS [] [] @zY
def oN: ((Nat×Nat)×List Int×List Int×List Aab×List aH×Int×Int×(Nat×Nat)×Int)->((List aR×Int)->Option R)->(((List aR)->Option R)×Unit)->(List aR×Int)->Option R:=λ(a,b,c,d,f,g,h,i,j) l (m,_) (o,r)=>cd (r<j) (bnd (idx (win o<|some i) r) λ_=>bnd (idx o<|r+((i.1:Nat):Int)) λs=>bnd (Ih n (a,b,c,d,o,f,g,h,s,r,i)) λt=>cnd (s.Right==g) (bnd (idx (win t<|some a) r) λ_=>bnd (idx t<|r+((a.1:Nat):Int)) λu=>l ((List.set t (Int.toNat<|r+((a.1:Nat):Int))<|aR.mk u.ID u.From u.To u.Via u.Left h),(wr<|r+1)))<|l (t,(wr<|r+1)))<|m o
def RJ:=qW oN
def GG: Lc 119 0 0:=bL 0x26ce6ffcf1dec53f1b3b1e953eee883627351c70ade92b3119599a790ed39d4ca598056af dS [⟨0,[cs FP]⟩] [] @oN
def GP: Ic:=cJ 144 11 3 0x208e6187b2bc4c32cf5ea dS [] [] @gE
def GO: Ic:=cJ 144 12 3 0x121589f99bc6a7e3856e16ec988 dS [] [] @gE
def oM: ((Nat×Nat)×List Int×List Int×List Aab×List aR×Int×Int×Int)->((List aH×Int)->Option R)->(((List aH)->Option R)×Unit)->(List aH×Int)->Option R:=λ(a,b,c,d,f,g,h,i) j (l,_) (m,o)=>cd (o<i) (bnd (eM m (List.length m) o) λ_=>bnd (idx m o) λr=>bnd (dM n r.Kind) λs=>cnd (s==3) (bnd (iT n (g,h,r.Parts)) λt=>bnd (eM m (List.length m) o) λ_=>bnd (idx m o) λu=>j ((List.set m (Int.toNat o)<|aH.mk u.ID u.Kind u.Class u.Name t),(wr<|o+1)))<|j (m,(wr<|o+1)))<|l m
def RI:=qW oM
def GF: Lc 119 0 2:=bL 0x12121caa1572550bfb444fb1e6c89a00b86748ea3d2b5996a2bcff783bef0423341c57d47d80 dS [] [GO] @oM
def Al: ((Nat×Nat)×List Int×List Int×List Aab×List aR×List aH×Int×Int)->(((List Int×List aR×List aH)->Option R)×Unit)->Unit->Option R:=λ(a,b,c,d,f,g,h,i) (j,_) _=>bnd (RJ n (a,b,c,d,g,h,i,a,((a.2:Nat):Int)) (f,0)) λl=>bnd (iT n (h,i,b)) λm=>bnd (RI n (a,m,c,d,l,h,i,(ln g)) (g,0)) λo=>j (m,l,o)
def Iv:=uM Al
def GQ: Ic:=cJ 119 0 3 0x1a262033af1a098e677de449131b45607372d3e78a23e6f072 dS [⟨0,[GG]⟩,⟨2,[GF]⟩] [GP] @Al
def As: (List Int×List Int×List Aab×List aR×List aH×aZ)->((Int->Option R)×((List aR×List aR×Int)->Option R)×((List aR×List aR×List Aab×List aR×List Int×Int)->Option R)×((List Int×List aH×List aR×List aR×List Aab×List aR×List Int)->Option R)×((List aR×Int)->Option R)×((List Int×List aR×List aH×Int×Int)->Option R)×(((Nat×Nat)×List Int×List aR×List aH×Int×Int)->Option R)×(((Nat×Nat)×List aR)->Option R)×Unit)->Unit->Option R:=λ(a,b,c,d,f,g) (h,i,j,l,m,o,r,s,_) _=>cnd (g.Kind==4) (bnd2 (Iy n (a,b,c,d,f,g)) (λt=>h t) λu=>bnd2 (some u) (λv=>i (v.1,v.2.1,v.2.2)) λw=>bnd2 (some w) (λx=>j (x.1,x.2.1,x.2.2.1.Nodes,x.2.2.1.Arcs,x.2.2.1.Faces,x.2.2.2)) λy=>bnd (some y) λz=>l (z.1,z.2.1,z.2.2.1,z.2.2.2.1,z.2.2.2.2.Nodes,z.2.2.2.2.Arcs,z.2.2.2.2.Faces))<|bnd (Aw n (aK.mk (aM.mk c d a) f) g.ID) λa0=>cnd a0.2 (cnd (g.Kind==6) (bnd (jH n g.Via) λb0=>bnd (eM d (List.length d) a0.1) λ_=>bnd (idx d a0.1) λc0=>m ((List.set d (Int.toNat a0.1)<|aR.mk c0.ID c0.From c0.To b0 c0.Left c0.Right),0))<|bnd (jN n (aK.mk (aM.mk c d a) f) 2 g.ID) λd0=>cd ((ln d0) > 0) (m (d,13))<|bnd (eM d (List.length d) a0.1) λ_=>bnd (idx d a0.1) λf0=>bnd (eM d (List.length d) a0.1) λ_=>bnd (idx d a0.1) λg0=>bnd (Ij n (a,c,d,f,f0.Left,g0.Right)) λh0=>cnd h0 (m (d,13))<|bnd2 (Iw n (a,b,c,d,f,a0.1,(wr<|a0.1+1))) (λ_=>cnd (f0.Left != g0.Right) (bnd (tG n (a,b,c,d,f,(oB f0.Left g0.Right),(PS f0.Left g0.Right))) λi0=>o (i0.1,i0.2.1,i0.2.2,(oB f0.Left g0.Right),(PS f0.Left g0.Right)))<|m (d,0)) λj0=>bnd (some j0) λl0=>cnd (f0.Left != g0.Right) (bnd (Iv n (l0.2,a,b,c,l0.1,f,(oB f0.Left g0.Right),(PS f0.Left g0.Right))) λm0=>r (l0.2,m0.1,m0.2.1,m0.2.2,(oB f0.Left g0.Right),(PS f0.Left g0.Right)))<|s (l0.2,l0.1))<|m (d,7)
def Iz:=λ(n:Nat) p=>bnd (prd n) λn=>As n p (λt=>some<|Sum.inl t,λt=>some<|Sum.inr<|Sum.inl t,λt=>some<|Sum.inr<|Sum.inr<|Sum.inl t,λt=>some<|Sum.inr<|Sum.inr<|Sum.inr<|Sum.inl t,λt=>some<|Sum.inr<|Sum.inr<|Sum.inr<|Sum.inr<|Sum.inl t,λt=>some<|Sum.inr<|Sum.inr<|Sum.inr<|Sum.inr<|Sum.inr<|Sum.inl t,λt=>some<|Sum.inr<|Sum.inr<|Sum.inr<|Sum.inr<|Sum.inr<|Sum.inr<|Sum.inl t,λt=>some<|Sum.inr<|Sum.inr<|Sum.inr<|Sum.inr<|Sum.inr<|Sum.inr<|Sum.inr t,()) ()
def GW: Ic:=cJ 93 0 2 0x72fe26efa3605526fe73b3672eb62490ac22700510e20b0a422e161f2cf0bb7e0b3631f04178cb09fed8e010faa838d4de911e6a432ebccbee8c789314f18269c83a76ed4e469a90ad78f01eb3b50b0588a9bc05fbde47947a8ef981eab91100b92ef56136d3356a4b841bf99f002fd494 dS [⟨0,[FR]⟩] [GV,GT,Am,GQ] @As
def FO: Lc 63 0 2:=bO 0x140624f3ec3c3aa4d58cfda9 dS [] [] @fI
def jC: (aK×aZ×List Int×List Aab×List aR×List aH×Int)->((Bool->Option R)×Unit)->Unit->Option R:=λ(a,b,c,d,f,g,h) (i,_) _=>cnd (h==0) (cnd (b.Kind==3) (bnd (dH n a.Plan (aM.mk d f c) 0) λj=>cnd j (i true)<|i false)<|cnd (b.Kind==6) (bnd (dH n a.Plan (aM.mk d f c) 0) λl=>cnd l (i true)<|i false)<|i false)<|i false
def Ig:=fB jC
def FM: Lc 63 0 4:=bO 0xee0a2c0a0b6ee1e57e82f8da35 dS [] [] @jC
def jD: (aK×aZ×List Int×List Aab×List aR×List aH×Int)->((Int->Option R)×Unit)->Unit->Option R:=λ(a,b,c,d,f,g,h) (i,_) _=>bnd (Ig n (a,b,c,d,f,g,h)) λj=>cnd j (i 12)<|i h
def fS:=fB jD
def FN: Lc 63 0 3:=bO 0xedf1c8baf2d08db55b616f5a1b dS [⟨0,[cs FM]⟩] [] @jD
def FL: Lc 63 0 2:=bO 0x1406212e2cbd5d3a9ff60518 dS [] [] @fI
def FJ: Lc 63 0 4:=bO 0xee09ff0cbf03df66f829dc3f13 dS [] [] @jC
def FK: Lc 63 0 3:=bO 0xedf19bbda6658b36d50852bef9 dS [⟨0,[cs FJ]⟩] [] @jD
def zX: (List Int×List Aab×List aH×List aR×Int)->((Int->Option R)×Unit)->Unit->Option R:=λ(a,b,c,d,f) (g,_) _=>cnd (f==0) (bnd (fP n<|aK.mk (aM.mk b d a) c) λh=>g h)<|g f
def Ie:=fB zX
def FI: Lc 63 0 2:=bO 0xeeebbb792f59f590efe20746f5592cb4990e820f0268223ec dS [] [] @zX
def zV: (aK×aZ×List Int×List Aab×List aH×List aR×Int)->((Bool->Option R)×Unit)->Unit->Option R:=λ(a,b,c,d,f,g,h) (i,_) _=>cnd (h==0) (cnd (b.Kind==3) (bnd (dH n a.Plan (aM.mk d g c) 0) λj=>cnd j (i true)<|i false)<|cnd (b.Kind==6) (bnd (dH n a.Plan (aM.mk d g c) 0) λl=>cnd l (i true)<|i false)<|i false)<|i false
def Ib:=fB zV
def FG: Lc 63 0 4:=bO 0x12ed0b278e7111dcd685676ebaf4dea98b5242a79475fa0e4c dS [] [] @zV
def zW: (aK×aZ×List Int×List Aab×List aH×List aR×Int)->((Int->Option R)×Unit)->Unit->Option R:=λ(a,b,c,d,f,g,h) (i,_) _=>bnd (Ib n (a,b,c,d,f,g,h)) λj=>cnd j (i 12)<|i h
def Id:=fB zW
def FH: Lc 63 0 3:=bO 0xec05097459f2e0c8558819af5a8708743e1aedab8b366374d dS [⟨0,[cs FG]⟩] [] @zW
def FF: Lc 63 0 2:=bO 0x1adcca8c50994d1dda344 dS [] [] @fI
def FD: Lc 63 0 4:=bO 0x30328a1c94d46ed dS [] [] @jC
def FE: Lc 63 0 3:=bO 0x302d99e0b632073 dS [⟨0,[cs FD]⟩] [] @jD
def oK: ((Nat×Nat)×List Int×List Aab×List aR×List aH×Int)->((Int->Option R)×Unit)->Unit->Option R:=λ(a,b,c,d,f,g) (h,_) _=>cnd (g==0) (bnd (fP n<|aK.mk (aM.mk c (win d<|some a) b) f) λi=>h i)<|h g
def tD:=fB oK
def FC: Lc 63 0 2:=bO 0xb823ff07e4954e1ad0173c6ded003 dS [] [] @oK
def oI: (aK×aZ×(Nat×Nat)×List Int×List Aab×List aR×List aH×Int)->((Bool->Option R)×Unit)->Unit->Option R:=λ(a,b,c,d,f,g,h,i) (j,_) _=>cnd (i==0) (cnd (b.Kind==3) (bnd (dH n a.Plan (aM.mk f (win g<|some c) d) 0) λl=>cnd l (j true)<|j false)<|cnd (b.Kind==6) (bnd (dH n a.Plan (aM.mk f (win g<|some c) d) 0) λm=>cnd m (j true)<|j false)<|j false)<|j false
def Ia:=fB oI
def FA: Lc 63 0 4:=bO 0x1dec1c454738802089ff2 dS [] [] @oI
def oJ: (aK×aZ×(Nat×Nat)×List Int×List Aab×List aR×List aH×Int)->((Int->Option R)×Unit)->Unit->Option R:=λ(a,b,c,d,f,g,h,i) (j,_) _=>bnd (Ia n (a,b,c,d,f,g,h,i)) λl=>cnd l (j 12)<|j i
def tC:=fB oJ
def FB: Lc 63 0 3:=bO 0x116d120787f8de575509f dS [⟨0,[cs FA]⟩] [] @oJ
def EZ: Lc 63 0 2:=bO 0x1bcae733b16d9fa4a4ea9 dS [] [] @oK
def EX: Lc 63 0 4:=bO 0x28250af7fc548a3982 dS [] [] @oI
def EY: Lc 63 0 3:=bO 0x17611c6bf4f4045943 dS [⟨0,[cs EX]⟩] [] @oJ
def zU: (List Int×List Aab×List aR×List aH×aZ)->((Int->Option R)×(Unit->Option R)×Unit)->Unit->Option R:=λ(a,b,c,d,f) (g,h,_) _=>bnd (oY n a f.ID) λi=>cnd i (bnd (oY n a f.A) λj=>cnd j (g 8)<|h ())<|g 7
def Hz:=pc2 zU
def EW: Lc 94 0 0:=bO 0x99a22c3b3b53f3a04dec742cb6085d4f26cbb6b8436c33bca335c09db4e3cb0ba0e6f56b208 dS [] [] @zU
def Ak: (List Int×List Int×List Aab×List aR×List aH×aZ)->((Int->Option R)×((List Int×List aR×List aH×Int×Int)->Option R)×Unit)->Unit->Option R:=λ(a,b,c,d,f,g) (h,i,_) _=>bnd2 (Hz n (a,c,d,f,g)) (λj=>h j) λl=>bnd (some l) λ_=>bnd (tG n (a,b,c,d,f,g.ID,g.A)) λm=>i (m.1,m.2.1,m.2.2,g.ID,g.A)
def Iu:=DS Ak
def GN: Ic:=cJ 94 0 2 0x3f27f0d3410d4adb673532caa20cdecd2f801f7f1 dS [⟨0,[EW]⟩] [Am] @Ak
def Ai(n:Nat): (List Int×List Int×List Aab×List aR×List aH×Int×Int)->((Unit->Option R)×((List aH×(Nat×Nat))->Option R)×Unit)->Unit->Option R:=λ(a,b,c,d,f,g,h) (i,j,_) _=>bnd (Nu<|decide<|0<=g/\g<=h/\h<=(ln f)/\(ln f)<=(ln f)) λ_=>cnd (g==h) (i ())<|bnd (sub f (0,List.length f) 0 g) λl=>bnd (sub f (0,List.length f) h<|ln f) λm=>bnd (SD f l<|win f<|some m) λo=>bnd (sub o (l.1,l.2+List.length (win f<|some m)) (((l.1,l.2+List.length (win f<|some m)).2:Nat):Int)<|ln f) λr=>bnd (clr o r<|aH.mk 0 0 0 (⟨#[]⟩:ByteArray) []) λs=>j (s,(l.1,l.2+List.length (win f<|some m)))
def Is:=DS Ai
def GL: Ic:=cJ 123 0 3 0x8d646e73530dfbdfe174b8aba884d9e36e4f526352de6f79487a00a dS [] [] @Ai
def Aj: (List Int×List Int×List Aab×List aR×List aH×aZ)->(((List aH×Int)->Option R)×(((Nat×Nat)×List aH)->Option R)×((List aH×Int×Int×Int×ByteArray×List Int×List aH)->Option R)×Unit)->Unit->Option R:=λ(a,b,c,d,f,g) (h,i,j,_) _=>bnd (Au n (aK.mk (aM.mk c d a) f) g.ID) λl=>cnd l.2 (cnd (g.Kind==7) (h (f,8))<|cnd (g.Kind==8) (bnd2 (Is n (a,b,c,d,f,l.1,(wr<|l.1+1))) (λ_=>h (f,0)) λm=>bnd (some m) λo=>i (o.2,o.1))<|cnd (g.Kind==9) (bnd (eM f (List.length f) l.1) λ_=>bnd (idx f l.1) λr=>h ((List.set f (Int.toNat l.1)<|aH.mk r.ID r.Kind r.Class g.Name r.Parts),0))<|cnd (g.Kind==10) (bnd (eM f (List.length f) l.1) λ_=>bnd (idx f l.1) λs=>h ((List.set f (Int.toNat l.1)<|aH.mk s.ID s.Kind g.B s.Name s.Parts),0))<|cnd (g.Kind==11) (bnd (iA n g.Parts) λt=>bnd (eM f (List.length f) l.1) λ_=>bnd (idx f l.1) λu=>h ((List.set f (Int.toNat l.1)<|aH.mk u.ID u.Kind u.Class u.Name t),0))<|h (f,0))<|cnd (g.Kind==7) (bnd (iA n g.Parts) λv=>bnd (prd n) λ_=>bnd (VN f l.1<|aH.mk g.ID g.A g.B g.Name v) λw=>j (w,g.ID,g.A,g.B,g.Name,v,[(aH.mk g.ID g.A g.B g.Name v)]))<|h (f,7)
def It:=in3 Aj
def GM: Ic:=cJ 95 0 2 0x1b8a0e4e5686903bb5c1e77a995e4e0ee265e1713512e8112463ea53723bdf6b9b79238b3741e8f015dcc239806ead7f057 dS [] [GL] @Aj
def zS: (List Int×(Nat×Nat)×List Aab×List aR×List aH×Int)->((Int->Option R)×Unit)->Unit->Option R:=λ(a,b,c,d,f,g) (h,_) _=>cnd (g==0) (bnd (fP n<|aK.mk (aM.mk c d a)<|win f<|some b) λi=>h i)<|h g
def Hy:=fB zS
def EV: Lc 63 0 2:=bO 0x8940b244f6c3aa053ebf7a23b274e494 dS [] [] @zS
def zQ: (aK×aZ×List Int×(Nat×Nat)×List Aab×List aR×List aH×Int)->((Bool->Option R)×Unit)->Unit->Option R:=λ(a,b,c,d,f,g,h,i) (j,_) _=>cnd (i==0) (cnd (b.Kind==3) (bnd (dH n a.Plan (aM.mk f g c) 0) λl=>cnd l (j true)<|j false)<|cnd (b.Kind==6) (bnd (dH n a.Plan (aM.mk f g c) 0) λm=>cnd m (j true)<|j false)<|j false)<|j false
def Hw:=fB zQ
def ET: Lc 63 0 4:=bO 0x52130c2c00200b997377ee689c2828ae1a067d dS [] [] @zQ
def zR: (aK×aZ×List Int×(Nat×Nat)×List Aab×List aR×List aH×Int)->((Int->Option R)×Unit)->Unit->Option R:=λ(a,b,c,d,f,g,h,i) (j,_) _=>bnd (Hw n (a,b,c,d,f,g,h,i)) λl=>cnd l (j 12)<|j i
def Hx:=fB zR
def EU: Lc 63 0 3:=bO 0x2fca27a0737cbe653ccc5f3212f54fe47af656 dS [⟨0,[cs ET]⟩] [] @zR
def Lb: Nat->aK->aZ->Option (aK×Int)
 | 0,_,_=>none
 | n+1,a,b=>bnd (Mu n a) λc=>bnd (Ms n b.Kind) λd=>cnd d (bnd2 (vD n (c.2.2.2.2,c.1,c.2.1,c.2.2.1,c.2.2.2.1,b)) (λf=>bnd (cK n (c.2.2.2.2,f.1,c.2.2.1,c.2.2.2.1,f.2)) λg=>bnd (dY n (a,b,c.2.2.2.2,f.1,c.2.2.1,c.2.2.2.1,g,b.ID)) λh=>cnd (h != 0) (some ((aK.mk (aM.mk [] [] []) []),h))<|some ((aK.mk (aM.mk f.1 c.2.2.1 c.2.2.2.2) c.2.2.2.1),0)) λi=>bnd2 (some i) (λj=>bnd (tF n (j.1,c.2.2.2.2,j.2,c.2.2.1,c.2.2.2.1,0)) λl=>bnd (tE n (a,b,j.1,c.2.2.2.2,j.2,c.2.2.1,c.2.2.2.1,l,b.ID)) λm=>cnd (m != 0) (some ((aK.mk (aM.mk [] [] []) []),m))<|some ((aK.mk (aM.mk (win j.2<|some j.1) c.2.2.1 c.2.2.2.2) c.2.2.2.1),0)) λo=>bnd (some o) λr=>bnd (cK n (c.2.2.2.2,r.1,c.2.2.1,c.2.2.2.1,0)) λs=>bnd (dY n (a,b,c.2.2.2.2,r.1,c.2.2.1,c.2.2.2.1,s,b.ID)) λt=>cnd (t != 0) (some ((aK.mk (aM.mk [] [] []) []),t))<|some ((aK.mk (aM.mk r.1 c.2.2.1 c.2.2.2.2) c.2.2.2.1),0))<|bnd (Io n b.Kind) λu=>cnd u (bnd2 (Iz n (c.2.2.2.2,c.1,c.2.1,c.2.2.1,c.2.2.2.1,b)) (λv=>bnd (cK n (c.2.2.2.2,c.2.1,c.2.2.1,c.2.2.2.1,v)) λw=>bnd (dY n (a,b,c.2.2.2.2,c.2.1,c.2.2.1,c.2.2.2.1,w,0)) λx=>cnd (x != 0) (some ((aK.mk (aM.mk [] [] []) []),x))<|some ((aK.mk (aM.mk c.2.1 c.2.2.1 c.2.2.2.2) c.2.2.2.1),0)) λy=>bnd2 (some y) (λz=>bnd (cK n (c.2.2.2.2,c.2.1,c.2.2.1,c.2.2.2.1,z.2.2)) λa0=>bnd (fS n (a,b,c.2.2.2.2,c.2.1,c.2.2.1,c.2.2.2.1,a0)) λb0=>cnd (b0 != 0) (some ((aK.mk (aM.mk [] [] []) []),b0))<|some ((aK.mk (aM.mk c.2.1 c.2.2.1 c.2.2.2.2) c.2.2.2.1),0)) λc0=>bnd2 (some c0) (λd0=>bnd (cK n (c.2.2.2.2,c.2.1,c.2.2.1,c.2.2.2.1,d0.2.2.2.2.2)) λf0=>bnd (fS n (a,b,c.2.2.2.2,c.2.1,c.2.2.1,c.2.2.2.1,f0)) λg0=>cnd (g0 != 0) (some ((aK.mk (aM.mk [] [] []) []),g0))<|some ((aK.mk (aM.mk c.2.1 c.2.2.1 c.2.2.2.2) c.2.2.2.1),0)) λh0=>bnd2 (some h0) (λi0=>bnd (Ie n (i0.1,c.2.1,i0.2.1,i0.2.2.1,0)) λj0=>bnd (Id n (a,b,i0.1,c.2.1,i0.2.1,i0.2.2.1,j0)) λl0=>cnd (l0 != 0) (some ((aK.mk (aM.mk [] [] []) []),l0))<|some ((aK.mk (aM.mk c.2.1 i0.2.2.1 i0.1) i0.2.1),0)) λm0=>bnd2 (some m0) (λo0=>bnd (cK n (c.2.2.2.2,c.2.1,o0.1,c.2.2.2.1,o0.2)) λr0=>bnd (dY n (a,b,c.2.2.2.2,c.2.1,o0.1,c.2.2.2.1,r0,0)) λs0=>cnd (s0 != 0) (some ((aK.mk (aM.mk [] [] []) []),s0))<|some ((aK.mk (aM.mk c.2.1 o0.1 c.2.2.2.2) c.2.2.2.1),0)) λt0=>bnd2 (some t0) (λu0=>bnd (cK n (u0.1,c.2.1,u0.2.1,u0.2.2.1,0)) λv0=>bnd (fS n (a,b,u0.1,c.2.1,u0.2.1,u0.2.2.1,v0)) λw0=>cnd (w0 != 0) (some ((aK.mk (aM.mk [] [] []) []),w0))<|some ((aK.mk (aM.mk c.2.1 u0.2.1 u0.1) u0.2.2.1),0)) λx0=>bnd2 (some x0) (λy0=>bnd (tD n (y0.1,y0.2.1,c.2.1,y0.2.2.1,y0.2.2.2.1,0)) λz0=>bnd (tC n (a,b,y0.1,y0.2.1,c.2.1,y0.2.2.1,y0.2.2.2.1,z0)) λa1=>cnd (a1 != 0) (some ((aK.mk (aM.mk [] [] []) []),a1))<|some ((aK.mk (aM.mk c.2.1 (win y0.2.2.1<|some y0.1) y0.2.1) y0.2.2.2.1),0)) λb1=>bnd (some b1) λc1=>bnd (tD n (c1.1,c.2.2.2.2,c.2.1,c1.2,c.2.2.2.1,0)) λd1=>bnd (tC n (a,b,c1.1,c.2.2.2.2,c.2.1,c1.2,c.2.2.2.1,d1)) λf1=>cnd (f1 != 0) (some ((aK.mk (aM.mk [] [] []) []),f1))<|some ((aK.mk (aM.mk c.2.1 (win c1.2<|some c1.1) c.2.2.2.2) c.2.2.2.1),0))<|cnd (b.Kind==12) (bnd2 (Iu n (c.2.2.2.2,c.1,c.2.1,c.2.2.1,c.2.2.2.1,b)) (λg1=>bnd (cK n (c.2.2.2.2,c.2.1,c.2.2.1,c.2.2.2.1,g1)) λh1=>bnd (dY n (a,b,c.2.2.2.2,c.2.1,c.2.2.1,c.2.2.2.1,h1,0)) λi1=>cnd (i1 != 0) (some ((aK.mk (aM.mk [] [] []) []),i1))<|some ((aK.mk (aM.mk c.2.1 c.2.2.1 c.2.2.2.2) c.2.2.2.1),0)) λj1=>bnd (some j1) λl1=>bnd (cK n (l1.1,c.2.1,l1.2.1,l1.2.2.1,0)) λm1=>bnd (fS n (a,b,l1.1,c.2.1,l1.2.1,l1.2.2.1,m1)) λo1=>cnd (o1 != 0) (some ((aK.mk (aM.mk [] [] []) []),o1))<|some ((aK.mk (aM.mk c.2.1 l1.2.1 l1.1) l1.2.2.1),0))<|bnd2 (It n (c.2.2.2.2,c.1,c.2.1,c.2.2.1,c.2.2.2.1,b)) (λr1=>bnd (cK n (c.2.2.2.2,c.2.1,c.2.2.1,r1.1,r1.2)) λs1=>bnd (dY n (a,b,c.2.2.2.2,c.2.1,c.2.2.1,r1.1,s1,0)) λt1=>cnd (t1 != 0) (some ((aK.mk (aM.mk [] [] []) []),t1))<|some ((aK.mk (aM.mk c.2.1 c.2.2.1 c.2.2.2.2) r1.1),0)) λu1=>bnd2 (some u1) (λv1=>bnd (Hy n (c.2.2.2.2,v1.1,c.2.1,c.2.2.1,v1.2,0)) λw1=>bnd (Hx n (a,b,c.2.2.2.2,v1.1,c.2.1,c.2.2.1,v1.2,w1)) λx1=>cnd (x1 != 0) (some ((aK.mk (aM.mk [] [] []) []),x1))<|some ((aK.mk (aM.mk c.2.1 c.2.2.1 c.2.2.2.2)<|win v1.2<|some v1.1),0)) λy1=>bnd (some y1) λz1=>bnd (cK n (c.2.2.2.2,c.2.1,c.2.2.1,z1.1,0)) λa2=>bnd (fS n (a,b,c.2.2.2.2,c.2.1,c.2.2.1,z1.1,a2)) λb2=>cnd (b2 != 0) (some ((aK.mk (aM.mk [] [] []) []),b2))<|some ((aK.mk (aM.mk c.2.1 c.2.2.1 c.2.2.2.2) z1.1),0)
end
end
section
variable {R:Type}(n:Nat)
noncomputable section
def K4: Kn:=bH 63 0x1da66153d259ce3 dS [⟨0,[LF]⟩,⟨1,[FX]⟩,⟨2,[LD,GD,GA,FO,FL,FI,FF,FC,EZ,EV]⟩,⟨3,[LB,GC,FZ,FN,FK,FH,FE,FB,EY,EU]⟩] [LL,LK,GW,GN,GM] Lb
abbrev aNn:=K4::dS
def CA: (aK×aZ×Int)->((Int->Option R)×Unit)->Unit->Option R:=λ(a,b,c) (d,_) _=>bnd (Lh n b) λf=>cnd (f==0) (cnd (c==0) (bnd (fP n a) λg=>d g)<|d f)<|d f
def TX:=fB CA
def V3: Lc 37 0 1:=bO 0x173489e151c41c3ebcd73fdde6bd045e53dfe4d8ddb08334d09777664ddd7ca535dc06aaa aNn [] [] @CA
def BZ: (aK×aZ×Int)->(((aK×Int)->Option R)×Unit)->Unit->Option R:=λ(a,b,c) (d,_) _=>cnd (c==0) (bnd (Lb n a b) λf=>d (f.1,f.2))<|d (a,c)
def TW:=fB BZ
def V2: Lc 37 0 2:=bO 0x1f3043cb5c5e99e7f2000397e76ed4301bd9222a27f512abee066b1c482db5031f5973 aNn [] [] @BZ
def Ez: (List aZ×Int)->((aK×Int)->Option R)->(((aZ×Int×Int)->Option R)×(aK->Option R)×Unit)->(aK×Int)->Option R:=λ(a,b) c (d,f,_) (g,h)=>cd (h<b) (bnd (idx a h) λi=>bnd (TX n (g,i,h)) λj=>bnd (TW n (g,i,j)) λl=>cnd (l.2 != 0) (d (i,h,l.2))<|c (l.1,(wr<|h+1)))<|f g
def aEO:=qB Ez
def V4: Lc 37 0 0:=bL 0x1a320298c75e961eed447d27db15ed596cb4c4326d6db4781c1c1b4a698b2feb5040375b54b2 aNn [⟨0,[cs V3]⟩,⟨1,[cs V2]⟩] [] @Ez
def Rx: Nat->aK->(List aZ)->Option (aK×Int×Int)
 | 0,_,_=>none
 | n+1,a,b=>cd ((ln b) > 4096) (some ((aK.mk (aM.mk [] [] []) []),0,3))<|bnd (GX n a) λc=>bnd2 (aEO n (b,(ln b)) (c,0)) (λd=>some ((aK.mk (aM.mk [] [] []) []),d.2.1,d.2.2)) λf=>bnd (some f) λg=>some (g,(ln b),0)
def aGB: Kn:=bH 37 0x6d097c3a3bde0d40c0e7152 aNn [⟨0,[V4]⟩] [] Rx
abbrev aPR:=aGB::aNn
def u7: Lc 38 0 0:=bL 0x8abc032a79686322e3d9cbac4e aPR [] [] @fG
def u6: Lc 38 0 0:=bL 0x21abe8e7886e517be89785179e09861f31a4388f6177308 aPR [] [] @kC
def xK: Nat->aY->Option aY
 | 0,_=>none
 | n+1,a=>bnd (prd n) λ_=>cnd (List.isEmpty a.Edits) (bnd (nK n () ()) λ_=>some<|aY.mk a.Office a.Seq a.Time a.Source [])<|bnd (app ([]:List aZ) a.Edits) λb=>bnd (uV n (a.Office,a.Seq,a.Time,a.Source,(ln b)) (b,0)) λc=>some<|aY.mk a.Office a.Seq a.Time a.Source c
def aDq: Kn:=bH 38 0x1615a88a25e4 aPR [⟨0,[u7,u6]⟩] [] xK
abbrev aPQ:=aDq::aPR
def uQ(n:Nat): (aY×List aY×List aY×Int)->((Int×Int)->Option R)->((aY->Option R)×(Int->Option R)×Unit)->(Int×Int)->Option R:=λ(a,b,c,d) f (g,h,_) (i,j)=>cd (j<d) (bnd (idx c j) λl=>cnd (l.Office != a.Office) (f (i,(wr<|j+1)))<|cnd (l.Seq==a.Seq) (g l)<|f ((oB i l.Seq),(wr<|j+1)))<|h i
def R2:=qB uQ
def UO: Lc 21 0 0:=bL 0x122b2e2b47a26b05cabea1c9d2427b932bdf2bf37a153dab5e1b837b1f242114810474995a7fdbfd1644b142f80018e37396cf30b52b7384747ccbe9865444bd17f2a1 aPQ [] [] @uQ
def uP: (List Aab×List aR×List Int×List aH×List aY×Int)->((List aY×Int)->Option R)->(((List aY)->Option R)×Unit)->(List aY×Int)->Option R:=λ(a,b,c,d,f,g) h (i,_) (j,l)=>cd (l<g) (bnd (idx f l) λm=>bnd (xK n m) λo=>bnd (app j [o]) λr=>h (r,(wr<|l+1)))<|i j
def R1:=qW uP
def UN: Lc 21 0 1:=bL 0x3c1d14a550a7c9f6dcc75c72400fb89fc1483f19fdc3e08a4679baa167878889b61fada87b6b3563b95633c007b97833e03477c7 aPQ [] [] @uP
def Jt: Nat->eK->aY->Option (eK×Int)
 | 0,_,_=>none
 | n+1,a,b=>bnd (rV n b) λc=>cnd (c != 0) (some ((eK.mk (aK.mk (aM.mk [] [] []) []) []),c))<|cd ((ln a.Txns)>=256) (some ((eK.mk (aK.mk (aM.mk [] [] []) []) []),3))<|bnd2 (R2 n (b,[],a.Txns,(ln a.Txns)) (0,0)) (λ_=>some ((eK.mk (aK.mk (aM.mk [] [] []) []) []),8)) λd=>bnd (some d) λf=>cnd ((wr<|b.Seq-1) != f) (some ((eK.mk (aK.mk (aM.mk [] [] []) []) []),10))<|bnd (Rx n a.Survey b.Edits) λg=>cnd (g.2.2 != 0) (some ((eK.mk (aK.mk (aM.mk [] [] []) []) []),g.2.2))<|bnd (R1 n (g.1.Plan.Nodes,g.1.Plan.Arcs,g.1.Plan.Faces,g.1.Features,a.Txns,(ln a.Txns)) ([],0)) λh=>bnd (xK n b) λi=>bnd (app h [i]) λj=>some ((eK.mk g.1 j),0)
def aBy: Kn:=bH 21 0x51590fc1c1a49a0732b145d5e53a09ff aPQ [⟨0,[UO]⟩,⟨1,[UN]⟩] [] Jt
abbrev aTk:=aBy::aPQ
def kD: (oU×List aY×Int)->((List Aab×List aR×List Int×List aH×List aY×List aY×Int)->Option R)->(((List Aab×List aR×List Int×List aH×List aY×List aY)->Option R)×Unit)->(List Aab×List aR×List Int×List aH×List aY×List aY×Int)->Option R:=λ(a,b,c) d (f,_) (g,h,i,j,l,m,o)=>cd (o<c) (bnd (idx b o) λr=>bnd (wW n a r.Office r.Seq) λs=>cnd s (bnd (Jt n (eK.mk (aK.mk (aM.mk g h i) j) l) r) λt=>cnd (t.2==0) (d (t.1.Survey.Plan.Nodes,t.1.Survey.Plan.Arcs,t.1.Survey.Plan.Faces,t.1.Survey.Features,t.1.Txns,m,(wr<|o+1)))<|bnd (dW n r) λu=>bnd (app m [u]) λv=>d (g,h,i,j,l,v,(wr<|o+1)))<|bnd (dW n r) λw=>bnd (app m [w]) λx=>d (g,h,i,j,l,x,(wr<|o+1)))<|f (g,h,i,j,l,m)
def VK:=qW kD
def JL: Lc 5 0 0:=bL 0x1562dbd04573e203d7d03c8868b812ed00d4a1c28f16168d328148603f82745461810939d8dd3e971440843ac6c098be aTk [] [] @kD
def dX: Nat->bK->Option (eK×List aY×Int)
 | 0,_=>none
 | n+1,a=>bnd (fL n a) λb=>cnd b (bnd (Fs n a.Txns) λc=>bnd (VK n (c,a.Txns,(ln a.Txns)) ([],[],[],[],[],[],0)) λd=>some ((eK.mk (aK.mk (aM.mk d.1 d.2.1 d.2.2.1) d.2.2.2.1) d.2.2.2.2.1),d.2.2.2.2.2,0))<|some ((eK.mk (aK.mk (aM.mk [] [] []) []) []),[],19)
def B9: Kn:=bH 5 0x92499b720c5d004c6137 aTk [⟨0,[JL]⟩] [] dX
abbrev aTj:=B9::aTk
def nP(n:Nat): (List Aaa×List Aaa)->(Int->Option R)->((Unit->Option R)×(Unit->Option R)×Unit)->Int->Option R:=λ(a,b) c (d,f,_) g=>cd (g<(ln a)) (bnd (idx a g) λh=>bnd (idx b g) λi=>cd (h=i) (c<|wr<|g+1)<|d ())<|f ()
def CK:=qB nP
def d9: Lc 44 0 0:=bL 0x40cb244dfdcb aTj [] [] @nP
def HD: Nat->(List Aaa)->(List Aaa)->Option Bool
 | 0,_,_=>none
 | n+1,a,b=>cnd ((ln a) != (ln b)) (some false)<|bnd2 (CK n (a,b) 0) (λ_=>some false) λc=>bnd (some c) λ_=>some true
def aCX: Kn:=bH 44 0x22517b639974 aTj [⟨0,[d9]⟩] [] HD
abbrev aTi:=aCX::aTj
def tT(n:Nat): (List Int×List Int)->(Int->Option R)->((Unit->Option R)×(Unit->Option R)×Unit)->Int->Option R:=λ(a,b) c (d,f,_) g=>cd (g<(ln a)) (bnd (idx a g) λh=>bnd (idx b g) λi=>cnd (h != i) (d ())<|c<|wr<|g+1)<|f ()
def UJ:=qB tT
def aAk: Lc 45 0 0:=bL 0x40ca25c5f1ef aTi [] [] @tT
def P3: Nat->(List Int)->(List Int)->Option Bool
 | 0,_,_=>none
 | n+1,a,b=>cnd ((ln a) != (ln b)) (some false)<|bnd2 (UJ n (a,b) 0) (λ_=>some false) λc=>bnd (some c) λ_=>some true
def aGX: Kn:=bH 45 0x2e1187dd5 aTi [⟨0,[aAk]⟩] [] P3
abbrev aTh:=aGX::aTi
def Ef: (aZ×aZ)->((Bool->Option R)×Unit)->Unit->Option R:=λ(a,b) (c,_) _=>cnd (a.Kind==b.Kind) (cnd (a.ID==b.ID) (cnd (a.A==b.A) (cnd (a.B==b.B) (cnd (a.C==b.C) (cd (a.At=b.At) (bnd (HD n a.Via b.Via) λd=>cnd d (cd (a.Name=b.Name) (bnd (P3 n a.Parts b.Parts) λf=>cnd f (c true)<|c false)<|c false)<|c false)<|c false)<|c false)<|c false)<|c false)<|c false)<|c false
def d8:=fB Ef
def ME: Lc 24 0 0:=bO 0x28a44f51e482 aTh [] [] @Ef
def xI: Nat->aZ->aZ->Option Bool
 | 0,_,_=>none
 | n+1,a,b=>bnd (d8 n (a,b)) λc=>cnd c (some true)<|some false
def O4: Kn:=bH 24 0x2e0fbf1c2 aTh [⟨0,[ME]⟩] [] xI
abbrev aPP:=O4::aTh
def Jk(n:Nat): (aY×aY)->((Bool->Option R)×Unit)->Unit->Option R:=λ(a,b) (c,_) _=>cnd (a.Office != b.Office) (c true)<|cnd (a.Seq != b.Seq) (c true)<|cnd (a.Time != b.Time) (c true)<|cd (a.Source=b.Source) (cnd ((ln a.Edits) != (ln b.Edits)) (c true)<|c false)<|c true
def Sz:=fB Jk
def SI: Lc 9 0 0:=bO 0xcd160e736ce745d463e0371157 aPP [] [] @Jk
def tL: (aY×aY)->(Int->Option R)->((Unit->Option R)×(Unit->Option R)×Unit)->Int->Option R:=λ(a,b) c (d,f,_) g=>cd (g<(ln a.Edits)) (bnd (idx a.Edits g) λh=>bnd (idx b.Edits g) λi=>bnd (xI n h i) λj=>cnd j (c<|wr<|g+1)<|d ())<|f ()
def O6:=qB tL
def SJ: Lc 9 0 1:=bL 0xa8cab5e49d727026991b2ff395fe8 aPP [] [] @tL
def Eg: Nat->aY->aY->Option Bool
 | 0,_,_=>none
 | n+1,a,b=>bnd (Sz n (a,b)) λc=>cnd c (some false)<|bnd2 (O6 n (a,b) 0) (λ_=>some false) λd=>bnd (some d) λ_=>some true
def aAc: Kn:=bH 9 0x275f79727979 aPP [⟨0,[SI]⟩,⟨1,[SJ]⟩] [] Eg
abbrev aTg:=aAc::aPP
def qV: (List aY×List aY)->(Int->Option R)->((Unit->Option R)×(Unit->Option R)×Unit)->Int->Option R:=λ(a,b) c (d,f,_) g=>cd (g<(ln a)) (bnd (idx a g) λh=>bnd (idx b g) λi=>bnd (Eg n h i) λj=>cnd j (c<|wr<|g+1)<|d ())<|f ()
def g9:=qB qV
def MF: Lc 6 0 0:=bL 0x40cbc2b12e89 aTg [] [] @qV
def fO: Nat->(List aY)->(List aY)->Option Bool
 | 0,_,_=>none
 | n+1,a,b=>cnd ((ln a) != (ln b)) (some false)<|bnd2 (g9 n (a,b) 0) (λ_=>some false) λc=>bnd (some c) λ_=>some true
def O5: Kn:=bH 6 0x1994587814c64ef aTg [⟨0,[MF]⟩] [] fO
abbrev aTf:=O5::aTg
def MJ: Lc 97 0 0:=bL 0x40cb244dfdcb aTf [] [] @nP
def Ls: Nat->(List Aaa)->(List Aaa)->Option Bool
 | 0,_,_=>none
 | n+1,a,b=>cnd ((ln a) != (ln b)) (some false)<|bnd2 (CK n (a,b) 0) (λ_=>some false) λc=>bnd (some c) λ_=>some true
def O9: Kn:=bH 97 0x22517b639974 aTf [⟨0,[MJ]⟩] [] Ls
abbrev aTe:=O9::aTf
def Jl: (aR×aR)->((Bool->Option R)×Unit)->Unit->Option R:=λ(a,b) (c,_) _=>cnd (a.ID==b.ID) (cnd (a.From==b.From) (cnd (a.To==b.To) (cnd (a.Left==b.Left) (cnd (a.Right==b.Right) (bnd (Ls n a.Via b.Via) λd=>cnd d (c true)<|c false)<|c false)<|c false)<|c false)<|c false)<|c false
def P1:=fB Jl
def SK: Lc 64 0 0:=bO 0x28a7d2841e0e aTe [] [] @Jl
def Eh: Nat->aR->aR->Option Bool
 | 0,_,_=>none
 | n+1,a,b=>bnd (P1 n (a,b)) λc=>cnd c (some true)<|some false
def aAj: Kn:=bH 64 0x34d566745 aTe [⟨0,[SK]⟩] [] Eh
abbrev aKj:=aAj::aTe
def CN(n:Nat): (aM×aM)->((Bool->Option R)×Unit)->Unit->Option R:=λ(a,b) (c,_) _=>cnd ((ln a.Nodes) != (ln b.Nodes)) (c true)<|cnd ((ln a.Arcs) != (ln b.Arcs)) (c true)<|cnd ((ln a.Faces) != (ln b.Faces)) (c true)<|c false
def UI:=fB CN
def aAf: Lc 42 0 0:=bO 0xcd160e736cc9d35798e27ad24b aKj [] [] @CN
def Fi(n:Nat): (aM×aM)->(Int->Option R)->((Unit->Option R)×(Unit->Option R)×Unit)->Int->Option R:=λ(a,b) c (d,f,_) g=>cd (g<(ln a.Nodes)) (bnd (idx a.Nodes g) λh=>bnd (idx b.Nodes g) λi=>cd (h=i) (c<|wr<|g+1)<|d ())<|f ()
def aFv:=qB Fi
def aAi: Lc 42 0 1:=bL 0x5c1aadb7a6f182b8e6320dbcb3059 aKj [] [] @Fi
def Fh: (aM×aM)->(Int->Option R)->((Unit->Option R)×(Unit->Option R)×Unit)->Int->Option R:=λ(a,b) c (d,f,_) g=>cd (g<(ln a.Arcs)) (bnd (idx a.Arcs g) λh=>bnd (idx b.Arcs g) λi=>bnd (Eh n h i) λj=>cnd j (c<|wr<|g+1)<|d ())<|f ()
def aFu:=qB Fh
def aAh: Lc 42 0 2:=bL 0x314acf049166240a1a35fa0cb4da06c5 aKj [] [] @Fh
def Fg(n:Nat): (aM×aM)->(Int->Option R)->((Unit->Option R)×(Unit->Option R)×Unit)->Int->Option R:=λ(a,b) c (d,f,_) g=>cd (g<(ln a.Faces)) (bnd (idx a.Faces g) λh=>bnd (idx b.Faces g) λi=>cnd (h != i) (d ())<|c<|wr<|g+1)<|f ()
def aFt:=qB Fg
def aAg: Lc 42 0 3:=bL 0x4f0a85f9e6eb11327a3f523ca9163 aKj [] [] @Fg
def P2: Nat->aM->aM->Option Bool
 | 0,_,_=>none
 | n+1,a,b=>bnd (UI n (a,b)) λc=>cnd c (some false)<|bnd2 (aFv n (a,b) 0) (λ_=>some false) λd=>bnd (some d) λ_=>bnd2 (aFu n (a,b) 0) (λ_=>some false) λf=>bnd (some f) λ_=>bnd2 (aFt n (a,b) 0) (λ_=>some false) λg=>bnd (some g) λ_=>some true
def aGW: Kn:=bH 42 0x2e0ae910f aKj [⟨0,[aAf]⟩,⟨1,[aAi]⟩,⟨2,[aAh]⟩,⟨3,[aAg]⟩] [] P2
abbrev aTd:=aGW::aKj
def MH: Lc 65 0 0:=bL 0x40ca25c5f1ef aTd [] [] @tT
def Lr: Nat->(List Int)->(List Int)->Option Bool
 | 0,_,_=>none
 | n+1,a,b=>cnd ((ln a) != (ln b)) (some false)<|bnd2 (UJ n (a,b) 0) (λ_=>some false) λc=>bnd (some c) λ_=>some true
def O7: Kn:=bH 65 0x2e1187dd5 aTd [⟨0,[MH]⟩] [] Lr
abbrev aTc:=O7::aTd
def uL: (aH×aH)->((Bool->Option R)×Unit)->Unit->Option R:=λ(a,b) (c,_) _=>cnd (a.ID==b.ID) (cnd (a.Kind==b.Kind) (cnd (a.Class==b.Class) (cd (a.Name=b.Name) (bnd (Lr n a.Parts b.Parts) λd=>cnd d (c true)<|c false)<|c false)<|c false)<|c false)<|c false
def HE:=fB uL
def Ta: Lc 43 0 0:=bO 0x28a55df7cb1c aTc [] [] @uL
def nQ: Nat->aH->aH->Option Bool
 | 0,_,_=>none
 | n+1,a,b=>bnd (HE n (a,b)) λc=>cnd c (some true)<|some false
def MI: Kn:=bH 43 0x275f4c6e8943 aTc [⟨0,[Ta]⟩] [] nQ
abbrev aPO:=MI::aTc
def CM: (aK×aK)->((Bool->Option R)×Unit)->Unit->Option R:=λ(a,b) (c,_) _=>bnd (P2 n a.Plan b.Plan) λd=>cnd d (cnd ((ln a.Features) != (ln b.Features)) (c true)<|c false)<|c true
def UH:=fB CM
def aAd: Lc 23 0 0:=bO 0xcd160e736c9da79c69f33c1aeb aPO [] [] @CM
def Ff: (aK×aK)->(Int->Option R)->((Unit->Option R)×(Unit->Option R)×Unit)->Int->Option R:=λ(a,b) c (d,f,_) g=>cd (g<(ln a.Features)) (bnd (idx a.Features g) λh=>bnd (idx b.Features g) λi=>bnd (nQ n h i) λj=>cnd j (c<|wr<|g+1)<|d ())<|f ()
def aFs:=qB Ff
def aAe: Lc 23 0 1:=bL 0xa8cab5e49d7218b3620a900a0ae20 aPO [] [] @Ff
def O8: Nat->aK->aK->Option Bool
 | 0,_,_=>none
 | n+1,a,b=>bnd (UH n (a,b)) λc=>cnd c (some false)<|bnd2 (aFs n (a,b) 0) (λ_=>some false) λd=>bnd (some d) λ_=>some true
def aGV: Kn:=bH 23 0x225180f1d601 aPO [⟨0,[aAd]⟩,⟨1,[aAe]⟩] [] O8
abbrev aTb:=aGV::aPO
def CL: (eK×eK)->((Bool->Option R)×Unit)->Unit->Option R:=λ(a,b) (c,_) _=>bnd (O8 n a.Survey b.Survey) λd=>cnd d (bnd (fO n a.Txns b.Txns) λf=>cnd f (c true)<|c false)<|c false
def UG:=fB CL
def aAb: Lc 7 0 0:=bO 0x16940142f500c648ec aTb [] [] @CL
def MG: Nat->eK->eK->Option Bool
 | 0,_,_=>none
 | n+1,a,b=>bnd (UG n (a,b)) λc=>cnd c (some true)<|some false
def aGU: Kn:=bH 7 0x1994676062dddb7 aTb [⟨0,[aAb]⟩] [] MG
abbrev aPN:=aGU::aTb
def Sw(n:Nat): (Int×Int×Int)->((Bool->Option R)×Unit)->Unit->Option R:=λ(a,b,c) (d,_) _=>cnd (a != 0) (d true)<|cnd (b != 0) (d true)<|cnd (c != 2) (d true)<|d false
def aCT:=fB Sw
def N8: Lc 3 0 0:=bO 0x11bb60bb1738d6a199e338c8fa4e6adfbb6abdb55722e5b aPN [] [] @Sw
def Sv: (bK×bK×eK×eK×Int×Int×List aY×Int×List aY×Int)->((Bool->Option R)×Unit)->Unit->Option R:=λ(a,b,c,d,f,g,h,i,j,l) (m,_) _=>cnd (f==0) (cnd (g==0) (bnd (fO n a.Txns b.Txns) λo=>cnd o (cnd (i==0) (cnd (l==0) (bnd (MG n c d) λr=>cnd r (cnd ((ln h)==1) (cnd ((ln j)==1) (bnd (idx h 0) λs=>cnd (s.Office==2) (cnd ((ln c.Survey.Plan.Nodes)==1) (bnd (idx c.Survey.Plan.Nodes 0) λt=>cnd (t.At.X==0) (m true)<|m false)<|m false)<|m false)<|m false)<|m false)<|m false)<|m false)<|m false)<|m false)<|m false)<|m false
def aCS:=fB Sv
def N7: Lc 3 0 1:=bO 0x359756c7ad4131f67c6ce532aca1a65b3ee8e9f00be85c14090927b69ede63dc58c aPN [] [] @Sv
def pC: Nat->Option Bool
 | 0=>none
 | n+1=>bnd (Kv n 1) λa=>bnd (Kv n 2) λb=>bnd (Kv n 9) λc=>bnd (aCT n (a.2,b.2,c.2)) λd=>cnd d (some false)<|bnd (N4 n 1 0) λf=>bnd (Qa n a.1 1 (⟨#[]⟩:ByteArray) f) λg=>bnd (N4 n 1 5) λh=>bnd (Qa n b.1 2 (⟨#[85,114]⟩:ByteArray) h) λi=>cnd (g.2 != 0) (some false)<|cnd (i.2 != 0) (some false)<|bnd (Fs n g.1.Txns) λj=>bnd (Pv n i.1 j) λl=>bnd (gA n g.1 l) λm=>bnd (Fs n i.1.Txns) λo=>bnd (Pv n g.1 o) λr=>bnd (gA n i.1 r) λs=>bnd (dX n m.1) λt=>bnd (dX n s.1) λu=>bnd (aCS n (m.1,s.1,t.1,u.1,m.2,s.2,t.2.1,t.2.2,u.2.1,u.2.2)) λv=>cnd v (some true)<|some false
def aFo: Kn:=bH 3 0x2d88e5 aPN [⟨0,[N8]⟩,⟨1,[N7]⟩] [] pC
abbrev aTa:=aFo::aPN
def CJ: (bK×bK)->((Bool->Option R)×Unit)->Unit->Option R:=λ(a,b) (c,_) _=>cnd (a.ID==b.ID) (bnd (fO n a.Txns b.Txns) λd=>cnd d (c true)<|c false)<|c false
def UF:=fB CJ
def aAa: Lc 8 0 0:=bO 0x28a67348f1be aTa [] [] @CJ
def O3: Nat->bK->bK->Option Bool
 | 0,_,_=>none
 | n+1,a,b=>bnd (UF n (a,b)) λc=>cnd c (some true)<|some false
def aGT: Kn:=bH 8 0x225177e55441 aTa [⟨0,[aAa]⟩] [] O3
abbrev aNm:=aGT::aTa
def nG: (bK×bK×List aY×List aY)->((Bool->Option R)×Unit)->Unit->Option R:=λ(a,b,c,d) (f,_) _=>cd ((ln c) > 7) (f true)<|cd ((ln d) > 7) (f true)<|bnd (Tz n c) λg=>cnd g (bnd (Tz n d) λh=>cnd h (cd ((ln a.Txns) > 0) (f true)<|cd ((ln b.Txns) > 0) (f true)<|f false)<|f true)<|f true
def qT:=fB nG
def Fe: Lc 0 0 0:=bO 0x4aeb30a49dff20ecd90786c730699ee6de89010ba9eb5786dfa37e3 aNm [] [] @nG
def nF: (bK×bK)->((Bool->Option R)×Unit)->Unit->Option R:=λ(a,b) (c,_) _=>bnd (pC n) λd=>cnd d (cnd ((wr<|(ln a.Txns)*(ln b.Txns))==0) (c true)<|c false)<|c false
def eJ:=fB nF
def Fd: Lc 0 0 1:=bO 0x12be590c157b5866a1938192d33a922a8fbcb31fba18 aNm [] [] @nF
def nE: (bK×bK×eK×eK×List aY×Int×List aY×Int)->((Bool->Option R)×Unit)->Unit->Option R:=λ(a,b,c,d,f,g,h,i) (j,_) _=>bnd (fO n a.Txns b.Txns) λl=>cnd l (cnd (g != 0) (j true)<|cnd (i != 0) (j true)<|bnd (MG n c d) λm=>cnd m (bnd (fO n f h) λo=>cnd o (j false)<|j true)<|j true)<|j true
def qS:=fB nE
def Fc: Lc 0 0 2:=bO 0x13d625eff51e0a37fd2fe438f16d27627460e65ada179e7b5cc6d05c7293ef069689048752d7c30599ab53c299214fa60635a3 aNm [] [] @nE
def nD: (bK×bK×Int)->((Bool->Option R)×Unit)->Unit->Option R:=λ(a,b,c) (d,_) _=>bnd (pC n) λf=>cnd f (cnd (c==0) (bnd (O3 n b a) λg=>cnd g (d true)<|d false)<|d false)<|d false
def qR:=fB nD
def Fb: Lc 0 0 3:=bO 0xa6aeac0daaabbbe28f3796181661dada93279bb5fa4a14605 aNm [] [] @nD
def iE: Nat->bK->bK->(List aY)->(List aY)->Option Bool
 | 0,_,_,_,_=>none
 | n+1,a,b,c,d=>bnd (qT n (a,b,c,d)) λf=>cnd f (bnd (pC n) λg=>cnd g (some true)<|some false)<|bnd (app ([]:List aY) c) λh=>bnd (app h d) λi=>bnd (gA n a i) λj=>bnd (app ([]:List aY) d) λl=>bnd (app l c) λm=>bnd (app m d) λo=>bnd (gA n b o) λr=>cnd (j.2 != 0) (bnd (eJ n (j.1,r.1)) λs=>cnd s (some true)<|some false)<|cnd (r.2 != 0) (bnd (eJ n (j.1,r.1)) λt=>cnd t (some true)<|some false)<|bnd (dX n j.1) λu=>bnd (dX n r.1) λv=>bnd (qS n (j.1,r.1,u.1,v.1,u.2.1,u.2.2,v.2.1,v.2.2)) λw=>cnd w (some false)<|bnd (gA n j.1 c) λx=>bnd (qR n (j.1,x.1,x.2)) λy=>cnd y (some true)<|some false
def rE: Kn:=bH 0 0x33b6f0ae688763a651cbf09d45ccc13f aNm [⟨0,[Fe]⟩,⟨1,[Fd]⟩,⟨2,[Fc]⟩,⟨3,[Fb]⟩] [] iE
end
end
def aB{α:Type}(f:Nat->Nat->Option α)(P:α->Prop): Prop:=∃r,P r/\∃K,∀n m,K<=n->K<=m->f n m=some r
section
variable {α β γ:Type}{P:α->Prop}{Q:β->Prop}{R:γ->Prop}
theorem aA{x:α}(h:P x): aB (λ_ _=>some x) P:=⟨x,h,0,λ_ _ _ _=>rfl⟩
theorem aB.imp{a:α->Prop}{f:Nat->Nat->Option α}(h:aB f P)(k:∀r,P r->a r): aB f a:=by
 let⟨r,b,K,c⟩:=h;exact⟨r,k r b,K,c⟩
theorem aD{f:Nat->Nat->Option β}{g:Nat->Nat->β->Option α}(h:aB f Q)(k:∀r,Q r->aB (λn m=>g n m r) P): aB (λn m=>Av.bnd (f n m)<|g n m) P:=by
 let⟨r,a,K,d⟩:=h;let⟨s,b,J,c⟩:=k r a;refine⟨s,b,max K J,λn m j l=>?_⟩;have i:=d n m (by omega)<|by omega
 show Av.bnd (f n m) (g n m)=some s;rw[i];exact c n m (by omega)<|by omega
theorem aE{o:Option β}{g:Nat->Nat->β->Option α}{x:β}(e:o=some x)(k:aB (λn m=>g n m x) P): aB (λn m=>Av.bnd o<|g n m) P:=by
 subst e;exact k
def Su(Q:β->Prop)(R:γ->Prop): β⊕γ->Prop
 | .inl a=>Q a
 | .inr b=>R b
theorem aO{f:Nat->Nat->Option (β⊕γ)}{g:Nat->Nat->β->Option α}{k:Nat->Nat->γ->Option α}(h:aB f<|Su Q R)(o:∀a,Q a->aB (λn m=>g n m a) P)(l:∀b,R b->aB (λn m=>k n m b) P): aB (λn m=>Av.bnd2 (f n m) (g n m)<|k n m) P:=by
 let⟨r,j,K,i⟩:=h;cases r with
 | inl a=>
  let⟨s,d,J,c⟩:=o a j;refine⟨s,d,max K J,λn m q p=>?_⟩;show Av.bnd2 (f n m) (g n m) (k n m)=some s;rw[i n m (by omega)<|by omega];exact c n m (by omega)<|by omega
 | inr a=>
  let⟨s,d,J,c⟩:=l a j;refine⟨s,d,max K J,λn m q p=>?_⟩;show Av.bnd2 (f n m) (g n m) (k n m)=some s;rw[i n m (by omega)<|by omega];exact c n m (by omega)<|by omega
theorem aC{b:Bool}{x y:Nat->Nat->Option α}(c:b=true->aB x P)(a:b=false->aB y P): aB (λn m=>Av.cnd b (x n m)<|y n m) P:=by
 cases b with
 | true=>exact c rfl
 | false=>exact a rfl
theorem aT{g:Nat->Nat->Nat->Option α}(h:aB (λn m=>g (n+1) m n) P): aB (λn m=>Av.bnd (Av.prd n)<|g n m) P:=by
 let⟨r,a,K,b⟩:=h;refine⟨r,a,K+1,λn m c d=>?_⟩;cases n with
 | zero=>omega
 | succ n=>exact b n m (by omega)<|by omega
theorem aS{f:Nat->Option α}{g:Nat->Option α}(e:∀n,f (n+1)=g n)(h:aB (λn _=>g n) P): aB (λn _=>f n) P:=by
 let⟨r,a,K,b⟩:=h;refine⟨r,a,K+1,λn m c d=>?_⟩;cases n with
 | zero=>omega
 | succ n=>show f (n+1)=some r;rw[e];exact b n m (by omega)<|by omega
theorem aB.lp{f:Nat->Nat->Option α}{g:Nat->Nat->Option α}(e:∀n m,f n (m+1)=g n m)(h:aB g P): aB f P:=by
 let⟨r,a,K,b⟩:=h;refine⟨r,a,K+1,λn m c d=>?_⟩;cases m with
 | zero=>omega
 | succ m=>rw[e];exact b n m (by omega)<|by omega
theorem aU{f:Nat->Nat->Option α}(h:aB f P): aB (λn _=>f n n) P:=by
 let⟨r,b,K,c⟩:=h;exact⟨r,b,K,λn m a d=>c n n a a⟩
theorem HB{f:Nat->Option α}(h:aB (λn _=>f n) P): aB (λn _=>f<|n+1) P:=by
 let⟨r,a,K,c⟩:=h;exact⟨r,a,K,λn m d b=>c (n+1) m (by omega) b⟩
theorem bD{l:List β}{i:Nat}{f:Nat->Nat->β->Option α}{e:Nat->Nat->Option α}(c:∀x,l[i]?=some x->i<l.length->aB (λn m=>f n m x) P)(b:l.length<=i->aB e P):
 aB (λn m=>Av.cnd (decide<|(i:Int)<((l.length:Nat):Int)) (Av.bnd (idx l (i:Int))<|f n m)<|e n m) P:=by
 refine aC (λh=>?_) λh=>b ?_
 .have a:i<l.length:=by have:=Zl h;omega
  exact aE (x:=l[i]) (by rw[bP];exact Zb a)<|c _ (Zb a) a
 .have:=Zp h;omega
theorem aB.uniq{f:Nat->Nat->Option α}{r:α}(h:aB f λx=>x=r)(k:aB f P): P r:=by
 let⟨_,rfl,K,d⟩:=h;let⟨s,e,J,g⟩:=k;have c:=d (max K J) (max K J) (by omega)<|by omega
 have b:=g (max K J) (max K J) (by omega)<|by omega
 rw[c] at b;cases b;exact e
theorem aB.val{f:Nat->Nat->Option α}(k:aB f P): ∃r,P r/\aB f λx=>x=r:=by
 let⟨s,a,J,b⟩:=k;exact⟨s,a,s,rfl,J,b⟩
theorem Sq{l:List α}{x:α}(h:l.length<=100000): app l [x]=some (l++[x]):=tJ<|by simp;omega
end
def qC{Q V X:Type}(B:Nat->Q->(V->Option X)->((X->Option X)×Unit)->V->Option X)(n m:Nat)(p:Q)(q:V): Option X:=lpB (λk q=>B n p k (λt=>some t,()) q) m q
def oW{Q V X Y:Type}(B:Nat->Q->(V->Option (X⊕Y))->((X->Option (X⊕Y))×(Y->Option (X⊕Y))×Unit)->V->Option (X⊕Y))(n m:Nat)(p:Q)(q:V): Option<|X⊕Y:=lpB (λk q=>B n p k (λt=>some<|.inl t,λt=>some<|.inr t,()) q) m q
def lm3{Q V X Y Z:Type}(B:Nat->Q->(V->Option (X⊕Y⊕Z))->((X->Option (X⊕Y⊕Z))×(Y->Option (X⊕Y⊕Z))×(Z->Option (X⊕Y⊕Z))×Unit)->V->Option (X⊕Y⊕Z))(n m:Nat)(p:Q)(q:V): Option<|X⊕Y⊕Z:=lpB (λk q=>B n p k (λt=>some<|.inl t,λt=>some<|.inr<|.inl t,λt=>some<|.inr<|.inr t,()) q) m q
theorem cA{Q V X:Type}{P:X->Prop}{B:Nat->Q->(V->Option X)->((X->Option X)×Unit)->V->Option X}{p:Q}{q:V}(h:aB (λn m=>B n p (λq=>qC B n m p q) (λt=>some t,()) q) P): aB (λn m=>qC B n m p q) P:=aB.lp (λ_ _=>rfl) h
theorem bN{Q V X Y:Type}{P:X⊕Y->Prop}{B:Nat->Q->(V->Option (X⊕Y))->((X->Option (X⊕Y))×(Y->Option (X⊕Y))×Unit)->V->Option (X⊕Y)}{p:Q}{q:V}(h:aB (λn m=>B n p (λq=>oW B n m p q) (λt=>some<|.inl t,λt=>some<|.inr t,()) q) P): aB (λn m=>oW B n m p q) P:=aB.lp (λ_ _=>rfl) h
theorem aNa{Q V X Y Z:Type}{P:X⊕Y⊕Z->Prop}{B:Nat->Q->(V->Option (X⊕Y⊕Z))->((X->Option (X⊕Y⊕Z))×(Y->Option (X⊕Y⊕Z))×(Z->Option (X⊕Y⊕Z))×Unit)->V->Option (X⊕Y⊕Z)}{p:Q}{q:V}(h:aB (λn m=>B n p (λq=>lm3 B n m p q) (λt=>some<|.inl t,λt=>some<|.inr<|.inl t,λt=>some<|.inr<|.inr t,()) q) P): aB (λn m=>lm3 B n m p q) P:=aB.lp (λ_ _=>rfl) h
abbrev Tt{α:Type}(f:Nat->Nat->Option α): Prop:=aB f λ_=>True
theorem i64_in(x:Int)(h:-9223372036854775808<=x/\x<=9223372036854775807): IntKind.i64.wrap x=x:=by rw[Xe];omega
theorem bV{i:Nat}(h:i<1000000): wr ((i:Int)+1)=((i+1:Nat):Int):=by rw[wr,i64_in _<|by omega];push_cast;rfl
def xH{α:Type}(l:List α)(i:Nat)(Q:α->Prop): Prop:=∀(j:Nat) (x:α),j<i->l[j]?=some x->Q x
theorem xH.nil{α:Type}{l:List α}{Q:α->Prop}: xH l 0 Q:=λj x h _=>by omega
theorem xH.step{α:Type}{l:List α}{i:Nat}{Q:α->Prop}{x:α}(h:xH l i Q)(d:l[i]?=some x)(e:Q x): xH l (i+1) Q:=λj y f b=>by
 by_cases c:j=i
 .subst c;rw[d] at b;cases b;exact e
 .exact h j y (by omega) b
theorem xH.fin{α:Type}{l:List α}{i:Nat}{Q:α->Prop}(h:xH l i Q)(c:l.length<=i): ∀x∈l,Q x:=λx b=>by
 let⟨j,a⟩:=Yi.1 b;exact h j x (by have:=(Ze.1 a).1;omega) a
structure Sm(p:aM): Prop where
 n:p.Nodes.length<=300
 a:p.Arcs.length<=300
 f:p.Faces.length<=300
 v:∀a∈p.Arcs,a.Via.length<=300
theorem aE2(p:List Aab)(d:p.length<=300)(i:Nat)(l:List Int)(b:l=(p.take i).map Aab.ID): aB (λn m=>qC jS n m (p,ln p) (l,(i:Int))) λr=>r=p.map Aab.ID:=
 cA<|bD (λx e c=>aE (Sq<|by rw[b];simp;omega)<|by
  rw[bV<|by omega];exact aE2 p d (i+1) _<|by rw[b,YX,e];simp)
  (λa=>aA<|by rw[b,ZW a])
termination_by p.length-i
theorem aE1(p:List aR)(d:p.length<=300)(i:Nat)(l:List Int)(b:l=(p.take i).map aR.ID): aB (λn m=>qC jR n m (p,ln p) (l,(i:Int))) λr=>r=p.map aR.ID:=
 cA<|bD (λx e c=>aE (Sq<|by rw[b];simp;omega)<|by
  rw[bV<|by omega];exact aE1 p d (i+1) _<|by rw[b,YX,e];simp)
  (λa=>aA<|by rw[b,ZW a])
termination_by p.length-i
theorem aUD(p:aM)(b:Sm p): aB (λn _=>sG n p) λr=>r=(p.Nodes.map Aab.ID,p.Arcs.map aR.ID):=
 aS (λ_=>rfl)<|aD (aU<|aE2 _ b.n 0 [] rfl) λv d=>aD (aU<|aE1 _ b.a 0 [] rfl) λw c=>aA<|by rw[d,c]
def Asc(l:List Int): Prop:=∀j x y,l[j]?=some x->l[j+1]?=some y->x<y
theorem M5(l:List Int)(k:l.length<=1000)(i:Nat)(p:1<=i)(f:∀j x y,j+1<i->l[j]?=some x->l[j+1]?=some y->x<y): aB (λn m=>oW lN n m l (i:Int))<|Su (λ_=>True) λ_=>Asc l:=
 bN<|aC (λh=>by
  have d:i<l.length:=by have:(i:Int)<(l.length:Int):=Zl h;omega
  have o:wr ((i:Int)-1)=((i-1:Nat):Int):=by rw[wr,i64_in _<|by omega];omega
  rw[o];refine aE (x:=l[i-1]) (by rw[bP];exact Zb<|by omega)<|aE (x:=l[i]) (by rw[bP];exact Zb d)<|aC (λ_=>aA trivial) λg=>?_;rw[bV<|by omega];refine M5 l k (i+1) (by omega) λj x y q c b=>?_;by_cases e:j+1=i
  .subst e;rw[Zb<|by omega] at c b;cases c;cases b;have:=Zp g;simp only[Nat.add_sub_cancel] at this;omega
  .exact f j x y (by omega) c b)
  (λh=>aA λj x y c b=>by
   have:¬(i:Int)<(l.length:Int):=Zp h;exact f j x y (by have:=(Ze.1 b).1;omega) c b)
termination_by l.length-i
theorem aMT(l:List Int)(a:l.length<=1000): aB (λn _=>kQ n l) λr=>r=true->Asc l:=
 aS (λ_=>rfl)<|aO (aU<|M5 l a 1 (by omega) λj x y b _ _=>by omega) (λ_ _=>aA<|by simp) λ_ h=>aA λ_=>h
theorem aL8(x:Int): aB (λn _=>sF n x) λr=>r=false->1<=x/\x<=1073741824:=
 aS (λ_=>rfl)<|aC (λ_=>aA<|by simp) λb=>aC (λ_=>aA<|by simp) λa=>aA λ_=>by
  have:=Zp b;have:=Zp a;omega
theorem aEb(l:List Int)(f:l.length<=1000)(i:Nat)(b:xH l i λx=>1<=x/\x<=1073741824): aB (λn m=>oW nY n m (l,ln l) (i:Int)) (Su (λv=>0<=v) λ_=>∀x∈l,1<=x/\x<=1073741824):=
 bN<|bD (λx e c=>aD (aL8 x) λr d=>aC (λ_=>aA<|by show (0:Int)<=(i:Int);omega) λh=>by
  rw[bV<|by omega];exact aEb l f (i+1)<|b.step e<|d h)
  (λa=>aA<|b.fin a)
termination_by l.length-i
theorem aL9(l:List Int)(b:l.length<=1000): aB (λn _=>nA n l) λr=>r=true->∀x∈l,1<=x/\x<=1073741824:=
 aS (λ_=>rfl)<|aD (Q:=λr=>r=false->∀x∈l,1<=x/\x<=1073741824) (aT<|aD (Q:=λv=>0<=v\/∀x∈l,1<=x/\x<=1073741824) (aT<|aO (aU<|aEb l b 0 .nil) (λv a=>aA<|.inl a) λ_ h=>aA<|.inr h)
  λv a=>aC (λ_=>aA<|by simp) λh=>aA λ_=>by have:=Zp h;rcases a with a | a;omega;exact a)
  λr c=>aC (λ_=>aA<|by simp) λh=>aA λ_=>c h
def Lt(x:Aaa): Prop:=-1048576<=x.X/\x.X<=1048576/\-1048576<=x.Y/\x.Y<=1048576
theorem SY(x:Aaa): aB (λn _=>pW n x) λr=>r=false->Lt x:=
 aC (λ_=>aA<|by simp) λb=>aC (λ_=>aA<|by simp) λc=>aC (λ_=>aA<|by simp) λa=>aC (λ_=>aA<|by simp) λd=>aA λ_=>by
 have:=Zp b;have:=Zp c;have:=Zp a;have:=Zp d;exact⟨by omega,by omega,by omega,by omega⟩
theorem aMQ{P:Bool->Prop}{b:Bool}(h:P b): aB (λ_ _=>cnd b (some true)<|some false) P:=by cases b<;>exact aA h
theorem aDU(x:Aaa): aB (λn _=>yM n x) λr=>r=false->Lt x:=
 aS (λ_=>rfl)<|aD (SY x) λr a=>aMQ a
theorem TB(l:List Aab)(f:l.length<=300)(i:Nat)(c:xH l i λx=>Lt x.At): aB (λn m=>oW sE n m (l,ln l) (i:Int)) (Su (λ_=>True) λ_=>∀x∈l,Lt x.At):=
 bN<|bD (λx e d=>aD (Q:=λr=>r=false->Lt x.At) (aT<|aD (SY x.At) λr b=>aMQ b) λr b=>aC (λ_=>aA trivial) λh=>by
  rw[bV<|by omega];exact TB l f (i+1)<|c.step e<|b h)
  (λa=>aA<|c.fin a)
termination_by l.length-i
theorem SZ(l:List Aaa)(f:l.length<=300)(i:Nat)(b:xH l i Lt): aB (λn m=>oW sC n m (l,ln l) (i:Int)) (Su (λv=>0<=v) λ_=>∀x∈l,Lt x):=
 bN<|bD (λx e c=>aD (aDU x) λr d=>aC (λ_=>aA<|by show (0:Int)<=(i:Int);omega) λh=>by
  rw[bV<|by omega];exact SZ l f (i+1)<|b.step e<|d h)
  (λa=>aA<|b.fin a)
termination_by l.length-i
theorem TA(l:List aR)(j:l.length<=300)(b:∀a∈l,a.Via.length<=300)(i:Nat)(e:xH l i λa=>∀y∈a.Via,Lt y): aB (λn m=>oW sD n m (l,ln l) (i:Int)) (Su (λ_=>True) λ_=>∀a∈l,∀y∈a.Via,Lt y):=
 bN<|bD (λx d f=>aD (Q:=λr=>r=false->∀y∈x.Via,Lt y) (aT<|aD (Q:=λv=>0<=v\/∀y∈x.Via,Lt y) (aT<|aO (aU<|SZ x.Via (b x<|Zg d) 0 .nil) (λv b=>aA<|.inl b) λ_ h=>aA<|.inr h)
  λv b=>aC (λ_=>aA<|by simp) λh=>aA λ_=>by have:=Zp h;rcases b with b | b;omega;exact b) λr g=>aC (λ_=>aA trivial) λh=>by
  rw[bV<|by omega];exact TA l j b (i+1)<|e.step d<|g h)
  (λc=>aA<|e.fin c)
termination_by l.length-i
theorem aLn(p:aM)(b:Sm p): aB (λn _=>Pk n p) λr=>r=true->(∀x∈p.Nodes,Lt x.At)/\∀a∈p.Arcs,∀y∈a.Via,Lt y:=
 aS (λ_=>rfl)<|aO (aU<|TB _ b.n 0 .nil) (λ_ _=>aA<|by simp) λ_ d=>aO (aU<|TA _ b.a b.v 0 .nil) (λ_ _=>aA<|by simp) λ_ c=>aA λ_=>⟨d,c⟩
theorem P8(l:List Int)(x:Int)(g:l.length<=100000)(i:Nat)(d:xH l i (·≠x)): aB (λn m=>oW jP n m (l,x,ln l) (i:Int))<|Su (λv=>0<=v/\v.toNat<l.length/\x∈l) λ_=>x∉l:=
 bN<|bD (λy f b=>aC (λh=>aA<|by
  refine⟨by omega,by simpa using b,?_⟩;rw[Wi h];exact Zg f) λh=>by
  rw[bV<|by omega];exact P8 l x g (i+1)<|d.step f λe=>by subst e;simp at h)
  (λc=>aA λh=>d.fin c x h rfl)
termination_by l.length-i
theorem aIS(l:List Int)(x:Int)(b:l.length<=100000): aB (λn _=>lG n l x) λr=>(0<=r/\r.toNat<l.length/\x∈l)\/(r=-1/\x∉l):=
 aS (λ_=>rfl)<|aO (aU<|P8 l x b 0 .nil) (λv a=>aA<|.inl a) λ_ h=>aA<|.inr ⟨rfl,h⟩
theorem Bg(l:List Int)(x:Int)(b:l.length<=100000): aB (λn _=>dP n l x) λr=>r=decide (x∈l):=
 aS (λ_=>rfl)<|aD (aIS l x b) λr a=>aC (λh=>aA (by
  rcases a with a | a
  .simp[a.2.2]
  .have:=Zl h;omega)) λh=>aA (by
  rcases a with a | a
  .have:=Zp h;omega
  .simp[a.2])
theorem aMF{α:Type}{l:List α}{a b:Nat}(d:a<=b)(c:b<=l.length): cut l (a:Int) (b:Int)=some ((l.take b).drop a):=by
 unfold cut;rw[Zu<|by omega];simp
theorem aBc(x:Aab)(l:List Aab)(b:l.length<=300)(i:Nat): aB (λn m=>oW mC n m (x,l,ln l) (i:Int))<|Su (λ_=>True) λ_=>True:=
 bN<|bD (λy c a=>aC (λ_=>aA trivial) λ_=>by
  rw[bV<|by omega];exact aBc x l b<|i+1) λ_=>aA trivial
termination_by l.length-i
theorem aBd(p:aM)(b:Sm p)(i:Nat): aB (λn m=>oW mD n m (p,p.Nodes,ln p.Nodes) (i:Int))<|Su (λ_=>True) λ_=>True:=
 bN<|bD (λy d c=>aE (aMF (a:=0) (ZG i)<|by omega)<|aO (aU<|aBc y _ (by simp;have:=b.n;omega) 0) (λ_ _=>aA trivial) λ_ _=>by
  have:=b.n;rw[bV<|by omega];exact aBd p b<|i+1) λ_=>aA trivial
termination_by p.Nodes.length-i
theorem aJP(x:aR)(a:List Int)(d:a.length<=100000): aB (λn _=>Bx n (x,a)) λr=>r=false->x.From∈a/\x.To∈a:=
 aD (Bg a x.From d) λr b=>aC (λe=>aD (Bg a x.To d) λs c=>aC (λf=>aA λ_=>by rw[e] at b;rw[f] at c;exact⟨Zl b.symm,Zl c.symm⟩) λ_=>aA<|by simp) λ_=>aA<|by simp
theorem aBb(a:List Int)(c:a.length<=100000)(l:List aR)(g:l.length<=300)(i:Nat)(d:xH l i λx=>x.From∈a/\x.To∈a): aB (λn m=>oW mB n m (a,l,ln l) (i:Int)) (Su (λ_=>True) λ_=>∀x∈l,x.From∈a/\x.To∈a):=
 bN<|bD (λy f e=>aD (aJP y a c) λr j=>aC (λ_=>aA trivial) λh=>by
  rw[bV<|by omega];exact aBb a c l g (i+1)<|d.step f<|j h) λb=>aA<|d.fin b
termination_by l.length-i
theorem aAZ(p:aM)(b:Sm p)(x:Int): aB (λn _=>pX n (p,x)) λr=>r=false->x=0\/x∈p.Faces:=
 aC (λh=>aD (Bg p.Faces x<|by have:=b.f;omega) λr a=>aC (λh=>aA λ_=>by rw[h] at a;exact .inr<|Zl a.symm) λ_=>aA<|by simp) λh=>aA λ_=>.inl<|by simpa using h
theorem N9{α:Type}{P:α->Prop}{k:Nat}{g:Nat->Nat->Unit->Option α}(h:aB (λn m=>g n m ()) P): aB (λn m=>Av.bnd (Nu<|Nat.ble k n)<|g n m) P:=by
 let⟨r,a,K,b⟩:=h;refine⟨r,a,K+k,λn m c d=>?_⟩;have:Nu (Nat.ble k n)=some ():=by rw[Yx (by omega:k<=n)];rfl
 show Av.bnd (Nu<|Nat.ble k n) (g n m)=some r;rw[this];exact b n m (by omega)<|by omega
theorem aBa(p:aM)(c:Sm p)(l:List aR)(f:l.length<=300)(i:Nat)(d:xH l i λx=>(x.Left=0\/x.Left∈p.Faces)/\(x.Right=0\/x.Right∈p.Faces)): aB (λn m=>oW mA n m (p,l,ln l) (i:Int)) (Su (λ_=>True) λ_=>∀x∈l,(x.Left=0\/x.Left∈p.Faces)/\(x.Right=0\/x.Right∈p.Faces)):=
 bN<|bD (λy k e=>N9<|aD (aAZ p c y.Left) λr j=>aC (λ_=>aA trivial) λh=>aD (aAZ p c y.Right) λs b=>aC (λ_=>aA trivial) λg=>by
  rw[bV<|by omega];exact aBa p c l f (i+1)<|d.step k ⟨j h,b g⟩) λa=>aA<|d.fin a
termination_by l.length-i
theorem aS8(p:aM)(c:Sm p)(b:List Int)(d:b.length<=100000): aB (λn _=>yP n p b) λr=>r=0->(∀x∈p.Arcs,x.From∈b/\x.To∈b)/\∀x∈p.Arcs,(x.Left=0\/x.Left∈p.Faces)/\(x.Right=0\/x.Right∈p.Faces):=
 aS (λ_=>rfl)<|aO (aU<|aBd p c 0) (λ_ _=>aA<|by simp) λ_ _=>aO (aU<|aBb b d _ c.a 0 .nil) (λ_ _=>aA<|by simp) λ_ e=>aO (aU<|aBa p c _ c.a 0 .nil) (λ_ _=>aA<|by simp) λ_ f=>aA λ_=>⟨e,f⟩
class TC{α:Type}(f:Nat->Option α): Prop where
 h:aB (λn _=>f n) λ_=>True
theorem bI{α β:Type}{P:α->Prop}{f:Nat->Option β}[t:TC f]{g:Nat->Nat->β->Option α}(k:∀r,aB (λn m=>g n m r) P): aB (λn m=>Av.bnd (f n)<|g n m) P:=aD t.h λr _=>k r
theorem dU{α:Type}{x:α}: aB (λ_ _=>some x) λ_=>True:=aA trivial
def aEc(x:Aaa): Prop:=-2097152<=x.X/\x.X<=2097152/\-2097152<=x.Y/\x.Y<=2097152
theorem aJ1(x:Aaa): aB (λn _=>KD n x) λr=>r=true->¬aEc x:=by
 refine aC (λh=>aA λ_ a=>?_) λe=>aC (λh=>aA λ_ a=>?_) λc=>aC (λh=>aA λ_ a=>?_) λd=>aC (λh=>aA λ_ a=>?_) λb=>aA (by simp);all_goals (have:=Zl h;unfold aEc at a;omega)
theorem aAD(l:List Aaa)(e:l.length<=1000)(i:Nat): aB (λn m=>oW zE n m (l,ln l) (i:Int))<|Su (λ_=>¬∀x∈l,aEc x) λ_=>True:=
 bN<|bD (λy d a=>aD (aJ1 y) λr c=>aC (λh=>aA λb=>c h<|b y<|Zg d) λh=>by
  rw[bV<|by omega];exact aAD l e<|i+1)
  (λf=>aA trivial)
termination_by l.length-i
theorem aGt(l:List Aaa)(b:l.length<=1000): aB (λn _=>oZ n l) λr=>(∀x∈l,aEc x)->r=true:=
 aS (λ_=>rfl)<|aO (aU<|aAD l b 0) (λ_ h=>aA λa=>absurd a h) λ_ _=>aA λ_=>rfl
instance aWS{a b c:Aaa}: TC (λn=>oZ n [a,b,c]):=⟨(aGt _ (by simp)).imp λ_ _=>trivial⟩
instance aWR{a b c d:Aaa}: TC (λn=>oZ n [a,b,c,d]):=⟨(aGt _ (by simp)).imp λ_ _=>trivial⟩
def twV(a b c:Aaa): Int:=wr<|(wr<|(wr<|b.X-a.X)*(wr<|c.Y-a.Y))-(wr<|(wr<|b.Y-a.Y)*(wr<|c.X-a.X))
theorem aHk(a b c:Aaa): aB (λn _=>hP n a b c) λr=>r=twV a b c:=aS (λ_=>rfl)<|aA rfl
instance aWa{a b c:Aaa}: TC (λn=>hP n a b c):=⟨(aHk a b c).imp λ_ _=>trivial⟩
section
variable {a b c d:Aaa}
instance aZ6: TC (λn=>H6 n (a,b,c)):=⟨by repeat' first | exact aA trivial | refine aC (λ_=>?_) (λ_=>?_) | refine bI λ_=>?_⟩
instance aZ5: TC (λn=>H5 n (a,b,c)):=⟨by repeat' first | exact aA trivial | refine aC (λ_=>?_) (λ_=>?_) | refine bI λ_=>?_⟩
instance aZ4: TC (λn=>tP n a b c):=⟨aS (λ_=>rfl) (by repeat' first | exact aA trivial | refine aC (λ_=>?_) (λ_=>?_) | refine bI λ_=>?_)⟩
instance aWl: TC (λn=>DW n a b c):=⟨aS (λ_=>rfl) (by repeat' first | exact aA trivial | refine aC (λ_=>?_) (λ_=>?_) | refine bI λ_=>?_)⟩
instance aXy: TC (λn=>jM n a b c):=⟨aS (λ_=>rfl) (by repeat' first | exact aA trivial | refine aC (λ_=>?_) (λ_=>?_) | refine bI λ_=>?_)⟩
instance aYf: TC (λn=>Ra n (a,b)):=⟨by repeat' first | exact aA trivial | refine aC (λ_=>?_) (λ_=>?_) | refine bI λ_=>?_⟩
instance aVg: TC (λn=>pA n a b):=⟨aS (λ_=>rfl) (by repeat' first | exact aA trivial | refine aC (λ_=>?_) (λ_=>?_) | refine bI λ_=>?_)⟩
instance aYI: TC (λn=>zD n (a,b)):=⟨by repeat' first | exact aA trivial | refine aC (λ_=>?_) (λ_=>?_) | refine bI λ_=>?_⟩
instance aYH: TC (λn=>Qx n (a,b)):=⟨by repeat' first | exact aA trivial | refine aC (λ_=>?_) (λ_=>?_) | refine bI λ_=>?_⟩
instance aYG: TC (λn=>Qw n (a,b)):=⟨by repeat' first | exact aA trivial | refine aC (λ_=>?_) (λ_=>?_) | refine bI λ_=>?_⟩
instance aTK: TC (λn=>Qy n a b c d):=⟨aS (λ_=>rfl) (by repeat' first | exact aA trivial | refine aC (λ_=>?_) (λ_=>?_) | refine bI λ_=>?_)⟩
instance aZc: TC (λn=>KH n (a,b,c,d)):=⟨by repeat' first | exact aA trivial | refine aC (λ_=>?_) (λ_=>?_) | refine bI λ_=>?_⟩
instance aZb: TC (λn=>KG n (a,b,c,d)):=⟨by repeat' first | exact aA trivial | refine aC (λ_=>?_) (λ_=>?_) | refine bI λ_=>?_⟩
instance aX2: TC (λn=>Tm n a b c d):=⟨aS (λ_=>rfl) (by repeat' first | exact aA trivial | refine aC (λ_=>?_) (λ_=>?_) | refine bI λ_=>?_)⟩
instance aWj{s:bA}: TC (λn=>jB n s):=⟨aS (λ_=>rfl) (by repeat' first | exact aA trivial | refine aC (λ_=>?_) (λ_=>?_))⟩
instance aWY{s:bA}: TC (λn=>gP n s):=⟨aS (λ_=>rfl) (by repeat' first | exact aA trivial | refine aC (λ_=>?_) (λ_=>?_))⟩
instance aZz{s t:bA}: TC (λn=>oA n (s,t)):=⟨by repeat' first | exact aA trivial | refine aC (λ_=>?_) (λ_=>?_) | refine bI λ_=>?_⟩
instance aZy{s t:bA}: TC (λn=>nZ n (s,t)):=⟨by repeat' first | exact aA trivial | refine aC (λ_=>?_) (λ_=>?_) | refine bI λ_=>?_⟩
instance aZx{t:bA}{x y z:Int}: TC (λn=>fY n (t,a,b,c,d,x,y,z)):=⟨by repeat' first | exact aA trivial | refine aC (λ_=>?_) (λ_=>?_) | refine bI λ_=>?_⟩
end
theorem aC5{α:Type}{Q:Nat->α->Prop}: ∀(l:List α),(∀x∈l,∃K,∀n,K<=n->Q n x)->∃K,∀n,K<=n->∀x∈l,Q n x
 | [],_=>⟨0,λ_ _ _ h=>by cases h⟩
 | a::l,h=>by
  let⟨K,d⟩:=h a<|ZM ..;let⟨J,c⟩:=aC5 l λx b=>h x<|ZQ _ b;refine⟨max K J,λn f x b=>?_⟩;rcases ZN.1 b with rfl | b
  .exact d n<|by omega
  .exact c n (by omega) x b
theorem N1{α β:Type}{f:α->Option β}{g:α->β}: ∀(l:List α),(∀x∈l,f x=some (g x))->BK (l.map f)=some (l.map g)
 | [],_=>rfl
 | a::l,h=>by
  simp only[ZE,BK,h a<|ZM ..,N1 l λx b=>h x<|ZQ _ b]
structure Swo{α:Type}(g:α->α->Int)(l:List α): Prop where
 ir:∀x∈l,¬g x x<0
 tr:∀x∈l,∀y∈l,∀z∈l,g x y<0->g y z<0->g x z<0
 ti:∀x∈l,∀y∈l,∀z∈l,¬g x y<0->¬g y z<0->¬g x z<0
theorem aP3{α:Type}{g:α->α->Int}{l:List α}{i j:Nat}{x y:α}(b:l[i]?=some x)(a:l[j]?=some y): at2 (l.map λx=>l.map<|g x) i j=g x y:=by
 simp[at2,Zk,b,a]
theorem Swo.tab{α:Type}{g:α->α->Int}{l:List α}(h:Swo g l): R3 l.length (l.map λx=>l.map<|g x)=true:=by
 unfold R3;simp only[Yl,Ws,Zd,YG];have e:∀i j (b:i<l.length) (c:j<l.length),ltT (l.map λx=>l.map<|g x) i j=decide (g l[i] l[j]<0):=λi j b c=>by
  unfold ltT;rw[aP3 (Zb b)<|Zb c]
 intro i b;refine⟨by rw[e i i b b];exact YI<|h.ir _<|ZP b,λj c k m=>?_⟩;rw[e i j b c,e j k c m,e i k b m];have n:=ZP b;have o:=ZP c;have mk:=ZP m;have q:=h.tr _ n _ o _ mk;have p:=h.ti _ n _ o _ mk;by_cases f:g l[i] l[j]<0
 .rw[Yj f];show (!decide (g l[j] l[k]<0)||decide (g l[i] l[k]<0))=true;by_cases d:g l[j] l[k]<0
  .rw[Yj<|q f d];simp
  .rw[YI d];rfl
 .rw[YI f];show (decide (g l[j] l[k]<0)||!decide (g l[i] l[k]<0))=true;by_cases d:g l[j] l[k]<0
  .rw[Yj d];rfl
  .rw[YI<|p f d];simp
theorem j6{α:Type}{F:Nat->α->α->Option Int}{g:α->α->Int}{l:List α}(q:∀x∈l,∀y∈l,aB (λn _=>F n x y) λr=>r=g x y)(o:Swo g l): aB (λn _=>qY (λx y=>F n x y) l) λr=>r.length=l.length/\∀x∈r,x∈l:=by
 let⟨K,e⟩:=aC5 (Q:=λn x=>∀y∈l,F n x y=some (g x y)) l λx b=>aC5 (Q:=λn y=>F n x y=some (g x y)) l λy h=>by
  obtain⟨r,rfl,K,e⟩:=q x b y h;exact⟨K,λn c=>e n n c c⟩
 cases l with
 | nil=>exact⟨[],⟨rfl,λx b=>b⟩,0,λ_ _ _ _=>rfl⟩
 | cons a l=>
  have k:∀n,K<=n->HT (λx y=>F n x y) (a::l)=some ((a::l).map λx=>(a::l).map<|g x):=λn c=>
   N1 (f:=λx=>BK<|(a::l).map λy=>F n x y) (g:=λx=>(a::l).map<|g x) (a::l) λx b=>N1 (a::l) λy h=>e n c x b y h
  have j:=o.tab;refine⟨(ixG l.length<|(a::l).map λx=>(a::l).map<|g x).map<|Fz a (a::l),⟨?_,?_⟩,K,λn m c s=>?_⟩
  .rw[ZO,aCo<|by simpa using j];rfl
  .intro x b;obtain⟨i,p,rfl⟩:=Yh.1 b;have:=aGy p;unfold Fz;rw[Zb<|by simpa using this];exact ZP _
  .have d:R3 (l.length+1) ((a::l).map λx=>(a::l).map<|g x)=true:=by simpa using j
   simp only[qY,k n c,d]
def Sa(a b:Int): Int:=if a<b then -1 else if a > b then 1 else 0
theorem fT(a b:Int): aB (λn _=>cD n a b) λr=>r=Sa a b:=by
 have d:∀a:Int,aB (λn _=>fQ n a) λr=>r=false:=λa=>aS (λ_=>rfl)<|aC (λh=>by simp at h) λ_=>aA rfl;refine aS (λ_=>rfl)<|aD (d a) λr c=>aC (λh=>by rw[c] at h;cases h) λ_=>aD (d b) λr c=>aC (λh=>by rw[c] at h;cases h) λ_=>aC (λh=>aA ?_) λe=>aC (λh=>aA ?_) λf=>aA ?_
 .unfold Sa;rw[Zu<|Zl h]
 .unfold Sa;rw[ZF<|Zp e,Zu<|Zl h]
 .unfold Sa;rw[ZF<|Zp e,ZF<|Zp f]
theorem L6{a b:Int}: Sa a b<0↔a<b:=by unfold Sa;split<;>(try split)<;>omega
theorem aK4{α:Type}(k:α->Int)(l:List α): Swo (λx y=>Sa (k x)<|k y) l where
 ir x _:=by rw[L6];omega
 tr x _ y _ z _:=by simp only[L6];omega
 ti x _ y _ z _:=by simp only[L6];omega
theorem Sp{α:Type}{l:List α}{x:α}(h:l.length<=900000): app l [x]=some (l++[x]):=tJ<|by simp;omega
theorem aG1{α:Type}{l:List α}{i:Nat}{x:α}{q:α->Bool}(a:l[i]?=some x)(h:q x=true): (l.drop i).find? q=some x:=by
 obtain⟨b,rfl⟩:=Ze.1 a;rw[XH b,List.find?_cons,h]
theorem aG2{α:Type}{l:List α}{i:Nat}{x:α}{q:α->Bool}(a:l[i]?=some x)(h:q x=false): (l.drop i).find? q=(l.drop<|i+1).find? q:=by
 obtain⟨b,rfl⟩:=Ze.1 a;rw[XH b,List.find?_cons,h]
theorem aG3{α:Type}{l:List α}{i:Nat}{q:α->Bool}(h:l.length<=i): (l.drop i).find? q=none:=by
 rw[Xo h];rfl
def kV(p:aM)(id:Int): Aab×Bool:=match p.Nodes.find? λx=>x.ID==id with
 | some x=>(x,true)
 | none=>(⟨0,⟨0,0⟩⟩,false)
def SC(p:aM)(id:Int): aR×Bool:=match p.Arcs.find? λx=>x.ID==id with
 | some x=>(x,true)
 | none=>(⟨0,0,0,[],0,0⟩,false)
theorem aBn(l:List Aab)(d:l.length<=300)(id:Int)(i:Nat): aB (λn m=>oW yQ n m (id,l,ln l) (i:Int))<|Su (λv=>∃x,(l.drop i).find? (λx=>x.ID==id)=some x/\v=(x,x)) λ_=>(l.drop i).find? (λx=>x.ID==id)=none:=
 bN<|bD (λx b c=>aC (λh=>aA ⟨x,aG1 (q:=λx=>x.ID==id) b h,rfl⟩) λh=>by
  rw[bV<|by omega,aG2 (q:=λx=>x.ID==id) b h];exact aBn l d id<|i+1)
  (λa=>aA<|aG3 a)
termination_by l.length-i
theorem SM(p:aM)(c:Sm p)(id:Int): aB (λn _=>jL n p id) λr=>r=kV p id:=
 aS (λ_=>rfl)<|aO (aU<|aBn _ c.n id 0) (λv b=>aA<|by
  obtain⟨x,a,rfl⟩:=b;rw[YD] at a;unfold kV;rw[a]) λ_ h=>aA<|by
  rw[YD] at h;unfold kV;rw[h]
theorem aFc{α:Type}(l:List α)(h:l.length<=1000000): aB (λn _=>clF n l) λr=>r=l:=
 aS (g:=λ_=>app [] l) (λ_=>rfl) ⟨l,rfl,0,λ_ _ _ _=>by rw[tJ<|by simpa using h];rfl⟩
theorem aF5(l:List aR)(g:l.length<=300)(d:∀a∈l,a.Via.length<=300)(id:Int)(i:Nat): aB (λn m=>oW Ew n m (id,l,ln l) (i:Int))<|Su (λv=>∃x,(l.drop i).find? (λx=>x.ID==id)=some x/\v=(x.ID,x.From,x.To,x.Via,x.Left,x.Right,x.ID,x.From,x.To,x.Via,x.Left,x.Right)) λ_=>(l.drop i).find? (λx=>x.ID==id)=none:=
 bN<|bD (λx c e=>aC (λh=>aD (aFc x.Via<|by have:=d x<|Zg c;omega) λr f=>aA ⟨x,aG1 (q:=λx=>x.ID==id) c h,by rw[f]⟩) λh=>by
  rw[bV<|by omega,aG2 (q:=λx=>x.ID==id) c h];exact aF5 l g d id<|i+1)
  (λb=>aA<|aG3 b)
termination_by l.length-i
theorem aNv(p:aM)(c:Sm p)(id:Int): aB (λn _=>Pp n p id) λr=>r=SC p id:=
 aS (λ_=>rfl)<|aO (aU<|aF5 _ c.a c.v id 0) (λv d=>aA<|by
  obtain⟨x,b,rfl⟩:=d;rw[YD] at b;unfold SC;rw[b]) λ_ h=>aA<|by
  rw[YD] at h;unfold SC;rw[h]
theorem xO{α:Type}{a:List<|List α}{i:Nat}{x:List α}(b:a[i]?=some x): (a.drop i).flatten=x++(a.drop<|i+1).flatten:=by
 obtain⟨c,rfl⟩:=Ze.1 b;rw[XH c,Yt]
theorem aJc{α:Type}{a:List<|List α}{i:Nat}{x:List α}(b:a[i]?=some x): (a.take<|i+1).flatten=(a.take i).flatten++x:=by
 rw[YX,b];simp
theorem aIK(c:List<|List Aaa)(g:c.length<=1000)(i a:Nat)(f:a+(c.drop i).flatten.length<=100000): aB (λn m=>qC gX n m (c,ln c) ((a:Int),(i:Int))) λr=>r=((a+(c.drop i).flatten.length:Nat):Int):=
 cA<|bD (λx k o=>by
  have e:=xO k;rw[e,Zh] at f;have l:wr ((a:Int)+ln x)=((a+x.length:Nat):Int):=by rw[wr,ln,i64_in _<|by omega];push_cast;rfl
  rw[l,bV<|by omega];refine aC (λh=>?_) λ_=>?_
  .have:=Zl h;omega
  .refine (aIK c g (i+1) (a+x.length)<|by omega).imp λr j=>?_;rw[j,e,Zh,Yu])
  (λd=>aA<|by rw[Xo d];rfl)
termination_by c.length-i
theorem aIJ(a:List<|List Aaa)(o:a.length<=1000)(N:Nat)(g:N<=100000)(i:Nat)(l:List Aaa)(k:Nat)(q:l.length=N)(d:l.take k=(a.take i).flatten)(j:k=(a.take i).flatten.length)(h:k+(a.drop i).flatten.length=N): aB (λn m=>qC gW n m (a,ln a) (l,(0,k),(i:Int))) λr=>win r.1 (some r.2)=a.flatten:=
 cA<|bD (λx f p=>by
  have e:=xO f;rw[e,Zh] at h;rw[bV<|by omega];have c:=aJc f;refine aE (x:=aQ l k x) (by unfold SD;rw[Zu<|by simp only[Z0];omega,Z0])<|aIJ a o N g (i+1) _ (k+x.length) (by simp[aQ];omega) ?_ (by rw[c,Zh,j]) (by omega);unfold aQ;rw[c,<-d,<-Ye,Yg<|by simp;omega,ZW<|by simp;omega])
  (λb=>aA<|by
   show (l.drop 0).take k=a.flatten;rw[YD,d,ZW b])
termination_by a.length-i
theorem aNi(a:List<|List Aaa)(c:a.length<=1000)(g:0<a.flatten.length)(d:a.flatten.length<=100000): aB (λn _=>lV n a) λr=>r=a.flatten:=by
 refine aS (λ_=>rfl)<|aD (aU<|aIK a c 0 0<|by simpa using d) λv e=>?_;have f:v=((a.flatten.length:Nat):Int):=by rw[e];simp
 have e2:wr (v-0)=((a.flatten.length:Nat):Int):=by rw[f,wr,i64_in _<|by omega];omega
 refine aO (Q:=λ_=>False) (R:=λr=>r=(List.replicate a.flatten.length ⟨0,0⟩,(0,0))) (aT<|aC (λh=>by have:=Zl h;omega) λ_=>aC (λ_=>?_) λh=>by rw[e2] at h;have:=Zp h;omega) (λ_ h=>h.elim) λr b=>?_
 .refine aE (x:=List.replicate a.flatten.length ⟨0,0⟩) (by rw[e2];unfold rep;rw[Zu<|by omega];simp)<|aC (λh=>?_) λ_=>aE (x:=(0,0)) (by unfold sub;rw[Zu<|by simp];rfl)<|aA rfl;rw[Vd] at h;have:=congrArg List.length h;rw[Yo,Z1] at this;omega
 .subst b;exact aE rfl<|aD (aU<|aIJ a c a.flatten.length d 0 _ 0 (by simp) (by simp) (by simp)<|by simp) λr b=>aA b
def dQ(p:aM)(id:Int): List Aaa×Int:=match (SC p id).2&&(kV p (SC p id).1.From).2&&(kV p (SC p id).1.To).2 with
 | true=>([(kV p (SC p id).1.From).1.At]++(SC p id).1.Via++[(kV p (SC p id).1.To).1.At],0)
 | false=>([],7)
theorem aFi(p:aM)(a:Sm p)(id:Int): (SC p id).1.Via.length<=300:=by
 unfold SC;split
 .rename_i x h;exact a.v x<|Xf h
 .simp
theorem aCY(p:aM)(a:Sm p)(id:Int): aB (λn _=>xM n p id) λr=>r=dQ p id:=by
 have k:=aFi p a id;refine aS (λ_=>rfl)<|aD (aNv p a id) λl j=>?_;subst j;refine aC (λc=>aD (SM p a _) λg f=>?_) λc=>aD (SM p a _) λg f=>?_;all_goals subst f;all_goals refine aC (λb=>aD (SM p a _) λi e=>?_) λb=>aD (SM p a _) λi e=>?_;all_goals subst e;all_goals refine aC (λd=>aD (Q:=λ_=>True) (aA trivial) λ_ _=>?_) λd=>aD (Q:=λ_=>True) (aA trivial) λ_ _=>?_
 .refine aD (aNi _ (by simp) (by simp)<|by simp;omega) λr h=>aA ?_;unfold dQ;rw[c,b,d,h];simp
 all_goals (refine aA ?_;unfold dQ;rw[c,b,d];rfl)
theorem Ks(p:aM)(a:Sm p)(id:Int): (dQ p id).1.length<=302:=by
 have b:=aFi p a id;unfold dQ;split
 .simp;omega
 .simp
theorem yS{p:aM}{id:Int}(h:(dQ p id).2=0): 2<=(dQ p id).1.length:=by
 unfold dQ at h |-;split
 .simp
 .rename_i a;rw[a] at h;cases h
def aKe(l:List Aaa): Prop:=∀(j:Nat) (x y:Aaa),l[j]?=some x->l[j+1]?=some y->x≠y
structure wV(s:bA): Prop where
 h0:0<=s.at_
 h1:s.at_.toNat+1<s.line.path.length
 h2:s.line.path.length<=302
theorem aKQ(x:aR)(l:List Aaa)(v:Int): aB (λn _=>Gb n (x,l,v)) λr=>r=false->v=0:=by
 refine aC (λ_=>aA<|by simp) λh=>aC (λ_=>aC (λ_=>aA<|by simp) λ_=>aA λ_=>?_) λ_=>aA λ_=>?_;all_goals simpa using h
theorem aD6(v:List Aaa)(g:aBp)(p:g.path=v)(C:2<=v.length)(t:v.length<=302)(i:Nat)(l:List bA)(B:Nat)(A:l.length<=B+i/\B<=100000)(F:i+1<=v.length)(u:∀s∈l,wV s)(q:∀(j:Nat) (x y:Aaa),j<i->v[j]?=some x->v[j+1]?=some y->x≠y):
 aB (λn m=>oW nW n m (v,g,wr<|ln v-1) (l,(i:Int)))<|Su (λ_=>True) λr=>r.length<=B+302/\(∀s∈r,wV s)/\aKe v:=by
 have z:wr (ln v-1)=((v.length-1:Nat):Int):=by rw[wr,ln,i64_in _<|by omega];omega
 refine bN<|aC (λh=>?_) λh=>aA ⟨by omega,u,λj x y E w=>q j x y ?_ E w⟩
 .have D:i<v.length-1:=by rw[z] at h;have:=Zl h;omega
  rw[bV<|by omega];refine aE (x:=v[i]) (by rw[bP];exact Zb<|by omega)<|aE (x:=v[i+1]) (by rw[bP];exact Zb<|by omega)<|aC (λ_=>aA trivial) λf=>aE (Sp<|by omega) ?_;refine aD6 v g p C t (i+1) _ B ⟨by simp;omega,A.2⟩ (by omega) ?_ ?_
  .intro s o;rcases ZD.1 o with h | h
   .exact u s h
   .rw[ZJ.1 h];exact⟨by show (0:Int)<=(i:Int);omega,by show (i:Int).toNat+1<g.path.length;rw[p];omega,by show g.path.length<=302;rw[p];exact t⟩
  .intro j a b G e d;by_cases k:j=i
   .subst k;rw[Zb<|by omega] at e d;cases e;cases d;exact Zp f
   .exact q j a b (by omega) e d
 .rw[z] at h;have:=Zp h;have:=(Ze.1 w).1;omega
termination_by v.length-i
theorem aD7(p:aM)(d:Sm p)(i:Nat)(u:i<=p.Arcs.length)(l:List bA)(A:l.length<=302*i)(g:∀s∈l,wV s)(k:xH p.Arcs i λa=>(dQ p a.ID).2=0/\aKe (dQ p a.ID).1):
 aB (λn m=>lm3 nX n m (p,p.Arcs,ln p.Arcs) (l,(i:Int)))<|Su (λ_=>True) (Su (λ_=>True) λr=>r.length<=100000/\(∀s∈r,wV s)/\∀a∈p.Arcs,(dQ p a.ID).2=0/\aKe (dQ p a.ID).1):=by
 have z:=d.a;refine aNa<|bD (λx o q=>aD (aCY p d x.ID) λv c=>aD (aKQ _ v.1 v.2) λr t=>aC (λ_=>aA trivial) λh=>?_) λf=>aA ⟨?_,g,k.fin f⟩
 .have b:=t h;rw[bV<|by omega];refine aO (aU<|aD6 v.1 ⟨x,v.1⟩ rfl (by rw[c] at b |-;exact yS b) (by rw[c];exact Ks p d x.ID) 0 l (302*i) ⟨by omega,by omega⟩ (by rw[c] at b |-;have:=yS b;omega) g λj x y h=>by omega) (λ_ _=>aA trivial) λw e=>?_;exact aD7 p d (i+1) (by omega) w (by have:=e.1;omega) e.2.1<|k.step o ⟨by rw[c] at b;exact b,by have:=e.2.2;rw[c] at this;exact this⟩
 .omega
termination_by p.Arcs.length-i
theorem aRd(p:aM)(c:Sm p): aB (λn _=>Eu n p) λr=>(r.2=true->r.1.length<=100000/\(∀s∈r.1,wV s)/\∀a∈p.Arcs,(dQ p a.ID).2=0/\aKe (dQ p a.ID).1):=
 aS (λ_=>rfl)<|aO (aU<|aD7 p c 0 (by omega) [] (by simp) (by simp) xH.nil) (λ_ _=>aE rfl<|aA<|by simp) λw b=>aO (aA b) (λ_ _=>aE rfl<|aA<|by simp) λv d=>aE rfl<|aA λ_=>d
theorem vA{α:Type}{l:List α}{i:Int}(a:0<=i)(h:i.toNat<l.length): idx l i=some l[i.toNat]:=by
 unfold idx;rw[Zu a];exact Zb h
def J3(s:bA): Aaa×Aaa:=(s.line.path.getD s.at_.toNat ⟨0,0⟩,s.line.path.getD (s.at_.toNat+1) ⟨0,0⟩)
theorem J2(s:bA)(a:wV s): aB (λn _=>dG n s) λr=>r=J3 s:=by
 have e:=a.h0;have c:=a.h1;have g:=a.h2;have b:wr (s.at_+1)=s.at_+1:=i64_in _ (by omega);have e2:(s.at_+1).toNat=s.at_.toNat+1:=by omega
 have d:idx s.line.path s.at_=some (s.line.path.getD s.at_.toNat ⟨0,0⟩):=by rw[vA e<|by omega,YS,Zb<|by omega];rfl
 have f:idx s.line.path (wr<|s.at_+1)=some (s.line.path.getD (s.at_.toNat+1) ⟨0,0⟩):=by
  rw[b];unfold idx;rw[Zu<|by omega,e2,YS,Zb c];rfl
 exact aS (λ_=>rfl)<|aE d<|aE f<|aA rfl
theorem aF8(s:bA)(b:wV s): aB (λn _=>gO n s) λr=>r=PS (J3 s).1.X (J3 s).2.X:=
 aS (λ_=>rfl)<|aD (J2 s b) λr a=>aA<|by rw[a]
theorem aSt(s:bA)(a:wV s): Tt λn _=>pU n s:=
 aS (λ_=>rfl)<|aD (J2 s a) λr b=>aA trivial
theorem aUp(s t:bA)(f:wV s)(c:wV t): aB (λn _=>pV n s t) λr=>r=Sa (PS (J3 s).1.X (J3 s).2.X) (PS (J3 t).1.X (J3 t).2.X):=
 aS (λ_=>rfl)<|aD (aF8 s f) λa e=>aD (aF8 t c) λb d=>aD (fT a b) λr g=>aA<|by rw[g,e,d]
theorem Ex{b:Bool}(h:b=true): Nu b=some ():=by subst h;rfl
theorem SX(l:List Aab)(b:l.length<=300)(i:Nat)(m:List<|Int×Aaa): Tt λn k=>qC sA n k (l,ln l) (m,(i:Int)):=
 cA<|bD (λx d a=>by
  rw[bV<|by omega];exact SX l b (i+1) _)
  (λc=>aA trivial)
termination_by l.length-i
theorem aOi(m:List<|Int×Aaa)(x y:bA)(b:wV x)(a:wV y): aB (λn _=>Pi n (m,x,y))<|Su (λ_=>True) λ_=>True:=by
 refine aT<|aD (J2 x b) λ_ _=>aD (J2 y a) λ_ _=>?_;repeat' first
  | exact aA trivial
  | refine aC (λ_=>?_) (λ_=>?_)
  | refine N9 ?_
  | refine bI λ_=>?_
theorem aBP(m:List<|Int×Aaa)(x:bA)(l:List bA)(b:wV x)(c:∀s∈l,wV s)(d:l.length<=100000)(i:Nat): aB (λn k=>oW rY n k (m,x,l,ln l) (i:Int))<|Su (λ_=>True) λ_=>True:=
 bN<|bD (λy f e=>by
  have a:=c y<|Zg f;rw[bV<|by omega];refine aD (aF8 y a) λ_ _=>aD (aSt x b) λ_ _=>aC (λ_=>aA trivial) λ_=>aO (aOi m x y b a) (λ_ _=>aC (λ_=>aBP m x l b c d<|i+1) λ_=>aA trivial) λ_ _=>aBP m x l b c d<|i+1)
  (λg=>aA trivial)
termination_by l.length-i
instance aYV{s:bA}{x:Aab}{a b:Aaa}: TC (λn=>Pf n (s,x,a,b)):=⟨by repeat' first | exact aA trivial | refine aC (λ_=>?_) (λ_=>?_) | refine bI λ_=>?_⟩
theorem aHB(x:bA)(a:wV x)(l:List Aab)(c:l.length<=300)(i:Nat): aB (λn m=>oW rW n m (x,l,ln l) (i:Int))<|Su (λ_=>True) λ_=>True:=
 bN<|bD (λy e b=>by
  rw[bV<|by omega];exact aD (J2 x a) λ_ _=>bI λ_=>aC (λ_=>aA trivial) λ_=>aHB x a l c<|i+1)
  (λd=>aA trivial)
termination_by l.length-i
theorem aHC(p:aM)(e:Sm p)(m:List<|Int×Aaa)(l:List bA)(d:∀s∈l,wV s)(j:l.length<=100000)(i:Nat): aB (λn k=>lm3 rZ n k (p,m,l,l,ln l) (i:Int))<|Su (λ_=>True)<|Su (λ_=>True) λ_=>True:=
 aNa<|bD (λy g f=>by
  have c:=d y<|Zg g;rw[bV<|by omega];refine aE (aMF (a:=i+1) (b:=l.length) (by omega)<|Zf _)<|aO (aU<|aBP m y _ c (λs h=>d s<|Z7<|ZZ h) (by simp;omega) 0) (λ_ _=>aO (aU<|aHB y c _ e.n 0) (λ_ _=>aA trivial) λ_ _=>aHC p e m l d j<|i+1) λ_ _=>aA trivial)
  (λo=>aA trivial)
termination_by l.length-i
theorem aLm(p:aM)(c:Sm p): aB (λn _=>Pj n p) λr=>r=true->∀a∈p.Arcs,(dQ p a.ID).2=0/\aKe (dQ p a.ID).1:=by
 refine aS (λ_=>rfl)<|aD (aRd p c) λv b=>aC (λh=>aD (aU<|SX _ c.n 0 []) λw _=>aT ?_) λ_=>aA (by simp);have b:=b h;refine aE (Ex<|Yj<|by have:=b.1;omega)<|aD (j6 (F:=λn x y=>bnd (pV n x y) λh=>some h) (λx i y g=>aD (aUp x y (b.2.1 x i)<|b.2.1 y g) λ_ h=>aA h)<|aK4 _ _) λl d=>?_;refine aO (HB (f:=λn=>Pg n (p,w,l,l,ln l) 0)<|aU<|aHC p c w l (λs j=>b.2.1 s<|d.2 s j) (by rw[d.1];exact b.1) 0) (λ_ _=>aA<|by simp) λw e=>aO (aA e) (λ_ _=>aA<|by simp) λ_ _=>aA λ_=>b.2.2
theorem aIF(l:List aR)(e:l.length<=300)(i:Nat)(c:xH l i λa=>a.Via.length<=64): aB (λn m=>oW uU n m (l,ln l) (i:Int)) (Su (λ_=>True) λ_=>∀a∈l,a.Via.length<=64):=
 bN<|bD (λy f d=>by
  rw[bV<|by omega];exact aC (λ_=>aA trivial) λh=>aIF l e (i+1)<|c.step f<|by have:¬ln y.Via > 64:=Zp h;unfold ln at this;omega)
  (λb=>aA<|c.fin b)
termination_by l.length-i
structure uJ(p:aM): Prop where
 leN:p.Nodes.length<=256
 leA:p.Arcs.length<=256
 leF:p.Faces.length<=64
 leV:∀a∈p.Arcs,a.Via.length<=64
 asN:Asc (p.Nodes.map Aab.ID)
 asA:Asc (p.Arcs.map aR.ID)
 asF:Asc p.Faces
 nuA:∀a∈p.Arcs,1<=a.ID/\a.ID<=1073741824
 nuN:∀x∈p.Nodes,1<=x.ID/\x.ID<=1073741824
 nuF:∀x∈p.Faces,1<=x/\x<=1073741824
 ptN:∀x∈p.Nodes,Lt x.At
 ptA:∀a∈p.Arcs,∀y∈a.Via,Lt y
 con:∀a∈p.Arcs,a.From∈p.Nodes.map Aab.ID/\a.To∈p.Nodes.map Aab.ID
 sid:∀a∈p.Arcs,(a.Left=0\/a.Left∈p.Faces)/\(a.Right=0\/a.Right∈p.Faces)
 pth:∀a∈p.Arcs,(dQ p a.ID).2=0/\aKe (dQ p a.ID).1
theorem aIW(p:aM)(c:Sm p): aB (λn _=>Ko n p) λr=>r=0->uJ p:=by
 have T:=c.n;have m:=c.a;have S:=c.f;refine aS (λ_=>rfl)<|aD (Q:=λr=>r=false->p.Nodes.length<=256/\p.Arcs.length<=256/\p.Faces.length<=64) ?_ λU H=>aC (λ_=>aA<|by simp) λI=>aO (aU<|aIF _ c.a 0 .nil) (λ_ _=>aA<|by simp) λ_ e=>aE rfl<|aD (aUD p c) λv M=>?_
 .refine aC (λ_=>aA<|by simp) λq=>aC (λ_=>aA<|by simp) λt=>aC (λ_=>aA<|by simp) λs=>aA λ_=>?_;have q:¬ln p.Nodes > 256:=Zp q;have t:¬ln p.Arcs > 256:=Zp t;have s:¬ln p.Faces > 64:=Zp s;unfold ln at q t s;omega
 subst M;refine aD (Q:=λr=>r=false->Asc (p.Nodes.map Aab.ID)/\Asc (p.Arcs.map aR.ID)/\Asc p.Faces) ?_ λw j=>aC (λ_=>aA<|by simp) λk=>aD (Q:=λr=>r=false->(∀x∈p.Nodes.map Aab.ID,1<=x/\x<=1073741824)/\(∀x∈p.Arcs.map aR.ID,1<=x/\x<=1073741824)/\(∀x∈p.Faces,1<=x/\x<=1073741824)/\(∀x∈p.Nodes,Lt x.At)/\∀a∈p.Arcs,∀y∈a.Via,Lt y) ?_ λz g=>aC (λ_=>aA<|by simp) λi=>aD (aS8 p c (p.Nodes.map Aab.ID)<|by simp;omega) λu d=>aC (λb=>aA λh=>?_) λb=>aD (aLm p c) λL l=>aC (λo=>aA λ_=>?_) λ_=>aA<|by simp
 .exact aD (aMT _<|by simp;omega) λw j=>aC (λk=>aD (aMT _<|by simp;omega) λz g=>aC (λi=>aD (aMT _<|by omega) λu d=>aC (λb=>aA λ_=>⟨j k,g i,d b⟩) λ_=>aA<|by simp) λ_=>aA<|by simp) λ_=>aA<|by simp
 .exact aD (aL9 _<|by simp;omega) λw j=>aC (λk=>aD (aL9 _<|by simp;omega) λz g=>aC (λi=>aD (aL9 _<|by omega) λu d=>aC (λb=>aD (aLn p c) λL l=>aC (λo=>aA λ_=>⟨j k,g i,d b,(l o).1,(l o).2⟩) λ_=>aA<|by simp) λ_=>aA<|by simp) λ_=>aA<|by simp) λ_=>aA<|by simp
 .rw[h] at b;simp at b
 .have A:u=0:=by simpa using b
  let⟨C,F,E,B,O⟩:=g i;let⟨N,D,J⟩:=j k;let⟨G,R,K⟩:=H I;exact⟨G,R,K,e,N,D,J,λa m=>F _<|WV m,λa m=>C _<|WV m,E,B,O,(d A).1,(d A).2,l o⟩
def cr(ux uy vx vy:Int): Int:=ux*vy-uy*vx
theorem aQ6(f c d b e a:Int): b*cr f c e a=a*cr f c d b+c*cr d b e a:=by
 unfold cr;simp only[Int.mul_sub];have g:a*(f*b)=b*(f*a):=by rw[XI,WE a b,XI]
 have e2:a*(c*d)=c*(d*a):=by rw[XI,WE a d]
 have h:b*(c*e)=c*(b*e):=XI _ _ _;omega
def Up(x y:Int): Prop:=0<y\/(y=0/\0<x)
theorem aGI{e b d a:Int}(f:Up e b)(g:Up d a)(h:cr e b d a > 0): 0<a:=by
 rcases g with c | ⟨c,i⟩
 .exact c
 .unfold cr at h;rw[c,Int.mul_zero] at h;have:0<=b*d:=by
   refine Int.mul_nonneg ?_ (by omega);rcases f with h | ⟨h,_⟩<;>omega
  omega
theorem aEV{i c j f g d:Int}(k:Up i c)(m:Up j f)(o:Up g d)(l:cr i c j f > 0)(n:cr j f g d > 0): cr i c g d > 0:=by
 have q:=aGI k m l;have p:=aGI m o n;have e:=aQ6 i c j f g d;have r:0<d*cr i c j f:=WT p l;have s:0<=c*cr j f g d:=Int.mul_nonneg (by rcases k with h | ⟨h,_⟩<;>omega) (by omega);have t:0<f*cr i c g d:=by omega
 rcases Int.lt_or_le 0 (cr i c g d) with h | h
 .exact h
 .have:=Xi (a:=f) (b:=cr i c g d) (by omega) h;omega
theorem aMH{i a g d f b:Int}(n:Up i a)(p:Up g d)(q:Up f b)(s:¬cr i a g d > 0)(m:¬cr g d f b > 0): ¬cr i a f b > 0:=by
 intro o;have k:0<b:=aGI n q o;have l:0<=a:=by rcases n with h | ⟨h,_⟩<;>omega
 rcases p with c | ⟨c,j⟩
 .have e:=aQ6 i a g d f b;have r:0<d*cr i a f b:=WT c o;have t:b*cr i a g d<=0:=Xi (by omega) (by omega);have u:a*cr g d f b<=0:=Xi l (by omega);omega
 .unfold cr at m;rw[c,Int.zero_mul] at m;have:=WT j k;omega
theorem aMG(c d a b:Int): cr (-c) (-d) (-a) (-b)=cr c d a b:=by
 unfold cr;rw[Int.neg_mul_neg,Int.neg_mul_neg]
def Gu(o p:Aaa): Bool:=decide (p.Y<o.Y)||(p.Y==o.Y&&decide (p.X<o.X))
def twE(o a b:Aaa): Int:=cr (a.X-o.X) (a.Y-o.Y) (b.X-o.X)<|b.Y-o.Y
def rA(o a b:Aaa): Bool:=if Gu o a != Gu o b then Gu o b else decide (twE o a b > 0)
theorem PL{o p:Aaa}(h:Gu o p=false)(b:p≠o): Up (p.X-o.X)<|p.Y-o.Y:=by
 simp only[Gu,WU,Wx,Bool.and_eq_false_iff,X5] at h;by_cases c:p.Y=o.Y
 .refine .inr ⟨by omega,?_⟩;have:p.X≠o.X:=by
   intro d;apply b;cases p;cases o;simp_all
  rcases h.2 with h | h
  .exact absurd c h
  .omega
 .exact .inl<|by omega
theorem PM{o p:Aaa}(h:Gu o p=true): Up (-(p.X-o.X)) (-(p.Y-o.Y)):=by
 simp only[Gu,YU,Z4,Zd,ZC] at h;rcases h with h | ⟨b,a⟩
 .exact .inl<|by omega
 .exact .inr ⟨by omega,by omega⟩
theorem aOD{o a b c:Aaa}(j:a≠o)(i:b≠o)(k:c≠o)(d:rA o a b=true)(e:rA o b c=true): rA o a c=true:=by
 unfold rA at d e |-;cases g:Gu o a<;>cases f:Gu o b<;>cases h:Gu o c<;>rw[g,f] at d<;>rw[f,h] at e<;>simp only[Wf,Zn,Z9,Bool.true_bne,Bool.false_bne,X3,Zz,Xg,Z4] at d e |-
 .exact aEV (PL g j) (PL f i) (PL h k) d e
 .unfold twE at d e |-;rw[<-aMG] at d e |-;exact aEV (PM g) (PM f) (PM h) d e
theorem aOE{o a b c:Aaa}(j:a≠o)(i:b≠o)(k:c≠o)(d:rA o a b=false)(e:rA o b c=false): rA o a c=false:=by
 unfold rA at d e |-;cases g:Gu o a<;>cases f:Gu o b<;>cases h:Gu o c<;>rw[g,f] at d<;>rw[f,h] at e<;>simp only[Wf,Zn,Z9,Bool.true_bne,Bool.false_bne,X3,Zz,Xg,Wx,Bool.true_eq_false] at d e |-
 .exact aMH (PL g j) (PL f i) (PL h k) d e
 .unfold twE at d e |-;rw[<-aMG] at d e |-;exact aMH (PM g) (PM f) (PM h) d e
theorem aOF(o a:Aaa): rA o a a=false:=by
 unfold rA twE cr;rw[Wf,ZF<|by simp,WE];simp
theorem aU1{x y:Int}{B:Nat}(a:-(B:Int)<=x/\x<=B)(b:-(B:Int)<=y/\y<=B): -((B*B:Nat):Int)<=x*y/\x*y<=((B*B:Nat):Int):=by
 have h:(x*y).natAbs<=B*B:=by rw[Int.natAbs_mul];exact Y8 (by omega)<|by omega
 omega
theorem aQX{o a b:Aaa}(e:Lt o)(c:Lt a)(d:Lt b): twV o a b=twE o a b:=by
 let⟨o1,m,n,l⟩:=e;let⟨g,j,p,h⟩:=c;let⟨r,f,k,s⟩:=d;have i:=aU1 (B:=2097152) (x:=a.X-o.X) (y:=b.Y-o.Y) ⟨by omega,by omega⟩ ⟨by omega,by omega⟩;have q:=aU1 (B:=2097152) (x:=a.Y-o.Y) (y:=b.X-o.X) ⟨by omega,by omega⟩ ⟨by omega,by omega⟩;unfold twV twE cr;simp only[wr];rw[i64_in (a.X-o.X)<|by omega,i64_in (b.Y-o.Y)<|by omega,i64_in (a.Y-o.Y)<|by omega,i64_in (b.X-o.X)<|by omega,i64_in ((a.X-o.X)*(b.Y-o.Y))<|by omega,i64_in ((a.Y-o.Y)*(b.X-o.X))<|by omega,i64_in _<|by omega]
theorem aCj(o p:Aaa): aB (λn _=>hU n o p) λr=>r=Gu o p:=by
 refine aS (λ_=>rfl)<|aD (Q:=λr=>r=Gu o p) ?_ λr c=>aC (λh=>aA<|by rw[<-c,h]) λh=>aA (by rw[<-c,h]);unfold Gu;refine aC (λh=>aA<|by rw[h];rfl) λh=>aC (λa=>aC (λb=>aA<|by rw[h,a,b];rfl) λb=>aA<|by rw[h,a,b];rfl) λa=>aA<|by rw[h,a];rfl
theorem Lt.near{x:Aaa}(h:Lt x): aEc x:=by let⟨b,c,a,d⟩:=h;exact⟨by omega,by omega,by omega,by omega⟩
theorem aKf(o a b:Aaa)(j:Lt o)(f:Lt a)(g:Lt b)(e:a≠o)(d:b≠o): aB (λn _=>KI n (o,a,b)) λr=>r=false:=by
 refine aD (aGt [o,a,b]<|by simp) λr i=>aC (λ_=>aC (λh=>absurd (Zl h) e) λ_=>aC (λh=>absurd (Zl h) d) λ_=>aA rfl) λh=>?_;rw[i (by
  intro x c;rcases ZN.1 c with rfl | c
  .exact j.near
  rcases ZN.1 c with rfl | c
  .exact f.near
  .rw[ZJ.1 c];exact g.near)] at h
 cases h
theorem aNe(o a b:Aaa)(q:Lt o)(p:Lt a)(s:Lt b)(m:a≠o)(f:b≠o): aB (λn _=>Tn n o a b) λr=>r=rA o a b:=by
 refine aS (λ_=>rfl)<|aD (aKf o a b q p s m f) λr v=>aC (λh=>by rw[v] at h;cases h) λ_=>aD (aCj o a) λw c=>?_;have tw:Gu o a=Gu o b->aB (λn _=>bnd (hP n o a b) λh=>cd (h > 0) (some true)<|some false) λr=>r=rA o a b:=by
  intro e;refine aD (aHk o a b) λt k=>?_;rw[aQX q p s] at k;subst k;refine aC (λh=>aA ?_) λh=>aA ?_<;>(unfold rA;rw[e];simp_all)
 have u:Gu o a≠Gu o b->aB (λn _=>bnd (hU n o b) λi=>cnd i (some true)<|some false) λr=>r=rA o a b:=by
  intro e;refine aD (aCj o b) λt k=>?_;refine aC (λh=>aA ?_) λh=>aA ?_<;>(unfold rA;rw[Zu<|by simpa using e];simp_all)
 refine aC (λl=>?_) λl=>?_;all_goals
  refine aD (aCj o b) λx d=>aC (λj=>?_) λj=>?_;all_goals
   refine aC (λg=>?_) λg=>?_;all_goals
    first
    | exact absurd (Zl g) (by decide)
    | exact absurd rfl (Zp g)
    | exact tw (by rw[<-c,<-d,l,j])
    | exact u (by rw[<-c,<-d,l,j];decide)
theorem Asc.lt{l:List Int}(h:Asc l): ∀(d i:Nat) (x y:Int),l[i]?=some x->l[i+d+1]?=some y->x<y
 | 0,i,x,y,b,a=>h i x y b a
 | d+1,i,x,y,b,a=>by
  have c:i+d+1<l.length:=by have:=(Ze.1 a).1;omega
  have f:=Asc.lt h d i x _ b<|Zb c;have e:=h (i+d+1) _ y (Zb c) (by rw[show i+d+1+1=i+(d+1)+1 by omega];exact a);omega
theorem Asc.inj{α:Type}{f:α->Int}{l:List α}(h:Asc<|l.map f){a b:α}(p:a∈l)(o:b∈l)(e:f a=f b): a=b:=by
 let⟨i,n⟩:=Yi.1 p;let⟨j,c⟩:=Yi.1 o;have m:(l.map f)[i]?=some (f a):=by rw[Zk,n];rfl
 have k:(l.map f)[j]?=some (f b):=by rw[Zk,c];rfl
 rcases Nat.lt_trichotomy i j with g | d | g
 .have:=h.lt (j-i-1) i _ _ m (by rw[show i+(j-i-1)+1=j by omega];exact k);omega
 .subst d;rw[n] at c;cases c;rfl
 .have:=h.lt (i-j-1) j _ _ k (by rw[show j+(i-j-1)+1=i by omega];exact m);omega
theorem aP6{p:aM}(c:uJ p){a:aR}(b:a∈p.Arcs): SC p a.ID=(a,true):=by
 unfold SC;cases h:p.Arcs.find? λx=>x.ID==a.ID with
 | none=>
  have:=W4.1 h a b;simp at this
 | some x=>
  have e:=Xf h;have d:x.ID=a.ID:=by have:=List.find?_some h;simpa using this
  rw[c.asA.inj e b d]
theorem Tk{p:aM}{id:Int}(h:id∈p.Nodes.map Aab.ID): (kV p id).2=true/\(kV p id).1∈p.Nodes:=by
 unfold kV;cases a:p.Nodes.find? λx=>x.ID==id with
 | none=>
  obtain⟨x,b,rfl⟩:=Yh.1 h;have:=W4.1 a x b;simp at this
 | some x=>exact⟨rfl,Xf a⟩
theorem aHJ{p:aM}(b:uJ p){a:aR}(c:a∈p.Arcs): (dQ p a.ID).1=[(kV p a.From).1.At]++a.Via++[(kV p a.To).1.At]:=by
 let⟨g,d⟩:=b.con a c;have f:=(Tk g).1;have e:=(Tk d).1;unfold dQ;rw[aP6 b c];simp only[f,e,Xr]
theorem aOp{p:aM}(c:uJ p){a:aR}(d:a∈p.Arcs): ∀x∈(dQ p a.ID).1,Lt x:=by
 let⟨f,e⟩:=c.con a d;rw[aHJ c d];intro x b;rcases ZD.1 b with b | b
 .rcases ZD.1 b with b | b
  .rw[ZJ.1 b];exact c.ptN _ (Tk f).2
  .exact c.ptA a d x b
 .rw[ZJ.1 b];exact c.ptN _ (Tk e).2
def gB(p:aM)(d:Int): Prop:=∃a∈p.Arcs,d=a.ID\/d=-a.ID
structure aHd(p:aM)(o:Aaa)(i:Nat)(l:List Int)(tw:List (Int×Aaa)): Prop where
 len:l.length<=2*i
 dart:∀d∈l,gB p d
 tow:∀d∈l,∃q,cE tw d=some q/\Lt q/\q≠o
theorem aHd.add{p:aM}{o:Aaa}{i:Nat}{l:List Int}{tw:List<|Int×Aaa}{d:Int}{q:Aaa}(g:gB p d)(f:Lt q)(c:q≠o)(k:l.length<=2*i+1)(j:∀d∈l,gB p d)(h:∀d∈l,∃q,cE tw d=some q/\Lt q/\q≠o):
 (l++[d]).length<=2*i+2/\(∀e∈l++[d],gB p e)/\∀e∈l++[d],∃q',cE (kW tw d q) e=some q'/\Lt q'/\q'≠o:=by
 refine⟨by simp;omega,?_,?_⟩
 .intro e he;rcases ZD.1 he with he | he
  .exact j e he
  .rw[ZJ.1 he];exact g
 .intro e he;rw[uE];by_cases a:d=e
  .rw[Zu a];exact⟨q,rfl,f,c⟩
  .rw[ZF a];rcases ZD.1 he with he | he
   .exact h e he
   .exact absurd (ZJ.1 he).symm a
theorem Q3(l:List Int)(tw:List<|Int×Aaa)(d:Int)(q:Aaa)(h:l.length<=100000): aB (λn _=>pE n (l,tw,d,q)) λr=>r=(l++[d],kW tw d q):=
 aT<|aE (Sq h)<|aA rfl
theorem aF4(p:aM)(H:Sm p)(t:uJ p)(id:Int)(v:Aab×Bool)(o:v=kV p id)(i:Nat)(l:List Int)(tw:List<|Int×Aaa)(g:aHd p v.1.At i l tw)(hi:i<=p.Arcs.length): aB (λn m=>qC lF n m (p,id,p.Arcs,ln p.Arcs) (l,tw,(i:Int))) λr=>r.1.length<=600/\(∀d∈r.1,gB p d)/\∀d∈r.1,∃q,cE r.2 d=some q/\Lt q/\q≠v.1.At:=by
 have ha:=H.a;refine cA<|bD (λx Z a2=>?_) λa1=>aA ⟨by have:=g.len;show l.length<=600;omega,g.dart,g.tow⟩;have c:=Zg Z;have W:=t.nuA x c;have e0:wr (0-x.ID)=-x.ID:=by rw[wr,i64_in _<|by omega];omega
 rw[bV<|by omega,e0];have e:∀I j,aHd p v.1.At (i+1) I j->aB (λn m=>qC lF n m (p,id,p.Arcs,ln p.Arcs) (I,j,((i+1:Nat):Int))) λr=>r.1.length<=600/\(∀d∈r.1,gB p d)/\∀d∈r.1,∃q,cE r.2 d=some q/\Lt q/\q≠v.1.At:=λI j T=>aF4 p H t id v o (i+1) I j T (by omega);have f:aHd p v.1.At (i+1) l tw:=⟨by have:=g.len;omega,g.dart,g.tow⟩;refine aD (Q:=λ_=>True) ?_ λr _=>aC (λ_=>e _ _ f) λ_=>aD (aCY p H x.ID) λw R=>aC (λ_=>e _ _ f) λ_=>?_
 .repeat' first
   | exact aA trivial
   | refine aC (λ_=>?_) (λ_=>?_)
 subst R;have u:=aOp t c;have z:=(t.pth x c).2;have h2:=yS (t.pth x c).1;have K:=Ks p H x.ID;have k:=aHJ t c;have C:∃q,(dQ p x.ID).1[1]?=some q:=⟨_,Zb<|by omega⟩;have E:∃q,(dQ p x.ID).1[(dQ p x.ID).1.length-2]?=some q:=⟨_,Zb<|by omega⟩;let⟨G,C⟩:=C;let⟨D,E⟩:=E;have i1:idx (dQ p x.ID).1 1=some G:=C;have U:wr (ln (dQ p x.ID).1-2)=(((dQ p x.ID).1.length-2:Nat):Int):=by rw[wr,i64_in _<|by unfold ln;omega];unfold ln;omega
 have M:idx (dQ p x.ID).1 (wr<|ln (dQ p x.ID).1-2)=some D:=by rw[U,bP];exact E
 have X:Lt G:=u _<|Zg C;have O:Lt D:=u _<|Zg E;have z0:(dQ p x.ID).1[0]?=some (kV p x.From).1.At:=by rw[k];rfl
 have S:(dQ p x.ID).1[(dQ p x.ID).1.length-2+1]?=some (kV p x.To).1.At:=by
  have:(dQ p x.ID).1.length-2+1=([(kV p x.From).1.At]++x.Via).length:=by rw[k];simp
  rw[this,k,ZX<|Zf _,XR];rfl
 have V:x.From=id->G≠v.1.At:=by
  intro h;rw[o,<-h];exact (z 0 _ _ z0 C).symm
 have J:x.To=id->D≠v.1.At:=by
  intro h;rw[o,<-h];exact z _ _ _ E S
 have d1:gB p x.ID:=⟨x,c,.inl rfl⟩;have L:gB p (-x.ID):=⟨x,c,.inr rfl⟩;have Y:=g.len;refine aC (λN=>?_) λN=>aC (λy=>?_) λy=>e _ _ f
 .have A:=aHd.add (i:=i) d1 X (V<|Wi N) (by omega) g.dart g.tow;refine aE i1<|aD (Q3 l tw _ G<|by omega) λs F=>?_;subst F;refine aC (λy=>?_) λy=>e _ _ ⟨by have:=A.1;omega,A.2.1,A.2.2⟩;have B:=aHd.add (l:=l++[x.ID]) (tw:=kW tw x.ID G) (i:=i) L O (J<|Wi y) (by simp;omega) A.2.1 A.2.2;refine aE M<|aD (Q3 _ _ _ D<|by simp;omega) λs F=>?_;subst F;exact e _ _ ⟨by have:=B.1;omega,B.2.1,B.2.2⟩
 .have A:=aHd.add (i:=i) L O (J<|Wi y) (by omega) g.dart g.tow;refine aE M<|aD (Q3 l tw _ D<|by omega) λs F=>?_;subst F;exact e _ _ ⟨by have:=A.1;omega,A.2.1,A.2.2⟩
termination_by p.Arcs.length-i
def aFa(o a b:Aaa): Int:=if rA o a b=true then -1 else if rA o b a=true then 1 else 0
theorem L7{o a b:Aaa}: aFa o a b<0↔rA o a b=true:=by
 unfold aFa;split<;>(try split)<;>simp_all
theorem aNu(p:aM)(u:Sm p)(A:uJ p)(id:Int): aB (λn _=>Nx n p id) λr=>r.length<=600/\∀d∈r,gB p d:=by
 refine aS (λ_=>rfl)<|aD (SM p u id) λv j=>aC (λb=>aD (aU<|aF4 p u A id v j 0 [] [] ⟨by simp,by simp,by simp⟩<|by omega) λw m=>aT<|aE (Ex<|Yj<|by have:=m.1;omega) ?_) λ_=>aA (by simp);have k:Lt v.1.At:=by
  rw[j] at b |-;unfold kV at b |-;cases h:p.Nodes.find? λx=>x.ID==id with
  | none=>rw[h] at b;cases b
  | some x=>exact A.ptN x<|Xf h
 have E:∀x∈w.1,∀y∈w.1,aB (λn _=>bnd (xS n (v.1,w.2,x,y)) λi=>some i) λr=>r=aFa v.1.At ((cE w.2 x).getD ⟨0,0⟩) ((cE w.2 y).getD ⟨0,0⟩):=by
  have a:∀x∈w.1,Lt ((cE w.2 x).getD ⟨0,0⟩)/\(cE w.2 x).getD ⟨0,0⟩≠v.1.At:=by
   intro x c;let⟨D,q,e2,t⟩:=m.2.2 x c;rw[q];exact⟨e2,t⟩
  intro x c y f;refine aD (Q:=λr=>r=aFa v.1.At ((cE w.2 x).getD ⟨0,0⟩) ((cE w.2 y).getD ⟨0,0⟩)) (aT ?_) λr e=>aA e;refine aD (aNe v.1.At ((cE w.2 x).getD ⟨0,0⟩) ((cE w.2 y).getD ⟨0,0⟩) k (a x c).1 (a y f).1 (a x c).2 (a y f).2) λr e=>aC (λh=>aA ?_) λh=>aD (aNe v.1.At ((cE w.2 y).getD ⟨0,0⟩) ((cE w.2 x).getD ⟨0,0⟩) k (a y f).1 (a x c).1 (a y f).2 (a x c).2) λG l=>aC (λg=>aA ?_) λg=>aA ?_
  .unfold aFa;rw[Zu<|by rw[<-e,h]]
  .unfold aFa;rw[ZF<|by rw[<-e,h];simp,Zu<|by rw[<-l,g]]
  .unfold aFa;rw[ZF<|by rw[<-e,h];simp,ZF<|by rw[<-l,g];simp]
 have B:Swo (λx y=>aFa v.1.At ((cE w.2 x).getD ⟨0,0⟩)<|(cE w.2 y).getD ⟨0,0⟩) w.1:=by
  have a:∀x∈w.1,(cE w.2 x).getD ⟨0,0⟩≠v.1.At:=by
   intro x c;let⟨D,q,e2,t⟩:=m.2.2 x c;rw[q];exact t
  refine⟨λx c=>?_,λx c y f z s o g=>?_,λx c y f z s o g=>?_⟩
  .rw[L7,aOF];simp
  .rw[L7] at *;exact aOD (a x c) (a y f) (a z s) o g
  .rw[L7,Bool.not_eq_true] at *;exact aOE (a x c) (a y f) (a z s) o g
 exact aD (j6 (F:=λn x y=>bnd (xS n (v.1,w.2,x,y)) λi=>some i) E B) λr e=>aA ⟨by rw[e.1];exact m.1,λd C=>m.2.1 d<|e.2 d C⟩
theorem aDP(l:List Int)(d:Int)(f:l.length<=1000): Tt λn _=>xR n l d:=by
 refine aS (λ_=>rfl)<|aD (aIS l d<|by omega) λr a=>aC (λ_=>aA trivial) λh=>?_;have i:0<=r:=by have:=Zp h;omega
 have g:r.toNat<l.length:=by rcases a with a | a<;>omega
 have c:wr (wr (r+ln l)-1)=r+(l.length:Int)-1:=by unfold wr ln;rw[i64_in (r+_)<|by omega,i64_in _<|by omega]
 rw[c];have e2:aJl (r+(l.length:Int)-1) (ln l)=some ((r+(l.length:Int)-1).tmod (l.length:Int)):=by unfold aJl ln;rw[ZF<|by omega]
 have b:0<=(r+(l.length:Int)-1).tmod (l.length:Int):=Int.tmod_nonneg _ (by omega);have e:(r+(l.length:Int)-1).tmod (l.length:Int)<(l.length:Int):=Int.tmod_lt_of_pos _ (by omega);exact aE e2<|aE (vA b<|by omega)<|aA trivial
theorem aLI{V:Type}{m:List<|Int×V}{k:Int}{v:V}(h:cE m k=some v): v∈m.map Prod.snd:=by
 induction m with
 | nil=>cases h
 | cons a r b=>
  simp only[cE] at h;split at h
  .cases h;exact ZM ..
  .exact ZQ _<|b h
theorem aLD{V:Type}(m:List<|Int×V)(k:Int)(v:V): (kW m k v).length<=m.length+1:=by
 induction m with
 | nil=>simp[kW]
 | cons a r b=>
  simp only[kW];split
  .simp
  .simp only[Yc];omega
theorem aIU(p:aM)(v:List Int)(f:v.length<=600)(b:∀d∈v,gB p d)(B:Nat)(c:B<=190000)(i:Nat)(o:i<=v.length)(l:List Int)(m:List<|Int×Int)(s:l.length<=B+i)(q:m.length<=B+i)(a:∀d∈l,gB p d):
 aB (λn k=>qC rQ n k (v,v,ln v) (l,m,(i:Int))) λr=>r.1.length<=B+600/\r.2.length<=B+600/\∀d∈r.1,gB p d:=
 cA<|bD (λd h j=>aE (Sp<|by omega) (aD (aDP v d<|by omega) λw _=>by
  rw[bV<|by omega];refine aIU p v f b B c (i+1) (by omega) _ _ (by simp;omega) (by have:=aLD m (wr<|0-d) w;omega) ?_;intro e he;rcases ZD.1 he with he | he
  .exact a e he
  .rw[ZJ.1 he];exact b d<|Zg h))
  (λg=>aA ⟨by show l.length<=_;omega,by show m.length<=_;omega,a⟩)
termination_by v.length-i
theorem aIV(p:aM)(b:Sm p)(e:uJ p)(i:Nat)(t:i<=p.Nodes.length)(l:List Int)(m:List<|Int×Int)(j:l.length<=600*i)(o:m.length<=600*i)(f:∀d∈l,gB p d):
 aB (λn k=>qC rS n k (p,p.Nodes,ln p.Nodes) (l,m,(i:Int))) λr=>r.1.length<=180000/\r.2.length<=180000/\∀d∈r.1,gB p d:=by
 have s:=b.n;refine cA<|bD (λx q h=>aD (aNu p b e x.ID) λw c=>aD (aU<|aIU p w c.1 c.2 (600*i) (by omega) 0 (by omega) l m (by omega) (by omega) f) λr a=>?_) λg=>aA ⟨by show l.length<=_;omega,by show m.length<=_;omega,f⟩;rw[bV<|by omega];exact aIV p b e (i+1) (by omega) r.1 r.2 (by have:=a.1;omega) (by have:=a.2.1;omega) a.2.2
termination_by p.Nodes.length-i
theorem aMK{p q:Int->Bool}{d:Int}: ∀(l:List Int),(∀x,q x=true->p x=true)->d∈l->p d=true->q d=false->l.countP q<l.countP p
 | [],_,h,_,_=>by cases h
 | a::l,b,h,i,g=>by
  have e:∀l:List Int,l.countP q<=l.countP p:=λl=>List.countP_mono_left λx _ h=>b x h;rw[Ve,Ve];rcases ZN.1 h with rfl | h
  .rw[i,g];have:=e l;simp;omega
  .have:=aMK l b h i g;by_cases f:q a=true
   .rw[f,b a f];simp;omega
   .rw[ZF f];omega
def pG(m:List<|Int×Bool)(k:Int): Bool:=!(cE m k).getD false
theorem aE9(p:aM)(v:List<|Int×Int)(V:List Int)(f:∀k,(cE v k).getD 0∈V)(g:V.length<=800000)(seen:List<|Int×Bool)(a:List Int)(d:Int)(j:d∈V)(o:a.length+V.countP (pG seen)<=800000):
 aB (λn k=>qC rJ n k v (seen,a,d)) λr=>∃t,r.2=a++t/\r.2.length+V.countP (pG r.1)<=a.length+V.countP (pG seen)/\((cE seen d).getD false=false->∃i,t=d::i):=by
 refine cA<|aC (λh=>aA ⟨[],by simp,Zf _,λc=>by rw[h] at c;cases c⟩) λh=>aE (Sp<|by omega) ?_;have m:V.countP (pG<|kW seen d true)<V.countP (pG seen):=by
  refine aMK V (λx b=>?_) j (by unfold pG;rw[h];rfl) (by unfold pG;rw[uE,Zu rfl];rfl);unfold pG at b |-;rw[uE] at b;split at b
  .cases b
  .exact b
 refine (aE9 p v V f g (kW seen d true) (a++[d]) ((cE v d).getD 0) (f d)<|by simp;omega).imp ?_;rintro r ⟨t,l,c,_⟩;exact⟨d::t,by rw[l];simp,by simp only[Zh,Yc,Z1] at c;omega,λ_=>⟨t,rfl⟩⟩
termination_by V.countP<|pG seen
def dV(v:List Int×List (Int×Int)): List Int:=v.1++0::v.2.map Prod.snd
theorem aDe(p:aM)(v:List Int×List (Int×Int))(s:v.1.length<=180000)(u:v.2.length<=180000)(e:∀d∈v.1,gB p d)(i:Nat)(G:i<=v.1.length)(l:List<|List Int)(m:List<|Int×Bool)(H:l.length<=i)(z:l.flatten.length+(dV v).countP (pG m)<=400000)(g:∀c∈l,c.length<=800000/\∃d t,c=d::t/\gB p d):
 aB (λn k=>qC rP n k (v.2,tX v.1,ln<|tX v.1) (l,m,(i:Int))) λr=>r.1.length<=180000/\r.1.flatten.length<=400000/\∀c∈r.1,c.length<=800000/\∃d t,c=d::t/\gB p d:=by
 have y:=xX v.1;refine cA<|bD (λd B F=>?_) λE=>aA ⟨by show l.length<=_;omega,by show l.flatten.length<=_;omega,g⟩;rw[bV<|by omega];have b:d∈v.1:=(aJg v.1).mem_iff.1<|Zg B;refine aC (λ_=>aDe p v s u e (i+1) (by omega) l m (by omega) z g) λx=>?_;have A:∀k,(cE v.2 k).getD 0∈dV v:=by
  intro k;unfold dV;cases D:cE v.2 k with
  | none=>simp
  | some w=>exact List.mem_append_right _<|ZQ _<|aLI D
 have o:(dV v).length<=400000:=by simp[dV];omega
 refine aD (Q:=λr=>∃t,r.2=d::t/\r.2.length+(dV v).countP (pG r.1)<=(dV v).countP (pG m)) (aT<|aD (aU<|aE9 p v.2 (dV v) A (by omega) m [] d (List.mem_append_left _ b)<|by simp only[Z1];omega) λr j=>aA ?_) λr j=>aE (Sp<|by omega) ?_
 .let⟨t,h,q,C⟩:=j;obtain⟨f,rfl⟩:=C x;exact⟨f,by simpa using h,by simpa using q⟩
 let⟨f,h,q⟩:=j;refine aDe p v s u e (i+1) (by omega) _ _ (by simp;omega) ?_ ?_
 .rw[Xw,Zh,show[r.2].flatten=r.2 by simp];omega
 intro c a;rcases ZD.1 a with a | a
 .exact g c a
 .rw[ZJ.1 a];exact⟨by omega,d,f,h,e d b⟩
termination_by v.1.length-i
decreasing_by all_goals (have:=xX v.1;omega)
theorem aUV{v:List Int×List (Int×Int)}(c:v.1.length<=180000)(d:v.2.length<=180000){m:List<|Int×Bool}: ([]:List<|List Int).flatten.length+(dV v).countP (pG m)<=400000:=by
 have b:(dV v).countP (pG m)<=(dV v).length:=List.countP_le_length;have a:(dV v).length<=400000:=by simp[dV];omega
 simp only[Xd,Z1];omega
def aQI(p:aM)(l:List<|List Int): Prop:=l.length<=180000/\l.flatten.length<=400000/\∀c∈l,c.length<=800000/\∃d t,c=d::t/\gB p d
theorem aF1(p:aM)(b:Sm p): aB (λn _=>Bm n p) λr=>r.2=0->uJ p/\aQI p r.1:=by
 refine aS (λ_=>rfl)<|aD (aIW p b) λc i=>aC (λh=>aA λe=>?_) λh=>?_
 .rw[show c=0 from e] at h;simp at h
 .have d:=i (by simpa using h);exact aD (aU<|aIV p b d 0 (by omega) [] [] (by simp) (by simp)<|by simp) λv a=>aT<|aE (Ex<|Yj<|by have:=a.1;omega)<|aD (HB (f:=λn=>Nw n (v.2,tX v.1,ln<|tX v.1) ([],[],0))<|aU<|aDe p v a.1 a.2.1 a.2.2 0 (by omega) [] [] (by simp) (aUV a.1 a.2.1)<|by simp) λr g=>aA λ_=>⟨d,g⟩
structure MK(p:aM)(m:List (Int×List Aaa)): Prop where
 has:∀a∈p.Arcs,∃l,cE m a.ID=some l/\2<=l.length
 len:∀k l,cE m k=some l->l.length<=302
theorem aDO(p:aM)(d:Sm p)(g:uJ p)(i:Nat)(m:List<|Int×List Aaa)(s:∀(j:Nat) (a:aR),j<i->p.Arcs[j]?=some a->∃l,cE m a.ID=some l/\2<=l.length)(t:∀k l,cE m k=some l->l.length<=302): aB (λn k=>qC lX n k (p,p.Arcs,ln p.Arcs) (m,(i:Int))) λr=>MK p r:=by
 have y:=d.a;refine cA<|bD (λx f u=>aD (aCY p d x.ID) λw q=>aC (λ_=>?_) λh=>?_) λo=>aA ⟨xH.fin (l:=p.Arcs) (i:=i) (Q:=λ(a:aR)=>∃l,cE m a.ID=some l/\2<=l.length) s o,t⟩
 .rw[bV<|by omega];subst q;refine aDO p d g (i+1) _ (λj a v b=>?_) λk l e=>?_
  .rw[uE];by_cases he:x.ID=a.ID
   .rw[Zu he];exact⟨_,rfl,yS (g.pth x<|Zg f).1⟩
   .rw[ZF he];refine s j a ?_ b;rcases ZI j i with h | h
    .exact h
    .have:j=i:=by omega
     subst this;rw[f] at b;cases b;exact absurd rfl he
  .rw[uE] at e;split at e
   .cases e;exact Ks p d _
   .exact t k l e
 .subst q;rw[(g.pth x<|Zg f).1] at h;simp at h
termination_by p.Arcs.length-i
theorem aA5(p:aM)(c:Sm p)(b:uJ p): aB (λn _=>pM n p) λr=>MK p r:=
 aS (λ_=>rfl)<|aD (aU<|aDO p c b 0 [] (λj a h=>by omega) λk l h=>by cases h) λr d=>aA d
theorem aFj(p:aM)(a:Sm p)(d:Int): Tt λn _=>Jq n p d:=
 aS (λ_=>rfl)<|aC (λ_=>aA trivial) λ_=>aC (λ_=>aA trivial) λ_=>aD (aNv p a _) λ_ _=>aC (λ_=>aA trivial) λ_=>aA trivial
theorem O2(p:aM)(a:Sm p)(d:Int): Tt λn _=>Fn n p d:=
 aS (λ_=>rfl)<|aD (aFj p a d) λ_ _=>aC (λ_=>aC (λ_=>aA trivial) λ_=>aA trivial) λ_=>aA trivial
theorem aIO(v:List Aaa)(k:Int)(c:k=wr (ln v-1))(f:2<=v.length)(e:v.length<=1000)(i:Nat)(s:Int): Tt λn m=>qC uN n m (v,k) (s,(i:Int)):=by
 have g:wr (ln v-1)=((v.length-1:Nat):Int):=by unfold wr ln;rw[i64_in _<|by omega];omega
 refine cA<|aC (λh=>?_) λh=>aA trivial;have d:i<v.length-1:=by rw[c,g] at h;have:=Zl h;omega
 have b:idx v (i:Int)=some v[i]:=by rw[bP];exact Zb<|by omega
 have a:idx v ((i+1:Nat):Int)=some v[i+1]:=by rw[bP];exact Zb<|by omega
 rw[bV<|by omega];exact aE b<|aE a<|aE a<|aE b<|aIO v k c f e (i+1) _
termination_by v.length-i
theorem aCW(p:aM)(e:Sm p)(c:List Int)(f:c.length<=512)(i:Nat)(s:Int): aB (λn m=>oW uO n m (p,c,ln c) (s,(i:Int)))<|Su (λ_=>True) λ_=>True:=
 bN<|bD (λd k j=>aD (aFj p e d) λw _=>aC (λ_=>aD (aCY p e _) λv g=>aC (λ_=>aA trivial) λb=>by
  rw[bV<|by omega];have a:v.2=0:=by simpa using b
  refine aD (aU<|aIO v.1 _ rfl (by rw[g] at a |-;exact yS a) (by rw[g];have:=Ks p e<|oB d<|wr<|0-d;omega) 0 0) λt _=>aC (λ_=>aCW p e c f (i+1) _) λ_=>aCW p e c f (i+1) _) λ_=>aA trivial)
  (λh=>aA trivial)
termination_by c.length-i
theorem aKc(p:aM)(a:Sm p)(c:List Int): Tt λn _=>rH n p c:=
 aS (λ_=>rfl)<|aC (λ_=>aA trivial) λh=>aO (aU<|aCW p a c (by have h:¬ln c > 512:=Zp h;unfold ln at h;omega) 0 0) (λ_ _=>aA trivial) λ_ _=>aE rfl<|aA trivial
section
variable {a b c:Aaa}
instance aZt: TC (λn=>mY n (a,b,c)):=⟨by repeat' first | exact aA trivial | refine aC (λ_=>?_) (λ_=>?_) | refine bI λ_=>?_⟩
instance aZs: TC (λn=>mX n (a,b,c)):=⟨by repeat' first | exact aA trivial | refine aC (λ_=>?_) (λ_=>?_) | refine bI λ_=>?_⟩
end
theorem aPb(a x y:Aaa)(b c:Bool): Tt λn _=>mZ n (a,b,c,x,y):=by
 refine aT ?_;repeat' first | exact aA trivial | refine aC (λ_=>?_) (λ_=>?_) | refine bI λ_=>?_
theorem aI3(a:Aaa)(l:List Aaa)(g:l.length<=1000)(i:Nat)(q:1<=i)(p f:Bool): Tt λn k=>qC eG n k (a,l) (p,f,(i:Int)):=by
 refine cA<|aC (λh=>?_) λ_=>aA trivial;have b:(i:Int)<ln l:=Zl h;have b:i<l.length:=by unfold ln at b;omega
 have j:wr ((i:Int)-1)=((i-1:Nat):Int):=by rw[wr,i64_in _<|by omega];omega
 rw[bV<|by omega,j];have c:∀e d,Tt λn k=>qC eG n k (a,l) (e,d,((i+1:Nat):Int)):=λe d=>aI3 a l g (i+1) (by omega) e d;have o:idx l ((i-1:Nat):Int)=some (l[i-1]'(by omega)):=by rw[bP];exact Zb<|by omega
 have m:idx l (i:Int)=some l[i]:=by rw[bP];exact Zb<|by omega
 exact aE o<|aE m<|aD (aPb _ _ _ _ _) λ_ _=>aC (λ_=>aC (λ_=>c _ _) λ_=>c _ _) λ_=>aC (λ_=>c _ _) λ_=>c _ _
termination_by l.length-i
def P6(m:List<|Int×List Aaa): Prop:=∀k l,cE m k=some l->l.length<=302
theorem P6.d{m:List<|Int×List Aaa}(h:P6 m)(k:Int): ((cE m k).getD []).length<=1000:=by
 cases e:cE m k with
 | none=>simp
 | some l=>have:=h k l e;show l.length<=_;omega
theorem aI4(m:List<|Int×List Aaa)(f:P6 m)(c:List Int)(g:c.length<=800000)(a:Aaa)(i:Nat)(e b:Bool): Tt λn k=>qC fW n k (a,m,c,ln c) (e,b,(i:Int)):=
 cA<|bD (λd l j=>by
  rw[bV<|by omega];exact aD (aU<|aI3 a _ (f.d _) 1 (by omega) e b) λ_ _=>aI4 m f c g a (i+1) _ _)
  (λh=>aA trivial)
termination_by c.length-i
theorem aPa(m:List<|Int×List Aaa)(d:P6 m)(c:List Int)(b:c.length<=800000)(a:Aaa): Tt λn _=>eN n m c a:=
 aS (λ_=>rfl)<|aD (Q:=λ_=>True) (aT<|aD (aU<|aI4 m d c b a 0 false false) λ_ _=>aA trivial) λ_ _=>aC (λ_=>aC (λ_=>aA trivial) λ_=>aA trivial) λ_=>aC (λ_=>aA trivial) λ_=>aA trivial
theorem aG4(m:List<|Int×List Aaa)(e:P6 m)(l:List Lu)(f:∀x∈l,x.outer.length<=800000)(a:Aaa)(b i:Nat)(g:b<l.length)(d:i<l.length): Tt λn _=>tY n (a,m,l,(b:Int),(i:Int)):=by
 have c:idx l (i:Int)=some l[i]:=by rw[bP];exact Zb d
 have e2:idx l (b:Int)=some l[b]:=by rw[bP];exact Zb g
 have k:Tt λn _=>eN n m l[i].outer a:=aPa m e _ (f _<|ZP d) a;exact aC (λ_=>aE c<|aD k λ_ _=>aC (λ_=>aA trivial) λ_=>aA trivial) λ_=>aE c<|aE e2<|aC (λ_=>aE c<|aD k λ_ _=>aC (λ_=>aA trivial) λ_=>aA trivial) λ_=>aA trivial
theorem QG(m:List<|Int×List Aaa)(d:P6 m)(l:List Lu)(f:∀x∈l,x.outer.length<=800000)(g:l.length<=800000)(a:Aaa)(b i:Nat)(e:b<l.length): aB (λn k=>qC jA n k (a,m,l) ((b:Int),(i:Int))) λr=>0<=r/\r.toNat<l.length:=
 cA<|aC (λh=>by
  have c:(i:Int)<ln l:=Zl h;have c:i<l.length:=by unfold ln at c;omega
  rw[bV<|by omega];exact aD (aG4 m d l f a b i e c) λ_ _=>aC (λ_=>QG m d l f g a i (i+1) c) λ_=>QG m d l f g a b (i+1) e)
  (λj=>aA<|show 0<=(b:Int)/\(b:Int).toNat<l.length from⟨by omega,by simpa using e⟩)
termination_by l.length-i
theorem aIv(m:List<|Int×List Aaa)(c:P6 m)(l:List Lu)(d:∀x∈l,x.outer.length<=800000)(e:l.length<=800000)(f:0<l.length)(a:Aaa): aB (λn _=>eF n m l a) λr=>0<=r/\r.toNat<l.length:=
 aS (λ_=>rfl)<|aD (aU<|QG m c l d e a 0 1 f) λr b=>aA b
theorem aDd(l:List aR)(a:l.length<=300)(id:Int)(i:Nat)(s:Int): Tt λn m=>qC sH n m (id,l,ln l) (s,(i:Int)):=
 cA<|bD (λd e b=>by
  rw[bV<|by omega];refine aD (Q:=λ_=>True) ?_ λ_ _=>aC (λ_=>aDd l a id (i+1) _) λ_=>aDd l a id (i+1) _;exact aC (λ_=>aA trivial) λ_=>aA trivial)
  (λc=>aA trivial)
termination_by l.length-i
theorem aBq(p:aM)(b:Sm p)(id:Int): Tt λn _=>kS n p id:=
 aS (λ_=>rfl)<|aD (aU<|aDd p.Arcs b.a id 0 0) λ_ _=>aA trivial
structure aTr(l:List dO)(b c:Nat): Prop where
 al:∀a∈l,a.alone.length<=c
 sz:∀a∈l,a.outer.length+a.inner.flatten.length<=400000
 l1:1<=l.length
 l2:l.length<=200000
 ou:∀a∈l,a.outer.length<=800000
 inn:∀a∈l,a.inner.length<=b/\∀c∈a.inner,c.length<=800000
 ne:∀(i:Nat) (a:dO),1<=i->l[i]?=some a->a.outer≠[]
def Tb: Prop:=∀(p:aM) (cs:List<|List Int) (m:List<|Int×List Aaa),Sm p->uJ p->aQI p cs->MK p m->aB (λn _=>jK n p cs m) λr=>aTr r 200000 300
theorem aME(a:dO)(h:a.inner.length<=200000): aB (λn _=>fX n a) λr=>r=a.outer::a.inner:=
 aS (λ_=>rfl)<|aE (tJ (l:=[a.outer]) (m:=a.inner)<|by simp;omega)<|aA rfl
section
variable (p:aM)(hp:Sm p)(lf:List Int)(v:Int)
include hp
theorem aIy(c:List Int)(a:c.length<=800000)(i:Nat): aB (λn m=>oW pN n m (p,lf,v,c,ln c) (i:Int))<|Su (λ_=>True) λ_=>True:=
 bN<|bD (λd g b=>aD (O2 p hp d) λ_ _=>by
  rw[bV<|by omega];exact aC (λ_=>aA trivial) λ_=>aIy c a<|i+1)
  (λe=>aA trivial)
termination_by c.length-i
theorem aC2(a:List<|List Int)(g:a.length<=800000)(b:∀c∈a,c.length<=800000)(i:Nat): aB (λn m=>oW pO n m (p,lf,v,a,ln a) (i:Int))<|Su (λ_=>True) λ_=>True:=
 bN<|bD (λc e d=>aO (aU<|aIy p hp lf v c (b c<|Zg e) 0) (λ_ _=>aA trivial) λ_ _=>aE rfl<|by
  rw[bV<|by omega];exact aC2 a g b<|i+1)
  (λf=>aA trivial)
termination_by a.length-i
end
theorem aEf{V:Type}(k:Int)(v:V): ∀m:List<|Int×V,cE m k=none->(kW m k v).length=m.length+1
 | [],_=>rfl
 | a::r,h=>by
  simp only[cE] at h;split at h
  .cases h
  .rename_i b;simp only[kW];rw[ZF b];simp only[Yc];rw[aEf k v r h]
theorem aC3(p:aM)(q:Sm p)(l:List dO)(o:aTr l 200000 300)(i:Nat)(R:i<=l.length)(lf:List Int)(g:List<|Int×Bool)(K:lf.length=i)(E:g.length=i-1)(j:∀k v,cE g k=some v->v=true): aB (λn m=>oW pP n m (p,l,ln l) (lf,g,(i:Int)))<|Su (λ_=>True) λr=>r.1.length=l.length/\r.2.length=l.length-1:=by
 have O:=o.l2;refine bN<|bD (λa I N=>?_) λL=>aA (show lf.length=l.length/\g.length=l.length-1 by omega);have y:=Zg I;have D:=o.inn a y;have B:=o.ou a y;have f:∀w,w=a.outer::a.inner->w.length<=800000/\∀c∈w,c.length<=800000:=by
  rintro w rfl;refine⟨by simp;omega,λc H=>?_⟩;rcases ZN.1 H with rfl | H
  .exact B
  .exact D.2 c H
 rw[bV<|by omega];refine aC (λb=>?_) λb=>?_
 .have F:1<=i:=by have:(i:Int) > 0:=Zl b;omega
  have G:=o.ne i a F I;let⟨d,t,C⟩:∃d t,a.outer=d::t:=by
   cases h:a.outer with
   | nil=>exact absurd h G
   | cons d t=>exact⟨d,t,rfl⟩
  refine aE (x:=d) (by rw[C];rfl)<|aD (O2 p q d) λv _=>aD (Q:=λr=>r=false->(cE g v).getD false=false) ?_ λ_ M=>aC (λ_=>aA trivial) λJ=>aD (aME a<|by omega) λw s=>aO (aU<|aC2 p q lf v w (f w s).1 (f w s).2 0) (λ_ _=>aA trivial) λ_ _=>aE rfl<|aE (Sp<|by omega)<|aC3 p q l o (i+1) (by omega) _ _ (by simp;omega) ?_ ?_
  .exact aC (λ_=>aA<|by simp) λ_=>aC (λ_=>aA<|by simp) λh=>aA λ_=>h
  .have h:=M J;have:cE g v=none:=by
    cases e:cE g v with
    | none=>rfl
    | some w=>rw[e,j v w e] at h;cases h
   rw[aEf v true g this,E];omega
  .intro k u z;rw[uE] at z;split at z
   .cases z;rfl
   .exact j k u z
 .exact aD (aME a<|by omega) λw s=>aO (aU<|aC2 p q lf 0 w (f w s).1 (f w s).2 0) (λ_ _=>aA trivial) λ_ _=>aE rfl<|aE (Sp<|by omega)<|aC3 p q l o (i+1) (by omega) _ _ (by simp;omega) (by have:¬(i:Int) > 0:=Zp b;omega) j
termination_by l.length-i
theorem aOX(p:aM)(e:Sm p)(l:List dO)(c:aTr l 200000 300): aB (λn _=>Kk n p l) λr=>r.2=true->r.1.length=l.length/\l.length=p.Faces.length+1:=
 aS (λ_=>rfl)<|aO (aU<|aC3 p e l c 0 (by omega) [] [] rfl rfl λ_ _ h=>by cases h) (λ_ _=>aA<|by simp) λr d=>aE rfl<|aC (λb=>aA λ_=>⟨d.1,by have:=c.l1;have f:=d.2;have b:ln r.2=ln p.Faces:=Wi b;unfold ln at b;omega⟩) λ_=>aA λh=>by cases h
def SzR(o:List Int)(i:List<|List Int)(a:List Int): Prop:=o.length+i.flatten.length<=400000/\(i.length<=200000/\∀c∈i,c.length<=800000)/\a.length<=300
theorem aRl(s:Tb)(p:aM)(g:Sm p): aB (λn _=>Bu n p) λr=>r.2.2.2=0->uJ p/\r.1.length=p.Faces.length+1/\r.2.1.length=r.1.length/\r.1.length<=200000/\∀a∈r.1,SzR a.outer a.inner a.alone:=by
 refine aS (λ_=>rfl)<|aD (aF1 p g) λc o=>aC (λb=>aA λh=>?_) λb=>?_
 .rw[show c.2=0 from h] at b;simp at b
 .let⟨j,i⟩:=o (by simpa using b);exact aD (aA5 p g j) λm q=>aD (s p c.1 m g j i q) λl d=>aD (aOX p g l d) λf k=>aC (λb=>aA λ_=>⟨j,(k b).2,(k b).1,d.l2,λa e=>⟨d.sz a e,⟨by have:=(d.inn a e).1;omega,(d.inn a e).2⟩,by have:=d.al a e;omega⟩⟩) λ_=>aA λh=>by cases h
theorem aIR(d:List Int)(b:List dO)(k:d.length=b.length)(j:b.length<=200000)(f:∀a∈b,SzR a.outer a.inner a.alone)(i:Nat)(l:List dR)(q:l.length=i)(e:∀r∈l,SzR r.Outer r.Inner r.Alone)(s:i<=b.length): aB (λn m=>qC lY n m (d,b,ln b) (l,(i:Int))) λr=>r.length=b.length/\r.length<=200000/\∀x∈r,SzR x.Outer x.Inner x.Alone:=by
 refine cA<|bD (λa h g=>?_) λp=>aA ⟨show l.length=_ by omega,show l.length<=_ by omega,e⟩;let⟨y,o⟩:∃y,d[i]?=some y:=⟨_,Zb<|by omega⟩;rw[bV<|by omega];exact aE (by rw[bP];exact o)<|aE (Sp<|by omega)<|aIR d b k j f (i+1) _ (by simp;omega) (by
  intro r c;rcases ZD.1 c with c | c
  .exact e r c
  .rw[ZJ.1 c];exact f a<|Zg h)<|by omega
termination_by b.length-i
theorem aVn(x y:dR): aB (λn _=>jZ n x y) λr=>r=Sa x.Face y.Face:=
 aS (λ_=>rfl)<|aD (fT _ _) λr a=>aA a
theorem SG(m:Tb)(p:aM)(s:Sm p): ∃v:List dR×Int,aB (λn _=>kM n p) (λr=>r=v)/\(v.2=0->uJ p/\v.1.length=p.Faces.length+1)/\(v.1.length<=200000/\∀x∈v.1,SzR x.Outer x.Inner x.Alone)/\aB (λn _=>Km n p) λr=>r=v.2:=by
 let⟨v,e,g⟩:=(aRl m p s).val;have k:aB (λn _=>kM n p) λr=>r.2=v.2.2.2/\(r.2=0->r.1.length=v.1.length)/\r.1.length<=200000/\∀x∈r.1,SzR x.Outer x.Inner x.Alone:=by
  refine aS (λ_=>rfl)<|aD g λw a=>?_;subst a;refine aC (λb=>aA ⟨rfl,λh=>by rw[show w.2.2.2=0 from h] at b;simp at b,by simp,by simp⟩) λb=>?_;have i:w.2.2.2=0:=by simpa using b
  let⟨_,_,u,j,q⟩:=e i;exact aD (aU<|aIR w.2.1 w.1 u j q 0 [] (by simp) (by simp)<|by omega) λl c=>aT<|aE (Ex<|Yj<|by have:=c.2.1;omega)<|aD (j6 (F:=λn x y=>bnd (jZ n x y) λh=>some h) (λx _ y _=>aD (aVn x y) λ_ h=>aA h)<|aK4 _ _) λr f=>aA ⟨by rw[i],λ_=>by show r.length=_;rw[f.1];exact c.1,by show r.length<=_;rw[f.1];exact c.2.1,λx t=>c.2.2 x<|f.2 x t⟩
 let⟨w,a,d⟩:=k.val;exact⟨w,d,λh=>⟨(e<|a.1▸h).1,by rw[a.2.1 h];exact (e<|a.1▸h).2.1⟩,a.2.2,aS (λ_=>rfl)<|aD g λz o=>aA<|by rw[o,a.1]⟩
theorem aXb{c:Prop}[Decidable c]{x y:Nat×Nat}(b:1<=x.2/\x.2<=4)(a:1<=y.2/\y.2<=4): 1<=(if c then x else y).2/\(if c then x else y).2<=4:=by split<;>assumption
theorem aUT(s:ByteArray)(p:Nat)(h:p<s.size): 1<=(Utf8.decode s p).2/\(Utf8.decode s p).2<=4:=by
 unfold Utf8.decode;dsimp only;repeat' first
  | apply aXb
  | (show 1<=_/\_<=4;exact⟨by dsimp only;omega,by dsimp only;omega⟩)
theorem aXx{α:Type}{P:α->Prop}{f:Nat->Nat->Option α}(h:aB f P): Tt f:=h.imp λ_ _=>trivial
theorem aFq(a:Int)(b:xJ)(i:Nat): aB (λn m=>oW qE n m (a,b) (i:Int))<|Su (λ_=>True) λ_=>True:=
 bN<|aC (λh=>by
  have h:(i:Int)<13:=Zl h;have h:i<13:=by omega
  rw[bV<|by omega];refine aE (x:=([b.e0,b.e1,b.e2,b.e3,b.e4,b.e5,b.e6,b.e7,b.e8,b.e9,b.e10,b.e11,b.e12]:List gF)[i]) (by rw[bP];exact Zb<|by simpa using h)<|aD (Q:=λ_=>True) ?_ λ_ _=>aC (λ_=>aA trivial) λ_=>aFq a b<|i+1;repeat' first
   | exact aA trivial
   | refine aC (λ_=>?_) (λ_=>?_)) λ_=>aA trivial
termination_by 13-i
theorem aFp(a:Int): Tt λn _=>xB n a:=
 aS (λ_=>rfl)<|aC (λ_=>aA trivial) λ_=>aC (λ_=>aA trivial) λ_=>aO (aU<|aFq _ _ 0) (λ_ _=>aA trivial) λ_ _=>aE rfl<|aA trivial
theorem aF0(s:ByteArray)(b:s.size<=1000)(i:Nat)(l:List Int)(d:l.length<=i)(e:i<=1010): aB (λn m=>oW qF n m () (l,(s,i)))<|Su (λ_=>True) λv=>v.1.length<=1010:=
 bN<|aC (λh=>by
  have h:i<s.size:=Zl h;have c:=aUT s i h;refine aD (aFp _) λ_ _=>aC (λ_=>aA trivial) λ_=>aE (Sq<|by omega)<|aF0 s b (i+(Utf8.decode s i).2) _ (by simp;omega)<|by omega) λh=>aA<|show l.length<=1010 by omega
termination_by s.size-i
theorem aNh(s:ByteArray)(a:s.size<=1000): aB (λn _=>Kz n s) λr=>r.1.length<=1010:=
 aS (λ_=>rfl)<|aO (aU<|aF0 s a 0 [] (by simp)<|by omega) (λ_ _=>aA<|by simp) λv b=>aE rfl<|aA b
theorem aPk(s t:ByteArray)(h:s.size<=1000): Tt λn _=>aAX n s t:=
 ⟨_,trivial,1,λn m a _=>by
  obtain⟨n,rfl⟩:∃k,n=k+1:=⟨n-1,by omega⟩;show (match Nat.blt s.size 4294967281 with | true=>_ | false=>_)=_;rw[show Nat.blt s.size 4294967281=true from by rw[YC];omega]⟩
theorem aKU{s:ByteArray}{i:Int}(a:0<=i)(h:i.toNat<s.size): ∃c,sat s i=some c:=by
 unfold sat;rw[Zu a,Zb<|by simpa using h];exact⟨_,rfl⟩
theorem aHY(a b:List Int)(d:b.length<=100000)(i:Nat): aB (λn m=>oW yY n m (a,b,ln b) (i:Int))<|Su (λ_=>True) λ_=>True:=
 bN<|bD (λx f c=>aD (aFp x) λ_ _=>by
  rw[bV<|by omega];exact aC (λ_=>aA trivial) λ_=>aHY a b d<|i+1)
  (λe=>aA trivial)
termination_by b.length-i
theorem aLC(s:ByteArray): Tt λn _=>sN n s:=by
 refine aS (λ_=>rfl)<|aD (Q:=λ_=>True) ?_ λ_ _=>aA trivial;refine aS (λ_=>rfl)<|aC (λ_=>aA trivial) λf=>aC (λ_=>aA trivial) λh=>?_;have h:¬((s.size:Nat):Int) > 40:=Zp h;have f:s≠(⟨#[]⟩:ByteArray):=Zp f;have m:0<s.size:=by
  rcases XB s.size with e | e
  .exfalso;apply f;cases s with
   | mk d=>cases d with
    | mk l=>cases l with
     | nil=>rfl
     | cons a l=>simp[ByteArray.size] at e
  .exact e
 let⟨c,j⟩:=aKU (s:=s) (i:=0) (by omega) (by simpa using m);have g:wr ((s.size:Int)-1)=(s.size:Int)-1:=by rw[wr,i64_in _<|by omega]
 let⟨d,k⟩:=aKU (s:=s) (i:=(s.size:Int)-1) (by omega) (by omega);refine aD (aNh s<|by omega) λb o=>aC (λ_=>aA trivial) λ_=>aD (Q:=λ_=>True) ?_ λ_ _=>aC (λ_=>aA trivial) λ_=>aO (aU<|aHY b.1 b.1 (by omega) 0) (λ_ _=>aA trivial) λ_ _=>aE rfl<|aA trivial;exact aE j<|aC (λ_=>aA trivial) λ_=>aE (by rw[g];exact k)<|aC (λ_=>aA trivial) λ_=>aD (aPk s _<|by omega) λ_ _=>aC (λ_=>aA trivial) λ_=>aA trivial
instance aWT{s:ByteArray}: TC (λn=>sN n s):=⟨aLC s⟩
structure Be(s:aK): Prop where
 p:Sm s.Plan
 n:s.Features.length<=1000
 f:∀f∈s.Features,f.Parts.length<=1000
abbrev Sx{β γ:Type}(f:Nat->Nat->Option (β⊕γ)): Prop:=aB f (Su (λ_=>True) λ_=>True)
instance aWm{x:Int}: TC (λn=>dM n x):=⟨aS (λ_=>rfl) (by repeat' first|apply dU|apply aC|apply bI|intro)⟩
section
variable {f:aH}
instance fc1: TC (λn=>mK n f):=⟨by repeat' first|apply dU|apply aC|apply bI|intro⟩
instance fc4: TC (λn=>mJ n f):=⟨by repeat' first|apply dU|apply aC|apply bI|intro⟩
instance fc5: TC (λn=>mI n f):=⟨by repeat' first|apply dU|apply aC|apply bI|intro⟩
instance aZp: TC (λn=>Df n f):=⟨aT (by repeat' first|apply dU|apply aC|apply bI|intro)⟩
instance aZo: TC (λn=>Dc n f):=⟨aT (by repeat' first|apply dU|apply aC|apply bI|intro)⟩
instance aZn: TC (λn=>Cz n f):=⟨aT (by repeat' first|apply dU|apply aC|apply bI|intro)⟩
instance aZm: TC (λn=>Cw n f):=⟨aT (by repeat' first|apply dU|apply aC|apply bI|intro)⟩
instance aZl: TC (λn=>qH n f):=⟨aT (by repeat' first|apply dU|apply aC|apply bI|intro)⟩
end
section
variable (l:List aH)(hl:l.length<=1000)
include hl
theorem aUK(i:Nat): Sx λn m=>oW mQ n m (l,ln l) (i:Int):=
 bN<|bD (λx c a=>by
  rw[bV<|by omega];exact bI λ_=>aC (λ_=>aA trivial) λ_=>aUK<|i+1)
  (λb=>aA trivial)
termination_by l.length-i
theorem aXj: Sx λn _=>Dh n l:=
 aT<|aO (f:=λn _=>Dg n l) (Q:=λ_=>True) (R:=λ_=>True) (aT<|aO (aU<|aUK l hl 0) (λ_ _=>aA trivial) λ_ _=>aE rfl<|aA trivial) (λ_ _=>aC (λ_=>aA trivial) λ_=>aA trivial) λ_ _=>aE rfl<|aA trivial
theorem aUJ(i:Nat): Sx λn m=>oW mP n m (l,ln l) (i:Int):=
 bN<|bD (λx c a=>by
  rw[bV<|by omega];exact bI λ_=>aC (λ_=>aA trivial) λ_=>aUJ<|i+1)
  (λb=>aA trivial)
termination_by l.length-i
theorem aXi: Sx λn _=>De n l:=
 aT<|aO (f:=λn _=>Dd n l) (Q:=λ_=>True) (R:=λ_=>True) (aT<|aO (aU<|aUJ l hl 0) (λ_ _=>aA trivial) λ_ _=>aE rfl<|aA trivial) (λ_ _=>aC (λ_=>aA trivial) λ_=>aA trivial) λ_ _=>aE rfl<|aA trivial
theorem aUI(i:Nat): Sx λn m=>oW mO n m (l,ln l) (i:Int):=
 bN<|bD (λx c a=>by
  rw[bV<|by omega];exact bI λ_=>aC (λ_=>aA trivial) λ_=>aUI<|i+1)
  (λb=>aA trivial)
termination_by l.length-i
theorem aXh: Sx λn _=>Db n l:=
 aT<|aO (f:=λn _=>Da n l) (Q:=λ_=>True) (R:=λ_=>True) (aT<|aO (aU<|aUI l hl 0) (λ_ _=>aA trivial) λ_ _=>aE rfl<|aA trivial) (λ_ _=>aC (λ_=>aA trivial) λ_=>aA trivial) λ_ _=>aE rfl<|aA trivial
theorem aUH(i:Nat): Sx λn m=>oW mN n m (l,ln l) (i:Int):=
 bN<|bD (λx c a=>by
  rw[bV<|by omega];exact bI λ_=>aC (λ_=>aA trivial) λ_=>aUH<|i+1)
  (λb=>aA trivial)
termination_by l.length-i
theorem aXg: Sx λn _=>Cy n l:=
 aT<|aO (f:=λn _=>Cx n l) (Q:=λ_=>True) (R:=λ_=>True) (aT<|aO (aU<|aUH l hl 0) (λ_ _=>aA trivial) λ_ _=>aE rfl<|aA trivial) (λ_ _=>aC (λ_=>aA trivial) λ_=>aA trivial) λ_ _=>aE rfl<|aA trivial
theorem fI3(j:∀f∈l,f.Parts.length<=1000)(m:List<|Aac×Bool): Sx λn _=>Ho n (m,l):=by
 have o:∀(a:Int) (p:List Int) (d:p.length<=1000) (k i:Nat) (m:List<|Aac×Bool),p.length<=i+k->Sx (λn k=>oW oG n k (a,p,ln p) (m,(i:Int))):=by
  intro a p d k;induction k with
  | zero=>exact λi m h=>bN<|bD (λx c b=>by omega) λ_=>aA trivial
  | succ k e=>
   intro i m h;refine bN<|bD (λx c b=>?_) λ_=>aA trivial;rw[bV<|by omega];exact aC (λ_=>aA trivial) λ_=>e (i+1) _<|by omega
 have q:∀(m:List<|Aac×Bool) (f:aH),f.Parts.length<=1000->Sx (λn _=>Hm n (m,f)):=λm f d=>
  aT<|aO (f:=λn _=>Hk n f) (Q:=λ_=>True) (R:=λ_=>True) (bI λ_=>aC (λ_=>aA trivial) λ_=>aC (λ_=>aA trivial) λ_=>aA trivial) (λ_ _=>aA trivial) λ_ _=>aE rfl<|aO (aU<|o _ _ d _ 0 _<|Xh ..) (λ_ _=>aA trivial) λ_ _=>aE rfl<|aA trivial
 have g:∀(k i:Nat) (m:List<|Aac×Bool),l.length<=i+k->Sx (λn k=>oW oH n k (l,ln l) (m,(i:Int))):=by
  intro k;induction k with
  | zero=>exact λi m h=>bN<|bD (λx c b=>by omega) λ_=>aA trivial
  | succ k e=>
   intro i m h;refine bN<|bD (λx c b=>?_) λ_=>aA trivial;rw[bV<|by omega];exact aO (q _ x<|j x<|Zg c) (λ_ _=>e (i+1) _<|by omega) λ_ _=>aE rfl<|aA trivial
 exact aT<|aO (f:=λn _=>Hn n (m,l)) (Q:=λ_=>True) (R:=λ_=>True) (aT<|aO (aU<|g _ 0 m<|Xh ..) (λ_ _=>aA trivial) λ_ _=>aE rfl<|aA trivial) (λ_ _=>aC (λ_=>aA trivial) λ_=>aA trivial) λ_ _=>aE rfl<|aA trivial
end
theorem aBo(l:List Int)(x:Int)(b:l.length<=100000): aB (λn _=>oY n l x) λr=>r=decide (x∈l):=
 aS (λ_=>rfl)<|aD (Bg l x b) λr a=>aC (λh=>aA<|by rw[<-a,h]) λh=>aA<|by rw[<-a,h]
theorem aRQ(p:aM)(b:Sm p)(f:aH)(l:List Int)(j:l.length<=1000): Tt λn _=>oE n (p,f,l):=by
 have d:∀x:Int,Tt λn _=>zG n (p,f,x):=λx=>
  aT<|bI λ_=>aC (λ_=>aD (SM p b x) λ_ _=>aC (λ_=>aA trivial) λ_=>aA trivial) λ_=>aC (λ_=>aD (aNv p b x) λ_ _=>aC (λ_=>aA trivial) λ_=>aA trivial) λ_=>aC (λ_=>aD (aBo p.Faces x<|by have:=b.f;omega) λ_ _=>aC (λ_=>aA trivial) λ_=>aA trivial) λ_=>aA trivial
 have c:∀(k i:Nat),l.length<=i+k->Sx (λn k=>oW gV n k (p,f,l,ln l) (i:Int)):=by
  intro k;induction k with
  | zero=>exact λi h=>bN<|bD (λx g a=>by omega) λ_=>aA trivial
  | succ k e=>
   intro i h;refine bN<|bD (λx g a=>?_) λ_=>aA trivial;rw[bV<|by omega];exact aD (d x) λ_ _=>aC (λ_=>aA trivial) λ_=>e (i+1)<|by omega
 exact aT<|aD (f:=λn _=>zH n (p,f,l)) (Q:=λ_=>True) (aT<|aO (aU<|c _ 0<|Xh ..) (λ_ _=>aA trivial) λ_ _=>aE rfl<|aA trivial) λ_ _=>aC (λ_=>aA trivial) λ_=>aA trivial
theorem fI9(s:aK)(d:Be s): Sx λn _=>Hl n (s,s.Features):=by
 have c:∀f∈s.Features,Tt λn _=>Dj n (s,f):=λf g=>
  aT<|aD (f:=λn _=>Di n (s.Plan,f)) (Q:=λ_=>True) (aT<|aD (aRQ s.Plan d.p f f.Parts<|d.f f g) λ_ _=>aC (λ_=>aA trivial) λ_=>aA trivial) λ_ _=>aC (λ_=>aA trivial) λ_=>aA trivial
 have b:∀(k i:Nat),s.Features.length<=i+k->Sx (λn k=>oW mR n k (s,s.Features,ln s.Features) (i:Int)):=by
  have:=d.n;intro k;induction k with
  | zero=>exact λi h=>bN<|bD (λx e a=>by omega) λ_=>aA trivial
  | succ k j=>
   intro i h;refine bN<|bD (λx e a=>?_) λ_=>aA trivial;rw[bV<|by omega];exact aD (c x<|Zg e) λ_ _=>aC (λ_=>aA trivial) λ_=>j (i+1)<|by omega
 exact aT<|aO (f:=λn _=>Dk n (s,s.Features)) (Q:=λ_=>True) (R:=λ_=>True) (aT<|aO (aU<|b _ 0<|Xh ..) (λ_ _=>aA trivial) λ_ _=>aE rfl<|aA trivial) (λ_ _=>aC (λ_=>aA trivial) λ_=>aA trivial) λ_ _=>aE rfl<|aA trivial
theorem aQr(l:List Int)(a:l.length<=1000): aB (λn _=>uH n l) λr=>r=true->Asc l:=
 aS (λ_=>rfl)<|aO (aU<|M5 l a 1 (Zf _) λj x y h=>by omega) (λ_ _=>aA<|by simp) λ_ h=>aE rfl<|aA λ_=>h
theorem aXf(s:aK)(g:Be s): Sx λn _=>Cv n (s,0,s.Features):=by
 have q:=g.n;have b:∀(i:Nat) (f:aH),f∈s.Features->i<s.Features.length->Tt (λn _=>Cq n (s,((i+1:Nat):Int),f)):=by
  intro i f m p;have j:=aQr f.Parts<|g.f f m;refine aC (λh=>?_) λ_=>aD j λ_ _=>aC (λ_=>aA trivial) λ_=>aA trivial;have h:((i+1:Nat):Int) > 1:=Zl h;have e:wr (((i+1:Nat):Int)-2)=((i-1:Nat):Int):=by rw[wr,i64_in _<|by omega];omega
  refine aE (x:=s.Features[i-1]'(by omega)) (by rw[e,bP];exact Zb<|by omega)<|aC (λ_=>aA trivial) λ_=>aD j λ_ _=>aC (λ_=>aA trivial) λ_=>aA trivial
 have c:∀(k i:Nat),s.Features.length<=i+k->Sx (λn k=>oW mM n k (s,s.Features,ln s.Features) ((i:Int),(i:Int))):=by
  intro k;induction k with
  | zero=>exact λi h=>bN<|bD (λx d a=>by omega) λ_=>aA trivial
  | succ k l=>
   intro i h;refine bN<|bD (λx d a=>?_) λ_=>aA trivial;rw[bV<|by omega];refine aD (f:=λn _=>Ct n (s,(i:Int),x)) (Q:=λr=>r.1=((i+1:Nat):Int)) (aT ?_) λr o=>aC (λ_=>aA trivial) λ_=>by rw[o];exact l (i+1)<|by omega
   have e:=bV (i:=i) (by omega);have h:=b i x (Zg d) a;rw[<-e] at h |-;exact aD h λ_ _=>aC (λ_=>aA rfl) λ_=>aA rfl
 exact aT<|aO (f:=λn _=>Cu n (s,0,s.Features)) (Q:=λ_=>True) (R:=λ_=>True) (aT<|aO (aU<|c _ 0<|Xh ..) (λ_ _=>aA trivial) λ_ _=>aE rfl<|aA trivial) (λ_ _=>aC (λ_=>aA trivial) λ_=>aA trivial) λ_ _=>aE rfl<|aA trivial
theorem Lp{β γ:Type}{f:Nat->Nat->Option (β⊕γ)}{N:Nat->Nat->Option Int}{q:β->Bool}{c:Int}(h:Sx f)(k:Tt N): Tt λn m=>Av.bnd2 (f n m) (λv=>Av.cnd (q v) (some c)<|N n m) λw=>Av.bnd (some w) λ_=>N n m:=
 aO h (λ_ _=>aC (λ_=>aA trivial) λ_=>k) λ_ _=>aE rfl k
theorem aXe(l:List aH)(m:l.length<=1000): aB (λn _=>Cs n l) (Su (λv=>v.2=true) λ_=>∀f∈l,f.Parts.length<=64):=by
 have d:∀(k i:Nat),l.length<=i+k->xH l i (λf=>f.Parts.length<=64)->aB (λn k=>oW mL n k (l,ln l) (i:Int)) (Su (λv=>0<=v.2) λ_=>∀f∈l,f.Parts.length<=64):=by
  intro k;induction k with
  | zero=>exact λi h b=>bN<|bD (λx e c=>by omega) λa=>aA<|b.fin a
  | succ k g=>
   intro i h b;refine bN<|bD (λx e c=>?_) λa=>aA<|b.fin a;rw[bV<|by omega];refine aD (f:=λn _=>qH n x) (Q:=λr=>r=false->x.Parts.length<=64) (aT (aC (λ_=>aA<|by simp) λh=>aA λ_=>by have h:¬ln x.Parts > 64:=Zp h;unfold ln at h;omega)) λr j=>aC (λ_=>aA<|show (0:Int)<=(i:Int) by omega) λh=>g (i+1) (by omega)<|b.step e<|j h
 refine aT<|aO (f:=λn _=>Cr n l) (Q:=λv:aH×Int=>0<=v.2) (R:=λ_=>∀f∈l,f.Parts.length<=64) (aT<|aO (aU<|d _ 0 (Xh ..) .nil) (λv h=>aA<|show 0<=v.2 from h) λ_ h=>aE rfl<|aA<|by exact h) (λv o=>aC (λ_=>aA rfl) λh=>?_) λ_ h=>aE rfl<|aA (by exact h);have:=Zp h;omega
structure HC(s:aK): Prop where
 v:uJ s.Plan
 n:s.Features.length<=128
 f:∀f∈s.Features,f.Parts.length<=64
theorem uJ.sm{p:aM}(h:uJ p): Sm p:=⟨by have:=h.leN;omega,by have:=h.leA;omega,by have:=h.leF;omega,λa b=>by have:=h.leV a b;omega⟩
theorem HC.ok{s:aK}(h:HC s): Be s:=⟨h.v.sm,by have:=h.n;omega,λf a=>by have:=h.f f a;omega⟩
theorem QP(o:Tb)(s:aK)(a:Be s): aB (λn _=>fP n s) λr=>r=0->HC s:=by
 let⟨v,_,e,_,j⟩:=SG o s.Plan a.p;refine aS (λ_=>rfl)<|aD j λr m=>aC (λb=>aA λh=>by rw[show r=0 from h] at b;simp at b) λb=>aC (λ_=>aA<|by simp) λd=>aD (f:=λn _=>Hq n s) (Q:=λ_=>True) (aT<|aA trivial) λ_ _=>aD (f:=λn _=>Hp n ()) (Q:=λ_=>True) (aT<|aA trivial) λc _=>N9 ?_;have l:r=0:=by simpa using b
 have i:=(e<|by rw[<-m];exact l).1;have g:s.Features.length<=128:=by have h:¬ln s.Features > 128:=Zp d;unfold ln at h;omega
 refine aO (aXe _ a.n) (λv e=>aC (λ_=>aA<|by simp) λh=>by rw[show v.2=true from e] at h;cases h) λ_ k=>aE rfl<|aB.imp (P:=λ_=>True) ?_ λ_ _ _=>⟨i,g,k⟩;exact Lp (aXf s a)<|Lp (aXg _ a.n)<|Lp (aXh _ a.n)<|Lp (aXi _ a.n)<|Lp (aXj _ a.n)<|Lp (fI9 s a)<|Lp (fI3 _ a.n a.f c)<|aA trivial
theorem aBT(l:List Int)(d:l.length<=1000)(i:Nat): aB (λn m=>oW vI n m (l,ln l) (i:Int))<|Su (λv=>(l.drop i).find? (· != 0)=some v) λ_=>(l.drop i).find? (· != 0)=none:=
 bN<|bD (λx b c=>by
  rw[bV<|by omega];refine aC (λh=>aA<|aG1 b h) λh=>?_;have e:=aG2 (q:=(· != (0:Int))) b h;rw[e];exact aBT l d<|i+1) λa=>aA<|aG3 a
termination_by l.length-i
def orV(c d:Int): Int:=([c,d].find? (· != 0)).getD 0
theorem aWP(c d:Int): aB (λn _=>Ax n [c,d]) λr=>r=orV c d:=
 aS (λ_=>rfl)<|aO (aU<|aBT [c,d] (by simp) 0) (λv h=>aA<|by unfold orV;rw[show[c,d].find? (· != 0)=some v from h];rfl) λ_ h=>aE rfl<|aA<|by unfold orV;rw[show[c,d].find? (· != 0)=none from h];rfl
def MC(x:Int): Int:=oB x<|wr<|0-x
def aJ7(c d:Int): Int:=orV (Sa (MC c)<|MC d)<|Sa d c
theorem G0(c d:Int): aJ7 c d<0↔MC c<MC d\/(MC c=MC d/\d<c):=by
 unfold aJ7 orV Sa;by_cases e:MC c<MC d
 .simp[e]
 .by_cases g:MC c > MC d
  .have:¬MC c=MC d:=by omega
   simp[e,g,this]
  .have:MC c=MC d:=by omega
   by_cases b:d<c
   .simp[this,b]
   .by_cases f:d > c
    .simp[this,b,f]
    .simp[this,b,f]
theorem aPu(c d:Int): aB (λn _=>nV n c d) λr=>r=aJ7 c d:=
 aS (λ_=>rfl)<|aD (fT _ _) λx e=>aD (fT _ _) λy a=>aD (aWP x y) λz b=>aA<|by subst e a b;rfl
theorem F6(l:List Int)(a:l.length<=800000)(i:Nat)(s:Int): Tt λn m=>qC uT n m (l,ln l) (s,(i:Int)):=
 cA<|bD (λx d b=>by
  rw[bV<|by omega];refine aD (Q:=λ_=>True) ?_ λ_ _=>aC (λ_=>F6 l a (i+1) _) λ_=>F6 l a (i+1) _;exact aC (λ_=>aA trivial) λ_=>aC (λ_=>aC (λ_=>aA trivial) λ_=>aA trivial) λ_=>aA trivial) λc=>aA trivial
termination_by l.length-i
theorem aUB(l:List Int)(a:l.length<=800000)(e:l≠[]): Tt λn _=>nU n l:=by
 obtain⟨d,t,rfl⟩:∃d t,l=d::t:=by
  cases l with
  | nil=>exact absurd rfl e
  | cons d t=>exact⟨d,t,rfl⟩
 exact aS (g:=λn=>bnd (idx (d::t) 0) λb=>bnd (BQ n (d::t,ln (d::t)) (b,0)) λc=>some c) (λ_=>rfl)<|aE (x:=d) rfl<|aD (aU<|F6 _ a 0 d) λ_ _=>aA trivial
open Classical in
noncomputable def aJ6(l:List Int): Int:=if h:∃k,aB (λn _=>nU n l) (λr=>r=k) then h.choose else 0
theorem aLX(l:List Int)(b:l.length<=800000)(a:l≠[]): aB (λn _=>nU n l) λr=>r=aJ6 l:=by
 have h:∃k,aB (λn _=>nU n l) λr=>r=k:=by
  let⟨k,_,h⟩:=(aUB l b a).val;exact⟨k,h⟩
 unfold aJ6;rw[Wz h];exact h.choose_spec
theorem aV0(x y:dO)(d:x.outer.length<=800000/\x.outer≠[])(c:y.outer.length<=800000/\y.outer≠[]): aB (λn _=>nJ n x y) λr=>r=aJ7 (aJ6 x.outer) (aJ6 y.outer):=
 aS (λ_=>rfl)<|aD (aLX _ d.1 d.2) λa g=>aD (aLX _ c.1 c.2) λb e=>aD (aPu a b) λr f=>aA<|by rw[f,g,e]
theorem aTI{α:Type}(k:α->Int)(l:List α): Swo (λx y=>aJ7 (k x)<|k y) l where
 ir x _:=by rw[G0];omega
 tr x _ y _ z _:=by simp only[G0];omega
 ti x _ y _ z _:=by simp only[G0];omega
def LZ(a:aR): aR:=⟨a.ID,a.From,a.To,a.Via,0,0⟩
theorem aBi(f:List Int)(b:List Aab)(l:List aR)(o:l.length<=300)(j:∀a∈l,a.Via.length<=300)(i:Nat)(h:List aR)(d:h=(l.take i).map LZ): aB (λn m=>qC lJ n m (f,b,l,ln l) (h,(i:Int))) λr=>r=l.map LZ:=
 cA<|bD (λx g k=>aD (aFc x.Via<|by have:=j x<|Zg g;omega) λv e=>aE (Sq<|by rw[d];simp;omega)<|by
  rw[bV<|by omega];refine aBi f b l o j (i+1) _ ?_;rw[d,e,YX,g];simp[LZ])
  (λc=>aA<|show h=_ by rw[d,ZW c])
termination_by l.length-i
theorem aV2(a:Int)(l:List Int)(c:l.length<=800000)(i:Nat)(m:List<|Int×Int): Tt λn k=>qC pR n k (a,l,ln l) (m,(i:Int)):=
 cA<|bD (λx e b=>by
  rw[bV<|by omega];exact aV2 a l c (i+1) _) λd=>aA trivial
termination_by l.length-i
theorem aV3(a:Int)(l:List<|List Int)(f:l.length<=800000)(b:∀c∈l,c.length<=800000)(i:Nat)(m:List<|Int×Int): Tt λn k=>qC pS n k (a,l,ln l) (m,(i:Int)):=
 cA<|bD (λx e d=>by
  rw[bV<|by omega];exact aD (aU<|aV2 a x (b x<|Zg e) 0 m) λ_ _=>aV3 a l f b (i+1) _) λg=>aA trivial
termination_by l.length-i
def aHa(l:List Int)(k:Nat): Prop:=l=(List.range k).map λj=>((j+1:Nat):Int)
theorem aV4(b:List aR)(c d:List Aab)(e:List dO)(w:Nat×Nat)(v:w.1+w.2<=e.length)(u:w.2<=1000)(o:∀a∈e,a.outer.length<=800000/\a.inner.length<=200000/\∀c∈a.inner,c.length<=800000)(i:Nat)(y:i<=w.2)(l:List Int)(f:aHa l i)(m:List<|Int×Int):
 aB (λn k=>qC pT n k (b,c,d,e,w,((w.2:Nat):Int)) (l,m,(i:Int))) λr=>aHa r.1 w.2:=by
 refine cA<|aC (λh=>?_) λh=>aA ?_
 .have h:(i:Int)<((w.2:Nat):Int):=Zl h;have h:i<w.2:=by omega
  have x:idx (win e<|some w) (i:Int)=some (e[w.1+i]'(by omega)):=by
   rw[bP];simp only[win];rw[XL h,Zw,Zb<|by omega]
  have e2:idx e ((i:Int)+((w.1:Nat):Int))=some (e[w.1+i]'(by omega)):=by
   rw[show (i:Int)+((w.1:Nat):Int)=((w.1+i:Nat):Int) by omega,bP,Zb<|by omega]
  have j:=o _<|ZP (show w.1+i<e.length by omega);have q:l.length=i:=by rw[f];simp
  rw[bV<|by omega];refine aE x<|aE e2<|aE (Sq<|by omega)<|aD (aME _ j.2.1) λs p=>aD (aU<|aV3 _ s (by rw[p];simp;omega) (by
   rw[p];intro c g;rcases ZN.1 g with rfl | g
   .exact j.1
   .exact j.2.2 c g) 0 m) λt _=>aV4 b c d e w v u o (i+1) (by omega) _ (by unfold aHa at f |-;rw[List.range_succ,YJ,<-f];rfl) t
 .have h:¬(i:Int)<((w.2:Nat):Int):=Zp h;have:i=w.2:=by omega
  exact this▸f
termination_by w.2-i
def nI(l:List aR)(k:Nat): Prop:=l.length=k/\∀a∈l,a.Via.length<=300
theorem eY{α:Type}{l:List α}{i k:Nat}(h:i<k): eM l k (i:Int)=l[i]?:=by
 unfold eM;rw[Zu ⟨by omega,by simpa using h⟩];simp
theorem nI.set{l:List aR}{k i:Nat}{a b:aR}(h:nI l k)(e:l[i]?=some a)(d:b.Via=a.Via): nI (l.set i b) k:=⟨by rw[Yr];exact h.1,λx c=>by
 rcases YL c with c | rfl
 .exact h.2 x c
 .rw[d];exact h.2 a<|Zg e⟩
theorem aV1(f:List Int)(b c:List Aab)(d:List<|Int×Int)(k:Nat)(o:k<=300)(i:Nat)(l:List aR)(g:nI l k): aB (λn m=>qC pQ n m (f,b,c,d,(k:Int)) (l,(i:Int))) λr=>nI r k:=by
 refine cA<|aC (λh=>?_) λh=>aA g;have h:(i:Int)<(k:Int):=Zl h;have e:i<l.length:=by rw[g.1];omega
 have j:eM l l.length (i:Int)=some l[i]:=by rw[eY e];exact Zb e
 have e2:idx l (i:Int)=some l[i]:=by rw[bP];exact Zb e
 rw[bV<|by omega];have A:=g.set (b:=⟨l[i].ID,l[i].From,l[i].To,l[i].Via,Option.getD (cE d l[i].ID) 0,l[i].Right⟩) (Zb e) rfl;generalize t:l.set i ⟨l[i].ID,l[i].From,l[i].To,l[i].Via,Option.getD (cE d l[i].ID) 0,l[i].Right⟩=q at A;have a:i<q.length:=by rw[A.1];omega
 have s:eM q q.length (i:Int)=some q[i]:=by rw[eY a];exact Zb a
 have p:idx q (i:Int)=some q[i]:=by rw[bP];exact Zb a
 refine aE j<|aE e2<|aE j<|aE e2 ?_;simp only[YA];rw[t];refine aE s<|aE p<|aV1 f b c d k o (i+1) _ ?_;exact A.set (Zb a) rfl
termination_by k-i
theorem aPE(U:Tb)(p:aM)(w:Sm p): aB (λn _=>Kl n p) λr=>Sm r.1/\(r.2=0->r.1.Arcs.length=p.Arcs.length/\aHa r.1.Faces r.1.Faces.length):=by
 have L:=w.n;have B:=w.a;have z:Sm ⟨p.Nodes,p.Arcs.map LZ,[]⟩:=⟨L,by simp;omega,by simp,λa e=>by
  obtain⟨x,t,rfl⟩:=Yh.1 e;exact w.v x t⟩
 have N:Sm ⟨[],[],[]⟩:=⟨by simp,by simp,by simp,by simp⟩;refine aS (λ_=>rfl)<|aD (f:=λn _=>Mf n p) (Q:=λr=>r=(p.Arcs.map LZ,[],p.Nodes,p.Nodes)) (aT<|aD (aFc p.Nodes<|by omega) λc I=>aD (aU<|aBi [] c p.Arcs B w.v 0 [] rfl) λd V=>aA<|by rw[I,V]) λb G=>?_;subst G;refine aD (aF1 _ z) λc I=>aC (λb=>aA ⟨N,λh=>by rw[show c.2=0 from h] at b;simp at b⟩) λb=>?_;let⟨K,H⟩:=I (by simpa using b);refine aD (aA5 _ z K) λm S=>aD (U _ c.1 m z K H S) λf k=>?_;have X:=k.l1;have W:=k.l2;refine aE (x:=(1,f.length-1)) (by unfold sub;rw[Zu ⟨by omega,by unfold ln;omega,by unfold ln;simp⟩];simp[ln])<|aC (λ_=>aA ⟨N,λh=>by cases h⟩) λu=>?_;have u:¬((f.length-1:Nat):Int) > 64:=Zp u;have J:win f (some (1,f.length-1))=f.drop 1:=by simp only[win];rw[ZW<|by simp]
 have i:∀x∈win f (some (1,f.length-1)),x∈f/\x.outer≠[]:=by
  rw[J];intro x t;let⟨j,D⟩:=Yi.1 t;rw[Zw] at D;exact⟨Zg D,k.ne (1+j) x (by omega) D⟩
 refine aT<|aE (Ex<|Yj ⟨by omega,by show 1+(f.length-1)<=_;omega⟩)<|aD (j6 (F:=λn x y=>bnd (nJ n x y) λl=>some l) (g:=λx y=>aJ7 (aJ6 x.outer)<|aJ6 y.outer) (λx t y R=>aD (aV0 x y ⟨k.ou x (i x t).1,(i x t).2⟩ ⟨k.ou y (i y R).1,(i y R).2⟩) λ_ h=>aA h)<|aTI _ _) λq M=>?_;have T:q.length=f.length-1:=by rw[M.1,J];simp
 have s:∀a∈aQ f 1 q,a∈f:=by
  intro a e;unfold aQ at e;rcases ZD.1 e with e | e
  .exact Z7 e
  rcases ZD.1 e with e | e
  .exact (i a<|M.2 a e).1
  .exact ZZ e
 have C:(aQ f 1 q).length=f.length:=by unfold aQ;simp;omega
 refine aD (HB (f:=λn=>Me n (p.Arcs.map LZ,p.Nodes,p.Nodes,aQ f 1 q,(1,f.length-1),((f.length-1:Nat):Int)) ([],[],0))<|aU<|aV4 _ _ _ _ (1,f.length-1) (by rw[C];show 1+(f.length-1)<=_;omega) (by show f.length-1<=_;omega) (λa e=>⟨k.ou a<|s a e,(k.inn a<|s a e).1,(k.inn a<|s a e).2⟩) 0 (by omega) [] rfl []) λo O=>aD (HB (f:=λn=>Md n (o.1,p.Nodes,p.Nodes,o.2,((p.Arcs.map LZ).length:Int)) (p.Arcs.map LZ,0))<|aU<|aV1 _ _ _ _ (p.Arcs.map LZ).length (by simp;omega) 0 _ ⟨rfl,z.v⟩) λr A=>aA ?_;have E:o.1.length=f.length-1:=by rw[O];simp
 refine⟨⟨L,by show r.length<=_;rw[A.1];simp;omega,by show o.1.length<=_;omega,A.2⟩,λ_=>⟨by show r.length=_;rw[A.1];simp,by show aHa o.1 o.1.length;rw[E];exact O⟩⟩
theorem NK{α:Type}{l:List α}(z:α)(h:l.length<=900000): rep z (ln l) (ln l)=some (List.replicate l.length z):=by
 unfold rep ln;rw[Zu ⟨by omega,by omega,by omega⟩];simp
theorem L0{α:Type}(l:List α)(z:α): cpy (List.replicate l.length z) (0,(List.replicate l.length z).length) l=some l:=by
 unfold cpy aQ;rw[Zu ⟨by simp,by simp⟩];simp
theorem aU4(l:List Aab)(h:l.length<=900000): aB (λn _=>qL n l) λr=>r=l:=
 aS (λ_=>rfl)<|aE (NK _ h)<|aE (L0 l _)<|aE rfl<|aA rfl
theorem aRY(l:List aR)(h:l.length<=900000): aB (λn _=>nC n l) λr=>r=l:=
 aS (λ_=>rfl)<|aE (NK _ h)<|aE (L0 l _)<|aE rfl<|aA rfl
theorem aLV(l:List Int)(h:l.length<=900000): aB (λn _=>iA n l) λr=>r=l:=
 aS (λ_=>rfl)<|aE (NK _ h)<|aE (L0 l _)<|aA rfl
theorem aU5(l:List aH)(h:l.length<=900000): aB (λn _=>kF n l) λr=>r=l:=
 aS (λ_=>rfl)<|aE (NK _ h)<|aE (L0 l _)<|aE rfl<|aA rfl
theorem aRX(l:List Aaa)(h:l.length<=900000): aB (λn _=>jH n l) λr=>r=l:=
 aS (λ_=>rfl)<|aE (NK _ h)<|aE (L0 l _)<|aA rfl
theorem aMp(a:List Int)(b:List Aab)(c:List aH)(l:List aR)(j:l.length<=300)(g:∀x∈l,x.Via.length<=300)(i:Nat): aB (λn m=>qC nM n m (a,b,c,ln l) (l,(i:Int))) λr=>r=l:=by
 refine cA<|aC (λh=>?_) λ_=>aA rfl;have h:(i:Int)<ln l:=Zl h;have d:i<l.length:=by unfold ln at h;omega
 have f:eM l l.length (i:Int)=some l[i]:=by rw[eY d];exact Zb d
 have e2:idx l (i:Int)=some l[i]:=by rw[bP];exact Zb d
 rw[bV<|by omega];refine aE f<|aE e2<|aD (aRX l[i].Via<|by have:=g l[i]<|ZP d;omega) λv e=>aE f<|aE e2 ?_;subst e;simp only[YA];rw[show l.set i ⟨l[i].ID,l[i].From,l[i].To,l[i].Via,l[i].Left,l[i].Right⟩=l from WG d];exact aMp a b c l j g<|i+1
termination_by l.length-i
theorem aMo(a:List Int)(b:List Aab)(c:List aR)(l:List aH)(j:l.length<=1000)(g:∀x∈l,x.Parts.length<=1000)(i:Nat): aB (λn m=>qC nL n m (a,b,c,ln l) (l,(i:Int))) λr=>r=l:=by
 refine cA<|aC (λh=>?_) λ_=>aA rfl;have h:(i:Int)<ln l:=Zl h;have d:i<l.length:=by unfold ln at h;omega
 have f:eM l l.length (i:Int)=some l[i]:=by rw[eY d];exact Zb d
 have e2:idx l (i:Int)=some l[i]:=by rw[bP];exact Zb d
 rw[bV<|by omega];refine aE f<|aE e2<|aD (aLV l[i].Parts<|by have:=g l[i]<|ZP d;omega) λv e=>aE f<|aE e2 ?_;subst e;simp only[YA];rw[show l.set i ⟨l[i].ID,l[i].Kind,l[i].Class,l[i].Name,l[i].Parts⟩=l from WG d];exact aMo a b c l j g<|i+1
termination_by l.length-i
theorem aOV(s:aK)(m:Be s): aB (λn _=>GX n s) λr=>r=s:=by
 let⟨⟨v,o,u,q⟩,p,t⟩:=m;refine aS (λ_=>rfl)<|aD (aU4 _<|by omega) λb i=>aD (aRY _<|by omega) λc l=>aD (aLV _<|by omega) λd j=>aD (aU5 _<|by omega) λf e=>?_;subst i l j e;exact aD (aU<|aMp _ _ _ _ o q 0) λg k=>aD (aU<|aMo _ _ _ _ p t 0) λh a=>aA<|by rw[k,a]
theorem aUq(s:aK)(m:Be s): aB (λn _=>Mu n s) λr=>r=(s.Plan.Faces,s.Plan.Nodes,s.Plan.Arcs,s.Features,s.Plan.Faces):=by
 let⟨⟨v,o,u,q⟩,p,t⟩:=m;refine aT<|aD (aU4 _<|by omega) λb i=>aD (aRY _<|by omega) λc l=>aD (aLV _<|by omega) λd j=>aD (aU5 _<|by omega) λf e=>?_;subst i l j e;exact aD (aU<|aMp _ _ _ _ o q 0) λg k=>aD (aU<|aMo _ _ _ _ p t 0) λh a=>aA<|by rw[k,a]
instance aZj{x:Int}: TC (λn=>Mw n x):=⟨by repeat' first|apply dU|apply aC|apply bI|intro⟩
instance aZk{x:aZ}: TC (λn=>Mx n x):=⟨by repeat' first|apply dU|apply aC|apply bI|intro⟩
instance aZi{x:aZ}: TC (λn=>Mv n x):=⟨by repeat' first|apply dU|apply aC|apply bI|intro⟩
instance aYe{x:aZ}: TC (λn=>Lf n x):=⟨aS (λ_=>rfl) (by repeat' first|apply dU|apply aC|apply bI|intro)⟩
instance aZ8{b:aKg}{x:Aaa}: TC (λn=>I0 n (b,x)):=⟨by repeat' first|apply dU|apply aC|apply bI|intro⟩
instance aZ7{b:aKg}{x:Aaa}: TC (λn=>aCz n b x):=⟨aS (λ_=>rfl) (by repeat' first|apply dU|apply aC|apply bI|intro)⟩
instance aYQ{x:Int}: TC (λn=>eH n x):=⟨aT (by repeat' first|apply dU|apply aC|apply bI|intro)⟩
instance aYP{x:Aaa}: TC (λn=>iS n x):=⟨aT (by repeat' first|apply dU|apply aC|apply bI|intro)⟩
instance aXU{x:Int}: TC (λn=>Mq n x):=⟨aT (by repeat' first|apply dU|apply aC|apply bI|intro)⟩
instance aXT{x:Int}: TC (λn=>Mp n x):=⟨by repeat' first|apply dU|apply aC|apply bI|intro⟩
instance aXS{x:aZ}: TC (λn=>Mo n x):=⟨by repeat' first|apply dU|apply aC|apply bI|intro⟩
theorem aUc(l:List Aaa)(b:l.length<=1000)(i:Nat): Sx λn m=>oW sZ n m (l,ln l) (i:Int):=
 bN<|bD (λx d a=>by
  rw[bV<|by omega];exact bI λ_=>aC (λ_=>aA trivial) λ_=>aUc l b<|i+1) λc=>aA trivial
termination_by l.length-i
theorem aWL(l:List Aaa)(a:l.length<=1000): Tt λn _=>iQ n l:=
 aT<|aD (f:=λn _=>Ru n l) (Q:=λ_=>True) (aT<|aO (aU<|aUc l a 0) (λ_ _=>aA trivial) λ_ _=>aE rfl<|aA trivial) λ_ _=>aC (λ_=>aA trivial) λ_=>aA trivial
theorem aUb(l:List Int)(b:l.length<=1000)(i:Nat): Sx λn m=>oW sY n m (l,ln l) (i:Int):=
 bN<|bD (λx d a=>by
  rw[bV<|by omega];exact bI λ_=>aC (λ_=>aA trivial) λ_=>aUb l b<|i+1) λc=>aA trivial
termination_by l.length-i
theorem aWK(l:List Int)(a:l.length<=1000): Tt λn _=>iP n l:=
 aT<|aD (f:=λn _=>Rt n l) (Q:=λ_=>True) (aT<|aO (aU<|aUb l a 0) (λ_ _=>aA trivial) λ_ _=>aE rfl<|aA trivial) λ_ _=>aC (λ_=>aA trivial) λ_=>aA trivial
theorem aLh(e:aZ)(b:e.Via.length<=1000)(a:e.Parts.length<=1000): Tt λn _=>Rv n e:=by
 have c:TC λn=>iQ n e.Via:=⟨aWL _ b⟩;have f:TC λn=>iP n e.Parts:=⟨aWK _ a⟩;refine aS (λ_=>rfl) ?_;repeat' first|apply dU|apply aC|apply bI|intro
instance aZw{x:aZ}: TC (λn=>CE n x):=⟨by repeat' first|apply dU|apply aC|apply bI|intro⟩
instance aZv{x:aZ}: TC (λn=>CD n x):=⟨by repeat' first|apply dU|apply aC|apply bI|intro⟩
instance aZu{x:aZ}: TC (λn=>CB n x):=⟨by repeat' first|apply dU|apply aC|apply bI|intro⟩
def aAn(e:aZ): Prop:=e.Via.length<=64/\e.Parts.length<=64
theorem aM4(e:aZ): aB (λn _=>Lh n e) λr=>r=0->aAn e:=by
 refine aS (λ_=>rfl)<|bI λ_=>aC (λ_=>aA<|by simp) λ_=>bI λ_=>aC (λ_=>aA<|by simp) λ_=>bI λ_=>aC (λ_=>aA<|by simp) λ_=>aD (f:=λn _=>CC n e) (Q:=λr=>r=false->aAn e) (aC (λ_=>aA<|by simp) λb=>aC (λ_=>aA<|by simp) λc=>aA λ_=>?_) λr d=>aC (λ_=>aA<|by simp) λh=>?_
 .have b:¬ln e.Via > 64:=Zp b;have c:¬ln e.Parts > 64:=Zp c;unfold ln at b c;exact⟨by omega,by omega⟩
 .have a:=d h;refine aD (aLh e (by have:=a.1;omega)<|by have:=a.2;omega) λ_ _=>aC (λ_=>aD (aQr e.Parts<|by have:=a.2;omega) λ_ _=>aC (λ_=>bI λ_=>aC (λ_=>aA<|by simp) λ_=>aA λ_=>a) λ_=>aA<|by simp) λ_=>aA<|by simp
def aXw(t:aY): Prop:=t.Edits.length<=64/\∀e∈t.Edits,aAn e
theorem aTH(l:List aZ)(f:l.length<=64)(i:Nat)(b:xH l i aAn): aB (λn m=>oW xV n m (l,ln l) (i:Int)) (Su (λv=>v.2≠0) λ_=>∀e∈l,aAn e):=
 bN<|bD (λx d c=>by
  rw[bV<|by omega];exact aD (aM4 x) λr g=>aC (λh=>aA<|show r≠0 by simpa using h) λh=>aTH l f (i+1)<|b.step d<|g<|by simpa using h) λa=>aA<|b.fin a
termination_by l.length-i
theorem aQV(x:Int)(h:0<=x/\x<=1000000000): IntKind.u64.wrap x=x:=by
 have e:IntKind.u64.wrap x=x % 18446744073709551616:=by simp[IntKind.wrap,IntKind.bits,IntKind.signed]
 rw[e];omega
theorem aEi(f g:Nat)(h:f+g<=10000000): wr (Int.fdiv (IntKind.u64.wrap<|wr<|(f:Int)+(g:Int)) 2)=(((f+g) / 2:Nat):Int):=by
 have a:wr ((f:Int)+(g:Int))=((f+g:Nat):Int):=by rw[wr,i64_in _<|by omega];omega
 rw[a,aQV _<|by omega,Int.fdiv_eq_ediv_of_nonneg _<|by omega,wr,i64_in _<|by omega];omega
theorem PJ(l:List Aab)(b:Int)(a:l.length<=1000)(f g:Nat)(e:f<=g)(c:g<=l.length): aB (λn m=>qC tH n m (l,b) ((f:Int),(g:Int))) λr=>0<=r/\r.toNat<=l.length:=by
 refine cA<|aC (λh=>?_) λ_=>aA ⟨by show (0:Int)<=(f:Int);omega,by show (f:Int).toNat<=_;omega⟩;have h:(f:Int)<(g:Int):=Zl h;have d:(f+g) / 2<l.length:=by omega
 rw[aEi f g<|by omega];refine aE (x:=l[(f+g) / 2]) (by rw[bP];exact Zb d)<|aD (f:=λn _=>qK n (l[(f+g) / 2],b)) (Q:=λ_=>True) (aT<|aD (fT _ _) λ_ _=>aA trivial) λ_ _=>aC (λ_=>?_) λ_=>PJ l b a f ((f+g) / 2) (by omega) (by omega);rw[bV<|by omega];exact PJ l b a ((f+g) / 2+1) g (by omega) c
termination_by g-f
theorem JP(a:aK)(b:Int)(g:a.Plan.Nodes.length<=1000): aB (λn _=>pB n a b) λr=>0<=r.1/\r.1.toNat<=a.Plan.Nodes.length/\(r.2=true->r.1.toNat<a.Plan.Nodes.length):=by
 refine aS (λ_=>rfl)<|aO (f:=λn _=>Rw n (a.Plan.Nodes,b)) (Q:=λv=>0<=v.2.1/\v.2.1.toNat<a.Plan.Nodes.length) (R:=λv=>0<=v/\v.toNat<=a.Plan.Nodes.length) (aT<|aD (aU<|PJ _ b g 0 a.Plan.Nodes.length (by omega)<|Zf _) λf e=>aC (λh=>?_) λ_=>aA<|by exact e) (λv c=>aC (λ_=>aA ⟨c.1,by have:=c.2;show v.2.1.toNat<=_;omega,λ_=>c.2⟩) λ_=>aA ⟨c.1,by have:=c.2;show v.2.1.toNat<=_;omega,λh=>by cases h⟩) λv c=>aE rfl<|aA ⟨c.1,c.2,λh=>by cases h⟩;have h:f<ln a.Plan.Nodes:=Zl h;have d:f.toNat<a.Plan.Nodes.length:=by unfold ln at h;omega
 exact aE (vA e.1 d)<|aD (f:=λn _=>qK n (a.Plan.Nodes[f.toNat],b)) (Q:=λ_=>True) (aT<|aD (fT _ _) λ_ _=>aA trivial) λ_ _=>aC (λ_=>aA<|by exact⟨e.1,d⟩) λ_=>aA<|by exact⟨e.1,d⟩
theorem M6(l:List aR)(b:Int)(a:l.length<=1000)(f g:Nat)(e:f<=g)(c:g<=l.length): aB (λn m=>qC vH n m (l,b) ((f:Int),(g:Int))) λr=>0<=r/\r.toNat<=l.length:=by
 refine cA<|aC (λh=>?_) λ_=>aA ⟨by show (0:Int)<=(f:Int);omega,by show (f:Int).toNat<=_;omega⟩;have h:(f:Int)<(g:Int):=Zl h;have d:(f+g) / 2<l.length:=by omega
 rw[aEi f g<|by omega];refine aE (x:=l[(f+g) / 2]) (by rw[bP];exact Zb d)<|aD (f:=λn _=>tQ n (l[(f+g) / 2],b)) (Q:=λ_=>True) (aT<|aD (fT _ _) λ_ _=>aA trivial) λ_ _=>aC (λ_=>?_) λ_=>M6 l b a f ((f+g) / 2) (by omega) (by omega);rw[bV<|by omega];exact M6 l b a ((f+g) / 2+1) g (by omega) c
termination_by g-f
theorem aCO(a:aK)(b:Int)(g:a.Plan.Arcs.length<=1000): aB (λn _=>Aw n a b) λr=>0<=r.1/\r.1.toNat<=a.Plan.Arcs.length/\(r.2=true->r.1.toNat<a.Plan.Arcs.length):=by
 refine aS (λ_=>rfl)<|aO (f:=λn _=>BX n (a.Plan.Arcs,b)) (Q:=λv=>0<=v.2.1/\v.2.1.toNat<a.Plan.Arcs.length) (R:=λv=>0<=v/\v.toNat<=a.Plan.Arcs.length) (aT<|aD (aU<|M6 _ b g 0 a.Plan.Arcs.length (by omega)<|Zf _) λf e=>aC (λh=>?_) λ_=>aA<|by exact e) (λv c=>aC (λ_=>aA ⟨c.1,by have:=c.2;show v.2.1.toNat<=_;omega,λ_=>c.2⟩) λ_=>aA ⟨c.1,by have:=c.2;show v.2.1.toNat<=_;omega,λh=>by cases h⟩) λv c=>aE rfl<|aA ⟨c.1,c.2,λh=>by cases h⟩;have h:f<ln a.Plan.Arcs:=Zl h;have d:f.toNat<a.Plan.Arcs.length:=by unfold ln at h;omega
 exact aE (vA e.1 d)<|aD (f:=λn _=>tQ n (a.Plan.Arcs[f.toNat],b)) (Q:=λ_=>True) (aT<|aD (fT _ _) λ_ _=>aA trivial) λ_ _=>aC (λ_=>aA<|by exact⟨e.1,d⟩) λ_=>aA<|by exact⟨e.1,d⟩
theorem La(l:List aH)(b:Int)(a:l.length<=1000)(f g:Nat)(e:f<=g)(c:g<=l.length): aB (λn m=>qC mS n m (l,b) ((f:Int),(g:Int))) λr=>0<=r/\r.toNat<=l.length:=by
 refine cA<|aC (λh=>?_) λ_=>aA ⟨by show (0:Int)<=(f:Int);omega,by show (f:Int).toNat<=_;omega⟩;have h:(f:Int)<(g:Int):=Zl h;have d:(f+g) / 2<l.length:=by omega
 rw[aEi f g<|by omega];refine aE (x:=l[(f+g) / 2]) (by rw[bP];exact Zb d)<|aD (f:=λn _=>kG n (l[(f+g) / 2],b)) (Q:=λ_=>True) (aT<|aD (fT _ _) λ_ _=>aA trivial) λ_ _=>aC (λ_=>?_) λ_=>La l b a f ((f+g) / 2) (by omega) (by omega);rw[bV<|by omega];exact La l b a ((f+g) / 2+1) g (by omega) c
termination_by g-f
theorem aEG(a:aK)(b:Int)(g:a.Features.length<=1000): aB (λn _=>Au n a b) λr=>0<=r.1/\r.1.toNat<=a.Features.length/\(r.2=true->r.1.toNat<a.Features.length):=by
 refine aS (λ_=>rfl)<|aO (f:=λn _=>Dy n (a.Features,b)) (Q:=λv=>0<=v.2.1/\v.2.1.toNat<a.Features.length) (R:=λv=>0<=v/\v.toNat<=a.Features.length) (aT<|aD (aU<|La _ b g 0 a.Features.length (by omega)<|Zf _) λf e=>aC (λh=>?_) λ_=>aA<|by exact e) (λv c=>aC (λ_=>aA ⟨c.1,by have:=c.2;show v.2.1.toNat<=_;omega,λ_=>c.2⟩) λ_=>aA ⟨c.1,by have:=c.2;show v.2.1.toNat<=_;omega,λh=>by cases h⟩) λv c=>aE rfl<|aA ⟨c.1,c.2,λh=>by cases h⟩;have h:f<ln a.Features:=Zl h;have d:f.toNat<a.Features.length:=by unfold ln at h;omega
 exact aE (vA e.1 d)<|aD (f:=λn _=>kG n (a.Features[f.toNat],b)) (Q:=λ_=>True) (aT<|aD (fT _ _) λ_ _=>aA trivial) λ_ _=>aC (λ_=>aA<|by exact⟨e.1,d⟩) λ_=>aA<|by exact⟨e.1,d⟩
theorem aBx(a b:Int)(l:List aH)(d:l.length<=1000)(c:∀f∈l,f.Parts.length<=1000)(i:Nat)(o:i<=l.length)(h:List Int)(k:h.length<=i): aB (λn m=>qC oF n m (a,b,l,ln l) (h,(i:Int))) λr=>r.length<=l.length:=
 cA<|bD (λx e j=>by
  rw[bV<|by omega];refine aD (f:=λn _=>Hj n (x,a,b)) (Q:=λ_=>True) (bI λ_=>aC (λ_=>aD (Bg x.Parts b<|by have:=c x<|Zg e;omega) λ_ _=>aC (λ_=>aA trivial) λ_=>aA trivial) λ_=>aA trivial) λ_ _=>aC (λ_=>aE (Sq<|by omega)<|aBx a b l d c (i+1) (by omega) _<|by simp;omega) λ_=>aBx a b l d c (i+1) (by omega) h<|by omega)
  (λg=>aA<|show h.length<=_ by omega)
termination_by l.length-i
theorem p9(s:aK)(c:Be s)(a b:Int): aB (λn _=>jN n s a b) λr=>r.length<=1000:=
 aS (λ_=>rfl)<|aC (λ_=>aA<|by simp) λ_=>aC (λ_=>aA<|by simp) λ_=>aD (aU<|aBx a b s.Features c.n c.f 0 (by omega) []<|by simp) λr d=>aA<|by have:=c.n;omega
theorem aIz(a b:List Int)(h:a.length=b.length)(d:a.length<=100000)(i:Nat): Sx λn m=>oW gI n m (a,b,ln a) (i:Int):=
 bN<|bD (λx f c=>by
  rw[bV<|by omega];exact aE (x:=b[i]'(by omega)) (by rw[bP];exact Zb<|by omega)<|aC (λ_=>aA trivial) λ_=>aIz a b h d<|i+1) λe=>aA trivial
termination_by a.length-i
theorem DQ{α:Type}{a b:List α}(h:(ln a != ln b)=false): a.length=b.length:=by
 have h:ln a=ln b:=by simpa using h
 unfold ln at h;omega
theorem aPH(a b:List Int)(c:a.length<=100000): Tt λn _=>iF n a b:=
 aS (λ_=>rfl)<|aC (λ_=>aA trivial) λh=>aO (aU<|aIz a b (DQ h) c 0) (λ_ _=>aA trivial) λ_ _=>aE rfl<|aA trivial
theorem aII(c:List<|List Int)(g:c.length<=1000)(i a:Nat)(f:a+(c.drop i).flatten.length<=900000): aB (λn m=>qC iZ n m (c,ln c) ((a:Int),(i:Int))) λr=>r=((a+(c.drop i).flatten.length:Nat):Int):=
 cA<|bD (λx k o=>by
  have e:=xO k;rw[e,Zh] at f;have l:wr ((a:Int)+ln x)=((a+x.length:Nat):Int):=by rw[wr,ln,i64_in _<|by omega];push_cast;rfl
  rw[l,bV<|by omega];refine aC (λh=>?_) λ_=>?_
  .have:=Zl h;omega
  .refine (aII c g (i+1) (a+x.length)<|by omega).imp λr j=>?_;rw[j,e,Zh,Yu])
  (λd=>aA<|by rw[Xo d];rfl)
termination_by c.length-i
theorem aIH(a:List<|List Int)(d:a.length<=1000)(i:Nat)(b:(a.drop i).flatten.length=0): Tt λn m=>qC iY n m (a,ln a) (i:Int):=
 cA<|bD (λx c g=>by
  have e:=xO c;rw[e,Zh] at b;rw[bV<|by omega];refine aC (λh=>aIH a d (i+1)<|by omega) λh=>?_;have:x=[]:=ZK.1 (by omega);rw[this] at h;cases h)
  (λf=>aA trivial)
termination_by a.length-i
theorem aIG(a:List<|List Int)(h:a.length<=1000)(N:Nat)(f:N<=400000)(i:Nat)(l:List Int)(k:Nat)(d:l.length=N)(c:k+(a.drop i).flatten.length=N): aB (λn m=>qC iX n m (a,ln a) (l,(0,k),(i:Int))) λr=>r.2=(0,r.1.length)/\r.1.length=N:=
 cA<|bD (λx g j=>by
  have e:=xO g;rw[e,Zh] at c;rw[bV<|by omega];exact aE (x:=aQ l k x) (by unfold SD;rw[Zu<|by simp only[Z0];omega,Z0])<|aIG a h N f (i+1) _ (k+x.length) (by simp[aQ];omega)<|by omega)
  (λb=>aA<|by
   rw[Xo b,Xd,Z1,Xm] at c;exact⟨by show ((0:Nat),k)=(0,l.length);rw[c,d],d⟩)
termination_by a.length-i
theorem aSF(a:List<|List Int)(c:a.length<=1000)(d:a.flatten.length<=400000): aB (λn _=>pK n a) λr=>r.length=a.flatten.length:=by
 refine aS (λ_=>rfl)<|aD (aU<|aII a c 0 0<|by rw[YD];omega) λv e=>?_;have f:v=((a.flatten.length:Nat):Int):=by rw[e];simp
 have e2:wr (v-0)=((a.flatten.length:Nat):Int):=by rw[f,wr,i64_in _<|by omega];omega
 refine aO (Q:=λ_=>a.flatten.length=0) (R:=λr=>r=(List.replicate a.flatten.length 0,(0,0))) (aT<|aC (λh=>by have:=Zl h;omega) λ_=>aC (λ_=>?_) λh=>by rw[e2] at h;have:=Zp h;exact aA<|show a.flatten.length=0 by omega) (λ_ h=>?_) λr b=>?_
 .refine aE (x:=List.replicate a.flatten.length 0) (by rw[e2];unfold rep;rw[Zu<|by omega];simp)<|aC (λh=>?_) λ_=>aE (x:=(0,0)) (by unfold sub;rw[Zu<|by simp];rfl)<|aA rfl;rw[Vd] at h;have:=congrArg List.length h;rw[Yo,Z1] at this;exact aA this
 .exact aD (aU<|aIH a c 0<|by simpa using h) λ_ _=>aE rfl<|aA h.symm
 .subst b;refine aE rfl<|aD (aU<|aIG a c a.flatten.length d 0 _ 0 (by simp)<|by simp) λr b=>aE (Ex<|Yj b.1)<|aA ?_;rw[b.1,<-b.2];simp[win]
theorem L2(s c N:Nat)(f:s+c=N)(e:N<=400000)(g:Nat)(u:1<=g)(v:g<=c)(d:List Int)(a:d.length=N)(q:Nat)(t:q+1<=s+g): aB (λn m=>qC oC n m (s,c) (d,(q:Int),(g:Int))) λr=>r.1.length=N/\0<=r.2/\r.2.toNat<=N:=by
 refine cA<|aC (λh=>?_) λ_=>aA ⟨a,by show (0:Int)<=(q:Int);omega,by show ((q:Int)).toNat<=N;omega⟩;have h:(g:Int)<((c:Nat):Int):=Zl h;have h:g<c:=by omega
 have l:wr ((g:Int)-1)=((g-1:Nat):Int):=by rw[wr,i64_in _<|by omega];omega
 have b:∀j,j<c->idx (win d<|some (s,c)) (j:Int)=d[s+j]?:=λj p=>by
  rw[bP];simp only[win];rw[XL p,Zw]
 have i:idx (win d<|some (s,c)) (g:Int)=some (d[s+g]'(by omega)):=by rw[b g h];exact Zb<|by omega
 have e2:idx d ((g:Int)+((s:Nat):Int))=some (d[s+g]'(by omega)):=by
  rw[show (g:Int)+((s:Nat):Int)=((s+g:Nat):Int) by omega,bP];exact Zb<|by omega
 have o:idx (win d<|some (s,c)) ((g-1:Nat):Int)=some (d[s+(g-1)]'(by omega)):=by rw[b (g-1)<|by omega];exact Zb<|by omega
 have k:idx d (((g-1:Nat):Int)+((s:Nat):Int))=some (d[s+(g-1)]'(by omega)):=by
  rw[show ((g-1:Nat):Int)+((s:Nat):Int)=((s+(g-1):Nat):Int) by omega,bP];exact Zb<|by omega
 rw[l,bV<|by omega,bV<|by omega];refine aE i<|aE e2<|aE o<|aE k<|aC (λ_=>?_) λ_=>L2 s c N f e (g+1) (by omega) (by omega) d a q (by omega);refine aE i<|aE e2<|aE (x:=d[q]'(by omega)) (by rw[eY<|by omega];exact Zb<|by omega)<|aE (x:=d[q]'(by omega)) (by rw[bP];exact Zb<|by omega) ?_;exact L2 s c N f e (g+1) (by omega) (by omega) _ (by rw[Yr];exact a) (q+1)<|by omega
termination_by c-g
theorem aEY(a:List Int)(c:a.length<=400000)(i:Nat)(l:1<=i): aB (λn m=>oW oD n m a (i:Int))<|Su (λv=>(win v.1<|some v.2).length<=a.length) λ_=>True:=by
 refine bN<|aC (λh=>?_) λ_=>aA trivial;have h:(i:Int)<ln a:=Zl h;have h:i<a.length:=by unfold ln at h;omega
 have g:wr ((i:Int)-1)=((i-1:Nat):Int):=by rw[wr,i64_in _<|by omega];omega
 rw[g,bV<|by omega];refine aE (x:=a[i]) (by rw[eY h];exact Zb h)<|aE (x:=a[i]) (by rw[bP];exact Zb h)<|aE (x:=a[i-1]'(by omega)) (by rw[eY<|by omega];exact Zb<|by omega)<|aE (x:=a[i-1]'(by omega)) (by rw[bP];exact Zb<|by omega)<|aC (λ_=>?_) λ_=>aEY a c (i+1) (by omega);refine aE (x:=(i,a.length-i)) (by unfold sub;rw[Zu ⟨by omega,by unfold ln;omega,by unfold ln;simp⟩];simp[ln])<|aD (aU<|L2 i (a.length-i) a.length (by omega) c 1 (Zf _) (by omega) a rfl i<|by omega) λj k=>?_;let⟨e,p,o⟩:=k;let⟨q,d⟩:∃q:Nat,j.2=(q:Int):=⟨j.2.toNat,by omega⟩;have f:q<=a.length:=by omega
 refine aE (x:=(q,a.length-q)) (by rw[d];unfold sub;rw[Zu ⟨by omega,by unfold ln;omega,by unfold ln;simp⟩];simp[ln,e])<|aE (x:=aQ j.1 q<|List.replicate (a.length-q) 0) (by unfold clr;rw[Zu<|by show q+(a.length-q)<=_;omega]) ?_;have b:(aQ j.1 q<|List.replicate (a.length-q) 0).length=a.length:=by unfold aQ;simp;omega
 refine aE (x:=(0,q)) (by rw[d];unfold sub;rw[Zu ⟨by omega,by omega,by simp[b];omega⟩];simp)<|aA ?_;show (List.take q<|List.drop 0 _).length<=_;simp;omega
termination_by a.length-i
theorem aRV{l b:List Int}{k:Nat}(h:l.length<=(tX b).length)(e:b.length=k): l.length<=k:=by rw[xX] at h;omega
theorem aGJ(a:List<|List Int)(e:a.length<=1000)(g:a.flatten.length<=400000): aB (λn _=>nB n a) λr=>r.length<=a.flatten.length:=by
 refine aS (λ_=>rfl)<|aD (aSF a e g) λb d=>aT<|aE (Ex<|Yj<|by omega)<|aO (HB (f:=λn=>Ha n<|tX b) (P:=Su (λ_=>True) λv=>(win v.1<|some v.2).length<=(tX b).length)<|aT<|aC (λ_=>aA trivial) λ_=>aO (aU<|aEY (tX b) (by rw[xX];omega) 1<|Zf _) (λv c=>aA<|by exact c) λ_ _=>aE rfl<|aA trivial) (λ_ _=>aA<|by rw[xX];omega) λv c=>aE rfl<|aA<|aRV c d
theorem aCV(a b:List Int)(h:a.length+b.length<=400000): aB (λn _=>uI n a b) λr=>r.length<=a.length+b.length:=
 aS (λ_=>rfl)<|aD (aGJ [a,b] (by simp)<|by simpa using h) λc d=>aA<|by simpa using d
instance aYc{x:Int}: TC (λn=>fQ n x):=⟨aS (λ_=>rfl) (by repeat' first|apply dU|apply aC|apply bI|intro)⟩
instance aZd{x y:Int}: TC (λn=>Nh n (x,y)):=⟨by repeat' first|apply dU|apply aC|apply bI|intro⟩
instance aWX{x y:Int}: TC (λn=>Lj n x y):=⟨aS (λ_=>rfl) (by repeat' first|apply dU|apply aC|apply bI|intro)⟩
instance aZ0{x:Int}: TC (λn=>fV n x):=⟨aT (by repeat' first|apply dU|apply aC|apply bI|intro)⟩
theorem aCJ(l:List Int)(b:Int)(a:l.length<=400000)(f g:Nat)(e:f<=g)(c:g<=l.length): aB (λn m=>qC fJ n m (l,b) ((f:Int),(g:Int))) λr=>0<=r/\r.toNat<=l.length:=by
 refine cA<|aC (λh=>?_) λ_=>aA ⟨by show (0:Int)<=(f:Int);omega,by show (f:Int).toNat<=_;omega⟩;have h:(f:Int)<(g:Int):=Zl h;have d:(f+g) / 2<l.length:=by omega
 rw[aEi f g<|by omega];refine aE (x:=l[(f+g) / 2]) (by rw[bP];exact Zb d)<|bI λ_=>aC (λ_=>?_) λ_=>aCJ l b a f ((f+g) / 2) (by omega) (by omega);rw[bV<|by omega];exact aCJ l b a ((f+g) / 2+1) g (by omega) c
termination_by g-f
theorem aXt(l:List Int)(b:Int)(d:l.length<=400000): Tt λn _=>iH n l b:=by
 refine aS (λ_=>rfl)<|aD (aU<|aCJ l b d 0 l.length (by omega)<|Zf _) λf c=>aC (λh=>?_) λ_=>aA trivial;have h:f<ln l:=Zl h;have a:f.toNat<l.length:=by unfold ln at h;omega
 have e:=vA c.1 a;refine aE e<|aC (λ_=>aA trivial) λ_=>aE e ?_;repeat' first|apply dU|apply aC|apply bI|intro
theorem aCh(c d:List Int)(a:c.length<=400000)(b:d.length<=400000)(i:Nat)(l:i<=d.length)(h:List Int)(j:h.length<=i): aB (λn m=>qC sP n m (c,d,ln d) (h,(i:Int))) λr=>r.length<=d.length:=
 cA<|bD (λx k g=>by
  rw[bV<|by omega];refine aD (f:=λn _=>Qk n (c,x)) (Q:=λ_=>True) (aT<|aD (aXt c x a) λ_ _=>aC (λ_=>aA trivial) λ_=>aA trivial) λ_ _=>aC (λ_=>aE (Sp<|by omega)<|aCh c d a b (i+1) (by omega) _<|by simp;omega) λ_=>aCh c d a b (i+1) (by omega) h<|by omega)
  (λe=>aA<|show h.length<=_ by omega)
termination_by d.length-i
theorem aPD(a b:List Int)(h:a.length<=400000)(i:b.length<=400000): aB (λn _=>Qq n a b) λr=>r.length<=a.length:=
 aS (λ_=>rfl)<|aD (aGJ [b] (by simp)<|by simpa using i) λc j=>aD (f:=λn _=>Qn n (c,a)) (Q:=λr=>r.length<=a.length) (aT<|aD (aGJ [a] (by simp)<|by simpa using h) λd g=>aD (aU<|aCh c d (by simp at j;omega) (by simp at g;omega) 0 (by omega) []<|by simp) λr e=>aA<|by simp at g;show r.length<=_;omega) λr e=>aA e
theorem aIT(a b:Int)(l:List Int)(e:l.length<=10000): aB (λn _=>iT n (a,b,l)) λr=>r.length<=l.length+1:=
 aT<|aD (aBo l a<|by omega) λ_ _=>aC (λ_=>aD (aPD l [a] (by omega)<|by simp) λg d=>aC (λ_=>aD (aCV g [b]<|by simp;omega) λh c=>aA<|by simp at c;show h.length<=_;omega) λ_=>aA<|by show g.length<=_;omega) λ_=>aA<|by show l.length<=_;omega
def aPJ(r:dR): Prop:=r.Outer.length+r.Inner.flatten.length<=900000/\r.Inner.length<=200000
theorem aI9(a:List<|List Int)(c:a.length<=200000)(i:Nat)(h:List Int)(b:h.length+(a.drop i).flatten.length<=900000): aB (λn m=>qC vG n m (a,ln a) (h,(i:Int))) λr=>r.length<=900000:=
 cA<|bD (λx d g=>by
  have e:=xO d;rw[e,Zh] at b;rw[bV<|by omega];exact aE (tJ<|by omega)<|aI9 a c (i+1) _<|by rw[Zh];omega)
  (λf=>aA<|show h.length<=_ by omega)
termination_by a.length-i
theorem aI8(r:dR)(h:aPJ r): aB (λn _=>Lg n r) λr=>r.length<=900000:=by
 let⟨a,b⟩:=h;refine aS (λ_=>rfl)<|aE (tJ (l:=([]:List Int)) (m:=r.Outer)<|by simp;omega)<|aD (aU<|aI9 r.Inner b 0 _<|by simpa using a) λc d=>aA d
theorem aHg(p:aM)(a:Sm p)(b:Int)(c:List Int)(e:c.length<=900000)(i:Nat): Sx λn m=>oW sW n m (p,b,c,ln c) (i:Int):=
 bN<|bD (λx h d=>by
  rw[bV<|by omega];refine aD (f:=λn _=>Rr n (b,x)) (Q:=λ_=>True) (by repeat' first|apply dU|apply aC|apply bI|intro) λ_ _=>aC (λ_=>aD (O2 p a x) λ_ _=>aA trivial) λ_=>aHg p a b c e<|i+1) λg=>aA trivial
termination_by c.length-i
theorem aHh(p:aM)(d:Sm p)(b:Int)(c:List dR)(f:c.length<=1000)(a:∀r∈c,aPJ r)(i:Nat): Sx λn m=>oW sX n m (p,b,c,ln c) (i:Int):=
 bN<|bD (λx g e=>by
  rw[bV<|by omega];exact aD (aI8 x<|a x<|Zg g) λl h=>aO (aU<|aHg p d b l h 0) (λ_ _=>aA trivial) λ_ _=>aE rfl<|aHh p d b c f a<|i+1) λj=>aA trivial
termination_by c.length-i
theorem aKv(p:aM)(d:Sm p)(b:Int)(c:List dR)(a:c.length<=1000)(e:∀r∈c,aPJ r): Tt λn _=>Rs n p b c:=
 aS (λ_=>rfl)<|aO (aU<|aHh p d b c a e 0) (λ_ _=>aA trivial) λ_ _=>aE rfl<|aA trivial
structure FeI(l:List aH)(N i:Nat): Prop where
 len:l.length=N
 lo:∀(j:Nat) (f:aH),l[j]?=some f->f.Parts.length<=65
 hi:∀(j:Nat) (f:aH),i<=j->l[j]?=some f->f.Parts.length<=64
theorem FeI.next{l:List aH}{N i:Nat}(h:FeI l N i): FeI l N<|i+1:=⟨h.len,h.lo,λj f a=>h.hi j f<|by omega⟩
theorem FeI.set{l:List aH}{N i:Nat}(h:FeI l N i){g:aH}(b:g.Parts.length<=65): FeI (l.set i g) N<|i+1:=by
 refine⟨by rw[Yr];exact h.len,λj f a=>?_,λj f c a=>?_⟩
 .rw[Z5] at a;split at a
  .split at a
   .cases a;exact b
   .cases a
  .exact h.lo j f a
 .rw[Zv<|by omega] at a;exact h.hi j f (by omega) a
theorem FeI.all{l:List aH}{N i:Nat}(h:FeI l N i): ∀f∈l,f.Parts.length<=65:=λf a=>by
 let⟨j,b⟩:=Yi.1 a;exact h.lo j f b
theorem FeI.at{l:List aH}{N i:Nat}(h:FeI l N i)(c:N<=1000)(b:(i:Int)<(N:Int)): ∃f,f.Parts.length<=64/\eM l l.length (i:Int)=some f/\idx l (i:Int)=some f:=by
 have a:i<l.length:=by rw[h.len];omega
 have e:=Zb a;exact⟨l[i],h.hi i _ (Zf _) e,by rw[eY a];exact e,by rw[bP];exact e⟩
theorem aGc(a b:List Int)(c:List Aab)(d f:List aR)(g h:Int)(N:Nat)(j:N<=1000)(i:Nat)(l:List aH)(e:FeI l N i): aB (λn m=>qC oQ n m (a,b,c,d,f,g,h,(N:Int)) (l,(i:Int))) λr=>r.length=N/\∀f∈r,f.Parts.length<=65:=by
 refine cA<|aC (λk=>?_) λ_=>aA ⟨e.len,e.all⟩;have k:(i:Int)<(N:Int):=Zl k;let⟨x,q,o,e2⟩:=e.at j k;rw[bV<|by omega];refine aE o<|aE e2<|aD (f:=λn _=>Ik n (x,g)) (Q:=λ_=>True) (bI λ_=>aC (λ_=>aD (aBo x.Parts g<|by omega) λ_ _=>aC (λ_=>aA trivial) λ_=>aA trivial) λ_=>aA trivial) λ_ _=>aC (λ_=>aD (aCV x.Parts [h]<|by simp;omega) λt p=>aE o<|aE e2 ?_) λ_=>aGc a b c d f g h N j (i+1) l e.next;simp only[YA];exact aGc a b c d f g h N j (i+1) _<|e.set<|by simp at p;show t.length<=65;omega
termination_by N-i
theorem aGa(a b:List Int)(c:List Aab)(d:List aR)(f g:Int)(N:Nat)(j:N<=1000)(i:Nat)(l:List aH)(e:FeI l N i): aB (λn m=>qC oO n m (a,b,c,d,f,g,(N:Int)) (l,(i:Int))) λr=>r.length=N/\∀f∈r,f.Parts.length<=65:=by
 refine cA<|aC (λh=>?_) λ_=>aA ⟨e.len,e.all⟩;have h:(i:Int)<(N:Int):=Zl h;let⟨x,o,k,e2⟩:=e.at j h;rw[bV<|by omega];refine aE k<|aE e2<|bI λ_=>aC (λ_=>aD (aIT f g x.Parts<|by omega) λt p=>aE k<|aE e2 ?_) λ_=>aGa a b c d f g N j (i+1) l e.next;simp only[YA];exact aGa a b c d f g N j (i+1) _<|e.set<|by show t.length<=65;omega
termination_by N-i
theorem aFY(w:Nat×Nat)(a b:List Int)(c:List Aab)(d:List aR)(f g:Int)(N:Nat)(h:N<=1000)(i:Nat)(l:List aH)(e:FeI l N i): aB (λn m=>qC oM n m (w,a,b,c,d,f,g,(N:Int)) (l,(i:Int))) λr=>r.length=N/\∀f∈r,f.Parts.length<=65:=by
 refine cA<|aC (λj=>?_) λ_=>aA ⟨e.len,e.all⟩;have j:(i:Int)<(N:Int):=Zl j;let⟨x,p,k,e2⟩:=e.at h j;rw[bV<|by omega];refine aE k<|aE e2<|bI λ_=>aC (λ_=>aD (aIT f g x.Parts<|by omega) λt o=>aE k<|aE e2 ?_) λ_=>aFY w a b c d f g N h (i+1) l e.next;simp only[YA];exact aFY w a b c d f g N h (i+1) _<|e.set<|by show t.length<=65;omega
termination_by N-i
theorem nI.at{l:List aR}{N i:Nat}(h:nI l N)(c:i<N): ∃a,l[i]?=some a/\eM l l.length (i:Int)=some a/\idx l (i:Int)=some a:=by
 have b:i<l.length:=by rw[h.1];omega
 have e:=Zb b;exact⟨l[i],e,by rw[eY b];exact e,by rw[bP];exact e⟩
theorem aGd(a:List Int)(b:List Aab)(c:List aH)(d:List Int)(f:Int)(g:List Int)(j:g.length<=900000)(N:Nat)(o:N<=300)(i:Nat)(l:List aR)(e:nI l N): aB (λn m=>qC oR n m (a,b,c,d,f,g,ln g) (l,(i:Int))) λr=>nI r N:=by
 refine cA<|bD (λx w u=>?_) λ_=>aA e;rw[bV<|by omega];refine aD (aCO ⟨⟨b,l,a⟩,c⟩ _<|by show l.length<=_;rw[e.1];omega) λr t=>aC (λs=>?_) λ_=>aGd a b c d f g j N o (i+1) l e;let⟨y,_,h⟩:=t;have h:r.1.toNat<l.length:=h s;let⟨q,p⟩:∃q:Nat,r.1=(q:Int):=⟨r.1.toNat,by omega⟩;rw[p] at h |-;let⟨x,v,k,e2⟩:=e.at (i:=q) (by rw[<-e.1];simpa using h);refine aC (λ_=>aE k<|aE e2 ?_) λ_=>aE k<|aE e2 ?_;all_goals
  simp only[YA];exact aGd a b c d f g j N o (i+1) _<|e.set v rfl
termination_by g.length-i
theorem aGb(a b:List Int)(c:List Aab)(d:List aH)(f g:Int)(N:Nat)(o:N<=300)(i:Nat)(l:List aR)(e:nI l N): aB (λn m=>qC oP n m (a,b,c,d,f,g,(N:Int)) (l,(i:Int))) λr=>nI r N:=by
 refine cA<|aC (λp=>?_) λ_=>aA e;have p:(i:Int)<(N:Int):=Zl p;have k:i<N:=by omega
 let⟨x,u,j,e2⟩:=e.at k;rw[bV<|by omega];refine aE j<|aE e2<|aD (f:=λn _=>Ii n (a,b,c,l,d,f,g,x,(i:Int))) (Q:=λr=>nI r N) (aC (λ_=>aE j<|aE e2<|aA ?_) λ_=>aA e) λr h=>?_
 .simp only[YA];exact e.set u rfl
 .let⟨y,t,s,q⟩:=h.at k;refine aC (λ_=>aE s<|aE q ?_) λ_=>aGb a b c d f g N o (i+1) r h;simp only[YA];exact aGb a b c d f g N o (i+1) _<|h.set t rfl
termination_by N-i
theorem aVB(a b:List Int)(c:List Aab)(d:List aR)(f:List aH)(g h:Int)(t:a.length<=1000)(q:nI d d.length)(e:d.length<=300)(p:FeI f f.length 0)(i:f.length<=1000): aB (λn _=>tG n (a,b,c,d,f,g,h)) λr=>r.1.length<=a.length+1/\nI r.2.1 d.length/\r.2.2.length=f.length/\∀x∈r.2.2,x.Parts.length<=65:=
 aT<|aD (aU<|aGb a b c f g h d.length e 0 d q) λj o=>aD (aIT g h a<|by omega) λl s=>aD (aU<|aGa l b c j g h f.length i 0 f p) λm k=>aA ⟨s,o,k.1,k.2⟩
theorem aVC(a b:List Int)(c:List Aab)(d:List aR)(f:List aH)(g:List Int)(h:List aR)(i:List Int)(j l:Int)(w:a.length<=1000)(p:nI h h.length)(e:h.length<=300)(u:FeI f f.length 0)(k:f.length<=1000)(v:i.length<=900000): aB (λn _=>Ix n (a,b,c,d,f,g,h,i,j,l)) λr=>r.1.length<=a.length+1/\nI r.2.2 h.length/\r.2.1.length=f.length/\∀x∈r.2.1,x.Parts.length<=65:=
 aT<|aD (aU<|aGd a c f g l i v h.length e 0 h p) λo t=>aD (aCV a [l]<|by simp;omega) λr q=>aD (aU<|aGc r b c d o j l f.length k 0 f u) λs m=>aA ⟨by simpa using q,t,m.1,m.2⟩
section
variable {α:Type}(l:List α)(z:α)(hl:l.length<=1000)(j:Nat)(hj:j<l.length)
include hl hj
theorem aS2: sub l (0,l.length) 0 (j:Int)=some (0,j):=by
 unfold sub;rw[Zu ⟨by omega,by omega,by simp;omega⟩];simp
theorem aS1: sub l (0,l.length) ((j+1:Nat):Int) (ln l)=some (j+1,l.length-(j+1)):=by
 unfold sub ln;rw[Zu ⟨by omega,by omega,by simp⟩];simp
theorem aJN: (win l<|some (j+1,l.length-(j+1))).length=l.length-(j+1):=by simp[win]
def aGE: List α:=aQ l j<|win l<|some (j+1,l.length-(j+1))
theorem aS0: SD l (0,j) (win l<|some (j+1,l.length-(j+1)))=some (aGE l j):=by
 unfold SD aGE;rw[aJN l hl j hj,Zu ⟨by simp;omega,by omega⟩,Z0]
theorem K9: (aGE l j).length=l.length:=by
 unfold aGE aQ;rw[Zh,Zh,ZV,ZH,aJN l hl j hj];omega
theorem aSz: sub (aGE l j) (0,j+(win l<|some (j+1,l.length-(j+1))).length) (((0,j+(win l<|some (j+1,l.length-(j+1))).length).2:Nat):Int) (ln l)=some (l.length-1,1):=by
 rw[aJN l hl j hj,show j+(l.length-(j+1))=l.length-1 by omega];unfold sub ln;rw[Zu ⟨by omega,by simp,by rw[K9 l hl j hj];simp⟩];simp;omega
def LT: List α:=aQ (aGE l j) (l.length-1)<|List.replicate 1 z
theorem aSy: clr (aGE l j) (l.length-1,1) z=some (LT l z j):=by
 unfold clr LT;rw[Zu<|by rw[K9 l hl j hj];show l.length-1+1<=_;omega]
theorem aMB: (LT l z j).length=l.length:=by
 unfold LT aQ;rw[Zh,Zh,ZV,ZH,K9 l hl j hj];simp;omega
omit hl hj in
theorem E6{e cs:List α}{k:Nat}{x:α}(h:x∈aQ e k cs): x∈e\/x∈cs:=by
 unfold aQ at h;rcases ZD.1 h with h | h
 .exact .inl<|Z7 h
 rcases ZD.1 h with h | h
 .exact .inr h
 .exact .inl<|ZZ h
omit hl hj in
theorem aES: ∀x∈LT l z j,x∈l\/x=z:=by
 intro x a;rcases E6 a with a | a
 .rcases E6 (show x∈aQ l j _ from a) with a | a
  .exact .inl a
  .exact .inl<|ZZ<|Z7 a
 .exact .inr<|List.eq_of_mem_replicate a
end
theorem aPf(a b:List Int)(d:List aR)(f:List aH)(l:List Aab)(e:l.length<=1000)(j:Nat)(c:j<l.length): aB (λn _=>Mt n (a,b,l,d,f,(j:Int),((j+1:Nat):Int)))<|Su (λ_=>False) λv=>v=(LT l (Aab.mk 0<|Aaa.mk 0 0) j,(0,l.length-1)):=by
 refine aT<|aE (Ex<|Yj ⟨by omega,by omega,by unfold ln;omega,Wn _⟩)<|aC (λh=>?_) λ_=>aE (aS2 l e j c)<|aE (aS1 l e j c)<|aE (aS0 l e j c)<|aE (aSz l e j c)<|aE (aSy l (Aab.mk 0<|Aaa.mk 0 0) e j c)<|aA ?_
 .have h:(j:Int)=((j+1:Nat):Int):=by simpa using h
  omega
 .show (LT l (Aab.mk 0<|Aaa.mk 0 0) j,(0,j+(win l<|some (j+1,l.length-(j+1))).length))=_;rw[aJN l e j c,show j+(l.length-(j+1))=l.length-1 by omega]
theorem aMD(a b:List Int)(c:List Aab)(f:List aH)(l:List aR)(e:l.length<=1000)(j:Nat)(d:j<l.length): aB (λn _=>Iw n (a,b,c,l,f,(j:Int),((j+1:Nat):Int)))<|Su (λ_=>False) λv=>v=(LT l (aR.mk 0 0 0 [] 0 0) j,(0,l.length-1)):=by
 refine aT<|aE (Ex<|Yj ⟨by omega,by omega,by unfold ln;omega,Wn _⟩)<|aC (λh=>?_) λ_=>aE (aS2 l e j d)<|aE (aS1 l e j d)<|aE (aS0 l e j d)<|aE (aSz l e j d)<|aE (aSy l (aR.mk 0 0 0 [] 0 0) e j d)<|aA ?_
 .have h:(j:Int)=((j+1:Nat):Int):=by simpa using h
  omega
 .show (LT l (aR.mk 0 0 0 [] 0 0) j,(0,j+(win l<|some (j+1,l.length-(j+1))).length))=_;rw[aJN l e j d,show j+(l.length-(j+1))=l.length-1 by omega]
theorem aMC(a b:List Int)(c:List Aab)(d:List aR)(l:List aH)(f:l.length<=1000)(j:Nat)(e:j<l.length): aB (λn _=>Is n (a,b,c,d,l,(j:Int),((j+1:Nat):Int)))<|Su (λ_=>False) λv=>v=(LT l (aH.mk 0 0 0 (⟨#[]⟩:ByteArray) []) j,(0,l.length-1)):=by
 refine aT<|aE (Ex<|Yj ⟨by omega,by omega,by unfold ln;omega,Wn _⟩)<|aC (λh=>?_) λ_=>aE (aS2 l f j e)<|aE (aS1 l f j e)<|aE (aS0 l f j e)<|aE (aSz l f j e)<|aE (aSy l (aH.mk 0 0 0 (⟨#[]⟩:ByteArray) []) f j e)<|aA ?_
 .have h:(j:Int)=((j+1:Nat):Int):=by simpa using h
  omega
 .show (LT l (aH.mk 0 0 0 (⟨#[]⟩:ByteArray) []) j,(0,j+(win l<|some (j+1,l.length-(j+1))).length))=_;rw[aJN l f j e,show j+(l.length-(j+1))=l.length-1 by omega]
theorem aHe{α:Type}{l:List α}{w:Option<|Nat×Nat}{x:α}(h:x∈win l w): x∈l:=by
 cases w with
 | none=>exact h
 | some w=>exact ZZ<|Z7 h
theorem aHf{α:Type}{l:List α}{k r:Nat}(a:r<k)(b:k<=l.length): idx (win l<|some (0,k)) (r:Int)=some (l[r]'(by omega))/\idx l ((r:Int)+((0:Nat):Int))=some (l[r]'(by omega)):=by
 constructor
 .rw[bP];simp only[win];rw[XL a,Zw,Z0];exact Zb<|by omega
 .rw[show (r:Int)+((0:Nat):Int)=(r:Int) by omega,bP];exact Zb<|by omega
theorem aFZ(k:Nat)(b c:List Int)(d:List Aab)(f:List aH)(g h:Int)(N:Nat)(p:k<=N)(t:N<=300)(i:Nat)(l:List aR)(a:nI l N): aB (λn m=>qC oN n m ((0,k),b,c,d,f,g,h,(0,k),((k:Nat):Int)) (l,(i:Int))) λr=>nI r N:=by
 refine cA<|aC (λs=>?_) λ_=>aA a;have s:(i:Int)<((k:Nat):Int):=Zl s;have q:i<k:=by omega
 have e:=aHf (l:=l) q (by rw[a.1];omega);have w:=Zb (l:=l) (i:=i) (by rw[a.1];omega);have o:((i:Int)+((0:Nat):Int)).toNat=i:=by omega
 rw[bV<|by omega];refine aE e.1<|aE e.2<|aD (f:=λn _=>Ih n ((0,k),b,c,d,l,f,g,h,l[i]'(by rw[a.1];omega),(i:Int),(0,k))) (Q:=λr=>nI r N) ?_ λr j=>?_
 .refine aC (λ_=>?_) λ_=>aA a;refine aE e.1<|aE e.2<|aA ?_;show nI (List.set l ((i:Int)+((0:Nat):Int)).toNat _) N;rw[o];exact a.set w rfl
 .have u:=aHf (l:=r) q (by rw[j.1];omega);have v:=Zb (l:=r) (i:=i) (by rw[j.1];omega);refine aC (λ_=>aE u.1<|aE u.2 ?_) λ_=>aFZ k b c d f g h N p t (i+1) r j;refine aFZ k b c d f g h N p t (i+1) _ ?_;show nI (List.set r ((i:Int)+((0:Nat):Int)).toNat _) N;rw[o];exact j.set v rfl
termination_by k-i
theorem aVA(k:Nat)(b c:List Int)(d:List Aab)(f:List aR)(g:List aH)(h i:Int)(v:b.length<=1000)(s:nI f f.length)(a:f.length<=300)(p:k<=f.length)(q:FeI g g.length 0)(e:g.length<=1000): aB (λn _=>Iv n ((0,k),b,c,d,f,g,h,i)) λr=>r.1.length<=b.length+1/\nI r.2.1 f.length/\r.2.2.length=g.length/\∀x∈r.2.2,x.Parts.length<=65:=
 aT<|aD (aU<|aFZ k b c d g h i f.length p a 0 f s) λl u=>aD (aIT h i b<|by omega) λm t=>aD (aU<|aFY (0,k) m c d l h i g.length e 0 g q) λo j=>aA ⟨t,u,j.1,j.2⟩
def O0: Prop:=∀(p q:aM) (x:Int),Sm p->Sm q->Tt (λn _=>dH n p q x)
theorem P4(f:Tb)(a:List Int)(b:List Aab)(c:List aR)(d:List aH)(e:Int)(i:Be ⟨⟨b,c,a⟩,d⟩): aB (λn _=>cK n (a,b,c,d,e)) λr=>r=0->HC ⟨⟨b,c,a⟩,d⟩:=
 aC (λ_=>aD (QP f _ i) λr j=>aA j) λh=>aA λg=>by rw[g] at h;simp at h
theorem aVy(a:Tb)(w:Nat×Nat)(b:List Int)(c:List Aab)(d:List aR)(f:List aH)(e:Int)(i:Be ⟨⟨win c<|some w,d,b⟩,f⟩): aB (λn _=>tF n (w,b,c,d,f,e)) λr=>r=0->HC ⟨⟨win c<|some w,d,b⟩,f⟩:=
 aC (λ_=>aD (QP a _ i) λr j=>aA j) λh=>aA λg=>by rw[g] at h;simp at h
theorem aVt(f:Tb)(a:List Int)(b:List Aab)(c:List aH)(d:List aR)(e:Int)(i:Be ⟨⟨b,d,a⟩,c⟩): aB (λn _=>Ie n (a,b,c,d,e)) λr=>r=0->HC ⟨⟨b,d,a⟩,c⟩:=
 aC (λ_=>aD (QP f _ i) λr j=>aA j) λh=>aA λg=>by rw[g] at h;simp at h
theorem aQE(a:Tb)(w:Nat×Nat)(b:List Int)(c:List Aab)(d:List aR)(f:List aH)(e:Int)(i:Be ⟨⟨c,win d<|some w,b⟩,f⟩): aB (λn _=>tD n (w,b,c,d,f,e)) λr=>r=0->HC ⟨⟨c,win d<|some w,b⟩,f⟩:=
 aC (λ_=>aD (QP a _ i) λr j=>aA j) λh=>aA λg=>by rw[g] at h;simp at h
theorem aVr(b:Tb)(a:List Int)(w:Nat×Nat)(c:List Aab)(d:List aR)(f:List aH)(e:Int)(i:Be ⟨⟨c,d,a⟩,win f<|some w⟩): aB (λn _=>Hy n (a,w,c,d,f,e)) λr=>r=0->HC ⟨⟨c,d,a⟩,win f<|some w⟩:=
 aC (λ_=>aD (QP b _ i) λr j=>aA j) λh=>aA λg=>by rw[g] at h;simp at h
theorem aKd(j:O0)(s:aK)(t:aZ)(a:List Int)(b:List Aab)(c:List aR)(d:List aH)(e:Int)(k:Int)(g:Sm s.Plan)(i:Sm ⟨b,c,a⟩): aB (λn _=>dY n (s,t,a,b,c,d,e,k)) λr=>r=0->e=0:=
 aD (f:=λn _=>Ir n (s,t,a,b,c,d,e,k)) (Q:=λ_=>True) (aC (λ_=>aC (λ_=>aD (j _ _ _ g i) λ_ _=>aC (λ_=>aA trivial) λ_=>aA trivial) λ_=>aC (λ_=>aD (j _ _ _ g i) λ_ _=>aC (λ_=>aA trivial) λ_=>aA trivial) λ_=>aA trivial) λ_=>aA trivial) λ_ _=>aC (λ_=>aA<|by simp) λ_=>aA λh=>h
theorem aVx(i:O0)(s:aK)(t:aZ)(w:Nat×Nat)(b:List Int)(c:List Aab)(d:List aR)(f:List aH)(e:Int)(k:Int)(a:Sm s.Plan)(g:Sm ⟨win c<|some w,d,b⟩): aB (λn _=>tE n (s,t,w,b,c,d,f,e,k)) λr=>r=0->e=0:=
 aD (f:=λn _=>Ip n (s,t,w,b,c,d,f,e,k)) (Q:=λ_=>True) (aC (λ_=>aC (λ_=>aD (i _ _ _ a g) λ_ _=>aC (λ_=>aA trivial) λ_=>aA trivial) λ_=>aC (λ_=>aD (i _ _ _ a g) λ_ _=>aC (λ_=>aA trivial) λ_=>aA trivial) λ_=>aA trivial) λ_=>aA trivial) λ_ _=>aC (λ_=>aA<|by simp) λ_=>aA λh=>h
theorem aFw(j:O0)(s:aK)(t:aZ)(a:List Int)(b:List Aab)(c:List aR)(d:List aH)(e:Int)(g:Sm s.Plan)(i:Sm ⟨b,c,a⟩): aB (λn _=>fS n (s,t,a,b,c,d,e)) λr=>r=0->e=0:=
 aD (f:=λn _=>Ig n (s,t,a,b,c,d,e)) (Q:=λ_=>True) (aC (λ_=>aC (λ_=>aD (j _ _ _ g i) λ_ _=>aC (λ_=>aA trivial) λ_=>aA trivial) λ_=>aC (λ_=>aD (j _ _ _ g i) λ_ _=>aC (λ_=>aA trivial) λ_=>aA trivial) λ_=>aA trivial) λ_=>aA trivial) λ_ _=>aC (λ_=>aA<|by simp) λ_=>aA λh=>h
theorem aVs(j:O0)(s:aK)(t:aZ)(a:List Int)(b:List Aab)(c:List aH)(d:List aR)(e:Int)(g:Sm s.Plan)(i:Sm ⟨b,d,a⟩): aB (λn _=>Id n (s,t,a,b,c,d,e)) λr=>r=0->e=0:=
 aD (f:=λn _=>Ib n (s,t,a,b,c,d,e)) (Q:=λ_=>True) (aC (λ_=>aC (λ_=>aD (j _ _ _ g i) λ_ _=>aC (λ_=>aA trivial) λ_=>aA trivial) λ_=>aC (λ_=>aD (j _ _ _ g i) λ_ _=>aC (λ_=>aA trivial) λ_=>aA trivial) λ_=>aA trivial) λ_=>aA trivial) λ_ _=>aC (λ_=>aA<|by simp) λ_=>aA λh=>h
theorem aQD(i:O0)(s:aK)(t:aZ)(w:Nat×Nat)(b:List Int)(c:List Aab)(d:List aR)(f:List aH)(e:Int)(a:Sm s.Plan)(g:Sm ⟨c,win d<|some w,b⟩): aB (λn _=>tC n (s,t,w,b,c,d,f,e)) λr=>r=0->e=0:=
 aD (f:=λn _=>Ia n (s,t,w,b,c,d,f,e)) (Q:=λ_=>True) (aC (λ_=>aC (λ_=>aD (i _ _ _ a g) λ_ _=>aC (λ_=>aA trivial) λ_=>aA trivial) λ_=>aC (λ_=>aD (i _ _ _ a g) λ_ _=>aC (λ_=>aA trivial) λ_=>aA trivial) λ_=>aA trivial) λ_=>aA trivial) λ_ _=>aC (λ_=>aA<|by simp) λ_=>aA λh=>h
theorem aVq(i:O0)(s:aK)(t:aZ)(a:List Int)(w:Nat×Nat)(c:List Aab)(d:List aR)(f:List aH)(e:Int)(b:Sm s.Plan)(g:Sm ⟨c,d,a⟩): aB (λn _=>Hx n (s,t,a,w,c,d,f,e)) λr=>r=0->e=0:=
 aD (f:=λn _=>Hw n (s,t,a,w,c,d,f,e)) (Q:=λ_=>True) (aC (λ_=>aC (λ_=>aD (i _ _ _ b g) λ_ _=>aC (λ_=>aA trivial) λ_=>aA trivial) λ_=>aC (λ_=>aD (i _ _ _ b g) λ_ _=>aC (λ_=>aA trivial) λ_=>aA trivial) λ_=>aA trivial) λ_=>aA trivial) λ_ _=>aC (λ_=>aA<|by simp) λ_=>aA λh=>h
theorem vU{f g:Nat->Nat->Option Int}{k:Nat->Nat->Int->Option Int}{s:aK}(e:Int)(i:aB f λr=>r=0->HC s)(b:∀r,aB (λn m=>k n m r) λq=>q=0->r=0): aB (λn m=>Av.bnd (f n m) λr=>Av.bnd (k n m r) λq=>Av.cnd (q != 0) (some ((⟨⟨[],[],[]⟩,[]⟩:aK),q))<|some (s,0)) λv=>v.2=0->HC v.1:=
 aD i λr d=>aD (b r) λq a=>aC (λh=>aA λc=>by rw[show q=0 from c] at h;simp at h) λh=>aA λ_=>d<|a<|by simpa using h
theorem aIn{α:Type}{l:List α}{j:Nat}{y x:α}(h:x∈l.take j++y::l.drop j): x∈l\/x=y:=by
 rcases ZD.1 h with h | h
 .exact .inl<|Z7 h
 rcases ZN.1 h with h | h
 .exact .inr h
 .exact .inl<|ZZ h
theorem m9{α:Type}{l:List α}{j:Int}{y:α}(a:0<=j)(h:j.toNat<=l.length)(b:l.length<=1000): VN l j y=some (l.take j.toNat++y::l.drop j.toNat):=by
 unfold VN;rw[Zu ⟨a,h,by omega⟩]
theorem aX3(s:aK)(d:HC s)(b:List Int)(g:aZ): aB (λn _=>vD n (s.Plan.Faces,b,s.Plan.Nodes,s.Plan.Arcs,s.Features,g))<|Su (λv=>v.1.length<=257)<|Su (λv=>(win v.2<|some v.1).length<=257) λv=>v.1.length<=257:=by
 have m:=d.v.leN;have ok:=d.ok;refine aT<|aD (JP s g.ID<|by omega) λl c=>aC (λi=>?_) λi=>?_
 .have a:=c.2.2 i;let⟨q,j⟩:∃q:Nat,l.1=(q:Int):=⟨l.1.toNat,by have:=c.1;omega⟩;rw[j] at a |-;have a:q<s.Plan.Nodes.length:=by simpa using a
  have e:=Zb a;refine aC (λ_=>aA<|show s.Plan.Nodes.length<=257 by omega) λ_=>aC (λ_=>aE (by rw[eY a];exact e)<|aE (by rw[bP];exact e)<|aA ?_) λ_=>?_
  .show (List.set _ _ _).length<=257;rw[Yr];omega
  .refine aD (f:=λn _=>Mr n (s.Plan.Faces,s.Plan.Nodes,s.Plan.Arcs,s.Features,g)) (Q:=λ_=>True) (aD (aBq _ ok.p g.ID) λ_ _=>aC (λ_=>aA trivial) λ_=>aD (p9 s ok 1 g.ID) λ_ _=>aC (λ_=>aA trivial) λ_=>aA trivial) λ_ _=>aC (λ_=>aA<|show s.Plan.Nodes.length<=257 by omega) λ_=>?_;rw[bV<|by omega];refine aO (aPf s.Plan.Faces b s.Plan.Arcs s.Features s.Plan.Nodes (by omega) q a) (λ_ h=>h.elim) λv k=>aE rfl<|aA ?_;subst k;show (win _ _).length<=257;simp[win];omega
 .refine aC (λ_=>aT<|aE (m9 c.1 c.2.1<|by omega)<|aA ?_) λ_=>aA (show s.Plan.Nodes.length<=257 by omega);show (List.take _ _++_::_).length<=257;simp;omega
theorem HC.fe{s:aK}(h:HC s): FeI s.Features s.Features.length 0:=⟨rfl,λj f a=>by have:=h.f f<|Zg a;omega,λj f _ a=>h.f f<|Zg a⟩
theorem HC.ar{s:aK}(h:HC s): nI s.Plan.Arcs s.Plan.Arcs.length:=⟨rfl,h.ok.p.v⟩
def Q0(l:List aH): Prop:=l.length<=1000/\∀f∈l,f.Parts.length<=1000
theorem HC.fs{s:aK}(h:HC s): Q0 s.Features:=⟨h.ok.n,h.ok.f⟩
theorem Q0.set{l:List aH}(h:Q0 l){i:Nat}{g:aH}(b:g.Parts.length<=1000): Q0<|l.set i g:=⟨by rw[Yr];exact h.1,λf a=>by
 rcases YL a with a | rfl
 .exact h.2 f a
 .exact b⟩
theorem aV9(s:aK)(a:HC s)(b:List Int)(g:aZ): aB (λn _=>Iu n (s.Plan.Faces,b,s.Plan.Nodes,s.Plan.Arcs,s.Features,g)) (Su (λv=>v≠0) λv=>v.1.length<=65/\nI v.2.1 s.Plan.Arcs.length/\v.2.2.1.length=s.Features.length/\∀x∈v.2.2.1,x.Parts.length<=65):=by
 have i:=a.v.leF;have d:=a.v.leA;have e:=a.n;refine aT<|aO (f:=λn _=>Hz n (s.Plan.Faces,s.Plan.Nodes,s.Plan.Arcs,s.Features,g)) (Q:=λv:Int=>v≠0) (R:=λ_=>True) (aD (aBo s.Plan.Faces g.ID<|by omega) λ_ _=>aC (λ_=>aD (aBo s.Plan.Faces g.A<|by omega) λ_ _=>aC (λ_=>aA<|show (8:Int)≠0 by decide) λ_=>aA trivial) λ_=>aA<|show (7:Int)≠0 by decide) (λ_ h=>aA<|by exact h) λ_ _=>aE rfl ?_;exact aD (aVB s.Plan.Faces b s.Plan.Nodes s.Plan.Arcs s.Features g.ID g.A (by omega) a.ar (by omega) a.fe<|by omega) λm c=>aA ⟨by have:=c.1;show m.1.length<=65;omega,c.2.1,c.2.2.1,c.2.2.2⟩
theorem aV8(s:aK)(p:HC s)(b:List Int)(g:aZ)(d:aAn g): aB (λn _=>It n (s.Plan.Faces,b,s.Plan.Nodes,s.Plan.Arcs,s.Features,g))<|Su (λv=>Q0 v.1)<|Su (λv=>Q0<|win v.2<|some v.1) λv=>Q0 v.1:=by
 have x:=p.n;have c:=p.fs;refine aT<|aD (aEG s g.ID<|by omega) λl i=>aC (λo=>?_) λo=>?_
 .have a:=i.2.2 o;let⟨q,w⟩:∃q:Nat,l.1=(q:Int):=⟨l.1.toNat,by have:=i.1;omega⟩;rw[w] at a |-;have a:q<s.Features.length:=by simpa using a
  have e:=Zb a;have m:eM s.Features s.Features.length (q:Int)=some s.Features[q]:=by rw[eY a];exact e
  have e2:idx s.Features (q:Int)=some s.Features[q]:=by rw[bP];exact e
  have r:=c.2 _<|ZP a;rw[bV<|by omega];refine aC (λ_=>aA<|by exact c) λ_=>aC (λ_=>aO (aMC s.Plan.Faces b s.Plan.Nodes s.Plan.Arcs s.Features (by omega) q a) (λ_ h=>h.elim) λv u=>aE rfl<|aA ?_) λ_=>aC (λ_=>aE m<|aE e2<|aA ?_) λ_=>aC (λ_=>aE m<|aE e2<|aA ?_) λ_=>aC (λ_=>aD (aLV g.Parts<|by have:=d.2;omega) λt j=>aE m<|aE e2<|aA ?_) λ_=>aA<|by exact c
  .subst u;refine⟨by simp[win];omega,λf k=>?_⟩;rcases aES _ _ _ f (aHe k) with h | rfl
   .exact c.2 f h
   .simp
  .exact c.set r
  .exact c.set r
  .exact c.set<|by subst j;have:=d.2;show g.Parts.length<=1000;omega
 .refine aC (λ_=>aD (aLV g.Parts<|by have:=d.2;omega) λt j=>aT<|aE (m9 i.1 i.2.1<|by omega)<|aA ?_) λ_=>aA (by exact c);subst j;refine⟨by simp;omega,λf k=>?_⟩;rcases aIn k with h | rfl
  .exact c.2 f h
  .have:=d.2;show g.Parts.length<=1000;omega
theorem aHa.mem{l:List Int}{k:Nat}(h:aHa l k){x:Int}(a:x∈l): 1<=x/\x.toNat<=k:=by
 rw[h] at a;obtain⟨j,b,rfl⟩:=Yh.1 a;have:=Ws.1 b;omega
theorem SzR.da{r:dR}(h:SzR r.Outer r.Inner r.Alone): aPJ r:=⟨by have:=h.1;omega,h.2.1.1⟩
theorem aVw(g:aZ)(x y:Int): aB (λn _=>Im n (g,x,y)) λr=>r=x\/r=y:=aC (λ_=>aA<|.inl rfl) λ_=>aA<|.inr rfl
theorem aVv(a:List Aab)(b:List Int)(c:List aR)(d f:Int)(e:b.length<=1000): aB (λn _=>Il n (a,b,c,d,f))<|Su (λv=>v≠0) λ_=>True:=
 aC (λ_=>aA<|show (12:Int)≠0 by decide) λ_=>aD (aBo b f<|by omega) λ_ _=>aC (λ_=>aA<|show (8:Int)≠0 by decide) λ_=>aC (λ_=>aA<|show (12:Int)≠0 by decide) λ_=>aA trivial
theorem aVu(s:aK)(a:Be s)(f g:Int): Tt λn _=>Ij n (s.Plan.Faces,s.Plan.Nodes,s.Plan.Arcs,s.Features,f,g):=
 aC (λ_=>aD (p9 s a 3 f) λi b=>aD (p9 s a 3 g) λj _=>aD (aPH i j<|by omega) λ_ _=>aC (λ_=>aA trivial) λ_=>aA trivial) λ_=>aA trivial
theorem aP9{α:Type}{P:α->Prop}{g:Nat->Nat->Option α}(h:aB g P): aB (λn m=>Av.bnd (Av.prd n) λ_=>g n m) P:=by
 let⟨r,a,K,b⟩:=h;refine⟨r,a,K+1,λn m c d=>?_⟩;obtain⟨n,rfl⟩:∃k,n=k+1:=⟨n-1,by omega⟩;exact b (n+1) m (by omega)<|by omega
def L19(s:aK)(v:List Int×List aH×List aR×List aR×aM): Prop:=v.1.length<=65/\(v.2.1.length<=1000/\∀f∈v.2.1,f.Parts.length<=65)/\nI v.2.2.1 (s.Plan.Arcs.length+1)
theorem aVD(hD:Tb)(s:aK)(o:HC s)(b:List Int)(g:aZ)(hg:aAn g): aB (λn _=>Iy n (s.Plan.Faces,b,s.Plan.Nodes,s.Plan.Arcs,s.Features,g))<|Su (λ_=>True)<|Su (λ_=>True)<|Su (λ_=>True)<|L19 s:=by
 have ok:=o.ok;have h1:=o.v.leA;have h2:=o.v.leN;have h3:=o.v.leF;have h4:=o.n;refine aT<|aD (aCO s g.ID<|by omega) λm J=>aC (λ_=>aA trivial) λ_=>aD (JP s g.A<|by omega) λ_ _=>aC (λ_=>aD (JP s g.B<|by omega) λ_ _=>aC (λ_=>?_) λ_=>aA trivial) λ_=>aD (JP s g.B<|by omega) λ_ _=>aC (λ_=>aA trivial) λ_=>aA trivial;refine aD (aRY s.Plan.Arcs<|by omega) λsa O=>aD (aRX g.Via<|by have:=hg.1;omega) λt ht=>?_;subst O ht;refine aP9<|aE (m9 J.1 J.2.1<|by omega) ?_;let⟨q,R⟩:∃q:Nat,m.1=(q:Int):=⟨m.1.toNat,by have:=J.1;omega⟩;have a1:q<=s.Plan.Arcs.length:=by have:=J.2.1;omega
 generalize X:(s.Plan.Arcs.take m.1.toNat++(⟨g.ID,g.A,g.B,g.Via,0,0⟩:aR)::s.Plan.Arcs.drop m.1.toNat)=u;have I:nI u<|s.Plan.Arcs.length+1:=by
  refine⟨by rw[<-X,R];simp;omega,λa ha=>?_⟩;rw[<-X] at ha;rcases aIn ha with h | rfl
  .exact ok.p.v a h
  .have:=hg.1;show g.Via.length<=300;omega
 have G:Sm ⟨s.Plan.Nodes,u,s.Plan.Faces⟩:=⟨by show s.Plan.Nodes.length<=_;omega,by show u.length<=_;rw[I.1];omega,by show s.Plan.Faces.length<=_;omega,I.2⟩;refine aD (aIW _ G) λ_ _=>aC (λ_=>aA trivial) λ_=>aD (aPE hD _ G) λw hw=>aC (λ_=>aA trivial) λK=>?_;let⟨U,Q⟩:=hw.2 (by simpa using K);let⟨x,T,V,l,_⟩:=SG hD w.1 hw.1;refine aD T λx' N=>?_;subst N;refine aC (λ_=>aA trivial) λS=>?_;let⟨hV,C⟩:=V (by simpa using S);have H:q<w.1.Arcs.length:=by rw[U];show q<u.length;rw[I.1];omega
 have ey:idx w.1.Arcs m.1=some w.1.Arcs[q]:=by rw[R,bP];exact Zb H
 have d:∀z:Int,(z=0\/z∈w.1.Faces)->0<=z/\z.toNat<x'.1.length:=by
  intro z F;rcases F with rfl | F
  .exact⟨Wn _,by rw[C];simp⟩
  .have:=Q.mem F;omega
 have E:=hV.sid _<|ZP H;have W:=d _ E.1;have sr:=d _ E.2;let⟨j,k0,k1,k2⟩:=I.at (i:=q) (by omega);refine aE ey<|aE ey<|aE (vA W.1 W.2)<|aE (vA sr.1 sr.2)<|aD (aKv _ ok.p g.ID [_,_] (by simp) (by
  intro r M;rcases ZN.1 M with rfl | M
  .exact (l.2 _<|ZP _).da
  .rw[ZJ.1 M];exact (l.2 _<|ZP _).da)) λc0 _=>?_
 rw[R];refine aE k1<|aE k2 ?_;simp only[YA];have y:nI (u.set q ⟨j.ID,j.From,j.To,j.Via,c0,j.Right⟩)<|s.Plan.Arcs.length+1:=I.set k0 rfl;generalize u.set q ⟨j.ID,j.From,j.To,j.Via,c0,j.Right⟩=Y at y;let⟨e,j0,j1,j2⟩:=y.at (i:=q) (by omega);refine aE j1<|aE j2 ?_;have c:nI (Y.set q ⟨e.ID,e.From,e.To,e.Via,e.Left,c0⟩)<|s.Plan.Arcs.length+1:=y.set j0 rfl;generalize Y.set q ⟨e.ID,e.From,e.To,e.Via,e.Left,c0⟩=u3 at c;have D:L19 s (s.Plan.Faces,s.Features,u3,[(⟨g.ID,g.A,g.B,g.Via,0,0⟩:aR)],w.1):=⟨by show s.Plan.Faces.length<=65;omega,⟨by show s.Features.length<=1000;omega,λf hf=>by have:=o.f f hf;omega⟩,c⟩;refine aC (λ_=>aC (λ_=>aA trivial) λ_=>aA<|by exact D) λ_=>aD (aVw g _ _) λz F=>aO (aVv _ _ _ _ _<|by omega) (λ_ _=>aA trivial) λ_ _=>aE rfl ?_;have Z:0<=z/\z.toNat<x'.1.length:=by rcases F with rfl | rfl<;>assumption
 refine aE (vA Z.1 Z.2)<|aD (aI8 _ (l.2 _<|ZP _).da) λl0 L=>aD (aVC s.Plan.Faces b s.Plan.Nodes s.Plan.Arcs s.Features s.Plan.Faces u3 l0 c0 _ (by omega) ⟨rfl,c.2⟩ (by rw[c.1];omega) o.fe (by omega) L) λm0 k=>aA ?_;exact⟨by have:=k.1;show m0.1.length<=65;omega,⟨by show m0.2.1.length<=1000;rw[k.2.2.1];omega,k.2.2.2⟩,by have:=k.2.1;rw[c.1] at this;exact this⟩
def Ft(l:List aH): Prop:=l.length<=1000/\∀f∈l,f.Parts.length<=65
def Ar(l:List aR): Prop:=l.length<=300/\∀a∈l,a.Via.length<=300
def S18(s:aK): Int⊕(List aR×List aR×Int)⊕(List aR×List aR×List Aab×List aR×List Int×Int)⊕(List Int×List aH×List aR×List aR×List Aab×List aR×List Int)⊕(List aR×Int)⊕(List Int×List aR×List aH×Int×Int)⊕((Nat×Nat)×List Int×List aR×List aH×Int×Int)⊕((Nat×Nat)×List aR)->Prop:=
 Su (λ_=>True)<|Su (λ_=>True)<|Su (λ_=>True)<|Su (λv=>v.1.length<=300/\Ft v.2.1/\Ar v.2.2.1)<|Su (λv=>Ar v.1)<|Su (λv=>v.1.length<=300/\Ar v.2.1/\Ft v.2.2.1)<|Su (λv=>v.2.1.length<=300/\Ar v.2.2.1/\Ft v.2.2.2.1) λv=>Ar v.2
theorem nI.le{l:List aR}{k:Nat}(h:nI l k)(a:k<=300): Ar l:=⟨by rw[h.1];exact a,h.2⟩
theorem aVE(y:Tb)(s:aK)(f:HC s)(b:List Int)(g:aZ)(l:aAn g): aB (λn _=>Iz n (s.Plan.Faces,b,s.Plan.Nodes,s.Plan.Arcs,s.Features,g))<|S18 s:=by
 have ok:=f.ok;have H:=f.v.leA;have I:=f.v.leN;have K:=f.v.leF;have J:=f.n;have d:=f.ar.le (by omega);refine aT<|aC (λ_=>aO (aVD y s f b g l) (λ_ _=>aA trivial) λu z=>?_) λ_=>?_
 .rcases u with v | u
  .exact aA trivial
  rcases u with v | v
  .exact aA trivial
  .let⟨G,E,C⟩:=z;exact aA<|show _/\_/\_ from⟨by show v.1.length<=300;omega,E,C.le<|by omega⟩
 refine aD (aCO s g.ID<|by omega) λm o=>aC (λB=>?_) λ_=>aA (by exact d);have c:=o.2.2 B;let⟨q,x⟩:∃q:Nat,m.1=(q:Int):=⟨m.1.toNat,by have:=o.1;omega⟩;rw[x] at c |-;have c:q<s.Plan.Arcs.length:=by simpa using c
 have e:=Zb c;have k:eM s.Plan.Arcs s.Plan.Arcs.length (q:Int)=some s.Plan.Arcs[q]:=by rw[eY c];exact e
 have e2:idx s.Plan.Arcs (q:Int)=some s.Plan.Arcs[q]:=by rw[bP];exact e
 rw[bV<|by omega];refine aC (λ_=>aD (aRX g.Via<|by have:=l.1;omega) λt F=>aE k<|aE e2<|aA ?_) λ_=>aD (p9 s ok 2 g.ID) λ_ _=>aC (λ_=>aA<|by exact d) λ_=>aE k<|aE e2<|aE k<|aE e2<|aD (aVu s ok _ _) λ_ _=>aC (λ_=>aA<|by exact d) λ_=>aO (aMD s.Plan.Faces b s.Plan.Nodes s.Features s.Plan.Arcs (by omega) q c) (λ_ h=>h.elim) λv D=>aE rfl ?_
 .show Ar<|List.set _ _ _;refine⟨by rw[Yr];exact d.1,λa i=>?_⟩;rcases YL i with i | rfl
  .exact d.2 a i
  .subst F;have:=l.1;show g.Via.length<=300;omega
 .subst D;have w:nI (LT s.Plan.Arcs ⟨0,0,0,[],0,0⟩ q) (LT s.Plan.Arcs ⟨0,0,0,[],0,0⟩ q).length:=⟨rfl,λa i=>by
   rcases aES _ _ _ a i with h | rfl
   .exact ok.p.v a h
   .simp⟩
  have A:=aMB s.Plan.Arcs ⟨0,0,0,[],0,0⟩ (by omega) q c;refine aC (λ_=>aD (aVA (s.Plan.Arcs.length-1) s.Plan.Faces b s.Plan.Nodes (LT s.Plan.Arcs ⟨0,0,0,[],0,0⟩ q) s.Features _ _ (by omega) w (by omega) (by omega) f.fe<|by omega) λr j=>aA ?_) λ_=>aA (by exact w.le<|by omega);exact (show _/\_/\_ from⟨by have:=j.1;show r.1.length<=300;omega,j.2.1.le<|by omega,by rw[j.2.2.1];omega,j.2.2.2⟩)
theorem VG{n:List Aab}{a:List aR}{f:List Int}{l:List aH}(e:n.length<=300)(c:Ar a)(d:f.length<=300)(b:Q0 l): Be ⟨⟨n,a,f⟩,l⟩:=⟨⟨e,c.1,d,c.2⟩,b.1,b.2⟩
theorem Ft.ok{l:List aH}(h:Ft l): Q0 l:=⟨h.1,λf a=>by have:=h.2 f a;omega⟩
theorem Ar.win{l:List aR}(h:Ar l)(w:Option<|Nat×Nat): Ar<|win l w:=⟨by
 cases w with
 | none=>exact h.1
 | some w=>simp only[Av.win];rw[ZH,ZV];have:=h.1;omega,λa b=>h.2 a<|aHe b⟩
theorem aOo(d:Tb)(e:O0)(s:aK)(a:HC s)(g:aZ)(b:List Int): aB (λn _=>bnd2 (vD n (s.Plan.Faces,b,s.Plan.Nodes,s.Plan.Arcs,s.Features,g)) (λf=>(bnd (cK n (s.Plan.Faces,f.1,s.Plan.Arcs,s.Features,f.2)) λq=>(bnd (dY n (s,g,s.Plan.Faces,f.1,s.Plan.Arcs,s.Features,q,g.ID)) λh=>(cnd (h != 0) (some ((aK.mk (aM.mk [] [] []) []),h))<|some ((aK.mk (aM.mk f.1 s.Plan.Arcs s.Plan.Faces) s.Features),0))))) λi=>(bnd2 (some i) (λj=>(bnd (tF n (j.1,s.Plan.Faces,j.2,s.Plan.Arcs,s.Features,0)) λl=>(bnd (tE n (s,g,j.1,s.Plan.Faces,j.2,s.Plan.Arcs,s.Features,l,g.ID)) λm=>(cnd (m != 0) (some ((aK.mk (aM.mk [] [] []) []),m))<|some ((aK.mk (aM.mk (win j.2<|some j.1) s.Plan.Arcs s.Plan.Faces) s.Features),0))))) λo=>(bnd (some o) λr=>(bnd (cK n (s.Plan.Faces,r.1,s.Plan.Arcs,s.Features,0)) λq=>(bnd (dY n (s,g,s.Plan.Faces,r.1,s.Plan.Arcs,s.Features,q,g.ID)) λt=>(cnd (t != 0) (some ((aK.mk (aM.mk [] [] []) []),t))<|some ((aK.mk (aM.mk r.1 s.Plan.Arcs s.Plan.Faces) s.Features),0)))))) ) λr=>r.2=0->HC r.1:=by
 have ok:=a.ok;have c:=a.ar.le (by have:=a.v.leA;omega);have k:s.Plan.Faces.length<=300:=by have:=a.v.leF;omega
 refine aO (aX3 s a b g) (λv x=>?_) λu w=>?_
 .have o:=VG (n:=v.1) (show v.1.length<=300 from ZB x (by decide)) c k a.fs;exact vU (g:=λ_ _=>none) 0 (P4 d _ _ _ _ _ o) λr=>aKd e s g _ _ _ _ r g.ID ok.p o.p
 .rcases u with v | v
  .have o:=VG (n:=win v.2<|some v.1) (show _<=300 from ZB w (by decide)) c k a.fs;exact vU (g:=λ_ _=>none) 0 (aVy d _ _ _ _ _ _ o) λr=>aVx e s g _ _ _ _ _ r g.ID ok.p o.p
  .have o:=VG (n:=v.1) (show v.1.length<=300 from ZB w (by decide)) c k a.fs;exact vU (g:=λ_ _=>none) 0 (P4 d _ _ _ _ _ o) λr=>aKd e s g _ _ _ _ r g.ID ok.p o.p
theorem aR8(a:Tb)(d:O0)(s:aK)(e:HC s)(g:aZ)(l:aAn g): aB (λn _=>Lb n s g) λr=>r.2=0->HC r.1:=by
 have ok:=e.ok;have h:s.Plan.Nodes.length<=300:=by have:=e.v.leN;omega
 have i:=e.ar.le (by have:=e.v.leA;omega);have k:s.Plan.Faces.length<=300:=by have:=e.v.leF;omega
 refine aS (λ_=>rfl)<|aD (aUq s ok) λc m=>?_;subst m;refine aD (f:=λn _=>Ms n g.Kind) (Q:=λ_=>True) (by repeat' first|apply dU|apply aC|apply bI|intro) λ_ _=>aC (λ_=>aOo a d s e g s.Plan.Faces) λ_=>aD (f:=λn _=>Io n g.Kind) (Q:=λ_=>True) (by repeat' first|apply dU|apply aC|apply bI|intro) λ_ _=>aC (λ_=>aO (aVE a s e s.Plan.Faces g l) (λv _=>?_) λu b=>?_) λ_=>aC (λ_=>aO (aV9 s e s.Plan.Faces g) (λv _=>?_) λv j=>aE rfl ?_) λ_=>aO (aV8 s e s.Plan.Faces g l) (λv j=>?_) λu b=>?_
 .exact vU (g:=λ_ _=>none) 0 (P4 a _ _ _ _ _ ok) λr=>aKd d s g _ _ _ _ r 0 ok.p ok.p
 .rcases u with v | u
  .exact vU (g:=λ_ _=>none) 0 (P4 a _ _ _ _ _ ok) λr=>aFw d s g _ _ _ _ r ok.p ok.p
  rcases u with v | u
  .exact vU (g:=λ_ _=>none) 0 (P4 a _ _ _ _ _ ok) λr=>aFw d s g _ _ _ _ r ok.p ok.p
  rcases u with v | u
  .have o:=VG h b.2.2 b.1 b.2.1.ok;exact vU (g:=λ_ _=>none) 0 (aVt a _ _ _ _ _ o) λr=>aVs d s g _ _ _ _ r ok.p o.p
  rcases u with v | u
  .have o:=VG h b k e.fs;exact vU (g:=λ_ _=>none) 0 (P4 a _ _ _ _ _ o) λr=>aKd d s g _ _ _ _ r 0 ok.p o.p
  rcases u with v | u
  .have o:=VG h b.2.1 b.1 b.2.2.ok;exact vU (g:=λ_ _=>none) 0 (P4 a _ _ _ _ _ o) λr=>aFw d s g _ _ _ _ r ok.p o.p
  rcases u with v | v
  .have o:=VG h (b.2.1.win<|some v.1) b.1 b.2.2.ok;exact vU (g:=λ_ _=>none) 0 (aQE a _ _ _ _ _ _ o) λr=>aQD d s g _ _ _ _ _ r ok.p o.p
  .have o:=VG h (Ar.win b<|some v.1) k e.fs;exact vU (g:=λ_ _=>none) 0 (aQE a _ _ _ _ _ _ o) λr=>aQD d s g _ _ _ _ _ r ok.p o.p
 .exact vU (g:=λ_ _=>none) 0 (P4 a _ _ _ _ _ ok) λr=>aKd d s g _ _ _ _ r 0 ok.p ok.p
 .have o:=VG h (j.2.1.le<|by have:=e.v.leA;omega) (show v.1.length<=300 from ZB j.1 (by decide))<|Ft.ok ⟨by rw[j.2.2.1];have:=e.n;omega,j.2.2.2⟩;exact vU (g:=λ_ _=>none) 0 (P4 a _ _ _ _ _ o) λr=>aFw d s g _ _ _ _ r ok.p o.p
 .have o:=VG h i k j;exact vU (g:=λ_ _=>none) 0 (P4 a _ _ _ _ _ o) λr=>aKd d s g _ _ _ _ r 0 ok.p o.p
 .rcases u with v | v
  .have o:=VG h i k<|show Q0 (win v.2<|some v.1) from b;exact vU (g:=λ_ _=>none) 0 (aVr a _ _ _ _ _ _ o) λr=>aVq d s g _ _ _ _ _ r ok.p o.p
  .have o:=VG h i k<|show Q0 v.1 from b;exact vU (g:=λ_ _=>none) 0 (P4 a _ _ _ _ _ o) λr=>aFw d s g _ _ _ _ r ok.p o.p
theorem aUe(c:Tb)(s:aK)(d:Be s)(g:aZ)(k:Int)(j:k≠0->HC s): aB (λn _=>TX n (s,g,k)) λr=>r=0->HC s/\aAn g:=by
 refine aD (aM4 g) λf b=>aC (λh=>aC (λ_=>aD (QP c s d) λr i=>aA λa=>⟨i a,b<|by simpa using h⟩) λe=>aA λa=>⟨j<|by simpa using e,b<|by simpa using h⟩) λh=>aA λa=>by rw[a] at h;simp at h
theorem aDE(b:Tb)(g:O0)(l:List aZ)(q:l.length<=5000)(i:Nat)(s:aK)(o:Be s)(j:i≠0->HC s): aB (λn m=>oW Ez n m (l,ln l) (s,(i:Int)))<|Su (λv=>v.2.2≠0) λr=>Be r/\(l≠[]\/i≠0->HC r):=by
 refine bN<|bD (λx z p=>?_) λu=>aA ?_
 .rw[bV<|by omega];refine aD (aUe b s o x (i:Int) λh=>j<|by omega) λc t=>aD (f:=λn _=>TW n (s,x,c)) (Q:=λr=>r.2=0->HC r.1) (aC (λh=>?_) λh=>aA λe=>by rw[show c=0 from e] at h;simp at h) λr a=>aC (λh=>aA<|show r.2≠0 by simpa using h) λh=>?_
  .let⟨w,y⟩:=t (by simpa using h);exact aD (aR8 b g s w x y) λr a=>aA a
  .have k:=a (by simpa using h);refine (aDE b g l q (i+1) r.1 k.ok λ_=>k).imp λv d=>?_;rcases v with v | v
   .exact d
   .exact⟨d.1,λ_=>d.2<|.inr<|by omega⟩
 .refine⟨o,λh=>j ?_⟩;rcases h with h | h
  .intro e;have:l.length=0:=by omega
   exact h<|ZK.1 this
  .exact h
termination_by l.length-i
theorem aVi(d:Tb)(g:O0)(s:aK)(a:Be s)(l:List aZ): aB (λn _=>Rx n s l) λr=>r.2.2=0->Be r.1/\(l≠[]->HC r.1):=by
 refine aS (λ_=>rfl)<|aC (λ_=>aA<|by simp) λh=>aD (aOV s a) λc f=>?_;have h:¬ln l > 4096:=Zp h;subst f;exact aO (aU<|aDE d g l (by unfold ln at h;omega) 0 c a<|by simp) (λv i=>aA λe=>absurd e i) λr b=>aE rfl<|aA λ_=>⟨b.1,λh=>b.2<|.inl h⟩
structure ArO(l:List dO)(b c:Nat): Prop where
 al:∀a∈l,a.alone.length<=c
 l1:1<=l.length
 l2:l.length<=200000
 ou:∀a∈l,a.outer.length<=800000
 inn:∀a∈l,a.inner.length<=b/\∀c∈a.inner,c.length<=800000
 ne:∀(i:Nat) (a:dO),1<=i->l[i]?=some a->a.outer≠[]
theorem aM9(p:aM)(w:Sm p)(B:Nat): ∀(cs:List<|List Int) (l:List dO) (q:List<|List Int),ArO l 0 0->l.length+cs.length<=200000->(∀c∈cs,c.length<=800000/\∃d t,c=d::t/\gB p d)->(∀c∈q,c.length<=800000/\∃d t,c=d::t/\gB p d)->
 (∀a∈l,a.inner=[]/\a.outer.length+q.flatten.length+cs.flatten.length<=B)->q.flatten.length+cs.flatten.length<=B->
 aB (λn _=>dv1 n p cs l q) λr=>ArO r.1 0 0/\r.2.length<=q.length+cs.length/\(∀c∈r.2,c.length<=800000/\∃d t,c=d::t/\gB p d)/\∀a∈r.1,a.inner=[]/\a.outer.length+r.2.flatten.length<=B
 | [],l,q,f,_,_,s,j,_=>aA (x:=(l,q)) ⟨f,by simp,s,λa b=>⟨(j a b).1,by have:=(j a b).2;simpa using this⟩⟩
 | c::cs,l,q,f,A,y,s,j,C=>by
  have u:=y c<|ZM ..;have m:∀c∈cs,c.length<=800000/\∃d t,c=d::t/\gB p d:=λc h=>y c<|ZQ _ h;simp only[Yc] at A;simp only[Yt,Zh] at j C;let⟨o,d,D,k,v⟩:=u;refine aD (aKc p w c) λt _=>aC (λ_=>?_) λ_=>?_
  .refine aB.imp (aM9 p w B cs (l++[⟨t,c,[],[]⟩]) q ⟨?_,by simp,by simp;omega,?_,?_,?_⟩ (by simp;omega) m s ?_<|by omega) ?_
   .intro a b;rcases ZD.1 b with b | b
    .exact f.al a b
    .rw[ZJ.1 b];exact Zf _
   .intro a b;rcases ZD.1 b with b | b
    .exact f.ou a b
    .rw[ZJ.1 b];exact o
   .intro a b;rcases ZD.1 b with b | b
    .exact f.inn a b
    .rw[ZJ.1 b];exact⟨Zf _,λc h=>by cases h⟩
   .intro i a z b;rcases ZI i l.length with h | h
    .rw[Zo h] at b;exact f.ne i a z b
    .rw[ZX h] at b;have:a=⟨t,c,[],[]⟩:=by
      have:=Zg b;exact ZJ.1 this
     rw[this,k];simp
   .intro a b;rcases ZD.1 b with b | b
    .have:=j a b;exact⟨this.1,by omega⟩
    .rw[ZJ.1 b];exact⟨rfl,by show c.length+_+_<=B;omega⟩
   .intro r g;exact⟨g.1,by have:=g.2.1;simp only[Yc];omega,g.2.2⟩
  .refine aB.imp (aM9 p w B cs l (q++[c]) f (by omega) m ?_ ?_ ?_) ?_
   .intro e he;rcases ZD.1 he with he | he
    .exact s e he
    .rw[ZJ.1 he];exact⟨o,d,D,k,v⟩
   .intro a b;have:=j a b;exact⟨this.1,by simp only[Xw,Zh,Yt,Xd,Z1];omega⟩
   .simp only[Xw,Zh,Yt,Xd,Z1];omega
   .intro r g;exact⟨g.1,by have:=g.2.1;simp only[Yc,Zh,Z1] at this |-;omega,g.2.2⟩
theorem aIL{l:List dO}{b c:Nat}(h:ArO l b c): ∀x∈l.map arV,x.outer.length<=800000:=by
 intro x d;obtain⟨a,e,rfl⟩:=Yh.1 d;exact h.ou a e
theorem aD4{α:Type}{l:List α}{i:Nat}{a' x:α}(a:x∈l.set i a'): x=a'\/x∈l:=(YL a).symm
theorem ArO.set{l:List dO}{b b' c c':Nat}{i:Nat}{a a':dO}(h:ArO l b c)(m:l[i]?=some a)(g:a'.outer=a.outer)(n:b<=b')(p:a'.inner.length<=b'/\∀c∈a'.inner,c.length<=800000)(o:c<=c')(f:a'.alone.length<=c'): ArO (l.set i a') b' c':=by
 refine⟨?_,by rw[Yr];exact h.l1,by rw[Yr];exact h.l2,?_,?_,?_⟩
 .intro x d;rcases aD4 d with rfl | d
  .exact f
  .exact ZB (h.al x d) o
 .intro x d;rcases aD4 d with rfl | d
  .rw[g];exact h.ou a<|Zg m
  .exact h.ou x d
 .intro x d;rcases aD4 d with rfl | d
  .exact p
  .exact⟨ZB (h.inn x d).1 n,(h.inn x d).2⟩
 .intro j x k d;rw[Z5] at d;split at d
  .rename_i e;subst e;split at d
   .cases d;rw[g];exact h.ne i a k m
   .cases d
  .exact h.ne j x k d
theorem aQ3(p:aM)(F:Sm p)(y:uJ p)(m:List<|Int×List Aaa)(o:MK p m)(B:Nat): ∀(cs:List<|List Int) (l:List dO) (b:Nat),ArO l b 0->(∀c∈cs,c.length<=800000/\∃d t,c=d::t/\gB p d)->(∀a∈l,a.outer.length+a.inner.flatten.length+cs.flatten.length<=B)->
 aB (λn _=>dv2 n m cs l) λr=>ArO r (b+cs.length) 0/\∀a∈r,a.outer.length+a.inner.flatten.length<=B
 | [],l,b,g,_,j=>aA ⟨g,λa k=>by have:=j a k;simpa using this⟩
 | c::cs,l,b,g,u,j=>by
  obtain⟨q,d,z,rfl,a,k,I⟩:=u c<|ZM ..;have E:=y.nuA a k;have G:oB d (wr<|0-d)=a.ID:=by
   rw[wr,i64_in _<|by omega];unfold oB;split<;>omega
  let⟨w,A,C⟩:=o.has a k;refine aE (x:=d) rfl<|aE (x:=w[0]'(by omega)) (by rw[G,A];show idx w ((0:Nat):Int)=_;rw[bP];exact Zb<|by omega)<|aD (aIv m o.len (l.map arV) (aIL g) (by simp;have:=g.l2;omega) (by simp;have:=g.l1;omega) _) λi v=>?_;have f:i.toNat<l.length:=by simpa using v.2
  refine aE (vA v.1 f) ?_;simp only[Yt,Zh,Yc] at j;have H:=aQ3 p F y m o B cs (l.set i.toNat ⟨l[i.toNat].twice,l[i.toNat].outer,l[i.toNat].inner++[d::z],l[i.toNat].alone⟩) (b+1) (g.set (Zb f) rfl (by omega) (by
   have:=g.inn _<|ZP f;refine⟨by simp;omega,λc e=>?_⟩;rcases ZD.1 e with e | e
   .exact this.2 c e
   .rw[ZJ.1 e];exact q) (Zf _)<|g.al l[i.toNat]<|ZP f) (λc h=>u c<|ZQ _ h) (λx s=>by
    rcases aD4 s with rfl | s
    .have:=j _<|ZP f;simp only[Xw,Zh,Yt,Xd,Z1,Yc];omega
    .have:=j x s;omega)
  refine H.imp λr D=>?_;have:b+((d::z)::cs).length=b+1+cs.length:=by simp;omega
  rw[this];exact D
theorem aM8(p:aM)(k:Sm p)(m:List<|Int×List Aaa)(q:MK p m)(b B:Nat): ∀(h:List Aab) (l:List dO) (c:Nat),ArO l b c->(∀a∈l,a.outer.length+a.inner.flatten.length<=B)->aB (λn _=>dv3 n p m h l) λr=>ArO r b (c+h.length)/\∀a∈r,a.outer.length+a.inner.flatten.length<=B
 | [],l,c,f,j=>aA ⟨f,j⟩
 | x::h,l,c,f,j=>by
  have e:c+(x::h).length=c+1+h.length:=by simp;omega
  rw[e];refine aD (aBq p k x.ID) λd _=>aC (λ_=>aD (aIv m q.len (l.map arV) (aIL f) (by simp;have:=f.l2;omega) (by simp;have:=f.l1;omega) _) λi s=>?_) λ_=>aM8 p k m q b B h l (c+1) ⟨λa t=>Xl<|f.al a t,f.l1,f.l2,f.ou,f.inn,f.ne⟩ j;have g:i.toNat<l.length:=by simpa using s.2
  exact aE (vA s.1 g) (aM8 p k m q b B h _ (c+1) (f.set (Zb g) rfl (Zf _) (f.inn l[i.toNat]<|ZP g) (Ys _)<|by have:=f.al l[i.toNat]<|ZP g;simp;omega) λx o=>by
   rcases aD4 o with rfl | o
   .exact j l[i.toNat]<|ZP g
   .exact j x o)
theorem aNb{α:Type}{P:α->Prop}{c:Nat->Bool}{g:Nat->Nat->Option α}(K:Nat)(b:∀n,K<=n->c n=true)(h:aB g P): aB (λn m=>Av.bnd (Nu<|c n) λ_=>g n m) P:=by
 let⟨r,a,J,d⟩:=h;refine⟨r,a,max K J,λn m f i=>?_⟩;show Av.bnd (Nu<|c n) (λ_=>g n m)=some r;rw[b n<|by omega];exact d n m (by omega)<|by omega
theorem aUR: Tb:=by
 intro p cs m g t j o;have v:=g.n;have u:=j.1;refine aS (λ_=>rfl)<|aNb (c:=λn=>decide<|cs.length<n/\p.Nodes.length<n/\cs.length<=190000/\p.Nodes.length<=9000) 200000 (λn h=>Yj<|by omega) ?_;refine aD (aM9 p g 400000 cs [⟨0,[],[],[]⟩] [] ⟨by simp,by simp,by simp,by simp,by simp,?_⟩ (by simp;omega) j.2.2 (by simp) (by simpa using j.2.1)<|by simpa using j.2.1) λq f=>aD (aQ3 p g t m o 400000 q.2 q.1 0 f.1 f.2.2.1 λa d=>by rw[(f.2.2.2 a d).1];have:=(f.2.2.2 a d).2;simpa using this) λl b=>?_
 .intro i a w d;have:=(Ze.1 d).1;simp at this;omega
 .have k:=f.2.1;simp only[Z1,Z0] at k;let⟨b,s⟩:=b;refine aB.imp (aM8 p g m o 200000 400000 p.Nodes l 0 ⟨b.al,b.l1,b.l2,b.ou,λa d=>⟨by have:=(b.inn a d).1;omega,(b.inn a d).2⟩,b.ne⟩ s) λr e=>⟨λa d=>by have:=e.1.al a d;omega,e.2,e.1.l1,e.1.l2,e.1.ou,e.1.inn,e.1.ne⟩
theorem aIr(g:dR)(l:List Int)(b:l.length<=300)(i:Nat)(m:List (Int×Int)): Tt (λn k=>qC vE n k (g,l,ln l) (m,(i:Int))):=
 cA (bD (λx d a=>by
  rw[bV (by omega)];exact aIr g l b (i+1) _)
  (λc=>aA trivial))
termination_by l.length-i
theorem aIs(l:List dR)(d:l.length<=200000)(a:∀x∈l,x.Alone.length<=300)(i:Nat)(m:List (Int×Int)): Tt (λn k=>qC vF n k (l,ln l) (m,(i:Int))):=
 cA (bD (λx c b=>by
  rw[bV (by omega)];exact aD (aU (aIr x x.Alone (a x (Zg c)) 0 m)) λ_ _=>aIs l d a (i+1) _)
  (λe=>aA trivial))
termination_by l.length-i
theorem aIq(p:aM)(c:Sm p): Tt (λn _=>oS n p):=by
 obtain⟨v,e,_,a,_⟩:=SG aUR p c;exact aS (λ_=>rfl) (aD e λw b=>by
  subst b;exact aD (aU (aIs w.1 a.1 (λx d=>(a.2 x d).2.2) 0 [])) λ_ _=>aA trivial)
theorem aW6: O0:=λp q x b a=>aS (λ_=>rfl) (aD (aIq p b) λ_ _=>aD (aIq q a) λ_ _=>aA trivial)
def aAm(e:aZ): Prop:=e.Via.length<=100000/\e.Parts.length<=100000
def lD(t:aY): Prop:=t.Edits.length<=100000/\∀e∈t.Edits,aAm e
theorem aFD(t:aY): aB (λn _=>rV n t) λr=>r=0->aXw t:=by
 refine aS (λ_=>rfl)<|aD (f:=λn _=>HS n t) (Q:=λ_=>True) (by repeat' first | exact aA trivial | refine aC (λ_=>?_) (λ_=>?_)) λ_ _=>aC (λ_=>aA<|by simp) λ_=>?_;refine aO (f:=λn _=>HR n t) (Q:=λ_=>True) (R:=λr=>r≠0) (aC (λ_=>aA trivial) λ_=>aD (aLC t.Source) λd _=>aC (λh=>aA<|show d≠0 by simpa using h) λ_=>aA trivial) (λ_ _=>?_) λr g=>aE rfl<|aA λh=>absurd h g;refine aD (f:=λn _=>HQ n t) (Q:=λr=>r=false->t.Edits.length<=64) (aC (λ_=>aA<|by simp) λ_=>aC (λ_=>aA<|by simp) λh=>aA λ_=>by
  have h:¬ln t.Edits > 64:=Zp h;unfold ln at h;omega) λc e=>aC (λ_=>aA<|by simp) λh=>?_
 have a:=e h;refine aO (aU<|aTH t.Edits a 0 .nil) (λv b=>aA λh=>absurd h b) λ_ i=>aE rfl<|aA λ_=>⟨a,i⟩
theorem aMn(x:Int×Int×Int×ByteArray)(b:List aZ)(k:b.length<=100000)(g:∀e∈b,aAm e)(i:Nat)(l:List aZ)(h:l=b): aB (λn m=>qC kC n m (x.1,x.2.1,x.2.2.1,x.2.2.2,ln b) (l,(i:Int))) λr=>r=b:=by
 subst h;refine cA<|aC (λa=>?_) λo=>aA rfl;have a:(i:Int)<ln l:=Zl a;have a:i<l.length:=by unfold ln at a;omega
 have d:eM l l.length (i:Int)=some l[i]:=by rw[eY a];exact Zb a
 have e2:idx l (i:Int)=some l[i]:=by rw[bP];exact Zb a
 have j:=g _<|ZP a;have es:l.set (Int.toNat (i:Int)) l[i]=l:=by rw[YA];simp
 refine aE d<|aE e2<|aD (aFc l[i].Via<|by have:=j.1;omega) λv c=>?_;subst c;refine aE d<|aE e2<|aD (aFc l[i].Parts<|by have:=j.2;omega) λv c=>?_;subst c;have f:l.set (Int.toNat (i:Int)) (aZ.mk l[i].Kind l[i].ID l[i].A l[i].B l[i].C l[i].At l[i].Via l[i].Name l[i].Parts)=l:=es;simp only[f];refine aE d<|aE e2 ?_;simp only[f];rw[bV<|by omega];exact aMn x l k g (i+1) l rfl
termination_by b.length-i
theorem I1(t:aY)(h:lD t): aB (λn _=>xK n t) λr=>r=t:=by
 let⟨o,s,u,z,l⟩:=t;let⟨a,c⟩:=h;refine aS (λ_=>rfl)<|aT<|aC (λb=>?_) λ_=>?_
 .have:l=[]:=by simpa using b
  subst this;exact aD (Q:=λ_=>True) (HB (f:=λn=>nK n () ())<|aU (f:=λn m=>qC fG n m () ())<|cA<|aA trivial) λ_ _=>aA rfl
 .exact aE (tJ (l:=[]) (m:=l)<|by show 0+l.length<=_;have:l.length<=100000:=a;omega)<|aD (Q:=λr=>r=l) (HB (f:=λn=>uV n (o,s,u,z,ln l) (l,0))<|aU<|aMn (o,s,u,z) l a c 0 l rfl) λr d=>aA<|by rw[d]
theorem aGK(t:aY)(l:List aY)(a:l.length<=256)(i:Nat)(k:Int): Sx λn m=>oW uQ n m (t,[],l,ln l) (k,(i:Int)):=
 bN<|bD (λx d b=>by
  rw[bV<|by omega];exact aC (λ_=>aGK t l a (i+1) _) λ_=>aC (λ_=>aA trivial) λ_=>aGK t l a (i+1) _) λc=>aA trivial
termination_by l.length-i
theorem aMN(x:List Aab×List aR×List Int×List aH)(l:List aY)(g:l.length<=256)(c:∀t∈l,lD t)(i:Nat)(r:List aY)(a:r=l.take i): aB (λn m=>qC uP n m (x.1,x.2.1,x.2.2.1,x.2.2.2,l,ln l) (r,(i:Int))) λr=>r=l:=
 cA<|bD (λt d e=>aD (I1 t<|c t<|Zg d) λu f=>aE (Sq<|by rw[a];simp;omega)<|by
  rw[bV<|by omega];exact aMN x l g c (i+1) _<|by rw[a,f,YX,d];simp) λb=>aA<|by rw[a,ZW b]
termination_by l.length-i
def eS: aK:=⟨⟨[],[],[]⟩,[]⟩
def eR: eK:=⟨eS,[]⟩
theorem aNk(a:eK)(t:aY)(l:Be a.Survey)(m:∀t∈a.Txns,lD t)(k:lD t): ∃s:aK×Int×Int,aB (λn _=>Rx n a.Survey t.Edits) (λr=>r=s) /\
 aB (λn _=>Jt n a t) λr=>(r.2≠0->r.1=eR)/\(r.2=0->s.2.2=0/\r.1=⟨s.1,a.Txns++[t]⟩/\Be s.1/\a.Txns.length<256):=by
 let⟨s,e,d⟩:=(aVi aUR aW6 a.Survey l t.Edits).val;refine⟨s,d,aS (λ_=>rfl)<|aD (aFD t) λc p=>aC (λh=>aA ⟨λ_=>rfl,λf=>by rw[show c=0 from f] at h;simp at h⟩) λ_=>aC (λ_=>aA ⟨λ_=>rfl,by simp⟩) λh=>?_⟩;have h:¬ln a.Txns>=256:=Zp h;have h:a.Txns.length<256:=by unfold ln at h;omega
 refine aO (aU<|aGK t a.Txns (by omega) 0 0) (λ_ _=>aA ⟨λ_=>rfl,by simp⟩) λ_ _=>aE rfl<|aC (λ_=>aA ⟨λ_=>rfl,by simp⟩) λ_=>aD d λg j=>?_;subst j;refine aC (λb=>aA ⟨λ_=>rfl,λf=>by rw[show g.2.2=0 from f] at b;simp at b⟩) λb=>?_;have b:g.2.2=0:=by simpa using b
 exact aD (aU<|aMN (g.1.Plan.Nodes,g.1.Plan.Arcs,g.1.Plan.Faces,g.1.Features) a.Txns (by omega) m 0 [] rfl) λr i=>aD (I1 t k) λu o=>by
  subst i;subst o;exact aE (Sq<|by omega)<|aA ⟨λh=>absurd rfl h,λ_=>⟨b,rfl,(e b).1,h⟩⟩
section
variable {α β γ:Type}
theorem uK{a b:List α}{i:Nat}{P:β->Prop}{f:Nat->Nat->α->α->Option β}{e:Nat->Nat->Option β}(j:a.length=b.length)(h:∀x y,a[i]?=some x->b[i]?=some y->i<a.length->aB (λn m=>f n m x y) P)(d:a.length<=i->aB e P):
 aB (λn m=>Av.cnd (decide<|(i:Int)<((a.length:Nat):Int)) (Av.bnd (idx a (i:Int)) λx=>Av.bnd (idx b (i:Int)) λy=>f n m x y)<|e n m) P:=
 bD (λx g c=>aE (x:=b[i]'(by omega)) (by rw[bP];exact Zb<|by omega)<|h x _ g (Zb<|by omega) c) d
theorem aDu{a b:List α}{i:Nat}{x y:α}(d:a.take i=b.take i)(f:a[i]?=some x)(c:b[i]?=some y)(e:x=y): a.take (i+1)=b.take (i+1):=by
 rw[YX,YX,d,f,c,e]
theorem aDv{a b:List α}{i:Nat}{x y:α}(d:a[i]?=some x)(c:b[i]?=some y)(e:x≠y): a≠b:=λh=>by
 subst h;rw[d] at c;exact e<|ZR c
theorem aDw{a b:List α}{i:Nat}(d:a.length=b.length)(c:a.take i=b.take i)(h:a.length<=i): a=b:=by
 rw[ZW h,ZW<|by omega] at c;exact c
abbrev Q2(a b:List α): (β⊕γ)->Prop:=Su (λ_=>a≠b) λ_=>a=b
theorem eqW{a b:List α}{f:Nat->Nat->Option (Unit⊕Unit)}(h:a.length=b.length->aB f (Q2 a b)): aB (λn m=>Av.cnd (ln a != ln b) (some false)<|Av.bnd2 (f n m) (λ_=>some false) λc=>Av.bnd (some c) λ_=>some true) λr=>r=true↔a=b:=
 aC (λh=>aA ⟨by simp,λe=>by subst e;simp at h⟩) λd=>aO (h<|DQ d) (λ_ h=>aA ⟨by simp,λe=>absurd e h⟩) λ_ h=>aE rfl<|aA ⟨λ_=>h,λ_=>rfl⟩
abbrev Iq{α:Type}(f:Nat->Nat->Option Bool)(a b:α): Prop:=aB f λr=>r=true↔a=b
theorem Iq.ret{P:α->Prop}{x:α}(h:P x): aB (λ_ _=>some x) P:=aA h
end
theorem aKE(a b:List Aaa)(d:a.length=b.length)(k:a.length<=100000)(i:Nat)(g:a.take i=b.take i): aB (λn m=>oW nP n m (a,b) (i:Int))<|Q2 a b:=
 bN<|uK d (λx y e f j=>aC (λh=>by
  rw[bV<|by omega];exact aKE a b d k (i+1)<|aDu g e f<|Zl h) λh=>aA<|aDv e f<|Zp h) λc=>aA<|aDw d g c
termination_by a.length-i
theorem aW8(a b:List Aaa)(c:a.length<=100000): Iq (λn _=>Ls n a b) a b:=aS (λ_=>rfl)<|eqW λd=>aU<|aKE a b d c 0 rfl
theorem aUk(a b:List Aaa)(c:a.length<=100000): Iq (λn _=>HD n a b) a b:=aS (λ_=>rfl)<|eqW λd=>aU<|aKE a b d c 0 rfl
theorem aKK(a b:List Int)(d:a.length=b.length)(k:a.length<=100000)(i:Nat)(g:a.take i=b.take i): aB (λn m=>oW tT n m (a,b) (i:Int))<|Q2 a b:=
 bN<|uK d (λx y e f j=>aC (λh=>aA<|aDv e f<|by simpa using h) λh=>by
  rw[bV<|by omega];exact aKK a b d k (i+1)<|aDu g e f<|by simpa using h) λc=>aA<|aDw d g c
termination_by a.length-i
theorem aW9(a b:List Int)(c:a.length<=100000): Iq (λn _=>Lr n a b) a b:=aS (λ_=>rfl)<|eqW λd=>aU<|aKK a b d c 0 rfl
theorem aWO(a b:List Int)(c:a.length<=100000): Iq (λn _=>P3 n a b) a b:=aS (λ_=>rfl)<|eqW λd=>aU<|aKK a b d c 0 rfl
theorem aKO(a b:List Int)(d:a.length=b.length)(k:a.length<=100000)(i:Nat)(g:a.take i=b.take i): aB (λn m=>oW gI n m (a,b,ln a) (i:Int))<|Q2 a b:=
 bN<|uK d (λx y e f j=>aC (λh=>aA<|aDv e f<|by simpa using h) λh=>by
  rw[bV<|by omega];exact aKO a b d k (i+1)<|aDu g e f<|by simpa using h) λc=>aA<|aDw d g c
termination_by a.length-i
theorem aTN(a b:List Int)(c:a.length<=100000): Iq (λn _=>iF n a b) a b:=aS (λ_=>rfl)<|eqW λd=>aU<|aKO a b d c 0 rfl
theorem aKN(a b:List Aaa)(d:a.length=b.length)(k:a.length<=100000)(i:Nat)(g:a.take i=b.take i): aB (λn m=>oW iG n m (a,b,ln a) (i:Int))<|Q2 a b:=
 bN<|uK d (λx y e f j=>aC (λh=>by
  rw[bV<|by omega];exact aKN a b d k (i+1)<|aDu g e f<|Zl h) λh=>aA<|aDv e f<|Zp h) λc=>aA<|aDw d g c
termination_by a.length-i
theorem aTM(a b:List Aaa)(c:a.length<=100000): Iq (λn _=>nT n a b) a b:=aS (λ_=>rfl)<|eqW λd=>aU<|aKN a b d c 0 rfl
theorem Iq.and{α:Type}{a b:α}{p:Prop}{x:Nat->Nat->Option Bool}{c:Bool}(d:c=true↔p)(f:a=b->p)(h:p->Iq x a b): Iq (λn m=>cnd c (x n m)<|some false) a b:=
 aC (λe=>h<|d.1 e) λe=>aA ⟨by simp,λh=>by rw[d.2<|f h] at e;cases e⟩
theorem Iq.end_{α β:Type}{a b:α}{u v:β}{f:Nat->Nat->Option Bool}(g:Iq f u v)(h:u=v↔a=b): Iq (λn m=>bnd (f n m) λd=>cnd d (some true)<|some false) a b:=
 aD g λr c=>aC (λe=>aA ⟨λ_=>h.1<|c.1 e,λ_=>rfl⟩) λe=>aA ⟨by simp,λk=>by rw[c.2<|h.2 k] at e;cases e⟩
theorem Iq.bb{α:Type}{a b:α}{f:Nat->Nat->Option Bool}(c:Iq f a b): Iq (λn m=>bnd (f n m) λd=>cnd d (some true)<|some false) a b:=Iq.end_ c Iff.rfl
theorem aP5{a b:aR}(e:a.ID=b.ID)(f:a.From=b.From)(i:a.To=b.To)(g:a.Left=b.Left)(d:a.Right=b.Right): a.Via=b.Via↔a=b:=by
 constructor
 .intro h;cases a;cases b;simp_all
 .rintro rfl;rfl
theorem aXu(a b:aR){f:Nat->Nat->Option Bool}(h:Iq f a.Via b.Via): Iq (λn m=>(cnd (a.ID==b.ID) (cnd (a.From==b.From) (cnd (a.To==b.To) (cnd (a.Left==b.Left) (cnd (a.Right==b.Right) (bnd (f n m) λd=>(cnd (d) (some true)<|some false))<|some false)<|some false)<|some false)<|some false)<|some false)) a b:=
 Iq.and ZC (congrArg _) λj=>Iq.and ZC (congrArg _) λg=>Iq.and ZC (congrArg _) λi=>Iq.and ZC (congrArg _) λc=>Iq.and ZC (congrArg _) λe=>Iq.end_ h<|aP5 j g i c e
theorem aMt{a b:aH}(d:a.ID=b.ID)(e:a.Kind=b.Kind)(g:a.Class=b.Class)(f:a.Name=b.Name): a.Parts=b.Parts↔a=b:=by
 constructor
 .intro h;cases a;cases b;simp_all
 .rintro rfl;rfl
theorem aUG(a b:aH){f:Nat->Nat->Option Bool}(g:Iq f a.Parts b.Parts): Iq (λn m=>(cnd (a.ID==b.ID) (cnd (a.Kind==b.Kind) (cnd (a.Class==b.Class) (cd (a.Name=b.Name) (bnd (f n m) λd=>(cnd (d) (some true)<|some false))<|some false)<|some false)<|some false)<|some false)) a b:=
 Iq.and ZC (congrArg _) λi=>Iq.and ZC (congrArg _) λe=>Iq.and ZC (congrArg _) λh=>Iq.and Wa (congrArg _) λc=>Iq.end_ g<|aMt i e h c
theorem aWC(a b:aR)(h:a.Via.length<=100000): Iq (λn _=>Eh n a b) a b:=aS (λ_=>rfl)<|Iq.bb<|aXu a b<|aW8 a.Via b.Via h
theorem aWA(a b:aH)(h:a.Parts.length<=100000): Iq (λn _=>nQ n a b) a b:=aS (λ_=>rfl)<|Iq.bb<|aUG a b<|aW9 a.Parts b.Parts h
section
variable {α:Type}{a b:List α}
theorem rq{i:Nat}(l:a.length=b.length)(u:a.length<=100000)(g:a.take i=b.take i){t:Nat->Nat->α->α->Option Bool}(s:∀x∈a,∀y,Iq (λn m=>t n m x y) x y){k:Nat->Nat->Option (Unit⊕Unit)}(q:a.take (i+1)=b.take (i+1)->i<a.length->aB k (Q2 a b)):
 aB (λn m=>cnd (decide<|(i:Int)<((a.length:Nat):Int)) (bnd (idx a (i:Int)) λx=>bnd (idx b (i:Int)) λy=>bnd (t n m x y) λj=>cnd j (k n m)<|some<|.inl ())<|some<|.inr ())<|Q2 a b:=
 uK l (λx y c o d=>aD (s x (Zg c) y) λr p=>aC (λh=>q (aDu g c o<|p.1 h) d) λh=>aA<|aDv c o λe=>by rw[p.2 e] at h;cases h) λf=>aA<|aDw l g f
end
section
variable (a b:aM)(ha:Sm a)
include ha
theorem aQe(d:a.Nodes.length=b.Nodes.length)(i:Nat)(g:a.Nodes.take i=b.Nodes.take i): aB (λn m=>oW Fi n m (a,b) (i:Int))<|Q2 a.Nodes b.Nodes:=
 have k:=ha.n;bN<|uK d (λx y f e j=>aC (λh=>by
  rw[bV<|by omega];exact aQe d (i+1)<|aDu g f e<|Zl h) λh=>aA<|aDv f e<|Zp h) λc=>aA<|aDw d g c
termination_by a.Nodes.length-i
theorem aQd(c:a.Arcs.length=b.Arcs.length)(i:Nat)(g:a.Arcs.take i=b.Arcs.take i): aB (λn m=>oW Fh n m (a,b) (i:Int))<|Q2 a.Arcs b.Arcs:=
 have j:=ha.a;bN<|rq c (by omega) g (t:=λn _ x y=>Eh n x y) (λx f y=>aWC x y<|by have:=ha.v x f;omega) λh d=>by
  rw[bV<|by omega];exact aQd c (i+1) h
termination_by a.Arcs.length-i
theorem aQc(d:a.Faces.length=b.Faces.length)(i:Nat)(j:a.Faces.take i=b.Faces.take i): aB (λn m=>oW Fg n m (a,b) (i:Int))<|Q2 a.Faces b.Faces:=
 have l:=ha.f;bN<|uK d (λx y g e k=>aC (λh=>aA<|aDv g e<|by simpa using h) λh=>by
  rw[bV<|by omega];exact aQc d (i+1)<|aDu j g e<|by simpa using h) λc=>aA<|aDw d j c
termination_by a.Faces.length-i
theorem aWD: Iq (λn _=>P2 n a b) a b:=by
 have d:∀{p:Prop},(a=b->p)->¬p->aB (λ_ _=>some false) (λr=>r=true↔a=b):=λh o=>aA ⟨by simp,λe=>absurd (h e) o⟩;refine aS (λ_=>rfl)<|aD (f:=λn _=>UI n (a,b)) (Q:=λr=>(r=true->a≠b)/\(r=false->a.Nodes.length=b.Nodes.length/\a.Arcs.length=b.Arcs.length/\a.Faces.length=b.Faces.length)) ?_ λc l=>aC (λh=>d id<|l.1 h) λh=>?_
 .refine aC (λh=>aA ⟨λ_ e=>by subst e;simp at h,by simp⟩) λg=>aC (λh=>aA ⟨λ_ e=>by subst e;simp at h,by simp⟩) λi=>aC (λh=>aA ⟨λ_ e=>by subst e;simp at h,by simp⟩) λj=>aA ⟨by simp,λ_=>⟨DQ g,DQ i,DQ j⟩⟩
 .let⟨s,m,q⟩:=l.2 h;exact aO (aU<|aQe a b ha s 0 rfl) (λ_ h=>d (congrArg _) h) λ_ g=>aE rfl<|aO (aU<|aQd a b ha m 0 rfl) (λ_ h=>d (congrArg _) h) λ_ i=>aE rfl<|aO (aU<|aQc a b ha q 0 rfl) (λ_ h=>d (congrArg _) h) λ_ j=>aE rfl<|aA ⟨λ_=>by cases a;cases b;simp_all,λ_=>rfl⟩
end
section
variable (a b:aK)(ha:Be a)
include ha
theorem aQu(c:a.Features.length=b.Features.length)(i:Nat)(j:a.Features.take i=b.Features.take i): aB (λn m=>oW Ff n m (a,b) (i:Int))<|Q2 a.Features b.Features:=
 have k:=ha.n;bN<|rq c (by omega) j (t:=λn _ x y=>nQ n x y) (λx g y=>aWA x y<|by have:=ha.f x g;omega) λh d=>by
  rw[bV<|by omega];exact aQu c (i+1) h
termination_by a.Features.length-i
theorem aXd: Iq (λn _=>O8 n a b) a b:=by
 have g:∀{p:Prop},(a=b->p)->¬p->aB (λ_ _=>some false) (λr=>r=true↔a=b):=λh l=>aA ⟨by simp,λe=>absurd (h e) l⟩;refine aS (λ_=>rfl)<|aD (f:=λn _=>UH n (a,b)) (Q:=λr=>(r=true->a≠b)/\(r=false->a.Plan=b.Plan/\a.Features.length=b.Features.length)) (aD (aWD a.Plan b.Plan ha.p) λd i=>?_) λc j=>aC (λh=>g id<|j.1 h) λh=>?_
 .exact aC (λk=>aC (λh=>aA ⟨λ_ e=>by subst e;simp at h,by simp⟩) λh=>aA ⟨by simp,λ_=>⟨i.1 k,DQ h⟩⟩) λh=>aA ⟨λ_ e=>(by rw[i.2<|congrArg _ e] at h;cases h),by simp⟩
 .let⟨q,m⟩:=j.2 h;exact aO (aU<|aQu a b ha m 0 rfl) (λ_ h=>g (congrArg _) h) λ_ k=>aE rfl<|aA ⟨λ_=>by cases a;cases b;simp_all,λ_=>rfl⟩
end
theorem aGC{a b:aZ}(e:a.Kind=b.Kind)(g:a.ID=b.ID)(l:a.A=b.A)(j:a.B=b.B)(d:a.C=b.C)(k:a.At=b.At)(f:a.Via=b.Via)(i:a.Name=b.Name): a.Parts=b.Parts↔a=b:=by
 constructor
 .intro h;cases a;cases b;simp_all
 .rintro rfl;rfl
theorem aWB(a b:aZ)(h:aAm a): Iq (λn _=>xI n a b) a b:=
 aS (λ_=>rfl)<|Iq.bb<|Iq.and ZC (congrArg _) λk=>Iq.and ZC (congrArg _) λg=>Iq.and ZC (congrArg _) λj=>Iq.and ZC (congrArg _) λl=>Iq.and ZC (congrArg _) λe=>Iq.and Wa (congrArg _) λc=>
  aD (aUk a.Via b.Via h.1) λd i=>Iq.and i (congrArg _) λf=>Iq.and Wa (congrArg _) λm=>Iq.end_ (aWO a.Parts b.Parts h.2)<|aGC k g j l e c f m
theorem aPY(a b:aY)(c:lD a)(d:a.Edits.length=b.Edits.length)(i:Nat)(f:a.Edits.take i=b.Edits.take i): aB (λn m=>oW tL n m (a,b) (i:Int))<|Q2 a.Edits b.Edits:=
 have j:=c.1;bN<|rq d (by omega) f (t:=λn _ x y=>xI n x y) (λx g y=>aWB x y<|c.2 x g) λh e=>by
  rw[bV<|by omega];exact aPY a b c d (i+1) h
termination_by a.Edits.length-i
def CmV(a:eK)(t:aY)(v:eK×Int): Prop:=aB (λn _=>Jt n a t) λr=>r=v
theorem CmV.uniq{a:eK}{t:aY}{v w:eK×Int}(h:CmV a t v)(k:CmV a t w): v=w:=aB.uniq (r:=v) (P:=λx=>x=w) h k
inductive Rp: List aY->eK->eK×Int->Prop
 | nil (p):Rp [] p (p,0)
 | err (t l p v):CmV p t v->v.2≠0->Rp (t::l) p v
 | ok (t l p v r):CmV p t v->v.2=0->Rp l v.1 r->Rp (t::l) p r
theorem Rp.uniq{l:List aY}{p:eK}{v w:eK×Int}(h:Rp l p v)(k:Rp l p w): v=w:=by
 induction h with
 | nil p=>cases k;rfl
 | err t l p v d e=>
  cases k with
  | err _ _ _ _ a b=>exact d.uniq a
  | ok _ _ _ u _ a b _=>rw[d.uniq a] at e;exact absurd b e
 | ok t l p v r d e i g=>
  cases k with
  | err _ _ _ _ a b=>rw[<-d.uniq a] at b;exact absurd e b
  | ok _ _ _ u _ a b f=>rw[<-d.uniq a] at f;exact g f
theorem Rp.snoc{l:List aY}{p q:eK}{t:aY}{v:eK×Int}(h:Rp l p (q,0))(k:CmV q t v)(e:v.2=0): Rp (l++[t]) p v:=by
 generalize c:(q,(0:Int))=r at h;induction h with
 | nil p=>cases c;exact .ok _ _ _ _ _ k e<|by let⟨a,b⟩:=v;subst e;exact .nil a
 | err t l p v f d=>subst c;exact absurd rfl d
 | ok t l p v r f d j g=>exact .ok _ _ _ _ _ f d<|g c
structure aFr(a:eK): Prop where
 s:Be a.Survey
 t:∀t∈a.Txns,lD t
theorem aNj(a:eK)(t:aY)(c:aFr a)(f:lD t): ∃s:aK×Int×Int,∃v,aB (λn _=>Rx n a.Survey t.Edits) (λr=>r=s)/\CmV a t v/\(v.2≠0->v.1=eR)/\(v.2=0->s.2.2=0/\v.1=⟨s.1,a.Txns++[t]⟩/\aFr v.1/\a.Txns.length<256):=by
 let⟨s,i,g⟩:=aNk a t c.s c.t f;let⟨v,e,l⟩:=g.val;refine⟨s,v,i,l,e.1,λh=>?_⟩;let⟨k,d,j,m⟩:=e.2 h;refine⟨k,d,?_,m⟩;rw[d];refine⟨j,λu b=>?_⟩;rcases ZD.1 b with b | b
 .exact c.t u b
 .rw[ZJ.1 b];exact f
theorem aUP: aFr eR:=⟨⟨⟨by simp[eR,eS],by simp[eR,eS],by simp[eR,eS],by simp[eR,eS]⟩,by simp[eR,eS],by simp[eR,eS]⟩,by simp[eR]⟩
theorem aRF(n:Nat)(t:aY): dW n t=xK n t:=by cases n<;>rfl
theorem aHV(t:aY)(h:lD t): aB (λn _=>dW n t) λr=>r=t:=by
 have:(λ(n _:Nat)=>dW n t)=λn _=>xK n t:=by funext n m;exact aRF n t
 rw[this];exact I1 t h
theorem aSs(l:List aZ)(i:Nat)(e:aZ)(h:l[i]?=some e): aB (λn _=>Lo n (l,(i:Int))) λr=>r=false->aAm e:=by
 have e1:idx l (i:Int)=some e:=by rw[bP];exact h
 refine aE e1 (aC (λ_=>aA (by simp)) λh1=>aE e1 (aC (λ_=>aA (by simp)) λh2=>aE e1 (aC (λ_=>aA (by simp)) λ_=>aA λ_=>?_)))
 have h1:=Zp h1;have h2:=Zp h2
 unfold ln at h1 h2
 exact⟨by omega,by omega⟩
theorem aMz(l:List aZ)(i:Nat)(hi:i<=7)(hu:xH l i aAm): aB (λn m=>oW Bd n m l (i:Int)) (Su (λ_=>True) λ_=>∃j,xH l j aAm/\(l.length<=j\/7<=j)):=
 bN (aC (λh=>by
  have hlt:i<l.length:=by have:=Zl h;unfold ln at this;omega
  refine aC (λh7=>?_) λh7=>aA ⟨i,hu,.inr (by have:=Zp h7;omega)⟩
  have h7:i<7:=by have:=Zl h7;omega
  refine aD (f:=λn _=>Lo n (l,(i:Int))) (aSs l i _ (Zb hlt)) λr hr=>aC (λ_=>aA trivial) λe=>?_
  rw[bV (by omega)]
  exact aMz l (i+1) (by omega) (hu.step (Zb hlt) (hr e))) λh=>aA ⟨i,hu,.inl (by have:=Zp h;unfold ln at this;omega)⟩)
termination_by 7-i
theorem aPc(l:List aZ): aB (λn _=>SF n l) λr=>r=true->l.length<=6/\∀e∈l,aAm e:=by
 refine aS (λ_=>rfl) (aO (aU (aMz l 0 (by omega) .nil)) (λ_ _=>aA (by simp)) λ_ h=>aE rfl (aC (λb=>aA λ_=>?_) λ_=>aA (by simp)))
 have b:=Zl b
 unfold ln at b
 obtain⟨j,hu,hj⟩:=h
 exact⟨by omega,hu.fin (by omega)⟩
theorem aPZ(l:List aY)(hl:l.length<=14)(i:Nat)(hu:xH l i lD): aB (λn m=>oW Bc n m l (i:Int)) (Su (λ_=>True) λ_=>∀t∈l,lD t):=
 bN (aC (λh=>by
  have hlt:i<l.length:=by have:=Zl h;unfold ln at this;omega
  have e1:idx l (i:Int)=some l[i]:=by rw[bP];exact Zb hlt
  rw[bV (by omega)]
  refine aD (f:=λn _=>MD n (l,(i:Int))) (Q:=λr=>r=false->lD l[i]) (aE e1 (aC (λ_=>aA (by simp)) λ_=>aE e1 (aD (aPc l[i].Edits) λr hr=>aC (λe=>aA λ_=>?_) λ_=>aA (by simp)))) λr hr=>aC (λ_=>aA trivial) λe=>aPZ l hl (i+1) (hu.step (Zb hlt) (hr e))
  have:=hr e
  exact⟨by omega,this.2⟩) λh=>aA (hu.fin (by have:=Zp h;unfold ln at this;omega)))
termination_by l.length-i
theorem aAv(l:List aY): aB (λn _=>Tz n l) λr=>r=true->l.length<=14/\∀t∈l,lD t:=by
 refine aS (λ_=>rfl) (aC (λ_=>aA (by simp)) λh=>?_)
 have h:=Zp h
 unfold ln at h
 exact aO (aU (aPZ l (by omega) 0 .nil)) (λ_ _=>aA (by simp)) λ_ k=>aE rfl (aA λ_=>⟨by omega,k⟩)
def gK(a b:aY): Prop:=a.Time<b.Time\/(a.Time=b.Time/\(a.Office<b.Office\/(a.Office=b.Office/\a.Seq<b.Seq)))
def aJs(c d f:Int): Int:=([c,d,f].find? (· != 0)).getD 0
theorem aUv(c d f:Int): aB (λn _=>Ax n [c,d,f]) λr=>r=aJs c d f:=
 aS (λ_=>rfl) (aO (aU (aBT [c,d,f] (by simp) 0)) (λv h=>aA (by unfold aJs;rw[show[c,d,f].find? (· != 0)=some v from h];rfl)) λ_ h=>aE rfl (aA (by unfold aJs;rw[show[c,d,f].find? (· != 0)=none from h];rfl)))
def aJQ(a b:aY): Int:=aJs (Sa a.Time b.Time) (Sa a.Office b.Office) (Sa a.Seq b.Seq)
theorem Tu(a b:aY): aB (λn _=>eX n a b) λr=>r=aJQ a b:=
 aS (λ_=>rfl) (aD (fT _ _) λx hx=>aD (fT _ _) λy hy=>aD (fT _ _) λz hz=>aD (aUv x y z) λr hr=>aA (by rw[hr,hx,hy,hz];rfl))
theorem LW(a b:aY): aJQ a b<0↔gK a b:=by
 unfold aJQ aJs gK Sa
 by_cases h1:a.Time<b.Time
 .simp[h1]
 .by_cases h2:b.Time<a.Time
  .have:¬a.Time=b.Time:=by omega
   simp[h1,h2,this]
  .have e:a.Time=b.Time:=by omega
   by_cases h3:a.Office<b.Office
   .simp[e,h3]
   .by_cases h4:b.Office<a.Office
    .have:¬a.Office=b.Office:=by omega
     simp[e,h3,h4,this]
    .have e2:a.Office=b.Office:=by omega
     by_cases h5:a.Seq<b.Seq
     .simp[e,e2,h5]
     .by_cases h6:b.Seq<a.Seq
      .simp[e,e2,h5,h6]
      .simp[e,e2,h5,h6]
theorem JS{a b c:aY}(h:gK a b)(k:gK b c): gK a c:=by unfold gK at *;omega
theorem F1(a:aY): ¬gK a a:=by unfold gK;omega
def aF2(t:aY)(v:Int): Prop:=aB (λn _=>rV n t) λr=>r=v
theorem aF2.uniq{t:aY}{v w:Int}(h:aF2 t v)(k:aF2 t w): v=w:=aB.uniq (r:=v) (P:=λx=>x=w) h k
def mH(t:aY): Aac:=⟨t.Office,t.Seq⟩
structure P9(L:List aY)(j:Nat)(t:aY): Prop where
 c:aF2 t 0
 l:∀u,0<j->L[j-1]?=some u->gK u t
 k:∀m u,m<j->L[m]?=some u->mH u≠mH t
def aFy(l:List aY): Prop:=∀j t,l[j]?=some t->P9 l j t
def aV6(l:List aY)(i:Nat)(h:List (Aac×Bool)): Prop:=∀k,(cE h k).getD false=true↔∃j u,j<i/\l[j]?=some u/\mH u=k
theorem aQR(o:bK)(hl:o.Txns.length<=256)(i:Nat)(x:aY)(hx:o.Txns[i]?=some x)(h:List (Aac×Bool))(hm:aV6 o.Txns i h): aB (λn _=>Mk n (o,h,x,x.Office,x.Seq,(i:Int))) λr=>r=true↔¬P9 o.Txns i x:=by
 obtain⟨v,_,hv⟩:=(aFD x).val
 have hi:i<256:=by have:=(Ze.1 hx).1;omega
 have fin:aF2 x 0->(∀u,0<i->o.Txns[i-1]?=some u->gK u x)->aB (λ_ _=>cnd (Option.getD (cE h (Aac.mk x.Office x.Seq)) false) (some true) (some false)) λr=>r=true↔¬P9 o.Txns i x:=λh1 h2=>aC (λb=>aA ⟨λ_ g=>by
  obtain⟨j,u,k1,k2,k3⟩:=(hm _).1 b
  exact g.k j u k1 k2 k3,λ_=>rfl⟩) λb=>aA ⟨by simp,λg=>absurd ⟨h1,h2,λk u k1 k2 k3=>by
  have e:=(hm (Aac.mk x.Office x.Seq)).2 ⟨k,u,k1,k2,k3⟩
  rw[e] at b;cases b⟩ g⟩
 refine aD hv λc hc=>?_
 subst hc
 refine aC (λb=>aA ⟨λ_ g=>by have:=g.c.uniq hv;rw[<-this] at b;simp at b,λ_=>rfl⟩) λb=>?_
 have hc:c=0:=by simpa using b
 subst hc
 refine aC (λb=>?_) λb=>fin hv λu hu=>absurd hu (by have:=Zp b;omega)
 have h0:0<i:=by have:=Zl b;omega
 have hlt:i-1<o.Txns.length:=by have:=(Ze.1 hx).1;omega
 have e1:idx o.Txns (wr ((i:Int)-1))=some o.Txns[i-1]:=by
  have:wr ((i:Int)-1)=((i-1:Nat):Int):=by unfold wr;rw[i64_in _ (by omega)];omega
  rw[this,bP];exact Zb hlt
 refine aE e1 (aD (Tu _ x) λr hr=>aC (λb=>aA ⟨λ_ g=>?_,λ_=>rfl⟩) λb=>fin hv λu _ hu=>?_)
 .have:=(LW _ _).2 (g.l _ h0 (Zb hlt))
  have b:=Zl b
  omega
 .rw[Zb hlt] at hu
  cases hu
  have b:=Zp b
  exact (LW _ _).1 (by omega)
theorem aKz(o:bK)(hl:o.Txns.length<=256)(i:Nat)(h:List (Aac×Bool))(hm:aV6 o.Txns i h)(hg:∀j t,j<i->o.Txns[j]?=some t->P9 o.Txns j t): aB (λn m=>oW pY n m (o,o.Txns,ln o.Txns) (h,(i:Int))) (Su (λ_=>¬aFy o.Txns) λ_=>aFy o.Txns):=
 bN (bD (λx hx hlt=>by
  refine aD (aQR o hl i x hx h hm) λr hr=>aC (λb=>aA λg=>hr.1 b (g i x hx)) λb=>?_
  have hgx:P9 o.Txns i x:=Classical.byContradiction λg=>by rw[hr.2 g] at b;cases b
  rw[bV (by omega)]
  refine aKz o hl (i+1) _ (λk=>?_) λj t hj ht=>?_
  .rw[uE]
   by_cases e:Aac.mk x.Office x.Seq=k
   .rw[Zu e];exact⟨λ_=>⟨i,x,by omega,hx,e⟩,λ_=>rfl⟩
   .rw[ZF e,hm k]
    exact⟨λ⟨j,u,a,b,c⟩=>⟨j,u,by omega,b,c⟩,λ⟨j,u,a,b,c⟩=>by
     rcases ZI j i with hj | hj
     .exact⟨j,u,hj,b,c⟩
     .have:j=i:=by omega
      subst this
      rw[hx] at b;cases b;exact absurd c e⟩
  .rcases ZI j i with h1 | h1
   .exact hg j t h1 ht
   .have:j=i:=by omega
    subst this
    rw[hx] at ht;cases ht;exact hgx) λhge=>aA λj t ht=>hg j t (by have:=(Ze.1 ht).1;omega) ht)
termination_by o.Txns.length-i
structure aFx(o:bK): Prop where
 a:1<=o.ID
 b:o.ID<=8
 n:o.Txns.length<=256
 g:aFy o.Txns
theorem i6(o:bK): aB (λn _=>fL n o) λr=>r=true↔aFx o:=by
 refine aS (λ_=>rfl) (aD (f:=λn _=>Ml n o) (Q:=λr=>r=true↔¬(1<=o.ID/\o.ID<=8/\o.Txns.length<=256)) (aC (λh=>aA ⟨λ_ g=>?_,λ_=>rfl⟩) λh1=>aC (λh=>aA ⟨λ_ g=>?_,λ_=>rfl⟩) λh2=>aC (λh=>aA ⟨λ_ g=>?_,λ_=>rfl⟩) λh3=>aA ⟨by simp,λg=>?_⟩) λr hr=>aC (λb=>aA ⟨by simp,λg=>absurd ⟨g.a,g.b,g.n⟩ (hr.1 b)⟩) λb=>?_)
 .have:=Zl h;omega
 .have:=Zl h;omega
 .have:=Zl h;unfold ln at this;omega
 .have:=Zp h1;have:=Zp h2;have:=Zp h3;unfold ln at this
  exact absurd ⟨by omega,by omega,by omega⟩ g
 .have hk:1<=o.ID/\o.ID<=8/\o.Txns.length<=256:=Classical.byContradiction λg=>by rw[hr.2 g] at b;cases b
  exact aO (aU (aKz o hk.2.2 0 [] (λk=>by simp[cE]) λj t hj=>by omega)) (λ_ h=>aA ⟨by simp,λg=>absurd g.g h⟩) λ_ h=>aE rfl (aA ⟨λ_=>⟨hk.1,hk.2.1,hk.2.2,h⟩,λ_=>rfl⟩)
theorem aFy.asc{l:List aY}(h:aFy l): ∀(i j:Nat) (a b:aY),i<j->l[i]?=some a->l[j]?=some b->gK a b:=by
 intro i j
 induction j with
 | zero=>intro a b hi;omega
 | succ j ih=>
  intro a b hi ha hb
  have hlt:j<l.length:=by have:=(Ze.1 hb).1;omega
  have h1:=(h (j+1) b hb).l _ (by omega) (by rw[Nat.add_sub_cancel];exact Zb hlt)
  rcases ZI i j with h2 | h2
  .exact JS (ih a _ h2 ha (Zb hlt)) h1
  .have:i=j:=by omega
   subst this
   rw[Zb hlt] at ha;cases ha;exact h1
abbrev KM:=List (Aac×Bool)
def L3(b:Int)(k:Nat): KM->Nat
 | []=>0
 | (x,_)::r=>(if x.e0=b/\(k:Int)<x.e1 then 1 else 0)+L3 b k r
theorem aIC(b:Int)(k:Nat): ∀m:KM,L3 b (k+1) m<=L3 b k m
 | []=>Zf _
 | (x,v)::r=>by
  have:=aIC b k r
  unfold L3
  split<;>split<;>first | omega | (rename_i h1 h2;exact absurd ⟨h1.1,by have:=h1.2;omega⟩ h2)
theorem aIB(b:Int)(k:Nat): ∀m:KM,(cE m ⟨b,((k+1:Nat):Int)⟩).isSome=true->L3 b (k+1) m<L3 b k m
 | [],h=>by simp[cE] at h
 | (x,v)::r,h=>by
  have hle:=aIC b k r
  unfold L3
  by_cases e:x=⟨b,((k+1:Nat):Int)⟩
  .subst e
   rw[ZF (by simp),Zu ⟨rfl,by show (k:Int)<((k+1:Nat):Int);omega⟩];omega
  .have:=aIB b k r (by unfold cE at h;rw[ZF e] at h;exact h)
   split<;>split<;>first | omega | (rename_i h1 h2;exact absurd ⟨h1.1,by have:=h1.2;omega⟩ h2)
theorem aEZ(b:Int)(k:Nat): ∀m:KM,L3 b k m<=m.length
 | []=>Zf _
 | (x,v)::r=>by
  have:=aEZ b k r
  unfold L3
  rw[Yc]
  split<;>omega
theorem aAF(k:Aac)(v:Bool): ∀m:KM,(kW m k v).length<=m.length+1
 | []=>by simp[kW]
 | (x,w)::r=>by
  have:=aAF k v r
  unfold kW
  split<;>simp<;>omega
theorem aQl(m:KM)(b:Int)(k:Nat)(hk:k+L3 b k m<=1000): aB (λn q=>qC pF n q (m,b) (k:Int)) λ_=>True:=by
 refine cA ?_
 have e:wr ((k:Int)+1)=((k+1:Nat):Int):=bV (by omega)
 show aB (λn q=>cnd (Option.getD (cE m (Aac.mk b (wr ((k:Int)+1)))) false) (qC pF n q (m,b) (wr ((k:Int)+1))) (some (k:Int))) λ_=>True
 rw[e]
 refine aC (λh=>?_) λ_=>aA trivial
 have:=aIB b k m (by cases hg:cE m ⟨b,((k+1:Nat):Int)⟩ with | none=>rw[hg] at h;cases h | some v=>rfl)
 exact aQl m b (k+1) (by omega)
termination_by L3 b k m
theorem aWE{f:Nat}(h:f<=1000): rep (0:Int) (f:Int) (f:Int)=some (List.replicate f 0):=by
 have:=NK (l:=List.replicate f (0:Int)) 0 (by simp;omega)
 simpa [ln] using this
theorem aL7(m:KM)(hm:m.length<=900)(d:List Int)(f g:Nat)(h:d.length+f<=g)(hg:g<=9): aB (λn q=>qC xT n q m (d,(f:Int),(g:Int))) λ_=>True:=by
 refine cA ?_
 have e1:wr ((f:Int)+1)=((f+1:Nat):Int):=bV (by omega)
 have e2:wr ((g:Int)+1)=((g+1:Nat):Int):=bV (by omega)
 refine aC (λb=>?_) λ_=>aA trivial
 have b:g<=8:=by have:=Zl b;omega
 refine aD (f:=λn _=>HK n (m,(g:Int))) (Q:=λ_=>True) (aT (aD (aU (aQl m g 0 (by have:=aEZ g 0 m;omega))) λr _=>aA trivial)) λr _=>aC (λ_=>?_) λ_=>aE (aWE (by omega)) (aE (tJ (by simp;omega)) (aE (tJ (by simp;omega)) ?_))
 .rw[e1,e2];exact aL7 m hm d (f+1) (g+1) (by omega) (by omega)
 .rw[e2];exact aL7 m hm _ 0 (g+1) (by simp;omega) (by omega)
termination_by 9-g
theorem aQm(l:List aY)(hl:l.length<=256)(i:Nat)(m:KM)(hi:i<=l.length)(h:m.length<=i): aB (λn q=>qC xU n q (l,ln l) (m,(i:Int))) λr=>r.length<=256:=
 cA (bD (λx hx hlt=>by
  rw[bV (by omega)]
  exact aQm l hl (i+1) _ (by omega) (by have:=aAF ⟨x.Office,x.Seq⟩ true m;omega)) λ_=>aA (by omega))
termination_by l.length-i
theorem aX0(l:List aY)(hl:l.length<=256): Tt (λn _=>Fs n l):=
 aS (λ_=>rfl) (aD (aU (aQm l hl 0 [] (by omega) (by simp))) λm hm=>aD (f:=λn _=>HL n m) (Q:=λ_=>True) (aT (aD (aU (aL7 m (by omega) [] 0 1 (by simp) (by omega))) λr _=>aA trivial)) λr _=>aA trivial)
theorem aPi(c:oU)(o:Int): Tt (λn _=>Js n c o):=by
 refine aS (λ_=>rfl) (aD (f:=λn _=>Lx n (c,o)) (Q:=λr=>r=false->1<=o/\o<=8/\o<=ln c.Counts) (aC (λ_=>aA (by simp)) λh1=>aC (λ_=>aA (by simp)) λh2=>aC (λ_=>aA (by simp)) λh3=>aA λ_=>?_) λr hr=>aC (λ_=>aA trivial) λh=>?_)
 .have:=Zp h1;have:=Zp h2;have:=Zp h3
  exact⟨by omega,by omega,by omega⟩
 .obtain⟨a,b,d⟩:=hr h
  unfold ln at d
  have e:wr (o-1)=o-1:=by unfold wr;rw[i64_in _ (by omega)]
  rw[e]
  exact aE (vA (by omega) (by omega)) (aD (f:=λn _=>nR n _ 0) (Q:=λ_=>True) (aS (λ_=>rfl) (aC (λ_=>aA trivial) λ_=>aA trivial)) λ_ _=>aA trivial)
theorem aPF(c:oU)(o s:Int): Tt (λn _=>wW n c o s):=
 aS (λ_=>rfl) (aD (f:=λn _=>Ly n (c,o,s)) (Q:=λ_=>True) (aC (λ_=>aD (aPi c o) λ_ _=>aC (λ_=>aA trivial) λ_=>aA trivial) λ_=>aA trivial) λ_ _=>aC (λ_=>aA trivial) λ_=>aA trivial)
section
theorem aW7(a b:aY)(ha:lD a): Iq (λn _=>Eg n a b) a b:=by
 refine aS (λ_=>rfl) (aD (f:=λn _=>Sz n (a,b)) (Q:=λr=>(r=true->a≠b)/\(r=false->a.Office=b.Office/\a.Seq=b.Seq/\a.Time=b.Time/\a.Source=b.Source/\a.Edits.length=b.Edits.length)) ?_ λc hc=>aC (λh=>aA ⟨by simp,λe=>absurd e (hc.1 h)⟩) λh=>?_)
 .have no:∀{p:Prop},(a=b->p)->¬p->aB (λ_ _=>some true) (λr=>(r=true->a≠b)/\(r=false->a.Office=b.Office/\a.Seq=b.Seq/\a.Time=b.Time/\a.Source=b.Source/\a.Edits.length=b.Edits.length)):=λh k=>aA ⟨λ_ e=>k (h e),by simp⟩
  exact aC (λh=>no (congrArg aY.Office) (by simpa using h)) λh1=>aC (λh=>no (congrArg aY.Seq) (by simpa using h)) λh2=>aC (λh=>no (congrArg aY.Time) (by simpa using h)) λh3=>aC (λh4=>aC (λh=>no (congrArg λx=>x.Edits.length) (by simp[ln] at h;omega)) λh5=>aA ⟨by simp,λ_=>⟨by simpa using h1,by simpa using h2,by simpa using h3,Zl h4,by simp[ln] at h5;omega⟩⟩) λh=>no (congrArg aY.Source) (Zp h)
 .obtain⟨h1,h2,h3,h4,h5⟩:=hc.2 h
  exact aO (aU (aPY a b ha h5 0 rfl)) (λ_ h=>aA ⟨by simp,λe=>absurd (congrArg _ e) h⟩) λ_ h=>aE rfl (aA ⟨λ_=>by cases a;cases b;simp_all,λ_=>rfl⟩)
inductive vK{α:Type}: List α->List α->List α->Prop
 | nil:vK [] [] []
 | acc (x o a r):vK o a r->vK (x::o) (x::a) r
 | rej (x o a r):vK o a r->vK (x::o) a (x::r)
variable {α:Type}{a o r:List α}{x:α}
theorem vK.mem(h:vK o a r): ∀x∈a,x∈o:=by
 induction h with
 | nil=>exact λx hx=>hx
 | acc x o a r _ ih=>intro y hy;rcases ZN.1 hy with e | e;exact e▸ZM;exact ZQ _ (ih y e)
 | rej x o a r _ ih=>exact λy hy=>ZQ _ (ih y hy)
theorem vK.snocA(h:vK o a r): vK (o++[x]) (a++[x]) r:=by
 induction h with
 | nil=>exact .acc _ _ _ _ .nil
 | acc y o a r _ ih=>exact .acc _ _ _ _ ih
 | rej y o a r _ ih=>exact .rej _ _ _ _ ih
theorem vK.snocR(h:vK o a r): vK (o++[x]) a (r++[x]):=by
 induction h with
 | nil=>exact .rej _ _ _ _ .nil
 | acc y o a r _ ih=>exact .acc _ _ _ _ ih
 | rej y o a r _ ih=>exact .rej _ _ _ _ ih
end
abbrev StT:=List Aab×List aR×List Int×List aH×List aY×List aY
def rpO(w:StT): eK:=⟨⟨⟨w.1,w.2.1,w.2.2.1⟩,w.2.2.2.1⟩,w.2.2.2.2.1⟩
theorem aK9(c:oU)(l:List aY)(hl:l.length<=256)(hs:∀t∈l,lD t): ∀(todo:List aY) (i:Nat) (p:eK) (m:List aY),l.drop i=todo->aFr p->Rp p.Txns eR (p,0)->vK (l.take i) p.Txns m->m.length<=i->
 aB (λn q=>qC kD n q (c,l,ln l) (p.Survey.Plan.Nodes,p.Survey.Plan.Arcs,p.Survey.Plan.Faces,p.Survey.Features,p.Txns,m,(i:Int))) λw=>vK l w.2.2.2.2.1 w.2.2.2.2.2/\Rp w.2.2.2.2.1 eR (rpO w,0)/\aFr (rpO w)
 | [],i,p,m,hd,hp,hr,ha,hm=>cA (bD (λx hx hlt=>by
  have:=congrArg List.length hd
  rw[ZV,Z1] at this;omega) λhge=>aA (by rw[ZW hge] at ha;exact⟨ha,hr,hp⟩))
 | t::todo,i,p,m,hd,hp,hr,ha,hm=>by
  obtain⟨g1,g2,g3⟩:=Ts hd
  have hlt:i<l.length:=(Ze.1 g1).1
  have ht:=hs t (Zg g1)
  have tk:l.take (i+1)=l.take i++[t]:=by rw[YX,g1];rfl
  have rej:aB (λn q=>bnd (dW n t) λu=>bnd (app m [u]) λv=>qC kD n q (c,l,ln l) (p.Survey.Plan.Nodes,p.Survey.Plan.Arcs,p.Survey.Plan.Faces,p.Survey.Features,p.Txns,v,((i+1:Nat):Int))) λw=>vK l w.2.2.2.2.1 w.2.2.2.2.2/\Rp w.2.2.2.2.1 eR (rpO w,0)/\aFr (rpO w):=by
   refine aD (aHV t ht) λu hu=>?_
   subst hu
   exact aE (Sq (by omega)) (aK9 c l hl hs todo (i+1) p (m++[u]) g2 hp hr (by rw[tk];exact ha.snocR) (by simp;omega))
  refine cA (bD (λx hx _=>?_) λh=>by omega)
  rw[g1] at hx
  cases hx
  rw[bV (by omega)]
  refine aD (aPF c t.Office t.Seq) λs _=>aC (λ_=>?_) λ_=>rej
  obtain⟨s,v,_,h1,_,h3⟩:=aNj p t hp ht
  refine aD h1 λr hr'=>?_
  subst hr'
  refine aC (λb=>?_) λ_=>rej
  have h0:r.2=0:=by simpa using b
  obtain⟨_,k1,k2,_⟩:=h3 h0
  have kt:r.1.Txns=p.Txns++[t]:=by rw[k1]
  refine aK9 c l hl hs todo (i+1) r.1 m g2 k2 ?_ (by rw[tk,kt];exact ha.snocA) (by omega)
  have:=hr.snoc h1 h0
  rw[kt]
  obtain⟨r1,r2⟩:=r
  simp only at h0
  subst h0
  exact this
theorem aIP(o:bK)(hs:∀t∈o.Txns,lD t): aB (λn _=>dX n o) λr=>(r.2.2=0/\aFx o/\vK o.Txns r.1.Txns r.2.1/\Rp r.1.Txns eR (r.1,0)/\aFr r.1)\/(r.2.2=19/\¬aFx o/\r.1=eR/\r.2.1=[]):=by
 refine aS (λ_=>rfl) (aD (i6 o) λb hb=>aC (λh=>?_) λh=>aA (.inr ⟨rfl,(λk=>by rw[hb.2 k] at h;cases h),rfl,rfl⟩))
 have hk:=hb.1 h
 exact aD (aX0 o.Txns hk.n) λc _=>aD (aU (aK9 c o.Txns hk.n hs o.Txns 0 eR [] rfl aUP (.nil eR) .nil (by simp))) λw hw=>aA (.inl ⟨rfl,hk,hw.1,hw.2.1,hw.2.2⟩)
section
structure Bf(L:List aY): Prop where
 c:∀t∈L,aF2 t 0
 l:L.Pairwise gK
 k:L.Pairwise λa b=>mH a≠mH b
variable {l:List aY}
theorem aFy.gl(h:aFy l): Bf l where
 c t ht:=by obtain⟨i,hi⟩:=Yi.1 ht;exact (h i t hi).c
 l:=List.pairwise_iff_getElem.2 λi j hi hj hij=>h.asc i j _ _ hij (Zb hi) (Zb hj)
 k:=List.pairwise_iff_getElem.2 λi j hi hj hij=>(h j _ (Zb hj)).k i _ hij (Zb hi)
theorem Bf.good(h:Bf l): aFy l:=λj t ht=>by
 obtain⟨hj,rfl⟩:=Ze.1 ht
 refine⟨h.c _ (ZP hj),λu h0 hu=>?_,λm u hm hu=>?_⟩
 .obtain⟨h1,rfl⟩:=Ze.1 hu
  exact List.pairwise_iff_getElem.1 h.l _ _ h1 hj (by omega)
 .obtain⟨h1,rfl⟩:=Ze.1 hu
  exact List.pairwise_iff_getElem.1 h.k _ _ h1 hj hm
theorem aLO{a b:aY}(h:mH a≠mH b)(k:¬gK a b): gK b a:=by
 have:¬(a.Office=b.Office/\a.Seq=b.Seq):=λ⟨x,y⟩=>h (by unfold mH;rw[x,y])
 unfold gK at *;omega
theorem Bf.ins(h:Bf l){t:aY}(hc:aF2 t 0)(hk:∀u∈l,mH u≠mH t){p:Nat}(h1:∀u∈l.take p,gK u t)(h2:∀u∈l.drop p,¬gK u t): Bf (l.take p++t::l.drop p):=by
 have hk1:∀u∈l.take p,mH u≠mH t:=λu hu=>hk u (Z7 hu)
 have hk2:∀u∈l.drop p,mH u≠mH t:=λu hu=>hk u (ZZ hu)
 have hl:=h.l;have hkk:=h.k
 rw[<-YT p l] at hl hkk
 obtain⟨a1,a2,a3⟩:=List.pairwise_append.1 hl
 obtain⟨b1,b2,b3⟩:=List.pairwise_append.1 hkk
 refine⟨λu hu=>?_,List.pairwise_append.2 ⟨a1,List.pairwise_cons.2 ⟨λu hu=>aLO (hk2 u hu) (h2 u hu),a2⟩,λa ha b hb=>?_⟩,List.pairwise_append.2 ⟨b1,List.pairwise_cons.2 ⟨λu hu e=>hk2 u hu e.symm,b2⟩,λa ha b hb=>?_⟩⟩
 .rcases ZD.1 hu with hu | hu
  .exact h.c u (Z7 hu)
  .rcases ZN.1 hu with e | hu
   .rw[e];exact hc
   .exact h.c u (ZZ hu)
 .rcases ZN.1 hb with e | hb
  .rw[e];exact h1 a ha
  .exact a3 a ha b hb
 .rcases ZN.1 hb with e | hb
  .rw[e];exact hk1 a ha
  .exact b3 a ha b hb
theorem aCN: ∀{a b:List aY},a.Pairwise gK->b.Pairwise gK->(∀t,t∈a↔t∈b)->a=b
 | [],[],_,_,_=>rfl
 | [],y::b,_,_,h=>absurd ((h y).2 ZM) (by simp)
 | x::a,[],_,_,h=>absurd ((h x).1 ZM) (by simp)
 | x::a,y::b,ha,hb,h=>by
  obtain⟨a1,a2⟩:=List.pairwise_cons.1 ha
  obtain⟨b1,b2⟩:=List.pairwise_cons.1 hb
  have e:x=y:=by
   rcases ZN.1 ((h x).1 ZM) with e | e
   .exact e
   .rcases ZN.1 ((h y).2 ZM) with e2 | e2
    .exact e2.symm
    .exact absurd (JS (a1 y e2) (b1 x e)) (F1 x)
  subst e
  rw[aCN a2 b2 λt=>⟨λht=>by
   rcases ZN.1 ((h t).1 (ZQ _ ht)) with e | e
   .exact absurd (e▸a1 t ht) (F1 x)
   .exact e,λht=>by
   rcases ZN.1 ((h t).2 (ZQ _ ht)) with e | e
   .exact absurd (e▸b1 t ht) (F1 x)
   .exact e⟩]
theorem aUz(a b:aZ)(h:aAm a): Iq (λn _=>uW n a b) a b:=
 aS (λ_=>rfl) (Iq.bb (Iq.and ZC (congrArg _) λh1=>Iq.and ZC (congrArg _) λh2=>Iq.and ZC (congrArg _) λh3=>Iq.and ZC (congrArg _) λh4=>Iq.and ZC (congrArg _) λh5=>Iq.and Wa (congrArg _) λh6=>
  aD (aTM a.Via b.Via h.1) λd hd=>Iq.and hd (congrArg _) λh7=>Iq.and Wa (congrArg _) λh8=>aD (aTN a.Parts b.Parts h.2) λf hf=>aC (λk=>aA ⟨λ_=>(aGC h1 h2 h3 h4 h5 h6 h7 h8).1 (hf.1 k),λ_=>rfl⟩) λk=>aA ⟨by simp,λe=>by rw[hf.2 ((aGC h1 h2 h3 h4 h5 h6 h7 h8).2 e)] at k;cases k⟩))
theorem aQn(a b:List aZ)(hs:a.length<=100000)(hv:∀x∈a,aAm x)(hl:a.length=b.length)(i:Nat)(hp:a.take i=b.take i): aB (λn m=>oW pZ n m (b,a,ln a) (i:Int)) (Su (λ_=>a≠b) λ_=>a=b):=
 bN (uK hl (λx y hx hy hlt=>aD (aUz x y (hv x (Zg hx))) λr hr=>aC (λh=>by
  rw[bV (by omega)]
  exact aQn a b hs hv hl (i+1) (aDu hp hx hy (hr.1 h))) λh=>aA (aDv hx hy λe=>by rw[hr.2 e] at h;cases h)) λhge=>aA (aDw hl hp hge))
termination_by a.length-i
end
theorem aRG(a b:List aZ)(hs:a.length<=100000)(hv:∀x∈a,aAm x): aB (λn _=>Mm n (a,b)) (Su (λr=>r=true↔a=b) λ_=>a≠b):=by
 refine aT (aC (λh=>aA (show (false=true↔a=b) from⟨by simp,λe=>by subst e;simp at h⟩)) λhl=>?_)
 refine aO (aU (aQn a b hs hv (DQ hl) 0 rfl)) (λ_ h=>?_) λ_ h=>?_
 .exact aA (show a≠b from h)
 .exact aE rfl (aA (show (true=true↔a=b) from⟨λ_=>h,λ_=>rfl⟩))
theorem aMM(a b:aY): aJQ a b=0↔a.Time=b.Time/\a.Office=b.Office/\a.Seq=b.Seq:=by
 unfold aJQ aJs Sa
 rcases Int.lt_trichotomy a.Time b.Time with h | h | h
 .have:¬a.Time=b.Time:=by omega
  simp[h,this]
 .rcases Int.lt_trichotomy a.Office b.Office with k | k | k
  .have:¬a.Office=b.Office:=by omega
   simp[h,k,this]
  .rcases Int.lt_trichotomy a.Seq b.Seq with j | j | j
   .have:¬a.Seq=b.Seq:=by omega
    simp[h,k,j,this]
   .simp[h,k,j]
   .have h1:¬a.Seq<b.Seq:=by omega
    have h2:¬a.Seq=b.Seq:=by omega
    simp[h,k,j,h1,h2]
  .have h1:¬a.Office<b.Office:=by omega
   have h2:¬a.Office=b.Office:=by omega
   simp[h,k,h1,h2]
 .have h1:¬a.Time<b.Time:=by omega
  have h2:¬a.Time=b.Time:=by omega
  simp[h,h1,h2]
theorem aUy(a b:aY)(ha:lD a): Iq (λn _=>Ku n a b) a b:=by
 have no:∀{p:Prop},(a=b->p)->¬p->aB (λ_ _=>some false) (λr=>r=true↔a=b):=λh hn=>aA ⟨by simp,λe=>absurd (h e) hn⟩
 refine aS (λ_=>rfl) (aD (Tu a b) λc hc=>aC (λh0=>?_) λh0=>no (p:=aJQ a b=0) (λe=>by subst e;exact (aMM a a).2 ⟨rfl,rfl,rfl⟩) (by rw[<-hc];simpa using h0))
 have h0:c=0:=by simpa using h0
 rw[hc] at h0
 obtain⟨h1,h2,h3⟩:=(aMM a b).1 h0
 refine aC (λh4=>?_) λh4=>no (congrArg aY.Source) (Zp h4)
 have h4:=Zl h4
 exact aO (aRG a.Edits b.Edits ha.1 ha.2) (λd hd=>aC (λk=>aA ⟨λ_=>by have:=hd.1 k;cases a;cases b;simp_all,λ_=>rfl⟩) λk=>no (congrArg aY.Edits) λe=>by rw[hd.2 e] at k;cases k) λ_ h=>aE rfl (no (congrArg aY.Edits) h)
theorem aRn(t u:aY): aB (λn _=>Ci n (t,u)) λr=>r=true↔mH u=mH t:=by
 refine aC (λa=>aC (λb=>aA ⟨λ_=>?_,λ_=>rfl⟩) λb=>aA ⟨by simp,λe=>?_⟩) λa=>aA ⟨by simp,λe=>?_⟩
 .unfold mH;rw[ZC.1 a,ZC.1 b]
 .have:=congrArg Aac.e1 e;rw[show (u.Seq==t.Seq)=true from ZC.2 this] at b;cases b
 .have:=congrArg Aac.e0 e;rw[show (u.Office==t.Office)=true from ZC.2 this] at a;cases a
theorem aRo(t u:aY): aB (λn _=>Cj n (t,u)) λr=>r=true↔mH u=mH t:=
 aT (aD (aRn t u) λr hr=>aC (λk=>aA ⟨λ_=>hr.1 k,λ_=>rfl⟩) λk=>aA ⟨by simp,λe=>by rw[hr.2 e] at k;cases k⟩)
theorem aLf(l:List aY)(hl:l.length<=256)(t:aY)(i:Nat)(hu:xH l i λu=>mH u≠mH t): aB (λn m=>oW mE n m (l,t,ln l) (i:Int)) (Su (λh=>∃u,l[h.toNat]?=some u/\0<=h/\mH u=mH t) λ_=>∀u∈l,mH u≠mH t):=
 bN (aC (λh=>by
  have hlt:i<l.length:=by have:=Zl h;unfold ln at this;omega
  have e1:eM l l.length (i:Int)=some l[i]:=by rw[eY hlt];exact Zb hlt
  have e2:idx l (i:Int)=some l[i]:=by rw[bP];exact Zb hlt
  rw[bV (by omega)]
  exact aE e1 (aE e2 (aD (aRo t l[i]) λr hr=>aC (λk=>aA ⟨l[i],by simp,by omega,hr.1 k⟩) λk=>aLf l hl t (i+1) (hu.step (Zb hlt) λe=>by rw[hr.2 e] at k;cases k)))) λh=>aA (hu.fin (by have:=Zp h;unfold ln at this;omega)))
termination_by l.length-i
theorem aRp(l:List aY)(hl:l.length<=256)(t:aY): aB (λn _=>Ck n (l,t)) λh=>(0<=h/\∃u,l[h.toNat]?=some u/\mH u=mH t)\/(h=-1/\∀u∈l,mH u≠mH t):=
 aT (aO (aU (aLf l hl t 0 .nil)) (λh ⟨u,a,b,c⟩=>aA (.inl ⟨b,u,a,c⟩)) λ_ h=>aE rfl (aA (.inr ⟨rfl,h⟩)))
theorem aBH(l:List aY)(hl:l.length<=256)(hg:l.Pairwise gK)(t:aY)(f g:Nat)(h1:f<=g)(h2:g<=l.length)(lo:∀j u,j<f->l[j]?=some u->gK u t)(hi:∀j u,g<=j->l[j]?=some u->¬gK u t):
 aB (λn m=>qC kU n m (l,t) ((f:Int),(g:Int))) λr=>∃p:Nat,r=(p:Int)/\p<=l.length/\(∀u∈l.take p,gK u t)/\∀u∈l.drop p,¬gK u t:=by
 refine cA (aC (λh=>?_) λh=>aA ⟨f,rfl,by omega,λu hu=>?_,λu hu=>?_⟩)
 .have h:(f:Int)<(g:Int):=Zl h
  have hm:(f+g) / 2<l.length:=by omega
  have asc:∀(i j:Nat) (a b:aY),i<j->l[i]?=some a->l[j]?=some b->gK a b:=λi j a b hij ha hb=>by
   obtain⟨x,rfl⟩:=Ze.1 ha
   obtain⟨y,rfl⟩:=Ze.1 hb
   exact List.pairwise_iff_getElem.1 hg _ _ x y hij
  rw[aEi f g (by omega)]
  refine aE (by rw[eY hm];exact Zb hm) (aE (x:=l[(f+g) / 2]) (by rw[bP];exact Zb hm) (aD (Tu _ t) λr hr=>aC (λb=>?_) λb=>?_))
  .have b:gK l[(f+g) / 2] t:=(LW _ _).1 (by rw[<-hr];exact Zl b)
   rw[bV (by omega)]
   refine aBH l hl hg t ((f+g) / 2+1) g (by omega) h2 (λj u hj hu=>?_) hi
   rcases ZI j ((f+g) / 2) with hj2 | hj2
   .exact JS (asc _ _ _ _ hj2 hu (Zb hm)) b
   .have:j=(f+g) / 2:=by omega
    subst this
    rw[Zb hm] at hu;cases hu;exact b
  .have b:¬gK l[(f+g) / 2] t:=λk=>(Zp b) (by rw[hr];exact (LW _ _).2 k)
   refine aBH l hl hg t f ((f+g) / 2) (by omega) (by omega) lo λj u hj hu=>?_
   rcases ZI ((f+g) / 2) j with hj2 | hj2
   .exact λk=>b (JS (asc _ _ _ _ hj2 (Zb hm) hu) k)
   .have:j=(f+g) / 2:=by omega
    subst this
    rw[Zb hm] at hu;cases hu;exact b
 .obtain⟨j,hj⟩:=Yi.1 hu
  have hjf:j<f:=by
   have:=(Ze.1 hj).1;rw[ZH] at this;omega
  exact lo j u hjf (by rw[Zs,Zu hjf] at hj;exact hj)
 .obtain⟨j,hj⟩:=Yi.1 hu
  rw[Zw] at hj
  have:=Zp h
  exact hi (f+j) u (by omega) hj
termination_by g-f
theorem Bf.key{l:List aY}(h:Bf l){a b:aY}(ha:a∈l)(hb:b∈l)(e:mH a=mH b): a=b:=by
 obtain⟨i,hi,rfl⟩:=Xs.1 ha
 obtain⟨j,hj,rfl⟩:=Xs.1 hb
 rcases Nat.lt_trichotomy i j with k | k | k
 .exact absurd e (List.pairwise_iff_getElem.1 h.k _ _ hi hj k)
 .subst k;rfl
 .exact absurd e.symm (List.pairwise_iff_getElem.1 h.k _ _ hj hi k)
theorem aOb(l:List aY)(hl:l.length<=256)(hg:l.Pairwise gK)(t:aY): aB (λn _=>yU n (l,t)) λr=>∃p:Nat,r.1=(p:Int)/\p<=l.length/\(∀u∈l.take p,gK u t)/\∀u∈l.drop p,¬gK u t:=by
 refine aT (aD (aU (aBH l hl hg t 0 l.length (by omega) (Zf _) (λj u hj=>by omega) λj u hj hu=>by have:=(Ze.1 hu).1;omega)) λr hr=>?_)
 obtain⟨p,e,h1,h2,h3⟩:=hr
 subst e
 refine aD (f:=λn _=>yT n (l,t,ln l,(p:Int))) (Q:=λ_=>True) (aC (λh=>?_) λ_=>aA trivial) λr _=>aC (λ_=>aA ⟨p,rfl,h1,h2,h3⟩) λ_=>aA ⟨p,rfl,h1,h2,h3⟩
 have hlt:p<l.length:=by have:=Zl h;unfold ln at this;omega
 exact aE (by rw[eY hlt];exact Zb hlt) (aE (x:=l[p]) (by rw[bP];exact Zb hlt) (aD (Tu _ t) λ_ _=>aC (λ_=>aA trivial) λ_=>aA trivial))
theorem aOc(l:List aY)(hl:l.length<=255)(hg:Bf l)(x:Int)(t:aY)(ht:lD t)(hc:aF2 t 0)(hk:∀u∈l,mH u≠mH t): aB (λn _=>yV n (l,x,t)) λr=>Bf r.1/\r.1.length<=256/\∀u,u∈r.1↔u∈l\/u=t:=by
 refine aT (aD (aOb l (by omega) hg.l t) λf hf=>?_)
 obtain⟨p,e,h1,h2,h3⟩:=hf
 have fin:Bf (l.take p++t::l.drop p)/\(l.take p++t::l.drop p).length<=256/\∀u,u∈l.take p++t::l.drop p↔u∈l\/u=t:=by
  refine⟨hg.ins hc hk h2 h3,by simp;omega,λu=>?_⟩
  have:u∈l↔u∈l.take p\/u∈l.drop p:=by rw[<-ZD,YT]
  rw[ZD,ZN,this]
  exact⟨λh=>h.elim (λh=>.inl (.inl h)) λh=>h.elim .inr λh=>.inl (.inr h),λh=>h.elim (λh=>h.elim .inl λh=>.inr (.inr h)) λh=>.inr (.inl h)⟩
 have ins:VN l f.1 t=some (l.take p++t::l.drop p):=by
  rw[e,m9 (by omega) (by omega) (by omega)];rfl
 refine aC (λ_=>aD (aHV t ht) λg hg'=>?_) λ_=>aD (aHV t ht) λg hg'=>?_
 .subst hg';exact aT (aE ins (aA fin))
 .subst hg';exact aT (aE ins (aA fin))
theorem aRm(l:List aY)(hl:l.length<=256)(hs:∀u∈l,lD u)(x:Int)(t:aY)(h:Int)(hh:0<=h->h.toNat<l.length): aB (λn _=>Ch n (l,x,t,h)) λr=>r=true↔0<=h/\l[h.toNat]?=some t:=by
 refine aC (λb=>?_) λb=>aA ⟨by simp,λ⟨k,_⟩=>absurd k (Zp b)⟩
 have h0:0<=h:=Zl b
 have hlt:=hh h0
 obtain⟨p,rfl⟩:∃p:Nat,h=(p:Int):=⟨h.toNat,by omega⟩
 rw[YA] at hlt |-
 refine aE (by rw[eY hlt];exact Zb hlt) (aE (x:=l[p]) (by rw[bP];exact Zb hlt) (aD (aUy _ t (hs _ (ZP hlt))) λr hr=>aC (λk=>aA ⟨λ_=>⟨h0,by rw[Zb hlt,hr.1 k]⟩,λ_=>rfl⟩) λk=>aA ⟨by simp,λ⟨_,e⟩=>?_⟩))
 rw[Zb hlt] at e
 rw[hr.2 (ZR e)] at k;cases k
theorem aRq(l:List aY)(hl:l.length<=256)(hg:Bf l)(hs:∀u∈l,lD u)(x:Int)(t:aY)(ht:lD t): aB (λn _=>Cl n (l,x,t)) (Su (λm=>(m=0/\t∈l)\/(m≠0/\t∉l)) λr=>Bf r.1/\r.1.length<=256/\∀u,u∈r.1↔u∈l\/u=t):=by
 obtain⟨v,_,hv⟩:=(aFD t).val
 refine aT (aD hv λc hc=>?_)
 subst hc
 refine aC (λb=>aA (show (c=0/\t∈l)\/(c≠0/\t∉l) from .inr ⟨by simpa using b,λk=>absurd ((hg.c t k).uniq hv).symm (by simpa using b)⟩)) λb=>?_
 have hc0:c=0:=by simpa using b
 subst hc0
 refine aD (aRp l hl t) λh hh=>aD (aRm l hl hs x t h λh0=>?_) λi hi=>aC (λk=>?_) λk=>?_
 .rcases hh with⟨_,u,hu,_⟩ | ⟨e,_⟩
  .exact (Ze.1 hu).1
  .omega
 .exact aA (show ((0:Int)=0/\t∈l)\/((0:Int)≠0/\t∉l) from .inl ⟨rfl,Zg (hi.1 k).2⟩)
 .rcases hh with⟨h0,u,hu,ek⟩ | ⟨e,hno⟩
  .have nt:t∉l:=λm=>by
    have:=hg.key (Zg hu) m ek
    subst this
    rw[hi.2 ⟨h0,hu⟩] at k;cases k
   exact aC (λ_=>aA (show ((16:Int)=0/\t∈l)\/((16:Int)≠0/\t∉l) from .inr ⟨by simp,nt⟩)) λb=>absurd h0 (Zp b)
  .refine aC (λb=>absurd (show h>=0 from Zl b) (by omega)) λ_=>aC (λ_=>aA (show ((3:Int)=0/\t∈l)\/((3:Int)≠0/\t∉l) from .inr ⟨by simp,λm=>hno t m rfl⟩)) λb=>?_
   have:=Zp b
   unfold ln at this
   exact aD (aOc l (by omega) hg x t ht hv hno) λr hr=>aA hr
theorem aFS(x y:Int)(l:List aY)(hl:l.length<=100000)(ht:∀t∈l,lD t)(i:Nat)(k:List aY)(hk:k.length<=256)(hg:Bf k)(hs:∀u∈k,lD u): aB (λn m=>oW mF n m (x,y,l,ln l) (k,(i:Int))) (Su (λe=>e.2.2.2≠0/\¬∀t∈l.drop i,t∈k) λr=>Bf r/\r.length<=256/\(∀u,u∈r↔u∈k\/u∈l.drop i)/\∀u∈r,lD u):=
 bN (bD (λt htl hlt=>by
  have htt:=ht t (Zg htl)
  have ed:l.drop i=t::l.drop (i+1):=by
   rw[XH hlt]
   rw[Zb hlt] at htl;rw[ZR htl]
  rw[bV (by omega)]
  refine aO (aRq k hk hg hs y t htt) (λm hm=>aC (λb=>aA ⟨by simpa using b,λa=>?_⟩) λb=>?_) λr hr=>aE rfl ?_
  .rcases hm with⟨e,_⟩ | ⟨_,e⟩
   .rw[e] at b;simp at b
   .exact e (a t (by rw[ed];exact ZM))
  .rcases hm with⟨_,e⟩ | ⟨e,_⟩
   .refine (aFS x y l hl ht (i+1) k hk hg hs).imp λr hr=>?_
    cases r with
    | inl r=>exact⟨hr.1,λa=>hr.2 λu hu=>a u (by rw[ed];exact ZQ _ hu)⟩
    | inr r=>exact⟨hr.1,hr.2.1,λu=>by rw[hr.2.2.1 u,ed,ZN];exact⟨λh=>h.elim .inl λh=>.inr (.inr h),λh=>h.elim .inl λh=>h.elim (λh=>.inl (h▸e)) .inr⟩,hr.2.2.2⟩
   .exact absurd (by simpa using b) e
  .have hs':∀u∈r.1,lD u:=λu hu=>((hr.2.2 u).1 hu).elim (hs u) λe=>e▸htt
   refine (aFS x y l hl ht (i+1) r.1 hr.2.1 hr.1 hs').imp λq hq=>?_
   cases q with
   | inl q=>exact⟨hq.1,λa=>hq.2 λu hu=>(hr.2.2 u).2 (.inl (a u (by rw[ed];exact ZQ _ hu)))⟩
   | inr q=>exact⟨hq.1,hq.2.1,λu=>by rw[hq.2.2.1 u,hr.2.2 u,ed,ZN];constructor<;>intro h<;>simp only[or_assoc] at h |-<;>exact h,hq.2.2.2⟩) λhge=>aA ⟨hg,hk,λu=>by rw[Xo hge];simp,hs⟩)
termination_by l.length-i
theorem aQ7(x:Int)(l:List aY)(hl:l.length<=256)(hs:∀t∈l,lD t)(i:Nat)(k:List aY)(hk:k=l.take i): aB (λn m=>qC fZ n m (x,l,ln l) (k,(i:Int))) λr=>r=l:=
 cA (bD (λt ht hlt=>by
  rw[bV (by omega)]
  refine aD (aHV t (hs t (Zg ht))) λu hu=>?_
  subst hu
  exact aE (Sq (by rw[hk];simp;omega)) (aQ7 x l hl hs (i+1) _ (by rw[hk,YX,ht];rfl))) λhge=>aA (by rw[hk,ZW hge]))
termination_by l.length-i
theorem SH(o:bK)(l:List aY)(hl:l.length<=100000)(hs:∀t∈o.Txns,lD t)(ht:∀t∈l,lD t): aB (λn _=>gA n o l) λr=>(r.2=0/\aFx o/\aFx r.1/\r.1.ID=o.ID/\(∀u,u∈r.1.Txns↔u∈o.Txns\/u∈l)/\∀u∈r.1.Txns,lD u)\/(r.2≠0/\r.1=⟨0,[]⟩/\¬(aFx o/\∀t∈l,t∈o.Txns)):=by
 refine aS (λ_=>rfl) (aD (i6 o) λb hb=>aC (λh=>?_) λh=>aA (.inr ⟨by simp,rfl,λk=>by rw[hb.2 k.1] at h;cases h⟩))
 have hk:=hb.1 h
 refine aD (f:=λn _=>yW n o) (Q:=λd=>d=(o.Txns,o.ID,o.ID)) (aT (aD (aU (aQ7 o.ID o.Txns hk.n hs 0 [] rfl)) λc hc=>aA (by rw[hc]))) λd hd=>?_
 subst hd
 refine aO (aU (aFS o.ID o.ID l hl ht 0 o.Txns hk.n hk.g.gl hs)) (λe he=>aA (.inr ⟨he.1,rfl,λk=>he.2 (by rw[YD];exact k.2)⟩)) λg hg=>aE rfl (aA (.inl ⟨rfl,hk,⟨hk.a,hk.b,hg.2.1,hg.1.good⟩,rfl,λu=>by rw[hg.2.2.1 u,YD],hg.2.2.2⟩))
section
theorem aPA{x y:bK}(e:x.Txns=y.Txns)(hx:aFx x)(hy:aFx y){r s:eK×List aY×Int}(h:aB (λn _=>dX n x) λv=>v=r)(k:aB (λn _=>dX n y) λv=>v=s): r=s:=by
 obtain⟨i,l⟩:=x
 obtain⟨j,m⟩:=y
 obtain rfl:l=m:=e
 obtain⟨_,rfl,K,h⟩:=h
 obtain⟨_,rfl,J,k⟩:=k
 obtain⟨b,hb,A,ha⟩:=i6 ⟨i,l⟩
 obtain⟨c,hc,B,hd⟩:=i6 ⟨j,l⟩
 obtain rfl:b=true:=hb.2 hx
 obtain rfl:c=true:=hc.2 hy
 have h1:dX (K+J+A+B+1) ⟨i,l⟩=_:=h (K+J+A+B+1) (K+J+A+B+1) (by omega) (by omega)
 have k1:dX (K+J+A+B+1) ⟨j,l⟩=_:=k (K+J+A+B+1) (K+J+A+B+1) (by omega) (by omega)
 have a1:fL (K+J+A+B) ⟨i,l⟩=some true:=ha (K+J+A+B) (K+J+A+B) (by omega) (by omega)
 have c1:fL (K+J+A+B) ⟨j,l⟩=some true:=hd (K+J+A+B) (K+J+A+B) (by omega) (by omega)
 have:dX (K+J+A+B+1) ⟨i,l⟩=dX (K+J+A+B+1) ⟨j,l⟩:=by
  show bnd (fL (K+J+A+B) ⟨i,l⟩) _=bnd (fL (K+J+A+B) ⟨j,l⟩) _
  rw[a1,c1]
 rw[h1,k1] at this
 exact ZR this
theorem aK5(a b:List aY)(c:∀t∈a,lD t)(d:a.length=b.length)(k:a.length<=100000)(i:Nat)(f:a.take i=b.take i): aB (λn m=>oW qV n m (a,b) (i:Int)) (Q2 a b):=
 bN (rq d k f (t:=λn _ x y=>Eg n x y) (λx g y=>aW7 x y (c x g)) λh e=>by
  rw[bV (by omega)];exact aK5 a b c d k (i+1) h)
termination_by a.length-i
theorem aTJ(a b:List aY)(c:∀t∈a,lD t)(k:a.length<=100000): Iq (λn _=>fO n a b) a b:=aS (λ_=>rfl) (eqW λd=>aU (aK5 a b c d k 0 rfl))
variable {α:Type}{a m o:List α}
theorem vK.inv{x:α}(h:vK (x::o) a m): (∃c,a=x::c/\vK o c m)\/∃c,m=x::c/\vK o a c:=by
 cases h with
 | acc _ _ c _ h=>exact .inl ⟨c,rfl,h⟩
 | rej _ _ _ c h=>exact .inr ⟨c,rfl,h⟩
theorem vK.len(h:vK o a m): a.length+m.length=o.length:=by
 induction h with
 | nil=>rfl
 | acc x o a r _ ih=>simp;omega
 | rej x o a r _ ih=>simp;omega
theorem vK.memR{r:List α}(h:vK o a r): ∀x∈r,x∈o:=by
 induction h with
 | nil=>exact λx hx=>hx
 | acc x o a r _ ih=>exact λy hy=>ZQ _ (ih y hy)
 | rej x o a r _ ih=>intro y hy;rcases ZN.1 hy with e | e;exact e▸ZM;exact ZQ _ (ih y e)
end
section
variable {f:Nat->Nat->Option Bool}
theorem aCK(h:aB f λr=>r=true): aB (λn m=>bnd (f n m) λd=>cnd d (some true) (some false)) λr=>r=true:=
 aD h λr a=>aC (λ_=>aA rfl) λh=>by rw[show r=true from a] at h;cases h
theorem awk{α:Type}{P:α->Prop}{x y:Nat->Nat->Option α}(aw:aB f λr=>r=true)(h:aB x P): aB (λn m=>bnd (f n m) λd=>cnd d (x n m) (y n m)) P:=
 aD aw λr a=>aC (λ_=>h) λh=>by rw[show r=true from a] at h;cases h
section
variable (aw:aB (λn _=>pC n) λr=>r=true)
include aw
end
end
theorem aMR: ∀n,pC (n+100)=some true:=by intro n;kernel_rfl
theorem aP2: aB (λn _=>pC n) λr=>r=true:=⟨true,rfl,100,λn m a _=>by
 obtain⟨k,rfl⟩:∃k,n=k+100:=⟨n-100,by omega⟩
 exact aMR k⟩
theorem aVh{l:List aY}(h:l.length<=1000): app ([]:List aY) l=some l:=tJ (l:=[]) (m:=l) (by simp;omega)
theorem aHn(a:List aY)(c:∀t∈a,lD t)(k:a.length<=100000): aB (λn _=>fO n a a) λr=>r=true:=(aTJ a a c k).imp λr e=>e.2 rfl
theorem aNX(a:eK)(h:aFr a)(k:a.Txns.length<=100000): aB (λn _=>MG n a a) λr=>r=true:=
 aS (λ_=>rfl) (aCK (f:=λn _=>UG n (a,a)) (awk ((aXd a.Survey a.Survey h.s).imp λr e=>e.2 rfl) (aCK (aHn a.Txns h.t k))))
theorem aOt(a:bK)(h:∀t∈a.Txns,lD t)(k:a.Txns.length<=100000): aB (λn _=>O3 n a a) λr=>r=true:=
 aS (λ_=>rfl) (aCK (f:=λn _=>UF n (a,a)) (aC (λ_=>aCK (aHn a.Txns h k)) λk=>by simp at k))
section
variable (aw:aB (λn _=>pC n) λr=>r=true)
include aw
theorem aUW(x y:bK)(h:x.Txns=[]\/y.Txns=[]): aB (λn _=>eJ n (x,y)) λr=>r=true:=
 awk aw (aC (λ_=>aA rfl) λk=>by
  have e:ln x.Txns*ln y.Txns=0:=by rcases h with h | h<;>rw[h]<;>simp[ln]
  rw[e] at k;exact absurd k (by decide))
theorem aSQ(a b:bK)(l m:List aY): aB (λn _=>iE n a b l m) λr=>r=true:=by
 refine aS (λ_=>rfl) (aD (f:=λn _=>qT n (a,b,l,m)) (Q:=λr=>r=false->a.Txns=[]/\b.Txns=[]/\(l.length<=14/\∀t∈l,lD t)/\(m.length<=14/\∀t∈m,lD t)) ?_ λc hc=>aC (λ_=>aCK aw) λh=>?_)
 .refine aC (λ_=>aA (by simp)) λ_=>aC (λ_=>aA (by simp)) λ_=>aD (aAv l) λu hu=>aC (λe=>aD (aAv m) λv hv=>aC (λf=>aC (λ_=>aA (by simp)) λg=>aC (λ_=>aA (by simp)) λk=>aA λ_=>⟨?_,?_,hu e,hv f⟩) λ_=>aA (by simp)) λ_=>aA (by simp)
  .have g:=Zp g;unfold ln at g;exact YO (by omega)
  .have k:=Zp k;unfold ln at k;exact YO (by omega)
 .obtain⟨ha,hb,⟨l1,l2⟩,m1,m2⟩:=hc h
  have sm:∀u:List aY,(∀t,t∈u↔t∈l\/t∈m)->∀t∈u,lD t:=λu hu t ht=>((hu t).1 ht).elim (l2 t) (m2 t)
  refine aE (aVh (by omega)) (aE (tJ (by omega)) ?_)
  have hu:∀t,t∈l++m↔t∈l\/t∈m:=λt=>ZD
  have hv:∀t,t∈m++l++m↔t∈l\/t∈m:=λt=>by simp only[ZD];exact⟨λh=>h.elim (λh=>h.elim .inr .inl) .inr,λh=>h.elim (λh=>.inl (.inr h)) .inr⟩
  refine aD (SH a (l++m) (by rw[Zh];omega) (by rw[ha];simp) (sm _ hu)) λx hx=>aE (aVh (by omega)) (aE (tJ (by omega)) (aE (tJ (by rw[Zh];omega)) (aD (SH b (m++l++m) (by simp only[Zh];omega) (by rw[hb];simp) (sm _ hv)) λy hy=>?_)))
  rcases hx with⟨x0,xa,x1,xi,xm,xs⟩ | ⟨x0,x1,_⟩
  case inr=>exact aC (λ_=>aCK (f:=λn _=>eJ n (x.1,y.1)) (aUW aw _ _ (.inl (by rw[x1])))) λk=>absurd (by simpa using k) x0
  refine aC (λk=>by rw[x0] at k;simp at k) λ_=>?_
  rcases hy with⟨y0,yb,y1,yi,ym,ys⟩ | ⟨y0,y1,_⟩
  case inr=>exact aC (λ_=>aCK (f:=λn _=>eJ n (x.1,y.1)) (aUW aw _ _ (.inr (by rw[y1])))) λk=>absurd (by simpa using k) y0
  refine aC (λk=>by rw[y0] at k;simp at k) λ_=>?_
  have e:x.1.Txns=y.1.Txns:=aCN x1.g.gl.l y1.g.gl.l λt=>by rw[xm t,ym t,ha,hb,hu t,hv t]
  obtain⟨r,hr,rT⟩:=(aIP x.1 xs).val
  obtain⟨s,hs,sT⟩:=(aIP y.1 ys).val
  have rs:r=s:=aPA e x1 y1 rT sT
  subst rs
  refine aD rT λw hw=>aD sT λz hz=>?_
  subst hw;subst hz
  rcases hr with⟨r0,_,rp,_,ro⟩ | ⟨_,k,_⟩
  case inr=>exact absurd x1 k
  have e3:=rp.len
  have xn:=x1.n
  refine aD (f:=λn _=>qS n (x.1,y.1,z.1,z.1,z.2.1,z.2.2,z.2.1,z.2.2)) (Q:=λq=>q=false) ?_ λq hq=>aC (λk=>by rw[show q=false from hq] at k;cases k) λ_=>?_
  .exact awk (show aB (λn _=>fO n x.1.Txns y.1.Txns) (λr=>r=true) from e▸aHn x.1.Txns xs (by omega)) (aC (λk=>by rw[r0] at k;simp at k) λ_=>aC (λk=>by rw[r0] at k;simp at k) λ_=>awk (aNX z.1 ro (by omega)) (awk (aHn z.2.1 (λt ht=>xs t (rp.memR t ht)) (by omega)) (aA rfl)))
  .have inl:∀t∈l,t∈x.1.Txns:=λt ht=>(xm t).2 (.inr ((hu t).2 (.inl ht)))
   refine aD (SH x.1 l (by omega) xs l2) λg hg=>?_
   rcases hg with⟨g0,_,g1,gi,gm,gs⟩ | ⟨_,_,k⟩
   case inr=>exact absurd ⟨x1,inl⟩ k
   have ge:g.1.Txns=x.1.Txns:=aCN g1.g.gl.l x1.g.gl.l λt=>by rw[gm t];exact⟨λh=>h.elim id (inl t),.inl⟩
   have gx:g.1=x.1:=by
    obtain⟨⟨p,q⟩,e⟩:=g
    obtain⟨⟨p',q'⟩,e'⟩:=x
    simp only at gi ge |-
    rw[gi,ge]
   refine aCK (f:=λn _=>qR n (x.1,g.1,g.2)) (awk aw (aC (λ_=>?_) λk=>by rw[g0] at k;simp at k))
   rw[gx]
   exact aCK (aOt x.1 xs (by omega))
end
section
open Go.Proofs
theorem aKL{P:Program}{n:Nat}{t0 t1 t2 t3:TypeId}{c:List AV}(h:Sy P n [t0,t1,t2,t3] c): ∃x0 x1 x2 x3,c=[x0,x1,x2,x3]/\(∃ys,rG P n t0 ys/\x0=CI P t0 ys)/\(∃ys,rG P n t1 ys/\x1=CI P t1 ys)/\(∃ys,rG P n t2 ys/\x2=CI P t2 ys)/\(∃ys,rG P n t3 ys/\x3=CI P t3 ys):=
 match c,h with
 | [x0,x1,x2,x3],⟨h0,h1,h2,h3,_⟩=>⟨x0,x1,x2,x3,rfl,h0,h1,h2,h3⟩
theorem aS6: rE.c=⟨[.v 7,.v 7,.v 6,.v 6],[4],false,λn p=>iE n p.1 p.2.1 p.2.2.1 p.2.2.2⟩:=by kernel_rfl
theorem aPj(b:List AV)(h:Sy PP 10 [24,24,22,22] b): ∃k H',fH PP T k 0 0 b []=some (.lit<|.bool true,H'):=by
 obtain⟨x0,x1,x2,x3,rfl,h0,h1,h2,h3⟩:=aKL h
 let⟨a0,q0,l0⟩:=o9 (k:=7) (H:=[]) (by kernel_rfl) (by kernel_rfl) (.inl<|by kernel_rfl) h0
 let⟨a1,q1,l1⟩:=o9 (k:=7) (H:=[]) (by kernel_rfl) (by kernel_rfl) (.inl<|by kernel_rfl) h1
 let⟨a2,q2,l2⟩:=o9 (k:=6) (H:=[]) (by kernel_rfl) (by kernel_rfl) (.inr ⟨_,rfl⟩) h2
 let⟨a3,q3,l3⟩:=o9 (k:=6) (H:=[]) (by kernel_rfl) (by kernel_rfl) (.inr ⟨_,rfl⟩) h3
 let⟨r,l,n,f⟩:=aSQ aP2 a0 a1 a2 a3;subst l
 have i:FOK PP T 0 ⟨[.v 7,.v 7,.v 6,.v 6],[4],false,λn p=>iE n p.1 p.2.1 p.2.2.1 p.2.2.2⟩:=aS6▸rE.ok
 exact aOZ i (n:=n) (p:=(a0,a1,a2,a3)) (r:=true) (f n n (Zf _)<|Zf _) rfl ⟨q0,q1,q2,q3,trivial⟩
theorem aEW(os:Os)(started:os.Started)(H:Type)(enc:TypeId×Value->H):
 ReturnsInHanded {} Tryz.checked os 3 .any (λw args=>(Rows.officeConvergesSpec.pre enc Tryz.prog Tryz.f3 [] false w args/\laidMetH Tryz.prog Rows.officeConvergesRow.laid w)/\sizedMet enc Tryz.prog Tryz.f3 (OpenSpec.ofChange Rows.officeConvergesSpec) false w args)
  (Rows.officeConvergesSpec.post enc Tryz.prog Tryz.f3 false true false false):=by
 refine T9 (C:=Tryz.checked) (X:=λw _=>laidMetH Tryz.prog Rows.officeConvergesRow.laid w) (λ_ _ _ hh h=>h.of_heap hh) own started (by kernel_rfl) Tryz.func3
  (ChangeSpec.witness_shaped (enc:=enc) (C:=Tryz.checked) (os:=os) (X:=λw _=>laidMetH Tryz.prog Rows.officeConvergesRow.laid w) false (World.laidAll Tryz.prog os Rows.officeConvergesRow.laid) #[.agg #[.int .i64 0,.slice none 0 0],.agg #[.int .i64 0,.slice none 0 0],.slice none 0 0,.slice none 0 0] 8 (World.laidAll_os _ _ _)
   (World.shaped_of_ZipB (by kernel_rfl) (by kernel_rfl)) (by kernel_rfl) (by kernel_rfl) (by kernel_rfl)
   (by rw[MakeChecks.laidMetH_plain _ _ _ (by kernel_rfl)];exact laidMet_laidAll _ (by kernel_rfl) (by kernel_rfl))) ?_
 intro W base args ds gs before hval hW hlaid hsh hwt
 have hds:∃d0 d1 d2 d3,ds=[d0,d1,d2,d3]/\gs=[]:=by
  obtain⟨p,q,hA,hV,_⟩:=hW
  have hA':DataW.TrodAll enc Tryz.prog W 0 (λ_=>true) true [24,24,22,22] args.toList ds p:=by
   have:=hA
   rw[Tryz.params3] at this
   exact this
  obtain⟨v0,vs0,d0,ds0,p0,q0,_,rfl,rfl,h0,r0⟩:=ChangeShapes.trodAll_cons hA'
  obtain⟨v1,vs1,d1,ds1,p1,q1,_,rfl,rfl,h1,r1⟩:=ChangeShapes.trodAll_cons r0
  obtain⟨v2,vs2,d2,ds2,p2,q2,_,rfl,rfl,h2,r2⟩:=ChangeShapes.trodAll_cons r1
  obtain⟨v3,vs3,d3,ds3,p3,q3,_,rfl,rfl,h3,r3⟩:=ChangeShapes.trodAll_cons r2
  obtain⟨rfl,rfl,rfl⟩:=ChangeShapes.trodAll_nil r3
  obtain⟨rfl,rfl⟩:=ChangeShapes.trodVars_none hV
  exact⟨_,_,_,_,rfl,rfl⟩
 obtain⟨d0,d1,d2,d3,rfl,rfl⟩:=hds
 refine aCm (T:=T) (n:=10) (vi:=0) mixed checked aOh (by kernel_rfl) rfl (tb:=4) (by kernel_rfl) (by kernel_rfl) laid (by rw[Tryz.params3];intro t ht;simp at ht;rcases ht with rfl | rfl<;>exact⟨by kernel_rfl,Zl (by kernel_rfl)⟩) (by kernel_rfl) ?_ (aMl hlaid hsh) ⟨rfl,rfl,rfl⟩ hval hW ?_
 .intro xs hxs
  rw[Tryz.params3] at hxs
  exact aPj xs hxs
 .intro n hn
  have:=Yl.1 hwt n (by
   have e:Tryz.f3.params.toList++Rows.officeConvergesSpec.plain.varTypes Tryz.prog=Tryz.f3.params.toList:=Wo _
   show n∈DataW.weightsEach Tryz.prog (Tryz.f3.params.toList++Rows.officeConvergesSpec.plain.varTypes Tryz.prog) ([d0,d1,d2,d3]++[])
   rw[e,Wo];exact hn)
  simpa using this
theorem aJO: Rows.OfficeConvergesSaid:=
 OpenClaim.holds_of_wide 3 Tryz.f3 rfl rfl rfl rfl rfl rfl rfl ⟨rfl,rfl,rfl,rfl,rfl⟩ rfl rfl rfl rfl rfl (by kernel_rfl) Tryz.func3 aJT
  (Zl (by kernel_rfl)) (by unfold Func.isWrapper;first | (rw[Zu (by decide +kernel)];kernel_rfl) | (rw[ZF (by decide +kernel)];exact⟨rfl,rfl⟩))
  (λos started H enc _=>aEW os started H enc)
theorem conv_card: Rows.OfficeConvergesCardSaid:=
 Claim7.holds_tied_plain_at .later [] [.data] true (true,"451d81400f80a4f832c83695bab2ea4e8798ef44fb34a86d3cb7aa3e7be56805") false
  aJO (λ_ h=>by cases h) aU6 (λ_ h=>by cases h) officeConverges_row_tie rfl ⟨rfl,rfl⟩ aU7 rfl
  (λf fn hf hfn=>by
   obtain rfl:f=3:=ZR (aUA.symm.trans hf) |>.symm
   obtain rfl:fn=Tryz.f3:=(ZR (Tryz.func3.symm.trans hfn)).symm
   exact⟨aU8,λj t ht=>by
    rw[Tryz.params3] at ht
    exact match j,ht with
    | 0,ht=>(by have e:24=t:=(by simpa using ht);subst e;exact aIh)
    | 1,ht=>(by have e:24=t:=(by simpa using ht);subst e;exact aIh)
    | 2,ht=>(by have e:22=t:=(by simpa using ht);subst e;exact aIi)
    | 3,ht=>(by have e:22=t:=(by simpa using ht);subst e;exact aIi)
    | n+4,ht=>(by simp at ht)⟩)
  aU9
end
end Go.Proofs.YtmcgghedgfkjiaaGreatDoor.Av
