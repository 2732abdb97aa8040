/- A part of the proof of a law. -/
import Derived.Test.YtabioopnpgiijaaGreatDoorP7
set_option maxRecDepth 100000
set_option maxHeartbeats 4000000
set_option linter.all false
namespace Go.Proofs.YtabioopnpgiijaaGreatDoor.Av
open Go
section
variable {R:Type}(n:Nat)
noncomputable section
def JN(n:Nat): (aK×Int)->((Bool->Option R)×Unit)->Unit->Option R:=λ(a,b) (c,_) _=>cd ((ln a.Nodes) > b) (c true)<|cd ((ln a.Arcs) > b) (c true)<|cd ((ln a.Faces) > b) (c true)<|c false
def B5:=eU JN
def aAV: Lc 28 0 0:=bG 0x7183e316d564efaacf17582889 C0 [] [] @JN
def JM(n:Nat): (aK×Int×Int×Int)->((Bool->Option R)×Unit)->Unit->Option R:=λ(a,b,c,d) (f,_) _=>cd (d<(ln a.Arcs)) (cd (c<=b) (f true)<|f false)<|f false
def B3:=eU JM
def aAU: Lc 28 0 2:=bG 0x1182cf7243fc88395dcaada54f18e942887 C0 [] [] @JM
def Jo: (aK×Int)->((Int×Int)->Option R)->((Int->Option R)×Unit)->(Int×Int)->Option R:=λ(a,b) c (d,_) (f,g)=>bnd (B3 n (a,b,f,g)) λh=>cnd h (bnd (idx a.Arcs g) λi=>c ((wr<|f+(pO (ln i.Via)<|wr<|b+1)),(wr<|g+1)))<|d f
def aEL:=rG Jo
def aAW: Lc 28 0 1:=bQ 0xdc29a19823d59083b3b6e47 C0 [⟨0,[cs aAU]⟩] [] @Jo
def aAX: Nat->aK->Int->Option Bool
 | 0,_,_=>none
 | n+1,a,b=>bnd (B5 n (a,b)) λc=>cnd c (some false)<|bnd (aEL n (a,b) (0,0)) λd=>cd (d<=b) (some true)<|some false
def aHS: Kn:=bH 28 0x748581 C0 [⟨0,[aAV]⟩,⟨1,[aAW]⟩] [] aAX
abbrev C1:=aHS::C0
def JK: (aJ×Int)->((Bool->Option R)×Unit)->Unit->Option R:=λ(a,b) (c,_) _=>bnd (aAX n a.Plan b) λd=>cnd d (cd ((ln a.Features) > b) (c true)<|c false)<|c true
def A9:=eU JK
def aAR: Lc 9 0 0:=bG 0x4f0a14dea608c48785a00828ff389 C1 [] [] @JK
def JJ(n:Nat): (aJ×Int×Int×Int)->((Bool->Option R)×Unit)->Unit->Option R:=λ(a,b,c,d) (f,_) _=>cd (d<(ln a.Features)) (cd (c<=b) (f true)<|f false)<|f false
def A8:=eU JJ
def aAQ: Lc 9 0 2:=bG 0xc3154f14fd695d9e8ab5a94a3ae79493ed937 C1 [] [] @JJ
def Jn: (aJ×Int)->((Int×Int)->Option R)->((Int->Option R)×Unit)->(Int×Int)->Option R:=λ(a,b) c (d,_) (f,g)=>bnd (A8 n (a,b,f,g)) λh=>cnd h (bnd (idx a.Features g) λi=>c ((wr<|f+(pO (ln i.Parts)<|wr<|b+1)),(wr<|g+1)))<|d f
def aEI:=rG Jn
def aAS: Lc 9 0 1:=bQ 0x994bfcc42ef373dfb18b87a837 C1 [⟨0,[cs aAQ]⟩] [] @Jn
def aAT: Nat->aJ->Int->Option Bool
 | 0,_,_=>none
 | n+1,a,b=>bnd (A9 n (a,b)) λc=>cnd c (some false)<|bnd (aEI n (a,b) (0,0)) λd=>cd (d<=b) (some true)<|some false
def aHR: Kn:=bH 9 0x29e517 C1 [⟨0,[aAR]⟩,⟨1,[aAS]⟩] [] aAT
abbrev C2:=aHR::C1
def Da(n:Nat): (List aO×Int×Int×Int)->((Bool->Option R)×Unit)->Unit->Option R:=λ(a,b,c,d) (f,_) _=>cd (d<(ln a)) (cd (c<=b) (f true)<|f false)<|f false
def Lj:=eU Da
def JE: Lc 10 0 1:=bG 0x151de2797d12ce1386ad26e433f381409343daf74 C2 [] [] @Da
def qU: (List aO×Int)->((Int×Int)->Option R)->((Int->Option R)×Unit)->(Int×Int)->Option R:=λ(a,b) c (d,_) (f,g)=>bnd (Lj n (a,b,f,g)) λh=>cnd h (bnd (idx a g) λi=>bnd (idx a g) λj=>bnd (idx a g) λl=>c ((wr<|(wr<|(wr<|(wr<|f+1)+(pO (ln i.Via) b))+(pO (ln j.Parts) b))+(pO ((l.Name.size:Nat):Int) b)),(wr<|g+1)))<|d f
def SY:=rG qU
def JF: Lc 10 0 0:=bQ 0x1219f862e608e6c11cd2755ddfd80ab5b74 C2 [⟨0,[cs JE]⟩] [] @qU
def Jm: Nat->(List aO)->Int->Option Bool
 | 0,_,_=>none
 | n+1,a,b=>bnd (SY n (a,b) (0,0)) λc=>cd (c<=b) (some true)<|some false
def A5: Kn:=bH 10 0x511dc4fa8 C2 [⟨0,[JF]⟩] [] Jm
abbrev C3:=A5::C2
def UF: Nat->aJ->(List aO)->Option Bool
 | 0,_,_=>none
 | n+1,a,b=>bnd (aAT n a 60) λc=>cnd c (bnd (Jm n b 400) λd=>cnd d (some true)<|some false)<|some false
def aHP: Kn:=bH 2 0x272df3547 C3 [] [] UF
abbrev C4:=aHP::C3
def Jj: Nat->Int->Option (List aO)
 | 0,_=>none
 | n+1,a=>some [(aO.mk 1 1 0 0 0 (Aaa.mk 0 0) [] (⟨#[]⟩:ByteArray) []),(aO.mk 4 1 1 1 a (Aaa.mk 0 0) [(Aaa.mk 10 0),(Aaa.mk 10 10),(Aaa.mk 0 10)] (⟨#[]⟩:ByteArray) [])]
def aAL: Kn:=bH 11 0x62ea0ba05608972a9937 C4 [] [] Jj
abbrev C5:=aAL::C4
def qM: Nat->(List Aab)->Option (List Aab)
 | 0,_=>none
 | n+1,a=>bnd (rep (Aab.mk 0<|Aaa.mk 0 0) (ln a)<|ln a) λb=>bnd (cpy b (0,List.length b) a) λc=>bnd (Ls true) λ_=>some c
def OC: Kn:=bH 63 0x1bd532cf11cfeeab64 C5 [] [] qM
abbrev C6:=OC::C5
def mZ: Nat->(List aQ)->Option (List aQ)
 | 0,_=>none
 | n+1,a=>bnd (rep (aQ.mk 0 0 0 [] 0 0) (ln a)<|ln a) λb=>bnd (cpy b (0,List.length b) a) λc=>bnd (Ls true) λ_=>some c
def SB: Kn:=bH 64 0x27c54df5d0de3eec0376 C6 [] [] mZ
abbrev C7:=SB::C6
def bJ: Nat->(List Int)->Option (List Int)
 | 0,_=>none
 | n+1,a=>bnd (rep 0 (ln a)<|ln a) λb=>bnd (cpy b (0,List.length b) a) λc=>some c
def SA: Kn:=bH 36 0x2405f7d29f07 C7 [] [] bJ
abbrev C8:=SA::C7
def kF: Nat->(List aG)->Option (List aG)
 | 0,_=>none
 | n+1,a=>bnd (rep (aG.mk 0 0 0 (⟨#[]⟩:ByteArray) []) (ln a)<|ln a) λb=>bnd (cpy b (0,List.length b) a) λc=>bnd (Ls true) λ_=>some c
def Tw: Kn:=bH 65 0x27f91bb34c7b42a C8 [] [] kF
abbrev C9:=Tw::C8
def cH: Nat->(List Aaa)->Option (List Aaa)
 | 0,_=>none
 | n+1,a=>bnd (rep (Aaa.mk 0 0) (ln a)<|ln a) λb=>bnd (cpy b (0,List.length b) a) λc=>some c
def HV: Kn:=bH 35 0x33c98f1c99c5 C9 [] [] cH
abbrev C10:=HV::C9
def nD: (List Int×List Aab×List aG×Int)->((List aQ×Int)->Option R)->(((List aQ)->Option R)×Unit)->(List aQ×Int)->Option R:=λ(a,b,c,d) f (g,_) (h,i)=>cd (i<d) (bnd (gR h (List.length h) i) λ_=>bnd (idx h i) λj=>bnd (cH n j.Via) λl=>bnd (gR h (List.length h) i) λ_=>bnd (idx h i) λm=>f ((List.set h (Int.toNat i)<|aQ.mk m.ID m.From m.To l m.Left m.Right),(wr<|i+1)))<|g h
def Uo:=rG nD
def SF: Lc 29 0 0:=bQ 0x9632492366ce7c93ca9b4fbd5c2be3e52d591ad3d3fa6803a5b8c71c6aa46c2002b4f C10 [] [] @nD
def nC: (List Int×List Aab×List aQ×Int)->((List aG×Int)->Option R)->(((List aG)->Option R)×Unit)->(List aG×Int)->Option R:=λ(a,b,c,d) f (g,_) (h,i)=>cd (i<d) (bnd (gR h (List.length h) i) λ_=>bnd (idx h i) λj=>bnd (bJ n j.Parts) λl=>bnd (gR h (List.length h) i) λ_=>bnd (idx h i) λm=>f ((List.set h (Int.toNat i)<|aG.mk m.ID m.Kind m.Class m.Name l),(wr<|i+1)))<|g h
def Un:=rG nC
def SE: Lc 29 0 1:=bQ 0x206f1ed9d61e63c0358ebbe666c2b998c8ce129e22deb21206a124fb69943ab9fa2b15178ef C10 [] [] @nC
def t5: Nat->aJ->Option aJ
 | 0,_=>none
 | n+1,a=>bnd (qM n a.Plan.Nodes) λb=>bnd (mZ n a.Plan.Arcs) λc=>bnd (bJ n a.Plan.Faces) λd=>bnd (kF n a.Features) λf=>bnd (Uo n (d,b,f,(ln c)) (c,0)) λg=>bnd (Un n (d,b,g,(ln f)) (f,0)) λh=>some<|aJ.mk (aK.mk b g d) h
def aA6: Kn:=bH 29 0x12503d1b5758 C10 [⟨0,[SF]⟩,⟨1,[SE]⟩] [] t5
abbrev C11:=aA6::C10
def cM: Nat->Int->Option Int
 | 0,_=>none
 | n+1,a=>cnd (a==1) (some 1)<|cnd (a==2) (some 1)<|cnd (a==8) (some 1)<|cnd (a==3) (some 2)<|cnd (a==4) (some 2)<|cnd (a==5) (some 3)<|cnd (a==6) (some 3)<|cnd (a==7) (some 3)<|some 0
def RW: Kn:=bH 38 0x2e4a4a C11 [] [] cM
abbrev C12:=RW::C11
def Ck(n:Nat): Int->((Bool->Option R)×Unit)->Unit->Option R:=λa (b,_) _=>cnd (a==1) (b true)<|cnd (a==3) (b true)<|b false
def Kt:=eU Ck
def HX: Lc 39 0 1:=bG 0x4e869e465d3605a11f13b93099a77 C12 [] [] @Ck
def Cl: aO->((aO->Option R)×Unit)->Unit->Option R:=λa (b,_) _=>bnd (Kt n a.Kind) λc=>cnd c (b<|aO.mk a.Kind a.ID a.A a.B a.C (Aaa.mk 0 0) a.Via a.Name a.Parts)<|cnd (a.Kind==4) (b<|aO.mk a.Kind a.ID 0 0 0 a.At [] a.Name a.Parts)<|cnd (a.Kind==6) (b<|aO.mk a.Kind a.ID a.A a.B a.C a.At [] a.Name a.Parts)<|cnd (a.Kind==7) (b<|aO.mk a.Kind a.ID 0 0 a.C a.At a.Via (⟨#[]⟩:ByteArray) [])<|cnd (a.Kind==9) (b<|aO.mk a.Kind a.ID a.A a.B a.C a.At a.Via (⟨#[]⟩:ByteArray) a.Parts)<|cnd (a.Kind==10) (b<|aO.mk a.Kind a.ID a.A 0 a.C a.At a.Via a.Name a.Parts)<|cnd (a.Kind==11) (b<|aO.mk a.Kind a.ID a.A a.B a.C a.At a.Via a.Name [])<|cnd (a.Kind==12) (b<|aO.mk a.Kind a.ID 0 a.B a.C a.At a.Via a.Name a.Parts)<|b a
def Ku:=eU Cl
def HY: Lc 39 0 0:=bG 0x33d44f58d762c3e78867d849ba C12 [⟨0,[cs HX]⟩] [] @Cl
def Cj(n:Nat): aO->((Bool->Option R)×Unit)->Unit->Option R:=λa (b,_) _=>cnd (a.A != 0) (b true)<|cnd (a.B != 0) (b true)<|cnd (a.C != 0) (b true)<|cd (a.At=(Aaa.mk 0 0)) (cd ((ln a.Via) > 0) (b true)<|cd (a.Name=(⟨#[]⟩:ByteArray)) (cd ((ln a.Parts) > 0) (b true)<|b false)<|b true)<|b true
def Ks:=eU Cj
def HW: Lc 39 0 2:=bG 0x6614db C12 [] [] @Cj
def Ja: Nat->aO->Option Bool
 | 0,_=>none
 | n+1,a=>bnd (Ku n a) λb=>bnd (Ks n b) λc=>cnd c (some true)<|some false
def t6: Kn:=bH 39 0x1d2934f20 C12 [⟨0,[HY]⟩,⟨2,[HW]⟩] [] Ja
abbrev C13:=t6::C12
def r8: Nat->Int->Option Bool
 | 0,_=>none
 | n+1,a=>cd (1<=a) (cd (a<=1073741824) (some true)<|some false)<|some false
def NJ: Kn:=bH 69 0xae6 C13 [] [] r8
abbrev C14:=NJ::C13
def GM(n:Nat): (Aad×Aaa)->((Bool->Option R)×Unit)->Unit->Option R:=λ(a,b) (c,_) _=>cd (a.X0<=b.X) (cd (b.X<=a.X1) (cd (a.Y0<=b.Y) (cd (b.Y<=a.Y1) (c true)<|c false)<|c false)<|c false)<|c false
def AN:=eU GM
def aAt: Lc 22 0 0:=bG 0x38f8bb6b6507 C14 [] [] @GM
def Ix: Nat->Aad->Aaa->Option Bool
 | 0,_,_=>none
 | n+1,a,b=>bnd (AN n (a,b)) λc=>cnd c (some true)<|some false
def aH3: Kn:=bH 22 0x12feb1a569797c0 C14 [⟨0,[aAt]⟩] [] Ix
abbrev C15:=aH3::C14
def tG(n:Nat): Int->((Bool->Option R)×Unit)->Unit->Option R:=λa (b,_) _=>cd (1<=a) (cd (a<=1073741824) (b true)<|b false)<|b false
def dZ:=Bj tG
def NS: Ic:=cT 69 0 1 0x94e09a79fca42a632117b01 C15 [] [] @tG
def tF: Aaa->((Bool->Option R)×Unit)->Unit->Option R:=λa (b,_) _=>bnd (Ix n (Aad.mk (-1048576) (-1048576) 1048576 1048576) a) λc=>cnd c (b false)<|b true
def iJ:=Bj tF
def NR: Ic:=cT 70 0 2 0xeeba41765c5ded411a9980795d71e1d9ccb54712 C15 [] [] @tF
def NO: Ic:=cT 70 4 2 0x2c32fb1b78ffb5e0000b4a476de86dc4 C15 [] [] @tF
def tE: (List Aaa×Int)->(Int->Option R)->((Int->Option R)×(Unit->Option R)×Unit)->Int->Option R:=λ(a,b) c (d,f,_) g=>cd (g<b) (bnd (idx a g) λh=>bnd (iJ n h) λi=>cnd i (d g)<|c<|wr<|g+1)<|f ()
def s6:=tS tE
def NL: Lc 97 0 0:=bQ 0x2cdb5ac3b0cce172cfe6a2d15af2aeaf22f568e0882db78181b1 C15 [] [NO] @tE
def Fy: (List Aaa)->((Int->Option R)×Unit)->Unit->Option R:=λa (b,_) _=>bnd2 (s6 n (a,(ln a)) 0) (λc=>b c) λd=>bnd (some d) λ_=>b (-1)
def Pa:=Bj Fy
def NP: Ic:=cT 97 0 2 0x2c32ee1b64602a766e517280ef208b64 C15 [⟨0,[NL]⟩] [] @Fy
def Fz: (List Aaa)->((Bool->Option R)×Unit)->Unit->Option R:=λa (b,_) _=>bnd (Pa n a) λc=>cd (c>=0) (b true)<|b false
def fY:=Bj Fz
def NQ: Ic:=cT 71 0 2 0x3f7e45a253e94acd17017a99c8b64 C15 [] [NP] @Fz
def HJ: Ic:=cT 69 4 1 0x94e09a2de250f600ef23dcb C15 [] [] @tG
def Cb: Int->((Bool->Option R)×Unit)->Unit->Option R:=λa (b,_) _=>bnd (dZ n a) λc=>cnd c (b false)<|b true
def Kl:=Bj Cb
def HK: Ic:=cT 72 4 2 0x139e70d84425a43cd3744 C15 [] [HJ] @Cb
def tD: (List Int×Int)->(Int->Option R)->((Int->Option R)×(Unit->Option R)×Unit)->Int->Option R:=λ(a,b) c (d,f,_) g=>cd (g<b) (bnd (idx a g) λh=>bnd (Kl n h) λi=>cnd i (d g)<|c<|wr<|g+1)<|f ()
def r9:=tS tD
def NK: Lc 98 0 0:=bQ 0x5c85c26bb166a4c1f861135042eaa5b0fc1635fd3506e1 C15 [] [HK] @tD
def Fw: (List Int)->((Int->Option R)×Unit)->Unit->Option R:=λa (b,_) _=>bnd2 (r9 n (a,(ln a)) 0) (λc=>b c) λd=>bnd (some d) λ_=>b (-1)
def Oz:=Bj Fw
def NM: Ic:=cT 98 0 2 0x19fe565aa21efffacd35de9e7ca89184 C15 [⟨0,[NK]⟩] [] @Fw
def Fx: (List Int)->((Bool->Option R)×Unit)->Unit->Option R:=λa (b,_) _=>bnd (Oz n a) λc=>cd (c>=0) (b true)<|b false
def fX:=Bj Fx
def NN: Ic:=cT 73 0 2 0x69f71c29d3d320922ce3a908c9184 C15 [] [NM] @Fx
def Ca(n:Nat): Int->((Bool->Option R)×Unit)->Unit->Option R:=λa (b,_) _=>cnd (a==7) (b true)<|cnd (a==10) (b true)<|b false
def Kk:=eU Ca
def HI: Lc 40 0 0:=bG 0xdd7260e2d3851789e96df5fa23ce7648393b8 C15 [] [] @Ca
def Bz(n:Nat): aO->((Bool->Option R)×Unit)->Unit->Option R:=λa (b,_) _=>cd (a.B<1) (b true)<|cd (a.B > 9) (b true)<|b false
def Kj:=eU Bz
def HH: Lc 40 0 1:=bG 0x134e5b9f2a1ba3fedf81db9a40ca84838a7a226569e4d01f5 C15 [] [] @Bz
def Cc: Nat->aO->Option Bool
 | 0,_=>none
 | n+1,a=>cnd (a.Kind==4) (bnd (dZ n a.A) λb=>cnd b (bnd (dZ n a.B) λc=>cnd c (bnd (dZ n a.ID) λd=>cnd d (cd (a.C<(-1073741824)) (some false)<|cd (a.C > 1073741824) (some false)<|bnd (iJ n a.At) λf=>cnd f (some false)<|bnd (fY n a.Via) λg=>cnd g (some false)<|bnd (fX n a.Parts) λh=>cnd h (some false)<|some true)<|some false)<|some false)<|some false)<|cnd (a.Kind==12) (bnd (dZ n a.A) λi=>cnd i (bnd (dZ n a.ID) λj=>cnd j (cd (a.C<(-1073741824)) (some false)<|cd (a.C > 1073741824) (some false)<|bnd (iJ n a.At) λl=>cnd l (some false)<|bnd (fY n a.Via) λm=>cnd m (some false)<|bnd (fX n a.Parts) λo=>cnd o (some false)<|some true)<|some false)<|some false)<|bnd (Kk n a.Kind) λr=>cnd r (bnd (Kj n a) λs=>cnd s (some false)<|bnd (dZ n a.ID) λt=>cnd t (cd (a.C<(-1073741824)) (some false)<|cd (a.C > 1073741824) (some false)<|bnd (iJ n a.At) λu=>cnd u (some false)<|bnd (fY n a.Via) λv=>cnd v (some false)<|bnd (fX n a.Parts) λw=>cnd w (some false)<|some true)<|some false)<|bnd (dZ n a.ID) λx=>cnd x (cd (a.C<(-1073741824)) (some false)<|cd (a.C > 1073741824) (some false)<|bnd (iJ n a.At) λy=>cnd y (some false)<|bnd (fY n a.Via) λz=>cnd z (some false)<|bnd (fX n a.Parts) λa0=>cnd a0 (some false)<|some true)<|some false
def H5: Kn:=bH 40 0x1d2934f20 C15 [⟨0,[HI]⟩,⟨1,[HH]⟩] [NS,NR,NQ,NN] Cc
abbrev C16:=H5::C15
def lH(n:Nat): (List Int)->(Int->Option R)->((Unit->Option R)×(Unit->Option R)×Unit)->Int->Option R:=λa b (c,d,_) f=>cd (f<(ln a)) (bnd (idx a<|wr<|f-1) λg=>bnd (idx a f) λh=>cd (g>=h) (c ())<|b<|wr<|f+1)<|d ()
def Nv:=tS lH
def MH: Lc 41 0 0:=bQ 0xd8406803ddde5aee7cc8 C16 [] [] @lH
def uH: Nat->(List Int)->Option Bool
 | 0,_=>none
 | n+1,a=>bnd2 (Nv n a 1) (λ_=>some false) λb=>bnd (some b) λ_=>some true
def G2: Kn:=bH 41 0x29e5d9 C16 [⟨0,[MH]⟩] [] uH
abbrev C17:=G2::C16
def Bk(n:Nat): (gA×Int)->((Bool->Option R)×Unit)->Unit->Option R:=λ(a,b) (c,_) _=>cd (a.first<=b) (cd (b<=a.last) (c true)<|c false)<|c false
def RN:=eU Bk
def GC: Lc 101 0 1:=bG 0x6bb780be611a16852038dc1006dd1db5eb81f6f45a56e3 C17 [] [] @Bk
def pQ: (Int×xC)->(Int->Option R)->(((gA×Int)->Option R)×(Unit->Option R)×Unit)->Int->Option R:=λ(a,b) c (d,f,_) g=>cd (g<13) (bnd (idx ([b.e0,b.e1,b.e2,b.e3,b.e4,b.e5,b.e6,b.e7,b.e8,b.e9,b.e10,b.e11,b.e12]:List gA) g) λh=>bnd (RN n (h,a)) λi=>cnd i (d (h,h.script))<|c<|wr<|g+1)<|f ()
def RO:=tS pQ
def GD: Lc 101 0 0:=bQ 0x1b2bdf9126beb6872f70f292b131b63fb713fed88b759b58b939c4f253 C17 [⟨0,[cs GC]⟩] [] @pQ
def wS: Nat->Int->Option Int
 | 0,_=>none
 | n+1,a=>cd (a<0) (some (-1))<|cd (a > 1114111) (some (-1))<|bnd2 (RO n ((IntKind.i32.wrap a),(xC.mk (gA.mk 32 32 0) (gA.mk 39 41 0) (gA.mk 45 46 0) (gA.mk 48 57 0) (gA.mk 65 90 1) (gA.mk 97 122 1) (gA.mk 192 214 1) (gA.mk 216 246 1) (gA.mk 248 591 1) (gA.mk 880 1023 2) (gA.mk 1024 1279 3) (gA.mk 1488 1514 4)<|gA.mk 19968 40959 5)) 0) (λb=>some b.2) λc=>bnd (some c) λ_=>some (-1)
def j7: Kn:=bH 101 0x2e4a4a C17 [⟨0,[GD]⟩] [] wS
abbrev C18:=j7::C17
def pR: Unit->((List Int×(ByteArray×Nat))->Option R)->(((List Int×(ByteArray×Nat))->Option R)×((List Int×(ByteArray×Nat))->Option R)×Unit)->(List Int×(ByteArray×Nat))->Option R:=λ_ a (b,c,_) (d,f)=>cd (f.2<f.1.size) (bnd (wS n<|wr (((Utf8.decode f.1 f.2).1:Nat):Int)) λg=>cd (g<0) (b (d,(f.1,(f.2+(Utf8.decode f.1 f.2).2))))<|bnd (app d [(wr (((Utf8.decode f.1 f.2).1:Nat):Int))]) λh=>a (h,(f.1,(f.2+(Utf8.decode f.1 f.2).2))))<|c (d,(f.1,f.2))
def RQ:=tS pR
def GE: Lc 99 0 0:=bQ 0x3b2711477e2df0644ee7a396f3d2f9e0011bf1d09ceee5d8ab27b0dc4863453e744fa8e57f851cb70ffa2a7453af C18 [] [] @pR
def Iw: Nat->ByteArray->Option (List Int×Int)
 | 0,_=>none
 | n+1,a=>bnd2 (RQ n () ([],(a,0))) (λ_=>some ([],4)) λb=>bnd (some b) λc=>some (c.1,0)
def j8: Kn:=bH 99 0x1072b513b72e5f58c7 C18 [⟨0,[GE]⟩] [] Iw
abbrev C19:=j8::C18
def aQv: Kn:=aS7 100 19 5 rfl (λn p=>P3 n p.1 p.2) λn p r h=>by obtain⟨m,h1⟩:=aPV h;exact⟨m,p.1,p.2,r,h1,rfl,h,rfl⟩
abbrev C20:=aQv::C19
def Np: ByteArray->((Bool->Option R)×Unit)->Unit->Option R:=λa (b,_) _=>bnd (sat a 0) λc=>cnd (c==32) (b true)<|bnd (sat a<|wr<|((a.size:Nat):Int)-1) λd=>cnd (d==32) (b true)<|bnd (P3 n a (⟨#[32,32]⟩:ByteArray)) λf=>cnd f (b true)<|b false
def V4:=eU Np
def WF: Lc 74 0 0:=bG 0x3c391c978aadf9e11394b3432b680 C20 [] [] @Np
def yI: (List Int×List Int×Int)->(Int->Option R)->((Unit->Option R)×(Unit->Option R)×Unit)->Int->Option R:=λ(a,b,c) d (f,g,_) h=>cd (h<c) (bnd (idx b h) λi=>bnd (wS n i) λj=>cnd (j != 0) (f ())<|d<|wr<|h+1)<|g ()
def V5:=tS yI
def WK: Lc 74 0 1:=bQ 0x1332a33e010d07babe423753251aac39e1b98b C20 [] [] @yI
def N5: Nat->ByteArray->Option (List Int×Int)
 | 0,_=>none
 | n+1,a=>cd (a=(⟨#[]⟩:ByteArray)) (some ([],14))<|cd (((a.size:Nat):Int) > 40) (some ([],3))<|bnd (Iw n a) λb=>cnd (b.2 != 0) (some ([],b.2))<|bnd (V4 n a) λc=>cnd c (some ([],14))<|bnd2 (V5 n (b.1,b.1,(ln b.1)) 0) (λ_=>some (b.1,0)) λd=>bnd (some d) λ_=>some ([],14)
def aBS: Kn:=bH 74 0x179f5af3065d2a0 C20 [⟨0,[WF]⟩,⟨1,[WK]⟩] [] N5
abbrev C21:=aBS::C20
def yJ: Nat->ByteArray->Option Int
 | 0,_=>none
 | n+1,a=>bnd (N5 n a) λb=>some b.2
def V6: Kn:=bH 42 0x166eff217360 C21 [] [] yJ
abbrev C22:=V6::C21
def Lf(n:Nat): aO->((Bool->Option R)×Unit)->Unit->Option R:=λa (b,_) _=>cd (a.Kind<1) (b true)<|cd (a.Kind > 12) (b true)<|b false
def Ux:=eU Lf
def SP: Lc 16 0 0:=bG 0x56202edf6 C22 [] [] @Lf
def Ld: aO->((Bool->Option R)×Unit)->Unit->Option R:=λa (b,_) _=>cnd (a.Kind==7) (bnd (cM n a.A) λc=>cnd (c==0) (b true)<|b false)<|b false
def Uw:=eU Ld
def SO: Lc 16 0 1:=bG 0x3bf62d9853a6 C22 [] [] @Ld
def Lb(n:Nat): aO->((Bool->Option R)×Unit)->Unit->Option R:=λa (b,_) _=>cd ((ln a.Via) > 64) (b true)<|cd ((ln a.Parts) > 64) (b true)<|b false
def Uv:=eU Lb
def SN: Lc 16 0 2:=bG 0x3bf633e5cd76 C22 [] [] @Lb
def La: aO->((Bool->Option R)×Unit)->Unit->Option R:=λa (b,_) _=>cd (a.Name=(⟨#[]⟩:ByteArray)) (b false)<|bnd (yJ n a.Name) λc=>cnd (c != 0) (b true)<|b false
def Uu:=eU La
def SM: Lc 16 0 3:=bG 0x2a4333fc6766 C22 [] [] @La
def tO: Nat->aO->Option Int
 | 0,_=>none
 | n+1,a=>bnd (Ux n a) λb=>cnd b (some 9)<|bnd (Uw n a) λc=>cnd c (some 9)<|bnd (Ja n a) λd=>cnd d (some 1)<|bnd (Uv n a) λf=>cnd f (some 3)<|bnd (Cc n a) λg=>cnd g (bnd (uH n a.Parts) λh=>cnd h (bnd (Uu n a) λi=>cnd i (some 14)<|some 0)<|some 10)<|some 2
def aA9: Kn:=bH 16 0x2038ac670 C22 [⟨0,[SP]⟩,⟨1,[SO]⟩,⟨2,[SN]⟩,⟨3,[SM]⟩] [] tO
abbrev C23:=aA9::C22
def jR(n:Nat): (List Aab×Int)->((List Int×Int)->Option R)->(((List Int)->Option R)×Unit)->(List Int×Int)->Option R:=λ(a,b) c (d,_) (f,g)=>cd (g<b) (bnd (idx a g) λh=>bnd (app f [h.ID]) λi=>c (i,(wr<|g+1)))<|d f
def Rp:=rG jR
def Lr: Lc 131 0 0:=bQ 0x119fd16dd2a64f03f77286de79483414227e3b3c2a33ac9d74e0046dae8cb C23 [] [] @jR
def jQ(n:Nat): (List aQ×Int)->((List Int×Int)->Option R)->(((List Int)->Option R)×Unit)->(List Int×Int)->Option R:=λ(a,b) c (d,_) (f,g)=>cd (g<b) (bnd (idx a g) λh=>bnd (app f [h.ID]) λi=>c (i,(wr<|g+1)))<|d f
def Ro:=rG jQ
def Lq: Lc 131 0 1:=bQ 0x43932ad542f447c62d012ce0bde431e37ae3915ae17f6d9b824cfd904585ca8f72609e0a C23 [] [] @jQ
def sM: Nat->aK->Option (List Int×List Int)
 | 0,_=>none
 | n+1,a=>bnd (Rp n (a.Nodes,(ln a.Nodes)) ([],0)) λb=>bnd (Ro n (a.Arcs,(ln a.Arcs)) ([],0)) λc=>some (b,c)
def AC: Kn:=bH 131 0x5995168b9f5ceb26830fd87 C23 [⟨0,[Lr]⟩,⟨1,[Lq]⟩] [] sM
abbrev C24:=AC::C23
def Rw: Lc 132 0 0:=bQ 0xd8406803ddde5aee7cc8 C24 [] [] @lH
def kT: Nat->(List Int)->Option Bool
 | 0,_=>none
 | n+1,a=>bnd2 (Nv n a 1) (λ_=>some false) λb=>bnd (some b) λ_=>some true
def LT: Kn:=bH 132 0x29e5d9 C24 [⟨0,[Rw]⟩] [] kT
abbrev C25:=LT::C24
def sK: Nat->Int->Option Bool
 | 0,_=>none
 | n+1,a=>cd (a<1) (some true)<|cd (a > 1073741824) (some true)<|some false
def Wu: Kn:=bH 151 0xae6 C25 [] [] sK
abbrev C26:=Wu::C25
def nL: (List Int×Int)->(Int->Option R)->((Int->Option R)×(Unit->Option R)×Unit)->Int->Option R:=λ(a,b) c (d,f,_) g=>cd (g<b) (bnd (idx a g) λh=>bnd (sK n h) λi=>cnd i (d g)<|c<|wr<|g+1)<|f ()
def LP:=tS nL
def Xv: Lc 98 0 0:=bQ 0x755873d1d3ed83d20e55754 C26 [] [] @nL
def yC: (List Int)->((Int->Option R)×Unit)->Unit->Option R:=λa (b,_) _=>bnd2 (LP n (a,(ln a)) 0) (λc=>b c) λd=>bnd (some d) λ_=>b (-1)
def LQ:=Bj yC
def AA: Ic:=cT 98 0 2 0xd5d6f0c6705add31ad83 C26 [⟨0,[Xv]⟩] [] @yC
def yD: (List Int)->((Bool->Option R)×Unit)->Unit->Option R:=λa (b,_) _=>bnd (LQ n a) λc=>cd (c>=0) (b true)<|b false
def LR:=Bj yD
def AB: Ic:=cT 73 0 2 0xd5d3e9ac018ab7cc0d83 C26 [] [AA] @yD
def mV: Nat->(List Int)->Option Bool
 | 0,_=>none
 | n+1,a=>bnd (LR n a) λb=>cnd b (some false)<|some true
def RE: Kn:=bH 133 0x29e5d9 C26 [] [AB] mV
abbrev C27:=RE::C26
def lU(n:Nat): Aaa->((Bool->Option R)×Unit)->Unit->Option R:=λa (b,_) _=>cd (a.X<(-1048576)) (b true)<|cd (a.X > 1048576) (b true)<|cd (a.Y<(-1048576)) (b true)<|cd (a.Y > 1048576) (b true)<|b false
def pJ:=eU lU
def Rn: Lc 152 0 0:=bG 0x317b7f0e06b5 C27 [] [] @lU
def yB: Nat->Aaa->Option Bool
 | 0,_=>none
 | n+1,a=>bnd (pJ n a) λb=>cnd b (some true)<|some false
def LG: Kn:=bH 152 0x1d288a85c C27 [⟨0,[Rn]⟩] [] yB
abbrev C28:=LG::C27
def LH: Lc 152 0 0:=bG 0x1920b8b5b59e513a1312f6bc4b3ab992 C28 [] [] @lU
def Ex: Aaa->((Bool->Option R)×Unit)->Unit->Option R:=λa (b,_) _=>bnd (pJ n a) λc=>cnd c (b true)<|b false
def VO:=Bj Ex
def LO: Ic:=cT 152 0 1 0xda8bb3459776e71e53d0c06 C28 [⟨0,[LH]⟩] [] @Ex
def sJ: (List Aab×Int)->(Int->Option R)->(((Aab×Aaa)->Option R)×(Unit->Option R)×Unit)->Int->Option R:=λ(a,b) c (d,f,_) g=>cd (g<b) (bnd (idx a g) λh=>bnd (VO n h.At) λi=>cnd i (d (h,h.At))<|c<|wr<|g+1)<|f ()
def VL:=tS sJ
def LL: Lc 134 0 0:=bQ 0x19b7a0dbe7b23725371d3a09431d6569e169336762b63bbc41144a1c5bd33 C28 [] [LO] @sJ
def sH: (List Aaa×Int)->(Int->Option R)->((Int->Option R)×(Unit->Option R)×Unit)->Int->Option R:=λ(a,b) c (d,f,_) g=>cd (g<b) (bnd (idx a g) λh=>bnd (yB n h) λi=>cnd i (d g)<|c<|wr<|g+1)<|f ()
def VJ:=tS sH
def LJ: Lc 97 0 0:=bQ 0x1fa9d058c7f7ae0e3364709acce8db6e C28 [] [] @sH
def Ev: (List Aaa)->((Int->Option R)×Unit)->Unit->Option R:=λa (b,_) _=>bnd2 (VJ n (a,(ln a)) 0) (λc=>b c) λd=>bnd (some d) λ_=>b (-1)
def VM:=Bj Ev
def LM: Ic:=cT 97 0 2 0x94e0549264963e2de9290d2 C28 [⟨0,[LJ]⟩] [] @Ev
def Ew: (List Aaa)->((Bool->Option R)×Unit)->Unit->Option R:=λa (b,_) _=>bnd (VM n a) λc=>cd (c>=0) (b true)<|b false
def VN:=Bj Ew
def LN: Ic:=cT 71 0 2 0x94e099db6d23378c99ef0d2 C28 [] [LM] @Ew
def sI: (List aQ×Int)->(Int->Option R)->((aQ->Option R)×(Unit->Option R)×Unit)->Int->Option R:=λ(a,b) c (d,f,_) g=>cd (g<b) (bnd (idx a g) λh=>bnd (VN n h.Via) λi=>cnd i (d h)<|c<|wr<|g+1)<|f ()
def VK:=tS sI
def LK: Lc 134 0 1:=bQ 0x2dae46700744e76b93964b91afaf68f37e56267246ed17753 C28 [] [LN] @sI
def Ng: Nat->aK->Option Bool
 | 0,_=>none
 | n+1,a=>bnd2 (VL n (a.Nodes,(ln a.Nodes)) 0) (λ_=>some false) λb=>bnd (some b) λ_=>bnd2 (VK n (a.Arcs,(ln a.Arcs)) 0) (λ_=>some false) λc=>bnd (some c) λ_=>some true
def F5: Kn:=bH 134 0x29e73e C28 [⟨0,[LL]⟩,⟨1,[LK]⟩] [] Ng
abbrev C29:=F5::C28
def jO(n:Nat): (List Int×Int×Int)->(Int->Option R)->((Int->Option R)×(Unit->Option R)×Unit)->Int->Option R:=λ(a,b,c) d (f,g,_) h=>cd (h<c) (bnd (idx a h) λi=>cnd (b==i) (f h)<|d<|wr<|h+1)<|g ()
def Rb:=tS jO
def Ll: Lc 96 0 0:=bQ 0x755873d1d0c993e2151de54 C29 [] [] @jO
def lB: Nat->(List Int)->Int->Option Int
 | 0,_,_=>none
 | n+1,a,b=>bnd2 (Rb n (a,b,(ln a)) 0) (λc=>some c) λd=>bnd (some d) λ_=>some (-1)
def Vt: Kn:=bH 96 0x51c0da C29 [⟨0,[Ll]⟩] [] lB
abbrev C30:=Vt::C29
def cZ: Nat->(List Int)->Int->Option Bool
 | 0,_,_=>none
 | n+1,a,b=>bnd (lB n a b) λc=>cd (c>=0) (some true)<|some false
def Lo: Kn:=bH 61 0x748636 C30 [] [] cZ
abbrev C31:=Lo::C30
def lX(n:Nat): (Aab×List Aab×Int)->(Int->Option R)->((Aab->Option R)×(Unit->Option R)×Unit)->Int->Option R:=λ(a,b,c) d (f,g,_) h=>cd (h<c) (bnd (idx b h) λi=>cd (a.At=i.At) (f i)<|d<|wr<|h+1)<|g ()
def FJ:=tS lX
def Ru: Lc 135 0 1:=bQ 0x3715e47487709eb7cec5a8a691ddff3201906d7066674c8117807ed9dbedb0298431392224f C31 [] [] @lX
def lY: (aK×List Aab×Int)->(Int->Option R)->(((Aab×Aab)->Option R)×(Unit->Option R)×Unit)->Int->Option R:=λ(a,b,c) d (f,g,_) h=>cd (h<c) (bnd (idx b h) λi=>bnd (cut a.Nodes 0 h) λj=>bnd2 (FJ n (i,j,(ln j)) 0) (λl=>f (i,l)) λm=>bnd (some m) λ_=>d<|wr<|h+1)<|g ()
def FK:=tS lY
def Rv: Lc 135 0 0:=bQ 0x4c30ceea359901238a3f01e57de9095482bf6d4ecf8dd813bc73 C31 [⟨0,[cs Ru]⟩] [] @lY
def vG: (aQ×List Int)->((Bool->Option R)×Unit)->Unit->Option R:=λ(a,b) (c,_) _=>bnd (cZ n b a.From) λd=>cnd d (bnd (cZ n b a.To) λf=>cnd f (c false)<|c true)<|c true
def Bd:=eU vG
def Rr: Lc 135 0 3:=bG 0x4b3e0307961eedfedc5866e8bae97d09df031eaffb9c519ef C31 [] [] @vG
def lW: (List Int×List aQ×Int)->(Int->Option R)->((aQ->Option R)×(Unit->Option R)×Unit)->Int->Option R:=λ(a,b,c) d (f,g,_) h=>cd (h<c) (bnd (idx b h) λi=>bnd (Bd n (i,a)) λj=>cnd j (f i)<|d<|wr<|h+1)<|g ()
def FI:=tS lW
def Rt: Lc 135 0 2:=bQ 0x3537c3325d0f7cf182eb364a23c44c369974599068401f35f2eb C31 [⟨0,[cs Rr]⟩] [] @lW
def vF: (aK×Int)->((Bool->Option R)×Unit)->Unit->Option R:=λ(a,b) (c,_) _=>cnd (b != 0) (bnd (cZ n a.Faces b) λd=>cnd d (c false)<|c true)<|c false
def pK:=eU vF
def Rq: Lc 135 0 6:=bG 0x2b609e4eec5a63eaa8b464a6368139749cc67bda710fc08ef0a50d1 C31 [] [] @vF
def lV: (aK×List aQ×Int)->(Int->Option R)->((aQ->Option R)×(Unit->Option R)×Unit)->Int->Option R:=λ(a,b,c) d (f,g,_) h=>cd (h<c) (bnd (idx b h) λi=>bnd (Ls<|Nat.ble 3 n) λ_=>bnd (pK n (a,i.Left)) λj=>cnd j (f i)<|bnd (pK n (a,i.Right)) λl=>cnd l (f i)<|d<|wr<|h+1)<|g ()
def FH:=tS lV
def Rs: Lc 135 0 4:=bQ 0x996a0f611d7a250d22f7b0e3f1ae04bf22857c342846581a3e039ea9e753 C31 [⟨1,[cs Rq]⟩] [] @lV
def yE: Nat->aK->(List Int)->Option Int
 | 0,_,_=>none
 | n+1,a,b=>bnd2 (FK n (a,a.Nodes,(ln a.Nodes)) 0) (λ_=>some 8) λc=>bnd (some c) λ_=>bnd2 (FI n (b,a.Arcs,(ln a.Arcs)) 0) (λ_=>some 7) λd=>bnd (some d) λ_=>bnd2 (FH n (a,a.Arcs,(ln a.Arcs)) 0) (λ_=>some 12) λf=>bnd (some f) λ_=>some 0
def LS: Kn:=bH 135 0x2fc9b2a22c28 C31 [⟨0,[Rv]⟩,⟨2,[Rt]⟩,⟨4,[Rs]⟩] [] yE
abbrev C32:=LS::C31
def aQx: Kn:=aQb 66 1 14 ⟨_,_,_,rfl,by decide,by decide⟩ (λn p=>clF n p) (λp=>p) λn p r h=>by obtain⟨m,h1,h2,h3⟩:=aQd h;subst h2;exact⟨m,h1,rfl,h3,rfl,λe=>by cases (e:_=[]);rfl⟩
abbrev C33:=aQx::C32
def Dl: (Int×List aQ×Int)->(Int->Option R)->(((Int×Int×Int×List Aaa×Int×Int×Int×Int×Int×List Aaa×Int×Int)->Option R)×(Unit->Option R)×Unit)->Int->Option R:=λ(a,b,c) d (f,g,_) h=>cd (h<c) (bnd (idx b h) λi=>cnd (i.ID==a) (bnd (clF n i.Via) λj=>f (i.ID,i.From,i.To,j,i.Left,i.Right,i.ID,i.From,i.To,j,i.Left,i.Right))<|d<|wr<|h+1)<|g ()
def aBG:=tS Dl
def G0: Lc 31 0 0:=bQ 0x133966e6ea5fcd8334c91e6fe74fb11f4054bc4cc5027e2181e4c256d40048425b1182ef38825b392 C33 [] [] @Dl
def pL: Nat->aK->Int->Option (aQ×Bool)
 | 0,_,_=>none
 | n+1,a,b=>bnd2 (aBG n (b,a.Arcs,(ln a.Arcs)) 0) (λc=>some ((aQ.mk c.1 c.2.1 c.2.2.1 c.2.2.2.1 c.2.2.2.2.1 c.2.2.2.2.2.1),true)) λd=>bnd (some d) λ_=>some ((aQ.mk 0 0 0 [] 0 0),false)
def aDM: Kn:=bH 31 0x17d3eefdc93d C33 [⟨0,[G0]⟩] [] pL
abbrev C34:=aDM::C33
def yF(n:Nat): (Int×List Aab×Int)->(Int->Option R)->(((Aab×Aab)->Option R)×(Unit->Option R)×Unit)->Int->Option R:=λ(a,b,c) d (f,g,_) h=>cd (h<c) (bnd (idx b h) λi=>cnd (i.ID==a) (f (i,i))<|d<|wr<|h+1)<|g ()
def U3:=tS yF
def VT: Lc 30 0 0:=bQ 0x51c99077243ffca663ecb6893b60aded2663144c17ffc48e96b5bf8e1a40a2010edf2 C34 [] [] @yF
def fL: Nat->aK->Int->Option (Aab×Bool)
 | 0,_,_=>none
 | n+1,a,b=>bnd2 (U3 n (b,a.Nodes,(ln a.Nodes)) 0) (λc=>some (c.1,true)) λd=>bnd (some d) λ_=>some ((Aab.mk 0<|Aaa.mk 0 0),false)
def aBF: Kn:=bH 30 0x3330e1d6b265 C34 [⟨0,[VT]⟩] [] fL
end
end
section
variable {R:Type}(n:Nat)
noncomputable section
abbrev C35:=aBF::C34
def EM: Nat->(List Aaa)->Int->Option (List Aaa)
 | 0,_,_=>none
 | n+1,_,a=>cd (a<0) none none
def Rc: Kn:=bH 144 0x33c89c5dba4c C35 [] [] EM
abbrev C36:=Rc::C35
def gO(n:Nat): ((List<|List Aaa)×Int)->((Int×Int)->Option R)->((Int->Option R)×Unit)->(Int×Int)->Option R:=λ(a,b) c (d,_) (f,g)=>cd (g<b) (bnd (idx a g) λh=>cd ((wr<|f+(ln h))<0) none<|c ((wr<|f+(ln h)),(wr<|g+1)))<|d f
def Ig:=rG gO
def Dd: Lc 121 0 0:=bQ 0xa96deb6df1014927a9d967e2ff6475f C36 [] [] @gO
def mR(n:Nat): Int->((Unit->Option R)×((List Aaa×(Nat×Nat))->Option R)×Unit)->Unit->Option R:=λa (b,c,_) _=>cd (a<0) none<|cd ((wr<|a-0) > 0) (bnd (rep (Aaa.mk 0 0) (wr<|a-0)<|wr<|a-0) λd=>cnd (List.isEmpty d) (b ())<|bnd (sub d (0,List.length d) 0 0) λf=>c (d,f))<|b ()
def Ih:=JQ mR
def De: Ic:=cT 144 0 2 0xa6058a1049d555192f0fff3ade738e60fc4cda85b77 C36 [] [] @mR
def mQ(n:Nat): ((List<|List Aaa)×Int)->(Int->Option R)->((Unit->Option R)×Unit)->Int->Option R:=λ(a,b) c (d,_) f=>cd (f<b) (bnd (idx a f) λg=>cnd (List.isEmpty g) (c<|wr<|f+1)<|bnd (app ([]:List Aaa) g) λ_=>none)<|d ()
def Ie:=rG mQ
def Dc: Lc 121 0 1:=bQ 0x1ebd1069966ed85a06267a47362faeb6b53 C36 [] [] @mQ
def gN(n:Nat): ((List<|List Aaa)×Int)->((List Aaa×(Nat×Nat)×Int)->Option R)->(((List Aaa×(Nat×Nat))->Option R)×Unit)->(List Aaa×(Nat×Nat)×Int)->Option R:=λ(a,b) c (d,_) (f,g,h)=>cd (h<b) (bnd (idx a h) λi=>bnd (SU f g i) λj=>c (j,(g.1,g.2+List.length i),(wr<|h+1)))<|d (f,g)
def Id:=rG gN
def Db: Lc 121 0 1:=bQ 0x6b6b10cbd8a22e422705f731d598f873558418a8aa61bcf7f C36 [] [] @gN
def lQ: Nat->(List<|List Aaa)->Option (List Aaa)
 | 0,_=>none
 | n+1,a=>bnd (Ig n (a,(ln a)) (0,0)) λb=>bnd2 (Ih n b) (λ_=>bnd (Ie n (a,(ln a)) 0) λ_=>some []) λc=>bnd (some c) λd=>bnd (Id n (a,(ln a)) (d.1,d.2,0)) λf=>some<|win f.1<|some f.2
def Lp: Kn:=bH 121 0x33c809f3b444 C36 [⟨0,[Dd]⟩,⟨1,[Dc,Db]⟩] [De] lQ
abbrev C37:=Lp::C36
def dY(n:Nat): Unit->((Unit->Option R)×Unit)->Unit->Option R:=λ_ (a,_) _=>a ()
def cE:=eU dY
def VS: Lc 93 0 0:=bG 0x234187a263de424a2b285c15f465347b0ae72b C37 [] [] @dY
def VR: Lc 93 0 0:=bG 0x234029a8fdabd99911e2944e69c891cc51e72b C37 [] [] @dY
def VQ: Lc 93 0 0:=bG 0x686c6a4e75ea299a9026b751df54b C37 [] [] @dY
def VP: Lc 93 0 0:=bG 0xd763056cb63877e74b54d5f C37 [] [] @dY
def eO: Nat->aK->Int->Option (List Aaa×Int)
 | 0,_,_=>none
 | n+1,a,b=>bnd (pL n a b) λc=>cnd c.2 (bnd (fL n a c.1.From) λd=>cnd d.2 (bnd (fL n a c.1.To) λf=>cnd f.2 (bnd (cE n ()) λ_=>bnd (lQ n [[d.1.At],c.1.Via,[f.1.At]]) λg=>some (g,0))<|bnd (cE n ()) λ_=>some ([],7))<|bnd (fL n a c.1.To) λh=>cnd h.2 (bnd (cE n ()) λ_=>some ([],7))<|bnd (cE n ()) λ_=>some ([],7))<|bnd (fL n a c.1.From) λi=>cnd i.2 (bnd (fL n a c.1.To) λj=>cnd j.2 (bnd (cE n ()) λ_=>some ([],7))<|bnd (cE n ()) λ_=>some ([],7))<|bnd (fL n a c.1.To) λl=>cnd l.2 (bnd (cE n ()) λ_=>some ([],7))<|bnd (cE n ()) λ_=>some ([],7)
def aBE: Kn:=bH 93 0x2b12214136e098cd1c76cd6f34863bcd C37 [⟨0,[VS,VR,VQ,VP]⟩] [] eO
abbrev C38:=aBE::C37
def yA(n:Nat): (aQ×List Aaa×Int)->((Bool->Option R)×Unit)->Unit->Option R:=λ(a,b,c) (d,_) _=>cnd (c != 0) (d true)<|cnd (a.From==a.To) (cd ((ln b)<4) (d true)<|d false)<|d false
def Es:=eU yA
def Vx: Lc 153 0 1:=bG 0x150933ac6286c7a94cbcc3b76b0490070bc2fb95e8c3849a27e8315e7e66a C38 [] [] @yA
def nJ(n:Nat): (List Aaa×R0×Int)->((List bA×Int)->Option R)->(((List bA×List bA)->Option R)×((List bA)->Option R)×Unit)->(List bA×Int)->Option R:=λ(a,b,c) d (f,g,_) (h,i)=>cd (i<c) (bnd (idx a i) λj=>bnd (idx a<|wr<|i+1) λl=>cd (j=l) (f (h,[]))<|bnd (app h [(bA.mk b i)]) λm=>d (m,(wr<|i+1)))<|g h
def KT:=tS nJ
def Vy: Lc 153 0 2:=bQ 0x1931e0b3a2a03f598a098346026dd51fccb579dfef6535c6beb8323246659a26193ece366dd8e7568d6bd7ae28f81d975f51c26c0db70715133792ccf3c5 C38 [] [] @nJ
def nK: (aK×List aQ×Int)->((List bA×Int)->Option R)->(((List bA×aQ×List bA)->Option R)×((List bA×aQ×List bA)->Option R)×((List bA)->Option R)×Unit)->(List bA×Int)->Option R:=λ(a,b,c) d (f,g,h,_) (i,j)=>cd (j<c) (bnd (idx b j) λl=>bnd (eO n a l.ID) λm=>bnd (Es n (l,m.1,m.2)) λo=>cnd o (f (i,l,[]))<|bnd2 (KT n (m.1,(R0.mk l m.1),(wr<|(ln m.1)-1)) (i,0)) (λr=>g (r.1,l,r.2)) λs=>bnd (some s) λt=>d (t,(wr<|j+1)))<|h i
def KU:=lp3 nK
def Vz: Lc 153 0 0:=bQ 0x2e39d3ebf145301458401cf264af2f7298e6b582afc163ee83d73d71f8fc9f7b31bf00098e546ddf35944d59e7a40ce4bbdfc6ff250ea2bb0137f864bfc68986c9c4c0ca71 C38 [⟨0,[cs Vx]⟩,⟨1,[cs Vy]⟩] [] @nK
def Dj: Nat->aK->Option (List bA×Bool)
 | 0,_=>none
 | n+1,a=>bnd2 (KU n (a,a.Arcs,(ln a.Arcs)) ([],0)) (λb=>bnd (Ls true) λ_=>some (b.2.2,false)) λc=>bnd2 (some c) (λd=>bnd (Ls true) λ_=>some (d.2.2,false)) λf=>bnd (some f) λg=>bnd (Ls true) λ_=>some (g,true)
def RD: Kn:=bH 153 0x27c54dd1c9d186acdabe C38 [⟨0,[Vz]⟩] [] Dj
abbrev C39:=RD::C38
def dJ: Nat->bA->Option (Aaa×Aaa)
 | 0,_=>none
 | n+1,a=>bnd (idx a.line.path a.at_) λb=>bnd (idx a.line.path<|wr<|a.at_+1) λc=>some (b,c)
def Rl: Kn:=bH 159 0x2237f3134 C39 [] [] dJ
abbrev C40:=Rl::C39
def gH: Nat->bA->Option Int
 | 0,_=>none
 | n+1,a=>bnd (dJ n a) λb=>some<|pO b.1.X b.2.X
def Ri: Kn:=bH 156 0x2e4b10 C40 [] [] gH
abbrev C41:=Ri::C40
def fK: Nat->Int->Option Bool
 | 0,_=>none
 | n+1,a=>cnd (a != a) (some true)<|some false
def SQ: Kn:=bH 150 0xae6 C41 [] [] fK
abbrev C42:=SQ::C41
def dA: Nat->Int->Int->Option Int
 | 0,_,_=>none
 | n+1,a,b=>bnd (fK n a) λc=>cnd c (bnd (fK n b) λd=>cnd d (some 0)<|some (-1))<|bnd (fK n b) λf=>cnd f (some 1)<|cd (a<b) (some (-1))<|cd (a > b) (some 1)<|some 0
def IP: Kn:=bH 130 0xf9e2b42c9b1d4c C42 [] [] dA
abbrev C43:=IP::C42
def pI: Nat->bA->bA->Option Int
 | 0,_,_=>none
 | n+1,a,b=>bnd (gH n a) λc=>bnd (gH n b) λd=>bnd (dA n c d) λf=>some f
def KV: Kn:=bH 155 0x2fc9b77f0ce0 C43 [] [] pI
abbrev C44:=KV::C43
def pH: Nat->bA->Option Int
 | 0,_=>none
 | n+1,a=>bnd (dJ n a) λb=>some<|iY b.1.X b.2.X
def Rm: Kn:=bH 157 0x2e4b10 C44 [] [] pH
abbrev C45:=Rm::C44
def Oe(n:Nat): Aaa->((Bool->Option R)×Unit)->Unit->Option R:=λa (b,_) _=>cd (a.X<(-2097152)) (b true)<|cd (a.X > 2097152) (b true)<|cd (a.Y<(-2097152)) (b true)<|cd (a.Y > 2097152) (b true)<|b false
def GG:=eU Oe
def k7: Lc 173 0 1:=bG 0xdd481e360943e7729aacf0e6ec17560d560f0 C45 [] [] @Oe
def yQ: (List Aaa×Int)->(Int->Option R)->((Aaa->Option R)×(Unit->Option R)×Unit)->Int->Option R:=λ(a,b) c (d,f,_) g=>cd (g<b) (bnd (idx a g) λh=>bnd (GG n h) λi=>cnd i (d h)<|c<|wr<|g+1)<|f ()
def aAo:=tS yQ
def k8: Lc 173 0 0:=bQ 0x1b93ca86c6909cbfb938d36c3fd2a7b6050 C45 [⟨0,[cs k7]⟩] [] @yQ
def oM: Nat->(List Aaa)->Option Bool
 | 0,_=>none
 | n+1,a=>bnd2 (aAo n (a,(ln a)) 0) (λ_=>some false) λb=>bnd (some b) λ_=>some true
def aCu: Kn:=bH 173 0x1d2ab8c74 C45 [⟨0,[k8]⟩] [] oM
abbrev C46:=aCu::C45
def gS: Nat->Aaa->Aaa->Aaa->Option Int
 | 0,_,_,_=>none
 | n+1,a,b,c=>some<|wr<|(wr<|(wr<|b.X-a.X)*(wr<|c.Y-a.Y))-(wr<|(wr<|b.Y-a.Y)*(wr<|c.X-a.X))
def aAn: Kn:=bH 174 0x2e4d6d C46 [] [] gS
abbrev C47:=aAn::C46
def GI: (Aaa×Aaa×Aaa)->((Bool->Option R)×Unit)->Unit->Option R:=λ(a,b,c) (d,_) _=>bnd (oM n [a,b,c]) λf=>cnd f (bnd (gS n a b c) λg=>cnd (g != 0) (d true)<|d false)<|d true
def l6:=eU GI
def aAs: Lc 160 0 0:=bG 0x380b5535a449eb2faa4b7e1c6c9105815078f099f417542b77a7 C47 [] [] @GI
def GH(n:Nat): (Aaa×Aaa×Aaa)->((Bool->Option R)×Unit)->Unit->Option R:=λ(a,b,c) (d,_) _=>cd ((pO a.X b.X)<=c.X) (cd (c.X<=(iY a.X b.X)) (cd ((pO a.Y b.Y)<=c.Y) (cd (c.Y<=(iY a.Y b.Y)) (d true)<|d false)<|d false)<|d false)<|d false
def k9:=eU GH
def aAr: Lc 160 0 1:=bG 0x4f0a84dd03f7e00ac75dcf16317a7 C47 [] [] @GH
def tT: Nat->Aaa->Aaa->Aaa->Option Bool
 | 0,_,_,_=>none
 | n+1,a,b,c=>bnd (l6 n (a,b,c)) λd=>cnd d (some false)<|bnd (k9 n (a,b,c)) λf=>cnd f (some true)<|some false
def aH2: Kn:=bH 160 0x29e839 C47 [⟨0,[aAs]⟩,⟨1,[aAr]⟩] [] tT
abbrev C48:=aH2::C47
def AM: Nat->Aaa->Aaa->Aaa->Option Int
 | 0,_,_,_=>none
 | n+1,a,b,c=>bnd (oM n [a,b,c]) λd=>cnd d (bnd (gS n a b c) λf=>some f)<|some 0
def aAq: Kn:=bH 185 0x792620edc21a71883699 C48 [] [] AM
abbrev C49:=aAq::C48
def jK: Nat->Aaa->Aaa->Aaa->Option Int
 | 0,_,_,_=>none
 | n+1,a,b,c=>bnd (AM n a b c) λd=>cd (d > 0) (some 1)<|cd (d<0) (some (-1))<|some 0
def aCv: Kn:=bH 180 0x2e4d6d C49 [] [] jK
abbrev C50:=aCv::C49
def Fm(n:Nat): (Aaa×Aaa)->((Bool->Option R)×Unit)->Unit->Option R:=λ(a,b) (c,_) _=>cd (a.X<b.X) (c true)<|cnd (a.X==b.X) (cd (a.Y<b.Y) (c true)<|c false)<|c false
def Of:=eU Fm
def MP: Lc 186 0 0:=bG 0x51d318c13 C50 [] [] @Fm
def oN: Nat->Aaa->Aaa->Option Bool
 | 0,_,_=>none
 | n+1,a,b=>bnd (Of n (a,b)) λc=>cnd c (some true)<|some false
def G8: Kn:=bH 186 0x1b47baa7f604 C50 [⟨0,[MP]⟩] [] oN
abbrev C51:=G8::C50
def sW: (Aaa×Aaa)->(((Aaa×Aaa)->Option R)×Unit)->Unit->Option R:=λ(a,b) (c,_) _=>bnd (oN n b a) λd=>cnd d (c (b,a))<|c (a,b)
def yP:=eU sW
def MO: Lc 181 0 0:=bG 0x9aab8d9d3244aac56cdcfd8b7a8d35e01c5cb8f2fdd C51 [] [] @sW
def MN: Lc 181 0 1:=bG 0x4afacabecd829627d1236745da50684c66ac13bfb1ce86532 C51 [] [] @sW
def Fk: (Aaa×Aaa)->((Aaa->Option R)×Unit)->Unit->Option R:=λ(a,b) (c,_) _=>bnd (oN n b a) λd=>cnd d (c a)<|c b
def Oc:=eU Fk
def MM: Lc 181 0 2:=bG 0x194e7394c9535713c6d3b84c3a6fad94def382a9be3d61de41dcedb935 C51 [] [] @Fk
def Fj: (Aaa×Aaa)->((Aaa->Option R)×Unit)->Unit->Option R:=λ(a,b) (c,_) _=>bnd (oN n a b) λd=>cnd d (c a)<|c b
def Ob:=eU Fj
def ML: Lc 181 0 3:=bG 0x1111c4d91fb30e7ce9cfd671455575d2cc141f5619a7d640799fde24ed92b451d692fcd2 C51 [] [] @Fj
def Od: Nat->Aaa->Aaa->Aaa->Aaa->Option Int
 | 0,_,_,_,_=>none
 | n+1,a,b,c,d=>bnd (yP n (a,b)) λf=>bnd (yP n (c,d)) λg=>bnd (Oc n (g.1,f.1)) λh=>bnd (Ob n (g.2,f.2)) λi=>cd (h=i) (some 1)<|bnd (oN n h i) λj=>cnd j (some 2)<|some 0
def G6: Kn:=bH 181 0x166e21cbfe06 C51 [⟨0,[MO]⟩,⟨1,[MN]⟩,⟨2,[MM]⟩,⟨3,[ML]⟩] [] Od
abbrev C52:=G6::C51
def Oh: (Aaa×Aaa×Aaa×Aaa)->((Bool->Option R)×Unit)->Unit->Option R:=λ(a,b,c,d) (f,_) _=>bnd (jK n a b c) λg=>cnd (g==0) (bnd (jK n a b d) λh=>cnd (h==0) (f true)<|f false)<|f false
def GK:=eU Oh
def l8: Lc 172 0 0:=bG 0xac4d9374649ee63a17bb0983877d5b9ab88e5c62da865faf29f0d9dadd40 C52 [] [] @Oh
def Og: (Aaa×Aaa×Aaa×Aaa)->((Bool->Option R)×Unit)->Unit->Option R:=λ(a,b,c,d) (f,_) _=>bnd (jK n a b c) λg=>bnd (jK n a b d) λh=>cd ((wr<|g*h)<=0) (bnd (jK n c d a) λi=>bnd (jK n c d b) λj=>cd ((wr<|i*j)<=0) (f true)<|f false)<|f false
def GJ:=eU Og
def l7: Lc 172 0 1:=bG 0xeb408ae10d86607e3266b7b1322f9f38a893d6edd40 C52 [] [] @Og
def Qn: Nat->Aaa->Aaa->Aaa->Aaa->Option Int
 | 0,_,_,_,_=>none
 | n+1,a,b,c,d=>bnd (oM n [a,b,c,d]) λf=>cnd f (cd (a=b) (bnd (tT n c d a) λg=>cnd g (some 1)<|some 0)<|cd (c=d) (bnd (tT n a b c) λh=>cnd h (some 1)<|some 0)<|bnd (GK n (a,b,c,d)) λi=>cnd i (bnd (Od n a b c d) λj=>some j)<|bnd (GJ n (a,b,c,d)) λl=>cnd l (some 1)<|some 0)<|some 0
def aCw: Kn:=bH 172 0x545ae95ebef294aefe90401 C52 [⟨0,[l8]⟩,⟨1,[l7]⟩] [] Qn
abbrev C53:=aCw::C52
def iX: Nat->bA->Option Bool
 | 0,_=>none
 | n+1,a=>cnd (a.at_==0) (some true)<|some false
def Na: Kn:=bH 161 0x29e5dc C53 [] [] iX
abbrev C54:=Na::C53
def gI: Nat->bA->Option Bool
 | 0,_=>none
 | n+1,a=>cnd (a.at_==(wr<|(ln a.line.path)-2)) (some true)<|some false
def Rk: Kn:=bH 162 0x29e5dc C54 [] [] gI
abbrev C55:=Rk::C54
def kS(n:Nat): (bA×bA)->(((bA×bA)->Option R)×Unit)->Unit->Option R:=λ(a,b) (c,_) _=>cd (a.at_ > b.at_) (c (b,a))<|c (a,b)
def nN:=eU kS
def Nj: Lc 158 0 0:=bG 0x821763b3d7b7583b388fc395d8f571f7e77c9f9f5763b38b1 C55 [] [] @kS
def kR: (bA×bA)->((Bool->Option R)×Unit)->Unit->Option R:=λ(a,b) (c,_) _=>cnd ((wr<|a.at_+1)==b.at_) (c true)<|cnd (a.line.Arc.From==a.line.Arc.To) (bnd (iX n a) λd=>cnd d (bnd (gI n b) λf=>cnd f (c true)<|c false)<|c false)<|c false
def nM:=eU kR
def Ni: Lc 158 0 1:=bG 0x10c55a26c70c92c35610314b4f82c55288227ea738b1 C55 [] [] @kR
def kQ: (bA×Aaa×Aaa×Aaa×Aaa×Int×Int×Int)->((Bool->Option R)×Unit)->Unit->Option R:=λ(a,b,c,d,f,g,h,i) (j,_) _=>cnd (i==a.line.Arc.From) (bnd (tT n b c<|Aaa.mk g h) λl=>cnd l (bnd (tT n d f<|Aaa.mk g h) λm=>cnd m (j true)<|j false)<|j false)<|cnd (i==a.line.Arc.To) (bnd (tT n b c<|Aaa.mk g h) λo=>cnd o (bnd (tT n d f<|Aaa.mk g h) λr=>cnd r (j true)<|j false)<|j false)<|j false
def fT:=eU kQ
def Nh: Lc 158 0 3:=bG 0x13b465cb5e446f72909c581a9ba32f5ac9b5181cb63e4eea1143ca56cba8c1706e41f2307151354703f1c3f89fe9a59c7b70b C55 [] [] @kQ
def RF: Nat->bA->bA->(List<|Int×Aaa)->Option Bool
 | 0,_,_,_=>none
 | n+1,a,b,c=>bnd (dJ n a) λd=>bnd (dJ n b) λf=>bnd (Qn n d.1 d.2 f.1 f.2) λg=>cnd (a.line.Arc.ID==b.line.Arc.ID) (bnd (nN n (a,b)) λh=>bnd (nM n (h.1,h.2)) λi=>cnd i (cnd (g==1) (some true)<|some false)<|cnd (g==0) (some true)<|some false)<|cnd (g != 1) (cnd (g==0) (some true)<|some false)<|bnd (Ls<|Nat.ble 3 n) λ_=>bnd (fT n (b,d.1,d.2,f.1,f.2,(Option.getD (bX c a.line.Arc.From)<|Aaa.mk 0 0).X,(Option.getD (bX c a.line.Arc.From)<|Aaa.mk 0 0).Y,a.line.Arc.From)) λj=>cnd j (some true)<|bnd (fT n (b,d.1,d.2,f.1,f.2,(Option.getD (bX c a.line.Arc.To)<|Aaa.mk 0 0).X,(Option.getD (bX c a.line.Arc.To)<|Aaa.mk 0 0).Y,a.line.Arc.To)) λl=>cnd l (some true)<|some false
def FL: Kn:=bH 158 0x6db6871582c1305ff05b C55 [⟨0,[Nj]⟩,⟨1,[Ni]⟩,⟨3,[Nh]⟩] [] RF
abbrev C56:=FL::C55
def sG(n:Nat): (List Aab×Int)->(((List<|Int×Aaa)×Int)->Option R)->((((List<|Int×Aaa))->Option R)×Unit)->((List<|Int×Aaa)×Int)->Option R:=λ(a,b) c (d,_) (f,g)=>cd (g<b) (bnd (idx a g) λh=>c ((jS f h.ID h.At),(wr<|g+1)))<|d f
def VI:=rG sG
def LE: Lc 136 0 0:=bQ 0x194fecb405dbe8e9f0c153c2346409e510e633481ce15e0caf53b96e8e C56 [] [] @sG
def KZ: Lc 158 0 0:=bG 0xbad5d60938bf2149a3173275f370aff82caa715988b74e C56 [] [] @kS
def KY: Lc 158 0 1:=bG 0x10c55a1fb59c519d4ead1b9bbdee1ea26f72a194b74e C56 [] [] @kR
def KX: Lc 158 0 3:=bG 0x6a6db3ed7fed193ee5ae514eb9f9b668d4676e2f9d2b9d9632aaeafcf0ee93ed584fae709c0464562eba4348c1bcdf3446fde5aa7d6eb C56 [] [] @kQ
def Eu: ((List<|Int×Aaa)×bA×bA)->(((bA×bA×Aaa×Aaa×Aaa×Aaa×Bool)->Option R)×((Aaa×Aaa×Aaa×Aaa×Int×Int)->Option R)×Unit)->Unit->Option R:=λ(a,b,c) (d,f,_) _=>bnd (dJ n b) λg=>bnd (dJ n c) λh=>bnd (Qn n g.1 g.2 h.1 h.2) λi=>cnd (b.line.Arc.ID==c.line.Arc.ID) (bnd (nN n (b,c)) λj=>bnd (nM n (j.1,j.2)) λl=>cnd l (cnd (i==1) (d (j.1,j.2,g.1,g.2,h.1,h.2,true))<|d (j.1,j.2,g.1,g.2,h.1,h.2,false))<|cnd (i==0) (d (j.1,j.2,g.1,g.2,h.1,h.2,true))<|d (j.1,j.2,g.1,g.2,h.1,h.2,false))<|cnd (i != 1) (cnd (i==0) (d (b,c,g.1,g.2,h.1,h.2,true))<|d (b,c,g.1,g.2,h.1,h.2,false))<|bnd (Ls<|Nat.ble 3 n) λ_=>bnd (fT n (c,g.1,g.2,h.1,h.2,(Option.getD (bX a b.line.Arc.From)<|Aaa.mk 0 0).X,(Option.getD (bX a b.line.Arc.From)<|Aaa.mk 0 0).Y,b.line.Arc.From)) λm=>cnd m (f (g.1,g.2,h.1,h.2,(Option.getD (bX a b.line.Arc.From)<|Aaa.mk 0 0).X,(Option.getD (bX a b.line.Arc.From)<|Aaa.mk 0 0).Y))<|bnd (fT n (c,g.1,g.2,h.1,h.2,(Option.getD (bX a b.line.Arc.To)<|Aaa.mk 0 0).X,(Option.getD (bX a b.line.Arc.To)<|Aaa.mk 0 0).Y,b.line.Arc.To)) λo=>cnd o (f (g.1,g.2,h.1,h.2,(Option.getD (bX a b.line.Arc.To)<|Aaa.mk 0 0).X,(Option.getD (bX a b.line.Arc.To)<|Aaa.mk 0 0).Y))<|d (b,c,g.1,g.2,h.1,h.2,false)
def Nd:=JQ Eu
def LF: Ic:=cT 158 0 3 0x38bb0d09b302907a44713d9418d445c509e34db5e6ac901f01c136c03ad087e6f4bd04efb3cc470b580c85d81ed9b83736e6b1da17 C56 [⟨0,[KZ]⟩,⟨1,[KY]⟩,⟨3,[KX]⟩] [] @Eu
def sE: ((List<|Int×Aaa)×bA×List bA×Int)->(Int->Option R)->((Unit->Option R)×((bA×bA×bA×Aaa×Aaa×Aaa×Aaa)->Option R)×Unit)->Int->Option R:=λ(a,b,c,d) f (g,h,_) i=>cd (i<d) (bnd (idx c i) λj=>bnd (gH n j) λl=>bnd (pH n b) λm=>cd (l > m) (g ())<|bnd2 (Nd n (a,b,j)) (λo=>cnd o.2.2.2.2.2.2 (f<|wr<|i+1)<|h (j,o.1,o.2.1,o.2.2.1,o.2.2.2.1,o.2.2.2.2.1,o.2.2.2.2.2.1)) λr=>bnd (some r) λ_=>f<|wr<|i+1)<|g ()
def VH:=tS sE
def LB: Lc 136 0 2:=bQ 0x58cc50cc43e6667a5a04609c4cd5bb2d2bf413880ebc8afe0769bbc5b24b2b9f5acd89107df4cb3d83259ee8398a98117ef2a1a55a63190611e C56 [] [LF] @sE
def Et: (bA×Aab×Aaa×Aaa)->((Bool->Option R)×Unit)->Unit->Option R:=λ(a,b,c,d) (f,_) _=>bnd (tT n c d b.At) λg=>cnd g (bnd (iX n a) λh=>cnd h (cnd (a.line.Arc.From==b.ID) (f false)<|bnd (gI n a) λi=>cnd i (cnd (a.line.Arc.To==b.ID) (f false)<|f true)<|f true)<|bnd (gI n a) λj=>cnd j (cnd (a.line.Arc.To==b.ID) (f false)<|f true)<|f true)<|f false
def Nb:=eU Et
def KW: Lc 136 0 4:=bG 0x24b5e60023fd44d72519b4129157ac8596bbfc5e20cda1b1f7e9f0d9cfe5f8bce59d8390119f3788c C56 [] [] @Et
def sD: (bA×List Aab×Int)->(Int->Option R)->(((Aab×Aaa×Aaa)->Option R)×(Unit->Option R)×Unit)->Int->Option R:=λ(a,b,c) d (f,g,_) h=>cd (h<c) (bnd (idx b h) λi=>bnd (dJ n a) λj=>bnd (Nb n (a,i,j.1,j.2)) λl=>cnd l (f (i,j.1,j.2))<|d<|wr<|h+1)<|g ()
def VG:=tS sD
def LA: Lc 136 0 3:=bQ 0x26720fa6190b69c15ec65e05f07f908def7d686e5d656d8f39a96fc7c7381a039e2cf83b8c05ec C56 [⟨0,[cs KW]⟩] [] @sD
def sF: (aK×(List<|Int×Aaa)×List bA×List bA×Int)->(Int->Option R)->(((bA×Aab×Aaa×Aaa)->Option R)×((bA×bA×bA×bA×Aaa×Aaa×Aaa×Aaa)->Option R)×(Unit->Option R)×Unit)->Int->Option R:=λ(a,b,c,d,f) g (h,i,j,_) l=>cd (l<f) (bnd (idx d l) λm=>bnd (cut c (wr<|l+1)<|ln c) λo=>bnd2 (VH n (b,m,o,(ln o)) 0) (λ_=>bnd2 (VG n (m,a.Nodes,(ln a.Nodes)) 0) (λr=>h (m,r.1,r.2.1,r.2.2)) λs=>bnd (some s) λ_=>g<|wr<|l+1) λt=>bnd (some t) λu=>i (m,u.1,u.2.1,u.2.2.1,u.2.2.2.1,u.2.2.2.2.1,u.2.2.2.2.2.1,u.2.2.2.2.2.2))<|j ()
def Nc:=lp3 sF
def LD: Lc 136 0 1:=bQ 0x3360cdee74ad3b2af4cff8f98e25a5fffbcf10f6d8f3c24e185479169fc7b4f1a11ef60a19a219e187e37276b77e61cb00bbd4d9599acde97c29e6b650bd951ca77fc16 C56 [⟨0,[cs LB]⟩,⟨1,[cs LA]⟩] [] @sF
def Nf: Nat->aK->Option Bool
 | 0,_=>none
 | n+1,a=>bnd (Dj n a) λb=>cnd b.2 (bnd (VI n (a.Nodes,(ln a.Nodes)) ([],0)) λc=>bnd (prd n) λd=>bnd (Ls<|decide<|List.length b.1<=1000000) λ_=>bnd (qZ (λ(f g:bA)=>bnd (pI d f g) λh=>some h) b.1) λi=>bnd2 (Nc n (a,c,i,i,(ln i)) 0) (λ_=>some false) λj=>bnd2 (some j) (λ_=>some false) λl=>bnd (some l) λ_=>some true)<|some false
def F4: Kn:=bH 136 0x144fc00d2a25 C56 [⟨0,[LE]⟩,⟨1,[LD]⟩] [] Nf
abbrev C57:=F4::C56
def Ke(n:Nat): aK->((Bool->Option R)×Unit)->Unit->Option R:=λa (b,_) _=>cd ((ln a.Nodes) > 256) (b true)<|cd ((ln a.Arcs) > 256) (b true)<|cd ((ln a.Faces) > 64) (b true)<|b false
def F8:=eU Ke
def RI: Lc 110 0 0:=bG 0x1d120f120d3ca542e5 C57 [] [] @Ke
def uR(n:Nat): (List aQ×Int)->(Int->Option R)->((aQ->Option R)×(Unit->Option R)×Unit)->Int->Option R:=λ(a,b) c (d,f,_) g=>cd (g<b) (bnd (idx a g) λh=>cd ((ln h.Via) > 64) (d h)<|c<|wr<|g+1)<|f ()
def F9:=tS uR
def RJ: Lc 110 0 1:=bQ 0x9d1f20c4ab13df5cc45a8fd56e858b1d1bdfaab95e5cc7 C57 [] [] @uR
def Kd: (aK×List Int×List Int)->((Bool->Option R)×Unit)->Unit->Option R:=λ(a,b,c) (d,_) _=>bnd (kT n b) λf=>cnd f (bnd (kT n c) λg=>cnd g (bnd (kT n a.Faces) λh=>cnd h (d false)<|d true)<|d true)<|d true
def F7:=eU Kd
def RH: Lc 110 0 2:=bG 0x151da2876c6d2aa3148184ece708b92c17c85bd4e C57 [] [] @Kd
def Kc: (aK×List Int×List Int)->((Bool->Option R)×Unit)->Unit->Option R:=λ(a,b,c) (d,_) _=>bnd (mV n b) λf=>cnd f (bnd (mV n c) λg=>cnd g (bnd (mV n a.Faces) λh=>cnd h (bnd (Ng n a) λi=>cnd i (d false)<|d true)<|d true)<|d true)<|d true
def F6:=eU Kc
def RG: Lc 110 0 3:=bG 0x1aac581de9e70edd6180f4eaf62cb6690d3d4e C57 [] [] @Kc
def Ip: Nat->aK->Option Int
 | 0,_=>none
 | n+1,a=>bnd (F8 n a) λb=>cnd b (some 3)<|bnd2 (F9 n (a.Arcs,(ln a.Arcs)) 0) (λ_=>some 3) λc=>bnd (some c) λ_=>bnd (sM n a) λd=>bnd (F7 n (a,d.1,d.2)) λf=>cnd f (some 10)<|bnd (F6 n (a,d.1,d.2)) λg=>cnd g (some 2)<|bnd (yE n a d.1) λh=>cnd (h != 0) (some h)<|bnd (Nf n a) λi=>cnd i (some 0)<|some 11
def U4: Kn:=bH 110 0x2e4c72 C57 [⟨0,[RI]⟩,⟨1,[RJ]⟩,⟨2,[RH]⟩,⟨3,[RG]⟩] [] Ip
abbrev C58:=U4::C57
def Kf(n:Nat): (Aaa×Aaa)->((Bool->Option R)×Unit)->Unit->Option R:=λ(a,b) (c,_) _=>cd (b.Y<a.Y) (c true)<|cnd (b.Y==a.Y) (cd (b.X<a.X) (c true)<|c false)<|c false
def G7:=eU Kf
def RS: Lc 179 0 0:=bG 0x51d318c13 C58 [] [] @Kf
def gU: Nat->Aaa->Aaa->Option Bool
 | 0,_,_=>none
 | n+1,a,b=>bnd (G7 n (a,b)) λc=>cnd c (some true)<|some false
def aAp: Kn:=bH 179 0x1b47baa7f604 C58 [⟨0,[RS]⟩] [] gU
abbrev C59:=aAp::C58
def Oi: (Aaa×Aaa×Aaa)->((Bool->Option R)×Unit)->Unit->Option R:=λ(a,b,c) (d,_) _=>bnd (oM n [a,b,c]) λf=>cnd f (cd (b=a) (d true)<|cd (c=a) (d true)<|d false)<|d true
def GL:=eU Oi
def l9: Lc 169 0 0:=bG 0x380b5535a449eb2faa4b7e1c6c9105851f7b02315f35f43637a7 C59 [] [] @Oi
def Qq: Nat->Aaa->Aaa->Aaa->Option Bool
 | 0,_,_,_=>none
 | n+1,a,b,c=>bnd (GL n (a,b,c)) λd=>cnd d (some false)<|bnd (gU n a b) λf=>cnd f (bnd (gU n a c) λg=>cnd g (cd (true=true) (bnd (gS n a b c) λh=>cd (h > 0) (some true)<|some false)<|bnd (gU n a c) λi=>cnd i (some true)<|some false)<|cd (true=false) (bnd (gS n a b c) λj=>cd (j > 0) (some true)<|some false)<|bnd (gU n a c) λl=>cnd l (some true)<|some false)<|bnd (gU n a c) λm=>cnd m (cd (false=true) (bnd (gS n a b c) λo=>cd (o > 0) (some true)<|some false)<|bnd (gU n a c) λr=>cnd r (some true)<|some false)<|cd (false=false) (bnd (gS n a b c) λs=>cd (s > 0) (some true)<|some false)<|bnd (gU n a c) λt=>cnd t (some true)<|some false
def aCx: Kn:=bH 169 0x29e839 C59 [⟨0,[l9]⟩] [] Qq
abbrev C60:=aCx::C59
def Eg(n:Nat): (aQ×Int)->((Bool->Option R)×Unit)->Unit->Option R:=λ(a,b) (c,_) _=>cnd (a.From != b) (cnd (a.To != b) (c true)<|c false)<|c false
def UM:=eU Eg
def JY: Lc 122 0 1:=bG 0x232f38d81fe8a12c1b90f4e610c7336c956363ad6ba5315c0cb0c9d74b7f6255cf C60 [] [] @Eg
def sA(n:Nat): (List Int×(List<|Int×Aaa)×Int×Aaa)->(((List Int×(List<|Int×Aaa))->Option R)×Unit)->Unit->Option R:=λ(a,b,c,d) (f,_) _=>bnd (app a [c]) λg=>f (g,(jS b c d))
def oT:=Bj sA
def KC: Ic:=cT 145 0 4 0x35a8ef6654823f01a92c430f754c92ba3528d4d530f2f042ecd337cce515ba476f74c6bdc6b C60 [] [] @sA
def KB: Ic:=cT 145 0 4 0x1a03eb733e7d0e8e1511ad661bdccd76dda2a8de4e2e84860510364860a7b5f77aafdd5f43afc045b C60 [] [] @sA
def lA: (aK×Int×List aQ×Int)->((List Int×(List<|Int×Aaa)×Int)->Option R)->(((List Int×(List<|Int×Aaa))->Option R)×Unit)->(List Int×(List<|Int×Aaa)×Int)->Option R:=λ(a,b,c,d) f (g,_) (h,i,j)=>cd (j<d) (bnd (idx c j) λl=>bnd (UM n (l,b)) λm=>cnd m (f (h,i,(wr<|j+1)))<|bnd (eO n a l.ID) λo=>cnd (o.2 != 0) (f (h,i,(wr<|j+1)))<|cnd (l.From==b) (bnd (idx o.1 1) λr=>bnd (oT n (h,i,l.ID,r)) λs=>cnd (l.To==b) (bnd (idx o.1<|wr<|(ln o.1)-2) λt=>bnd (oT n (s.1,s.2,(wr<|0-l.ID),t)) λu=>f (u.1,u.2,(wr<|j+1)))<|f (s.1,s.2,(wr<|j+1)))<|cnd (l.To==b) (bnd (idx o.1<|wr<|(ln o.1)-2) λv=>bnd (oT n (h,i,(wr<|0-l.ID),v)) λw=>f (w.1,w.2,(wr<|j+1)))<|f (h,i,(wr<|j+1)))<|g (h,i)
def UN:=rG lA
def JZ: Lc 122 0 0:=bQ 0xdb8406c6af051afb19932e3c24fc4f2ebc8a1b392dd9cf2e88ef5d99e8dd037b201036a011c7e9ab9cde08998f9246a6823fdd4 C60 [⟨0,[cs JY]⟩] [KC,KB] @lA
def Eh: (Aab×(List<|Int×Aaa)×Int×Int)->((Int->Option R)×Unit)->Unit->Option R:=λ(a,b,c,d) (f,_) _=>bnd (Qq n a.At (Aaa.mk ((Option.getD (bX b c)<|Aaa.mk 0 0).X)<|(Option.getD (bX b c)<|Aaa.mk 0 0).Y)<|Aaa.mk ((Option.getD (bX b d)<|Aaa.mk 0 0).X)<|(Option.getD (bX b d)<|Aaa.mk 0 0).Y) λg=>cnd g (f (-1))<|bnd (Qq n a.At (Aaa.mk ((Option.getD (bX b d)<|Aaa.mk 0 0).X)<|(Option.getD (bX b d)<|Aaa.mk 0 0).Y)<|Aaa.mk ((Option.getD (bX b c)<|Aaa.mk 0 0).X)<|(Option.getD (bX b c)<|Aaa.mk 0 0).Y) λh=>cnd h (f 1)<|f 0
def xL:=Bj Eh
def KA: Ic:=cT 146 6 4 0x92fb7b3bf054b608b4bae011fd53591b4f8e55ae82e0958737ae9efbd46eeed044 C60 [] [] @Eh
def Mg: Nat->aK->Int->Option (List Int)
 | 0,_,_=>none
 | n+1,a,b=>bnd (fL n a b) λc=>cnd c.2 (bnd (UN n (a,b,a.Arcs,(ln a.Arcs)) ([],[],0)) λd=>bnd (prd n) λf=>bnd (Ls<|decide<|List.length d.1<=1000000) λ_=>bnd (qZ (λ(g h:Int)=>bnd (xL f (c.1,d.2,g,h)) λi=>some i) d.1) λj=>some j)<|some []
def E4: Kn:=bH 122 0x8779ac5ef73c525d9402e61 C60 [⟨0,[JZ]⟩] [KA] Mg
abbrev C61:=E4::C60
def xJ: Nat->(List Int)->Int->Option Int
 | 0,_,_=>none
 | n+1,a,b=>bnd (lB n a b) λc=>cd (c<0) (some 0)<|bnd (aGX (wr<|(wr<|c+(ln a))-1)<|ln a) λd=>bnd (idx a d) λf=>some f
def JS: Kn:=bH 123 0x51c0da C61 [] [] xJ
abbrev C62:=JS::C61
def rY: (List Int×List Int×Int)->((List Int×(List<|Int×Int)×Int)->Option R)->(((List Int×(List<|Int×Int))->Option R)×Unit)->(List Int×(List<|Int×Int)×Int)->Option R:=λ(a,b,c) d (f,_) (g,h,i)=>cd (i<c) (bnd (idx b i) λj=>bnd (app g [j]) λl=>bnd (xJ n a j) λm=>d (l,(jS h (wr<|0-j) m),(wr<|i+1)))<|f (g,h)
def UJ:=rG rY
def JV: Lc 102 0 1:=bQ 0xb720b444882e471f59a2092093bbf90e1533ee2b2d83be4f3a7d42c15b3137861687019146915e48dd65bf1852344e2c97a888f93d1c2 C62 [] [] @rY
def rZ: (aK×List Aab×Int)->((List Int×(List<|Int×Int)×Int)->Option R)->(((List Int×(List<|Int×Int))->Option R)×Unit)->(List Int×(List<|Int×Int)×Int)->Option R:=λ(a,b,c) d (f,_) (g,h,i)=>cd (i<c) (bnd (idx b i) λj=>bnd (Mg n a j.ID) λl=>bnd (UJ n (l,l,(ln l)) (g,h,0)) λm=>d (m.1,m.2,(wr<|i+1)))<|f (g,h)
def UK:=rG rZ
def JW: Lc 102 0 0:=bQ 0x16cfbee7f74c19ade9d0e7ab771e8551e37fce7daa8c0b58c4bc10e23f07bcaec82347abb34c617ce C62 [⟨0,[cs JV]⟩] [] @rZ
def rV(n:Nat): ((List<|Int×Int))->(((List<|Int×Bool)×List Int×Int)->Option R)->((((List<|Int×Bool)×List Int)->Option R)×Unit)->((List<|Int×Bool)×List Int×Int)->Option R:=λa b (c,_) (d,f,g)=>cnd ((Option.getD (bX d g) false)) (c (d,f))<|bnd (app f [g]) λh=>b ((jS d g true),h,(Option.getD (bX a g) 0))
def UI:=rG rV
def JT: Lc 125 0 0:=bQ 0xc03613ffa6d2116b1569916db205f1fad1328371fde57f757d068916aa84ace59bc504a3a9269d15c62840 C62 [] [] @rV
def Ef: ((List<|Int×Int)×(List<|Int×Bool)×Int)->((((List<|Int×Bool)×List Int)->Option R)×Unit)->Unit->Option R:=λ(a,b,c) (d,_) _=>bnd (UI n a (b,[],c)) λf=>d (f.1,f.2)
def UL:=Bj Ef
def JX: Ic:=cT 125 0 3 0x227ec4cc732ed847b8b5e78a6d7061634304a63d6c91f1003858c3051f4eb1308f9e9b41da6d38 C62 [⟨0,[JT]⟩] [] @Ef
def rW: ((List<|Int×Int)×List Int×Int)->(((List<|List Int)×(List<|Int×Bool)×Int)->Option R)->((((List<|List Int)×(List<|Int×Bool))->Option R)×Unit)->((List<|List Int)×(List<|Int×Bool)×Int)->Option R:=λ(a,b,c) d (f,_) (g,h,i)=>cd (i<c) (bnd (idx b i) λj=>cnd ((Option.getD (bX h j) false)) (d (g,h,(wr<|i+1)))<|bnd (UL n (a,h,j)) λl=>bnd (app g [l.2]) λm=>d (m,l.1,(wr<|i+1)))<|f (g,h)
def Mf:=rG rW
def JU: Lc 102 0 2:=bQ 0x3c382f5ef74f05e766234a164c0b028ef451b4b16dc33146cc8d68a035cdcf343f13e18d74b15b156f71d2681afcde040511a80e55ff4d063fc6db C62 [] [JX] @rW
def Ax: Nat->aK->Option ((List<|List Int)×Int)
 | 0,_=>none
 | n+1,a=>bnd (Ip n a) λb=>cnd (b != 0) (some ([],b))<|bnd (UK n (a,a.Nodes,(ln a.Nodes)) ([],[],0)) λc=>bnd (prd n) λ_=>bnd (Ls<|decide<|List.length c.1<=1000000) λ_=>bnd (Mf n (c.2,(uA c.1),(ln<|uA c.1)) ([],[],0)) λd=>some (d.1,0)
def E0: Kn:=bH 102 0x1dfd65a310d18fddca89b518e108d446fc4 C62 [⟨0,[JW]⟩,⟨2,[JU]⟩] [] Ax
abbrev C63:=E0::C62
def lS: (aK×List aQ×Int)->(((List<|Int×List Aaa)×Int)->Option R)->((((List<|Int×List Aaa))->Option R)×Unit)->((List<|Int×List Aaa)×Int)->Option R:=λ(a,b,c) d (f,_) (g,h)=>cd (h<c) (bnd (idx b h) λi=>bnd (eO n a i.ID) λj=>cnd (j.2==0) (d ((jS g i.ID j.1),(wr<|h+1)))<|d (g,(wr<|h+1)))<|f g
def ET:=rG lS
def Rf: Lc 103 0 0:=bQ 0xac0a6e4d347ff707d1125a1646943ab3e36743bde3a5d0c41d8a1fecab89fab3da415 C63 [] [] @lS
def pA: Nat->aK->Option (List<|Int×List Aaa)
 | 0,_=>none
 | n+1,a=>bnd (ET n (a,a.Arcs,(ln a.Arcs)) ([],0)) λb=>some b
end
end
section
variable {R:Type}(n:Nat)
noncomputable section
def KP: Kn:=bH 103 0xcc066190ac7b89 C63 [⟨0,[Rf]⟩] [] pA
abbrev C64:=KP::C63
def xK: Nat->aK->Int->Option (aQ×Bool)
 | 0,_,_=>none
 | n+1,a,b=>cnd (b==0) (some ((aQ.mk 0 0 0 [] 0 0),false))<|cnd (b==(-9223372036854775808)) (some ((aQ.mk 0 0 0 [] 0 0),false))<|bnd (pL n a<|iY b<|wr<|0-b) λc=>cnd c.2 (some (c.1,true))<|some (c.1,false)
def R4: Kn:=bH 148 0x17d3eefdc93d C64 [] [] xK
abbrev C65:=R4::C64
def uM(n:Nat): (List Aaa×Int)->((Int×Int)->Option R)->((Int->Option R)×Unit)->(Int×Int)->Option R:=λ(a,b) c (d,_) (f,g)=>cd (g<b) (bnd (idx a g) λh=>bnd (idx a<|wr<|g+1) λi=>bnd (idx a<|wr<|g+1) λj=>bnd (idx a g) λl=>c ((wr<|f+(wr<|(wr<|h.X*i.Y)-(wr<|j.X*l.Y))),(wr<|g+1)))<|d f
def D8:=rG uM
def QR: Lc 126 0 1:=bQ 0x3e73c40489896aa17942250d1bf401fe18633db3e3a54d38244e C65 [] [] @uM
def uN: (aK×List Int×Int)->((Int×Int)->Option R)->((aQ->Option R)×(Int->Option R)×Unit)->(Int×Int)->Option R:=λ(a,b,c) d (f,g,_) (h,i)=>cd (i<c) (bnd (idx b i) λj=>bnd (xK n a j) λl=>cnd l.2 (bnd (eO n a<|iY j<|wr<|0-j) λm=>cnd (m.2 != 0) (f l.1)<|bnd (D8 n (m.1,(wr<|(ln m.1)-1)) (0,0)) λo=>cd (j<0) (d ((wr<|h+(wr<|0-o)),(wr<|i+1)))<|d ((wr<|h+o),(wr<|i+1)))<|f l.1)<|g h
def D9:=tS uN
def QS: Lc 126 0 0:=bQ 0x1f3bb5e628bab75e761fbbaabaa6c7e4ee90b8262d5215dc38ee7a4 C65 [⟨0,[cs QR]⟩] [] @uN
def rU: Nat->aK->(List Int)->Option Int
 | 0,_,_=>none
 | n+1,a,b=>cd ((ln b) > 512) (some 0)<|bnd2 (D9 n (a,b,(ln b)) (0,0)) (λ_=>some 0) λc=>bnd (some c) λd=>some d
def Hs: Kn:=bH 126 0x2fc9b2a22c28 C65 [⟨0,[QS]⟩] [] rU
abbrev C66:=Hs::C65
def kM: (Aaa×Aaa×Aaa)->((Bool->Option R)×Unit)->Unit->Option R:=λ(a,b,c) (d,_) _=>cd (b.Y<=a.Y) (cd (a.Y<c.Y) (bnd (jK n b c a) λf=>cd (f > 0) (d true)<|d false)<|d false)<|d false
def mT:=eU kM
def xT: Lc 170 0 0:=bG 0x3d30b27481a181f203d040f67fcea1f6fdfc00ce6be0a1222675019 C66 [] [] @kM
def kL: (Aaa×Aaa×Aaa)->((Bool->Option R)×Unit)->Unit->Option R:=λ(a,b,c) (d,_) _=>cd (c.Y<=a.Y) (cd (a.Y<b.Y) (bnd (jK n b c a) λf=>cd (f<0) (d true)<|d false)<|d false)<|d false
def mS:=eU kL
def xS: Lc 170 0 1:=bG 0x175ed90ac22d2f4945483bc4a48744b1679935019 C66 [] [] @kL
def kN: (Aaa×Bool×Bool×Aaa×Aaa)->(((Bool×Bool)->Option R)×Unit)->Unit->Option R:=λ(a,b,c,d,f) (g,_) _=>bnd (tT n d f a) λh=>cnd h (g (true,c))<|bnd (mT n (a,d,f)) λi=>cnd i (g (b,(!c)))<|bnd (mS n (a,d,f)) λj=>cnd j (g (b,(!c)))<|g (b,c)
def mU:=Bj kN
def xW: Ic:=cT 170 0 5 0x2712096b301b90f23d90b5e8149195105d4c81bba8598935ad6f548 C66 [⟨0,[xT]⟩,⟨1,[xS]⟩] [] @kN
def eH: (Aaa×List Aaa)->((Bool×Bool×Int)->Option R)->(((Bool×Bool)->Option R)×Unit)->(Bool×Bool×Int)->Option R:=λ(a,b) c (d,_) (f,g,h)=>cd (h<(ln b)) (bnd (idx b<|wr<|h-1) λi=>bnd (idx b h) λj=>bnd (mU n (a,f,g,i,j)) λl=>cnd l.1 (cnd l.2 (c (true,true,(wr<|h+1)))<|c (true,false,(wr<|h+1)))<|cnd l.2 (c (false,true,(wr<|h+1)))<|c (false,false,(wr<|h+1)))<|d (f,g)
def Df:=rG eH
def xU: Lc 171 0 1:=bQ 0x19654175558db4097a54f85ae95a4355d9220cb3e92728e0dd7377bfe3 C66 [] [xW] @eH
def fR: (Aaa×(List<|Int×List Aaa)×List Int×Int)->((Bool×Bool×Int)->Option R)->(((Bool×Bool)->Option R)×Unit)->(Bool×Bool×Int)->Option R:=λ(a,b,c,d) f (g,_) (h,i,j)=>cd (j<d) (bnd (idx c j) λl=>bnd (Df n (a,(Option.getD (bX b<|iY l<|wr<|0-l) [])) (h,i,1)) λm=>f (m.1,m.2,(wr<|j+1)))<|g (h,i)
def Dg:=rG fR
def xV: Lc 171 0 0:=bQ 0x11786d7fc2f7c3a915d24f9905feb206b1ddc7953ac0 C66 [⟨0,[cs xU]⟩] [] @fR
def kO: (Aaa×(List<|Int×List Aaa)×List Int)->(((Bool×Bool)->Option R)×Unit)->Unit->Option R:=λ(a,b,c) (d,_) _=>bnd (Dg n (a,b,c,(ln c)) (false,false,0)) λf=>d (f.1,f.2)
def Dh:=Bj kO
def xX: Ic:=cT 171 0 3 0x113107def1c8d7995a75f86e98c7d35a6d245e516 C66 [⟨0,[xV]⟩] [] @kO
def eL: Nat->(List<|Int×List Aaa)->(List Int)->Aaa->Option Bool
 | 0,_,_,_=>none
 | n+1,a,b,c=>bnd (Dh n (c,a,b)) λd=>cnd d.1 (cnd d.2 (some false)<|some false)<|cnd d.2 (some true)<|some false
def Er: Kn:=bH 149 0x9d8b3531ea4eab0b8 C66 [] [xX] eL
abbrev C67:=Er::C66
def oZ: (Aaa×(List<|Int×List Aaa)×List Jr×Int×Int)->((Bool->Option R)×Unit)->Unit->Option R:=λ(a,b,c,d,f) (g,_) _=>cnd (d==0) (bnd (idx c f) λh=>bnd (eL n b h.outer a) λi=>cnd i (g true)<|g false)<|bnd (idx c f) λj=>bnd (idx c d) λl=>cd (j.twice<l.twice) (bnd (idx c f) λm=>bnd (eL n b m.outer a) λo=>cnd o (g true)<|g false)<|g false
def uC:=eU oZ
def Il: Lc 127 0 1:=bG 0xf7765266e214a650cee043f67491254e047cdde3e7cff60630df51bcd C67 [] [] @oZ
def iV: (Aaa×(List<|Int×List Aaa)×List Jr)->((Int×Int)->Option R)->((Int->Option R)×Unit)->(Int×Int)->Option R:=λ(a,b,c) d (f,_) (g,h)=>cd (h<(ln c)) (bnd (uC n (a,b,c,g,h)) λi=>cnd i (d (h,(wr<|h+1)))<|d (g,(wr<|h+1)))<|f g
def Mv:=rG iV
def Im: Lc 127 0 0:=bQ 0x8c6a25854ecd4c60e15468243cb3c50bf44c5bcd C67 [⟨0,[cs Il]⟩] [] @iV
def eG: Nat->(List<|Int×List Aaa)->(List Jr)->Aaa->Option Int
 | 0,_,_,_=>none
 | n+1,a,b,c=>bnd (Mv n (c,a,b) (0,1)) λd=>some d
def lR: Kn:=bH 127 0x79349e98882e0e129f38 C67 [⟨0,[Im]⟩] [] eG
abbrev C68:=lR::C67
def Ey(n:Nat): (aQ×Int×Int)->((Int->Option R)×Unit)->Unit->Option R:=λ(a,b,c) (d,_) _=>cnd (a.From==b) (d<|wr<|c+1)<|d c
def VU:=eU Ey
def LU: Lc 82 0 1:=bG 0x1939822375b9c1117beecaa6c3d26af42b6bd2acc214f0b7a068c7e C68 [] [] @Ey
def sN: (Int×List aQ×Int)->((Int×Int)->Option R)->((Int->Option R)×Unit)->(Int×Int)->Option R:=λ(a,b,c) d (f,_) (g,h)=>cd (h<c) (bnd (idx b h) λi=>bnd (VU n (i,a,g)) λj=>cnd (i.To==a) (d ((wr<|j+1),(wr<|h+1)))<|d (j,(wr<|h+1)))<|f g
def VV:=rG sN
def LV: Lc 82 0 0:=bQ 0x19fda547f60c5f6506edb3c24a53de46 C68 [⟨0,[cs LU]⟩] [] @sN
def kU: Nat->aK->Int->Option Int
 | 0,_,_=>none
 | n+1,a,b=>bnd (VV n (b,a.Arcs,(ln a.Arcs)) (0,0)) λc=>some c
def Dk: Kn:=bH 82 0x51c025 C68 [⟨0,[LV]⟩] [] kU
abbrev C69:=Dk::C68
end
end
section
open jH (den cds ag)
noncomputable section
def bl(x n:Nat): List Bool:=(List.range n).map λi=>x.testBit i
abbrev z0: Value:=.int .i64 0
def aPM: bS:=(.seq (.region false [] [o1 24 (.ibin .lss (tp 23) (tp 22))]) (.seq (.cond (tp 24) .skip (.exit 0)) (.seq (.block 1 (.seq (.region false [] [o1 25 (.idxAddr 1 (tp 21) (tp 23)),o1 26 (.load false 1 (tp 25)),om 10 26]) (.seq (.region false [] [o1 27 (.load true 3 (tp 3)),om 28 10,o1 29 (.callB 126 [(tp 27),(tp 28)]),om 11 29]) (.seq (.region false [] [om 30 11,o1 31 (.ibin .gtr (tp 30) (.lit z0))]) (.cond (tp 31) (.region false [] [om 32 7,om 33 11,om 34 10,o1 35 (.build [z0,bM,bM,bM] [(0,1,(tp 33)),(1,1,(tp 34))]),o1 36 (.buildSl false 4 1 [z0,bM,bM,bM] [(0,(tp 35))]),o1 37 (.append 4 80 (tp 32) (tp 36)),om 7 37]) (.region false [] [om 38 8,om 39 10,o1 40 (.buildSl true 1 1 [bM] [(0,(tp 39))]),o1 41 (.append 1 24 (tp 38) (tp 40)),om 8 41])))))) (.region false [] [o1 42 (.ibin .add (tp 23) (.lit (.int .i64 1))),om 23 42]))))
def aPL: bS:=(.seq (.region false [] [o1 46 (.ibin .lss (tp 45) (tp 44))]) (.seq (.cond (tp 46) .skip (.exit 2)) (.seq (.block 3 (.seq (.region false [] [o1 47 (.idxAddr 1 (tp 43) (tp 45)),o1 48 (.load false 1 (tp 47)),om 13 48]) (.seq (.region true [] [om 49 2,om 50 13,o1 51 (.idxAddr 1 (tp 50) (.lit z0)),o1 52 (.load false 1 (tp 51)),om 53 13,o1 54 (.idxAddr 1 (tp 53) (.lit z0)),o1 55 (.load false 1 (tp 54)),o1 56 (.un .neg (tp 55)),o1 57 (.minmax true [(tp 52),(tp 56)]),o1 58 (.lookup 3 (.lit bM) (tp 49) (tp 57) false),om 14 58]) (.seq (.region false [] [om 59 2,om 60 7,om 61 14,o1 62 (.idxAddr 2 (tp 61) (.lit z0)),o1 63 (.load true 2 (tp 62)),o1 64 (.callB 127 [(tp 59),(tp 60),(tp 63)]),om 15 64]) (.region false [] [om 65 7,om 66 15,om 67 7,om 68 15,o1 69 (.idxAddr 4 (tp 67) (tp 68)),o1 70 (.fieldAddr 2 (tp 69)),o1 71 (.load false 1 (tp 70)),om 72 13,o1 73 (.buildSl true 1 1 [bM] [(0,(tp 72))]),o1 74 (.append 1 24 (tp 71) (tp 73)),o1 75 (.idxAddr 4 (tp 65) (tp 66)),o1 76 (.fieldAddr 2 (tp 75)),⟨none,.store 1 (tp 76) (tp 74),none⟩]))))) (.region false [] [o1 77 (.ibin .add (tp 45) (.lit (.int .i64 1))),om 45 77]))))
def aPK: bS:=(.seq (.region false [] [o1 82 (.ibin .lss (tp 81) (tp 80))]) (.seq (.cond (tp 82) .skip (.exit 4)) (.seq (.block 5 (.seq (.region false [] [o1 83 (.idxAddr 3 (tp 79) (tp 81)),o1 84 (.load true 3 (tp 83)),o1 17 (.alloc [z0,z0,z0]),⟨none,.store 3 (tp 17) (tp 84),none⟩]) (.seq (.region false [] [o1 85 (.load true 3 (tp 3)),o1 86 (.fieldAddr 0 (tp 17)),o1 87 (.load false 1 (tp 86)),o1 88 (.callB 82 [(tp 85),(tp 87)]),o1 89 (.ibin .eql (tp 88) (.lit z0))]) (.cond (tp 89) (.seq (.region false [] [om 90 2,om 91 7,o1 92 (.fieldAddr 1 (tp 17)),o1 93 (.load true 2 (tp 92)),o1 94 (.callB 127 [(tp 90),(tp 91),(tp 93)]),om 18 94]) (.region true [] [om 95 7,om 96 18,om 97 7,om 98 18,o1 99 (.idxAddr 4 (tp 97) (tp 98)),o1 100 (.fieldAddr 3 (tp 99)),o1 101 (.load false 1 (tp 100)),o1 102 (.fieldAddr 0 (tp 17)),o1 103 (.load false 1 (tp 102)),o1 104 (.buildSl true 1 1 [z0] [(0,(tp 103))]),o1 105 (.append 1 8 (tp 101) (tp 104)),o1 106 (.idxAddr 4 (tp 95) (tp 96)),o1 107 (.fieldAddr 3 (tp 106)),⟨none,.store 1 (tp 107) (tp 105),none⟩])) .skip)))) (.region false [] [o1 108 (.ibin .add (tp 81) (.lit (.int .i64 1))),om 81 108]))))
theorem aME: (D7 T 104).body=(.seq (.region false [] [o1 3 (.box (tp 0)),o1 6 (.movN (.lit bM))]) (.seq (.region false [] [o1 19 (.build [z0,bM,bM,bM] []),o1 20 (.buildSl false 4 1 [z0,bM,bM,bM] [(0,(tp 19))]),om 7 20]) (.seq (.region false [] [o1 8 (.claim 1)]) (.seq (.seq (.region false [] [om 21 1,o1 22 (.lenS (tp 21)),o1 23 (.mov (.lit z0))]) (.block 0 (.mask (bl 0x18c 9) (bl 0x40 7) false (.loop (some (bl 0xe0018c 24)) false aPM)))) (.seq (.seq (.region false [] [om 43 8,o1 44 (.lenS (tp 43)),o1 45 (.mov (.lit z0))]) (.block 2 (.mask (bl 0x8c 8) (bl 0x40 7) false (.loop (some (bl 0x38000000008c 46)) false aPL)))) (.seq (.seq (.region false [] [o1 78 (.fieldAddr 0 (tp 3)),o1 79 (.load false 1 (tp 78)),o1 80 (.lenS (tp 79)),o1 81 (.mov (.lit z0))]) (.block 4 (.mask (bl 0x80 8) (bl 0x40 7) false (.loop (some (bl 0x38000000000000000008c 82)) false aPK)))) (.seq (.region false [] [om 109 7,om 6 109]) .ret))))))):=by kernel_rfl
def arV(a:dQ): Jr:=⟨a.twice,a.outer,(),()⟩
def dv1(n:Nat)(p:aK): List (List Int)->List dQ->List (List Int)->Option (List dQ×List (List Int))
 | [],l,q=>some (l,q)
 | c::cs,l,q=>bnd (rU n p c) λt=>cnd (decide (t > 0)) (dv1 n p cs (l++[⟨t,c,[],[]⟩]) q) (dv1 n p cs l (q++[c]))
def dv2(n:Nat)(m:List (Int×List Aaa)): List (List Int)->List dQ->Option (List dQ)
 | [],l=>some l
 | c::cs,l=>bnd (idx c 0) λd=>bnd (idx ((bX m (iY d (wr (0-d)))).getD []) 0) λat_=>bnd (eG n m (l.map arV) at_) λi=>bnd (idx l i) λa=>
  dv2 n m cs (l.set i.toNat ⟨a.twice,a.outer,a.inner++[c],a.alone⟩)
def dv3(n:Nat)(p:aK)(m:List (Int×List Aaa)): List Aab->List dQ->Option (List dQ)
 | [],l=>some l
 | x::xs,l=>bnd (kU n p x.ID) λd=>cnd (d==0)
  (bnd (eG n m (l.map arV) x.At) λi=>bnd (idx l i) λa=>dv3 n p m xs (l.set i.toNat ⟨a.twice,a.outer,a.inner,a.alone++[x.ID]⟩))
  (dv3 n p m xs l)
def jI: Nat->aK->List (List Int)->List (Int×List Aaa)->Option (List dQ)
 | 0,_,_,_=>none
 | n+1,p,cs,m=>bnd (Ls (decide (cs.length<n/\p.Nodes.length<n/\cs.length<=190000/\p.Nodes.length<=9000))) λ_=>bnd (dv1 n p cs [⟨0,[],[],[]⟩] []) λq=>bnd (dv2 n m q.2 q.1) λl=>dv3 n p m p.Nodes l
structure RA where
 a:dQ
 o:AV
 x:AV
 y:AV
def RA.c(r:RA): List AV:=[iv r.a.twice,r.o,r.x,r.y]
def gY(kd:Nat)(H:aY)(x:AV)(l:List (den kd)): Prop:=(x=.lit bM/\l=[])\/∃k es,x=.ms k es.length 0 es.length/\3<=k/\H[k]?=some (.blk 1 es)/\Ql kd l es
def idC: AV->Option Nat
 | .ms k _ _ _=>some k
 | _=>none
def sel(r:RA)(u:Bool): AV:=match u with
 | true=>r.y
 | false=>r.x
structure DI(H:aY)(w:List RA): Prop where
 co:∀(i:Nat) (r:RA),w[i]?=some r->Qp (.sl 3 r.a.outer) r.o
 cx:∀(i:Nat) (r:RA),w[i]?=some r->gY 12 H r.x r.a.inner
 cy:∀(i:Nat) (r:RA),w[i]?=some r->gY 3 H r.y r.a.alone
 ne:∀(i j:Nat) (r s:RA) (u v:Bool) (k:Nat),w[i]?=some r->w[j]?=some s->idC (sel r u)=some k->idC (sel s v)=some k->i=j/\u=v
theorem gY.id{kd:Nat}{H:aY}{x:AV}{l:List (den kd)}{k:Nat}(h:gY kd H x l)(hk:idC x=some k): 3<=k/\∃o,H[k]?=some o:=by
 rcases h with⟨rfl,_⟩ | ⟨k',es,rfl,h3,hh,_⟩
 .cases hk
 .cases hk;exact⟨h3,_,hh⟩
theorem gY.mono{kd:Nat}{H H':aY}{x:AV}{l:List (den kd)}(h:gY kd H x l)(hk:∀k,idC x=some k->H'[k]?=H[k]?): gY kd H' x l:=by
 rcases h with⟨rfl,h⟩ | ⟨k',es,rfl,h3,hh,q⟩
 .exact .inl ⟨rfl,h⟩
 .exact .inr ⟨k',es,rfl,h3,by rw[hk k' rfl];exact hh,q⟩
theorem gY.shut{kd:Nat}{H H':aY}{x:AV}{l:List (den kd)}{d:Nat}(h:gY kd H x l)(hk:∀k,3<=k->H'[k]?=H[k]?): Qp (.sl kd l) (eF H' 0 (d+1) x):=by
 rcases h with⟨rfl,rfl⟩ | ⟨k',es,rfl,h3,hh,q⟩
 .exact Qp.mkS (es:=[]) (.inr ⟨false,rfl⟩) trivial
 .simp only[eF,ZG,Zz,rd,hk k' h3,hh,YD,XO]
  exact Qp.mkS (.inr ⟨_,rfl⟩) ((Ez H' 0 d).ls q)
theorem gY.grow{kd:Nat}{H:aY}{x:AV}{l:List (den kd)}{bytes:Nat}{e:den kd}{row:List AV}(h:gY kd H x l)(hr:Qr (jX kd e) row)(h1:row.length=1)(hb:bytes<=100000)(hl:l.length<=200000)(h3:3<=H.length):
 ∃k es H',cP 0 H 1 bytes x [row]=some (.ms k es.length 0 es.length,H')/\3<=k/\H'[k]?=some (.blk 1 es)/\Ql kd (l++[e]) es/\(∀j,j≠k->H'[j]?=H[j]?)/\(idC x=some k\/H[k]?=none)/\H.length<=H'.length:=by
 have a1:eW 1 [row]=true:=by simp[eW,h1]
 have rm:∀z,z<=300000->lD z bytes=true:=λz hz=>by
  have:z*bytes<=300000*100000:=Y8 hz hb
  unfold lD;simp;omega
 rcases h with⟨rfl,rfl⟩ | ⟨k',es,rfl,hk,hh,q⟩
 .refine⟨H.length,[row],H++[.blk 1 [row]],?_,h3,?_,⟨hr,trivial⟩,?_,.inr (Zy (Zf _)),by simp⟩
  .show (if eW 1 [row]=true/\0<1/\lD 1 bytes=true then _ else _)=_
   rw[Zu ⟨a1,by decide,rm 1 (by decide)⟩];rfl
  .rw[ZX (Zf _),XR];rfl
  .intro j hj
   rcases ZI j H.length with h | h
   .rw[Zo h]
   .rw[Zy h,Zy (by simp;omega)]
 .have hlt:k'<H.length:=(Ze.1 hh).1
  have hes:=q.len
  refine⟨k',es++[row],H.set k' (.blk 1 (es++[row])),?_,hk,?_,q.app ⟨hr,trivial⟩,?_,.inl rfl,by simp⟩
  .show (if eW 1 [row]=true/\0<1/\lD 1 bytes=true then _ else _)=_
   rw[Zu ⟨a1,by decide,rm 1 (by decide)⟩]
   simp only[hh]
   simp only[We,Yd,rm (es.length+1) (by omega),Zz,Nat.one_ne_zero,Z9,ZG,Zh]
  .rw[Z3 hlt]
  .intro j hj;rw[Zv (Ne.symm hj)]
theorem DI.upd{H H' H2:aY}{w:List RA}{i:Nat}{r r':RA}{k:Nat}{u:Bool}(hI:DI H w)(hi:w[i]?=some r)(hk:3<=k)(hne:∀j,j≠k->H'[j]?=H[j]?)(hold:idC (sel r u)=some k\/H[k]?=none)(h2:∀j,j≠1->H2[j]?=H'[j]?)(ho:r'.o=r.o/\r'.a.outer=r.a.outer)(hx:gY 12 H2 r'.x r'.a.inner\/(r'.x=r.x/\r'.a.inner=r.a.inner/\u=true))(hy:gY 3 H2 r'.y r'.a.alone\/(r'.y=r.y/\r'.a.alone=r.a.alone/\u=false))(hu:idC (sel r' u)=some k)(hv:sel r' (!u)=sel r (!u)): DI H2 (w.set i r'):=by
 have hlt:=(Ze.1 hi).1
 have g:∀(j:Nat) (s:RA),(w.set i r')[j]?=some s->(j=i/\s=r')\/(j≠i/\w[j]?=some s):=by
  intro j s h
  by_cases hj:j=i
  .subst hj;rw[Z3 hlt] at h;cases h;exact .inl ⟨rfl,rfl⟩
  .rw[Zv (Ne.symm hj)] at h;exact .inr ⟨hj,h⟩
 have old:∀(j:Nat) (s:RA) (v:Bool) (q:Nat),w[j]?=some s->idC (sel s v)=some q->3<=q/\∃o,H[q]?=some o:=by
  intro j s v q hj hq
  cases v with
  | false=>exact (hI.cx j s hj).id hq
  | true=>exact (hI.cy j s hj).id hq
 have sep:∀(j:Nat) (s:RA) (v:Bool),w[j]?=some s->idC (sel s v)=some k->j=i/\v=u:=by
  intro j s v hj hq
  rcases hold with h | h
  .exact hI.ne j i s r v u k hj hi hq h
  .obtain⟨_,o,ho⟩:=old j s v k hj hq
   rw[h] at ho;cases ho
 have keep:∀(j:Nat) (s:RA) (v:Bool) (q:Nat),w[j]?=some s->idC (sel s v)=some q->¬(j=i/\v=u)->H2[q]?=H[q]?:=by
  intro j s v q hj hq hn
  have:=(old j s v q hj hq).1
  rw[h2 q (by omega),hne q (λe=>hn (sep j s v hj (e▸hq)))]
 refine⟨?_,?_,?_,?_⟩
 .intro j s hs
  rcases g j s hs with⟨rfl,rfl⟩ | ⟨_,hs⟩
  .rw[ho.1,ho.2];exact hI.co _ r hi
  .exact hI.co j s hs
 .intro j s hs
  rcases g j s hs with⟨rfl,rfl⟩ | ⟨hj,hs⟩
  .rcases hx with h | ⟨h1,h3,h4⟩
   .exact h
   .rw[h1,h3]
    exact (hI.cx _ r hi).mono λq hq=>keep _ r false q hi hq (by rw[h4];simp)
  .exact (hI.cx j s hs).mono λq hq=>keep j s false q hs hq (λe=>hj e.1)
 .intro j s hs
  rcases g j s hs with⟨rfl,rfl⟩ | ⟨hj,hs⟩
  .rcases hy with h | ⟨h1,h3,h4⟩
   .exact h
   .rw[h1,h3]
    exact (hI.cy _ r hi).mono λq hq=>keep _ r true q hi hq (by rw[h4];simp)
  .exact (hI.cy j s hs).mono λq hq=>keep j s true q hs hq (λe=>hj e.1)
 .have new:∀v q,idC (sel r' v)=some q->(v=u/\q=k)\/(v=!u/\idC (sel r (!u))=some q):=by
   intro v q h
   by_cases hvu:v=u
   .subst hvu;rw[hu] at h;cases h;exact .inl ⟨rfl,rfl⟩
   .have:v=!u:=by cases v<;>cases u<;>simp_all
    subst this;rw[hv] at h;exact .inr ⟨rfl,h⟩
  intro j1 j2 s1 s2 v1 v2 q e1 e2 q1 q2
  rcases g j1 s1 e1 with⟨rfl,rfl⟩ | ⟨n1,f1⟩
  .rcases g j2 s2 e2 with⟨rfl,rfl⟩ | ⟨n2,f2⟩
   .rcases new v1 q q1 with⟨rfl,rfl⟩ | ⟨rfl,o1⟩
    .rcases new v2 q q2 with⟨rfl,_⟩ | ⟨rfl,o2⟩
     .exact⟨rfl,rfl⟩
     .have:=(sep _ r (!v1) hi o2).2;cases v1<;>cases this
    .rcases new v2 q q2 with⟨rfl,rfl⟩ | ⟨rfl,o2⟩
     .have:=(sep _ r (!v2) hi o1).2;cases v2<;>cases this
     .exact⟨rfl,rfl⟩
   .rcases new v1 q q1 with⟨rfl,rfl⟩ | ⟨rfl,o1⟩
    .exact absurd (sep _ s2 v2 f2 q2).1 n2
    .exact absurd (hI.ne _ _ r s2 (!u) v2 q hi f2 o1 q2).1 (Ne.symm n2)
  .rcases g j2 s2 e2 with⟨rfl,rfl⟩ | ⟨n2,f2⟩
   .rcases new v2 q q2 with⟨rfl,rfl⟩ | ⟨rfl,o2⟩
    .exact absurd (sep _ s1 v1 f1 q1).1 n1
    .exact absurd (hI.ne _ _ s1 r v1 (!u) q f1 hi q1 o2).1 n1
   .exact hI.ne j1 j2 s1 s2 v1 v2 q f1 f2 q1 q2
theorem DI.view{H:aY}{w:List RA}(hI:DI H w)(h1:H[1]?=some (.blk 4 (w.map RA.c))): Qp (.vw 30 ((w.map RA.a).map arV)) (dI H (.ms 1 w.length 0 w.length)):=by
 simp only[dI,rd,h1,ZO,Zz,YD]
 rw[ZW (by simp)]
 refine Qp.mkV (.inr (.inr rfl)) ?_
 rw[Ya,Ya]
 have h:∀(v:List RA),(∀r∈v,Qp (.sl 3 r.a.outer) r.o)->Ql 30 (v.map (arV∘RA.a)) (v.map ((λe=>e.map Ed)∘RA.c)):=by
  intro v
  induction v with
  | nil=>exact λ_=>trivial
  | cons r v ih=>
   intro hv
   refine⟨⟨.lit _,uD.c (c:=.sl 3) (x:=r.a.outer) (hv r ZM),.undef _,.undef _,trivial⟩,ih λr hr=>hv r (ZQ _ hr)⟩
 exact h w λr hr=>by
  obtain⟨i,hi⟩:=Yi.1 hr
  exact hI.co i r hi
theorem DI.rows{H H':aY}{w:List RA}{d:Nat}(hI:DI H w)(hk:∀k,3<=k->H'[k]?=H[k]?): Ql 32 (w.map RA.a) ((w.map RA.c).map λe=>e.map (eF H' 0 (d+1))):=by
 rw[Ya]
 have h:∀(v:List RA),(∀r∈v,Qp (.sl 3 r.a.outer) r.o/\gY 12 H r.x r.a.inner/\gY 3 H r.y r.a.alone)->Ql 32 (v.map RA.a) (v.map ((λe=>e.map (eF H' 0 (d+1)))∘RA.c)):=by
  intro v
  induction v with
  | nil=>exact λ_=>trivial
  | cons r v ih=>
   intro hv
   obtain⟨a1,a2,a3⟩:=hv r ZM
   exact⟨⟨.lit _,(Ez H' 0 (d+1)).c (c:=.sl 3) (x:=r.a.outer) a1,a2.shut hk,a3.shut hk,trivial⟩,ih λr hr=>hv r (ZQ _ hr)⟩
 exact h w λr hr=>by
  obtain⟨i,hi⟩:=Yi.1 hr
  exact⟨hI.co i r hi,hI.cx i r hi,hI.cy i r hi⟩
section
variable (p:aK)(m:List (Int×List Aaa))(xn xa xf xm:AV)
structure DA(w:List RA)(H:aY): Prop where
 h0:H[0]?=some (.blk 3 [[xn,xa,xf]])
 h1:H[1]?=some (.blk 4 (w.map RA.c))
 h3:3<=H.length
 i:DI H w
variable {p m xn xa xf xm}{w:List RA}{tm:List AV}{H:aY}
variable (qn:Qp (.vw 0 p.Nodes) xn)(qa:Qp (.vw 2 p.Arcs) xa)(qf:Qp (.vw 3 p.Faces) xf)(qm:Qp (.rmp 3 14 m) xm)
theorem aGL: FOK PP T 126 ⟨[.w 4,.w 12],[3],false,λn p=>rU n p.1 p.2⟩:=by
 have e:Hs.c=⟨[.w 4,.w 12],[3],false,λn p=>rU n p.1 p.2⟩:=by kernel_rfl
 have h:=Hs.ok
 rw[e] at h
 exact h
theorem aE1: FOK PP T 82 ⟨[.w 4,.w 3],[3],false,λn p=>kU n p.1 p.2⟩:=by
 have e:Dk.c=⟨[.w 4,.w 3],[3],false,λn p=>kU n p.1 p.2⟩:=by kernel_rfl
 have h:=Dk.ok
 rw[e] at h
 exact h
theorem aJY: FOK PP T 127 ⟨[.w 29,.w 31,.w 1],[3],false,λn p=>eG n p.1 p.2.1 p.2.2⟩:=by
 have e:lR.c=⟨[.w 29,.w 31,.w 1],[3],false,λn p=>eG n p.1 p.2.1 p.2.2⟩:=by kernel_rfl
 have h:=lR.ok
 rw[e] at h
 exact h
theorem E5{k:Nat}{l:List (den k)}{a:AV}(h:Qp (.vw k l) a): Qp (.vw k l) (dI H a):=by
 obtain⟨es,h1,h2⟩:=h.inV
 rcases h1 with⟨rfl,rfl⟩ | ⟨f,rfl⟩ | rfl
 .exact Qp.mkV (es:=[]) (.inr (.inr rfl)) h2
 .exact Qp.mkV (.inr (.inr rfl)) h2
 .exact Qp.mkV (.inr (.inr rfl)) h2
theorem aRg{kk vk:Nat}{m:List (den kk×den vk)}{a:AV}(h:Qp (.rmp kk vk m) a): Qp (.rmp kk vk m) (dI H a):=by
 obtain⟨rows,h1,h2⟩:=h.inM
 rcases h1 with⟨rfl,rfl⟩ | rfl
 .exact Qp.mkM (.inl ⟨rfl,rfl⟩) h2
 .exact Qp.mkM (.inr rfl) h2
theorem aJS{α:Type}{l:List α}{i:Nat}{x:α}(h:l[i]?=some x): idx l (i:Int)=some x:=by rw[bF];exact h
theorem OE{α:Type}{l r:List α}{i:Nat}{x:α}(h:l.drop i=x::r): l[i]?=some x/\l.drop (i+1)=r/\i<l.length:=by
 have h1:(l.drop i)[0]?=some x:=by rw[h];rfl
 rw[Zw,Xm] at h1
 refine⟨h1,?_,(Ze.1 h1).1⟩
 have:l.drop (i+1)=(l.drop i).drop 1:=by rw[XD]
 rw[this,h];rfl
theorem aIm{i:Nat}(h:i<1000000): wr ((i:Int)+1)=((i+1:Nat):Int):=by
 show IntKind.i64.wrap _=_
 rw[Xe];push_cast;omega
theorem aLt{k:Nat}{l:List (den k)}{a:AV}(q:Qp (.vw k l) a): cJ H a=dI H a:=by
 obtain⟨es,h1,_⟩:=q.inV
 rcases h1 with⟨rfl,_⟩ | ⟨f,rfl⟩ | rfl<;>rfl
theorem aP6(H:aY)(o:dL): (H++[o])[H.length]?=some o:=by rw[ZX (Zf _),XR];rfl
theorem hold{H:aY}{o b:dL}{k:Nat}(h:H[k]?=some b): (H++[o])[k]?=some b:=by rw[Zo (Ze.1 h).1];exact h
include qn qa qf in
theorem aMC{n:Nat}{x y:bB}{c:List Int}{a:AV}{t:Int}(e:rU n p c=some t)(hx:aI tm x=.agg [xn,xa,xf])(hy:aI tm y=a)(q:Qp (.vw 3 c) a): aM PP (fC PP T n) 0 (.callB 126 [x,y]) tm H=some (iv t,H):=by
 obtain⟨A,r,h1,h2⟩:=w8 (a:=.undef) aGL (n:=n) (p:=(p,c)) (r:=t) e (λr=>⟨r,rfl⟩) (aw:=[cJ H (.agg [xn,xa,xf]),dI H a])
  ⟨Qh.mkA ⟨.p _ _ (E5 qn),.p _ _ (E5 qa),.p _ _ (E5 qf),trivial⟩,.p _ _ (E5 q),trivial⟩
 simp only[aM,ZE,Yn,hx,hy,aLt q,h1]
 rw[h2];rfl
theorem aSw{n:Nat}{x y:bB}{a:AV}{l:List Int}{t:Int}(q:Qp (.sl 3 l) a)(hx:aI tm x=iv t)(hy:aI tm y=a): aM PP (fC PP T n) 0 (.build [z0,bM,bM,bM] [(0,1,x),(1,1,y)]) tm H=some (.agg [iv t,a,.lit bM,.lit bM],H):=by
 obtain⟨es,h1,_⟩:=q.inS
 simp only[aM,ZE,Yn,hx,hy]
 rcases h1 with⟨rfl,_⟩ | ⟨f,rfl⟩<;>rfl
theorem aNO{n:Nat}{y:bB}{a:AV}{k:Nat}{l:List (den k)}{z:Value}(q:Qp (.sl k l) a)(hy:aI tm y=a): aM PP (fC PP T n) 0 (.buildSl true 1 1 [z] [(0,y)]) tm H=some (.sl true [[Ed a]],H):=by
 obtain⟨es,h1,_⟩:=q.inS
 simp only[aM,ZE,Yn,hy]
 rcases h1 with⟨rfl,_⟩ | ⟨f,rfl⟩<;>rfl
theorem DA.grow{o y:bB}{a:AV}{l:List Int}{t:Int}(d:DA xn xa xf w H)(hn:∀r∈w,r.x=.lit bM/\r.y=.lit bM)(q:Qp (.sl 3 l) a){b:dL}: DA xn xa xf (w++[⟨⟨t,l,[],[]⟩,a,.lit bM,.lit bM⟩]) ((H++[b]).set 1 (.blk 4 (w.map RA.c++[[iv t,a,.lit bM,.lit bM]]))):=by
 have hw:∀r∈w++[(⟨⟨t,l,[],[]⟩,a,.lit bM,.lit bM⟩:RA)],r.x=.lit bM/\r.y=.lit bM:=by
  intro r hr
  rcases ZD.1 hr with hr | hr
  .exact hn r hr
  .rw[ZJ.1 hr];exact⟨rfl,rfl⟩
 have g:∀(i:Nat) (r:RA),(w++[(⟨⟨t,l,[],[]⟩,a,.lit bM,.lit bM⟩:RA)])[i]?=some r->w[i]?=some r\/r=⟨⟨t,l,[],[]⟩,a,.lit bM,.lit bM⟩:=by
  intro i r hr
  rcases ZI i w.length with h | h
  .rw[Zo h] at hr;exact .inl hr
  .rw[ZX h] at hr
   exact .inr (ZJ.1 (Zg hr))
 refine⟨?_,?_,by simp;have:=d.h3;omega,⟨?_,?_,?_,?_⟩⟩
 .rw[Zv (by decide)];exact hold d.h0
 .rw[Z3 (by simp;have:=d.h3;omega),YJ];rfl
 .intro i r hr
  rcases g i r hr with h | rfl
  .exact d.i.co i r h
  .exact q
 .intro i r hr
  rcases g i r hr with h | rfl
  .rcases d.i.cx i r h with h1 | ⟨k,es,h1,_⟩
   .exact .inl h1
   .rw[(hn r (Zg h)).1] at h1;cases h1
  .exact .inl ⟨rfl,rfl⟩
 .intro i r hr
  rcases g i r hr with h | rfl
  .rcases d.i.cy i r h with h1 | ⟨k,es,h1,_⟩
   .exact .inl h1
   .rw[(hn r (Zg h)).2] at h1;cases h1
  .exact .inl ⟨rfl,rfl⟩
 .intro i j r s u v k hr hs hk _
  have:=hw r (Zg hr)
  cases u with
  | true=>simp only[sel,this.2,idC] at hk;cases hk
  | false=>simp only[sel,this.1,idC] at hk;cases hk
abbrev dB(xm:AV)(w:List RA): List (Nat×AV):=[(2,xm),(3,.ptr 0 1 0 0),(7,.ms 1 w.length 0 w.length)]
include qn qa qf in
theorem aKn{n N:Nat}(cs:List (List Int)){xc:AV}(qc:Qp (.vw 12 cs) xc)(hb:cs.length<=190000): ∀(todo:List (List Int)) (k i:Nat) (tm:List AV) (H:aY) (w:List RA) (q:List (List Int)) (qr:List (List AV)) (r:List dQ×List (List Int)),cs.drop i=todo->todo.length<k->w.length+todo.length<=200000->qr.length+todo.length<=200000->
 DA xn xa xf w H->(∀r∈w,r.x=.lit bM/\r.y=.lit bM)->H[2]?=some (.blk 1 qr)->Ql 12 q qr->At 110 ((8,.ms 2 qr.length 0 qr.length)::(21,xc)::(22,iv (cs.length:Nat))::(23,iv i)::dB xm w) tm->dv1 n p todo (w.map RA.a) q=some r->
 WL PP (fC PP T n) n 0 N (bl 0xe0018c 24) false aPM k ⟨tm,H⟩ λx s=>x=.exit 0/\∃w' qr',w'.map RA.a=r.1/\DA xn xa xf w' s.heap/\(∀r∈w',r.x=.lit bM/\r.y=.lit bM)/\s.heap[2]?=some (.blk 1 qr')/\Ql 12 r.2 qr'/\At 110 ((8,.ms 2 qr'.length 0 qr'.length)::dB xm w') s.tmps/\w'.length<=200000/\qr'.length<=200000
 | todo,0,i,tm,H,w,q,qr,r,_,h,_,_,_,_,_,_,_,_=>by omega
 | todo,k+1,i,tm,H,w,q,qr,r,hd,hk,hw,hq,d,hn,h2,ql,ha,h=>by
  apply WL.step
  show WC PP (fC PP T n) n 0 aPM ⟨cX (bl 0xe0018c 24) tm,H⟩ _
  replace ha:At 110 ((8,.ms 2 qr.length 0 qr.length)::(21,xc)::(22,iv (cs.length:Nat))::(23,iv i)::dB xm w) (cX (bl 0xe0018c 24) tm):=
   .cons (ha.live _ rfl rfl) (.cons (ha.live _ rfl rfl) (.cons (ha.live _ rfl rfl) (.cons (ha.live _ rfl rfl) (.cons (ha.live _ rfl rfl) (.cons (ha.live _ rfl rfl) (.cons (ha.live _ rfl rfl) (ha.mask _)))))))
  generalize cX (bl 0xe0018c 24) tm=tm at ha |-
  refine WC.seq (WC.reg (AO.op ha (Lg (ha.get rfl) (ha.get rfl) rfl) λtm ha=>AO.nil ha (WC.seq ?_)))
  cases todo with
  | nil=>
   have hi:cs.length<=i:=by
    have:=congrArg List.length hd
    rw[ZV,Z1] at this;omega
   cases h
   refine WC.condF (ha.get rfl) (YI (by omega)) (WC.exit ?_)
   exact⟨rfl,w,qr,rfl,d,hn,h2,ql,.cons (ha.get rfl) (.cons (ha.get rfl) (.cons (ha.get rfl) (.cons (ha.get rfl) ⟨ha.ln,λ_ _ h=>by cases h⟩))),by omega,by omega⟩
  | cons c todo=>
   obtain⟨g1,g2,g3⟩:=OE hd
   simp only[Yc] at hk hw hq
   simp only[dv1] at h
   obtain⟨t,e2,h⟩:=bD h
   refine WC.condT (ha.get rfl) (Yj (by omega)) (WC.skip (WC.seq (WC.block (WC.seq ?_))))
   obtain⟨row,q1,e25⟩:=aGq (P:=PP) (cf:=fC PP T n) (fl:=0) (H:=H) (s:=1) qc (ha.get (k:=21) rfl) (ha.get (k:=23) rfl) (aJS g1) rfl
   obtain⟨x,rfl,qx⟩:∃x,row=[x]/\Qp (.sl 3 c) x:=by
    match row,q1 with
    | [x],h=>exact⟨x,rfl,h.1⟩
   have hl:=qx.w
   refine WC.reg (AO.op ha e25 λtm ha=>AO.op ha (aKh (ha.get rfl)) λtm ha=>AO.mov ha rfl λtm ha=>AO.nil ha (WC.seq (WC.reg ?_)))
   refine AO.op ha (Pc (ha.get rfl) d.h0 rfl rfl (Zf 3) rfl) λtm ha=>AO.mov ha rfl λtm ha=>AO.op ha (aMC qn qa qf e2 (ha.get rfl) (ha.get rfl) hl) λtm ha=>AO.mov ha rfl λtm ha=>AO.nil ha (WC.seq (WC.reg (AO.mov ha rfl λtm ha=>AO.op ha (Lg (ha.get rfl) rfl rfl) λtm ha=>AO.nil ha ?_)))
   cases ht:decide (t > 0) with
   | true=>
    rw[ht] at h
    refine WC.condT (ha.get rfl) ht (WC.reg (AO.mov ha rfl λtm ha=>AO.mov ha rfl λtm ha=>AO.mov ha rfl λtm ha=>AO.op ha (aSw qx (ha.get rfl) (ha.get rfl)) λtm ha=>AO.op (v:=.ms H.length 1 0 1) (H':=H++[.blk 4 [[iv t,x,.lit bM,.lit bM]]]) ha (by
     simp only[aM,ZE,Yn,ha.get (k:=35) rfl];rfl) λtm ha=>AO.op ha (aNT (es:=w.map RA.c) (ys:=[[iv t,x,.lit bM,.lit bM]]) (by rw[ZO];exact ha.get rfl) (by
      rw[ha.get (k:=36) rfl];simp only[rd,aP6];rfl) (hold d.h1) (by decide) rfl (by simp) (by decide) (by simp;omega)) λtm ha=>AO.mov ha rfl λtm ha=>AO.nil ha ?_))
    refine WC.reg (AO.op ha (Lg (ha.get rfl) rfl rfl) λtm ha=>AO.mov ha rfl λtm ha=>AO.nil ha ?_)
    have d':=d.grow (o:=.tmp 0) (y:=.tmp 0) (t:=t) hn qx (b:=.blk 4 [[iv t,x,.lit bM,.lit bM]])
    refine aKn cs qc hb todo k (i+1) _ _ (w++[⟨⟨t,c,[],[]⟩,x,.lit bM,.lit bM⟩]) q qr r g2 (by omega) (by simp;omega) (by omega) d' ?_ ?_ ql ?_ (by rw[YJ];exact h)
    .intro r hr
     rcases ZD.1 hr with hr | hr
     .exact hn r hr
     .rw[ZJ.1 hr];exact⟨rfl,rfl⟩
    .rw[Zv (by decide)];exact hold h2
    .exact .cons (ha.get rfl) (.cons (ha.get rfl) (.cons (ha.get rfl) (.cons (by rw[<-aIm (by omega)];exact ha.get rfl) (.cons (ha.get rfl) (.cons (ha.get rfl) (.cons (by rw[ha.get (k:=7) rfl];simp) ⟨ha.ln,λ_ _ h=>by cases h⟩))))))
   | false=>
    rw[ht] at h
    refine WC.condF (ha.get rfl) ht (WC.reg (AO.mov ha rfl λtm ha=>AO.mov ha rfl λtm ha=>AO.op ha (aNO qx (ha.get rfl)) λtm ha=>AO.op ha (aNT (es:=qr) (ys:=[[Ed x]]) (ha.get rfl) (by rw[ha.get (k:=40) rfl];rfl) h2 (by decide) rfl (by simp) (by decide) (by simp;omega)) λtm ha=>AO.mov ha rfl λtm ha=>AO.nil ha ?_))
    refine WC.reg (AO.op ha (Lg (ha.get rfl) rfl rfl) λtm ha=>AO.mov ha rfl λtm ha=>AO.nil ha ?_)
    have d':DA xn xa xf w (H.set 2 (.blk 1 (qr++[[Ed x]]))):=⟨by rw[Zv (by decide)];exact d.h0,by rw[Zv (by decide)];exact d.h1,by simp;exact d.h3,⟨d.i.co,λi r hr=>(d.i.cx i r hr).mono λk hk=>Zv (by have:=((d.i.cx i r hr).id hk).1;omega),λi r hr=>(d.i.cy i r hr).mono λk hk=>Zv (by have:=((d.i.cy i r hr).id hk).1;omega),d.i.ne⟩⟩
    refine aKn cs qc hb todo k (i+1) _ _ w (q++[c]) (qr++[[Ed x]]) r g2 (by omega) (by omega) (by simp;omega) d' hn ?_ (ql.app ⟨⟨uD.c (c:=.sl 3) (x:=c) qx,trivial⟩,trivial⟩) ?_ h
    .rw[Z3 (Ze.1 h2).1]
    .exact .cons (ha.get rfl) (.cons (ha.get rfl) (.cons (ha.get rfl) (.cons (by rw[<-aIm (by omega)];exact ha.get rfl) (.cons (ha.get rfl) (.cons (ha.get rfl) (.cons (ha.get rfl) ⟨ha.ln,λ_ _ h=>by cases h⟩))))))
end
section
variable {p:aK}{m:List (Int×List Aaa)}{xn xa xf xm:AV}{w:List RA}{tm:List AV}{H:aY}
variable (qn:Qp (.vw 0 p.Nodes) xn)(qa:Qp (.vw 2 p.Arcs) xa)(qf:Qp (.vw 3 p.Faces) xf)(qm:Qp (.rmp 3 14 m) xm)
theorem aOO{a:Aaa}{e:List AV}(q:Qr (jX 1 a) e): e=[iv a.X,iv a.Y]:=by
 match e,q with
 | [x,y],h=>obtain⟨h1,h2,_⟩:=h;cases h1;cases h2;rfl
theorem aMu{a:Int}{e:List AV}(q:Qr (jX 3 a) e): e=[iv a]:=by
 match e,q with
 | [x],h=>obtain⟨h1,_⟩:=h;cases h1;rfl
include qm in
theorem aKi{n:Nat}{x y z:bB}{i:Int}{a:Aaa}(d:DA xn xa xf w H)(hx:aI tm x=xm)(hy:aI tm y=.ms 1 w.length 0 w.length)(hz:aI tm z=.agg [iv a.X,iv a.Y])(h:eG n m ((w.map RA.a).map arV) a=some i):
 aM PP (fC PP T n) 0 (.callB 127 [x,y,z]) tm H=some (iv i,H):=by
 have e:cJ H xm=dI H xm:=by
  obtain⟨rows,h1,_⟩:=qm.inM
  rcases h1 with⟨rfl,_⟩ | rfl<;>rfl
 obtain⟨A,r,h1,h2⟩:=w8 (a:=.undef) aJY (n:=n) (p:=(m,(w.map RA.a).map arV,a)) (r:=i) h (λr=>⟨r,rfl⟩) (aw:=[dI H xm,dI H (.ms 1 w.length 0 w.length),.agg [iv a.X,iv a.Y]])
  ⟨.p _ _ (aRg qm),.p _ _ (d.i.view d.h1),Qh.mkA ⟨.l _,.l _,trivial⟩,trivial⟩
 have e2:cJ H (.ms 1 w.length 0 w.length)=dI H (.ms 1 w.length 0 w.length):=rfl
 have e3:cJ H (.agg [iv a.X,iv a.Y])=.agg [iv a.X,iv a.Y]:=rfl
 simp only[aM,ZE,Yn,hx,hy,hz,e,e2,e3,h1]
 rw[h2];rfl
include qm in
theorem aPJ{n:Nat}{k:Int}{x y:bB}(hx:aI tm x=xm)(hy:aI tm y=iv k): ∃a,aM PP (fC PP T n) 0 (.lookup 3 (.lit bM) x y false) tm H=some (a,H)/\Qp (.sl 1 ((bX m k).getD [])) a:=by
 have hq:Qt 2 ⟨[(0,.rmp 3 14 m),(1,.lit (.int .i64 k))],List.replicate H.length .gone⟩ ⟨[xm,iv k],H⟩:=⟨rfl,λt v hv=>(by
  match t,hv with
  | 0,hv=>cases hv;exact⟨_,rfl,.p _ _ qm⟩
  | 1,hv=>cases hv;exact⟨_,rfl,.l _⟩
  | _+2,hv=>cases hv),aNG H⟩
 obtain⟨v,A',tv,S',h1,_,h3,h4⟩:=b8 (P:=PP) (T:=T) (cf:=fC PP T n) (n:=n) (d:=some 0) (E:=((⟨C0,[],[],[],[]⟩:En PP T 2 0 .skip).xe GlC.g)) (K:=λtv _=>some tv) (r:=.sl 1 ((bX m k).getD []))
  (En.ok _ _) hq (kt:=3) (z:=.lit bM) (m:=.tmp 0) (k:=.tmp 1) (ok:=false) (by kernel_rfl)
 rw[aNP h1] at h1
 obtain rfl:=ZR h4
 have e:aM PP (fC PP T n) 0 (.lookup 3 (.lit bM) x y false) tm H=aM PP (fC PP T n) 0 (.lookup 3 (.lit bM) (.tmp 0) (.tmp 1) false) [xm,iv k] H:=by
  simp only[aM,hx,hy];rfl
 exact⟨v,e.trans h1,h3.pu trivial⟩
theorem RA.c_le(r:RA){k:Nat}(h:k<=4): k<=r.c.length:=h
def aRP: Bool->Nat
 | true=>3
 | false=>2
def upR(u:Bool)(r:RA)(a':dQ)(v:AV): RA:=match u with
 | true=>⟨a',r.o,r.x,v⟩
 | false=>⟨a',r.o,v,r.y⟩
theorem aKl{u:Bool}{j bytes:Nat}{ro:RA}{a':dQ}{row:List AV}{kd:Nat}{l:List (den kd)}{e:den kd}(d:DA xn xa xf w H)(hj:w[j]?=some ro)(hr:Qr (jX kd e) row)(h1:row.length=1)(hb:bytes<=100000)(hl:l.length<=200000)(hc:gY kd H (sel ro u) l)(ho:a'.outer=ro.a.outer/\a'.twice=ro.a.twice)(hx:(u=false/\∀H' v,gY kd H' v (l++[e])->gY 12 H' v a'.inner)\/(u=true/\a'.inner=ro.a.inner))(hy:(u=true/\∀H' v,gY kd H' v (l++[e])->gY 3 H' v a'.alone)\/(u=false/\a'.alone=ro.a.alone)):
 ∃k z H',cP 0 H 1 bytes (sel ro u) [row]=some (.ms k z 0 z,H')/\H'[1]?=some (.blk 4 (w.map RA.c))/\H'[2]?=H[2]? /\
  DA xn xa xf (w.set j (upR u ro a' (.ms k z 0 z))) (H'.set 1 (.blk 4 ((w.map RA.c).set j (aT ro.c (aRP u) [.ms k z 0 z])))):=by
 obtain⟨k,es,H',g1,g2,g3,g4,g5,g6,g7⟩:=hc.grow hr h1 hb hl d.h3
 have e1:H'[1]?=some (.blk 4 (w.map RA.c)):=(g5 1 (by omega)).trans d.h1
 refine⟨k,es.length,H',g1,e1,g5 2 (by omega),?_⟩
 have es1:aT ro.c (aRP u) [AV.ms k es.length 0 es.length]=(upR u ro a' (.ms k es.length 0 es.length)).c:=by
  cases u<;>simp only[upR,RA.c,ho.2]<;>rfl
 rw[es1,<-Xz]
 have h3:=d.h3
 have hn:∀q,3<=q->(H'.set 1 (dL.blk 4 ((w.set j (upR u ro a' (.ms k es.length 0 es.length))).map RA.c)))[q]?=H'[q]?:=λq hq=>Zv (by omega)
 refine⟨by rw[Zv (by decide),g5 0 (by omega)];exact d.h0,Z3 (by omega),by simp;omega,?_⟩
 have hC:gY kd (H'.set 1 (.blk 4 ((w.set j (upR u ro a' (.ms k es.length 0 es.length))).map RA.c))) (.ms k es.length 0 es.length) (l++[e]):=.inr ⟨k,es,rfl,g2,by rw[hn k g2];exact g3,g4⟩
 refine d.i.upd (u:=u) hj g2 g5 g6 (λq hq=>Zv (Ne.symm hq)) (by cases u<;>exact⟨rfl,ho.1⟩) ?_ ?_ (by cases u<;>rfl) (by cases u<;>rfl)
 .rcases hx with⟨rfl,h⟩ | ⟨rfl,h⟩
  .exact .inl (h _ _ hC)
  .exact .inr ⟨rfl,h,rfl⟩
 .rcases hy with⟨rfl,h⟩ | ⟨rfl,h⟩
  .exact .inl (h _ _ hC)
  .exact .inr ⟨rfl,h,rfl⟩
include qm in
theorem aNU{n N:Nat}(cs:List (List Int))(qr:List (List AV))(qq:Ql 12 cs qr)(hb:cs.length<=200000): ∀(todo:List (List Int)) (k i:Nat) (tm:List AV) (H:aY) (w:List RA) (r:List dQ),cs.drop i=todo->todo.length<k->i<=cs.length->
 DA xn xa xf w H->H[2]?=some (.blk 1 qr)->(∀(j:Nat) (s:RA),w[j]?=some s->s.a.inner.length+s.a.alone.length<=i)->At 110 ((43,.ms 2 qr.length 0 qr.length)::(44,iv (qr.length:Nat))::(45,iv i)::dB xm w) tm->dv2 n m todo (w.map RA.a)=some r->
 WL PP (fC PP T n) n 0 N (bl 0x38000000008c 46) false aPL k ⟨tm,H⟩ λx s=>x=.exit 2/\∃w',w'.map RA.a=r/\DA xn xa xf w' s.heap/\(∀(j:Nat) (s:RA),w'[j]?=some s->s.a.inner.length+s.a.alone.length<=cs.length)/\At 110 (dB xm w') s.tmps
 | todo,0,i,tm,H,w,r,_,h,_,_,_,_,_,_=>by omega
 | todo,k+1,i,tm,H,w,r,hd,hk,hi0,d,h2,hs,ha,h=>by
  have hql:qr.length=cs.length:=qq.len
  apply WL.step
  show WC PP (fC PP T n) n 0 aPL ⟨cX (bl 0x38000000008c 46) tm,H⟩ _
  replace ha:At 110 ((43,.ms 2 qr.length 0 qr.length)::(44,iv (qr.length:Nat))::(45,iv i)::dB xm w) (cX (bl 0x38000000008c 46) tm):=
   .cons (ha.live _ rfl rfl) (.cons (ha.live _ rfl rfl) (.cons (ha.live _ rfl rfl) (.cons (ha.live _ rfl rfl) (.cons (ha.live _ rfl rfl) (.cons (ha.live _ rfl rfl) (ha.mask _))))))
  generalize cX (bl 0x38000000008c 46) tm=tm at ha |-
  refine WC.seq (WC.reg (AO.op ha (Lg (ha.get rfl) (ha.get rfl) rfl) λtm ha=>AO.nil ha (WC.seq ?_)))
  cases todo with
  | nil=>
   have hi:cs.length<=i:=by
    have:=congrArg List.length hd
    rw[ZV,Z1] at this;omega
   cases h
   refine WC.condF (ha.get rfl) (YI (by omega)) (WC.exit ⟨rfl,w,rfl,d,λj s hj=>ZB (hs j s hj) hi0,.cons (ha.get rfl) (.cons (ha.get rfl) (.cons (ha.get rfl) ⟨ha.ln,λ_ _ h=>by cases h⟩))⟩)
  | cons c todo=>
   obtain⟨g1,g2,g3⟩:=OE hd
   simp only[Yc] at hk
   simp only[dv2] at h
   obtain⟨t,e1,h⟩:=bD h
   obtain⟨a,e2,h⟩:=bD h
   obtain⟨ix,e3,h⟩:=bD h
   obtain⟨ra,e4,h⟩:=bD h
   refine WC.condT (ha.get rfl) (Yj (by omega)) (WC.skip (WC.seq (WC.block (WC.seq ?_))))
   obtain⟨row,hrow,q1⟩:=qq.get g1
   obtain⟨x,rfl,qx⟩:∃x,row=[x]/\Qp (.sl 3 c) x:=by
    match row,q1 with
    | [x],h=>exact⟨x,rfl,h.1⟩
   refine WC.reg (AO.op ha (aCI (ha.get rfl) (ha.get rfl) h2 rfl (Wc i) (by simp;omega)) λtm ha=>AO.op ha (Pc (v:=x) (e:=[x]) (ha.get rfl) h2 rfl (by simpa using hrow) (Zf 1) rfl) λtm ha=>AO.mov ha rfl λtm ha=>AO.nil ha (WC.seq (WC.reg ?_)))
   obtain⟨r1,q1,e51⟩:=aGq (P:=PP) (cf:=fC PP T n) (fl:=0) (tm:=[x,iv 0]) (x:=.tmp 0) (i:=.tmp 1) (H:=H) (s:=1) qx.w rfl rfl e1 rfl
   obtain rfl:=aMu q1
   have e51:∀{tm:List AV} {y:bB},aI tm y=x->aM PP (fC PP T n) 0 (.idxAddr 1 y (.lit z0)) tm H=some (.rptr [iv t],H):=λ{tm y} hy=>by
    rw[<-e51];simp only[aM,hy];rfl
   have e58:=λ(tm:List AV)=>aPJ (H:=H) (n:=n) (tm:=[xm,iv (iY t (wr (0-t)))]) qm (x:=.tmp 0) (y:=.tmp 1) rfl rfl
   obtain⟨b,e58,qb⟩:=e58 tm
   have e58:∀{tm:List AV} {y z:bB},aI tm y=xm->aI tm z=iv (iY t (wr (0-t)))->aM PP (fC PP T n) 0 (.lookup 3 (.lit bM) y z false) tm H=some (b,H):=λ{tm y z} hy hz=>by
    rw[<-e58];simp only[aM,hy,hz];rfl
   obtain⟨r2,q2,e62⟩:=aGq (P:=PP) (cf:=fC PP T n) (fl:=0) (tm:=[b,iv 0]) (x:=.tmp 0) (i:=.tmp 1) (H:=H) (s:=2) qb.w rfl rfl e2 rfl
   obtain rfl:=aOO q2
   have e62:∀{tm:List AV} {y:bB},aI tm y=b->aM PP (fC PP T n) 0 (.idxAddr 2 y (.lit z0)) tm H=some (.rptr [iv a.X,iv a.Y],H):=λ{tm y} hy=>by
    rw[<-e62];simp only[aM,hy];rfl
   refine AO.mov ha rfl λtm ha=>AO.mov ha rfl λtm ha=>AO.op ha (e51 (ha.get rfl)) λtm ha=>AO.op ha (aKh (ha.get rfl)) λtm ha=>AO.mov ha rfl λtm ha=>AO.op ha (e51 (ha.get rfl)) λtm ha=>AO.op ha (aKh (ha.get rfl)) λtm ha=>AO.op ha (aSx (ha.get rfl)) λtm ha=>AO.op ha (aSy (ha.get rfl) (ha.get rfl)) λtm ha=>AO.op ha (e58 (ha.get rfl) (ha.get rfl)) λtm ha=>AO.mov ha rfl λtm ha=>AO.nil ha (WC.seq (WC.reg ?_))
   refine AO.mov ha rfl λtm ha=>AO.mov ha rfl λtm ha=>AO.mov ha rfl λtm ha=>AO.op ha (e62 (ha.get rfl)) λtm ha=>AO.op ha (aNR (n:=2) (ha.get rfl) rfl) λtm ha=>AO.op ha (aKi qm d (ha.get rfl) (ha.get rfl) (ha.get rfl) e3) λtm ha=>AO.mov ha rfl λtm ha=>AO.nil ha (WC.reg ?_)
   obtain⟨f1,f2,f3⟩:=pP e4
   obtain⟨ro,f4,rfl⟩:∃ro,w[ix.toNat]?=some ro/\ro.a=ra:=by
    rw[Zk,Zq] at f2;exact f2
   have hlt:ix.toNat<w.length:=(Ze.1 f4).1
   have hbo:=hs _ _ f4
   have f5:(w.map RA.c)[ix.toNat]?=some ro.c:=by rw[Zk,f4];rfl
   obtain⟨kk,z,H',p1,p2,p3,p4⟩:=aKl (u:=false) (bytes:=24) (a':=⟨ro.a.twice,ro.a.outer,ro.a.inner++[c],ro.a.alone⟩) (kd:=12) (l:=ro.a.inner) (e:=c) (row:=[Ed x]) d f4 ⟨uD.c (c:=.sl 3) (x:=c) qx,trivial⟩ rfl (by decide) (by omega) (d.i.cx _ _ f4) ⟨rfl,rfl⟩ (.inl ⟨rfl,λ_ _ h=>h⟩) (.inr ⟨rfl,rfl⟩)
   refine AO.mov ha rfl λtm ha=>AO.mov ha rfl λtm ha=>AO.mov ha rfl λtm ha=>AO.mov ha rfl λtm ha=>AO.op ha (aCI (ha.get rfl) (ha.get rfl) d.h1 (by simp) f1 hlt) λtm ha=>AO.op ha (aCJ (ha.get rfl)) λtm ha=>AO.op ha (Pc (v:=ro.x) (ha.get rfl) d.h1 (by simp) f5 (ro.c_le (by decide)) rfl) λtm ha=>AO.mov ha rfl λtm ha=>AO.op ha (aNO qx (ha.get rfl)) λtm ha=>AO.op ha (aKk (ha.get rfl) (by rw[ha.get (k:=73) rfl];rfl) p1) λtm ha=>
    AO.op ha (aCI (ha.get rfl) (ha.get rfl) p2 (by simp) f1 hlt) λtm ha=>AO.op ha (aCJ (ha.get rfl)) λtm ha=>AO.sto ha (aSv (ha.get rfl) (ha.get rfl) p2 (by simp) f5 (ro.c_le (by decide)) (by decide)) (AO.nil ha (WC.reg ?_))
   refine AO.op ha (Lg (ha.get rfl) rfl rfl) λtm ha=>AO.mov ha rfl λtm ha=>AO.nil ha ?_
   refine aNU cs qr qq hb todo k (i+1) _ _ _ r g2 (by omega) (by omega) p4 (by rw[Zv (by decide),p3];exact h2) ?_ ?_ (by rw[Xz];exact h)
   .intro j s hj
    by_cases e:ix.toNat=j
    .subst e
     rw[Z3 hlt] at hj;cases hj
     simp only[upR,Zh,Yd];omega
    .rw[Zv e] at hj
     exact Xl (hs j s hj)
   .exact .cons (ha.get rfl) (.cons (ha.get rfl) (.cons (by rw[<-aIm (by omega)];exact ha.get rfl) (.cons (ha.get rfl) (.cons (ha.get rfl) (.cons (by rw[Yr];exact ha.get rfl) ⟨ha.ln,λ_ _ h=>by cases h⟩)))))
end
section
variable {p:aK}{m:List (Int×List Aaa)}{xn xa xf xm:AV}{w:List RA}{tm:List AV}{H:aY}
variable (qn:Qp (.vw 0 p.Nodes) xn)(qa:Qp (.vw 2 p.Arcs) xa)(qf:Qp (.vw 3 p.Faces) xf)(qm:Qp (.rmp 3 14 m) xm)
include qn qa qf in
theorem aKj{n:Nat}{x y:bB}{c t:Int}(e:kU n p c=some t)(hx:aI tm x=.agg [xn,xa,xf])(hy:aI tm y=iv c): aM PP (fC PP T n) 0 (.callB 82 [x,y]) tm H=some (iv t,H):=by
 obtain⟨A,r,h1,h2⟩:=w8 (a:=.undef) aE1 (n:=n) (p:=(p,c)) (r:=t) e (λr=>⟨r,rfl⟩) (aw:=[cJ H (.agg [xn,xa,xf]),iv c])
  ⟨Qh.mkA ⟨.p _ _ (E5 qn),.p _ _ (E5 qa),.p _ _ (E5 qf),trivial⟩,.l _,trivial⟩
 have e2:cJ H (iv c)=iv c:=rfl
 simp only[aM,ZE,Yn,hx,hy,e2,h1]
 rw[h2];rfl
theorem aPi{a:Aab}{e:List AV}(q:Qr (jX 0 a) e): e=[iv a.ID,iv a.At.X,iv a.At.Y]:=by
 match e,q with
 | [x,y,z],h=>obtain⟨h1,h2,h3,_⟩:=h;cases h1;cases h2;cases h3;rfl
theorem DA.more(d:DA xn xa xf w H)(o:dL): DA xn xa xf w (H++[o]):=by
 have g:∀k,3<=k->k<H.length->(H++[o])[k]?=H[k]?:=λk _ h=>Zo h
 refine⟨hold d.h0,hold d.h1,by simp;have:=d.h3;omega,⟨d.i.co,λi r hr=>(d.i.cx i r hr).mono λk hk=>?_,λi r hr=>(d.i.cy i r hr).mono λk hk=>?_,d.i.ne⟩⟩
 .obtain⟨h3,b,hb⟩:=(d.i.cx i r hr).id hk
  exact g k h3 (Ze.1 hb).1
 .obtain⟨h3,b,hb⟩:=(d.i.cy i r hr).id hk
  exact g k h3 (Ze.1 hb).1
include qn qa qf qm in
theorem aKm{n N:Nat}(hb:p.Nodes.length<=9000): ∀(todo:List Aab) (k i:Nat) (tm:List AV) (H:aY) (w:List RA) (r:List dQ),p.Nodes.drop i=todo->todo.length<k->i<=p.Nodes.length->
 DA xn xa xf w H->(∀(j:Nat) (s:RA),w[j]?=some s->s.a.inner.length+s.a.alone.length<=190000+i)->At 110 ((79,xn)::(80,iv (p.Nodes.length:Nat))::(81,iv i)::dB xm w) tm->dv3 n p m todo (w.map RA.a)=some r->
 WL PP (fC PP T n) n 0 N (bl 0x38000000000000000008c 82) false aPK k ⟨tm,H⟩ λx s=>x=.exit 4/\∃w',w'.map RA.a=r/\DA xn xa xf w' s.heap/\At 110 (dB xm w') s.tmps
 | todo,0,i,tm,H,w,r,_,h,_,_,_,_,_=>by omega
 | todo,k+1,i,tm,H,w,r,hd,hk,hi0,d,hs,ha,h=>by
  apply WL.step
  show WC PP (fC PP T n) n 0 aPK ⟨cX (bl 0x38000000000000000008c 82) tm,H⟩ _
  replace ha:At 110 ((79,xn)::(80,iv (p.Nodes.length:Nat))::(81,iv i)::dB xm w) (cX (bl 0x38000000000000000008c 82) tm):=
   .cons (ha.live _ rfl rfl) (.cons (ha.live _ rfl rfl) (.cons (ha.live _ rfl rfl) (.cons (ha.live _ rfl rfl) (.cons (ha.live _ rfl rfl) (.cons (ha.live _ rfl rfl) (ha.mask _))))))
  generalize cX (bl 0x38000000000000000008c 82) tm=tm at ha |-
  refine WC.seq (WC.reg (AO.op ha (Lg (ha.get rfl) (ha.get rfl) rfl) λtm ha=>AO.nil ha (WC.seq ?_)))
  cases todo with
  | nil=>
   have hi:p.Nodes.length<=i:=by
    have:=congrArg List.length hd
    rw[ZV,Z1] at this;omega
   cases h
   exact WC.condF (ha.get rfl) (YI (by omega)) (WC.exit ⟨rfl,w,rfl,d,.cons (ha.get rfl) (.cons (ha.get rfl) (.cons (ha.get rfl) ⟨ha.ln,λ_ _ h=>by cases h⟩))⟩)
  | cons c todo=>
   obtain⟨g1,g2,g3⟩:=OE hd
   simp only[Yc] at hk
   simp only[dv3] at h
   obtain⟨t,e1,h⟩:=bD h
   refine WC.condT (ha.get rfl) (Yj (by omega)) (WC.skip (WC.seq (WC.block (WC.seq ?_))))
   obtain⟨row,q1,e83⟩:=aGq (P:=PP) (cf:=fC PP T n) (fl:=0) (H:=H) (s:=3) qn (ha.get (k:=79) rfl) (ha.get (k:=81) rfl) (aJS g1) rfl
   obtain rfl:=aPi q1
   have d:=d.more (.blk 3 [[iv c.ID,iv c.At.X,iv c.At.Y]])
   have hH:((H++[dL.blk 3 [[iv 0,iv 0,iv 0]]]).set H.length (.blk 3 [[iv c.ID,iv c.At.X,iv c.At.Y]]))=H++[.blk 3 [[iv c.ID,iv c.At.X,iv c.At.Y]]]:=by
    rw[List.set_append_right _ _ (Zf _),XR];rfl
   have e17:∀{tm:List AV},aM PP (fC PP T n) 0 (.alloc [z0,z0,z0]) tm H=some (.ptr H.length 1 0 0,H++[.blk 3 [[iv 0,iv 0,iv 0]]]):=rfl
   have est:∀{tm:List AV} {x y:bB},aI tm x=.ptr H.length 1 0 0->aI tm y=.agg [iv c.ID,iv c.At.X,iv c.At.Y]->aM PP (fC PP T n) 0 (.store 3 x y) tm (H++[.blk 3 [[iv 0,iv 0,iv 0]]])=some (.lit bL,H++[.blk 3 [[iv c.ID,iv c.At.X,iv c.At.Y]]]):=λ{tm x y} hx hy=>by
    rw[<-hH];simp only[aM,hx,hy,cellsOf,wO,aP6];rfl
   refine WC.reg (AO.op ha e83 λtm ha=>AO.op ha (aNR (n:=3) (ha.get rfl) rfl) λtm ha=>AO.op ha e17 λtm ha=>AO.sto ha (est (ha.get rfl) (ha.get rfl)) (AO.nil ha (WC.seq (WC.reg ?_))))
   have hn:=aP6 H (.blk 3 [[iv c.ID,iv c.At.X,iv c.At.Y]])
   generalize H++[.blk 3 [[iv c.ID,iv c.At.X,iv c.At.Y]]]=H2 at d hn |-
   refine AO.op ha (Pc (ha.get rfl) d.h0 rfl rfl (Zf 3) rfl) λtm ha=>AO.op ha (aCJ (ha.get rfl)) λtm ha=>AO.op ha (Pc (v:=iv c.ID) (ha.get rfl) hn rfl rfl (Zj rfl) rfl) λtm ha=>AO.op ha (aKj qn qa qf e1 (ha.get rfl) (ha.get rfl)) λtm ha=>AO.op ha (Lg (ha.get rfl) rfl rfl) λtm ha=>AO.nil ha ?_
   cases ht:(t==0) with
   | false=>
    rw[ht] at h
    refine WC.condF (ha.get rfl) ht (WC.skip (WC.reg (AO.op ha (Lg (ha.get rfl) rfl rfl) λtm ha=>AO.mov ha rfl λtm ha=>AO.nil ha ?_)))
    exact aKm hb todo k (i+1) _ _ w r g2 (by omega) (by omega) d (λj s hj=>Xl (hs j s hj)) (.cons (ha.get rfl) (.cons (ha.get rfl) (.cons (by rw[<-aIm (by omega)];exact ha.get rfl) (.cons (ha.get rfl) (.cons (ha.get rfl) (.cons (ha.get rfl) ⟨ha.ln,λ_ _ h=>by cases h⟩)))))) h
   | true=>
    rw[ht] at h
    obtain⟨ix,e3,h⟩:=bD h
    obtain⟨ra,e4,h⟩:=bD h
    refine WC.condT (ha.get rfl) ht (WC.seq (WC.reg ?_))
    refine AO.mov ha rfl λtm ha=>AO.mov ha rfl λtm ha=>AO.op ha (aCJ (ha.get rfl)) λtm ha=>AO.op ha (Pc (v:=.agg [iv c.At.X,iv c.At.Y]) (ha.get rfl) hn rfl rfl (Zj rfl) rfl) λtm ha=>AO.op ha (aKi qm d (ha.get rfl) (ha.get rfl) (ha.get rfl) e3) λtm ha=>AO.mov ha rfl λtm ha=>AO.nil ha (WC.reg ?_)
    obtain⟨f1,f2,f3⟩:=pP e4
    obtain⟨ro,f4,rfl⟩:∃ro,w[ix.toNat]?=some ro/\ro.a=ra:=by
     rw[Zk,Zq] at f2;exact f2
    have hlt:ix.toNat<w.length:=(Ze.1 f4).1
    have hbo:=hs _ _ f4
    have f5:(w.map RA.c)[ix.toNat]?=some ro.c:=by rw[Zk,f4];rfl
    obtain⟨kk,z,H',p1,p2,p3,p4⟩:=aKl (u:=true) (bytes:=8) (a':=⟨ro.a.twice,ro.a.outer,ro.a.inner,ro.a.alone++[c.ID]⟩) (kd:=3) (l:=ro.a.alone) (e:=c.ID) (row:=[iv c.ID]) d f4 ⟨.lit _,trivial⟩ rfl (by decide) (by omega) (d.i.cy _ _ f4) ⟨rfl,rfl⟩ (.inr ⟨rfl,rfl⟩) (.inl ⟨rfl,λ_ _ h=>h⟩)
    refine AO.mov ha rfl λtm ha=>AO.mov ha rfl λtm ha=>AO.mov ha rfl λtm ha=>AO.mov ha rfl λtm ha=>AO.op ha (aCI (ha.get rfl) (ha.get rfl) d.h1 (by simp) f1 hlt) λtm ha=>AO.op ha (aCJ (ha.get rfl)) λtm ha=>AO.op ha (Pc (v:=ro.y) (ha.get rfl) d.h1 (by simp) f5 (ro.c_le (by decide)) rfl) λtm ha=>AO.op ha (aCJ (ha.get rfl)) λtm ha=>AO.op ha (Pc (v:=iv c.ID) (ha.get rfl) hn rfl rfl (Zj rfl) rfl) λtm ha=>AO.op (v:=.sl true [[iv c.ID]]) (H':=H2) ha (by
     simp only[aM,ZE,Yn,ha.get (k:=103) rfl];rfl) λtm ha=>AO.op ha (aKk (ha.get rfl) (by rw[ha.get (k:=104) rfl];rfl) p1) λtm ha=>
     AO.op ha (aCI (ha.get rfl) (ha.get rfl) p2 (by simp) f1 hlt) λtm ha=>AO.op ha (aCJ (ha.get rfl)) λtm ha=>AO.sto ha (aSv (ha.get rfl) (ha.get rfl) p2 (by simp) f5 (ro.c_le (by decide)) (by decide)) (AO.nil ha (WC.reg ?_))
    refine AO.op ha (Lg (ha.get rfl) rfl rfl) λtm ha=>AO.mov ha rfl λtm ha=>AO.nil ha ?_
    refine aKm hb todo k (i+1) _ _ _ r g2 (by omega) (by omega) p4 ?_ ?_ (by rw[Xz];exact h)
    .intro j s hj
     by_cases e:ix.toNat=j
     .subst e
      rw[Z3 hlt] at hj;cases hj
      simp only[upR,Zh,Yd];omega
     .rw[Zv e] at hj
      exact Xl (hs j s hj)
    .exact .cons (ha.get rfl) (.cons (ha.get rfl) (.cons (by rw[<-aIm (by omega)];exact ha.get rfl) (.cons (ha.get rfl) (.cons (ha.get rfl) (.cons (by rw[Yr];exact ha.get rfl) ⟨ha.ln,λ_ _ h=>by cases h⟩)))))
end
theorem aH9(n:Nat)(p:aK)(cs:List (List Int))(m:List (Int×List Aaa))(r:List dQ)(h:jI n p cs m=some r){xn xa xf xc xm:AV}(qn:Qp (.vw 0 p.Nodes) xn)(qa:Qp (.vw 2 p.Arcs) xa)(qf:Qp (.vw 3 p.Faces) xf)(qc:Qp (.vw 12 cs) xc)(qm:Qp (.rmp 3 14 m) xm):
 ∃w H,fC PP T n 0 104 [.agg [xn,xa,xf],xc,xm] []=some (.ms 1 w.length 0 w.length,H)/\w.map RA.a=r/\DA xn xa xf w H:=by
 cases n with
 | zero=>cases h
 | succ n=>
  rw[jI] at h
  obtain⟨_,eg,h⟩:=bD h
  obtain⟨b1,b2,b3,b4⟩:=Zl (yO eg)
  obtain⟨lq,e1,h⟩:=bD h
  obtain⟨l2,e2,h⟩:=bD h
  have key:WC PP (fC PP T n) n 0 (D7 T 104).body ⟨[.agg [xn,xa,xf],xc,xm]++List.replicate 107 (.lit bL),[]⟩ λx s=>x=.ret/\∃w,w.map RA.a=r/\DA xn xa xf w s.heap/\aI s.tmps (.tmp 6)=.ms 1 w.length 0 w.length:=by
   rw[aME]
   have ha:At 110 [(0,.agg [xn,xa,xf]),(1,xc),(2,xm)] ([.agg [xn,xa,xf],xc,xm]++List.replicate 107 (.lit bL)):=.cons rfl (.cons rfl (.cons rfl ⟨rfl,λ_ _ h=>by cases h⟩))
   generalize [AV.agg [xn,xa,xf],xc,xm]++List.replicate 107 (.lit bL)=tm at ha
   refine WC.seq (WC.reg (AO.op (v:=.ptr 0 1 0 0) (H':=[.blk 3 [[xn,xa,xf]]]) ha (by simp only[aM,ha.get (k:=0) rfl];rfl) λtm ha=>AO.op (v:=.sl false []) (H':=[.blk 3 [[xn,xa,xf]]]) ha rfl λtm ha=>AO.nil ha (WC.seq (WC.reg ?_))))
   refine AO.op (v:=.agg [iv 0,.lit bM,.lit bM,.lit bM]) (H':=[.blk 3 [[xn,xa,xf]]]) ha rfl λtm ha=>AO.op (v:=.ms 1 1 0 1) (H':=[.blk 3 [[xn,xa,xf]],.blk 4 [[iv 0,.lit bM,.lit bM,.lit bM]]]) ha (by simp only[aM,ZE,Yn,ha.get (k:=19) rfl];rfl) λtm ha=>AO.mov ha rfl λtm ha=>AO.nil ha (WC.seq (WC.reg ?_))
   refine AO.op (v:=.ms 2 0 0 0) (H':=[.blk 3 [[xn,xa,xf]],.blk 4 [[iv 0,.lit bM,.lit bM,.lit bM]],.blk 1 []]) ha rfl λtm ha=>AO.nil ha (WC.seq (WC.seq (WC.reg ?_)))
   refine AO.mov ha rfl λtm ha=>AO.op ha (aNQ qc (ha.get rfl)) λtm ha=>AO.op (v:=iv 0) ha rfl λtm ha=>AO.nil ha ?_
   have d0:DA xn xa xf [⟨⟨0,[],[],[]⟩,.lit bM,.lit bM,.lit bM⟩] [.blk 3 [[xn,xa,xf]],.blk 4 [[iv 0,.lit bM,.lit bM,.lit bM]],.blk 1 []]:=by
    have g:∀(i:Nat) (r:RA),[(⟨⟨0,[],[],[]⟩,.lit bM,.lit bM,.lit bM⟩:RA)][i]?=some r->r=⟨⟨0,[],[],[]⟩,.lit bM,.lit bM,.lit bM⟩:=λi r hr=>ZJ.1 (Zg hr)
    refine⟨rfl,rfl,Zf 3,⟨λi r hr=>?_,λi r hr=>?_,λi r hr=>?_,λi j r s u v k hr _ hk _=>?_⟩⟩
    .rw[g i r hr];exact Qp.mkS (.inl ⟨rfl,rfl⟩) trivial
    .rw[g i r hr];exact .inl ⟨rfl,rfl⟩
    .rw[g i r hr];exact .inl ⟨rfl,rfl⟩
    .rw[g i r hr] at hk;cases u<;>cases hk
   refine WC.block (WC.mask (WC.loop ((aKn (xm:=xm) qn qa qf cs qc b3 cs n 0 tm _ _ [] [] lq rfl b1 (by simp;omega) (by simp;omega) d0 (λr hr=>by rw[ZJ.1 hr];exact⟨rfl,rfl⟩) rfl trivial (.cons (ha.get rfl) (.cons (ha.get rfl) (.cons (ha.get rfl) (.cons (ha.get rfl) (.cons (ha.get rfl) (.cons (ha.get rfl) (.cons (ha.get rfl) ⟨ha.ln,λ_ _ h=>by cases h⟩))))))) e1).imp ?_)))
   rintro x s ⟨rfl,w,qr,rw1,d1,hn,h2,ql,ha,hw,hq⟩
   show WC PP (fC PP T n) n 0 _ ⟨cX (bl 0x18c 9) s.tmps,s.heap⟩ _
   replace ha:At 110 ((8,.ms 2 qr.length 0 qr.length)::dB xm w) (cX (bl 0x18c 9) s.tmps):=.cons (ha.live _ rfl rfl) (.cons (ha.live _ rfl rfl) (.cons (ha.live _ rfl rfl) (.cons (ha.live _ rfl rfl) (ha.mask _))))
   generalize cX (bl 0x18c 9) s.tmps=tm at ha
   generalize s.heap=H at d1 h2
   refine WC.seq (WC.seq (WC.reg (AO.mov ha rfl λtm ha=>AO.op (v:=iv (qr.length:Nat)) (H':=H) ha (by simp only[aM,ha.get (k:=43) rfl]) λtm ha=>AO.op (v:=iv 0) ha rfl λtm ha=>AO.nil ha ?_)))
   have hql:qr.length=lq.2.length:=ql.len
   have hin:∀(j:Nat) (s:RA),w[j]?=some s->s.a.inner.length+s.a.alone.length<=0:=λj s hj=>by
    have hm:=hn s (Zg hj)
    have c1:s.a.inner=[]:=by
     rcases d1.i.cx j s hj with⟨_,h⟩ | ⟨k,es,h,_⟩
     .exact h
     .rw[hm.1] at h;cases h
    have c2:s.a.alone=[]:=by
     rcases d1.i.cy j s hj with⟨_,h⟩ | ⟨k,es,h,_⟩
     .exact h
     .rw[hm.2] at h;cases h
    rw[c1,c2];exact Zf _
   have hlq:lq.2.length<=cs.length:=by
    have:∀(cs:List (List Int)) (l:List dQ) (q:List (List Int)) (r:List dQ×List (List Int)),dv1 n p cs l q=some r->r.2.length<=q.length+cs.length:=by
     intro cs
     induction cs with
     | nil=>intro l q r h;cases h;exact Zf _
     | cons c cs ih=>
      intro l q r h
      simp only[dv1] at h
      obtain⟨t,_,h⟩:=bD h
      simp only[Yc]
      cases ht:decide (t > 0) with
      | true=>rw[ht] at h;have:=ih _ _ _ h;omega
      | false=>rw[ht] at h;have:=ih _ _ _ h;rw[Zh,Yd] at this;omega
    have:=this cs _ _ _ e1
    simp only[Z1] at this;omega
   refine WC.block (WC.mask (WC.loop ((aNU (xn:=xn) (xa:=xa) (xf:=xf) qm lq.2 qr ql (by omega) lq.2 n 0 tm _ w l2 rfl (by omega) (ZG _) d1 h2 hin (.cons (ha.get rfl) (.cons (ha.get rfl) (.cons (ha.get rfl) (.cons (ha.get rfl) (.cons (ha.get rfl) (.cons (ha.get rfl) ⟨ha.ln,λ_ _ h=>by cases h⟩)))))) (by rw[rw1];exact e2)).imp ?_)))
   rintro x s ⟨rfl,w2,rw2,d2,hs2,ha⟩
   show WC PP (fC PP T n) n 0 _ ⟨cX (bl 0x8c 8) s.tmps,s.heap⟩ _
   replace ha:At 110 (dB xm w2) (cX (bl 0x8c 8) s.tmps):=.cons (ha.live _ rfl rfl) (.cons (ha.live _ rfl rfl) (.cons (ha.live _ rfl rfl) (ha.mask _)))
   generalize cX (bl 0x8c 8) s.tmps=tm at ha
   generalize s.heap=H at d2
   refine WC.seq (WC.seq (WC.reg (AO.op ha (aCJ (ha.get rfl)) λtm ha=>AO.op ha (Pc (v:=xn) (ha.get rfl) d2.h0 rfl rfl (Zj rfl) rfl) λtm ha=>AO.op ha (aNQ qn (ha.get rfl)) λtm ha=>AO.op (v:=iv 0) ha rfl λtm ha=>AO.nil ha ?_)))
   refine WC.block (WC.mask (WC.loop ((aKm qn qa qf qm b4 p.Nodes n 0 tm _ w2 r rfl b2 (ZG _) d2 (λj s hj=>by have:=hs2 j s hj;omega) (.cons (ha.get rfl) (.cons (ha.get rfl) (.cons (ha.get rfl) (.cons (ha.get rfl) (.cons (ha.get rfl) (.cons (ha.get rfl) ⟨ha.ln,λ_ _ h=>by cases h⟩)))))) (by rw[rw2];exact h)).imp ?_)))
   rintro x s ⟨rfl,w3,rw3,d3,ha⟩
   show WC PP (fC PP T n) n 0 _ ⟨cX (bl 0x80 8) s.tmps,s.heap⟩ _
   replace ha:At 110 [(7,.ms 1 w3.length 0 w3.length)] (cX (bl 0x80 8) s.tmps):=.cons (ha.live _ rfl rfl) (ha.mask _)
   generalize cX (bl 0x80 8) s.tmps=tm at ha
   exact WC.seq (WC.reg (AO.mov ha rfl λtm ha=>AO.mov ha rfl λtm ha=>AO.nil ha (WC.ret ⟨rfl,w3,rw3,d3,ha.get rfl⟩)))
  obtain⟨x,s,k1,rfl,w,rfl,d,k2⟩:=key
  refine⟨w,s.heap,?_,rfl,d⟩
  rw[o4 (D7 T 104) (by kernel_rfl)]
  have e:(D7 T 104).nt=110:=by kernel_rfl
  have e2:(D7 T 104).rets=[.tmp 6]:=by kernel_rfl
  rw[e]
  show aEr _ (eS PP (fC PP T n) n 0 (D7 T 104).body ⟨[.agg [xn,xa,xf],xc,xm]++List.replicate 107 (.lit bL),[]⟩)=_
  rw[k1]
  simp only[aEr,e2,lL,Ow,k2,kC]
theorem aEz: FOK PP T 104 ⟨[.w 4,.w 28,.w 29],[33],true,λn p=>jI n p.1 p.2.1 p.2.2⟩:=by
 rintro n ⟨p,cs,m⟩ r h aw q
 match aw,q with
 | [pl,xc,xm],q=>
 obtain⟨q1,q2,q3,_⟩:=q
 obtain⟨b,rfl,q4⟩:=Qh.inA (cs:=[.vw 0 p.Nodes,.vw 2 p.Arcs,.vw 3 p.Faces]) q1
 clear q1
 match b,q4 with
 | [xn,xa,xf],q4=>
 obtain⟨qn,qa,qf,_⟩:=q4
 replace qn:=Qh.pu (v:=.vw 0 p.Nodes) qn trivial
 replace qa:=Qh.pu (v:=.vw 2 p.Arcs) qa trivial
 replace qf:=Qh.pu (v:=.vw 3 p.Faces) qf trivial
 have qc:Qp (.vw 12 cs) xc:=Qh.pu (v:=.vw 12 cs) q2 trivial
 have qm:Qp (.rmp 3 14 m) xm:=Qh.pu (v:=.rmp 3 14 m) q3 trivial
 obtain⟨w,H,k1,rfl,d⟩:=aH9 n p cs m r h qn qa qf qc qm
 have hw:(w.map RA.c).length=w.length:=ZO _
 refine⟨[.ms 1 w.length 0 w.length],H,k1,?_,?_,?_⟩
 .intro H1
  refine⟨.p _ _ ?_,trivial⟩
  show Qp (.sl 32 (w.map RA.a)) (eF H 0 6 (.ms 1 w.length 0 w.length))
  simp only[eF,ZG,Zz,rd,d.h1,hw,YD]
  rw[ZW (by simp)]
  exact Qp.mkS (.inr ⟨_,rfl⟩) (d.i.rows (d:=4) λk _=>rfl)
 .intro a ha l e
  rw[ZJ.1 ha] at e;cases e
 .intro _ k y us hv
  cases hv
  refine⟨_,[],_,rfl,?_,d.i.rows (d:=5) (H':=H.set 1 (.blk 4 (w.map RA.c++[List.replicate 4 .undef]))) λk hk=>Zv (by omega)⟩
  simp only[PA,d.h1,hw,Y5,Xr]
  rfl
def QY: Kn:=⟨104,_,aEz⟩
end
end
end Go.Proofs.YtabioopnpgiijaaGreatDoor.Av
