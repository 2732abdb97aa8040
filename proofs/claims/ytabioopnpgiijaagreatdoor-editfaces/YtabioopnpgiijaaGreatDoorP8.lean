/- A part of the proof of a law. -/
import Derived.Test.YtabioopnpgiijaaGreatDoorP7
set_option maxRecDepth 100000
set_option maxHeartbeats 4000000
set_option linter.all false
namespace Go.Proofs.YtabioopnpgiijaaGreatDoor.Av
open Go
section
variable {R:Type}(n:Nat)
noncomputable section
def HY(n:Nat): (aM×Int)->((Bool->Option R)×Unit)->Unit->Option R:=λ(a,b) (c,_) _=>cd ((ln a.Nodes) > b) (c true)<|cd ((ln a.Arcs) > b) (c true)<|cd ((ln a.Faces) > b) (c true)<|c false
def r4:=fK HY
def U7: Lc 28 0 0:=bJ 0x7183e316d564efaacf17582889 C0 [] [] @HY
def HX(n:Nat): (aM×Int×Int×Int)->((Bool->Option R)×Unit)->Unit->Option R:=λ(a,b,c,d) (f,_) _=>cd (d<(ln a.Arcs)) (cd (c<=b) (f true)<|f false)<|f false
def p9:=fK HX
def U6: Lc 28 0 2:=bJ 0x1182cf7243fc88395dcaada54f18e942887 C0 [] [] @HX
def Iu: (aM×Int)->((Int×Int)->Option R)->((Int->Option R)×Unit)->(Int×Int)->Option R:=λ(a,b) c (d,_) (f,g)=>bnd (p9 n (a,b,f,g)) λh=>cnd h (bnd (idx a.Arcs g) λi=>c ((wr<|f+(pH (ln i.Via)<|wr<|b+1)),(wr<|g+1)))<|d f
def aD3:=pM Iu
def U8: Lc 28 0 1:=bR 0xdc29a19823d59083b3b6e47 C0 [⟨0,[cs U6]⟩] [] @Iu
def U9: Nat->aM->Int->Option Bool
 | 0,_,_=>none
 | n+1,a,b=>bnd (r4 n (a,b)) λc=>cnd c (some false)<|bnd (aD3 n (a,b) (0,0)) λd=>cd (d<=b) (some true)<|some false
def aG6: Kn:=bK 28 0x748581 C0 [⟨0,[U7]⟩,⟨1,[U8]⟩] [] U9
abbrev C1:=aG6::C0
def HU: (aJ×Int)->((Bool->Option R)×Unit)->Unit->Option R:=λ(a,b) (c,_) _=>bnd (U9 n a.Plan b) λd=>cnd d (cd ((ln a.Features) > b) (c true)<|c false)<|c true
def o9:=fK HU
def U3: Lc 9 0 0:=bJ 0x4f0a14dea608c48785a00828ff389 C1 [] [] @HU
def HT(n:Nat): (aJ×Int×Int×Int)->((Bool->Option R)×Unit)->Unit->Option R:=λ(a,b,c,d) (f,_) _=>cd (d<(ln a.Features)) (cd (c<=b) (f true)<|f false)<|f false
def o8:=fK HT
def U2: Lc 9 0 2:=bJ 0xc3154f14fd695d9e8ab5a94a3ae79493ed937 C1 [] [] @HT
def It: (aJ×Int)->((Int×Int)->Option R)->((Int->Option R)×Unit)->(Int×Int)->Option R:=λ(a,b) c (d,_) (f,g)=>bnd (o8 n (a,b,f,g)) λh=>cnd h (bnd (idx a.Features g) λi=>c ((wr<|f+(pH (ln i.Parts)<|wr<|b+1)),(wr<|g+1)))<|d f
def aD2:=pM It
def U4: Lc 9 0 1:=bR 0x994bfcc42ef373dfb18b87a837 C1 [⟨0,[cs U2]⟩] [] @It
def U5: Nat->aJ->Int->Option Bool
 | 0,_,_=>none
 | n+1,a,b=>bnd (o9 n (a,b)) λc=>cnd c (some false)<|bnd (aD2 n (a,b) (0,0)) λd=>cd (d<=b) (some true)<|some false
def aG5: Kn:=bK 9 0x29e517 C1 [⟨0,[U3]⟩,⟨1,[U4]⟩] [] U5
abbrev C2:=aG5::C1
def Ca(n:Nat): (List aN×Int×Int×Int)->((Bool->Option R)×Unit)->Unit->Option R:=λ(a,b,c,d) (f,_) _=>cd (d<(ln a)) (cd (c<=b) (f true)<|f false)<|f false
def Kh:=fK Ca
def HQ: Lc 10 0 1:=bJ 0x151de2797d12ce1386ad26e433f381409343daf74 C2 [] [] @Ca
def pG: (List aN×Int)->((Int×Int)->Option R)->((Int->Option R)×Unit)->(Int×Int)->Option R:=λ(a,b) c (d,_) (f,g)=>bnd (Kh n (a,b,f,g)) λh=>cnd h (bnd (idx a g) λi=>bnd (idx a g) λj=>bnd (idx a g) λl=>c ((wr<|(wr<|(wr<|(wr<|f+1)+(pH (ln i.Via) b))+(pH (ln j.Parts) b))+(pH ((l.Name.size:Nat):Int) b)),(wr<|g+1)))<|d f
def QU:=pM pG
def HR: Lc 10 0 0:=bR 0x1219f862e608e6c11cd2755ddfd80ab5b74 C2 [⟨0,[cs HQ]⟩] [] @pG
def Ir: Nat->(List aN)->Int->Option Bool
 | 0,_,_=>none
 | n+1,a,b=>bnd (QU n (a,b) (0,0)) λc=>cd (c<=b) (some true)<|some false
def o6: Kn:=bK 10 0x511dc4fa8 C2 [⟨0,[HR]⟩] [] Ir
abbrev C3:=o6::C2
def T7: Nat->aJ->(List aN)->Option Bool
 | 0,_,_=>none
 | n+1,a,b=>bnd (U5 n a 60) λc=>cnd c (bnd (Ir n b 400) λd=>cnd d (some true)<|some false)<|some false
def aG3: Kn:=bK 2 0x272df3547 C3 [] [] T7
abbrev C4:=aG3::C3
def Io: Nat->Int->Option (List aN)
 | 0,_=>none
 | n+1,a=>some [(aN.mk 1 1 0 0 0 (Aaa.mk 0 0) [] (⟨#[]⟩:ByteArray) []),(aN.mk 4 1 1 1 a (Aaa.mk 0 0) [(Aaa.mk 10 0),(Aaa.mk 10 10),(Aaa.mk 0 10)] (⟨#[]⟩:ByteArray) [])]
def T6: Kn:=bK 11 0x62ea0ba05608972a9937 C4 [] [] Io
abbrev C5:=T6::C4
def oZ: Nat->(List Aab)->Option (List Aab)
 | 0,_=>none
 | n+1,a=>bnd (rep (Aab.mk 0<|Aaa.mk 0 0) (ln a)<|ln a) λb=>bnd (cpy b (0,List.length b) a) λc=>bnd (Ks true) λ_=>some c
def MP: Kn:=bK 63 0x1bd532cf11cfeeab64 C5 [] [] oZ
abbrev C6:=MP::C5
def mJ: Nat->(List aR)->Option (List aR)
 | 0,_=>none
 | n+1,a=>bnd (rep (aR.mk 0 0 0 [] 0 0) (ln a)<|ln a) λb=>bnd (cpy b (0,List.length b) a) λc=>bnd (Ks true) λ_=>some c
def PX: Kn:=bK 64 0x27c54df5d0de3eec0376 C6 [] [] mJ
abbrev C7:=PX::C6
def bH: Nat->(List Int)->Option (List Int)
 | 0,_=>none
 | n+1,a=>bnd (rep 0 (ln a)<|ln a) λb=>bnd (cpy b (0,List.length b) a) λc=>some c
def PW: Kn:=bK 36 0x2405f7d29f07 C7 [] [] bH
abbrev C8:=PW::C7
def jR: Nat->(List aI)->Option (List aI)
 | 0,_=>none
 | n+1,a=>bnd (rep (aI.mk 0 0 0 (⟨#[]⟩:ByteArray) []) (ln a)<|ln a) λb=>bnd (cpy b (0,List.length b) a) λc=>bnd (Ks true) λ_=>some c
def Si: Kn:=bK 65 0x27f91bb34c7b42a C8 [] [] jR
abbrev C9:=Si::C8
def cE: Nat->(List Aaa)->Option (List Aaa)
 | 0,_=>none
 | n+1,a=>bnd (rep (Aaa.mk 0 0) (ln a)<|ln a) λb=>bnd (cpy b (0,List.length b) a) λc=>some c
def GM: Kn:=bK 35 0x33c98f1c99c5 C9 [] [] cE
abbrev C10:=GM::C9
def mO: (List Int×List Aab×List aI×Int)->((List aR×Int)->Option R)->(((List aR)->Option R)×Unit)->(List aR×Int)->Option R:=λ(a,b,c,d) f (g,_) (h,i)=>cd (i<d) (bnd (gM h (List.length h) i) λ_=>bnd (idx h i) λj=>bnd (cE n j.Via) λl=>bnd (gM h (List.length h) i) λ_=>bnd (idx h i) λm=>f ((List.set h (Int.toNat i)<|aR.mk m.ID m.From m.To l m.Left m.Right),(wr<|i+1)))<|g h
def Th:=pM mO
def QC: Lc 29 0 0:=bR 0x9632492366ce7c93ca9b4fbd5c2be3e52d591ad3d3fa6803a5b8c71c6aa46c2002b4f C10 [] [] @mO
def mN: (List Int×List Aab×List aR×Int)->((List aI×Int)->Option R)->(((List aI)->Option R)×Unit)->(List aI×Int)->Option R:=λ(a,b,c,d) f (g,_) (h,i)=>cd (i<d) (bnd (gM h (List.length h) i) λ_=>bnd (idx h i) λj=>bnd (bH n j.Parts) λl=>bnd (gM h (List.length h) i) λ_=>bnd (idx h i) λm=>f ((List.set h (Int.toNat i)<|aI.mk m.ID m.Kind m.Class m.Name l),(wr<|i+1)))<|g h
def Tg:=pM mN
def QB: Lc 29 0 1:=bR 0x206f1ed9d61e63c0358ebbe666c2b998c8ce129e22deb21206a124fb69943ab9fa2b15178ef C10 [] [] @mN
def a8: Nat->aJ->Option aJ
 | 0,_=>none
 | n+1,a=>bnd (oZ n a.Plan.Nodes) λb=>bnd (mJ n a.Plan.Arcs) λc=>bnd (bH n a.Plan.Faces) λd=>bnd (jR n a.Features) λf=>bnd (Th n (d,b,f,(ln c)) (c,0)) λg=>bnd (Tg n (d,b,g,(ln f)) (f,0)) λh=>some<|aJ.mk (aM.mk b g d) h
def R3: Kn:=bK 29 0x12503d1b5758 C10 [⟨0,[QC]⟩,⟨1,[QB]⟩] [] a8
abbrev C11:=R3::C10
def dD: Nat->Int->Option Int
 | 0,_=>none
 | n+1,a=>cnd (a==1) (some 1)<|cnd (a==2) (some 1)<|cnd (a==8) (some 1)<|cnd (a==3) (some 2)<|cnd (a==4) (some 2)<|cnd (a==5) (some 3)<|cnd (a==6) (some 3)<|cnd (a==7) (some 3)<|some 0
def PS: Kn:=bK 38 0x2e4a4a C11 [] [] dD
abbrev C12:=PS::C11
def Bj(n:Nat): Int->((Bool->Option R)×Unit)->Unit->Option R:=λa (b,_) _=>cnd (a==1) (b true)<|cnd (a==3) (b true)<|b false
def Jw:=fK Bj
def GO: Lc 39 0 1:=bJ 0x4e869e465d3605a11f13b93099a77 C12 [] [] @Bj
def Bk: aN->((aN->Option R)×Unit)->Unit->Option R:=λa (b,_) _=>bnd (Jw n a.Kind) λc=>cnd c (b<|aN.mk a.Kind a.ID a.A a.B a.C (Aaa.mk 0 0) a.Via a.Name a.Parts)<|cnd (a.Kind==4) (b<|aN.mk a.Kind a.ID 0 0 0 a.At [] a.Name a.Parts)<|cnd (a.Kind==6) (b<|aN.mk a.Kind a.ID a.A a.B a.C a.At [] a.Name a.Parts)<|cnd (a.Kind==7) (b<|aN.mk a.Kind a.ID 0 0 a.C a.At a.Via (⟨#[]⟩:ByteArray) [])<|cnd (a.Kind==9) (b<|aN.mk a.Kind a.ID a.A a.B a.C a.At a.Via (⟨#[]⟩:ByteArray) a.Parts)<|cnd (a.Kind==10) (b<|aN.mk a.Kind a.ID a.A 0 a.C a.At a.Via a.Name a.Parts)<|cnd (a.Kind==11) (b<|aN.mk a.Kind a.ID a.A a.B a.C a.At a.Via a.Name [])<|cnd (a.Kind==12) (b<|aN.mk a.Kind a.ID 0 a.B a.C a.At a.Via a.Name a.Parts)<|b a
def Jx:=fK Bk
def GP: Lc 39 0 0:=bJ 0x33d44f58d762c3e78867d849ba C12 [⟨0,[cs GO]⟩] [] @Bk
def Bi(n:Nat): aN->((Bool->Option R)×Unit)->Unit->Option R:=λa (b,_) _=>cnd (a.A != 0) (b true)<|cnd (a.B != 0) (b true)<|cnd (a.C != 0) (b true)<|cd (a.At=(Aaa.mk 0 0)) (cd ((ln a.Via) > 0) (b true)<|cd (a.Name=(⟨#[]⟩:ByteArray)) (cd ((ln a.Parts) > 0) (b true)<|b false)<|b true)<|b true
def Jv:=fK Bi
def GN: Lc 39 0 2:=bJ 0x6614db C12 [] [] @Bi
def Ib: Nat->aN->Option Bool
 | 0,_=>none
 | n+1,a=>bnd (Jx n a) λb=>bnd (Jv n b) λc=>cnd c (some true)<|some false
def a9: Kn:=bK 39 0x1d2934f20 C12 [⟨0,[GP]⟩,⟨2,[GN]⟩] [] Ib
abbrev C13:=a9::C12
def VZ: Nat->Int->Option Bool
 | 0,_=>none
 | n+1,a=>cd (1<=a) (cd (a<=1073741824) (some true)<|some false)<|some false
def LW: Kn:=bK 69 0xae6 C13 [] [] VZ
abbrev C14:=LW::C13
def FD(n:Nat): (Cw×Aaa)->((Bool->Option R)×Unit)->Unit->Option R:=λ(a,b) (c,_) _=>cd (a.X0<=b.X) (cd (b.X<=a.X1) (cd (a.Y0<=b.Y) (cd (b.Y<=a.Y1) (c true)<|c false)<|c false)<|c false)<|c false
def VF:=fK FD
def P7: Lc 22 0 0:=bJ 0x38f8bb6b6507 C14 [] [] @FD
def P8: Nat->Cw->Aaa->Option Bool
 | 0,_,_=>none
 | n+1,a,b=>bnd (VF n (a,b)) λc=>cnd c (some true)<|some false
def aGf: Kn:=bK 22 0x12feb1a569797c0 C14 [⟨0,[P7]⟩] [] P8
abbrev C15:=aGf::C14
def qY(n:Nat): Int->((Bool->Option R)×Unit)->Unit->Option R:=λa (b,_) _=>cd (1<=a) (cd (a<=1073741824) (b true)<|b false)<|b false
def dU:=zP qY
def MF: Ic:=cR 69 0 1 0x94e09a79fca42a632117b01 C15 [] [] @qY
def qX: Aaa->((Bool->Option R)×Unit)->Unit->Option R:=λa (b,_) _=>bnd (P8 n (Cw.mk (-1048576) (-1048576) 1048576 1048576) a) λc=>cnd c (b false)<|b true
def gY:=zP qX
def ME: Ic:=cR 70 0 2 0xeeba41765c5ded411a9980795d71e1d9ccb54712 C15 [] [] @qX
def MB: Ic:=cR 70 4 2 0x2c32fb1b78ffb5e0000b4a476de86dc4 C15 [] [] @qX
def qW: (List Aaa×Int)->(Int->Option R)->((Int->Option R)×(Unit->Option R)×Unit)->Int->Option R:=λ(a,b) c (d,f,_) g=>cd (g<b) (bnd (idx a g) λh=>bnd (gY n h) λi=>cnd i (d g)<|c<|wr<|g+1)<|f ()
def WK:=wO qW
def LY: Lc 97 0 0:=bR 0x2cdb5ac3b0cce172cfe6a2d15af2aeaf22f568e0882db78181b1 C15 [] [MB] @qW
def Et: (List Aaa)->((Int->Option R)×Unit)->Unit->Option R:=λa (b,_) _=>bnd2 (WK n (a,(ln a)) 0) (λc=>b c) λd=>bnd (some d) λ_=>b (-1)
def Nw:=zP Et
def MC: Ic:=cR 97 0 2 0x2c32ee1b64602a766e517280ef208b64 C15 [⟨0,[LY]⟩] [] @Et
def Eu: (List Aaa)->((Bool->Option R)×Unit)->Unit->Option R:=λa (b,_) _=>bnd (Nw n a) λc=>cd (c>=0) (b true)<|b false
def fW:=zP Eu
def MD: Ic:=cR 71 0 2 0x3f7e45a253e94acd17017a99c8b64 C15 [] [MC] @Eu
def GB: Ic:=cR 69 4 1 0x94e09a2de250f600ef23dcb C15 [] [] @qY
def Bb: Int->((Bool->Option R)×Unit)->Unit->Option R:=λa (b,_) _=>bnd (dU n a) λc=>cnd c (b false)<|b true
def Jq:=zP Bb
def GC: Ic:=cR 72 4 2 0x139e70d84425a43cd3744 C15 [] [GB] @Bb
def qV: (List Int×Int)->(Int->Option R)->((Int->Option R)×(Unit->Option R)×Unit)->Int->Option R:=λ(a,b) c (d,f,_) g=>cd (g<b) (bnd (idx a g) λh=>bnd (Jq n h) λi=>cnd i (d g)<|c<|wr<|g+1)<|f ()
def WF:=wO qV
def LX: Lc 98 0 0:=bR 0x5c85c26bb166a4c1f861135042eaa5b0fc1635fd3506e1 C15 [] [GC] @qV
def Er: (List Int)->((Int->Option R)×Unit)->Unit->Option R:=λa (b,_) _=>bnd2 (WF n (a,(ln a)) 0) (λc=>b c) λd=>bnd (some d) λ_=>b (-1)
def Nv:=zP Er
def LZ: Ic:=cR 98 0 2 0x19fe565aa21efffacd35de9e7ca89184 C15 [⟨0,[LX]⟩] [] @Er
def Es: (List Int)->((Bool->Option R)×Unit)->Unit->Option R:=λa (b,_) _=>bnd (Nv n a) λc=>cd (c>=0) (b true)<|b false
def fV:=zP Es
def MA: Ic:=cR 73 0 2 0x69f71c29d3d320922ce3a908c9184 C15 [] [LZ] @Es
def Ba(n:Nat): Int->((Bool->Option R)×Unit)->Unit->Option R:=λa (b,_) _=>cnd (a==7) (b true)<|cnd (a==10) (b true)<|b false
def Jp:=fK Ba
def GA: Lc 40 0 0:=bJ 0xdd7260e2d3851789e96df5fa23ce7648393b8 C15 [] [] @Ba
def Az(n:Nat): aN->((Bool->Option R)×Unit)->Unit->Option R:=λa (b,_) _=>cd (a.B<1) (b true)<|cd (a.B > 9) (b true)<|b false
def Jo:=fK Az
def FZ: Lc 40 0 1:=bJ 0x134e5b9f2a1ba3fedf81db9a40ca84838a7a226569e4d01f5 C15 [] [] @Az
def Bc: Nat->aN->Option Bool
 | 0,_=>none
 | n+1,a=>cnd (a.Kind==4) (bnd (dU n a.A) λb=>cnd b (bnd (dU n a.B) λc=>cnd c (bnd (dU n a.ID) λd=>cnd d (cd (a.C<(-1073741824)) (some false)<|cd (a.C > 1073741824) (some false)<|bnd (gY n a.At) λf=>cnd f (some false)<|bnd (fW n a.Via) λg=>cnd g (some false)<|bnd (fV n a.Parts) λh=>cnd h (some false)<|some true)<|some false)<|some false)<|some false)<|cnd (a.Kind==12) (bnd (dU n a.A) λi=>cnd i (bnd (dU n a.ID) λj=>cnd j (cd (a.C<(-1073741824)) (some false)<|cd (a.C > 1073741824) (some false)<|bnd (gY n a.At) λl=>cnd l (some false)<|bnd (fW n a.Via) λm=>cnd m (some false)<|bnd (fV n a.Parts) λo=>cnd o (some false)<|some true)<|some false)<|some false)<|bnd (Jp n a.Kind) λr=>cnd r (bnd (Jo n a) λs=>cnd s (some false)<|bnd (dU n a.ID) λt=>cnd t (cd (a.C<(-1073741824)) (some false)<|cd (a.C > 1073741824) (some false)<|bnd (gY n a.At) λu=>cnd u (some false)<|bnd (fW n a.Via) λv=>cnd v (some false)<|bnd (fV n a.Parts) λw=>cnd w (some false)<|some true)<|some false)<|bnd (dU n a.ID) λx=>cnd x (cd (a.C<(-1073741824)) (some false)<|cd (a.C > 1073741824) (some false)<|bnd (gY n a.At) λy=>cnd y (some false)<|bnd (fW n a.Via) λz=>cnd z (some false)<|bnd (fV n a.Parts) λa0=>cnd a0 (some false)<|some true)<|some false
def A1: Kn:=bK 40 0x1d2934f20 C15 [⟨0,[GA]⟩,⟨1,[FZ]⟩] [MF,ME,MD,MA] Bc
abbrev C16:=A1::C15
def kU(n:Nat): (List Int)->(Int->Option R)->((Unit->Option R)×(Unit->Option R)×Unit)->Int->Option R:=λa b (c,d,_) f=>cd (f<(ln a)) (bnd (idx a<|wr<|f-1) λg=>bnd (idx a f) λh=>cd (g>=h) (c ())<|b<|wr<|f+1)<|d ()
def Mv:=wO kU
def KU: Lc 41 0 0:=bR 0xd8406803ddde5aee7cc8 C16 [] [] @kU
def sN: Nat->(List Int)->Option Bool
 | 0,_=>none
 | n+1,a=>bnd2 (Mv n a 1) (λ_=>some false) λb=>bnd (some b) λ_=>some true
def y5: Kn:=bK 41 0x29e5d9 C16 [⟨0,[KU]⟩] [] sN
abbrev C17:=y5::C16
def zR(n:Nat): (fY×Int)->((Bool->Option R)×Unit)->Unit->Option R:=λ(a,b) (c,_) _=>cd (a.first<=b) (cd (b<=a.last) (c true)<|c false)<|c false
def PL:=fK zR
def ET: Lc 101 0 1:=bJ 0x6bb780be611a16852038dc1006dd1db5eb81f6f45a56e3 C17 [] [] @zR
def oS: (Int×vI)->(Int->Option R)->(((fY×Int)->Option R)×(Unit->Option R)×Unit)->Int->Option R:=λ(a,b) c (d,f,_) g=>cd (g<13) (bnd (idx ([b.e0,b.e1,b.e2,b.e3,b.e4,b.e5,b.e6,b.e7,b.e8,b.e9,b.e10,b.e11,b.e12]:List fY) g) λh=>bnd (PL n (h,a)) λi=>cnd i (d (h,h.script))<|c<|wr<|g+1)<|f ()
def PM:=wO oS
def EU: Lc 101 0 0:=bR 0x1b2bdf9126beb6872f70f292b131b63fb713fed88b759b58b939c4f253 C17 [⟨0,[cs ET]⟩] [] @oS
def uZ: Nat->Int->Option Int
 | 0,_=>none
 | n+1,a=>cd (a<0) (some (-1))<|cd (a > 1114111) (some (-1))<|bnd2 (PM n ((IntKind.i32.wrap a),(vI.mk (fY.mk 32 32 0) (fY.mk 39 41 0) (fY.mk 45 46 0) (fY.mk 48 57 0) (fY.mk 65 90 1) (fY.mk 97 122 1) (fY.mk 192 214 1) (fY.mk 216 246 1) (fY.mk 248 591 1) (fY.mk 880 1023 2) (fY.mk 1024 1279 3) (fY.mk 1488 1514 4)<|fY.mk 19968 40959 5)) 0) (λb=>some b.2) λc=>bnd (some c) λ_=>some (-1)
def UU: Kn:=bK 101 0x2e4a4a C17 [⟨0,[EU]⟩] [] uZ
abbrev C18:=UU::C17
def oT: Unit->((List Int×(ByteArray×Nat))->Option R)->(((List Int×(ByteArray×Nat))->Option R)×((List Int×(ByteArray×Nat))->Option R)×Unit)->(List Int×(ByteArray×Nat))->Option R:=λ_ a (b,c,_) (d,f)=>cd (f.2<f.1.size) (bnd (uZ n<|wr (((Utf8.decode f.1 f.2).1:Nat):Int)) λg=>cd (g<0) (b (d,(f.1,(f.2+(Utf8.decode f.1 f.2).2))))<|bnd (app d [(wr (((Utf8.decode f.1 f.2).1:Nat):Int))]) λh=>a (h,(f.1,(f.2+(Utf8.decode f.1 f.2).2))))<|c (d,(f.1,f.2))
def PN:=wO oT
def EV: Lc 99 0 0:=bR 0x3b2711477e2df0644ee7a396f3d2f9e0011bf1d09ceee5d8ab27b0dc4863453e744fa8e57f851cb70ffa2a7453af C18 [] [] @oT
def Hy: Nat->ByteArray->Option (List Int×Int)
 | 0,_=>none
 | n+1,a=>bnd2 (PN n () ([],(a,0))) (λ_=>some ([],4)) λb=>bnd (some b) λc=>some (c.1,0)
def UW: Kn:=bK 99 0x1072b513b72e5f58c7 C18 [⟨0,[EV]⟩] [] Hy
abbrev C19:=UW::C18
def aOB: Kn:=aQ1 100 19 5 rfl (λn p=>H8 n p.1 p.2) λn p r h=>by obtain⟨m,h1⟩:=aOi h;exact⟨m,p.1,p.2,r,h1,rfl,h,rfl⟩
abbrev C20:=aOB::C19
def Mp: ByteArray->((Bool->Option R)×Unit)->Unit->Option R:=λa (b,_) _=>bnd (sat a 0) λc=>cnd (c==32) (b true)<|bnd (sat a<|wr<|((a.size:Nat):Int)-1) λd=>cnd (d==32) (b true)<|bnd (H8 n a (⟨#[32,32]⟩:ByteArray)) λf=>cnd f (b true)<|b false
def N2:=fK Mp
def TX: Lc 74 0 0:=bJ 0x3c391c978aadf9e11394b3432b680 C20 [] [] @Mp
def wL: (List Int×List Int×Int)->(Int->Option R)->((Unit->Option R)×(Unit->Option R)×Unit)->Int->Option R:=λ(a,b,c) d (f,g,_) h=>cd (h<c) (bnd (idx b h) λi=>bnd (uZ n i) λj=>cnd (j != 0) (f ())<|d<|wr<|h+1)<|g ()
def N3:=wO wL
def TY: Lc 74 0 1:=bR 0x1332a33e010d07babe423753251aac39e1b98b C20 [] [] @wL
def F9: Nat->ByteArray->Option (List Int×Int)
 | 0,_=>none
 | n+1,a=>cd (a=(⟨#[]⟩:ByteArray)) (some ([],14))<|cd (((a.size:Nat):Int) > 40) (some ([],3))<|bnd (Hy n a) λb=>cnd (b.2 != 0) (some ([],b.2))<|bnd (N2 n a) λc=>cnd c (some ([],14))<|bnd2 (N3 n (b.1,b.1,(ln b.1)) 0) (λ_=>some (b.1,0)) λd=>bnd (some d) λ_=>some ([],14)
def aAK: Kn:=bK 74 0x179f5af3065d2a0 C20 [⟨0,[TX]⟩,⟨1,[TY]⟩] [] F9
abbrev C21:=aAK::C20
def wM: Nat->ByteArray->Option Int
 | 0,_=>none
 | n+1,a=>bnd (F9 n a) λb=>some b.2
def N4: Kn:=bK 42 0x166eff217360 C21 [] [] wM
abbrev C22:=N4::C21
def Ke(n:Nat): aN->((Bool->Option R)×Unit)->Unit->Option R:=λa (b,_) _=>cd (a.Kind<1) (b true)<|cd (a.Kind > 12) (b true)<|b false
def Tp:=fK Ke
def QO: Lc 16 0 0:=bJ 0x56202edf6 C22 [] [] @Ke
def Kd: aN->((Bool->Option R)×Unit)->Unit->Option R:=λa (b,_) _=>cnd (a.Kind==7) (bnd (dD n a.A) λc=>cnd (c==0) (b true)<|b false)<|b false
def Tn:=fK Kd
def QN: Lc 16 0 1:=bJ 0x3bf62d9853a6 C22 [] [] @Kd
def Kc(n:Nat): aN->((Bool->Option R)×Unit)->Unit->Option R:=λa (b,_) _=>cd ((ln a.Via) > 64) (b true)<|cd ((ln a.Parts) > 64) (b true)<|b false
def Tm:=fK Kc
def QM: Lc 16 0 2:=bJ 0x3bf633e5cd76 C22 [] [] @Kc
def Kb: aN->((Bool->Option R)×Unit)->Unit->Option R:=λa (b,_) _=>cd (a.Name=(⟨#[]⟩:ByteArray)) (b false)<|bnd (wM n a.Name) λc=>cnd (c != 0) (b true)<|b false
def Tl:=fK Kb
def QL: Lc 16 0 3:=bJ 0x2a4333fc6766 C22 [] [] @Kb
def rQ: Nat->aN->Option Int
 | 0,_=>none
 | n+1,a=>bnd (Tp n a) λb=>cnd b (some 9)<|bnd (Tn n a) λc=>cnd c (some 9)<|bnd (Ib n a) λd=>cnd d (some 1)<|bnd (Tm n a) λf=>cnd f (some 3)<|bnd (Bc n a) λg=>cnd g (bnd (sN n a.Parts) λh=>cnd h (bnd (Tl n a) λi=>cnd i (some 14)<|some 0)<|some 10)<|some 2
def R7: Kn:=bK 16 0x2038ac670 C22 [⟨0,[QO]⟩,⟨1,[QN]⟩,⟨2,[QM]⟩,⟨3,[QL]⟩] [] rQ
abbrev C23:=R7::C22
def jE(n:Nat): (List Aab×Int)->((List Int×Int)->Option R)->(((List Int)->Option R)×Unit)->(List Int×Int)->Option R:=λ(a,b) c (d,_) (f,g)=>cd (g<b) (bnd (idx a g) λh=>bnd (app f [h.ID]) λi=>c (i,(wr<|g+1)))<|d f
def Pz:=pM jE
def Kr: Lc 131 0 0:=bR 0x119fd16dd2a64f03f77286de79483414227e3b3c2a33ac9d74e0046dae8cb C23 [] [] @jE
def jD(n:Nat): (List aR×Int)->((List Int×Int)->Option R)->(((List Int)->Option R)×Unit)->(List Int×Int)->Option R:=λ(a,b) c (d,_) (f,g)=>cd (g<b) (bnd (idx a g) λh=>bnd (app f [h.ID]) λi=>c (i,(wr<|g+1)))<|d f
def Py:=pM jD
def Kq: Lc 131 0 1:=bR 0x43932ad542f447c62d012ce0bde431e37ae3915ae17f6d9b824cfd904585ca8f72609e0a C23 [] [] @jD
def qI: Nat->aM->Option (List Int×List Int)
 | 0,_=>none
 | n+1,a=>bnd (Pz n (a.Nodes,(ln a.Nodes)) ([],0)) λb=>bnd (Py n (a.Arcs,(ln a.Arcs)) ([],0)) λc=>some (b,c)
def Un: Kn:=bK 131 0x5995168b9f5ceb26830fd87 C23 [⟨0,[Kr]⟩,⟨1,[Kq]⟩] [] qI
abbrev C24:=Un::C23
def Qi: Lc 132 0 0:=bR 0xd8406803ddde5aee7cc8 C24 [] [] @kU
def kD: Nat->(List Int)->Option Bool
 | 0,_=>none
 | n+1,a=>bnd2 (Mv n a 1) (λ_=>some false) λb=>bnd (some b) λ_=>some true
def KH: Kn:=bK 132 0x29e5d9 C24 [⟨0,[Qi]⟩] [] kD
abbrev C25:=KH::C24
def qH: Nat->Int->Option Bool
 | 0,_=>none
 | n+1,a=>cd (a<1) (some true)<|cd (a > 1073741824) (some true)<|some false
def Uj: Kn:=bK 151 0xae6 C25 [] [] qH
abbrev C26:=Uj::C25
def mT: (List Int×Int)->(Int->Option R)->((Int->Option R)×(Unit->Option R)×Unit)->Int->Option R:=λ(a,b) c (d,f,_) g=>cd (g<b) (bnd (idx a g) λh=>bnd (qH n h) λi=>cnd i (d g)<|c<|wr<|g+1)<|f ()
def KD:=wO mT
def Uk: Lc 98 0 0:=bR 0x755873d1d3ed83d20e55754 C26 [] [] @mT
def wF: (List Int)->((Int->Option R)×Unit)->Unit->Option R:=λa (b,_) _=>bnd2 (KD n (a,(ln a)) 0) (λc=>b c) λd=>bnd (some d) λ_=>b (-1)
def KE:=zP wF
def Ul: Ic:=cR 98 0 2 0xd5d6f0c6705add31ad83 C26 [⟨0,[Uk]⟩] [] @wF
def wG: (List Int)->((Bool->Option R)×Unit)->Unit->Option R:=λa (b,_) _=>bnd (KE n a) λc=>cd (c>=0) (b true)<|b false
def KF:=zP wG
def Um: Ic:=cR 73 0 2 0xd5d3e9ac018ab7cc0d83 C26 [] [Ul] @wG
def mI: Nat->(List Int)->Option Bool
 | 0,_=>none
 | n+1,a=>bnd (KF n a) λb=>cnd b (some false)<|some true
def PC: Kn:=bK 133 0x29e5d9 C26 [] [Um] mI
abbrev C27:=PC::C26
def lI(n:Nat): Aaa->((Bool->Option R)×Unit)->Unit->Option R:=λa (b,_) _=>cd (a.X<(-1048576)) (b true)<|cd (a.X > 1048576) (b true)<|cd (a.Y<(-1048576)) (b true)<|cd (a.Y > 1048576) (b true)<|b false
def oM:=fK lI
def Px: Lc 152 0 0:=bJ 0x317b7f0e06b5 C27 [] [] @lI
def wE: Nat->Aaa->Option Bool
 | 0,_=>none
 | n+1,a=>bnd (oM n a) λb=>cnd b (some true)<|some false
def JV: Kn:=bK 152 0x1d288a85c C27 [⟨0,[Px]⟩] [] wE
abbrev C28:=JV::C27
def JW: Lc 152 0 0:=bJ 0x1920b8b5b59e513a1312f6bc4b3ab992 C28 [] [] @lI
def Dr: Aaa->((Bool->Option R)×Unit)->Unit->Option R:=λa (b,_) _=>bnd (oM n a) λc=>cnd c (b true)<|b false
def TG:=zP Dr
def KC: Ic:=cR 152 0 1 0xda8bb3459776e71e53d0c06 C28 [⟨0,[JW]⟩] [] @Dr
def qG: (List Aab×Int)->(Int->Option R)->(((Aab×Aaa)->Option R)×(Unit->Option R)×Unit)->Int->Option R:=λ(a,b) c (d,f,_) g=>cd (g<b) (bnd (idx a g) λh=>bnd (TG n h.At) λi=>cnd i (d (h,h.At))<|c<|wr<|g+1)<|f ()
def TD:=wO qG
def JZ: Lc 134 0 0:=bR 0x19b7a0dbe7b23725371d3a09431d6569e169336762b63bbc41144a1c5bd33 C28 [] [KC] @qG
def qE: (List Aaa×Int)->(Int->Option R)->((Int->Option R)×(Unit->Option R)×Unit)->Int->Option R:=λ(a,b) c (d,f,_) g=>cd (g<b) (bnd (idx a g) λh=>bnd (wE n h) λi=>cnd i (d g)<|c<|wr<|g+1)<|f ()
def TA:=wO qE
def JX: Lc 97 0 0:=bR 0x1fa9d058c7f7ae0e3364709acce8db6e C28 [] [] @qE
def Dp: (List Aaa)->((Int->Option R)×Unit)->Unit->Option R:=λa (b,_) _=>bnd2 (TA n (a,(ln a)) 0) (λc=>b c) λd=>bnd (some d) λ_=>b (-1)
def TE:=zP Dp
def KA: Ic:=cR 97 0 2 0x94e0549264963e2de9290d2 C28 [⟨0,[JX]⟩] [] @Dp
def Dq: (List Aaa)->((Bool->Option R)×Unit)->Unit->Option R:=λa (b,_) _=>bnd (TE n a) λc=>cd (c>=0) (b true)<|b false
def TF:=zP Dq
def KB: Ic:=cR 71 0 2 0x94e099db6d23378c99ef0d2 C28 [] [KA] @Dq
def qF: (List aR×Int)->(Int->Option R)->((aR->Option R)×(Unit->Option R)×Unit)->Int->Option R:=λ(a,b) c (d,f,_) g=>cd (g<b) (bnd (idx a g) λh=>bnd (TF n h.Via) λi=>cnd i (d h)<|c<|wr<|g+1)<|f ()
def TB:=wO qF
def JY: Lc 134 0 1:=bR 0x2dae46700744e76b93964b91afaf68f37e56267246ed17753 C28 [] [KB] @qF
def Mh: Nat->aM->Option Bool
 | 0,_=>none
 | n+1,a=>bnd2 (TD n (a.Nodes,(ln a.Nodes)) 0) (λ_=>some false) λb=>bnd (some b) λ_=>bnd2 (TB n (a.Arcs,(ln a.Arcs)) 0) (λ_=>some false) λc=>bnd (some c) λ_=>some true
def w7: Kn:=bK 134 0x29e73e C28 [⟨0,[JZ]⟩,⟨1,[JY]⟩] [] Mh
abbrev C29:=w7::C28
def jA(n:Nat): (List Int×Int×Int)->(Int->Option R)->((Int->Option R)×(Unit->Option R)×Unit)->Int->Option R:=λ(a,b,c) d (f,g,_) h=>cd (h<c) (bnd (idx a h) λi=>cnd (b==i) (f h)<|d<|wr<|h+1)<|g ()
def Pm:=wO jA
def Kj: Lc 96 0 0:=bR 0x755873d1d0c993e2151de54 C29 [] [] @jA
def kM: Nat->(List Int)->Int->Option Int
 | 0,_,_=>none
 | n+1,a,b=>bnd2 (Pm n (a,b,(ln a)) 0) (λc=>some c) λd=>bnd (some d) λ_=>some (-1)
def Uc: Kn:=bK 96 0x51c0da C29 [⟨0,[Kj]⟩] [] kM
abbrev C30:=Uc::C29
def cX: Nat->(List Int)->Int->Option Bool
 | 0,_,_=>none
 | n+1,a,b=>bnd (kM n a b) λc=>cd (c>=0) (some true)<|some false
def Km: Kn:=bK 61 0x748636 C30 [] [] cX
abbrev C31:=Km::C30
def lL(n:Nat): (Aab×List Aab×Int)->(Int->Option R)->((Aab->Option R)×(Unit->Option R)×Unit)->Int->Option R:=λ(a,b,c) d (f,g,_) h=>cd (h<c) (bnd (idx b h) λi=>cd (a.At=i.At) (f i)<|d<|wr<|h+1)<|g ()
def EB:=wO lL
def Qf: Lc 135 0 1:=bR 0x3715e47487709eb7cec5a8a691ddff3201906d7066674c8117807ed9dbedb0298431392224f C31 [] [] @lL
def lM: (aM×List Aab×Int)->(Int->Option R)->(((Aab×Aab)->Option R)×(Unit->Option R)×Unit)->Int->Option R:=λ(a,b,c) d (f,g,_) h=>cd (h<c) (bnd (idx b h) λi=>bnd (cut a.Nodes 0 h) λj=>bnd2 (EB n (i,j,(ln j)) 0) (λl=>f (i,l)) λm=>bnd (some m) λ_=>d<|wr<|h+1)<|g ()
def EC:=wO lM
def Qg: Lc 135 0 0:=bR 0x4c30ceea359901238a3f01e57de9095482bf6d4ecf8dd813bc73 C31 [⟨0,[cs Qf]⟩] [] @lM
def tN: (aR×List Int)->((Bool->Option R)×Unit)->Unit->Option R:=λ(a,b) (c,_) _=>bnd (cX n b a.From) λd=>cnd d (bnd (cX n b a.To) λf=>cnd f (c false)<|c true)<|c true
def zI:=fK tN
def Qb: Lc 135 0 3:=bJ 0x4b3e0307961eedfedc5866e8bae97d09df031eaffb9c519ef C31 [] [] @tN
def lK: (List Int×List aR×Int)->(Int->Option R)->((aR->Option R)×(Unit->Option R)×Unit)->Int->Option R:=λ(a,b,c) d (f,g,_) h=>cd (h<c) (bnd (idx b h) λi=>bnd (zI n (i,a)) λj=>cnd j (f i)<|d<|wr<|h+1)<|g ()
def EA:=wO lK
def Qe: Lc 135 0 2:=bR 0x3537c3325d0f7cf182eb364a23c44c369974599068401f35f2eb C31 [⟨0,[cs Qb]⟩] [] @lK
def tM: (aM×Int)->((Bool->Option R)×Unit)->Unit->Option R:=λ(a,b) (c,_) _=>cnd (b != 0) (bnd (cX n a.Faces b) λd=>cnd d (c false)<|c true)<|c false
def oN:=fK tM
def Qa: Lc 135 0 6:=bJ 0x2b609e4eec5a63eaa8b464a6368139749cc67bda710fc08ef0a50d1 C31 [] [] @tM
def lJ: (aM×List aR×Int)->(Int->Option R)->((aR->Option R)×(Unit->Option R)×Unit)->Int->Option R:=λ(a,b,c) d (f,g,_) h=>cd (h<c) (bnd (idx b h) λi=>bnd (Ks<|Nat.ble 3 n) λ_=>bnd (oN n (a,i.Left)) λj=>cnd j (f i)<|bnd (oN n (a,i.Right)) λl=>cnd l (f i)<|d<|wr<|h+1)<|g ()
def DZ:=wO lJ
def Qd: Lc 135 0 4:=bR 0x996a0f611d7a250d22f7b0e3f1ae04bf22857c342846581a3e039ea9e753 C31 [⟨1,[cs Qa]⟩] [] @lJ
def wH: Nat->aM->(List Int)->Option Int
 | 0,_,_=>none
 | n+1,a,b=>bnd2 (EC n (a,a.Nodes,(ln a.Nodes)) 0) (λ_=>some 8) λc=>bnd (some c) λ_=>bnd2 (EA n (b,a.Arcs,(ln a.Arcs)) 0) (λ_=>some 7) λd=>bnd (some d) λ_=>bnd2 (DZ n (a,a.Arcs,(ln a.Arcs)) 0) (λ_=>some 12) λf=>bnd (some f) λ_=>some 0
def KG: Kn:=bK 135 0x2fc9b2a22c28 C31 [⟨0,[Qg]⟩,⟨2,[Qe]⟩,⟨4,[Qd]⟩] [] wH
abbrev C32:=KG::C31
def aOD: Kn:=aOp 66 1 14 ⟨_,_,_,rfl,by decide,by decide⟩ (λn p=>clF n p) (λp=>p) λn p r h=>by obtain⟨m,h1,h2,h3⟩:=aOr h;subst h2;exact⟨m,h1,rfl,h3,rfl,λe=>by cases (e:_=[]);rfl⟩
abbrev C33:=aOD::C32
def Cp: (Int×List aR×Int)->(Int->Option R)->(((Int×Int×Int×List Aaa×Int×Int×Int×Int×Int×List Aaa×Int×Int)->Option R)×(Unit->Option R)×Unit)->Int->Option R:=λ(a,b,c) d (f,g,_) h=>cd (h<c) (bnd (idx b h) λi=>cnd (i.ID==a) (bnd (clF n i.Via) λj=>f (i.ID,i.From,i.To,j,i.Left,i.Right,i.ID,i.From,i.To,j,i.Left,i.Right))<|d<|wr<|h+1)<|g ()
def aA9:=wO Cp
def x9: Lc 31 0 0:=bR 0x133966e6ea5fcd8334c91e6fe74fb11f4054bc4cc5027e2181e4c256d40048425b1182ef38825b392 C33 [] [] @Cp
def oO: Nat->aM->Int->Option (aR×Bool)
 | 0,_,_=>none
 | n+1,a,b=>bnd2 (aA9 n (b,a.Arcs,(ln a.Arcs)) 0) (λc=>some ((aR.mk c.1 c.2.1 c.2.2.1 c.2.2.2.1 c.2.2.2.2.1 c.2.2.2.2.2.1),true)) λd=>bnd (some d) λ_=>some ((aR.mk 0 0 0 [] 0 0),false)
def aC4: Kn:=bK 31 0x17d3eefdc93d C33 [⟨0,[x9]⟩] [] oO
abbrev C34:=aC4::C33
def wI(n:Nat): (Int×List Aab×Int)->(Int->Option R)->(((Aab×Aab)->Option R)×(Unit->Option R)×Unit)->Int->Option R:=λ(a,b,c) d (f,g,_) h=>cd (h<c) (bnd (idx b h) λi=>cnd (i.ID==a) (f (i,i))<|d<|wr<|h+1)<|g ()
def M1:=wO wI
def TM: Lc 30 0 0:=bR 0x51c99077243ffca663ecb6893b60aded2663144c17ffc48e96b5bf8e1a40a2010edf2 C34 [] [] @wI
def fJ: Nat->aM->Int->Option (Aab×Bool)
 | 0,_,_=>none
 | n+1,a,b=>bnd2 (M1 n (b,a.Nodes,(ln a.Nodes)) 0) (λc=>some (c.1,true)) λd=>bnd (some d) λ_=>some ((Aab.mk 0<|Aaa.mk 0 0),false)
def aA8: Kn:=bK 30 0x3330e1d6b265 C34 [⟨0,[TM]⟩] [] fJ
end
end
section
variable {R:Type}(n:Nat)
noncomputable section
abbrev C35:=aA8::C34
def DF: Nat->(List Aaa)->Int->Option (List Aaa)
 | 0,_,_=>none
 | n+1,_,a=>cd (a<0) none none
def Pn: Kn:=bK 144 0x33c89c5dba4c C35 [] [] DF
abbrev C36:=Pn::C35
def gJ(n:Nat): ((List<|List Aaa)×Int)->((Int×Int)->Option R)->((Int->Option R)×Unit)->(Int×Int)->Option R:=λ(a,b) c (d,_) (f,g)=>cd (g<b) (bnd (idx a g) λh=>cd ((wr<|f+(ln h))<0) none<|c ((wr<|f+(ln h)),(wr<|g+1)))<|d f
def Hg:=pM gJ
def Ch: Lc 121 0 0:=bR 0xa96deb6df1014927a9d967e2ff6475f C36 [] [] @gJ
def mE(n:Nat): Int->((Unit->Option R)×((List Aaa×(Nat×Nat))->Option R)×Unit)->Unit->Option R:=λa (b,c,_) _=>cd (a<0) none<|cd ((wr<|a-0) > 0) (bnd (rep (Aaa.mk 0 0) (wr<|a-0)<|wr<|a-0) λd=>cnd (List.isEmpty d) (b ())<|bnd (sub d (0,List.length d) 0 0) λf=>c (d,f))<|b ()
def Hh:=IA mE
def Ci: Ic:=cR 144 0 2 0xa6058a1049d555192f0fff3ade738e60fc4cda85b77 C36 [] [] @mE
def mD(n:Nat): ((List<|List Aaa)×Int)->(Int->Option R)->((Unit->Option R)×Unit)->Int->Option R:=λ(a,b) c (d,_) f=>cd (f<b) (bnd (idx a f) λg=>cnd (List.isEmpty g) (c<|wr<|f+1)<|bnd (app ([]:List Aaa) g) λ_=>none)<|d ()
def Hf:=pM mD
def Cg: Lc 121 0 1:=bR 0x1ebd1069966ed85a06267a47362faeb6b53 C36 [] [] @mD
def gI(n:Nat): ((List<|List Aaa)×Int)->((List Aaa×(Nat×Nat)×Int)->Option R)->(((List Aaa×(Nat×Nat))->Option R)×Unit)->(List Aaa×(Nat×Nat)×Int)->Option R:=λ(a,b) c (d,_) (f,g,h)=>cd (h<b) (bnd (idx a h) λi=>bnd (MW f g i) λj=>c (j,(g.1,g.2+List.length i),(wr<|h+1)))<|d (f,g)
def He:=pM gI
def Cf: Lc 121 0 1:=bR 0x6b6b10cbd8a22e422705f731d598f873558418a8aa61bcf7f C36 [] [] @gI
def lD: Nat->(List<|List Aaa)->Option (List Aaa)
 | 0,_=>none
 | n+1,a=>bnd (Hg n (a,(ln a)) (0,0)) λb=>bnd2 (Hh n b) (λ_=>bnd (Hf n (a,(ln a)) 0) λ_=>some []) λc=>bnd (some c) λd=>bnd (He n (a,(ln a)) (d.1,d.2,0)) λf=>some<|win f.1<|some f.2
def Ko: Kn:=bK 121 0x33c809f3b444 C36 [⟨0,[Ch]⟩,⟨1,[Cg,Cf]⟩] [Ci] lD
abbrev C37:=Ko::C36
def eH(n:Nat): Unit->((Unit->Option R)×Unit)->Unit->Option R:=λ_ (a,_) _=>a ()
def dN:=fK eH
def TL: Lc 93 0 0:=bJ 0x234187a263de424a2b285c15f465347b0ae72b C37 [] [] @eH
def TK: Lc 93 0 0:=bJ 0x234029a8fdabd99911e2944e69c891cc51e72b C37 [] [] @eH
def TJ: Lc 93 0 0:=bJ 0x686c6a4e75ea299a9026b751df54b C37 [] [] @eH
def TI: Lc 93 0 0:=bJ 0xd763056cb63877e74b54d5f C37 [] [] @eH
def eZ: Nat->aM->Int->Option (List Aaa×Int)
 | 0,_,_=>none
 | n+1,a,b=>bnd (oO n a b) λc=>cnd c.2 (bnd (fJ n a c.1.From) λd=>cnd d.2 (bnd (fJ n a c.1.To) λf=>cnd f.2 (bnd (dN n ()) λ_=>bnd (lD n [[d.1.At],c.1.Via,[f.1.At]]) λg=>some (g,0))<|bnd (dN n ()) λ_=>some ([],7))<|bnd (fJ n a c.1.To) λh=>cnd h.2 (bnd (dN n ()) λ_=>some ([],7))<|bnd (dN n ()) λ_=>some ([],7))<|bnd (fJ n a c.1.From) λi=>cnd i.2 (bnd (fJ n a c.1.To) λj=>cnd j.2 (bnd (dN n ()) λ_=>some ([],7))<|bnd (dN n ()) λ_=>some ([],7))<|bnd (fJ n a c.1.To) λl=>cnd l.2 (bnd (dN n ()) λ_=>some ([],7))<|bnd (dN n ()) λ_=>some ([],7)
def aA7: Kn:=bK 93 0x2b12214136e098cd1c76cd6f34863bcd C37 [⟨0,[TL,TK,TJ,TI]⟩] [] eZ
abbrev C38:=aA7::C37
def wD(n:Nat): (aR×List Aaa×Int)->((Bool->Option R)×Unit)->Unit->Option R:=λ(a,b,c) (d,_) _=>cnd (c != 0) (d true)<|cnd (a.From==a.To) (cd ((ln b)<4) (d true)<|d false)<|d false
def Dm:=fK wD
def Ug: Lc 153 0 1:=bJ 0x150933ac6286c7a94cbcc3b76b0490070bc2fb95e8c3849a27e8315e7e66a C38 [] [] @wD
def mR(n:Nat): (List Aaa×J4×Int)->((List aY×Int)->Option R)->(((List aY×List aY)->Option R)×((List aY)->Option R)×Unit)->(List aY×Int)->Option R:=λ(a,b,c) d (f,g,_) (h,i)=>cd (i<c) (bnd (idx a i) λj=>bnd (idx a<|wr<|i+1) λl=>cd (j=l) (f (h,[]))<|bnd (app h [(aY.mk b i)]) λm=>d (m,(wr<|i+1)))<|g h
def JJ:=wO mR
def Uh: Lc 153 0 2:=bR 0x1931e0b3a2a03f598a098346026dd51fccb579dfef6535c6beb8323246659a26193ece366dd8e7568d6bd7ae28f81d975f51c26c0db70715133792ccf3c5 C38 [] [] @mR
def mS: (aM×List aR×Int)->((List aY×Int)->Option R)->(((List aY×aR×List aY)->Option R)×((List aY×aR×List aY)->Option R)×((List aY)->Option R)×Unit)->(List aY×Int)->Option R:=λ(a,b,c) d (f,g,h,_) (i,j)=>cd (j<c) (bnd (idx b j) λl=>bnd (eZ n a l.ID) λm=>bnd (Dm n (l,m.1,m.2)) λo=>cnd o (f (i,l,[]))<|bnd2 (JJ n (m.1,(J4.mk l m.1),(wr<|(ln m.1)-1)) (i,0)) (λr=>g (r.1,l,r.2)) λs=>bnd (some s) λt=>d (t,(wr<|j+1)))<|h i
def JK:=lp3 mS
def Ui: Lc 153 0 0:=bR 0x2e39d3ebf145301458401cf264af2f7298e6b582afc163ee83d73d71f8fc9f7b31bf00098e546ddf35944d59e7a40ce4bbdfc6ff250ea2bb0137f864bfc68986c9c4c0ca71 C38 [⟨0,[cs Ug]⟩,⟨1,[cs Uh]⟩] [] @mS
def Cn: Nat->aM->Option (List aY×Bool)
 | 0,_=>none
 | n+1,a=>bnd2 (JK n (a,a.Arcs,(ln a.Arcs)) ([],0)) (λb=>bnd (Ks true) λ_=>some (b.2.2,false)) λc=>bnd2 (some c) (λd=>bnd (Ks true) λ_=>some (d.2.2,false)) λf=>bnd (some f) λg=>bnd (Ks true) λ_=>some (g,true)
def PB: Kn:=bK 153 0x27c54dd1c9d186acdabe C38 [⟨0,[Ui]⟩] [] Cn
abbrev C39:=PB::C38
def dG: Nat->aY->Option (Aaa×Aaa)
 | 0,_=>none
 | n+1,a=>bnd (idx a.line.path a.at_) λb=>bnd (idx a.line.path<|wr<|a.at_+1) λc=>some (b,c)
def Pv: Kn:=bK 159 0x2237f3134 C39 [] [] dG
abbrev C40:=Pv::C39
def gC: Nat->aY->Option Int
 | 0,_=>none
 | n+1,a=>bnd (dG n a) λb=>some<|pH b.1.X b.2.X
def Pt: Kn:=bK 156 0x2e4b10 C40 [] [] gC
abbrev C41:=Pt::C40
def eP: Nat->Int->Option Bool
 | 0,_=>none
 | n+1,a=>cnd (a != a) (some true)<|some false
def QP: Kn:=bK 150 0xae6 C41 [] [] eP
abbrev C42:=QP::C41
def cY: Nat->Int->Int->Option Int
 | 0,_,_=>none
 | n+1,a,b=>bnd (eP n a) λc=>cnd c (bnd (eP n b) λd=>cnd d (some 0)<|some (-1))<|bnd (eP n b) λf=>cnd f (some 1)<|cd (a<b) (some (-1))<|cd (a > b) (some 1)<|some 0
def HD: Kn:=bK 130 0xf9e2b42c9b1d4c C42 [] [] cY
abbrev C43:=HD::C42
def oL: Nat->aY->aY->Option Int
 | 0,_,_=>none
 | n+1,a,b=>bnd (gC n a) λc=>bnd (gC n b) λd=>bnd (cY n c d) λf=>some f
def JL: Kn:=bK 155 0x2fc9b77f0ce0 C43 [] [] oL
abbrev C44:=JL::C43
def oK: Nat->aY->Option Int
 | 0,_=>none
 | n+1,a=>bnd (dG n a) λb=>some<|iP b.1.X b.2.X
def Pw: Kn:=bK 157 0x2e4b10 C44 [] [] oK
abbrev C45:=Pw::C44
def Nb(n:Nat): Aaa->((Bool->Option R)×Unit)->Unit->Option R:=λa (b,_) _=>cd (a.X<(-2097152)) (b true)<|cd (a.X > 2097152) (b true)<|cd (a.Y<(-2097152)) (b true)<|cd (a.Y > 2097152) (b true)<|b false
def EX:=fK Nb
def UY: Lc 173 0 1:=bJ 0xdd481e360943e7729aacf0e6ec17560d560f0 C45 [] [] @Nb
def wW: (List Aaa×Int)->(Int->Option R)->((Aaa->Option R)×(Unit->Option R)×Unit)->Int->Option R:=λ(a,b) c (d,f,_) g=>cd (g<b) (bnd (idx a g) λh=>bnd (EX n h) λi=>cnd i (d h)<|c<|wr<|g+1)<|f ()
def P2:=wO wW
def UZ: Lc 173 0 0:=bR 0x1b93ca86c6909cbfb938d36c3fd2a7b6050 C45 [⟨0,[cs UY]⟩] [] @wW
def nR: Nat->(List Aaa)->Option Bool
 | 0,_=>none
 | n+1,a=>bnd2 (P2 n (a,(ln a)) 0) (λ_=>some false) λb=>bnd (some b) λ_=>some true
def aBn: Kn:=bK 173 0x1d2ab8c74 C45 [⟨0,[UZ]⟩] [] nR
abbrev C46:=aBn::C45
def gN: Nat->Aaa->Aaa->Aaa->Option Int
 | 0,_,_,_=>none
 | n+1,a,b,c=>some<|wr<|(wr<|(wr<|b.X-a.X)*(wr<|c.Y-a.Y))-(wr<|(wr<|b.Y-a.Y)*(wr<|c.X-a.X))
def P1: Kn:=bK 174 0x2e4d6d C46 [] [] gN
abbrev C47:=P1::C46
def EZ: (Aaa×Aaa×Aaa)->((Bool->Option R)×Unit)->Unit->Option R:=λ(a,b,c) (d,_) _=>bnd (nR n [a,b,c]) λf=>cnd f (bnd (gN n a b c) λg=>cnd (g != 0) (d true)<|d false)<|d true
def VB:=fK EZ
def P6: Lc 160 0 0:=bJ 0x380b5535a449eb2faa4b7e1c6c9105815078f099f417542b77a7 C47 [] [] @EZ
def EY(n:Nat): (Aaa×Aaa×Aaa)->((Bool->Option R)×Unit)->Unit->Option R:=λ(a,b,c) (d,_) _=>cd ((pH a.X b.X)<=c.X) (cd (c.X<=(iP a.X b.X)) (cd ((pH a.Y b.Y)<=c.Y) (cd (c.Y<=(iP a.Y b.Y)) (d true)<|d false)<|d false)<|d false)<|d false
def VA:=fK EY
def P5: Lc 160 0 1:=bJ 0x4f0a84dd03f7e00ac75dcf16317a7 C47 [] [] @EY
def rW: Nat->Aaa->Aaa->Aaa->Option Bool
 | 0,_,_,_=>none
 | n+1,a,b,c=>bnd (VB n (a,b,c)) λd=>cnd d (some false)<|bnd (VA n (a,b,c)) λf=>cnd f (some true)<|some false
def aGe: Kn:=bK 160 0x29e839 C47 [⟨0,[P6]⟩,⟨1,[P5]⟩] [] rW
abbrev C48:=aGe::C47
def Ux: Nat->Aaa->Aaa->Aaa->Option Int
 | 0,_,_,_=>none
 | n+1,a,b,c=>bnd (nR n [a,b,c]) λd=>cnd d (bnd (gN n a b c) λf=>some f)<|some 0
def P4: Kn:=bK 185 0x792620edc21a71883699 C48 [] [] Ux
abbrev C49:=P4::C48
def iX: Nat->Aaa->Aaa->Aaa->Option Int
 | 0,_,_,_=>none
 | n+1,a,b,c=>bnd (Ux n a b c) λd=>cd (d > 0) (some 1)<|cd (d<0) (some (-1))<|some 0
def aBo: Kn:=bK 180 0x2e4d6d C49 [] [] iX
abbrev C50:=aBo::C49
def Ee(n:Nat): (Aaa×Aaa)->((Bool->Option R)×Unit)->Unit->Option R:=λ(a,b) (c,_) _=>cd (a.X<b.X) (c true)<|cnd (a.X==b.X) (cd (a.Y<b.Y) (c true)<|c false)<|c false
def Nc:=fK Ee
def LD: Lc 186 0 0:=bJ 0x51d318c13 C50 [] [] @Ee
def nS: Nat->Aaa->Aaa->Option Bool
 | 0,_,_=>none
 | n+1,a,b=>bnd (Nc n (a,b)) λc=>cnd c (some true)<|some false
def z6: Kn:=bK 186 0x1b47baa7f604 C50 [⟨0,[LD]⟩] [] nS
abbrev C51:=z6::C50
def qR: (Aaa×Aaa)->(((Aaa×Aaa)->Option R)×Unit)->Unit->Option R:=λ(a,b) (c,_) _=>bnd (nS n b a) λd=>cnd d (c (b,a))<|c (a,b)
def wV:=fK qR
def LB: Lc 181 0 0:=bJ 0x9aab8d9d3244aac56cdcfd8b7a8d35e01c5cb8f2fdd C51 [] [] @qR
def LA: Lc 181 0 1:=bJ 0x4afacabecd829627d1236745da50684c66ac13bfb1ce86532 C51 [] [] @qR
def Ed: (Aaa×Aaa)->((Aaa->Option R)×Unit)->Unit->Option R:=λ(a,b) (c,_) _=>bnd (nS n b a) λd=>cnd d (c a)<|c b
def Mz:=fK Ed
def KZ: Lc 181 0 2:=bJ 0x194e7394c9535713c6d3b84c3a6fad94def382a9be3d61de41dcedb935 C51 [] [] @Ed
def Ec: (Aaa×Aaa)->((Aaa->Option R)×Unit)->Unit->Option R:=λ(a,b) (c,_) _=>bnd (nS n a b) λd=>cnd d (c a)<|c b
def My:=fK Ec
def KY: Lc 181 0 3:=bJ 0x1111c4d91fb30e7ce9cfd671455575d2cc141f5619a7d640799fde24ed92b451d692fcd2 C51 [] [] @Ec
def Na: Nat->Aaa->Aaa->Aaa->Aaa->Option Int
 | 0,_,_,_,_=>none
 | n+1,a,b,c,d=>bnd (wV n (a,b)) λf=>bnd (wV n (c,d)) λg=>bnd (Mz n (g.1,f.1)) λh=>bnd (My n (g.2,f.2)) λi=>cd (h=i) (some 1)<|bnd (nS n h i) λj=>cnd j (some 2)<|some 0
def y9: Kn:=bK 181 0x166e21cbfe06 C51 [⟨0,[LB]⟩,⟨1,[LA]⟩,⟨2,[KZ]⟩,⟨3,[KY]⟩] [] Na
abbrev C52:=y9::C51
def Nf: (Aaa×Aaa×Aaa×Aaa)->((Bool->Option R)×Unit)->Unit->Option R:=λ(a,b,c,d) (f,_) _=>bnd (iX n a b c) λg=>cnd (g==0) (bnd (iX n a b d) λh=>cnd (h==0) (f true)<|f false)<|f false
def FB:=fK Nf
def VD: Lc 172 0 0:=bJ 0xac4d9374649ee63a17bb0983877d5b9ab88e5c62da865faf29f0d9dadd40 C52 [] [] @Nf
def Nd: (Aaa×Aaa×Aaa×Aaa)->((Bool->Option R)×Unit)->Unit->Option R:=λ(a,b,c,d) (f,_) _=>bnd (iX n a b c) λg=>bnd (iX n a b d) λh=>cd ((wr<|g*h)<=0) (bnd (iX n c d a) λi=>bnd (iX n c d b) λj=>cd ((wr<|i*j)<=0) (f true)<|f false)<|f false
def FA:=fK Nd
def VC: Lc 172 0 1:=bJ 0xeb408ae10d86607e3266b7b1322f9f38a893d6edd40 C52 [] [] @Nd
def Pc: Nat->Aaa->Aaa->Aaa->Aaa->Option Int
 | 0,_,_,_,_=>none
 | n+1,a,b,c,d=>bnd (nR n [a,b,c,d]) λf=>cnd f (cd (a=b) (bnd (rW n c d a) λg=>cnd g (some 1)<|some 0)<|cd (c=d) (bnd (rW n a b c) λh=>cnd h (some 1)<|some 0)<|bnd (FB n (a,b,c,d)) λi=>cnd i (bnd (Na n a b c d) λj=>some j)<|bnd (FA n (a,b,c,d)) λl=>cnd l (some 1)<|some 0)<|some 0
def aBp: Kn:=bK 172 0x545ae95ebef294aefe90401 C52 [⟨0,[VD]⟩,⟨1,[VC]⟩] [] Pc
abbrev C53:=aBp::C52
def iE: Nat->aY->Option Bool
 | 0,_=>none
 | n+1,a=>cnd (a.at_==0) (some true)<|some false
def Mc: Kn:=bK 161 0x29e5dc C53 [] [] iE
abbrev C54:=Mc::C53
def gD: Nat->aY->Option Bool
 | 0,_=>none
 | n+1,a=>cnd (a.at_==(wr<|(ln a.line.path)-2)) (some true)<|some false
def Pu: Kn:=bK 162 0x29e5dc C54 [] [] gD
abbrev C55:=Pu::C54
def kC(n:Nat): (aY×aY)->(((aY×aY)->Option R)×Unit)->Unit->Option R:=λ(a,b) (c,_) _=>cd (a.at_ > b.at_) (c (b,a))<|c (a,b)
def mV:=fK kC
def Mk: Lc 158 0 0:=bJ 0x821763b3d7b7583b388fc395d8f571f7e77c9f9f5763b38b1 C55 [] [] @kC
def kB: (aY×aY)->((Bool->Option R)×Unit)->Unit->Option R:=λ(a,b) (c,_) _=>cnd ((wr<|a.at_+1)==b.at_) (c true)<|cnd (a.line.Arc.From==a.line.Arc.To) (bnd (iE n a) λd=>cnd d (bnd (gD n b) λf=>cnd f (c true)<|c false)<|c false)<|c false
def mU:=fK kB
def Mj: Lc 158 0 1:=bJ 0x10c55a26c70c92c35610314b4f82c55288227ea738b1 C55 [] [] @kB
def kA: (aY×Aaa×Aaa×Aaa×Aaa×Int×Int×Int)->((Bool->Option R)×Unit)->Unit->Option R:=λ(a,b,c,d,f,g,h,i) (j,_) _=>cnd (i==a.line.Arc.From) (bnd (rW n b c<|Aaa.mk g h) λl=>cnd l (bnd (rW n d f<|Aaa.mk g h) λm=>cnd m (j true)<|j false)<|j false)<|cnd (i==a.line.Arc.To) (bnd (rW n b c<|Aaa.mk g h) λo=>cnd o (bnd (rW n d f<|Aaa.mk g h) λr=>cnd r (j true)<|j false)<|j false)<|j false
def fQ:=fK kA
def Mi: Lc 158 0 3:=bJ 0x13b465cb5e446f72909c581a9ba32f5ac9b5181cb63e4eea1143ca56cba8c1706e41f2307151354703f1c3f89fe9a59c7b70b C55 [] [] @kA
def PD: Nat->aY->aY->(List<|Int×Aaa)->Option Bool
 | 0,_,_,_=>none
 | n+1,a,b,c=>bnd (dG n a) λd=>bnd (dG n b) λf=>bnd (Pc n d.1 d.2 f.1 f.2) λg=>cnd (a.line.Arc.ID==b.line.Arc.ID) (bnd (mV n (a,b)) λh=>bnd (mU n (h.1,h.2)) λi=>cnd i (cnd (g==1) (some true)<|some false)<|cnd (g==0) (some true)<|some false)<|cnd (g != 1) (cnd (g==0) (some true)<|some false)<|bnd (Ks<|Nat.ble 3 n) λ_=>bnd (fQ n (b,d.1,d.2,f.1,f.2,(Option.getD (cK c a.line.Arc.From)<|Aaa.mk 0 0).X,(Option.getD (cK c a.line.Arc.From)<|Aaa.mk 0 0).Y,a.line.Arc.From)) λj=>cnd j (some true)<|bnd (fQ n (b,d.1,d.2,f.1,f.2,(Option.getD (cK c a.line.Arc.To)<|Aaa.mk 0 0).X,(Option.getD (cK c a.line.Arc.To)<|Aaa.mk 0 0).Y,a.line.Arc.To)) λl=>cnd l (some true)<|some false
def ED: Kn:=bK 158 0x6db6871582c1305ff05b C55 [⟨0,[Mk]⟩,⟨1,[Mj]⟩,⟨3,[Mi]⟩] [] PD
abbrev C56:=ED::C55
def qD(n:Nat): (List Aab×Int)->(((List<|Int×Aaa)×Int)->Option R)->((((List<|Int×Aaa))->Option R)×Unit)->((List<|Int×Aaa)×Int)->Option R:=λ(a,b) c (d,_) (f,g)=>cd (g<b) (bnd (idx a g) λh=>c ((kS f h.ID h.At),(wr<|g+1)))<|d f
def SZ:=pM qD
def JT: Lc 136 0 0:=bR 0x194fecb405dbe8e9f0c153c2346409e510e633481ce15e0caf53b96e8e C56 [] [] @qD
def JP: Lc 158 0 0:=bJ 0xbad5d60938bf2149a3173275f370aff82caa715988b74e C56 [] [] @kC
def JO: Lc 158 0 1:=bJ 0x10c55a1fb59c519d4ead1b9bbdee1ea26f72a194b74e C56 [] [] @kB
def JN: Lc 158 0 3:=bJ 0x6a6db3ed7fed193ee5ae514eb9f9b668d4676e2f9d2b9d9632aaeafcf0ee93ed584fae709c0464562eba4348c1bcdf3446fde5aa7d6eb C56 [] [] @kA
def Do: ((List<|Int×Aaa)×aY×aY)->(((aY×aY×Aaa×Aaa×Aaa×Aaa×Bool)->Option R)×((Aaa×Aaa×Aaa×Aaa×Int×Int)->Option R)×Unit)->Unit->Option R:=λ(a,b,c) (d,f,_) _=>bnd (dG n b) λg=>bnd (dG n c) λh=>bnd (Pc n g.1 g.2 h.1 h.2) λi=>cnd (b.line.Arc.ID==c.line.Arc.ID) (bnd (mV n (b,c)) λj=>bnd (mU n (j.1,j.2)) λl=>cnd l (cnd (i==1) (d (j.1,j.2,g.1,g.2,h.1,h.2,true))<|d (j.1,j.2,g.1,g.2,h.1,h.2,false))<|cnd (i==0) (d (j.1,j.2,g.1,g.2,h.1,h.2,true))<|d (j.1,j.2,g.1,g.2,h.1,h.2,false))<|cnd (i != 1) (cnd (i==0) (d (b,c,g.1,g.2,h.1,h.2,true))<|d (b,c,g.1,g.2,h.1,h.2,false))<|bnd (Ks<|Nat.ble 3 n) λ_=>bnd (fQ n (c,g.1,g.2,h.1,h.2,(Option.getD (cK a b.line.Arc.From)<|Aaa.mk 0 0).X,(Option.getD (cK a b.line.Arc.From)<|Aaa.mk 0 0).Y,b.line.Arc.From)) λm=>cnd m (f (g.1,g.2,h.1,h.2,(Option.getD (cK a b.line.Arc.From)<|Aaa.mk 0 0).X,(Option.getD (cK a b.line.Arc.From)<|Aaa.mk 0 0).Y))<|bnd (fQ n (c,g.1,g.2,h.1,h.2,(Option.getD (cK a b.line.Arc.To)<|Aaa.mk 0 0).X,(Option.getD (cK a b.line.Arc.To)<|Aaa.mk 0 0).Y,b.line.Arc.To)) λo=>cnd o (f (g.1,g.2,h.1,h.2,(Option.getD (cK a b.line.Arc.To)<|Aaa.mk 0 0).X,(Option.getD (cK a b.line.Arc.To)<|Aaa.mk 0 0).Y))<|d (b,c,g.1,g.2,h.1,h.2,false)
def Mf:=IA Do
def JU: Ic:=cR 158 0 3 0x38bb0d09b302907a44713d9418d445c509e34db5e6ac901f01c136c03ad087e6f4bd04efb3cc470b580c85d81ed9b83736e6b1da17 C56 [⟨0,[JP]⟩,⟨1,[JO]⟩,⟨3,[JN]⟩] [] @Do
def qB: ((List<|Int×Aaa)×aY×List aY×Int)->(Int->Option R)->((Unit->Option R)×((aY×aY×aY×Aaa×Aaa×Aaa×Aaa)->Option R)×Unit)->Int->Option R:=λ(a,b,c,d) f (g,h,_) i=>cd (i<d) (bnd (idx c i) λj=>bnd (gC n j) λl=>bnd (oK n b) λm=>cd (l > m) (g ())<|bnd2 (Mf n (a,b,j)) (λo=>cnd o.2.2.2.2.2.2 (f<|wr<|i+1)<|h (j,o.1,o.2.1,o.2.2.1,o.2.2.2.1,o.2.2.2.2.1,o.2.2.2.2.2.1)) λr=>bnd (some r) λ_=>f<|wr<|i+1)<|g ()
def SY:=wO qB
def JR: Lc 136 0 2:=bR 0x58cc50cc43e6667a5a04609c4cd5bb2d2bf413880ebc8afe0769bbc5b24b2b9f5acd89107df4cb3d83259ee8398a98117ef2a1a55a63190611e C56 [] [JU] @qB
def Dn: (aY×Aab×Aaa×Aaa)->((Bool->Option R)×Unit)->Unit->Option R:=λ(a,b,c,d) (f,_) _=>bnd (rW n c d b.At) λg=>cnd g (bnd (iE n a) λh=>cnd h (cnd (a.line.Arc.From==b.ID) (f false)<|bnd (gD n a) λi=>cnd i (cnd (a.line.Arc.To==b.ID) (f false)<|f true)<|f true)<|bnd (gD n a) λj=>cnd j (cnd (a.line.Arc.To==b.ID) (f false)<|f true)<|f true)<|f false
def Md:=fK Dn
def JM: Lc 136 0 4:=bJ 0x24b5e60023fd44d72519b4129157ac8596bbfc5e20cda1b1f7e9f0d9cfe5f8bce59d8390119f3788c C56 [] [] @Dn
def qA: (aY×List Aab×Int)->(Int->Option R)->(((Aab×Aaa×Aaa)->Option R)×(Unit->Option R)×Unit)->Int->Option R:=λ(a,b,c) d (f,g,_) h=>cd (h<c) (bnd (idx b h) λi=>bnd (dG n a) λj=>bnd (Md n (a,i,j.1,j.2)) λl=>cnd l (f (i,j.1,j.2))<|d<|wr<|h+1)<|g ()
def SX:=wO qA
def JQ: Lc 136 0 3:=bR 0x26720fa6190b69c15ec65e05f07f908def7d686e5d656d8f39a96fc7c7381a039e2cf83b8c05ec C56 [⟨0,[cs JM]⟩] [] @qA
def qC: (aM×(List<|Int×Aaa)×List aY×List aY×Int)->(Int->Option R)->(((aY×Aab×Aaa×Aaa)->Option R)×((aY×aY×aY×aY×Aaa×Aaa×Aaa×Aaa)->Option R)×(Unit->Option R)×Unit)->Int->Option R:=λ(a,b,c,d,f) g (h,i,j,_) l=>cd (l<f) (bnd (idx d l) λm=>bnd (cut c (wr<|l+1)<|ln c) λo=>bnd2 (SY n (b,m,o,(ln o)) 0) (λ_=>bnd2 (SX n (m,a.Nodes,(ln a.Nodes)) 0) (λr=>h (m,r.1,r.2.1,r.2.2)) λs=>bnd (some s) λ_=>g<|wr<|l+1) λt=>bnd (some t) λu=>i (m,u.1,u.2.1,u.2.2.1,u.2.2.2.1,u.2.2.2.2.1,u.2.2.2.2.2.1,u.2.2.2.2.2.2))<|j ()
def Me:=lp3 qC
def JS: Lc 136 0 1:=bR 0x3360cdee74ad3b2af4cff8f98e25a5fffbcf10f6d8f3c24e185479169fc7b4f1a11ef60a19a219e187e37276b77e61cb00bbd4d9599acde97c29e6b650bd951ca77fc16 C56 [⟨0,[cs JR]⟩,⟨1,[cs JQ]⟩] [] @qC
def Mg: Nat->aM->Option Bool
 | 0,_=>none
 | n+1,a=>bnd (Cn n a) λb=>cnd b.2 (bnd (SZ n (a.Nodes,(ln a.Nodes)) ([],0)) λc=>bnd (prd n) λd=>bnd (Ks<|decide<|List.length b.1<=1000000) λ_=>bnd (pJ (λ(f g:aY)=>bnd (oL d f g) λh=>some h) b.1) λi=>bnd2 (Me n (a,c,i,i,(ln i)) 0) (λ_=>some false) λj=>bnd2 (some j) (λ_=>some false) λl=>bnd (some l) λ_=>some true)<|some false
def w6: Kn:=bK 136 0x144fc00d2a25 C56 [⟨0,[JT]⟩,⟨1,[JS]⟩] [] Mg
abbrev C57:=w6::C56
def Jj(n:Nat): aM->((Bool->Option R)×Unit)->Unit->Option R:=λa (b,_) _=>cd ((ln a.Nodes) > 256) (b true)<|cd ((ln a.Arcs) > 256) (b true)<|cd ((ln a.Faces) > 64) (b true)<|b false
def x7:=fK Jj
def PH: Lc 110 0 0:=bJ 0x1d120f120d3ca542e5 C57 [] [] @Jj
def sX(n:Nat): (List aR×Int)->(Int->Option R)->((aR->Option R)×(Unit->Option R)×Unit)->Int->Option R:=λ(a,b) c (d,f,_) g=>cd (g<b) (bnd (idx a g) λh=>cd ((ln h.Via) > 64) (d h)<|c<|wr<|g+1)<|f ()
def x8:=wO sX
def PI: Lc 110 0 1:=bR 0x9d1f20c4ab13df5cc45a8fd56e858b1d1bdfaab95e5cc7 C57 [] [] @sX
def Ji: (aM×List Int×List Int)->((Bool->Option R)×Unit)->Unit->Option R:=λ(a,b,c) (d,_) _=>bnd (kD n b) λf=>cnd f (bnd (kD n c) λg=>cnd g (bnd (kD n a.Faces) λh=>cnd h (d false)<|d true)<|d true)<|d true
def w9:=fK Ji
def PG: Lc 110 0 2:=bJ 0x151da2876c6d2aa3148184ece708b92c17c85bd4e C57 [] [] @Ji
def Jh: (aM×List Int×List Int)->((Bool->Option R)×Unit)->Unit->Option R:=λ(a,b,c) (d,_) _=>bnd (mI n b) λf=>cnd f (bnd (mI n c) λg=>cnd g (bnd (mI n a.Faces) λh=>cnd h (bnd (Mh n a) λi=>cnd i (d false)<|d true)<|d true)<|d true)<|d true
def w8:=fK Jh
def PE: Lc 110 0 3:=bJ 0x1aac581de9e70edd6180f4eaf62cb6690d3d4e C57 [] [] @Jh
def Hq: Nat->aM->Option Int
 | 0,_=>none
 | n+1,a=>bnd (x7 n a) λb=>cnd b (some 3)<|bnd2 (x8 n (a.Arcs,(ln a.Arcs)) 0) (λ_=>some 3) λc=>bnd (some c) λ_=>bnd (qI n a) λd=>bnd (w9 n (a,d.1,d.2)) λf=>cnd f (some 10)<|bnd (w8 n (a,d.1,d.2)) λg=>cnd g (some 2)<|bnd (wH n a d.1) λh=>cnd (h != 0) (some h)<|bnd (Mg n a) λi=>cnd i (some 0)<|some 11
def M2: Kn:=bK 110 0x2e4c72 C57 [⟨0,[PH]⟩,⟨1,[PI]⟩,⟨2,[PG]⟩,⟨3,[PE]⟩] [] Hq
abbrev C58:=M2::C57
def Jk(n:Nat): (Aaa×Aaa)->((Bool->Option R)×Unit)->Unit->Option R:=λ(a,b) (c,_) _=>cd (b.Y<a.Y) (c true)<|cnd (b.Y==a.Y) (cd (b.X<a.X) (c true)<|c false)<|c false
def z5:=fK Jk
def PO: Lc 179 0 0:=bJ 0x51d318c13 C58 [] [] @Jk
def gO: Nat->Aaa->Aaa->Option Bool
 | 0,_,_=>none
 | n+1,a,b=>bnd (z5 n (a,b)) λc=>cnd c (some true)<|some false
def P3: Kn:=bK 179 0x1b47baa7f604 C58 [⟨0,[PO]⟩] [] gO
abbrev C59:=P3::C58
def Ng: (Aaa×Aaa×Aaa)->((Bool->Option R)×Unit)->Unit->Option R:=λ(a,b,c) (d,_) _=>bnd (nR n [a,b,c]) λf=>cnd f (cd (b=a) (d true)<|cd (c=a) (d true)<|d false)<|d true
def FC:=fK Ng
def VE: Lc 169 0 0:=bJ 0x380b5535a449eb2faa4b7e1c6c9105851f7b02315f35f43637a7 C59 [] [] @Ng
def Pd: Nat->Aaa->Aaa->Aaa->Option Bool
 | 0,_,_,_=>none
 | n+1,a,b,c=>bnd (FC n (a,b,c)) λd=>cnd d (some false)<|bnd (gO n a b) λf=>cnd f (bnd (gO n a c) λg=>cnd g (cd (true=true) (bnd (gN n a b c) λh=>cd (h > 0) (some true)<|some false)<|bnd (gO n a c) λi=>cnd i (some true)<|some false)<|cd (true=false) (bnd (gN n a b c) λj=>cd (j > 0) (some true)<|some false)<|bnd (gO n a c) λl=>cnd l (some true)<|some false)<|bnd (gO n a c) λm=>cnd m (cd (false=true) (bnd (gN n a b c) λo=>cd (o > 0) (some true)<|some false)<|bnd (gO n a c) λr=>cnd r (some true)<|some false)<|cd (false=false) (bnd (gN n a b c) λs=>cd (s > 0) (some true)<|some false)<|bnd (gO n a c) λt=>cnd t (some true)<|some false
def aBq: Kn:=bK 169 0x29e839 C59 [⟨0,[VE]⟩] [] Pd
abbrev C60:=aBq::C59
def Db(n:Nat): (aR×Int)->((Bool->Option R)×Unit)->Unit->Option R:=λ(a,b) (c,_) _=>cnd (a.From != b) (cnd (a.To != b) (c true)<|c false)<|c false
def SE:=fK Db
def IK: Lc 122 0 1:=bJ 0x232f38d81fe8a12c1b90f4e610c7336c956363ad6ba5315c0cb0c9d74b7f6255cf C60 [] [] @Db
def pZ(n:Nat): (List Int×(List<|Int×Aaa)×Int×Aaa)->(((List Int×(List<|Int×Aaa))->Option R)×Unit)->Unit->Option R:=λ(a,b,c,d) (f,_) _=>bnd (app a [c]) λg=>f (g,(kS b c d))
def nW:=zP pZ
def IQ: Ic:=cR 145 0 4 0x35a8ef6654823f01a92c430f754c92ba3528d4d530f2f042ecd337cce515ba476f74c6bdc6b C60 [] [] @pZ
def IP: Ic:=cR 145 0 4 0x1a03eb733e7d0e8e1511ad661bdccd76dda2a8de4e2e84860510364860a7b5f77aafdd5f43afc045b C60 [] [] @pZ
def kL: (aM×Int×List aR×Int)->((List Int×(List<|Int×Aaa)×Int)->Option R)->(((List Int×(List<|Int×Aaa))->Option R)×Unit)->(List Int×(List<|Int×Aaa)×Int)->Option R:=λ(a,b,c,d) f (g,_) (h,i,j)=>cd (j<d) (bnd (idx c j) λl=>bnd (SE n (l,b)) λm=>cnd m (f (h,i,(wr<|j+1)))<|bnd (eZ n a l.ID) λo=>cnd (o.2 != 0) (f (h,i,(wr<|j+1)))<|cnd (l.From==b) (bnd (idx o.1 1) λr=>bnd (nW n (h,i,l.ID,r)) λs=>cnd (l.To==b) (bnd (idx o.1<|wr<|(ln o.1)-2) λt=>bnd (nW n (s.1,s.2,(wr<|0-l.ID),t)) λu=>f (u.1,u.2,(wr<|j+1)))<|f (s.1,s.2,(wr<|j+1)))<|cnd (l.To==b) (bnd (idx o.1<|wr<|(ln o.1)-2) λv=>bnd (nW n (h,i,(wr<|0-l.ID),v)) λw=>f (w.1,w.2,(wr<|j+1)))<|f (h,i,(wr<|j+1)))<|g (h,i)
def SF:=pM kL
def IL: Lc 122 0 0:=bR 0xdb8406c6af051afb19932e3c24fc4f2ebc8a1b392dd9cf2e88ef5d99e8dd037b201036a011c7e9ab9cde08998f9246a6823fdd4 C60 [⟨0,[cs IK]⟩] [IQ,IP] @kL
def Dc: (Aab×(List<|Int×Aaa)×Int×Int)->((Int->Option R)×Unit)->Unit->Option R:=λ(a,b,c,d) (f,_) _=>bnd (Pd n a.At (Aaa.mk ((Option.getD (cK b c)<|Aaa.mk 0 0).X)<|(Option.getD (cK b c)<|Aaa.mk 0 0).Y)<|Aaa.mk ((Option.getD (cK b d)<|Aaa.mk 0 0).X)<|(Option.getD (cK b d)<|Aaa.mk 0 0).Y) λg=>cnd g (f (-1))<|bnd (Pd n a.At (Aaa.mk ((Option.getD (cK b d)<|Aaa.mk 0 0).X)<|(Option.getD (cK b d)<|Aaa.mk 0 0).Y)<|Aaa.mk ((Option.getD (cK b c)<|Aaa.mk 0 0).X)<|(Option.getD (cK b c)<|Aaa.mk 0 0).Y) λh=>cnd h (f 1)<|f 0
def vO:=zP Dc
def IM: Ic:=cR 146 6 4 0x92fb7b3bf054b608b4bae011fd53591b4f8e55ae82e0958737ae9efbd46eeed044 C60 [] [] @Dc
def Li: Nat->aM->Int->Option (List Int)
 | 0,_,_=>none
 | n+1,a,b=>bnd (fJ n a b) λc=>cnd c.2 (bnd (SF n (a,b,a.Arcs,(ln a.Arcs)) ([],[],0)) λd=>bnd (prd n) λf=>bnd (Ks<|decide<|List.length d.1<=1000000) λ_=>bnd (pJ (λ(g h:Int)=>bnd (vO f (c.1,d.2,g,h)) λi=>some i) d.1) λj=>some j)<|some []
def u6: Kn:=bK 122 0x8779ac5ef73c525d9402e61 C60 [⟨0,[IL]⟩] [IM] Li
abbrev C61:=u6::C60
def vN: Nat->(List Int)->Int->Option Int
 | 0,_,_=>none
 | n+1,a,b=>bnd (kM n a b) λc=>cd (c<0) (some 0)<|bnd (aFA (wr<|(wr<|c+(ln a))-1)<|ln a) λd=>bnd (idx a d) λf=>some f
def IE: Kn:=bK 123 0x51c0da C61 [] [] vN
abbrev C62:=IE::C61
def pX: (List Int×List Int×Int)->((List Int×(List<|Int×Int)×Int)->Option R)->(((List Int×(List<|Int×Int))->Option R)×Unit)->(List Int×(List<|Int×Int)×Int)->Option R:=λ(a,b,c) d (f,_) (g,h,i)=>cd (i<c) (bnd (idx b i) λj=>bnd (app g [j]) λl=>bnd (vN n a j) λm=>d (l,(kS h (wr<|0-j) m),(wr<|i+1)))<|f (g,h)
def SB:=pM pX
def IH: Lc 102 0 1:=bR 0xb720b444882e471f59a2092093bbf90e1533ee2b2d83be4f3a7d42c15b3137861687019146915e48dd65bf1852344e2c97a888f93d1c2 C62 [] [] @pX
def pY: (aM×List Aab×Int)->((List Int×(List<|Int×Int)×Int)->Option R)->(((List Int×(List<|Int×Int))->Option R)×Unit)->(List Int×(List<|Int×Int)×Int)->Option R:=λ(a,b,c) d (f,_) (g,h,i)=>cd (i<c) (bnd (idx b i) λj=>bnd (Li n a j.ID) λl=>bnd (SB n (l,l,(ln l)) (g,h,0)) λm=>d (m.1,m.2,(wr<|i+1)))<|f (g,h)
def SC:=pM pY
def II: Lc 102 0 0:=bR 0x16cfbee7f74c19ade9d0e7ab771e8551e37fce7daa8c0b58c4bc10e23f07bcaec82347abb34c617ce C62 [⟨0,[cs IH]⟩] [] @pY
def pV(n:Nat): ((List<|Int×Int))->(((List<|Int×Bool)×List Int×Int)->Option R)->((((List<|Int×Bool)×List Int)->Option R)×Unit)->((List<|Int×Bool)×List Int×Int)->Option R:=λa b (c,_) (d,f,g)=>cnd ((Option.getD (cK d g) false)) (c (d,f))<|bnd (app f [g]) λh=>b ((kS d g true),h,(Option.getD (cK a g) 0))
def SA:=pM pV
def IF: Lc 125 0 0:=bR 0xc03613ffa6d2116b1569916db205f1fad1328371fde57f757d068916aa84ace59bc504a3a9269d15c62840 C62 [] [] @pV
def Da: ((List<|Int×Int)×(List<|Int×Bool)×Int)->((((List<|Int×Bool)×List Int)->Option R)×Unit)->Unit->Option R:=λ(a,b,c) (d,_) _=>bnd (SA n a (b,[],c)) λf=>d (f.1,f.2)
def SD:=zP Da
def IJ: Ic:=cR 125 0 3 0x227ec4cc732ed847b8b5e78a6d7061634304a63d6c91f1003858c3051f4eb1308f9e9b41da6d38 C62 [⟨0,[IF]⟩] [] @Da
def pW: ((List<|Int×Int)×List Int×Int)->(((List<|List Int)×(List<|Int×Bool)×Int)->Option R)->((((List<|List Int)×(List<|Int×Bool))->Option R)×Unit)->((List<|List Int)×(List<|Int×Bool)×Int)->Option R:=λ(a,b,c) d (f,_) (g,h,i)=>cd (i<c) (bnd (idx b i) λj=>cnd ((Option.getD (cK h j) false)) (d (g,h,(wr<|i+1)))<|bnd (SD n (a,h,j)) λl=>bnd (app g [l.2]) λm=>d (m,l.1,(wr<|i+1)))<|f (g,h)
def Lh:=pM pW
def IG: Lc 102 0 2:=bR 0x3c382f5ef74f05e766234a164c0b028ef451b4b16dc33146cc8d68a035cdcf343f13e18d74b15b156f71d2681afcde040511a80e55ff4d063fc6db C62 [] [IJ] @pW
def zB: Nat->aM->Option ((List<|List Int)×Int)
 | 0,_=>none
 | n+1,a=>bnd (Hq n a) λb=>cnd (b != 0) (some ([],b))<|bnd (SC n (a,a.Nodes,(ln a.Nodes)) ([],[],0)) λc=>bnd (prd n) λ_=>bnd (Ks<|decide<|List.length c.1<=1000000) λ_=>bnd (Lh n (c.2,(hU c.1),(ln<|hU c.1)) ([],[],0)) λd=>some (d.1,0)
def u5: Kn:=bK 102 0x1dfd65a310d18fddca89b518e108d446fc4 C62 [⟨0,[II]⟩,⟨2,[IG]⟩] [] zB
abbrev C63:=u5::C62
def lG: (aM×List aR×Int)->(((List<|Int×List Aaa)×Int)->Option R)->((((List<|Int×List Aaa))->Option R)×Unit)->((List<|Int×List Aaa)×Int)->Option R:=λ(a,b,c) d (f,_) (g,h)=>cd (h<c) (bnd (idx b h) λi=>bnd (eZ n a i.ID) λj=>cnd (j.2==0) (d ((kS g i.ID j.1),(wr<|h+1)))<|d (g,(wr<|h+1)))<|f g
def DL:=pM lG
def Pq: Lc 103 0 0:=bR 0xac0a6e4d347ff707d1125a1646943ab3e36743bde3a5d0c41d8a1fecab89fab3da415 C63 [] [] @lG
def oC: Nat->aM->Option (List<|Int×List Aaa)
 | 0,_=>none
 | n+1,a=>bnd (DL n (a,a.Arcs,(ln a.Arcs)) ([],0)) λb=>some b
end
end
section
variable {R:Type}(n:Nat)
noncomputable section
def JF: Kn:=bK 103 0xcc066190ac7b89 C63 [⟨0,[Pq]⟩] [] oC
abbrev C64:=JF::C63
def Gs: Nat->aM->Int->Option (aR×Bool)
 | 0,_,_=>none
 | n+1,a,b=>cnd (b==0) (some ((aR.mk 0 0 0 [] 0 0),false))<|cnd (b==(-9223372036854775808)) (some ((aR.mk 0 0 0 [] 0 0),false))<|bnd (oO n a<|iP b<|wr<|0-b) λc=>cnd c.2 (some (c.1,true))<|some (c.1,false)
def J7: Kn:=bK 148 0x17d3eefdc93d C64 [] [] Gs
abbrev C65:=J7::C64
def sQ(n:Nat): (List Aaa×Int)->((Int×Int)->Option R)->((Int->Option R)×Unit)->(Int×Int)->Option R:=λ(a,b) c (d,_) (f,g)=>cd (g<b) (bnd (idx a g) λh=>bnd (idx a<|wr<|g+1) λi=>bnd (idx a<|wr<|g+1) λj=>bnd (idx a g) λl=>c ((wr<|f+(wr<|(wr<|h.X*i.Y)-(wr<|j.X*l.Y))),(wr<|g+1)))<|d f
def t8:=pM sQ
def OQ: Lc 126 0 1:=bR 0x3e73c40489896aa17942250d1bf401fe18633db3e3a54d38244e C65 [] [] @sQ
def sS: (aM×List Int×Int)->((Int×Int)->Option R)->((aR->Option R)×(Int->Option R)×Unit)->(Int×Int)->Option R:=λ(a,b,c) d (f,g,_) (h,i)=>cd (i<c) (bnd (idx b i) λj=>bnd (Gs n a j) λl=>cnd l.2 (bnd (eZ n a<|iP j<|wr<|0-j) λm=>cnd (m.2 != 0) (f l.1)<|bnd (t8 n (m.1,(wr<|(ln m.1)-1)) (0,0)) λo=>cd (j<0) (d ((wr<|h+(wr<|0-o)),(wr<|i+1)))<|d ((wr<|h+o),(wr<|i+1)))<|f l.1)<|g h
def t9:=wO sS
def OR: Lc 126 0 0:=bR 0x1f3bb5e628bab75e761fbbaabaa6c7e4ee90b8262d5215dc38ee7a4 C65 [⟨0,[cs OQ]⟩] [] @sS
def pU: Nat->aM->(List Int)->Option Int
 | 0,_,_=>none
 | n+1,a,b=>cd ((ln b) > 512) (some 0)<|bnd2 (t9 n (a,b,(ln b)) (0,0)) (λ_=>some 0) λc=>bnd (some c) λd=>some d
def Gt: Kn:=bK 126 0x2fc9b2a22c28 C65 [⟨0,[OR]⟩] [] pU
abbrev C66:=Gt::C65
def jW: (Aaa×Aaa×Aaa)->((Bool->Option R)×Unit)->Unit->Option R:=λ(a,b,c) (d,_) _=>cd (b.Y<=a.Y) (cd (a.Y<c.Y) (bnd (iX n b c a) λf=>cd (f > 0) (d true)<|d false)<|d false)<|d false
def mG:=fK jW
def vW: Lc 170 0 0:=bJ 0x3d30b27481a181f203d040f67fcea1f6fdfc00ce6be0a1222675019 C66 [] [] @jW
def jV: (Aaa×Aaa×Aaa)->((Bool->Option R)×Unit)->Unit->Option R:=λ(a,b,c) (d,_) _=>cd (c.Y<=a.Y) (cd (a.Y<b.Y) (bnd (iX n b c a) λf=>cd (f<0) (d true)<|d false)<|d false)<|d false
def mF:=fK jV
def vV: Lc 170 0 1:=bJ 0x175ed90ac22d2f4945483bc4a48744b1679935019 C66 [] [] @jV
def jX: (Aaa×Bool×Bool×Aaa×Aaa)->(((Bool×Bool)->Option R)×Unit)->Unit->Option R:=λ(a,b,c,d,f) (g,_) _=>bnd (rW n d f a) λh=>cnd h (g (true,c))<|bnd (mG n (a,d,f)) λi=>cnd i (g (b,(!c)))<|bnd (mF n (a,d,f)) λj=>cnd j (g (b,(!c)))<|g (b,c)
def mH:=zP jX
def vZ: Ic:=cR 170 0 5 0x2712096b301b90f23d90b5e8149195105d4c81bba8598935ad6f548 C66 [⟨0,[vW]⟩,⟨1,[vV]⟩] [] @jX
def eG: (Aaa×List Aaa)->((Bool×Bool×Int)->Option R)->(((Bool×Bool)->Option R)×Unit)->(Bool×Bool×Int)->Option R:=λ(a,b) c (d,_) (f,g,h)=>cd (h<(ln b)) (bnd (idx b<|wr<|h-1) λi=>bnd (idx b h) λj=>bnd (mH n (a,f,g,i,j)) λl=>cnd l.1 (cnd l.2 (c (true,true,(wr<|h+1)))<|c (true,false,(wr<|h+1)))<|cnd l.2 (c (false,true,(wr<|h+1)))<|c (false,false,(wr<|h+1)))<|d (f,g)
def Cj:=pM eG
def vX: Lc 171 0 1:=bR 0x19654175558db4097a54f85ae95a4355d9220cb3e92728e0dd7377bfe3 C66 [] [vZ] @eG
def fO: (Aaa×(List<|Int×List Aaa)×List Int×Int)->((Bool×Bool×Int)->Option R)->(((Bool×Bool)->Option R)×Unit)->(Bool×Bool×Int)->Option R:=λ(a,b,c,d) f (g,_) (h,i,j)=>cd (j<d) (bnd (idx c j) λl=>bnd (Cj n (a,(Option.getD (cK b<|iP l<|wr<|0-l) [])) (h,i,1)) λm=>f (m.1,m.2,(wr<|j+1)))<|g (h,i)
def Ck:=pM fO
def vY: Lc 171 0 0:=bR 0x11786d7fc2f7c3a915d24f9905feb206b1ddc7953ac0 C66 [⟨0,[cs vX]⟩] [] @fO
def jY: (Aaa×(List<|Int×List Aaa)×List Int)->(((Bool×Bool)->Option R)×Unit)->Unit->Option R:=λ(a,b,c) (d,_) _=>bnd (Ck n (a,b,c,(ln c)) (false,false,0)) λf=>d (f.1,f.2)
def Cl:=zP jY
def wA: Ic:=cR 171 0 3 0x113107def1c8d7995a75f86e98c7d35a6d245e516 C66 [⟨0,[vY]⟩] [] @jY
def eK: Nat->(List<|Int×List Aaa)->(List Int)->Aaa->Option Bool
 | 0,_,_,_=>none
 | n+1,a,b,c=>bnd (Cl n (c,a,b)) λd=>cnd d.1 (cnd d.2 (some false)<|some false)<|cnd d.2 (some true)<|some false
def Dl: Kn:=bK 149 0x9d8b3531ea4eab0b8 C66 [] [wA] eK
abbrev C67:=Dl::C66
def oB: (Aaa×(List<|Int×List Aaa)×List Ix×Int×Int)->((Bool->Option R)×Unit)->Unit->Option R:=λ(a,b,c,d,f) (g,_) _=>cnd (d==0) (bnd (idx c f) λh=>bnd (eK n b h.outer a) λi=>cnd i (g true)<|g false)<|bnd (idx c f) λj=>bnd (idx c d) λl=>cd (j.twice<l.twice) (bnd (idx c f) λm=>bnd (eK n b m.outer a) λo=>cnd o (g true)<|g false)<|g false
def sH:=fK oB
def Hl: Lc 127 0 1:=bJ 0xf7765266e214a650cee043f67491254e047cdde3e7cff60630df51bcd C67 [] [] @oB
def iB: (Aaa×(List<|Int×List Aaa)×List Ix)->((Int×Int)->Option R)->((Int->Option R)×Unit)->(Int×Int)->Option R:=λ(a,b,c) d (f,_) (g,h)=>cd (h<(ln c)) (bnd (sH n (a,b,c,g,h)) λi=>cnd i (d (h,(wr<|h+1)))<|d (g,(wr<|h+1)))<|f g
def Lx:=pM iB
def Hm: Lc 127 0 0:=bR 0x8c6a25854ecd4c60e15468243cb3c50bf44c5bcd C67 [⟨0,[cs Hl]⟩] [] @iB
def eF: Nat->(List<|Int×List Aaa)->(List Ix)->Aaa->Option Int
 | 0,_,_,_=>none
 | n+1,a,b,c=>bnd (Lx n (c,a,b) (0,1)) λd=>some d
def lE: Kn:=bK 127 0x79349e98882e0e129f38 C67 [⟨0,[Hm]⟩] [] eF
abbrev C68:=lE::C67
def Ds(n:Nat): (aR×Int×Int)->((Int->Option R)×Unit)->Unit->Option R:=λ(a,b,c) (d,_) _=>cnd (a.From==b) (d<|wr<|c+1)<|d c
def TN:=fK Ds
def KI: Lc 82 0 1:=bJ 0x1939822375b9c1117beecaa6c3d26af42b6bd2acc214f0b7a068c7e C68 [] [] @Ds
def qJ: (Int×List aR×Int)->((Int×Int)->Option R)->((Int->Option R)×Unit)->(Int×Int)->Option R:=λ(a,b,c) d (f,_) (g,h)=>cd (h<c) (bnd (idx b h) λi=>bnd (TN n (i,a,g)) λj=>cnd (i.To==a) (d ((wr<|j+1),(wr<|h+1)))<|d (j,(wr<|h+1)))<|f g
def TO:=pM qJ
def KJ: Lc 82 0 0:=bR 0x19fda547f60c5f6506edb3c24a53de46 C68 [⟨0,[cs KI]⟩] [] @qJ
def kE: Nat->aM->Int->Option Int
 | 0,_,_=>none
 | n+1,a,b=>bnd (TO n (b,a.Arcs,(ln a.Arcs)) (0,0)) λc=>some c
def Co: Kn:=bK 82 0x51c025 C68 [⟨0,[KJ]⟩] [] kE
abbrev C69:=Co::C68
end
end
section
open iT (den cds ag)
noncomputable section
def bl(x n:Nat): List Bool:=(List.range n).map λi=>x.testBit i
abbrev z0: Value:=.int .i64 0
def aNZ: bP:=(.seq (.region false [] [o1 24 (.ibin .lss (tp 23) (tp 22))]) (.seq (.cond (tp 24) .skip (.exit 0)) (.seq (.block 1 (.seq (.region false [] [o1 25 (.idxAddr 1 (tp 21) (tp 23)),o1 26 (.load false 1 (tp 25)),om 10 26]) (.seq (.region false [] [o1 27 (.load true 3 (tp 3)),om 28 10,o1 29 (.callB 126 [(tp 27),(tp 28)]),om 11 29]) (.seq (.region false [] [om 30 11,o1 31 (.ibin .gtr (tp 30) (.lit z0))]) (.cond (tp 31) (.region false [] [om 32 7,om 33 11,om 34 10,o1 35 (.build [z0,bL,bL,bL] [(0,1,(tp 33)),(1,1,(tp 34))]),o1 36 (.buildSl false 4 1 [z0,bL,bL,bL] [(0,(tp 35))]),o1 37 (.append 4 80 (tp 32) (tp 36)),om 7 37]) (.region false [] [om 38 8,om 39 10,o1 40 (.buildSl true 1 1 [bL] [(0,(tp 39))]),o1 41 (.append 1 24 (tp 38) (tp 40)),om 8 41])))))) (.region false [] [o1 42 (.ibin .add (tp 23) (.lit (.int .i64 1))),om 23 42]))))
def aNY: bP:=(.seq (.region false [] [o1 46 (.ibin .lss (tp 45) (tp 44))]) (.seq (.cond (tp 46) .skip (.exit 2)) (.seq (.block 3 (.seq (.region false [] [o1 47 (.idxAddr 1 (tp 43) (tp 45)),o1 48 (.load false 1 (tp 47)),om 13 48]) (.seq (.region true [] [om 49 2,om 50 13,o1 51 (.idxAddr 1 (tp 50) (.lit z0)),o1 52 (.load false 1 (tp 51)),om 53 13,o1 54 (.idxAddr 1 (tp 53) (.lit z0)),o1 55 (.load false 1 (tp 54)),o1 56 (.un .neg (tp 55)),o1 57 (.minmax true [(tp 52),(tp 56)]),o1 58 (.lookup 3 (.lit bL) (tp 49) (tp 57) false),om 14 58]) (.seq (.region false [] [om 59 2,om 60 7,om 61 14,o1 62 (.idxAddr 2 (tp 61) (.lit z0)),o1 63 (.load true 2 (tp 62)),o1 64 (.callB 127 [(tp 59),(tp 60),(tp 63)]),om 15 64]) (.region false [] [om 65 7,om 66 15,om 67 7,om 68 15,o1 69 (.idxAddr 4 (tp 67) (tp 68)),o1 70 (.fieldAddr 2 (tp 69)),o1 71 (.load false 1 (tp 70)),om 72 13,o1 73 (.buildSl true 1 1 [bL] [(0,(tp 72))]),o1 74 (.append 1 24 (tp 71) (tp 73)),o1 75 (.idxAddr 4 (tp 65) (tp 66)),o1 76 (.fieldAddr 2 (tp 75)),⟨none,.store 1 (tp 76) (tp 74),none⟩]))))) (.region false [] [o1 77 (.ibin .add (tp 45) (.lit (.int .i64 1))),om 45 77]))))
def aNX: bP:=(.seq (.region false [] [o1 82 (.ibin .lss (tp 81) (tp 80))]) (.seq (.cond (tp 82) .skip (.exit 4)) (.seq (.block 5 (.seq (.region false [] [o1 83 (.idxAddr 3 (tp 79) (tp 81)),o1 84 (.load true 3 (tp 83)),o1 17 (.alloc [z0,z0,z0]),⟨none,.store 3 (tp 17) (tp 84),none⟩]) (.seq (.region false [] [o1 85 (.load true 3 (tp 3)),o1 86 (.fieldAddr 0 (tp 17)),o1 87 (.load false 1 (tp 86)),o1 88 (.callB 82 [(tp 85),(tp 87)]),o1 89 (.ibin .eql (tp 88) (.lit z0))]) (.cond (tp 89) (.seq (.region false [] [om 90 2,om 91 7,o1 92 (.fieldAddr 1 (tp 17)),o1 93 (.load true 2 (tp 92)),o1 94 (.callB 127 [(tp 90),(tp 91),(tp 93)]),om 18 94]) (.region true [] [om 95 7,om 96 18,om 97 7,om 98 18,o1 99 (.idxAddr 4 (tp 97) (tp 98)),o1 100 (.fieldAddr 3 (tp 99)),o1 101 (.load false 1 (tp 100)),o1 102 (.fieldAddr 0 (tp 17)),o1 103 (.load false 1 (tp 102)),o1 104 (.buildSl true 1 1 [z0] [(0,(tp 103))]),o1 105 (.append 1 8 (tp 101) (tp 104)),o1 106 (.idxAddr 4 (tp 95) (tp 96)),o1 107 (.fieldAddr 3 (tp 106)),⟨none,.store 1 (tp 107) (tp 105),none⟩])) .skip)))) (.region false [] [o1 108 (.ibin .add (tp 81) (.lit (.int .i64 1))),om 81 108]))))
theorem aLj: (t6 T 104).body=(.seq (.region false [] [o1 3 (.box (tp 0)),o1 6 (.movN (.lit bL))]) (.seq (.region false [] [o1 19 (.build [z0,bL,bL,bL] []),o1 20 (.buildSl false 4 1 [z0,bL,bL,bL] [(0,(tp 19))]),om 7 20]) (.seq (.region false [] [o1 8 (.claim 1)]) (.seq (.seq (.region false [] [om 21 1,o1 22 (.lenS (tp 21)),o1 23 (.mov (.lit z0))]) (.block 0 (.mask (bl 0x18c 9) (bl 0x40 7) false (.loop (some (bl 0xe0018c 24)) false aNZ)))) (.seq (.seq (.region false [] [om 43 8,o1 44 (.lenS (tp 43)),o1 45 (.mov (.lit z0))]) (.block 2 (.mask (bl 0x8c 8) (bl 0x40 7) false (.loop (some (bl 0x38000000008c 46)) false aNY)))) (.seq (.seq (.region false [] [o1 78 (.fieldAddr 0 (tp 3)),o1 79 (.load false 1 (tp 78)),o1 80 (.lenS (tp 79)),o1 81 (.mov (.lit z0))]) (.block 4 (.mask (bl 0x80 8) (bl 0x40 7) false (.loop (some (bl 0x38000000000000000008c 82)) false aNX)))) (.seq (.region false [] [om 109 7,om 6 109]) .ret))))))):=by kernel_rfl
def arV(a:dP): Ix:=⟨a.twice,a.outer,(),()⟩
def dv1(n:Nat)(p:aM): List (List Int)->List dP->List (List Int)->Option (List dP×List (List Int))
 | [],l,q=>some (l,q)
 | c::cs,l,q=>bnd (pU n p c) λt=>cnd (decide (t > 0)) (dv1 n p cs (l++[⟨t,c,[],[]⟩]) q) (dv1 n p cs l (q++[c]))
def dv2(n:Nat)(m:List (Int×List Aaa)): List (List Int)->List dP->Option (List dP)
 | [],l=>some l
 | c::cs,l=>bnd (idx c 0) λd=>bnd (idx ((cK m (iP d (wr (0-d)))).getD []) 0) λat_=>bnd (eF n m (l.map arV) at_) λi=>bnd (idx l i) λa=>
  dv2 n m cs (l.set i.toNat ⟨a.twice,a.outer,a.inner++[c],a.alone⟩)
def dv3(n:Nat)(p:aM)(m:List (Int×List Aaa)): List Aab->List dP->Option (List dP)
 | [],l=>some l
 | x::xs,l=>bnd (kE n p x.ID) λd=>cnd (d==0)
  (bnd (eF n m (l.map arV) x.At) λi=>bnd (idx l i) λa=>dv3 n p m xs (l.set i.toNat ⟨a.twice,a.outer,a.inner,a.alone++[x.ID]⟩))
  (dv3 n p m xs l)
def iU: Nat->aM->List (List Int)->List (Int×List Aaa)->Option (List dP)
 | 0,_,_,_=>none
 | n+1,p,cs,m=>bnd (Ks (decide (cs.length<n/\p.Nodes.length<n/\cs.length<=190000/\p.Nodes.length<=9000))) λ_=>bnd (dv1 n p cs [⟨0,[],[],[]⟩] []) λq=>bnd (dv2 n m q.2 q.1) λl=>dv3 n p m p.Nodes l
structure RA where
 a:dP
 o:AV
 x:AV
 y:AV
def RA.c(r:RA): List AV:=[iv r.a.twice,r.o,r.x,r.y]
def gR(kd:Nat)(H:aT)(x:AV)(l:List (den kd)): Prop:=(x=.lit bL/\l=[])\/∃k es,x=.ms k es.length 0 es.length/\3<=k/\H[k]?=some (.blk 1 es)/\Ql kd l es
def idC: AV->Option Nat
 | .ms k _ _ _=>some k
 | _=>none
def sel(r:RA)(u:Bool): AV:=match u with
 | true=>r.y
 | false=>r.x
structure DI(H:aT)(w:List RA): Prop where
 co:∀(i:Nat) (r:RA),w[i]?=some r->Qp (.sl 3 r.a.outer) r.o
 cx:∀(i:Nat) (r:RA),w[i]?=some r->gR 12 H r.x r.a.inner
 cy:∀(i:Nat) (r:RA),w[i]?=some r->gR 3 H r.y r.a.alone
 ne:∀(i j:Nat) (r s:RA) (u v:Bool) (k:Nat),w[i]?=some r->w[j]?=some s->idC (sel r u)=some k->idC (sel s v)=some k->i=j/\u=v
theorem gR.id{kd:Nat}{H:aT}{x:AV}{l:List (den kd)}{k:Nat}(h:gR kd H x l)(hk:idC x=some k): 3<=k/\∃o,H[k]?=some o:=by
 rcases h with⟨rfl,_⟩ | ⟨k',es,rfl,h3,hh,_⟩
 .cases hk
 .cases hk;exact⟨h3,_,hh⟩
theorem gR.mono{kd:Nat}{H H':aT}{x:AV}{l:List (den kd)}(h:gR kd H x l)(hk:∀k,idC x=some k->H'[k]?=H[k]?): gR kd H' x l:=by
 rcases h with⟨rfl,h⟩ | ⟨k',es,rfl,h3,hh,q⟩
 .exact .inl ⟨rfl,h⟩
 .exact .inr ⟨k',es,rfl,h3,by rw[hk k' rfl];exact hh,q⟩
theorem gR.shut{kd:Nat}{H H':aT}{x:AV}{l:List (den kd)}{d:Nat}(h:gR kd H x l)(hk:∀k,3<=k->H'[k]?=H[k]?): Qp (.sl kd l) (eE H' 0 (d+1) x):=by
 rcases h with⟨rfl,rfl⟩ | ⟨k',es,rfl,h3,hh,q⟩
 .exact Qp.mkS (es:=[]) (.inr ⟨false,rfl⟩) trivial
 .simp only[eE,ZG,Zz,rd,hk k' h3,hh,YD,XO]
  exact Qp.mkS (.inr ⟨_,rfl⟩) ((Dt H' 0 d).ls q)
theorem gR.grow{kd:Nat}{H:aT}{x:AV}{l:List (den kd)}{bytes:Nat}{e:den kd}{row:List AV}(h:gR kd H x l)(hr:Qr (jJ kd e) row)(h1:row.length=1)(hb:bytes<=100000)(hl:l.length<=200000)(h3:3<=H.length):
 ∃k es H',cN 0 H 1 bytes x [row]=some (.ms k es.length 0 es.length,H')/\3<=k/\H'[k]?=some (.blk 1 es)/\Ql kd (l++[e]) es/\(∀j,j≠k->H'[j]?=H[j]?)/\(idC x=some k\/H[k]?=none)/\H.length<=H'.length:=by
 have a1:eT 1 [row]=true:=by simp[eT,h1]
 have rm:∀z,z<=300000->kP z bytes=true:=λz hz=>by
  have:z*bytes<=300000*100000:=Y8 hz hb
  unfold kP;simp;omega
 rcases h with⟨rfl,rfl⟩ | ⟨k',es,rfl,hk,hh,q⟩
 .refine⟨H.length,[row],H++[.blk 1 [row]],?_,h3,?_,⟨hr,trivial⟩,?_,.inr (Zy (Zf _)),by simp⟩
  .show (if eT 1 [row]=true/\0<1/\kP 1 bytes=true then _ else _)=_
   rw[Zu ⟨a1,by decide,rm 1 (by decide)⟩];rfl
  .rw[ZX (Zf _),XR];rfl
  .intro j hj
   rcases ZI j H.length with h | h
   .rw[Zo h]
   .rw[Zy h,Zy (by simp;omega)]
 .have hlt:k'<H.length:=(Ze.1 hh).1
  have hes:=q.len
  refine⟨k',es++[row],H.set k' (.blk 1 (es++[row])),?_,hk,?_,q.app ⟨hr,trivial⟩,?_,.inl rfl,by simp⟩
  .show (if eT 1 [row]=true/\0<1/\kP 1 bytes=true then _ else _)=_
   rw[Zu ⟨a1,by decide,rm 1 (by decide)⟩]
   simp only[hh]
   simp only[We,Yd,rm (es.length+1) (by omega),Zz,Nat.one_ne_zero,Z9,ZG,Zh]
  .rw[Z3 hlt]
  .intro j hj;rw[Zv (Ne.symm hj)]
theorem DI.upd{H H' H2:aT}{w:List RA}{i:Nat}{r r':RA}{k:Nat}{u:Bool}(hI:DI H w)(hi:w[i]?=some r)(hk:3<=k)(hne:∀j,j≠k->H'[j]?=H[j]?)(hold:idC (sel r u)=some k\/H[k]?=none)(h2:∀j,j≠1->H2[j]?=H'[j]?)(ho:r'.o=r.o/\r'.a.outer=r.a.outer)(hx:gR 12 H2 r'.x r'.a.inner\/(r'.x=r.x/\r'.a.inner=r.a.inner/\u=true))(hy:gR 3 H2 r'.y r'.a.alone\/(r'.y=r.y/\r'.a.alone=r.a.alone/\u=false))(hu:idC (sel r' u)=some k)(hv:sel r' (!u)=sel r (!u)): DI H2 (w.set i r'):=by
 have hlt:=(Ze.1 hi).1
 have g:∀(j:Nat) (s:RA),(w.set i r')[j]?=some s->(j=i/\s=r')\/(j≠i/\w[j]?=some s):=by
  intro j s h
  by_cases hj:j=i
  .subst hj;rw[Z3 hlt] at h;cases h;exact .inl ⟨rfl,rfl⟩
  .rw[Zv (Ne.symm hj)] at h;exact .inr ⟨hj,h⟩
 have old:∀(j:Nat) (s:RA) (v:Bool) (q:Nat),w[j]?=some s->idC (sel s v)=some q->3<=q/\∃o,H[q]?=some o:=by
  intro j s v q hj hq
  cases v with
  | false=>exact (hI.cx j s hj).id hq
  | true=>exact (hI.cy j s hj).id hq
 have sep:∀(j:Nat) (s:RA) (v:Bool),w[j]?=some s->idC (sel s v)=some k->j=i/\v=u:=by
  intro j s v hj hq
  rcases hold with h | h
  .exact hI.ne j i s r v u k hj hi hq h
  .obtain⟨_,o,ho⟩:=old j s v k hj hq
   rw[h] at ho;cases ho
 have keep:∀(j:Nat) (s:RA) (v:Bool) (q:Nat),w[j]?=some s->idC (sel s v)=some q->¬(j=i/\v=u)->H2[q]?=H[q]?:=by
  intro j s v q hj hq hn
  have:=(old j s v q hj hq).1
  rw[h2 q (by omega),hne q (λe=>hn (sep j s v hj (e▸hq)))]
 refine⟨?_,?_,?_,?_⟩
 .intro j s hs
  rcases g j s hs with⟨rfl,rfl⟩ | ⟨_,hs⟩
  .rw[ho.1,ho.2];exact hI.co _ r hi
  .exact hI.co j s hs
 .intro j s hs
  rcases g j s hs with⟨rfl,rfl⟩ | ⟨hj,hs⟩
  .rcases hx with h | ⟨h1,h3,h4⟩
   .exact h
   .rw[h1,h3]
    exact (hI.cx _ r hi).mono λq hq=>keep _ r false q hi hq (by rw[h4];simp)
  .exact (hI.cx j s hs).mono λq hq=>keep j s false q hs hq (λe=>hj e.1)
 .intro j s hs
  rcases g j s hs with⟨rfl,rfl⟩ | ⟨hj,hs⟩
  .rcases hy with h | ⟨h1,h3,h4⟩
   .exact h
   .rw[h1,h3]
    exact (hI.cy _ r hi).mono λq hq=>keep _ r true q hi hq (by rw[h4];simp)
  .exact (hI.cy j s hs).mono λq hq=>keep j s true q hs hq (λe=>hj e.1)
 .have new:∀v q,idC (sel r' v)=some q->(v=u/\q=k)\/(v=!u/\idC (sel r (!u))=some q):=by
   intro v q h
   by_cases hvu:v=u
   .subst hvu;rw[hu] at h;cases h;exact .inl ⟨rfl,rfl⟩
   .have:v=!u:=by cases v<;>cases u<;>simp_all
    subst this;rw[hv] at h;exact .inr ⟨rfl,h⟩
  intro j1 j2 s1 s2 v1 v2 q e1 e2 q1 q2
  rcases g j1 s1 e1 with⟨rfl,rfl⟩ | ⟨n1,f1⟩
  .rcases g j2 s2 e2 with⟨rfl,rfl⟩ | ⟨n2,f2⟩
   .rcases new v1 q q1 with⟨rfl,rfl⟩ | ⟨rfl,o1⟩
    .rcases new v2 q q2 with⟨rfl,_⟩ | ⟨rfl,o2⟩
     .exact⟨rfl,rfl⟩
     .have:=(sep _ r (!v1) hi o2).2;cases v1<;>cases this
    .rcases new v2 q q2 with⟨rfl,rfl⟩ | ⟨rfl,o2⟩
     .have:=(sep _ r (!v2) hi o1).2;cases v2<;>cases this
     .exact⟨rfl,rfl⟩
   .rcases new v1 q q1 with⟨rfl,rfl⟩ | ⟨rfl,o1⟩
    .exact absurd (sep _ s2 v2 f2 q2).1 n2
    .exact absurd (hI.ne _ _ r s2 (!u) v2 q hi f2 o1 q2).1 (Ne.symm n2)
  .rcases g j2 s2 e2 with⟨rfl,rfl⟩ | ⟨n2,f2⟩
   .rcases new v2 q q2 with⟨rfl,rfl⟩ | ⟨rfl,o2⟩
    .exact absurd (sep _ s1 v1 f1 q1).1 n1
    .exact absurd (hI.ne _ _ s1 r v1 (!u) q f1 hi q1 o2).1 n1
   .exact hI.ne j1 j2 s1 s2 v1 v2 q f1 f2 q1 q2
theorem DI.view{H:aT}{w:List RA}(hI:DI H w)(h1:H[1]?=some (.blk 4 (w.map RA.c))): Qp (.vw 30 ((w.map RA.a).map arV)) (dF H (.ms 1 w.length 0 w.length)):=by
 simp only[dF,rd,h1,ZO,Zz,YD]
 rw[ZW (by simp)]
 refine Qp.mkV (.inr (.inr rfl)) ?_
 rw[Ya,Ya]
 have h:∀(v:List RA),(∀r∈v,Qp (.sl 3 r.a.outer) r.o)->Ql 30 (v.map (arV∘RA.a)) (v.map ((λe=>e.map Cx)∘RA.c)):=by
  intro v
  induction v with
  | nil=>exact λ_=>trivial
  | cons r v ih=>
   intro hv
   refine⟨⟨.lit _,sI.c (c:=.sl 3) (x:=r.a.outer) (hv r ZM),.undef _,.undef _,trivial⟩,ih λr hr=>hv r (ZQ _ hr)⟩
 exact h w λr hr=>by
  obtain⟨i,hi⟩:=Yi.1 hr
  exact hI.co i r hi
theorem DI.rows{H H':aT}{w:List RA}{d:Nat}(hI:DI H w)(hk:∀k,3<=k->H'[k]?=H[k]?): Ql 32 (w.map RA.a) ((w.map RA.c).map λe=>e.map (eE H' 0 (d+1))):=by
 rw[Ya]
 have h:∀(v:List RA),(∀r∈v,Qp (.sl 3 r.a.outer) r.o/\gR 12 H r.x r.a.inner/\gR 3 H r.y r.a.alone)->Ql 32 (v.map RA.a) (v.map ((λe=>e.map (eE H' 0 (d+1)))∘RA.c)):=by
  intro v
  induction v with
  | nil=>exact λ_=>trivial
  | cons r v ih=>
   intro hv
   obtain⟨a1,a2,a3⟩:=hv r ZM
   exact⟨⟨.lit _,(Dt H' 0 (d+1)).c (c:=.sl 3) (x:=r.a.outer) a1,a2.shut hk,a3.shut hk,trivial⟩,ih λr hr=>hv r (ZQ _ hr)⟩
 exact h w λr hr=>by
  obtain⟨i,hi⟩:=Yi.1 hr
  exact⟨hI.co i r hi,hI.cx i r hi,hI.cy i r hi⟩
section
variable (p:aM)(m:List (Int×List Aaa))(xn xa xf xm:AV)
structure DA(w:List RA)(H:aT): Prop where
 h0:H[0]?=some (.blk 3 [[xn,xa,xf]])
 h1:H[1]?=some (.blk 4 (w.map RA.c))
 h3:3<=H.length
 i:DI H w
variable {p m xn xa xf xm}{w:List RA}{tm:List AV}{H:aT}
variable (qn:Qp (.vw 0 p.Nodes) xn)(qa:Qp (.vw 2 p.Arcs) xa)(qf:Qp (.vw 3 p.Faces) xf)(qm:Qp (.rmp 3 14 m) xm)
theorem aFz: V5 PP T 126 ⟨[.w 4,.w 12],[3],false,λn p=>pU n p.1 p.2⟩:=by
 have e:Gt.c=⟨[.w 4,.w 12],[3],false,λn p=>pU n p.1 p.2⟩:=by kernel_rfl
 have h:=Gt.ok
 rw[e] at h
 exact h
theorem aDn: V5 PP T 82 ⟨[.w 4,.w 3],[3],false,λn p=>kE n p.1 p.2⟩:=by
 have e:Co.c=⟨[.w 4,.w 3],[3],false,λn p=>kE n p.1 p.2⟩:=by kernel_rfl
 have h:=Co.ok
 rw[e] at h
 exact h
theorem aI2: V5 PP T 127 ⟨[.w 29,.w 31,.w 1],[3],false,λn p=>eF n p.1 p.2.1 p.2.2⟩:=by
 have e:lE.c=⟨[.w 29,.w 31,.w 1],[3],false,λn p=>eF n p.1 p.2.1 p.2.2⟩:=by kernel_rfl
 have h:=lE.ok
 rw[e] at h
 exact h
theorem u7{k:Nat}{l:List (den k)}{a:AV}(h:Qp (.vw k l) a): Qp (.vw k l) (dF H a):=by
 obtain⟨es,h1,h2⟩:=h.inV
 rcases h1 with⟨rfl,rfl⟩ | ⟨f,rfl⟩ | rfl
 .exact Qp.mkV (es:=[]) (.inr (.inr rfl)) h2
 .exact Qp.mkV (.inr (.inr rfl)) h2
 .exact Qp.mkV (.inr (.inr rfl)) h2
theorem aPq{kk vk:Nat}{m:List (den kk×den vk)}{a:AV}(h:Qp (.rmp kk vk m) a): Qp (.rmp kk vk m) (dF H a):=by
 obtain⟨rows,h1,h2⟩:=h.inM
 rcases h1 with⟨rfl,rfl⟩ | rfl
 .exact Qp.mkM (.inl ⟨rfl,rfl⟩) h2
 .exact Qp.mkM (.inr rfl) h2
theorem aIx{α:Type}{l:List α}{i:Nat}{x:α}(h:l[i]?=some x): idx l (i:Int)=some x:=by rw[bF];exact h
theorem MR{α:Type}{l r:List α}{i:Nat}{x:α}(h:l.drop i=x::r): l[i]?=some x/\l.drop (i+1)=r/\i<l.length:=by
 have h1:(l.drop i)[0]?=some x:=by rw[h];rfl
 rw[Zw,Xm] at h1
 refine⟨h1,?_,(Ze.1 h1).1⟩
 have:l.drop (i+1)=(l.drop i).drop 1:=by rw[XD]
 rw[this,h];rfl
theorem aGL{i:Nat}(h:i<1000000): wr ((i:Int)+1)=((i+1:Nat):Int):=by
 show IntKind.i64.wrap _=_
 rw[Xe];push_cast;omega
theorem aJR{k:Nat}{l:List (den k)}{a:AV}(q:Qp (.vw k l) a): cG H a=dF H a:=by
 obtain⟨es,h1,_⟩:=q.inV
 rcases h1 with⟨rfl,_⟩ | ⟨f,rfl⟩ | rfl<;>rfl
theorem aNJ(H:aT)(o:dI): (H++[o])[H.length]?=some o:=by rw[ZX (Zf _),XR];rfl
theorem hold{H:aT}{o b:dI}{k:Nat}(h:H[k]?=some b): (H++[o])[k]?=some b:=by rw[Zo (Ze.1 h).1];exact h
include qn qa qf in
theorem aLh{n:Nat}{x y:aZ}{c:List Int}{a:AV}{t:Int}(e:pU n p c=some t)(hx:aH tm x=.agg [xn,xa,xf])(hy:aH tm y=a)(q:Qp (.vw 3 c) a): aL PP (fB PP T n) 0 (.callB 126 [x,y]) tm H=some (iv t,H):=by
 obtain⟨A,r,h1,h2⟩:=j6 (a:=.undef) aFz (n:=n) (p:=(p,c)) (r:=t) e (λr=>⟨r,rfl⟩) (aw:=[cG H (.agg [xn,xa,xf]),dF H a])
  ⟨Qh.mkA ⟨.p _ _ (u7 qn),.p _ _ (u7 qa),.p _ _ (u7 qf),trivial⟩,.p _ _ (u7 q),trivial⟩
 simp only[aL,ZE,Yn,hx,hy,aJR q,h1]
 rw[h2];rfl
theorem aQq{n:Nat}{x y:aZ}{a:AV}{l:List Int}{t:Int}(q:Qp (.sl 3 l) a)(hx:aH tm x=iv t)(hy:aH tm y=a): aL PP (fB PP T n) 0 (.build [z0,bL,bL,bL] [(0,1,x),(1,1,y)]) tm H=some (.agg [iv t,a,.lit bL,.lit bL],H):=by
 obtain⟨es,h1,_⟩:=q.inS
 simp only[aL,ZE,Yn,hx,hy]
 rcases h1 with⟨rfl,_⟩ | ⟨f,rfl⟩<;>rfl
theorem aMk{n:Nat}{y:aZ}{a:AV}{k:Nat}{l:List (den k)}{z:Value}(q:Qp (.sl k l) a)(hy:aH tm y=a): aL PP (fB PP T n) 0 (.buildSl true 1 1 [z] [(0,y)]) tm H=some (.sl true [[Cx a]],H):=by
 obtain⟨es,h1,_⟩:=q.inS
 simp only[aL,ZE,Yn,hy]
 rcases h1 with⟨rfl,_⟩ | ⟨f,rfl⟩<;>rfl
theorem DA.grow{o y:aZ}{a:AV}{l:List Int}{t:Int}(d:DA xn xa xf w H)(hn:∀r∈w,r.x=.lit bL/\r.y=.lit bL)(q:Qp (.sl 3 l) a){b:dI}: DA xn xa xf (w++[⟨⟨t,l,[],[]⟩,a,.lit bL,.lit bL⟩]) ((H++[b]).set 1 (.blk 4 (w.map RA.c++[[iv t,a,.lit bL,.lit bL]]))):=by
 have hw:∀r∈w++[(⟨⟨t,l,[],[]⟩,a,.lit bL,.lit bL⟩:RA)],r.x=.lit bL/\r.y=.lit bL:=by
  intro r hr
  rcases ZD.1 hr with hr | hr
  .exact hn r hr
  .rw[ZJ.1 hr];exact⟨rfl,rfl⟩
 have g:∀(i:Nat) (r:RA),(w++[(⟨⟨t,l,[],[]⟩,a,.lit bL,.lit bL⟩:RA)])[i]?=some r->w[i]?=some r\/r=⟨⟨t,l,[],[]⟩,a,.lit bL,.lit bL⟩:=by
  intro i r hr
  rcases ZI i w.length with h | h
  .rw[Zo h] at hr;exact .inl hr
  .rw[ZX h] at hr
   exact .inr (ZJ.1 (Zg hr))
 refine⟨?_,?_,by simp;have:=d.h3;omega,⟨?_,?_,?_,?_⟩⟩
 .rw[Zv (by decide)];exact hold d.h0
 .rw[Z3 (by simp;have:=d.h3;omega),YJ];rfl
 .intro i r hr
  rcases g i r hr with h | rfl
  .exact d.i.co i r h
  .exact q
 .intro i r hr
  rcases g i r hr with h | rfl
  .rcases d.i.cx i r h with h1 | ⟨k,es,h1,_⟩
   .exact .inl h1
   .rw[(hn r (Zg h)).1] at h1;cases h1
  .exact .inl ⟨rfl,rfl⟩
 .intro i r hr
  rcases g i r hr with h | rfl
  .rcases d.i.cy i r h with h1 | ⟨k,es,h1,_⟩
   .exact .inl h1
   .rw[(hn r (Zg h)).2] at h1;cases h1
  .exact .inl ⟨rfl,rfl⟩
 .intro i j r s u v k hr hs hk _
  have:=hw r (Zg hr)
  cases u with
  | true=>simp only[sel,this.2,idC] at hk;cases hk
  | false=>simp only[sel,this.1,idC] at hk;cases hk
abbrev dB(xm:AV)(w:List RA): List (Nat×AV):=[(2,xm),(3,.ptr 0 1 0 0),(7,.ms 1 w.length 0 w.length)]
include qn qa qf in
theorem aIG{n N:Nat}(cs:List (List Int)){xc:AV}(qc:Qp (.vw 12 cs) xc)(hb:cs.length<=190000): ∀(todo:List (List Int)) (k i:Nat) (tm:List AV) (H:aT) (w:List RA) (q:List (List Int)) (qr:List (List AV)) (r:List dP×List (List Int)),cs.drop i=todo->todo.length<k->w.length+todo.length<=200000->qr.length+todo.length<=200000->
 DA xn xa xf w H->(∀r∈w,r.x=.lit bL/\r.y=.lit bL)->H[2]?=some (.blk 1 qr)->Ql 12 q qr->At 110 ((8,.ms 2 qr.length 0 qr.length)::(21,xc)::(22,iv (cs.length:Nat))::(23,iv i)::dB xm w) tm->dv1 n p todo (w.map RA.a) q=some r->
 WL PP (fB PP T n) n 0 N (bl 0xe0018c 24) false aNZ k ⟨tm,H⟩ λx s=>x=.exit 0/\∃w' qr',w'.map RA.a=r.1/\DA xn xa xf w' s.heap/\(∀r∈w',r.x=.lit bL/\r.y=.lit bL)/\s.heap[2]?=some (.blk 1 qr')/\Ql 12 r.2 qr'/\At 110 ((8,.ms 2 qr'.length 0 qr'.length)::dB xm w') s.tmps/\w'.length<=200000/\qr'.length<=200000
 | todo,0,i,tm,H,w,q,qr,r,_,h,_,_,_,_,_,_,_,_=>by omega
 | todo,k+1,i,tm,H,w,q,qr,r,hd,hk,hw,hq,d,hn,h2,ql,ha,h=>by
  apply WL.step
  show WC PP (fB PP T n) n 0 aNZ ⟨cU (bl 0xe0018c 24) tm,H⟩ _
  replace ha:At 110 ((8,.ms 2 qr.length 0 qr.length)::(21,xc)::(22,iv (cs.length:Nat))::(23,iv i)::dB xm w) (cU (bl 0xe0018c 24) tm):=
   .cons (ha.live _ rfl rfl) (.cons (ha.live _ rfl rfl) (.cons (ha.live _ rfl rfl) (.cons (ha.live _ rfl rfl) (.cons (ha.live _ rfl rfl) (.cons (ha.live _ rfl rfl) (.cons (ha.live _ rfl rfl) (ha.mask _)))))))
  generalize cU (bl 0xe0018c 24) tm=tm at ha |-
  refine WC.seq (WC.reg (AO.op ha (Kf (ha.get rfl) (ha.get rfl) rfl) λtm ha=>AO.nil ha (WC.seq ?_)))
  cases todo with
  | nil=>
   have hi:cs.length<=i:=by
    have:=congrArg List.length hd
    rw[ZV,Z1] at this;omega
   cases h
   refine WC.condF (ha.get rfl) (YI (by omega)) (WC.exit ?_)
   exact⟨rfl,w,qr,rfl,d,hn,h2,ql,.cons (ha.get rfl) (.cons (ha.get rfl) (.cons (ha.get rfl) (.cons (ha.get rfl) ⟨ha.ln,λ_ _ h=>by cases h⟩))),by omega,by omega⟩
  | cons c todo=>
   obtain⟨g1,g2,g3⟩:=MR hd
   simp only[Yc] at hk hw hq
   simp only[dv1] at h
   obtain⟨t,e2,h⟩:=bD h
   refine WC.condT (ha.get rfl) (Yj (by omega)) (WC.skip (WC.seq (WC.block (WC.seq ?_))))
   obtain⟨row,q1,e25⟩:=aEW (P:=PP) (cf:=fB PP T n) (fl:=0) (H:=H) (s:=1) qc (ha.get (k:=21) rfl) (ha.get (k:=23) rfl) (aIx g1) rfl
   obtain⟨x,rfl,qx⟩:∃x,row=[x]/\Qp (.sl 3 c) x:=by
    match row,q1 with
    | [x],h=>exact⟨x,rfl,h.1⟩
   have hl:=qx.w
   refine WC.reg (AO.op ha e25 λtm ha=>AO.op ha (aIA (ha.get rfl)) λtm ha=>AO.mov ha rfl λtm ha=>AO.nil ha (WC.seq (WC.reg ?_)))
   refine AO.op ha (Ny (ha.get rfl) d.h0 rfl rfl (Zf 3) rfl) λtm ha=>AO.mov ha rfl λtm ha=>AO.op ha (aLh qn qa qf e2 (ha.get rfl) (ha.get rfl) hl) λtm ha=>AO.mov ha rfl λtm ha=>AO.nil ha (WC.seq (WC.reg (AO.mov ha rfl λtm ha=>AO.op ha (Kf (ha.get rfl) rfl rfl) λtm ha=>AO.nil ha ?_)))
   cases ht:decide (t > 0) with
   | true=>
    rw[ht] at h
    refine WC.condT (ha.get rfl) ht (WC.reg (AO.mov ha rfl λtm ha=>AO.mov ha rfl λtm ha=>AO.mov ha rfl λtm ha=>AO.op ha (aQq qx (ha.get rfl) (ha.get rfl)) λtm ha=>AO.op (v:=.ms H.length 1 0 1) (H':=H++[.blk 4 [[iv t,x,.lit bL,.lit bL]]]) ha (by
     simp only[aL,ZE,Yn,ha.get (k:=35) rfl];rfl) λtm ha=>AO.op ha (aMp (es:=w.map RA.c) (ys:=[[iv t,x,.lit bL,.lit bL]]) (by rw[ZO];exact ha.get rfl) (by
      rw[ha.get (k:=36) rfl];simp only[rd,aNJ];rfl) (hold d.h1) (by decide) rfl (by simp) (by decide) (by simp;omega)) λtm ha=>AO.mov ha rfl λtm ha=>AO.nil ha ?_))
    refine WC.reg (AO.op ha (Kf (ha.get rfl) rfl rfl) λtm ha=>AO.mov ha rfl λtm ha=>AO.nil ha ?_)
    have d':=d.grow (o:=.tmp 0) (y:=.tmp 0) (t:=t) hn qx (b:=.blk 4 [[iv t,x,.lit bL,.lit bL]])
    refine aIG cs qc hb todo k (i+1) _ _ (w++[⟨⟨t,c,[],[]⟩,x,.lit bL,.lit bL⟩]) q qr r g2 (by omega) (by simp;omega) (by omega) d' ?_ ?_ ql ?_ (by rw[YJ];exact h)
    .intro r hr
     rcases ZD.1 hr with hr | hr
     .exact hn r hr
     .rw[ZJ.1 hr];exact⟨rfl,rfl⟩
    .rw[Zv (by decide)];exact hold h2
    .exact .cons (ha.get rfl) (.cons (ha.get rfl) (.cons (ha.get rfl) (.cons (by rw[<-aGL (by omega)];exact ha.get rfl) (.cons (ha.get rfl) (.cons (ha.get rfl) (.cons (by rw[ha.get (k:=7) rfl];simp) ⟨ha.ln,λ_ _ h=>by cases h⟩))))))
   | false=>
    rw[ht] at h
    refine WC.condF (ha.get rfl) ht (WC.reg (AO.mov ha rfl λtm ha=>AO.mov ha rfl λtm ha=>AO.op ha (aMk qx (ha.get rfl)) λtm ha=>AO.op ha (aMp (es:=qr) (ys:=[[Cx x]]) (ha.get rfl) (by rw[ha.get (k:=40) rfl];rfl) h2 (by decide) rfl (by simp) (by decide) (by simp;omega)) λtm ha=>AO.mov ha rfl λtm ha=>AO.nil ha ?_))
    refine WC.reg (AO.op ha (Kf (ha.get rfl) rfl rfl) λtm ha=>AO.mov ha rfl λtm ha=>AO.nil ha ?_)
    have d':DA xn xa xf w (H.set 2 (.blk 1 (qr++[[Cx x]]))):=⟨by rw[Zv (by decide)];exact d.h0,by rw[Zv (by decide)];exact d.h1,by simp;exact d.h3,⟨d.i.co,λi r hr=>(d.i.cx i r hr).mono λk hk=>Zv (by have:=((d.i.cx i r hr).id hk).1;omega),λi r hr=>(d.i.cy i r hr).mono λk hk=>Zv (by have:=((d.i.cy i r hr).id hk).1;omega),d.i.ne⟩⟩
    refine aIG cs qc hb todo k (i+1) _ _ w (q++[c]) (qr++[[Cx x]]) r g2 (by omega) (by omega) (by simp;omega) d' hn ?_ (ql.app ⟨⟨sI.c (c:=.sl 3) (x:=c) qx,trivial⟩,trivial⟩) ?_ h
    .rw[Z3 (Ze.1 h2).1]
    .exact .cons (ha.get rfl) (.cons (ha.get rfl) (.cons (ha.get rfl) (.cons (by rw[<-aGL (by omega)];exact ha.get rfl) (.cons (ha.get rfl) (.cons (ha.get rfl) (.cons (ha.get rfl) ⟨ha.ln,λ_ _ h=>by cases h⟩))))))
end
section
variable {p:aM}{m:List (Int×List Aaa)}{xn xa xf xm:AV}{w:List RA}{tm:List AV}{H:aT}
variable (qn:Qp (.vw 0 p.Nodes) xn)(qa:Qp (.vw 2 p.Arcs) xa)(qf:Qp (.vw 3 p.Faces) xf)(qm:Qp (.rmp 3 14 m) xm)
theorem aNh{a:Aaa}{e:List AV}(q:Qr (jJ 1 a) e): e=[iv a.X,iv a.Y]:=by
 match e,q with
 | [x,y],h=>obtain⟨h1,h2,_⟩:=h;cases h1;cases h2;rfl
theorem aKQ{a:Int}{e:List AV}(q:Qr (jJ 3 a) e): e=[iv a]:=by
 match e,q with
 | [x],h=>obtain⟨h1,_⟩:=h;cases h1;rfl
include qm in
theorem aIB{n:Nat}{x y z:aZ}{i:Int}{a:Aaa}(d:DA xn xa xf w H)(hx:aH tm x=xm)(hy:aH tm y=.ms 1 w.length 0 w.length)(hz:aH tm z=.agg [iv a.X,iv a.Y])(h:eF n m ((w.map RA.a).map arV) a=some i):
 aL PP (fB PP T n) 0 (.callB 127 [x,y,z]) tm H=some (iv i,H):=by
 have e:cG H xm=dF H xm:=by
  obtain⟨rows,h1,_⟩:=qm.inM
  rcases h1 with⟨rfl,_⟩ | rfl<;>rfl
 obtain⟨A,r,h1,h2⟩:=j6 (a:=.undef) aI2 (n:=n) (p:=(m,(w.map RA.a).map arV,a)) (r:=i) h (λr=>⟨r,rfl⟩) (aw:=[dF H xm,dF H (.ms 1 w.length 0 w.length),.agg [iv a.X,iv a.Y]])
  ⟨.p _ _ (aPq qm),.p _ _ (d.i.view d.h1),Qh.mkA ⟨.l _,.l _,trivial⟩,trivial⟩
 have e2:cG H (.ms 1 w.length 0 w.length)=dF H (.ms 1 w.length 0 w.length):=rfl
 have e3:cG H (.agg [iv a.X,iv a.Y])=.agg [iv a.X,iv a.Y]:=rfl
 simp only[aL,ZE,Yn,hx,hy,hz,e,e2,e3,h1]
 rw[h2];rfl
include qm in
theorem aNW{n:Nat}{k:Int}{x y:aZ}(hx:aH tm x=xm)(hy:aH tm y=iv k): ∃a,aL PP (fB PP T n) 0 (.lookup 3 (.lit bL) x y false) tm H=some (a,H)/\Qp (.sl 1 ((cK m k).getD [])) a:=by
 have hq:Qt 2 ⟨[(0,.rmp 3 14 m),(1,.lit (.int .i64 k))],List.replicate H.length .gone⟩ ⟨[xm,iv k],H⟩:=⟨rfl,λt v hv=>(by
  match t,hv with
  | 0,hv=>cases hv;exact⟨_,rfl,.p _ _ qm⟩
  | 1,hv=>cases hv;exact⟨_,rfl,.l _⟩
  | _+2,hv=>cases hv),aMe H⟩
 obtain⟨v,A',tv,S',h1,_,h3,h4⟩:=UF (P:=PP) (T:=T) (cf:=fB PP T n) (n:=n) (d:=some 0) (E:=((⟨C0,[],[],[],[]⟩:En PP T 2 0 .skip).xe GlC.g)) (K:=λtv _=>some tv) (r:=.sl 1 ((cK m k).getD []))
  (En.ok _ _) hq (kt:=3) (z:=.lit bL) (m:=.tmp 0) (k:=.tmp 1) (ok:=false) (by kernel_rfl)
 rw[aMl h1] at h1
 obtain rfl:=ZR h4
 have e:aL PP (fB PP T n) 0 (.lookup 3 (.lit bL) x y false) tm H=aL PP (fB PP T n) 0 (.lookup 3 (.lit bL) (.tmp 0) (.tmp 1) false) [xm,iv k] H:=by
  simp only[aL,hx,hy];rfl
 exact⟨v,e.trans h1,h3.pu trivial⟩
theorem RA.c_le(r:RA){k:Nat}(h:k<=4): k<=r.c.length:=h
def aPR: Bool->Nat
 | true=>3
 | false=>2
def upR(u:Bool)(r:RA)(a':dP)(v:AV): RA:=match u with
 | true=>⟨a',r.o,r.x,v⟩
 | false=>⟨a',r.o,v,r.y⟩
theorem aIE{u:Bool}{j bytes:Nat}{ro:RA}{a':dP}{row:List AV}{kd:Nat}{l:List (den kd)}{e:den kd}(d:DA xn xa xf w H)(hj:w[j]?=some ro)(hr:Qr (jJ kd e) row)(h1:row.length=1)(hb:bytes<=100000)(hl:l.length<=200000)(hc:gR kd H (sel ro u) l)(ho:a'.outer=ro.a.outer/\a'.twice=ro.a.twice)(hx:(u=false/\∀H' v,gR kd H' v (l++[e])->gR 12 H' v a'.inner)\/(u=true/\a'.inner=ro.a.inner))(hy:(u=true/\∀H' v,gR kd H' v (l++[e])->gR 3 H' v a'.alone)\/(u=false/\a'.alone=ro.a.alone)):
 ∃k z H',cN 0 H 1 bytes (sel ro u) [row]=some (.ms k z 0 z,H')/\H'[1]?=some (.blk 4 (w.map RA.c))/\H'[2]?=H[2]? /\
  DA xn xa xf (w.set j (upR u ro a' (.ms k z 0 z))) (H'.set 1 (.blk 4 ((w.map RA.c).set j (aP ro.c (aPR u) [.ms k z 0 z])))):=by
 obtain⟨k,es,H',g1,g2,g3,g4,g5,g6,g7⟩:=hc.grow hr h1 hb hl d.h3
 have e1:H'[1]?=some (.blk 4 (w.map RA.c)):=(g5 1 (by omega)).trans d.h1
 refine⟨k,es.length,H',g1,e1,g5 2 (by omega),?_⟩
 have es1:aP ro.c (aPR u) [AV.ms k es.length 0 es.length]=(upR u ro a' (.ms k es.length 0 es.length)).c:=by
  cases u<;>simp only[upR,RA.c,ho.2]<;>rfl
 rw[es1,<-Xz]
 have h3:=d.h3
 have hn:∀q,3<=q->(H'.set 1 (dI.blk 4 ((w.set j (upR u ro a' (.ms k es.length 0 es.length))).map RA.c)))[q]?=H'[q]?:=λq hq=>Zv (by omega)
 refine⟨by rw[Zv (by decide),g5 0 (by omega)];exact d.h0,Z3 (by omega),by simp;omega,?_⟩
 have hC:gR kd (H'.set 1 (.blk 4 ((w.set j (upR u ro a' (.ms k es.length 0 es.length))).map RA.c))) (.ms k es.length 0 es.length) (l++[e]):=.inr ⟨k,es,rfl,g2,by rw[hn k g2];exact g3,g4⟩
 refine d.i.upd (u:=u) hj g2 g5 g6 (λq hq=>Zv (Ne.symm hq)) (by cases u<;>exact⟨rfl,ho.1⟩) ?_ ?_ (by cases u<;>rfl) (by cases u<;>rfl)
 .rcases hx with⟨rfl,h⟩ | ⟨rfl,h⟩
  .exact .inl (h _ _ hC)
  .exact .inr ⟨rfl,h,rfl⟩
 .rcases hy with⟨rfl,h⟩ | ⟨rfl,h⟩
  .exact .inl (h _ _ hC)
  .exact .inr ⟨rfl,h,rfl⟩
include qm in
theorem aMq{n N:Nat}(cs:List (List Int))(qr:List (List AV))(qq:Ql 12 cs qr)(hb:cs.length<=200000): ∀(todo:List (List Int)) (k i:Nat) (tm:List AV) (H:aT) (w:List RA) (r:List dP),cs.drop i=todo->todo.length<k->i<=cs.length->
 DA xn xa xf w H->H[2]?=some (.blk 1 qr)->(∀(j:Nat) (s:RA),w[j]?=some s->s.a.inner.length+s.a.alone.length<=i)->At 110 ((43,.ms 2 qr.length 0 qr.length)::(44,iv (qr.length:Nat))::(45,iv i)::dB xm w) tm->dv2 n m todo (w.map RA.a)=some r->
 WL PP (fB PP T n) n 0 N (bl 0x38000000008c 46) false aNY k ⟨tm,H⟩ λx s=>x=.exit 2/\∃w',w'.map RA.a=r/\DA xn xa xf w' s.heap/\(∀(j:Nat) (s:RA),w'[j]?=some s->s.a.inner.length+s.a.alone.length<=cs.length)/\At 110 (dB xm w') s.tmps
 | todo,0,i,tm,H,w,r,_,h,_,_,_,_,_,_=>by omega
 | todo,k+1,i,tm,H,w,r,hd,hk,hi0,d,h2,hs,ha,h=>by
  have hql:qr.length=cs.length:=qq.len
  apply WL.step
  show WC PP (fB PP T n) n 0 aNY ⟨cU (bl 0x38000000008c 46) tm,H⟩ _
  replace ha:At 110 ((43,.ms 2 qr.length 0 qr.length)::(44,iv (qr.length:Nat))::(45,iv i)::dB xm w) (cU (bl 0x38000000008c 46) tm):=
   .cons (ha.live _ rfl rfl) (.cons (ha.live _ rfl rfl) (.cons (ha.live _ rfl rfl) (.cons (ha.live _ rfl rfl) (.cons (ha.live _ rfl rfl) (.cons (ha.live _ rfl rfl) (ha.mask _))))))
  generalize cU (bl 0x38000000008c 46) tm=tm at ha |-
  refine WC.seq (WC.reg (AO.op ha (Kf (ha.get rfl) (ha.get rfl) rfl) λtm ha=>AO.nil ha (WC.seq ?_)))
  cases todo with
  | nil=>
   have hi:cs.length<=i:=by
    have:=congrArg List.length hd
    rw[ZV,Z1] at this;omega
   cases h
   refine WC.condF (ha.get rfl) (YI (by omega)) (WC.exit ⟨rfl,w,rfl,d,λj s hj=>ZB (hs j s hj) hi0,.cons (ha.get rfl) (.cons (ha.get rfl) (.cons (ha.get rfl) ⟨ha.ln,λ_ _ h=>by cases h⟩))⟩)
  | cons c todo=>
   obtain⟨g1,g2,g3⟩:=MR hd
   simp only[Yc] at hk
   simp only[dv2] at h
   obtain⟨t,e1,h⟩:=bD h
   obtain⟨a,e2,h⟩:=bD h
   obtain⟨ix,e3,h⟩:=bD h
   obtain⟨ra,e4,h⟩:=bD h
   refine WC.condT (ha.get rfl) (Yj (by omega)) (WC.skip (WC.seq (WC.block (WC.seq ?_))))
   obtain⟨row,hrow,q1⟩:=qq.get g1
   obtain⟨x,rfl,qx⟩:∃x,row=[x]/\Qp (.sl 3 c) x:=by
    match row,q1 with
    | [x],h=>exact⟨x,rfl,h.1⟩
   refine WC.reg (AO.op ha (aB9 (ha.get rfl) (ha.get rfl) h2 rfl (Wc i) (by simp;omega)) λtm ha=>AO.op ha (Ny (v:=x) (e:=[x]) (ha.get rfl) h2 rfl (by simpa using hrow) (Zf 1) rfl) λtm ha=>AO.mov ha rfl λtm ha=>AO.nil ha (WC.seq (WC.reg ?_)))
   obtain⟨r1,q1,e51⟩:=aEW (P:=PP) (cf:=fB PP T n) (fl:=0) (tm:=[x,iv 0]) (x:=.tmp 0) (i:=.tmp 1) (H:=H) (s:=1) qx.w rfl rfl e1 rfl
   obtain rfl:=aKQ q1
   have e51:∀{tm:List AV} {y:aZ},aH tm y=x->aL PP (fB PP T n) 0 (.idxAddr 1 y (.lit z0)) tm H=some (.rptr [iv t],H):=λ{tm y} hy=>by
    rw[<-e51];simp only[aL,hy];rfl
   have e58:=λ(tm:List AV)=>aNW (H:=H) (n:=n) (tm:=[xm,iv (iP t (wr (0-t)))]) qm (x:=.tmp 0) (y:=.tmp 1) rfl rfl
   obtain⟨b,e58,qb⟩:=e58 tm
   have e58:∀{tm:List AV} {y z:aZ},aH tm y=xm->aH tm z=iv (iP t (wr (0-t)))->aL PP (fB PP T n) 0 (.lookup 3 (.lit bL) y z false) tm H=some (b,H):=λ{tm y z} hy hz=>by
    rw[<-e58];simp only[aL,hy,hz];rfl
   obtain⟨r2,q2,e62⟩:=aEW (P:=PP) (cf:=fB PP T n) (fl:=0) (tm:=[b,iv 0]) (x:=.tmp 0) (i:=.tmp 1) (H:=H) (s:=2) qb.w rfl rfl e2 rfl
   obtain rfl:=aNh q2
   have e62:∀{tm:List AV} {y:aZ},aH tm y=b->aL PP (fB PP T n) 0 (.idxAddr 2 y (.lit z0)) tm H=some (.rptr [iv a.X,iv a.Y],H):=λ{tm y} hy=>by
    rw[<-e62];simp only[aL,hy];rfl
   refine AO.mov ha rfl λtm ha=>AO.mov ha rfl λtm ha=>AO.op ha (e51 (ha.get rfl)) λtm ha=>AO.op ha (aIA (ha.get rfl)) λtm ha=>AO.mov ha rfl λtm ha=>AO.op ha (e51 (ha.get rfl)) λtm ha=>AO.op ha (aIA (ha.get rfl)) λtm ha=>AO.op ha (aQr (ha.get rfl)) λtm ha=>AO.op ha (aQs (ha.get rfl) (ha.get rfl)) λtm ha=>AO.op ha (e58 (ha.get rfl) (ha.get rfl)) λtm ha=>AO.mov ha rfl λtm ha=>AO.nil ha (WC.seq (WC.reg ?_))
   refine AO.mov ha rfl λtm ha=>AO.mov ha rfl λtm ha=>AO.mov ha rfl λtm ha=>AO.op ha (e62 (ha.get rfl)) λtm ha=>AO.op ha (aMn (n:=2) (ha.get rfl) rfl) λtm ha=>AO.op ha (aIB qm d (ha.get rfl) (ha.get rfl) (ha.get rfl) e3) λtm ha=>AO.mov ha rfl λtm ha=>AO.nil ha (WC.reg ?_)
   obtain⟨f1,f2,f3⟩:=oR e4
   obtain⟨ro,f4,rfl⟩:∃ro,w[ix.toNat]?=some ro/\ro.a=ra:=by
    rw[Zk,Zq] at f2;exact f2
   have hlt:ix.toNat<w.length:=(Ze.1 f4).1
   have hbo:=hs _ _ f4
   have f5:(w.map RA.c)[ix.toNat]?=some ro.c:=by rw[Zk,f4];rfl
   obtain⟨kk,z,H',p1,p2,p3,p4⟩:=aIE (u:=false) (bytes:=24) (a':=⟨ro.a.twice,ro.a.outer,ro.a.inner++[c],ro.a.alone⟩) (kd:=12) (l:=ro.a.inner) (e:=c) (row:=[Cx x]) d f4 ⟨sI.c (c:=.sl 3) (x:=c) qx,trivial⟩ rfl (by decide) (by omega) (d.i.cx _ _ f4) ⟨rfl,rfl⟩ (.inl ⟨rfl,λ_ _ h=>h⟩) (.inr ⟨rfl,rfl⟩)
   refine AO.mov ha rfl λtm ha=>AO.mov ha rfl λtm ha=>AO.mov ha rfl λtm ha=>AO.mov ha rfl λtm ha=>AO.op ha (aB9 (ha.get rfl) (ha.get rfl) d.h1 (by simp) f1 hlt) λtm ha=>AO.op ha (aBA (ha.get rfl)) λtm ha=>AO.op ha (Ny (v:=ro.x) (ha.get rfl) d.h1 (by simp) f5 (ro.c_le (by decide)) rfl) λtm ha=>AO.mov ha rfl λtm ha=>AO.op ha (aMk qx (ha.get rfl)) λtm ha=>AO.op ha (aID (ha.get rfl) (by rw[ha.get (k:=73) rfl];rfl) p1) λtm ha=>
    AO.op ha (aB9 (ha.get rfl) (ha.get rfl) p2 (by simp) f1 hlt) λtm ha=>AO.op ha (aBA (ha.get rfl)) λtm ha=>AO.sto ha (aQp (ha.get rfl) (ha.get rfl) p2 (by simp) f5 (ro.c_le (by decide)) (by decide)) (AO.nil ha (WC.reg ?_))
   refine AO.op ha (Kf (ha.get rfl) rfl rfl) λtm ha=>AO.mov ha rfl λtm ha=>AO.nil ha ?_
   refine aMq cs qr qq hb todo k (i+1) _ _ _ r g2 (by omega) (by omega) p4 (by rw[Zv (by decide),p3];exact h2) ?_ ?_ (by rw[Xz];exact h)
   .intro j s hj
    by_cases e:ix.toNat=j
    .subst e
     rw[Z3 hlt] at hj;cases hj
     simp only[upR,Zh,Yd];omega
    .rw[Zv e] at hj
     exact Xl (hs j s hj)
   .exact .cons (ha.get rfl) (.cons (ha.get rfl) (.cons (by rw[<-aGL (by omega)];exact ha.get rfl) (.cons (ha.get rfl) (.cons (ha.get rfl) (.cons (by rw[Yr];exact ha.get rfl) ⟨ha.ln,λ_ _ h=>by cases h⟩)))))
end
section
variable {p:aM}{m:List (Int×List Aaa)}{xn xa xf xm:AV}{w:List RA}{tm:List AV}{H:aT}
variable (qn:Qp (.vw 0 p.Nodes) xn)(qa:Qp (.vw 2 p.Arcs) xa)(qf:Qp (.vw 3 p.Faces) xf)(qm:Qp (.rmp 3 14 m) xm)
include qn qa qf in
theorem aIC{n:Nat}{x y:aZ}{c t:Int}(e:kE n p c=some t)(hx:aH tm x=.agg [xn,xa,xf])(hy:aH tm y=iv c): aL PP (fB PP T n) 0 (.callB 82 [x,y]) tm H=some (iv t,H):=by
 obtain⟨A,r,h1,h2⟩:=j6 (a:=.undef) aDn (n:=n) (p:=(p,c)) (r:=t) e (λr=>⟨r,rfl⟩) (aw:=[cG H (.agg [xn,xa,xf]),iv c])
  ⟨Qh.mkA ⟨.p _ _ (u7 qn),.p _ _ (u7 qa),.p _ _ (u7 qf),trivial⟩,.l _,trivial⟩
 have e2:cG H (iv c)=iv c:=rfl
 simp only[aL,ZE,Yn,hx,hy,e2,h1]
 rw[h2];rfl
theorem aNy{a:Aab}{e:List AV}(q:Qr (jJ 0 a) e): e=[iv a.ID,iv a.At.X,iv a.At.Y]:=by
 match e,q with
 | [x,y,z],h=>obtain⟨h1,h2,h3,_⟩:=h;cases h1;cases h2;cases h3;rfl
theorem DA.more(d:DA xn xa xf w H)(o:dI): DA xn xa xf w (H++[o]):=by
 have g:∀k,3<=k->k<H.length->(H++[o])[k]?=H[k]?:=λk _ h=>Zo h
 refine⟨hold d.h0,hold d.h1,by simp;have:=d.h3;omega,⟨d.i.co,λi r hr=>(d.i.cx i r hr).mono λk hk=>?_,λi r hr=>(d.i.cy i r hr).mono λk hk=>?_,d.i.ne⟩⟩
 .obtain⟨h3,b,hb⟩:=(d.i.cx i r hr).id hk
  exact g k h3 (Ze.1 hb).1
 .obtain⟨h3,b,hb⟩:=(d.i.cy i r hr).id hk
  exact g k h3 (Ze.1 hb).1
include qn qa qf qm in
theorem aIF{n N:Nat}(hb:p.Nodes.length<=9000): ∀(todo:List Aab) (k i:Nat) (tm:List AV) (H:aT) (w:List RA) (r:List dP),p.Nodes.drop i=todo->todo.length<k->i<=p.Nodes.length->
 DA xn xa xf w H->(∀(j:Nat) (s:RA),w[j]?=some s->s.a.inner.length+s.a.alone.length<=190000+i)->At 110 ((79,xn)::(80,iv (p.Nodes.length:Nat))::(81,iv i)::dB xm w) tm->dv3 n p m todo (w.map RA.a)=some r->
 WL PP (fB PP T n) n 0 N (bl 0x38000000000000000008c 82) false aNX k ⟨tm,H⟩ λx s=>x=.exit 4/\∃w',w'.map RA.a=r/\DA xn xa xf w' s.heap/\At 110 (dB xm w') s.tmps
 | todo,0,i,tm,H,w,r,_,h,_,_,_,_,_=>by omega
 | todo,k+1,i,tm,H,w,r,hd,hk,hi0,d,hs,ha,h=>by
  apply WL.step
  show WC PP (fB PP T n) n 0 aNX ⟨cU (bl 0x38000000000000000008c 82) tm,H⟩ _
  replace ha:At 110 ((79,xn)::(80,iv (p.Nodes.length:Nat))::(81,iv i)::dB xm w) (cU (bl 0x38000000000000000008c 82) tm):=
   .cons (ha.live _ rfl rfl) (.cons (ha.live _ rfl rfl) (.cons (ha.live _ rfl rfl) (.cons (ha.live _ rfl rfl) (.cons (ha.live _ rfl rfl) (.cons (ha.live _ rfl rfl) (ha.mask _))))))
  generalize cU (bl 0x38000000000000000008c 82) tm=tm at ha |-
  refine WC.seq (WC.reg (AO.op ha (Kf (ha.get rfl) (ha.get rfl) rfl) λtm ha=>AO.nil ha (WC.seq ?_)))
  cases todo with
  | nil=>
   have hi:p.Nodes.length<=i:=by
    have:=congrArg List.length hd
    rw[ZV,Z1] at this;omega
   cases h
   exact WC.condF (ha.get rfl) (YI (by omega)) (WC.exit ⟨rfl,w,rfl,d,.cons (ha.get rfl) (.cons (ha.get rfl) (.cons (ha.get rfl) ⟨ha.ln,λ_ _ h=>by cases h⟩))⟩)
  | cons c todo=>
   obtain⟨g1,g2,g3⟩:=MR hd
   simp only[Yc] at hk
   simp only[dv3] at h
   obtain⟨t,e1,h⟩:=bD h
   refine WC.condT (ha.get rfl) (Yj (by omega)) (WC.skip (WC.seq (WC.block (WC.seq ?_))))
   obtain⟨row,q1,e83⟩:=aEW (P:=PP) (cf:=fB PP T n) (fl:=0) (H:=H) (s:=3) qn (ha.get (k:=79) rfl) (ha.get (k:=81) rfl) (aIx g1) rfl
   obtain rfl:=aNy q1
   have d:=d.more (.blk 3 [[iv c.ID,iv c.At.X,iv c.At.Y]])
   have hH:((H++[dI.blk 3 [[iv 0,iv 0,iv 0]]]).set H.length (.blk 3 [[iv c.ID,iv c.At.X,iv c.At.Y]]))=H++[.blk 3 [[iv c.ID,iv c.At.X,iv c.At.Y]]]:=by
    rw[List.set_append_right _ _ (Zf _),XR];rfl
   have e17:∀{tm:List AV},aL PP (fB PP T n) 0 (.alloc [z0,z0,z0]) tm H=some (.ptr H.length 1 0 0,H++[.blk 3 [[iv 0,iv 0,iv 0]]]):=rfl
   have est:∀{tm:List AV} {x y:aZ},aH tm x=.ptr H.length 1 0 0->aH tm y=.agg [iv c.ID,iv c.At.X,iv c.At.Y]->aL PP (fB PP T n) 0 (.store 3 x y) tm (H++[.blk 3 [[iv 0,iv 0,iv 0]]])=some (.lit bI,H++[.blk 3 [[iv c.ID,iv c.At.X,iv c.At.Y]]]):=λ{tm x y} hx hy=>by
    rw[<-hH];simp only[aL,hx,hy,cellsOf,uX,aNJ];rfl
   refine WC.reg (AO.op ha e83 λtm ha=>AO.op ha (aMn (n:=3) (ha.get rfl) rfl) λtm ha=>AO.op ha e17 λtm ha=>AO.sto ha (est (ha.get rfl) (ha.get rfl)) (AO.nil ha (WC.seq (WC.reg ?_))))
   have hn:=aNJ H (.blk 3 [[iv c.ID,iv c.At.X,iv c.At.Y]])
   generalize H++[.blk 3 [[iv c.ID,iv c.At.X,iv c.At.Y]]]=H2 at d hn |-
   refine AO.op ha (Ny (ha.get rfl) d.h0 rfl rfl (Zf 3) rfl) λtm ha=>AO.op ha (aBA (ha.get rfl)) λtm ha=>AO.op ha (Ny (v:=iv c.ID) (ha.get rfl) hn rfl rfl (Zj rfl) rfl) λtm ha=>AO.op ha (aIC qn qa qf e1 (ha.get rfl) (ha.get rfl)) λtm ha=>AO.op ha (Kf (ha.get rfl) rfl rfl) λtm ha=>AO.nil ha ?_
   cases ht:(t==0) with
   | false=>
    rw[ht] at h
    refine WC.condF (ha.get rfl) ht (WC.skip (WC.reg (AO.op ha (Kf (ha.get rfl) rfl rfl) λtm ha=>AO.mov ha rfl λtm ha=>AO.nil ha ?_)))
    exact aIF hb todo k (i+1) _ _ w r g2 (by omega) (by omega) d (λj s hj=>Xl (hs j s hj)) (.cons (ha.get rfl) (.cons (ha.get rfl) (.cons (by rw[<-aGL (by omega)];exact ha.get rfl) (.cons (ha.get rfl) (.cons (ha.get rfl) (.cons (ha.get rfl) ⟨ha.ln,λ_ _ h=>by cases h⟩)))))) h
   | true=>
    rw[ht] at h
    obtain⟨ix,e3,h⟩:=bD h
    obtain⟨ra,e4,h⟩:=bD h
    refine WC.condT (ha.get rfl) ht (WC.seq (WC.reg ?_))
    refine AO.mov ha rfl λtm ha=>AO.mov ha rfl λtm ha=>AO.op ha (aBA (ha.get rfl)) λtm ha=>AO.op ha (Ny (v:=.agg [iv c.At.X,iv c.At.Y]) (ha.get rfl) hn rfl rfl (Zj rfl) rfl) λtm ha=>AO.op ha (aIB qm d (ha.get rfl) (ha.get rfl) (ha.get rfl) e3) λtm ha=>AO.mov ha rfl λtm ha=>AO.nil ha (WC.reg ?_)
    obtain⟨f1,f2,f3⟩:=oR e4
    obtain⟨ro,f4,rfl⟩:∃ro,w[ix.toNat]?=some ro/\ro.a=ra:=by
     rw[Zk,Zq] at f2;exact f2
    have hlt:ix.toNat<w.length:=(Ze.1 f4).1
    have hbo:=hs _ _ f4
    have f5:(w.map RA.c)[ix.toNat]?=some ro.c:=by rw[Zk,f4];rfl
    obtain⟨kk,z,H',p1,p2,p3,p4⟩:=aIE (u:=true) (bytes:=8) (a':=⟨ro.a.twice,ro.a.outer,ro.a.inner,ro.a.alone++[c.ID]⟩) (kd:=3) (l:=ro.a.alone) (e:=c.ID) (row:=[iv c.ID]) d f4 ⟨.lit _,trivial⟩ rfl (by decide) (by omega) (d.i.cy _ _ f4) ⟨rfl,rfl⟩ (.inr ⟨rfl,rfl⟩) (.inl ⟨rfl,λ_ _ h=>h⟩)
    refine AO.mov ha rfl λtm ha=>AO.mov ha rfl λtm ha=>AO.mov ha rfl λtm ha=>AO.mov ha rfl λtm ha=>AO.op ha (aB9 (ha.get rfl) (ha.get rfl) d.h1 (by simp) f1 hlt) λtm ha=>AO.op ha (aBA (ha.get rfl)) λtm ha=>AO.op ha (Ny (v:=ro.y) (ha.get rfl) d.h1 (by simp) f5 (ro.c_le (by decide)) rfl) λtm ha=>AO.op ha (aBA (ha.get rfl)) λtm ha=>AO.op ha (Ny (v:=iv c.ID) (ha.get rfl) hn rfl rfl (Zj rfl) rfl) λtm ha=>AO.op (v:=.sl true [[iv c.ID]]) (H':=H2) ha (by
     simp only[aL,ZE,Yn,ha.get (k:=103) rfl];rfl) λtm ha=>AO.op ha (aID (ha.get rfl) (by rw[ha.get (k:=104) rfl];rfl) p1) λtm ha=>
     AO.op ha (aB9 (ha.get rfl) (ha.get rfl) p2 (by simp) f1 hlt) λtm ha=>AO.op ha (aBA (ha.get rfl)) λtm ha=>AO.sto ha (aQp (ha.get rfl) (ha.get rfl) p2 (by simp) f5 (ro.c_le (by decide)) (by decide)) (AO.nil ha (WC.reg ?_))
    refine AO.op ha (Kf (ha.get rfl) rfl rfl) λtm ha=>AO.mov ha rfl λtm ha=>AO.nil ha ?_
    refine aIF hb todo k (i+1) _ _ _ r g2 (by omega) (by omega) p4 ?_ ?_ (by rw[Xz];exact h)
    .intro j s hj
     by_cases e:ix.toNat=j
     .subst e
      rw[Z3 hlt] at hj;cases hj
      simp only[upR,Zh,Yd];omega
     .rw[Zv e] at hj
      exact Xl (hs j s hj)
    .exact .cons (ha.get rfl) (.cons (ha.get rfl) (.cons (by rw[<-aGL (by omega)];exact ha.get rfl) (.cons (ha.get rfl) (.cons (ha.get rfl) (.cons (by rw[Yr];exact ha.get rfl) ⟨ha.ln,λ_ _ h=>by cases h⟩)))))
end
theorem aGl(n:Nat)(p:aM)(cs:List (List Int))(m:List (Int×List Aaa))(r:List dP)(h:iU n p cs m=some r){xn xa xf xc xm:AV}(qn:Qp (.vw 0 p.Nodes) xn)(qa:Qp (.vw 2 p.Arcs) xa)(qf:Qp (.vw 3 p.Faces) xf)(qc:Qp (.vw 12 cs) xc)(qm:Qp (.rmp 3 14 m) xm):
 ∃w H,fB PP T n 0 104 [.agg [xn,xa,xf],xc,xm] []=some (.ms 1 w.length 0 w.length,H)/\w.map RA.a=r/\DA xn xa xf w H:=by
 cases n with
 | zero=>cases h
 | succ n=>
  rw[iU] at h
  obtain⟨_,eg,h⟩:=bD h
  obtain⟨b1,b2,b3,b4⟩:=Zl (wU eg)
  obtain⟨lq,e1,h⟩:=bD h
  obtain⟨l2,e2,h⟩:=bD h
  have key:WC PP (fB PP T n) n 0 (t6 T 104).body ⟨[.agg [xn,xa,xf],xc,xm]++List.replicate 107 (.lit bI),[]⟩ λx s=>x=.ret/\∃w,w.map RA.a=r/\DA xn xa xf w s.heap/\aH s.tmps (.tmp 6)=.ms 1 w.length 0 w.length:=by
   rw[aLj]
   have ha:At 110 [(0,.agg [xn,xa,xf]),(1,xc),(2,xm)] ([.agg [xn,xa,xf],xc,xm]++List.replicate 107 (.lit bI)):=.cons rfl (.cons rfl (.cons rfl ⟨rfl,λ_ _ h=>by cases h⟩))
   generalize [AV.agg [xn,xa,xf],xc,xm]++List.replicate 107 (.lit bI)=tm at ha
   refine WC.seq (WC.reg (AO.op (v:=.ptr 0 1 0 0) (H':=[.blk 3 [[xn,xa,xf]]]) ha (by simp only[aL,ha.get (k:=0) rfl];rfl) λtm ha=>AO.op (v:=.sl false []) (H':=[.blk 3 [[xn,xa,xf]]]) ha rfl λtm ha=>AO.nil ha (WC.seq (WC.reg ?_))))
   refine AO.op (v:=.agg [iv 0,.lit bL,.lit bL,.lit bL]) (H':=[.blk 3 [[xn,xa,xf]]]) ha rfl λtm ha=>AO.op (v:=.ms 1 1 0 1) (H':=[.blk 3 [[xn,xa,xf]],.blk 4 [[iv 0,.lit bL,.lit bL,.lit bL]]]) ha (by simp only[aL,ZE,Yn,ha.get (k:=19) rfl];rfl) λtm ha=>AO.mov ha rfl λtm ha=>AO.nil ha (WC.seq (WC.reg ?_))
   refine AO.op (v:=.ms 2 0 0 0) (H':=[.blk 3 [[xn,xa,xf]],.blk 4 [[iv 0,.lit bL,.lit bL,.lit bL]],.blk 1 []]) ha rfl λtm ha=>AO.nil ha (WC.seq (WC.seq (WC.reg ?_)))
   refine AO.mov ha rfl λtm ha=>AO.op ha (aMm qc (ha.get rfl)) λtm ha=>AO.op (v:=iv 0) ha rfl λtm ha=>AO.nil ha ?_
   have d0:DA xn xa xf [⟨⟨0,[],[],[]⟩,.lit bL,.lit bL,.lit bL⟩] [.blk 3 [[xn,xa,xf]],.blk 4 [[iv 0,.lit bL,.lit bL,.lit bL]],.blk 1 []]:=by
    have g:∀(i:Nat) (r:RA),[(⟨⟨0,[],[],[]⟩,.lit bL,.lit bL,.lit bL⟩:RA)][i]?=some r->r=⟨⟨0,[],[],[]⟩,.lit bL,.lit bL,.lit bL⟩:=λi r hr=>ZJ.1 (Zg hr)
    refine⟨rfl,rfl,Zf 3,⟨λi r hr=>?_,λi r hr=>?_,λi r hr=>?_,λi j r s u v k hr _ hk _=>?_⟩⟩
    .rw[g i r hr];exact Qp.mkS (.inl ⟨rfl,rfl⟩) trivial
    .rw[g i r hr];exact .inl ⟨rfl,rfl⟩
    .rw[g i r hr];exact .inl ⟨rfl,rfl⟩
    .rw[g i r hr] at hk;cases u<;>cases hk
   refine WC.block (WC.mask (WC.loop ((aIG (xm:=xm) qn qa qf cs qc b3 cs n 0 tm _ _ [] [] lq rfl b1 (by simp;omega) (by simp;omega) d0 (λr hr=>by rw[ZJ.1 hr];exact⟨rfl,rfl⟩) rfl trivial (.cons (ha.get rfl) (.cons (ha.get rfl) (.cons (ha.get rfl) (.cons (ha.get rfl) (.cons (ha.get rfl) (.cons (ha.get rfl) (.cons (ha.get rfl) ⟨ha.ln,λ_ _ h=>by cases h⟩))))))) e1).imp ?_)))
   rintro x s ⟨rfl,w,qr,rw1,d1,hn,h2,ql,ha,hw,hq⟩
   show WC PP (fB PP T n) n 0 _ ⟨cU (bl 0x18c 9) s.tmps,s.heap⟩ _
   replace ha:At 110 ((8,.ms 2 qr.length 0 qr.length)::dB xm w) (cU (bl 0x18c 9) s.tmps):=.cons (ha.live _ rfl rfl) (.cons (ha.live _ rfl rfl) (.cons (ha.live _ rfl rfl) (.cons (ha.live _ rfl rfl) (ha.mask _))))
   generalize cU (bl 0x18c 9) s.tmps=tm at ha
   generalize s.heap=H at d1 h2
   refine WC.seq (WC.seq (WC.reg (AO.mov ha rfl λtm ha=>AO.op (v:=iv (qr.length:Nat)) (H':=H) ha (by simp only[aL,ha.get (k:=43) rfl]) λtm ha=>AO.op (v:=iv 0) ha rfl λtm ha=>AO.nil ha ?_)))
   have hql:qr.length=lq.2.length:=ql.len
   have hin:∀(j:Nat) (s:RA),w[j]?=some s->s.a.inner.length+s.a.alone.length<=0:=λj s hj=>by
    have hm:=hn s (Zg hj)
    have c1:s.a.inner=[]:=by
     rcases d1.i.cx j s hj with⟨_,h⟩ | ⟨k,es,h,_⟩
     .exact h
     .rw[hm.1] at h;cases h
    have c2:s.a.alone=[]:=by
     rcases d1.i.cy j s hj with⟨_,h⟩ | ⟨k,es,h,_⟩
     .exact h
     .rw[hm.2] at h;cases h
    rw[c1,c2];exact Zf _
   have hlq:lq.2.length<=cs.length:=by
    have:∀(cs:List (List Int)) (l:List dP) (q:List (List Int)) (r:List dP×List (List Int)),dv1 n p cs l q=some r->r.2.length<=q.length+cs.length:=by
     intro cs
     induction cs with
     | nil=>intro l q r h;cases h;exact Zf _
     | cons c cs ih=>
      intro l q r h
      simp only[dv1] at h
      obtain⟨t,_,h⟩:=bD h
      simp only[Yc]
      cases ht:decide (t > 0) with
      | true=>rw[ht] at h;have:=ih _ _ _ h;omega
      | false=>rw[ht] at h;have:=ih _ _ _ h;rw[Zh,Yd] at this;omega
    have:=this cs _ _ _ e1
    simp only[Z1] at this;omega
   refine WC.block (WC.mask (WC.loop ((aMq (xn:=xn) (xa:=xa) (xf:=xf) qm lq.2 qr ql (by omega) lq.2 n 0 tm _ w l2 rfl (by omega) (ZG _) d1 h2 hin (.cons (ha.get rfl) (.cons (ha.get rfl) (.cons (ha.get rfl) (.cons (ha.get rfl) (.cons (ha.get rfl) (.cons (ha.get rfl) ⟨ha.ln,λ_ _ h=>by cases h⟩)))))) (by rw[rw1];exact e2)).imp ?_)))
   rintro x s ⟨rfl,w2,rw2,d2,hs2,ha⟩
   show WC PP (fB PP T n) n 0 _ ⟨cU (bl 0x8c 8) s.tmps,s.heap⟩ _
   replace ha:At 110 (dB xm w2) (cU (bl 0x8c 8) s.tmps):=.cons (ha.live _ rfl rfl) (.cons (ha.live _ rfl rfl) (.cons (ha.live _ rfl rfl) (ha.mask _)))
   generalize cU (bl 0x8c 8) s.tmps=tm at ha
   generalize s.heap=H at d2
   refine WC.seq (WC.seq (WC.reg (AO.op ha (aBA (ha.get rfl)) λtm ha=>AO.op ha (Ny (v:=xn) (ha.get rfl) d2.h0 rfl rfl (Zj rfl) rfl) λtm ha=>AO.op ha (aMm qn (ha.get rfl)) λtm ha=>AO.op (v:=iv 0) ha rfl λtm ha=>AO.nil ha ?_)))
   refine WC.block (WC.mask (WC.loop ((aIF qn qa qf qm b4 p.Nodes n 0 tm _ w2 r rfl b2 (ZG _) d2 (λj s hj=>by have:=hs2 j s hj;omega) (.cons (ha.get rfl) (.cons (ha.get rfl) (.cons (ha.get rfl) (.cons (ha.get rfl) (.cons (ha.get rfl) (.cons (ha.get rfl) ⟨ha.ln,λ_ _ h=>by cases h⟩)))))) (by rw[rw2];exact h)).imp ?_)))
   rintro x s ⟨rfl,w3,rw3,d3,ha⟩
   show WC PP (fB PP T n) n 0 _ ⟨cU (bl 0x80 8) s.tmps,s.heap⟩ _
   replace ha:At 110 [(7,.ms 1 w3.length 0 w3.length)] (cU (bl 0x80 8) s.tmps):=.cons (ha.live _ rfl rfl) (ha.mask _)
   generalize cU (bl 0x80 8) s.tmps=tm at ha
   exact WC.seq (WC.reg (AO.mov ha rfl λtm ha=>AO.mov ha rfl λtm ha=>AO.nil ha (WC.ret ⟨rfl,w3,rw3,d3,ha.get rfl⟩)))
  obtain⟨x,s,k1,rfl,w,rfl,d,k2⟩:=key
  refine⟨w,s.heap,?_,rfl,d⟩
  rw[VN (t6 T 104) (by kernel_rfl)]
  have e:(t6 T 104).nt=110:=by kernel_rfl
  have e2:(t6 T 104).rets=[.tmp 6]:=by kernel_rfl
  rw[e]
  show aDd _ (eR PP (fB PP T n) n 0 (t6 T 104).body ⟨[.agg [xn,xa,xf],xc,xm]++List.replicate 107 (.lit bI),[]⟩)=_
  rw[k1]
  simp only[aDd,e2,kZ,Ns,k2,jO]
theorem aDl: V5 PP T 104 ⟨[.w 4,.w 28,.w 29],[33],true,λn p=>iU n p.1 p.2.1 p.2.2⟩:=by
 rintro n ⟨p,cs,m⟩ r h aw q
 match aw,q with
 | [pl,xc,xm],q=>
 obtain⟨q1,q2,q3,_⟩:=q
 obtain⟨b,rfl,q4⟩:=Qh.inA (cs:=[.vw 0 p.Nodes,.vw 2 p.Arcs,.vw 3 p.Faces]) q1
 clear q1
 match b,q4 with
 | [xn,xa,xf],q4=>
 obtain⟨qn,qa,qf,_⟩:=q4
 replace qn:=Qh.pu (v:=.vw 0 p.Nodes) qn trivial
 replace qa:=Qh.pu (v:=.vw 2 p.Arcs) qa trivial
 replace qf:=Qh.pu (v:=.vw 3 p.Faces) qf trivial
 have qc:Qp (.vw 12 cs) xc:=Qh.pu (v:=.vw 12 cs) q2 trivial
 have qm:Qp (.rmp 3 14 m) xm:=Qh.pu (v:=.rmp 3 14 m) q3 trivial
 obtain⟨w,H,k1,rfl,d⟩:=aGl n p cs m r h qn qa qf qc qm
 have hw:(w.map RA.c).length=w.length:=ZO _
 refine⟨[.ms 1 w.length 0 w.length],H,k1,?_,?_,?_⟩
 .intro H1
  refine⟨.p _ _ ?_,trivial⟩
  show Qp (.sl 32 (w.map RA.a)) (eE H 0 6 (.ms 1 w.length 0 w.length))
  simp only[eE,ZG,Zz,rd,d.h1,hw,YD]
  rw[ZW (by simp)]
  exact Qp.mkS (.inr ⟨_,rfl⟩) (d.i.rows (d:=4) λk _=>rfl)
 .intro a ha l e
  rw[ZJ.1 ha] at e;cases e
 .intro _ k y us hv
  cases hv
  refine⟨_,[],_,rfl,?_,d.i.rows (d:=5) (H':=H.set 1 (.blk 4 (w.map RA.c++[List.replicate 4 .undef]))) λk hk=>Zv (by omega)⟩
  simp only[NI,d.h1,hw,Y5,Xr]
  rfl
def OY: Kn:=⟨104,_,aDl⟩
end
end
end Go.Proofs.YtabioopnpgiijaaGreatDoor.Av
