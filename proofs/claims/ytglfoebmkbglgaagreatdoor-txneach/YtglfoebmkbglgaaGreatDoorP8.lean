/- A part of the proof of a law on transactions. -/
import Derived.Test.YtglfoebmkbglgaaGreatDoorP7
set_option maxRecDepth 100000
set_option maxHeartbeats 4000000
set_option linter.all false
namespace Go.Proofs.YtglfoebmkbglgaaGreatDoor.Av
open Go
section
variable {R:Type}(n:Nat)
noncomputable section
def uR(n:Nat): (List Aaa)->((Int×Int×Int×Int×Int)->Option R)->(((Int×Int×Int×Int)->Option R)×Unit)->(Int×Int×Int×Int×Int)->Option R:=λa b (c,_) (d,f,g,h,i)=>cd (i<(ln a)) (bnd (idx a i) λj=>bnd (idx a i) λl=>bnd (idx a i) λm=>bnd (idx a i) λo=>b ((BV d j.X),(BV f l.Y),(nF g m.X),(nF h o.Y),(wr<|i+1)))<|c (d,f,g,h)
def U2:=oH uR
def c9: Lc 73 0 0:=bL 0x52eaefd4296ddb2051cbb311014432de90e35c11a990504e88b34dd C0 [] [] @uR
def FL: Nat->(List Aaa)->Option U5
 | 0,_=>none
 | n+1,a=>cnd ((ln a)==0) (some<|U5.mk 0 0 (-1) (-1))<|bnd (idx a 0) λb=>bnd (idx a 0) λc=>bnd (idx a 0) λd=>bnd (idx a 0) λf=>bnd (U2 n a (b.X,c.Y,d.X,f.Y,1)) λg=>some<|U5.mk g.1 g.2.1 g.2.2.1 g.2.2.2
def aC3: Kn:=bJ 73 0x162b8dfe4bb3 C0 [⟨0,[c9]⟩] [] FL
abbrev C1:=aC3::C0
def Ro(n:Nat): aN->((Bool->Option R)×Unit)->Unit->Option R:=λa (b,_) _=>cd ((ln a.Nodes) > 30) (b true)<|cd ((ln a.Arcs) > 30) (b true)<|cd ((ln a.Faces) > 30) (b true)<|b false
def LW:=eV Ro
def L7: Lc 32 0 0:=bH 0x1ef97cc3660f2ea C1 [] [] @Ro
def zX(n:Nat): aN->((List Aaa×Int)->Option R)->(((List Aaa)->Option R)×Unit)->(List Aaa×Int)->Option R:=λa b (c,_) (d,f)=>cd (f<(ln a.Nodes)) (bnd (idx a.Nodes f) λg=>bnd (app d [g.At]) λh=>b (h,(wr<|f+1)))<|c d
def aCz:=oH zX
def L9: Lc 32 0 1:=bL 0x56f12ac03d0f6b46a25aa6be689d2bd2da188b809ef9d03602915e4 C1 [] [] @zX
def zW(n:Nat): aN->((List Aaa×Int)->Option R)->(((List Aaa)->Option R)×((List Aaa)->Option R)×Unit)->(List Aaa×Int)->Option R:=λa b (c,d,_) (f,g)=>cd (g<(ln a.Arcs)) (bnd (idx a.Arcs g) λh=>cd ((wr<|(ln f)+(ln h.Via)) > 180) (c f)<|bnd (idx a.Arcs g) λi=>bnd (app f i.Via) λj=>b (j,(wr<|g+1)))<|d f
def aCy:=oA zW
def L8: Lc 32 0 2:=bL 0x18d2b4e1b675747d53251ed0cf4c2bef7ba4d6d56f6ebb1685f89795763fd228 C1 [] [] @zW
def Rn(n:Nat): U5->((Bool->Option R)×Unit)->Unit->Option R:=λa (b,_) _=>cd (a.X0>=(-1073741824)) (cd (a.Y0>=(-1073741824)) (cd (a.X1<=1073741824) (cd (a.Y1<=1073741824) (cd ((wr<|a.X1-a.X0)<=3000) (cd ((wr<|a.Y1-a.Y0)<=3000) (b true)<|b false)<|b false)<|b false)<|b false)<|b false)<|b false
def LV:=eV Rn
def L6: Lc 32 0 3:=bH 0x894566bcce491752f5a6798492 C1 [] [] @Rn
def RZ: Nat->aN->Option Bool
 | 0,_=>none
 | n+1,a=>bnd (LW n a) λb=>cnd b (some false)<|bnd (aCz n a ([],0)) λc=>bnd2 (aCy n a (c,0)) (λ_=>some false) λd=>bnd (some d) λf=>bnd (FL n f) λg=>bnd (LV n g) λh=>cnd h (some true)<|some false
def aEG: Kn:=bJ 32 0x173fb2a33ea6 C1 [⟨0,[L7]⟩,⟨1,[L9]⟩,⟨2,[L8]⟩,⟨3,[L6]⟩] [] RZ
abbrev C2:=aEG::C1
def Rd: aK->((Bool->Option R)×Unit)->Unit->Option R:=λa (b,_) _=>bnd (RZ n a.Plan) λc=>cnd c (cd ((ln a.Features) > 20) (b true)<|b false)<|b true
def LR:=eV Rd
def K6: Lc 11 0 0:=bH 0x1ef9794246c959e C2 [] [] @Rd
def Rc(n:Nat): (aK×Int)->((Bool->Option R)×Unit)->Unit->Option R:=λ(a,b) (c,_) _=>bnd (idx a.Features b) λd=>cd ((ln d.Parts) > 40) (c true)<|bnd (idx a.Features b) λf=>cd (((f.Name.size:Nat):Int) > 100) (c true)<|c false
def LQ:=eV Rc
def K5: Lc 11 0 2:=bH 0x1d04d1b1c33d2b380b05940af4ade46df3c C2 [] [] @Rc
def zS: aK->(Int->Option R)->((Unit->Option R)×(Unit->Option R)×Unit)->Int->Option R:=λa b (c,d,_) f=>cd (f<(ln a.Features)) (bnd (LQ n (a,f)) λg=>cnd g (c ())<|b<|wr<|f+1)<|d ()
def aCu:=oA zS
def K7: Lc 11 0 1:=bL 0x71f2ea7ef3785540f8b05d20866605ae C2 [⟨0,[cs K5]⟩] [] @zS
def RN: Nat->aK->Option Bool
 | 0,_=>none
 | n+1,a=>bnd (LR n a) λb=>cnd b (some false)<|bnd2 (aCu n a 0) (λ_=>some false) λc=>bnd (some c) λ_=>some true
def aEB: Kn:=bJ 11 0x1fd6a75ba C2 [⟨0,[K6]⟩,⟨1,[K7]⟩] [] RN
abbrev C3:=aEB::C2
def Rf(n:Nat): (List dJ×Int)->((Bool->Option R)×Unit)->Unit->Option R:=λ(a,b) (c,_) _=>bnd (idx a b) λd=>cd ((ln d.Edits) > 6) (c true)<|bnd (idx a b) λf=>cd (((f.Source.size:Nat):Int) > 100) (c true)<|c false
def LT:=eV Rf
def K9: Lc 3 0 1:=bH 0x5fa2ec8ac3ef446b4bd4bcdb51064 C3 [] [] @Rf
def Re(n:Nat): bG->((Bool->Option R)×Unit)->Unit->Option R:=λa (b,_) _=>cd ((ln a.Via) > 20) (b true)<|cd ((ln a.Parts) > 20) (b true)<|cd (((a.Name.size:Nat):Int) > 100) (b true)<|b false
def LS:=eV Re
def K8: Lc 3 0 3:=bH 0x2f2181ea6123b4c4f994b6f650e5056a C3 [] [] @Re
def zU: (List dJ×Int)->(Int->Option R)->((bG->Option R)×(Unit->Option R)×Unit)->Int->Option R:=λ(a,b) c (d,f,_) g=>bnd (idx a b) λh=>cd (g<(ln h.Edits)) (bnd (idx a b) λi=>bnd (idx i.Edits g) λj=>bnd (LS n j) λl=>cnd l (d j)<|c<|wr<|g+1)<|f ()
def aCv:=oA zU
def L0: Lc 3 0 2:=bL 0x1534794b8fb15b3031bf6828b57cb6c2c43de0 C3 [⟨0,[cs K8]⟩] [] @zU
def zV: (List dJ)->(Int->Option R)->((Unit->Option R)×(bG->Option R)×(Unit->Option R)×Unit)->Int->Option R:=λa b (c,d,f,_) g=>cd (g<(ln a)) (bnd (LT n (a,g)) λh=>cnd h (c ())<|bnd2 (aCv n (a,g) 0) (λi=>d i) λj=>bnd (some j) λ_=>b<|wr<|g+1)<|f ()
def aCw:=lp3 zV
def L1: Lc 3 0 0:=bL 0xdda7f903f16f93038e016db50459880e74abf2c2 C3 [⟨0,[cs K9]⟩,⟨1,[cs L0]⟩] [] @zV
def RO: Nat->(List dJ)->Option Bool
 | 0,_=>none
 | n+1,a=>cd ((ln a) > 12) (some false)<|bnd2 (aCw n a 0) (λ_=>some false) λb=>bnd2 (some b) (λ_=>some false) λc=>bnd (some c) λ_=>some true
def aEC: Kn:=bJ 3 0x354a23be5 C3 [⟨0,[L1]⟩] [] RO
abbrev C4:=aEC::C3
def Rg: cN->((Bool->Option R)×Unit)->Unit->Option R:=λa (b,_) _=>bnd (RN n a.Survey) λc=>cnd c (bnd (RO n a.Txns) λd=>cnd d (b true)<|b false)<|b false
def LU:=eV Rg
def L2: Lc 2 0 0:=bH 0x47619b568 C4 [] [] @Rg
def RQ: Nat->cN->Option Bool
 | 0,_=>none
 | n+1,a=>bnd (LU n a) λb=>cnd b (some true)<|some false
def aED: Kn:=bJ 2 0x354a24794 C4 [⟨0,[L2]⟩] [] RQ
abbrev C5:=aED::C4
def So: Nat->Option dJ
 | 0=>none
 | n+1=>some<|dJ.mk 2 1 5 (⟨#[]⟩:ByteArray) [(bG.mk 1 1 0 0 0 (Aaa.mk 0 0) [] (⟨#[]⟩:ByteArray) [])]
def aEE: Kn:=bJ 12 0x10307107a7f40f6 C5 [] [] So
abbrev C6:=aEE::C5
def Bj(n:Nat): (fZ×Int)->((Bool->Option R)×Unit)->Unit->Option R:=λ(a,b) (c,_) _=>cd (a.first<=b) (cd (b<=a.last) (c true)<|c false)<|c false
def VH:=eV Bj
def JG: Lc 105 0 1:=bH 0xaef010ac5f057add90743a43253568fe1e69de9574d5e394a C6 [] [] @Bj
def pP: (Int×wI)->(Int->Option R)->(((fZ×Int)->Option R)×(Unit->Option R)×Unit)->Int->Option R:=λ(a,b) c (d,f,_) g=>cd (g<13) (bnd (idx ([b.e0,b.e1,b.e2,b.e3,b.e4,b.e5,b.e6,b.e7,b.e8,b.e9,b.e10,b.e11,b.e12]:List fZ) g) λh=>bnd (VH n (h,a)) λi=>cnd i (d (h,h.script))<|c<|wr<|g+1)<|f ()
def VI:=oA pP
def JH: Lc 105 0 0:=bL 0x6d975fe830af083ee92f9283a2c62462cd06d1b7e6cebe49ed54 C6 [⟨0,[cs JG]⟩] [] @pP
def wA: Nat->Int->Option Int
 | 0,_=>none
 | n+1,a=>cd (a<0) (some (-1))<|cd (a > 1114111) (some (-1))<|bnd2 (VI n ((IntKind.i32.wrap a),(wI.mk (fZ.mk 32 32 0) (fZ.mk 39 41 0) (fZ.mk 45 46 0) (fZ.mk 48 57 0) (fZ.mk 65 90 1) (fZ.mk 97 122 1) (fZ.mk 192 214 1) (fZ.mk 216 246 1) (fZ.mk 248 591 1) (fZ.mk 880 1023 2) (fZ.mk 1024 1279 3) (fZ.mk 1488 1514 4)<|fZ.mk 19968 40959 5)) 0) (λb=>some b.2) λc=>bnd (some c) λ_=>some (-1)
def E0: Kn:=bJ 105 0x6a2c1e C6 [⟨0,[JH]⟩] [] wA
abbrev C7:=E0::C6
def pQ: Unit->((List Int×(ByteArray×Nat))->Option R)->(((List Int×(ByteArray×Nat))->Option R)×((List Int×(ByteArray×Nat))->Option R)×Unit)->(List Int×(ByteArray×Nat))->Option R:=λ_ a (b,c,_) (d,f)=>cd (f.2<f.1.size) (bnd (wA n<|wr (((Utf8.decode f.1 f.2).1:Nat):Int)) λg=>cd (g<0) (b (d,(f.1,(f.2+(Utf8.decode f.1 f.2).2))))<|bnd (app d [(wr (((Utf8.decode f.1 f.2).1:Nat):Int))]) λh=>a (h,(f.1,(f.2+(Utf8.decode f.1 f.2).2))))<|c (d,(f.1,f.2))
def VJ:=oA pQ
def JI: Lc 103 0 0:=bL 0x172766ba0d351531d38b81fe89605433f84e7e7e58de59656a0b37838ab5d3b3b8b0c88be4d1062696642be29d028bb1 C7 [] [] @pQ
def Jo: Nat->ByteArray->Option (List Int×Int)
 | 0,_=>none
 | n+1,a=>bnd2 (VJ n () ([],(a,0))) (λ_=>some ([],4)) λb=>bnd (some b) λc=>some (c.1,0)
def E4: Kn:=bJ 103 0x1840e0690c81eb30d5 C7 [⟨0,[JI]⟩] [] Jo
abbrev C8:=E4::C7
def aSl: Kn:=aU0 104 17 7 rfl (λn p=>aA0 n p.1 p.2) λn p r h=>by obtain⟨m,h1⟩:=aRR h;exact⟨m,p.1,p.2,r,h1,rfl,h,rfl⟩
abbrev C9:=aSl::C8
def Om: ByteArray->((Bool->Option R)×Unit)->Unit->Option R:=λa (b,_) _=>bnd (sat a 0) λc=>cnd (c==32) (b true)<|bnd (sat a<|wr<|((a.size:Nat):Int)-1) λd=>cnd (d==32) (b true)<|bnd (aA0 n a (⟨#[32,32]⟩:ByteArray)) λf=>cnd f (b true)<|b false
def aB1:=eV Om
def A6: Lc 77 0 0:=bH 0x57cde687982db68ae3fa35271914c C9 [] [] @Om
def xS: (List Int×List Int×Int)->(Int->Option R)->((Unit->Option R)×(Unit->Option R)×Unit)->Int->Option R:=λ(a,b,c) d (f,g,_) h=>cd (h<c) (bnd (idx b h) λi=>bnd (wA n i) λj=>cnd (j != 0) (f ())<|d<|wr<|h+1)<|g ()
def aB2:=oA xS
def A7: Lc 77 0 1:=bL 0x2047e71e048b8ad2c0de4da6204b7b148aa935 C9 [] [] @xS
def aAk: Nat->ByteArray->Option (List Int×Int)
 | 0,_=>none
 | n+1,a=>cd (a=(⟨#[]⟩:ByteArray)) (some ([],14))<|cd (((a.size:Nat):Int) > 40) (some ([],3))<|bnd (Jo n a) λb=>cnd (b.2 != 0) (some ([],b.2))<|bnd (aB1 n a) λc=>cnd c (some ([],14))<|bnd2 (aB2 n (b.1,b.1,(ln b.1)) 0) (λ_=>some (b.1,0)) λd=>bnd (some d) λ_=>some ([],14)
def aD3: Kn:=bJ 77 0x2136b1bbc418df0 C9 [⟨0,[A6]⟩,⟨1,[A7]⟩] [] aAk
abbrev C10:=aD3::C9
def rV: Nat->ByteArray->Option Int
 | 0,_=>none
 | n+1,a=>bnd (aAk n a) λb=>some b.2
def aB3: Kn:=bJ 36 0x4d84a9687 C10 [] [] rV
abbrev C11:=aB3::C10
def dP: Nat->Int->Option Int
 | 0,_=>none
 | n+1,a=>cnd (a==1) (some 1)<|cnd (a==2) (some 1)<|cnd (a==8) (some 1)<|cnd (a==3) (some 2)<|cnd (a==4) (some 2)<|cnd (a==5) (some 3)<|cnd (a==6) (some 3)<|cnd (a==7) (some 3)<|some 0
def VN: Kn:=bJ 47 0x6a2c1e C11 [] [] dP
abbrev C12:=VN::C11
def Cu(n:Nat): Int->((Bool->Option R)×Unit)->Unit->Option R:=λa (b,_) _=>cnd (a==1) (b true)<|cnd (a==3) (b true)<|b false
def Lr:=eV Cu
def KY: Lc 48 0 1:=bH 0x7d49e3b5734def431ac1ca5725db5 C12 [] [] @Cu
def Cv: bG->((bG->Option R)×Unit)->Unit->Option R:=λa (b,_) _=>bnd (Lr n a.Kind) λc=>cnd c (b<|bG.mk a.Kind a.ID a.A a.B a.C (Aaa.mk 0 0) a.Via a.Name a.Parts)<|cnd (a.Kind==4) (b<|bG.mk a.Kind a.ID 0 0 0 a.At [] a.Name a.Parts)<|cnd (a.Kind==6) (b<|bG.mk a.Kind a.ID a.A a.B a.C a.At [] a.Name a.Parts)<|cnd (a.Kind==7) (b<|bG.mk a.Kind a.ID 0 0 a.C a.At a.Via (⟨#[]⟩:ByteArray) [])<|cnd (a.Kind==9) (b<|bG.mk a.Kind a.ID a.A a.B a.C a.At a.Via (⟨#[]⟩:ByteArray) a.Parts)<|cnd (a.Kind==10) (b<|bG.mk a.Kind a.ID a.A 0 a.C a.At a.Via a.Name a.Parts)<|cnd (a.Kind==11) (b<|bG.mk a.Kind a.ID a.A a.B a.C a.At a.Via a.Name [])<|cnd (a.Kind==12) (b<|bG.mk a.Kind a.ID 0 a.B a.C a.At a.Via a.Name a.Parts)<|b a
def Lt:=eV Cv
def KZ: Lc 48 0 0:=bH 0x4a7d79ba6cfaa0d613f8594b65 C12 [⟨0,[cs KY]⟩] [] @Cv
def Ct(n:Nat): bG->((Bool->Option R)×Unit)->Unit->Option R:=λa (b,_) _=>cnd (a.A != 0) (b true)<|cnd (a.B != 0) (b true)<|cnd (a.C != 0) (b true)<|cd (a.At=(Aaa.mk 0 0)) (cd ((ln a.Via) > 0) (b true)<|cd (a.Name=(⟨#[]⟩:ByteArray)) (cd ((ln a.Parts) > 0) (b true)<|b false)<|b true)<|b true
def Lq:=eV Ct
def KX: Lc 48 0 2:=bH 0x61bef7 C12 [] [] @Ct
def Jt: Nat->bG->Option Bool
 | 0,_=>none
 | n+1,a=>bnd (Lt n a) λb=>bnd (Lq n b) λc=>cnd c (some true)<|some false
def I0: Kn:=bJ 48 0x1fd6a8169 C12 [⟨0,[KZ]⟩,⟨2,[KX]⟩] [] Jt
abbrev C13:=I0::C12
def H4: Nat->Int->Option Bool
 | 0,_=>none
 | n+1,a=>cd (1<=a) (cd (a<=1073741824) (some true)<|some false)<|some false
def QM: Kn:=bJ 79 0xade C13 [] [] H4
abbrev C14:=QM::C13
def JQ(n:Nat): (U5×Aaa)->((Bool->Option R)×Unit)->Unit->Option R:=λ(a,b) (c,_) _=>cd (a.X0<=b.X) (cd (b.X<=a.X1) (cd (a.Y0<=b.Y) (cd (b.Y<=a.Y1) (c true)<|c false)<|c false)<|c false)<|c false
def F3:=eV JQ
def aBQ: Lc 106 0 0:=bH 0x2d5836bb6b96 C14 [] [] @JQ
def aBR: Nat->U5->Aaa->Option Bool
 | 0,_,_=>none
 | n+1,a,b=>bnd (F3 n (a,b)) λc=>cnd c (some true)<|some false
def aJi: Kn:=bJ 106 0x2b80b6ce4 C14 [⟨0,[aBQ]⟩] [] aBR
abbrev C15:=aJi::C14
def sI(n:Nat): Int->((Bool->Option R)×Unit)->Unit->Option R:=λa (b,_) _=>cd (1<=a) (cd (a<=1073741824) (b true)<|b false)<|b false
def eG:=qM sI
def QV: Ic:=cG 79 0 1 0x74c3388afd5169f40f63ba2 C15 [] [] @sI
def sH: Aaa->((Bool->Option R)×Unit)->Unit->Option R:=λa (b,_) _=>bnd (aBR n (U5.mk (-1048576) (-1048576) 1048576 1048576) a) λc=>cnd c (b false)<|b true
def iB:=qM sH
def QU: Ic:=cG 80 0 2 0x11b1b06fa6f345b9274a58275e38745bae99d58a3 C15 [] [] @sH
def QR: Ic:=cG 80 4 2 0x2d7131ee433eb6b4cae00cb570c45638 C15 [] [] @sH
def sG: (List Aaa×Int)->(Int->Option R)->((Int->Option R)×(Unit->Option R)×Unit)->Int->Option R:=λ(a,b) c (d,f,_) g=>cd (g<b) (bnd (idx a g) λh=>bnd (iB n h) λi=>cnd i (d g)<|c<|wr<|g+1)<|f ()
def H6:=oA sG
def QO: Lc 107 0 0:=bL 0x6d9b2f43fc5ce8d4d64539b66abb24112ff2b4aa24e77aeff C15 [] [QR] @sG
def Fz: (List Aaa)->((Int->Option R)×Unit)->Unit->Option R:=λa (b,_) _=>bnd2 (H6 n (a,(ln a)) 0) (λc=>b c) λd=>bnd (some d) λ_=>b (-1)
def Pz:=qM Fz
def QS: Ic:=cG 107 0 2 0x2d71092a1ab5e5d4f99ad07c0741ca16 C15 [⟨0,[QO]⟩] [] @Fz
def Ga: (List Aaa)->((Bool->Option R)×Unit)->Unit->Option R:=λa (b,_) _=>bnd (Pz n a) λc=>cd (c>=0) (b true)<|b false
def iA:=qM Ga
def QT: Ic:=cG 81 0 2 0x3e40c9d9e87e717727fcb2e1b8be1 C15 [] [QS] @Ga
def KL: Ic:=cG 79 4 1 0x74c337d8a377e192cd54a1c C15 [] [] @sI
def Cn: Int->((Bool->Option R)×Unit)->Unit->Option R:=λa (b,_) _=>bnd (eG n a) λc=>cnd c (b false)<|b true
def Ll:=qM Cn
def KM: Ic:=cG 82 4 2 0x1b81381a17d64fd47013a C15 [] [KL] @Cn
def sF: (List Int×Int)->(Int->Option R)->((Int->Option R)×(Unit->Option R)×Unit)->Int->Option R:=λ(a,b) c (d,f,_) g=>cd (g<b) (bnd (idx a g) λh=>bnd (Ll n h) λi=>cnd i (d g)<|c<|wr<|g+1)<|f ()
def H5:=oA sF
def QN: Lc 108 0 0:=bL 0x6d9af39f2c1f8d768c23ef209c3d5380dedd3dd30d1384c15 C15 [] [KM] @sF
def Fx: (List Int)->((Int->Option R)×Unit)->Unit->Option R:=λa (b,_) _=>bnd2 (H5 n (a,(ln a)) 0) (λc=>b c) λd=>bnd (some d) λ_=>b (-1)
def Py:=qM Fx
def QP: Ic:=cG 108 0 2 0x290eacb231072d87965d0680793d2605 C15 [⟨0,[QN]⟩] [] @Fx
def Fy: (List Int)->((Bool->Option R)×Unit)->Unit->Option R:=λa (b,_) _=>bnd (Py n a) λc=>cd (c>=0) (b true)<|b false
def hZ:=qM Fy
def QQ: Ic:=cG 83 0 2 0xab5aee0435ebfd3c96ee5768d379e C15 [] [QP] @Fy
def Cm(n:Nat): Int->((Bool->Option R)×Unit)->Unit->Option R:=λa (b,_) _=>cnd (a==7) (b true)<|cnd (a==10) (b true)<|b false
def Lk:=eV Cm
def KK: Lc 49 0 0:=bH 0x226dcf057d24e9eaa9c4ee65e3c28955141 C15 [] [] @Cm
def Cl(n:Nat): bG->((Bool->Option R)×Unit)->Unit->Option R:=λa (b,_) _=>cd (a.B<1) (b true)<|cd (a.B > 9) (b true)<|b false
def Lj:=eV Cl
def KJ: Lc 49 0 1:=bH 0x390e87308cbe57d51c618863b6359a4ae1ccee651d246e C15 [] [] @Cl
def Qa: Nat->bG->Option Bool
 | 0,_=>none
 | n+1,a=>cnd (a.Kind==4) (bnd (eG n a.A) λb=>cnd b (bnd (eG n a.B) λc=>cnd c (bnd (eG n a.ID) λd=>cnd d (cd (a.C<(-1073741824)) (some false)<|cd (a.C > 1073741824) (some false)<|bnd (iB n a.At) λf=>cnd f (some false)<|bnd (iA n a.Via) λg=>cnd g (some false)<|bnd (hZ n a.Parts) λh=>cnd h (some false)<|some true)<|some false)<|some false)<|some false)<|cnd (a.Kind==12) (bnd (eG n a.A) λi=>cnd i (bnd (eG n a.ID) λj=>cnd j (cd (a.C<(-1073741824)) (some false)<|cd (a.C > 1073741824) (some false)<|bnd (iB n a.At) λl=>cnd l (some false)<|bnd (iA n a.Via) λm=>cnd m (some false)<|bnd (hZ n a.Parts) λo=>cnd o (some false)<|some true)<|some false)<|some false)<|bnd (Lk n a.Kind) λr=>cnd r (bnd (Lj n a) λs=>cnd s (some false)<|bnd (eG n a.ID) λt=>cnd t (cd (a.C<(-1073741824)) (some false)<|cd (a.C > 1073741824) (some false)<|bnd (iB n a.At) λu=>cnd u (some false)<|bnd (iA n a.Via) λv=>cnd v (some false)<|bnd (hZ n a.Parts) λw=>cnd w (some false)<|some true)<|some false)<|bnd (eG n a.ID) λx=>cnd x (cd (a.C<(-1073741824)) (some false)<|cd (a.C > 1073741824) (some false)<|bnd (iB n a.At) λy=>cnd y (some false)<|bnd (iA n a.Via) λz=>cnd z (some false)<|bnd (hZ n a.Parts) λa0=>cnd a0 (some false)<|some true)<|some false
def R6: Kn:=bJ 49 0x1fd6a8169 C15 [⟨0,[KK]⟩,⟨1,[KJ]⟩] [QV,QU,QT,QQ] Qa
abbrev C16:=R6::C15
def lE(n:Nat): (List Int)->(Int->Option R)->((Unit->Option R)×(Unit->Option R)×Unit)->Int->Option R:=λa b (c,d,_) f=>cd (f<(ln a)) (bnd (idx a<|wr<|f-1) λg=>bnd (idx a f) λh=>cd (g>=h) (c ())<|b<|wr<|f+1)<|d ()
def Ov:=oA lE
def PK: Lc 50 0 0:=bL 0x1d30b0d921e8012 C16 [] [] @lE
def tL: Nat->(List Int)->Option Bool
 | 0,_=>none
 | n+1,a=>bnd2 (Ov n a 1) (λ_=>some false) λb=>bnd (some b) λ_=>some true
def Q5: Kn:=bJ 50 0x2b9ed4 C16 [⟨0,[PK]⟩] [] tL
abbrev C17:=Q5::C16
def Ma(n:Nat): bG->((Bool->Option R)×Unit)->Unit->Option R:=λa (b,_) _=>cd (a.Kind<1) (b true)<|cd (a.Kind > 12) (b true)<|b false
def AH:=eV Ma
def a8: Lc 22 0 0:=bH 0x2a6cdb0b7768 C17 [] [] @Ma
def Lz: bG->((Bool->Option R)×Unit)->Unit->Option R:=λa (b,_) _=>cnd (a.Kind==7) (bnd (dP n a.A) λc=>cnd (c==0) (b true)<|b false)<|b false
def AG:=eV Lz
def a7: Lc 22 0 1:=bH 0x2a6af311860d C17 [] [] @Lz
def Ly(n:Nat): bG->((Bool->Option R)×Unit)->Unit->Option R:=λa (b,_) _=>cd ((ln a.Via) > 64) (b true)<|cd ((ln a.Parts) > 64) (b true)<|b false
def AF:=eV Ly
def WX: Lc 22 0 2:=bH 0x2a6afa001b3a C17 [] [] @Ly
def Lx: bG->((Bool->Option R)×Unit)->Unit->Option R:=λa (b,_) _=>cd (a.Name=(⟨#[]⟩:ByteArray)) (b false)<|bnd (rV n a.Name) λc=>cnd (c != 0) (b true)<|b false
def AE:=eV Lx
def WK: Lc 22 0 3:=bH 0x22c784c65f32c39 C17 [] [] @Lx
def Jw: Nat->bG->Option Int
 | 0,_=>none
 | n+1,a=>bnd (AH n a) λb=>cnd b (some 9)<|bnd (AG n a) λc=>cnd c (some 9)<|bnd (Jt n a) λd=>cnd d (some 1)<|bnd (AF n a) λf=>cnd f (some 3)<|bnd (Qa n a) λg=>cnd g (bnd (tL n a.Parts) λh=>cnd h (bnd (AE n a) λi=>cnd i (some 14)<|some 0)<|some 10)<|some 2
def aCk: Kn:=bJ 22 0x24efffaa2 C17 [⟨0,[a8]⟩,⟨1,[a7]⟩,⟨2,[WX]⟩,⟨3,[WK]⟩] [] Jw
abbrev C18:=aCk::C17
def Nb(n:Nat): dJ->((Bool->Option R)×Unit)->Unit->Option R:=λa (b,_) _=>cd (a.Office<1) (b true)<|cd (a.Office > 8) (b true)<|cd (a.Seq<1) (b true)<|cd (a.Seq > 1073741824) (b true)<|cd (a.Time<0) (b true)<|cd (a.Time > 1073741824) (b true)<|b false
def HD:=eV Nb
def s3: Lc 17 0 0:=bH 0x1ef980a835599f9 C18 [] [] @Nb
def Na: dJ->((Unit->Option R)×(Int->Option R)×Unit)->Unit->Option R:=λa (b,c,_) _=>cd (a.Source=(⟨#[]⟩:ByteArray)) (b ())<|bnd (rV n a.Source) λd=>cnd (d != 0) (c d)<|b ()
def HC:=pc2 Na
def r9: Lc 17 0 1:=bH 0x1d0964c5021e2d04c44c2b013609daea14e C18 [] [] @Na
def Mz(n:Nat): dJ->((Bool->Option R)×Unit)->Unit->Option R:=λa (b,_) _=>cd ((ln a.Edits)<1) (b true)<|cd ((ln a.Edits) > 64) (b true)<|b false
def HB:=eV Mz
def r8: Lc 17 0 2:=bH 0x1ef9880e225b316 C18 [] [] @Mz
def wU: (List bG×Int)->(Int->Option R)->(((bG×Int)->Option R)×(Unit->Option R)×Unit)->Int->Option R:=λ(a,b) c (d,f,_) g=>cd (g<b) (bnd (idx a g) λh=>bnd (Jw n h) λi=>cnd (i != 0) (d (h,i))<|c<|wr<|g+1)<|f ()
def aAQ:=oA wU
def s6: Lc 17 0 3:=bL 0x2170f7e8ba0e22b78dde4b21705f6b661efadf23d C18 [] [] @wU
def ND: Nat->dJ->Option Int
 | 0,_=>none
 | n+1,a=>bnd (HD n a) λb=>cnd b (some 2)<|bnd2 (HC n a) (λ_=>bnd (HB n a) λc=>cnd c (some 3)<|bnd2 (aAQ n (a.Edits,(ln a.Edits)) 0) (λd=>some d.2) λf=>bnd (some f) λ_=>some 0) λg=>bnd (some g) λh=>some h
def aCJ: Kn:=bJ 17 0x24f18da31 C18 [⟨0,[s3]⟩,⟨1,[r9]⟩,⟨2,[r8]⟩,⟨3,[s6]⟩] [] ND
abbrev C19:=aCJ::C18
def pX: Nat->(List Aad)->Option (List Aad)
 | 0,_=>none
 | n+1,a=>bnd (rep (Aad.mk 0<|Aaa.mk 0 0) (ln a)<|ln a) λb=>bnd (cpy b (0,List.length b) a) λc=>bnd (Lb true) λ_=>some c
def RG: Kn:=bJ 42 0x32fc02f05d69a6b C19 [] [] pX
abbrev C20:=RG::C19
def mS: Nat->(List aP)->Option (List aP)
 | 0,_=>none
 | n+1,a=>bnd (rep (aP.mk 0 0 0 [] 0 0) (ln a)<|ln a) λb=>bnd (cpy b (0,List.length b) a) λc=>bnd (Lb true) λ_=>some c
def VS: Kn:=bJ 43 0x32fc03412ea8885 C20 [] [] mS
abbrev C21:=VS::C20
def gS: Nat->(List Int)->Option (List Int)
 | 0,_=>none
 | n+1,a=>bnd (rep 0 (ln a)<|ln a) λb=>bnd (cpy b (0,List.length b) a) λc=>some c
def VR: Kn:=bJ 44 0x2b34a06421f2 C21 [] [] gS
abbrev C22:=VR::C21
def jY: Nat->(List aD)->Option (List aD)
 | 0,_=>none
 | n+1,a=>bnd (rep (aD.mk 0 0 0 (⟨#[]⟩:ByteArray) []) (ln a)<|ln a) λb=>bnd (cpy b (0,List.length b) a) λc=>bnd (Lb true) λ_=>some c
def Vm: Kn:=bJ 45 0x32fc0385f7faa98 C22 [] [] jY
abbrev C23:=Vm::C22
def jB: Nat->(List Aaa)->Option (List Aaa)
 | 0,_=>none
 | n+1,a=>bnd (rep (Aaa.mk 0 0) (ln a)<|ln a) λb=>bnd (cpy b (0,List.length b) a) λc=>some c
def KW: Kn:=bJ 46 0x144c8f240b8b776 C23 [] [] jB
abbrev C24:=KW::C23
def mX: (List Int×List Aad×List aD×Int)->((List aP×Int)->Option R)->(((List aP)->Option R)×Unit)->(List aP×Int)->Option R:=λ(a,b,c,d) f (g,_) (h,i)=>cd (i<d) (bnd (fV h (List.length h) i) λ_=>bnd (idx h i) λj=>bnd (jB n j.Via) λl=>bnd (fV h (List.length h) i) λ_=>bnd (idx h i) λm=>f ((List.set h (Int.toNat i)<|aP.mk m.ID m.From m.To l m.Left m.Right),(wr<|i+1)))<|g h
def AA:=oH mX
def VW: Lc 21 0 0:=bL 0xd0c47edc8c264f6a198abc067415b6b1db53d6277efc4da564ac4675009d6d99524a0 C24 [] [] @mX
def mW: (List Int×List Aad×List aP×Int)->((List aD×Int)->Option R)->(((List aD)->Option R)×Unit)->(List aD×Int)->Option R:=λ(a,b,c,d) f (g,_) (h,i)=>cd (i<d) (bnd (fV h (List.length h) i) λ_=>bnd (idx h i) λj=>bnd (gS n j.Parts) λl=>bnd (fV h (List.length h) i) λ_=>bnd (idx h i) λm=>f ((List.set h (Int.toNat i)<|aD.mk m.ID m.Kind m.Class m.Name l),(wr<|i+1)))<|g h
def Wv:=oH mW
def VV: Lc 21 0 1:=bL 0x9aa5c697e26667a4b1af97fe1a1a5c8b6dd6b81f970b40f6ae46ff475ba8e6a5ba0afdb6 C24 [] [] @mW
def FC: Nat->aK->Option aK
 | 0,_=>none
 | n+1,a=>bnd (pX n a.Plan.Nodes) λb=>bnd (mS n a.Plan.Arcs) λc=>bnd (gS n a.Plan.Faces) λd=>bnd (jY n a.Features) λf=>bnd (AA n (d,b,f,(ln c)) (c,0)) λg=>bnd (Wv n (d,b,g,(ln f)) (f,0)) λh=>some<|aK.mk (aN.mk b g d) h
def aCh: Kn:=bJ 21 0x162b911d9e29 C24 [⟨0,[VW]⟩,⟨1,[VV]⟩] [] FC
abbrev C25:=aCh::C24
def jL(n:Nat): (List Aad×Int)->((List Int×Int)->Option R)->(((List Int)->Option R)×Unit)->(List Int×Int)->Option R:=λ(a,b) c (d,_) (f,g)=>cd (g<b) (bnd (idx a g) λh=>bnd (app f [h.ID]) λi=>c (i,(wr<|g+1)))<|d f
def Th:=oH jL
def Mo: Lc 141 0 0:=bL 0x244f47def571eb5e1381f3067c816759c9bf4d06ae711a0c31ea6e2a7136f98e C25 [] [] @jL
def jK(n:Nat): (List aP×Int)->((List Int×Int)->Option R)->(((List Int)->Option R)×Unit)->(List Int×Int)->Option R:=λ(a,b) c (d,_) (f,g)=>cd (g<b) (bnd (idx a g) λh=>bnd (app f [h.ID]) λi=>c (i,(wr<|g+1)))<|d f
def Tg:=oH jK
def Mn: Lc 141 0 1:=bL 0x204ac82a52e68eae2e8508884ac4613677bf44cf08e57b4048e6c16501294ff5 C25 [] [] @jK
def rJ: Nat->aN->Option (List Int×List Int)
 | 0,_=>none
 | n+1,a=>bnd (Th n (a.Nodes,(ln a.Nodes)) ([],0)) λb=>bnd (Tg n (a.Arcs,(ln a.Arcs)) ([],0)) λc=>some (b,c)
def BO: Kn:=bJ 141 0xbc008652d0e59fe77aee C25 [⟨0,[Mo]⟩,⟨1,[Mn]⟩] [] rJ
abbrev C26:=BO::C25
def Tp: Lc 142 0 0:=bL 0x1d30b0d921e8012 C26 [] [] @lE
def kM: Nat->(List Int)->Option Bool
 | 0,_=>none
 | n+1,a=>bnd2 (Ov n a 1) (λ_=>some false) λb=>bnd (some b) λ_=>some true
def OU: Kn:=bJ 142 0x2b9ed4 C26 [⟨0,[Tp]⟩] [] kM
abbrev C27:=OU::C26
def rH: Nat->Int->Option Bool
 | 0,_=>none
 | n+1,a=>cd (a<1) (some true)<|cd (a > 1073741824) (some true)<|some false
def BJ: Kn:=bJ 160 0xade C27 [] [] rH
abbrev C28:=BJ::C27
def nC: (List Int×Int)->(Int->Option R)->((Int->Option R)×(Unit->Option R)×Unit)->Int->Option R:=λ(a,b) c (d,f,_) g=>cd (g<b) (bnd (idx a g) λh=>bnd (rH n h) λi=>cnd i (d g)<|c<|wr<|g+1)<|f ()
def OQ:=oA nC
def BK: Lc 108 0 0:=bL 0x9b784b7cbf480233f54441e C28 [] [] @nC
def xK: (List Int)->((Int->Option R)×Unit)->Unit->Option R:=λa (b,_) _=>bnd2 (OQ n (a,(ln a)) 0) (λc=>b c) λd=>bnd (some d) λ_=>b (-1)
def OR:=qM xK
def BM: Ic:=cG 108 0 2 0x9ff134d5ba188b919851 C28 [⟨0,[BK]⟩] [] @xK
def xL: (List Int)->((Bool->Option R)×Unit)->Unit->Option R:=λa (b,_) _=>bnd (OR n a) λc=>cd (c>=0) (b true)<|b false
def OS:=qM xL
def BN: Ic:=cG 83 0 2 0x74b3fd969d92a111ab7b2b5 C28 [] [BM] @xL
def mQ: Nat->(List Int)->Option Bool
 | 0,_=>none
 | n+1,a=>bnd (OS n a) λb=>cnd b (some false)<|some true
def UY: Kn:=bJ 143 0x2b9ed4 C28 [] [BN] mQ
abbrev C29:=UY::C28
def lP(n:Nat): Aaa->((Bool->Option R)×Unit)->Unit->Option R:=λa (b,_) _=>cd (a.X<(-1048576)) (b true)<|cd (a.X > 1048576) (b true)<|cd (a.Y<(-1048576)) (b true)<|cd (a.Y > 1048576) (b true)<|b false
def pI:=eV lP
def Tf: Lc 161 0 0:=bH 0x475c91c2e C29 [] [] @lP
def xJ: Nat->Aaa->Option Bool
 | 0,_=>none
 | n+1,a=>bnd (pI n a) λb=>cnd b (some true)<|some false
def OG: Kn:=bJ 161 0x48fed3 C29 [⟨0,[Tf]⟩] [] xJ
abbrev C30:=OG::C29
def OH: Lc 161 0 0:=bH 0xbbfc19514d2b74b8534d67c C30 [] [] @lP
def Ex: Aaa->((Bool->Option R)×Unit)->Unit->Option R:=λa (b,_) _=>bnd (pI n a) λc=>cnd c (b true)<|b false
def x9:=qM Ex
def OP: Ic:=cG 161 0 1 0x1b820f91a332572425fbb C30 [⟨0,[OH]⟩] [] @Ex
def rG: (List Aad×Int)->(Int->Option R)->(((Aad×Aaa)->Option R)×(Unit->Option R)×Unit)->Int->Option R:=λ(a,b) c (d,f,_) g=>cd (g<b) (bnd (idx a g) λh=>bnd (x9 n h.At) λi=>cnd i (d (h,h.At))<|c<|wr<|g+1)<|f ()
def w9:=oA rG
def OK: Lc 144 0 0:=bL 0x45d2e1d382c40639e586d0c35d4784e4412511aab2db290934beac55fce3f C30 [] [OP] @rG
def rA: (List Aaa×Int)->(Int->Option R)->((Int->Option R)×(Unit->Option R)×Unit)->Int->Option R:=λ(a,b) c (d,f,_) g=>cd (g<b) (bnd (idx a g) λh=>bnd (xJ n h) λi=>cnd i (d g)<|c<|wr<|g+1)<|f ()
def w7:=oA rA
def OI: Lc 107 0 0:=bL 0xea9098969dec1374c524f46de5 C30 [] [] @rA
def Ev: (List Aaa)->((Int->Option R)×Unit)->Unit->Option R:=λa (b,_) _=>bnd2 (w7 n (a,(ln a)) 0) (λc=>b c) λd=>bnd (some d) λ_=>b (-1)
def x7:=qM Ev
def ON: Ic:=cG 107 0 2 0x74c30e647b019b40f92dec2 C30 [⟨0,[OI]⟩] [] @Ev
def Ew: (List Aaa)->((Bool->Option R)×Unit)->Unit->Option R:=λa (b,_) _=>bnd (x7 n a) λc=>cd (c>=0) (b true)<|b false
def x8:=qM Ew
def OO: Ic:=cG 81 0 2 0x74c337a1a76d5784b1dddb3 C30 [] [ON] @Ew
def rE: (List aP×Int)->(Int->Option R)->((aP->Option R)×(Unit->Option R)×Unit)->Int->Option R:=λ(a,b) c (d,f,_) g=>cd (g<b) (bnd (idx a g) λh=>bnd (x8 n h.Via) λi=>cnd i (d h)<|c<|wr<|g+1)<|f ()
def w8:=oA rE
def OJ: Lc 144 0 1:=bL 0x8416461d7248186da5ce7bcdbaf0882e4fbdce5d431955 C30 [] [OO] @rE
def Ob: Nat->aN->Option Bool
 | 0,_=>none
 | n+1,a=>bnd2 (w9 n (a.Nodes,(ln a.Nodes)) 0) (λ_=>some false) λb=>bnd (some b) λ_=>bnd2 (w8 n (a.Arcs,(ln a.Arcs)) 0) (λ_=>some false) λc=>bnd (some c) λ_=>some true
def P7: Kn:=bJ 144 0x2ba04b C30 [⟨0,[OK]⟩,⟨1,[OJ]⟩] [] Ob
abbrev C31:=P7::C30
def jJ(n:Nat): (List Int×Int×Int)->(Int->Option R)->((Int->Option R)×(Unit->Option R)×Unit)->Int->Option R:=λ(a,b,c) d (f,g,_) h=>cd (h<c) (bnd (idx a h) λi=>cnd (b==i) (f h)<|d<|wr<|h+1)<|g ()
def Sq:=oA jJ
def Mi: Lc 140 0 0:=bL 0x9b784b7cbcb552f2d7a0582 C31 [] [] @jJ
def kY: Nat->(List Int)->Int->Option Int
 | 0,_,_=>none
 | n+1,a,b=>bnd2 (Sq n (a,b,(ln a)) 0) (λc=>some c) λd=>bnd (some d) λ_=>some (-1)
def BB: Kn:=bJ 140 0x329b07 C31 [⟨0,[Mi]⟩] [] kY
abbrev C32:=BB::C31
def dS: Nat->(List Int)->Int->Option Bool
 | 0,_,_=>none
 | n+1,a,b=>bnd (kY n a b) λc=>cd (c>=0) (some true)<|some false
def Ml: Kn:=bJ 116 0x2b9f70 C32 [] [] dS
abbrev C33:=Ml::C32
def lS(n:Nat): (Aad×List Aad×Int)->(Int->Option R)->((Aad->Option R)×(Unit->Option R)×Unit)->Int->Option R:=λ(a,b,c) d (f,g,_) h=>cd (h<c) (bnd (idx b h) λi=>cd (a.At=i.At) (f i)<|d<|wr<|h+1)<|g ()
def II:=oA lS
def Tm: Lc 145 0 1:=bL 0xbc9d5bd98dcd09f717f2c2c7ba712249d1876647dc09a59018dbead9adaa24bfef0452d8204 C33 [] [] @lS
def lT: (aN×List Aad×Int)->(Int->Option R)->(((Aad×Aad)->Option R)×(Unit->Option R)×Unit)->Int->Option R:=λ(a,b,c) d (f,g,_) h=>cd (h<c) (bnd (idx b h) λi=>bnd (cut a.Nodes 0 h) λj=>bnd2 (II n (i,j,(ln j)) 0) (λl=>f (i,l)) λm=>bnd (some m) λ_=>d<|wr<|h+1)<|g ()
end
end
section
variable {R:Type}(n:Nat)
noncomputable section
def IJ:=oA lT
def Tn: Lc 145 0 0:=bL 0xb3577e5be830a8aff9b0e70b242f7021c7896cfd8b3d25758838 C33 [⟨0,[cs Tm]⟩] [] @lT
def uT: (aP×List Int)->((Bool->Option R)×Unit)->Unit->Option R:=λ(a,b) (c,_) _=>bnd (dS n b a.From) λd=>cnd d (bnd (dS n b a.To) λf=>cnd f (c false)<|c true)<|c true
def Bd:=eV uT
def Tj: Lc 145 0 3:=bH 0xc0fd59971767ae94894756c8a0b2f2a08586701b08036d C33 [] [] @uT
def lR: (List Int×List aP×Int)->(Int->Option R)->((aP->Option R)×(Unit->Option R)×Unit)->Int->Option R:=λ(a,b,c) d (f,g,_) h=>cd (h<c) (bnd (idx b h) λi=>bnd (Bd n (i,a)) λj=>cnd j (f i)<|d<|wr<|h+1)<|g ()
def IH:=oA lR
def Tl: Lc 145 0 2:=bL 0x9b805e7c92d5d253ab57a05cd80cb27c1f6f370115229eb68 C33 [⟨0,[cs Tj]⟩] [] @lR
def uS: (aN×Int)->((Bool->Option R)×Unit)->Unit->Option R:=λ(a,b) (c,_) _=>cnd (b != 0) (bnd (dS n a.Faces b) λd=>cnd d (c false)<|c true)<|c false
def pJ:=eV uS
def Ti: Lc 145 0 6:=bH 0x4dbb96e0833adf9c6e697291270bc7a2416e2188ef22d2f9f1a3e39601 C33 [] [] @uS
def lQ: (aN×List aP×Int)->(Int->Option R)->((aP->Option R)×(Unit->Option R)×Unit)->Int->Option R:=λ(a,b,c) d (f,g,_) h=>cd (h<c) (bnd (idx b h) λi=>bnd (Lb<|Nat.ble 3 n) λ_=>bnd (pJ n (a,i.Left)) λj=>cnd j (f i)<|bnd (pJ n (a,i.Right)) λl=>cnd l (f i)<|d<|wr<|h+1)<|g ()
def IG:=oA lQ
def Tk: Lc 145 0 4:=bL 0x11ec73734aaa5fb5b8bbb105d918f9f208ee0ef394d39f5a9c5c455e63f63787 C33 [⟨1,[cs Ti]⟩] [] @lQ
def xM: Nat->aN->(List Int)->Option Int
 | 0,_,_=>none
 | n+1,a,b=>bnd2 (IJ n (a,a.Nodes,(ln a.Nodes)) 0) (λ_=>some 8) λc=>bnd (some c) λ_=>bnd2 (IH n (b,a.Arcs,(ln a.Arcs)) 0) (λ_=>some 7) λd=>bnd (some d) λ_=>bnd2 (IG n (a,a.Arcs,(ln a.Arcs)) 0) (λ_=>some 12) λf=>bnd (some f) λ_=>some 0
def OT: Kn:=bJ 145 0x46c945f1b C33 [⟨0,[Tn]⟩,⟨2,[Tl]⟩,⟨4,[Tk]⟩] [] xM
abbrev C34:=OT::C33
def aSn: Kn:=aOK 38 1 2 ⟨_,_,_,rfl,by decide,by decide⟩ (λn p=>clF n p) (λp=>p) λn p r h=>by obtain⟨m,h1,h2,h3⟩:=aON h;subst h2;exact⟨m,h1,rfl,h3,rfl,λe=>by cases (e:_=[]);rfl⟩
abbrev C35:=aSn::C34
def Dt: (Int×List aP×Int)->(Int->Option R)->(((Int×Int×Int×List Aaa×Int×Int×Int×Int×Int×List Aaa×Int×Int)->Option R)×(Unit->Option R)×Unit)->Int->Option R:=λ(a,b,c) d (f,g,_) h=>cd (h<c) (bnd (idx b h) λi=>cnd (i.ID==a) (bnd (clF n i.Via) λj=>f (i.ID,i.From,i.To,j,i.Left,i.Right,i.ID,i.From,i.To,j,i.Left,i.Right))<|d<|wr<|h+1)<|g ()
def aDs:=oA Dt
def Q3: Lc 139 0 0:=bL 0x85eb1249312c6ce3150acd9dd6f0a3b54393fce12319de81989581ac7715e7e71851e7ab40cea6d0b0f5a526286e669ee9 C35 [] [] @Dt
def Oh: Nat->aN->Int->Option (aP×Bool)
 | 0,_,_=>none
 | n+1,a,b=>bnd2 (aDs n (b,a.Arcs,(ln a.Arcs)) 0) (λc=>some ((aP.mk c.1 c.2.1 c.2.2.1 c.2.2.2.1 c.2.2.2.2.1 c.2.2.2.2.2.1),true)) λd=>bnd (some d) λ_=>some ((aP.mk 0 0 0 [] 0 0),false)
def aF0: Kn:=bJ 139 0x2957b7cba C35 [⟨0,[Q3]⟩] [] Oh
abbrev C36:=aF0::C35
def xO(n:Nat): (Int×List Aad×Int)->(Int->Option R)->(((Aad×Aad)->Option R)×(Unit->Option R)×Unit)->Int->Option R:=λ(a,b,c) d (f,g,_) h=>cd (h<c) (bnd (idx b h) λi=>cnd (i.ID==a) (f (i,i))<|d<|wr<|h+1)<|g ()
def aBp:=oA xO
def A0: Lc 138 0 0:=bL 0xc227dfcd0810c58e1304b5aa39acc809c5ba66a853e98cd4645e320b11e944868bb79 C36 [] [] @xO
def jE: Nat->aN->Int->Option (Aad×Bool)
 | 0,_,_=>none
 | n+1,a,b=>bnd2 (aBp n (b,a.Nodes,(ln a.Nodes)) 0) (λc=>some (c.1,true)) λd=>bnd (some d) λ_=>some ((Aad.mk 0<|Aaa.mk 0 0),false)
def aDr: Kn:=bJ 138 0x2958f4b68 C36 [⟨0,[A0]⟩] [] jE
abbrev C37:=aDr::C36
def HK: Nat->(List Aaa)->Int->Option (List Aaa)
 | 0,_,_=>none
 | n+1,_,a=>cd (a<0) none none
def Sr: Kn:=bJ 179 0x1bcc626f33ca C37 [] [] HK
abbrev C38:=Sr::C37
def gM(n:Nat): ((List<|List Aaa)×Int)->((Int×Int)->Option R)->((Int->Option R)×Unit)->(Int×Int)->Option R:=λ(a,b) c (d,_) (f,g)=>cd (g<b) (bnd (idx a g) λh=>cd ((wr<|f+(ln h))<0) none<|c ((wr<|f+(ln h)),(wr<|g+1)))<|d f
def Iw:=oH gM
def Dl: Lc 157 0 0:=bL 0x5be1d71e4acf30c3fc2ad46c17c493c7 C38 [] [] @gM
def mL(n:Nat): Int->((Unit->Option R)×((List Aaa×(Nat×Nat))->Option R)×Unit)->Unit->Option R:=λa (b,c,_) _=>cd (a<0) none<|cd ((wr<|a-0) > 0) (bnd (rep (Aaa.mk 0 0) (wr<|a-0)<|wr<|a-0) λd=>cnd (List.isEmpty d) (b ())<|bnd (sub d (0,List.length d) 0 0) λf=>c (d,f))<|b ()
def Ix:=FM mL
def Dm: Ic:=cG 179 0 2 0x1816ed180c58bfb4a2a4740f209bb357db68df073 C38 [] [] @mL
def mK(n:Nat): ((List<|List Aaa)×Int)->(Int->Option R)->((Unit->Option R)×Unit)->Int->Option R:=λ(a,b) c (d,_) f=>cd (f<b) (bnd (idx a f) λg=>cnd (List.isEmpty g) (c<|wr<|f+1)<|bnd (app ([]:List Aaa) g) λ_=>none)<|d ()
def Iv:=oH mK
def Dk: Lc 157 0 1:=bL 0x20fd40f2e9ceb0d29d0b7b9354640dc485144e C38 [] [] @mK
def gL(n:Nat): ((List<|List Aaa)×Int)->((List Aaa×(Nat×Nat)×Int)->Option R)->(((List Aaa×(Nat×Nat))->Option R)×Unit)->(List Aaa×(Nat×Nat)×Int)->Option R:=λ(a,b) c (d,_) (f,g,h)=>cd (h<b) (bnd (idx a h) λi=>bnd (b9 f g i) λj=>c (j,(g.1,g.2+List.length i),(wr<|h+1)))<|d (f,g)
def Iu:=oH gL
def Dj: Lc 157 0 1:=bL 0xdd694be86c30128a61f2b23da5d00062e9f534fa44644fb31 C38 [] [] @gL
def lL: Nat->(List<|List Aaa)->Option (List Aaa)
 | 0,_=>none
 | n+1,a=>bnd (Iw n (a,(ln a)) (0,0)) λb=>bnd2 (Ix n b) (λ_=>bnd (Iv n (a,(ln a)) 0) λ_=>some []) λc=>bnd (some c) λd=>bnd (Iu n (a,(ln a)) (d.1,d.2,0)) λf=>some<|win f.1<|some f.2
def Mm: Kn:=bJ 157 0x144c8f0e3188144 C38 [⟨0,[Dl]⟩,⟨1,[Dk,Dj]⟩] [Dm] lL
abbrev C39:=Mm::C38
def cP(n:Nat): Unit->((Unit->Option R)×Unit)->Unit->Option R:=λ_ (a,_) _=>a ()
def cQ:=eV cP
def z8: Lc 133 0 0:=bH 0x5d6eea49b904a5094871217658093d089df C39 [] [] @cP
def z7: Lc 133 0 0:=bH 0x7ff75ba780f65bd033985d5503c0a2fb C39 [] [] @cP
def z6: Lc 133 0 0:=bH 0x7ff75ba77861802b4e65f52524733455 C39 [] [] @cP
def z5: Lc 133 0 0:=bH 0xeffbeea358732f4e500b3ffc2d C39 [] [] @cP
def wK: Nat->aN->Int->Option (List Aaa×Int)
 | 0,_,_=>none
 | n+1,a,b=>bnd (Oh n a b) λc=>cnd c.2 (bnd (jE n a c.1.From) λd=>cnd d.2 (bnd (jE n a c.1.To) λf=>cnd f.2 (bnd (cQ n ()) λ_=>bnd (lL n [[d.1.At],c.1.Via,[f.1.At]]) λg=>some (g,0))<|bnd (cQ n ()) λ_=>some ([],7))<|bnd (jE n a c.1.To) λh=>cnd h.2 (bnd (cQ n ()) λ_=>some ([],7))<|bnd (cQ n ()) λ_=>some ([],7))<|bnd (jE n a c.1.From) λi=>cnd i.2 (bnd (jE n a c.1.To) λj=>cnd j.2 (bnd (cQ n ()) λ_=>some ([],7))<|bnd (cQ n ()) λ_=>some ([],7))<|bnd (jE n a c.1.To) λl=>cnd l.2 (bnd (cQ n ()) λ_=>some ([],7))<|bnd (cQ n ()) λ_=>some ([],7)
def aDq: Kn:=bJ 133 0x49396293ab02ab880f72f338f1601 C39 [⟨0,[z8,z7,z6,z5]⟩] [] wK
abbrev C40:=aDq::C39
def xI(n:Nat): (aP×List Aaa×Int)->((Bool->Option R)×Unit)->Unit->Option R:=λ(a,b,c) (d,_) _=>cnd (c != 0) (d true)<|cnd (a.From==a.To) (cd ((ln b)<4) (d true)<|d false)<|d false
def Es:=eV xI
def BG: Lc 162 0 1:=bH 0x4dc318e4fa9f3bc316afda6b158e61e1fadfd112eeb47c4bbed7fe4edf C40 [] [] @xI
def nA(n:Nat): (List Aaa×aAI×Int)->((List bB×Int)->Option R)->(((List bB×List bB)->Option R)×((List bB)->Option R)×Unit)->(List bB×Int)->Option R:=λ(a,b,c) d (f,g,_) (h,i)=>cd (i<c) (bnd (idx a i) λj=>bnd (idx a<|wr<|i+1) λl=>cd (j=l) (f (h,[]))<|bnd (app h [(bB.mk b i)]) λm=>d (m,(wr<|i+1)))<|g h
def NT:=oA nA
def BH: Lc 162 0 2:=bL 0xa29c09c7fba26b09061d625bf94a12d4fb132dc449b5783e1f1d374ec3eb78afa3b2f54d437180bc184cf973e4755f205ad865d13fe975c4128e5f873316 C40 [] [] @nA
def nB: (aN×List aP×Int)->((List bB×Int)->Option R)->(((List bB×aP×List bB)->Option R)×((List bB×aP×List bB)->Option R)×((List bB)->Option R)×Unit)->(List bB×Int)->Option R:=λ(a,b,c) d (f,g,h,_) (i,j)=>cd (j<c) (bnd (idx b j) λl=>bnd (wK n a l.ID) λm=>bnd (Es n (l,m.1,m.2)) λo=>cnd o (f (i,l,[]))<|bnd2 (NT n (m.1,(aAI.mk l m.1),(wr<|(ln m.1)-1)) (i,0)) (λr=>g (r.1,l,r.2)) λs=>bnd (some s) λt=>d (t,(wr<|j+1)))<|h i
def NU:=lp3 nB
def BI: Lc 162 0 0:=bL 0x1c41b5c630c8b0765d3766ee54fdd3a92f63e78f50fcb89f43a828da32ff5607e5f93486aef652c894e43d644fae999a1a904ece3dceab491bd9b1d91a336213d9c2472e125 C40 [⟨0,[cs BG]⟩,⟨1,[cs BH]⟩] [] @nB
def Dr: Nat->aN->Option (List bB×Bool)
 | 0,_=>none
 | n+1,a=>bnd2 (NU n (a,a.Arcs,(ln a.Arcs)) ([],0)) (λb=>bnd (Lb true) λ_=>some (b.2.2,false)) λc=>bnd2 (some c) (λd=>bnd (Lb true) λ_=>some (d.2.2,false)) λf=>bnd (some f) λg=>bnd (Lb true) λ_=>some (g,true)
def UX: Kn:=bJ 162 0x349c2d0877b3c2c43600 C40 [⟨0,[BI]⟩] [] Dr
abbrev C41:=UX::C40
def dH: Nat->bB->Option (Aaa×Aaa)
 | 0,_=>none
 | n+1,a=>bnd (idx a.line.path a.at_) λb=>bnd (idx a.line.path<|wr<|a.at_+1) λc=>some (b,c)
def Td: Kn:=bJ 168 0x1e2ee37458c1 C41 [] [] dH
abbrev C42:=Td::C41
def gF: Nat->bB->Option Int
 | 0,_=>none
 | n+1,a=>bnd (dH n a) λb=>some<|BV b.1.X b.2.X
def Tb: Kn:=bJ 165 0x6a3108 C42 [] [] gF
abbrev C43:=Tb::C42
def fM: Nat->Int->Option Bool
 | 0,_=>none
 | n+1,a=>cnd (a != a) (some true)<|some false
def a9: Kn:=bJ 102 0xade C43 [] [] fM
abbrev C44:=a9::C43
def cJ: Nat->Int->Int->Option Int
 | 0,_,_=>none
 | n+1,a,b=>bnd (fM n a) λc=>cnd c (bnd (fM n b) λd=>cnd d (some 0)<|some (-1))<|bnd (fM n b) λf=>cnd f (some 1)<|cd (a<b) (some (-1))<|cd (a > b) (some 1)<|some 0
def LG: Kn:=bJ 71 0x401bbba96ac8 C44 [] [] cJ
abbrev C45:=LG::C44
def pH: Nat->bB->bB->Option Int
 | 0,_,_=>none
 | n+1,a,b=>bnd (gF n a) λc=>bnd (gF n b) λd=>bnd (cJ n c d) λf=>some f
def NV: Kn:=bJ 164 0x33b09d189372 C45 [] [] pH
abbrev C46:=NV::C45
def pG: Nat->bB->Option Int
 | 0,_=>none
 | n+1,a=>bnd (dH n a) λb=>some<|nF b.1.X b.2.X
def Te: Kn:=bJ 166 0x6a3108 C46 [] [] pG
abbrev C47:=Te::C46
def Pe(n:Nat): Aaa->((Bool->Option R)×Unit)->Unit->Option R:=λa (b,_) _=>cd (a.X<(-2097152)) (b true)<|cd (a.X > 2097152) (b true)<|cd (a.Y<(-2097152)) (b true)<|cd (a.Y > 2097152) (b true)<|b false
def JK:=eV Pe
def E6: Lc 183 0 1:=bH 0x192561d87214e93a2f9e987658e353544a126e C47 [] [] @Pe
def yB: (List Aaa×Int)->(Int->Option R)->((Aaa->Option R)×(Unit->Option R)×Unit)->Int->Option R:=λ(a,b) c (d,f,_) g=>cd (g<b) (bnd (idx a g) λh=>bnd (JK n h) λi=>cnd i (d h)<|c<|wr<|g+1)<|f ()
def aBL:=oA yB
def E7: Lc 183 0 0:=bL 0x52eab0c75e080df642e3645dfced7 C47 [⟨0,[cs E6]⟩] [] @yB
def oD: Nat->(List Aaa)->Option Bool
 | 0,_=>none
 | n+1,a=>bnd2 (aBL n (a,(ln a)) 0) (λ_=>some false) λb=>bnd (some b) λ_=>some true
def aDV: Kn:=bJ 183 0x1fd7e2d0a C47 [⟨0,[E7]⟩] [] oD
abbrev C48:=aDV::C47
def gP: Nat->Aaa->Aaa->Aaa->Option Int
 | 0,_,_,_=>none
 | n+1,a,b,c=>some<|wr<|(wr<|(wr<|b.X-a.X)*(wr<|c.Y-a.Y))-(wr<|(wr<|b.Y-a.Y)*(wr<|c.X-a.X))
def aBK: Kn:=bJ 184 0x6b7a3b C48 [] [] gP
abbrev C49:=aBK::C48
def JM: (Aaa×Aaa×Aaa)->((Bool->Option R)×Unit)->Unit->Option R:=λ(a,b,c) (d,_) _=>bnd (oD n [a,b,c]) λf=>cnd f (bnd (gP n a b c) λg=>cnd (g != 0) (d true)<|d false)<|d true
def E9:=eV JM
def aBP: Lc 169 0 0:=bH 0x5006400323f243089b3b2751992caee0eac8ad00a0c9096a5044823 C49 [] [] @JM
def JL(n:Nat): (Aaa×Aaa×Aaa)->((Bool->Option R)×Unit)->Unit->Option R:=λ(a,b,c) (d,_) _=>cd ((BV a.X b.X)<=c.X) (cd (c.X<=(nF a.X b.X)) (cd ((BV a.Y b.Y)<=c.Y) (cd (c.Y<=(nF a.Y b.Y)) (d true)<|d false)<|d false)<|d false)<|d false
def E8:=eV JL
def aBO: Lc 169 0 1:=bH 0x1d045a8e1335d0f3b114360d2f1863787cc C49 [] [] @JL
def sW: Nat->Aaa->Aaa->Aaa->Option Bool
 | 0,_,_,_=>none
 | n+1,a,b,c=>bnd (E9 n (a,b,c)) λd=>cnd d (some false)<|bnd (E8 n (a,b,c)) λf=>cnd f (some true)<|some false
def aJh: Kn:=bJ 169 0x779262 C49 [⟨0,[aBP]⟩,⟨1,[aBO]⟩] [] sW
abbrev C50:=aJh::C49
def CA: Nat->Aaa->Aaa->Aaa->Option Int
 | 0,_,_,_=>none
 | n+1,a,b,c=>bnd (oD n [a,b,c]) λd=>cnd d (bnd (gP n a b c) λf=>some f)<|some 0
def aBN: Kn:=bJ 194 0x29d8111b636301b C50 [] [] CA
abbrev C51:=aBN::C50
def jG: Nat->Aaa->Aaa->Aaa->Option Int
 | 0,_,_,_=>none
 | n+1,a,b,c=>bnd (CA n a b c) λd=>cd (d > 0) (some 1)<|cd (d<0) (some (-1))<|some 0
def aDW: Kn:=bJ 189 0x6b7a3b C51 [] [] jG
abbrev C52:=aDW::C51
def Fj(n:Nat): (Aaa×Aaa)->((Bool->Option R)×Unit)->Unit->Option R:=λ(a,b) (c,_) _=>cd (a.X<b.X) (c true)<|cnd (a.X==b.X) (cd (a.Y<b.Y) (c true)<|c false)<|c false
def Pf:=eV Fj
def PT: Lc 195 0 0:=bH 0x3e19965ec C52 [] [] @Fj
def oE: Nat->Aaa->Aaa->Option Bool
 | 0,_,_=>none
 | n+1,a,b=>bnd (Pf n (a,b)) λc=>cnd c (some true)<|some false
def R1: Kn:=bJ 195 0x2b80b6b6e C52 [⟨0,[PT]⟩] [] oE
abbrev C53:=R1::C52
def sA: (Aaa×Aaa)->(((Aaa×Aaa)->Option R)×Unit)->Unit->Option R:=λ(a,b) (c,_) _=>bnd (oE n b a) λd=>cnd d (c (b,a))<|c (a,b)
def yA:=eV sA
def PS: Lc 190 0 0:=bH 0x4e2d51e874196c7117d4d1f9b82975aa2109e2f3696 C53 [] [] @sA
def PR: Lc 190 0 1:=bH 0xaee04577dd62333fe1e3c4ddcd33bf9b9466feaf51de89571 C53 [] [] @sA
def Fi: (Aaa×Aaa)->((Aaa->Option R)×Unit)->Unit->Option R:=λ(a,b) (c,_) _=>bnd (oE n b a) λd=>cnd d (c a)<|c b
def Pc:=eV Fi
def PQ: Lc 190 0 2:=bH 0x135b9843062633056b8318760d69a21e058477c39d74b1f88e6baed3c951f48e588a1c C53 [] [] @Fi
def Fh: (Aaa×Aaa)->((Aaa->Option R)×Unit)->Unit->Option R:=λ(a,b) (c,_) _=>bnd (oE n a b) λd=>cnd d (c a)<|c b
def Pb:=eV Fh
def PO: Lc 190 0 3:=bH 0x35e3a80a43dcb5f8a650dfc02c63c375f805eec493023646fd4ec6514905630080595003 C53 [] [] @Fh
def Pd: Nat->Aaa->Aaa->Aaa->Aaa->Option Int
 | 0,_,_,_,_=>none
 | n+1,a,b,c,d=>bnd (yA n (a,b)) λf=>bnd (yA n (c,d)) λg=>bnd (Pc n (g.1,f.1)) λh=>bnd (Pb n (g.2,f.2)) λi=>cd (h=i) (some 1)<|bnd (oE n h i) λj=>cnd j (some 2)<|some 0
def Q9: Kn:=bJ 190 0x13b13134e9e6a97 C53 [⟨0,[PS]⟩,⟨1,[PR]⟩,⟨2,[PQ]⟩,⟨3,[PO]⟩] [] Pd
abbrev C54:=Q9::C53
def Ph: (Aaa×Aaa×Aaa×Aaa)->((Bool->Option R)×Unit)->Unit->Option R:=λ(a,b,c,d) (f,_) _=>bnd (jG n a b c) λg=>cnd (g==0) (bnd (jG n a b d) λh=>cnd (h==0) (f true)<|f false)<|f false
def JO:=eV Ph
def F1: Lc 182 0 0:=bH 0x335cf2b810370246865a57a69672731d17c8e5d8f25c296d99b43f5 C54 [] [] @Ph
def Pg: (Aaa×Aaa×Aaa×Aaa)->((Bool->Option R)×Unit)->Unit->Option R:=λ(a,b,c,d) (f,_) _=>bnd (jG n a b c) λg=>bnd (jG n a b d) λh=>cd ((wr<|g*h)<=0) (bnd (jG n c d a) λi=>bnd (jG n c d b) λj=>cd ((wr<|i*j)<=0) (f true)<|f false)<|f false
def JN:=eV Pg
def F0: Lc 182 0 1:=bH 0x2130955bf44a3c0c4e2885d5e36616f95bd907c91 C54 [] [] @Pg
def Se: Nat->Aaa->Aaa->Aaa->Aaa->Option Int
 | 0,_,_,_,_=>none
 | n+1,a,b,c,d=>bnd (oD n [a,b,c,d]) λf=>cnd f (cd (a=b) (bnd (sW n c d a) λg=>cnd g (some 1)<|some 0)<|cd (c=d) (bnd (sW n a b c) λh=>cnd h (some 1)<|some 0)<|bnd (JO n (a,b,c,d)) λi=>cnd i (bnd (Pd n a b c d) λj=>some j)<|bnd (JN n (a,b,c,d)) λl=>cnd l (some 1)<|some 0)<|some 0
def aDX: Kn:=bJ 182 0xa801ad057deb55173a01 C54 [⟨0,[F1]⟩,⟨1,[F0]⟩] [] Se
abbrev C55:=aDX::C54
def iT: Nat->bB->Option Bool
 | 0,_=>none
 | n+1,a=>cnd (a.at_==0) (some true)<|some false
def Nw: Kn:=bJ 170 0x49030f C55 [] [] iT
abbrev C56:=Nw::C55
def gH: Nat->bB->Option Bool
 | 0,_=>none
 | n+1,a=>cnd (a.at_==(wr<|(ln a.line.path)-2)) (some true)<|some false
def Tc: Kn:=bJ 171 0x49030f C56 [] [] gH
abbrev C57:=Tc::C56
def kL(n:Nat): (bB×bB)->(((bB×bB)->Option R)×Unit)->Unit->Option R:=λ(a,b) (c,_) _=>cd (a.at_ > b.at_) (c (b,a))<|c (a,b)
def nE:=eV kL
def Oe: Lc 167 0 0:=bH 0x223817d6437b02298eec9b345eb576c7d7abb2467d3b C57 [] [] @kL
def kK: (bB×bB)->((Bool->Option R)×Unit)->Unit->Option R:=λ(a,b) (c,_) _=>cnd ((wr<|a.at_+1)==b.at_) (c true)<|cnd (a.line.Arc.From==a.line.Arc.To) (bnd (iT n a) λd=>cnd d (bnd (gH n b) λf=>cnd f (c true)<|c false)<|c false)<|c false
def nD:=eV kK
def Od: Lc 167 0 1:=bH 0x2eda96664444d9e8af60dc7353530b10acadcbc71 C57 [] [] @kK
def kJ: (bB×Aaa×Aaa×Aaa×Aaa×Int×Int×Int)->((Bool->Option R)×Unit)->Unit->Option R:=λ(a,b,c,d,f,g,h,i) (j,_) _=>cnd (i==a.line.Arc.From) (bnd (sW n b c<|Aaa.mk g h) λl=>cnd l (bnd (sW n d f<|Aaa.mk g h) λm=>cnd m (j true)<|j false)<|j false)<|cnd (i==a.line.Arc.To) (bnd (sW n b c<|Aaa.mk g h) λo=>cnd o (bnd (sW n d f<|Aaa.mk g h) λr=>cnd r (j true)<|j false)<|j false)<|j false
def fT:=eV kJ
def Oc: Lc 167 0 3:=bH 0x4a77ceb0702811cf26e715436c1396c459f047c708d8cbcd2263161143bd7c8ffa72d049d13a214a3d61df2380e5358e73a90635 C57 [] [] @kJ
def UZ: Nat->bB->bB->(List<|Int×Aaa)->Option Bool
 | 0,_,_,_=>none
 | n+1,a,b,c=>bnd (dH n a) λd=>bnd (dH n b) λf=>bnd (Se n d.1 d.2 f.1 f.2) λg=>cnd (a.line.Arc.ID==b.line.Arc.ID) (bnd (nE n (a,b)) λh=>bnd (nD n (h.1,h.2)) λi=>cnd i (cnd (g==1) (some true)<|some false)<|cnd (g==0) (some true)<|some false)<|cnd (g != 1) (cnd (g==0) (some true)<|some false)<|bnd (Lb<|Nat.ble 3 n) λ_=>bnd (fT n (b,d.1,d.2,f.1,f.2,(Option.getD (bD c a.line.Arc.From)<|Aaa.mk 0 0).X,(Option.getD (bD c a.line.Arc.From)<|Aaa.mk 0 0).Y,a.line.Arc.From)) λj=>cnd j (some true)<|bnd (fT n (b,d.1,d.2,f.1,f.2,(Option.getD (bD c a.line.Arc.To)<|Aaa.mk 0 0).X,(Option.getD (bD c a.line.Arc.To)<|Aaa.mk 0 0).Y,a.line.Arc.To)) λl=>cnd l (some true)<|some false
def IK: Kn:=bJ 167 0x18d18a802f3958b508c31 C57 [⟨0,[Oe]⟩,⟨1,[Od]⟩,⟨3,[Oc]⟩] [] UZ
abbrev C58:=IK::C57
def qZ(n:Nat): (List Aad×Int)->(((List<|Int×Aaa)×Int)->Option R)->((((List<|Int×Aaa))->Option R)×Unit)->((List<|Int×Aaa)×Int)->Option R:=λ(a,b) c (d,_) (f,g)=>cd (g<b) (bnd (idx a g) λh=>c ((eI f h.ID h.At),(wr<|g+1)))<|d f
def w6:=oH qZ
def OD: Lc 146 0 0:=bL 0x7fb436b5466b46fa5434d1b2ed23dd106a18c5cf109c246a08e0 C58 [] [] @qZ
def NZ: Lc 167 0 0:=bH 0x2edc6ff38f36adccc4028f5788a055f9b2c089594 C58 [] [] @kL
def NY: Lc 167 0 1:=bH 0x2eda966645095162736518177a48df1da645a0cbd C58 [] [] @kK
def NX: Lc 167 0 3:=bH 0xb4a562f78d173189a55619f9debf778e9769c88e70d762c04702268cebbe11bf266b199b6676d112a9359898533cd4c7e0c4245ec1422d3f9091899a7 C58 [] [] @kJ
def Eu: ((List<|Int×Aaa)×bB×bB)->(((bB×bB×Aaa×Aaa×Aaa×Aaa×Bool)->Option R)×((Aaa×Aaa×Aaa×Aaa×Int×Int)->Option R)×Unit)->Unit->Option R:=λ(a,b,c) (d,f,_) _=>bnd (dH n b) λg=>bnd (dH n c) λh=>bnd (Se n g.1 g.2 h.1 h.2) λi=>cnd (b.line.Arc.ID==c.line.Arc.ID) (bnd (nE n (b,c)) λj=>bnd (nD n (j.1,j.2)) λl=>cnd l (cnd (i==1) (d (j.1,j.2,g.1,g.2,h.1,h.2,true))<|d (j.1,j.2,g.1,g.2,h.1,h.2,false))<|cnd (i==0) (d (j.1,j.2,g.1,g.2,h.1,h.2,true))<|d (j.1,j.2,g.1,g.2,h.1,h.2,false))<|cnd (i != 1) (cnd (i==0) (d (b,c,g.1,g.2,h.1,h.2,true))<|d (b,c,g.1,g.2,h.1,h.2,false))<|bnd (Lb<|Nat.ble 3 n) λ_=>bnd (fT n (c,g.1,g.2,h.1,h.2,(Option.getD (bD a b.line.Arc.From)<|Aaa.mk 0 0).X,(Option.getD (bD a b.line.Arc.From)<|Aaa.mk 0 0).Y,b.line.Arc.From)) λm=>cnd m (f (g.1,g.2,h.1,h.2,(Option.getD (bD a b.line.Arc.From)<|Aaa.mk 0 0).X,(Option.getD (bD a b.line.Arc.From)<|Aaa.mk 0 0).Y))<|bnd (fT n (c,g.1,g.2,h.1,h.2,(Option.getD (bD a b.line.Arc.To)<|Aaa.mk 0 0).X,(Option.getD (bD a b.line.Arc.To)<|Aaa.mk 0 0).Y,b.line.Arc.To)) λo=>cnd o (f (g.1,g.2,h.1,h.2,(Option.getD (bD a b.line.Arc.To)<|Aaa.mk 0 0).X,(Option.getD (bD a b.line.Arc.To)<|Aaa.mk 0 0).Y))<|d (b,c,g.1,g.2,h.1,h.2,false)
def Nz:=FM Eu
def OE: Ic:=cG 167 0 3 0x1b225025253975d6d63346b0c3aaddd8d25caa5ca28e6f908b82813541b7d33d6a5b4c36658ef8722c31df65dea4ef63b87f2fce C58 [⟨0,[NZ]⟩,⟨1,[NY]⟩,⟨3,[NX]⟩] [] @Eu
def qX: ((List<|Int×Aaa)×bB×List bB×Int)->(Int->Option R)->((Unit->Option R)×((bB×bB×bB×Aaa×Aaa×Aaa×Aaa)->Option R)×Unit)->Int->Option R:=λ(a,b,c,d) f (g,h,_) i=>cd (i<d) (bnd (idx c i) λj=>bnd (gF n j) λl=>bnd (pG n b) λm=>cd (l > m) (g ())<|bnd2 (Nz n (a,b,j)) (λo=>cnd o.2.2.2.2.2.2 (f<|wr<|i+1)<|h (j,o.1,o.2.1,o.2.2.1,o.2.2.2.1,o.2.2.2.2.1,o.2.2.2.2.2.1)) λr=>bnd (some r) λ_=>f<|wr<|i+1)<|g ()
def w5:=oA qX
def OB: Lc 146 0 2:=bL 0x1b041ade70dd0fe1fab4c9566bcf0ef8ffcb03aa5506a879b63c45e36bde9a1ea976e11bedae18742b40f97b03f5ea98706429859e36a8f09596923 C58 [] [OE] @qX
def Et: (bB×Aad×Aaa×Aaa)->((Bool->Option R)×Unit)->Unit->Option R:=λ(a,b,c,d) (f,_) _=>bnd (sW n c d b.At) λg=>cnd g (bnd (iT n a) λh=>cnd h (cnd (a.line.Arc.From==b.ID) (f false)<|bnd (gH n a) λi=>cnd i (cnd (a.line.Arc.To==b.ID) (f false)<|f true)<|f true)<|bnd (gH n a) λj=>cnd j (cnd (a.line.Arc.To==b.ID) (f false)<|f true)<|f true)<|f false
def Nx:=eV Et
def NW: Lc 146 0 4:=bH 0x5f64d8bc844273f6aa153f19471a9c16c11bfd52f7ef395b0d0157a1fa6186ba87b1e6c7bec04332ef7f27881747 C58 [] [] @Et
def qW: (bB×List Aad×Int)->(Int->Option R)->(((Aad×Aaa×Aaa)->Option R)×(Unit->Option R)×Unit)->Int->Option R:=λ(a,b,c) d (f,g,_) h=>cd (h<c) (bnd (idx b h) λi=>bnd (dH n a) λj=>bnd (Nx n (a,i,j.1,j.2)) λl=>cnd l (f (i,j.1,j.2))<|d<|wr<|h+1)<|g ()
def w4:=oA qW
def OA: Lc 146 0 3:=bL 0x2ee1342a0a60a6473ce0d907611cbf1e92dabc5ad489451a1af3858312c6c317618725eb655d0d061a8afe3eaa C58 [⟨0,[cs NW]⟩] [] @qW
def qY: (aN×(List<|Int×Aaa)×List bB×List bB×Int)->(Int->Option R)->(((bB×Aad×Aaa×Aaa)->Option R)×((bB×bB×bB×bB×Aaa×Aaa×Aaa×Aaa)->Option R)×(Unit->Option R)×Unit)->Int->Option R:=λ(a,b,c,d,f) g (h,i,j,_) l=>cd (l<f) (bnd (idx d l) λm=>bnd (cut c (wr<|l+1)<|ln c) λo=>bnd2 (w5 n (b,m,o,(ln o)) 0) (λ_=>bnd2 (w4 n (m,a.Nodes,(ln a.Nodes)) 0) (λr=>h (m,r.1,r.2.1,r.2.2)) λs=>bnd (some s) λ_=>g<|wr<|l+1) λt=>bnd (some t) λu=>i (m,u.1,u.2.1,u.2.2.1,u.2.2.2.1,u.2.2.2.2.1,u.2.2.2.2.2.1,u.2.2.2.2.2.2))<|j ()
def Ny:=lp3 qY
def OC: Lc 146 0 1:=bL 0xf19f2b9b7dc2ff316c1afe3849ba6e362ce1a62e71fe96f3b112eb78dcc5dec99764848e9dd914e8b8f6a9ce9780dac107feee04d1415ea3499f35cbb3de4bc2b4fa803dcfdaf C58 [⟨0,[cs OB]⟩,⟨1,[cs OA]⟩] [] @qY
def Oa: Nat->aN->Option Bool
 | 0,_=>none
 | n+1,a=>bnd (Dr n a) λb=>cnd b.2 (bnd (w6 n (a.Nodes,(ln a.Nodes)) ([],0)) λc=>bnd (prd n) λd=>bnd (Lb<|decide<|List.length b.1<=1000000) λ_=>bnd (mJ (λ(f g:bB)=>bnd (pH d f g) λh=>some h) b.1) λi=>bnd2 (Ny n (a,c,i,i,(ln i)) 0) (λ_=>some false) λj=>bnd2 (some j) (λ_=>some false) λl=>bnd (some l) λ_=>some true)<|some false
def P6: Kn:=bJ 146 0x1742083eafab C58 [⟨0,[OD]⟩,⟨1,[OC]⟩] [] Oa
abbrev C59:=P6::C58
def La(n:Nat): aN->((Bool->Option R)×Unit)->Unit->Option R:=λa (b,_) _=>cd ((ln a.Nodes) > 256) (b true)<|cd ((ln a.Arcs) > 256) (b true)<|cd ((ln a.Faces) > 64) (b true)<|b false
def Q0:=eV La
def VC: Lc 118 0 0:=bH 0x1ef97cc3660f2ea C59 [] [] @La
def uG(n:Nat): (List aP×Int)->(Int->Option R)->((aP->Option R)×(Unit->Option R)×Unit)->Int->Option R:=λ(a,b) c (d,f,_) g=>cd (g<b) (bnd (idx a g) λh=>cd ((ln h.Via) > 64) (d h)<|c<|wr<|g+1)<|f ()
def Q1:=oA uG
def VD: Lc 118 0 1:=bL 0x276adabccd1f418302f43bd73157effe6f00b3723 C59 [] [] @uG
def Kz: (aN×List Int×List Int)->((Bool->Option R)×Unit)->Unit->Option R:=λ(a,b,c) (d,_) _=>bnd (kM n b) λf=>cnd f (bnd (kM n c) λg=>cnd g (bnd (kM n a.Faces) λh=>cnd h (d false)<|d true)<|d true)<|d true
def P9:=eV Kz
def VB: Lc 118 0 2:=bH 0x213094ecca280713c973e70b7bffd304bb963f92d C59 [] [] @Kz
def Ky: (aN×List Int×List Int)->((Bool->Option R)×Unit)->Unit->Option R:=λ(a,b,c) (d,_) _=>bnd (mQ n b) λf=>cnd f (bnd (mQ n c) λg=>cnd g (bnd (mQ n a.Faces) λh=>cnd h (bnd (Ob n a) λi=>cnd i (d false)<|d true)<|d true)<|d true)<|d true
def P8:=eV Ky
def VA: Lc 118 0 3:=bH 0x1530b4dfbe817d7fc0909e116ea3e762482960 C59 [] [] @Ky
def Jg: Nat->aN->Option Int
 | 0,_=>none
 | n+1,a=>bnd (Q0 n a) λb=>cnd b (some 3)<|bnd2 (Q1 n (a.Arcs,(ln a.Arcs)) 0) (λ_=>some 3) λc=>bnd (some c) λ_=>bnd (rJ n a) λd=>bnd (P9 n (a,d.1,d.2)) λf=>cnd f (some 10)<|bnd (P8 n (a,d.1,d.2)) λg=>cnd g (some 2)<|bnd (xM n a d.1) λh=>cnd (h != 0) (some h)<|bnd (Oa n a) λi=>cnd i (some 0)<|some 11
def aBq: Kn:=bJ 118 0x329be2 C59 [⟨0,[VC]⟩,⟨1,[VD]⟩,⟨2,[VB]⟩,⟨3,[VA]⟩] [] Jg
abbrev C60:=aBq::C59
def Lf(n:Nat): (Aaa×Aaa)->((Bool->Option R)×Unit)->Unit->Option R:=λ(a,b) (c,_) _=>cd (b.Y<a.Y) (c true)<|cnd (b.Y==a.Y) (cd (b.X<a.X) (c true)<|c false)<|c false
def R0:=eV Lf
def VK: Lc 188 0 0:=bH 0x3e19965ec C60 [] [] @Lf
def gQ: Nat->Aaa->Aaa->Option Bool
 | 0,_,_=>none
 | n+1,a,b=>bnd (R0 n (a,b)) λc=>cnd c (some true)<|some false
def aBM: Kn:=bJ 188 0x2b80b6b6e C60 [⟨0,[VK]⟩] [] gQ
abbrev C61:=aBM::C60
def Pi: (Aaa×Aaa×Aaa)->((Bool->Option R)×Unit)->Unit->Option R:=λ(a,b,c) (d,_) _=>bnd (oD n [a,b,c]) λf=>cnd f (cd (b=a) (d true)<|cd (c=a) (d true)<|d false)<|d true
def JP:=eV Pi
def F2: Lc 178 0 0:=bH 0x5006400323f243089b3b2751992caee4cc3435b96f6bade8387e3a6 C61 [] [] @Pi
def Sf: Nat->Aaa->Aaa->Aaa->Option Bool
 | 0,_,_,_=>none
 | n+1,a,b,c=>bnd (JP n (a,b,c)) λd=>cnd d (some false)<|bnd (gQ n a b) λf=>cnd f (bnd (gQ n a c) λg=>cnd g (cd (true=true) (bnd (gP n a b c) λh=>cd (h > 0) (some true)<|some false)<|bnd (gQ n a c) λi=>cnd i (some true)<|some false)<|cd (true=false) (bnd (gP n a b c) λj=>cd (j > 0) (some true)<|some false)<|bnd (gQ n a c) λl=>cnd l (some true)<|some false)<|bnd (gQ n a c) λm=>cnd m (cd (false=true) (bnd (gP n a b c) λo=>cd (o > 0) (some true)<|some false)<|bnd (gQ n a c) λr=>cnd r (some true)<|some false)<|cd (false=false) (bnd (gP n a b c) λs=>cd (s > 0) (some true)<|some false)<|bnd (gQ n a c) λt=>cnd t (some true)<|some false
def aDY: Kn:=bJ 178 0x779262 C61 [⟨0,[F2]⟩] [] Sf
abbrev C62:=aDY::C61
def Ec(n:Nat): (aP×Int)->((Bool->Option R)×Unit)->Unit->Option R:=λ(a,b) (c,_) _=>cnd (a.From != b) (cnd (a.To != b) (c true)<|c false)<|c false
def o6:=eV Ec
def MO: Lc 129 0 1:=bH 0x27534d33f4e2fcf22cd4f82107cfb77d1a88b95eb62d5cdf86a664e695a8c88d69d39b4e13e C62 [] [] @Ec
def qS(n:Nat): (List Int×(List<|Int×Aaa)×Int×Aaa)->(((List Int×(List<|Int×Aaa))->Option R)×Unit)->Unit->Option R:=λ(a,b,c,d) (f,_) _=>bnd (app a [c]) λg=>f (g,(eI b c d))
def oJ:=qM qS
def MS: Ic:=cG 154 0 4 0xd2e66002919761751fe12e91b2e108143a6e2e52f7052c6ee3390b1da7a7aa30ba0d1f2d C62 [] [] @qS
def MR: Ic:=cG 154 0 4 0x521e911477f4e19f6458be256cfca8cc23b7c3aca758aadf3de2ed6453dddaa4c39b549929badf6e0 C62 [] [] @qS
def kW: (aN×Int×List aP×Int)->((List Int×(List<|Int×Aaa)×Int)->Option R)->(((List Int×(List<|Int×Aaa))->Option R)×Unit)->(List Int×(List<|Int×Aaa)×Int)->Option R:=λ(a,b,c,d) f (g,_) (h,i,j)=>cd (j<d) (bnd (idx c j) λl=>bnd (o6 n (l,b)) λm=>cnd m (f (h,i,(wr<|j+1)))<|bnd (wK n a l.ID) λo=>cnd (o.2 != 0) (f (h,i,(wr<|j+1)))<|cnd (l.From==b) (bnd (idx o.1 1) λr=>bnd (oJ n (h,i,l.ID,r)) λs=>cnd (l.To==b) (bnd (idx o.1<|wr<|(ln o.1)-2) λt=>bnd (oJ n (s.1,s.2,(wr<|0-l.ID),t)) λu=>f (u.1,u.2,(wr<|j+1)))<|f (s.1,s.2,(wr<|j+1)))<|cnd (l.To==b) (bnd (idx o.1<|wr<|(ln o.1)-2) λv=>bnd (oJ n (h,i,(wr<|0-l.ID),v)) λw=>f (w.1,w.2,(wr<|j+1)))<|f (h,i,(wr<|j+1)))<|g (h,i)
def o7:=oH kW
def MP: Lc 129 0 0:=bL 0x166a749506e6f668469527c325be87fd40ea9bbce5d653cbc55920ceb75c3aea4fad0a636dad0d371dc10f8963 C62 [⟨0,[cs MO]⟩] [MS,MR] @kW
def Ed: (Aad×(List<|Int×Aaa)×Int×Int)->((Int->Option R)×Unit)->Unit->Option R:=λ(a,b,c,d) (f,_) _=>bnd (Sf n a.At (Aaa.mk ((Option.getD (bD b c)<|Aaa.mk 0 0).X)<|(Option.getD (bD b c)<|Aaa.mk 0 0).Y)<|Aaa.mk ((Option.getD (bD b d)<|Aaa.mk 0 0).X)<|(Option.getD (bD b d)<|Aaa.mk 0 0).Y) λg=>cnd g (f (-1))<|bnd (Sf n a.At (Aaa.mk ((Option.getD (bD b d)<|Aaa.mk 0 0).X)<|(Option.getD (bD b d)<|Aaa.mk 0 0).Y)<|Aaa.mk ((Option.getD (bD b c)<|Aaa.mk 0 0).X)<|(Option.getD (bD b c)<|Aaa.mk 0 0).Y) λh=>cnd h (f 1)<|f 0
def wQ:=qM Ed
def MQ: Ic:=cG 155 6 4 0x2af12327b198ce9dd47c252c756c1aa5e1af5def45a1bbee6603467685 C62 [] [] @Ed
def Mw: Nat->aN->Int->Option (List Int)
 | 0,_,_=>none
 | n+1,a,b=>bnd (jE n a b) λc=>cnd c.2 (bnd (o7 n (a,b,a.Arcs,(ln a.Arcs)) ([],[],0)) λd=>bnd (prd n) λf=>bnd (Lb<|decide<|List.length d.1<=1000000) λ_=>bnd (mJ (λ(g h:Int)=>bnd (wQ f (c.1,d.2,g,h)) λi=>some i) d.1) λj=>some j)<|some []
def O4: Kn:=bJ 129 0x10d35bb8c4a9e698f881d C62 [⟨0,[MP]⟩] [MQ] Mw
end
end
section
variable {R:Type}(n:Nat)
noncomputable section
abbrev C63:=O4::C62
def wP: Nat->(List Int)->Int->Option Int
 | 0,_,_=>none
 | n+1,a,b=>bnd (kY n a b) λc=>cd (c<0) (some 0)<|bnd (aIB (wr<|(wr<|c+(ln a))-1)<|ln a) λd=>bnd (idx a d) λf=>some f
def MI: Kn:=bJ 130 0x329b07 C63 [] [] wP
abbrev C64:=MI::C63
def qQ: (List Int×List Int×Int)->((List Int×(List<|Int×Int)×Int)->Option R)->(((List Int×(List<|Int×Int))->Option R)×Unit)->(List Int×(List<|Int×Int)×Int)->Option R:=λ(a,b,c) d (f,_) (g,h,i)=>cd (i<c) (bnd (idx b i) λj=>bnd (app g [j]) λl=>bnd (wP n a j) λm=>d (l,(eI h (wr<|0-j) m),(wr<|i+1)))<|f (g,h)
def o3:=oH qQ
def ML: Lc 109 0 1:=bL 0x4561ff0c4fa9d349cd12362a8f455c02365020f8cfb8f3a4037460594e10f1d1ab2dda3973a51487cdb3fd0b3a700b7ad1be15e873ddbc C64 [] [] @qQ
def qR: (aN×List Aad×Int)->((List Int×(List<|Int×Int)×Int)->Option R)->(((List Int×(List<|Int×Int))->Option R)×Unit)->(List Int×(List<|Int×Int)×Int)->Option R:=λ(a,b,c) d (f,_) (g,h,i)=>cd (i<c) (bnd (idx b i) λj=>bnd (Mw n a j.ID) λl=>bnd (o3 n (l,l,(ln l)) (g,h,0)) λm=>d (m.1,m.2,(wr<|i+1)))<|f (g,h)
def o4:=oH qR
def MM: Lc 109 0 0:=bL 0x4e55bc16b5ae5b7345641e8d6dcbc944e9b571ffd0f98f6e6c3a1e95906a59a563e30d79cabe529d7 C64 [⟨0,[cs ML]⟩] [] @qR
def qO(n:Nat): ((List<|Int×Int))->(((List<|Int×Bool)×List Int×Int)->Option R)->((((List<|Int×Bool)×List Int)->Option R)×Unit)->((List<|Int×Bool)×List Int×Int)->Option R:=λa b (c,_) (d,f,g)=>cnd ((Option.getD (bD d g) false)) (c (d,f))<|bnd (app f [g]) λh=>b ((eI d g true),h,(Option.getD (bD a g) 0))
def n9:=oH qO
def MJ: Lc 132 0 0:=bL 0x31bf23b6e63deda242fdf22ba257ade97b68d3874039609938c29709439e22667c543a8cc7e97ad27a3b549 C64 [] [] @qO
def Eb: ((List<|Int×Int)×(List<|Int×Bool)×Int)->((((List<|Int×Bool)×List Int)->Option R)×Unit)->Unit->Option R:=λ(a,b,c) (d,_) _=>bnd (n9 n a (b,[],c)) λf=>d (f.1,f.2)
def o5:=qM Eb
def MN: Ic:=cG 132 0 3 0x8dc1559088bf0620af85edef940577b2589336091e6281418a0c1c2058f9ebfeb914ec3e6d6 C64 [⟨0,[MJ]⟩] [] @Eb
def qP: ((List<|Int×Int)×List Int×Int)->(((List<|List Int)×(List<|Int×Bool)×Int)->Option R)->((((List<|List Int)×(List<|Int×Bool))->Option R)×Unit)->((List<|List Int)×(List<|Int×Bool)×Int)->Option R:=λ(a,b,c) d (f,_) (g,h,i)=>cd (i<c) (bnd (idx b i) λj=>cnd ((Option.getD (bD h j) false)) (d (g,h,(wr<|i+1)))<|bnd (o5 n (a,h,j)) λl=>bnd (app g [l.2]) λm=>d (m,l.1,(wr<|i+1)))<|f (g,h)
def Mv:=oH qP
def MK: Lc 109 0 2:=bL 0x6455bd1b6d172c010cac9df171f7fcb11cca3843720bb9c0d51881f539c6b37446e1b1d12cb6be3db38970bef71ee3196dba51454da9567822926f65cf63d8d71e C64 [] [MN] @qP
def Ah: Nat->aN->Option ((List<|List Int)×Int)
 | 0,_=>none
 | n+1,a=>bnd (Jg n a) λb=>cnd (b != 0) (some ([],b))<|bnd (o4 n (a,a.Nodes,(ln a.Nodes)) ([],[],0)) λc=>bnd (prd n) λ_=>bnd (Lb<|decide<|List.length c.1<=1000000) λ_=>bnd (Mv n (c.2,(tE c.1),(ln<|tE c.1)) ([],[],0)) λd=>some (d.1,0)
def O3: Kn:=bJ 109 0x3ad5a8c010f02ff105c77dfc4fc6823c0f0 C64 [⟨0,[MM]⟩,⟨2,[MK]⟩] [] Ah
abbrev C65:=O3::C64
def lN: (aN×List aP×Int)->(((List<|Int×List Aaa)×Int)->Option R)->((((List<|Int×List Aaa))->Option R)×Unit)->((List<|Int×List Aaa)×Int)->Option R:=λ(a,b,c) d (f,_) (g,h)=>cd (h<c) (bnd (idx b h) λi=>bnd (wK n a i.ID) λj=>cnd (j.2==0) (d ((eI g i.ID j.1),(wr<|h+1)))<|d (g,(wr<|h+1)))<|f g
def HQ:=oH lN
def Sy: Lc 110 0 0:=bL 0xf1b361ae43978ee3aab8c04529938b607035fb84b418426a3082c9417ed3b3e956 C65 [] [] @lN
def oY: Nat->aN->Option (List<|Int×List Aaa)
 | 0,_=>none
 | n+1,a=>bnd (HQ n (a,a.Arcs,(ln a.Arcs)) ([],0)) λb=>some b
def NP: Kn:=bJ 110 0x1030795fccf3b95 C65 [⟨0,[Sy]⟩] [] oY
abbrev C66:=NP::C65
def Id: Nat->aN->Int->Option (aP×Bool)
 | 0,_,_=>none
 | n+1,a,b=>cnd (b==0) (some ((aP.mk 0 0 0 [] 0 0),false))<|cnd (b==(-9223372036854775808)) (some ((aP.mk 0 0 0 [] 0 0),false))<|bnd (Oh n a<|nF b<|wr<|0-b) λc=>cnd c.2 (some (c.1,true))<|some (c.1,false)
def aAM: Kn:=bJ 158 0x2957b7cba C66 [] [] Id
abbrev C67:=aAM::C66
def tQ(n:Nat): (List Aaa×Int)->((Int×Int)->Option R)->((Int->Option R)×Unit)->(Int×Int)->Option R:=λ(a,b) c (d,_) (f,g)=>cd (g<b) (bnd (idx a g) λh=>bnd (idx a<|wr<|g+1) λi=>bnd (idx a<|wr<|g+1) λj=>bnd (idx a g) λl=>c ((wr<|f+(wr<|(wr<|h.X*i.Y)-(wr<|j.X*l.Y))),(wr<|g+1)))<|d f
def O1:=oH tQ
def UA: Lc 134 0 1:=bL 0xae871f553c2d535d694a4ec73f9a97d8721b4c3240bb54b6a848 C67 [] [] @tQ
def tR: (aN×List Int×Int)->((Int×Int)->Option R)->((aP->Option R)×(Int->Option R)×Unit)->(Int×Int)->Option R:=λ(a,b,c) d (f,g,_) (h,i)=>cd (i<c) (bnd (idx b i) λj=>bnd (Id n a j) λl=>cnd l.2 (bnd (wK n a<|nF j<|wr<|0-j) λm=>cnd (m.2 != 0) (f l.1)<|bnd (O1 n (m.1,(wr<|(ln m.1)-1)) (0,0)) λo=>cd (j<0) (d ((wr<|h+(wr<|0-o)),(wr<|i+1)))<|d ((wr<|h+o),(wr<|i+1)))<|f l.1)<|g h
def O2:=oA tR
def UB: Lc 134 0 0:=bL 0x50096edabfa8159bb1dbf5f75a0cf0ab4b41431b2ba46479ee1e C67 [⟨0,[cs UA]⟩] [] @tR
def qN: Nat->aN->(List Int)->Option Int
 | 0,_,_=>none
 | n+1,a,b=>cd ((ln b) > 512) (some 0)<|bnd2 (O2 n (a,b,(ln b)) (0,0)) (λ_=>some 0) λc=>bnd (some c) λd=>some d
def Ie: Kn:=bJ 134 0x46c945f1b C67 [⟨0,[UB]⟩] [] qN
abbrev C68:=Ie::C67
def kD: (Aaa×Aaa×Aaa)->((Bool->Option R)×Unit)->Unit->Option R:=λ(a,b,c) (d,_) _=>cd (b.Y<=a.Y) (cd (a.Y<c.Y) (bnd (jG n b c a) λf=>cd (f > 0) (d true)<|d false)<|d false)<|d false
def mN:=eV kD
def xB: Lc 180 0 0:=bH 0x1e69a617328f6808a7e91310d74acf66e016e9074d3cd23c60e2 C68 [] [] @kD
def kC: (Aaa×Aaa×Aaa)->((Bool->Option R)×Unit)->Unit->Option R:=λ(a,b,c) (d,_) _=>cd (c.Y<=a.Y) (cd (a.Y<b.Y) (bnd (jG n b c a) λf=>cd (f<0) (d true)<|d false)<|d false)<|d false
def mM:=eV kC
def xA: Lc 180 0 1:=bH 0x927a60c9f683adea3fcd86c560e94d7a587de C68 [] [] @kC
def kE: (Aaa×Bool×Bool×Aaa×Aaa)->(((Bool×Bool)->Option R)×Unit)->Unit->Option R:=λ(a,b,c,d,f) (g,_) _=>bnd (sW n d f a) λh=>cnd h (g (true,c))<|bnd (mN n (a,d,f)) λi=>cnd i (g (b,(!c)))<|bnd (mM n (a,d,f)) λj=>cnd j (g (b,(!c)))<|g (b,c)
def mO:=qM kE
def xE: Ic:=cG 180 0 5 0x2aec10c118d159cc994384884058b5b59349083d9ae43241e72c8daeb3 C68 [⟨0,[xB]⟩,⟨1,[xA]⟩] [] @kE
def eF: (Aaa×List Aaa)->((Bool×Bool×Int)->Option R)->(((Bool×Bool)->Option R)×Unit)->(Bool×Bool×Int)->Option R:=λ(a,b) c (d,_) (f,g,h)=>cd (h<(ln b)) (bnd (idx b<|wr<|h-1) λi=>bnd (idx b h) λj=>bnd (mO n (a,f,g,i,j)) λl=>cnd l.1 (cnd l.2 (c (true,true,(wr<|h+1)))<|c (true,false,(wr<|h+1)))<|cnd l.2 (c (false,true,(wr<|h+1)))<|c (false,false,(wr<|h+1)))<|d (f,g)
def Dn:=oH eF
def xC: Lc 181 0 1:=bL 0x36d91ee1fdae5a37995c20a8523bbde1f57f630aa4bb33fb15d406b0fb C68 [] [xE] @eF
def fR: (Aaa×(List<|Int×List Aaa)×List Int×Int)->((Bool×Bool×Int)->Option R)->(((Bool×Bool)->Option R)×Unit)->(Bool×Bool×Int)->Option R:=λ(a,b,c,d) f (g,_) (h,i,j)=>cd (j<d) (bnd (idx c j) λl=>bnd (Dn n (a,(Option.getD (bD b<|nF l<|wr<|0-l) [])) (h,i,1)) λm=>f (m.1,m.2,(wr<|j+1)))<|g (h,i)
def Do:=oH fR
def xD: Lc 181 0 0:=bL 0x887255a74f2ad859154fafddc319e00f987a7fde110519 C68 [⟨0,[cs xC]⟩] [] @fR
def kF: (Aaa×(List<|Int×List Aaa)×List Int)->(((Bool×Bool)->Option R)×Unit)->Unit->Option R:=λ(a,b,c) (d,_) _=>bnd (Do n (a,b,c,(ln c)) (false,false,0)) λf=>d (f.1,f.2)
def Dp:=qM kF
def xF: Ic:=cG 181 0 3 0x96fd7829615ae00c69f1d1909e811abcc85a2ce1a384df C68 [⟨0,[xD]⟩] [] @kF
def eL: Nat->(List<|Int×List Aaa)->(List Int)->Aaa->Option Bool
 | 0,_,_,_=>none
 | n+1,a,b,c=>bnd (Dp n (c,a,b)) λd=>cnd d.1 (cnd d.2 (some false)<|some false)<|cnd d.2 (some true)<|some false
def Er: Kn:=bJ 159 0x2e8d44d6bac1874 C68 [] [xF] eL
abbrev C69:=Er::C68
def oX: (Aaa×(List<|Int×List Aaa)×List Kh×Int×Int)->((Bool->Option R)×Unit)->Unit->Option R:=λ(a,b,c,d,f) (g,_) _=>cnd (d==0) (bnd (idx c f) λh=>bnd (eL n b h.outer a) λi=>cnd i (g true)<|g false)<|bnd (idx c f) λj=>bnd (idx c d) λl=>cd (j.twice<l.twice) (bnd (idx c f) λm=>bnd (eL n b m.outer a) λo=>cnd o (g true)<|g false)<|g false
def tH:=eV oX
def Jb: Lc 135 0 1:=bH 0x2589f035d95824525de114ed5560dd8fb0b0086f2fff16a83c2618d86d C69 [] [] @oX
def iQ: (Aaa×(List<|Int×List Aaa)×List Kh)->((Int×Int)->Option R)->((Int->Option R)×Unit)->(Int×Int)->Option R:=λ(a,b,c) d (f,_) (g,h)=>cd (h<(ln c)) (bnd (tH n (a,b,c,g,h)) λi=>cnd i (d (h,(wr<|h+1)))<|d (g,(wr<|h+1)))<|f g
def Nr:=oH iQ
def Jc: Lc 135 0 0:=bL 0xbacfa165d4bf7a735e2815f9ba105c425174fc50265 C69 [⟨0,[cs Jb]⟩] [] @iQ
def eE: Nat->(List<|Int×List Aaa)->(List Kh)->Aaa->Option Int
 | 0,_,_,_=>none
 | n+1,a,b,c=>bnd (Nr n (c,a,b) (0,1)) λd=>some d
def lM: Kn:=bJ 135 0x1e8df255e2ae887dfb C69 [⟨0,[Jc]⟩] [] eE
abbrev C70:=lM::C69
def Ey(n:Nat): (aP×Int×Int)->((Int->Option R)×Unit)->Unit->Option R:=λ(a,b,c) (d,_) _=>cnd (a.From==b) (d<|wr<|c+1)<|d c
def A1:=eV Ey
def OW: Lc 91 0 1:=bH 0x7254d20b5c4f244a683ffe5fa925f1ced62702ff563d0b3e9 C70 [] [] @Ey
def rP: (Int×List aP×Int)->((Int×Int)->Option R)->((Int->Option R)×Unit)->(Int×Int)->Option R:=λ(a,b,c) d (f,_) (g,h)=>cd (h<c) (bnd (idx b h) λi=>bnd (A1 n (i,a,g)) λj=>cnd (i.To==a) (d ((wr<|j+1),(wr<|h+1)))<|d (j,(wr<|h+1)))<|f g
def A2:=oH rP
def OX: Lc 91 0 0:=bL 0x38380edd74672389b41ca2f119aa5 C70 [⟨0,[cs OW]⟩] [] @rP
def kN: Nat->aN->Int->Option Int
 | 0,_,_=>none
 | n+1,a,b=>bnd (A2 n (b,a.Arcs,(ln a.Arcs)) (0,0)) λc=>some c
def Ds: Kn:=bJ 91 0x329a6e C70 [⟨0,[OX]⟩] [] kN
abbrev C71:=Ds::C70
end
end
section
open iW (den cds ag)
noncomputable section
def bl(x n:Nat): List Bool:=(List.range n).map λi=>x.testBit i
abbrev z0: Value:=.int .i64 0
def aRI: bV:=(.seq (.region false [] [o1 24 (.ibin .lss (tp 23) (tp 22))]) (.seq (.cond (tp 24) .skip (.exit 0)) (.seq (.block 1 (.seq (.region false [] [o1 25 (.idxAddr 1 (tp 21) (tp 23)),o1 26 (.load false 1 (tp 25)),om 10 26]) (.seq (.region false [] [o1 27 (.load true 3 (tp 3)),om 28 10,o1 29 (.callB 134 [(tp 27),(tp 28)]),om 11 29]) (.seq (.region false [] [om 30 11,o1 31 (.ibin .gtr (tp 30) (.lit z0))]) (.cond (tp 31) (.region false [] [om 32 7,om 33 11,om 34 10,o1 35 (.build [z0,bQ,bQ,bQ] [(0,1,(tp 33)),(1,1,(tp 34))]),o1 36 (.buildSl false 4 1 [z0,bQ,bQ,bQ] [(0,(tp 35))]),o1 37 (.append 4 80 (tp 32) (tp 36)),om 7 37]) (.region false [] [om 38 8,om 39 10,o1 40 (.buildSl true 1 1 [bQ] [(0,(tp 39))]),o1 41 (.append 1 24 (tp 38) (tp 40)),om 8 41])))))) (.region false [] [o1 42 (.ibin .add (tp 23) (.lit (.int .i64 1))),om 23 42]))))
def aRH: bV:=(.seq (.region false [] [o1 46 (.ibin .lss (tp 45) (tp 44))]) (.seq (.cond (tp 46) .skip (.exit 2)) (.seq (.block 3 (.seq (.region false [] [o1 47 (.idxAddr 1 (tp 43) (tp 45)),o1 48 (.load false 1 (tp 47)),om 13 48]) (.seq (.region true [] [om 49 2,om 50 13,o1 51 (.idxAddr 1 (tp 50) (.lit z0)),o1 52 (.load false 1 (tp 51)),om 53 13,o1 54 (.idxAddr 1 (tp 53) (.lit z0)),o1 55 (.load false 1 (tp 54)),o1 56 (.un .neg (tp 55)),o1 57 (.minmax true [(tp 52),(tp 56)]),o1 58 (.lookup 3 (.lit bQ) (tp 49) (tp 57) false),om 14 58]) (.seq (.region false [] [om 59 2,om 60 7,om 61 14,o1 62 (.idxAddr 2 (tp 61) (.lit z0)),o1 63 (.load true 2 (tp 62)),o1 64 (.callB 135 [(tp 59),(tp 60),(tp 63)]),om 15 64]) (.region false [] [om 65 7,om 66 15,om 67 7,om 68 15,o1 69 (.idxAddr 4 (tp 67) (tp 68)),o1 70 (.fieldAddr 2 (tp 69)),o1 71 (.load false 1 (tp 70)),om 72 13,o1 73 (.buildSl true 1 1 [bQ] [(0,(tp 72))]),o1 74 (.append 1 24 (tp 71) (tp 73)),o1 75 (.idxAddr 4 (tp 65) (tp 66)),o1 76 (.fieldAddr 2 (tp 75)),⟨none,.store 1 (tp 76) (tp 74),none⟩]))))) (.region false [] [o1 77 (.ibin .add (tp 45) (.lit (.int .i64 1))),om 45 77]))))
def aRG: bV:=(.seq (.region false [] [o1 82 (.ibin .lss (tp 81) (tp 80))]) (.seq (.cond (tp 82) .skip (.exit 4)) (.seq (.block 5 (.seq (.region false [] [o1 83 (.idxAddr 3 (tp 79) (tp 81)),o1 84 (.load true 3 (tp 83)),o1 17 (.alloc [z0,z0,z0]),⟨none,.store 3 (tp 17) (tp 84),none⟩]) (.seq (.region false [] [o1 85 (.load true 3 (tp 3)),o1 86 (.fieldAddr 0 (tp 17)),o1 87 (.load false 1 (tp 86)),o1 88 (.callB 91 [(tp 85),(tp 87)]),o1 89 (.ibin .eql (tp 88) (.lit z0))]) (.cond (tp 89) (.seq (.region false [] [om 90 2,om 91 7,o1 92 (.fieldAddr 1 (tp 17)),o1 93 (.load true 2 (tp 92)),o1 94 (.callB 135 [(tp 90),(tp 91),(tp 93)]),om 18 94]) (.region true [] [om 95 7,om 96 18,om 97 7,om 98 18,o1 99 (.idxAddr 4 (tp 97) (tp 98)),o1 100 (.fieldAddr 3 (tp 99)),o1 101 (.load false 1 (tp 100)),o1 102 (.fieldAddr 0 (tp 17)),o1 103 (.load false 1 (tp 102)),o1 104 (.buildSl true 1 1 [z0] [(0,(tp 103))]),o1 105 (.append 1 8 (tp 101) (tp 104)),o1 106 (.idxAddr 4 (tp 95) (tp 96)),o1 107 (.fieldAddr 3 (tp 106)),⟨none,.store 1 (tp 107) (tp 105),none⟩])) .skip)))) (.region false [] [o1 108 (.ibin .add (tp 81) (.lit (.int .i64 1))),om 81 108]))))
theorem aOA: (O0 T 111).body=(.seq (.region false [] [o1 3 (.box (tp 0)),o1 6 (.movN (.lit bQ))]) (.seq (.region false [] [o1 19 (.build [z0,bQ,bQ,bQ] []),o1 20 (.buildSl false 4 1 [z0,bQ,bQ,bQ] [(0,(tp 19))]),om 7 20]) (.seq (.region false [] [o1 8 (.claim 1)]) (.seq (.seq (.region false [] [om 21 1,o1 22 (.lenS (tp 21)),o1 23 (.mov (.lit z0))]) (.block 0 (.mask (bl 0x18c 9) (bl 0x40 7) false (.loop (some (bl 0xe0018c 24)) false aRI)))) (.seq (.seq (.region false [] [om 43 8,o1 44 (.lenS (tp 43)),o1 45 (.mov (.lit z0))]) (.block 2 (.mask (bl 0x8c 8) (bl 0x40 7) false (.loop (some (bl 0x38000000008c 46)) false aRH)))) (.seq (.seq (.region false [] [o1 78 (.fieldAddr 0 (tp 3)),o1 79 (.load false 1 (tp 78)),o1 80 (.lenS (tp 79)),o1 81 (.mov (.lit z0))]) (.block 4 (.mask (bl 0x80 8) (bl 0x40 7) false (.loop (some (bl 0x38000000000000000008c 82)) false aRG)))) (.seq (.region false [] [om 109 7,om 6 109]) .ret))))))):=by kernel_rfl
def arV(a:dR): Kh:=⟨a.twice,a.outer,(),()⟩
def dv1(n:Nat)(p:aN): List (List Int)->List dR->List (List Int)->Option (List dR×List (List Int))
 | [],l,q=>some (l,q)
 | c::cs,l,q=>bnd (qN n p c) λt=>cnd (decide (t > 0)) (dv1 n p cs (l++[⟨t,c,[],[]⟩]) q) (dv1 n p cs l (q++[c]))
def dv2(n:Nat)(m:List (Int×List Aaa)): List (List Int)->List dR->Option (List dR)
 | [],l=>some l
 | c::cs,l=>bnd (idx c 0) λd=>bnd (idx ((bD m (nF d (wr (0-d)))).getD []) 0) λat_=>bnd (eE n m (l.map arV) at_) λi=>bnd (idx l i) λa=>
  dv2 n m cs (l.set i.toNat ⟨a.twice,a.outer,a.inner++[c],a.alone⟩)
def dv3(n:Nat)(p:aN)(m:List (Int×List Aaa)): List Aad->List dR->Option (List dR)
 | [],l=>some l
 | x::xs,l=>bnd (kN n p x.ID) λd=>cnd (d==0)
  (bnd (eE n m (l.map arV) x.At) λi=>bnd (idx l i) λa=>dv3 n p m xs (l.set i.toNat ⟨a.twice,a.outer,a.inner,a.alone++[x.ID]⟩))
  (dv3 n p m xs l)
def jD: Nat->aN->List (List Int)->List (Int×List Aaa)->Option (List dR)
 | 0,_,_,_=>none
 | n+1,p,cs,m=>bnd (Lb (decide (cs.length<n/\p.Nodes.length<n/\cs.length<=190000/\p.Nodes.length<=9000))) λ_=>bnd (dv1 n p cs [⟨0,[],[],[]⟩] []) λq=>bnd (dv2 n m q.2 q.1) λl=>dv3 n p m p.Nodes l
structure RA where
 a:dR
 o:AV
 x:AV
 y:AV
def RA.c(r:RA): List AV:=[iv r.a.twice,r.o,r.x,r.y]
def gU(kd:Nat)(H:aY)(x:AV)(l:List (den kd)): Prop:=(x=.lit bQ/\l=[])\/∃k es,x=.ms k es.length 0 es.length/\3<=k/\H[k]?=some (.blk 1 es)/\Ql kd l es
def idC: AV->Option Nat
 | .ms k _ _ _=>some k
 | _=>none
def sel(r:RA)(u:Bool): AV:=match u with
 | true=>r.y
 | false=>r.x
structure DI(H:aY)(w:List RA): Prop where
 co:∀(i:Nat) (r:RA),w[i]?=some r->Qp (.sl 0 r.a.outer) r.o
 cx:∀(i:Nat) (r:RA),w[i]?=some r->gU 18 H r.x r.a.inner
 cy:∀(i:Nat) (r:RA),w[i]?=some r->gU 0 H r.y r.a.alone
 ne:∀(i j:Nat) (r s:RA) (u v:Bool) (k:Nat),w[i]?=some r->w[j]?=some s->idC (sel r u)=some k->idC (sel s v)=some k->i=j/\u=v
theorem gU.id{kd:Nat}{H:aY}{x:AV}{l:List (den kd)}{k:Nat}(h:gU kd H x l)(hk:idC x=some k): 3<=k/\∃o,H[k]?=some o:=by
 rcases h with⟨rfl,_⟩ | ⟨k',es,rfl,h3,hh,_⟩
 .cases hk
 .cases hk;exact⟨h3,_,hh⟩
theorem gU.mono{kd:Nat}{H H':aY}{x:AV}{l:List (den kd)}(h:gU kd H x l)(hk:∀k,idC x=some k->H'[k]?=H[k]?): gU kd H' x l:=by
 rcases h with⟨rfl,h⟩ | ⟨k',es,rfl,h3,hh,q⟩
 .exact .inl ⟨rfl,h⟩
 .exact .inr ⟨k',es,rfl,h3,by rw[hk k' rfl];exact hh,q⟩
theorem gU.shut{kd:Nat}{H H':aY}{x:AV}{l:List (den kd)}{d:Nat}(h:gU kd H x l)(hk:∀k,3<=k->H'[k]?=H[k]?): Qp (.sl kd l) (eD H' 0 (d+1) x):=by
 rcases h with⟨rfl,rfl⟩ | ⟨k',es,rfl,h3,hh,q⟩
 .exact Qp.mkS (es:=[]) (.inr ⟨false,rfl⟩) trivial
 .simp only[eD,ZF,Zy,rd,hk k' h3,hh,YB,XU]
  exact Qp.mkS (.inr ⟨_,rfl⟩) ((Ez H' 0 d).ls q)
theorem gU.grow{kd:Nat}{H:aY}{x:AV}{l:List (den kd)}{bytes:Nat}{e:den kd}{row:List AV}(h:gU kd H x l)(hr:Qr (kA kd e) row)(h1:row.length=1)(hb:bytes<=100000)(hl:l.length<=200000)(h3:3<=H.length):
 ∃k es H',cR 0 H 1 bytes x [row]=some (.ms k es.length 0 es.length,H')/\3<=k/\H'[k]?=some (.blk 1 es)/\Ql kd (l++[e]) es/\(∀j,j≠k->H'[j]?=H[j]?)/\(idC x=some k\/H[k]?=none)/\H.length<=H'.length:=by
 have a1:fG 1 [row]=true:=by simp[fG,h1]
 have rm:∀z,z<=300000->lA z bytes=true:=λz hz=>by
  have:z*bytes<=300000*100000:=Xt hz hb
  unfold lA;simp;omega
 rcases h with⟨rfl,rfl⟩ | ⟨k',es,rfl,hk,hh,q⟩
 .refine⟨H.length,[row],H++[.blk 1 [row]],?_,h3,?_,⟨hr,trivial⟩,?_,.inr (Zz (Zg _)),by simp⟩
  .show (if fG 1 [row]=true/\0<1/\lA 1 bytes=true then _ else _)=_
   rw[Zu ⟨a1,by decide,rm 1 (by decide)⟩];rfl
  .rw[ZY (Zg _),XX];rfl
  .intro j hj
   rcases ZL j H.length with h | h
   .rw[Zp h]
   .rw[Zz h,Zz (by simp;omega)]
 .have hlt:k'<H.length:=(Ze.1 hh).1
  have hes:=q.len
  refine⟨k',es++[row],H.set k' (.blk 1 (es++[row])),?_,hk,?_,q.app ⟨hr,trivial⟩,?_,.inl rfl,by simp⟩
  .show (if fG 1 [row]=true/\0<1/\lA 1 bytes=true then _ else _)=_
   rw[Zu ⟨a1,by decide,rm 1 (by decide)⟩]
   simp only[hh]
   simp only[Wh,Ye,rm (es.length+1) (by omega),Zy,Nat.one_ne_zero,Z4,ZF,Zi]
  .rw[Z7 hlt]
  .intro j hj;rw[Zv (Ne.symm hj)]
theorem DI.upd{H H' H2:aY}{w:List RA}{i:Nat}{r r':RA}{k:Nat}{u:Bool}(hI:DI H w)(hi:w[i]?=some r)(hk:3<=k)(hne:∀j,j≠k->H'[j]?=H[j]?)(hold:idC (sel r u)=some k\/H[k]?=none)(h2:∀j,j≠1->H2[j]?=H'[j]?)(ho:r'.o=r.o/\r'.a.outer=r.a.outer)(hx:gU 18 H2 r'.x r'.a.inner\/(r'.x=r.x/\r'.a.inner=r.a.inner/\u=true))(hy:gU 0 H2 r'.y r'.a.alone\/(r'.y=r.y/\r'.a.alone=r.a.alone/\u=false))(hu:idC (sel r' u)=some k)(hv:sel r' (!u)=sel r (!u)): DI H2 (w.set i r'):=by
 have hlt:=(Ze.1 hi).1
 have g:∀(j:Nat) (s:RA),(w.set i r')[j]?=some s->(j=i/\s=r')\/(j≠i/\w[j]?=some s):=by
  intro j s h
  by_cases hj:j=i
  .subst hj;rw[Z7 hlt] at h;cases h;exact .inl ⟨rfl,rfl⟩
  .rw[Zv (Ne.symm hj)] at h;exact .inr ⟨hj,h⟩
 have old:∀(j:Nat) (s:RA) (v:Bool) (q:Nat),w[j]?=some s->idC (sel s v)=some q->3<=q/\∃o,H[q]?=some o:=by
  intro j s v q hj hq
  cases v with
  | false=>exact (hI.cx j s hj).id hq
  | true=>exact (hI.cy j s hj).id hq
 have sep:∀(j:Nat) (s:RA) (v:Bool),w[j]?=some s->idC (sel s v)=some k->j=i/\v=u:=by
  intro j s v hj hq
  rcases hold with h | h
  .exact hI.ne j i s r v u k hj hi hq h
  .obtain⟨_,o,ho⟩:=old j s v k hj hq
   rw[h] at ho;cases ho
 have keep:∀(j:Nat) (s:RA) (v:Bool) (q:Nat),w[j]?=some s->idC (sel s v)=some q->¬(j=i/\v=u)->H2[q]?=H[q]?:=by
  intro j s v q hj hq hn
  have:=(old j s v q hj hq).1
  rw[h2 q (by omega),hne q (λe=>hn (sep j s v hj (e▸hq)))]
 refine⟨?_,?_,?_,?_⟩
 .intro j s hs
  rcases g j s hs with⟨rfl,rfl⟩ | ⟨_,hs⟩
  .rw[ho.1,ho.2];exact hI.co _ r hi
  .exact hI.co j s hs
 .intro j s hs
  rcases g j s hs with⟨rfl,rfl⟩ | ⟨hj,hs⟩
  .rcases hx with h | ⟨h1,h3,h4⟩
   .exact h
   .rw[h1,h3]
    exact (hI.cx _ r hi).mono λq hq=>keep _ r false q hi hq (by rw[h4];simp)
  .exact (hI.cx j s hs).mono λq hq=>keep j s false q hs hq (λe=>hj e.1)
 .intro j s hs
  rcases g j s hs with⟨rfl,rfl⟩ | ⟨hj,hs⟩
  .rcases hy with h | ⟨h1,h3,h4⟩
   .exact h
   .rw[h1,h3]
    exact (hI.cy _ r hi).mono λq hq=>keep _ r true q hi hq (by rw[h4];simp)
  .exact (hI.cy j s hs).mono λq hq=>keep j s true q hs hq (λe=>hj e.1)
 .have new:∀v q,idC (sel r' v)=some q->(v=u/\q=k)\/(v=!u/\idC (sel r (!u))=some q):=by
   intro v q h
   by_cases hvu:v=u
   .subst hvu;rw[hu] at h;cases h;exact .inl ⟨rfl,rfl⟩
   .have:v=!u:=by cases v<;>cases u<;>simp_all
    subst this;rw[hv] at h;exact .inr ⟨rfl,h⟩
  intro j1 j2 s1 s2 v1 v2 q e1 e2 q1 q2
  rcases g j1 s1 e1 with⟨rfl,rfl⟩ | ⟨n1,f1⟩
  .rcases g j2 s2 e2 with⟨rfl,rfl⟩ | ⟨n2,f2⟩
   .rcases new v1 q q1 with⟨rfl,rfl⟩ | ⟨rfl,o1⟩
    .rcases new v2 q q2 with⟨rfl,_⟩ | ⟨rfl,o2⟩
     .exact⟨rfl,rfl⟩
     .have:=(sep _ r (!v1) hi o2).2;cases v1<;>cases this
    .rcases new v2 q q2 with⟨rfl,rfl⟩ | ⟨rfl,o2⟩
     .have:=(sep _ r (!v2) hi o1).2;cases v2<;>cases this
     .exact⟨rfl,rfl⟩
   .rcases new v1 q q1 with⟨rfl,rfl⟩ | ⟨rfl,o1⟩
    .exact absurd (sep _ s2 v2 f2 q2).1 n2
    .exact absurd (hI.ne _ _ r s2 (!u) v2 q hi f2 o1 q2).1 (Ne.symm n2)
  .rcases g j2 s2 e2 with⟨rfl,rfl⟩ | ⟨n2,f2⟩
   .rcases new v2 q q2 with⟨rfl,rfl⟩ | ⟨rfl,o2⟩
    .exact absurd (sep _ s1 v1 f1 q1).1 n1
    .exact absurd (hI.ne _ _ s1 r v1 (!u) q f1 hi q1 o2).1 n1
   .exact hI.ne j1 j2 s1 s2 v1 v2 q f1 f2 q1 q2
theorem DI.view{H:aY}{w:List RA}(hI:DI H w)(h1:H[1]?=some (.blk 4 (w.map RA.c))): Qp (.vw 33 ((w.map RA.a).map arV)) (dF H (.ms 1 w.length 0 w.length)):=by
 simp only[dF,rd,h1,ZR,Zy,YB]
 rw[ZC (by simp)]
 refine Qp.mkV (.inr (.inr rfl)) ?_
 rw[Yc,Yc]
 have h:∀(v:List RA),(∀r∈v,Qp (.sl 0 r.a.outer) r.o)->Ql 33 (v.map (arV∘RA.a)) (v.map ((λe=>e.map Ek)∘RA.c)):=by
  intro v
  induction v with
  | nil=>exact λ_=>trivial
  | cons r v ih=>
   intro hv
   refine⟨⟨.lit _,xT.c (c:=.sl 0) (x:=r.a.outer) (hv r ZP),.undef _,.undef _,trivial⟩,ih λr hr=>hv r (ZU _ hr)⟩
 exact h w λr hr=>by
  obtain⟨i,hi⟩:=Yk.1 hr
  exact hI.co i r hi
theorem DI.rows{H H':aY}{w:List RA}{d:Nat}(hI:DI H w)(hk:∀k,3<=k->H'[k]?=H[k]?): Ql 35 (w.map RA.a) ((w.map RA.c).map λe=>e.map (eD H' 0 (d+1))):=by
 rw[Yc]
 have h:∀(v:List RA),(∀r∈v,Qp (.sl 0 r.a.outer) r.o/\gU 18 H r.x r.a.inner/\gU 0 H r.y r.a.alone)->Ql 35 (v.map RA.a) (v.map ((λe=>e.map (eD H' 0 (d+1)))∘RA.c)):=by
  intro v
  induction v with
  | nil=>exact λ_=>trivial
  | cons r v ih=>
   intro hv
   obtain⟨a1,a2,a3⟩:=hv r ZP
   exact⟨⟨.lit _,(Ez H' 0 (d+1)).c (c:=.sl 0) (x:=r.a.outer) a1,a2.shut hk,a3.shut hk,trivial⟩,ih λr hr=>hv r (ZU _ hr)⟩
 exact h w λr hr=>by
  obtain⟨i,hi⟩:=Yk.1 hr
  exact⟨hI.co i r hi,hI.cx i r hi,hI.cy i r hi⟩
section
variable (p:aN)(m:List (Int×List Aaa))(xn xa xf xm:AV)
structure DA(w:List RA)(H:aY): Prop where
 h0:H[0]?=some (.blk 3 [[xn,xa,xf]])
 h1:H[1]?=some (.blk 4 (w.map RA.c))
 h3:3<=H.length
 i:DI H w
variable {p m xn xa xf xm}{w:List RA}{tm:List AV}{H:aY}
variable (qn:Qp (.vw 4 p.Nodes) xn)(qa:Qp (.vw 5 p.Arcs) xa)(qf:Qp (.vw 0 p.Faces) xf)(qm:Qp (.rmp 0 2 m) xm)
theorem aIx: FOK PP T 134 ⟨[.w 6,.w 18],[0],false,λn p=>qN n p.1 p.2⟩:=by
 have e:Ie.c=⟨[.w 6,.w 18],[0],false,λn p=>qN n p.1 p.2⟩:=by kernel_rfl
 have h:=Ie.ok
 rw[e] at h
 exact h
theorem aGj: FOK PP T 91 ⟨[.w 6,.w 0],[0],false,λn p=>kN n p.1 p.2⟩:=by
 have e:Ds.c=⟨[.w 6,.w 0],[0],false,λn p=>kN n p.1 p.2⟩:=by kernel_rfl
 have h:=Ds.ok
 rw[e] at h
 exact h
theorem aLN: FOK PP T 135 ⟨[.w 32,.w 34,.w 1],[0],false,λn p=>eE n p.1 p.2.1 p.2.2⟩:=by
 have e:lM.c=⟨[.w 32,.w 34,.w 1],[0],false,λn p=>eE n p.1 p.2.1 p.2.2⟩:=by kernel_rfl
 have h:=lM.ok
 rw[e] at h
 exact h
theorem O5{k:Nat}{l:List (den k)}{a:AV}(h:Qp (.vw k l) a): Qp (.vw k l) (dF H a):=by
 obtain⟨es,h1,h2⟩:=h.inV
 rcases h1 with⟨rfl,rfl⟩ | ⟨f,rfl⟩ | rfl
 .exact Qp.mkV (es:=[]) (.inr (.inr rfl)) h2
 .exact Qp.mkV (.inr (.inr rfl)) h2
 .exact Qp.mkV (.inr (.inr rfl)) h2
theorem aTa{kk vk:Nat}{m:List (den kk×den vk)}{a:AV}(h:Qp (.rmp kk vk m) a): Qp (.rmp kk vk m) (dF H a):=by
 obtain⟨rows,h1,h2⟩:=h.inM
 rcases h1 with⟨rfl,rfl⟩ | rfl
 .exact Qp.mkM (.inl ⟨rfl,rfl⟩) h2
 .exact Qp.mkM (.inr rfl) h2
theorem aLF{α:Type}{l:List α}{i:Nat}{x:α}(h:l[i]?=some x): idx l (i:Int)=some x:=by rw[bK];exact h
theorem Hi{α:Type}{l r:List α}{i:Nat}{x:α}(h:l.drop i=x::r): l[i]?=some x/\l.drop (i+1)=r/\i<l.length:=by
 have h1:(l.drop i)[0]?=some x:=by rw[h];rfl
 rw[Zw,Xf] at h1
 refine⟨h1,?_,(Ze.1 h1).1⟩
 have:l.drop (i+1)=(l.drop i).drop 1:=by rw[XK]
 rw[this,h];rfl
theorem aJN{i:Nat}(h:i<1000000): wr ((i:Int)+1)=((i+1:Nat):Int):=by
 show IntKind.i64.wrap _=_
 rw[Xh];push_cast;omega
theorem aNq{k:Nat}{l:List (den k)}{a:AV}(q:Qp (.vw k l) a): cK H a=dF H a:=by
 obtain⟨es,h1,_⟩:=q.inV
 rcases h1 with⟨rfl,_⟩ | ⟨f,rfl⟩ | rfl<;>rfl
theorem aRz(H:aY)(o:dK): (H++[o])[H.length]?=some o:=by rw[ZY (Zg _),XX];rfl
theorem hold{H:aY}{o b:dK}{k:Nat}(h:H[k]?=some b): (H++[o])[k]?=some b:=by rw[Zp (Ze.1 h).1];exact h
include qn qa qf in
theorem aO9{n:Nat}{x y:bC}{c:List Int}{a:AV}{t:Int}(e:qN n p c=some t)(hx:aH tm x=.agg [xn,xa,xf])(hy:aH tm y=a)(q:Qp (.vw 0 c) a): aQ PP (fC PP T n) 0 (.callB 134 [x,y]) tm H=some (iv t,H):=by
 obtain⟨A,r,h1,h2⟩:=J3 (a:=.undef) aIx (n:=n) (p:=(p,c)) (r:=t) e (λr=>⟨r,rfl⟩) (aw:=[cK H (.agg [xn,xa,xf]),dF H a])
  ⟨Qh.mkA ⟨.p _ _ (O5 qn),.p _ _ (O5 qa),.p _ _ (O5 qf),trivial⟩,.p _ _ (O5 q),trivial⟩
 simp only[aQ,ZH,Yn,hx,hy,aNq q,h1]
 rw[h2];rfl
theorem aUm{n:Nat}{x y:bC}{a:AV}{l:List Int}{t:Int}(q:Qp (.sl 0 l) a)(hx:aH tm x=iv t)(hy:aH tm y=a): aQ PP (fC PP T n) 0 (.build [z0,bQ,bQ,bQ] [(0,1,x),(1,1,y)]) tm H=some (.agg [iv t,a,.lit bQ,.lit bQ],H):=by
 obtain⟨es,h1,_⟩:=q.inS
 simp only[aQ,ZH,Yn,hx,hy]
 rcases h1 with⟨rfl,_⟩ | ⟨f,rfl⟩<;>rfl
theorem aPM{n:Nat}{y:bC}{a:AV}{k:Nat}{l:List (den k)}{z:Value}(q:Qp (.sl k l) a)(hy:aH tm y=a): aQ PP (fC PP T n) 0 (.buildSl true 1 1 [z] [(0,y)]) tm H=some (.sl true [[Ek a]],H):=by
 obtain⟨es,h1,_⟩:=q.inS
 simp only[aQ,ZH,Yn,hy]
 rcases h1 with⟨rfl,_⟩ | ⟨f,rfl⟩<;>rfl
theorem DA.grow{o y:bC}{a:AV}{l:List Int}{t:Int}(d:DA xn xa xf w H)(hn:∀r∈w,r.x=.lit bQ/\r.y=.lit bQ)(q:Qp (.sl 0 l) a){b:dK}: DA xn xa xf (w++[⟨⟨t,l,[],[]⟩,a,.lit bQ,.lit bQ⟩]) ((H++[b]).set 1 (.blk 4 (w.map RA.c++[[iv t,a,.lit bQ,.lit bQ]]))):=by
 have hw:∀r∈w++[(⟨⟨t,l,[],[]⟩,a,.lit bQ,.lit bQ⟩:RA)],r.x=.lit bQ/\r.y=.lit bQ:=by
  intro r hr
  rcases ZD.1 hr with hr | hr
  .exact hn r hr
  .rw[ZJ.1 hr];exact⟨rfl,rfl⟩
 have g:∀(i:Nat) (r:RA),(w++[(⟨⟨t,l,[],[]⟩,a,.lit bQ,.lit bQ⟩:RA)])[i]?=some r->w[i]?=some r\/r=⟨⟨t,l,[],[]⟩,a,.lit bQ,.lit bQ⟩:=by
  intro i r hr
  rcases ZL i w.length with h | h
  .rw[Zp h] at hr;exact .inl hr
  .rw[ZY h] at hr
   exact .inr (ZJ.1 (Zf hr))
 refine⟨?_,?_,by simp;have:=d.h3;omega,⟨?_,?_,?_,?_⟩⟩
 .rw[Zv (by decide)];exact hold d.h0
 .rw[Z7 (by simp;have:=d.h3;omega),YJ];rfl
 .intro i r hr
  rcases g i r hr with h | rfl
  .exact d.i.co i r h
  .exact q
 .intro i r hr
  rcases g i r hr with h | rfl
  .rcases d.i.cx i r h with h1 | ⟨k,es,h1,_⟩
   .exact .inl h1
   .rw[(hn r (Zf h)).1] at h1;cases h1
  .exact .inl ⟨rfl,rfl⟩
 .intro i r hr
  rcases g i r hr with h | rfl
  .rcases d.i.cy i r h with h1 | ⟨k,es,h1,_⟩
   .exact .inl h1
   .rw[(hn r (Zf h)).2] at h1;cases h1
  .exact .inl ⟨rfl,rfl⟩
 .intro i j r s u v k hr hs hk _
  have:=hw r (Zf hr)
  cases u with
  | true=>simp only[sel,this.2,idC] at hk;cases hk
  | false=>simp only[sel,this.1,idC] at hk;cases hk
abbrev dB(xm:AV)(w:List RA): List (Nat×AV):=[(2,xm),(3,.ptr 0 1 0 0),(7,.ms 1 w.length 0 w.length)]
include qn qa qf in
theorem aMc{n N:Nat}(cs:List (List Int)){xc:AV}(qc:Qp (.vw 18 cs) xc)(hb:cs.length<=190000): ∀(todo:List (List Int)) (k i:Nat) (tm:List AV) (H:aY) (w:List RA) (q:List (List Int)) (qr:List (List AV)) (r:List dR×List (List Int)),cs.drop i=todo->todo.length<k->w.length+todo.length<=200000->qr.length+todo.length<=200000->
 DA xn xa xf w H->(∀r∈w,r.x=.lit bQ/\r.y=.lit bQ)->H[2]?=some (.blk 1 qr)->Ql 18 q qr->At 110 ((8,.ms 2 qr.length 0 qr.length)::(21,xc)::(22,iv (cs.length:Nat))::(23,iv i)::dB xm w) tm->dv1 n p todo (w.map RA.a) q=some r->
 WL PP (fC PP T n) n 0 N (bl 0xe0018c 24) false aRI k ⟨tm,H⟩ λx s=>x=.exit 0/\∃w' qr',w'.map RA.a=r.1/\DA xn xa xf w' s.heap/\(∀r∈w',r.x=.lit bQ/\r.y=.lit bQ)/\s.heap[2]?=some (.blk 1 qr')/\Ql 18 r.2 qr'/\At 110 ((8,.ms 2 qr'.length 0 qr'.length)::dB xm w') s.tmps/\w'.length<=200000/\qr'.length<=200000
 | todo,0,i,tm,H,w,q,qr,r,_,h,_,_,_,_,_,_,_,_=>by omega
 | todo,k+1,i,tm,H,w,q,qr,r,hd,hk,hw,hq,d,hn,h2,ql,ha,h=>by
  apply WL.step
  show WC PP (fC PP T n) n 0 aRI ⟨cZ (bl 0xe0018c 24) tm,H⟩ _
  replace ha:At 110 ((8,.ms 2 qr.length 0 qr.length)::(21,xc)::(22,iv (cs.length:Nat))::(23,iv i)::dB xm w) (cZ (bl 0xe0018c 24) tm):=
   .cons (ha.live _ rfl rfl) (.cons (ha.live _ rfl rfl) (.cons (ha.live _ rfl rfl) (.cons (ha.live _ rfl rfl) (.cons (ha.live _ rfl rfl) (.cons (ha.live _ rfl rfl) (.cons (ha.live _ rfl rfl) (ha.mask _)))))))
  generalize cZ (bl 0xe0018c 24) tm=tm at ha |-
  refine WC.seq (WC.reg (AO.op ha (Mb (ha.get rfl) (ha.get rfl) rfl) λtm ha=>AO.nil ha (WC.seq ?_)))
  cases todo with
  | nil=>
   have hi:cs.length<=i:=by
    have:=congrArg List.length hd
    rw[ZX,Z2] at this;omega
   cases h
   refine WC.condF (ha.get rfl) (YI (by omega)) (WC.exit ?_)
   exact⟨rfl,w,qr,rfl,d,hn,h2,ql,.cons (ha.get rfl) (.cons (ha.get rfl) (.cons (ha.get rfl) (.cons (ha.get rfl) ⟨ha.ln,λ_ _ h=>by cases h⟩))),by omega,by omega⟩
  | cons c todo=>
   obtain⟨g1,g2,g3⟩:=Hi hd
   simp only[Z5] at hk hw hq
   simp only[dv1] at h
   obtain⟨t,e2,h⟩:=bF h
   refine WC.condT (ha.get rfl) (Yi (by omega)) (WC.skip (WC.seq (WC.block (WC.seq ?_))))
   obtain⟨row,q1,e25⟩:=aHW (P:=PP) (cf:=fC PP T n) (fl:=0) (H:=H) (s:=1) qc (ha.get (k:=21) rfl) (ha.get (k:=23) rfl) (aLF g1) rfl
   obtain⟨x,rfl,qx⟩:∃x,row=[x]/\Qp (.sl 0 c) x:=by
    match row,q1 with
    | [x],h=>exact⟨x,rfl,h.1⟩
   have hl:=qx.w
   refine WC.reg (AO.op ha e25 λtm ha=>AO.op ha (aLV (ha.get rfl)) λtm ha=>AO.mov ha rfl λtm ha=>AO.nil ha (WC.seq (WC.reg ?_)))
   refine AO.op ha (Qe (ha.get rfl) d.h0 rfl rfl (Zg 3) rfl) λtm ha=>AO.mov ha rfl λtm ha=>AO.op ha (aO9 qn qa qf e2 (ha.get rfl) (ha.get rfl) hl) λtm ha=>AO.mov ha rfl λtm ha=>AO.nil ha (WC.seq (WC.reg (AO.mov ha rfl λtm ha=>AO.op ha (Mb (ha.get rfl) rfl rfl) λtm ha=>AO.nil ha ?_)))
   cases ht:decide (t > 0) with
   | true=>
    rw[ht] at h
    refine WC.condT (ha.get rfl) ht (WC.reg (AO.mov ha rfl λtm ha=>AO.mov ha rfl λtm ha=>AO.mov ha rfl λtm ha=>AO.op ha (aUm qx (ha.get rfl) (ha.get rfl)) λtm ha=>AO.op (v:=.ms H.length 1 0 1) (H':=H++[.blk 4 [[iv t,x,.lit bQ,.lit bQ]]]) ha (by
     simp only[aQ,ZH,Yn,ha.get (k:=35) rfl];rfl) λtm ha=>AO.op ha (aPR (es:=w.map RA.c) (ys:=[[iv t,x,.lit bQ,.lit bQ]]) (by rw[ZR];exact ha.get rfl) (by
      rw[ha.get (k:=36) rfl];simp only[rd,aRz];rfl) (hold d.h1) (by decide) rfl (by simp) (by decide) (by simp;omega)) λtm ha=>AO.mov ha rfl λtm ha=>AO.nil ha ?_))
    refine WC.reg (AO.op ha (Mb (ha.get rfl) rfl rfl) λtm ha=>AO.mov ha rfl λtm ha=>AO.nil ha ?_)
    have d':=d.grow (o:=.tmp 0) (y:=.tmp 0) (t:=t) hn qx (b:=.blk 4 [[iv t,x,.lit bQ,.lit bQ]])
    refine aMc cs qc hb todo k (i+1) _ _ (w++[⟨⟨t,c,[],[]⟩,x,.lit bQ,.lit bQ⟩]) q qr r g2 (by omega) (by simp;omega) (by omega) d' ?_ ?_ ql ?_ (by rw[YJ];exact h)
    .intro r hr
     rcases ZD.1 hr with hr | hr
     .exact hn r hr
     .rw[ZJ.1 hr];exact⟨rfl,rfl⟩
    .rw[Zv (by decide)];exact hold h2
    .exact .cons (ha.get rfl) (.cons (ha.get rfl) (.cons (ha.get rfl) (.cons (by rw[<-aJN (by omega)];exact ha.get rfl) (.cons (ha.get rfl) (.cons (ha.get rfl) (.cons (by rw[ha.get (k:=7) rfl];simp) ⟨ha.ln,λ_ _ h=>by cases h⟩))))))
   | false=>
    rw[ht] at h
    refine WC.condF (ha.get rfl) ht (WC.reg (AO.mov ha rfl λtm ha=>AO.mov ha rfl λtm ha=>AO.op ha (aPM qx (ha.get rfl)) λtm ha=>AO.op ha (aPR (es:=qr) (ys:=[[Ek x]]) (ha.get rfl) (by rw[ha.get (k:=40) rfl];rfl) h2 (by decide) rfl (by simp) (by decide) (by simp;omega)) λtm ha=>AO.mov ha rfl λtm ha=>AO.nil ha ?_))
    refine WC.reg (AO.op ha (Mb (ha.get rfl) rfl rfl) λtm ha=>AO.mov ha rfl λtm ha=>AO.nil ha ?_)
    have d':DA xn xa xf w (H.set 2 (.blk 1 (qr++[[Ek x]]))):=⟨by rw[Zv (by decide)];exact d.h0,by rw[Zv (by decide)];exact d.h1,by simp;exact d.h3,⟨d.i.co,λi r hr=>(d.i.cx i r hr).mono λk hk=>Zv (by have:=((d.i.cx i r hr).id hk).1;omega),λi r hr=>(d.i.cy i r hr).mono λk hk=>Zv (by have:=((d.i.cy i r hr).id hk).1;omega),d.i.ne⟩⟩
    refine aMc cs qc hb todo k (i+1) _ _ w (q++[c]) (qr++[[Ek x]]) r g2 (by omega) (by omega) (by simp;omega) d' hn ?_ (ql.app ⟨⟨xT.c (c:=.sl 0) (x:=c) qx,trivial⟩,trivial⟩) ?_ h
    .rw[Z7 (Ze.1 h2).1]
    .exact .cons (ha.get rfl) (.cons (ha.get rfl) (.cons (ha.get rfl) (.cons (by rw[<-aJN (by omega)];exact ha.get rfl) (.cons (ha.get rfl) (.cons (ha.get rfl) (.cons (ha.get rfl) ⟨ha.ln,λ_ _ h=>by cases h⟩))))))
end
section
variable {p:aN}{m:List (Int×List Aaa)}{xn xa xf xm:AV}{w:List RA}{tm:List AV}{H:aY}
variable (qn:Qp (.vw 4 p.Nodes) xn)(qa:Qp (.vw 5 p.Arcs) xa)(qf:Qp (.vw 0 p.Faces) xf)(qm:Qp (.rmp 0 2 m) xm)
theorem aQM{a:Aaa}{e:List AV}(q:Qr (kA 1 a) e): e=[iv a.X,iv a.Y]:=by
 match e,q with
 | [x,y],h=>obtain⟨h1,h2,_⟩:=h;cases h1;cases h2;rfl
theorem aOs{a:Int}{e:List AV}(q:Qr (kA 0 a) e): e=[iv a]:=by
 match e,q with
 | [x],h=>obtain⟨h1,_⟩:=h;cases h1;rfl
include qm in
theorem aLW{n:Nat}{x y z:bC}{i:Int}{a:Aaa}(d:DA xn xa xf w H)(hx:aH tm x=xm)(hy:aH tm y=.ms 1 w.length 0 w.length)(hz:aH tm z=.agg [iv a.X,iv a.Y])(h:eE n m ((w.map RA.a).map arV) a=some i):
 aQ PP (fC PP T n) 0 (.callB 135 [x,y,z]) tm H=some (iv i,H):=by
 have e:cK H xm=dF H xm:=by
  obtain⟨rows,h1,_⟩:=qm.inM
  rcases h1 with⟨rfl,_⟩ | rfl<;>rfl
 obtain⟨A,r,h1,h2⟩:=J3 (a:=.undef) aLN (n:=n) (p:=(m,(w.map RA.a).map arV,a)) (r:=i) h (λr=>⟨r,rfl⟩) (aw:=[dF H xm,dF H (.ms 1 w.length 0 w.length),.agg [iv a.X,iv a.Y]])
  ⟨.p _ _ (aTa qm),.p _ _ (d.i.view d.h1),Qh.mkA ⟨.l _,.l _,trivial⟩,trivial⟩
 have e2:cK H (.ms 1 w.length 0 w.length)=dF H (.ms 1 w.length 0 w.length):=rfl
 have e3:cK H (.agg [iv a.X,iv a.Y])=.agg [iv a.X,iv a.Y]:=rfl
 simp only[aQ,ZH,Yn,hx,hy,hz,e,e2,e3,h1]
 rw[h2];rfl
include qm in
theorem aRF{n:Nat}{k:Int}{x y:bC}(hx:aH tm x=xm)(hy:aH tm y=iv k): ∃a,aQ PP (fC PP T n) 0 (.lookup 3 (.lit bQ) x y false) tm H=some (a,H)/\Qp (.sl 1 ((bD m k).getD [])) a:=by
 have hq:Qt 2 ⟨[(0,.rmp 0 2 m),(1,.lit (.int .i64 k))],List.replicate H.length .gone⟩ ⟨[xm,iv k],H⟩:=⟨rfl,λt v hv=>(by
  match t,hv with
  | 0,hv=>cases hv;exact⟨_,rfl,.p _ _ qm⟩
  | 1,hv=>cases hv;exact⟨_,rfl,.l _⟩
  | _+2,hv=>cases hv),aPK H⟩
 obtain⟨v,A',tv,S',h1,_,h3,h4⟩:=B5 (P:=PP) (T:=T) (cf:=fC PP T n) (n:=n) (d:=some 0) (E:=((⟨C0,[],[],[],[]⟩:En PP T 2 0 .skip).xe GlC.g)) (K:=λtv _=>some tv) (r:=.sl 1 ((bD m k).getD []))
  (En.ok _ _) hq (kt:=3) (z:=.lit bQ) (m:=.tmp 0) (k:=.tmp 1) (ok:=false) (by kernel_rfl)
 rw[aPN h1] at h1
 obtain rfl:=ZE h4
 have e:aQ PP (fC PP T n) 0 (.lookup 3 (.lit bQ) x y false) tm H=aQ PP (fC PP T n) 0 (.lookup 3 (.lit bQ) (.tmp 0) (.tmp 1) false) [xm,iv k] H:=by
  simp only[aQ,hx,hy];rfl
 exact⟨v,e.trans h1,h3.pu trivial⟩
theorem RA.c_le(r:RA){k:Nat}(h:k<=4): k<=r.c.length:=h
def aTE: Bool->Nat
 | true=>3
 | false=>2
def upR(u:Bool)(r:RA)(a':dR)(v:AV): RA:=match u with
 | true=>⟨a',r.o,r.x,v⟩
 | false=>⟨a',r.o,v,r.y⟩
theorem aMa{u:Bool}{j bytes:Nat}{ro:RA}{a':dR}{row:List AV}{kd:Nat}{l:List (den kd)}{e:den kd}(d:DA xn xa xf w H)(hj:w[j]?=some ro)(hr:Qr (kA kd e) row)(h1:row.length=1)(hb:bytes<=100000)(hl:l.length<=200000)(hc:gU kd H (sel ro u) l)(ho:a'.outer=ro.a.outer/\a'.twice=ro.a.twice)(hx:(u=false/\∀H' v,gU kd H' v (l++[e])->gU 18 H' v a'.inner)\/(u=true/\a'.inner=ro.a.inner))(hy:(u=true/\∀H' v,gU kd H' v (l++[e])->gU 0 H' v a'.alone)\/(u=false/\a'.alone=ro.a.alone)):
 ∃k z H',cR 0 H 1 bytes (sel ro u) [row]=some (.ms k z 0 z,H')/\H'[1]?=some (.blk 4 (w.map RA.c))/\H'[2]?=H[2]? /\
  DA xn xa xf (w.set j (upR u ro a' (.ms k z 0 z))) (H'.set 1 (.blk 4 ((w.map RA.c).set j (aU ro.c (aTE u) [.ms k z 0 z])))):=by
 obtain⟨k,es,H',g1,g2,g3,g4,g5,g6,g7⟩:=hc.grow hr h1 hb hl d.h3
 have e1:H'[1]?=some (.blk 4 (w.map RA.c)):=(g5 1 (by omega)).trans d.h1
 refine⟨k,es.length,H',g1,e1,g5 2 (by omega),?_⟩
 have es1:aU ro.c (aTE u) [AV.ms k es.length 0 es.length]=(upR u ro a' (.ms k es.length 0 es.length)).c:=by
  cases u<;>simp only[upR,RA.c,ho.2]<;>rfl
 rw[es1,<-XH]
 have h3:=d.h3
 have hn:∀q,3<=q->(H'.set 1 (dK.blk 4 ((w.set j (upR u ro a' (.ms k es.length 0 es.length))).map RA.c)))[q]?=H'[q]?:=λq hq=>Zv (by omega)
 refine⟨by rw[Zv (by decide),g5 0 (by omega)];exact d.h0,Z7 (by omega),by simp;omega,?_⟩
 have hC:gU kd (H'.set 1 (.blk 4 ((w.set j (upR u ro a' (.ms k es.length 0 es.length))).map RA.c))) (.ms k es.length 0 es.length) (l++[e]):=.inr ⟨k,es,rfl,g2,by rw[hn k g2];exact g3,g4⟩
 refine d.i.upd (u:=u) hj g2 g5 g6 (λq hq=>Zv (Ne.symm hq)) (by cases u<;>exact⟨rfl,ho.1⟩) ?_ ?_ (by cases u<;>rfl) (by cases u<;>rfl)
 .rcases hx with⟨rfl,h⟩ | ⟨rfl,h⟩
  .exact .inl (h _ _ hC)
  .exact .inr ⟨rfl,h,rfl⟩
 .rcases hy with⟨rfl,h⟩ | ⟨rfl,h⟩
  .exact .inl (h _ _ hC)
  .exact .inr ⟨rfl,h,rfl⟩
include qm in
theorem aPT{n N:Nat}(cs:List (List Int))(qr:List (List AV))(qq:Ql 18 cs qr)(hb:cs.length<=200000): ∀(todo:List (List Int)) (k i:Nat) (tm:List AV) (H:aY) (w:List RA) (r:List dR),cs.drop i=todo->todo.length<k->i<=cs.length->
 DA xn xa xf w H->H[2]?=some (.blk 1 qr)->(∀(j:Nat) (s:RA),w[j]?=some s->s.a.inner.length+s.a.alone.length<=i)->At 110 ((43,.ms 2 qr.length 0 qr.length)::(44,iv (qr.length:Nat))::(45,iv i)::dB xm w) tm->dv2 n m todo (w.map RA.a)=some r->
 WL PP (fC PP T n) n 0 N (bl 0x38000000008c 46) false aRH k ⟨tm,H⟩ λx s=>x=.exit 2/\∃w',w'.map RA.a=r/\DA xn xa xf w' s.heap/\(∀(j:Nat) (s:RA),w'[j]?=some s->s.a.inner.length+s.a.alone.length<=cs.length)/\At 110 (dB xm w') s.tmps
 | todo,0,i,tm,H,w,r,_,h,_,_,_,_,_,_=>by omega
 | todo,k+1,i,tm,H,w,r,hd,hk,hi0,d,h2,hs,ha,h=>by
  have hql:qr.length=cs.length:=qq.len
  apply WL.step
  show WC PP (fC PP T n) n 0 aRH ⟨cZ (bl 0x38000000008c 46) tm,H⟩ _
  replace ha:At 110 ((43,.ms 2 qr.length 0 qr.length)::(44,iv (qr.length:Nat))::(45,iv i)::dB xm w) (cZ (bl 0x38000000008c 46) tm):=
   .cons (ha.live _ rfl rfl) (.cons (ha.live _ rfl rfl) (.cons (ha.live _ rfl rfl) (.cons (ha.live _ rfl rfl) (.cons (ha.live _ rfl rfl) (.cons (ha.live _ rfl rfl) (ha.mask _))))))
  generalize cZ (bl 0x38000000008c 46) tm=tm at ha |-
  refine WC.seq (WC.reg (AO.op ha (Mb (ha.get rfl) (ha.get rfl) rfl) λtm ha=>AO.nil ha (WC.seq ?_)))
  cases todo with
  | nil=>
   have hi:cs.length<=i:=by
    have:=congrArg List.length hd
    rw[ZX,Z2] at this;omega
   cases h
   refine WC.condF (ha.get rfl) (YI (by omega)) (WC.exit ⟨rfl,w,rfl,d,λj s hj=>ZB (hs j s hj) hi0,.cons (ha.get rfl) (.cons (ha.get rfl) (.cons (ha.get rfl) ⟨ha.ln,λ_ _ h=>by cases h⟩))⟩)
  | cons c todo=>
   obtain⟨g1,g2,g3⟩:=Hi hd
   simp only[Z5] at hk
   simp only[dv2] at h
   obtain⟨t,e1,h⟩:=bF h
   obtain⟨a,e2,h⟩:=bF h
   obtain⟨ix,e3,h⟩:=bF h
   obtain⟨ra,e4,h⟩:=bF h
   refine WC.condT (ha.get rfl) (Yi (by omega)) (WC.skip (WC.seq (WC.block (WC.seq ?_))))
   obtain⟨row,hrow,q1⟩:=qq.get g1
   obtain⟨x,rfl,qx⟩:∃x,row=[x]/\Qp (.sl 0 c) x:=by
    match row,q1 with
    | [x],h=>exact⟨x,rfl,h.1⟩
   refine WC.reg (AO.op ha (aEr (ha.get rfl) (ha.get rfl) h2 rfl (Wf i) (by simp;omega)) λtm ha=>AO.op ha (Qe (v:=x) (e:=[x]) (ha.get rfl) h2 rfl (by simpa using hrow) (Zg 1) rfl) λtm ha=>AO.mov ha rfl λtm ha=>AO.nil ha (WC.seq (WC.reg ?_)))
   obtain⟨r1,q1,e51⟩:=aHW (P:=PP) (cf:=fC PP T n) (fl:=0) (tm:=[x,iv 0]) (x:=.tmp 0) (i:=.tmp 1) (H:=H) (s:=1) qx.w rfl rfl e1 rfl
   obtain rfl:=aOs q1
   have e51:∀{tm:List AV} {y:bC},aH tm y=x->aQ PP (fC PP T n) 0 (.idxAddr 1 y (.lit z0)) tm H=some (.rptr [iv t],H):=λ{tm y} hy=>by
    rw[<-e51];simp only[aQ,hy];rfl
   have e58:=λ(tm:List AV)=>aRF (H:=H) (n:=n) (tm:=[xm,iv (nF t (wr (0-t)))]) qm (x:=.tmp 0) (y:=.tmp 1) rfl rfl
   obtain⟨b,e58,qb⟩:=e58 tm
   have e58:∀{tm:List AV} {y z:bC},aH tm y=xm->aH tm z=iv (nF t (wr (0-t)))->aQ PP (fC PP T n) 0 (.lookup 3 (.lit bQ) y z false) tm H=some (b,H):=λ{tm y z} hy hz=>by
    rw[<-e58];simp only[aQ,hy,hz];rfl
   obtain⟨r2,q2,e62⟩:=aHW (P:=PP) (cf:=fC PP T n) (fl:=0) (tm:=[b,iv 0]) (x:=.tmp 0) (i:=.tmp 1) (H:=H) (s:=2) qb.w rfl rfl e2 rfl
   obtain rfl:=aQM q2
   have e62:∀{tm:List AV} {y:bC},aH tm y=b->aQ PP (fC PP T n) 0 (.idxAddr 2 y (.lit z0)) tm H=some (.rptr [iv a.X,iv a.Y],H):=λ{tm y} hy=>by
    rw[<-e62];simp only[aQ,hy];rfl
   refine AO.mov ha rfl λtm ha=>AO.mov ha rfl λtm ha=>AO.op ha (e51 (ha.get rfl)) λtm ha=>AO.op ha (aLV (ha.get rfl)) λtm ha=>AO.mov ha rfl λtm ha=>AO.op ha (e51 (ha.get rfl)) λtm ha=>AO.op ha (aLV (ha.get rfl)) λtm ha=>AO.op ha (aUn (ha.get rfl)) λtm ha=>AO.op ha (aUo (ha.get rfl) (ha.get rfl)) λtm ha=>AO.op ha (e58 (ha.get rfl) (ha.get rfl)) λtm ha=>AO.mov ha rfl λtm ha=>AO.nil ha (WC.seq (WC.reg ?_))
   refine AO.mov ha rfl λtm ha=>AO.mov ha rfl λtm ha=>AO.mov ha rfl λtm ha=>AO.op ha (e62 (ha.get rfl)) λtm ha=>AO.op ha (aPP (n:=2) (ha.get rfl) rfl) λtm ha=>AO.op ha (aLW qm d (ha.get rfl) (ha.get rfl) (ha.get rfl) e3) λtm ha=>AO.mov ha rfl λtm ha=>AO.nil ha (WC.reg ?_)
   obtain⟨f1,f2,f3⟩:=pO e4
   obtain⟨ro,f4,rfl⟩:∃ro,w[ix.toNat]?=some ro/\ro.a=ra:=by
    rw[Zl,Zq] at f2;exact f2
   have hlt:ix.toNat<w.length:=(Ze.1 f4).1
   have hbo:=hs _ _ f4
   have f5:(w.map RA.c)[ix.toNat]?=some ro.c:=by rw[Zl,f4];rfl
   obtain⟨kk,z,H',p1,p2,p3,p4⟩:=aMa (u:=false) (bytes:=24) (a':=⟨ro.a.twice,ro.a.outer,ro.a.inner++[c],ro.a.alone⟩) (kd:=18) (l:=ro.a.inner) (e:=c) (row:=[Ek x]) d f4 ⟨xT.c (c:=.sl 0) (x:=c) qx,trivial⟩ rfl (by decide) (by omega) (d.i.cx _ _ f4) ⟨rfl,rfl⟩ (.inl ⟨rfl,λ_ _ h=>h⟩) (.inr ⟨rfl,rfl⟩)
   refine AO.mov ha rfl λtm ha=>AO.mov ha rfl λtm ha=>AO.mov ha rfl λtm ha=>AO.mov ha rfl λtm ha=>AO.op ha (aEr (ha.get rfl) (ha.get rfl) d.h1 (by simp) f1 hlt) λtm ha=>AO.op ha (aEs (ha.get rfl)) λtm ha=>AO.op ha (Qe (v:=ro.x) (ha.get rfl) d.h1 (by simp) f5 (ro.c_le (by decide)) rfl) λtm ha=>AO.mov ha rfl λtm ha=>AO.op ha (aPM qx (ha.get rfl)) λtm ha=>AO.op ha (aLY (ha.get rfl) (by rw[ha.get (k:=73) rfl];rfl) p1) λtm ha=>
    AO.op ha (aEr (ha.get rfl) (ha.get rfl) p2 (by simp) f1 hlt) λtm ha=>AO.op ha (aEs (ha.get rfl)) λtm ha=>AO.sto ha (aUl (ha.get rfl) (ha.get rfl) p2 (by simp) f5 (ro.c_le (by decide)) (by decide)) (AO.nil ha (WC.reg ?_))
   refine AO.op ha (Mb (ha.get rfl) rfl rfl) λtm ha=>AO.mov ha rfl λtm ha=>AO.nil ha ?_
   refine aPT cs qr qq hb todo k (i+1) _ _ _ r g2 (by omega) (by omega) p4 (by rw[Zv (by decide),p3];exact h2) ?_ ?_ (by rw[XH];exact h)
   .intro j s hj
    by_cases e:ix.toNat=j
    .subst e
     rw[Z7 hlt] at hj;cases hj
     simp only[upR,Zi,Ye];omega
    .rw[Zv e] at hj
     exact Xu (hs j s hj)
   .exact .cons (ha.get rfl) (.cons (ha.get rfl) (.cons (by rw[<-aJN (by omega)];exact ha.get rfl) (.cons (ha.get rfl) (.cons (ha.get rfl) (.cons (by rw[Yq];exact ha.get rfl) ⟨ha.ln,λ_ _ h=>by cases h⟩)))))
end
section
variable {p:aN}{m:List (Int×List Aaa)}{xn xa xf xm:AV}{w:List RA}{tm:List AV}{H:aY}
variable (qn:Qp (.vw 4 p.Nodes) xn)(qa:Qp (.vw 5 p.Arcs) xa)(qf:Qp (.vw 0 p.Faces) xf)(qm:Qp (.rmp 0 2 m) xm)
include qn qa qf in
theorem aLX{n:Nat}{x y:bC}{c t:Int}(e:kN n p c=some t)(hx:aH tm x=.agg [xn,xa,xf])(hy:aH tm y=iv c): aQ PP (fC PP T n) 0 (.callB 91 [x,y]) tm H=some (iv t,H):=by
 obtain⟨A,r,h1,h2⟩:=J3 (a:=.undef) aGj (n:=n) (p:=(p,c)) (r:=t) e (λr=>⟨r,rfl⟩) (aw:=[cK H (.agg [xn,xa,xf]),iv c])
  ⟨Qh.mkA ⟨.p _ _ (O5 qn),.p _ _ (O5 qa),.p _ _ (O5 qf),trivial⟩,.l _,trivial⟩
 have e2:cK H (iv c)=iv c:=rfl
 simp only[aQ,ZH,Yn,hx,hy,e2,h1]
 rw[h2];rfl
theorem aRf{a:Aad}{e:List AV}(q:Qr (kA 4 a) e): e=[iv a.ID,iv a.At.X,iv a.At.Y]:=by
 match e,q with
 | [x,y,z],h=>obtain⟨h1,h2,h3,_⟩:=h;cases h1;cases h2;cases h3;rfl
theorem DA.more(d:DA xn xa xf w H)(o:dK): DA xn xa xf w (H++[o]):=by
 have g:∀k,3<=k->k<H.length->(H++[o])[k]?=H[k]?:=λk _ h=>Zp h
 refine⟨hold d.h0,hold d.h1,by simp;have:=d.h3;omega,⟨d.i.co,λi r hr=>(d.i.cx i r hr).mono λk hk=>?_,λi r hr=>(d.i.cy i r hr).mono λk hk=>?_,d.i.ne⟩⟩
 .obtain⟨h3,b,hb⟩:=(d.i.cx i r hr).id hk
  exact g k h3 (Ze.1 hb).1
 .obtain⟨h3,b,hb⟩:=(d.i.cy i r hr).id hk
  exact g k h3 (Ze.1 hb).1
include qn qa qf qm in
theorem aMb{n N:Nat}(hb:p.Nodes.length<=9000): ∀(todo:List Aad) (k i:Nat) (tm:List AV) (H:aY) (w:List RA) (r:List dR),p.Nodes.drop i=todo->todo.length<k->i<=p.Nodes.length->
 DA xn xa xf w H->(∀(j:Nat) (s:RA),w[j]?=some s->s.a.inner.length+s.a.alone.length<=190000+i)->At 110 ((79,xn)::(80,iv (p.Nodes.length:Nat))::(81,iv i)::dB xm w) tm->dv3 n p m todo (w.map RA.a)=some r->
 WL PP (fC PP T n) n 0 N (bl 0x38000000000000000008c 82) false aRG k ⟨tm,H⟩ λx s=>x=.exit 4/\∃w',w'.map RA.a=r/\DA xn xa xf w' s.heap/\At 110 (dB xm w') s.tmps
 | todo,0,i,tm,H,w,r,_,h,_,_,_,_,_=>by omega
 | todo,k+1,i,tm,H,w,r,hd,hk,hi0,d,hs,ha,h=>by
  apply WL.step
  show WC PP (fC PP T n) n 0 aRG ⟨cZ (bl 0x38000000000000000008c 82) tm,H⟩ _
  replace ha:At 110 ((79,xn)::(80,iv (p.Nodes.length:Nat))::(81,iv i)::dB xm w) (cZ (bl 0x38000000000000000008c 82) tm):=
   .cons (ha.live _ rfl rfl) (.cons (ha.live _ rfl rfl) (.cons (ha.live _ rfl rfl) (.cons (ha.live _ rfl rfl) (.cons (ha.live _ rfl rfl) (.cons (ha.live _ rfl rfl) (ha.mask _))))))
  generalize cZ (bl 0x38000000000000000008c 82) tm=tm at ha |-
  refine WC.seq (WC.reg (AO.op ha (Mb (ha.get rfl) (ha.get rfl) rfl) λtm ha=>AO.nil ha (WC.seq ?_)))
  cases todo with
  | nil=>
   have hi:p.Nodes.length<=i:=by
    have:=congrArg List.length hd
    rw[ZX,Z2] at this;omega
   cases h
   exact WC.condF (ha.get rfl) (YI (by omega)) (WC.exit ⟨rfl,w,rfl,d,.cons (ha.get rfl) (.cons (ha.get rfl) (.cons (ha.get rfl) ⟨ha.ln,λ_ _ h=>by cases h⟩))⟩)
  | cons c todo=>
   obtain⟨g1,g2,g3⟩:=Hi hd
   simp only[Z5] at hk
   simp only[dv3] at h
   obtain⟨t,e1,h⟩:=bF h
   refine WC.condT (ha.get rfl) (Yi (by omega)) (WC.skip (WC.seq (WC.block (WC.seq ?_))))
   obtain⟨row,q1,e83⟩:=aHW (P:=PP) (cf:=fC PP T n) (fl:=0) (H:=H) (s:=3) qn (ha.get (k:=79) rfl) (ha.get (k:=81) rfl) (aLF g1) rfl
   obtain rfl:=aRf q1
   have d:=d.more (.blk 3 [[iv c.ID,iv c.At.X,iv c.At.Y]])
   have hH:((H++[dK.blk 3 [[iv 0,iv 0,iv 0]]]).set H.length (.blk 3 [[iv c.ID,iv c.At.X,iv c.At.Y]]))=H++[.blk 3 [[iv c.ID,iv c.At.X,iv c.At.Y]]]:=by
    rw[List.set_append_right _ _ (Zg _),XX];rfl
   have e17:∀{tm:List AV},aQ PP (fC PP T n) 0 (.alloc [z0,z0,z0]) tm H=some (.ptr H.length 1 0 0,H++[.blk 3 [[iv 0,iv 0,iv 0]]]):=rfl
   have est:∀{tm:List AV} {x y:bC},aH tm x=.ptr H.length 1 0 0->aH tm y=.agg [iv c.ID,iv c.At.X,iv c.At.Y]->aQ PP (fC PP T n) 0 (.store 3 x y) tm (H++[.blk 3 [[iv 0,iv 0,iv 0]]])=some (.lit bP,H++[.blk 3 [[iv c.ID,iv c.At.X,iv c.At.Y]]]):=λ{tm x y} hx hy=>by
    rw[<-hH];simp only[aQ,hx,hy,cellsOf,vY,aRz];rfl
   refine WC.reg (AO.op ha e83 λtm ha=>AO.op ha (aPP (n:=3) (ha.get rfl) rfl) λtm ha=>AO.op ha e17 λtm ha=>AO.sto ha (est (ha.get rfl) (ha.get rfl)) (AO.nil ha (WC.seq (WC.reg ?_))))
   have hn:=aRz H (.blk 3 [[iv c.ID,iv c.At.X,iv c.At.Y]])
   generalize H++[.blk 3 [[iv c.ID,iv c.At.X,iv c.At.Y]]]=H2 at d hn |-
   refine AO.op ha (Qe (ha.get rfl) d.h0 rfl rfl (Zg 3) rfl) λtm ha=>AO.op ha (aEs (ha.get rfl)) λtm ha=>AO.op ha (Qe (v:=iv c.ID) (ha.get rfl) hn rfl rfl (Zn rfl) rfl) λtm ha=>AO.op ha (aLX qn qa qf e1 (ha.get rfl) (ha.get rfl)) λtm ha=>AO.op ha (Mb (ha.get rfl) rfl rfl) λtm ha=>AO.nil ha ?_
   cases ht:(t==0) with
   | false=>
    rw[ht] at h
    refine WC.condF (ha.get rfl) ht (WC.skip (WC.reg (AO.op ha (Mb (ha.get rfl) rfl rfl) λtm ha=>AO.mov ha rfl λtm ha=>AO.nil ha ?_)))
    exact aMb hb todo k (i+1) _ _ w r g2 (by omega) (by omega) d (λj s hj=>Xu (hs j s hj)) (.cons (ha.get rfl) (.cons (ha.get rfl) (.cons (by rw[<-aJN (by omega)];exact ha.get rfl) (.cons (ha.get rfl) (.cons (ha.get rfl) (.cons (ha.get rfl) ⟨ha.ln,λ_ _ h=>by cases h⟩)))))) h
   | true=>
    rw[ht] at h
    obtain⟨ix,e3,h⟩:=bF h
    obtain⟨ra,e4,h⟩:=bF h
    refine WC.condT (ha.get rfl) ht (WC.seq (WC.reg ?_))
    refine AO.mov ha rfl λtm ha=>AO.mov ha rfl λtm ha=>AO.op ha (aEs (ha.get rfl)) λtm ha=>AO.op ha (Qe (v:=.agg [iv c.At.X,iv c.At.Y]) (ha.get rfl) hn rfl rfl (Zn rfl) rfl) λtm ha=>AO.op ha (aLW qm d (ha.get rfl) (ha.get rfl) (ha.get rfl) e3) λtm ha=>AO.mov ha rfl λtm ha=>AO.nil ha (WC.reg ?_)
    obtain⟨f1,f2,f3⟩:=pO e4
    obtain⟨ro,f4,rfl⟩:∃ro,w[ix.toNat]?=some ro/\ro.a=ra:=by
     rw[Zl,Zq] at f2;exact f2
    have hlt:ix.toNat<w.length:=(Ze.1 f4).1
    have hbo:=hs _ _ f4
    have f5:(w.map RA.c)[ix.toNat]?=some ro.c:=by rw[Zl,f4];rfl
    obtain⟨kk,z,H',p1,p2,p3,p4⟩:=aMa (u:=true) (bytes:=8) (a':=⟨ro.a.twice,ro.a.outer,ro.a.inner,ro.a.alone++[c.ID]⟩) (kd:=0) (l:=ro.a.alone) (e:=c.ID) (row:=[iv c.ID]) d f4 ⟨.lit _,trivial⟩ rfl (by decide) (by omega) (d.i.cy _ _ f4) ⟨rfl,rfl⟩ (.inr ⟨rfl,rfl⟩) (.inl ⟨rfl,λ_ _ h=>h⟩)
    refine AO.mov ha rfl λtm ha=>AO.mov ha rfl λtm ha=>AO.mov ha rfl λtm ha=>AO.mov ha rfl λtm ha=>AO.op ha (aEr (ha.get rfl) (ha.get rfl) d.h1 (by simp) f1 hlt) λtm ha=>AO.op ha (aEs (ha.get rfl)) λtm ha=>AO.op ha (Qe (v:=ro.y) (ha.get rfl) d.h1 (by simp) f5 (ro.c_le (by decide)) rfl) λtm ha=>AO.op ha (aEs (ha.get rfl)) λtm ha=>AO.op ha (Qe (v:=iv c.ID) (ha.get rfl) hn rfl rfl (Zn rfl) rfl) λtm ha=>AO.op (v:=.sl true [[iv c.ID]]) (H':=H2) ha (by
     simp only[aQ,ZH,Yn,ha.get (k:=103) rfl];rfl) λtm ha=>AO.op ha (aLY (ha.get rfl) (by rw[ha.get (k:=104) rfl];rfl) p1) λtm ha=>
     AO.op ha (aEr (ha.get rfl) (ha.get rfl) p2 (by simp) f1 hlt) λtm ha=>AO.op ha (aEs (ha.get rfl)) λtm ha=>AO.sto ha (aUl (ha.get rfl) (ha.get rfl) p2 (by simp) f5 (ro.c_le (by decide)) (by decide)) (AO.nil ha (WC.reg ?_))
    refine AO.op ha (Mb (ha.get rfl) rfl rfl) λtm ha=>AO.mov ha rfl λtm ha=>AO.nil ha ?_
    refine aMb hb todo k (i+1) _ _ _ r g2 (by omega) (by omega) p4 ?_ ?_ (by rw[XH];exact h)
    .intro j s hj
     by_cases e:ix.toNat=j
     .subst e
      rw[Z7 hlt] at hj;cases hj
      simp only[upR,Zi,Ye];omega
     .rw[Zv e] at hj
      exact Xu (hs j s hj)
    .exact .cons (ha.get rfl) (.cons (ha.get rfl) (.cons (by rw[<-aJN (by omega)];exact ha.get rfl) (.cons (ha.get rfl) (.cons (ha.get rfl) (.cons (by rw[Yq];exact ha.get rfl) ⟨ha.ln,λ_ _ h=>by cases h⟩)))))
end
theorem aJp(n:Nat)(p:aN)(cs:List (List Int))(m:List (Int×List Aaa))(r:List dR)(h:jD n p cs m=some r){xn xa xf xc xm:AV}(qn:Qp (.vw 4 p.Nodes) xn)(qa:Qp (.vw 5 p.Arcs) xa)(qf:Qp (.vw 0 p.Faces) xf)(qc:Qp (.vw 18 cs) xc)(qm:Qp (.rmp 0 2 m) xm):
 ∃w H,fC PP T n 0 111 [.agg [xn,xa,xf],xc,xm] []=some (.ms 1 w.length 0 w.length,H)/\w.map RA.a=r/\DA xn xa xf w H:=by
 cases n with
 | zero=>cases h
 | succ n=>
  rw[jD] at h
  obtain⟨_,eg,h⟩:=bF h
  obtain⟨b1,b2,b3,b4⟩:=Zh (xY eg)
  obtain⟨lq,e1,h⟩:=bF h
  obtain⟨l2,e2,h⟩:=bF h
  have key:WC PP (fC PP T n) n 0 (O0 T 111).body ⟨[.agg [xn,xa,xf],xc,xm]++List.replicate 107 (.lit bP),[]⟩ λx s=>x=.ret/\∃w,w.map RA.a=r/\DA xn xa xf w s.heap/\aH s.tmps (.tmp 6)=.ms 1 w.length 0 w.length:=by
   rw[aOA]
   have ha:At 110 [(0,.agg [xn,xa,xf]),(1,xc),(2,xm)] ([.agg [xn,xa,xf],xc,xm]++List.replicate 107 (.lit bP)):=.cons rfl (.cons rfl (.cons rfl ⟨rfl,λ_ _ h=>by cases h⟩))
   generalize [AV.agg [xn,xa,xf],xc,xm]++List.replicate 107 (.lit bP)=tm at ha
   refine WC.seq (WC.reg (AO.op (v:=.ptr 0 1 0 0) (H':=[.blk 3 [[xn,xa,xf]]]) ha (by simp only[aQ,ha.get (k:=0) rfl];rfl) λtm ha=>AO.op (v:=.sl false []) (H':=[.blk 3 [[xn,xa,xf]]]) ha rfl λtm ha=>AO.nil ha (WC.seq (WC.reg ?_))))
   refine AO.op (v:=.agg [iv 0,.lit bQ,.lit bQ,.lit bQ]) (H':=[.blk 3 [[xn,xa,xf]]]) ha rfl λtm ha=>AO.op (v:=.ms 1 1 0 1) (H':=[.blk 3 [[xn,xa,xf]],.blk 4 [[iv 0,.lit bQ,.lit bQ,.lit bQ]]]) ha (by simp only[aQ,ZH,Yn,ha.get (k:=19) rfl];rfl) λtm ha=>AO.mov ha rfl λtm ha=>AO.nil ha (WC.seq (WC.reg ?_))
   refine AO.op (v:=.ms 2 0 0 0) (H':=[.blk 3 [[xn,xa,xf]],.blk 4 [[iv 0,.lit bQ,.lit bQ,.lit bQ]],.blk 1 []]) ha rfl λtm ha=>AO.nil ha (WC.seq (WC.seq (WC.reg ?_)))
   refine AO.mov ha rfl λtm ha=>AO.op ha (aPO qc (ha.get rfl)) λtm ha=>AO.op (v:=iv 0) ha rfl λtm ha=>AO.nil ha ?_
   have d0:DA xn xa xf [⟨⟨0,[],[],[]⟩,.lit bQ,.lit bQ,.lit bQ⟩] [.blk 3 [[xn,xa,xf]],.blk 4 [[iv 0,.lit bQ,.lit bQ,.lit bQ]],.blk 1 []]:=by
    have g:∀(i:Nat) (r:RA),[(⟨⟨0,[],[],[]⟩,.lit bQ,.lit bQ,.lit bQ⟩:RA)][i]?=some r->r=⟨⟨0,[],[],[]⟩,.lit bQ,.lit bQ,.lit bQ⟩:=λi r hr=>ZJ.1 (Zf hr)
    refine⟨rfl,rfl,Zg 3,⟨λi r hr=>?_,λi r hr=>?_,λi r hr=>?_,λi j r s u v k hr _ hk _=>?_⟩⟩
    .rw[g i r hr];exact Qp.mkS (.inl ⟨rfl,rfl⟩) trivial
    .rw[g i r hr];exact .inl ⟨rfl,rfl⟩
    .rw[g i r hr];exact .inl ⟨rfl,rfl⟩
    .rw[g i r hr] at hk;cases u<;>cases hk
   refine WC.block (WC.mask (WC.loop ((aMc (xm:=xm) qn qa qf cs qc b3 cs n 0 tm _ _ [] [] lq rfl b1 (by simp;omega) (by simp;omega) d0 (λr hr=>by rw[ZJ.1 hr];exact⟨rfl,rfl⟩) rfl trivial (.cons (ha.get rfl) (.cons (ha.get rfl) (.cons (ha.get rfl) (.cons (ha.get rfl) (.cons (ha.get rfl) (.cons (ha.get rfl) (.cons (ha.get rfl) ⟨ha.ln,λ_ _ h=>by cases h⟩))))))) e1).imp ?_)))
   rintro x s ⟨rfl,w,qr,rw1,d1,hn,h2,ql,ha,hw,hq⟩
   show WC PP (fC PP T n) n 0 _ ⟨cZ (bl 0x18c 9) s.tmps,s.heap⟩ _
   replace ha:At 110 ((8,.ms 2 qr.length 0 qr.length)::dB xm w) (cZ (bl 0x18c 9) s.tmps):=.cons (ha.live _ rfl rfl) (.cons (ha.live _ rfl rfl) (.cons (ha.live _ rfl rfl) (.cons (ha.live _ rfl rfl) (ha.mask _))))
   generalize cZ (bl 0x18c 9) s.tmps=tm at ha
   generalize s.heap=H at d1 h2
   refine WC.seq (WC.seq (WC.reg (AO.mov ha rfl λtm ha=>AO.op (v:=iv (qr.length:Nat)) (H':=H) ha (by simp only[aQ,ha.get (k:=43) rfl]) λtm ha=>AO.op (v:=iv 0) ha rfl λtm ha=>AO.nil ha ?_)))
   have hql:qr.length=lq.2.length:=ql.len
   have hin:∀(j:Nat) (s:RA),w[j]?=some s->s.a.inner.length+s.a.alone.length<=0:=λj s hj=>by
    have hm:=hn s (Zf hj)
    have c1:s.a.inner=[]:=by
     rcases d1.i.cx j s hj with⟨_,h⟩ | ⟨k,es,h,_⟩
     .exact h
     .rw[hm.1] at h;cases h
    have c2:s.a.alone=[]:=by
     rcases d1.i.cy j s hj with⟨_,h⟩ | ⟨k,es,h,_⟩
     .exact h
     .rw[hm.2] at h;cases h
    rw[c1,c2];exact Zg _
   have hlq:lq.2.length<=cs.length:=by
    have:∀(cs:List (List Int)) (l:List dR) (q:List (List Int)) (r:List dR×List (List Int)),dv1 n p cs l q=some r->r.2.length<=q.length+cs.length:=by
     intro cs
     induction cs with
     | nil=>intro l q r h;cases h;exact Zg _
     | cons c cs ih=>
      intro l q r h
      simp only[dv1] at h
      obtain⟨t,_,h⟩:=bF h
      simp only[Z5]
      cases ht:decide (t > 0) with
      | true=>rw[ht] at h;have:=ih _ _ _ h;omega
      | false=>rw[ht] at h;have:=ih _ _ _ h;rw[Zi,Ye] at this;omega
    have:=this cs _ _ _ e1
    simp only[Z2] at this;omega
   refine WC.block (WC.mask (WC.loop ((aPT (xn:=xn) (xa:=xa) (xf:=xf) qm lq.2 qr ql (by omega) lq.2 n 0 tm _ w l2 rfl (by omega) (ZF _) d1 h2 hin (.cons (ha.get rfl) (.cons (ha.get rfl) (.cons (ha.get rfl) (.cons (ha.get rfl) (.cons (ha.get rfl) (.cons (ha.get rfl) ⟨ha.ln,λ_ _ h=>by cases h⟩)))))) (by rw[rw1];exact e2)).imp ?_)))
   rintro x s ⟨rfl,w2,rw2,d2,hs2,ha⟩
   show WC PP (fC PP T n) n 0 _ ⟨cZ (bl 0x8c 8) s.tmps,s.heap⟩ _
   replace ha:At 110 (dB xm w2) (cZ (bl 0x8c 8) s.tmps):=.cons (ha.live _ rfl rfl) (.cons (ha.live _ rfl rfl) (.cons (ha.live _ rfl rfl) (ha.mask _)))
   generalize cZ (bl 0x8c 8) s.tmps=tm at ha
   generalize s.heap=H at d2
   refine WC.seq (WC.seq (WC.reg (AO.op ha (aEs (ha.get rfl)) λtm ha=>AO.op ha (Qe (v:=xn) (ha.get rfl) d2.h0 rfl rfl (Zn rfl) rfl) λtm ha=>AO.op ha (aPO qn (ha.get rfl)) λtm ha=>AO.op (v:=iv 0) ha rfl λtm ha=>AO.nil ha ?_)))
   refine WC.block (WC.mask (WC.loop ((aMb qn qa qf qm b4 p.Nodes n 0 tm _ w2 r rfl b2 (ZF _) d2 (λj s hj=>by have:=hs2 j s hj;omega) (.cons (ha.get rfl) (.cons (ha.get rfl) (.cons (ha.get rfl) (.cons (ha.get rfl) (.cons (ha.get rfl) (.cons (ha.get rfl) ⟨ha.ln,λ_ _ h=>by cases h⟩)))))) (by rw[rw2];exact h)).imp ?_)))
   rintro x s ⟨rfl,w3,rw3,d3,ha⟩
   show WC PP (fC PP T n) n 0 _ ⟨cZ (bl 0x80 8) s.tmps,s.heap⟩ _
   replace ha:At 110 [(7,.ms 1 w3.length 0 w3.length)] (cZ (bl 0x80 8) s.tmps):=.cons (ha.live _ rfl rfl) (ha.mask _)
   generalize cZ (bl 0x80 8) s.tmps=tm at ha
   exact WC.seq (WC.reg (AO.mov ha rfl λtm ha=>AO.mov ha rfl λtm ha=>AO.nil ha (WC.ret ⟨rfl,w3,rw3,d3,ha.get rfl⟩)))
  obtain⟨x,s,k1,rfl,w,rfl,d,k2⟩:=key
  refine⟨w,s.heap,?_,rfl,d⟩
  rw[G0 (O0 T 111) (by kernel_rfl)]
  have e:(O0 T 111).nt=110:=by kernel_rfl
  have e2:(O0 T 111).rets=[.tmp 6]:=by kernel_rfl
  rw[e]
  show aFY _ (eQ PP (fC PP T n) n 0 (O0 T 111).body ⟨[.agg [xn,xa,xf],xc,xm]++List.replicate 107 (.lit bP),[]⟩)=_
  rw[k1]
  simp only[aFY,e2,lH,Pv,k2,jV]
theorem aGh: FOK PP T 111 ⟨[.w 6,.w 31,.w 32],[36],true,λn p=>jD n p.1 p.2.1 p.2.2⟩:=by
 rintro n ⟨p,cs,m⟩ r h aw q
 match aw,q with
 | [pl,xc,xm],q=>
 obtain⟨q1,q2,q3,_⟩:=q
 obtain⟨b,rfl,q4⟩:=Qh.inA (cs:=[.vw 4 p.Nodes,.vw 5 p.Arcs,.vw 0 p.Faces]) q1
 clear q1
 match b,q4 with
 | [xn,xa,xf],q4=>
 obtain⟨qn,qa,qf,_⟩:=q4
 replace qn:=Qh.pu (v:=.vw 4 p.Nodes) qn trivial
 replace qa:=Qh.pu (v:=.vw 5 p.Arcs) qa trivial
 replace qf:=Qh.pu (v:=.vw 0 p.Faces) qf trivial
 have qc:Qp (.vw 18 cs) xc:=Qh.pu (v:=.vw 18 cs) q2 trivial
 have qm:Qp (.rmp 0 2 m) xm:=Qh.pu (v:=.rmp 0 2 m) q3 trivial
 obtain⟨w,H,k1,rfl,d⟩:=aJp n p cs m r h qn qa qf qc qm
 have hw:(w.map RA.c).length=w.length:=ZR _
 refine⟨[.ms 1 w.length 0 w.length],H,k1,?_,?_,?_⟩
 .intro H1
  refine⟨.p _ _ ?_,trivial⟩
  show Qp (.sl 35 (w.map RA.a)) (eD H 0 6 (.ms 1 w.length 0 w.length))
  simp only[eD,ZF,Zy,rd,d.h1,hw,YB]
  rw[ZC (by simp)]
  exact Qp.mkS (.inr ⟨_,rfl⟩) (d.i.rows (d:=4) λk _=>rfl)
 .intro a ha l e
  rw[ZJ.1 ha] at e;cases e
 .intro _ k y us hv
  cases hv
  refine⟨_,[],_,rfl,?_,d.i.rows (d:=5) (H':=H.set 1 (.blk 4 (w.map RA.c++[List.replicate 4 .undef]))) λk hk=>Zv (by omega)⟩
  simp only[SN,d.h1,hw,Y8,Xz]
  rfl
def UT: Kn:=⟨111,_,aGh⟩
end
end
end Go.Proofs.YtglfoebmkbglgaaGreatDoor.Av
