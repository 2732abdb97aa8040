/- A part of the proof of a law. -/
import Derived.Test.YtmcgghedgfkjiaaGreatDoorP7
set_option maxRecDepth 100000
set_option maxHeartbeats 4000000
set_option linter.all false
namespace Go.Proofs.YtmcgghedgfkjiaaGreatDoor.Av
open Go
section
variable {R:Type}(n:Nat)
noncomputable section
def Rw(n:Nat): (List aZ×Int)->((Bool->Option R)×Unit)->Unit->Option R:=λ(a,b) (c,_) _=>bnd (idx a b) λd=>cd ((ln d.Via) > 20) (c true)<|bnd (idx a b) λf=>cd ((ln f.Parts) > 20) (c true)<|bnd (idx a b) λg=>cd (((g.Name.size:Nat):Int) > 100) (c true)<|c false
def Kr:=eO Rw
def N6: Lc 11 0 1:=bJ 0x94a332aea65302b1053af5a C0 [] [] @Rw
def Ah: (List aZ)->(Int->Option R)->((Unit->Option R)×(Unit->Option R)×Unit)->Int->Option R:=λa b (c,d,_) f=>cd (f<(ln a)) (cd (f<7) (bnd (Kr n (a,f)) λg=>cnd g (c ())<|b<|wr<|f+1)<|d ())<|d ()
def aCO:=mR Ah
def N7: Lc 11 0 0:=bI 0x84c602492c0745702f3029d4f5 C0 [⟨0,[cs N6]⟩] [] @Ah
def SL: Nat->(List aZ)->Option Bool
 | 0,_=>none
 | n+1,a=>bnd2 (aCO n a 0) (λ_=>some false) λb=>bnd (some b) λ_=>cd ((ln a)<=6) (some true)<|some false
def aFf: Kn:=bG 11 0x3d0176 C0 [⟨0,[N7]⟩] [] SL
abbrev C1:=aFf::C0
def Rv: (List bD×Int)->((Bool->Option R)×Unit)->Unit->Option R:=λ(a,b) (c,_) _=>bnd (idx a b) λd=>cd (((d.Source.size:Nat):Int) > 100) (c true)<|bnd (idx a b) λf=>bnd (SL n f.Edits) λg=>cnd g (c false)<|c true
def MM:=eO Rv
def N3: Lc 2 0 1:=bJ 0x94a332ac3fdf0ac9c8f5715 C1 [] [] @Rv
def Ag: (List bD)->(Int->Option R)->((Unit->Option R)×(Unit->Option R)×Unit)->Int->Option R:=λa b (c,d,_) f=>cd (f<(ln a)) (bnd (MM n (a,f)) λg=>cnd g (c ())<|b<|wr<|f+1)<|d ()
def aCN:=mR Ag
def N4: Lc 2 0 0:=bI 0x29ad722ce9ae C1 [⟨0,[cs N3]⟩] [] @Ag
def SK: Nat->(List bD)->Option Bool
 | 0,_=>none
 | n+1,a=>cd ((ln a) > 14) (some false)<|bnd2 (aCN n a 0) (λ_=>some false) λb=>bnd (some b) λ_=>some true
def aFe: Kn:=bG 2 0x2dd7513bc C1 [⟨0,[N4]⟩] [] SK
abbrev C2:=aFe::C1
def Jv: Nat->Int->Option (bT×Int)
 | 0,_=>none
 | n+1,a=>cd (a<1) (some ((bT.mk 0 []),2))<|cd (a > 8) (some ((bT.mk 0 []),2))<|some ((bT.mk a []),0)
def aBT: Kn:=bG 12 0x28d4a528f99a C2 [] [] Jv
abbrev C3:=aBT::C2
def N5: Nat->Int->Int->Option (List aZ)
 | 0,_,_=>none
 | n+1,a,b=>some [(aZ.mk 1 a 0 0 0 (Aaa.mk b 0) [] (⟨#[]⟩:ByteArray) [])]
def aGJ: Kn:=bG 13 0x99f506b2e6dab694945f C3 [] [] N5
abbrev C4:=aGJ::C3
def Bs(n:Nat): (fV×Int)->((Bool->Option R)×Unit)->Unit->Option R:=λ(a,b) (c,_) _=>cd (a.first<=b) (cd (b<=a.last) (c true)<|c false)<|c false
def VP:=eO Bs
def KD: Lc 100 0 1:=bJ 0xf34956811fcdcc67149e159b47fd12277f8d45f3140f37670 C4 [] [] @Bs
def pO: (Int×wU)->(Int->Option R)->(((fV×Int)->Option R)×(Unit->Option R)×Unit)->Int->Option R:=λ(a,b) c (d,f,_) g=>cd (g<13) (bnd (idx ([b.e0,b.e1,b.e2,b.e3,b.e4,b.e5,b.e6,b.e7,b.e8,b.e9,b.e10,b.e11,b.e12]:List fV) g) λh=>bnd (VP n (h,a)) λi=>cnd i (d (h,h.script))<|c<|wr<|g+1)<|f ()
def VQ:=mR pO
def KE: Lc 100 0 0:=bI 0x654f963454c7ca6436dc7d170a41cdc34903cbdb1720d9f5a8956089ee C4 [⟨0,[cs KD]⟩] [] @pO
def wK: Nat->Int->Option Int
 | 0,_=>none
 | n+1,a=>cd (a<0) (some (-1))<|cd (a > 1114111) (some (-1))<|bnd2 (VQ n ((IntKind.i32.wrap a),(wU.mk (fV.mk 32 32 0) (fV.mk 39 41 0) (fV.mk 45 46 0) (fV.mk 48 57 0) (fV.mk 65 90 1) (fV.mk 97 122 1) (fV.mk 192 214 1) (fV.mk 216 246 1) (fV.mk 248 591 1) (fV.mk 880 1023 2) (fV.mk 1024 1279 3) (fV.mk 1488 1514 4)<|fV.mk 19968 40959 5)) 0) (λb=>some b.2) λc=>bnd (some c) λ_=>some (-1)
def G6: Kn:=bG 100 0x6e3d4f C4 [⟨0,[KE]⟩] [] wK
abbrev C5:=G6::C4
def pP: Unit->((List Int×(ByteArray×Nat))->Option R)->(((List Int×(ByteArray×Nat))->Option R)×((List Int×(ByteArray×Nat))->Option R)×Unit)->(List Int×(ByteArray×Nat))->Option R:=λ_ a (b,c,_) (d,f)=>cd (f.2<f.1.size) (bnd (wK n<|wr (((Utf8.decode f.1 f.2).1:Nat):Int)) λg=>cd (g<0) (b (d,(f.1,(f.2+(Utf8.decode f.1 f.2).2))))<|bnd (app d [(wr (((Utf8.decode f.1 f.2).1:Nat):Int))]) λh=>a (h,(f.1,(f.2+(Utf8.decode f.1 f.2).2))))<|c (d,(f.1,f.2))
def VR:=mR pP
def KF: Lc 98 0 0:=bI 0x2d8fb7bdb734f52bd215cb87b18abdbf41fe1bdf6750cefae494ca5d8d4ee50ab7220a6b8c72e59786df33727d864 C5 [] [] @pP
def Jz: Nat->ByteArray->Option (List Int×Int)
 | 0,_=>none
 | n+1,a=>bnd2 (VR n () ([],(a,0))) (λ_=>some ([],4)) λb=>bnd (some b) λc=>some (c.1,0)
def G7: Kn:=bG 98 0x171271dcd43f53bf2f C5 [⟨0,[KF]⟩] [] Jz
abbrev C6:=G7::C5
def aS5: Kn:=aUK 99 11 4 rfl (λn p=>aAS n p.1 p.2) λn p r h=>by obtain⟨m,h1⟩:=aSn h;exact⟨m,p.1,p.2,r,h1,rfl,h,rfl⟩
abbrev C7:=aS5::C6
def Ph: ByteArray->((Bool->Option R)×Unit)->Unit->Option R:=λa (b,_) _=>bnd (sat a 0) λc=>cnd (c==32) (b true)<|bnd (sat a<|wr<|((a.size:Nat):Int)-1) λd=>cnd (d==32) (b true)<|bnd (aAS n a (⟨#[32,32]⟩:ByteArray)) λf=>cnd f (b true)<|b false
def aBX:=eO Ph
def D9: Lc 70 0 0:=bJ 0xf80129b66d0a58fd6bad9d389c C7 [] [] @Ph
def yH: (List Int×List Int×Int)->(Int->Option R)->((Unit->Option R)×(Unit->Option R)×Unit)->Int->Option R:=λ(a,b,c) d (f,g,_) h=>cd (h<c) (bnd (idx b h) λi=>bnd (wK n i) λj=>cnd (j != 0) (f ())<|d<|wr<|h+1)<|g ()
def aBY:=mR yH
def E0: Lc 70 0 1:=bI 0x2c1ed4d10c9303a50b5054cd135ff5f4b7e5e3 C7 [] [] @yH
def aAB: Nat->ByteArray->Option (List Int×Int)
 | 0,_=>none
 | n+1,a=>cd (a=(⟨#[]⟩:ByteArray)) (some ([],14))<|cd (((a.size:Nat):Int) > 40) (some ([],3))<|bnd (Jz n a) λb=>cnd (b.2 != 0) (some ([],b.2))<|bnd (aBX n a) λc=>cnd c (some ([],14))<|bnd2 (aBY n (b.1,b.1,(ln b.1)) 0) (λ_=>some (b.1,0)) λd=>bnd (some d) λ_=>some ([],14)
def aDW: Kn:=bG 70 0x1eb15b06ac6fd37 C7 [⟨0,[D9]⟩,⟨1,[E0]⟩] [] aAB
abbrev C8:=aDW::C7
def rQ: Nat->ByteArray->Option Int
 | 0,_=>none
 | n+1,a=>bnd (aAB n a) λb=>some b.2
def aBZ: Kn:=bG 49 0x52da5d877 C8 [] [] rQ
abbrev C9:=aBZ::C8
def dM: Nat->Int->Option Int
 | 0,_=>none
 | n+1,a=>cnd (a==1) (some 1)<|cnd (a==2) (some 1)<|cnd (a==8) (some 1)<|cnd (a==3) (some 2)<|cnd (a==4) (some 2)<|cnd (a==5) (some 3)<|cnd (a==6) (some 3)<|cnd (a==7) (some 3)<|some 0
def VV: Kn:=bG 71 0x6e3d4f C9 [] [] dM
abbrev C10:=VV::C9
def Dd(n:Nat): Int->((Bool->Option R)×Unit)->Unit->Option R:=λa (b,_) _=>cnd (a==1) (b true)<|cnd (a==3) (b true)<|b false
def Mc:=eO Dd
def LX: Lc 72 0 1:=bJ 0xd4163035290fa37850b2613594e27 C10 [] [] @Dd
def De: aZ->((aZ->Option R)×Unit)->Unit->Option R:=λa (b,_) _=>bnd (Mc n a.Kind) λc=>cnd c (b<|aZ.mk a.Kind a.ID a.A a.B a.C (Aaa.mk 0 0) a.Via a.Name a.Parts)<|cnd (a.Kind==4) (b<|aZ.mk a.Kind a.ID 0 0 0 a.At [] a.Name a.Parts)<|cnd (a.Kind==6) (b<|aZ.mk a.Kind a.ID a.A a.B a.C a.At [] a.Name a.Parts)<|cnd (a.Kind==7) (b<|aZ.mk a.Kind a.ID 0 0 a.C a.At a.Via (⟨#[]⟩:ByteArray) [])<|cnd (a.Kind==9) (b<|aZ.mk a.Kind a.ID a.A a.B a.C a.At a.Via (⟨#[]⟩:ByteArray) a.Parts)<|cnd (a.Kind==10) (b<|aZ.mk a.Kind a.ID a.A 0 a.C a.At a.Via a.Name a.Parts)<|cnd (a.Kind==11) (b<|aZ.mk a.Kind a.ID a.A a.B a.C a.At a.Via a.Name [])<|cnd (a.Kind==12) (b<|aZ.mk a.Kind a.ID 0 a.B a.C a.At a.Via a.Name a.Parts)<|b a
def Md:=eO De
def LY: Lc 72 0 0:=bJ 0x7cd5636d7e260d2f69b98b4 C10 [⟨0,[cs LX]⟩] [] @De
def Dc(n:Nat): aZ->((Bool->Option R)×Unit)->Unit->Option R:=λa (b,_) _=>cnd (a.A != 0) (b true)<|cnd (a.B != 0) (b true)<|cnd (a.C != 0) (b true)<|cd (a.At=(Aaa.mk 0 0)) (cd ((ln a.Via) > 0) (b true)<|cd (a.Name=(⟨#[]⟩:ByteArray)) (cd ((ln a.Parts) > 0) (b true)<|b false)<|b true)<|b true
def Mb:=eO Dc
def LW: Lc 72 0 2:=bJ 0x714e50 C10 [] [] @Dc
def Ke: Nat->aZ->Option Bool
 | 0,_=>none
 | n+1,a=>bnd (Md n a) λb=>bnd (Mb n b) λc=>cnd c (some true)<|some false
def K5: Kn:=bG 72 0x228422636 C10 [⟨0,[LY]⟩,⟨2,[LW]⟩] [] Ke
abbrev C11:=K5::C10
def J9: Nat->Int->Option Bool
 | 0,_=>none
 | n+1,a=>cd (1<=a) (cd (a<=1073741824) (some true)<|some false)<|some false
def RH: Kn:=bG 101 0xb7d C11 [] [] J9
abbrev C12:=RH::C11
def KO(n:Nat): (aJW×Aaa)->((Bool->Option R)×Unit)->Unit->Option R:=λ(a,b) (c,_) _=>cd (a.X0<=b.X) (cd (b.X<=a.X1) (cd (a.Y0<=b.Y) (cd (b.Y<=a.Y1) (c true)<|c false)<|c false)<|c false)<|c false
def H9:=eO KO
def aCw: Lc 124 0 0:=bJ 0x1f5b452219506b2 C12 [] [] @KO
def aCx: Nat->aJW->Aaa->Option Bool
 | 0,_,_=>none
 | n+1,a,b=>bnd (H9 n (a,b)) λc=>cnd c (some true)<|some false
def aJ5: Kn:=bG 124 0x1e613d985553d08 C12 [⟨0,[aCw]⟩] [] aCx
abbrev C13:=aJ5::C12
def sG(n:Nat): Int->((Bool->Option R)×Unit)->Unit->Option R:=λa (b,_) _=>cd (1<=a) (cd (a<=1073741824) (b true)<|b false)<|b false
def eF:=sU sG
def RS: Ic:=cD 101 0 1 0xcd5f5e9e81e28b5377c8 C13 [] [] @sG
def sF: Aaa->((Bool->Option R)×Unit)->Unit->Option R:=λa (b,_) _=>bnd (aCx n (aJW.mk (-1048576) (-1048576) 1048576 1048576) a) λc=>cnd c (b false)<|b true
def hM:=sU sF
def RQ: Ic:=cD 102 0 2 0x250cbea2169cabb25c3a2da6c50be2cc5d8b2e C13 [] [] @sF
def RM: Ic:=cD 102 4 2 0x41912fa728857b477dfe1e303b6714d4 C13 [] [] @sF
def sE: (List Aaa×Int)->(Int->Option R)->((Int->Option R)×(Unit->Option R)×Unit)->Int->Option R:=λ(a,b) c (d,f,_) g=>cd (g<b) (bnd (idx a g) λh=>bnd (hM n h) λi=>cnd i (d g)<|c<|wr<|g+1)<|f ()
def K1:=mR sE
def RJ: Lc 125 0 0:=bI 0x12014b37439a3fd99c4c2a48ae6f7c3abf47a0df7bebfb3 C13 [] [RM] @sE
def Gu: (List Aaa)->((Int->Option R)×Unit)->Unit->Option R:=λa (b,_) _=>bnd2 (K1 n (a,(ln a)) 0) (λc=>b c) λd=>bnd (some d) λ_=>b (-1)
def Qz:=sU Gu
def RN: Ic:=cD 125 0 2 0x741d2a81a66dfc33f84817d500 C13 [⟨0,[RJ]⟩] [] @Gu
def Gv: (List Aaa)->((Bool->Option R)×Unit)->Unit->Option R:=λa (b,_) _=>bnd (Qz n a) λc=>cd (c>=0) (b true)<|b false
def hK:=sU Gv
def RO: Ic:=cD 103 0 2 0x7412b2811fd9e1cd1ab64d816b C13 [] [RN] @Gv
def LK: Ic:=cD 101 4 1 0x9a6b36538f4f84fae6d9b78 C13 [] [] @sG
def Cw: Int->((Bool->Option R)×Unit)->Unit->Option R:=λa (b,_) _=>bnd (eF n a) λc=>cnd c (b false)<|b true
def Lw:=sU Cw
def LL: Ic:=cD 104 4 2 0x219c733cdab94b4c266d8 C13 [] [LK] @Cw
def sD: (List Int×Int)->(Int->Option R)->((Int->Option R)×(Unit->Option R)×Unit)->Int->Option R:=λ(a,b) c (d,f,_) g=>cd (g<b) (bnd (idx a g) λh=>bnd (Lw n h) λi=>cnd i (d g)<|c<|wr<|g+1)<|f ()
def K0:=mR sD
def RI: Lc 126 0 0:=bI 0xd88d76c565350419f8bfbff6690dd9af25256da2a5ce716ef C13 [] [LL] @sD
def Gs: (List Int)->((Int->Option R)×Unit)->Unit->Option R:=λa (b,_) _=>bnd2 (K0 n (a,(ln a)) 0) (λc=>b c) λd=>bnd (some d) λ_=>b (-1)
def Qy:=sU Gs
def RK: Ic:=cD 126 0 2 0xe036e754c27177aebdcbb29b164b8 C13 [⟨0,[RI]⟩] [] @Gs
def Gt: (List Int)->((Bool->Option R)×Unit)->Unit->Option R:=λa (b,_) _=>bnd (Qy n a) λc=>cd (c>=0) (b true)<|b false
def hJ:=sU Gt
def RL: Ic:=cD 105 0 2 0xe46df9b3055b6eabf68c44fb1b0f9 C13 [] [RK] @Gt
def Cv(n:Nat): Int->((Bool->Option R)×Unit)->Unit->Option R:=λa (b,_) _=>cnd (a==7) (b true)<|cnd (a==10) (b true)<|b false
def Lv:=eO Cv
def LJ: Lc 73 0 0:=bJ 0x1b79a4b2b6113ab38460ed566450def3a9e9899df C13 [] [] @Cv
def Cu(n:Nat): aZ->((Bool->Option R)×Unit)->Unit->Option R:=λa (b,_) _=>cd (a.B<1) (b true)<|cd (a.B > 9) (b true)<|b false
def Lu:=eO Cu
def LH: Lc 73 0 1:=bJ 0x1ae7ea7988c41da32d426b0949e8b037122a49433515 C13 [] [] @Cu
def Ra: Nat->aZ->Option Bool
 | 0,_=>none
 | n+1,a=>cnd (a.Kind==4) (bnd (eF n a.A) λb=>cnd b (bnd (eF n a.B) λc=>cnd c (bnd (eF n a.ID) λd=>cnd d (cd (a.C<(-1073741824)) (some false)<|cd (a.C > 1073741824) (some false)<|bnd (hM n a.At) λf=>cnd f (some false)<|bnd (hK n a.Via) λg=>cnd g (some false)<|bnd (hJ n a.Parts) λh=>cnd h (some false)<|some true)<|some false)<|some false)<|some false)<|cnd (a.Kind==12) (bnd (eF n a.A) λi=>cnd i (bnd (eF n a.ID) λj=>cnd j (cd (a.C<(-1073741824)) (some false)<|cd (a.C > 1073741824) (some false)<|bnd (hM n a.At) λl=>cnd l (some false)<|bnd (hK n a.Via) λm=>cnd m (some false)<|bnd (hJ n a.Parts) λo=>cnd o (some false)<|some true)<|some false)<|some false)<|bnd (Lv n a.Kind) λr=>cnd r (bnd (Lu n a) λs=>cnd s (some false)<|bnd (eF n a.ID) λt=>cnd t (cd (a.C<(-1073741824)) (some false)<|cd (a.C > 1073741824) (some false)<|bnd (hM n a.At) λu=>cnd u (some false)<|bnd (hK n a.Via) λv=>cnd v (some false)<|bnd (hJ n a.Parts) λw=>cnd w (some false)<|some true)<|some false)<|bnd (eF n a.ID) λx=>cnd x (cd (a.C<(-1073741824)) (some false)<|cd (a.C > 1073741824) (some false)<|bnd (hM n a.At) λy=>cnd y (some false)<|bnd (hK n a.Via) λz=>cnd z (some false)<|bnd (hJ n a.Parts) λa0=>cnd a0 (some false)<|some true)<|some false
def U4: Kn:=bG 73 0x228422636 C13 [⟨0,[LJ]⟩,⟨1,[LH]⟩] [RS,RQ,RO,RL] Ra
abbrev C14:=U4::C13
def kZ(n:Nat): (List Int)->(Int->Option R)->((Unit->Option R)×(Unit->Option R)×Unit)->Int->Option R:=λa b (c,d,_) f=>cd (f<(ln a)) (bnd (idx a<|wr<|f-1) λg=>bnd (idx a f) λh=>cd (g>=h) (c ())<|b<|wr<|f+1)<|d ()
def Pn:=mR kZ
def QH: Lc 74 0 0:=bI 0x29ad7209e94f C14 [] [] @kZ
def tP: Nat->(List Int)->Option Bool
 | 0,_=>none
 | n+1,a=>bnd2 (Pn n a 1) (λ_=>some false) λb=>bnd (some b) λ_=>some true
def T5: Kn:=bG 74 0x2defcb C14 [⟨0,[QH]⟩] [] tP
abbrev C15:=T5::C14
def Mk(n:Nat): aZ->((Bool->Option R)×Unit)->Unit->Option R:=λa (b,_) _=>cd (a.Kind<1) (b true)<|cd (a.Kind > 12) (b true)<|b false
def BR:=eO Mk
def c9: Lc 50 0 0:=bJ 0x34b49bfcb3b8 C15 [] [] @Mk
def Mj: aZ->((Bool->Option R)×Unit)->Unit->Option R:=λa (b,_) _=>cnd (a.Kind==7) (bnd (dM n a.A) λc=>cnd (c==0) (b true)<|b false)<|b false
def BQ:=eO Mj
def c8: Lc 50 0 1:=bJ 0x34b2944e1249 C15 [] [] @Mj
def Mi(n:Nat): aZ->((Bool->Option R)×Unit)->Unit->Option R:=λa (b,_) _=>cd ((ln a.Via) > 64) (b true)<|cd ((ln a.Parts) > 64) (b true)<|b false
def BO:=eO Mi
def c7: Lc 50 0 2:=bJ 0x34b29ba69cc6 C15 [] [] @Mi
def Mh: aZ->((Bool->Option R)×Unit)->Unit->Option R:=λa (b,_) _=>cd (a.Name=(⟨#[]⟩:ByteArray)) (b false)<|bnd (rQ n a.Name) λc=>cnd (c != 0) (b true)<|b false
def BN:=eO Mh
def b9: Lc 50 0 3:=bJ 0x267a539cf02b469 C15 [] [] @Mh
def Kg: Nat->aZ->Option Int
 | 0,_=>none
 | n+1,a=>bnd (BR n a) λb=>cnd b (some 9)<|bnd (BQ n a) λc=>cnd c (some 9)<|bnd (Ke n a) λd=>cnd d (some 1)<|bnd (BO n a) λf=>cnd f (some 3)<|bnd (Ra n a) λg=>cnd g (bnd (tP n a.Parts) λh=>cnd h (bnd (BN n a) λi=>cnd i (some 14)<|some 0)<|some 10)<|some 2
def aCD: Kn:=bG 50 0x25728ae19 C15 [⟨0,[c9]⟩,⟨1,[c8]⟩,⟨2,[c7]⟩,⟨3,[b9]⟩] [] Kg
abbrev C16:=aCD::C15
def Nl(n:Nat): bD->((Bool->Option R)×Unit)->Unit->Option R:=λa (b,_) _=>cd (a.Office<1) (b true)<|cd (a.Office > 8) (b true)<|cd (a.Seq<1) (b true)<|cd (a.Seq > 1073741824) (b true)<|cd (a.Time<0) (b true)<|cd (a.Time > 1073741824) (b true)<|b false
def HN:=eO Nl
def v5: Lc 27 0 0:=bJ 0x279d061331acdcb C16 [] [] @Nl
def Nk: bD->((Unit->Option R)×(Int->Option R)×Unit)->Unit->Option R:=λa (b,c,_) _=>cd (a.Source=(⟨#[]⟩:ByteArray)) (b ())<|bnd (rQ n a.Source) λd=>cnd (d != 0) (c d)<|b ()
def HL:=pc2 Nk
def u9: Lc 27 0 1:=bJ 0x16cacf381433a757a131f8a80bf88f028e3b2561e C16 [] [] @Nk
def Nj(n:Nat): bD->((Bool->Option R)×Unit)->Unit->Option R:=λa (b,_) _=>cd ((ln a.Edits)<1) (b true)<|cd ((ln a.Edits) > 64) (b true)<|b false
def HK:=eO Nj
def u7: Lc 27 0 2:=bJ 0x279d0e2540dd340 C16 [] [] @Nj
def xH: (List aZ×Int)->(Int->Option R)->(((aZ×Int)->Option R)×(Unit->Option R)×Unit)->Int->Option R:=λ(a,b) c (d,f,_) g=>cd (g<b) (bnd (idx a g) λh=>bnd (Kg n h) λi=>cnd (i != 0) (d (h,i))<|c<|wr<|g+1)<|f ()
def aBu:=mR xH
def v6: Lc 27 0 3:=bI 0x1dddbe7160d9a49ffd0f97f71c19d6000cfe3a803 C16 [] [] @xH
def qR: Nat->bD->Option Int
 | 0,_=>none
 | n+1,a=>bnd (HN n a) λb=>cnd b (some 2)<|bnd2 (HL n a) (λ_=>bnd (HK n a) λc=>cnd c (some 3)<|bnd2 (aBu n (a.Edits,(ln a.Edits)) 0) (λd=>some d.2) λf=>bnd (some f) λ_=>some 0) λg=>bnd (some g) λh=>some h
def aDl: Kn:=bG 27 0x2573c81a3 C16 [⟨0,[v5]⟩,⟨1,[u9]⟩,⟨2,[u7]⟩,⟨3,[v6]⟩] [] qR
abbrev C17:=aDl::C16
def fJ: Nat->Int->Option Bool
 | 0,_=>none
 | n+1,a=>cnd (a != a) (some true)<|some false
def d7: Kn:=bG 75 0xb7d C17 [] [] fJ
abbrev C18:=d7::C17
def cC: Nat->Int->Int->Option Int
 | 0,_,_=>none
 | n+1,a,b=>bnd (fJ n a) λc=>cnd c (bnd (fJ n b) λd=>cnd d (some 0)<|some (-1))<|bnd (fJ n b) λf=>cnd f (some 1)<|cd (a<b) (some (-1))<|cd (a > b) (some 1)<|some 0
def ME: Kn:=bG 56 0x63ebdb1a9 C18 [] [] cC
abbrev C19:=ME::C18
def uS(n:Nat): (List Int×Int)->(Int->Option R)->((Int->Option R)×(Unit->Option R)×Unit)->Int->Option R:=λ(a,b) c (d,f,_) g=>cd (g<b) (bnd (idx a g) λh=>cnd (h != 0) (d h)<|c<|wr<|g+1)<|f ()
def V4:=mR uS
def d8: Lc 57 0 0:=bI 0x17f3bde80613dffe7ffd464f3211840d6475cc9192a5 C19 [] [] @uS
def Ad: Nat->(List Int)->Option Int
 | 0,_=>none
 | n+1,a=>bnd2 (V4 n (a,(ln a)) 0) (λb=>some b) λc=>bnd (some c) λ_=>some 0
def aCE: Kn:=bG 57 0x31d610 C19 [⟨0,[d8]⟩] [] Ad
abbrev C20:=aCE::C19
def eT: Nat->bD->bD->Option Int
 | 0,_,_=>none
 | n+1,a,b=>bnd (cC n a.Time b.Time) λc=>bnd (cC n a.Office b.Office) λd=>bnd (cC n a.Seq b.Seq) λf=>bnd (Ad n [c,d,f]) λg=>some g
def PH: Kn:=bG 32 0x1ec1db0ae29c4ec061 C20 [] [] eT
abbrev C21:=PH::C20
def Bn(n:Nat): bT->((Bool->Option R)×Unit)->Unit->Option R:=λa (b,_) _=>cd (a.ID<1) (b true)<|cd (a.ID > 8) (b true)<|cd ((ln a.Txns) > 256) (b true)<|b false
def Lo:=eO Bn
def JC: Lc 17 0 0:=bJ 0x279d00fa522e154 C21 [] [] @Bn
def Bm: (bT×(List<|Aac×Bool)×bD×Int×Int×Int)->((Bool->Option R)×Unit)->Unit->Option R:=λ(a,b,c,d,f,g) (h,_) _=>bnd (qR n c) λi=>cnd (i != 0) (h true)<|cd (g > 0) (bnd (idx a.Txns<|wr<|g-1) λj=>bnd (eT n j c) λl=>cd (l>=0) (h true)<|cnd ((Option.getD (cE b<|Aac.mk d f) false)) (h true)<|h false)<|cnd ((Option.getD (cE b<|Aac.mk d f) false)) (h true)<|h false
def Ln:=eO Bm
def JB: Lc 17 0 2:=bJ 0x1753f7c7bb7956282628fba4deb14d7155cf2068bffa89e7968a1c01c7555c01f2fae9d00de47eebe837a5c906e488f926a C21 [] [] @Bm
def pG: (bT×List bD×Int)->(((List<|Aac×Bool)×Int)->Option R)->((((List<|Aac×Bool)×bD×Int×Int)->Option R)×(((List<|Aac×Bool))->Option R)×Unit)->((List<|Aac×Bool)×Int)->Option R:=λ(a,b,c) d (f,g,_) (h,i)=>cd (i<c) (bnd (idx b i) λj=>bnd (Ln n (a,h,j,j.Office,j.Seq,i)) λl=>cnd l (f (h,j,j.Office,j.Seq))<|d ((kL h (Aac.mk j.Office j.Seq) true),(wr<|i+1)))<|g h
def VI:=mR pG
def JD: Lc 17 0 1:=bI 0x961367392fe87e883aacf4f8a93f1c398dc375b9cd9ded6145e5f2c0ba0ec9cee2774fd5f4377a114 C21 [⟨0,[cs JB]⟩] [] @pG
def pH: Nat->bT->Option Bool
 | 0,_=>none
 | n+1,a=>bnd (Lo n a) λb=>cnd b (some false)<|bnd2 (VI n (a,a.Txns,(ln a.Txns)) ([],0)) (λ_=>some false) λc=>bnd (some c) λ_=>some true
def B8: Kn:=bG 17 0x19e73c350de630c C21 [⟨0,[JC]⟩,⟨1,[JD]⟩] [] pH
abbrev C22:=B8::C21
def aS9: Kn:=aPd 39 2 3 ⟨_,_,_,rfl,by decide,by decide⟩ (λn p=>clF n p) (λp=>p) λn p r h=>by obtain⟨m,h1,h2,h3⟩:=aPg h;subst h2;exact⟨m,h1,rfl,h3,rfl,λe=>by cases (e:_=[]);rfl⟩
abbrev C23:=aS9::C22
def aS8: Kn:=aPd 40 0 14 ⟨_,_,_,rfl,by decide,by decide⟩ (λn p=>clF n p) (λp=>p) λn p r h=>by obtain⟨m,h1,h2,h3⟩:=aPg h;subst h2;exact⟨m,h1,rfl,h3,rfl,λe=>by cases (e:_=[]);rfl⟩
abbrev C24:=aS8::C23
def aS7: Kn:=aPd 41 1 12 ⟨_,_,_,rfl,by decide,by decide⟩ (λn p=>clF n p) (λp=>p) λn p r h=>by obtain⟨m,h1,h2,h3⟩:=aPg h;subst h2;exact⟨m,h1,rfl,h3,rfl,λe=>by cases (e:_=[]);rfl⟩
abbrev C25:=aS7::C24
def fA(n:Nat): Unit->(Unit->Option R)->((Unit->Option R)×Unit)->Unit->Option R:=λ_ a (b,_) _=>b ()
def mQ:=qE fA
def JF: Lc 22 0 0:=bI 0x951587cec76606c72789af8205 C25 [] [] @fA
def jQ: (Int×Int×Int×ByteArray×Int)->((List aZ×Int)->Option R)->(((List aZ)->Option R)×Unit)->(List aZ×Int)->Option R:=λ(a,b,c,d,f) g (h,_) (i,j)=>cd (j<f) (bnd (eK i (List.length i) j) λ_=>bnd (idx i j) λl=>bnd (clF n l.Via) λm=>bnd (eK i (List.length i) j) λ_=>bnd (idx i j) λo=>bnd (clF n l.Parts) λr=>bnd (eK (List.set i (Int.toNat j)<|aZ.mk o.Kind o.ID o.A o.B o.C o.At m o.Name o.Parts) (List.length<|List.set i (Int.toNat j)<|aZ.mk o.Kind o.ID o.A o.B o.C o.At m o.Name o.Parts) j) λ_=>bnd (idx (List.set i (Int.toNat j)<|aZ.mk o.Kind o.ID o.A o.B o.C o.At m o.Name o.Parts) j) λs=>g ((List.set (List.set i (Int.toNat j)<|aZ.mk o.Kind o.ID o.A o.B o.C o.At m o.Name o.Parts) (Int.toNat j)<|aZ.mk s.Kind s.ID s.A s.B s.C s.At s.Via s.Name r),(wr<|j+1)))<|h i
def uI:=qE jQ
def JE: Lc 22 0 0:=bI 0x2675cce7a01a908388b997cb7a77f9f05c18ce0c9f6414e C25 [] [] @jQ
def dW: Nat->bD->Option bD
 | 0,_=>none
 | n+1,a=>bnd (prd n) λ_=>cnd (List.isEmpty a.Edits) (bnd (mQ n () ()) λ_=>some<|bD.mk a.Office a.Seq a.Time a.Source [])<|bnd (app ([]:List aZ) a.Edits) λb=>bnd (uI n (a.Office,a.Seq,a.Time,a.Source,(ln b)) (b,0)) λc=>some<|bD.mk a.Office a.Seq a.Time a.Source c
def B9: Kn:=bG 22 0x16a7501300cf C25 [⟨0,[JF,JE]⟩] [] dW
abbrev C26:=B9::C25
def iM: (Int×List bD×Int)->((List bD×Int)->Option R)->(((List bD)->Option R)×Unit)->(List bD×Int)->Option R:=λ(a,b,c) d (f,_) (g,h)=>cd (h<c) (bnd (idx b h) λi=>bnd (dW n i) λj=>bnd (app g [j]) λl=>d (l,(wr<|h+1)))<|f g
def Fh:=qE iM
def DF: Lc 18 0 0:=bI 0x56c6b5c60b156c6cebcff04472d6b6cdd448d1f757d96a9a8d82e16d3aa7d C26 [] [] @iM
def T1: Nat->bT->Option bT
 | 0,_=>none
 | n+1,a=>bnd (Fh n (a.ID,a.Txns,(ln a.Txns)) ([],0)) λb=>some<|bT.mk a.ID b
def VL: Kn:=bG 18 0xccd15e8050b65a97a C26 [⟨0,[DF]⟩] [] T1
abbrev C27:=VL::C26
def Fk(n:Nat): (bD×Int×Bool)->((Bool->Option R)×Unit)->Unit->Option R:=λ(a,b,c) (d,_) _=>cnd c (d true)<|cd (a.Time > b) (d true)<|d false
def D4:=eO Fk
def PQ: Lc 14 0 1:=bJ 0xcd8b50baf51a11c4918b50bdb4075d13b847cd9ffb6c1d2e7ab1e36f12e46d993f C27 [] [] @Fk
def Fn: (bT×Int×List bD×Int)->((Int×Bool×Int)->Option R)->(((Int×Bool)->Option R)×Unit)->(Int×Bool×Int)->Option R:=λ(a,b,c,d) f (g,_) (h,i,j)=>cd (j<d) (bnd (idx c j) λl=>cnd (l.Office==a.ID) (bnd (D4 n (l,b,i)) λm=>cnd m (f ((nE h l.Seq),true,(wr<|j+1)))<|f ((nE h l.Seq),false,(wr<|j+1)))<|f (h,i,(wr<|j+1)))<|g (h,i)
def D6:=qE Fn
def PT: Lc 14 0 0:=bI 0x6130eda8bda984c6a34f1e48da6b59e4e62508af5ccfab9813811af50ec704f9f795b494a49bf94ee90a C27 [⟨0,[cs PQ]⟩] [] @Fn
def PS: Lc 18 3 0:=bI 0x110b7c8de68cd91dc284f115d1fd2137030fd9354824f4c508fe271c659e67c51f9f9b0d2 C27 [] [] @iM
def rH: bT->(((List bD×Int×Int)->Option R)×Unit)->Unit->Option R:=λa (b,_) _=>bnd (Fh n (a.ID,a.Txns,(ln a.Txns)) ([],0)) λc=>b (c,a.ID,a.ID)
def Pe:=sU rH
def PW: Ic:=cD 18 3 1 0xb34e1bd4d4f6219be07d0bbac7ee1fd6b1418eda1a1c98c38d29 C27 [⟨0,[PS]⟩] [] @rH
def Fm: (List bD×Int×Int×Int×ByteArray×List aZ)->((Int×Int)->Option R)->((Int->Option R)×Unit)->(Int×Int)->Option R:=λ(a,b,c,d,f,g) h (i,_) (j,l)=>cd (j<l) (bnd (eK a (List.length a)<|wr<|Int.fdiv (IntKind.u64.wrap<|wr<|j+l) 2) λ_=>bnd (idx a<|wr<|Int.fdiv (IntKind.u64.wrap<|wr<|j+l) 2) λm=>bnd (eT n m<|bD.mk b c d f g) λo=>cd (o<0) (h ((wr<|(wr<|Int.fdiv (IntKind.u64.wrap<|wr<|j+l) 2)+1),l))<|h (j,(wr<|Int.fdiv (IntKind.u64.wrap<|wr<|j+l) 2)))<|i j
def D5:=qE Fm
def PR: Lc 51 0 0:=bI 0x39adc28c4a2cfd344f490be33deaca546801090974636320eb6a1844a2b1d27626f89b C27 [] [] @Fm
def Fj: (List bD×Int×Int×Int×ByteArray×List aZ×Int×Int)->((Bool->Option R)×Unit)->Unit->Option R:=λ(a,b,c,d,f,g,h,i) (j,_) _=>cd (i<h) (bnd (eK a (List.length a) i) λ_=>bnd (idx a i) λl=>bnd (eT n l<|bD.mk b c d f g) λm=>cnd (m==0) (j true)<|j false)<|j false
def D3:=eO Fj
def PO: Lc 51 0 1:=bJ 0x24c2b201a336b80e3c2704d60da2ae2b6a9d7f30eaf5d3cbc4e86cbce44258f8 C27 [] [] @Fj
def Fo: (List bD×Int×Int×Int×ByteArray×List aZ)->(((Int×Bool)->Option R)×Unit)->Unit->Option R:=λ(a,b,c,d,f,g) (h,_) _=>bnd (D5 n (a,b,c,d,f,g) (0,(ln a))) λi=>bnd (D3 n (a,b,c,d,f,g,(ln a),i)) λj=>cnd j (h (i,true))<|h (i,false)
def D7:=sU Fo
def PU: Ic:=cD 51 0 3 0x6b07a1eb38ea2d449c6564f06b52213e127c6c31f3b0dde1403bce2 C27 [⟨0,[PR]⟩,⟨1,[PO]⟩] [] @Fo
def Fp: (Int×List bD×Int×Int×Int×Int×ByteArray×List aZ)->(((List bD×List bD)->Option R)×Unit)->Unit->Option R:=λ(a,b,c,d,f,g,h,i) (j,_) _=>bnd (D7 n (b,d,f,g,h,i)) λl=>cnd l.2 (bnd (dW n<|bD.mk d f g h i) λm=>bnd (prd n) λ_=>bnd (G2 b l.1 m) λo=>j (o,[m]))<|bnd (dW n<|bD.mk d f g h i) λr=>bnd (prd n) λ_=>bnd (G2 b l.1 r) λs=>j (s,[r])
def D8:=sU Fp
def PV: Ic:=cD 28 0 2 0x3c562197ab2fdf9b660585dc0fcdafb084dbfd3d03ebfdd1bf3e7fd7e0d841afdb1f347c9817564ced51a8509587d95c59b7543ac71691a02f02 C27 [] [PU] @Fp
def Pf: Nat->bT->Int->ByteArray->(List aZ)->Option (bT×Int)
 | 0,_,_,_,_=>none
 | n+1,a,b,c,d=>bnd (pH n a) λf=>cnd f (bnd (D6 n (a,b,a.Txns,(ln a.Txns)) (0,false,0)) λg=>bnd (qR n<|bD.mk a.ID (wr<|g.1+1) b c d) λh=>cnd (h != 0) (some ((bT.mk 0 []),h))<|cd ((ln a.Txns)>=256) (some ((bT.mk 0 []),3))<|cnd g.2 (some ((bT.mk 0 []),10))<|bnd (Pe n a) λi=>bnd (D8 n (i.2.2,i.1,i.2.1,a.ID,(wr<|g.1+1),b,c,d)) λj=>some ((bT.mk i.2.2 j.1),0))<|some ((bT.mk 0 []),19)
def T3: Kn:=bG 14 0xd0987a363570507fc94ceb8 C27 [⟨0,[PT]⟩] [PW,PV] Pf
abbrev C28:=T3::C27
def xF(n:Nat): (List bD×Int)->(((List<|Aac×Bool)×Int)->Option R)->((((List<|Aac×Bool))->Option R)×Unit)->((List<|Aac×Bool)×Int)->Option R:=λ(a,b) c (d,_) (f,g)=>cd (g<b) (bnd (idx a g) λh=>c ((kL f (Aac.mk h.Office h.Seq) true),(wr<|g+1)))<|d f
def aBq:=qE xF
def s8: Lc 15 0 0:=bI 0x579709cea0b82f2bdb8e3835cceb7ffcaf13af5c2a7a6053d28fd8dc9972ac17 C28 [] [] @xF
def oL(n:Nat): ((List<|Aac×Bool)×Int)->(Int->Option R)->((Int->Option R)×Unit)->Int->Option R:=λ(a,b) c (d,_) f=>cnd ((Option.getD (cE a<|Aac.mk b<|wr<|f+1) false)) (c<|wr<|f+1)<|d f
def aBo:=qE oL
def s6: Lc 29 5 0:=bI 0x7bd5c4aad5940244ea05ac5cd76931e25e273efaa9bddf093484 C28 [] [] @oL
def Nf: ((List<|Aac×Bool)×Int)->((Int->Option R)×Unit)->Unit->Option R:=λ(a,b) (c,_) _=>bnd (aBo n (a,b) 0) λd=>c d
def HD:=sU Nf
def s9: Ic:=cD 29 5 2 0x491199a4cfd0741ad06daf236b3f66d65614a3975 C28 [⟨0,[s6]⟩] [] @Nf
def xE: ((List<|Aac×Bool))->((List Int×Int×Int)->Option R)->(((List Int)->Option R)×Unit)->(List Int×Int×Int)->Option R:=λa b (c,_) (d,f,g)=>cd (g<=8) (bnd (HD n (a,g)) λh=>cnd (h==0) (b (d,(wr<|f+1),(wr<|g+1)))<|bnd (rep 0 f f) λi=>bnd (app d i) λj=>bnd (app j [h]) λl=>b (l,0,(wr<|g+1)))<|c d
def aBp:=qE xE
def s7: Lc 30 0 0:=bI 0xcda76fff62d0f3589eab475c003e68136ba59869eb205c9b304c74fbe04c95a4f0b9b8c623e86e081e66 C28 [] [s9] @xE
def Ng: ((List<|Aac×Bool))->(((List Int)->Option R)×Unit)->Unit->Option R:=λa (b,_) _=>bnd (aBp n a ([],0,1)) λc=>b c
def HE:=sU Ng
def t5: Ic:=cD 30 0 1 0x86c90a0b9dca773849263c0e122eb54c0bcc9081d69b663d48c3ceb C28 [⟨0,[s7]⟩] [] @Ng
def Es: Nat->(List bD)->Option nZ
 | 0,_=>none
 | n+1,a=>bnd (aBq n (a,(ln a)) ([],0)) λb=>bnd (HE n b) λc=>some<|nZ.mk c
def aDh: Kn:=bG 15 0x110a35b75baa619 C28 [⟨0,[s8]⟩] [t5] Es
abbrev C29:=aDh::C28
def mW: Nat->Int->Int->Option Int
 | 0,_,_=>none
 | n+1,a,b=>cd (a<b) (some b)<|some a
def Nd: Kn:=bG 60 0x63ebdb1a9 C29 [] [] mW
abbrev C30:=Nd::C29
def Ba(n:Nat): (nZ×Int)->((Bool->Option R)×Unit)->Unit->Option R:=λ(a,b) (c,_) _=>cd (b<1) (c true)<|cd (b > 8) (c true)<|cd (b > (ln a.Counts)) (c true)<|c false
def Ky:=eO Ba
def HC: Lc 36 0 0:=bJ 0x8f0fcd0833ede7d2bf70e09c9913dd1a C30 [] [] @Ba
def It: Nat->nZ->Int->Option Int
 | 0,_,_=>none
 | n+1,a,b=>bnd (Ky n (a,b)) λc=>cnd c (some 0)<|bnd (idx a.Counts<|wr<|b-1) λd=>bnd (mW n d 0) λf=>some f
def r9: Kn:=bG 36 0x1c26f5583a65 C30 [⟨0,[HC]⟩] [] It
abbrev C31:=r9::C30
def Bc: (nZ×Int×Int)->((Bool->Option R)×Unit)->Unit->Option R:=λ(a,b,c) (d,_) _=>cd (1<=c) (bnd (It n a b) λf=>cd (c<=f) (d true)<|d false)<|d false
def Kz:=eO Bc
def HI: Lc 20 0 0:=bJ 0x10587ae48208b753a8d8df16 C31 [] [] @Bc
def wG: Nat->nZ->Int->Int->Option Bool
 | 0,_,_,_=>none
 | n+1,a,b,c=>bnd (Kz n (a,b,c)) λd=>cnd d (some true)<|some false
def t8: Kn:=bG 20 0x2fb8a99c42202cd C31 [⟨0,[HI]⟩] [] wG
abbrev C32:=t8::C31
def NH: Nat->(List aZ)->Option (List aZ)
 | 0,_=>none
 | n+1,a=>cnd (List.isEmpty a) (some [])<|bnd (app ([]:List aZ) a) λb=>some b
def CI: Kn:=bG 53 0x73bb20dd0c0c3302e7e6db0 C32 [] [] NH
abbrev C33:=CI::C32
def Az: Nat->(List Aaa)->Option (List Aaa)
 | 0,_=>none
 | n+1,a=>cnd (List.isEmpty a) (some [])<|bnd (app ([]:List Aaa) a) λb=>some b
def Tf: Kn:=bG 54 0x2c80679f9a61d55748 C33 [] [] Az
abbrev C34:=Tf::C33
def Kx: Nat->(List Int)->Option (List Int)
 | 0,_=>none
 | n+1,a=>cnd (List.isEmpty a) (some [])<|bnd (app ([]:List Int) a) λb=>some b
def HB: Kn:=bG 55 0x19f52f20dc2f44ce6e C34 [] [] Kx
end
end
section
variable {R:Type}(n:Nat)
noncomputable section
abbrev C35:=HB::C34
def lH(n:Nat): (List aZ)->(((List aZ)->Option R)×((List aZ×List aZ)->Option R)×Unit)->Unit->Option R:=λa (b,c,_) _=>cnd (List.isEmpty a) (b [])<|bnd (app ([]:List aZ) a) λd=>c ([],d)
def HH:=Uw lH
def Tj: Ic:=cD 53 3 1 0x479e2c0e249784fb9355df389fb1857fa1334d351d3c842b52f90c4524587946 C35 [] [] @lH
def Th: Lc 31 0 1:=bI 0x430a81e4365bf9331556ad6f755f28288d2f83 C35 [] [] @fA
def lF: (Int×Int×Int×ByteArray×Int)->((List aZ×Int)->Option R)->(((List aZ)->Option R)×Unit)->(List aZ×Int)->Option R:=λ(a,b,c,d,f) g (h,_) (i,j)=>cd (j<f) (bnd (eK i (List.length i) j) λ_=>bnd (idx i j) λl=>bnd (Az n l.Via) λm=>bnd (eK i (List.length i) j) λ_=>bnd (idx i j) λo=>bnd (Kx n l.Parts) λr=>bnd (eK (List.set i (Int.toNat j)<|aZ.mk o.Kind o.ID o.A o.B o.C o.At m o.Name o.Parts) (List.length<|List.set i (Int.toNat j)<|aZ.mk o.Kind o.ID o.A o.B o.C o.At m o.Name o.Parts) j) λ_=>bnd (idx (List.set i (Int.toNat j)<|aZ.mk o.Kind o.ID o.A o.B o.C o.At m o.Name o.Parts) j) λs=>g ((List.set (List.set i (Int.toNat j)<|aZ.mk o.Kind o.ID o.A o.B o.C o.At m o.Name o.Parts) (Int.toNat j)<|aZ.mk s.Kind s.ID s.A s.B s.C s.At s.Via s.Name r),(wr<|j+1)))<|h i
def HG:=qE lF
def Tg: Lc 31 0 1:=bI 0x101c16f011f948a70a3b80e0e6d4b74ac4df656e95fbf78d02920f3831ea779b55f896ab306afc1 C35 [] [] @lF
def lG: (nZ×List bD×Int)->((List bD×Int)->Option R)->(((List bD)->Option R)×Unit)->(List bD×Int)->Option R:=λ(a,b,c) d (f,_) (g,h)=>cd (h<c) (bnd (idx b h) λi=>bnd (wG n a i.Office i.Seq) λj=>cnd j (d (g,(wr<|h+1)))<|bnd2 (HH n i.Edits) (λ_=>bnd (mQ n () ()) λ_=>bnd (app g [(bD.mk i.Office i.Seq i.Time i.Source [])]) λl=>d (l,(wr<|h+1))) λm=>bnd (some m) λo=>bnd (HG n (i.Office,i.Seq,i.Time,i.Source,(ln o.2)) (o.2,0)) λr=>bnd (app g [(bD.mk i.Office i.Seq i.Time i.Source r)]) λs=>d (s,(wr<|h+1)))<|f g
def Bb:=qE lG
def Ti: Lc 31 0 0:=bI 0x99913a85d1829b3bb1f469dbfd1095788764d950fe98a5ee92abc94 C35 [⟨0,[cs Th,cs Tg]⟩] [Tj] @lG
def t6: Nat->nZ->(List bD)->Option (List bD)
 | 0,_,_=>none
 | n+1,a,b=>bnd (Bb n (a,b,(ln b)) ([],0)) λc=>some c
def NI: Kn:=bG 31 0x56fed94e45679b46d81db5680e C35 [⟨0,[Ti]⟩] [] t6
abbrev C36:=NI::C35
def PL: Ic:=cD 53 5 1 0x1e6bb93a5ba8d7a8c145270d96c20ce07b7d2dede2fae0d16322202453625b77a69209df0 C36 [] [] @lH
def PJ: Lc 31 0 1:=bI 0x1c7a0a73100cb7fa9efaa8eda6756f5d373571b3322c147 C36 [] [] @fA
def PI: Lc 31 0 1:=bI 0x91a626b781f5781253cae85d2b05cec743618ee7c97db9bcac2044d324ab6aed1da853640d51a31962a0 C36 [] [] @lF
def PK: Lc 31 0 0:=bI 0x5ec4e51bbc57ee9348054c48316f644b4864be329b62182c76ef4aa73ffb150f C36 [⟨0,[cs PJ,cs PI]⟩] [PL] @lG
def Fi: (nZ×List bD)->(((List bD)->Option R)×Unit)->Unit->Option R:=λ(a,b) (c,_) _=>bnd (Bb n (a,b,(ln b)) ([],0)) λd=>c d
def D2:=sU Fi
def PM: Ic:=cD 31 0 2 0x23182fd7adb499f2c62bd0c1bb5c31a4f338417e6 C36 [⟨0,[PK]⟩] [] @Fi
def Oz: Nat->bT->nZ->Option (List bD)
 | 0,_,_=>none
 | n+1,a,b=>bnd (D2 n (b,a.Txns)) λc=>some c
def T2: Kn:=bG 16 0xccceeda99536c5fa2 C36 [] [PM] Oz
abbrev C37:=T2::C36
def gS(n:Nat): (List Aaa×List Aaa×Int)->(Int->Option R)->((Unit->Option R)×(Unit->Option R)×Unit)->Int->Option R:=λ(a,b,c) d (f,g,_) h=>cd (h<c) (bnd (idx a h) λi=>bnd (idx b h) λj=>cd (i=j) (d<|wr<|h+1)<|f ())<|g ()
def Mr:=mR gS
def Ex: Lc 76 0 0:=bI 0xd4d9cccc7ac2691ee4e800b C37 [] [] @gS
def iC: Nat->(List Aaa)->(List Aaa)->Option Bool
 | 0,_,_=>none
 | n+1,a,b=>cnd ((ln a) != (ln b)) (some false)<|bnd2 (Mr n (a,b,(ln a)) 0) (λ_=>some false) λc=>bnd (some c) λ_=>some true
def Nu: Kn:=bG 76 0x23483e99e413 C37 [⟨0,[Ex]⟩] [] iC
abbrev C38:=Nu::C37
def fX(n:Nat): (List Int×List Int×Int)->(Int->Option R)->((Unit->Option R)×(Unit->Option R)×Unit)->Int->Option R:=λ(a,b,c) d (f,g,_) h=>cd (h<c) (bnd (idx a h) λi=>bnd (idx b h) λj=>cnd (i != j) (f ())<|d<|wr<|h+1)<|g ()
def Tm:=mR fX
def Mq: Lc 69 0 0:=bI 0x11b27e5c32ecd6da40af6 C38 [] [] @fX
def eL: Nat->(List Int)->(List Int)->Option Bool
 | 0,_,_=>none
 | n+1,a,b=>cnd ((ln a) != (ln b)) (some false)<|bnd2 (Tm n (a,b,(ln a)) 0) (λ_=>some false) λc=>bnd (some c) λ_=>some true
def CO: Kn:=bG 69 0x2ef65a81d C38 [⟨0,[Mq]⟩] [] eL
abbrev C39:=CO::C38
def tF: (aZ×aZ)->((Bool->Option R)×Unit)->Unit->Option R:=λ(a,b) (c,_) _=>cnd (a.Kind==b.Kind) (cnd (a.ID==b.ID) (cnd (a.A==b.A) (cnd (a.B==b.B) (cnd (a.C==b.C) (cd (a.At=b.At) (bnd (iC n a.Via b.Via) λd=>cnd d (cd (a.Name=b.Name) (bnd (eL n a.Parts b.Parts) λf=>cnd f (c true)<|c false)<|c false)<|c false)<|c false)<|c false)<|c false)<|c false)<|c false)<|c false
def DE:=eO tF
def Oy: Lc 59 0 0:=bJ 0x29b72c44670a C39 [] [] @tF
def Lp: Nat->aZ->aZ->Option Bool
 | 0,_,_=>none
 | n+1,a,b=>bnd (DE n (a,b)) λc=>cnd c (some true)<|some false
def JG: Kn:=bG 59 0x2ef487192 C39 [⟨0,[Oy]⟩] [] Lp
abbrev C40:=JG::C39
def Bo: (List aZ×List aZ×Int)->(Int->Option R)->(((aZ×aZ)->Option R)×(Unit->Option R)×Unit)->Int->Option R:=λ(a,b,c) d (f,g,_) h=>cd (h<c) (bnd (idx b h) λi=>bnd (idx a h) λj=>bnd (Lp n i j) λl=>cnd l (d<|wr<|h+1)<|f (i,j))<|g ()
def VJ:=mR Bo
def JH: Lc 58 0 0:=bI 0x691fc2b4b7ff10980a64966e0ab7018642052e996acb25b77f74834 C40 [] [] @Bo
def Bp: (List aZ×List aZ)->((Bool->Option R)×((aZ×aZ)->Option R)×Unit)->Unit->Option R:=λ(a,b) (c,d,_) _=>cnd ((ln a) != (ln b)) (c false)<|bnd2 (VJ n (b,a,(ln a)) 0) (λf=>d (f.1,f.2)) λg=>bnd (some g) λ_=>c true
def VK:=Uw Bp
def JI: Ic:=cD 58 0 3 0xce1653b9a5933d9f7a88069e591780eb9efa0fa30b1d8b C40 [⟨0,[JH]⟩] [] @Bp
def JJ: Nat->bD->bD->Option Bool
 | 0,_,_=>none
 | n+1,a,b=>bnd (eT n a b) λc=>cnd (c==0) (cd (a.Source=b.Source) (bnd2 (VK n (a.Edits,b.Edits)) (λd=>cnd d (some true)<|some false) λf=>bnd (some f) λ_=>some false)<|some false)<|some false
def D0: Kn:=bG 35 0x2869f8a75ca6 C40 [] [JI] JJ
abbrev C41:=D0::C40
def Uq: Lc 18 2 0:=bI 0x473d34246b32263fe356575e7c06924d972efef64b8414b49a80346cc2e2cbf8a2b C41 [] [] @iM
def Uu: Ic:=cD 18 2 1 0x86c9070bccd5c789b836bc5ba8caf4d318f9669aec023fd654274cf C41 [⟨0,[Uq]⟩] [] @rH
def uZ(n:Nat): (bD×bD)->((Bool->Option R)×Unit)->Unit->Option R:=λ(a,b) (c,_) _=>cnd (b.Office==a.Office) (cnd (b.Seq==a.Seq) (c true)<|c false)<|c false
def JM:=eO uZ
def Um: Lc 33 8 0:=bJ 0x20dfbb2aacf6e8ca1c5ec7d14295185977fc1d12163d C41 [] [] @uZ
def vC: (bD×bD)->((Bool->Option R)×Unit)->Unit->Option R:=λ(a,b) (c,_) _=>bnd (JM n (a,b)) λd=>cnd d (c true)<|c false
def JP:=sU vC
def Ur: Ic:=cD 33 8 2 0x62c2358a7289c72366343c36797aa7e6 C41 [⟨0,[Um]⟩] [] @vC
def vA: (List bD×bD×Int)->(Int->Option R)->((Int->Option R)×(Unit->Option R)×Unit)->Int->Option R:=λ(a,b,c) d (f,g,_) h=>cd (h<c) (bnd (eK a (List.length a) h) λ_=>bnd (idx a h) λi=>bnd (JP n (b,i)) λj=>cnd j (f h)<|d<|wr<|h+1)<|g ()
def JN:=mR vA
def Un: Lc 34 0 0:=bI 0x2bd98038f37e0efcb8a253f79c9e72266702169aad3a C41 [] [Ur] @vA
def vD: (List bD×bD)->((Int->Option R)×Unit)->Unit->Option R:=λ(a,b) (c,_) _=>bnd2 (JN n (a,b,(ln a)) 0) (λd=>c d) λf=>bnd (some f) λ_=>c (-1)
def JQ:=sU vD
def Us: Ic:=cD 34 0 2 0x814791c01c44448047242db4fac727c056e C41 [⟨0,[Un]⟩] [] @vD
def uY: (List bD×Int×bD×Int)->((Bool->Option R)×Unit)->Unit->Option R:=λ(a,b,c,d) (f,_) _=>cd (d>=0) (bnd (eK a (List.length a) d) λ_=>bnd (idx a d) λg=>bnd (JJ n g c) λh=>cnd h (f true)<|f false)<|f false
def JL:=eO uY
def Ul: Lc 19 0 0:=bJ 0x6a1ee752dc848903cd9b4c9761f8a6d4d97fd96a226e5ea59c751541b3faf74623ae716db7d518623 C41 [] [] @uY
def tH: (List bD×bD)->((Int×Int)->Option R)->((Int->Option R)×Unit)->(Int×Int)->Option R:=λ(a,b) c (d,_) (f,g)=>cd (f<g) (bnd (eK a (List.length a)<|wr<|Int.fdiv (IntKind.u64.wrap<|wr<|f+g) 2) λ_=>bnd (idx a<|wr<|Int.fdiv (IntKind.u64.wrap<|wr<|f+g) 2) λh=>bnd (eT n h b) λi=>cd (i<0) (c ((wr<|(wr<|Int.fdiv (IntKind.u64.wrap<|wr<|f+g) 2)+1),g))<|c (f,(wr<|Int.fdiv (IntKind.u64.wrap<|wr<|f+g) 2)))<|d f
def DH:=qE tH
def Pb: Lc 51 0 0:=bI 0xb4a41cef20491ddbb04ce864b19f8abe23b0b6baeae0731d313a17927e C41 [] [] @tH
def tG: (List bD×bD×Int×Int)->((Bool->Option R)×Unit)->Unit->Option R:=λ(a,b,c,d) (f,_) _=>cd (d<c) (bnd (eK a (List.length a) d) λ_=>bnd (idx a d) λg=>bnd (eT n g b) λh=>cnd (h==0) (f true)<|f false)<|f false
def DG:=eO tG
def Pa: Lc 51 0 1:=bJ 0x19cfeffdf4d9bfde7dedfb2a63da8950fee9b6b68f677b4ce7 C41 [] [] @tG
def tI: (List bD×bD)->(((Int×Bool)->Option R)×Unit)->Unit->Option R:=λ(a,b) (c,_) _=>bnd (DH n (a,b) (0,(ln a))) λd=>bnd (DG n (a,b,(ln a),d)) λf=>cnd f (c (d,true))<|c (d,false)
def DJ:=sU tI
def Pc: Ic:=cD 51 0 3 0xbd55c1d964ddc4867791518cb2a9b8a93e878ce5fb73a0065 C41 [⟨0,[Pb]⟩,⟨1,[Pa]⟩] [] @tI
def tJ: (List bD×Int×bD)->(((List bD×List bD)->Option R)×Unit)->Unit->Option R:=λ(a,b,c) (d,_) _=>bnd (DJ n (a,c)) λf=>cnd f.2 (bnd (dW n c) λg=>bnd (prd n) λ_=>bnd (G2 a f.1 g) λh=>d (h,[g]))<|bnd (dW n c) λi=>bnd (prd n) λ_=>bnd (G2 a f.1 i) λj=>d (j,[i])
def DK:=sU tJ
def Pd: Ic:=cD 28 0 2 0x1e42995041fa1a458e2b49cf0b0932f4dd6b8ade3115c0bd12601a618867d6067c7643687895 C41 [] [Pc] @tJ
def vE: (List bD×Int×bD)->((Int->Option R)×((List bD×List bD)->Option R)×Unit)->Unit->Option R:=λ(a,b,c) (d,f,_) _=>bnd (qR n c) λg=>cnd (g != 0) (d g)<|bnd (JQ n (a,c)) λh=>bnd (JL n (a,b,c,h)) λi=>cnd i (d 0)<|cd (h>=0) (d 16)<|cd ((ln a)>=256) (d 3)<|bnd (DK n (a,b,c)) λj=>f (j.1,j.2)
def JR:=Uw vE
def Ut: Ic:=cD 19 0 2 0x79dfe28deb067e5d0f009808c1f9a528639e1bfb95831f0135738b3852db478ad9bec8b0a500ff32888e7b1 C41 [⟨0,[Ul]⟩] [Us,Pd] @vE
def vB: (Int×Int×List bD×Int)->((List bD×Int)->Option R)->(((List bD×bD×bD×Int)->Option R)×((List bD)->Option R)×Unit)->(List bD×Int)->Option R:=λ(a,b,c,d) f (g,h,_) (i,j)=>cd (j<d) (bnd (idx c j) λl=>bnd2 (JR n (i,b,l)) (λm=>cnd (m != 0) (g (i,l,l,m))<|f (i,(wr<|j+1))) λo=>bnd (some o) λr=>f (r.1,(wr<|j+1)))<|h i
def JO:=mR vB
def Uo: Lc 4 0 0:=bI 0x152f48898888fba3164e2b0f103bcc40885974dc627ea3056e4f5e32b3d8ca30dda65f4e4e39ef297f9a498d5113e8b81b0da152dd75f6f7e19a9ba0869105126aa6c609bbd3f04a3d1093b1fd4dec687ca914 C41 [] [Ut] @vB
def yF: Nat->bT->(List bD)->Option (bT×Int)
 | 0,_,_=>none
 | n+1,a,b=>bnd (pH n a) λc=>cnd c (bnd (Pe n a) λd=>bnd2 (JO n (d.2.1,d.2.2,b,(ln b)) (d.1,0)) (λf=>some ((bT.mk 0 []),f.2.2.2)) λg=>bnd (some g) λh=>some ((bT.mk d.2.2 h),0))<|some ((bT.mk 0 []),19)
def PN: Kn:=bG 4 0x1712704af2a36bfdbf C41 [⟨0,[Uo]⟩] [Uu] yF
abbrev C42:=PN::C41
def pW: Nat->(List Aab)->Option (List Aab)
 | 0,_=>none
 | n+1,a=>bnd (rep (Aab.mk 0<|Aaa.mk 0 0) (ln a)<|ln a) λb=>bnd (cpy b (0,List.length b) a) λc=>bnd (Na true) λ_=>some c
def SD: Kn:=bG 77 0x39b6af20eb09e3a C42 [] [] pW
abbrev C43:=SD::C42
def mN: Nat->(List aO)->Option (List aO)
 | 0,_=>none
 | n+1,a=>bnd (rep (aO.mk 0 0 0 [] 0 0) (ln a)<|ln a) λb=>bnd (cpy b (0,List.length b) a) λc=>bnd (Na true) λ_=>some c
def WG: Kn:=bG 78 0x39b6afe413f2ff2 C43 [] [] mN
abbrev C44:=WG::C43
def gP: Nat->(List Int)->Option (List Int)
 | 0,_=>none
 | n+1,a=>bnd (rep 0 (ln a)<|ln a) λb=>bnd (cpy b (0,List.length b) a) λc=>some c
def VZ: Kn:=bG 79 0x2df001aa7e8f C44 [] [] gP
abbrev C45:=VZ::C44
def jU: Nat->(List aG)->Option (List aG)
 | 0,_=>none
 | n+1,a=>bnd (rep (aG.mk 0 0 0 (⟨#[]⟩:ByteArray) []) (ln a)<|ln a) λb=>bnd (cpy b (0,List.length b) a) λc=>bnd (Na true) λ_=>some c
def AN: Kn:=bG 80 0x39b6b09d1108a8a C45 [] [] jU
abbrev C46:=AN::C45
def iU: Nat->(List Aaa)->Option (List Aaa)
 | 0,_=>none
 | n+1,a=>bnd (rep (Aaa.mk 0 0) (ln a)<|ln a) λb=>bnd (cpy b (0,List.length b) a) λc=>some c
def LV: Kn:=bG 81 0x4ec12e02ae44 C46 [] [] iU
abbrev C47:=LV::C46
def mT: (List Int×List Aab×List aG×Int)->((List aO×Int)->Option R)->(((List aO)->Option R)×Unit)->(List aO×Int)->Option R:=λ(a,b,c,d) f (g,_) (h,i)=>cd (i<d) (bnd (eK h (List.length h) i) λ_=>bnd (idx h i) λj=>bnd (iU n j.Via) λl=>bnd (eK h (List.length h) i) λ_=>bnd (idx h i) λm=>f ((List.set h (Int.toNat i)<|aO.mk m.ID m.From m.To l m.Left m.Right),(wr<|i+1)))<|g h
def BI:=qE mT
def a7: Lc 61 0 0:=bI 0x2a36322c690323d9cf719fb7d6d1cd123f06c83f0f44250a53d8fb01572095f289a9a0 C47 [] [] @mT
def mS: (List Int×List Aab×List aO×Int)->((List aG×Int)->Option R)->(((List aG)->Option R)×Unit)->(List aG×Int)->Option R:=λ(a,b,c,d) f (g,_) (h,i)=>cd (i<d) (bnd (eK h (List.length h) i) λ_=>bnd (idx h i) λj=>bnd (gP n j.Parts) λl=>bnd (eK h (List.length h) i) λ_=>bnd (idx h i) λm=>f ((List.set h (Int.toNat i)<|aG.mk m.ID m.Kind m.Class m.Name l),(wr<|i+1)))<|g h
def BH:=qE mS
def XY: Lc 61 0 1:=bI 0x16acc1733404330855a47ae87c6b2f13e566e36907d50a0ef5d15312d32a69f8ed7a98 C47 [] [] @mS
def GQ: Nat->aJ->Option aJ
 | 0,_=>none
 | n+1,a=>bnd (pW n a.Plan.Nodes) λb=>bnd (mN n a.Plan.Arcs) λc=>bnd (gP n a.Plan.Faces) λd=>bnd (jU n a.Features) λf=>bnd (BI n (d,b,f,(ln c)) (c,0)) λg=>bnd (BH n (d,b,g,(ln f)) (f,0)) λh=>some<|aJ.mk (aM.mk b g d) h
def aCA: Kn:=bG 61 0x11065db42ef949a C47 [⟨0,[a7]⟩,⟨1,[XY]⟩] [] GQ
abbrev C48:=aCA::C47
def jG(n:Nat): (List Aab×Int)->((List Int×Int)->Option R)->(((List Int)->Option R)×Unit)->(List Int×Int)->Option R:=λ(a,b) c (d,_) (f,g)=>cd (g<b) (bnd (idx a g) λh=>bnd (app f [h.ID]) λi=>c (i,(wr<|g+1)))<|d f
def Ud:=qE jG
def Mv: Lc 159 0 0:=bI 0x4da6e3608708360ee699f46fa7510fbe38630547aa6d10c5ddbc43b5e1b82 C48 [] [] @jG
def jF(n:Nat): (List aO×Int)->((List Int×Int)->Option R)->(((List Int)->Option R)×Unit)->(List Int×Int)->Option R:=λ(a,b) c (d,_) (f,g)=>cd (g<b) (bnd (idx a g) λh=>bnd (app f [h.ID]) λi=>c (i,(wr<|g+1)))<|d f
def Uc:=qE jF
def Mu: Lc 159 0 1:=bI 0x6f05bd19321748bdfbb26acc1a18218b4ccd45a44c43419580f80920374aa234 C48 [] [] @jF
def rA: Nat->aM->Option (List Int×List Int)
 | 0,_=>none
 | n+1,a=>bnd (Ud n (a.Nodes,(ln a.Nodes)) ([],0)) λb=>bnd (Uc n (a.Arcs,(ln a.Arcs)) ([],0)) λc=>some (b,c)
def CZ: Kn:=bG 159 0x73b49a68f8cbf978e70185c C48 [⟨0,[Mv]⟩,⟨1,[Mu]⟩] [] rA
abbrev C49:=CZ::C48
def Uk: Lc 160 0 0:=bI 0x29ad7209e94f C49 [] [] @kZ
def kG: Nat->(List Int)->Option Bool
 | 0,_=>none
 | n+1,a=>bnd2 (Pn n a 1) (λ_=>some false) λb=>bnd (some b) λ_=>some true
def PA: Kn:=bG 160 0x2defcb C49 [⟨0,[Uk]⟩] [] kG
abbrev C50:=PA::C49
def qZ: Nat->Int->Option Bool
 | 0,_=>none
 | n+1,a=>cd (a<1) (some true)<|cd (a > 1073741824) (some true)<|some false
def CV: Kn:=bG 178 0xb7d C50 [] [] qZ
abbrev C51:=CV::C50
def nB: (List Int×Int)->(Int->Option R)->((Int->Option R)×(Unit->Option R)×Unit)->Int->Option R:=λ(a,b) c (d,f,_) g=>cd (g<b) (bnd (idx a g) λh=>bnd (qZ n h) λi=>cnd i (d g)<|c<|wr<|g+1)<|f ()
def OW:=mR nB
def CW: Lc 126 0 0:=bI 0xb7cfd9a53a306e11a5f7165 C51 [] [] @nB
def xY: (List Int)->((Int->Option R)×Unit)->Unit->Option R:=λa (b,_) _=>bnd2 (OW n (a,(ln a)) 0) (λc=>b c) λd=>bnd (some d) λ_=>b (-1)
def OX:=sU xY
def CX: Ic:=cD 126 0 2 0xcd7ea64aaa607a021b2b C51 [⟨0,[CW]⟩] [] @xY
def xZ: (List Int)->((Bool->Option R)×Unit)->Unit->Option R:=λa (b,_) _=>bnd (OX n a) λc=>cd (c>=0) (b true)<|b false
def OY:=sU xZ
def CY: Ic:=cD 105 0 2 0x9a6b351c4b2082385ed48e4 C51 [] [CX] @xZ
def mL: Nat->(List Int)->Option Bool
 | 0,_=>none
 | n+1,a=>bnd (OY n a) λb=>cnd b (some false)<|some true
def VB: Kn:=bG 161 0x2defcb C51 [] [CY] mL
abbrev C52:=VB::C51
def lM(n:Nat): Aaa->((Bool->Option R)×Unit)->Unit->Option R:=λa (b,_) _=>cd (a.X<(-1048576)) (b true)<|cd (a.X > 1048576) (b true)<|cd (a.Y<(-1048576)) (b true)<|cd (a.Y > 1048576) (b true)<|b false
def pD:=eO lM
def Ub: Lc 179 0 0:=bJ 0x6785bbc82 C52 [] [] @lM
def xX: Nat->Aaa->Option Bool
 | 0,_=>none
 | n+1,a=>bnd (pD n a) λb=>cnd b (some true)<|some false
def OO: Kn:=bG 179 0x3d00ec C52 [⟨0,[Ub]⟩] [] xX
abbrev C53:=OO::C52
def OP: Lc 179 0 0:=bJ 0x46841d66a15c3fb699305fdce8469 C53 [] [] @lM
def Ff: Aaa->((Bool->Option R)×Unit)->Unit->Option R:=λa (b,_) _=>bnd (pD n a) λc=>cnd c (b true)<|b false
def A1:=sU Ff
def OV: Ic:=cD 179 0 1 0x19436311d14dc68fe2a08172 C53 [⟨0,[OP]⟩] [] @Ff
def qY: (List Aab×Int)->(Int->Option R)->(((Aab×Aaa)->Option R)×(Unit->Option R)×Unit)->Int->Option R:=λ(a,b) c (d,f,_) g=>cd (g<b) (bnd (idx a g) λh=>bnd (A1 n h.At) λi=>cnd i (d (h,h.At))<|c<|wr<|g+1)<|f ()
def z7:=mR qY
def OS: Lc 162 0 0:=bI 0xb43b091b999765c0f8c37723f5569704d02606a9ca77620df0ff85fd03 C53 [] [OV] @qY
def qW: (List Aaa×Int)->(Int->Option R)->((Int->Option R)×(Unit->Option R)×Unit)->Int->Option R:=λ(a,b) c (d,f,_) g=>cd (g<b) (bnd (idx a g) λh=>bnd (xX n h) λi=>cnd i (d g)<|c<|wr<|g+1)<|f ()
def z5:=mR qW
def OQ: Lc 125 0 0:=bI 0x55bd6c26c8aaa23d6c477b1640cf1 C53 [] [] @qW
def Fd: (List Aaa)->((Int->Option R)×Unit)->Unit->Option R:=λa (b,_) _=>bnd2 (z5 n (a,(ln a)) 0) (λc=>b c) λd=>bnd (some d) λ_=>b (-1)
def z8:=sU Fd
def OT: Ic:=cD 125 0 2 0xcd7c97a68120bcec1d8a C53 [⟨0,[OQ]⟩] [] @Fd
def Fe: (List Aaa)->((Bool->Option R)×Unit)->Unit->Option R:=λa (b,_) _=>bnd (z8 n a) λc=>cd (c>=0) (b true)<|b false
def A0:=sU Fe
def OU: Ic:=cD 103 0 2 0x1115dd5e5f5738f195 C53 [] [OT] @Fe
def qX: (List aO×Int)->(Int->Option R)->((aO->Option R)×(Unit->Option R)×Unit)->Int->Option R:=λ(a,b) c (d,f,_) g=>cd (g<b) (bnd (idx a g) λh=>bnd (A0 n h.Via) λi=>cnd i (d h)<|c<|wr<|g+1)<|f ()
def z6:=mR qX
def OR: Lc 162 0 1:=bI 0xce0d12b7349bf03fe34f8a50e13ba70236e3595b7e0327 C53 [] [OU] @qX
def Ol: Nat->aM->Option Bool
 | 0,_=>none
 | n+1,a=>bnd2 (z7 n (a.Nodes,(ln a.Nodes)) 0) (λ_=>some false) λb=>bnd (some b) λ_=>bnd2 (z6 n (a.Arcs,(ln a.Arcs)) 0) (λ_=>some false) λc=>bnd (some c) λ_=>some true
def S4: Kn:=bG 162 0x2df17a C53 [⟨0,[OS]⟩,⟨1,[OR]⟩] [] Ol
abbrev C54:=S4::C53
def jD(n:Nat): (List Int×Int×Int)->(Int->Option R)->((Int->Option R)×(Unit->Option R)×Unit)->Int->Option R:=λ(a,b,c) d (f,g,_) h=>cd (h<c) (bnd (idx a h) λi=>cnd (b==i) (f h)<|d<|wr<|h+1)<|g ()
def Tk:=mR jD
def Mp: Lc 158 0 0:=bI 0xb7cfd9a5370013c000958e9 C54 [] [] @jD
def kT: Nat->(List Int)->Int->Option Int
 | 0,_,_=>none
 | n+1,a,b=>bnd2 (Tk n (a,b,(ln a)) 0) (λc=>some c) λd=>bnd (some d) λ_=>some (-1)
def CN: Kn:=bG 158 0x31d6cb C54 [⟨0,[Mp]⟩] [] kT
abbrev C55:=CN::C54
def dP: Nat->(List Int)->Int->Option Bool
 | 0,_,_=>none
 | n+1,a,b=>bnd (kT n a b) λc=>cd (c>=0) (some true)<|some false
def Ms: Kn:=bG 134 0x2df086 C55 [] [] dP
abbrev C56:=Ms::C55
def lP(n:Nat): (Aab×List Aab×Int)->(Int->Option R)->((Aab->Option R)×(Unit->Option R)×Unit)->Int->Option R:=λ(a,b,c) d (f,g,_) h=>cd (h<c) (bnd (idx b h) λi=>cd (a.At=i.At) (f i)<|d<|wr<|h+1)<|g ()
def IR:=mR lP
def Ui: Lc 163 0 1:=bI 0x156ea75030a6fe1ed802f2ad16706648f1ffc26178d972d1f50ea5691a96fd5bb625e5d0e807 C56 [] [] @lP
def lQ: (aM×List Aab×Int)->(Int->Option R)->(((Aab×Aab)->Option R)×(Unit->Option R)×Unit)->Int->Option R:=λ(a,b,c) d (f,g,_) h=>cd (h<c) (bnd (idx b h) λi=>bnd (cut a.Nodes 0 h) λj=>bnd2 (IR n (i,j,(ln j)) 0) (λl=>f (i,l)) λm=>bnd (some m) λ_=>d<|wr<|h+1)<|g ()
def IU:=mR lQ
def Uj: Lc 163 0 0:=bI 0x13efce11a921ad78ae0c2da59e890cd6b1c23ee8daa37f4c3092f C56 [⟨0,[cs Ui]⟩] [] @lQ
def uW: (aO×List Int)->((Bool->Option R)×Unit)->Unit->Option R:=λ(a,b) (c,_) _=>bnd (dP n b a.From) λd=>cnd d (bnd (dP n b a.To) λf=>cnd f (c false)<|c true)<|c true
def Bi:=eO uW
def Uf: Lc 163 0 3:=bJ 0x1172c6d840e5f3dbdd2b486b69911cb9d6d5ac68fabbd1e458 C56 [] [] @uW
def lO: (List Int×List aO×Int)->(Int->Option R)->((aO->Option R)×(Unit->Option R)×Unit)->Int->Option R:=λ(a,b,c) d (f,g,_) h=>cd (h<c) (bnd (idx b h) λi=>bnd (Bi n (i,a)) λj=>cnd j (f i)<|d<|wr<|h+1)<|g ()
def IQ:=mR lO
def Uh: Lc 163 0 2:=bI 0x16ceda5f8f867cb713249c3a6f677b87328602440b612c7aba C56 [⟨0,[cs Uf]⟩] [] @lO
def uV: (aM×Int)->((Bool->Option R)×Unit)->Unit->Option R:=λ(a,b) (c,_) _=>cnd (b != 0) (bnd (dP n a.Faces b) λd=>cnd d (c false)<|c true)<|c false
def pE:=eO uV
def Ue: Lc 163 0 6:=bJ 0x9df9a893d44dde511e7f486436f94acc995e252f6cfa0e35f534a30 C56 [] [] @uV
def lN: (aM×List aO×Int)->(Int->Option R)->((aO->Option R)×(Unit->Option R)×Unit)->Int->Option R:=λ(a,b,c) d (f,g,_) h=>cd (h<c) (bnd (idx b h) λi=>bnd (Na<|Nat.ble 3 n) λ_=>bnd (pE n (a,i.Left)) λj=>cnd j (f i)<|bnd (pE n (a,i.Right)) λl=>cnd l (f i)<|d<|wr<|h+1)<|g ()
def IP:=mR lN
def Ug: Lc 163 0 4:=bI 0x2c5e2667349414f3990d2409026f464db8b1678aed28d76f054bf0940188d C56 [⟨1,[cs Ue]⟩] [] @lN
def yA: Nat->aM->(List Int)->Option Int
 | 0,_,_=>none
 | n+1,a,b=>bnd2 (IU n (a,a.Nodes,(ln a.Nodes)) 0) (λ_=>some 8) λc=>bnd (some c) λ_=>bnd2 (IQ n (b,a.Arcs,(ln a.Arcs)) 0) (λ_=>some 7) λd=>bnd (some d) λ_=>bnd2 (IP n (a,a.Arcs,(ln a.Arcs)) 0) (λ_=>some 12) λf=>bnd (some f) λ_=>some 0
def OZ: Kn:=bG 163 0x55a49d192 C56 [⟨0,[Uj]⟩,⟨2,[Uh]⟩,⟨4,[Ug]⟩] [] yA
abbrev C57:=OZ::C56
def Eb: (Int×List aO×Int)->(Int->Option R)->(((Int×Int×Int×List Aaa×Int×Int×Int×Int×Int×List Aaa×Int×Int)->Option R)×(Unit->Option R)×Unit)->Int->Option R:=λ(a,b,c) d (f,g,_) h=>cd (h<c) (bnd (idx b h) λi=>cnd (i.ID==a) (bnd (clF n i.Via) λj=>f (i.ID,i.From,i.To,j,i.Left,i.Right,i.ID,i.From,i.To,j,i.Left,i.Right))<|d<|wr<|h+1)<|g ()
def aDL:=mR Eb
def S9: Lc 157 0 0:=bI 0x1459e3ae863bc8a8950c1f4f4be83b86f5cfb3cb2983879fd22a15744b2f7adee6394b615f66423e759be85fd9b4c90802ff57 C57 [] [] @Eb
def Ou: Nat->aM->Int->Option (aO×Bool)
 | 0,_,_=>none
 | n+1,a,b=>bnd2 (aDL n (b,a.Arcs,(ln a.Arcs)) 0) (λc=>some ((aO.mk c.1 c.2.1 c.2.2.1 c.2.2.2.1 c.2.2.2.2.1 c.2.2.2.2.2.1),true)) λd=>bnd (some d) λ_=>some ((aO.mk 0 0 0 [] 0 0),false)
def aFR: Kn:=bG 157 0x3f91f922a C57 [⟨0,[S9]⟩] [] Ou
abbrev C58:=aFR::C57
def yC(n:Nat): (Int×List Aab×Int)->(Int->Option R)->(((Aab×Aab)->Option R)×(Unit->Option R)×Unit)->Int->Option R:=λ(a,b,c) d (f,g,_) h=>cd (h<c) (bnd (idx b h) λi=>cnd (i.ID==a) (f (i,i))<|d<|wr<|h+1)<|g ()
def aBJ:=mR yC
def B1: Lc 156 0 0:=bI 0xc79c1155f85e85f875e1181d46cacea8b83682de438fc2b45770f84f7da4b3aef7d22d996bfa37 C58 [] [] @yC
def iY: Nat->aM->Int->Option (Aab×Bool)
 | 0,_,_=>none
 | n+1,a,b=>bnd2 (aBJ n (b,a.Nodes,(ln a.Nodes)) 0) (λc=>some (c.1,true)) λd=>bnd (some d) λ_=>some ((Aab.mk 0<|Aaa.mk 0 0),false)
def aDK: Kn:=bG 156 0x3f91f7a1c C58 [⟨0,[B1]⟩] [] iY
abbrev C59:=aDK::C58
def HS: Nat->(List Aaa)->Int->Option (List Aaa)
 | 0,_,_=>none
 | n+1,_,a=>cd (a<0) none none
def Tl: Kn:=bG 197 0x68c3b2d25 C59 [] [] HS
abbrev C60:=Tl::C59
def gJ(n:Nat): ((List<|List Aaa)×Int)->((Int×Int)->Option R)->((Int->Option R)×Unit)->(Int×Int)->Option R:=λ(a,b) c (d,_) (f,g)=>cd (g<b) (bnd (idx a g) λh=>cd ((wr<|f+(ln h))<0) none<|c ((wr<|f+(ln h)),(wr<|g+1)))<|d f
def Jg:=qE gJ
def Dt: Lc 175 0 0:=bI 0x128c5886a42eeebfdfa25a20e88770632e7 C60 [] [] @gJ
def mH(n:Nat): Int->((Unit->Option R)×((List Aaa×(Nat×Nat))->Option R)×Unit)->Unit->Option R:=λa (b,c,_) _=>cd (a<0) none<|cd ((wr<|a-0) > 0) (bnd (rep (Aaa.mk 0 0) (wr<|a-0)<|wr<|a-0) λd=>cnd (List.isEmpty d) (b ())<|bnd (sub d (0,List.length d) 0 0) λf=>c (d,f))<|b ()
def Jh:=Uw mH
def Du: Ic:=cD 197 0 2 0x13d49ed9e42638f07559ebb2c7e821cf684ce268f66b5cd C60 [] [] @mH
def mG(n:Nat): ((List<|List Aaa)×Int)->(Int->Option R)->((Unit->Option R)×Unit)->Int->Option R:=λ(a,b) c (d,_) f=>cd (f<b) (bnd (idx a f) λg=>cnd (List.isEmpty g) (c<|wr<|f+1)<|bnd (app ([]:List Aaa) g) λ_=>none)<|d ()
def Jf:=qE mG
def Ds: Lc 175 0 1:=bI 0x2eafe32c7b39b89f9eb62136ab7759b65c0bbe C60 [] [] @mG
def gI(n:Nat): ((List<|List Aaa)×Int)->((List Aaa×(Nat×Nat)×Int)->Option R)->(((List Aaa×(Nat×Nat))->Option R)×Unit)->(List Aaa×(Nat×Nat)×Int)->Option R:=λ(a,b) c (d,_) (f,g,h)=>cd (h<b) (bnd (idx a h) λi=>bnd (g9 f g i) λj=>c (j,(g.1,g.2+List.length i),(wr<|h+1)))<|d (f,g)
def Je:=qE gI
def Dr: Lc 175 0 1:=bI 0x1836850bad62f78325437618bc954827d88e413812b36fac85 C60 [] [] @gI
def lI: Nat->(List<|List Aaa)->Option (List Aaa)
 | 0,_=>none
 | n+1,a=>bnd (Jg n (a,(ln a)) (0,0)) λb=>bnd2 (Jh n b) (λ_=>bnd (Jf n (a,(ln a)) 0) λ_=>some []) λc=>bnd (some c) λd=>bnd (Je n (a,(ln a)) (d.1,d.2,0)) λf=>some<|win f.1<|some f.2
def Mt: Kn:=bG 175 0x4ebf7b2116c4 C60 [⟨0,[Dt]⟩,⟨1,[Ds,Dr]⟩] [Du] lI
abbrev C61:=Mt::C60
def kH(n:Nat): Unit->((Unit->Option R)×Unit)->Unit->Option R:=λ_ (a,_) _=>a ()
def gD:=eO kH
def B0: Lc 151 0 0:=bJ 0x83b4f77ed7182f3c1be3ad714459ca4cb55 C61 [] [] @kH
def A9: Lc 151 0 0:=bJ 0xaf3b6019b9111dfc45f3bfb719f3bb87 C61 [] [] @kH
def A8: Lc 151 0 0:=bJ 0xaf3b6019acf3af837fa378d718e27b3e C61 [] [] @kH
def A7: Lc 151 0 0:=bJ 0x1361bcb8f96aec6eb516d0c81fb C61 [] [] @kH
def wX: Nat->aM->Int->Option (List Aaa×Int)
 | 0,_,_=>none
 | n+1,a,b=>bnd (Ou n a b) λc=>cnd c.2 (bnd (iY n a c.1.From) λd=>cnd d.2 (bnd (iY n a c.1.To) λf=>cnd f.2 (bnd (gD n ()) λ_=>bnd (lI n [[d.1.At],c.1.Via,[f.1.At]]) λg=>some (g,0))<|bnd (gD n ()) λ_=>some ([],7))<|bnd (iY n a c.1.To) λh=>cnd h.2 (bnd (gD n ()) λ_=>some ([],7))<|bnd (gD n ()) λ_=>some ([],7))<|bnd (iY n a c.1.From) λi=>cnd i.2 (bnd (iY n a c.1.To) λj=>cnd j.2 (bnd (gD n ()) λ_=>some ([],7))<|bnd (gD n ()) λ_=>some ([],7))<|bnd (iY n a c.1.To) λl=>cnd l.2 (bnd (gD n ()) λ_=>some ([],7))<|bnd (gD n ()) λ_=>some ([],7)
def aDJ: Kn:=bG 151 0x75dedcf83330bdfaea36add10136e C61 [⟨0,[B0,A9,A8,A7]⟩] [] wX
abbrev C62:=aDJ::C61
def xW(n:Nat): (aO×List Aaa×Int)->((Bool->Option R)×Unit)->Unit->Option R:=λ(a,b,c) (d,_) _=>cnd (c != 0) (d true)<|cnd (a.From==a.To) (cd ((ln b)<4) (d true)<|d false)<|d false
def Fa:=eO xW
def CS: Lc 180 0 1:=bJ 0x594a7d10d60a27a0b6a3352af091dd0c6b708adab82e816523eb0fc47a8ab C62 [] [] @xW
def mZ(n:Nat): (List Aaa×aBk×Int)->((List aY×Int)->Option R)->(((List aY×List aY)->Option R)×((List aY)->Option R)×Unit)->(List aY×Int)->Option R:=λ(a,b,c) d (f,g,_) (h,i)=>cd (i<c) (bnd (idx a i) λj=>bnd (idx a<|wr<|i+1) λl=>cd (j=l) (f (h,[]))<|bnd (app h [(aY.mk b i)]) λm=>d (m,(wr<|i+1)))<|g h
def OA:=mR mZ
def CT: Lc 180 0 2:=bI 0x202adae4f3b24c656f3690951549f3f2fab14a015022ca3f184e7601548764d4e8092c2082af1745fc0f5fd084bbe97854fdb95f6157b3b322c1e29a3a8031a4 C62 [] [] @mZ
def nA: (aM×List aO×Int)->((List aY×Int)->Option R)->(((List aY×aO×List aY)->Option R)×((List aY×aO×List aY)->Option R)×((List aY)->Option R)×Unit)->(List aY×Int)->Option R:=λ(a,b,c) d (f,g,h,_) (i,j)=>cd (j<c) (bnd (idx b j) λl=>bnd (wX n a l.ID) λm=>bnd (Fa n (l,m.1,m.2)) λo=>cnd o (f (i,l,[]))<|bnd2 (OA n (m.1,(aBk.mk l m.1),(wr<|(ln m.1)-1)) (i,0)) (λr=>g (r.1,l,r.2)) λs=>bnd (some s) λt=>d (t,(wr<|j+1)))<|h i
def OB:=lp3 nA
def CU: Lc 180 0 0:=bI 0x82eeb9291772790e5b9c9778ea6e64d60f3f84f85136bbe35c287fafae1b7791b551ed18fc15a4b9b8b1b3955cd1cf3e70bbd11a62e35fcd857cc83602c0ced33ffc0241 C62 [⟨0,[cs CS]⟩,⟨1,[cs CT]⟩] [] @nA
end
end
section
variable {R:Type}(n:Nat)
noncomputable section
def Dz: Nat->aM->Option (List aY×Bool)
 | 0,_=>none
 | n+1,a=>bnd2 (OB n (a,a.Arcs,(ln a.Arcs)) ([],0)) (λb=>bnd (Na true) λ_=>some (b.2.2,false)) λc=>bnd2 (some c) (λd=>bnd (Na true) λ_=>some (d.2.2,false)) λf=>bnd (some f) λg=>bnd (Na true) λ_=>some (g,true)
def VA: Kn:=bG 180 0x41223e1d6b48ee0bc59a C62 [⟨0,[CU]⟩] [] Dz
abbrev C63:=VA::C62
def dF: Nat->aY->Option (Aaa×Aaa)
 | 0,_=>none
 | n+1,a=>bnd (idx a.line.path a.at_) λb=>bnd (idx a.line.path<|wr<|a.at_+1) λc=>some (b,c)
def Tz: Kn:=bG 186 0x16aa53d6ef04 C63 [] [] dF
abbrev C64:=Tz::C63
def gB: Nat->aY->Option Int
 | 0,_=>none
 | n+1,a=>bnd (dF n a) λb=>some<|QE b.1.X b.2.X
def Tw: Kn:=bG 183 0x6e4138 C64 [] [] gB
abbrev C65:=Tw::C64
def pC: Nat->aY->aY->Option Int
 | 0,_,_=>none
 | n+1,a,b=>bnd (gB n a) λc=>bnd (gB n b) λd=>bnd (cC n c d) λf=>some f
def OC: Kn:=bG 182 0x4060f6b9456b C65 [] [] pC
abbrev C66:=OC::C65
def pB: Nat->aY->Option Int
 | 0,_=>none
 | n+1,a=>bnd (dF n a) λb=>some<|nE b.1.X b.2.X
def Ua: Kn:=bG 184 0x6e4138 C66 [] [] pB
abbrev C67:=Ua::C66
def Pw(n:Nat): Aaa->((Bool->Option R)×Unit)->Unit->Option R:=λa (b,_) _=>cd (a.X<(-2097152)) (b true)<|cd (a.X > 2097152) (b true)<|cd (a.Y<(-2097152)) (b true)<|cd (a.Y > 2097152) (b true)<|b false
def KH:=eO Pw
def G9: Lc 201 0 1:=bJ 0x1b771a01801299ba6e07d5131ef7a3415847e8d6d C67 [] [] @Pw
def yN: (List Aaa×Int)->(Int->Option R)->((Aaa->Option R)×(Unit->Option R)×Unit)->Int->Option R:=λ(a,b) c (d,f,_) g=>cd (g<b) (bnd (idx a g) λh=>bnd (KH n h) λi=>cnd i (d h)<|c<|wr<|g+1)<|f ()
def aCr:=mR yN
def H3: Lc 201 0 0:=bI 0x4e191ae7c5601c8318897b4c3b4e8ae0 C67 [⟨0,[cs G9]⟩] [] @yN
def oE: Nat->(List Aaa)->Option Bool
 | 0,_=>none
 | n+1,a=>bnd2 (aCr n (a,(ln a)) 0) (λ_=>some false) λb=>bnd (some b) λ_=>some true
def aEy: Kn:=bG 201 0x3d048f C67 [⟨0,[H3]⟩] [] oE
abbrev C68:=aEy::C67
def gM: Nat->Aaa->Aaa->Aaa->Option Int
 | 0,_,_,_=>none
 | n+1,a,b,c=>some<|wr<|(wr<|(wr<|b.X-a.X)*(wr<|c.Y-a.Y))-(wr<|(wr<|b.Y-a.Y)*(wr<|c.X-a.X))
def aCq: Kn:=bG 202 0x6b723a C68 [] [] gM
abbrev C69:=aCq::C68
def KJ: (Aaa×Aaa×Aaa)->((Bool->Option R)×Unit)->Unit->Option R:=λ(a,b,c) (d,_) _=>bnd (oE n [a,b,c]) λf=>cnd f (bnd (gM n a b c) λg=>cnd (g != 0) (d true)<|d false)<|d true
def H5:=eO KJ
def aCv: Lc 187 0 0:=bJ 0x86c57a8f3700858ef7ea75b9fdd02c5daf2a30012743bd90c3563df C69 [] [] @KJ
def KI(n:Nat): (Aaa×Aaa×Aaa)->((Bool->Option R)×Unit)->Unit->Option R:=λ(a,b,c) (d,_) _=>cd ((QE a.X b.X)<=c.X) (cd (c.X<=(nE a.X b.X)) (cd ((QE a.Y b.Y)<=c.Y) (cd (c.Y<=(nE a.Y b.Y)) (d true)<|d false)<|d false)<|d false)<|d false
def H4:=eO KI
def aCu: Lc 187 0 1:=bJ 0x6b8a863e4aed839e8edf92a9b3360c3a308 C69 [] [] @KI
def sV: Nat->Aaa->Aaa->Aaa->Option Bool
 | 0,_,_,_=>none
 | n+1,a,b,c=>bnd (H5 n (a,b,c)) λd=>cnd d (some false)<|bnd (H4 n (a,b,c)) λf=>cnd f (some true)<|some false
def aJ4: Kn:=bG 187 0x706119 C69 [⟨0,[aCv]⟩,⟨1,[aCu]⟩] [] sV
abbrev C70:=aJ4::C69
def DQ: Nat->Aaa->Aaa->Aaa->Option Int
 | 0,_,_,_=>none
 | n+1,a,b,c=>bnd (oE n [a,b,c]) λd=>cnd d (bnd (gM n a b c) λf=>some f)<|some 0
def aCt: Kn:=bG 212 0x224c9f63ef31ad0601 C70 [] [] DQ
abbrev C71:=aCt::C70
def jA: Nat->Aaa->Aaa->Aaa->Option Int
 | 0,_,_,_=>none
 | n+1,a,b,c=>bnd (DQ n a b c) λd=>cd (d > 0) (some 1)<|cd (d<0) (some (-1))<|some 0
def aEz: Kn:=bG 207 0x6b723a C71 [] [] jA
abbrev C72:=aEz::C71
def Gf(n:Nat): (Aaa×Aaa)->((Bool->Option R)×Unit)->Unit->Option R:=λ(a,b) (c,_) _=>cd (a.X<b.X) (c true)<|cnd (a.X==b.X) (cd (a.Y<b.Y) (c true)<|c false)<|c false
def Px:=eO Gf
def QP: Lc 213 0 0:=bJ 0x377ec387c C72 [] [] @Gf
def oF: Nat->Aaa->Aaa->Option Bool
 | 0,_,_=>none
 | n+1,a,b=>bnd (Px n (a,b)) λc=>cnd c (some true)<|some false
def U1: Kn:=bG 213 0x478922 C72 [⟨0,[QP]⟩] [] oF
abbrev C73:=U1::C72
def rW: (Aaa×Aaa)->(((Aaa×Aaa)->Option R)×Unit)->Unit->Option R:=λ(a,b) (c,_) _=>bnd (oF n b a) λd=>cnd d (c (b,a))<|c (a,b)
def yM:=eO rW
def QO: Lc 208 0 0:=bJ 0x1ae66e7ad64b1518da0a21872d56a855f1b898a8d1b2 C73 [] [] @rW
def QN: Lc 208 0 1:=bJ 0xf33065f466c932f87aef76a598cafdad19bbcc3997154f752 C73 [] [] @rW
def Ge: (Aaa×Aaa)->((Aaa->Option R)×Unit)->Unit->Option R:=λ(a,b) (c,_) _=>bnd (oF n b a) λd=>cnd d (c a)<|c b
def Pu:=eO Ge
def QM: Lc 208 0 2:=bJ 0x20fa22bb1bba6c6269b7396fc32fdddfd64c355f10682bafbf9ef222ba2dc4d970492a C73 [] [] @Ge
def Gd: (Aaa×Aaa)->((Aaa->Option R)×Unit)->Unit->Option R:=λ(a,b) (c,_) _=>bnd (oF n a b) λd=>cnd d (c a)<|c b
def Pt:=eO Gd
def QL: Lc 208 0 3:=bJ 0x16bf98d0e275f18f8367c6718040ae6d6bdee14cfdd35dba2736176a3b2d7 C73 [] [] @Gd
def Pv: Nat->Aaa->Aaa->Aaa->Aaa->Option Int
 | 0,_,_,_,_=>none
 | n+1,a,b,c,d=>bnd (yM n (a,b)) λf=>bnd (yM n (c,d)) λg=>bnd (Pu n (g.1,f.1)) λh=>bnd (Pt n (g.2,f.2)) λi=>cd (h=i) (some 1)<|bnd (oF n h i) λj=>cnd j (some 2)<|some 0
def T9: Kn:=bG 208 0x1c24c86cdd39 C73 [⟨0,[QO]⟩,⟨1,[QN]⟩,⟨2,[QM]⟩,⟨3,[QL]⟩] [] Pv
abbrev C74:=T9::C73
def Pz: (Aaa×Aaa×Aaa×Aaa)->((Bool->Option R)×Unit)->Unit->Option R:=λ(a,b,c,d) (f,_) _=>bnd (jA n a b c) λg=>cnd (g==0) (bnd (jA n a b d) λh=>cnd (h==0) (f true)<|f false)<|f false
def KL:=eO Pz
def H7: Lc 200 0 0:=bJ 0x40fffcc1d2ba8e4a5a5cfaee14c8687162bcc74fb0b228d502125237d7 C74 [] [] @Pz
def Py: (Aaa×Aaa×Aaa×Aaa)->((Bool->Option R)×Unit)->Unit->Option R:=λ(a,b,c,d) (f,_) _=>bnd (jA n a b c) λg=>bnd (jA n a b d) λh=>cd ((wr<|g*h)<=0) (bnd (jA n c d a) λi=>bnd (jA n c d b) λj=>cd ((wr<|i*j)<=0) (f true)<|f false)<|f false
def KK:=eO Py
def H6: Lc 200 0 1:=bJ 0x34e9b1fd84ff9dca0164b8618c72d37d2f1211517 C74 [] [] @Py
def Sv: Nat->Aaa->Aaa->Aaa->Aaa->Option Int
 | 0,_,_,_,_=>none
 | n+1,a,b,c,d=>bnd (oE n [a,b,c,d]) λf=>cnd f (cd (a=b) (bnd (sV n c d a) λg=>cnd g (some 1)<|some 0)<|cd (c=d) (bnd (sV n a b c) λh=>cnd h (some 1)<|some 0)<|bnd (KL n (a,b,c,d)) λi=>cnd i (bnd (Pv n a b c d) λj=>some j)<|bnd (KK n (a,b,c,d)) λl=>cnd l (some 1)<|some 0)<|some 0
def aE0: Kn:=bG 200 0x8fc7cc3153f305cc9319b1e C74 [⟨0,[H7]⟩,⟨1,[H6]⟩] [] Sv
abbrev C75:=aE0::C74
def iL: Nat->aY->Option Bool
 | 0,_=>none
 | n+1,a=>cnd (a.at_==0) (some true)<|some false
def Og: Kn:=bG 188 0x3d0490 C75 [] [] iL
abbrev C76:=Og::C75
def gC: Nat->aY->Option Bool
 | 0,_=>none
 | n+1,a=>cnd (a.at_==(wr<|(ln a.line.path)-2)) (some true)<|some false
def Tx: Kn:=bG 189 0x3d0490 C76 [] [] gC
abbrev C77:=Tx::C76
def kF(n:Nat): (aY×aY)->(((aY×aY)->Option R)×Unit)->Unit->Option R:=λ(a,b) (c,_) _=>cd (a.at_ > b.at_) (c (b,a))<|c (a,b)
def nD:=eO kF
def Oo: Lc 185 0 0:=bJ 0x27d8f838c33db90a16b0d015b12cbf11cb3987b6a6dd260 C77 [] [] @kF
def kE: (aY×aY)->((Bool->Option R)×Unit)->Unit->Option R:=λ(a,b) (c,_) _=>cnd ((wr<|a.at_+1)==b.at_) (c true)<|cnd (a.line.Arc.From==a.line.Arc.To) (bnd (iL n a) λd=>cnd d (bnd (gC n b) λf=>cnd f (c true)<|c false)<|c false)<|c false
def nC:=eO kE
def On: Lc 185 0 1:=bJ 0x4685da9a7434d00d5ee3669c9b48d6089ee80f96a C77 [] [] @kE
def kD: (aY×Aaa×Aaa×Aaa×Aaa×Int×Int×Int)->((Bool->Option R)×Unit)->Unit->Option R:=λ(a,b,c,d,f,g,h,i) (j,_) _=>cnd (i==a.line.Arc.From) (bnd (sV n b c<|Aaa.mk g h) λl=>cnd l (bnd (sV n d f<|Aaa.mk g h) λm=>cnd m (j true)<|j false)<|j false)<|cnd (i==a.line.Arc.To) (bnd (sV n b c<|Aaa.mk g h) λo=>cnd o (bnd (sV n d f<|Aaa.mk g h) λr=>cnd r (j true)<|j false)<|j false)<|j false
def fQ:=eO kD
def Om: Lc 185 0 3:=bJ 0x175418b18595dfcc47b82acad427183f4e3d3948fa64e37b5a5a9be246dc7826560be805967e67ba0c321db7a531fa2785c C77 [] [] @kD
def VC: Nat->aY->aY->(List<|Int×Aaa)->Option Bool
 | 0,_,_,_=>none
 | n+1,a,b,c=>bnd (dF n a) λd=>bnd (dF n b) λf=>bnd (Sv n d.1 d.2 f.1 f.2) λg=>cnd (a.line.Arc.ID==b.line.Arc.ID) (bnd (nD n (a,b)) λh=>bnd (nC n (h.1,h.2)) λi=>cnd i (cnd (g==1) (some true)<|some false)<|cnd (g==0) (some true)<|some false)<|cnd (g != 1) (cnd (g==0) (some true)<|some false)<|bnd (Na<|Nat.ble 3 n) λ_=>bnd (fQ n (b,d.1,d.2,f.1,f.2,(Option.getD (cE c a.line.Arc.From)<|Aaa.mk 0 0).X,(Option.getD (cE c a.line.Arc.From)<|Aaa.mk 0 0).Y,a.line.Arc.From)) λj=>cnd j (some true)<|bnd (fQ n (b,d.1,d.2,f.1,f.2,(Option.getD (cE c a.line.Arc.To)<|Aaa.mk 0 0).X,(Option.getD (cE c a.line.Arc.To)<|Aaa.mk 0 0).Y,a.line.Arc.To)) λl=>cnd l (some true)<|some false
def IV: Kn:=bG 185 0x1af6c4450354413f3a3e4 C77 [⟨0,[Oo]⟩,⟨1,[On]⟩,⟨3,[Om]⟩] [] VC
abbrev C78:=IV::C77
def qV(n:Nat): (List Aab×Int)->(((List<|Int×Aaa)×Int)->Option R)->((((List<|Int×Aaa))->Option R)×Unit)->((List<|Int×Aaa)×Int)->Option R:=λ(a,b) c (d,_) (f,g)=>cd (g<b) (bnd (idx a g) λh=>c ((kL f h.ID h.At),(wr<|g+1)))<|d f
def y9:=qE qV
def OM: Lc 164 0 0:=bI 0x4da6eb3d338d3a82260b39facebadd8e0fd4297d38961b28ba4e979e271cc C78 [] [] @qV
def OH: Lc 185 0 0:=bJ 0x1df42932a6a267b179f93e25f098476c4b9b589dc1c15a2d43 C78 [] [] @kF
def OG: Lc 185 0 1:=bJ 0x27d9a06822aad91a73505b7ac05f8ac004c3d2c9f61b9c9 C78 [] [] @kE
def OE: Lc 185 0 3:=bJ 0x772e3fe36f2f8f6062e65502f95c2dfc02444684ef69a4231f94b2edc1560d7f6e2cd19f29b7a73076aab4e1a8d9d4a252f0773d607d6d C78 [] [] @kD
def Fc: ((List<|Int×Aaa)×aY×aY)->(((aY×aY×Aaa×Aaa×Aaa×Aaa×Bool)->Option R)×((Aaa×Aaa×Aaa×Aaa×Int×Int)->Option R)×Unit)->Unit->Option R:=λ(a,b,c) (d,f,_) _=>bnd (dF n b) λg=>bnd (dF n c) λh=>bnd (Sv n g.1 g.2 h.1 h.2) λi=>cnd (b.line.Arc.ID==c.line.Arc.ID) (bnd (nD n (b,c)) λj=>bnd (nC n (j.1,j.2)) λl=>cnd l (cnd (i==1) (d (j.1,j.2,g.1,g.2,h.1,h.2,true))<|d (j.1,j.2,g.1,g.2,h.1,h.2,false))<|cnd (i==0) (d (j.1,j.2,g.1,g.2,h.1,h.2,true))<|d (j.1,j.2,g.1,g.2,h.1,h.2,false))<|cnd (i != 1) (cnd (i==0) (d (b,c,g.1,g.2,h.1,h.2,true))<|d (b,c,g.1,g.2,h.1,h.2,false))<|bnd (Na<|Nat.ble 3 n) λ_=>bnd (fQ n (c,g.1,g.2,h.1,h.2,(Option.getD (cE a b.line.Arc.From)<|Aaa.mk 0 0).X,(Option.getD (cE a b.line.Arc.From)<|Aaa.mk 0 0).Y,b.line.Arc.From)) λm=>cnd m (f (g.1,g.2,h.1,h.2,(Option.getD (cE a b.line.Arc.From)<|Aaa.mk 0 0).X,(Option.getD (cE a b.line.Arc.From)<|Aaa.mk 0 0).Y))<|bnd (fQ n (c,g.1,g.2,h.1,h.2,(Option.getD (cE a b.line.Arc.To)<|Aaa.mk 0 0).X,(Option.getD (cE a b.line.Arc.To)<|Aaa.mk 0 0).Y,b.line.Arc.To)) λo=>cnd o (f (g.1,g.2,h.1,h.2,(Option.getD (cE a b.line.Arc.To)<|Aaa.mk 0 0).X,(Option.getD (cE a b.line.Arc.To)<|Aaa.mk 0 0).Y))<|d (b,c,g.1,g.2,h.1,h.2,false)
def Oj:=Uw Fc
def ON: Ic:=cD 185 0 3 0x2d7d79efc09483ef4395bead8e33734571d77104b606e5dc3bd63cbf007212e25c26217f4c0a51b791af7edbc2541d4b22dae114179c93 C78 [⟨0,[OH]⟩,⟨1,[OG]⟩,⟨3,[OE]⟩] [] @Fc
def qT: ((List<|Int×Aaa)×aY×List aY×Int)->(Int->Option R)->((Unit->Option R)×((aY×aY×aY×Aaa×Aaa×Aaa×Aaa)->Option R)×Unit)->Int->Option R:=λ(a,b,c,d) f (g,h,_) i=>cd (i<d) (bnd (idx c i) λj=>bnd (gB n j) λl=>bnd (pB n b) λm=>cd (l > m) (g ())<|bnd2 (Oj n (a,b,j)) (λo=>cnd o.2.2.2.2.2.2 (f<|wr<|i+1)<|h (j,o.1,o.2.1,o.2.2.1,o.2.2.2.1,o.2.2.2.2.1,o.2.2.2.2.2.1)) λr=>bnd (some r) λ_=>f<|wr<|i+1)<|g ()
def y8:=mR qT
def OJ: Lc 164 0 2:=bI 0x64f2539cddce5cdfe708b342c54c02c79b907d924145a6c9a1a7e0919cf06c230f092ddc93749620cb31ff58f71a76b8d02e004b8fcb6571bed6 C78 [] [ON] @qT
def Fb: (aY×Aab×Aaa×Aaa)->((Bool->Option R)×Unit)->Unit->Option R:=λ(a,b,c,d) (f,_) _=>bnd (sV n c d b.At) λg=>cnd g (bnd (iL n a) λh=>cnd h (cnd (a.line.Arc.From==b.ID) (f false)<|bnd (gC n a) λi=>cnd i (cnd (a.line.Arc.To==b.ID) (f false)<|f true)<|f true)<|bnd (gC n a) λj=>cnd j (cnd (a.line.Arc.To==b.ID) (f false)<|f true)<|f true)<|f false
def Oh:=eO Fb
def OD: Lc 164 0 4:=bJ 0x3155c8611608332262ec5d2c2e788df1b59b30fcbbdb9be33c06ea9eff0555e159094889fad67280d C78 [] [] @Fb
def qS: (aY×List Aab×Int)->(Int->Option R)->(((Aab×Aaa×Aaa)->Option R)×(Unit->Option R)×Unit)->Int->Option R:=λ(a,b,c) d (f,g,_) h=>cd (h<c) (bnd (idx b h) λi=>bnd (dF n a) λj=>bnd (Oh n (a,i,j.1,j.2)) λl=>cnd l (f (i,j.1,j.2))<|d<|wr<|h+1)<|g ()
def y7:=mR qS
def OI: Lc 164 0 3:=bI 0xed5e3a234a3761fb06d7805aaca9a042aa6b668fa5558ed8b564ad6be1d9b672d48ddee859d9fafa3 C78 [⟨0,[cs OD]⟩] [] @qS
def qU: (aM×(List<|Int×Aaa)×List aY×List aY×Int)->(Int->Option R)->(((aY×Aab×Aaa×Aaa)->Option R)×((aY×aY×aY×aY×Aaa×Aaa×Aaa×Aaa)->Option R)×(Unit->Option R)×Unit)->Int->Option R:=λ(a,b,c,d,f) g (h,i,j,_) l=>cd (l<f) (bnd (idx d l) λm=>bnd (cut c (wr<|l+1)<|ln c) λo=>bnd2 (y8 n (b,m,o,(ln o)) 0) (λ_=>bnd2 (y7 n (m,a.Nodes,(ln a.Nodes)) 0) (λr=>h (m,r.1,r.2.1,r.2.2)) λs=>bnd (some s) λ_=>g<|wr<|l+1) λt=>bnd (some t) λu=>i (m,u.1,u.2.1,u.2.2.1,u.2.2.2.1,u.2.2.2.2.1,u.2.2.2.2.2.1,u.2.2.2.2.2.2))<|j ()
def Oi:=lp3 qU
def OK: Lc 164 0 1:=bI 0x6ccc0c9a93ceb69d20a9983e14f96b446b847e5fbbed340f9580e389c78e3f6710dca9ae7fa75553fda9ccec8fe9394045fe7afc81af940bcd12519edd06853fb11f16e8 C78 [⟨0,[cs OJ]⟩,⟨1,[cs OI]⟩] [] @qU
def Ok: Nat->aM->Option Bool
 | 0,_=>none
 | n+1,a=>bnd (Dz n a) λb=>cnd b.2 (bnd (y9 n (a.Nodes,(ln a.Nodes)) ([],0)) λc=>bnd (prd n) λd=>bnd (Na<|decide<|List.length b.1<=1000000) λ_=>bnd (qI (λ(f g:aY)=>bnd (pC d f g) λh=>some h) b.1) λi=>bnd2 (Oi n (a,c,i,i,(ln i)) 0) (λ_=>some false) λj=>bnd2 (some j) (λ_=>some false) λl=>bnd (some l) λ_=>some true)<|some false
def S0: Kn:=bG 164 0x19f491da2f76 C78 [⟨0,[OM]⟩,⟨1,[OK]⟩] [] Ok
abbrev C79:=S0::C78
def Lm(n:Nat): aM->((Bool->Option R)×Unit)->Unit->Option R:=λa (b,_) _=>cd ((ln a.Nodes) > 256) (b true)<|cd ((ln a.Arcs) > 256) (b true)<|cd ((ln a.Faces) > 64) (b true)<|b false
def S7:=eO Lm
def VF: Lc 136 0 0:=bJ 0x279d01d3ca12c5d C79 [] [] @Lm
def uH(n:Nat): (List aO×Int)->(Int->Option R)->((aO->Option R)×(Unit->Option R)×Unit)->Int->Option R:=λ(a,b) c (d,f,_) g=>cd (g<b) (bnd (idx a g) λh=>cd ((ln h.Via) > 64) (d h)<|c<|wr<|g+1)<|f ()
def S8:=mR uH
def VG: Lc 136 0 1:=bI 0x2eed65aab21e6d3ba293ecf9d82a719badd7e3de4fa9 C79 [] [] @uH
def Ll: (aM×List Int×List Int)->((Bool->Option R)×Unit)->Unit->Option R:=λ(a,b,c) (d,_) _=>bnd (kG n b) λf=>cnd f (bnd (kG n c) λg=>cnd g (bnd (kG n a.Faces) λh=>cnd h (d false)<|d true)<|d true)<|d true
def S6:=eO Ll
def VE: Lc 136 0 2:=bJ 0x34e9a56c6fc4ec36a5303727d4f35fcb7b0c66fb4 C79 [] [] @Ll
def Lk: (aM×List Int×List Int)->((Bool->Option R)×Unit)->Unit->Option R:=λ(a,b,c) (d,_) _=>bnd (mL n b) λf=>cnd f (bnd (mL n c) λg=>cnd g (bnd (mL n a.Faces) λh=>cnd h (bnd (Ol n a) λi=>cnd i (d false)<|d true)<|d true)<|d true)<|d true
def S5:=eO Lk
def VD: Lc 136 0 3:=bJ 0x50d488813a5aef41837936b194c294fd002767 C79 [] [] @Lk
def Jq: Nat->aM->Option Int
 | 0,_=>none
 | n+1,a=>bnd (S7 n a) λb=>cnd b (some 3)<|bnd2 (S8 n (a.Arcs,(ln a.Arcs)) 0) (λ_=>some 3) λc=>bnd (some c) λ_=>bnd (rA n a) λd=>bnd (S6 n (a,d.1,d.2)) λf=>cnd f (some 10)<|bnd (S5 n (a,d.1,d.2)) λg=>cnd g (some 2)<|bnd (yA n a d.1) λh=>cnd (h != 0) (some h)<|bnd (Ok n a) λi=>cnd i (some 0)<|some 11
def aBK: Kn:=bG 136 0x31d7bf C79 [⟨0,[VF]⟩,⟨1,[VG]⟩,⟨2,[VE]⟩,⟨3,[VD]⟩] [] Jq
abbrev C80:=aBK::C79
def Lq(n:Nat): (Aaa×Aaa)->((Bool->Option R)×Unit)->Unit->Option R:=λ(a,b) (c,_) _=>cd (b.Y<a.Y) (c true)<|cnd (b.Y==a.Y) (cd (b.X<a.X) (c true)<|c false)<|c false
def U0:=eO Lq
def VS: Lc 206 0 0:=bJ 0x377ec387c C80 [] [] @Lq
def gN: Nat->Aaa->Aaa->Option Bool
 | 0,_,_=>none
 | n+1,a,b=>bnd (U0 n (a,b)) λc=>cnd c (some true)<|some false
def aCs: Kn:=bG 206 0x478922 C80 [⟨0,[VS]⟩] [] gN
abbrev C81:=aCs::C80
def Qa: (Aaa×Aaa×Aaa)->((Bool->Option R)×Unit)->Unit->Option R:=λ(a,b,c) (d,_) _=>bnd (oE n [a,b,c]) λf=>cnd f (cd (b=a) (d true)<|cd (c=a) (d true)<|d false)<|d true
def KN:=eO Qa
def H8: Lc 196 0 0:=bJ 0x86c57a8f3700858ef7ea75b9fdd02c6293f50e869e6947bb3932822 C81 [] [] @Qa
def Sw: Nat->Aaa->Aaa->Aaa->Option Bool
 | 0,_,_,_=>none
 | n+1,a,b,c=>bnd (KN n (a,b,c)) λd=>cnd d (some false)<|bnd (gN n a b) λf=>cnd f (bnd (gN n a c) λg=>cnd g (cd (true=true) (bnd (gM n a b c) λh=>cd (h > 0) (some true)<|some false)<|bnd (gN n a c) λi=>cnd i (some true)<|some false)<|cd (true=false) (bnd (gM n a b c) λj=>cd (j > 0) (some true)<|some false)<|bnd (gN n a c) λl=>cnd l (some true)<|some false)<|bnd (gN n a c) λm=>cnd m (cd (false=true) (bnd (gM n a b c) λo=>cd (o > 0) (some true)<|some false)<|bnd (gN n a c) λr=>cnd r (some true)<|some false)<|cd (false=false) (bnd (gM n a b c) λs=>cd (s > 0) (some true)<|some false)<|bnd (gN n a c) λt=>cnd t (some true)<|some false
def aE1: Kn:=bG 196 0x706119 C81 [⟨0,[H8]⟩] [] Sw
abbrev C82:=aE1::C81
def Eo(n:Nat): (aO×Int)->((Bool->Option R)×Unit)->Unit->Option R:=λ(a,b) (c,_) _=>cnd (a.From != b) (cnd (a.To != b) (c true)<|c false)<|c false
def r7:=eO Eo
def NC: Lc 147 0 1:=bJ 0x74256b4319290ead4fb699d66145a1d1dfa937161e28ae2a527b0b14d096c7a6eb261838 C82 [] [] @Eo
def qQ(n:Nat): (List Int×(List<|Int×Aaa)×Int×Aaa)->(((List Int×(List<|Int×Aaa))->Option R)×Unit)->Unit->Option R:=λ(a,b,c,d) (f,_) _=>bnd (app a [c]) λg=>f (g,(kL b c d))
def oK:=sU qQ
def NG: Ic:=cD 172 0 4 0x24dbfa02a2820344b5fd84d1b4b1af190afdbec6db22433cf55c35d2efeb72cf9897ba C82 [] [] @qQ
def NF: Ic:=cD 172 0 4 0x1bb51bbf5b089b54f6000de5446fb57b6db31a7eb5fd88b06b86e287c9b6f9943c90ca8b9 C82 [] [] @qQ
def kS: (aM×Int×List aO×Int)->((List Int×(List<|Int×Aaa)×Int)->Option R)->(((List Int×(List<|Int×Aaa))->Option R)×Unit)->(List Int×(List<|Int×Aaa)×Int)->Option R:=λ(a,b,c,d) f (g,_) (h,i,j)=>cd (j<d) (bnd (idx c j) λl=>bnd (r7 n (l,b)) λm=>cnd m (f (h,i,(wr<|j+1)))<|bnd (wX n a l.ID) λo=>cnd (o.2 != 0) (f (h,i,(wr<|j+1)))<|cnd (l.From==b) (bnd (idx o.1 1) λr=>bnd (oK n (h,i,l.ID,r)) λs=>cnd (l.To==b) (bnd (idx o.1<|wr<|(ln o.1)-2) λt=>bnd (oK n (s.1,s.2,(wr<|0-l.ID),t)) λu=>f (u.1,u.2,(wr<|j+1)))<|f (s.1,s.2,(wr<|j+1)))<|cnd (l.To==b) (bnd (idx o.1<|wr<|(ln o.1)-2) λv=>bnd (oK n (h,i,(wr<|0-l.ID),v)) λw=>f (w.1,w.2,(wr<|j+1)))<|f (h,i,(wr<|j+1)))<|g (h,i)
def r8:=qE kS
def ND: Lc 147 0 0:=bI 0x36eb5f4b890b801668e2dd1d8d378a09835ccc4fa85b3bb550ab1cf3cb1014bfe3f1b6065de7c53450f7cc4c01 C82 [⟨0,[cs NC]⟩] [NG,NF] @kS
def Ep: (Aab×(List<|Int×Aaa)×Int×Int)->((Int->Option R)×Unit)->Unit->Option R:=λ(a,b,c,d) (f,_) _=>bnd (Sw n a.At (Aaa.mk ((Option.getD (cE b c)<|Aaa.mk 0 0).X)<|(Option.getD (cE b c)<|Aaa.mk 0 0).Y)<|Aaa.mk ((Option.getD (cE b d)<|Aaa.mk 0 0).X)<|(Option.getD (cE b d)<|Aaa.mk 0 0).Y) λg=>cnd g (f (-1))<|bnd (Sw n a.At (Aaa.mk ((Option.getD (cE b d)<|Aaa.mk 0 0).X)<|(Option.getD (cE b d)<|Aaa.mk 0 0).Y)<|Aaa.mk ((Option.getD (cE b c)<|Aaa.mk 0 0).X)<|(Option.getD (cE b c)<|Aaa.mk 0 0).Y) λh=>cnd h (f 1)<|f 0
def xD:=sU Ep
def NE: Ic:=cD 173 6 4 0x134e611fba371cea520e22c837d3a6650d9ab5b20e0ec675e513a439ebfa11b66bea7cf8b C82 [] [] @Ep
def Nc: Nat->aM->Int->Option (List Int)
 | 0,_,_=>none
 | n+1,a,b=>bnd (iY n a b) λc=>cnd c.2 (bnd (r8 n (a,b,a.Arcs,(ln a.Arcs)) ([],[],0)) λd=>bnd (prd n) λf=>bnd (Na<|decide<|List.length d.1<=1000000) λ_=>bnd (qI (λ(g h:Int)=>bnd (xD f (c.1,d.2,g,h)) λi=>some i) d.1) λj=>some j)<|some []
def Q7: Kn:=bG 147 0x1383f3d477b88b5731037 C82 [⟨0,[ND]⟩] [NE] Nc
abbrev C83:=Q7::C82
def xC: Nat->(List Int)->Int->Option Int
 | 0,_,_=>none
 | n+1,a,b=>bnd (kT n a b) λc=>cd (c<0) (some 0)<|bnd (aJb (wr<|(wr<|c+(ln a))-1)<|ln a) λd=>bnd (idx a d) λf=>some f
def MW: Kn:=bG 148 0x31d6cb C83 [] [] xC
abbrev C84:=MW::C83
def qO: (List Int×List Int×Int)->((List Int×(List<|Int×Int)×Int)->Option R)->(((List Int×(List<|Int×Int))->Option R)×Unit)->(List Int×(List<|Int×Int)×Int)->Option R:=λ(a,b,c) d (f,_) (g,h,i)=>cd (i<c) (bnd (idx b i) λj=>bnd (app g [j]) λl=>bnd (xC n a j) λm=>d (l,(kL h (wr<|0-j) m),(wr<|i+1)))<|f (g,h)
def r4:=qE qO
def MZ: Lc 127 0 1:=bI 0xed9f7cbc0e0a09ae7d01048898ae39b032b5e15bd955eea93f7037b6bd52873b59fe960337748a0b3255ff7e3f06299d517c9dfe32f C84 [] [] @qO
def qP: (aM×List Aab×Int)->((List Int×(List<|Int×Int)×Int)->Option R)->(((List Int×(List<|Int×Int))->Option R)×Unit)->(List Int×(List<|Int×Int)×Int)->Option R:=λ(a,b,c) d (f,_) (g,h,i)=>cd (i<c) (bnd (idx b i) λj=>bnd (Nc n a j.ID) λl=>bnd (r4 n (l,l,(ln l)) (g,h,0)) λm=>d (m.1,m.2,(wr<|i+1)))<|f (g,h)
def r5:=qE qP
def NA: Lc 127 0 0:=bI 0x14083c1b3d32755eaeb0a75a989c4c2f8776016bccaca2a14189b93702389af02f996b446b4628fae2 C84 [⟨0,[cs MZ]⟩] [] @qP
def qM(n:Nat): ((List<|Int×Int))->(((List<|Int×Bool)×List Int×Int)->Option R)->((((List<|Int×Bool)×List Int)->Option R)×Unit)->((List<|Int×Bool)×List Int×Int)->Option R:=λa b (c,_) (d,f,g)=>cnd ((Option.getD (cE d g) false)) (c (d,f))<|bnd (app f [g]) λh=>b ((kL d g true),h,(Option.getD (cE a g) 0))
def p9:=qE qM
def MX: Lc 150 0 0:=bI 0x725c735918a336a098121837399045ff6463d7411b7e3acd85b6b933eff92daeb715dfdde804b2f2720cc32 C84 [] [] @qM
def Em: ((List<|Int×Int)×(List<|Int×Bool)×Int)->((((List<|Int×Bool)×List Int)->Option R)×Unit)->Unit->Option R:=λ(a,b,c) (d,_) _=>bnd (p9 n a (b,[],c)) λf=>d (f.1,f.2)
def r6:=sU Em
def NB: Ic:=cD 150 0 3 0x1851183b4894a0ffd77090f4312ac4621d26db37e2fd309391651bdc9af67c99e64cc0683 C84 [⟨0,[MX]⟩] [] @Em
def qN: ((List<|Int×Int)×List Int×Int)->(((List<|List Int)×(List<|Int×Bool)×Int)->Option R)->((((List<|List Int)×(List<|Int×Bool))->Option R)×Unit)->((List<|List Int)×(List<|Int×Bool)×Int)->Option R:=λ(a,b,c) d (f,_) (g,h,i)=>cd (i<c) (bnd (idx b i) λj=>cnd ((Option.getD (cE h j) false)) (d (g,h,(wr<|i+1)))<|bnd (r6 n (a,h,j)) λl=>bnd (app g [l.2]) λm=>d (m,l.1,(wr<|i+1)))<|f (g,h)
def Nb:=qE qN
def MY: Lc 127 0 2:=bI 0x376c4472313fe41a057f0f05ef56a9a5f1a3dec5d4bf1a8fa6beda27cb9d45ca4c7fdfa2ab976b629355fea939893cc98f35f0fde872378a6e9ed37ea0 C84 [] [NB] @qN
def Ax: Nat->aM->Option ((List<|List Int)×Int)
 | 0,_=>none
 | n+1,a=>bnd (Jq n a) λb=>cnd (b != 0) (some ([],b))<|bnd (r5 n (a,a.Nodes,(ln a.Nodes)) ([],[],0)) λc=>bnd (prd n) λ_=>bnd (Na<|decide<|List.length c.1<=1000000) λ_=>bnd (Nb n (c.2,(tD c.1),(ln<|tD c.1)) ([],[],0)) λd=>some (d.1,0)
def Q6: Kn:=bG 127 0x429adf4879983e4d80ad03d344d18a34201 C84 [⟨0,[NA]⟩,⟨2,[MY]⟩] [] Ax
abbrev C85:=Q6::C84
def lK: (aM×List aO×Int)->(((List<|Int×List Aaa)×Int)->Option R)->((((List<|Int×List Aaa))->Option R)×Unit)->((List<|Int×List Aaa)×Int)->Option R:=λ(a,b,c) d (f,_) (g,h)=>cd (h<c) (bnd (idx b h) λi=>bnd (wX n a i.ID) λj=>cnd (j.2==0) (d ((kL g i.ID j.1),(wr<|h+1)))<|d (g,(wr<|h+1)))<|f g
def HX:=qE lK
def Tq: Lc 128 0 0:=bI 0x5d16821267eeee8a7903c5840909918886c32cf248f7d4a5c836b84 C85 [] [] @lK
def oT: Nat->aM->Option (List<|Int×List Aaa)
 | 0,_=>none
 | n+1,a=>bnd (HX n (a,a.Arcs,(ln a.Arcs)) ([],0)) λb=>some b
def NW: Kn:=bG 128 0xccc39106f19f29cdc C85 [⟨0,[Tq]⟩] [] oT
abbrev C86:=NW::C85
def Ir: Nat->aM->Int->Option (aO×Bool)
 | 0,_,_=>none
 | n+1,a,b=>cnd (b==0) (some ((aO.mk 0 0 0 [] 0 0),false))<|cnd (b==(-9223372036854775808)) (some ((aO.mk 0 0 0 [] 0 0),false))<|bnd (Ou n a<|nE b<|wr<|0-b) λc=>cnd c.2 (some (c.1,true))<|some (c.1,false)
def aBn: Kn:=bG 176 0x3f91f922a C86 [] [] Ir
abbrev C87:=aBn::C86
def tY(n:Nat): (List Aaa×Int)->((Int×Int)->Option R)->((Int->Option R)×Unit)->(Int×Int)->Option R:=λ(a,b) c (d,_) (f,g)=>cd (g<b) (bnd (idx a g) λh=>bnd (idx a<|wr<|g+1) λi=>bnd (idx a<|wr<|g+1) λj=>bnd (idx a g) λl=>c ((wr<|f+(wr<|(wr<|h.X*i.Y)-(wr<|j.X*l.Y))),(wr<|g+1)))<|d f
def Q4:=qE tY
def UL: Lc 152 0 1:=bI 0x1c7a70df3d89545d0cbc322634ddca0348516ae0d87b965 C87 [] [] @tY
def tZ: (aM×List Int×Int)->((Int×Int)->Option R)->((aO->Option R)×(Int->Option R)×Unit)->(Int×Int)->Option R:=λ(a,b,c) d (f,g,_) (h,i)=>cd (i<c) (bnd (idx b i) λj=>bnd (Ir n a j) λl=>cnd l.2 (bnd (wX n a<|nE j<|wr<|0-j) λm=>cnd (m.2 != 0) (f l.1)<|bnd (Q4 n (m.1,(wr<|(ln m.1)-1)) (0,0)) λo=>cd (j<0) (d ((wr<|h+(wr<|0-o)),(wr<|i+1)))<|d ((wr<|h+o),(wr<|i+1)))<|f l.1)<|g h
def Q5:=mR tZ
def UM: Lc 152 0 0:=bI 0xd88d8bd62b218775bfd40c9d248d50f02d1a6116cea7a1d1e C87 [⟨0,[cs UL]⟩] [] @tZ
def qL: Nat->aM->(List Int)->Option Int
 | 0,_,_=>none
 | n+1,a,b=>cd ((ln b) > 512) (some 0)<|bnd2 (Q5 n (a,b,(ln b)) (0,0)) (λ_=>some 0) λc=>bnd (some c) λd=>some d
def Is: Kn:=bG 152 0x55a49d192 C87 [⟨0,[UM]⟩] [] qL
abbrev C88:=Is::C87
def jZ: (Aaa×Aaa×Aaa)->((Bool->Option R)×Unit)->Unit->Option R:=λ(a,b,c) (d,_) _=>cd (b.Y<=a.Y) (cd (a.Y<c.Y) (bnd (jA n b c a) λf=>cd (f > 0) (d true)<|d false)<|d false)<|d false
def mJ:=eO jZ
def xP: Lc 198 0 0:=bJ 0x16bdea2e33a072c5e0bbf9c1a4133e86af61f737ca5d0be2fe3c3ca5567b3 C88 [] [] @jZ
def jY: (Aaa×Aaa×Aaa)->((Bool->Option R)×Unit)->Unit->Option R:=λ(a,b,c) (d,_) _=>cd (c.Y<=a.Y) (cd (a.Y<b.Y) (bnd (jA n b c a) λf=>cd (f<0) (d true)<|d false)<|d false)<|d false
def mI:=eO jY
def xO: Lc 198 0 1:=bJ 0x47395e03bdfdfc0960ebbf7f0d45dd876f9f1914301e518b9 C88 [] [] @jY
def kA: (Aaa×Bool×Bool×Aaa×Aaa)->(((Bool×Bool)->Option R)×Unit)->Unit->Option R:=λ(a,b,c,d,f) (g,_) _=>bnd (sV n d f a) λh=>cnd h (g (true,c))<|bnd (mJ n (a,d,f)) λi=>cnd i (g (b,(!c)))<|bnd (mI n (a,d,f)) λj=>cnd j (g (b,(!c)))<|g (b,c)
def mK:=sU kA
def xS: Ic:=cD 198 0 5 0x8e486a4ffe61f9c6806df5ab7a8f6081471f0c943e1264a72370 C88 [⟨0,[xP]⟩,⟨1,[xO]⟩] [] @kA
def eE: (Aaa×List Aaa)->((Bool×Bool×Int)->Option R)->(((Bool×Bool)->Option R)×Unit)->(Bool×Bool×Int)->Option R:=λ(a,b) c (d,_) (f,g,h)=>cd (h<(ln b)) (bnd (idx b<|wr<|h-1) λi=>bnd (idx b h) λj=>bnd (mK n (a,f,g,i,j)) λl=>cnd l.1 (cnd l.2 (c (true,true,(wr<|h+1)))<|c (true,false,(wr<|h+1)))<|cnd l.2 (c (false,true,(wr<|h+1)))<|c (false,false,(wr<|h+1)))<|d (f,g)
def Dv:=qE eE
def xQ: Lc 199 0 1:=bI 0x76991fe5fa429461000d5dbc9d37103c2fd7a288db68ae1e499b18b749 C88 [] [xS] @eE
def fO: (Aaa×(List<|Int×List Aaa)×List Int×Int)->((Bool×Bool×Int)->Option R)->(((Bool×Bool)->Option R)×Unit)->(Bool×Bool×Int)->Option R:=λ(a,b,c,d) f (g,_) (h,i,j)=>cd (j<d) (bnd (idx c j) λl=>bnd (Dv n (a,(Option.getD (cE b<|nE l<|wr<|0-l) [])) (h,i,1)) λm=>f (m.1,m.2,(wr<|j+1)))<|g (h,i)
def Dw:=qE fO
def xR: Lc 199 0 0:=bI 0xdb26be3b897aeae692f4b128a7362b9ed169e5675c19d9 C88 [⟨0,[cs xQ]⟩] [] @fO
def kB: (Aaa×(List<|Int×List Aaa)×List Int)->(((Bool×Bool)->Option R)×Unit)->Unit->Option R:=λ(a,b,c) (d,_) _=>bnd (Dw n (a,b,c,(ln c)) (false,false,0)) λf=>d (f.1,f.2)
def Dx:=sU kB
def xT: Ic:=cD 199 0 3 0x29f3198ae7a9e5fc6861dfeb85f3716471700eaa7 C88 [⟨0,[xR]⟩] [] @kB
def eI: Nat->(List<|Int×List Aaa)->(List Int)->Aaa->Option Bool
 | 0,_,_,_=>none
 | n+1,a,b,c=>bnd (Dx n (c,a,b)) λd=>cnd d.1 (cnd d.2 (some false)<|some false)<|cnd d.2 (some true)<|some false
def Ez: Kn:=bG 177 0x23df78313dff689cc8 C88 [] [xT] eI
abbrev C89:=Ez::C88
def oS: (Aaa×(List<|Int×List Aaa)×List Kv×Int×Int)->((Bool->Option R)×Unit)->Unit->Option R:=λ(a,b,c,d,f) (g,_) _=>cnd (d==0) (bnd (idx c f) λh=>bnd (eI n b h.outer a) λi=>cnd i (g true)<|g false)<|bnd (idx c f) λj=>bnd (idx c d) λl=>cd (j.twice<l.twice) (bnd (idx c f) λm=>bnd (eI n b m.outer a) λo=>cnd o (g true)<|g false)<|g false
def tE:=eO oS
def Jl: Lc 153 0 1:=bJ 0x4109f475a36d3228f23c7ce104b3b3e7cde9fc514a0499f284a9fa935e C89 [] [] @oS
def iJ: (Aaa×(List<|Int×List Aaa)×List Kv)->((Int×Int)->Option R)->((Int->Option R)×Unit)->(Int×Int)->Option R:=λ(a,b,c) d (f,_) (g,h)=>cd (h<(ln c)) (bnd (tE n (a,b,c,g,h)) λi=>cnd i (d (h,(wr<|h+1)))<|d (g,(wr<|h+1)))<|f g
def Ob:=qE iJ
def Jm: Lc 153 0 0:=bI 0x1238b45cb85b518aa3af32df97a70177642542811dd3 C89 [⟨0,[cs Jl]⟩] [] @iJ
end
end
section
variable {R:Type}(n:Nat)
noncomputable section
def eD: Nat->(List<|Int×List Aaa)->(List Kv)->Aaa->Option Int
 | 0,_,_,_=>none
 | n+1,a,b,c=>bnd (Ob n (c,a,b) (0,1)) λd=>some d
def lJ: Kn:=bG 153 0x19c82e6b30c94f9e7ac1c C89 [⟨0,[Jm]⟩] [] eD
abbrev C90:=lJ::C89
def Fg(n:Nat): (aO×Int×Int)->((Int->Option R)×Unit)->Unit->Option R:=λ(a,b,c) (d,_) _=>cnd (a.From==b) (d<|wr<|c+1)<|d c
def B2:=eO Fg
def PC: Lc 113 0 1:=bJ 0xbaa70fed963f0d9ef61267b0ffe5922d00e025a9733848419 C90 [] [] @Fg
def rE: (Int×List aO×Int)->((Int×Int)->Option R)->((Int->Option R)×Unit)->(Int×Int)->Option R:=λ(a,b,c) d (f,_) (g,h)=>cd (h<c) (bnd (idx b h) λi=>bnd (B2 n (i,a,g)) λj=>cnd (i.To==a) (d ((wr<|j+1),(wr<|h+1)))<|d (j,(wr<|h+1)))<|f g
def B3:=qE rE
def PD: Lc 113 0 0:=bI 0x4be5687425c517f89d3322b811b87 C90 [⟨0,[cs PC]⟩] [] @rE
def kI: Nat->aM->Int->Option Int
 | 0,_,_=>none
 | n+1,a,b=>bnd (B3 n (b,a.Arcs,(ln a.Arcs)) (0,0)) λc=>some c
def Ea: Kn:=bG 113 0x31d612 C90 [⟨0,[PD]⟩] [] kI
abbrev C91:=Ea::C90
end
end
section
open iW (den cds ag)
noncomputable section
def bl(x n:Nat): List Bool:=(List.range n).map λi=>x.testBit i
abbrev z0: Value:=.int .i64 0
def aSe: bR:=(.seq (.region false [] [o1 24 (.ibin .lss (tp 23) (tp 22))]) (.seq (.cond (tp 24) .skip (.exit 0)) (.seq (.block 1 (.seq (.region false [] [o1 25 (.idxAddr 1 (tp 21) (tp 23)),o1 26 (.load false 1 (tp 25)),om 10 26]) (.seq (.region false [] [o1 27 (.load true 3 (tp 3)),om 28 10,o1 29 (.callB 152 [(tp 27),(tp 28)]),om 11 29]) (.seq (.region false [] [om 30 11,o1 31 (.ibin .gtr (tp 30) (.lit z0))]) (.cond (tp 31) (.region false [] [om 32 7,om 33 11,om 34 10,o1 35 (.build [z0,bO,bO,bO] [(0,1,(tp 33)),(1,1,(tp 34))]),o1 36 (.buildSl false 4 1 [z0,bO,bO,bO] [(0,(tp 35))]),o1 37 (.append 4 80 (tp 32) (tp 36)),om 7 37]) (.region false [] [om 38 8,om 39 10,o1 40 (.buildSl true 1 1 [bO] [(0,(tp 39))]),o1 41 (.append 1 24 (tp 38) (tp 40)),om 8 41])))))) (.region false [] [o1 42 (.ibin .add (tp 23) (.lit (.int .i64 1))),om 23 42]))))
def aSd: bR:=(.seq (.region false [] [o1 46 (.ibin .lss (tp 45) (tp 44))]) (.seq (.cond (tp 46) .skip (.exit 2)) (.seq (.block 3 (.seq (.region false [] [o1 47 (.idxAddr 1 (tp 43) (tp 45)),o1 48 (.load false 1 (tp 47)),om 13 48]) (.seq (.region true [] [om 49 2,om 50 13,o1 51 (.idxAddr 1 (tp 50) (.lit z0)),o1 52 (.load false 1 (tp 51)),om 53 13,o1 54 (.idxAddr 1 (tp 53) (.lit z0)),o1 55 (.load false 1 (tp 54)),o1 56 (.un .neg (tp 55)),o1 57 (.minmax true [(tp 52),(tp 56)]),o1 58 (.lookup 3 (.lit bO) (tp 49) (tp 57) false),om 14 58]) (.seq (.region false [] [om 59 2,om 60 7,om 61 14,o1 62 (.idxAddr 2 (tp 61) (.lit z0)),o1 63 (.load true 2 (tp 62)),o1 64 (.callB 153 [(tp 59),(tp 60),(tp 63)]),om 15 64]) (.region false [] [om 65 7,om 66 15,om 67 7,om 68 15,o1 69 (.idxAddr 4 (tp 67) (tp 68)),o1 70 (.fieldAddr 2 (tp 69)),o1 71 (.load false 1 (tp 70)),om 72 13,o1 73 (.buildSl true 1 1 [bO] [(0,(tp 72))]),o1 74 (.append 1 24 (tp 71) (tp 73)),o1 75 (.idxAddr 4 (tp 65) (tp 66)),o1 76 (.fieldAddr 2 (tp 75)),⟨none,.store 1 (tp 76) (tp 74),none⟩]))))) (.region false [] [o1 77 (.ibin .add (tp 45) (.lit (.int .i64 1))),om 45 77]))))
def aSc: bR:=(.seq (.region false [] [o1 82 (.ibin .lss (tp 81) (tp 80))]) (.seq (.cond (tp 82) .skip (.exit 4)) (.seq (.block 5 (.seq (.region false [] [o1 83 (.idxAddr 3 (tp 79) (tp 81)),o1 84 (.load true 3 (tp 83)),o1 17 (.alloc [z0,z0,z0]),⟨none,.store 3 (tp 17) (tp 84),none⟩]) (.seq (.region false [] [o1 85 (.load true 3 (tp 3)),o1 86 (.fieldAddr 0 (tp 17)),o1 87 (.load false 1 (tp 86)),o1 88 (.callB 113 [(tp 85),(tp 87)]),o1 89 (.ibin .eql (tp 88) (.lit z0))]) (.cond (tp 89) (.seq (.region false [] [om 90 2,om 91 7,o1 92 (.fieldAddr 1 (tp 17)),o1 93 (.load true 2 (tp 92)),o1 94 (.callB 153 [(tp 90),(tp 91),(tp 93)]),om 18 94]) (.region true [] [om 95 7,om 96 18,om 97 7,om 98 18,o1 99 (.idxAddr 4 (tp 97) (tp 98)),o1 100 (.fieldAddr 3 (tp 99)),o1 101 (.load false 1 (tp 100)),o1 102 (.fieldAddr 0 (tp 17)),o1 103 (.load false 1 (tp 102)),o1 104 (.buildSl true 1 1 [z0] [(0,(tp 103))]),o1 105 (.append 1 8 (tp 101) (tp 104)),o1 106 (.idxAddr 4 (tp 95) (tp 96)),o1 107 (.fieldAddr 3 (tp 106)),⟨none,.store 1 (tp 107) (tp 105),none⟩])) .skip)))) (.region false [] [o1 108 (.ibin .add (tp 81) (.lit (.int .i64 1))),om 81 108]))))
theorem aOS: (Q3 T 129).body=(.seq (.region false [] [o1 3 (.box (tp 0)),o1 6 (.movN (.lit bO))]) (.seq (.region false [] [o1 19 (.build [z0,bO,bO,bO] []),o1 20 (.buildSl false 4 1 [z0,bO,bO,bO] [(0,(tp 19))]),om 7 20]) (.seq (.region false [] [o1 8 (.claim 1)]) (.seq (.seq (.region false [] [om 21 1,o1 22 (.lenS (tp 21)),o1 23 (.mov (.lit z0))]) (.block 0 (.mask (bl 0x18c 9) (bl 0x40 7) false (.loop (some (bl 0xe0018c 24)) false aSe)))) (.seq (.seq (.region false [] [om 43 8,o1 44 (.lenS (tp 43)),o1 45 (.mov (.lit z0))]) (.block 2 (.mask (bl 0x8c 8) (bl 0x40 7) false (.loop (some (bl 0x38000000008c 46)) false aSd)))) (.seq (.seq (.region false [] [o1 78 (.fieldAddr 0 (tp 3)),o1 79 (.load false 1 (tp 78)),o1 80 (.lenS (tp 79)),o1 81 (.mov (.lit z0))]) (.block 4 (.mask (bl 0x80 8) (bl 0x40 7) false (.loop (some (bl 0x38000000000000000008c 82)) false aSc)))) (.seq (.region false [] [om 109 7,om 6 109]) .ret))))))):=by kernel_rfl
def arV(a:dO): Kv:=⟨a.twice,a.outer,(),()⟩
def dv1(n:Nat)(p:aM): List (List Int)->List dO->List (List Int)->Option (List dO×List (List Int))
 | [],l,q=>some (l,q)
 | c::cs,l,q=>bnd (qL n p c) λt=>cnd (decide (t > 0)) (dv1 n p cs (l++[⟨t,c,[],[]⟩]) q) (dv1 n p cs l (q++[c]))
def dv2(n:Nat)(m:List (Int×List Aaa)): List (List Int)->List dO->Option (List dO)
 | [],l=>some l
 | c::cs,l=>bnd (idx c 0) λd=>bnd (idx ((cE m (nE d (wr (0-d)))).getD []) 0) λat_=>bnd (eD n m (l.map arV) at_) λi=>bnd (idx l i) λa=>
  dv2 n m cs (l.set i.toNat ⟨a.twice,a.outer,a.inner++[c],a.alone⟩)
def dv3(n:Nat)(p:aM)(m:List (Int×List Aaa)): List Aab->List dO->Option (List dO)
 | [],l=>some l
 | x::xs,l=>bnd (kI n p x.ID) λd=>cnd (d==0)
  (bnd (eD n m (l.map arV) x.At) λi=>bnd (idx l i) λa=>dv3 n p m xs (l.set i.toNat ⟨a.twice,a.outer,a.inner,a.alone++[x.ID]⟩))
  (dv3 n p m xs l)
def iX: Nat->aM->List (List Int)->List (Int×List Aaa)->Option (List dO)
 | 0,_,_,_=>none
 | n+1,p,cs,m=>bnd (Na (decide (cs.length<n/\p.Nodes.length<n/\cs.length<=190000/\p.Nodes.length<=9000))) λ_=>bnd (dv1 n p cs [⟨0,[],[],[]⟩] []) λq=>bnd (dv2 n m q.2 q.1) λl=>dv3 n p m p.Nodes l
structure RA where
 a:dO
 o:AV
 x:AV
 y:AV
def RA.c(r:RA): List AV:=[iv r.a.twice,r.o,r.x,r.y]
def gQ(kd:Nat)(H:aT)(x:AV)(l:List (den kd)): Prop:=(x=.lit bO/\l=[])\/∃k es,x=.ms k es.length 0 es.length/\3<=k/\H[k]?=some (.blk 1 es)/\Ql kd l es
def idC: AV->Option Nat
 | .ms k _ _ _=>some k
 | _=>none
def sel(r:RA)(u:Bool): AV:=match u with
 | true=>r.y
 | false=>r.x
structure DI(H:aT)(w:List RA): Prop where
 co:∀(i:Nat) (r:RA),w[i]?=some r->Qp (.sl 1 r.a.outer) r.o
 cx:∀(i:Nat) (r:RA),w[i]?=some r->gQ 12 H r.x r.a.inner
 cy:∀(i:Nat) (r:RA),w[i]?=some r->gQ 1 H r.y r.a.alone
 ne:∀(i j:Nat) (r s:RA) (u v:Bool) (k:Nat),w[i]?=some r->w[j]?=some s->idC (sel r u)=some k->idC (sel s v)=some k->i=j/\u=v
theorem gQ.id{kd:Nat}{H:aT}{x:AV}{l:List (den kd)}{k:Nat}(h:gQ kd H x l)(hk:idC x=some k): 3<=k/\∃o,H[k]?=some o:=by
 rcases h with⟨rfl,_⟩ | ⟨k',es,rfl,h3,hh,_⟩
 .cases hk
 .cases hk;exact⟨h3,_,hh⟩
theorem gQ.mono{kd:Nat}{H H':aT}{x:AV}{l:List (den kd)}(h:gQ kd H x l)(hk:∀k,idC x=some k->H'[k]?=H[k]?): gQ kd H' x l:=by
 rcases h with⟨rfl,h⟩ | ⟨k',es,rfl,h3,hh,q⟩
 .exact .inl ⟨rfl,h⟩
 .exact .inr ⟨k',es,rfl,h3,by rw[hk k' rfl];exact hh,q⟩
theorem gQ.shut{kd:Nat}{H H':aT}{x:AV}{l:List (den kd)}{d:Nat}(h:gQ kd H x l)(hk:∀k,3<=k->H'[k]?=H[k]?): Qp (.sl kd l) (eC H' 0 (d+1) x):=by
 rcases h with⟨rfl,rfl⟩ | ⟨k',es,rfl,h3,hh,q⟩
 .exact Qp.mkS (es:=[]) (.inr ⟨false,rfl⟩) trivial
 .simp only[eC,ZL,Zz,rd,hk k' h3,hh,YD,XQ]
  exact Qp.mkS (.inr ⟨_,rfl⟩) ((Fq H' 0 d).ls q)
theorem gQ.grow{kd:Nat}{H:aT}{x:AV}{l:List (den kd)}{bytes:Nat}{e:den kd}{row:List AV}(h:gQ kd H x l)(hr:Qr (jL kd e) row)(h1:row.length=1)(hb:bytes<=100000)(hl:l.length<=200000)(h3:3<=H.length):
 ∃k es H',cO 0 H 1 bytes x [row]=some (.ms k es.length 0 es.length,H')/\3<=k/\H'[k]?=some (.blk 1 es)/\Ql kd (l++[e]) es/\(∀j,j≠k->H'[j]?=H[j]?)/\(idC x=some k\/H[k]?=none)/\H.length<=H'.length:=by
 have a1:eU 1 [row]=true:=by simp[eU,h1]
 have rm:∀z,z<=300000->kV z bytes=true:=λz hz=>by
  have:z*bytes<=300000*100000:=Xb hz hb
  unfold kV;simp;omega
 rcases h with⟨rfl,rfl⟩ | ⟨k',es,rfl,hk,hh,q⟩
 .refine⟨H.length,[row],H++[.blk 1 [row]],?_,h3,?_,⟨hr,trivial⟩,?_,.inr (Zy (Zf _)),by simp⟩
  .show (if eU 1 [row]=true/\0<1/\kV 1 bytes=true then _ else _)=_
   rw[Zu ⟨a1,by decide,rm 1 (by decide)⟩];rfl
  .rw[ZY (Zf _),XT];rfl
  .intro j hj
   rcases ZI j H.length with h | h
   .rw[Zp h]
   .rw[Zy h,Zy (by simp;omega)]
 .have hlt:k'<H.length:=(Zd.1 hh).1
  have hes:=q.len
  refine⟨k',es++[row],H.set k' (.blk 1 (es++[row])),?_,hk,?_,q.app ⟨hr,trivial⟩,?_,.inl rfl,by simp⟩
  .show (if eU 1 [row]=true/\0<1/\kV 1 bytes=true then _ else _)=_
   rw[Zu ⟨a1,by decide,rm 1 (by decide)⟩]
   simp only[hh]
   simp only[Wg,Ye,rm (es.length+1) (by omega),Zz,Nat.one_ne_zero,Ya,ZL,Zj]
  .rw[Z5 hlt]
  .intro j hj;rw[Zv (Ne.symm hj)]
theorem DI.upd{H H' H2:aT}{w:List RA}{i:Nat}{r r':RA}{k:Nat}{u:Bool}(hI:DI H w)(hi:w[i]?=some r)(hk:3<=k)(hne:∀j,j≠k->H'[j]?=H[j]?)(hold:idC (sel r u)=some k\/H[k]?=none)(h2:∀j,j≠1->H2[j]?=H'[j]?)(ho:r'.o=r.o/\r'.a.outer=r.a.outer)(hx:gQ 12 H2 r'.x r'.a.inner\/(r'.x=r.x/\r'.a.inner=r.a.inner/\u=true))(hy:gQ 1 H2 r'.y r'.a.alone\/(r'.y=r.y/\r'.a.alone=r.a.alone/\u=false))(hu:idC (sel r' u)=some k)(hv:sel r' (!u)=sel r (!u)): DI H2 (w.set i r'):=by
 have hlt:=(Zd.1 hi).1
 have g:∀(j:Nat) (s:RA),(w.set i r')[j]?=some s->(j=i/\s=r')\/(j≠i/\w[j]?=some s):=by
  intro j s h
  by_cases hj:j=i
  .subst hj;rw[Z5 hlt] at h;cases h;exact .inl ⟨rfl,rfl⟩
  .rw[Zv (Ne.symm hj)] at h;exact .inr ⟨hj,h⟩
 have old:∀(j:Nat) (s:RA) (v:Bool) (q:Nat),w[j]?=some s->idC (sel s v)=some q->3<=q/\∃o,H[q]?=some o:=by
  intro j s v q hj hq
  cases v with
  | false=>exact (hI.cx j s hj).id hq
  | true=>exact (hI.cy j s hj).id hq
 have sep:∀(j:Nat) (s:RA) (v:Bool),w[j]?=some s->idC (sel s v)=some k->j=i/\v=u:=by
  intro j s v hj hq
  rcases hold with h | h
  .exact hI.ne j i s r v u k hj hi hq h
  .obtain⟨_,o,ho⟩:=old j s v k hj hq
   rw[h] at ho;cases ho
 have keep:∀(j:Nat) (s:RA) (v:Bool) (q:Nat),w[j]?=some s->idC (sel s v)=some q->¬(j=i/\v=u)->H2[q]?=H[q]?:=by
  intro j s v q hj hq hn
  have:=(old j s v q hj hq).1
  rw[h2 q (by omega),hne q (λe=>hn (sep j s v hj (e▸hq)))]
 refine⟨?_,?_,?_,?_⟩
 .intro j s hs
  rcases g j s hs with⟨rfl,rfl⟩ | ⟨_,hs⟩
  .rw[ho.1,ho.2];exact hI.co _ r hi
  .exact hI.co j s hs
 .intro j s hs
  rcases g j s hs with⟨rfl,rfl⟩ | ⟨hj,hs⟩
  .rcases hx with h | ⟨h1,h3,h4⟩
   .exact h
   .rw[h1,h3]
    exact (hI.cx _ r hi).mono λq hq=>keep _ r false q hi hq (by rw[h4];simp)
  .exact (hI.cx j s hs).mono λq hq=>keep j s false q hs hq (λe=>hj e.1)
 .intro j s hs
  rcases g j s hs with⟨rfl,rfl⟩ | ⟨hj,hs⟩
  .rcases hy with h | ⟨h1,h3,h4⟩
   .exact h
   .rw[h1,h3]
    exact (hI.cy _ r hi).mono λq hq=>keep _ r true q hi hq (by rw[h4];simp)
  .exact (hI.cy j s hs).mono λq hq=>keep j s true q hs hq (λe=>hj e.1)
 .have new:∀v q,idC (sel r' v)=some q->(v=u/\q=k)\/(v=!u/\idC (sel r (!u))=some q):=by
   intro v q h
   by_cases hvu:v=u
   .subst hvu;rw[hu] at h;cases h;exact .inl ⟨rfl,rfl⟩
   .have:v=!u:=by cases v<;>cases u<;>simp_all
    subst this;rw[hv] at h;exact .inr ⟨rfl,h⟩
  intro j1 j2 s1 s2 v1 v2 q e1 e2 q1 q2
  rcases g j1 s1 e1 with⟨rfl,rfl⟩ | ⟨n1,f1⟩
  .rcases g j2 s2 e2 with⟨rfl,rfl⟩ | ⟨n2,f2⟩
   .rcases new v1 q q1 with⟨rfl,rfl⟩ | ⟨rfl,o1⟩
    .rcases new v2 q q2 with⟨rfl,_⟩ | ⟨rfl,o2⟩
     .exact⟨rfl,rfl⟩
     .have:=(sep _ r (!v1) hi o2).2;cases v1<;>cases this
    .rcases new v2 q q2 with⟨rfl,rfl⟩ | ⟨rfl,o2⟩
     .have:=(sep _ r (!v2) hi o1).2;cases v2<;>cases this
     .exact⟨rfl,rfl⟩
   .rcases new v1 q q1 with⟨rfl,rfl⟩ | ⟨rfl,o1⟩
    .exact absurd (sep _ s2 v2 f2 q2).1 n2
    .exact absurd (hI.ne _ _ r s2 (!u) v2 q hi f2 o1 q2).1 (Ne.symm n2)
  .rcases g j2 s2 e2 with⟨rfl,rfl⟩ | ⟨n2,f2⟩
   .rcases new v2 q q2 with⟨rfl,rfl⟩ | ⟨rfl,o2⟩
    .exact absurd (sep _ s1 v1 f1 q1).1 n1
    .exact absurd (hI.ne _ _ s1 r v1 (!u) q f1 hi q1 o2).1 n1
   .exact hI.ne j1 j2 s1 s2 v1 v2 q f1 f2 q1 q2
theorem DI.view{H:aT}{w:List RA}(hI:DI H w)(h1:H[1]?=some (.blk 4 (w.map RA.c))): Qp (.vw 36 ((w.map RA.a).map arV)) (dD H (.ms 1 w.length 0 w.length)):=by
 simp only[dD,rd,h1,ZR,Zz,YD]
 rw[ZS (by simp)]
 refine Qp.mkV (.inr (.inr rfl)) ?_
 rw[Yb,Yb]
 have h:∀(v:List RA),(∀r∈v,Qp (.sl 1 r.a.outer) r.o)->Ql 36 (v.map (arV∘RA.a)) (v.map ((λe=>e.map Ej)∘RA.c)):=by
  intro v
  induction v with
  | nil=>exact λ_=>trivial
  | cons r v ih=>
   intro hv
   refine⟨⟨.lit _,tK.c (c:=.sl 1) (x:=r.a.outer) (hv r ZG),.undef _,.undef _,trivial⟩,ih λr hr=>hv r (ZH _ hr)⟩
 exact h w λr hr=>by
  obtain⟨i,hi⟩:=Yd.1 hr
  exact hI.co i r hi
theorem DI.rows{H H':aT}{w:List RA}{d:Nat}(hI:DI H w)(hk:∀k,3<=k->H'[k]?=H[k]?): Ql 38 (w.map RA.a) ((w.map RA.c).map λe=>e.map (eC H' 0 (d+1))):=by
 rw[Yb]
 have h:∀(v:List RA),(∀r∈v,Qp (.sl 1 r.a.outer) r.o/\gQ 12 H r.x r.a.inner/\gQ 1 H r.y r.a.alone)->Ql 38 (v.map RA.a) (v.map ((λe=>e.map (eC H' 0 (d+1)))∘RA.c)):=by
  intro v
  induction v with
  | nil=>exact λ_=>trivial
  | cons r v ih=>
   intro hv
   obtain⟨a1,a2,a3⟩:=hv r ZG
   exact⟨⟨.lit _,(Fq H' 0 (d+1)).c (c:=.sl 1) (x:=r.a.outer) a1,a2.shut hk,a3.shut hk,trivial⟩,ih λr hr=>hv r (ZH _ hr)⟩
 exact h w λr hr=>by
  obtain⟨i,hi⟩:=Yd.1 hr
  exact⟨hI.co i r hi,hI.cx i r hi,hI.cy i r hi⟩
section
variable (p:aM)(m:List (Int×List Aaa))(xn xa xf xm:AV)
structure DA(w:List RA)(H:aT): Prop where
 h0:H[0]?=some (.blk 3 [[xn,xa,xf]])
 h1:H[1]?=some (.blk 4 (w.map RA.c))
 h3:3<=H.length
 i:DI H w
variable {p m xn xa xf xm}{w:List RA}{tm:List AV}{H:aT}
variable (qn:Qp (.vw 18 p.Nodes) xn)(qa:Qp (.vw 20 p.Arcs) xa)(qf:Qp (.vw 1 p.Faces) xf)(qm:Qp (.rmp 1 14 m) xm)
theorem aIO: FOK PP T 152 ⟨[.w 25,.w 12],[1],false,λn p=>qL n p.1 p.2⟩:=by
 have e:Is.c=⟨[.w 25,.w 12],[1],false,λn p=>qL n p.1 p.2⟩:=by kernel_rfl
 have h:=Is.ok
 rw[e] at h
 exact h
theorem aG7: FOK PP T 113 ⟨[.w 25,.w 1],[1],false,λn p=>kI n p.1 p.2⟩:=by
 have e:Ea.c=⟨[.w 25,.w 1],[1],false,λn p=>kI n p.1 p.2⟩:=by kernel_rfl
 have h:=Ea.ok
 rw[e] at h
 exact h
theorem aMj: FOK PP T 153 ⟨[.w 35,.w 37,.w 0],[1],false,λn p=>eD n p.1 p.2.1 p.2.2⟩:=by
 have e:lJ.c=⟨[.w 35,.w 37,.w 0],[1],false,λn p=>eD n p.1 p.2.1 p.2.2⟩:=by kernel_rfl
 have h:=lJ.ok
 rw[e] at h
 exact h
theorem Q8{k:Nat}{l:List (den k)}{a:AV}(h:Qp (.vw k l) a): Qp (.vw k l) (dD H a):=by
 obtain⟨es,h1,h2⟩:=h.inV
 rcases h1 with⟨rfl,rfl⟩ | ⟨f,rfl⟩ | rfl
 .exact Qp.mkV (es:=[]) (.inr (.inr rfl)) h2
 .exact Qp.mkV (.inr (.inr rfl)) h2
 .exact Qp.mkV (.inr (.inr rfl)) h2
theorem aT1{kk vk:Nat}{m:List (den kk×den vk)}{a:AV}(h:Qp (.rmp kk vk m) a): Qp (.rmp kk vk m) (dD H a):=by
 obtain⟨rows,h1,h2⟩:=h.inM
 rcases h1 with⟨rfl,rfl⟩ | rfl
 .exact Qp.mkM (.inl ⟨rfl,rfl⟩) h2
 .exact Qp.mkM (.inr rfl) h2
theorem aMb{α:Type}{l:List α}{i:Nat}{x:α}(h:l[i]?=some x): idx l (i:Int)=some x:=by rw[bN];exact h
theorem Ia{α:Type}{l r:List α}{i:Nat}{x:α}(h:l.drop i=x::r): l[i]?=some x/\l.drop (i+1)=r/\i<l.length:=by
 have h1:(l.drop i)[0]?=some x:=by rw[h];rfl
 rw[Zw,Xp] at h1
 refine⟨h1,?_,(Zd.1 h1).1⟩
 have:l.drop (i+1)=(l.drop i).drop 1:=by rw[XH]
 rw[this,h];rfl
theorem aKm{i:Nat}(h:i<1000000): wr ((i:Int)+1)=((i+1:Nat):Int):=by
 show IntKind.i64.wrap _=_
 rw[Xh];push_cast;omega
theorem aNE{k:Nat}{l:List (den k)}{a:AV}(q:Qp (.vw k l) a): cJ H a=dD H a:=by
 obtain⟨es,h1,_⟩:=q.inV
 rcases h1 with⟨rfl,_⟩ | ⟨f,rfl⟩ | rfl<;>rfl
theorem aRM(H:aT)(o:dH): (H++[o])[H.length]?=some o:=by rw[ZY (Zf _),XT];rfl
theorem hold{H:aT}{o b:dH}{k:Nat}(h:H[k]?=some b): (H++[o])[k]?=some b:=by rw[Zp (Zd.1 h).1];exact h
include qn qa qf in
theorem aOR{n:Nat}{x y:bB}{c:List Int}{a:AV}{t:Int}(e:qL n p c=some t)(hx:aH tm x=.agg [xn,xa,xf])(hy:aH tm y=a)(q:Qp (.vw 1 c) a): aL PP (fB PP T n) 0 (.callB 152 [x,y]) tm H=some (iv t,H):=by
 obtain⟨A,r,h1,h2⟩:=M0 (a:=.undef) aIO (n:=n) (p:=(p,c)) (r:=t) e (λr=>⟨r,rfl⟩) (aw:=[cJ H (.agg [xn,xa,xf]),dD H a])
  ⟨Qh.mkA ⟨.p _ _ (Q8 qn),.p _ _ (Q8 qa),.p _ _ (Q8 qf),trivial⟩,.p _ _ (Q8 q),trivial⟩
 simp only[aL,ZK,Yn,hx,hy,aNE q,h1]
 rw[h2];rfl
theorem aU9{n:Nat}{x y:bB}{a:AV}{l:List Int}{t:Int}(q:Qp (.sl 1 l) a)(hx:aH tm x=iv t)(hy:aH tm y=a): aL PP (fB PP T n) 0 (.build [z0,bO,bO,bO] [(0,1,x),(1,1,y)]) tm H=some (.agg [iv t,a,.lit bO,.lit bO],H):=by
 obtain⟨es,h1,_⟩:=q.inS
 simp only[aL,ZK,Yn,hx,hy]
 rcases h1 with⟨rfl,_⟩ | ⟨f,rfl⟩<;>rfl
theorem aQl{n:Nat}{y:bB}{a:AV}{k:Nat}{l:List (den k)}{z:Value}(q:Qp (.sl k l) a)(hy:aH tm y=a): aL PP (fB PP T n) 0 (.buildSl true 1 1 [z] [(0,y)]) tm H=some (.sl true [[Ej a]],H):=by
 obtain⟨es,h1,_⟩:=q.inS
 simp only[aL,ZK,Yn,hy]
 rcases h1 with⟨rfl,_⟩ | ⟨f,rfl⟩<;>rfl
theorem DA.grow{o y:bB}{a:AV}{l:List Int}{t:Int}(d:DA xn xa xf w H)(hn:∀r∈w,r.x=.lit bO/\r.y=.lit bO)(q:Qp (.sl 1 l) a){b:dH}: DA xn xa xf (w++[⟨⟨t,l,[],[]⟩,a,.lit bO,.lit bO⟩]) ((H++[b]).set 1 (.blk 4 (w.map RA.c++[[iv t,a,.lit bO,.lit bO]]))):=by
 have hw:∀r∈w++[(⟨⟨t,l,[],[]⟩,a,.lit bO,.lit bO⟩:RA)],r.x=.lit bO/\r.y=.lit bO:=by
  intro r hr
  rcases ZC.1 hr with hr | hr
  .exact hn r hr
  .rw[ZN.1 hr];exact⟨rfl,rfl⟩
 have g:∀(i:Nat) (r:RA),(w++[(⟨⟨t,l,[],[]⟩,a,.lit bO,.lit bO⟩:RA)])[i]?=some r->w[i]?=some r\/r=⟨⟨t,l,[],[]⟩,a,.lit bO,.lit bO⟩:=by
  intro i r hr
  rcases ZI i w.length with h | h
  .rw[Zp h] at hr;exact .inl hr
  .rw[ZY h] at hr
   exact .inr (ZN.1 (Zg hr))
 refine⟨?_,?_,by simp;have:=d.h3;omega,⟨?_,?_,?_,?_⟩⟩
 .rw[Zv (by decide)];exact hold d.h0
 .rw[Z5 (by simp;have:=d.h3;omega),YJ];rfl
 .intro i r hr
  rcases g i r hr with h | rfl
  .exact d.i.co i r h
  .exact q
 .intro i r hr
  rcases g i r hr with h | rfl
  .rcases d.i.cx i r h with h1 | ⟨k,es,h1,_⟩
   .exact .inl h1
   .rw[(hn r (Zg h)).1] at h1;cases h1
  .exact .inl ⟨rfl,rfl⟩
 .intro i r hr
  rcases g i r hr with h | rfl
  .rcases d.i.cy i r h with h1 | ⟨k,es,h1,_⟩
   .exact .inl h1
   .rw[(hn r (Zg h)).2] at h1;cases h1
  .exact .inl ⟨rfl,rfl⟩
 .intro i j r s u v k hr hs hk _
  have:=hw r (Zg hr)
  cases u with
  | true=>simp only[sel,this.2,idC] at hk;cases hk
  | false=>simp only[sel,this.1,idC] at hk;cases hk
abbrev dB(xm:AV)(w:List RA): List (Nat×AV):=[(2,xm),(3,.ptr 0 1 0 0),(7,.ms 1 w.length 0 w.length)]
include qn qa qf in
theorem aMz{n N:Nat}(cs:List (List Int)){xc:AV}(qc:Qp (.vw 12 cs) xc)(hb:cs.length<=190000): ∀(todo:List (List Int)) (k i:Nat) (tm:List AV) (H:aT) (w:List RA) (q:List (List Int)) (qr:List (List AV)) (r:List dO×List (List Int)),cs.drop i=todo->todo.length<k->w.length+todo.length<=200000->qr.length+todo.length<=200000->
 DA xn xa xf w H->(∀r∈w,r.x=.lit bO/\r.y=.lit bO)->H[2]?=some (.blk 1 qr)->Ql 12 q qr->At 110 ((8,.ms 2 qr.length 0 qr.length)::(21,xc)::(22,iv (cs.length:Nat))::(23,iv i)::dB xm w) tm->dv1 n p todo (w.map RA.a) q=some r->
 WL PP (fB PP T n) n 0 N (bl 0xe0018c 24) false aSe k ⟨tm,H⟩ λx s=>x=.exit 0/\∃w' qr',w'.map RA.a=r.1/\DA xn xa xf w' s.heap/\(∀r∈w',r.x=.lit bO/\r.y=.lit bO)/\s.heap[2]?=some (.blk 1 qr')/\Ql 12 r.2 qr'/\At 110 ((8,.ms 2 qr'.length 0 qr'.length)::dB xm w') s.tmps/\w'.length<=200000/\qr'.length<=200000
 | todo,0,i,tm,H,w,q,qr,r,_,h,_,_,_,_,_,_,_,_=>by omega
 | todo,k+1,i,tm,H,w,q,qr,r,hd,hk,hw,hq,d,hn,h2,ql,ha,h=>by
  apply WL.step
  show WC PP (fB PP T n) n 0 aSe ⟨cU (bl 0xe0018c 24) tm,H⟩ _
  replace ha:At 110 ((8,.ms 2 qr.length 0 qr.length)::(21,xc)::(22,iv (cs.length:Nat))::(23,iv i)::dB xm w) (cU (bl 0xe0018c 24) tm):=
   .cons (ha.live _ rfl rfl) (.cons (ha.live _ rfl rfl) (.cons (ha.live _ rfl rfl) (.cons (ha.live _ rfl rfl) (.cons (ha.live _ rfl rfl) (.cons (ha.live _ rfl rfl) (.cons (ha.live _ rfl rfl) (ha.mask _)))))))
  generalize cU (bl 0xe0018c 24) tm=tm at ha |-
  refine WC.seq (WC.reg (AO.op ha (Ml (ha.get rfl) (ha.get rfl) rfl) λtm ha=>AO.nil ha (WC.seq ?_)))
  cases todo with
  | nil=>
   have hi:cs.length<=i:=by
    have:=congrArg List.length hd
    rw[ZU,Z2] at this;omega
   cases h
   refine WC.condF (ha.get rfl) (YI (by omega)) (WC.exit ?_)
   exact⟨rfl,w,qr,rfl,d,hn,h2,ql,.cons (ha.get rfl) (.cons (ha.get rfl) (.cons (ha.get rfl) (.cons (ha.get rfl) ⟨ha.ln,λ_ _ h=>by cases h⟩))),by omega,by omega⟩
  | cons c todo=>
   obtain⟨g1,g2,g3⟩:=Ia hd
   simp only[Z9] at hk hw hq
   simp only[dv1] at h
   obtain⟨t,e2,h⟩:=bF h
   refine WC.condT (ha.get rfl) (Yk (by omega)) (WC.skip (WC.seq (WC.block (WC.seq ?_))))
   obtain⟨row,q1,e25⟩:=aIw (P:=PP) (cf:=fB PP T n) (fl:=0) (H:=H) (s:=1) qc (ha.get (k:=21) rfl) (ha.get (k:=23) rfl) (aMb g1) rfl
   obtain⟨x,rfl,qx⟩:∃x,row=[x]/\Qp (.sl 1 c) x:=by
    match row,q1 with
    | [x],h=>exact⟨x,rfl,h.1⟩
   have hl:=qx.w
   refine WC.reg (AO.op ha e25 λtm ha=>AO.op ha (aMs (ha.get rfl)) λtm ha=>AO.mov ha rfl λtm ha=>AO.nil ha (WC.seq (WC.reg ?_)))
   refine AO.op ha (Rd (ha.get rfl) d.h0 rfl rfl (Zf 3) rfl) λtm ha=>AO.mov ha rfl λtm ha=>AO.op ha (aOR qn qa qf e2 (ha.get rfl) (ha.get rfl) hl) λtm ha=>AO.mov ha rfl λtm ha=>AO.nil ha (WC.seq (WC.reg (AO.mov ha rfl λtm ha=>AO.op ha (Ml (ha.get rfl) rfl rfl) λtm ha=>AO.nil ha ?_)))
   cases ht:decide (t > 0) with
   | true=>
    rw[ht] at h
    refine WC.condT (ha.get rfl) ht (WC.reg (AO.mov ha rfl λtm ha=>AO.mov ha rfl λtm ha=>AO.mov ha rfl λtm ha=>AO.op ha (aU9 qx (ha.get rfl) (ha.get rfl)) λtm ha=>AO.op (v:=.ms H.length 1 0 1) (H':=H++[.blk 4 [[iv t,x,.lit bO,.lit bO]]]) ha (by
     simp only[aL,ZK,Yn,ha.get (k:=35) rfl];rfl) λtm ha=>AO.op ha (aQq (es:=w.map RA.c) (ys:=[[iv t,x,.lit bO,.lit bO]]) (by rw[ZR];exact ha.get rfl) (by
      rw[ha.get (k:=36) rfl];simp only[rd,aRM];rfl) (hold d.h1) (by decide) rfl (by simp) (by decide) (by simp;omega)) λtm ha=>AO.mov ha rfl λtm ha=>AO.nil ha ?_))
    refine WC.reg (AO.op ha (Ml (ha.get rfl) rfl rfl) λtm ha=>AO.mov ha rfl λtm ha=>AO.nil ha ?_)
    have d':=d.grow (o:=.tmp 0) (y:=.tmp 0) (t:=t) hn qx (b:=.blk 4 [[iv t,x,.lit bO,.lit bO]])
    refine aMz cs qc hb todo k (i+1) _ _ (w++[⟨⟨t,c,[],[]⟩,x,.lit bO,.lit bO⟩]) q qr r g2 (by omega) (by simp;omega) (by omega) d' ?_ ?_ ql ?_ (by rw[YJ];exact h)
    .intro r hr
     rcases ZC.1 hr with hr | hr
     .exact hn r hr
     .rw[ZN.1 hr];exact⟨rfl,rfl⟩
    .rw[Zv (by decide)];exact hold h2
    .exact .cons (ha.get rfl) (.cons (ha.get rfl) (.cons (ha.get rfl) (.cons (by rw[<-aKm (by omega)];exact ha.get rfl) (.cons (ha.get rfl) (.cons (ha.get rfl) (.cons (by rw[ha.get (k:=7) rfl];simp) ⟨ha.ln,λ_ _ h=>by cases h⟩))))))
   | false=>
    rw[ht] at h
    refine WC.condF (ha.get rfl) ht (WC.reg (AO.mov ha rfl λtm ha=>AO.mov ha rfl λtm ha=>AO.op ha (aQl qx (ha.get rfl)) λtm ha=>AO.op ha (aQq (es:=qr) (ys:=[[Ej x]]) (ha.get rfl) (by rw[ha.get (k:=40) rfl];rfl) h2 (by decide) rfl (by simp) (by decide) (by simp;omega)) λtm ha=>AO.mov ha rfl λtm ha=>AO.nil ha ?_))
    refine WC.reg (AO.op ha (Ml (ha.get rfl) rfl rfl) λtm ha=>AO.mov ha rfl λtm ha=>AO.nil ha ?_)
    have d':DA xn xa xf w (H.set 2 (.blk 1 (qr++[[Ej x]]))):=⟨by rw[Zv (by decide)];exact d.h0,by rw[Zv (by decide)];exact d.h1,by simp;exact d.h3,⟨d.i.co,λi r hr=>(d.i.cx i r hr).mono λk hk=>Zv (by have:=((d.i.cx i r hr).id hk).1;omega),λi r hr=>(d.i.cy i r hr).mono λk hk=>Zv (by have:=((d.i.cy i r hr).id hk).1;omega),d.i.ne⟩⟩
    refine aMz cs qc hb todo k (i+1) _ _ w (q++[c]) (qr++[[Ej x]]) r g2 (by omega) (by omega) (by simp;omega) d' hn ?_ (ql.app ⟨⟨tK.c (c:=.sl 1) (x:=c) qx,trivial⟩,trivial⟩) ?_ h
    .rw[Z5 (Zd.1 h2).1]
    .exact .cons (ha.get rfl) (.cons (ha.get rfl) (.cons (ha.get rfl) (.cons (by rw[<-aKm (by omega)];exact ha.get rfl) (.cons (ha.get rfl) (.cons (ha.get rfl) (.cons (ha.get rfl) ⟨ha.ln,λ_ _ h=>by cases h⟩))))))
end
section
variable {p:aM}{m:List (Int×List Aaa)}{xn xa xf xm:AV}{w:List RA}{tm:List AV}{H:aT}
variable (qn:Qp (.vw 18 p.Nodes) xn)(qa:Qp (.vw 20 p.Arcs) xa)(qf:Qp (.vw 1 p.Faces) xf)(qm:Qp (.rmp 1 14 m) xm)
theorem aRj{a:Aaa}{e:List AV}(q:Qr (jL 0 a) e): e=[iv a.X,iv a.Y]:=by
 match e,q with
 | [x,y],h=>obtain⟨h1,h2,_⟩:=h;cases h1;cases h2;rfl
theorem aOC{a:Int}{e:List AV}(q:Qr (jL 1 a) e): e=[iv a]:=by
 match e,q with
 | [x],h=>obtain⟨h1,_⟩:=h;cases h1;rfl
include qm in
theorem aMt{n:Nat}{x y z:bB}{i:Int}{a:Aaa}(d:DA xn xa xf w H)(hx:aH tm x=xm)(hy:aH tm y=.ms 1 w.length 0 w.length)(hz:aH tm z=.agg [iv a.X,iv a.Y])(h:eD n m ((w.map RA.a).map arV) a=some i):
 aL PP (fB PP T n) 0 (.callB 153 [x,y,z]) tm H=some (iv i,H):=by
 have e:cJ H xm=dD H xm:=by
  obtain⟨rows,h1,_⟩:=qm.inM
  rcases h1 with⟨rfl,_⟩ | rfl<;>rfl
 obtain⟨A,r,h1,h2⟩:=M0 (a:=.undef) aMj (n:=n) (p:=(m,(w.map RA.a).map arV,a)) (r:=i) h (λr=>⟨r,rfl⟩) (aw:=[dD H xm,dD H (.ms 1 w.length 0 w.length),.agg [iv a.X,iv a.Y]])
  ⟨.p _ _ (aT1 qm),.p _ _ (d.i.view d.h1),Qh.mkA ⟨.l _,.l _,trivial⟩,trivial⟩
 have e2:cJ H (.ms 1 w.length 0 w.length)=dD H (.ms 1 w.length 0 w.length):=rfl
 have e3:cJ H (.agg [iv a.X,iv a.Y])=.agg [iv a.X,iv a.Y]:=rfl
 simp only[aL,ZK,Yn,hx,hy,hz,e,e2,e3,h1]
 rw[h2];rfl
include qm in
theorem aSb{n:Nat}{k:Int}{x y:bB}(hx:aH tm x=xm)(hy:aH tm y=iv k): ∃a,aL PP (fB PP T n) 0 (.lookup 3 (.lit bO) x y false) tm H=some (a,H)/\Qp (.sl 0 ((cE m k).getD [])) a:=by
 have hq:Qt 2 ⟨[(0,.rmp 1 14 m),(1,.lit (.int .i64 k))],List.replicate H.length .gone⟩ ⟨[xm,iv k],H⟩:=⟨rfl,λt v hv=>(by
  match t,hv with
  | 0,hv=>cases hv;exact⟨_,rfl,.p _ _ qm⟩
  | 1,hv=>cases hv;exact⟨_,rfl,.l _⟩
  | _+2,hv=>cases hv),aQj H⟩
 obtain⟨v,A',tv,S',h1,_,h3,h4⟩:=F0 (P:=PP) (T:=T) (cf:=fB PP T n) (n:=n) (d:=some 0) (E:=((⟨C0,[],[],[],[]⟩:En PP T 2 0 .skip).xe GlC.g)) (K:=λtv _=>some tv) (r:=.sl 0 ((cE m k).getD []))
  (En.ok _ _) hq (kt:=3) (z:=.lit bO) (m:=.tmp 0) (k:=.tmp 1) (ok:=false) (by kernel_rfl)
 rw[aQm h1] at h1
 obtain rfl:=ZE h4
 have e:aL PP (fB PP T n) 0 (.lookup 3 (.lit bO) x y false) tm H=aL PP (fB PP T n) 0 (.lookup 3 (.lit bO) (.tmp 0) (.tmp 1) false) [xm,iv k] H:=by
  simp only[aL,hx,hy];rfl
 exact⟨v,e.trans h1,h3.pu trivial⟩
theorem RA.c_le(r:RA){k:Nat}(h:k<=4): k<=r.c.length:=h
def aUk: Bool->Nat
 | true=>3
 | false=>2
def upR(u:Bool)(r:RA)(a':dO)(v:AV): RA:=match u with
 | true=>⟨a',r.o,r.x,v⟩
 | false=>⟨a',r.o,v,r.y⟩
theorem aMx{u:Bool}{j bytes:Nat}{ro:RA}{a':dO}{row:List AV}{kd:Nat}{l:List (den kd)}{e:den kd}(d:DA xn xa xf w H)(hj:w[j]?=some ro)(hr:Qr (jL kd e) row)(h1:row.length=1)(hb:bytes<=100000)(hl:l.length<=200000)(hc:gQ kd H (sel ro u) l)(ho:a'.outer=ro.a.outer/\a'.twice=ro.a.twice)(hx:(u=false/\∀H' v,gQ kd H' v (l++[e])->gQ 12 H' v a'.inner)\/(u=true/\a'.inner=ro.a.inner))(hy:(u=true/\∀H' v,gQ kd H' v (l++[e])->gQ 1 H' v a'.alone)\/(u=false/\a'.alone=ro.a.alone)):
 ∃k z H',cO 0 H 1 bytes (sel ro u) [row]=some (.ms k z 0 z,H')/\H'[1]?=some (.blk 4 (w.map RA.c))/\H'[2]?=H[2]? /\
  DA xn xa xf (w.set j (upR u ro a' (.ms k z 0 z))) (H'.set 1 (.blk 4 ((w.map RA.c).set j (aR ro.c (aUk u) [.ms k z 0 z])))):=by
 obtain⟨k,es,H',g1,g2,g3,g4,g5,g6,g7⟩:=hc.grow hr h1 hb hl d.h3
 have e1:H'[1]?=some (.blk 4 (w.map RA.c)):=(g5 1 (by omega)).trans d.h1
 refine⟨k,es.length,H',g1,e1,g5 2 (by omega),?_⟩
 have es1:aR ro.c (aUk u) [AV.ms k es.length 0 es.length]=(upR u ro a' (.ms k es.length 0 es.length)).c:=by
  cases u<;>simp only[upR,RA.c,ho.2]<;>rfl
 rw[es1,<-XC]
 have h3:=d.h3
 have hn:∀q,3<=q->(H'.set 1 (dH.blk 4 ((w.set j (upR u ro a' (.ms k es.length 0 es.length))).map RA.c)))[q]?=H'[q]?:=λq hq=>Zv (by omega)
 refine⟨by rw[Zv (by decide),g5 0 (by omega)];exact d.h0,Z5 (by omega),by simp;omega,?_⟩
 have hC:gQ kd (H'.set 1 (.blk 4 ((w.set j (upR u ro a' (.ms k es.length 0 es.length))).map RA.c))) (.ms k es.length 0 es.length) (l++[e]):=.inr ⟨k,es,rfl,g2,by rw[hn k g2];exact g3,g4⟩
 refine d.i.upd (u:=u) hj g2 g5 g6 (λq hq=>Zv (Ne.symm hq)) (by cases u<;>exact⟨rfl,ho.1⟩) ?_ ?_ (by cases u<;>rfl) (by cases u<;>rfl)
 .rcases hx with⟨rfl,h⟩ | ⟨rfl,h⟩
  .exact .inl (h _ _ hC)
  .exact .inr ⟨rfl,h,rfl⟩
 .rcases hy with⟨rfl,h⟩ | ⟨rfl,h⟩
  .exact .inl (h _ _ hC)
  .exact .inr ⟨rfl,h,rfl⟩
include qm in
theorem aQs{n N:Nat}(cs:List (List Int))(qr:List (List AV))(qq:Ql 12 cs qr)(hb:cs.length<=200000): ∀(todo:List (List Int)) (k i:Nat) (tm:List AV) (H:aT) (w:List RA) (r:List dO),cs.drop i=todo->todo.length<k->i<=cs.length->
 DA xn xa xf w H->H[2]?=some (.blk 1 qr)->(∀(j:Nat) (s:RA),w[j]?=some s->s.a.inner.length+s.a.alone.length<=i)->At 110 ((43,.ms 2 qr.length 0 qr.length)::(44,iv (qr.length:Nat))::(45,iv i)::dB xm w) tm->dv2 n m todo (w.map RA.a)=some r->
 WL PP (fB PP T n) n 0 N (bl 0x38000000008c 46) false aSd k ⟨tm,H⟩ λx s=>x=.exit 2/\∃w',w'.map RA.a=r/\DA xn xa xf w' s.heap/\(∀(j:Nat) (s:RA),w'[j]?=some s->s.a.inner.length+s.a.alone.length<=cs.length)/\At 110 (dB xm w') s.tmps
 | todo,0,i,tm,H,w,r,_,h,_,_,_,_,_,_=>by omega
 | todo,k+1,i,tm,H,w,r,hd,hk,hi0,d,h2,hs,ha,h=>by
  have hql:qr.length=cs.length:=qq.len
  apply WL.step
  show WC PP (fB PP T n) n 0 aSd ⟨cU (bl 0x38000000008c 46) tm,H⟩ _
  replace ha:At 110 ((43,.ms 2 qr.length 0 qr.length)::(44,iv (qr.length:Nat))::(45,iv i)::dB xm w) (cU (bl 0x38000000008c 46) tm):=
   .cons (ha.live _ rfl rfl) (.cons (ha.live _ rfl rfl) (.cons (ha.live _ rfl rfl) (.cons (ha.live _ rfl rfl) (.cons (ha.live _ rfl rfl) (.cons (ha.live _ rfl rfl) (ha.mask _))))))
  generalize cU (bl 0x38000000008c 46) tm=tm at ha |-
  refine WC.seq (WC.reg (AO.op ha (Ml (ha.get rfl) (ha.get rfl) rfl) λtm ha=>AO.nil ha (WC.seq ?_)))
  cases todo with
  | nil=>
   have hi:cs.length<=i:=by
    have:=congrArg List.length hd
    rw[ZU,Z2] at this;omega
   cases h
   refine WC.condF (ha.get rfl) (YI (by omega)) (WC.exit ⟨rfl,w,rfl,d,λj s hj=>ZB (hs j s hj) hi0,.cons (ha.get rfl) (.cons (ha.get rfl) (.cons (ha.get rfl) ⟨ha.ln,λ_ _ h=>by cases h⟩))⟩)
  | cons c todo=>
   obtain⟨g1,g2,g3⟩:=Ia hd
   simp only[Z9] at hk
   simp only[dv2] at h
   obtain⟨t,e1,h⟩:=bF h
   obtain⟨a,e2,h⟩:=bF h
   obtain⟨ix,e3,h⟩:=bF h
   obtain⟨ra,e4,h⟩:=bF h
   refine WC.condT (ha.get rfl) (Yk (by omega)) (WC.skip (WC.seq (WC.block (WC.seq ?_))))
   obtain⟨row,hrow,q1⟩:=qq.get g1
   obtain⟨x,rfl,qx⟩:∃x,row=[x]/\Qp (.sl 1 c) x:=by
    match row,q1 with
    | [x],h=>exact⟨x,rfl,h.1⟩
   refine WC.reg (AO.op ha (aEI (ha.get rfl) (ha.get rfl) h2 rfl (We i) (by simp;omega)) λtm ha=>AO.op ha (Rd (v:=x) (e:=[x]) (ha.get rfl) h2 rfl (by simpa using hrow) (Zf 1) rfl) λtm ha=>AO.mov ha rfl λtm ha=>AO.nil ha (WC.seq (WC.reg ?_)))
   obtain⟨r1,q1,e51⟩:=aIw (P:=PP) (cf:=fB PP T n) (fl:=0) (tm:=[x,iv 0]) (x:=.tmp 0) (i:=.tmp 1) (H:=H) (s:=1) qx.w rfl rfl e1 rfl
   obtain rfl:=aOC q1
   have e51:∀{tm:List AV} {y:bB},aH tm y=x->aL PP (fB PP T n) 0 (.idxAddr 1 y (.lit z0)) tm H=some (.rptr [iv t],H):=λ{tm y} hy=>by
    rw[<-e51];simp only[aL,hy];rfl
   have e58:=λ(tm:List AV)=>aSb (H:=H) (n:=n) (tm:=[xm,iv (nE t (wr (0-t)))]) qm (x:=.tmp 0) (y:=.tmp 1) rfl rfl
   obtain⟨b,e58,qb⟩:=e58 tm
   have e58:∀{tm:List AV} {y z:bB},aH tm y=xm->aH tm z=iv (nE t (wr (0-t)))->aL PP (fB PP T n) 0 (.lookup 3 (.lit bO) y z false) tm H=some (b,H):=λ{tm y z} hy hz=>by
    rw[<-e58];simp only[aL,hy,hz];rfl
   obtain⟨r2,q2,e62⟩:=aIw (P:=PP) (cf:=fB PP T n) (fl:=0) (tm:=[b,iv 0]) (x:=.tmp 0) (i:=.tmp 1) (H:=H) (s:=2) qb.w rfl rfl e2 rfl
   obtain rfl:=aRj q2
   have e62:∀{tm:List AV} {y:bB},aH tm y=b->aL PP (fB PP T n) 0 (.idxAddr 2 y (.lit z0)) tm H=some (.rptr [iv a.X,iv a.Y],H):=λ{tm y} hy=>by
    rw[<-e62];simp only[aL,hy];rfl
   refine AO.mov ha rfl λtm ha=>AO.mov ha rfl λtm ha=>AO.op ha (e51 (ha.get rfl)) λtm ha=>AO.op ha (aMs (ha.get rfl)) λtm ha=>AO.mov ha rfl λtm ha=>AO.op ha (e51 (ha.get rfl)) λtm ha=>AO.op ha (aMs (ha.get rfl)) λtm ha=>AO.op ha (aUA (ha.get rfl)) λtm ha=>AO.op ha (aUB (ha.get rfl) (ha.get rfl)) λtm ha=>AO.op ha (e58 (ha.get rfl) (ha.get rfl)) λtm ha=>AO.mov ha rfl λtm ha=>AO.nil ha (WC.seq (WC.reg ?_))
   refine AO.mov ha rfl λtm ha=>AO.mov ha rfl λtm ha=>AO.mov ha rfl λtm ha=>AO.op ha (e62 (ha.get rfl)) λtm ha=>AO.op ha (aQo (n:=2) (ha.get rfl) rfl) λtm ha=>AO.op ha (aMt qm d (ha.get rfl) (ha.get rfl) (ha.get rfl) e3) λtm ha=>AO.mov ha rfl λtm ha=>AO.nil ha (WC.reg ?_)
   obtain⟨f1,f2,f3⟩:=pN e4
   obtain⟨ro,f4,rfl⟩:∃ro,w[ix.toNat]?=some ro/\ro.a=ra:=by
    rw[Zm,Zq] at f2;exact f2
   have hlt:ix.toNat<w.length:=(Zd.1 f4).1
   have hbo:=hs _ _ f4
   have f5:(w.map RA.c)[ix.toNat]?=some ro.c:=by rw[Zm,f4];rfl
   obtain⟨kk,z,H',p1,p2,p3,p4⟩:=aMx (u:=false) (bytes:=24) (a':=⟨ro.a.twice,ro.a.outer,ro.a.inner++[c],ro.a.alone⟩) (kd:=12) (l:=ro.a.inner) (e:=c) (row:=[Ej x]) d f4 ⟨tK.c (c:=.sl 1) (x:=c) qx,trivial⟩ rfl (by decide) (by omega) (d.i.cx _ _ f4) ⟨rfl,rfl⟩ (.inl ⟨rfl,λ_ _ h=>h⟩) (.inr ⟨rfl,rfl⟩)
   refine AO.mov ha rfl λtm ha=>AO.mov ha rfl λtm ha=>AO.mov ha rfl λtm ha=>AO.mov ha rfl λtm ha=>AO.op ha (aEI (ha.get rfl) (ha.get rfl) d.h1 (by simp) f1 hlt) λtm ha=>AO.op ha (aEJ (ha.get rfl)) λtm ha=>AO.op ha (Rd (v:=ro.x) (ha.get rfl) d.h1 (by simp) f5 (ro.c_le (by decide)) rfl) λtm ha=>AO.mov ha rfl λtm ha=>AO.op ha (aQl qx (ha.get rfl)) λtm ha=>AO.op ha (aMv (ha.get rfl) (by rw[ha.get (k:=73) rfl];rfl) p1) λtm ha=>
    AO.op ha (aEI (ha.get rfl) (ha.get rfl) p2 (by simp) f1 hlt) λtm ha=>AO.op ha (aEJ (ha.get rfl)) λtm ha=>AO.sto ha (aU8 (ha.get rfl) (ha.get rfl) p2 (by simp) f5 (ro.c_le (by decide)) (by decide)) (AO.nil ha (WC.reg ?_))
   refine AO.op ha (Ml (ha.get rfl) rfl rfl) λtm ha=>AO.mov ha rfl λtm ha=>AO.nil ha ?_
   refine aQs cs qr qq hb todo k (i+1) _ _ _ r g2 (by omega) (by omega) p4 (by rw[Zv (by decide),p3];exact h2) ?_ ?_ (by rw[XC];exact h)
   .intro j s hj
    by_cases e:ix.toNat=j
    .subst e
     rw[Z5 hlt] at hj;cases hj
     simp only[upR,Zj,Ye];omega
    .rw[Zv e] at hj
     exact Xo (hs j s hj)
   .exact .cons (ha.get rfl) (.cons (ha.get rfl) (.cons (by rw[<-aKm (by omega)];exact ha.get rfl) (.cons (ha.get rfl) (.cons (ha.get rfl) (.cons (by rw[Yr];exact ha.get rfl) ⟨ha.ln,λ_ _ h=>by cases h⟩)))))
end
section
variable {p:aM}{m:List (Int×List Aaa)}{xn xa xf xm:AV}{w:List RA}{tm:List AV}{H:aT}
variable (qn:Qp (.vw 18 p.Nodes) xn)(qa:Qp (.vw 20 p.Arcs) xa)(qf:Qp (.vw 1 p.Faces) xf)(qm:Qp (.rmp 1 14 m) xm)
include qn qa qf in
theorem aMu{n:Nat}{x y:bB}{c t:Int}(e:kI n p c=some t)(hx:aH tm x=.agg [xn,xa,xf])(hy:aH tm y=iv c): aL PP (fB PP T n) 0 (.callB 113 [x,y]) tm H=some (iv t,H):=by
 obtain⟨A,r,h1,h2⟩:=M0 (a:=.undef) aG7 (n:=n) (p:=(p,c)) (r:=t) e (λr=>⟨r,rfl⟩) (aw:=[cJ H (.agg [xn,xa,xf]),iv c])
  ⟨Qh.mkA ⟨.p _ _ (Q8 qn),.p _ _ (Q8 qa),.p _ _ (Q8 qf),trivial⟩,.l _,trivial⟩
 have e2:cJ H (iv c)=iv c:=rfl
 simp only[aL,ZK,Yn,hx,hy,e2,h1]
 rw[h2];rfl
theorem aR2{a:Aab}{e:List AV}(q:Qr (jL 18 a) e): e=[iv a.ID,iv a.At.X,iv a.At.Y]:=by
 match e,q with
 | [x,y,z],h=>obtain⟨h1,h2,h3,_⟩:=h;cases h1;cases h2;cases h3;rfl
theorem DA.more(d:DA xn xa xf w H)(o:dH): DA xn xa xf w (H++[o]):=by
 have g:∀k,3<=k->k<H.length->(H++[o])[k]?=H[k]?:=λk _ h=>Zp h
 refine⟨hold d.h0,hold d.h1,by simp;have:=d.h3;omega,⟨d.i.co,λi r hr=>(d.i.cx i r hr).mono λk hk=>?_,λi r hr=>(d.i.cy i r hr).mono λk hk=>?_,d.i.ne⟩⟩
 .obtain⟨h3,b,hb⟩:=(d.i.cx i r hr).id hk
  exact g k h3 (Zd.1 hb).1
 .obtain⟨h3,b,hb⟩:=(d.i.cy i r hr).id hk
  exact g k h3 (Zd.1 hb).1
include qn qa qf qm in
theorem aMy{n N:Nat}(hb:p.Nodes.length<=9000): ∀(todo:List Aab) (k i:Nat) (tm:List AV) (H:aT) (w:List RA) (r:List dO),p.Nodes.drop i=todo->todo.length<k->i<=p.Nodes.length->
 DA xn xa xf w H->(∀(j:Nat) (s:RA),w[j]?=some s->s.a.inner.length+s.a.alone.length<=190000+i)->At 110 ((79,xn)::(80,iv (p.Nodes.length:Nat))::(81,iv i)::dB xm w) tm->dv3 n p m todo (w.map RA.a)=some r->
 WL PP (fB PP T n) n 0 N (bl 0x38000000000000000008c 82) false aSc k ⟨tm,H⟩ λx s=>x=.exit 4/\∃w',w'.map RA.a=r/\DA xn xa xf w' s.heap/\At 110 (dB xm w') s.tmps
 | todo,0,i,tm,H,w,r,_,h,_,_,_,_,_=>by omega
 | todo,k+1,i,tm,H,w,r,hd,hk,hi0,d,hs,ha,h=>by
  apply WL.step
  show WC PP (fB PP T n) n 0 aSc ⟨cU (bl 0x38000000000000000008c 82) tm,H⟩ _
  replace ha:At 110 ((79,xn)::(80,iv (p.Nodes.length:Nat))::(81,iv i)::dB xm w) (cU (bl 0x38000000000000000008c 82) tm):=
   .cons (ha.live _ rfl rfl) (.cons (ha.live _ rfl rfl) (.cons (ha.live _ rfl rfl) (.cons (ha.live _ rfl rfl) (.cons (ha.live _ rfl rfl) (.cons (ha.live _ rfl rfl) (ha.mask _))))))
  generalize cU (bl 0x38000000000000000008c 82) tm=tm at ha |-
  refine WC.seq (WC.reg (AO.op ha (Ml (ha.get rfl) (ha.get rfl) rfl) λtm ha=>AO.nil ha (WC.seq ?_)))
  cases todo with
  | nil=>
   have hi:p.Nodes.length<=i:=by
    have:=congrArg List.length hd
    rw[ZU,Z2] at this;omega
   cases h
   exact WC.condF (ha.get rfl) (YI (by omega)) (WC.exit ⟨rfl,w,rfl,d,.cons (ha.get rfl) (.cons (ha.get rfl) (.cons (ha.get rfl) ⟨ha.ln,λ_ _ h=>by cases h⟩))⟩)
  | cons c todo=>
   obtain⟨g1,g2,g3⟩:=Ia hd
   simp only[Z9] at hk
   simp only[dv3] at h
   obtain⟨t,e1,h⟩:=bF h
   refine WC.condT (ha.get rfl) (Yk (by omega)) (WC.skip (WC.seq (WC.block (WC.seq ?_))))
   obtain⟨row,q1,e83⟩:=aIw (P:=PP) (cf:=fB PP T n) (fl:=0) (H:=H) (s:=3) qn (ha.get (k:=79) rfl) (ha.get (k:=81) rfl) (aMb g1) rfl
   obtain rfl:=aR2 q1
   have d:=d.more (.blk 3 [[iv c.ID,iv c.At.X,iv c.At.Y]])
   have hH:((H++[dH.blk 3 [[iv 0,iv 0,iv 0]]]).set H.length (.blk 3 [[iv c.ID,iv c.At.X,iv c.At.Y]]))=H++[.blk 3 [[iv c.ID,iv c.At.X,iv c.At.Y]]]:=by
    rw[List.set_append_right _ _ (Zf _),XT];rfl
   have e17:∀{tm:List AV},aL PP (fB PP T n) 0 (.alloc [z0,z0,z0]) tm H=some (.ptr H.length 1 0 0,H++[.blk 3 [[iv 0,iv 0,iv 0]]]):=rfl
   have est:∀{tm:List AV} {x y:bB},aH tm x=.ptr H.length 1 0 0->aH tm y=.agg [iv c.ID,iv c.At.X,iv c.At.Y]->aL PP (fB PP T n) 0 (.store 3 x y) tm (H++[.blk 3 [[iv 0,iv 0,iv 0]]])=some (.lit bM,H++[.blk 3 [[iv c.ID,iv c.At.X,iv c.At.Y]]]):=λ{tm x y} hx hy=>by
    rw[<-hH];simp only[aL,hx,hy,cellsOf,wI,aRM];rfl
   refine WC.reg (AO.op ha e83 λtm ha=>AO.op ha (aQo (n:=3) (ha.get rfl) rfl) λtm ha=>AO.op ha e17 λtm ha=>AO.sto ha (est (ha.get rfl) (ha.get rfl)) (AO.nil ha (WC.seq (WC.reg ?_))))
   have hn:=aRM H (.blk 3 [[iv c.ID,iv c.At.X,iv c.At.Y]])
   generalize H++[.blk 3 [[iv c.ID,iv c.At.X,iv c.At.Y]]]=H2 at d hn |-
   refine AO.op ha (Rd (ha.get rfl) d.h0 rfl rfl (Zf 3) rfl) λtm ha=>AO.op ha (aEJ (ha.get rfl)) λtm ha=>AO.op ha (Rd (v:=iv c.ID) (ha.get rfl) hn rfl rfl (Zl rfl) rfl) λtm ha=>AO.op ha (aMu qn qa qf e1 (ha.get rfl) (ha.get rfl)) λtm ha=>AO.op ha (Ml (ha.get rfl) rfl rfl) λtm ha=>AO.nil ha ?_
   cases ht:(t==0) with
   | false=>
    rw[ht] at h
    refine WC.condF (ha.get rfl) ht (WC.skip (WC.reg (AO.op ha (Ml (ha.get rfl) rfl rfl) λtm ha=>AO.mov ha rfl λtm ha=>AO.nil ha ?_)))
    exact aMy hb todo k (i+1) _ _ w r g2 (by omega) (by omega) d (λj s hj=>Xo (hs j s hj)) (.cons (ha.get rfl) (.cons (ha.get rfl) (.cons (by rw[<-aKm (by omega)];exact ha.get rfl) (.cons (ha.get rfl) (.cons (ha.get rfl) (.cons (ha.get rfl) ⟨ha.ln,λ_ _ h=>by cases h⟩)))))) h
   | true=>
    rw[ht] at h
    obtain⟨ix,e3,h⟩:=bF h
    obtain⟨ra,e4,h⟩:=bF h
    refine WC.condT (ha.get rfl) ht (WC.seq (WC.reg ?_))
    refine AO.mov ha rfl λtm ha=>AO.mov ha rfl λtm ha=>AO.op ha (aEJ (ha.get rfl)) λtm ha=>AO.op ha (Rd (v:=.agg [iv c.At.X,iv c.At.Y]) (ha.get rfl) hn rfl rfl (Zl rfl) rfl) λtm ha=>AO.op ha (aMt qm d (ha.get rfl) (ha.get rfl) (ha.get rfl) e3) λtm ha=>AO.mov ha rfl λtm ha=>AO.nil ha (WC.reg ?_)
    obtain⟨f1,f2,f3⟩:=pN e4
    obtain⟨ro,f4,rfl⟩:∃ro,w[ix.toNat]?=some ro/\ro.a=ra:=by
     rw[Zm,Zq] at f2;exact f2
    have hlt:ix.toNat<w.length:=(Zd.1 f4).1
    have hbo:=hs _ _ f4
    have f5:(w.map RA.c)[ix.toNat]?=some ro.c:=by rw[Zm,f4];rfl
    obtain⟨kk,z,H',p1,p2,p3,p4⟩:=aMx (u:=true) (bytes:=8) (a':=⟨ro.a.twice,ro.a.outer,ro.a.inner,ro.a.alone++[c.ID]⟩) (kd:=1) (l:=ro.a.alone) (e:=c.ID) (row:=[iv c.ID]) d f4 ⟨.lit _,trivial⟩ rfl (by decide) (by omega) (d.i.cy _ _ f4) ⟨rfl,rfl⟩ (.inr ⟨rfl,rfl⟩) (.inl ⟨rfl,λ_ _ h=>h⟩)
    refine AO.mov ha rfl λtm ha=>AO.mov ha rfl λtm ha=>AO.mov ha rfl λtm ha=>AO.mov ha rfl λtm ha=>AO.op ha (aEI (ha.get rfl) (ha.get rfl) d.h1 (by simp) f1 hlt) λtm ha=>AO.op ha (aEJ (ha.get rfl)) λtm ha=>AO.op ha (Rd (v:=ro.y) (ha.get rfl) d.h1 (by simp) f5 (ro.c_le (by decide)) rfl) λtm ha=>AO.op ha (aEJ (ha.get rfl)) λtm ha=>AO.op ha (Rd (v:=iv c.ID) (ha.get rfl) hn rfl rfl (Zl rfl) rfl) λtm ha=>AO.op (v:=.sl true [[iv c.ID]]) (H':=H2) ha (by
     simp only[aL,ZK,Yn,ha.get (k:=103) rfl];rfl) λtm ha=>AO.op ha (aMv (ha.get rfl) (by rw[ha.get (k:=104) rfl];rfl) p1) λtm ha=>
     AO.op ha (aEI (ha.get rfl) (ha.get rfl) p2 (by simp) f1 hlt) λtm ha=>AO.op ha (aEJ (ha.get rfl)) λtm ha=>AO.sto ha (aU8 (ha.get rfl) (ha.get rfl) p2 (by simp) f5 (ro.c_le (by decide)) (by decide)) (AO.nil ha (WC.reg ?_))
    refine AO.op ha (Ml (ha.get rfl) rfl rfl) λtm ha=>AO.mov ha rfl λtm ha=>AO.nil ha ?_
    refine aMy hb todo k (i+1) _ _ _ r g2 (by omega) (by omega) p4 ?_ ?_ (by rw[XC];exact h)
    .intro j s hj
     by_cases e:ix.toNat=j
     .subst e
      rw[Z5 hlt] at hj;cases hj
      simp only[upR,Zj,Ye];omega
     .rw[Zv e] at hj
      exact Xo (hs j s hj)
    .exact .cons (ha.get rfl) (.cons (ha.get rfl) (.cons (by rw[<-aKm (by omega)];exact ha.get rfl) (.cons (ha.get rfl) (.cons (ha.get rfl) (.cons (by rw[Yr];exact ha.get rfl) ⟨ha.ln,λ_ _ h=>by cases h⟩)))))
end
theorem aJB(n:Nat)(p:aM)(cs:List (List Int))(m:List (Int×List Aaa))(r:List dO)(h:iX n p cs m=some r){xn xa xf xc xm:AV}(qn:Qp (.vw 18 p.Nodes) xn)(qa:Qp (.vw 20 p.Arcs) xa)(qf:Qp (.vw 1 p.Faces) xf)(qc:Qp (.vw 12 cs) xc)(qm:Qp (.rmp 1 14 m) xm):
 ∃w H,fB PP T n 0 129 [.agg [xn,xa,xf],xc,xm] []=some (.ms 1 w.length 0 w.length,H)/\w.map RA.a=r/\DA xn xa xf w H:=by
 cases n with
 | zero=>cases h
 | succ n=>
  rw[iX] at h
  obtain⟨_,eg,h⟩:=bF h
  obtain⟨b1,b2,b3,b4⟩:=Zh (yL eg)
  obtain⟨lq,e1,h⟩:=bF h
  obtain⟨l2,e2,h⟩:=bF h
  have key:WC PP (fB PP T n) n 0 (Q3 T 129).body ⟨[.agg [xn,xa,xf],xc,xm]++List.replicate 107 (.lit bM),[]⟩ λx s=>x=.ret/\∃w,w.map RA.a=r/\DA xn xa xf w s.heap/\aH s.tmps (.tmp 6)=.ms 1 w.length 0 w.length:=by
   rw[aOS]
   have ha:At 110 [(0,.agg [xn,xa,xf]),(1,xc),(2,xm)] ([.agg [xn,xa,xf],xc,xm]++List.replicate 107 (.lit bM)):=.cons rfl (.cons rfl (.cons rfl ⟨rfl,λ_ _ h=>by cases h⟩))
   generalize [AV.agg [xn,xa,xf],xc,xm]++List.replicate 107 (.lit bM)=tm at ha
   refine WC.seq (WC.reg (AO.op (v:=.ptr 0 1 0 0) (H':=[.blk 3 [[xn,xa,xf]]]) ha (by simp only[aL,ha.get (k:=0) rfl];rfl) λtm ha=>AO.op (v:=.sl false []) (H':=[.blk 3 [[xn,xa,xf]]]) ha rfl λtm ha=>AO.nil ha (WC.seq (WC.reg ?_))))
   refine AO.op (v:=.agg [iv 0,.lit bO,.lit bO,.lit bO]) (H':=[.blk 3 [[xn,xa,xf]]]) ha rfl λtm ha=>AO.op (v:=.ms 1 1 0 1) (H':=[.blk 3 [[xn,xa,xf]],.blk 4 [[iv 0,.lit bO,.lit bO,.lit bO]]]) ha (by simp only[aL,ZK,Yn,ha.get (k:=19) rfl];rfl) λtm ha=>AO.mov ha rfl λtm ha=>AO.nil ha (WC.seq (WC.reg ?_))
   refine AO.op (v:=.ms 2 0 0 0) (H':=[.blk 3 [[xn,xa,xf]],.blk 4 [[iv 0,.lit bO,.lit bO,.lit bO]],.blk 1 []]) ha rfl λtm ha=>AO.nil ha (WC.seq (WC.seq (WC.reg ?_)))
   refine AO.mov ha rfl λtm ha=>AO.op ha (aQn qc (ha.get rfl)) λtm ha=>AO.op (v:=iv 0) ha rfl λtm ha=>AO.nil ha ?_
   have d0:DA xn xa xf [⟨⟨0,[],[],[]⟩,.lit bO,.lit bO,.lit bO⟩] [.blk 3 [[xn,xa,xf]],.blk 4 [[iv 0,.lit bO,.lit bO,.lit bO]],.blk 1 []]:=by
    have g:∀(i:Nat) (r:RA),[(⟨⟨0,[],[],[]⟩,.lit bO,.lit bO,.lit bO⟩:RA)][i]?=some r->r=⟨⟨0,[],[],[]⟩,.lit bO,.lit bO,.lit bO⟩:=λi r hr=>ZN.1 (Zg hr)
    refine⟨rfl,rfl,Zf 3,⟨λi r hr=>?_,λi r hr=>?_,λi r hr=>?_,λi j r s u v k hr _ hk _=>?_⟩⟩
    .rw[g i r hr];exact Qp.mkS (.inl ⟨rfl,rfl⟩) trivial
    .rw[g i r hr];exact .inl ⟨rfl,rfl⟩
    .rw[g i r hr];exact .inl ⟨rfl,rfl⟩
    .rw[g i r hr] at hk;cases u<;>cases hk
   refine WC.block (WC.mask (WC.loop ((aMz (xm:=xm) qn qa qf cs qc b3 cs n 0 tm _ _ [] [] lq rfl b1 (by simp;omega) (by simp;omega) d0 (λr hr=>by rw[ZN.1 hr];exact⟨rfl,rfl⟩) rfl trivial (.cons (ha.get rfl) (.cons (ha.get rfl) (.cons (ha.get rfl) (.cons (ha.get rfl) (.cons (ha.get rfl) (.cons (ha.get rfl) (.cons (ha.get rfl) ⟨ha.ln,λ_ _ h=>by cases h⟩))))))) e1).imp ?_)))
   rintro x s ⟨rfl,w,qr,rw1,d1,hn,h2,ql,ha,hw,hq⟩
   show WC PP (fB PP T n) n 0 _ ⟨cU (bl 0x18c 9) s.tmps,s.heap⟩ _
   replace ha:At 110 ((8,.ms 2 qr.length 0 qr.length)::dB xm w) (cU (bl 0x18c 9) s.tmps):=.cons (ha.live _ rfl rfl) (.cons (ha.live _ rfl rfl) (.cons (ha.live _ rfl rfl) (.cons (ha.live _ rfl rfl) (ha.mask _))))
   generalize cU (bl 0x18c 9) s.tmps=tm at ha
   generalize s.heap=H at d1 h2
   refine WC.seq (WC.seq (WC.reg (AO.mov ha rfl λtm ha=>AO.op (v:=iv (qr.length:Nat)) (H':=H) ha (by simp only[aL,ha.get (k:=43) rfl]) λtm ha=>AO.op (v:=iv 0) ha rfl λtm ha=>AO.nil ha ?_)))
   have hql:qr.length=lq.2.length:=ql.len
   have hin:∀(j:Nat) (s:RA),w[j]?=some s->s.a.inner.length+s.a.alone.length<=0:=λj s hj=>by
    have hm:=hn s (Zg hj)
    have c1:s.a.inner=[]:=by
     rcases d1.i.cx j s hj with⟨_,h⟩ | ⟨k,es,h,_⟩
     .exact h
     .rw[hm.1] at h;cases h
    have c2:s.a.alone=[]:=by
     rcases d1.i.cy j s hj with⟨_,h⟩ | ⟨k,es,h,_⟩
     .exact h
     .rw[hm.2] at h;cases h
    rw[c1,c2];exact Zf _
   have hlq:lq.2.length<=cs.length:=by
    have:∀(cs:List (List Int)) (l:List dO) (q:List (List Int)) (r:List dO×List (List Int)),dv1 n p cs l q=some r->r.2.length<=q.length+cs.length:=by
     intro cs
     induction cs with
     | nil=>intro l q r h;cases h;exact Zf _
     | cons c cs ih=>
      intro l q r h
      simp only[dv1] at h
      obtain⟨t,_,h⟩:=bF h
      simp only[Z9]
      cases ht:decide (t > 0) with
      | true=>rw[ht] at h;have:=ih _ _ _ h;omega
      | false=>rw[ht] at h;have:=ih _ _ _ h;rw[Zj,Ye] at this;omega
    have:=this cs _ _ _ e1
    simp only[Z2] at this;omega
   refine WC.block (WC.mask (WC.loop ((aQs (xn:=xn) (xa:=xa) (xf:=xf) qm lq.2 qr ql (by omega) lq.2 n 0 tm _ w l2 rfl (by omega) (ZL _) d1 h2 hin (.cons (ha.get rfl) (.cons (ha.get rfl) (.cons (ha.get rfl) (.cons (ha.get rfl) (.cons (ha.get rfl) (.cons (ha.get rfl) ⟨ha.ln,λ_ _ h=>by cases h⟩)))))) (by rw[rw1];exact e2)).imp ?_)))
   rintro x s ⟨rfl,w2,rw2,d2,hs2,ha⟩
   show WC PP (fB PP T n) n 0 _ ⟨cU (bl 0x8c 8) s.tmps,s.heap⟩ _
   replace ha:At 110 (dB xm w2) (cU (bl 0x8c 8) s.tmps):=.cons (ha.live _ rfl rfl) (.cons (ha.live _ rfl rfl) (.cons (ha.live _ rfl rfl) (ha.mask _)))
   generalize cU (bl 0x8c 8) s.tmps=tm at ha
   generalize s.heap=H at d2
   refine WC.seq (WC.seq (WC.reg (AO.op ha (aEJ (ha.get rfl)) λtm ha=>AO.op ha (Rd (v:=xn) (ha.get rfl) d2.h0 rfl rfl (Zl rfl) rfl) λtm ha=>AO.op ha (aQn qn (ha.get rfl)) λtm ha=>AO.op (v:=iv 0) ha rfl λtm ha=>AO.nil ha ?_)))
   refine WC.block (WC.mask (WC.loop ((aMy qn qa qf qm b4 p.Nodes n 0 tm _ w2 r rfl b2 (ZL _) d2 (λj s hj=>by have:=hs2 j s hj;omega) (.cons (ha.get rfl) (.cons (ha.get rfl) (.cons (ha.get rfl) (.cons (ha.get rfl) (.cons (ha.get rfl) (.cons (ha.get rfl) ⟨ha.ln,λ_ _ h=>by cases h⟩)))))) (by rw[rw2];exact h)).imp ?_)))
   rintro x s ⟨rfl,w3,rw3,d3,ha⟩
   show WC PP (fB PP T n) n 0 _ ⟨cU (bl 0x80 8) s.tmps,s.heap⟩ _
   replace ha:At 110 [(7,.ms 1 w3.length 0 w3.length)] (cU (bl 0x80 8) s.tmps):=.cons (ha.live _ rfl rfl) (ha.mask _)
   generalize cU (bl 0x80 8) s.tmps=tm at ha
   exact WC.seq (WC.reg (AO.mov ha rfl λtm ha=>AO.mov ha rfl λtm ha=>AO.nil ha (WC.ret ⟨rfl,w3,rw3,d3,ha.get rfl⟩)))
  obtain⟨x,s,k1,rfl,w,rfl,d,k2⟩:=key
  refine⟨w,s.heap,?_,rfl,d⟩
  rw[I8 (Q3 T 129) (by kernel_rfl)]
  have e:(Q3 T 129).nt=110:=by kernel_rfl
  have e2:(Q3 T 129).rets=[.tmp 6]:=by kernel_rfl
  rw[e]
  show aGy _ (eP PP (fB PP T n) n 0 (Q3 T 129).body ⟨[.agg [xn,xa,xf],xc,xm]++List.replicate 107 (.lit bM),[]⟩)=_
  rw[k1]
  simp only[aGy,e2,lB,Qv,k2,jP]
theorem aG5: FOK PP T 129 ⟨[.w 25,.w 34,.w 35],[39],true,λn p=>iX n p.1 p.2.1 p.2.2⟩:=by
 rintro n ⟨p,cs,m⟩ r h aw q
 match aw,q with
 | [pl,xc,xm],q=>
 obtain⟨q1,q2,q3,_⟩:=q
 obtain⟨b,rfl,q4⟩:=Qh.inA (cs:=[.vw 18 p.Nodes,.vw 20 p.Arcs,.vw 1 p.Faces]) q1
 clear q1
 match b,q4 with
 | [xn,xa,xf],q4=>
 obtain⟨qn,qa,qf,_⟩:=q4
 replace qn:=Qh.pu (v:=.vw 18 p.Nodes) qn trivial
 replace qa:=Qh.pu (v:=.vw 20 p.Arcs) qa trivial
 replace qf:=Qh.pu (v:=.vw 1 p.Faces) qf trivial
 have qc:Qp (.vw 12 cs) xc:=Qh.pu (v:=.vw 12 cs) q2 trivial
 have qm:Qp (.rmp 1 14 m) xm:=Qh.pu (v:=.rmp 1 14 m) q3 trivial
 obtain⟨w,H,k1,rfl,d⟩:=aJB n p cs m r h qn qa qf qc qm
 have hw:(w.map RA.c).length=w.length:=ZR _
 refine⟨[.ms 1 w.length 0 w.length],H,k1,?_,?_,?_⟩
 .intro H1
  refine⟨.p _ _ ?_,trivial⟩
  show Qp (.sl 38 (w.map RA.a)) (eC H 0 6 (.ms 1 w.length 0 w.length))
  simp only[eC,ZL,Zz,rd,d.h1,hw,YD]
  rw[ZS (by simp)]
  exact Qp.mkS (.inr ⟨_,rfl⟩) (d.i.rows (d:=4) λk _=>rfl)
 .intro a ha l e
  rw[ZN.1 ha] at e;cases e
 .intro _ k y us hv
  cases hv
  refine⟨_,[],_,rfl,?_,d.i.rows (d:=5) (H':=H.set 1 (.blk 4 (w.map RA.c++[List.replicate 4 .undef]))) λk hk=>Zv (by omega)⟩
  simp only[SX,d.h1,hw,Y7,Xt]
  rfl
def UX: Kn:=⟨129,_,aG5⟩
end
end
end Go.Proofs.YtmcgghedgfkjiaaGreatDoor.Av
