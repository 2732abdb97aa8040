/- A part of the proof of a law. -/
import Derived.Test.YtmcgghedgfkjiaaGreatDoorP8
import Derived.Test.YtmcgghedgfkjiaaGreatDoorP7
set_option maxRecDepth 100000
set_option maxHeartbeats 4000000
set_option linter.all false
namespace Go.Proofs.YtmcgghedgfkjiaaGreatDoor.Av
open Go
section
variable {R:Type}(n:Nat)
noncomputable section
def Eu: Nat->aM->Option (List bA×Bool)
 | 0,_=>none
 | n+1,a=>bnd2 (NQ n (a,a.Arcs,(ln a.Arcs)) ([],0)) (λb=>bnd (Nu true) λ_=>some (b.2.2,false)) λc=>bnd2 (some c) (λd=>bnd (Nu true) λ_=>some (d.2.2,false)) λf=>bnd (some f) λg=>bnd (Nu true) λ_=>some (g,true)
def UZ: Kn:=bH 180 0x3dbb2a9d08680e76bdf5 C62 [⟨0,[DB]⟩] [] Eu
abbrev C63:=UZ::C62
def dG: Nat->bA->Option (Aaa×Aaa)
 | 0,_=>none
 | n+1,a=>bnd (idx a.line.path a.at_) λb=>bnd (idx a.line.path<|wr<|a.at_+1) λc=>some (b,c)
def Uo: Kn:=bH 186 0x10750583e5743f4 C63 [] [] dG
abbrev C64:=Uo::C63
def gO: Nat->bA->Option Int
 | 0,_=>none
 | n+1,a=>bnd (dG n a) λb=>some<|PS b.1.X b.2.X
def Um: Kn:=bH 183 0x6cff6f C64 [] [] gO
abbrev C65:=Um::C64
def pV: Nat->bA->bA->Option Int
 | 0,_,_=>none
 | n+1,a,b=>bnd (gO n a) λc=>bnd (gO n b) λd=>bnd (cD n c d) λf=>some f
def NR: Kn:=bH 182 0x3e8df7116463 C65 [] [] pV
abbrev C66:=NR::C65
def pU: Nat->bA->Option Int
 | 0,_=>none
 | n+1,a=>bnd (dG n a) λb=>some<|oB b.1.X b.2.X
def Uq: Kn:=bH 184 0x6cff6f C66 [] [] pU
abbrev C67:=Uq::C66
def Qz(n:Nat): Aaa->((Bool->Option R)×Unit)->Unit->Option R:=λa (b,_) _=>cd (a.X<(-2097152)) (b true)<|cd (a.X > 2097152) (b true)<|cd (a.Y<(-2097152)) (b true)<|cd (a.Y > 2097152) (b true)<|b false
def KD:=fB Qz
def H3: Lc 201 0 1:=bO 0x1882be2763de5a5c6a2c82b73fb5f3e57f9c1853e C67 [] [] @Qz
def zE: (List Aaa×Int)->(Int->Option R)->((Aaa->Option R)×(Unit->Option R)×Unit)->Int->Option R:=λ(a,b) c (d,f,_) g=>cd (g<b) (bnd (idx a g) λh=>bnd (KD n h) λi=>cnd i (d h)<|c<|wr<|g+1)<|f ()
def aCt:=qB zE
def H4: Lc 201 0 0:=bL 0x476e4e278ab2e6543d07419f38f64d4c C67 [⟨0,[cs H3]⟩] [] @zE
def oZ: Nat->(List Aaa)->Option Bool
 | 0,_=>none
 | n+1,a=>bnd2 (aCt n (a,(ln a)) 0) (λ_=>some false) λb=>bnd (some b) λ_=>some true
def aE5: Kn:=bH 201 0x3c50fd C67 [⟨0,[H4]⟩] [] oZ
abbrev C68:=aE5::C67
def hP: Nat->Aaa->Aaa->Aaa->Option Int
 | 0,_,_,_=>none
 | n+1,a,b,c=>some<|wr<|(wr<|(wr<|b.X-a.X)*(wr<|c.Y-a.Y))-(wr<|(wr<|b.Y-a.Y)*(wr<|c.X-a.X))
def aCs: Kn:=bH 202 0x6a06c8 C68 [] [] hP
abbrev C69:=aCs::C68
def KF: (Aaa×Aaa×Aaa)->((Bool->Option R)×Unit)->Unit->Option R:=λ(a,b,c) (d,_) _=>bnd (oZ n [a,b,c]) λf=>cnd f (bnd (hP n a b c) λg=>cnd (g != 0) (d true)<|d false)<|d true
def H6:=fB KF
def aCx: Lc 187 0 0:=bO 0x734a14bd8b7f0541f30d14729465e56cd7798e514f260eb95a47ba3 C69 [] [] @KF
def KE(n:Nat): (Aaa×Aaa×Aaa)->((Bool->Option R)×Unit)->Unit->Option R:=λ(a,b,c) (d,_) _=>cd ((PS a.X b.X)<=c.X) (cd (c.X<=(oB a.X b.X)) (cd ((PS a.Y b.Y)<=c.Y) (cd (c.Y<=(oB a.Y b.Y)) (d true)<|d false)<|d false)<|d false)<|d false
def H5:=fB KE
def aCw: Lc 187 0 1:=bO 0x619bbbbf64eade60548fd0073b992ed13db C69 [] [] @KE
def tP: Nat->Aaa->Aaa->Aaa->Option Bool
 | 0,_,_,_=>none
 | n+1,a,b,c=>bnd (H6 n (a,b,c)) λd=>cnd d (some false)<|bnd (H5 n (a,b,c)) λf=>cnd f (some true)<|some false
def aJF: Kn:=bH 187 0x6f1ab1 C69 [⟨0,[aCx]⟩,⟨1,[aCw]⟩] [] tP
abbrev C70:=aJF::C69
def DW: Nat->Aaa->Aaa->Aaa->Option Int
 | 0,_,_,_=>none
 | n+1,a,b,c=>bnd (oZ n [a,b,c]) λd=>cnd d (bnd (hP n a b c) λf=>some f)<|some 0
def aCv: Kn:=bH 212 0x20b79e0b017936fe89 C70 [] [] DW
abbrev C71:=aCv::C70
def jM: Nat->Aaa->Aaa->Aaa->Option Int
 | 0,_,_,_=>none
 | n+1,a,b,c=>bnd (DW n a b c) λd=>cd (d > 0) (some 1)<|cd (d<0) (some (-1))<|some 0
def aE6: Kn:=bH 207 0x6a06c8 C71 [] [] jM
abbrev C72:=aE6::C71
def Hh(n:Nat): (Aaa×Aaa)->((Bool->Option R)×Unit)->Unit->Option R:=λ(a,b) (c,_) _=>cd (a.X<b.X) (c true)<|cnd (a.X==b.X) (cd (a.Y<b.Y) (c true)<|c false)<|c false
def Ra:=fB Hh
def QE: Lc 213 0 0:=bO 0x3686f9565 C72 [] [] @Hh
def pA: Nat->Aaa->Aaa->Option Bool
 | 0,_,_=>none
 | n+1,a,b=>bnd (Ra n (a,b)) λc=>cnd c (some true)<|some false
def U2: Kn:=bH 213 0x46e298 C72 [⟨0,[QE]⟩] [] pA
abbrev C73:=U2::C72
def sS: (Aaa×Aaa)->(((Aaa×Aaa)->Option R)×Unit)->Unit->Option R:=λ(a,b) (c,_) _=>bnd (pA n b a) λd=>cnd d (c (b,a))<|c (a,b)
def zD:=fB sS
def QD: Lc 208 0 0:=bO 0x17ca70fced6406a27bad010e6b690173670a94c7ecc1 C73 [] [] @sS
def QC: Lc 208 0 1:=bO 0xd37657a0fc1fc002919be9f1fc7138f640a3dc1bb2a96a3c5 C73 [] [] @sS
def Hg: (Aaa×Aaa)->((Aaa->Option R)×Unit)->Unit->Option R:=λ(a,b) (c,_) _=>bnd (pA n b a) λd=>cnd d (c a)<|c b
def Qx:=fB Hg
def QB: Lc 208 0 2:=bO 0x41417f7d20433e19b4609083f4687b0278df8c2f79c2126ea2ee266c7b244 C73 [] [] @Hg
def Hf: (Aaa×Aaa)->((Aaa->Option R)×Unit)->Unit->Option R:=λ(a,b) (c,_) _=>bnd (pA n a b) λd=>cnd d (c a)<|c b
def Qw:=fB Hf
def QA: Lc 208 0 3:=bO 0x5f42560e3c0c4c27529231d1c481a624de18bb88e729b7ee5421c13a9093c7a923903623 C73 [] [] @Hf
def Qy: Nat->Aaa->Aaa->Aaa->Aaa->Option Int
 | 0,_,_,_,_=>none
 | n+1,a,b,c,d=>bnd (zD n (a,b)) λf=>bnd (zD n (c,d)) λg=>bnd (Qx n (g.1,f.1)) λh=>bnd (Qw n (g.2,f.2)) λi=>cd (h=i) (some 1)<|bnd (pA n h i) λj=>cnd j (some 2)<|some 0
def U0: Kn:=bH 208 0x1b628e98f147 C73 [⟨0,[QD]⟩,⟨1,[QC]⟩,⟨2,[QB]⟩,⟨3,[QA]⟩] [] Qy
abbrev C74:=U0::C73
def Rc: (Aaa×Aaa×Aaa×Aaa)->((Bool->Option R)×Unit)->Unit->Option R:=λ(a,b,c,d) (f,_) _=>bnd (jM n a b c) λg=>cnd (g==0) (bnd (jM n a b d) λh=>cnd (h==0) (f true)<|f false)<|f false
def KH:=fB Rc
def H8: Lc 200 0 0:=bO 0x37ceea5d5dd3dcfcd5b207548fe3fff28bf76127eb7d101232cb22a6f0 C74 [] [] @Rc
def Rb: (Aaa×Aaa×Aaa×Aaa)->((Bool->Option R)×Unit)->Unit->Option R:=λ(a,b,c,d) (f,_) _=>bnd (jM n a b c) λg=>bnd (jM n a b d) λh=>cd ((wr<|g*h)<=0) (bnd (jM n c d a) λi=>bnd (jM n c d b) λj=>cd ((wr<|i*j)<=0) (f true)<|f false)<|f false
def KG:=fB Rb
def H7: Lc 200 0 1:=bO 0x2f2bad60e07e84c002d6ffcb291b63785a37f70d2 C74 [] [] @Rb
def Tm: Nat->Aaa->Aaa->Aaa->Aaa->Option Int
 | 0,_,_,_,_=>none
 | n+1,a,b,c,d=>bnd (oZ n [a,b,c,d]) λf=>cnd f (cd (a=b) (bnd (tP n c d a) λg=>cnd g (some 1)<|some 0)<|cd (c=d) (bnd (tP n a b c) λh=>cnd h (some 1)<|some 0)<|bnd (KH n (a,b,c,d)) λi=>cnd i (bnd (Qy n a b c d) λj=>some j)<|bnd (KG n (a,b,c,d)) λl=>cnd l (some 1)<|some 0)<|some 0
def aE7: Kn:=bH 200 0x873d0660c238d32b6f1703d C74 [⟨0,[H8]⟩,⟨1,[H7]⟩] [] Tm
abbrev C75:=aE7::C74
def jB: Nat->bA->Option Bool
 | 0,_=>none
 | n+1,a=>cnd (a.at_==0) (some true)<|some false
def Pe: Kn:=bH 188 0x3c50fe C75 [] [] jB
abbrev C76:=Pe::C75
def gP: Nat->bA->Option Bool
 | 0,_=>none
 | n+1,a=>cnd (a.at_==(wr<|(ln a.line.path)-2)) (some true)<|some false
def Un: Kn:=bH 189 0x3c50fe C76 [] [] gP
abbrev C77:=Un::C76
def kP(n:Nat): (bA×bA)->(((bA×bA)->Option R)×Unit)->Unit->Option R:=λ(a,b) (c,_) _=>cd (a.at_ > b.at_) (c (b,a))<|c (a,b)
def oA:=fB kP
def Po: Lc 185 0 0:=bO 0x22d1f4982beea35579b3877fa0a77d177d9994768415faf C77 [] [] @kP
def kO: (bA×bA)->((Bool->Option R)×Unit)->Unit->Option R:=λ(a,b) (c,_) _=>cnd ((wr<|a.at_+1)==b.at_) (c true)<|cnd (a.line.Arc.From==a.line.Arc.To) (bnd (jB n a) λd=>cnd d (bnd (gP n b) λf=>cnd f (c true)<|c false)<|c false)<|c false
def nZ:=fB kO
def Pn: Lc 185 0 1:=bO 0x3eadf6a79eb54305f0387825d826ae569d22b3252 C77 [] [] @kO
def kN: (bA×Aaa×Aaa×Aaa×Aaa×Int×Int×Int)->((Bool->Option R)×Unit)->Unit->Option R:=λ(a,b,c,d,f,g,h,i) (j,_) _=>cnd (i==a.line.Arc.From) (bnd (tP n b c<|Aaa.mk g h) λl=>cnd l (bnd (tP n d f<|Aaa.mk g h) λm=>cnd m (j true)<|j false)<|j false)<|cnd (i==a.line.Arc.To) (bnd (tP n b c<|Aaa.mk g h) λo=>cnd o (bnd (tP n d f<|Aaa.mk g h) λr=>cnd r (j true)<|j false)<|j false)<|j false
def fY:=fB kN
def Pm: Lc 185 0 3:=bO 0xd18cca90c65f080e48dd7e796755abd26186558607fe11eabb1b9f4027dc18fd11777e783d3e0d5dc53fc29fbf93225429ca3 C77 [] [] @kN
def VB: Nat->bA->bA->(List<|Int×Aaa)->Option Bool
 | 0,_,_,_=>none
 | n+1,a,b,c=>bnd (dG n a) λd=>bnd (dG n b) λf=>bnd (Tm n d.1 d.2 f.1 f.2) λg=>cnd (a.line.Arc.ID==b.line.Arc.ID) (bnd (oA n (a,b)) λh=>bnd (nZ n (h.1,h.2)) λi=>cnd i (cnd (g==1) (some true)<|some false)<|cnd (g==0) (some true)<|some false)<|cnd (g != 1) (cnd (g==0) (some true)<|some false)<|bnd (Nu<|Nat.ble 3 n) λ_=>bnd (fY n (b,d.1,d.2,f.1,f.2,(Option.getD (cE c a.line.Arc.From)<|Aaa.mk 0 0).X,(Option.getD (cE c a.line.Arc.From)<|Aaa.mk 0 0).Y,a.line.Arc.From)) λj=>cnd j (some true)<|bnd (fY n (b,d.1,d.2,f.1,f.2,(Option.getD (cE c a.line.Arc.To)<|Aaa.mk 0 0).X,(Option.getD (cE c a.line.Arc.To)<|Aaa.mk 0 0).Y,a.line.Arc.To)) λl=>cnd l (some true)<|some false
def JB: Kn:=bH 185 0x198d220275e645e672c1a C77 [⟨0,[Po]⟩,⟨1,[Pn]⟩,⟨3,[Pm]⟩] [] VB
abbrev C78:=JB::C77
def sA(n:Nat): (List Aab×Int)->(((List<|Int×Aaa)×Int)->Option R)->((((List<|Int×Aaa))->Option R)×Unit)->((List<|Int×Aaa)×Int)->Option R:=λ(a,b) c (d,_) (f,g)=>cd (g<b) (bnd (idx a g) λh=>c ((kW f h.ID h.At),(wr<|g+1)))<|d f
def z6:=qW sA
def NZ: Lc 164 0 0:=bL 0x414501807cbecc5d9a209cd58e43de55ceddabce9b58f1d670eb665a65966 C78 [] [] @sA
def NV: Lc 185 0 0:=bO 0x19f41e3f8f5b8aa311ea1a84658a138d6cc86750826254c78c C78 [] [] @kP
def NU: Lc 185 0 1:=bO 0x22d28d599ab1d2957a01d6f658557f687438ac04b335a2a C78 [] [] @kO
def NT: Lc 185 0 3:=bO 0x40ad82293d8fcc65a90639763310daa0ad45648c8776a8e108c343fa5719f7919b040baee042f09a56580e9a785acb576948bb97c588b4c0a C78 [] [] @kN
def Gd: ((List<|Int×Aaa)×bA×bA)->(((bA×bA×Aaa×Aaa×Aaa×Aaa×Bool)->Option R)×((Aaa×Aaa×Aaa×Aaa×Int×Int)->Option R)×Unit)->Unit->Option R:=λ(a,b,c) (d,f,_) _=>bnd (dG n b) λg=>bnd (dG n c) λh=>bnd (Tm n g.1 g.2 h.1 h.2) λi=>cnd (b.line.Arc.ID==c.line.Arc.ID) (bnd (oA n (b,c)) λj=>bnd (nZ n (j.1,j.2)) λl=>cnd l (cnd (i==1) (d (j.1,j.2,g.1,g.2,h.1,h.2,true))<|d (j.1,j.2,g.1,g.2,h.1,h.2,false))<|cnd (i==0) (d (j.1,j.2,g.1,g.2,h.1,h.2,true))<|d (j.1,j.2,g.1,g.2,h.1,h.2,false))<|cnd (i != 1) (cnd (i==0) (d (b,c,g.1,g.2,h.1,h.2,true))<|d (b,c,g.1,g.2,h.1,h.2,false))<|bnd (Nu<|Nat.ble 3 n) λ_=>bnd (fY n (c,g.1,g.2,h.1,h.2,(Option.getD (cE a b.line.Arc.From)<|Aaa.mk 0 0).X,(Option.getD (cE a b.line.Arc.From)<|Aaa.mk 0 0).Y,b.line.Arc.From)) λm=>cnd m (f (g.1,g.2,h.1,h.2,(Option.getD (cE a b.line.Arc.From)<|Aaa.mk 0 0).X,(Option.getD (cE a b.line.Arc.From)<|Aaa.mk 0 0).Y))<|bnd (fY n (c,g.1,g.2,h.1,h.2,(Option.getD (cE a b.line.Arc.To)<|Aaa.mk 0 0).X,(Option.getD (cE a b.line.Arc.To)<|Aaa.mk 0 0).Y,b.line.Arc.To)) λo=>cnd o (f (g.1,g.2,h.1,h.2,(Option.getD (cE a b.line.Arc.To)<|Aaa.mk 0 0).X,(Option.getD (cE a b.line.Arc.To)<|Aaa.mk 0 0).Y))<|d (b,c,g.1,g.2,h.1,h.2,false)
def Pi:=DS Gd
def OA: Ic:=cJ 185 0 3 0x18e41b987b9a4e4181769412b4a74b32886de6b3d5b86b216f67d588d776e073688d36efeebebfd07f9039a7cc9a59da6a278aaf103b12f4d C78 [⟨0,[NV]⟩,⟨1,[NU]⟩,⟨3,[NT]⟩] [] @Gd
def rY: ((List<|Int×Aaa)×bA×List bA×Int)->(Int->Option R)->((Unit->Option R)×((bA×bA×bA×Aaa×Aaa×Aaa×Aaa)->Option R)×Unit)->Int->Option R:=λ(a,b,c,d) f (g,h,_) i=>cd (i<d) (bnd (idx c i) λj=>bnd (gO n j) λl=>bnd (pU n b) λm=>cd (l > m) (g ())<|bnd2 (Pi n (a,b,j)) (λo=>cnd o.2.2.2.2.2.2 (f<|wr<|i+1)<|h (j,o.1,o.2.1,o.2.2.1,o.2.2.2.1,o.2.2.2.2.1,o.2.2.2.2.2.1)) λr=>bnd (some r) λ_=>f<|wr<|i+1)<|g ()
def z5:=qB rY
def NX: Lc 164 0 2:=bL 0x487a2b96926ddc41af6e2b888a41df239ab97e14c691ab33081bd00b0515c19d567a6e10ee2c192fc5ff07e33bd048b471a1d2ec5067c5aae67b C78 [] [OA] @rY
def Gc: (bA×Aab×Aaa×Aaa)->((Bool->Option R)×Unit)->Unit->Option R:=λ(a,b,c,d) (f,_) _=>bnd (tP n c d b.At) λg=>cnd g (bnd (jB n a) λh=>cnd h (cnd (a.line.Arc.From==b.ID) (f false)<|bnd (gP n a) λi=>cnd i (cnd (a.line.Arc.To==b.ID) (f false)<|f true)<|f true)<|bnd (gP n a) λj=>cnd j (cnd (a.line.Arc.To==b.ID) (f false)<|f true)<|f true)<|f false
def Pf:=fB Gc
def NS: Lc 164 0 4:=bO 0x276c2544b5205a6f44df6a0ed23c6bc76e64613f17c0d55bb465dd5cf593cc4a2c4bc14b8d1f9b06c C78 [] [] @Gc
def rW: (bA×List Aab×Int)->(Int->Option R)->(((Aab×Aaa×Aaa)->Option R)×(Unit->Option R)×Unit)->Int->Option R:=λ(a,b,c) d (f,g,_) h=>cd (h<c) (bnd (idx b h) λi=>bnd (dG n a) λj=>bnd (Pf n (a,i,j.1,j.2)) λl=>cnd l (f (i,j.1,j.2))<|d<|wr<|h+1)<|g ()
def y9:=qB rW
def NW: Lc 164 0 3:=bL 0xbbf7bdf0b747ab1f5e3731c716afc3da931325bc42ca063c6e83ee1ed28a15fd6f2d4672fbded21f6 C78 [⟨0,[cs NS]⟩] [] @rW
def rZ: (aM×(List<|Int×Aaa)×List bA×List bA×Int)->(Int->Option R)->(((bA×Aab×Aaa×Aaa)->Option R)×((bA×bA×bA×bA×Aaa×Aaa×Aaa×Aaa)->Option R)×(Unit->Option R)×Unit)->Int->Option R:=λ(a,b,c,d,f) g (h,i,j,_) l=>cd (l<f) (bnd (idx d l) λm=>bnd (cut c (wr<|l+1)<|ln c) λo=>bnd2 (z5 n (b,m,o,(ln o)) 0) (λ_=>bnd2 (y9 n (m,a.Nodes,(ln a.Nodes)) 0) (λr=>h (m,r.1,r.2.1,r.2.2)) λs=>bnd (some s) λ_=>g<|wr<|l+1) λt=>bnd (some t) λu=>i (m,u.1,u.2.1,u.2.2.1,u.2.2.2.1,u.2.2.2.2.1,u.2.2.2.2.2.1,u.2.2.2.2.2.2))<|j ()
def Pg:=lp3 rZ
def NY: Lc 164 0 1:=bL 0x49eb90d565332ce8303658c1ed340b9545bd053829811d9b1f0249704f5283cf5670328a36a35d294bf6e2e8acb9812340ff853b303b92567d681eaed939cbade8172f59 C78 [⟨0,[cs NX]⟩,⟨1,[cs NW]⟩] [] @rZ
def Pj: Nat->aM->Option Bool
 | 0,_=>none
 | n+1,a=>bnd (Eu n a) λb=>cnd b.2 (bnd (z6 n (a.Nodes,(ln a.Nodes)) ([],0)) λc=>bnd (prd n) λd=>bnd (Nu<|decide<|List.length b.1<=1000000) λ_=>bnd (qY (λ(f g:bA)=>bnd (pV d f g) λh=>some h) b.1) λi=>bnd2 (Pg n (a,c,i,i,(ln i)) 0) (λ_=>some false) λj=>bnd2 (some j) (λ_=>some false) λl=>bnd (some l) λ_=>some true)<|some false
def S4: Kn:=bH 164 0x194dae9a0fbe C78 [⟨0,[NZ]⟩,⟨1,[NY]⟩] [] Pj
abbrev C79:=S4::C78
def Mj(n:Nat): aM->((Bool->Option R)×Unit)->Unit->Option R:=λa (b,_) _=>cd ((ln a.Nodes) > 256) (b true)<|cd ((ln a.Arcs) > 256) (b true)<|cd ((ln a.Faces) > 64) (b true)<|b false
def S8:=fB Mj
def VE: Lc 136 0 0:=bO 0x262837d2c1fba20 C79 [] [] @Mj
def uU(n:Nat): (List aR×Int)->(Int->Option R)->((aR->Option R)×(Unit->Option R)×Unit)->Int->Option R:=λ(a,b) c (d,f,_) g=>cd (g<b) (bnd (idx a g) λh=>cd ((ln h.Via) > 64) (d h)<|c<|wr<|g+1)<|f ()
def S9:=qB uU
def VF: Lc 136 0 1:=bL 0x297e8ddbdfa61098082bd170be7d464caf846cf88a81 C79 [] [] @uU
def Mi: (aM×List Int×List Int)->((Bool->Option R)×Unit)->Unit->Option R:=λ(a,b,c) (d,_) _=>bnd (kQ n b) λf=>cnd f (bnd (kQ n c) λg=>cnd g (bnd (kQ n a.Faces) λh=>cnd h (d false)<|d true)<|d true)<|d true
def S7:=fB Mi
def VD: Lc 136 0 2:=bO 0x2f2b9f9d4814446de93e15c750a34107dc0ae5746 C79 [] [] @Mi
def Mh: (aM×List Int×List Int)->((Bool->Option R)×Unit)->Unit->Option R:=λ(a,b,c) (d,_) _=>bnd (nA n b) λf=>cnd f (bnd (nA n c) λg=>cnd g (bnd (nA n a.Faces) λh=>cnd h (bnd (Pk n a) λi=>cnd i (d false)<|d true)<|d true)<|d true)<|d true
def S6:=fB Mh
def VC: Lc 136 0 3:=bO 0x48beac58f8099dad97aa06054eaebdcbb5970e C79 [] [] @Mh
def Ko: Nat->aM->Option Int
 | 0,_=>none
 | n+1,a=>bnd (S8 n a) λb=>cnd b (some 3)<|bnd2 (S9 n (a.Arcs,(ln a.Arcs)) 0) (λ_=>some 3) λc=>bnd (some c) λ_=>bnd (sG n a) λd=>bnd (S7 n (a,d.1,d.2)) λf=>cnd f (some 10)<|bnd (S6 n (a,d.1,d.2)) λg=>cnd g (some 2)<|bnd (yP n a d.1) λh=>cnd (h != 0) (some h)<|bnd (Pj n a) λi=>cnd i (some 0)<|some 11
def aBO: Kn:=bH 136 0x31542e C79 [⟨0,[VE]⟩,⟨1,[VF]⟩,⟨2,[VD]⟩,⟨3,[VC]⟩] [] Ko
abbrev C80:=aBO::C79
def Mn(n:Nat): (Aaa×Aaa)->((Bool->Option R)×Unit)->Unit->Option R:=λ(a,b) (c,_) _=>cd (b.Y<a.Y) (c true)<|cnd (b.Y==a.Y) (cd (b.X<a.X) (c true)<|c false)<|c false
def U1:=fB Mn
def VS: Lc 206 0 0:=bO 0x3686f9565 C80 [] [] @Mn
def hU: Nat->Aaa->Aaa->Option Bool
 | 0,_,_=>none
 | n+1,a,b=>bnd (U1 n (a,b)) λc=>cnd c (some true)<|some false
def aCu: Kn:=bH 206 0x46e298 C80 [⟨0,[VS]⟩] [] hU
abbrev C81:=aCu::C80
def Rd: (Aaa×Aaa×Aaa)->((Bool->Option R)×Unit)->Unit->Option R:=λ(a,b,c) (d,_) _=>bnd (oZ n [a,b,c]) λf=>cnd f (cd (b=a) (d true)<|cd (c=a) (d true)<|d false)<|d true
def KI:=fB Rd
def H9: Lc 196 0 0:=bO 0x734a14bd8b7f0541f30d14729465e5716a185ab3e8d1d46147fed06 C81 [] [] @Rd
def Tn: Nat->Aaa->Aaa->Aaa->Option Bool
 | 0,_,_,_=>none
 | n+1,a,b,c=>bnd (KI n (a,b,c)) λd=>cnd d (some false)<|bnd (hU n a b) λf=>cnd f (bnd (hU n a c) λg=>cnd g (cd (true=true) (bnd (hP n a b c) λh=>cd (h > 0) (some true)<|some false)<|bnd (hU n a c) λi=>cnd i (some true)<|some false)<|cd (true=false) (bnd (hP n a b c) λj=>cd (j > 0) (some true)<|some false)<|bnd (hU n a c) λl=>cnd l (some true)<|some false)<|bnd (hU n a c) λm=>cnd m (cd (false=true) (bnd (hP n a b c) λo=>cd (o > 0) (some true)<|some false)<|bnd (hU n a c) λr=>cnd r (some true)<|some false)<|cd (false=false) (bnd (hP n a b c) λs=>cd (s > 0) (some true)<|some false)<|bnd (hU n a c) λt=>cnd t (some true)<|some false
def aE8: Kn:=bH 196 0x6f1ab1 C81 [⟨0,[H9]⟩] [] Tn
abbrev C82:=aE8::C81
def Fp(n:Nat): (aR×Int)->((Bool->Option R)×Unit)->Unit->Option R:=λ(a,b) (c,_) _=>cnd (a.From != b) (cnd (a.To != b) (c true)<|c false)<|c false
def r9:=fB Fp
def MS: Lc 147 0 1:=bO 0x5f336fb702643e478e14956d404c9103a73e7d3e0891d666495a22a808a04b392338bf63 C82 [] [] @Fp
def rU(n:Nat): (List Int×(List<|Int×Aaa)×Int×Aaa)->(((List Int×(List<|Int×Aaa))->Option R)×Unit)->Unit->Option R:=λ(a,b,c,d) (f,_) _=>bnd (app a [c]) λg=>f (g,(kW b c d))
def pE:=uM rU
def MW: Ic:=cJ 172 0 4 0x1e45a95d93b3abac2cdb058a1b4d0b638c5b36f0925dedf53fc1d8eed1bf6a6ecf2704 C82 [] [] @rU
def MV: Ic:=cJ 172 0 4 0x16904c4d0fa75b6544bd04d2f2a03e2bf8e20acb4ecada2a1e2dc9b45b6c25d8b849095ac C82 [] [] @rU
def lF: (aM×Int×List aR×Int)->((List Int×(List<|Int×Aaa)×Int)->Option R)->(((List Int×(List<|Int×Aaa))->Option R)×Unit)->(List Int×(List<|Int×Aaa)×Int)->Option R:=λ(a,b,c,d) f (g,_) (h,i,j)=>cd (j<d) (bnd (idx c j) λl=>bnd (r9 n (l,b)) λm=>cnd m (f (h,i,(wr<|j+1)))<|bnd (xM n a l.ID) λo=>cnd (o.2 != 0) (f (h,i,(wr<|j+1)))<|cnd (l.From==b) (bnd (idx o.1 1) λr=>bnd (pE n (h,i,l.ID,r)) λs=>cnd (l.To==b) (bnd (idx o.1<|wr<|(ln o.1)-2) λt=>bnd (pE n (s.1,s.2,(wr<|0-l.ID),t)) λu=>f (u.1,u.2,(wr<|j+1)))<|f (s.1,s.2,(wr<|j+1)))<|cnd (l.To==b) (bnd (idx o.1<|wr<|(ln o.1)-2) λv=>bnd (pE n (h,i,(wr<|0-l.ID),v)) λw=>f (w.1,w.2,(wr<|j+1)))<|f (h,i,(wr<|j+1)))<|g (h,i)
def s6:=qW lF
def MT: Lc 147 0 0:=bL 0x2a6e76c7eba9257c260e848d10b599c48c91ec8cf0575ef552b7d2ec21779d9533ffec3af01dc57d77e3b931db C82 [⟨0,[cs MS]⟩] [MW,MV] @lF
def Fq: (Aab×(List<|Int×Aaa)×Int×Int)->((Int->Option R)×Unit)->Unit->Option R:=λ(a,b,c,d) (f,_) _=>bnd (Tn n a.At (Aaa.mk ((Option.getD (cE b c)<|Aaa.mk 0 0).X)<|(Option.getD (cE b c)<|Aaa.mk 0 0).Y)<|Aaa.mk ((Option.getD (cE b d)<|Aaa.mk 0 0).X)<|(Option.getD (cE b d)<|Aaa.mk 0 0).Y) λg=>cnd g (f (-1))<|bnd (Tn n a.At (Aaa.mk ((Option.getD (cE b d)<|Aaa.mk 0 0).X)<|(Option.getD (cE b d)<|Aaa.mk 0 0).Y)<|Aaa.mk ((Option.getD (cE b c)<|Aaa.mk 0 0).X)<|(Option.getD (cE b c)<|Aaa.mk 0 0).Y) λh=>cnd h (f 1)<|f 0
def xS:=uM Fq
def MU: Ic:=cJ 173 6 4 0x1794f2b54fc78c9e83e6906a568874d19d823b76677d9e9f1d76035bcb4c632ca65304 C82 [] [] @Fq
def Nx: Nat->aM->Int->Option (List Int)
 | 0,_,_=>none
 | n+1,a,b=>bnd (jL n a b) λc=>cnd c.2 (bnd (s6 n (a,b,a.Arcs,(ln a.Arcs)) ([],[],0)) λd=>bnd (prd n) λf=>bnd (Nu<|decide<|List.length d.1<=1000000) λ_=>bnd (qY (λ(g h:Int)=>bnd (xS f (c.1,d.2,g,h)) λi=>some i) d.1) λj=>some j)<|some []
def Q9: Kn:=bH 147 0x1283e3f7bf3d171cabc19 C82 [⟨0,[MT]⟩] [MU] Nx
abbrev C83:=Q9::C82
def xR: Nat->(List Int)->Int->Option Int
 | 0,_,_=>none
 | n+1,a,b=>bnd (lG n a b) λc=>cd (c<0) (some 0)<|bnd (aJl (wr<|(wr<|c+(ln a))-1)<|ln a) λd=>bnd (idx a d) λf=>some f
def MM: Kn:=bH 148 0x31533f C83 [] [] xR
abbrev C84:=MM::C83
def rQ: (List Int×List Int×Int)->((List Int×(List<|Int×Int)×Int)->Option R)->(((List Int×(List<|Int×Int))->Option R)×Unit)->(List Int×(List<|Int×Int)×Int)->Option R:=λ(a,b,c) d (f,_) (g,h,i)=>cd (i<c) (bnd (idx b i) λj=>bnd (app g [j]) λl=>bnd (xR n a j) λm=>d (l,(kW h (wr<|0-j) m),(wr<|i+1)))<|f (g,h)
def r6:=qW rQ
def MP: Lc 127 0 1:=bL 0xaf00f2952b6a68053f6177a562f3a465c9ed294778fc69d57c8e75494df59edfd11068dfea4f3cdd5dca036d7a86f24c3c146c574f7 C84 [] [] @rQ
def rS: (aM×List Aab×Int)->((List Int×(List<|Int×Int)×Int)->Option R)->(((List Int×(List<|Int×Int))->Option R)×Unit)->(List Int×(List<|Int×Int)×Int)->Option R:=λ(a,b,c) d (f,_) (g,h,i)=>cd (i<c) (bnd (idx b i) λj=>bnd (Nx n a j.ID) λl=>bnd (r6 n (l,l,(ln l)) (g,h,0)) λm=>d (m.1,m.2,(wr<|i+1)))<|f (g,h)
def r7:=qW rS
def MQ: Lc 127 0 0:=bL 0xfd7518eea1e1d2609e1cdafa75b08d7f3ef6555630d07c65a8db3b4f096c99563c37bbdbcad046560 C84 [⟨0,[cs MP]⟩] [] @rS
def rJ(n:Nat): ((List<|Int×Int))->(((List<|Int×Bool)×List Int×Int)->Option R)->((((List<|Int×Bool)×List Int)->Option R)×Unit)->((List<|Int×Bool)×List Int×Int)->Option R:=λa b (c,_) (d,f,g)=>cnd ((Option.getD (cE d g) false)) (c (d,f))<|bnd (app f [g]) λh=>b ((kW d g true),h,(Option.getD (cE a g) 0))
def r5:=qW rJ
def MN: Lc 150 0 0:=bL 0x3191eb3adda51cc8079b0c7e36baa08eafffe7eb0d13f09090fd0387de6f41c13f10104efff054b39a2d8e54629f5 C84 [] [] @rJ
def Fo: ((List<|Int×Int)×(List<|Int×Bool)×Int)->((((List<|Int×Bool)×List Int)->Option R)×Unit)->Unit->Option R:=λ(a,b,c) (d,_) _=>bnd (r5 n a (b,[],c)) λf=>d (f.1,f.2)
def r8:=uM Fo
def MR: Ic:=cJ 150 0 3 0x13c50c7dc0060aae6b1cce2bb949ae17d1a025da20e7c6899b7409a4c46e435025d5f86d2 C84 [⟨0,[MN]⟩] [] @Fo
def rP: ((List<|Int×Int)×List Int×Int)->(((List<|List Int)×(List<|Int×Bool)×Int)->Option R)->((((List<|List Int)×(List<|Int×Bool))->Option R)×Unit)->((List<|List Int)×(List<|Int×Bool)×Int)->Option R:=λ(a,b,c) d (f,_) (g,h,i)=>cd (i<c) (bnd (idx b i) λj=>cnd ((Option.getD (cE h j) false)) (d (g,h,(wr<|i+1)))<|bnd (r8 n (a,h,j)) λl=>bnd (app g [l.2]) λm=>d (m,l.1,(wr<|i+1)))<|f (g,h)
def Nw:=qW rP
def MO: Lc 127 0 2:=bL 0x2713137b4a46309c9c59061f0ed8ba4d929af93fb1771d4d2279f04a58694c102b6355ab5c729f173a80218f3b88b95198a6a9e11459f5970043f33038 C84 [] [MR] @rP
def Bm: Nat->aM->Option ((List<|List Int)×Int)
 | 0,_=>none
 | n+1,a=>bnd (Ko n a) λb=>cnd (b != 0) (some ([],b))<|bnd (r7 n (a,a.Nodes,(ln a.Nodes)) ([],[],0)) λc=>bnd (prd n) λ_=>bnd (Nu<|decide<|List.length c.1<=1000000) λ_=>bnd (Nw n (c.2,(tX c.1),(ln<|tX c.1)) ([],[],0)) λd=>some (d.1,0)
def Q8: Kn:=bH 127 0x3ca22b7768037b59c081a7fe22883350089 C84 [⟨0,[MQ]⟩,⟨2,[MO]⟩] [] Bm
abbrev C85:=Q8::C84
def lX: (aM×List aR×Int)->(((List<|Int×List Aaa)×Int)->Option R)->((((List<|Int×List Aaa))->Option R)×Unit)->((List<|Int×List Aaa)×Int)->Option R:=λ(a,b,c) d (f,_) (g,h)=>cd (h<c) (bnd (idx b h) λi=>bnd (xM n a i.ID) λj=>cnd (j.2==0) (d ((kW g i.ID j.1),(wr<|h+1)))<|d (g,(wr<|h+1)))<|f g
def IF:=qW lX
def Uj: Lc 128 0 0:=bL 0x4fe9121ca6cece57243bf3db6772f64c0adb1aa8bb5927e0d64fb5c C85 [] [] @lX
def pM: Nat->aM->Option (List<|Int×List Aaa)
 | 0,_=>none
 | n+1,a=>bnd (IF n (a,a.Arcs,(ln a.Arcs)) ([],0)) λb=>some b
def NL: Kn:=bH 128 0xc44373e7f414c5624 C85 [⟨0,[Uj]⟩] [] pM
abbrev C86:=NL::C85
def Jq: Nat->aM->Int->Option (aR×Bool)
 | 0,_,_=>none
 | n+1,a,b=>cnd (b==0) (some ((aR.mk 0 0 0 [] 0 0),false))<|cnd (b==(-9223372036854775808)) (some ((aR.mk 0 0 0 [] 0 0),false))<|bnd (Pp n a<|oB b<|wr<|0-b) λc=>cnd c.2 (some (c.1,true))<|some (c.1,false)
def aBt: Kn:=bH 176 0x3e53d82cc C86 [] [] Jq
abbrev C87:=aBt::C86
def uN(n:Nat): (List Aaa×Int)->((Int×Int)->Option R)->((Int->Option R)×Unit)->(Int×Int)->Option R:=λ(a,b) c (d,_) (f,g)=>cd (g<b) (bnd (idx a g) λh=>bnd (idx a<|wr<|g+1) λi=>bnd (idx a<|wr<|g+1) λj=>bnd (idx a g) λl=>c ((wr<|f+(wr<|(wr<|h.X*i.Y)-(wr<|j.X*l.Y))),(wr<|g+1)))<|d f
def Q6:=qW uN
def UL: Lc 152 0 1:=bL 0x18f798698548e0411075e328963d5339803c902c589552e C87 [] [] @uN
def uO: (aM×List Int×Int)->((Int×Int)->Option R)->((aR->Option R)×(Int->Option R)×Unit)->(Int×Int)->Option R:=λ(a,b,c) d (f,g,_) (h,i)=>cd (i<c) (bnd (idx b i) λj=>bnd (Jq n a j) λl=>cnd l.2 (bnd (xM n a<|oB j<|wr<|0-j) λm=>cnd (m.2 != 0) (f l.1)<|bnd (Q6 n (m.1,(wr<|(ln m.1)-1)) (0,0)) λo=>cd (j<0) (d ((wr<|h+(wr<|0-o)),(wr<|i+1)))<|d ((wr<|h+o),(wr<|i+1)))<|f l.1)<|g h
def Q7:=qB uO
def UM: Lc 152 0 0:=bL 0xbc59ca31d3f30d72861587b6c7d32a81c9faae7ae9b32855d C87 [⟨0,[cs UL]⟩] [] @uO
def rH: Nat->aM->(List Int)->Option Int
 | 0,_,_=>none
 | n+1,a,b=>cd ((ln b) > 512) (some 0)<|bnd2 (Q7 n (a,b,(ln b)) (0,0)) (λ_=>some 0) λc=>bnd (some c) λd=>some d
def Jr: Kn:=bH 152 0x53ecca081 C87 [⟨0,[UM]⟩] [] rH
abbrev C88:=Jr::C87
def kJ: (Aaa×Aaa×Aaa)->((Bool->Option R)×Unit)->Unit->Option R:=λ(a,b,c) (d,_) _=>cd (b.Y<=a.Y) (cd (a.Y<c.Y) (bnd (jM n b c a) λf=>cd (f > 0) (d true)<|d false)<|d false)<|d false
def mY:=fB kJ
def yE: Lc 198 0 0:=bO 0x1348aad742493799c6c0c3ed8392ff35886378afd1d0450d779d299632c13 C88 [] [] @kJ
def kI: (Aaa×Aaa×Aaa)->((Bool->Option R)×Unit)->Unit->Option R:=λ(a,b,c) (d,_) _=>cd (c.Y<=a.Y) (cd (a.Y<b.Y) (bnd (jM n b c a) λf=>cd (f<0) (d true)<|d false)<|d false)<|d false
def mX:=fB kI
def yD: Lc 198 0 1:=bO 0x3e7a581e9e3e61ee7eeafb9583795aa13b86858a39124b460 C88 [] [] @kI
def kK: (Aaa×Bool×Bool×Aaa×Aaa)->(((Bool×Bool)->Option R)×Unit)->Unit->Option R:=λ(a,b,c,d,f) (g,_) _=>bnd (tP n d f a) λh=>cnd h (g (true,c))<|bnd (mY n (a,d,f)) λi=>cnd i (g (b,(!c)))<|bnd (mX n (a,d,f)) λj=>cnd j (g (b,(!c)))<|g (b,c)
def mZ:=uM kK
def yH: Ic:=cJ 198 0 5 0x8977ba3777b4f9ddfbef482effc21881de6b41deb4f44f3d4b06 C88 [⟨0,[yE]⟩,⟨1,[yD]⟩] [] @kK
def eG: (Aaa×List Aaa)->((Bool×Bool×Int)->Option R)->(((Bool×Bool)->Option R)×Unit)->(Bool×Bool×Int)->Option R:=λ(a,b) c (d,_) (f,g,h)=>cd (h<(ln b)) (bnd (idx b<|wr<|h-1) λi=>bnd (idx b h) λj=>bnd (mZ n (a,f,g,i,j)) λl=>cnd l.1 (cnd l.2 (c (true,true,(wr<|h+1)))<|c (true,false,(wr<|h+1)))<|cnd l.2 (c (false,true,(wr<|h+1)))<|c (false,false,(wr<|h+1)))<|d (f,g)
def Ep:=qW eG
def yF: Lc 199 0 1:=bL 0x64e3a9035d0e58aa32bf0e1f564db7630c19fe64189b771f23db6cb8b3 C88 [] [yH] @eG
def fW: (Aaa×(List<|Int×List Aaa)×List Int×Int)->((Bool×Bool×Int)->Option R)->(((Bool×Bool)->Option R)×Unit)->(Bool×Bool×Int)->Option R:=λ(a,b,c,d) f (g,_) (h,i,j)=>cd (j<d) (bnd (idx c j) λl=>bnd (Ep n (a,(Option.getD (cE b<|oB l<|wr<|0-l) [])) (h,i,1)) λm=>f (m.1,m.2,(wr<|j+1)))<|g (h,i)
def Er:=qW fW
def yG: Lc 199 0 0:=bL 0xc0f9d0591c017c5c5015769efcbdc44d7e3f2994bc3329 C88 [⟨0,[cs yF]⟩] [] @fW
def kL: (Aaa×(List<|Int×List Aaa)×List Int)->(((Bool×Bool)->Option R)×Unit)->Unit->Option R:=λ(a,b,c) (d,_) _=>bnd (Er n (a,b,c,(ln c)) (false,false,0)) λf=>d (f.1,f.2)
def Es:=uM kL
def yI: Ic:=cJ 199 0 3 0x25493394f9ffefbaf97adef53ecd54eacc9a04715 C88 [⟨0,[yG]⟩] [] @kL
def eN: Nat->(List<|Int×List Aaa)->(List Int)->Aaa->Option Bool
 | 0,_,_,_=>none
 | n+1,a,b,c=>bnd (Es n (c,a,b)) λd=>cnd d.1 (cnd d.2 (some false)<|some false)<|cnd d.2 (some true)<|some false
def Ga: Kn:=bH 177 0x2248772dc96131492a C88 [] [yI] eN
abbrev C89:=Ga::C88
def pL: (Aaa×(List<|Int×List Aaa)×List Lu×Int×Int)->((Bool->Option R)×Unit)->Unit->Option R:=λ(a,b,c,d,f) (g,_) _=>cnd (d==0) (bnd (idx c f) λh=>bnd (eN n b h.outer a) λi=>cnd i (g true)<|g false)<|bnd (idx c f) λj=>bnd (idx c d) λl=>cd (j.twice<l.twice) (bnd (idx c f) λm=>bnd (eN n b m.outer a) λo=>cnd o (g true)<|g false)<|g false
def tY:=fB pL
def Ki: Lc 153 0 1:=bO 0x37d76d3884350b089ab91896619d05c07d4b191845c06a88836ff8ee79 C89 [] [] @pL
def jA: (Aaa×(List<|Int×List Aaa)×List Lu)->((Int×Int)->Option R)->((Int->Option R)×Unit)->(Int×Int)->Option R:=λ(a,b,c) d (f,_) (g,h)=>cd (h<(ln c)) (bnd (tY n (a,b,c,g,h)) λi=>cnd i (d (h,(wr<|h+1)))<|d (g,(wr<|h+1)))<|f g
def Oz:=qW jA
def Kj: Lc 153 0 0:=bL 0x102e873a34a6f33256ea71fc0c95943a0b725cd7e918 C89 [⟨0,[cs Ki]⟩] [] @jA
end
end
section
variable {R:Type}(n:Nat)
noncomputable section
def eF: Nat->(List<|Int×List Aaa)->(List Lu)->Aaa->Option Int
 | 0,_,_,_=>none
 | n+1,a,b,c=>bnd (Oz n (c,a,b) (0,1)) λd=>some d
def lW: Kn:=bH 153 0x186295dbfb74a10320d10 C89 [⟨0,[Kj]⟩] [] eF
abbrev C90:=lW::C89
def Gh(n:Nat): (aR×Int×Int)->((Int->Option R)×Unit)->Unit->Option R:=λ(a,b,c) (d,_) _=>cnd (a.From==b) (d<|wr<|c+1)<|d c
def A9:=fB Gh
def OQ: Lc 113 0 1:=bO 0xa263bc7bcdd6d0765b6faa1907e4591578fcf6703145e988a C90 [] [] @Gh
def sH: (Int×List aR×Int)->((Int×Int)->Option R)->((Int->Option R)×Unit)->(Int×Int)->Option R:=λ(a,b,c) d (f,_) (g,h)=>cd (h<c) (bnd (idx b h) λi=>bnd (A9 n (i,a,g)) λj=>cnd (i.To==a) (d ((wr<|j+1),(wr<|h+1)))<|d (j,(wr<|h+1)))<|f g
def B0:=qW sH
def OR: Lc 113 0 0:=bL 0x4651c388ddafe9abfa8d77f2f9ead C90 [⟨0,[cs OQ]⟩] [] @sH
def kS: Nat->aM->Int->Option Int
 | 0,_,_=>none
 | n+1,a,b=>bnd (B0 n (b,a.Arcs,(ln a.Arcs)) (0,0)) λc=>some c
def Ev: Kn:=bH 113 0x315287 C90 [⟨0,[OR]⟩] [] kS
abbrev C91:=Ev::C90
end
end
section
open jJ (den cds ag)
noncomputable section
def bl(x n:Nat): List Bool:=(List.range n).map λi=>x.testBit i
abbrev z0: Value:=.int .i64 0
def aSx: bU:=(.seq (.region false [] [o1 24 (.ibin .lss (tp 23) (tp 22))]) (.seq (.cond (tp 24) .skip (.exit 0)) (.seq (.block 1 (.seq (.region false [] [o1 25 (.idxAddr 1 (tp 21) (tp 23)),o1 26 (.load false 1 (tp 25)),om 10 26]) (.seq (.region false [] [o1 27 (.load true 3 (tp 3)),om 28 10,o1 29 (.callB 152 [(tp 27),(tp 28)]),om 11 29]) (.seq (.region false [] [om 30 11,o1 31 (.ibin .gtr (tp 30) (.lit z0))]) (.cond (tp 31) (.region false [] [om 32 7,om 33 11,om 34 10,o1 35 (.build [z0,bS,bS,bS] [(0,1,(tp 33)),(1,1,(tp 34))]),o1 36 (.buildSl false 4 1 [z0,bS,bS,bS] [(0,(tp 35))]),o1 37 (.append 4 80 (tp 32) (tp 36)),om 7 37]) (.region false [] [om 38 8,om 39 10,o1 40 (.buildSl true 1 1 [bS] [(0,(tp 39))]),o1 41 (.append 1 24 (tp 38) (tp 40)),om 8 41])))))) (.region false [] [o1 42 (.ibin .add (tp 23) (.lit (.int .i64 1))),om 23 42]))))
def aSw: bU:=(.seq (.region false [] [o1 46 (.ibin .lss (tp 45) (tp 44))]) (.seq (.cond (tp 46) .skip (.exit 2)) (.seq (.block 3 (.seq (.region false [] [o1 47 (.idxAddr 1 (tp 43) (tp 45)),o1 48 (.load false 1 (tp 47)),om 13 48]) (.seq (.region true [] [om 49 2,om 50 13,o1 51 (.idxAddr 1 (tp 50) (.lit z0)),o1 52 (.load false 1 (tp 51)),om 53 13,o1 54 (.idxAddr 1 (tp 53) (.lit z0)),o1 55 (.load false 1 (tp 54)),o1 56 (.un .neg (tp 55)),o1 57 (.minmax true [(tp 52),(tp 56)]),o1 58 (.lookup 3 (.lit bS) (tp 49) (tp 57) false),om 14 58]) (.seq (.region false [] [om 59 2,om 60 7,om 61 14,o1 62 (.idxAddr 2 (tp 61) (.lit z0)),o1 63 (.load true 2 (tp 62)),o1 64 (.callB 153 [(tp 59),(tp 60),(tp 63)]),om 15 64]) (.region false [] [om 65 7,om 66 15,om 67 7,om 68 15,o1 69 (.idxAddr 4 (tp 67) (tp 68)),o1 70 (.fieldAddr 2 (tp 69)),o1 71 (.load false 1 (tp 70)),om 72 13,o1 73 (.buildSl true 1 1 [bS] [(0,(tp 72))]),o1 74 (.append 1 24 (tp 71) (tp 73)),o1 75 (.idxAddr 4 (tp 65) (tp 66)),o1 76 (.fieldAddr 2 (tp 75)),⟨none,.store 1 (tp 76) (tp 74),none⟩]))))) (.region false [] [o1 77 (.ibin .add (tp 45) (.lit (.int .i64 1))),om 45 77]))))
def aSv: bU:=(.seq (.region false [] [o1 82 (.ibin .lss (tp 81) (tp 80))]) (.seq (.cond (tp 82) .skip (.exit 4)) (.seq (.block 5 (.seq (.region false [] [o1 83 (.idxAddr 3 (tp 79) (tp 81)),o1 84 (.load true 3 (tp 83)),o1 17 (.alloc [z0,z0,z0]),⟨none,.store 3 (tp 17) (tp 84),none⟩]) (.seq (.region false [] [o1 85 (.load true 3 (tp 3)),o1 86 (.fieldAddr 0 (tp 17)),o1 87 (.load false 1 (tp 86)),o1 88 (.callB 113 [(tp 85),(tp 87)]),o1 89 (.ibin .eql (tp 88) (.lit z0))]) (.cond (tp 89) (.seq (.region false [] [om 90 2,om 91 7,o1 92 (.fieldAddr 1 (tp 17)),o1 93 (.load true 2 (tp 92)),o1 94 (.callB 153 [(tp 90),(tp 91),(tp 93)]),om 18 94]) (.region true [] [om 95 7,om 96 18,om 97 7,om 98 18,o1 99 (.idxAddr 4 (tp 97) (tp 98)),o1 100 (.fieldAddr 3 (tp 99)),o1 101 (.load false 1 (tp 100)),o1 102 (.fieldAddr 0 (tp 17)),o1 103 (.load false 1 (tp 102)),o1 104 (.buildSl true 1 1 [z0] [(0,(tp 103))]),o1 105 (.append 1 8 (tp 101) (tp 104)),o1 106 (.idxAddr 4 (tp 95) (tp 96)),o1 107 (.fieldAddr 3 (tp 106)),⟨none,.store 1 (tp 107) (tp 105),none⟩])) .skip)))) (.region false [] [o1 108 (.ibin .add (tp 81) (.lit (.int .i64 1))),om 81 108]))))
theorem aPe: (Q5 T 129).body=(.seq (.region false [] [o1 3 (.box (tp 0)),o1 6 (.movN (.lit bS))]) (.seq (.region false [] [o1 19 (.build [z0,bS,bS,bS] []),o1 20 (.buildSl false 4 1 [z0,bS,bS,bS] [(0,(tp 19))]),om 7 20]) (.seq (.region false [] [o1 8 (.claim 1)]) (.seq (.seq (.region false [] [om 21 1,o1 22 (.lenS (tp 21)),o1 23 (.mov (.lit z0))]) (.block 0 (.mask (bl 0x18c 9) (bl 0x40 7) false (.loop (some (bl 0xe0018c 24)) false aSx)))) (.seq (.seq (.region false [] [om 43 8,o1 44 (.lenS (tp 43)),o1 45 (.mov (.lit z0))]) (.block 2 (.mask (bl 0x8c 8) (bl 0x40 7) false (.loop (some (bl 0x38000000008c 46)) false aSw)))) (.seq (.seq (.region false [] [o1 78 (.fieldAddr 0 (tp 3)),o1 79 (.load false 1 (tp 78)),o1 80 (.lenS (tp 79)),o1 81 (.mov (.lit z0))]) (.block 4 (.mask (bl 0x80 8) (bl 0x40 7) false (.loop (some (bl 0x38000000000000000008c 82)) false aSv)))) (.seq (.region false [] [om 109 7,om 6 109]) .ret))))))):=by kernel_rfl
def arV(a:dO): Lu:=⟨a.twice,a.outer,(),()⟩
def dv1(n:Nat)(p:aM): List (List Int)->List dO->List (List Int)->Option (List dO×List (List Int))
 | [],l,q=>some (l,q)
 | c::cs,l,q=>bnd (rH n p c) λt=>cnd (decide (t > 0)) (dv1 n p cs (l++[⟨t,c,[],[]⟩]) q) (dv1 n p cs l (q++[c]))
def dv2(n:Nat)(m:List (Int×List Aaa)): List (List Int)->List dO->Option (List dO)
 | [],l=>some l
 | c::cs,l=>bnd (idx c 0) λd=>bnd (idx ((cE m (oB d (wr (0-d)))).getD []) 0) λat_=>bnd (eF n m (l.map arV) at_) λi=>bnd (idx l i) λa=>
  dv2 n m cs (l.set i.toNat ⟨a.twice,a.outer,a.inner++[c],a.alone⟩)
def dv3(n:Nat)(p:aM)(m:List (Int×List Aaa)): List Aab->List dO->Option (List dO)
 | [],l=>some l
 | x::xs,l=>bnd (kS n p x.ID) λd=>cnd (d==0)
  (bnd (eF n m (l.map arV) x.At) λi=>bnd (idx l i) λa=>dv3 n p m xs (l.set i.toNat ⟨a.twice,a.outer,a.inner,a.alone++[x.ID]⟩))
  (dv3 n p m xs l)
def jK: Nat->aM->List (List Int)->List (Int×List Aaa)->Option (List dO)
 | 0,_,_,_=>none
 | n+1,p,cs,m=>bnd (Nu (decide (cs.length<n/\p.Nodes.length<n/\cs.length<=190000/\p.Nodes.length<=9000))) λ_=>bnd (dv1 n p cs [⟨0,[],[],[]⟩] []) λq=>bnd (dv2 n m q.2 q.1) λl=>dv3 n p m p.Nodes l
structure RA where
 a:dO
 o:AV
 x:AV
 y:AV
def RA.c(r:RA): List AV:=[iv r.a.twice,r.o,r.x,r.y]
def iB(kd:Nat)(H:aW)(x:AV)(l:List (den kd)): Prop:=(x=.lit bS/\l=[])\/∃k es,x=.ms k es.length 0 es.length/\3<=k/\H[k]?=some (.blk 1 es)/\Ql kd l es
def idC: AV->Option Nat
 | .ms k _ _ _=>some k
 | _=>none
def sel(r:RA)(u:Bool): AV:=match u with
 | true=>r.y
 | false=>r.x
structure DI(H:aW)(w:List RA): Prop where
 co:∀(i:Nat) (r:RA),w[i]?=some r->Qp (.sl 1 r.a.outer) r.o
 cx:∀(i:Nat) (r:RA),w[i]?=some r->iB 12 H r.x r.a.inner
 cy:∀(i:Nat) (r:RA),w[i]?=some r->iB 1 H r.y r.a.alone
 ne:∀(i j:Nat) (r s:RA) (u v:Bool) (k:Nat),w[i]?=some r->w[j]?=some s->idC (sel r u)=some k->idC (sel s v)=some k->i=j/\u=v
theorem iB.id{kd:Nat}{H:aW}{x:AV}{l:List (den kd)}{k:Nat}(h:iB kd H x l)(hk:idC x=some k): 3<=k/\∃o,H[k]?=some o:=by
 rcases h with⟨rfl,_⟩ | ⟨k',es,rfl,h3,hh,_⟩
 .cases hk
 .cases hk;exact⟨h3,_,hh⟩
theorem iB.mono{kd:Nat}{H H':aW}{x:AV}{l:List (den kd)}(h:iB kd H x l)(hk:∀k,idC x=some k->H'[k]?=H[k]?): iB kd H' x l:=by
 rcases h with⟨rfl,h⟩ | ⟨k',es,rfl,h3,hh,q⟩
 .exact .inl ⟨rfl,h⟩
 .exact .inr ⟨k',es,rfl,h3,by rw[hk k' rfl];exact hh,q⟩
theorem iB.shut{kd:Nat}{H H':aW}{x:AV}{l:List (den kd)}{d:Nat}(h:iB kd H x l)(hk:∀k,3<=k->H'[k]?=H[k]?): Qp (.sl kd l) (eE H' 0 (d+1) x):=by
 rcases h with⟨rfl,rfl⟩ | ⟨k',es,rfl,h3,hh,q⟩
 .exact Qp.mkS (es:=[]) (.inr ⟨false,rfl⟩) trivial
 .simp only[eE,ZG,Zz,rd,hk k' h3,hh,YD,XO]
  exact Qp.mkS (.inr ⟨_,rfl⟩) ((Gs H' 0 d).ls q)
theorem iB.grow{kd:Nat}{H:aW}{x:AV}{l:List (den kd)}{bytes:Nat}{e:den kd}{row:List AV}(h:iB kd H x l)(hr:Qr (jX kd e) row)(h1:row.length=1)(hb:bytes<=100000)(hl:l.length<=200000)(h3:3<=H.length):
 ∃k es H',cR 0 H 1 bytes x [row]=some (.ms k es.length 0 es.length,H')/\3<=k/\H'[k]?=some (.blk 1 es)/\Ql kd (l++[e]) es/\(∀j,j≠k->H'[j]?=H[j]?)/\(idC x=some k\/H[k]?=none)/\H.length<=H'.length:=by
 have a1:eZ 1 [row]=true:=by simp[eZ,h1]
 have rm:∀z,z<=300000->lI z bytes=true:=λz hz=>by
  have:z*bytes<=300000*100000:=Y8 hz hb
  unfold lI;simp;omega
 rcases h with⟨rfl,rfl⟩ | ⟨k',es,rfl,hk,hh,q⟩
 .refine⟨H.length,[row],H++[.blk 1 [row]],?_,h3,?_,⟨hr,trivial⟩,?_,.inr (Zy (Zf _)),by simp⟩
  .show (if eZ 1 [row]=true/\0<1/\lI 1 bytes=true then _ else _)=_
   rw[Zu ⟨a1,by decide,rm 1 (by decide)⟩];rfl
  .rw[ZX (Zf _),XR];rfl
  .intro j hj
   rcases ZI j H.length with h | h
   .rw[Zo h]
   .rw[Zy h,Zy (by simp;omega)]
 .have hlt:k'<H.length:=(Ze.1 hh).1
  have hes:=q.len
  refine⟨k',es++[row],H.set k' (.blk 1 (es++[row])),?_,hk,?_,q.app ⟨hr,trivial⟩,?_,.inl rfl,by simp⟩
  .show (if eZ 1 [row]=true/\0<1/\lI 1 bytes=true then _ else _)=_
   rw[Zu ⟨a1,by decide,rm 1 (by decide)⟩]
   simp only[hh]
   simp only[We,Yd,rm (es.length+1) (by omega),Zz,Nat.one_ne_zero,Z9,ZG,Zh]
  .rw[Z3 hlt]
  .intro j hj;rw[Zv (Ne.symm hj)]
theorem DI.upd{H H' H2:aW}{w:List RA}{i:Nat}{r r':RA}{k:Nat}{u:Bool}(hI:DI H w)(hi:w[i]?=some r)(hk:3<=k)(hne:∀j,j≠k->H'[j]?=H[j]?)(hold:idC (sel r u)=some k\/H[k]?=none)(h2:∀j,j≠1->H2[j]?=H'[j]?)(ho:r'.o=r.o/\r'.a.outer=r.a.outer)(hx:iB 12 H2 r'.x r'.a.inner\/(r'.x=r.x/\r'.a.inner=r.a.inner/\u=true))(hy:iB 1 H2 r'.y r'.a.alone\/(r'.y=r.y/\r'.a.alone=r.a.alone/\u=false))(hu:idC (sel r' u)=some k)(hv:sel r' (!u)=sel r (!u)): DI H2 (w.set i r'):=by
 have hlt:=(Ze.1 hi).1
 have g:∀(j:Nat) (s:RA),(w.set i r')[j]?=some s->(j=i/\s=r')\/(j≠i/\w[j]?=some s):=by
  intro j s h
  by_cases hj:j=i
  .subst hj;rw[Z3 hlt] at h;cases h;exact .inl ⟨rfl,rfl⟩
  .rw[Zv (Ne.symm hj)] at h;exact .inr ⟨hj,h⟩
 have old:∀(j:Nat) (s:RA) (v:Bool) (q:Nat),w[j]?=some s->idC (sel s v)=some q->3<=q/\∃o,H[q]?=some o:=by
  intro j s v q hj hq
  cases v with
  | false=>exact (hI.cx j s hj).id hq
  | true=>exact (hI.cy j s hj).id hq
 have sep:∀(j:Nat) (s:RA) (v:Bool),w[j]?=some s->idC (sel s v)=some k->j=i/\v=u:=by
  intro j s v hj hq
  rcases hold with h | h
  .exact hI.ne j i s r v u k hj hi hq h
  .obtain⟨_,o,ho⟩:=old j s v k hj hq
   rw[h] at ho;cases ho
 have keep:∀(j:Nat) (s:RA) (v:Bool) (q:Nat),w[j]?=some s->idC (sel s v)=some q->¬(j=i/\v=u)->H2[q]?=H[q]?:=by
  intro j s v q hj hq hn
  have:=(old j s v q hj hq).1
  rw[h2 q (by omega),hne q (λe=>hn (sep j s v hj (e▸hq)))]
 refine⟨?_,?_,?_,?_⟩
 .intro j s hs
  rcases g j s hs with⟨rfl,rfl⟩ | ⟨_,hs⟩
  .rw[ho.1,ho.2];exact hI.co _ r hi
  .exact hI.co j s hs
 .intro j s hs
  rcases g j s hs with⟨rfl,rfl⟩ | ⟨hj,hs⟩
  .rcases hx with h | ⟨h1,h3,h4⟩
   .exact h
   .rw[h1,h3]
    exact (hI.cx _ r hi).mono λq hq=>keep _ r false q hi hq (by rw[h4];simp)
  .exact (hI.cx j s hs).mono λq hq=>keep j s false q hs hq (λe=>hj e.1)
 .intro j s hs
  rcases g j s hs with⟨rfl,rfl⟩ | ⟨hj,hs⟩
  .rcases hy with h | ⟨h1,h3,h4⟩
   .exact h
   .rw[h1,h3]
    exact (hI.cy _ r hi).mono λq hq=>keep _ r true q hi hq (by rw[h4];simp)
  .exact (hI.cy j s hs).mono λq hq=>keep j s true q hs hq (λe=>hj e.1)
 .have new:∀v q,idC (sel r' v)=some q->(v=u/\q=k)\/(v=!u/\idC (sel r (!u))=some q):=by
   intro v q h
   by_cases hvu:v=u
   .subst hvu;rw[hu] at h;cases h;exact .inl ⟨rfl,rfl⟩
   .have:v=!u:=by cases v<;>cases u<;>simp_all
    subst this;rw[hv] at h;exact .inr ⟨rfl,h⟩
  intro j1 j2 s1 s2 v1 v2 q e1 e2 q1 q2
  rcases g j1 s1 e1 with⟨rfl,rfl⟩ | ⟨n1,f1⟩
  .rcases g j2 s2 e2 with⟨rfl,rfl⟩ | ⟨n2,f2⟩
   .rcases new v1 q q1 with⟨rfl,rfl⟩ | ⟨rfl,o1⟩
    .rcases new v2 q q2 with⟨rfl,_⟩ | ⟨rfl,o2⟩
     .exact⟨rfl,rfl⟩
     .have:=(sep _ r (!v1) hi o2).2;cases v1<;>cases this
    .rcases new v2 q q2 with⟨rfl,rfl⟩ | ⟨rfl,o2⟩
     .have:=(sep _ r (!v2) hi o1).2;cases v2<;>cases this
     .exact⟨rfl,rfl⟩
   .rcases new v1 q q1 with⟨rfl,rfl⟩ | ⟨rfl,o1⟩
    .exact absurd (sep _ s2 v2 f2 q2).1 n2
    .exact absurd (hI.ne _ _ r s2 (!u) v2 q hi f2 o1 q2).1 (Ne.symm n2)
  .rcases g j2 s2 e2 with⟨rfl,rfl⟩ | ⟨n2,f2⟩
   .rcases new v2 q q2 with⟨rfl,rfl⟩ | ⟨rfl,o2⟩
    .exact absurd (sep _ s1 v1 f1 q1).1 n1
    .exact absurd (hI.ne _ _ s1 r v1 (!u) q f1 hi q1 o2).1 n1
   .exact hI.ne j1 j2 s1 s2 v1 v2 q f1 f2 q1 q2
theorem DI.view{H:aW}{w:List RA}(hI:DI H w)(h1:H[1]?=some (.blk 4 (w.map RA.c))): Qp (.vw 36 ((w.map RA.a).map arV)) (dE H (.ms 1 w.length 0 w.length)):=by
 simp only[dE,rd,h1,ZO,Zz,YD]
 rw[ZW (by simp)]
 refine Qp.mkV (.inr (.inr rfl)) ?_
 rw[Ya,Ya]
 have h:∀(v:List RA),(∀r∈v,Qp (.sl 1 r.a.outer) r.o)->Ql 36 (v.map (arV∘RA.a)) (v.map ((λe=>e.map Fk)∘RA.c)):=by
  intro v
  induction v with
  | nil=>exact λ_=>trivial
  | cons r v ih=>
   intro hv
   refine⟨⟨.lit _,uD.c (c:=.sl 1) (x:=r.a.outer) (hv r ZM),.undef _,.undef _,trivial⟩,ih λr hr=>hv r (ZQ _ hr)⟩
 exact h w λr hr=>by
  obtain⟨i,hi⟩:=Yi.1 hr
  exact hI.co i r hi
theorem DI.rows{H H':aW}{w:List RA}{d:Nat}(hI:DI H w)(hk:∀k,3<=k->H'[k]?=H[k]?): Ql 38 (w.map RA.a) ((w.map RA.c).map λe=>e.map (eE H' 0 (d+1))):=by
 rw[Ya]
 have h:∀(v:List RA),(∀r∈v,Qp (.sl 1 r.a.outer) r.o/\iB 12 H r.x r.a.inner/\iB 1 H r.y r.a.alone)->Ql 38 (v.map RA.a) (v.map ((λe=>e.map (eE H' 0 (d+1)))∘RA.c)):=by
  intro v
  induction v with
  | nil=>exact λ_=>trivial
  | cons r v ih=>
   intro hv
   obtain⟨a1,a2,a3⟩:=hv r ZM
   exact⟨⟨.lit _,(Gs H' 0 (d+1)).c (c:=.sl 1) (x:=r.a.outer) a1,a2.shut hk,a3.shut hk,trivial⟩,ih λr hr=>hv r (ZQ _ hr)⟩
 exact h w λr hr=>by
  obtain⟨i,hi⟩:=Yi.1 hr
  exact⟨hI.co i r hi,hI.cx i r hi,hI.cy i r hi⟩
section
variable (p:aM)(m:List (Int×List Aaa))(xn xa xf xm:AV)
structure DA(w:List RA)(H:aW): Prop where
 h0:H[0]?=some (.blk 3 [[xn,xa,xf]])
 h1:H[1]?=some (.blk 4 (w.map RA.c))
 h3:3<=H.length
 i:DI H w
variable {p m xn xa xf xm}{w:List RA}{tm:List AV}{H:aW}
variable (qn:Qp (.vw 18 p.Nodes) xn)(qa:Qp (.vw 20 p.Arcs) xa)(qf:Qp (.vw 1 p.Faces) xf)(qm:Qp (.rmp 1 14 m) xm)
theorem aIZ: FOK PP T 152 ⟨[.w 25,.w 12],[1],false,λn p=>rH n p.1 p.2⟩:=by
 have e:Jr.c=⟨[.w 25,.w 12],[1],false,λn p=>rH n p.1 p.2⟩:=by kernel_rfl
 have h:=Jr.ok
 rw[e] at h
 exact h
theorem aGF: FOK PP T 113 ⟨[.w 25,.w 1],[1],false,λn p=>kS n p.1 p.2⟩:=by
 have e:Ev.c=⟨[.w 25,.w 1],[1],false,λn p=>kS n p.1 p.2⟩:=by kernel_rfl
 have h:=Ev.ok
 rw[e] at h
 exact h
theorem aMr: FOK PP T 153 ⟨[.w 35,.w 37,.w 0],[1],false,λn p=>eF n p.1 p.2.1 p.2.2⟩:=by
 have e:lW.c=⟨[.w 35,.w 37,.w 0],[1],false,λn p=>eF n p.1 p.2.1 p.2.2⟩:=by kernel_rfl
 have h:=lW.ok
 rw[e] at h
 exact h
theorem R0{k:Nat}{l:List (den k)}{a:AV}(h:Qp (.vw k l) a): Qp (.vw k l) (dE H a):=by
 obtain⟨es,h1,h2⟩:=h.inV
 rcases h1 with⟨rfl,rfl⟩ | ⟨f,rfl⟩ | rfl
 .exact Qp.mkV (es:=[]) (.inr (.inr rfl)) h2
 .exact Qp.mkV (.inr (.inr rfl)) h2
 .exact Qp.mkV (.inr (.inr rfl)) h2
theorem aTF{kk vk:Nat}{m:List (den kk×den vk)}{a:AV}(h:Qp (.rmp kk vk m) a): Qp (.rmp kk vk m) (dE H a):=by
 obtain⟨rows,h1,h2⟩:=h.inM
 rcases h1 with⟨rfl,rfl⟩ | rfl
 .exact Qp.mkM (.inl ⟨rfl,rfl⟩) h2
 .exact Qp.mkM (.inr rfl) h2
theorem aMj{α:Type}{l:List α}{i:Nat}{x:α}(h:l[i]?=some x): idx l (i:Int)=some x:=by rw[bP];exact h
theorem Ts{α:Type}{l r:List α}{i:Nat}{x:α}(h:l.drop i=x::r): l[i]?=some x/\l.drop (i+1)=r/\i<l.length:=by
 have h1:(l.drop i)[0]?=some x:=by rw[h];rfl
 rw[Zw,Xm] at h1
 refine⟨h1,?_,(Ze.1 h1).1⟩
 have:l.drop (i+1)=(l.drop i).drop 1:=by rw[XD]
 rw[this,h];rfl
theorem aKu{i:Nat}(h:i<1000000): wr ((i:Int)+1)=((i+1:Nat):Int):=by
 show IntKind.i64.wrap _=_
 rw[Xe];push_cast;omega
theorem aNN{k:Nat}{l:List (den k)}{a:AV}(q:Qp (.vw k l) a): cL H a=dE H a:=by
 obtain⟨es,h1,_⟩:=q.inV
 rcases h1 with⟨rfl,_⟩ | ⟨f,rfl⟩ | rfl<;>rfl
theorem aSf(H:aW)(o:dI): (H++[o])[H.length]?=some o:=by rw[ZX (Zf _),XR];rfl
theorem hold{H:aW}{o b:dI}{k:Nat}(h:H[k]?=some b): (H++[o])[k]?=some b:=by rw[Zo (Ze.1 h).1];exact h
include qn qa qf in
theorem aPd{n:Nat}{x y:bB}{c:List Int}{a:AV}{t:Int}(e:rH n p c=some t)(hx:aG tm x=.agg [xn,xa,xf])(hy:aG tm y=a)(q:Qp (.vw 1 c) a): aL PP (fH PP T n) 0 (.callB 152 [x,y]) tm H=some (iv t,H):=by
 obtain⟨A,r,h1,h2⟩:=M1 (a:=.undef) aIZ (n:=n) (p:=(p,c)) (r:=t) e (λr=>⟨r,rfl⟩) (aw:=[cL H (.agg [xn,xa,xf]),dE H a])
  ⟨Qh.mkA ⟨.p _ _ (R0 qn),.p _ _ (R0 qa),.p _ _ (R0 qf),trivial⟩,.p _ _ (R0 q),trivial⟩
 simp only[aL,ZE,Yn,hx,hy,aNN q,h1]
 rw[h2];rfl
theorem aUM{n:Nat}{x y:bB}{a:AV}{l:List Int}{t:Int}(q:Qp (.sl 1 l) a)(hx:aG tm x=iv t)(hy:aG tm y=a): aL PP (fH PP T n) 0 (.build [z0,bS,bS,bS] [(0,1,x),(1,1,y)]) tm H=some (.agg [iv t,a,.lit bS,.lit bS],H):=by
 obtain⟨es,h1,_⟩:=q.inS
 simp only[aL,ZE,Yn,hx,hy]
 rcases h1 with⟨rfl,_⟩ | ⟨f,rfl⟩<;>rfl
theorem aQw{n:Nat}{y:bB}{a:AV}{k:Nat}{l:List (den k)}{z:Value}(q:Qp (.sl k l) a)(hy:aG tm y=a): aL PP (fH PP T n) 0 (.buildSl true 1 1 [z] [(0,y)]) tm H=some (.sl true [[Fk a]],H):=by
 obtain⟨es,h1,_⟩:=q.inS
 simp only[aL,ZE,Yn,hy]
 rcases h1 with⟨rfl,_⟩ | ⟨f,rfl⟩<;>rfl
theorem DA.grow{o y:bB}{a:AV}{l:List Int}{t:Int}(d:DA xn xa xf w H)(hn:∀r∈w,r.x=.lit bS/\r.y=.lit bS)(q:Qp (.sl 1 l) a){b:dI}: DA xn xa xf (w++[⟨⟨t,l,[],[]⟩,a,.lit bS,.lit bS⟩]) ((H++[b]).set 1 (.blk 4 (w.map RA.c++[[iv t,a,.lit bS,.lit bS]]))):=by
 have hw:∀r∈w++[(⟨⟨t,l,[],[]⟩,a,.lit bS,.lit bS⟩:RA)],r.x=.lit bS/\r.y=.lit bS:=by
  intro r hr
  rcases ZD.1 hr with hr | hr
  .exact hn r hr
  .rw[ZJ.1 hr];exact⟨rfl,rfl⟩
 have g:∀(i:Nat) (r:RA),(w++[(⟨⟨t,l,[],[]⟩,a,.lit bS,.lit bS⟩:RA)])[i]?=some r->w[i]?=some r\/r=⟨⟨t,l,[],[]⟩,a,.lit bS,.lit bS⟩:=by
  intro i r hr
  rcases ZI i w.length with h | h
  .rw[Zo h] at hr;exact .inl hr
  .rw[ZX h] at hr
   exact .inr (ZJ.1 (Zg hr))
 refine⟨?_,?_,by simp;have:=d.h3;omega,⟨?_,?_,?_,?_⟩⟩
 .rw[Zv (by decide)];exact hold d.h0
 .rw[Z3 (by simp;have:=d.h3;omega),YJ];rfl
 .intro i r hr
  rcases g i r hr with h | rfl
  .exact d.i.co i r h
  .exact q
 .intro i r hr
  rcases g i r hr with h | rfl
  .rcases d.i.cx i r h with h1 | ⟨k,es,h1,_⟩
   .exact .inl h1
   .rw[(hn r (Zg h)).1] at h1;cases h1
  .exact .inl ⟨rfl,rfl⟩
 .intro i r hr
  rcases g i r hr with h | rfl
  .rcases d.i.cy i r h with h1 | ⟨k,es,h1,_⟩
   .exact .inl h1
   .rw[(hn r (Zg h)).2] at h1;cases h1
  .exact .inl ⟨rfl,rfl⟩
 .intro i j r s u v k hr hs hk _
  have:=hw r (Zg hr)
  cases u with
  | true=>simp only[sel,this.2,idC] at hk;cases hk
  | false=>simp only[sel,this.1,idC] at hk;cases hk
abbrev dB(xm:AV)(w:List RA): List (Nat×AV):=[(2,xm),(3,.ptr 0 1 0 0),(7,.ms 1 w.length 0 w.length)]
include qn qa qf in
theorem aM7{n N:Nat}(cs:List (List Int)){xc:AV}(qc:Qp (.vw 12 cs) xc)(hb:cs.length<=190000): ∀(todo:List (List Int)) (k i:Nat) (tm:List AV) (H:aW) (w:List RA) (q:List (List Int)) (qr:List (List AV)) (r:List dO×List (List Int)),cs.drop i=todo->todo.length<k->w.length+todo.length<=200000->qr.length+todo.length<=200000->
 DA xn xa xf w H->(∀r∈w,r.x=.lit bS/\r.y=.lit bS)->H[2]?=some (.blk 1 qr)->Ql 12 q qr->At 110 ((8,.ms 2 qr.length 0 qr.length)::(21,xc)::(22,iv (cs.length:Nat))::(23,iv i)::dB xm w) tm->dv1 n p todo (w.map RA.a) q=some r->
 WL PP (fH PP T n) n 0 N (bl 0xe0018c 24) false aSx k ⟨tm,H⟩ λx s=>x=.exit 0/\∃w' qr',w'.map RA.a=r.1/\DA xn xa xf w' s.heap/\(∀r∈w',r.x=.lit bS/\r.y=.lit bS)/\s.heap[2]?=some (.blk 1 qr')/\Ql 12 r.2 qr'/\At 110 ((8,.ms 2 qr'.length 0 qr'.length)::dB xm w') s.tmps/\w'.length<=200000/\qr'.length<=200000
 | todo,0,i,tm,H,w,q,qr,r,_,h,_,_,_,_,_,_,_,_=>by omega
 | todo,k+1,i,tm,H,w,q,qr,r,hd,hk,hw,hq,d,hn,h2,ql,ha,h=>by
  apply WL.step
  show WC PP (fH PP T n) n 0 aSx ⟨cU (bl 0xe0018c 24) tm,H⟩ _
  replace ha:At 110 ((8,.ms 2 qr.length 0 qr.length)::(21,xc)::(22,iv (cs.length:Nat))::(23,iv i)::dB xm w) (cU (bl 0xe0018c 24) tm):=
   .cons (ha.live _ rfl rfl) (.cons (ha.live _ rfl rfl) (.cons (ha.live _ rfl rfl) (.cons (ha.live _ rfl rfl) (.cons (ha.live _ rfl rfl) (.cons (ha.live _ rfl rfl) (.cons (ha.live _ rfl rfl) (ha.mask _)))))))
  generalize cU (bl 0xe0018c 24) tm=tm at ha |-
  refine WC.seq (WC.reg (AO.op ha (Ng (ha.get rfl) (ha.get rfl) rfl) λtm ha=>AO.nil ha (WC.seq ?_)))
  cases todo with
  | nil=>
   have hi:cs.length<=i:=by
    have:=congrArg List.length hd
    rw[ZV,Z1] at this;omega
   cases h
   refine WC.condF (ha.get rfl) (YI (by omega)) (WC.exit ?_)
   exact⟨rfl,w,qr,rfl,d,hn,h2,ql,.cons (ha.get rfl) (.cons (ha.get rfl) (.cons (ha.get rfl) (.cons (ha.get rfl) ⟨ha.ln,λ_ _ h=>by cases h⟩))),by omega,by omega⟩
  | cons c todo=>
   obtain⟨g1,g2,g3⟩:=Ts hd
   simp only[Yc] at hk hw hq
   simp only[dv1] at h
   obtain⟨t,e2,h⟩:=bG h
   refine WC.condT (ha.get rfl) (Yj (by omega)) (WC.skip (WC.seq (WC.block (WC.seq ?_))))
   obtain⟨row,q1,e25⟩:=aI6 (P:=PP) (cf:=fH PP T n) (fl:=0) (H:=H) (s:=1) qc (ha.get (k:=21) rfl) (ha.get (k:=23) rfl) (aMj g1) rfl
   obtain⟨x,rfl,qx⟩:∃x,row=[x]/\Qp (.sl 1 c) x:=by
    match row,q1 with
    | [x],h=>exact⟨x,rfl,h.1⟩
   have hl:=qx.w
   refine WC.reg (AO.op ha e25 λtm ha=>AO.op ha (aM0 (ha.get rfl)) λtm ha=>AO.mov ha rfl λtm ha=>AO.nil ha (WC.seq (WC.reg ?_)))
   refine AO.op ha (Ry (ha.get rfl) d.h0 rfl rfl (Zf 3) rfl) λtm ha=>AO.mov ha rfl λtm ha=>AO.op ha (aPd qn qa qf e2 (ha.get rfl) (ha.get rfl) hl) λtm ha=>AO.mov ha rfl λtm ha=>AO.nil ha (WC.seq (WC.reg (AO.mov ha rfl λtm ha=>AO.op ha (Ng (ha.get rfl) rfl rfl) λtm ha=>AO.nil ha ?_)))
   cases ht:decide (t > 0) with
   | true=>
    rw[ht] at h
    refine WC.condT (ha.get rfl) ht (WC.reg (AO.mov ha rfl λtm ha=>AO.mov ha rfl λtm ha=>AO.mov ha rfl λtm ha=>AO.op ha (aUM qx (ha.get rfl) (ha.get rfl)) λtm ha=>AO.op (v:=.ms H.length 1 0 1) (H':=H++[.blk 4 [[iv t,x,.lit bS,.lit bS]]]) ha (by
     simp only[aL,ZE,Yn,ha.get (k:=35) rfl];rfl) λtm ha=>AO.op ha (aQ1 (es:=w.map RA.c) (ys:=[[iv t,x,.lit bS,.lit bS]]) (by rw[ZO];exact ha.get rfl) (by
      rw[ha.get (k:=36) rfl];simp only[rd,aSf];rfl) (hold d.h1) (by decide) rfl (by simp) (by decide) (by simp;omega)) λtm ha=>AO.mov ha rfl λtm ha=>AO.nil ha ?_))
    refine WC.reg (AO.op ha (Ng (ha.get rfl) rfl rfl) λtm ha=>AO.mov ha rfl λtm ha=>AO.nil ha ?_)
    have d':=d.grow (o:=.tmp 0) (y:=.tmp 0) (t:=t) hn qx (b:=.blk 4 [[iv t,x,.lit bS,.lit bS]])
    refine aM7 cs qc hb todo k (i+1) _ _ (w++[⟨⟨t,c,[],[]⟩,x,.lit bS,.lit bS⟩]) q qr r g2 (by omega) (by simp;omega) (by omega) d' ?_ ?_ ql ?_ (by rw[YJ];exact h)
    .intro r hr
     rcases ZD.1 hr with hr | hr
     .exact hn r hr
     .rw[ZJ.1 hr];exact⟨rfl,rfl⟩
    .rw[Zv (by decide)];exact hold h2
    .exact .cons (ha.get rfl) (.cons (ha.get rfl) (.cons (ha.get rfl) (.cons (by rw[<-aKu (by omega)];exact ha.get rfl) (.cons (ha.get rfl) (.cons (ha.get rfl) (.cons (by rw[ha.get (k:=7) rfl];simp) ⟨ha.ln,λ_ _ h=>by cases h⟩))))))
   | false=>
    rw[ht] at h
    refine WC.condF (ha.get rfl) ht (WC.reg (AO.mov ha rfl λtm ha=>AO.mov ha rfl λtm ha=>AO.op ha (aQw qx (ha.get rfl)) λtm ha=>AO.op ha (aQ1 (es:=qr) (ys:=[[Fk x]]) (ha.get rfl) (by rw[ha.get (k:=40) rfl];rfl) h2 (by decide) rfl (by simp) (by decide) (by simp;omega)) λtm ha=>AO.mov ha rfl λtm ha=>AO.nil ha ?_))
    refine WC.reg (AO.op ha (Ng (ha.get rfl) rfl rfl) λtm ha=>AO.mov ha rfl λtm ha=>AO.nil ha ?_)
    have d':DA xn xa xf w (H.set 2 (.blk 1 (qr++[[Fk x]]))):=⟨by rw[Zv (by decide)];exact d.h0,by rw[Zv (by decide)];exact d.h1,by simp;exact d.h3,⟨d.i.co,λi r hr=>(d.i.cx i r hr).mono λk hk=>Zv (by have:=((d.i.cx i r hr).id hk).1;omega),λi r hr=>(d.i.cy i r hr).mono λk hk=>Zv (by have:=((d.i.cy i r hr).id hk).1;omega),d.i.ne⟩⟩
    refine aM7 cs qc hb todo k (i+1) _ _ w (q++[c]) (qr++[[Fk x]]) r g2 (by omega) (by omega) (by simp;omega) d' hn ?_ (ql.app ⟨⟨uD.c (c:=.sl 1) (x:=c) qx,trivial⟩,trivial⟩) ?_ h
    .rw[Z3 (Ze.1 h2).1]
    .exact .cons (ha.get rfl) (.cons (ha.get rfl) (.cons (ha.get rfl) (.cons (by rw[<-aKu (by omega)];exact ha.get rfl) (.cons (ha.get rfl) (.cons (ha.get rfl) (.cons (ha.get rfl) ⟨ha.ln,λ_ _ h=>by cases h⟩))))))
end
section
variable {p:aM}{m:List (Int×List Aaa)}{xn xa xf xm:AV}{w:List RA}{tm:List AV}{H:aW}
variable (qn:Qp (.vw 18 p.Nodes) xn)(qa:Qp (.vw 20 p.Arcs) xa)(qf:Qp (.vw 1 p.Faces) xf)(qm:Qp (.rmp 1 14 m) xm)
theorem aRz{a:Aaa}{e:List AV}(q:Qr (jX 0 a) e): e=[iv a.X,iv a.Y]:=by
 match e,q with
 | [x,y],h=>obtain⟨h1,h2,_⟩:=h;cases h1;cases h2;rfl
theorem aOP{a:Int}{e:List AV}(q:Qr (jX 1 a) e): e=[iv a]:=by
 match e,q with
 | [x],h=>obtain⟨h1,_⟩:=h;cases h1;rfl
include qm in
theorem aM1{n:Nat}{x y z:bB}{i:Int}{a:Aaa}(d:DA xn xa xf w H)(hx:aG tm x=xm)(hy:aG tm y=.ms 1 w.length 0 w.length)(hz:aG tm z=.agg [iv a.X,iv a.Y])(h:eF n m ((w.map RA.a).map arV) a=some i):
 aL PP (fH PP T n) 0 (.callB 153 [x,y,z]) tm H=some (iv i,H):=by
 have e:cL H xm=dE H xm:=by
  obtain⟨rows,h1,_⟩:=qm.inM
  rcases h1 with⟨rfl,_⟩ | rfl<;>rfl
 obtain⟨A,r,h1,h2⟩:=M1 (a:=.undef) aMr (n:=n) (p:=(m,(w.map RA.a).map arV,a)) (r:=i) h (λr=>⟨r,rfl⟩) (aw:=[dE H xm,dE H (.ms 1 w.length 0 w.length),.agg [iv a.X,iv a.Y]])
  ⟨.p _ _ (aTF qm),.p _ _ (d.i.view d.h1),Qh.mkA ⟨.l _,.l _,trivial⟩,trivial⟩
 have e2:cL H (.ms 1 w.length 0 w.length)=dE H (.ms 1 w.length 0 w.length):=rfl
 have e3:cL H (.agg [iv a.X,iv a.Y])=.agg [iv a.X,iv a.Y]:=rfl
 simp only[aL,ZE,Yn,hx,hy,hz,e,e2,e3,h1]
 rw[h2];rfl
include qm in
theorem aSu{n:Nat}{k:Int}{x y:bB}(hx:aG tm x=xm)(hy:aG tm y=iv k): ∃a,aL PP (fH PP T n) 0 (.lookup 3 (.lit bS) x y false) tm H=some (a,H)/\Qp (.sl 0 ((cE m k).getD [])) a:=by
 have hq:Qt 2 ⟨[(0,.rmp 1 14 m),(1,.lit (.int .i64 k))],List.replicate H.length .gone⟩ ⟨[xm,iv k],H⟩:=⟨rfl,λt v hv=>(by
  match t,hv with
  | 0,hv=>cases hv;exact⟨_,rfl,.p _ _ qm⟩
  | 1,hv=>cases hv;exact⟨_,rfl,.l _⟩
  | _+2,hv=>cases hv),aQt H⟩
 obtain⟨v,A',tv,S',h1,_,h3,h4⟩:=E8 (P:=PP) (T:=T) (cf:=fH PP T n) (n:=n) (d:=some 0) (E:=((⟨C0,[],[],[],[]⟩:En PP T 2 0 .skip).xe GlC.g)) (K:=λtv _=>some tv) (r:=.sl 0 ((cE m k).getD []))
  (En.ok _ _) hq (kt:=3) (z:=.lit bS) (m:=.tmp 0) (k:=.tmp 1) (ok:=false) (by kernel_rfl)
 rw[aQx h1] at h1
 obtain rfl:=ZR h4
 have e:aL PP (fH PP T n) 0 (.lookup 3 (.lit bS) x y false) tm H=aL PP (fH PP T n) 0 (.lookup 3 (.lit bS) (.tmp 0) (.tmp 1) false) [xm,iv k] H:=by
  simp only[aL,hx,hy];rfl
 exact⟨v,e.trans h1,h3.pu trivial⟩
theorem RA.c_le(r:RA){k:Nat}(h:k<=4): k<=r.c.length:=h
def aUx: Bool->Nat
 | true=>3
 | false=>2
def upR(u:Bool)(r:RA)(a':dO)(v:AV): RA:=match u with
 | true=>⟨a',r.o,r.x,v⟩
 | false=>⟨a',r.o,v,r.y⟩
theorem aM5{u:Bool}{j bytes:Nat}{ro:RA}{a':dO}{row:List AV}{kd:Nat}{l:List (den kd)}{e:den kd}(d:DA xn xa xf w H)(hj:w[j]?=some ro)(hr:Qr (jX kd e) row)(h1:row.length=1)(hb:bytes<=100000)(hl:l.length<=200000)(hc:iB kd H (sel ro u) l)(ho:a'.outer=ro.a.outer/\a'.twice=ro.a.twice)(hx:(u=false/\∀H' v,iB kd H' v (l++[e])->iB 12 H' v a'.inner)\/(u=true/\a'.inner=ro.a.inner))(hy:(u=true/\∀H' v,iB kd H' v (l++[e])->iB 1 H' v a'.alone)\/(u=false/\a'.alone=ro.a.alone)):
 ∃k z H',cR 0 H 1 bytes (sel ro u) [row]=some (.ms k z 0 z,H')/\H'[1]?=some (.blk 4 (w.map RA.c))/\H'[2]?=H[2]? /\
  DA xn xa xf (w.set j (upR u ro a' (.ms k z 0 z))) (H'.set 1 (.blk 4 ((w.map RA.c).set j (aQ ro.c (aUx u) [.ms k z 0 z])))):=by
 obtain⟨k,es,H',g1,g2,g3,g4,g5,g6,g7⟩:=hc.grow hr h1 hb hl d.h3
 have e1:H'[1]?=some (.blk 4 (w.map RA.c)):=(g5 1 (by omega)).trans d.h1
 refine⟨k,es.length,H',g1,e1,g5 2 (by omega),?_⟩
 have es1:aQ ro.c (aUx u) [AV.ms k es.length 0 es.length]=(upR u ro a' (.ms k es.length 0 es.length)).c:=by
  cases u<;>simp only[upR,RA.c,ho.2]<;>rfl
 rw[es1,<-Xz]
 have h3:=d.h3
 have hn:∀q,3<=q->(H'.set 1 (dI.blk 4 ((w.set j (upR u ro a' (.ms k es.length 0 es.length))).map RA.c)))[q]?=H'[q]?:=λq hq=>Zv (by omega)
 refine⟨by rw[Zv (by decide),g5 0 (by omega)];exact d.h0,Z3 (by omega),by simp;omega,?_⟩
 have hC:iB kd (H'.set 1 (.blk 4 ((w.set j (upR u ro a' (.ms k es.length 0 es.length))).map RA.c))) (.ms k es.length 0 es.length) (l++[e]):=.inr ⟨k,es,rfl,g2,by rw[hn k g2];exact g3,g4⟩
 refine d.i.upd (u:=u) hj g2 g5 g6 (λq hq=>Zv (Ne.symm hq)) (by cases u<;>exact⟨rfl,ho.1⟩) ?_ ?_ (by cases u<;>rfl) (by cases u<;>rfl)
 .rcases hx with⟨rfl,h⟩ | ⟨rfl,h⟩
  .exact .inl (h _ _ hC)
  .exact .inr ⟨rfl,h,rfl⟩
 .rcases hy with⟨rfl,h⟩ | ⟨rfl,h⟩
  .exact .inl (h _ _ hC)
  .exact .inr ⟨rfl,h,rfl⟩
include qm in
theorem aQ2{n N:Nat}(cs:List (List Int))(qr:List (List AV))(qq:Ql 12 cs qr)(hb:cs.length<=200000): ∀(todo:List (List Int)) (k i:Nat) (tm:List AV) (H:aW) (w:List RA) (r:List dO),cs.drop i=todo->todo.length<k->i<=cs.length->
 DA xn xa xf w H->H[2]?=some (.blk 1 qr)->(∀(j:Nat) (s:RA),w[j]?=some s->s.a.inner.length+s.a.alone.length<=i)->At 110 ((43,.ms 2 qr.length 0 qr.length)::(44,iv (qr.length:Nat))::(45,iv i)::dB xm w) tm->dv2 n m todo (w.map RA.a)=some r->
 WL PP (fH PP T n) n 0 N (bl 0x38000000008c 46) false aSw k ⟨tm,H⟩ λx s=>x=.exit 2/\∃w',w'.map RA.a=r/\DA xn xa xf w' s.heap/\(∀(j:Nat) (s:RA),w'[j]?=some s->s.a.inner.length+s.a.alone.length<=cs.length)/\At 110 (dB xm w') s.tmps
 | todo,0,i,tm,H,w,r,_,h,_,_,_,_,_,_=>by omega
 | todo,k+1,i,tm,H,w,r,hd,hk,hi0,d,h2,hs,ha,h=>by
  have hql:qr.length=cs.length:=qq.len
  apply WL.step
  show WC PP (fH PP T n) n 0 aSw ⟨cU (bl 0x38000000008c 46) tm,H⟩ _
  replace ha:At 110 ((43,.ms 2 qr.length 0 qr.length)::(44,iv (qr.length:Nat))::(45,iv i)::dB xm w) (cU (bl 0x38000000008c 46) tm):=
   .cons (ha.live _ rfl rfl) (.cons (ha.live _ rfl rfl) (.cons (ha.live _ rfl rfl) (.cons (ha.live _ rfl rfl) (.cons (ha.live _ rfl rfl) (.cons (ha.live _ rfl rfl) (ha.mask _))))))
  generalize cU (bl 0x38000000008c 46) tm=tm at ha |-
  refine WC.seq (WC.reg (AO.op ha (Ng (ha.get rfl) (ha.get rfl) rfl) λtm ha=>AO.nil ha (WC.seq ?_)))
  cases todo with
  | nil=>
   have hi:cs.length<=i:=by
    have:=congrArg List.length hd
    rw[ZV,Z1] at this;omega
   cases h
   refine WC.condF (ha.get rfl) (YI (by omega)) (WC.exit ⟨rfl,w,rfl,d,λj s hj=>ZB (hs j s hj) hi0,.cons (ha.get rfl) (.cons (ha.get rfl) (.cons (ha.get rfl) ⟨ha.ln,λ_ _ h=>by cases h⟩))⟩)
  | cons c todo=>
   obtain⟨g1,g2,g3⟩:=Ts hd
   simp only[Yc] at hk
   simp only[dv2] at h
   obtain⟨t,e1,h⟩:=bG h
   obtain⟨a,e2,h⟩:=bG h
   obtain⟨ix,e3,h⟩:=bG h
   obtain⟨ra,e4,h⟩:=bG h
   refine WC.condT (ha.get rfl) (Yj (by omega)) (WC.skip (WC.seq (WC.block (WC.seq ?_))))
   obtain⟨row,hrow,q1⟩:=qq.get g1
   obtain⟨x,rfl,qx⟩:∃x,row=[x]/\Qp (.sl 1 c) x:=by
    match row,q1 with
    | [x],h=>exact⟨x,rfl,h.1⟩
   refine WC.reg (AO.op ha (aEP (ha.get rfl) (ha.get rfl) h2 rfl (Wc i) (by simp;omega)) λtm ha=>AO.op ha (Ry (v:=x) (e:=[x]) (ha.get rfl) h2 rfl (by simpa using hrow) (Zf 1) rfl) λtm ha=>AO.mov ha rfl λtm ha=>AO.nil ha (WC.seq (WC.reg ?_)))
   obtain⟨r1,q1,e51⟩:=aI6 (P:=PP) (cf:=fH PP T n) (fl:=0) (tm:=[x,iv 0]) (x:=.tmp 0) (i:=.tmp 1) (H:=H) (s:=1) qx.w rfl rfl e1 rfl
   obtain rfl:=aOP q1
   have e51:∀{tm:List AV} {y:bB},aG tm y=x->aL PP (fH PP T n) 0 (.idxAddr 1 y (.lit z0)) tm H=some (.rptr [iv t],H):=λ{tm y} hy=>by
    rw[<-e51];simp only[aL,hy];rfl
   have e58:=λ(tm:List AV)=>aSu (H:=H) (n:=n) (tm:=[xm,iv (oB t (wr (0-t)))]) qm (x:=.tmp 0) (y:=.tmp 1) rfl rfl
   obtain⟨b,e58,qb⟩:=e58 tm
   have e58:∀{tm:List AV} {y z:bB},aG tm y=xm->aG tm z=iv (oB t (wr (0-t)))->aL PP (fH PP T n) 0 (.lookup 3 (.lit bS) y z false) tm H=some (b,H):=λ{tm y z} hy hz=>by
    rw[<-e58];simp only[aL,hy,hz];rfl
   obtain⟨r2,q2,e62⟩:=aI6 (P:=PP) (cf:=fH PP T n) (fl:=0) (tm:=[b,iv 0]) (x:=.tmp 0) (i:=.tmp 1) (H:=H) (s:=2) qb.w rfl rfl e2 rfl
   obtain rfl:=aRz q2
   have e62:∀{tm:List AV} {y:bB},aG tm y=b->aL PP (fH PP T n) 0 (.idxAddr 2 y (.lit z0)) tm H=some (.rptr [iv a.X,iv a.Y],H):=λ{tm y} hy=>by
    rw[<-e62];simp only[aL,hy];rfl
   refine AO.mov ha rfl λtm ha=>AO.mov ha rfl λtm ha=>AO.op ha (e51 (ha.get rfl)) λtm ha=>AO.op ha (aM0 (ha.get rfl)) λtm ha=>AO.mov ha rfl λtm ha=>AO.op ha (e51 (ha.get rfl)) λtm ha=>AO.op ha (aM0 (ha.get rfl)) λtm ha=>AO.op ha (aUN (ha.get rfl)) λtm ha=>AO.op ha (aUO (ha.get rfl) (ha.get rfl)) λtm ha=>AO.op ha (e58 (ha.get rfl) (ha.get rfl)) λtm ha=>AO.mov ha rfl λtm ha=>AO.nil ha (WC.seq (WC.reg ?_))
   refine AO.mov ha rfl λtm ha=>AO.mov ha rfl λtm ha=>AO.mov ha rfl λtm ha=>AO.op ha (e62 (ha.get rfl)) λtm ha=>AO.op ha (aQz (n:=2) (ha.get rfl) rfl) λtm ha=>AO.op ha (aM1 qm d (ha.get rfl) (ha.get rfl) (ha.get rfl) e3) λtm ha=>AO.mov ha rfl λtm ha=>AO.nil ha (WC.reg ?_)
   obtain⟨f1,f2,f3⟩:=qD e4
   obtain⟨ro,f4,rfl⟩:∃ro,w[ix.toNat]?=some ro/\ro.a=ra:=by
    rw[Zk,Zq] at f2;exact f2
   have hlt:ix.toNat<w.length:=(Ze.1 f4).1
   have hbo:=hs _ _ f4
   have f5:(w.map RA.c)[ix.toNat]?=some ro.c:=by rw[Zk,f4];rfl
   obtain⟨kk,z,H',p1,p2,p3,p4⟩:=aM5 (u:=false) (bytes:=24) (a':=⟨ro.a.twice,ro.a.outer,ro.a.inner++[c],ro.a.alone⟩) (kd:=12) (l:=ro.a.inner) (e:=c) (row:=[Fk x]) d f4 ⟨uD.c (c:=.sl 1) (x:=c) qx,trivial⟩ rfl (by decide) (by omega) (d.i.cx _ _ f4) ⟨rfl,rfl⟩ (.inl ⟨rfl,λ_ _ h=>h⟩) (.inr ⟨rfl,rfl⟩)
   refine AO.mov ha rfl λtm ha=>AO.mov ha rfl λtm ha=>AO.mov ha rfl λtm ha=>AO.mov ha rfl λtm ha=>AO.op ha (aEP (ha.get rfl) (ha.get rfl) d.h1 (by simp) f1 hlt) λtm ha=>AO.op ha (aEQ (ha.get rfl)) λtm ha=>AO.op ha (Ry (v:=ro.x) (ha.get rfl) d.h1 (by simp) f5 (ro.c_le (by decide)) rfl) λtm ha=>AO.mov ha rfl λtm ha=>AO.op ha (aQw qx (ha.get rfl)) λtm ha=>AO.op ha (aM3 (ha.get rfl) (by rw[ha.get (k:=73) rfl];rfl) p1) λtm ha=>
    AO.op ha (aEP (ha.get rfl) (ha.get rfl) p2 (by simp) f1 hlt) λtm ha=>AO.op ha (aEQ (ha.get rfl)) λtm ha=>AO.sto ha (aUL (ha.get rfl) (ha.get rfl) p2 (by simp) f5 (ro.c_le (by decide)) (by decide)) (AO.nil ha (WC.reg ?_))
   refine AO.op ha (Ng (ha.get rfl) rfl rfl) λtm ha=>AO.mov ha rfl λtm ha=>AO.nil ha ?_
   refine aQ2 cs qr qq hb todo k (i+1) _ _ _ r g2 (by omega) (by omega) p4 (by rw[Zv (by decide),p3];exact h2) ?_ ?_ (by rw[Xz];exact h)
   .intro j s hj
    by_cases e:ix.toNat=j
    .subst e
     rw[Z3 hlt] at hj;cases hj
     simp only[upR,Zh,Yd];omega
    .rw[Zv e] at hj
     exact Xl (hs j s hj)
   .exact .cons (ha.get rfl) (.cons (ha.get rfl) (.cons (by rw[<-aKu (by omega)];exact ha.get rfl) (.cons (ha.get rfl) (.cons (ha.get rfl) (.cons (by rw[Yr];exact ha.get rfl) ⟨ha.ln,λ_ _ h=>by cases h⟩)))))
end
section
variable {p:aM}{m:List (Int×List Aaa)}{xn xa xf xm:AV}{w:List RA}{tm:List AV}{H:aW}
variable (qn:Qp (.vw 18 p.Nodes) xn)(qa:Qp (.vw 20 p.Arcs) xa)(qf:Qp (.vw 1 p.Faces) xf)(qm:Qp (.rmp 1 14 m) xm)
include qn qa qf in
theorem aM2{n:Nat}{x y:bB}{c t:Int}(e:kS n p c=some t)(hx:aG tm x=.agg [xn,xa,xf])(hy:aG tm y=iv c): aL PP (fH PP T n) 0 (.callB 113 [x,y]) tm H=some (iv t,H):=by
 obtain⟨A,r,h1,h2⟩:=M1 (a:=.undef) aGF (n:=n) (p:=(p,c)) (r:=t) e (λr=>⟨r,rfl⟩) (aw:=[cL H (.agg [xn,xa,xf]),iv c])
  ⟨Qh.mkA ⟨.p _ _ (R0 qn),.p _ _ (R0 qa),.p _ _ (R0 qf),trivial⟩,.l _,trivial⟩
 have e2:cL H (iv c)=iv c:=rfl
 simp only[aL,ZE,Yn,hx,hy,e2,h1]
 rw[h2];rfl
theorem aRL{a:Aab}{e:List AV}(q:Qr (jX 18 a) e): e=[iv a.ID,iv a.At.X,iv a.At.Y]:=by
 match e,q with
 | [x,y,z],h=>obtain⟨h1,h2,h3,_⟩:=h;cases h1;cases h2;cases h3;rfl
theorem DA.more(d:DA xn xa xf w H)(o:dI): DA xn xa xf w (H++[o]):=by
 have g:∀k,3<=k->k<H.length->(H++[o])[k]?=H[k]?:=λk _ h=>Zo h
 refine⟨hold d.h0,hold d.h1,by simp;have:=d.h3;omega,⟨d.i.co,λi r hr=>(d.i.cx i r hr).mono λk hk=>?_,λi r hr=>(d.i.cy i r hr).mono λk hk=>?_,d.i.ne⟩⟩
 .obtain⟨h3,b,hb⟩:=(d.i.cx i r hr).id hk
  exact g k h3 (Ze.1 hb).1
 .obtain⟨h3,b,hb⟩:=(d.i.cy i r hr).id hk
  exact g k h3 (Ze.1 hb).1
include qn qa qf qm in
theorem aM6{n N:Nat}(hb:p.Nodes.length<=9000): ∀(todo:List Aab) (k i:Nat) (tm:List AV) (H:aW) (w:List RA) (r:List dO),p.Nodes.drop i=todo->todo.length<k->i<=p.Nodes.length->
 DA xn xa xf w H->(∀(j:Nat) (s:RA),w[j]?=some s->s.a.inner.length+s.a.alone.length<=190000+i)->At 110 ((79,xn)::(80,iv (p.Nodes.length:Nat))::(81,iv i)::dB xm w) tm->dv3 n p m todo (w.map RA.a)=some r->
 WL PP (fH PP T n) n 0 N (bl 0x38000000000000000008c 82) false aSv k ⟨tm,H⟩ λx s=>x=.exit 4/\∃w',w'.map RA.a=r/\DA xn xa xf w' s.heap/\At 110 (dB xm w') s.tmps
 | todo,0,i,tm,H,w,r,_,h,_,_,_,_,_=>by omega
 | todo,k+1,i,tm,H,w,r,hd,hk,hi0,d,hs,ha,h=>by
  apply WL.step
  show WC PP (fH PP T n) n 0 aSv ⟨cU (bl 0x38000000000000000008c 82) tm,H⟩ _
  replace ha:At 110 ((79,xn)::(80,iv (p.Nodes.length:Nat))::(81,iv i)::dB xm w) (cU (bl 0x38000000000000000008c 82) tm):=
   .cons (ha.live _ rfl rfl) (.cons (ha.live _ rfl rfl) (.cons (ha.live _ rfl rfl) (.cons (ha.live _ rfl rfl) (.cons (ha.live _ rfl rfl) (.cons (ha.live _ rfl rfl) (ha.mask _))))))
  generalize cU (bl 0x38000000000000000008c 82) tm=tm at ha |-
  refine WC.seq (WC.reg (AO.op ha (Ng (ha.get rfl) (ha.get rfl) rfl) λtm ha=>AO.nil ha (WC.seq ?_)))
  cases todo with
  | nil=>
   have hi:p.Nodes.length<=i:=by
    have:=congrArg List.length hd
    rw[ZV,Z1] at this;omega
   cases h
   exact WC.condF (ha.get rfl) (YI (by omega)) (WC.exit ⟨rfl,w,rfl,d,.cons (ha.get rfl) (.cons (ha.get rfl) (.cons (ha.get rfl) ⟨ha.ln,λ_ _ h=>by cases h⟩))⟩)
  | cons c todo=>
   obtain⟨g1,g2,g3⟩:=Ts hd
   simp only[Yc] at hk
   simp only[dv3] at h
   obtain⟨t,e1,h⟩:=bG h
   refine WC.condT (ha.get rfl) (Yj (by omega)) (WC.skip (WC.seq (WC.block (WC.seq ?_))))
   obtain⟨row,q1,e83⟩:=aI6 (P:=PP) (cf:=fH PP T n) (fl:=0) (H:=H) (s:=3) qn (ha.get (k:=79) rfl) (ha.get (k:=81) rfl) (aMj g1) rfl
   obtain rfl:=aRL q1
   have d:=d.more (.blk 3 [[iv c.ID,iv c.At.X,iv c.At.Y]])
   have hH:((H++[dI.blk 3 [[iv 0,iv 0,iv 0]]]).set H.length (.blk 3 [[iv c.ID,iv c.At.X,iv c.At.Y]]))=H++[.blk 3 [[iv c.ID,iv c.At.X,iv c.At.Y]]]:=by
    rw[List.set_append_right _ _ (Zf _),XR];rfl
   have e17:∀{tm:List AV},aL PP (fH PP T n) 0 (.alloc [z0,z0,z0]) tm H=some (.ptr H.length 1 0 0,H++[.blk 3 [[iv 0,iv 0,iv 0]]]):=rfl
   have est:∀{tm:List AV} {x y:bB},aG tm x=.ptr H.length 1 0 0->aG tm y=.agg [iv c.ID,iv c.At.X,iv c.At.Y]->aL PP (fH PP T n) 0 (.store 3 x y) tm (H++[.blk 3 [[iv 0,iv 0,iv 0]]])=some (.lit bQ,H++[.blk 3 [[iv c.ID,iv c.At.X,iv c.At.Y]]]):=λ{tm x y} hx hy=>by
    rw[<-hH];simp only[aL,hx,hy,cellsOf,wY,aSf];rfl
   refine WC.reg (AO.op ha e83 λtm ha=>AO.op ha (aQz (n:=3) (ha.get rfl) rfl) λtm ha=>AO.op ha e17 λtm ha=>AO.sto ha (est (ha.get rfl) (ha.get rfl)) (AO.nil ha (WC.seq (WC.reg ?_))))
   have hn:=aSf H (.blk 3 [[iv c.ID,iv c.At.X,iv c.At.Y]])
   generalize H++[.blk 3 [[iv c.ID,iv c.At.X,iv c.At.Y]]]=H2 at d hn |-
   refine AO.op ha (Ry (ha.get rfl) d.h0 rfl rfl (Zf 3) rfl) λtm ha=>AO.op ha (aEQ (ha.get rfl)) λtm ha=>AO.op ha (Ry (v:=iv c.ID) (ha.get rfl) hn rfl rfl (Zj rfl) rfl) λtm ha=>AO.op ha (aM2 qn qa qf e1 (ha.get rfl) (ha.get rfl)) λtm ha=>AO.op ha (Ng (ha.get rfl) rfl rfl) λtm ha=>AO.nil ha ?_
   cases ht:(t==0) with
   | false=>
    rw[ht] at h
    refine WC.condF (ha.get rfl) ht (WC.skip (WC.reg (AO.op ha (Ng (ha.get rfl) rfl rfl) λtm ha=>AO.mov ha rfl λtm ha=>AO.nil ha ?_)))
    exact aM6 hb todo k (i+1) _ _ w r g2 (by omega) (by omega) d (λj s hj=>Xl (hs j s hj)) (.cons (ha.get rfl) (.cons (ha.get rfl) (.cons (by rw[<-aKu (by omega)];exact ha.get rfl) (.cons (ha.get rfl) (.cons (ha.get rfl) (.cons (ha.get rfl) ⟨ha.ln,λ_ _ h=>by cases h⟩)))))) h
   | true=>
    rw[ht] at h
    obtain⟨ix,e3,h⟩:=bG h
    obtain⟨ra,e4,h⟩:=bG h
    refine WC.condT (ha.get rfl) ht (WC.seq (WC.reg ?_))
    refine AO.mov ha rfl λtm ha=>AO.mov ha rfl λtm ha=>AO.op ha (aEQ (ha.get rfl)) λtm ha=>AO.op ha (Ry (v:=.agg [iv c.At.X,iv c.At.Y]) (ha.get rfl) hn rfl rfl (Zj rfl) rfl) λtm ha=>AO.op ha (aM1 qm d (ha.get rfl) (ha.get rfl) (ha.get rfl) e3) λtm ha=>AO.mov ha rfl λtm ha=>AO.nil ha (WC.reg ?_)
    obtain⟨f1,f2,f3⟩:=qD e4
    obtain⟨ro,f4,rfl⟩:∃ro,w[ix.toNat]?=some ro/\ro.a=ra:=by
     rw[Zk,Zq] at f2;exact f2
    have hlt:ix.toNat<w.length:=(Ze.1 f4).1
    have hbo:=hs _ _ f4
    have f5:(w.map RA.c)[ix.toNat]?=some ro.c:=by rw[Zk,f4];rfl
    obtain⟨kk,z,H',p1,p2,p3,p4⟩:=aM5 (u:=true) (bytes:=8) (a':=⟨ro.a.twice,ro.a.outer,ro.a.inner,ro.a.alone++[c.ID]⟩) (kd:=1) (l:=ro.a.alone) (e:=c.ID) (row:=[iv c.ID]) d f4 ⟨.lit _,trivial⟩ rfl (by decide) (by omega) (d.i.cy _ _ f4) ⟨rfl,rfl⟩ (.inr ⟨rfl,rfl⟩) (.inl ⟨rfl,λ_ _ h=>h⟩)
    refine AO.mov ha rfl λtm ha=>AO.mov ha rfl λtm ha=>AO.mov ha rfl λtm ha=>AO.mov ha rfl λtm ha=>AO.op ha (aEP (ha.get rfl) (ha.get rfl) d.h1 (by simp) f1 hlt) λtm ha=>AO.op ha (aEQ (ha.get rfl)) λtm ha=>AO.op ha (Ry (v:=ro.y) (ha.get rfl) d.h1 (by simp) f5 (ro.c_le (by decide)) rfl) λtm ha=>AO.op ha (aEQ (ha.get rfl)) λtm ha=>AO.op ha (Ry (v:=iv c.ID) (ha.get rfl) hn rfl rfl (Zj rfl) rfl) λtm ha=>AO.op (v:=.sl true [[iv c.ID]]) (H':=H2) ha (by
     simp only[aL,ZE,Yn,ha.get (k:=103) rfl];rfl) λtm ha=>AO.op ha (aM3 (ha.get rfl) (by rw[ha.get (k:=104) rfl];rfl) p1) λtm ha=>
     AO.op ha (aEP (ha.get rfl) (ha.get rfl) p2 (by simp) f1 hlt) λtm ha=>AO.op ha (aEQ (ha.get rfl)) λtm ha=>AO.sto ha (aUL (ha.get rfl) (ha.get rfl) p2 (by simp) f5 (ro.c_le (by decide)) (by decide)) (AO.nil ha (WC.reg ?_))
    refine AO.op ha (Ng (ha.get rfl) rfl rfl) λtm ha=>AO.mov ha rfl λtm ha=>AO.nil ha ?_
    refine aM6 hb todo k (i+1) _ _ _ r g2 (by omega) (by omega) p4 ?_ ?_ (by rw[Xz];exact h)
    .intro j s hj
     by_cases e:ix.toNat=j
     .subst e
      rw[Z3 hlt] at hj;cases hj
      simp only[upR,Zh,Yd];omega
     .rw[Zv e] at hj
      exact Xl (hs j s hj)
    .exact .cons (ha.get rfl) (.cons (ha.get rfl) (.cons (by rw[<-aKu (by omega)];exact ha.get rfl) (.cons (ha.get rfl) (.cons (ha.get rfl) (.cons (by rw[Yr];exact ha.get rfl) ⟨ha.ln,λ_ _ h=>by cases h⟩)))))
end
theorem aJM(n:Nat)(p:aM)(cs:List (List Int))(m:List (Int×List Aaa))(r:List dO)(h:jK n p cs m=some r){xn xa xf xc xm:AV}(qn:Qp (.vw 18 p.Nodes) xn)(qa:Qp (.vw 20 p.Arcs) xa)(qf:Qp (.vw 1 p.Faces) xf)(qc:Qp (.vw 12 cs) xc)(qm:Qp (.rmp 1 14 m) xm):
 ∃w H,fH PP T n 0 129 [.agg [xn,xa,xf],xc,xm] []=some (.ms 1 w.length 0 w.length,H)/\w.map RA.a=r/\DA xn xa xf w H:=by
 cases n with
 | zero=>cases h
 | succ n=>
  rw[jK] at h
  obtain⟨_,eg,h⟩:=bG h
  obtain⟨b1,b2,b3,b4⟩:=Zl (zC eg)
  obtain⟨lq,e1,h⟩:=bG h
  obtain⟨l2,e2,h⟩:=bG h
  have key:WC PP (fH PP T n) n 0 (Q5 T 129).body ⟨[.agg [xn,xa,xf],xc,xm]++List.replicate 107 (.lit bQ),[]⟩ λx s=>x=.ret/\∃w,w.map RA.a=r/\DA xn xa xf w s.heap/\aG s.tmps (.tmp 6)=.ms 1 w.length 0 w.length:=by
   rw[aPe]
   have ha:At 110 [(0,.agg [xn,xa,xf]),(1,xc),(2,xm)] ([.agg [xn,xa,xf],xc,xm]++List.replicate 107 (.lit bQ)):=.cons rfl (.cons rfl (.cons rfl ⟨rfl,λ_ _ h=>by cases h⟩))
   generalize [AV.agg [xn,xa,xf],xc,xm]++List.replicate 107 (.lit bQ)=tm at ha
   refine WC.seq (WC.reg (AO.op (v:=.ptr 0 1 0 0) (H':=[.blk 3 [[xn,xa,xf]]]) ha (by simp only[aL,ha.get (k:=0) rfl];rfl) λtm ha=>AO.op (v:=.sl false []) (H':=[.blk 3 [[xn,xa,xf]]]) ha rfl λtm ha=>AO.nil ha (WC.seq (WC.reg ?_))))
   refine AO.op (v:=.agg [iv 0,.lit bS,.lit bS,.lit bS]) (H':=[.blk 3 [[xn,xa,xf]]]) ha rfl λtm ha=>AO.op (v:=.ms 1 1 0 1) (H':=[.blk 3 [[xn,xa,xf]],.blk 4 [[iv 0,.lit bS,.lit bS,.lit bS]]]) ha (by simp only[aL,ZE,Yn,ha.get (k:=19) rfl];rfl) λtm ha=>AO.mov ha rfl λtm ha=>AO.nil ha (WC.seq (WC.reg ?_))
   refine AO.op (v:=.ms 2 0 0 0) (H':=[.blk 3 [[xn,xa,xf]],.blk 4 [[iv 0,.lit bS,.lit bS,.lit bS]],.blk 1 []]) ha rfl λtm ha=>AO.nil ha (WC.seq (WC.seq (WC.reg ?_)))
   refine AO.mov ha rfl λtm ha=>AO.op ha (aQy qc (ha.get rfl)) λtm ha=>AO.op (v:=iv 0) ha rfl λtm ha=>AO.nil ha ?_
   have d0:DA xn xa xf [⟨⟨0,[],[],[]⟩,.lit bS,.lit bS,.lit bS⟩] [.blk 3 [[xn,xa,xf]],.blk 4 [[iv 0,.lit bS,.lit bS,.lit bS]],.blk 1 []]:=by
    have g:∀(i:Nat) (r:RA),[(⟨⟨0,[],[],[]⟩,.lit bS,.lit bS,.lit bS⟩:RA)][i]?=some r->r=⟨⟨0,[],[],[]⟩,.lit bS,.lit bS,.lit bS⟩:=λi r hr=>ZJ.1 (Zg hr)
    refine⟨rfl,rfl,Zf 3,⟨λi r hr=>?_,λi r hr=>?_,λi r hr=>?_,λi j r s u v k hr _ hk _=>?_⟩⟩
    .rw[g i r hr];exact Qp.mkS (.inl ⟨rfl,rfl⟩) trivial
    .rw[g i r hr];exact .inl ⟨rfl,rfl⟩
    .rw[g i r hr];exact .inl ⟨rfl,rfl⟩
    .rw[g i r hr] at hk;cases u<;>cases hk
   refine WC.block (WC.mask (WC.loop ((aM7 (xm:=xm) qn qa qf cs qc b3 cs n 0 tm _ _ [] [] lq rfl b1 (by simp;omega) (by simp;omega) d0 (λr hr=>by rw[ZJ.1 hr];exact⟨rfl,rfl⟩) rfl trivial (.cons (ha.get rfl) (.cons (ha.get rfl) (.cons (ha.get rfl) (.cons (ha.get rfl) (.cons (ha.get rfl) (.cons (ha.get rfl) (.cons (ha.get rfl) ⟨ha.ln,λ_ _ h=>by cases h⟩))))))) e1).imp ?_)))
   rintro x s ⟨rfl,w,qr,rw1,d1,hn,h2,ql,ha,hw,hq⟩
   show WC PP (fH PP T n) n 0 _ ⟨cU (bl 0x18c 9) s.tmps,s.heap⟩ _
   replace ha:At 110 ((8,.ms 2 qr.length 0 qr.length)::dB xm w) (cU (bl 0x18c 9) s.tmps):=.cons (ha.live _ rfl rfl) (.cons (ha.live _ rfl rfl) (.cons (ha.live _ rfl rfl) (.cons (ha.live _ rfl rfl) (ha.mask _))))
   generalize cU (bl 0x18c 9) s.tmps=tm at ha
   generalize s.heap=H at d1 h2
   refine WC.seq (WC.seq (WC.reg (AO.mov ha rfl λtm ha=>AO.op (v:=iv (qr.length:Nat)) (H':=H) ha (by simp only[aL,ha.get (k:=43) rfl]) λtm ha=>AO.op (v:=iv 0) ha rfl λtm ha=>AO.nil ha ?_)))
   have hql:qr.length=lq.2.length:=ql.len
   have hin:∀(j:Nat) (s:RA),w[j]?=some s->s.a.inner.length+s.a.alone.length<=0:=λj s hj=>by
    have hm:=hn s (Zg hj)
    have c1:s.a.inner=[]:=by
     rcases d1.i.cx j s hj with⟨_,h⟩ | ⟨k,es,h,_⟩
     .exact h
     .rw[hm.1] at h;cases h
    have c2:s.a.alone=[]:=by
     rcases d1.i.cy j s hj with⟨_,h⟩ | ⟨k,es,h,_⟩
     .exact h
     .rw[hm.2] at h;cases h
    rw[c1,c2];exact Zf _
   have hlq:lq.2.length<=cs.length:=by
    have:∀(cs:List (List Int)) (l:List dO) (q:List (List Int)) (r:List dO×List (List Int)),dv1 n p cs l q=some r->r.2.length<=q.length+cs.length:=by
     intro cs
     induction cs with
     | nil=>intro l q r h;cases h;exact Zf _
     | cons c cs ih=>
      intro l q r h
      simp only[dv1] at h
      obtain⟨t,_,h⟩:=bG h
      simp only[Yc]
      cases ht:decide (t > 0) with
      | true=>rw[ht] at h;have:=ih _ _ _ h;omega
      | false=>rw[ht] at h;have:=ih _ _ _ h;rw[Zh,Yd] at this;omega
    have:=this cs _ _ _ e1
    simp only[Z1] at this;omega
   refine WC.block (WC.mask (WC.loop ((aQ2 (xn:=xn) (xa:=xa) (xf:=xf) qm lq.2 qr ql (by omega) lq.2 n 0 tm _ w l2 rfl (by omega) (ZG _) d1 h2 hin (.cons (ha.get rfl) (.cons (ha.get rfl) (.cons (ha.get rfl) (.cons (ha.get rfl) (.cons (ha.get rfl) (.cons (ha.get rfl) ⟨ha.ln,λ_ _ h=>by cases h⟩)))))) (by rw[rw1];exact e2)).imp ?_)))
   rintro x s ⟨rfl,w2,rw2,d2,hs2,ha⟩
   show WC PP (fH PP T n) n 0 _ ⟨cU (bl 0x8c 8) s.tmps,s.heap⟩ _
   replace ha:At 110 (dB xm w2) (cU (bl 0x8c 8) s.tmps):=.cons (ha.live _ rfl rfl) (.cons (ha.live _ rfl rfl) (.cons (ha.live _ rfl rfl) (ha.mask _)))
   generalize cU (bl 0x8c 8) s.tmps=tm at ha
   generalize s.heap=H at d2
   refine WC.seq (WC.seq (WC.reg (AO.op ha (aEQ (ha.get rfl)) λtm ha=>AO.op ha (Ry (v:=xn) (ha.get rfl) d2.h0 rfl rfl (Zj rfl) rfl) λtm ha=>AO.op ha (aQy qn (ha.get rfl)) λtm ha=>AO.op (v:=iv 0) ha rfl λtm ha=>AO.nil ha ?_)))
   refine WC.block (WC.mask (WC.loop ((aM6 qn qa qf qm b4 p.Nodes n 0 tm _ w2 r rfl b2 (ZG _) d2 (λj s hj=>by have:=hs2 j s hj;omega) (.cons (ha.get rfl) (.cons (ha.get rfl) (.cons (ha.get rfl) (.cons (ha.get rfl) (.cons (ha.get rfl) (.cons (ha.get rfl) ⟨ha.ln,λ_ _ h=>by cases h⟩)))))) (by rw[rw2];exact h)).imp ?_)))
   rintro x s ⟨rfl,w3,rw3,d3,ha⟩
   show WC PP (fH PP T n) n 0 _ ⟨cU (bl 0x80 8) s.tmps,s.heap⟩ _
   replace ha:At 110 [(7,.ms 1 w3.length 0 w3.length)] (cU (bl 0x80 8) s.tmps):=.cons (ha.live _ rfl rfl) (ha.mask _)
   generalize cU (bl 0x80 8) s.tmps=tm at ha
   exact WC.seq (WC.reg (AO.mov ha rfl λtm ha=>AO.mov ha rfl λtm ha=>AO.nil ha (WC.ret ⟨rfl,w3,rw3,d3,ha.get rfl⟩)))
  obtain⟨x,s,k1,rfl,w,rfl,d,k2⟩:=key
  refine⟨w,s.heap,?_,rfl,d⟩
  rw[I8 (Q5 T 129) (by kernel_rfl)]
  have e:(Q5 T 129).nt=110:=by kernel_rfl
  have e2:(Q5 T 129).rets=[.tmp 6]:=by kernel_rfl
  rw[e]
  show aG6 _ (eU PP (fH PP T n) n 0 (Q5 T 129).body ⟨[.agg [xn,xa,xf],xc,xm]++List.replicate 107 (.lit bQ),[]⟩)=_
  rw[k1]
  simp only[aG6,e2,lP,Ro,k2,kB]
theorem aGD: FOK PP T 129 ⟨[.w 25,.w 34,.w 35],[39],true,λn p=>jK n p.1 p.2.1 p.2.2⟩:=by
 rintro n ⟨p,cs,m⟩ r h aw q
 match aw,q with
 | [pl,xc,xm],q=>
 obtain⟨q1,q2,q3,_⟩:=q
 obtain⟨b,rfl,q4⟩:=Qh.inA (cs:=[.vw 18 p.Nodes,.vw 20 p.Arcs,.vw 1 p.Faces]) q1
 clear q1
 match b,q4 with
 | [xn,xa,xf],q4=>
 obtain⟨qn,qa,qf,_⟩:=q4
 replace qn:=Qh.pu (v:=.vw 18 p.Nodes) qn trivial
 replace qa:=Qh.pu (v:=.vw 20 p.Arcs) qa trivial
 replace qf:=Qh.pu (v:=.vw 1 p.Faces) qf trivial
 have qc:Qp (.vw 12 cs) xc:=Qh.pu (v:=.vw 12 cs) q2 trivial
 have qm:Qp (.rmp 1 14 m) xm:=Qh.pu (v:=.rmp 1 14 m) q3 trivial
 obtain⟨w,H,k1,rfl,d⟩:=aJM n p cs m r h qn qa qf qc qm
 have hw:(w.map RA.c).length=w.length:=ZO _
 refine⟨[.ms 1 w.length 0 w.length],H,k1,?_,?_,?_⟩
 .intro H1
  refine⟨.p _ _ ?_,trivial⟩
  show Qp (.sl 38 (w.map RA.a)) (eE H 0 6 (.ms 1 w.length 0 w.length))
  simp only[eE,ZG,Zz,rd,d.h1,hw,YD]
  rw[ZW (by simp)]
  exact Qp.mkS (.inr ⟨_,rfl⟩) (d.i.rows (d:=4) λk _=>rfl)
 .intro a ha l e
  rw[ZJ.1 ha] at e;cases e
 .intro _ k y us hv
  cases hv
  refine⟨_,[],_,rfl,?_,d.i.rows (d:=5) (H':=H.set 1 (.blk 4 (w.map RA.c++[List.replicate 4 .undef]))) λk hk=>Zv (by omega)⟩
  simp only[SS,d.h1,hw,Y5,Xr]
  rfl
def UW: Kn:=⟨129,_,aGD⟩
end
end
section
variable {R:Type}(n:Nat)
noncomputable section
abbrev C92:=UW::C91
def Fn: Nat->aM->Int->Option Int
 | 0,_,_=>none
 | n+1,a,b=>bnd (Jq n a b) λc=>cnd c.2 (cd (b > 0) (some c.1.Left)<|some c.1.Right)<|some 0
def aDl: Kn:=bH 154 0x315287 C92 [] [] Fn
abbrev C93:=aDl::C92
def fX: Nat->dO->Option (List<|List Int)
 | 0,_=>none
 | n+1,a=>bnd (app [a.outer] a.inner) λb=>some b
def Pc: Kn:=bH 155 0x514f02b2af518ef47ba84da00a C93 [] [] fX
abbrev C94:=Pc::C93
def Bv(n:Nat): ((List<|Int×Bool)×Int)->((Bool->Option R)×Unit)->Unit->Option R:=λ(a,b) (c,_) _=>cnd (b==0) (c true)<|cnd ((Option.getD (cE a b) false)) (c true)<|c false
def US:=fB Bv
def IG: Lc 130 0 1:=bO 0x1c5d72f670c072634f8e9cc43a508a4d64c6ab055ca3527af4b702f0d99c839119f0d061e C94 [] [] @Bv
def pN: (aM×List Int×Int×List Int×Int)->(Int->Option R)->((Unit->Option R)×(Unit->Option R)×Unit)->Int->Option R:=λ(a,b,c,d,f) g (h,i,_) j=>cd (j<f) (bnd (idx d j) λl=>bnd (Fn n a l) λm=>cnd (m != c) (h ())<|g<|wr<|j+1)<|i ()
def UT:=qB pN
def IH: Lc 130 0 3:=bL 0x509ec6850384075d924db0e760763599eef134587c9d393174a035b26c74fa470cb6ca43e70d57faeb824bf98934a26ed6987 C94 [] [] @pN
def pO: (aM×List Int×Int×(List<|List Int)×Int)->(Int->Option R)->((Unit->Option R)×(Unit->Option R)×Unit)->Int->Option R:=λ(a,b,c,d,f) g (h,i,_) j=>cd (j<f) (bnd (idx d j) λl=>bnd2 (UT n (a,b,c,l,(ln l)) 0) (λ_=>h ()) λm=>bnd (some m) λ_=>g<|wr<|j+1)<|i ()
def Mc:=qB pO
def II: Lc 130 0 2:=bL 0x3faa79a4aae88d8a4d5aab3e8080f56394c172b1bec15d4829587045f47f51969797d1047d5cd41d2544b25b58 C94 [⟨0,[cs IH]⟩] [] @pO
def pP: (aM×List dO×Int)->((List Int×(List<|Int×Bool)×Int)->Option R)->(((List Int×(List<|Int×Bool)×dO)->Option R)×((List Int×(List<|Int×Bool))->Option R)×Unit)->(List Int×(List<|Int×Bool)×Int)->Option R:=λ(a,b,c) d (f,g,_) (h,i,j)=>cd (j<c) (bnd (idx b j) λl=>cd (j > 0) (bnd (idx l.outer 0) λm=>bnd (Fn n a m) λo=>bnd (US n (i,o)) λr=>cnd r (f (h,i,l))<|bnd (fX n l) λs=>bnd2 (Mc n (a,h,o,s,(ln s)) 0) (λ_=>f (h,(kW i o true),l)) λt=>bnd (some t) λ_=>bnd (app h [o]) λu=>d (u,(kW i o true),(wr<|j+1)))<|bnd (fX n l) λv=>bnd2 (Mc n (a,h,0,v,(ln v)) 0) (λ_=>f (h,i,l)) λw=>bnd (some w) λ_=>bnd (app h [0]) λx=>d (x,i,(wr<|j+1)))<|g (h,i)
def UU:=qB pP
def IJ: Lc 130 0 0:=bL 0x46557010e8519dac438025759c81b3fc59417e0f0419769a854778b165f0626d8bb4ed26337ee7fd98f1e5fd6df02122519c24a301c53072c515 C94 [⟨0,[cs IG]⟩,⟨1,[cs II]⟩] [] @pP
def Kk: Nat->aM->(List dO)->Option (List Int×Bool)
 | 0,_,_=>none
 | n+1,a,b=>bnd2 (UU n (a,b,(ln b)) ([],[],0)) (λ_=>some ([],false)) λc=>bnd (some c) λd=>cnd ((ln d.2)==(ln a.Faces)) (some (d.1,true))<|some (d.1,false)
def y5: Kn:=bH 130 0x7f75403e44fbcaa3ff515bbb0b936 C94 [⟨0,[IJ]⟩] [] Kk
abbrev C95:=y5::C94
def Bu: Nat->aM->Option (List dO×List Int×(List<|Int×List Aaa)×Int)
 | 0,_=>none
 | n+1,a=>bnd (Bm n a) λb=>cnd (b.2 != 0) (some ([],[],[],b.2))<|bnd (pM n a) λc=>bnd (jK n a b.1 c) λd=>bnd (Kk n a d) λf=>cnd f.2 (some (d,f.1,c,0))<|some ([],[],[],12)
def R6: Kn:=bH 106 0xc44ce7ba32f9ee9a6 C95 [] [] Bu
abbrev C96:=R6::C95
def Km: Nat->aM->Option Int
 | 0,_=>none
 | n+1,a=>bnd (Bu n a) λb=>some b.2.2.2
def y7: Kn:=bH 82 0x31542e C96 [] [] Km
abbrev C97:=y7::C96
def QM: Nat->aH->Option Bool
 | 0,_=>none
 | n+1,a=>cd ((ln a.Parts) > 64) (some true)<|some false
def EG: Kn:=bH 83 0x90e C97 [] [] QM
abbrev C98:=EG::C97
def jV(n:Nat): aH->((Bool->Option R)×Unit)->Unit->Option R:=λa (b,_) _=>cd (a.ID<1) (b true)<|cd (a.ID > 1073741824) (b true)<|cd (a.Class<1) (b true)<|cd (a.Class > 9) (b true)<|b false
def mK:=fB jV
def Nt: Lc 85 0 0:=bO 0x651855ded C98 [] [] @jV
def QL: Nat->aH->Option Bool
 | 0,_=>none
 | n+1,a=>bnd (mK n a) λb=>cnd b (some true)<|some false
def EF: Kn:=bH 85 0x90e C98 [⟨0,[Nt]⟩] [] QL
abbrev C99:=EF::C98
def QK: Nat->aH->Option Bool
 | 0,_=>none
 | n+1,a=>bnd (dM n a.Kind) λb=>cnd (b==0) (some true)<|some false
def EE: Kn:=bH 86 0x90e C99 [] [] QK
abbrev aTq:=EE::C99
def jU: aH->((Bool->Option R)×Unit)->Unit->Option R:=λa (b,_) _=>cd (a.Name=(⟨#[]⟩:ByteArray)) (b false)<|bnd (sN n a.Name) λc=>cnd (c != 0) (b true)<|b false
def mJ:=fB jU
def Ns: Lc 87 0 0:=bO 0x651855ded aTq [] [] @jU
def QJ: Nat->aH->Option Bool
 | 0,_=>none
 | n+1,a=>bnd (mJ n a) λb=>cnd b (some true)<|some false
def ED: Kn:=bH 87 0x90e aTq [⟨0,[Ns]⟩] [] QJ
abbrev aTp:=ED::aTq
def jT: aH->((Bool->Option R)×Unit)->Unit->Option R:=λa (b,_) _=>cnd ((ln a.Parts)==0) (b true)<|bnd (dM n a.Kind) λc=>cnd (c==1) (cd ((ln a.Parts) > 1) (b true)<|b false)<|b false
def mI:=fB jT
def Nr: Lc 88 0 0:=bO 0x651855ded aTp [] [] @jT
def QI: Nat->aH->Option Bool
 | 0,_=>none
 | n+1,a=>bnd (mI n a) λb=>cnd b (some true)<|some false
def EC: Kn:=bH 88 0x90e aTp [⟨0,[Nr]⟩] [] QI
abbrev aVU:=EC::aTp
def oY: Nat->(List Int)->Int->Option Bool
 | 0,_,_=>none
 | n+1,a,b=>bnd (dP n a b) λc=>cnd c (some true)<|some false
def aE0: Kn:=bH 120 0x2d8d42 aVU [] [] oY
abbrev aKl:=aE0::aVU
def kZ: (aM×aH×Int)->((Bool->Option R)×Unit)->Unit->Option R:=λ(a,b,c) (d,_) _=>bnd (dM n b.Kind) λf=>cnd (f==1) (bnd (jL n a c) λg=>cnd g.2 (d false)<|d true)<|cnd (f==2) (bnd (Pp n a c) λh=>cnd h.2 (d false)<|d true)<|cnd (f==3) (bnd (oY n a.Faces c) λi=>cnd i (d false)<|d true)<|d true
def zG:=uM kZ
def Rl: Ic:=cJ 131 2 3 0xd9749225a2eac2adc22e166 aKl [] [] @kZ
def gV: (aM×aH×List Int×Int)->(Int->Option R)->((Int->Option R)×(Unit->Option R)×Unit)->Int->Option R:=λ(a,b,c,d) f (g,h,_) i=>cd (i<d) (bnd (idx c i) λj=>bnd (zG n (a,b,j)) λl=>cnd l (g i)<|f<|wr<|i+1)<|h ()
def DZ:=qB gV
def Rk: Lc 126 0 0:=bL 0x1592cd1430bbcbb6935048eb4e0ba47414ac141b0107bbce4b aKl [] [Rl] @gV
def lA: (aM×aH×List Int)->((Int->Option R)×Unit)->Unit->Option R:=λ(a,b,c) (d,_) _=>bnd2 (DZ n (a,b,c,(ln c)) 0) (λf=>d f) λg=>bnd (some g) λ_=>d (-1)
def zH:=uM lA
def Rm: Ic:=cJ 126 0 2 0x373320a17ec6b56cce7fd6a9b0f25f71217 aKl [⟨0,[Rk]⟩] [] @lA
def lB: (aM×aH×List Int)->((Bool->Option R)×Unit)->Unit->Option R:=λ(a,b,c) (d,_) _=>bnd (zH n (a,b,c)) λf=>cd (f>=0) (d true)<|d false
def oE:=uM lB
def Rn: Ic:=cJ 105 0 2 0x5a0c1bb9ba48dbeba521f19e86b80ff2 aKl [] [Rm] @lB
def VT: Nat->aM->aH->Option Bool
 | 0,_,_=>none
 | n+1,a,b=>bnd (oE n (a,b,b.Parts)) λc=>cnd c (some true)<|some false
def KL: Kn:=bH 108 0x34d2b3dfe aKl [] [Rn] VT
abbrev gH:=KL::aKl
def zP(n:Nat): aK->((Unit->Option R)×Unit)->Unit->Option R:=λa (b,_) _=>b ()
def Hq:=uM zP
def EQ: Ic:=cJ 84 0 1 0x29274ccaa174a137009386fc8a96c3cfc88803 gH [] [] @zP
def zO(n:Nat): Unit->((((List<|Aac×Bool))->Option R)×Unit)->Unit->Option R:=λ_ (a,_) _=>a []
def Hp:=uM zO
def EO: Ic:=cJ 90 0 0 0x1166a935924f79b9d4be60b6802da89dcf09bb2c2758d1f gH [] [] @zO
def zJ: aH->((Unit->Option R)×(Int->Option R)×Unit)->Unit->Option R:=λa (b,c,_) _=>bnd (dM n a.Kind) λd=>cnd (d==2) (b ())<|cnd (d==3) (c a.Kind)<|c 0
def Hk:=pc2 zJ
def EH: Lc 109 0 0:=bO 0x112f0558c8e519740db6164f72f2dc34cbb552504f64c09d3d4a5 gH [] [] @zJ
def oG(n:Nat): (Int×List Int×Int)->(((List<|Aac×Bool)×Int)->Option R)->((((List<|Aac×Bool)×Int)->Option R)×(((List<|Aac×Bool))->Option R)×Unit)->((List<|Aac×Bool)×Int)->Option R:=λ(a,b,c) d (f,g,_) (h,i)=>cd (i<c) (bnd (idx b i) λj=>cnd ((Option.getD (cE h<|Aac.mk a j) false)) (f (h,j))<|d ((kW h (Aac.mk a j) true),(wr<|i+1)))<|g h
def QN:=qB oG
def EI: Lc 109 0 1:=bL 0x1f7d408c00f4e066987b4d083e0f47889be7d9e76e10f41d6c7b174f3fb5f08b0c2e50f69d7f2c99df21d631bf424 gH [] [] @oG
def zL: ((List<|Aac×Bool)×aH)->((((List<|Aac×Bool))->Option R)×(((List<|Aac×Bool)×Int×Int)->Option R)×Unit)->Unit->Option R:=λ(a,b) (c,d,_) _=>bnd2 (Hk n b) (λ_=>c a) λf=>bnd (some f) λg=>bnd2 (QN n (g,b.Parts,(ln b.Parts)) (a,0)) (λh=>d (h.1,g,h.2)) λi=>bnd (some i) λj=>c j
def Hm:=DS zL
def EL: Ic:=cJ 109 0 2 0x1149ede6aba7e1d4e397c01cef396027d60946c34747b3e77f839dddf4a2be724d6e9d gH [⟨0,[EH]⟩,⟨1,[EI]⟩] [] @zL
def oH: (List aH×Int)->(((List<|Aac×Bool)×Int)->Option R)->((((List<|Aac×Bool)×aH×Int×Int×Int)->Option R)×(((List<|Aac×Bool))->Option R)×Unit)->((List<|Aac×Bool)×Int)->Option R:=λ(a,b) c (d,f,_) (g,h)=>cd (h<b) (bnd (idx a h) λi=>bnd2 (Hm n (g,i)) (λj=>c (j,(wr<|h+1))) λl=>bnd (some l) λm=>d (m.1,i,m.2.1,m.2.2,h))<|f g
def QO:=qB oH
def EJ: Lc 110 0 0:=bL 0x8c63ae17fbae926fdf9a3ea80ffd804769007a6b4d47ea0705f5 gH [] [EL] @oH
def zM: ((List<|Aac×Bool)×List aH)->((((List<|Aac×Bool)×Int×Int×Int×ByteArray×List Int×Int×Int×Int)->Option R)×(((List<|Aac×Bool))->Option R)×Unit)->Unit->Option R:=λ(a,b) (c,d,_) _=>bnd2 (QO n (b,(ln b)) (a,0)) (λf=>c (f.1,f.2.1.ID,f.2.1.Kind,f.2.1.Class,f.2.1.Name,f.2.1.Parts,f.2.2.1,f.2.2.2.1,f.2.2.2.2)) λg=>bnd (some g) λh=>d h
def Hn:=DS zM
def EM: Ic:=cJ 110 0 2 0x17308fe47d0aac84a48bffe12297145e95a26c96140286d28c7027c9613fc0096df gH [⟨0,[EJ]⟩] [] @zM
def zN: ((List<|Aac×Bool)×List aH)->((((List<|Aac×Bool)×Int×Int×Int×ByteArray×List Int×Int×Int×Bool)->Option R)×(((List<|Aac×Bool))->Option R)×Unit)->Unit->Option R:=λ(a,b) (c,d,_) _=>bnd2 (Hn n (a,b)) (λf=>cd (f.2.2.2.2.2.2.2.2>=0) (c (f.1,f.2.1,f.2.2.1,f.2.2.2.1,f.2.2.2.2.1,f.2.2.2.2.2.1,f.2.2.2.2.2.2.1,f.2.2.2.2.2.2.2.1,true))<|c (f.1,f.2.1,f.2.2.1,f.2.2.2.1,f.2.2.2.2.1,f.2.2.2.2.2.1,f.2.2.2.2.2.2.1,f.2.2.2.2.2.2.2.1,false)) λg=>bnd (some g) λh=>d h
def Ho:=DS zN
def EN: Ic:=cJ 91 0 2 0x1731b13c23ac1e51125e99dc9d4d82add56d3d8845995f4d7a4812ac366b780e47e gH [] [EM] @zN
def AY: Ic:=cJ 131 10 3 0x78cd4e8076a5e0e229cce4076d387 gH [] [] @kZ
def Xv: Lc 126 0 0:=bL 0x26d6a4e44da789edac591f7255f92ebbb349f785c499 gH [] [AY] @gV
def AZ: Ic:=cJ 126 0 2 0x4a1575710ea2eb906cbc9d90d8e6c49e gH [⟨0,[Xv]⟩] [] @lA
def BA: Ic:=cJ 105 0 2 0x5a0a87132358c2f6c9f724b17fad0799 gH [] [AZ] @lB
def wO: (aM×aH)->((Bool->Option R)×Unit)->Unit->Option R:=λ(a,b) (c,_) _=>bnd (oE n (a,b,b.Parts)) λd=>cnd d (c true)<|c false
def Di:=uM wO
def BB: Ic:=cJ 108 0 2 0xa2125b10c5665b398ec98c4fea gH [] [BA] @wO
def wP: (aK×aH)->(((aM×Bool)->Option R)×Unit)->Unit->Option R:=λ(a,b) (c,_) _=>bnd (Di n (a.Plan,b)) λd=>cnd d (c (a.Plan,true))<|c (a.Plan,false)
def Dj:=uM wP
def BC: Ic:=cJ 89 0 2 0x255b896cffb20c3ba2abd4c25c8fadaf4b1baf gH [] [BB] @wP
def mR: (aK×List aH×Int)->(Int->Option R)->(((aH×aM×aH×Int)->Option R)×(Unit->Option R)×Unit)->Int->Option R:=λ(a,b,c) d (f,g,_) h=>cd (h<c) (bnd (idx b h) λi=>bnd (Dj n (a,i)) λj=>cnd j.2 (f (i,j.1,i,h))<|d<|wr<|h+1)<|g ()
def KT:=qB mR
def AA: Lc 110 0 0:=bL 0x42f0d7ef324ba9641f9e904e992b85d1db855ee22e89e42c3170cb04bb gH [] [BC] @mR
def wQ: (aK×List aH)->(((aH×aM×aH×Int)->Option R)×(Unit->Option R)×Unit)->Unit->Option R:=λ(a,b) (c,d,_) _=>bnd2 (KT n (a,b,(ln b)) 0) (λf=>c (f.1,f.2.1,f.2.2.1,f.2.2.2)) λg=>bnd (some g) λ_=>d ()
def Dk:=DS wQ
def BE: Ic:=cJ 110 0 2 0x29bd97f2d0a333fa209fa928dc1e5422fe22fb5f0815c7ca3ef3d4dc2e0fd gH [⟨0,[AA]⟩] [] @wQ
def zK: (aK×List aH)->(((aH×aM×aH×Bool)->Option R)×(Unit->Option R)×Unit)->Unit->Option R:=λ(a,b) (c,d,_) _=>bnd2 (Dk n (a,b)) (λf=>cd (f.2.2.2>=0) (c (f.1,f.2.1,f.2.2.1,true))<|c (f.1,f.2.1,f.2.2.1,false)) λg=>bnd (some g) λ_=>d ()
def Hl:=DS zK
def EK: Ic:=cJ 91 0 2 0x1426c7c1e05f93aa48a8d1402213480f6c271280286aaa1be9573 gH [] [BE] @zK
def Vu: Lc 88 0 0:=bO 0x177c3f9ba1b4e7031c gH [] [] @jT
def wL: aH->((Bool->Option R)×Unit)->Unit->Option R:=λa (b,_) _=>bnd (mI n a) λc=>cnd c (b true)<|b false
def Df:=uM wL
def AU: Ic:=cJ 88 0 1 0xa05 gH [⟨0,[Vu]⟩] [] @wL
def mQ: (List aH×Int)->(Int->Option R)->(((aH×Int)->Option R)×(Unit->Option R)×Unit)->Int->Option R:=λ(a,b) c (d,f,_) g=>cd (g<b) (bnd (idx a g) λh=>bnd (Df n h) λi=>cnd i (d (h,g))<|c<|wr<|g+1)<|f ()
def KS:=qB mQ
def Wu: Lc 110 0 0:=bL 0x58d25ca96 gH [] [AU] @mQ
def wM: (List aH)->(((aH×Int)->Option R)×(Unit->Option R)×Unit)->Unit->Option R:=λa (b,c,_) _=>bnd2 (KS n (a,(ln a)) 0) (λd=>b (d.1,d.2)) λf=>bnd (some f) λ_=>c ()
def Dg:=DS wM
def AW: Ic:=cJ 110 0 2 0x589d06e99 gH [⟨0,[Wu]⟩] [] @wM
def wN: (List aH)->(((aH×Bool)->Option R)×(Unit->Option R)×Unit)->Unit->Option R:=λa (b,c,_) _=>bnd2 (Dg n a) (λd=>cd (d.2>=0) (b (d.1,true))<|b (d.1,false)) λf=>bnd (some f) λ_=>c ()
def Dh:=DS wN
def AX: Ic:=cJ 91 0 2 0x58a5ea802 gH [] [AW] @wN
def Vt: Lc 87 0 0:=bO 0x177c3f9ba1b4e7031c gH [] [] @jU
def wI: aH->((Bool->Option R)×Unit)->Unit->Option R:=λa (b,_) _=>bnd (mJ n a) λc=>cnd c (b true)<|b false
def Dc:=uM wI
def AP: Ic:=cJ 87 0 1 0xa05 gH [⟨0,[Vt]⟩] [] @wI
def mP: (List aH×Int)->(Int->Option R)->(((aH×Int)->Option R)×(Unit->Option R)×Unit)->Int->Option R:=λ(a,b) c (d,f,_) g=>cd (g<b) (bnd (idx a g) λh=>bnd (Dc n h) λi=>cnd i (d (h,g))<|c<|wr<|g+1)<|f ()
def KR:=qB mP
def Vz: Lc 110 0 0:=bL 0x58d25bea9 gH [] [AP] @mP
def wJ: (List aH)->(((aH×Int)->Option R)×(Unit->Option R)×Unit)->Unit->Option R:=λa (b,c,_) _=>bnd2 (KR n (a,(ln a)) 0) (λd=>b (d.1,d.2)) λf=>bnd (some f) λ_=>c ()
def Dd:=DS wJ
def AQ: Ic:=cJ 110 0 2 0x589d062ac gH [⟨0,[Vz]⟩] [] @wJ
def wK: (List aH)->(((aH×Bool)->Option R)×(Unit->Option R)×Unit)->Unit->Option R:=λa (b,c,_) _=>bnd2 (Dd n a) (λd=>cd (d.2>=0) (b (d.1,true))<|b (d.1,false)) λf=>bnd (some f) λ_=>c ()
def De:=DS wK
def AR: Ic:=cJ 91 0 2 0x58a5e9c15 gH [] [AQ] @wK
def wF: aH->((Bool->Option R)×Unit)->Unit->Option R:=λa (b,_) _=>bnd (dM n a.Kind) λc=>cnd (c==0) (b true)<|b false
def Cz:=uM wF
def AL: Ic:=cJ 86 0 1 0xa05 gH [] [] @wF
def mO: (List aH×Int)->(Int->Option R)->(((aH×Int)->Option R)×(Unit->Option R)×Unit)->Int->Option R:=λ(a,b) c (d,f,_) g=>cd (g<b) (bnd (idx a g) λh=>bnd (Cz n h) λi=>cnd i (d (h,g))<|c<|wr<|g+1)<|f ()
def KQ:=qB mO
def Vy: Lc 110 0 0:=bL 0x58d25b2bc gH [] [AL] @mO
def wG: (List aH)->(((aH×Int)->Option R)×(Unit->Option R)×Unit)->Unit->Option R:=λa (b,c,_) _=>bnd2 (KQ n (a,(ln a)) 0) (λd=>b (d.1,d.2)) λf=>bnd (some f) λ_=>c ()
def Da:=DS wG
def AM: Ic:=cJ 110 0 2 0x589d056bf gH [⟨0,[Vy]⟩] [] @wG
def wH: (List aH)->(((aH×Bool)->Option R)×(Unit->Option R)×Unit)->Unit->Option R:=λa (b,c,_) _=>bnd2 (Da n a) (λd=>cd (d.2>=0) (b (d.1,true))<|b (d.1,false)) λf=>bnd (some f) λ_=>c ()
def Db:=DS wH
def AN: Ic:=cJ 91 0 2 0x58a5e9028 gH [] [AM] @wH
def Vs: Lc 85 0 0:=bO 0x177c3f9ba1b4e7031c gH [] [] @jV
def wC: aH->((Bool->Option R)×Unit)->Unit->Option R:=λa (b,_) _=>bnd (mK n a) λc=>cnd c (b true)<|b false
def Cw:=uM wC
def AH: Ic:=cJ 85 0 1 0xa05 gH [⟨0,[Vs]⟩] [] @wC
def mN: (List aH×Int)->(Int->Option R)->(((aH×Int)->Option R)×(Unit->Option R)×Unit)->Int->Option R:=λ(a,b) c (d,f,_) g=>cd (g<b) (bnd (idx a g) λh=>bnd (Cw n h) λi=>cnd i (d (h,g))<|c<|wr<|g+1)<|f ()
def KP:=qB mN
def Vx: Lc 110 0 0:=bL 0x58d25a6cf gH [] [AH] @mN
def wD: (List aH)->(((aH×Int)->Option R)×(Unit->Option R)×Unit)->Unit->Option R:=λa (b,c,_) _=>bnd2 (KP n (a,(ln a)) 0) (λd=>b (d.1,d.2)) λf=>bnd (some f) λ_=>c ()
def Cx:=DS wD
def AJ: Ic:=cJ 110 0 2 0x589d04ad2 gH [⟨0,[Vx]⟩] [] @wD
def wE: (List aH)->(((aH×Bool)->Option R)×(Unit->Option R)×Unit)->Unit->Option R:=λa (b,c,_) _=>bnd2 (Cx n a) (λd=>cd (d.2>=0) (b (d.1,true))<|b (d.1,false)) λf=>bnd (some f) λ_=>c ()
def Cy:=DS wE
def AK: Ic:=cJ 91 0 2 0x58a5e843b gH [] [AJ] @wE
def vV: (aK×Int×aH)->((Bool->Option R)×Unit)->Unit->Option R:=λ(a,b,c) (d,_) _=>cd (b > 1) (bnd (idx a.Features<|wr<|b-2) λf=>cd (f.ID>=c.ID) (d true)<|bnd (uH n c.Parts) λg=>cnd g (d false)<|d true)<|bnd (uH n c.Parts) λh=>cnd h (d false)<|d true
def Cq:=fB vV
def Vr: Lc 107 0 0:=bO 0x363a45dfe44927ced7fe68de7d58dd4534098d4b2 gH [] [] @vV
def vZ: (aK×Int×aH)->(((Int×Bool)->Option R)×Unit)->Unit->Option R:=λ(a,b,c) (d,_) _=>bnd (Cq n (a,(wr<|b+1),c)) λf=>cnd f (d ((wr<|b+1),true))<|d ((wr<|b+1),false)
def Ct:=uM vZ
def AE: Ic:=cJ 107 0 3 0x321e3bacfb0d90dc52aafa9352c6da840fb gH [⟨0,[Vr]⟩] [] @vZ
def mM: (aK×List aH×Int)->((Int×Int)->Option R)->(((Int×aH×Int)->Option R)×(Int->Option R)×Unit)->(Int×Int)->Option R:=λ(a,b,c) d (f,g,_) (h,i)=>cd (i<c) (bnd (idx b i) λj=>bnd (Ct n (a,h,j)) λl=>cnd l.2 (f (l.1,j,i))<|d (l.1,(wr<|i+1)))<|g h
def KO:=qB mM
def Vw: Lc 110 0 0:=bL 0x68a40b66780ccc22edb20984b31d15d4bd549c39e4e9cc0898736fe gH [] [AE] @mM
def wA: (aK×Int×List aH)->(((Int×aH×Int)->Option R)×(Int->Option R)×Unit)->Unit->Option R:=λ(a,b,c) (d,f,_) _=>bnd2 (KO n (a,c,(ln c)) (b,0)) (λg=>d (g.1,g.2.1,g.2.2)) λh=>bnd (some h) λi=>f i
def Cu:=DS wA
def AF: Ic:=cJ 110 0 2 0x873c8b048996c77d26a99609e79f2fe8b38f7901ed0431ef9 gH [⟨0,[Vw]⟩] [] @wA
def wB: (aK×Int×List aH)->(((Int×aH×Bool)->Option R)×(Int->Option R)×Unit)->Unit->Option R:=λ(a,b,c) (d,f,_) _=>bnd2 (Cu n (a,b,c)) (λg=>cd (g.2.2>=0) (d (g.1,g.2.1,true))<|d (g.1,g.2.1,false)) λh=>bnd (some h) λi=>f i
def Cv:=DS wB
def AG: Ic:=cJ 91 0 2 0xb578d5ec8f1e5f163c4d43adea925295f9bd12e2016716 gH [] [AF] @wB
def vW(n:Nat): aH->((Bool->Option R)×Unit)->Unit->Option R:=λa (b,_) _=>cd ((ln a.Parts) > 64) (b true)<|b false
def qH:=uM vW
def AB: Ic:=cJ 83 0 1 0xa05 gH [] [] @vW
def mL: (List aH×Int)->(Int->Option R)->(((aH×Int)->Option R)×(Unit->Option R)×Unit)->Int->Option R:=λ(a,b) c (d,f,_) g=>cd (g<b) (bnd (idx a g) λh=>bnd (qH n h) λi=>cnd i (d (h,g))<|c<|wr<|g+1)<|f ()
def KN:=qB mL
def Vv: Lc 110 0 0:=bL 0x58d258ef5 gH [] [AB] @mL
def vX: (List aH)->(((aH×Int)->Option R)×(Unit->Option R)×Unit)->Unit->Option R:=λa (b,c,_) _=>bnd2 (KN n (a,(ln a)) 0) (λd=>b (d.1,d.2)) λf=>bnd (some f) λ_=>c ()
def Cr:=DS vX
def AC: Ic:=cJ 110 0 2 0x589d032f8 gH [⟨0,[Vv]⟩] [] @vX
def vY: (List aH)->(((aH×Bool)->Option R)×(Unit->Option R)×Unit)->Unit->Option R:=λa (b,c,_) _=>bnd2 (Cr n a) (λd=>cd (d.2>=0) (b (d.1,true))<|b (d.1,false)) λf=>bnd (some f) λ_=>c ()
def Cs:=DS vY
def AD: Ic:=cJ 91 0 2 0x58a5e6c61 gH [] [AC] @vY
def fP: Nat->aK->Option Int
 | 0,_=>none
 | n+1,a=>bnd (Km n a.Plan) λb=>cnd (b != 0) (some b)<|cd ((ln a.Features) > 128) (some 3)<|bnd (Hq n a) λ_=>bnd (Hp n ()) λc=>bnd (Nu<|Nat.ble 9 n) λ_=>(let d:=(let f:=λ(g:Int)=>(let h:=(let i:=(let j:=(let l:=(let m:=(let o:=λ(r:(List<|Aac×Bool))=>some 0;(bnd2 (Ho n (c,a.Features)) (λs=>cnd s.2.2.2.2.2.2.2.2 (some 13)<|o s.1) λt=>bnd (some t) λu=>o u));(bnd2 (Hl n (a,a.Features)) (λv=>cnd v.2.2.2 (some 7) m) λw=>bnd (some w) λ_=>m));(bnd2 (Dh n a.Features) (λx=>cnd x.2 (some 1) l) λy=>bnd (some y) λ_=>l));(bnd2 (De n a.Features) (λz=>cnd z.2 (some 14) j) λa0=>bnd (some a0) λ_=>j));(bnd2 (Db n a.Features) (λb0=>cnd b0.2 (some 9) i) λc0=>bnd (some c0) λ_=>i));(bnd2 (Cy n a.Features) (λd0=>cnd d0.2 (some 2) h) λf0=>bnd (some f0) λ_=>h));(bnd2 (Cv n (a,0,a.Features)) (λg0=>cnd g0.2.2 (some 10)<|f g0.1) λh0=>bnd (some h0) λi0=>f i0));(bnd2 (Cs n a.Features) (λj0=>cnd j0.2 (some 3) d) λl0=>bnd (some l0) λ_=>d))
def VW: Kn:=bH 62 0x146a8ffe2fb1168 gH [] [EQ,EO,EN,EK,AX,AR,AN,AK,AG,AD] fP
abbrev aVT:=VW::gH
def K5: Nat->Aab->Int->Option Int
 | 0,_,_=>none
 | n+1,a,b=>bnd (cD n a.ID b) λc=>some c
def RO: Kn:=bH 133 0x619d8b2e0 aVT [] [] K5
abbrev aNt:=RO::aVT
def Jb: (Aab×Int)->((Int->Option R)×Unit)->Unit->Option R:=λ(a,b) (c,_) _=>bnd (cD n a.ID b) λd=>c d
def qK:=uM Jb
def Ja: Ic:=cJ 133 0 2 0x29cb96b701c9298589 aNt [] [] @Jb
def tH: (List Aab×Int)->((Int×Int)->Option R)->((Int->Option R)×Unit)->(Int×Int)->Option R:=λ(a,b) c (d,_) (f,g)=>cd (f<g) (bnd (idx a<|wr<|Int.fdiv (IntKind.u64.wrap<|wr<|f+g) 2) λh=>bnd (qK n (h,b)) λi=>cd (i<0) (c ((wr<|(wr<|Int.fdiv (IntKind.u64.wrap<|wr<|f+g) 2)+1),g))<|c (f,(wr<|Int.fdiv (IntKind.u64.wrap<|wr<|f+g) 2)))<|d f
def K6:=qW tH
def RQ: Lc 132 0 0:=bL 0x1f05142069283a63e287ec507564afb2e173fbc0210808d aNt [] [Ja] @tH
def Jc: (List Aab×Int)->(((Aab×Int×Bool)->Option R)×(Int->Option R)×Unit)->Unit->Option R:=λ(a,b) (c,d,_) _=>bnd (K6 n (a,b) (0,(ln a))) λf=>cd (f<(ln a)) (bnd (idx a f) λg=>bnd (qK n (g,b)) λh=>cnd (h==0) (c (g,f,true))<|c (g,f,false))<|d f
def Rw:=DS Jc
def RS: Ic:=cJ 132 0 3 0x30ab131706f5d1c679fea57f19b0578cffabf165c48e aNt [⟨0,[RQ]⟩] [Ja] @Jc
def pB: Nat->aK->Int->Option (Int×Bool)
 | 0,_,_=>none
 | n+1,a,b=>bnd2 (Rw n (a.Plan.Nodes,b)) (λc=>cnd c.2.2 (some (c.2.1,true))<|some (c.2.1,false)) λd=>bnd (some d) λf=>some (f,false)
def U6: Kn:=bH 111 0x85ba78 aNt [] [RS] pB
abbrev aPV:=U6::aNt
def zI: (aH×Int×Int)->((Bool->Option R)×Unit)->Unit->Option R:=λ(a,b,c) (d,_) _=>bnd (dM n a.Kind) λf=>cnd (f==b) (bnd (dP n a.Parts c) λg=>cnd g (d true)<|d false)<|d false
def Hj:=fB zI
def EA: Lc 114 0 1:=bO 0x64dea6f5808a7626b80c4bcada68e504ac2181471aa12662e4174ae1bf aPV [] [] @zI
def oF: (Int×Int×List aH×Int)->((List Int×Int)->Option R)->(((List Int)->Option R)×Unit)->(List Int×Int)->Option R:=λ(a,b,c,d) f (g,_) (h,i)=>cd (i<d) (bnd (idx c i) λj=>bnd (Hj n (j,a,b)) λl=>cnd l (bnd (app h [j.ID]) λm=>f (m,(wr<|i+1)))<|f (h,(wr<|i+1)))<|g h
def QH:=qW oF
def EB: Lc 114 0 0:=bL 0x6214b4b3bb052ba1d5a702ae1d73ba52adcb28cd01ed31d53ed0cfb7e4 aPV [⟨0,[cs EA]⟩] [] @oF
def jN: Nat->aK->Int->Int->Option (List Int)
 | 0,_,_,_=>none
 | n+1,a,b,c=>cd (b<1) (some [])<|cd (b > 3) (some [])<|bnd (QH n (b,c,a.Features,(ln a.Features)) ([],0)) λd=>some d
def VU: Kn:=bH 114 0x12828224b07ea1bb3b627 aPV [⟨0,[EB]⟩] [] jN
abbrev aVS:=VU::aPV
def V0: Nat->aR->Int->Option Int
 | 0,_,_=>none
 | n+1,a,b=>bnd (cD n a.ID b) λc=>some c
def a7: Kn:=bH 143 0x46e326648 aVS [] [] V0
abbrev aNs:=a7::aVS
def Mz: (aR×Int)->((Int->Option R)×Unit)->Unit->Option R:=λ(a,b) (c,_) _=>bnd (cD n a.ID b) λd=>c d
def tQ:=uM Mz
def My: Ic:=cJ 143 0 2 0x29cb96b6ff567c8ee1 aNs [] [] @Mz
def vH: (List aR×Int)->((Int×Int)->Option R)->((Int->Option R)×Unit)->(Int×Int)->Option R:=λ(a,b) c (d,_) (f,g)=>cd (f<g) (bnd (idx a<|wr<|Int.fdiv (IntKind.u64.wrap<|wr<|f+g) 2) λh=>bnd (tQ n (h,b)) λi=>cd (i<0) (c ((wr<|(wr<|Int.fdiv (IntKind.u64.wrap<|wr<|f+g) 2)+1),g))<|c (f,(wr<|Int.fdiv (IntKind.u64.wrap<|wr<|f+g) 2)))<|d f
def V1:=qW vH
def a8: Lc 142 0 0:=bL 0x1f051420692ceec43beff82f244c221cb8e924d4d6f1931 aNs [] [My] @vH
def Na: (List aR×Int)->(((aR×Int×Bool)->Option R)×(Int->Option R)×Unit)->Unit->Option R:=λ(a,b) (c,d,_) _=>bnd (V1 n (a,b) (0,(ln a))) λf=>cd (f<(ln a)) (bnd (idx a f) λg=>bnd (tQ n (g,b)) λh=>cnd (h==0) (c (g,f,true))<|c (g,f,false))<|d f
def BX:=DS Na
def a9: Ic:=cJ 142 0 3 0x414b7ba2752bf2a5ab3f8a014aec29fe04cb3943b aNs [⟨0,[a8]⟩] [My] @Na
def Aw: Nat->aK->Int->Option (Int×Bool)
 | 0,_,_=>none
 | n+1,a,b=>bnd2 (BX n (a.Plan.Arcs,b)) (λc=>cnd c.2.2 (some (c.2.1,true))<|some (c.2.1,false)) λd=>bnd (some d) λf=>some (f,false)
def aCD: Kn:=bH 117 0x85ba78 aNs [] [a9] Aw
abbrev aXQ:=aCD::aNs
def aPL: Kn:=aPq 190 18 19 ⟨_,_,_,rfl,by decide,by decide⟩ (λn p=>clF n p) (λp=>p) λn p r h=>by obtain⟨m,h1,h2,h3⟩:=aPt h;subst h2;exact⟨m,h1,rfl,h3,rfl,λe=>by cases (e:_=[]);rfl⟩
abbrev aTo:=aPL::aXQ
def lJ: (List Int×List Aab×List aR×Int)->((List aR×Int)->Option R)->(((List aR)->Option R)×Unit)->(List aR×Int)->Option R:=λ(a,b,c,d) f (g,_) (h,i)=>cd (i<d) (bnd (idx c i) λj=>bnd (clF n j.Via) λl=>bnd (app h [(aR.mk j.ID j.From j.To l 0 0)]) λm=>f (m,(wr<|i+1)))<|g h
def Pb:=qW lJ
def NM: Lc 165 0 0:=bL 0x289d64d360696d62d11dbedfff2b6a757ae78e7a7e1a9aecafcb4ee5bf778117d7b aTo [] [] @lJ
def aDI: Nat->aM->Option aM
 | 0,_=>none
 | n+1,a=>bnd (clF n a.Nodes) λb=>bnd (Pb n ([],b,a.Arcs,(ln a.Arcs)) ([],0)) λc=>some<|aM.mk b c []
def R8: Kn:=bH 165 0x6d1b8064fa072d7af7fa0e5 aTo [⟨0,[NM]⟩] [] aDI
abbrev aPU:=R8::aTo
def Mb(n:Nat): (Int×Int)->((Bool->Option R)×Unit)->Unit->Option R:=λ(a,b) (c,_) _=>cd ((oB b<|wr<|0-b)<(oB a<|wr<|0-a)) (c true)<|cnd (b==(wr<|0-a)) (cd (b > 0) (c true)<|c false)<|c false
def R7:=fB Mb
def UQ: Lc 191 0 1:=bO 0x3b317c25fc60fe3e418a565b456f388d aPU [] [] @Mb
def uT: (List Int×Int)->((Int×Int)->Option R)->((Int->Option R)×Unit)->(Int×Int)->Option R:=λ(a,b) c (d,_) (f,g)=>cd (g<b) (bnd (idx a g) λh=>bnd (R7 n (f,h)) λi=>cnd i (c (h,(wr<|g+1)))<|c (f,(wr<|g+1)))<|d f
def BQ:=qW uT
def UR: Lc 191 0 0:=bL 0x4651c291d4c6028c52f9fcb09e6dd aPU [⟨0,[cs UQ]⟩] [] @uT
def nU: Nat->(List Int)->Option Int
 | 0,_=>none
 | n+1,a=>bnd (idx a 0) λb=>bnd (BQ n (a,(ln a)) (b,0)) λc=>some c
def aBG: Kn:=bH 191 0x315285 aPU [⟨0,[UR]⟩] [] nU
abbrev aVR:=aBG::aPU
def nV: Nat->Int->Int->Option Int
 | 0,_,_=>none
 | n+1,a,b=>bnd (cD n (oB a<|wr<|0-a)<|oB b<|wr<|0-b) λc=>bnd (cD n b a) λd=>bnd (Ax n [c,d]) λf=>some f
def Pa: Kn:=bH 192 0xf37fea0cdad8c8f00 aVR [] [] nV
abbrev aVQ:=Pa::aVR
def nJ: Nat->dO->dO->Option Int
 | 0,_,_=>none
 | n+1,a,b=>bnd (nU n a.outer) λc=>bnd (nU n b.outer) λd=>bnd (nV n c d) λf=>some f
def IL: Kn:=bH 167 0x2ea034b846658a2 aVQ [] [] nJ
abbrev aF3:=IL::aVQ
def IU: Lc 165 2 0:=bL 0x2bf3676b7fb056f359be0c2088503f54dc8b330f4fc53422ef96a78c245325c39e87ed aF3 [] [] @lJ
def Bw: aM->(((List aR×List Int×List Aab×List Aab)->Option R)×Unit)->Unit->Option R:=λa (b,_) _=>bnd (clF n a.Nodes) λc=>bnd (Pb n ([],c,a.Arcs,(ln a.Arcs)) ([],0)) λd=>b (d,[],c,c)
def Mf:=uM Bw
def IV: Ic:=cJ 165 2 1 0x2c8d3d5c96a4c32085b7ee705c69c3a02444f0ce21d72fdaddd489cd7d4830039de aF3 [⟨0,[IU]⟩] [] @Bw
end
end
section
variable {R:Type}(n:Nat)
noncomputable section
def pR(n:Nat): (Int×List Int×Int)->(((List<|Int×Int)×Int)->Option R)->((((List<|Int×Int))->Option R)×Unit)->((List<|Int×Int)×Int)->Option R:=λ(a,b,c) d (f,_) (g,h)=>cd (h<c) (bnd (idx b h) λi=>d ((kW g i<|wr<|a+1),(wr<|h+1)))<|f g
def UX:=qW pR
def IP: Lc 137 0 2:=bL 0x34e3e013ce324276178f6777ed7ea83c81b35412b401df3d21b7f1434ecd90049a56c4b9dda2c8 aF3 [] [] @pR
def pS: (Int×(List<|List Int)×Int)->(((List<|Int×Int)×Int)->Option R)->((((List<|Int×Int))->Option R)×Unit)->((List<|Int×Int)×Int)->Option R:=λ(a,b,c) d (f,_) (g,h)=>cd (h<c) (bnd (idx b h) λi=>bnd (UX n (a,i,(ln i)) (g,0)) λj=>d (j,(wr<|h+1)))<|f g
def UY:=qW pS
def IQ: Lc 137 0 1:=bL 0x3824c38ec5a1eb9a838cf64abd4b98f2915743629ee1f60d4cbd109ceb5ddc63 aF3 [⟨0,[cs IP]⟩] [] @pS
def pT: (List aR×List Aab×List Aab×List dO×(Nat×Nat)×Int)->((List Int×(List<|Int×Int)×Int)->Option R)->(((List Int×(List<|Int×Int))->Option R)×Unit)->(List Int×(List<|Int×Int)×Int)->Option R:=λ(a,b,c,d,f,g) h (i,_) (j,l,m)=>cd (m<g) (bnd (idx (win d<|some f) m) λ_=>bnd (idx d<|m+((f.1:Nat):Int)) λo=>bnd (app j [(wr<|m+1)]) λr=>bnd (fX n o) λs=>bnd (UY n (m,s,(ln s)) (l,0)) λt=>h (r,t,(wr<|m+1)))<|i (j,l)
def Me:=qW pT
def IR: Lc 137 0 0:=bL 0x2e157106a37acf33c1e1860e0f4b20804dda1fd9ffeaec3a4d5baf15397839b0d1e73c0c2a15f66e16953025d04487d548b068ee41ad4f34bf3a4dd2fcf3e21076ac54bf413f643193de aF3 [⟨0,[cs IQ]⟩] [] @pT
def pQ(n:Nat): (List Int×List Aab×List Aab×(List<|Int×Int)×Int)->((List aR×Int)->Option R)->(((List aR)->Option R)×Unit)->(List aR×Int)->Option R:=λ(a,b,c,d,f) g (h,_) (i,j)=>cd (j<f) (bnd (eM i (List.length i) j) λ_=>bnd (idx i j) λl=>bnd (eM i (List.length i) j) λ_=>bnd (idx i j) λm=>bnd (eM (List.set i (Int.toNat j)<|aR.mk m.ID m.From m.To m.Via (Option.getD (cE d l.ID) 0) m.Right) (List.length<|List.set i (Int.toNat j)<|aR.mk m.ID m.From m.To m.Via (Option.getD (cE d l.ID) 0) m.Right) j) λ_=>bnd (idx (List.set i (Int.toNat j)<|aR.mk m.ID m.From m.To m.Via (Option.getD (cE d l.ID) 0) m.Right) j) λo=>g ((List.set (List.set i (Int.toNat j)<|aR.mk m.ID m.From m.To m.Via (Option.getD (cE d l.ID) 0) m.Right) (Int.toNat j)<|aR.mk o.ID o.From o.To o.Via o.Left<|Option.getD (cE d<|wr<|0-l.ID) 0),(wr<|j+1)))<|h i
def Md:=qW pQ
def IM: Lc 137 0 3:=bL 0x1e3c05ae9f1dc015e52062b4bb270123612026dd1d14c21bda8f6ebba89090de9f238f6c1637f5a24be4a55dde0f36d8b1ab1b18dea9be38293a3444d9ab0 aF3 [] [] @pQ
def Kl: Nat->aM->Option (aM×Int)
 | 0,_=>none
 | n+1,a=>bnd (Mf n a) λb=>bnd (Bm n<|aM.mk b.2.2.2 b.1 b.2.1) λc=>cnd (c.2 != 0) (some ((aM.mk [] [] []),c.2))<|bnd (pM n<|aM.mk b.2.2.2 b.1 b.2.1) λd=>bnd (jK n (aM.mk b.2.2.2 b.1 b.2.1) c.1 d) λf=>bnd (sub f (0,List.length f) 1<|ln f) λg=>cd (((g.2:Nat):Int) > 64) (some ((aM.mk [] [] []),3))<|bnd (prd n) λh=>bnd (Nu<|decide<|List.length f<=1000000/\g.1+g.2<=List.length f) λ_=>bnd (qY (λ(i j:dO)=>bnd (nJ h i j) λl=>some l)<|win f<|some g) λm=>bnd (Me n (b.1,b.2.2.1,b.2.2.2,(aQ f g.1 m),g,((g.2:Nat):Int)) (b.2.1,[],0)) λo=>bnd (Md n (o.1,b.2.2.1,b.2.2.2,o.2,(ln b.1)) (b.1,0)) λr=>some ((aM.mk b.2.2.2 r o.1),0)
def y6: Kn:=bH 137 0x1da661e129e4321 aF3 [⟨0,[IR]⟩,⟨3,[IM]⟩] [IV] Kl
abbrev aVP:=y6::aF3
def jZ: Nat->dR->dR->Option Int
 | 0,_,_=>none
 | n+1,a,b=>bnd (cD n a.Face b.Face) λc=>some c
def Uk: Kn:=bH 169 0x2ea0358c4abc2e6 aVP [] [] jZ
abbrev aTn:=Uk::aVP
def lY(n:Nat): (List Int×List dO×Int)->((List dR×Int)->Option R)->(((List dR)->Option R)×Unit)->(List dR×Int)->Option R:=λ(a,b,c) d (f,_) (g,h)=>cd (h<c) (bnd (idx b h) λi=>bnd (idx a h) λj=>bnd (app g [(dR.mk j i.outer i.inner i.alone)]) λl=>d (l,(wr<|h+1)))<|f g
def IK:=qW lY
def Ul: Lc 138 0 0:=bL 0x289d49b5f39e2d186f9405569d8949cca8b1ab326d07f6eb73fabbe1fe5b607d565 aTn [] [] @lY
def kM: Nat->aM->Option (List dR×Int)
 | 0,_=>none
 | n+1,a=>bnd (Bu n a) λb=>cnd (b.2.2.2 != 0) (some ([],b.2.2.2))<|bnd (IK n (b.2.1,b.1,(ln b.1)) ([],0)) λc=>bnd (prd n) λd=>bnd (Nu<|decide<|List.length c<=1000000) λ_=>bnd (qY (λ(f g:dR)=>bnd (jZ d f g) λh=>some h) c) λi=>some (i,0)
def NN: Kn:=bH 138 0x1da668814c71d38 aTn [⟨0,[Ul]⟩] [] kM
abbrev aTm:=NN::aTn
def vG(n:Nat): ((List<|List Int)×Int)->((List Int×Int)->Option R)->(((List Int)->Option R)×Unit)->(List Int×Int)->Option R:=λ(a,b) c (d,_) (f,g)=>cd (g<b) (bnd (idx a g) λh=>bnd (app f h) λi=>c (i,(wr<|g+1)))<|d f
def U9:=qW vG
def XW: Lc 140 0 0:=bL 0x10919395a379907ca3f2a91752ee78e4d56393ccb7ac aTm [] [] @vG
def Lg: Nat->dR->Option (List Int)
 | 0,_=>none
 | n+1,a=>bnd (app ([]:List Int) a.Outer) λb=>bnd (U9 n (a.Inner,(ln a.Inner)) (b,0)) λc=>some c
def aCC: Kn:=bH 140 0x2151f73748cb603 aTm [⟨0,[XW]⟩] [] Lg
abbrev aNr:=aCC::aTm
def Hr(n:Nat): (Int×Int)->((Bool->Option R)×Unit)->Unit->Option R:=λ(a,b) (c,_) _=>cnd (b != a) (cnd (b != (wr<|0-a)) (c true)<|c false)<|c false
def Rr:=fB Hr
def QU: Lc 139 0 2:=bO 0x22b34cd12ad5a32f69a41e00ec127d35bd5ada5f8471b6a32139962 aNr [] [] @Hr
def sW: (aM×Int×List Int×Int)->(Int->Option R)->((Int->Option R)×(Unit->Option R)×Unit)->Int->Option R:=λ(a,b,c,d) f (g,h,_) i=>cd (i<d) (bnd (idx c i) λj=>bnd (Rr n (b,j)) λl=>cnd l (bnd (Fn n a j) λm=>g m)<|f<|wr<|i+1)<|h ()
def J6:=qB sW
def QV: Lc 139 0 1:=bL 0x14c2161c0a1943ad41d40b5ed96452cdf787f756fffbf3ad850bf3b2de3d7f1e8efd9b aNr [⟨0,[cs QU]⟩] [] @sW
def sX: (aM×Int×List dR×Int)->(Int->Option R)->(((dR×Int)->Option R)×(Unit->Option R)×Unit)->Int->Option R:=λ(a,b,c,d) f (g,h,_) i=>cd (i<d) (bnd (idx c i) λj=>bnd (Lg n j) λl=>bnd2 (J6 n (a,b,l,(ln l)) 0) (λm=>g (j,m)) λo=>bnd (some o) λ_=>f<|wr<|i+1)<|h ()
def J7:=qB sX
def QW: Lc 139 0 0:=bL 0xa1c01236aa2ee0651661f73dda89b6f293df0df0ce133d86b aNr [⟨0,[cs QV]⟩] [] @sX
def Rs: Nat->aM->Int->(List dR)->Option Int
 | 0,_,_,_=>none
 | n+1,a,b,c=>bnd2 (J7 n (a,b,c,(ln c)) 0) (λd=>some d.2) λf=>bnd (some f) λ_=>some 0
def U4: Kn:=bH 139 0x20b691c9459cb146cd aNr [⟨0,[QW]⟩] [] Rs
abbrev aVO:=U4::aNr
def UP: Nat->(List Int)->Int->Option (List Int)
 | 0,_,_=>none
 | n+1,_,a=>cd (a<0) none none
def HW: Kn:=bH 209 0x507d98 aVO [] [] UP
abbrev aKk:=HW::aVO
def iZ(n:Nat): ((List<|List Int)×Int)->((Int×Int)->Option R)->((Int->Option R)×Unit)->(Int×Int)->Option R:=λ(a,b) c (d,_) (f,g)=>cd (g<b) (bnd (idx a g) λh=>cd ((wr<|f+(ln h))<0) none<|c ((wr<|f+(ln h)),(wr<|g+1)))<|d f
def Ot:=qW iZ
def Jz: Lc 203 0 0:=bL 0x10f9abb5a9224ff977082038e56cda461d6 aKk [] [] @iZ
def pJ(n:Nat): Int->((Unit->Option R)×((List Int×(Nat×Nat))->Option R)×Unit)->Unit->Option R:=λa (b,c,_) _=>cd (a<0) none<|cd ((wr<|a-0) > 0) (bnd (rep 0 (wr<|a-0)<|wr<|a-0) λd=>cnd (List.isEmpty d) (b ())<|bnd (sub d (0,List.length d) 0 0) λf=>c (d,f))<|b ()
def Ou:=DS pJ
def Ka: Ic:=cJ 209 0 2 0x4ba35d217287db9db923f9721e75e7cd aKk [] [] @pJ
def iY(n:Nat): ((List<|List Int)×Int)->(Int->Option R)->((Unit->Option R)×Unit)->Int->Option R:=λ(a,b) c (d,_) f=>cd (f<b) (bnd (idx a f) λg=>cnd (List.isEmpty g) (c<|wr<|f+1)<|bnd (app ([]:List Int) g) λ_=>none)<|d ()
def Oq:=qW iY
def Jy: Lc 203 0 1:=bL 0x2a05dac6ef4f1609648637914b9c4a93071513 aKk [] [] @iY
def iX(n:Nat): ((List<|List Int)×Int)->((List Int×(Nat×Nat)×Int)->Option R)->(((List Int×(Nat×Nat))->Option R)×Unit)->(List Int×(Nat×Nat)×Int)->Option R:=λ(a,b) c (d,_) (f,g,h)=>cd (h<b) (bnd (idx a h) λi=>bnd (SD f g i) λj=>c (j,(g.1,g.2+List.length i),(wr<|h+1)))<|d (f,g)
def Oo:=qW iX
def Jx: Lc 203 0 1:=bL 0xa4c4a12125f6b0767bb437d9025b7 aKk [] [] @iX
def pK: Nat->(List<|List Int)->Option (List Int)
 | 0,_=>none
 | n+1,a=>bnd (Ot n (a,(ln a)) (0,0)) λb=>bnd2 (Ou n b) (λ_=>bnd (Oq n (a,(ln a)) 0) λ_=>bnd (Nu true) λ_=>some []) λc=>bnd (some c) λd=>bnd (Oo n (a,(ln a)) (d.1,d.2,0)) λf=>bnd (Nu<|decide<|f.2=(0,List.length f.1)) λ_=>some<|win f.1<|some f.2
def Ui: Kn:=bH 203 0x375853a70693aef aKk [⟨0,[Jz]⟩,⟨1,[Jy,Jx]⟩] [Ka] pK
abbrev aNq:=Ui::aKk
def oC(n:Nat): ((Nat×Nat))->((List Int×Int×Int)->Option R)->(((List Int×Int)->Option R)×Unit)->(List Int×Int×Int)->Option R:=λa b (c,_) (d,f,g)=>cd (g<((a.2:Nat):Int)) (bnd (idx (win d<|some a) g) λ_=>bnd (idx d<|g+((a.1:Nat):Int)) λh=>bnd (idx (win d<|some a)<|wr<|g-1) λ_=>bnd (idx d<|(wr<|g-1)+((a.1:Nat):Int)) λi=>cnd (h != i) (bnd (idx (win d<|some a) g) λ_=>bnd (idx d<|g+((a.1:Nat):Int)) λj=>bnd (eM d (List.length d) f) λ_=>bnd (idx d f) λ_=>b ((List.set d (Int.toNat f) j),(wr<|f+1),(wr<|g+1)))<|b (d,f,(wr<|g+1)))<|c (d,f)
def PT:=qW oC
def DT: Lc 204 0 1:=bL 0xbb31faaece525248ae08173d4b1f4eced45abcb1ff8e173be8dceeb aNq [] [] @oC
def oD: (List Int)->(Int->Option R)->(((List Int×(Nat×Nat))->Option R)×(Unit->Option R)×Unit)->Int->Option R:=λa b (c,d,_) f=>cd (f<(ln a)) (bnd (eM a (List.length a) f) λ_=>bnd (idx a f) λg=>bnd (eM a (List.length a)<|wr<|f-1) λ_=>bnd (idx a<|wr<|f-1) λh=>cnd (g==h) (bnd (sub a (0,List.length a) f<|ln a) λi=>bnd (PT n i (a,f,1)) λj=>bnd (sub j.1 (0,List.length j.1) j.2<|ln j.1) λl=>bnd (clr j.1 l 0) λm=>bnd (sub m (0,List.length m) 0 j.2) λo=>c (m,o))<|b<|wr<|f+1)<|d ()
def PU:=qB oD
def DU: Lc 204 0 0:=bL 0x25e73ba1b278c34bf7935f6d22f68b922b21dd41665a aNq [⟨0,[cs DT]⟩] [] @oD
def yZ: (List Int)->((Unit->Option R)×((List Int×(Nat×Nat))->Option R)×Unit)->Unit->Option R:=λa (b,c,_) _=>cd ((ln a)<2) (b ())<|bnd2 (PU n a 1) (λd=>c (d.1,d.2)) λf=>bnd (some f) λ_=>b ()
def Ha:=DS yZ
def DV: Ic:=cJ 204 0 1 0x4439918fff7f2e1330a729203c347029258ea1 aNq [⟨0,[DU]⟩] [] @yZ
def nB: Nat->(List<|List Int)->Option (List Int)
 | 0,_=>none
 | n+1,a=>bnd (pK n a) λb=>bnd (prd n) λ_=>bnd (Nu<|decide<|List.length b<=1000000) λ_=>bnd2 (Ha n<|tX b) (λ_=>some<|tX b) λc=>bnd (some c) λd=>some<|win d.1<|some d.2
def VO: Kn:=bH 193 0x2cb406d6b6ae aNq [] [DV] nB
abbrev aVN:=VO::aNq
def uI: Nat->(List Int)->(List Int)->Option (List Int)
 | 0,_,_=>none
 | n+1,a,b=>bnd (nB n [a,b]) λc=>some c
def T7: Kn:=bH 170 0x12828266022bfe003e9e4 aVN [] [] uI
abbrev aTl:=T7::aVN
def Dz: (Int×Int)->((Bool->Option R)×Unit)->Unit->Option R:=λ(a,b) (c,_) _=>bnd (fQ n a) λd=>cnd d (bnd (fQ n b) λf=>cnd f (cd (a<b) (c true)<|c false)<|c true)<|cd (a<b) (c true)<|c false
def Nh:=fB Dz
def LU: Lc 210 0 0:=bO 0x76ade62734514c12081bd24 aTl [] [] @Dz
def Lj: Nat->Int->Int->Option Bool
 | 0,_,_=>none
 | n+1,a,b=>bnd (Nh n (a,b)) λc=>cnd c (some true)<|some false
def L5: Kn:=bH 210 0x275f6aff6ebd aTl [⟨0,[LU]⟩] [] Lj
abbrev aVM:=L5::aTl
def NE: Nat->Int->Option Bool
 | 0,_=>none
 | n+1,a=>cnd (a != a) (some true)<|some false
def CT: Kn:=bH 211 0xb6a aVM [] [] NE
abbrev aPT:=CT::aVM
def fJ: (List Int×Int)->((Int×Int)->Option R)->((Int->Option R)×Unit)->(Int×Int)->Option R:=λ(a,b) c (d,_) (f,g)=>cd (f<g) (bnd (idx a<|wr<|Int.fdiv (IntKind.u64.wrap<|wr<|f+g) 2) λh=>bnd (Lj n h b) λi=>cnd i (c ((wr<|(wr<|Int.fdiv (IntKind.u64.wrap<|wr<|f+g) 2)+1),g))<|c (f,(wr<|Int.fdiv (IntKind.u64.wrap<|wr<|f+g) 2)))<|d f
def yB:=qW fJ
def uR: Lc 205 0 0:=bL 0x527a394b4fc7d3a76b00609d2dd9bd90f98b7c aPT [] [] @fJ
def jF(n:Nat): Int->((Bool->Option R)×Unit)->Unit->Option R:=λa (b,_) _=>cnd (a != a) (b true)<|b false
def fV:=uM jF
def uS: Ic:=cJ 211 0 1 0xd9de4b2a3be330b6a010 aPT [] [] @jF
def iH: Nat->(List Int)->Int->Option (Int×Bool)
 | 0,_,_=>none
 | n+1,a,b=>bnd (yB n (a,b) (0,(ln a))) λc=>cd (c<(ln a)) (bnd (idx a c) λd=>cnd (d==b) (some (c,true))<|bnd (idx a c) λf=>bnd (fV n f) λg=>cnd g (bnd (fV n b) λh=>cnd h (some (c,true))<|some (c,false))<|some (c,false))<|some (c,false)
def Bj: Kn:=bH 205 0x85b996 aPT [⟨0,[uR]⟩] [uS] iH
abbrev aNp:=Bj::aPT
def Hb: (List Int×Int)->((Bool->Option R)×Unit)->Unit->Option R:=λ(a,b) (c,_) _=>bnd (iH n a b) λd=>cnd d.2 (c false)<|c true
def Qk:=uM Hb
def PX: Ic:=cJ 194 0 2 0xd2216e8c22eb994f24d1d028679cd aNp [] [] @Hb
def sP: (List Int×List Int×Int)->((List Int×Int)->Option R)->(((List Int)->Option R)×Unit)->(List Int×Int)->Option R:=λ(a,b,c) d (f,_) (g,h)=>cd (h<c) (bnd (idx b h) λi=>bnd (Qk n (a,i)) λj=>cnd j (bnd (app g [i]) λl=>d (l,(wr<|h+1)))<|d (g,(wr<|h+1)))<|f g
def G5:=qW sP
def PW: Lc 195 0 0:=bL 0x491ad62cfcea724143f148156c489a802c5a2352f326f6be664558fd17430 aNp [] [PX] @sP
def Hc: (List Int×List Int)->(((List Int)->Option R)×Unit)->Unit->Option R:=λ(a,b) (c,_) _=>bnd (nB n [b]) λd=>bnd (G5 n (a,d,(ln d)) ([],0)) λf=>c f
def Qn:=uM Hc
def PY: Ic:=cJ 195 0 2 0x1d39f250dcbe0e020e2c1fa1f4690b35cf16d617f590 aNp [⟨0,[PW]⟩] [] @Hc
def Qq: Nat->(List Int)->(List Int)->Option (List Int)
 | 0,_,_=>none
 | n+1,a,b=>bnd (nB n [b]) λc=>bnd (Qn n (c,a)) λd=>some d
def T8: Kn:=bH 171 0x12828266022bfe003e9e4 aNp [] [PY] Qq
abbrev aVL:=T8::aNp
def LQ: Nat->aH->Int->Option Int
 | 0,_,_=>none
 | n+1,a,b=>bnd (cD n a.ID b) λc=>some c
def BG: Kn:=bH 146 0x619d8832c aVL [] [] LQ
abbrev aNo:=BG::aVL
def wT: (aH×Int)->((Int->Option R)×Unit)->Unit->Option R:=λ(a,b) (c,_) _=>bnd (cD n a.ID b) λd=>c d
def kG:=uM wT
def wS: Ic:=cJ 146 0 2 0x29cb96b6feb5edbf58 aNo [] [] @wT
def mS: (List aH×Int)->((Int×Int)->Option R)->((Int->Option R)×Unit)->(Int×Int)->Option R:=λ(a,b) c (d,_) (f,g)=>cd (f<g) (bnd (idx a<|wr<|Int.fdiv (IntKind.u64.wrap<|wr<|f+g) 2) λh=>bnd (kG n (h,b)) λi=>cd (i<0) (c ((wr<|(wr<|Int.fdiv (IntKind.u64.wrap<|wr<|f+g) 2)+1),g))<|c (f,(wr<|Int.fdiv (IntKind.u64.wrap<|wr<|f+g) 2)))<|d f
def LR:=qW mS
def BH: Lc 145 0 0:=bL 0x1f051420692e581456c262252591913c798c4aa80aef708 aNo [] [wS] @mS
def wU: (List aH×Int)->(((aH×Int×Bool)->Option R)×(Int->Option R)×Unit)->Unit->Option R:=λ(a,b) (c,d,_) _=>bnd (LR n (a,b) (0,(ln a))) λf=>cd (f<(ln a)) (bnd (idx a f) λg=>bnd (kG n (g,b)) λh=>cnd (h==0) (c (g,f,true))<|c (g,f,false))<|d f
def Dy:=DS wU
def BI: Ic:=cJ 145 0 3 0x30ab131706f5d1c3dbb0135a53ee7a6d5cf48a47d196 aNo [⟨0,[BH]⟩] [wS] @wU
def Au: Nat->aK->Int->Option (Int×Bool)
 | 0,_,_=>none
 | n+1,a,b=>bnd2 (Dy n (a.Features,b)) (λc=>cnd c.2.2 (some (c.2.1,true))<|some (c.2.1,false)) λd=>bnd (some d) λf=>some (f,false)
def RU: Kn:=bH 121 0x85ba78 aNo [] [BI] Au
abbrev aPS:=RU::aNo
def vE(n:Nat): (dR×List Int×Int)->(((List<|Int×Int)×Int)->Option R)->((((List<|Int×Int))->Option R)×Unit)->((List<|Int×Int)×Int)->Option R:=λ(a,b,c) d (f,_) (g,h)=>cd (h<c) (bnd (idx b h) λi=>d ((kW g i a.Face),(wr<|h+1)))<|f g
def U7:=qW vE
def VZ: Lc 214 0 1:=bL 0x898a0650508613b95b54c24277f1e9f471488b68c82e6714d919cf1c294ec0fca3a85fdbf1c884 aPS [] [] @vE
def vF: (List dR×Int)->(((List<|Int×Int)×Int)->Option R)->((((List<|Int×Int))->Option R)×Unit)->((List<|Int×Int)×Int)->Option R:=λ(a,b) c (d,_) (f,g)=>cd (g<b) (bnd (idx a g) λh=>bnd (U7 n (h,h.Alone,(ln h.Alone)) (f,0)) λi=>c (i,(wr<|g+1)))<|d f
def U8:=qW vF
def WF: Lc 214 0 0:=bL 0x8fd700f769b020c83790ddc7fb72ce8a55e6504749b507da3 aPS [⟨0,[cs VZ]⟩] [] @vF
def oS: Nat->aM->Option (List<|Int×Int)
 | 0,_=>none
 | n+1,a=>bnd (kM n a) λb=>bnd (U8 n (b.1,(ln b.1)) ([],0)) λc=>some c
def Ld: Kn:=bH 214 0xc44373e6b60e383d8 aPS [⟨0,[WF]⟩] [] oS
abbrev aXO:=Ld::aPS
end
end
section
open jJ (den cds ag)
noncomputable section
def dH: Nat->aM->aM->Int->Option Bool
 | 0,_,_,_=>none
 | n+1,p,q,m=>bnd (oS n p) λold=>bnd (oS n q) λnew=>some (sdB old m new)
theorem aIl: ∀(m:List (Int×Int)) (rows:List (List AV)),Qm (kk:=1) 1 m rows->aAO (gD (kk:=1) 1 m rows)=some m
 | [],rows,h=>rfl
 | e::m,[x]::rows,h=>by
  obtain⟨⟨h1,_⟩,h2⟩:=h
  cases h1
  show (match aAO (gD (kk:=1) 1 m rows) with | some l=>some ((e.1,e.2)::l) | none=>none)=_
  rw[aIl m rows h2]
theorem aJE: FOK PP T 214 ⟨[.w 25],[32],false,λn p=>oS n p⟩:=by
 have e:Ld.c=⟨[.w 25],[32],false,λn p=>oS n p⟩:=by kernel_rfl
 have h:=Ld.ok
 rw[e] at h
 exact h
theorem aKR{n:Nat}{p:aM}{m:List (Int×Int)}{a:AV}(h:oS n p=some m)(q:Qh [] (toW (val 25 p)) a): sdH (fH PP T n) 214 [] a=some m:=by
 obtain⟨b,rfl,q4⟩:=Qh.inA (cs:=[.vw 18 p.Nodes,.vw 20 p.Arcs,.vw 1 p.Faces]) q
 clear q
 match b,q4 with
 | [xn,xa,xf],q4=>
 obtain⟨qn,qa,qf,_⟩:=q4
 obtain⟨aw',A,h1,h2,h3,_⟩:=aJE n p m h [cL [] (.agg [xn,xa,xf])] ⟨Qh.mkA ⟨.p _ _ (R0 (Qh.pu (v:=.vw 18 p.Nodes) qn trivial)),.p _ _ (R0 (Qh.pu (v:=.vw 20 p.Arcs) qa trivial)),.p _ _ (R0 (Qh.pu (v:=.vw 1 p.Faces) qf trivial)),trivial⟩,trivial⟩
 have h2:=h2 []
 match aw',h2 with
 | [b],h2=>
  have e:fD A 0 b=dZ A 0 b:=by
   cases b with
   | tup l=>exact (h3 _ ZM l rfl).elim
   | _=>rfl
  have h4:Qp (.rmp 1 1 m) (fD A 0 b):=by rw[e];exact Qh.pu (v:=.rmp 1 1 m) h2.1 trivial
  have e2:cL [] (.agg [xn,xa,xf])=.agg [dE [] xn,dE [] xa,dE [] xf]:=rfl
  rw[e2] at h1
  unfold sdH
  rw[e2]
  simp only[h1]
  show Gy (fD A 0 b)=some m
  obtain⟨rows,h5,h6⟩:=h4.inM
  rcases h5 with⟨h5,rfl⟩ | h5
  .rw[h5];rfl
  .rw[h5];exact aIl m rows h6
theorem aDy: FOK PP T 96 ⟨[.w 25,.w 25,.w 1],[4],false,λn p=>dH n p.1 p.2.1 p.2.2⟩:=by
 rintro n ⟨p,q,m⟩ r h aw w
 match aw,w with
 | [a,b,c],w=>
 obtain⟨w1,w2,w3,_⟩:=w
 have hc:c=.lit (.int .i64 m):=Qh.inL (v:=.int .i64 m) w3
 subst hc
 cases n with
 | zero=>cases h
 | succ n=>
  obtain⟨old,h1,h⟩:=bG h
  obtain⟨new,h2,h⟩:=bG h
  cases h
  refine⟨[.lit (.bool (sdB old m new))],[],?_,λH1=>⟨.l _,trivial⟩,λx hx l e=>(by rw[ZJ.1 hx] at e;cases e),λe=>(by cases e)⟩
  have e:(aF.prim 96:Option aAl)=some (aB3 214):=rfl
  simp only[fH,e]
  show sdA (fH PP T n) 214 [a,b,.lit (.int .i64 m)] []=_
  simp only[sdA,aKR h1 w1,aKR h2 w2,kB]
def J8: Kn:=⟨96,_,aDy⟩
end
end
end Go.Proofs.YtmcgghedgfkjiaaGreatDoor.Av
