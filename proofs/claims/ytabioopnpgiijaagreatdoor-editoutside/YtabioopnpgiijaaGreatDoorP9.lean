/- A part of the proof of a law. -/
import Derived.Test.YtabioopnpgiijaaGreatDoorP8
import Derived.Test.YtabioopnpgiijaaGreatDoorP7
set_option maxRecDepth 100000
set_option maxHeartbeats 4000000
set_option linter.all false
namespace Go.Proofs.YtabioopnpgiijaaGreatDoor.Av
open Go
section
variable {R:Type}(n:Nat)
noncomputable section
abbrev C70:=QY::C69
def xD: Nat->aK->Int->Option Int
 | 0,_,_=>none
 | n+1,a,b=>bnd (xK n a b) λc=>cnd c.2 (cd (b > 0) (some c.1.Left)<|some c.1.Right)<|some 0
def aBi: Kn:=bH 128 0x51c025 C70 [] [] xD
abbrev C71:=aBi::C70
def fS: Nat->dQ->Option (List<|List Int)
 | 0,_=>none
 | n+1,a=>bnd (app [a.outer] a.inner) λb=>some b
def My: Kn:=bH 129 0x44df98f74dae3507248c754 C71 [] [] fS
abbrev C72:=My::C71
def Bb(n:Nat): ((List<|Int×Bool)×Int)->((Bool->Option R)×Unit)->Unit->Option R:=λ(a,b) (c,_) _=>cnd (b==0) (c true)<|cnd ((Option.getD (bX a b) false)) (c true)<|c false
def Jw:=eU Bb
def EU: Lc 105 0 1:=bG 0x4f49fc8463e7f16f2997748fed9b896cdf36305f68d9de84b1a05ebfba71cc4757824201 C72 [] [] @Bb
def pB: (aK×List Int×Int×List Int×Int)->(Int->Option R)->((Unit->Option R)×(Unit->Option R)×Unit)->Int->Option R:=λ(a,b,c,d,f) g (h,i,_) j=>cd (j<f) (bnd (idx d j) λl=>bnd (xD n a l) λm=>cnd (m != c) (h ())<|g<|wr<|j+1)<|i ()
def QW:=tS pB
def EV: Lc 105 0 3:=bQ 0x8aeaebf90cbc7644cb22b4a4d50beb4015f274e9b93c5a36e5e3d78f0e0e4f36bb05d5c3220a535387661095295d C72 [] [] @pB
def pC: (aK×List Int×Int×(List<|List Int)×Int)->(Int->Option R)->((Unit->Option R)×(Unit->Option R)×Unit)->Int->Option R:=λ(a,b,c,d,f) g (h,i,_) j=>cd (j<f) (bnd (idx d j) λl=>bnd2 (QW n (a,b,c,l,(ln l)) 0) (λ_=>h ()) λm=>bnd (some m) λ_=>g<|wr<|j+1)<|i ()
def Jx:=tS pC
def EW: Lc 105 0 2:=bQ 0x7944b26723ac9088ef8285f7f48792c1c7e22b90a152874718c6e1b7f53e04791de2f1a762416cbeb8c6c80ed C72 [⟨0,[cs EV]⟩] [] @pC
def jY: (aK×List dQ×Int)->((List Int×(List<|Int×Bool)×Int)->Option R)->(((List Int×(List<|Int×Bool)×dQ)->Option R)×((List Int×(List<|Int×Bool))->Option R)×Unit)->(List Int×(List<|Int×Bool)×Int)->Option R:=λ(a,b,c) d (f,g,_) (h,i,j)=>cd (j<c) (bnd (idx b j) λl=>cd (j > 0) (bnd (idx l.outer 0) λm=>bnd (xD n a m) λo=>bnd (Jw n (i,o)) λr=>cnd r (f (h,i,l))<|bnd (fS n l) λs=>bnd2 (Jx n (a,h,o,s,(ln s)) 0) (λ_=>f (h,(jS i o true),l)) λt=>bnd (some t) λ_=>bnd (app h [o]) λu=>d (u,(jS i o true),(wr<|j+1)))<|bnd (fS n l) λv=>bnd2 (Jx n (a,h,0,v,(ln v)) 0) (λ_=>f (h,i,l)) λw=>bnd (some w) λ_=>bnd (app h [0]) λx=>d (x,i,(wr<|j+1)))<|g (h,i)
def QX:=tS jY
def EX: Lc 105 0 0:=bQ 0x3c38b1c2cdafa2816c208300303423b5661b2252395e527c48f5e2bc6c421208e766835bcc27e9805cb91dbf5a6b018d89312ce44a608012d73124 C72 [⟨0,[cs EU]⟩,⟨1,[cs EW]⟩] [] @jY
def wQ: Nat->aK->(List dQ)->Option (List Int×Bool)
 | 0,_,_=>none
 | n+1,a,b=>bnd2 (QX n (a,b,(ln b)) ([],[],0)) (λ_=>some ([],false)) λc=>bnd (some c) λd=>cnd ((ln d.2)==(ln a.Faces)) (some (d.1,true))<|some (d.1,false)
def VC: Kn:=bH 105 0x5d532f6b3444ce7716d26d4dd300f C72 [⟨0,[EX]⟩] [] wQ
abbrev C73:=VC::C72
def uB: Nat->aK->Option (List dQ×List Int×(List<|Int×List Aaa)×Int)
 | 0,_=>none
 | n+1,a=>bnd (Ax n a) λb=>cnd (b.2 != 0) (some ([],[],[],b.2))<|bnd (pA n a) λc=>bnd (jI n a b.1 c) λd=>bnd (wQ n a d) λf=>cnd f.2 (some (d,f.1,c,0))<|some ([],[],[],12)
def E9: Kn:=bH 75 0x3938b49253c8eca9a C73 [] [] uB
abbrev C74:=E9::C73
def wR: Nat->aK->Option Int
 | 0,_=>none
 | n+1,a=>bnd (uB n a) λb=>some b.2.2.2
def VE: Kn:=bH 43 0x2e4c72 C74 [] [] wR
abbrev C75:=VE::C74
def MZ: Nat->aG->Option Bool
 | 0,_=>none
 | n+1,a=>cd ((ln a.Parts) > 64) (some true)<|some false
def BC: Kn:=bH 44 0x94a C75 [] [] MZ
abbrev C76:=BC::C75
def jV(n:Nat): aG->((Bool->Option R)×Unit)->Unit->Option R:=λa (b,_) _=>cd (a.ID<1) (b true)<|cd (a.ID > 1073741824) (b true)<|cd (a.Class<1) (b true)<|cd (a.Class > 9) (b true)<|b false
def mC:=eU jV
def Lv: Lc 46 0 0:=bG 0x4714ffd21 C76 [] [] @jV
def MY: Nat->aG->Option Bool
 | 0,_=>none
 | n+1,a=>bnd (mC n a) λb=>cnd b (some true)<|some false
def BB: Kn:=bH 46 0x94a C76 [⟨0,[Lv]⟩] [] MY
abbrev C77:=BB::C76
def MX: Nat->aG->Option Bool
 | 0,_=>none
 | n+1,a=>bnd (cM n a.Kind) λb=>cnd (b==0) (some true)<|some false
def BA: Kn:=bH 47 0x94a C77 [] [] MX
abbrev C78:=BA::C77
def jU: aG->((Bool->Option R)×Unit)->Unit->Option R:=λa (b,_) _=>cd (a.Name=(⟨#[]⟩:ByteArray)) (b false)<|bnd (yJ n a.Name) λc=>cnd (c != 0) (b true)<|b false
def mB:=eU jU
def Lu: Lc 48 0 0:=bG 0x4714ffd21 C78 [] [] @jU
def MW: Nat->aG->Option Bool
 | 0,_=>none
 | n+1,a=>bnd (mB n a) λb=>cnd b (some true)<|some false
def AZ: Kn:=bH 48 0x94a C78 [⟨0,[Lu]⟩] [] MW
abbrev C79:=AZ::C78
def jT: aG->((Bool->Option R)×Unit)->Unit->Option R:=λa (b,_) _=>cnd ((ln a.Parts)==0) (b true)<|bnd (cM n a.Kind) λc=>cnd (c==1) (cd ((ln a.Parts) > 1) (b true)<|b false)<|b false
def hJ:=eU jT
def Lt: Lc 49 0 0:=bG 0x4714ffd21 C79 [] [] @jT
def MV: Nat->aG->Option Bool
 | 0,_=>none
 | n+1,a=>bnd (hJ n a) λb=>cnd b (some true)<|some false
def AY: Kn:=bH 49 0x94a C79 [⟨0,[Lt]⟩] [] MV
abbrev C80:=AY::C79
def lI: Nat->(List Int)->Int->Option Bool
 | 0,_,_=>none
 | n+1,a,b=>bnd (cZ n a b) λc=>cnd c (some true)<|some false
def aCp: Kn:=bH 89 0x748636 C80 [] [] lI
abbrev C81:=aCp::C80
def kW: (aK×aG×Int)->((Bool->Option R)×Unit)->Unit->Option R:=λ(a,b,c) (d,_) _=>bnd (cM n b.Kind) λf=>cnd (f==1) (bnd (fL n a c) λg=>cnd g.2 (d false)<|d true)<|cnd (f==2) (bnd (pL n a c) λh=>cnd h.2 (d false)<|d true)<|cnd (f==3) (bnd (lI n a.Faces c) λi=>cnd i (d false)<|d true)<|d true
def nS:=Bj kW
def Ot: Ic:=cT 106 2 3 0x690c2f1bcac249814420429ba2 C81 [] [] @kW
def eV: (aK×aG×List Int×Int)->(Int->Option R)->((Int->Option R)×(Unit->Option R)×Unit)->Int->Option R:=λ(a,b,c,d) f (g,h,_) i=>cd (i<d) (bnd (idx c i) λj=>bnd (nS n (a,b,j)) λl=>cnd l (g i)<|f<|wr<|i+1)<|h ()
def AU:=tS eV
def Oq: Lc 98 0 0:=bQ 0x2cdd13dc1b2872d661b64a2abc3c2497673ef5c16dbe99b9ea3c C81 [] [Ot] @eV
def kX: (aK×aG×List Int)->((Int->Option R)×Unit)->Unit->Option R:=λ(a,b,c) (d,_) _=>bnd2 (AU n (a,b,c,(ln c)) 0) (λf=>d f) λg=>bnd (some g) λ_=>d (-1)
def nT:=Bj kX
def Ou: Ic:=cT 98 0 2 0x8c625d72d4129fdb247d874fffda6b9fab4ab2a3 C81 [⟨0,[Oq]⟩] [] @kX
def kY: (aK×aG×List Int)->((Bool->Option R)×Unit)->Unit->Option R:=λ(a,b,c) (d,_) _=>bnd (nT n (a,b,c)) λf=>cd (f>=0) (d true)<|d false
def iZ:=Bj kY
def Ov: Ic:=cT 73 0 2 0x237618b2eb74f008b249a6fad0a434ab2a3 C81 [] [Ou] @kY
def RT: Nat->aK->aG->Option Bool
 | 0,_,_=>none
 | n+1,a,b=>bnd (iZ n (a,b,b.Parts)) λc=>cnd c (some true)<|some false
def GO: Kn:=bH 77 0x273038a8d C81 [] [Ov] RT
abbrev Ao:=GO::C81
def yZ(n:Nat): aJ->((Unit->Option R)×Unit)->Unit->Option R:=λa (b,_) _=>b ()
def tA:=Bj yZ
def BN: Ic:=cT 45 0 1 0x1218f79b6e06dd6445cea7eea6d28caeefa Ao [] [] @yZ
def yY(n:Nat): Unit->((((List<|Aac×Bool))->Option R)×Unit)->Unit->Option R:=λ_ (a,_) _=>a []
def sZ:=Bj yY
def BM: Ic:=cT 51 0 0 0xa6060aef4d636a288dc918cf60df2a1ca6854f32aad Ao [] [] @yY
def yT: aG->((Unit->Option R)×(Int->Option R)×Unit)->Unit->Option R:=λa (b,c,_) _=>bnd (cM n a.Kind) λd=>cnd (d==2) (b ())<|cnd (d==3) (c a.Kind)<|c 0
def Fp:=pc2 yT
def BE: Lc 78 0 0:=bG 0x4c2e473c3cf7b370f674c83b658d4c69928cb39cc7890972eefe Ao [] [] @yT
def nV(n:Nat): (Int×List Int×Int)->(((List<|Aac×Bool)×Int)->Option R)->((((List<|Aac×Bool)×Int)->Option R)×(((List<|Aac×Bool))->Option R)×Unit)->((List<|Aac×Bool)×Int)->Option R:=λ(a,b,c) d (f,g,_) (h,i)=>cd (i<c) (bnd (idx b i) λj=>cnd ((Option.getD (bX h<|Aac.mk a j) false)) (f (h,j))<|d ((jS h (Aac.mk a j) true),(wr<|i+1)))<|g h
def NA:=tS nV
def BF: Lc 78 0 1:=bQ 0x85a31d5ae7d1c610bfd1f34f8282486a03042b55c4cdbca2c706badd72907ee9fdde36769b089b5538e170 Ao [] [] @nV
def yV: ((List<|Aac×Bool)×aG)->((((List<|Aac×Bool))->Option R)×(((List<|Aac×Bool)×Int×Int)->Option R)×Unit)->Unit->Option R:=λ(a,b) (c,d,_) _=>bnd2 (Fp n b) (λ_=>c a) λf=>bnd (some f) λg=>bnd2 (NA n (g,b.Parts,(ln b.Parts)) (a,0)) (λh=>d (h.1,g,h.2)) λi=>bnd (some i) λj=>c j
def Fq:=JQ yV
def BI: Ic:=cT 78 0 2 0x3a03a5b069668e39be9056d70b2f7a52d3c0b03a0673f48809a3f2ac21bc037ce03cc Ao [⟨0,[BE]⟩,⟨1,[BF]⟩] [] @yV
def nW: (List aG×Int)->(((List<|Aac×Bool)×Int)->Option R)->((((List<|Aac×Bool)×aG×Int×Int×Int)->Option R)×(((List<|Aac×Bool))->Option R)×Unit)->((List<|Aac×Bool)×Int)->Option R:=λ(a,b) c (d,f,_) (g,h)=>cd (h<b) (bnd (idx a h) λi=>bnd2 (Fq n (g,i)) (λj=>c (j,(wr<|h+1))) λl=>bnd (some l) λm=>d (m.1,i,m.2.1,m.2.2,h))<|f g
def NB:=tS nW
def BG: Lc 79 0 0:=bQ 0x1f3bb62706ad12659b4952d5579fa93679f580e54c58648dcd48c78 Ao [] [BI] @nW
def yW: ((List<|Aac×Bool)×List aG)->((((List<|Aac×Bool)×Int×Int×Int×ByteArray×List Int×Int×Int×Int)->Option R)×(((List<|Aac×Bool))->Option R)×Unit)->Unit->Option R:=λ(a,b) (c,d,_) _=>bnd2 (NB n (b,(ln b)) (a,0)) (λf=>c (f.1,f.2.1.ID,f.2.1.Kind,f.2.1.Class,f.2.1.Name,f.2.1.Parts,f.2.2.1,f.2.2.2.1,f.2.2.2.2)) λg=>bnd (some g) λh=>d h
def Fs:=JQ yW
def BJ: Ic:=cT 79 0 2 0xf6bada9d585bdc5a095e167d278da9775d0fa8529e0ef4936024d5fcc Ao [⟨0,[BG]⟩] [] @yW
def yX: ((List<|Aac×Bool)×List aG)->((((List<|Aac×Bool)×Int×Int×Int×ByteArray×List Int×Int×Int×Bool)->Option R)×(((List<|Aac×Bool))->Option R)×Unit)->Unit->Option R:=λ(a,b) (c,d,_) _=>bnd2 (Fs n (a,b)) (λf=>cd (f.2.2.2.2.2.2.2.2>=0) (c (f.1,f.2.1,f.2.2.1,f.2.2.2.1,f.2.2.2.2.1,f.2.2.2.2.2.1,f.2.2.2.2.2.2.1,f.2.2.2.2.2.2.2.1,true))<|c (f.1,f.2.1,f.2.2.1,f.2.2.2.1,f.2.2.2.2.1,f.2.2.2.2.2.1,f.2.2.2.2.2.2.1,f.2.2.2.2.2.2.2.1,false)) λg=>bnd (some g) λh=>d h
def Fu:=JQ yX
def BK: Ic:=cT 52 0 2 0xf6ce95aaa5ba54523063c10fc4a828ddabcc9fef385219af3664d5fcc Ao [] [BJ] @yX
def Tg: Ic:=cT 106 10 3 0x4923b90b44a21c483d73d88913448 Ao [] [] @kW
def Si: Lc 98 0 0:=bQ 0x2cdd14329f4455bf3ee0e0a03bbf690c80d485413f0f04fd196c Ao [] [Tg] @eV
def Th: Ic:=cT 98 0 2 0xc99e274565661935b79f3536e9ff74a65c5d0 Ao [⟨0,[Si]⟩] [] @kX
def Ti: Ic:=cT 73 0 2 0x23759b3fa8026ab4a1753044d36ade5c5d0 Ao [] [Th] @kY
def wC: (aK×aG)->((Bool->Option R)×Unit)->Unit->Option R:=λ(a,b) (c,_) _=>bnd (iZ n (a,b,b.Parts)) λd=>cnd d (c true)<|c false
def qF:=Bj wC
def Tj: Ic:=cT 77 0 2 0x96dc11ee6262d538da1be30 Ao [] [Ti] @wC
def wD: (aJ×aG)->(((aK×Bool)->Option R)×Unit)->Unit->Option R:=λ(a,b) (c,_) _=>bnd (qF n (a.Plan,b)) λd=>cnd d (c (a.Plan,true))<|c (a.Plan,false)
def qG:=Bj wD
def Tk: Ic:=cT 50 0 2 0xeec8c821f3d89cefd14957281eee022e655df5d4 Ao [] [Tj] @wD
def hZ: (aJ×List aG×Int)->(Int->Option R)->(((aG×aK×aG×Int)->Option R)×(Unit->Option R)×Unit)->Int->Option R:=λ(a,b,c) d (f,g,_) h=>cd (h<c) (bnd (idx b h) λi=>bnd (qG n (a,i)) λj=>cnd j.2 (f (i,j.1,i,h))<|d<|wr<|h+1)<|g ()
def GW:=tS hZ
def Sj: Lc 79 0 0:=bQ 0x137dcb88da3e831df614e092d234a0d471a6c825743a19721a30bb588c Ao [] [Tk] @hZ
def wE: (aJ×List aG)->(((aG×aK×aG×Int)->Option R)×(Unit->Option R)×Unit)->Unit->Option R:=λ(a,b) (c,d,_) _=>bnd2 (GW n (a,b,(ln b)) 0) (λf=>c (f.1,f.2.1,f.2.2.1,f.2.2.2)) λg=>bnd (some g) λ_=>d ()
def qH:=JQ wE
def Tl: Ic:=cT 79 0 2 0x5349cb1cb1b804198555f3dd313e438eaaf129b8d5dc5c9145f21bb93e7349c2d4 Ao [⟨0,[Sj]⟩] [] @wE
def yU: (aJ×List aG)->(((aG×aK×aG×Bool)->Option R)×(Unit->Option R)×Unit)->Unit->Option R:=λ(a,b) (c,d,_) _=>bnd2 (qH n (a,b)) (λf=>cd (f.2.2.2>=0) (c (f.1,f.2.1,f.2.2.1,true))<|c (f.1,f.2.1,f.2.2.1,false)) λg=>bnd (some g) λ_=>d ()
def sY:=JQ yU
def BH: Ic:=cT 52 0 2 0x2dbfd52f657e586cdceb4fa87cd4c2f55485039683d5a5512b8f49c2d4 Ao [] [Tl] @yU
def Sa: Lc 49 0 0:=bG 0x1132d95d9e865479d2 Ao [] [] @jT
def vZ: aG->((Bool->Option R)×Unit)->Unit->Option R:=λa (b,_) _=>bnd (hJ n a) λc=>cnd c (b true)<|b false
def qC:=Bj vZ
def Td: Ic:=cT 49 0 1 0x95b Ao [⟨0,[Sa]⟩] [] @vZ
def hU: (List aG×Int)->(Int->Option R)->(((aG×Int)->Option R)×(Unit->Option R)×Unit)->Int->Option R:=λ(a,b) c (d,f,_) g=>cd (g<b) (bnd (idx a g) λh=>bnd (qC n h) λi=>cnd i (d (h,g))<|c<|wr<|g+1)<|f ()
def GV:=tS hU
def Sg: Lc 79 0 0:=bQ 0x487b1b8b4 Ao [] [Td] @hU
def wA: (List aG)->(((aG×Int)->Option R)×(Unit->Option R)×Unit)->Unit->Option R:=λa (b,c,_) _=>bnd2 (GV n (a,(ln a)) 0) (λd=>b (d.1,d.2)) λf=>bnd (some f) λ_=>c ()
def qD:=JQ wA
def Te: Ic:=cT 79 0 2 0x485c14156 Ao [⟨0,[Sg]⟩] [] @wA
def wB: (List aG)->(((aG×Bool)->Option R)×(Unit->Option R)×Unit)->Unit->Option R:=λa (b,c,_) _=>bnd2 (qD n a) (λd=>cd (d.2>=0) (b (d.1,true))<|b (d.1,false)) λf=>bnd (some f) λ_=>c ()
def qE:=JQ wB
def Tf: Ic:=cT 52 0 2 0x4863d5e66 Ao [] [Te] @wB
def Rz: Lc 48 0 0:=bG 0x1132d95d9e865479d2 Ao [] [] @jU
def vW: aG->((Bool->Option R)×Unit)->Unit->Option R:=λa (b,_) _=>bnd (mB n a) λc=>cnd c (b true)<|b false
def Bq:=Bj vW
def Ta: Ic:=cT 48 0 1 0x95b Ao [⟨0,[Rz]⟩] [] @vW
def mF: (List aG×Int)->(Int->Option R)->(((aG×Int)->Option R)×(Unit->Option R)×Unit)->Int->Option R:=λ(a,b) c (d,f,_) g=>cd (g<b) (bnd (idx a g) λh=>bnd (Bq n h) λi=>cnd i (d (h,g))<|c<|wr<|g+1)<|f ()
def GU:=tS mF
def Sf: Lc 79 0 0:=bQ 0x487b1ad90 Ao [] [Ta] @mF
def vX: (List aG)->(((aG×Int)->Option R)×(Unit->Option R)×Unit)->Unit->Option R:=λa (b,c,_) _=>bnd2 (GU n (a,(ln a)) 0) (λd=>b (d.1,d.2)) λf=>bnd (some f) λ_=>c ()
def Br:=JQ vX
def Tb: Ic:=cT 79 0 2 0x485c13632 Ao [⟨0,[Sf]⟩] [] @vX
def vY: (List aG)->(((aG×Bool)->Option R)×(Unit->Option R)×Unit)->Unit->Option R:=λa (b,c,_) _=>bnd2 (Br n a) (λd=>cd (d.2>=0) (b (d.1,true))<|b (d.1,false)) λf=>bnd (some f) λ_=>c ()
def Bs:=JQ vY
def Tc: Ic:=cT 52 0 2 0x4863d5342 Ao [] [Tb] @vY
def vT: aG->((Bool->Option R)×Unit)->Unit->Option R:=λa (b,_) _=>bnd (cM n a.Kind) λc=>cnd (c==0) (b true)<|b false
def pZ:=Bj vT
def Sw: Ic:=cT 47 0 1 0x95b Ao [] [] @vT
def hM: (List aG×Int)->(Int->Option R)->(((aG×Int)->Option R)×(Unit->Option R)×Unit)->Int->Option R:=λ(a,b) c (d,f,_) g=>cd (g<b) (bnd (idx a g) λh=>bnd (pZ n h) λi=>cnd i (d (h,g))<|c<|wr<|g+1)<|f ()
def GT:=tS hM
def Se: Lc 79 0 0:=bQ 0x487b1a26c Ao [] [Sw] @hM
def vU: (List aG)->(((aG×Int)->Option R)×(Unit->Option R)×Unit)->Unit->Option R:=λa (b,c,_) _=>bnd2 (GT n (a,(ln a)) 0) (λd=>b (d.1,d.2)) λf=>bnd (some f) λ_=>c ()
def qA:=JQ vU
def Sy: Ic:=cT 79 0 2 0x485c12b0e Ao [⟨0,[Se]⟩] [] @vU
def vV: (List aG)->(((aG×Bool)->Option R)×(Unit->Option R)×Unit)->Unit->Option R:=λa (b,c,_) _=>bnd2 (qA n a) (λd=>cd (d.2>=0) (b (d.1,true))<|b (d.1,false)) λf=>bnd (some f) λ_=>c ()
def qB:=JQ vV
def Sz: Ic:=cT 52 0 2 0x4863d481e Ao [] [Sy] @vV
def Ry: Lc 46 0 0:=bG 0x1132d95d9e865479d2 Ao [] [] @jV
def vQ: aG->((Bool->Option R)×Unit)->Unit->Option R:=λa (b,_) _=>bnd (mC n a) λc=>cnd c (b true)<|b false
def Bn:=Bj vQ
def Sr: Ic:=cT 46 0 1 0x95b Ao [⟨0,[Ry]⟩] [] @vQ
def mE: (List aG×Int)->(Int->Option R)->(((aG×Int)->Option R)×(Unit->Option R)×Unit)->Int->Option R:=λ(a,b) c (d,f,_) g=>cd (g<b) (bnd (idx a g) λh=>bnd (Bn n h) λi=>cnd i (d (h,g))<|c<|wr<|g+1)<|f ()
def GS:=tS mE
def Sd: Lc 79 0 0:=bQ 0x487b19748 Ao [] [Sr] @mE
def vR: (List aG)->(((aG×Int)->Option R)×(Unit->Option R)×Unit)->Unit->Option R:=λa (b,c,_) _=>bnd2 (GS n (a,(ln a)) 0) (λd=>b (d.1,d.2)) λf=>bnd (some f) λ_=>c ()
def Bo:=JQ vR
def Ss: Ic:=cT 79 0 2 0x485c11fea Ao [⟨0,[Sd]⟩] [] @vR
def vS: (List aG)->(((aG×Bool)->Option R)×(Unit->Option R)×Unit)->Unit->Option R:=λa (b,c,_) _=>bnd2 (Bo n a) (λd=>cd (d.2>=0) (b (d.1,true))<|b (d.1,false)) λf=>bnd (some f) λ_=>c ()
def Bp:=JQ vS
def Sv: Ic:=cT 52 0 2 0x4863d3cfa Ao [] [Ss] @vS
def vJ: (aJ×Int×aG)->((Bool->Option R)×Unit)->Unit->Option R:=λ(a,b,c) (d,_) _=>cd (b > 1) (bnd (idx a.Features<|wr<|b-2) λf=>cd (f.ID>=c.ID) (d true)<|bnd (uH n c.Parts) λg=>cnd g (d false)<|d true)<|bnd (uH n c.Parts) λh=>cnd h (d false)<|d true
def pU:=eU vJ
def Rx: Lc 76 0 0:=bG 0xcef02ee5714692cae69a3d47392342181628b052e71 Ao [] [] @vJ
def vN: (aJ×Int×aG)->(((Int×Bool)->Option R)×Unit)->Unit->Option R:=λ(a,b,c) (d,_) _=>bnd (pU n (a,(wr<|b+1),c)) λf=>cnd f (d ((wr<|b+1),true))<|d ((wr<|b+1),false)
def pW:=Bj vN
def So: Ic:=cT 76 0 3 0x156eae51ccc04a6d9891786b24cf87de6a0261 Ao [⟨0,[Rx]⟩] [] @vN
def hK: (aJ×List aG×Int)->((Int×Int)->Option R)->(((Int×aG×Int)->Option R)×(Int->Option R)×Unit)->(Int×Int)->Option R:=λ(a,b,c) d (f,g,_) (h,i)=>cd (i<c) (bnd (idx b i) λj=>bnd (pW n (a,h,j)) λl=>cnd l.2 (f (l.1,j,i))<|d (l.1,(wr<|i+1)))<|g h
def GR:=tS hK
def Sc: Lc 79 0 0:=bQ 0xa8b246e8a40b9bfcad5a28ab78abcc280eb0f468537add9fcac8eec2fa06871 Ao [] [So] @hK
def vO: (aJ×Int×List aG)->(((Int×aG×Int)->Option R)×(Int->Option R)×Unit)->Unit->Option R:=λ(a,b,c) (d,f,_) _=>bnd2 (GR n (a,c,(ln c)) (b,0)) (λg=>d (g.1,g.2.1,g.2.2)) λh=>bnd (some h) λi=>f i
def pX:=JQ vO
def Sp: Ic:=cT 79 0 2 0x419b22446b8ba2b988042d0354494d58cdfc5ca065a735 Ao [⟨0,[Sc]⟩] [] @vO
def vP: (aJ×Int×List aG)->(((Int×aG×Bool)->Option R)×(Int->Option R)×Unit)->Unit->Option R:=λ(a,b,c) (d,f,_) _=>bnd2 (pX n (a,b,c)) (λg=>cd (g.2.2>=0) (d (g.1,g.2.1,true))<|d (g.1,g.2.1,false)) λh=>bnd (some h) λi=>f i
def pY:=JQ vP
def Sq: Ic:=cT 52 0 2 0x5e4073c28fcfec8af5a45c142551528c66c3969a735 Ao [] [Sp] @vP
def vK(n:Nat): aG->((Bool->Option R)×Unit)->Unit->Option R:=λa (b,_) _=>cd ((ln a.Parts) > 64) (b true)<|b false
def pV:=Bj vK
def Sk: Ic:=cT 44 0 1 0x95b Ao [] [] @vK
def mD: (List aG×Int)->(Int->Option R)->(((aG×Int)->Option R)×(Unit->Option R)×Unit)->Int->Option R:=λ(a,b) c (d,f,_) g=>cd (g<b) (bnd (idx a g) λh=>bnd (pV n h) λi=>cnd i (d (h,g))<|c<|wr<|g+1)<|f ()
def GQ:=tS mD
def Sb: Lc 79 0 0:=bQ 0x487b18100 Ao [] [Sk] @mD
def vL: (List aG)->(((aG×Int)->Option R)×(Unit->Option R)×Unit)->Unit->Option R:=λa (b,c,_) _=>bnd2 (GQ n (a,(ln a)) 0) (λd=>b (d.1,d.2)) λf=>bnd (some f) λ_=>c ()
def Bl:=JQ vL
def Sl: Ic:=cT 79 0 2 0x485c109a2 Ao [⟨0,[Sb]⟩] [] @vL
def vM: (List aG)->(((aG×Bool)->Option R)×(Unit->Option R)×Unit)->Unit->Option R:=λa (b,c,_) _=>bnd2 (Bl n a) (λd=>cd (d.2>=0) (b (d.1,true))<|b (d.1,false)) λf=>bnd (some f) λ_=>c ()
def Bm:=JQ vM
def Sn: Ic:=cT 52 0 2 0x4863d26b2 Ao [] [Sl] @vM
def dR: Nat->aJ->Option Int
 | 0,_=>none
 | n+1,a=>bnd (wR n a.Plan) λb=>cnd (b != 0) (some b)<|cd ((ln a.Features) > 128) (some 3)<|bnd (tA n a) λ_=>bnd (sZ n ()) λc=>bnd (Ls<|Nat.ble 9 n) λ_=>(let d:=(let f:=λ(g:Int)=>(let h:=(let i:=(let j:=(let l:=(let m:=(let o:=λ(r:(List<|Aac×Bool))=>some 0;(bnd2 (Fu n (c,a.Features)) (λs=>cnd s.2.2.2.2.2.2.2.2 (some 13)<|o s.1) λt=>bnd (some t) λu=>o u));(bnd2 (sY n (a,a.Features)) (λv=>cnd v.2.2.2 (some 7) m) λw=>bnd (some w) λ_=>m));(bnd2 (qE n a.Features) (λx=>cnd x.2 (some 1) l) λy=>bnd (some y) λ_=>l));(bnd2 (Bs n a.Features) (λz=>cnd z.2 (some 14) j) λa0=>bnd (some a0) λ_=>j));(bnd2 (qB n a.Features) (λb0=>cnd b0.2 (some 9) i) λc0=>bnd (some c0) λ_=>i));(bnd2 (Bp n a.Features) (λd0=>cnd d0.2 (some 2) h) λf0=>bnd (some f0) λ_=>h));(bnd2 (pY n (a,0,a.Features)) (λg0=>cnd g0.2.2 (some 10)<|f g0.1) λh0=>bnd (some h0) λi0=>f i0));(bnd2 (Bm n a.Features) (λj0=>cnd j0.2 (some 3) d) λl0=>bnd (some l0) λ_=>d))
def RY: Kn:=bH 17 0xf9efee8f7efed4 Ao [] [BN,BM,BK,BH,Tf,Tc,Sz,Sv,Sq,Sn] dR
abbrev C83:=RY::Ao
def s8: Nat->Aab->Int->Option Int
 | 0,_,_=>none
 | n+1,a,b=>bnd (dA n a.ID b) λc=>some c
def NZ: Kn:=bH 108 0x51bfdb C83 [] [] s8
abbrev C84:=NZ::C83
def He: (Aab×Int)->((Int->Option R)×Unit)->Unit->Option R:=λ(a,b) (c,_) _=>bnd (dA n a.ID b) λd=>c d
def qL:=Bj He
def Hc: Ic:=cT 108 0 2 0x6ea442b7290069ce9e13 C84 [] [] @He
def tM: (List Aab×Int)->((Int×Int)->Option R)->((Int->Option R)×Unit)->(Int×Int)->Option R:=λ(a,b) c (d,_) (f,g)=>cd (f<g) (bnd (idx a<|wr<|Int.fdiv (IntKind.u64.wrap<|wr<|f+g) 2) λh=>bnd (qL n (h,b)) λi=>cd (i<0) (c ((wr<|(wr<|Int.fdiv (IntKind.u64.wrap<|wr<|f+g) 2)+1),g))<|c (f,(wr<|Int.fdiv (IntKind.u64.wrap<|wr<|f+g) 2)))<|d f
def s9:=rG tM
def OA: Lc 107 0 0:=bQ 0x1353a95f51eee417ed2a6bd27e6cadc214e2cafcdc76b51ba C84 [] [Hc] @tM
def Hf: (List Aab×Int)->(((Aab×Int×Bool)->Option R)×(Int->Option R)×Unit)->Unit->Option R:=λ(a,b) (c,d,_) _=>bnd (s9 n (a,b) (0,(ln a))) λf=>cd (f<(ln a)) (bnd (idx a f) λg=>bnd (qL n (g,b)) λh=>cnd (h==0) (c (g,f,true))<|c (g,f,false))<|d f
def Pb:=JQ Hf
def OB: Ic:=cT 107 0 3 0x1179069c05c1bda65f794a223cc9ba306760ee22505e C84 [⟨0,[OA]⟩] [Hc] @Hf
def oP: Nat->aJ->Int->Option (Int×Bool)
 | 0,_,_=>none
 | n+1,a,b=>bnd2 (Pb n (a.Plan.Nodes,b)) (λc=>cnd c.2.2 (some (c.2.1,true))<|some (c.2.1,false)) λd=>bnd (some d) λf=>some (f,false)
def H6: Kn:=bH 80 0x75ca57 C84 [] [OB] oP
abbrev C85:=H6::C84
def yS: (aG×Int×Int)->((Bool->Option R)×Unit)->Unit->Option R:=λ(a,b,c) (d,_) _=>bnd (cM n a.Kind) λf=>cnd (f==b) (bnd (cZ n a.Parts c) λg=>cnd g (d true)<|d false)<|d false
def Fo:=eU yS
def AW: Lc 83 0 1:=bG 0x11af33d5ec5cdb3a69d88f76e3620865b937a9cafe3de561f46dc334af036 C85 [] [] @yS
def nU: (Int×Int×List aG×Int)->((List Int×Int)->Option R)->(((List Int)->Option R)×Unit)->(List Int×Int)->Option R:=λ(a,b,c,d) f (g,_) (h,i)=>cd (i<d) (bnd (idx c i) λj=>bnd (Fo n (j,a,b)) λl=>cnd l (bnd (app h [j.ID]) λm=>f (m,(wr<|i+1)))<|f (h,(wr<|i+1)))<|g h
def MU:=rG nU
def AX: Lc 83 0 0:=bQ 0x2a447223951e4dcde946b25ebc75408aa070b0a243c1b7466fcecdb C85 [⟨0,[cs AW]⟩] [] @nU
def jL: Nat->aJ->Int->Int->Option (List Int)
 | 0,_,_,_=>none
 | n+1,a,b,c=>cd (b<1) (some [])<|cd (b > 3) (some [])<|bnd (MU n (b,c,a.Features,(ln a.Features)) ([],0)) λd=>some d
def RU: Kn:=bH 83 0xc289611d3036d4615037 C85 [⟨0,[AX]⟩] [] jL
abbrev C86:=RU::C85
def I0: Nat->aQ->Int->Option Int
 | 0,_,_=>none
 | n+1,a,b=>bnd (dA n a.ID b) λc=>some c
def SJ: Kn:=bH 117 0x38e7d4cbc C86 [] [] I0
abbrev C87:=SJ::C86
def Ky: (aQ×Int)->((Int->Option R)×Unit)->Unit->Option R:=λ(a,b) (c,_) _=>bnd (dA n a.ID b) λd=>c d
def tU:=Bj Ky
def Kx: Ic:=cT 117 0 2 0x6ea442b72900fe295b33 C87 [] [] @Ky
def uZ: (List aQ×Int)->((Int×Int)->Option R)->((Int->Option R)×Unit)->(Int×Int)->Option R:=λ(a,b) c (d,_) (f,g)=>cd (f<g) (bnd (idx a<|wr<|Int.fdiv (IntKind.u64.wrap<|wr<|f+g) 2) λh=>bnd (tU n (h,b)) λi=>cd (i<0) (c ((wr<|(wr<|Int.fdiv (IntKind.u64.wrap<|wr<|f+g) 2)+1),g))<|c (f,(wr<|Int.fdiv (IntKind.u64.wrap<|wr<|f+g) 2)))<|d f
def I1:=rG uZ
def SK: Lc 116 0 0:=bQ 0x1353a95f51eee4181822cd79c855b1c5939d07982915917ca C87 [] [Kx] @uZ
def Kz: (List aQ×Int)->(((aQ×Int×Bool)->Option R)×(Int->Option R)×Unit)->Unit->Option R:=λ(a,b) (c,d,_) _=>bnd (I1 n (a,b) (0,(ln a))) λf=>cd (f<(ln a)) (bnd (idx a f) λg=>bnd (tU n (g,b)) λh=>cnd (h==0) (c (g,f,true))<|c (g,f,false))<|d f
def Uq:=JQ Kz
def SL: Ic:=cT 116 0 3 0x191817dab1050374e8664a0e5dd339e0f79ba166e C87 [⟨0,[SK]⟩] [Kx] @Kz
def Ad: Nat->aJ->Int->Option (Int×Bool)
 | 0,_,_=>none
 | n+1,a,b=>bnd2 (Uq n (a.Plan.Arcs,b)) (λc=>cnd c.2.2 (some (c.2.1,true))<|some (c.2.1,false)) λd=>bnd (some d) λf=>some (f,false)
def aA8: Kn:=bH 86 0x75ca57 C87 [] [SL] Ad
abbrev C88:=aA8::C87
def aNr: Kn:=aQb 163 0 10 ⟨_,_,_,rfl,by decide,by decide⟩ (λn p=>clF n p) (λp=>p) λn p r h=>by obtain⟨m,h1,h2,h3⟩:=aQd h;subst h2;exact⟨m,h1,rfl,h3,rfl,λe=>by cases (e:_=[]);rfl⟩
abbrev C89:=aNr::C88
def lE: (List Int×List Aab×List aQ×Int)->((List aQ×Int)->Option R)->(((List aQ)->Option R)×Unit)->(List aQ×Int)->Option R:=λ(a,b,c,d) f (g,_) (h,i)=>cd (i<d) (bnd (idx c i) λj=>bnd (clF n j.Via) λl=>bnd (app h [(aQ.mk j.ID j.From j.To l 0 0)]) λm=>f (m,(wr<|i+1)))<|g h
def Mx:=rG lE
def KQ: Lc 137 0 0:=bQ 0x35a9178b17c06ad1cbb122f7f54b9884343ffbb352bd91f52770f40d9bc1ea043c6c3db5213 C89 [] [] @lE
def aB7: Nat->aK->Option aK
 | 0,_=>none
 | n+1,a=>bnd (clF n a.Nodes) λb=>bnd (Mx n ([],b,a.Arcs,(ln a.Arcs)) ([],0)) λc=>some<|aK.mk b c []
def F1: Kn:=bH 137 0x44df6d570e30084bf04815a C89 [⟨0,[KQ]⟩] [] aB7
abbrev C90:=F1::C89
def Jv(n:Nat): (Int×Int)->((Bool->Option R)×Unit)->Unit->Option R:=λ(a,b) (c,_) _=>cd ((iY b<|wr<|0-b)<(iY a<|wr<|0-a)) (c true)<|cnd (b==(wr<|0-a)) (cd (b > 0) (c true)<|c false)<|c false
def F0:=eU Jv
def QU: Lc 164 0 1:=bG 0x1c8a878269c6f61c103cbecf0788f6d8 C90 [] [] @Jv
def uQ: (List Int×Int)->((Int×Int)->Option R)->((Int->Option R)×Unit)->(Int×Int)->Option R:=λ(a,b) c (d,_) (f,g)=>cd (g<b) (bnd (idx a g) λh=>bnd (F0 n (f,h)) λi=>cnd i (c (h,(wr<|g+1)))<|c (f,(wr<|g+1)))<|d f
def Ui:=rG uQ
def QV: Lc 164 0 0:=bQ 0x2553ddef78e073cc8ed0246a93f5f C90 [⟨0,[cs QU]⟩] [] @uQ
def nH: Nat->(List Int)->Option Int
 | 0,_=>none
 | n+1,a=>bnd (idx a 0) λb=>bnd (Ui n (a,(ln a)) (b,0)) λc=>some c
def T7: Kn:=bH 164 0x2e4b0d C90 [⟨0,[QV]⟩] [] nH
abbrev C91:=T7::C90
def vA(n:Nat): (List Int×Int)->(Int->Option R)->((Int->Option R)×(Unit->Option R)×Unit)->Int->Option R:=λ(a,b) c (d,f,_) g=>cd (g<b) (bnd (idx a g) λh=>cnd (h != 0) (d h)<|c<|wr<|g+1)<|f ()
def I6:=tS vA
def SR: Lc 175 0 0:=bQ 0xbed6e68f727ca7b23d9c91e83b6f66f74cade03b C91 [] [] @vA
def DY: Nat->(List Int)->Option Int
 | 0,_=>none
 | n+1,a=>bnd2 (I6 n (a,(ln a)) 0) (λb=>some b) λc=>bnd (some c) λ_=>some 0
def aAB: Kn:=bH 175 0x2e4b0d C91 [⟨0,[SR]⟩] [] DY
abbrev C92:=aAB::C91
def nI: Nat->Int->Int->Option Int
 | 0,_,_=>none
 | n+1,a,b=>bnd (dA n (iY a<|wr<|0-a)<|iY b<|wr<|0-b) λc=>bnd (dA n b a) λd=>bnd (DY n [c,d]) λf=>some f
def Mw: Kn:=bH 165 0x79262d922f729618f597 C92 [] [] nI
abbrev C93:=Mw::C92
def nB: Nat->dQ->dQ->Option Int
 | 0,_,_=>none
 | n+1,a,b=>bnd (nH n a.outer) λc=>bnd (nH n b.outer) λd=>bnd (nI n c d) λf=>some f
def EZ: Kn:=bH 139 0x21463744750a2e4 C93 [] [] nB
abbrev C94:=EZ::C93
def FE: Lc 137 2 0:=bQ 0x689261d67a08169854c73d676befe154fe0b015d3ca447980115036690bd21ef1ceeac24 C94 [] [] @lE
end
end
section
variable {R:Type}(n:Nat)
noncomputable section
def Bc: aK->(((List aQ×List Int×List Aab×List Aab)->Option R)×Unit)->Unit->Option R:=λa (b,_) _=>bnd (clF n a.Nodes) λc=>bnd (Mx n ([],c,a.Arcs,(ln a.Arcs)) ([],0)) λd=>b (d,[],c,c)
def Ka:=Bj Bc
def FF: Ic:=cT 137 2 1 0x47759b83282f31bbf786a19ae40d6600975182b88ecb41643c21f7295ad5fe8bf55a1ec6 C94 [⟨0,[FE]⟩] [] @Bc
def pE(n:Nat): (Int×List Int×Int)->(((List<|Int×Int)×Int)->Option R)->((((List<|Int×Int))->Option R)×Unit)->((List<|Int×Int)×Int)->Option R:=λ(a,b,c) d (f,_) (g,h)=>cd (h<c) (bnd (idx b h) λi=>d ((jS g i<|wr<|a+1),(wr<|h+1)))<|f g
def QZ:=rG pE
def FB: Lc 111 0 2:=bQ 0xbe099bbbff0d56735cdd0d3c0c97aed3ff14bc8c99a8cd0720330c3e74beca17ceb2146544 C94 [] [] @pE
def pF: (Int×(List<|List Int)×Int)->(((List<|Int×Int)×Int)->Option R)->((((List<|Int×Int))->Option R)×Unit)->((List<|Int×Int)×Int)->Option R:=λ(a,b,c) d (f,_) (g,h)=>cd (h<c) (bnd (idx b h) λi=>bnd (QZ n (a,i,(ln i)) (g,0)) λj=>d (j,(wr<|h+1)))<|f g
def RC:=rG pF
def FC: Lc 111 0 1:=bQ 0x15099b999ecbb487e40bf92baf03e0b6f2ead5cfe668b6e3adfaebb686744 C94 [⟨0,[cs FB]⟩] [] @pF
def pG: (List aQ×List Aab×List Aab×List dQ×(Nat×Nat)×Int)->((List Int×(List<|Int×Int)×Int)->Option R)->(((List Int×(List<|Int×Int))->Option R)×Unit)->(List Int×(List<|Int×Int)×Int)->Option R:=λ(a,b,c,d,f,g) h (i,_) (j,l,m)=>cd (m<g) (bnd (idx (win d<|some f) m) λ_=>bnd (idx d<|m+((f.1:Nat):Int)) λo=>bnd (app j [(wr<|m+1)]) λr=>bnd (fS n o) λs=>bnd (RC n (m,s,(ln s)) (l,0)) λt=>h (r,t,(wr<|m+1)))<|i (j,l)
def Jz:=rG pG
def FD: Lc 111 0 0:=bQ 0xfc1af1acf1d945c8df0d7e80355512737c0e56835cfc29382ef3fc07b8dead9ffaa3d5d8873c4a3ac056c6abc9cb6d3f3b5ef5e1c06ff9033b279879ad7f69a3012736162c26a6f914c00 C94 [⟨0,[cs FC]⟩] [] @pG
def pD(n:Nat): (List Int×List Aab×List Aab×(List<|Int×Int)×Int)->((List aQ×Int)->Option R)->(((List aQ)->Option R)×Unit)->(List aQ×Int)->Option R:=λ(a,b,c,d,f) g (h,_) (i,j)=>cd (j<f) (bnd (gR i (List.length i) j) λ_=>bnd (idx i j) λl=>bnd (gR i (List.length i) j) λ_=>bnd (idx i j) λm=>bnd (gR (List.set i (Int.toNat j)<|aQ.mk m.ID m.From m.To m.Via (Option.getD (bX d l.ID) 0) m.Right) (List.length<|List.set i (Int.toNat j)<|aQ.mk m.ID m.From m.To m.Via (Option.getD (bX d l.ID) 0) m.Right) j) λ_=>bnd (idx (List.set i (Int.toNat j)<|aQ.mk m.ID m.From m.To m.Via (Option.getD (bX d l.ID) 0) m.Right) j) λo=>g ((List.set (List.set i (Int.toNat j)<|aQ.mk m.ID m.From m.To m.Via (Option.getD (bX d l.ID) 0) m.Right) (Int.toNat j)<|aQ.mk o.ID o.From o.To o.Via o.Left<|Option.getD (bX d<|wr<|0-l.ID) 0),(wr<|j+1)))<|h i
def Jy:=rG pD
def FA: Lc 111 0 3:=bQ 0x11d3431ea21209b29f1f3584d79dcb4752320932774f728a89931f12561e0f4891cf808e7d9518b8a81d71146497ff931858a11289c2822964f45a208bf0b9d C94 [] [] @pD
def Io: Nat->aK->Option (aK×Int)
 | 0,_=>none
 | n+1,a=>bnd (Ka n a) λb=>bnd (Ax n<|aK.mk b.2.2.2 b.1 b.2.1) λc=>cnd (c.2 != 0) (some ((aK.mk [] [] []),c.2))<|bnd (pA n<|aK.mk b.2.2.2 b.1 b.2.1) λd=>bnd (jI n (aK.mk b.2.2.2 b.1 b.2.1) c.1 d) λf=>bnd (sub f (0,List.length f) 1<|ln f) λg=>cd (((g.2:Nat):Int) > 64) (some ((aK.mk [] [] []),3))<|bnd (prd n) λh=>bnd (Ls<|decide<|List.length f<=1000000/\g.1+g.2<=List.length f) λ_=>bnd (qZ (λ(i j:dQ)=>bnd (nB h i j) λl=>some l)<|win f<|some g) λm=>bnd (Jz n (b.1,b.2.2.1,b.2.2.2,(aT f g.1 m),g,((g.2:Nat):Int)) (b.2.1,[],0)) λo=>bnd (Jy n (o.1,b.2.2.1,b.2.2.2,o.2,(ln b.1)) (b.1,0)) λr=>some ((aK.mk b.2.2.2 r o.1),0)
def VD: Kn:=bH 111 0x109774088d5a0be C94 [⟨0,[FD]⟩,⟨3,[FA]⟩] [FF] Io
abbrev C95:=VD::C94
def jZ: Nat->dW->dW->Option Int
 | 0,_,_=>none
 | n+1,a,b=>bnd (dA n a.Face b.Face) λc=>some c
def Rg: Kn:=bH 141 0x2146389e21fe874 C95 [] [] jZ
abbrev C96:=Rg::C95
def lT(n:Nat): (List Int×List dQ×Int)->((List dW×Int)->Option R)->(((List dW)->Option R)×Unit)->(List dW×Int)->Option R:=λ(a,b,c) d (f,_) (g,h)=>cd (h<c) (bnd (idx b h) λi=>bnd (idx a h) λj=>bnd (app g [(dW.mk j i.outer i.inner i.alone)]) λl=>d (l,(wr<|h+1)))<|f g
def EY:=rG lT
def Rh: Lc 112 0 0:=bQ 0x255ce8ac065e782b376c4ca39ef21b919416af4487d14b6d2bd6139072260a11cf7296ed66cdc7 C96 [] [] @lT
def kP: Nat->aK->Option (List dW×Int)
 | 0,_=>none
 | n+1,a=>bnd (uB n a) λb=>cnd (b.2.2.2 != 0) (some ([],b.2.2.2))<|bnd (EY n (b.2.1,b.1,(ln b.1)) ([],0)) λc=>bnd (prd n) λd=>bnd (Ls<|decide<|List.length c<=1000000) λ_=>bnd (qZ (λ(f g:dW)=>bnd (jZ d f g) λh=>some h) c) λi=>some (i,0)
def KR: Kn:=bH 112 0x179f6387dcdc40c C96 [⟨0,[Rh]⟩] [] kP
abbrev C97:=KR::C96
def uY(n:Nat): ((List<|List Int)×Int)->((List Int×Int)->Option R)->(((List Int)->Option R)×Unit)->(List Int×Int)->Option R:=λ(a,b) c (d,_) (f,g)=>cd (g<b) (bnd (idx a g) λh=>bnd (app f h) λi=>c (i,(wr<|g+1)))<|d f
def H9:=rG uY
def SG: Lc 114 0 0:=bQ 0x9c19e49c0968ea93443625db7aeeff41199fed83 C97 [] [] @uY
def Jb: Nat->dW->Option (List Int)
 | 0,_=>none
 | n+1,a=>bnd (app ([]:List Int) a.Outer) λb=>bnd (H9 n (a.Inner,(ln a.Inner)) (b,0)) λc=>some c
def aA7: Kn:=bH 114 0x1914bae03ad25d7 C97 [⟨0,[SG]⟩] [] Jb
abbrev C98:=aA7::C97
def Fv(n:Nat): (Int×Int)->((Bool->Option R)×Unit)->Unit->Option R:=λ(a,b) (c,_) _=>cnd (b != a) (cnd (b != (wr<|0-a)) (c true)<|c false)<|c false
def Ox:=eU Fv
def NG: Lc 113 0 2:=bG 0x7bc1270eaeb780b735b61dc7af651ed8e5079749ed757f072 C98 [] [] @Fv
def tB: (aK×Int×List Int×Int)->(Int->Option R)->((Int->Option R)×(Unit->Option R)×Unit)->Int->Option R:=λ(a,b,c,d) f (g,h,_) i=>cd (i<d) (bnd (idx c i) λj=>bnd (Ox n (b,j)) λl=>cnd l (bnd (xD n a j) λm=>g m)<|f<|wr<|i+1)<|h ()
def r5:=tS tB
def NH: Lc 113 0 1:=bQ 0x5ee150e7765690f2a4ecea22238fd3b081dc2fadbc8426b62c34d5aa6c573bf156 C98 [⟨0,[cs NG]⟩] [] @tB
def tC: (aK×Int×List dW×Int)->(Int->Option R)->(((dW×Int)->Option R)×(Unit->Option R)×Unit)->Int->Option R:=λ(a,b,c,d) f (g,h,_) i=>cd (i<d) (bnd (idx c i) λj=>bnd (Jb n j) λl=>bnd2 (r5 n (a,b,l,(ln l)) 0) (λm=>g (j,m)) λo=>bnd (some o) λ_=>f<|wr<|i+1)<|h ()
def r6:=tS tC
def NI: Lc 113 0 0:=bQ 0x771869717f65f31f7bb73939cd7eb2d16a4d19c4c61 C98 [⟨0,[cs NH]⟩] [] @tC
def Oy: Nat->aK->Int->(List dW)->Option Int
 | 0,_,_,_=>none
 | n+1,a,b,c=>bnd2 (r6 n (a,b,c,(ln c)) 0) (λd=>some d.2) λf=>bnd (some f) λ_=>some 0
def H4: Kn:=bH 113 0xfa0979f77d10d5 C98 [⟨0,[NI]⟩] [] Oy
abbrev C99:=H4::C98
def QT: Nat->(List Int)->Int->Option (List Int)
 | 0,_,_=>none
 | n+1,_,a=>cd (a<0) none none
def EL: Kn:=bH 182 0x33bc66162 C99 [] [] QT
abbrev aIf:=EL::C99
def iU(n:Nat): ((List<|List Int)×Int)->((Int×Int)->Option R)->((Int->Option R)×Unit)->(Int×Int)->Option R:=λ(a,b) c (d,_) (f,g)=>cd (g<b) (bnd (idx a g) λh=>cd ((wr<|f+(ln h))<0) none<|c ((wr<|f+(ln h)),(wr<|g+1)))<|d f
def Ms:=rG iU
def Ia: Lc 176 0 0:=bQ 0xa96deb6df1014927a9f77df865b4f5f aIf [] [] @iU
def oX(n:Nat): Int->((Unit->Option R)×((List Int×(Nat×Nat))->Option R)×Unit)->Unit->Option R:=λa (b,c,_) _=>cd (a<0) none<|cd ((wr<|a-0) > 0) (bnd (rep 0 (wr<|a-0)<|wr<|a-0) λd=>cnd (List.isEmpty d) (b ())<|bnd (sub d (0,List.length d) 0 0) λf=>c (d,f))<|b ()
def Mt:=JQ oX
def Ib: Ic:=cT 182 0 2 0x1ebcef82460c03585d5390150ea3a1bab77 aIf [] [] @oX
def iT(n:Nat): ((List<|List Int)×Int)->(Int->Option R)->((Unit->Option R)×Unit)->Int->Option R:=λ(a,b) c (d,_) f=>cd (f<b) (bnd (idx a f) λg=>cnd (List.isEmpty g) (c<|wr<|f+1)<|bnd (app ([]:List Int) g) λ_=>none)<|d ()
def Mr:=rG iT
def Hz: Lc 176 0 1:=bQ 0x1ebd10640c53c645a0bc2e397839c499d53 aIf [] [] @iT
def iS(n:Nat): ((List<|List Int)×Int)->((List Int×(Nat×Nat)×Int)->Option R)->(((List Int×(Nat×Nat))->Option R)×Unit)->(List Int×(Nat×Nat)×Int)->Option R:=λ(a,b) c (d,_) (f,g,h)=>cd (h<b) (bnd (idx a h) λi=>bnd (SU f g i) λj=>c (j,(g.1,g.2+List.length i),(wr<|h+1)))<|d (f,g)
def Mq:=rG iS
def Hy: Lc 176 0 1:=bQ 0x29057845f4871e15a368fb9d522c2caeca3 aIf [] [] @iS
def oY: Nat->(List<|List Int)->Option (List Int)
 | 0,_=>none
 | n+1,a=>bnd (Ms n (a,(ln a)) (0,0)) λb=>bnd2 (Mt n b) (λ_=>bnd (Mr n (a,(ln a)) 0) λ_=>bnd (Ls true) λ_=>some []) λc=>bnd (some c) λd=>bnd (Mq n (a,(ln a)) (d.1,d.2,0)) λf=>bnd (Ls<|decide<|f.2=(0,List.length f.1)) λ_=>some<|win f.1<|some f.2
def Re: Kn:=bH 176 0x27f91b5440e2fe4 aIf [⟨0,[Ia]⟩,⟨1,[Hz,Hy]⟩] [Ib] oY
abbrev aKP:=Re::aIf
def nQ(n:Nat): ((Nat×Nat))->((List Int×Int×Int)->Option R)->(((List Int×Int)->Option R)×Unit)->(List Int×Int×Int)->Option R:=λa b (c,_) (d,f,g)=>cd (g<((a.2:Nat):Int)) (bnd (idx (win d<|some a) g) λ_=>bnd (idx d<|g+((a.1:Nat):Int)) λh=>bnd (idx (win d<|some a)<|wr<|g-1) λ_=>bnd (idx d<|(wr<|g-1)+((a.1:Nat):Int)) λi=>cnd (h != i) (bnd (idx (win d<|some a) g) λ_=>bnd (idx d<|g+((a.1:Nat):Int)) λj=>bnd (gR d (List.length d) f) λ_=>bnd (idx d f) λ_=>b ((List.set d (Int.toNat f) j),(wr<|f+1),(wr<|g+1)))<|b (d,f,(wr<|g+1)))<|c (d,f)
def MF:=rG nQ
def AJ: Lc 177 0 1:=bQ 0x6b6b10d346fa1b6a9c67809f71f97ae75b7186bceb8ae4a7c aKP [] [] @nQ
def nR: (List Int)->(Int->Option R)->(((List Int×(Nat×Nat))->Option R)×(Unit->Option R)×Unit)->Int->Option R:=λa b (c,d,_) f=>cd (f<(ln a)) (bnd (gR a (List.length a) f) λ_=>bnd (idx a f) λg=>bnd (gR a (List.length a)<|wr<|f-1) λ_=>bnd (idx a<|wr<|f-1) λh=>cnd (g==h) (bnd (sub a (0,List.length a) f<|ln a) λi=>bnd (MF n i (a,f,1)) λj=>bnd (sub j.1 (0,List.length j.1) j.2<|ln j.1) λl=>bnd (clr j.1 l 0) λm=>bnd (sub m (0,List.length m) 0 j.2) λo=>c (m,o))<|b<|wr<|f+1)<|d ()
def MG:=tS nR
def AK: Lc 177 0 0:=bQ 0x9a4214982d19e25f5e0f223c7b5f528df1e75542f0bc60 aKP [⟨0,[cs AJ]⟩] [] @nR
def yL: (List Int)->((Unit->Option R)×((List Int×(Nat×Nat))->Option R)×Unit)->Unit->Option R:=λa (b,c,_) _=>cd ((ln a)<2) (b ())<|bnd2 (MG n a 1) (λd=>c (d.1,d.2)) λf=>bnd (some f) λ_=>b ()
def Ff:=JQ yL
def AL: Ic:=cT 177 0 1 0x13e3c712575ff58f22c83b6e4b0f9dfd2585b04d7 aKP [⟨0,[AK]⟩] [] @yL
def mY: Nat->(List<|List Int)->Option (List Int)
 | 0,_=>none
 | n+1,a=>bnd (oY n a) λb=>bnd (prd n) λ_=>bnd (Ls<|decide<|List.length b<=1000000) λ_=>bnd2 (Ff n<|uA b) (λ_=>some<|uA b) λc=>bnd (some c) λd=>some<|win d.1<|some d.2
def RM: Kn:=bH 166 0x24054f41ba14 aKP [] [AL] mY
abbrev aT8:=RM::aKP
def uI: Nat->(List Int)->(List Int)->Option (List Int)
 | 0,_,_=>none
 | n+1,a,b=>bnd (mY n [a,b]) λc=>some c
def G3: Kn:=bH 142 0x877430a52fdad48a44d7e60 aT8 [] [] uI
abbrev aQE:=G3::aT8
def gB(n:Nat): (List Int×List Int×Int)->(Int->Option R)->((Unit->Option R)×(Unit->Option R)×Unit)->Int->Option R:=λ(a,b,c) d (f,g,_) h=>cd (h<c) (bnd (idx a h) λi=>bnd (idx b h) λj=>cnd (i != j) (f ())<|d<|wr<|h+1)<|g ()
def Rd:=tS gB
def Lm: Lc 59 0 0:=bQ 0x10682ccdeffb4adf2d3c8 aQE [] [] @gB
def iA: Nat->(List Int)->(List Int)->Option Bool
 | 0,_,_=>none
 | n+1,a,b=>cnd ((ln a) != (ln b)) (some false)<|bnd2 (Rd n (a,b,(ln a)) 0) (λ_=>some false) λc=>bnd (some c) λ_=>some true
def Vu: Kn:=bH 59 0x1b47bfe354b6 aQE [⟨0,[Lm]⟩] [] iA
abbrev aQD:=Vu::aQE
def Cp: (Int×Int)->((Bool->Option R)×Unit)->Unit->Option R:=λ(a,b) (c,_) _=>bnd (fK n a) λd=>cnd d (bnd (fK n b) λf=>cnd f (cd (a<b) (c true)<|c false)<|c true)<|cd (a<b) (c true)<|c false
def Lh:=eU Cp
def IM: Lc 183 0 0:=bG 0x4a6faf6b45a3bcc07276c43 aQD [] [] @Cp
def Jd: Nat->Int->Int->Option Bool
 | 0,_,_=>none
 | n+1,a,b=>bnd (Lh n (a,b)) λc=>cnd c (some true)<|some false
def v7: Kn:=bH 183 0xe2254749df984c aQD [⟨0,[IM]⟩] [] Jd
abbrev aT7:=v7::aQD
def KI: Nat->Int->Option Bool
 | 0,_=>none
 | n+1,a=>cnd (a != a) (some true)<|some false
def Vs: Kn:=bH 184 0xae6 aT7 [] [] KI
abbrev aNx:=Vs::aT7
def fE: (List Int×Int)->((Int×Int)->Option R)->((Int->Option R)×Unit)->(Int×Int)->Option R:=λ(a,b) c (d,_) (f,g)=>cd (f<g) (bnd (idx a<|wr<|Int.fdiv (IntKind.u64.wrap<|wr<|f+g) 2) λh=>bnd (Jd n h b) λi=>cnd i (c ((wr<|(wr<|Int.fdiv (IntKind.u64.wrap<|wr<|f+g) 2)+1),g))<|c (f,(wr<|Int.fdiv (IntKind.u64.wrap<|wr<|f+g) 2)))<|d f
def xQ:=rG fE
def uO: Lc 178 0 0:=bQ 0x1bba2650efd5214503ec63256d64f0e2bfe85b90205cd4 aNx [] [] @fE
def jC(n:Nat): Int->((Bool->Option R)×Unit)->Unit->Option R:=λa (b,_) _=>cnd (a != a) (b true)<|b false
def fQ:=Bj jC
def uP: Ic:=cT 184 0 1 0x13318a57c130780070 aNx [] [] @jC
def iC: Nat->(List Int)->Int->Option (Int×Bool)
 | 0,_,_=>none
 | n+1,a,b=>bnd (xQ n (a,b) (0,(ln a))) λc=>cd (c<(ln a)) (bnd (idx a c) λd=>cnd (d==b) (some (c,true))<|bnd (idx a c) λf=>bnd (fQ n f) λg=>cnd g (bnd (fQ n b) λh=>cnd h (some (c,true))<|some (c,false))<|some (c,false))<|some (c,false)
def Ap: Kn:=bH 178 0x5201bcad2 aNx [⟨0,[uO]⟩] [uP] iC
abbrev aKO:=Ap::aNx
def Fg: (List Int×Int)->((Bool->Option R)×Unit)->Unit->Option R:=λ(a,b) (c,_) _=>bnd (iC n a b) λd=>cnd d.2 (c false)<|c true
def Nw:=Bj Fg
def MJ: Ic:=cT 167 0 2 0x69f4391e4fe92ed25cb19c25d61ea aKO [] [] @Fg
def sU: (List Int×List Int×Int)->((List Int×Int)->Option R)->(((List Int)->Option R)×Unit)->(List Int×Int)->Option R:=λ(a,b,c) d (f,_) (g,h)=>cd (h<c) (bnd (idx b h) λi=>bnd (Nw n (a,i)) λj=>cnd j (bnd (app g [i]) λl=>d (l,(wr<|h+1)))<|d (g,(wr<|h+1)))<|f g
def j5:=rG sU
def MI: Lc 168 0 0:=bQ 0x147df93886ad71d7becbdc59d20e84868131b0ac515d8ef124579c218099e aKO [] [MJ] @sU
def Fh: (List Int×List Int)->(((List Int)->Option R)×Unit)->Unit->Option R:=λ(a,b) (c,_) _=>bnd (mY n [b]) λd=>bnd (j5 n (a,d,(ln d)) ([],0)) λf=>c f
def Nx:=Bj Fh
def MK: Ic:=cT 168 0 2 0xa6ba345824239635a950ec15010788eecac38ec3b7f aKO [⟨0,[MI]⟩] [] @Fh
def Ny: Nat->(List Int)->(List Int)->Option (List Int)
 | 0,_,_=>none
 | n+1,a,b=>bnd (mY n [b]) λc=>bnd (Nx n (c,a)) λd=>some d
def G4: Kn:=bH 143 0x877430a52fdad48a44d7e60 aKO [] [MK] Ny
abbrev aT6:=G4::aKO
def HZ: Nat->aG->Int->Option Int
 | 0,_,_=>none
 | n+1,a,b=>bnd (dA n a.ID b) λc=>some c
def Tx: Kn:=bH 120 0x38e7d794c aT6 [] [] HZ
abbrev aKN:=Tx::aT6
def wH: (aG×Int)->((Int->Option R)×Unit)->Unit->Option R:=λ(a,b) (c,_) _=>bnd (dA n a.ID b) λd=>c d
def kG:=Bj wH
def wG: Ic:=cT 120 0 2 0x6ea442b72901137e59f3 aKN [] [] @wH
def mK: (List aG×Int)->((Int×Int)->Option R)->((Int->Option R)×Unit)->(Int×Int)->Option R:=λ(a,b) c (d,_) (f,g)=>cd (f<g) (bnd (idx a<|wr<|Int.fdiv (IntKind.u64.wrap<|wr<|f+g) 2) λh=>bnd (kG n (h,b)) λi=>cd (i<0) (c ((wr<|(wr<|Int.fdiv (IntKind.u64.wrap<|wr<|f+g) 2)+1),g))<|c (f,(wr<|Int.fdiv (IntKind.u64.wrap<|wr<|f+g) 2)))<|d f
def IA:=rG mK
def Tz: Lc 119 0 0:=bQ 0x1353a95f51eee418267598b18ba35dc6bddb19768cc85ab3a aKN [] [wG] @mK
def wI: (List aG×Int)->(((aG×Int×Bool)->Option R)×(Int->Option R)×Unit)->Unit->Option R:=λ(a,b) (c,d,_) _=>bnd (IA n (a,b) (0,(ln a))) λf=>cd (f<(ln a)) (bnd (idx a f) λg=>bnd (kG n (g,b)) λh=>cnd (h==0) (c (g,f,true))<|c (g,f,false))<|d f
def Cm:=JQ wI
def Ua: Ic:=cT 119 0 3 0x1179069c05c1bda43f5fcac0a25246cc06314beca9de aKN [⟨0,[Tz]⟩] [wG] @wI
def Ac: Nat->aJ->Int->Option (Int×Bool)
 | 0,_,_=>none
 | n+1,a,b=>bnd2 (Cm n (a.Features,b)) (λc=>cnd c.2.2 (some (c.2.1,true))<|some (c.2.1,false)) λd=>bnd (some d) λf=>some (f,false)
def OD: Kn:=bH 90 0x75ca57 aKN [] [Ua] Ac
abbrev aNw:=OD::aKN
def uW(n:Nat): (dW×List Int×Int)->(((List<|Int×Int)×Int)->Option R)->((((List<|Int×Int))->Option R)×Unit)->((List<|Int×Int)×Int)->Option R:=λ(a,b,c) d (f,_) (g,h)=>cd (h<c) (bnd (idx b h) λi=>d ((jS g i a.Face),(wr<|h+1)))<|f g
def H7:=rG uW
def SC: Lc 187 0 1:=bQ 0x2007ae97c0dd1b01b58857ffac5c508aab27aa224f40d3a347f091ffbaa41d0aa578ce10ac7 aNw [] [] @uW
def uX: (List dW×Int)->(((List<|Int×Int)×Int)->Option R)->((((List<|Int×Int))->Option R)×Unit)->((List<|Int×Int)×Int)->Option R:=λ(a,b) c (d,_) (f,g)=>cd (g<b) (bnd (idx a g) λh=>bnd (H7 n (h,h.Alone,(ln h.Alone)) (f,0)) λi=>c (i,(wr<|g+1)))<|d f
def H8:=rG uX
def SD: Lc 187 0 0:=bQ 0x21011abce249da901eb41849e77a8d3ac56f5e6cab4aa64c1883 aNw [⟨0,[cs SC]⟩] [] @uX
def oH: Nat->aK->Option (List<|Int×Int)
 | 0,_=>none
 | n+1,a=>bnd (kP n a) λb=>bnd (H8 n (b.1,(ln b.1)) ([],0)) λc=>some c
def Iz: Kn:=bH 187 0xcc06515c8f6002 aNw [⟨0,[SD]⟩] [] oH
abbrev aVz:=Iz::aNw
end
end
section
open jH (den cds ag)
noncomputable section
def dK: Nat->aK->aK->Int->Option Bool
 | 0,_,_,_=>none
 | n+1,p,q,m=>bnd (oH n p) λold=>bnd (oH n q) λnew=>some (sdB old m new)
theorem aFX: ∀(m:List (Int×Int)) (rows:List (List AV)),Qm (kk:=3) 3 m rows->O3 (fW (kk:=3) 3 m rows)=some m
 | [],rows,h=>rfl
 | e::m,[x]::rows,h=>by
  obtain⟨⟨h1,_⟩,h2⟩:=h
  cases h1
  show (match O3 (fW (kk:=3) 3 m rows) with | some l=>some ((e.1,e.2)::l) | none=>none)=_
  rw[aFX m rows h2]
theorem aH1: FOK PP T 187 ⟨[.w 4],[26],false,λn p=>oH n p⟩:=by
 have e:Iz.c=⟨[.w 4],[26],false,λn p=>oH n p⟩:=by kernel_rfl
 have h:=Iz.ok
 rw[e] at h
 exact h
theorem aIC{n:Nat}{p:aK}{m:List (Int×Int)}{a:AV}(h:oH n p=some m)(q:Qh [] (toW (val 4 p)) a): sdH (fC PP T n) 187 [] a=some m:=by
 obtain⟨b,rfl,q4⟩:=Qh.inA (cs:=[.vw 0 p.Nodes,.vw 2 p.Arcs,.vw 3 p.Faces]) q
 clear q
 match b,q4 with
 | [xn,xa,xf],q4=>
 obtain⟨qn,qa,qf,_⟩:=q4
 obtain⟨aw',A,h1,h2,h3,_⟩:=aH1 n p m h [cJ [] (.agg [xn,xa,xf])] ⟨Qh.mkA ⟨.p _ _ (E5 (Qh.pu (v:=.vw 0 p.Nodes) qn trivial)),.p _ _ (E5 (Qh.pu (v:=.vw 2 p.Arcs) qa trivial)),.p _ _ (E5 (Qh.pu (v:=.vw 3 p.Faces) qf trivial)),trivial⟩,trivial⟩
 have h2:=h2 []
 match aw',h2 with
 | [b],h2=>
  have e:fA A 0 b=eB A 0 b:=by
   cases b with
   | tup l=>exact (h3 _ ZM l rfl).elim
   | _=>rfl
  have h4:Qp (.rmp 3 3 m) (fA A 0 b):=by rw[e];exact Qh.pu (v:=.rmp 3 3 m) h2.1 trivial
  have e2:cJ [] (.agg [xn,xa,xf])=.agg [dI [] xn,dI [] xa,dI [] xf]:=rfl
  rw[e2] at h1
  unfold sdH
  rw[e2]
  simp only[h1]
  show Fe (fA A 0 b)=some m
  obtain⟨rows,h5,h6⟩:=h4.inM
  rcases h5 with⟨h5,rfl⟩ | h5
  .rw[h5];rfl
  .rw[h5];exact aFX m rows h6
theorem aBp: FOK PP T 57 ⟨[.w 4,.w 4,.w 3],[5],false,λn p=>dK n p.1 p.2.1 p.2.2⟩:=by
 rintro n ⟨p,q,m⟩ r h aw w
 match aw,w with
 | [a,b,c],w=>
 obtain⟨w1,w2,w3,_⟩:=w
 have hc:c=.lit (.int .i64 m):=Qh.inL (v:=.int .i64 m) w3
 subst hc
 cases n with
 | zero=>cases h
 | succ n=>
  obtain⟨old,h1,h⟩:=bD h
  obtain⟨new,h2,h⟩:=bD h
  cases h
  refine⟨[.lit (.bool (sdB old m new))],[],?_,λH1=>⟨.l _,trivial⟩,λx hx l e=>(by rw[ZJ.1 hx] at e;cases e),λe=>(by cases e)⟩
  have e:(aH.prim 57:Option K8)=some (S0 187):=rfl
  simp only[fC,e]
  show sdA (fC PP T n) 187 [a,b,.lit (.int .i64 m)] []=_
  simp only[sdA,aIC h1 w1,aIC h2 w2,kC]
def r7: Kn:=⟨57,_,aBp⟩
end
end
section
variable {R:Type}(n:Nat)
noncomputable section
abbrev dX:=r7::aVz
def HR: Lc 29 0 0:=bQ 0x60147a0347a97c9cd6e6b12deeddc5abdb0ed865986689e90c850941166963be17 dX [] [] @nD
def HQ: Lc 29 0 1:=bQ 0x1c08f1ebd1cbacc745c069fa76ee5378d547ff41abdde33bcc46d28bb7 dX [] [] @nC
def Ci: aJ->(((List Int×List Aab×List aQ×List aG×List Int)->Option R)×Unit)->Unit->Option R:=λa (b,_) _=>bnd (qM n a.Plan.Nodes) λc=>bnd (mZ n a.Plan.Arcs) λd=>bnd (bJ n a.Plan.Faces) λf=>bnd (kF n a.Features) λg=>bnd (Uo n (f,c,g,(ln d)) (d,0)) λh=>bnd (Un n (f,c,h,(ln g)) (g,0)) λi=>b (f,c,h,i,f)
def Kr:=Bj Ci
def HU: Ic:=cT 29 0 1 0x1b346d12ecb7c6715e2185a083b95860726eaa0058a07240b83adae7c1 dX [⟨0,[HR]⟩,⟨1,[HQ]⟩] [] @Ci
def Cf(n:Nat): Int->((Bool->Option R)×Unit)->Unit->Option R:=λa (b,_) _=>cnd (a==1) (b true)<|cnd (a==2) (b true)<|cnd (a==3) (b true)<|b false
def Ko:=eU Cf
def HP: Lc 18 0 0:=bG 0x14010cfc8e00313aca9ef285897a86d83473e0 dX [] [] @Cf
def Ce: (List Int×List Aab×List aQ×List aG×aO)->((Bool->Option R)×Unit)->Unit->Option R:=λ(a,b,c,d,f) (g,_) _=>bnd (kU n (aK.mk b c a) f.ID) λh=>cd (h > 0) (g true)<|bnd (jL n (aJ.mk (aK.mk b c a) d) 1 f.ID) λi=>cd ((ln i) > 0) (g true)<|g false
def Km:=eU Ce
def HO: Lc 53 0 0:=bG 0x68481fc22b6abd5dfc51d251b16345a67de210f7872d000099425284b dX [] [] @Ce
def Cg(n:Nat): (List Int×List Int×List Aab×List aQ×List aG×Int×Int)->((Unit->Option R)×((List Aab×(Nat×Nat))->Option R)×Unit)->Unit->Option R:=λ(a,b,c,d,f,g,h) (i,j,_) _=>bnd (Ls<|decide<|0<=g/\g<=h/\h<=(ln c)/\(ln c)<=(ln c)) λ_=>cnd (g==h) (i ())<|bnd (sub c (0,List.length c) 0 g) λl=>bnd (sub c (0,List.length c) h<|ln c) λm=>bnd (SU c l<|win c<|some m) λo=>bnd (sub o (l.1,l.2+List.length (win c<|some m)) (((l.1,l.2+List.length (win c<|some m)).2:Nat):Int)<|ln c) λr=>bnd (clr o r<|Aab.mk 0<|Aaa.mk 0 0) λs=>j (s,(l.1,l.2+List.length (win c<|some m)))
def Kq:=JQ Cg
def HS: Ic:=cT 84 0 3 0x34b21b31c58b493bc9aca5ffbc6cbfdbf416d091026107442 dX [] [] @Cg
def Ch: (List Int×List Int×List Aab×List aQ×List aG×aO)->(((List Aab×Int)->Option R)×(((Nat×Nat)×List Aab)->Option R)×((List Aab×List Aab)->Option R)×Unit)->Unit->Option R:=λ(a,b,c,d,f,g) (h,i,j,_) _=>bnd (oP n (aJ.mk (aK.mk c d a) f) g.ID) λl=>cnd l.2 (cnd (g.Kind==1) (h (c,8))<|cnd (g.Kind==3) (bnd (gR c (List.length c) l.1) λ_=>bnd (idx c l.1) λm=>h ((List.set c (Int.toNat l.1)<|Aab.mk m.ID g.At),0))<|bnd (Km n (a,c,d,f,g)) λo=>cnd o (h (c,13))<|bnd2 (Kq n (a,b,c,d,f,l.1,(wr<|l.1+1))) (λ_=>h (c,0)) λr=>bnd (some r) λs=>i (s.2,s.1))<|cnd (g.Kind==1) (bnd (prd n) λ_=>bnd (aEn c l.1<|Aab.mk g.ID g.At) λt=>j (t,[(Aab.mk g.ID g.At)]))<|h (c,7)
def uV:=in3 Ch
def HT: Ic:=cT 53 0 2 0x54ee7db538128ccf7f0a4e07fea1c1115235d6c5f6b2c33029fe79f2e5ce19bfe8cf76659c798f9414d0c3d1f dX [⟨0,[HO]⟩] [HS] @Ch
def fD: (List Int×List Aab×List aQ×List aG×Int)->((Int->Option R)×Unit)->Unit->Option R:=λ(a,b,c,d,f) (g,_) _=>cnd (f==0) (bnd (dR n<|aJ.mk (aK.mk b c a) d) λh=>g h)<|g f
def cG:=eU fD
def HN: Lc 18 0 2:=bG 0x318d53635b08 dX [] [] @fD
def oA: (aJ×aO×List Int×List Aab×List aQ×List aG×Int×Int)->((Bool->Option R)×Unit)->Unit->Option R:=λ(a,b,c,d,f,g,h,i) (j,_) _=>cnd (h==0) (cnd (b.Kind==3) (bnd (dK n a.Plan (aK.mk d f c) i) λl=>cnd l (j true)<|j false)<|cnd (b.Kind==6) (bnd (dK n a.Plan (aK.mk d f c) i) λm=>cnd m (j true)<|j false)<|j false)<|j false
def Gt:=eU oA
def DC: Lc 18 0 4:=bG 0x226d391230667c2 dX [] [] @oA
def qK: (aJ×aO×List Int×List Aab×List aQ×List aG×Int×Int)->((Int->Option R)×Unit)->Unit->Option R:=λ(a,b,c,d,f,g,h,i) (j,_) _=>bnd (Gt n (a,b,c,d,f,g,h,i)) λl=>cnd l (j 12)<|j h
def eA:=eU qK
def HL: Lc 18 0 3:=bG 0x2269763b26d7cc2 dX [⟨0,[cs DC]⟩] [] @qK
def zQ: ((Nat×Nat)×List Int×List Aab×List aQ×List aG×Int)->((Int->Option R)×Unit)->Unit->Option R:=λ(a,b,c,d,f,g) (h,_) _=>cnd (g==0) (bnd (dR n<|aJ.mk (aK.mk (win c<|some a) d b) f) λi=>h i)<|h g
def tK:=eU zQ
def DB: Lc 18 0 2:=bG 0x1de8624f9837185bb526f70a7e738953d20 dX [] [] @zQ
def zO: (aJ×aO×(Nat×Nat)×List Int×List Aab×List aQ×List aG×Int×Int)->((Bool->Option R)×Unit)->Unit->Option R:=λ(a,b,c,d,f,g,h,i,j) (l,_) _=>cnd (i==0) (cnd (b.Kind==3) (bnd (dK n a.Plan (aK.mk (win f<|some c) g d) j) λm=>cnd m (l true)<|l false)<|cnd (b.Kind==6) (bnd (dK n a.Plan (aK.mk (win f<|some c) g d) j) λo=>cnd o (l true)<|l false)<|l false)<|l false
def Gs:=eU zO
def CY: Lc 18 0 4:=bG 0x21e7119d2a85e5c2c711c538488092300d0a28 dX [] [] @zO
def zP: (aJ×aO×(Nat×Nat)×List Int×List Aab×List aQ×List aG×Int×Int)->((Int->Option R)×Unit)->Unit->Option R:=λ(a,b,c,d,f,g,h,i,j) (l,_) _=>bnd (Gs n (a,b,c,d,f,g,h,i,j)) λm=>cnd m (l 12)<|l i
def tJ:=eU zP
def CZ: Lc 18 0 3:=bG 0x14a82b25ba4f1ad9b6f7d11baf858141830a28 dX [⟨0,[cs CY]⟩] [] @zP
def CX: Lc 18 0 2:=bG 0xba5b4af92aaab74fff0cabc dX [] [] @fD
def CV: Lc 18 0 4:=bG 0x5a28226c8539ec1b6198e07fbe09b dX [] [] @oA
def CW: Lc 18 0 3:=bG 0x5a1e4958d213849a48ca42d4de09b dX [⟨0,[cs CV]⟩] [] @qK
def zN(n:Nat): Int->((Bool->Option R)×Unit)->Unit->Option R:=λa (b,_) _=>cnd (a==4) (b true)<|cnd (a==5) (b true)<|cnd (a==6) (b true)<|b false
def Gq:=eU zN
def CU: Lc 18 0 1:=bG 0xdedbb4ad9dfa2472f951b1f1101f68e2949023e0 dX [] [] @zN
def zM(n:Nat): (aO×Int×Int)->((Int->Option R)×Unit)->Unit->Option R:=λ(a,b,c) (d,_) _=>cd (a.C<0) (d b)<|d c
def Gp:=eU zM
def CT: Lc 85 0 0:=bG 0x54673c0436df22fd0e561dee144a45ac15aec0e5e80c686ad80f96979fa4b41f6833723c67e27577e4dd2c9f5cef dX [] [] @zM
def zL: (List Aab×List Int×List aQ×Int×Int)->((Int->Option R)×(Unit->Option R)×Unit)->Unit->Option R:=λ(a,b,c,d,f) (g,h,_) _=>cnd (f==0) (g 12)<|bnd (lI n b f) λi=>cnd i (g 8)<|cnd (d==0) (g 12)<|h ()
def Gn:=pc2 zL
def CS: Lc 85 0 1:=bG 0x285166298b9be1f0e0e5a7260e770c5466298663f0bcf714d68caedbc2e1f8eefc80a6d920a97d68924d0003de848944db764f685c08ec1d1005ccc6bf85d753c154ef7db9af163db749610c98845a4fe dX [] [] @zL
def oG: (List Int×List Aab×List aG×List Int×Int×List Int×Int)->((List aQ×Int)->Option R)->(((List aQ)->Option R)×Unit)->(List aQ×Int)->Option R:=λ(a,b,c,d,f,g,h) i (j,_) (l,m)=>cd (m<h) (bnd (idx g m) λo=>bnd (Ad n (aJ.mk (aK.mk b l a) c)<|iY o<|wr<|0-o) λr=>cnd r.2 (cd (o > 0) (bnd (gR l (List.length l) r.1) λ_=>bnd (idx l r.1) λs=>i ((List.set l (Int.toNat r.1)<|aQ.mk s.ID s.From s.To s.Via f s.Right),(wr<|m+1)))<|bnd (gR l (List.length l) r.1) λ_=>bnd (idx l r.1) λt=>i ((List.set l (Int.toNat r.1)<|aQ.mk t.ID t.From t.To t.Via t.Left f),(wr<|m+1)))<|i (l,(wr<|m+1)))<|j l
def NY:=rG oG
def DJ: Lc 115 0 0:=bQ 0x9c6d2bfbf045009d3f1f6f185030768fe5887b349138217e5b203d6b15aa7343129412f9ceb930e9526f3d0e5211ce4de6e471071fd07 dX [] [] @oG
def zK: (aG×Int)->((Bool->Option R)×Unit)->Unit->Option R:=λ(a,b) (c,_) _=>bnd (cM n a.Kind) λd=>cnd (d==3) (bnd (lI n a.Parts b) λf=>cnd f (c true)<|c false)<|c false
def Gm:=eU zK
def CQ: Lc 115 0 2:=bG 0x4610cecea4dc2fb7044ab14f93df5e51ac29106755f74bcd15bd376abf65a24a72cf6d3286621b7c9e932eb3a83e54b dX [] [] @zK
def oF: (List Int×List Int×List Aab×List aQ×List aQ×Int×Int×Int)->((List aG×Int)->Option R)->(((List aG)->Option R)×Unit)->(List aG×Int)->Option R:=λ(a,b,c,d,f,g,h,i) j (l,_) (m,o)=>cd (o<i) (bnd (gR m (List.length m) o) λ_=>bnd (idx m o) λr=>bnd (Gm n (r,g)) λs=>cnd s (bnd (uI n r.Parts [h]) λt=>bnd (gR m (List.length m) o) λ_=>bnd (idx m o) λu=>j ((List.set m (Int.toNat o)<|aG.mk u.ID u.Kind u.Class u.Name t),(wr<|o+1)))<|j (m,(wr<|o+1)))<|l m
def NX:=rG oF
def DH: Lc 115 0 1:=bQ 0x2d2dd631c367c10c80449278f041981828421bf3953553deb61f6e998e8801393c58cfd0b2c556a8a2726ffa4525034d02 dX [⟨0,[cs CQ]⟩] [] @oF
def zZ: (List Int×List Int×List Aab×List aQ×List aG×List Int×List aQ×List Int×Int×Int)->(((List Int×List aG×List aQ)->Option R)×Unit)->Unit->Option R:=λ(a,b,c,d,f,g,h,i,j,l) (m,_) _=>bnd (NY n (a,c,f,g,l,i,(ln i)) (h,0)) λo=>bnd (uI n a [l]) λr=>bnd (NX n (r,b,c,d,o,j,l,(ln f)) (f,0)) λs=>m (r,s,o)
def Gz:=Bj zZ
def DT: Ic:=cT 115 0 4 0x3b7e60ab57c4c922e3363d52ce9437cd83ca6060aaff218a2fb0dbbdc9647ecdff60ec1c56354fda4bdcb788a5a2ec31a6 dX [⟨0,[DJ]⟩,⟨1,[DH]⟩] [] @zZ
def Aa: (List Int×List Int×List Aab×List aQ×List aG×aO)->((Int->Option R)×((List aQ×List aQ×Int)->Option R)×((List aQ×List aQ×aK×Int)->Option R)×((List Int×List aG×List aQ×List aQ×aK)->Option R)×Unit)->Unit->Option R:=λ(a,b,c,d,f,g) (h,i,j,l,_) _=>bnd (Ad n (aJ.mk (aK.mk c d a) f) g.ID) λm=>cnd m.2 (h 8)<|bnd (oP n (aJ.mk (aK.mk c d a) f) g.A) λo=>cnd o.2 (bnd (oP n (aJ.mk (aK.mk c d a) f) g.B) λr=>cnd r.2 (bnd (mZ n d) λs=>bnd (cH n g.Via) λt=>bnd (prd n) λ_=>bnd (aEn s m.1<|aQ.mk g.ID g.A g.B t 0 0) λu=>bnd (Ip n<|aK.mk c u a) λv=>cnd (v != 0) (i (u,[(aQ.mk g.ID g.A g.B t 0 0)],v))<|bnd (Io n<|aK.mk c u a) λw=>cnd (w.2 != 0) (j (u,[(aQ.mk g.ID g.A g.B t 0 0)],w.1,w.2))<|bnd (kP n w.1) λx=>cnd (x.2 != 0) (j (u,[(aQ.mk g.ID g.A g.B t 0 0)],w.1,x.2))<|bnd (idx w.1.Arcs m.1) λy=>bnd (idx w.1.Arcs m.1) λz=>bnd (idx x.1 y.Left) λa0=>bnd (idx x.1 z.Right) λb0=>bnd (Oy n (aK.mk c d a) g.ID [a0,b0]) λc0=>bnd (gR u (List.length u) m.1) λ_=>bnd (idx u m.1) λd0=>bnd (gR (List.set u (Int.toNat m.1)<|aQ.mk d0.ID d0.From d0.To d0.Via c0 d0.Right) (List.length<|List.set u (Int.toNat m.1)<|aQ.mk d0.ID d0.From d0.To d0.Via c0 d0.Right) m.1) λ_=>bnd (idx (List.set u (Int.toNat m.1)<|aQ.mk d0.ID d0.From d0.To d0.Via c0 d0.Right) m.1) λf0=>cnd (y.Left==z.Right) (cnd (g.C != 0) (j ((List.set (List.set u (Int.toNat m.1)<|aQ.mk d0.ID d0.From d0.To d0.Via c0 d0.Right) (Int.toNat m.1)<|aQ.mk f0.ID f0.From f0.To f0.Via f0.Left c0),[(aQ.mk g.ID g.A g.B t 0 0)],w.1,12))<|l (a,f,(List.set (List.set u (Int.toNat m.1)<|aQ.mk d0.ID d0.From d0.To d0.Via c0 d0.Right) (Int.toNat m.1)<|aQ.mk f0.ID f0.From f0.To f0.Via f0.Left c0),[(aQ.mk g.ID g.A g.B t 0 0)],w.1))<|bnd (Gp n (g,z.Right,y.Left)) λg0=>bnd2 (Gn n (c,a,(List.set (List.set u (Int.toNat m.1)<|aQ.mk d0.ID d0.From d0.To d0.Via c0 d0.Right) (Int.toNat m.1)<|aQ.mk f0.ID f0.From f0.To f0.Via f0.Left c0),g0,(iY g.C<|wr<|0-g.C))) (λh0=>j ((List.set (List.set u (Int.toNat m.1)<|aQ.mk d0.ID d0.From d0.To d0.Via c0 d0.Right) (Int.toNat m.1)<|aQ.mk f0.ID f0.From f0.To f0.Via f0.Left c0),[(aQ.mk g.ID g.A g.B t 0 0)],w.1,h0)) λi0=>bnd (some i0) λ_=>bnd (idx x.1 g0) λj0=>bnd (Jb n j0) λl0=>bnd (Gz n (a,b,c,d,f,a,(List.set (List.set u (Int.toNat m.1)<|aQ.mk d0.ID d0.From d0.To d0.Via c0 d0.Right) (Int.toNat m.1)<|aQ.mk f0.ID f0.From f0.To f0.Via f0.Left c0),l0,c0,(iY g.C<|wr<|0-g.C))) λm0=>l (m0.1,m0.2.1,m0.2.2,[(aQ.mk g.ID g.A g.B t 0 0)],w.1))<|h 7)<|bnd (oP n (aJ.mk (aK.mk c d a) f) g.B) λo0=>cnd o0.2 (h 7)<|h 7
def Ha:=λ(n:Nat) p=>bnd (prd n) λn=>Aa n p (λt=>some<|Sum.inl t,λt=>some<|Sum.inr<|Sum.inl t,λt=>some<|Sum.inr<|Sum.inr<|Sum.inl t,λt=>some<|Sum.inr<|Sum.inr<|Sum.inr t,()) ()
def DU: Ic:=cT 85 0 2 0x5c71db9917c1f0375a707bfe9b671afd332f1fdd4bafc8784a3362f20636f377e634b200da50221eba1a63dfe3fd039eb38cc4639211f44eb75f765dd25e5b4b3dd3a51665236501b93e937f6c8166 dX [⟨0,[CT]⟩,⟨1,[CS]⟩] [DT] @Aa
def zJ: (List Int×List Aab×List aQ×List aG×Int×Int)->((Bool->Option R)×Unit)->Unit->Option R:=λ(a,b,c,d,f,g) (h,_) _=>cnd (f != g) (bnd (jL n (aJ.mk (aK.mk b c a) d) 3 f) λi=>bnd (jL n (aJ.mk (aK.mk b c a) d) 3 g) λj=>bnd (iA n i j) λl=>cnd l (h false)<|h true)<|h false
def Gl:=eU zJ
def CP: Lc 54 0 0:=bG 0x1882e546283acb5ee9a82b6b0f6423afd40447f96c5322d717ffd88c5572a1760026c dX [] [] @zJ
def zY(n:Nat): (List Int×List Int×List Aab×List aQ×List aG×Int×Int)->((Unit->Option R)×((List aQ×(Nat×Nat))->Option R)×Unit)->Unit->Option R:=λ(a,b,c,d,f,g,h) (i,j,_) _=>bnd (Ls<|decide<|0<=g/\g<=h/\h<=(ln d)/\(ln d)<=(ln d)) λ_=>cnd (g==h) (i ())<|bnd (sub d (0,List.length d) 0 g) λl=>bnd (sub d (0,List.length d) h<|ln d) λm=>bnd (SU d l<|win d<|some m) λo=>bnd (sub o (l.1,l.2+List.length (win d<|some m)) (((l.1,l.2+List.length (win d<|some m)).2:Nat):Int)<|ln d) λr=>bnd (clr o r<|aQ.mk 0 0 0 [] 0 0) λs=>j (s,(l.1,l.2+List.length (win d<|some m)))
def Gy:=JQ zY
def DS: Ic:=cT 87 0 3 0x24b104377198a8dcf93661808d53c454cddfc650120b5f49a612 dX [] [] @zY
def zI(n:Nat): (List Int×List Int×List Aab×List aQ×List aG×Int×Int×aQ×Int)->(((List aQ)->Option R)×Unit)->Unit->Option R:=λ(a,b,c,d,f,g,h,i,j) (l,_) _=>cnd (i.Left==g) (bnd (gR d (List.length d) j) λ_=>bnd (idx d j) λm=>l<|List.set d (Int.toNat j)<|aQ.mk m.ID m.From m.To m.Via h m.Right)<|l d
def Gk:=eU zI
def CO: Lc 88 0 1:=bG 0x164a6261c20b6f6df3bef4fc886da52b09480071d9db8898e82e8fa4a0058744ae0853e702ac36 dX [] [] @zI
def oE: (List Int×List Int×List Aab×List aG×Int×Int×Int)->((List aQ×Int)->Option R)->(((List aQ)->Option R)×Unit)->(List aQ×Int)->Option R:=λ(a,b,c,d,f,g,h) i (j,_) (l,m)=>cd (m<h) (bnd (gR l (List.length l) m) λ_=>bnd (idx l m) λo=>bnd (Gk n (a,b,c,l,d,f,g,o,m)) λr=>cnd (o.Right==f) (bnd (gR r (List.length r) m) λ_=>bnd (idx r m) λs=>i ((List.set r (Int.toNat m)<|aQ.mk s.ID s.From s.To s.Via s.Left g),(wr<|m+1)))<|i (r,(wr<|m+1)))<|j l
def NW:=rG oE
def DG: Lc 88 0 0:=bQ 0x111625f6d93cb44b653f4483328ccac0aacaf4b2a9d61456eaebfbec67916cc9e9e07652 dX [⟨0,[cs CO]⟩] [] @oE
def fZ: (Int×Int×List Int)->(((List Int)->Option R)×Unit)->Unit->Option R:=λ(a,b,c) (d,_) _=>bnd (lI n c a) λf=>cnd f (bnd (Ny n c [a]) λg=>cnd (b != 0) (bnd (uI n g [b]) λh=>d h)<|d g)<|d c
def iK:=Bj fZ
def DR: Ic:=cT 118 11 3 0x144b7277407d2a8f6e1fb dX [] [] @fZ
def DQ: Ic:=cT 118 12 3 0xe221f544339c473c8aed503 dX [] [] @fZ
def oD: (List Int×List Int×List Aab×List aQ×Int×Int×Int)->((List aG×Int)->Option R)->(((List aG)->Option R)×Unit)->(List aG×Int)->Option R:=λ(a,b,c,d,f,g,h) i (j,_) (l,m)=>cd (m<h) (bnd (gR l (List.length l) m) λ_=>bnd (idx l m) λo=>bnd (cM n o.Kind) λr=>cnd (r==3) (bnd (iK n (f,g,o.Parts)) λs=>bnd (gR l (List.length l) m) λ_=>bnd (idx l m) λt=>i ((List.set l (Int.toNat m)<|aG.mk t.ID t.Kind t.Class t.Name s),(wr<|m+1)))<|i (l,(wr<|m+1)))<|j l
def NV:=rG oD
def DF: Lc 88 0 2:=bQ 0x331db34b617b5eb18b51c250a17006caf67a9f18a9fa45bc86f9709c33f872d9b208ce86a02 dX [] [DQ] @oD
def zX: (List Int×List Int×List Aab×List aQ×List aG×Int×Int)->(((List Int×List aQ×List aG)->Option R)×Unit)->Unit->Option R:=λ(a,b,c,d,f,g,h) (i,_) _=>bnd (NW n (a,b,c,f,g,h,(ln d)) (d,0)) λj=>bnd (iK n (g,h,a)) λl=>bnd (NV n (l,b,c,j,g,h,(ln f)) (f,0)) λm=>i (l,j,m)
def tL:=Bj zX
def zW: Ic:=cT 88 0 3 0x68118e98aaf1d95ec329c1d032a76 dX [⟨0,[DG]⟩,⟨2,[DF]⟩] [DR] @zX
def zH(n:Nat): ((Nat×Nat)×List Int×List Int×List Aab×List aQ×List aG×Int×Int×aQ×Int×(Nat×Nat))->(((List aQ)->Option R)×Unit)->Unit->Option R:=λ(a,b,c,d,f,g,h,i,j,l,m) (o,_) _=>cnd (j.Left==h) (bnd (idx (win f<|some a) l) λ_=>bnd (idx f<|l+((a.1:Nat):Int)) λr=>o<|List.set f (Int.toNat<|l+((a.1:Nat):Int))<|aQ.mk r.ID r.From r.To r.Via i r.Right)<|o f
def Gj:=eU zH
def CN: Lc 88 0 1:=bG 0x78653661a2949e0fd6c4e8fd4b4cbe18b04b8236cb99311162b58ac73d347e16023c73bb65613b42af4d46 dX [] [] @zH
def oC: ((Nat×Nat)×List Int×List Int×List Aab×List aG×Int×Int×(Nat×Nat)×Int)->((List aQ×Int)->Option R)->(((List aQ)->Option R)×Unit)->(List aQ×Int)->Option R:=λ(a,b,c,d,f,g,h,i,j) l (m,_) (o,r)=>cd (r<j) (bnd (idx (win o<|some i) r) λ_=>bnd (idx o<|r+((i.1:Nat):Int)) λs=>bnd (Gj n (a,b,c,d,o,f,g,h,s,r,i)) λt=>cnd (s.Right==g) (bnd (idx (win t<|some a) r) λ_=>bnd (idx t<|r+((a.1:Nat):Int)) λu=>l ((List.set t (Int.toNat<|r+((a.1:Nat):Int))<|aQ.mk u.ID u.From u.To u.Via u.Left h),(wr<|r+1)))<|l (t,(wr<|r+1)))<|m o
def NU:=rG oC
def DE: Lc 88 0 0:=bQ 0x848aaf7408f70c6830eaa9fad3fc04adf1fbb0963dd095d88c58be8d365a639bcffb8f1cc1252 dX [⟨0,[cs CN]⟩] [] @oC
def DO: Ic:=cT 118 11 3 0x144b7277407d2a8f6e1fb dX [] [] @fZ
def DN: Ic:=cT 118 12 3 0xe221f544339c473c8aed503 dX [] [] @fZ
def oB: ((Nat×Nat)×List Int×List Int×List Aab×List aQ×Int×Int×Int)->((List aG×Int)->Option R)->(((List aG)->Option R)×Unit)->(List aG×Int)->Option R:=λ(a,b,c,d,f,g,h,i) j (l,_) (m,o)=>cd (o<i) (bnd (gR m (List.length m) o) λ_=>bnd (idx m o) λr=>bnd (cM n r.Kind) λs=>cnd (s==3) (bnd (iK n (g,h,r.Parts)) λt=>bnd (gR m (List.length m) o) λ_=>bnd (idx m o) λu=>j ((List.set m (Int.toNat o)<|aG.mk u.ID u.Kind u.Class u.Name t),(wr<|o+1)))<|j (m,(wr<|o+1)))<|l m
def NT:=rG oB
def DD: Lc 88 0 2:=bQ 0x18c83067adf68ecb3f75cccdcf945a0c0ea6574588d8ccd63d8430c24ffb9c77171e92f1379be5a02 dX [] [DN] @oB
def zV: ((Nat×Nat)×List Int×List Int×List Aab×List aQ×List aG×Int×Int)->(((List Int×List aQ×List aG)->Option R)×Unit)->Unit->Option R:=λ(a,b,c,d,f,g,h,i) (j,_) _=>bnd (NU n (a,b,c,d,g,h,i,a,((a.2:Nat):Int)) (f,0)) λl=>bnd (iK n (h,i,b)) λm=>bnd (NT n (a,m,c,d,l,h,i,(ln g)) (g,0)) λo=>j (m,l,o)
def Gx:=Bj zV
def DP: Ic:=cT 88 0 3 0x841e91cb0f1482db64cb691e1673a3af8474e9ef4bb5a3216 dX [⟨0,[DE]⟩,⟨2,[DD]⟩] [DO] @zV
def Ab: (List Int×List Int×List Aab×List aQ×List aG×aO)->((Int->Option R)×((List aQ×List aQ×Int)->Option R)×((List aQ×List aQ×List Aab×List aQ×List Int×Int)->Option R)×((List Int×List aG×List aQ×List aQ×List Aab×List aQ×List Int)->Option R)×((List aQ×Int)->Option R)×((List Int×List aQ×List aG×Int×Int)->Option R)×(((Nat×Nat)×List Int×List aQ×List aG×Int×Int)->Option R)×(((Nat×Nat)×List aQ)->Option R)×Unit)->Unit->Option R:=λ(a,b,c,d,f,g) (h,i,j,l,m,o,r,s,_) _=>cnd (g.Kind==4) (bnd2 (Ha n (a,b,c,d,f,g)) (λt=>h t) λu=>bnd2 (some u) (λv=>i (v.1,v.2.1,v.2.2)) λw=>bnd2 (some w) (λx=>j (x.1,x.2.1,x.2.2.1.Nodes,x.2.2.1.Arcs,x.2.2.1.Faces,x.2.2.2)) λy=>bnd (some y) λz=>l (z.1,z.2.1,z.2.2.1,z.2.2.2.1,z.2.2.2.2.Nodes,z.2.2.2.2.Arcs,z.2.2.2.2.Faces))<|bnd (Ad n (aJ.mk (aK.mk c d a) f) g.ID) λa0=>cnd a0.2 (cnd (g.Kind==6) (bnd (cH n g.Via) λb0=>bnd (gR d (List.length d) a0.1) λ_=>bnd (idx d a0.1) λc0=>m ((List.set d (Int.toNat a0.1)<|aQ.mk c0.ID c0.From c0.To b0 c0.Left c0.Right),0))<|bnd (jL n (aJ.mk (aK.mk c d a) f) 2 g.ID) λd0=>cd ((ln d0) > 0) (m (d,13))<|bnd (gR d (List.length d) a0.1) λ_=>bnd (idx d a0.1) λf0=>bnd (gR d (List.length d) a0.1) λ_=>bnd (idx d a0.1) λg0=>bnd (Gl n (a,c,d,f,f0.Left,g0.Right)) λh0=>cnd h0 (m (d,13))<|bnd2 (Gy n (a,b,c,d,f,a0.1,(wr<|a0.1+1))) (λ_=>cnd (f0.Left != g0.Right) (bnd (tL n (a,b,c,d,f,(iY f0.Left g0.Right),(pO f0.Left g0.Right))) λi0=>o (i0.1,i0.2.1,i0.2.2,(iY f0.Left g0.Right),(pO f0.Left g0.Right)))<|m (d,0)) λj0=>bnd (some j0) λl0=>cnd (f0.Left != g0.Right) (bnd (Gx n (l0.2,a,b,c,l0.1,f,(iY f0.Left g0.Right),(pO f0.Left g0.Right))) λm0=>r (l0.2,m0.1,m0.2.1,m0.2.2,(iY f0.Left g0.Right),(pO f0.Left g0.Right)))<|s (l0.2,l0.1))<|m (d,7)
def Hb:=λ(n:Nat) p=>bnd (prd n) λn=>Ab n p (λt=>some<|Sum.inl t,λt=>some<|Sum.inr<|Sum.inl t,λt=>some<|Sum.inr<|Sum.inr<|Sum.inl t,λt=>some<|Sum.inr<|Sum.inr<|Sum.inr<|Sum.inl t,λt=>some<|Sum.inr<|Sum.inr<|Sum.inr<|Sum.inr<|Sum.inl t,λt=>some<|Sum.inr<|Sum.inr<|Sum.inr<|Sum.inr<|Sum.inr<|Sum.inl t,λt=>some<|Sum.inr<|Sum.inr<|Sum.inr<|Sum.inr<|Sum.inr<|Sum.inr<|Sum.inl t,λt=>some<|Sum.inr<|Sum.inr<|Sum.inr<|Sum.inr<|Sum.inr<|Sum.inr<|Sum.inr t,()) ()
def DV: Ic:=cT 54 0 2 0x59ced57708b5d15363a042a6106f276055f98717bb8775171e1a849a6d23fe279c32330aa09284c70931dced172884d3ef55ce9502078fd61dec432553eb5edfa666d2b51f0361d76299ac59c68e15bdf32f537d5e1115a71ab7ca1245a70eb053624615b9a2dcb722ee0a2250aff4fb0b0b694984682534c7fe210e1f dX [⟨0,[CP]⟩] [DU,DS,zW,DP] @Ab
def CM: Lc 18 0 2:=bG 0xba5cd4ce3605d8686633632 dX [] [] @fD
def jA: (aJ×aO×List Int×List Aab×List aQ×List aG×Int)->((Bool->Option R)×Unit)->Unit->Option R:=λ(a,b,c,d,f,g,h) (i,_) _=>cnd (h==0) (cnd (b.Kind==3) (bnd (dK n a.Plan (aK.mk d f c) 0) λj=>cnd j (i true)<|i false)<|cnd (b.Kind==6) (bnd (dK n a.Plan (aK.mk d f c) 0) λl=>cnd l (i true)<|i false)<|i false)<|i false
def Gi:=eU jA
def CK: Lc 18 0 4:=bG 0x5a28e15c6d8e10f5c59465266ed30 dX [] [] @jA
def jB: (aJ×aO×List Int×List Aab×List aQ×List aG×Int)->((Int->Option R)×Unit)->Unit->Option R:=λ(a,b,c,d,f,g,h) (i,_) _=>bnd (Gi n (a,b,c,d,f,g,h)) λj=>cnd j (i 12)<|i h
def fM:=eU jB
def CL: Lc 18 0 3:=bG 0x5a1f0848bf2f181fdf577133bdd30 dX [⟨0,[cs CK]⟩] [] @jB
def CJ: Lc 18 0 2:=bG 0xba5c7b76c53978024af6aa6 dX [] [] @fD
def CH: Lc 18 0 4:=bG 0x5a28b60beec72b803a17d9c376634 dX [] [] @jA
def CI: Lc 18 0 3:=bG 0x5a1edcf8406832aa53dae5d0c5634 dX [⟨0,[cs CH]⟩] [] @jB
def zG: (List Int×List Aab×List aG×List aQ×Int)->((Int->Option R)×Unit)->Unit->Option R:=λ(a,b,c,d,f) (g,_) _=>cnd (f==0) (bnd (dR n<|aJ.mk (aK.mk b d a) c) λh=>g h)<|g f
def Gh:=eU zG
def CG: Lc 18 0 2:=bG 0x70765a81dadcac7cecbf1018cc7f0e5f5754735c259437 dX [] [] @zG
def zE: (aJ×aO×List Int×List Aab×List aG×List aQ×Int)->((Bool->Option R)×Unit)->Unit->Option R:=λ(a,b,c,d,f,g,h) (i,_) _=>cnd (h==0) (cnd (b.Kind==3) (bnd (dK n a.Plan (aK.mk d g c) 0) λj=>cnd j (i true)<|i false)<|cnd (b.Kind==6) (bnd (dK n a.Plan (aK.mk d g c) 0) λl=>cnd l (i true)<|i false)<|i false)<|i false
def Gf:=eU zE
def CD: Lc 18 0 4:=bG 0x8e458dd6e118051b41efa887212197e42db301608f69bf dX [] [] @zE
def zF: (aJ×aO×List Int×List Aab×List aG×List aQ×Int)->((Int->Option R)×Unit)->Unit->Option R:=λ(a,b,c,d,f,g,h) (i,_) _=>bnd (Gf n (a,b,c,d,f,g,h)) λj=>cnd j (i 12)<|i h
def Gg:=eU zF
def CE: Lc 18 0 3:=bG 0x6f8cef857afbc9d8708b87e9105cc5985ae3ea786b69bf dX [⟨0,[cs CD]⟩] [] @zF
def CC: Lc 18 0 2:=bG 0x10ba032ca7a4874b1abae dX [] [] @fD
def CA: Lc 18 0 4:=bG 0x226f110aefa7aa4 dX [] [] @jA
def CB: Lc 18 0 3:=bG 0x226b4e483b1bc94 dX [⟨0,[cs CA]⟩] [] @jB
def nZ: ((Nat×Nat)×List Int×List Aab×List aQ×List aG×Int)->((Int->Option R)×Unit)->Unit->Option R:=λ(a,b,c,d,f,g) (h,_) _=>cnd (g==0) (bnd (dR n<|aJ.mk (aK.mk c (win d<|some a) b) f) λi=>h i)<|h g
def tI:=eU nZ
def BZ: Lc 18 0 2:=bG 0x2af3fc63dd03a33237d72c31e12f3aae dX [] [] @nZ
def nX: (aJ×aO×(Nat×Nat)×List Int×List Aab×List aQ×List aG×Int)->((Bool->Option R)×Unit)->Unit->Option R:=λ(a,b,c,d,f,g,h,i) (j,_) _=>cnd (i==0) (cnd (b.Kind==3) (bnd (dK n a.Plan (aK.mk f (win g<|some c) d) 0) λl=>cnd l (j true)<|j false)<|cnd (b.Kind==6) (bnd (dK n a.Plan (aK.mk f (win g<|some c) d) 0) λm=>cnd m (j true)<|j false)<|j false)<|j false
def Ge:=eU nX
def BW: Lc 18 0 4:=bG 0x12989c78e94a2cb288b40 dX [] [] @nX
def nY: (aJ×aO×(Nat×Nat)×List Int×List Aab×List aQ×List aG×Int)->((Int->Option R)×Unit)->Unit->Option R:=λ(a,b,c,d,f,g,h,i) (j,_) _=>bnd (Ge n (a,b,c,d,f,g,h,i)) λl=>cnd l (j 12)<|j i
def tH:=eU nY
def BX: Lc 18 0 3:=bG 0xb54d9279a828a4510500 dX [⟨0,[cs BW]⟩] [] @nY
def BV: Lc 18 0 2:=bG 0xb6bdaff0ce7ad68379d8 dX [] [] @nZ
def BT: Lc 18 0 4:=bG 0x1ab51e5d2bc0e76420 dX [] [] @nX
def BU: Lc 18 0 3:=bG 0x1046279a2038a1d710 dX [⟨0,[cs BT]⟩] [] @nY
def zD: (List Int×List Aab×List aQ×List aG×aO)->((Int->Option R)×(Unit->Option R)×Unit)->Unit->Option R:=λ(a,b,c,d,f) (g,h,_) _=>bnd (lI n a f.ID) λi=>cnd i (bnd (lI n a f.A) λj=>cnd j (g 8)<|h ())<|g 7
def Gd:=pc2 zD
def BS: Lc 55 0 0:=bG 0x13934f3a3ee612a2d0124990b397d76db4b49882b21b83a9894277e1a011133b7e2a8b7a99284b dX [] [] @zD
def zU: (List Int×List Int×List Aab×List aQ×List aG×aO)->((Int->Option R)×((List Int×List aQ×List aG×Int×Int)->Option R)×Unit)->Unit->Option R:=λ(a,b,c,d,f,g) (h,i,_) _=>bnd2 (Gd n (a,c,d,f,g)) (λj=>h j) λl=>bnd (some l) λ_=>bnd (tL n (a,b,c,d,f,g.ID,g.A)) λm=>i (m.1,m.2.1,m.2.2,g.ID,g.A)
def Gw:=JQ zU
def DM: Ic:=cT 55 0 2 0x18770a9a18ffdcabab702a616d07c2f63f55fe91f dX [⟨0,[BS]⟩] [zW] @zU
def zR(n:Nat): (List Int×List Int×List Aab×List aQ×List aG×Int×Int)->((Unit->Option R)×((List aG×(Nat×Nat))->Option R)×Unit)->Unit->Option R:=λ(a,b,c,d,f,g,h) (i,j,_) _=>bnd (Ls<|decide<|0<=g/\g<=h/\h<=(ln f)/\(ln f)<=(ln f)) λ_=>cnd (g==h) (i ())<|bnd (sub f (0,List.length f) 0 g) λl=>bnd (sub f (0,List.length f) h<|ln f) λm=>bnd (SU f l<|win f<|some m) λo=>bnd (sub o (l.1,l.2+List.length (win f<|some m)) (((l.1,l.2+List.length (win f<|some m)).2:Nat):Int)<|ln f) λr=>bnd (clr o r<|aG.mk 0 0 0 (⟨#[]⟩:ByteArray) []) λs=>j (s,(l.1,l.2+List.length (win f<|some m)))
def Gu:=JQ zR
def DK: Ic:=cT 92 0 3 0x530ee9eebd24c8ddd10bb8adac9f949c80173119bd5b7a662 dX [] [] @zR
def zS: (List Int×List Int×List Aab×List aQ×List aG×aO)->(((List aG×Int)->Option R)×(((Nat×Nat)×List aG)->Option R)×((List aG×Int×Int×Int×ByteArray×List Int×List aG)->Option R)×Unit)->Unit->Option R:=λ(a,b,c,d,f,g) (h,i,j,_) _=>bnd (Ac n (aJ.mk (aK.mk c d a) f) g.ID) λl=>cnd l.2 (cnd (g.Kind==7) (h (f,8))<|cnd (g.Kind==8) (bnd2 (Gu n (a,b,c,d,f,l.1,(wr<|l.1+1))) (λ_=>h (f,0)) λm=>bnd (some m) λo=>i (o.2,o.1))<|cnd (g.Kind==9) (bnd (gR f (List.length f) l.1) λ_=>bnd (idx f l.1) λr=>h ((List.set f (Int.toNat l.1)<|aG.mk r.ID r.Kind r.Class g.Name r.Parts),0))<|cnd (g.Kind==10) (bnd (gR f (List.length f) l.1) λ_=>bnd (idx f l.1) λs=>h ((List.set f (Int.toNat l.1)<|aG.mk s.ID s.Kind g.B s.Name s.Parts),0))<|cnd (g.Kind==11) (bnd (bJ n g.Parts) λt=>bnd (gR f (List.length f) l.1) λ_=>bnd (idx f l.1) λu=>h ((List.set f (Int.toNat l.1)<|aG.mk u.ID u.Kind u.Class u.Name t),0))<|h (f,0))<|cnd (g.Kind==7) (bnd (bJ n g.Parts) λv=>bnd (prd n) λ_=>bnd (aEn f l.1<|aG.mk g.ID g.A g.B g.Name v) λw=>j (w,g.ID,g.A,g.B,g.Name,v,[(aG.mk g.ID g.A g.B g.Name v)]))<|h (f,7)
def Gv:=in3 zS
def DL: Ic:=cT 56 0 2 0x5d3003cecb676e5b2b9d1854f199c9a499b45d49937f5ad719f78019e7f09c8fe0edd15d643c77b768f0d43f135f dX [] [DK] @zS
def zC: (List Int×(Nat×Nat)×List Aab×List aQ×List aG×Int)->((Int->Option R)×Unit)->Unit->Option R:=λ(a,b,c,d,f,g) (h,_) _=>cnd (g==0) (bnd (dR n<|aJ.mk (aK.mk c d a)<|win f<|some b) λi=>h i)<|h g
def Gc:=eU zC
def BR: Lc 18 0 2:=bG 0x1de57c0bc5ad4dffffa755df60225d29050 dX [] [] @zC
def zA: (aJ×aO×List Int×(Nat×Nat)×List Aab×List aQ×List aG×Int)->((Bool->Option R)×Unit)->Unit->Option R:=λ(a,b,c,d,f,g,h,i) (j,_) _=>cnd (i==0) (cnd (b.Kind==3) (bnd (dK n a.Plan (aK.mk f g c) 0) λl=>cnd l (j true)<|j false)<|cnd (b.Kind==6) (bnd (dK n a.Plan (aK.mk f g c) 0) λm=>cnd m (j true)<|j false)<|j false)<|j false
def Ga:=eU zA
def BO: Lc 18 0 4:=bG 0x30aee30773232940522bb8caffa9299cd58 dX [] [] @zA
def zB: (aJ×aO×List Int×(Nat×Nat)×List Aab×List aQ×List aG×Int)->((Int->Option R)×Unit)->Unit->Option R:=λ(a,b,c,d,f,g,h,i) (j,_) _=>bnd (Ga n (a,b,c,d,f,g,h,i)) λl=>cnd l (j 12)<|j i
def Gb:=eU zB
def BQ: Lc 18 0 3:=bG 0x1da8ed2163c000cec43e915a5321492bd58 dX [⟨0,[cs BO]⟩] [] @zB
def wW: Nat->aJ->aO->Option (aJ×Int)
 | 0,_,_=>none
 | n+1,a,b=>bnd (Kr n a) λc=>bnd (Ko n b.Kind) λd=>cnd d (bnd2 (uV n (c.2.2.2.2,c.1,c.2.1,c.2.2.1,c.2.2.2.1,b)) (λf=>bnd (cG n (c.2.2.2.2,f.1,c.2.2.1,c.2.2.2.1,f.2)) λg=>bnd (eA n (a,b,c.2.2.2.2,f.1,c.2.2.1,c.2.2.2.1,g,b.ID)) λh=>cnd (h != 0) (some ((aJ.mk (aK.mk [] [] []) []),h))<|some ((aJ.mk (aK.mk f.1 c.2.2.1 c.2.2.2.2) c.2.2.2.1),0)) λi=>bnd2 (some i) (λj=>bnd (tK n (j.1,c.2.2.2.2,j.2,c.2.2.1,c.2.2.2.1,0)) λl=>bnd (tJ n (a,b,j.1,c.2.2.2.2,j.2,c.2.2.1,c.2.2.2.1,l,b.ID)) λm=>cnd (m != 0) (some ((aJ.mk (aK.mk [] [] []) []),m))<|some ((aJ.mk (aK.mk (win j.2<|some j.1) c.2.2.1 c.2.2.2.2) c.2.2.2.1),0)) λo=>bnd (some o) λr=>bnd (cG n (c.2.2.2.2,r.1,c.2.2.1,c.2.2.2.1,0)) λs=>bnd (eA n (a,b,c.2.2.2.2,r.1,c.2.2.1,c.2.2.2.1,s,b.ID)) λt=>cnd (t != 0) (some ((aJ.mk (aK.mk [] [] []) []),t))<|some ((aJ.mk (aK.mk r.1 c.2.2.1 c.2.2.2.2) c.2.2.2.1),0))<|bnd (Gq n b.Kind) λu=>cnd u (bnd2 (Hb n (c.2.2.2.2,c.1,c.2.1,c.2.2.1,c.2.2.2.1,b)) (λv=>bnd (cG n (c.2.2.2.2,c.2.1,c.2.2.1,c.2.2.2.1,v)) λw=>bnd (eA n (a,b,c.2.2.2.2,c.2.1,c.2.2.1,c.2.2.2.1,w,0)) λx=>cnd (x != 0) (some ((aJ.mk (aK.mk [] [] []) []),x))<|some ((aJ.mk (aK.mk c.2.1 c.2.2.1 c.2.2.2.2) c.2.2.2.1),0)) λy=>bnd2 (some y) (λz=>bnd (cG n (c.2.2.2.2,c.2.1,c.2.2.1,c.2.2.2.1,z.2.2)) λa0=>bnd (fM n (a,b,c.2.2.2.2,c.2.1,c.2.2.1,c.2.2.2.1,a0)) λb0=>cnd (b0 != 0) (some ((aJ.mk (aK.mk [] [] []) []),b0))<|some ((aJ.mk (aK.mk c.2.1 c.2.2.1 c.2.2.2.2) c.2.2.2.1),0)) λc0=>bnd2 (some c0) (λd0=>bnd (cG n (c.2.2.2.2,c.2.1,c.2.2.1,c.2.2.2.1,d0.2.2.2.2.2)) λf0=>bnd (fM n (a,b,c.2.2.2.2,c.2.1,c.2.2.1,c.2.2.2.1,f0)) λg0=>cnd (g0 != 0) (some ((aJ.mk (aK.mk [] [] []) []),g0))<|some ((aJ.mk (aK.mk c.2.1 c.2.2.1 c.2.2.2.2) c.2.2.2.1),0)) λh0=>bnd2 (some h0) (λi0=>bnd (Gh n (i0.1,c.2.1,i0.2.1,i0.2.2.1,0)) λj0=>bnd (Gg n (a,b,i0.1,c.2.1,i0.2.1,i0.2.2.1,j0)) λl0=>cnd (l0 != 0) (some ((aJ.mk (aK.mk [] [] []) []),l0))<|some ((aJ.mk (aK.mk c.2.1 i0.2.2.1 i0.1) i0.2.1),0)) λm0=>bnd2 (some m0) (λo0=>bnd (cG n (c.2.2.2.2,c.2.1,o0.1,c.2.2.2.1,o0.2)) λr0=>bnd (eA n (a,b,c.2.2.2.2,c.2.1,o0.1,c.2.2.2.1,r0,0)) λs0=>cnd (s0 != 0) (some ((aJ.mk (aK.mk [] [] []) []),s0))<|some ((aJ.mk (aK.mk c.2.1 o0.1 c.2.2.2.2) c.2.2.2.1),0)) λt0=>bnd2 (some t0) (λu0=>bnd (cG n (u0.1,c.2.1,u0.2.1,u0.2.2.1,0)) λv0=>bnd (fM n (a,b,u0.1,c.2.1,u0.2.1,u0.2.2.1,v0)) λw0=>cnd (w0 != 0) (some ((aJ.mk (aK.mk [] [] []) []),w0))<|some ((aJ.mk (aK.mk c.2.1 u0.2.1 u0.1) u0.2.2.1),0)) λx0=>bnd2 (some x0) (λy0=>bnd (tI n (y0.1,y0.2.1,c.2.1,y0.2.2.1,y0.2.2.2.1,0)) λz0=>bnd (tH n (a,b,y0.1,y0.2.1,c.2.1,y0.2.2.1,y0.2.2.2.1,z0)) λa1=>cnd (a1 != 0) (some ((aJ.mk (aK.mk [] [] []) []),a1))<|some ((aJ.mk (aK.mk c.2.1 (win y0.2.2.1<|some y0.1) y0.2.1) y0.2.2.2.1),0)) λb1=>bnd (some b1) λc1=>bnd (tI n (c1.1,c.2.2.2.2,c.2.1,c1.2,c.2.2.2.1,0)) λd1=>bnd (tH n (a,b,c1.1,c.2.2.2.2,c.2.1,c1.2,c.2.2.2.1,d1)) λf1=>cnd (f1 != 0) (some ((aJ.mk (aK.mk [] [] []) []),f1))<|some ((aJ.mk (aK.mk c.2.1 (win c1.2<|some c1.1) c.2.2.2.2) c.2.2.2.1),0))<|cnd (b.Kind==12) (bnd2 (Gw n (c.2.2.2.2,c.1,c.2.1,c.2.2.1,c.2.2.2.1,b)) (λg1=>bnd (cG n (c.2.2.2.2,c.2.1,c.2.2.1,c.2.2.2.1,g1)) λh1=>bnd (eA n (a,b,c.2.2.2.2,c.2.1,c.2.2.1,c.2.2.2.1,h1,0)) λi1=>cnd (i1 != 0) (some ((aJ.mk (aK.mk [] [] []) []),i1))<|some ((aJ.mk (aK.mk c.2.1 c.2.2.1 c.2.2.2.2) c.2.2.2.1),0)) λj1=>bnd (some j1) λl1=>bnd (cG n (l1.1,c.2.1,l1.2.1,l1.2.2.1,0)) λm1=>bnd (fM n (a,b,l1.1,c.2.1,l1.2.1,l1.2.2.1,m1)) λo1=>cnd (o1 != 0) (some ((aJ.mk (aK.mk [] [] []) []),o1))<|some ((aJ.mk (aK.mk c.2.1 l1.2.1 l1.1) l1.2.2.1),0))<|bnd2 (Gv n (c.2.2.2.2,c.1,c.2.1,c.2.2.1,c.2.2.2.1,b)) (λr1=>bnd (cG n (c.2.2.2.2,c.2.1,c.2.2.1,r1.1,r1.2)) λs1=>bnd (eA n (a,b,c.2.2.2.2,c.2.1,c.2.2.1,r1.1,s1,0)) λt1=>cnd (t1 != 0) (some ((aJ.mk (aK.mk [] [] []) []),t1))<|some ((aJ.mk (aK.mk c.2.1 c.2.2.1 c.2.2.2.2) r1.1),0)) λu1=>bnd2 (some u1) (λv1=>bnd (Gc n (c.2.2.2.2,v1.1,c.2.1,c.2.2.1,v1.2,0)) λw1=>bnd (Gb n (a,b,c.2.2.2.2,v1.1,c.2.1,c.2.2.1,v1.2,w1)) λx1=>cnd (x1 != 0) (some ((aJ.mk (aK.mk [] [] []) []),x1))<|some ((aJ.mk (aK.mk c.2.1 c.2.2.1 c.2.2.2.2)<|win v1.2<|some v1.1),0)) λy1=>bnd (some y1) λz1=>bnd (cG n (c.2.2.2.2,c.2.1,c.2.2.1,z1.1,0)) λa2=>bnd (fM n (a,b,c.2.2.2.2,c.2.1,c.2.2.1,z1.1,a2)) λb2=>cnd (b2 != 0) (some ((aJ.mk (aK.mk [] [] []) []),b2))<|some ((aJ.mk (aK.mk c.2.1 c.2.2.1 c.2.2.2.2) z1.1),0)
end
end
section
variable {R:Type}(n:Nat)
noncomputable section
def s7: Kn:=bH 18 0x21ed1cf66d0b dX [⟨0,[HP]⟩,⟨1,[CU]⟩,⟨2,[HN,DB,CX,CM,CJ,CG,CC,BZ,BV,BR]⟩,⟨3,[HL,CZ,CW,CL,CI,CE,CB,BX,BU,BQ]⟩] [HU,HT,DV,DM,DL] wW
abbrev aKM:=s7::dX
def Us: (aJ×aO×Int)->((Int->Option R)×Unit)->Unit->Option R:=λ(a,b,c) (d,_) _=>bnd (tO n b) λf=>cnd (f==0) (cnd (c==0) (bnd (dR n a) λg=>d g)<|d f)<|d f
def aCG:=eU Us
def I3: Lc 12 0 1:=bG 0x5f8576ddba2aca1b6c259a7d4b681462720d67c0a21b4ac7132c696a52bbbe79d13df aKM [] [] @Us
def Ur: (aJ×aO×Int)->(((aJ×Int)->Option R)×Unit)->Unit->Option R:=λ(a,b,c) (d,_) _=>cnd (c==0) (bnd (wW n a b) λf=>d (f.1,f.2))<|d (a,c)
def aCF:=eU Ur
def I2: Lc 12 0 2:=bG 0x4f1dc78f7325c121333d9896dc4e582bc44d30a3601f76504dc9221d2e615adf509dea7b aKM [] [] @Ur
def Ut: (List aO×Int)->((aJ×Int)->Option R)->(((aO×Int×Int)->Option R)×(aJ->Option R)×Unit)->(aJ×Int)->Option R:=λ(a,b) c (d,f,_) (g,h)=>cd (h<b) (bnd (idx a h) λi=>bnd (aCG n (g,i,h)) λj=>bnd (aCF n (g,i,j)) λl=>cnd (l.2 != 0) (d (i,h,l.2))<|c (l.1,(wr<|h+1)))<|f g
def aCH:=tS Ut
def I4: Lc 12 0 0:=bQ 0x2ee528313bb93a7154e1127450c970b5020f3a7f59c637552b52eed5825f9085b071258c0a2767 aKM [⟨0,[cs I3]⟩,⟨1,[cs I2]⟩] [] @Ut
def IJ: Nat->aJ->(List aO)->Option (aJ×Int×Int)
 | 0,_,_=>none
 | n+1,a,b=>cd ((ln b) > 4096) (some ((aJ.mk (aK.mk [] [] []) []),0,3))<|bnd (t5 n a) λc=>bnd2 (aCH n (b,(ln b)) (c,0)) (λd=>some ((aJ.mk (aK.mk [] [] []) []),d.2.1,d.2.2)) λf=>bnd (some f) λg=>some (g,(ln b),0)
def aEy: Kn:=bH 12 0x27cec94556f2d3190817 aKM [⟨0,[I4]⟩] [] IJ
abbrev aT5:=aEy::aKM
def gX: Nat->aJ->aO->Option (aJ×Int)
 | 0,_,_=>none
 | n+1,a,b=>bnd (tO n b) λc=>cnd (c != 0) (some ((aJ.mk (aK.mk [] [] []) []),c))<|bnd (dR n a) λd=>cnd (d != 0) (some ((aJ.mk (aK.mk [] [] []) []),d))<|bnd (wW n a b) λf=>some (f.1,f.2)
def aAA: Kn:=bH 4 0x21ed1cf66d0b aT5 [] [] gX
abbrev aVy:=aAA::aT5
def aQw: Kn:=aQb 67 3 12 ⟨_,_,_,rfl,by decide,by decide⟩ (λn p=>clF n p) (λp=>p) λn p r h=>by obtain⟨m,h1,h2,h3⟩:=aQd h;subst h2;exact⟨m,h1,rfl,h3,rfl,λe=>by cases (e:_=[]);rfl⟩
abbrev aQC:=aQw::aVy
def pT: (ByteArray×Int×List aG×Int)->(Int->Option R)->(((Int×Int×Int×ByteArray×List Int×Int×Int×Int×ByteArray×List Int)->Option R)×(Unit->Option R)×Unit)->Int->Option R:=λ(a,b,c,d) f (g,h,_) i=>cd (i<d) (bnd (idx c i) λj=>cnd (j.ID==b) (bnd (clF n j.Parts) λl=>g (j.ID,j.Kind,j.Class,j.Name,l,j.ID,j.Kind,j.Class,j.Name,l))<|f<|wr<|i+1)<|h ()
def RX:=tS pT
def GP: Lc 32 0 0:=bQ 0x13395e87ac7e229bc2a6c0ef95b35bfe339e0b850343bf793b65fa4fe983bfc0cfc94915d39566f92 aQC [] [] @pT
def gL: Nat->aJ->Int->Option (aG×Bool)
 | 0,_,_=>none
 | n+1,a,b=>bnd2 (RX n ((⟨#[]⟩:ByteArray),b,a.Features,(ln a.Features)) 0) (λc=>some ((aG.mk c.1 c.2.1 c.2.2.1 c.2.2.2.1 c.2.2.2.2.1),true)) λd=>bnd (some d) λ_=>some ((aG.mk 0 0 0 (⟨#[]⟩:ByteArray) []),false)
def n4: Kn:=bH 32 0x223a6234b aQC [⟨0,[GP]⟩] [] gL
abbrev aNv:=n4::aQC
def Bx(n:Nat): (aQ×Int×Int)->((Int->Option R)×Unit)->Unit->Option R:=λ(a,b,c) (d,_) _=>cnd (c==b) (d a.Right)<|d c
def Ki:=eU Bx
def HG: Lc 33 0 0:=bG 0x1bba24144d03f5620639c1dff4ba62fd2edab72dbb1f48 aNv [] [] @Bx
def Bw(n:Nat): (aO×Int×Int)->((Bool->Option R)×Unit)->Unit->Option R:=λ(a,b,c) (d,_) _=>cnd (a.C != 0) (cd (c > b) (d true)<|d false)<|d false
def Kh:=eU Bw
def HE: Lc 33 0 1:=bG 0x134ea5be53eb2a4a4766e96dd3f2f48ff9df4b7d8d70ca24d aNv [] [] @Bw
def fH: Nat->aJ->aO->Option (List aO)
 | 0,_,_=>none
 | n+1,a,b=>bnd (pL n a.Plan b.ID) λc=>cnd c.2 (bnd (Ki n (c.1,(iY b.C<|wr<|0-b.C),c.1.Left)) λd=>bnd (Kh n (b,(iY b.C<|wr<|0-b.C),d)) λf=>cnd f (bnd (app [(aO.mk 5 b.ID 0 0 0 (Aaa.mk 0 0) [] (⟨#[]⟩:ByteArray) [])] [(aO.mk 12 (iY b.C<|wr<|0-b.C) d 0 0 (Aaa.mk 0 0) [] (⟨#[]⟩:ByteArray) [])]) λg=>some g)<|some [(aO.mk 5 b.ID 0 0 0 (Aaa.mk 0 0) [] (⟨#[]⟩:ByteArray) [])])<|bnd (Ki n (c.1,(iY b.C<|wr<|0-b.C),c.1.Left)) λh=>bnd (Kh n (b,(iY b.C<|wr<|0-b.C),h)) λi=>cnd i (bnd (app [(aO.mk 5 b.ID 0 0 0 (Aaa.mk 0 0) [] (⟨#[]⟩:ByteArray) [])] [(aO.mk 12 (iY b.C<|wr<|0-b.C) h 0 0 (Aaa.mk 0 0) [] (⟨#[]⟩:ByteArray) [])]) λj=>some j)<|some [(aO.mk 5 b.ID 0 0 0 (Aaa.mk 0 0) [] (⟨#[]⟩:ByteArray) [])]
def r4: Kn:=bH 33 0x2ff498bb1952a29a4d0d2c056c aNv [⟨0,[HG]⟩,⟨1,[HE]⟩] [] fH
abbrev aT4:=r4::aNv
def eQ: Nat->aQ->Option aO
 | 0,_=>none
 | n+1,a=>bnd (cH n a.Via) λb=>cd (a.Left > a.Right) (some<|aO.mk 4 a.ID a.From a.To a.Left (Aaa.mk 0 0) b (⟨#[]⟩:ByteArray) [])<|cd (a.Left<a.Right) (some<|aO.mk 4 a.ID a.From a.To (wr<|0-a.Right) (Aaa.mk 0 0) b (⟨#[]⟩:ByteArray) [])<|some<|aO.mk 4 a.ID a.From a.To 0 (Aaa.mk 0 0) b (⟨#[]⟩:ByteArray) []
def RZ: Kn:=bH 34 0xcc05edde14983c aT4 [] [] eQ
abbrev aT3:=RZ::aT4
def QA: Nat->aJ->aO->Option (List aO×Int)
 | 0,_,_=>none
 | n+1,a,b=>bnd (gX n a b) λc=>cnd (c.2 != 0) (some ([],c.2))<|bnd (fL n a.Plan b.ID) λd=>cnd d.2 (bnd (pL n a.Plan b.ID) λf=>cnd f.2 (bnd (gL n a b.ID) λg=>cnd g.2 (cnd (b.Kind==1) (some ([(aO.mk 2 b.ID 0 0 0 (Aaa.mk 0 0) [] (⟨#[]⟩:ByteArray) [])],0))<|cnd (b.Kind==2) (some ([(aO.mk 1 b.ID 0 0 0 d.1.At [] (⟨#[]⟩:ByteArray) [])],0))<|cnd (b.Kind==3) (some ([(aO.mk b.Kind b.ID 0 0 0 d.1.At [] (⟨#[]⟩:ByteArray) [])],0))<|cnd (b.Kind==4) (bnd (fH n c.1 b) λh=>some (h,0))<|cnd (b.Kind==5) (bnd (eQ n f.1) λi=>some ([i],0))<|cnd (b.Kind==6) (bnd (cH n f.1.Via) λj=>some ([(aO.mk b.Kind b.ID 0 0 0 (Aaa.mk 0 0) j (⟨#[]⟩:ByteArray) [])],0))<|cnd (b.Kind==7) (some ([(aO.mk 8 b.ID 0 0 0 (Aaa.mk 0 0) [] (⟨#[]⟩:ByteArray) [])],0))<|cnd (b.Kind==8) (bnd (bJ n g.1.Parts) λl=>some ([(aO.mk 7 b.ID g.1.Kind g.1.Class 0 (Aaa.mk 0 0) [] g.1.Name l)],0))<|cnd (b.Kind==9) (some ([(aO.mk b.Kind b.ID 0 0 0 (Aaa.mk 0 0) [] g.1.Name [])],0))<|cnd (b.Kind==10) (some ([(aO.mk b.Kind b.ID 0 g.1.Class 0 (Aaa.mk 0 0) [] (⟨#[]⟩:ByteArray) [])],0))<|cnd (b.Kind==11) (bnd (bJ n g.1.Parts) λm=>some ([(aO.mk b.Kind b.ID 0 0 0 (Aaa.mk 0 0) [] (⟨#[]⟩:ByteArray) m)],0))<|cnd (b.Kind==12) (some ([(aO.mk b.Kind b.A b.ID 0 0 (Aaa.mk 0 0) [] (⟨#[]⟩:ByteArray) [])],0))<|some ([(aO.mk b.Kind b.ID 0 0 0 (Aaa.mk 0 0) [] (⟨#[]⟩:ByteArray) [])],0))<|cnd (b.Kind==1) (some ([(aO.mk 2 b.ID 0 0 0 (Aaa.mk 0 0) [] (⟨#[]⟩:ByteArray) [])],0))<|cnd (b.Kind==2) (some ([(aO.mk 1 b.ID 0 0 0 d.1.At [] (⟨#[]⟩:ByteArray) [])],0))<|cnd (b.Kind==3) (some ([(aO.mk b.Kind b.ID 0 0 0 d.1.At [] (⟨#[]⟩:ByteArray) [])],0))<|cnd (b.Kind==4) (bnd (fH n c.1 b) λo=>some (o,0))<|cnd (b.Kind==5) (bnd (eQ n f.1) λr=>some ([r],0))<|cnd (b.Kind==6) (bnd (cH n f.1.Via) λs=>some ([(aO.mk b.Kind b.ID 0 0 0 (Aaa.mk 0 0) s (⟨#[]⟩:ByteArray) [])],0))<|cnd (b.Kind==7) (some ([(aO.mk 8 b.ID 0 0 0 (Aaa.mk 0 0) [] (⟨#[]⟩:ByteArray) [])],0))<|cnd (b.Kind==8) (bnd (bJ n g.1.Parts) λt=>some ([(aO.mk 7 b.ID g.1.Kind g.1.Class 0 (Aaa.mk 0 0) [] g.1.Name t)],0))<|cnd (b.Kind==9) (some ([(aO.mk b.Kind b.ID 0 0 0 (Aaa.mk 0 0) [] g.1.Name [])],0))<|cnd (b.Kind==10) (some ([(aO.mk b.Kind b.ID 0 g.1.Class 0 (Aaa.mk 0 0) [] (⟨#[]⟩:ByteArray) [])],0))<|cnd (b.Kind==11) (bnd (bJ n g.1.Parts) λu=>some ([(aO.mk b.Kind b.ID 0 0 0 (Aaa.mk 0 0) [] (⟨#[]⟩:ByteArray) u)],0))<|cnd (b.Kind==12) (some ([(aO.mk b.Kind b.A b.ID 0 0 (Aaa.mk 0 0) [] (⟨#[]⟩:ByteArray) [])],0))<|some ([(aO.mk b.Kind b.ID 0 0 0 (Aaa.mk 0 0) [] (⟨#[]⟩:ByteArray) [])],0))<|bnd (gL n a b.ID) λv=>cnd v.2 (cnd (b.Kind==1) (some ([(aO.mk 2 b.ID 0 0 0 (Aaa.mk 0 0) [] (⟨#[]⟩:ByteArray) [])],0))<|cnd (b.Kind==2) (some ([(aO.mk 1 b.ID 0 0 0 d.1.At [] (⟨#[]⟩:ByteArray) [])],0))<|cnd (b.Kind==3) (some ([(aO.mk b.Kind b.ID 0 0 0 d.1.At [] (⟨#[]⟩:ByteArray) [])],0))<|cnd (b.Kind==4) (bnd (fH n c.1 b) λw=>some (w,0))<|cnd (b.Kind==5) (bnd (eQ n f.1) λx=>some ([x],0))<|cnd (b.Kind==6) (bnd (cH n f.1.Via) λy=>some ([(aO.mk b.Kind b.ID 0 0 0 (Aaa.mk 0 0) y (⟨#[]⟩:ByteArray) [])],0))<|cnd (b.Kind==7) (some ([(aO.mk 8 b.ID 0 0 0 (Aaa.mk 0 0) [] (⟨#[]⟩:ByteArray) [])],0))<|cnd (b.Kind==8) (bnd (bJ n v.1.Parts) λz=>some ([(aO.mk 7 b.ID v.1.Kind v.1.Class 0 (Aaa.mk 0 0) [] v.1.Name z)],0))<|cnd (b.Kind==9) (some ([(aO.mk b.Kind b.ID 0 0 0 (Aaa.mk 0 0) [] v.1.Name [])],0))<|cnd (b.Kind==10) (some ([(aO.mk b.Kind b.ID 0 v.1.Class 0 (Aaa.mk 0 0) [] (⟨#[]⟩:ByteArray) [])],0))<|cnd (b.Kind==11) (bnd (bJ n v.1.Parts) λa0=>some ([(aO.mk b.Kind b.ID 0 0 0 (Aaa.mk 0 0) [] (⟨#[]⟩:ByteArray) a0)],0))<|cnd (b.Kind==12) (some ([(aO.mk b.Kind b.A b.ID 0 0 (Aaa.mk 0 0) [] (⟨#[]⟩:ByteArray) [])],0))<|some ([(aO.mk b.Kind b.ID 0 0 0 (Aaa.mk 0 0) [] (⟨#[]⟩:ByteArray) [])],0))<|cnd (b.Kind==1) (some ([(aO.mk 2 b.ID 0 0 0 (Aaa.mk 0 0) [] (⟨#[]⟩:ByteArray) [])],0))<|cnd (b.Kind==2) (some ([(aO.mk 1 b.ID 0 0 0 d.1.At [] (⟨#[]⟩:ByteArray) [])],0))<|cnd (b.Kind==3) (some ([(aO.mk b.Kind b.ID 0 0 0 d.1.At [] (⟨#[]⟩:ByteArray) [])],0))<|cnd (b.Kind==4) (bnd (fH n c.1 b) λb0=>some (b0,0))<|cnd (b.Kind==5) (bnd (eQ n f.1) λc0=>some ([c0],0))<|cnd (b.Kind==6) (bnd (cH n f.1.Via) λd0=>some ([(aO.mk b.Kind b.ID 0 0 0 (Aaa.mk 0 0) d0 (⟨#[]⟩:ByteArray) [])],0))<|cnd (b.Kind==7) (some ([(aO.mk 8 b.ID 0 0 0 (Aaa.mk 0 0) [] (⟨#[]⟩:ByteArray) [])],0))<|cnd (b.Kind==8) (bnd (bJ n v.1.Parts) λf0=>some ([(aO.mk 7 b.ID v.1.Kind v.1.Class 0 (Aaa.mk 0 0) [] v.1.Name f0)],0))<|cnd (b.Kind==9) (some ([(aO.mk b.Kind b.ID 0 0 0 (Aaa.mk 0 0) [] v.1.Name [])],0))<|cnd (b.Kind==10) (some ([(aO.mk b.Kind b.ID 0 v.1.Class 0 (Aaa.mk 0 0) [] (⟨#[]⟩:ByteArray) [])],0))<|cnd (b.Kind==11) (bnd (bJ n v.1.Parts) λg0=>some ([(aO.mk b.Kind b.ID 0 0 0 (Aaa.mk 0 0) [] (⟨#[]⟩:ByteArray) g0)],0))<|cnd (b.Kind==12) (some ([(aO.mk b.Kind b.A b.ID 0 0 (Aaa.mk 0 0) [] (⟨#[]⟩:ByteArray) [])],0))<|some ([(aO.mk b.Kind b.ID 0 0 0 (Aaa.mk 0 0) [] (⟨#[]⟩:ByteArray) [])],0))<|bnd (pL n a.Plan b.ID) λh0=>cnd h0.2 (bnd (gL n a b.ID) λi0=>cnd i0.2 (cnd (b.Kind==1) (some ([(aO.mk 2 b.ID 0 0 0 (Aaa.mk 0 0) [] (⟨#[]⟩:ByteArray) [])],0))<|cnd (b.Kind==2) (some ([(aO.mk 1 b.ID 0 0 0 d.1.At [] (⟨#[]⟩:ByteArray) [])],0))<|cnd (b.Kind==3) (some ([(aO.mk b.Kind b.ID 0 0 0 d.1.At [] (⟨#[]⟩:ByteArray) [])],0))<|cnd (b.Kind==4) (bnd (fH n c.1 b) λj0=>some (j0,0))<|cnd (b.Kind==5) (bnd (eQ n h0.1) λl0=>some ([l0],0))<|cnd (b.Kind==6) (bnd (cH n h0.1.Via) λm0=>some ([(aO.mk b.Kind b.ID 0 0 0 (Aaa.mk 0 0) m0 (⟨#[]⟩:ByteArray) [])],0))<|cnd (b.Kind==7) (some ([(aO.mk 8 b.ID 0 0 0 (Aaa.mk 0 0) [] (⟨#[]⟩:ByteArray) [])],0))<|cnd (b.Kind==8) (bnd (bJ n i0.1.Parts) λo0=>some ([(aO.mk 7 b.ID i0.1.Kind i0.1.Class 0 (Aaa.mk 0 0) [] i0.1.Name o0)],0))<|cnd (b.Kind==9) (some ([(aO.mk b.Kind b.ID 0 0 0 (Aaa.mk 0 0) [] i0.1.Name [])],0))<|cnd (b.Kind==10) (some ([(aO.mk b.Kind b.ID 0 i0.1.Class 0 (Aaa.mk 0 0) [] (⟨#[]⟩:ByteArray) [])],0))<|cnd (b.Kind==11) (bnd (bJ n i0.1.Parts) λr0=>some ([(aO.mk b.Kind b.ID 0 0 0 (Aaa.mk 0 0) [] (⟨#[]⟩:ByteArray) r0)],0))<|cnd (b.Kind==12) (some ([(aO.mk b.Kind b.A b.ID 0 0 (Aaa.mk 0 0) [] (⟨#[]⟩:ByteArray) [])],0))<|some ([(aO.mk b.Kind b.ID 0 0 0 (Aaa.mk 0 0) [] (⟨#[]⟩:ByteArray) [])],0))<|cnd (b.Kind==1) (some ([(aO.mk 2 b.ID 0 0 0 (Aaa.mk 0 0) [] (⟨#[]⟩:ByteArray) [])],0))<|cnd (b.Kind==2) (some ([(aO.mk 1 b.ID 0 0 0 d.1.At [] (⟨#[]⟩:ByteArray) [])],0))<|cnd (b.Kind==3) (some ([(aO.mk b.Kind b.ID 0 0 0 d.1.At [] (⟨#[]⟩:ByteArray) [])],0))<|cnd (b.Kind==4) (bnd (fH n c.1 b) λs0=>some (s0,0))<|cnd (b.Kind==5) (bnd (eQ n h0.1) λt0=>some ([t0],0))<|cnd (b.Kind==6) (bnd (cH n h0.1.Via) λu0=>some ([(aO.mk b.Kind b.ID 0 0 0 (Aaa.mk 0 0) u0 (⟨#[]⟩:ByteArray) [])],0))<|cnd (b.Kind==7) (some ([(aO.mk 8 b.ID 0 0 0 (Aaa.mk 0 0) [] (⟨#[]⟩:ByteArray) [])],0))<|cnd (b.Kind==8) (bnd (bJ n i0.1.Parts) λv0=>some ([(aO.mk 7 b.ID i0.1.Kind i0.1.Class 0 (Aaa.mk 0 0) [] i0.1.Name v0)],0))<|cnd (b.Kind==9) (some ([(aO.mk b.Kind b.ID 0 0 0 (Aaa.mk 0 0) [] i0.1.Name [])],0))<|cnd (b.Kind==10) (some ([(aO.mk b.Kind b.ID 0 i0.1.Class 0 (Aaa.mk 0 0) [] (⟨#[]⟩:ByteArray) [])],0))<|cnd (b.Kind==11) (bnd (bJ n i0.1.Parts) λw0=>some ([(aO.mk b.Kind b.ID 0 0 0 (Aaa.mk 0 0) [] (⟨#[]⟩:ByteArray) w0)],0))<|cnd (b.Kind==12) (some ([(aO.mk b.Kind b.A b.ID 0 0 (Aaa.mk 0 0) [] (⟨#[]⟩:ByteArray) [])],0))<|some ([(aO.mk b.Kind b.ID 0 0 0 (Aaa.mk 0 0) [] (⟨#[]⟩:ByteArray) [])],0))<|bnd (gL n a b.ID) λx0=>cnd x0.2 (cnd (b.Kind==1) (some ([(aO.mk 2 b.ID 0 0 0 (Aaa.mk 0 0) [] (⟨#[]⟩:ByteArray) [])],0))<|cnd (b.Kind==2) (some ([(aO.mk 1 b.ID 0 0 0 d.1.At [] (⟨#[]⟩:ByteArray) [])],0))<|cnd (b.Kind==3) (some ([(aO.mk b.Kind b.ID 0 0 0 d.1.At [] (⟨#[]⟩:ByteArray) [])],0))<|cnd (b.Kind==4) (bnd (fH n c.1 b) λy0=>some (y0,0))<|cnd (b.Kind==5) (bnd (eQ n h0.1) λz0=>some ([z0],0))<|cnd (b.Kind==6) (bnd (cH n h0.1.Via) λa1=>some ([(aO.mk b.Kind b.ID 0 0 0 (Aaa.mk 0 0) a1 (⟨#[]⟩:ByteArray) [])],0))<|cnd (b.Kind==7) (some ([(aO.mk 8 b.ID 0 0 0 (Aaa.mk 0 0) [] (⟨#[]⟩:ByteArray) [])],0))<|cnd (b.Kind==8) (bnd (bJ n x0.1.Parts) λb1=>some ([(aO.mk 7 b.ID x0.1.Kind x0.1.Class 0 (Aaa.mk 0 0) [] x0.1.Name b1)],0))<|cnd (b.Kind==9) (some ([(aO.mk b.Kind b.ID 0 0 0 (Aaa.mk 0 0) [] x0.1.Name [])],0))<|cnd (b.Kind==10) (some ([(aO.mk b.Kind b.ID 0 x0.1.Class 0 (Aaa.mk 0 0) [] (⟨#[]⟩:ByteArray) [])],0))<|cnd (b.Kind==11) (bnd (bJ n x0.1.Parts) λc1=>some ([(aO.mk b.Kind b.ID 0 0 0 (Aaa.mk 0 0) [] (⟨#[]⟩:ByteArray) c1)],0))<|cnd (b.Kind==12) (some ([(aO.mk b.Kind b.A b.ID 0 0 (Aaa.mk 0 0) [] (⟨#[]⟩:ByteArray) [])],0))<|some ([(aO.mk b.Kind b.ID 0 0 0 (Aaa.mk 0 0) [] (⟨#[]⟩:ByteArray) [])],0))<|cnd (b.Kind==1) (some ([(aO.mk 2 b.ID 0 0 0 (Aaa.mk 0 0) [] (⟨#[]⟩:ByteArray) [])],0))<|cnd (b.Kind==2) (some ([(aO.mk 1 b.ID 0 0 0 d.1.At [] (⟨#[]⟩:ByteArray) [])],0))<|cnd (b.Kind==3) (some ([(aO.mk b.Kind b.ID 0 0 0 d.1.At [] (⟨#[]⟩:ByteArray) [])],0))<|cnd (b.Kind==4) (bnd (fH n c.1 b) λd1=>some (d1,0))<|cnd (b.Kind==5) (bnd (eQ n h0.1) λf1=>some ([f1],0))<|cnd (b.Kind==6) (bnd (cH n h0.1.Via) λg1=>some ([(aO.mk b.Kind b.ID 0 0 0 (Aaa.mk 0 0) g1 (⟨#[]⟩:ByteArray) [])],0))<|cnd (b.Kind==7) (some ([(aO.mk 8 b.ID 0 0 0 (Aaa.mk 0 0) [] (⟨#[]⟩:ByteArray) [])],0))<|cnd (b.Kind==8) (bnd (bJ n x0.1.Parts) λh1=>some ([(aO.mk 7 b.ID x0.1.Kind x0.1.Class 0 (Aaa.mk 0 0) [] x0.1.Name h1)],0))<|cnd (b.Kind==9) (some ([(aO.mk b.Kind b.ID 0 0 0 (Aaa.mk 0 0) [] x0.1.Name [])],0))<|cnd (b.Kind==10) (some ([(aO.mk b.Kind b.ID 0 x0.1.Class 0 (Aaa.mk 0 0) [] (⟨#[]⟩:ByteArray) [])],0))<|cnd (b.Kind==11) (bnd (bJ n x0.1.Parts) λi1=>some ([(aO.mk b.Kind b.ID 0 0 0 (Aaa.mk 0 0) [] (⟨#[]⟩:ByteArray) i1)],0))<|cnd (b.Kind==12) (some ([(aO.mk b.Kind b.A b.ID 0 0 (Aaa.mk 0 0) [] (⟨#[]⟩:ByteArray) [])],0))<|some ([(aO.mk b.Kind b.ID 0 0 0 (Aaa.mk 0 0) [] (⟨#[]⟩:ByteArray) [])],0)
def I5: Kn:=bH 13 0xb73de2a81dfe0342c9d4 aT3 [] [] QA
abbrev aQB:=I5::aT3
def iB(n:Nat): (List Aaa×List Aaa×Int)->(Int->Option R)->((Unit->Option R)×(Unit->Option R)×Unit)->Int->Option R:=λ(a,b,c) d (f,g,_) h=>cd (h<c) (bnd (idx a h) λi=>bnd (idx b h) λj=>cd (i=j) (d<|wr<|h+1)<|f ())<|g ()
def Ln:=tS iB
def Eo: Lc 94 0 0:=bQ 0x10682ccdf822d949fcdc8 aQB [] [] @iB
def nG: Nat->(List Aaa)->(List Aaa)->Option Bool
 | 0,_,_=>none
 | n+1,a,b=>cnd ((ln a) != (ln b)) (some false)<|bnd2 (Ln n (a,b,(ln a)) 0) (λ_=>some false) λc=>bnd (some c) λ_=>some true
def Mp: Kn:=bH 94 0x12feb608db89ddc aQB [⟨0,[Eo]⟩] [] nG
abbrev K9:=Mp::aQB
def rQ(n:Nat): (aQ×aQ)->((Bool->Option R)×Unit)->Unit->Option R:=λ(a,b) (c,_) _=>cnd (a.From==b.From) (cnd (a.To==b.To) (cnd (a.Left==b.Left) (cnd (a.Right==b.Right) (c true)<|c false)<|c false)<|c false)<|c false
def mL:=eU rQ
def Ma: Lc 58 0 1:=bG 0x232f4b8672d12834067cb5d4d6130902ea41e8a21738cb9ae77935e846efbac447 K9 [] [] @rQ
def rP: (List Aaa×List Aaa)->((Bool->Option R)×Unit)->Unit->Option R:=λ(a,b) (c,_) _=>bnd (nG n a b) λd=>cnd d (c true)<|c false
def wK:=eU rP
def Lz: Lc 58 0 2:=bG 0x298a772b95af73872304df4aab05da96b625b78bfbc8ee170c49664940 K9 [] [] @rP
def Ly: Lc 58 0 2:=bG 0x16c88c06686f779ffca08b133f3c11dae9ee56db8 K9 [] [] @dY
def Lx: Lc 58 0 2:=bG 0x437dd7d45c148a6f28c5a80f0590f6e0 K9 [] [] @dY
def eN: (aK×aK×List aQ×Int)->((List Int×(List<|Int×Bool)×Int)->Option R)->(((List Int×(List<|Int×Bool))->Option R)×Unit)->(List Int×(List<|Int×Bool)×Int)->Option R:=λ(a,b,c,d) f (g,_) (h,i,j)=>cd (j<d) (bnd (idx c j) λl=>bnd (pL n b l.ID) λm=>cnd m.2 (bnd (eO n a l.ID) λo=>bnd (eO n b l.ID) λr=>bnd (mL n (l,m.1)) λs=>cnd s (bnd (wK n (o.1,r.1)) λt=>cnd t (f (h,i,(wr<|j+1)))<|bnd (app h [l.Left,l.Right]) λu=>f (u,(jS i l.ID true),(wr<|j+1)))<|bnd (cE n ()) λ_=>bnd (app h [l.Left,l.Right]) λv=>f (v,(jS i l.ID true),(wr<|j+1)))<|bnd (eO n a l.ID) λ_=>bnd (eO n b l.ID) λ_=>bnd (mL n (l,m.1)) λw=>cnd w (bnd (cE n ()) λ_=>bnd (app h [l.Left,l.Right]) λx=>f (x,(jS i l.ID true),(wr<|j+1)))<|bnd (cE n ()) λ_=>bnd (app h [l.Left,l.Right]) λy=>f (y,(jS i l.ID true),(wr<|j+1)))<|g (h,i)
def Uc:=rG eN
def Mc: Lc 58 0 0:=bQ 0xb3d11ee03a9a72d45381b75e5f71541a40dc8659362075ef182c2025cfbc9c2b1c952e4b3a2b69f6644570b7d6b387ac67e08e8dfc09f76a K9 [⟨0,[cs Ma]⟩,⟨1,[cs Lz,cs Ly,cs Lx]⟩] [] @eN
def rJ: (List Int×Int)->((Bool->Option R)×Unit)->Unit->Option R:=λ(a,b) (c,_) _=>cnd (b != 0) (bnd (lI n a b) λd=>cnd d (c true)<|c false)<|c false
def wJ:=eU rJ
def Lw: Lc 95 0 0:=bG 0x1aefaa81c5b95201afbd7fa8ff8cb1af508 K9 [] [] @rJ
def rS: (List Int×Int)->((Bool->Option R)×Unit)->Unit->Option R:=λ(a,b) (c,_) _=>bnd (wJ n (a,b)) λd=>cnd d (c true)<|c false
def mM:=Bj rS
def Md: Ic:=cT 95 0 2 0x2375996e9ef086477d432b80788d21d6508 K9 [⟨0,[Lw]⟩] [] @rS
def gC: (aK×List Int×(List<|Int×Bool)×List aQ×Int)->((List Aaa×Int)->Option R)->(((List Aaa)->Option R)×Unit)->(List Aaa×Int)->Option R:=λ(a,b,c,d,f) g (h,_) (i,j)=>cd (j<f) (bnd (idx d j) λl=>cnd ((Option.getD (bX c l.ID) false)) (bnd (eO n a l.ID) λm=>bnd (app i m.1) λo=>g (o,(wr<|j+1)))<|bnd (mM n (b,l.Left)) λr=>cnd r (bnd (eO n a l.ID) λs=>bnd (app i s.1) λt=>g (t,(wr<|j+1)))<|bnd (mM n (b,l.Right)) λu=>cnd u (bnd (eO n a l.ID) λv=>bnd (app i v.1) λw=>g (w,(wr<|j+1)))<|g (i,(wr<|j+1)))<|h i
def Ub:=rG gC
def Mb: Lc 58 0 3:=bQ 0x34466e9fb7c8cf9aaa5762ad7cd2d377677bb82e258a3cfc7895866963b646e0b9b22dffbd5efed6a1629ed179c31bf2a5989ecb40078184bd6 K9 [] [Md] @gC
def tN: Nat->aK->aK->Option (List Aaa)
 | 0,_,_=>none
 | n+1,a,b=>bnd (Uc n (a,b,a.Arcs,(ln a.Arcs)) ([],[],0)) λc=>bnd (Ub n (a,c.1,c.2,a.Arcs,(ln a.Arcs)) ([],0)) λd=>some d
def DW: Kn:=bH 58 0x41bd7ad148586bab93fa8795d2f5bf8d K9 [⟨0,[Mc]⟩,⟨3,[Mb]⟩] [] tN
abbrev aQA:=DW::K9
def sC(n:Nat): (List Aaa×Int)->((Int×Int×Int×Int×Int)->Option R)->(((Int×Int×Int×Int)->Option R)×Unit)->(Int×Int×Int×Int×Int)->Option R:=λ(a,b) c (d,_) (f,g,h,i,j)=>cd (j<b) (bnd (idx a j) λl=>c ((pO f l.X),(pO g l.Y),(iY h l.X),(iY i l.Y),(wr<|j+1)))<|d (f,g,h,i)
def UZ:=rG sC
def KN: Lc 20 0 0:=bQ 0xfff4cb6f4c239208cb0a7981f4a5778b591dc2cb3b29813d6ac2bf1eb aQA [] [] @sC
def kK: Nat->(List Aaa)->Option Aad
 | 0,_=>none
 | n+1,a=>cnd ((ln a)==0) (some<|Aad.mk 0 0 (-1) (-1))<|bnd (idx a 0) λb=>bnd (idx a 0) λc=>bnd (idx a 0) λd=>bnd (idx a 0) λf=>bnd (UZ n (a,(ln a)) (b.X,c.Y,d.X,f.Y,0)) λg=>some<|Aad.mk g.1 g.2.1 g.2.2.1 g.2.2.2
def E8: Kn:=bH 20 0x125041183b44 aQA [⟨0,[KN]⟩] [] kK
abbrev aDt:=E8::aQA
def mI: (aJ×List Int×Int)->((List Aaa×Int)->Option R)->(((List Aaa)->Option R)×Unit)->(List Aaa×Int)->Option R:=λ(a,b,c) d (f,_) (g,h)=>cd (h<c) (bnd (idx b h) λi=>bnd (fL n a.Plan i) λj=>cnd j.2 (bnd (app g [j.1.At]) λl=>d (l,(wr<|h+1)))<|d (g,(wr<|h+1)))<|f g
def GZ:=rG mI
def Tq: Lc 23 0 0:=bQ 0x25a98312af75e5b694f850a7aa19fb931457493c5982069e31b87240f4459226d8ca19cc5b9434549 aDt [] [] @mI
def mJ: (aJ×List Aaa×Int)->(((List Aaa)->Option R)×Unit)->Unit->Option R:=λ(a,b,c) (d,_) _=>bnd (eO n a.Plan c) λf=>cnd (f.2==0) (bnd (app b f.1) λg=>d g)<|d b
def qI:=Bj mJ
def Tu: Ic:=cT 60 0 3 0x525eb08df417eec21cde728f323de44f179ed01deda35d037cc9 aDt [] [] @mJ
def mH: (aJ×List Int×Int)->((List Aaa×Int)->Option R)->(((List Aaa)->Option R)×Unit)->(List Aaa×Int)->Option R:=λ(a,b,c) d (f,_) (g,h)=>cd (h<c) (bnd (idx b h) λi=>bnd (qI n (a,g,i)) λj=>d (j,(wr<|h+1)))<|f g
def GY:=rG mH
def Tp: Lc 23 0 1:=bQ 0x2e278ab6a09d62b2300f0e584d38087c955c43b804b1ef68765dcafe3b7574756d44f1d6979 aDt [] [Tu] @mH
def wF: (aG×aQ)->((Bool->Option R)×Unit)->Unit->Option R:=λ(a,b) (c,_) _=>bnd (cZ n a.Parts b.Left) λd=>cnd d (c true)<|bnd (cZ n a.Parts b.Right) λf=>cnd f (c true)<|c false
def Bt:=eU wF
def Tm: Lc 23 0 3:=bG 0x1ac1c96f7a0d4fbbcf41a649b56ad0f92ecdb33bd68699f1d8da4501a2ad61c447981d3ed6133f96b aDt [] [] @wF
def Ts: Ic:=cT 60 0 3 0x1bce5051d9b33a7346e352e02cf9cec054138b61f2892e8d3fedfedaca465 aDt [] [] @mJ
def mG: (aJ×aG×List aQ×Int)->((List Aaa×Int)->Option R)->(((List Aaa)->Option R)×Unit)->(List Aaa×Int)->Option R:=λ(a,b,c,d) f (g,_) (h,i)=>cd (i<d) (bnd (idx c i) λj=>bnd (Bt n (b,j)) λl=>cnd l (bnd (qI n (a,h,j.ID)) λm=>f (m,(wr<|i+1)))<|f (h,(wr<|i+1)))<|g h
def GX:=rG mG
def Tn: Lc 23 0 2:=bQ 0x54273e02e6fa10fdcc12dbed39d099241ba444083d531f54dcd1282f453a9bf3d69d31820fdb2eceed0b103f3cb2 aDt [⟨0,[cs Tm]⟩] [Ts] @mG
def eI: Nat->aJ->Int->Option (Aad×Bool)
 | 0,_,_=>none
 | n+1,a,b=>bnd (gL n a b) λc=>cnd c.2 (bnd (cM n c.1.Kind) λd=>cnd (d==1) (bnd (GZ n (a,c.1.Parts,(ln c.1.Parts)) ([],0)) λf=>cnd ((ln f)==0) (some ((Aad.mk 0 0 0 0),false))<|bnd (kK n f) λg=>some (g,true))<|cnd (d==2) (bnd (GY n (a,c.1.Parts,(ln c.1.Parts)) ([],0)) λh=>cnd ((ln h)==0) (some ((Aad.mk 0 0 0 0),false))<|bnd (kK n h) λi=>some (i,true))<|cnd (d==3) (bnd (GX n (a,c.1,a.Plan.Arcs,(ln a.Plan.Arcs)) ([],0)) λj=>cnd ((ln j)==0) (some ((Aad.mk 0 0 0 0),false))<|bnd (kK n j) λl=>some (l,true))<|some ((Aad.mk 0 0 0 0),false))<|some ((Aad.mk 0 0 0 0),false)
def NC: Kn:=bH 23 0x18d0b7fe25987381d5 aDt [⟨0,[Tq]⟩,⟨1,[Tp]⟩,⟨2,[Tn]⟩] [] eI
abbrev aDs:=NC::aDt
def Co(n:Nat): (Aab×Aab)->((Bool->Option R)×Unit)->Unit->Option R:=λ(a,b) (c,_) _=>cd (b=a) (c false)<|c true
def Kw:=eU Co
def IG: Lc 19 0 1:=bG 0x1e47b0f6c09de6ada40d529a40088ca48270cce0a0308c3d90dba1a850 aDs [] [] @Co
def IF: Lc 19 0 1:=bG 0xff53e564dc8fe203aa3a20b0905c32343210888eb7a aDs [] [] @dY
def kH: (aJ×List Aab×Int)->((List Aaa×Int)->Option R)->(((List Aaa)->Option R)×Unit)->(List Aaa×Int)->Option R:=λ(a,b,c) d (f,_) (g,h)=>cd (h<c) (bnd (idx b h) λi=>bnd (fL n a.Plan i.ID) λj=>cnd j.2 (bnd (Kw n (i,j.1)) λl=>cnd l (bnd (app g [i.At]) λm=>d (m,(wr<|h+1)))<|d (g,(wr<|h+1)))<|bnd (cE n ()) λ_=>bnd (app g [i.At]) λo=>d (o,(wr<|h+1)))<|f g
def SI:=rG kH
def II: Lc 19 0 0:=bQ 0x16cfbed76f51ee9c98f3d25c18783531b360dbb2fb15b55d0e5a4aea4e51a49d05c7cbde5b56ec5c3 aDs [⟨0,[cs IG,cs IF]⟩] [] @kH
def Cn: (aG×aG)->((Bool->Option R)×Unit)->Unit->Option R:=λ(a,b) (c,_) _=>cnd (a.Kind==b.Kind) (cnd (a.Class==b.Class) (cd (a.Name=b.Name) (bnd (iA n a.Parts b.Parts) λd=>cnd d (c true)<|c false)<|c false)<|c false)<|c false
def Kv:=eU Cn
def IE: Lc 19 0 3:=bG 0x1513760d965ade93ff5fa0e0cf0db5ad121dd7b98b127df748455835d44a0 aDs [] [] @Cn
def IB: Lc 19 0 3:=bG 0xb1bc35ceb069f1616ee9468ac8f0cb9877be36ee07f53a aDs [] [] @dY
def gM: (aJ×aJ×List aG×Int)->((List Aaa×Int)->Option R)->(((List Aaa)->Option R)×Unit)->(List Aaa×Int)->Option R:=λ(a,b,c,d) f (g,_) (h,i)=>cd (i<d) (bnd (idx c i) λj=>bnd (gL n b j.ID) λl=>cnd l.2 (bnd (Kv n (j,l.1)) λm=>cnd m (f (h,(wr<|i+1)))<|bnd (eI n a j.ID) λo=>cnd o.2 (bnd (app h [(Aaa.mk o.1.X0 o.1.Y0),(Aaa.mk o.1.X1 o.1.Y1)]) λr=>f (r,(wr<|i+1)))<|f (h,(wr<|i+1)))<|bnd (cE n ()) λ_=>bnd (eI n a j.ID) λs=>cnd s.2 (bnd (app h [(Aaa.mk s.1.X0 s.1.Y0),(Aaa.mk s.1.X1 s.1.Y1)]) λt=>f (t,(wr<|i+1)))<|f (h,(wr<|i+1)))<|g h
def SH:=rG gM
def IH: Lc 19 0 2:=bQ 0xaf54078ecfba8b53c7ffef97600f5514eba4bdf24c1a232d39b23f3efdd8bac1ee1cef609c78ea0e13c aDs [⟨0,[cs IE,cs IB]⟩] [] @gM
def wX: Nat->aJ->aJ->Option (List Aaa)
 | 0,_,_=>none
 | n+1,a,b=>bnd (SI n (b,a.Plan.Nodes,(ln a.Plan.Nodes)) ([],0)) λc=>bnd (tN n a.Plan b.Plan) λd=>bnd (app c d) λf=>bnd (SH n (a,b,a.Features,(ln a.Features)) (f,0)) λg=>bnd (Ls true) λ_=>some g
def t8: Kn:=bH 19 0x1361334a9ee2d09efa751 aDs [⟨0,[II]⟩,⟨2,[IH]⟩] [] wX
abbrev aT1:=t8::aDs
def qN: Nat->aJ->aO->Option (Aad×Int)
 | 0,_,_=>none
 | n+1,a,b=>bnd (gX n a b) λc=>cnd (c.2 != 0) (some ((Aad.mk 0 0 0 0),c.2))<|bnd (wX n a c.1) λd=>bnd (wX n c.1 a) λf=>bnd (app d f) λg=>bnd (kK n g) λh=>some (h,0)
def t9: Kn:=bH 6 0x21ed20d7558b aT1 [] [] qN
abbrev aQ9:=t9::aT1
def qV(n:Nat): (List Int×List Int)->(Int->Option R)->((Unit->Option R)×(Unit->Option R)×Unit)->Int->Option R:=λ(a,b) c (d,f,_) g=>cd (g<(ln a)) (bnd (idx a g) λh=>bnd (idx b g) λi=>cnd (h != i) (d ())<|c<|wr<|g+1)<|f ()
def SZ:=tS qV
def JG: Lc 14 0 0:=bQ 0x1067d52099a6388bac24d aQ9 [] [] @qV
def qW: Nat->(List Int)->(List Int)->Option Bool
 | 0,_,_=>none
 | n+1,a,b=>cnd ((ln a) != (ln b)) (some false)<|bnd2 (SZ n (a,b) 0) (λ_=>some false) λc=>bnd (some c) λ_=>some true
def A6: Kn:=bH 14 0x1b47bfe354b6 aQ9 [⟨0,[JG]⟩] [] qW
abbrev aQ8:=A6::aQ9
def qX(n:Nat): (List Aaa×List Aaa)->(Int->Option R)->((Unit->Option R)×(Unit->Option R)×Unit)->Int->Option R:=λ(a,b) c (d,f,_) g=>cd (g<(ln a)) (bnd (idx a g) λh=>bnd (idx b g) λi=>cd (h=i) (c<|wr<|g+1)<|d ())<|f ()
def TA:=tS qX
def JL: Lc 68 0 0:=bQ 0x1067d5209a4850284f84d aQ8 [] [] @qX
def xB: Nat->(List Aaa)->(List Aaa)->Option Bool
 | 0,_,_=>none
 | n+1,a,b=>cnd ((ln a) != (ln b)) (some false)<|bnd2 (TA n (a,b) 0) (λ_=>some false) λc=>bnd (some c) λ_=>some true
def B0: Kn:=bH 68 0x12feb608db89ddc aQ8 [⟨0,[JL]⟩] [] xB
abbrev aQ7:=B0::aQ8
def Cz: (aO×aO)->((Bool->Option R)×Unit)->Unit->Option R:=λ(a,b) (c,_) _=>cnd (a.Kind==b.Kind) (cnd (a.ID==b.ID) (cnd (a.A==b.A) (cnd (a.B==b.B) (cnd (a.C==b.C) (cd (a.At=b.At) (cd (a.Name=b.Name) (bnd (xB n a.Via b.Via) λd=>cnd d (bnd (qW n a.Parts b.Parts) λf=>cnd f (c true)<|c false)<|c false)<|c false)<|c false)<|c false)<|c false)<|c false)<|c false)<|c false
def SX:=eU Cz
def JC: Lc 37 0 0:=bG 0x1c17c2db4061b6f aQ7 [] [] @Cz
def JD: Nat->aO->aO->Option Bool
 | 0,_,_=>none
 | n+1,a,b=>bnd (SX n (a,b)) λc=>cnd c (some true)<|some false
def A4: Kn:=bH 37 0x12feb402581b584 aQ7 [⟨0,[JC]⟩] [] JD
abbrev aQ6:=A4::aQ7
def Al: (List aO×List aO)->(Int->Option R)->((Unit->Option R)×(Unit->Option R)×Unit)->Int->Option R:=λ(a,b) c (d,f,_) g=>cd (g<(ln a)) (bnd (idx a g) λh=>bnd (idx b g) λi=>bnd (JD n h i) λj=>cnd j (c<|wr<|g+1)<|d ())<|f ()
def OS:=tS Al
def EF: Lc 15 0 0:=bQ 0x7f428056c3b3147632a8fa405d aQ6 [] [] @Al
def Vl: Nat->(List aO)->(List aO)->Option Bool
 | 0,_,_=>none
 | n+1,a,b=>cnd ((ln a) != (ln b)) (some false)<|bnd2 (OS n (a,b) 0) (λ_=>some false) λc=>bnd (some c) λ_=>some true
def SW: Kn:=bH 15 0x12feb458c3586e8 aQ6 [⟨0,[EF]⟩] [] Vl
abbrev aNu:=SW::aQ6
def Pu(n:Nat): (Int×Int×Int×Int×Int×Int×Int×Int×Int×Int×Int×Int)->((Bool->Option R)×Unit)->Unit->Option R:=λ(a,b,c,d,f,g,h,i,j,l,m,o) (r,_) _=>cnd (a != 2) (r true)<|cnd (b != 0) (r true)<|cnd (c != 1) (r true)<|cnd (d != 12) (r true)<|cnd (f != 1) (r true)<|cnd (g != 12) (r true)<|cnd (h != 0) (r true)<|cnd (i != 13) (r true)<|cnd (j != 8) (r true)<|cnd (l != 0) (r true)<|cnd (m != 0) (r true)<|cnd (o != 0) (r true)<|r false
def aAN:=eU Pu
def z8: Lc 3 0 0:=bG 0x20036e00c93cf01981f39e282a6a706c191f415585c3a8dd256d45bd1b83881b6c26ec62850 aNu [] [] @Pu
def Pt: (aJ×Aad×List aO)->((Bool->Option R)×Unit)->Unit->Option R:=λ(a,b,c) (d,_) _=>cnd ((ln a.Plan.Arcs)==2) (bnd (idx a.Plan.Arcs 0) λf=>cnd (f.Left==7) (bnd (idx a.Plan.Arcs 1) λg=>cnd (g.Left==7) (bnd (idx a.Plan.Arcs 1) λh=>cnd (h.Right==1) (cnd ((ln a.Features)==1) (bnd (idx a.Features 0) λi=>bnd (qW n i.Parts [1,7]) λj=>cnd j (bnd (Vl n c [(aO.mk 5 2 0 0 0 (Aaa.mk 0 0) [] (⟨#[]⟩:ByteArray) [])]) λl=>cnd l (cd (b=(Aad.mk 0 0 10 10)) (bnd (tO n<|aO.mk 13 0 0 0 0 (Aaa.mk 0 0) [] (⟨#[]⟩:ByteArray) []) λm=>cnd (m==9) (bnd (tO n<|aO.mk 5 1 1 0 0 (Aaa.mk 0 0) [] (⟨#[]⟩:ByteArray) []) λo=>cnd (o==1) (d true)<|d false)<|d false)<|d false)<|d false)<|d false)<|d false)<|d false)<|d false)<|d false)<|d false
def aAM:=eU Pt
def z7: Lc 3 0 1:=bG 0xd3af8665f82a794ed8909ae0c835d4c580dc4243cbb04c24d619ac68af5049e aNu [] [] @Pt
def fN: Nat->Option Bool
 | 0=>none
 | n+1=>bnd (Jj n 1) λa=>bnd (IJ n (aJ.mk (aK.mk [] [] []) []) a) λb=>bnd (Jj n 0) λc=>bnd (IJ n (aJ.mk (aK.mk [] [] []) []) c) λd=>bnd (Jj n (-1)) λf=>bnd (IJ n (aJ.mk (aK.mk [] [] []) []) f) λg=>bnd (gX n b.1<|aO.mk 7 5 5 1 0 (Aaa.mk 0 0) [] (⟨#[85,114]⟩:ByteArray) [1]) λh=>bnd (gX n h.1<|aO.mk 5 1 0 0 0 (Aaa.mk 0 0) [] (⟨#[]⟩:ByteArray) []) λi=>bnd (gX n h.1<|aO.mk 12 1 1 0 0 (Aaa.mk 0 0) [] (⟨#[]⟩:ByteArray) []) λj=>bnd (gX n h.1<|aO.mk 4 2 1 1 7 (Aaa.mk 0 0) [(Aaa.mk 1 4),(Aaa.mk 5 5),(Aaa.mk 4 1)] (⟨#[]⟩:ByteArray) []) λl=>bnd (QA n h.1<|aO.mk 4 2 1 1 7 (Aaa.mk 0 0) [(Aaa.mk 1 4),(Aaa.mk 5 5),(Aaa.mk 4 1)] (⟨#[]⟩:ByteArray) []) λm=>bnd (qN n h.1<|aO.mk 4 2 1 1 7 (Aaa.mk 0 0) [(Aaa.mk 1 4),(Aaa.mk 5 5),(Aaa.mk 4 1)] (⟨#[]⟩:ByteArray) []) λo=>bnd (aAN n (b.2.1,b.2.2,d.2.1,d.2.2,g.2.1,g.2.2,h.2,i.2,j.2,l.2,m.2,o.2)) λr=>cnd r (some false)<|bnd (aAM n (l.1,o.1,m.1)) λs=>cnd s (some true)<|some false
def aDe: Kn:=bH 3 0x9d7dee940f50e0d57 aNu [⟨0,[z8]⟩,⟨1,[z7]⟩] [] fN
end
end
section
variable {R:Type}(n:Nat)
noncomputable section
abbrev aQ5:=aDe::aNu
def JO(n:Nat): (aK×Int)->(Int->Option R)->(((Int×Int×Int×Int×Int×Int×Int×Int×Int×Int)->Option R)×((Int×Int×Int×Int×Int×Int×Int×Int×Int×Int×List Aaa)->Option R)×(Unit->Option R)×Unit)->Int->Option R:=λ(a,b) c (d,f,g,_) h=>cd (h<(ln a.Arcs)) (bnd (idx a.Arcs h) λi=>cnd (i.ID==b) (bnd (idx a.Arcs h) λj=>cnd (List.isEmpty j.Via) (d (j.ID,j.From,j.To,j.Left,j.Right,j.ID,j.From,j.To,j.Left,j.Right))<|bnd (app ([]:List Aaa) j.Via) λl=>f (j.ID,j.From,j.To,j.Left,j.Right,j.ID,j.From,j.To,j.Left,j.Right,l))<|c<|wr<|h+1)<|g ()
def aEM:=lp3 JO
def aAY: Lc 5 0 0:=bQ 0x813e2c900f65b1947f0b6e1ebac76fe16f5a04c17e455e59fc9933a31dc021163d07357f6100992ba6a83ea2ae5125b5f239c6195c504bfa828f763c85e5bba407b6eebcfea03a5b748fbe7f152 aQ5 [] [] @JO
def aGE: Nat->aK->Int->Option (aQ×Bool)
 | 0,_,_=>none
 | n+1,a,b=>bnd2 (aEM n (a,b) 0) (λc=>some ((aQ.mk c.1 c.2.1 c.2.2.1 [] c.2.2.2.1 c.2.2.2.2.1),true)) λd=>bnd2 (some d) (λf=>some ((aQ.mk f.1 f.2.1 f.2.2.1 f.2.2.2.2.2.2.2.2.2.2 f.2.2.2.1 f.2.2.2.2.1),true)) λg=>bnd (some g) λ_=>some ((aQ.mk 0 0 0 [] 0 0),false)
def aHT: Kn:=bH 5 0x17d3eefdc93d aQ5 [⟨0,[aAY]⟩] [] aGE
abbrev aIe:=aHT::aQ5
def Aj(n:Nat): aO->((Bool->Option R)×Unit)->Unit->Option R:=λa (b,_) _=>cnd (a.Kind==4) (cnd (a.C != 0) (b true)<|b false)<|b false
def OP:=eU Aj
def ED: Lc 0 0 1:=bG 0x6b54b0290dc66360fa13c08b1aec4384984967f66cd aIe [] [] @Aj
def Ak: (aO×Int)->((Int->Option R)×Unit)->Unit->Option R:=λ(a,b) (c,_) _=>bnd (OP n a) λd=>cnd d (c<|wr<|b+1)<|c b
def OQ:=eU Ak
def EE: Lc 0 0 0:=bG 0x1bba243cc24e77a6a78c465d1157c5290be1933ee612dd aIe [⟨0,[cs ED]⟩] [] @Ak
def Ai(n:Nat): (aO×aQ)->((Bool->Option R)×Unit)->Unit->Option R:=λ(a,b) (c,_) _=>cnd (a.Kind==5) (cnd (b.Left != b.Right) (c true)<|c false)<|c false
def OO:=eU Ai
def EC: Lc 0 0 2:=bG 0x195083fbebcbcd433c3c15fd39127a175ba5403fef67d63fe562446bcd aIe [] [] @Ai
def Ah(n:Nat): aO->((Unit->Option R)×Unit)->Unit->Option R:=λa (b,_) _=>cnd (a.Kind==5) (b ())<|b ()
def ON:=eU Ah
def EB: Lc 0 0 2:=bG 0x11a04fc6c09bb86862177a75991ac588b761a7d1b8d3c3a7a9946bfbcd1cc aIe [] [] @Ah
def J7: Nat->aJ->aO->Option Bool
 | 0,_,_=>none
 | n+1,a,b=>bnd (UF n a [b]) λc=>cnd c (bnd (gX n a b) λd=>cnd (d.2 != 0) (bnd (fN n) λf=>cnd f (some true)<|some false)<|bnd (OQ n (b,(ln a.Plan.Faces))) λg=>bnd (aGE n a.Plan b.ID) λh=>cnd h.2 (bnd (OO n (b,h.1)) λi=>cnd i (cnd ((ln d.1.Plan.Faces)==(wr<|g-1)) (bnd (fN n) λj=>cnd j (some true)<|some false)<|some false)<|cnd ((ln d.1.Plan.Faces)==g) (bnd (fN n) λl=>cnd l (some true)<|some false)<|some false)<|bnd (ON n b) λ_=>cnd ((ln d.1.Plan.Faces)==g) (bnd (fN n) λm=>cnd m (some true)<|some false)<|some false)<|bnd (fN n) λo=>cnd o (some true)<|some false
def SV: Kn:=bH 0 0x6da3bb1dbac22f8d582c aIe [⟨0,[EE]⟩,⟨2,[EC,EB]⟩] [] J7
abbrev aQ4:=SV::aIe
def Dz(n:Nat): (aK×Int)->(Int->Option R)->((Aab->Option R)×(Unit->Option R)×Unit)->Int->Option R:=λ(a,b) c (d,f,_) g=>cd (g<(ln a.Nodes)) (bnd (idx a.Nodes g) λh=>cnd (h.ID==b) (bnd (idx a.Nodes g) λi=>d i)<|c<|wr<|g+1)<|f ()
def aDn:=tS Dz
def K7: Lc 21 0 0:=bQ 0x27a6e5650a225e4f9a5217625776be4cb42d57fb9d17817f546a997bd6f3c91c6624d1513d2 aQ4 [] [] @Dz
def B2: Nat->aK->Int->Option (Aab×Bool)
 | 0,_,_=>none
 | n+1,a,b=>bnd2 (aDn n (a,b) 0) (λc=>some (c,true)) λd=>bnd (some d) λ_=>some ((Aab.mk 0<|Aaa.mk 0 0),false)
def aEK: Kn:=bH 21 0x3330e1d6b265 aQ4 [⟨0,[K7]⟩] [] B2
abbrev aQ3:=aEK::aQ4
def Dv(n:Nat): (aJ×ByteArray×Int)->(Int->Option R)->(((Int×Int×Int×ByteArray×Int×Int×Int×ByteArray)->Option R)×((Int×Int×Int×ByteArray×Int×Int×Int×ByteArray×List Int)->Option R)×(Unit->Option R)×Unit)->Int->Option R:=λ(a,b,c) d (f,g,h,_) i=>cd (i<(ln a.Features)) (bnd (idx a.Features i) λj=>cnd (j.ID==c) (bnd (idx a.Features i) λl=>cnd (List.isEmpty l.Parts) (f (l.ID,l.Kind,l.Class,l.Name,l.ID,l.Kind,l.Class,l.Name))<|bnd (app ([]:List Int) l.Parts) λm=>g (l.ID,l.Kind,l.Class,l.Name,l.ID,l.Kind,l.Class,l.Name,m))<|d<|wr<|i+1)<|h ()
def aDj:=lp3 Dv
def K1: Lc 24 0 0:=bQ 0x813e2c9061dc2c79b289387df392402ee089528a2a40453fe2b6f191d71dc640771c5e31bd463eed09e222ac64e3a6441e8085608def67b86bc7bbc1b1aac1e843dfc935f3c2a82876927dae152 aQ3 [] [] @Dv
def JI: Nat->aJ->Int->Option (aG×Bool)
 | 0,_,_=>none
 | n+1,a,b=>bnd2 (aDj n (a,(⟨#[]⟩:ByteArray),b) 0) (λc=>some ((aG.mk c.1 c.2.1 c.2.2.1 c.2.2.2.1 []),true)) λd=>bnd2 (some d) (λf=>some ((aG.mk f.1 f.2.1 f.2.2.1 f.2.2.2.1 f.2.2.2.2.2.2.2.2),true)) λg=>bnd (some g) λ_=>some ((aG.mk 0 0 0 (⟨#[]⟩:ByteArray) []),false)
def aEH: Kn:=bH 24 0x223a6234b aQ3 [⟨0,[K1]⟩] [] JI
abbrev aQ2:=aEH::aQ3
def Hl(n:Nat): (Aad×Aad)->((Bool->Option R)×Unit)->Unit->Option R:=λ(a,b) (c,_) _=>cd (a.X0 > a.X1) (c true)<|cd (a.Y0 > a.Y1) (c true)<|cd (a.X1<b.X0) (c true)<|cd (a.X0 > b.X1) (c true)<|cd (a.Y1<b.Y0) (c true)<|cd (a.Y0 > b.Y1) (c true)<|c false
def Ps:=eU Hl
def OM: Lc 25 0 0:=bG 0x38f9cbe33227 aQ2 [] [] @Hl
def Cw: Nat->Aad->Aad->Option Bool
 | 0,_,_=>none
 | n+1,a,b=>bnd (Ps n (a,b)) λc=>cnd c (some true)<|some false
def I9: Kn:=bH 25 0x12feb65f46c6f40 aQ2 [⟨0,[OM]⟩] [] Cw
abbrev aQ1:=I9::aQ2
def uL: (aG×aG)->((Bool->Option R)×Unit)->Unit->Option R:=λ(a,b) (c,_) _=>cnd (a.ID==b.ID) (cnd (a.Kind==b.Kind) (cnd (a.Class==b.Class) (cd (a.Name=b.Name) (bnd (qW n a.Parts b.Parts) λd=>cnd d (c true)<|c false)<|c false)<|c false)<|c false)<|c false
def Am:=eU uL
def Px: Lc 26 0 0:=bG 0x1c17c2f1588edd3 aQ1 [] [] @uL
def nF: Nat->aG->aG->Option Bool
 | 0,_,_=>none
 | n+1,a,b=>bnd (Am n (a,b)) λc=>cnd c (some true)<|some false
def JH: Kn:=bH 26 0x1b49533067ec aQ1 [⟨0,[Px]⟩] [] nF
abbrev aBf:=JH::aQ1
def Vk: (Aad×Aab×Aab)->((Bool->Option R)×Unit)->Unit->Option R:=λ(a,b,c) (d,_) _=>bnd (Ix n a b.At) λf=>cnd f (d false)<|cd (c=b) (d false)<|d true
def QK:=eU Vk
def J4: Lc 7 0 1:=bG 0x420f14a51ef90c94acbdfbc5dea8e9396f0d0943901b69b4bd95897cffc9dd9845c86 aBf [] [] @Vk
def Vj: (Aad×Aab)->((Bool->Option R)×Unit)->Unit->Option R:=λ(a,b) (c,_) _=>bnd (Ix n a b.At) λd=>cnd d (c false)<|c true
def QJ:=eU Vj
def J3: Lc 7 0 1:=bG 0x2dff001ff685b3969cabeda2a2b671523a43e5eb9b40a3f75d69c55036a555c02f1a31be aBf [] [] @Vj
def Dt: (aJ×aJ×Aad)->(Int->Option R)->(((Aab×Aab)->Option R)×(Unit->Option R)×Unit)->Int->Option R:=λ(a,b,c) d (f,g,_) h=>cd (h<(ln a.Plan.Nodes)) (bnd (idx a.Plan.Nodes h) λi=>bnd (B2 n b.Plan i.ID) λj=>cnd j.2 (bnd (QK n (c,i,j.1)) λl=>cnd l (f (i,j.1))<|d<|wr<|h+1)<|bnd (QJ n (c,i)) λm=>cnd m (f (i,j.1))<|d<|wr<|h+1)<|g ()
def aDd:=tS Dt
def J6: Lc 7 0 0:=bQ 0x757652f731977361b57c9fbcd06bd020733cfa2e6b979d5c9074ed1d9fa24c363b aBf [⟨0,[cs J4,cs J3]⟩] [] @Dt
def Vi: (Aad×aG×Aad×aG)->((Bool->Option R)×Unit)->Unit->Option R:=λ(a,b,c,d) (f,_) _=>bnd (Cw n a c) λg=>cnd g (bnd (nF n b d) λh=>cnd h (f false)<|f true)<|f false
def QI:=eU Vi
def J2: Lc 7 0 3:=bG 0xad0304b82e95d86fd0e5ff5274d74c4413472d932a4ac8dbf9214cf94d26d4b23eb379f3a9fc352a19e aBf [] [] @Vi
def Vg: (Aad×Aad)->((Bool->Option R)×Unit)->Unit->Option R:=λ(a,b) (c,_) _=>bnd (Cw n a b) λd=>cnd d (c true)<|c false
def QH:=eU Vg
def J1: Lc 7 0 3:=bG 0x2e0112daedf569b0959bbb4e33307b7411d9542ae1890213f113e6001aa6892c94ae9a25 aBf [] [] @Vg
def J0: Lc 7 0 3:=bG 0x4b35bbc76f7764747eeca568ab23114848066a30da19179e3 aBf [] [] @dY
def Ds: (aJ×aJ×Aad)->(Int->Option R)->(((aG×Aad×aG)->Option R)×(Unit->Option R)×Unit)->Int->Option R:=λ(a,b,c) d (f,g,_) h=>cd (h<(ln a.Features)) (bnd (idx a.Features h) λi=>bnd (eI n a i.ID) λj=>cnd j.2 (bnd (JI n b i.ID) λl=>cnd l.2 (bnd (QI n (c,i,j.1,l.1)) λm=>cnd m (f (i,j.1,l.1))<|d<|wr<|h+1)<|bnd (QH n (c,j.1)) λo=>cnd o (f (i,j.1,l.1))<|d<|wr<|h+1)<|bnd (JI n b i.ID) λr=>cnd r.2 (bnd (cE n ()) λ_=>f (i,j.1,r.1))<|bnd (cE n ()) λ_=>f (i,j.1,r.1))<|g ()
def aDc:=tS Ds
def J5: Lc 7 0 2:=bQ 0x1393bee7ff5c8b27c909fb8b6265365de9a0e1c7a4dd76b5409839e96564dd9c6593463dab2667 aBf [⟨0,[cs J2,cs J1,cs J0]⟩] [] @Ds
def JA: Nat->aJ->aJ->Aad->Option Bool
 | 0,_,_,_=>none
 | n+1,a,b,c=>bnd2 (aDd n (a,b,c) 0) (λ_=>some false) λd=>bnd (some d) λ_=>bnd2 (aDc n (a,b,c) 0) (λ_=>some false) λf=>bnd (some f) λ_=>some true
def aEE: Kn:=bH 7 0xe24c0d0a281197 aBf [⟨0,[J6]⟩,⟨2,[J5]⟩] [] JA
abbrev aQ0:=aEE::aBf
def Hn: (aQ×aQ)->((Bool->Option R)×Unit)->Unit->Option R:=λ(a,b) (c,_) _=>cnd (a.ID==b.ID) (cnd (a.From==b.From) (cnd (a.To==b.To) (cnd (a.Left==b.Left) (cnd (a.Right==b.Right) (bnd (xB n a.Via b.Via) λd=>cnd d (c true)<|c false)<|c false)<|c false)<|c false)<|c false)<|c false
def Py:=eU Hn
def OT: Lc 62 0 0:=bG 0xd9eb2cbd2400774d172d aQ0 [] [] @Hn
def Pz: Nat->aQ->aQ->Option Bool
 | 0,_,_=>none
 | n+1,a,b=>bnd (Py n (a,b)) λc=>cnd c (some true)<|some false
def K6: Kn:=bH 62 0x1b494a76303c aQ0 [⟨0,[OT]⟩] [] Pz
abbrev aId:=K6::aQ0
def Vn(n:Nat): (aK×aK)->((Bool->Option R)×Unit)->Unit->Option R:=λ(a,b) (c,_) _=>cnd ((ln a.Nodes) != (ln b.Nodes)) (c true)<|cnd ((ln a.Arcs) != (ln b.Arcs)) (c true)<|cnd ((ln a.Faces) != (ln b.Faces)) (c true)<|c false
def QO:=eU Vn
def K2: Lc 27 0 0:=bG 0x59dc35a6c8bcd002dd731bc309c59 aId [] [] @Vn
def Dy(n:Nat): (aK×aK)->(Int->Option R)->((Unit->Option R)×(Unit->Option R)×Unit)->Int->Option R:=λ(a,b) c (d,f,_) g=>cd (g<(ln a.Nodes)) (bnd (idx a.Nodes g) λh=>bnd (idx b.Nodes g) λi=>cd (h=i) (c<|wr<|g+1)<|d ())<|f ()
def aDm:=tS Dy
def K5: Lc 27 0 1:=bQ 0x32beb0cf1b72e5f68a78e95746660 aId [] [] @Dy
def Dx: (aK×aK)->(Int->Option R)->((Unit->Option R)×(Unit->Option R)×Unit)->Int->Option R:=λ(a,b) c (d,f,_) g=>cd (g<(ln a.Arcs)) (bnd (idx a.Arcs g) λh=>bnd (idx b.Arcs g) λi=>bnd (Pz n h i) λj=>cnd j (c<|wr<|g+1)<|d ())<|f ()
def aDl:=tS Dx
def K4: Lc 27 0 2:=bQ 0x190dce9a1357eb35f2bfc9448a087184 aId [] [] @Dx
def Dw(n:Nat): (aK×aK)->(Int->Option R)->((Unit->Option R)×(Unit->Option R)×Unit)->Int->Option R:=λ(a,b) c (d,f,_) g=>cd (g<(ln a.Faces)) (bnd (idx a.Faces g) λh=>bnd (idx b.Faces g) λi=>cnd (h != i) (d ())<|c<|wr<|g+1)<|f ()
def aDk:=tS Dw
def K3: Lc 27 0 3:=bQ 0x2d797f68b2285aa45dc77457f80a8 aId [] [] @Dw
def B1: Nat->aK->aK->Option Bool
 | 0,_,_=>none
 | n+1,a,b=>bnd (QO n (a,b)) λc=>cnd c (some false)<|bnd2 (aDm n (a,b) 0) (λ_=>some false) λd=>bnd (some d) λ_=>bnd2 (aDl n (a,b) 0) (λ_=>some false) λf=>bnd (some f) λ_=>bnd2 (aDk n (a,b) 0) (λ_=>some false) λg=>bnd (some g) λ_=>some true
def aEJ: Kn:=bH 27 0x1b47bc2c88a8 aId [⟨0,[K2]⟩,⟨1,[K5]⟩,⟨2,[K4]⟩,⟨3,[K3]⟩] [] B1
abbrev aNt:=aEJ::aId
def Vm: (aJ×aJ)->((Bool->Option R)×Unit)->Unit->Option R:=λ(a,b) (c,_) _=>bnd (B1 n a.Plan b.Plan) λd=>cnd d (cnd ((ln a.Features) != (ln b.Features)) (c true)<|c false)<|c true
def QN:=eU Vm
def J9: Lc 8 0 0:=bG 0x3e91945b61363bcdb853b1f3ed4884f7 aNt [] [] @Vm
def Du: (aJ×aJ)->(Int->Option R)->((Unit->Option R)×(Unit->Option R)×Unit)->Int->Option R:=λ(a,b) c (d,f,_) g=>cd (g<(ln a.Features)) (bnd (idx a.Features g) λh=>bnd (idx b.Features g) λi=>bnd (nF n h i) λj=>cnd j (c<|wr<|g+1)<|d ())<|f ()
def aDi:=tS Du
def K0: Lc 8 0 1:=bQ 0x189b123441ff4fd17754b4daac4c469bb30 aNt [] [] @Du
def A7: Nat->aJ->aJ->Option Bool
 | 0,_,_=>none
 | n+1,a,b=>bnd (QN n (a,b)) λc=>cnd c (some false)<|bnd2 (aDi n (a,b) 0) (λ_=>some false) λd=>bnd (some d) λ_=>some true
def aEG: Kn:=bH 8 0x272df1eff aNt [⟨0,[J9]⟩,⟨1,[K0]⟩] [] A7
abbrev aT0:=aEG::aNt
def uK: (aJ×aJ×Aad)->((Bool->Option R)×Unit)->Unit->Option R:=λ(a,b,c) (d,_) _=>bnd (JA n a b c) λf=>cnd f (bnd (JA n b a c) λg=>cnd g (cd (c.X0<=c.X1) (bnd (fN n) λh=>cnd h (d true)<|d false)<|bnd (A7 n a b) λi=>cnd i (bnd (fN n) λj=>cnd j (d true)<|d false)<|d false)<|d false)<|d false
def Ag:=eU uK
def Pv: Lc 1 0 0:=bG 0xcef02ee1bb4956b1fc02ac522c7a0a2929f24c1ebb9 aT0 [] [] @uK
def nE: Nat->aJ->aO->Option Bool
 | 0,_,_=>none
 | n+1,a,b=>bnd (UF n a [b]) λc=>cnd c (bnd (gX n a b) λd=>bnd (qN n a b) λf=>cnd (d.2 != f.2) (some false)<|cnd (d.2 != 0) (cd (f.1=(Aad.mk 0 0 0 0)) (bnd (fN n) λg=>cnd g (some true)<|some false)<|some false)<|bnd (Ag n (a,d.1,f.1)) λh=>cnd h (some true)<|some false)<|bnd (fN n) λi=>cnd i (some true)<|some false
def Cx: Kn:=bH 1 0x6da3bb1dbac22f8ba5b0 aT0 [⟨0,[Pv]⟩] [] nE
end
end
end Go.Proofs.YtabioopnpgiijaaGreatDoor.Av
