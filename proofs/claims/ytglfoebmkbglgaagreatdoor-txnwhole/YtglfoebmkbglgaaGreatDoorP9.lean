/- A part of the proof of a law on transactions. -/
import Derived.Test.YtglfoebmkbglgaaGreatDoorP8
import Derived.Test.YtglfoebmkbglgaaGreatDoorP7
set_option maxRecDepth 100000
set_option maxHeartbeats 4000000
set_option linter.all false
namespace Go.Proofs.YtglfoebmkbglgaaGreatDoor.Av
open Go
section
variable {R:Type}(n:Nat)
noncomputable section
abbrev C72:=UN::C71
def Ed: Nat->aM->Int->Option Int
 | 0,_,_=>none
 | n+1,a,b=>bnd (Ia n a b) λc=>cnd c.2 (cd (b > 0) (some c.1.Left)<|some c.1.Right)<|some 0
def aC6: Kn:=bJ 136 0x329a6e C72 [] [] Ed
abbrev C73:=aC6::C72
def fR: Nat->dR->Option (List<|List Int)
 | 0,_=>none
 | n+1,a=>bnd (app [a.outer] a.inner) λb=>some b
def Nt: Kn:=bJ 137 0x49a680494ed89f7c869cb85436 C73 [] [] fR
abbrev C74:=Nt::C73
def Aw(n:Nat): ((List<|Int×Bool)×Int)->((Bool->Option R)×Unit)->Unit->Option R:=λ(a,b) (c,_) _=>cnd (b==0) (c true)<|cnd ((Option.getD (bD a b) false)) (c true)<|c false
def UK:=eU Aw
def HN: Lc 112 0 1:=bH 0xe1c072165d89aec8b23e8c5397bb9e98549d7c130e2f5e645df5d72cc1a2f5e00ac390cd885 C74 [] [] @Aw
def oT: (aM×List Int×Int×List Int×Int)->(Int->Option R)->((Unit->Option R)×(Unit->Option R)×Unit)->Int->Option R:=λ(a,b,c,d,f) g (h,i,_) j=>cd (j<f) (bnd (idx d j) λl=>bnd (Ed n a l) λm=>cnd (m != c) (h ())<|g<|wr<|j+1)<|i ()
def UL:=oG oT
def HO: Lc 112 0 3:=bN 0x25254ad7584363445345155307133a4d21580b2d26bd505aacf0641cea5a221a4f4390b2a139d152cb961c995fa34d1a50bde C74 [] [] @oT
def oU: (aM×List Int×Int×(List<|List Int)×Int)->(Int->Option R)->((Unit->Option R)×(Unit->Option R)×Unit)->Int->Option R:=λ(a,b,c,d,f) g (h,i,_) j=>cd (j<f) (bnd (idx d j) λl=>bnd2 (UL n (a,b,c,l,(ln l)) 0) (λ_=>h ()) λm=>bnd (some m) λ_=>g<|wr<|j+1)<|i ()
def Kq:=oG oU
def HP: Lc 112 0 2:=bN 0x1ba2909eebdf55a987978a2c02a7dd45dbb3cf1cdc1d2bffce4bc2f08e5298213edb018a508a0fefbe01d7cd33 C74 [⟨0,[cs HO]⟩] [] @oU
def oV: (aM×List dR×Int)->((List Int×(List<|Int×Bool)×Int)->Option R)->(((List Int×(List<|Int×Bool)×dR)->Option R)×((List Int×(List<|Int×Bool))->Option R)×Unit)->(List Int×(List<|Int×Bool)×Int)->Option R:=λ(a,b,c) d (f,g,_) (h,i,j)=>cd (j<c) (bnd (idx b j) λl=>cd (j > 0) (bnd (idx l.outer 0) λm=>bnd (Ed n a m) λo=>bnd (UK n (i,o)) λr=>cnd r (f (h,i,l))<|bnd (fR n l) λs=>bnd2 (Kq n (a,h,o,s,(ln s)) 0) (λ_=>f (h,(gU i o true),l)) λt=>bnd (some t) λ_=>bnd (app h [o]) λu=>d (u,(gU i o true),(wr<|j+1)))<|bnd (fR n l) λv=>bnd2 (Kq n (a,h,0,v,(ln v)) 0) (λ_=>f (h,i,l)) λw=>bnd (some w) λ_=>bnd (app h [0]) λx=>d (x,i,(wr<|j+1)))<|g (h,i)
def UM:=oG oV
def HQ: Lc 112 0 0:=bN 0x101af0eb832ca9ba506ca4e42272710b5d3625b09ffbf4682543837339d878b75edbb9056b3987951ec766a87cb2f827ffdfab739149a5bc645883bff7 C74 [⟨0,[cs HN]⟩,⟨1,[cs HP]⟩] [] @oV
def Ja: Nat->aM->(List dR)->Option (List Int×Bool)
 | 0,_,_=>none
 | n+1,a,b=>bnd2 (UM n (a,b,(ln b)) ([],[],0)) (λ_=>some ([],false)) λc=>bnd (some c) λd=>cnd ((ln d.2)==(ln a.Faces)) (some (d.1,true))<|some (d.1,false)
def t8: Kn:=bJ 112 0x82d24e309cad4d0ab197c62332169 C74 [⟨0,[HQ]⟩] [] Ja
abbrev C75:=t8::C74
def Au: Nat->aM->Option (List dR×List Int×(List<|Int×List Aaa)×Int)
 | 0,_=>none
 | n+1,a=>bnd (zV n a) λb=>cnd (b.2 != 0) (some ([],[],[],b.2))<|bnd (oS n a) λc=>bnd (jB n a b.1 c) λd=>bnd (Ja n a d) λf=>cnd f.2 (some (d,f.1,c,0))<|some ([],[],[],12)
def O6: Kn:=bJ 84 0xed2a23ca5f409da0c C75 [] [] Au
abbrev C76:=O6::C75
def Jc: Nat->aM->Option Int
 | 0,_=>none
 | n+1,a=>bnd (Au n a) λb=>some b.2.2.2
def u5: Kn:=bJ 51 0x329be2 C76 [] [] Jc
abbrev C77:=u5::C76
def PW: Nat->aD->Option Bool
 | 0,_=>none
 | n+1,a=>cd ((ln a.Parts) > 64) (some true)<|some false
def CH: Kn:=bJ 52 0x9bf C77 [] [] PW
abbrev C78:=CH::C77
def jN(n:Nat): aD->((Bool->Option R)×Unit)->Unit->Option R:=λa (b,_) _=>cd (a.ID<1) (b true)<|cd (a.ID > 1073741824) (b true)<|cd (a.Class<1) (b true)<|cd (a.Class > 9) (b true)<|b false
def lW:=eU jN
def Mr: Lc 54 0 0:=bH 0x475e03fc3 C78 [] [] @jN
def PV: Nat->aD->Option Bool
 | 0,_=>none
 | n+1,a=>bnd (lW n a) λb=>cnd b (some true)<|some false
def CG: Kn:=bJ 54 0x9bf C78 [⟨0,[Mr]⟩] [] PV
abbrev C79:=CG::C78
def PU: Nat->aD->Option Bool
 | 0,_=>none
 | n+1,a=>bnd (dP n a.Kind) λb=>cnd (b==0) (some true)<|some false
def CE: Kn:=bJ 55 0x9bf C79 [] [] PU
abbrev C80:=CE::C79
def jM: aD->((Bool->Option R)×Unit)->Unit->Option R:=λa (b,_) _=>cd (a.Name=(⟨#[]⟩:ByteArray)) (b false)<|bnd (qY n a.Name) λc=>cnd (c != 0) (b true)<|b false
def lV:=eU jM
def Mq: Lc 56 0 0:=bH 0x475e03fc3 C80 [] [] @jM
def PT: Nat->aD->Option Bool
 | 0,_=>none
 | n+1,a=>bnd (lV n a) λb=>cnd b (some true)<|some false
def CD: Kn:=bJ 56 0x9bf C80 [⟨0,[Mq]⟩] [] PT
abbrev C81:=CD::C80
def jL: aD->((Bool->Option R)×Unit)->Unit->Option R:=λa (b,_) _=>cnd ((ln a.Parts)==0) (b true)<|bnd (dP n a.Kind) λc=>cnd (c==1) (cd ((ln a.Parts) > 1) (b true)<|b false)<|b false
def lU:=eU jL
def Mp: Lc 57 0 0:=bH 0x475e03fc3 C81 [] [] @jL
def PS: Nat->aD->Option Bool
 | 0,_=>none
 | n+1,a=>bnd (lU n a) λb=>cnd b (some true)<|some false
def CC: Kn:=bJ 57 0x9bf C81 [⟨0,[Mp]⟩] [] PS
abbrev C82:=CC::C81
def oB: Nat->(List Int)->Int->Option Bool
 | 0,_,_=>none
 | n+1,a,b=>bnd (dS n a b) λc=>cnd c (some true)<|some false
def aDJ: Kn:=bJ 98 0x2b9f70 C82 [] [] oB
abbrev C83:=aDJ::C82
def kR: (aM×aD×Int)->((Bool->Option R)×Unit)->Unit->Option R:=λ(a,b,c) (d,_) _=>bnd (dP n b.Kind) λf=>cnd (f==1) (bnd (jC n a c) λg=>cnd g.2 (d false)<|d true)<|cnd (f==2) (bnd (Og n a c) λh=>cnd h.2 (d false)<|d true)<|cnd (f==3) (bnd (oB n a.Faces c) λi=>cnd i (d false)<|d true)<|d true
def xR:=qD kR
def Pr: Ic:=cE 113 2 3 0xd9957bb414ca389bf6f43ee C83 [] [] @kR
def gI: (aM×aD×List Int×Int)->(Int->Option R)->((Int->Option R)×(Unit->Option R)×Unit)->Int->Option R:=λ(a,b,c,d) f (g,h,_) i=>cd (i<d) (bnd (idx c i) λj=>bnd (xR n (a,b,j)) λl=>cnd l (g i)<|f<|wr<|i+1)<|h ()
def BZ:=oG gI
def Pq: Lc 108 0 0:=bN 0x187d56b5140d68f1bdad4d7c2cceb5b693e30f572f54f5d C83 [] [Pr] @gI
def kS: (aM×aD×List Int)->((Int->Option R)×Unit)->Unit->Option R:=λ(a,b,c) (d,_) _=>bnd2 (BZ n (a,b,c,(ln c)) 0) (λf=>d f) λg=>bnd (some g) λ_=>d (-1)
def xS:=qD kS
def Ps: Ic:=cE 108 0 2 0x2d753d60a099166bdd330fed93a0f5d4 C83 [⟨0,[Pq]⟩] [] @kS
def kT: (aM×aD×List Int)->((Bool->Option R)×Unit)->Unit->Option R:=λ(a,b,c) (d,_) _=>bnd (xS n (a,b,c)) λf=>cd (f>=0) (d true)<|d false
def nH:=qD kT
def Pt: Ic:=cE 83 0 2 0x740596f34d4db29e433f474a519e9 C83 [] [Ps] @kT
def VF: Nat->aM->aD->Option Bool
 | 0,_,_=>none
 | n+1,a,b=>bnd (nH n (a,b,b.Parts)) λc=>cnd c (some true)<|some false
def JO: Kn:=bJ 86 0x3fcbf8cf3 C83 [] [Pt] VF
abbrev zP:=JO::C83
def yA(n:Nat): aJ->((Unit->Option R)×Unit)->Unit->Option R:=λa (b,_) _=>b ()
def Gb:=qD yA
def CQ: Ic:=cE 53 0 1 0x183b0c8ce1c427d04c3089ddb4f39b579800e3 zP [] [] @yA
def xZ(n:Nat): Unit->((((List<|Aae×Bool))->Option R)×Unit)->Unit->Option R:=λ_ (a,_) _=>a []
def Ga:=qD xZ
def CP: Ic:=cE 59 0 0 0x119733755ead5e75c7aa03f02d43d0bec96adcd0605b zP [] [] @xZ
def xU: aD->((Unit->Option R)×(Int->Option R)×Unit)->Unit->Option R:=λa (b,c,_) _=>bnd (dP n a.Kind) λd=>cnd (d==2) (b ())<|cnd (d==3) (c a.Kind)<|c 0
def Fv:=pc2 xU
def CI: Lc 87 0 0:=bH 0xb351c660bdfba7da4f5b18d3eb3dc9b488e6c3f7f673a7289aaa zP [] [] @xU
def nK(n:Nat): (Int×List Int×Int)->(((List<|Aae×Bool)×Int)->Option R)->((((List<|Aae×Bool)×Int)->Option R)×(((List<|Aae×Bool))->Option R)×Unit)->((List<|Aae×Bool)×Int)->Option R:=λ(a,b,c) d (f,g,_) (h,i)=>cd (i<c) (bnd (idx b i) λj=>cnd ((Option.getD (bD h<|Aae.mk a j) false)) (f (h,j))<|d ((gU h (Aae.mk a j) true),(wr<|i+1)))<|g h
def PX:=oG nK
def CJ: Lc 87 0 1:=bN 0x4a3b9a9040a49dba64a7555f4a422eb57f4f5238a4de9a9710fef88670ea4f6d48dc4d54c0b0a3325b0032e zP [] [] @nK
def xW: ((List<|Aae×Bool)×aD)->((((List<|Aae×Bool))->Option R)×(((List<|Aae×Bool)×Int×Int)->Option R)×Unit)->Unit->Option R:=λ(a,b) (c,d,_) _=>bnd2 (Fv n b) (λ_=>c a) λf=>bnd (some f) λg=>bnd2 (PX n (g,b.Parts,(ln b.Parts)) (a,0)) (λh=>d (h.1,g,h.2)) λi=>bnd (some i) λj=>c j
def Fx:=FJ xW
def CM: Ic:=cE 87 0 2 0xaaef356f791e6e8387a3588cdcdf9275fdb3def3d25819806cdd5d82b76b17e8fef09 zP [⟨0,[CI]⟩,⟨1,[CJ]⟩] [] @xW
def nL: (List aD×Int)->(((List<|Aae×Bool)×Int)->Option R)->((((List<|Aae×Bool)×aD×Int×Int×Int)->Option R)×(((List<|Aae×Bool))->Option R)×Unit)->((List<|Aae×Bool)×Int)->Option R:=λ(a,b) c (d,f,_) (g,h)=>cd (h<b) (bnd (idx a h) λi=>bnd2 (Fx n (g,i)) (λj=>c (j,(wr<|h+1))) λl=>bnd (some l) λm=>d (m.1,i,m.2.1,m.2.2,h))<|f g
def PY:=oG nL
def CK: Lc 88 0 0:=bN 0x500970095cb01d2df3bcc2554700e104776b9edee3e025e2a627 zP [] [CM] @nL
def xX: ((List<|Aae×Bool)×List aD)->((((List<|Aae×Bool)×Int×Int×Int×ByteArray×List Int×Int×Int×Int)->Option R)×(((List<|Aae×Bool))->Option R)×Unit)->Unit->Option R:=λ(a,b) (c,d,_) _=>bnd2 (PY n (b,(ln b)) (a,0)) (λf=>c (f.1,f.2.1.ID,f.2.1.Kind,f.2.1.Class,f.2.1.Name,f.2.1.Parts,f.2.2.1,f.2.2.2.1,f.2.2.2.2)) λg=>bnd (some g) λh=>d h
def Fy:=FJ xX
def CN: Ic:=cE 88 0 2 0x1406f76f326fe5b16d49918e0ff19fa08f08c78c84e6dd43f2d82ba257aa0f61 zP [⟨0,[CK]⟩] [] @xX
def xY: ((List<|Aae×Bool)×List aD)->((((List<|Aae×Bool)×Int×Int×Int×ByteArray×List Int×Int×Int×Bool)->Option R)×(((List<|Aae×Bool))->Option R)×Unit)->Unit->Option R:=λ(a,b) (c,d,_) _=>bnd2 (Fy n (a,b)) (λf=>cd (f.2.2.2.2.2.2.2.2>=0) (c (f.1,f.2.1,f.2.2.1,f.2.2.2.1,f.2.2.2.2.1,f.2.2.2.2.2.1,f.2.2.2.2.2.2.1,f.2.2.2.2.2.2.2.1,true))<|c (f.1,f.2.1,f.2.2.1,f.2.2.2.1,f.2.2.2.2.1,f.2.2.2.2.2.1,f.2.2.2.2.2.2.1,f.2.2.2.2.2.2.2.1,false)) λg=>bnd (some g) λh=>d h
def Fz:=FJ xY
def CO: Ic:=cE 60 0 2 0x1407f8f6bc82301b137e7f4a47f2c1608ee9921db067ea5b41204dc67b09a721 zP [] [CN] @xY
def Ux: Ic:=cE 113 10 3 0x7409052e20e8ff40241bc028ba023 zP [] [] @kR
def Uc: Lc 108 0 0:=bN 0x11e2bae531d7ee486ad126815c7bfa44ceaa23eeed931a109e zP [] [Ux] @gI
def Uy: Ic:=cE 108 0 2 0x11b34378b7425c1f010a0d59951f9cb10dde3f6a3 zP [⟨0,[Uc]⟩] [] @kS
def Uz: Ic:=cE 83 0 2 0x3ddf8c4ef750ffa8683f51caa5939c26cff zP [] [Uy] @kT
def vC: (aM×aD)->((Bool->Option R)×Unit)->Unit->Option R:=λ(a,b) (c,_) _=>bnd (nH n (a,b,b.Parts)) λd=>cnd d (c true)<|c false
def Ca:=qD vC
def Vi: Ic:=cE 86 0 2 0x9ee74a5b52f07a2900ee7adc8b zP [] [Uz] @vC
def vD: (aJ×aD)->(((aM×Bool)->Option R)×Unit)->Unit->Option R:=λ(a,b) (c,_) _=>bnd (Ca n (a.Plan,b)) λd=>cnd d (c (a.Plan,true))<|c (a.Plan,false)
def Cb:=qD vD
def Vk: Ic:=cE 58 0 2 0x183d67cf7041997ec58de9187edf72403dca47 zP [] [Vi] @vD
def mD: (aJ×List aD×Int)->(Int->Option R)->(((aD×aM×aD×Int)->Option R)×(Unit->Option R)×Unit)->Int->Option R:=λ(a,b,c) d (f,g,_) h=>cd (h<c) (bnd (idx b h) λi=>bnd (Cb n (a,i)) λj=>cnd j.2 (f (i,j.1,i,h))<|d<|wr<|h+1)<|g ()
def KA:=oG mD
def Ud: Lc 88 0 0:=bN 0x4e981e509e64a07dd152d158dbfc389cd210c32460d10f4af1ffbcacbd558 zP [] [Vk] @mD
def vE: (aJ×List aD)->(((aD×aM×aD×Int)->Option R)×(Unit->Option R)×Unit)->Unit->Option R:=λ(a,b) (c,d,_) _=>bnd2 (KA n (a,b,(ln b)) 0) (λf=>c (f.1,f.2.1,f.2.2.1,f.2.2.2)) λg=>bnd (some g) λ_=>d ()
def Cc:=FJ vE
def Vl: Ic:=cE 88 0 2 0xe9f926fdd7913141e7876715c1a1cc90d1a7720c220b5239a617b8fb57edfda3fb zP [⟨0,[Ud]⟩] [] @vE
def xV: (aJ×List aD)->(((aD×aM×aD×Bool)->Option R)×(Unit->Option R)×Unit)->Unit->Option R:=λ(a,b) (c,d,_) _=>bnd2 (Cc n (a,b)) (λf=>cd (f.2.2.2>=0) (c (f.1,f.2.1,f.2.2.1,true))<|c (f.1,f.2.1,f.2.2.1,false)) λg=>bnd (some g) λ_=>d ()
def Fw:=FJ xV
def CL: Ic:=cE 60 0 2 0x75b7ac124e44fb29563c837b56262c411d977ddae841ab9263423c2fe1 zP [] [Vl] @xV
def Ts: Lc 57 0 0:=bH 0x1336a0c2f78f429d19 zP [] [] @jL
def uZ: aD->((Bool->Option R)×Unit)->Unit->Option R:=λa (b,_) _=>bnd (lU n a) λc=>cnd c (b true)<|b false
def Bw:=qD uZ
def Uu: Ic:=cE 57 0 1 0x9d3 zP [⟨0,[Ts]⟩] [] @uZ
def mC: (List aD×Int)->(Int->Option R)->(((aD×Int)->Option R)×(Unit->Option R)×Unit)->Int->Option R:=λ(a,b) c (d,f,_) g=>cd (g<b) (bnd (idx a g) λh=>bnd (Bw n h) λi=>cnd i (d (h,g))<|c<|wr<|g+1)<|f ()
def JZ:=oG mC
def Ub: Lc 88 0 0:=bN 0x53af21ded zP [] [Uu] @mC
def vA: (List aD)->(((aD×Int)->Option R)×(Unit->Option R)×Unit)->Unit->Option R:=λa (b,c,_) _=>bnd2 (JZ n (a,(ln a)) 0) (λd=>b (d.1,d.2)) λf=>bnd (some f) λ_=>c ()
def Bx:=FJ vA
def Uv: Ic:=cE 88 0 2 0x537bf10bc zP [⟨0,[Ub]⟩] [] @vA
def vB: (List aD)->(((aD×Bool)->Option R)×(Unit->Option R)×Unit)->Unit->Option R:=λa (b,c,_) _=>bnd2 (Bx n a) (λd=>cd (d.2>=0) (b (d.1,true))<|b (d.1,false)) λf=>bnd (some f) λ_=>c ()
def Bz:=FJ vB
def Uw: Ic:=cE 60 0 2 0x53847925d zP [] [Uv] @vB
def Tq: Lc 56 0 0:=bH 0x1336a0c2f78f429d19 zP [] [] @jM
def uW: aD->((Bool->Option R)×Unit)->Unit->Option R:=λa (b,_) _=>bnd (lV n a) λc=>cnd c (b true)<|b false
def Bt:=qD uW
def Ur: Ic:=cE 56 0 1 0x9d3 zP [⟨0,[Tq]⟩] [] @uW
def mB: (List aD×Int)->(Int->Option R)->(((aD×Int)->Option R)×(Unit->Option R)×Unit)->Int->Option R:=λ(a,b) c (d,f,_) g=>cd (g<b) (bnd (idx a g) λh=>bnd (Bt n h) λi=>cnd i (d (h,g))<|c<|wr<|g+1)<|f ()
def JY:=oG mB
def Ua: Lc 88 0 0:=bN 0x53af2123e zP [] [Ur] @mB
def uX: (List aD)->(((aD×Int)->Option R)×(Unit->Option R)×Unit)->Unit->Option R:=λa (b,c,_) _=>bnd2 (JY n (a,(ln a)) 0) (λd=>b (d.1,d.2)) λf=>bnd (some f) λ_=>c ()
def Bu:=FJ uX
def Us: Ic:=cE 88 0 2 0x537bf050d zP [⟨0,[Ua]⟩] [] @uX
def uY: (List aD)->(((aD×Bool)->Option R)×(Unit->Option R)×Unit)->Unit->Option R:=λa (b,c,_) _=>bnd2 (Bu n a) (λd=>cd (d.2>=0) (b (d.1,true))<|b (d.1,false)) λf=>bnd (some f) λ_=>c ()
def Bv:=FJ uY
def Ut: Ic:=cE 60 0 2 0x5384786ae zP [] [Us] @uY
def uT: aD->((Bool->Option R)×Unit)->Unit->Option R:=λa (b,_) _=>bnd (dP n a.Kind) λc=>cnd (c==0) (b true)<|b false
def Bq:=qD uT
def Un: Ic:=cE 55 0 1 0x9d3 zP [] [] @uT
def mA: (List aD×Int)->(Int->Option R)->(((aD×Int)->Option R)×(Unit->Option R)×Unit)->Int->Option R:=λ(a,b) c (d,f,_) g=>cd (g<b) (bnd (idx a g) λh=>bnd (Bq n h) λi=>cnd i (d (h,g))<|c<|wr<|g+1)<|f ()
def JX:=oG mA
def Tz: Lc 88 0 0:=bN 0x53af2068f zP [] [Un] @mA
def uU: (List aD)->(((aD×Int)->Option R)×(Unit->Option R)×Unit)->Unit->Option R:=λa (b,c,_) _=>bnd2 (JX n (a,(ln a)) 0) (λd=>b (d.1,d.2)) λf=>bnd (some f) λ_=>c ()
def Br:=FJ uU
def Uo: Ic:=cE 88 0 2 0x537bef95e zP [⟨0,[Tz]⟩] [] @uU
def uV: (List aD)->(((aD×Bool)->Option R)×(Unit->Option R)×Unit)->Unit->Option R:=λa (b,c,_) _=>bnd2 (Br n a) (λd=>cd (d.2>=0) (b (d.1,true))<|b (d.1,false)) λf=>bnd (some f) λ_=>c ()
def Bs:=FJ uV
def Uq: Ic:=cE 60 0 2 0x538477aff zP [] [Uo] @uV
def Tp: Lc 54 0 0:=bH 0x1336a0c2f78f429d19 zP [] [] @jN
def uQ: aD->((Bool->Option R)×Unit)->Unit->Option R:=λa (b,_) _=>bnd (lW n a) λc=>cnd c (b true)<|b false
def Bn:=qD uQ
def Uk: Ic:=cE 54 0 1 0x9d3 zP [⟨0,[Tp]⟩] [] @uQ
def lZ: (List aD×Int)->(Int->Option R)->(((aD×Int)->Option R)×(Unit->Option R)×Unit)->Int->Option R:=λ(a,b) c (d,f,_) g=>cd (g<b) (bnd (idx a g) λh=>bnd (Bn n h) λi=>cnd i (d (h,g))<|c<|wr<|g+1)<|f ()
def JW:=oG lZ
def Tx: Lc 88 0 0:=bN 0x53af1fae0 zP [] [Uk] @lZ
def uR: (List aD)->(((aD×Int)->Option R)×(Unit->Option R)×Unit)->Unit->Option R:=λa (b,c,_) _=>bnd2 (JW n (a,(ln a)) 0) (λd=>b (d.1,d.2)) λf=>bnd (some f) λ_=>c ()
def Bo:=FJ uR
def Ul: Ic:=cE 88 0 2 0x537beedaf zP [⟨0,[Tx]⟩] [] @uR
def uS: (List aD)->(((aD×Bool)->Option R)×(Unit->Option R)×Unit)->Unit->Option R:=λa (b,c,_) _=>bnd2 (Bo n a) (λd=>cd (d.2>=0) (b (d.1,true))<|b (d.1,false)) λf=>bnd (some f) λ_=>c ()
def Bp:=FJ uS
def Um: Ic:=cE 60 0 2 0x538476f50 zP [] [Ul] @uS
def uJ: (aJ×Int×aD)->((Bool->Option R)×Unit)->Unit->Option R:=λ(a,b,c) (d,_) _=>cd (b > 1) (bnd (idx a.Features<|wr<|b-2) λf=>cd (f.ID>=c.ID) (d true)<|bnd (sZ n c.Parts) λg=>cnd g (d false)<|d true)<|bnd (sZ n c.Parts) λh=>cnd h (d false)<|d true
def Bh:=eU uJ
def Tn: Lc 85 0 0:=bH 0xb4c6c9109cda73ecfd8f15c15fdf2e2d654f6282329 zP [] [] @uJ
def uN: (aJ×Int×aD)->(((Int×Bool)->Option R)×Unit)->Unit->Option R:=λ(a,b,c) (d,_) _=>bnd (Bh n (a,(wr<|b+1),c)) λf=>cnd f (d ((wr<|b+1),true))<|d ((wr<|b+1),false)
def Bk:=qD uN
def Uh: Ic:=cE 85 0 3 0x183d0d7b9f6c93ec99b574fb929064a819f7fe zP [⟨0,[Tn]⟩] [] @uN
def lY: (aJ×List aD×Int)->((Int×Int)->Option R)->(((Int×aD×Int)->Option R)×(Int->Option R)×Unit)->(Int×Int)->Option R:=λ(a,b,c) d (f,g,_) (h,i)=>cd (i<c) (bnd (idx b i) λj=>bnd (Bk n (a,h,j)) λl=>cnd l.2 (f (l.1,j,i))<|d (l.1,(wr<|i+1)))<|g h
def JV:=oG lY
def Tw: Lc 88 0 0:=bN 0x2aad8a43af98948d25c35cbb3bbc4bbf5a8976ef7f903e03c655e4e657 zP [] [Uh] @lY
def uO: (aJ×Int×List aD)->(((Int×aD×Int)->Option R)×(Int->Option R)×Unit)->Unit->Option R:=λ(a,b,c) (d,f,_) _=>bnd2 (JV n (a,c,(ln c)) (b,0)) (λg=>d (g.1,g.2.1,g.2.2)) λh=>bnd (some h) λi=>f i
def Bl:=FJ uO
def Ui: Ic:=cE 88 0 2 0x60753e9c259eec8a9af7500feac710fa2ac3ac1264a2de7b3 zP [⟨0,[Tw]⟩] [] @uO
def uP: (aJ×Int×List aD)->(((Int×aD×Bool)->Option R)×(Int->Option R)×Unit)->Unit->Option R:=λ(a,b,c) (d,f,_) _=>bnd2 (Bl n (a,b,c)) (λg=>cd (g.2.2>=0) (d (g.1,g.2.1,true))<|d (g.1,g.2.1,false)) λh=>bnd (some h) λi=>f i
def Bm:=FJ uP
def Uj: Ic:=cE 60 0 2 0x841e9690bfad55c81a8357874a47663d60b52fb2a3f307 zP [] [Ui] @uP
def uK(n:Nat): aD->((Bool->Option R)×Unit)->Unit->Option R:=λa (b,_) _=>cd ((ln a.Parts) > 64) (b true)<|b false
def pM:=qD uK
def Ue: Ic:=cE 52 0 1 0x9d3 zP [] [] @uK
def lX: (List aD×Int)->(Int->Option R)->(((aD×Int)->Option R)×(Unit->Option R)×Unit)->Int->Option R:=λ(a,b) c (d,f,_) g=>cd (g<b) (bnd (idx a g) λh=>bnd (pM n h) λi=>cnd i (d (h,g))<|c<|wr<|g+1)<|f ()
def JU:=oG lX
def Tu: Lc 88 0 0:=bN 0x53af1e382 zP [] [Ue] @lX
def uL: (List aD)->(((aD×Int)->Option R)×(Unit->Option R)×Unit)->Unit->Option R:=λa (b,c,_) _=>bnd2 (JU n (a,(ln a)) 0) (λd=>b (d.1,d.2)) λf=>bnd (some f) λ_=>c ()
def Bi:=FJ uL
def Uf: Ic:=cE 88 0 2 0x537bed651 zP [⟨0,[Tu]⟩] [] @uL
def uM: (List aD)->(((aD×Bool)->Option R)×(Unit->Option R)×Unit)->Unit->Option R:=λa (b,c,_) _=>bnd2 (Bi n a) (λd=>cd (d.2>=0) (b (d.1,true))<|b (d.1,false)) λf=>bnd (some f) λ_=>c ()
def Bj:=FJ uM
def Ug: Ic:=cE 60 0 2 0x5384757f2 zP [] [Uf] @uM
def fI: Nat->aJ->Option Int
 | 0,_=>none
 | n+1,a=>bnd (Jc n a.Plan) λb=>cnd (b != 0) (some b)<|cd ((ln a.Features) > 128) (some 3)<|bnd (Gb n a) λ_=>bnd (Ga n ()) λc=>bnd (Ky<|Nat.ble 9 n) λ_=>(let d:=(let f:=λ(g:Int)=>(let h:=(let i:=(let j:=(let l:=(let m:=(let o:=λ(r:(List<|Aae×Bool))=>some 0;(bnd2 (Fz n (c,a.Features)) (λs=>cnd s.2.2.2.2.2.2.2.2 (some 13)<|o s.1) λt=>bnd (some t) λu=>o u));(bnd2 (Fw n (a,a.Features)) (λv=>cnd v.2.2.2 (some 7) m) λw=>bnd (some w) λ_=>m));(bnd2 (Bz n a.Features) (λx=>cnd x.2 (some 1) l) λy=>bnd (some y) λ_=>l));(bnd2 (Bv n a.Features) (λz=>cnd z.2 (some 14) j) λa0=>bnd (some a0) λ_=>j));(bnd2 (Bs n a.Features) (λb0=>cnd b0.2 (some 9) i) λc0=>bnd (some c0) λ_=>i));(bnd2 (Bp n a.Features) (λd0=>cnd d0.2 (some 2) h) λf0=>bnd (some f0) λ_=>h));(bnd2 (Bm n (a,0,a.Features)) (λg0=>cnd g0.2.2 (some 10)<|f g0.1) λh0=>bnd (some h0) λi0=>f i0));(bnd2 (Bj n a.Features) (λj0=>cnd j0.2 (some 3) d) λl0=>bnd (some l0) λ_=>d))
def VK: Kn:=bJ 23 0x1af9006ada04 zP [] [CQ,CP,CO,CL,Uw,Ut,Uq,Um,Uj,Ug] fI
abbrev C85:=VK::zP
def G7: Nat->Aac->Int->Option Int
 | 0,_,_=>none
 | n+1,a,b=>bnd (cJ n a.ID b) λc=>some c
def QW: Kn:=bJ 115 0x401bbba7229a C85 [] [] G7
abbrev C86:=QW::C85
def Hl: (Aac×Int)->((Int->Option R)×Unit)->Unit->Option R:=λ(a,b) (c,_) _=>bnd (cJ n a.ID b) λd=>c d
def pP:=qD Hl
def Hk: Ic:=cE 115 0 2 0x90796f31ba3a99d93dbc C86 [] [] @Hl
def sD: (List Aac×Int)->((Int×Int)->Option R)->((Int->Option R)×Unit)->(Int×Int)->Option R:=λ(a,b) c (d,_) (f,g)=>cd (f<g) (bnd (idx a<|wr<|Int.fdiv (IntKind.u64.wrap<|wr<|f+g) 2) λh=>bnd (pP n (h,b)) λi=>cd (i<0) (c ((wr<|(wr<|Int.fdiv (IntKind.u64.wrap<|wr<|f+g) 2)+1),g))<|c (f,(wr<|Int.fdiv (IntKind.u64.wrap<|wr<|f+g) 2)))<|d f
def G8:=oI sD
def QX: Lc 114 0 0:=bN 0x1e7270a6b306d0aadc1d9f852522e0fa8e301dc50977c4b7b39e C86 [] [Hk] @sD
def Hm: (List Aac×Int)->(((Aac×Int×Bool)->Option R)×(Int->Option R)×Unit)->Unit->Option R:=λ(a,b) (c,d,_) _=>bnd (G8 n (a,b) (0,(ln a))) λf=>cd (f<(ln a)) (bnd (idx a f) λg=>bnd (pP n (g,b)) λh=>cnd (h==0) (c (g,f,true))<|c (g,f,false))<|d f
def Qb:=FJ Hm
def QY: Ic:=cE 114 0 3 0x19e0d7d39f1eae4e9df1beb624e1e9aa4f947f21a3fd5d5 C86 [⟨0,[QX]⟩] [Hk] @Hm
def oE: Nat->aJ->Int->Option (Int×Bool)
 | 0,_,_=>none
 | n+1,a,b=>bnd2 (Qb n (a.Plan.Nodes,b)) (λc=>cnd c.2.2 (some (c.2.1,true))<|some (c.2.1,false)) λd=>bnd (some d) λf=>some (f,false)
def R1: Kn:=bJ 89 0x80f5b1 C86 [] [QY] oE
abbrev C87:=R1::C86
def xT: (aD×Int×Int)->((Bool->Option R)×Unit)->Unit->Option R:=λ(a,b,c) (d,_) _=>bnd (dP n a.Kind) λf=>cnd (f==b) (bnd (dS n a.Parts c) λg=>cnd g (d true)<|d false)<|d false
def Fu:=eU xT
def CA: Lc 92 0 1:=bH 0x2811160eb682f6bc628c57661c3d37526f8d89aec656c62d3682e0a2f8951 C87 [] [] @xT
def nI: (Int×Int×List aD×Int)->((List Int×Int)->Option R)->(((List Int)->Option R)×Unit)->(List Int×Int)->Option R:=λ(a,b,c,d) f (g,_) (h,i)=>cd (i<d) (bnd (idx c i) λj=>bnd (Fu n (j,a,b)) λl=>cnd l (bnd (app h [j.ID]) λm=>f (m,(wr<|i+1)))<|f (h,(wr<|i+1)))<|g h
def PR:=oI nI
def CB: Lc 92 0 0:=bN 0x3f7c7c82348d78ba92ccfe483f30f9552d2df34bdf6ba703c71f415b4e C87 [⟨0,[cs CA]⟩] [] @nI
def jF: Nat->aJ->Int->Int->Option (List Int)
 | 0,_,_,_=>none
 | n+1,a,b,c=>cd (b<1) (some [])<|cd (b > 3) (some [])<|bnd (PR n (b,c,a.Features,(ln a.Features)) ([],0)) λd=>some d
def VG: Kn:=bJ 92 0x10d21bfae57f79b2de8fd C87 [⟨0,[CB]⟩] [] jF
abbrev C88:=VG::C87
def R6: Nat->aP->Int->Option Int
 | 0,_,_=>none
 | n+1,a,b=>bnd (cJ n a.ID b) λc=>some c
def VS: Kn:=bJ 125 0x57ccefa18 C88 [] [] R6
abbrev C89:=VS::C88
def Lr: (aP×Int)->((Int->Option R)×Unit)->Unit->Option R:=λ(a,b) (c,_) _=>bnd (cJ n a.ID b) λd=>c d
def sI:=qD Lr
def Lq: Ic:=cE 125 0 2 0x90796f31ba3a55986d3c C89 [] [] @Lr
def uA: (List aP×Int)->((Int×Int)->Option R)->((Int->Option R)×Unit)->(Int×Int)->Option R:=λ(a,b) c (d,_) (f,g)=>cd (f<g) (bnd (idx a<|wr<|Int.fdiv (IntKind.u64.wrap<|wr<|f+g) 2) λh=>bnd (sI n (h,b)) λi=>cd (i<0) (c ((wr<|(wr<|Int.fdiv (IntKind.u64.wrap<|wr<|f+g) 2)+1),g))<|c (f,(wr<|Int.fdiv (IntKind.u64.wrap<|wr<|f+g) 2)))<|d f
def R7:=oI uA
def VT: Lc 124 0 0:=bN 0x1e7270a6b306d0ab16f6384ac184859f049757c58c9098cc1bbc C89 [] [Lq] @uA
def Lt: (List aP×Int)->(((aP×Int×Bool)->Option R)×(Int->Option R)×Unit)->Unit->Option R:=λ(a,b) (c,d,_) _=>bnd (R7 n (a,b) (0,(ln a))) λf=>cd (f<(ln a)) (bnd (idx a f) λg=>bnd (sI n (g,b)) λh=>cnd (h==0) (c (g,f,true))<|c (g,f,false))<|d f
def AB:=FJ Lt
def VU: Ic:=cE 124 0 3 0x2370560994d589caec7e7fb4bcb229276168bf84fc84 C89 [⟨0,[VT]⟩] [Lq] @Lt
def zD: Nat->aJ->Int->Option (Int×Bool)
 | 0,_,_=>none
 | n+1,a,b=>bnd2 (AB n (a.Plan.Arcs,b)) (λc=>cnd c.2.2 (some (c.2.1,true))<|some (c.2.1,false)) λd=>bnd (some d) λf=>some (f,false)
def aCc: Kn:=bJ 95 0x80f5b1 C89 [] [VU] zD
abbrev C90:=aCc::C89
def aOU: Kn:=aO0 172 4 20 ⟨_,_,_,rfl,by decide,by decide⟩ (λn p=>clF n p) (λp=>p) λn p r h=>by obtain⟨m,h1,h2,h3⟩:=aO3 h;subst h2;exact⟨m,h1,rfl,h3,rfl,λe=>by cases (e:_=[]);rfl⟩
abbrev C91:=aOU::C90
def lA: (List Int×List Aac×List aP×Int)->((List aP×Int)->Option R)->(((List aP)->Option R)×Unit)->(List aP×Int)->Option R:=λ(a,b,c,d) f (g,_) (h,i)=>cd (i<d) (bnd (idx c i) λj=>bnd (clF n j.Via) λl=>bnd (app h [(aP.mk j.ID j.From j.To l 0 0)]) λm=>f (m,(wr<|i+1)))<|g h
def Ns:=oI lA
def NL: Lc 147 0 0:=bN 0x120d168d83f0516904afe58f4929f86981887856e0d7773d031d684d67175140c1e8a9 C91 [] [] @lA
def aDb: Nat->aM->Option aM
 | 0,_=>none
 | n+1,a=>bnd (clF n a.Nodes) λb=>bnd (Ns n ([],b,a.Arcs,(ln a.Arcs)) ([],0)) λc=>some<|aM.mk b c []
def O8: Kn:=bJ 147 0x64dbe72960d31ebdd57528f C91 [⟨0,[NL]⟩] [] aDb
abbrev C92:=O8::C91
def Ko(n:Nat): (Int×Int)->((Bool->Option R)×Unit)->Unit->Option R:=λ(a,b) (c,_) _=>cd ((nE b<|wr<|0-b)<(nE a<|wr<|0-a)) (c true)<|cnd (b==(wr<|0-a)) (cd (b > 0) (c true)<|c false)<|c false
def O7:=eU Ko
def UI: Lc 173 0 1:=bH 0x1921ebe67175b1d9962e533104f52cb667cd86 C92 [] [] @Ko
def tQ: (List Int×Int)->((Int×Int)->Option R)->((Int->Option R)×Unit)->(Int×Int)->Option R:=λ(a,b) c (d,_) (f,g)=>cd (g<b) (bnd (idx a g) λh=>bnd (O7 n (f,h)) λi=>cnd i (c (h,(wr<|g+1)))<|c (f,(wr<|g+1)))<|d f
def Vv:=oI tQ
def UJ: Lc 173 0 0:=bN 0x38380edd747e179d1339affbb33d3 C92 [⟨0,[cs UI]⟩] [] @tQ
def mX: Nat->(List Int)->Option Int
 | 0,_=>none
 | n+1,a=>bnd (idx a 0) λb=>bnd (Vv n (a,(ln a)) (b,0)) λc=>some c
def aBd: Kn:=bJ 173 0x329a6b C92 [⟨0,[UJ]⟩] [] mX
abbrev C93:=aBd::C92
def uB(n:Nat): (List Int×Int)->(Int->Option R)->((Int->Option R)×(Unit->Option R)×Unit)->Int->Option R:=λ(a,b) c (d,f,_) g=>cd (g<b) (bnd (idx a g) λh=>cnd (h != 0) (d h)<|c<|wr<|g+1)<|f ()
def S4:=oG uB
def WH: Lc 72 0 0:=bN 0xcd8cec88a66cede3c6784b32a8fe0459d751c5fa8f9 C93 [] [] @uB
def Ju: Nat->(List Int)->Option Int
 | 0,_=>none
 | n+1,a=>bnd2 (S4 n (a,(ln a)) 0) (λb=>some b) λc=>bnd (some c) λ_=>some 0
def aCe: Kn:=bJ 72 0x329a6b C93 [⟨0,[WH]⟩] [] Ju
abbrev C94:=aCe::C93
def mY: Nat->Int->Int->Option Int
 | 0,_,_=>none
 | n+1,a,b=>bnd (cJ n (nE a<|wr<|0-a)<|nE b<|wr<|0-b) λc=>bnd (cJ n b a) λd=>bnd (Ju n [c,d]) λf=>some f
def Nr: Kn:=bJ 174 0x13b2b928951a8cd C94 [] [] mY
abbrev C95:=Nr::C94
def mT: Nat->dR->dR->Option Int
 | 0,_,_=>none
 | n+1,a,b=>bnd (mX n a.outer) λc=>bnd (mX n b.outer) λd=>bnd (mY n c d) λf=>some f
def HS: Kn:=bJ 149 0x25becb77ef6defd C95 [] [] mT
abbrev C96:=HS::C95
end
end
section
variable {R:Type}(n:Nat)
noncomputable section
def HX: Lc 147 2 0:=bN 0x514a036ff01b5edcd193dcca6215e177cf719e668b6530ddcf0ccf2c0b532ca39a96ce6fd48e17 C96 [] [] @lA
def Ax: aM->(((List aP×List Int×List Aac×List Aac)->Option R)×Unit)->Unit->Option R:=λa (b,_) _=>bnd (clF n a.Nodes) λc=>bnd (Ns n ([],c,a.Arcs,(ln a.Arcs)) ([],0)) λd=>b (d,[],c,c)
def Kt:=qD Ax
def HY: Ic:=cE 147 2 1 0xcfa727ed0513ef4248dd1bf8ca66245ec0ea96615f276e9724aa4c196c03d447743452b18e2 C96 [⟨0,[HX]⟩] [] @Ax
def oX(n:Nat): (Int×List Int×Int)->(((List<|Int×Int)×Int)->Option R)->((((List<|Int×Int))->Option R)×Unit)->((List<|Int×Int)×Int)->Option R:=λ(a,b,c) d (f,_) (g,h)=>cd (h<c) (bnd (idx b h) λi=>d ((gU g i<|wr<|a+1),(wr<|h+1)))<|f g
def UO:=oI oX
def HU: Lc 119 0 2:=bN 0x14f82a1a8e92137d995879046125f97251dcbfeda9001950d9303ecc0aef03a5ad87bfebe8934cac0 C96 [] [] @oX
def oY: (Int×(List<|List Int)×Int)->(((List<|Int×Int)×Int)->Option R)->((((List<|Int×Int))->Option R)×Unit)->((List<|Int×Int)×Int)->Option R:=λ(a,b,c) d (f,_) (g,h)=>cd (h<c) (bnd (idx b h) λi=>bnd (UO n (a,i,(ln i)) (g,0)) λj=>d (j,(wr<|h+1)))<|f g
def UP:=oI oY
def HV: Lc 119 0 1:=bN 0x1e46d728b0f341c3ce78b452beaf2e908016a0986b38dfffe35ef2d985329860f8c C96 [⟨0,[cs HU]⟩] [] @oY
def oZ: (List aP×List Aac×List Aac×List dR×(Nat×Nat)×Int)->((List Int×(List<|Int×Int)×Int)->Option R)->(((List Int×(List<|Int×Int))->Option R)×Unit)->(List Int×(List<|Int×Int)×Int)->Option R:=λ(a,b,c,d,f,g) h (i,_) (j,l,m)=>cd (m<g) (bnd (idx (win d<|some f) m) λ_=>bnd (idx d<|m+((f.1:Nat):Int)) λo=>bnd (app j [(wr<|m+1)]) λr=>bnd (fR n o) λs=>bnd (UP n (m,s,(ln s)) (l,0)) λt=>h (r,t,(wr<|m+1)))<|i (j,l)
def Ks:=oI oZ
def HW: Lc 119 0 0:=bN 0x7bcd21f1bbda52cddbc5238ee55e35ff7a321590ebcd2653bf50ce9c2c737dfbe7da02d34ba54d8c73215b52043942106131e6d778db3139387ec92f4a10977ea661a12035095bf8dfef6564a C96 [⟨0,[cs HV]⟩] [] @oZ
def oW(n:Nat): (List Int×List Aac×List Aac×(List<|Int×Int)×Int)->((List aP×Int)->Option R)->(((List aP)->Option R)×Unit)->(List aP×Int)->Option R:=λ(a,b,c,d,f) g (h,_) (i,j)=>cd (j<f) (bnd (fU i (List.length i) j) λ_=>bnd (idx i j) λl=>bnd (fU i (List.length i) j) λ_=>bnd (idx i j) λm=>bnd (fU (List.set i (Int.toNat j)<|aP.mk m.ID m.From m.To m.Via (Option.getD (bD d l.ID) 0) m.Right) (List.length<|List.set i (Int.toNat j)<|aP.mk m.ID m.From m.To m.Via (Option.getD (bD d l.ID) 0) m.Right) j) λ_=>bnd (idx (List.set i (Int.toNat j)<|aP.mk m.ID m.From m.To m.Via (Option.getD (bD d l.ID) 0) m.Right) j) λo=>g ((List.set (List.set i (Int.toNat j)<|aP.mk m.ID m.From m.To m.Via (Option.getD (bD d l.ID) 0) m.Right) (Int.toNat j)<|aP.mk o.ID o.From o.To o.Via o.Left<|Option.getD (bD d<|wr<|0-l.ID) 0),(wr<|j+1)))<|h i
def Kr:=oI oW
def HT: Lc 119 0 3:=bN 0xb37e548a1a43b04361807c304e59d00f10658fc1ca70bc22ea1e47be0482063204be8ffab09f19686cfdd2cd1480938dbe2a26e544dcc75385afae36573d C96 [] [] @oW
def Jb: Nat->aM->Option (aM×Int)
 | 0,_=>none
 | n+1,a=>bnd (Kt n a) λb=>bnd (zV n<|aM.mk b.2.2.2 b.1 b.2.1) λc=>cnd (c.2 != 0) (some ((aM.mk [] [] []),c.2))<|bnd (oS n<|aM.mk b.2.2.2 b.1 b.2.1) λd=>bnd (jB n (aM.mk b.2.2.2 b.1 b.2.1) c.1 d) λf=>bnd (sub f (0,List.length f) 1<|ln f) λg=>cd (((g.2:Nat):Int) > 64) (some ((aM.mk [] [] []),3))<|bnd (prd n) λh=>bnd (Ky<|decide<|List.length f<=1000000/\g.1+g.2<=List.length f) λ_=>bnd (oN (λ(i j:dR)=>bnd (mT h i j) λl=>some l)<|win f<|some g) λm=>bnd (Ks n (b.1,b.2.2.1,b.2.2.2,(aU f g.1 m),g,((g.2:Nat):Int)) (b.2.1,[],0)) λo=>bnd (Kr n (o.1,b.2.2.1,b.2.2.2,o.2,(ln b.1)) (b.1,0)) λr=>some ((aM.mk b.2.2.2 r o.1),0)
def t9: Kn:=bJ 119 0x160a8452ce4796d C96 [⟨0,[HW]⟩,⟨3,[HT]⟩] [HY] Jb
abbrev C97:=t9::C96
def jS: Nat->dW->dW->Option Int
 | 0,_,_=>none
 | n+1,a,b=>bnd (cJ n a.Face b.Face) λc=>some c
def Sw: Kn:=bJ 151 0x25becd06a812df5 C97 [] [] jS
abbrev C98:=Sw::C97
def lM(n:Nat): (List Int×List dR×Int)->((List dW×Int)->Option R)->(((List dW)->Option R)×Unit)->(List dW×Int)->Option R:=λ(a,b,c) d (f,_) (g,h)=>cd (h<c) (bnd (idx b h) λi=>bnd (idx a h) λj=>bnd (app g [(dW.mk j i.outer i.inner i.alone)]) λl=>d (l,(wr<|h+1)))<|f g
def HR:=oI lM
def Sy: Lc 120 0 0:=bN 0x18b851969731c74d34332b90be453ee06b47b400d6d817c87837d5baf1f99114ceb C98 [] [] @lM
def kH: Nat->aM->Option (List dW×Int)
 | 0,_=>none
 | n+1,a=>bnd (Au n a) λb=>cnd (b.2.2.2 != 0) (some ([],b.2.2.2))<|bnd (HR n (b.2.1,b.1,(ln b.1)) ([],0)) λc=>bnd (prd n) λd=>bnd (Ky<|decide<|List.length c<=1000000) λ_=>bnd (oN (λ(f g:dW)=>bnd (jS d f g) λh=>some h) c) λi=>some (i,0)
def NM: Kn:=bJ 120 0x2136ba77c2fbeca C98 [⟨0,[Sy]⟩] [] kH
abbrev C99:=NM::C98
def tZ(n:Nat): ((List<|List Int)×Int)->((List Int×Int)->Option R)->(((List Int)->Option R)×Unit)->(List Int×Int)->Option R:=λ(a,b) c (d,_) (f,g)=>cd (g<b) (bnd (idx a g) λh=>bnd (app f h) λi=>c (i,(wr<|g+1)))<|d f
def R4:=oI tZ
def VR: Lc 122 0 0:=bN 0x1330bdaad49fa914b1e7d3903cf3459f805335103 C99 [] [] @tZ
def Jr: Nat->dW->Option (List Int)
 | 0,_=>none
 | n+1,a=>bnd (app ([]:List Int) a.Outer) λb=>bnd (R4 n (a.Inner,(ln a.Inner)) (b,0)) λc=>some c
def aCb: Kn:=bJ 122 0x1f8c41026097365 C99 [⟨0,[VR]⟩] [] Jr
abbrev aM3:=aCb::C99
def Gc(n:Nat): (Int×Int)->((Bool->Option R)×Unit)->Unit->Option R:=λ(a,b) (c,_) _=>cnd (b != a) (cnd (b != (wr<|0-a)) (c true)<|c false)<|c false
def Pw:=eU Gc
def QD: Lc 121 0 2:=bH 0x16335afa4467c99d4d68b02b7596b104a3dbec8cf3b5a41d862f999 aM3 [] [] @Gc
def rJ: (aM×Int×List Int×Int)->(Int->Option R)->((Int->Option R)×(Unit->Option R)×Unit)->Int->Option R:=λ(a,b,c,d) f (g,h,_) i=>cd (i<d) (bnd (idx c i) λj=>bnd (Pw n (b,j)) λl=>cnd l (bnd (Ed n a j) λm=>g m)<|f<|wr<|i+1)<|h ()
def G0:=oG rJ
def QE: Lc 121 0 1:=bN 0xca9b600ac6c5660af010ea5f962f692cf602c2c5975e50d0793338b0858da5d2a5e86 aM3 [⟨0,[cs QD]⟩] [] @rJ
def rP: (aM×Int×List dW×Int)->(Int->Option R)->(((dW×Int)->Option R)×(Unit->Option R)×Unit)->Int->Option R:=λ(a,b,c,d) f (g,h,_) i=>cd (i<d) (bnd (idx c i) λj=>bnd (Jr n j) λl=>bnd2 (G0 n (a,b,l,(ln l)) 0) (λm=>g (j,m)) λo=>bnd (some o) λ_=>f<|wr<|i+1)<|h ()
def G1:=oG rP
def QF: Lc 121 0 0:=bN 0xc9d9319a3dd4b141a2e11ac651afb513dc77a78b00b2605f192c aM3 [⟨0,[cs QE]⟩] [] @rP
def Px: Nat->aM->Int->(List dW)->Option Int
 | 0,_,_,_=>none
 | n+1,a,b,c=>bnd2 (G1 n (a,b,c,(ln c)) 0) (λd=>some d.2) λf=>bnd (some f) λ_=>some 0
def Q9: Kn:=bJ 121 0x1e8c77e3dce6c31248 aM3 [⟨0,[QF]⟩] [] Px
abbrev aUH:=Q9::aM3
def UH: Nat->(List Int)->Int->Option (List Int)
 | 0,_,_=>none
 | n+1,_,a=>cd (a<0) none none
def HE: Kn:=bJ 191 0x510bfc aUH [] [] UH
abbrev aJ0:=HE::aUH
def iM(n:Nat): ((List<|List Int)×Int)->((Int×Int)->Option R)->((Int->Option R)×Unit)->(Int×Int)->Option R:=λ(a,b) c (d,_) (f,g)=>cd (g<b) (bnd (idx a g) λh=>cd ((wr<|f+(ln h))<0) none<|c ((wr<|f+(ln h)),(wr<|g+1)))<|d f
def Nm:=oI iM
def Io: Lc 185 0 0:=bN 0x7dd3c9ba0b8ce2c69cd0a1d600cc2 aJ0 [] [] @iM
def oP(n:Nat): Int->((Unit->Option R)×((List Int×(Nat×Nat))->Option R)×Unit)->Unit->Option R:=λa (b,c,_) _=>cd (a<0) none<|cd ((wr<|a-0) > 0) (bnd (rep 0 (wr<|a-0)<|wr<|a-0) λd=>cnd (List.isEmpty d) (b ())<|bnd (sub d (0,List.length d) 0 0) λf=>c (d,f))<|b ()
def Nn:=FJ oP
def Ip: Ic:=cE 191 0 2 0x3dddf6b95ac97c1f64bc91d84cffb196 aJ0 [] [] @oP
def iL(n:Nat): ((List<|List Int)×Int)->(Int->Option R)->((Unit->Option R)×Unit)->Int->Option R:=λ(a,b) c (d,_) f=>cd (f<b) (bnd (idx a f) λg=>cnd (List.isEmpty g) (c<|wr<|f+1)<|bnd (app ([]:List Int) g) λ_=>none)<|d ()
def Nl:=oI iL
def Im: Lc 185 0 1:=bN 0x2d2d481a9dbd3f3c2726cdfd8ff88b08526 aJ0 [] [] @iL
def iK(n:Nat): ((List<|List Int)×Int)->((List Int×(Nat×Nat)×Int)->Option R)->(((List Int×(Nat×Nat))->Option R)×Unit)->(List Int×(Nat×Nat)×Int)->Option R:=λ(a,b) c (d,_) (f,g,h)=>cd (h<b) (bnd (idx a h) λi=>bnd (XZ f g i) λj=>c (j,(g.1,g.2+List.length i),(wr<|h+1)))<|d (f,g)
def Nk:=oI iK
def Il: Lc 185 0 1:=bN 0x5b45d19662c79ec985d5627d81440192 aJ0 [] [] @iK
def oQ: Nat->(List<|List Int)->Option (List Int)
 | 0,_=>none
 | n+1,a=>bnd (Nm n (a,(ln a)) (0,0)) λb=>bnd2 (Nn n b) (λ_=>bnd (Nl n (a,(ln a)) 0) λ_=>bnd (Ky true) λ_=>some []) λc=>bnd (some c) λd=>bnd (Nk n (a,(ln a)) (d.1,d.2,0)) λf=>bnd (Ky<|decide<|f.2=(0,List.length f.1)) λ_=>some<|win f.1<|some f.2
def Ss: Kn:=bJ 185 0x32fc01eda07876a aJ0 [⟨0,[Io]⟩,⟨1,[Im,Il]⟩] [Ip] oQ
abbrev aM2:=Ss::aJ0
def nF(n:Nat): ((Nat×Nat))->((List Int×Int×Int)->Option R)->(((List Int×Int)->Option R)×Unit)->(List Int×Int×Int)->Option R:=λa b (c,_) (d,f,g)=>cd (g<((a.2:Nat):Int)) (bnd (idx (win d<|some a) g) λ_=>bnd (idx d<|g+((a.1:Nat):Int)) λh=>bnd (idx (win d<|some a)<|wr<|g-1) λ_=>bnd (idx d<|(wr<|g-1)+((a.1:Nat):Int)) λi=>cnd (h != i) (bnd (idx (win d<|some a) g) λ_=>bnd (idx d<|g+((a.1:Nat):Int)) λj=>bnd (fU d (List.length d) f) λ_=>bnd (idx d f) λ_=>b ((List.set d (Int.toNat f) j),(wr<|f+1),(wr<|g+1)))<|b (d,f,(wr<|g+1)))<|c (d,f)
def PB:=oI nF
def BS: Lc 186 0 1:=bN 0x76100df41bc0171d11a527d7b830cde75f6da35986549c5999c4014 aM2 [] [] @nF
def nG: (List Int)->(Int->Option R)->(((List Int×(Nat×Nat))->Option R)×(Unit->Option R)×Unit)->Int->Option R:=λa b (c,d,_) f=>cd (f<(ln a)) (bnd (fU a (List.length a) f) λ_=>bnd (idx a f) λg=>bnd (fU a (List.length a)<|wr<|f-1) λ_=>bnd (idx a<|wr<|f-1) λh=>cnd (g==h) (bnd (sub a (0,List.length a) f<|ln a) λi=>bnd (PB n i (a,f,1)) λj=>bnd (sub j.1 (0,List.length j.1) j.2<|ln j.1) λl=>bnd (clr j.1 l 0) λm=>bnd (sub m (0,List.length m) 0 j.2) λo=>c (m,o))<|b<|wr<|f+1)<|d ()
def PC:=oG nG
def BT: Lc 186 0 0:=bN 0x12f363e0c562e4aea3bb44fc8e07634bdd8267e98166ef1 aM2 [⟨0,[cs BS]⟩] [] @nG
def xK: (List Int)->((Unit->Option R)×((List Int×(Nat×Nat))->Option R)×Unit)->Unit->Option R:=λa (b,c,_) _=>cd ((ln a)<2) (b ())<|bnd2 (PC n a 1) (λd=>c (d.1,d.2)) λf=>bnd (some f) λ_=>b ()
def Fk:=FJ xK
def BU: Ic:=cE 186 0 1 0x12f363d504221ef1835381dde6f35aa6b85a54e17ae409c aM2 [⟨0,[BT]⟩] [] @xK
def mO: Nat->(List<|List Int)->Option (List Int)
 | 0,_=>none
 | n+1,a=>bnd (oQ n a) λb=>bnd (prd n) λ_=>bnd (Ky<|decide<|List.length b<=1000000) λ_=>bnd2 (Fk n<|sP b) (λ_=>some<|sP b) λc=>bnd (some c) λd=>some<|win d.1<|some d.2
def VA: Kn:=bJ 175 0x2b33ec554f37 aM2 [] [BU] mO
abbrev aUG:=VA::aM2
def tA: Nat->(List Int)->(List Int)->Option (List Int)
 | 0,_,_=>none
 | n+1,a,b=>bnd (mO n [a,b]) λc=>some c
def Q0: Kn:=bJ 152 0xc486ef23dcf97452d28fe2d aUG [] [] tA
abbrev aSh:=Q0::aUG
def fZ(n:Nat): (List Int×List Int×Int)->(Int->Option R)->((Unit->Option R)×(Unit->Option R)×Unit)->Int->Option R:=λ(a,b,c) d (f,g,_) h=>cd (h<c) (bnd (idx a h) λi=>bnd (idx b h) λj=>cnd (i != j) (f ())<|d<|wr<|h+1)<|g ()
def Sq:=oG fZ
def Mj: Lc 70 0 0:=bN 0xf9028babcc0232c92585 aSh [] [] @fZ
def eM: Nat->(List Int)->(List Int)->Option Bool
 | 0,_,_=>none
 | n+1,a,b=>cnd ((ln a) != (ln b)) (some false)<|bnd2 (Sq n (a,b,(ln a)) 0) (λ_=>some false) λc=>bnd (some c) λ_=>some true
def AY: Kn:=bJ 70 0x2b856003d aSh [⟨0,[Mj]⟩] [] eM
abbrev aSg:=AY::aSh
def Cs: (Int×Int)->((Bool->Option R)×Unit)->Unit->Option R:=λ(a,b) (c,_) _=>bnd (fJ n a) λd=>cnd d (bnd (fJ n b) λf=>cnd f (cd (a<b) (c true)<|c false)<|c true)<|cd (a<b) (c true)<|c false
def Lz:=eU Cs
def KZ: Lc 192 0 0:=bH 0x65fa76ab3607d942aec564c aSg [] [] @Cs
def Jv: Nat->Int->Int->Option Bool
 | 0,_,_=>none
 | n+1,a,b=>bnd (Lz n (a,b)) λc=>cnd c (some true)<|some false
def H9: Kn:=bJ 192 0x2e961e8ac098 aSg [⟨0,[KZ]⟩] [] Jv
abbrev aUF:=H9::aSg
def NE: Nat->Int->Option Bool
 | 0,_=>none
 | n+1,a=>cnd (a != a) (some true)<|some false
def AW: Kn:=bJ 193 0xade aUF [] [] NE
abbrev aPb:=AW::aUF
def fB: (List Int×Int)->((Int×Int)->Option R)->((Int->Option R)×Unit)->(Int×Int)->Option R:=λ(a,b) c (d,_) (f,g)=>cd (f<g) (bnd (idx a<|wr<|Int.fdiv (IntKind.u64.wrap<|wr<|f+g) 2) λh=>bnd (Jv n h b) λi=>cnd i (c ((wr<|(wr<|Int.fdiv (IntKind.u64.wrap<|wr<|f+g) 2)+1),g))<|c (f,(wr<|Int.fdiv (IntKind.u64.wrap<|wr<|f+g) 2)))<|d f
def wM:=oI fB
def tO: Lc 187 0 0:=bN 0x2e20644bc74c0b6971e79ceea401be32fc6928c75 aPb [] [] @fB
def iV(n:Nat): Int->((Bool->Option R)×Unit)->Unit->Option R:=λa (b,_) _=>cnd (a != a) (b true)<|b false
def fP:=qD iV
def tP: Ic:=cE 193 0 1 0x9fd16d13b55c82835210 aPb [] [] @iV
def gW: Nat->(List Int)->Int->Option (Int×Bool)
 | 0,_,_=>none
 | n+1,a,b=>bnd (wM n (a,b) (0,(ln a))) λc=>cd (c<(ln a)) (bnd (idx a c) λd=>cnd (d==b) (some (c,true))<|bnd (idx a c) λf=>bnd (fP n f) λg=>cnd g (bnd (fP n b) λh=>cnd h (some (c,true))<|some (c,false))<|some (c,false))<|some (c,false)
def zQ: Kn:=bJ 187 0x80f4ba aPb [⟨0,[tO]⟩] [tP] gW
abbrev aM1:=zQ::aPb
def Fm: (List Int×Int)->((Bool->Option R)×Unit)->Unit->Option R:=λ(a,b) (c,_) _=>bnd (gW n a b) λd=>cnd d.2 (c false)<|c true
def Ow:=qD Fm
def PG: Ic:=cE 176 0 2 0xab55fce05a889b75defe86277113d aM1 [] [] @Fm
def rA: (List Int×List Int×Int)->((List Int×Int)->Option R)->(((List Int)->Option R)×Unit)->(List Int×Int)->Option R:=λ(a,b,c) d (f,_) (g,h)=>cd (h<c) (bnd (idx b h) λi=>bnd (Ow n (a,i)) λj=>cnd j (bnd (app g [i]) λl=>d (l,(wr<|h+1)))<|d (g,(wr<|h+1)))<|f g
def D0:=oI rA
def PE: Lc 177 0 0:=bN 0x2e5bbd2f9f00603909c71b6cc43c08033ae802729092fcae30f4c10075618 aM1 [] [PG] @rA
def Fn: (List Int×List Int)->(((List Int)->Option R)×Unit)->Unit->Option R:=λ(a,b) (c,_) _=>bnd (mO n [b]) λd=>bnd (D0 n (a,d,(ln d)) ([],0)) λf=>c f
def Ox:=qD Fn
def PH: Ic:=cE 177 0 2 0x19c4215edfe310a1dc203d5318b4c635d89342ce9857 aM1 [⟨0,[PE]⟩] [] @Fn
def Oy: Nat->(List Int)->(List Int)->Option (List Int)
 | 0,_,_=>none
 | n+1,a,b=>bnd (mO n [b]) λc=>bnd (Ox n (c,a)) λd=>some d
def Q1: Kn:=bJ 153 0xc486ef23dcf97452d28fe2d aM1 [] [PH] Oy
abbrev aUE:=Q1::aM1
def KV: Nat->aD->Int->Option Int
 | 0,_,_=>none
 | n+1,a,b=>bnd (cJ n a.ID b) λc=>some c
def Vn: Kn:=bJ 128 0x401bbba6f3de aUE [] [] KV
abbrev aM0:=Vn::aUE
def vG: (aD×Int)->((Int->Option R)×Unit)->Unit->Option R:=λ(a,b) (c,_) _=>bnd (cJ n a.ID b) λd=>c d
def jY:=qD vG
def vF: Ic:=cE 128 0 2 0x90796f31ba3a1d9b4233 aM0 [] [] @vG
def mE: (List aD×Int)->((Int×Int)->Option R)->((Int->Option R)×Unit)->(Int×Int)->Option R:=λ(a,b) c (d,_) (f,g)=>cd (f<g) (bnd (idx a<|wr<|Int.fdiv (IntKind.u64.wrap<|wr<|f+g) 2) λh=>bnd (jY n (h,b)) λi=>cd (i<0) (c ((wr<|(wr<|Int.fdiv (IntKind.u64.wrap<|wr<|f+g) 2)+1),g))<|c (f,(wr<|Int.fdiv (IntKind.u64.wrap<|wr<|f+g) 2)))<|d f
def KW:=oI mE
def Vo: Lc 127 0 0:=bN 0x1e7270a6b306d0ab289d9952d6d503d05b4fe92c1a49ab0f9cc3 aM0 [] [vF] @mE
def vH: (List aD×Int)->(((aD×Int×Bool)->Option R)×(Int->Option R)×Unit)->Unit->Option R:=λ(a,b) (c,d,_) _=>bnd (KW n (a,b) (0,(ln a))) λf=>cd (f<(ln a)) (bnd (idx a f) λg=>bnd (jY n (g,b)) λh=>cnd (h==0) (c (g,f,true))<|c (g,f,false))<|d f
def Cr:=FJ vH
def Vp: Ic:=cE 127 0 3 0x19e0d7d39f1eae4e9da789c7fed2fbe26d4c1e09aac4066 aM0 [⟨0,[Vo]⟩] [vF] @vH
def zC: Nat->aJ->Int->Option (Int×Bool)
 | 0,_,_=>none
 | n+1,a,b=>bnd2 (Cr n (a.Features,b)) (λc=>cnd c.2.2 (some (c.2.1,true))<|some (c.2.1,false)) λd=>bnd (some d) λf=>some (f,false)
def RB: Kn:=bJ 99 0x80f5b1 aM0 [] [Vp] zC
abbrev aPa:=RB::aM0
def tX(n:Nat): (dW×List Int×Int)->(((List<|Int×Int)×Int)->Option R)->((((List<|Int×Int))->Option R)×Unit)->((List<|Int×Int)×Int)->Option R:=λ(a,b,c) d (f,_) (g,h)=>cd (h<c) (bnd (idx b h) λi=>d ((gU g i a.Face),(wr<|h+1)))<|f g
def R2:=oI tX
def VN: Lc 196 0 1:=bN 0x3998852a9996189f46c8ec55dce5b8e1139475aa718c34a307d9785a9c197c2b88a217075a26544b4 aPa [] [] @tX
def tY: (List dW×Int)->(((List<|Int×Int)×Int)->Option R)->((((List<|Int×Int))->Option R)×Unit)->((List<|Int×Int)×Int)->Option R:=λ(a,b) c (d,_) (f,g)=>cd (g<b) (bnd (idx a g) λh=>bnd (R2 n (h,h.Alone,(ln h.Alone)) (f,0)) λi=>c (i,(wr<|g+1)))<|d f
def R3:=oI tY
def VO: Lc 196 0 0:=bN 0x48bd62233672152a229a3cb9c0161e7c1e6dbd7262b79bda780e aPa [⟨0,[cs VN]⟩] [] @tY
def nX: Nat->aM->Option (List<|Int×Int)
 | 0,_=>none
 | n+1,a=>bnd (kH n a) λb=>bnd (R3 n (b.1,(ln b.1)) ([],0)) λc=>some c
def Jp: Kn:=bJ 196 0x10307834c25dbbc aPa [⟨0,[VO]⟩] [] nX
abbrev aW7:=Jp::aPa
end
end
section
open iU (den cds ag)
noncomputable section
def dJ: Nat->aM->aM->Int->Option Bool
 | 0,_,_,_=>none
 | n+1,p,q,m=>bnd (nX n p) λold=>bnd (nX n q) λnew=>some (sdB old m new)
theorem aH0: ∀(m:List (Int×Int)) (rows:List (List AV)),Qm (kk:=0) 0 m rows->aAn (fW (kk:=0) 0 m rows)=some m
 | [],rows,h=>rfl
 | e::m,[x]::rows,h=>by
  obtain⟨⟨h1,_⟩,h2⟩:=h
  cases h1
  show (match aAn (fW (kk:=0) 0 m rows) with | some l=>some ((e.1,e.2)::l) | none=>none)=_
  rw[aH0 m rows h2]
theorem aIS: FOK PP T 196 ⟨[.w 6],[29],false,λn p=>nX n p⟩:=by
 have e:Jp.c=⟨[.w 6],[29],false,λn p=>nX n p⟩:=by kernel_rfl
 have h:=Jp.ok
 rw[e] at h
 exact h
theorem aKf{n:Nat}{p:aM}{m:List (Int×Int)}{a:AV}(h:nX n p=some m)(q:Qh [] (toW (val 6 p)) a): sdH (eZ PP T n) 196 [] a=some m:=by
 obtain⟨b,rfl,q4⟩:=Qh.inA (cs:=[.vw 4 p.Nodes,.vw 5 p.Arcs,.vw 0 p.Faces]) q
 clear q
 match b,q4 with
 | [xn,xa,xf],q4=>
 obtain⟨qn,qa,qf,_⟩:=q4
 obtain⟨aw',A,h1,h2,h3,_⟩:=aIS n p m h [cK [] (.agg [xn,xa,xf])] ⟨Qh.mkA ⟨.p _ _ (N6 (Qh.pu (v:=.vw 4 p.Nodes) qn trivial)),.p _ _ (N6 (Qh.pu (v:=.vw 5 p.Arcs) qa trivial)),.p _ _ (N6 (Qh.pu (v:=.vw 0 p.Faces) qf trivial)),trivial⟩,trivial⟩
 have h2:=h2 []
 match aw',h2 with
 | [b],h2=>
  have e:eX A 0 b=eA A 0 b:=by
   cases b with
   | tup l=>exact (h3 _ ZN l rfl).elim
   | _=>rfl
  have h4:Qp (.rmp 0 0 m) (eX A 0 b):=by rw[e];exact Qh.pu (v:=.rmp 0 0 m) h2.1 trivial
  have e2:cK [] (.agg [xn,xa,xf])=.agg [dF [] xn,dF [] xa,dF [] xf]:=rfl
  rw[e2] at h1
  unfold sdH
  rw[e2]
  simp only[h1]
  show Fj (eX A 0 b)=some m
  obtain⟨rows,h5,h6⟩:=h4.inM
  rcases h5 with⟨h5,rfl⟩ | h5
  .rw[h5];rfl
  .rw[h5];exact aH0 m rows h6
theorem aCH: FOK PP T 65 ⟨[.w 6,.w 6,.w 0],[7],false,λn p=>dJ n p.1 p.2.1 p.2.2⟩:=by
 rintro n ⟨p,q,m⟩ r h aw w
 match aw,w with
 | [a,b,c],w=>
 obtain⟨w1,w2,w3,_⟩:=w
 have hc:c=.lit (.int .i64 m):=Qh.inL (v:=.int .i64 m) w3
 subst hc
 cases n with
 | zero=>cases h
 | succ n=>
  obtain⟨old,h1,h⟩:=bG h
  obtain⟨new,h2,h⟩:=bG h
  cases h
  refine⟨[.lit (.bool (sdB old m new))],[],?_,λH1=>⟨.l _,trivial⟩,λx hx l e=>(by rw[ZK.1 hx] at e;cases e),λe=>(by cases e)⟩
  have e:(aG.prim 65:Option T9)=some (aAQ 196):=rfl
  simp only[eZ,e]
  show sdA (eZ PP T n) 196 [a,b,.lit (.int .i64 m)] []=_
  simp only[sdA,aKf h1 w1,aKf h2 w2,jU]
def G2: Kn:=⟨65,_,aCH⟩
end
end
section
variable {R:Type}(n:Nat)
noncomputable section
abbrev dX:=G2::aW7
def KN: Lc 21 0 0:=bN 0x11de52f0a82fa6d4ee3049bdcad3ac43e2ed5c15a0b62f1b296c228ae5d7bae0eae dX [] [] @mV
def KM: Lc 21 0 1:=bN 0x482555f87f1f307b0ddddd52b43d3a3b1baf0c68cc9edcd63d0e1c0086 dX [] [] @mU
def Cn: aJ->(((List Int×List Aac×List aP×List aD×List Int)->Option R)×Unit)->Unit->Option R:=λa (b,_) _=>bnd (pQ n a.Plan.Nodes) λc=>bnd (mP n a.Plan.Arcs) λd=>bnd (gQ n a.Plan.Faces) λf=>bnd (jX n a.Features) λg=>bnd (AA n (f,c,g,(ln d)) (d,0)) λh=>bnd (Ww n (f,c,h,(ln g)) (g,0)) λi=>b (f,c,h,i,f)
def Lm:=qD Cn
def KQ: Ic:=cE 21 0 1 0x1f5849cd8b58c6efa83970b2784bd047386110811010fc0cbe5afe0733b01 dX [⟨0,[KN]⟩,⟨1,[KM]⟩] [] @Cn
def Ck(n:Nat): Int->((Bool->Option R)×Unit)->Unit->Option R:=λa (b,_) _=>cnd (a==1) (b true)<|cnd (a==2) (b true)<|cnd (a==3) (b true)<|b false
def Lk:=eU Ck
def KL: Lc 24 0 0:=bH 0x169e16b8488b3425444a7d9f2c0ec1c5be4528fa6 dX [] [] @Ck
def Cj: (List Int×List Aac×List aP×List aD×bF)->((Bool->Option R)×Unit)->Unit->Option R:=λ(a,b,c,d,f) (g,_) _=>bnd (kO n (aM.mk b c a) f.ID) λh=>cd (h > 0) (g true)<|bnd (jF n (aJ.mk (aM.mk b c a) d) 1 f.ID) λi=>cd ((ln i) > 0) (g true)<|g false
def Lj:=eU Cj
def KK: Lc 61 0 0:=bH 0x10381b98384dbe7f707ceaffc4820178c1d999339b29778c0fd1ee5544 dX [] [] @Cj
def Cl(n:Nat): (List Int×List Int×List Aac×List aP×List aD×Int×Int)->((Unit->Option R)×((List Aac×(Nat×Nat))->Option R)×Unit)->Unit->Option R:=λ(a,b,c,d,f,g,h) (i,j,_) _=>bnd (Ky<|decide<|0<=g/\g<=h/\h<=(ln c)/\(ln c)<=(ln c)) λ_=>cnd (g==h) (i ())<|bnd (sub c (0,List.length c) 0 g) λl=>bnd (sub c (0,List.length c) h<|ln c) λm=>bnd (XZ c l<|win c<|some m) λo=>bnd (sub o (l.1,l.2+List.length (win c<|some m)) (((l.1,l.2+List.length (win c<|some m)).2:Nat):Int)<|ln c) λr=>bnd (clr o r<|Aac.mk 0<|Aaa.mk 0 0) λs=>j (s,(l.1,l.2+List.length (win c<|some m)))
def Ll:=FJ Cl
def KO: Ic:=cE 93 0 3 0x560f84fd30470f976a3a12f33ca06d998850ad522957ad580f15 dX [] [] @Cl
def Cm: (List Int×List Int×List Aac×List aP×List aD×bF)->(((List Aac×Int)->Option R)×(((Nat×Nat)×List Aac)->Option R)×((List Aac×List Aac)->Option R)×Unit)->Unit->Option R:=λ(a,b,c,d,f,g) (h,i,j,_) _=>bnd (oE n (aJ.mk (aM.mk c d a) f) g.ID) λl=>cnd l.2 (cnd (g.Kind==1) (h (c,8))<|cnd (g.Kind==3) (bnd (fU c (List.length c) l.1) λ_=>bnd (idx c l.1) λm=>h ((List.set c (Int.toNat l.1)<|Aac.mk m.ID g.At),0))<|bnd (Lj n (a,c,d,f,g)) λo=>cnd o (h (c,13))<|bnd2 (Ll n (a,b,c,d,f,l.1,(wr<|l.1+1))) (λ_=>h (c,0)) λr=>bnd (some r) λs=>i (s.2,s.1))<|cnd (g.Kind==1) (bnd (prd n) λ_=>bnd (aFG c l.1<|Aac.mk g.ID g.At) λt=>j (t,[(Aac.mk g.ID g.At)]))<|h (c,7)
def tW:=in3 Cm
def KP: Ic:=cE 61 0 2 0x10e0b550b23c78ace81c031cbd676dd9e626f5578fcc4d1920e7b216ae21dd37f1cb55f1fda56e44408c0d564bec7 dX [⟨0,[KK]⟩] [KO] @Cm
def fA: (List Int×List Aac×List aP×List aD×Int)->((Int->Option R)×Unit)->Unit->Option R:=λ(a,b,c,d,f) (g,_) _=>cnd (f==0) (bnd (fI n<|aJ.mk (aM.mk b c a) d) λh=>g h)<|g f
def cH:=eU fA
def KJ: Lc 24 0 2:=bH 0x3bec7661e33a dX [] [] @fA
def nQ: (aJ×bF×List Int×List Aac×List aP×List aD×Int×Int)->((Bool->Option R)×Unit)->Unit->Option R:=λ(a,b,c,d,f,g,h,i) (j,_) _=>cnd (h==0) (cnd (b.Kind==3) (bnd (dJ n a.Plan (aM.mk d f c) i) λl=>cnd l (j true)<|j false)<|cnd (b.Kind==6) (bnd (dJ n a.Plan (aM.mk d f c) i) λm=>cnd m (j true)<|j false)<|j false)<|j false
def Ha:=eU nQ
def ED: Lc 24 0 4:=bH 0x2b947d5e450b669 dX [] [] @nQ
def pO: (aJ×bF×List Int×List Aac×List aP×List aD×Int×Int)->((Int->Option R)×Unit)->Unit->Option R:=λ(a,b,c,d,f,g,h,i) (j,_) _=>bnd (Ha n (a,b,c,d,f,g,h,i)) λl=>cnd l (j 12)<|j h
def dZ:=eU pO
def KI: Lc 24 0 3:=bH 0x2b8ff0bcd7c3f57 dX [⟨0,[cs ED]⟩] [] @pO
def yR: ((Nat×Nat)×List Int×List Aac×List aP×List aD×Int)->((Int->Option R)×Unit)->Unit->Option R:=λ(a,b,c,d,f,g) (h,_) _=>cnd (g==0) (bnd (fI n<|aJ.mk (aM.mk (win c<|some a) d b) f) λi=>h i)<|h g
def sA:=eU yR
def EC: Lc 24 0 2:=bH 0x46e698012c5de66ead67ae34e681a797 dX [] [] @yR
def yP: (aJ×bF×(Nat×Nat)×List Int×List Aac×List aP×List aD×Int×Int)->((Bool->Option R)×Unit)->Unit->Option R:=λ(a,b,c,d,f,g,h,i,j) (l,_) _=>cnd (i==0) (cnd (b.Kind==3) (bnd (dJ n a.Plan (aM.mk (win f<|some c) g d) j) λm=>cnd m (l true)<|l false)<|cnd (b.Kind==6) (bnd (dJ n a.Plan (aM.mk (win f<|some c) g d) j) λo=>cnd o (l true)<|l false)<|l false)<|l false
def Gz:=eU yP
def EA: Lc 24 0 4:=bH 0x55e59541af434c4c58eddac7465d37dc270 dX [] [] @yP
def yQ: (aJ×bF×(Nat×Nat)×List Int×List Aac×List aP×List aD×Int×Int)->((Int->Option R)×Unit)->Unit->Option R:=λ(a,b,c,d,f,g,h,i,j) (l,_) _=>bnd (Gz n (a,b,c,d,f,g,h,i,j)) λm=>cnd m (l 12)<|l i
def rZ:=eU yQ
def EB: Lc 24 0 3:=bH 0x336553ca2e470ac99a3d9c3c07f4af960f9 dX [⟨0,[cs EA]⟩] [] @yQ
def DZ: Lc 24 0 2:=bH 0x110a67d8a6c6f954cf300b80 dX [] [] @fA
def DX: Lc 24 0 4:=bH 0xc6499c818c5cf850de6848f81e dX [] [] @nQ
def DY: Lc 24 0 3:=bH 0xc634ea3c9aab5457c30913fe8c dX [⟨0,[cs DX]⟩] [] @pO
def yO(n:Nat): Int->((Bool->Option R)×Unit)->Unit->Option R:=λa (b,_) _=>cnd (a==4) (b true)<|cnd (a==5) (b true)<|cnd (a==6) (b true)<|b false
def Gy:=eU yO
def DW: Lc 24 0 1:=bH 0x169e16b8488b3425444a7db29423a92d65ab216ae dX [] [] @yO
def yN(n:Nat): (bF×Int×Int)->((Int->Option R)×Unit)->Unit->Option R:=λ(a,b,c) (d,_) _=>cd (a.C<0) (d b)<|d c
def Gx:=eU yN
def DV: Lc 94 0 0:=bH 0x33cea7cf06fe183a4e494e532fab0ebff58500b3de72e4e2e6c7eaf4575d5767ceee80cace7d2c242d09 dX [] [] @yN
def yM: (List Aac×List Int×List aP×Int×Int)->((Int->Option R)×(Unit->Option R)×Unit)->Unit->Option R:=λ(a,b,c,d,f) (g,h,_) _=>cnd (f==0) (g 12)<|bnd (oB n b f) λi=>cnd i (g 8)<|cnd (d==0) (g 12)<|h ()
def Gw:=pc2 yM
def DU: Lc 94 0 1:=bH 0x1b63438856497e87984f5ea27e43fa3d7dc722d7017442e181f378e40a70108a80aaa5ac7e03a7569650e2f68f7f57b0b83583435a4d8441213542fc01704c5ce748d8f2641 dX [] [] @yM
def nW: (List Int×List Aac×List aD×List Int×Int×List Int×Int)->((List aP×Int)->Option R)->(((List aP)->Option R)×Unit)->(List aP×Int)->Option R:=λ(a,b,c,d,f,g,h) i (j,_) (l,m)=>cd (m<h) (bnd (idx g m) λo=>bnd (zD n (aJ.mk (aM.mk b l a) c)<|nE o<|wr<|0-o) λr=>cnd r.2 (cd (o > 0) (bnd (fU l (List.length l) r.1) λ_=>bnd (idx l r.1) λs=>i ((List.set l (Int.toNat r.1)<|aP.mk s.ID s.From s.To s.Via f s.Right),(wr<|m+1)))<|bnd (fU l (List.length l) r.1) λ_=>bnd (idx l r.1) λt=>i ((List.set l (Int.toNat r.1)<|aP.mk t.ID t.From t.To t.Via t.Left f),(wr<|m+1)))<|i (l,(wr<|m+1)))<|j l
def QV:=oI nW
def EJ: Lc 123 0 0:=bN 0x8ac523a536ccee35b356e60a1bbeac0952865834750897b5c350e4a74486ee7b6936d595f24f6455dae8bb8bf9b3b36690b88 dX [] [] @nW
def yL: (aD×Int)->((Bool->Option R)×Unit)->Unit->Option R:=λ(a,b) (c,_) _=>bnd (dP n a.Kind) λd=>cnd (d==3) (bnd (oB n a.Parts b) λf=>cnd f (c true)<|c false)<|c false
def Gv:=eU yL
def DT: Lc 123 0 2:=bH 0x123f4322ab24058acf1d94ea1067f85631f5c7a4d4a774778498eb30d75634fbdccf5818f8ee41d3faca9223c55c585f515 dX [] [] @yL
def nV: (List Int×List Int×List Aac×List aP×List aP×Int×Int×Int)->((List aD×Int)->Option R)->(((List aD)->Option R)×Unit)->(List aD×Int)->Option R:=λ(a,b,c,d,f,g,h,i) j (l,_) (m,o)=>cd (o<i) (bnd (fU m (List.length m) o) λ_=>bnd (idx m o) λr=>bnd (Gv n (r,g)) λs=>cnd s (bnd (tA n r.Parts [h]) λt=>bnd (fU m (List.length m) o) λ_=>bnd (idx m o) λu=>j ((List.set m (Int.toNat o)<|aD.mk u.ID u.Kind u.Class u.Name t),(wr<|o+1)))<|j (m,(wr<|o+1)))<|l m
def QU:=oI nV
def EI: Lc 123 0 1:=bN 0x135ec2988422e0e5d470a28c8c2255128d6c8073b99ada1be81b460512b0910e6592379bb1be93882617d7fb376ec1eb dX [⟨0,[cs DT]⟩] [] @nV
def yZ: (List Int×List Int×List Aac×List aP×List aD×List Int×List aP×List Int×Int×Int)->(((List Int×List aD×List aP)->Option R)×Unit)->Unit->Option R:=λ(a,b,c,d,f,g,h,i,j,l) (m,_) _=>bnd (QV n (a,c,f,g,l,i,(ln i)) (h,0)) λo=>bnd (tA n a [l]) λr=>bnd (QU n (r,b,c,d,o,j,l,(ln f)) (f,0)) λs=>m (r,s,o)
def Hh:=qD yZ
def EV: Ic:=cE 123 0 4 0x19b021be593ce548cc41fa360319d736149ceb57da7fe97dadcd1c2da0a0f94b6743da77c6ea2f1c638747a07e2c1c6e dX [⟨0,[EJ]⟩,⟨1,[EI]⟩] [] @yZ
def zA: (List Int×List Int×List Aac×List aP×List aD×bF)->((Int->Option R)×((List aP×List aP×Int)->Option R)×((List aP×List aP×aM×Int)->Option R)×((List Int×List aD×List aP×List aP×aM)->Option R)×Unit)->Unit->Option R:=λ(a,b,c,d,f,g) (h,i,j,l,_) _=>bnd (zD n (aJ.mk (aM.mk c d a) f) g.ID) λm=>cnd m.2 (h 8)<|bnd (oE n (aJ.mk (aM.mk c d a) f) g.A) λo=>cnd o.2 (bnd (oE n (aJ.mk (aM.mk c d a) f) g.B) λr=>cnd r.2 (bnd (mP n d) λs=>bnd (iY n g.Via) λt=>bnd (prd n) λ_=>bnd (aFG s m.1<|aP.mk g.ID g.A g.B t 0 0) λu=>bnd (Jd n<|aM.mk c u a) λv=>cnd (v != 0) (i (u,[(aP.mk g.ID g.A g.B t 0 0)],v))<|bnd (Jb n<|aM.mk c u a) λw=>cnd (w.2 != 0) (j (u,[(aP.mk g.ID g.A g.B t 0 0)],w.1,w.2))<|bnd (kH n w.1) λx=>cnd (x.2 != 0) (j (u,[(aP.mk g.ID g.A g.B t 0 0)],w.1,x.2))<|bnd (idx w.1.Arcs m.1) λy=>bnd (idx w.1.Arcs m.1) λz=>bnd (idx x.1 y.Left) λa0=>bnd (idx x.1 z.Right) λb0=>bnd (Px n (aM.mk c d a) g.ID [a0,b0]) λc0=>bnd (fU u (List.length u) m.1) λ_=>bnd (idx u m.1) λd0=>bnd (fU (List.set u (Int.toNat m.1)<|aP.mk d0.ID d0.From d0.To d0.Via c0 d0.Right) (List.length<|List.set u (Int.toNat m.1)<|aP.mk d0.ID d0.From d0.To d0.Via c0 d0.Right) m.1) λ_=>bnd (idx (List.set u (Int.toNat m.1)<|aP.mk d0.ID d0.From d0.To d0.Via c0 d0.Right) m.1) λf0=>cnd (y.Left==z.Right) (cnd (g.C != 0) (j ((List.set (List.set u (Int.toNat m.1)<|aP.mk d0.ID d0.From d0.To d0.Via c0 d0.Right) (Int.toNat m.1)<|aP.mk f0.ID f0.From f0.To f0.Via f0.Left c0),[(aP.mk g.ID g.A g.B t 0 0)],w.1,12))<|l (a,f,(List.set (List.set u (Int.toNat m.1)<|aP.mk d0.ID d0.From d0.To d0.Via c0 d0.Right) (Int.toNat m.1)<|aP.mk f0.ID f0.From f0.To f0.Via f0.Left c0),[(aP.mk g.ID g.A g.B t 0 0)],w.1))<|bnd (Gx n (g,z.Right,y.Left)) λg0=>bnd2 (Gw n (c,a,(List.set (List.set u (Int.toNat m.1)<|aP.mk d0.ID d0.From d0.To d0.Via c0 d0.Right) (Int.toNat m.1)<|aP.mk f0.ID f0.From f0.To f0.Via f0.Left c0),g0,(nE g.C<|wr<|0-g.C))) (λh0=>j ((List.set (List.set u (Int.toNat m.1)<|aP.mk d0.ID d0.From d0.To d0.Via c0 d0.Right) (Int.toNat m.1)<|aP.mk f0.ID f0.From f0.To f0.Via f0.Left c0),[(aP.mk g.ID g.A g.B t 0 0)],w.1,h0)) λi0=>bnd (some i0) λ_=>bnd (idx x.1 g0) λj0=>bnd (Jr n j0) λl0=>bnd (Hh n (a,b,c,d,f,a,(List.set (List.set u (Int.toNat m.1)<|aP.mk d0.ID d0.From d0.To d0.Via c0 d0.Right) (Int.toNat m.1)<|aP.mk f0.ID f0.From f0.To f0.Via f0.Left c0),l0,c0,(nE g.C<|wr<|0-g.C))) λm0=>l (m0.1,m0.2.1,m0.2.2,[(aP.mk g.ID g.A g.B t 0 0)],w.1))<|h 7)<|bnd (oE n (aJ.mk (aM.mk c d a) f) g.B) λo0=>cnd o0.2 (h 7)<|h 7
def Hi:=λ(n:Nat) p=>bnd (prd n) λn=>zA n p (λt=>some<|Sum.inl t,λt=>some<|Sum.inr<|Sum.inl t,λt=>some<|Sum.inr<|Sum.inr<|Sum.inl t,λt=>some<|Sum.inr<|Sum.inr<|Sum.inr t,()) ()
def EW: Ic:=cE 94 0 2 0x2c6232a81ff6e874b732b97e15b36e41ab39e33e8101bffdc089218c68c1c3adcbd9b717be85edff39a0064a0c36359d37c4b0290a9d7460ce4e07b74665c7823b123257c0d dX [⟨0,[DV]⟩,⟨1,[DU]⟩] [EV] @zA
def yK: (List Int×List Aac×List aP×List aD×Int×Int)->((Bool->Option R)×Unit)->Unit->Option R:=λ(a,b,c,d,f,g) (h,_) _=>cnd (f != g) (bnd (jF n (aJ.mk (aM.mk b c a) d) 3 f) λi=>bnd (jF n (aJ.mk (aM.mk b c a) d) 3 g) λj=>bnd (eM n i j) λl=>cnd l (h false)<|h true)<|h false
def Gu:=eU yK
def DS: Lc 62 0 0:=bH 0x35e1631f4e310c270cce25581d4a97caec65f1f24c1b85b2c4b19d91c4653c7173fa4eb0 dX [] [] @yK
def yY(n:Nat): (List Int×List Int×List Aac×List aP×List aD×Int×Int)->((Unit->Option R)×((List aP×(Nat×Nat))->Option R)×Unit)->Unit->Option R:=λ(a,b,c,d,f,g,h) (i,j,_) _=>bnd (Ky<|decide<|0<=g/\g<=h/\h<=(ln d)/\(ln d)<=(ln d)) λ_=>cnd (g==h) (i ())<|bnd (sub d (0,List.length d) 0 g) λl=>bnd (sub d (0,List.length d) h<|ln d) λm=>bnd (XZ d l<|win d<|some m) λo=>bnd (sub o (l.1,l.2+List.length (win d<|some m)) (((l.1,l.2+List.length (win d<|some m)).2:Nat):Int)<|ln d) λr=>bnd (clr o r<|aP.mk 0 0 0 [] 0 0) λs=>j (s,(l.1,l.2+List.length (win d<|some m)))
def Hg:=FJ yY
def EU: Ic:=cE 96 0 3 0x3ed7f6656a47a08b35f2f7a3671f231a2ef1955766b9f945970759c dX [] [] @yY
def yJ(n:Nat): (List Int×List Int×List Aac×List aP×List aD×Int×Int×aP×Int)->(((List aP)->Option R)×Unit)->Unit->Option R:=λ(a,b,c,d,f,g,h,i,j) (l,_) _=>cnd (i.Left==g) (bnd (fU d (List.length d) j) λ_=>bnd (idx d j) λm=>l<|List.set d (Int.toNat j)<|aP.mk m.ID m.From m.To m.Via h m.Right)<|l d
def Gt:=eU yJ
def DR: Lc 97 0 1:=bH 0x93d94835394aaf26c3981aaabb456a2022ee2fbca1477423724838471fe6d07f6a10fd2f dX [] [] @yJ
def nU: (List Int×List Int×List Aac×List aD×Int×Int×Int)->((List aP×Int)->Option R)->(((List aP)->Option R)×Unit)->(List aP×Int)->Option R:=λ(a,b,c,d,f,g,h) i (j,_) (l,m)=>cd (m<h) (bnd (fU l (List.length l) m) λ_=>bnd (idx l m) λo=>bnd (Gt n (a,b,c,l,d,f,g,o,m)) λr=>cnd (o.Right==f) (bnd (fU r (List.length r) m) λ_=>bnd (idx r m) λs=>i ((List.set r (Int.toNat m)<|aP.mk s.ID s.From s.To s.Via s.Left g),(wr<|m+1)))<|i (r,(wr<|m+1)))<|j l
def QT:=oI nU
def EH: Lc 97 0 0:=bN 0x2b92ef22921a004f5a0a6e1c344d373aaea5fb6fb71303879a7a93eccdb0180a803 dX [⟨0,[cs DR]⟩] [] @nU
def fX: (Int×Int×List Int)->(((List Int)->Option R)×Unit)->Unit->Option R:=λ(a,b,c) (d,_) _=>bnd (oB n c a) λf=>cnd f (bnd (Oy n c [a]) λg=>cnd (b != 0) (bnd (tA n g [b]) λh=>d h)<|d g)<|d c
def iB:=qD fX
def ET: Ic:=cE 126 11 3 0x1c2946a5b52adba3cecbe dX [] [] @fX
def ER: Ic:=cE 126 12 3 0xf0360e213002f23ff3f5584d52 dX [] [] @fX
def nT: (List Int×List Int×List Aac×List aP×Int×Int×Int)->((List aD×Int)->Option R)->(((List aD)->Option R)×Unit)->(List aD×Int)->Option R:=λ(a,b,c,d,f,g,h) i (j,_) (l,m)=>cd (m<h) (bnd (fU l (List.length l) m) λ_=>bnd (idx l m) λo=>bnd (dP n o.Kind) λr=>cnd (r==3) (bnd (iB n (f,g,o.Parts)) λs=>bnd (fU l (List.length l) m) λ_=>bnd (idx l m) λt=>i ((List.set l (Int.toNat m)<|aD.mk t.ID t.Kind t.Class t.Name s),(wr<|m+1)))<|i (l,(wr<|m+1)))<|j l
def QS:=oI nT
def EG: Lc 97 0 2:=bN 0x14836cb5bf9891036afef2974a2f5e4c0637a0ecbb2fe1358776464ebfcc7a09029a54 dX [] [ER] @nT
def yX: (List Int×List Int×List Aac×List aP×List aD×Int×Int)->(((List Int×List aP×List aD)->Option R)×Unit)->Unit->Option R:=λ(a,b,c,d,f,g,h) (i,_) _=>bnd (QT n (a,b,c,f,g,h,(ln d)) (d,0)) λj=>bnd (iB n (g,h,a)) λl=>bnd (QS n (l,b,c,j,g,h,(ln f)) (f,0)) λm=>i (l,j,m)
def sC:=qD yX
def yW: Ic:=cE 97 0 3 0x5a9ae90b733b934125bcbee2649684decaa dX [⟨0,[EH]⟩,⟨2,[EG]⟩] [ET] @yX
def yI(n:Nat): ((Nat×Nat)×List Int×List Int×List Aac×List aP×List aD×Int×Int×aP×Int×(Nat×Nat))->(((List aP)->Option R)×Unit)->Unit->Option R:=λ(a,b,c,d,f,g,h,i,j,l,m) (o,_) _=>cnd (j.Left==h) (bnd (idx (win f<|some a) l) λ_=>bnd (idx f<|l+((a.1:Nat):Int)) λr=>o<|List.set f (Int.toNat<|l+((a.1:Nat):Int))<|aP.mk r.ID r.From r.To r.Via i r.Right)<|o f
def Gs:=eU yI
def DQ: Lc 97 0 1:=bH 0x2a09c3da4e8126c90df82cca55f8369c0577f4a30f7de879bdeb932c9043e3d4e8c001ff4887bf4e82df dX [] [] @yI
def nS: ((Nat×Nat)×List Int×List Int×List Aac×List aD×Int×Int×(Nat×Nat)×Int)->((List aP×Int)->Option R)->(((List aP)->Option R)×Unit)->(List aP×Int)->Option R:=λ(a,b,c,d,f,g,h,i,j) l (m,_) (o,r)=>cd (r<j) (bnd (idx (win o<|some i) r) λ_=>bnd (idx o<|r+((i.1:Nat):Int)) λs=>bnd (Gs n (a,b,c,d,o,f,g,h,s,r,i)) λt=>cnd (s.Right==g) (bnd (idx (win t<|some a) r) λ_=>bnd (idx t<|r+((a.1:Nat):Int)) λu=>l ((List.set t (Int.toNat<|r+((a.1:Nat):Int))<|aP.mk u.ID u.From u.To u.Via u.Left h),(wr<|r+1)))<|l (t,(wr<|r+1)))<|m o
def QR:=oI nS
def EF: Lc 97 0 0:=bN 0x173c1f7c466e2d25bcce61944947f30b994776dd284d562e9b4bb6c3ea3e74e484e4b5658 dX [⟨0,[cs DQ]⟩] [] @nS
def EO: Ic:=cE 126 11 3 0x1c2946a5b52adba3cecbe dX [] [] @fX
def EN: Ic:=cE 126 12 3 0xf0360e213002f23ff3f5584d52 dX [] [] @fX
def nR: ((Nat×Nat)×List Int×List Int×List Aac×List aP×Int×Int×Int)->((List aD×Int)->Option R)->(((List aD)->Option R)×Unit)->(List aD×Int)->Option R:=λ(a,b,c,d,f,g,h,i) j (l,_) (m,o)=>cd (o<i) (bnd (fU m (List.length m) o) λ_=>bnd (idx m o) λr=>bnd (dP n r.Kind) λs=>cnd (s==3) (bnd (iB n (g,h,r.Parts)) λt=>bnd (fU m (List.length m) o) λ_=>bnd (idx m o) λu=>j ((List.set m (Int.toNat o)<|aD.mk u.ID u.Kind u.Class u.Name t),(wr<|o+1)))<|j (m,(wr<|o+1)))<|l m
def QQ:=oI nR
def EE: Lc 97 0 2:=bN 0xaf034e0fd03226285fdb1a9f1a28d641fd58e7cc279673fbd23feda626f442270965e4f21b4 dX [] [EN] @nR
def yV: ((Nat×Nat)×List Int×List Int×List Aac×List aP×List aD×Int×Int)->(((List Int×List aP×List aD)->Option R)×Unit)->Unit->Option R:=λ(a,b,c,d,f,g,h,i) (j,_) _=>bnd (QR n (a,b,c,d,g,h,i,a,((a.2:Nat):Int)) (f,0)) λl=>bnd (iB n (h,i,b)) λm=>bnd (QQ n (a,m,c,d,l,h,i,(ln g)) (g,0)) λo=>j (m,l,o)
def Hf:=qD yV
def EQ: Ic:=cE 97 0 3 0x12cfdf7b3cdd8471514e2fca19fd80ca214e2e1cc35d1f7e4c dX [⟨0,[EF]⟩,⟨2,[EE]⟩] [EO] @yV
def zB: (List Int×List Int×List Aac×List aP×List aD×bF)->((Int->Option R)×((List aP×List aP×Int)->Option R)×((List aP×List aP×List Aac×List aP×List Int×Int)->Option R)×((List Int×List aD×List aP×List aP×List Aac×List aP×List Int)->Option R)×((List aP×Int)->Option R)×((List Int×List aP×List aD×Int×Int)->Option R)×(((Nat×Nat)×List Int×List aP×List aD×Int×Int)->Option R)×(((Nat×Nat)×List aP)->Option R)×Unit)->Unit->Option R:=λ(a,b,c,d,f,g) (h,i,j,l,m,o,r,s,_) _=>cnd (g.Kind==4) (bnd2 (Hi n (a,b,c,d,f,g)) (λt=>h t) λu=>bnd2 (some u) (λv=>i (v.1,v.2.1,v.2.2)) λw=>bnd2 (some w) (λx=>j (x.1,x.2.1,x.2.2.1.Nodes,x.2.2.1.Arcs,x.2.2.1.Faces,x.2.2.2)) λy=>bnd (some y) λz=>l (z.1,z.2.1,z.2.2.1,z.2.2.2.1,z.2.2.2.2.Nodes,z.2.2.2.2.Arcs,z.2.2.2.2.Faces))<|bnd (zD n (aJ.mk (aM.mk c d a) f) g.ID) λa0=>cnd a0.2 (cnd (g.Kind==6) (bnd (iY n g.Via) λb0=>bnd (fU d (List.length d) a0.1) λ_=>bnd (idx d a0.1) λc0=>m ((List.set d (Int.toNat a0.1)<|aP.mk c0.ID c0.From c0.To b0 c0.Left c0.Right),0))<|bnd (jF n (aJ.mk (aM.mk c d a) f) 2 g.ID) λd0=>cd ((ln d0) > 0) (m (d,13))<|bnd (fU d (List.length d) a0.1) λ_=>bnd (idx d a0.1) λf0=>bnd (fU d (List.length d) a0.1) λ_=>bnd (idx d a0.1) λg0=>bnd (Gu n (a,c,d,f,f0.Left,g0.Right)) λh0=>cnd h0 (m (d,13))<|bnd2 (Hg n (a,b,c,d,f,a0.1,(wr<|a0.1+1))) (λ_=>cnd (f0.Left != g0.Right) (bnd (sC n (a,b,c,d,f,(nE f0.Left g0.Right),(BR f0.Left g0.Right))) λi0=>o (i0.1,i0.2.1,i0.2.2,(nE f0.Left g0.Right),(BR f0.Left g0.Right)))<|m (d,0)) λj0=>bnd (some j0) λl0=>cnd (f0.Left != g0.Right) (bnd (Hf n (l0.2,a,b,c,l0.1,f,(nE f0.Left g0.Right),(BR f0.Left g0.Right))) λm0=>r (l0.2,m0.1,m0.2.1,m0.2.2,(nE f0.Left g0.Right),(BR f0.Left g0.Right)))<|s (l0.2,l0.1))<|m (d,7)
def Hj:=λ(n:Nat) p=>bnd (prd n) λn=>zB n p (λt=>some<|Sum.inl t,λt=>some<|Sum.inr<|Sum.inl t,λt=>some<|Sum.inr<|Sum.inr<|Sum.inl t,λt=>some<|Sum.inr<|Sum.inr<|Sum.inr<|Sum.inl t,λt=>some<|Sum.inr<|Sum.inr<|Sum.inr<|Sum.inr<|Sum.inl t,λt=>some<|Sum.inr<|Sum.inr<|Sum.inr<|Sum.inr<|Sum.inr<|Sum.inl t,λt=>some<|Sum.inr<|Sum.inr<|Sum.inr<|Sum.inr<|Sum.inr<|Sum.inr<|Sum.inl t,λt=>some<|Sum.inr<|Sum.inr<|Sum.inr<|Sum.inr<|Sum.inr<|Sum.inr<|Sum.inr t,()) ()
def EX: Ic:=cE 62 0 2 0x17aa66f80e714cced31db85559881b3aae6d2aa4a186c1e3fd5b8f6499fcca69a3f9168e95e2938086e42780e14e7be8c25330a75f8fea9c335c391720254861994ee7b38988708ffaa888aba81d82819308f4aa6884b703003a36888e7d60e61a30c93a97cbe1c2f44c263d71b0884f56 dX [⟨0,[DS]⟩] [EW,EU,yW,EQ] @zB
def DP: Lc 24 0 2:=bH 0x1109dbc14ed9cc08390bcf01 dX [] [] @fA
def iS: (aJ×bF×List Int×List Aac×List aP×List aD×Int)->((Bool->Option R)×Unit)->Unit->Option R:=λ(a,b,c,d,f,g,h) (i,_) _=>cnd (h==0) (cnd (b.Kind==3) (bnd (dJ n a.Plan (aM.mk d f c) 0) λj=>cnd j (i true)<|i false)<|cnd (b.Kind==6) (bnd (dJ n a.Plan (aM.mk d f c) 0) λl=>cnd l (i true)<|i false)<|i false)<|i false
def Gq:=eU iS
def DN: Lc 24 0 4:=bH 0xc64337face4675d5e955debd88 dX [] [] @iS
def iT: (aJ×bF×List Int×List Aac×List aP×List aD×Int)->((Int->Option R)×Unit)->Unit->Option R:=λ(a,b,c,d,f,g,h) (i,_) _=>bnd (Gq n (a,b,c,d,f,g,h)) λj=>cnd j (i 12)<|i h
def fK:=eU iT
def DO: Lc 24 0 3:=bH 0xc62e85bd239ca8a3acbce6ee26 dX [⟨0,[cs DN]⟩] [] @iT
def DM: Lc 24 0 2:=bH 0xc718fa09eeda6ec88e433a3f0c dX [] [] @fA
def DK: Lc 24 0 4:=bH 0xc64a037d28211b9f0b88cdc454 dX [] [] @iS
def DL: Lc 24 0 3:=bH 0xc635513f7d774e6cceefd5f4f2 dX [⟨0,[cs DK]⟩] [] @iT
def yH: (List Int×List Aac×List aD×List aP×Int)->((Int->Option R)×Unit)->Unit->Option R:=λ(a,b,c,d,f) (g,_) _=>cnd (f==0) (bnd (fI n<|aJ.mk (aM.mk b d a) c) λh=>g h)<|g f
def Gp:=eU yH
def DJ: Lc 24 0 2:=bH 0xabf5ee47308ab802c1c5ec7ede0d6057805726909008d4424 dX [] [] @yH
def yF: (aJ×bF×List Int×List Aac×List aD×List aP×Int)->((Bool->Option R)×Unit)->Unit->Option R:=λ(a,b,c,d,f,g,h) (i,_) _=>cnd (h==0) (cnd (b.Kind==3) (bnd (dJ n a.Plan (aM.mk d g c) 0) λj=>cnd j (i true)<|i false)<|cnd (b.Kind==6) (bnd (dJ n a.Plan (aM.mk d g c) 0) λl=>cnd l (i true)<|i false)<|i false)<|i false
def Gm:=eU yF
def DG: Lc 24 0 4:=bH 0xdc2ba1f5c8cce17394d36b6596f0a71c1f20d002ae807c648 dX [] [] @yF
def yG: (aJ×bF×List Int×List Aac×List aD×List aP×Int)->((Int->Option R)×Unit)->Unit->Option R:=λ(a,b,c,d,f,g,h) (i,_) _=>bnd (Gm n (a,b,c,d,f,g,h)) λj=>cnd j (i 12)<|i h
def Gn:=eU yG
def DH: Lc 24 0 3:=bH 0xaab4fc1b635c45e75de2189d95dd0acf4568cf91813fa41fa dX [⟨0,[cs DG]⟩] [] @yG
def DF: Lc 24 0 2:=bH 0x110a0df075464f3cf10e16cb dX [] [] @fA
def DD: Lc 24 0 4:=bH 0x2b952e32beb9e3d dX [] [] @iS
def DE: Lc 24 0 3:=bH 0x2b90a192eaf755b dX [⟨0,[cs DD]⟩] [] @iT
def nP: ((Nat×Nat)×List Int×List Aac×List aP×List aD×Int)->((Int->Option R)×Unit)->Unit->Option R:=λ(a,b,c,d,f,g) (h,_) _=>cnd (g==0) (bnd (fI n<|aJ.mk (aM.mk c (win d<|some a) b) f) λi=>h i)<|h g
def rY:=eU nP
def DC: Lc 24 0 2:=bH 0x46e698679f03985c057cfaf6bb07c83c dX [] [] @nP
def nM: (aJ×bF×(Nat×Nat)×List Int×List Aac×List aP×List aD×Int)->((Bool->Option R)×Unit)->Unit->Option R:=λ(a,b,c,d,f,g,h,i) (j,_) _=>cnd (i==0) (cnd (b.Kind==3) (bnd (dJ n a.Plan (aM.mk f (win g<|some c) d) 0) λl=>cnd l (j true)<|j false)<|cnd (b.Kind==6) (bnd (dJ n a.Plan (aM.mk f (win g<|some c) d) 0) λm=>cnd m (j true)<|j false)<|j false)<|j false
def Gl:=eU nM
def CZ: Lc 24 0 4:=bH 0x19dc0ababcc6e88ceb837 dX [] [] @nM
def nN: (aJ×bF×(Nat×Nat)×List Int×List Aac×List aP×List aD×Int)->((Int->Option R)×Unit)->Unit->Option R:=λ(a,b,c,d,f,g,h,i) (j,_) _=>bnd (Gl n (a,b,c,d,f,g,h,i)) λl=>cnd l (j 12)<|j i
def rW:=eU nN
def DB: Lc 24 0 3:=bH 0xf79578ae64def4ccece0 dX [⟨0,[cs CZ]⟩] [] @nN
def CY: Lc 24 0 2:=bH 0xf95be776ccb3ed03aa57 dX [] [] @nP
def CW: Lc 24 0 4:=bH 0x2369c2d13e3e2bdaac dX [] [] @nM
def CX: Lc 24 0 3:=bH 0x1530d39808c9607dd3 dX [⟨0,[cs CW]⟩] [] @nN
def yE: (List Int×List Aac×List aP×List aD×bF)->((Int->Option R)×(Unit->Option R)×Unit)->Unit->Option R:=λ(a,b,c,d,f) (g,h,_) _=>bnd (oB n a f.ID) λi=>cnd i (bnd (oB n a f.A) λj=>cnd j (g 8)<|h ())<|g 7
def Gk:=pc2 yE
def CV: Lc 63 0 0:=bH 0x5b190d8bd477731d63e3209aa77cd45cac9a5e2440131dbffe435024071faa9a27b0a91373f dX [] [] @yE
def yU: (List Int×List Int×List Aac×List aP×List aD×bF)->((Int->Option R)×((List Int×List aP×List aD×Int×Int)->Option R)×Unit)->Unit->Option R:=λ(a,b,c,d,f,g) (h,i,_) _=>bnd2 (Gk n (a,c,d,f,g)) (λj=>h j) λl=>bnd (some l) λ_=>bnd (sC n (a,b,c,d,f,g.ID,g.A)) λm=>i (m.1,m.2.1,m.2.2,g.ID,g.A)
def He:=FJ yU
def EM: Ic:=cE 63 0 2 0x234797074e69e7bba53b2f9af256b9e8db1fb5c03b37 dX [⟨0,[CV]⟩] [yW] @yU
def yS(n:Nat): (List Int×List Int×List Aac×List aP×List aD×Int×Int)->((Unit->Option R)×((List aD×(Nat×Nat))->Option R)×Unit)->Unit->Option R:=λ(a,b,c,d,f,g,h) (i,j,_) _=>bnd (Ky<|decide<|0<=g/\g<=h/\h<=(ln f)/\(ln f)<=(ln f)) λ_=>cnd (g==h) (i ())<|bnd (sub f (0,List.length f) 0 g) λl=>bnd (sub f (0,List.length f) h<|ln f) λm=>bnd (XZ f l<|win f<|some m) λo=>bnd (sub o (l.1,l.2+List.length (win f<|some m)) (((l.1,l.2+List.length (win f<|some m)).2:Nat):Int)<|ln f) λr=>bnd (clr o r<|aD.mk 0 0 0 (⟨#[]⟩:ByteArray) []) λs=>j (s,(l.1,l.2+List.length (win f<|some m)))
def Hb:=FJ yS
def EK: Ic:=cE 101 0 3 0x62c51a0336456e5537b3ca5cd2b44af84ff920355f4092fc8bb97f0 dX [] [] @yS
def yT: (List Int×List Int×List Aac×List aP×List aD×bF)->(((List aD×Int)->Option R)×(((Nat×Nat)×List aD)->Option R)×((List aD×Int×Int×Int×ByteArray×List Int×List aD)->Option R)×Unit)->Unit->Option R:=λ(a,b,c,d,f,g) (h,i,j,_) _=>bnd (zC n (aJ.mk (aM.mk c d a) f) g.ID) λl=>cnd l.2 (cnd (g.Kind==7) (h (f,8))<|cnd (g.Kind==8) (bnd2 (Hb n (a,b,c,d,f,l.1,(wr<|l.1+1))) (λ_=>h (f,0)) λm=>bnd (some m) λo=>i (o.2,o.1))<|cnd (g.Kind==9) (bnd (fU f (List.length f) l.1) λ_=>bnd (idx f l.1) λr=>h ((List.set f (Int.toNat l.1)<|aD.mk r.ID r.Kind r.Class g.Name r.Parts),0))<|cnd (g.Kind==10) (bnd (fU f (List.length f) l.1) λ_=>bnd (idx f l.1) λs=>h ((List.set f (Int.toNat l.1)<|aD.mk s.ID s.Kind g.B s.Name s.Parts),0))<|cnd (g.Kind==11) (bnd (gQ n g.Parts) λt=>bnd (fU f (List.length f) l.1) λ_=>bnd (idx f l.1) λu=>h ((List.set f (Int.toNat l.1)<|aD.mk u.ID u.Kind u.Class u.Name t),0))<|h (f,0))<|cnd (g.Kind==7) (bnd (gQ n g.Parts) λv=>bnd (prd n) λ_=>bnd (aFG f l.1<|aD.mk g.ID g.A g.B g.Name v) λw=>j (w,g.ID,g.A,g.B,g.Name,v,[(aD.mk g.ID g.A g.B g.Name v)]))<|h (f,7)
def Hc:=in3 yT
def EL: Ic:=cE 64 0 2 0x135ec299d7f63a94c0987e8d773e078b1d68263e3e8e7e46aad2d98411de4ec983340c464c306bb86e91356ddc4debf0 dX [] [EK] @yT
def yD: (List Int×(Nat×Nat)×List Aac×List aP×List aD×Int)->((Int->Option R)×Unit)->Unit->Option R:=λ(a,b,c,d,f,g) (h,_) _=>cnd (g==0) (bnd (fI n<|aJ.mk (aM.mk c d a)<|win f<|some b) λi=>h i)<|h g
def Gj:=eU yD
def CU: Lc 24 0 2:=bH 0x611637e726b4ea509416267dba9b9 dX [] [] @yD
def yB: (aJ×bF×List Int×(Nat×Nat)×List Aac×List aP×List aD×Int)->((Bool->Option R)×Unit)->Unit->Option R:=λ(a,b,c,d,f,g,h,i) (j,_) _=>cnd (i==0) (cnd (b.Kind==3) (bnd (dJ n a.Plan (aM.mk f g c) 0) λl=>cnd l (j true)<|j false)<|cnd (b.Kind==6) (bnd (dJ n a.Plan (aM.mk f g c) 0) λm=>cnd m (j true)<|j false)<|j false)<|j false
def Gh:=eU yB
def CS: Lc 24 0 4:=bH 0x759d8a82110a5751e2ef88bb49d556f1 dX [] [] @yB
def yC: (aJ×bF×List Int×(Nat×Nat)×List Aac×List aP×List aD×Int)->((Int->Option R)×Unit)->Unit->Option R:=λ(a,b,c,d,f,g,h,i) (j,_) _=>bnd (Gh n (a,b,c,d,f,g,h,i)) λl=>cnd l (j 12)<|j i
def Gi:=eU yC
def CT: Lc 24 0 3:=bH 0x465e48389ffef314417f0b29e1aa293a dX [⟨0,[cs CS]⟩] [] @yC
def Jo: Nat->aJ->bF->Option (aJ×Int)
 | 0,_,_=>none
 | n+1,a,b=>bnd (Lm n a) λc=>bnd (Lk n b.Kind) λd=>cnd d (bnd2 (tW n (c.2.2.2.2,c.1,c.2.1,c.2.2.1,c.2.2.2.1,b)) (λf=>bnd (cH n (c.2.2.2.2,f.1,c.2.2.1,c.2.2.2.1,f.2)) λg=>bnd (dZ n (a,b,c.2.2.2.2,f.1,c.2.2.1,c.2.2.2.1,g,b.ID)) λh=>cnd (h != 0) (some ((aJ.mk (aM.mk [] [] []) []),h))<|some ((aJ.mk (aM.mk f.1 c.2.2.1 c.2.2.2.2) c.2.2.2.1),0)) λi=>bnd2 (some i) (λj=>bnd (sA n (j.1,c.2.2.2.2,j.2,c.2.2.1,c.2.2.2.1,0)) λl=>bnd (rZ n (a,b,j.1,c.2.2.2.2,j.2,c.2.2.1,c.2.2.2.1,l,b.ID)) λm=>cnd (m != 0) (some ((aJ.mk (aM.mk [] [] []) []),m))<|some ((aJ.mk (aM.mk (win j.2<|some j.1) c.2.2.1 c.2.2.2.2) c.2.2.2.1),0)) λo=>bnd (some o) λr=>bnd (cH n (c.2.2.2.2,r.1,c.2.2.1,c.2.2.2.1,0)) λs=>bnd (dZ n (a,b,c.2.2.2.2,r.1,c.2.2.1,c.2.2.2.1,s,b.ID)) λt=>cnd (t != 0) (some ((aJ.mk (aM.mk [] [] []) []),t))<|some ((aJ.mk (aM.mk r.1 c.2.2.1 c.2.2.2.2) c.2.2.2.1),0))<|bnd (Gy n b.Kind) λu=>cnd u (bnd2 (Hj n (c.2.2.2.2,c.1,c.2.1,c.2.2.1,c.2.2.2.1,b)) (λv=>bnd (cH n (c.2.2.2.2,c.2.1,c.2.2.1,c.2.2.2.1,v)) λw=>bnd (dZ n (a,b,c.2.2.2.2,c.2.1,c.2.2.1,c.2.2.2.1,w,0)) λx=>cnd (x != 0) (some ((aJ.mk (aM.mk [] [] []) []),x))<|some ((aJ.mk (aM.mk c.2.1 c.2.2.1 c.2.2.2.2) c.2.2.2.1),0)) λy=>bnd2 (some y) (λz=>bnd (cH n (c.2.2.2.2,c.2.1,c.2.2.1,c.2.2.2.1,z.2.2)) λa0=>bnd (fK n (a,b,c.2.2.2.2,c.2.1,c.2.2.1,c.2.2.2.1,a0)) λb0=>cnd (b0 != 0) (some ((aJ.mk (aM.mk [] [] []) []),b0))<|some ((aJ.mk (aM.mk c.2.1 c.2.2.1 c.2.2.2.2) c.2.2.2.1),0)) λc0=>bnd2 (some c0) (λd0=>bnd (cH n (c.2.2.2.2,c.2.1,c.2.2.1,c.2.2.2.1,d0.2.2.2.2.2)) λf0=>bnd (fK n (a,b,c.2.2.2.2,c.2.1,c.2.2.1,c.2.2.2.1,f0)) λg0=>cnd (g0 != 0) (some ((aJ.mk (aM.mk [] [] []) []),g0))<|some ((aJ.mk (aM.mk c.2.1 c.2.2.1 c.2.2.2.2) c.2.2.2.1),0)) λh0=>bnd2 (some h0) (λi0=>bnd (Gp n (i0.1,c.2.1,i0.2.1,i0.2.2.1,0)) λj0=>bnd (Gn n (a,b,i0.1,c.2.1,i0.2.1,i0.2.2.1,j0)) λl0=>cnd (l0 != 0) (some ((aJ.mk (aM.mk [] [] []) []),l0))<|some ((aJ.mk (aM.mk c.2.1 i0.2.2.1 i0.1) i0.2.1),0)) λm0=>bnd2 (some m0) (λo0=>bnd (cH n (c.2.2.2.2,c.2.1,o0.1,c.2.2.2.1,o0.2)) λr0=>bnd (dZ n (a,b,c.2.2.2.2,c.2.1,o0.1,c.2.2.2.1,r0,0)) λs0=>cnd (s0 != 0) (some ((aJ.mk (aM.mk [] [] []) []),s0))<|some ((aJ.mk (aM.mk c.2.1 o0.1 c.2.2.2.2) c.2.2.2.1),0)) λt0=>bnd2 (some t0) (λu0=>bnd (cH n (u0.1,c.2.1,u0.2.1,u0.2.2.1,0)) λv0=>bnd (fK n (a,b,u0.1,c.2.1,u0.2.1,u0.2.2.1,v0)) λw0=>cnd (w0 != 0) (some ((aJ.mk (aM.mk [] [] []) []),w0))<|some ((aJ.mk (aM.mk c.2.1 u0.2.1 u0.1) u0.2.2.1),0)) λx0=>bnd2 (some x0) (λy0=>bnd (rY n (y0.1,y0.2.1,c.2.1,y0.2.2.1,y0.2.2.2.1,0)) λz0=>bnd (rW n (a,b,y0.1,y0.2.1,c.2.1,y0.2.2.1,y0.2.2.2.1,z0)) λa1=>cnd (a1 != 0) (some ((aJ.mk (aM.mk [] [] []) []),a1))<|some ((aJ.mk (aM.mk c.2.1 (win y0.2.2.1<|some y0.1) y0.2.1) y0.2.2.2.1),0)) λb1=>bnd (some b1) λc1=>bnd (rY n (c1.1,c.2.2.2.2,c.2.1,c1.2,c.2.2.2.1,0)) λd1=>bnd (rW n (a,b,c1.1,c.2.2.2.2,c.2.1,c1.2,c.2.2.2.1,d1)) λf1=>cnd (f1 != 0) (some ((aJ.mk (aM.mk [] [] []) []),f1))<|some ((aJ.mk (aM.mk c.2.1 (win c1.2<|some c1.1) c.2.2.2.2) c.2.2.2.1),0))<|cnd (b.Kind==12) (bnd2 (He n (c.2.2.2.2,c.1,c.2.1,c.2.2.1,c.2.2.2.1,b)) (λg1=>bnd (cH n (c.2.2.2.2,c.2.1,c.2.2.1,c.2.2.2.1,g1)) λh1=>bnd (dZ n (a,b,c.2.2.2.2,c.2.1,c.2.2.1,c.2.2.2.1,h1,0)) λi1=>cnd (i1 != 0) (some ((aJ.mk (aM.mk [] [] []) []),i1))<|some ((aJ.mk (aM.mk c.2.1 c.2.2.1 c.2.2.2.2) c.2.2.2.1),0)) λj1=>bnd (some j1) λl1=>bnd (cH n (l1.1,c.2.1,l1.2.1,l1.2.2.1,0)) λm1=>bnd (fK n (a,b,l1.1,c.2.1,l1.2.1,l1.2.2.1,m1)) λo1=>cnd (o1 != 0) (some ((aJ.mk (aM.mk [] [] []) []),o1))<|some ((aJ.mk (aM.mk c.2.1 l1.2.1 l1.1) l1.2.2.1),0))<|bnd2 (Hc n (c.2.2.2.2,c.1,c.2.1,c.2.2.1,c.2.2.2.1,b)) (λr1=>bnd (cH n (c.2.2.2.2,c.2.1,c.2.2.1,r1.1,r1.2)) λs1=>bnd (dZ n (a,b,c.2.2.2.2,c.2.1,c.2.2.1,r1.1,s1,0)) λt1=>cnd (t1 != 0) (some ((aJ.mk (aM.mk [] [] []) []),t1))<|some ((aJ.mk (aM.mk c.2.1 c.2.2.1 c.2.2.2.2) r1.1),0)) λu1=>bnd2 (some u1) (λv1=>bnd (Gj n (c.2.2.2.2,v1.1,c.2.1,c.2.2.1,v1.2,0)) λw1=>bnd (Gi n (a,b,c.2.2.2.2,v1.1,c.2.1,c.2.2.1,v1.2,w1)) λx1=>cnd (x1 != 0) (some ((aJ.mk (aM.mk [] [] []) []),x1))<|some ((aJ.mk (aM.mk c.2.1 c.2.2.1 c.2.2.2.2)<|win v1.2<|some v1.1),0)) λy1=>bnd (some y1) λz1=>bnd (cH n (c.2.2.2.2,c.2.1,c.2.2.1,z1.1,0)) λa2=>bnd (fK n (a,b,c.2.2.2.2,c.2.1,c.2.2.1,z1.1,a2)) λb2=>cnd (b2 != 0) (some ((aJ.mk (aM.mk [] [] []) []),b2))<|some ((aJ.mk (aM.mk c.2.1 c.2.2.1 c.2.2.2.2) z1.1),0)
end
end
section
variable {R:Type}(n:Nat)
noncomputable section
def G6: Kn:=bJ 24 0x2136ae413563cd5 dX [⟨0,[KL]⟩,⟨1,[DW]⟩,⟨2,[KJ,EC,DZ,DP,DM,DJ,DF,DC,CY,CU]⟩,⟨3,[KI,EB,DY,DO,DL,DH,DE,DB,CX,CT]⟩] [KQ,KP,EX,EM,EL] Jo
abbrev aMz:=G6::dX
def AD: (aJ×bF×Int)->((Int->Option R)×Unit)->Unit->Option R:=λ(a,b,c) (d,_) _=>bnd (Js n b) λf=>cnd (f==0) (cnd (c==0) (bnd (fI n a) λg=>d g)<|d f)<|d f
def SY:=eU AD
def R9: Lc 8 0 1:=bH 0xf99c87e79c9ac20d9f9f6383f1aaf1c156c4137f72e12a3f9eae672af82212ad39481 aMz [] [] @AD
def AC: (aJ×bF×Int)->(((aJ×Int)->Option R)×Unit)->Unit->Option R:=λ(a,b,c) (d,_) _=>cnd (c==0) (bnd (Jo n a b) λf=>d (f.1,f.2))<|d (a,c)
def SX:=eU AC
def R8: Lc 8 0 2:=bH 0xbc9ca7932f3265e5512bcd4dc8f901e6ee89842e8abd875f80edfa5d1cf8b5431562a0218b5 aMz [] [] @AC
def Dv: (List bF×Int)->((aJ×Int)->Option R)->(((bF×Int×Int)->Option R)×(aJ->Option R)×Unit)->(aJ×Int)->Option R:=λ(a,b) c (d,f,_) (g,h)=>cd (h<b) (bnd (idx a h) λi=>bnd (SY n (g,i,h)) λj=>bnd (SX n (g,i,j)) λl=>cnd (l.2 != 0) (d (i,h,l.2))<|c (l.1,(wr<|h+1)))<|f g
def aEi:=oG Dv
def S0: Lc 8 0 0:=bN 0xa96605771504cff60e7bda1defb2fe1a630c0fc109d6bb5f6aef1b5d0a03de4ab749fcf4a93ead aMz [⟨0,[cs R9]⟩,⟨1,[cs R8]⟩] [] @Dv
def zE: Nat->aJ->(List bF)->Option (aJ×Int×Int)
 | 0,_,_=>none
 | n+1,a,b=>cd ((ln b) > 4096) (some ((aJ.mk (aM.mk [] [] []) []),0,3))<|bnd (EY n a) λc=>bnd2 (aEi n (b,(ln b)) (c,0)) (λd=>some ((aJ.mk (aM.mk [] [] []) []),d.2.1,d.2.2)) λf=>bnd (some f) λg=>some (g,(ln b),0)
def aFT: Kn:=bJ 8 0x34a773b337323cc9d036 aMz [⟨0,[S0]⟩] [] zE
abbrev aW6:=aFT::aMz
def aRN: Kn:=aO0 37 10 19 ⟨_,_,_,rfl,by decide,by decide⟩ (λn p=>clF n p) (λp=>p) λn p r h=>by obtain⟨m,h1,h2,h3⟩:=aO3 h;subst h2;exact⟨m,h1,rfl,h3,rfl,λe=>by cases (e:_=[]);rfl⟩
abbrev aW5:=aRN::aW6
def aRL: Kn:=aO0 39 0 18 ⟨_,_,_,rfl,by decide,by decide⟩ (λn p=>clF n p) (λp=>p) λn p r h=>by obtain⟨m,h1,h2,h3⟩:=aO3 h;subst h2;exact⟨m,h1,rfl,h3,rfl,λe=>by cases (e:_=[]);rfl⟩
abbrev aOZ:=aRL::aW5
def wH(n:Nat): Unit->(Unit->Option R)->((Unit->Option R)×Unit)->Unit->Option R:=λ_ a (b,_) _=>b ()
def FN:=oI wH
def n9: Lc 18 0 0:=bN 0x48172d3b20d4241fc6d7a07375544578 aOZ [] [] @wH
def wG: (Int×Int×Int×ByteArray×Int)->((List bF×Int)->Option R)->(((List bF)->Option R)×Unit)->(List bF×Int)->Option R:=λ(a,b,c,d,f) g (h,_) (i,j)=>cd (j<f) (bnd (fU i (List.length i) j) λ_=>bnd (idx i j) λl=>bnd (clF n l.Via) λm=>bnd (fU i (List.length i) j) λ_=>bnd (idx i j) λo=>bnd (clF n l.Parts) λr=>bnd (fU (List.set i (Int.toNat j)<|bF.mk o.Kind o.ID o.A o.B o.C o.At m o.Name o.Parts) (List.length<|List.set i (Int.toNat j)<|bF.mk o.Kind o.ID o.A o.B o.C o.At m o.Name o.Parts) j) λ_=>bnd (idx (List.set i (Int.toNat j)<|bF.mk o.Kind o.ID o.A o.B o.C o.At m o.Name o.Parts) j) λs=>g ((List.set (List.set i (Int.toNat j)<|bF.mk o.Kind o.ID o.A o.B o.C o.At m o.Name o.Parts) (Int.toNat j)<|bF.mk s.Kind s.ID s.A s.B s.C s.At s.Via s.Name r),(wr<|j+1)))<|h i
def FM:=oI wG
def n8: Lc 18 0 0:=bN 0x8ac3122c5bf8ca3ce26b01143e5dc33fb9d3233ed2a201a6b6912744a255f709957613f9928778248f5fd7f5ca190a3e407aa aOZ [] [] @wG
def Rs: Nat->dH->Option dH
 | 0,_=>none
 | n+1,a=>bnd (prd n) λ_=>cnd (List.isEmpty a.Edits) (bnd (FN n () ()) λ_=>some<|dH.mk a.Office a.Seq a.Time a.Source [])<|bnd (app ([]:List bF) a.Edits) λb=>bnd (FM n (a.Office,a.Seq,a.Time,a.Source,(ln b)) (b,0)) λc=>some<|dH.mk a.Office a.Seq a.Time a.Source c
def aCA: Kn:=bJ 18 0x162b92478ca9 aOZ [⟨0,[n9,n8]⟩] [] Rs
abbrev aOY:=aCA::aOZ
def tN(n:Nat): (dH×List dH×List dH×Int)->((Int×Int)->Option R)->((dH->Option R)×(Int->Option R)×Unit)->(Int×Int)->Option R:=λ(a,b,c,d) f (g,h,_) (i,j)=>cd (j<d) (bnd (idx c j) λl=>cnd (l.Office != a.Office) (f (i,(wr<|j+1)))<|cnd (l.Seq==a.Seq) (g l)<|f ((nE i l.Seq),(wr<|j+1)))<|h i
def O0:=oG tN
def UG: Lc 6 0 0:=bN 0x1b35528088339e9026558f21ea93190c6a0cb0864fc27204f6dc5d3bfb01299a9bc4d8b805b6c17cd1efd3e06ac1b88b21e2d570789f6b07704816bef033f85732b3044ecb06fc aOY [] [] @tN
def tM: (List Aac×List aP×List Int×List aD×List dH×Int)->((List dH×Int)->Option R)->(((List dH)->Option R)×Unit)->(List dH×Int)->Option R:=λ(a,b,c,d,f,g) h (i,_) (j,l)=>cd (l<g) (bnd (idx f l) λm=>bnd (Rs n m) λo=>bnd (app j [o]) λr=>h (r,(wr<|l+1)))<|i j
def N9:=oI tM
def UF: Lc 6 0 1:=bN 0x5f6fcda4d8eee798760400f2e72eb3491be0a2a2879632ef947deefaedbb3e009a765e67cf4fbd1e73adb422ab37 aOY [] [] @tM
def fN: Nat->dA->dH->Option (dA×Int)
 | 0,_,_=>none
 | n+1,a,b=>bnd (MY n b) λc=>cnd (c != 0) (some ((dA.mk (aJ.mk (aM.mk [] [] []) []) []),c))<|cd ((ln a.Txns)>=256) (some ((dA.mk (aJ.mk (aM.mk [] [] []) []) []),3))<|bnd2 (O0 n (b,[],a.Txns,(ln a.Txns)) (0,0)) (λ_=>some ((dA.mk (aJ.mk (aM.mk [] [] []) []) []),8)) λd=>bnd (some d) λf=>cnd ((wr<|b.Seq-1) != f) (some ((dA.mk (aJ.mk (aM.mk [] [] []) []) []),10))<|bnd (zE n a.Survey b.Edits) λg=>cnd (g.2.2 != 0) (some ((dA.mk (aJ.mk (aM.mk [] [] []) []) []),g.2.2))<|bnd (N9 n (g.1.Plan.Nodes,g.1.Plan.Arcs,g.1.Plan.Faces,g.1.Features,a.Txns,(ln a.Txns)) ([],0)) λh=>bnd (Rs n b) λi=>bnd (app h [i]) λj=>some ((dA.mk g.1 j),0)
def aAL: Kn:=bJ 6 0x5091ff44d557de5765e9a7b1b4687d86 aOY [⟨0,[UG]⟩,⟨1,[UF]⟩] [] fN
abbrev aSf:=aAL::aOY
def gV(n:Nat): (List Aaa×List Aaa×Int)->(Int->Option R)->((Unit->Option R)×(Unit->Option R)×Unit)->Int->Option R:=λ(a,b,c) d (f,g,_) h=>cd (h<c) (bnd (idx a h) λi=>bnd (idx b h) λj=>cd (i=j) (d<|wr<|h+1)<|f ())<|g ()
def Mk:=oG gV
def Ev: Lc 69 0 0:=bN 0xb5d54b05c0ed92a2add83f2 aSf [] [] @gV
def fO: Nat->(List Aaa)->(List Aaa)->Option Bool
 | 0,_,_=>none
 | n+1,a,b=>cnd ((ln a) != (ln b)) (some false)<|bnd2 (Mk n (a,b,(ln a)) 0) (λ_=>some false) λc=>bnd (some c) λ_=>some true
def Ni: Kn:=bJ 69 0x2b84506e7 aSf [⟨0,[Ev]⟩] [] fO
abbrev aMy:=Ni::aSf
def zZ(n:Nat): (List Aac×Int)->((List Aab×Int)->Option R)->(((List Aab)->Option R)×Unit)->(List Aab×Int)->Option R:=λ(a,b) c (d,_) (f,g)=>cd (g<b) (bnd (idx a g) λh=>bnd (app f [(Aab.mk 1 h.ID)]) λi=>c (i,(wr<|g+1)))<|d f
def TP:=oI zZ
def FQ: Lc 29 0 0:=bN 0x4e28e949195b43fbff4b96cc44a18aa94b353707910 aMy [] [] @zZ
def zY(n:Nat): (List aP×Int)->((List Aab×Int)->Option R)->(((List Aab)->Option R)×Unit)->(List Aab×Int)->Option R:=λ(a,b) c (d,_) (f,g)=>cd (g<b) (bnd (idx a g) λh=>bnd (app f [(Aab.mk 2 h.ID)]) λi=>c (i,(wr<|g+1)))<|d f
def TO:=oI zY
def FP: Lc 29 0 1:=bN 0x3912ffd9d2e84607646f5d983ed970bff4459b1ca3bf7e aMy [] [] @zY
def zX(n:Nat): (List aD×Int)->((List Aab×Int)->Option R)->(((List Aab)->Option R)×Unit)->(List Aab×Int)->Option R:=λ(a,b) c (d,_) (f,g)=>cd (g<b) (bnd (idx a g) λh=>bnd (app f [(Aab.mk 3 h.ID)]) λi=>c (i,(wr<|g+1)))<|d f
def TN:=oI zX
def FO: Lc 29 0 2:=bN 0x1a2bb20027f1252375ad669f547eff85197735d72 aMy [] [] @zX
def FR: Nat->aJ->Option (List Aab)
 | 0,_=>none
 | n+1,a=>bnd (TP n (a.Plan.Nodes,(ln a.Plan.Nodes)) ([],0)) λb=>bnd (TO n (a.Plan.Arcs,(ln a.Plan.Arcs)) (b,0)) λc=>bnd (TN n (a.Features,(ln a.Features)) (c,0)) λd=>some d
def o3: Kn:=bJ 29 0xbd2685f4bdea983aa aMy [⟨0,[FQ]⟩,⟨1,[FP]⟩,⟨2,[FO]⟩] [] FR
abbrev aUC:=o3::aMy
def Mx: Nat->Aad->Aad->Option Int
 | 0,_,_=>none
 | n+1,a,b=>bnd (cJ n a.Kind b.Kind) λc=>bnd (cJ n a.ID b.ID) λd=>bnd (Ju n [c,d]) λf=>some f
def MO: Kn:=bJ 31 0x1b900521f9cb9bc795 aUC [] [] Mx
abbrev iE:=MO::aUC
def Ei(n:Nat): (List Aac×Int)->(((List<|Int×Aac)×Int)->Option R)->((((List<|Int×Aac))->Option R)×Unit)->((List<|Int×Aac)×Int)->Option R:=λ(a,b) c (d,_) (f,g)=>cd (g<b) (bnd (idx a g) λh=>c ((gU f h.ID h),(wr<|g+1)))<|d f
def o6:=oI Ei
def MT: Lc 26 0 0:=bN 0x13148ebbda2a058c1bb68ac622ec0a8a8967151f5051613 iE [] [] @Ei
def MR: Lc 68 0 0:=bH 0x890 iE [] [] @cO
def MQ: Lc 68 0 1:=bH 0x586fab3c10a6bb1cd587baeacb iE [] [] @cO
def El: ((List<|Aab×Aad)×Int×List Aac×List aP×List Int×List aD×List Aac×List aP×List Int×List aD×Int)->((((List<|Aab×Aad)×Int×Int×Int×Int)->Option R)×Unit)->Unit->Option R:=λ(a,b,c,d,f,g,h,i,j,l,m) (o,_) _=>bnd (cP n ()) λ_=>bnd (cP n ()) λ_=>o ((gU a (Aab.mk 1 m)<|Aad.mk ((Option.getD (bD a<|Aab.mk 1 m)<|Aad.mk 0 0 0 0).Kind) ((Option.getD (bD a<|Aab.mk 1 m)<|Aad.mk 0 0 0 0).ID) ((Option.getD (bD a<|Aab.mk 1 m)<|Aad.mk 0 0 0 0).Made)<|(Option.getD (bD a<|Aab.mk 1 m)<|Aad.mk 0 0 0 0).Changed),(Option.getD (bD a<|Aab.mk 1 m)<|Aad.mk 0 0 0 0).Kind,(Option.getD (bD a<|Aab.mk 1 m)<|Aad.mk 0 0 0 0).ID,(Option.getD (bD a<|Aab.mk 1 m)<|Aad.mk 0 0 0 0).Made,(Option.getD (bD a<|Aab.mk 1 m)<|Aad.mk 0 0 0 0).Changed)
def o9:=qD El
def MW: Ic:=cE 68 0 5 0xfefbad8d840b7363b82d iE [⟨0,[MR]⟩,⟨1,[MQ]⟩] [] @El
def MP: Lc 68 0 0:=bH 0x890 iE [] [] @cO
def jR(n:Nat): (Int×List Aac×List aP×List Int×List aD×List Aac×List aP×List Int×List aD×Int×Int×Int×Int)->((Unit->Option R)×Unit)->Unit->Option R:=λ(a,b,c,d,f,g,h,i,j,l,m,o,r) (s,_) _=>s ()
def tK:=eU jR
def GK: Lc 68 0 1:=bH 0x5e8d63d39de1480d09fe983c60eb93cf iE [] [] @jR
def Ek: ((List<|Aab×Aad)×Int×List Aac×List aP×List Int×List aD×List Aac×List aP×List Int×List aD×Int)->((((List<|Aab×Aad)×Int×Int×Int)->Option R)×Unit)->Unit->Option R:=λ(a,b,c,d,f,g,h,i,j,l,m) (o,_) _=>bnd (cP n ()) λ_=>bnd (tK n (b,c,d,f,g,h,i,j,l,(Option.getD (bD a<|Aab.mk 1 m)<|Aad.mk 0 0 0 0).Kind,(Option.getD (bD a<|Aab.mk 1 m)<|Aad.mk 0 0 0 0).ID,(Option.getD (bD a<|Aab.mk 1 m)<|Aad.mk 0 0 0 0).Made,(Option.getD (bD a<|Aab.mk 1 m)<|Aad.mk 0 0 0 0).Changed)) λ_=>o ((gU a (Aab.mk 1 m)<|Aad.mk ((Option.getD (bD a<|Aab.mk 1 m)<|Aad.mk 0 0 0 0).Kind) ((Option.getD (bD a<|Aab.mk 1 m)<|Aad.mk 0 0 0 0).ID) ((Option.getD (bD a<|Aab.mk 1 m)<|Aad.mk 0 0 0 0).Made) b),(Option.getD (bD a<|Aab.mk 1 m)<|Aad.mk 0 0 0 0).Kind,(Option.getD (bD a<|Aab.mk 1 m)<|Aad.mk 0 0 0 0).ID,(Option.getD (bD a<|Aab.mk 1 m)<|Aad.mk 0 0 0 0).Made)
def o8:=qD Ek
def MV: Ic:=cE 68 0 5 0xba1b6f67cf584842ad7aa1e iE [⟨0,[MP]⟩,⟨1,[GK]⟩] [] @Ek
def jQ(n:Nat): (Int×List Aac×List aP×List Int×List aD×List Aac×List aP×List Int×List aD×Int×Int×Int×Int×Int)->((Unit->Option R)×Unit)->Unit->Option R:=λ(a,b,c,d,f,g,h,i,j,l,m,o,r,s) (t,_) _=>t ()
def tJ:=eU jQ
def GJ: Lc 68 0 0:=bH 0x7fbc02190771ce53471b7ddaee840fdbbf50f64603f7439198d5 iE [] [] @jQ
def jP(n:Nat): (Int×List Aac×List aP×List Int×List aD×List Aac×List aP×List Int×List aD×Int×Int)->((Unit->Option R)×Unit)->Unit->Option R:=λ(a,b,c,d,f,g,h,i,j,l,m) (o,_) _=>o ()
def tI:=eU jP
def GI: Lc 68 0 1:=bH 0x450b0a1780dbba4004563f0337fe5ecea18 iE [] [] @jP
def Ao: ((List<|Aab×Aad)×Int×List Aac×List aP×List Int×List aD×List Aac×List aP×List Int×List aD×Int)->((((List<|Aab×Aad))->Option R)×Unit)->Unit->Option R:=λ(a,b,c,d,f,g,h,i,j,l,m) (o,_) _=>bnd (tJ n (b,c,d,f,g,h,i,j,l,(Option.getD (bD a<|Aab.mk 1 m)<|Aad.mk 0 0 0 0).Kind,(Option.getD (bD a<|Aab.mk 1 m)<|Aad.mk 0 0 0 0).ID,(Option.getD (bD a<|Aab.mk 1 m)<|Aad.mk 0 0 0 0).Made,(Option.getD (bD a<|Aab.mk 1 m)<|Aad.mk 0 0 0 0).Changed,m)) λ_=>bnd (tI n (b,c,d,f,g,h,i,j,l,m,b)) λ_=>o<|gU a (Aab.mk 1 m)<|Aad.mk 1 m b b
def Kk:=qD Ao
def GY: Ic:=cE 68 0 5 0x34ecb548b823a7d4e4163cc8764841a893b iE [⟨0,[GJ]⟩,⟨1,[GI]⟩] [] @Ao
def Eh: (Int×List Aac×List aP×List Int×List aD×List Aac×List aP×List Int×List aD×(List<|Int×Aac)×List Aac×Int)->(((List<|Aab×Aad)×Int)->Option R)->((((List<|Aab×Aad))->Option R)×Unit)->((List<|Aab×Aad)×Int)->Option R:=λ(a,b,c,d,f,g,h,i,j,l,m,o) r (s,_) (t,u)=>cd (u<o) (bnd (idx m u) λv=>cnd (Option.isSome<|bD l v.ID) (cd ((Aaa.mk ((Option.getD (bD l v.ID)<|Aac.mk 0<|Aaa.mk 0 0).At.X)<|(Option.getD (bD l v.ID)<|Aac.mk 0<|Aaa.mk 0 0).At.Y)=v.At) (bnd (o9 n (t,a,b,c,d,f,g,h,i,j,v.ID)) λw=>r (w.1,(wr<|u+1)))<|bnd (o8 n (t,a,b,c,d,f,g,h,i,j,v.ID)) λx=>r (x.1,(wr<|u+1)))<|cd ((Aaa.mk ((Option.getD (bD l v.ID)<|Aac.mk 0<|Aaa.mk 0 0).At.X)<|(Option.getD (bD l v.ID)<|Aac.mk 0<|Aaa.mk 0 0).At.Y)=v.At) (bnd (Kk n (t,a,b,c,d,f,g,h,i,j,v.ID)) λy=>r (y,(wr<|u+1)))<|bnd (Kk n (t,a,b,c,d,f,g,h,i,j,v.ID)) λz=>r (z,(wr<|u+1)))<|s t
def o5:=oI Eh
def MS: Lc 26 0 1:=bN 0xf19fe73cfa27f13424e99cc9908adb401a0a0ca4802c1bd1c218c422425adec371 iE [] [MW,MV,GY] @Eh
def Em: ((List<|Aab×Aad)×Int×List Aac×List aP×List Int×List aD×List Aac×List aP×List Int×List aD)->((((List<|Aab×Aad)×(List<|Int×Aac))->Option R)×Unit)->Unit->Option R:=λ(a,b,c,d,f,g,h,i,j,l) (m,_) _=>bnd (o6 n (c,(ln c)) ([],0)) λo=>bnd (o5 n (b,c,d,f,g,h,i,j,l,o,h,(ln h)) (a,0)) λr=>m (r,o)
def p8:=qD Em
def MX: Ic:=cE 26 0 1 0x9613802edf460c256b47ad3b1649c4f603a2756fb934793ce iE [⟨0,[MT]⟩,⟨1,[MS]⟩] [] @Em
def Af(n:Nat): (List aP×Int)->(((List<|Int×aP)×Int)->Option R)->((((List<|Int×aP))->Option R)×Unit)->((List<|Int×aP)×Int)->Option R:=λ(a,b) c (d,_) (f,g)=>cd (g<b) (bnd (idx a g) λh=>c ((gU f h.ID h),(wr<|g+1)))<|d f
def TZ:=oI Af
def GP: Lc 27 0 0:=bN 0x13148eaa47eb28f83fa80b2c0ddc16304912d18e11ba5b4 iE [] [] @Af
def GH: Lc 68 0 0:=bH 0x890 iE [] [] @cO
def GG: Lc 68 0 1:=bH 0x586fab3c10a6bb1cd587baeacb iE [] [] @cO
def Am: ((List<|Aab×Aad)×Int×List Aac×List aP×List Int×List aD×List Aac×List aP×List Int×List aD×Int)->((((List<|Aab×Aad)×Int×Int×Int×Int)->Option R)×Unit)->Unit->Option R:=λ(a,b,c,d,f,g,h,i,j,l,m) (o,_) _=>bnd (cP n ()) λ_=>bnd (cP n ()) λ_=>o ((gU a (Aab.mk 2 m)<|Aad.mk ((Option.getD (bD a<|Aab.mk 2 m)<|Aad.mk 0 0 0 0).Kind) ((Option.getD (bD a<|Aab.mk 2 m)<|Aad.mk 0 0 0 0).ID) ((Option.getD (bD a<|Aab.mk 2 m)<|Aad.mk 0 0 0 0).Made)<|(Option.getD (bD a<|Aab.mk 2 m)<|Aad.mk 0 0 0 0).Changed),(Option.getD (bD a<|Aab.mk 2 m)<|Aad.mk 0 0 0 0).Kind,(Option.getD (bD a<|Aab.mk 2 m)<|Aad.mk 0 0 0 0).ID,(Option.getD (bD a<|Aab.mk 2 m)<|Aad.mk 0 0 0 0).Made,(Option.getD (bD a<|Aab.mk 2 m)<|Aad.mk 0 0 0 0).Changed)
def UD:=qD Am
def GW: Ic:=cE 68 0 5 0xfefbad8e159f6ccb1e0d iE [⟨0,[GH]⟩,⟨1,[GG]⟩] [] @Am
def GF: Lc 68 0 0:=bH 0x890 iE [] [] @cO
def GE: Lc 68 0 1:=bH 0x5e8d63d39de1480d09fe983c60eb93cf iE [] [] @jR
def Al: ((List<|Aab×Aad)×Int×List Aac×List aP×List Int×List aD×List Aac×List aP×List Int×List aD×Int)->((((List<|Aab×Aad)×Int×Int×Int)->Option R)×Unit)->Unit->Option R:=λ(a,b,c,d,f,g,h,i,j,l,m) (o,_) _=>bnd (cP n ()) λ_=>bnd (tK n (b,c,d,f,g,h,i,j,l,(Option.getD (bD a<|Aab.mk 2 m)<|Aad.mk 0 0 0 0).Kind,(Option.getD (bD a<|Aab.mk 2 m)<|Aad.mk 0 0 0 0).ID,(Option.getD (bD a<|Aab.mk 2 m)<|Aad.mk 0 0 0 0).Made,(Option.getD (bD a<|Aab.mk 2 m)<|Aad.mk 0 0 0 0).Changed)) λ_=>o ((gU a (Aab.mk 2 m)<|Aad.mk ((Option.getD (bD a<|Aab.mk 2 m)<|Aad.mk 0 0 0 0).Kind) ((Option.getD (bD a<|Aab.mk 2 m)<|Aad.mk 0 0 0 0).ID) ((Option.getD (bD a<|Aab.mk 2 m)<|Aad.mk 0 0 0 0).Made) b),(Option.getD (bD a<|Aab.mk 2 m)<|Aad.mk 0 0 0 0).Kind,(Option.getD (bD a<|Aab.mk 2 m)<|Aad.mk 0 0 0 0).ID,(Option.getD (bD a<|Aab.mk 2 m)<|Aad.mk 0 0 0 0).Made)
def tL:=qD Al
def GV: Ic:=cE 68 0 5 0xba1b6f67cf61618243f0ffe iE [⟨0,[GF]⟩,⟨1,[GE]⟩] [] @Al
def GD: Lc 68 0 0:=bH 0x7fbc02190771ce53471bfecb11e53e84e0fdd0a068ce80386b42 iE [] [] @jQ
def GC: Lc 68 0 1:=bH 0x450b0a178ff8a20b7c12fe7262f792d3688 iE [] [] @jP
def Ak: ((List<|Aab×Aad)×Int×List Aac×List aP×List Int×List aD×List Aac×List aP×List Int×List aD×Int)->((((List<|Aab×Aad))->Option R)×Unit)->Unit->Option R:=λ(a,b,c,d,f,g,h,i,j,l,m) (o,_) _=>bnd (tJ n (b,c,d,f,g,h,i,j,l,(Option.getD (bD a<|Aab.mk 2 m)<|Aad.mk 0 0 0 0).Kind,(Option.getD (bD a<|Aab.mk 2 m)<|Aad.mk 0 0 0 0).ID,(Option.getD (bD a<|Aab.mk 2 m)<|Aad.mk 0 0 0 0).Made,(Option.getD (bD a<|Aab.mk 2 m)<|Aad.mk 0 0 0 0).Changed,m)) λ_=>bnd (tI n (b,c,d,f,g,h,i,j,l,m,b)) λ_=>o<|gU a (Aab.mk 2 m)<|Aad.mk 2 m b b
def mS:=qD Ak
def GU: Ic:=cE 68 0 5 0x34ecb548d6600db3840af01339e3ef2df1d iE [⟨0,[GD]⟩,⟨1,[GC]⟩] [] @Ak
def Ae: (Int×List Aac×List aP×List Int×List aD×List Aac×List aP×List Int×List aD×(List<|Int×aP)×List aP×Int)->(((List<|Aab×Aad)×Int)->Option R)->((((List<|Aab×Aad))->Option R)×Unit)->((List<|Aab×Aad)×Int)->Option R:=λ(a,b,c,d,f,g,h,i,j,l,m,o) r (s,_) (t,u)=>cd (u<o) (bnd (idx m u) λv=>cnd (Option.isSome<|bD l v.ID) (cnd (v.From==(Option.getD (bD l v.ID)<|aP.mk 0 0 0 [] 0 0).From) (cnd (v.To==(Option.getD (bD l v.ID)<|aP.mk 0 0 0 [] 0 0).To) (bnd (fO n v.Via<|(Option.getD (bD l v.ID)<|aP.mk 0 0 0 [] 0 0).Via) λw=>cnd w (bnd (UD n (t,a,b,c,d,f,g,h,i,j,v.ID)) λx=>r (x.1,(wr<|u+1)))<|bnd (tL n (t,a,b,c,d,f,g,h,i,j,v.ID)) λy=>r (y.1,(wr<|u+1)))<|bnd (tL n (t,a,b,c,d,f,g,h,i,j,v.ID)) λz=>r (z.1,(wr<|u+1)))<|bnd (tL n (t,a,b,c,d,f,g,h,i,j,v.ID)) λa0=>r (a0.1,(wr<|u+1)))<|cnd (v.From==(Option.getD (bD l v.ID)<|aP.mk 0 0 0 [] 0 0).From) (cnd (v.To==(Option.getD (bD l v.ID)<|aP.mk 0 0 0 [] 0 0).To) (bnd (fO n v.Via<|(Option.getD (bD l v.ID)<|aP.mk 0 0 0 [] 0 0).Via) λb0=>cnd b0 (bnd (mS n (t,a,b,c,d,f,g,h,i,j,v.ID)) λc0=>r (c0,(wr<|u+1)))<|bnd (mS n (t,a,b,c,d,f,g,h,i,j,v.ID)) λd0=>r (d0,(wr<|u+1)))<|bnd (mS n (t,a,b,c,d,f,g,h,i,j,v.ID)) λf0=>r (f0,(wr<|u+1)))<|bnd (mS n (t,a,b,c,d,f,g,h,i,j,v.ID)) λg0=>r (g0,(wr<|u+1)))<|s t
def TY:=oI Ae
def GO: Lc 27 0 1:=bN 0xf19fe73cfa27f134255b638df726511977c78933fdd7ab3862d4ca8f0502181b2c iE [] [GW,GV,GU] @Ae
def An: ((List<|Aab×Aad)×Int×List Aac×List aP×List Int×List aD×List Aac×List aP×List Int×List aD)->((((List<|Aab×Aad)×(List<|Int×aP))->Option R)×Unit)->Unit->Option R:=λ(a,b,c,d,f,g,h,i,j,l) (m,_) _=>bnd (TZ n (d,(ln d)) ([],0)) λo=>bnd (TY n (b,c,d,f,g,h,i,j,l,o,i,(ln i)) (a,0)) λr=>m (r,o)
def UE:=qD An
def GX: Ic:=cE 27 0 1 0x9613802f117aa12be8dbfddb7d9b97258888b8a43a9ad2d95 iE [⟨0,[GP]⟩,⟨1,[GO]⟩] [] @An
def Ad(n:Nat): (List aD×Int)->(((List<|Int×aD)×Int)->Option R)->((((List<|Int×aD))->Option R)×Unit)->((List<|Int×aD)×Int)->Option R:=λ(a,b) c (d,_) (f,g)=>cd (g<b) (bnd (idx a g) λh=>c ((gU f h.ID h),(wr<|g+1)))<|d f
def TX:=oI Ad
def GN: Lc 28 0 0:=bN 0x13148ebbda659b34ff338c36095a157309208b31740741f iE [] [] @Ad
def Aa: (aD×Int×Int×Int×ByteArray×List Int)->((Bool->Option R)×Unit)->Unit->Option R:=λ(a,b,c,d,f,g) (h,_) _=>cnd (a.Kind==c) (cnd (a.Class==d) (cd (a.Name=f) (bnd (eM n a.Parts g) λi=>cnd i (h true)<|h false)<|h false)<|h false)<|h false
def Ki:=eU Aa
def GB: Lc 28 0 2:=bH 0x57e8d15572a07a380e4fbb220ce360ffad46dcf8a4be204a7d7715741895ff3e8ddef9fefb7831ff969d iE [] [] @Aa
def GA: Lc 68 0 0:=bH 0x890 iE [] [] @cO
def FZ: Lc 68 0 1:=bH 0x586fab3c10a6bb1cd587baeacb iE [] [] @cO
def Ai: ((List<|Aab×Aad)×Int×List Aac×List aP×List Int×List aD×List Aac×List aP×List Int×List aD×Int)->((((List<|Aab×Aad)×Int×Int×Int×Int)->Option R)×Unit)->Unit->Option R:=λ(a,b,c,d,f,g,h,i,j,l,m) (o,_) _=>bnd (cP n ()) λ_=>bnd (cP n ()) λ_=>o ((gU a (Aab.mk 3 m)<|Aad.mk ((Option.getD (bD a<|Aab.mk 3 m)<|Aad.mk 0 0 0 0).Kind) ((Option.getD (bD a<|Aab.mk 3 m)<|Aad.mk 0 0 0 0).ID) ((Option.getD (bD a<|Aab.mk 3 m)<|Aad.mk 0 0 0 0).Made)<|(Option.getD (bD a<|Aab.mk 3 m)<|Aad.mk 0 0 0 0).Changed),(Option.getD (bD a<|Aab.mk 3 m)<|Aad.mk 0 0 0 0).Kind,(Option.getD (bD a<|Aab.mk 3 m)<|Aad.mk 0 0 0 0).ID,(Option.getD (bD a<|Aab.mk 3 m)<|Aad.mk 0 0 0 0).Made,(Option.getD (bD a<|Aab.mk 3 m)<|Aad.mk 0 0 0 0).Changed)
def UB:=qD Ai
def GS: Ic:=cE 68 0 5 0xfefbad8b3dbb8dc620ad iE [⟨0,[GA]⟩,⟨1,[FZ]⟩] [] @Ai
def FY: Lc 68 0 0:=bH 0x890 iE [] [] @cO
def FX: Lc 68 0 1:=bH 0x5e8d63d39de1480d09fe983c60eb93cf iE [] [] @jR
def Ah: ((List<|Aab×Aad)×Int×List Aac×List aP×List Int×List aD×List Aac×List aP×List Int×List aD×Int)->((((List<|Aab×Aad)×Int×Int×Int)->Option R)×Unit)->Unit->Option R:=λ(a,b,c,d,f,g,h,i,j,l,m) (o,_) _=>bnd (cP n ()) λ_=>bnd (tK n (b,c,d,f,g,h,i,j,l,(Option.getD (bD a<|Aab.mk 3 m)<|Aad.mk 0 0 0 0).Kind,(Option.getD (bD a<|Aab.mk 3 m)<|Aad.mk 0 0 0 0).ID,(Option.getD (bD a<|Aab.mk 3 m)<|Aad.mk 0 0 0 0).Made,(Option.getD (bD a<|Aab.mk 3 m)<|Aad.mk 0 0 0 0).Changed)) λ_=>o ((gU a (Aab.mk 3 m)<|Aad.mk ((Option.getD (bD a<|Aab.mk 3 m)<|Aad.mk 0 0 0 0).Kind) ((Option.getD (bD a<|Aab.mk 3 m)<|Aad.mk 0 0 0 0).ID) ((Option.getD (bD a<|Aab.mk 3 m)<|Aad.mk 0 0 0 0).Made) b),(Option.getD (bD a<|Aab.mk 3 m)<|Aad.mk 0 0 0 0).Kind,(Option.getD (bD a<|Aab.mk 3 m)<|Aad.mk 0 0 0 0).ID,(Option.getD (bD a<|Aab.mk 3 m)<|Aad.mk 0 0 0 0).Made)
def UA:=qD Ah
def GR: Ic:=cE 68 0 5 0xba1b6f67cf33e34453a129e iE [⟨0,[FY]⟩,⟨1,[FX]⟩] [] @Ah
def FW: Lc 68 0 0:=bH 0x7fbc02190771ce534701ce03e227c42a09e2ae890703e00395e0 iE [] [] @jQ
def FV: Lc 68 0 1:=bH 0x450b0a147e198cb729bc1bdda85901dafc8 iE [] [] @jP
def Ag: ((List<|Aab×Aad)×Int×List Aac×List aP×List Int×List aD×List Aac×List aP×List Int×List aD×Int)->((((List<|Aab×Aad))->Option R)×Unit)->Unit->Option R:=λ(a,b,c,d,f,g,h,i,j,l,m) (o,_) _=>bnd (tJ n (b,c,d,f,g,h,i,j,l,(Option.getD (bD a<|Aab.mk 3 m)<|Aad.mk 0 0 0 0).Kind,(Option.getD (bD a<|Aab.mk 3 m)<|Aad.mk 0 0 0 0).ID,(Option.getD (bD a<|Aab.mk 3 m)<|Aad.mk 0 0 0 0).Made,(Option.getD (bD a<|Aab.mk 3 m)<|Aad.mk 0 0 0 0).Changed,m)) λ_=>bnd (tI n (b,c,d,f,g,h,i,j,l,m,b)) λ_=>o<|gU a (Aab.mk 3 m)<|Aad.mk 3 m b b
def Kj:=qD Ag
def GQ: Ic:=cE 68 0 5 0x34ecb5483f32105a64436f9d67d98b931b3 iE [⟨0,[FW]⟩,⟨1,[FV]⟩] [] @Ag
def Ac: (Int×List Aac×List aP×List Int×List aD×List Aac×List aP×List Int×List aD×(List<|Int×aD)×List aD×Int)->(((List<|Aab×Aad)×Int)->Option R)->((((List<|Aab×Aad))->Option R)×Unit)->((List<|Aab×Aad)×Int)->Option R:=λ(a,b,c,d,f,g,h,i,j,l,m,o) r (s,_) (t,u)=>cd (u<o) (bnd (idx m u) λv=>cnd (Option.isSome<|bD l v.ID) (bnd (Ki n (v,(Option.getD (bD l v.ID)<|aD.mk 0 0 0 (⟨#[]⟩:ByteArray) []).ID,(Option.getD (bD l v.ID)<|aD.mk 0 0 0 (⟨#[]⟩:ByteArray) []).Kind,(Option.getD (bD l v.ID)<|aD.mk 0 0 0 (⟨#[]⟩:ByteArray) []).Class,(Option.getD (bD l v.ID)<|aD.mk 0 0 0 (⟨#[]⟩:ByteArray) []).Name,(Option.getD (bD l v.ID)<|aD.mk 0 0 0 (⟨#[]⟩:ByteArray) []).Parts)) λw=>cnd w (bnd (UB n (t,a,b,c,d,f,g,h,i,j,v.ID)) λx=>r (x.1,(wr<|u+1)))<|bnd (UA n (t,a,b,c,d,f,g,h,i,j,v.ID)) λy=>r (y.1,(wr<|u+1)))<|bnd (Ki n (v,(Option.getD (bD l v.ID)<|aD.mk 0 0 0 (⟨#[]⟩:ByteArray) []).ID,(Option.getD (bD l v.ID)<|aD.mk 0 0 0 (⟨#[]⟩:ByteArray) []).Kind,(Option.getD (bD l v.ID)<|aD.mk 0 0 0 (⟨#[]⟩:ByteArray) []).Class,(Option.getD (bD l v.ID)<|aD.mk 0 0 0 (⟨#[]⟩:ByteArray) []).Name,(Option.getD (bD l v.ID)<|aD.mk 0 0 0 (⟨#[]⟩:ByteArray) []).Parts)) λz=>cnd z (bnd (Kj n (t,a,b,c,d,f,g,h,i,j,v.ID)) λa0=>r (a0,(wr<|u+1)))<|bnd (Kj n (t,a,b,c,d,f,g,h,i,j,v.ID)) λb0=>r (b0,(wr<|u+1)))<|s t
def TW:=oI Ac
def GM: Lc 28 0 1:=bN 0xb070b3eb16eb8ab203d1a9a991ad33ae70b99c356becb04e9dc5138a9a01657c1f209 iE [⟨0,[cs GB]⟩] [GS,GR,GQ] @Ac
def Aj: ((List<|Aab×Aad)×Int×List Aac×List aP×List Int×List aD×List Aac×List aP×List Int×List aD)->((((List<|Aab×Aad)×(List<|Int×aD))->Option R)×Unit)->Unit->Option R:=λ(a,b,c,d,f,g,h,i,j,l) (m,_) _=>bnd (TX n (g,(ln g)) ([],0)) λo=>bnd (TW n (b,c,d,f,g,h,i,j,l,o,l,(ln l)) (a,0)) λr=>m (r,o)
def UC:=qD Aj
def GT: Ic:=cE 28 0 1 0x96134dc683befd11fbf6cb56a5779a52166e707ed4b2208c0 iE [⟨0,[GN]⟩,⟨1,[GM]⟩] [] @Aj
def Ej: (List Aad×List dH×Int)->(((List<|Aab×Aad)×Int×List Aac×List aP×List Int×List aD×List Aac×List aP×List Int×List aD×List Aac×List aP×List Int×List aD×List dH×Int)->Option R)->((((List<|Aab×Aad)×Int×List Aac×List aP×List Int×List aD×List Aac×List aP×List Int×List aD×List Aac×List aP×List Int×List aD×List dH×dH×dA)->Option R)×(((List<|Aab×Aad)×Int×List Aac×List aP×List Int×List aD×List Aac×List aP×List Int×List aD×List Aac×List aP×List Int×List aD×List dH)->Option R)×Unit)->((List<|Aab×Aad)×Int×List Aac×List aP×List Int×List aD×List Aac×List aP×List Int×List aD×List Aac×List aP×List Int×List aD×List dH×Int)->Option R:=λ(a,b,c) d (f,g,_) (h,i,j,l,m,o,r,s,t,u,v,w,x,y,z,a0)=>cd (a0<c) (bnd (idx b a0) λb0=>bnd (fN n (dA.mk (aJ.mk (aM.mk v w x) y) z) b0) λc0=>cnd (c0.2 != 0) (f (h,i,j,l,m,o,r,s,t,u,v,w,x,y,z,b0,c0.1))<|bnd (Ky<|Nat.ble 4 n) λ_=>bnd (p8 n (h,(wr<|a0+1),v,w,x,y,c0.1.Survey.Plan.Nodes,c0.1.Survey.Plan.Arcs,c0.1.Survey.Plan.Faces,c0.1.Survey.Features)) λd0=>bnd (UE n (d0.1,(wr<|a0+1),v,w,x,y,c0.1.Survey.Plan.Nodes,c0.1.Survey.Plan.Arcs,c0.1.Survey.Plan.Faces,c0.1.Survey.Features)) λf0=>bnd (UC n (f0.1,(wr<|a0+1),v,w,x,y,c0.1.Survey.Plan.Nodes,c0.1.Survey.Plan.Arcs,c0.1.Survey.Plan.Faces,c0.1.Survey.Features)) λg0=>d (g0.1,(wr<|a0+1),v,w,x,y,c0.1.Survey.Plan.Nodes,c0.1.Survey.Plan.Arcs,c0.1.Survey.Plan.Faces,c0.1.Survey.Features,c0.1.Survey.Plan.Nodes,c0.1.Survey.Plan.Arcs,c0.1.Survey.Plan.Faces,c0.1.Survey.Features,c0.1.Txns,(wr<|a0+1)))<|g (h,i,j,l,m,o,r,s,t,u,v,w,x,y,z)
def o7:=oG Ej
def MU: Lc 10 0 0:=bN 0x1389a68136b4819c4aa05e2fd3ea87c821ec299965e3fe69e5d7ba94c41f65eaa27f9dcee57a7f8bff06e1beabd2bd4ad64c9381e3bdf057a2aba2c5c173fa9aa469a0e7cdc26874caf8055ddc71845f27441 iE [] [MX,GX,GT] @Ej
def Ab(n:Nat): ((List<|Aab×Aad)×Int×List Aac×List aP×List Int×List aD×List Aac×List aP×List Int×List aD×List Aab×Int)->((List Aad×Int)->Option R)->(((List Aad)->Option R)×Unit)->(List Aad×Int)->Option R:=λ(a,b,c,d,f,g,h,i,j,l,m,o) r (s,_) (t,u)=>cd (u<o) (bnd (idx m u) λv=>bnd (app t [(Aad.mk ((Option.getD (bD a v)<|Aad.mk 0 0 0 0).Kind) ((Option.getD (bD a v)<|Aad.mk 0 0 0 0).ID) ((Option.getD (bD a v)<|Aad.mk 0 0 0 0).Made)<|(Option.getD (bD a v)<|Aad.mk 0 0 0 0).Changed)]) λw=>r (w,(wr<|u+1)))<|s t
def TU:=oI Ab
def GL: Lc 10 0 2:=bN 0x175979f7b5afc375f89f5db13030236581bc7a7ee04a3cefc3534972679ced469f8facd904ebaa14c5c17ef8530cc iE [] [] @Ab
def RS: Nat->dA->Option (List Aad)
 | 0,_=>none
 | n+1,a=>bnd2 (o7 n ([],a.Txns,(ln a.Txns)) ([],0,[],[],[],[],[],[],[],[],[],[],[],[],[],0)) (λ_=>some []) λb=>bnd (some b) λc=>bnd (FR n<|aJ.mk (aM.mk c.2.2.2.2.2.2.2.2.2.2.1 c.2.2.2.2.2.2.2.2.2.2.2.1 c.2.2.2.2.2.2.2.2.2.2.2.2.1) c.2.2.2.2.2.2.2.2.2.2.2.2.2.1) λd=>bnd (TU n (c.1,c.2.1,c.2.2.1,c.2.2.2.1,c.2.2.2.2.1,c.2.2.2.2.2.1,c.2.2.2.2.2.2.1,c.2.2.2.2.2.2.2.1,c.2.2.2.2.2.2.2.2.1,c.2.2.2.2.2.2.2.2.2.1,d,(ln d)) ([],0)) λf=>bnd (prd n) λg=>bnd (Ky<|decide<|List.length f<=1000000) λ_=>bnd (oN (λ(h i:Aad)=>bnd (Mx g h i) λj=>some j) f) λl=>some l
def N8: Kn:=bJ 10 0x64dc4e586c98fc56cd26957 iE [⟨0,[MU]⟩,⟨2,[GL]⟩] [] RS
abbrev aSe:=N8::iE
def tH: (List dH×Int)->((List Aac×List aP×List Int×List aD×List dH×Int)->Option R)->(((dH×Int×Int)->Option R)×((List Aac×List aP×List Int×List aD×List dH)->Option R)×Unit)->(List Aac×List aP×List Int×List aD×List dH×Int)->Option R:=λ(a,b) c (d,f,_) (g,h,i,j,l,m)=>cd (m<b) (bnd (idx a m) λo=>bnd (fN n (dA.mk (aJ.mk (aM.mk g h i) j) l) o) λr=>cnd (r.2 != 0) (d (o,m,r.2))<|c (r.1.Survey.Plan.Nodes,r.1.Survey.Plan.Arcs,r.1.Survey.Plan.Faces,r.1.Survey.Features,r.1.Txns,(wr<|m+1)))<|f (g,h,i,j,l)
def N7:=oG tH
def TQ: Lc 15 0 0:=bN 0x51f8af1f0b75f809d0a8ac6f35672a5effd4e4b2421c99b063b944f49f4678d5e61cba1be8986c343475 aSe [] [] @tH
def Id: Nat->(List dH)->Option (dA×Int×Int)
 | 0,_=>none
 | n+1,a=>bnd2 (N7 n (a,(ln a)) ([],[],[],[],[],0)) (λb=>some ((dA.mk (aJ.mk (aM.mk [] [] []) []) []),b.2.1,b.2.2)) λc=>bnd (some c) λd=>some ((dA.mk (aJ.mk (aM.mk d.1 d.2.1 d.2.2.1) d.2.2.2.1) d.2.2.2.2),(ln a),0)
def aAK: Kn:=bJ 15 0x481b556b30fa99926 aSe [⟨0,[TQ]⟩] [] Id
abbrev aSd:=aAK::aSe
def RT(n:Nat): (dA×Int)->((Bool->Option R)×Unit)->Unit->Option R:=λ(a,b) (c,_) _=>cd (b<0) (c true)<|cd (b > (ln a.Txns)) (c true)<|c false
def aIk:=eU RT
def aCD: Lc 13 0 0:=bH 0x3908f9c8b242e229d4099b7690ccd11f7bad69d15e98ed aSd [] [] @RT
def aJF: Nat->dA->Int->Option (aJ×Int)
 | 0,_,_=>none
 | n+1,a,b=>bnd (aIk n (a,b)) λc=>cnd c (some ((aJ.mk (aM.mk [] [] []) []),2))<|bnd (cut a.Txns 0 b) λd=>bnd (Id n d) λf=>some (f.1.Survey,f.2.2)
end
end
section
variable {R:Type}(n:Nat)
noncomputable section
def aJE: Kn:=bJ 13 0x2136ae4d81930a3 aSd [⟨0,[aCD]⟩] [] aJF
abbrev aSc:=aJE::aSd
def tD(n:Nat): (List Aad×List Aad)->(Int->Option R)->((Unit->Option R)×(Unit->Option R)×Unit)->Int->Option R:=λ(a,b) c (d,f,_) g=>cd (g<(ln a)) (bnd (idx a g) λh=>bnd (idx b g) λi=>cd (h=i) (c<|wr<|g+1)<|d ())<|f ()
def FG:=oG tD
def Rn: Lc 14 0 0:=bN 0x1faa9f7df08b194502 aSc [] [] @tD
def Me: Nat->(List Aad)->(List Aad)->Option Bool
 | 0,_,_=>none
 | n+1,a,b=>cnd ((ln a) != (ln b)) (some false)<|bnd2 (FG n (a,b) 0) (λ_=>some false) λc=>bnd (some c) λ_=>some true
def LX: Kn:=bJ 14 0x1730ed509b84ab0 aSc [⟨0,[Rn]⟩] [] Me
abbrev aSb:=LX::aSc
def kB(n:Nat): (List Aaa×List Aaa)->(Int->Option R)->((Unit->Option R)×(Unit->Option R)×Unit)->Int->Option R:=λ(a,b) c (d,f,_) g=>cd (g<(ln a)) (bnd (idx a g) λh=>bnd (idx b g) λi=>cd (h=i) (c<|wr<|g+1)<|d ())<|f ()
def Mg:=oG kB
def MA: Lc 78 0 0:=bN 0x3b64495e378a aSb [] [] @kB
def Kd: Nat->(List Aaa)->(List Aaa)->Option Bool
 | 0,_,_=>none
 | n+1,a,b=>cnd ((ln a) != (ln b)) (some false)<|bnd2 (Mg n (a,b) 0) (λ_=>some false) λc=>bnd (some c) λ_=>some true
def L7: Kn:=bJ 78 0x2b84506e7 aSb [⟨0,[MA]⟩] [] Kd
abbrev aSa:=L7::aSb
def Hu: (aP×aP)->((Bool->Option R)×Unit)->Unit->Option R:=λ(a,b) (c,_) _=>cnd (a.ID==b.ID) (cnd (a.From==b.From) (cnd (a.To==b.To) (cnd (a.Left==b.Left) (cnd (a.Right==b.Right) (bnd (Kd n a.Via b.Via) λd=>cnd d (c true)<|c false)<|c false)<|c false)<|c false)<|c false)<|c false
def L8:=eU Hu
def RN: Lc 40 0 0:=bH 0x2d5bd5221e26 aSa [] [] @Hu
def Dg: Nat->aP->aP->Option Bool
 | 0,_,_=>none
 | n+1,a,b=>bnd (L8 n (a,b)) λc=>cnd c (some true)<|some false
def T6: Kn:=bJ 40 0x3fceb8600 aSa [⟨0,[RN]⟩] [] Dg
abbrev aJz:=T6::aSa
def AN(n:Nat): (aM×aM)->((Bool->Option R)×Unit)->Unit->Option R:=λ(a,b) (c,_) _=>cnd ((ln a.Nodes) != (ln b.Nodes)) (c true)<|cnd ((ln a.Arcs) != (ln b.Arcs)) (c true)<|cnd ((ln a.Faces) != (ln b.Faces)) (c true)<|c false
def TJ:=eU AN
def T2: Lc 19 0 0:=bH 0xdaf6a8215688ba5a3eec48a aJz [] [] @AN
def Ea(n:Nat): (aM×aM)->(Int->Option R)->((Unit->Option R)×(Unit->Option R)×Unit)->Int->Option R:=λ(a,b) c (d,f,_) g=>cd (g<(ln a.Nodes)) (bnd (idx a.Nodes g) λh=>bnd (idx b.Nodes g) λi=>cd (h=i) (c<|wr<|g+1)<|d ())<|f ()
def aEH:=oG Ea
def T5: Lc 19 0 1:=bN 0x3de02b74ca1d0b050a74680eafe23 aJz [] [] @Ea
def Dz: (aM×aM)->(Int->Option R)->((Unit->Option R)×(Unit->Option R)×Unit)->Int->Option R:=λ(a,b) c (d,f,_) g=>cd (g<(ln a.Arcs)) (bnd (idx a.Arcs g) λh=>bnd (idx b.Arcs g) λi=>bnd (Dg n h i) λj=>cnd j (c<|wr<|g+1)<|d ())<|f ()
def aEG:=oG Dz
def T4: Lc 19 0 2:=bN 0x27c2d3e3ffdc5074a4bac06d0c4bde78 aJz [] [] @Dz
def Dy(n:Nat): (aM×aM)->(Int->Option R)->((Unit->Option R)×(Unit->Option R)×Unit)->Int->Option R:=λ(a,b) c (d,f,_) g=>cd (g<(ln a.Faces)) (bnd (idx a.Faces g) λh=>bnd (idx b.Faces g) λi=>cnd (h != i) (d ())<|c<|wr<|g+1)<|f ()
def aEF:=oG Dy
def T3: Lc 19 0 3:=bN 0x3677c5b047d89f72d088f0eedb6dd aJz [] [] @Dy
def L9: Nat->aM->aM->Option Bool
 | 0,_,_=>none
 | n+1,a,b=>bnd (TJ n (a,b)) λc=>cnd c (some false)<|bnd2 (aEH n (a,b) 0) (λ_=>some false) λd=>bnd (some d) λ_=>bnd2 (aEG n (a,b) 0) (λ_=>some false) λf=>bnd (some f) λ_=>bnd2 (aEF n (a,b) 0) (λ_=>some false) λg=>bnd (some g) λ_=>some true
def aGm: Kn:=bJ 19 0x2b7dd1cd4 aJz [⟨0,[T2]⟩,⟨1,[T5]⟩,⟨2,[T4]⟩,⟨3,[T3]⟩] [] L9
abbrev aRZ:=aGm::aJz
def kA(n:Nat): (List Int×List Int)->(Int->Option R)->((Unit->Option R)×(Unit->Option R)×Unit)->Int->Option R:=λ(a,b) c (d,f,_) g=>cd (g<(ln a)) (bnd (idx a g) λh=>bnd (idx b g) λi=>cnd (h != i) (d ())<|c<|wr<|g+1)<|f ()
def Mf:=oG kA
def LY: Lc 41 0 0:=bN 0x3b6396ad4bda aRZ [] [] @kA
def Kc: Nat->(List Int)->(List Int)->Option Bool
 | 0,_,_=>none
 | n+1,a,b=>cnd ((ln a) != (ln b)) (some false)<|bnd2 (Mf n (a,b) 0) (λ_=>some false) λc=>bnd (some c) λ_=>some true
def L6: Kn:=bJ 41 0x2b856003d aRZ [⟨0,[LY]⟩] [] Kc
abbrev aRY:=L6::aRZ
def tE: (aD×aD)->((Bool->Option R)×Unit)->Unit->Option R:=λ(a,b) (c,_) _=>cnd (a.ID==b.ID) (cnd (a.Kind==b.Kind) (cnd (a.Class==b.Class) (cd (a.Name=b.Name) (bnd (Kc n a.Parts b.Parts) λd=>cnd d (c true)<|c false)<|c false)<|c false)<|c false)<|c false
def FH:=eU tE
def Ro: Lc 20 0 0:=bH 0x2d59450b27c6 aRY [] [] @tE
def mW: Nat->aD->aD->Option Bool
 | 0,_,_=>none
 | n+1,a,b=>bnd (FH n (a,b)) λc=>cnd c (some true)<|some false
def LZ: Kn:=bJ 20 0x2e9601bcf1b8 aRY [⟨0,[Ro]⟩] [] mW
abbrev aOX:=LZ::aRY
def AM: (aJ×aJ)->((Bool->Option R)×Unit)->Unit->Option R:=λ(a,b) (c,_) _=>bnd (L9 n a.Plan b.Plan) λd=>cnd d (cnd ((ln a.Features) != (ln b.Features)) (c true)<|c false)<|c true
def TI:=eU AM
def S9: Lc 7 0 0:=bH 0x9fe47d65d7f89a55091e43626c aOX [] [] @AM
def Dx: (aJ×aJ)->(Int->Option R)->((Unit->Option R)×(Unit->Option R)×Unit)->Int->Option R:=λ(a,b) c (d,f,_) g=>cd (g<(ln a.Features)) (bnd (idx a.Features g) λh=>bnd (idx b.Features g) λi=>bnd (mW n h i) λj=>cnd j (c<|wr<|g+1)<|d ())<|f ()
def aEE:=oG Dx
def T1: Lc 7 0 1:=bN 0xdd3361977102ea628b3fada389 aOX [] [] @Dx
def pY: Nat->aJ->aJ->Option Bool
 | 0,_,_=>none
 | n+1,a,b=>bnd (TI n (a,b)) λc=>cnd c (some false)<|bnd2 (aEE n (a,b) 0) (λ_=>some false) λd=>bnd (some d) λ_=>some true
def aGl: Kn:=bJ 7 0x2b7dd4242 aOX [⟨0,[S9]⟩,⟨1,[T1]⟩] [] pY
abbrev aRX:=aGl::aOX
def pE: (aP×aP)->((Bool->Option R)×Unit)->Unit->Option R:=λ(a,b) (c,_) _=>cnd (a.ID==b.ID) (cnd (a.From==b.From) (cnd (a.To==b.To) (cnd (a.Left==b.Left) (cnd (a.Right==b.Right) (bnd (fO n a.Via b.Via) λd=>cnd d (c true)<|c false)<|c false)<|c false)<|c false)<|c false)<|c false
def tR:=eU pE
def IH: Lc 74 0 0:=bH 0x2d5bd5221e26 aRX [] [] @pE
def aBj: Nat->aP->aP->Option Bool
 | 0,_,_=>none
 | n+1,a,b=>bnd (tR n (a,b)) λc=>cnd c (some true)<|some false
def w6: Kn:=bJ 74 0x3fceb8600 aRX [⟨0,[IH]⟩] [] aBj
abbrev aRW:=w6::aRX
def iJ(n:Nat): (List Aac×List Aac×Int)->(Int->Option R)->((Unit->Option R)×(Unit->Option R)×Unit)->Int->Option R:=λ(a,b,c) d (f,g,_) h=>cd (h<c) (bnd (idx a h) λi=>bnd (idx b h) λj=>cd (i=j) (d<|wr<|h+1)<|f ())<|g ()
def Nj:=oG iJ
def Ik: Lc 75 0 0:=bN 0xf9028b2e42d1f36cdce6 aRW [] [] @iJ
def oO: Nat->(List Aac)->(List Aac)->Option Bool
 | 0,_,_=>none
 | n+1,a,b=>cnd ((ln a) != (ln b)) (some false)<|bnd2 (Nj n (a,b,(ln a)) 0) (λ_=>some false) λc=>bnd (some c) λ_=>some true
def Sr: Kn:=bJ 75 0x1730e2698f021e8 aRW [⟨0,[Ik]⟩] [] oO
abbrev aJy:=Sr::aRW
def w7: Lc 74 0 0:=bH 0x559526c7de833e30f57c20678a94f aJy [] [] @pE
def Oe: (aP×aP)->((Bool->Option R)×Unit)->Unit->Option R:=λ(a,b) (c,_) _=>bnd (tR n (a,b)) λd=>cnd d (c true)<|c false
def II:=qD Oe
def w9: Ic:=cE 74 0 2 0xd9a0681307ee4355b9c80ac aJy [⟨0,[w7]⟩] [] @Oe
def xB: (List aP×List aP×Int)->(Int->Option R)->(((aP×aP×aP×aP)->Option R)×(Unit->Option R)×Unit)->Int->Option R:=λ(a,b,c) d (f,g,_) h=>cd (h<c) (bnd (idx b h) λi=>bnd (idx a h) λj=>bnd (II n (i,j)) λl=>cnd l (d<|wr<|h+1)<|f (i,j,i,j))<|g ()
def aBk:=oG xB
def w8: Lc 76 0 0:=bN 0x19f8dfe1af980c4421b23179764920db93e3d93a09241e2 aJy [] [w9] @xB
def Of: (List aP×List aP)->((Bool->Option R)×((aP×aP×aP×aP)->Option R)×Unit)->Unit->Option R:=λ(a,b) (c,d,_) _=>cnd ((ln a) != (ln b)) (c false)<|bnd2 (aBk n (b,a,(ln a)) 0) (λf=>d (f.1,f.2.1,f.2.2.1,f.2.2.2)) λg=>bnd (some g) λ_=>c true
def IJ:=FJ Of
def x7: Ic:=cE 76 0 3 0x607be4449c78462ce13cf8c66e5cd578b5ab130ae84f2af93 aJy [⟨0,[w8]⟩] [] @Of
def OP: Nat->aM->aM->Option Bool
 | 0,_,_=>none
 | n+1,a,b=>bnd (oO n a.Nodes b.Nodes) λc=>cnd c (bnd2 (IJ n (a.Arcs,b.Arcs)) (λd=>cnd d (bnd (eM n a.Faces b.Faces) λf=>cnd f (some true)<|some false)<|some false) λg=>bnd (some g) λ_=>some false)<|some false
def aDi: Kn:=bJ 33 0x2b7dd1cd4 aJy [] [x7] OP
abbrev aRV:=aDi::aJy
def kU: (aD×aD)->((Bool->Option R)×Unit)->Unit->Option R:=λ(a,b) (c,_) _=>cnd (a.ID==b.ID) (cnd (a.Kind==b.Kind) (cnd (a.Class==b.Class) (cd (a.Name=b.Name) (bnd (eM n a.Parts b.Parts) λd=>cnd d (c true)<|c false)<|c false)<|c false)<|c false)<|c false
def nJ:=eU kU
def Pu: Lc 35 0 0:=bH 0x2d59450b27c6 aRV [] [] @kU
def VI: Nat->aD->aD->Option Bool
 | 0,_,_=>none
 | n+1,a,b=>bnd (nJ n (a,b)) λc=>cnd c (some true)<|some false
def JP: Kn:=bJ 35 0x2e9601bcf1b8 aRV [⟨0,[Pu]⟩] [] VI
abbrev aJx:=JP::aRV
def JQ: Lc 35 0 0:=bH 0x559526c7de833e2f17a5b39df417f aJx [] [] @kU
def Bf: (aD×aD)->((Bool->Option R)×Unit)->Unit->Option R:=λ(a,b) (c,_) _=>bnd (nJ n (a,b)) λd=>cnd d (c true)<|c false
def Lb:=qD Bf
def JS: Ic:=cE 35 0 2 0xd9a0681306106ce8f0318dc aJx [⟨0,[JQ]⟩] [] @Bf
def pL: (List aD×List aD×Int)->(Int->Option R)->(((aD×aD×aD×aD)->Option R)×(Unit->Option R)×Unit)->Int->Option R:=λ(a,b,c) d (f,g,_) h=>cd (h<c) (bnd (idx b h) λi=>bnd (idx a h) λj=>bnd (Lb n (i,j)) λl=>cnd l (d<|wr<|h+1)<|f (i,j,i,j))<|g ()
def VJ:=oG pL
def JR: Lc 34 0 0:=bN 0x12f72bfbdd2486424b5e60b2dba5b76003a6afe3fefbfde412 aJx [] [JS] @pL
def Bg: (List aD×List aD)->((Bool->Option R)×((aD×aD×aD×aD)->Option R)×Unit)->Unit->Option R:=λ(a,b) (c,d,_) _=>cnd ((ln a) != (ln b)) (c false)<|bnd2 (VJ n (b,a,(ln a)) 0) (λf=>d (f.1,f.2.1,f.2.2.1,f.2.2.2)) λg=>bnd (some g) λ_=>c true
def Ld:=FJ Bg
def JT: Ic:=cE 34 0 3 0x607be4449c2f3301917213ec1422337c2a338b7354d5a314a aJx [⟨0,[JR]⟩] [] @Bg
def Jm: Nat->aJ->aJ->Option Bool
 | 0,_,_=>none
 | n+1,a,b=>bnd (OP n a.Plan b.Plan) λc=>cnd c (bnd2 (Ld n (a.Features,b.Features)) (λd=>cnd d (some true)<|some false) λf=>bnd (some f) λ_=>some false)<|some false
def E7: Kn:=bJ 16 0x2b7dd4242 aJx [] [JT] Jm
abbrev aRU:=E7::aJx
def Mw: (dA×dA×Int)->((Bool->Option R)×Unit)->Unit->Option R:=λ(a,b,c) (d,_) _=>cnd (c==0) (bnd (Jm n b.Survey a.Survey) λf=>cnd f (d true)<|d false)<|d false
def FU:=eU Mw
def o4: Lc 5 0 0:=bH 0x3e783406981b4c8ab7683abe3306eb81 aRU [] [] @Mw
def jA: Nat->dA->Option Bool
 | 0,_=>none
 | n+1,a=>bnd (Id n a.Txns) λb=>bnd (FU n (a,b.1,b.2.2)) λc=>cnd c (some true)<|some false
def aCB: Kn:=bJ 5 0x354a24794 aRU [⟨0,[o4]⟩] [] jA
abbrev aRT:=aCB::aRU
def Rg: (dA×dA×aJ×Int×Int×Int×Int×List Aad×Int)->((Bool->Option R)×Unit)->Unit->Option R:=λ(a,b,c,d,f,g,h,i,j) (l,_) _=>cnd (d==0) (cnd ((ln a.Survey.Plan.Nodes)==1) (cnd ((ln a.Txns)==1) (cnd (f==10) (cnd (g==8) (cnd (h==0) (bnd (Me n i [(Aad.mk 1 1 1 2)]) λm=>cnd m (cnd (j==0) (bnd (pY n c a.Survey) λo=>cnd o (bnd (jA n b) λr=>cnd r (bnd (jA n<|dA.mk b.Survey []) λs=>cnd s (l false)<|l true)<|l false)<|l false)<|l false)<|l false)<|l false)<|l false)<|l false)<|l false)<|l false)<|l false
def aCq:=eU Rg
def K5: Lc 4 0 0:=bH 0x1d6ecc977c70017e73cc107d6071b4b6ffd20c941c66c21d00263b41b9aaf968cbc8a50af6a9829d23f0430012 aRT [] [] @Rg
def fL: Nat->Option Bool
 | 0=>none
 | n+1=>bnd (Sl n) λa=>bnd (fN n (dA.mk (aJ.mk (aM.mk [] [] []) []) []) a) λb=>bnd (Sl n) λc=>bnd (fN n b.1<|dH.mk c.Office 3 c.Time c.Source c.Edits) λd=>bnd (Sl n) λf=>bnd (fN n b.1 f) λg=>bnd (fN n b.1<|dH.mk c.Office 2 c.Time c.Source [(bF.mk 3 1 0 0 0 (Aaa.mk 4 0) [] (⟨#[]⟩:ByteArray) [])]) λh=>bnd (RS n h.1) λi=>bnd (aJF n h.1 1) λj=>bnd (aCq n (b.1,h.1,j.1,b.2,d.2,g.2,h.2,i,j.2)) λl=>cnd l (some true)<|some false
def aE7: Kn:=bJ 4 0x173f5a873ee1 aRT [⟨0,[K5]⟩] [] fL
abbrev aRS:=aE7::aRT
def a8: Lc 66 0 0:=bN 0x3b64495e378a aRS [] [] @kB
def FF: Nat->(List Aaa)->(List Aaa)->Option Bool
 | 0,_,_=>none
 | n+1,a,b=>cnd ((ln a) != (ln b)) (some false)<|bnd2 (Mg n (a,b) 0) (λ_=>some false) λc=>bnd (some c) λ_=>some true
def aCv: Kn:=bJ 66 0x2b84506e7 aRS [⟨0,[a8]⟩] [] FF
abbrev aRR:=aCv::aRS
def T8: Lc 67 0 0:=bN 0x3b6396ad4bda aRR [] [] @kA
def M0: Nat->(List Int)->(List Int)->Option Bool
 | 0,_,_=>none
 | n+1,a,b=>cnd ((ln a) != (ln b)) (some false)<|bnd2 (Mf n (a,b) 0) (λ_=>some false) λc=>bnd (some c) λ_=>some true
def aGn: Kn:=bJ 67 0x2b856003d aRR [⟨0,[T8]⟩] [] M0
abbrev aRQ:=aGn::aRR
def Df: (bF×bF)->((Bool->Option R)×Unit)->Unit->Option R:=λ(a,b) (c,_) _=>cnd (a.Kind==b.Kind) (cnd (a.ID==b.ID) (cnd (a.A==b.A) (cnd (a.B==b.B) (cnd (a.C==b.C) (cd (a.At=b.At) (bnd (FF n a.Via b.Via) λd=>cnd d (cd (a.Name=b.Name) (bnd (M0 n a.Parts b.Parts) λf=>cnd f (c true)<|c false)<|c false)<|c false)<|c false)<|c false)<|c false)<|c false)<|c false)<|c false
def a7:=eU Df
def LW: Lc 25 0 0:=bH 0x2d58aae3a076 aRQ [] [] @Df
def vW: Nat->bF->bF->Option Bool
 | 0,_,_=>none
 | n+1,a,b=>bnd (a7 n (a,b)) λc=>cnd c (some true)<|some false
def L4: Kn:=bJ 25 0x1730de84c165c7c aRQ [⟨0,[LW]⟩] [] vW
abbrev aOW:=L4::aRQ
def Ht(n:Nat): (dH×dH)->((Bool->Option R)×Unit)->Unit->Option R:=λ(a,b) (c,_) _=>cnd (a.Office != b.Office) (c true)<|cnd (a.Seq != b.Seq) (c true)<|cnd (a.Time != b.Time) (c true)<|cd (a.Source=b.Source) (cnd ((ln a.Edits) != (ln b.Edits)) (c true)<|c false)<|c true
def Rm:=eU Ht
def RL: Lc 9 0 0:=bH 0x9fe47d65d83b0b13bf8d6f4fb8 aOW [] [] @Ht
def sF: (dH×dH)->(Int->Option R)->((Unit->Option R)×(Unit->Option R)×Unit)->Int->Option R:=λ(a,b) c (d,f,_) g=>cd (g<(ln a.Edits)) (bnd (idx a.Edits g) λh=>bnd (idx b.Edits g) λi=>bnd (vW n h i) λj=>cnd j (c<|wr<|g+1)<|d ())<|f ()
def L5:=oG sF
def RM: Lc 9 0 1:=bN 0xdd336197710385aea1cdfe8c29 aOW [] [] @sF
def tC: Nat->dH->dH->Option Bool
 | 0,_,_=>none
 | n+1,a,b=>bnd (Rm n (a,b)) λc=>cnd c (some false)<|bnd2 (L5 n (a,b) 0) (λ_=>some false) λd=>bnd (some d) λ_=>some true
def S8: Kn:=bJ 9 0x1fc23300fcd8 aOW [⟨0,[RL]⟩,⟨1,[RM]⟩] [] tC
abbrev aMx:=S8::aOW
def Dc: (dA×dA)->((Bool->Option R)×Unit)->Unit->Option R:=λ(a,b) (c,_) _=>bnd (fL n) λd=>cnd d (cnd ((ln b.Txns)==0) (bnd (pY n b.Survey<|aJ.mk (aM.mk [] [] []) []) λf=>cnd f (bnd (jA n a) λg=>cnd g (cd (true=true) (c true)<|c false)<|cd (false=true) (c true)<|c false)<|c false)<|c false)<|c false
def Md:=eU Dc
def LT: Lc 0 0 0:=bH 0x2d9f1a5b9b28b3b9fffe5e22a2e03e76d13 aMx [] [] @Dc
def Db: (dA×dH×dA×aJ×Int)->((Bool->Option R)×Unit)->Unit->Option R:=λ(a,b,c,d,f) (g,_) _=>bnd (fL n) λh=>cnd h (cnd (f==0) (bnd (pY n d c.Survey) λi=>cnd i (cnd ((ln c.Txns)==(wr<|(ln a.Txns)+1)) (bnd (idx c.Txns<|ln a.Txns) λj=>bnd (tC n j b) λl=>cnd l (bnd (jA n c) λm=>cnd m (g true)<|g false)<|g false)<|g false)<|g false)<|g false)<|g false
def Mc:=eU Db
def LS: Lc 0 0 1:=bH 0x3acaccd24535c3ba95858143a8f809a18bc07aa42c3d21fc681a88185beba aMx [] [] @Db
def Da: (dA×dA)->((Bool->Option R)×Unit)->Unit->Option R:=λ(a,b) (c,_) _=>bnd (fL n) λd=>cnd d (cnd ((ln b.Txns)==0) (bnd (pY n b.Survey<|aJ.mk (aM.mk [] [] []) []) λf=>cnd f (bnd (jA n a) λg=>cnd g (cd (true=false) (c true)<|c false)<|cd (false=false) (c true)<|c false)<|c false)<|c false)<|c false
def Mb:=eU Da
def LR: Lc 0 0 0:=bH 0x2d9f1a5b9b28b3b92818759441b9f00aeda aMx [] [] @Da
def Cz: (dA×dH×dA×aJ×Int)->((Bool->Option R)×Unit)->Unit->Option R:=λ(a,b,c,d,f) (g,_) _=>bnd (fL n) λh=>cnd h (cnd (f==0) (bnd (pY n d c.Survey) λi=>cnd i (cnd ((ln c.Txns)==(wr<|(ln a.Txns)+1)) (bnd (idx c.Txns<|ln a.Txns) λj=>bnd (tC n j b) λl=>cnd l (g true)<|g false)<|g false)<|g false)<|g false)<|g false
def Ma:=eU Cz
def LQ: Lc 0 0 1:=bH 0x3acaccd24535c3ba95857fc5382b52b54df1b96cb201d7ffbc175af1c3aa3 aMx [] [] @Cz
def vU: Nat->dA->dH->Option Bool
 | 0,_,_=>none
 | n+1,a,b=>bnd (RI n a) λc=>cnd c (bnd (Sk n [b]) λd=>cnd d (bnd (jA n a) λf=>cnd f (bnd (fN n a b) λg=>cnd (g.2 != 0) (bnd (Md n (a,g.1)) λh=>cnd h (some true)<|some false)<|bnd (zE n a.Survey b.Edits) λi=>bnd (Mc n (a,b,g.1,i.1,i.2.2)) λj=>cnd j (some true)<|some false)<|bnd (fN n a b) λl=>cnd (l.2 != 0) (bnd (Mb n (a,l.1)) λm=>cnd m (some true)<|some false)<|bnd (zE n a.Survey b.Edits) λo=>bnd (Ma n (a,b,l.1,o.1,o.2.2)) λr=>cnd r (some true)<|some false)<|bnd (fL n) λs=>cnd s (some true)<|some false)<|bnd (fL n) λt=>cnd t (some true)<|some false
def Rh: Kn:=bJ 0 0x1223e4f7286aba7a6b599 aMx [⟨0,[LT,LR]⟩,⟨1,[LS,LQ]⟩] [] vU
end
end
end Go.Proofs.YtglfoebmkbglgaaGreatDoor.Av
