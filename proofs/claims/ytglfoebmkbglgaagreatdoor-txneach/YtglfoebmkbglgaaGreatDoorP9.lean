/- A part of the proof of a law on transactions. -/
import Derived.Test.YtglfoebmkbglgaaGreatDoorP8
import Derived.Test.YtglfoebmkbglgaaGreatDoorP7
set_option maxRecDepth 100000
set_option maxHeartbeats 4000000
set_option linter.all false
namespace Go.Proofs.YtglfoebmkbglgaaGreatDoor.Av
open Go
section
variable {R:Type}(n:Nat)
noncomputable section
abbrev C72:=UT::C71
def Ea: Nat->aN->Int->Option Int
 | 0,_,_=>none
 | n+1,a,b=>bnd (Id n a b) λc=>cnd c.2 (cd (b > 0) (some c.1.Left)<|some c.1.Right)<|some 0
def aCD: Kn:=bJ 136 0x329a6e C72 [] [] Ea
abbrev C73:=aCD::C72
def fS: Nat->dR->Option (List<|List Int)
 | 0,_=>none
 | n+1,a=>bnd (app [a.outer] a.inner) λb=>some b
def Nu: Kn:=bJ 137 0x49a680494ed89f7c869cb85436 C73 [] [] fS
abbrev C74:=Nu::C73
def Bb(n:Nat): ((List<|Int×Bool)×Int)->((Bool->Option R)×Unit)->Unit->Option R:=λ(a,b) (c,_) _=>cnd (b==0) (c true)<|cnd ((Option.getD (bD a b) false)) (c true)<|c false
def UQ:=eV Bb
def HR: Lc 112 0 1:=bH 0xe1c072165d89aec8b23e8c5397bb9e98549d7c130e2f5e645df5d72cc1a2f5e00ac390cd885 C74 [] [] @Bb
def oZ: (aN×List Int×Int×List Int×Int)->(Int->Option R)->((Unit->Option R)×(Unit->Option R)×Unit)->Int->Option R:=λ(a,b,c,d,f) g (h,i,_) j=>cd (j<f) (bnd (idx d j) λl=>bnd (Ea n a l) λm=>cnd (m != c) (h ())<|g<|wr<|j+1)<|i ()
def UR:=oA oZ
def HS: Lc 112 0 3:=bL 0x25254ad7584363445345155307133a4d21580b2d26bd505aacf0641cea5a221a4f4390b2a139d152cb961c995fa34d1a50bde C74 [] [] @oZ
def pA: (aN×List Int×Int×(List<|List Int)×Int)->(Int->Option R)->((Unit->Option R)×(Unit->Option R)×Unit)->Int->Option R:=λ(a,b,c,d,f) g (h,i,_) j=>cd (j<f) (bnd (idx d j) λl=>bnd2 (UR n (a,b,c,l,(ln l)) 0) (λ_=>h ()) λm=>bnd (some m) λ_=>g<|wr<|j+1)<|i ()
def Kt:=oA pA
def HT: Lc 112 0 2:=bL 0x1ba2909eebdf55a987978a2c02a7dd45dbb3cf1cdc1d2bffce4bc2f08e5298213edb018a508a0fefbe01d7cd33 C74 [⟨0,[cs HS]⟩] [] @pA
def pB: (aN×List dR×Int)->((List Int×(List<|Int×Bool)×Int)->Option R)->(((List Int×(List<|Int×Bool)×dR)->Option R)×((List Int×(List<|Int×Bool))->Option R)×Unit)->(List Int×(List<|Int×Bool)×Int)->Option R:=λ(a,b,c) d (f,g,_) (h,i,j)=>cd (j<c) (bnd (idx b j) λl=>cd (j > 0) (bnd (idx l.outer 0) λm=>bnd (Ea n a m) λo=>bnd (UQ n (i,o)) λr=>cnd r (f (h,i,l))<|bnd (fS n l) λs=>bnd2 (Kt n (a,h,o,s,(ln s)) 0) (λ_=>f (h,(eI i o true),l)) λt=>bnd (some t) λ_=>bnd (app h [o]) λu=>d (u,(eI i o true),(wr<|j+1)))<|bnd (fS n l) λv=>bnd2 (Kt n (a,h,0,v,(ln v)) 0) (λ_=>f (h,i,l)) λw=>bnd (some w) λ_=>bnd (app h [0]) λx=>d (x,i,(wr<|j+1)))<|g (h,i)
def US:=oA pB
def HU: Lc 112 0 0:=bL 0x101af0eb832ca9ba506ca4e42272710b5d3625b09ffbf4682543837339d878b75edbb9056b3987951ec766a87cb2f827ffdfab739149a5bc645883bff7 C74 [⟨0,[cs HR]⟩,⟨1,[cs HT]⟩] [] @pB
def Jd: Nat->aN->(List dR)->Option (List Int×Bool)
 | 0,_,_=>none
 | n+1,a,b=>bnd2 (US n (a,b,(ln b)) ([],[],0)) (λ_=>some ([],false)) λc=>bnd (some c) λd=>cnd ((ln d.2)==(ln a.Faces)) (some (d.1,true))<|some (d.1,false)
def v6: Kn:=bJ 112 0x82d24e309cad4d0ab197c62332169 C74 [⟨0,[HU]⟩] [] Jd
abbrev C75:=v6::C74
def Ba: Nat->aN->Option (List dR×List Int×(List<|Int×List Aaa)×Int)
 | 0,_=>none
 | n+1,a=>bnd (Ah n a) λb=>cnd (b.2 != 0) (some ([],[],[],b.2))<|bnd (oY n a) λc=>bnd (jD n a b.1 c) λd=>bnd (Jd n a d) λf=>cnd f.2 (some (d,f.1,c,0))<|some ([],[],[],12)
def P1: Kn:=bJ 84 0xed2a23ca5f409da0c C75 [] [] Ba
abbrev C76:=P1::C75
def Jf: Nat->aN->Option Int
 | 0,_=>none
 | n+1,a=>bnd (Ba n a) λb=>some b.2.2.2
def v8: Kn:=bJ 51 0x329be2 C76 [] [] Jf
abbrev C77:=v8::C76
def QD: Nat->aD->Option Bool
 | 0,_=>none
 | n+1,a=>cd ((ln a.Parts) > 64) (some true)<|some false
def CL: Kn:=bJ 52 0x9bf C77 [] [] QD
abbrev C78:=CL::C77
def jO(n:Nat): aD->((Bool->Option R)×Unit)->Unit->Option R:=λa (b,_) _=>cd (a.ID<1) (b true)<|cd (a.ID > 1073741824) (b true)<|cd (a.Class<1) (b true)<|cd (a.Class > 9) (b true)<|b false
def lY:=eV jO
def Mr: Lc 54 0 0:=bH 0x475e03fc3 C78 [] [] @jO
def QC: Nat->aD->Option Bool
 | 0,_=>none
 | n+1,a=>bnd (lY n a) λb=>cnd b (some true)<|some false
def CK: Kn:=bJ 54 0x9bf C78 [⟨0,[Mr]⟩] [] QC
abbrev C79:=CK::C78
def QB: Nat->aD->Option Bool
 | 0,_=>none
 | n+1,a=>bnd (dP n a.Kind) λb=>cnd (b==0) (some true)<|some false
def CJ: Kn:=bJ 55 0x9bf C79 [] [] QB
abbrev C80:=CJ::C79
def jN: aD->((Bool->Option R)×Unit)->Unit->Option R:=λa (b,_) _=>cd (a.Name=(⟨#[]⟩:ByteArray)) (b false)<|bnd (rV n a.Name) λc=>cnd (c != 0) (b true)<|b false
def lX:=eV jN
def Mq: Lc 56 0 0:=bH 0x475e03fc3 C80 [] [] @jN
def QA: Nat->aD->Option Bool
 | 0,_=>none
 | n+1,a=>bnd (lX n a) λb=>cnd b (some true)<|some false
def CI: Kn:=bJ 56 0x9bf C80 [⟨0,[Mq]⟩] [] QA
abbrev C81:=CI::C80
def jM: aD->((Bool->Option R)×Unit)->Unit->Option R:=λa (b,_) _=>cnd ((ln a.Parts)==0) (b true)<|bnd (dP n a.Kind) λc=>cnd (c==1) (cd ((ln a.Parts) > 1) (b true)<|b false)<|b false
def lW:=eV jM
def Mp: Lc 57 0 0:=bH 0x475e03fc3 C81 [] [] @jM
def PY: Nat->aD->Option Bool
 | 0,_=>none
 | n+1,a=>bnd (lW n a) λb=>cnd b (some true)<|some false
def CH: Kn:=bJ 57 0x9bf C81 [⟨0,[Mp]⟩] [] PY
abbrev C82:=CH::C81
def oC: Nat->(List Int)->Int->Option Bool
 | 0,_,_=>none
 | n+1,a,b=>bnd (dS n a b) λc=>cnd c (some true)<|some false
def aDQ: Kn:=bJ 98 0x2b9f70 C82 [] [] oC
abbrev C83:=aDQ::C82
def kQ: (aN×aD×Int)->((Bool->Option R)×Unit)->Unit->Option R:=λ(a,b,c) (d,_) _=>bnd (dP n b.Kind) λf=>cnd (f==1) (bnd (jE n a c) λg=>cnd g.2 (d false)<|d true)<|cnd (f==2) (bnd (Oh n a c) λh=>cnd h.2 (d false)<|d true)<|cnd (f==3) (bnd (oC n a.Faces c) λi=>cnd i (d false)<|d true)<|d true
def yD:=qM kQ
def Pr: Ic:=cG 113 2 3 0xd9957bb414ca389bf6f43ee C83 [] [] @kQ
def gK: (aN×aD×List Int×Int)->(Int->Option R)->((Int->Option R)×(Unit->Option R)×Unit)->Int->Option R:=λ(a,b,c,d) f (g,h,_) i=>cd (i<d) (bnd (idx c i) λj=>bnd (yD n (a,b,j)) λl=>cnd l (g i)<|f<|wr<|i+1)<|h ()
def CD:=oA gK
def Pq: Lc 108 0 0:=bL 0x187d56b5140d68f1bdad4d7c2cceb5b693e30f572f54f5d C83 [] [Pr] @gK
def kR: (aN×aD×List Int)->((Int->Option R)×Unit)->Unit->Option R:=λ(a,b,c) (d,_) _=>bnd2 (CD n (a,b,c,(ln c)) 0) (λf=>d f) λg=>bnd (some g) λ_=>d (-1)
def yE:=qM kR
def Ps: Ic:=cG 108 0 2 0x2d753d60a099166bdd330fed93a0f5d4 C83 [⟨0,[Pq]⟩] [] @kR
def kS: (aN×aD×List Int)->((Bool->Option R)×Unit)->Unit->Option R:=λ(a,b,c) (d,_) _=>bnd (yE n (a,b,c)) λf=>cd (f>=0) (d true)<|d false
def nI:=qM kS
def Pt: Ic:=cG 83 0 2 0x740596f34d4db29e433f474a519e9 C83 [] [Ps] @kS
def VL: Nat->aN->aD->Option Bool
 | 0,_,_=>none
 | n+1,a,b=>bnd (nI n (a,b,b.Parts)) λc=>cnd c (some true)<|some false
def JS: Kn:=bJ 86 0x3fcbf8cf3 C83 [] [Pt] VL
abbrev Ac:=JS::C83
def yM(n:Nat): aK->((Unit->Option R)×Unit)->Unit->Option R:=λa (b,_) _=>b ()
def Fv:=qM yM
def CV: Ic:=cG 53 0 1 0x183b0c8ce1c427d04c3089ddb4f39b579800e3 Ac [] [] @yM
def yL(n:Nat): Unit->((((List<|Aae×Bool))->Option R)×Unit)->Unit->Option R:=λ_ (a,_) _=>a []
def Fu:=qM yL
def CU: Ic:=cG 59 0 0 0x119733755ead5e75c7aa03f02d43d0bec96adcd0605b Ac [] [] @yL
def yG: aD->((Unit->Option R)×(Int->Option R)×Unit)->Unit->Option R:=λa (b,c,_) _=>bnd (dP n a.Kind) λd=>cnd (d==2) (b ())<|cnd (d==3) (c a.Kind)<|c 0
def Fn:=pc2 yG
def CM: Lc 87 0 0:=bH 0xb351c660bdfba7da4f5b18d3eb3dc9b488e6c3f7f673a7289aaa Ac [] [] @yG
def nL(n:Nat): (Int×List Int×Int)->(((List<|Aae×Bool)×Int)->Option R)->((((List<|Aae×Bool)×Int)->Option R)×(((List<|Aae×Bool))->Option R)×Unit)->((List<|Aae×Bool)×Int)->Option R:=λ(a,b,c) d (f,g,_) (h,i)=>cd (i<c) (bnd (idx b i) λj=>cnd ((Option.getD (bD h<|Aae.mk a j) false)) (f (h,j))<|d ((eI h (Aae.mk a j) true),(wr<|i+1)))<|g h
def QE:=oA nL
def CN: Lc 87 0 1:=bL 0x4a3b9a9040a49dba64a7555f4a422eb57f4f5238a4de9a9710fef88670ea4f6d48dc4d54c0b0a3325b0032e Ac [] [] @nL
def yI: ((List<|Aae×Bool)×aD)->((((List<|Aae×Bool))->Option R)×(((List<|Aae×Bool)×Int×Int)->Option R)×Unit)->Unit->Option R:=λ(a,b) (c,d,_) _=>bnd2 (Fn n b) (λ_=>c a) λf=>bnd (some f) λg=>bnd2 (QE n (g,b.Parts,(ln b.Parts)) (a,0)) (λh=>d (h.1,g,h.2)) λi=>bnd (some i) λj=>c j
def Fp:=FM yI
def CQ: Ic:=cG 87 0 2 0xaaef356f791e6e8387a3588cdcdf9275fdb3def3d25819806cdd5d82b76b17e8fef09 Ac [⟨0,[CM]⟩,⟨1,[CN]⟩] [] @yI
def nM: (List aD×Int)->(((List<|Aae×Bool)×Int)->Option R)->((((List<|Aae×Bool)×aD×Int×Int×Int)->Option R)×(((List<|Aae×Bool))->Option R)×Unit)->((List<|Aae×Bool)×Int)->Option R:=λ(a,b) c (d,f,_) (g,h)=>cd (h<b) (bnd (idx a h) λi=>bnd2 (Fp n (g,i)) (λj=>c (j,(wr<|h+1))) λl=>bnd (some l) λm=>d (m.1,i,m.2.1,m.2.2,h))<|f g
def QF:=oA nM
def CO: Lc 88 0 0:=bL 0x500970095cb01d2df3bcc2554700e104776b9edee3e025e2a627 Ac [] [CQ] @nM
def yJ: ((List<|Aae×Bool)×List aD)->((((List<|Aae×Bool)×Int×Int×Int×ByteArray×List Int×Int×Int×Int)->Option R)×(((List<|Aae×Bool))->Option R)×Unit)->Unit->Option R:=λ(a,b) (c,d,_) _=>bnd2 (QF n (b,(ln b)) (a,0)) (λf=>c (f.1,f.2.1.ID,f.2.1.Kind,f.2.1.Class,f.2.1.Name,f.2.1.Parts,f.2.2.1,f.2.2.2.1,f.2.2.2.2)) λg=>bnd (some g) λh=>d h
def Fq:=FM yJ
def CS: Ic:=cG 88 0 2 0x1406f76f326fe5b16d49918e0ff19fa08f08c78c84e6dd43f2d82ba257aa0f61 Ac [⟨0,[CO]⟩] [] @yJ
def yK: ((List<|Aae×Bool)×List aD)->((((List<|Aae×Bool)×Int×Int×Int×ByteArray×List Int×Int×Int×Bool)->Option R)×(((List<|Aae×Bool))->Option R)×Unit)->Unit->Option R:=λ(a,b) (c,d,_) _=>bnd2 (Fq n (a,b)) (λf=>cd (f.2.2.2.2.2.2.2.2>=0) (c (f.1,f.2.1,f.2.2.1,f.2.2.2.1,f.2.2.2.2.1,f.2.2.2.2.2.1,f.2.2.2.2.2.2.1,f.2.2.2.2.2.2.2.1,true))<|c (f.1,f.2.1,f.2.2.1,f.2.2.2.1,f.2.2.2.2.1,f.2.2.2.2.2.1,f.2.2.2.2.2.2.1,f.2.2.2.2.2.2.2.1,false)) λg=>bnd (some g) λh=>d h
def Fs:=FM yK
def CT: Ic:=cG 60 0 2 0x1407f8f6bc82301b137e7f4a47f2c1608ee9921db067ea5b41204dc67b09a721 Ac [] [CS] @yK
def Uz: Ic:=cG 113 10 3 0x7409052e20e8ff40241bc028ba023 Ac [] [] @kQ
def Ue: Lc 108 0 0:=bL 0x11e2bae531d7ee486ad126815c7bfa44ceaa23eeed931a109e Ac [] [Uz] @gK
def Vg: Ic:=cG 108 0 2 0x11b34378b7425c1f010a0d59951f9cb10dde3f6a3 Ac [⟨0,[Ue]⟩] [] @kR
def Vi: Ic:=cG 83 0 2 0x3ddf8c4ef750ffa8683f51caa5939c26cff Ac [] [Vg] @kS
def vQ: (aN×aD)->((Bool->Option R)×Unit)->Unit->Option R:=λ(a,b) (c,_) _=>bnd (nI n (a,b,b.Parts)) λd=>cnd d (c true)<|c false
def Cg:=qM vQ
def Vj: Ic:=cG 86 0 2 0x9ee74a5b52f07a2900ee7adc8b Ac [] [Vi] @vQ
def vR: (aK×aD)->(((aN×Bool)->Option R)×Unit)->Unit->Option R:=λ(a,b) (c,_) _=>bnd (Cg n (a.Plan,b)) λd=>cnd d (c (a.Plan,true))<|c (a.Plan,false)
def Ch:=qM vR
def Vk: Ic:=cG 58 0 2 0x183d67cf7041997ec58de9187edf72403dca47 Ac [] [Vj] @vR
def mF: (aK×List aD×Int)->(Int->Option R)->(((aD×aN×aD×Int)->Option R)×(Unit->Option R)×Unit)->Int->Option R:=λ(a,b,c) d (f,g,_) h=>cd (h<c) (bnd (idx b h) λi=>bnd (Ch n (a,i)) λj=>cnd j.2 (f (i,j.1,i,h))<|d<|wr<|h+1)<|g ()
def KE:=oA mF
def Uf: Lc 88 0 0:=bL 0x4e981e509e64a07dd152d158dbfc389cd210c32460d10f4af1ffbcacbd558 Ac [] [Vk] @mF
def vS: (aK×List aD)->(((aD×aN×aD×Int)->Option R)×(Unit->Option R)×Unit)->Unit->Option R:=λ(a,b) (c,d,_) _=>bnd2 (KE n (a,b,(ln b)) 0) (λf=>c (f.1,f.2.1,f.2.2.1,f.2.2.2)) λg=>bnd (some g) λ_=>d ()
def Ci:=FM vS
def Vl: Ic:=cG 88 0 2 0xe9f926fdd7913141e7876715c1a1cc90d1a7720c220b5239a617b8fb57edfda3fb Ac [⟨0,[Uf]⟩] [] @vS
def yH: (aK×List aD)->(((aD×aN×aD×Bool)->Option R)×(Unit->Option R)×Unit)->Unit->Option R:=λ(a,b) (c,d,_) _=>bnd2 (Ci n (a,b)) (λf=>cd (f.2.2.2>=0) (c (f.1,f.2.1,f.2.2.1,true))<|c (f.1,f.2.1,f.2.2.1,false)) λg=>bnd (some g) λ_=>d ()
def Fo:=FM yH
def CP: Ic:=cG 60 0 2 0x75b7ac124e44fb29563c837b56262c411d977ddae841ab9263423c2fe1 Ac [] [Vl] @yH
def Tw: Lc 57 0 0:=bH 0x1336a0c2f78f429d19 Ac [] [] @jM
def vN: aD->((Bool->Option R)×Unit)->Unit->Option R:=λa (b,_) _=>bnd (lW n a) λc=>cnd c (b true)<|b false
def Cc:=qM vN
def Uw: Ic:=cG 57 0 1 0x9d3 Ac [⟨0,[Tw]⟩] [] @vN
def mE: (List aD×Int)->(Int->Option R)->(((aD×Int)->Option R)×(Unit->Option R)×Unit)->Int->Option R:=λ(a,b) c (d,f,_) g=>cd (g<b) (bnd (idx a g) λh=>bnd (Cc n h) λi=>cnd i (d (h,g))<|c<|wr<|g+1)<|f ()
def KD:=oA mE
def Ud: Lc 88 0 0:=bL 0x53af21ded Ac [] [Uw] @mE
def vO: (List aD)->(((aD×Int)->Option R)×(Unit->Option R)×Unit)->Unit->Option R:=λa (b,c,_) _=>bnd2 (KD n (a,(ln a)) 0) (λd=>b (d.1,d.2)) λf=>bnd (some f) λ_=>c ()
def Ce:=FM vO
def Ux: Ic:=cG 88 0 2 0x537bf10bc Ac [⟨0,[Ud]⟩] [] @vO
def vP: (List aD)->(((aD×Bool)->Option R)×(Unit->Option R)×Unit)->Unit->Option R:=λa (b,c,_) _=>bnd2 (Ce n a) (λd=>cd (d.2>=0) (b (d.1,true))<|b (d.1,false)) λf=>bnd (some f) λ_=>c ()
def Cf:=FM vP
def Uy: Ic:=cG 60 0 2 0x53847925d Ac [] [Ux] @vP
def Tu: Lc 56 0 0:=bH 0x1336a0c2f78f429d19 Ac [] [] @jN
def vK: aD->((Bool->Option R)×Unit)->Unit->Option R:=λa (b,_) _=>bnd (lX n a) λc=>cnd c (b true)<|b false
def Bz:=qM vK
def Ut: Ic:=cG 56 0 1 0x9d3 Ac [⟨0,[Tu]⟩] [] @vK
def mD: (List aD×Int)->(Int->Option R)->(((aD×Int)->Option R)×(Unit->Option R)×Unit)->Int->Option R:=λ(a,b) c (d,f,_) g=>cd (g<b) (bnd (idx a g) λh=>bnd (Bz n h) λi=>cnd i (d (h,g))<|c<|wr<|g+1)<|f ()
def KC:=oA mD
def Uc: Lc 88 0 0:=bL 0x53af2123e Ac [] [Ut] @mD
def vL: (List aD)->(((aD×Int)->Option R)×(Unit->Option R)×Unit)->Unit->Option R:=λa (b,c,_) _=>bnd2 (KC n (a,(ln a)) 0) (λd=>b (d.1,d.2)) λf=>bnd (some f) λ_=>c ()
def Ca:=FM vL
def Uu: Ic:=cG 88 0 2 0x537bf050d Ac [⟨0,[Uc]⟩] [] @vL
def vM: (List aD)->(((aD×Bool)->Option R)×(Unit->Option R)×Unit)->Unit->Option R:=λa (b,c,_) _=>bnd2 (Ca n a) (λd=>cd (d.2>=0) (b (d.1,true))<|b (d.1,false)) λf=>bnd (some f) λ_=>c ()
def Cb:=FM vM
def Uv: Ic:=cG 60 0 2 0x5384786ae Ac [] [Uu] @vM
def vH: aD->((Bool->Option R)×Unit)->Unit->Option R:=λa (b,_) _=>bnd (dP n a.Kind) λc=>cnd (c==0) (b true)<|b false
def Bv:=qM vH
def Uq: Ic:=cG 55 0 1 0x9d3 Ac [] [] @vH
def mC: (List aD×Int)->(Int->Option R)->(((aD×Int)->Option R)×(Unit->Option R)×Unit)->Int->Option R:=λ(a,b) c (d,f,_) g=>cd (g<b) (bnd (idx a g) λh=>bnd (Bv n h) λi=>cnd i (d (h,g))<|c<|wr<|g+1)<|f ()
def KB:=oA mC
def Ub: Lc 88 0 0:=bL 0x53af2068f Ac [] [Uq] @mC
def vI: (List aD)->(((aD×Int)->Option R)×(Unit->Option R)×Unit)->Unit->Option R:=λa (b,c,_) _=>bnd2 (KB n (a,(ln a)) 0) (λd=>b (d.1,d.2)) λf=>bnd (some f) λ_=>c ()
def Bw:=FM vI
def Ur: Ic:=cG 88 0 2 0x537bef95e Ac [⟨0,[Ub]⟩] [] @vI
def vJ: (List aD)->(((aD×Bool)->Option R)×(Unit->Option R)×Unit)->Unit->Option R:=λa (b,c,_) _=>bnd2 (Bw n a) (λd=>cd (d.2>=0) (b (d.1,true))<|b (d.1,false)) λf=>bnd (some f) λ_=>c ()
def Bx:=FM vJ
def Us: Ic:=cG 60 0 2 0x538477aff Ac [] [Ur] @vJ
def Ts: Lc 54 0 0:=bH 0x1336a0c2f78f429d19 Ac [] [] @jO
def vE: aD->((Bool->Option R)×Unit)->Unit->Option R:=λa (b,_) _=>bnd (lY n a) λc=>cnd c (b true)<|b false
def Bs:=qM vE
def Um: Ic:=cG 54 0 1 0x9d3 Ac [⟨0,[Ts]⟩] [] @vE
def mB: (List aD×Int)->(Int->Option R)->(((aD×Int)->Option R)×(Unit->Option R)×Unit)->Int->Option R:=λ(a,b) c (d,f,_) g=>cd (g<b) (bnd (idx a g) λh=>bnd (Bs n h) λi=>cnd i (d (h,g))<|c<|wr<|g+1)<|f ()
def KA:=oA mB
def Ua: Lc 88 0 0:=bL 0x53af1fae0 Ac [] [Um] @mB
def vF: (List aD)->(((aD×Int)->Option R)×(Unit->Option R)×Unit)->Unit->Option R:=λa (b,c,_) _=>bnd2 (KA n (a,(ln a)) 0) (λd=>b (d.1,d.2)) λf=>bnd (some f) λ_=>c ()
def Bt:=FM vF
def Un: Ic:=cG 88 0 2 0x537beedaf Ac [⟨0,[Ua]⟩] [] @vF
def vG: (List aD)->(((aD×Bool)->Option R)×(Unit->Option R)×Unit)->Unit->Option R:=λa (b,c,_) _=>bnd2 (Bt n a) (λd=>cd (d.2>=0) (b (d.1,true))<|b (d.1,false)) λf=>bnd (some f) λ_=>c ()
def Bu:=FM vG
def Uo: Ic:=cG 60 0 2 0x538476f50 Ac [] [Un] @vG
def uX: (aK×Int×aD)->((Bool->Option R)×Unit)->Unit->Option R:=λ(a,b,c) (d,_) _=>cd (b > 1) (bnd (idx a.Features<|wr<|b-2) λf=>cd (f.ID>=c.ID) (d true)<|bnd (tL n c.Parts) λg=>cnd g (d false)<|d true)<|bnd (tL n c.Parts) λh=>cnd h (d false)<|d true
def Bm:=eV uX
def Tq: Lc 85 0 0:=bH 0xb4c6c9109cda73ecfd8f15c15fdf2e2d654f6282329 Ac [] [] @uX
def vB: (aK×Int×aD)->(((Int×Bool)->Option R)×Unit)->Unit->Option R:=λ(a,b,c) (d,_) _=>bnd (Bm n (a,(wr<|b+1),c)) λf=>cnd f (d ((wr<|b+1),true))<|d ((wr<|b+1),false)
def Bp:=qM vB
def Uj: Ic:=cG 85 0 3 0x183d0d7b9f6c93ec99b574fb929064a819f7fe Ac [⟨0,[Tq]⟩] [] @vB
def mA: (aK×List aD×Int)->((Int×Int)->Option R)->(((Int×aD×Int)->Option R)×(Int->Option R)×Unit)->(Int×Int)->Option R:=λ(a,b,c) d (f,g,_) (h,i)=>cd (i<c) (bnd (idx b i) λj=>bnd (Bp n (a,h,j)) λl=>cnd l.2 (f (l.1,j,i))<|d (l.1,(wr<|i+1)))<|g h
def JZ:=oA mA
def Tz: Lc 88 0 0:=bL 0x2aad8a43af98948d25c35cbb3bbc4bbf5a8976ef7f903e03c655e4e657 Ac [] [Uj] @mA
def vC: (aK×Int×List aD)->(((Int×aD×Int)->Option R)×(Int->Option R)×Unit)->Unit->Option R:=λ(a,b,c) (d,f,_) _=>bnd2 (JZ n (a,c,(ln c)) (b,0)) (λg=>d (g.1,g.2.1,g.2.2)) λh=>bnd (some h) λi=>f i
def Bq:=FM vC
def Uk: Ic:=cG 88 0 2 0x60753e9c259eec8a9af7500feac710fa2ac3ac1264a2de7b3 Ac [⟨0,[Tz]⟩] [] @vC
def vD: (aK×Int×List aD)->(((Int×aD×Bool)->Option R)×(Int->Option R)×Unit)->Unit->Option R:=λ(a,b,c) (d,f,_) _=>bnd2 (Bq n (a,b,c)) (λg=>cd (g.2.2>=0) (d (g.1,g.2.1,true))<|d (g.1,g.2.1,false)) λh=>bnd (some h) λi=>f i
def Br:=FM vD
def Ul: Ic:=cG 60 0 2 0x841e9690bfad55c81a8357874a47663d60b52fb2a3f307 Ac [] [Uk] @vD
def uY(n:Nat): aD->((Bool->Option R)×Unit)->Unit->Option R:=λa (b,_) _=>cd ((ln a.Parts) > 64) (b true)<|b false
def pT:=qM uY
def Ug: Ic:=cG 52 0 1 0x9d3 Ac [] [] @uY
def lZ: (List aD×Int)->(Int->Option R)->(((aD×Int)->Option R)×(Unit->Option R)×Unit)->Int->Option R:=λ(a,b) c (d,f,_) g=>cd (g<b) (bnd (idx a g) λh=>bnd (pT n h) λi=>cnd i (d (h,g))<|c<|wr<|g+1)<|f ()
def JY:=oA lZ
def Tx: Lc 88 0 0:=bL 0x53af1e382 Ac [] [Ug] @lZ
def uZ: (List aD)->(((aD×Int)->Option R)×(Unit->Option R)×Unit)->Unit->Option R:=λa (b,c,_) _=>bnd2 (JY n (a,(ln a)) 0) (λd=>b (d.1,d.2)) λf=>bnd (some f) λ_=>c ()
def Bn:=FM uZ
def Uh: Ic:=cG 88 0 2 0x537bed651 Ac [⟨0,[Tx]⟩] [] @uZ
def vA: (List aD)->(((aD×Bool)->Option R)×(Unit->Option R)×Unit)->Unit->Option R:=λa (b,c,_) _=>bnd2 (Bn n a) (λd=>cd (d.2>=0) (b (d.1,true))<|b (d.1,false)) λf=>bnd (some f) λ_=>c ()
def Bo:=FM vA
def Ui: Ic:=cG 60 0 2 0x5384757f2 Ac [] [Uh] @vA
def fL: Nat->aK->Option Int
 | 0,_=>none
 | n+1,a=>bnd (Jf n a.Plan) λb=>cnd (b != 0) (some b)<|cd ((ln a.Features) > 128) (some 3)<|bnd (Fv n a) λ_=>bnd (Fu n ()) λc=>bnd (Lb<|Nat.ble 9 n) λ_=>(let d:=(let f:=λ(g:Int)=>(let h:=(let i:=(let j:=(let l:=(let m:=(let o:=λ(r:(List<|Aae×Bool))=>some 0;(bnd2 (Fs n (c,a.Features)) (λs=>cnd s.2.2.2.2.2.2.2.2 (some 13)<|o s.1) λt=>bnd (some t) λu=>o u));(bnd2 (Fo n (a,a.Features)) (λv=>cnd v.2.2.2 (some 7) m) λw=>bnd (some w) λ_=>m));(bnd2 (Cf n a.Features) (λx=>cnd x.2 (some 1) l) λy=>bnd (some y) λ_=>l));(bnd2 (Cb n a.Features) (λz=>cnd z.2 (some 14) j) λa0=>bnd (some a0) λ_=>j));(bnd2 (Bx n a.Features) (λb0=>cnd b0.2 (some 9) i) λc0=>bnd (some c0) λ_=>i));(bnd2 (Bu n a.Features) (λd0=>cnd d0.2 (some 2) h) λf0=>bnd (some f0) λ_=>h));(bnd2 (Br n (a,0,a.Features)) (λg0=>cnd g0.2.2 (some 10)<|f g0.1) λh0=>bnd (some h0) λi0=>f i0));(bnd2 (Bo n a.Features) (λj0=>cnd j0.2 (some 3) d) λl0=>bnd (some l0) λ_=>d))
def VQ: Kn:=bJ 23 0x1af9006ada04 Ac [] [CV,CU,CT,CP,Uy,Uv,Us,Uo,Ul,Ui] fL
abbrev C85:=VQ::Ac
def H8: Nat->Aad->Int->Option Int
 | 0,_,_=>none
 | n+1,a,b=>bnd (cJ n a.ID b) λc=>some c
def RD: Kn:=bJ 115 0x401bbba7229a C85 [] [] H8
abbrev C86:=RD::C85
def Hg: (Aad×Int)->((Int->Option R)×Unit)->Unit->Option R:=λ(a,b) (c,_) _=>bnd (cJ n a.ID b) λd=>c d
def pW:=qM Hg
def Hf: Ic:=cG 115 0 2 0x90796f31ba3a99d93dbc C86 [] [] @Hg
def sP: (List Aad×Int)->((Int×Int)->Option R)->((Int->Option R)×Unit)->(Int×Int)->Option R:=λ(a,b) c (d,_) (f,g)=>cd (f<g) (bnd (idx a<|wr<|Int.fdiv (IntKind.u64.wrap<|wr<|f+g) 2) λh=>bnd (pW n (h,b)) λi=>cd (i<0) (c ((wr<|(wr<|Int.fdiv (IntKind.u64.wrap<|wr<|f+g) 2)+1),g))<|c (f,(wr<|Int.fdiv (IntKind.u64.wrap<|wr<|f+g) 2)))<|d f
def H9:=oH sP
def RE: Lc 114 0 0:=bL 0x1e7270a6b306d0aadc1d9f852522e0fa8e301dc50977c4b7b39e C86 [] [Hf] @sP
def Hh: (List Aad×Int)->(((Aad×Int×Bool)->Option R)×(Int->Option R)×Unit)->Unit->Option R:=λ(a,b) (c,d,_) _=>bnd (H9 n (a,b) (0,(ln a))) λf=>cd (f<(ln a)) (bnd (idx a f) λg=>bnd (pW n (g,b)) λh=>cnd (h==0) (c (g,f,true))<|c (g,f,false))<|d f
def Qb:=FM Hh
def RF: Ic:=cG 114 0 3 0x19e0d7d39f1eae4e9df1beb624e1e9aa4f947f21a3fd5d5 C86 [⟨0,[RE]⟩] [Hf] @Hh
def oF: Nat->aK->Int->Option (Int×Bool)
 | 0,_,_=>none
 | n+1,a,b=>bnd2 (Qb n (a.Plan.Nodes,b)) (λc=>cnd c.2.2 (some (c.2.1,true))<|some (c.2.1,false)) λd=>bnd (some d) λf=>some (f,false)
def R7: Kn:=bJ 89 0x80f5b1 C86 [] [RF] oF
abbrev C87:=R7::C86
def yF: (aD×Int×Int)->((Bool->Option R)×Unit)->Unit->Option R:=λ(a,b,c) (d,_) _=>bnd (dP n a.Kind) λf=>cnd (f==b) (bnd (dS n a.Parts c) λg=>cnd g (d true)<|d false)<|d false
def Fm:=eV yF
def CE: Lc 92 0 1:=bH 0x2811160eb682f6bc628c57661c3d37526f8d89aec656c62d3682e0a2f8951 C87 [] [] @yF
def nJ: (Int×Int×List aD×Int)->((List Int×Int)->Option R)->(((List Int)->Option R)×Unit)->(List Int×Int)->Option R:=λ(a,b,c,d) f (g,_) (h,i)=>cd (i<d) (bnd (idx c i) λj=>bnd (Fm n (j,a,b)) λl=>cnd l (bnd (app h [j.ID]) λm=>f (m,(wr<|i+1)))<|f (h,(wr<|i+1)))<|g h
def PX:=oH nJ
def CG: Lc 92 0 0:=bL 0x3f7c7c82348d78ba92ccfe483f30f9552d2df34bdf6ba703c71f415b4e C87 [⟨0,[cs CE]⟩] [] @nJ
def jH: Nat->aK->Int->Int->Option (List Int)
 | 0,_,_,_=>none
 | n+1,a,b,c=>cd (b<1) (some [])<|cd (b > 3) (some [])<|bnd (PX n (b,c,a.Features,(ln a.Features)) ([],0)) λd=>some d
def VM: Kn:=bJ 92 0x10d21bfae57f79b2de8fd C87 [⟨0,[CG]⟩] [] jH
abbrev C88:=VM::C87
def S4: Nat->aP->Int->Option Int
 | 0,_,_=>none
 | n+1,a,b=>bnd (cJ n a.ID b) λc=>some c
def VY: Kn:=bJ 125 0x57ccefa18 C88 [] [] S4
abbrev C89:=VY::C88
def Lv: (aP×Int)->((Int->Option R)×Unit)->Unit->Option R:=λ(a,b) (c,_) _=>bnd (cJ n a.ID b) λd=>c d
def sX:=qM Lv
def Lu: Ic:=cG 125 0 2 0x90796f31ba3a55986d3c C89 [] [] @Lv
def uO: (List aP×Int)->((Int×Int)->Option R)->((Int->Option R)×Unit)->(Int×Int)->Option R:=λ(a,b) c (d,_) (f,g)=>cd (f<g) (bnd (idx a<|wr<|Int.fdiv (IntKind.u64.wrap<|wr<|f+g) 2) λh=>bnd (sX n (h,b)) λi=>cd (i<0) (c ((wr<|(wr<|Int.fdiv (IntKind.u64.wrap<|wr<|f+g) 2)+1),g))<|c (f,(wr<|Int.fdiv (IntKind.u64.wrap<|wr<|f+g) 2)))<|d f
def S5:=oH uO
def VZ: Lc 124 0 0:=bL 0x1e7270a6b306d0ab16f6384ac184859f049757c58c9098cc1bbc C89 [] [Lu] @uO
def Lw: (List aP×Int)->(((aP×Int×Bool)->Option R)×(Int->Option R)×Unit)->Unit->Option R:=λ(a,b) (c,d,_) _=>bnd (S5 n (a,b) (0,(ln a))) λf=>cd (f<(ln a)) (bnd (idx a f) λg=>bnd (sX n (g,b)) λh=>cnd (h==0) (c (g,f,true))<|c (g,f,false))<|d f
def AB:=FM Lw
def WF: Ic:=cG 124 0 3 0x2370560994d589caec7e7fb4bcb229276168bf84fc84 C89 [⟨0,[VZ]⟩] [Lu] @Lw
def zP: Nat->aK->Int->Option (Int×Bool)
 | 0,_,_=>none
 | n+1,a,b=>bnd2 (AB n (a.Plan.Arcs,b)) (λc=>cnd c.2.2 (some (c.2.1,true))<|some (c.2.1,false)) λd=>bnd (some d) λf=>some (f,false)
def aCj: Kn:=bJ 95 0x80f5b1 C89 [] [WF] zP
abbrev C90:=aCj::C89
def aPq: Kn:=aOK 172 4 20 ⟨_,_,_,rfl,by decide,by decide⟩ (λn p=>clF n p) (λp=>p) λn p r h=>by obtain⟨m,h1,h2,h3⟩:=aON h;subst h2;exact⟨m,h1,rfl,h3,rfl,λe=>by cases (e:_=[]);rfl⟩
abbrev C91:=aPq::C90
def lB: (List Int×List Aad×List aP×Int)->((List aP×Int)->Option R)->(((List aP)->Option R)×Unit)->(List aP×Int)->Option R:=λ(a,b,c,d) f (g,_) (h,i)=>cd (i<d) (bnd (idx c i) λj=>bnd (clF n j.Via) λl=>bnd (app h [(aP.mk j.ID j.From j.To l 0 0)]) λm=>f (m,(wr<|i+1)))<|g h
def Nt:=oH lB
def NQ: Lc 147 0 0:=bL 0x120d168d83f0516904afe58f4929f86981887856e0d7773d031d684d67175140c1e8a9 C91 [] [] @lB
def aDi: Nat->aN->Option aN
 | 0,_=>none
 | n+1,a=>bnd (clF n a.Nodes) λb=>bnd (Nt n ([],b,a.Arcs,(ln a.Arcs)) ([],0)) λc=>some<|aN.mk b c []
def P3: Kn:=bJ 147 0x64dbe72960d31ebdd57528f C91 [⟨0,[NQ]⟩] [] aDi
abbrev C92:=P3::C91
def Ks(n:Nat): (Int×Int)->((Bool->Option R)×Unit)->Unit->Option R:=λ(a,b) (c,_) _=>cd ((nF b<|wr<|0-b)<(nF a<|wr<|0-a)) (c true)<|cnd (b==(wr<|0-a)) (cd (b > 0) (c true)<|c false)<|c false
def P2:=eV Ks
def UO: Lc 173 0 1:=bH 0x1921ebe67175b1d9962e533104f52cb667cd86 C92 [] [] @Ks
def uE: (List Int×Int)->((Int×Int)->Option R)->((Int->Option R)×Unit)->(Int×Int)->Option R:=λ(a,b) c (d,_) (f,g)=>cd (g<b) (bnd (idx a g) λh=>bnd (P2 n (f,h)) λi=>cnd i (c (h,(wr<|g+1)))<|c (f,(wr<|g+1)))<|d f
def Vv:=oH uE
def UP: Lc 173 0 0:=bL 0x38380edd747e179d1339affbb33d3 C92 [⟨0,[cs UO]⟩] [] @uE
def mY: Nat->(List Int)->Option Int
 | 0,_=>none
 | n+1,a=>bnd (idx a 0) λb=>bnd (Vv n (a,(ln a)) (b,0)) λc=>some c
def aBh: Kn:=bJ 173 0x329a6b C92 [⟨0,[UP]⟩] [] mY
abbrev C93:=aBh::C92
def uP(n:Nat): (List Int×Int)->(Int->Option R)->((Int->Option R)×(Unit->Option R)×Unit)->Int->Option R:=λ(a,b) c (d,f,_) g=>cd (g<b) (bnd (idx a g) λh=>cnd (h != 0) (d h)<|c<|wr<|g+1)<|f ()
def S9:=oA uP
def b7: Lc 72 0 0:=bL 0xcd8cec88a66cede3c6784b32a8fe0459d751c5fa8f9 C93 [] [] @uP
def Jy: Nat->(List Int)->Option Int
 | 0,_=>none
 | n+1,a=>bnd2 (S9 n (a,(ln a)) 0) (λb=>some b) λc=>bnd (some c) λ_=>some 0
def aCl: Kn:=bJ 72 0x329a6b C93 [⟨0,[b7]⟩] [] Jy
abbrev C94:=aCl::C93
def mZ: Nat->Int->Int->Option Int
 | 0,_,_=>none
 | n+1,a,b=>bnd (cJ n (nF a<|wr<|0-a)<|nF b<|wr<|0-b) λc=>bnd (cJ n b a) λd=>bnd (Jy n [c,d]) λf=>some f
def Ns: Kn:=bJ 174 0x13b2b928951a8cd C94 [] [] mZ
abbrev C95:=Ns::C94
def mV: Nat->dR->dR->Option Int
 | 0,_,_=>none
 | n+1,a,b=>bnd (mY n a.outer) λc=>bnd (mY n b.outer) λd=>bnd (mZ n c d) λf=>some f
def HW: Kn:=bJ 149 0x25becb77ef6defd C95 [] [] mV
abbrev C96:=HW::C95
end
end
section
variable {R:Type}(n:Nat)
noncomputable section
def IB: Lc 147 2 0:=bL 0x514a036ff01b5edcd193dcca6215e177cf719e668b6530ddcf0ccf2c0b532ca39a96ce6fd48e17 C96 [] [] @lB
def Bc: aN->(((List aP×List Int×List Aad×List Aad)->Option R)×Unit)->Unit->Option R:=λa (b,_) _=>bnd (clF n a.Nodes) λc=>bnd (Nt n ([],c,a.Arcs,(ln a.Arcs)) ([],0)) λd=>b (d,[],c,c)
def Kw:=qM Bc
def IE: Ic:=cG 147 2 1 0xcfa727ed0513ef4248dd1bf8ca66245ec0ea96615f276e9724aa4c196c03d447743452b18e2 C96 [⟨0,[IB]⟩] [] @Bc
def pD(n:Nat): (Int×List Int×Int)->(((List<|Int×Int)×Int)->Option R)->((((List<|Int×Int))->Option R)×Unit)->((List<|Int×Int)×Int)->Option R:=λ(a,b,c) d (f,_) (g,h)=>cd (h<c) (bnd (idx b h) λi=>d ((eI g i<|wr<|a+1),(wr<|h+1)))<|f g
def UU:=oH pD
def HY: Lc 119 0 2:=bL 0x14f82a1a8e92137d995879046125f97251dcbfeda9001950d9303ecc0aef03a5ad87bfebe8934cac0 C96 [] [] @pD
def pE: (Int×(List<|List Int)×Int)->(((List<|Int×Int)×Int)->Option R)->((((List<|Int×Int))->Option R)×Unit)->((List<|Int×Int)×Int)->Option R:=λ(a,b,c) d (f,_) (g,h)=>cd (h<c) (bnd (idx b h) λi=>bnd (UU n (a,i,(ln i)) (g,0)) λj=>d (j,(wr<|h+1)))<|f g
def UW:=oH pE
def HZ: Lc 119 0 1:=bL 0x1e46d728b0f341c3ce78b452beaf2e908016a0986b38dfffe35ef2d985329860f8c C96 [⟨0,[cs HY]⟩] [] @pE
def pF: (List aP×List Aad×List Aad×List dR×(Nat×Nat)×Int)->((List Int×(List<|Int×Int)×Int)->Option R)->(((List Int×(List<|Int×Int))->Option R)×Unit)->(List Int×(List<|Int×Int)×Int)->Option R:=λ(a,b,c,d,f,g) h (i,_) (j,l,m)=>cd (m<g) (bnd (idx (win d<|some f) m) λ_=>bnd (idx d<|m+((f.1:Nat):Int)) λo=>bnd (app j [(wr<|m+1)]) λr=>bnd (fS n o) λs=>bnd (UW n (m,s,(ln s)) (l,0)) λt=>h (r,t,(wr<|m+1)))<|i (j,l)
def Kv:=oH pF
def IA: Lc 119 0 0:=bL 0x7bcd21f1bbda52cddbc5238ee55e35ff7a321590ebcd2653bf50ce9c2c737dfbe7da02d34ba54d8c73215b52043942106131e6d778db3139387ec92f4a10977ea661a12035095bf8dfef6564a C96 [⟨0,[cs HZ]⟩] [] @pF
def pC(n:Nat): (List Int×List Aad×List Aad×(List<|Int×Int)×Int)->((List aP×Int)->Option R)->(((List aP)->Option R)×Unit)->(List aP×Int)->Option R:=λ(a,b,c,d,f) g (h,_) (i,j)=>cd (j<f) (bnd (fV i (List.length i) j) λ_=>bnd (idx i j) λl=>bnd (fV i (List.length i) j) λ_=>bnd (idx i j) λm=>bnd (fV (List.set i (Int.toNat j)<|aP.mk m.ID m.From m.To m.Via (Option.getD (bD d l.ID) 0) m.Right) (List.length<|List.set i (Int.toNat j)<|aP.mk m.ID m.From m.To m.Via (Option.getD (bD d l.ID) 0) m.Right) j) λ_=>bnd (idx (List.set i (Int.toNat j)<|aP.mk m.ID m.From m.To m.Via (Option.getD (bD d l.ID) 0) m.Right) j) λo=>g ((List.set (List.set i (Int.toNat j)<|aP.mk m.ID m.From m.To m.Via (Option.getD (bD d l.ID) 0) m.Right) (Int.toNat j)<|aP.mk o.ID o.From o.To o.Via o.Left<|Option.getD (bD d<|wr<|0-l.ID) 0),(wr<|j+1)))<|h i
def Ku:=oH pC
def HX: Lc 119 0 3:=bL 0xb37e548a1a43b04361807c304e59d00f10658fc1ca70bc22ea1e47be0482063204be8ffab09f19686cfdd2cd1480938dbe2a26e544dcc75385afae36573d C96 [] [] @pC
def Je: Nat->aN->Option (aN×Int)
 | 0,_=>none
 | n+1,a=>bnd (Kw n a) λb=>bnd (Ah n<|aN.mk b.2.2.2 b.1 b.2.1) λc=>cnd (c.2 != 0) (some ((aN.mk [] [] []),c.2))<|bnd (oY n<|aN.mk b.2.2.2 b.1 b.2.1) λd=>bnd (jD n (aN.mk b.2.2.2 b.1 b.2.1) c.1 d) λf=>bnd (sub f (0,List.length f) 1<|ln f) λg=>cd (((g.2:Nat):Int) > 64) (some ((aN.mk [] [] []),3))<|bnd (prd n) λh=>bnd (Lb<|decide<|List.length f<=1000000/\g.1+g.2<=List.length f) λ_=>bnd (mJ (λ(i j:dR)=>bnd (mV h i j) λl=>some l)<|win f<|some g) λm=>bnd (Kv n (b.1,b.2.2.1,b.2.2.2,(aU f g.1 m),g,((g.2:Nat):Int)) (b.2.1,[],0)) λo=>bnd (Ku n (o.1,b.2.2.1,b.2.2.2,o.2,(ln b.1)) (b.1,0)) λr=>some ((aN.mk b.2.2.2 r o.1),0)
def v7: Kn:=bJ 119 0x160a8452ce4796d C96 [⟨0,[IA]⟩,⟨3,[HX]⟩] [IE] Je
abbrev C97:=v7::C96
def jT: Nat->dW->dW->Option Int
 | 0,_,_=>none
 | n+1,a,b=>bnd (cJ n a.Face b.Face) λc=>some c
def Sz: Kn:=bJ 151 0x25becd06a812df5 C97 [] [] jT
abbrev C98:=Sz::C97
def lO(n:Nat): (List Int×List dR×Int)->((List dW×Int)->Option R)->(((List dW)->Option R)×Unit)->(List dW×Int)->Option R:=λ(a,b,c) d (f,_) (g,h)=>cd (h<c) (bnd (idx b h) λi=>bnd (idx a h) λj=>bnd (app g [(dW.mk j i.outer i.inner i.alone)]) λl=>d (l,(wr<|h+1)))<|f g
def HV:=oH lO
def Ta: Lc 120 0 0:=bL 0x18b851969731c74d34332b90be453ee06b47b400d6d817c87837d5baf1f99114ceb C98 [] [] @lO
def kG: Nat->aN->Option (List dW×Int)
 | 0,_=>none
 | n+1,a=>bnd (Ba n a) λb=>cnd (b.2.2.2 != 0) (some ([],b.2.2.2))<|bnd (HV n (b.2.1,b.1,(ln b.1)) ([],0)) λc=>bnd (prd n) λd=>bnd (Lb<|decide<|List.length c<=1000000) λ_=>bnd (mJ (λ(f g:dW)=>bnd (jT d f g) λh=>some h) c) λi=>some (i,0)
def NR: Kn:=bJ 120 0x2136ba77c2fbeca C98 [⟨0,[Ta]⟩] [] kG
abbrev C99:=NR::C98
def uN(n:Nat): ((List<|List Int)×Int)->((List Int×Int)->Option R)->(((List Int)->Option R)×Unit)->(List Int×Int)->Option R:=λ(a,b) c (d,_) (f,g)=>cd (g<b) (bnd (idx a g) λh=>bnd (app f h) λi=>c (i,(wr<|g+1)))<|d f
def S0:=oH uN
def VX: Lc 122 0 0:=bL 0x1330bdaad49fa914b1e7d3903cf3459f805335103 C99 [] [] @uN
def Ju: Nat->dW->Option (List Int)
 | 0,_=>none
 | n+1,a=>bnd (app ([]:List Int) a.Outer) λb=>bnd (S0 n (a.Inner,(ln a.Inner)) (b,0)) λc=>some c
def aCi: Kn:=bJ 122 0x1f8c41026097365 C99 [⟨0,[VX]⟩] [] Ju
abbrev aML:=aCi::C99
def Fw(n:Nat): (Int×Int)->((Bool->Option R)×Unit)->Unit->Option R:=λ(a,b) (c,_) _=>cnd (b != a) (cnd (b != (wr<|0-a)) (c true)<|c false)<|c false
def Pw:=eV Fw
def QJ: Lc 121 0 2:=bH 0x16335afa4467c99d4d68b02b7596b104a3dbec8cf3b5a41d862f999 aML [] [] @Fw
def sD: (aN×Int×List Int×Int)->(Int->Option R)->((Int->Option R)×(Unit->Option R)×Unit)->Int->Option R:=λ(a,b,c,d) f (g,h,_) i=>cd (i<d) (bnd (idx c i) λj=>bnd (Pw n (b,j)) λl=>cnd l (bnd (Ea n a j) λm=>g m)<|f<|wr<|i+1)<|h ()
def G8:=oA sD
def QK: Lc 121 0 1:=bL 0xca9b600ac6c5660af010ea5f962f692cf602c2c5975e50d0793338b0858da5d2a5e86 aML [⟨0,[cs QJ]⟩] [] @sD
def sE: (aN×Int×List dW×Int)->(Int->Option R)->(((dW×Int)->Option R)×(Unit->Option R)×Unit)->Int->Option R:=λ(a,b,c,d) f (g,h,_) i=>cd (i<d) (bnd (idx c i) λj=>bnd (Ju n j) λl=>bnd2 (G8 n (a,b,l,(ln l)) 0) (λm=>g (j,m)) λo=>bnd (some o) λ_=>f<|wr<|i+1)<|h ()
def G9:=oA sE
def QL: Lc 121 0 0:=bL 0xc9d9319a3dd4b141a2e11ac651afb513dc77a78b00b2605f192c aML [⟨0,[cs QK]⟩] [] @sE
def Px: Nat->aN->Int->(List dW)->Option Int
 | 0,_,_,_=>none
 | n+1,a,b,c=>bnd2 (G9 n (a,b,c,(ln c)) 0) (λd=>some d.2) λf=>bnd (some f) λ_=>some 0
def R4: Kn:=bJ 121 0x1e8c77e3dce6c31248 aML [⟨0,[QL]⟩] [] Px
abbrev aVp:=R4::aML
def UN: Nat->(List Int)->Int->Option (List Int)
 | 0,_,_=>none
 | n+1,_,a=>cd (a<0) none none
def HJ: Kn:=bJ 191 0x510bfc aVp [] [] UN
abbrev aJF:=HJ::aVp
def iP(n:Nat): ((List<|List Int)×Int)->((Int×Int)->Option R)->((Int->Option R)×Unit)->(Int×Int)->Option R:=λ(a,b) c (d,_) (f,g)=>cd (g<b) (bnd (idx a g) λh=>cd ((wr<|f+(ln h))<0) none<|c ((wr<|f+(ln h)),(wr<|g+1)))<|d f
def Nn:=oH iP
def Is: Lc 185 0 0:=bL 0x7dd3c9ba0b8ce2c69cd0a1d600cc2 aJF [] [] @iP
def oV(n:Nat): Int->((Unit->Option R)×((List Int×(Nat×Nat))->Option R)×Unit)->Unit->Option R:=λa (b,c,_) _=>cd (a<0) none<|cd ((wr<|a-0) > 0) (bnd (rep 0 (wr<|a-0)<|wr<|a-0) λd=>cnd (List.isEmpty d) (b ())<|bnd (sub d (0,List.length d) 0 0) λf=>c (d,f))<|b ()
def Np:=FM oV
def It: Ic:=cG 191 0 2 0x3dddf6b95ac97c1f64bc91d84cffb196 aJF [] [] @oV
def iN(n:Nat): ((List<|List Int)×Int)->(Int->Option R)->((Unit->Option R)×Unit)->Int->Option R:=λ(a,b) c (d,_) f=>cd (f<b) (bnd (idx a f) λg=>cnd (List.isEmpty g) (c<|wr<|f+1)<|bnd (app ([]:List Int) g) λ_=>none)<|d ()
def Nm:=oH iN
def Ir: Lc 185 0 1:=bL 0x2d2d481a9dbd3f3c2726cdfd8ff88b08526 aJF [] [] @iN
def iM(n:Nat): ((List<|List Int)×Int)->((List Int×(Nat×Nat)×Int)->Option R)->(((List Int×(Nat×Nat))->Option R)×Unit)->(List Int×(Nat×Nat)×Int)->Option R:=λ(a,b) c (d,_) (f,g,h)=>cd (h<b) (bnd (idx a h) λi=>bnd (b9 f g i) λj=>c (j,(g.1,g.2+List.length i),(wr<|h+1)))<|d (f,g)
def Nl:=oH iM
def Ip: Lc 185 0 1:=bL 0x5b45d19662c79ec985d5627d81440192 aJF [] [] @iM
def oW: Nat->(List<|List Int)->Option (List Int)
 | 0,_=>none
 | n+1,a=>bnd (Nn n (a,(ln a)) (0,0)) λb=>bnd2 (Np n b) (λ_=>bnd (Nm n (a,(ln a)) 0) λ_=>bnd (Lb true) λ_=>some []) λc=>bnd (some c) λd=>bnd (Nl n (a,(ln a)) (d.1,d.2,0)) λf=>bnd (Lb<|decide<|f.2=(0,List.length f.1)) λ_=>some<|win f.1<|some f.2
def Sw: Kn:=bJ 185 0x32fc01eda07876a aJF [⟨0,[Is]⟩,⟨1,[Ir,Ip]⟩] [It] oW
abbrev aMK:=Sw::aJF
def nG(n:Nat): ((Nat×Nat))->((List Int×Int×Int)->Option R)->(((List Int×Int)->Option R)×Unit)->(List Int×Int×Int)->Option R:=λa b (c,_) (d,f,g)=>cd (g<((a.2:Nat):Int)) (bnd (idx (win d<|some a) g) λ_=>bnd (idx d<|g+((a.1:Nat):Int)) λh=>bnd (idx (win d<|some a)<|wr<|g-1) λ_=>bnd (idx d<|(wr<|g-1)+((a.1:Nat):Int)) λi=>cnd (h != i) (bnd (idx (win d<|some a) g) λ_=>bnd (idx d<|g+((a.1:Nat):Int)) λj=>bnd (fV d (List.length d) f) λ_=>bnd (idx d f) λ_=>b ((List.set d (Int.toNat f) j),(wr<|f+1),(wr<|g+1)))<|b (d,f,(wr<|g+1)))<|c (d,f)
def PI:=oH nG
def BW: Lc 186 0 1:=bL 0x76100df41bc0171d11a527d7b830cde75f6da35986549c5999c4014 aMK [] [] @nG
def nH: (List Int)->(Int->Option R)->(((List Int×(Nat×Nat))->Option R)×(Unit->Option R)×Unit)->Int->Option R:=λa b (c,d,_) f=>cd (f<(ln a)) (bnd (fV a (List.length a) f) λ_=>bnd (idx a f) λg=>bnd (fV a (List.length a)<|wr<|f-1) λ_=>bnd (idx a<|wr<|f-1) λh=>cnd (g==h) (bnd (sub a (0,List.length a) f<|ln a) λi=>bnd (PI n i (a,f,1)) λj=>bnd (sub j.1 (0,List.length j.1) j.2<|ln j.1) λl=>bnd (clr j.1 l 0) λm=>bnd (sub m (0,List.length m) 0 j.2) λo=>c (m,o))<|b<|wr<|f+1)<|d ()
def PJ:=oA nH
def BX: Lc 186 0 0:=bL 0x12f363e0c562e4aea3bb44fc8e07634bdd8267e98166ef1 aMK [⟨0,[cs BW]⟩] [] @nH
def xV: (List Int)->((Unit->Option R)×((List Int×(Nat×Nat))->Option R)×Unit)->Unit->Option R:=λa (b,c,_) _=>cd ((ln a)<2) (b ())<|bnd2 (PJ n a 1) (λd=>c (d.1,d.2)) λf=>bnd (some f) λ_=>b ()
def Fe:=FM xV
def BZ: Ic:=cG 186 0 1 0x12f363d504221ef1835381dde6f35aa6b85a54e17ae409c aMK [⟨0,[BX]⟩] [] @xV
def mR: Nat->(List<|List Int)->Option (List Int)
 | 0,_=>none
 | n+1,a=>bnd (oW n a) λb=>bnd (prd n) λ_=>bnd (Lb<|decide<|List.length b<=1000000) λ_=>bnd2 (Fe n<|tE b) (λ_=>some<|tE b) λc=>bnd (some c) λd=>some<|win d.1<|some d.2
def VG: Kn:=bJ 175 0x2b33ec554f37 aMK [] [BZ] mR
abbrev aVo:=VG::aMK
def tM: Nat->(List Int)->(List Int)->Option (List Int)
 | 0,_,_=>none
 | n+1,a,b=>bnd (mR n [a,b]) λc=>some c
def Q6: Kn:=bJ 152 0xc486ef23dcf97452d28fe2d aVo [] [] tM
abbrev aS8:=Q6::aVo
def gA(n:Nat): (List Int×List Int×Int)->(Int->Option R)->((Unit->Option R)×(Unit->Option R)×Unit)->Int->Option R:=λ(a,b,c) d (f,g,_) h=>cd (h<c) (bnd (idx a h) λi=>bnd (idx b h) λj=>cnd (i != j) (f ())<|d<|wr<|h+1)<|g ()
def Ss:=oA gA
def Mj: Lc 70 0 0:=bL 0xf9028babcc0232c92585 aS8 [] [] @gA
def eN: Nat->(List Int)->(List Int)->Option Bool
 | 0,_,_=>none
 | n+1,a,b=>cnd ((ln a) != (ln b)) (some false)<|bnd2 (Ss n (a,b,(ln a)) 0) (λ_=>some false) λc=>bnd (some c) λ_=>some true
def BC: Kn:=bJ 70 0x2b856003d aS8 [⟨0,[Mj]⟩] [] eN
abbrev aS7:=BC::aS8
def Cx: (Int×Int)->((Bool->Option R)×Unit)->Unit->Option R:=λ(a,b) (c,_) _=>bnd (fM n a) λd=>cnd d (bnd (fM n b) λf=>cnd f (cd (a<b) (c true)<|c false)<|c true)<|cd (a<b) (c true)<|c false
def Mc:=eV Cx
def LF: Lc 192 0 0:=bH 0x65fa76ab3607d942aec564c aS7 [] [] @Cx
def Jz: Nat->Int->Int->Option Bool
 | 0,_,_=>none
 | n+1,a,b=>bnd (Mc n (a,b)) λc=>cnd c (some true)<|some false
def I7: Kn:=bJ 192 0x2e961e8ac098 aS7 [⟨0,[LF]⟩] [] Jz
abbrev aVn:=I7::aS7
def NJ: Nat->Int->Option Bool
 | 0,_=>none
 | n+1,a=>cnd (a != a) (some true)<|some false
def BA: Kn:=bJ 193 0xade aVn [] [] NJ
abbrev aPx:=BA::aVn
def fE: (List Int×Int)->((Int×Int)->Option R)->((Int->Option R)×Unit)->(Int×Int)->Option R:=λ(a,b) c (d,_) (f,g)=>cd (f<g) (bnd (idx a<|wr<|Int.fdiv (IntKind.u64.wrap<|wr<|f+g) 2) λh=>bnd (Jz n h b) λi=>cnd i (c ((wr<|(wr<|Int.fdiv (IntKind.u64.wrap<|wr<|f+g) 2)+1),g))<|c (f,(wr<|Int.fdiv (IntKind.u64.wrap<|wr<|f+g) 2)))<|d f
def wY:=oH fE
def uC: Lc 187 0 0:=bL 0x2e20644bc74c0b6971e79ceea401be32fc6928c75 aPx [] [] @fE
def iY(n:Nat): Int->((Bool->Option R)×Unit)->Unit->Option R:=λa (b,_) _=>cnd (a != a) (b true)<|b false
def fQ:=qM iY
def uD: Ic:=cG 193 0 1 0x9fd16d13b55c82835210 aPx [] [] @iY
def gX: Nat->(List Int)->Int->Option (Int×Bool)
 | 0,_,_=>none
 | n+1,a,b=>bnd (wY n (a,b) (0,(ln a))) λc=>cd (c<(ln a)) (bnd (idx a c) λd=>cnd (d==b) (some (c,true))<|bnd (idx a c) λf=>bnd (fQ n f) λg=>cnd g (bnd (fQ n b) λh=>cnd h (some (c,true))<|some (c,false))<|some (c,false))<|some (c,false)
def Ad: Kn:=bJ 187 0x80f4ba aPx [⟨0,[uC]⟩] [uD] gX
abbrev aMJ:=Ad::aPx
def Ff: (List Int×Int)->((Bool->Option R)×Unit)->Unit->Option R:=λ(a,b) (c,_) _=>bnd (gX n a b) λd=>cnd d.2 (c false)<|c true
def Ow:=qM Ff
def PM: Ic:=cG 176 0 2 0xab55fce05a889b75defe86277113d aMJ [] [] @Ff
def rY: (List Int×List Int×Int)->((List Int×Int)->Option R)->(((List Int)->Option R)×Unit)->(List Int×Int)->Option R:=λ(a,b,c) d (f,_) (g,h)=>cd (h<c) (bnd (idx b h) λi=>bnd (Ow n (a,i)) λj=>cnd j (bnd (app g [i]) λl=>d (l,(wr<|h+1)))<|d (g,(wr<|h+1)))<|f g
def D8:=oH rY
def PL: Lc 177 0 0:=bL 0x2e5bbd2f9f00603909c71b6cc43c08033ae802729092fcae30f4c10075618 aMJ [] [PM] @rY
def Fg: (List Int×List Int)->(((List Int)->Option R)×Unit)->Unit->Option R:=λ(a,b) (c,_) _=>bnd (mR n [b]) λd=>bnd (D8 n (a,d,(ln d)) ([],0)) λf=>c f
def Ox:=qM Fg
def PN: Ic:=cG 177 0 2 0x19c4215edfe310a1dc203d5318b4c635d89342ce9857 aMJ [⟨0,[PL]⟩] [] @Fg
def Oy: Nat->(List Int)->(List Int)->Option (List Int)
 | 0,_,_=>none
 | n+1,a,b=>bnd (mR n [b]) λc=>bnd (Ox n (c,a)) λd=>some d
def Q7: Kn:=bJ 153 0xc486ef23dcf97452d28fe2d aMJ [] [PN] Oy
abbrev aVm:=Q7::aMJ
def LA: Nat->aD->Int->Option Int
 | 0,_,_=>none
 | n+1,a,b=>bnd (cJ n a.ID b) λc=>some c
def Vn: Kn:=bJ 128 0x401bbba6f3de aVm [] [] LA
abbrev aMI:=Vn::aVm
def vU: (aD×Int)->((Int->Option R)×Unit)->Unit->Option R:=λ(a,b) (c,_) _=>bnd (cJ n a.ID b) λd=>c d
def jZ:=qM vU
def vT: Ic:=cG 128 0 2 0x90796f31ba3a1d9b4233 aMI [] [] @vU
def mG: (List aD×Int)->((Int×Int)->Option R)->((Int->Option R)×Unit)->(Int×Int)->Option R:=λ(a,b) c (d,_) (f,g)=>cd (f<g) (bnd (idx a<|wr<|Int.fdiv (IntKind.u64.wrap<|wr<|f+g) 2) λh=>bnd (jZ n (h,b)) λi=>cd (i<0) (c ((wr<|(wr<|Int.fdiv (IntKind.u64.wrap<|wr<|f+g) 2)+1),g))<|c (f,(wr<|Int.fdiv (IntKind.u64.wrap<|wr<|f+g) 2)))<|d f
def LB:=oH mG
def Vo: Lc 127 0 0:=bL 0x1e7270a6b306d0ab289d9952d6d503d05b4fe92c1a49ab0f9cc3 aMI [] [vT] @mG
def vV: (List aD×Int)->(((aD×Int×Bool)->Option R)×(Int->Option R)×Unit)->Unit->Option R:=λ(a,b) (c,d,_) _=>bnd (LB n (a,b) (0,(ln a))) λf=>cd (f<(ln a)) (bnd (idx a f) λg=>bnd (jZ n (g,b)) λh=>cnd (h==0) (c (g,f,true))<|c (g,f,false))<|d f
def Cw:=FM vV
def Vp: Ic:=cG 127 0 3 0x19e0d7d39f1eae4e9da789c7fed2fbe26d4c1e09aac4066 aMI [⟨0,[Vo]⟩] [vT] @vV
def zO: Nat->aK->Int->Option (Int×Bool)
 | 0,_,_=>none
 | n+1,a,b=>bnd2 (Cw n (a.Features,b)) (λc=>cnd c.2.2 (some (c.2.1,true))<|some (c.2.1,false)) λd=>bnd (some d) λf=>some (f,false)
def RH: Kn:=bJ 99 0x80f5b1 aMI [] [Vp] zO
abbrev aPw:=RH::aMI
def uL(n:Nat): (dW×List Int×Int)->(((List<|Int×Int)×Int)->Option R)->((((List<|Int×Int))->Option R)×Unit)->((List<|Int×Int)×Int)->Option R:=λ(a,b,c) d (f,_) (g,h)=>cd (h<c) (bnd (idx b h) λi=>d ((eI g i a.Face),(wr<|h+1)))<|f g
def R8:=oH uL
def VT: Lc 196 0 1:=bL 0x3998852a9996189f46c8ec55dce5b8e1139475aa718c34a307d9785a9c197c2b88a217075a26544b4 aPw [] [] @uL
def uM: (List dW×Int)->(((List<|Int×Int)×Int)->Option R)->((((List<|Int×Int))->Option R)×Unit)->((List<|Int×Int)×Int)->Option R:=λ(a,b) c (d,_) (f,g)=>cd (g<b) (bnd (idx a g) λh=>bnd (R8 n (h,h.Alone,(ln h.Alone)) (f,0)) λi=>c (i,(wr<|g+1)))<|d f
def R9:=oH uM
def VU: Lc 196 0 0:=bL 0x48bd62233672152a229a3cb9c0161e7c1e6dbd7262b79bda780e aPw [⟨0,[cs VT]⟩] [] @uM
def nY: Nat->aN->Option (List<|Int×Int)
 | 0,_=>none
 | n+1,a=>bnd (kG n a) λb=>bnd (R9 n (b.1,(ln b.1)) ([],0)) λc=>some c
def Js: Kn:=bJ 196 0x10307834c25dbbc aPw [⟨0,[VU]⟩] [] nY
abbrev aXc:=Js::aPw
end
end
section
open iW (den cds ag)
noncomputable section
def dI: Nat->aN->aN->Int->Option Bool
 | 0,_,_,_=>none
 | n+1,p,q,m=>bnd (nY n p) λold=>bnd (nY n q) λnew=>some (sdB old m new)
theorem aHE: ∀(m:List (Int×Int)) (rows:List (List AV)),Qm (kk:=0) 0 m rows->aAr (fX (kk:=0) 0 m rows)=some m
 | [],rows,h=>rfl
 | e::m,[x]::rows,h=>by
  obtain⟨⟨h1,_⟩,h2⟩:=h
  cases h1
  show (match aAr (fX (kk:=0) 0 m rows) with | some l=>some ((e.1,e.2)::l) | none=>none)=_
  rw[aHE m rows h2]
theorem aJg: FOK PP T 196 ⟨[.w 6],[29],false,λn p=>nY n p⟩:=by
 have e:Js.c=⟨[.w 6],[29],false,λn p=>nY n p⟩:=by kernel_rfl
 have h:=Js.ok
 rw[e] at h
 exact h
theorem aKw{n:Nat}{p:aN}{m:List (Int×Int)}{a:AV}(h:nY n p=some m)(q:Qh [] (toW (val 6 p)) a): sdH (fC PP T n) 196 [] a=some m:=by
 obtain⟨b,rfl,q4⟩:=Qh.inA (cs:=[.vw 4 p.Nodes,.vw 5 p.Arcs,.vw 0 p.Faces]) q
 clear q
 match b,q4 with
 | [xn,xa,xf],q4=>
 obtain⟨qn,qa,qf,_⟩:=q4
 obtain⟨aw',A,h1,h2,h3,_⟩:=aJg n p m h [cK [] (.agg [xn,xa,xf])] ⟨Qh.mkA ⟨.p _ _ (O5 (Qh.pu (v:=.vw 4 p.Nodes) qn trivial)),.p _ _ (O5 (Qh.pu (v:=.vw 5 p.Arcs) qa trivial)),.p _ _ (O5 (Qh.pu (v:=.vw 0 p.Faces) qf trivial)),trivial⟩,trivial⟩
 have h2:=h2 []
 match aw',h2 with
 | [b],h2=>
  have e:fA A 0 b=eA A 0 b:=by
   cases b with
   | tup l=>exact (h3 _ ZP l rfl).elim
   | _=>rfl
  have h4:Qp (.rmp 0 0 m) (fA A 0 b):=by rw[e];exact Qh.pu (v:=.rmp 0 0 m) h2.1 trivial
  have e2:cK [] (.agg [xn,xa,xf])=.agg [dF [] xn,dF [] xa,dF [] xf]:=rfl
  rw[e2] at h1
  unfold sdH
  rw[e2]
  simp only[h1]
  show Fd (fA A 0 b)=some m
  obtain⟨rows,h5,h6⟩:=h4.inM
  rcases h5 with⟨h5,rfl⟩ | h5
  .rw[h5];rfl
  .rw[h5];exact aHE m rows h6
theorem aCO: FOK PP T 65 ⟨[.w 6,.w 6,.w 0],[7],false,λn p=>dI n p.1 p.2.1 p.2.2⟩:=by
 rintro n ⟨p,q,m⟩ r h aw w
 match aw,w with
 | [a,b,c],w=>
 obtain⟨w1,w2,w3,_⟩:=w
 have hc:c=.lit (.int .i64 m):=Qh.inL (v:=.int .i64 m) w3
 subst hc
 cases n with
 | zero=>cases h
 | succ n=>
  obtain⟨old,h1,h⟩:=bF h
  obtain⟨new,h2,h⟩:=bF h
  cases h
  refine⟨[.lit (.bool (sdB old m new))],[],?_,λH1=>⟨.l _,trivial⟩,λx hx l e=>(by rw[ZJ.1 hx] at e;cases e),λe=>(by cases e)⟩
  have e:(aG.prim 65:Option U4)=some (aAU 196):=rfl
  simp only[fC,e]
  show sdA (fC PP T n) 196 [a,b,.lit (.int .i64 m)] []=_
  simp only[sdA,aKw h1 w1,aKw h2 w2,jV]
def H3: Kn:=⟨65,_,aCO⟩
end
end
section
variable {R:Type}(n:Nat)
noncomputable section
abbrev dX:=H3::aXc
def KS: Lc 21 0 0:=bL 0x11de52f0a82fa6d4ee3049bdcad3ac43e2ed5c15a0b62f1b296c228ae5d7bae0eae dX [] [] @mX
def KR: Lc 21 0 1:=bL 0x482555f87f1f307b0ddddd52b43d3a3b1baf0c68cc9edcd63d0e1c0086 dX [] [] @mW
def Cs: aK->(((List Int×List Aad×List aP×List aD×List Int)->Option R)×Unit)->Unit->Option R:=λa (b,_) _=>bnd (pX n a.Plan.Nodes) λc=>bnd (mS n a.Plan.Arcs) λd=>bnd (gS n a.Plan.Faces) λf=>bnd (jY n a.Features) λg=>bnd (AA n (f,c,g,(ln d)) (d,0)) λh=>bnd (Wv n (f,c,h,(ln g)) (g,0)) λi=>b (f,c,h,i,f)
def Lp:=qM Cs
def KV: Ic:=cG 21 0 1 0x1f5849cd8b58c6efa83970b2784bd047386110811010fc0cbe5afe0733b01 dX [⟨0,[KS]⟩,⟨1,[KR]⟩] [] @Cs
def Cp(n:Nat): Int->((Bool->Option R)×Unit)->Unit->Option R:=λa (b,_) _=>cnd (a==1) (b true)<|cnd (a==2) (b true)<|cnd (a==3) (b true)<|b false
def Ln:=eV Cp
def KQ: Lc 24 0 0:=bH 0x169e16b8488b3425444a7d9f2c0ec1c5be4528fa6 dX [] [] @Cp
def Co: (List Int×List Aad×List aP×List aD×bG)->((Bool->Option R)×Unit)->Unit->Option R:=λ(a,b,c,d,f) (g,_) _=>bnd (kN n (aN.mk b c a) f.ID) λh=>cd (h > 0) (g true)<|bnd (jH n (aK.mk (aN.mk b c a) d) 1 f.ID) λi=>cd ((ln i) > 0) (g true)<|g false
def Lm:=eV Co
def KP: Lc 61 0 0:=bH 0x10381b98384dbe7f707ceaffc4820178c1d999339b29778c0fd1ee5544 dX [] [] @Co
def Cq(n:Nat): (List Int×List Int×List Aad×List aP×List aD×Int×Int)->((Unit->Option R)×((List Aad×(Nat×Nat))->Option R)×Unit)->Unit->Option R:=λ(a,b,c,d,f,g,h) (i,j,_) _=>bnd (Lb<|decide<|0<=g/\g<=h/\h<=(ln c)/\(ln c)<=(ln c)) λ_=>cnd (g==h) (i ())<|bnd (sub c (0,List.length c) 0 g) λl=>bnd (sub c (0,List.length c) h<|ln c) λm=>bnd (b9 c l<|win c<|some m) λo=>bnd (sub o (l.1,l.2+List.length (win c<|some m)) (((l.1,l.2+List.length (win c<|some m)).2:Nat):Int)<|ln c) λr=>bnd (clr o r<|Aad.mk 0<|Aaa.mk 0 0) λs=>j (s,(l.1,l.2+List.length (win c<|some m)))
def Lo:=FM Cq
def KT: Ic:=cG 93 0 3 0x560f84fd30470f976a3a12f33ca06d998850ad522957ad580f15 dX [] [] @Cq
def Cr: (List Int×List Int×List Aad×List aP×List aD×bG)->(((List Aad×Int)->Option R)×(((Nat×Nat)×List Aad)->Option R)×((List Aad×List Aad)->Option R)×Unit)->Unit->Option R:=λ(a,b,c,d,f,g) (h,i,j,_) _=>bnd (oF n (aK.mk (aN.mk c d a) f) g.ID) λl=>cnd l.2 (cnd (g.Kind==1) (h (c,8))<|cnd (g.Kind==3) (bnd (fV c (List.length c) l.1) λ_=>bnd (idx c l.1) λm=>h ((List.set c (Int.toNat l.1)<|Aad.mk m.ID g.At),0))<|bnd (Lm n (a,c,d,f,g)) λo=>cnd o (h (c,13))<|bnd2 (Lo n (a,b,c,d,f,l.1,(wr<|l.1+1))) (λ_=>h (c,0)) λr=>bnd (some r) λs=>i (s.2,s.1))<|cnd (g.Kind==1) (bnd (prd n) λ_=>bnd (aFR c l.1<|Aad.mk g.ID g.At) λt=>j (t,[(Aad.mk g.ID g.At)]))<|h (c,7)
def uK:=in3 Cr
def KU: Ic:=cG 61 0 2 0x10e0b550b23c78ace81c031cbd676dd9e626f5578fcc4d1920e7b216ae21dd37f1cb55f1fda56e44408c0d564bec7 dX [⟨0,[KP]⟩] [KT] @Cr
def fD: (List Int×List Aad×List aP×List aD×Int)->((Int->Option R)×Unit)->Unit->Option R:=λ(a,b,c,d,f) (g,_) _=>cnd (f==0) (bnd (fL n<|aK.mk (aN.mk b c a) d) λh=>g h)<|g f
def cH:=eV fD
def KO: Lc 24 0 2:=bH 0x3bec7661e33a dX [] [] @fD
def nR: (aK×bG×List Int×List Aad×List aP×List aD×Int×Int)->((Bool->Option R)×Unit)->Unit->Option R:=λ(a,b,c,d,f,g,h,i) (j,_) _=>cnd (h==0) (cnd (b.Kind==3) (bnd (dI n a.Plan (aN.mk d f c) i) λl=>cnd l (j true)<|j false)<|cnd (b.Kind==6) (bnd (dI n a.Plan (aN.mk d f c) i) λm=>cnd m (j true)<|j false)<|j false)<|j false
def Gv:=eV nR
def EH: Lc 24 0 4:=bH 0x2b947d5e450b669 dX [] [] @nR
def pV: (aK×bG×List Int×List Aad×List aP×List aD×Int×Int)->((Int->Option R)×Unit)->Unit->Option R:=λ(a,b,c,d,f,g,h,i) (j,_) _=>bnd (Gv n (a,b,c,d,f,g,h,i)) λl=>cnd l (j 12)<|j h
def dZ:=eV pV
def KN: Lc 24 0 3:=bH 0x2b8ff0bcd7c3f57 dX [⟨0,[cs EH]⟩] [] @pV
def zD: ((Nat×Nat)×List Int×List Aad×List aP×List aD×Int)->((Int->Option R)×Unit)->Unit->Option R:=λ(a,b,c,d,f,g) (h,_) _=>cnd (g==0) (bnd (fL n<|aK.mk (aN.mk (win c<|some a) d b) f) λi=>h i)<|h g
def sN:=eV zD
def EG: Lc 24 0 2:=bH 0x46e698012c5de66ead67ae34e681a797 dX [] [] @zD
def zB: (aK×bG×(Nat×Nat)×List Int×List Aad×List aP×List aD×Int×Int)->((Bool->Option R)×Unit)->Unit->Option R:=λ(a,b,c,d,f,g,h,i,j) (l,_) _=>cnd (i==0) (cnd (b.Kind==3) (bnd (dI n a.Plan (aN.mk (win f<|some c) g d) j) λm=>cnd m (l true)<|l false)<|cnd (b.Kind==6) (bnd (dI n a.Plan (aN.mk (win f<|some c) g d) j) λo=>cnd o (l true)<|l false)<|l false)<|l false
def Gu:=eV zB
def EE: Lc 24 0 4:=bH 0x55e59541af434c4c58eddac7465d37dc270 dX [] [] @zB
def zC: (aK×bG×(Nat×Nat)×List Int×List Aad×List aP×List aD×Int×Int)->((Int->Option R)×Unit)->Unit->Option R:=λ(a,b,c,d,f,g,h,i,j) (l,_) _=>bnd (Gu n (a,b,c,d,f,g,h,i,j)) λm=>cnd m (l 12)<|l i
def sM:=eV zC
def EF: Lc 24 0 3:=bH 0x336553ca2e470ac99a3d9c3c07f4af960f9 dX [⟨0,[cs EE]⟩] [] @zC
def ED: Lc 24 0 2:=bH 0x110a67d8a6c6f954cf300b80 dX [] [] @fD
def EB: Lc 24 0 4:=bH 0xc6499c818c5cf850de6848f81e dX [] [] @nR
def EC: Lc 24 0 3:=bH 0xc634ea3c9aab5457c30913fe8c dX [⟨0,[cs EB]⟩] [] @pV
def zA(n:Nat): Int->((Bool->Option R)×Unit)->Unit->Option R:=λa (b,_) _=>cnd (a==4) (b true)<|cnd (a==5) (b true)<|cnd (a==6) (b true)<|b false
def Gt:=eV zA
def EA: Lc 24 0 1:=bH 0x169e16b8488b3425444a7db29423a92d65ab216ae dX [] [] @zA
def yZ(n:Nat): (bG×Int×Int)->((Int->Option R)×Unit)->Unit->Option R:=λ(a,b,c) (d,_) _=>cd (a.C<0) (d b)<|d c
def Gs:=eV yZ
def DZ: Lc 94 0 0:=bH 0x33cea7cf06fe183a4e494e532fab0ebff58500b3de72e4e2e6c7eaf4575d5767ceee80cace7d2c242d09 dX [] [] @yZ
def yY: (List Aad×List Int×List aP×Int×Int)->((Int->Option R)×(Unit->Option R)×Unit)->Unit->Option R:=λ(a,b,c,d,f) (g,h,_) _=>cnd (f==0) (g 12)<|bnd (oC n b f) λi=>cnd i (g 8)<|cnd (d==0) (g 12)<|h ()
def Gq:=pc2 yY
def DY: Lc 94 0 1:=bH 0x1b63438856497e87984f5ea27e43fa3d7dc722d7017442e181f378e40a70108a80aaa5ac7e03a7569650e2f68f7f57b0b83583435a4d8441213542fc01704c5ce748d8f2641 dX [] [] @yY
def nX: (List Int×List Aad×List aD×List Int×Int×List Int×Int)->((List aP×Int)->Option R)->(((List aP)->Option R)×Unit)->(List aP×Int)->Option R:=λ(a,b,c,d,f,g,h) i (j,_) (l,m)=>cd (m<h) (bnd (idx g m) λo=>bnd (zP n (aK.mk (aN.mk b l a) c)<|nF o<|wr<|0-o) λr=>cnd r.2 (cd (o > 0) (bnd (fV l (List.length l) r.1) λ_=>bnd (idx l r.1) λs=>i ((List.set l (Int.toNat r.1)<|aP.mk s.ID s.From s.To s.Via f s.Right),(wr<|m+1)))<|bnd (fV l (List.length l) r.1) λ_=>bnd (idx l r.1) λt=>i ((List.set l (Int.toNat r.1)<|aP.mk t.ID t.From t.To t.Via t.Left f),(wr<|m+1)))<|i (l,(wr<|m+1)))<|j l
def RC:=oH nX
def EN: Lc 123 0 0:=bL 0x8ac523a536ccee35b356e60a1bbeac0952865834750897b5c350e4a74486ee7b6936d595f24f6455dae8bb8bf9b3b36690b88 dX [] [] @nX
def yX: (aD×Int)->((Bool->Option R)×Unit)->Unit->Option R:=λ(a,b) (c,_) _=>bnd (dP n a.Kind) λd=>cnd (d==3) (bnd (oC n a.Parts b) λf=>cnd f (c true)<|c false)<|c false
def Gp:=eV yX
def DX: Lc 123 0 2:=bH 0x123f4322ab24058acf1d94ea1067f85631f5c7a4d4a774778498eb30d75634fbdccf5818f8ee41d3faca9223c55c585f515 dX [] [] @yX
def nW: (List Int×List Int×List Aad×List aP×List aP×Int×Int×Int)->((List aD×Int)->Option R)->(((List aD)->Option R)×Unit)->(List aD×Int)->Option R:=λ(a,b,c,d,f,g,h,i) j (l,_) (m,o)=>cd (o<i) (bnd (fV m (List.length m) o) λ_=>bnd (idx m o) λr=>bnd (Gp n (r,g)) λs=>cnd s (bnd (tM n r.Parts [h]) λt=>bnd (fV m (List.length m) o) λ_=>bnd (idx m o) λu=>j ((List.set m (Int.toNat o)<|aD.mk u.ID u.Kind u.Class u.Name t),(wr<|o+1)))<|j (m,(wr<|o+1)))<|l m
def RB:=oH nW
def EM: Lc 123 0 1:=bL 0x135ec2988422e0e5d470a28c8c2255128d6c8073b99ada1be81b460512b0910e6592379bb1be93882617d7fb376ec1eb dX [⟨0,[cs DX]⟩] [] @nW
def zL: (List Int×List Int×List Aad×List aP×List aD×List Int×List aP×List Int×Int×Int)->(((List Int×List aD×List aP)->Option R)×Unit)->Unit->Option R:=λ(a,b,c,d,f,g,h,i,j,l) (m,_) _=>bnd (RC n (a,c,f,g,l,i,(ln i)) (h,0)) λo=>bnd (tM n a [l]) λr=>bnd (RB n (r,b,c,d,o,j,l,(ln f)) (f,0)) λs=>m (r,s,o)
def Hb:=qM zL
def EZ: Ic:=cG 123 0 4 0x19b021be593ce548cc41fa360319d736149ceb57da7fe97dadcd1c2da0a0f94b6743da77c6ea2f1c638747a07e2c1c6e dX [⟨0,[EN]⟩,⟨1,[EM]⟩] [] @zL
def zM: (List Int×List Int×List Aad×List aP×List aD×bG)->((Int->Option R)×((List aP×List aP×Int)->Option R)×((List aP×List aP×aN×Int)->Option R)×((List Int×List aD×List aP×List aP×aN)->Option R)×Unit)->Unit->Option R:=λ(a,b,c,d,f,g) (h,i,j,l,_) _=>bnd (zP n (aK.mk (aN.mk c d a) f) g.ID) λm=>cnd m.2 (h 8)<|bnd (oF n (aK.mk (aN.mk c d a) f) g.A) λo=>cnd o.2 (bnd (oF n (aK.mk (aN.mk c d a) f) g.B) λr=>cnd r.2 (bnd (mS n d) λs=>bnd (jB n g.Via) λt=>bnd (prd n) λ_=>bnd (aFR s m.1<|aP.mk g.ID g.A g.B t 0 0) λu=>bnd (Jg n<|aN.mk c u a) λv=>cnd (v != 0) (i (u,[(aP.mk g.ID g.A g.B t 0 0)],v))<|bnd (Je n<|aN.mk c u a) λw=>cnd (w.2 != 0) (j (u,[(aP.mk g.ID g.A g.B t 0 0)],w.1,w.2))<|bnd (kG n w.1) λx=>cnd (x.2 != 0) (j (u,[(aP.mk g.ID g.A g.B t 0 0)],w.1,x.2))<|bnd (idx w.1.Arcs m.1) λy=>bnd (idx w.1.Arcs m.1) λz=>bnd (idx x.1 y.Left) λa0=>bnd (idx x.1 z.Right) λb0=>bnd (Px n (aN.mk c d a) g.ID [a0,b0]) λc0=>bnd (fV u (List.length u) m.1) λ_=>bnd (idx u m.1) λd0=>bnd (fV (List.set u (Int.toNat m.1)<|aP.mk d0.ID d0.From d0.To d0.Via c0 d0.Right) (List.length<|List.set u (Int.toNat m.1)<|aP.mk d0.ID d0.From d0.To d0.Via c0 d0.Right) m.1) λ_=>bnd (idx (List.set u (Int.toNat m.1)<|aP.mk d0.ID d0.From d0.To d0.Via c0 d0.Right) m.1) λf0=>cnd (y.Left==z.Right) (cnd (g.C != 0) (j ((List.set (List.set u (Int.toNat m.1)<|aP.mk d0.ID d0.From d0.To d0.Via c0 d0.Right) (Int.toNat m.1)<|aP.mk f0.ID f0.From f0.To f0.Via f0.Left c0),[(aP.mk g.ID g.A g.B t 0 0)],w.1,12))<|l (a,f,(List.set (List.set u (Int.toNat m.1)<|aP.mk d0.ID d0.From d0.To d0.Via c0 d0.Right) (Int.toNat m.1)<|aP.mk f0.ID f0.From f0.To f0.Via f0.Left c0),[(aP.mk g.ID g.A g.B t 0 0)],w.1))<|bnd (Gs n (g,z.Right,y.Left)) λg0=>bnd2 (Gq n (c,a,(List.set (List.set u (Int.toNat m.1)<|aP.mk d0.ID d0.From d0.To d0.Via c0 d0.Right) (Int.toNat m.1)<|aP.mk f0.ID f0.From f0.To f0.Via f0.Left c0),g0,(nF g.C<|wr<|0-g.C))) (λh0=>j ((List.set (List.set u (Int.toNat m.1)<|aP.mk d0.ID d0.From d0.To d0.Via c0 d0.Right) (Int.toNat m.1)<|aP.mk f0.ID f0.From f0.To f0.Via f0.Left c0),[(aP.mk g.ID g.A g.B t 0 0)],w.1,h0)) λi0=>bnd (some i0) λ_=>bnd (idx x.1 g0) λj0=>bnd (Ju n j0) λl0=>bnd (Hb n (a,b,c,d,f,a,(List.set (List.set u (Int.toNat m.1)<|aP.mk d0.ID d0.From d0.To d0.Via c0 d0.Right) (Int.toNat m.1)<|aP.mk f0.ID f0.From f0.To f0.Via f0.Left c0),l0,c0,(nF g.C<|wr<|0-g.C))) λm0=>l (m0.1,m0.2.1,m0.2.2,[(aP.mk g.ID g.A g.B t 0 0)],w.1))<|h 7)<|bnd (oF n (aK.mk (aN.mk c d a) f) g.B) λo0=>cnd o0.2 (h 7)<|h 7
def Hc:=λ(n:Nat) p=>bnd (prd n) λn=>zM n p (λt=>some<|Sum.inl t,λt=>some<|Sum.inr<|Sum.inl t,λt=>some<|Sum.inr<|Sum.inr<|Sum.inl t,λt=>some<|Sum.inr<|Sum.inr<|Sum.inr t,()) ()
def FA: Ic:=cG 94 0 2 0x2c6232a81ff6e874b732b97e15b36e41ab39e33e8101bffdc089218c68c1c3adcbd9b717be85edff39a0064a0c36359d37c4b0290a9d7460ce4e07b74665c7823b123257c0d dX [⟨0,[DZ]⟩,⟨1,[DY]⟩] [EZ] @zM
def yW: (List Int×List Aad×List aP×List aD×Int×Int)->((Bool->Option R)×Unit)->Unit->Option R:=λ(a,b,c,d,f,g) (h,_) _=>cnd (f != g) (bnd (jH n (aK.mk (aN.mk b c a) d) 3 f) λi=>bnd (jH n (aK.mk (aN.mk b c a) d) 3 g) λj=>bnd (eN n i j) λl=>cnd l (h false)<|h true)<|h false
def Gn:=eV yW
def DW: Lc 62 0 0:=bH 0x35e1631f4e310c270cce25581d4a97caec65f1f24c1b85b2c4b19d91c4653c7173fa4eb0 dX [] [] @yW
def zK(n:Nat): (List Int×List Int×List Aad×List aP×List aD×Int×Int)->((Unit->Option R)×((List aP×(Nat×Nat))->Option R)×Unit)->Unit->Option R:=λ(a,b,c,d,f,g,h) (i,j,_) _=>bnd (Lb<|decide<|0<=g/\g<=h/\h<=(ln d)/\(ln d)<=(ln d)) λ_=>cnd (g==h) (i ())<|bnd (sub d (0,List.length d) 0 g) λl=>bnd (sub d (0,List.length d) h<|ln d) λm=>bnd (b9 d l<|win d<|some m) λo=>bnd (sub o (l.1,l.2+List.length (win d<|some m)) (((l.1,l.2+List.length (win d<|some m)).2:Nat):Int)<|ln d) λr=>bnd (clr o r<|aP.mk 0 0 0 [] 0 0) λs=>j (s,(l.1,l.2+List.length (win d<|some m)))
def Ha:=FM zK
def EY: Ic:=cG 96 0 3 0x3ed7f6656a47a08b35f2f7a3671f231a2ef1955766b9f945970759c dX [] [] @zK
def yV(n:Nat): (List Int×List Int×List Aad×List aP×List aD×Int×Int×aP×Int)->(((List aP)->Option R)×Unit)->Unit->Option R:=λ(a,b,c,d,f,g,h,i,j) (l,_) _=>cnd (i.Left==g) (bnd (fV d (List.length d) j) λ_=>bnd (idx d j) λm=>l<|List.set d (Int.toNat j)<|aP.mk m.ID m.From m.To m.Via h m.Right)<|l d
def Gm:=eV yV
def DV: Lc 97 0 1:=bH 0x93d94835394aaf26c3981aaabb456a2022ee2fbca1477423724838471fe6d07f6a10fd2f dX [] [] @yV
def nV: (List Int×List Int×List Aad×List aD×Int×Int×Int)->((List aP×Int)->Option R)->(((List aP)->Option R)×Unit)->(List aP×Int)->Option R:=λ(a,b,c,d,f,g,h) i (j,_) (l,m)=>cd (m<h) (bnd (fV l (List.length l) m) λ_=>bnd (idx l m) λo=>bnd (Gm n (a,b,c,l,d,f,g,o,m)) λr=>cnd (o.Right==f) (bnd (fV r (List.length r) m) λ_=>bnd (idx r m) λs=>i ((List.set r (Int.toNat m)<|aP.mk s.ID s.From s.To s.Via s.Left g),(wr<|m+1)))<|i (r,(wr<|m+1)))<|j l
def QZ:=oH nV
def EL: Lc 97 0 0:=bL 0x2b92ef22921a004f5a0a6e1c344d373aaea5fb6fb71303879a7a93eccdb0180a803 dX [⟨0,[cs DV]⟩] [] @nV
def fY: (Int×Int×List Int)->(((List Int)->Option R)×Unit)->Unit->Option R:=λ(a,b,c) (d,_) _=>bnd (oC n c a) λf=>cnd f (bnd (Oy n c [a]) λg=>cnd (b != 0) (bnd (tM n g [b]) λh=>d h)<|d g)<|d c
def iC:=qM fY
def EX: Ic:=cG 126 11 3 0x1c2946a5b52adba3cecbe dX [] [] @fY
def EW: Ic:=cG 126 12 3 0xf0360e213002f23ff3f5584d52 dX [] [] @fY
def nU: (List Int×List Int×List Aad×List aP×Int×Int×Int)->((List aD×Int)->Option R)->(((List aD)->Option R)×Unit)->(List aD×Int)->Option R:=λ(a,b,c,d,f,g,h) i (j,_) (l,m)=>cd (m<h) (bnd (fV l (List.length l) m) λ_=>bnd (idx l m) λo=>bnd (dP n o.Kind) λr=>cnd (r==3) (bnd (iC n (f,g,o.Parts)) λs=>bnd (fV l (List.length l) m) λ_=>bnd (idx l m) λt=>i ((List.set l (Int.toNat m)<|aD.mk t.ID t.Kind t.Class t.Name s),(wr<|m+1)))<|i (l,(wr<|m+1)))<|j l
def QY:=oH nU
def EK: Lc 97 0 2:=bL 0x14836cb5bf9891036afef2974a2f5e4c0637a0ecbb2fe1358776464ebfcc7a09029a54 dX [] [EW] @nU
def zJ: (List Int×List Int×List Aad×List aP×List aD×Int×Int)->(((List Int×List aP×List aD)->Option R)×Unit)->Unit->Option R:=λ(a,b,c,d,f,g,h) (i,_) _=>bnd (QZ n (a,b,c,f,g,h,(ln d)) (d,0)) λj=>bnd (iC n (g,h,a)) λl=>bnd (QY n (l,b,c,j,g,h,(ln f)) (f,0)) λm=>i (l,j,m)
def sO:=qM zJ
def zI: Ic:=cG 97 0 3 0x5a9ae90b733b934125bcbee2649684decaa dX [⟨0,[EL]⟩,⟨2,[EK]⟩] [EX] @zJ
def yU(n:Nat): ((Nat×Nat)×List Int×List Int×List Aad×List aP×List aD×Int×Int×aP×Int×(Nat×Nat))->(((List aP)->Option R)×Unit)->Unit->Option R:=λ(a,b,c,d,f,g,h,i,j,l,m) (o,_) _=>cnd (j.Left==h) (bnd (idx (win f<|some a) l) λ_=>bnd (idx f<|l+((a.1:Nat):Int)) λr=>o<|List.set f (Int.toNat<|l+((a.1:Nat):Int))<|aP.mk r.ID r.From r.To r.Via i r.Right)<|o f
def Gl:=eV yU
def DU: Lc 97 0 1:=bH 0x2a09c3da4e8126c90df82cca55f8369c0577f4a30f7de879bdeb932c9043e3d4e8c001ff4887bf4e82df dX [] [] @yU
def nT: ((Nat×Nat)×List Int×List Int×List Aad×List aD×Int×Int×(Nat×Nat)×Int)->((List aP×Int)->Option R)->(((List aP)->Option R)×Unit)->(List aP×Int)->Option R:=λ(a,b,c,d,f,g,h,i,j) l (m,_) (o,r)=>cd (r<j) (bnd (idx (win o<|some i) r) λ_=>bnd (idx o<|r+((i.1:Nat):Int)) λs=>bnd (Gl n (a,b,c,d,o,f,g,h,s,r,i)) λt=>cnd (s.Right==g) (bnd (idx (win t<|some a) r) λ_=>bnd (idx t<|r+((a.1:Nat):Int)) λu=>l ((List.set t (Int.toNat<|r+((a.1:Nat):Int))<|aP.mk u.ID u.From u.To u.Via u.Left h),(wr<|r+1)))<|l (t,(wr<|r+1)))<|m o
def QX:=oH nT
def EJ: Lc 97 0 0:=bL 0x173c1f7c466e2d25bcce61944947f30b994776dd284d562e9b4bb6c3ea3e74e484e4b5658 dX [⟨0,[cs DU]⟩] [] @nT
def EU: Ic:=cG 126 11 3 0x1c2946a5b52adba3cecbe dX [] [] @fY
def ET: Ic:=cG 126 12 3 0xf0360e213002f23ff3f5584d52 dX [] [] @fY
def nS: ((Nat×Nat)×List Int×List Int×List Aad×List aP×Int×Int×Int)->((List aD×Int)->Option R)->(((List aD)->Option R)×Unit)->(List aD×Int)->Option R:=λ(a,b,c,d,f,g,h,i) j (l,_) (m,o)=>cd (o<i) (bnd (fV m (List.length m) o) λ_=>bnd (idx m o) λr=>bnd (dP n r.Kind) λs=>cnd (s==3) (bnd (iC n (g,h,r.Parts)) λt=>bnd (fV m (List.length m) o) λ_=>bnd (idx m o) λu=>j ((List.set m (Int.toNat o)<|aD.mk u.ID u.Kind u.Class u.Name t),(wr<|o+1)))<|j (m,(wr<|o+1)))<|l m
def QW:=oH nS
def EI: Lc 97 0 2:=bL 0xaf034e0fd03226285fdb1a9f1a28d641fd58e7cc279673fbd23feda626f442270965e4f21b4 dX [] [ET] @nS
def zH: ((Nat×Nat)×List Int×List Int×List Aad×List aP×List aD×Int×Int)->(((List Int×List aP×List aD)->Option R)×Unit)->Unit->Option R:=λ(a,b,c,d,f,g,h,i) (j,_) _=>bnd (QX n (a,b,c,d,g,h,i,a,((a.2:Nat):Int)) (f,0)) λl=>bnd (iC n (h,i,b)) λm=>bnd (QW n (a,m,c,d,l,h,i,(ln g)) (g,0)) λo=>j (m,l,o)
def Gz:=qM zH
def EV: Ic:=cG 97 0 3 0x12cfdf7b3cdd8471514e2fca19fd80ca214e2e1cc35d1f7e4c dX [⟨0,[EJ]⟩,⟨2,[EI]⟩] [EU] @zH
def zN: (List Int×List Int×List Aad×List aP×List aD×bG)->((Int->Option R)×((List aP×List aP×Int)->Option R)×((List aP×List aP×List Aad×List aP×List Int×Int)->Option R)×((List Int×List aD×List aP×List aP×List Aad×List aP×List Int)->Option R)×((List aP×Int)->Option R)×((List Int×List aP×List aD×Int×Int)->Option R)×(((Nat×Nat)×List Int×List aP×List aD×Int×Int)->Option R)×(((Nat×Nat)×List aP)->Option R)×Unit)->Unit->Option R:=λ(a,b,c,d,f,g) (h,i,j,l,m,o,r,s,_) _=>cnd (g.Kind==4) (bnd2 (Hc n (a,b,c,d,f,g)) (λt=>h t) λu=>bnd2 (some u) (λv=>i (v.1,v.2.1,v.2.2)) λw=>bnd2 (some w) (λx=>j (x.1,x.2.1,x.2.2.1.Nodes,x.2.2.1.Arcs,x.2.2.1.Faces,x.2.2.2)) λy=>bnd (some y) λz=>l (z.1,z.2.1,z.2.2.1,z.2.2.2.1,z.2.2.2.2.Nodes,z.2.2.2.2.Arcs,z.2.2.2.2.Faces))<|bnd (zP n (aK.mk (aN.mk c d a) f) g.ID) λa0=>cnd a0.2 (cnd (g.Kind==6) (bnd (jB n g.Via) λb0=>bnd (fV d (List.length d) a0.1) λ_=>bnd (idx d a0.1) λc0=>m ((List.set d (Int.toNat a0.1)<|aP.mk c0.ID c0.From c0.To b0 c0.Left c0.Right),0))<|bnd (jH n (aK.mk (aN.mk c d a) f) 2 g.ID) λd0=>cd ((ln d0) > 0) (m (d,13))<|bnd (fV d (List.length d) a0.1) λ_=>bnd (idx d a0.1) λf0=>bnd (fV d (List.length d) a0.1) λ_=>bnd (idx d a0.1) λg0=>bnd (Gn n (a,c,d,f,f0.Left,g0.Right)) λh0=>cnd h0 (m (d,13))<|bnd2 (Ha n (a,b,c,d,f,a0.1,(wr<|a0.1+1))) (λ_=>cnd (f0.Left != g0.Right) (bnd (sO n (a,b,c,d,f,(nF f0.Left g0.Right),(BV f0.Left g0.Right))) λi0=>o (i0.1,i0.2.1,i0.2.2,(nF f0.Left g0.Right),(BV f0.Left g0.Right)))<|m (d,0)) λj0=>bnd (some j0) λl0=>cnd (f0.Left != g0.Right) (bnd (Gz n (l0.2,a,b,c,l0.1,f,(nF f0.Left g0.Right),(BV f0.Left g0.Right))) λm0=>r (l0.2,m0.1,m0.2.1,m0.2.2,(nF f0.Left g0.Right),(BV f0.Left g0.Right)))<|s (l0.2,l0.1))<|m (d,7)
def He:=λ(n:Nat) p=>bnd (prd n) λn=>zN n p (λt=>some<|Sum.inl t,λt=>some<|Sum.inr<|Sum.inl t,λt=>some<|Sum.inr<|Sum.inr<|Sum.inl t,λt=>some<|Sum.inr<|Sum.inr<|Sum.inr<|Sum.inl t,λt=>some<|Sum.inr<|Sum.inr<|Sum.inr<|Sum.inr<|Sum.inl t,λt=>some<|Sum.inr<|Sum.inr<|Sum.inr<|Sum.inr<|Sum.inr<|Sum.inl t,λt=>some<|Sum.inr<|Sum.inr<|Sum.inr<|Sum.inr<|Sum.inr<|Sum.inr<|Sum.inl t,λt=>some<|Sum.inr<|Sum.inr<|Sum.inr<|Sum.inr<|Sum.inr<|Sum.inr<|Sum.inr t,()) ()
def FB: Ic:=cG 62 0 2 0x17aa66f80e714cced31db85559881b3aae6d2aa4a186c1e3fd5b8f6499fcca69a3f9168e95e2938086e42780e14e7be8c25330a75f8fea9c335c391720254861994ee7b38988708ffaa888aba81d82819308f4aa6884b703003a36888e7d60e61a30c93a97cbe1c2f44c263d71b0884f56 dX [⟨0,[DW]⟩] [FA,EY,zI,EV] @zN
def DT: Lc 24 0 2:=bH 0x1109dbc14ed9cc08390bcf01 dX [] [] @fD
def iU: (aK×bG×List Int×List Aad×List aP×List aD×Int)->((Bool->Option R)×Unit)->Unit->Option R:=λ(a,b,c,d,f,g,h) (i,_) _=>cnd (h==0) (cnd (b.Kind==3) (bnd (dI n a.Plan (aN.mk d f c) 0) λj=>cnd j (i true)<|i false)<|cnd (b.Kind==6) (bnd (dI n a.Plan (aN.mk d f c) 0) λl=>cnd l (i true)<|i false)<|i false)<|i false
def Gk:=eV iU
def DR: Lc 24 0 4:=bH 0xc64337face4675d5e955debd88 dX [] [] @iU
def iV: (aK×bG×List Int×List Aad×List aP×List aD×Int)->((Int->Option R)×Unit)->Unit->Option R:=λ(a,b,c,d,f,g,h) (i,_) _=>bnd (Gk n (a,b,c,d,f,g,h)) λj=>cnd j (i 12)<|i h
def fN:=eV iV
def DS: Lc 24 0 3:=bH 0xc62e85bd239ca8a3acbce6ee26 dX [⟨0,[cs DR]⟩] [] @iV
def DQ: Lc 24 0 2:=bH 0xc718fa09eeda6ec88e433a3f0c dX [] [] @fD
def DO: Lc 24 0 4:=bH 0xc64a037d28211b9f0b88cdc454 dX [] [] @iU
def DP: Lc 24 0 3:=bH 0xc635513f7d774e6cceefd5f4f2 dX [⟨0,[cs DO]⟩] [] @iV
def yT: (List Int×List Aad×List aD×List aP×Int)->((Int->Option R)×Unit)->Unit->Option R:=λ(a,b,c,d,f) (g,_) _=>cnd (f==0) (bnd (fL n<|aK.mk (aN.mk b d a) c) λh=>g h)<|g f
def Gj:=eV yT
def DN: Lc 24 0 2:=bH 0xabf5ee47308ab802c1c5ec7ede0d6057805726909008d4424 dX [] [] @yT
def yR: (aK×bG×List Int×List Aad×List aD×List aP×Int)->((Bool->Option R)×Unit)->Unit->Option R:=λ(a,b,c,d,f,g,h) (i,_) _=>cnd (h==0) (cnd (b.Kind==3) (bnd (dI n a.Plan (aN.mk d g c) 0) λj=>cnd j (i true)<|i false)<|cnd (b.Kind==6) (bnd (dI n a.Plan (aN.mk d g c) 0) λl=>cnd l (i true)<|i false)<|i false)<|i false
def Gh:=eV yR
def DL: Lc 24 0 4:=bH 0xdc2ba1f5c8cce17394d36b6596f0a71c1f20d002ae807c648 dX [] [] @yR
def yS: (aK×bG×List Int×List Aad×List aD×List aP×Int)->((Int->Option R)×Unit)->Unit->Option R:=λ(a,b,c,d,f,g,h) (i,_) _=>bnd (Gh n (a,b,c,d,f,g,h)) λj=>cnd j (i 12)<|i h
def Gi:=eV yS
def DM: Lc 24 0 3:=bH 0xaab4fc1b635c45e75de2189d95dd0acf4568cf91813fa41fa dX [⟨0,[cs DL]⟩] [] @yS
def DK: Lc 24 0 2:=bH 0x110a0df075464f3cf10e16cb dX [] [] @fD
def DH: Lc 24 0 4:=bH 0x2b952e32beb9e3d dX [] [] @iU
def DJ: Lc 24 0 3:=bH 0x2b90a192eaf755b dX [⟨0,[cs DH]⟩] [] @iV
def nQ: ((Nat×Nat)×List Int×List Aad×List aP×List aD×Int)->((Int->Option R)×Unit)->Unit->Option R:=λ(a,b,c,d,f,g) (h,_) _=>cnd (g==0) (bnd (fL n<|aK.mk (aN.mk c (win d<|some a) b) f) λi=>h i)<|h g
def sK:=eV nQ
def DG: Lc 24 0 2:=bH 0x46e698679f03985c057cfaf6bb07c83c dX [] [] @nQ
def nN: (aK×bG×(Nat×Nat)×List Int×List Aad×List aP×List aD×Int)->((Bool->Option R)×Unit)->Unit->Option R:=λ(a,b,c,d,f,g,h,i) (j,_) _=>cnd (i==0) (cnd (b.Kind==3) (bnd (dI n a.Plan (aN.mk f (win g<|some c) d) 0) λl=>cnd l (j true)<|j false)<|cnd (b.Kind==6) (bnd (dI n a.Plan (aN.mk f (win g<|some c) d) 0) λm=>cnd m (j true)<|j false)<|j false)<|j false
def Gg:=eV nN
def DE: Lc 24 0 4:=bH 0x19dc0ababcc6e88ceb837 dX [] [] @nN
def nP: (aK×bG×(Nat×Nat)×List Int×List Aad×List aP×List aD×Int)->((Int->Option R)×Unit)->Unit->Option R:=λ(a,b,c,d,f,g,h,i) (j,_) _=>bnd (Gg n (a,b,c,d,f,g,h,i)) λl=>cnd l (j 12)<|j i
def sJ:=eV nP
def DF: Lc 24 0 3:=bH 0xf79578ae64def4ccece0 dX [⟨0,[cs DE]⟩] [] @nP
def DD: Lc 24 0 2:=bH 0xf95be776ccb3ed03aa57 dX [] [] @nQ
def DB: Lc 24 0 4:=bH 0x2369c2d13e3e2bdaac dX [] [] @nN
def DC: Lc 24 0 3:=bH 0x1530d39808c9607dd3 dX [⟨0,[cs DB]⟩] [] @nP
def yQ: (List Int×List Aad×List aP×List aD×bG)->((Int->Option R)×(Unit->Option R)×Unit)->Unit->Option R:=λ(a,b,c,d,f) (g,h,_) _=>bnd (oC n a f.ID) λi=>cnd i (bnd (oC n a f.A) λj=>cnd j (g 8)<|h ())<|g 7
def Gf:=pc2 yQ
def CZ: Lc 63 0 0:=bH 0x5b190d8bd477731d63e3209aa77cd45cac9a5e2440131dbffe435024071faa9a27b0a91373f dX [] [] @yQ
def zG: (List Int×List Int×List Aad×List aP×List aD×bG)->((Int->Option R)×((List Int×List aP×List aD×Int×Int)->Option R)×Unit)->Unit->Option R:=λ(a,b,c,d,f,g) (h,i,_) _=>bnd2 (Gf n (a,c,d,f,g)) (λj=>h j) λl=>bnd (some l) λ_=>bnd (sO n (a,b,c,d,f,g.ID,g.A)) λm=>i (m.1,m.2.1,m.2.2,g.ID,g.A)
def Gy:=FM zG
def ER: Ic:=cG 63 0 2 0x234797074e69e7bba53b2f9af256b9e8db1fb5c03b37 dX [⟨0,[CZ]⟩] [zI] @zG
def zE(n:Nat): (List Int×List Int×List Aad×List aP×List aD×Int×Int)->((Unit->Option R)×((List aD×(Nat×Nat))->Option R)×Unit)->Unit->Option R:=λ(a,b,c,d,f,g,h) (i,j,_) _=>bnd (Lb<|decide<|0<=g/\g<=h/\h<=(ln f)/\(ln f)<=(ln f)) λ_=>cnd (g==h) (i ())<|bnd (sub f (0,List.length f) 0 g) λl=>bnd (sub f (0,List.length f) h<|ln f) λm=>bnd (b9 f l<|win f<|some m) λo=>bnd (sub o (l.1,l.2+List.length (win f<|some m)) (((l.1,l.2+List.length (win f<|some m)).2:Nat):Int)<|ln f) λr=>bnd (clr o r<|aD.mk 0 0 0 (⟨#[]⟩:ByteArray) []) λs=>j (s,(l.1,l.2+List.length (win f<|some m)))
def Gw:=FM zE
def EO: Ic:=cG 101 0 3 0x62c51a0336456e5537b3ca5cd2b44af84ff920355f4092fc8bb97f0 dX [] [] @zE
def zF: (List Int×List Int×List Aad×List aP×List aD×bG)->(((List aD×Int)->Option R)×(((Nat×Nat)×List aD)->Option R)×((List aD×Int×Int×Int×ByteArray×List Int×List aD)->Option R)×Unit)->Unit->Option R:=λ(a,b,c,d,f,g) (h,i,j,_) _=>bnd (zO n (aK.mk (aN.mk c d a) f) g.ID) λl=>cnd l.2 (cnd (g.Kind==7) (h (f,8))<|cnd (g.Kind==8) (bnd2 (Gw n (a,b,c,d,f,l.1,(wr<|l.1+1))) (λ_=>h (f,0)) λm=>bnd (some m) λo=>i (o.2,o.1))<|cnd (g.Kind==9) (bnd (fV f (List.length f) l.1) λ_=>bnd (idx f l.1) λr=>h ((List.set f (Int.toNat l.1)<|aD.mk r.ID r.Kind r.Class g.Name r.Parts),0))<|cnd (g.Kind==10) (bnd (fV f (List.length f) l.1) λ_=>bnd (idx f l.1) λs=>h ((List.set f (Int.toNat l.1)<|aD.mk s.ID s.Kind g.B s.Name s.Parts),0))<|cnd (g.Kind==11) (bnd (gS n g.Parts) λt=>bnd (fV f (List.length f) l.1) λ_=>bnd (idx f l.1) λu=>h ((List.set f (Int.toNat l.1)<|aD.mk u.ID u.Kind u.Class u.Name t),0))<|h (f,0))<|cnd (g.Kind==7) (bnd (gS n g.Parts) λv=>bnd (prd n) λ_=>bnd (aFR f l.1<|aD.mk g.ID g.A g.B g.Name v) λw=>j (w,g.ID,g.A,g.B,g.Name,v,[(aD.mk g.ID g.A g.B g.Name v)]))<|h (f,7)
def Gx:=in3 zF
def EQ: Ic:=cG 64 0 2 0x135ec299d7f63a94c0987e8d773e078b1d68263e3e8e7e46aad2d98411de4ec983340c464c306bb86e91356ddc4debf0 dX [] [EO] @zF
def yP: (List Int×(Nat×Nat)×List Aad×List aP×List aD×Int)->((Int->Option R)×Unit)->Unit->Option R:=λ(a,b,c,d,f,g) (h,_) _=>cnd (g==0) (bnd (fL n<|aK.mk (aN.mk c d a)<|win f<|some b) λi=>h i)<|h g
def Ge:=eV yP
def CY: Lc 24 0 2:=bH 0x611637e726b4ea509416267dba9b9 dX [] [] @yP
def yN: (aK×bG×List Int×(Nat×Nat)×List Aad×List aP×List aD×Int)->((Bool->Option R)×Unit)->Unit->Option R:=λ(a,b,c,d,f,g,h,i) (j,_) _=>cnd (i==0) (cnd (b.Kind==3) (bnd (dI n a.Plan (aN.mk f g c) 0) λl=>cnd l (j true)<|j false)<|cnd (b.Kind==6) (bnd (dI n a.Plan (aN.mk f g c) 0) λm=>cnd m (j true)<|j false)<|j false)<|j false
def Gb:=eV yN
def CW: Lc 24 0 4:=bH 0x759d8a82110a5751e2ef88bb49d556f1 dX [] [] @yN
def yO: (aK×bG×List Int×(Nat×Nat)×List Aad×List aP×List aD×Int)->((Int->Option R)×Unit)->Unit->Option R:=λ(a,b,c,d,f,g,h,i) (j,_) _=>bnd (Gb n (a,b,c,d,f,g,h,i)) λl=>cnd l (j 12)<|j i
def Gc:=eV yO
def CX: Lc 24 0 3:=bH 0x465e48389ffef314417f0b29e1aa293a dX [⟨0,[cs CW]⟩] [] @yO
def Jr: Nat->aK->bG->Option (aK×Int)
 | 0,_,_=>none
 | n+1,a,b=>bnd (Lp n a) λc=>bnd (Ln n b.Kind) λd=>cnd d (bnd2 (uK n (c.2.2.2.2,c.1,c.2.1,c.2.2.1,c.2.2.2.1,b)) (λf=>bnd (cH n (c.2.2.2.2,f.1,c.2.2.1,c.2.2.2.1,f.2)) λg=>bnd (dZ n (a,b,c.2.2.2.2,f.1,c.2.2.1,c.2.2.2.1,g,b.ID)) λh=>cnd (h != 0) (some ((aK.mk (aN.mk [] [] []) []),h))<|some ((aK.mk (aN.mk f.1 c.2.2.1 c.2.2.2.2) c.2.2.2.1),0)) λi=>bnd2 (some i) (λj=>bnd (sN n (j.1,c.2.2.2.2,j.2,c.2.2.1,c.2.2.2.1,0)) λl=>bnd (sM n (a,b,j.1,c.2.2.2.2,j.2,c.2.2.1,c.2.2.2.1,l,b.ID)) λm=>cnd (m != 0) (some ((aK.mk (aN.mk [] [] []) []),m))<|some ((aK.mk (aN.mk (win j.2<|some j.1) c.2.2.1 c.2.2.2.2) c.2.2.2.1),0)) λo=>bnd (some o) λr=>bnd (cH n (c.2.2.2.2,r.1,c.2.2.1,c.2.2.2.1,0)) λs=>bnd (dZ n (a,b,c.2.2.2.2,r.1,c.2.2.1,c.2.2.2.1,s,b.ID)) λt=>cnd (t != 0) (some ((aK.mk (aN.mk [] [] []) []),t))<|some ((aK.mk (aN.mk r.1 c.2.2.1 c.2.2.2.2) c.2.2.2.1),0))<|bnd (Gt n b.Kind) λu=>cnd u (bnd2 (He n (c.2.2.2.2,c.1,c.2.1,c.2.2.1,c.2.2.2.1,b)) (λv=>bnd (cH n (c.2.2.2.2,c.2.1,c.2.2.1,c.2.2.2.1,v)) λw=>bnd (dZ n (a,b,c.2.2.2.2,c.2.1,c.2.2.1,c.2.2.2.1,w,0)) λx=>cnd (x != 0) (some ((aK.mk (aN.mk [] [] []) []),x))<|some ((aK.mk (aN.mk c.2.1 c.2.2.1 c.2.2.2.2) c.2.2.2.1),0)) λy=>bnd2 (some y) (λz=>bnd (cH n (c.2.2.2.2,c.2.1,c.2.2.1,c.2.2.2.1,z.2.2)) λa0=>bnd (fN n (a,b,c.2.2.2.2,c.2.1,c.2.2.1,c.2.2.2.1,a0)) λb0=>cnd (b0 != 0) (some ((aK.mk (aN.mk [] [] []) []),b0))<|some ((aK.mk (aN.mk c.2.1 c.2.2.1 c.2.2.2.2) c.2.2.2.1),0)) λc0=>bnd2 (some c0) (λd0=>bnd (cH n (c.2.2.2.2,c.2.1,c.2.2.1,c.2.2.2.1,d0.2.2.2.2.2)) λf0=>bnd (fN n (a,b,c.2.2.2.2,c.2.1,c.2.2.1,c.2.2.2.1,f0)) λg0=>cnd (g0 != 0) (some ((aK.mk (aN.mk [] [] []) []),g0))<|some ((aK.mk (aN.mk c.2.1 c.2.2.1 c.2.2.2.2) c.2.2.2.1),0)) λh0=>bnd2 (some h0) (λi0=>bnd (Gj n (i0.1,c.2.1,i0.2.1,i0.2.2.1,0)) λj0=>bnd (Gi n (a,b,i0.1,c.2.1,i0.2.1,i0.2.2.1,j0)) λl0=>cnd (l0 != 0) (some ((aK.mk (aN.mk [] [] []) []),l0))<|some ((aK.mk (aN.mk c.2.1 i0.2.2.1 i0.1) i0.2.1),0)) λm0=>bnd2 (some m0) (λo0=>bnd (cH n (c.2.2.2.2,c.2.1,o0.1,c.2.2.2.1,o0.2)) λr0=>bnd (dZ n (a,b,c.2.2.2.2,c.2.1,o0.1,c.2.2.2.1,r0,0)) λs0=>cnd (s0 != 0) (some ((aK.mk (aN.mk [] [] []) []),s0))<|some ((aK.mk (aN.mk c.2.1 o0.1 c.2.2.2.2) c.2.2.2.1),0)) λt0=>bnd2 (some t0) (λu0=>bnd (cH n (u0.1,c.2.1,u0.2.1,u0.2.2.1,0)) λv0=>bnd (fN n (a,b,u0.1,c.2.1,u0.2.1,u0.2.2.1,v0)) λw0=>cnd (w0 != 0) (some ((aK.mk (aN.mk [] [] []) []),w0))<|some ((aK.mk (aN.mk c.2.1 u0.2.1 u0.1) u0.2.2.1),0)) λx0=>bnd2 (some x0) (λy0=>bnd (sK n (y0.1,y0.2.1,c.2.1,y0.2.2.1,y0.2.2.2.1,0)) λz0=>bnd (sJ n (a,b,y0.1,y0.2.1,c.2.1,y0.2.2.1,y0.2.2.2.1,z0)) λa1=>cnd (a1 != 0) (some ((aK.mk (aN.mk [] [] []) []),a1))<|some ((aK.mk (aN.mk c.2.1 (win y0.2.2.1<|some y0.1) y0.2.1) y0.2.2.2.1),0)) λb1=>bnd (some b1) λc1=>bnd (sK n (c1.1,c.2.2.2.2,c.2.1,c1.2,c.2.2.2.1,0)) λd1=>bnd (sJ n (a,b,c1.1,c.2.2.2.2,c.2.1,c1.2,c.2.2.2.1,d1)) λf1=>cnd (f1 != 0) (some ((aK.mk (aN.mk [] [] []) []),f1))<|some ((aK.mk (aN.mk c.2.1 (win c1.2<|some c1.1) c.2.2.2.2) c.2.2.2.1),0))<|cnd (b.Kind==12) (bnd2 (Gy n (c.2.2.2.2,c.1,c.2.1,c.2.2.1,c.2.2.2.1,b)) (λg1=>bnd (cH n (c.2.2.2.2,c.2.1,c.2.2.1,c.2.2.2.1,g1)) λh1=>bnd (dZ n (a,b,c.2.2.2.2,c.2.1,c.2.2.1,c.2.2.2.1,h1,0)) λi1=>cnd (i1 != 0) (some ((aK.mk (aN.mk [] [] []) []),i1))<|some ((aK.mk (aN.mk c.2.1 c.2.2.1 c.2.2.2.2) c.2.2.2.1),0)) λj1=>bnd (some j1) λl1=>bnd (cH n (l1.1,c.2.1,l1.2.1,l1.2.2.1,0)) λm1=>bnd (fN n (a,b,l1.1,c.2.1,l1.2.1,l1.2.2.1,m1)) λo1=>cnd (o1 != 0) (some ((aK.mk (aN.mk [] [] []) []),o1))<|some ((aK.mk (aN.mk c.2.1 l1.2.1 l1.1) l1.2.2.1),0))<|bnd2 (Gx n (c.2.2.2.2,c.1,c.2.1,c.2.2.1,c.2.2.2.1,b)) (λr1=>bnd (cH n (c.2.2.2.2,c.2.1,c.2.2.1,r1.1,r1.2)) λs1=>bnd (dZ n (a,b,c.2.2.2.2,c.2.1,c.2.2.1,r1.1,s1,0)) λt1=>cnd (t1 != 0) (some ((aK.mk (aN.mk [] [] []) []),t1))<|some ((aK.mk (aN.mk c.2.1 c.2.2.1 c.2.2.2.2) r1.1),0)) λu1=>bnd2 (some u1) (λv1=>bnd (Ge n (c.2.2.2.2,v1.1,c.2.1,c.2.2.1,v1.2,0)) λw1=>bnd (Gc n (a,b,c.2.2.2.2,v1.1,c.2.1,c.2.2.1,v1.2,w1)) λx1=>cnd (x1 != 0) (some ((aK.mk (aN.mk [] [] []) []),x1))<|some ((aK.mk (aN.mk c.2.1 c.2.2.1 c.2.2.2.2)<|win v1.2<|some v1.1),0)) λy1=>bnd (some y1) λz1=>bnd (cH n (c.2.2.2.2,c.2.1,c.2.2.1,z1.1,0)) λa2=>bnd (fN n (a,b,c.2.2.2.2,c.2.1,c.2.2.1,z1.1,a2)) λb2=>cnd (b2 != 0) (some ((aK.mk (aN.mk [] [] []) []),b2))<|some ((aK.mk (aN.mk c.2.1 c.2.2.1 c.2.2.2.2) z1.1),0)
end
end
section
variable {R:Type}(n:Nat)
noncomputable section
def H7: Kn:=bJ 24 0x2136ae413563cd5 dX [⟨0,[KQ]⟩,⟨1,[EA]⟩,⟨2,[KO,EG,ED,DT,DQ,DN,DK,DG,DD,CY]⟩,⟨3,[KN,EF,EC,DS,DP,DM,DJ,DF,DC,CX]⟩] [KV,KU,FB,ER,EQ] Jr
abbrev aMH:=H7::dX
def AD: (aK×bG×Int)->((Int->Option R)×Unit)->Unit->Option R:=λ(a,b,c) (d,_) _=>bnd (Jw n b) λf=>cnd (f==0) (cnd (c==0) (bnd (fL n a) λg=>d g)<|d f)<|d f
def TN:=eV AD
def S7: Lc 8 0 1:=bH 0xf99c87e79c9ac20d9f9f6383f1aaf1c156c4137f72e12a3f9eae672af82212ad39481 aMH [] [] @AD
def AC: (aK×bG×Int)->(((aK×Int)->Option R)×Unit)->Unit->Option R:=λ(a,b,c) (d,_) _=>cnd (c==0) (bnd (Jr n a b) λf=>d (f.1,f.2))<|d (a,c)
def TM:=eV AC
def S6: Lc 8 0 2:=bH 0xbc9ca7932f3265e5512bcd4dc8f901e6ee89842e8abd875f80edfa5d1cf8b5431562a0218b5 aMH [] [] @AC
def Dw: (List bG×Int)->((aK×Int)->Option R)->(((bG×Int×Int)->Option R)×(aK->Option R)×Unit)->(aK×Int)->Option R:=λ(a,b) c (d,f,_) (g,h)=>cd (h<b) (bnd (idx a h) λi=>bnd (TN n (g,i,h)) λj=>bnd (TM n (g,i,j)) λl=>cnd (l.2 != 0) (d (i,h,l.2))<|c (l.1,(wr<|h+1)))<|f g
def aEp:=oA Dw
def S8: Lc 8 0 0:=bL 0xa96605771504cff60e7bda1defb2fe1a630c0fc109d6bb5f6aef1b5d0a03de4ab749fcf4a93ead aMH [⟨0,[cs S7]⟩,⟨1,[cs S6]⟩] [] @Dw
def Qd: Nat->aK->(List bG)->Option (aK×Int×Int)
 | 0,_,_=>none
 | n+1,a,b=>cd ((ln b) > 4096) (some ((aK.mk (aN.mk [] [] []) []),0,3))<|bnd (FC n a) λc=>bnd2 (aEp n (b,(ln b)) (c,0)) (λd=>some ((aK.mk (aN.mk [] [] []) []),d.2.1,d.2.2)) λf=>bnd (some f) λg=>some (g,(ln b),0)
def aGe: Kn:=bJ 8 0x34a773b337323cc9d036 aMH [⟨0,[S8]⟩] [] Qd
abbrev aXb:=aGe::aMH
def aSo: Kn:=aOK 37 10 19 ⟨_,_,_,rfl,by decide,by decide⟩ (λn p=>clF n p) (λp=>p) λn p r h=>by obtain⟨m,h1,h2,h3⟩:=aON h;subst h2;exact⟨m,h1,rfl,h3,rfl,λe=>by cases (e:_=[]);rfl⟩
abbrev aXa:=aSo::aXb
def aSm: Kn:=aOK 39 0 18 ⟨_,_,_,rfl,by decide,by decide⟩ (λn p=>clF n p) (λp=>p) λn p r h=>by obtain⟨m,h1,h2,h3⟩:=aON h;subst h2;exact⟨m,h1,rfl,h3,rfl,λe=>by cases (e:_=[]);rfl⟩
abbrev aPv:=aSm::aXa
def wS(n:Nat): Unit->(Unit->Option R)->((Unit->Option R)×Unit)->Unit->Option R:=λ_ a (b,_) _=>b ()
def FQ:=oH wS
def o9: Lc 18 0 0:=bL 0x48172d3b20d4241fc6d7a07375544578 aPv [] [] @wS
def wR: (Int×Int×Int×ByteArray×Int)->((List bG×Int)->Option R)->(((List bG)->Option R)×Unit)->(List bG×Int)->Option R:=λ(a,b,c,d,f) g (h,_) (i,j)=>cd (j<f) (bnd (fV i (List.length i) j) λ_=>bnd (idx i j) λl=>bnd (clF n l.Via) λm=>bnd (fV i (List.length i) j) λ_=>bnd (idx i j) λo=>bnd (clF n l.Parts) λr=>bnd (fV (List.set i (Int.toNat j)<|bG.mk o.Kind o.ID o.A o.B o.C o.At m o.Name o.Parts) (List.length<|List.set i (Int.toNat j)<|bG.mk o.Kind o.ID o.A o.B o.C o.At m o.Name o.Parts) j) λ_=>bnd (idx (List.set i (Int.toNat j)<|bG.mk o.Kind o.ID o.A o.B o.C o.At m o.Name o.Parts) j) λs=>g ((List.set (List.set i (Int.toNat j)<|bG.mk o.Kind o.ID o.A o.B o.C o.At m o.Name o.Parts) (Int.toNat j)<|bG.mk s.Kind s.ID s.A s.B s.C s.At s.Via s.Name r),(wr<|j+1)))<|h i
def FP:=oH wR
def o8: Lc 18 0 0:=bL 0x8ac3122c5bf8ca3ce26b01143e5dc33fb9d3233ed2a201a6b6912744a255f709957613f9928778248f5fd7f5ca190a3e407aa aPv [] [] @wR
def Rw: Nat->dJ->Option dJ
 | 0,_=>none
 | n+1,a=>bnd (prd n) λ_=>cnd (List.isEmpty a.Edits) (bnd (FQ n () ()) λ_=>some<|dJ.mk a.Office a.Seq a.Time a.Source [])<|bnd (app ([]:List bG) a.Edits) λb=>bnd (FP n (a.Office,a.Seq,a.Time,a.Source,(ln b)) (b,0)) λc=>some<|dJ.mk a.Office a.Seq a.Time a.Source c
def aCH: Kn:=bJ 18 0x162b92478ca9 aPv [⟨0,[o9,o8]⟩] [] Rw
abbrev aPu:=aCH::aPv
def uB(n:Nat): (dJ×List dJ×List dJ×Int)->((Int×Int)->Option R)->((dJ->Option R)×(Int->Option R)×Unit)->(Int×Int)->Option R:=λ(a,b,c,d) f (g,h,_) (i,j)=>cd (j<d) (bnd (idx c j) λl=>cnd (l.Office != a.Office) (f (i,(wr<|j+1)))<|cnd (l.Seq==a.Seq) (g l)<|f ((nF i l.Seq),(wr<|j+1)))<|h i
def O9:=oA uB
def UM: Lc 6 0 0:=bL 0x1b35528088339e9026558f21ea93190c6a0cb0864fc27204f6dc5d3bfb01299a9bc4d8b805b6c17cd1efd3e06ac1b88b21e2d570789f6b07704816bef033f85732b3044ecb06fc aPu [] [] @uB
def uA: (List Aad×List aP×List Int×List aD×List dJ×Int)->((List dJ×Int)->Option R)->(((List dJ)->Option R)×Unit)->(List dJ×Int)->Option R:=λ(a,b,c,d,f,g) h (i,_) (j,l)=>cd (l<g) (bnd (idx f l) λm=>bnd (Rw n m) λo=>bnd (app j [o]) λr=>h (r,(wr<|l+1)))<|i j
def O8:=oH uA
def UL: Lc 6 0 1:=bL 0x5f6fcda4d8eee798760400f2e72eb3491be0a2a2879632ef947deefaedbb3e009a765e67cf4fbd1e73adb422ab37 aPu [] [] @uA
def iK: Nat->cN->dJ->Option (cN×Int)
 | 0,_,_=>none
 | n+1,a,b=>bnd (ND n b) λc=>cnd (c != 0) (some ((cN.mk (aK.mk (aN.mk [] [] []) []) []),c))<|cd ((ln a.Txns)>=256) (some ((cN.mk (aK.mk (aN.mk [] [] []) []) []),3))<|bnd2 (O9 n (b,[],a.Txns,(ln a.Txns)) (0,0)) (λ_=>some ((cN.mk (aK.mk (aN.mk [] [] []) []) []),8)) λd=>bnd (some d) λf=>cnd ((wr<|b.Seq-1) != f) (some ((cN.mk (aK.mk (aN.mk [] [] []) []) []),10))<|bnd (Qd n a.Survey b.Edits) λg=>cnd (g.2.2 != 0) (some ((cN.mk (aK.mk (aN.mk [] [] []) []) []),g.2.2))<|bnd (O8 n (g.1.Plan.Nodes,g.1.Plan.Arcs,g.1.Plan.Faces,g.1.Features,a.Txns,(ln a.Txns)) ([],0)) λh=>bnd (Rw n b) λi=>bnd (app h [i]) λj=>some ((cN.mk g.1 j),0)
def aAP: Kn:=bJ 6 0x5091ff44d557de5765e9a7b1b4687d86 aPu [⟨0,[UM]⟩,⟨1,[UL]⟩] [] iK
abbrev aS6:=aAP::aPu
def gW(n:Nat): (List Aaa×List Aaa×Int)->(Int->Option R)->((Unit->Option R)×(Unit->Option R)×Unit)->Int->Option R:=λ(a,b,c) d (f,g,_) h=>cd (h<c) (bnd (idx a h) λi=>bnd (idx b h) λj=>cd (i=j) (d<|wr<|h+1)<|f ())<|g ()
def Mk:=oA gW
def Ep: Lc 69 0 0:=bL 0xb5d54b05c0ed92a2add83f2 aS6 [] [] @gW
def fP: Nat->(List Aaa)->(List Aaa)->Option Bool
 | 0,_,_=>none
 | n+1,a,b=>cnd ((ln a) != (ln b)) (some false)<|bnd2 (Mk n (a,b,(ln a)) 0) (λ_=>some false) λc=>bnd (some c) λ_=>some true
def Nj: Kn:=bJ 69 0x2b84506e7 aS6 [⟨0,[Ep]⟩] [] fP
abbrev aMG:=Nj::aS6
def oN(n:Nat): (List Aad×Int)->((List Aab×Int)->Option R)->(((List Aab)->Option R)×Unit)->(List Aab×Int)->Option R:=λ(a,b) c (d,_) (f,g)=>cd (g<b) (bnd (idx a g) λh=>bnd (app f [(Aab.mk 1 h.ID)]) λi=>c (i,(wr<|g+1)))<|d f
def UE:=oH oN
def FV: Lc 29 0 0:=bL 0x4e28e949195b43fbff4b96cc44a18aa94b353707910 aMG [] [] @oN
def oM(n:Nat): (List aP×Int)->((List Aab×Int)->Option R)->(((List Aab)->Option R)×Unit)->(List Aab×Int)->Option R:=λ(a,b) c (d,_) (f,g)=>cd (g<b) (bnd (idx a g) λh=>bnd (app f [(Aab.mk 2 h.ID)]) λi=>c (i,(wr<|g+1)))<|d f
def UD:=oH oM
def FU: Lc 29 0 1:=bL 0x3912ffd9d2e84607646f5d983ed970bff4459b1ca3bf7e aMG [] [] @oM
def oL(n:Nat): (List aD×Int)->((List Aab×Int)->Option R)->(((List Aab)->Option R)×Unit)->(List Aab×Int)->Option R:=λ(a,b) c (d,_) (f,g)=>cd (g<b) (bnd (idx a g) λh=>bnd (app f [(Aab.mk 3 h.ID)]) λi=>c (i,(wr<|g+1)))<|d f
def UC:=oH oL
def FR: Lc 29 0 2:=bL 0x1a2bb20027f1252375ad669f547eff85197735d72 aMG [] [] @oL
def Ig: Nat->aK->Option (List Aab)
 | 0,_=>none
 | n+1,a=>bnd (UE n (a.Plan.Nodes,(ln a.Plan.Nodes)) ([],0)) λb=>bnd (UD n (a.Plan.Arcs,(ln a.Plan.Arcs)) (b,0)) λc=>bnd (UC n (a.Features,(ln a.Features)) (c,0)) λd=>some d
def p8: Kn:=bJ 29 0xbd2685f4bdea983aa aMG [⟨0,[FV]⟩,⟨1,[FU]⟩,⟨2,[FR]⟩] [] Ig
abbrev aVk:=p8::aMG
def oO: Nat->Aac->Aac->Option Int
 | 0,_,_=>none
 | n+1,a,b=>bnd (cJ n a.Kind b.Kind) λc=>bnd (cJ n a.ID b.ID) λd=>bnd (Jy n [c,d]) λf=>some f
def MT: Kn:=bJ 31 0x1b900521f9cb9bc795 aVk [] [] oO
abbrev iF:=MT::aVk
def qU(n:Nat): (List Aad×Int)->(((List<|Int×Aad)×Int)->Option R)->((((List<|Int×Aad))->Option R)×Unit)->((List<|Int×Aad)×Int)->Option R:=λ(a,b) c (d,_) (f,g)=>cd (g<b) (bnd (idx a g) λh=>c ((eI f h.ID h),(wr<|g+1)))<|d f
def r4:=oH qU
def MY: Lc 26 0 0:=bL 0x13148ebbda2a058c1bb68ac622ec0a8a8967151f5051613 iF [] [] @qU
def MW: Lc 68 0 0:=bH 0x890 iF [] [] @cP
def MV: Lc 68 0 1:=bH 0x586fab3c10a6bb1cd587baeacb iF [] [] @cP
def Eg: ((List<|Aab×Aac)×Int×List Aad×List aP×List Int×List aD×List Aad×List aP×List Int×List aD×Int)->((((List<|Aab×Aac)×Int×Int×Int×Int)->Option R)×Unit)->Unit->Option R:=λ(a,b,c,d,f,g,h,i,j,l,m) (o,_) _=>bnd (cQ n ()) λ_=>bnd (cQ n ()) λ_=>o ((eI a (Aab.mk 1 m)<|Aac.mk ((Option.getD (bD a<|Aab.mk 1 m)<|Aac.mk 0 0 0 0).Kind) ((Option.getD (bD a<|Aab.mk 1 m)<|Aac.mk 0 0 0 0).ID) ((Option.getD (bD a<|Aab.mk 1 m)<|Aac.mk 0 0 0 0).Made)<|(Option.getD (bD a<|Aab.mk 1 m)<|Aac.mk 0 0 0 0).Changed),(Option.getD (bD a<|Aab.mk 1 m)<|Aac.mk 0 0 0 0).Kind,(Option.getD (bD a<|Aab.mk 1 m)<|Aac.mk 0 0 0 0).ID,(Option.getD (bD a<|Aab.mk 1 m)<|Aac.mk 0 0 0 0).Made,(Option.getD (bD a<|Aab.mk 1 m)<|Aac.mk 0 0 0 0).Changed)
def r7:=qM Eg
def NB: Ic:=cG 68 0 5 0xfefbad8d840b7363b82d iF [⟨0,[MW]⟩,⟨1,[MV]⟩] [] @Eg
def MU: Lc 68 0 0:=bH 0x890 iF [] [] @cP
def jS(n:Nat): (Int×List Aad×List aP×List Int×List aD×List Aad×List aP×List Int×List aD×Int×Int×Int×Int)->((Unit->Option R)×Unit)->Unit->Option R:=λ(a,b,c,d,f,g,h,i,j,l,m,o,r) (s,_) _=>s ()
def tW:=eV jS
def GM: Lc 68 0 1:=bH 0x5e8d63d39de1480d09fe983c60eb93cf iF [] [] @jS
def Ef: ((List<|Aab×Aac)×Int×List Aad×List aP×List Int×List aD×List Aad×List aP×List Int×List aD×Int)->((((List<|Aab×Aac)×Int×Int×Int)->Option R)×Unit)->Unit->Option R:=λ(a,b,c,d,f,g,h,i,j,l,m) (o,_) _=>bnd (cQ n ()) λ_=>bnd (tW n (b,c,d,f,g,h,i,j,l,(Option.getD (bD a<|Aab.mk 1 m)<|Aac.mk 0 0 0 0).Kind,(Option.getD (bD a<|Aab.mk 1 m)<|Aac.mk 0 0 0 0).ID,(Option.getD (bD a<|Aab.mk 1 m)<|Aac.mk 0 0 0 0).Made,(Option.getD (bD a<|Aab.mk 1 m)<|Aac.mk 0 0 0 0).Changed)) λ_=>o ((eI a (Aab.mk 1 m)<|Aac.mk ((Option.getD (bD a<|Aab.mk 1 m)<|Aac.mk 0 0 0 0).Kind) ((Option.getD (bD a<|Aab.mk 1 m)<|Aac.mk 0 0 0 0).ID) ((Option.getD (bD a<|Aab.mk 1 m)<|Aac.mk 0 0 0 0).Made) b),(Option.getD (bD a<|Aab.mk 1 m)<|Aac.mk 0 0 0 0).Kind,(Option.getD (bD a<|Aab.mk 1 m)<|Aac.mk 0 0 0 0).ID,(Option.getD (bD a<|Aab.mk 1 m)<|Aac.mk 0 0 0 0).Made)
def r6:=qM Ef
def NA: Ic:=cG 68 0 5 0xba1b6f67cf584842ad7aa1e iF [⟨0,[MU]⟩,⟨1,[GM]⟩] [] @Ef
def jR(n:Nat): (Int×List Aad×List aP×List Int×List aD×List Aad×List aP×List Int×List aD×Int×Int×Int×Int×Int)->((Unit->Option R)×Unit)->Unit->Option R:=λ(a,b,c,d,f,g,h,i,j,l,m,o,r,s) (t,_) _=>t ()
def tV:=eV jR
def GL: Lc 68 0 0:=bH 0x7fbc02190771ce53471b7ddaee840fdbbf50f64603f7439198d5 iF [] [] @jR
def jQ(n:Nat): (Int×List Aad×List aP×List Int×List aD×List Aad×List aP×List Int×List aD×Int×Int)->((Unit->Option R)×Unit)->Unit->Option R:=λ(a,b,c,d,f,g,h,i,j,l,m) (o,_) _=>o ()
def tU:=eV jQ
def GK: Lc 68 0 1:=bH 0x450b0a1780dbba4004563f0337fe5ecea18 iF [] [] @jQ
def Au: ((List<|Aab×Aac)×Int×List Aad×List aP×List Int×List aD×List Aad×List aP×List Int×List aD×Int)->((((List<|Aab×Aac))->Option R)×Unit)->Unit->Option R:=λ(a,b,c,d,f,g,h,i,j,l,m) (o,_) _=>bnd (tV n (b,c,d,f,g,h,i,j,l,(Option.getD (bD a<|Aab.mk 1 m)<|Aac.mk 0 0 0 0).Kind,(Option.getD (bD a<|Aab.mk 1 m)<|Aac.mk 0 0 0 0).ID,(Option.getD (bD a<|Aab.mk 1 m)<|Aac.mk 0 0 0 0).Made,(Option.getD (bD a<|Aab.mk 1 m)<|Aac.mk 0 0 0 0).Changed,m)) λ_=>bnd (tU n (b,c,d,f,g,h,i,j,l,m,b)) λ_=>o<|eI a (Aab.mk 1 m)<|Aac.mk 1 m b b
def Ko:=qM Au
def HA: Ic:=cG 68 0 5 0x34ecb548b823a7d4e4163cc8764841a893b iF [⟨0,[GL]⟩,⟨1,[GK]⟩] [] @Au
def qT: (Int×List Aad×List aP×List Int×List aD×List Aad×List aP×List Int×List aD×(List<|Int×Aad)×List Aad×Int)->(((List<|Aab×Aac)×Int)->Option R)->((((List<|Aab×Aac))->Option R)×Unit)->((List<|Aab×Aac)×Int)->Option R:=λ(a,b,c,d,f,g,h,i,j,l,m,o) r (s,_) (t,u)=>cd (u<o) (bnd (idx m u) λv=>cnd (Option.isSome<|bD l v.ID) (cd ((Aaa.mk ((Option.getD (bD l v.ID)<|Aad.mk 0<|Aaa.mk 0 0).At.X)<|(Option.getD (bD l v.ID)<|Aad.mk 0<|Aaa.mk 0 0).At.Y)=v.At) (bnd (r7 n (t,a,b,c,d,f,g,h,i,j,v.ID)) λw=>r (w.1,(wr<|u+1)))<|bnd (r6 n (t,a,b,c,d,f,g,h,i,j,v.ID)) λx=>r (x.1,(wr<|u+1)))<|cd ((Aaa.mk ((Option.getD (bD l v.ID)<|Aad.mk 0<|Aaa.mk 0 0).At.X)<|(Option.getD (bD l v.ID)<|Aad.mk 0<|Aaa.mk 0 0).At.Y)=v.At) (bnd (Ko n (t,a,b,c,d,f,g,h,i,j,v.ID)) λy=>r (y,(wr<|u+1)))<|bnd (Ko n (t,a,b,c,d,f,g,h,i,j,v.ID)) λz=>r (z,(wr<|u+1)))<|s t
def r3:=oH qT
def MX: Lc 26 0 1:=bL 0xf19fe73cfa27f13424e99cc9908adb401a0a0ca4802c1bd1c218c422425adec371 iF [] [NB,NA,HA] @qT
def Eh: ((List<|Aab×Aac)×Int×List Aad×List aP×List Int×List aD×List Aad×List aP×List Int×List aD)->((((List<|Aab×Aac)×(List<|Int×Aad))->Option R)×Unit)->Unit->Option R:=λ(a,b,c,d,f,g,h,i,j,l) (m,_) _=>bnd (r4 n (c,(ln c)) ([],0)) λo=>bnd (r3 n (b,c,d,f,g,h,i,j,l,o,h,(ln h)) (a,0)) λr=>m (r,o)
def wT:=qM Eh
def NC: Ic:=cG 26 0 1 0x9613802edf460c256b47ad3b1649c4f603a2756fb934793ce iF [⟨0,[MY]⟩,⟨1,[MX]⟩] [] @Eh
def oR(n:Nat): (List aP×Int)->(((List<|Int×aP)×Int)->Option R)->((((List<|Int×aP))->Option R)×Unit)->((List<|Int×aP)×Int)->Option R:=λ(a,b) c (d,_) (f,g)=>cd (g<b) (bnd (idx a g) λh=>c ((eI f h.ID h),(wr<|g+1)))<|d f
def UK:=oH oR
def GR: Lc 27 0 0:=bL 0x13148eaa47eb28f83fa80b2c0ddc16304912d18e11ba5b4 iF [] [] @oR
def GJ: Lc 68 0 0:=bH 0x890 iF [] [] @cP
def GI: Lc 68 0 1:=bH 0x586fab3c10a6bb1cd587baeacb iF [] [] @cP
def Aq: ((List<|Aab×Aac)×Int×List Aad×List aP×List Int×List aD×List Aad×List aP×List Int×List aD×Int)->((((List<|Aab×Aac)×Int×Int×Int×Int)->Option R)×Unit)->Unit->Option R:=λ(a,b,c,d,f,g,h,i,j,l,m) (o,_) _=>bnd (cQ n ()) λ_=>bnd (cQ n ()) λ_=>o ((eI a (Aab.mk 2 m)<|Aac.mk ((Option.getD (bD a<|Aab.mk 2 m)<|Aac.mk 0 0 0 0).Kind) ((Option.getD (bD a<|Aab.mk 2 m)<|Aac.mk 0 0 0 0).ID) ((Option.getD (bD a<|Aab.mk 2 m)<|Aac.mk 0 0 0 0).Made)<|(Option.getD (bD a<|Aab.mk 2 m)<|Aac.mk 0 0 0 0).Changed),(Option.getD (bD a<|Aab.mk 2 m)<|Aac.mk 0 0 0 0).Kind,(Option.getD (bD a<|Aab.mk 2 m)<|Aac.mk 0 0 0 0).ID,(Option.getD (bD a<|Aab.mk 2 m)<|Aac.mk 0 0 0 0).Made,(Option.getD (bD a<|Aab.mk 2 m)<|Aac.mk 0 0 0 0).Changed)
def Km:=qM Aq
def GY: Ic:=cG 68 0 5 0xfefbad8e159f6ccb1e0d iF [⟨0,[GJ]⟩,⟨1,[GI]⟩] [] @Aq
def GH: Lc 68 0 0:=bH 0x890 iF [] [] @cP
def GG: Lc 68 0 1:=bH 0x5e8d63d39de1480d09fe983c60eb93cf iF [] [] @jS
def Ap: ((List<|Aab×Aac)×Int×List Aad×List aP×List Int×List aD×List Aad×List aP×List Int×List aD×Int)->((((List<|Aab×Aac)×Int×Int×Int)->Option R)×Unit)->Unit->Option R:=λ(a,b,c,d,f,g,h,i,j,l,m) (o,_) _=>bnd (cQ n ()) λ_=>bnd (tW n (b,c,d,f,g,h,i,j,l,(Option.getD (bD a<|Aab.mk 2 m)<|Aac.mk 0 0 0 0).Kind,(Option.getD (bD a<|Aab.mk 2 m)<|Aac.mk 0 0 0 0).ID,(Option.getD (bD a<|Aab.mk 2 m)<|Aac.mk 0 0 0 0).Made,(Option.getD (bD a<|Aab.mk 2 m)<|Aac.mk 0 0 0 0).Changed)) λ_=>o ((eI a (Aab.mk 2 m)<|Aac.mk ((Option.getD (bD a<|Aab.mk 2 m)<|Aac.mk 0 0 0 0).Kind) ((Option.getD (bD a<|Aab.mk 2 m)<|Aac.mk 0 0 0 0).ID) ((Option.getD (bD a<|Aab.mk 2 m)<|Aac.mk 0 0 0 0).Made) b),(Option.getD (bD a<|Aab.mk 2 m)<|Aac.mk 0 0 0 0).Kind,(Option.getD (bD a<|Aab.mk 2 m)<|Aac.mk 0 0 0 0).ID,(Option.getD (bD a<|Aab.mk 2 m)<|Aac.mk 0 0 0 0).Made)
def mU:=qM Ap
def GX: Ic:=cG 68 0 5 0xba1b6f67cf61618243f0ffe iF [⟨0,[GH]⟩,⟨1,[GG]⟩] [] @Ap
def GF: Lc 68 0 0:=bH 0x7fbc02190771ce53471bfecb11e53e84e0fdd0a068ce80386b42 iF [] [] @jR
def GE: Lc 68 0 1:=bH 0x450b0a178ff8a20b7c12fe7262f792d3688 iF [] [] @jQ
def Ao: ((List<|Aab×Aac)×Int×List Aad×List aP×List Int×List aD×List Aad×List aP×List Int×List aD×Int)->((((List<|Aab×Aac))->Option R)×Unit)->Unit->Option R:=λ(a,b,c,d,f,g,h,i,j,l,m) (o,_) _=>bnd (tV n (b,c,d,f,g,h,i,j,l,(Option.getD (bD a<|Aab.mk 2 m)<|Aac.mk 0 0 0 0).Kind,(Option.getD (bD a<|Aab.mk 2 m)<|Aac.mk 0 0 0 0).ID,(Option.getD (bD a<|Aab.mk 2 m)<|Aac.mk 0 0 0 0).Made,(Option.getD (bD a<|Aab.mk 2 m)<|Aac.mk 0 0 0 0).Changed,m)) λ_=>bnd (tU n (b,c,d,f,g,h,i,j,l,m,b)) λ_=>o<|eI a (Aab.mk 2 m)<|Aac.mk 2 m b b
def iX:=qM Ao
def GW: Ic:=cG 68 0 5 0x34ecb548d6600db3840af01339e3ef2df1d iF [⟨0,[GF]⟩,⟨1,[GE]⟩] [] @Ao
def eY: (Int×List Aad×List aP×List Int×List aD×List Aad×List aP×List Int×List aD×(List<|Int×aP)×List aP×Int)->(((List<|Aab×Aac)×Int)->Option R)->((((List<|Aab×Aac))->Option R)×Unit)->((List<|Aab×Aac)×Int)->Option R:=λ(a,b,c,d,f,g,h,i,j,l,m,o) r (s,_) (t,u)=>cd (u<o) (bnd (idx m u) λv=>cnd (Option.isSome<|bD l v.ID) (cnd (v.From==(Option.getD (bD l v.ID)<|aP.mk 0 0 0 [] 0 0).From) (cnd (v.To==(Option.getD (bD l v.ID)<|aP.mk 0 0 0 [] 0 0).To) (bnd (fP n v.Via<|(Option.getD (bD l v.ID)<|aP.mk 0 0 0 [] 0 0).Via) λw=>cnd w (bnd (Km n (t,a,b,c,d,f,g,h,i,j,v.ID)) λx=>r (x.1,(wr<|u+1)))<|bnd (mU n (t,a,b,c,d,f,g,h,i,j,v.ID)) λy=>r (y.1,(wr<|u+1)))<|bnd (mU n (t,a,b,c,d,f,g,h,i,j,v.ID)) λz=>r (z.1,(wr<|u+1)))<|bnd (mU n (t,a,b,c,d,f,g,h,i,j,v.ID)) λa0=>r (a0.1,(wr<|u+1)))<|cnd (v.From==(Option.getD (bD l v.ID)<|aP.mk 0 0 0 [] 0 0).From) (cnd (v.To==(Option.getD (bD l v.ID)<|aP.mk 0 0 0 [] 0 0).To) (bnd (fP n v.Via<|(Option.getD (bD l v.ID)<|aP.mk 0 0 0 [] 0 0).Via) λb0=>cnd b0 (bnd (iX n (t,a,b,c,d,f,g,h,i,j,v.ID)) λc0=>r (c0,(wr<|u+1)))<|bnd (iX n (t,a,b,c,d,f,g,h,i,j,v.ID)) λd0=>r (d0,(wr<|u+1)))<|bnd (iX n (t,a,b,c,d,f,g,h,i,j,v.ID)) λf0=>r (f0,(wr<|u+1)))<|bnd (iX n (t,a,b,c,d,f,g,h,i,j,v.ID)) λg0=>r (g0,(wr<|u+1)))<|s t
def UJ:=oH eY
def GQ: Lc 27 0 1:=bL 0xf19fe73cfa27f134255b638df726511977c78933fdd7ab3862d4ca8f0502181b2c iF [] [GY,GX,GW] @eY
def As: ((List<|Aab×Aac)×Int×List Aad×List aP×List Int×List aD×List Aad×List aP×List Int×List aD)->((((List<|Aab×Aac)×(List<|Int×aP))->Option R)×Unit)->Unit->Option R:=λ(a,b,c,d,f,g,h,i,j,l) (m,_) _=>bnd (UK n (d,(ln d)) ([],0)) λo=>bnd (UJ n (b,c,d,f,g,h,i,j,l,o,i,(ln i)) (a,0)) λr=>m (r,o)
def tZ:=qM As
def GZ: Ic:=cG 27 0 1 0x9613802f117aa12be8dbfddb7d9b97258888b8a43a9ad2d95 iF [⟨0,[GR]⟩,⟨1,[GQ]⟩] [] @As
def oQ(n:Nat): (List aD×Int)->(((List<|Int×aD)×Int)->Option R)->((((List<|Int×aD))->Option R)×Unit)->((List<|Int×aD)×Int)->Option R:=λ(a,b) c (d,_) (f,g)=>cd (g<b) (bnd (idx a g) λh=>c ((eI f h.ID h),(wr<|g+1)))<|d f
def UI:=oH oQ
def GP: Lc 28 0 0:=bL 0x13148ebbda659b34ff338c36095a157309208b31740741f iF [] [] @oQ
def Aj: (aD×Int×Int×Int×ByteArray×List Int)->((Bool->Option R)×Unit)->Unit->Option R:=λ(a,b,c,d,f,g) (h,_) _=>cnd (a.Kind==c) (cnd (a.Class==d) (cd (a.Name=f) (bnd (eN n a.Parts g) λi=>cnd i (h true)<|h false)<|h false)<|h false)<|h false
def tT:=eV Aj
def GD: Lc 28 0 2:=bH 0x57e8d15572a07a380e4fbb220ce360ffad46dcf8a4be204a7d7715741895ff3e8ddef9fefb7831ff969d iF [] [] @Aj
def GC: Lc 68 0 0:=bH 0x890 iF [] [] @cP
def GB: Lc 68 0 1:=bH 0x586fab3c10a6bb1cd587baeacb iF [] [] @cP
def Am: ((List<|Aab×Aac)×Int×List Aad×List aP×List Int×List aD×List Aad×List aP×List Int×List aD×Int)->((((List<|Aab×Aac)×Int×Int×Int×Int)->Option R)×Unit)->Unit->Option R:=λ(a,b,c,d,f,g,h,i,j,l,m) (o,_) _=>bnd (cQ n ()) λ_=>bnd (cQ n ()) λ_=>o ((eI a (Aab.mk 3 m)<|Aac.mk ((Option.getD (bD a<|Aab.mk 3 m)<|Aac.mk 0 0 0 0).Kind) ((Option.getD (bD a<|Aab.mk 3 m)<|Aac.mk 0 0 0 0).ID) ((Option.getD (bD a<|Aab.mk 3 m)<|Aac.mk 0 0 0 0).Made)<|(Option.getD (bD a<|Aab.mk 3 m)<|Aac.mk 0 0 0 0).Changed),(Option.getD (bD a<|Aab.mk 3 m)<|Aac.mk 0 0 0 0).Kind,(Option.getD (bD a<|Aab.mk 3 m)<|Aac.mk 0 0 0 0).ID,(Option.getD (bD a<|Aab.mk 3 m)<|Aac.mk 0 0 0 0).Made,(Option.getD (bD a<|Aab.mk 3 m)<|Aac.mk 0 0 0 0).Changed)
def Kl:=qM Am
def GU: Ic:=cG 68 0 5 0xfefbad8b3dbb8dc620ad iF [⟨0,[GC]⟩,⟨1,[GB]⟩] [] @Am
def GA: Lc 68 0 0:=bH 0x890 iF [] [] @cP
def FZ: Lc 68 0 1:=bH 0x5e8d63d39de1480d09fe983c60eb93cf iF [] [] @jS
def Al: ((List<|Aab×Aac)×Int×List Aad×List aP×List Int×List aD×List Aad×List aP×List Int×List aD×Int)->((((List<|Aab×Aac)×Int×Int×Int)->Option R)×Unit)->Unit->Option R:=λ(a,b,c,d,f,g,h,i,j,l,m) (o,_) _=>bnd (cQ n ()) λ_=>bnd (tW n (b,c,d,f,g,h,i,j,l,(Option.getD (bD a<|Aab.mk 3 m)<|Aac.mk 0 0 0 0).Kind,(Option.getD (bD a<|Aab.mk 3 m)<|Aac.mk 0 0 0 0).ID,(Option.getD (bD a<|Aab.mk 3 m)<|Aac.mk 0 0 0 0).Made,(Option.getD (bD a<|Aab.mk 3 m)<|Aac.mk 0 0 0 0).Changed)) λ_=>o ((eI a (Aab.mk 3 m)<|Aac.mk ((Option.getD (bD a<|Aab.mk 3 m)<|Aac.mk 0 0 0 0).Kind) ((Option.getD (bD a<|Aab.mk 3 m)<|Aac.mk 0 0 0 0).ID) ((Option.getD (bD a<|Aab.mk 3 m)<|Aac.mk 0 0 0 0).Made) b),(Option.getD (bD a<|Aab.mk 3 m)<|Aac.mk 0 0 0 0).Kind,(Option.getD (bD a<|Aab.mk 3 m)<|Aac.mk 0 0 0 0).ID,(Option.getD (bD a<|Aab.mk 3 m)<|Aac.mk 0 0 0 0).Made)
def Kk:=qM Al
def GT: Ic:=cG 68 0 5 0xba1b6f67cf33e34453a129e iF [⟨0,[GA]⟩,⟨1,[FZ]⟩] [] @Al
def FY: Lc 68 0 0:=bH 0x7fbc02190771ce534701ce03e227c42a09e2ae890703e00395e0 iF [] [] @jR
def FX: Lc 68 0 1:=bH 0x450b0a147e198cb729bc1bdda85901dafc8 iF [] [] @jQ
def Ak: ((List<|Aab×Aac)×Int×List Aad×List aP×List Int×List aD×List Aad×List aP×List Int×List aD×Int)->((((List<|Aab×Aac))->Option R)×Unit)->Unit->Option R:=λ(a,b,c,d,f,g,h,i,j,l,m) (o,_) _=>bnd (tV n (b,c,d,f,g,h,i,j,l,(Option.getD (bD a<|Aab.mk 3 m)<|Aac.mk 0 0 0 0).Kind,(Option.getD (bD a<|Aab.mk 3 m)<|Aac.mk 0 0 0 0).ID,(Option.getD (bD a<|Aab.mk 3 m)<|Aac.mk 0 0 0 0).Made,(Option.getD (bD a<|Aab.mk 3 m)<|Aac.mk 0 0 0 0).Changed,m)) λ_=>bnd (tU n (b,c,d,f,g,h,i,j,l,m,b)) λ_=>o<|eI a (Aab.mk 3 m)<|Aac.mk 3 m b b
def tX:=qM Ak
def GS: Ic:=cG 68 0 5 0x34ecb5483f32105a64436f9d67d98b931b3 iF [⟨0,[FY]⟩,⟨1,[FX]⟩] [] @Ak
def eX: (Int×List Aad×List aP×List Int×List aD×List Aad×List aP×List Int×List aD×(List<|Int×aD)×List aD×Int)->(((List<|Aab×Aac)×Int)->Option R)->((((List<|Aab×Aac))->Option R)×Unit)->((List<|Aab×Aac)×Int)->Option R:=λ(a,b,c,d,f,g,h,i,j,l,m,o) r (s,_) (t,u)=>cd (u<o) (bnd (idx m u) λv=>cnd (Option.isSome<|bD l v.ID) (bnd (tT n (v,(Option.getD (bD l v.ID)<|aD.mk 0 0 0 (⟨#[]⟩:ByteArray) []).ID,(Option.getD (bD l v.ID)<|aD.mk 0 0 0 (⟨#[]⟩:ByteArray) []).Kind,(Option.getD (bD l v.ID)<|aD.mk 0 0 0 (⟨#[]⟩:ByteArray) []).Class,(Option.getD (bD l v.ID)<|aD.mk 0 0 0 (⟨#[]⟩:ByteArray) []).Name,(Option.getD (bD l v.ID)<|aD.mk 0 0 0 (⟨#[]⟩:ByteArray) []).Parts)) λw=>cnd w (bnd (Kl n (t,a,b,c,d,f,g,h,i,j,v.ID)) λx=>r (x.1,(wr<|u+1)))<|bnd (Kk n (t,a,b,c,d,f,g,h,i,j,v.ID)) λy=>r (y.1,(wr<|u+1)))<|bnd (tT n (v,(Option.getD (bD l v.ID)<|aD.mk 0 0 0 (⟨#[]⟩:ByteArray) []).ID,(Option.getD (bD l v.ID)<|aD.mk 0 0 0 (⟨#[]⟩:ByteArray) []).Kind,(Option.getD (bD l v.ID)<|aD.mk 0 0 0 (⟨#[]⟩:ByteArray) []).Class,(Option.getD (bD l v.ID)<|aD.mk 0 0 0 (⟨#[]⟩:ByteArray) []).Name,(Option.getD (bD l v.ID)<|aD.mk 0 0 0 (⟨#[]⟩:ByteArray) []).Parts)) λz=>cnd z (bnd (tX n (t,a,b,c,d,f,g,h,i,j,v.ID)) λa0=>r (a0,(wr<|u+1)))<|bnd (tX n (t,a,b,c,d,f,g,h,i,j,v.ID)) λb0=>r (b0,(wr<|u+1)))<|s t
def UH:=oH eX
def GO: Lc 28 0 1:=bL 0xb070b3eb16eb8ab203d1a9a991ad33ae70b99c356becb04e9dc5138a9a01657c1f209 iF [⟨0,[cs GD]⟩] [GU,GT,GS] @eX
def An: ((List<|Aab×Aac)×Int×List Aad×List aP×List Int×List aD×List Aad×List aP×List Int×List aD)->((((List<|Aab×Aac)×(List<|Int×aD))->Option R)×Unit)->Unit->Option R:=λ(a,b,c,d,f,g,h,i,j,l) (m,_) _=>bnd (UI n (g,(ln g)) ([],0)) λo=>bnd (UH n (b,c,d,f,g,h,i,j,l,o,l,(ln l)) (a,0)) λr=>m (r,o)
def tY:=qM An
def GV: Ic:=cG 28 0 1 0x96134dc683befd11fbf6cb56a5779a52166e707ed4b2208c0 iF [⟨0,[GP]⟩,⟨1,[GO]⟩] [] @An
def kX: (List Aac×List dJ×Int)->(((List<|Aab×Aac)×Int×List Aad×List aP×List Int×List aD×List Aad×List aP×List Int×List aD×List Aad×List aP×List Int×List aD×List dJ×Int)->Option R)->((((List<|Aab×Aac)×Int×List Aad×List aP×List Int×List aD×List Aad×List aP×List Int×List aD×List Aad×List aP×List Int×List aD×List dJ×dJ×cN)->Option R)×(((List<|Aab×Aac)×Int×List Aad×List aP×List Int×List aD×List Aad×List aP×List Int×List aD×List Aad×List aP×List Int×List aD×List dJ)->Option R)×Unit)->((List<|Aab×Aac)×Int×List Aad×List aP×List Int×List aD×List Aad×List aP×List Int×List aD×List Aad×List aP×List Int×List aD×List dJ×Int)->Option R:=λ(a,b,c) d (f,g,_) (h,i,j,l,m,o,r,s,t,u,v,w,x,y,z,a0)=>cd (a0<c) (bnd (idx b a0) λb0=>bnd (iK n (cN.mk (aK.mk (aN.mk v w x) y) z) b0) λc0=>cnd (c0.2 != 0) (f (h,i,j,l,m,o,r,s,t,u,v,w,x,y,z,b0,c0.1))<|bnd (Lb<|Nat.ble 4 n) λ_=>bnd (wT n (h,(wr<|a0+1),v,w,x,y,c0.1.Survey.Plan.Nodes,c0.1.Survey.Plan.Arcs,c0.1.Survey.Plan.Faces,c0.1.Survey.Features)) λd0=>bnd (tZ n (d0.1,(wr<|a0+1),v,w,x,y,c0.1.Survey.Plan.Nodes,c0.1.Survey.Plan.Arcs,c0.1.Survey.Plan.Faces,c0.1.Survey.Features)) λf0=>bnd (tY n (f0.1,(wr<|a0+1),v,w,x,y,c0.1.Survey.Plan.Nodes,c0.1.Survey.Plan.Arcs,c0.1.Survey.Plan.Faces,c0.1.Survey.Features)) λg0=>d (g0.1,(wr<|a0+1),v,w,x,y,c0.1.Survey.Plan.Nodes,c0.1.Survey.Plan.Arcs,c0.1.Survey.Plan.Faces,c0.1.Survey.Features,c0.1.Survey.Plan.Nodes,c0.1.Survey.Plan.Arcs,c0.1.Survey.Plan.Faces,c0.1.Survey.Features,c0.1.Txns,(wr<|a0+1)))<|g (h,i,j,l,m,o,r,s,t,u,v,w,x,y,z)
def r5:=oA kX
def MZ: Lc 10 0 0:=bL 0x1389a68136b4819c4aa05e2fd3ea87c821ec299965e3fe69e5d7ba94c41f65eaa27f9dcee57a7f8bff06e1beabd2bd4ad64c9381e3bdf057a2aba2c5c173fa9aa469a0e7cdc26874caf8055ddc71845f27441 iF [] [NC,GZ,GV] @kX
def oP(n:Nat): ((List<|Aab×Aac)×Int×List Aad×List aP×List Int×List aD×List Aad×List aP×List Int×List aD×List Aab×Int)->((List Aac×Int)->Option R)->(((List Aac)->Option R)×Unit)->(List Aac×Int)->Option R:=λ(a,b,c,d,f,g,h,i,j,l,m,o) r (s,_) (t,u)=>cd (u<o) (bnd (idx m u) λv=>bnd (app t [(Aac.mk ((Option.getD (bD a v)<|Aac.mk 0 0 0 0).Kind) ((Option.getD (bD a v)<|Aac.mk 0 0 0 0).ID) ((Option.getD (bD a v)<|Aac.mk 0 0 0 0).Made)<|(Option.getD (bD a v)<|Aac.mk 0 0 0 0).Changed)]) λw=>r (w,(wr<|u+1)))<|s t
def UG:=oH oP
def GN: Lc 10 0 2:=bL 0x175979f7b5afc375f89f5db13030236581bc7a7ee04a3cefc3534972679ced469f8facd904ebaa14c5c17ef8530cc iF [] [] @oP
def tC: Nat->cN->Option (List Aac)
 | 0,_=>none
 | n+1,a=>bnd2 (r5 n ([],a.Txns,(ln a.Txns)) ([],0,[],[],[],[],[],[],[],[],[],[],[],[],[],0)) (λ_=>some []) λb=>bnd (some b) λc=>bnd (Ig n<|aK.mk (aN.mk c.2.2.2.2.2.2.2.2.2.2.1 c.2.2.2.2.2.2.2.2.2.2.2.1 c.2.2.2.2.2.2.2.2.2.2.2.2.1) c.2.2.2.2.2.2.2.2.2.2.2.2.2.1) λd=>bnd (UG n (c.1,c.2.1,c.2.2.1,c.2.2.2.1,c.2.2.2.2.1,c.2.2.2.2.2.1,c.2.2.2.2.2.2.1,c.2.2.2.2.2.2.2.1,c.2.2.2.2.2.2.2.2.1,c.2.2.2.2.2.2.2.2.2.1,d,(ln d)) ([],0)) λf=>bnd (prd n) λg=>bnd (Lb<|decide<|List.length f<=1000000) λ_=>bnd (mJ (λ(h i:Aac)=>bnd (oO g h i) λj=>some j) f) λl=>some l
def O7: Kn:=bJ 10 0x64dc4e586c98fc56cd26957 iF [⟨0,[MZ]⟩,⟨2,[GN]⟩] [] tC
abbrev aS5:=O7::iF
def tS: (List dJ×Int)->((List Aad×List aP×List Int×List aD×List dJ×Int)->Option R)->(((dJ×Int×Int)->Option R)×((List Aad×List aP×List Int×List aD×List dJ)->Option R)×Unit)->(List Aad×List aP×List Int×List aD×List dJ×Int)->Option R:=λ(a,b) c (d,f,_) (g,h,i,j,l,m)=>cd (m<b) (bnd (idx a m) λo=>bnd (iK n (cN.mk (aK.mk (aN.mk g h i) j) l) o) λr=>cnd (r.2 != 0) (d (o,m,r.2))<|c (r.1.Survey.Plan.Nodes,r.1.Survey.Plan.Arcs,r.1.Survey.Plan.Faces,r.1.Survey.Features,r.1.Txns,(wr<|m+1)))<|f (g,h,i,j,l)
def O6:=oA tS
def UF: Lc 15 0 0:=bL 0x51f8af1f0b75f809d0a8ac6f35672a5effd4e4b2421c99b063b944f49f4678d5e61cba1be8986c343475 aS5 [] [] @tS
def Ih: Nat->(List dJ)->Option (cN×Int×Int)
 | 0,_=>none
 | n+1,a=>bnd2 (O6 n (a,(ln a)) ([],[],[],[],[],0)) (λb=>some ((cN.mk (aK.mk (aN.mk [] [] []) []) []),b.2.1,b.2.2)) λc=>bnd (some c) λd=>some ((cN.mk (aK.mk (aN.mk d.1 d.2.1 d.2.2.1) d.2.2.2.1) d.2.2.2.2),(ln a),0)
def aAO: Kn:=bJ 15 0x481b556b30fa99926 aS5 [⟨0,[UF]⟩] [] Ih
abbrev aS4:=aAO::aS5
def SH(n:Nat): (cN×Int)->((Bool->Option R)×Unit)->Unit->Option R:=λ(a,b) (c,_) _=>cd (b<0) (c true)<|cd (b > (ln a.Txns)) (c true)<|c false
def aIw:=eV SH
def aCK: Lc 13 0 0:=bH 0x3908f9c8b242e229d4099b7690ccd11f7bad69d15e98ed aS4 [] [] @SH
def aJT: Nat->cN->Int->Option (aK×Int)
 | 0,_,_=>none
 | n+1,a,b=>bnd (aIw n (a,b)) λc=>cnd c (some ((aK.mk (aN.mk [] [] []) []),2))<|bnd (cut a.Txns 0 b) λd=>bnd (Ih n d) λf=>some (f.1.Survey,f.2.2)
end
end
section
variable {R:Type}(n:Nat)
noncomputable section
def aJS: Kn:=bJ 13 0x2136ae4d81930a3 aS4 [⟨0,[aCK]⟩] [] aJT
abbrev aS3:=aJS::aS4
def tO(n:Nat): (List Aac×List Aac)->(Int->Option R)->((Unit->Option R)×(Unit->Option R)×Unit)->Int->Option R:=λ(a,b) c (d,f,_) g=>cd (g<(ln a)) (bnd (idx a g) λh=>bnd (idx b g) λi=>cd (h=i) (c<|wr<|g+1)<|d ())<|f ()
def FJ:=oA tO
def Rs: Lc 14 0 0:=bL 0x1faa9f7df08b194502 aS3 [] [] @tO
def Md: Nat->(List Aac)->(List Aac)->Option Bool
 | 0,_,_=>none
 | n+1,a,b=>cnd ((ln a) != (ln b)) (some false)<|bnd2 (FJ n (a,b) 0) (λ_=>some false) λc=>bnd (some c) λ_=>some true
def MA: Kn:=bJ 14 0x1730ed509b84ab0 aS3 [⟨0,[Rs]⟩] [] Md
abbrev aS2:=MA::aS3
def qG(n:Nat): (List Aaa×List Aaa)->(Int->Option R)->((Unit->Option R)×(Unit->Option R)×Unit)->Int->Option R:=λ(a,b) c (d,f,_) g=>cd (g<(ln a)) (bnd (idx a g) λh=>bnd (idx b g) λi=>cd (h=i) (c<|wr<|g+1)<|d ())<|f ()
def Mg:=oA qG
def ME: Lc 78 0 0:=bL 0x3b64495e378a aS2 [] [] @qG
def MF: Nat->(List Aaa)->(List Aaa)->Option Bool
 | 0,_,_=>none
 | n+1,a,b=>cnd ((ln a) != (ln b)) (some false)<|bnd2 (Mg n (a,b) 0) (λ_=>some false) λc=>bnd (some c) λ_=>some true
def M8: Kn:=bJ 78 0x2b84506e7 aS2 [⟨0,[ME]⟩] [] MF
abbrev aS1:=M8::aS2
def Hw: (aP×aP)->((Bool->Option R)×Unit)->Unit->Option R:=λ(a,b) (c,_) _=>cnd (a.ID==b.ID) (cnd (a.From==b.From) (cnd (a.To==b.To) (cnd (a.Left==b.Left) (cnd (a.Right==b.Right) (bnd (MF n a.Via b.Via) λd=>cnd d (c true)<|c false)<|c false)<|c false)<|c false)<|c false)<|c false
def M9:=eV Hw
def SE: Lc 40 0 0:=bH 0x2d5bd5221e26 aS1 [] [] @Hw
def TY: Nat->aP->aP->Option Bool
 | 0,_,_=>none
 | n+1,a,b=>bnd (M9 n (a,b)) λc=>cnd c (some true)<|some false
def U1: Kn:=bJ 40 0x3fceb8600 aS1 [⟨0,[SE]⟩] [] TY
abbrev aJE:=U1::aS1
def AP(n:Nat): (aN×aN)->((Bool->Option R)×Unit)->Unit->Option R:=λ(a,b) (c,_) _=>cnd ((ln a.Nodes) != (ln b.Nodes)) (c true)<|cnd ((ln a.Arcs) != (ln b.Arcs)) (c true)<|cnd ((ln a.Faces) != (ln b.Faces)) (c true)<|c false
def aEO:=eV AP
def T7: Lc 19 0 0:=bH 0xdaf6a8215688ba5a3eec48a aJE [] [] @AP
def AU(n:Nat): (aN×aN)->(Int->Option R)->((Unit->Option R)×(Unit->Option R)×Unit)->Int->Option R:=λ(a,b) c (d,f,_) g=>cd (g<(ln a.Nodes)) (bnd (idx a.Nodes g) λh=>bnd (idx b.Nodes g) λi=>cd (h=i) (c<|wr<|g+1)<|d ())<|f ()
def aER:=oA AU
def U0: Lc 19 0 1:=bL 0x3de02b74ca1d0b050a74680eafe23 aJE [] [] @AU
def AR: (aN×aN)->(Int->Option R)->((Unit->Option R)×(Unit->Option R)×Unit)->Int->Option R:=λ(a,b) c (d,f,_) g=>cd (g<(ln a.Arcs)) (bnd (idx a.Arcs g) λh=>bnd (idx b.Arcs g) λi=>bnd (TY n h i) λj=>cnd j (c<|wr<|g+1)<|d ())<|f ()
def aEQ:=oA AR
def T9: Lc 19 0 2:=bL 0x27c2d3e3ffdc5074a4bac06d0c4bde78 aJE [] [] @AR
def AQ(n:Nat): (aN×aN)->(Int->Option R)->((Unit->Option R)×(Unit->Option R)×Unit)->Int->Option R:=λ(a,b) c (d,f,_) g=>cd (g<(ln a.Faces)) (bnd (idx a.Faces g) λh=>bnd (idx b.Faces g) λi=>cnd (h != i) (d ())<|c<|wr<|g+1)<|f ()
def aEP:=oA AQ
def T8: Lc 19 0 3:=bL 0x3677c5b047d89f72d088f0eedb6dd aJE [] [] @AQ
def aES: Nat->aN->aN->Option Bool
 | 0,_,_=>none
 | n+1,a,b=>bnd (aEO n (a,b)) λc=>cnd c (some false)<|bnd2 (aER n (a,b) 0) (λ_=>some false) λd=>bnd (some d) λ_=>bnd2 (aEQ n (a,b) 0) (λ_=>some false) λf=>bnd (some f) λ_=>bnd2 (aEP n (a,b) 0) (λ_=>some false) λg=>bnd (some g) λ_=>some true
def aG0: Kn:=bJ 19 0x2b7dd1cd4 aJE [⟨0,[T7]⟩,⟨1,[U0]⟩,⟨2,[T9]⟩,⟨3,[T8]⟩] [] aES
abbrev aS0:=aG0::aJE
def qF(n:Nat): (List Int×List Int)->(Int->Option R)->((Unit->Option R)×(Unit->Option R)×Unit)->Int->Option R:=λ(a,b) c (d,f,_) g=>cd (g<(ln a)) (bnd (idx a g) λh=>bnd (idx b g) λi=>cnd (h != i) (d ())<|c<|wr<|g+1)<|f ()
def Me:=oA qF
def MB: Lc 41 0 0:=bL 0x3b6396ad4bda aS0 [] [] @qF
def MC: Nat->(List Int)->(List Int)->Option Bool
 | 0,_,_=>none
 | n+1,a,b=>cnd ((ln a) != (ln b)) (some false)<|bnd2 (Me n (a,b) 0) (λ_=>some false) λc=>bnd (some c) λ_=>some true
def M7: Kn:=bJ 41 0x2b856003d aS0 [⟨0,[MB]⟩] [] MC
abbrev aSz:=M7::aS0
def tP: (aD×aD)->((Bool->Option R)×Unit)->Unit->Option R:=λ(a,b) (c,_) _=>cnd (a.ID==b.ID) (cnd (a.Kind==b.Kind) (cnd (a.Class==b.Class) (cd (a.Name=b.Name) (bnd (MC n a.Parts b.Parts) λd=>cnd d (c true)<|c false)<|c false)<|c false)<|c false)<|c false
def FK:=eV tP
def Rt: Lc 20 0 0:=bH 0x2d59450b27c6 aSz [] [] @tP
def Mf: Nat->aD->aD->Option Bool
 | 0,_,_=>none
 | n+1,a,b=>bnd (FK n (a,b)) λc=>cnd c (some true)<|some false
def MD: Kn:=bJ 20 0x2e9601bcf1b8 aSz [⟨0,[Rt]⟩] [] Mf
abbrev aPt:=MD::aSz
def AM: (aK×aK)->((Bool->Option R)×Unit)->Unit->Option R:=λ(a,b) (c,_) _=>bnd (aES n a.Plan b.Plan) λd=>cnd d (cnd ((ln a.Features) != (ln b.Features)) (c true)<|c false)<|c true
def aEL:=eV AM
def T5: Lc 7 0 0:=bH 0x9fe47d65d7f89a55091e43626c aPt [] [] @AM
def AN: (aK×aK)->(Int->Option R)->((Unit->Option R)×(Unit->Option R)×Unit)->Int->Option R:=λ(a,b) c (d,f,_) g=>cd (g<(ln a.Features)) (bnd (idx a.Features g) λh=>bnd (idx b.Features g) λi=>bnd (Mf n h i) λj=>cnd j (c<|wr<|g+1)<|d ())<|f ()
def aEM:=oA AN
def T6: Lc 7 0 1:=bL 0xdd3361977102ea628b3fada389 aPt [] [] @AN
def aEN: Nat->aK->aK->Option Bool
 | 0,_,_=>none
 | n+1,a,b=>bnd (aEL n (a,b)) λc=>cnd c (some false)<|bnd2 (aEM n (a,b) 0) (λ_=>some false) λd=>bnd (some d) λ_=>some true
def aGz: Kn:=bJ 7 0x2b7dd4242 aPt [⟨0,[T5]⟩,⟨1,[T6]⟩] [] aEN
abbrev aSy:=aGz::aPt
def pK: (aP×aP)->((Bool->Option R)×Unit)->Unit->Option R:=λ(a,b) (c,_) _=>cnd (a.ID==b.ID) (cnd (a.From==b.From) (cnd (a.To==b.To) (cnd (a.Left==b.Left) (cnd (a.Right==b.Right) (bnd (fP n a.Via b.Via) λd=>cnd d (c true)<|c false)<|c false)<|c false)<|c false)<|c false)<|c false
def uF:=eV pK
def IL: Lc 74 0 0:=bH 0x2d5bd5221e26 aSy [] [] @pK
def aBn: Nat->aP->aP->Option Bool
 | 0,_,_=>none
 | n+1,a,b=>bnd (uF n (a,b)) λc=>cnd c (some true)<|some false
def y5: Kn:=bJ 74 0x3fceb8600 aSy [⟨0,[IL]⟩] [] aBn
abbrev aSx:=y5::aSy
def iL(n:Nat): (List Aad×List Aad×Int)->(Int->Option R)->((Unit->Option R)×(Unit->Option R)×Unit)->Int->Option R:=λ(a,b,c) d (f,g,_) h=>cd (h<c) (bnd (idx a h) λi=>bnd (idx b h) λj=>cd (i=j) (d<|wr<|h+1)<|f ())<|g ()
def Nk:=oA iL
def Io: Lc 75 0 0:=bL 0xf9028b2e42d1f36cdce6 aSx [] [] @iL
def oU: Nat->(List Aad)->(List Aad)->Option Bool
 | 0,_,_=>none
 | n+1,a,b=>cnd ((ln a) != (ln b)) (some false)<|bnd2 (Nk n (a,b,(ln a)) 0) (λ_=>some false) λc=>bnd (some c) λ_=>some true
def Sv: Kn:=bJ 75 0x1730e2698f021e8 aSx [⟨0,[Io]⟩] [] oU
abbrev aJD:=Sv::aSx
def y6: Lc 74 0 0:=bH 0x559526c7de833e30f57c20678a94f aJD [] [] @pK
def Of: (aP×aP)->((Bool->Option R)×Unit)->Unit->Option R:=λ(a,b) (c,_) _=>bnd (uF n (a,b)) λd=>cnd d (c true)<|c false
def IM:=qM Of
def y8: Ic:=cG 74 0 2 0xd9a0681307ee4355b9c80ac aJD [⟨0,[y6]⟩] [] @Of
def xN: (List aP×List aP×Int)->(Int->Option R)->(((aP×aP×aP×aP)->Option R)×(Unit->Option R)×Unit)->Int->Option R:=λ(a,b,c) d (f,g,_) h=>cd (h<c) (bnd (idx b h) λi=>bnd (idx a h) λj=>bnd (IM n (i,j)) λl=>cnd l (d<|wr<|h+1)<|f (i,j,i,j))<|g ()
def aBo:=oA xN
def y7: Lc 76 0 0:=bL 0x19f8dfe1af980c4421b23179764920db93e3d93a09241e2 aJD [] [y8] @xN
def Og: (List aP×List aP)->((Bool->Option R)×((aP×aP×aP×aP)->Option R)×Unit)->Unit->Option R:=λ(a,b) (c,d,_) _=>cnd ((ln a) != (ln b)) (c false)<|bnd2 (aBo n (b,a,(ln a)) 0) (λf=>d (f.1,f.2.1,f.2.2.1,f.2.2.2)) λg=>bnd (some g) λ_=>c true
def IP:=FM Og
def y9: Ic:=cG 76 0 3 0x607be4449c78462ce13cf8c66e5cd578b5ab130ae84f2af93 aJD [⟨0,[y7]⟩] [] @Og
def OV: Nat->aN->aN->Option Bool
 | 0,_,_=>none
 | n+1,a,b=>bnd (oU n a.Nodes b.Nodes) λc=>cnd c (bnd2 (IP n (a.Arcs,b.Arcs)) (λd=>cnd d (bnd (eN n a.Faces b.Faces) λf=>cnd f (some true)<|some false)<|some false) λg=>bnd (some g) λ_=>some false)<|some false
def aDp: Kn:=bJ 33 0x2b7dd1cd4 aJD [] [y9] OV
abbrev aSw:=aDp::aJD
def kT: (aD×aD)->((Bool->Option R)×Unit)->Unit->Option R:=λ(a,b) (c,_) _=>cnd (a.ID==b.ID) (cnd (a.Kind==b.Kind) (cnd (a.Class==b.Class) (cd (a.Name=b.Name) (bnd (eN n a.Parts b.Parts) λd=>cnd d (c true)<|c false)<|c false)<|c false)<|c false)<|c false
def nK:=eV kT
def Pu: Lc 35 0 0:=bH 0x2d59450b27c6 aSw [] [] @kT
def VO: Nat->aD->aD->Option Bool
 | 0,_,_=>none
 | n+1,a,b=>bnd (nK n (a,b)) λc=>cnd c (some true)<|some false
def JT: Kn:=bJ 35 0x2e9601bcf1b8 aSw [⟨0,[Pu]⟩] [] VO
abbrev aJC:=JT::aSw
def JU: Lc 35 0 0:=bH 0x559526c7de833e2f17a5b39df417f aJC [] [] @kT
def Bk: (aD×aD)->((Bool->Option R)×Unit)->Unit->Option R:=λ(a,b) (c,_) _=>bnd (nK n (a,b)) λd=>cnd d (c true)<|c false
def Lg:=qM Bk
def JW: Ic:=cG 35 0 2 0xd9a0681306106ce8f0318dc aJC [⟨0,[JU]⟩] [] @Bk
def pS: (List aD×List aD×Int)->(Int->Option R)->(((aD×aD×aD×aD)->Option R)×(Unit->Option R)×Unit)->Int->Option R:=λ(a,b,c) d (f,g,_) h=>cd (h<c) (bnd (idx b h) λi=>bnd (idx a h) λj=>bnd (Lg n (i,j)) λl=>cnd l (d<|wr<|h+1)<|f (i,j,i,j))<|g ()
def VP:=oA pS
def JV: Lc 34 0 0:=bL 0x12f72bfbdd2486424b5e60b2dba5b76003a6afe3fefbfde412 aJC [] [JW] @pS
def Bl: (List aD×List aD)->((Bool->Option R)×((aD×aD×aD×aD)->Option R)×Unit)->Unit->Option R:=λ(a,b) (c,d,_) _=>cnd ((ln a) != (ln b)) (c false)<|bnd2 (VP n (b,a,(ln a)) 0) (λf=>d (f.1,f.2.1,f.2.2.1,f.2.2.2)) λg=>bnd (some g) λ_=>c true
def Lh:=FM Bl
def JX: Ic:=cG 34 0 3 0x607be4449c2f3301917213ec1422337c2a338b7354d5a314a aJC [⟨0,[JV]⟩] [] @Bl
def Jp: Nat->aK->aK->Option Bool
 | 0,_,_=>none
 | n+1,a,b=>bnd (OV n a.Plan b.Plan) λc=>cnd c (bnd2 (Lh n (a.Features,b.Features)) (λd=>cnd d (some true)<|some false) λf=>bnd (some f) λ_=>some false)<|some false
def F5: Kn:=bJ 16 0x2b7dd4242 aJC [] [JX] Jp
abbrev aSv:=F5::aJC
def My: (cN×cN×Int)->((Bool->Option R)×Unit)->Unit->Option R:=λ(a,b,c) (d,_) _=>cnd (c==0) (bnd (Jp n b.Survey a.Survey) λf=>cnd f (d true)<|d false)<|d false
def FW:=eV My
def p9: Lc 5 0 0:=bH 0x3e783406981b4c8ab7683abe3306eb81 aSv [] [] @My
def Ee: Nat->cN->Option Bool
 | 0,_=>none
 | n+1,a=>bnd (Ih n a.Txns) λb=>bnd (FW n (a,b.1,b.2.2)) λc=>cnd c (some true)<|some false
def aCI: Kn:=bJ 5 0x354a24794 aSv [⟨0,[p9]⟩] [] Ee
abbrev aSu:=aCI::aSv
def Rh: (cN×cN×aK×Int×Int×Int×Int×List Aac×Int)->((Bool->Option R)×Unit)->Unit->Option R:=λ(a,b,c,d,f,g,h,i,j) (l,_) _=>cnd (d==0) (cnd ((ln a.Survey.Plan.Nodes)==1) (cnd ((ln a.Txns)==1) (cnd (f==10) (cnd (g==8) (cnd (h==0) (bnd (Md n i [(Aac.mk 1 1 1 2)]) λm=>cnd m (cnd (j==0) (bnd (aEN n c a.Survey) λo=>cnd o (bnd (Ee n b) λr=>cnd r (bnd (Ee n<|cN.mk b.Survey []) λs=>cnd s (l false)<|l true)<|l false)<|l false)<|l false)<|l false)<|l false)<|l false)<|l false)<|l false)<|l false)<|l false
def aCx:=eV Rh
def L3: Lc 4 0 0:=bH 0x1d6ecc977c70017e73cc107d6071b4b6ffd20c941c66c21d00263b41b9aaf968cbc8a50af6a9829d23f0430012 aSu [] [] @Rh
def sQ: Nat->Option Bool
 | 0=>none
 | n+1=>bnd (So n) λa=>bnd (iK n (cN.mk (aK.mk (aN.mk [] [] []) []) []) a) λb=>bnd (So n) λc=>bnd (iK n b.1<|dJ.mk c.Office 3 c.Time c.Source c.Edits) λd=>bnd (So n) λf=>bnd (iK n b.1 f) λg=>bnd (iK n b.1<|dJ.mk c.Office 2 c.Time c.Source [(bG.mk 3 1 0 0 0 (Aaa.mk 4 0) [] (⟨#[]⟩:ByteArray) [])]) λh=>bnd (tC n h.1) λi=>bnd (aJT n h.1 1) λj=>bnd (aCx n (b.1,h.1,j.1,b.2,d.2,g.2,h.2,i,j.2)) λl=>cnd l (some true)<|some false
def aEF: Kn:=bJ 4 0x173f5a873ee1 aSu [⟨0,[L3]⟩] [] sQ
abbrev aSt:=aEF::aSu
def c8: Lc 66 0 0:=bL 0x3b64495e378a aSt [] [] @qG
def M4: Nat->(List Aaa)->(List Aaa)->Option Bool
 | 0,_,_=>none
 | n+1,a,b=>cnd ((ln a) != (ln b)) (some false)<|bnd2 (Mg n (a,b) 0) (λ_=>some false) λc=>bnd (some c) λ_=>some true
def aC2: Kn:=bJ 66 0x2b84506e7 aSt [⟨0,[c8]⟩] [] M4
abbrev aSs:=aC2::aSt
def U3: Lc 67 0 0:=bL 0x3b6396ad4bda aSs [] [] @qF
def aET: Nat->(List Int)->(List Int)->Option Bool
 | 0,_,_=>none
 | n+1,a,b=>cnd ((ln a) != (ln b)) (some false)<|bnd2 (Me n (a,b) 0) (λ_=>some false) λc=>bnd (some c) λ_=>some true
def aG1: Kn:=bJ 67 0x2b856003d aSs [⟨0,[U3]⟩] [] aET
abbrev aSr:=aG1::aSs
def Di: (bG×bG)->((Bool->Option R)×Unit)->Unit->Option R:=λ(a,b) (c,_) _=>cnd (a.Kind==b.Kind) (cnd (a.ID==b.ID) (cnd (a.A==b.A) (cnd (a.B==b.B) (cnd (a.C==b.C) (cd (a.At=b.At) (bnd (M4 n a.Via b.Via) λd=>cnd d (cd (a.Name=b.Name) (bnd (aET n a.Parts b.Parts) λf=>cnd f (c true)<|c false)<|c false)<|c false)<|c false)<|c false)<|c false)<|c false)<|c false)<|c false
def c7:=eV Di
def LY: Lc 25 0 0:=bH 0x2d58aae3a076 aSr [] [] @Di
def LZ: Nat->bG->bG->Option Bool
 | 0,_,_=>none
 | n+1,a,b=>bnd (c7 n (a,b)) λc=>cnd c (some true)<|some false
def M3: Kn:=bJ 25 0x1730de84c165c7c aSr [⟨0,[LY]⟩] [] LZ
abbrev aPs:=M3::aSr
def Hu(n:Nat): (dJ×dJ)->((Bool->Option R)×Unit)->Unit->Option R:=λ(a,b) (c,_) _=>cnd (a.Office != b.Office) (c true)<|cnd (a.Seq != b.Seq) (c true)<|cnd (a.Time != b.Time) (c true)<|cd (a.Source=b.Source) (cnd ((ln a.Edits) != (ln b.Edits)) (c true)<|c false)<|c true
def M5:=eV Hu
def SC: Lc 9 0 0:=bH 0x9fe47d65d83b0b13bf8d6f4fb8 aPs [] [] @Hu
def Hv: (dJ×dJ)->(Int->Option R)->((Unit->Option R)×(Unit->Option R)×Unit)->Int->Option R:=λ(a,b) c (d,f,_) g=>cd (g<(ln a.Edits)) (bnd (idx a.Edits g) λh=>bnd (idx b.Edits g) λi=>bnd (LZ n h i) λj=>cnd j (c<|wr<|g+1)<|d ())<|f ()
def M6:=oA Hv
def SD: Lc 9 0 1:=bL 0xdd336197710385aea1cdfe8c29 aPs [] [] @Hv
def aEK: Nat->dJ->dJ->Option Bool
 | 0,_,_=>none
 | n+1,a,b=>bnd (M5 n (a,b)) λc=>cnd c (some false)<|bnd2 (M6 n (a,b) 0) (λ_=>some false) λd=>bnd (some d) λ_=>some true
def T4: Kn:=bJ 9 0x1fc23300fcd8 aPs [⟨0,[SC]⟩,⟨1,[SD]⟩] [] aEK
abbrev aWY:=T4::aPs
end
end
end Go.Proofs.YtglfoebmkbglgaaGreatDoor.Av
