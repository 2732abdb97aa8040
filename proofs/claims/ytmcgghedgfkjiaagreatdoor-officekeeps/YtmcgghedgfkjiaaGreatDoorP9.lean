/- A part of the proof of a law. -/
import Derived.Test.YtmcgghedgfkjiaaGreatDoorP8
import Derived.Test.YtmcgghedgfkjiaaGreatDoorP7
set_option maxRecDepth 100000
set_option maxHeartbeats 4000000
set_option linter.all false
namespace Go.Proofs.YtmcgghedgfkjiaaGreatDoor.Av
open Go
section
variable {R:Type}(n:Nat)
noncomputable section
abbrev C92:=UX::C91
def El: Nat->aM->Int->Option Int
 | 0,_,_=>none
 | n+1,a,b=>bnd (Ir n a b) λc=>cnd c.2 (cd (b > 0) (some c.1.Left)<|some c.1.Right)<|some 0
def aDe: Kn:=bG 154 0x31d612 C92 [] [] El
abbrev C93:=aDe::C92
def fP: Nat->dO->Option (List<|List Int)
 | 0,_=>none
 | n+1,a=>bnd (app [a.outer] a.inner) λb=>some b
def Oe: Kn:=bG 155 0x57040701c9c831910f98c3f728 C93 [] [] fP
abbrev C94:=Oe::C93
def Bg(n:Nat): ((List<|Int×Bool)×Int)->((Bool->Option R)×Unit)->Unit->Option R:=λ(a,b) (c,_) _=>cnd (b==0) (c true)<|cnd ((Option.getD (cE a b) false)) (c true)<|c false
def UT:=eO Bg
def HY: Lc 130 0 1:=bJ 0x2e74015d0eadaa203c475ac37baba8f90338f33c858bc59288cc64e05473ff1c7caae9 C94 [] [] @Bg
def oU: (aM×List Int×Int×List Int×Int)->(Int->Option R)->((Unit->Option R)×(Unit->Option R)×Unit)->Int->Option R:=λ(a,b,c,d,f) g (h,i,_) j=>cd (j<f) (bnd (idx d j) λl=>bnd (El n a l) λm=>cnd (m != c) (h ())<|g<|wr<|j+1)<|i ()
def UU:=mR oU
def HZ: Lc 130 0 3:=bI 0x6b0fec18755001ad1e072cc87dc0ba6525b648afedd3504f649f9cb4a717df0cf6ca29c1e951176c068308cc18eef4752c945 C94 [] [] @oU
def oV: (aM×List Int×Int×(List<|List Int)×Int)->(Int->Option R)->((Unit->Option R)×(Unit->Option R)×Unit)->Int->Option R:=λ(a,b,c,d,f) g (h,i,_) j=>cd (j<f) (bnd (idx d j) λl=>bnd2 (UU n (a,b,c,l,(ln l)) 0) (λ_=>h ()) λm=>bnd (some m) λ_=>g<|wr<|j+1)<|i ()
def Lf:=mR oV
def IA: Lc 130 0 2:=bI 0x5227fdf21aaaa543cc221629a116fd400a9b577ba1fcb3bc8b1639b85f02b9a2cc5d597b3182997fd618d61574 C94 [⟨0,[cs HZ]⟩] [] @oV
def oW: (aM×List dO×Int)->((List Int×(List<|Int×Bool)×Int)->Option R)->(((List Int×(List<|Int×Bool)×dO)->Option R)×((List Int×(List<|Int×Bool))->Option R)×Unit)->(List Int×(List<|Int×Bool)×Int)->Option R:=λ(a,b,c) d (f,g,_) (h,i,j)=>cd (j<c) (bnd (idx b j) λl=>cd (j > 0) (bnd (idx l.outer 0) λm=>bnd (El n a m) λo=>bnd (UT n (i,o)) λr=>cnd r (f (h,i,l))<|bnd (fP n l) λs=>bnd2 (Lf n (a,h,o,s,(ln s)) 0) (λ_=>f (h,(kL i o true),l)) λt=>bnd (some t) λ_=>bnd (app h [o]) λu=>d (u,(kL i o true),(wr<|j+1)))<|bnd (fP n l) λv=>bnd2 (Lf n (a,h,0,v,(ln v)) 0) (λ_=>f (h,i,l)) λw=>bnd (some w) λ_=>bnd (app h [0]) λx=>d (x,i,(wr<|j+1)))<|g (h,i)
def UW:=mR oW
def IB: Lc 130 0 0:=bI 0x62153ee928559d5ce14a72a51a49b1de94b48d2ec8033b308bb1b4c758529e21b6e0e6b881169389afb92ac65dfbcac3dc318b48a1da647476e1 C94 [⟨0,[cs HY]⟩,⟨1,[cs IA]⟩] [] @oW
def Jn: Nat->aM->(List dO)->Option (List Int×Bool)
 | 0,_,_=>none
 | n+1,a,b=>bnd2 (UW n (a,b,(ln b)) ([],[],0)) (λ_=>some ([],false)) λc=>bnd (some c) λd=>cnd ((ln d.2)==(ln a.Faces)) (some (d.1,true))<|some (d.1,false)
def x9: Kn:=bG 130 0x89f32777fa8b55360d24ffa9e1b67 C94 [⟨0,[IB]⟩] [] Jn
abbrev C95:=x9::C94
def Bf: Nat->aM->Option (List dO×List Int×(List<|Int×List Aaa)×Int)
 | 0,_=>none
 | n+1,a=>bnd (Ax n a) λb=>cnd (b.2 != 0) (some ([],[],[],b.2))<|bnd (oT n a) λc=>bnd (iX n a b.1 c) λd=>bnd (Jn n a d) λf=>cnd f.2 (some (d,f.1,c,0))<|some ([],[],[],12)
def R4: Kn:=bG 106 0xcccd5856982f306d3 C95 [] [] Bf
abbrev C96:=R4::C95
def Jp: Nat->aM->Option Int
 | 0,_=>none
 | n+1,a=>bnd (Bf n a) λb=>some b.2.2.2
def y5: Kn:=bG 82 0x31d7bf C96 [] [] Jp
abbrev C97:=y5::C96
def QX: Nat->aG->Option Bool
 | 0,_=>none
 | n+1,a=>cd ((ln a.Parts) > 64) (some true)<|some false
def EA: Kn:=bG 83 0x917 C97 [] [] QX
abbrev C98:=EA::C97
def jJ(n:Nat): aG->((Bool->Option R)×Unit)->Unit->Option R:=λa (b,_) _=>cd (a.ID<1) (b true)<|cd (a.ID > 1073741824) (b true)<|cd (a.Class<1) (b true)<|cd (a.Class > 9) (b true)<|b false
def lV:=eO jJ
def My: Lc 85 0 0:=bJ 0x6787cdbc9 C98 [] [] @jJ
def QW: Nat->aG->Option Bool
 | 0,_=>none
 | n+1,a=>bnd (lV n a) λb=>cnd b (some true)<|some false
def DZ: Kn:=bG 85 0x917 C98 [⟨0,[My]⟩] [] QW
abbrev C99:=DZ::C98
def QV: Nat->aG->Option Bool
 | 0,_=>none
 | n+1,a=>bnd (dM n a.Kind) λb=>cnd (b==0) (some true)<|some false
def DY: Kn:=bG 86 0x917 C99 [] [] QV
abbrev aSZ:=DY::C99
def jI: aG->((Bool->Option R)×Unit)->Unit->Option R:=λa (b,_) _=>cd (a.Name=(⟨#[]⟩:ByteArray)) (b false)<|bnd (rQ n a.Name) λc=>cnd (c != 0) (b true)<|b false
def lU:=eO jI
def Mx: Lc 87 0 0:=bJ 0x6787cdbc9 aSZ [] [] @jI
def QU: Nat->aG->Option Bool
 | 0,_=>none
 | n+1,a=>bnd (lU n a) λb=>cnd b (some true)<|some false
def DX: Kn:=bG 87 0x917 aSZ [⟨0,[Mx]⟩] [] QU
abbrev aSY:=DX::aSZ
def jH: aG->((Bool->Option R)×Unit)->Unit->Option R:=λa (b,_) _=>cnd ((ln a.Parts)==0) (b true)<|bnd (dM n a.Kind) λc=>cnd (c==1) (cd ((ln a.Parts) > 1) (b true)<|b false)<|b false
def lT:=eO jH
def Mw: Lc 88 0 0:=bJ 0x6787cdbc9 aSY [] [] @jH
def QT: Nat->aG->Option Bool
 | 0,_=>none
 | n+1,a=>bnd (lT n a) λb=>cnd b (some true)<|some false
def DW: Kn:=bG 88 0x917 aSY [⟨0,[Mw]⟩] [] QT
abbrev aVC:=DW::aSY
def oD: Nat->(List Int)->Int->Option Bool
 | 0,_,_=>none
 | n+1,a,b=>bnd (dP n a b) λc=>cnd c (some true)<|some false
def aEt: Kn:=bG 120 0x2df086 aVC [] [] oD
abbrev aKe:=aEt::aVC
def kM: (aM×aG×Int)->((Bool->Option R)×Unit)->Unit->Option R:=λ(a,b,c) (d,_) _=>bnd (dM n b.Kind) λf=>cnd (f==1) (bnd (iY n a c) λg=>cnd g.2 (d false)<|d true)<|cnd (f==2) (bnd (Ou n a c) λh=>cnd h.2 (d false)<|d true)<|cnd (f==3) (bnd (oD n a.Faces c) λi=>cnd i (d false)<|d true)<|d true
def yP:=sU kM
def Qk: Ic:=cD 131 2 3 0xe8847565798699c5d16c610 aKe [] [] @kM
def gH: (aM×aG×List Int×Int)->(Int->Option R)->((Int->Option R)×(Unit->Option R)×Unit)->Int->Option R:=λ(a,b,c,d) f (g,h,_) i=>cd (i<d) (bnd (idx c i) λj=>bnd (yP n (a,b,j)) λl=>cnd l (g i)<|f<|wr<|i+1)<|h ()
def DT:=mR gH
def Qj: Lc 126 0 0:=bI 0x20f3e190263eae727d94f781c75ac87fb61cca522e35f56 aKe [] [Qk] @gH
def kN: (aM×aG×List Int)->((Int->Option R)×Unit)->Unit->Option R:=λ(a,b,c) (d,_) _=>bnd2 (DT n (a,b,c,(ln c)) 0) (λf=>d f) λg=>bnd (some g) λ_=>d (-1)
def yQ:=sU kN
def Qn: Ic:=cD 126 0 2 0xabfcd3d6fee1118152424e4b9f48cc1d aKe [⟨0,[Qj]⟩] [] @kN
def kO: (aM×aG×List Int)->((Bool->Option R)×Unit)->Unit->Option R:=λ(a,b,c) (d,_) _=>bnd (yQ n (a,b,c)) λf=>cd (f>=0) (d true)<|d false
def nH:=sU kO
def Qq: Ic:=cD 105 0 2 0x62c3efade51df450a625ac267805b196 aKe [] [Qn] @kO
def VT: Nat->aM->aG->Option Bool
 | 0,_,_=>none
 | n+1,a,b=>bnd (nH n (a,b,b.Parts)) λc=>cnd c (some true)<|some false
def KQ: Kn:=bG 108 0x35c307bf9 aKe [] [Qq] VT
abbrev fW:=KQ::aKe
def yY(n:Nat): aJ->((Unit->Option R)×Unit)->Unit->Option R:=λa (b,_) _=>b ()
def Gp:=sU yY
def EJ: Ic:=cD 84 0 1 0x183c0c4de3806dc5c4f08c4830192f352f92d9cca fW [] [] @yY
def yX(n:Nat): Unit->((((List<|Aac×Bool))->Option R)×Unit)->Unit->Option R:=λ_ (a,_) _=>a []
def Gn:=sU yX
def EI: Ic:=cD 90 0 0 0x13d49d9730d049ac2bf6fc3cdf22b8b0fd006c40d7eecf7 fW [] [] @yX
def yS: aG->((Unit->Option R)×(Int->Option R)×Unit)->Unit->Option R:=λa (b,c,_) _=>bnd (dM n a.Kind) λd=>cnd (d==2) (b ())<|cnd (d==3) (c a.Kind)<|c 0
def Gi:=pc2 yS
def EB: Lc 109 0 0:=bJ 0x13ef2f161f7f9750d9a432ed1ba14b17dd6b7a190a7a956ea6d59 fW [] [] @yS
def nK(n:Nat): (Int×List Int×Int)->(((List<|Aac×Bool)×Int)->Option R)->((((List<|Aac×Bool)×Int)->Option R)×(((List<|Aac×Bool))->Option R)×Unit)->((List<|Aac×Bool)×Int)->Option R:=λ(a,b,c) d (f,g,_) (h,i)=>cd (i<c) (bnd (idx b i) λj=>cnd ((Option.getD (cE h<|Aac.mk a j) false)) (f (h,j))<|d ((kL h (Aac.mk a j) true),(wr<|i+1)))<|g h
def QY:=mR nK
def EC: Lc 109 0 1:=bI 0x292429f3ba2be9b4fba5e8269a5b0a056d79256ff581a4f1afa3e267e51fc473ac86a4777f5576a7c24b4e6bb9130 fW [] [] @nK
def yU: ((List<|Aac×Bool)×aG)->((((List<|Aac×Bool))->Option R)×(((List<|Aac×Bool)×Int×Int)->Option R)×Unit)->Unit->Option R:=λ(a,b) (c,d,_) _=>bnd2 (Gi n b) (λ_=>c a) λf=>bnd (some f) λg=>bnd2 (QY n (g,b.Parts,(ln b.Parts)) (a,0)) (λh=>d (h.1,g,h.2)) λi=>bnd (some i) λj=>c j
def Gk:=Uw yU
def EF: Ic:=cD 109 0 2 0x1503170058af39bafb3380edbefa68d3031877f8ea30f6cedc44e716aa0b08fcaac5bf fW [⟨0,[EB]⟩,⟨1,[EC]⟩] [] @yU
def nL: (List aG×Int)->(((List<|Aac×Bool)×Int)->Option R)->((((List<|Aac×Bool)×aG×Int×Int×Int)->Option R)×(((List<|Aac×Bool))->Option R)×Unit)->((List<|Aac×Bool)×Int)->Option R:=λ(a,b) c (d,f,_) (g,h)=>cd (h<b) (bnd (idx a h) λi=>bnd2 (Gk n (g,i)) (λj=>c (j,(wr<|h+1))) λl=>bnd (some l) λm=>d (m.1,i,m.2.1,m.2.2,h))<|f g
def QZ:=mR nL
def ED: Lc 110 0 0:=bI 0xa2c8e80aa7af5e7f0ff22debe5bb074d594839d56f935a6b9252 fW [] [EF] @nL
def yV: ((List<|Aac×Bool)×List aG)->((((List<|Aac×Bool)×Int×Int×Int×ByteArray×List Int×Int×Int×Int)->Option R)×(((List<|Aac×Bool))->Option R)×Unit)->Unit->Option R:=λ(a,b) (c,d,_) _=>bnd2 (QZ n (b,(ln b)) (a,0)) (λf=>c (f.1,f.2.1.ID,f.2.1.Kind,f.2.1.Class,f.2.1.Name,f.2.1.Parts,f.2.2.1,f.2.2.2.1,f.2.2.2.2)) λg=>bnd (some g) λh=>d h
def Gl:=Uw yV
def EG: Ic:=cD 110 0 2 0x1bf24c3cb4433b49fce16c7bd913ad0be3a87b340a407b83346680fcddcc84682ec fW [⟨0,[ED]⟩] [] @yV
def yW: ((List<|Aac×Bool)×List aG)->((((List<|Aac×Bool)×Int×Int×Int×ByteArray×List Int×Int×Int×Bool)->Option R)×(((List<|Aac×Bool))->Option R)×Unit)->Unit->Option R:=λ(a,b) (c,d,_) _=>bnd2 (Gl n (a,b)) (λf=>cd (f.2.2.2.2.2.2.2.2>=0) (c (f.1,f.2.1,f.2.2.1,f.2.2.2.1,f.2.2.2.2.1,f.2.2.2.2.2.1,f.2.2.2.2.2.2.1,f.2.2.2.2.2.2.2.1,true))<|c (f.1,f.2.1,f.2.2.1,f.2.2.2.1,f.2.2.2.2.1,f.2.2.2.2.2.1,f.2.2.2.2.2.2.1,f.2.2.2.2.2.2.2.1,false)) λg=>bnd (some g) λh=>d h
def Gm:=Uw yW
def EH: Ic:=cD 91 0 2 0x1bf37d1afa837db122846ca6f215c62b3bd700887c3a492a414b234399159d011fb fW [] [EG] @yW
def AG: Ic:=cD 131 10 3 0x62ca50da8541196843406f7c5c164e46 fW [] [] @kM
def Vo: Lc 126 0 0:=bI 0x2bd8394b3219f427af22f90c508e3ddf6f972aed44ff fW [] [AG] @gH
def AH: Ic:=cD 126 0 2 0xac0335297d55b9a72543a11adc1a49e0 fW [⟨0,[Vo]⟩] [] @kN
def AJ: Ic:=cD 105 0 2 0x62ca510063929c767926fef5b4d72f59 fW [] [AH] @kO
def vZ: (aM×aG)->((Bool->Option R)×Unit)->Unit->Option R:=λ(a,b) (c,_) _=>bnd (nH n (a,b,b.Parts)) λd=>cnd d (c true)<|c false
def Cp:=sU vZ
def AK: Ic:=cD 108 0 2 0xe8937a0f54109f73ec04779 fW [] [AJ] @vZ
def wA: (aJ×aG)->(((aM×Bool)->Option R)×Unit)->Unit->Option R:=λ(a,b) (c,_) _=>bnd (Cp n (a.Plan,b)) λd=>cnd d (c (a.Plan,true))<|c (a.Plan,false)
def Cq:=sU wA
def AL: Ic:=cD 89 0 2 0x250fe6f94cf34f06520cb8530536366b699d5e fW [] [AK] @wA
def mC: (aJ×List aG×Int)->(Int->Option R)->(((aG×aM×aG×Int)->Option R)×(Unit->Option R)×Unit)->Int->Option R:=λ(a,b,c) d (f,g,_) h=>cd (h<c) (bnd (idx b h) λi=>bnd (Cq n (a,i)) λj=>cnd j.2 (f (i,j.1,i,h))<|d<|wr<|h+1)<|g ()
def LD:=mR mC
def Vp: Lc 110 0 0:=bI 0x4eff3f9f8c5c25a571af11119af841db68ec2eb4fdc91024b516e878dd fW [] [AL] @mC
def wB: (aJ×List aG)->(((aG×aM×aG×Int)->Option R)×(Unit->Option R)×Unit)->Unit->Option R:=λ(a,b) (c,d,_) _=>bnd2 (LD n (a,b,(ln b)) 0) (λf=>c (f.1,f.2.1,f.2.2.1,f.2.2.2)) λg=>bnd (some g) λ_=>d ()
def Cr:=Uw wB
def AM: Ic:=cD 110 0 2 0x3174a07e3d763516ca8b78b0f0bc2b851fb07e8b780247d1e300dfe20d3c6 fW [⟨0,[Vp]⟩] [] @wB
def yT: (aJ×List aG)->(((aG×aM×aG×Bool)->Option R)×(Unit->Option R)×Unit)->Unit->Option R:=λ(a,b) (c,d,_) _=>bnd2 (Cr n (a,b)) (λf=>cd (f.2.2.2>=0) (c (f.1,f.2.1,f.2.2.1,true))<|c (f.1,f.2.1,f.2.2.1,false)) λg=>bnd (some g) λ_=>d ()
def Gj:=Uw yT
def EE: Ic:=cD 91 0 2 0x1f3684d0afa4815dc2593c2e58091486e33fe8bb3f087e48c7 fW [] [AM] @yT
def Vg: Lc 88 0 0:=bJ 0x188c2b6c1cb44ae1c1 fW [] [] @jH
def vW: aG->((Bool->Option R)×Unit)->Unit->Option R:=λa (b,_) _=>bnd (lT n a) λc=>cnd c (b true)<|b false
def Cm:=sU vW
def AD: Ic:=cD 88 0 1 0xa0f fW [⟨0,[Vg]⟩] [] @vW
def mB: (List aG×Int)->(Int->Option R)->(((aG×Int)->Option R)×(Unit->Option R)×Unit)->Int->Option R:=λ(a,b) c (d,f,_) g=>cd (g<b) (bnd (idx a g) λh=>bnd (Cm n h) λi=>cnd i (d (h,g))<|c<|wr<|g+1)<|f ()
def LB:=mR mB
def Vn: Lc 110 0 0:=bI 0x5ab1b57eb fW [] [AD] @mB
def vX: (List aG)->(((aG×Int)->Option R)×(Unit->Option R)×Unit)->Unit->Option R:=λa (b,c,_) _=>bnd2 (LB n (a,(ln a)) 0) (λd=>b (d.1,d.2)) λf=>bnd (some f) λ_=>c ()
def Cn:=Uw vX
def AE: Ic:=cD 110 0 2 0x5a7b76336 fW [⟨0,[Vn]⟩] [] @vX
def vY: (List aG)->(((aG×Bool)->Option R)×(Unit->Option R)×Unit)->Unit->Option R:=λa (b,c,_) _=>bnd2 (Cn n a) (λd=>cd (d.2>=0) (b (d.1,true))<|b (d.1,false)) λf=>bnd (some f) λ_=>c ()
def Co:=Uw vY
def AF: Ic:=cD 91 0 2 0x5a8480b67 fW [] [AE] @vY
def Uz: Lc 87 0 0:=bJ 0x188c2b6c1cb44ae1c1 fW [] [] @jI
def vT: aG->((Bool->Option R)×Unit)->Unit->Option R:=λa (b,_) _=>bnd (lU n a) λc=>cnd c (b true)<|b false
def Cj:=sU vT
def AA: Ic:=cD 87 0 1 0xa0f fW [⟨0,[Uz]⟩] [] @vT
def mA: (List aG×Int)->(Int->Option R)->(((aG×Int)->Option R)×(Unit->Option R)×Unit)->Int->Option R:=λ(a,b) c (d,f,_) g=>cd (g<b) (bnd (idx a g) λh=>bnd (Cj n h) λi=>cnd i (d (h,g))<|c<|wr<|g+1)<|f ()
def LA:=mR mA
def Vm: Lc 110 0 0:=bI 0x5ab1b4be4 fW [] [AA] @mA
def vU: (List aG)->(((aG×Int)->Option R)×(Unit->Option R)×Unit)->Unit->Option R:=λa (b,c,_) _=>bnd2 (LA n (a,(ln a)) 0) (λd=>b (d.1,d.2)) λf=>bnd (some f) λ_=>c ()
def Ck:=Uw vU
def AB: Ic:=cD 110 0 2 0x5a7b7572f fW [⟨0,[Vm]⟩] [] @vU
def vV: (List aG)->(((aG×Bool)->Option R)×(Unit->Option R)×Unit)->Unit->Option R:=λa (b,c,_) _=>bnd2 (Ck n a) (λd=>cd (d.2>=0) (b (d.1,true))<|b (d.1,false)) λf=>bnd (some f) λ_=>c ()
def Cl:=Uw vV
def AC: Ic:=cD 91 0 2 0x5a847ff60 fW [] [AB] @vV
def vQ: aG->((Bool->Option R)×Unit)->Unit->Option R:=λa (b,_) _=>bnd (dM n a.Kind) λc=>cnd (c==0) (b true)<|b false
def Cg:=sU vQ
def Vz: Ic:=cD 86 0 1 0xa0f fW [] [] @vQ
def lZ: (List aG×Int)->(Int->Option R)->(((aG×Int)->Option R)×(Unit->Option R)×Unit)->Int->Option R:=λ(a,b) c (d,f,_) g=>cd (g<b) (bnd (idx a g) λh=>bnd (Cg n h) λi=>cnd i (d (h,g))<|c<|wr<|g+1)<|f ()
def KZ:=mR lZ
def Vl: Lc 110 0 0:=bI 0x5ab1b3fdd fW [] [Vz] @lZ
def vR: (List aG)->(((aG×Int)->Option R)×(Unit->Option R)×Unit)->Unit->Option R:=λa (b,c,_) _=>bnd2 (KZ n (a,(ln a)) 0) (λd=>b (d.1,d.2)) λf=>bnd (some f) λ_=>c ()
def Ch:=Uw vR
def Wv: Ic:=cD 110 0 2 0x5a7b74b28 fW [⟨0,[Vl]⟩] [] @vR
def vS: (List aG)->(((aG×Bool)->Option R)×(Unit->Option R)×Unit)->Unit->Option R:=λa (b,c,_) _=>bnd2 (Ch n a) (λd=>cd (d.2>=0) (b (d.1,true))<|b (d.1,false)) λf=>bnd (some f) λ_=>c ()
def Ci:=Uw vS
def Xy: Ic:=cD 91 0 2 0x5a847f359 fW [] [Wv] @vS
def Uy: Lc 85 0 0:=bJ 0x188c2b6c1cb44ae1c1 fW [] [] @jJ
def vN: aG->((Bool->Option R)×Unit)->Unit->Option R:=λa (b,_) _=>bnd (lV n a) λc=>cnd c (b true)<|b false
def Cc:=sU vN
def Vw: Ic:=cD 85 0 1 0xa0f fW [⟨0,[Uy]⟩] [] @vN
def lY: (List aG×Int)->(Int->Option R)->(((aG×Int)->Option R)×(Unit->Option R)×Unit)->Int->Option R:=λ(a,b) c (d,f,_) g=>cd (g<b) (bnd (idx a g) λh=>bnd (Cc n h) λi=>cnd i (d (h,g))<|c<|wr<|g+1)<|f ()
def KY:=mR lY
def Vk: Lc 110 0 0:=bI 0x5ab1b33d6 fW [] [Vw] @lY
def vO: (List aG)->(((aG×Int)->Option R)×(Unit->Option R)×Unit)->Unit->Option R:=λa (b,c,_) _=>bnd2 (KY n (a,(ln a)) 0) (λd=>b (d.1,d.2)) λf=>bnd (some f) λ_=>c ()
def Ce:=Uw vO
def Vx: Ic:=cD 110 0 2 0x5a7b73f21 fW [⟨0,[Vk]⟩] [] @vO
def vP: (List aG)->(((aG×Bool)->Option R)×(Unit->Option R)×Unit)->Unit->Option R:=λa (b,c,_) _=>bnd2 (Ce n a) (λd=>cd (d.2>=0) (b (d.1,true))<|b (d.1,false)) λf=>bnd (some f) λ_=>c ()
def Cf:=Uw vP
def Vy: Ic:=cD 91 0 2 0x5a847e752 fW [] [Vx] @vP
def vG: (aJ×Int×aG)->((Bool->Option R)×Unit)->Unit->Option R:=λ(a,b,c) (d,_) _=>cd (b > 1) (bnd (idx a.Features<|wr<|b-2) λf=>cd (f.ID>=c.ID) (d true)<|bnd (tP n c.Parts) λg=>cnd g (d false)<|d true)<|bnd (tP n c.Parts) λh=>cnd h (d false)<|d true
def Bv:=eO vG
def Ux: Lc 107 0 0:=bJ 0x3cc493076c147860cd2706f189dfeb8f35c2cc0a4 fW [] [] @vG
def vK: (aJ×Int×aG)->(((Int×Bool)->Option R)×Unit)->Unit->Option R:=λ(a,b,c) (d,_) _=>bnd (Bv n (a,(wr<|b+1),c)) λf=>cnd f (d ((wr<|b+1),true))<|d ((wr<|b+1),false)
def Bz:=sU vK
def Vt: Ic:=cD 107 0 3 0x314d3e2d068ee3f8609fc54973a424cdae9 fW [⟨0,[Ux]⟩] [] @vK
def lX: (aJ×List aG×Int)->((Int×Int)->Option R)->(((Int×aG×Int)->Option R)×(Int->Option R)×Unit)->(Int×Int)->Option R:=λ(a,b,c) d (f,g,_) (h,i)=>cd (i<c) (bnd (idx b i) λj=>bnd (Bz n (a,h,j)) λl=>cnd l.2 (f (l.1,j,i))<|d (l.1,(wr<|i+1)))<|g h
def KX:=mR lX
def Vj: Lc 110 0 0:=bI 0x7a5de4ff4f63b7f7d63153db41e4083c08541e789de1f029500761f fW [] [Vt] @lX
def vL: (aJ×Int×List aG)->(((Int×aG×Int)->Option R)×(Int->Option R)×Unit)->Unit->Option R:=λ(a,b,c) (d,f,_) _=>bnd2 (KX n (a,c,(ln c)) (b,0)) (λg=>d (g.1,g.2.1,g.2.2)) λh=>bnd (some h) λi=>f i
def Ca:=Uw vL
def Vu: Ic:=cD 110 0 2 0x9ae4511fba1714fe7cea118714e370677acf8df76675fda0c fW [⟨0,[Vj]⟩] [] @vL
def vM: (aJ×Int×List aG)->(((Int×aG×Bool)->Option R)×(Int->Option R)×Unit)->Unit->Option R:=λ(a,b,c) (d,f,_) _=>bnd2 (Ca n (a,b,c)) (λg=>cd (g.2.2>=0) (d (g.1,g.2.1,true))<|d (g.1,g.2.1,false)) λh=>bnd (some h) λi=>f i
def Cb:=Uw vM
def Vv: Ic:=cD 91 0 2 0xce165490e9d318c691ddc0ef9feaaf151b7ed7f0bbcd04 fW [] [Vu] @vM
def vH(n:Nat): aG->((Bool->Option R)×Unit)->Unit->Option R:=λa (b,_) _=>cd ((ln a.Parts) > 64) (b true)<|b false
def pS:=sU vH
def Vq: Ic:=cD 83 0 1 0xa0f fW [] [] @vH
def lW: (List aG×Int)->(Int->Option R)->(((aG×Int)->Option R)×(Unit->Option R)×Unit)->Int->Option R:=λ(a,b) c (d,f,_) g=>cd (g<b) (bnd (idx a g) λh=>bnd (pS n h) λi=>cnd i (d (h,g))<|c<|wr<|g+1)<|f ()
def KW:=mR lW
def Vi: Lc 110 0 0:=bI 0x5ab1b1bc8 fW [] [Vq] @lW
def vI: (List aG)->(((aG×Int)->Option R)×(Unit->Option R)×Unit)->Unit->Option R:=λa (b,c,_) _=>bnd2 (KW n (a,(ln a)) 0) (λd=>b (d.1,d.2)) λf=>bnd (some f) λ_=>c ()
def Bw:=Uw vI
def Vr: Ic:=cD 110 0 2 0x5a7b72713 fW [⟨0,[Vi]⟩] [] @vI
def vJ: (List aG)->(((aG×Bool)->Option R)×(Unit->Option R)×Unit)->Unit->Option R:=λa (b,c,_) _=>bnd2 (Bw n a) (λd=>cd (d.2>=0) (b (d.1,true))<|b (d.1,false)) λf=>bnd (some f) λ_=>c ()
def Bx:=Uw vJ
def Vs: Ic:=cD 91 0 2 0x5a847cf44 fW [] [Vr] @vJ
def fI: Nat->aJ->Option Int
 | 0,_=>none
 | n+1,a=>bnd (Jp n a.Plan) λb=>cnd (b != 0) (some b)<|cd ((ln a.Features) > 128) (some 3)<|bnd (Gp n a) λ_=>bnd (Gn n ()) λc=>bnd (Na<|Nat.ble 9 n) λ_=>(let d:=(let f:=λ(g:Int)=>(let h:=(let i:=(let j:=(let l:=(let m:=(let o:=λ(r:(List<|Aac×Bool))=>some 0;(bnd2 (Gm n (c,a.Features)) (λs=>cnd s.2.2.2.2.2.2.2.2 (some 13)<|o s.1) λt=>bnd (some t) λu=>o u));(bnd2 (Gj n (a,a.Features)) (λv=>cnd v.2.2.2 (some 7) m) λw=>bnd (some w) λ_=>m));(bnd2 (Co n a.Features) (λx=>cnd x.2 (some 1) l) λy=>bnd (some y) λ_=>l));(bnd2 (Cl n a.Features) (λz=>cnd z.2 (some 14) j) λa0=>bnd (some a0) λ_=>j));(bnd2 (Ci n a.Features) (λb0=>cnd b0.2 (some 9) i) λc0=>bnd (some c0) λ_=>i));(bnd2 (Cf n a.Features) (λd0=>cnd d0.2 (some 2) h) λf0=>bnd (some f0) λ_=>h));(bnd2 (Cb n (a,0,a.Features)) (λg0=>cnd g0.2.2 (some 10)<|f g0.1) λh0=>bnd (some h0) λi0=>f i0));(bnd2 (Bx n a.Features) (λj0=>cnd j0.2 (some 3) d) λl0=>bnd (some l0) λ_=>d))
def VY: Kn:=bG 62 0x15291905d67bf7a fW [] [EJ,EI,EH,EE,AF,AC,Xy,Vy,Vv,Vs] fI
abbrev aVB:=VY::fW
def K3: Nat->Aab->Int->Option Int
 | 0,_,_=>none
 | n+1,a,b=>bnd (cC n a.ID b) λc=>some c
def SA: Kn:=bG 133 0x63ebb584b aVB [] [] K3
abbrev aNj:=SA::aVB
def Hy: (Aab×Int)->((Int->Option R)×Unit)->Unit->Option R:=λ(a,b) (c,_) _=>bnd (cC n a.ID b) λd=>c d
def pV:=sU Hy
def Hx: Ic:=cD 133 0 2 0x20fe2d8f5d62c75f99e5d aNj [] [] @Hy
def sN: (List Aab×Int)->((Int×Int)->Option R)->((Int->Option R)×Unit)->(Int×Int)->Option R:=λ(a,b) c (d,_) (f,g)=>cd (f<g) (bnd (idx a<|wr<|Int.fdiv (IntKind.u64.wrap<|wr<|f+g) 2) λh=>bnd (pV n (h,b)) λi=>cd (i<0) (c ((wr<|(wr<|Int.fdiv (IntKind.u64.wrap<|wr<|f+g) 2)+1),g))<|c (f,(wr<|Int.fdiv (IntKind.u64.wrap<|wr<|f+g) 2)))<|d f
def K4:=qE sN
def SB: Lc 132 0 0:=bI 0x235da62fec15d53ecb6761c75b230eec63329c54173fd8f aNj [] [Hx] @sN
def Hz: (List Aab×Int)->(((Aab×Int×Bool)->Option R)×(Int->Option R)×Unit)->Unit->Option R:=λ(a,b) (c,d,_) _=>bnd (K4 n (a,b) (0,(ln a))) λf=>cd (f<(ln a)) (bnd (idx a f) λg=>bnd (pV n (g,b)) λh=>cnd (h==0) (c (g,f,true))<|c (g,f,false))<|d f
def Rb:=Uw Hz
def SC: Ic:=cD 132 0 3 0x29839b4145be1334e5b15901c1613a93ae388716a16ed2e aNj [⟨0,[SB]⟩] [Hx] @Hz
def oG: Nat->aJ->Int->Option (Int×Bool)
 | 0,_,_=>none
 | n+1,a,b=>bnd2 (Rb n (a.Plan.Nodes,b)) (λc=>cnd c.2.2 (some (c.2.1,true))<|some (c.2.1,false)) λd=>bnd (some d) λf=>some (f,false)
def U5: Kn:=bG 111 0x87f29c aNj [] [SC] oG
abbrev aPM:=U5::aNj
def yR: (aG×Int×Int)->((Bool->Option R)×Unit)->Unit->Option R:=λ(a,b,c) (d,_) _=>bnd (dM n a.Kind) λf=>cnd (f==b) (bnd (dP n a.Parts c) λg=>cnd g (d true)<|d false)<|d false
def Gh:=eO yR
def DU: Lc 114 0 1:=bJ 0x76933b63af9dccb9d279e8e0b1b31c980586b1d5d0821bf86338527c00 aPM [] [] @yR
def nI: (Int×Int×List aG×Int)->((List Int×Int)->Option R)->(((List Int)->Option R)×Unit)->(List Int×Int)->Option R:=λ(a,b,c,d) f (g,_) (h,i)=>cd (i<d) (bnd (idx c i) λj=>bnd (Gh n (j,a,b)) λl=>cnd l (bnd (app h [j.ID]) λm=>f (m,(wr<|i+1)))<|f (h,(wr<|i+1)))<|g h
def QS:=qE nI
def DV: Lc 114 0 0:=bI 0x7370aa1ac4a52d009da91cad1a8b26704d0b2a801e9c1277fedda096c7 aPM [⟨0,[cs DU]⟩] [] @nI
def jB: Nat->aJ->Int->Int->Option (List Int)
 | 0,_,_,_=>none
 | n+1,a,b,c=>cd (b<1) (some [])<|cd (b > 3) (some [])<|bnd (QS n (b,c,a.Features,(ln a.Features)) ([],0)) λd=>some d
def VU: Kn:=bG 114 0x1382813d814dbe2b1af73 aPM [⟨0,[DV]⟩] [] jB
abbrev aVA:=VU::aPM
def U9: Nat->aO->Int->Option Int
 | 0,_,_=>none
 | n+1,a,b=>bnd (cC n a.ID b) λc=>some c
def a9: Kn:=bG 143 0x486ae5b73 aVA [] [] U9
abbrev aNi:=a9::aVA
def Mf: (aO×Int)->((Int->Option R)×Unit)->Unit->Option R:=λ(a,b) (c,_) _=>bnd (cC n a.ID b) λd=>c d
def sW:=sU Mf
def Me: Ic:=cD 143 0 2 0x20fe2d8f5d62c771aeebf aNi [] [] @Mf
def uR: (List aO×Int)->((Int×Int)->Option R)->((Int->Option R)×Unit)->(Int×Int)->Option R:=λ(a,b) c (d,_) (f,g)=>cd (f<g) (bnd (idx a<|wr<|Int.fdiv (IntKind.u64.wrap<|wr<|f+g) 2) λh=>bnd (sW n (h,b)) λi=>cd (i<0) (c ((wr<|(wr<|Int.fdiv (IntKind.u64.wrap<|wr<|f+g) 2)+1),g))<|c (f,(wr<|Int.fdiv (IntKind.u64.wrap<|wr<|f+g) 2)))<|d f
def V0:=qE uR
def b7: Lc 142 0 0:=bI 0x235da62fec1b0aa25b1b49ed38b472bf233e9c7deb673ab aNi [] [Me] @uR
def Mg: (List aO×Int)->(((aO×Int×Bool)->Option R)×(Int->Option R)×Unit)->Unit->Option R:=λ(a,b) (c,d,_) _=>bnd (V0 n (a,b) (0,(ln a))) λf=>cd (f<(ln a)) (bnd (idx a f) λg=>bnd (sW n (g,b)) λh=>cnd (h==0) (c (g,f,true))<|c (g,f,false))<|d f
def BJ:=Uw Mg
def b8: Ic:=cD 142 0 3 0x3739ed37520d91b18b341ae23e5817805f28f97124e2 aNi [⟨0,[b7]⟩] [Me] @Mg
def Ac: Nat->aJ->Int->Option (Int×Bool)
 | 0,_,_=>none
 | n+1,a,b=>bnd2 (BJ n (a.Plan.Arcs,b)) (λc=>cnd c.2.2 (some (c.2.1,true))<|some (c.2.1,false)) λd=>bnd (some d) λf=>some (f,false)
def aCC: Kn:=bG 117 0x87f29c aNi [] [b8] Ac
abbrev aX4:=aCC::aNi
def aPC: Kn:=aPd 190 18 19 ⟨_,_,_,rfl,by decide,by decide⟩ (λn p=>clF n p) (λp=>p) λn p r h=>by obtain⟨m,h1,h2,h3⟩:=aPg h;subst h2;exact⟨m,h1,rfl,h3,rfl,λe=>by cases (e:_=[]);rfl⟩
abbrev aSX:=aPC::aX4
def kW: (List Int×List Aab×List aO×Int)->((List aO×Int)->Option R)->(((List aO)->Option R)×Unit)->(List aO×Int)->Option R:=λ(a,b,c,d) f (g,_) (h,i)=>cd (i<d) (bnd (idx c i) λj=>bnd (clF n j.Via) λl=>bnd (app h [(aO.mk j.ID j.From j.To l 0 0)]) λm=>f (m,(wr<|i+1)))<|g h
def Od:=qE kW
def NX: Lc 165 0 0:=bI 0x3108f0be11e58f71f77777ea2884e8b6fb451b046cdeb9cdea8dfeb12449e310864 aSX [] [] @kW
def aDB: Nat->aM->Option aM
 | 0,_=>none
 | n+1,a=>bnd (clF n a.Nodes) λb=>bnd (Od n ([],b,a.Arcs,(ln a.Arcs)) ([],0)) λc=>some<|aM.mk b c []
def R7: Kn:=bG 165 0x73c79e8260aa02ba34f95ff aSX [⟨0,[NX]⟩] [] aDB
abbrev aPL:=R7::aSX
def Ld(n:Nat): (Int×Int)->((Bool->Option R)×Unit)->Unit->Option R:=λ(a,b) (c,_) _=>cd ((nE b<|wr<|0-b)<(nE a<|wr<|0-a)) (c true)<|cnd (b==(wr<|0-a)) (cd (b > 0) (c true)<|c false)<|c false
def R6:=eO Ld
def UR: Lc 191 0 1:=bJ 0x40a989f80fb6036f761a1bb07d168146 aPL [] [] @Ld
def uF: (List Int×Int)->((Int×Int)->Option R)->((Int->Option R)×Unit)->(Int×Int)->Option R:=λ(a,b) c (d,_) (f,g)=>cd (g<b) (bnd (idx a g) λh=>bnd (R6 n (f,h)) λi=>cnd i (c (h,(wr<|g+1)))<|c (f,(wr<|g+1)))<|d f
def BB:=qE uF
def US: Lc 191 0 0:=bI 0x4be5676bf85c79cd6e1a23cb90e51 aPL [⟨0,[cs UR]⟩] [] @uF
def mX: Nat->(List Int)->Option Int
 | 0,_=>none
 | n+1,a=>bnd (idx a 0) λb=>bnd (BB n (a,(ln a)) (b,0)) λc=>some c
def aBB: Kn:=bG 191 0x31d610 aPL [⟨0,[US]⟩] [] mX
abbrev aV9:=aBB::aPL
def mY: Nat->Int->Int->Option Int
 | 0,_,_=>none
 | n+1,a,b=>bnd (cC n (nE a<|wr<|0-a)<|nE b<|wr<|0-b) λc=>bnd (cC n b a) λd=>bnd (Ad n [c,d]) λf=>some f
def Oc: Kn:=bG 192 0xfe8690b31b3d37d8a aV9 [] [] mY
abbrev aV8:=Oc::aV9
def mP: Nat->dO->dO->Option Int
 | 0,_,_=>none
 | n+1,a,b=>bnd (mX n a.outer) λc=>bnd (mX n b.outer) λd=>bnd (mY n c d) λf=>some f
def IF: Kn:=bG 167 0x3064e791f1f08a8 aV8 [] [] mP
abbrev aF0:=IF::aV8
def IK: Lc 165 2 0:=bI 0x358d2f8fe8f87be044d999944adbe6959b0a725c64894af43ebfd6275d644306ff8ec4 aF0 [] [] @kW
def Bh: aM->(((List aO×List Int×List Aab×List Aab)->Option R)×Unit)->Unit->Option R:=λa (b,_) _=>bnd (clF n a.Nodes) λc=>bnd (Od n ([],c,a.Arcs,(ln a.Arcs)) ([],0)) λd=>b (d,[],c,c)
def Li:=sU Bh
def IL: Ic:=cD 165 2 1 0x35d6db873ec013d121fa653ce65696a6604eb4ce1c01a9ea3a213cc5be8c433539d aF0 [⟨0,[IK]⟩] [] @Bh
end
end
section
variable {R:Type}(n:Nat)
noncomputable section
def oY(n:Nat): (Int×List Int×Int)->(((List<|Int×Int)×Int)->Option R)->((((List<|Int×Int))->Option R)×Unit)->((List<|Int×Int)×Int)->Option R:=λ(a,b,c) d (f,_) (g,h)=>cd (h<c) (bnd (idx b h) λi=>d ((kL g i<|wr<|a+1),(wr<|h+1)))<|f g
def UY:=qE oY
def IH: Lc 137 0 2:=bI 0x41a1596acafebd9385104387550ae55721dbbc5f5acdb89734261627fe9066005fdf7186575889 aF0 [] [] @oY
def oZ: (Int×(List<|List Int)×Int)->(((List<|Int×Int)×Int)->Option R)->((((List<|Int×Int))->Option R)×Unit)->((List<|Int×Int)×Int)->Option R:=λ(a,b,c) d (f,_) (g,h)=>cd (h<c) (bnd (idx b h) λi=>bnd (UY n (a,i,(ln i)) (g,0)) λj=>d (j,(wr<|h+1)))<|f g
def UZ:=qE oZ
def II: Lc 137 0 1:=bI 0x43208ef682cd190d956fb850fa8d1f3c581e7642e590af3c759ee17cbde2d67f aF0 [⟨0,[cs IH]⟩] [] @oZ
def pA: (List aO×List Aab×List Aab×List dO×(Nat×Nat)×Int)->((List Int×(List<|Int×Int)×Int)->Option R)->(((List Int×(List<|Int×Int))->Option R)×Unit)->(List Int×(List<|Int×Int)×Int)->Option R:=λ(a,b,c,d,f,g) h (i,_) (j,l,m)=>cd (m<g) (bnd (idx (win d<|some f) m) λ_=>bnd (idx d<|m+((f.1:Nat):Int)) λo=>bnd (app j [(wr<|m+1)]) λr=>bnd (fP n o) λs=>bnd (UZ n (m,s,(ln s)) (l,0)) λt=>h (r,t,(wr<|m+1)))<|i (j,l)
def Lh:=qE pA
def IJ: Lc 137 0 0:=bI 0x47e18d224f1da3514a0fbd8bcb857683029da5329297263b03a766c10fd7f5066bae3534888b5eba9f891848165520f5221396589f07dc3934709e97716b2ca663264d9facb759367 aF0 [⟨0,[cs II]⟩] [] @pA
def oX(n:Nat): (List Int×List Aab×List Aab×(List<|Int×Int)×Int)->((List aO×Int)->Option R)->(((List aO)->Option R)×Unit)->(List aO×Int)->Option R:=λ(a,b,c,d,f) g (h,_) (i,j)=>cd (j<f) (bnd (eK i (List.length i) j) λ_=>bnd (idx i j) λl=>bnd (eK i (List.length i) j) λ_=>bnd (idx i j) λm=>bnd (eK (List.set i (Int.toNat j)<|aO.mk m.ID m.From m.To m.Via (Option.getD (cE d l.ID) 0) m.Right) (List.length<|List.set i (Int.toNat j)<|aO.mk m.ID m.From m.To m.Via (Option.getD (cE d l.ID) 0) m.Right) j) λ_=>bnd (idx (List.set i (Int.toNat j)<|aO.mk m.ID m.From m.To m.Via (Option.getD (cE d l.ID) 0) m.Right) j) λo=>g ((List.set (List.set i (Int.toNat j)<|aO.mk m.ID m.From m.To m.Via (Option.getD (cE d l.ID) 0) m.Right) (Int.toNat j)<|aO.mk o.ID o.From o.To o.Via o.Left<|Option.getD (cE d<|wr<|0-l.ID) 0),(wr<|j+1)))<|h i
def Lg:=qE oX
def IG: Lc 137 0 3:=bI 0x3a9f2b6ccf387bf7c90e143ce748e1581d5ebcc2d7b2d8b3359d42f3886137eaaeee77357c2a4c371d32d7957304d1bc333c91ec5bcded70880d231 aF0 [] [] @oX
def Jo: Nat->aM->Option (aM×Int)
 | 0,_=>none
 | n+1,a=>bnd (Li n a) λb=>bnd (Ax n<|aM.mk b.2.2.2 b.1 b.2.1) λc=>cnd (c.2 != 0) (some ((aM.mk [] [] []),c.2))<|bnd (oT n<|aM.mk b.2.2.2 b.1 b.2.1) λd=>bnd (iX n (aM.mk b.2.2.2 b.1 b.2.1) c.1 d) λf=>bnd (sub f (0,List.length f) 1<|ln f) λg=>cd (((g.2:Nat):Int) > 64) (some ((aM.mk [] [] []),3))<|bnd (prd n) λh=>bnd (Na<|decide<|List.length f<=1000000/\g.1+g.2<=List.length f) λ_=>bnd (qI (λ(i j:dO)=>bnd (mP h i j) λl=>some l)<|win f<|some g) λm=>bnd (Lh n (b.1,b.2.2.1,b.2.2.2,(aR f g.1 m),g,((g.2:Nat):Int)) (b.2.1,[],0)) λo=>bnd (Lg n (o.1,b.2.2.1,b.2.2.2,o.2,(ln b.1)) (b.1,0)) λr=>some ((aM.mk b.2.2.2 r o.1),0)
def y4: Kn:=bG 137 0x1eb160b980d682c aF0 [⟨0,[IJ]⟩,⟨3,[IG]⟩] [IL] Jo
abbrev aV7:=y4::aF0
def jM: Nat->dR->dR->Option Int
 | 0,_,_=>none
 | n+1,a,b=>bnd (cC n a.Face b.Face) λc=>some c
def Ts: Kn:=bG 169 0x3064e86b6cceb64 aV7 [] [] jM
abbrev aSW:=Ts::aV7
def lL(n:Nat): (List Int×List dO×Int)->((List dR×Int)->Option R)->(((List dR)->Option R)×Unit)->(List dR×Int)->Option R:=λ(a,b,c) d (f,_) (g,h)=>cd (h<c) (bnd (idx b h) λi=>bnd (idx a h) λj=>bnd (app g [(dR.mk j i.outer i.inner i.alone)]) λl=>d (l,(wr<|h+1)))<|f g
def IE:=qE lL
def Tu: Lc 138 0 0:=bI 0x3108d0fb83f2b09f45efa984ce642fcf4a896d316ecc7ad1057be5c8f409deb4654 aSW [] [] @lL
def kC: Nat->aM->Option (List dR×Int)
 | 0,_=>none
 | n+1,a=>bnd (Bf n a) λb=>cnd (b.2.2.2 != 0) (some ([],b.2.2.2))<|bnd (IE n (b.2.1,b.1,(ln b.1)) ([],0)) λc=>bnd (prd n) λd=>bnd (Na<|decide<|List.length c<=1000000) λ_=>bnd (qI (λ(f g:dR)=>bnd (jM d f g) λh=>some h) c) λi=>some (i,0)
def NY: Kn:=bG 138 0x1eb1678557a0ca8 aSW [⟨0,[Tu]⟩] [] kC
abbrev aSV:=NY::aSW
def uQ(n:Nat): ((List<|List Int)×Int)->((List Int×Int)->Option R)->(((List Int)->Option R)×Unit)->(List Int×Int)->Option R:=λ(a,b) c (d,_) (f,g)=>cd (g<b) (bnd (idx a g) λh=>bnd (app f h) λi=>c (i,(wr<|g+1)))<|d f
def U8:=qE uQ
def a8: Lc 140 0 0:=bI 0x127ddd5f84928932ccbab90663250775de25fbdc86b1 aSV [] [] @uQ
def Kf: Nat->dR->Option (List Int)
 | 0,_=>none
 | n+1,a=>bnd (app ([]:List Int) a.Outer) λb=>bnd (U8 n (a.Inner,(ln a.Inner)) (b,0)) λc=>some c
def aCB: Kn:=bG 140 0x228795e48b6b864 aSV [⟨0,[a8]⟩] [] Kf
abbrev aNh:=aCB::aSV
def Gq(n:Nat): (Int×Int)->((Bool->Option R)×Unit)->Unit->Option R:=λ(a,b) (c,_) _=>cnd (b != a) (cnd (b != (wr<|0-a)) (c true)<|c false)<|c false
def Qw:=eO Gq
def RE: Lc 139 0 2:=bJ 0x283c131224a11b2d8d611b04437ee0993e7ab8c2992a3e764bcbb42 aNh [] [] @Gq
def sA: (aM×Int×List Int×Int)->(Int->Option R)->((Int->Option R)×(Unit->Option R)×Unit)->Int->Option R:=λ(a,b,c,d) f (g,h,_) i=>cd (i<d) (bnd (idx c i) λj=>bnd (Qw n (b,j)) λl=>cnd l (bnd (El n a j) λm=>g m)<|f<|wr<|i+1)<|h ()
def J6:=mR sA
def RF: Lc 139 0 1:=bI 0x1951a0d55c25e5b890d50c6b6a7e48d61b893a62021b5f4639dfc7b3c2200781ba93df aNh [⟨0,[cs RE]⟩] [] @sA
def sC: (aM×Int×List dR×Int)->(Int->Option R)->(((dR×Int)->Option R)×(Unit->Option R)×Unit)->Int->Option R:=λ(a,b,c,d) f (g,h,_) i=>cd (i<d) (bnd (idx c i) λj=>bnd (Kf n j) λl=>bnd2 (J6 n (a,b,l,(ln l)) 0) (λm=>g (j,m)) λo=>bnd (some o) λ_=>f<|wr<|i+1)<|h ()
def J7:=mR sC
def RG: Lc 139 0 0:=bI 0xf78d362a211a26e1b592e8dd4da45a18ba65e7a40db514 aNh [⟨0,[cs RF]⟩] [] @sC
def Qx: Nat->aM->Int->(List dR)->Option Int
 | 0,_,_,_=>none
 | n+1,a,b,c=>bnd2 (J7 n (a,b,c,(ln c)) 0) (λd=>some d.2) λf=>bnd (some f) λ_=>some 0
def U3: Kn:=bG 139 0x224b87a4bdbd07d7be aNh [⟨0,[RG]⟩] [] Qx
abbrev aV6:=U3::aNh
def UQ: Nat->(List Int)->Int->Option (List Int)
 | 0,_,_=>none
 | n+1,_,a=>cd (a<0) none none
def HR: Kn:=bG 209 0x51511d aV6 [] [] UQ
abbrev aKd:=HR::aV6
def iH(n:Nat): ((List<|List Int)×Int)->((Int×Int)->Option R)->((Int->Option R)×Unit)->(Int×Int)->Option R:=λ(a,b) c (d,_) (f,g)=>cd (g<b) (bnd (idx a g) λh=>cd ((wr<|f+(ln h))<0) none<|c ((wr<|f+(ln h)),(wr<|g+1)))<|d f
def Ny:=qE iH
def Jc: Lc 203 0 0:=bI 0x128c5886a42eeebfdfa25a49c75a408fdef aKd [] [] @iH
def oQ(n:Nat): Int->((Unit->Option R)×((List Int×(Nat×Nat))->Option R)×Unit)->Unit->Option R:=λa (b,c,_) _=>cd (a<0) none<|cd ((wr<|a-0) > 0) (bnd (rep 0 (wr<|a-0)<|wr<|a-0) λd=>cnd (List.isEmpty d) (b ())<|bnd (sub d (0,List.length d) 0 0) λf=>c (d,f))<|b ()
def Nz:=Uw oQ
def Jd: Ic:=cD 209 0 2 0x3e1b3792f553555ef4a59ea961bb46fa411 aKd [] [] @oQ
def iG(n:Nat): ((List<|List Int)×Int)->(Int->Option R)->((Unit->Option R)×Unit)->Int->Option R:=λ(a,b) c (d,_) f=>cd (f<b) (bnd (idx a f) λg=>cnd (List.isEmpty g) (c<|wr<|f+1)<|bnd (app ([]:List Int) g) λ_=>none)<|d ()
def Nx:=qE iG
def Jb: Lc 203 0 1:=bI 0x2eafe339804e59d04f9ae46128331c3a44cf38 aKd [] [] @iG
def iF(n:Nat): ((List<|List Int)×Int)->((List Int×(Nat×Nat)×Int)->Option R)->(((List Int×(Nat×Nat))->Option R)×Unit)->(List Int×(Nat×Nat)×Int)->Option R:=λ(a,b) c (d,_) (f,g,h)=>cd (h<b) (bnd (idx a h) λi=>bnd (g9 f g i) λj=>c (j,(g.1,g.2+List.length i),(wr<|h+1)))<|d (f,g)
def Nw:=qE iF
def Ja: Lc 203 0 1:=bI 0xb2867bc27c8ba9d8218ac052f2dc8 aKd [] [] @iF
def oR: Nat->(List<|List Int)->Option (List Int)
 | 0,_=>none
 | n+1,a=>bnd (Ny n (a,(ln a)) (0,0)) λb=>bnd2 (Nz n b) (λ_=>bnd (Nx n (a,(ln a)) 0) λ_=>bnd (Na true) λ_=>some []) λc=>bnd (some c) λd=>bnd (Nw n (a,(ln a)) (d.1,d.2,0)) λf=>bnd (Na<|decide<|f.2=(0,List.length f.1)) λ_=>some<|win f.1<|some f.2
def Tp: Kn:=bG 203 0x39b6abe6ce0cce2 aKd [⟨0,[Jc]⟩,⟨1,[Jb,Ja]⟩] [Jd] oR
abbrev aNg:=Tp::aKd
def nF(n:Nat): ((Nat×Nat))->((List Int×Int×Int)->Option R)->(((List Int×Int)->Option R)×Unit)->(List Int×Int×Int)->Option R:=λa b (c,_) (d,f,g)=>cd (g<((a.2:Nat):Int)) (bnd (idx (win d<|some a) g) λ_=>bnd (idx d<|g+((a.1:Nat):Int)) λh=>bnd (idx (win d<|some a)<|wr<|g-1) λ_=>bnd (idx d<|(wr<|g-1)+((a.1:Nat):Int)) λi=>cnd (h != i) (bnd (idx (win d<|some a) g) λ_=>bnd (idx d<|g+((a.1:Nat):Int)) λj=>bnd (eK d (List.length d) f) λ_=>bnd (idx d f) λ_=>b ((List.set d (Int.toNat f) j),(wr<|f+1),(wr<|g+1)))<|b (d,f,(wr<|g+1)))<|c (d,f)
def QF:=qE nF
def DN: Lc 204 0 1:=bI 0xdae9340d7924e200e7a989660fcc65494000d32f1b2ed363b892ffe aNg [] [] @nF
def nG: (List Int)->(Int->Option R)->(((List Int×(Nat×Nat))->Option R)×(Unit->Option R)×Unit)->Int->Option R:=λa b (c,d,_) f=>cd (f<(ln a)) (bnd (eK a (List.length a) f) λ_=>bnd (idx a f) λg=>bnd (eK a (List.length a)<|wr<|f-1) λ_=>bnd (idx a<|wr<|f-1) λh=>cnd (g==h) (bnd (sub a (0,List.length a) f<|ln a) λi=>bnd (QF n i (a,f,1)) λj=>bnd (sub j.1 (0,List.length j.1) j.2<|ln j.1) λl=>bnd (clr j.1 l 0) λm=>bnd (sub m (0,List.length m) 0 j.2) λo=>c (m,o))<|b<|wr<|f+1)<|d ()
def QG:=mR nG
def DO: Lc 204 0 0:=bI 0x2ad8c406da764e5c515eeb8701c928e6ae1a02967e77 aNg [⟨0,[cs DN]⟩] [] @nG
def yI: (List Int)->((Unit->Option R)×((List Int×(Nat×Nat))->Option R)×Unit)->Unit->Option R:=λa (b,c,_) _=>cd ((ln a)<2) (b ())<|bnd2 (QG n a 1) (λd=>c (d.1,d.2)) λf=>bnd (some f) λ_=>b ()
def Fz:=Uw yI
def DP: Ic:=cD 204 0 1 0x4bd37679759d61fc3a47cfb8897b2ff002dfe0 aNg [⟨0,[DO]⟩] [] @yI
def mM: Nat->(List<|List Int)->Option (List Int)
 | 0,_=>none
 | n+1,a=>bnd (oR n a) λb=>bnd (prd n) λ_=>bnd (Na<|decide<|List.length b<=1000000) λ_=>bnd2 (Fz n<|tD b) (λ_=>some<|tD b) λc=>bnd (some c) λd=>some<|win d.1<|some d.2
def VO: Kn:=bG 193 0x2def46d9b34d aNg [] [DP] mM
abbrev aV5:=VO::aNg
def tQ: Nat->(List Int)->(List Int)->Option (List Int)
 | 0,_,_=>none
 | n+1,a,b=>bnd (mM n [a,b]) λc=>some c
def T6: Kn:=bG 170 0x1382818132880bf5fa3a5 aV5 [] [] tQ
abbrev aSU:=T6::aV5
def Dg: (Int×Int)->((Bool->Option R)×Unit)->Unit->Option R:=λ(a,b) (c,_) _=>bnd (fJ n a) λd=>cnd d (bnd (fJ n b) λf=>cnd f (cd (a<b) (c true)<|c false)<|c true)<|cd (a<b) (c true)<|c false
def Mm:=eO Dg
def MD: Lc 210 0 0:=bJ 0x7cda19b6f83db8a022a9227 aSU [] [] @Dg
def Ki: Nat->Int->Int->Option Bool
 | 0,_,_=>none
 | n+1,a,b=>bnd (Mm n (a,b)) λc=>cnd c (some true)<|some false
def L3: Kn:=bG 210 0x2869e9645abe aSU [⟨0,[MD]⟩] [] Ki
abbrev aV4:=L3::aSU
def NP: Nat->Int->Option Bool
 | 0,_=>none
 | n+1,a=>cnd (a != a) (some true)<|some false
def CM: Kn:=bG 211 0xb7d aV4 [] [] NP
abbrev aPK:=CM::aV4
def fD: (List Int×Int)->((Int×Int)->Option R)->((Int->Option R)×Unit)->(Int×Int)->Option R:=λ(a,b) c (d,_) (f,g)=>cd (f<g) (bnd (idx a<|wr<|Int.fdiv (IntKind.u64.wrap<|wr<|f+g) 2) λh=>bnd (Ki n h b) λi=>cnd i (c ((wr<|(wr<|Int.fdiv (IntKind.u64.wrap<|wr<|f+g) 2)+1),g))<|c (f,(wr<|Int.fdiv (IntKind.u64.wrap<|wr<|f+g) 2)))<|d f
def xM:=qE fD
def uD: Lc 205 0 0:=bI 0x5be5fb38d89b1d0e8a7a33032a1f4a17d23ac1 aPK [] [] @fD
def iQ(n:Nat): Int->((Bool->Option R)×Unit)->Unit->Option R:=λa (b,_) _=>cnd (a != a) (b true)<|b false
def fN:=sU iQ
def uE: Ic:=cD 211 0 1 0x11146847e02073a93e aPK [] [] @iQ
def gU: Nat->(List Int)->Int->Option (Int×Bool)
 | 0,_,_=>none
 | n+1,a,b=>bnd (xM n (a,b) (0,(ln a))) λc=>cd (c<(ln a)) (bnd (idx a c) λd=>cnd (d==b) (some (c,true))<|bnd (idx a c) λf=>bnd (fN n f) λg=>cnd g (bnd (fN n b) λh=>cnd h (some (c,true))<|some (c,false))<|some (c,false))<|some (c,false)
def Aq: Kn:=bG 205 0x87f1b4 aPK [⟨0,[uD]⟩] [uE] gU
abbrev aNf:=Aq::aPK
def Ga: (List Int×Int)->((Bool->Option R)×Unit)->Unit->Option R:=λ(a,b) (c,_) _=>bnd (gU n a b) λd=>cnd d.2 (c false)<|c true
def Po:=sU Ga
def QJ: Ic:=cD 194 0 2 0xe467b96f8dd0961294634314ced38 aNf [] [] @Ga
def rU: (List Int×List Int×Int)->((List Int×Int)->Option R)->(((List Int)->Option R)×Unit)->(List Int×Int)->Option R:=λ(a,b,c) d (f,_) (g,h)=>cd (h<c) (bnd (idx b h) λi=>bnd (Po n (a,i)) λj=>cnd j (bnd (app g [i]) λl=>d (l,(wr<|h+1)))<|d (g,(wr<|h+1)))<|f g
def G4:=qE rU
def QI: Lc 195 0 0:=bI 0x56c6bf5022cd697fcec7af965b5525fafeef4cc0ddd10f2756671b9c09937 aNf [] [QJ] @rU
def Gb: (List Int×List Int)->(((List Int)->Option R)×Unit)->Unit->Option R:=λ(a,b) (c,_) _=>bnd (mM n [b]) λd=>bnd (G4 n (a,d,(ln d)) ([],0)) λf=>c f
def Pp:=sU Gb
def QK: Ic:=cD 195 0 2 0x2100a3a5e01dd6a2e4e944aa6f8b636588dc22e2e353 aNf [⟨0,[QI]⟩] [] @Gb
def Pq: Nat->(List Int)->(List Int)->Option (List Int)
 | 0,_,_=>none
 | n+1,a,b=>bnd (mM n [b]) λc=>bnd (Pp n (c,a)) λd=>some d
def T7: Kn:=bG 171 0x1382818132880bf5fa3a5 aNf [] [QK] Pq
abbrev aV3:=T7::aNf
def LZ: Nat->aG->Int->Option Int
 | 0,_,_=>none
 | n+1,a,b=>bnd (cC n a.ID b) λc=>some c
def AP: Kn:=bG 146 0x63ebb282f aV3 [] [] LZ
abbrev aNe:=AP::aV3
def wD: (aG×Int)->((Int->Option R)×Unit)->Unit->Option R:=λ(a,b) (c,_) _=>bnd (cC n a.ID b) λd=>c d
def jV:=sU wD
def wC: Ic:=cD 146 0 2 0x20fe2d8f5d62c783c3f21 aNe [] [] @wD
def mD: (List aG×Int)->((Int×Int)->Option R)->((Int->Option R)×Unit)->(Int×Int)->Option R:=λ(a,b) c (d,_) (f,g)=>cd (f<g) (bnd (idx a<|wr<|Int.fdiv (IntKind.u64.wrap<|wr<|f+g) 2) λh=>bnd (jV n (h,b)) λi=>cd (i<0) (c ((wr<|(wr<|Int.fdiv (IntKind.u64.wrap<|wr<|f+g) 2)+1),g))<|c (f,(wr<|Int.fdiv (IntKind.u64.wrap<|wr<|f+g) 2)))<|d f
def MA:=qE mD
def AQ: Lc 145 0 0:=bI 0x235da62fec1c9aa69fd142c5619343e4c342360a45db819 aNe [] [wC] @mD
def wE: (List aG×Int)->(((aG×Int×Bool)->Option R)×(Int->Option R)×Unit)->Unit->Option R:=λ(a,b) (c,d,_) _=>bnd (MA n (a,b) (0,(ln a))) λf=>cd (f<(ln a)) (bnd (idx a f) λg=>bnd (jV n (g,b)) λh=>cnd (h==0) (c (g,f,true))<|c (g,f,false))<|d f
def Df:=Uw wE
def AR: Ic:=cD 145 0 3 0x29839b4145be1334e58421828864e122e38e821a00e1069 aNe [⟨0,[AQ]⟩] [wC] @wE
def Ab: Nat->aJ->Int->Option (Int×Bool)
 | 0,_,_=>none
 | n+1,a,b=>bnd2 (Df n (a.Features,b)) (λc=>cnd c.2.2 (some (c.2.1,true))<|some (c.2.1,false)) λd=>bnd (some d) λf=>some (f,false)
def SE: Kn:=bG 121 0x87f29c aNe [] [AR] Ab
abbrev aPJ:=SE::aNe
def uO(n:Nat): (dR×List Int×Int)->(((List<|Int×Int)×Int)->Option R)->((((List<|Int×Int))->Option R)×Unit)->((List<|Int×Int)×Int)->Option R:=λ(a,b,c) d (f,_) (g,h)=>cd (h<c) (bnd (idx b h) λi=>d ((kL g i a.Face),(wr<|h+1)))<|f g
def U6:=qE uO
def WM: Lc 214 0 1:=bI 0xac1478f235e1657e1c76bbaabf3444d0aea7133b0c984ebc211452cd9009a14554f8c5c1f6b774 aPJ [] [] @uO
def uP: (List dR×Int)->(((List<|Int×Int)×Int)->Option R)->((((List<|Int×Int))->Option R)×Unit)->((List<|Int×Int)×Int)->Option R:=λ(a,b) c (d,_) (f,g)=>cd (g<b) (bnd (idx a g) λh=>bnd (U6 n (h,h.Alone,(ln h.Alone)) (f,0)) λi=>c (i,(wr<|g+1)))<|d f
def U7:=qE uP
def WX: Lc 214 0 0:=bI 0xa4bde373f49ef156fbd5550108bd71e1fda0903087c076bf4 aPJ [⟨0,[cs WM]⟩] [] @uP
def nX: Nat->aM->Option (List<|Int×Int)
 | 0,_=>none
 | n+1,a=>bnd (kC n a) λb=>bnd (U7 n (b.1,(ln b.1)) ([],0)) λc=>some c
def Kd: Kn:=bG 214 0xccc39105ab66d1456 aPJ [⟨0,[WX]⟩] [] nX
abbrev aX2:=Kd::aPJ
end
end
section
open iW (den cds ag)
noncomputable section
def dG: Nat->aM->aM->Int->Option Bool
 | 0,_,_,_=>none
 | n+1,p,q,m=>bnd (nX n p) λold=>bnd (nX n q) λnew=>some (sdB old m new)
theorem aIb: ∀(m:List (Int×Int)) (rows:List (List AV)),Qm (kk:=1) 1 m rows->aAJ (fT (kk:=1) 1 m rows)=some m
 | [],rows,h=>rfl
 | e::m,[x]::rows,h=>by
  obtain⟨⟨h1,_⟩,h2⟩:=h
  cases h1
  show (match aAJ (fT (kk:=1) 1 m rows) with | some l=>some ((e.1,e.2)::l) | none=>none)=_
  rw[aIb m rows h2]
theorem aJ3: FOK PP T 214 ⟨[.w 25],[32],false,λn p=>nX n p⟩:=by
 have e:Kd.c=⟨[.w 25],[32],false,λn p=>nX n p⟩:=by kernel_rfl
 have h:=Kd.ok
 rw[e] at h
 exact h
theorem aKG{n:Nat}{p:aM}{m:List (Int×Int)}{a:AV}(h:nX n p=some m)(q:Qh [] (toW (val 25 p)) a): sdH (fB PP T n) 214 [] a=some m:=by
 obtain⟨b,rfl,q4⟩:=Qh.inA (cs:=[.vw 18 p.Nodes,.vw 20 p.Arcs,.vw 1 p.Faces]) q
 clear q
 match b,q4 with
 | [xn,xa,xf],q4=>
 obtain⟨qn,qa,qf,_⟩:=q4
 obtain⟨aw',A,h1,h2,h3,_⟩:=aJ3 n p m h [cJ [] (.agg [xn,xa,xf])] ⟨Qh.mkA ⟨.p _ _ (Q8 (Qh.pu (v:=.vw 18 p.Nodes) qn trivial)),.p _ _ (Q8 (Qh.pu (v:=.vw 20 p.Arcs) qa trivial)),.p _ _ (Q8 (Qh.pu (v:=.vw 1 p.Faces) qf trivial)),trivial⟩,trivial⟩
 have h2:=h2 []
 match aw',h2 with
 | [b],h2=>
  have e:eY A 0 b=dY A 0 b:=by
   cases b with
   | tup l=>exact (h3 _ ZG l rfl).elim
   | _=>rfl
  have h4:Qp (.rmp 1 1 m) (eY A 0 b):=by rw[e];exact Qh.pu (v:=.rmp 1 1 m) h2.1 trivial
  have e2:cJ [] (.agg [xn,xa,xf])=.agg [dD [] xn,dD [] xa,dD [] xf]:=rfl
  rw[e2] at h1
  unfold sdH
  rw[e2]
  simp only[h1]
  show Fx (eY A 0 b)=some m
  obtain⟨rows,h5,h6⟩:=h4.inM
  rcases h5 with⟨h5,rfl⟩ | h5
  .rw[h5];rfl
  .rw[h5];exact aIb m rows h6
theorem aDs: FOK PP T 96 ⟨[.w 25,.w 25,.w 1],[4],false,λn p=>dG n p.1 p.2.1 p.2.2⟩:=by
 rintro n ⟨p,q,m⟩ r h aw w
 match aw,w with
 | [a,b,c],w=>
 obtain⟨w1,w2,w3,_⟩:=w
 have hc:c=.lit (.int .i64 m):=Qh.inL (v:=.int .i64 m) w3
 subst hc
 cases n with
 | zero=>cases h
 | succ n=>
  obtain⟨old,h1,h⟩:=bF h
  obtain⟨new,h2,h⟩:=bF h
  cases h
  refine⟨[.lit (.bool (sdB old m new))],[],?_,λH1=>⟨.l _,trivial⟩,λx hx l e=>(by rw[ZN.1 hx] at e;cases e),λe=>(by cases e)⟩
  have e:(aF.prim 96:Option aAk)=some (aBy 214):=rfl
  simp only[fB,e]
  show sdA (fB PP T n) 214 [a,b,.lit (.int .i64 m)] []=_
  simp only[sdA,aKG h1 w1,aKG h2 w2,jP]
def J8: Kn:=⟨96,_,aDs⟩
end
end
section
variable {R:Type}(n:Nat)
noncomputable section
abbrev dS:=J8::aX2
def LR: Lc 61 0 0:=bI 0x14fdb88c2202764d8d5a94bb4bc250bd183bef13bab5ea7ac000847833b65c2f16f4f36bf dS [] [] @mT
def LQ: Lc 61 0 1:=bI 0x5d47b1857b4feda92850c104967bdb4d612ea8719ebd82d890e84dfd9ef9c dS [] [] @mS
def Db: aJ->(((List Int×List Aab×List aO×List aG×List Int)->Option R)×Unit)->Unit->Option R:=λa (b,_) _=>bnd (pW n a.Plan.Nodes) λc=>bnd (mN n a.Plan.Arcs) λd=>bnd (gP n a.Plan.Faces) λf=>bnd (jU n a.Features) λg=>bnd (BI n (f,c,g,(ln d)) (d,0)) λh=>bnd (BH n (f,c,h,(ln g)) (g,0)) λi=>b (f,c,h,i,f)
def Ma:=sU Db
def LU: Ic:=cD 61 0 1 0x8e4898140bb372afccbe26fb5e6d8f60982cf326e7d05855c459 dS [⟨0,[LR]⟩,⟨1,[LQ]⟩] [] @Db
def Cy(n:Nat): Int->((Bool->Option R)×Unit)->Unit->Option R:=λa (b,_) _=>cnd (a==1) (b true)<|cnd (a==2) (b true)<|cnd (a==3) (b true)<|b false
def Ly:=eO Cy
def LP: Lc 63 0 0:=bJ 0x29123c34ee37f2daeb24b5b131284e95de21bfbfc dS [] [] @Cy
def Cx: (List Int×List Aab×List aO×List aG×aZ)->((Bool->Option R)×Unit)->Unit->Option R:=λ(a,b,c,d,f) (g,_) _=>bnd (kI n (aM.mk b c a) f.ID) λh=>cd (h > 0) (g true)<|bnd (jB n (aJ.mk (aM.mk b c a) d) 1 f.ID) λi=>cd ((ln i) > 0) (g true)<|g false
def Lx:=eO Cx
def LO: Lc 92 0 0:=bJ 0x16be8f3365c7b3f6d3f6f09e36e17f9952f7e8fb603ed2cf330a0dafdecbb dS [] [] @Cx
def Cz(n:Nat): (List Int×List Int×List Aab×List aO×List aG×Int×Int)->((Unit->Option R)×((List Aab×(Nat×Nat))->Option R)×Unit)->Unit->Option R:=λ(a,b,c,d,f,g,h) (i,j,_) _=>bnd (Na<|decide<|0<=g/\g<=h/\h<=(ln c)/\(ln c)<=(ln c)) λ_=>cnd (g==h) (i ())<|bnd (sub c (0,List.length c) 0 g) λl=>bnd (sub c (0,List.length c) h<|ln c) λm=>bnd (g9 c l<|win c<|some m) λo=>bnd (sub o (l.1,l.2+List.length (win c<|some m)) (((l.1,l.2+List.length (win c<|some m)).2:Nat):Int)<|ln c) λr=>bnd (clr o r<|Aab.mk 0<|Aaa.mk 0 0) λs=>j (s,(l.1,l.2+List.length (win c<|some m)))
def Lz:=Uw Cz
def LS: Ic:=cD 115 0 3 0x9ac520c23acbf84ed6b8aacc42fa94e8512a14e52236851d3fa5 dS [] [] @Cz
def Da: (List Int×List Int×List Aab×List aO×List aG×aZ)->(((List Aab×Int)->Option R)×(((Nat×Nat)×List Aab)->Option R)×((List Aab×List Aab)->Option R)×Unit)->Unit->Option R:=λ(a,b,c,d,f,g) (h,i,j,_) _=>bnd (oG n (aJ.mk (aM.mk c d a) f) g.ID) λl=>cnd l.2 (cnd (g.Kind==1) (h (c,8))<|cnd (g.Kind==3) (bnd (eK c (List.length c) l.1) λ_=>bnd (idx c l.1) λm=>h ((List.set c (Int.toNat l.1)<|Aab.mk m.ID g.At),0))<|bnd (Lx n (a,c,d,f,g)) λo=>cnd o (h (c,13))<|bnd2 (Lz n (a,b,c,d,f,l.1,(wr<|l.1+1))) (λ_=>h (c,0)) λr=>bnd (some r) λs=>i (s.2,s.1))<|cnd (g.Kind==1) (bnd (prd n) λ_=>bnd (G2 c l.1<|Aab.mk g.ID g.At) λt=>j (t,[(Aab.mk g.ID g.At)]))<|h (c,7)
def uN:=in3 Da
def LT: Ic:=cD 92 0 2 0x2d8d32887194e81cb2f4d36a5519c480949a8b9dbd439522d5fb5b8d2f5cbc9b3a5e1a0f1279c2f3cc97654431dd7 dS [⟨0,[LO]⟩] [LS] @Da
def fC: (List Int×List Aab×List aO×List aG×Int)->((Int->Option R)×Unit)->Unit->Option R:=λ(a,b,c,d,f) (g,_) _=>cnd (f==0) (bnd (fI n<|aJ.mk (aM.mk b c a) d) λh=>g h)<|g f
def cH:=eO fC
def LN: Lc 63 0 2:=bJ 0x42c6ddfe7fbf dS [] [] @fC
def nQ: (aJ×aZ×List Int×List Aab×List aO×List aG×Int×Int)->((Bool->Option R)×Unit)->Unit->Option R:=λ(a,b,c,d,f,g,h,i) (j,_) _=>cnd (h==0) (cnd (b.Kind==3) (bnd (dG n a.Plan (aM.mk d f c) i) λl=>cnd l (j true)<|j false)<|cnd (b.Kind==6) (bnd (dG n a.Plan (aM.mk d f c) i) λm=>cnd m (j true)<|j false)<|j false)<|j false
def Ho:=eO nQ
def FX: Lc 63 0 4:=bJ 0x320e9a6f0f4509b dS [] [] @nQ
def pU: (aJ×aZ×List Int×List Aab×List aO×List aG×Int×Int)->((Int->Option R)×Unit)->Unit->Option R:=λ(a,b,c,d,f,g,h,i) (j,_) _=>bnd (Ho n (a,b,c,d,f,g,h,i)) λl=>cnd l (j 12)<|j h
def dX:=eO pU
def LM: Lc 63 0 3:=bJ 0x32097e9378cf887 dS [⟨0,[cs FX]⟩] [] @pU
def zP: ((Nat×Nat)×List Int×List Aab×List aO×List aG×Int)->((Int->Option R)×Unit)->Unit->Option R:=λ(a,b,c,d,f,g) (h,_) _=>cnd (g==0) (bnd (fI n<|aJ.mk (aM.mk (win c<|some a) d b) f) λi=>h i)<|h g
def sK:=eO zP
def FW: Lc 63 0 2:=bJ 0x96082027f666e88078ea109cce6b76ef dS [] [] @zP
def zN: (aJ×aZ×(Nat×Nat)×List Int×List Aab×List aO×List aG×Int×Int)->((Bool->Option R)×Unit)->Unit->Option R:=λ(a,b,c,d,f,g,h,i,j) (l,_) _=>cnd (i==0) (cnd (b.Kind==3) (bnd (dG n a.Plan (aM.mk (win f<|some c) g d) j) λm=>cnd m (l true)<|l false)<|cnd (b.Kind==6) (bnd (dG n a.Plan (aM.mk (win f<|some c) g d) j) λo=>cnd o (l true)<|l false)<|l false)<|l false
def Hn:=eO zN
def FU: Lc 63 0 4:=bJ 0x798bb24f6cc764f96f1337cb209c6bf3893 dS [] [] @zN
def zO: (aJ×aZ×(Nat×Nat)×List Int×List Aab×List aO×List aG×Int×Int)->((Int->Option R)×Unit)->Unit->Option R:=λ(a,b,c,d,f,g,h,i,j) (l,_) _=>bnd (Hn n (a,b,c,d,f,g,h,i,j)) λm=>cnd m (l 12)<|l i
def sJ:=eO zO
def FV: Lc 63 0 3:=bJ 0x4688053a3db7a95f46ca1991dbf551713e8 dS [⟨0,[cs FU]⟩] [] @zO
def FR: Lc 63 0 2:=bJ 0x15531dbdb1579e03d2b10740 dS [] [] @fC
def FP: Lc 63 0 4:=bJ 0x1543ecfc2020a05b36b3095c dS [] [] @nQ
def FQ: Lc 63 0 3:=bJ 0x1541c173b7dc225446123690 dS [⟨0,[cs FP]⟩] [] @pU
def zM(n:Nat): Int->((Bool->Option R)×Unit)->Unit->Option R:=λa (b,_) _=>cnd (a==4) (b true)<|cnd (a==5) (b true)<|cnd (a==6) (b true)<|b false
def Hm:=eO zM
def FO: Lc 63 0 1:=bJ 0x29123c34ee37f2daeb25cb752215de7c0be5d23b4 dS [] [] @zM
def zL(n:Nat): (aZ×Int×Int)->((Int->Option R)×Unit)->Unit->Option R:=λ(a,b,c) (d,_) _=>cd (a.C<0) (d b)<|d c
def Hl:=eO zL
def FN: Lc 116 0 0:=bJ 0x6d438229eac0f37e45d0860463db5289d4c74b79adf612357c31b38b2c1f9c3460b9726bd1aa49ba34e3d6e dS [] [] @zL
def zK: (List Aab×List Int×List aO×Int×Int)->((Int->Option R)×(Unit->Option R)×Unit)->Unit->Option R:=λ(a,b,c,d,f) (g,h,_) _=>cnd (f==0) (g 12)<|bnd (oD n b f) λi=>cnd i (g 8)<|cnd (d==0) (g 12)<|h ()
def Hk:=pc2 zK
def FM: Lc 116 0 1:=bJ 0x5293e2123e97be350b6f79fb4730ae0f29b6140bcb4c15a1c064cb2cea7bcbdacbb1b0d0b05d0d591dbfa0ada05a65ee68392f130709088a6e0b72987d38651d408c6d474c46e9 dS [] [] @zK
def nW: (List Int×List Aab×List aG×List Int×Int×List Int×Int)->((List aO×Int)->Option R)->(((List aO)->Option R)×Unit)->(List aO×Int)->Option R:=λ(a,b,c,d,f,g,h) i (j,_) (l,m)=>cd (m<h) (bnd (idx g m) λo=>bnd (Ac n (aJ.mk (aM.mk b l a) c)<|nE o<|wr<|0-o) λr=>cnd r.2 (cd (o > 0) (bnd (eK l (List.length l) r.1) λ_=>bnd (idx l r.1) λs=>i ((List.set l (Int.toNat r.1)<|aO.mk s.ID s.From s.To s.Via f s.Right),(wr<|m+1)))<|bnd (eK l (List.length l) r.1) λ_=>bnd (idx l r.1) λt=>i ((List.set l (Int.toNat r.1)<|aO.mk t.ID t.From t.To t.Via t.Left f),(wr<|m+1)))<|i (l,(wr<|m+1)))<|j l
def RZ:=qE nW
def GD: Lc 141 0 0:=bI 0xf43e9d142a07044085d49c954d62cc3c2a7556d8e7aed45ad844d6a4ef1f08c8a75b5c36a10e8e67b026125d52617a78de8f0658 dS [] [] @nW
def zJ: (aG×Int)->((Bool->Option R)×Unit)->Unit->Option R:=λ(a,b) (c,_) _=>bnd (dM n a.Kind) λd=>cnd (d==3) (bnd (oD n a.Parts b) λf=>cnd f (c true)<|c false)<|c false
def Hj:=eO zJ
def FL: Lc 141 0 2:=bJ 0x2acf4d22ed484d5aac3bcde2d9b81ceda68cb145206ba3cf6743b5a57c6d42ae6130f4f0243e3e5df3f433db652d714adf9 dS [] [] @zJ
def nV: (List Int×List Int×List Aab×List aO×List aO×Int×Int×Int)->((List aG×Int)->Option R)->(((List aG)->Option R)×Unit)->(List aG×Int)->Option R:=λ(a,b,c,d,f,g,h,i) j (l,_) (m,o)=>cd (o<i) (bnd (eK m (List.length m) o) λ_=>bnd (idx m o) λr=>bnd (Hj n (r,g)) λs=>cnd s (bnd (tQ n r.Parts [h]) λt=>bnd (eK m (List.length m) o) λ_=>bnd (idx m o) λu=>j ((List.set m (Int.toNat o)<|aG.mk u.ID u.Kind u.Class u.Name t),(wr<|o+1)))<|j (m,(wr<|o+1)))<|l m
def RY:=qE nV
def GC: Lc 141 0 1:=bI 0x2483f8bda477709777a8b7ca9a6b184f7c2c070f1bee0f1f3f5379f5fb25f0adb9419edba8e93759065b2aca13433d0697e dS [⟨0,[cs FL]⟩] [] @nV
def zY: (List Int×List Int×List Aab×List aO×List aG×List Int×List aO×List Int×Int×Int)->(((List Int×List aG×List aO)->Option R)×Unit)->Unit->Option R:=λ(a,b,c,d,f,g,h,i,j,l) (m,_) _=>bnd (RZ n (a,c,f,g,l,i,(ln i)) (h,0)) λo=>bnd (tQ n a [l]) λr=>bnd (RY n (r,b,c,d,o,j,l,(ln f)) (f,0)) λs=>m (r,s,o)
def Hu:=sU zY
def GN: Ic:=cD 141 0 4 0x31567a455b6404e46d2e97c60a1e47a15270bd68e3d2cee76e0853a720a894139b05fd0a060d82a94b13c0d40f35e8d8393 dS [⟨0,[GD]⟩,⟨1,[GC]⟩] [] @zY
def zZ: (List Int×List Int×List Aab×List aO×List aG×aZ)->((Int->Option R)×((List aO×List aO×Int)->Option R)×((List aO×List aO×aM×Int)->Option R)×((List Int×List aG×List aO×List aO×aM)->Option R)×Unit)->Unit->Option R:=λ(a,b,c,d,f,g) (h,i,j,l,_) _=>bnd (Ac n (aJ.mk (aM.mk c d a) f) g.ID) λm=>cnd m.2 (h 8)<|bnd (oG n (aJ.mk (aM.mk c d a) f) g.A) λo=>cnd o.2 (bnd (oG n (aJ.mk (aM.mk c d a) f) g.B) λr=>cnd r.2 (bnd (mN n d) λs=>bnd (iU n g.Via) λt=>bnd (prd n) λ_=>bnd (G2 s m.1<|aO.mk g.ID g.A g.B t 0 0) λu=>bnd (Jq n<|aM.mk c u a) λv=>cnd (v != 0) (i (u,[(aO.mk g.ID g.A g.B t 0 0)],v))<|bnd (Jo n<|aM.mk c u a) λw=>cnd (w.2 != 0) (j (u,[(aO.mk g.ID g.A g.B t 0 0)],w.1,w.2))<|bnd (kC n w.1) λx=>cnd (x.2 != 0) (j (u,[(aO.mk g.ID g.A g.B t 0 0)],w.1,x.2))<|bnd (idx w.1.Arcs m.1) λy=>bnd (idx w.1.Arcs m.1) λz=>bnd (idx x.1 y.Left) λa0=>bnd (idx x.1 z.Right) λb0=>bnd (Qx n (aM.mk c d a) g.ID [a0,b0]) λc0=>bnd (eK u (List.length u) m.1) λ_=>bnd (idx u m.1) λd0=>bnd (eK (List.set u (Int.toNat m.1)<|aO.mk d0.ID d0.From d0.To d0.Via c0 d0.Right) (List.length<|List.set u (Int.toNat m.1)<|aO.mk d0.ID d0.From d0.To d0.Via c0 d0.Right) m.1) λ_=>bnd (idx (List.set u (Int.toNat m.1)<|aO.mk d0.ID d0.From d0.To d0.Via c0 d0.Right) m.1) λf0=>cnd (y.Left==z.Right) (cnd (g.C != 0) (j ((List.set (List.set u (Int.toNat m.1)<|aO.mk d0.ID d0.From d0.To d0.Via c0 d0.Right) (Int.toNat m.1)<|aO.mk f0.ID f0.From f0.To f0.Via f0.Left c0),[(aO.mk g.ID g.A g.B t 0 0)],w.1,12))<|l (a,f,(List.set (List.set u (Int.toNat m.1)<|aO.mk d0.ID d0.From d0.To d0.Via c0 d0.Right) (Int.toNat m.1)<|aO.mk f0.ID f0.From f0.To f0.Via f0.Left c0),[(aO.mk g.ID g.A g.B t 0 0)],w.1))<|bnd (Hl n (g,z.Right,y.Left)) λg0=>bnd2 (Hk n (c,a,(List.set (List.set u (Int.toNat m.1)<|aO.mk d0.ID d0.From d0.To d0.Via c0 d0.Right) (Int.toNat m.1)<|aO.mk f0.ID f0.From f0.To f0.Via f0.Left c0),g0,(nE g.C<|wr<|0-g.C))) (λh0=>j ((List.set (List.set u (Int.toNat m.1)<|aO.mk d0.ID d0.From d0.To d0.Via c0 d0.Right) (Int.toNat m.1)<|aO.mk f0.ID f0.From f0.To f0.Via f0.Left c0),[(aO.mk g.ID g.A g.B t 0 0)],w.1,h0)) λi0=>bnd (some i0) λ_=>bnd (idx x.1 g0) λj0=>bnd (Kf n j0) λl0=>bnd (Hu n (a,b,c,d,f,a,(List.set (List.set u (Int.toNat m.1)<|aO.mk d0.ID d0.From d0.To d0.Via c0 d0.Right) (Int.toNat m.1)<|aO.mk f0.ID f0.From f0.To f0.Via f0.Left c0),l0,c0,(nE g.C<|wr<|0-g.C))) λm0=>l (m0.1,m0.2.1,m0.2.2,[(aO.mk g.ID g.A g.B t 0 0)],w.1))<|h 7)<|bnd (oG n (aJ.mk (aM.mk c d a) f) g.B) λo0=>cnd o0.2 (h 7)<|h 7
def Hv:=λ(n:Nat) p=>bnd (prd n) λn=>zZ n p (λt=>some<|Sum.inl t,λt=>some<|Sum.inr<|Sum.inl t,λt=>some<|Sum.inr<|Sum.inr<|Sum.inl t,λt=>some<|Sum.inr<|Sum.inr<|Sum.inr t,()) ()
def GO: Ic:=cD 116 0 2 0xe4c05cb44cc2e17cc802c7ada8da5e162c94a586291bd7780fb6dce9c9c0dcba857616a45b82ee463f65178ab4c6c4aa1d8957db3b38d5ae5923fe485a7252ff2784d2a2 dS [⟨0,[FN]⟩,⟨1,[FM]⟩] [GN] @zZ
def zI: (List Int×List Aab×List aO×List aG×Int×Int)->((Bool->Option R)×Unit)->Unit->Option R:=λ(a,b,c,d,f,g) (h,_) _=>cnd (f != g) (bnd (jB n (aJ.mk (aM.mk b c a) d) 3 f) λi=>bnd (jB n (aJ.mk (aM.mk b c a) d) 3 g) λj=>bnd (eL n i j) λl=>cnd l (h false)<|h true)<|h false
def Hi:=eO zI
def FK: Lc 93 0 0:=bJ 0x57588e899c947ce0bc643d3a27c98557fb81cf3ec77d81d24b45be84eb9b8aed01a02c84013 dS [] [] @zI
def zX(n:Nat): (List Int×List Int×List Aab×List aO×List aG×Int×Int)->((Unit->Option R)×((List aO×(Nat×Nat))->Option R)×Unit)->Unit->Option R:=λ(a,b,c,d,f,g,h) (i,j,_) _=>bnd (Na<|decide<|0<=g/\g<=h/\h<=(ln d)/\(ln d)<=(ln d)) λ_=>cnd (g==h) (i ())<|bnd (sub d (0,List.length d) 0 g) λl=>bnd (sub d (0,List.length d) h<|ln d) λm=>bnd (g9 d l<|win d<|some m) λo=>bnd (sub o (l.1,l.2+List.length (win d<|some m)) (((l.1,l.2+List.length (win d<|some m)).2:Nat):Int)<|ln d) λr=>bnd (clr o r<|aO.mk 0 0 0 [] 0 0) λs=>j (s,(l.1,l.2+List.length (win d<|some m)))
def Ht:=Uw zX
def GM: Ic:=cD 118 0 3 0x745790d011d813b18b6ba0351fcd4ea3df2d93aa2284959a112e0d3 dS [] [] @zX
def zH(n:Nat): (List Int×List Int×List Aab×List aO×List aG×Int×Int×aO×Int)->(((List aO)->Option R)×Unit)->Unit->Option R:=λ(a,b,c,d,f,g,h,i,j) (l,_) _=>cnd (i.Left==g) (bnd (eK d (List.length d) j) λ_=>bnd (idx d j) λm=>l<|List.set d (Int.toNat j)<|aO.mk m.ID m.From m.To m.Via h m.Right)<|l d
def Hh:=eO zH
def FJ: Lc 119 0 1:=bJ 0xe4cfd8bd1a43815a17ed6fa7908fd0dba0487b8f6ca7771dd77dff89207aceed6ffbdfc6d94 dS [] [] @zH
def nU: (List Int×List Int×List Aab×List aG×Int×Int×Int)->((List aO×Int)->Option R)->(((List aO)->Option R)×Unit)->(List aO×Int)->Option R:=λ(a,b,c,d,f,g,h) i (j,_) (l,m)=>cd (m<h) (bnd (eK l (List.length l) m) λ_=>bnd (idx l m) λo=>bnd (Hh n (a,b,c,l,d,f,g,o,m)) λr=>cnd (o.Right==f) (bnd (eK r (List.length r) m) λ_=>bnd (idx r m) λs=>i ((List.set r (Int.toNat m)<|aO.mk s.ID s.From s.To s.Via s.Left g),(wr<|m+1)))<|i (r,(wr<|m+1)))<|j l
def RX:=qE nU
def GB: Lc 119 0 0:=bI 0x54b78bc54479c364b4d6341c26d0c0f42920bc979618c112fdb3cd249a4684bbce0 dS [⟨0,[cs FJ]⟩] [] @nU
def fU: (Int×Int×List Int)->(((List Int)->Option R)×Unit)->Unit->Option R:=λ(a,b,c) (d,_) _=>bnd (oD n c a) λf=>cnd f (bnd (Pq n c [a]) λg=>cnd (b != 0) (bnd (tQ n g [b]) λh=>d h)<|d g)<|d c
def hP:=sU fU
def GL: Ic:=cD 144 11 3 0x2289937a61304e49c7470 dS [] [] @fU
def GK: Ic:=cD 144 12 3 0x138349bef2f60066479b200076f dS [] [] @fU
def nT: (List Int×List Int×List Aab×List aO×Int×Int×Int)->((List aG×Int)->Option R)->(((List aG)->Option R)×Unit)->(List aG×Int)->Option R:=λ(a,b,c,d,f,g,h) i (j,_) (l,m)=>cd (m<h) (bnd (eK l (List.length l) m) λ_=>bnd (idx l m) λo=>bnd (dM n o.Kind) λr=>cnd (r==3) (bnd (hP n (f,g,o.Parts)) λs=>bnd (eK l (List.length l) m) λ_=>bnd (idx l m) λt=>i ((List.set l (Int.toNat m)<|aG.mk t.ID t.Kind t.Class t.Name s),(wr<|m+1)))<|i (l,(wr<|m+1)))<|j l
def RW:=qE nT
def GA: Lc 119 0 2:=bI 0x279f45096bb96cbb180d49f819797e49b35d2ccc19426087f80f06a61ceec72442073e dS [] [GK] @nT
def zW: (List Int×List Int×List Aab×List aO×List aG×Int×Int)->(((List Int×List aO×List aG)->Option R)×Unit)->Unit->Option R:=λ(a,b,c,d,f,g,h) (i,_) _=>bnd (RX n (a,b,c,f,g,h,(ln d)) (d,0)) λj=>bnd (hP n (g,h,a)) λl=>bnd (RW n (l,b,c,j,g,h,(ln f)) (f,0)) λm=>i (l,j,m)
def sM:=sU zW
def zV: Ic:=cD 119 0 3 0x7dc5a3282a9d3ea141d6e166bbd062c91d9 dS [⟨0,[GB]⟩,⟨2,[GA]⟩] [GL] @zW
def zG(n:Nat): ((Nat×Nat)×List Int×List Int×List Aab×List aO×List aG×Int×Int×aO×Int×(Nat×Nat))->(((List aO)->Option R)×Unit)->Unit->Option R:=λ(a,b,c,d,f,g,h,i,j,l,m) (o,_) _=>cnd (j.Left==h) (bnd (idx (win f<|some a) l) λ_=>bnd (idx f<|l+((a.1:Nat):Int)) λr=>o<|List.set f (Int.toNat<|l+((a.1:Nat):Int))<|aO.mk r.ID r.From r.To r.Via i r.Right)<|o f
def Hg:=eO zG
def FI: Lc 119 0 1:=bJ 0x6130ff8076f0054df717e574881aa13a6662382fe96e77d07b5d218a11d635032e4b52c5b04fc07a0bad dS [] [] @zG
def nS: ((Nat×Nat)×List Int×List Int×List Aab×List aG×Int×Int×(Nat×Nat)×Int)->((List aO×Int)->Option R)->(((List aO)->Option R)×Unit)->(List aO×Int)->Option R:=λ(a,b,c,d,f,g,h,i,j) l (m,_) (o,r)=>cd (r<j) (bnd (idx (win o<|some i) r) λ_=>bnd (idx o<|r+((i.1:Nat):Int)) λs=>bnd (Hg n (a,b,c,d,o,f,g,h,s,r,i)) λt=>cnd (s.Right==g) (bnd (idx (win t<|some a) r) λ_=>bnd (idx t<|r+((a.1:Nat):Int)) λu=>l ((List.set t (Int.toNat<|r+((a.1:Nat):Int))<|aO.mk u.ID u.From u.To u.Via u.Left h),(wr<|r+1)))<|l (t,(wr<|r+1)))<|m o
def RU:=qE nS
def FZ: Lc 119 0 0:=bI 0x2fdee749d1ba2fead0d50d07783b71af09b06ba13e0d915eae081b25566f443982575e7a1 dS [⟨0,[cs FI]⟩] [] @nS
def GI: Ic:=cD 144 11 3 0x2289937a61304e49c7470 dS [] [] @fU
def GH: Ic:=cD 144 12 3 0x138349bef2f60066479b200076f dS [] [] @fU
def nR: ((Nat×Nat)×List Int×List Int×List Aab×List aO×Int×Int×Int)->((List aG×Int)->Option R)->(((List aG)->Option R)×Unit)->(List aG×Int)->Option R:=λ(a,b,c,d,f,g,h,i) j (l,_) (m,o)=>cd (o<i) (bnd (eK m (List.length m) o) λ_=>bnd (idx m o) λr=>bnd (dM n r.Kind) λs=>cnd (s==3) (bnd (hP n (g,h,r.Parts)) λt=>bnd (eK m (List.length m) o) λ_=>bnd (idx m o) λu=>j ((List.set m (Int.toNat o)<|aG.mk u.ID u.Kind u.Class u.Name t),(wr<|o+1)))<|j (m,(wr<|o+1)))<|l m
def RT:=qE nR
def FY: Lc 119 0 2:=bI 0x16639ef017c414c582afcd82474f723019e57989efd0a2366d5a8b3cc1818e83e6ed858cbbe4 dS [] [GH] @nR
def zU: ((Nat×Nat)×List Int×List Int×List Aab×List aO×List aG×Int×Int)->(((List Int×List aO×List aG)->Option R)×Unit)->Unit->Option R:=λ(a,b,c,d,f,g,h,i) (j,_) _=>bnd (RU n (a,b,c,d,g,h,i,a,((a.2:Nat):Int)) (f,0)) λl=>bnd (hP n (h,i,b)) λm=>bnd (RT n (a,m,c,d,l,h,i,(ln g)) (g,0)) λo=>j (m,l,o)
def Hs:=sU zU
def GJ: Ic:=cD 119 0 3 0x1e30197d64713366f5e1e09b4b1a810d3060dafde9ef831dda dS [⟨0,[FZ]⟩,⟨2,[FY]⟩] [GI] @zU
def Aa: (List Int×List Int×List Aab×List aO×List aG×aZ)->((Int->Option R)×((List aO×List aO×Int)->Option R)×((List aO×List aO×List Aab×List aO×List Int×Int)->Option R)×((List Int×List aG×List aO×List aO×List Aab×List aO×List Int)->Option R)×((List aO×Int)->Option R)×((List Int×List aO×List aG×Int×Int)->Option R)×(((Nat×Nat)×List Int×List aO×List aG×Int×Int)->Option R)×(((Nat×Nat)×List aO)->Option R)×Unit)->Unit->Option R:=λ(a,b,c,d,f,g) (h,i,j,l,m,o,r,s,_) _=>cnd (g.Kind==4) (bnd2 (Hv n (a,b,c,d,f,g)) (λt=>h t) λu=>bnd2 (some u) (λv=>i (v.1,v.2.1,v.2.2)) λw=>bnd2 (some w) (λx=>j (x.1,x.2.1,x.2.2.1.Nodes,x.2.2.1.Arcs,x.2.2.1.Faces,x.2.2.2)) λy=>bnd (some y) λz=>l (z.1,z.2.1,z.2.2.1,z.2.2.2.1,z.2.2.2.2.Nodes,z.2.2.2.2.Arcs,z.2.2.2.2.Faces))<|bnd (Ac n (aJ.mk (aM.mk c d a) f) g.ID) λa0=>cnd a0.2 (cnd (g.Kind==6) (bnd (iU n g.Via) λb0=>bnd (eK d (List.length d) a0.1) λ_=>bnd (idx d a0.1) λc0=>m ((List.set d (Int.toNat a0.1)<|aO.mk c0.ID c0.From c0.To b0 c0.Left c0.Right),0))<|bnd (jB n (aJ.mk (aM.mk c d a) f) 2 g.ID) λd0=>cd ((ln d0) > 0) (m (d,13))<|bnd (eK d (List.length d) a0.1) λ_=>bnd (idx d a0.1) λf0=>bnd (eK d (List.length d) a0.1) λ_=>bnd (idx d a0.1) λg0=>bnd (Hi n (a,c,d,f,f0.Left,g0.Right)) λh0=>cnd h0 (m (d,13))<|bnd2 (Ht n (a,b,c,d,f,a0.1,(wr<|a0.1+1))) (λ_=>cnd (f0.Left != g0.Right) (bnd (sM n (a,b,c,d,f,(nE f0.Left g0.Right),(QE f0.Left g0.Right))) λi0=>o (i0.1,i0.2.1,i0.2.2,(nE f0.Left g0.Right),(QE f0.Left g0.Right)))<|m (d,0)) λj0=>bnd (some j0) λl0=>cnd (f0.Left != g0.Right) (bnd (Hs n (l0.2,a,b,c,l0.1,f,(nE f0.Left g0.Right),(QE f0.Left g0.Right))) λm0=>r (l0.2,m0.1,m0.2.1,m0.2.2,(nE f0.Left g0.Right),(QE f0.Left g0.Right)))<|s (l0.2,l0.1))<|m (d,7)
def Hw:=λ(n:Nat) p=>bnd (prd n) λn=>Aa n p (λt=>some<|Sum.inl t,λt=>some<|Sum.inr<|Sum.inl t,λt=>some<|Sum.inr<|Sum.inr<|Sum.inl t,λt=>some<|Sum.inr<|Sum.inr<|Sum.inr<|Sum.inl t,λt=>some<|Sum.inr<|Sum.inr<|Sum.inr<|Sum.inr<|Sum.inl t,λt=>some<|Sum.inr<|Sum.inr<|Sum.inr<|Sum.inr<|Sum.inr<|Sum.inl t,λt=>some<|Sum.inr<|Sum.inr<|Sum.inr<|Sum.inr<|Sum.inr<|Sum.inr<|Sum.inl t,λt=>some<|Sum.inr<|Sum.inr<|Sum.inr<|Sum.inr<|Sum.inr<|Sum.inr<|Sum.inr t,()) ()
def GP: Ic:=cD 93 0 2 0xdeb141662789ea348200cb698386da9e99a66491499ceac395eef5ac89986080f6e0ce2a6a15f7a5db03ab971c9a33f39c9b4fb3a953916f3bf3549d9f8054cc6779fb8a4da43eeb990c69ad585928ecc88de6b7ec2d544dc0f7f226a5d0ab8d831ca94dec444319bd47d44ac91eca68bf dS [⟨0,[FK]⟩] [GO,GM,zV,GJ] @Aa
def FH: Lc 63 0 2:=bJ 0x15532ce5915cd00f917f2e54 dS [] [] @fC
def iN: (aJ×aZ×List Int×List Aab×List aO×List aG×Int)->((Bool->Option R)×Unit)->Unit->Option R:=λ(a,b,c,d,f,g,h) (i,_) _=>cnd (h==0) (cnd (b.Kind==3) (bnd (dG n a.Plan (aM.mk d f c) 0) λj=>cnd j (i true)<|i false)<|cnd (b.Kind==6) (bnd (dG n a.Plan (aM.mk d f c) 0) λl=>cnd l (i true)<|i false)<|i false)<|i false
def Hf:=eO iN
def FF: Lc 63 0 4:=bJ 0xffc4ade025297240dcb5cbe3ca dS [] [] @iN
def iP: (aJ×aZ×List Int×List Aab×List aO×List aG×Int)->((Int->Option R)×Unit)->Unit->Option R:=λ(a,b,c,d,f,g,h) (i,_) _=>bnd (Hf n (a,b,c,d,f,g,h)) λj=>cnd j (i 12)<|i h
def fK:=eO iP
def FG: Lc 63 0 3:=bJ 0xffaa9450a9869589cb9e6e8978 dS [⟨0,[cs FF]⟩] [] @iP
def FE: Lc 63 0 2:=bJ 0x155328bf389857b0e997200d dS [] [] @fC
def FC: Lc 63 0 4:=bJ 0xffc47bf6efdebb0d76837d0f39 dS [] [] @iN
def FD: Lc 63 0 3:=bJ 0xffaa6267743bde56656c1fb4e7 dS [⟨0,[cs FC]⟩] [] @iP
def zF: (List Int×List Aab×List aG×List aO×Int)->((Int->Option R)×Unit)->Unit->Option R:=λ(a,b,c,d,f) (g,_) _=>cnd (f==0) (bnd (fI n<|aJ.mk (aM.mk b d a) c) λh=>g h)<|g f
def He:=eO zF
def FB: Lc 63 0 2:=bJ 0x1122394bd9e7ff899117565fd35e3a541f9a415f00b764f16a dS [] [] @zF
def zD: (aJ×aZ×List Int×List Aab×List aG×List aO×Int)->((Bool->Option R)×Unit)->Unit->Option R:=λ(a,b,c,d,f,g,h) (i,_) _=>cnd (h==0) (cnd (b.Kind==3) (bnd (dG n a.Plan (aM.mk d g c) 0) λj=>cnd j (i true)<|i false)<|cnd (b.Kind==6) (bnd (dG n a.Plan (aM.mk d g c) 0) λl=>cnd l (i true)<|i false)<|i false)<|i false
def Hb:=eO zD
def EZ: Lc 63 0 4:=bJ 0x15c265d4f2990f6c0b371fb71ff1cac4ebe1438aa73e7ed61f dS [] [] @zD
def zE: (aJ×aZ×List Int×List Aab×List aG×List aO×Int)->((Int->Option R)×Unit)->Unit->Option R:=λ(a,b,c,d,f,g,h) (i,_) _=>bnd (Hb n (a,b,c,d,f,g,h)) λj=>cnd j (i 12)<|i h
def Hc:=eO zE
def FA: Lc 63 0 3:=bJ 0x10ed0efee9fb0f383654e2c667c15c2ebcd88b3690d8eeb2c1 dS [⟨0,[cs EZ]⟩] [] @zE
def EY: Lc 63 0 2:=bJ 0x1c5db76c3f67fe2a3b6a7 dS [] [] @fC
def EW: Lc 63 0 4:=bJ 0x320f52d6ea7f5e3 dS [] [] @iN
def EX: Lc 63 0 3:=bJ 0x320a36fc876f451 dS [⟨0,[cs EW]⟩] [] @iP
def nP: ((Nat×Nat)×List Int×List Aab×List aO×List aG×Int)->((Int->Option R)×Unit)->Unit->Option R:=λ(a,b,c,d,f,g) (h,_) _=>cnd (g==0) (bnd (fI n<|aJ.mk (aM.mk c (win d<|some a) b) f) λi=>h i)<|h g
def sI:=eO nP
def EV: Lc 63 0 2:=bJ 0xc7966924e36344e999d605f1b04cf dS [] [] @nP
def nM: (aJ×aZ×(Nat×Nat)×List Int×List Aab×List aO×List aG×Int)->((Bool->Option R)×Unit)->Unit->Option R:=λ(a,b,c,d,f,g,h,i) (j,_) _=>cnd (i==0) (cnd (b.Kind==3) (bnd (dG n a.Plan (aM.mk f (win g<|some c) d) 0) λl=>cnd l (j true)<|j false)<|cnd (b.Kind==6) (bnd (dG n a.Plan (aM.mk f (win g<|some c) d) 0) λm=>cnd m (j true)<|j false)<|j false)<|j false
def Ha:=eO nM
def ET: Lc 63 0 4:=bJ 0x1fa74054da27f6d76d94f dS [] [] @nM
def nN: (aJ×aZ×(Nat×Nat)×List Int×List Aab×List aO×List aG×Int)->((Int->Option R)×Unit)->Unit->Option R:=λ(a,b,c,d,f,g,h,i) (j,_) _=>bnd (Ha n (a,b,c,d,f,g,h,i)) λl=>cnd l (j 12)<|j i
def sH:=eO nN
def EU: Lc 63 0 3:=bJ 0x125e965b9dca52a8c0abe dS [⟨0,[cs ET]⟩] [] @nN
def ER: Lc 63 0 2:=bJ 0x1d5e084714dc9aa08b76b dS [] [] @nP
def EO: Lc 63 0 4:=bJ 0x2a1bc587b217d514a5 dS [] [] @nM
def EQ: Lc 63 0 3:=bJ 0x186fdc834ed4e139fe dS [⟨0,[cs EO]⟩] [] @nN
def zC: (List Int×List Aab×List aO×List aG×aZ)->((Int->Option R)×(Unit->Option R)×Unit)->Unit->Option R:=λ(a,b,c,d,f) (g,h,_) _=>bnd (oD n a f.ID) λi=>cnd i (bnd (oD n a f.A) λj=>cnd j (g 8)<|h ())<|g 7
def Gz:=pc2 zC
def EN: Lc 94 0 0:=bJ 0x6b506317ff0e9a8619bc4ebd5ae4bf6e353828bd29d58729982a3e13ebebf6977939058f34900ede7 dS [] [] @zC
def zS: (List Int×List Int×List Aab×List aO×List aG×aZ)->((Int->Option R)×((List Int×List aO×List aG×Int×Int)->Option R)×Unit)->Unit->Option R:=λ(a,b,c,d,f,g) (h,i,_) _=>bnd2 (Gz n (a,c,d,f,g)) (λj=>h j) λl=>bnd (some l) λ_=>bnd (sM n (a,b,c,d,f,g.ID,g.A)) λm=>i (m.1,m.2.1,m.2.2,g.ID,g.A)
def Hr:=Uw zS
def GG: Ic:=cD 94 0 2 0x47145915fc9733a7cb7558494093ec0e833dbd169 dS [⟨0,[EN]⟩] [zV] @zS
def zQ(n:Nat): (List Int×List Int×List Aab×List aO×List aG×Int×Int)->((Unit->Option R)×((List aG×(Nat×Nat))->Option R)×Unit)->Unit->Option R:=λ(a,b,c,d,f,g,h) (i,j,_) _=>bnd (Na<|decide<|0<=g/\g<=h/\h<=(ln f)/\(ln f)<=(ln f)) λ_=>cnd (g==h) (i ())<|bnd (sub f (0,List.length f) 0 g) λl=>bnd (sub f (0,List.length f) h<|ln f) λm=>bnd (g9 f l<|win f<|some m) λo=>bnd (sub o (l.1,l.2+List.length (win f<|some m)) (((l.1,l.2+List.length (win f<|some m)).2:Nat):Int)<|ln f) λr=>bnd (clr o r<|aG.mk 0 0 0 (⟨#[]⟩:ByteArray) []) λs=>j (s,(l.1,l.2+List.length (win f<|some m)))
def Hp:=Uw zQ
def GE: Ic:=cD 123 0 3 0xa515b06307ee81578925774d2281ed9ac83b14c9cd26beed76aef33 dS [] [] @zQ
def zR: (List Int×List Int×List Aab×List aO×List aG×aZ)->(((List aG×Int)->Option R)×(((Nat×Nat)×List aG)->Option R)×((List aG×Int×Int×Int×ByteArray×List Int×List aG)->Option R)×Unit)->Unit->Option R:=λ(a,b,c,d,f,g) (h,i,j,_) _=>bnd (Ab n (aJ.mk (aM.mk c d a) f) g.ID) λl=>cnd l.2 (cnd (g.Kind==7) (h (f,8))<|cnd (g.Kind==8) (bnd2 (Hp n (a,b,c,d,f,l.1,(wr<|l.1+1))) (λ_=>h (f,0)) λm=>bnd (some m) λo=>i (o.2,o.1))<|cnd (g.Kind==9) (bnd (eK f (List.length f) l.1) λ_=>bnd (idx f l.1) λr=>h ((List.set f (Int.toNat l.1)<|aG.mk r.ID r.Kind r.Class g.Name r.Parts),0))<|cnd (g.Kind==10) (bnd (eK f (List.length f) l.1) λ_=>bnd (idx f l.1) λs=>h ((List.set f (Int.toNat l.1)<|aG.mk s.ID s.Kind g.B s.Name s.Parts),0))<|cnd (g.Kind==11) (bnd (gP n g.Parts) λt=>bnd (eK f (List.length f) l.1) λ_=>bnd (idx f l.1) λu=>h ((List.set f (Int.toNat l.1)<|aG.mk u.ID u.Kind u.Class u.Name t),0))<|h (f,0))<|cnd (g.Kind==7) (bnd (gP n g.Parts) λv=>bnd (prd n) λ_=>bnd (G2 f l.1<|aG.mk g.ID g.A g.B g.Name v) λw=>j (w,g.ID,g.A,g.B,g.Name,v,[(aG.mk g.ID g.A g.B g.Name v)]))<|h (f,7)
def Hq:=in3 zR
def GF: Ic:=cD 95 0 2 0x2483f8bf6eaad9e7f0ac18578864e0baf19d17ebbf0174e29c9e78265ef87888360138c774ca737ea9be0fe4c1a386449a0 dS [] [GE] @zR
def zB: (List Int×(Nat×Nat)×List Aab×List aO×List aG×Int)->((Int->Option R)×Unit)->Unit->Option R:=λ(a,b,c,d,f,g) (h,_) _=>cnd (g==0) (bnd (fI n<|aJ.mk (aM.mk c d a)<|win f<|some b) λi=>h i)<|h g
def Gy:=eO zB
def EM: Lc 63 0 2:=bJ 0x96087fb5f1ccd5f30f67adf7452e3dc2 dS [] [] @zB
def yZ: (aJ×aZ×List Int×(Nat×Nat)×List Aab×List aO×List aG×Int)->((Bool->Option R)×Unit)->Unit->Option R:=λ(a,b,c,d,f,g,h,i) (j,_) _=>cnd (i==0) (cnd (b.Kind==3) (bnd (dG n a.Plan (aM.mk f g c) 0) λl=>cnd l (j true)<|j false)<|cnd (b.Kind==6) (bnd (dG n a.Plan (aM.mk f g c) 0) λm=>cnd m (j true)<|j false)<|j false)<|j false
def Gw:=eO yZ
def EK: Lc 63 0 4:=bJ 0x5b5abb2efbe1068491d82d6d32130e9277dbd8 dS [] [] @yZ
def zA: (aJ×aZ×List Int×(Nat×Nat)×List Aab×List aO×List aG×Int)->((Int->Option R)×Unit)->Unit->Option R:=λ(a,b,c,d,f,g,h,i) (j,_) _=>bnd (Gw n (a,b,c,d,f,g,h,i)) λl=>cnd l (j 12)<|j i
def Gx:=eO zA
def EL: Lc 63 0 3:=bJ 0x3501a7c35f50a2eee035d931f096189c10d06d dS [⟨0,[cs EK]⟩] [] @zA
def Kc: Nat->aJ->aZ->Option (aJ×Int)
 | 0,_,_=>none
 | n+1,a,b=>bnd (Ma n a) λc=>bnd (Ly n b.Kind) λd=>cnd d (bnd2 (uN n (c.2.2.2.2,c.1,c.2.1,c.2.2.1,c.2.2.2.1,b)) (λf=>bnd (cH n (c.2.2.2.2,f.1,c.2.2.1,c.2.2.2.1,f.2)) λg=>bnd (dX n (a,b,c.2.2.2.2,f.1,c.2.2.1,c.2.2.2.1,g,b.ID)) λh=>cnd (h != 0) (some ((aJ.mk (aM.mk [] [] []) []),h))<|some ((aJ.mk (aM.mk f.1 c.2.2.1 c.2.2.2.2) c.2.2.2.1),0)) λi=>bnd2 (some i) (λj=>bnd (sK n (j.1,c.2.2.2.2,j.2,c.2.2.1,c.2.2.2.1,0)) λl=>bnd (sJ n (a,b,j.1,c.2.2.2.2,j.2,c.2.2.1,c.2.2.2.1,l,b.ID)) λm=>cnd (m != 0) (some ((aJ.mk (aM.mk [] [] []) []),m))<|some ((aJ.mk (aM.mk (win j.2<|some j.1) c.2.2.1 c.2.2.2.2) c.2.2.2.1),0)) λo=>bnd (some o) λr=>bnd (cH n (c.2.2.2.2,r.1,c.2.2.1,c.2.2.2.1,0)) λs=>bnd (dX n (a,b,c.2.2.2.2,r.1,c.2.2.1,c.2.2.2.1,s,b.ID)) λt=>cnd (t != 0) (some ((aJ.mk (aM.mk [] [] []) []),t))<|some ((aJ.mk (aM.mk r.1 c.2.2.1 c.2.2.2.2) c.2.2.2.1),0))<|bnd (Hm n b.Kind) λu=>cnd u (bnd2 (Hw n (c.2.2.2.2,c.1,c.2.1,c.2.2.1,c.2.2.2.1,b)) (λv=>bnd (cH n (c.2.2.2.2,c.2.1,c.2.2.1,c.2.2.2.1,v)) λw=>bnd (dX n (a,b,c.2.2.2.2,c.2.1,c.2.2.1,c.2.2.2.1,w,0)) λx=>cnd (x != 0) (some ((aJ.mk (aM.mk [] [] []) []),x))<|some ((aJ.mk (aM.mk c.2.1 c.2.2.1 c.2.2.2.2) c.2.2.2.1),0)) λy=>bnd2 (some y) (λz=>bnd (cH n (c.2.2.2.2,c.2.1,c.2.2.1,c.2.2.2.1,z.2.2)) λa0=>bnd (fK n (a,b,c.2.2.2.2,c.2.1,c.2.2.1,c.2.2.2.1,a0)) λb0=>cnd (b0 != 0) (some ((aJ.mk (aM.mk [] [] []) []),b0))<|some ((aJ.mk (aM.mk c.2.1 c.2.2.1 c.2.2.2.2) c.2.2.2.1),0)) λc0=>bnd2 (some c0) (λd0=>bnd (cH n (c.2.2.2.2,c.2.1,c.2.2.1,c.2.2.2.1,d0.2.2.2.2.2)) λf0=>bnd (fK n (a,b,c.2.2.2.2,c.2.1,c.2.2.1,c.2.2.2.1,f0)) λg0=>cnd (g0 != 0) (some ((aJ.mk (aM.mk [] [] []) []),g0))<|some ((aJ.mk (aM.mk c.2.1 c.2.2.1 c.2.2.2.2) c.2.2.2.1),0)) λh0=>bnd2 (some h0) (λi0=>bnd (He n (i0.1,c.2.1,i0.2.1,i0.2.2.1,0)) λj0=>bnd (Hc n (a,b,i0.1,c.2.1,i0.2.1,i0.2.2.1,j0)) λl0=>cnd (l0 != 0) (some ((aJ.mk (aM.mk [] [] []) []),l0))<|some ((aJ.mk (aM.mk c.2.1 i0.2.2.1 i0.1) i0.2.1),0)) λm0=>bnd2 (some m0) (λo0=>bnd (cH n (c.2.2.2.2,c.2.1,o0.1,c.2.2.2.1,o0.2)) λr0=>bnd (dX n (a,b,c.2.2.2.2,c.2.1,o0.1,c.2.2.2.1,r0,0)) λs0=>cnd (s0 != 0) (some ((aJ.mk (aM.mk [] [] []) []),s0))<|some ((aJ.mk (aM.mk c.2.1 o0.1 c.2.2.2.2) c.2.2.2.1),0)) λt0=>bnd2 (some t0) (λu0=>bnd (cH n (u0.1,c.2.1,u0.2.1,u0.2.2.1,0)) λv0=>bnd (fK n (a,b,u0.1,c.2.1,u0.2.1,u0.2.2.1,v0)) λw0=>cnd (w0 != 0) (some ((aJ.mk (aM.mk [] [] []) []),w0))<|some ((aJ.mk (aM.mk c.2.1 u0.2.1 u0.1) u0.2.2.1),0)) λx0=>bnd2 (some x0) (λy0=>bnd (sI n (y0.1,y0.2.1,c.2.1,y0.2.2.1,y0.2.2.2.1,0)) λz0=>bnd (sH n (a,b,y0.1,y0.2.1,c.2.1,y0.2.2.1,y0.2.2.2.1,z0)) λa1=>cnd (a1 != 0) (some ((aJ.mk (aM.mk [] [] []) []),a1))<|some ((aJ.mk (aM.mk c.2.1 (win y0.2.2.1<|some y0.1) y0.2.1) y0.2.2.2.1),0)) λb1=>bnd (some b1) λc1=>bnd (sI n (c1.1,c.2.2.2.2,c.2.1,c1.2,c.2.2.2.1,0)) λd1=>bnd (sH n (a,b,c1.1,c.2.2.2.2,c.2.1,c1.2,c.2.2.2.1,d1)) λf1=>cnd (f1 != 0) (some ((aJ.mk (aM.mk [] [] []) []),f1))<|some ((aJ.mk (aM.mk c.2.1 (win c1.2<|some c1.1) c.2.2.2.2) c.2.2.2.1),0))<|cnd (b.Kind==12) (bnd2 (Hr n (c.2.2.2.2,c.1,c.2.1,c.2.2.1,c.2.2.2.1,b)) (λg1=>bnd (cH n (c.2.2.2.2,c.2.1,c.2.2.1,c.2.2.2.1,g1)) λh1=>bnd (dX n (a,b,c.2.2.2.2,c.2.1,c.2.2.1,c.2.2.2.1,h1,0)) λi1=>cnd (i1 != 0) (some ((aJ.mk (aM.mk [] [] []) []),i1))<|some ((aJ.mk (aM.mk c.2.1 c.2.2.1 c.2.2.2.2) c.2.2.2.1),0)) λj1=>bnd (some j1) λl1=>bnd (cH n (l1.1,c.2.1,l1.2.1,l1.2.2.1,0)) λm1=>bnd (fK n (a,b,l1.1,c.2.1,l1.2.1,l1.2.2.1,m1)) λo1=>cnd (o1 != 0) (some ((aJ.mk (aM.mk [] [] []) []),o1))<|some ((aJ.mk (aM.mk c.2.1 l1.2.1 l1.1) l1.2.2.1),0))<|bnd2 (Hq n (c.2.2.2.2,c.1,c.2.1,c.2.2.1,c.2.2.2.1,b)) (λr1=>bnd (cH n (c.2.2.2.2,c.2.1,c.2.2.1,r1.1,r1.2)) λs1=>bnd (dX n (a,b,c.2.2.2.2,c.2.1,c.2.2.1,r1.1,s1,0)) λt1=>cnd (t1 != 0) (some ((aJ.mk (aM.mk [] [] []) []),t1))<|some ((aJ.mk (aM.mk c.2.1 c.2.2.1 c.2.2.2.2) r1.1),0)) λu1=>bnd2 (some u1) (λv1=>bnd (Gy n (c.2.2.2.2,v1.1,c.2.1,c.2.2.1,v1.2,0)) λw1=>bnd (Gx n (a,b,c.2.2.2.2,v1.1,c.2.1,c.2.2.1,v1.2,w1)) λx1=>cnd (x1 != 0) (some ((aJ.mk (aM.mk [] [] []) []),x1))<|some ((aJ.mk (aM.mk c.2.1 c.2.2.1 c.2.2.2.2)<|win v1.2<|some v1.1),0)) λy1=>bnd (some y1) λz1=>bnd (cH n (c.2.2.2.2,c.2.1,c.2.2.1,z1.1,0)) λa2=>bnd (fK n (a,b,c.2.2.2.2,c.2.1,c.2.2.1,z1.1,a2)) λb2=>cnd (b2 != 0) (some ((aJ.mk (aM.mk [] [] []) []),b2))<|some ((aJ.mk (aM.mk c.2.1 c.2.2.1 c.2.2.2.2) z1.1),0)
end
end
section
variable {R:Type}(n:Nat)
noncomputable section
def K2: Kn:=bG 63 0x1eb16028a6158b1 dS [⟨0,[LP]⟩,⟨1,[FO]⟩,⟨2,[LN,FW,FR,FH,FE,FB,EY,EV,ER,EM]⟩,⟨3,[LM,FV,FQ,FG,FD,FA,EX,EU,EQ,EL]⟩] [LU,LT,GP,GG,GF] Kc
abbrev aNd:=K2::dS
def BM: (aJ×aZ×Int)->((Int->Option R)×Unit)->Unit->Option R:=λ(a,b,c) (d,_) _=>bnd (Kg n b) λf=>cnd (f==0) (cnd (c==0) (bnd (fI n a) λg=>d g)<|d f)<|d f
def UB:=eO BM
def V2: Lc 37 0 1:=bJ 0x1c758b190bffccd5f3cdd237f53b45e4f5b65fa0f1615a114372a94fd6cad165c1c44eacb aNd [] [] @BM
def BK: (aJ×aZ×Int)->(((aJ×Int)->Option R)×Unit)->Unit->Option R:=λ(a,b,c) (d,_) _=>cnd (c==0) (bnd (Kc n a b) λf=>d (f.1,f.2))<|d (a,c)
def UA:=eO BK
def V1: Lc 37 0 2:=bJ 0x25ed4bbafa8e6b171b2a6dd653e2e233bcc82e2ff2a818ecfd6b96949e748488ee2139 aNd [] [] @BK
def Ef: (List aZ×Int)->((aJ×Int)->Option R)->(((aZ×Int×Int)->Option R)×(aJ->Option R)×Unit)->(aJ×Int)->Option R:=λ(a,b) c (d,f,_) (g,h)=>cd (h<b) (bnd (idx a h) λi=>bnd (UB n (g,i,h)) λj=>bnd (UA n (g,i,j)) λl=>cnd (l.2 != 0) (d (i,h,l.2))<|c (l.1,(wr<|h+1)))<|f g
def aEH:=mR Ef
def V3: Lc 37 0 0:=bI 0x2085880ffba08c6a14effff14fc57f6e48eea0a2cc98829fa465d30729fdfd4ca7d210c81fad aNd [⟨0,[cs V2]⟩,⟨1,[cs V1]⟩] [] @Ef
def Rc: Nat->aJ->(List aZ)->Option (aJ×Int×Int)
 | 0,_,_=>none
 | n+1,a,b=>cd ((ln b) > 4096) (some ((aJ.mk (aM.mk [] [] []) []),0,3))<|bnd (GQ n a) λc=>bnd2 (aEH n (b,(ln b)) (c,0)) (λd=>some ((aJ.mk (aM.mk [] [] []) []),d.2.1,d.2.2)) λf=>bnd (some f) λg=>some (g,(ln b),0)
def aG4: Kn:=bG 37 0x73b49846af889749c6f3d3e aNd [⟨0,[V3]⟩] [] Rc
abbrev aPI:=aG4::aNd
def u5: Lc 38 0 0:=bI 0x951587cec76606c72789af8205 aPI [] [] @fA
def t9: Lc 38 0 0:=bI 0x2675cce7a01a908388b997cb7a77f9f05c18ce0c9f6414e aPI [] [] @jQ
def wV: Nat->bD->Option bD
 | 0,_=>none
 | n+1,a=>bnd (prd n) λ_=>cnd (List.isEmpty a.Edits) (bnd (mQ n () ()) λ_=>some<|bD.mk a.Office a.Seq a.Time a.Source [])<|bnd (app ([]:List aZ) a.Edits) λb=>bnd (uI n (a.Office,a.Seq,a.Time,a.Source,(ln b)) (b,0)) λc=>some<|bD.mk a.Office a.Seq a.Time a.Source c
def aDj: Kn:=bG 38 0x16a7501300cf aPI [⟨0,[u5,t9]⟩] [] wV
abbrev aPH:=aDj::aPI
def uC(n:Nat): (bD×List bD×List bD×Int)->((Int×Int)->Option R)->((bD->Option R)×(Int->Option R)×Unit)->(Int×Int)->Option R:=λ(a,b,c,d) f (g,h,_) (i,j)=>cd (j<d) (bnd (idx c j) λl=>cnd (l.Office != a.Office) (f (i,(wr<|j+1)))<|cnd (l.Seq==a.Seq) (g l)<|f ((nE i l.Seq),(wr<|j+1)))<|h i
def R1:=mR uC
def UP: Lc 21 0 0:=bI 0x17c32ba79d20128b520393a71d1ebdf8d03898c4349262bf18866f376ce36b9a11fb7c85dd1d603cbf01b4db9bb56a7c5844a5efa7a7de497f32ae3c08423998e59537 aPH [] [] @uC
def uB: (List Aab×List aO×List Int×List aG×List bD×Int)->((List bD×Int)->Option R)->(((List bD)->Option R)×Unit)->(List bD×Int)->Option R:=λ(a,b,c,d,f,g) h (i,_) (j,l)=>cd (l<g) (bnd (idx f l) λm=>bnd (wV n m) λo=>bnd (app j [o]) λr=>h (r,(wr<|l+1)))<|i j
def R0:=qE uB
def UO: Lc 21 0 1:=bI 0x6b1a2a1fb9e9b64c3d597758624774dbe283095104739aeb48b20a48b1f046ef70bdeee6b1aa71f08cad3c810e21fb1e83d1f aPH [] [] @uB
def xG: Nat->dE->bD->Option (dE×Int)
 | 0,_,_=>none
 | n+1,a,b=>bnd (qR n b) λc=>cnd (c != 0) (some ((dE.mk (aJ.mk (aM.mk [] [] []) []) []),c))<|cd ((ln a.Txns)>=256) (some ((dE.mk (aJ.mk (aM.mk [] [] []) []) []),3))<|bnd2 (R1 n (b,[],a.Txns,(ln a.Txns)) (0,0)) (λ_=>some ((dE.mk (aJ.mk (aM.mk [] [] []) []) []),8)) λd=>bnd (some d) λf=>cnd ((wr<|b.Seq-1) != f) (some ((dE.mk (aJ.mk (aM.mk [] [] []) []) []),10))<|bnd (Rc n a.Survey b.Edits) λg=>cnd (g.2.2 != 0) (some ((dE.mk (aJ.mk (aM.mk [] [] []) []) []),g.2.2))<|bnd (R0 n (g.1.Plan.Nodes,g.1.Plan.Arcs,g.1.Plan.Faces,g.1.Features,a.Txns,(ln a.Txns)) ([],0)) λh=>bnd (wV n b) λi=>bnd (app h [i]) λj=>some ((dE.mk g.1 j),0)
def aBt: Kn:=bG 21 0x589ad8f30a9e5bbb60e0532d97b5df6a aPH [⟨0,[UP]⟩,⟨1,[UO]⟩] [] xG
abbrev aST:=aBt::aPH
def jR: (nZ×List bD×Int)->((List Aab×List aO×List Int×List aG×List bD×List bD×Int)->Option R)->(((List Aab×List aO×List Int×List aG×List bD×List bD)->Option R)×Unit)->(List Aab×List aO×List Int×List aG×List bD×List bD×Int)->Option R:=λ(a,b,c) d (f,_) (g,h,i,j,l,m,o)=>cd (o<c) (bnd (idx b o) λr=>bnd (wG n a r.Office r.Seq) λs=>cnd s (bnd (xG n (dE.mk (aJ.mk (aM.mk g h i) j) l) r) λt=>cnd (t.2==0) (d (t.1.Survey.Plan.Nodes,t.1.Survey.Plan.Arcs,t.1.Survey.Plan.Faces,t.1.Survey.Features,t.1.Txns,m,(wr<|o+1)))<|bnd (dW n r) λu=>bnd (app m [u]) λv=>d (g,h,i,j,l,v,(wr<|o+1)))<|bnd (dW n r) λw=>bnd (app m [w]) λx=>d (g,h,i,j,l,x,(wr<|o+1)))<|f (g,h,i,j,l,m)
def VM:=qE jR
def JK: Lc 5 0 0:=bI 0x1bcdeca999d6c115ce05845625327012b10a51475d6bec89eb4eec1fd7010b87f6a198c5b78891cd9503ae4807ccae2e aST [] [] @jR
def pI: Nat->bT->Option (dE×List bD×Int)
 | 0,_=>none
 | n+1,a=>bnd (pH n a) λb=>cnd b (bnd (Es n a.Txns) λc=>bnd (VM n (c,a.Txns,(ln a.Txns)) ([],[],[],[],[],[],0)) λd=>some ((dE.mk (aJ.mk (aM.mk d.1 d.2.1 d.2.2.1) d.2.2.2.1) d.2.2.2.2.1),d.2.2.2.2.2,0))<|some ((dE.mk (aJ.mk (aM.mk [] [] []) []) []),[],19)
def D1: Kn:=bG 5 0x99ec57d394751854ce1e aST [⟨0,[JK]⟩] [] pI
abbrev aSS:=D1::aST
def mV(n:Nat): (List Aaa×List Aaa)->(Int->Option R)->((Unit->Option R)×(Unit->Option R)×Unit)->Int->Option R:=λ(a,b) c (d,f,_) g=>cd (g<(ln a)) (bnd (idx a g) λh=>bnd (idx b g) λi=>cd (h=i) (c<|wr<|g+1)<|d ())<|f ()
def BW:=mR mV
def i4: Lc 44 0 0:=bI 0x42ba7aaff474 aSS [] [] @mV
def GX: Nat->(List Aaa)->(List Aaa)->Option Bool
 | 0,_,_=>none
 | n+1,a,b=>cnd ((ln a) != (ln b)) (some false)<|bnd2 (BW n (a,b) 0) (λ_=>some false) λc=>bnd (some c) λ_=>some true
def aCT: Kn:=bG 44 0x23483e99e413 aSS [⟨0,[i4]⟩] [] GX
abbrev aSR:=aCT::aSS
def sZ(n:Nat): (List Int×List Int)->(Int->Option R)->((Unit->Option R)×(Unit->Option R)×Unit)->Int->Option R:=λ(a,b) c (d,f,_) g=>cd (g<(ln a)) (bnd (idx a g) λh=>bnd (idx b g) λi=>cnd (h != i) (d ())<|c<|wr<|g+1)<|f ()
def UJ:=mR sZ
def aAj: Lc 45 0 0:=bI 0x42b977cd8844 aSR [] [] @sZ
def P0: Nat->(List Int)->(List Int)->Option Bool
 | 0,_,_=>none
 | n+1,a,b=>cnd ((ln a) != (ln b)) (some false)<|bnd2 (UJ n (a,b) 0) (λ_=>some false) λc=>bnd (some c) λ_=>some true
def aGO: Kn:=bG 45 0x2ef65a81d aSR [⟨0,[aAj]⟩] [] P0
abbrev aSQ:=aGO::aSR
def Dp: (aZ×aZ)->((Bool->Option R)×Unit)->Unit->Option R:=λ(a,b) (c,_) _=>cnd (a.Kind==b.Kind) (cnd (a.ID==b.ID) (cnd (a.A==b.A) (cnd (a.B==b.B) (cnd (a.C==b.C) (cd (a.At=b.At) (bnd (GX n a.Via b.Via) λd=>cnd d (cd (a.Name=b.Name) (bnd (P0 n a.Parts b.Parts) λf=>cnd f (c true)<|c false)<|c false)<|c false)<|c false)<|c false)<|c false)<|c false)<|c false)<|c false
def h9:=eO Dp
def MN: Lc 24 0 0:=bJ 0x29b72c44670a aSQ [] [] @Dp
def wS: Nat->aZ->aZ->Option Bool
 | 0,_,_=>none
 | n+1,a,b=>bnd (h9 n (a,b)) λc=>cnd c (some true)<|some false
def O4: Kn:=bG 24 0x2ef487192 aSQ [⟨0,[MN]⟩] [] wS
abbrev aPG:=O4::aSQ
def Ij(n:Nat): (bD×bD)->((Bool->Option R)×Unit)->Unit->Option R:=λ(a,b) (c,_) _=>cnd (a.Office != b.Office) (c true)<|cnd (a.Seq != b.Seq) (c true)<|cnd (a.Time != b.Time) (c true)<|cd (a.Source=b.Source) (cnd ((ln a.Edits) != (ln b.Edits)) (c true)<|c false)<|c true
def Sf:=eO Ij
def SN: Lc 9 0 0:=bJ 0xdc805590ad1139a4f1cde9eaf7 aPG [] [] @Ij
def sP: (bD×bD)->(Int->Option R)->((Unit->Option R)×(Unit->Option R)×Unit)->Int->Option R:=λ(a,b) c (d,f,_) g=>cd (g<(ln a.Edits)) (bnd (idx a.Edits g) λh=>bnd (idx b.Edits g) λi=>bnd (wS n h i) λj=>cnd j (c<|wr<|g+1)<|d ())<|f ()
def O6:=mR sP
def SO: Lc 9 0 1:=bI 0xb6a36cadade970978acfb471bed5b aPG [] [] @sP
def oH: Nat->bD->bD->Option Bool
 | 0,_,_=>none
 | n+1,a,b=>bnd (Sf n (a,b)) λc=>cnd c (some false)<|bnd2 (O6 n (a,b) 0) (λ_=>some false) λd=>bnd (some d) λ_=>some true
def aAb: Kn:=bG 9 0x2869f8a75ca6 aPG [⟨0,[SN]⟩,⟨1,[SO]⟩] [] oH
abbrev aSP:=aAb::aPG
def Dq: (List bD×List bD)->(Int->Option R)->((Unit->Option R)×(Unit->Option R)×Unit)->Int->Option R:=λ(a,b) c (d,f,_) g=>cd (g<(ln a)) (bnd (idx a g) λh=>bnd (idx b g) λi=>bnd (oH n h i) λj=>cnd j (c<|wr<|g+1)<|d ())<|f ()
def i5:=mR Dq
def MO: Lc 6 0 0:=bI 0x42bb1ce9ff3c aSP [] [] @Dq
def wT: Nat->(List bD)->(List bD)->Option Bool
 | 0,_,_=>none
 | n+1,a,b=>cnd ((ln a) != (ln b)) (some false)<|bnd2 (i5 n (a,b) 0) (λ_=>some false) λc=>bnd (some c) λ_=>some true
def O5: Kn:=bG 6 0x1a859b28dc235a0 aSP [⟨0,[MO]⟩] [] wT
abbrev aSO:=O5::aSP
def MS: Lc 97 0 0:=bI 0x42ba7aaff474 aSO [] [] @mV
def MT: Nat->(List Aaa)->(List Aaa)->Option Bool
 | 0,_,_=>none
 | n+1,a,b=>cnd ((ln a) != (ln b)) (some false)<|bnd2 (BW n (a,b) 0) (λ_=>some false) λc=>bnd (some c) λ_=>some true
def O8: Kn:=bG 97 0x23483e99e413 aSO [⟨0,[MS]⟩] [] MT
abbrev aSN:=O8::aSO
def Ik: (aO×aO)->((Bool->Option R)×Unit)->Unit->Option R:=λ(a,b) (c,_) _=>cnd (a.ID==b.ID) (cnd (a.From==b.From) (cnd (a.To==b.To) (cnd (a.Left==b.Left) (cnd (a.Right==b.Right) (bnd (MT n a.Via b.Via) λd=>cnd d (c true)<|c false)<|c false)<|c false)<|c false)<|c false)<|c false
def O9:=eO Ik
def SP: Lc 64 0 0:=bJ 0x29bac6c14c0a aSN [] [] @Ik
def UI: Nat->aO->aO->Option Bool
 | 0,_,_=>none
 | n+1,a,b=>bnd (O9 n (a,b)) λc=>cnd c (some true)<|some false
def aAi: Kn:=bG 64 0x35c5c3379 aSN [⟨0,[SP]⟩] [] UI
abbrev aKc:=aAi::aSN
def CB(n:Nat): (aM×aM)->((Bool->Option R)×Unit)->Unit->Option R:=λ(a,b) (c,_) _=>cnd ((ln a.Nodes) != (ln b.Nodes)) (c true)<|cnd ((ln a.Arcs) != (ln b.Arcs)) (c true)<|cnd ((ln a.Faces) != (ln b.Faces)) (c true)<|c false
def aFq:=eO CB
def aAe: Lc 42 0 0:=bJ 0xdc805590acf280a558789c3d7f aKc [] [] @CB
def CE(n:Nat): (aM×aM)->(Int->Option R)->((Unit->Option R)×(Unit->Option R)×Unit)->Int->Option R:=λ(a,b) c (d,f,_) g=>cd (g<(ln a.Nodes)) (bnd (idx a.Nodes g) λh=>bnd (idx b.Nodes g) λi=>cd (h=i) (c<|wr<|g+1)<|d ())<|f ()
def aFt:=mR CE
def aAh: Lc 42 0 1:=bI 0x63cac4ab84fd5cf117f0cc0742d1a aKc [] [] @CE
def CD: (aM×aM)->(Int->Option R)->((Unit->Option R)×(Unit->Option R)×Unit)->Int->Option R:=λ(a,b) c (d,f,_) g=>cd (g<(ln a.Arcs)) (bnd (idx a.Arcs g) λh=>bnd (idx b.Arcs g) λi=>bnd (UI n h i) λj=>cnd j (c<|wr<|g+1)<|d ())<|f ()
def aFs:=mR CD
def aAg: Lc 42 0 2:=bI 0x35a78d971a789d7cb4648feee46350b9 aKc [] [] @CD
def CC(n:Nat): (aM×aM)->(Int->Option R)->((Unit->Option R)×(Unit->Option R)×Unit)->Int->Option R:=λ(a,b) c (d,f,_) g=>cd (g<(ln a.Faces)) (bnd (idx a.Faces g) λh=>bnd (idx b.Faces g) λi=>cnd (h != i) (d ())<|c<|wr<|g+1)<|f ()
def aFr:=mR CC
def aAf: Lc 42 0 3:=bI 0x55b15f478af9418728fc21dc396f0 aKc [] [] @CC
def aFu: Nat->aM->aM->Option Bool
 | 0,_,_=>none
 | n+1,a,b=>bnd (aFq n (a,b)) λc=>cnd c (some false)<|bnd2 (aFt n (a,b) 0) (λ_=>some false) λd=>bnd (some d) λ_=>bnd2 (aFs n (a,b) 0) (λ_=>some false) λf=>bnd (some f) λ_=>bnd2 (aFr n (a,b) 0) (λ_=>some false) λg=>bnd (some g) λ_=>some true
def aGN: Kn:=bG 42 0x2eefa5c25 aKc [⟨0,[aAe]⟩,⟨1,[aAh]⟩,⟨2,[aAg]⟩,⟨3,[aAf]⟩] [] aFu
abbrev aSM:=aGN::aKc
def MP: Lc 65 0 0:=bI 0x42b977cd8844 aSM [] [] @sZ
def MQ: Nat->(List Int)->(List Int)->Option Bool
 | 0,_,_=>none
 | n+1,a,b=>cnd ((ln a) != (ln b)) (some false)<|bnd2 (UJ n (a,b) 0) (λ_=>some false) λc=>bnd (some c) λ_=>some true
def O7: Kn:=bG 65 0x2ef65a81d aSM [⟨0,[MP]⟩] [] MQ
abbrev aSL:=O7::aSM
def tX: (aG×aG)->((Bool->Option R)×Unit)->Unit->Option R:=λ(a,b) (c,_) _=>cnd (a.ID==b.ID) (cnd (a.Kind==b.Kind) (cnd (a.Class==b.Class) (cd (a.Name=b.Name) (bnd (MQ n a.Parts b.Parts) λd=>cnd d (c true)<|c false)<|c false)<|c false)<|c false)<|c false
def GY:=eO tX
def Sg: Lc 43 0 0:=bJ 0x29b8401bf1ca aSL [] [] @tX
def Mn: Nat->aG->aG->Option Bool
 | 0,_,_=>none
 | n+1,a,b=>bnd (GY n (a,b)) λc=>cnd c (some true)<|some false
def MR: Kn:=bG 43 0x2869cade56ee aSL [⟨0,[Sg]⟩] [] Mn
abbrev aPF:=MR::aSL
def BZ: (aJ×aJ)->((Bool->Option R)×Unit)->Unit->Option R:=λ(a,b) (c,_) _=>bnd (aFu n a.Plan b.Plan) λd=>cnd d (cnd ((ln a.Features) != (ln b.Features)) (c true)<|c false)<|c true
def aFn:=eO BZ
def aAc: Lc 23 0 0:=bJ 0xdc805590acc46b25f40df07a23 aPF [] [] @BZ
def CA: (aJ×aJ)->(Int->Option R)->((Unit->Option R)×(Unit->Option R)×Unit)->Int->Option R:=λ(a,b) c (d,f,_) g=>cd (g<(ln a.Features)) (bnd (idx a.Features g) λh=>bnd (idx b.Features g) λi=>bnd (Mn n h i) λj=>cnd j (c<|wr<|g+1)<|d ())<|f ()
def aFo:=mR CA
def aAd: Lc 23 0 1:=bI 0xb6a36cadade914a2595a22b4cb863 aPF [] [] @CA
def aFp: Nat->aJ->aJ->Option Bool
 | 0,_,_=>none
 | n+1,a,b=>bnd (aFn n (a,b)) λc=>cnd c (some false)<|bnd2 (aFo n (a,b) 0) (λ_=>some false) λd=>bnd (some d) λ_=>some true
def aGM: Kn:=bG 23 0x23484440746d aPF [⟨0,[aAc]⟩,⟨1,[aAd]⟩] [] aFp
abbrev aSK:=aGM::aPF
def BX: (dE×dE)->((Bool->Option R)×Unit)->Unit->Option R:=λ(a,b) (c,_) _=>bnd (aFp n a.Survey b.Survey) λd=>cnd d (bnd (wT n a.Txns b.Txns) λf=>cnd f (c true)<|c false)<|c false
def aFl:=eO BX
def aAa: Lc 7 0 0:=bJ 0x17922ee515cd473e66 aSK [] [] @BX
def aFm: Nat->dE->dE->Option Bool
 | 0,_,_=>none
 | n+1,a,b=>bnd (aFl n (a,b)) λc=>cnd c (some true)<|some false
def aGL: Kn:=bG 7 0x1a85aa737fc26d8 aSK [⟨0,[aAa]⟩] [] aFm
abbrev aPE:=aGL::aSK
def Ry(n:Nat): (Int×Int×Int)->((Bool->Option R)×Unit)->Unit->Option R:=λ(a,b,c) (d,_) _=>cnd (a != 0) (d true)<|cnd (b != 0) (d true)<|cnd (c != 2) (d true)<|d false
def aCQ:=eO Ry
def N9: Lc 3 0 0:=bJ 0x14385ae8484800afc1315340b5fd07bc6db8e529df7f727 aPE [] [] @Ry
def Rx: (bT×bT×dE×dE×Int×Int×List bD×Int×List bD×Int)->((Bool->Option R)×Unit)->Unit->Option R:=λ(a,b,c,d,f,g,h,i,j,l) (m,_) _=>cnd (f==0) (cnd (g==0) (bnd (wT n a.Txns b.Txns) λo=>cnd o (cnd (i==0) (cnd (l==0) (bnd (aFm n c d) λr=>cnd r (cnd ((ln h)==1) (cnd ((ln j)==1) (bnd (idx h 0) λs=>cnd (s.Office==2) (cnd ((ln c.Survey.Plan.Nodes)==1) (bnd (idx c.Survey.Plan.Nodes 0) λt=>cnd (t.At.X==0) (m true)<|m false)<|m false)<|m false)<|m false)<|m false)<|m false)<|m false)<|m false)<|m false)<|m false)<|m false
def aCP:=eO Rx
def N8: Lc 3 0 1:=bJ 0x98bfde7948ac363e87b94d020f099a758f8406b36c733be25ce81db8f3 aPE [] [] @Rx
def sO: Nat->Option Bool
 | 0=>none
 | n+1=>bnd (Jv n 1) λa=>bnd (Jv n 2) λb=>bnd (Jv n 9) λc=>bnd (aCQ n (a.2,b.2,c.2)) λd=>cnd d (some false)<|bnd (N5 n 1 0) λf=>bnd (Pf n a.1 1 (⟨#[]⟩:ByteArray) f) λg=>bnd (N5 n 1 5) λh=>bnd (Pf n b.1 2 (⟨#[85,114]⟩:ByteArray) h) λi=>cnd (g.2 != 0) (some false)<|cnd (i.2 != 0) (some false)<|bnd (Es n g.1.Txns) λj=>bnd (Oz n i.1 j) λl=>bnd (yF n g.1 l) λm=>bnd (Es n i.1.Txns) λo=>bnd (Oz n g.1 o) λr=>bnd (yF n i.1 r) λs=>bnd (pI n m.1) λt=>bnd (pI n s.1) λu=>bnd (aCP n (m.1,s.1,t.1,u.1,m.2,s.2,t.2.1,t.2.2,u.2.1,u.2.2)) λv=>cnd v (some true)<|some false
def aFg: Kn:=bG 3 0x2dec25 aPE [⟨0,[N9]⟩,⟨1,[N8]⟩] [] sO
abbrev aSJ:=aFg::aPE
def BV: (bT×bT)->((Bool->Option R)×Unit)->Unit->Option R:=λ(a,b) (c,_) _=>cnd (a.ID==b.ID) (bnd (wT n a.Txns b.Txns) λd=>cnd d (c true)<|c false)<|c false
def aFk:=eO BV
def V9: Lc 8 0 0:=bJ 0x29b95d8f7442 aSJ [] [] @BV
def aMV: Nat->bT->bT->Option Bool
 | 0,_,_=>none
 | n+1,a,b=>bnd (aFk n (a,b)) λc=>cnd c (some true)<|some false
def aGK: Kn:=bG 8 0x23483b0c109f aSJ [⟨0,[V9]⟩] [] aMV
abbrev aX0:=aGK::aSJ
abbrev aSI:=aX0
def uA: (List bD×Int)->((List Aab×List aO×List Int×List aG×List bD×Int)->Option R)->(((bD×Int×Int)->Option R)×((List Aab×List aO×List Int×List aG×List bD)->Option R)×Unit)->(List Aab×List aO×List Int×List aG×List bD×Int)->Option R:=λ(a,b) c (d,f,_) (g,h,i,j,l,m)=>cd (m<b) (bnd (idx a m) λo=>bnd (xG n (dE.mk (aJ.mk (aM.mk g h i) j) l) o) λr=>cnd (r.2 != 0) (d (o,m,r.2))<|c (r.1.Survey.Plan.Nodes,r.1.Survey.Plan.Arcs,r.1.Survey.Plan.Faces,r.1.Survey.Features,r.1.Txns,(wr<|m+1)))<|f (g,h,i,j,l)
def Q9:=mR uA
def UN: Lc 25 0 0:=bI 0x1be3a93ee7c53ac5fd727e2f686c7181480e9fa66e2fcb73232e7d8aacf97af0d21941383b58860ef0bd4ab aSI [] [] @uA
def CJ: Nat->(List bD)->Option (dE×Int×Int)
 | 0,_=>none
 | n+1,a=>bnd2 (Q9 n (a,(ln a)) ([],[],[],[],[],0)) (λb=>some ((dE.mk (aJ.mk (aM.mk [] [] []) []) []),b.2.1,b.2.2)) λc=>bnd (some c) λd=>some ((dE.mk (aJ.mk (aM.mk d.1 d.2.1 d.2.2.1) d.2.2.2.1) d.2.2.2.2),(ln a),0)
def aBs: Kn:=bG 25 0xccc3abdd3de367378 aSI [⟨0,[UN]⟩] [] CJ
abbrev aSH:=aBs::aSI
def pF: (aO×aO)->((Bool->Option R)×Unit)->Unit->Option R:=λ(a,b) (c,_) _=>cnd (a.ID==b.ID) (cnd (a.From==b.From) (cnd (a.To==b.To) (cnd (a.Left==b.Left) (cnd (a.Right==b.Right) (bnd (iC n a.Via b.Via) λd=>cnd d (c true)<|c false)<|c false)<|c false)<|c false)<|c false)<|c false
def uG:=eO pF
def IW: Lc 66 0 0:=bJ 0x29bac6c14c0a aSH [] [] @pF
def aBH: Nat->aO->aO->Option Bool
 | 0,_,_=>none
 | n+1,a,b=>bnd (uG n (a,b)) λc=>cnd c (some true)<|some false
def A2: Kn:=bG 66 0x35c5c3379 aSH [⟨0,[IW]⟩] [] aBH
abbrev aSG:=A2::aSH
def iE(n:Nat): (List Aab×List Aab×Int)->(Int->Option R)->((Unit->Option R)×(Unit->Option R)×Unit)->Int->Option R:=λ(a,b,c) d (f,g,_) h=>cd (h<c) (bnd (idx a h) λi=>bnd (idx b h) λj=>cd (i=j) (d<|wr<|h+1)<|f ())<|g ()
def Nv:=mR iE
def Iz: Lc 67 0 0:=bI 0x11b27e5510821ae390741 aSG [] [] @iE
def oP: Nat->(List Aab)->(List Aab)->Option Bool
 | 0,_,_=>none
 | n+1,a,b=>cnd ((ln a) != (ln b)) (some false)<|bnd2 (Nv n (a,b,(ln a)) 0) (λ_=>some false) λc=>bnd (some c) λ_=>some true
def Tn: Kn:=bG 67 0x1a85a0ae7ac7766 aSG [⟨0,[Iz]⟩] [] oP
abbrev aKb:=Tn::aSG
def A3: Lc 66 0 0:=bJ 0x3f23a4613b8264e1ac4c3a4c132ce76b aKb [] [] @pF
def Oq: (aO×aO)->((Bool->Option R)×Unit)->Unit->Option R:=λ(a,b) (c,_) _=>bnd (uG n (a,b)) λd=>cnd d (c true)<|c false
def IX:=sU Oq
def A5: Ic:=cD 66 0 2 0xe89931ac463bcaedea4bb0d aKb [⟨0,[A3]⟩] [] @Oq
def yB: (List aO×List aO×Int)->(Int->Option R)->(((aO×aO×aO×aO)->Option R)×(Unit->Option R)×Unit)->Int->Option R:=λ(a,b,c) d (f,g,_) h=>cd (h<c) (bnd (idx b h) λi=>bnd (idx a h) λj=>bnd (IX n (i,j)) λl=>cnd l (d<|wr<|h+1)<|f (i,j,i,j))<|g ()
def aBI:=mR yB
def A4: Lc 68 0 0:=bI 0x8bdcc8898345acb9c120bdc4e5efb6a1121d1e0bc812904f4c20 aKb [] [A5] @yB
def Ot: (List aO×List aO)->((Bool->Option R)×((aO×aO×aO×aO)->Option R)×Unit)->Unit->Option R:=λ(a,b) (c,d,_) _=>cnd ((ln a) != (ln b)) (c false)<|bnd2 (aBI n (b,a,(ln a)) 0) (λf=>d (f.1,f.2.1,f.2.2.1,f.2.2.2)) λg=>bnd (some g) λ_=>c true
def IY:=Uw Ot
def A6: Ic:=cD 68 0 3 0xce1ce013a0d476b0674bddb43d7077afb7d4b658ca6b09 aKb [⟨0,[A4]⟩] [] @Ot
def PB: Nat->aM->aM->Option Bool
 | 0,_,_=>none
 | n+1,a,b=>bnd (oP n a.Nodes b.Nodes) λc=>cnd c (bnd2 (IY n (a.Arcs,b.Arcs)) (λd=>cnd d (bnd (eL n a.Faces b.Faces) λf=>cnd f (some true)<|some false)<|some false) λg=>bnd (some g) λ_=>some false)<|some false
def aDI: Kn:=bG 46 0x2eefa5c25 aKb [] [A6] PB
abbrev aSF:=aDI::aKb
def kP: (aG×aG)->((Bool->Option R)×Unit)->Unit->Option R:=λ(a,b) (c,_) _=>cnd (a.ID==b.ID) (cnd (a.Kind==b.Kind) (cnd (a.Class==b.Class) (cd (a.Name=b.Name) (bnd (eL n a.Parts b.Parts) λd=>cnd d (c true)<|c false)<|c false)<|c false)<|c false)<|c false
def nJ:=eO kP
def Qu: Lc 48 0 0:=bJ 0x29b8401bf1ca aSF [] [] @kP
def VW: Nat->aG->aG->Option Bool
 | 0,_,_=>none
 | n+1,a,b=>bnd (nJ n (a,b)) λc=>cnd c (some true)<|some false
def KR: Kn:=bG 48 0x2869cade56ee aSF [⟨0,[Qu]⟩] [] VW
end
end
section
variable {R:Type}(n:Nat)
noncomputable section
abbrev aKa:=KR::aSF
def KS: Lc 48 0 0:=bJ 0x3f23a4613b8264dc002e5b666d5e659b aKa [] [] @kP
def Bt: (aG×aG)->((Bool->Option R)×Unit)->Unit->Option R:=λ(a,b) (c,_) _=>bnd (nJ n (a,b)) λd=>cnd d (c true)<|c false
def Lr:=sU Bt
def KU: Ic:=cD 48 0 2 0xe89931ac3eb009f54921f5d aKa [⟨0,[KS]⟩] [] @Bt
def pR: (List aG×List aG×Int)->(Int->Option R)->(((aG×aG×aG×aG)->Option R)×(Unit->Option R)×Unit)->Int->Option R:=λ(a,b,c) d (f,g,_) h=>cd (h<c) (bnd (idx b h) λi=>bnd (idx a h) λj=>bnd (Lr n (i,j)) λl=>cnd l (d<|wr<|h+1)<|f (i,j,i,j))<|g ()
def VX:=mR pR
def KT: Lc 47 0 0:=bI 0x8bdcc8898345a5acfddebcc8b3f52cbf2a89da2d0cdb291fd0c8 aKa [] [KU] @pR
def Bu: (List aG×List aG)->((Bool->Option R)×((aG×aG×aG×aG)->Option R)×Unit)->Unit->Option R:=λ(a,b) (c,d,_) _=>cnd ((ln a) != (ln b)) (c false)<|bnd2 (VX n (b,a,(ln a)) 0) (λf=>d (f.1,f.2.1,f.2.2.1,f.2.2.2)) λg=>bnd (some g) λ_=>c true
def Ls:=Uw Bu
def KV: Ic:=cD 47 0 3 0xce1ce013a03e689dc768fd71b126d54d493beae97d731b aKa [⟨0,[KT]⟩] [] @Bu
def Ka: Nat->aJ->aJ->Option Bool
 | 0,_,_=>none
 | n+1,a,b=>bnd (PB n a.Plan b.Plan) λc=>cnd c (bnd2 (Ls n (a.Features,b.Features)) (λd=>cnd d (some true)<|some false) λf=>bnd (some f) λ_=>some false)<|some false
def I3: Kn:=bG 26 0x23484440746d aKa [] [KV] Ka
abbrev aSE:=I3::aKa
def Ni: (dE×dE×Int)->((Bool->Option R)×Unit)->Unit->Option R:=λ(a,b,c) (d,_) _=>cnd (c==0) (bnd (Ka n b.Survey a.Survey) λf=>cnd f (d true)<|d false)<|d false
def HJ:=eO Ni
def u6: Lc 10 0 0:=bJ 0x55ea4600a49d08af134f7c61cfdfbecc aSE [] [] @Ni
def NJ: Nat->dE->Option Bool
 | 0,_=>none
 | n+1,a=>bnd (CJ n a.Txns) λb=>bnd (HJ n (a,b.1,b.2.2)) λc=>cnd c (some true)<|some false
def aDk: Kn:=bG 10 0x2dd76c4b8 aSE [⟨0,[u6]⟩] [] NJ
abbrev aJZ:=aDk::aSE
def tU: (dE×List bD×Int)->((Bool->Option R)×Unit)->Unit->Option R:=λ(a,b,c) (d,_) _=>bnd (sO n) λf=>cnd f (cnd (c==19) (cnd ((ln b)==0) (cnd ((ln a.Txns)==0) (d true)<|d false)<|d false)<|d false)<|d false
def Al:=eO tU
def Sc: Lc 1 0 0:=bJ 0x1df3ea55553739b4ab179a45fae05127d503e2 aJZ [] [] @tU
def tT: (bT×dE×Int×Int)->((Bool->Option R)×Unit)->Unit->Option R:=λ(a,b,c,d) (f,_) _=>cd (c<(ln b.Txns)) (bnd (idx b.Txns c) λg=>bnd (idx a.Txns d) λh=>bnd (oH n g h) λi=>cnd i (f true)<|f false)<|f false
def Ak:=eO tT
def Sb: Lc 1 0 2:=bJ 0x675272375436959b8ee4be303ea8282001a7f9e21e54dabafa46bbfde8 aJZ [] [] @tT
def tS: (bT×List bD×Int×Int)->((Bool->Option R)×Unit)->Unit->Option R:=λ(a,b,c,d) (f,_) _=>cd (c<(ln b)) (bnd (idx b c) λg=>bnd (idx a.Txns d) λh=>bnd (oH n g h) λi=>cnd i (f true)<|f false)<|f false
def Aj:=eO tS
def Sa: Lc 1 0 3:=bJ 0x3a5c10aa86652ec745596897e707357434b1518a37c86fafbdc25126b95c4bac aJZ [] [] @tS
def kR: (bT×dE×List bD)->((Int×Int×Int)->Option R)->((Unit->Option R)×((Int×Int)->Option R)×Unit)->(Int×Int×Int)->Option R:=λ(a,b,c) d (f,g,_) (h,i,j)=>cd (j<(ln a.Txns)) (bnd (Ak n (a,b,h,j)) λl=>cnd l (d ((wr<|h+1),i,(wr<|j+1)))<|bnd (Aj n (a,c,i,j)) λm=>cnd m (d (h,(wr<|i+1),(wr<|j+1)))<|f ())<|g (h,i)
def GU:=mR kR
def Sd: Lc 1 0 1:=bI 0x33fa43b718fc2a8ffd80dc3a82bc0ec078ed498268c4097008303d28ad151d8c aJZ [⟨0,[cs Sb]⟩,⟨1,[cs Sa]⟩] [] @kR
def tR: (dE×List bD×Int×Int)->((Bool->Option R)×Unit)->Unit->Option R:=λ(a,b,c,d) (f,_) _=>bnd (sO n) λg=>cnd g (cnd (c==(ln a.Txns)) (cnd (d==(ln b)) (bnd (NJ n a) λh=>cnd h (f true)<|f false)<|f false)<|f false)<|f false
def Ai:=eO tR
def Rz: Lc 1 0 4:=bJ 0x10ece19d77c95203257a1e026736811c04dddf5a9216 aJZ [] [] @tR
def mU: Nat->bT->Option Bool
 | 0,_=>none
 | n+1,a=>bnd (SK n a.Txns) λb=>cnd b (bnd (pI n a) λc=>cnd (c.2.2 != 0) (bnd (Al n (c.1,c.2.1,c.2.2)) λd=>cnd d (some true)<|some false)<|bnd2 (GU n (a,c.1,c.2.1) (0,0,0)) (λ_=>some false) λf=>bnd (some f) λg=>bnd (Ai n (c.1,c.2.1,g.1,g.2)) λh=>cnd h (some true)<|some false)<|bnd (sO n) λi=>cnd i (some true)<|some false
def Dn: Kn:=bG 1 0x228432ed0 aJZ [⟨0,[Sc]⟩,⟨1,[Sd]⟩,⟨4,[Rz]⟩] [] mU
end
end
def aB{α:Type}(f:Nat->Nat->Option α)(P:α->Prop): Prop:=∃r,P r/\∃K,∀n m,K<=n->K<=m->f n m=some r
section
variable {α β γ:Type}{P:α->Prop}{Q:β->Prop}{R:γ->Prop}
theorem aA{x:α}(h:P x): aB (λ_ _=>some x) P:=⟨x,h,0,λ_ _ _ _=>rfl⟩
theorem aB.imp{a:α->Prop}{f:Nat->Nat->Option α}(h:aB f P)(k:∀r,P r->a r): aB f a:=by
 let⟨r,b,K,c⟩:=h;exact⟨r,k r b,K,c⟩
theorem aD{f:Nat->Nat->Option β}{g:Nat->Nat->β->Option α}(h:aB f Q)(k:∀r,Q r->aB (λn m=>g n m r) P): aB (λn m=>Av.bnd (f n m)<|g n m) P:=by
 let⟨r,a,K,d⟩:=h;let⟨s,b,J,c⟩:=k r a;refine⟨s,b,max K J,λn m j l=>?_⟩;have i:=d n m (by omega)<|by omega
 show Av.bnd (f n m) (g n m)=some s;rw[i];exact c n m (by omega)<|by omega
theorem aE{o:Option β}{g:Nat->Nat->β->Option α}{x:β}(e:o=some x)(k:aB (λn m=>g n m x) P): aB (λn m=>Av.bnd o<|g n m) P:=by
 subst e;exact k
def Su(Q:β->Prop)(R:γ->Prop): β⊕γ->Prop
 | .inl a=>Q a
 | .inr b=>R b
theorem aP{f:Nat->Nat->Option (β⊕γ)}{g:Nat->Nat->β->Option α}{k:Nat->Nat->γ->Option α}(h:aB f<|Su Q R)(o:∀a,Q a->aB (λn m=>g n m a) P)(l:∀b,R b->aB (λn m=>k n m b) P): aB (λn m=>Av.bnd2 (f n m) (g n m)<|k n m) P:=by
 let⟨r,j,K,i⟩:=h;cases r with
 | inl a=>
  let⟨s,d,J,c⟩:=o a j;refine⟨s,d,max K J,λn m q p=>?_⟩;show Av.bnd2 (f n m) (g n m) (k n m)=some s;rw[i n m (by omega)<|by omega];exact c n m (by omega)<|by omega
 | inr a=>
  let⟨s,d,J,c⟩:=l a j;refine⟨s,d,max K J,λn m q p=>?_⟩;show Av.bnd2 (f n m) (g n m) (k n m)=some s;rw[i n m (by omega)<|by omega];exact c n m (by omega)<|by omega
theorem aC{b:Bool}{x y:Nat->Nat->Option α}(c:b=true->aB x P)(a:b=false->aB y P): aB (λn m=>Av.cnd b (x n m)<|y n m) P:=by
 cases b with
 | true=>exact c rfl
 | false=>exact a rfl
theorem aV{g:Nat->Nat->Nat->Option α}(h:aB (λn m=>g (n+1) m n) P): aB (λn m=>Av.bnd (Av.prd n)<|g n m) P:=by
 let⟨r,a,K,b⟩:=h;refine⟨r,a,K+1,λn m c d=>?_⟩;cases n with
 | zero=>omega
 | succ n=>exact b n m (by omega)<|by omega
theorem aU{f:Nat->Option α}{g:Nat->Option α}(e:∀n,f (n+1)=g n)(h:aB (λn _=>g n) P): aB (λn _=>f n) P:=by
 let⟨r,a,K,b⟩:=h;refine⟨r,a,K+1,λn m c d=>?_⟩;cases n with
 | zero=>omega
 | succ n=>show f (n+1)=some r;rw[e];exact b n m (by omega)<|by omega
theorem aB.lp{f:Nat->Nat->Option α}{g:Nat->Nat->Option α}(e:∀n m,f n (m+1)=g n m)(h:aB g P): aB f P:=by
 let⟨r,a,K,b⟩:=h;refine⟨r,a,K+1,λn m c d=>?_⟩;cases m with
 | zero=>omega
 | succ m=>rw[e];exact b n m (by omega)<|by omega
theorem aW{f:Nat->Nat->Option α}(h:aB f P): aB (λn _=>f n n) P:=by
 let⟨r,b,K,c⟩:=h;exact⟨r,b,K,λn m a d=>c n n a a⟩
theorem GV{f:Nat->Option α}(h:aB (λn _=>f n) P): aB (λn _=>f<|n+1) P:=by
 let⟨r,a,K,c⟩:=h;exact⟨r,a,K,λn m d b=>c (n+1) m (by omega) b⟩
theorem bA{l:List β}{i:Nat}{f:Nat->Nat->β->Option α}{e:Nat->Nat->Option α}(c:∀x,l[i]?=some x->i<l.length->aB (λn m=>f n m x) P)(b:l.length<=i->aB e P):
 aB (λn m=>Av.cnd (decide<|(i:Int)<((l.length:Nat):Int)) (Av.bnd (idx l (i:Int))<|f n m)<|e n m) P:=by
 refine aC (λh=>?_) λh=>b ?_
 .have a:i<l.length:=by have:=Zh h;omega
  exact aE (x:=l[i]) (by rw[bN];exact Za a)<|c _ (Za a) a
 .have:=Zi h;omega
theorem aB.uniq{f:Nat->Nat->Option α}{r:α}(h:aB f λx=>x=r)(k:aB f P): P r:=by
 let⟨_,rfl,K,d⟩:=h;let⟨s,e,J,g⟩:=k;have c:=d (max K J) (max K J) (by omega)<|by omega
 have b:=g (max K J) (max K J) (by omega)<|by omega
 rw[c] at b;cases b;exact e
theorem aB.val{f:Nat->Nat->Option α}(k:aB f P): ∃r,P r/\aB f λx=>x=r:=by
 let⟨s,a,J,b⟩:=k;exact⟨s,a,s,rfl,J,b⟩
theorem BU{l:List α}{x:α}(h:l.length<=100000): app l [x]=some (l++[x]):=Ko<|by simp;omega
end
def qF{Q V X:Type}(B:Nat->Q->(V->Option X)->((X->Option X)×Unit)->V->Option X)(n m:Nat)(p:Q)(q:V): Option X:=lpB (λk q=>B n p k (λt=>some t,()) q) m q
def pK{Q V X Y:Type}(B:Nat->Q->(V->Option (X⊕Y))->((X->Option (X⊕Y))×(Y->Option (X⊕Y))×Unit)->V->Option (X⊕Y))(n m:Nat)(p:Q)(q:V): Option<|X⊕Y:=lpB (λk q=>B n p k (λt=>some<|.inl t,λt=>some<|.inr t,()) q) m q
def lm3{Q V X Y Z:Type}(B:Nat->Q->(V->Option (X⊕Y⊕Z))->((X->Option (X⊕Y⊕Z))×(Y->Option (X⊕Y⊕Z))×(Z->Option (X⊕Y⊕Z))×Unit)->V->Option (X⊕Y⊕Z))(n m:Nat)(p:Q)(q:V): Option<|X⊕Y⊕Z:=lpB (λk q=>B n p k (λt=>some<|.inl t,λt=>some<|.inr<|.inl t,λt=>some<|.inr<|.inr t,()) q) m q
theorem bZ{Q V X:Type}{P:X->Prop}{B:Nat->Q->(V->Option X)->((X->Option X)×Unit)->V->Option X}{p:Q}{q:V}(h:aB (λn m=>B n p (λq=>qF B n m p q) (λt=>some t,()) q) P): aB (λn m=>qF B n m p q) P:=aB.lp (λ_ _=>rfl) h
theorem bL{Q V X Y:Type}{P:X⊕Y->Prop}{B:Nat->Q->(V->Option (X⊕Y))->((X->Option (X⊕Y))×(Y->Option (X⊕Y))×Unit)->V->Option (X⊕Y)}{p:Q}{q:V}(h:aB (λn m=>B n p (λq=>pK B n m p q) (λt=>some<|.inl t,λt=>some<|.inr t,()) q) P): aB (λn m=>pK B n m p q) P:=aB.lp (λ_ _=>rfl) h
theorem aMR{Q V X Y Z:Type}{P:X⊕Y⊕Z->Prop}{B:Nat->Q->(V->Option (X⊕Y⊕Z))->((X->Option (X⊕Y⊕Z))×(Y->Option (X⊕Y⊕Z))×(Z->Option (X⊕Y⊕Z))×Unit)->V->Option (X⊕Y⊕Z)}{p:Q}{q:V}(h:aB (λn m=>B n p (λq=>lm3 B n m p q) (λt=>some<|.inl t,λt=>some<|.inr<|.inl t,λt=>some<|.inr<|.inr t,()) q) P): aB (λn m=>lm3 B n m p q) P:=aB.lp (λ_ _=>rfl) h
abbrev Tt{α:Type}(f:Nat->Nat->Option α): Prop:=aB f λ_=>True
theorem i64_in(x:Int)(h:-9223372036854775808<=x/\x<=9223372036854775807): IntKind.i64.wrap x=x:=by rw[Xh];omega
theorem bS{i:Nat}(h:i<1000000): wr ((i:Int)+1)=((i+1:Nat):Int):=by rw[wr,i64_in _<|by omega];push_cast;rfl
def Am{α:Type}(l:List α)(i:Nat)(Q:α->Prop): Prop:=∀(j:Nat) (x:α),j<i->l[j]?=some x->Q x
theorem Am.nil{α:Type}{l:List α}{Q:α->Prop}: Am l 0 Q:=λj x h _=>by omega
theorem Am.step{α:Type}{l:List α}{i:Nat}{Q:α->Prop}{x:α}(h:Am l i Q)(d:l[i]?=some x)(e:Q x): Am l (i+1) Q:=λj y f b=>by
 by_cases c:j=i
 .subst c;rw[d] at b;cases b;exact e
 .exact h j y (by omega) b
theorem Am.fin{α:Type}{l:List α}{i:Nat}{Q:α->Prop}(h:Am l i Q)(c:l.length<=i): ∀x∈l,Q x:=λx b=>by
 let⟨j,a⟩:=Yd.1 b;exact h j x (by have:=(Zd.1 a).1;omega) a
structure Sm(p:aM): Prop where
 n:p.Nodes.length<=300
 a:p.Arcs.length<=300
 f:p.Faces.length<=300
 v:∀a∈p.Arcs,a.Via.length<=300
theorem aEv(p:List Aab)(d:p.length<=300)(i:Nat)(l:List Int)(b:l=(p.take i).map Aab.ID): aB (λn m=>qF jG n m (p,ln p) (l,(i:Int))) λr=>r=p.map Aab.ID:=
 bZ<|bA (λx e c=>aE (BU<|by rw[b];simp;omega)<|by
  rw[bS<|by omega];exact aEv p d (i+1) _<|by rw[b,YR,e];simp)
  (λa=>aA<|by rw[b,ZS a])
termination_by p.length-i
theorem aEu(p:List aO)(d:p.length<=300)(i:Nat)(l:List Int)(b:l=(p.take i).map aO.ID): aB (λn m=>qF jF n m (p,ln p) (l,(i:Int))) λr=>r=p.map aO.ID:=
 bZ<|bA (λx e c=>aE (BU<|by rw[b];simp;omega)<|by
  rw[bS<|by omega];exact aEu p d (i+1) _<|by rw[b,YR,e];simp)
  (λa=>aA<|by rw[b,ZS a])
termination_by p.length-i
theorem aUx(p:aM)(b:Sm p): aB (λn _=>rA n p) λr=>r=(p.Nodes.map Aab.ID,p.Arcs.map aO.ID):=
 aU (λ_=>rfl)<|aD (aW<|aEv _ b.n 0 [] rfl) λv d=>aD (aW<|aEu _ b.a 0 [] rfl) λw c=>aA<|by rw[d,c]
def Asc(l:List Int): Prop:=∀j x y,l[j]?=some x->l[j+1]?=some y->x<y
theorem M5(l:List Int)(k:l.length<=1000)(i:Nat)(p:1<=i)(f:∀j x y,j+1<i->l[j]?=some x->l[j+1]?=some y->x<y): aB (λn m=>pK kZ n m l (i:Int))<|Su (λ_=>True) λ_=>Asc l:=
 bL<|aC (λh=>by
  have d:i<l.length:=by have:(i:Int)<(l.length:Int):=Zh h;omega
  have o:wr ((i:Int)-1)=((i-1:Nat):Int):=by rw[wr,i64_in _<|by omega];omega
  rw[o];refine aE (x:=l[i-1]) (by rw[bN];exact Za<|by omega)<|aE (x:=l[i]) (by rw[bN];exact Za d)<|aC (λ_=>aA trivial) λg=>?_;rw[bS<|by omega];refine M5 l k (i+1) (by omega) λj x y q c b=>?_;by_cases e:j+1=i
  .subst e;rw[Za<|by omega] at c b;cases c;cases b;have:=Zi g;simp only[Nat.add_sub_cancel] at this;omega
  .exact f j x y (by omega) c b)
  (λh=>aA λj x y c b=>by
   have:¬(i:Int)<(l.length:Int):=Zi h;exact f j x y (by have:=(Zd.1 b).1;omega) c b)
termination_by l.length-i
theorem aMK(l:List Int)(a:l.length<=1000): aB (λn _=>kG n l) λr=>r=true->Asc l:=
 aU (λ_=>rfl)<|aP (aW<|M5 l a 1 (by omega) λj x y b _ _=>by omega) (λ_ _=>aA<|by simp) λ_ h=>aA λ_=>h
theorem aLy(x:Int): aB (λn _=>qZ n x) λr=>r=false->1<=x/\x<=1073741824:=
 aU (λ_=>rfl)<|aC (λ_=>aA<|by simp) λb=>aC (λ_=>aA<|by simp) λa=>aA λ_=>by
  have:=Zi b;have:=Zi a;omega
theorem aDU(l:List Int)(f:l.length<=1000)(i:Nat)(b:Am l i λx=>1<=x/\x<=1073741824): aB (λn m=>pK nB n m (l,ln l) (i:Int)) (Su (λv=>0<=v) λ_=>∀x∈l,1<=x/\x<=1073741824):=
 bL<|bA (λx e c=>aD (aLy x) λr d=>aC (λ_=>aA<|by show (0:Int)<=(i:Int);omega) λh=>by
  rw[bS<|by omega];exact aDU l f (i+1)<|b.step e<|d h)
  (λa=>aA<|b.fin a)
termination_by l.length-i
theorem aLz(l:List Int)(b:l.length<=1000): aB (λn _=>mL n l) λr=>r=true->∀x∈l,1<=x/\x<=1073741824:=
 aU (λ_=>rfl)<|aD (Q:=λr=>r=false->∀x∈l,1<=x/\x<=1073741824) (aV<|aD (Q:=λv=>0<=v\/∀x∈l,1<=x/\x<=1073741824) (aV<|aP (aW<|aDU l b 0 .nil) (λv a=>aA<|.inl a) λ_ h=>aA<|.inr h)
  λv a=>aC (λ_=>aA<|by simp) λh=>aA λ_=>by have:=Zi h;rcases a with a | a;omega;exact a)
  λr c=>aC (λ_=>aA<|by simp) λh=>aA λ_=>c h
def Ku(x:Aaa): Prop:=-1048576<=x.X/\x.X<=1048576/\-1048576<=x.Y/\x.Y<=1048576
theorem TE(x:Aaa): aB (λn _=>pD n x) λr=>r=false->Ku x:=
 aC (λ_=>aA<|by simp) λb=>aC (λ_=>aA<|by simp) λc=>aC (λ_=>aA<|by simp) λa=>aC (λ_=>aA<|by simp) λd=>aA λ_=>by
 have:=Zi b;have:=Zi c;have:=Zi a;have:=Zi d;exact⟨by omega,by omega,by omega,by omega⟩
theorem aMH{P:Bool->Prop}{b:Bool}(h:P b): aB (λ_ _=>cnd b (some true)<|some false) P:=by cases b<;>exact aA h
theorem aDN(x:Aaa): aB (λn _=>xX n x) λr=>r=false->Ku x:=
 aU (λ_=>rfl)<|aD (TE x) λr a=>aMH a
theorem TI(l:List Aab)(f:l.length<=300)(i:Nat)(c:Am l i λx=>Ku x.At): aB (λn m=>pK qY n m (l,ln l) (i:Int)) (Su (λ_=>True) λ_=>∀x∈l,Ku x.At):=
 bL<|bA (λx e d=>aD (Q:=λr=>r=false->Ku x.At) (aV<|aD (TE x.At) λr b=>aMH b) λr b=>aC (λ_=>aA trivial) λh=>by
  rw[bS<|by omega];exact TI l f (i+1)<|c.step e<|b h)
  (λa=>aA<|c.fin a)
termination_by l.length-i
theorem TF(l:List Aaa)(f:l.length<=300)(i:Nat)(b:Am l i Ku): aB (λn m=>pK qW n m (l,ln l) (i:Int)) (Su (λv=>0<=v) λ_=>∀x∈l,Ku x):=
 bL<|bA (λx e c=>aD (aDN x) λr d=>aC (λ_=>aA<|by show (0:Int)<=(i:Int);omega) λh=>by
  rw[bS<|by omega];exact TF l f (i+1)<|b.step e<|d h)
  (λa=>aA<|b.fin a)
termination_by l.length-i
theorem TG(l:List aO)(j:l.length<=300)(b:∀a∈l,a.Via.length<=300)(i:Nat)(e:Am l i λa=>∀y∈a.Via,Ku y): aB (λn m=>pK qX n m (l,ln l) (i:Int)) (Su (λ_=>True) λ_=>∀a∈l,∀y∈a.Via,Ku y):=
 bL<|bA (λx d f=>aD (Q:=λr=>r=false->∀y∈x.Via,Ku y) (aV<|aD (Q:=λv=>0<=v\/∀y∈x.Via,Ku y) (aV<|aP (aW<|TF x.Via (b x<|Zg d) 0 .nil) (λv b=>aA<|.inl b) λ_ h=>aA<|.inr h)
  λv b=>aC (λ_=>aA<|by simp) λh=>aA λ_=>by have:=Zi h;rcases b with b | b;omega;exact b) λr g=>aC (λ_=>aA trivial) λh=>by
  rw[bS<|by omega];exact TG l j b (i+1)<|e.step d<|g h)
  (λc=>aA<|e.fin c)
termination_by l.length-i
theorem aLb(p:aM)(b:Sm p): aB (λn _=>Ol n p) λr=>r=true->(∀x∈p.Nodes,Ku x.At)/\∀a∈p.Arcs,∀y∈a.Via,Ku y:=
 aU (λ_=>rfl)<|aP (aW<|TI _ b.n 0 .nil) (λ_ _=>aA<|by simp) λ_ d=>aP (aW<|TG _ b.a b.v 0 .nil) (λ_ _=>aA<|by simp) λ_ c=>aA λ_=>⟨d,c⟩
theorem P6(l:List Int)(x:Int)(g:l.length<=100000)(i:Nat)(d:Am l i (·≠x)): aB (λn m=>pK jD n m (l,x,ln l) (i:Int))<|Su (λv=>0<=v/\v.toNat<l.length/\x∈l) λ_=>x∉l:=
 bL<|bA (λy f b=>aC (λh=>aA<|by
  refine⟨by omega,by simpa using b,?_⟩;rw[Wk h];exact Zg f) λh=>by
  rw[bS<|by omega];exact P6 l x g (i+1)<|d.step f λe=>by subst e;simp at h)
  (λc=>aA λh=>d.fin c x h rfl)
termination_by l.length-i
theorem aIH(l:List Int)(x:Int)(b:l.length<=100000): aB (λn _=>kT n l x) λr=>(0<=r/\r.toNat<l.length/\x∈l)\/(r=-1/\x∉l):=
 aU (λ_=>rfl)<|aP (aW<|P6 l x b 0 .nil) (λv a=>aA<|.inl a) λ_ h=>aA<|.inr ⟨rfl,h⟩
theorem Ap(l:List Int)(x:Int)(b:l.length<=100000): aB (λn _=>dP n l x) λr=>r=decide (x∈l):=
 aU (λ_=>rfl)<|aD (aIH l x b) λr a=>aC (λh=>aA (by
  rcases a with a | a
  .simp[a.2.2]
  .have:=Zh h;omega)) λh=>aA (by
  rcases a with a | a
  .have:=Zi h;omega
  .simp[a.2])
theorem aM7{α:Type}{l:List α}{a b:Nat}(d:a<=b)(c:b<=l.length): cut l (a:Int) (b:Int)=some ((l.take b).drop a):=by
 unfold cut;rw[Zu<|by omega];simp
theorem aAX(x:Aab)(l:List Aab)(b:l.length<=300)(i:Nat): aB (λn m=>pK lP n m (x,l,ln l) (i:Int))<|Su (λ_=>True) λ_=>True:=
 bL<|bA (λy c a=>aC (λ_=>aA trivial) λ_=>by
  rw[bS<|by omega];exact aAX x l b<|i+1) λ_=>aA trivial
termination_by l.length-i
theorem aAY(p:aM)(b:Sm p)(i:Nat): aB (λn m=>pK lQ n m (p,p.Nodes,ln p.Nodes) (i:Int))<|Su (λ_=>True) λ_=>True:=
 bL<|bA (λy d c=>aE (aM7 (a:=0) (ZL i)<|by omega)<|aP (aW<|aAX y _ (by simp;have:=b.n;omega) 0) (λ_ _=>aA trivial) λ_ _=>by
  have:=b.n;rw[bS<|by omega];exact aAY p b<|i+1) λ_=>aA trivial
termination_by p.Nodes.length-i
theorem aJD(x:aO)(a:List Int)(d:a.length<=100000): aB (λn _=>Bi n (x,a)) λr=>r=false->x.From∈a/\x.To∈a:=
 aD (Ap a x.From d) λr b=>aC (λe=>aD (Ap a x.To d) λs c=>aC (λf=>aA λ_=>by rw[e] at b;rw[f] at c;exact⟨Zh b.symm,Zh c.symm⟩) λ_=>aA<|by simp) λ_=>aA<|by simp
theorem aAW(a:List Int)(c:a.length<=100000)(l:List aO)(g:l.length<=300)(i:Nat)(d:Am l i λx=>x.From∈a/\x.To∈a): aB (λn m=>pK lO n m (a,l,ln l) (i:Int)) (Su (λ_=>True) λ_=>∀x∈l,x.From∈a/\x.To∈a):=
 bL<|bA (λy f e=>aD (aJD y a c) λr j=>aC (λ_=>aA trivial) λh=>by
  rw[bS<|by omega];exact aAW a c l g (i+1)<|d.step f<|j h) λb=>aA<|d.fin b
termination_by l.length-i
theorem aAU(p:aM)(b:Sm p)(x:Int): aB (λn _=>pE n (p,x)) λr=>r=false->x=0\/x∈p.Faces:=
 aC (λh=>aD (Ap p.Faces x<|by have:=b.f;omega) λr a=>aC (λh=>aA λ_=>by rw[h] at a;exact .inr<|Zh a.symm) λ_=>aA<|by simp) λh=>aA λ_=>.inl<|by simpa using h
theorem O0{α:Type}{P:α->Prop}{k:Nat}{g:Nat->Nat->Unit->Option α}(h:aB (λn m=>g n m ()) P): aB (λn m=>Av.bnd (Na<|Nat.ble k n)<|g n m) P:=by
 let⟨r,a,K,b⟩:=h;refine⟨r,a,K+k,λn m c d=>?_⟩;have:Na (Nat.ble k n)=some ():=by rw[Yx (by omega:k<=n)];rfl
 show Av.bnd (Na<|Nat.ble k n) (g n m)=some r;rw[this];exact b n m (by omega)<|by omega
theorem aAV(p:aM)(c:Sm p)(l:List aO)(f:l.length<=300)(i:Nat)(d:Am l i λx=>(x.Left=0\/x.Left∈p.Faces)/\(x.Right=0\/x.Right∈p.Faces)): aB (λn m=>pK lN n m (p,l,ln l) (i:Int)) (Su (λ_=>True) λ_=>∀x∈l,(x.Left=0\/x.Left∈p.Faces)/\(x.Right=0\/x.Right∈p.Faces)):=
 bL<|bA (λy k e=>O0<|aD (aAU p c y.Left) λr j=>aC (λ_=>aA trivial) λh=>aD (aAU p c y.Right) λs b=>aC (λ_=>aA trivial) λg=>by
  rw[bS<|by omega];exact aAV p c l f (i+1)<|d.step k ⟨j h,b g⟩) λa=>aA<|d.fin a
termination_by l.length-i
theorem aSo(p:aM)(c:Sm p)(b:List Int)(d:b.length<=100000): aB (λn _=>yA n p b) λr=>r=0->(∀x∈p.Arcs,x.From∈b/\x.To∈b)/\∀x∈p.Arcs,(x.Left=0\/x.Left∈p.Faces)/\(x.Right=0\/x.Right∈p.Faces):=
 aU (λ_=>rfl)<|aP (aW<|aAY p c 0) (λ_ _=>aA<|by simp) λ_ _=>aP (aW<|aAW b d _ c.a 0 .nil) (λ_ _=>aA<|by simp) λ_ e=>aP (aW<|aAV p c _ c.a 0 .nil) (λ_ _=>aA<|by simp) λ_ f=>aA λ_=>⟨e,f⟩
class TC{α:Type}(f:Nat->Option α): Prop where
 h:aB (λn _=>f n) λ_=>True
theorem bH{α β:Type}{P:α->Prop}{f:Nat->Option β}[t:TC f]{g:Nat->Nat->β->Option α}(k:∀r,aB (λn m=>g n m r) P): aB (λn m=>Av.bnd (f n)<|g n m) P:=aD t.h λr _=>k r
theorem dU{α:Type}{x:α}: aB (λ_ _=>some x) λ_=>True:=aA trivial
def aDV(x:Aaa): Prop:=-2097152<=x.X/\x.X<=2097152/\-2097152<=x.Y/\x.Y<=2097152
theorem aJq(x:Aaa): aB (λn _=>KH n x) λr=>r=true->¬aDV x:=by
 refine aC (λh=>aA λ_ a=>?_) λe=>aC (λh=>aA λ_ a=>?_) λc=>aC (λh=>aA λ_ a=>?_) λd=>aC (λh=>aA λ_ a=>?_) λb=>aA (by simp);all_goals (have:=Zh h;unfold aDV at a;omega)
theorem aAA(l:List Aaa)(e:l.length<=1000)(i:Nat): aB (λn m=>pK yN n m (l,ln l) (i:Int))<|Su (λ_=>¬∀x∈l,aDV x) λ_=>True:=
 bL<|bA (λy d a=>aD (aJq y) λr c=>aC (λh=>aA λb=>c h<|b y<|Zg d) λh=>by
  rw[bS<|by omega];exact aAA l e<|i+1)
  (λf=>aA trivial)
termination_by l.length-i
theorem aGl(l:List Aaa)(b:l.length<=1000): aB (λn _=>oE n l) λr=>(∀x∈l,aDV x)->r=true:=
 aU (λ_=>rfl)<|aP (aW<|aAA l b 0) (λ_ h=>aA λa=>absurd a h) λ_ _=>aA λ_=>rfl
instance aW7{a b c:Aaa}: TC (λn=>oE n [a,b,c]):=⟨(aGl _ (by simp)).imp λ_ _=>trivial⟩
instance aW6{a b c d:Aaa}: TC (λn=>oE n [a,b,c,d]):=⟨(aGl _ (by simp)).imp λ_ _=>trivial⟩
def twV(a b c:Aaa): Int:=wr<|(wr<|(wr<|b.X-a.X)*(wr<|c.Y-a.Y))-(wr<|(wr<|b.Y-a.Y)*(wr<|c.X-a.X))
theorem aHg(a b c:Aaa): aB (λn _=>gM n a b c) λr=>r=twV a b c:=aU (λ_=>rfl)<|aA rfl
instance aVI{a b c:Aaa}: TC (λn=>gM n a b c):=⟨(aHg a b c).imp λ_ _=>trivial⟩
section
variable {a b c d:Aaa}
instance aZm: TC (λn=>H5 n (a,b,c)):=⟨by repeat' first | exact aA trivial | refine aC (λ_=>?_) (λ_=>?_) | refine bH λ_=>?_⟩
instance aZl: TC (λn=>H4 n (a,b,c)):=⟨by repeat' first | exact aA trivial | refine aC (λ_=>?_) (λ_=>?_) | refine bH λ_=>?_⟩
instance aZk: TC (λn=>sV n a b c):=⟨aU (λ_=>rfl) (by repeat' first | exact aA trivial | refine aC (λ_=>?_) (λ_=>?_) | refine bH λ_=>?_)⟩
instance aVU: TC (λn=>DQ n a b c):=⟨aU (λ_=>rfl) (by repeat' first | exact aA trivial | refine aC (λ_=>?_) (λ_=>?_) | refine bH λ_=>?_)⟩
instance aXc: TC (λn=>jA n a b c):=⟨aU (λ_=>rfl) (by repeat' first | exact aA trivial | refine aC (λ_=>?_) (λ_=>?_) | refine bH λ_=>?_)⟩
instance aXK: TC (λn=>Px n (a,b)):=⟨by repeat' first | exact aA trivial | refine aC (λ_=>?_) (λ_=>?_) | refine bH λ_=>?_⟩
instance aUQ: TC (λn=>oF n a b):=⟨aU (λ_=>rfl) (by repeat' first | exact aA trivial | refine aC (λ_=>?_) (λ_=>?_) | refine bH λ_=>?_)⟩
instance aYz: TC (λn=>yM n (a,b)):=⟨by repeat' first | exact aA trivial | refine aC (λ_=>?_) (λ_=>?_) | refine bH λ_=>?_⟩
instance aYy: TC (λn=>Pu n (a,b)):=⟨by repeat' first | exact aA trivial | refine aC (λ_=>?_) (λ_=>?_) | refine bH λ_=>?_⟩
instance aYx: TC (λn=>Pt n (a,b)):=⟨by repeat' first | exact aA trivial | refine aC (λ_=>?_) (λ_=>?_) | refine bH λ_=>?_⟩
instance aT5: TC (λn=>Pv n a b c d):=⟨aU (λ_=>rfl) (by repeat' first | exact aA trivial | refine aC (λ_=>?_) (λ_=>?_) | refine bH λ_=>?_)⟩
instance aYI: TC (λn=>KL n (a,b,c,d)):=⟨by repeat' first | exact aA trivial | refine aC (λ_=>?_) (λ_=>?_) | refine bH λ_=>?_⟩
instance aYH: TC (λn=>KK n (a,b,c,d)):=⟨by repeat' first | exact aA trivial | refine aC (λ_=>?_) (λ_=>?_) | refine bH λ_=>?_⟩
instance aXf: TC (λn=>Sv n a b c d):=⟨aU (λ_=>rfl) (by repeat' first | exact aA trivial | refine aC (λ_=>?_) (λ_=>?_) | refine bH λ_=>?_)⟩
instance aVR{s:aY}: TC (λn=>iL n s):=⟨aU (λ_=>rfl) (by repeat' first | exact aA trivial | refine aC (λ_=>?_) (λ_=>?_))⟩
instance aWD{s:aY}: TC (λn=>gC n s):=⟨aU (λ_=>rfl) (by repeat' first | exact aA trivial | refine aC (λ_=>?_) (λ_=>?_))⟩
instance aZf{s t:aY}: TC (λn=>nD n (s,t)):=⟨by repeat' first | exact aA trivial | refine aC (λ_=>?_) (λ_=>?_) | refine bH λ_=>?_⟩
instance aZe{s t:aY}: TC (λn=>nC n (s,t)):=⟨by repeat' first | exact aA trivial | refine aC (λ_=>?_) (λ_=>?_) | refine bH λ_=>?_⟩
instance aZd{t:aY}{x y z:Int}: TC (λn=>fQ n (t,a,b,c,d,x,y,z)):=⟨by repeat' first | exact aA trivial | refine aC (λ_=>?_) (λ_=>?_) | refine bH λ_=>?_⟩
end
theorem aC4{α:Type}{Q:Nat->α->Prop}: ∀(l:List α),(∀x∈l,∃K,∀n,K<=n->Q n x)->∃K,∀n,K<=n->∀x∈l,Q n x
 | [],_=>⟨0,λ_ _ _ h=>by cases h⟩
 | a::l,h=>by
  let⟨K,d⟩:=h a<|ZG ..;let⟨J,c⟩:=aC4 l λx b=>h x<|ZH _ b;refine⟨max K J,λn f x b=>?_⟩;rcases ZJ.1 b with rfl | b
  .exact d n<|by omega
  .exact c n (by omega) x b
theorem N2{α β:Type}{f:α->Option β}{g:α->β}: ∀(l:List α),(∀x∈l,f x=some (g x))->AX (l.map f)=some (l.map g)
 | [],_=>rfl
 | a::l,h=>by
  simp only[ZK,AX,h a<|ZG ..,N2 l λx b=>h x<|ZH _ b]
structure Swo{α:Type}(g:α->α->Int)(l:List α): Prop where
 ir:∀x∈l,¬g x x<0
 tr:∀x∈l,∀y∈l,∀z∈l,g x y<0->g y z<0->g x z<0
 ti:∀x∈l,∀y∈l,∀z∈l,¬g x y<0->¬g y z<0->¬g x z<0
theorem aPr{α:Type}{g:α->α->Int}{l:List α}{i j:Nat}{x y:α}(b:l[i]?=some x)(a:l[j]?=some y): at2 (l.map λx=>l.map<|g x) i j=g x y:=by
 simp[at2,Zm,b,a]
theorem Swo.tab{α:Type}{g:α->α->Int}{l:List α}(h:Swo g l): R2 l.length (l.map λx=>l.map<|g x)=true:=by
 unfold R2;simp only[Yh,Wt,Ze,YG];have e:∀i j (b:i<l.length) (c:j<l.length),ltT (l.map λx=>l.map<|g x) i j=decide (g l[i] l[j]<0):=λi j b c=>by
  unfold ltT;rw[aPr (Za b)<|Za c]
 intro i b;refine⟨by rw[e i i b b];exact YI<|h.ir _<|ZQ b,λj c k m=>?_⟩;rw[e i j b c,e j k c m,e i k b m];have n:=ZQ b;have o:=ZQ c;have mk:=ZQ m;have q:=h.tr _ n _ o _ mk;have p:=h.ti _ n _ o _ mk;by_cases f:g l[i] l[j]<0
 .rw[Yk f];show (!decide (g l[j] l[k]<0)||decide (g l[i] l[k]<0))=true;by_cases d:g l[j] l[k]<0
  .rw[Yk<|q f d];simp
  .rw[YI d];rfl
 .rw[YI f];show (decide (g l[j] l[k]<0)||!decide (g l[i] l[k]<0))=true;by_cases d:g l[j] l[k]<0
  .rw[Yk d];rfl
  .rw[YI<|p f d];simp
theorem j6{α:Type}{F:Nat->α->α->Option Int}{g:α->α->Int}{l:List α}(q:∀x∈l,∀y∈l,aB (λn _=>F n x y) λr=>r=g x y)(o:Swo g l): aB (λn _=>qI (λx y=>F n x y) l) λr=>r.length=l.length/\∀x∈r,x∈l:=by
 let⟨K,e⟩:=aC4 (Q:=λn x=>∀y∈l,F n x y=some (g x y)) l λx b=>aC4 (Q:=λn y=>F n x y=some (g x y)) l λy h=>by
  obtain⟨r,rfl,K,e⟩:=q x b y h;exact⟨K,λn c=>e n n c c⟩
 cases l with
 | nil=>exact⟨[],⟨rfl,λx b=>b⟩,0,λ_ _ _ _=>rfl⟩
 | cons a l=>
  have k:∀n,K<=n->HO (λx y=>F n x y) (a::l)=some ((a::l).map λx=>(a::l).map<|g x):=λn c=>
   N2 (f:=λx=>AX<|(a::l).map λy=>F n x y) (g:=λx=>(a::l).map<|g x) (a::l) λx b=>N2 (a::l) λy h=>e n c x b y h
  have j:=o.tab;refine⟨(ixG l.length<|(a::l).map λx=>(a::l).map<|g x).map<|Ey a (a::l),⟨?_,?_⟩,K,λn m c s=>?_⟩
  .rw[ZR,aCl<|by simpa using j];rfl
  .intro x b;obtain⟨i,p,rfl⟩:=Yj.1 b;have:=aGr p;unfold Ey;rw[Za<|by simpa using this];exact ZQ _
  .have d:R2 (l.length+1) ((a::l).map λx=>(a::l).map<|g x)=true:=by simpa using j
   simp only[qI,k n c,d]
def AU(a b:Int): Int:=if a<b then -1 else if a > b then 1 else 0
theorem fL(a b:Int): aB (λn _=>cC n a b) λr=>r=AU a b:=by
 have d:∀a:Int,aB (λn _=>fJ n a) λr=>r=false:=λa=>aU (λ_=>rfl)<|aC (λh=>by simp at h) λ_=>aA rfl;refine aU (λ_=>rfl)<|aD (d a) λr c=>aC (λh=>by rw[c] at h;cases h) λ_=>aD (d b) λr c=>aC (λh=>by rw[c] at h;cases h) λ_=>aC (λh=>aA ?_) λe=>aC (λh=>aA ?_) λf=>aA ?_
 .unfold AU;rw[Zu<|Zh h]
 .unfold AU;rw[ZF<|Zi e,Zu<|Zh h]
 .unfold AU;rw[ZF<|Zi e,ZF<|Zi f]
theorem L4{a b:Int}: AU a b<0↔a<b:=by unfold AU;split<;>(try split)<;>omega
theorem aKv{α:Type}(k:α->Int)(l:List α): Swo (λx y=>AU (k x)<|k y) l where
 ir x _:=by rw[L4];omega
 tr x _ y _ z _:=by simp only[L4];omega
 ti x _ y _ z _:=by simp only[L4];omega
end Go.Proofs.YtmcgghedgfkjiaaGreatDoor.Av
