/- A part of the proof of a law. -/
import Derived.Test.YtabioopnpgiijaaGreatDoorP8
import Derived.Test.YtabioopnpgiijaaGreatDoorP7
set_option maxRecDepth 100000
set_option maxHeartbeats 4000000
set_option linter.all false
namespace Go.Proofs.YtabioopnpgiijaaGreatDoor.Av
open Go
section
variable {R:Type}(n:Nat)
noncomputable section
abbrev C70:=OY::C69
def Cz: Nat->aM->Int->Option Int
 | 0,_,_=>none
 | n+1,a,b=>bnd (Gs n a b) λc=>cnd c.2 (cd (b > 0) (some c.1.Left)<|some c.1.Right)<|some 0
def aAb: Kn:=bK 128 0x51c025 C70 [] [] Cz
abbrev C71:=aAb::C70
def fP: Nat->dP->Option (List<|List Int)
 | 0,_=>none
 | n+1,a=>bnd (app [a.outer] a.inner) λb=>some b
def Ma: Kn:=bK 129 0x44df98f74dae3507248c754 C71 [] [] fP
abbrev C72:=Ma::C71
def zG(n:Nat): ((List<|Int×Bool)×Int)->((Bool->Option R)×Unit)->Unit->Option R:=λ(a,b) (c,_) _=>cnd (b==0) (c true)<|cnd ((Option.getD (cK a b) false)) (c true)<|c false
def OV:=fK zG
def DM: Lc 105 0 1:=bJ 0x4f49fc8463e7f16f2997748fed9b896cdf36305f68d9de84b1a05ebfba71cc4757824201 C72 [] [] @zG
def oD: (aM×List Int×Int×List Int×Int)->(Int->Option R)->((Unit->Option R)×(Unit->Option R)×Unit)->Int->Option R:=λ(a,b,c,d,f) g (h,i,_) j=>cd (j<f) (bnd (idx d j) λl=>bnd (Cz n a l) λm=>cnd (m != c) (h ())<|g<|wr<|j+1)<|i ()
def OW:=wO oD
def DN: Lc 105 0 3:=bR 0x8aeaebf90cbc7644cb22b4a4d50beb4015f274e9b93c5a36e5e3d78f0e0e4f36bb05d5c3220a535387661095295d C72 [] [] @oD
def oE: (aM×List Int×Int×(List<|List Int)×Int)->(Int->Option R)->((Unit->Option R)×(Unit->Option R)×Unit)->Int->Option R:=λ(a,b,c,d,f) g (h,i,_) j=>cd (j<f) (bnd (idx d j) λl=>bnd2 (OW n (a,b,c,l,(ln l)) 0) (λ_=>h ()) λm=>bnd (some m) λ_=>g<|wr<|j+1)<|i ()
def Jc:=wO oE
def DO: Lc 105 0 2:=bR 0x7944b26723ac9088ef8285f7f48792c1c7e22b90a152874718c6e1b7f53e04791de2f1a762416cbeb8c6c80ed C72 [⟨0,[cs DN]⟩] [] @oE
def oF: (aM×List dP×Int)->((List Int×(List<|Int×Bool)×Int)->Option R)->(((List Int×(List<|Int×Bool)×dP)->Option R)×((List Int×(List<|Int×Bool))->Option R)×Unit)->(List Int×(List<|Int×Bool)×Int)->Option R:=λ(a,b,c) d (f,g,_) (h,i,j)=>cd (j<c) (bnd (idx b j) λl=>cd (j > 0) (bnd (idx l.outer 0) λm=>bnd (Cz n a m) λo=>bnd (OV n (i,o)) λr=>cnd r (f (h,i,l))<|bnd (fP n l) λs=>bnd2 (Jc n (a,h,o,s,(ln s)) 0) (λ_=>f (h,(kS i o true),l)) λt=>bnd (some t) λ_=>bnd (app h [o]) λu=>d (u,(kS i o true),(wr<|j+1)))<|bnd (fP n l) λv=>bnd2 (Jc n (a,h,0,v,(ln v)) 0) (λ_=>f (h,i,l)) λw=>bnd (some w) λ_=>bnd (app h [0]) λx=>d (x,i,(wr<|j+1)))<|g (h,i)
def OX:=wO oF
def DP: Lc 105 0 0:=bR 0x3c38b1c2cdafa2816c208300303423b5661b2252395e527c48f5e2bc6c421208e766835bcc27e9805cb91dbf5a6b018d89312ce44a608012d73124 C72 [⟨0,[cs DM]⟩,⟨1,[cs DO]⟩] [] @oF
def Hn: Nat->aM->(List dP)->Option (List Int×Bool)
 | 0,_,_=>none
 | n+1,a,b=>bnd2 (OX n (a,b,(ln b)) ([],[],0)) (λ_=>some ([],false)) λc=>bnd (some c) λd=>cnd ((ln d.2)==(ln a.Faces)) (some (d.1,true))<|some (d.1,false)
def ST: Kn:=bK 105 0x5d532f6b3444ce7716d26d4dd300f C72 [⟨0,[DP]⟩] [] Hn
abbrev C73:=ST::C72
def zF: Nat->aM->Option (List dP×List Int×(List<|Int×List Aaa)×Int)
 | 0,_=>none
 | n+1,a=>bnd (zB n a) λb=>cnd (b.2 != 0) (some ([],[],[],b.2))<|bnd (oC n a) λc=>bnd (iU n a b.1 c) λd=>bnd (Hn n a d) λf=>cnd f.2 (some (d,f.1,c,0))<|some ([],[],[],12)
def v7: Kn:=bK 75 0x3938b49253c8eca9a C73 [] [] zF
abbrev C74:=v7::C73
def Hp: Nat->aM->Option Int
 | 0,_=>none
 | n+1,a=>bnd (zF n a) λb=>some b.2.2.2
def SV: Kn:=bK 43 0x2e4c72 C74 [] [] Hp
abbrev C75:=SV::C74
def LM: Nat->aI->Option Bool
 | 0,_=>none
 | n+1,a=>cd ((ln a.Parts) > 64) (some true)<|some false
def Vo: Kn:=bK 44 0x94a C75 [] [] LM
abbrev C76:=Vo::C75
def jH(n:Nat): aI->((Bool->Option R)×Unit)->Unit->Option R:=λa (b,_) _=>cd (a.ID<1) (b true)<|cd (a.ID > 1073741824) (b true)<|cd (a.Class<1) (b true)<|cd (a.Class > 9) (b true)<|b false
def lR:=fK jH
def Kv: Lc 46 0 0:=bJ 0x4714ffd21 C76 [] [] @jH
def LL: Nat->aI->Option Bool
 | 0,_=>none
 | n+1,a=>bnd (lR n a) λb=>cnd b (some true)<|some false
def Vn: Kn:=bK 46 0x94a C76 [⟨0,[Kv]⟩] [] LL
abbrev C77:=Vn::C76
def LK: Nat->aI->Option Bool
 | 0,_=>none
 | n+1,a=>bnd (dD n a.Kind) λb=>cnd (b==0) (some true)<|some false
def Vm: Kn:=bK 47 0x94a C77 [] [] LK
abbrev C78:=Vm::C77
def jG: aI->((Bool->Option R)×Unit)->Unit->Option R:=λa (b,_) _=>cd (a.Name=(⟨#[]⟩:ByteArray)) (b false)<|bnd (wM n a.Name) λc=>cnd (c != 0) (b true)<|b false
def lQ:=fK jG
def Ku: Lc 48 0 0:=bJ 0x4714ffd21 C78 [] [] @jG
def LJ: Nat->aI->Option Bool
 | 0,_=>none
 | n+1,a=>bnd (lQ n a) λb=>cnd b (some true)<|some false
def Vl: Kn:=bK 48 0x94a C78 [⟨0,[Ku]⟩] [] LJ
abbrev C79:=Vl::C78
def jF: aI->((Bool->Option R)×Unit)->Unit->Option R:=λa (b,_) _=>cnd ((ln a.Parts)==0) (b true)<|bnd (dD n a.Kind) λc=>cnd (c==1) (cd ((ln a.Parts) > 1) (b true)<|b false)<|b false
def lP:=fK jF
def Kt: Lc 49 0 0:=bJ 0x4714ffd21 C79 [] [] @jF
def LH: Nat->aI->Option Bool
 | 0,_=>none
 | n+1,a=>bnd (lP n a) λb=>cnd b (some true)<|some false
def Vk: Kn:=bK 49 0x94a C79 [⟨0,[Kt]⟩] [] LH
abbrev C80:=Vk::C79
def kW: Nat->(List Int)->Int->Option Bool
 | 0,_,_=>none
 | n+1,a,b=>bnd (cX n a b) λc=>cnd c (some true)<|some false
def aBi: Kn:=bK 89 0x748636 C80 [] [] kW
abbrev C81:=aBi::C80
def kH: (aM×aI×Int)->((Bool->Option R)×Unit)->Unit->Option R:=λ(a,b,c) (d,_) _=>bnd (dD n b.Kind) λf=>cnd (f==1) (bnd (fJ n a c) λg=>cnd g.2 (d false)<|d true)<|cnd (f==2) (bnd (oO n a c) λh=>cnd h.2 (d false)<|d true)<|cnd (f==3) (bnd (kW n a.Faces c) λi=>cnd i (d false)<|d true)<|d true
def wZ:=zP kH
def Np: Ic:=cR 106 2 3 0x690c2f1bcac249814420429ba2 C81 [] [] @kH
def gH: (aM×aI×List Int×Int)->(Int->Option R)->((Int->Option R)×(Unit->Option R)×Unit)->Int->Option R:=λ(a,b,c,d) f (g,h,_) i=>cd (i<d) (bnd (idx c i) λj=>bnd (wZ n (a,b,j)) λl=>cnd l (g i)<|f<|wr<|i+1)<|h ()
def Vg:=wO gH
def Nn: Lc 98 0 0:=bR 0x2cdd13dc1b2872d661b64a2abc3c2497673ef5c16dbe99b9ea3c C81 [] [Np] @gH
def kI: (aM×aI×List Int)->((Int->Option R)×Unit)->Unit->Option R:=λ(a,b,c) (d,_) _=>bnd2 (Vg n (a,b,c,(ln c)) 0) (λf=>d f) λg=>bnd (some g) λ_=>d (-1)
def xA:=zP kI
def Nq: Ic:=cR 98 0 2 0x8c625d72d4129fdb247d874fffda6b9fab4ab2a3 C81 [⟨0,[Nn]⟩] [] @kI
def kJ: (aM×aI×List Int)->((Bool->Option R)×Unit)->Unit->Option R:=λ(a,b,c) (d,_) _=>bnd (xA n (a,b,c)) λf=>cd (f>=0) (d true)<|d false
def mW:=zP kJ
def Nr: Ic:=cR 73 0 2 0x237618b2eb74f008b249a6fad0a434ab2a3 C81 [] [Nq] @kJ
def PQ: Nat->aM->aI->Option Bool
 | 0,_,_=>none
 | n+1,a,b=>bnd (mW n (a,b,b.Parts)) λc=>cnd c (some true)<|some false
def FF: Kn:=bK 77 0x273038a8d C81 [] [Nr] PQ
abbrev yV:=FF::C81
def xI(n:Nat): aJ->((Unit->Option R)×Unit)->Unit->Option R:=λa (b,_) _=>b ()
def Eo:=zP xI
def Vx: Ic:=cR 45 0 1 0x1218f79b6e06dd6445cea7eea6d28caeefa yV [] [] @xI
def xH(n:Nat): Unit->((((List<|Aac×Bool))->Option R)×Unit)->Unit->Option R:=λ_ (a,_) _=>a []
def Em:=zP xH
def Vw: Ic:=cR 51 0 0 0xa6060aef4d636a288dc918cf60df2a1ca6854f32aad yV [] [] @xH
def xC: aI->((Unit->Option R)×(Int->Option R)×Unit)->Unit->Option R:=λa (b,c,_) _=>bnd (dD n a.Kind) λd=>cnd (d==2) (b ())<|cnd (d==3) (c a.Kind)<|c 0
def Eh:=pc2 xC
def Vp: Lc 78 0 0:=bJ 0x4c2e473c3cf7b370f674c83b658d4c69928cb39cc7890972eefe yV [] [] @xC
def mY(n:Nat): (Int×List Int×Int)->(((List<|Aac×Bool)×Int)->Option R)->((((List<|Aac×Bool)×Int)->Option R)×(((List<|Aac×Bool))->Option R)×Unit)->((List<|Aac×Bool)×Int)->Option R:=λ(a,b,c) d (f,g,_) (h,i)=>cd (i<c) (bnd (idx b i) λj=>cnd ((Option.getD (cK h<|Aac.mk a j) false)) (f (h,j))<|d ((kS h (Aac.mk a j) true),(wr<|i+1)))<|g h
def LN:=wO mY
def Vq: Lc 78 0 1:=bR 0x85a31d5ae7d1c610bfd1f34f8282486a03042b55c4cdbca2c706badd72907ee9fdde36769b089b5538e170 yV [] [] @mY
def xE: ((List<|Aac×Bool)×aI)->((((List<|Aac×Bool))->Option R)×(((List<|Aac×Bool)×Int×Int)->Option R)×Unit)->Unit->Option R:=λ(a,b) (c,d,_) _=>bnd2 (Eh n b) (λ_=>c a) λf=>bnd (some f) λg=>bnd2 (LN n (g,b.Parts,(ln b.Parts)) (a,0)) (λh=>d (h.1,g,h.2)) λi=>bnd (some i) λj=>c j
def Ej:=IA xE
def Vt: Ic:=cR 78 0 2 0x3a03a5b069668e39be9056d70b2f7a52d3c0b03a0673f48809a3f2ac21bc037ce03cc yV [⟨0,[Vp]⟩,⟨1,[Vq]⟩] [] @xE
def mZ: (List aI×Int)->(((List<|Aac×Bool)×Int)->Option R)->((((List<|Aac×Bool)×aI×Int×Int×Int)->Option R)×(((List<|Aac×Bool))->Option R)×Unit)->((List<|Aac×Bool)×Int)->Option R:=λ(a,b) c (d,f,_) (g,h)=>cd (h<b) (bnd (idx a h) λi=>bnd2 (Ej n (g,i)) (λj=>c (j,(wr<|h+1))) λl=>bnd (some l) λm=>d (m.1,i,m.2.1,m.2.2,h))<|f g
def LO:=wO mZ
def Vr: Lc 79 0 0:=bR 0x1f3bb62706ad12659b4952d5579fa93679f580e54c58648dcd48c78 yV [] [Vt] @mZ
def xF: ((List<|Aac×Bool)×List aI)->((((List<|Aac×Bool)×Int×Int×Int×ByteArray×List Int×Int×Int×Int)->Option R)×(((List<|Aac×Bool))->Option R)×Unit)->Unit->Option R:=λ(a,b) (c,d,_) _=>bnd2 (LO n (b,(ln b)) (a,0)) (λf=>c (f.1,f.2.1.ID,f.2.1.Kind,f.2.1.Class,f.2.1.Name,f.2.1.Parts,f.2.2.1,f.2.2.2.1,f.2.2.2.2)) λg=>bnd (some g) λh=>d h
def Ek:=IA xF
def Vu: Ic:=cR 79 0 2 0xf6bada9d585bdc5a095e167d278da9775d0fa8529e0ef4936024d5fcc yV [⟨0,[Vr]⟩] [] @xF
def xG: ((List<|Aac×Bool)×List aI)->((((List<|Aac×Bool)×Int×Int×Int×ByteArray×List Int×Int×Int×Bool)->Option R)×(((List<|Aac×Bool))->Option R)×Unit)->Unit->Option R:=λ(a,b) (c,d,_) _=>bnd2 (Ek n (a,b)) (λf=>cd (f.2.2.2.2.2.2.2.2>=0) (c (f.1,f.2.1,f.2.2.1,f.2.2.2.1,f.2.2.2.2.1,f.2.2.2.2.2.1,f.2.2.2.2.2.2.1,f.2.2.2.2.2.2.2.1,true))<|c (f.1,f.2.1,f.2.2.1,f.2.2.2.1,f.2.2.2.2.1,f.2.2.2.2.2.1,f.2.2.2.2.2.2.1,f.2.2.2.2.2.2.2.1,false)) λg=>bnd (some g) λh=>d h
def El:=IA xG
def Vv: Ic:=cR 52 0 2 0xf6ce95aaa5ba54523063c10fc4a828ddabcc9fef385219af3664d5fcc yV [] [Vu] @xG
def Rv: Ic:=cR 106 10 3 0x4923b90b44a21c483d73d88913448 yV [] [] @kH
def Ra: Lc 98 0 0:=bR 0x2cdd14329f4455bf3ee0e0a03bbf690c80d485413f0f04fd196c yV [] [Rv] @gH
def Rw: Ic:=cR 98 0 2 0xc99e274565661935b79f3536e9ff74a65c5d0 yV [⟨0,[Ra]⟩] [] @kI
def Rx: Ic:=cR 73 0 2 0x23759b3fa8026ab4a1753044d36ade5c5d0 yV [] [Rw] @kJ
def uI: (aM×aI)->((Bool->Option R)×Unit)->Unit->Option R:=λ(a,b) (c,_) _=>bnd (mW n (a,b,b.Parts)) λd=>cnd d (c true)<|c false
def An:=zP uI
def Ry: Ic:=cR 77 0 2 0x96dc11ee6262d538da1be30 yV [] [Rx] @uI
def uJ: (aJ×aI)->(((aM×Bool)->Option R)×Unit)->Unit->Option R:=λ(a,b) (c,_) _=>bnd (An n (a.Plan,b)) λd=>cnd d (c (a.Plan,true))<|c (a.Plan,false)
def Ao:=zP uJ
def Rz: Ic:=cR 50 0 2 0xeec8c821f3d89cefd14957281eee022e655df5d4 yV [] [Ry] @uJ
def lY: (aJ×List aI×Int)->(Int->Option R)->(((aI×aM×aI×Int)->Option R)×(Unit->Option R)×Unit)->Int->Option R:=λ(a,b,c) d (f,g,_) h=>cd (h<c) (bnd (idx b h) λi=>bnd (Ao n (a,i)) λj=>cnd j.2 (f (i,j.1,i,h))<|d<|wr<|h+1)<|g ()
def FN:=wO lY
def Rb: Lc 79 0 0:=bR 0x137dcb88da3e831df614e092d234a0d471a6c825743a19721a30bb588c yV [] [Rz] @lY
def uK: (aJ×List aI)->(((aI×aM×aI×Int)->Option R)×(Unit->Option R)×Unit)->Unit->Option R:=λ(a,b) (c,d,_) _=>bnd2 (FN n (a,b,(ln b)) 0) (λf=>c (f.1,f.2.1,f.2.2.1,f.2.2.2)) λg=>bnd (some g) λ_=>d ()
def Ap:=IA uK
def Sa: Ic:=cR 79 0 2 0x5349cb1cb1b804198555f3dd313e438eaaf129b8d5dc5c9145f21bb93e7349c2d4 yV [⟨0,[Rb]⟩] [] @uK
def xD: (aJ×List aI)->(((aI×aM×aI×Bool)->Option R)×(Unit->Option R)×Unit)->Unit->Option R:=λ(a,b) (c,d,_) _=>bnd2 (Ap n (a,b)) (λf=>cd (f.2.2.2>=0) (c (f.1,f.2.1,f.2.2.1,true))<|c (f.1,f.2.1,f.2.2.1,false)) λg=>bnd (some g) λ_=>d ()
def Ei:=IA xD
def Vs: Ic:=cR 52 0 2 0x2dbfd52f657e586cdceb4fa87cd4c2f55485039683d5a5512b8f49c2d4 yV [] [Sa] @xD
def Qq: Lc 49 0 0:=bJ 0x1132d95d9e865479d2 yV [] [] @jF
def uF: aI->((Bool->Option R)×Unit)->Unit->Option R:=λa (b,_) _=>bnd (lP n a) λc=>cnd c (b true)<|b false
def Ak:=zP uF
def Rs: Ic:=cR 49 0 1 0x95b yV [⟨0,[Qq]⟩] [] @uF
def lX: (List aI×Int)->(Int->Option R)->(((aI×Int)->Option R)×(Unit->Option R)×Unit)->Int->Option R:=λ(a,b) c (d,f,_) g=>cd (g<b) (bnd (idx a g) λh=>bnd (Ak n h) λi=>cnd i (d (h,g))<|c<|wr<|g+1)<|f ()
def FM:=wO lX
def Qz: Lc 79 0 0:=bR 0x487b1b8b4 yV [] [Rs] @lX
def uG: (List aI)->(((aI×Int)->Option R)×(Unit->Option R)×Unit)->Unit->Option R:=λa (b,c,_) _=>bnd2 (FM n (a,(ln a)) 0) (λd=>b (d.1,d.2)) λf=>bnd (some f) λ_=>c ()
def Al:=IA uG
def Rt: Ic:=cR 79 0 2 0x485c14156 yV [⟨0,[Qz]⟩] [] @uG
def uH: (List aI)->(((aI×Bool)->Option R)×(Unit->Option R)×Unit)->Unit->Option R:=λa (b,c,_) _=>bnd2 (Al n a) (λd=>cd (d.2>=0) (b (d.1,true))<|b (d.1,false)) λf=>bnd (some f) λ_=>c ()
def Am:=IA uH
def Ru: Ic:=cR 52 0 2 0x4863d5e66 yV [] [Rt] @uH
def Qn: Lc 48 0 0:=bJ 0x1132d95d9e865479d2 yV [] [] @jG
def uC: aI->((Bool->Option R)×Unit)->Unit->Option R:=λa (b,_) _=>bnd (lQ n a) λc=>cnd c (b true)<|b false
def Ah:=zP uC
def Rp: Ic:=cR 48 0 1 0x95b yV [⟨0,[Qn]⟩] [] @uC
def lW: (List aI×Int)->(Int->Option R)->(((aI×Int)->Option R)×(Unit->Option R)×Unit)->Int->Option R:=λ(a,b) c (d,f,_) g=>cd (g<b) (bnd (idx a g) λh=>bnd (Ah n h) λi=>cnd i (d (h,g))<|c<|wr<|g+1)<|f ()
def FL:=wO lW
def Qy: Lc 79 0 0:=bR 0x487b1ad90 yV [] [Rp] @lW
def uD: (List aI)->(((aI×Int)->Option R)×(Unit->Option R)×Unit)->Unit->Option R:=λa (b,c,_) _=>bnd2 (FL n (a,(ln a)) 0) (λd=>b (d.1,d.2)) λf=>bnd (some f) λ_=>c ()
def Ai:=IA uD
def Rq: Ic:=cR 79 0 2 0x485c13632 yV [⟨0,[Qy]⟩] [] @uD
def uE: (List aI)->(((aI×Bool)->Option R)×(Unit->Option R)×Unit)->Unit->Option R:=λa (b,c,_) _=>bnd2 (Ai n a) (λd=>cd (d.2>=0) (b (d.1,true))<|b (d.1,false)) λf=>bnd (some f) λ_=>c ()
def Aj:=IA uE
def Rr: Ic:=cR 52 0 2 0x4863d5342 yV [] [Rq] @uE
def tZ: aI->((Bool->Option R)×Unit)->Unit->Option R:=λa (b,_) _=>bnd (dD n a.Kind) λc=>cnd (c==0) (b true)<|b false
def Ae:=zP tZ
def Rm: Ic:=cR 47 0 1 0x95b yV [] [] @tZ
def lV: (List aI×Int)->(Int->Option R)->(((aI×Int)->Option R)×(Unit->Option R)×Unit)->Int->Option R:=λ(a,b) c (d,f,_) g=>cd (g<b) (bnd (idx a g) λh=>bnd (Ae n h) λi=>cnd i (d (h,g))<|c<|wr<|g+1)<|f ()
def FK:=wO lV
def Qx: Lc 79 0 0:=bR 0x487b1a26c yV [] [Rm] @lV
def uA: (List aI)->(((aI×Int)->Option R)×(Unit->Option R)×Unit)->Unit->Option R:=λa (b,c,_) _=>bnd2 (FK n (a,(ln a)) 0) (λd=>b (d.1,d.2)) λf=>bnd (some f) λ_=>c ()
def Af:=IA uA
def Rn: Ic:=cR 79 0 2 0x485c12b0e yV [⟨0,[Qx]⟩] [] @uA
def uB: (List aI)->(((aI×Bool)->Option R)×(Unit->Option R)×Unit)->Unit->Option R:=λa (b,c,_) _=>bnd2 (Af n a) (λd=>cd (d.2>=0) (b (d.1,true))<|b (d.1,false)) λf=>bnd (some f) λ_=>c ()
def Ag:=IA uB
def Ro: Ic:=cR 52 0 2 0x4863d481e yV [] [Rn] @uB
def Qk: Lc 46 0 0:=bJ 0x1132d95d9e865479d2 yV [] [] @jH
def tW: aI->((Bool->Option R)×Unit)->Unit->Option R:=λa (b,_) _=>bnd (lR n a) λc=>cnd c (b true)<|b false
def Aa:=zP tW
def Ri: Ic:=cR 46 0 1 0x95b yV [⟨0,[Qk]⟩] [] @tW
def lU: (List aI×Int)->(Int->Option R)->(((aI×Int)->Option R)×(Unit->Option R)×Unit)->Int->Option R:=λ(a,b) c (d,f,_) g=>cd (g<b) (bnd (idx a g) λh=>bnd (Aa n h) λi=>cnd i (d (h,g))<|c<|wr<|g+1)<|f ()
def FJ:=wO lU
def Qw: Lc 79 0 0:=bR 0x487b19748 yV [] [Ri] @lU
def tX: (List aI)->(((aI×Int)->Option R)×(Unit->Option R)×Unit)->Unit->Option R:=λa (b,c,_) _=>bnd2 (FJ n (a,(ln a)) 0) (λd=>b (d.1,d.2)) λf=>bnd (some f) λ_=>c ()
def Ab:=IA tX
def Rk: Ic:=cR 79 0 2 0x485c11fea yV [⟨0,[Qw]⟩] [] @tX
def tY: (List aI)->(((aI×Bool)->Option R)×(Unit->Option R)×Unit)->Unit->Option R:=λa (b,c,_) _=>bnd2 (Ab n a) (λd=>cd (d.2>=0) (b (d.1,true))<|b (d.1,false)) λf=>bnd (some f) λ_=>c ()
def Ac:=IA tY
def Rl: Ic:=cR 52 0 2 0x4863d3cfa yV [] [Rk] @tY
def tP: (aJ×Int×aI)->((Bool->Option R)×Unit)->Unit->Option R:=λ(a,b,c) (d,_) _=>cd (b > 1) (bnd (idx a.Features<|wr<|b-2) λf=>cd (f.ID>=c.ID) (d true)<|bnd (sN n c.Parts) λg=>cnd g (d false)<|d true)<|bnd (sN n c.Parts) λh=>cnd h (d false)<|d true
def zU:=fK tP
def Qj: Lc 76 0 0:=bJ 0xcef02ee5714692cae69a3d47392342181628b052e71 yV [] [] @tP
def tT: (aJ×Int×aI)->(((Int×Bool)->Option R)×Unit)->Unit->Option R:=λ(a,b,c) (d,_) _=>bnd (zU n (a,(wr<|b+1),c)) λf=>cnd f (d ((wr<|b+1),true))<|d ((wr<|b+1),false)
def zX:=zP tT
def Rf: Ic:=cR 76 0 3 0x156eae51ccc04a6d9891786b24cf87de6a0261 yV [⟨0,[Qj]⟩] [] @tT
def lT: (aJ×List aI×Int)->((Int×Int)->Option R)->(((Int×aI×Int)->Option R)×(Int->Option R)×Unit)->(Int×Int)->Option R:=λ(a,b,c) d (f,g,_) (h,i)=>cd (i<c) (bnd (idx b i) λj=>bnd (zX n (a,h,j)) λl=>cnd l.2 (f (l.1,j,i))<|d (l.1,(wr<|i+1)))<|g h
def FI:=wO lT
def Qv: Lc 79 0 0:=bR 0xa8b246e8a40b9bfcad5a28ab78abcc280eb0f468537add9fcac8eec2fa06871 yV [] [Rf] @lT
def tU: (aJ×Int×List aI)->(((Int×aI×Int)->Option R)×(Int->Option R)×Unit)->Unit->Option R:=λ(a,b,c) (d,f,_) _=>bnd2 (FI n (a,c,(ln c)) (b,0)) (λg=>d (g.1,g.2.1,g.2.2)) λh=>bnd (some h) λi=>f i
def zY:=IA tU
def Rg: Ic:=cR 79 0 2 0x419b22446b8ba2b988042d0354494d58cdfc5ca065a735 yV [⟨0,[Qv]⟩] [] @tU
def tV: (aJ×Int×List aI)->(((Int×aI×Bool)->Option R)×(Int->Option R)×Unit)->Unit->Option R:=λ(a,b,c) (d,f,_) _=>bnd2 (zY n (a,b,c)) (λg=>cd (g.2.2>=0) (d (g.1,g.2.1,true))<|d (g.1,g.2.1,false)) λh=>bnd (some h) λi=>f i
def zZ:=IA tV
def Rh: Ic:=cR 52 0 2 0x5e4073c28fcfec8af5a45c142551528c66c3969a735 yV [] [Rg] @tV
def tQ(n:Nat): aI->((Bool->Option R)×Unit)->Unit->Option R:=λa (b,_) _=>cd ((ln a.Parts) > 64) (b true)<|b false
def oV:=zP tQ
def Rc: Ic:=cR 44 0 1 0x95b yV [] [] @tQ
def lS: (List aI×Int)->(Int->Option R)->(((aI×Int)->Option R)×(Unit->Option R)×Unit)->Int->Option R:=λ(a,b) c (d,f,_) g=>cd (g<b) (bnd (idx a g) λh=>bnd (oV n h) λi=>cnd i (d (h,g))<|c<|wr<|g+1)<|f ()
def FH:=wO lS
def Qu: Lc 79 0 0:=bR 0x487b18100 yV [] [Rc] @lS
def tR: (List aI)->(((aI×Int)->Option R)×(Unit->Option R)×Unit)->Unit->Option R:=λa (b,c,_) _=>bnd2 (FH n (a,(ln a)) 0) (λd=>b (d.1,d.2)) λf=>bnd (some f) λ_=>c ()
def zV:=IA tR
def Rd: Ic:=cR 79 0 2 0x485c109a2 yV [⟨0,[Qu]⟩] [] @tR
def tS: (List aI)->(((aI×Bool)->Option R)×(Unit->Option R)×Unit)->Unit->Option R:=λa (b,c,_) _=>bnd2 (zV n a) (λd=>cd (d.2>=0) (b (d.1,true))<|b (d.1,false)) λf=>bnd (some f) λ_=>c ()
def zW:=IA tS
def Re: Ic:=cR 52 0 2 0x4863d26b2 yV [] [Rd] @tS
def eN: Nat->aJ->Option Int
 | 0,_=>none
 | n+1,a=>bnd (Hp n a.Plan) λb=>cnd (b != 0) (some b)<|cd ((ln a.Features) > 128) (some 3)<|bnd (Eo n a) λ_=>bnd (Em n ()) λc=>bnd (Ks<|Nat.ble 9 n) λ_=>(let d:=(let f:=λ(g:Int)=>(let h:=(let i:=(let j:=(let l:=(let m:=(let o:=λ(r:(List<|Aac×Bool))=>some 0;(bnd2 (El n (c,a.Features)) (λs=>cnd s.2.2.2.2.2.2.2.2 (some 13)<|o s.1) λt=>bnd (some t) λu=>o u));(bnd2 (Ei n (a,a.Features)) (λv=>cnd v.2.2.2 (some 7) m) λw=>bnd (some w) λ_=>m));(bnd2 (Am n a.Features) (λx=>cnd x.2 (some 1) l) λy=>bnd (some y) λ_=>l));(bnd2 (Aj n a.Features) (λz=>cnd z.2 (some 14) j) λa0=>bnd (some a0) λ_=>j));(bnd2 (Ag n a.Features) (λb0=>cnd b0.2 (some 9) i) λc0=>bnd (some c0) λ_=>i));(bnd2 (Ac n a.Features) (λd0=>cnd d0.2 (some 2) h) λf0=>bnd (some f0) λ_=>h));(bnd2 (zZ n (a,0,a.Features)) (λg0=>cnd g0.2.2 (some 10)<|f g0.1) λh0=>bnd (some h0) λi0=>f i0));(bnd2 (zW n a.Features) (λj0=>cnd j0.2 (some 3) d) λl0=>bnd (some l0) λ_=>d))
def PU: Kn:=bK 17 0xf9efee8f7efed4 yV [] [Vx,Vw,Vv,Vs,Ru,Rr,Ro,Rl,Rh,Re] eN
abbrev C83:=PU::yV
def XW: Nat->Aab->Int->Option Int
 | 0,_,_=>none
 | n+1,a,b=>bnd (cY n a.ID b) λc=>some c
def MM: Kn:=bK 108 0x51bfdb C83 [] [] XW
abbrev C84:=MM::C83
def Fz: (Aab×Int)->((Int->Option R)×Unit)->Unit->Option R:=λ(a,b) (c,_) _=>bnd (cY n a.ID b) λd=>c d
def oY:=zP Fz
def Fy: Ic:=cR 108 0 2 0x6ea442b7290069ce9e13 C84 [] [] @Fz
def rJ: (List Aab×Int)->((Int×Int)->Option R)->((Int->Option R)×Unit)->(Int×Int)->Option R:=λ(a,b) c (d,_) (f,g)=>cd (f<g) (bnd (idx a<|wr<|Int.fdiv (IntKind.u64.wrap<|wr<|f+g) 2) λh=>bnd (oY n (h,b)) λi=>cd (i<0) (c ((wr<|(wr<|Int.fdiv (IntKind.u64.wrap<|wr<|f+g) 2)+1),g))<|c (f,(wr<|Int.fdiv (IntKind.u64.wrap<|wr<|f+g) 2)))<|d f
def a7:=pM rJ
def MN: Lc 107 0 0:=bR 0x1353a95f51eee417ed2a6bd27e6cadc214e2cafcdc76b51ba C84 [] [Fy] @rJ
def Ga: (List Aab×Int)->(((Aab×Int×Bool)->Option R)×(Int->Option R)×Unit)->Unit->Option R:=λ(a,b) (c,d,_) _=>bnd (a7 n (a,b) (0,(ln a))) λf=>cd (f<(ln a)) (bnd (idx a f) λg=>bnd (oY n (g,b)) λh=>cnd (h==0) (c (g,f,true))<|c (g,f,false))<|d f
def Nx:=IA Ga
def MO: Ic:=cR 107 0 3 0x1179069c05c1bda65f794a223cc9ba306760ee22505e C84 [⟨0,[MN]⟩] [Fy] @Ga
def nT: Nat->aJ->Int->Option (Int×Bool)
 | 0,_,_=>none
 | n+1,a,b=>bnd2 (Nx n (a.Plan.Nodes,b)) (λc=>cnd c.2.2 (some (c.2.1,true))<|some (c.2.1,false)) λd=>bnd (some d) λf=>some (f,false)
def A2: Kn:=bK 80 0x75ca57 C84 [] [MO] nT
abbrev C85:=A2::C84
def xB: (aI×Int×Int)->((Bool->Option R)×Unit)->Unit->Option R:=λ(a,b,c) (d,_) _=>bnd (dD n a.Kind) λf=>cnd (f==b) (bnd (cX n a.Parts c) λg=>cnd g (d true)<|d false)<|d false
def Eg:=fK xB
def Vi: Lc 83 0 1:=bJ 0x11af33d5ec5cdb3a69d88f76e3620865b937a9cafe3de561f46dc334af036 C85 [] [] @xB
def mX: (Int×Int×List aI×Int)->((List Int×Int)->Option R)->(((List Int)->Option R)×Unit)->(List Int×Int)->Option R:=λ(a,b,c,d) f (g,_) (h,i)=>cd (i<d) (bnd (idx c i) λj=>bnd (Eg n (j,a,b)) λl=>cnd l (bnd (app h [j.ID]) λm=>f (m,(wr<|i+1)))<|f (h,(wr<|i+1)))<|g h
def LG:=pM mX
def Vj: Lc 83 0 0:=bR 0x2a447223951e4dcde946b25ebc75408aa070b0a243c1b7466fcecdb C85 [⟨0,[cs Vi]⟩] [] @mX
def iY: Nat->aJ->Int->Int->Option (List Int)
 | 0,_,_,_=>none
 | n+1,a,b,c=>cd (b<1) (some [])<|cd (b > 3) (some [])<|bnd (LG n (b,c,a.Features,(ln a.Features)) ([],0)) λd=>some d
def PR: Kn:=bK 83 0xc289611d3036d4615037 C85 [⟨0,[Vj]⟩] [] iY
abbrev C86:=PR::C85
def A6: Nat->aR->Int->Option Int
 | 0,_,_=>none
 | n+1,a,b=>bnd (cY n a.ID b) λc=>some c
def QI: Kn:=bK 117 0x38e7d4cbc C86 [] [] A6
abbrev C87:=QI::C86
def Jz: (aR×Int)->((Int->Option R)×Unit)->Unit->Option R:=λ(a,b) (c,_) _=>bnd (cY n a.ID b) λd=>c d
def mK:=zP Jz
def Jy: Ic:=cR 117 0 2 0x6ea442b72900fe295b33 C87 [] [] @Jz
def tH: (List aR×Int)->((Int×Int)->Option R)->((Int->Option R)×Unit)->(Int×Int)->Option R:=λ(a,b) c (d,_) (f,g)=>cd (f<g) (bnd (idx a<|wr<|Int.fdiv (IntKind.u64.wrap<|wr<|f+g) 2) λh=>bnd (mK n (h,b)) λi=>cd (i<0) (c ((wr<|(wr<|Int.fdiv (IntKind.u64.wrap<|wr<|f+g) 2)+1),g))<|c (f,(wr<|Int.fdiv (IntKind.u64.wrap<|wr<|f+g) 2)))<|d f
def A7:=pM tH
def QJ: Lc 116 0 0:=bR 0x1353a95f51eee4181822cd79c855b1c5939d07982915917ca C87 [] [Jy] @tH
def Ka: (List aR×Int)->(((aR×Int×Bool)->Option R)×(Int->Option R)×Unit)->Unit->Option R:=λ(a,b) (c,d,_) _=>bnd (A7 n (a,b) (0,(ln a))) λf=>cd (f<(ln a)) (bnd (idx a f) λg=>bnd (mK n (g,b)) λh=>cnd (h==0) (c (g,f,true))<|c (g,f,false))<|d f
def Ct:=IA Ka
def QK: Ic:=cR 116 0 3 0x191817dab1050374e8664a0e5dd339e0f79ba166e C87 [⟨0,[QJ]⟩] [Jy] @Ka
def rP: Nat->aJ->Int->Option (Int×Bool)
 | 0,_,_=>none
 | n+1,a,b=>bnd2 (Ct n (a.Plan.Arcs,b)) (λc=>cnd c.2.2 (some (c.2.1,true))<|some (c.2.1,false)) λd=>bnd (some d) λf=>some (f,false)
def R6: Kn:=bK 86 0x75ca57 C87 [] [QK] rP
abbrev C88:=R6::C87
def aLJ: Kn:=aOp 163 0 10 ⟨_,_,_,rfl,by decide,by decide⟩ (λn p=>clF n p) (λp=>p) λn p r h=>by obtain⟨m,h1,h2,h3⟩:=aOr h;subst h2;exact⟨m,h1,rfl,h3,rfl,λe=>by cases (e:_=[]);rfl⟩
abbrev C89:=aLJ::C88
def kQ: (List Int×List Aab×List aR×Int)->((List aR×Int)->Option R)->(((List aR)->Option R)×Unit)->(List aR×Int)->Option R:=λ(a,b,c,d) f (g,_) (h,i)=>cd (i<d) (bnd (idx c i) λj=>bnd (clF n j.Via) λl=>bnd (app h [(aR.mk j.ID j.From j.To l 0 0)]) λm=>f (m,(wr<|i+1)))<|g h
def Lz:=pM kQ
def JG: Lc 137 0 0:=bR 0x35a9178b17c06ad1cbb122f7f54b9884343ffbb352bd91f52770f40d9bc1ea043c6c3db5213 C89 [] [] @kQ
def aA0: Nat->aM->Option aM
 | 0,_=>none
 | n+1,a=>bnd (clF n a.Nodes) λb=>bnd (Lz n ([],b,a.Arcs,(ln a.Arcs)) ([],0)) λc=>some<|aM.mk b c []
def v9: Kn:=bK 137 0x44df6d570e30084bf04815a C89 [⟨0,[JG]⟩] [] aA0
abbrev C90:=v9::C89
def Jb(n:Nat): (Int×Int)->((Bool->Option R)×Unit)->Unit->Option R:=λ(a,b) (c,_) _=>cd ((iP b<|wr<|0-b)<(iP a<|wr<|0-a)) (c true)<|cnd (b==(wr<|0-a)) (cd (b > 0) (c true)<|c false)<|c false
def v8:=fK Jb
def OT: Lc 164 0 1:=bJ 0x1c8a878269c6f61c103cbecf0788f6d8 C90 [] [] @Jb
def sW: (List Int×Int)->((Int×Int)->Option R)->((Int->Option R)×Unit)->(Int×Int)->Option R:=λ(a,b) c (d,_) (f,g)=>cd (g<b) (bnd (idx a g) λh=>bnd (v8 n (f,h)) λi=>cnd i (c (h,(wr<|g+1)))<|c (f,(wr<|g+1)))<|d f
def Tb:=pM sW
def OU: Lc 164 0 0:=bR 0x2553ddef78e073cc8ed0246a93f5f C90 [⟨0,[cs OT]⟩] [] @sW
def mP: Nat->(List Int)->Option Int
 | 0,_=>none
 | n+1,a=>bnd (idx a 0) λb=>bnd (Tb n (a,(ln a)) (b,0)) λc=>some c
def L5: Kn:=bK 164 0x2e4b0d C90 [⟨0,[OU]⟩] [] mP
abbrev C91:=L5::C90
def tI(n:Nat): (List Int×Int)->(Int->Option R)->((Int->Option R)×(Unit->Option R)×Unit)->Int->Option R:=λ(a,b) c (d,f,_) g=>cd (g<b) (bnd (idx a g) λh=>cnd (h != 0) (d h)<|c<|wr<|g+1)<|f ()
def B2:=wO tI
def QQ: Lc 175 0 0:=bR 0xbed6e68f727ca7b23d9c91e83b6f66f74cade03b C91 [] [] @tI
def CK: Nat->(List Int)->Option Int
 | 0,_=>none
 | n+1,a=>bnd2 (B2 n (a,(ln a)) 0) (λb=>some b) λc=>bnd (some c) λ_=>some 0
def S0: Kn:=bK 175 0x2e4b0d C91 [⟨0,[QQ]⟩] [] CK
abbrev C92:=S0::C91
def mQ: Nat->Int->Int->Option Int
 | 0,_,_=>none
 | n+1,a,b=>bnd (cY n (iP a<|wr<|0-a)<|iP b<|wr<|0-b) λc=>bnd (cY n b a) λd=>bnd (CK n [c,d]) λf=>some f
def Ly: Kn:=bK 165 0x79262d922f729618f597 C92 [] [] mQ
abbrev C93:=Ly::C92
def mM: Nat->dP->dP->Option Int
 | 0,_,_=>none
 | n+1,a,b=>bnd (mP n a.outer) λc=>bnd (mP n b.outer) λd=>bnd (mQ n c d) λf=>some f
def DR: Kn:=bK 139 0x21463744750a2e4 C93 [] [] mM
abbrev C94:=DR::C93
def DW: Lc 137 2 0:=bR 0x689261d67a08169854c73d676befe154fe0b015d3ca447980115036690bd21ef1ceeac24 C94 [] [] @kQ
end
end
section
variable {R:Type}(n:Nat)
noncomputable section
def zH: aM->(((List aR×List Int×List Aab×List Aab)->Option R)×Unit)->Unit->Option R:=λa (b,_) _=>bnd (clF n a.Nodes) λc=>bnd (Lz n ([],c,a.Arcs,(ln a.Arcs)) ([],0)) λd=>b (d,[],c,c)
def Jf:=zP zH
def DX: Ic:=cR 137 2 1 0x47759b83282f31bbf786a19ae40d6600975182b88ecb41643c21f7295ad5fe8bf55a1ec6 C94 [⟨0,[DW]⟩] [] @zH
def oH(n:Nat): (Int×List Int×Int)->(((List<|Int×Int)×Int)->Option R)->((((List<|Int×Int))->Option R)×Unit)->((List<|Int×Int)×Int)->Option R:=λ(a,b,c) d (f,_) (g,h)=>cd (h<c) (bnd (idx b h) λi=>d ((kS g i<|wr<|a+1),(wr<|h+1)))<|f g
def OZ:=pM oH
def DT: Lc 111 0 2:=bR 0xbe099bbbff0d56735cdd0d3c0c97aed3ff14bc8c99a8cd0720330c3e74beca17ceb2146544 C94 [] [] @oH
def oI: (Int×(List<|List Int)×Int)->(((List<|Int×Int)×Int)->Option R)->((((List<|Int×Int))->Option R)×Unit)->((List<|Int×Int)×Int)->Option R:=λ(a,b,c) d (f,_) (g,h)=>cd (h<c) (bnd (idx b h) λi=>bnd (OZ n (a,i,(ln i)) (g,0)) λj=>d (j,(wr<|h+1)))<|f g
def PA:=pM oI
def DU: Lc 111 0 1:=bR 0x15099b999ecbb487e40bf92baf03e0b6f2ead5cfe668b6e3adfaebb686744 C94 [⟨0,[cs DT]⟩] [] @oI
def oJ: (List aR×List Aab×List Aab×List dP×(Nat×Nat)×Int)->((List Int×(List<|Int×Int)×Int)->Option R)->(((List Int×(List<|Int×Int))->Option R)×Unit)->(List Int×(List<|Int×Int)×Int)->Option R:=λ(a,b,c,d,f,g) h (i,_) (j,l,m)=>cd (m<g) (bnd (idx (win d<|some f) m) λ_=>bnd (idx d<|m+((f.1:Nat):Int)) λo=>bnd (app j [(wr<|m+1)]) λr=>bnd (fP n o) λs=>bnd (PA n (m,s,(ln s)) (l,0)) λt=>h (r,t,(wr<|m+1)))<|i (j,l)
def Je:=pM oJ
def DV: Lc 111 0 0:=bR 0xfc1af1acf1d945c8df0d7e80355512737c0e56835cfc29382ef3fc07b8dead9ffaa3d5d8873c4a3ac056c6abc9cb6d3f3b5ef5e1c06ff9033b279879ad7f69a3012736162c26a6f914c00 C94 [⟨0,[cs DU]⟩] [] @oJ
def oG(n:Nat): (List Int×List Aab×List Aab×(List<|Int×Int)×Int)->((List aR×Int)->Option R)->(((List aR)->Option R)×Unit)->(List aR×Int)->Option R:=λ(a,b,c,d,f) g (h,_) (i,j)=>cd (j<f) (bnd (gM i (List.length i) j) λ_=>bnd (idx i j) λl=>bnd (gM i (List.length i) j) λ_=>bnd (idx i j) λm=>bnd (gM (List.set i (Int.toNat j)<|aR.mk m.ID m.From m.To m.Via (Option.getD (cK d l.ID) 0) m.Right) (List.length<|List.set i (Int.toNat j)<|aR.mk m.ID m.From m.To m.Via (Option.getD (cK d l.ID) 0) m.Right) j) λ_=>bnd (idx (List.set i (Int.toNat j)<|aR.mk m.ID m.From m.To m.Via (Option.getD (cK d l.ID) 0) m.Right) j) λo=>g ((List.set (List.set i (Int.toNat j)<|aR.mk m.ID m.From m.To m.Via (Option.getD (cK d l.ID) 0) m.Right) (Int.toNat j)<|aR.mk o.ID o.From o.To o.Via o.Left<|Option.getD (cK d<|wr<|0-l.ID) 0),(wr<|j+1)))<|h i
def Jd:=pM oG
def DS: Lc 111 0 3:=bR 0x11d3431ea21209b29f1f3584d79dcb4752320932774f728a89931f12561e0f4891cf808e7d9518b8a81d71146497ff931858a11289c2822964f45a208bf0b9d C94 [] [] @oG
def Ho: Nat->aM->Option (aM×Int)
 | 0,_=>none
 | n+1,a=>bnd (Jf n a) λb=>bnd (zB n<|aM.mk b.2.2.2 b.1 b.2.1) λc=>cnd (c.2 != 0) (some ((aM.mk [] [] []),c.2))<|bnd (oC n<|aM.mk b.2.2.2 b.1 b.2.1) λd=>bnd (iU n (aM.mk b.2.2.2 b.1 b.2.1) c.1 d) λf=>bnd (sub f (0,List.length f) 1<|ln f) λg=>cd (((g.2:Nat):Int) > 64) (some ((aM.mk [] [] []),3))<|bnd (prd n) λh=>bnd (Ks<|decide<|List.length f<=1000000/\g.1+g.2<=List.length f) λ_=>bnd (pJ (λ(i j:dP)=>bnd (mM h i j) λl=>some l)<|win f<|some g) λm=>bnd (Je n (b.1,b.2.2.1,b.2.2.2,(aP f g.1 m),g,((g.2:Nat):Int)) (b.2.1,[],0)) λo=>bnd (Jd n (o.1,b.2.2.1,b.2.2.2,o.2,(ln b.1)) (b.1,0)) λr=>some ((aM.mk b.2.2.2 r o.1),0)
def SU: Kn:=bK 111 0x109774088d5a0be C94 [⟨0,[DV]⟩,⟨3,[DS]⟩] [DX] Ho
abbrev C95:=SU::C94
def jL: Nat->dR->dR->Option Int
 | 0,_,_=>none
 | n+1,a,b=>bnd (cY n a.Face b.Face) λc=>some c
def Pr: Kn:=bK 141 0x2146389e21fe874 C95 [] [] jL
abbrev C96:=Pr::C95
def lH(n:Nat): (List Int×List dP×Int)->((List dR×Int)->Option R)->(((List dR)->Option R)×Unit)->(List dR×Int)->Option R:=λ(a,b,c) d (f,_) (g,h)=>cd (h<c) (bnd (idx b h) λi=>bnd (idx a h) λj=>bnd (app g [(dR.mk j i.outer i.inner i.alone)]) λl=>d (l,(wr<|h+1)))<|f g
def DQ:=pM lH
def Ps: Lc 112 0 0:=bR 0x255ce8ac065e782b376c4ca39ef21b919416af4487d14b6d2bd6139072260a11cf7296ed66cdc7 C96 [] [] @lH
def jZ: Nat->aM->Option (List dR×Int)
 | 0,_=>none
 | n+1,a=>bnd (zF n a) λb=>cnd (b.2.2.2 != 0) (some ([],b.2.2.2))<|bnd (DQ n (b.2.1,b.1,(ln b.1)) ([],0)) λc=>bnd (prd n) λd=>bnd (Ks<|decide<|List.length c<=1000000) λ_=>bnd (pJ (λ(f g:dR)=>bnd (jL d f g) λh=>some h) c) λi=>some (i,0)
def JH: Kn:=bK 112 0x179f6387dcdc40c C96 [⟨0,[Ps]⟩] [] jZ
abbrev C97:=JH::C96
def tG(n:Nat): ((List<|List Int)×Int)->((List Int×Int)->Option R)->(((List Int)->Option R)×Unit)->(List Int×Int)->Option R:=λ(a,b) c (d,_) (f,g)=>cd (g<b) (bnd (idx a g) λh=>bnd (app f h) λi=>c (i,(wr<|g+1)))<|d f
def A5:=pM tG
def QD: Lc 114 0 0:=bR 0x9c19e49c0968ea93443625db7aeeff41199fed83 C97 [] [] @tG
def Id: Nat->dR->Option (List Int)
 | 0,_=>none
 | n+1,a=>bnd (app ([]:List Int) a.Outer) λb=>bnd (A5 n (a.Inner,(ln a.Inner)) (b,0)) λc=>some c
def R4: Kn:=bK 114 0x1914bae03ad25d7 C97 [⟨0,[QD]⟩] [] Id
abbrev C98:=R4::C97
def Ep(n:Nat): (Int×Int)->((Bool->Option R)×Unit)->Unit->Option R:=λ(a,b) (c,_) _=>cnd (b != a) (cnd (b != (wr<|0-a)) (c true)<|c false)<|c false
def Nt:=fK Ep
def LT: Lc 113 0 2:=bJ 0x7bc1270eaeb780b735b61dc7af651ed8e5079749ed757f072 C98 [] [] @Ep
def qT: (aM×Int×List Int×Int)->(Int->Option R)->((Int->Option R)×(Unit->Option R)×Unit)->Int->Option R:=λ(a,b,c,d) f (g,h,_) i=>cd (i<d) (bnd (idx c i) λj=>bnd (Nt n (b,j)) λl=>cnd l (bnd (Cz n a j) λm=>g m)<|f<|wr<|i+1)<|h ()
def VW:=wO qT
def LU: Lc 113 0 1:=bR 0x5ee150e7765690f2a4ecea22238fd3b081dc2fadbc8426b62c34d5aa6c573bf156 C98 [⟨0,[cs LT]⟩] [] @qT
def qU: (aM×Int×List dR×Int)->(Int->Option R)->(((dR×Int)->Option R)×(Unit->Option R)×Unit)->Int->Option R:=λ(a,b,c,d) f (g,h,_) i=>cd (i<d) (bnd (idx c i) λj=>bnd (Id n j) λl=>bnd2 (VW n (a,b,l,(ln l)) 0) (λm=>g (j,m)) λo=>bnd (some o) λ_=>f<|wr<|i+1)<|h ()
def VX:=wO qU
def LV: Lc 113 0 0:=bR 0x771869717f65f31f7bb73939cd7eb2d16a4d19c4c61 C98 [⟨0,[cs LU]⟩] [] @qU
def Nu: Nat->aM->Int->(List dR)->Option Int
 | 0,_,_,_=>none
 | n+1,a,b,c=>bnd2 (VX n (a,b,c,(ln c)) 0) (λd=>some d.2) λf=>bnd (some f) λ_=>some 0
def A0: Kn:=bK 113 0xfa0979f77d10d5 C98 [⟨0,[LV]⟩] [] Nu
abbrev C99:=A0::C98
def OS: Nat->(List Int)->Int->Option (List Int)
 | 0,_,_=>none
 | n+1,_,a=>cd (a<0) none none
def DE: Kn:=bK 182 0x33bc66162 C99 [] [] OS
abbrev aGE:=DE::C99
def iA(n:Nat): ((List<|List Int)×Int)->((Int×Int)->Option R)->((Int->Option R)×Unit)->(Int×Int)->Option R:=λ(a,b) c (d,_) (f,g)=>cd (g<b) (bnd (idx a g) λh=>cd ((wr<|f+(ln h))<0) none<|c ((wr<|f+(ln h)),(wr<|g+1)))<|d f
def Lu:=pM iA
def Hb: Lc 176 0 0:=bR 0xa96deb6df1014927a9f77df865b4f5f aGE [] [] @iA
def oA(n:Nat): Int->((Unit->Option R)×((List Int×(Nat×Nat))->Option R)×Unit)->Unit->Option R:=λa (b,c,_) _=>cd (a<0) none<|cd ((wr<|a-0) > 0) (bnd (rep 0 (wr<|a-0)<|wr<|a-0) λd=>cnd (List.isEmpty d) (b ())<|bnd (sub d (0,List.length d) 0 0) λf=>c (d,f))<|b ()
def Lv:=IA oA
def Hc: Ic:=cR 182 0 2 0x1ebcef82460c03585d5390150ea3a1bab77 aGE [] [] @oA
def hZ(n:Nat): ((List<|List Int)×Int)->(Int->Option R)->((Unit->Option R)×Unit)->Int->Option R:=λ(a,b) c (d,_) f=>cd (f<b) (bnd (idx a f) λg=>cnd (List.isEmpty g) (c<|wr<|f+1)<|bnd (app ([]:List Int) g) λ_=>none)<|d ()
def Lt:=pM hZ
def Ha: Lc 176 0 1:=bR 0x1ebd10640c53c645a0bc2e397839c499d53 aGE [] [] @hZ
def fE(n:Nat): ((List<|List Int)×Int)->((List Int×(Nat×Nat)×Int)->Option R)->(((List Int×(Nat×Nat))->Option R)×Unit)->(List Int×(Nat×Nat)×Int)->Option R:=λ(a,b) c (d,_) (f,g,h)=>cd (h<b) (bnd (idx a h) λi=>bnd (MW f g i) λj=>c (j,(g.1,g.2+List.length i),(wr<|h+1)))<|d (f,g)
def Ls:=pM fE
def Gz: Lc 176 0 1:=bR 0x29057845f4871e15a368fb9d522c2caeca3 aGE [] [] @fE
def jK: Nat->(List<|List Int)->Option (List Int)
 | 0,_=>none
 | n+1,a=>bnd (Lu n (a,(ln a)) (0,0)) λb=>bnd2 (Lv n b) (λ_=>bnd (Lt n (a,(ln a)) 0) λ_=>bnd (Ks true) λ_=>some []) λc=>bnd (some c) λd=>bnd (Ls n (a,(ln a)) (d.1,d.2,0)) λf=>bnd (Ks<|decide<|f.2=(0,List.length f.1)) λ_=>some<|win f.1<|some f.2
def Pp: Kn:=bK 176 0x27f91b5440e2fe4 aGE [⟨0,[Hb]⟩,⟨1,[Ha,Gz]⟩] [Hc] jK
abbrev aJw:=Pp::aGE
def iF(n:Nat): ((Nat×Nat))->((List Int×Int×Int)->Option R)->(((List Int×Int)->Option R)×Unit)->(List Int×Int×Int)->Option R:=λa b (c,_) (d,f,g)=>cd (g<((a.2:Nat):Int)) (bnd (idx (win d<|some a) g) λ_=>bnd (idx d<|g+((a.1:Nat):Int)) λh=>bnd (idx (win d<|some a)<|wr<|g-1) λ_=>bnd (idx d<|(wr<|g-1)+((a.1:Nat):Int)) λi=>cnd (h != i) (bnd (idx (win d<|some a) g) λ_=>bnd (idx d<|g+((a.1:Nat):Int)) λj=>bnd (gM d (List.length d) f) λ_=>bnd (idx d f) λ_=>b ((List.set d (Int.toNat f) j),(wr<|f+1),(wr<|g+1)))<|b (d,f,(wr<|g+1)))<|c (d,f)
def KS:=pM iF
def Uu: Lc 177 0 1:=bR 0x6b6b10d346fa1b6a9c67809f71f97ae75b7186bceb8ae4a7c aJw [] [] @iF
def iG: (List Int)->(Int->Option R)->(((List Int×(Nat×Nat))->Option R)×(Unit->Option R)×Unit)->Int->Option R:=λa b (c,d,_) f=>cd (f<(ln a)) (bnd (gM a (List.length a) f) λ_=>bnd (idx a f) λg=>bnd (gM a (List.length a)<|wr<|f-1) λ_=>bnd (idx a<|wr<|f-1) λh=>cnd (g==h) (bnd (sub a (0,List.length a) f<|ln a) λi=>bnd (KS n i (a,f,1)) λj=>bnd (sub j.1 (0,List.length j.1) j.2<|ln j.1) λl=>bnd (clr j.1 l 0) λm=>bnd (sub m (0,List.length m) 0 j.2) λo=>c (m,o))<|b<|wr<|f+1)<|d ()
def KT:=wO iG
def Uv: Lc 177 0 0:=bR 0x9a4214982d19e25f5e0f223c7b5f528df1e75542f0bc60 aJw [⟨0,[cs Uu]⟩] [] @iG
def wP: (List Int)->((Unit->Option R)×((List Int×(Nat×Nat))->Option R)×Unit)->Unit->Option R:=λa (b,c,_) _=>cd ((ln a)<2) (b ())<|bnd2 (KT n a 1) (λd=>c (d.1,d.2)) λf=>bnd (some f) λ_=>b ()
def qP:=IA wP
def Uw: Ic:=cR 177 0 1 0x13e3c712575ff58f22c83b6e4b0f9dfd2585b04d7 aJw [⟨0,[Uv]⟩] [] @wP
def iW: Nat->(List<|List Int)->Option (List Int)
 | 0,_=>none
 | n+1,a=>bnd (jK n a) λb=>bnd (prd n) λ_=>bnd (Ks<|decide<|List.length b<=1000000) λ_=>bnd2 (qP n<|hU b) (λ_=>some<|hU b) λc=>bnd (some c) λd=>some<|win d.1<|some d.2
def PK: Kn:=bK 166 0x24054f41ba14 aJw [] [Uw] iW
abbrev aRl:=PK::aJw
def nQ: Nat->(List Int)->(List Int)->Option (List Int)
 | 0,_,_=>none
 | n+1,a,b=>bnd (iW n [a,b]) λc=>some c
def y6: Kn:=bK 142 0x877430a52fdad48a44d7e60 aRl [] [] nQ
abbrev aOP:=y6::aRl
def jB(n:Nat): (List Int×List Int×Int)->(Int->Option R)->((Unit->Option R)×(Unit->Option R)×Unit)->Int->Option R:=λ(a,b,c) d (f,g,_) h=>cd (h<c) (bnd (idx a h) λi=>bnd (idx b h) λj=>cnd (i != j) (f ())<|d<|wr<|h+1)<|g ()
def Po:=wO jB
def Kk: Lc 59 0 0:=bR 0x10682ccdeffb4adf2d3c8 aOP [] [] @jB
def kN: Nat->(List Int)->(List Int)->Option Bool
 | 0,_,_=>none
 | n+1,a,b=>cnd ((ln a) != (ln b)) (some false)<|bnd2 (Po n (a,b,(ln a)) 0) (λ_=>some false) λc=>bnd (some c) λ_=>some true
def Ud: Kn:=bK 59 0x1b47bfe354b6 aOP [⟨0,[Kk]⟩] [] kN
abbrev aOO:=Ud::aOP
def Bq: (Int×Int)->((Bool->Option R)×Unit)->Unit->Option R:=λ(a,b) (c,_) _=>bnd (eP n a) λd=>cnd d (bnd (eP n b) λf=>cnd f (cd (a<b) (c true)<|c false)<|c true)<|cd (a<b) (c true)<|c false
def tJ:=fK Bq
def HC: Lc 183 0 0:=bJ 0x4a6faf6b45a3bcc07276c43 aOO [] [] @Bq
def vE: Nat->Int->Int->Option Bool
 | 0,_,_=>none
 | n+1,a,b=>bnd (tJ n (a,b)) λc=>cnd c (some true)<|some false
def g9: Kn:=bK 183 0xe2254749df984c aOO [⟨0,[HC]⟩] [] vE
abbrev aRk:=g9::aOO
def IY: Nat->Int->Option Bool
 | 0,_=>none
 | n+1,a=>cnd (a != a) (some true)<|some false
def Ub: Kn:=bK 184 0xae6 aRk [] [] IY
abbrev aLO:=Ub::aRk
def dW: (List Int×Int)->((Int×Int)->Option R)->((Int->Option R)×Unit)->(Int×Int)->Option R:=λ(a,b) c (d,_) (f,g)=>cd (f<g) (bnd (idx a<|wr<|Int.fdiv (IntKind.u64.wrap<|wr<|f+g) 2) λh=>bnd (vE n h b) λi=>cnd i (c ((wr<|(wr<|Int.fdiv (IntKind.u64.wrap<|wr<|f+g) 2)+1),g))<|c (f,(wr<|Int.fdiv (IntKind.u64.wrap<|wr<|f+g) 2)))<|d f
def vT:=pM dW
def sU: Lc 178 0 0:=bR 0x1bba2650efd5214503ec63256d64f0e2bfe85b90205cd4 aLO [] [] @dW
def iM(n:Nat): Int->((Bool->Option R)×Unit)->Unit->Option R:=λa (b,_) _=>cnd (a != a) (b true)<|b false
def eD:=zP iM
def sV: Ic:=cR 184 0 1 0x13318a57c130780070 aLO [] [] @iM
def eW: Nat->(List Int)->Int->Option (Int×Bool)
 | 0,_,_=>none
 | n+1,a,b=>bnd (vT n (a,b) (0,(ln a))) λc=>cd (c<(ln a)) (bnd (idx a c) λd=>cnd (d==b) (some (c,true))<|bnd (idx a c) λf=>bnd (eD n f) λg=>cnd g (bnd (eD n b) λh=>cnd h (some (c,true))<|some (c,false))<|some (c,false))<|some (c,false)
def yW: Kn:=bK 178 0x5201bcad2 aLO [⟨0,[sU]⟩] [sV] eW
abbrev aJv:=yW::aLO
def Dz: (List Int×Int)->((Bool->Option R)×Unit)->Unit->Option R:=λ(a,b) (c,_) _=>bnd (eW n a b) λd=>cnd d.2 (c false)<|c true
def wQ:=zP Dz
def KW: Ic:=cR 167 0 2 0x69f4391e4fe92ed25cb19c25d61ea aJv [] [] @Dz
def kV: (List Int×List Int×Int)->((List Int×Int)->Option R)->(((List Int)->Option R)×Unit)->(List Int×Int)->Option R:=λ(a,b,c) d (f,_) (g,h)=>cd (h<c) (bnd (idx b h) λi=>bnd (wQ n (a,i)) λj=>cnd j (bnd (app g [i]) λl=>d (l,(wr<|h+1)))<|d (g,(wr<|h+1)))<|f g
def US:=pM kV
def KV: Lc 168 0 0:=bR 0x147df93886ad71d7becbdc59d20e84868131b0ac515d8ef124579c218099e aJv [] [KW] @kV
def Ea: (List Int×List Int)->(((List Int)->Option R)×Unit)->Unit->Option R:=λ(a,b) (c,_) _=>bnd (iW n [b]) λd=>bnd (US n (a,d,(ln d)) ([],0)) λf=>c f
def wR:=zP Ea
def KX: Ic:=cR 168 0 2 0xa6ba345824239635a950ec15010788eecac38ec3b7f aJv [⟨0,[KV]⟩] [] @Ea
def zQ: Nat->(List Int)->(List Int)->Option (List Int)
 | 0,_,_=>none
 | n+1,a,b=>bnd (iW n [b]) λc=>bnd (wR n (c,a)) λd=>some d
def y7: Kn:=bK 143 0x877430a52fdad48a44d7e60 aJv [] [KX] zQ
abbrev aRj:=y7::aJv
def GQ: Nat->aI->Int->Option Int
 | 0,_,_=>none
 | n+1,a,b=>bnd (cY n a.ID b) λc=>some c
def Sj: Kn:=bK 120 0x38e7d794c aRj [] [] GQ
abbrev aJu:=Sj::aRj
def uQ: (aI×Int)->((Int->Option R)×Unit)->Unit->Option R:=λ(a,b) (c,_) _=>bnd (cY n a.ID b) λd=>c d
def jS:=zP uQ
def uP: Ic:=cR 120 0 2 0x6ea442b72901137e59f3 aJu [] [] @uQ
def mA: (List aI×Int)->((Int×Int)->Option R)->((Int->Option R)×Unit)->(Int×Int)->Option R:=λ(a,b) c (d,_) (f,g)=>cd (f<g) (bnd (idx a<|wr<|Int.fdiv (IntKind.u64.wrap<|wr<|f+g) 2) λh=>bnd (jS n (h,b)) λi=>cd (i<0) (c ((wr<|(wr<|Int.fdiv (IntKind.u64.wrap<|wr<|f+g) 2)+1),g))<|c (f,(wr<|Int.fdiv (IntKind.u64.wrap<|wr<|f+g) 2)))<|d f
def GR:=pM mA
def Sk: Lc 119 0 0:=bR 0x1353a95f51eee418267598b18ba35dc6bddb19768cc85ab3a aJu [] [uP] @mA
def uR: (List aI×Int)->(((aI×Int×Bool)->Option R)×(Int->Option R)×Unit)->Unit->Option R:=λ(a,b) (c,d,_) _=>bnd (GR n (a,b) (0,(ln a))) λf=>cd (f<(ln a)) (bnd (idx a f) λg=>bnd (jS n (g,b)) λh=>cnd (h==0) (c (g,f,true))<|c (g,f,false))<|d f
def Bl:=IA uR
def Sl: Ic:=cR 119 0 3 0x1179069c05c1bda43f5fcac0a25246cc06314beca9de aJu [⟨0,[Sk]⟩] [uP] @uR
def yL: Nat->aJ->Int->Option (Int×Bool)
 | 0,_,_=>none
 | n+1,a,b=>bnd2 (Bl n (a.Features,b)) (λc=>cnd c.2.2 (some (c.2.1,true))<|some (c.2.1,false)) λd=>bnd (some d) λf=>some (f,false)
def MQ: Kn:=bK 90 0x75ca57 aJu [] [Sl] yL
abbrev aLN:=MQ::aJu
def tE(n:Nat): (dR×List Int×Int)->(((List<|Int×Int)×Int)->Option R)->((((List<|Int×Int))->Option R)×Unit)->((List<|Int×Int)×Int)->Option R:=λ(a,b,c) d (f,_) (g,h)=>cd (h<c) (bnd (idx b h) λi=>d ((kS g i a.Face),(wr<|h+1)))<|f g
def A3:=pM tE
def PY: Lc 187 0 1:=bR 0x2007ae97c0dd1b01b58857ffac5c508aab27aa224f40d3a347f091ffbaa41d0aa578ce10ac7 aLN [] [] @tE
def tF: (List dR×Int)->(((List<|Int×Int)×Int)->Option R)->((((List<|Int×Int))->Option R)×Unit)->((List<|Int×Int)×Int)->Option R:=λ(a,b) c (d,_) (f,g)=>cd (g<b) (bnd (idx a g) λh=>bnd (A3 n (h,h.Alone,(ln h.Alone)) (f,0)) λi=>c (i,(wr<|g+1)))<|d f
def A4:=pM tF
def QA: Lc 187 0 0:=bR 0x21011abce249da901eb41849e77a8d3ac56f5e6cab4aa64c1883 aLN [⟨0,[cs PY]⟩] [] @tF
def nK: Nat->aM->Option (List<|Int×Int)
 | 0,_=>none
 | n+1,a=>bnd (jZ n a) λb=>bnd (A4 n (b.1,(ln b.1)) ([],0)) λc=>some c
def Ia: Kn:=bK 187 0xcc06515c8f6002 aLN [⟨0,[QA]⟩] [] nK
abbrev aSX:=Ia::aLN
end
end
section
open iT (den cds ag)
noncomputable section
def dH: Nat->aM->aM->Int->Option Bool
 | 0,_,_,_=>none
 | n+1,p,q,m=>bnd (nK n p) λold=>bnd (nK n q) λnew=>some (sdB old m new)
theorem aED: ∀(m:List (Int×Int)) (rows:List (List AV)),Qm (kk:=3) 3 m rows->G6 (fU (kk:=3) 3 m rows)=some m
 | [],rows,h=>rfl
 | e::m,[x]::rows,h=>by
  obtain⟨⟨h1,_⟩,h2⟩:=h
  cases h1
  show (match G6 (fU (kk:=3) 3 m rows) with | some l=>some ((e.1,e.2)::l) | none=>none)=_
  rw[aED m rows h2]
theorem aGd: V5 PP T 187 ⟨[.w 4],[26],false,λn p=>nK n p⟩:=by
 have e:Ia.c=⟨[.w 4],[26],false,λn p=>nK n p⟩:=by kernel_rfl
 have h:=Ia.ok
 rw[e] at h
 exact h
theorem aHj{n:Nat}{p:aM}{m:List (Int×Int)}{a:AV}(h:nK n p=some m)(q:Qh [] (toW (val 4 p)) a): sdH (fB PP T n) 187 [] a=some m:=by
 obtain⟨b,rfl,q4⟩:=Qh.inA (cs:=[.vw 0 p.Nodes,.vw 2 p.Arcs,.vw 3 p.Faces]) q
 clear q
 match b,q4 with
 | [xn,xa,xf],q4=>
 obtain⟨qn,qa,qf,_⟩:=q4
 obtain⟨aw',A,h1,h2,h3,_⟩:=aGd n p m h [cG [] (.agg [xn,xa,xf])] ⟨Qh.mkA ⟨.p _ _ (u7 (Qh.pu (v:=.vw 0 p.Nodes) qn trivial)),.p _ _ (u7 (Qh.pu (v:=.vw 2 p.Arcs) qa trivial)),.p _ _ (u7 (Qh.pu (v:=.vw 3 p.Faces) qf trivial)),trivial⟩,trivial⟩
 have h2:=h2 []
 match aw',h2 with
 | [b],h2=>
  have e:eY A 0 b=dY A 0 b:=by
   cases b with
   | tup l=>exact (h3 _ ZM l rfl).elim
   | _=>rfl
  have h4:Qp (.rmp 3 3 m) (eY A 0 b):=by rw[e];exact Qh.pu (v:=.rmp 3 3 m) h2.1 trivial
  have e2:cG [] (.agg [xn,xa,xf])=.agg [dF [] xn,dF [] xa,dF [] xf]:=rfl
  rw[e2] at h1
  unfold sdH
  rw[e2]
  simp only[h1]
  show Dy (eY A 0 b)=some m
  obtain⟨rows,h5,h6⟩:=h4.inM
  rcases h5 with⟨h5,rfl⟩ | h5
  .rw[h5];rfl
  .rw[h5];exact aED m rows h6
theorem aAi: V5 PP T 57 ⟨[.w 4,.w 4,.w 3],[5],false,λn p=>dH n p.1 p.2.1 p.2.2⟩:=by
 rintro n ⟨p,q,m⟩ r h aw w
 match aw,w with
 | [a,b,c],w=>
 obtain⟨w1,w2,w3,_⟩:=w
 have hc:c=.lit (.int .i64 m):=Qh.inL (v:=.int .i64 m) w3
 subst hc
 cases n with
 | zero=>cases h
 | succ n=>
  obtain⟨old,h1,h⟩:=bD h
  obtain⟨new,h2,h⟩:=bD h
  cases h
  refine⟨[.lit (.bool (sdB old m new))],[],?_,λH1=>⟨.l _,trivial⟩,λx hx l e=>(by rw[ZJ.1 hx] at e;cases e),λe=>(by cases e)⟩
  have e:(aG.prim 57:Option B7)=some (K2 187):=rfl
  simp only[fB,e]
  show sdA (fB PP T n) 187 [a,b,.lit (.int .i64 m)] []=_
  simp only[sdA,aHj h1 w1,aHj h2 w2,jO]
def VY: Kn:=⟨57,_,aAi⟩
end
end
section
variable {R:Type}(n:Nat)
noncomputable section
abbrev dS:=VY::aSX
def GI: Lc 29 0 0:=bR 0x60147a0347a97c9cd6e6b12deeddc5abdb0ed865986689e90c850941166963be17 dS [] [] @mO
def GH: Lc 29 0 1:=bR 0x1c08f1ebd1cbacc745c069fa76ee5378d547ff41abdde33bcc46d28bb7 dS [] [] @mN
def Bh: aJ->(((List Int×List Aab×List aR×List aI×List Int)->Option R)×Unit)->Unit->Option R:=λa (b,_) _=>bnd (oZ n a.Plan.Nodes) λc=>bnd (mJ n a.Plan.Arcs) λd=>bnd (bH n a.Plan.Faces) λf=>bnd (jR n a.Features) λg=>bnd (Th n (f,c,g,(ln d)) (d,0)) λh=>bnd (Tg n (f,c,h,(ln g)) (g,0)) λi=>b (f,c,h,i,f)
def Ju:=zP Bh
def GL: Ic:=cR 29 0 1 0x1b346d12ecb7c6715e2185a083b95860726eaa0058a07240b83adae7c1 dS [⟨0,[GI]⟩,⟨1,[GH]⟩] [] @Bh
def Be(n:Nat): Int->((Bool->Option R)×Unit)->Unit->Option R:=λa (b,_) _=>cnd (a==1) (b true)<|cnd (a==2) (b true)<|cnd (a==3) (b true)<|b false
def Js:=fK Be
def GG: Lc 18 0 0:=bJ 0x14010cfc8e00313aca9ef285897a86d83473e0 dS [] [] @Be
def Bd: (List Int×List Aab×List aR×List aI×aN)->((Bool->Option R)×Unit)->Unit->Option R:=λ(a,b,c,d,f) (g,_) _=>bnd (kE n (aM.mk b c a) f.ID) λh=>cd (h > 0) (g true)<|bnd (iY n (aJ.mk (aM.mk b c a) d) 1 f.ID) λi=>cd ((ln i) > 0) (g true)<|g false
def Jr:=fK Bd
def GF: Lc 53 0 0:=bJ 0x68481fc22b6abd5dfc51d251b16345a67de210f7872d000099425284b dS [] [] @Bd
def Bf(n:Nat): (List Int×List Int×List Aab×List aR×List aI×Int×Int)->((Unit->Option R)×((List Aab×(Nat×Nat))->Option R)×Unit)->Unit->Option R:=λ(a,b,c,d,f,g,h) (i,j,_) _=>bnd (Ks<|decide<|0<=g/\g<=h/\h<=(ln c)/\(ln c)<=(ln c)) λ_=>cnd (g==h) (i ())<|bnd (sub c (0,List.length c) 0 g) λl=>bnd (sub c (0,List.length c) h<|ln c) λm=>bnd (MW c l<|win c<|some m) λo=>bnd (sub o (l.1,l.2+List.length (win c<|some m)) (((l.1,l.2+List.length (win c<|some m)).2:Nat):Int)<|ln c) λr=>bnd (clr o r<|Aab.mk 0<|Aaa.mk 0 0) λs=>j (s,(l.1,l.2+List.length (win c<|some m)))
def Jt:=IA Bf
def GJ: Ic:=cR 84 0 3 0x34b21b31c58b493bc9aca5ffbc6cbfdbf416d091026107442 dS [] [] @Bf
def Bg: (List Int×List Int×List Aab×List aR×List aI×aN)->(((List Aab×Int)->Option R)×(((Nat×Nat)×List Aab)->Option R)×((List Aab×List Aab)->Option R)×Unit)->Unit->Option R:=λ(a,b,c,d,f,g) (h,i,j,_) _=>bnd (nT n (aJ.mk (aM.mk c d a) f) g.ID) λl=>cnd l.2 (cnd (g.Kind==1) (h (c,8))<|cnd (g.Kind==3) (bnd (gM c (List.length c) l.1) λ_=>bnd (idx c l.1) λm=>h ((List.set c (Int.toNat l.1)<|Aab.mk m.ID g.At),0))<|bnd (Jr n (a,c,d,f,g)) λo=>cnd o (h (c,13))<|bnd2 (Jt n (a,b,c,d,f,l.1,(wr<|l.1+1))) (λ_=>h (c,0)) λr=>bnd (some r) λs=>i (s.2,s.1))<|cnd (g.Kind==1) (bnd (prd n) λ_=>bnd (aCW c l.1<|Aab.mk g.ID g.At) λt=>j (t,[(Aab.mk g.ID g.At)]))<|h (c,7)
def tD:=in3 Bg
def GK: Ic:=cR 53 0 2 0x54ee7db538128ccf7f0a4e07fea1c1115235d6c5f6b2c33029fe79f2e5ce19bfe8cf76659c798f9414d0c3d1f dS [⟨0,[GF]⟩] [GJ] @Bg
def fC: (List Int×List Aab×List aR×List aI×Int)->((Int->Option R)×Unit)->Unit->Option R:=λ(a,b,c,d,f) (g,_) _=>cnd (f==0) (bnd (eN n<|aJ.mk (aM.mk b c a) d) λh=>g h)<|g f
def cD:=fK fC
def GE: Lc 18 0 2:=bJ 0x318d53635b08 dS [] [] @fC
def nD: (aJ×aN×List Int×List Aab×List aR×List aI×Int×Int)->((Bool->Option R)×Unit)->Unit->Option R:=λ(a,b,c,d,f,g,h,i) (j,_) _=>cnd (h==0) (cnd (b.Kind==3) (bnd (dH n a.Plan (aM.mk d f c) i) λl=>cnd l (j true)<|j false)<|cnd (b.Kind==6) (bnd (dH n a.Plan (aM.mk d f c) i) λm=>cnd m (j true)<|j false)<|j false)<|j false
def Fn:=fK nD
def BM: Lc 18 0 4:=bJ 0x226d391230667c2 dS [] [] @nD
def oX: (aJ×aN×List Int×List Aab×List aR×List aI×Int×Int)->((Int->Option R)×Unit)->Unit->Option R:=λ(a,b,c,d,f,g,h,i) (j,_) _=>bnd (Fn n (a,b,c,d,f,g,h,i)) λl=>cnd l (j 12)<|j h
def dX:=fK oX
def GD: Lc 18 0 3:=bJ 0x2269763b26d7cc2 dS [⟨0,[cs BM]⟩] [] @oX
def yA: ((Nat×Nat)×List Int×List Aab×List aR×List aI×Int)->((Int->Option R)×Unit)->Unit->Option R:=λ(a,b,c,d,f,g) (h,_) _=>cnd (g==0) (bnd (eN n<|aJ.mk (aM.mk (win c<|some a) d b) f) λi=>h i)<|h g
def rG:=fK yA
def BK: Lc 18 0 2:=bJ 0x1de8624f9837185bb526f70a7e738953d20 dS [] [] @yA
def xY: (aJ×aN×(Nat×Nat)×List Int×List Aab×List aR×List aI×Int×Int)->((Bool->Option R)×Unit)->Unit->Option R:=λ(a,b,c,d,f,g,h,i,j) (l,_) _=>cnd (i==0) (cnd (b.Kind==3) (bnd (dH n a.Plan (aM.mk (win f<|some c) g d) j) λm=>cnd m (l true)<|l false)<|cnd (b.Kind==6) (bnd (dH n a.Plan (aM.mk (win f<|some c) g d) j) λo=>cnd o (l true)<|l false)<|l false)<|l false
def Fm:=fK xY
def BI: Lc 18 0 4:=bJ 0x21e7119d2a85e5c2c711c538488092300d0a28 dS [] [] @xY
def xZ: (aJ×aN×(Nat×Nat)×List Int×List Aab×List aR×List aI×Int×Int)->((Int->Option R)×Unit)->Unit->Option R:=λ(a,b,c,d,f,g,h,i,j) (l,_) _=>bnd (Fm n (a,b,c,d,f,g,h,i,j)) λm=>cnd m (l 12)<|l i
def rE:=fK xZ
def BJ: Lc 18 0 3:=bJ 0x14a82b25ba4f1ad9b6f7d11baf858141830a28 dS [⟨0,[cs BI]⟩] [] @xZ
def BH: Lc 18 0 2:=bJ 0xba5b4af92aaab74fff0cabc dS [] [] @fC
def BF: Lc 18 0 4:=bJ 0x5a28226c8539ec1b6198e07fbe09b dS [] [] @nD
def BG: Lc 18 0 3:=bJ 0x5a1e4958d213849a48ca42d4de09b dS [⟨0,[cs BF]⟩] [] @oX
def xX(n:Nat): Int->((Bool->Option R)×Unit)->Unit->Option R:=λa (b,_) _=>cnd (a==4) (b true)<|cnd (a==5) (b true)<|cnd (a==6) (b true)<|b false
def Fk:=fK xX
def BE: Lc 18 0 1:=bJ 0xdedbb4ad9dfa2472f951b1f1101f68e2949023e0 dS [] [] @xX
def xW(n:Nat): (aN×Int×Int)->((Int->Option R)×Unit)->Unit->Option R:=λ(a,b,c) (d,_) _=>cd (a.C<0) (d b)<|d c
def Fj:=fK xW
def BC: Lc 85 0 0:=bJ 0x54673c0436df22fd0e561dee144a45ac15aec0e5e80c686ad80f96979fa4b41f6833723c67e27577e4dd2c9f5cef dS [] [] @xW
def xV: (List Aab×List Int×List aR×Int×Int)->((Int->Option R)×(Unit->Option R)×Unit)->Unit->Option R:=λ(a,b,c,d,f) (g,h,_) _=>cnd (f==0) (g 12)<|bnd (kW n b f) λi=>cnd i (g 8)<|cnd (d==0) (g 12)<|h ()
def Fi:=pc2 xV
def BB: Lc 85 0 1:=bJ 0x285166298b9be1f0e0e5a7260e770c5466298663f0bcf714d68caedbc2e1f8eefc80a6d920a97d68924d0003de848944db764f685c08ec1d1005ccc6bf85d753c154ef7db9af163db749610c98845a4fe dS [] [] @xV
def nJ: (List Int×List Aab×List aI×List Int×Int×List Int×Int)->((List aR×Int)->Option R)->(((List aR)->Option R)×Unit)->(List aR×Int)->Option R:=λ(a,b,c,d,f,g,h) i (j,_) (l,m)=>cd (m<h) (bnd (idx g m) λo=>bnd (rP n (aJ.mk (aM.mk b l a) c)<|iP o<|wr<|0-o) λr=>cnd r.2 (cd (o > 0) (bnd (gM l (List.length l) r.1) λ_=>bnd (idx l r.1) λs=>i ((List.set l (Int.toNat r.1)<|aR.mk s.ID s.From s.To s.Via f s.Right),(wr<|m+1)))<|bnd (gM l (List.length l) r.1) λ_=>bnd (idx l r.1) λt=>i ((List.set l (Int.toNat r.1)<|aR.mk t.ID t.From t.To t.Via t.Left f),(wr<|m+1)))<|i (l,(wr<|m+1)))<|j l
def ML:=pM nJ
def BT: Lc 115 0 0:=bR 0x9c6d2bfbf045009d3f1f6f185030768fe5887b349138217e5b203d6b15aa7343129412f9ceb930e9526f3d0e5211ce4de6e471071fd07 dS [] [] @nJ
def xU: (aI×Int)->((Bool->Option R)×Unit)->Unit->Option R:=λ(a,b) (c,_) _=>bnd (dD n a.Kind) λd=>cnd (d==3) (bnd (kW n a.Parts b) λf=>cnd f (c true)<|c false)<|c false
def Fh:=fK xU
def BA: Lc 115 0 2:=bJ 0x4610cecea4dc2fb7044ab14f93df5e51ac29106755f74bcd15bd376abf65a24a72cf6d3286621b7c9e932eb3a83e54b dS [] [] @xU
def nI: (List Int×List Int×List Aab×List aR×List aR×Int×Int×Int)->((List aI×Int)->Option R)->(((List aI)->Option R)×Unit)->(List aI×Int)->Option R:=λ(a,b,c,d,f,g,h,i) j (l,_) (m,o)=>cd (o<i) (bnd (gM m (List.length m) o) λ_=>bnd (idx m o) λr=>bnd (Fh n (r,g)) λs=>cnd s (bnd (nQ n r.Parts [h]) λt=>bnd (gM m (List.length m) o) λ_=>bnd (idx m o) λu=>j ((List.set m (Int.toNat o)<|aI.mk u.ID u.Kind u.Class u.Name t),(wr<|o+1)))<|j (m,(wr<|o+1)))<|l m
def MK:=pM nI
def BS: Lc 115 0 1:=bR 0x2d2dd631c367c10c80449278f041981828421bf3953553deb61f6e998e8801393c58cfd0b2c556a8a2726ffa4525034d02 dS [⟨0,[cs BA]⟩] [] @nI
def yI: (List Int×List Int×List Aab×List aR×List aI×List Int×List aR×List Int×Int×Int)->(((List Int×List aI×List aR)->Option R)×Unit)->Unit->Option R:=λ(a,b,c,d,f,g,h,i,j,l) (m,_) _=>bnd (ML n (a,c,f,g,l,i,(ln i)) (h,0)) λo=>bnd (nQ n a [l]) λr=>bnd (MK n (r,b,c,d,o,j,l,(ln f)) (f,0)) λs=>m (r,s,o)
def Fv:=zP yI
def CE: Ic:=cR 115 0 4 0x3b7e60ab57c4c922e3363d52ce9437cd83ca6060aaff218a2fb0dbbdc9647ecdff60ec1c56354fda4bdcb788a5a2ec31a6 dS [⟨0,[BT]⟩,⟨1,[BS]⟩] [] @yI
def yJ: (List Int×List Int×List Aab×List aR×List aI×aN)->((Int->Option R)×((List aR×List aR×Int)->Option R)×((List aR×List aR×aM×Int)->Option R)×((List Int×List aI×List aR×List aR×aM)->Option R)×Unit)->Unit->Option R:=λ(a,b,c,d,f,g) (h,i,j,l,_) _=>bnd (rP n (aJ.mk (aM.mk c d a) f) g.ID) λm=>cnd m.2 (h 8)<|bnd (nT n (aJ.mk (aM.mk c d a) f) g.A) λo=>cnd o.2 (bnd (nT n (aJ.mk (aM.mk c d a) f) g.B) λr=>cnd r.2 (bnd (mJ n d) λs=>bnd (cE n g.Via) λt=>bnd (prd n) λ_=>bnd (aCW s m.1<|aR.mk g.ID g.A g.B t 0 0) λu=>bnd (Hq n<|aM.mk c u a) λv=>cnd (v != 0) (i (u,[(aR.mk g.ID g.A g.B t 0 0)],v))<|bnd (Ho n<|aM.mk c u a) λw=>cnd (w.2 != 0) (j (u,[(aR.mk g.ID g.A g.B t 0 0)],w.1,w.2))<|bnd (jZ n w.1) λx=>cnd (x.2 != 0) (j (u,[(aR.mk g.ID g.A g.B t 0 0)],w.1,x.2))<|bnd (idx w.1.Arcs m.1) λy=>bnd (idx w.1.Arcs m.1) λz=>bnd (idx x.1 y.Left) λa0=>bnd (idx x.1 z.Right) λb0=>bnd (Nu n (aM.mk c d a) g.ID [a0,b0]) λc0=>bnd (gM u (List.length u) m.1) λ_=>bnd (idx u m.1) λd0=>bnd (gM (List.set u (Int.toNat m.1)<|aR.mk d0.ID d0.From d0.To d0.Via c0 d0.Right) (List.length<|List.set u (Int.toNat m.1)<|aR.mk d0.ID d0.From d0.To d0.Via c0 d0.Right) m.1) λ_=>bnd (idx (List.set u (Int.toNat m.1)<|aR.mk d0.ID d0.From d0.To d0.Via c0 d0.Right) m.1) λf0=>cnd (y.Left==z.Right) (cnd (g.C != 0) (j ((List.set (List.set u (Int.toNat m.1)<|aR.mk d0.ID d0.From d0.To d0.Via c0 d0.Right) (Int.toNat m.1)<|aR.mk f0.ID f0.From f0.To f0.Via f0.Left c0),[(aR.mk g.ID g.A g.B t 0 0)],w.1,12))<|l (a,f,(List.set (List.set u (Int.toNat m.1)<|aR.mk d0.ID d0.From d0.To d0.Via c0 d0.Right) (Int.toNat m.1)<|aR.mk f0.ID f0.From f0.To f0.Via f0.Left c0),[(aR.mk g.ID g.A g.B t 0 0)],w.1))<|bnd (Fj n (g,z.Right,y.Left)) λg0=>bnd2 (Fi n (c,a,(List.set (List.set u (Int.toNat m.1)<|aR.mk d0.ID d0.From d0.To d0.Via c0 d0.Right) (Int.toNat m.1)<|aR.mk f0.ID f0.From f0.To f0.Via f0.Left c0),g0,(iP g.C<|wr<|0-g.C))) (λh0=>j ((List.set (List.set u (Int.toNat m.1)<|aR.mk d0.ID d0.From d0.To d0.Via c0 d0.Right) (Int.toNat m.1)<|aR.mk f0.ID f0.From f0.To f0.Via f0.Left c0),[(aR.mk g.ID g.A g.B t 0 0)],w.1,h0)) λi0=>bnd (some i0) λ_=>bnd (idx x.1 g0) λj0=>bnd (Id n j0) λl0=>bnd (Fv n (a,b,c,d,f,a,(List.set (List.set u (Int.toNat m.1)<|aR.mk d0.ID d0.From d0.To d0.Via c0 d0.Right) (Int.toNat m.1)<|aR.mk f0.ID f0.From f0.To f0.Via f0.Left c0),l0,c0,(iP g.C<|wr<|0-g.C))) λm0=>l (m0.1,m0.2.1,m0.2.2,[(aR.mk g.ID g.A g.B t 0 0)],w.1))<|h 7)<|bnd (nT n (aJ.mk (aM.mk c d a) f) g.B) λo0=>cnd o0.2 (h 7)<|h 7
def Fw:=λ(n:Nat) p=>bnd (prd n) λn=>yJ n p (λt=>some<|Sum.inl t,λt=>some<|Sum.inr<|Sum.inl t,λt=>some<|Sum.inr<|Sum.inr<|Sum.inl t,λt=>some<|Sum.inr<|Sum.inr<|Sum.inr t,()) ()
def CG: Ic:=cR 85 0 2 0x5c71db9917c1f0375a707bfe9b671afd332f1fdd4bafc8784a3362f20636f377e634b200da50221eba1a63dfe3fd039eb38cc4639211f44eb75f765dd25e5b4b3dd3a51665236501b93e937f6c8166 dS [⟨0,[BC]⟩,⟨1,[BB]⟩] [CE] @yJ
def xT: (List Int×List Aab×List aR×List aI×Int×Int)->((Bool->Option R)×Unit)->Unit->Option R:=λ(a,b,c,d,f,g) (h,_) _=>cnd (f != g) (bnd (iY n (aJ.mk (aM.mk b c a) d) 3 f) λi=>bnd (iY n (aJ.mk (aM.mk b c a) d) 3 g) λj=>bnd (kN n i j) λl=>cnd l (h false)<|h true)<|h false
def Fg:=fK xT
def AZ: Lc 54 0 0:=bJ 0x1882e546283acb5ee9a82b6b0f6423afd40447f96c5322d717ffd88c5572a1760026c dS [] [] @xT
def yH(n:Nat): (List Int×List Int×List Aab×List aR×List aI×Int×Int)->((Unit->Option R)×((List aR×(Nat×Nat))->Option R)×Unit)->Unit->Option R:=λ(a,b,c,d,f,g,h) (i,j,_) _=>bnd (Ks<|decide<|0<=g/\g<=h/\h<=(ln d)/\(ln d)<=(ln d)) λ_=>cnd (g==h) (i ())<|bnd (sub d (0,List.length d) 0 g) λl=>bnd (sub d (0,List.length d) h<|ln d) λm=>bnd (MW d l<|win d<|some m) λo=>bnd (sub o (l.1,l.2+List.length (win d<|some m)) (((l.1,l.2+List.length (win d<|some m)).2:Nat):Int)<|ln d) λr=>bnd (clr o r<|aR.mk 0 0 0 [] 0 0) λs=>j (s,(l.1,l.2+List.length (win d<|some m)))
def Fu:=IA yH
def CD: Ic:=cR 87 0 3 0x24b104377198a8dcf93661808d53c454cddfc650120b5f49a612 dS [] [] @yH
def xS(n:Nat): (List Int×List Int×List Aab×List aR×List aI×Int×Int×aR×Int)->(((List aR)->Option R)×Unit)->Unit->Option R:=λ(a,b,c,d,f,g,h,i,j) (l,_) _=>cnd (i.Left==g) (bnd (gM d (List.length d) j) λ_=>bnd (idx d j) λm=>l<|List.set d (Int.toNat j)<|aR.mk m.ID m.From m.To m.Via h m.Right)<|l d
def Ff:=fK xS
def AY: Lc 88 0 1:=bJ 0x164a6261c20b6f6df3bef4fc886da52b09480071d9db8898e82e8fa4a0058744ae0853e702ac36 dS [] [] @xS
def nH: (List Int×List Int×List Aab×List aI×Int×Int×Int)->((List aR×Int)->Option R)->(((List aR)->Option R)×Unit)->(List aR×Int)->Option R:=λ(a,b,c,d,f,g,h) i (j,_) (l,m)=>cd (m<h) (bnd (gM l (List.length l) m) λ_=>bnd (idx l m) λo=>bnd (Ff n (a,b,c,l,d,f,g,o,m)) λr=>cnd (o.Right==f) (bnd (gM r (List.length r) m) λ_=>bnd (idx r m) λs=>i ((List.set r (Int.toNat m)<|aR.mk s.ID s.From s.To s.Via s.Left g),(wr<|m+1)))<|i (r,(wr<|m+1)))<|j l
def MJ:=pM nH
def BR: Lc 88 0 0:=bR 0x111625f6d93cb44b653f4483328ccac0aacaf4b2a9d61456eaebfbec67916cc9e9e07652 dS [⟨0,[cs AY]⟩] [] @nH
def fX: (Int×Int×List Int)->(((List Int)->Option R)×Unit)->Unit->Option R:=λ(a,b,c) (d,_) _=>bnd (kW n c a) λf=>cnd f (bnd (zQ n c [a]) λg=>cnd (b != 0) (bnd (nQ n g [b]) λh=>d h)<|d g)<|d c
def fM:=zP fX
def CC: Ic:=cR 118 11 3 0x144b7277407d2a8f6e1fb dS [] [] @fX
def CB: Ic:=cR 118 12 3 0xe221f544339c473c8aed503 dS [] [] @fX
def nG: (List Int×List Int×List Aab×List aR×Int×Int×Int)->((List aI×Int)->Option R)->(((List aI)->Option R)×Unit)->(List aI×Int)->Option R:=λ(a,b,c,d,f,g,h) i (j,_) (l,m)=>cd (m<h) (bnd (gM l (List.length l) m) λ_=>bnd (idx l m) λo=>bnd (dD n o.Kind) λr=>cnd (r==3) (bnd (fM n (f,g,o.Parts)) λs=>bnd (gM l (List.length l) m) λ_=>bnd (idx l m) λt=>i ((List.set l (Int.toNat m)<|aI.mk t.ID t.Kind t.Class t.Name s),(wr<|m+1)))<|i (l,(wr<|m+1)))<|j l
def MI:=pM nG
def BQ: Lc 88 0 2:=bR 0x331db34b617b5eb18b51c250a17006caf67a9f18a9fa45bc86f9709c33f872d9b208ce86a02 dS [] [CB] @nG
def yG: (List Int×List Int×List Aab×List aR×List aI×Int×Int)->(((List Int×List aR×List aI)->Option R)×Unit)->Unit->Option R:=λ(a,b,c,d,f,g,h) (i,_) _=>bnd (MJ n (a,b,c,f,g,h,(ln d)) (d,0)) λj=>bnd (fM n (g,h,a)) λl=>bnd (MI n (l,b,c,j,g,h,(ln f)) (f,0)) λm=>i (l,j,m)
def rH:=zP yG
def yF: Ic:=cR 88 0 3 0x68118e98aaf1d95ec329c1d032a76 dS [⟨0,[BR]⟩,⟨2,[BQ]⟩] [CC] @yG
def xR(n:Nat): ((Nat×Nat)×List Int×List Int×List Aab×List aR×List aI×Int×Int×aR×Int×(Nat×Nat))->(((List aR)->Option R)×Unit)->Unit->Option R:=λ(a,b,c,d,f,g,h,i,j,l,m) (o,_) _=>cnd (j.Left==h) (bnd (idx (win f<|some a) l) λ_=>bnd (idx f<|l+((a.1:Nat):Int)) λr=>o<|List.set f (Int.toNat<|l+((a.1:Nat):Int))<|aR.mk r.ID r.From r.To r.Via i r.Right)<|o f
def Fe:=fK xR
def AX: Lc 88 0 1:=bJ 0x78653661a2949e0fd6c4e8fd4b4cbe18b04b8236cb99311162b58ac73d347e16023c73bb65613b42af4d46 dS [] [] @xR
def nF: ((Nat×Nat)×List Int×List Int×List Aab×List aI×Int×Int×(Nat×Nat)×Int)->((List aR×Int)->Option R)->(((List aR)->Option R)×Unit)->(List aR×Int)->Option R:=λ(a,b,c,d,f,g,h,i,j) l (m,_) (o,r)=>cd (r<j) (bnd (idx (win o<|some i) r) λ_=>bnd (idx o<|r+((i.1:Nat):Int)) λs=>bnd (Fe n (a,b,c,d,o,f,g,h,s,r,i)) λt=>cnd (s.Right==g) (bnd (idx (win t<|some a) r) λ_=>bnd (idx t<|r+((a.1:Nat):Int)) λu=>l ((List.set t (Int.toNat<|r+((a.1:Nat):Int))<|aR.mk u.ID u.From u.To u.Via u.Left h),(wr<|r+1)))<|l (t,(wr<|r+1)))<|m o
def MH:=pM nF
def BO: Lc 88 0 0:=bR 0x848aaf7408f70c6830eaa9fad3fc04adf1fbb0963dd095d88c58be8d365a639bcffb8f1cc1252 dS [⟨0,[cs AX]⟩] [] @nF
def BZ: Ic:=cR 118 11 3 0x144b7277407d2a8f6e1fb dS [] [] @fX
def BX: Ic:=cR 118 12 3 0xe221f544339c473c8aed503 dS [] [] @fX
def nE: ((Nat×Nat)×List Int×List Int×List Aab×List aR×Int×Int×Int)->((List aI×Int)->Option R)->(((List aI)->Option R)×Unit)->(List aI×Int)->Option R:=λ(a,b,c,d,f,g,h,i) j (l,_) (m,o)=>cd (o<i) (bnd (gM m (List.length m) o) λ_=>bnd (idx m o) λr=>bnd (dD n r.Kind) λs=>cnd (s==3) (bnd (fM n (g,h,r.Parts)) λt=>bnd (gM m (List.length m) o) λ_=>bnd (idx m o) λu=>j ((List.set m (Int.toNat o)<|aI.mk u.ID u.Kind u.Class u.Name t),(wr<|o+1)))<|j (m,(wr<|o+1)))<|l m
def MG:=pM nE
def BN: Lc 88 0 2:=bR 0x18c83067adf68ecb3f75cccdcf945a0c0ea6574588d8ccd63d8430c24ffb9c77171e92f1379be5a02 dS [] [BX] @nE
def yE: ((Nat×Nat)×List Int×List Int×List Aab×List aR×List aI×Int×Int)->(((List Int×List aR×List aI)->Option R)×Unit)->Unit->Option R:=λ(a,b,c,d,f,g,h,i) (j,_) _=>bnd (MH n (a,b,c,d,g,h,i,a,((a.2:Nat):Int)) (f,0)) λl=>bnd (fM n (h,i,b)) λm=>bnd (MG n (a,m,c,d,l,h,i,(ln g)) (g,0)) λo=>j (m,l,o)
def Fs:=zP yE
def CA: Ic:=cR 88 0 3 0x841e91cb0f1482db64cb691e1673a3af8474e9ef4bb5a3216 dS [⟨0,[BO]⟩,⟨2,[BN]⟩] [BZ] @yE
def yK: (List Int×List Int×List Aab×List aR×List aI×aN)->((Int->Option R)×((List aR×List aR×Int)->Option R)×((List aR×List aR×List Aab×List aR×List Int×Int)->Option R)×((List Int×List aI×List aR×List aR×List Aab×List aR×List Int)->Option R)×((List aR×Int)->Option R)×((List Int×List aR×List aI×Int×Int)->Option R)×(((Nat×Nat)×List Int×List aR×List aI×Int×Int)->Option R)×(((Nat×Nat)×List aR)->Option R)×Unit)->Unit->Option R:=λ(a,b,c,d,f,g) (h,i,j,l,m,o,r,s,_) _=>cnd (g.Kind==4) (bnd2 (Fw n (a,b,c,d,f,g)) (λt=>h t) λu=>bnd2 (some u) (λv=>i (v.1,v.2.1,v.2.2)) λw=>bnd2 (some w) (λx=>j (x.1,x.2.1,x.2.2.1.Nodes,x.2.2.1.Arcs,x.2.2.1.Faces,x.2.2.2)) λy=>bnd (some y) λz=>l (z.1,z.2.1,z.2.2.1,z.2.2.2.1,z.2.2.2.2.Nodes,z.2.2.2.2.Arcs,z.2.2.2.2.Faces))<|bnd (rP n (aJ.mk (aM.mk c d a) f) g.ID) λa0=>cnd a0.2 (cnd (g.Kind==6) (bnd (cE n g.Via) λb0=>bnd (gM d (List.length d) a0.1) λ_=>bnd (idx d a0.1) λc0=>m ((List.set d (Int.toNat a0.1)<|aR.mk c0.ID c0.From c0.To b0 c0.Left c0.Right),0))<|bnd (iY n (aJ.mk (aM.mk c d a) f) 2 g.ID) λd0=>cd ((ln d0) > 0) (m (d,13))<|bnd (gM d (List.length d) a0.1) λ_=>bnd (idx d a0.1) λf0=>bnd (gM d (List.length d) a0.1) λ_=>bnd (idx d a0.1) λg0=>bnd (Fg n (a,c,d,f,f0.Left,g0.Right)) λh0=>cnd h0 (m (d,13))<|bnd2 (Fu n (a,b,c,d,f,a0.1,(wr<|a0.1+1))) (λ_=>cnd (f0.Left != g0.Right) (bnd (rH n (a,b,c,d,f,(iP f0.Left g0.Right),(pH f0.Left g0.Right))) λi0=>o (i0.1,i0.2.1,i0.2.2,(iP f0.Left g0.Right),(pH f0.Left g0.Right)))<|m (d,0)) λj0=>bnd (some j0) λl0=>cnd (f0.Left != g0.Right) (bnd (Fs n (l0.2,a,b,c,l0.1,f,(iP f0.Left g0.Right),(pH f0.Left g0.Right))) λm0=>r (l0.2,m0.1,m0.2.1,m0.2.2,(iP f0.Left g0.Right),(pH f0.Left g0.Right)))<|s (l0.2,l0.1))<|m (d,7)
def Fx:=λ(n:Nat) p=>bnd (prd n) λn=>yK n p (λt=>some<|Sum.inl t,λt=>some<|Sum.inr<|Sum.inl t,λt=>some<|Sum.inr<|Sum.inr<|Sum.inl t,λt=>some<|Sum.inr<|Sum.inr<|Sum.inr<|Sum.inl t,λt=>some<|Sum.inr<|Sum.inr<|Sum.inr<|Sum.inr<|Sum.inl t,λt=>some<|Sum.inr<|Sum.inr<|Sum.inr<|Sum.inr<|Sum.inr<|Sum.inl t,λt=>some<|Sum.inr<|Sum.inr<|Sum.inr<|Sum.inr<|Sum.inr<|Sum.inr<|Sum.inl t,λt=>some<|Sum.inr<|Sum.inr<|Sum.inr<|Sum.inr<|Sum.inr<|Sum.inr<|Sum.inr t,()) ()
def CH: Ic:=cR 54 0 2 0x59ced57708b5d15363a042a6106f276055f98717bb8775171e1a849a6d23fe279c32330aa09284c70931dced172884d3ef55ce9502078fd61dec432553eb5edfa666d2b51f0361d76299ac59c68e15bdf32f537d5e1115a71ab7ca1245a70eb053624615b9a2dcb722ee0a2250aff4fb0b0b694984682534c7fe210e1f dS [⟨0,[AZ]⟩] [CG,CD,yF,CA] @yK
def AW: Lc 18 0 2:=bJ 0xba5cd4ce3605d8686633632 dS [] [] @fC
def iJ: (aJ×aN×List Int×List Aab×List aR×List aI×Int)->((Bool->Option R)×Unit)->Unit->Option R:=λ(a,b,c,d,f,g,h) (i,_) _=>cnd (h==0) (cnd (b.Kind==3) (bnd (dH n a.Plan (aM.mk d f c) 0) λj=>cnd j (i true)<|i false)<|cnd (b.Kind==6) (bnd (dH n a.Plan (aM.mk d f c) 0) λl=>cnd l (i true)<|i false)<|i false)<|i false
def Fd:=fK iJ
def AR: Lc 18 0 4:=bJ 0x5a28e15c6d8e10f5c59465266ed30 dS [] [] @iJ
def iK: (aJ×aN×List Int×List Aab×List aR×List aI×Int)->((Int->Option R)×Unit)->Unit->Option R:=λ(a,b,c,d,f,g,h) (i,_) _=>bnd (Fd n (a,b,c,d,f,g,h)) λj=>cnd j (i 12)<|i h
def fL:=fK iK
def AU: Lc 18 0 3:=bJ 0x5a1f0848bf2f181fdf577133bdd30 dS [⟨0,[cs AR]⟩] [] @iK
def AQ: Lc 18 0 2:=bJ 0xba5c7b76c53978024af6aa6 dS [] [] @fC
def AN: Lc 18 0 4:=bJ 0x5a28b60beec72b803a17d9c376634 dS [] [] @iJ
def AP: Lc 18 0 3:=bJ 0x5a1edcf8406832aa53dae5d0c5634 dS [⟨0,[cs AN]⟩] [] @iK
def xQ: (List Int×List Aab×List aI×List aR×Int)->((Int->Option R)×Unit)->Unit->Option R:=λ(a,b,c,d,f) (g,_) _=>cnd (f==0) (bnd (eN n<|aJ.mk (aM.mk b d a) c) λh=>g h)<|g f
def Fc:=fK xQ
def AM: Lc 18 0 2:=bJ 0x70765a81dadcac7cecbf1018cc7f0e5f5754735c259437 dS [] [] @xQ
def xO: (aJ×aN×List Int×List Aab×List aI×List aR×Int)->((Bool->Option R)×Unit)->Unit->Option R:=λ(a,b,c,d,f,g,h) (i,_) _=>cnd (h==0) (cnd (b.Kind==3) (bnd (dH n a.Plan (aM.mk d g c) 0) λj=>cnd j (i true)<|i false)<|cnd (b.Kind==6) (bnd (dH n a.Plan (aM.mk d g c) 0) λl=>cnd l (i true)<|i false)<|i false)<|i false
def Fa:=fK xO
def AK: Lc 18 0 4:=bJ 0x8e458dd6e118051b41efa887212197e42db301608f69bf dS [] [] @xO
def xP: (aJ×aN×List Int×List Aab×List aI×List aR×Int)->((Int->Option R)×Unit)->Unit->Option R:=λ(a,b,c,d,f,g,h) (i,_) _=>bnd (Fa n (a,b,c,d,f,g,h)) λj=>cnd j (i 12)<|i h
def Fb:=fK xP
def AL: Lc 18 0 3:=bJ 0x6f8cef857afbc9d8708b87e9105cc5985ae3ea786b69bf dS [⟨0,[cs AK]⟩] [] @xP
def AJ: Lc 18 0 2:=bJ 0x10ba032ca7a4874b1abae dS [] [] @fC
def AG: Lc 18 0 4:=bJ 0x226f110aefa7aa4 dS [] [] @iJ
def AH: Lc 18 0 3:=bJ 0x226b4e483b1bc94 dS [⟨0,[cs AG]⟩] [] @iK
def nC: ((Nat×Nat)×List Int×List Aab×List aR×List aI×Int)->((Int->Option R)×Unit)->Unit->Option R:=λ(a,b,c,d,f,g) (h,_) _=>cnd (g==0) (bnd (eN n<|aJ.mk (aM.mk c (win d<|some a) b) f) λi=>h i)<|h g
def rA:=fK nC
def AF: Lc 18 0 2:=bJ 0x2af3fc63dd03a33237d72c31e12f3aae dS [] [] @nC
def nA: (aJ×aN×(Nat×Nat)×List Int×List Aab×List aR×List aI×Int)->((Bool->Option R)×Unit)->Unit->Option R:=λ(a,b,c,d,f,g,h,i) (j,_) _=>cnd (i==0) (cnd (b.Kind==3) (bnd (dH n a.Plan (aM.mk f (win g<|some c) d) 0) λl=>cnd l (j true)<|j false)<|cnd (b.Kind==6) (bnd (dH n a.Plan (aM.mk f (win g<|some c) d) 0) λm=>cnd m (j true)<|j false)<|j false)<|j false
def Ez:=fK nA
def AD: Lc 18 0 4:=bJ 0x12989c78e94a2cb288b40 dS [] [] @nA
def nB: (aJ×aN×(Nat×Nat)×List Int×List Aab×List aR×List aI×Int)->((Int->Option R)×Unit)->Unit->Option R:=λ(a,b,c,d,f,g,h,i) (j,_) _=>bnd (Ez n (a,b,c,d,f,g,h,i)) λl=>cnd l (j 12)<|j i
def qZ:=fK nB
def AE: Lc 18 0 3:=bJ 0xb54d9279a828a4510500 dS [⟨0,[cs AD]⟩] [] @nB
def AC: Lc 18 0 2:=bJ 0xb6bdaff0ce7ad68379d8 dS [] [] @nC
def AA: Lc 18 0 4:=bJ 0x1ab51e5d2bc0e76420 dS [] [] @nA
def AB: Lc 18 0 3:=bJ 0x1046279a2038a1d710 dS [⟨0,[cs AA]⟩] [] @nB
def xN: (List Int×List Aab×List aR×List aI×aN)->((Int->Option R)×(Unit->Option R)×Unit)->Unit->Option R:=λ(a,b,c,d,f) (g,h,_) _=>bnd (kW n a f.ID) λi=>cnd i (bnd (kW n a f.A) λj=>cnd j (g 8)<|h ())<|g 7
def Ey:=pc2 xN
def Xv: Lc 55 0 0:=bJ 0x13934f3a3ee612a2d0124990b397d76db4b49882b21b83a9894277e1a011133b7e2a8b7a99284b dS [] [] @xN
def yD: (List Int×List Int×List Aab×List aR×List aI×aN)->((Int->Option R)×((List Int×List aR×List aI×Int×Int)->Option R)×Unit)->Unit->Option R:=λ(a,b,c,d,f,g) (h,i,_) _=>bnd2 (Ey n (a,c,d,f,g)) (λj=>h j) λl=>bnd (some l) λ_=>bnd (rH n (a,b,c,d,f,g.ID,g.A)) λm=>i (m.1,m.2.1,m.2.2,g.ID,g.A)
def Fq:=IA yD
def BW: Ic:=cR 55 0 2 0x18770a9a18ffdcabab702a616d07c2f63f55fe91f dS [⟨0,[Xv]⟩] [yF] @yD
def yB(n:Nat): (List Int×List Int×List Aab×List aR×List aI×Int×Int)->((Unit->Option R)×((List aI×(Nat×Nat))->Option R)×Unit)->Unit->Option R:=λ(a,b,c,d,f,g,h) (i,j,_) _=>bnd (Ks<|decide<|0<=g/\g<=h/\h<=(ln f)/\(ln f)<=(ln f)) λ_=>cnd (g==h) (i ())<|bnd (sub f (0,List.length f) 0 g) λl=>bnd (sub f (0,List.length f) h<|ln f) λm=>bnd (MW f l<|win f<|some m) λo=>bnd (sub o (l.1,l.2+List.length (win f<|some m)) (((l.1,l.2+List.length (win f<|some m)).2:Nat):Int)<|ln f) λr=>bnd (clr o r<|aI.mk 0 0 0 (⟨#[]⟩:ByteArray) []) λs=>j (s,(l.1,l.2+List.length (win f<|some m)))
def Fo:=IA yB
def BU: Ic:=cR 92 0 3 0x530ee9eebd24c8ddd10bb8adac9f949c80173119bd5b7a662 dS [] [] @yB
def yC: (List Int×List Int×List Aab×List aR×List aI×aN)->(((List aI×Int)->Option R)×(((Nat×Nat)×List aI)->Option R)×((List aI×Int×Int×Int×ByteArray×List Int×List aI)->Option R)×Unit)->Unit->Option R:=λ(a,b,c,d,f,g) (h,i,j,_) _=>bnd (yL n (aJ.mk (aM.mk c d a) f) g.ID) λl=>cnd l.2 (cnd (g.Kind==7) (h (f,8))<|cnd (g.Kind==8) (bnd2 (Fo n (a,b,c,d,f,l.1,(wr<|l.1+1))) (λ_=>h (f,0)) λm=>bnd (some m) λo=>i (o.2,o.1))<|cnd (g.Kind==9) (bnd (gM f (List.length f) l.1) λ_=>bnd (idx f l.1) λr=>h ((List.set f (Int.toNat l.1)<|aI.mk r.ID r.Kind r.Class g.Name r.Parts),0))<|cnd (g.Kind==10) (bnd (gM f (List.length f) l.1) λ_=>bnd (idx f l.1) λs=>h ((List.set f (Int.toNat l.1)<|aI.mk s.ID s.Kind g.B s.Name s.Parts),0))<|cnd (g.Kind==11) (bnd (bH n g.Parts) λt=>bnd (gM f (List.length f) l.1) λ_=>bnd (idx f l.1) λu=>h ((List.set f (Int.toNat l.1)<|aI.mk u.ID u.Kind u.Class u.Name t),0))<|h (f,0))<|cnd (g.Kind==7) (bnd (bH n g.Parts) λv=>bnd (prd n) λ_=>bnd (aCW f l.1<|aI.mk g.ID g.A g.B g.Name v) λw=>j (w,g.ID,g.A,g.B,g.Name,v,[(aI.mk g.ID g.A g.B g.Name v)]))<|h (f,7)
def Fp:=in3 yC
def BV: Ic:=cR 56 0 2 0x5d3003cecb676e5b2b9d1854f199c9a499b45d49937f5ad719f78019e7f09c8fe0edd15d643c77b768f0d43f135f dS [] [BU] @yC
def xM: (List Int×(Nat×Nat)×List Aab×List aR×List aI×Int)->((Int->Option R)×Unit)->Unit->Option R:=λ(a,b,c,d,f,g) (h,_) _=>cnd (g==0) (bnd (eN n<|aJ.mk (aM.mk c d a)<|win f<|some b) λi=>h i)<|h g
def Ex:=fK xM
def Wu: Lc 18 0 2:=bJ 0x1de57c0bc5ad4dffffa755df60225d29050 dS [] [] @xM
def xK: (aJ×aN×List Int×(Nat×Nat)×List Aab×List aR×List aI×Int)->((Bool->Option R)×Unit)->Unit->Option R:=λ(a,b,c,d,f,g,h,i) (j,_) _=>cnd (i==0) (cnd (b.Kind==3) (bnd (dH n a.Plan (aM.mk f g c) 0) λl=>cnd l (j true)<|j false)<|cnd (b.Kind==6) (bnd (dH n a.Plan (aM.mk f g c) 0) λm=>cnd m (j true)<|j false)<|j false)<|j false
def Ev:=fK xK
def Vy: Lc 18 0 4:=bJ 0x30aee30773232940522bb8caffa9299cd58 dS [] [] @xK
def xL: (aJ×aN×List Int×(Nat×Nat)×List Aab×List aR×List aI×Int)->((Int->Option R)×Unit)->Unit->Option R:=λ(a,b,c,d,f,g,h,i) (j,_) _=>bnd (Ev n (a,b,c,d,f,g,h,i)) λl=>cnd l (j 12)<|j i
def Ew:=fK xL
def Vz: Lc 18 0 3:=bJ 0x1da8ed2163c000cec43e915a5321492bd58 dS [⟨0,[cs Vy]⟩] [] @xL
def vD: Nat->aJ->aN->Option (aJ×Int)
 | 0,_,_=>none
 | n+1,a,b=>bnd (Ju n a) λc=>bnd (Js n b.Kind) λd=>cnd d (bnd2 (tD n (c.2.2.2.2,c.1,c.2.1,c.2.2.1,c.2.2.2.1,b)) (λf=>bnd (cD n (c.2.2.2.2,f.1,c.2.2.1,c.2.2.2.1,f.2)) λg=>bnd (dX n (a,b,c.2.2.2.2,f.1,c.2.2.1,c.2.2.2.1,g,b.ID)) λh=>cnd (h != 0) (some ((aJ.mk (aM.mk [] [] []) []),h))<|some ((aJ.mk (aM.mk f.1 c.2.2.1 c.2.2.2.2) c.2.2.2.1),0)) λi=>bnd2 (some i) (λj=>bnd (rG n (j.1,c.2.2.2.2,j.2,c.2.2.1,c.2.2.2.1,0)) λl=>bnd (rE n (a,b,j.1,c.2.2.2.2,j.2,c.2.2.1,c.2.2.2.1,l,b.ID)) λm=>cnd (m != 0) (some ((aJ.mk (aM.mk [] [] []) []),m))<|some ((aJ.mk (aM.mk (win j.2<|some j.1) c.2.2.1 c.2.2.2.2) c.2.2.2.1),0)) λo=>bnd (some o) λr=>bnd (cD n (c.2.2.2.2,r.1,c.2.2.1,c.2.2.2.1,0)) λs=>bnd (dX n (a,b,c.2.2.2.2,r.1,c.2.2.1,c.2.2.2.1,s,b.ID)) λt=>cnd (t != 0) (some ((aJ.mk (aM.mk [] [] []) []),t))<|some ((aJ.mk (aM.mk r.1 c.2.2.1 c.2.2.2.2) c.2.2.2.1),0))<|bnd (Fk n b.Kind) λu=>cnd u (bnd2 (Fx n (c.2.2.2.2,c.1,c.2.1,c.2.2.1,c.2.2.2.1,b)) (λv=>bnd (cD n (c.2.2.2.2,c.2.1,c.2.2.1,c.2.2.2.1,v)) λw=>bnd (dX n (a,b,c.2.2.2.2,c.2.1,c.2.2.1,c.2.2.2.1,w,0)) λx=>cnd (x != 0) (some ((aJ.mk (aM.mk [] [] []) []),x))<|some ((aJ.mk (aM.mk c.2.1 c.2.2.1 c.2.2.2.2) c.2.2.2.1),0)) λy=>bnd2 (some y) (λz=>bnd (cD n (c.2.2.2.2,c.2.1,c.2.2.1,c.2.2.2.1,z.2.2)) λa0=>bnd (fL n (a,b,c.2.2.2.2,c.2.1,c.2.2.1,c.2.2.2.1,a0)) λb0=>cnd (b0 != 0) (some ((aJ.mk (aM.mk [] [] []) []),b0))<|some ((aJ.mk (aM.mk c.2.1 c.2.2.1 c.2.2.2.2) c.2.2.2.1),0)) λc0=>bnd2 (some c0) (λd0=>bnd (cD n (c.2.2.2.2,c.2.1,c.2.2.1,c.2.2.2.1,d0.2.2.2.2.2)) λf0=>bnd (fL n (a,b,c.2.2.2.2,c.2.1,c.2.2.1,c.2.2.2.1,f0)) λg0=>cnd (g0 != 0) (some ((aJ.mk (aM.mk [] [] []) []),g0))<|some ((aJ.mk (aM.mk c.2.1 c.2.2.1 c.2.2.2.2) c.2.2.2.1),0)) λh0=>bnd2 (some h0) (λi0=>bnd (Fc n (i0.1,c.2.1,i0.2.1,i0.2.2.1,0)) λj0=>bnd (Fb n (a,b,i0.1,c.2.1,i0.2.1,i0.2.2.1,j0)) λl0=>cnd (l0 != 0) (some ((aJ.mk (aM.mk [] [] []) []),l0))<|some ((aJ.mk (aM.mk c.2.1 i0.2.2.1 i0.1) i0.2.1),0)) λm0=>bnd2 (some m0) (λo0=>bnd (cD n (c.2.2.2.2,c.2.1,o0.1,c.2.2.2.1,o0.2)) λr0=>bnd (dX n (a,b,c.2.2.2.2,c.2.1,o0.1,c.2.2.2.1,r0,0)) λs0=>cnd (s0 != 0) (some ((aJ.mk (aM.mk [] [] []) []),s0))<|some ((aJ.mk (aM.mk c.2.1 o0.1 c.2.2.2.2) c.2.2.2.1),0)) λt0=>bnd2 (some t0) (λu0=>bnd (cD n (u0.1,c.2.1,u0.2.1,u0.2.2.1,0)) λv0=>bnd (fL n (a,b,u0.1,c.2.1,u0.2.1,u0.2.2.1,v0)) λw0=>cnd (w0 != 0) (some ((aJ.mk (aM.mk [] [] []) []),w0))<|some ((aJ.mk (aM.mk c.2.1 u0.2.1 u0.1) u0.2.2.1),0)) λx0=>bnd2 (some x0) (λy0=>bnd (rA n (y0.1,y0.2.1,c.2.1,y0.2.2.1,y0.2.2.2.1,0)) λz0=>bnd (qZ n (a,b,y0.1,y0.2.1,c.2.1,y0.2.2.1,y0.2.2.2.1,z0)) λa1=>cnd (a1 != 0) (some ((aJ.mk (aM.mk [] [] []) []),a1))<|some ((aJ.mk (aM.mk c.2.1 (win y0.2.2.1<|some y0.1) y0.2.1) y0.2.2.2.1),0)) λb1=>bnd (some b1) λc1=>bnd (rA n (c1.1,c.2.2.2.2,c.2.1,c1.2,c.2.2.2.1,0)) λd1=>bnd (qZ n (a,b,c1.1,c.2.2.2.2,c.2.1,c1.2,c.2.2.2.1,d1)) λf1=>cnd (f1 != 0) (some ((aJ.mk (aM.mk [] [] []) []),f1))<|some ((aJ.mk (aM.mk c.2.1 (win c1.2<|some c1.1) c.2.2.2.2) c.2.2.2.1),0))<|cnd (b.Kind==12) (bnd2 (Fq n (c.2.2.2.2,c.1,c.2.1,c.2.2.1,c.2.2.2.1,b)) (λg1=>bnd (cD n (c.2.2.2.2,c.2.1,c.2.2.1,c.2.2.2.1,g1)) λh1=>bnd (dX n (a,b,c.2.2.2.2,c.2.1,c.2.2.1,c.2.2.2.1,h1,0)) λi1=>cnd (i1 != 0) (some ((aJ.mk (aM.mk [] [] []) []),i1))<|some ((aJ.mk (aM.mk c.2.1 c.2.2.1 c.2.2.2.2) c.2.2.2.1),0)) λj1=>bnd (some j1) λl1=>bnd (cD n (l1.1,c.2.1,l1.2.1,l1.2.2.1,0)) λm1=>bnd (fL n (a,b,l1.1,c.2.1,l1.2.1,l1.2.2.1,m1)) λo1=>cnd (o1 != 0) (some ((aJ.mk (aM.mk [] [] []) []),o1))<|some ((aJ.mk (aM.mk c.2.1 l1.2.1 l1.1) l1.2.2.1),0))<|bnd2 (Fp n (c.2.2.2.2,c.1,c.2.1,c.2.2.1,c.2.2.2.1,b)) (λr1=>bnd (cD n (c.2.2.2.2,c.2.1,c.2.2.1,r1.1,r1.2)) λs1=>bnd (dX n (a,b,c.2.2.2.2,c.2.1,c.2.2.1,r1.1,s1,0)) λt1=>cnd (t1 != 0) (some ((aJ.mk (aM.mk [] [] []) []),t1))<|some ((aJ.mk (aM.mk c.2.1 c.2.2.1 c.2.2.2.2) r1.1),0)) λu1=>bnd2 (some u1) (λv1=>bnd (Ex n (c.2.2.2.2,v1.1,c.2.1,c.2.2.1,v1.2,0)) λw1=>bnd (Ew n (a,b,c.2.2.2.2,v1.1,c.2.1,c.2.2.1,v1.2,w1)) λx1=>cnd (x1 != 0) (some ((aJ.mk (aM.mk [] [] []) []),x1))<|some ((aJ.mk (aM.mk c.2.1 c.2.2.1 c.2.2.2.2)<|win v1.2<|some v1.1),0)) λy1=>bnd (some y1) λz1=>bnd (cD n (c.2.2.2.2,c.2.1,c.2.2.1,z1.1,0)) λa2=>bnd (fL n (a,b,c.2.2.2.2,c.2.1,c.2.2.1,z1.1,a2)) λb2=>cnd (b2 != 0) (some ((aJ.mk (aM.mk [] [] []) []),b2))<|some ((aJ.mk (aM.mk c.2.1 c.2.2.1 c.2.2.2.2) z1.1),0)
end
end
section
variable {R:Type}(n:Nat)
noncomputable section
def WX: Kn:=bK 18 0x21ed1cf66d0b dS [⟨0,[GG]⟩,⟨1,[BE]⟩,⟨2,[GE,BK,BH,AW,AQ,AM,AJ,AF,AC,Wu]⟩,⟨3,[GD,BJ,BG,AU,AP,AL,AH,AE,AB,Vz]⟩] [GL,GK,CH,BW,BV] vD
abbrev aJt:=WX::dS
def Tj: (aJ×aN×Int)->((Int->Option R)×Unit)->Unit->Option R:=λ(a,b,c) (d,_) _=>bnd (rQ n b) λf=>cnd (f==0) (cnd (c==0) (bnd (eN n a) λg=>d g)<|d f)<|d f
def aB7:=fK Tj
def A9: Lc 12 0 1:=bJ 0x5f8576ddba2aca1b6c259a7d4b681462720d67c0a21b4ac7132c696a52bbbe79d13df aJt [] [] @Tj
def Ti: (aJ×aN×Int)->(((aJ×Int)->Option R)×Unit)->Unit->Option R:=λ(a,b,c) (d,_) _=>cnd (c==0) (bnd (vD n a b) λf=>d (f.1,f.2))<|d (a,c)
def aB6:=fK Ti
def A8: Lc 12 0 2:=bJ 0x4f1dc78f7325c121333d9896dc4e582bc44d30a3601f76504dc9221d2e615adf509dea7b aJt [] [] @Ti
def Tk: (List aN×Int)->((aJ×Int)->Option R)->(((aN×Int×Int)->Option R)×(aJ->Option R)×Unit)->(aJ×Int)->Option R:=λ(a,b) c (d,f,_) (g,h)=>cd (h<b) (bnd (idx a h) λi=>bnd (aB7 n (g,i,h)) λj=>bnd (aB6 n (g,i,j)) λl=>cnd (l.2 != 0) (d (i,h,l.2))<|c (l.1,(wr<|h+1)))<|f g
def aB8:=wO Tk
def B0: Lc 12 0 0:=bR 0x2ee528313bb93a7154e1127450c970b5020f3a7f59c637552b52eed5825f9085b071258c0a2767 aJt [⟨0,[cs A9]⟩,⟨1,[cs A8]⟩] [] @Tk
def GZ: Nat->aJ->(List aN)->Option (aJ×Int×Int)
 | 0,_,_=>none
 | n+1,a,b=>cd ((ln b) > 4096) (some ((aJ.mk (aM.mk [] [] []) []),0,3))<|bnd (a8 n a) λc=>bnd2 (aB8 n (b,(ln b)) (c,0)) (λd=>some ((aJ.mk (aM.mk [] [] []) []),d.2.1,d.2.2)) λf=>bnd (some f) λg=>some (g,(ln b),0)
def aDk: Kn:=bK 12 0x27cec94556f2d3190817 aJt [⟨0,[B0]⟩] [] GZ
abbrev aRi:=aDk::aJt
def iL: Nat->aJ->aN->Option (aJ×Int)
 | 0,_,_=>none
 | n+1,a,b=>bnd (rQ n b) λc=>cnd (c != 0) (some ((aJ.mk (aM.mk [] [] []) []),c))<|bnd (eN n a) λd=>cnd (d != 0) (some ((aJ.mk (aM.mk [] [] []) []),d))<|bnd (vD n a b) λf=>some (f.1,f.2)
def R8: Kn:=bK 4 0x21ed1cf66d0b aRi [] [] iL
abbrev aSW:=R8::aRi
def aOC: Kn:=aOp 67 3 12 ⟨_,_,_,rfl,by decide,by decide⟩ (λn p=>clF n p) (λp=>p) λn p r h=>by obtain⟨m,h1,h2,h3⟩:=aOr h;subst h2;exact⟨m,h1,rfl,h3,rfl,λe=>by cases (e:_=[]);rfl⟩
abbrev aON:=aOC::aSW
def zS: (ByteArray×Int×List aI×Int)->(Int->Option R)->(((Int×Int×Int×ByteArray×List Int×Int×Int×Int×ByteArray×List Int)->Option R)×(Unit->Option R)×Unit)->Int->Option R:=λ(a,b,c,d) f (g,h,_) i=>cd (i<d) (bnd (idx c i) λj=>cnd (j.ID==b) (bnd (clF n j.Parts) λl=>g (j.ID,j.Kind,j.Class,j.Name,l,j.ID,j.Kind,j.Class,j.Name,l))<|f<|wr<|i+1)<|h ()
def PT:=wO zS
def FG: Lc 32 0 0:=bR 0x13395e87ac7e229bc2a6c0ef95b35bfe339e0b850343bf793b65fa4fe983bfc0cfc94915d39566f92 aON [] [] @zS
def iH: Nat->aJ->Int->Option (aI×Bool)
 | 0,_,_=>none
 | n+1,a,b=>bnd2 (PT n ((⟨#[]⟩:ByteArray),b,a.Features,(ln a.Features)) 0) (λc=>some ((aI.mk c.1 c.2.1 c.2.2.1 c.2.2.2.1 c.2.2.2.2.1),true)) λd=>bnd (some d) λ_=>some ((aI.mk 0 0 0 (⟨#[]⟩:ByteArray) []),false)
def VI: Kn:=bK 32 0x223a6234b aON [⟨0,[FG]⟩] [] iH
abbrev aLM:=VI::aON
def Ay(n:Nat): (aR×Int×Int)->((Int->Option R)×Unit)->Unit->Option R:=λ(a,b,c) (d,_) _=>cnd (c==b) (d a.Right)<|d c
def Jn:=fK Ay
def FY: Lc 33 0 0:=bJ 0x1bba24144d03f5620639c1dff4ba62fd2edab72dbb1f48 aLM [] [] @Ay
def Ax(n:Nat): (aN×Int×Int)->((Bool->Option R)×Unit)->Unit->Option R:=λ(a,b,c) (d,_) _=>cnd (a.C != 0) (cd (c > b) (d true)<|d false)<|d false
def Jm:=fK Ax
def FX: Lc 33 0 1:=bJ 0x134ea5be53eb2a4a4766e96dd3f2f48ff9df4b7d8d70ca24d aLM [] [] @Ax
def fG: Nat->aJ->aN->Option (List aN)
 | 0,_,_=>none
 | n+1,a,b=>bnd (oO n a.Plan b.ID) λc=>cnd c.2 (bnd (Jn n (c.1,(iP b.C<|wr<|0-b.C),c.1.Left)) λd=>bnd (Jm n (b,(iP b.C<|wr<|0-b.C),d)) λf=>cnd f (bnd (app [(aN.mk 5 b.ID 0 0 0 (Aaa.mk 0 0) [] (⟨#[]⟩:ByteArray) [])] [(aN.mk 12 (iP b.C<|wr<|0-b.C) d 0 0 (Aaa.mk 0 0) [] (⟨#[]⟩:ByteArray) [])]) λg=>some g)<|some [(aN.mk 5 b.ID 0 0 0 (Aaa.mk 0 0) [] (⟨#[]⟩:ByteArray) [])])<|bnd (Jn n (c.1,(iP b.C<|wr<|0-b.C),c.1.Left)) λh=>bnd (Jm n (b,(iP b.C<|wr<|0-b.C),h)) λi=>cnd i (bnd (app [(aN.mk 5 b.ID 0 0 0 (Aaa.mk 0 0) [] (⟨#[]⟩:ByteArray) [])] [(aN.mk 12 (iP b.C<|wr<|0-b.C) h 0 0 (Aaa.mk 0 0) [] (⟨#[]⟩:ByteArray) [])]) λj=>some j)<|some [(aN.mk 5 b.ID 0 0 0 (Aaa.mk 0 0) [] (⟨#[]⟩:ByteArray) [])]
def VV: Kn:=bK 33 0x2ff498bb1952a29a4d0d2c056c aLM [⟨0,[FY]⟩,⟨1,[FX]⟩] [] fG
abbrev aRh:=VV::aLM
def eO: Nat->aR->Option aN
 | 0,_=>none
 | n+1,a=>bnd (cE n a.Via) λb=>cd (a.Left > a.Right) (some<|aN.mk 4 a.ID a.From a.To a.Left (Aaa.mk 0 0) b (⟨#[]⟩:ByteArray) [])<|cd (a.Left<a.Right) (some<|aN.mk 4 a.ID a.From a.To (wr<|0-a.Right) (Aaa.mk 0 0) b (⟨#[]⟩:ByteArray) [])<|some<|aN.mk 4 a.ID a.From a.To 0 (Aaa.mk 0 0) b (⟨#[]⟩:ByteArray) []
def PV: Kn:=bK 34 0xcc05edde14983c aRh [] [] eO
abbrev aRg:=PV::aRh
def OG: Nat->aJ->aN->Option (List aN×Int)
 | 0,_,_=>none
 | n+1,a,b=>bnd (iL n a b) λc=>cnd (c.2 != 0) (some ([],c.2))<|bnd (fJ n a.Plan b.ID) λd=>cnd d.2 (bnd (oO n a.Plan b.ID) λf=>cnd f.2 (bnd (iH n a b.ID) λg=>cnd g.2 (cnd (b.Kind==1) (some ([(aN.mk 2 b.ID 0 0 0 (Aaa.mk 0 0) [] (⟨#[]⟩:ByteArray) [])],0))<|cnd (b.Kind==2) (some ([(aN.mk 1 b.ID 0 0 0 d.1.At [] (⟨#[]⟩:ByteArray) [])],0))<|cnd (b.Kind==3) (some ([(aN.mk b.Kind b.ID 0 0 0 d.1.At [] (⟨#[]⟩:ByteArray) [])],0))<|cnd (b.Kind==4) (bnd (fG n c.1 b) λh=>some (h,0))<|cnd (b.Kind==5) (bnd (eO n f.1) λi=>some ([i],0))<|cnd (b.Kind==6) (bnd (cE n f.1.Via) λj=>some ([(aN.mk b.Kind b.ID 0 0 0 (Aaa.mk 0 0) j (⟨#[]⟩:ByteArray) [])],0))<|cnd (b.Kind==7) (some ([(aN.mk 8 b.ID 0 0 0 (Aaa.mk 0 0) [] (⟨#[]⟩:ByteArray) [])],0))<|cnd (b.Kind==8) (bnd (bH n g.1.Parts) λl=>some ([(aN.mk 7 b.ID g.1.Kind g.1.Class 0 (Aaa.mk 0 0) [] g.1.Name l)],0))<|cnd (b.Kind==9) (some ([(aN.mk b.Kind b.ID 0 0 0 (Aaa.mk 0 0) [] g.1.Name [])],0))<|cnd (b.Kind==10) (some ([(aN.mk b.Kind b.ID 0 g.1.Class 0 (Aaa.mk 0 0) [] (⟨#[]⟩:ByteArray) [])],0))<|cnd (b.Kind==11) (bnd (bH n g.1.Parts) λm=>some ([(aN.mk b.Kind b.ID 0 0 0 (Aaa.mk 0 0) [] (⟨#[]⟩:ByteArray) m)],0))<|cnd (b.Kind==12) (some ([(aN.mk b.Kind b.A b.ID 0 0 (Aaa.mk 0 0) [] (⟨#[]⟩:ByteArray) [])],0))<|some ([(aN.mk b.Kind b.ID 0 0 0 (Aaa.mk 0 0) [] (⟨#[]⟩:ByteArray) [])],0))<|cnd (b.Kind==1) (some ([(aN.mk 2 b.ID 0 0 0 (Aaa.mk 0 0) [] (⟨#[]⟩:ByteArray) [])],0))<|cnd (b.Kind==2) (some ([(aN.mk 1 b.ID 0 0 0 d.1.At [] (⟨#[]⟩:ByteArray) [])],0))<|cnd (b.Kind==3) (some ([(aN.mk b.Kind b.ID 0 0 0 d.1.At [] (⟨#[]⟩:ByteArray) [])],0))<|cnd (b.Kind==4) (bnd (fG n c.1 b) λo=>some (o,0))<|cnd (b.Kind==5) (bnd (eO n f.1) λr=>some ([r],0))<|cnd (b.Kind==6) (bnd (cE n f.1.Via) λs=>some ([(aN.mk b.Kind b.ID 0 0 0 (Aaa.mk 0 0) s (⟨#[]⟩:ByteArray) [])],0))<|cnd (b.Kind==7) (some ([(aN.mk 8 b.ID 0 0 0 (Aaa.mk 0 0) [] (⟨#[]⟩:ByteArray) [])],0))<|cnd (b.Kind==8) (bnd (bH n g.1.Parts) λt=>some ([(aN.mk 7 b.ID g.1.Kind g.1.Class 0 (Aaa.mk 0 0) [] g.1.Name t)],0))<|cnd (b.Kind==9) (some ([(aN.mk b.Kind b.ID 0 0 0 (Aaa.mk 0 0) [] g.1.Name [])],0))<|cnd (b.Kind==10) (some ([(aN.mk b.Kind b.ID 0 g.1.Class 0 (Aaa.mk 0 0) [] (⟨#[]⟩:ByteArray) [])],0))<|cnd (b.Kind==11) (bnd (bH n g.1.Parts) λu=>some ([(aN.mk b.Kind b.ID 0 0 0 (Aaa.mk 0 0) [] (⟨#[]⟩:ByteArray) u)],0))<|cnd (b.Kind==12) (some ([(aN.mk b.Kind b.A b.ID 0 0 (Aaa.mk 0 0) [] (⟨#[]⟩:ByteArray) [])],0))<|some ([(aN.mk b.Kind b.ID 0 0 0 (Aaa.mk 0 0) [] (⟨#[]⟩:ByteArray) [])],0))<|bnd (iH n a b.ID) λv=>cnd v.2 (cnd (b.Kind==1) (some ([(aN.mk 2 b.ID 0 0 0 (Aaa.mk 0 0) [] (⟨#[]⟩:ByteArray) [])],0))<|cnd (b.Kind==2) (some ([(aN.mk 1 b.ID 0 0 0 d.1.At [] (⟨#[]⟩:ByteArray) [])],0))<|cnd (b.Kind==3) (some ([(aN.mk b.Kind b.ID 0 0 0 d.1.At [] (⟨#[]⟩:ByteArray) [])],0))<|cnd (b.Kind==4) (bnd (fG n c.1 b) λw=>some (w,0))<|cnd (b.Kind==5) (bnd (eO n f.1) λx=>some ([x],0))<|cnd (b.Kind==6) (bnd (cE n f.1.Via) λy=>some ([(aN.mk b.Kind b.ID 0 0 0 (Aaa.mk 0 0) y (⟨#[]⟩:ByteArray) [])],0))<|cnd (b.Kind==7) (some ([(aN.mk 8 b.ID 0 0 0 (Aaa.mk 0 0) [] (⟨#[]⟩:ByteArray) [])],0))<|cnd (b.Kind==8) (bnd (bH n v.1.Parts) λz=>some ([(aN.mk 7 b.ID v.1.Kind v.1.Class 0 (Aaa.mk 0 0) [] v.1.Name z)],0))<|cnd (b.Kind==9) (some ([(aN.mk b.Kind b.ID 0 0 0 (Aaa.mk 0 0) [] v.1.Name [])],0))<|cnd (b.Kind==10) (some ([(aN.mk b.Kind b.ID 0 v.1.Class 0 (Aaa.mk 0 0) [] (⟨#[]⟩:ByteArray) [])],0))<|cnd (b.Kind==11) (bnd (bH n v.1.Parts) λa0=>some ([(aN.mk b.Kind b.ID 0 0 0 (Aaa.mk 0 0) [] (⟨#[]⟩:ByteArray) a0)],0))<|cnd (b.Kind==12) (some ([(aN.mk b.Kind b.A b.ID 0 0 (Aaa.mk 0 0) [] (⟨#[]⟩:ByteArray) [])],0))<|some ([(aN.mk b.Kind b.ID 0 0 0 (Aaa.mk 0 0) [] (⟨#[]⟩:ByteArray) [])],0))<|cnd (b.Kind==1) (some ([(aN.mk 2 b.ID 0 0 0 (Aaa.mk 0 0) [] (⟨#[]⟩:ByteArray) [])],0))<|cnd (b.Kind==2) (some ([(aN.mk 1 b.ID 0 0 0 d.1.At [] (⟨#[]⟩:ByteArray) [])],0))<|cnd (b.Kind==3) (some ([(aN.mk b.Kind b.ID 0 0 0 d.1.At [] (⟨#[]⟩:ByteArray) [])],0))<|cnd (b.Kind==4) (bnd (fG n c.1 b) λb0=>some (b0,0))<|cnd (b.Kind==5) (bnd (eO n f.1) λc0=>some ([c0],0))<|cnd (b.Kind==6) (bnd (cE n f.1.Via) λd0=>some ([(aN.mk b.Kind b.ID 0 0 0 (Aaa.mk 0 0) d0 (⟨#[]⟩:ByteArray) [])],0))<|cnd (b.Kind==7) (some ([(aN.mk 8 b.ID 0 0 0 (Aaa.mk 0 0) [] (⟨#[]⟩:ByteArray) [])],0))<|cnd (b.Kind==8) (bnd (bH n v.1.Parts) λf0=>some ([(aN.mk 7 b.ID v.1.Kind v.1.Class 0 (Aaa.mk 0 0) [] v.1.Name f0)],0))<|cnd (b.Kind==9) (some ([(aN.mk b.Kind b.ID 0 0 0 (Aaa.mk 0 0) [] v.1.Name [])],0))<|cnd (b.Kind==10) (some ([(aN.mk b.Kind b.ID 0 v.1.Class 0 (Aaa.mk 0 0) [] (⟨#[]⟩:ByteArray) [])],0))<|cnd (b.Kind==11) (bnd (bH n v.1.Parts) λg0=>some ([(aN.mk b.Kind b.ID 0 0 0 (Aaa.mk 0 0) [] (⟨#[]⟩:ByteArray) g0)],0))<|cnd (b.Kind==12) (some ([(aN.mk b.Kind b.A b.ID 0 0 (Aaa.mk 0 0) [] (⟨#[]⟩:ByteArray) [])],0))<|some ([(aN.mk b.Kind b.ID 0 0 0 (Aaa.mk 0 0) [] (⟨#[]⟩:ByteArray) [])],0))<|bnd (oO n a.Plan b.ID) λh0=>cnd h0.2 (bnd (iH n a b.ID) λi0=>cnd i0.2 (cnd (b.Kind==1) (some ([(aN.mk 2 b.ID 0 0 0 (Aaa.mk 0 0) [] (⟨#[]⟩:ByteArray) [])],0))<|cnd (b.Kind==2) (some ([(aN.mk 1 b.ID 0 0 0 d.1.At [] (⟨#[]⟩:ByteArray) [])],0))<|cnd (b.Kind==3) (some ([(aN.mk b.Kind b.ID 0 0 0 d.1.At [] (⟨#[]⟩:ByteArray) [])],0))<|cnd (b.Kind==4) (bnd (fG n c.1 b) λj0=>some (j0,0))<|cnd (b.Kind==5) (bnd (eO n h0.1) λl0=>some ([l0],0))<|cnd (b.Kind==6) (bnd (cE n h0.1.Via) λm0=>some ([(aN.mk b.Kind b.ID 0 0 0 (Aaa.mk 0 0) m0 (⟨#[]⟩:ByteArray) [])],0))<|cnd (b.Kind==7) (some ([(aN.mk 8 b.ID 0 0 0 (Aaa.mk 0 0) [] (⟨#[]⟩:ByteArray) [])],0))<|cnd (b.Kind==8) (bnd (bH n i0.1.Parts) λo0=>some ([(aN.mk 7 b.ID i0.1.Kind i0.1.Class 0 (Aaa.mk 0 0) [] i0.1.Name o0)],0))<|cnd (b.Kind==9) (some ([(aN.mk b.Kind b.ID 0 0 0 (Aaa.mk 0 0) [] i0.1.Name [])],0))<|cnd (b.Kind==10) (some ([(aN.mk b.Kind b.ID 0 i0.1.Class 0 (Aaa.mk 0 0) [] (⟨#[]⟩:ByteArray) [])],0))<|cnd (b.Kind==11) (bnd (bH n i0.1.Parts) λr0=>some ([(aN.mk b.Kind b.ID 0 0 0 (Aaa.mk 0 0) [] (⟨#[]⟩:ByteArray) r0)],0))<|cnd (b.Kind==12) (some ([(aN.mk b.Kind b.A b.ID 0 0 (Aaa.mk 0 0) [] (⟨#[]⟩:ByteArray) [])],0))<|some ([(aN.mk b.Kind b.ID 0 0 0 (Aaa.mk 0 0) [] (⟨#[]⟩:ByteArray) [])],0))<|cnd (b.Kind==1) (some ([(aN.mk 2 b.ID 0 0 0 (Aaa.mk 0 0) [] (⟨#[]⟩:ByteArray) [])],0))<|cnd (b.Kind==2) (some ([(aN.mk 1 b.ID 0 0 0 d.1.At [] (⟨#[]⟩:ByteArray) [])],0))<|cnd (b.Kind==3) (some ([(aN.mk b.Kind b.ID 0 0 0 d.1.At [] (⟨#[]⟩:ByteArray) [])],0))<|cnd (b.Kind==4) (bnd (fG n c.1 b) λs0=>some (s0,0))<|cnd (b.Kind==5) (bnd (eO n h0.1) λt0=>some ([t0],0))<|cnd (b.Kind==6) (bnd (cE n h0.1.Via) λu0=>some ([(aN.mk b.Kind b.ID 0 0 0 (Aaa.mk 0 0) u0 (⟨#[]⟩:ByteArray) [])],0))<|cnd (b.Kind==7) (some ([(aN.mk 8 b.ID 0 0 0 (Aaa.mk 0 0) [] (⟨#[]⟩:ByteArray) [])],0))<|cnd (b.Kind==8) (bnd (bH n i0.1.Parts) λv0=>some ([(aN.mk 7 b.ID i0.1.Kind i0.1.Class 0 (Aaa.mk 0 0) [] i0.1.Name v0)],0))<|cnd (b.Kind==9) (some ([(aN.mk b.Kind b.ID 0 0 0 (Aaa.mk 0 0) [] i0.1.Name [])],0))<|cnd (b.Kind==10) (some ([(aN.mk b.Kind b.ID 0 i0.1.Class 0 (Aaa.mk 0 0) [] (⟨#[]⟩:ByteArray) [])],0))<|cnd (b.Kind==11) (bnd (bH n i0.1.Parts) λw0=>some ([(aN.mk b.Kind b.ID 0 0 0 (Aaa.mk 0 0) [] (⟨#[]⟩:ByteArray) w0)],0))<|cnd (b.Kind==12) (some ([(aN.mk b.Kind b.A b.ID 0 0 (Aaa.mk 0 0) [] (⟨#[]⟩:ByteArray) [])],0))<|some ([(aN.mk b.Kind b.ID 0 0 0 (Aaa.mk 0 0) [] (⟨#[]⟩:ByteArray) [])],0))<|bnd (iH n a b.ID) λx0=>cnd x0.2 (cnd (b.Kind==1) (some ([(aN.mk 2 b.ID 0 0 0 (Aaa.mk 0 0) [] (⟨#[]⟩:ByteArray) [])],0))<|cnd (b.Kind==2) (some ([(aN.mk 1 b.ID 0 0 0 d.1.At [] (⟨#[]⟩:ByteArray) [])],0))<|cnd (b.Kind==3) (some ([(aN.mk b.Kind b.ID 0 0 0 d.1.At [] (⟨#[]⟩:ByteArray) [])],0))<|cnd (b.Kind==4) (bnd (fG n c.1 b) λy0=>some (y0,0))<|cnd (b.Kind==5) (bnd (eO n h0.1) λz0=>some ([z0],0))<|cnd (b.Kind==6) (bnd (cE n h0.1.Via) λa1=>some ([(aN.mk b.Kind b.ID 0 0 0 (Aaa.mk 0 0) a1 (⟨#[]⟩:ByteArray) [])],0))<|cnd (b.Kind==7) (some ([(aN.mk 8 b.ID 0 0 0 (Aaa.mk 0 0) [] (⟨#[]⟩:ByteArray) [])],0))<|cnd (b.Kind==8) (bnd (bH n x0.1.Parts) λb1=>some ([(aN.mk 7 b.ID x0.1.Kind x0.1.Class 0 (Aaa.mk 0 0) [] x0.1.Name b1)],0))<|cnd (b.Kind==9) (some ([(aN.mk b.Kind b.ID 0 0 0 (Aaa.mk 0 0) [] x0.1.Name [])],0))<|cnd (b.Kind==10) (some ([(aN.mk b.Kind b.ID 0 x0.1.Class 0 (Aaa.mk 0 0) [] (⟨#[]⟩:ByteArray) [])],0))<|cnd (b.Kind==11) (bnd (bH n x0.1.Parts) λc1=>some ([(aN.mk b.Kind b.ID 0 0 0 (Aaa.mk 0 0) [] (⟨#[]⟩:ByteArray) c1)],0))<|cnd (b.Kind==12) (some ([(aN.mk b.Kind b.A b.ID 0 0 (Aaa.mk 0 0) [] (⟨#[]⟩:ByteArray) [])],0))<|some ([(aN.mk b.Kind b.ID 0 0 0 (Aaa.mk 0 0) [] (⟨#[]⟩:ByteArray) [])],0))<|cnd (b.Kind==1) (some ([(aN.mk 2 b.ID 0 0 0 (Aaa.mk 0 0) [] (⟨#[]⟩:ByteArray) [])],0))<|cnd (b.Kind==2) (some ([(aN.mk 1 b.ID 0 0 0 d.1.At [] (⟨#[]⟩:ByteArray) [])],0))<|cnd (b.Kind==3) (some ([(aN.mk b.Kind b.ID 0 0 0 d.1.At [] (⟨#[]⟩:ByteArray) [])],0))<|cnd (b.Kind==4) (bnd (fG n c.1 b) λd1=>some (d1,0))<|cnd (b.Kind==5) (bnd (eO n h0.1) λf1=>some ([f1],0))<|cnd (b.Kind==6) (bnd (cE n h0.1.Via) λg1=>some ([(aN.mk b.Kind b.ID 0 0 0 (Aaa.mk 0 0) g1 (⟨#[]⟩:ByteArray) [])],0))<|cnd (b.Kind==7) (some ([(aN.mk 8 b.ID 0 0 0 (Aaa.mk 0 0) [] (⟨#[]⟩:ByteArray) [])],0))<|cnd (b.Kind==8) (bnd (bH n x0.1.Parts) λh1=>some ([(aN.mk 7 b.ID x0.1.Kind x0.1.Class 0 (Aaa.mk 0 0) [] x0.1.Name h1)],0))<|cnd (b.Kind==9) (some ([(aN.mk b.Kind b.ID 0 0 0 (Aaa.mk 0 0) [] x0.1.Name [])],0))<|cnd (b.Kind==10) (some ([(aN.mk b.Kind b.ID 0 x0.1.Class 0 (Aaa.mk 0 0) [] (⟨#[]⟩:ByteArray) [])],0))<|cnd (b.Kind==11) (bnd (bH n x0.1.Parts) λi1=>some ([(aN.mk b.Kind b.ID 0 0 0 (Aaa.mk 0 0) [] (⟨#[]⟩:ByteArray) i1)],0))<|cnd (b.Kind==12) (some ([(aN.mk b.Kind b.A b.ID 0 0 (Aaa.mk 0 0) [] (⟨#[]⟩:ByteArray) [])],0))<|some ([(aN.mk b.Kind b.ID 0 0 0 (Aaa.mk 0 0) [] (⟨#[]⟩:ByteArray) [])],0)
def B1: Kn:=bK 13 0xb73de2a81dfe0342c9d4 aRg [] [] OG
abbrev aOM:=B1::aRg
def nM(n:Nat): (List Aaa×List Aaa×Int)->(Int->Option R)->((Unit->Option R)×(Unit->Option R)×Unit)->Int->Option R:=λ(a,b,c) d (f,g,_) h=>cd (h<c) (bnd (idx a h) λi=>bnd (idx b h) λj=>cd (i=j) (d<|wr<|h+1)<|f ())<|g ()
def Kl:=wO nM
def Di: Lc 94 0 0:=bR 0x10682ccdf822d949fcdc8 aOM [] [] @nM
def vS: Nat->(List Aaa)->(List Aaa)->Option Bool
 | 0,_,_=>none
 | n+1,a,b=>cnd ((ln a) != (ln b)) (some false)<|bnd2 (Kl n (a,b,(ln a)) 0) (λ_=>some false) λc=>bnd (some c) λ_=>some true
def Lr: Kn:=bK 94 0x12feb608db89ddc aOM [⟨0,[Di]⟩] [] vS
abbrev B9:=Lr::aOM
def pQ(n:Nat): (aR×aR)->((Bool->Option R)×Unit)->Unit->Option R:=λ(a,b) (c,_) _=>cnd (a.From==b.From) (cnd (a.To==b.To) (cnd (a.Left==b.Left) (cnd (a.Right==b.Right) (c true)<|c false)<|c false)<|c false)<|c false
def uS:=fK pQ
def La: Lc 58 0 1:=bJ 0x232f4b8672d12834067cb5d4d6130902ea41e8a21738cb9ae77935e846efbac447 B9 [] [] @pQ
def pP: (List Aaa×List Aaa)->((Bool->Option R)×Unit)->Unit->Option R:=λ(a,b) (c,_) _=>bnd (vS n a b) λd=>cnd d (c true)<|c false
def So:=fK pP
def Kz: Lc 58 0 2:=bJ 0x298a772b95af73872304df4aab05da96b625b78bfbc8ee170c49664940 B9 [] [] @pP
def Ky: Lc 58 0 2:=bJ 0x16c88c06686f779ffca08b133f3c11dae9ee56db8 B9 [] [] @eH
def Kx: Lc 58 0 2:=bJ 0x437dd7d45c148a6f28c5a80f0590f6e0 B9 [] [] @eH
def pS: (aM×aM×List aR×Int)->((List Int×(List<|Int×Bool)×Int)->Option R)->(((List Int×(List<|Int×Bool))->Option R)×Unit)->(List Int×(List<|Int×Bool)×Int)->Option R:=λ(a,b,c,d) f (g,_) (h,i,j)=>cd (j<d) (bnd (idx c j) λl=>bnd (oO n b l.ID) λm=>cnd m.2 (bnd (eZ n a l.ID) λo=>bnd (eZ n b l.ID) λr=>bnd (uS n (l,m.1)) λs=>cnd s (bnd (So n (o.1,r.1)) λt=>cnd t (f (h,i,(wr<|j+1)))<|bnd (app h [l.Left,l.Right]) λu=>f (u,(kS i l.ID true),(wr<|j+1)))<|bnd (dN n ()) λ_=>bnd (app h [l.Left,l.Right]) λv=>f (v,(kS i l.ID true),(wr<|j+1)))<|bnd (eZ n a l.ID) λ_=>bnd (eZ n b l.ID) λ_=>bnd (uS n (l,m.1)) λw=>cnd w (bnd (dN n ()) λ_=>bnd (app h [l.Left,l.Right]) λx=>f (x,(kS i l.ID true),(wr<|j+1)))<|bnd (dN n ()) λ_=>bnd (app h [l.Left,l.Right]) λy=>f (y,(kS i l.ID true),(wr<|j+1)))<|g (h,i)
def Sq:=pM pS
def Ld: Lc 58 0 0:=bR 0xb3d11ee03a9a72d45381b75e5f71541a40dc8659362075ef182c2025cfbc9c2b1c952e4b3a2b69f6644570b7d6b387ac67e08e8dfc09f76a B9 [⟨0,[cs La]⟩,⟨1,[cs Kz,cs Ky,cs Kx]⟩] [] @pS
def pO: (List Int×Int)->((Bool->Option R)×Unit)->Unit->Option R:=λ(a,b) (c,_) _=>cnd (b != 0) (bnd (kW n a b) λd=>cnd d (c true)<|c false)<|c false
def Sn:=fK pO
def Kw: Lc 95 0 0:=bJ 0x1aefaa81c5b95201afbd7fa8ff8cb1af508 B9 [] [] @pO
def pT: (List Int×Int)->((Bool->Option R)×Unit)->Unit->Option R:=λ(a,b) (c,_) _=>bnd (Sn n (a,b)) λd=>cnd d (c true)<|c false
def uT:=zP pT
def Lf: Ic:=cR 95 0 2 0x2375996e9ef086477d432b80788d21d6508 B9 [⟨0,[Kw]⟩] [] @pT
def pR: (aM×List Int×(List<|Int×Bool)×List aR×Int)->((List Aaa×Int)->Option R)->(((List Aaa)->Option R)×Unit)->(List Aaa×Int)->Option R:=λ(a,b,c,d,f) g (h,_) (i,j)=>cd (j<f) (bnd (idx d j) λl=>cnd ((Option.getD (cK c l.ID) false)) (bnd (eZ n a l.ID) λm=>bnd (app i m.1) λo=>g (o,(wr<|j+1)))<|bnd (uT n (b,l.Left)) λr=>cnd r (bnd (eZ n a l.ID) λs=>bnd (app i s.1) λt=>g (t,(wr<|j+1)))<|bnd (uT n (b,l.Right)) λu=>cnd u (bnd (eZ n a l.ID) λv=>bnd (app i v.1) λw=>g (w,(wr<|j+1)))<|g (i,(wr<|j+1)))<|h i
def Sp:=pM pR
def Lb: Lc 58 0 3:=bR 0x34466e9fb7c8cf9aaa5762ad7cd2d377677bb82e258a3cfc7895866963b646e0b9b22dffbd5efed6a1629ed179c31bf2a5989ecb40078184bd6 B9 [] [Lf] @pR
def Gb: Nat->aM->aM->Option (List Aaa)
 | 0,_,_=>none
 | n+1,a,b=>bnd (Sq n (a,b,a.Arcs,(ln a.Arcs)) ([],[],0)) λc=>bnd (Sp n (a,c.1,c.2,a.Arcs,(ln a.Arcs)) ([],0)) λd=>some d
def CI: Kn:=bK 58 0x41bd7ad148586bab93fa8795d2f5bf8d B9 [⟨0,[Ld]⟩,⟨3,[Lb]⟩] [] Gb
abbrev aOL:=CI::B9
def Dk(n:Nat): (List Aaa×Int)->((Int×Int×Int×Int×Int)->Option R)->(((Int×Int×Int×Int)->Option R)×Unit)->(Int×Int×Int×Int×Int)->Option R:=λ(a,b) c (d,_) (f,g,h,i,j)=>cd (j<b) (bnd (idx a j) λl=>c ((pH f l.X),(pH g l.Y),(iP h l.X),(iP i l.Y),(wr<|j+1)))<|d (f,g,h,i)
def SQ:=pM Dk
def JD: Lc 20 0 0:=bR 0xfff4cb6f4c239208cb0a7981f4a5778b591dc2cb3b29813d6ac2bf1eb aOL [] [] @Dk
def sG: Nat->(List Aaa)->Option Cw
 | 0,_=>none
 | n+1,a=>cnd ((ln a)==0) (some<|Cw.mk 0 0 (-1) (-1))<|bnd (idx a 0) λb=>bnd (idx a 0) λc=>bnd (idx a 0) λd=>bnd (idx a 0) λf=>bnd (SQ n (a,(ln a)) (b.X,c.Y,d.X,f.Y,0)) λg=>some<|Cw.mk g.1 g.2.1 g.2.2.1 g.2.2.2
def v6: Kn:=bK 20 0x125041183b44 aOL [⟨0,[JD]⟩] [] sG
abbrev aCc:=v6::aOL
def uO: (aJ×List Int×Int)->((List Aaa×Int)->Option R)->(((List Aaa)->Option R)×Unit)->(List Aaa×Int)->Option R:=λ(a,b,c) d (f,_) (g,h)=>cd (h<c) (bnd (idx b h) λi=>bnd (fJ n a.Plan i) λj=>cnd j.2 (bnd (app g [j.1.At]) λl=>d (l,(wr<|h+1)))<|d (g,(wr<|h+1)))<|f g
def FR:=pM uO
def Se: Lc 23 0 0:=bR 0x25a98312af75e5b694f850a7aa19fb931457493c5982069e31b87240f4459226d8ca19cc5b9434549 aCc [] [] @uO
def lZ: (aJ×List Aaa×Int)->(((List Aaa)->Option R)×Unit)->Unit->Option R:=λ(a,b,c) (d,_) _=>bnd (eZ n a.Plan c) λf=>cnd (f.2==0) (bnd (app b f.1) λg=>d g)<|d b
def Aq:=zP lZ
def Sg: Ic:=cR 60 0 3 0x525eb08df417eec21cde728f323de44f179ed01deda35d037cc9 aCc [] [] @lZ
def uN: (aJ×List Int×Int)->((List Aaa×Int)->Option R)->(((List Aaa)->Option R)×Unit)->(List Aaa×Int)->Option R:=λ(a,b,c) d (f,_) (g,h)=>cd (h<c) (bnd (idx b h) λi=>bnd (Aq n (a,g,i)) λj=>d (j,(wr<|h+1)))<|f g
def FQ:=pM uN
def Sd: Lc 23 0 1:=bR 0x2e278ab6a09d62b2300f0e584d38087c955c43b804b1ef68765dcafe3b7574756d44f1d6979 aCc [] [Sg] @uN
def uL: (aI×aR)->((Bool->Option R)×Unit)->Unit->Option R:=λ(a,b) (c,_) _=>bnd (cX n a.Parts b.Left) λd=>cnd d (c true)<|bnd (cX n a.Parts b.Right) λf=>cnd f (c true)<|c false
def FO:=fK uL
def Sb: Lc 23 0 3:=bJ 0x1ac1c96f7a0d4fbbcf41a649b56ad0f92ecdb33bd68699f1d8da4501a2ad61c447981d3ed6133f96b aCc [] [] @uL
def Sf: Ic:=cR 60 0 3 0x1bce5051d9b33a7346e352e02cf9cec054138b61f2892e8d3fedfedaca465 aCc [] [] @lZ
def uM: (aJ×aI×List aR×Int)->((List Aaa×Int)->Option R)->(((List Aaa)->Option R)×Unit)->(List Aaa×Int)->Option R:=λ(a,b,c,d) f (g,_) (h,i)=>cd (i<d) (bnd (idx c i) λj=>bnd (FO n (b,j)) λl=>cnd l (bnd (Aq n (a,h,j.ID)) λm=>f (m,(wr<|i+1)))<|f (h,(wr<|i+1)))<|g h
def FP:=pM uM
def Sc: Lc 23 0 2:=bR 0x54273e02e6fa10fdcc12dbed39d099241ba444083d531f54dcd1282f453a9bf3d69d31820fdb2eceed0b103f3cb2 aCc [⟨0,[cs Sb]⟩] [Sf] @uM
def xJ: Nat->aJ->Int->Option (Cw×Bool)
 | 0,_,_=>none
 | n+1,a,b=>bnd (iH n a b) λc=>cnd c.2 (bnd (dD n c.1.Kind) λd=>cnd (d==1) (bnd (FR n (a,c.1.Parts,(ln c.1.Parts)) ([],0)) λf=>cnd ((ln f)==0) (some ((Cw.mk 0 0 0 0),false))<|bnd (sG n f) λg=>some (g,true))<|cnd (d==2) (bnd (FQ n (a,c.1.Parts,(ln c.1.Parts)) ([],0)) λh=>cnd ((ln h)==0) (some ((Cw.mk 0 0 0 0),false))<|bnd (sG n h) λi=>some (i,true))<|cnd (d==3) (bnd (FP n (a,c.1,a.Plan.Arcs,(ln a.Plan.Arcs)) ([],0)) λj=>cnd ((ln j)==0) (some ((Cw.mk 0 0 0 0),false))<|bnd (sG n j) λl=>some (l,true))<|some ((Cw.mk 0 0 0 0),false))<|some ((Cw.mk 0 0 0 0),false)
def LP: Kn:=bK 23 0x18d0b7fe25987381d5 aCc [⟨0,[Se]⟩,⟨1,[Sd]⟩,⟨2,[Sc]⟩] [] xJ
abbrev aCb:=LP::aCc
def Bn(n:Nat): (Aab×Aab)->((Bool->Option R)×Unit)->Unit->Option R:=λ(a,b) (c,_) _=>cd (b=a) (c false)<|c true
def QF:=fK Bn
def GV: Lc 19 0 1:=bJ 0x1e47b0f6c09de6ada40d529a40088ca48270cce0a0308c3d90dba1a850 aCb [] [] @Bn
def GU: Lc 19 0 1:=bJ 0xff53e564dc8fe203aa3a20b0905c32343210888eb7a aCb [] [] @eH
def Bp: (aJ×List Aab×Int)->((List Aaa×Int)->Option R)->(((List Aaa)->Option R)×Unit)->(List Aaa×Int)->Option R:=λ(a,b,c) d (f,_) (g,h)=>cd (h<c) (bnd (idx b h) λi=>bnd (fJ n a.Plan i.ID) λj=>cnd j.2 (bnd (QF n (i,j.1)) λl=>cnd l (bnd (app g [i.At]) λm=>d (m,(wr<|h+1)))<|d (g,(wr<|h+1)))<|bnd (dN n ()) λ_=>bnd (app g [i.At]) λo=>d (o,(wr<|h+1)))<|f g
def QH:=pM Bp
def GX: Lc 19 0 0:=bR 0x16cfbed76f51ee9c98f3d25c18783531b360dbb2fb15b55d0e5a4aea4e51a49d05c7cbde5b56ec5c3 aCb [⟨0,[cs GV,cs GU]⟩] [] @Bp
def Bm: (aI×aI)->((Bool->Option R)×Unit)->Unit->Option R:=λ(a,b) (c,_) _=>cnd (a.Kind==b.Kind) (cnd (a.Class==b.Class) (cd (a.Name=b.Name) (bnd (kN n a.Parts b.Parts) λd=>cnd d (c true)<|c false)<|c false)<|c false)<|c false
def QE:=fK Bm
def GT: Lc 19 0 3:=bJ 0x1513760d965ade93ff5fa0e0cf0db5ad121dd7b98b127df748455835d44a0 aCb [] [] @Bm
def GS: Lc 19 0 3:=bJ 0xb1bc35ceb069f1616ee9468ac8f0cb9877be36ee07f53a aCb [] [] @eH
def Bo: (aJ×aJ×List aI×Int)->((List Aaa×Int)->Option R)->(((List Aaa)->Option R)×Unit)->(List Aaa×Int)->Option R:=λ(a,b,c,d) f (g,_) (h,i)=>cd (i<d) (bnd (idx c i) λj=>bnd (iH n b j.ID) λl=>cnd l.2 (bnd (QE n (j,l.1)) λm=>cnd m (f (h,(wr<|i+1)))<|bnd (xJ n a j.ID) λo=>cnd o.2 (bnd (app h [(Aaa.mk o.1.X0 o.1.Y0),(Aaa.mk o.1.X1 o.1.Y1)]) λr=>f (r,(wr<|i+1)))<|f (h,(wr<|i+1)))<|bnd (dN n ()) λ_=>bnd (xJ n a j.ID) λs=>cnd s.2 (bnd (app h [(Aaa.mk s.1.X0 s.1.Y0),(Aaa.mk s.1.X1 s.1.Y1)]) λt=>f (t,(wr<|i+1)))<|f (h,(wr<|i+1)))<|g h
def QG:=pM Bo
def GW: Lc 19 0 2:=bR 0xaf54078ecfba8b53c7ffef97600f5514eba4bdf24c1a232d39b23f3efdd8bac1ee1cef609c78ea0e13c aCb [⟨0,[cs GT,cs GS]⟩] [] @Bo
def Ie: Nat->aJ->aJ->Option (List Aaa)
 | 0,_,_=>none
 | n+1,a,b=>bnd (QH n (b,a.Plan.Nodes,(ln a.Plan.Nodes)) ([],0)) λc=>bnd (Gb n a.Plan b.Plan) λd=>bnd (app c d) λf=>bnd (QG n (a,b,a.Features,(ln a.Features)) (f,0)) λg=>bnd (Ks true) λ_=>some g
def b7: Kn:=bK 19 0x1361334a9ee2d09efa751 aCb [⟨0,[GX]⟩,⟨2,[GW]⟩] [] Ie
abbrev aRe:=b7::aCb
def GY: Nat->aJ->aN->Option (Cw×Int)
 | 0,_,_=>none
 | n+1,a,b=>bnd (iL n a b) λc=>cnd (c.2 != 0) (some ((Cw.mk 0 0 0 0),c.2))<|bnd (Ie n a c.1) λd=>bnd (Ie n c.1 a) λf=>bnd (app d f) λg=>bnd (sG n g) λh=>some (h,0)
def b8: Kn:=bK 6 0x21ed20d7558b aRe [] [] GY
abbrev aOK:=b8::aRe
def Cb(n:Nat): (List Int×List Int)->(Int->Option R)->((Unit->Option R)×(Unit->Option R)×Unit)->Int->Option R:=λ(a,b) c (d,f,_) g=>cd (g<(ln a)) (bnd (idx a g) λh=>bnd (idx b g) λi=>cnd (h != i) (d ())<|c<|wr<|g+1)<|f ()
def QV:=wO Cb
def HS: Lc 14 0 0:=bR 0x1067d52099a6388bac24d aOK [] [] @Cb
def Is: Nat->(List Int)->(List Int)->Option Bool
 | 0,_,_=>none
 | n+1,a,b=>cnd ((ln a) != (ln b)) (some false)<|bnd2 (QV n (a,b) 0) (λ_=>some false) λc=>bnd (some c) λ_=>some true
def o7: Kn:=bK 14 0x1b47bfe354b6 aOK [⟨0,[HS]⟩] [] Is
abbrev aOJ:=o7::aOK
def Cc(n:Nat): (List Aaa×List Aaa)->(Int->Option R)->((Unit->Option R)×(Unit->Option R)×Unit)->Int->Option R:=λ(a,b) c (d,f,_) g=>cd (g<(ln a)) (bnd (idx a g) λh=>bnd (idx b g) λi=>cd (h=i) (c<|wr<|g+1)<|d ())<|f ()
def QW:=wO Cc
def HV: Lc 68 0 0:=bR 0x1067d5209a4850284f84d aOJ [] [] @Cc
def HW: Nat->(List Aaa)->(List Aaa)->Option Bool
 | 0,_,_=>none
 | n+1,a,b=>cnd ((ln a) != (ln b)) (some false)<|bnd2 (QW n (a,b) 0) (λ_=>some false) λc=>bnd (some c) λ_=>some true
def p8: Kn:=bK 68 0x12feb608db89ddc aOJ [⟨0,[HV]⟩] [] HW
abbrev aOI:=p8::aOJ
def Bz: (aN×aN)->((Bool->Option R)×Unit)->Unit->Option R:=λ(a,b) (c,_) _=>cnd (a.Kind==b.Kind) (cnd (a.ID==b.ID) (cnd (a.A==b.A) (cnd (a.B==b.B) (cnd (a.C==b.C) (cd (a.At=b.At) (cd (a.Name=b.Name) (bnd (HW n a.Via b.Via) λd=>cnd d (bnd (Is n a.Parts b.Parts) λf=>cnd f (c true)<|c false)<|c false)<|c false)<|c false)<|c false)<|c false)<|c false)<|c false)<|c false
def QT:=fK Bz
def HO: Lc 37 0 0:=bJ 0x1c17c2db4061b6f aOI [] [] @Bz
def HP: Nat->aN->aN->Option Bool
 | 0,_,_=>none
 | n+1,a,b=>bnd (QT n (a,b)) λc=>cnd c (some true)<|some false
def o5: Kn:=bK 37 0x12feb402581b584 aOI [⟨0,[HO]⟩] [] HP
abbrev aOH:=o5::aOI
def yS: (List aN×List aN)->(Int->Option R)->((Unit->Option R)×(Unit->Option R)×Unit)->Int->Option R:=λ(a,b) c (d,f,_) g=>cd (g<(ln a)) (bnd (idx a g) λh=>bnd (idx b g) λi=>bnd (HP n h i) λj=>cnd j (c<|wr<|g+1)<|d ())<|f ()
def NA:=wO yS
def CV: Lc 15 0 0:=bR 0x7f428056c3b3147632a8fa405d aOH [] [] @yS
def Tu: Nat->(List aN)->(List aN)->Option Bool
 | 0,_,_=>none
 | n+1,a,b=>cnd ((ln a) != (ln b)) (some false)<|bnd2 (NA n (a,b) 0) (λ_=>some false) λc=>bnd (some c) λ_=>some true
def QS: Kn:=bK 15 0x12feb458c3586e8 aOH [⟨0,[CV]⟩] [] Tu
abbrev aLL:=QS::aOH
def Oo(n:Nat): (Int×Int×Int×Int×Int×Int×Int×Int×Int×Int×Int×Int)->((Bool->Option R)×Unit)->Unit->Option R:=λ(a,b,c,d,f,g,h,i,j,l,m,o) (r,_) _=>cnd (a != 2) (r true)<|cnd (b != 0) (r true)<|cnd (c != 1) (r true)<|cnd (d != 12) (r true)<|cnd (f != 1) (r true)<|cnd (g != 12) (r true)<|cnd (h != 0) (r true)<|cnd (i != 13) (r true)<|cnd (j != 8) (r true)<|cnd (l != 0) (r true)<|cnd (m != 0) (r true)<|cnd (o != 0) (r true)<|r false
def T9:=fK Oo
def n5: Lc 3 0 0:=bJ 0x20036e00c93cf01981f39e282a6a706c191f415585c3a8dd256d45bd1b83881b6c26ec62850 aLL [] [] @Oo
def On: (aJ×Cw×List aN)->((Bool->Option R)×Unit)->Unit->Option R:=λ(a,b,c) (d,_) _=>cnd ((ln a.Plan.Arcs)==2) (bnd (idx a.Plan.Arcs 0) λf=>cnd (f.Left==7) (bnd (idx a.Plan.Arcs 1) λg=>cnd (g.Left==7) (bnd (idx a.Plan.Arcs 1) λh=>cnd (h.Right==1) (cnd ((ln a.Features)==1) (bnd (idx a.Features 0) λi=>bnd (Is n i.Parts [1,7]) λj=>cnd j (bnd (Tu n c [(aN.mk 5 2 0 0 0 (Aaa.mk 0 0) [] (⟨#[]⟩:ByteArray) [])]) λl=>cnd l (cd (b=(Cw.mk 0 0 10 10)) (bnd (rQ n<|aN.mk 13 0 0 0 0 (Aaa.mk 0 0) [] (⟨#[]⟩:ByteArray) []) λm=>cnd (m==9) (bnd (rQ n<|aN.mk 5 1 1 0 0 (Aaa.mk 0 0) [] (⟨#[]⟩:ByteArray) []) λo=>cnd (o==1) (d true)<|d false)<|d false)<|d false)<|d false)<|d false)<|d false)<|d false)<|d false)<|d false)<|d false
def T8:=fK On
def m9: Lc 3 0 1:=bJ 0xd3af8665f82a794ed8909ae0c835d4c580dc4243cbb04c24d619ac68af5049e aLL [] [] @On
def kY: Nat->Option Bool
 | 0=>none
 | n+1=>bnd (Io n 1) λa=>bnd (GZ n (aJ.mk (aM.mk [] [] []) []) a) λb=>bnd (Io n 0) λc=>bnd (GZ n (aJ.mk (aM.mk [] [] []) []) c) λd=>bnd (Io n (-1)) λf=>bnd (GZ n (aJ.mk (aM.mk [] [] []) []) f) λg=>bnd (iL n b.1<|aN.mk 7 5 5 1 0 (Aaa.mk 0 0) [] (⟨#[85,114]⟩:ByteArray) [1]) λh=>bnd (iL n h.1<|aN.mk 5 1 0 0 0 (Aaa.mk 0 0) [] (⟨#[]⟩:ByteArray) []) λi=>bnd (iL n h.1<|aN.mk 12 1 1 0 0 (Aaa.mk 0 0) [] (⟨#[]⟩:ByteArray) []) λj=>bnd (iL n h.1<|aN.mk 4 2 1 1 7 (Aaa.mk 0 0) [(Aaa.mk 1 4),(Aaa.mk 5 5),(Aaa.mk 4 1)] (⟨#[]⟩:ByteArray) []) λl=>bnd (OG n h.1<|aN.mk 4 2 1 1 7 (Aaa.mk 0 0) [(Aaa.mk 1 4),(Aaa.mk 5 5),(Aaa.mk 4 1)] (⟨#[]⟩:ByteArray) []) λm=>bnd (GY n h.1<|aN.mk 4 2 1 1 7 (Aaa.mk 0 0) [(Aaa.mk 1 4),(Aaa.mk 5 5),(Aaa.mk 4 1)] (⟨#[]⟩:ByteArray) []) λo=>bnd (T9 n (b.2.1,b.2.2,d.2.1,d.2.2,g.2.1,g.2.2,h.2,i.2,j.2,l.2,m.2,o.2)) λr=>cnd r (some false)<|bnd (T8 n (l.1,o.1,m.1)) λs=>cnd s (some true)<|some false
def aBT: Kn:=bK 3 0x9d7dee940f50e0d57 aLL [⟨0,[n5]⟩,⟨1,[m9]⟩] [] kY
end
end
section
variable {R:Type}(n:Nat)
noncomputable section
abbrev aOG:=aBT::aLL
def Iv(n:Nat): (aM×Int)->(Int->Option R)->(((Int×Int×Int×Int×Int×Int×Int×Int×Int×Int)->Option R)×((Int×Int×Int×Int×Int×Int×Int×Int×Int×Int×List Aaa)->Option R)×(Unit->Option R)×Unit)->Int->Option R:=λ(a,b) c (d,f,g,_) h=>cd (h<(ln a.Arcs)) (bnd (idx a.Arcs h) λi=>cnd (i.ID==b) (bnd (idx a.Arcs h) λj=>cnd (List.isEmpty j.Via) (d (j.ID,j.From,j.To,j.Left,j.Right,j.ID,j.From,j.To,j.Left,j.Right))<|bnd (app ([]:List Aaa) j.Via) λl=>f (j.ID,j.From,j.To,j.Left,j.Right,j.ID,j.From,j.To,j.Left,j.Right,l))<|c<|wr<|h+1)<|g ()
def aD4:=lp3 Iv
def V0: Lc 5 0 0:=bR 0x813e2c900f65b1947f0b6e1ebac76fe16f5a04c17e455e59fc9933a31dc021163d07357f6100992ba6a83ea2ae5125b5f239c6195c504bfa828f763c85e5bba407b6eebcfea03a5b748fbe7f152 aOG [] [] @Iv
def V1: Nat->aM->Int->Option (aR×Bool)
 | 0,_,_=>none
 | n+1,a,b=>bnd2 (aD4 n (a,b) 0) (λc=>some ((aR.mk c.1 c.2.1 c.2.2.1 [] c.2.2.2.1 c.2.2.2.2.1),true)) λd=>bnd2 (some d) (λf=>some ((aR.mk f.1 f.2.1 f.2.2.1 f.2.2.2.2.2.2.2.2.2.2 f.2.2.2.1 f.2.2.2.2.1),true)) λg=>bnd (some g) λ_=>some ((aR.mk 0 0 0 [] 0 0),false)
def aG7: Kn:=bK 5 0x17d3eefdc93d aOG [⟨0,[V0]⟩] [] V1
abbrev aJs:=aG7::aOG
def yQ(n:Nat): aN->((Bool->Option R)×Unit)->Unit->Option R:=λa (b,_) _=>cnd (a.Kind==4) (cnd (a.C != 0) (b true)<|b false)<|b false
def Gj:=fK yQ
def CS: Lc 0 0 1:=bJ 0x6b54b0290dc66360fa13c08b1aec4384984967f66cd aJs [] [] @yQ
def yR: (aN×Int)->((Int->Option R)×Unit)->Unit->Option R:=λ(a,b) (c,_) _=>bnd (Gj n a) λd=>cnd d (c<|wr<|b+1)<|c b
def Gk:=fK yR
def CT: Lc 0 0 0:=bJ 0x1bba243cc24e77a6a78c465d1157c5290be1933ee612dd aJs [⟨0,[cs CS]⟩] [] @yR
def yP(n:Nat): (aN×aR)->((Bool->Option R)×Unit)->Unit->Option R:=λ(a,b) (c,_) _=>cnd (a.Kind==5) (cnd (b.Left != b.Right) (c true)<|c false)<|c false
def Gi:=fK yP
def CQ: Lc 0 0 2:=bJ 0x195083fbebcbcd433c3c15fd39127a175ba5403fef67d63fe562446bcd aJs [] [] @yP
def yO(n:Nat): aN->((Unit->Option R)×Unit)->Unit->Option R:=λa (b,_) _=>cnd (a.Kind==5) (b ())<|b ()
def Gh:=fK yO
def CP: Lc 0 0 2:=bJ 0x11a04fc6c09bb86862177a75991ac588b761a7d1b8d3c3a7a9946bfbcd1cc aJs [] [] @yO
def sA: Nat->aJ->aN->Option Bool
 | 0,_,_=>none
 | n+1,a,b=>bnd (T7 n a [b]) λc=>cnd c (bnd (iL n a b) λd=>cnd (d.2 != 0) (bnd (kY n) λf=>cnd f (some true)<|some false)<|bnd (Gk n (b,(ln a.Plan.Faces))) λg=>bnd (V1 n a.Plan b.ID) λh=>cnd h.2 (bnd (Gi n (b,h.1)) λi=>cnd i (cnd ((ln d.1.Plan.Faces)==(wr<|g-1)) (bnd (kY n) λj=>cnd j (some true)<|some false)<|some false)<|cnd ((ln d.1.Plan.Faces)==g) (bnd (kY n) λl=>cnd l (some true)<|some false)<|some false)<|bnd (Gh n b) λ_=>cnd ((ln d.1.Plan.Faces)==g) (bnd (kY n) λm=>cnd m (some true)<|some false)<|some false)<|bnd (kY n) λo=>cnd o (some true)<|some false
def Kg: Kn:=bK 0 0x6da3bb1dbac22f8d582c aJs [⟨0,[CT]⟩,⟨2,[CQ,CP]⟩] [] sA
end
end
def aB{α:Type}(f:Nat->Nat->Option α)(P:α->Prop): Prop:=∃r,P r/\∃K,∀n m,K<=n->K<=m->f n m=some r
section
variable {α β γ:Type}{P:α->Prop}{Q:β->Prop}{R:γ->Prop}
theorem aA{x:α}(h:P x): aB (λ_ _=>some x) P:=⟨x,h,0,λ_ _ _ _=>rfl⟩
theorem aB.imp{a:α->Prop}{f:Nat->Nat->Option α}(h:aB f P)(k:∀r,P r->a r): aB f a:=by
 let⟨r,b,K,c⟩:=h;exact⟨r,k r b,K,c⟩
theorem aE{f:Nat->Nat->Option β}{g:Nat->Nat->β->Option α}(h:aB f Q)(k:∀r,Q r->aB (λn m=>g n m r) P): aB (λn m=>Av.bnd (f n m)<|g n m) P:=by
 let⟨r,a,K,d⟩:=h;let⟨s,b,J,c⟩:=k r a;refine⟨s,b,max K J,λn m j l=>?_⟩;have i:=d n m (by omega)<|by omega
 show Av.bnd (f n m) (g n m)=some s;rw[i];exact c n m (by omega)<|by omega
theorem aF{o:Option β}{g:Nat->Nat->β->Option α}{x:β}(e:o=some x)(k:aB (λn m=>g n m x) P): aB (λn m=>Av.bnd o<|g n m) P:=by
 subst e;exact k
def Su(Q:β->Prop)(R:γ->Prop): β⊕γ->Prop
 | .inl a=>Q a
 | .inr b=>R b
theorem aS{f:Nat->Nat->Option (β⊕γ)}{g:Nat->Nat->β->Option α}{k:Nat->Nat->γ->Option α}(h:aB f<|Su Q R)(o:∀a,Q a->aB (λn m=>g n m a) P)(l:∀b,R b->aB (λn m=>k n m b) P): aB (λn m=>Av.bnd2 (f n m) (g n m)<|k n m) P:=by
 let⟨r,j,K,i⟩:=h;cases r with
 | inl a=>
  let⟨s,d,J,c⟩:=o a j;refine⟨s,d,max K J,λn m q p=>?_⟩;show Av.bnd2 (f n m) (g n m) (k n m)=some s;rw[i n m (by omega)<|by omega];exact c n m (by omega)<|by omega
 | inr a=>
  let⟨s,d,J,c⟩:=l a j;refine⟨s,d,max K J,λn m q p=>?_⟩;show Av.bnd2 (f n m) (g n m) (k n m)=some s;rw[i n m (by omega)<|by omega];exact c n m (by omega)<|by omega
theorem aC{b:Bool}{x y:Nat->Nat->Option α}(c:b=true->aB x P)(a:b=false->aB y P): aB (λn m=>Av.cnd b (x n m)<|y n m) P:=by
 cases b with
 | true=>exact c rfl
 | false=>exact a rfl
theorem aU{g:Nat->Nat->Nat->Option α}(h:aB (λn m=>g (n+1) m n) P): aB (λn m=>Av.bnd (Av.prd n)<|g n m) P:=by
 let⟨r,a,K,b⟩:=h;refine⟨r,a,K+1,λn m c d=>?_⟩;cases n with
 | zero=>omega
 | succ n=>exact b n m (by omega)<|by omega
theorem aX{f:Nat->Option α}{g:Nat->Option α}(e:∀n,f (n+1)=g n)(h:aB (λn _=>g n) P): aB (λn _=>f n) P:=by
 let⟨r,a,K,b⟩:=h;refine⟨r,a,K+1,λn m c d=>?_⟩;cases n with
 | zero=>omega
 | succ n=>show f (n+1)=some r;rw[e];exact b n m (by omega)<|by omega
theorem aB.lp{f:Nat->Nat->Option α}{g:Nat->Nat->Option α}(e:∀n m,f n (m+1)=g n m)(h:aB g P): aB f P:=by
 let⟨r,a,K,b⟩:=h;refine⟨r,a,K+1,λn m c d=>?_⟩;cases m with
 | zero=>omega
 | succ m=>rw[e];exact b n m (by omega)<|by omega
theorem bA{f:Nat->Nat->Option α}(h:aB f P): aB (λn _=>f n n) P:=by
 let⟨r,b,K,c⟩:=h;exact⟨r,b,K,λn m a d=>c n n a a⟩
theorem MY{f:Nat->Option α}(h:aB (λn _=>f n) P): aB (λn _=>f<|n+1) P:=by
 let⟨r,a,K,c⟩:=h;exact⟨r,a,K,λn m d b=>c (n+1) m (by omega) b⟩
theorem bB{l:List β}{i:Nat}{f:Nat->Nat->β->Option α}{e:Nat->Nat->Option α}(c:∀x,l[i]?=some x->i<l.length->aB (λn m=>f n m x) P)(b:l.length<=i->aB e P):
 aB (λn m=>Av.cnd (decide<|(i:Int)<((l.length:Nat):Int)) (Av.bnd (idx l (i:Int))<|f n m)<|e n m) P:=by
 refine aC (λh=>?_) λh=>b ?_
 .have a:i<l.length:=by have:=Zl h;omega
  exact aF (x:=l[i]) (by rw[bF];exact Zb a)<|c _ (Zb a) a
 .have:=Zp h;omega
theorem aB.uniq{f:Nat->Nat->Option α}{r:α}(h:aB f λx=>x=r)(k:aB f P): P r:=by
 let⟨_,rfl,K,d⟩:=h;let⟨s,e,J,g⟩:=k;have c:=d (max K J) (max K J) (by omega)<|by omega
 have b:=g (max K J) (max K J) (by omega)<|by omega
 rw[c] at b;cases b;exact e
theorem aB.val{f:Nat->Nat->Option α}(k:aB f P): ∃r,P r/\aB f λx=>x=r:=by
 let⟨s,a,J,b⟩:=k;exact⟨s,a,s,rfl,J,b⟩
theorem l7{l:List α}{x:α}(h:l.length<=100000): app l [x]=some (l++[x]):=CO<|by simp;omega
end
def qN{Q V X:Type}(B:Nat->Q->(V->Option X)->((X->Option X)×Unit)->V->Option X)(n m:Nat)(p:Q)(q:V): Option X:=lpB (λk q=>B n p k (λt=>some t,()) q) m q
def zN{Q V X Y:Type}(B:Nat->Q->(V->Option (X⊕Y))->((X->Option (X⊕Y))×(Y->Option (X⊕Y))×Unit)->V->Option (X⊕Y))(n m:Nat)(p:Q)(q:V): Option<|X⊕Y:=lpB (λk q=>B n p k (λt=>some<|.inl t,λt=>some<|.inr t,()) q) m q
def lm3{Q V X Y Z:Type}(B:Nat->Q->(V->Option (X⊕Y⊕Z))->((X->Option (X⊕Y⊕Z))×(Y->Option (X⊕Y⊕Z))×(Z->Option (X⊕Y⊕Z))×Unit)->V->Option (X⊕Y⊕Z))(n m:Nat)(p:Q)(q:V): Option<|X⊕Y⊕Z:=lpB (λk q=>B n p k (λt=>some<|.inl t,λt=>some<|.inr<|.inl t,λt=>some<|.inr<|.inr t,()) q) m q
theorem bZ{Q V X:Type}{P:X->Prop}{B:Nat->Q->(V->Option X)->((X->Option X)×Unit)->V->Option X}{p:Q}{q:V}(h:aB (λn m=>B n p (λq=>qN B n m p q) (λt=>some t,()) q) P): aB (λn m=>qN B n m p q) P:=aB.lp (λ_ _=>rfl) h
theorem cC{Q V X Y:Type}{P:X⊕Y->Prop}{B:Nat->Q->(V->Option (X⊕Y))->((X->Option (X⊕Y))×(Y->Option (X⊕Y))×Unit)->V->Option (X⊕Y)}{p:Q}{q:V}(h:aB (λn m=>B n p (λq=>zN B n m p q) (λt=>some<|.inl t,λt=>some<|.inr t,()) q) P): aB (λn m=>zN B n m p q) P:=aB.lp (λ_ _=>rfl) h
theorem aD1{Q V X Y Z:Type}{P:X⊕Y⊕Z->Prop}{B:Nat->Q->(V->Option (X⊕Y⊕Z))->((X->Option (X⊕Y⊕Z))×(Y->Option (X⊕Y⊕Z))×(Z->Option (X⊕Y⊕Z))×Unit)->V->Option (X⊕Y⊕Z)}{p:Q}{q:V}(h:aB (λn m=>B n p (λq=>lm3 B n m p q) (λt=>some<|.inl t,λt=>some<|.inr<|.inl t,λt=>some<|.inr<|.inr t,()) q) P): aB (λn m=>lm3 B n m p q) P:=aB.lp (λ_ _=>rfl) h
abbrev Tt{α:Type}(f:Nat->Nat->Option α): Prop:=aB f λ_=>True
theorem i64_in(x:Int)(h:-9223372036854775808<=x/\x<=9223372036854775807): IntKind.i64.wrap x=x:=by rw[Xe];omega
theorem cA{i:Nat}(h:i<1000000): wr ((i:Int)+1)=((i+1:Nat):Int):=by rw[wr,i64_in _<|by omega];push_cast;rfl
def yY{α:Type}(l:List α)(i:Nat)(Q:α->Prop): Prop:=∀(j:Nat) (x:α),j<i->l[j]?=some x->Q x
theorem yY.nil{α:Type}{l:List α}{Q:α->Prop}: yY l 0 Q:=λj x h _=>by omega
theorem yY.step{α:Type}{l:List α}{i:Nat}{Q:α->Prop}{x:α}(h:yY l i Q)(d:l[i]?=some x)(e:Q x): yY l (i+1) Q:=λj y f b=>by
 by_cases c:j=i
 .subst c;rw[d] at b;cases b;exact e
 .exact h j y (by omega) b
theorem yY.fin{α:Type}{l:List α}{i:Nat}{Q:α->Prop}(h:yY l i Q)(c:l.length<=i): ∀x∈l,Q x:=λx b=>by
 let⟨j,a⟩:=Yi.1 b;exact h j x (by have:=(Ze.1 a).1;omega) a
structure Sm(p:aM): Prop where
 n:p.Nodes.length<=300
 a:p.Arcs.length<=300
 f:p.Faces.length<=300
 v:∀a∈p.Arcs,a.Via.length<=300
theorem aBk(p:List Aab)(d:p.length<=300)(i:Nat)(l:List Int)(b:l=(p.take i).map Aab.ID): aB (λn m=>qN jE n m (p,ln p) (l,(i:Int))) λr=>r=p.map Aab.ID:=
 bZ<|bB (λx e c=>aF (l7<|by rw[b];simp;omega)<|by
  rw[cA<|by omega];exact aBk p d (i+1) _<|by rw[b,YX,e];simp)
  (λa=>aA<|by rw[b,ZW a])
termination_by p.length-i
theorem aBj(p:List aR)(d:p.length<=300)(i:Nat)(l:List Int)(b:l=(p.take i).map aR.ID): aB (λn m=>qN jD n m (p,ln p) (l,(i:Int))) λr=>r=p.map aR.ID:=
 bZ<|bB (λx e c=>aF (l7<|by rw[b];simp;omega)<|by
  rw[cA<|by omega];exact aBj p d (i+1) _<|by rw[b,YX,e];simp)
  (λa=>aA<|by rw[b,ZW a])
termination_by p.length-i
theorem aQf(p:aM)(b:Sm p): aB (λn _=>qI n p) λr=>r=(p.Nodes.map Aab.ID,p.Arcs.map aR.ID):=
 aX (λ_=>rfl)<|aE (bA<|aBk _ b.n 0 [] rfl) λv d=>aE (bA<|aBj _ b.a 0 [] rfl) λw c=>aA<|by rw[d,c]
def Asc(l:List Int): Prop:=∀j x y,l[j]?=some x->l[j+1]?=some y->x<y
theorem k8(l:List Int)(k:l.length<=1000)(i:Nat)(p:1<=i)(f:∀j x y,j+1<i->l[j]?=some x->l[j+1]?=some y->x<y): aB (λn m=>zN kU n m l (i:Int))<|Su (λ_=>True) λ_=>Asc l:=
 cC<|aC (λh=>by
  have d:i<l.length:=by have:(i:Int)<(l.length:Int):=Zl h;omega
  have o:wr ((i:Int)-1)=((i-1:Nat):Int):=by rw[wr,i64_in _<|by omega];omega
  rw[o];refine aF (x:=l[i-1]) (by rw[bF];exact Zb<|by omega)<|aF (x:=l[i]) (by rw[bF];exact Zb d)<|aC (λ_=>aA trivial) λg=>?_;rw[cA<|by omega];refine k8 l k (i+1) (by omega) λj x y q c b=>?_;by_cases e:j+1=i
  .subst e;rw[Zb<|by omega] at c b;cases c;cases b;have:=Zp g;simp only[Nat.add_sub_cancel] at this;omega
  .exact f j x y (by omega) c b)
  (λh=>aA λj x y c b=>by
   have:¬(i:Int)<(l.length:Int):=Zp h;exact f j x y (by have:=(Ze.1 b).1;omega) c b)
termination_by l.length-i
theorem aJa(l:List Int)(a:l.length<=1000): aB (λn _=>kD n l) λr=>r=true->Asc l:=
 aX (λ_=>rfl)<|aS (bA<|k8 l a 1 (by omega) λj x y b _ _=>by omega) (λ_ _=>aA<|by simp) λ_ h=>aA λ_=>h
theorem aHP(x:Int): aB (λn _=>qH n x) λr=>r=false->1<=x/\x<=1073741824:=
 aX (λ_=>rfl)<|aC (λ_=>aA<|by simp) λb=>aC (λ_=>aA<|by simp) λa=>aA λ_=>by
  have:=Zp b;have:=Zp a;omega
theorem aAI(l:List Int)(f:l.length<=1000)(i:Nat)(b:yY l i λx=>1<=x/\x<=1073741824): aB (λn m=>zN mT n m (l,ln l) (i:Int)) (Su (λv=>0<=v) λ_=>∀x∈l,1<=x/\x<=1073741824):=
 cC<|bB (λx e c=>aE (aHP x) λr d=>aC (λ_=>aA<|by show (0:Int)<=(i:Int);omega) λh=>by
  rw[cA<|by omega];exact aAI l f (i+1)<|b.step e<|d h)
  (λa=>aA<|b.fin a)
termination_by l.length-i
theorem aHQ(l:List Int)(b:l.length<=1000): aB (λn _=>mI n l) λr=>r=true->∀x∈l,1<=x/\x<=1073741824:=
 aX (λ_=>rfl)<|aE (Q:=λr=>r=false->∀x∈l,1<=x/\x<=1073741824) (aU<|aE (Q:=λv=>0<=v\/∀x∈l,1<=x/\x<=1073741824) (aU<|aS (bA<|aAI l b 0 .nil) (λv a=>aA<|.inl a) λ_ h=>aA<|.inr h)
  λv a=>aC (λ_=>aA<|by simp) λh=>aA λ_=>by have:=Zp h;rcases a with a | a;omega;exact a)
  λr c=>aC (λ_=>aA<|by simp) λh=>aA λ_=>c h
def Iw(x:Aaa): Prop:=-1048576<=x.X/\x.X<=1048576/\-1048576<=x.Y/\x.Y<=1048576
theorem NO(x:Aaa): aB (λn _=>oM n x) λr=>r=false->Iw x:=
 aC (λ_=>aA<|by simp) λb=>aC (λ_=>aA<|by simp) λc=>aC (λ_=>aA<|by simp) λa=>aC (λ_=>aA<|by simp) λd=>aA λ_=>by
 have:=Zp b;have:=Zp c;have:=Zp a;have:=Zp d;exact⟨by omega,by omega,by omega,by omega⟩
theorem aDw{P:Bool->Prop}{b:Bool}(h:P b): aB (λ_ _=>cnd b (some true)<|some false) P:=by cases b<;>exact aA h
theorem aAB(x:Aaa): aB (λn _=>wE n x) λr=>r=false->Iw x:=
 aX (λ_=>rfl)<|aE (NO x) λr a=>aDw a
theorem NR(l:List Aab)(f:l.length<=300)(i:Nat)(c:yY l i λx=>Iw x.At): aB (λn m=>zN qG n m (l,ln l) (i:Int)) (Su (λ_=>True) λ_=>∀x∈l,Iw x.At):=
 cC<|bB (λx e d=>aE (Q:=λr=>r=false->Iw x.At) (aU<|aE (NO x.At) λr b=>aDw b) λr b=>aC (λ_=>aA trivial) λh=>by
  rw[cA<|by omega];exact NR l f (i+1)<|c.step e<|b h)
  (λa=>aA<|c.fin a)
termination_by l.length-i
theorem NP(l:List Aaa)(f:l.length<=300)(i:Nat)(b:yY l i Iw): aB (λn m=>zN qE n m (l,ln l) (i:Int)) (Su (λv=>0<=v) λ_=>∀x∈l,Iw x):=
 cC<|bB (λx e c=>aE (aAB x) λr d=>aC (λ_=>aA<|by show (0:Int)<=(i:Int);omega) λh=>by
  rw[cA<|by omega];exact NP l f (i+1)<|b.step e<|d h)
  (λa=>aA<|b.fin a)
termination_by l.length-i
theorem NQ(l:List aR)(j:l.length<=300)(b:∀a∈l,a.Via.length<=300)(i:Nat)(e:yY l i λa=>∀y∈a.Via,Iw y): aB (λn m=>zN qF n m (l,ln l) (i:Int)) (Su (λ_=>True) λ_=>∀a∈l,∀y∈a.Via,Iw y):=
 cC<|bB (λx d f=>aE (Q:=λr=>r=false->∀y∈x.Via,Iw y) (aU<|aE (Q:=λv=>0<=v\/∀y∈x.Via,Iw y) (aU<|aS (bA<|NP x.Via (b x<|Zg d) 0 .nil) (λv b=>aA<|.inl b) λ_ h=>aA<|.inr h)
  λv b=>aC (λ_=>aA<|by simp) λh=>aA λ_=>by have:=Zp h;rcases b with b | b;omega;exact b) λr g=>aC (λ_=>aA trivial) λh=>by
  rw[cA<|by omega];exact NQ l j b (i+1)<|e.step d<|g h)
  (λc=>aA<|e.fin c)
termination_by l.length-i
theorem aH3(p:aM)(b:Sm p): aB (λn _=>Mh n p) λr=>r=true->(∀x∈p.Nodes,Iw x.At)/\∀a∈p.Arcs,∀y∈a.Via,Iw y:=
 aX (λ_=>rfl)<|aS (bA<|NR _ b.n 0 .nil) (λ_ _=>aA<|by simp) λ_ d=>aS (bA<|NQ _ b.a b.v 0 .nil) (λ_ _=>aA<|by simp) λ_ c=>aA λ_=>⟨d,c⟩
theorem r9(l:List Int)(x:Int)(g:l.length<=100000)(i:Nat)(d:yY l i (·≠x)): aB (λn m=>zN jA n m (l,x,ln l) (i:Int))<|Su (λv=>0<=v/\v.toNat<l.length/\x∈l) λ_=>x∉l:=
 cC<|bB (λy f b=>aC (λh=>aA<|by
  refine⟨by omega,by simpa using b,?_⟩;rw[Wi h];exact Zg f) λh=>by
  rw[cA<|by omega];exact r9 l x g (i+1)<|d.step f λe=>by subst e;simp at h)
  (λc=>aA λh=>d.fin c x h rfl)
termination_by l.length-i
theorem aFs(l:List Int)(x:Int)(b:l.length<=100000): aB (λn _=>kM n l x) λr=>(0<=r/\r.toNat<l.length/\x∈l)\/(r=-1/\x∉l):=
 aX (λ_=>rfl)<|aS (bA<|r9 l x b 0 .nil) (λv a=>aA<|.inl a) λ_ h=>aA<|.inr ⟨rfl,h⟩
theorem yU(l:List Int)(x:Int)(b:l.length<=100000): aB (λn _=>cX n l x) λr=>r=decide (x∈l):=
 aX (λ_=>rfl)<|aE (aFs l x b) λr a=>aC (λh=>aA (by
  rcases a with a | a
  .simp[a.2.2]
  .have:=Zl h;omega)) λh=>aA (by
  rcases a with a | a
  .have:=Zp h;omega
  .simp[a.2])
theorem aIO{α:Type}{l:List α}{a b:Nat}(d:a<=b)(c:b<=l.length): cut l (a:Int) (b:Int)=some ((l.take b).drop a):=by
 unfold cut;rw[Zu<|by omega];simp
theorem I3(x:Aab)(l:List Aab)(b:l.length<=300)(i:Nat): aB (λn m=>zN lL n m (x,l,ln l) (i:Int))<|Su (λ_=>True) λ_=>True:=
 cC<|bB (λy c a=>aC (λ_=>aA trivial) λ_=>by
  rw[cA<|by omega];exact I3 x l b<|i+1) λ_=>aA trivial
termination_by l.length-i
theorem I4(p:aM)(b:Sm p)(i:Nat): aB (λn m=>zN lM n m (p,p.Nodes,ln p.Nodes) (i:Int))<|Su (λ_=>True) λ_=>True:=
 cC<|bB (λy d c=>aF (aIO (a:=0) (ZG i)<|by omega)<|aS (bA<|I3 y _ (by simp;have:=b.n;omega) 0) (λ_ _=>aA trivial) λ_ _=>by
  have:=b.n;rw[cA<|by omega];exact I4 p b<|i+1) λ_=>aA trivial
termination_by p.Nodes.length-i
theorem aGn(x:aR)(a:List Int)(d:a.length<=100000): aB (λn _=>zI n (x,a)) λr=>r=false->x.From∈a/\x.To∈a:=
 aE (yU a x.From d) λr b=>aC (λe=>aE (yU a x.To d) λs c=>aC (λf=>aA λ_=>by rw[e] at b;rw[f] at c;exact⟨Zl b.symm,Zl c.symm⟩) λ_=>aA<|by simp) λ_=>aA<|by simp
theorem I2(a:List Int)(c:a.length<=100000)(l:List aR)(g:l.length<=300)(i:Nat)(d:yY l i λx=>x.From∈a/\x.To∈a): aB (λn m=>zN lK n m (a,l,ln l) (i:Int)) (Su (λ_=>True) λ_=>∀x∈l,x.From∈a/\x.To∈a):=
 cC<|bB (λy f e=>aE (aGn y a c) λr j=>aC (λ_=>aA trivial) λh=>by
  rw[cA<|by omega];exact I2 a c l g (i+1)<|d.step f<|j h) λb=>aA<|d.fin b
termination_by l.length-i
theorem I0(p:aM)(b:Sm p)(x:Int): aB (λn _=>oN n (p,x)) λr=>r=false->x=0\/x∈p.Faces:=
 aC (λh=>aE (yU p.Faces x<|by have:=b.f;omega) λr a=>aC (λh=>aA λ_=>by rw[h] at a;exact .inr<|Zl a.symm) λ_=>aA<|by simp) λh=>aA λ_=>.inl<|by simpa using h
theorem n7{α:Type}{P:α->Prop}{k:Nat}{g:Nat->Nat->Unit->Option α}(h:aB (λn m=>g n m ()) P): aB (λn m=>Av.bnd (Ks<|Nat.ble k n)<|g n m) P:=by
 let⟨r,a,K,b⟩:=h;refine⟨r,a,K+k,λn m c d=>?_⟩;have:Ks (Nat.ble k n)=some ():=by rw[Yx (by omega:k<=n)];rfl
 show Av.bnd (Ks<|Nat.ble k n) (g n m)=some r;rw[this];exact b n m (by omega)<|by omega
theorem I1(p:aM)(c:Sm p)(l:List aR)(f:l.length<=300)(i:Nat)(d:yY l i λx=>(x.Left=0\/x.Left∈p.Faces)/\(x.Right=0\/x.Right∈p.Faces)): aB (λn m=>zN lJ n m (p,l,ln l) (i:Int)) (Su (λ_=>True) λ_=>∀x∈l,(x.Left=0\/x.Left∈p.Faces)/\(x.Right=0\/x.Right∈p.Faces)):=
 cC<|bB (λy k e=>n7<|aE (I0 p c y.Left) λr j=>aC (λ_=>aA trivial) λh=>aE (I0 p c y.Right) λs b=>aC (λ_=>aA trivial) λg=>by
  rw[cA<|by omega];exact I1 p c l f (i+1)<|d.step k ⟨j h,b g⟩) λa=>aA<|d.fin a
termination_by l.length-i
theorem aOj(p:aM)(c:Sm p)(b:List Int)(d:b.length<=100000): aB (λn _=>wH n p b) λr=>r=0->(∀x∈p.Arcs,x.From∈b/\x.To∈b)/\∀x∈p.Arcs,(x.Left=0\/x.Left∈p.Faces)/\(x.Right=0\/x.Right∈p.Faces):=
 aX (λ_=>rfl)<|aS (bA<|I4 p c 0) (λ_ _=>aA<|by simp) λ_ _=>aS (bA<|I2 b d _ c.a 0 .nil) (λ_ _=>aA<|by simp) λ_ e=>aS (bA<|I1 p c _ c.a 0 .nil) (λ_ _=>aA<|by simp) λ_ f=>aA λ_=>⟨e,f⟩
end Go.Proofs.YtabioopnpgiijaaGreatDoor.Av
