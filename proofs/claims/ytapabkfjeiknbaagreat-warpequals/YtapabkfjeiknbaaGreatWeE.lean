/- A part of the proof of a law of the chapter warp: an evaluator of the program, proved sound, and what it says. -/
import Derived.Test.YtapabkfjeiknbaaGreatWeTab
import Derived.Test.YtapabkfjeiknbaaGreatAvMap
import Derived.KernelRfl
import Derived.Test.YtapabkfjeiknbaaGreatWeTb
import Derived.Shelf.SlSortCmp.NoneTotal
import Derived.Shelf.Sort.Plain
import Derived.Shelf.Slices.In.SortNone
import Derived.Test.YtapabkfjeiknbaaGreatRows
import Derived.ChangeSame
import Derived.JoinedOf
import Derived.WideMake
import Derived.Lay
import Derived.MakeChecks
set_option linter.unusedVariables false
set_option linter.unusedSimpArgs false
namespace Go.Proofs.YtapabkfjeiknbaaGreat.Av
open Go
theorem chk0 : eH PP T F0=true:=by kernel_rfl
theorem chk1 : eH PP T F1=true:=by kernel_rfl
theorem chk2 : eH PP T F2=true:=by kernel_rfl
theorem chk3 : eH PP T F3=true:=by kernel_rfl
theorem chk4 : eH PP T F4=true:=by kernel_rfl
theorem chk5 : eH PP T F5=true:=by kernel_rfl
theorem chk6 : eH PP T F6=true:=by kernel_rfl
theorem chk7 : eH PP T F7=true:=by kernel_rfl
theorem chk8 : eH PP T F8=true:=by kernel_rfl
theorem chk9 : eH PP T F9=true:=by kernel_rfl
theorem bLv : eH PP T F10=true:=by kernel_rfl
theorem bLu : eH PP T F11=true:=by kernel_rfl
theorem bLt : eH PP T F12=true:=by kernel_rfl
theorem bLs : eH PP T F13=true:=by kernel_rfl
theorem bLr : eH PP T F14=true:=by kernel_rfl
theorem bLq : eH PP T F15=true:=by kernel_rfl
theorem bLp : eH PP T F16=true:=by kernel_rfl
theorem bLo : eH PP T F17=true:=by kernel_rfl
theorem bLn : eH PP T F18=true:=by kernel_rfl
theorem bLm : eH PP T F19=true:=by kernel_rfl
theorem bLl : eH PP T F20=true:=by kernel_rfl
theorem bLk : eH PP T F21=true:=by kernel_rfl
theorem bLj : eH PP T F22=true:=by kernel_rfl
theorem bLi : eH PP T F23=true:=by kernel_rfl
theorem bLh : eH PP T F24=true:=by kernel_rfl
end Go.Proofs.YtapabkfjeiknbaaGreat.Av
namespace Go.Proofs.YtapabkfjeiknbaaGreat.Av
open Go
theorem bLg : eH PP T F25=true:=by kernel_rfl
theorem bLf : eH PP T F26=true:=by kernel_rfl
theorem bLe : eH PP T F27=true:=by kernel_rfl
theorem bLd : eH PP T F28=true:=by kernel_rfl
theorem bLc : eH PP T F29=true:=by kernel_rfl
theorem bLb : eH PP T F30=true:=by kernel_rfl
theorem bLa : eH PP T F31=true:=by kernel_rfl
theorem bK9 : eH PP T F32=true:=by kernel_rfl
theorem bK8 : eH PP T F33=true:=by kernel_rfl
theorem bK7 : eH PP T F34=true:=by kernel_rfl
theorem bK6 : eH PP T F35=true:=by kernel_rfl
theorem bK5 : eH PP T F36=true:=by kernel_rfl
theorem bK4 : eH PP T F37=true:=by kernel_rfl
theorem bK3 : eH PP T F38=true:=by kernel_rfl
theorem bK2 : eH PP T F39=true:=by kernel_rfl
theorem bK1 : eH PP T F40=true:=by kernel_rfl
theorem bK0 : eH PP T F41=true:=by kernel_rfl
theorem bKz : eH PP T F42=true:=by kernel_rfl
theorem bKy : eH PP T F43=true:=by kernel_rfl
theorem bKx : eH PP T F44=true:=by kernel_rfl
theorem bKw : eH PP T F45=true:=by kernel_rfl
theorem bKv : eH PP T F46=true:=by kernel_rfl
theorem bKu : eH PP T F47=true:=by kernel_rfl
theorem bKt : eH PP T F48=true:=by kernel_rfl
theorem bKs : eH PP T F49=true:=by kernel_rfl
end Go.Proofs.YtapabkfjeiknbaaGreat.Av
namespace Go.Proofs.YtapabkfjeiknbaaGreat.Av
open Go
theorem bKr : eH PP T F50=true:=by kernel_rfl
theorem bKq : eH PP T F51=true:=by kernel_rfl
theorem bKp : eH PP T F52=true:=by kernel_rfl
theorem bKo : eH PP T F53=true:=by kernel_rfl
theorem bKn : eH PP T F54=true:=by kernel_rfl
theorem bKm : eH PP T F55=true:=by kernel_rfl
theorem bKl : eH PP T F56=true:=by kernel_rfl
theorem bKk : eH PP T F57=true:=by kernel_rfl
theorem bKj : eH PP T F58=true:=by kernel_rfl
theorem bKi : eH PP T F59=true:=by kernel_rfl
theorem bKh : eH PP T F60=true:=by kernel_rfl
theorem bKg : eH PP T F61=true:=by kernel_rfl
theorem bKf : eH PP T F62=true:=by kernel_rfl
theorem bKe : eH PP T F63=true:=by kernel_rfl
theorem bKd : eH PP T F64=true:=by kernel_rfl
theorem bKc : eH PP T F65=true:=by kernel_rfl
theorem bKb : eH PP T F66=true:=by kernel_rfl
theorem bKa : eH PP T F67=true:=by kernel_rfl
theorem bJ9 : eH PP T F68=true:=by kernel_rfl
theorem bJ8 : eH PP T F69=true:=by kernel_rfl
theorem bJ7 : eH PP T F70=true:=by kernel_rfl
theorem bJ6 : eH PP T F71=true:=by kernel_rfl
theorem bJ5 : eH PP T F72=true:=by kernel_rfl
theorem bJ4 : eH PP T F73=true:=by kernel_rfl
theorem bJ3 : eH PP T F74=true:=by kernel_rfl
end Go.Proofs.YtapabkfjeiknbaaGreat.Av
namespace Go.Proofs.YtapabkfjeiknbaaGreat.Av
open Go
theorem bJ2 : eH PP T F75=true:=by kernel_rfl
theorem bJ1 : eH PP T F76=true:=by kernel_rfl
theorem bJ0 : eH PP T F77=true:=by kernel_rfl
theorem bJz : eH PP T F78=true:=by kernel_rfl
theorem bJy : eH PP T F79=true:=by kernel_rfl
theorem bJx : eH PP T F80=true:=by kernel_rfl
theorem bJw : eH PP T F81=true:=by kernel_rfl
theorem bJv : eH PP T F82=true:=by kernel_rfl
theorem bJu : eH PP T F83=true:=by kernel_rfl
theorem bJt : eH PP T F84=true:=by kernel_rfl
theorem bJs : eH PP T F85=true:=by kernel_rfl
theorem bJr : eH PP T F86=true:=by kernel_rfl
theorem bJq : eH PP T F87=true:=by kernel_rfl
theorem bJp : eH PP T F88=true:=by kernel_rfl
theorem bJo : eH PP T F89=true:=by kernel_rfl
theorem bJn : eH PP T F90=true:=by kernel_rfl
theorem bJm : eH PP T F91=true:=by kernel_rfl
theorem bJl : eH PP T F92=true:=by kernel_rfl
theorem bJk : eH PP T F93=true:=by kernel_rfl
theorem bJj : eH PP T F94=true:=by kernel_rfl
theorem bJi : eH PP T F95=true:=by kernel_rfl
theorem bJh : eH PP T F96=true:=by kernel_rfl
theorem bJg : eH PP T F97=true:=by kernel_rfl
theorem bJf : eH PP T F98=true:=by kernel_rfl
theorem bJe : eH PP T F99=true:=by kernel_rfl
end Go.Proofs.YtapabkfjeiknbaaGreat.Av
namespace Go.Proofs.YtapabkfjeiknbaaGreat.Av
open Go
set_option maxRecDepth 20000
theorem dZ {F : AFun} {l : List AFun} (h : eH PP T F=true) (hl : ∀ G ∈ l,eH PP T G=true) : ∀ G ∈ F :: l,eH PP T G=true:=by
 intro G hG
 cases hG with
 | head=>exact h
 | tail _ hG=>exact hl G hG
theorem bEv : ∀ G ∈ ([] : List AFun),eH PP T G=true:=fun _ h=> by cases h
def tl80 : List AFun:=F80 :: F81 :: F82 :: F83 :: F84 :: F85 :: F86 :: F87 :: F88 :: F89 :: F90 :: F91 :: F92 :: F93 :: F94 :: F95 :: F96 :: F97 :: F98 :: F99 :: []
theorem bI9 : ∀ G ∈ tl80,eH PP T G=true:=dZ bJx (dZ bJw (dZ bJv (dZ bJu (dZ bJt (dZ bJs (dZ bJr (dZ bJq (dZ bJp (dZ bJo (dZ bJn (dZ bJm (dZ bJl (dZ bJk (dZ bJj (dZ bJi (dZ bJh (dZ bJg (dZ bJf (dZ bJe (bEv))))))))))))))))))))
def tl60 : List AFun:=F60 :: F61 :: F62 :: F63 :: F64 :: F65 :: F66 :: F67 :: F68 :: F69 :: F70 :: F71 :: F72 :: F73 :: F74 :: F75 :: F76 :: F77 :: F78 :: F79 :: tl80
theorem bJa : ∀ G ∈ tl60,eH PP T G=true:=dZ bKh (dZ bKg (dZ bKf (dZ bKe (dZ bKd (dZ bKc (dZ bKb (dZ bKa (dZ bJ9 (dZ bJ8 (dZ bJ7 (dZ bJ6 (dZ bJ5 (dZ bJ4 (dZ bJ3 (dZ bJ2 (dZ bJ1 (dZ bJ0 (dZ bJz (dZ bJy (bI9))))))))))))))))))))
def tl40 : List AFun:=F40 :: F41 :: F42 :: F43 :: F44 :: F45 :: F46 :: F47 :: F48 :: F49 :: F50 :: F51 :: F52 :: F53 :: F54 :: F55 :: F56 :: F57 :: F58 :: F59 :: tl60
theorem bJb : ∀ G ∈ tl40,eH PP T G=true:=dZ bK1 (dZ bK0 (dZ bKz (dZ bKy (dZ bKx (dZ bKw (dZ bKv (dZ bKu (dZ bKt (dZ bKs (dZ bKr (dZ bKq (dZ bKp (dZ bKo (dZ bKn (dZ bKm (dZ bKl (dZ bKk (dZ bKj (dZ bKi (bJa))))))))))))))))))))
def tl20 : List AFun:=F20 :: F21 :: F22 :: F23 :: F24 :: F25 :: F26 :: F27 :: F28 :: F29 :: F30 :: F31 :: F32 :: F33 :: F34 :: F35 :: F36 :: F37 :: F38 :: F39 :: tl40
theorem bJc : ∀ G ∈ tl20,eH PP T G=true:=dZ bLl (dZ bLk (dZ bLj (dZ bLi (dZ bLh (dZ bLg (dZ bLf (dZ bLe (dZ bLd (dZ bLc (dZ bLb (dZ bLa (dZ bK9 (dZ bK8 (dZ bK7 (dZ bK6 (dZ bK5 (dZ bK4 (dZ bK3 (dZ bK2 (bJb))))))))))))))))))))
def tl0 : List AFun:=F0 :: F1 :: F2 :: F3 :: F4 :: F5 :: F6 :: F7 :: F8 :: F9 :: F10 :: F11 :: F12 :: F13 :: F14 :: F15 :: F16 :: F17 :: F18 :: F19 :: tl20
theorem ctl0 : ∀ G ∈ tl0,eH PP T G=true:=dZ chk0 (dZ chk1 (dZ chk2 (dZ chk3 (dZ chk4 (dZ chk5 (dZ chk6 (dZ chk7 (dZ chk8 (dZ chk9 (dZ bLv (dZ bLu (dZ bLt (dZ bLs (dZ bLr (dZ bLq (dZ bLp (dZ bLo (dZ bLn (dZ bLm (bJc))))))))))))))))))))
theorem checked : aOm PP T:=ctl0
end Go.Proofs.YtapabkfjeiknbaaGreat.Av
namespace Go.Proofs.YtapabkfjeiknbaaGreat.Av
open Go Go.Proofs
set_option maxRecDepth 100000
theorem aV1 {P : Program} {n : Nat} {a b c : TypeId} {xs : List AV} (h : aJu P n [a,b,c] xs) : ∃ x y z,xs=[x,y,z]∧(∃ ys,vZ P n a ys∧x=aOe P a ys)∧(∃ ys,vZ P n b ys∧y=aOe P b ys)∧(∃ ys,vZ P n c ys∧z=aOe P c ys) :=
 match xs,h with
 | [x,y,z],⟨h1,h2,h3,_⟩=>⟨x,y,z,rfl,h1,h2,h3⟩
theorem vD {n : Nat} {t : TypeId} {ys : List AV} (hu : PP.underlying t=some (.int .i64)) (h : vZ PP (n + 1) t ys) : ∃ z,ys=[.lit (.int .i64 z)]:=by
 unfold vZ at h
 rw [hu] at h
 exact h.imp fun z hz=>hz.2
theorem aEq {α : Type} {c : α→List AV} {n : Nat} {t e : TypeId} {ys : List AV} (hu : PP.underlying t=some (.slice e)) (hc : ∀ x,vZ PP n e x→∃ z,x=c z) (h : vZ PP (n + 1) t ys) : ∃ l : List α,ys=[.sl false (l.map c)]:=by
 unfold vZ at h
 rw [hu] at h
 obtain ⟨es,rfl,_,h2⟩:=h
 have : ∀ es : List (List AV),(∀ x ∈ es,vZ PP n e x)→∃ l : List α,es=l.map c:=by
  intro es
  induction es with
  | nil=>exact fun _=>⟨[],rfl⟩
  | cons x r ih =>
   intro h
   obtain ⟨l,rfl⟩:=ih fun y hy=>h y (by simp [hy])
   obtain ⟨z,rfl⟩:=hc x (h x (by simp))
   exact ⟨z :: l,rfl⟩
 obtain ⟨l,rfl⟩:=this es h2
 exact ⟨l,rfl⟩
theorem aIo {n : Nat} {ys : List AV} (h : vZ PP (n + 2) 46 ys) : ∃ z,ys=dW z:=by
 unfold vZ at h
 have hu : PP.underlying 46 = some (.struct #[{ name := "X", type := 3, offset := 0, embedded := false, tag := "", pkgPath := "", byteOffset := 0 }, { name := "Y", type := 3, offset := 1, embedded := false, tag := "", pkgPath := "", byteOffset := 8 }]) := by kernel_rfl
 rw [hu] at h
 obtain ⟨ps,rfl,hl,h2⟩:=h
 match ps,hl with
 | [p0,p1],_ =>
  have hi : PP.underlying 3=some (.int .i64):=by kernel_rfl
  obtain ⟨x0,rfl⟩:=(fun h=>vD hi h) (h2 0 _ p0 rfl rfl)
  obtain ⟨x1,rfl⟩:=(fun h=>vD hi h) (h2 1 _ p1 rfl rfl)
  exact ⟨⟨x0,x1⟩,rfl⟩
theorem aQ6 {n : Nat} {ys : List AV} (h : vZ PP (n + 3) 48 ys) : ∃ z,ys=dP z:=by
 unfold vZ at h
 have hu : PP.underlying 48 = some (.struct #[{ name := "ID", type := 3, offset := 0, embedded := false, tag := "", pkgPath := "", byteOffset := 0 }, { name := "At", type := 46, offset := 1, embedded := false, tag := "", pkgPath := "", byteOffset := 8 }]) := by kernel_rfl
 rw [hu] at h
 obtain ⟨ps,rfl,hl,h2⟩:=h
 match ps,hl with
 | [p0,p1],_ =>
  have hi : PP.underlying 3=some (.int .i64):=by kernel_rfl
  obtain ⟨x0,rfl⟩:=(fun h=>vD hi h) (h2 0 _ p0 rfl rfl)
  obtain ⟨x1,rfl⟩:=aIo (h2 1 _ p1 rfl rfl)
  exact ⟨⟨x0,x1⟩,rfl⟩
theorem aUr {n : Nat} {ys : List AV} (h : vZ PP (n + 4) 35 ys) : ∃ z,ys=dR z:=by
 unfold vZ at h
 have hu : PP.underlying 35 = some (.struct #[{ name := "ID", type := 3, offset := 0, embedded := false, tag := "", pkgPath := "", byteOffset := 0 }, { name := "From", type := 3, offset := 1, embedded := false, tag := "", pkgPath := "", byteOffset := 8 }, { name := "To", type := 3, offset := 2, embedded := false, tag := "", pkgPath := "", byteOffset := 16 }, { name := "Via", type := 33, offset := 3, embedded := false, tag := "", pkgPath := "", byteOffset := 24 }, { name := "Left", type := 3, offset := 4, embedded := false, tag := "", pkgPath := "", byteOffset := 48 }, { name := "Right", type := 3, offset := 5, embedded := false, tag := "", pkgPath := "", byteOffset := 56 }]) := by kernel_rfl
 rw [hu] at h
 obtain ⟨ps,rfl,hl,h2⟩:=h
 match ps,hl with
 | [p0,p1,p2,p3,p4,p5],_ =>
  have hi : PP.underlying 3=some (.int .i64):=by kernel_rfl
  obtain ⟨x0,rfl⟩:=(fun h=>vD hi h) (h2 0 _ p0 rfl rfl)
  obtain ⟨x1,rfl⟩:=(fun h=>vD hi h) (h2 1 _ p1 rfl rfl)
  obtain ⟨x2,rfl⟩:=(fun h=>vD hi h) (h2 2 _ p2 rfl rfl)
  obtain ⟨x3,rfl⟩:=(fun h=>aEq (c:=dW) (e:=46) (by kernel_rfl) (fun _ h=>aIo h) h) (h2 3 _ p3 rfl rfl)
  obtain ⟨x4,rfl⟩:=(fun h=>vD hi h) (h2 4 _ p4 rfl rfl)
  obtain ⟨x5,rfl⟩:=(fun h=>vD hi h) (h2 5 _ p5 rfl rfl)
  exact ⟨⟨x0,x1,x2,x3,x4,x5⟩,rfl⟩
theorem aQ5 {n : Nat} {ys : List AV} (h : vZ PP (n + 6) 26 ys) : ∃ z,ys=iQ z:=by
 unfold vZ at h
 have hu : PP.underlying 26 = some (.struct #[{ name := "Nodes", type := 22, offset := 0, embedded := false, tag := "", pkgPath := "", byteOffset := 0 }, { name := "Arcs", type := 23, offset := 1, embedded := false, tag := "", pkgPath := "", byteOffset := 24 }, { name := "Faces", type := 24, offset := 2, embedded := false, tag := "", pkgPath := "", byteOffset := 48 }]) := by kernel_rfl
 rw [hu] at h
 obtain ⟨ps,rfl,hl,h2⟩:=h
 match ps,hl with
 | [p0,p1,p2],_ =>
  have hi : PP.underlying 3=some (.int .i64):=by kernel_rfl
  obtain ⟨x0,rfl⟩:=(fun h=>aEq (c:=dP) (e:=48) (by kernel_rfl) (fun _ h=>aQ6 h) h) (h2 0 _ p0 rfl rfl)
  obtain ⟨x1,rfl⟩:=(fun h=>aEq (c:=dR) (e:=35) (by kernel_rfl) (fun _ h=>aUr h) h) (h2 1 _ p1 rfl rfl)
  obtain ⟨x2,rfl⟩:=(fun h=>aEq (c:=dS) (e:=3) (by kernel_rfl) (fun _ h=>(fun h=>vD hi h) h) h) (h2 2 _ p2 rfl rfl)
  exact ⟨⟨x0,x1,x2⟩,rfl⟩
theorem aOd {x : AV} (h : ∃ ys,vZ PP 10 26 ys∧x=aOe PP 26 ys) : ∃ a,x=.agg (iQ a):=by
 obtain ⟨ys,h1,rfl⟩:=h
 obtain ⟨a,rfl⟩:=aQ5 h1
 exact ⟨a,by simp only [aOe,isAgg]; rfl⟩
end Go.Proofs.YtapabkfjeiknbaaGreat.Av
namespace Go.Proofs.YtapabkfjeiknbaaGreat.Av
open Go Go.Proofs Go.RowKit Go.Shelf Go.Sort
theorem aJ3 {P : Program} {ρ : Ren} {k : Nat} (L : SlLaysF0.n6 P ρ) (aE : ∀ w,(Go.isAgg (ρ.t 24)).run P w=.ok true w) (zE : ∀ w,(Go.sizeOf (ρ.t 24)).run P w=.ok k w) : aIi P true (ρ.f 6) k :=
 fun _ enc hk h1 cf hO g cb blk off cap d w eg hcmp hH hblk hsz=>AnyQ.slices_SortFunc_eq L k aE zE enc hk h1 cf hO g cb blk off cap d w eg hcmp hH hblk hsz
theorem aFq {P : Program} {ρ : Ren} (L : SlLaysF0.n6 P ρ) : aHg P (ρ.f 6):=fun p cap fv w=>AnyF.slices_SortFunc_none L p cap fv w
theorem bAw {α : Type} [Inhabited α] (enc : α→List Value) (hk : ∀ x,(enc x).length=1) (d : Array α) : flatK enc 1 d=d.map fun x=>(enc x)[0]!:=by
 apply Array.ext
 ·simp
 ·intro i h1 h2
  have hi : i < d.size:=by simpa using h2
  have:=get_flatK enc 1 d i (by omega)
  rw [getElem!_pos _ i h1] at this
  rw [this,Array.getElem_map,Nat.div_one,Nat.mod_one,getElem!_pos d i hi]
theorem aPa {α : Type} [Inhabited α] (enc : α→Value) (off : Nat) (d : Array α) (c : Array Value) : putCells _root_.id off (d.map enc) c=putCells enc off d c:=by
 unfold putCells
 congr 1
 funext k x
 rw [Array.size_map]
 split
 ·rename_i h
  have hk : k - off < d.size:=by omega
  show (d.map enc)[k - off]! = enc d[k - off]!
  rw [getElem!_pos _ _ (by simpa using hk),getElem!_pos d _ hk,Array.getElem_map]
 ·rfl
theorem aGo {α : Type} [Inhabited α] (enc : α→List Value) (hk : ∀ x,(enc x).length=1) (w : World) (blk off m : Nat) (dk : Array α) (os : Array Obj) :
  sortWorldK enc 1 w blk off m dk os=sortWorld (fun x=>(enc x)[0]!) w blk off m dk os:=by
 unfold sortWorldK sortWorld putRowK putRow
 rw [bAw enc hk]
 congr 2
 funext c
 exact aPa _ _ _ _
theorem aQ3 {P : Program} {ρ : Ren} (L : SlLaysF.n6 P ρ) : aIi P false (ρ.f 6) 1:=by
 intro m enc hk h1 cf hO g cb blk off cap d w eg hcmp hH hblk hsz
 have hone : OneCell fun x=>(enc x)[0]!:=by
  intro x
  refine h1 x _ ?_
  show (enc x)[0]! ∈ enc x
  rw [getElem!_pos (enc x) 0 (by rw [hk]; omega)]
  exact List.getElem_mem _
 have hc1 : CmpLays1 P g cb (fun x=>(enc x)[0]!) cf blk off d.size w:=by
  intro mm os dk hdk x y
  have:=hcmp mm os dk hdk x y
  rw [aGo enc hk] at this
  exact this
 have hH1 : Holds (fun x=>(enc x)[0]!) w blk off d:=by
  intro j hj
  have:=hH j (by simpa using hj)
  rw [get_flatK _ _ _ _ (by omega),Nat.div_one,Nat.mod_one] at this
  exact this
 refine (Any.slices_SortFunc_eq L (fun x=>(enc x)[0]!) hone cf hO g cb blk off cap d w eg hc1 hH1 hblk hsz).mono fun e w' ⟨he,n,os,hw⟩=>⟨he,n,os,?_⟩
 rw [aGo enc hk]
 exact hw
end Go.Proofs.YtapabkfjeiknbaaGreat.Av
namespace Go.Proofs.YtapabkfjeiknbaaGreat.Av
open Go Go.Proofs Go.RowKit Go.Shelf Go.Sort
set_option maxRecDepth 100000
theorem mixed : PP.follows .mixedOrders=true:=by kernel_rfl
def bEd : Ren where
 f:=fun x=>match x with
  | 6=>102
  | 15=>36
  | 14=>137
  | 28=>59
  | 29=>60
  | 20=>153
  | 21=>154
  | 22=>155
  | 23=>156
  | 24=>157
  | 25=>158
  | 26=>159
  | 27=>160
  | 46=>169
  | 47=>92
  | 48=>93
  | 49=>170
  | 50=>171
  | 57=>175
  | n=>n
 t:=fun x=>match x with
  | 22=>147
  | 24=>153
  | 25=>155
  | 39=>89
  | 53=>116
  | 55=>118
  | 46=>109
  | 45=>108
  | 50=>113
  | 66=>137
  | 70=>141
  | 76=>177
  | 77=>178
  | n=>n
 g:=fun x=>match x with
  | n=>n
theorem bBq : SlLaysF0.n6 PP bEd where
 mixed:=by kernel_rfl
 f6 := ⟨ "slices.SortFunc[[]mapsheets/plan.segment,mapsheets/plan.segment]", by decide, Tryz.func102.trans (congrArg some (by kernel_rfl))⟩
 f14 := ⟨ "slices.pdqsortCmpFunc[mapsheets/plan.segment]", by decide, Tryz.func137.trans (congrArg some (by kernel_rfl))⟩
 f15:=Tryz.func36.trans (congrArg some (by kernel_rfl))
 f20 := ⟨ "slices.insertionSortCmpFunc[mapsheets/plan.segment]", by decide, Tryz.func153.trans (congrArg some (by kernel_rfl))⟩
 f21 := ⟨ "slices.heapSortCmpFunc[mapsheets/plan.segment]", by decide, Tryz.func154.trans (congrArg some (by kernel_rfl))⟩
 f22 := ⟨ "slices.breakPatternsCmpFunc[mapsheets/plan.segment]", by decide, Tryz.func155.trans (congrArg some (by kernel_rfl))⟩
 f23 := ⟨ "slices.choosePivotCmpFunc[mapsheets/plan.segment]", by decide, Tryz.func156.trans (congrArg some (by kernel_rfl))⟩
 f24 := ⟨ "slices.reverseRangeCmpFunc[mapsheets/plan.segment]", by decide, Tryz.func157.trans (congrArg some (by kernel_rfl))⟩
 f25 := ⟨ "slices.partialInsertionSortCmpFunc[mapsheets/plan.segment]", by decide, Tryz.func158.trans (congrArg some (by kernel_rfl))⟩
 f26 := ⟨ "slices.partitionEqualCmpFunc[mapsheets/plan.segment]", by decide, Tryz.func159.trans (congrArg some (by kernel_rfl))⟩
 f27 := ⟨ "slices.partitionCmpFunc[mapsheets/plan.segment]", by decide, Tryz.func160.trans (congrArg some (by kernel_rfl))⟩
 f28:=Tryz.func59.trans (congrArg some (by kernel_rfl))
 f29:=Tryz.func60.trans (congrArg some (by kernel_rfl))
 f46 := ⟨ "slices.siftDownCmpFunc[mapsheets/plan.segment]", by decide, Tryz.func169.trans (congrArg some (by kernel_rfl))⟩
 f47:=Tryz.func92.trans (congrArg some (by kernel_rfl))
 f48:=Tryz.func93.trans (congrArg some (by kernel_rfl))
 f49 := ⟨ "slices.medianAdjacentCmpFunc[mapsheets/plan.segment]", by decide, Tryz.func170.trans (congrArg some (by kernel_rfl))⟩
 f50 := ⟨ "slices.medianCmpFunc[mapsheets/plan.segment]", by decide, Tryz.func171.trans (congrArg some (by kernel_rfl))⟩
 f57 := ⟨ "slices.order2CmpFunc[mapsheets/plan.segment]", by decide, Tryz.func175.trans (congrArg some (by kernel_rfl))⟩
 t0:=Tryz.underlying0
 a0:=Tryz.isAgg0
 z0:=Tryz.sizeOf0
 v0:=Tryz.zeroValue0
 t3:=Tryz.underlying3
 a3:=Tryz.isAgg3
 z3:=Tryz.sizeOf3
 v3:=Tryz.zeroValue3
 t4:=Tryz.underlying4
 a4:=Tryz.isAgg4
 z4:=Tryz.sizeOf4
 v4:=Tryz.zeroValue4
 t5:=Tryz.underlying5
 a5:=Tryz.isAgg5
 z5:=Tryz.sizeOf5
 v5:=Tryz.zeroValue5
 t9:=Tryz.underlying9
 a9:=Tryz.isAgg9
 z9:=Tryz.sizeOf9
 v9:=Tryz.zeroValue9
 t22:=Tryz.underlying147
 a22:=Tryz.isAgg147
 z22:=Tryz.sizeOf147
 v22:=Tryz.zeroValue147
 t25:=Tryz.underlying155
 a25:=Tryz.isAgg155
 z25:=Tryz.sizeOf155
 v25:=Tryz.zeroValue155
 t39:=Tryz.underlying89
 a39:=Tryz.isAgg89
 z39:=Tryz.sizeOf89
 v39:=Tryz.zeroValue89
 t45:=Tryz.underlying108
 a45:=Tryz.isAgg108
 z45:=Tryz.sizeOf108
 v45:=Tryz.zeroValue108
 t46:=Tryz.underlying109
 a46:=Tryz.isAgg109
 z46:=Tryz.sizeOf109
 v46:=Tryz.zeroValue109
 t50:=Tryz.underlying113
 a50:=Tryz.isAgg113
 z50:=Tryz.sizeOf113
 v50:=Tryz.zeroValue113
 t53:=Tryz.underlying116
 a53:=Tryz.isAgg116
 z53:=Tryz.sizeOf116
 v53:=Tryz.zeroValue116
 t55:=Tryz.underlying118
 a55:=Tryz.isAgg118
 z55:=Tryz.sizeOf118
 v55:=Tryz.zeroValue118
 t66:=Tryz.underlying137
 a66:=Tryz.isAgg137
 z66:=Tryz.sizeOf137
 v66:=Tryz.zeroValue137
 t70:=Tryz.underlying141
 a70:=Tryz.isAgg141
 z70:=Tryz.sizeOf141
 v70:=Tryz.zeroValue141
 t76:=Tryz.underlying177
 a76:=Tryz.isAgg177
 z76:=Tryz.sizeOf177
 v76:=Tryz.zeroValue177
 t77:=Tryz.underlying178
 a77:=Tryz.isAgg178
 z77:=Tryz.sizeOf178
 v77:=Tryz.zeroValue178
def bEe : Ren where
 f:=fun x=>match x with
  | 6=>23
  | 15=>36
  | 14=>35
  | 28=>59
  | 29=>60
  | 20=>51
  | 21=>52
  | 22=>53
  | 23=>54
  | 24=>55
  | 25=>56
  | 26=>57
  | 27=>58
  | 46=>91
  | 47=>92
  | 48=>93
  | 49=>94
  | 50=>95
  | 57=>134
  | n=>n
 t:=fun x=>match x with
  | 22=>41
  | 24=>58
  | 25=>75
  | 39=>89
  | 53=>116
  | 55=>118
  | 46=>109
  | 45=>108
  | 50=>113
  | 66=>137
  | 70=>141
  | 76=>177
  | 77=>178
  | n=>n
 g:=fun x=>match x with
  | n=>n
theorem bBr : SlLaysF0.n6 PP bEe where
 mixed:=by kernel_rfl
 f6 := ⟨ "slices.SortFunc[[]mapsheets/api.Region,mapsheets/api.Region]", by decide, Tryz.func23.trans (congrArg some (by kernel_rfl))⟩
 f14 := ⟨ "slices.pdqsortCmpFunc[mapsheets/api.Region]", by decide, Tryz.func35.trans (congrArg some (by kernel_rfl))⟩
 f15:=Tryz.func36.trans (congrArg some (by kernel_rfl))
 f20 := ⟨ "slices.insertionSortCmpFunc[mapsheets/api.Region]", by decide, Tryz.func51.trans (congrArg some (by kernel_rfl))⟩
 f21 := ⟨ "slices.heapSortCmpFunc[mapsheets/api.Region]", by decide, Tryz.func52.trans (congrArg some (by kernel_rfl))⟩
 f22 := ⟨ "slices.breakPatternsCmpFunc[mapsheets/api.Region]", by decide, Tryz.func53.trans (congrArg some (by kernel_rfl))⟩
 f23 := ⟨ "slices.choosePivotCmpFunc[mapsheets/api.Region]", by decide, Tryz.func54.trans (congrArg some (by kernel_rfl))⟩
 f24 := ⟨ "slices.reverseRangeCmpFunc[mapsheets/api.Region]", by decide, Tryz.func55.trans (congrArg some (by kernel_rfl))⟩
 f25 := ⟨ "slices.partialInsertionSortCmpFunc[mapsheets/api.Region]", by decide, Tryz.func56.trans (congrArg some (by kernel_rfl))⟩
 f26 := ⟨ "slices.partitionEqualCmpFunc[mapsheets/api.Region]", by decide, Tryz.func57.trans (congrArg some (by kernel_rfl))⟩
 f27 := ⟨ "slices.partitionCmpFunc[mapsheets/api.Region]", by decide, Tryz.func58.trans (congrArg some (by kernel_rfl))⟩
 f28:=Tryz.func59.trans (congrArg some (by kernel_rfl))
 f29:=Tryz.func60.trans (congrArg some (by kernel_rfl))
 f46 := ⟨ "slices.siftDownCmpFunc[mapsheets/api.Region]", by decide, Tryz.func91.trans (congrArg some (by kernel_rfl))⟩
 f47:=Tryz.func92.trans (congrArg some (by kernel_rfl))
 f48:=Tryz.func93.trans (congrArg some (by kernel_rfl))
 f49 := ⟨ "slices.medianAdjacentCmpFunc[mapsheets/api.Region]", by decide, Tryz.func94.trans (congrArg some (by kernel_rfl))⟩
 f50 := ⟨ "slices.medianCmpFunc[mapsheets/api.Region]", by decide, Tryz.func95.trans (congrArg some (by kernel_rfl))⟩
 f57 := ⟨ "slices.order2CmpFunc[mapsheets/api.Region]", by decide, Tryz.func134.trans (congrArg some (by kernel_rfl))⟩
 t0:=Tryz.underlying0
 a0:=Tryz.isAgg0
 z0:=Tryz.sizeOf0
 v0:=Tryz.zeroValue0
 t3:=Tryz.underlying3
 a3:=Tryz.isAgg3
 z3:=Tryz.sizeOf3
 v3:=Tryz.zeroValue3
 t4:=Tryz.underlying4
 a4:=Tryz.isAgg4
 z4:=Tryz.sizeOf4
 v4:=Tryz.zeroValue4
 t5:=Tryz.underlying5
 a5:=Tryz.isAgg5
 z5:=Tryz.sizeOf5
 v5:=Tryz.zeroValue5
 t9:=Tryz.underlying9
 a9:=Tryz.isAgg9
 z9:=Tryz.sizeOf9
 v9:=Tryz.zeroValue9
 t22:=Tryz.underlying41
 a22:=Tryz.isAgg41
 z22:=Tryz.sizeOf41
 v22:=Tryz.zeroValue41
 t25:=Tryz.underlying75
 a25:=Tryz.isAgg75
 z25:=Tryz.sizeOf75
 v25:=Tryz.zeroValue75
 t39:=Tryz.underlying89
 a39:=Tryz.isAgg89
 z39:=Tryz.sizeOf89
 v39:=Tryz.zeroValue89
 t45:=Tryz.underlying108
 a45:=Tryz.isAgg108
 z45:=Tryz.sizeOf108
 v45:=Tryz.zeroValue108
 t46:=Tryz.underlying109
 a46:=Tryz.isAgg109
 z46:=Tryz.sizeOf109
 v46:=Tryz.zeroValue109
 t50:=Tryz.underlying113
 a50:=Tryz.isAgg113
 z50:=Tryz.sizeOf113
 v50:=Tryz.zeroValue113
 t53:=Tryz.underlying116
 a53:=Tryz.isAgg116
 z53:=Tryz.sizeOf116
 v53:=Tryz.zeroValue116
 t55:=Tryz.underlying118
 a55:=Tryz.isAgg118
 z55:=Tryz.sizeOf118
 v55:=Tryz.zeroValue118
 t66:=Tryz.underlying137
 a66:=Tryz.isAgg137
 z66:=Tryz.sizeOf137
 v66:=Tryz.zeroValue137
 t70:=Tryz.underlying141
 a70:=Tryz.isAgg141
 z70:=Tryz.sizeOf141
 v70:=Tryz.zeroValue141
 t76:=Tryz.underlying177
 a76:=Tryz.isAgg177
 z76:=Tryz.sizeOf177
 v76:=Tryz.zeroValue177
 t77:=Tryz.underlying178
 a77:=Tryz.isAgg178
 z77:=Tryz.sizeOf178
 v77:=Tryz.zeroValue178
def aXf : Ren where
 f:=fun x=>match x with
  | 6=>69
  | 15=>36
  | 14=>111
  | 28=>59
  | 29=>60
  | 20=>139
  | 21=>140
  | 22=>141
  | 23=>142
  | 24=>143
  | 25=>144
  | 26=>145
  | 27=>146
  | 46=>162
  | 47=>92
  | 48=>93
  | 49=>163
  | 50=>164
  | 57=>173
  | n=>n
 t:=fun x=>match x with
  | 22=>24
  | 24=>3
  | 25=>74
  | 39=>89
  | 53=>116
  | 55=>118
  | 46=>109
  | 45=>108
  | 50=>113
  | 66=>137
  | 70=>141
  | 76=>177
  | 77=>178
  | n=>n
 g:=fun x=>match x with
  | n=>n
theorem layInt : SlLaysF.n6 PP aXf where
 mixed:=by kernel_rfl
 f6 := ⟨ "slices.SortFunc[[]int,int]", by decide, Tryz.func69.trans (congrArg some (by kernel_rfl))⟩
 f14 := ⟨ "slices.pdqsortCmpFunc[int]", by decide, Tryz.func111.trans (congrArg some (by kernel_rfl))⟩
 f15:=Tryz.func36.trans (congrArg some (by kernel_rfl))
 f20 := ⟨ "slices.insertionSortCmpFunc[int]", by decide, Tryz.func139.trans (congrArg some (by kernel_rfl))⟩
 f21 := ⟨ "slices.heapSortCmpFunc[int]", by decide, Tryz.func140.trans (congrArg some (by kernel_rfl))⟩
 f22 := ⟨ "slices.breakPatternsCmpFunc[int]", by decide, Tryz.func141.trans (congrArg some (by kernel_rfl))⟩
 f23 := ⟨ "slices.choosePivotCmpFunc[int]", by decide, Tryz.func142.trans (congrArg some (by kernel_rfl))⟩
 f24 := ⟨ "slices.reverseRangeCmpFunc[int]", by decide, Tryz.func143.trans (congrArg some (by kernel_rfl))⟩
 f25 := ⟨ "slices.partialInsertionSortCmpFunc[int]", by decide, Tryz.func144.trans (congrArg some (by kernel_rfl))⟩
 f26 := ⟨ "slices.partitionEqualCmpFunc[int]", by decide, Tryz.func145.trans (congrArg some (by kernel_rfl))⟩
 f27 := ⟨ "slices.partitionCmpFunc[int]", by decide, Tryz.func146.trans (congrArg some (by kernel_rfl))⟩
 f28:=Tryz.func59.trans (congrArg some (by kernel_rfl))
 f29:=Tryz.func60.trans (congrArg some (by kernel_rfl))
 f46 := ⟨ "slices.siftDownCmpFunc[int]", by decide, Tryz.func162.trans (congrArg some (by kernel_rfl))⟩
 f47:=Tryz.func92.trans (congrArg some (by kernel_rfl))
 f48:=Tryz.func93.trans (congrArg some (by kernel_rfl))
 f49 := ⟨ "slices.medianAdjacentCmpFunc[int]", by decide, Tryz.func163.trans (congrArg some (by kernel_rfl))⟩
 f50 := ⟨ "slices.medianCmpFunc[int]", by decide, Tryz.func164.trans (congrArg some (by kernel_rfl))⟩
 f57 := ⟨ "slices.order2CmpFunc[int]", by decide, Tryz.func173.trans (congrArg some (by kernel_rfl))⟩
 t0:=Tryz.underlying0
 a0:=Tryz.isAgg0
 z0:=Tryz.sizeOf0
 v0:=Tryz.zeroValue0
 t3:=Tryz.underlying3
 a3:=Tryz.isAgg3
 z3:=Tryz.sizeOf3
 v3:=Tryz.zeroValue3
 t4:=Tryz.underlying4
 a4:=Tryz.isAgg4
 z4:=Tryz.sizeOf4
 v4:=Tryz.zeroValue4
 t5:=Tryz.underlying5
 a5:=Tryz.isAgg5
 z5:=Tryz.sizeOf5
 v5:=Tryz.zeroValue5
 t9:=Tryz.underlying9
 a9:=Tryz.isAgg9
 z9:=Tryz.sizeOf9
 v9:=Tryz.zeroValue9
 t22:=Tryz.underlying24
 a22:=Tryz.isAgg24
 z22:=Tryz.sizeOf24
 v22:=Tryz.zeroValue24
 a24:=Tryz.isAgg3
 z24:=Tryz.sizeOf3
 t25:=Tryz.underlying74
 a25:=Tryz.isAgg74
 z25:=Tryz.sizeOf74
 v25:=Tryz.zeroValue74
 t39:=Tryz.underlying89
 a39:=Tryz.isAgg89
 z39:=Tryz.sizeOf89
 v39:=Tryz.zeroValue89
 t45:=Tryz.underlying108
 a45:=Tryz.isAgg108
 z45:=Tryz.sizeOf108
 v45:=Tryz.zeroValue108
 t46:=Tryz.underlying109
 a46:=Tryz.isAgg109
 z46:=Tryz.sizeOf109
 v46:=Tryz.zeroValue109
 t50:=Tryz.underlying113
 a50:=Tryz.isAgg113
 z50:=Tryz.sizeOf113
 v50:=Tryz.zeroValue113
 t53:=Tryz.underlying116
 a53:=Tryz.isAgg116
 z53:=Tryz.sizeOf116
 v53:=Tryz.zeroValue116
 t55:=Tryz.underlying118
 a55:=Tryz.isAgg118
 z55:=Tryz.sizeOf118
 v55:=Tryz.zeroValue118
 t66:=Tryz.underlying137
 a66:=Tryz.isAgg137
 z66:=Tryz.sizeOf137
 v66:=Tryz.zeroValue137
 t70:=Tryz.underlying141
 a70:=Tryz.isAgg141
 z70:=Tryz.sizeOf141
 v70:=Tryz.zeroValue141
 t76:=Tryz.underlying177
 a76:=Tryz.isAgg177
 z76:=Tryz.sizeOf177
 v76:=Tryz.zeroValue177
 t77:=Tryz.underlying178
 a77:=Tryz.isAgg178
 z77:=Tryz.sizeOf178
 v77:=Tryz.zeroValue178
def bAs : Ren where
 f:=fun x=>match x with
  | 189=>41
  | 125=>36
  | 257=>73
  | 128=>59
  | 129=>60
  | 294=>115
  | 295=>116
  | 296=>117
  | 297=>118
  | 298=>119
  | 299=>120
  | 216=>121
  | 300=>122
  | 301=>123
  | 328=>147
  | 329=>92
  | 330=>93
  | 331=>148
  | 332=>149
  | 215=>37
  | 343=>165
  | n=>n
 t:=fun x=>match x with
  | 28=>24
  | 46=>89
  | 51=>116
  | 53=>118
  | 183=>109
  | 182=>108
  | 131=>113
  | 218=>137
  | 222=>141
  | 228=>177
  | 229=>178
  | n=>n
 g:=fun x=>match x with
  | n=>n
theorem aXe : Lays.n189 PP bAs where
 mixed:=by kernel_rfl
 f125:=Tryz.func36.trans (congrArg some (by kernel_rfl))
 f128:=Tryz.func59.trans (congrArg some (by kernel_rfl))
 f129:=Tryz.func60.trans (congrArg some (by kernel_rfl))
 f189:=Tryz.func41.trans (congrArg some (by kernel_rfl))
 f215:=Tryz.func37.trans (congrArg some (by kernel_rfl))
 f216:=Tryz.func121.trans (congrArg some (by kernel_rfl))
 f257:=Tryz.func73.trans (congrArg some (by kernel_rfl))
 f294:=Tryz.func115.trans (congrArg some (by kernel_rfl))
 f295:=Tryz.func116.trans (congrArg some (by kernel_rfl))
 f296:=Tryz.func117.trans (congrArg some (by kernel_rfl))
 f297:=Tryz.func118.trans (congrArg some (by kernel_rfl))
 f298:=Tryz.func119.trans (congrArg some (by kernel_rfl))
 f299:=Tryz.func120.trans (congrArg some (by kernel_rfl))
 f300:=Tryz.func122.trans (congrArg some (by kernel_rfl))
 f301:=Tryz.func123.trans (congrArg some (by kernel_rfl))
 f328:=Tryz.func147.trans (congrArg some (by kernel_rfl))
 f329:=Tryz.func92.trans (congrArg some (by kernel_rfl))
 f330:=Tryz.func93.trans (congrArg some (by kernel_rfl))
 f331:=Tryz.func148.trans (congrArg some (by kernel_rfl))
 f332:=Tryz.func149.trans (congrArg some (by kernel_rfl))
 f343:=Tryz.func165.trans (congrArg some (by kernel_rfl))
 t0:=Tryz.underlying0
 a0:=Tryz.isAgg0
 z0:=Tryz.sizeOf0
 v0:=Tryz.zeroValue0
 t3:=Tryz.underlying3
 a3:=Tryz.isAgg3
 z3:=Tryz.sizeOf3
 v3:=Tryz.zeroValue3
 t4:=Tryz.underlying4
 a4:=Tryz.isAgg4
 z4:=Tryz.sizeOf4
 v4:=Tryz.zeroValue4
 t5:=Tryz.underlying5
 a5:=Tryz.isAgg5
 z5:=Tryz.sizeOf5
 v5:=Tryz.zeroValue5
 t9:=Tryz.underlying9
 a9:=Tryz.isAgg9
 z9:=Tryz.sizeOf9
 v9:=Tryz.zeroValue9
 t28:=Tryz.underlying24
 a28:=Tryz.isAgg24
 z28:=Tryz.sizeOf24
 v28:=Tryz.zeroValue24
 t46:=Tryz.underlying89
 a46:=Tryz.isAgg89
 z46:=Tryz.sizeOf89
 v46:=Tryz.zeroValue89
 t51:=Tryz.underlying116
 a51:=Tryz.isAgg116
 z51:=Tryz.sizeOf116
 v51:=Tryz.zeroValue116
 t53:=Tryz.underlying118
 a53:=Tryz.isAgg118
 z53:=Tryz.sizeOf118
 v53:=Tryz.zeroValue118
 t131:=Tryz.underlying113
 a131:=Tryz.isAgg113
 z131:=Tryz.sizeOf113
 v131:=Tryz.zeroValue113
 t182:=Tryz.underlying108
 a182:=Tryz.isAgg108
 z182:=Tryz.sizeOf108
 v182:=Tryz.zeroValue108
 t183:=Tryz.underlying109
 a183:=Tryz.isAgg109
 z183:=Tryz.sizeOf109
 v183:=Tryz.zeroValue109
 t218:=Tryz.underlying137
 a218:=Tryz.isAgg137
 z218:=Tryz.sizeOf137
 v218:=Tryz.zeroValue137
 t222:=Tryz.underlying141
 a222:=Tryz.isAgg141
 z222:=Tryz.sizeOf141
 v222:=Tryz.zeroValue141
 t228:=Tryz.underlying177
 a228:=Tryz.isAgg177
 z228:=Tryz.sizeOf177
 v228:=Tryz.zeroValue177
 t229:=Tryz.underlying178
 a229:=Tryz.isAgg178
 z229:=Tryz.sizeOf178
 v229:=Tryz.zeroValue178
theorem aPb {cf : CF} {fl vi : Nat} {args : List AV} {H H' : Heap} {r : AV} (h : aRd cf fl vi args H=some (r,H')) : (vi=71∧aFr cf true 2 fl args H=some (r,H')) ∨ (vi=19∧aFr cf true 4 fl args H=some (r,H')) ∨ (vi=55∧aFr cf false 1 fl args H=some (r,H')) ∨ (vi=35∧aJ5 fl args H=some (r,H')):=by
 unfold aRd at h
 have e : (GlobT.prim vi : Option Prim)=(match Nat.beq vi 71 with | true=>some (aJ2 true 2) | false=>(match Nat.beq vi 19 with | true=>some (aJ2 true 4) | false=>(match Nat.beq vi 55 with | true=>some (aJ2 false 1) | false=>(match Nat.beq vi 35 with | true=>some (bDs aJ5) | false=>none)))):=rfl
 rw [e] at h
 cases hb0 : Nat.beq vi 71 with
 | true=>rw [hb0] at h; exact .inl ⟨Nat.eq_of_beq_eq_true hb0,h⟩
 | false =>
  rw [hb0] at h
  cases hb1 : Nat.beq vi 19 with
  | true=>rw [hb1] at h; exact .inr (.inl ⟨Nat.eq_of_beq_eq_true hb1,h⟩)
  | false =>
   rw [hb1] at h
   cases hb2 : Nat.beq vi 55 with
   | true=>rw [hb2] at h; exact .inr (.inr (.inl ⟨Nat.eq_of_beq_eq_true hb2,h⟩))
   | false =>
    rw [hb2] at h
    cases hb3 : Nat.beq vi 35 with
    | true=>rw [hb3] at h; exact .inr (.inr (.inr (⟨Nat.eq_of_beq_eq_true hb3,h⟩)))
    | false =>
     rw [hb3] at h
     cases h
theorem aX3 : aEj PP T:=aTr checked
theorem aZn {fl : Nat} {args : List AV} {H H' : Heap} {r : AV} (hl : fl ≤ H.length) (h : aJ5 fl args H=some (r,H')) : H'.take fl=H.take fl∧fl ≤ H'.length:=by
 rcases aOu h with ⟨x,rfl,he,rfl,rfl⟩ | ⟨id,l,rfl,hne,hfl,hob,hbig,rfl,rfl⟩
 ·exact ⟨rfl,hl⟩
 ·refine ⟨?_,by rw [List.length_set]; exact hl⟩
  apply List.ext_getElem?
  intro i
  rw [List.getElem?_take,List.getElem?_take]
  split
  ·rw [List.getElem?_set_ne (by omega)]
  ·rfl
theorem bDh : aM3 PP 41:=fun blk off cap zs w h1 h2 h3=>Any.slices_Sort_int aXe blk off cap zs w h1 h2 h3
theorem aZl : aLr PP 41:=fun p cap w=>Any.slices_Sort_int_none aXe p cap w
theorem bDm : aIi PP true 102 2:=aJ3 bBq Tryz.isAgg153 Tryz.sizeOf153
theorem aZs : aHg PP 102:=aFq bBq
theorem bDq : aIi PP true 23 4:=aJ3 bBr Tryz.isAgg58 Tryz.sizeOf58
theorem aZy : aHg PP 23:=aFq bBr
theorem bEl : aIi PP false 69 1:=aQ3 layInt
theorem bEf : SlLaysF0.n6 PP aXf where
 mixed:=layInt.mixed
 f6:=layInt.f6
 f14:=layInt.f14
 f15:=layInt.f15
 f20:=layInt.f20
 f21:=layInt.f21
 f22:=layInt.f22
 f23:=layInt.f23
 f24:=layInt.f24
 f25:=layInt.f25
 f26:=layInt.f26
 f27:=layInt.f27
 f28:=layInt.f28
 f29:=layInt.f29
 f46:=layInt.f46
 f47:=layInt.f47
 f48:=layInt.f48
 f49:=layInt.f49
 f50:=layInt.f50
 f57:=layInt.f57
 t0:=layInt.t0
 a0:=layInt.a0
 z0:=layInt.z0
 v0:=layInt.v0
 t3:=layInt.t3
 a3:=layInt.a3
 z3:=layInt.z3
 v3:=layInt.v3
 t4:=layInt.t4
 a4:=layInt.a4
 z4:=layInt.z4
 v4:=layInt.v4
 t5:=layInt.t5
 a5:=layInt.a5
 z5:=layInt.z5
 v5:=layInt.v5
 t9:=layInt.t9
 a9:=layInt.a9
 z9:=layInt.z9
 v9:=layInt.v9
 t22:=layInt.t22
 a22:=layInt.a22
 z22:=layInt.z22
 v22:=layInt.v22
 t25:=layInt.t25
 a25:=layInt.a25
 z25:=layInt.z25
 v25:=layInt.v25
 t39:=layInt.t39
 a39:=layInt.a39
 z39:=layInt.z39
 v39:=layInt.v39
 t45:=layInt.t45
 a45:=layInt.a45
 z45:=layInt.z45
 v45:=layInt.v45
 t46:=layInt.t46
 a46:=layInt.a46
 z46:=layInt.z46
 v46:=layInt.v46
 t50:=layInt.t50
 a50:=layInt.a50
 z50:=layInt.z50
 v50:=layInt.v50
 t53:=layInt.t53
 a53:=layInt.a53
 z53:=layInt.z53
 v53:=layInt.v53
 t55:=layInt.t55
 a55:=layInt.a55
 z55:=layInt.z55
 v55:=layInt.v55
 t66:=layInt.t66
 a66:=layInt.a66
 z66:=layInt.z66
 v66:=layInt.v66
 t70:=layInt.t70
 a70:=layInt.a70
 z70:=layInt.z70
 v70:=layInt.v70
 t76:=layInt.t76
 a76:=layInt.a76
 z76:=layInt.z76
 v76:=layInt.v76
 t77:=layInt.t77
 a77:=layInt.a77
 z77:=layInt.z77
 v77:=layInt.v77
theorem bAu : aHg PP 69:=aFq bEf
theorem bDr : PrimOK PP T where
 fl:=fun cf hcf fl vi args H r H' hle hev=>by
  rcases aPb hev with ⟨_,h⟩ | ⟨_,h⟩ | ⟨_,h⟩ | ⟨_,h⟩
  ·exact aNb hle h
  ·exact aNb hle h
  ·exact aNb hle h
  ·exact aZn hle h
 ok:=fun cf hcf fl vi f args r H' c vs hev hf hs hfl hargs=>by
  rcases aPb hev with ⟨rfl,h⟩ | ⟨rfl,h⟩ | ⟨rfl,h⟩ | ⟨rfl,h⟩
  ·obtain rfl : 102=f:=Option.some.inj ((show ftOf T 71=some 102 by kernel_rfl).symm.trans hf)
   exact aNa hcf aX3 (by simp) bDm aZs h hs hargs
  ·obtain rfl : 23=f:=Option.some.inj ((show ftOf T 19=some 23 by kernel_rfl).symm.trans hf)
   exact aNa hcf aX3 (by simp) bDq aZy h hs hargs
  ·obtain rfl : 69=f:=Option.some.inj ((show ftOf T 55=some 69 by kernel_rfl).symm.trans hf)
   exact aNa hcf aX3 (by simp) bEl bAu h hs hargs
  ·obtain rfl : 41=f:=Option.some.inj ((show ftOf T 35=some 41 by kernel_rfl).symm.trans hf)
   exact aZm bDh aZl h hs hargs
end Go.Proofs.YtapabkfjeiknbaaGreat.Av
namespace Go.Proofs.YtapabkfjeiknbaaGreat.Av
open Go Go.Proofs
set_option maxRecDepth 100000
theorem own : ownKnob PP.godebug=none:=by kernel_rfl
theorem laid : laidOutB PP=true:=by kernel_rfl
theorem aX1 (W : World) : GlobInv (top W):=fun g cs h=>by cases h
open Go.Proofs.YtapabkfjeiknbaaGreat in
theorem aN8 (os : Os) (started : os.Started) (H : Type) (enc : TypeId × Value→H) :
  ReturnsInHanded {} Tryz.checked os 3 .any (Rows.warpEqualsSpec.pre6 enc Tryz.prog Tryz.f3 Rows.warpEqualsRow.domain false) (Rows.warpEqualsSpec.post enc Tryz.prog Tryz.f3 false true false false):=by
 refine returnsInHanded_of_change (C:=Tryz.checked) own started (by kernel_rfl) Tryz.func3
  (ChangeSpec.witness6 (enc:=enc) (C:=Tryz.checked) false ⟨#[],#[.agg #[.slice none 0 0,.slice none 0 0,.slice none 0 0],.agg #[.slice none 0 0,.slice none 0 0,.slice none 0 0],.agg #[.slice none 0 0,.slice none 0 0,.slice none 0 0]],[]⟩ 8 (by kernel_rfl) (by kernel_rfl) (by kernel_rfl) (by kernel_rfl)) ?_
 intro W base args ds gs before hval hW _ _
 have hds : ∃ d0 d1 d2,ds=[d0,d1,d2]∧gs=[]:=by
  obtain ⟨p,q,hA,hV,_⟩:=hW
  have r : DataW.TrodAll enc Tryz.prog W 0 (fun _=>true) true [26,26,26] args.toList ds p:=by
   have:=hA
   rw [Tryz.params3] at this
   exact this
  obtain ⟨v0,vs0,e0,ds0,p0,q0,_,rfl,rfl,h0,r⟩:=ChangeShapes.trodAll_cons r
  obtain ⟨v1,vs1,e1,ds1,p1,q1,_,rfl,rfl,h1,r⟩:=ChangeShapes.trodAll_cons r
  obtain ⟨v2,vs2,e2,ds2,p2,q2,_,rfl,rfl,h2,r⟩:=ChangeShapes.trodAll_cons r
  obtain ⟨rfl,rfl,rfl⟩:=ChangeShapes.trodAll_nil r
  obtain ⟨rfl,rfl⟩:=ChangeShapes.trodVars_none hV
  exact ⟨_,_,_,rfl,rfl⟩
 obtain ⟨d0,d1,d2,rfl,rfl⟩:=hds
 refine aPn (T:=T) (n:=10) (vi:=0) mixed checked bDr (by kernel_rfl) rfl (tb:=4) (by kernel_rfl) (by kernel_rfl) laid (by rw [Tryz.params3]; intro t ht; simp at ht; subst ht; exact ⟨by kernel_rfl,of_decide_eq_true (by kernel_rfl)⟩) (by kernel_rfl) ?_ (aX1 W) ⟨rfl,rfl,rfl⟩ hval hW
 intro xs hxs
 rw [Tryz.params3] at hxs
 obtain ⟨x0,x1,x2,rfl,k0,k1,k2⟩:=aV1 hxs
 obtain ⟨a0,rfl⟩:=aOd k0
 obtain ⟨a1,rfl⟩:=aOd k1
 obtain ⟨a2,rfl⟩:=aOd k2
 obtain ⟨n,hn⟩:=aXg a0 a1 a2
 exact ⟨n,aYb (zQ n a0 a1 a2 true hn)⟩
open Go.Proofs.YtapabkfjeiknbaaGreat in
theorem equals_proved : Rows.WarpEqualsSaid :=
 OpenClaim.holds_of_wide 3 Tryz.f3 rfl rfl rfl rfl rfl rfl rfl ⟨rfl,rfl,rfl,rfl,rfl⟩ rfl rfl rfl rfl rfl (by kernel_rfl) Tryz.func3 (by kernel_rfl)
  (of_decide_eq_true (by kernel_rfl)) (by unfold Func.isWrapper; first | (rw [if_pos (by decide +kernel)]; kernel_rfl) | (rw [if_neg (by decide +kernel)]; exact ⟨rfl,rfl⟩))
  (fun os started H enc _=>aN8 os started H enc)
end Go.Proofs.YtapabkfjeiknbaaGreat.Av
