/- A part of the proof of a law of the chapter warp: an evaluator of the program, proved sound, and what it says. -/
import Derived.Test.YtapabkfjeiknbaaGreatWeTab
set_option linter.unusedVariables false
set_option linter.unusedSimpArgs false
namespace Go.Proofs.YtapabkfjeiknbaaGreat.Av
open Go
def hole (b : Bool) : AV:=match b with
 | true=>.undef
 | false=>.sl false []
def dS (x : Int) : List AV:=[(iv x)]
theorem iD : ∀ x,(dS x).length=1:=fun _=>rfl
theorem aQj : ∀ x,(dS x).map toP=dS x:=fun _=>rfl
theorem zV (H : Heap) (n d : Nat) : ∀ x,(dS x).map (lD H n d)=dS x:=fun _=>by cases d <;> rfl
theorem gJ (n : Nat) : ∀ x,(dS x).map (aA7 n)=dS x:=fun _=>rfl
structure GPoint where
 X : Int
 Y : Int
 deriving DecidableEq
def dW (x : GPoint) : List AV:=[(iv x.X),(iv x.Y)]
theorem gW : ∀ x,(dW x).length=2:=fun _=>rfl
theorem aG9 (H : Heap) (n d : Nat) : ∀ x,(dW x).map (lD H n d)=dW x:=fun _=>by cases d <;> rfl
structure GNode where
 ID : Int
 At : GPoint
 deriving DecidableEq
def dP (x : GNode) : List AV:=[(iv x.ID),(iv x.At.X),(iv x.At.Y)]
theorem jQ : ∀ x,(dP x).length=3:=fun _=>rfl
def tP (x : (List GPoint)) : List AV:=[(.sl false (List.map dW x))]
theorem aG8 : ∀ x,(tP x).length=1:=fun _=>rfl
structure GArc where
 ID : Int
 From : Int
 To : Int
 Via : (List GPoint)
 Left : Int
 Right : Int
 deriving DecidableEq
def dR (x : GArc) : List AV:=[(iv x.ID),(iv x.From),(iv x.To),(.sl false (List.map dW x.Via)),(iv x.Left),(iv x.Right)]
theorem lY : ∀ x,(dR x).length=6:=fun _=>rfl
def eR (x : (List Int)) : List AV:=[(.sl false (List.map dS x))]
theorem pZ : ∀ x,(eR x).length=1:=fun _=>rfl
theorem aGg (H : Heap) (n d : Nat) : ∀ x,(eR x).map (lD H n d)=eR x:=fun _=>by cases d <;> rfl
theorem rC (n : Nat) : ∀ x,(eR x).map (aA7 n)=eR x:=fun _=>rfl
structure GPlan where
 Nodes : (List GNode)
 Arcs : (List GArc)
 Faces : (List Int)
 deriving DecidableEq
def iQ (x : GPlan) : List AV:=[(.sl false (List.map dP x.Nodes)),(.sl false (List.map dR x.Arcs)),(.sl false (List.map dS x.Faces))]
abbrev kU (x : GPlan) : AV:=.agg [(.vw (List.map dP x.Nodes)),(.vw (List.map dR x.Arcs)),(.vw (List.map dS x.Faces))]
abbrev lv0 : List Bool:=[false,true,false,false,false,false,false,false,false,false,false,false,false,false,false,false,false,false,false,true]
abbrev lv1 : List Bool:=[false,true,true,true,false,false,false,false,false,true,true,true]
abbrev lv2 : List Bool:=[false,false,true,true,false,false,false,false,false,false,false,false,false,false,false,false,false,false,false,false,false,false,true,true,true]
abbrev lv3 : List Bool:=[true,true,false,false,false,false,false,true,true]
abbrev lv4 : List Bool:=[false,false,false,false,true]
abbrev lv5 : List Bool:=[false,true,false,true,false,false,false,false,false,true,true,true]
abbrev lv6 : List Bool:=[false,false,false,true,false,false,false,false,false,false,false,false,false,false,false,false,false,false,false,false,false,true,true,true]
theorem aLj (a b : Int) : eD PP (Op.equalIn 9999 3 (.int .i64 a) (.int .i64 b))=some (a == b):=by kernel_rfl
theorem aQm (a b c d : Int) : eD PP (Op.equal 46 (.agg #[.int .i64 a,.int .i64 b]) (.agg #[.int .i64 c,.int .i64 d]))=some (a == c && b == d):=by
 have h1 : eD PP (underlying 46) = some (.struct #[{ name := "X", type := 3, offset := 0, embedded := false, tag := "", pkgPath := "", byteOffset := 0 }, { name := "Y", type := 3, offset := 1, embedded := false, tag := "", pkgPath := "", byteOffset := 8 }]) := by kernel_rfl
 have h3 : ∀ x y : Value,eD PP (part 3 #[x,y] 0)=some x:=by intro x y; kernel_rfl
 have h4 : ∀ x y : Value,eD PP (part 3 #[x,y] 1)=some y:=by intro x y; kernel_rfl
 have h5 : eD PP program=some PP:=rfl
 have h6 : Program.stoodInHeld PP 46=false:=by kernel_rfl
 have n1 : ¬ ("X" = "_") := by decide
 have n2 : ¬ ("Y" = "_") := by decide
 unfold Op.equal Op.maxDepth
 rw [Op.equalIn]
 simp only [iG,h1,Option.bind_some,h5,h6,Bool.false_eq_true,if_false,List.forIn_toArray,List.forIn_cons,List.forIn_nil,n1,n2,ne_eq,not_false_eq_true,if_true,h3,h4,aLj,jA]
 cases h7 : (a == c)
 ·rfl
 ·simp only [Bool.not_true,Bool.false_eq_true,if_false,jA,Option.bind_some,iG,h3,h4,aLj,n1,n2,ne_eq,not_false_eq_true,if_true]
  cases h8 : (b == d) <;> rfl
theorem aQn (a b : GPoint) : decide (a=b)=(a.X == b.X && a.Y == b.Y):=by
 cases a; cases b
 simp only [GPoint.mk.injEq,Bool.decide_and]
 rfl
theorem jC {cf : Nat→Nat→List AV→Heap→Option (AV × Heap)} {fl : Nat} {H : Heap} {a b : GPoint} {r : Bool} (h : decide (a=b)=r) : evOp PP cf fl (.bin .eql 46 (.tmp 0) (.tmp 1)) [.agg (dW a),.agg (dW b)] H=some (.lit (.bool (r)),H):=by
 have g : eD PP (eqGuard .eql 46 (.tmp 0) (.tmp 0) (.agg #[.int .i64 a.X,.int .i64 a.Y]) (.agg #[.int .i64 b.X,.int .i64 b.Y]))=some ():=by kernel_rfl
 have e : eD PP (binOp .eql 46 (.agg #[.int .i64 a.X,.int .i64 a.Y]) (.agg #[.int .i64 b.X,.int .i64 b.Y]))=some (.bool (r)):=by
  simp only [binOp,iG,aQm,Option.bind_some,jA,← h,aQn]
 have hl : ∀ a : GPoint,lits (.agg (dW a))=some (.agg #[.int .i64 a.X,.int .i64 a.Y]):=fun _=>rfl
 simp only [evOp,dU,List.getElem?_cons_zero,List.getElem?_cons_succ,hl,aGv,if_true,g,e]
abbrev lv7 : List Bool:=[false,true,true,false,false,false,false,false,false,false,false,false,false,false,false,false,true,true,true]
abbrev lv8 : List Bool:=[false,true,true,false,false,false,true,false,false,false,false,false,false,false,false,false,true,true,true,false,false,false,false,false,false,false,true,true,true]
abbrev lv9 : List Bool:=[false,true,true,false,false,false,false,false,false,false,false,false,false,false,false,false,false,false,false,false,false,false,false,false,false,false,false,false,false,false,false,false,false,false,false,false,false,false,false,false,true,true,true]
abbrev lv10 : List Bool:=[false,true,true,false,false,false,false,false,false,false,false,false,false,false,false,false,false,false,false,false,false,false,false,false,false,false,false,false,false,false,false,false,false,false,false,false,false,false,false,false,true,true,true,false,false,false,false,false,false,false,false,false,false,false,false,false,false,true]
abbrev lv11 : List Bool:=[false,false,true,false,false,false,false,false,false,false,false,false,false,false,false,false,false,false,false,false,false,false,false,false,false,false,false,false,false,false,false,false,false,false,false,false,false,false,false,false,false,false,false,false,false,false,false,false,false,false,false,false,false,false,false,false,false,false,false,false,true,true,true]
abbrev lv12 : List Bool:=[false,false,true,false,false,false,false,false,false,false,false,false,false,false,false,false,false,false,false,false,false,false,false,false,false,false,false,false,false,false,false,false,false,false,false,false,false,false,false,false,false,false,false,false,false,false,false,false,false,false,false,false,false,false,false,false,false,false,false,false,true,true,true,false,false,false,false,false,false,false,true,true]
abbrev lv13 : List Bool:=[false,false,true,false,false,false,false,false,false,false,false,false,false,false,false,false,false,false,false,false,false,false,false,false,false,false,false,false,false,false,false,false,false,false,false,false,false,false,false,false,false,false,false,false,false,false,false,false,false,false,false,false,false,false,false,false,false,false,false,false,true,true,true,false,false,false,false,false,false,false,true,true,false,false,false,false,false,false,false,false,false,false,true]
abbrev lv14 : List Bool:=[false,true,false,false,true,false,false,false,false,true,true,true]
abbrev lv15 : List Bool:=[false,false,false,false,true,true]
abbrev lv16 : List Bool:=[true,false,false,true,false,false,false,false,false,true,true,true]
abbrev lv17 : List Bool:=[false,false,false,false,false,false,true,false,false,false,false,false,false,false,false,false,false,false,false,false,false,false,false,false,false,true,true,true]
abbrev lv18 : List Bool:=[false,false,false,false,false,false,true]
abbrev lv19 : List Bool:=[false,false,false,false,false,false,true,false,true,false,true,false,false,false,false,false,false,false,false,false,false,false,false,false,false,false,false,false,false,false,false,false,false,false,false,false,false,false,false,false,false,true]
structure Gline where
 Arc : GArc
 path : (List GPoint)
 deriving DecidableEq
def eA (x : Gline) : List AV:=[(iv x.Arc.ID),(iv x.Arc.From),(iv x.Arc.To),(.sl false (List.map dW x.Arc.Via)),(iv x.Arc.Left),(iv x.Arc.Right),(.sl false (List.map dW x.path))]
structure Gsegment where
 line : Gline
 at_ : Int
 deriving DecidableEq
def dV (x : Gsegment) : List AV:=[(.sptr (eA x.line)),(iv x.at_)]
theorem xN : ∀ x,(dV x).length=2:=fun _=>rfl
theorem aL9 : ∀ x,(dV x).map toP=dV x:=fun _=>rfl
theorem aAt (H : Heap) (n d : Nat) : ∀ x,(dV x).map (lD H n d)=dV x:=fun _=>by cases d <;> rfl
theorem eI (n : Nat) : ∀ x,(dV x).map (aA7 n)=dV x:=fun _=>rfl
abbrev lv20 : List Bool:=[false,true,true,false,false,false,false,false,false,false,false,true,true,true]
abbrev lv21 : List Bool:=[false,true,true,false,false,true,true,false,false,false,false,true,true,true,false,false,false,false,false,false,false,false,false,false,false,false,false,false,false,false,false,false,false,false,false,false,false,true]
abbrev lv22 : List Bool:=[false,true,true,false,false,false,true,false,true,false,false,true,true,true,false,false,false,false,false,false,false,false,false,false,false,false,false,false,false,false,false,false,false,false,false,false,false,false,false,false,false,false,false,false,true,true]
abbrev lv23 : List Bool:=[false,false,false,false,false,true,true,true]
abbrev lv24 : List Bool:=[false,false,false,false,false,true,true,true,false,false,false,false,false,false,false,false,false,false,false,false,false,false,false,false,false,false,false,false,true]
abbrev lv25 : List Bool:=[false,false,false,true,true,true,false,false,false,false,false,false,false,false,false,false,false,false,false,true]
abbrev lv26 : List Bool:=[false,false,false,false,true,true,true,true]
abbrev lv27 : List Bool:=[false,false,false,false,false,false,false,false,true]
abbrev lv28 : List Bool:=[false,false,false,false,false,false,false,true,false,true,true]
abbrev lv29 : List Bool:=[false,false,false,false,false,false,false,false,false,true,true]
abbrev lv30 : List Bool:=[false,false,false,false,true,true,true,true,false,true,false,false,false,false,false,false,false,false,false,false,false,false,false,false,false,false,false,false,false,false,false,false,false,false,false,false,false,false,false,false,false,false,false,false,false,false,false,false,false,false,false,false,false,false,false,true]
abbrev lv31 : List Bool:=[false,false,false,false,false,false,false,false,false,true]
def dX (x : Int) : Value:=(.int .i64 x)
def eB (x : GPoint) : AV:=(.agg (dW x))
abbrev lv32 : List Bool:=[false,false,false,true,true,false,false,false,false,false,false,true]
abbrev lv33 : List Bool:=[false,false,false,false,false,false,false,false,false,false,false,true,false,false,false,false,false,false,false,false,false,false,false,false,false,false,false,false,false,false,false,false,false,false,false,false,false,false,false,false,false,false,false,false,false,false,false,false,false,false,false,false,false,false,false,false,false,false,false,false,false,false,false,false,false,false,false,false,false,false,false,false,false,false,false,false,false,false,true]
abbrev lv34 : List Bool:=[false,false,true,false,true,false,false,true,true,true,true,false,false,false,false,false,false,false,false,false,false,false,false,false,false,false,false,false,false,false,false,false,false,false,false,false,false,false,false,false,false,false,false,false,false,false,false,false,false,false,false,false,false,false,false,false,false,false,false,false,false,false,false,false,false,false,false,false,false,false,false,false,false,false,false,false,false,false,false,false,false,false,false,false,false,false,false,false,false,false,false,false,false,false,false,false,false,false,false,true,true]
abbrev lv35 : List Bool:=[false,false,true,false,true,false,false,true,true,true,true,false,false,false,false,false,false,false,false,false,false,false,false,false,false,false,false,false,false,false,false,false,false,false,false,false,false,false,false,false,false,false,false,false,false,false,false,false,false,false,false,false,false,false,false,false,false,false,false,false,false,false,false,false,false,false,false,false,false,false,false,false,false,false,false,false,false,false,false,false,false,false,false,false,false,false,false,false,false,false,false,false,false,false,false,false,false,false,false,true,true,false,false,false,false,false,false,false,false,false,false,false,false,false,false,false,false,false,false,false,false,false,false,false,false,false,false,false,false,false,false,false,false,false,false,true]
abbrev lv36 : List Bool:=[false,true,false,true,false,true,false,false,false,false,false,false,false,false,false,false,false,false,false,false,false,false,false,false,false,true,true,true]
abbrev lv37 : List Bool:=[false,true,false,true,false,true]
abbrev lv38 : List Bool:=[false,true,false,true,false,true,false,false,false,false,false,false,false,false,false,false,false,false,false,false,false,false,false,false,false,false,false,false,false,false,false,false,false,false,false,false,false,false,false,true,true,true]
abbrev lv39 : List Bool:=[false,true,false,true,false,true,false,false,false,true,false,false,false,false,false,false,false,false,false,false,false,false,false,false,false,false,false,false,false,false,false,false,false,false,false,false,false,false,false,true,true,true,false,false,false,false,false,false,false,true,true,true]
abbrev lv40 : List Bool:=[false,true,false,true,false,true,false,false,false,true,false,false,false,false,false,false,false,false,false,false,false,false,false,false,false,false,false,false,false,false,false,false,false,false,false,false,false,false,false,true,true,true]
abbrev lv41 : List Bool:=[false,true,false,true,false,true,false,false,false,true,false,false,false,false,false,false,false,false,false,false,false,false,false,false,false,false,false,false,false,false,false,false,false,false,false,false,false,false,false,true,true,true,false,false,false,false,false,false,false,false,false,false,false,false,false,false,false,false,false,false,false,false,false,false,false,false,false,true,true,true]
abbrev lv42 : List Bool:=[false,true,false,true,false,true,false,false,false,true,false,false,false,false,false,false,false,false,false,false,false,false,false,false,false,false,false,false,false,false,false,false,false,false,false,false,false,false,false,true,true,true,false,false,false,false,false,false,false,false,false,false,false,false,false,false,false,false,false,false,false,false,false,false,false,false,false,true,true,true,false,false,false,false,false,false,false,false,false,false,false,false,false,false,false,false,false,false,false,false,false,false,false,false,false,false,false,false,false,false,false,false,false,false,false,false,false,false,false,false,false,false,false,false,true]
abbrev lv43 : List Bool:=[false,true,false,false,false,false,false,false,false,false,false,false,false,false,false,false,false,false,false,false,false,false,true]
abbrev lv44 : List Bool:=[false,true,false,false,false,false,false,false,false,false,false,false,false,false,false,false,false,false,false,false,false,false,false,false,true,true,true]
abbrev lv45 : List Bool:=[false,true,false,false,false,true,true,false,false,false,false,false,false,false,false,false,false,false,false,false,false,false,false,false,false,false,false,false,false,false,false,false,false,false,false,false,false,false,false,false,false,false,false,false,false,false,false,false,false,false,false,false,false,true]
abbrev lv46 : List Bool:=[false,true,false,false,false,true,false,false,false,false,false,false,false,false,false,false,false,false,false,false,false,false,false,false,false,false,false,false,false,false,false,false,false,false,false,false,false,false,false,false,false,false,false,false,false,false,false,false,false,false,false,false,false,false,false,false,false,false,false,false,false,false,false,false,false,false,false,false,false,false,false,false,true]
abbrev lv47 : List Bool:=[false,false,false,true,true,true,false,false,false,false,false,false,false,false,false,false,false,false,false,false,false,false,true]
abbrev lv48 : List Bool:=[false,true,true,false,true,true,false,true,true,false,false,false,false,false,false,false,false,false,false,false,false,false,false,false,true,true,true]
abbrev lv49 : List Bool:=[false,false,false,false,true,true,false,true]
abbrev lv50 : List Bool:=[false,true,true,false,true,true,false,true,true,false,true,false,false,false,false,false,false,false,false,false,false,false,false,false,true,true,true,false,false,false,false,false,false,false,false,false,false,false,false,true]
def rO (x : Int) : AV:=(iv x)
abbrev lv51 : List Bool:=[false,true,true,false,true,true,false,false,false,false,false,false,false,false,false,false,false,false,false,false,false,false,true,true,true]
abbrev lv52 : List Bool:=[false,false,true,false,true,true]
abbrev lv53 : List Bool:=[false,true,true,false,true,true,false,false,true,false,false,false,false,false,false,false,false,false,false,false,false,false,true,true,true,false,false,false,false,false,false,false,true,true,true]
def gN (x : Bool) : AV:=(bv x)
abbrev lv54 : List Bool:=[false,false,true,false,false,false,false,false,false,false,false,true,true,false,false,false,false,false,false,false,false,false,false,false,false,false,false,false,false,false,false,false,false,false,false,false,false,false,false,false,false,false,false,false,false,false,false,false,false,false,false,false,false,false,true,true,true]
abbrev lv55 : List Bool:=[true,true,true,false,true]
def eX (x : (List GPoint)) : AV:=(.sl false (List.map dW x))
abbrev lv56 : List Bool:=[false,true,false,true,false,false,false,false,false,false,true,true,true]
abbrev lv57 : List Bool:=[false,false,true,false,true,false,false,false,false,false,false,false,false,false,false,false,true,true,true]
abbrev lv58 : List Bool:=[false,false,true,false,true,false,true,false,false,true,false,true,false,false,false,false,true,true,true,false,false,false,false,false,false,false,false,false,false,false,false,false,false,false,false,false,false,false,false,false,false,false,false,true,true]
abbrev lv59 : List Bool:=[false,false,true,false,true,false,true,false,false,false,false,true,false,false,false,false,true,true,true]
abbrev lv60 : List Bool:=[true,false,true,false,false,false,false,false,false,false,true,true,true]
abbrev lv61 : List Bool:=[true,false,true,false,false,false,false,false,true,true,true,true,true]
abbrev lv62 : List Bool:=[false,false,true,false,true,true,true,false,false,false,false,false,true]
abbrev lv63 : List Bool:=[false,false,false,false,true,false,false,false,false,false,false,false,false,false,false,false,false,false,false,false,false,false,false,false,false,false,false,false,false,false,false,false,false,false,true]
structure GareaV where
 twice : Int
 outer : (List Int)
 inner : Bool
 alone : Bool
 deriving DecidableEq
def vU (x : GareaV) : List AV:=[(iv x.twice),(.sl false (List.map dS x.outer)),(hole x.inner),(hole x.alone)]
theorem aA9 : ∀ x,(vU x).length=4:=fun _=>rfl
abbrev lv64 : List Bool:=[true,true,false,false,false,true,false,true,true]
abbrev lv65 : List Bool:=[false,false,false,false,false,false,false,true]
abbrev lv66 : List Bool:=[true,true,false,false,false,true,false,true,true,false,false,false,false,false,false,false,false,false,false,false,false,false,false,false,false,false,false,false,false,false,false,false,false,false,false,false,false,false,false,true]
abbrev lv67 : List Bool:=[false,true,false,false,true,false,false,false,true,true,true]
abbrev lv68 : List Bool:=[false,true,false,false,true,false,true,false,true,true,true]
structure Garea where
 twice : Int
 outer : (List Int)
 inner : (List (List Int))
 alone : (List Int)
 deriving DecidableEq
def gO (x : Garea) : List AV:=[(iv x.twice),(.sl false (List.map dS x.outer)),(.sl false (List.map eR x.inner)),(.sl false (List.map dS x.alone))]
theorem aLo : ∀ x,(gO x).length=4:=fun _=>rfl
abbrev lv69 : List Bool:=[false,false,true,false,true,false,true,false,false,false,false,false,false,false,false,true,true,true]
abbrev lv70 : List Bool:=[false,false,true,false,true,false,true]
abbrev lv71 : List Bool:=[false,false,true,false,true,false,true,false,true,true,false,false,false,false,false,true,true,true,false,false,false,false,false,false,false,false,false,false,false,false,false,false,false,false,false,false,true]
abbrev lv72 : List Bool:=[false,false,true,false,true,false,true,false,false,true,false,false,false,false,false,true,true,true,false,false,false,false,false,false,false,false,false,false,false,false,false,false,false,false,false,false,false,false,false,false,true,true,true]
abbrev lv73 : List Bool:=[false,false,true,false,true,false,true,false,false,true,false,false,false,false,false,true,true,true]
abbrev lv74 : List Bool:=[false,false,true,false,true,false,true,false,false,true,false,false,false,false,false,true,true,true,false,false,false,false,false,false,false,false,false,false,false,false,false,false,false,false,false,false,false,false,false,false,true,true,true,false,false,false,true,true,true]
structure GRegion where
 Face : Int
 Outer : (List Int)
 Inner : (List (List Int))
 Alone : (List Int)
 deriving DecidableEq
def eP (x : GRegion) : List AV:=[(iv x.Face),(.sl false (List.map dS x.Outer)),(.sl false (List.map eR x.Inner)),(.sl false (List.map dS x.Alone))]
theorem aC2 : ∀ x,(eP x).length=4:=fun _=>rfl
theorem aMa (H : Heap) (n d : Nat) : ∀ x,(eP x).map (lD H n d)=eP x:=fun _=>by cases d <;> rfl
theorem aAu (n : Nat) : ∀ x,(eP x).map (aA7 n)=eP x:=fun _=>rfl
abbrev aOq (x : GRegion) : AV:=.agg [(iv x.Face),(.vw (List.map dS x.Outer)),(.vw (List.map eR x.Inner)),(.vw (List.map dS x.Alone))]
abbrev lv75 : List Bool:=[false,false,true,false,false,true,false,false,false,false,false,false,false,false,false,false,false,false,false,true,true,true]
abbrev bFc (x : GArc) : AV:=.agg [(iv x.ID),(iv x.From),(iv x.To),(.vw (List.map dW x.Via)),(iv x.Left),(iv x.Right)]
structure Gframe where
 id : Int
 from_ : Int
 to : Int
 left : Int
 right : Int
 deriving DecidableEq
def aJt (x : Gframe) : List AV:=[(iv x.id),(iv x.from_),(iv x.to),(iv x.left),(iv x.right)]
theorem aQk (a0 a1 a2 a3 a4 b0 b1 b2 b3 b4 : Int) : eD PP (Op.equal 52 (.agg #[.int .i64 a0,.int .i64 a1,.int .i64 a2,.int .i64 a3,.int .i64 a4]) (.agg #[.int .i64 b0,.int .i64 b1,.int .i64 b2,.int .i64 b3,.int .i64 b4]))=some (a0 == b0 && (a1 == b1 && (a2 == b2 && (a3 == b3 && (a4 == b4))))):=by
 have h1 : eD PP (underlying 52) = some (.struct #[{ name := "id", type := 3, offset := 0, embedded := false, tag := "", pkgPath := "mapsheets/warp", byteOffset := 0 }, { name := "from", type := 3, offset := 1, embedded := false, tag := "", pkgPath := "mapsheets/warp", byteOffset := 8 }, { name := "to", type := 3, offset := 2, embedded := false, tag := "", pkgPath := "mapsheets/warp", byteOffset := 16 }, { name := "left", type := 3, offset := 3, embedded := false, tag := "", pkgPath := "mapsheets/warp", byteOffset := 24 }, { name := "right", type := 3, offset := 4, embedded := false, tag := "", pkgPath := "mapsheets/warp", byteOffset := 32 }]) := by kernel_rfl
 have p0 : ∀ x0 x1 x2 x3 x4 : Value,eD PP (part 3 #[x0,x1,x2,x3,x4] 0)=some x0:=by intro x0 x1 x2 x3 x4; kernel_rfl
 have p1 : ∀ x0 x1 x2 x3 x4 : Value,eD PP (part 3 #[x0,x1,x2,x3,x4] 1)=some x1:=by intro x0 x1 x2 x3 x4; kernel_rfl
 have p2 : ∀ x0 x1 x2 x3 x4 : Value,eD PP (part 3 #[x0,x1,x2,x3,x4] 2)=some x2:=by intro x0 x1 x2 x3 x4; kernel_rfl
 have p3 : ∀ x0 x1 x2 x3 x4 : Value,eD PP (part 3 #[x0,x1,x2,x3,x4] 3)=some x3:=by intro x0 x1 x2 x3 x4; kernel_rfl
 have p4 : ∀ x0 x1 x2 x3 x4 : Value,eD PP (part 3 #[x0,x1,x2,x3,x4] 4)=some x4:=by intro x0 x1 x2 x3 x4; kernel_rfl
 have h5 : eD PP program=some PP:=rfl
 have h6 : Program.stoodInHeld PP 52=false:=by kernel_rfl
 have n0 : ¬ ("id" = "_") := by decide
 have n1 : ¬ ("from" = "_") := by decide
 have n2 : ¬ ("to" = "_") := by decide
 have n3 : ¬ ("left" = "_") := by decide
 have n4 : ¬ ("right" = "_") := by decide
 unfold Op.equal Op.maxDepth
 rw [Op.equalIn]
 simp only [iG,h1,Option.bind_some,h5,h6,Bool.false_eq_true,if_false,List.forIn_toArray,List.forIn_cons,List.forIn_nil,n0,n1,n2,n3,n4,ne_eq,not_false_eq_true,if_true,p0,p1,p2,p3,p4,aLj,jA]
 cases e0 : (a0 == b0)
 ·rfl
 simp only [Bool.not_true,Bool.false_eq_true,if_false,jA,Option.bind_some,iG,p0,p1,p2,p3,p4,aLj,n0,n1,n2,n3,n4,ne_eq,not_false_eq_true,if_true]
 cases e1 : (a1 == b1)
 ·rfl
 simp only [Bool.not_true,Bool.false_eq_true,if_false,jA,Option.bind_some,iG,p0,p1,p2,p3,p4,aLj,n0,n1,n2,n3,n4,ne_eq,not_false_eq_true,if_true]
 cases e2 : (a2 == b2)
 ·rfl
 simp only [Bool.not_true,Bool.false_eq_true,if_false,jA,Option.bind_some,iG,p0,p1,p2,p3,p4,aLj,n0,n1,n2,n3,n4,ne_eq,not_false_eq_true,if_true]
 cases e3 : (a3 == b3)
 ·rfl
 simp only [Bool.not_true,Bool.false_eq_true,if_false,jA,Option.bind_some,iG,p0,p1,p2,p3,p4,aLj,n0,n1,n2,n3,n4,ne_eq,not_false_eq_true,if_true]
 cases e4 : (a4 == b4) <;> rfl
theorem aQl (a b : Gframe) : decide (a=b)=(a.id == b.id && (a.from_ == b.from_ && (a.to == b.to && (a.left == b.left && (a.right == b.right))))):=by
 cases a; cases b
 simp only [Gframe.mk.injEq,Bool.decide_and]
 rfl
theorem aIz {cf : Nat→Nat→List AV→Heap→Option (AV × Heap)} {fl : Nat} {H : Heap} {a b : Gframe} {r : Bool} (h : decide (a=b)=r) : evOp PP cf fl (.bin .eql 52 (.tmp 0) (.tmp 1)) [.agg (aJt a),.agg (aJt b)] H=some (.lit (.bool (r)),H):=by
 have g : eD PP (eqGuard .eql 52 (.tmp 0) (.tmp 0) (.agg #[.int .i64 a.id,.int .i64 a.from_,.int .i64 a.to,.int .i64 a.left,.int .i64 a.right]) (.agg #[.int .i64 b.id,.int .i64 b.from_,.int .i64 b.to,.int .i64 b.left,.int .i64 b.right]))=some ():=by kernel_rfl
 have e : eD PP (binOp .eql 52 (.agg #[.int .i64 a.id,.int .i64 a.from_,.int .i64 a.to,.int .i64 a.left,.int .i64 a.right]) (.agg #[.int .i64 b.id,.int .i64 b.from_,.int .i64 b.to,.int .i64 b.left,.int .i64 b.right]))=some (.bool (r)):=by
  simp only [binOp,iG,aQk,Option.bind_some,jA,← h,aQl]
 have hl : ∀ a : Gframe,lits (.agg (aJt a))=some (.agg #[.int .i64 a.id,.int .i64 a.from_,.int .i64 a.to,.int .i64 a.left,.int .i64 a.right]):=fun _=>rfl
 simp only [evOp,dU,List.getElem?_cons_zero,List.getElem?_cons_succ,hl,aGv,if_true,g,e]
abbrev lv76 : List Bool:=[true,true,false,false,false,false,false,false,false,false,false,false,true,true]
abbrev lv77 : List Bool:=[false,true,true,false,false,false,false,false,false,false,false,false,false,false,false,true,true,true]
abbrev lv78 : List Bool:=[false,false,false,true,true,true,false,false,false,false,false,false,false,false,false,false,false,false,false,false,false,true]
abbrev lv79 : List Bool:=[false,false,false,true,false,false,false,false,false,false,false,false,false,false,false,false,false,false,false,false,false,false,false,false,false,false,false,false,false,false,false,false,false,false,false,false,false,false,false,false,false,false,false,false,false,true]
structure OZ where
 O : List (Nat × AV × Option Heap)
 ps : List Prop
 ok : AllP ps
def q0 : OZ:=⟨[],[],trivial⟩
def qp {p : Prop} (g : p) (r : OZ) : OZ:=⟨r.O,p :: r.ps,⟨g,r.ok⟩⟩
def qa {x : Option AV} {v : AV} (k : Nat) (g : x=some v) (r : OZ) : OZ:=⟨(k,v,none) :: r.O,(x=some v) :: r.ps,⟨g,r.ok⟩⟩
def qb {x : Option (AV × Heap)} {v : AV} {H : Heap} (k : Nat) (g : x=some (v,H)) (r : OZ) : OZ:=⟨(k,v,none) :: r.O,(x=some (v,H)) :: r.ps,⟨g,r.ok⟩⟩
def qc {x : Option (AV × Heap)} {v : AV} {H : Heap} (k : Nat) (g : x=some (v,H)) (r : OZ) : OZ:=⟨(k,v,some H) :: r.O,(x=some (v,H)) :: r.ps,⟨g,r.ok⟩⟩
section
variable [GlobT] {P : Program} {T : List AFun} {n vi fl : Nat} {args : List AV} {r : AV} {H H' : Heap}
theorem pv_q (F : AFun) (z : OZ) (L : List (AExit × St)) (M : List (Option Heap)) (h : oF P T n ⟨z.O,[]⟩ L M F args=some (r,z.ps):=by kernel_rfl) (hF : getF T vi=some F:=by exact rfl) : pv P T (n + 1) vi args=some r:=pv_z _ L M hF ⟨z.ps,z.ok⟩ h
theorem iT (F : AFun) (z : OZ) (L : List (AExit × St)) (M : List (Option Heap)) (h : oE P T n ⟨z.O,[]⟩ L M F fl args H=some (r,H',z.ps):=by kernel_rfl) (hF : getF T vi=some F:=by exact rfl) : evF P T (n + 1) fl vi args H=some (r,H'):=bI3 _ L M hF ⟨z.ps,z.ok⟩ h
variable {cf : Nat→Nat→List AV→Heap→Option (AV × Heap)} {lf m : Nat} {c : ACode} {st : St} {x : AExit} {lx lr : List Bool} {q : Option (AExit × St)}
theorem bFu (live : Option (List Bool)) (tr : Bool) (st' : St) (z : OZ) (L : List (AExit × St)) (M : List (Option Heap)) (hc : eS tr fl n st'.heap) (hr : eG (eO live tr fl n) (evC P cf lf fl c) m st'=q)
  (h : oB P cf lf fl (aGa live tr n) ⟨z.O,[]⟩ L M c st=some (.normal,st',z.ps):=by kernel_rfl) (hn : Nat.ble fl n=true:=by exact rfl) : eG (eO live tr fl n) (evC P cf lf fl c) (m + 1) st=q:=bFt _ L M hn ⟨z.ps,z.ok⟩ h hc hr
theorem eQ (live : Option (List Bool)) (tr' : Bool) {tr : Bool} (st' : St) (z : OZ) (L : List (AExit × St)) (M : List (Option Heap)) (hc : aQc tr fl n x st'.heap)
  (h : oX P cf lf fl n lx lr tr ⟨z.O,[]⟩ L M c st=some (x,st',z.ps):=by kernel_rfl) (hn : Nat.ble fl n=true:=by exact rfl) : eT lx lr tr fl n (eG (eO live tr' fl n) (evC P cf lf fl c) (m + 1) st)=some (x,st'):=bFy _ L M hn ⟨z.ps,z.ok⟩ h hc
theorem nx_q {live : Option (List Bool)} {tr tr2 : Bool} {n2 : Nat} (st' : St) (z : OZ) (L : List (AExit × St)) (M : List (Option Heap)) (hc : eS tr fl n st'.heap) (ih : eT lx lr tr2 fl n2 (eG (eO live tr fl n) (evC P cf lf fl c) m st')=q)
  (h : oB P cf lf fl (aGa live tr n) ⟨z.O,[]⟩ L M c st=some (.normal,st',z.ps):=by kernel_rfl) (hn : Nat.ble fl n=true:=by exact rfl) : eT lx lr tr2 fl n2 (eG (eO live tr fl n) (evC P cf lf fl c) (m + 1) st)=q:=(congrArg (eT lx lr tr2 fl n2) (bFu live tr st' z L M hc rfl h hn)).trans ih
end
theorem si {α : Type} {a b : α} (h : some a=some b) : a=b:=Option.some.inj h
theorem cn {α : Type} {b : Bool} {x y r : α} (h : cnd b x y=r) : (b=true∧some (AV.lit (.bool b))=some bt∧x=r) ∨ (b=false∧some (AV.lit (.bool b))=some bf∧y=r):=by
 cases b with
 | true=>exact .inl ⟨rfl,rfl,h⟩
 | false=>exact .inr ⟨rfl,rfl,h⟩
section
variable [GlobT] {P : Program} {cf : Nat→Nat→List AV→Heap→Option (AV × Heap)} {fl b id s n k : Nat} {H : Heap} {α : Type} {c : α→List AV} {l l' m : List α} {row : List AV}
end
theorem aJs [GlobT] {P : Program} {T : List AFun} {n fl vi : Nat} {args : List AV} {H : Heap} {r : AV} (hp : pJ args=true) (hn : args.map nrm2=args) (h : pv P T n vi args=some r) : yM (evF P T n) fl true vi args H=some (r,H):=by
 rw [bBa]
 simp only [hp,hn,h]
section
variable [GlobT] {H : Heap} {α : Type} {c : α→List AV} {l : List α} {x : α} {i : Int} {id s fl tot : Nat}
end
def spGo (i : Nat) : Nat→List (Nat × AV)→List AV
 | 0,_=>[]
 | n + 1,l=>match l with
  | []=>.undef :: spGo (i + 1) n []
  | p :: r=>match Nat.beq p.1 i with
   | true=>p.2 :: spGo (i + 1) n r
   | false=>.undef :: spGo (i + 1) n (p :: r)
abbrev sp (n : Nat) (l : List (Nat × AV)) : List AV:=spGo 0 n l
theorem clo {n : Nat} {o : AObj} {l : List AObj} (h : gG n o=o) (k : l.map (gG n)=l) : (o :: l).map (gG n)=o :: l:=by rw [List.map_cons,h,k]
theorem kA {K V : Type} {kv : K→Value} {va : V→AV} {n : Nat} {m : List (K × V)} (h : ∀ v,aIw n (va v)=va v) : gG n (.mp (entL kv va m))=.mp (entL kv va m):=congrArg AObj.mp (aYs h)
theorem hU {α : Type} {c : α→List AV} {n s : Nat} {l : List α} (h : ∀ x,(c x).map (aA7 n)=c x) : gG n (.blk s (l.map c))=.blk s (l.map c):=congrArg (AObj.blk s) (by rw [List.map_map]; exact List.map_congr_left fun x _=>h x)
theorem lH {α : Type} {c : α→List AV} {n s k : Nat} {l : List α} (h : ∀ x,(c x).map (aA7 n)=c x) : gG n (.blk s (l.map c++[List.replicate k .undef]))=.blk s (l.map c++[List.replicate k .undef]):=congrArg (AObj.blk s) (by
 rw [List.map_append,List.map_map]
 congr 1
 ·exact List.map_congr_left fun x _=>h x
 ·simp [aA7,aIx])
theorem dY [GlobT] {P : Program} {cf : Nat→Nat→List AV→Heap→Option (AV × Heap)} {lf fl n : Nat} {lx lr : List Bool} {c : ACode} {st : St} {x : AExit} (st' : St) (z : OZ) (L : List (AExit × St)) (M : List (Option Heap))
  (h : oP P cf lf fl lx lr ⟨z.O,[]⟩ L M c st=some (x,st',z.ps):=by kernel_rfl) : eT lx lr false fl n (evC P cf lf fl c st)=some (x,st'):=bDu _ L M h z.ok
def qJ (n : Nat) (l : List GPoint) : Option (List GPoint):=match n with
 | 0=>none
 | _ + 1=>if l.length ≤ 1000000 then some l else none
theorem aDt (n : Nat) (l r : List GPoint) (h : qJ n l=some r) : pv PP T n 81 [.vw (l.map dW)]=some (.sl false (r.map dW)):=by
 cases n with
 | zero=>cases h
 | succ n =>
  simp only [qJ] at h
  split at h
  ·rename_i hl
   cases h
   exact bA7 (s:=2) (bytes:=16) (z:=[(.int .i64 0),(.int .i64 0)]) (fid:=124) rfl gW (by omega) (by omega) (fun H=>aG9 H 0 5) l hl
  ·cases h
theorem lG : KeyOK PP 3 dX:=bEg (by kernel_rfl)
def aXy (x : Int) : Option (List GPoint):=if 0 < x∧x ≤ 500000 then some (List.replicate x.toNat (GPoint.mk 0 0)) else none
theorem i64_in (n : Int) (h : -9223372036854775808 ≤ n∧n ≤ 9223372036854775807) : IntKind.i64.wrap n=n:=by
 rw [IntKind.wrap_i64]; omega
theorem aX0 {n fl : Nat} {x : Int} {l : List GPoint} (H : Heap) (hfl : fl ≤ H.length) (h : aXy x=some l) : evF PP T (n + 1) fl 82 [.lit nilS,iv x] H=some (.ms H.length l.length 0 0,H++[.blk 2 (l.map dW)]):=by
 unfold aXy at h
 split at h
 ·rename_i hx
  cases h
  have hz : IntKind.i64.wrap 0=0:=by rw [IntKind.wrap_i64]; rfl
  have hw : IntKind.i64.wrap x=x:=i64_in x (by omega)
  have ht : x.toNat ≠ 0:=by omega
  have hap : iE fl H 2 16 (.lit nilS) (List.replicate x.toNat [iv 0,iv 0])=some (.ms H.length x.toNat 0 x.toNat,H++[.blk 2 (List.replicate x.toNat [iv 0,iv 0])]):=by
   have hr : room x.toNat 16=true:=by simp [room]; omega
   have ha : zJ 2 (List.replicate x.toNat [iv 0,iv 0])=true:=by simp [zJ]
   simp [iE,ha,hr,nilS,ht]
  have h1 : decide (x < 0)=false:=decide_eq_false (by omega)
  have hX : IntKind.i64.wrap (x - IntKind.i64.wrap (0 - 0))=x:=by rw [show (0 : Int) - 0=0 from rfl,hz,Int.sub_zero,hw]
  have h2 : decide (IntKind.i64.wrap (x - IntKind.i64.wrap (0 - 0)) > 0)=true:=by rw [hX]; exact decide_eq_true (by omega)
  have aA : evOp PP (evF PP T n) fl (.appendZ 2 16 [.int .i64 0,.int .i64 0] (.tmp 0) (.tmp 1)) [.lit nilS,iv (IntKind.i64.wrap (x - IntKind.i64.wrap (0 - 0)))] H=some (.ms H.length x.toNat 0 x.toNat,H++[.blk 2 (List.replicate x.toNat [iv 0,iv 0])]):=by
   rw [hX]
   have e2 : uS (iv x)=some x.toNat:=by simp [uS]; omega
   simp only [evOp,dU,List.getElem?_cons_zero,List.getElem?_cons_succ,e2]
   rw [if_pos ⟨rfl,by omega,by omega⟩]
   exact hap
  have aB : evOp PP (evF PP T n) fl (.slice 2 (.tmp 0) none (some (.tmp 2)) none) [.ms H.length x.toNat 0 x.toNat,.undef,iv 0,.undef] (H++[.blk 2 (List.replicate x.toNat [iv 0,iv 0])])=some (.ms H.length x.toNat 0 0,H++[.blk 2 (List.replicate x.toNat [iv 0,iv 0])]):=by
   have e0 : uS (iv 0)=some 0:=rfl
   simp only [evOp,dU,List.getElem?_cons_zero,List.getElem?_cons_succ,tH,e0,aBy]
   rw [List.getElem?_append_right (Nat.le_refl _),Nat.sub_self]
   simp
  have fin : evF PP T (n + 1) fl 82 [.lit nilS,iv x] H=some (.ms H.length x.toNat 0 0,H++[.blk 2 (List.replicate x.toNat [iv 0,iv 0])]):=iT F82 (qb 25 aB<|qc 22 aA<|qa 16 (yX h2)<|qa 6 (yX h1)<|q0) [] []
  rw [fin,List.length_replicate,List.map_replicate]
  rfl
 ·cases h
def aBo (a1 : GPlan) : St:=⟨sp 35 [(1,(.ptr 0 1 0 0))],[(.blk 3 [[(.vw (List.map dP a1.Nodes)),(.vw (List.map dR a1.Arcs)),(.vw (List.map dS a1.Faces))]])]⟩
def gH (a1 : GPlan) (aA : Bool) : St:=⟨sp 35 [(1,(.ptr 0 1 0 0)),(19,(bv aA))],[(.blk 3 [[(.vw (List.map dP a1.Nodes)),(.vw (List.map dR a1.Arcs)),(.vw (List.map dS a1.Faces))]])]⟩
abbrev hp0 (a1 : GPlan) : Heap:=[(.blk 3 [[(.vw (List.map dP a1.Nodes)),(.vw (List.map dR a1.Arcs)),(.vw (List.map dS a1.Faces))]])]
def pK (n : Nat) (a1 : GPlan) : Option Bool:=(cnd (decide (((a1.Nodes.length : Nat) : Int) > 40)) (some true) (cnd (decide (((a1.Arcs.length : Nat) : Int) > 40)) (some true) (cnd (decide (((a1.Faces.length : Nat) : Int) > 40)) (some true) (some false))))
theorem rP (n : Nat) (a1 : GPlan) (r : Bool) (h : pK n a1=some r) : eT lv0 [false,false,true] false 0 1 (evC PP (evF PP T n) n 0 L1_0 (aBo a1))=some (.normal,gH a1 r):=by
 unfold pK at h
 have aB:=iM (P:=PP) (cf:=evF PP T n) (fl:=0) (H:=(hp0 a1)) (c:=dP) (l:=a1.Nodes)
 rcases cn h with ⟨aG,aA,h⟩ | ⟨aG,aA,h⟩
 ·obtain rfl:=si h
  exact dY (gH a1 true) (qa 7 aA<|qb 6 aB<|q0) [] []
 have aD:=iM (P:=PP) (cf:=evF PP T n) (fl:=0) (H:=(hp0 a1)) (c:=dR) (l:=a1.Arcs)
 rcases cn h with ⟨aH,aC,h⟩ | ⟨aH,aC,h⟩
 ·obtain rfl:=si h
  exact dY (gH a1 true) (qa 12 aC<|qb 11 aD<|qa 7 aA<|qb 6 aB<|q0) [] []
 have aF:=iM (P:=PP) (cf:=evF PP T n) (fl:=0) (H:=(hp0 a1)) (c:=dS) (l:=a1.Faces)
 rcases cn h with ⟨aI,aE,h⟩ | ⟨aI,aE,h⟩
 ·obtain rfl:=si h
  exact dY (gH a1 true) (qa 18 aE<|qb 17 aF<|qa 12 aC<|qb 11 aD<|qa 7 aA<|qb 6 aB<|q0) [] []
 obtain rfl:=si h
 exact dY (gH a1 false) (qa 18 aE<|qb 17 aF<|qa 12 aC<|qb 11 aD<|qa 7 aA<|qb 6 aB<|q0) [] []
def tI (a1 : GPlan) (aA : Int) : St:=⟨sp 35 [(1,(.ptr 0 1 0 0)),(3,(iv aA))],[(.blk 3 [[(.vw (List.map dP a1.Nodes)),(.vw (List.map dR a1.Arcs)),(.vw (List.map dS a1.Faces))]])]⟩
def mL (a1 : GPlan) : St:=⟨sp 35 [(2,bf)],[(.blk 3 [[(.vw (List.map dP a1.Nodes)),(.vw (List.map dR a1.Arcs)),(.vw (List.map dS a1.Faces))]])]⟩
def mK (a1 : GPlan) : St:=⟨sp 35 [],[(.blk 3 [[(.vw (List.map dP a1.Nodes)),(.vw (List.map dR a1.Arcs)),(.vw (List.map dS a1.Faces))]])]⟩
def jP (n : Nat) (a1 : GPlan) : Nat→Int→Option (Unit ⊕ Unit)
 | 0,_=>none
 | m + 1,aA=>(cnd (decide (aA < ((a1.Arcs.length : Nat) : Int))) (bnd (idx a1.Arcs aA) fun aB=>(cnd (decide (((aB.Via.length : Nat) : Int) > 12)) (some (Sum.inl ())) (jP n a1 m (IntKind.i64.wrap (aA + 1))))) (some (Sum.inr ())))
theorem mJ (n : Nat) (a1 : GPlan) : ∀ (m : Nat) (aA : Int) (r : (Unit ⊕ Unit)),jP n a1 m aA=some r→eT [] [false,false,true] false 0 1 (eG (eO (some [false,true,false,true]) false 0 1) (evC PP (evF PP T n) n 0 L1_1) m (tI a1 aA))=(match r with | (.inl r)=>some (.ret,mL a1) | (.inr r)=>some ((.exit 0),mK a1))
 | 0,_,_,h=>by cases h
 | m + 1,aA,r,h=>by
  rw [jP] at h
  have aC:=iM (P:=PP) (cf:=evF PP T n) (fl:=0) (H:=(hp0 a1)) (c:=dR) (l:=a1.Arcs)
  rcases cn h with ⟨aG,aB,h⟩ | ⟨aG,aB,h⟩
  rotate_left
  ·obtain rfl:=si h
   exact eQ (some [false,true,false,true]) false (mK a1) (qa 24 aB<|qb 23 aC<|q0) [] [] trivial
  obtain ⟨aH,aI,h⟩:=dQ h
  have aE:=idxv (H:=(hp0 a1)) (c:=dR) aI (lY _)
  have aF:=nP (P:=PP) (cf:=evF PP T n) (fl:=0) (H:=(hp0 a1)) (f:=false) (c:=dW) (l:=aH.Via)
  rcases cn h with ⟨aJ,aD,h⟩ | ⟨aJ,aD,h⟩
  ·obtain rfl:=si h
   exact eQ (some [false,true,false,true]) false (mL a1) (qa 34 aD<|qb 33 aF<|qa 30 aE<|qa 24 aB<|qb 23 aC<|q0) [] [] trivial
  exact nx_q (tI a1 (IntKind.i64.wrap (aA + 1))) (qa 34 aD<|qb 33 aF<|qa 30 aE<|qa 24 aB<|qb 23 aC<|q0) [] [] trivial (mJ n a1 m (IntKind.i64.wrap (aA + 1)) r h)
def jV : Nat→GPlan→Option Bool
 | 0,_=>none
 | n + 1,a1=>(bnd (pK n a1) fun aA=>(cnd (aA) (some false) (bnd2 (jP n a1 n 0) (fun aB=>(some false)) (fun aC=>(some true)))))
theorem iU (n : Nat) (a1 : GPlan) (r : Bool) (h : jV n a1=some r) : pv PP T n 1 [(kU a1)]=some (bv r):=by
 cases n with
 | zero=>cases h
 | succ n =>
  rw [jV] at h
  obtain ⟨aH,aE,h⟩:=dQ h
  rcases cn h with ⟨aB,aG,h⟩ | ⟨aB,aG,h⟩
  ·have aA:=rP n a1 _ aE
   rw [aB] at aA
   obtain rfl:=si h
   exact pv_q F1 (qp aA<|q0) [(.normal,gH a1 true)] []
  have aA:=rP n a1 _ aE
  rw [aB] at aA
  have aF : eS false 0 1 [(.blk 3 [[(.vw (List.map dP a1.Nodes)),(.vw (List.map dR a1.Arcs)),(.vw (List.map dS a1.Faces))]])]:=trivial
  rcases gF h with ⟨aI,aC,h⟩ | ⟨aJ,aC,h⟩
  ·have aD:=mJ n a1 n 0 _ aC
   obtain rfl:=si h
   exact pv_q F1 (qp aD<|qp aF<|qp aA<|q0) [(.normal,gH a1 false),(.ret,mL a1)] []
  have aD:=mJ n a1 n 0 _ aC
  obtain rfl:=si h
  exact pv_q F1 (qp aD<|qp aF<|qp aA<|q0) [(.normal,gH a1 false),((.exit 0),mK a1)] []
abbrev hp1 (aA : GPlan) : Heap:=[(.blk 3 [[(.vw (List.map dP aA.Nodes)),(.vw (List.map dR aA.Arcs)),(.vw (List.map dS aA.Faces))]]),(.blk 1 (List.map dS [])),(.blk 1 (List.map dS []))]
def qX (aA : GPlan) (aB : (List Int)) (aC : Int) : St:=⟨sp 36 [(1,(.ptr 0 1 0 0)),(2,(.ms 1 aB.length 0 aB.length)),(3,(.ms 2 0 0 0)),(9,(.vw (List.map dP aA.Nodes))),(10,(iv ((aA.Nodes.length : Nat) : Int))),(11,(iv aC))],[(.blk 3 [[(.vw (List.map dP aA.Nodes)),(.vw (List.map dR aA.Arcs)),(.vw (List.map dS aA.Faces))]]),(.blk 1 (List.map dS aB)),(.blk 1 (List.map dS []))]⟩
theorem aD0 (aA : GPlan) (aB : (List Int)) (aC : Int) : eS true 0 3 (qX aA aB aC).heap:=(by exact (clo rfl (clo (hU (gJ 3)) (clo (hU (gJ 3)) rfl))))
def qI (aA : GPlan) (aB : (List Int)) : St:=⟨sp 36 [(1,(.ptr 0 1 0 0)),(2,(.ms 1 aB.length 0 aB.length)),(3,(.ms 2 0 0 0))],[(.blk 3 [[(.vw (List.map dP aA.Nodes)),(.vw (List.map dR aA.Arcs)),(.vw (List.map dS aA.Faces))]]),(.blk 1 (List.map dS aB)),(.blk 1 (List.map dS []))]⟩
abbrev hp2 (aA : GPlan) (aB : (List Int)) : Heap:=[(.blk 3 [[(.vw (List.map dP aA.Nodes)),(.vw (List.map dR aA.Arcs)),(.vw (List.map dS aA.Faces))]]),(.blk 1 (List.map dS aB)),(.blk 1 (List.map dS []))]
abbrev hp3 (aA : GPlan) (aB : (List Int)) (aC : GNode) : Heap:=[(.blk 3 [[(.vw (List.map dP aA.Nodes)),(.vw (List.map dR aA.Arcs)),(.vw (List.map dS aA.Faces))]]),(.blk 1 (List.map dS aB)),(.blk 1 (List.map dS [])),(.blk 3 [(dP aC)])]
def mD (n : Nat) (aA : GPlan) : Nat→(List Int)→Int→Option (List Int)
 | 0,_,_=>none
 | m + 1,aC,aB=>(cnd (decide (aB < ((aA.Nodes.length : Nat) : Int))) (bnd (idx aA.Nodes aB) fun aD=>(bnd (app aC [aD.ID]) fun aE=>(mD n aA m aE (IntKind.i64.wrap (aB + 1))))) (some aC))
theorem wC (n : Nat) (aA : GPlan) : ∀ (m : Nat) (aB : (List Int)) (aC : Int) (r : (List Int)),mD n aA m aB aC=some r→eT [false,true,true,true] [false,false,true,true] true 0 3 (eG (eO (some lv1) true 0 3) (evC PP (evF PP T n) n 0 bHy) m (qX aA aB aC))=some ((.exit 0),qI aA r)
 | 0,_,_,_,h=>by cases h
 | m + 1,aB,aC,r,h=>by
  rw [mD] at h
  rcases cn h with ⟨aF,aD,h⟩ | ⟨aF,aD,h⟩
  rotate_left
  ·obtain rfl:=si h
   exact eQ (some lv1) true (qI aA aB) (qa 12 aD<|q0) [] [] (by exact (clo rfl (clo (hU (gJ 3)) (clo (hU (gJ 3)) rfl))))
  obtain ⟨aG,aH,h⟩:=dQ h
  have aI:=idxv (H:=(hp2 aA aB)) (c:=dP) aH (jQ _)
  obtain ⟨aE,aJ,h⟩:=dQ h
  have aK:=yN (fl:=0) (H:=(hp3 aA aB aG)) (id:=1) (s:=1) (bytes:=8) (c:=dS) (l:=aB) aJ rfl iD (by omega) (by omega) (by omega)
  exact nx_q (qX aA aE (IntKind.i64.wrap (aC + 1))) (qc 19 aK<|qa 13 aI<|qa 12 aD<|q0) [] [none] (aD0 _ _ _) (wC n aA m aE (IntKind.i64.wrap (aC + 1)) r h)
def qW (aB : (List Int)) (aA : GPlan) (aC : (List Int)) (aD : Int) : St:=⟨sp 36 [(2,(.ms 1 aB.length 0 aB.length)),(3,(.ms 2 aC.length 0 aC.length)),(22,(.vw (List.map dR aA.Arcs))),(23,(iv ((aA.Arcs.length : Nat) : Int))),(24,(iv aD))],[(.blk 3 [[(.vw (List.map dP aA.Nodes)),(.vw (List.map dR aA.Arcs)),(.vw (List.map dS aA.Faces))]]),(.blk 1 (List.map dS aB)),(.blk 1 (List.map dS aC))]⟩
theorem aDz (aA : (List Int)) (aB : GPlan) (aC : (List Int)) (aD : Int) : eS true 0 3 (qW aA aB aC aD).heap:=(by exact (clo rfl (clo (hU (gJ 3)) (clo (hU (gJ 3)) rfl))))
def qH (aA : (List Int)) (aB : GPlan) (aC : (List Int)) : St:=⟨sp 36 [(2,(.ms 1 aA.length 0 aA.length)),(3,(.ms 2 aC.length 0 aC.length))],[(.blk 3 [[(.vw (List.map dP aB.Nodes)),(.vw (List.map dR aB.Arcs)),(.vw (List.map dS aB.Faces))]]),(.blk 1 (List.map dS aA)),(.blk 1 (List.map dS aC))]⟩
abbrev hp4 (aA : GPlan) (aB : (List Int)) (aC : (List Int)) : Heap:=[(.blk 3 [[(.vw (List.map dP aA.Nodes)),(.vw (List.map dR aA.Arcs)),(.vw (List.map dS aA.Faces))]]),(.blk 1 (List.map dS aB)),(.blk 1 (List.map dS aC))]
abbrev hp5 (aA : GPlan) (aB : (List Int)) (aC : (List Int)) (aD : GArc) : Heap:=[(.blk 3 [[(.vw (List.map dP aA.Nodes)),(.vw (List.map dR aA.Arcs)),(.vw (List.map dS aA.Faces))]]),(.blk 1 (List.map dS aB)),(.blk 1 (List.map dS aC)),(.blk 6 [(dR aD)])]
def mC (n : Nat) (aD : (List Int)) (aA : GPlan) : Nat→(List Int)→Int→Option (List Int)
 | 0,_,_=>none
 | m + 1,aC,aB=>(cnd (decide (aB < ((aA.Arcs.length : Nat) : Int))) (bnd (idx aA.Arcs aB) fun aE=>(bnd (app aC [aE.ID]) fun aF=>(mC n aD aA m aF (IntKind.i64.wrap (aB + 1))))) (some aC))
theorem wB (n : Nat) (aA : (List Int)) (aB : GPlan) : ∀ (m : Nat) (aC : (List Int)) (aD : Int) (r : (List Int)),mC n aA aB m aC aD=some r→eT [false,false,true,true] [false,false,true,true] true 0 3 (eG (eO (some lv2) true 0 3) (evC PP (evF PP T n) n 0 bHx) m (qW aA aB aC aD))=some ((.exit 2),qH aA aB r)
 | 0,_,_,_,h=>by cases h
 | m + 1,aC,aD,r,h=>by
  rw [mC] at h
  rcases cn h with ⟨aG,aE,h⟩ | ⟨aG,aE,h⟩
  rotate_left
  ·obtain rfl:=si h
   exact eQ (some lv2) true (qH aA aB aC) (qa 25 aE<|q0) [] [] (by exact (clo rfl (clo (hU (gJ 3)) (clo (hU (gJ 3)) rfl))))
  obtain ⟨aH,aI,h⟩:=dQ h
  have aJ:=idxv (H:=(hp4 aB aA aC)) (c:=dR) aI (lY _)
  obtain ⟨aF,aK,h⟩:=dQ h
  have aL:=yN (fl:=0) (H:=(hp5 aB aA aC aH)) (id:=2) (s:=1) (bytes:=8) (c:=dS) (l:=aC) aK rfl iD (by omega) (by omega) (by omega)
  exact nx_q (qW aA aB aF (IntKind.i64.wrap (aD + 1))) (qc 32 aL<|qa 26 aJ<|qa 25 aE<|q0) [] [none] (aDz _ _ _ _) (wB n aA aB m aF (IntKind.i64.wrap (aD + 1)) r h)
def tY : Nat→GPlan→Option ((List Int) × (List Int))
 | 0,_=>none
 | n + 1,aA=>(bnd (mD n aA n [] 0) fun aB=>(bnd (mC n aB aA n [] 0) fun aC=>(some (aB,aC))))
theorem aFw (n : Nat) (aA : GPlan) (r : ((List Int) × (List Int))) (h : tY n aA=some r) : pv PP T n 46 [(kU aA)]=some (.tup [(.sl false (List.map dS r.1)),(.sl false (List.map dS r.2))]):=by
 cases n with
 | zero=>cases h
 | succ n =>
  rw [tY] at h
  have aD:=iM (P:=PP) (cf:=evF PP T n) (fl:=0) (H:=(hp1 aA)) (c:=dP) (l:=aA.Nodes)
  have aE : eS true 0 3 [(.blk 3 [[(.vw (List.map dP aA.Nodes)),(.vw (List.map dR aA.Arcs)),(.vw (List.map dS aA.Faces))]]),(.blk 1 (List.map dS [])),(.blk 1 (List.map dS []))]:=(by exact (clo rfl (clo (hU (gJ 3)) (clo (hU (gJ 3)) rfl))))
  obtain ⟨aB,aF,h⟩:=dQ h
  have aG:=wC n aA n [] 0 _ aF
  have aH:=iM (P:=PP) (cf:=evF PP T n) (fl:=0) (H:=(hp2 aA aB)) (c:=dR) (l:=aA.Arcs)
  have aI : eS true 0 3 [(.blk 3 [[(.vw (List.map dP aA.Nodes)),(.vw (List.map dR aA.Arcs)),(.vw (List.map dS aA.Faces))]]),(.blk 1 (List.map dS aB)),(.blk 1 (List.map dS []))]:=(by exact (clo rfl (clo (hU (gJ 3)) (clo (hU (gJ 3)) rfl))))
  obtain ⟨aC,aJ,h⟩:=dQ h
  have aK:=wB n aB aA n [] 0 _ aJ
  obtain rfl:=si h
  refine aFd (iT F46 (qp aK<|qp aI<|qb 23 aH<|qp aG<|qp aE<|qb 10 aD<|q0) [((.exit 0),qI aA aB),((.exit 2),qH aB aA aC)] [] (r:=(.tup [(.ms 1 aB.length 0 aB.length),(.ms 2 aC.length 0 aC.length)])) (H':=(hp4 aA aB aC))) ?_
  show (AV.tup [(jX (hp4 aA aB aC) 0 (.ms 1 aB.length 0 aB.length)),(jX (hp4 aA aB aC) 0 (.ms 2 aC.length 0 aC.length))])=_
  rw [aAx (H:=(hp4 aA aB aC)) (id:=1) (s:=1) (c:=dS) (l:=aB) rfl (zV _ _ _),aAx (H:=(hp4 aA aB aC)) (id:=2) (s:=1) (c:=dS) (l:=aC) rfl (zV _ _ _)]
  first | done | rfl
def aAd (aA : (List Int)) (aB : Int) : St:=⟨sp 20 [(0,(.vw (List.map dS aA))),(3,(iv aB))],[]⟩
def sV (aA : (List Int)) : St:=⟨sp 20 [(2,bf)],[]⟩
def sU (aA : (List Int)) : St:=⟨sp 20 [],[]⟩
def oO (n : Nat) (aA : (List Int)) : Nat→Int→Option (Unit ⊕ Unit)
 | 0,_=>none
 | m + 1,aB=>(cnd (decide (aB < ((aA.length : Nat) : Int))) (bnd (idx aA (IntKind.i64.wrap (aB - 1))) fun aC=>(bnd (idx aA aB) fun aD=>(cnd (decide (aC ≥ aD)) (some (Sum.inl ())) (oO n aA m (IntKind.i64.wrap (aB + 1)))))) (some (Sum.inr ())))
theorem sT (n : Nat) (aA : (List Int)) : ∀ (m : Nat) (aB : Int) (r : (Unit ⊕ Unit)),oO n aA m aB=some r→eT [] [false,false,true] false 0 0 (eG (eO (some [true,false,false,true]) false 0 0) (evC PP (evF PP T n) n 0 bHw) m (aAd aA aB))=(match r with | (.inl r)=>some (.ret,sV aA) | (.inr r)=>some ((.exit 0),sU aA))
 | 0,_,_,h=>by cases h
 | m + 1,aB,r,h=>by
  rw [oO] at h
  have aD:=iM (P:=PP) (cf:=evF PP T n) (fl:=0) (H:=[]) (c:=dS) (l:=aA)
  rcases cn h with ⟨aH,aC,h⟩ | ⟨aH,aC,h⟩
  rotate_left
  ·obtain rfl:=si h
   exact eQ (some [true,false,false,true]) false (sU aA) (qa 7 aC<|qb 6 aD<|q0) [] [] trivial
  obtain ⟨aL,aI,h⟩:=dQ h
  have aF:=idxv (H:=[]) (c:=dS) aI (iD _)
  obtain ⟨aM,aJ,h⟩:=dQ h
  have aG:=idxv (H:=[]) (c:=dS) aJ (iD _)
  rcases cn h with ⟨aK,aE,h⟩ | ⟨aK,aE,h⟩
  ·obtain rfl:=si h
   exact eQ (some [true,false,false,true]) false (sV aA) (qa 19 aE<|qa 17 aG<|qa 13 aF<|qa 7 aC<|qb 6 aD<|q0) [] [] trivial
  exact nx_q (aAd aA (IntKind.i64.wrap (aB + 1))) (qa 19 aE<|qa 17 aG<|qa 13 aF<|qa 7 aC<|qb 6 aD<|q0) [] [] trivial (sT n aA m (IntKind.i64.wrap (aB + 1)) r h)
def pX : Nat→(List Int)→Option Bool
 | 0,_=>none
 | n + 1,aA=>(bnd2 (oO n aA n 1) (fun aB=>(some false)) (fun aC=>(some true)))
theorem lT (n : Nat) (aA : (List Int)) (r : Bool) (h : pX n aA=some r) : pv PP T n 47 [(.vw (List.map dS aA))]=some (bv r):=by
 cases n with
 | zero=>cases h
 | succ n =>
  rw [pX] at h
  have aD : eS false 0 0 []:=trivial
  rcases gF h with ⟨aE,aB,h⟩ | ⟨aF,aB,h⟩
  ·have aC:=sT n aA n 1 _ aB
   obtain rfl:=si h
   exact pv_q F47 (qp aC<|qp aD<|q0) [(.ret,sV aA)] []
  have aC:=sT n aA n 1 _ aB
  obtain rfl:=si h
  exact pv_q F47 (qp aC<|qp aD<|q0) [((.exit 0),sU aA)] []
def tX : Nat→Int→Option Bool
 | 0,_=>none
 | n + 1,aA=>(cnd (decide (aA < 1)) (some true) (cnd (decide (aA > 1073741824)) (some true) (some false)))
theorem aAc (n : Nat) (aC : Int) (r : Bool) (h : tX n aC=some r) : pv PP T n 66 [(iv aC)]=some (bv r):=by
 cases n with
 | zero=>cases h
 | succ n =>
  rw [tX] at h
  rcases cn h with ⟨aD,aA,h⟩ | ⟨aD,aA,h⟩
  ·obtain rfl:=si h
   exact pv_q F66 (qa 4 aA<|q0) [] []
  rcases cn h with ⟨aE,aB,h⟩ | ⟨aE,aB,h⟩
  ·obtain rfl:=si h
   exact pv_q F66 (qa 7 aB<|qa 4 aA<|q0) [] []
  obtain rfl:=si h
  exact pv_q F66 (qa 7 aB<|qa 4 aA<|q0) [] []
def wA (aA : (List Int)) (aB : Int) : St:=⟨sp 19 [(0,(.vw (List.map dS aA))),(1,(.fn 66 [])),(7,(iv ((aA.length : Nat) : Int))),(8,(iv aB))],[]⟩
def pH (aB : (List Int)) (aA : Int) : St:=⟨sp 19 [(4,(iv aA))],[]⟩
def pG (aA : (List Int)) : St:=⟨sp 19 [],[]⟩
def lA (n : Nat) (aB : (List Int)) : Nat→Int→Option (Int ⊕ Unit)
 | 0,_=>none
 | m + 1,aA=>(cnd (decide (aA < ((aB.length : Nat) : Int))) (bnd (idx aB aA) fun aC=>(bnd (tX n aC) fun aD=>(cnd (aD) (some (Sum.inl aA)) (lA n aB m (IntKind.i64.wrap (aA + 1)))))) (some (Sum.inr ())))
theorem pF (n : Nat) (aA : (List Int)) : ∀ (m : Nat) (aB : Int) (r : (Int ⊕ Unit)),lA n aA m aB=some r→eT [] lv4 false 0 0 (eG (eO (some lv3) false 0 0) (evC PP (evF PP T n) n 0 bG3) m (wA aA aB))=(match r with | (.inl r)=>some (.ret,pH aA r) | (.inr r)=>some ((.exit 0),pG aA))
 | 0,_,_,h=>by cases h
 | m + 1,aB,r,h=>by
  rw [lA] at h
  rcases cn h with ⟨aH,aC,h⟩ | ⟨aH,aC,h⟩
  rotate_left
  ·obtain rfl:=si h
   exact eQ (some lv3) false (pG aA) (qa 9 aC<|q0) [] [] trivial
  obtain ⟨aE,aI,h⟩:=dQ h
  have aF:=idxv (H:=[]) (c:=dS) aI (iD _)
  obtain ⟨aO,aG,h⟩:=dQ h
  rcases cn h with ⟨aD,aJ,h⟩ | ⟨aD,aJ,h⟩
  ·have aK:=by have q:=aAc n aE _ aG; rw [aD] at q; exact q
   have aL:=aJs (fl:=0) (H:=[]) rfl rfl aK
   obtain rfl:=si h
   exact eQ (some lv3) false (pH aA aB) (qb 16 aL<|qa 14 aF<|qa 9 aC<|q0) [] [] trivial
  have aM:=by have q:=aAc n aE _ aG; rw [aD] at q; exact q
  have aN:=aJs (fl:=0) (H:=[]) rfl rfl aM
  exact nx_q (wA aA (IntKind.i64.wrap (aB + 1))) (qb 16 aN<|qa 14 aF<|qa 9 aC<|q0) [] [] trivial (pF n aA m (IntKind.i64.wrap (aB + 1)) r h)
def rJ : Nat→(List Int)→Option Bool
 | 0,_=>none
 | n + 1,aB=>(bnd (prd n) fun aC=>(bnd (prd aC) fun aA=>(bnd2 (lA aA aB aA 0) (fun aD=>(cnd (decide (aD ≥ 0)) (some false) (some true))) (fun aE=>(some true)))))
theorem mQ (n : Nat) (aA : (List Int)) (r : Bool) (h : rJ n aA=some r) : pv PP T n 48 [(.vw (List.map dS aA))]=some (bv r):=by
 cases n with
 | zero=>cases h
 | succ n =>
  rw [rJ] at h
  obtain ⟨aG,aM,h⟩:=dQ h
  have aC:=pQ aM
  obtain ⟨aB,aN,h⟩:=dQ h
  have aH:=pQ aN
  have aI:=iM (P:=PP) (cf:=evF PP T aB) (fl:=0) (H:=[]) (c:=dS) (l:=aA)
  have aJ : eS false 0 0 []:=trivial
  rcases gF h with ⟨aK,aD,h⟩ | ⟨aT,aD,h⟩
  rotate_left
  ·have aE:=pF aB aA aB 0 _ aD
   have aO : evF PP T aG 0 87 [(.vw (List.map dS aA)),(.fn 66 [])] []=some ((iv (-1)),[]):=by
    rw [aH]; exact iT F87 (qp aE<|qp aJ<|qb 7 aI<|q0) [((.exit 0),pG aA)] []
   have aP : evF PP T n 0 65 [(.vw (List.map dS aA)),(.fn 66 [])] []=some (bf,[]):=by
    rw [aC]; exact iT F65 (qb 7 aO<|q0) [] []
   obtain rfl:=si h
   exact pv_q F48 (qb 4 aP<|q0) [] []
  have aE:=pF aB aA aB 0 _ aD
  have aL : evF PP T aG 0 87 [(.vw (List.map dS aA)),(.fn 66 [])] []=some ((iv aK),[]):=by
   rw [aH]; exact iT F87 (qp aE<|qp aJ<|qb 7 aI<|q0) [(.ret,pH aA aK)] []
  rcases cn h with ⟨aQ,aF,h⟩ | ⟨aQ,aF,h⟩
  ·have aR : evF PP T n 0 65 [(.vw (List.map dS aA)),(.fn 66 [])] []=some (bt,[]):=by
    rw [aC]; exact iT F65 (qa 8 aF<|qb 7 aL<|q0) [] []
   obtain rfl:=si h
   exact pv_q F48 (qb 4 aR<|q0) [] []
  have aS : evF PP T n 0 65 [(.vw (List.map dS aA)),(.fn 66 [])] []=some (bf,[]):=by
   rw [aC]; exact iT F65 (qa 8 aF<|qb 7 aL<|q0) [] []
  obtain rfl:=si h
  exact pv_q F48 (qb 4 aS<|q0) [] []
def aFv (aA : GPoint) : St:=⟨sp 21 [(1,(.ptr 0 1 0 0))],[(.blk 2 [[(iv aA.X),(iv aA.Y)]])]⟩
def iH (aA : GPoint) (aB : Bool) : St:=⟨sp 21 [(2,(bv aB))],[(.blk 2 [[(iv aA.X),(iv aA.Y)]])]⟩
def wP (n : Nat) (aA : GPoint) : Option Bool:=(cnd (decide (aA.X < (-1048576))) (some true) (cnd (decide (aA.X > 1048576)) (some true) (cnd (decide (aA.Y < (-1048576))) (some true) (cnd (decide (aA.Y > 1048576)) (some true) (some false)))))
theorem zC (n : Nat) (aA : GPoint) (r : Bool) (h : wP n aA=some r) : eT [false,false,true] [false,false,true] false 0 1 (evC PP (evF PP T n) n 0 bE6 (aFv aA))=some (.normal,iH aA r):=by
 unfold wP at h
 rcases cn h with ⟨aF,aB,h⟩ | ⟨aF,aB,h⟩
 ·obtain rfl:=si h
  exact dY (iH aA true) (qa 5 aB<|q0) [] []
 rcases cn h with ⟨aG,aC,h⟩ | ⟨aG,aC,h⟩
 ·obtain rfl:=si h
  exact dY (iH aA true) (qa 9 aC<|qa 5 aB<|q0) [] []
 rcases cn h with ⟨aH,aD,h⟩ | ⟨aH,aD,h⟩
 ·obtain rfl:=si h
  exact dY (iH aA true) (qa 14 aD<|qa 9 aC<|qa 5 aB<|q0) [] []
 rcases cn h with ⟨aI,aE,h⟩ | ⟨aI,aE,h⟩
 ·obtain rfl:=si h
  exact dY (iH aA true) (qa 19 aE<|qa 14 aD<|qa 9 aC<|qa 5 aB<|q0) [] []
 obtain rfl:=si h
 exact dY (iH aA false) (qa 19 aE<|qa 14 aD<|qa 9 aC<|qa 5 aB<|q0) [] []
def xL : Nat→GPoint→Option Bool
 | 0,_=>none
 | n + 1,aA=>(bnd (wP n aA) fun aB=>(cnd (aB) (some true) (some false)))
theorem aB6 (n : Nat) (aA : GPoint) (r : Bool) (h : xL n aA=some r) : pv PP T n 67 [(.agg (dW aA))]=some (bv r):=by
 cases n with
 | zero=>cases h
 | succ n =>
  rw [xL] at h
  obtain ⟨aF,aD,h⟩:=dQ h
  rcases cn h with ⟨aC,aE,h⟩ | ⟨aC,aE,h⟩
  ·have aB:=zC n aA _ aD
   rw [aC] at aB
   obtain rfl:=si h
   exact pv_q F67 (qp aB<|q0) [(.normal,iH aA true)] []
  have aB:=zC n aA _ aD
  rw [aC] at aB
  obtain rfl:=si h
  exact pv_q F67 (qp aB<|q0) [(.normal,iH aA false)] []
def yT (aA : GPlan) (aB : Int) : St:=⟨sp 32 [(1,(.ptr 0 1 0 0)),(3,(.fn 67 [])),(9,(.vw (List.map dP aA.Nodes))),(10,(iv ((aA.Nodes.length : Nat) : Int))),(11,(iv aB))],[(.blk 3 [[(.vw (List.map dP aA.Nodes)),(.vw (List.map dR aA.Arcs)),(.vw (List.map dS aA.Faces))]])]⟩
theorem aI8 (aA : GPlan) (aB : Int) : eS true 0 1 (yT aA aB).heap:=(by exact (clo rfl rfl))
def wT (aA : GPlan) (aB : Int) (aC : Int) (aD : Int) (aE : Int) (aF : Int) : St:=⟨sp 32 [(2,bf)],[(.blk 3 [[(.vw (List.map dP aA.Nodes)),(.vw (List.map dR aA.Arcs)),(.vw (List.map dS aA.Faces))]]),(.blk 3 [[(iv aB),(iv aC),(iv aD)]]),(.blk 2 [[(iv aE),(iv aF)]])]⟩
def rI (aA : GPlan) : St:=⟨sp 32 [(1,(.ptr 0 1 0 0)),(3,(.fn 67 []))],[(.blk 3 [[(.vw (List.map dP aA.Nodes)),(.vw (List.map dR aA.Arcs)),(.vw (List.map dS aA.Faces))]])]⟩
abbrev hp6 (aA : GPlan) (aB : GNode) : Heap:=[(.blk 3 [[(.vw (List.map dP aA.Nodes)),(.vw (List.map dR aA.Arcs)),(.vw (List.map dS aA.Faces))]]),(.blk 3 [(dP aB)])]
def aE9 (aA : GPlan) (aB : GNode) : St:=⟨sp 21 [(1,(.ptr 2 1 0 0))],[(.blk 3 [[(.vw (List.map dP aA.Nodes)),(.vw (List.map dR aA.Arcs)),(.vw (List.map dS aA.Faces))]]),(.blk 3 [(dP aB)]),(.blk 2 [[(iv aB.At.X),(iv aB.At.Y)]])]⟩
def iC (aA : GPlan) (aB : GNode) (aC : Bool) : St:=⟨sp 21 [(2,(bv aC))],[(.blk 3 [[(.vw (List.map dP aA.Nodes)),(.vw (List.map dR aA.Arcs)),(.vw (List.map dS aA.Faces))]]),(.blk 3 [(dP aB)]),(.blk 2 [[(iv aB.At.X),(iv aB.At.Y)]])]⟩
def vR (n : Nat) (aB : GPlan) (aA : GNode) : Option Bool:=(cnd (decide (aA.At.X < (-1048576))) (some true) (cnd (decide (aA.At.X > 1048576)) (some true) (cnd (decide (aA.At.Y < (-1048576))) (some true) (cnd (decide (aA.At.Y > 1048576)) (some true) (some false)))))
theorem yB (n : Nat) (aA : GPlan) (aB : GNode) (r : Bool) (h : vR n aA aB=some r) : eT [false,false,true] [false,false,true] false 0 3 (evC PP (evF PP T n) n 0 bE6 (aE9 aA aB))=some (.normal,iC aA aB r):=by
 unfold vR at h
 rcases cn h with ⟨aG,aC,h⟩ | ⟨aG,aC,h⟩
 ·obtain rfl:=si h
  exact dY (iC aA aB true) (qa 5 aC<|q0) [] []
 rcases cn h with ⟨aH,aD,h⟩ | ⟨aH,aD,h⟩
 ·obtain rfl:=si h
  exact dY (iC aA aB true) (qa 9 aD<|qa 5 aC<|q0) [] []
 rcases cn h with ⟨aI,aE,h⟩ | ⟨aI,aE,h⟩
 ·obtain rfl:=si h
  exact dY (iC aA aB true) (qa 14 aE<|qa 9 aD<|qa 5 aC<|q0) [] []
 rcases cn h with ⟨aJ,aF,h⟩ | ⟨aJ,aF,h⟩
 ·obtain rfl:=si h
  exact dY (iC aA aB true) (qa 19 aF<|qa 14 aE<|qa 9 aD<|qa 5 aC<|q0) [] []
 obtain rfl:=si h
 exact dY (iC aA aB false) (qa 19 aF<|qa 14 aE<|qa 9 aD<|qa 5 aC<|q0) [] []
abbrev hp7 (aA : GPlan) (aB : GNode) : Heap:=[(.blk 3 [[(.vw (List.map dP aA.Nodes)),(.vw (List.map dR aA.Arcs)),(.vw (List.map dS aA.Faces))]]),(.blk 3 [(dP aB)]),(.blk 2 [[(iv aB.At.X),(iv aB.At.Y)]])]
def tE (n : Nat) (aB : GPlan) : Nat→Int→Option ((Int × Int × Int × Int × Int) ⊕ Unit)
 | 0,_=>none
 | m + 1,aC=>(cnd (decide (aC < ((aB.Nodes.length : Nat) : Int))) (bnd (idx aB.Nodes aC) fun aA=>(bnd (prd n) fun aD=>(bnd (vR aD aB aA) fun aE=>(cnd (aE) (some (Sum.inl (aA.ID,aA.At.X,aA.At.Y,aA.At.X,aA.At.Y))) (tE n aB m (IntKind.i64.wrap (aC + 1))))))) (some (Sum.inr ())))
theorem wS (n : Nat) (aA : GPlan) : ∀ (m : Nat) (aC : Int) (r : ((Int × Int × Int × Int × Int) ⊕ Unit)),tE n aA m aC=some r→eT [false,true,false,true] [false,false,true] true 0 1 (eG (eO (some lv5) true 0 1) (evC PP (evF PP T n) n 0 bHv) m (yT aA aC))=(match r with | (.inl r)=>some (.ret,wT aA r.1 r.2.1 r.2.2.1 r.2.2.2.1 r.2.2.2.2) | (.inr r)=>some ((.exit 0),rI aA))
 | 0,_,_,h=>by cases h
 | m + 1,aC,r,h=>by
  rw [tE] at h
  rcases cn h with ⟨aK,aE,h⟩ | ⟨aK,aE,h⟩
  rotate_left
  ·obtain rfl:=si h
   exact eQ (some lv5) true (rI aA) (qa 12 aE<|q0) [] [] (by exact (clo rfl rfl))
  obtain ⟨aB,aL,h⟩:=dQ h
  have aG:=idxv (H:=(hp0 aA)) (c:=dP) aL (jQ _)
  obtain ⟨aH,aM,h⟩:=dQ h
  have aI:=pQ aM
  obtain ⟨aQ,aJ,h⟩:=dQ h
  rcases cn h with ⟨aF,aN,h⟩ | ⟨aF,aN,h⟩
  ·have aD:=yB aH aA aB _ aJ
   rw [aF] at aD
   have aO : evF PP T n 0 67 [(.agg [(iv aB.At.X),(iv aB.At.Y)])] (hp6 aA aB)=some (bt,(hp7 aA aB)):=by
    rw [aI]; exact iT F67 (qp aD<|q0) [(.normal,iC aA aB true)] []
   obtain rfl:=si h
   exact eQ (some lv5) true (wT aA aB.ID aB.At.X aB.At.Y aB.At.X aB.At.Y) (qc 18 aO<|qa 13 aG<|qa 12 aE<|q0) [] [none] trivial
  have aD:=yB aH aA aB _ aJ
  rw [aF] at aD
  have aP : evF PP T n 0 67 [(.agg [(iv aB.At.X),(iv aB.At.Y)])] (hp6 aA aB)=some (bf,(hp7 aA aB)):=by
   rw [aI]; exact iT F67 (qp aD<|q0) [(.normal,iC aA aB false)] []
  exact nx_q (yT aA (IntKind.i64.wrap (aC + 1))) (qc 18 aP<|qa 13 aG<|qa 12 aE<|q0) [] [none] (aI8 _ _) (wS n aA m (IntKind.i64.wrap (aC + 1)) r h)
def tW (aA : GPlan) (aB : Int) : St:=⟨sp 32 [(3,(.fn 67 [])),(21,(.vw (List.map dR aA.Arcs))),(22,(iv ((aA.Arcs.length : Nat) : Int))),(23,(iv aB))],[(.blk 3 [[(.vw (List.map dP aA.Nodes)),(.vw (List.map dR aA.Arcs)),(.vw (List.map dS aA.Faces))]])]⟩
theorem aC7 (aA : GPlan) (aB : Int) : eS true 0 1 (tW aA aB).heap:=(by exact (clo rfl rfl))
def wR (aA : GPlan) (aB : Int) (aC : Int) (aD : Int) (aE : (List GPoint)) (aF : Int) (aG : Int) : St:=⟨sp 32 [(2,bf)],[(.blk 3 [[(.vw (List.map dP aA.Nodes)),(.vw (List.map dR aA.Arcs)),(.vw (List.map dS aA.Faces))]]),(.blk 6 [[(iv aB),(iv aC),(iv aD),(.sl false (List.map dW aE)),(iv aF),(iv aG)]])]⟩
def wQ (aA : GPlan) : St:=⟨sp 32 [],[(.blk 3 [[(.vw (List.map dP aA.Nodes)),(.vw (List.map dR aA.Arcs)),(.vw (List.map dS aA.Faces))]])]⟩
abbrev hp8 (aA : GPlan) (aB : GArc) : Heap:=[(.blk 3 [[(.vw (List.map dP aA.Nodes)),(.vw (List.map dR aA.Arcs)),(.vw (List.map dS aA.Faces))]]),(.blk 6 [(dR aB)])]
def zD (aA : GArc) (aB : GPlan) (aC : Int) : St:=⟨sp 19 [(0,(.sl false (List.map dW aA.Via))),(1,(.fn 67 [])),(7,(iv ((aA.Via.length : Nat) : Int))),(8,(iv aC))],[(.blk 3 [[(.vw (List.map dP aB.Nodes)),(.vw (List.map dR aB.Arcs)),(.vw (List.map dS aB.Faces))]]),(.blk 6 [(dR aA)])]⟩
def qV (aB : GArc) (aA : GPlan) (aC : Int) : St:=⟨sp 19 [(4,(iv aC))],[(.blk 3 [[(.vw (List.map dP aA.Nodes)),(.vw (List.map dR aA.Arcs)),(.vw (List.map dS aA.Faces))]]),(.blk 6 [(dR aB)])]⟩
def qU (aB : GArc) (aA : GPlan) : St:=⟨sp 19 [],[(.blk 3 [[(.vw (List.map dP aA.Nodes)),(.vw (List.map dR aA.Arcs)),(.vw (List.map dS aA.Faces))]]),(.blk 6 [(dR aB)])]⟩
def nD (n : Nat) (aB : GArc) (aC : GPlan) : Nat→Int→Option (Int ⊕ Unit)
 | 0,_=>none
 | m + 1,aA=>(cnd (decide (aA < ((aB.Via.length : Nat) : Int))) (bnd (idx aB.Via aA) fun aD=>(bnd (xL n aD) fun aE=>(cnd (aE) (some (Sum.inl aA)) (nD n aB aC m (IntKind.i64.wrap (aA + 1)))))) (some (Sum.inr ())))
theorem qT (n : Nat) (aA : GArc) (aB : GPlan) : ∀ (m : Nat) (aC : Int) (r : (Int ⊕ Unit)),nD n aA aB m aC=some r→eT [] lv4 false 0 2 (eG (eO (some lv3) false 0 2) (evC PP (evF PP T n) n 0 bG2) m (zD aA aB aC))=(match r with | (.inl r)=>some (.ret,qV aA aB r) | (.inr r)=>some ((.exit 0),qU aA aB))
 | 0,_,_,h=>by cases h
 | m + 1,aC,r,h=>by
  rw [nD] at h
  rcases cn h with ⟨aI,aD,h⟩ | ⟨aI,aD,h⟩
  rotate_left
  ·obtain rfl:=si h
   exact eQ (some lv3) false (qU aA aB) (qa 9 aD<|q0) [] [] trivial
  obtain ⟨aF,aJ,h⟩:=dQ h
  have aG:=idxl (H:=(hp8 aB aA)) (f:=false) (c:=dW) aJ (gW _)
  obtain ⟨aP,aH,h⟩:=dQ h
  rcases cn h with ⟨aE,aK,h⟩ | ⟨aE,aK,h⟩
  ·have aL:=by have q:=aB6 n aF _ aH; rw [aE] at q; exact q
   have aM:=aJs (fl:=0) (H:=(hp8 aB aA)) rfl rfl aL
   obtain rfl:=si h
   exact eQ (some lv3) false (qV aA aB aC) (qb 16 aM<|qa 14 aG<|qa 9 aD<|q0) [] [] trivial
  have aN:=by have q:=aB6 n aF _ aH; rw [aE] at q; exact q
  have aO:=aJs (fl:=0) (H:=(hp8 aB aA)) rfl rfl aN
  exact nx_q (zD aA aB (IntKind.i64.wrap (aC + 1))) (qb 16 aO<|qa 14 aG<|qa 9 aD<|q0) [] [] trivial (qT n aA aB m (IntKind.i64.wrap (aC + 1)) r h)
def nL (n : Nat) (aB : GPlan) : Nat→Int→Option ((Int × Int × Int × (List GPoint) × Int × Int) ⊕ Unit)
 | 0,_=>none
 | m + 1,aC=>(cnd (decide (aC < ((aB.Arcs.length : Nat) : Int))) (bnd (idx aB.Arcs aC) fun aA=>(bnd (prd n) fun aE=>(bnd (prd aE) fun aD=>(bnd2 (nD aD aA aB aD 0) (fun aF=>(cnd (decide (aF ≥ 0)) (some (Sum.inl (aA.ID,aA.From,aA.To,aA.Via,aA.Left,aA.Right))) (nL n aB m (IntKind.i64.wrap (aC + 1))))) (fun aG=>(nL n aB m (IntKind.i64.wrap (aC + 1)))))))) (some (Sum.inr ())))
theorem rH (n : Nat) (aA : GPlan) : ∀ (m : Nat) (aC : Int) (r : ((Int × Int × Int × (List GPoint) × Int × Int) ⊕ Unit)),nL n aA m aC=some r→eT [] [false,false,true] true 0 1 (eG (eO (some lv6) true 0 1) (evC PP (evF PP T n) n 0 bHu) m (tW aA aC))=(match r with | (.inl r)=>some (.ret,wR aA r.1 r.2.1 r.2.2.1 r.2.2.2.1 r.2.2.2.2.1 r.2.2.2.2.2) | (.inr r)=>some ((.exit 2),wQ aA))
 | 0,_,_,h=>by cases h
 | m + 1,aC,r,h=>by
  rw [nL] at h
  rcases cn h with ⟨aQ,aD,h⟩ | ⟨aQ,aD,h⟩
  rotate_left
  ·obtain rfl:=si h
   exact eQ (some lv6) true (wQ aA) (qa 24 aD<|q0) [] [] (by exact (clo rfl rfl))
  obtain ⟨aB,aR,h⟩:=dQ h
  have aF:=idxv (H:=(hp0 aA)) (c:=dR) aR (lY _)
  obtain ⟨aK,aS,h⟩:=dQ h
  have aG:=pQ aS
  obtain ⟨aE,aT,h⟩:=dQ h
  have aL:=pQ aT
  have aM:=nP (P:=PP) (cf:=evF PP T aE) (fl:=0) (H:=(hp8 aA aB)) (f:=false) (c:=dW) (l:=aB.Via)
  have aN : eS false 0 2 [(.blk 3 [[(.vw (List.map dP aA.Nodes)),(.vw (List.map dR aA.Arcs)),(.vw (List.map dS aA.Faces))]]),(.blk 6 [(dR aB)])]:=trivial
  rcases gF h with ⟨aO,aH,h⟩ | ⟨aZ,aH,h⟩
  rotate_left
  ·have aI:=qT aE aB aA aE 0 _ aH
   have aU : evF PP T aK 0 88 [(.sl false (List.map dW aB.Via)),(.fn 67 [])] (hp8 aA aB)=some ((iv (-1)),(hp8 aA aB)):=by
    rw [aL]; exact iT F88 (qp aI<|qp aN<|qb 7 aM<|q0) [((.exit 0),qU aB aA)] []
   have aV : evF PP T n 0 68 [(.sl false (List.map dW aB.Via)),(.fn 67 [])] (hp8 aA aB)=some (bf,(hp8 aA aB)):=by
    rw [aG]; exact iT F68 (qb 7 aU<|q0) [] []
   exact nx_q (tW aA (IntKind.i64.wrap (aC + 1))) (qb 30 aV<|qa 25 aF<|qa 24 aD<|q0) [] [none] (aC7 _ _) (rH n aA m (IntKind.i64.wrap (aC + 1)) r h)
  have aI:=qT aE aB aA aE 0 _ aH
  have aP : evF PP T aK 0 88 [(.sl false (List.map dW aB.Via)),(.fn 67 [])] (hp8 aA aB)=some ((iv aO),(hp8 aA aB)):=by
   rw [aL]; exact iT F88 (qp aI<|qp aN<|qb 7 aM<|q0) [(.ret,qV aB aA aO)] []
  rcases cn h with ⟨aW,aJ,h⟩ | ⟨aW,aJ,h⟩
  ·have aX : evF PP T n 0 68 [(.sl false (List.map dW aB.Via)),(.fn 67 [])] (hp8 aA aB)=some (bt,(hp8 aA aB)):=by
    rw [aG]; exact iT F68 (qa 8 aJ<|qb 7 aP<|q0) [] []
   obtain rfl:=si h
   exact eQ (some lv6) true (wR aA aB.ID aB.From aB.To aB.Via aB.Left aB.Right) (qb 30 aX<|qa 25 aF<|qa 24 aD<|q0) [] [none] trivial
  have aY : evF PP T n 0 68 [(.sl false (List.map dW aB.Via)),(.fn 67 [])] (hp8 aA aB)=some (bf,(hp8 aA aB)):=by
   rw [aG]; exact iT F68 (qa 8 aJ<|qb 7 aP<|q0) [] []
  exact nx_q (tW aA (IntKind.i64.wrap (aC + 1))) (qb 30 aY<|qa 25 aF<|qa 24 aD<|q0) [] [none] (aC7 _ _) (rH n aA m (IntKind.i64.wrap (aC + 1)) r h)
def aCl : Nat→GPlan→Option Bool
 | 0,_=>none
 | n + 1,aA=>(bnd2 (tE n aA n 0) (fun aB=>(some false)) (fun aC=>(bnd2 (nL n aA n 0) (fun aD=>(some false)) (fun aE=>(some true)))))
theorem aFf (n : Nat) (aA : GPlan) (r : Bool) (h : aCl n aA=some r) : pv PP T n 49 [(kU aA)]=some (bv r):=by
 cases n with
 | zero=>cases h
 | succ n =>
  rw [aCl] at h
  have aE:=iM (P:=PP) (cf:=evF PP T n) (fl:=0) (H:=(hp0 aA)) (c:=dP) (l:=aA.Nodes)
  have aF : eS true 0 1 [(.blk 3 [[(.vw (List.map dP aA.Nodes)),(.vw (List.map dR aA.Arcs)),(.vw (List.map dS aA.Faces))]])]:=(by exact (clo rfl rfl))
  rcases gF h with ⟨aC,aG,h⟩ | ⟨aL,aG,h⟩
  ·have aD:=wS n aA n 0 _ aG
   obtain rfl:=si h
   exact pv_q F49 (qp aD<|qp aF<|qb 10 aE<|q0) [(.ret,wT aA aC.1 aC.2.1 aC.2.2.1 aC.2.2.2.1 aC.2.2.2.2)] []
  have aD:=wS n aA n 0 _ aG
  have aJ:=iM (P:=PP) (cf:=evF PP T n) (fl:=0) (H:=(hp0 aA)) (c:=dR) (l:=aA.Arcs)
  have aK : eS true 0 1 [(.blk 3 [[(.vw (List.map dP aA.Nodes)),(.vw (List.map dR aA.Arcs)),(.vw (List.map dS aA.Faces))]])]:=(by exact (clo rfl rfl))
  rcases gF h with ⟨aB,aH,h⟩ | ⟨aM,aH,h⟩
  rotate_left
  ·have aI:=rH n aA n 0 _ aH
   obtain rfl:=si h
   exact pv_q F49 (qp aI<|qp aK<|qb 22 aJ<|qp aD<|qp aF<|qb 10 aE<|q0) [((.exit 0),rI aA),((.exit 2),wQ aA)] []
  have aI:=rH n aA n 0 _ aH
  obtain rfl:=si h
  exact pv_q F49 (qp aI<|qp aK<|qb 22 aJ<|qp aD<|qp aF<|qb 10 aE<|q0) [((.exit 0),rI aA),(.ret,wR aA aB.1 aB.2.1 aB.2.2.1 aB.2.2.2.1 aB.2.2.2.2.1 aB.2.2.2.2.2)] []
def xT (aA : (List Int)) (aB : Int) (aC : Int) : St:=⟨sp 19 [(0,(.vw (List.map dS aA))),(1,(iv aB)),(7,(iv ((aA.length : Nat) : Int))),(8,(iv aC))],[]⟩
def qC (aB : (List Int)) (aC : Int) (aA : Int) : St:=⟨sp 19 [(4,(iv aA))],[]⟩
def qB (aA : (List Int)) (aB : Int) : St:=⟨sp 19 [],[]⟩
def mA (n : Nat) (aB : (List Int)) (aC : Int) : Nat→Int→Option (Int ⊕ Unit)
 | 0,_=>none
 | m + 1,aA=>(cnd (decide (aA < ((aB.length : Nat) : Int))) (bnd (idx aB aA) fun aD=>(cnd (aC == aD) (some (Sum.inl aA)) (mA n aB aC m (IntKind.i64.wrap (aA + 1))))) (some (Sum.inr ())))
theorem qA (n : Nat) (aA : (List Int)) (aB : Int) : ∀ (m : Nat) (aC : Int) (r : (Int ⊕ Unit)),mA n aA aB m aC=some r→eT [] lv4 false 0 0 (eG (eO (some lv3) false 0 0) (evC PP (evF PP T n) n 0 bHi) m (xT aA aB aC))=(match r with | (.inl r)=>some (.ret,qC aA aB r) | (.inr r)=>some ((.exit 0),qB aA aB))
 | 0,_,_,h=>by cases h
 | m + 1,aC,r,h=>by
  rw [mA] at h
  rcases cn h with ⟨aG,aD,h⟩ | ⟨aG,aD,h⟩
  rotate_left
  ·obtain rfl:=si h
   exact eQ (some lv3) false (qB aA aB) (qa 9 aD<|q0) [] [] trivial
  obtain ⟨aJ,aH,h⟩:=dQ h
  have aF:=idxv (H:=[]) (c:=dS) aH (iD _)
  rcases cn h with ⟨aI,aE,h⟩ | ⟨aI,aE,h⟩
  ·obtain rfl:=si h
   exact eQ (some lv3) false (qC aA aB aC) (qa 16 aE<|qa 14 aF<|qa 9 aD<|q0) [] [] trivial
  exact nx_q (xT aA aB (IntKind.i64.wrap (aC + 1))) (qa 16 aE<|qa 14 aF<|qa 9 aD<|q0) [] [] trivial (qA n aA aB m (IntKind.i64.wrap (aC + 1)) r h)
def pP : Nat→(List Int)→Int→Option Int
 | 0,_,_=>none
 | n + 1,aA,aB=>(bnd2 (mA n aA aB n 0) (fun aC=>(some aC)) (fun aD=>(some (-1))))
theorem zW (n : Nat) (aA : (List Int)) (aB : Int) (r : Int) (h : pP n aA aB=some r) : pv PP T n 56 [(.vw (List.map dS aA)),(iv aB)]=some (iv r):=by
 cases n with
 | zero=>cases h
 | succ n =>
  rw [pP] at h
  have aE:=iM (P:=PP) (cf:=evF PP T n) (fl:=0) (H:=[]) (c:=dS) (l:=aA)
  have aF : eS false 0 0 []:=trivial
  rcases gF h with ⟨aG,aC,h⟩ | ⟨aH,aC,h⟩
  ·have aD:=qA n aA aB n 0 _ aC
   obtain rfl:=si h
   exact pv_q F56 (qp aD<|qp aF<|qb 7 aE<|q0) [(.ret,qC aA aB aG)] []
  have aD:=qA n aA aB n 0 _ aC
  obtain rfl:=si h
  exact pv_q F56 (qp aD<|qp aF<|qb 7 aE<|q0) [((.exit 0),qB aA aB)] []
def jG : Nat→(List Int)→Int→Option Bool
 | 0,_,_=>none
 | n + 1,aA,aB=>(bnd (pP n aA aB) fun aC=>(cnd (decide (aC ≥ 0)) (some true) (some false)))
theorem gV (n : Nat) (aA : (List Int)) (aB : Int) (r : Bool) (h : jG n aA aB=some r) : pv PP T n 69 [(.vw (List.map dS aA)),(iv aB)]=some (bv r):=by
 cases n with
 | zero=>cases h
 | succ n =>
  rw [jG] at h
  obtain ⟨aG,aE,h⟩:=dQ h
  have aD:=zW n aA aB _ aE
  rcases cn h with ⟨aF,aC,h⟩ | ⟨aF,aC,h⟩
  ·obtain rfl:=si h
   exact pv_q F69 (qa 8 aC<|qa 7 aD<|q0) [] []
  obtain rfl:=si h
  exact pv_q F69 (qa 8 aC<|qa 7 aD<|q0) [] []
def uR (aB : (List Int)) (aA : GPlan) (aC : Int) : St:=⟨sp 85 [(1,(.vw (List.map dS aB))),(2,(.ptr 0 1 0 0)),(16,(.vw (List.map dP aA.Nodes))),(17,(iv ((aA.Nodes.length : Nat) : Int))),(18,(iv aC))],[(.blk 3 [[(.vw (List.map dP aA.Nodes)),(.vw (List.map dR aA.Arcs)),(.vw (List.map dS aA.Faces))]])]⟩
theorem aF2 (aA : (List Int)) (aB : GPlan) (aC : Int) : eS true 0 1 (uR aA aB aC).heap:=(by exact (clo rfl rfl))
def sS (aH : (List Int)) (aA : GPlan) (aB : Int) (aC : Int) (aD : Int) (aE : Int) (aF : Int) (aG : Int) : St:=⟨sp 85 [(4,(iv 8))],[(.blk 3 [[(.vw (List.map dP aA.Nodes)),(.vw (List.map dR aA.Arcs)),(.vw (List.map dS aA.Faces))]]),(.blk 3 [[(iv aB),(iv aC),(iv aD)]]),(.blk 3 [[(iv aE),(iv aF),(iv aG)]])]⟩
def lB (aB : (List Int)) (aA : GPlan) : St:=⟨sp 85 [(1,(.vw (List.map dS aB))),(2,(.ptr 0 1 0 0))],[(.blk 3 [[(.vw (List.map dP aA.Nodes)),(.vw (List.map dR aA.Arcs)),(.vw (List.map dS aA.Faces))]])]⟩
def uQ (aC : (List Int)) (aA : GPlan) (aD : Int) (aB : (List GNode)) (aE : GNode) (aF : Int) : St:=⟨sp 85 [(1,(.vw (List.map dS aC))),(2,(.ptr 0 1 0 0)),(6,(.ptr 1 1 0 0)),(16,(.vw (List.map dP aA.Nodes))),(17,(iv ((aA.Nodes.length : Nat) : Int))),(18,(iv aD)),(26,(.vw (List.map dP aB))),(27,(iv ((aB.length : Nat) : Int))),(28,(iv aF))],[(.blk 3 [[(.vw (List.map dP aA.Nodes)),(.vw (List.map dR aA.Arcs)),(.vw (List.map dS aA.Faces))]]),(.blk 3 [(dP aE)])]⟩
theorem aF1 (aA : (List Int)) (aB : GPlan) (aC : Int) (aD : (List GNode)) (aE : GNode) (aF : Int) : eS true 0 2 (uQ aA aB aC aD aE aF).heap:=(by exact (clo rfl (clo rfl rfl)))
def sQ (aF : (List Int)) (aA : GPlan) (aG : Int) (aH : (List GNode)) (aB : GNode) (aC : Int) (aD : Int) (aE : Int) : St:=⟨sp 85 [(4,(iv 8))],[(.blk 3 [[(.vw (List.map dP aA.Nodes)),(.vw (List.map dR aA.Arcs)),(.vw (List.map dS aA.Faces))]]),(.blk 3 [(dP aB)]),(.blk 3 [[(iv aC),(iv aD),(iv aE)]])]⟩
def sP (aB : (List Int)) (aA : GPlan) (aC : Int) (aE : (List GNode)) (aD : GNode) : St:=⟨sp 85 [(1,(.vw (List.map dS aB))),(2,(.ptr 0 1 0 0)),(16,(.vw (List.map dP aA.Nodes))),(17,(iv ((aA.Nodes.length : Nat) : Int))),(18,(iv aC))],[(.blk 3 [[(.vw (List.map dP aA.Nodes)),(.vw (List.map dR aA.Arcs)),(.vw (List.map dS aA.Faces))]]),(.blk 3 [(dP aD)])]⟩
abbrev hp9 (aA : GPlan) (aB : GNode) (aC : GNode) : Heap:=[(.blk 3 [[(.vw (List.map dP aA.Nodes)),(.vw (List.map dR aA.Arcs)),(.vw (List.map dS aA.Faces))]]),(.blk 3 [(dP aB)]),(.blk 3 [(dP aC)])]
def oM (n : Nat) (aE : (List Int)) (aF : GPlan) (aG : Int) (aB : (List GNode)) (aD : GNode) : Nat→Int→Option ((Int × Int × Int) ⊕ Unit)
 | 0,_=>none
 | m + 1,aC=>(cnd (decide (aC < ((aB.length : Nat) : Int))) (bnd (idx aB aC) fun aA=>(cnd (decide (aD.At=aA.At)) (some (Sum.inl (aA.ID,aA.At.X,aA.At.Y))) (oM n aE aF aG aB aD m (IntKind.i64.wrap (aC + 1))))) (some (Sum.inr ())))
theorem sO (n : Nat) (aC : (List Int)) (aB : GPlan) (aD : Int) (aE : (List GNode)) (aA : GNode) : ∀ (m : Nat) (aG : Int) (r : ((Int × Int × Int) ⊕ Unit)),oM n aC aB aD aE aA m aG=some r→eT lv7 lv4 true 0 2 (eG (eO (some lv8) true 0 2) (evC PP (evF PP T n) n 0 bHs) m (uQ aC aB aD aE aA aG))=(match r with | (.inl r)=>some (.ret,sQ aC aB aD aE aA r.1 r.2.1 r.2.2) | (.inr r)=>some ((.exit 2),sP aC aB aD aE aA))
 | 0,_,_,h=>by cases h
 | m + 1,aG,r,h=>by
  rw [oM] at h
  rcases cn h with ⟨aK,aH,h⟩ | ⟨aK,aH,h⟩
  rotate_left
  ·obtain rfl:=si h
   exact eQ (some lv8) true (sP aC aB aD aE aA) (qa 29 aH<|q0) [] [] (by exact (clo rfl (clo rfl rfl)))
  obtain ⟨aF,aL,h⟩:=dQ h
  have aJ:=idxv (H:=(hp6 aB aA)) (c:=dP) aL (jQ _)
  rcases cn h with ⟨aI,aM,h⟩ | ⟨aI,aM,h⟩
  ·have aN:=jC (cf:=evF PP T n) (fl:=0) (H:=(hp9 aB aA aF)) (a:=aA.At) (b:=aF.At) aI
   obtain rfl:=si h
   exact eQ (some lv8) true (sQ aC aB aD aE aA aF.ID aF.At.X aF.At.Y) (qb 36 aN<|qa 30 aJ<|qa 29 aH<|q0) [] [none] trivial
  have aO:=jC (cf:=evF PP T n) (fl:=0) (H:=(hp9 aB aA aF)) (a:=aA.At) (b:=aF.At) aI
  exact nx_q (uQ aC aB aD aE aA (IntKind.i64.wrap (aG + 1))) (qb 36 aO<|qa 30 aJ<|qa 29 aH<|q0) [] [none] (aF1 _ _ _ _ _ _) (sO n aC aB aD aE aA m (IntKind.i64.wrap (aG + 1)) r h)
def oN (n : Nat) (aE : (List Int)) (aA : GPlan) : Nat→Int→Option ((Int × Int × Int × Int × Int × Int) ⊕ Unit)
 | 0,_=>none
 | m + 1,aB=>(cnd (decide (aB < ((aA.Nodes.length : Nat) : Int))) (bnd (idx aA.Nodes aB) fun aC=>(bnd (cut aA.Nodes 0 aB) fun aF=>(bnd2 (oM n aE aA aB aF aC n 0) (fun aD=>(some (Sum.inl (aC.ID,aC.At.X,aC.At.Y,aD.1,aD.2.1,aD.2.2)))) (fun aG=>(oN n aE aA m (IntKind.i64.wrap (aB + 1))))))) (some (Sum.inr ())))
theorem sR (n : Nat) (aB : (List Int)) (aA : GPlan) : ∀ (m : Nat) (aD : Int) (r : ((Int × Int × Int × Int × Int × Int) ⊕ Unit)),oN n aB aA m aD=some r→eT [false,true,true] lv4 true 0 1 (eG (eO (some lv7) true 0 1) (evC PP (evF PP T n) n 0 bHt) m (uR aB aA aD))=(match r with | (.inl r)=>some (.ret,sS aB aA r.1 r.2.1 r.2.2.1 r.2.2.2.1 r.2.2.2.2.1 r.2.2.2.2.2) | (.inr r)=>some ((.exit 0),lB aB aA))
 | 0,_,_,h=>by cases h
 | m + 1,aD,r,h=>by
  rw [oN] at h
  rcases cn h with ⟨aN,aG,h⟩ | ⟨aN,aG,h⟩
  rotate_left
  ·obtain rfl:=si h
   exact eQ (some lv7) true (lB aB aA) (qa 19 aG<|q0) [] [] (by exact (clo rfl rfl))
  obtain ⟨aC,aO,h⟩:=dQ h
  have aJ:=idxv (H:=(hp0 aA)) (c:=dP) aO (jQ _)
  obtain ⟨aF,aP,h⟩:=dQ h
  have aK:=aUo (P:=PP) (cf:=evF PP T n) (w:=.undef) (z:=.undef) (fl:=0) (H:=(hp6 aA aC)) (s:=3) (c:=dP) aP jQ
  have aL:=iM (P:=PP) (cf:=evF PP T n) (fl:=0) (H:=(hp6 aA aC)) (c:=dP) (l:=aF)
  have aM : eS true 0 2 [(.blk 3 [[(.vw (List.map dP aA.Nodes)),(.vw (List.map dR aA.Arcs)),(.vw (List.map dS aA.Faces))]]),(.blk 3 [(dP aC)])]:=(by exact (clo rfl (clo rfl rfl)))
  rcases gF h with ⟨aE,aH,h⟩ | ⟨aQ,aH,h⟩
  ·have aI:=sO n aB aA aD aF aC n 0 _ aH
   obtain rfl:=si h
   exact eQ (some lv7) true (sS aB aA aC.ID aC.At.X aC.At.Y aE.1 aE.2.1 aE.2.2) (qp aI<|qp aM<|qb 27 aL<|qb 26 aK<|qa 21 aJ<|qa 19 aG<|q0) [(.ret,sQ aB aA aD aF aC aE.1 aE.2.1 aE.2.2)] [none] trivial
  have aI:=sO n aB aA aD aF aC n 0 _ aH
  exact nx_q (uR aB aA (IntKind.i64.wrap (aD + 1))) (qp aI<|qp aM<|qb 27 aL<|qb 26 aK<|qa 21 aJ<|qa 19 aG<|q0) [((.exit 2),sP aB aA aD aF aC)] [none] (aF2 _ _ _) (sR n aB aA m (IntKind.i64.wrap (aD + 1)) r h)
def uP (aB : (List Int)) (aA : GPlan) (aC : Int) : St:=⟨sp 85 [(1,(.vw (List.map dS aB))),(2,(.ptr 0 1 0 0)),(40,(.vw (List.map dR aA.Arcs))),(41,(iv ((aA.Arcs.length : Nat) : Int))),(42,(iv aC))],[(.blk 3 [[(.vw (List.map dP aA.Nodes)),(.vw (List.map dR aA.Arcs)),(.vw (List.map dS aA.Faces))]])]⟩
theorem aF0 (aA : (List Int)) (aB : GPlan) (aC : Int) : eS true 0 1 (uP aA aB aC).heap:=(by exact (clo rfl rfl))
def sN (aH : (List Int)) (aA : GPlan) (aB : Int) (aC : Int) (aD : Int) (aE : (List GPoint)) (aF : Int) (aG : Int) : St:=⟨sp 85 [(4,(iv 7))],[(.blk 3 [[(.vw (List.map dP aA.Nodes)),(.vw (List.map dR aA.Arcs)),(.vw (List.map dS aA.Faces))]]),(.blk 6 [[(iv aB),(iv aC),(iv aD),(.sl false (List.map dW aE)),(iv aF),(iv aG)]])]⟩
def nT (aB : (List Int)) (aA : GPlan) : St:=⟨sp 85 [(2,(.ptr 0 1 0 0))],[(.blk 3 [[(.vw (List.map dP aA.Nodes)),(.vw (List.map dR aA.Arcs)),(.vw (List.map dS aA.Faces))]])]⟩
def aFy (aB : (List Int)) (aA : GPlan) (aC : Int) (aD : GArc) : St:=⟨sp 85 [(1,(.vw (List.map dS aB))),(2,(.ptr 0 1 0 0)),(10,(.ptr 1 1 0 0)),(40,(.vw (List.map dR aA.Arcs))),(41,(iv ((aA.Arcs.length : Nat) : Int))),(42,(iv aC))],[(.blk 3 [[(.vw (List.map dP aA.Nodes)),(.vw (List.map dR aA.Arcs)),(.vw (List.map dS aA.Faces))]]),(.blk 6 [(dR aD)])]⟩
def jU (aB : (List Int)) (aA : GPlan) (aC : Int) (aD : GArc) (aE : Bool) : St:=⟨sp 85 [(1,(.vw (List.map dS aB))),(2,(.ptr 0 1 0 0)),(40,(.vw (List.map dR aA.Arcs))),(41,(iv ((aA.Arcs.length : Nat) : Int))),(42,(iv aC)),(57,(bv aE))],[(.blk 3 [[(.vw (List.map dP aA.Nodes)),(.vw (List.map dR aA.Arcs)),(.vw (List.map dS aA.Faces))]]),(.blk 6 [(dR aD)])]⟩
def rL (n : Nat) (aA : (List Int)) (aE : GPlan) (aF : Int) (aB : GArc) : Option Bool:=(bnd (jG n aA aB.From) fun aC=>(cnd (aC) (bnd (jG n aA aB.To) fun aD=>(cnd (aD) (some false) (some true))) (some true)))
theorem zH (n : Nat) (aA : (List Int)) (aC : GPlan) (aD : Int) (aB : GArc) (r : Bool) (h : rL n aA aC aD aB=some r) : eT lv10 lv4 false 0 2 (evC PP (evF PP T n) n 0 bHq (aFy aA aC aD aB))=some (.normal,jU aA aC aD aB r):=by
 unfold rL at h
 obtain ⟨aO,aG,h⟩:=dQ h
 rcases cn h with ⟨aE,aJ,h⟩ | ⟨aE,aJ,h⟩
 rotate_left
 ·have aK:=by have q:=gV n aA aB.From _ aG; rw [aE] at q; exact q
  obtain rfl:=si h
  exact dY (jU aA aC aD aB true) (qa 49 aK<|q0) [] []
 have aH:=by have q:=gV n aA aB.From _ aG; rw [aE] at q; exact q
 obtain ⟨aP,aI,h⟩:=dQ h
 rcases cn h with ⟨aF,aL,h⟩ | ⟨aF,aL,h⟩
 rotate_left
 ·have aM:=by have q:=gV n aA aB.To _ aI; rw [aF] at q; exact q
  obtain rfl:=si h
  exact dY (jU aA aC aD aB true) (qa 55 aM<|qa 49 aH<|q0) [] []
 have aN:=by have q:=gV n aA aB.To _ aI; rw [aF] at q; exact q
 obtain rfl:=si h
 exact dY (jU aA aC aD aB false) (qa 55 aN<|qa 49 aH<|q0) [] []
def oL (n : Nat) (aD : (List Int)) (aB : GPlan) : Nat→Int→Option ((Int × Int × Int × (List GPoint) × Int × Int) ⊕ Unit)
 | 0,_=>none
 | m + 1,aC=>(cnd (decide (aC < ((aB.Arcs.length : Nat) : Int))) (bnd (idx aB.Arcs aC) fun aA=>(bnd (rL n aD aB aC aA) fun aE=>(cnd (aE) (some (Sum.inl (aA.ID,aA.From,aA.To,aA.Via,aA.Left,aA.Right))) (oL n aD aB m (IntKind.i64.wrap (aC + 1)))))) (some (Sum.inr ())))
theorem sM (n : Nat) (aB : (List Int)) (aA : GPlan) : ∀ (m : Nat) (aD : Int) (r : ((Int × Int × Int × (List GPoint) × Int × Int) ⊕ Unit)),oL n aB aA m aD=some r→eT [false,false,true] lv4 true 0 1 (eG (eO (some lv9) true 0 1) (evC PP (evF PP T n) n 0 bHr) m (uP aB aA aD))=(match r with | (.inl r)=>some (.ret,sN aB aA r.1 r.2.1 r.2.2.1 r.2.2.2.1 r.2.2.2.2.1 r.2.2.2.2.2) | (.inr r)=>some ((.exit 4),nT aB aA))
 | 0,_,_,h=>by cases h
 | m + 1,aD,r,h=>by
  rw [oL] at h
  rcases cn h with ⟨aJ,aF,h⟩ | ⟨aJ,aF,h⟩
  rotate_left
  ·obtain rfl:=si h
   exact eQ (some lv9) true (nT aB aA) (qa 43 aF<|q0) [] [] (by exact (clo rfl rfl))
  obtain ⟨aC,aK,h⟩:=dQ h
  have aH:=idxv (H:=(hp0 aA)) (c:=dR) aK (lY _)
  obtain ⟨aM,aI,h⟩:=dQ h
  rcases cn h with ⟨aG,aL,h⟩ | ⟨aG,aL,h⟩
  ·have aE:=zH n aB aA aD aC _ aI
   rw [aG] at aE
   obtain rfl:=si h
   exact eQ (some lv9) true (sN aB aA aC.ID aC.From aC.To aC.Via aC.Left aC.Right) (qp aE<|qa 44 aH<|qa 43 aF<|q0) [(.normal,jU aB aA aD aC true)] [none] trivial
  have aE:=zH n aB aA aD aC _ aI
  rw [aG] at aE
  exact nx_q (uP aB aA (IntKind.i64.wrap (aD + 1))) (qp aE<|qa 44 aH<|qa 43 aF<|q0) [(.normal,jU aB aA aD aC false)] [none] (aF0 _ _ _) (sM n aB aA m (IntKind.i64.wrap (aD + 1)) r h)
def uO (aA : GPlan) (aB : Int) : St:=⟨sp 85 [(2,(.ptr 0 1 0 0)),(60,(.vw (List.map dR aA.Arcs))),(61,(iv ((aA.Arcs.length : Nat) : Int))),(62,(iv aB))],[(.blk 3 [[(.vw (List.map dP aA.Nodes)),(.vw (List.map dR aA.Arcs)),(.vw (List.map dS aA.Faces))]])]⟩
theorem aFz (aA : GPlan) (aB : Int) : eS true 0 1 (uO aA aB).heap:=(by exact (clo rfl rfl))
def sL (aA : GPlan) (aB : Int) (aC : Int) (aD : Int) (aE : (List GPoint)) (aF : Int) (aG : Int) : St:=⟨sp 85 [(4,(iv 12))],[(.blk 3 [[(.vw (List.map dP aA.Nodes)),(.vw (List.map dR aA.Arcs)),(.vw (List.map dS aA.Faces))]]),(.blk 6 [[(iv aB),(iv aC),(iv aD),(.sl false (List.map dW aE)),(iv aF),(iv aG)]])]⟩
def sK (aA : GPlan) : St:=⟨sp 85 [],[(.blk 3 [[(.vw (List.map dP aA.Nodes)),(.vw (List.map dR aA.Arcs)),(.vw (List.map dS aA.Faces))]])]⟩
def pI (aA : GPlan) (aC : Int) (aB : GArc) : St:=⟨sp 85 [(2,(.ptr 0 1 0 0)),(60,(.vw (List.map dR aA.Arcs))),(61,(iv ((aA.Arcs.length : Nat) : Int))),(62,(iv aC)),(70,(.agg [(iv aB.Left),(iv aB.Right)])),(71,(iv 0))],[(.blk 3 [[(.vw (List.map dP aA.Nodes)),(.vw (List.map dR aA.Arcs)),(.vw (List.map dS aA.Faces))]]),(.blk 6 [(dR aB)])]⟩
def nS (aA : GPlan) (aC : Int) (aB : GArc) : St:=⟨sp 85 [(4,(iv 12))],[(.blk 3 [[(.vw (List.map dP aA.Nodes)),(.vw (List.map dR aA.Arcs)),(.vw (List.map dS aA.Faces))]]),(.blk 6 [(dR aB)])]⟩
def sI (aA : GPlan) (aB : Int) (aC : GArc) : St:=⟨sp 85 [(2,(.ptr 0 1 0 0)),(60,(.vw (List.map dR aA.Arcs))),(61,(iv ((aA.Arcs.length : Nat) : Int))),(62,(iv aB))],[(.blk 3 [[(.vw (List.map dP aA.Nodes)),(.vw (List.map dR aA.Arcs)),(.vw (List.map dS aA.Faces))]]),(.blk 6 [(dR aC)])]⟩
def aFx (aB : GArc) (aA : GPlan) (aC : Int) : St:=⟨sp 85 [(2,(.ptr 0 1 0 0)),(14,(iv aB.Left)),(60,(.vw (List.map dR aA.Arcs))),(61,(iv ((aA.Arcs.length : Nat) : Int))),(62,(iv aC)),(70,(.agg [(iv aB.Left),(iv aB.Right)])),(71,(iv 0))],[(.blk 3 [[(.vw (List.map dP aA.Nodes)),(.vw (List.map dR aA.Arcs)),(.vw (List.map dS aA.Faces))]]),(.blk 6 [(dR aB)])]⟩
def iW (aB : GArc) (aA : GPlan) (aC : Int) (aD : Bool) : St:=⟨sp 85 [(2,(.ptr 0 1 0 0)),(60,(.vw (List.map dR aA.Arcs))),(61,(iv ((aA.Arcs.length : Nat) : Int))),(62,(iv aC)),(70,(.agg [(iv aB.Left),(iv aB.Right)])),(71,(iv 0)),(82,(bv aD))],[(.blk 3 [[(.vw (List.map dP aA.Nodes)),(.vw (List.map dR aA.Arcs)),(.vw (List.map dS aA.Faces))]]),(.blk 6 [(dR aB)])]⟩
def oJ (n : Nat) (aA : GArc) (aB : GPlan) (aD : Int) : Option Bool:=(cnd (aA.Left != 0) (bnd (jG n aB.Faces aA.Left) fun aC=>(cnd (aC) (some false) (some true))) (some false))
theorem zF (n : Nat) (aA : GArc) (aB : GPlan) (aC : Int) (r : Bool) (h : oJ n aA aB aC=some r) : eT lv13 lv4 false 0 2 (evC PP (evF PP T n) n 0 bE7 (aFx aA aB aC))=some (.normal,iW aA aB aC r):=by
 unfold oJ at h
 rcases cn h with ⟨aG,aD,h⟩ | ⟨aG,aD,h⟩
 rotate_left
 ·obtain rfl:=si h
  exact dY (iW aA aB aC false) (qa 75 aD<|q0) [] []
 obtain ⟨aK,aF,h⟩:=dQ h
 rcases cn h with ⟨aE,aH,h⟩ | ⟨aE,aH,h⟩
 rotate_left
 ·have aI:=by have q:=gV n aB.Faces aA.Left _ aF; rw [aE] at q; exact q
  obtain rfl:=si h
  exact dY (iW aA aB aC true) (qa 80 aI<|qa 75 aD<|q0) [] []
 have aJ:=by have q:=gV n aB.Faces aA.Left _ aF; rw [aE] at q; exact q
 obtain rfl:=si h
 exact dY (iW aA aB aC false) (qa 80 aJ<|qa 75 aD<|q0) [] []
def aD1 (aB : GArc) (aA : GPlan) (aC : Int) : St:=⟨sp 85 [(2,(.ptr 0 1 0 0)),(14,(iv aB.Right)),(60,(.vw (List.map dR aA.Arcs))),(61,(iv ((aA.Arcs.length : Nat) : Int))),(62,(iv aC)),(70,(.agg [(iv aB.Left),(iv aB.Right)])),(71,(iv 1))],[(.blk 3 [[(.vw (List.map dP aA.Nodes)),(.vw (List.map dR aA.Arcs)),(.vw (List.map dS aA.Faces))]]),(.blk 6 [(dR aB)])]⟩
def jE (aB : GArc) (aA : GPlan) (aC : Int) (aD : Bool) : St:=⟨sp 85 [(2,(.ptr 0 1 0 0)),(60,(.vw (List.map dR aA.Arcs))),(61,(iv ((aA.Arcs.length : Nat) : Int))),(62,(iv aC)),(70,(.agg [(iv aB.Left),(iv aB.Right)])),(71,(iv 1)),(82,(bv aD))],[(.blk 3 [[(.vw (List.map dP aA.Nodes)),(.vw (List.map dR aA.Arcs)),(.vw (List.map dS aA.Faces))]]),(.blk 6 [(dR aB)])]⟩
def mE (n : Nat) (aA : GArc) (aB : GPlan) (aD : Int) : Option Bool:=(cnd (aA.Right != 0) (bnd (jG n aB.Faces aA.Right) fun aC=>(cnd (aC) (some false) (some true))) (some false))
theorem wD (n : Nat) (aA : GArc) (aB : GPlan) (aC : Int) (r : Bool) (h : mE n aA aB aC=some r) : eT lv13 lv4 false 0 2 (evC PP (evF PP T n) n 0 bE7 (aD1 aA aB aC))=some (.normal,jE aA aB aC r):=by
 unfold mE at h
 rcases cn h with ⟨aG,aD,h⟩ | ⟨aG,aD,h⟩
 rotate_left
 ·obtain rfl:=si h
  exact dY (jE aA aB aC false) (qa 75 aD<|q0) [] []
 obtain ⟨aK,aF,h⟩:=dQ h
 rcases cn h with ⟨aE,aH,h⟩ | ⟨aE,aH,h⟩
 rotate_left
 ·have aI:=by have q:=gV n aB.Faces aA.Right _ aF; rw [aE] at q; exact q
  obtain rfl:=si h
  exact dY (jE aA aB aC true) (qa 80 aI<|qa 75 aD<|q0) [] []
 have aJ:=by have q:=gV n aB.Faces aA.Right _ aF; rw [aE] at q; exact q
 obtain rfl:=si h
 exact dY (jE aA aB aC false) (qa 80 aJ<|qa 75 aD<|q0) [] []
def rK (n : Nat) (aA : GPlan) (aB : Int) (aC : GArc) : Option (Unit ⊕ Unit):=(bnd (prdk 3 n) fun aF=>(bnd (oJ n aC aA aB) fun aD=>(cnd (aD) (some (Sum.inl ())) (bnd (mE n aC aA aB) fun aE=>(cnd (aE) (some (Sum.inl ())) (some (Sum.inr ())))))))
theorem zG (n : Nat) (aA : GPlan) (aC : Int) (aB : GArc) (r : (Unit ⊕ Unit)) (h : rK n aA aC aB=some r) : eT lv11 lv4 false 0 2 (eG (eO (some lv12) false 0 2) (evC PP (evF PP T n) n 0 aZc) n (pI aA aC aB))=(match (generalizing:=false) r with | (.inl r)=>some (.ret,nS aA aC aB) | (.inr r)=>some ((.exit 8),sI aA aC aB)):=by
 unfold rK at h
 obtain ⟨aN,aK,h⟩:=dQ h
 have aF:=aWd aK
 obtain ⟨aO,aI,h⟩:=dQ h
 rcases cn h with ⟨aG,aL,h⟩ | ⟨aG,aL,h⟩
 ·have aD:=zF n aB aA aC _ aI
  rw [aG] at aD
  obtain rfl:=si h
  exact (congrArg (fun k=>eT lv11 lv4 false 0 2 (eG (eO (some lv12) false 0 2) (evC PP (evF PP T n) n 0 aZc) k (pI aA aC aB))) aF).trans (eQ (some lv12) false (nS aA aC aB) (qp aD<|q0) [(.normal,iW aB aA aC true)] [] trivial)
 have aD:=zF n aB aA aC _ aI
 rw [aG] at aD
 obtain ⟨aP,aJ,h⟩:=dQ h
 rcases cn h with ⟨aH,aM,h⟩ | ⟨aH,aM,h⟩
 ·have aE:=wD n aB aA aC _ aJ
  rw [aH] at aE
  obtain rfl:=si h
  exact (congrArg (fun k=>eT lv11 lv4 false 0 2 (eG (eO (some lv12) false 0 2) (evC PP (evF PP T n) n 0 aZc) k (pI aA aC aB))) aF).trans (nx_q (live:=some lv12) (tr:=false) ⟨sp 85 [(2,(.ptr 0 1 0 0)),(60,(.vw (List.map dR aA.Arcs))),(61,(iv ((aA.Arcs.length : Nat) : Int))),(62,(iv aC)),(70,(.agg [(iv aB.Left),(iv aB.Right)])),(71,(iv 1))],[(.blk 3 [[(.vw (List.map dP aA.Nodes)),(.vw (List.map dR aA.Arcs)),(.vw (List.map dS aA.Faces))]]),(.blk 6 [(dR aB)])]⟩ (qp aD<|q0) [(.normal,iW aB aA aC false)] [] trivial (eQ (some lv12) false (nS aA aC aB) (qp aE<|q0) [(.normal,jE aB aA aC true)] [] trivial))
 have aE:=wD n aB aA aC _ aJ
 rw [aH] at aE
 obtain rfl:=si h
 exact (congrArg (fun k=>eT lv11 lv4 false 0 2 (eG (eO (some lv12) false 0 2) (evC PP (evF PP T n) n 0 aZc) k (pI aA aC aB))) aF).trans (nx_q (live:=some lv12) (tr:=false) ⟨sp 85 [(2,(.ptr 0 1 0 0)),(60,(.vw (List.map dR aA.Arcs))),(61,(iv ((aA.Arcs.length : Nat) : Int))),(62,(iv aC)),(70,(.agg [(iv aB.Left),(iv aB.Right)])),(71,(iv 1))],[(.blk 3 [[(.vw (List.map dP aA.Nodes)),(.vw (List.map dR aA.Arcs)),(.vw (List.map dS aA.Faces))]]),(.blk 6 [(dR aB)])]⟩ (qp aD<|q0) [(.normal,iW aB aA aC false)] [] trivial (nx_q (live:=some lv12) (tr:=false) ⟨sp 85 [(2,(.ptr 0 1 0 0)),(60,(.vw (List.map dR aA.Arcs))),(61,(iv ((aA.Arcs.length : Nat) : Int))),(62,(iv aC)),(70,(.agg [(iv aB.Left),(iv aB.Right)])),(71,(iv 2))],[(.blk 3 [[(.vw (List.map dP aA.Nodes)),(.vw (List.map dR aA.Arcs)),(.vw (List.map dS aA.Faces))]]),(.blk 6 [(dR aB)])]⟩ (qp aE<|q0) [(.normal,jE aB aA aC false)] [] trivial (eQ (some lv12) false (sI aA aC aB) q0 [] [] trivial)))
def oK (n : Nat) (aB : GPlan) : Nat→Int→Option ((Int × Int × Int × (List GPoint) × Int × Int) ⊕ Unit)
 | 0,_=>none
 | m + 1,aC=>(cnd (decide (aC < ((aB.Arcs.length : Nat) : Int))) (bnd (idx aB.Arcs aC) fun aA=>(bnd2 (rK n aB aC aA) (fun aD=>(some (Sum.inl (aA.ID,aA.From,aA.To,aA.Via,aA.Left,aA.Right)))) (fun aE=>(oK n aB m (IntKind.i64.wrap (aC + 1)))))) (some (Sum.inr ())))
theorem sJ (n : Nat) (aA : GPlan) : ∀ (m : Nat) (aC : Int) (r : ((Int × Int × Int × (List GPoint) × Int × Int) ⊕ Unit)),oK n aA m aC=some r→eT [] lv4 true 0 1 (eG (eO (some lv11) true 0 1) (evC PP (evF PP T n) n 0 bHp) m (uO aA aC))=(match r with | (.inl r)=>some (.ret,sL aA r.1 r.2.1 r.2.2.1 r.2.2.2.1 r.2.2.2.2.1 r.2.2.2.2.2) | (.inr r)=>some ((.exit 6),sK aA))
 | 0,_,_,h=>by cases h
 | m + 1,aC,r,h=>by
  rw [oK] at h
  rcases cn h with ⟨aH,aD,h⟩ | ⟨aH,aD,h⟩
  rotate_left
  ·obtain rfl:=si h
   exact eQ (some lv11) true (sK aA) (qa 63 aD<|q0) [] [] (by exact (clo rfl rfl))
  obtain ⟨aB,aI,h⟩:=dQ h
  have aG:=idxv (H:=(hp0 aA)) (c:=dR) aI (lY _)
  rcases gF h with ⟨aJ,aE,h⟩ | ⟨aK,aE,h⟩
  ·have aF:=zG n aA aC aB _ aE
   obtain rfl:=si h
   exact eQ (some lv11) true (sL aA aB.ID aB.From aB.To aB.Via aB.Left aB.Right) (qp aF<|qp (show eS false 0 2 [(.blk 3 [[(.vw (List.map dP aA.Nodes)),(.vw (List.map dR aA.Arcs)),(.vw (List.map dS aA.Faces))]]),(.blk 6 [(dR aB)])] from trivial)<|qa 64 aG<|qa 63 aD<|q0) [(.ret,nS aA aC aB)] [none] trivial
  have aF:=zG n aA aC aB _ aE
  exact nx_q (uO aA (IntKind.i64.wrap (aC + 1))) (qp aF<|qp (show eS false 0 2 [(.blk 3 [[(.vw (List.map dP aA.Nodes)),(.vw (List.map dR aA.Arcs)),(.vw (List.map dS aA.Faces))]]),(.blk 6 [(dR aB)])] from trivial)<|qa 64 aG<|qa 63 aD<|q0) [((.exit 8),sI aA aC aB)] [none] (aFz _ _) (sJ n aA m (IntKind.i64.wrap (aC + 1)) r h)
def xM : Nat→GPlan→(List Int)→Option Int
 | 0,_,_=>none
 | n + 1,aA,aB=>(bnd2 (oN n aB aA n 0) (fun aC=>(some 8)) (fun aD=>(bnd2 (oL n aB aA n 0) (fun aE=>(some 7)) (fun aF=>(bnd2 (oK n aA n 0) (fun aG=>(some 12)) (fun aH=>(some 0)))))))
theorem aHs (n : Nat) (aA : GPlan) (aB : (List Int)) (r : Int) (h : xM n aA aB=some r) : pv PP T n 50 [(kU aA),(.vw (List.map dS aB))]=some (iv r):=by
 cases n with
 | zero=>cases h
 | succ n =>
  rw [xM] at h
  have aG:=iM (P:=PP) (cf:=evF PP T n) (fl:=0) (H:=(hp0 aA)) (c:=dP) (l:=aA.Nodes)
  have aH : eS true 0 1 [(.blk 3 [[(.vw (List.map dP aA.Nodes)),(.vw (List.map dR aA.Arcs)),(.vw (List.map dS aA.Faces))]])]:=(by exact (clo rfl rfl))
  rcases gF h with ⟨aC,aJ,h⟩ | ⟨aR,aJ,h⟩
  ·have aF:=sR n aB aA n 0 _ aJ
   obtain rfl:=si h
   exact pv_q F50 (qp aF<|qp aH<|qb 17 aG<|q0) [(.ret,sS aB aA aC.1 aC.2.1 aC.2.2.1 aC.2.2.2.1 aC.2.2.2.2.1 aC.2.2.2.2.2)] []
  have aF:=sR n aB aA n 0 _ aJ
  have aK:=iM (P:=PP) (cf:=evF PP T n) (fl:=0) (H:=(hp0 aA)) (c:=dR) (l:=aA.Arcs)
  have aL : eS true 0 1 [(.blk 3 [[(.vw (List.map dP aA.Nodes)),(.vw (List.map dR aA.Arcs)),(.vw (List.map dS aA.Faces))]])]:=(by exact (clo rfl rfl))
  rcases gF h with ⟨aD,aM,h⟩ | ⟨aS,aM,h⟩
  ·have aI:=sM n aB aA n 0 _ aM
   obtain rfl:=si h
   exact pv_q F50 (qp aI<|qp aL<|qb 41 aK<|qp aF<|qp aH<|qb 17 aG<|q0) [((.exit 0),lB aB aA),(.ret,sN aB aA aD.1 aD.2.1 aD.2.2.1 aD.2.2.2.1 aD.2.2.2.2.1 aD.2.2.2.2.2)] []
  have aI:=sM n aB aA n 0 _ aM
  have aP:=iM (P:=PP) (cf:=evF PP T n) (fl:=0) (H:=(hp0 aA)) (c:=dR) (l:=aA.Arcs)
  have aQ : eS true 0 1 [(.blk 3 [[(.vw (List.map dP aA.Nodes)),(.vw (List.map dR aA.Arcs)),(.vw (List.map dS aA.Faces))]])]:=(by exact (clo rfl rfl))
  rcases gF h with ⟨aE,aN,h⟩ | ⟨aT,aN,h⟩
  rotate_left
  ·have aO:=sJ n aA n 0 _ aN
   obtain rfl:=si h
   exact pv_q F50 (qp aO<|qp aQ<|qb 61 aP<|qp aI<|qp aL<|qb 41 aK<|qp aF<|qp aH<|qb 17 aG<|q0) [((.exit 0),lB aB aA),((.exit 4),nT aB aA),((.exit 6),sK aA)] []
  have aO:=sJ n aA n 0 _ aN
  obtain rfl:=si h
  exact pv_q F50 (qp aO<|qp aQ<|qb 61 aP<|qp aI<|qp aL<|qb 41 aK<|qp aF<|qp aH<|qb 17 aG<|q0) [((.exit 0),lB aB aA),((.exit 4),nT aB aA),(.ret,sL aA aE.1 aE.2.1 aE.2.2.1 aE.2.2.2.1 aE.2.2.2.2.1 aE.2.2.2.2.2)] []
abbrev hp10 (aA : GPlan) : Heap:=[(.blk 3 [[(.vw (List.map dP aA.Nodes)),(.vw (List.map dR aA.Arcs)),(.vw (List.map dS aA.Faces))]]),(.blk 6 [[(iv 0),(iv 0),(iv 0),(.lit nilS),(iv 0),(iv 0)]])]
def aCp (aB : Int) (aA : GPlan) (aC : Int) : St:=⟨sp 26 [(1,(iv aB)),(4,(.ptr 1 1 0 0)),(9,(.vw (List.map dR aA.Arcs))),(10,(iv ((aA.Arcs.length : Nat) : Int))),(11,(iv aC))],[(.blk 3 [[(.vw (List.map dP aA.Nodes)),(.vw (List.map dR aA.Arcs)),(.vw (List.map dS aA.Faces))]]),(.blk 6 [[(iv 0),(iv 0),(iv 0),(.lit nilS),(iv 0),(iv 0)]])]⟩
theorem aNk (aA : Int) (aB : GPlan) (aC : Int) : eS true 0 2 (aCp aA aB aC).heap:=(by exact (clo rfl (clo rfl rfl)))
def aBn (aN : Int) (aA : GPlan) (aB : Int) (aC : Int) (aD : Int) (aE : (List GPoint)) (aF : Int) (aG : Int) (aH : Int) (aI : Int) (aJ : Int) (aK : (List GPoint)) (aL : Int) (aM : Int) : St:=⟨sp 26 [(4,(.ptr 1 1 0 0)),(5,bt)],[(.blk 3 [[(.vw (List.map dP aA.Nodes)),(.vw (List.map dR aA.Arcs)),(.vw (List.map dS aA.Faces))]]),(.blk 6 [[(iv aB),(iv aC),(iv aD),(.sl false (List.map dW aE)),(iv aF),(iv aG)]]),(.blk 6 [[(iv aH),(iv aI),(iv aJ),(.sl false (List.map dW aK)),(iv aL),(iv aM)]])]⟩
def aBm (aB : Int) (aA : GPlan) : St:=⟨sp 26 [(4,(.ptr 1 1 0 0))],[(.blk 3 [[(.vw (List.map dP aA.Nodes)),(.vw (List.map dR aA.Arcs)),(.vw (List.map dS aA.Faces))]]),(.blk 6 [[(iv 0),(iv 0),(iv 0),(.lit nilS),(iv 0),(iv 0)]])]⟩
def aAk (n : Nat) (aD : Int) (aB : GPlan) : Nat→Int→Option ((Int × Int × Int × (List GPoint) × Int × Int × Int × Int × Int × (List GPoint) × Int × Int) ⊕ Unit)
 | 0,_=>none
 | m + 1,aC=>(cnd (decide (aC < ((aB.Arcs.length : Nat) : Int))) (bnd (idx aB.Arcs aC) fun aA=>(cnd (aA.ID == aD) (bnd (qJ n aA.Via) fun aE=>(some (Sum.inl (aA.ID,aA.From,aA.To,aE,aA.Left,aA.Right,aA.ID,aA.From,aA.To,aE,aA.Left,aA.Right)))) (aAk n aD aB m (IntKind.i64.wrap (aC + 1))))) (some (Sum.inr ())))
theorem aBl (n : Nat) (aC : Int) (aB : GPlan) : ∀ (m : Nat) (aD : Int) (r : ((Int × Int × Int × (List GPoint) × Int × Int × Int × Int × Int × (List GPoint) × Int × Int) ⊕ Unit)),aAk n aC aB m aD=some r→eT lv4 lv15 true 0 2 (eG (eO (some lv14) true 0 2) (evC PP (evF PP T n) n 0 bHh) m (aCp aC aB aD))=(match r with | (.inl r)=>some (.ret,aBn aC aB r.1 r.2.1 r.2.2.1 r.2.2.2.1 r.2.2.2.2.1 r.2.2.2.2.2.1 r.2.2.2.2.2.2.1 r.2.2.2.2.2.2.2.1 r.2.2.2.2.2.2.2.2.1 r.2.2.2.2.2.2.2.2.2.1 r.2.2.2.2.2.2.2.2.2.2.1 r.2.2.2.2.2.2.2.2.2.2.2) | (.inr r)=>some ((.exit 0),aBm aC aB))
 | 0,_,_,h=>by cases h
 | m + 1,aD,r,h=>by
  rw [aAk] at h
  rcases cn h with ⟨aI,aE,h⟩ | ⟨aI,aE,h⟩
  rotate_left
  ·obtain rfl:=si h
   exact eQ (some lv14) true (aBm aC aB) (qa 12 aE<|q0) [] [] (by exact (clo rfl (clo rfl rfl)))
  obtain ⟨aA,aJ,h⟩:=dQ h
  have aG:=idxv (H:=(hp10 aB)) (c:=dR) aJ (lY _)
  rcases cn h with ⟨aK,aF,h⟩ | ⟨aK,aF,h⟩
  rotate_left
  ·exact nx_q (aCp aC aB (IntKind.i64.wrap (aD + 1))) (qa 18 aF<|qa 13 aG<|qa 12 aE<|q0) [] [none] (aNk _ _ _) (aBl n aC aB m (IntKind.i64.wrap (aD + 1)) r h)
  obtain ⟨aH,aL,h⟩:=dQ h
  have aM:=aDt n aA.Via _ aL
  obtain rfl:=si h
  exact eQ (some lv14) true (aBn aC aB aA.ID aA.From aA.To aH aA.Left aA.Right aA.ID aA.From aA.To aH aA.Left aA.Right) (qa 21 aM<|qa 18 aF<|qa 13 aG<|qa 12 aE<|q0) [] [none,none,none] trivial
def aGt : Nat→GPlan→Int→Option (GArc × Bool)
 | 0,_,_=>none
 | n + 1,aB,aC=>(bnd2 (aAk n aC aB n 0) (fun aA=>(some ((GArc.mk aA.1 aA.2.1 aA.2.2.1 aA.2.2.2.1 aA.2.2.2.2.1 aA.2.2.2.2.2.1),true))) (fun aD=>(some ((GArc.mk 0 0 0 [] 0 0),false))))
theorem aCo (n : Nat) (aB : GPlan) (aC : Int) (r : (GArc × Bool)) (h : aGt n aB aC=some r) : pv PP T n 57 [(kU aB),(iv aC)]=some (.tup [(.agg (dR r.1)),(bv r.2)]):=by
 cases n with
 | zero=>cases h
 | succ n =>
  rw [aGt] at h
  have aF:=iM (P:=PP) (cf:=evF PP T n) (fl:=0) (H:=(hp10 aB)) (c:=dR) (l:=aB.Arcs)
  have aG : eS true 0 2 [(.blk 3 [[(.vw (List.map dP aB.Nodes)),(.vw (List.map dR aB.Arcs)),(.vw (List.map dS aB.Faces))]]),(.blk 6 [[(iv 0),(iv 0),(iv 0),(.lit nilS),(iv 0),(iv 0)]])]:=(by exact (clo rfl (clo rfl rfl)))
  rcases gF h with ⟨aA,aD,h⟩ | ⟨aH,aD,h⟩
  rotate_left
  ·have aE:=aBl n aC aB n 0 _ aD
   obtain rfl:=si h
   exact pv_q F57 (qp aE<|qp aG<|qb 10 aF<|q0) [((.exit 0),aBm aC aB)] [none]
  have aE:=aBl n aC aB n 0 _ aD
  obtain rfl:=si h
  exact pv_q F57 (qp aE<|qp aG<|qb 10 aF<|q0) [(.ret,aBn aC aB aA.1 aA.2.1 aA.2.2.1 aA.2.2.2.1 aA.2.2.2.2.1 aA.2.2.2.2.2.1 aA.2.2.2.2.2.2.1 aA.2.2.2.2.2.2.2.1 aA.2.2.2.2.2.2.2.2.1 aA.2.2.2.2.2.2.2.2.2.1 aA.2.2.2.2.2.2.2.2.2.2.1 aA.2.2.2.2.2.2.2.2.2.2.2)] []
abbrev hp11 (aA : GPlan) : Heap:=[(.blk 3 [[(.vw (List.map dP aA.Nodes)),(.vw (List.map dR aA.Arcs)),(.vw (List.map dS aA.Faces))]]),(.blk 3 [[(iv 0),(iv 0),(iv 0)]])]
def aBj (aB : Int) (aA : GPlan) (aC : Int) : St:=⟨sp 22 [(1,(iv aB)),(4,(.ptr 1 1 0 0)),(9,(.vw (List.map dP aA.Nodes))),(10,(iv ((aA.Nodes.length : Nat) : Int))),(11,(iv aC))],[(.blk 3 [[(.vw (List.map dP aA.Nodes)),(.vw (List.map dR aA.Arcs)),(.vw (List.map dS aA.Faces))]]),(.blk 3 [[(iv 0),(iv 0),(iv 0)]])]⟩
theorem aL0 (aA : Int) (aB : GPlan) (aC : Int) : eS true 0 2 (aBj aA aB aC).heap:=(by exact (clo rfl (clo rfl rfl)))
def aAi (aH : Int) (aA : GPlan) (aB : Int) (aC : Int) (aD : Int) (aE : Int) (aF : Int) (aG : Int) : St:=⟨sp 22 [(4,(.ptr 1 1 0 0)),(5,bt)],[(.blk 3 [[(.vw (List.map dP aA.Nodes)),(.vw (List.map dR aA.Arcs)),(.vw (List.map dS aA.Faces))]]),(.blk 3 [[(iv aB),(iv aC),(iv aD)]]),(.blk 3 [[(iv aE),(iv aF),(iv aG)]])]⟩
def aAh (aB : Int) (aA : GPlan) : St:=⟨sp 22 [(4,(.ptr 1 1 0 0))],[(.blk 3 [[(.vw (List.map dP aA.Nodes)),(.vw (List.map dR aA.Arcs)),(.vw (List.map dS aA.Faces))]]),(.blk 3 [[(iv 0),(iv 0),(iv 0)]])]⟩
def yC (n : Nat) (aD : Int) (aB : GPlan) : Nat→Int→Option ((Int × Int × Int × Int × Int × Int) ⊕ Unit)
 | 0,_=>none
 | m + 1,aC=>(cnd (decide (aC < ((aB.Nodes.length : Nat) : Int))) (bnd (idx aB.Nodes aC) fun aA=>(cnd (aA.ID == aD) (some (Sum.inl (aA.ID,aA.At.X,aA.At.Y,aA.ID,aA.At.X,aA.At.Y))) (yC n aD aB m (IntKind.i64.wrap (aC + 1))))) (some (Sum.inr ())))
theorem aAg (n : Nat) (aB : Int) (aA : GPlan) : ∀ (m : Nat) (aD : Int) (r : ((Int × Int × Int × Int × Int × Int) ⊕ Unit)),yC n aB aA m aD=some r→eT lv4 lv15 true 0 2 (eG (eO (some lv14) true 0 2) (evC PP (evF PP T n) n 0 bHj) m (aBj aB aA aD))=(match r with | (.inl r)=>some (.ret,aAi aB aA r.1 r.2.1 r.2.2.1 r.2.2.2.1 r.2.2.2.2.1 r.2.2.2.2.2) | (.inr r)=>some ((.exit 0),aAh aB aA))
 | 0,_,_,h=>by cases h
 | m + 1,aD,r,h=>by
  rw [yC] at h
  rcases cn h with ⟨aH,aE,h⟩ | ⟨aH,aE,h⟩
  rotate_left
  ·obtain rfl:=si h
   exact eQ (some lv14) true (aAh aB aA) (qa 12 aE<|q0) [] [] (by exact (clo rfl (clo rfl rfl)))
  obtain ⟨aC,aI,h⟩:=dQ h
  have aG:=idxv (H:=(hp11 aA)) (c:=dP) aI (jQ _)
  rcases cn h with ⟨aJ,aF,h⟩ | ⟨aJ,aF,h⟩
  ·obtain rfl:=si h
   exact eQ (some lv14) true (aAi aB aA aC.ID aC.At.X aC.At.Y aC.ID aC.At.X aC.At.Y) (qa 18 aF<|qa 13 aG<|qa 12 aE<|q0) [] [none,none] trivial
  exact nx_q (aBj aB aA (IntKind.i64.wrap (aD + 1))) (qa 18 aF<|qa 13 aG<|qa 12 aE<|q0) [] [none] (aL0 _ _ _) (aAg n aB aA m (IntKind.i64.wrap (aD + 1)) r h)
def tF : Nat→GPlan→Int→Option (GNode × Bool)
 | 0,_,_=>none
 | n + 1,aB,aC=>(bnd2 (yC n aC aB n 0) (fun aA=>(some ((GNode.mk aA.1 (GPoint.mk aA.2.1 aA.2.2.1)),true))) (fun aD=>(some ((GNode.mk 0 (GPoint.mk 0 0)),false))))
theorem jB (n : Nat) (aA : GPlan) (aB : Int) (r : (GNode × Bool)) (h : tF n aA aB=some r) : pv PP T n 52 [(kU aA),(iv aB)]=some (.tup [(.agg (dP r.1)),(bv r.2)]):=by
 cases n with
 | zero=>cases h
 | succ n =>
  rw [tF] at h
  have aF:=iM (P:=PP) (cf:=evF PP T n) (fl:=0) (H:=(hp11 aA)) (c:=dP) (l:=aA.Nodes)
  have aG : eS true 0 2 [(.blk 3 [[(.vw (List.map dP aA.Nodes)),(.vw (List.map dR aA.Arcs)),(.vw (List.map dS aA.Faces))]]),(.blk 3 [[(iv 0),(iv 0),(iv 0)]])]:=(by exact (clo rfl (clo rfl rfl)))
  rcases gF h with ⟨aC,aD,h⟩ | ⟨aH,aD,h⟩
  rotate_left
  ·have aE:=aAg n aB aA n 0 _ aD
   obtain rfl:=si h
   exact pv_q F52 (qp aE<|qp aG<|qb 10 aF<|q0) [((.exit 0),aAh aB aA)] [none]
  have aE:=aAg n aB aA n 0 _ aD
  obtain rfl:=si h
  exact pv_q F52 (qp aE<|qp aG<|qb 10 aF<|q0) [(.ret,aAi aB aA aC.1 aC.2.1 aC.2.2.1 aC.2.2.2.1 aC.2.2.2.2.1 aC.2.2.2.2.2)] []
def uW (aA : (List (List GPoint))) (aB : Int) (aC : Int) : St:=⟨sp 36 [(0,(.sl false (List.map tP aA))),(3,(iv aC)),(9,(.sl false (List.map tP aA))),(10,(iv ((aA.length : Nat) : Int))),(11,(iv aB))],[]⟩
def nK (aA : (List (List GPoint))) (aB : Int) : St:=⟨sp 36 [(0,(.sl false (List.map tP aA))),(3,(iv aB))],[]⟩
def jZ (n : Nat) (aA : (List (List GPoint))) : Nat→Int→Int→Option Int
 | 0,_,_=>none
 | m + 1,aB,aC=>(cnd (decide (aB < ((aA.length : Nat) : Int))) (bnd (idx aA aB) fun aD=>(cnd (decide ((IntKind.i64.wrap (aC + ((aD.length : Nat) : Int))) < 0)) none (jZ n aA m (IntKind.i64.wrap (aB + 1)) (IntKind.i64.wrap (aC + ((aD.length : Nat) : Int)))))) (some aC))
theorem tA (n : Nat) (aA : (List (List GPoint))) : ∀ (m : Nat) (aC : Int) (aB : Int) (r : Int),jZ n aA m aC aB=some r→eT [true,false,false,true] [false,false,true] false 0 0 (eG (eO (some lv16) false 0 0) (evC PP (evF PP T n) n 0 bHg) m (uW aA aC aB))=some ((.exit 0),nK aA r)
 | 0,_,_,_,h=>by cases h
 | m + 1,aC,aB,r,h=>by
  rw [jZ] at h
  rcases cn h with ⟨aG,aD,h⟩ | ⟨aG,aD,h⟩
  rotate_left
  ·obtain rfl:=si h
   exact eQ (some lv16) false (nK aA aB) (qa 12 aD<|q0) [] [] trivial
  obtain ⟨aE,aH,h⟩:=dQ h
  have aI:=idxl (H:=[]) (f:=false) (c:=tP) aH (aG8 _)
  have aJ:=nP (P:=PP) (cf:=evF PP T n) (fl:=0) (H:=[]) (f:=false) (c:=dW) (l:=aE)
  rcases cn h with ⟨aK,aF,h⟩ | ⟨aK,aF,h⟩
  ·cases h
  exact nx_q (uW aA (IntKind.i64.wrap (aC + 1)) (IntKind.i64.wrap (aB + ((aE.length : Nat) : Int)))) (qa 20 aF<|qb 17 aJ<|qa 13 aI<|qa 12 aD<|q0) [] [] trivial (tA n aA m (IntKind.i64.wrap (aC + 1)) (IntKind.i64.wrap (aB + ((aE.length : Nat) : Int))) r h)
def uV (aA : (List (List GPoint))) (aB : (List GPoint)) (aC : Int) (aD : Nat) : St:=⟨sp 36 [(6,(.ms 0 aB.length 0 aD)),(25,(.sl false (List.map tP aA))),(26,(iv ((aA.length : Nat) : Int))),(27,(iv aC))],[(.blk 2 (List.map dW aB))]⟩
def nJ (aC : (List (List GPoint))) (aA : (List GPoint)) (aB : Nat) : St:=⟨sp 36 [(6,(.ms 0 aA.length 0 aB))],[(.blk 2 (List.map dW aA))]⟩
def jD (n : Nat) (aA : (List (List GPoint))) : Nat→(List GPoint)→Int→Nat→Option ((List GPoint) × Nat)
 | 0,_,_,_=>none
 | m + 1,aD,aB,aC=>(cnd (decide (aB < ((aA.length : Nat) : Int))) (bnd (idx aA aB) fun aE=>(bnd (appK aD aC aE) fun aF=>(jD n aA m aF (IntKind.i64.wrap (aB + 1)) (aC + aE.length)))) (some (aD,aC)))
theorem sZ (n : Nat) (aB : (List (List GPoint))) : ∀ (m : Nat) (aA : (List GPoint)) (aD : Int) (aC : Nat) (r : ((List GPoint) × Nat)),jD n aB m aA aD aC=some r→eT lv18 [false,false,true] false 0 1 (eG (eO (some lv17) false 0 1) (evC PP (evF PP T n) n 0 bHf) m (uV aB aA aD aC))=some ((.exit 2),nJ aB r.1 r.2)
 | 0,_,_,_,_,h=>by cases h
 | m + 1,aA,aD,aC,r,h=>by
  rw [jD] at h
  rcases cn h with ⟨aH,aE,h⟩ | ⟨aH,aE,h⟩
  rotate_left
  ·obtain rfl:=si h
   exact eQ (some lv17) false (nJ aB aA aC) (qa 28 aE<|q0) [] [] trivial
  obtain ⟨aF,aI,h⟩:=dQ h
  have aJ:=idxl (H:=[(.blk 2 (List.map dW aA))]) (f:=false) (c:=tP) aI (aG8 _)
  obtain ⟨aG,aK,h⟩:=dQ h
  have aL:=bE2 (fl:=0) (H:=[(.blk 2 (List.map dW aA))]) (id:=0) (s:=2) (bytes:=16) (c:=dW) (l:=aA) aK rfl gW (by omega) (by omega) (by omega)
  exact nx_q (uV aB aG (IntKind.i64.wrap (aD + 1)) (aC + aF.length)) (qc 33 aL<|qa 29 aJ<|qa 28 aE<|q0) [] [] trivial (sZ n aB m aG (IntKind.i64.wrap (aD + 1)) (aC + aF.length) r h)
def oZ : Nat→(List (List GPoint))→Option (List GPoint)
 | 0,_=>none
 | n + 1,aA=>(bnd (jZ n aA n 0 0) fun aC=>(bnd (prd n) fun aE=>(bnd (aXy aC) fun aD=>(bnd (jD n aA n aD 0 0) fun aB=>(some (List.take aB.2 aB.1))))))
theorem aDg (n : Nat) (aB : (List (List GPoint))) (r : (List GPoint)) (h : oZ n aB=some r) : pv PP T n 58 [(.sl false (List.map tP aB))]=some (.sl false (List.map dW r)):=by
 cases n with
 | zero=>cases h
 | succ n =>
  rw [oZ] at h
  have aE:=nP (P:=PP) (cf:=evF PP T n) (fl:=0) (H:=[]) (f:=false) (c:=tP) (l:=aB)
  have aF : eS false 0 0 []:=trivial
  obtain ⟨aD,aG,h⟩:=dQ h
  have aH:=tA n aB n 0 0 _ aG
  obtain ⟨aQ,aI,h⟩:=dQ h
  have aJ:=pQ aI
  obtain ⟨aC,aK,h⟩:=dQ h
  have aL : evF PP T n 0 82 [(.lit nilS),(iv aD)] []=some ((.ms 0 aC.length 0 0),[(.blk 2 (List.map dW aC))]):=by rw [aJ]; exact aX0 [] (by omega) aK
  have aM:=nP (P:=PP) (cf:=evF PP T n) (fl:=0) (H:=[(.blk 2 (List.map dW aC))]) (f:=false) (c:=tP) (l:=aB)
  have aN : eS false 0 1 [(.blk 2 (List.map dW aC))]:=trivial
  obtain ⟨aA,aO,h⟩:=dQ h
  have aP:=sZ n aB n aC 0 0 _ aO
  obtain rfl:=si h
  refine aFd (iT F58 (qp aP<|qp aN<|qb 26 aM<|qc 24 aL<|qp aH<|qp aF<|qb 10 aE<|q0) [((.exit 0),nK aB aD),((.exit 2),nJ aB aA.1 aA.2)] [] (r:=(.ms 0 aA.1.length 0 aA.2)) (H':=[(.blk 2 (List.map dW aA.1))])) ?_
  show (jX [(.blk 2 (List.map dW aA.1))] 0 (.ms 0 aA.1.length 0 aA.2))=_
  rw [aV3 (H:=[(.blk 2 (List.map dW aA.1))]) (id:=0) (s:=2) (c:=dW) (l:=aA.1) (k:=aA.2) rfl (aG9 _ _ _)]
  first | done | rfl
def aLz (aA : GPlan) (aB : (GArc × Bool)) (aC : (GNode × Bool)) (aD : (GNode × Bool)) : St:=⟨sp 52 [(6,(.ptr 1 1 0 0)),(7,bt),(8,(.ptr 2 1 0 0)),(9,bt),(10,(.ptr 3 1 0 0)),(11,bt)],[(.blk 3 [[(.vw (List.map dP aA.Nodes)),(.vw (List.map dR aA.Arcs)),(.vw (List.map dS aA.Faces))]]),(.blk 6 [(dR aB.1)]),(.blk 3 [(dP aC.1)]),(.blk 3 [(dP aD.1)])]⟩
def aAe (aA : GPlan) (aB : (GArc × Bool)) (aC : (GNode × Bool)) (aD : (GNode × Bool)) : St:=⟨sp 52 [(6,(.ptr 1 1 0 0)),(8,(.ptr 2 1 0 0)),(10,(.ptr 3 1 0 0)),(41,bf)],[(.blk 3 [[(.vw (List.map dP aA.Nodes)),(.vw (List.map dR aA.Arcs)),(.vw (List.map dS aA.Faces))]]),(.blk 6 [(dR aB.1)]),(.blk 3 [(dP aC.1)]),(.blk 3 [(dP aD.1)])]⟩
def aD2 (n : Nat) (aA : GPlan) (aB : (GArc × Bool)) (aC : (GNode × Bool)) (aD : (GNode × Bool)) : Option Unit:=(some ())
theorem aKg (n : Nat) (aA : GPlan) (aB : (GArc × Bool)) (aC : (GNode × Bool)) (aD : (GNode × Bool)) (r : Unit) (h : aD2 n aA aB aC aD=some r) : eT lv19 lv15 false 0 4 (evC PP (evF PP T n) n 0 aOl (aLz aA aB aC aD))=some (.normal,aAe aA aB aC aD):=by
 unfold aD2 at h
 obtain rfl:=si h
 exact dY (aAe aA aB aC aD) q0 [] []
def aJf (aA : GPlan) (aB : (GArc × Bool)) (aC : (GNode × Bool)) (aD : (GNode × Bool)) : St:=⟨sp 52 [(6,(.ptr 1 1 0 0)),(7,bt),(8,(.ptr 2 1 0 0)),(9,bt),(10,(.ptr 3 1 0 0)),(11,bf)],[(.blk 3 [[(.vw (List.map dP aA.Nodes)),(.vw (List.map dR aA.Arcs)),(.vw (List.map dS aA.Faces))]]),(.blk 6 [(dR aB.1)]),(.blk 3 [(dP aC.1)]),(.blk 3 [(dP aD.1)])]⟩
def xA (aA : GPlan) (aB : (GArc × Bool)) (aC : (GNode × Bool)) (aD : (GNode × Bool)) : St:=⟨sp 52 [(6,(.ptr 1 1 0 0)),(8,(.ptr 2 1 0 0)),(10,(.ptr 3 1 0 0)),(41,bt)],[(.blk 3 [[(.vw (List.map dP aA.Nodes)),(.vw (List.map dR aA.Arcs)),(.vw (List.map dS aA.Faces))]]),(.blk 6 [(dR aB.1)]),(.blk 3 [(dP aC.1)]),(.blk 3 [(dP aD.1)])]⟩
def aBi (n : Nat) (aA : GPlan) (aB : (GArc × Bool)) (aC : (GNode × Bool)) (aD : (GNode × Bool)) : Option Unit:=(some ())
theorem aHz (n : Nat) (aA : GPlan) (aB : (GArc × Bool)) (aC : (GNode × Bool)) (aD : (GNode × Bool)) (r : Unit) (h : aBi n aA aB aC aD=some r) : eT lv19 lv15 false 0 4 (evC PP (evF PP T n) n 0 aOl (aJf aA aB aC aD))=some (.normal,xA aA aB aC aD):=by
 unfold aBi at h
 obtain rfl:=si h
 exact dY (xA aA aB aC aD) q0 [] []
def aJe (aA : GPlan) (aB : (GArc × Bool)) (aC : (GNode × Bool)) (aD : (GNode × Bool)) : St:=⟨sp 52 [(6,(.ptr 1 1 0 0)),(7,bt),(8,(.ptr 2 1 0 0)),(9,bf),(10,(.ptr 3 1 0 0)),(11,bt)],[(.blk 3 [[(.vw (List.map dP aA.Nodes)),(.vw (List.map dR aA.Arcs)),(.vw (List.map dS aA.Faces))]]),(.blk 6 [(dR aB.1)]),(.blk 3 [(dP aC.1)]),(.blk 3 [(dP aD.1)])]⟩
def wZ (aA : GPlan) (aB : (GArc × Bool)) (aC : (GNode × Bool)) (aD : (GNode × Bool)) : St:=⟨sp 52 [(6,(.ptr 1 1 0 0)),(8,(.ptr 2 1 0 0)),(10,(.ptr 3 1 0 0)),(41,bt)],[(.blk 3 [[(.vw (List.map dP aA.Nodes)),(.vw (List.map dR aA.Arcs)),(.vw (List.map dS aA.Faces))]]),(.blk 6 [(dR aB.1)]),(.blk 3 [(dP aC.1)]),(.blk 3 [(dP aD.1)])]⟩
def aBh (n : Nat) (aA : GPlan) (aB : (GArc × Bool)) (aC : (GNode × Bool)) (aD : (GNode × Bool)) : Option Unit:=(some ())
theorem aHy (n : Nat) (aA : GPlan) (aB : (GArc × Bool)) (aC : (GNode × Bool)) (aD : (GNode × Bool)) (r : Unit) (h : aBh n aA aB aC aD=some r) : eT lv19 lv15 false 0 4 (evC PP (evF PP T n) n 0 aOl (aJe aA aB aC aD))=some (.normal,wZ aA aB aC aD):=by
 unfold aBh at h
 obtain rfl:=si h
 exact dY (wZ aA aB aC aD) q0 [] []
def aJd (aA : GPlan) (aB : (GArc × Bool)) (aC : (GNode × Bool)) (aD : (GNode × Bool)) : St:=⟨sp 52 [(6,(.ptr 1 1 0 0)),(7,bt),(8,(.ptr 2 1 0 0)),(9,bf),(10,(.ptr 3 1 0 0)),(11,bf)],[(.blk 3 [[(.vw (List.map dP aA.Nodes)),(.vw (List.map dR aA.Arcs)),(.vw (List.map dS aA.Faces))]]),(.blk 6 [(dR aB.1)]),(.blk 3 [(dP aC.1)]),(.blk 3 [(dP aD.1)])]⟩
def wY (aA : GPlan) (aB : (GArc × Bool)) (aC : (GNode × Bool)) (aD : (GNode × Bool)) : St:=⟨sp 52 [(6,(.ptr 1 1 0 0)),(8,(.ptr 2 1 0 0)),(10,(.ptr 3 1 0 0)),(41,bt)],[(.blk 3 [[(.vw (List.map dP aA.Nodes)),(.vw (List.map dR aA.Arcs)),(.vw (List.map dS aA.Faces))]]),(.blk 6 [(dR aB.1)]),(.blk 3 [(dP aC.1)]),(.blk 3 [(dP aD.1)])]⟩
def aBg (n : Nat) (aA : GPlan) (aB : (GArc × Bool)) (aC : (GNode × Bool)) (aD : (GNode × Bool)) : Option Unit:=(some ())
theorem aHx (n : Nat) (aA : GPlan) (aB : (GArc × Bool)) (aC : (GNode × Bool)) (aD : (GNode × Bool)) (r : Unit) (h : aBg n aA aB aC aD=some r) : eT lv19 lv15 false 0 4 (evC PP (evF PP T n) n 0 aOl (aJd aA aB aC aD))=some (.normal,wY aA aB aC aD):=by
 unfold aBg at h
 obtain rfl:=si h
 exact dY (wY aA aB aC aD) q0 [] []
def aJc (aA : GPlan) (aB : (GArc × Bool)) (aC : (GNode × Bool)) (aD : (GNode × Bool)) : St:=⟨sp 52 [(6,(.ptr 1 1 0 0)),(7,bf),(8,(.ptr 2 1 0 0)),(9,bt),(10,(.ptr 3 1 0 0)),(11,bt)],[(.blk 3 [[(.vw (List.map dP aA.Nodes)),(.vw (List.map dR aA.Arcs)),(.vw (List.map dS aA.Faces))]]),(.blk 6 [(dR aB.1)]),(.blk 3 [(dP aC.1)]),(.blk 3 [(dP aD.1)])]⟩
def wX (aA : GPlan) (aB : (GArc × Bool)) (aC : (GNode × Bool)) (aD : (GNode × Bool)) : St:=⟨sp 52 [(6,(.ptr 1 1 0 0)),(8,(.ptr 2 1 0 0)),(10,(.ptr 3 1 0 0)),(41,bt)],[(.blk 3 [[(.vw (List.map dP aA.Nodes)),(.vw (List.map dR aA.Arcs)),(.vw (List.map dS aA.Faces))]]),(.blk 6 [(dR aB.1)]),(.blk 3 [(dP aC.1)]),(.blk 3 [(dP aD.1)])]⟩
def aBf (n : Nat) (aA : GPlan) (aB : (GArc × Bool)) (aC : (GNode × Bool)) (aD : (GNode × Bool)) : Option Unit:=(some ())
theorem aHw (n : Nat) (aA : GPlan) (aB : (GArc × Bool)) (aC : (GNode × Bool)) (aD : (GNode × Bool)) (r : Unit) (h : aBf n aA aB aC aD=some r) : eT lv19 lv15 false 0 4 (evC PP (evF PP T n) n 0 aOl (aJc aA aB aC aD))=some (.normal,wX aA aB aC aD):=by
 unfold aBf at h
 obtain rfl:=si h
 exact dY (wX aA aB aC aD) q0 [] []
def aJb (aA : GPlan) (aB : (GArc × Bool)) (aC : (GNode × Bool)) (aD : (GNode × Bool)) : St:=⟨sp 52 [(6,(.ptr 1 1 0 0)),(7,bf),(8,(.ptr 2 1 0 0)),(9,bt),(10,(.ptr 3 1 0 0)),(11,bf)],[(.blk 3 [[(.vw (List.map dP aA.Nodes)),(.vw (List.map dR aA.Arcs)),(.vw (List.map dS aA.Faces))]]),(.blk 6 [(dR aB.1)]),(.blk 3 [(dP aC.1)]),(.blk 3 [(dP aD.1)])]⟩
def wW (aA : GPlan) (aB : (GArc × Bool)) (aC : (GNode × Bool)) (aD : (GNode × Bool)) : St:=⟨sp 52 [(6,(.ptr 1 1 0 0)),(8,(.ptr 2 1 0 0)),(10,(.ptr 3 1 0 0)),(41,bt)],[(.blk 3 [[(.vw (List.map dP aA.Nodes)),(.vw (List.map dR aA.Arcs)),(.vw (List.map dS aA.Faces))]]),(.blk 6 [(dR aB.1)]),(.blk 3 [(dP aC.1)]),(.blk 3 [(dP aD.1)])]⟩
def aBe (n : Nat) (aA : GPlan) (aB : (GArc × Bool)) (aC : (GNode × Bool)) (aD : (GNode × Bool)) : Option Unit:=(some ())
theorem aHv (n : Nat) (aA : GPlan) (aB : (GArc × Bool)) (aC : (GNode × Bool)) (aD : (GNode × Bool)) (r : Unit) (h : aBe n aA aB aC aD=some r) : eT lv19 lv15 false 0 4 (evC PP (evF PP T n) n 0 aOl (aJb aA aB aC aD))=some (.normal,wW aA aB aC aD):=by
 unfold aBe at h
 obtain rfl:=si h
 exact dY (wW aA aB aC aD) q0 [] []
def aJa (aA : GPlan) (aB : (GArc × Bool)) (aC : (GNode × Bool)) (aD : (GNode × Bool)) : St:=⟨sp 52 [(6,(.ptr 1 1 0 0)),(7,bf),(8,(.ptr 2 1 0 0)),(9,bf),(10,(.ptr 3 1 0 0)),(11,bt)],[(.blk 3 [[(.vw (List.map dP aA.Nodes)),(.vw (List.map dR aA.Arcs)),(.vw (List.map dS aA.Faces))]]),(.blk 6 [(dR aB.1)]),(.blk 3 [(dP aC.1)]),(.blk 3 [(dP aD.1)])]⟩
def wV (aA : GPlan) (aB : (GArc × Bool)) (aC : (GNode × Bool)) (aD : (GNode × Bool)) : St:=⟨sp 52 [(6,(.ptr 1 1 0 0)),(8,(.ptr 2 1 0 0)),(10,(.ptr 3 1 0 0)),(41,bt)],[(.blk 3 [[(.vw (List.map dP aA.Nodes)),(.vw (List.map dR aA.Arcs)),(.vw (List.map dS aA.Faces))]]),(.blk 6 [(dR aB.1)]),(.blk 3 [(dP aC.1)]),(.blk 3 [(dP aD.1)])]⟩
def aBd (n : Nat) (aA : GPlan) (aB : (GArc × Bool)) (aC : (GNode × Bool)) (aD : (GNode × Bool)) : Option Unit:=(some ())
theorem aHu (n : Nat) (aA : GPlan) (aB : (GArc × Bool)) (aC : (GNode × Bool)) (aD : (GNode × Bool)) (r : Unit) (h : aBd n aA aB aC aD=some r) : eT lv19 lv15 false 0 4 (evC PP (evF PP T n) n 0 aOl (aJa aA aB aC aD))=some (.normal,wV aA aB aC aD):=by
 unfold aBd at h
 obtain rfl:=si h
 exact dY (wV aA aB aC aD) q0 [] []
def aI9 (aA : GPlan) (aB : (GArc × Bool)) (aC : (GNode × Bool)) (aD : (GNode × Bool)) : St:=⟨sp 52 [(6,(.ptr 1 1 0 0)),(7,bf),(8,(.ptr 2 1 0 0)),(9,bf),(10,(.ptr 3 1 0 0)),(11,bf)],[(.blk 3 [[(.vw (List.map dP aA.Nodes)),(.vw (List.map dR aA.Arcs)),(.vw (List.map dS aA.Faces))]]),(.blk 6 [(dR aB.1)]),(.blk 3 [(dP aC.1)]),(.blk 3 [(dP aD.1)])]⟩
def wU (aA : GPlan) (aB : (GArc × Bool)) (aC : (GNode × Bool)) (aD : (GNode × Bool)) : St:=⟨sp 52 [(6,(.ptr 1 1 0 0)),(8,(.ptr 2 1 0 0)),(10,(.ptr 3 1 0 0)),(41,bt)],[(.blk 3 [[(.vw (List.map dP aA.Nodes)),(.vw (List.map dR aA.Arcs)),(.vw (List.map dS aA.Faces))]]),(.blk 6 [(dR aB.1)]),(.blk 3 [(dP aC.1)]),(.blk 3 [(dP aD.1)])]⟩
def aBc (n : Nat) (aA : GPlan) (aB : (GArc × Bool)) (aC : (GNode × Bool)) (aD : (GNode × Bool)) : Option Unit:=(some ())
theorem aHt (n : Nat) (aA : GPlan) (aB : (GArc × Bool)) (aC : (GNode × Bool)) (aD : (GNode × Bool)) (r : Unit) (h : aBc n aA aB aC aD=some r) : eT lv19 lv15 false 0 4 (evC PP (evF PP T n) n 0 aOl (aI9 aA aB aC aD))=some (.normal,wU aA aB aC aD):=by
 unfold aBc at h
 obtain rfl:=si h
 exact dY (wU aA aB aC aD) q0 [] []
def aAf : Nat→GPlan→Int→Option ((List GPoint) × Int)
 | 0,_,_=>none
 | n + 1,aB,aI=>(bnd (aGt n aB aI) fun aA=>(cnd (aA.2) (bnd (tF n aB aA.1.From) fun aC=>(cnd (aC.2) (bnd (tF n aB aA.1.To) fun aE=>(cnd (aE.2) (bnd (aD2 n aB aA aC aE) fun aK=>(bnd (oZ n [[aC.1.At],aA.1.Via,[aE.1.At]]) fun aJ=>(some (aJ,0)))) (bnd (aBi n aB aA aC aE) fun aL=>(some ([],7))))) (bnd (tF n aB aA.1.To) fun aF=>(cnd (aF.2) (bnd (aBh n aB aA aC aF) fun aM=>(some ([],7))) (bnd (aBg n aB aA aC aF) fun aN=>(some ([],7))))))) (bnd (tF n aB aA.1.From) fun aD=>(cnd (aD.2) (bnd (tF n aB aA.1.To) fun aG=>(cnd (aG.2) (bnd (aBf n aB aA aD aG) fun aO=>(some ([],7))) (bnd (aBe n aB aA aD aG) fun aP=>(some ([],7))))) (bnd (tF n aB aA.1.To) fun aH=>(cnd (aH.2) (bnd (aBd n aB aA aD aH) fun aQ=>(some ([],7))) (bnd (aBc n aB aA aD aH) fun aR=>(some ([],7)))))))))
theorem aA1 (n : Nat) (aA : GPlan) (aF : Int) (r : ((List GPoint) × Int)) (h : aAf n aA aF=some r) : pv PP T n 37 [(kU aA),(iv aF)]=some (.tup [(.sl false (List.map dW r.1)),(iv r.2)]):=by
 cases n with
 | zero=>cases h
 | succ n =>
  rw [aAf] at h
  obtain ⟨aB,aS,h⟩:=dQ h
  rcases cn h with ⟨aL,ad,h⟩ | ⟨aL,ad,h⟩
  rotate_left
  ·have aG:=by have q:=aCo n aA aF _ aS; rw [aL] at q; exact q
   obtain ⟨aD,aT,h⟩:=dQ h
   rcases cn h with ⟨aM,ae,h⟩ | ⟨aM,ae,h⟩
   ·have aU:=by have q:=jB n aA aB.1.From _ aT; rw [aM] at q; exact q
    obtain ⟨aH,aV,h⟩:=dQ h
    rcases cn h with ⟨aN,af,h⟩ | ⟨aN,af,h⟩
    ·have ag:=by have q:=jB n aA aB.1.To _ aV; rw [aN] at q; exact q
     obtain ⟨bM,ah,h⟩:=dQ h
     have ai:=aHw n aA aB aD aH _ ah
     obtain rfl:=si h
     exact pv_q F37 (qp ai<|qa 29 ag<|qa 22 aU<|qa 15 aG<|q0) [(.normal,wX aA aB aD aH)] [none,none,none]
    have aj:=by have q:=jB n aA aB.1.To _ aV; rw [aN] at q; exact q
    obtain ⟨bN,ak,h⟩:=dQ h
    have al:=aHv n aA aB aD aH _ ak
    obtain rfl:=si h
    exact pv_q F37 (qp al<|qa 29 aj<|qa 22 aU<|qa 15 aG<|q0) [(.normal,wW aA aB aD aH)] [none,none,none]
   have aW:=by have q:=jB n aA aB.1.From _ aT; rw [aM] at q; exact q
   obtain ⟨aI,aX,h⟩:=dQ h
   rcases cn h with ⟨aO,am,h⟩ | ⟨aO,am,h⟩
   ·have an:=by have q:=jB n aA aB.1.To _ aX; rw [aO] at q; exact q
    obtain ⟨bO,ao,h⟩:=dQ h
    have ap:=aHu n aA aB aD aI _ ao
    obtain rfl:=si h
    exact pv_q F37 (qp ap<|qa 29 an<|qa 22 aW<|qa 15 aG<|q0) [(.normal,wV aA aB aD aI)] [none,none,none]
   have aq:=by have q:=jB n aA aB.1.To _ aX; rw [aO] at q; exact q
   obtain ⟨bP,ar,h⟩:=dQ h
   have au:=aHt n aA aB aD aI _ ar
   obtain rfl:=si h
   exact pv_q F37 (qp au<|qa 29 aq<|qa 22 aW<|qa 15 aG<|q0) [(.normal,wU aA aB aD aI)] [none,none,none]
  have aJ:=by have q:=aCo n aA aF _ aS; rw [aL] at q; exact q
  obtain ⟨aC,aY,h⟩:=dQ h
  rcases cn h with ⟨aP,av,h⟩ | ⟨aP,av,h⟩
  rotate_left
  ·have aZ:=by have q:=jB n aA aB.1.From _ aY; rw [aP] at q; exact q
   obtain ⟨aK,aa,h⟩:=dQ h
   rcases cn h with ⟨aQ,aw,h⟩ | ⟨aQ,aw,h⟩
   ·have ax:=by have q:=jB n aA aB.1.To _ aa; rw [aQ] at q; exact q
    obtain ⟨bQ,ay,h⟩:=dQ h
    have az:=aHy n aA aB aC aK _ ay
    obtain rfl:=si h
    exact pv_q F37 (qp az<|qa 29 ax<|qa 22 aZ<|qa 15 aJ<|q0) [(.normal,wZ aA aB aC aK)] [none,none,none]
   have bA:=by have q:=jB n aA aB.1.To _ aa; rw [aQ] at q; exact q
   obtain ⟨bR,bB,h⟩:=dQ h
   have bC:=aHx n aA aB aC aK _ bB
   obtain rfl:=si h
   exact pv_q F37 (qp bC<|qa 29 bA<|qa 22 aZ<|qa 15 aJ<|q0) [(.normal,wY aA aB aC aK)] [none,none,none]
  have ab:=by have q:=jB n aA aB.1.From _ aY; rw [aP] at q; exact q
  obtain ⟨aE,ac,h⟩:=dQ h
  rcases cn h with ⟨aR,bD,h⟩ | ⟨aR,bD,h⟩
  rotate_left
  ·have bE:=by have q:=jB n aA aB.1.To _ ac; rw [aR] at q; exact q
   obtain ⟨bS,bF,h⟩:=dQ h
   have bG:=aHz n aA aB aC aE _ bF
   obtain rfl:=si h
   exact pv_q F37 (qp bG<|qa 29 bE<|qa 22 ab<|qa 15 aJ<|q0) [(.normal,xA aA aB aC aE)] [none,none,none]
  have bH:=by have q:=jB n aA aB.1.To _ ac; rw [aR] at q; exact q
  obtain ⟨bT,bI,h⟩:=dQ h
  have bJ:=aKg n aA aB aC aE _ bI
  obtain ⟨bU,bK,h⟩:=dQ h
  have bL:=aDg n [[aC.1.At],aB.1.Via,[aE.1.At]] _ bK
  obtain rfl:=si h
  exact pv_q F37 (qa 51 bL<|qp bJ<|qa 29 bH<|qa 22 ab<|qa 15 aJ<|q0) [(.normal,aAe aA aB aC aE)] [none,none,none]
abbrev hp12 (aA : GPlan) : Heap:=[(.blk 3 [[(.vw (List.map dP aA.Nodes)),(.vw (List.map dR aA.Arcs)),(.vw (List.map dS aA.Faces))]]),(.blk 2 (List.map dV []))]
def vP (aA : GPlan) (aB : (List Gsegment)) (aC : Int) : St:=⟨sp 67 [(1,(.ptr 0 1 0 0)),(2,(.ms 1 aB.length 0 aB.length)),(11,(.vw (List.map dR aA.Arcs))),(12,(iv ((aA.Arcs.length : Nat) : Int))),(13,(iv aC))],[(.blk 3 [[(.vw (List.map dP aA.Nodes)),(.vw (List.map dR aA.Arcs)),(.vw (List.map dS aA.Faces))]]),(.blk 2 (List.map dV aB))]⟩
theorem aGs (aA : GPlan) (aB : (List Gsegment)) (aC : Int) : eS true 0 2 (vP aA aB aC).heap:=(by exact (clo rfl (clo (hU (eI 2)) rfl)))
def uN (aA : GPlan) (aB : Int) (aC : Int) (aD : Int) (aE : (List GPoint)) (aF : Int) (aG : Int) (aH : (List Gsegment)) : St:=⟨sp 67 [(2,(.ms 3 0 0 0)),(3,bf)],[(.blk 3 [[(.vw (List.map dP aA.Nodes)),(.vw (List.map dR aA.Arcs)),(.vw (List.map dS aA.Faces))]]),(.blk 2 (List.map dV aH)),(.blk 6 [[(iv aB),(iv aC),(iv aD),(.sl false (List.map dW aE)),(iv aF),(iv aG)]]),(.blk 2 (List.map dV []))]⟩
def uM (aA : GPlan) (aB : Int) (aC : Int) (aD : Int) (aE : (List GPoint)) (aF : Int) (aG : Int) (aH : Int) (aI : Int) (aJ : Int) (aK : (List GPoint)) (aL : Int) (aM : Int) (aN : (List GPoint)) (aO : (List Gsegment)) : St:=⟨sp 67 [(2,(.ms 4 0 0 0)),(3,bf)],[(.blk 3 [[(.vw (List.map dP aA.Nodes)),(.vw (List.map dR aA.Arcs)),(.vw (List.map dS aA.Faces))]]),(.blk 2 (List.map dV aO)),(.blk 6 [[(iv aB),(iv aC),(iv aD),(.sl false (List.map dW aE)),(iv aF),(iv aG)]]),(.blk 7 [[(iv aH),(iv aI),(iv aJ),(.sl false (List.map dW aK)),(iv aL),(iv aM),(.sl false (List.map dW aN))],[U,U,U,U,U,U,U]]),(.blk 2 (List.map dV []))]⟩
def uL (aA : GPlan) (aB : (List Gsegment)) : St:=⟨sp 67 [(2,(.ms 1 aB.length 0 aB.length))],[(.blk 3 [[(.vw (List.map dP aA.Nodes)),(.vw (List.map dR aA.Arcs)),(.vw (List.map dS aA.Faces))]]),(.blk 2 (List.map dV aB))]⟩
abbrev hp13 (aA : GPlan) (aB : (List Gsegment)) : Heap:=[(.blk 3 [[(.vw (List.map dP aA.Nodes)),(.vw (List.map dR aA.Arcs)),(.vw (List.map dS aA.Faces))]]),(.blk 2 (List.map dV aB))]
def aGq (aB : (List Gsegment)) (aC : ((List GPoint) × Int)) (aA : GPlan) (aD : Int) (aE : GArc) : St:=⟨sp 67 [(1,(.ptr 0 1 0 0)),(2,(.ms 1 aB.length 0 aB.length)),(5,(.ptr 2 1 0 0)),(6,(.sl false (List.map dW aC.1))),(7,(iv aC.2)),(11,(.vw (List.map dR aA.Arcs))),(12,(iv ((aA.Arcs.length : Nat) : Int))),(13,(iv aD))],[(.blk 3 [[(.vw (List.map dP aA.Nodes)),(.vw (List.map dR aA.Arcs)),(.vw (List.map dS aA.Faces))]]),(.blk 2 (List.map dV aB)),(.blk 6 [(dR aE)])]⟩
def iN (aB : (List Gsegment)) (aC : ((List GPoint) × Int)) (aA : GPlan) (aD : Int) (aE : GArc) (aF : Bool) : St:=⟨sp 67 [(1,(.ptr 0 1 0 0)),(2,(.ms 1 aB.length 0 aB.length)),(5,(.ptr 2 1 0 0)),(6,(.sl false (List.map dW aC.1))),(11,(.vw (List.map dR aA.Arcs))),(12,(iv ((aA.Arcs.length : Nat) : Int))),(13,(iv aD)),(37,(bv aF))],[(.blk 3 [[(.vw (List.map dP aA.Nodes)),(.vw (List.map dR aA.Arcs)),(.vw (List.map dS aA.Faces))]]),(.blk 2 (List.map dV aB)),(.blk 6 [(dR aE)])]⟩
abbrev hp14 (aA : GPlan) (aB : (List Gsegment)) (aC : GArc) : Heap:=[(.blk 3 [[(.vw (List.map dP aA.Nodes)),(.vw (List.map dR aA.Arcs)),(.vw (List.map dS aA.Faces))]]),(.blk 2 (List.map dV aB)),(.blk 6 [(dR aC)])]
def tU (n : Nat) (aC : (List Gsegment)) (aA : ((List GPoint) × Int)) (aD : GPlan) (aE : Int) (aB : GArc) : Option Bool:=(cnd (aA.2 != 0) (some true) (cnd (aB.From == aB.To) (cnd (decide (((aA.1.length : Nat) : Int) < 4)) (some true) (some false)) (some false)))
theorem aAb (n : Nat) (aA : (List Gsegment)) (aB : ((List GPoint) × Int)) (aC : GPlan) (aE : Int) (aD : GArc) (r : Bool) (h : tU n aA aB aC aE aD=some r) : eT lv21 [false,false,true,true] false 0 3 (evC PP (evF PP T n) n 0 bHd (aGq aA aB aC aE aD))=some (.normal,iN aA aB aC aE aD r):=by
 unfold tU at h
 rcases cn h with ⟨aJ,aF,h⟩ | ⟨aJ,aF,h⟩
 ·obtain rfl:=si h
  exact dY (iN aA aB aC aE aD true) (qa 25 aF<|q0) [] []
 rcases cn h with ⟨aK,aG,h⟩ | ⟨aK,aG,h⟩
 rotate_left
 ·obtain rfl:=si h
  exact dY (iN aA aB aC aE aD false) (qa 31 aG<|qa 25 aF<|q0) [] []
 have aI:=nP (P:=PP) (cf:=evF PP T n) (fl:=0) (H:=(hp14 aC aA aD)) (f:=false) (c:=dW) (l:=aB.1)
 rcases cn h with ⟨aL,aH,h⟩ | ⟨aL,aH,h⟩
 ·obtain rfl:=si h
  exact dY (iN aA aB aC aE aD true) (qa 35 aH<|qb 34 aI<|qa 31 aG<|qa 25 aF<|q0) [] []
 obtain rfl:=si h
 exact dY (iN aA aB aC aE aD false) (qa 35 aH<|qb 34 aI<|qa 31 aG<|qa 25 aF<|q0) [] []
abbrev hp15 (aB : GPlan) (aC : (List Gsegment)) (aA : GArc) (aD : ((List GPoint) × Int)) : Heap:=[(.blk 3 [[(.vw (List.map dP aB.Nodes)),(.vw (List.map dR aB.Arcs)),(.vw (List.map dS aB.Faces))]]),(.blk 2 (List.map dV aC)),(.blk 6 [(dR aA)]),(.blk 7 [[(iv aA.ID),(iv aA.From),(iv aA.To),(.sl false (List.map dW aA.Via)),(iv aA.Left),(iv aA.Right),(.sl false (List.map dW aD.1))],[U,U,U,U,U,U,U]])]
def vO (aC : ((List GPoint) × Int)) (aA : GArc) (aB : GPlan) (aE : Int) (aD : (List Gsegment)) (aF : Int) : St:=⟨sp 67 [(1,(.ptr 0 1 0 0)),(2,(.ms 1 aD.length 0 aD.length)),(6,(.sl false (List.map dW aC.1))),(8,(.sptr (eA (Gline.mk aA aC.1)))),(11,(.vw (List.map dR aB.Arcs))),(12,(iv ((aB.Arcs.length : Nat) : Int))),(13,(iv aE)),(44,(iv (IntKind.i64.wrap (((aC.1.length : Nat) : Int) - 1)))),(45,(iv aF))],[(.blk 3 [[(.vw (List.map dP aB.Nodes)),(.vw (List.map dR aB.Arcs)),(.vw (List.map dS aB.Faces))]]),(.blk 2 (List.map dV aD)),(.blk 6 [(dR aA)]),(.blk 7 [[(iv aA.ID),(iv aA.From),(iv aA.To),(.sl false (List.map dW aA.Via)),(iv aA.Left),(iv aA.Right),(.sl false (List.map dW aC.1))],[U,U,U,U,U,U,U]])]⟩
theorem aGr (aA : ((List GPoint) × Int)) (aB : GArc) (aC : GPlan) (aD : Int) (aE : (List Gsegment)) (aF : Int) : eS true 0 4 (vO aA aB aC aD aE aF).heap:=(by exact (clo rfl (clo (hU (eI 4)) (clo rfl (clo rfl rfl)))))
def uK (aC : ((List GPoint) × Int)) (aA : GArc) (aB : GPlan) (aE : Int) (aD : (List Gsegment)) : St:=⟨sp 67 [(2,(.ms 4 0 0 0)),(3,bf)],[(.blk 3 [[(.vw (List.map dP aB.Nodes)),(.vw (List.map dR aB.Arcs)),(.vw (List.map dS aB.Faces))]]),(.blk 2 (List.map dV aD)),(.blk 6 [(dR aA)]),(.blk 7 [[(iv aA.ID),(iv aA.From),(iv aA.To),(.sl false (List.map dW aA.Via)),(iv aA.Left),(iv aA.Right),(.sl false (List.map dW aC.1))],[U,U,U,U,U,U,U]]),(.blk 2 (List.map dV []))]⟩
def uJ (aD : ((List GPoint) × Int)) (aA : GArc) (aB : GPlan) (aE : Int) (aC : (List Gsegment)) : St:=⟨sp 67 [(1,(.ptr 0 1 0 0)),(2,(.ms 1 aC.length 0 aC.length)),(11,(.vw (List.map dR aB.Arcs))),(12,(iv ((aB.Arcs.length : Nat) : Int))),(13,(iv aE))],[(.blk 3 [[(.vw (List.map dP aB.Nodes)),(.vw (List.map dR aB.Arcs)),(.vw (List.map dS aB.Faces))]]),(.blk 2 (List.map dV aC)),(.blk 6 [(dR aA)]),(.blk 7 [[(iv aA.ID),(iv aA.From),(iv aA.To),(.sl false (List.map dW aA.Via)),(iv aA.Left),(iv aA.Right),(.sl false (List.map dW aD.1))],[U,U,U,U,U,U,U]])]⟩
abbrev hp16 (aB : GPlan) (aD : (List Gsegment)) (aA : GArc) (aC : ((List GPoint) × Int)) (aE : Int) : Heap:=[(.blk 3 [[(.vw (List.map dP aB.Nodes)),(.vw (List.map dR aB.Arcs)),(.vw (List.map dS aB.Faces))]]),(.blk 2 (List.map dV aD)),(.blk 6 [(dR aA)]),(.blk 7 [[(iv aA.ID),(iv aA.From),(iv aA.To),(.sl false (List.map dW aA.Via)),(iv aA.Left),(iv aA.Right),(.sl false (List.map dW aC.1))],[U,U,U,U,U,U,U]]),(.blk 2 [[(.sptr (eA (Gline.mk aA aC.1))),(iv aE)]])]
def pR (n : Nat) (aA : ((List GPoint) × Int)) (aD : GArc) (aE : GPlan) (aF : Int) : Nat→(List Gsegment)→Int→Option ((List Gsegment) ⊕ (List Gsegment))
 | 0,_,_=>none
 | m + 1,aC,aB=>(cnd (decide (aB < (IntKind.i64.wrap (((aA.1.length : Nat) : Int) - 1)))) (bnd (idx aA.1 aB) fun aG=>(bnd (idx aA.1 (IntKind.i64.wrap (aB + 1))) fun aH=>(cnd (decide (aG=aH)) (some (Sum.inl aC)) (bnd (app aC [(Gsegment.mk (Gline.mk aD aA.1) aB)]) fun aI=>(pR n aA aD aE aF m aI (IntKind.i64.wrap (aB + 1))))))) (some (Sum.inr aC)))
theorem uI (n : Nat) (aA : ((List GPoint) × Int)) (aB : GArc) (aC : GPlan) (aE : Int) : ∀ (m : Nat) (aD : (List Gsegment)) (aF : Int) (r : ((List Gsegment) ⊕ (List Gsegment))),pR n aA aB aC aE m aD aF=some r→eT lv20 [false,false,true,true] true 0 4 (eG (eO (some lv22) true 0 4) (evC PP (evF PP T n) n 0 bHc) m (vO aA aB aC aE aD aF))=(match r with | (.inl r)=>some (.ret,uK aA aB aC aE r) | (.inr r)=>some ((.exit 2),uJ aA aB aC aE r))
 | 0,_,_,_,h=>by cases h
 | m + 1,aD,aF,r,h=>by
  rw [pR] at h
  rcases cn h with ⟨aN,aG,h⟩ | ⟨aN,aG,h⟩
  rotate_left
  ·obtain rfl:=si h
   exact eQ (some lv22) true (uJ aA aB aC aE aD) (qa 46 aG<|q0) [] [] (by exact (clo rfl (clo (hU (eI 4)) (clo rfl (clo rfl rfl)))))
  obtain ⟨aI,aO,h⟩:=dQ h
  have aJ:=idxl (H:=(hp15 aC aD aB aA)) (f:=false) (c:=dW) aO (gW _)
  obtain ⟨aK,aP,h⟩:=dQ h
  have aL:=idxl (H:=(hp15 aC aD aB aA)) (f:=false) (c:=dW) aP (gW _)
  rcases cn h with ⟨aH,aQ,h⟩ | ⟨aH,aQ,h⟩
  ·have aR:=jC (cf:=evF PP T n) (fl:=0) (H:=(hp15 aC aD aB aA)) (a:=aI) (b:=aK) aH
   obtain rfl:=si h
   exact eQ (some lv22) true (uK aA aB aC aE aD) (qb 57 aR<|qa 55 aL<|qa 50 aJ<|qa 46 aG<|q0) [] [] trivial
  have aS:=jC (cf:=evF PP T n) (fl:=0) (H:=(hp15 aC aD aB aA)) (a:=aI) (b:=aK) aH
  obtain ⟨aM,aT,h⟩:=dQ h
  have aU:=bFm (bIt (H:=(hp16 aC aD aB aA aF)) (id:=4) (s:=2) (c:=dV) (l:=[(Gsegment.mk (Gline.mk aB aA.1) aF)]) rfl) (yN (fl:=0) (H:=(hp16 aC aD aB aA aF)) (id:=1) (s:=2) (bytes:=16) (c:=dV) (l:=aD) aT rfl xN (by omega) (by omega) (by omega))
  exact nx_q (vO aA aB aC aE aM (IntKind.i64.wrap (aF + 1))) (qc 63 aU<|qb 57 aS<|qa 55 aL<|qa 50 aJ<|qa 46 aG<|q0) [] [] (aGr _ _ _ _ _ _) (uI n aA aB aC aE m aM (IntKind.i64.wrap (aF + 1)) r h)
def pS (n : Nat) (aB : GPlan) : Nat→(List Gsegment)→Int→Option ((Int × Int × Int × (List GPoint) × Int × Int × (List Gsegment)) ⊕ ((Int × Int × Int × (List GPoint) × Int × Int × Int × Int × Int × (List GPoint) × Int × Int × (List GPoint) × (List Gsegment)) ⊕ (List Gsegment)))
 | 0,_,_=>none
 | m + 1,aD,aC=>(cnd (decide (aC < ((aB.Arcs.length : Nat) : Int))) (bnd (idx aB.Arcs aC) fun aA=>(bnd (aAf n aB aA.ID) fun aE=>(bnd (tU n aD aE aB aC aA) fun aF=>(cnd (aF) (some (Sum.inl (aA.ID,aA.From,aA.To,aA.Via,aA.Left,aA.Right,aD))) (bnd2 (pR n aE aA aB aC n aD 0) (fun aG=>(some (Sum.inr (Sum.inl (aA.ID,aA.From,aA.To,aA.Via,aA.Left,aA.Right,aA.ID,aA.From,aA.To,aA.Via,aA.Left,aA.Right,aE.1,aG))))) (fun aH=>(pS n aB m aH (IntKind.i64.wrap (aC + 1))))))))) (some (Sum.inr (Sum.inr aD))))
theorem pE (n : Nat) (aB : GPlan) : ∀ (m : Nat) (aC : (List Gsegment)) (aD : Int) (r : ((Int × Int × Int × (List GPoint) × Int × Int × (List Gsegment)) ⊕ ((Int × Int × Int × (List GPoint) × Int × Int × Int × Int × Int × (List GPoint) × Int × Int × (List GPoint) × (List Gsegment)) ⊕ (List Gsegment)))),pS n aB m aC aD=some r→eT [false,false,true] [false,false,true,true] true 0 2 (eG (eO (some lv20) true 0 2) (evC PP (evF PP T n) n 0 bHe) m (vP aB aC aD))=(match r with | (.inl r)=>some (.ret,uN aB r.1 r.2.1 r.2.2.1 r.2.2.2.1 r.2.2.2.2.1 r.2.2.2.2.2.1 r.2.2.2.2.2.2) | (.inr (.inl r))=>some (.ret,uM aB r.1 r.2.1 r.2.2.1 r.2.2.2.1 r.2.2.2.2.1 r.2.2.2.2.2.1 r.2.2.2.2.2.2.1 r.2.2.2.2.2.2.2.1 r.2.2.2.2.2.2.2.2.1 r.2.2.2.2.2.2.2.2.2.1 r.2.2.2.2.2.2.2.2.2.2.1 r.2.2.2.2.2.2.2.2.2.2.2.1 r.2.2.2.2.2.2.2.2.2.2.2.2.1 r.2.2.2.2.2.2.2.2.2.2.2.2.2) | (.inr (.inr r))=>some ((.exit 0),uL aB r))
 | 0,_,_,_,h=>by cases h
 | m + 1,aC,aD,r,h=>by
  rw [pS] at h
  rcases cn h with ⟨aR,aG,h⟩ | ⟨aR,aG,h⟩
  rotate_left
  ·obtain rfl:=si h
   exact eQ (some lv20) true (uL aB aC) (qa 14 aG<|q0) [] [] (by exact (clo rfl (clo (hU (eI 2)) rfl)))
  obtain ⟨aA,aS,h⟩:=dQ h
  have aH:=idxv (H:=(hp13 aB aC)) (c:=dR) aS (lY _)
  obtain ⟨aE,aT,h⟩:=dQ h
  have aI:=aA1 n aB aA.ID _ aT
  obtain ⟨aV,aN,h⟩:=dQ h
  rcases cn h with ⟨aJ,aU,h⟩ | ⟨aJ,aU,h⟩
  ·have aF:=aAb n aC aE aB aD aA _ aN
   rw [aJ] at aF
   obtain rfl:=si h
   exact eQ (some lv20) true (uN aB aA.ID aA.From aA.To aA.Via aA.Left aA.Right aC) (qp aF<|qa 21 aI<|qa 15 aH<|qa 14 aG<|q0) [(.normal,iN aC aE aB aD aA true)] [none] trivial
  have aF:=aAb n aC aE aB aD aA _ aN
  rw [aJ] at aF
  have aO:=nP (P:=PP) (cf:=evF PP T n) (fl:=0) (H:=(hp15 aB aC aA aE)) (f:=false) (c:=dW) (l:=aE.1)
  have aP : eS true 0 4 [(.blk 3 [[(.vw (List.map dP aB.Nodes)),(.vw (List.map dR aB.Arcs)),(.vw (List.map dS aB.Faces))]]),(.blk 2 (List.map dV aC)),(.blk 6 [(dR aA)]),(.blk 7 [[(iv aA.ID),(iv aA.From),(iv aA.To),(.sl false (List.map dW aA.Via)),(iv aA.Left),(iv aA.Right),(.sl false (List.map dW aE.1))],[U,U,U,U,U,U,U]])]:=(by exact (clo rfl (clo (hU (eI 4)) (clo rfl (clo rfl rfl)))))
  rcases gF h with ⟨aQ,aK,h⟩ | ⟨aL,aK,h⟩
  rotate_left
  ·have aM:=uI n aE aA aB aD n aC 0 _ aK
   exact nx_q (vP aB aL (IntKind.i64.wrap (aD + 1))) (qp aM<|qp aP<|qb 43 aO<|qp aF<|qa 21 aI<|qa 15 aH<|qa 14 aG<|q0) [(.normal,iN aC aE aB aD aA false),((.exit 2),uJ aE aA aB aD aL)] [none] (aGs _ _ _) (pE n aB m aL (IntKind.i64.wrap (aD + 1)) r h)
  have aM:=uI n aE aA aB aD n aC 0 _ aK
  obtain rfl:=si h
  exact eQ (some lv20) true (uM aB aA.ID aA.From aA.To aA.Via aA.Left aA.Right aA.ID aA.From aA.To aA.Via aA.Left aA.Right aE.1 aQ) (qp aM<|qp aP<|qb 43 aO<|qp aF<|qa 21 aI<|qa 15 aH<|qa 14 aG<|q0) [(.normal,iN aC aE aB aD aA false),(.ret,uK aE aA aB aD aQ)] [none] trivial
abbrev hp17 (aB : GPlan) (aA : (Int × Int × Int × (List GPoint) × Int × Int × (List Gsegment))) : Heap:=[(.blk 3 [[(.vw (List.map dP aB.Nodes)),(.vw (List.map dR aB.Arcs)),(.vw (List.map dS aB.Faces))]]),(.blk 2 (List.map dV aA.2.2.2.2.2.2)),(.blk 6 [[(iv aA.1),(iv aA.2.1),(iv aA.2.2.1),(.sl false (List.map dW aA.2.2.2.1)),(iv aA.2.2.2.2.1),(iv aA.2.2.2.2.2.1)]]),(.blk 2 (List.map dV []))]
abbrev hp18 (aB : GPlan) (aA : (Int × Int × Int × (List GPoint) × Int × Int × Int × Int × Int × (List GPoint) × Int × Int × (List GPoint) × (List Gsegment))) : Heap:=[(.blk 3 [[(.vw (List.map dP aB.Nodes)),(.vw (List.map dR aB.Arcs)),(.vw (List.map dS aB.Faces))]]),(.blk 2 (List.map dV aA.2.2.2.2.2.2.2.2.2.2.2.2.2)),(.blk 6 [[(iv aA.1),(iv aA.2.1),(iv aA.2.2.1),(.sl false (List.map dW aA.2.2.2.1)),(iv aA.2.2.2.2.1),(iv aA.2.2.2.2.2.1)]]),(.blk 7 [[(iv aA.2.2.2.2.2.2.1),(iv aA.2.2.2.2.2.2.2.1),(iv aA.2.2.2.2.2.2.2.2.1),(.sl false (List.map dW aA.2.2.2.2.2.2.2.2.2.1)),(iv aA.2.2.2.2.2.2.2.2.2.2.1),(iv aA.2.2.2.2.2.2.2.2.2.2.2.1),(.sl false (List.map dW aA.2.2.2.2.2.2.2.2.2.2.2.2.1))],[U,U,U,U,U,U,U]]),(.blk 2 (List.map dV []))]
def zO : Nat→GPlan→Option ((List Gsegment) × Bool)
 | 0,_=>none
 | n + 1,aA=>(bnd2 (pS n aA n [] 0) (fun aD=>(some ([],false))) (fun aB=>(bnd2 (some aB) (fun aE=>(some ([],false))) (fun aC=>(some (aC,true))))))
theorem aB3 (n : Nat) (aA : GPlan) (r : ((List Gsegment) × Bool)) (h : zO n aA=some r) : pvK2 PP T n 2 70 [(kU aA)]=some (List.map dV r.1,(bv r.2)):=by
 cases n with
 | zero=>cases h
 | succ n =>
  rw [zO] at h
  have aG:=iM (P:=PP) (cf:=evF PP T n) (fl:=0) (H:=(hp12 aA)) (c:=dR) (l:=aA.Arcs)
  have aH : eS true 0 2 [(.blk 3 [[(.vw (List.map dP aA.Nodes)),(.vw (List.map dR aA.Arcs)),(.vw (List.map dS aA.Faces))]]),(.blk 2 (List.map dV []))]:=(by exact (clo rfl (clo (hU (eI 2)) rfl)))
  rcases gF h with ⟨aC,aF,h⟩ | ⟨aJ,aF,h⟩
  ·have aD:=pE n aA n [] 0 _ aF
   obtain rfl:=si h
   exact aRc (iT F70 (qp aD<|qp aH<|qb 12 aG<|q0) [(.ret,uN aA aC.1 aC.2.1 aC.2.2.1 aC.2.2.2.1 aC.2.2.2.2.1 aC.2.2.2.2.2.1 aC.2.2.2.2.2.2)] [] (r:=(.tup [(.ms 3 0 0 0),bf])) (H':=(hp17 aA aC))) (aNg (id:=3) (l:=([] : List Gsegment)) (c:=dV) rfl (aAt _ _ _))
  rcases gF h with ⟨aB,aI,h⟩ | ⟨aE,aI,h⟩
  rotate_left
  ·cases aI
   have aD:=pE n aA n [] 0 _ aF
   obtain rfl:=si h
   exact aRc (iT F70 (qp aD<|qp aH<|qb 12 aG<|q0) [((.exit 0),uL aA aE)] [] (r:=(.tup [(.ms 1 aE.length 0 aE.length),bt])) (H':=(hp13 aA aE))) (aNg (id:=1) (l:=aE) (c:=dV) rfl (aAt _ _ _))
  cases aI
  have aD:=pE n aA n [] 0 _ aF
  obtain rfl:=si h
  exact aRc (iT F70 (qp aD<|qp aH<|qb 12 aG<|q0) [(.ret,uM aA aB.1 aB.2.1 aB.2.2.1 aB.2.2.2.1 aB.2.2.2.2.1 aB.2.2.2.2.2.1 aB.2.2.2.2.2.2.1 aB.2.2.2.2.2.2.2.1 aB.2.2.2.2.2.2.2.2.1 aB.2.2.2.2.2.2.2.2.2.1 aB.2.2.2.2.2.2.2.2.2.2.1 aB.2.2.2.2.2.2.2.2.2.2.2.1 aB.2.2.2.2.2.2.2.2.2.2.2.2.1 aB.2.2.2.2.2.2.2.2.2.2.2.2.2)] [] (r:=(.tup [(.ms 4 0 0 0),bf])) (H':=(hp18 aA aB))) (aNg (id:=4) (l:=([] : List Gsegment)) (c:=dV) rfl (aAt _ _ _))
abbrev hp19 (aA : Gsegment) : Heap:=[(.blk 2 [[(.sptr (eA aA.line)),(iv aA.at_)]]),(.blk 2 [[(iv 0),(iv 0)]]),(.blk 2 [[(iv 0),(iv 0)]])]
def jI : Nat→Gsegment→Option (GPoint × GPoint)
 | 0,_=>none
 | n + 1,aA=>(bnd (idx aA.line.path aA.at_) fun aB=>(bnd (idx aA.line.path (IntKind.i64.wrap (aA.at_ + 1))) fun aC=>(some (aB,aC))))
theorem kY (n : Nat) (aA : Gsegment) (r : (GPoint × GPoint)) (h : jI n aA=some r) : pv PP T n 76 [(.agg (dV aA))]=some (.tup [(.agg (dW r.1)),(.agg (dW r.2))]):=by
 cases n with
 | zero=>cases h
 | succ n =>
  rw [jI] at h
  obtain ⟨aF,aB,h⟩:=dQ h
  have aC:=idxl (H:=(hp19 aA)) (f:=false) (c:=dW) aB (gW _)
  obtain ⟨aG,aD,h⟩:=dQ h
  have aE:=idxl (H:=(hp19 aA)) (f:=false) (c:=dW) aD (gW _)
  obtain rfl:=si h
  exact pv_q F76 (qa 21 aE<|qa 11 aC<|q0) [] [none,none]
abbrev hp20 (aB : Gsegment) (aA : (GPoint × GPoint)) : Heap:=[(.blk 2 [[(.sptr (eA aB.line)),(iv aB.at_)]]),(.blk 2 [[(iv aA.1.X),(iv aA.1.Y)]]),(.blk 2 [[(iv aA.2.X),(iv aA.2.Y)]])]
def lP : Nat→Gsegment→Option Int
 | 0,_=>none
 | n + 1,aB=>(bnd (jI n aB) fun aA=>(some (imin aA.1.X aA.2.X)))
theorem sH (n : Nat) (aA : Gsegment) (r : Int) (h : lP n aA=some r) : pv PP T n 73 [(.agg (dV aA))]=some (iv r):=by
 cases n with
 | zero=>cases h
 | succ n =>
  rw [lP] at h
  obtain ⟨aB,aC,h⟩:=dQ h
  have aD:=kY n aA _ aC
  have aE:=aWu (P:=PP) (cf:=evF PP T n) (fl:=0) (H:=(hp20 aA aB)) (a:=aB.1.X) (b:=aB.2.X)
  obtain rfl:=si h
  exact pv_q F73 (qb 14 aE<|qa 7 aD<|q0) [] [none,none]
def rM : Nat→Int→Option Bool
 | 0,_=>none
 | n + 1,aA=>(cnd (aA != aA) (some true) (some false))
theorem mR (n : Nat) (aB : Int) (r : Bool) (h : rM n aB=some r) : pv PP T n 45 [(iv aB)]=some (bv r):=by
 cases n with
 | zero=>cases h
 | succ n =>
  rw [rM] at h
  rcases cn h with ⟨aC,aA,h⟩ | ⟨aC,aA,h⟩
  ·obtain rfl:=si h
   exact pv_q F45 (qa 5 aA<|q0) [] []
  obtain rfl:=si h
  exact pv_q F45 (qa 5 aA<|q0) [] []
def rB : Nat→Int→Int→Option Int
 | 0,_,_=>none
 | n + 1,aB,aA=>(bnd (rM n aB) fun aC=>(cnd (aC) (bnd (rM n aA) fun aD=>(cnd (aD) (some 0) (some (-1)))) (bnd (rM n aA) fun aE=>(cnd (aE) (some 1) (cnd (decide (aB < aA)) (some (-1)) (cnd (decide (aB > aA)) (some 1) (some 0)))))))
theorem aA6 (n : Nat) (aB : Int) (aA : Int) (r : Int) (h : rB n aB aA=some r) : pv PP T n 31 [(iv aB),(iv aA)]=some (iv r):=by
 cases n with
 | zero=>cases h
 | succ n =>
  rw [rB] at h
  obtain ⟨aV,aJ,h⟩:=dQ h
  rcases cn h with ⟨aE,aN,h⟩ | ⟨aE,aN,h⟩
  ·have aK:=by have q:=mR n aB _ aJ; rw [aE] at q; exact q
   obtain ⟨aW,aL,h⟩:=dQ h
   rcases cn h with ⟨aF,aO,h⟩ | ⟨aF,aO,h⟩
   ·have aP:=by have q:=mR n aA _ aL; rw [aF] at q; exact q
    obtain rfl:=si h
    exact pv_q F31 (qa 10 aP<|qa 8 aK<|q0) [] []
   have aQ:=by have q:=mR n aA _ aL; rw [aF] at q; exact q
   obtain rfl:=si h
   exact pv_q F31 (qa 10 aQ<|qa 8 aK<|q0) [] []
  have aC:=by have q:=mR n aB _ aJ; rw [aE] at q; exact q
  obtain ⟨aX,aM,h⟩:=dQ h
  rcases cn h with ⟨aG,aR,h⟩ | ⟨aG,aR,h⟩
  ·have aS:=by have q:=mR n aA _ aM; rw [aG] at q; exact q
   obtain rfl:=si h
   exact pv_q F31 (qa 10 aS<|qa 8 aC<|q0) [] []
  have aH:=by have q:=mR n aA _ aM; rw [aG] at q; exact q
  rcases cn h with ⟨aT,aD,h⟩ | ⟨aT,aD,h⟩
  ·obtain rfl:=si h
   exact pv_q F31 (qa 16 aD<|qa 10 aH<|qa 8 aC<|q0) [] []
  rcases cn h with ⟨aU,aI,h⟩ | ⟨aU,aI,h⟩
  ·obtain rfl:=si h
   exact pv_q F31 (qa 19 aI<|qa 16 aD<|qa 10 aH<|qa 8 aC<|q0) [] []
  obtain rfl:=si h
  exact pv_q F31 (qa 19 aI<|qa 16 aD<|qa 10 aH<|qa 8 aC<|q0) [] []
def pV : Nat→Gsegment→Gsegment→Option Int
 | 0,_,_=>none
 | n + 1,aA,aB=>(bnd (lP n aA) fun aC=>(bnd (lP n aB) fun aD=>(bnd (rB n aC aD) fun aE=>(some aE))))
theorem aHr (n : Nat) (aA : Gsegment) (aB : Gsegment) (r : Int) (h : pV n aA aB=some r) : pv PP T n 72 [(.agg (dV aA)),(.agg (dV aB))]=some (iv r):=by
 cases n with
 | zero=>cases h
 | succ n =>
  rw [pV] at h
  obtain ⟨aC,aD,h⟩:=dQ h
  have aE:=sH n aA _ aD
  obtain ⟨aF,aG,h⟩:=dQ h
  have aH:=sH n aB _ aG
  obtain ⟨aK,aI,h⟩:=dQ h
  have aJ:=aA6 n aC aF _ aI
  obtain rfl:=si h
  exact pv_q F72 (qa 9 aJ<|qa 8 aH<|qa 6 aE<|q0) [] []
def rF : Nat→Gsegment→Option Int
 | 0,_=>none
 | n + 1,aB=>(bnd (jI n aB) fun aA=>(some (imax aA.1.X aA.2.X)))
theorem aE5 (n : Nat) (aA : Gsegment) (r : Int) (h : rF n aA=some r) : pv PP T n 74 [(.agg (dV aA))]=some (iv r):=by
 cases n with
 | zero=>cases h
 | succ n =>
  rw [rF] at h
  obtain ⟨aB,aC,h⟩:=dQ h
  have aD:=kY n aA _ aC
  have aE:=aKq (P:=PP) (cf:=evF PP T n) (fl:=0) (H:=(hp20 aA aB)) (a:=aB.1.X) (b:=aB.2.X)
  obtain rfl:=si h
  exact pv_q F74 (qb 14 aE<|qa 7 aD<|q0) [] [none,none]
def aBq (aA : (List GPoint)) (aB : Int) : St:=⟨sp 30 [(5,(.vw (List.map dW aA))),(6,(iv ((aA.length : Nat) : Int))),(7,(iv aB))],[]⟩
theorem aL4 (aA : (List GPoint)) (aB : Int) : eS true 0 0 (aBq aA aB).heap:=(by exact rfl)
def aAp (aC : (List GPoint)) (aA : Int) (aB : Int) : St:=⟨sp 30 [(2,bf)],[(.blk 2 [[(iv aA),(iv aB)]])]⟩
def aAo (aA : (List GPoint)) : St:=⟨sp 30 [],[]⟩
def aL3 (aA : (List GPoint)) (aC : Int) (aB : GPoint) : St:=⟨sp 30 [(4,(.ptr 0 1 0 0)),(5,(.vw (List.map dW aA))),(6,(iv ((aA.length : Nat) : Int))),(7,(iv aC))],[(.blk 2 [[(iv aB.X),(iv aB.Y)]])]⟩
def kR (aA : (List GPoint)) (aC : Int) (aB : GPoint) (aD : Bool) : St:=⟨sp 30 [(5,(.vw (List.map dW aA))),(6,(iv ((aA.length : Nat) : Int))),(7,(iv aC)),(28,(bv aD))],[(.blk 2 [[(iv aB.X),(iv aB.Y)]])]⟩
def aA3 (n : Nat) (aB : (List GPoint)) (aC : Int) (aA : GPoint) : Option Bool:=(cnd (decide (aA.X < (-2097152))) (some true) (cnd (decide (aA.X > 2097152)) (some true) (cnd (decide (aA.Y < (-2097152))) (some true) (cnd (decide (aA.Y > 2097152)) (some true) (some false)))))
theorem aD6 (n : Nat) (aA : (List GPoint)) (aB : Int) (aC : GPoint) (r : Bool) (h : aA3 n aA aB aC=some r) : eT lv24 [false,false,true] false 0 1 (evC PP (evF PP T n) n 0 bGy (aL3 aA aB aC))=some (.normal,kR aA aB aC r):=by
 unfold aA3 at h
 rcases cn h with ⟨aH,aD,h⟩ | ⟨aH,aD,h⟩
 ·obtain rfl:=si h
  exact dY (kR aA aB aC true) (qa 13 aD<|q0) [] []
 rcases cn h with ⟨aI,aE,h⟩ | ⟨aI,aE,h⟩
 ·obtain rfl:=si h
  exact dY (kR aA aB aC true) (qa 17 aE<|qa 13 aD<|q0) [] []
 rcases cn h with ⟨aJ,aF,h⟩ | ⟨aJ,aF,h⟩
 ·obtain rfl:=si h
  exact dY (kR aA aB aC true) (qa 22 aF<|qa 17 aE<|qa 13 aD<|q0) [] []
 rcases cn h with ⟨aK,aG,h⟩ | ⟨aK,aG,h⟩
 ·obtain rfl:=si h
  exact dY (kR aA aB aC true) (qa 27 aG<|qa 22 aF<|qa 17 aE<|qa 13 aD<|q0) [] []
 obtain rfl:=si h
 exact dY (kR aA aB aC false) (qa 27 aG<|qa 22 aF<|qa 17 aE<|qa 13 aD<|q0) [] []
def yH (n : Nat) (aA : (List GPoint)) : Nat→Int→Option ((Int × Int) ⊕ Unit)
 | 0,_=>none
 | m + 1,aB=>(cnd (decide (aB < ((aA.length : Nat) : Int))) (bnd (idx aA aB) fun aC=>(bnd (aA3 n aA aB aC) fun aD=>(cnd (aD) (some (Sum.inl (aC.X,aC.Y))) (yH n aA m (IntKind.i64.wrap (aB + 1)))))) (some (Sum.inr ())))
theorem aAn (n : Nat) (aA : (List GPoint)) : ∀ (m : Nat) (aB : Int) (r : ((Int × Int) ⊕ Unit)),yH n aA m aB=some r→eT [] [false,false,true] true 0 0 (eG (eO (some lv23) true 0 0) (evC PP (evF PP T n) n 0 bGz) m (aBq aA aB))=(match r with | (.inl r)=>some (.ret,aAp aA r.1 r.2) | (.inr r)=>some ((.exit 0),aAo aA))
 | 0,_,_,h=>by cases h
 | m + 1,aB,r,h=>by
  rw [yH] at h
  rcases cn h with ⟨aI,aE,h⟩ | ⟨aI,aE,h⟩
  rotate_left
  ·obtain rfl:=si h
   exact eQ (some lv23) true (aAo aA) (qa 8 aE<|q0) [] [] (by exact rfl)
  obtain ⟨aC,aJ,h⟩:=dQ h
  have aG:=idxv (H:=[]) (c:=dW) aJ (gW _)
  obtain ⟨aL,aH,h⟩:=dQ h
  rcases cn h with ⟨aF,aK,h⟩ | ⟨aF,aK,h⟩
  ·have aD:=aD6 n aA aB aC _ aH
   rw [aF] at aD
   obtain rfl:=si h
   exact eQ (some lv23) true (aAp aA aC.X aC.Y) (qp aD<|qa 9 aG<|qa 8 aE<|q0) [(.normal,kR aA aB aC true)] [none] trivial
  have aD:=aD6 n aA aB aC _ aH
  rw [aF] at aD
  exact nx_q (aBq aA (IntKind.i64.wrap (aB + 1))) (qp aD<|qa 9 aG<|qa 8 aE<|q0) [(.normal,kR aA aB aC false)] [none] (aL4 _ _) (aAn n aA m (IntKind.i64.wrap (aB + 1)) r h)
def yI : Nat→(List GPoint)→Option Bool
 | 0,_=>none
 | n + 1,aA=>(bnd2 (yH n aA n 0) (fun aB=>(some false)) (fun aC=>(some true)))
theorem oW (n : Nat) (aA : (List GPoint)) (r : Bool) (h : yI n aA=some r) : pv PP T n 90 [(.vw (List.map dW aA))]=some (bv r):=by
 cases n with
 | zero=>cases h
 | succ n =>
  rw [yI] at h
  have aD:=iM (P:=PP) (cf:=evF PP T n) (fl:=0) (H:=[]) (c:=dW) (l:=aA)
  have aE : eS true 0 0 []:=(by exact rfl)
  rcases gF h with ⟨aF,aB,h⟩ | ⟨aG,aB,h⟩
  rotate_left
  ·have aC:=aAn n aA n 0 _ aB
   obtain rfl:=si h
   exact pv_q F90 (qp aC<|qp aE<|qb 6 aD<|q0) [((.exit 0),aAo aA)] []
  have aC:=aAn n aA n 0 _ aB
  obtain rfl:=si h
  exact pv_q F90 (qp aC<|qp aE<|qb 6 aD<|q0) [(.ret,aAp aA aF.1 aF.2)] []
def uX : Nat→GPoint→GPoint→GPoint→Option Int
 | 0,_,_,_=>none
 | n + 1,aA,aB,aC=>(some (IntKind.i64.wrap ((IntKind.i64.wrap ((IntKind.i64.wrap (aB.X - aA.X)) * (IntKind.i64.wrap (aC.Y - aA.Y)))) - (IntKind.i64.wrap ((IntKind.i64.wrap (aB.Y - aA.Y)) * (IntKind.i64.wrap (aC.X - aA.X)))))))
theorem zR (n : Nat) (aA : GPoint) (aB : GPoint) (aC : GPoint) (r : Int) (h : uX n aA aB aC=some r) : pv PP T n 91 [(.agg (dW aA)),(.agg (dW aB)),(.agg (dW aC))]=some (iv r):=by
 cases n with
 | zero=>cases h
 | succ n =>
  rw [uX] at h
  obtain rfl:=si h
  exact pv_q F91 q0 [] []
def aPv (aA : GPoint) (aB : GPoint) (aC : GPoint) : St:=⟨sp 58 [(3,(.ptr 0 1 0 0)),(4,(.ptr 1 1 0 0)),(5,(.ptr 2 1 0 0))],[(.blk 2 [[(iv aA.X),(iv aA.Y)]]),(.blk 2 [[(iv aB.X),(iv aB.Y)]]),(.blk 2 [[(iv aC.X),(iv aC.Y)]])]⟩
def pL (aA : GPoint) (aB : GPoint) (aC : GPoint) (aD : Bool) : St:=⟨sp 58 [(3,(.ptr 0 1 0 0)),(4,(.ptr 1 1 0 0)),(5,(.ptr 2 1 0 0)),(19,(bv aD))],[(.blk 2 [[(iv aA.X),(iv aA.Y)]]),(.blk 2 [[(iv aB.X),(iv aB.Y)]]),(.blk 2 [[(iv aC.X),(iv aC.Y)]])]⟩
def aCf (n : Nat) (aA : GPoint) (aB : GPoint) (aC : GPoint) : Option Bool:=(bnd (yI n [aA,aB,aC]) fun aD=>(cnd (aD) (bnd (uX n aA aB aC) fun aE=>(cnd (aE != 0) (some true) (some false))) (some true)))
theorem aG1 (n : Nat) (aA : GPoint) (aB : GPoint) (aC : GPoint) (r : Bool) (h : aCf n aA aB aC=some r) : eT lv25 lv18 false 0 3 (evC PP (evF PP T n) n 0 bG9 (aPv aA aB aC))=some (.normal,pL aA aB aC r):=by
 unfold aCf at h
 obtain ⟨aM,aF,h⟩:=dQ h
 rcases cn h with ⟨aD,aI,h⟩ | ⟨aD,aI,h⟩
 rotate_left
 ·have aJ:=by have q:=oW n [aA,aB,aC] _ aF; rw [aD] at q; exact q
  obtain rfl:=si h
  exact dY (pL aA aB aC true) (qa 11 aJ<|q0) [] []
 have aG:=by have q:=oW n [aA,aB,aC] _ aF; rw [aD] at q; exact q
 obtain ⟨aN,aK,h⟩:=dQ h
 have aH:=zR n aA aB aC _ aK
 rcases cn h with ⟨aL,aE,h⟩ | ⟨aL,aE,h⟩
 ·obtain rfl:=si h
  exact dY (pL aA aB aC true) (qa 18 aE<|qa 17 aH<|qa 11 aG<|q0) [] []
 obtain rfl:=si h
 exact dY (pL aA aB aC false) (qa 18 aE<|qa 17 aH<|qa 11 aG<|q0) [] []
def aPu (aA : GPoint) (aB : GPoint) (aC : GPoint) : St:=⟨sp 58 [(3,(.ptr 0 1 0 0)),(4,(.ptr 1 1 0 0)),(5,(.ptr 2 1 0 0))],[(.blk 2 [[(iv aA.X),(iv aA.Y)]]),(.blk 2 [[(iv aB.X),(iv aB.Y)]]),(.blk 2 [[(iv aC.X),(iv aC.Y)]])]⟩
def nH (aA : GPoint) (aB : GPoint) (aC : GPoint) (aD : Bool) : St:=⟨sp 58 [(6,(bv aD))],[(.blk 2 [[(iv aA.X),(iv aA.Y)]]),(.blk 2 [[(iv aB.X),(iv aB.Y)]]),(.blk 2 [[(iv aC.X),(iv aC.Y)]])]⟩
abbrev hp21 (aA : GPoint) (aB : GPoint) (aC : GPoint) : Heap:=[(.blk 2 [[(iv aA.X),(iv aA.Y)]]),(.blk 2 [[(iv aB.X),(iv aB.Y)]]),(.blk 2 [[(iv aC.X),(iv aC.Y)]])]
def aCe (n : Nat) (aA : GPoint) (aB : GPoint) (aC : GPoint) : Option Bool:=(cnd (decide ((imin aA.X aB.X) ≤ aC.X)) (cnd (decide (aC.X ≤ (imax aA.X aB.X))) (cnd (decide ((imin aA.Y aB.Y) ≤ aC.Y)) (cnd (decide (aC.Y ≤ (imax aA.Y aB.Y))) (some true) (some false)) (some false)) (some false)) (some false))
theorem aG0 (n : Nat) (aA : GPoint) (aB : GPoint) (aC : GPoint) (r : Bool) (h : aCe n aA aB aC=some r) : eT lv18 lv18 false 0 3 (evC PP (evF PP T n) n 0 bG8 (aPu aA aB aC))=some (.normal,nH aA aB aC r):=by
 unfold aCe at h
 have aE:=aWu (P:=PP) (cf:=evF PP T n) (fl:=0) (H:=(hp21 aA aB aC)) (a:=aA.X) (b:=aB.X)
 rcases cn h with ⟨aL,aD,h⟩ | ⟨aL,aD,h⟩
 rotate_left
 ·obtain rfl:=si h
  exact dY (nH aA aB aC false) (qa 27 aD<|qb 24 aE<|q0) [] []
 have aG:=aKq (P:=PP) (cf:=evF PP T n) (fl:=0) (H:=(hp21 aA aB aC)) (a:=aA.X) (b:=aB.X)
 rcases cn h with ⟨aM,aF,h⟩ | ⟨aM,aF,h⟩
 rotate_left
 ·obtain rfl:=si h
  exact dY (nH aA aB aC false) (qa 36 aF<|qb 35 aG<|qa 27 aD<|qb 24 aE<|q0) [] []
 have aI:=aWu (P:=PP) (cf:=evF PP T n) (fl:=0) (H:=(hp21 aA aB aC)) (a:=aA.Y) (b:=aB.Y)
 rcases cn h with ⟨aN,aH,h⟩ | ⟨aN,aH,h⟩
 rotate_left
 ·obtain rfl:=si h
  exact dY (nH aA aB aC false) (qa 46 aH<|qb 43 aI<|qa 36 aF<|qb 35 aG<|qa 27 aD<|qb 24 aE<|q0) [] []
 have aK:=aKq (P:=PP) (cf:=evF PP T n) (fl:=0) (H:=(hp21 aA aB aC)) (a:=aA.Y) (b:=aB.Y)
 rcases cn h with ⟨aO,aJ,h⟩ | ⟨aO,aJ,h⟩
 ·obtain rfl:=si h
  exact dY (nH aA aB aC true) (qa 56 aJ<|qb 55 aK<|qa 46 aH<|qb 43 aI<|qa 36 aF<|qb 35 aG<|qa 27 aD<|qb 24 aE<|q0) [] []
 obtain rfl:=si h
 exact dY (nH aA aB aC false) (qa 56 aJ<|qb 55 aK<|qa 46 aH<|qb 43 aI<|qa 36 aF<|qb 35 aG<|qa 27 aD<|qb 24 aE<|q0) [] []
def uU : Nat→GPoint→GPoint→GPoint→Option Bool
 | 0,_,_,_=>none
 | n + 1,aA,aB,aC=>(bnd (aCf n aA aB aC) fun aD=>(cnd (aD) (some false) (bnd (aCe n aA aB aC) fun aE=>(cnd (aE) (some true) (some false)))))
theorem gU (n : Nat) (aA : GPoint) (aB : GPoint) (aC : GPoint) (r : Bool) (h : uU n aA aB aC=some r) : pv PP T n 77 [(.agg (dW aA)),(.agg (dW aB)),(.agg (dW aC))]=some (bv r):=by
 cases n with
 | zero=>cases h
 | succ n =>
  rw [uU] at h
  obtain ⟨aL,aH,h⟩:=dQ h
  rcases cn h with ⟨aF,aJ,h⟩ | ⟨aF,aJ,h⟩
  ·have aD:=aG1 n aA aB aC _ aH
   rw [aF] at aD
   obtain rfl:=si h
   exact pv_q F77 (qp aD<|q0) [(.normal,pL aA aB aC true)] []
  have aD:=aG1 n aA aB aC _ aH
  rw [aF] at aD
  obtain ⟨aM,aI,h⟩:=dQ h
  rcases cn h with ⟨aG,aK,h⟩ | ⟨aG,aK,h⟩
  ·have aE:=aG0 n aA aB aC _ aI
   rw [aG] at aE
   obtain rfl:=si h
   exact pv_q F77 (qp aE<|qp aD<|q0) [(.normal,pL aA aB aC false),(.normal,nH aA aB aC true)] []
  have aE:=aG0 n aA aB aC _ aI
  rw [aG] at aE
  obtain rfl:=si h
  exact pv_q F77 (qp aE<|qp aD<|q0) [(.normal,pL aA aB aC false),(.normal,nH aA aB aC false)] []
def aEx : Nat→GPoint→GPoint→GPoint→Option Int
 | 0,_,_,_=>none
 | n + 1,aA,aB,aC=>(bnd (yI n [aA,aB,aC]) fun aD=>(cnd (aD) (bnd (uX n aA aB aC) fun aE=>(some aE)) (some 0)))
theorem aN4 (n : Nat) (aA : GPoint) (aB : GPoint) (aC : GPoint) (r : Int) (h : aEx n aA aB aC=some r) : pv PP T n 97 [(.agg (dW aA)),(.agg (dW aB)),(.agg (dW aC))]=some (iv r):=by
 cases n with
 | zero=>cases h
 | succ n =>
  rw [aEx] at h
  obtain ⟨aK,aE,h⟩:=dQ h
  rcases cn h with ⟨aD,aF,h⟩ | ⟨aD,aF,h⟩
  rotate_left
  ·have aG:=by have q:=oW n [aA,aB,aC] _ aE; rw [aD] at q; exact q
   obtain rfl:=si h
   exact pv_q F97 (qa 11 aG<|q0) [] []
  have aH:=by have q:=oW n [aA,aB,aC] _ aE; rw [aD] at q; exact q
  obtain ⟨aL,aI,h⟩:=dQ h
  have aJ:=zR n aA aB aC _ aI
  obtain rfl:=si h
  exact pv_q F97 (qa 16 aJ<|qa 11 aH<|q0) [] []
def rA : Nat→GPoint→GPoint→GPoint→Option Int
 | 0,_,_,_=>none
 | n + 1,aB,aC,aD=>(bnd (aEx n aB aC aD) fun aA=>(cnd (decide (aA > 0)) (some 1) (cnd (decide (aA < 0)) (some (-1)) (some 0))))
theorem oY (n : Nat) (aB : GPoint) (aC : GPoint) (aD : GPoint) (r : Int) (h : rA n aB aC aD=some r) : pv PP T n 93 [(.agg (dW aB)),(.agg (dW aC)),(.agg (dW aD))]=some (iv r):=by
 cases n with
 | zero=>cases h
 | succ n =>
  rw [rA] at h
  obtain ⟨aJ,aG,h⟩:=dQ h
  have aE:=aN4 n aB aC aD _ aG
  rcases cn h with ⟨aH,aA,h⟩ | ⟨aH,aA,h⟩
  ·obtain rfl:=si h
   exact pv_q F93 (qa 14 aA<|qa 11 aE<|q0) [] []
  rcases cn h with ⟨aI,aF,h⟩ | ⟨aI,aF,h⟩
  ·obtain rfl:=si h
   exact pv_q F93 (qa 17 aF<|qa 14 aA<|qa 11 aE<|q0) [] []
  obtain rfl:=si h
  exact pv_q F93 (qa 17 aF<|qa 14 aA<|qa 11 aE<|q0) [] []
def aJl (aA : GPoint) (aB : GPoint) : St:=⟨sp 24 [(2,(.ptr 0 1 0 0)),(3,(.ptr 1 1 0 0))],[(.blk 2 [[(iv aA.X),(iv aA.Y)]]),(.blk 2 [[(iv aB.X),(iv aB.Y)]])]⟩
def kH (aA : GPoint) (aB : GPoint) (aC : Bool) : St:=⟨sp 24 [(4,(bv aC))],[(.blk 2 [[(iv aA.X),(iv aA.Y)]]),(.blk 2 [[(iv aB.X),(iv aB.Y)]])]⟩
def tN (n : Nat) (aA : GPoint) (aB : GPoint) : Option Bool:=(cnd (decide (aA.X < aB.X)) (some true) (cnd (aA.X == aB.X) (cnd (decide (aA.Y < aB.Y)) (some true) (some false)) (some false)))
theorem aCd (n : Nat) (aA : GPoint) (aB : GPoint) (r : Bool) (h : tN n aA aB=some r) : eT lv4 lv4 false 0 2 (evC PP (evF PP T n) n 0 bGs (aJl aA aB))=some (.normal,kH aA aB r):=by
 unfold tN at h
 rcases cn h with ⟨aF,aC,h⟩ | ⟨aF,aC,h⟩
 ·obtain rfl:=si h
  exact dY (kH aA aB true) (qa 9 aC<|q0) [] []
 rcases cn h with ⟨aG,aD,h⟩ | ⟨aG,aD,h⟩
 rotate_left
 ·obtain rfl:=si h
  exact dY (kH aA aB false) (qa 15 aD<|qa 9 aC<|q0) [] []
 rcases cn h with ⟨aH,aE,h⟩ | ⟨aH,aE,h⟩
 ·obtain rfl:=si h
  exact dY (kH aA aB true) (qa 21 aE<|qa 15 aD<|qa 9 aC<|q0) [] []
 obtain rfl:=si h
 exact dY (kH aA aB false) (qa 21 aE<|qa 15 aD<|qa 9 aC<|q0) [] []
def qZ : Nat→GPoint→GPoint→Option Bool
 | 0,_,_=>none
 | n + 1,aA,aB=>(bnd (tN n aA aB) fun aC=>(cnd (aC) (some true) (some false)))
theorem jL (n : Nat) (aA : GPoint) (aB : GPoint) (r : Bool) (h : qZ n aA aB=some r) : pv PP T n 99 [(.agg (dW aA)),(.agg (dW aB))]=some (bv r):=by
 cases n with
 | zero=>cases h
 | succ n =>
  rw [qZ] at h
  obtain ⟨aG,aE,h⟩:=dQ h
  rcases cn h with ⟨aD,aF,h⟩ | ⟨aD,aF,h⟩
  ·have aC:=aCd n aA aB _ aE
   rw [aD] at aC
   obtain rfl:=si h
   exact pv_q F99 (qp aC<|q0) [(.normal,kH aA aB true)] []
  have aC:=aCd n aA aB _ aE
  rw [aD] at aC
  obtain rfl:=si h
  exact pv_q F99 (qp aC<|q0) [(.normal,kH aA aB false)] []
def aJk (aA : GPoint) (aB : GPoint) (aC : GPoint) (aD : GPoint) : St:=⟨sp 39 [(4,(.ptr 0 1 0 0)),(5,(.ptr 1 1 0 0)),(6,(.ptr 2 1 0 0)),(7,(.ptr 3 1 0 0))],[(.blk 2 [[(iv aA.X),(iv aA.Y)]]),(.blk 2 [[(iv aB.X),(iv aB.Y)]]),(.blk 2 [[(iv aC.X),(iv aC.Y)]]),(.blk 2 [[(iv aD.X),(iv aD.Y)]])]⟩
def lX (aG : GPoint) (aH : GPoint) (aA : GPoint) (aB : GPoint) (aC : Int) (aD : Int) (aE : Int) (aF : Int) : St:=⟨sp 39 [(4,(.ptr 0 1 0 0)),(5,(.ptr 1 1 0 0)),(6,(.ptr 2 1 0 0)),(7,(.ptr 3 1 0 0))],[(.blk 2 [[(iv aC),(iv aD)]]),(.blk 2 [[(iv aE),(iv aF)]]),(.blk 2 [[(iv aA.X),(iv aA.Y)]]),(.blk 2 [[(iv aB.X),(iv aB.Y)]])]⟩
def tM (n : Nat) (aA : GPoint) (aB : GPoint) (aD : GPoint) (aE : GPoint) : Option (Int × Int × Int × Int):=(bnd (qZ n aB aA) fun aC=>(cnd (aC) (some (aB.X,aB.Y,aA.X,aA.Y)) (some (aA.X,aA.Y,aB.X,aB.Y))))
theorem aIc (n : Nat) (aA : GPoint) (aB : GPoint) (aC : GPoint) (aD : GPoint) (r : (Int × Int × Int × Int)) (h : tM n aA aB aC aD=some r) : eT lv26 lv27 false 0 4 (evC PP (evF PP T n) n 0 bGw (aJk aA aB aC aD))=some (.normal,lX aA aB aC aD r.1 r.2.1 r.2.2.1 r.2.2.2):=by
 unfold tM at h
 obtain ⟨aJ,aF,h⟩:=dQ h
 rcases cn h with ⟨aE,aG,h⟩ | ⟨aE,aG,h⟩
 rotate_left
 ·have aH:=by have q:=jL n aB aA _ aF; rw [aE] at q; exact q
  obtain rfl:=si h
  exact dY (lX aA aB aC aD aA.X aA.Y aB.X aB.Y) (qa 13 aH<|q0) [] []
 have aI:=by have q:=jL n aB aA _ aF; rw [aE] at q; exact q
 obtain rfl:=si h
 exact dY (lX aA aB aC aD aB.X aB.Y aA.X aA.Y) (qa 13 aI<|q0) [] [none,none]
def aJj (aA : (Int × Int × Int × Int)) (aB : GPoint) (aC : GPoint) : St:=⟨sp 39 [(4,(.ptr 0 1 0 0)),(5,(.ptr 1 1 0 0)),(6,(.ptr 2 1 0 0)),(7,(.ptr 3 1 0 0))],[(.blk 2 [[(iv aA.1),(iv aA.2.1)]]),(.blk 2 [[(iv aA.2.2.1),(iv aA.2.2.2)]]),(.blk 2 [[(iv aB.X),(iv aB.Y)]]),(.blk 2 [[(iv aC.X),(iv aC.Y)]])]⟩
def lW (aA : (Int × Int × Int × Int)) (aF : GPoint) (aG : GPoint) (aB : Int) (aC : Int) (aD : Int) (aE : Int) : St:=⟨sp 39 [(4,(.ptr 0 1 0 0)),(5,(.ptr 1 1 0 0)),(6,(.ptr 2 1 0 0)),(7,(.ptr 3 1 0 0))],[(.blk 2 [[(iv aA.1),(iv aA.2.1)]]),(.blk 2 [[(iv aA.2.2.1),(iv aA.2.2.2)]]),(.blk 2 [[(iv aB),(iv aC)]]),(.blk 2 [[(iv aD),(iv aE)]])]⟩
def tL (n : Nat) (aD : (Int × Int × Int × Int)) (aA : GPoint) (aB : GPoint) : Option (Int × Int × Int × Int):=(bnd (qZ n aB aA) fun aC=>(cnd (aC) (some (aB.X,aB.Y,aA.X,aA.Y)) (some (aA.X,aA.Y,aB.X,aB.Y))))
theorem aIb (n : Nat) (aC : (Int × Int × Int × Int)) (aA : GPoint) (aB : GPoint) (r : (Int × Int × Int × Int)) (h : tL n aC aA aB=some r) : eT lv26 lv27 false 0 4 (evC PP (evF PP T n) n 0 bGv (aJj aC aA aB))=some (.normal,lW aC aA aB r.1 r.2.1 r.2.2.1 r.2.2.2):=by
 unfold tL at h
 obtain ⟨aI,aE,h⟩:=dQ h
 rcases cn h with ⟨aD,aF,h⟩ | ⟨aD,aF,h⟩
 rotate_left
 ·have aG:=by have q:=jL n aB aA _ aE; rw [aD] at q; exact q
  obtain rfl:=si h
  exact dY (lW aC aA aB aA.X aA.Y aB.X aB.Y) (qa 18 aG<|q0) [] []
 have aH:=by have q:=jL n aB aA _ aE; rw [aD] at q; exact q
 obtain rfl:=si h
 exact dY (lW aC aA aB aB.X aB.Y aA.X aA.Y) (qa 18 aH<|q0) [] [none,none]
def aJi (aA : (Int × Int × Int × Int)) (aB : (Int × Int × Int × Int)) : St:=⟨sp 39 [(6,(.ptr 2 1 0 0)),(7,(.ptr 3 1 0 0)),(9,(.ptr 4 1 0 0)),(10,(.ptr 5 1 0 0))],[(.blk 2 [[(iv aA.1),(iv aA.2.1)]]),(.blk 2 [[(iv aA.2.2.1),(iv aA.2.2.2)]]),(.blk 2 [[(iv aB.1),(iv aB.2.1)]]),(.blk 2 [[(iv aB.2.2.1),(iv aB.2.2.2)]]),(.blk 2 [[(iv aA.1),(iv aA.2.1)]]),(.blk 2 [[(iv aA.2.2.1),(iv aA.2.2.2)]])]⟩
def lV (aA : (Int × Int × Int × Int)) (aB : (Int × Int × Int × Int)) (aC : Int) (aD : Int) : St:=⟨sp 39 [(7,(.ptr 3 1 0 0)),(9,(.ptr 4 1 0 0)),(10,(.ptr 5 1 0 0))],[(.blk 2 [[(iv aA.1),(iv aA.2.1)]]),(.blk 2 [[(iv aA.2.2.1),(iv aA.2.2.2)]]),(.blk 2 [[(iv aB.1),(iv aB.2.1)]]),(.blk 2 [[(iv aB.2.2.1),(iv aB.2.2.2)]]),(.blk 2 [[(iv aC),(iv aD)]]),(.blk 2 [[(iv aA.2.2.1),(iv aA.2.2.2)]])]⟩
def tK (n : Nat) (aA : (Int × Int × Int × Int)) (aB : (Int × Int × Int × Int)) : Option (Int × Int):=(bnd (qZ n (GPoint.mk aA.1 aA.2.1) (GPoint.mk aB.1 aB.2.1)) fun aC=>(cnd (aC) (some (aB.1,aB.2.1)) (some (aA.1,aA.2.1))))
theorem aIa (n : Nat) (aA : (Int × Int × Int × Int)) (aB : (Int × Int × Int × Int)) (r : (Int × Int)) (h : tK n aA aB=some r) : eT lv28 lv27 false 0 6 (evC PP (evF PP T n) n 0 bGu (aJi aA aB))=some (.normal,lV aA aB r.1 r.2):=by
 unfold tK at h
 obtain ⟨aH,aD,h⟩:=dQ h
 rcases cn h with ⟨aC,aE,h⟩ | ⟨aC,aE,h⟩
 rotate_left
 ·have aF:=by have q:=jL n (GPoint.mk aA.1 aA.2.1) (GPoint.mk aB.1 aB.2.1) _ aD; rw [aC] at q; exact q
  obtain rfl:=si h
  exact dY (lV aA aB aA.1 aA.2.1) (qa 25 aF<|q0) [] []
 have aG:=by have q:=jL n (GPoint.mk aA.1 aA.2.1) (GPoint.mk aB.1 aB.2.1) _ aD; rw [aC] at q; exact q
 obtain rfl:=si h
 exact dY (lV aA aB aB.1 aB.2.1) (qa 25 aG<|q0) [] [none]
def aJh (aA : (Int × Int × Int × Int)) (aB : (Int × Int × Int × Int)) (aC : (Int × Int)) : St:=⟨sp 39 [(7,(.ptr 3 1 0 0)),(9,(.ptr 4 1 0 0)),(10,(.ptr 5 1 0 0))],[(.blk 2 [[(iv aA.1),(iv aA.2.1)]]),(.blk 2 [[(iv aA.2.2.1),(iv aA.2.2.2)]]),(.blk 2 [[(iv aB.1),(iv aB.2.1)]]),(.blk 2 [[(iv aB.2.2.1),(iv aB.2.2.2)]]),(.blk 2 [[(iv aC.1),(iv aC.2)]]),(.blk 2 [[(iv aA.2.2.1),(iv aA.2.2.2)]])]⟩
def lU (aA : (Int × Int × Int × Int)) (aB : (Int × Int × Int × Int)) (aC : (Int × Int)) (aD : Int) (aE : Int) : St:=⟨sp 39 [(9,(.ptr 4 1 0 0)),(10,(.ptr 5 1 0 0))],[(.blk 2 [[(iv aA.1),(iv aA.2.1)]]),(.blk 2 [[(iv aA.2.2.1),(iv aA.2.2.2)]]),(.blk 2 [[(iv aB.1),(iv aB.2.1)]]),(.blk 2 [[(iv aB.2.2.1),(iv aB.2.2.2)]]),(.blk 2 [[(iv aC.1),(iv aC.2)]]),(.blk 2 [[(iv aD),(iv aE)]])]⟩
def tJ (n : Nat) (aA : (Int × Int × Int × Int)) (aB : (Int × Int × Int × Int)) (aD : (Int × Int)) : Option (Int × Int):=(bnd (qZ n (GPoint.mk aB.2.2.1 aB.2.2.2) (GPoint.mk aA.2.2.1 aA.2.2.2)) fun aC=>(cnd (aC) (some (aB.2.2.1,aB.2.2.2)) (some (aA.2.2.1,aA.2.2.2))))
theorem aH9 (n : Nat) (aA : (Int × Int × Int × Int)) (aB : (Int × Int × Int × Int)) (aC : (Int × Int)) (r : (Int × Int)) (h : tJ n aA aB aC=some r) : eT lv29 lv27 false 0 6 (evC PP (evF PP T n) n 0 bGt (aJh aA aB aC))=some (.normal,lU aA aB aC r.1 r.2):=by
 unfold tJ at h
 obtain ⟨aI,aE,h⟩:=dQ h
 rcases cn h with ⟨aD,aF,h⟩ | ⟨aD,aF,h⟩
 rotate_left
 ·have aG:=by have q:=jL n (GPoint.mk aB.2.2.1 aB.2.2.2) (GPoint.mk aA.2.2.1 aA.2.2.2) _ aE; rw [aD] at q; exact q
  obtain rfl:=si h
  exact dY (lU aA aB aC aA.2.2.1 aA.2.2.2) (qa 29 aG<|q0) [] []
 have aH:=by have q:=jL n (GPoint.mk aB.2.2.1 aB.2.2.2) (GPoint.mk aA.2.2.1 aA.2.2.2) _ aE; rw [aD] at q; exact q
 obtain rfl:=si h
 exact dY (lU aA aB aC aB.2.2.1 aB.2.2.2) (qa 29 aH<|q0) [] [none]
abbrev hp22 (aA : (Int × Int × Int × Int)) (aB : (Int × Int × Int × Int)) (aC : (Int × Int)) (aD : (Int × Int)) : Heap:=[(.blk 2 [[(iv aA.1),(iv aA.2.1)]]),(.blk 2 [[(iv aA.2.2.1),(iv aA.2.2.2)]]),(.blk 2 [[(iv aB.1),(iv aB.2.1)]]),(.blk 2 [[(iv aB.2.2.1),(iv aB.2.2.2)]]),(.blk 2 [[(iv aC.1),(iv aC.2)]]),(.blk 2 [[(iv aD.1),(iv aD.2)]])]
def aCx : Nat→GPoint→GPoint→GPoint→GPoint→Option Int
 | 0,_,_,_,_=>none
 | n + 1,aG,aH,aD,aE=>(bnd (tM n aG aH aD aE) fun aC=>(bnd (tL n aC aD aE) fun aF=>(bnd (tK n aC aF) fun aA=>(bnd (tJ n aC aF aA) fun aB=>(cnd (decide ((GPoint.mk aA.1 aA.2)=(GPoint.mk aB.1 aB.2))) (some 1) (bnd (qZ n (GPoint.mk aA.1 aA.2) (GPoint.mk aB.1 aB.2)) fun aI=>(cnd (aI) (some 2) (some 0))))))))
theorem aL2 (n : Nat) (aG : GPoint) (aH : GPoint) (aE : GPoint) (aF : GPoint) (r : Int) (h : aCx n aG aH aE aF=some r) : pv PP T n 96 [(.agg (dW aG)),(.agg (dW aH)),(.agg (dW aE)),(.agg (dW aF))]=some (iv r):=by
 cases n with
 | zero=>cases h
 | succ n =>
  rw [aCx] at h
  obtain ⟨aA,aQ,h⟩:=dQ h
  have aI:=aIc n aG aH aE aF _ aQ
  obtain ⟨aB,aR,h⟩:=dQ h
  have aJ:=aIb n aA aE aF _ aR
  obtain ⟨aC,aS,h⟩:=dQ h
  have aK:=aIa n aA aB _ aS
  obtain ⟨aD,aT,h⟩:=dQ h
  have aL:=aH9 n aA aB aC _ aT
  rcases cn h with ⟨aM,aU,h⟩ | ⟨aM,aU,h⟩
  ·have aV:=jC (cf:=evF PP T n) (fl:=0) (H:=(hp22 aA aB aC aD)) (a:=(GPoint.mk aC.1 aC.2)) (b:=(GPoint.mk aD.1 aD.2)) aM
   obtain rfl:=si h
   exact pv_q F96 (qb 34 aV<|qp aL<|qp aK<|qp aJ<|qp aI<|q0) [(.normal,lX aG aH aE aF aA.1 aA.2.1 aA.2.2.1 aA.2.2.2),(.normal,lW aA aE aF aB.1 aB.2.1 aB.2.2.1 aB.2.2.2),(.normal,lV aA aB aC.1 aC.2),(.normal,lU aA aB aC aD.1 aD.2)] [none,none]
  have aO:=jC (cf:=evF PP T n) (fl:=0) (H:=(hp22 aA aB aC aD)) (a:=(GPoint.mk aC.1 aC.2)) (b:=(GPoint.mk aD.1 aD.2)) aM
  obtain ⟨aZ,aP,h⟩:=dQ h
  rcases cn h with ⟨aN,aW,h⟩ | ⟨aN,aW,h⟩
  ·have aX:=by have q:=jL n (GPoint.mk aC.1 aC.2) (GPoint.mk aD.1 aD.2) _ aP; rw [aN] at q; exact q
   obtain rfl:=si h
   exact pv_q F96 (qa 38 aX<|qb 34 aO<|qp aL<|qp aK<|qp aJ<|qp aI<|q0) [(.normal,lX aG aH aE aF aA.1 aA.2.1 aA.2.2.1 aA.2.2.2),(.normal,lW aA aE aF aB.1 aB.2.1 aB.2.2.1 aB.2.2.2),(.normal,lV aA aB aC.1 aC.2),(.normal,lU aA aB aC aD.1 aD.2)] [none,none]
  have aY:=by have q:=jL n (GPoint.mk aC.1 aC.2) (GPoint.mk aD.1 aD.2) _ aP; rw [aN] at q; exact q
  obtain rfl:=si h
  exact pv_q F96 (qa 38 aY<|qb 34 aO<|qp aL<|qp aK<|qp aJ<|qp aI<|q0) [(.normal,lX aG aH aE aF aA.1 aA.2.1 aA.2.2.1 aA.2.2.2),(.normal,lW aA aE aF aB.1 aB.2.1 aB.2.2.1 aB.2.2.2),(.normal,lV aA aB aC.1 aC.2),(.normal,lU aA aB aC aD.1 aD.2)] [none,none]
abbrev hp23 (aA : GPoint) (aB : GPoint) (aC : GPoint) (aD : GPoint) : Heap:=[(.blk 2 [[(iv aA.X),(iv aA.Y)]]),(.blk 2 [[(iv aB.X),(iv aB.Y)]]),(.blk 2 [[(iv aC.X),(iv aC.Y)]]),(.blk 2 [[(iv aD.X),(iv aD.Y)]])]
def aL6 (aA : GPoint) (aB : GPoint) (aC : GPoint) (aD : GPoint) : St:=⟨sp 74 [(4,(.ptr 0 1 0 0)),(5,(.ptr 1 1 0 0)),(6,(.ptr 2 1 0 0)),(7,(.ptr 3 1 0 0))],[(.blk 2 [[(iv aA.X),(iv aA.Y)]]),(.blk 2 [[(iv aB.X),(iv aB.Y)]]),(.blk 2 [[(iv aC.X),(iv aC.Y)]]),(.blk 2 [[(iv aD.X),(iv aD.Y)]])]⟩
def mF (aA : GPoint) (aB : GPoint) (aC : GPoint) (aD : GPoint) (aE : Bool) : St:=⟨sp 74 [(4,(.ptr 0 1 0 0)),(5,(.ptr 1 1 0 0)),(6,(.ptr 2 1 0 0)),(7,(.ptr 3 1 0 0)),(55,(bv aE))],[(.blk 2 [[(iv aA.X),(iv aA.Y)]]),(.blk 2 [[(iv aB.X),(iv aB.Y)]]),(.blk 2 [[(iv aC.X),(iv aC.Y)]]),(.blk 2 [[(iv aD.X),(iv aD.Y)]])]⟩
def yK (n : Nat) (aA : GPoint) (aB : GPoint) (aC : GPoint) (aD : GPoint) : Option Bool:=(bnd (rA n aA aB aC) fun aE=>(cnd (aE == 0) (bnd (rA n aA aB aD) fun aF=>(cnd (aF == 0) (some true) (some false))) (some false)))
theorem aD8 (n : Nat) (aA : GPoint) (aB : GPoint) (aC : GPoint) (aD : GPoint) (r : Bool) (h : yK n aA aB aC aD=some r) : eT lv30 lv27 false 0 4 (evC PP (evF PP T n) n 0 bG1 (aL6 aA aB aC aD))=some (.normal,mF aA aB aC aD r):=by
 unfold yK at h
 obtain ⟨aM,aI,h⟩:=dQ h
 have aF:=oY n aA aB aC _ aI
 rcases cn h with ⟨aJ,aE,h⟩ | ⟨aJ,aE,h⟩
 rotate_left
 ·obtain rfl:=si h
  exact dY (mF aA aB aC aD false) (qa 60 aE<|qa 59 aF<|q0) [] []
 obtain ⟨aN,aK,h⟩:=dQ h
 have aH:=oY n aA aB aD _ aK
 rcases cn h with ⟨aL,aG,h⟩ | ⟨aL,aG,h⟩
 ·obtain rfl:=si h
  exact dY (mF aA aB aC aD true) (qa 66 aG<|qa 65 aH<|qa 60 aE<|qa 59 aF<|q0) [] []
 obtain rfl:=si h
 exact dY (mF aA aB aC aD false) (qa 66 aG<|qa 65 aH<|qa 60 aE<|qa 59 aF<|q0) [] []
def aL5 (aA : GPoint) (aB : GPoint) (aC : GPoint) (aD : GPoint) : St:=⟨sp 74 [(4,(.ptr 0 1 0 0)),(5,(.ptr 1 1 0 0)),(6,(.ptr 2 1 0 0)),(7,(.ptr 3 1 0 0))],[(.blk 2 [[(iv aA.X),(iv aA.Y)]]),(.blk 2 [[(iv aB.X),(iv aB.Y)]]),(.blk 2 [[(iv aC.X),(iv aC.Y)]]),(.blk 2 [[(iv aD.X),(iv aD.Y)]])]⟩
def oT (aA : GPoint) (aB : GPoint) (aC : GPoint) (aD : GPoint) (aE : Bool) : St:=⟨sp 74 [(9,(bv aE))],[(.blk 2 [[(iv aA.X),(iv aA.Y)]]),(.blk 2 [[(iv aB.X),(iv aB.Y)]]),(.blk 2 [[(iv aC.X),(iv aC.Y)]]),(.blk 2 [[(iv aD.X),(iv aD.Y)]])]⟩
def yJ (n : Nat) (aA : GPoint) (aB : GPoint) (aC : GPoint) (aD : GPoint) : Option Bool:=(bnd (rA n aA aB aC) fun aE=>(bnd (rA n aA aB aD) fun aF=>(cnd (decide ((IntKind.i64.wrap (aE * aF)) ≤ 0)) (bnd (rA n aC aD aA) fun aG=>(bnd (rA n aC aD aB) fun aH=>(cnd (decide ((IntKind.i64.wrap (aG * aH)) ≤ 0)) (some true) (some false)))) (some false))))
theorem aD7 (n : Nat) (aA : GPoint) (aB : GPoint) (aC : GPoint) (aD : GPoint) (r : Bool) (h : yJ n aA aB aC aD=some r) : eT lv31 lv27 false 0 4 (evC PP (evF PP T n) n 0 bG0 (aL5 aA aB aC aD))=some (.normal,oT aA aB aC aD r):=by
 unfold yJ at h
 obtain ⟨aQ,aK,h⟩:=dQ h
 have aF:=oY n aA aB aC _ aK
 obtain ⟨aR,aL,h⟩:=dQ h
 have aG:=oY n aA aB aD _ aL
 rcases cn h with ⟨aM,aE,h⟩ | ⟨aM,aE,h⟩
 rotate_left
 ·obtain rfl:=si h
  exact dY (oT aA aB aC aD false) (qa 26 aE<|qa 24 aG<|qa 20 aF<|q0) [] []
 obtain ⟨aS,aN,h⟩:=dQ h
 have aI:=oY n aC aD aA _ aN
 obtain ⟨aT,aO,h⟩:=dQ h
 have aJ:=oY n aC aD aB _ aO
 rcases cn h with ⟨aP,aH,h⟩ | ⟨aP,aH,h⟩
 ·obtain rfl:=si h
  exact dY (oT aA aB aC aD true) (qa 37 aH<|qa 35 aJ<|qa 31 aI<|qa 26 aE<|qa 24 aG<|qa 20 aF<|q0) [] []
 obtain rfl:=si h
 exact dY (oT aA aB aC aD false) (qa 37 aH<|qa 35 aJ<|qa 31 aI<|qa 26 aE<|qa 24 aG<|qa 20 aF<|q0) [] []
def aG2 : Nat→GPoint→GPoint→GPoint→GPoint→Option Int
 | 0,_,_,_,_=>none
 | n + 1,aA,aC,aB,aD=>(bnd (yI n [aA,aC,aB,aD]) fun aE=>(cnd (aE) (cnd (decide (aA=aC)) (bnd (uU n aB aD aA) fun aF=>(cnd (aF) (some 1) (some 0))) (cnd (decide (aB=aD)) (bnd (uU n aA aC aB) fun aG=>(cnd (aG) (some 1) (some 0))) (bnd (yK n aA aC aB aD) fun aH=>(cnd (aH) (bnd (aCx n aA aC aB aD) fun aI=>(some aI)) (bnd (yJ n aA aC aB aD) fun aJ=>(cnd (aJ) (some 1) (some 0))))))) (some 0)))
end Go.Proofs.YtapabkfjeiknbaaGreat.Av
