/- A part of the proof of ChangesetCompactsCardSaid: an evaluator of the program, proved sound, and what it says. -/
import Derived.Test.YtanonfpdkoijnaaGreatDoorAvObj
namespace Go.Proofs.YtanonfpdkoijnaaGreatDoor.Av
open Go

def ftOf (T : List AFun) (vi : Nat) : Option Nat := match T[vi]? with | some F => some F.fid | none => none

def veq : Value → Value → Bool
  | .bool a, .bool b => a == b
  | .int k a, .int k' b => decide (k = k') && decide (a = b)
  | .string a, .string b => decide (a.data = b.data)
  | .slice none 0 0, .slice none 0 0 => true
  | .pointer none, .pointer none => true
  | .map none, .map none => true
  | .nilFunc, .nilFunc => true
  | .nilIface, .nilIface => true
  | _, _ => false

theorem veq_eq {a b : Value} (h : veq a b = true) : a = b := by
  unfold veq at h
  split at h
  · simp_all
  · simp only [Bool.and_eq_true, decide_eq_true_eq] at h; rw [h.1, h.2]
  · rename_i x y
    simp only [decide_eq_true_eq] at h
    cases x; cases y; simp_all
  all_goals first | rfl | cases h

def veqL : List Value → List Value → Bool
  | [], [] => true
  | a :: r, b :: s => veq a b && veqL r s
  | _, _ => false

theorem veqL_eq [GlobT] : ∀ {a b : List Value}, veqL a b = true → a = b
  | [], [], _ => rfl
  | a :: r, b :: s, h => by
    simp only [veqL, Bool.and_eq_true] at h
    rw [veq_eq h.1, veqL_eq h.2]
  | [], _ :: _, h => by cases h
  | _ :: _, [], h => by cases h

theorem veq_scalar {a b : Value} (h : veq a b = true) : scalarB a = true := by
  unfold veq at h
  split at h <;> first | rfl | cases h

theorem veqL_scalar [GlobT] : ∀ {a b : List Value}, veqL a b = true → ∀ v ∈ a, scalarB v = true
  | [], [], _, v, hv => by cases hv
  | a :: r, b :: s, h, v, hv => by
    simp only [veqL, Bool.and_eq_true] at h
    rcases List.mem_cons.1 hv with rfl | hv
    · exact veq_scalar h.1
    · exact veqL_scalar h.2 v hv
  | [], _ :: _, h, _, _ => by cases h
  | _ :: _, [], h, _, _ => by cases h

section
variable (P : Program) (T : List AFun)

def chkOpd : AOpd → Operand → Bool
  | .tmp t, .tmp u => t == u
  | .lit v, .const u => veq v u
  | .agg vs, .const (.agg us) => veqL vs us.toList
  | .fn vi, .func f => ftOf T vi == some f
  | .glob g, .global g' => g == g'
  | _, _ => false

def chkOpds : List AOpd → List Operand → Bool
  | [], [] => true
  | a :: r, b :: s => chkOpd T a b && chkOpds r s
  | _, _ => false

def chkOpt : Option AOpd → Option Operand → Bool
  | none, none => true
  | some a, some b => chkOpd T a b
  | _, _ => false

/-- The zero value of a type has these cells. -/
def zeroIs (t : TypeId) (z : List Value) : Bool :=
  match P.info? t with
  | some i => match i.zero with
    | some v => veqL z v.cells.toList
    | none => false
  | none => false

def sizeIs (t : TypeId) (n : Nat) : Bool :=
  match P.info? t with
  | some i => i.size == n
  | none => false

def bytesIs (t : TypeId) (n : Nat) : Bool :=
  match P.info? t with
  | some i => i.bytes == n
  | none => false

def aggIs (t : TypeId) (b : Bool) : Bool :=
  match P.underlying t with
  | some (.struct _) => b
  | some (.array _ _) => b
  | some _ => !b
  | none => false

def chkParts (place : Nat → Option (Nat × Nat)) : List (Nat × Nat × AOpd) → List (Nat × Operand) → Bool
  | [], [] => true
  | (o, s, x) :: r, (i, y) :: q => place i == some (o, s) && chkOpd T x y && chkParts place r q
  | _, _ => false

def chkElems : List (Nat × AOpd) → List (Nat × Operand) → Bool
  | [], [] => true
  | (i, x) :: r, (j, y) :: q => i == j && chkOpd T x y && chkElems r q
  | _, _ => false

def fieldPl (fs : Array Field) (i : Nat) : Option (Nat × Nat) :=
  match fs[i]? with
  | some f => match P.info? f.type with
    | some n => some (f.offset, n.size)
    | none => none
  | none => none

def allSized (fs : List Field) : Bool := fs.all fun f => (P.info? f.type).isSome

def chkOp (a : AOp) (o : Op) : Bool :=
  match a with
  | .mov x => (match o with
    | .move y => chkOpd T x y
    | .assign y => chkOpd T x y
    | _ => false)
  | .movN x => (match o with
    | .move y => chkOpd T x y
    | .assign y => chkOpd T x y
    | _ => false)
  | .rangeStr x => (match o with
    | .range t y => chkOpd T x y && (match P.underlying t with | some .string => true | _ => false)
    | _ => false)
  | .nextStr x => (match o with
    | .next y b => chkOpd T x y && b
    | _ => false)
  | .freeze x => (match o with
    | .move y => chkOpd T x y
    | .assign y => chkOpd T x y
    | _ => false)
  | .pick c a b => (match o with
    | .pick c' a' b' => chkOpd T c c' && chkOpd T a a' && chkOpd T b b'
    | _ => false)
  | .alloc z => (match o with
    | .alloc t => zeroIs P t z
    | _ => false)
  | .claim _ => (match o with
    | .move (.const (.slice none 0 0)) => true
    | .assign (.const (.slice none 0 0)) => true
    | _ => false)
  | .allocC z cl => (match o with
    | .alloc t => zeroIs P t z && cl.all fun c => match z[c.1]? with | some (.slice none 0 0) => true | _ => false
    | _ => false)
  | .box x => (match o with
    | .box _ y => chkOpd T x y
    | _ => false)
  | .build z ps => (match o with
    | .build t qs => zeroIs P t z && match P.underlying t with
      | some (.struct fs) => allSized P fs.toList && chkParts T (fieldPl P fs) ps qs.toList
      | some (.array _ e) => match P.info? e with
        | some i => chkParts T (fun k => some (k * i.size, i.size)) ps qs.toList
        | none => false
      | _ => false
    | _ => false)
  | .buildSl _ s n z ps => (match o with
    | .buildSlice t m qs => n == m && match P.underlying t with
      | some (.slice e) => sizeIs P e s && zeroIs P e z && z.length == s && decide (0 < s) && decide (n * s ≤ 2 ^ 24) && chkElems T ps qs.toList
      | _ => false
    | _ => false)
  | .load agg n x => (match o with
    | .load t y => aggIs P t agg && sizeIs P t n && (agg || n == 1) && chkOpd T x y
    | _ => false)
  | .store n x v => (match o with
    | .store t y u => sizeIs P t n && chkOpd T x y && chkOpd T v u
    | _ => false)
  | .nilCheck x => (match o with
    | .nilCheck y => chkOpd T x y
    | _ => false)
  | .ibin op x y => (match o with
    | .binOp op' _ x' y' _ => decide (op = op') && chkOpd T x x' && chkOpd T y y'
    | _ => false)
  | .bin op t x y => (match o with
    | .binOp op' t' x' y' _ => decide (op = op') && t == t' && chkOpd T x x' && chkOpd T y y'
    | _ => false)
  | .un op x => (match o with
    | .unOp op' _ y => decide (op = op') && chkOpd T x y
    | _ => false)
  | .conv s d x => (match o with
    | .convert s' d' y => s == s' && d == d' && chkOpd T x y
    | _ => false)
  | .fieldAddr off x => (match o with
    | .fieldAddr t y f => chkOpd T x y && match P.underlying t with
      | some (.struct fs) => match fs[f]? with
        | some fd => fd.offset == off && match P.info? fd.type with
          | some i => i.size != 0
          | none => false
        | none => false
      | _ => false
    | _ => false)
  | .field agg n off x => (match o with
    | .field t y f => chkOpd T x y && match P.underlying t with
      | some (.struct fs) => match fs[f]? with
        | some fd => fd.offset == off && aggIs P fd.type agg && sizeIs P fd.type n && (agg || n == 1)
        | none => false
      | _ => false
    | _ => false)
  | .idxAddr s x i => (match o with
    | .indexAddr t y j => chkOpd T x y && chkOpd T i j && match P.underlying t with
      | some (.slice e) => sizeIs P e s
      | _ => false
    | _ => false)
  | .idxArr s n x i => (match o with
    | .indexAddr t y j => chkOpd T x y && chkOpd T i j && match P.underlying t with
      | some (.array m e) => m == n && sizeIs P e s
      | _ => false
    | _ => false)
  | .index agg s n x i => (match o with
    | .index t y j => chkOpd T x y && chkOpd T i j && match P.underlying t with
      | some (.array m e) => m == n && sizeIs P e s && aggIs P e agg && (agg || s == 1)
      | _ => false
    | _ => false)
  | .strIdx t x i => (match o with
    | .index t' y j => t == t' && chkOpd T x y && chkOpd T i j
    | _ => false)
  | .slice s x lo hi mx => (match o with
    | .slice t y lo' hi' mx' => chkOpd T x y && chkOpt T lo lo' && chkOpt T hi hi' && chkOpt T mx mx' && match P.underlying t with
      | some (.slice e) => sizeIs P e s
      | _ => false
    | _ => false)
  | .strSlice t x lo hi => (match o with
    | .slice t' y lo' hi' none => t == t' && chkOpd T x y && chkOpt T lo lo' && chkOpt T hi hi' && match P.underlying t with
      | some .string => true
      | _ => false
    | _ => false)
  | .mkSlice s z bytes l c => (match o with
    | .makeSlice t l' c' => chkOpd T l l' && chkOpd T c c' && match P.underlying t with
      | some (.slice e) => sizeIs P e s && bytesIs P e bytes && zeroIs P e z && decide (0 < s)
      | _ => false
    | _ => false)
  | .mkMap => (match o with
    | .makeMap _ none => true
    | _ => false)
  | .lookup kt z m k ok => (match o with
    | .lookup t m' k' ok' => ok == ok' && chkOpd T m m' && chkOpd T k k' && match P.underlying t with
      | some (.map kt' e) => kt == kt' && match P.info? e with
        | some i => match i.zero, z with
          | some v, .lit u => veq u v
          | some (.agg us), .agg vs => veqL vs us.toList
          | _, _ => false
        | none => false
      | _ => false
    | _ => false)
  | .mapUpd kt m k v => (match o with
    | .mapUpdate t m' k' v' => chkOpd T m m' && chkOpd T k k' && chkOpd T v v' && match P.underlying t with
      | some (.map kt' _) => kt == kt'
      | _ => false
    | .insert t m' k' v' => chkOpd T m m' && chkOpd T k k' && chkOpd T v v' && match P.underlying t with
      | some (.map kt' _) => kt == kt'
      | _ => false
    | _ => false)
  | .lenS x => (match o with
    | .call ⟨.builtin .len, as, ts⟩ => match as.toList, ts.toList with
      | [y], [t] => chkOpd T x y && match P.underlying t with
        | some (.slice _) => true
        | _ => false
      | _, _ => false
    | _ => false)
  | .lenM x => (match o with
    | .call ⟨.builtin .len, as, ts⟩ => match as.toList, ts.toList with
      | [y], [t] => chkOpd T x y && match P.underlying t with
        | some (.map _ _) => true
        | _ => false
      | _, _ => false
    | _ => false)
  | .lenStr t x => (match o with
    | .call ⟨.builtin .len, as, ts⟩ => match as.toList, ts.toList with
      | [y], [t'] => t == t' && chkOpd T x y
      | _, _ => false
    | _ => false)
  | .lenC n => (match o with
    | .call ⟨.builtin .len, as, ts⟩ => match as.toList, ts.toList with
      | [_], [t] => match P.underlying t with
        | some (.array m _) => m == n
        | _ => false
      | _, _ => false
    | _ => false)
  | .append s bytes x y => (match o with
    | .call ⟨.builtin .append, as, ts⟩ => match as.toList, ts.toList with
      | [x', y'], [t, t'] => chkOpd T x x' && chkOpd T y y' && (match P.underlying t' with | some (.slice _) => true | _ => false) && match P.underlying t with
        | some (.slice e) => sizeIs P e s && bytesIs P e bytes && match P.info? e with
          | some i => match i.zero with | some z => z.cells.size == s | none => false
          | none => false
        | _ => false
      | _, _ => false
    | _ => false)
  | .appendZ s bytes z x y => (match o with
    | .call ⟨.builtin .append, as, ts⟩ => match as.toList, ts.toList with
      | [x', y'], [t, t'] => chkOpd T x x' && chkOpd T y y' && (match P.underlying t' with | some (.int _) => true | _ => false) && match P.underlying t with
        | some (.slice e) => sizeIs P e s && bytesIs P e bytes && zeroIs P e z
        | _ => false
      | _, _ => false
    | _ => false)
  | .copy s x y => (match o with
    | .call ⟨.builtin .copy, as, ts⟩ => match as.toList, ts.toList with
      | [x', y'], [t, _] => chkOpd T x x' && chkOpd T y y' && match P.underlying t with
        | some (.slice e) => sizeIs P e s
        | _ => false
      | _, _ => false
    | _ => false)
  | .delete kt m k => (match o with
    | .call ⟨.builtin .delete, as, ts⟩ => match as.toList, ts.toList with
      | [m', k'], t :: _ => chkOpd T m m' && chkOpd T k k' && match P.underlying t with
        | some (.map kt' _) => kt == kt'
        | _ => false
      | _, _ => false
    | _ => false)
  | .minmax mx xs => (match o with
    | .call ⟨.builtin .max, as, _⟩ => mx && chkOpds T xs as.toList
    | .call ⟨.builtin .min, as, _⟩ => !mx && chkOpds T xs as.toList
    | _ => false)
  | .mkFn vi caps => (match o with
    | .makeFunc (.func f) first cs => first.isEmpty && ftOf T vi == some f && chkOpds T caps cs.toList
    | _ => false)
  | .call _ vi args => (match o with
    | .call ⟨.value (.func f), as, _⟩ => ftOf T vi == some f && chkOpds T args as.toList
    | _ => false)
  | .callS vi args => (match o with
    | .call ⟨.value (.func f), as, _⟩ => ftOf T vi == some f && chkOpds T args as.toList
    | _ => false)
  | .callF vi args => (match o with
    | .call ⟨.value (.func f), as, _⟩ => ftOf T vi == some f && chkOpds T args as.toList
    | _ => false)
  | .capS x => (match o with
    | .call ⟨.builtin .cap, as, ts⟩ => match as.toList, ts.toList with
      | [y], [t] => chkOpd T x y && match P.underlying t with
        | some (.slice _) => true
        | _ => false
      | _, _ => false
    | _ => false)
  | .callv _ x args => (match o with
    | .call ⟨.value y, as, _⟩ => chkOpd T x y && chkOpds T args as.toList
    | _ => false)
  | .extract x i => (match o with
    | .extract y j => i == j && chkOpd T x y
    | _ => false)

def chkGuard (ops : Array Oper) : Option (Nat × Bool) → Option (Nat × Bool) → Bool
  | none, none => true
  | some (t, b), some (j, b') => b == b' && match ops[j]? with
    | some o => o.dst == some t
    | none => false
  | _, _ => false

def chkOper (ops : Array Oper) (a : AOper) (o : Oper) : Bool := a.dst == o.dst && chkGuard ops a.guard o.guard && chkOp P T a.op o.op

def chkOpers (ops : Array Oper) : List AOper → List Oper → Bool
  | [], [] => true
  | a :: r, o :: s => chkOper P T ops a o && chkOpers ops r s
  | _, _ => false

def orAnc (acc : List Nat) : List Nat → Nat
  | [] => 0
  | d :: r => (2 ^ d ||| acc.getD d 0) ||| orAnc acc r

/-- The operations that must have been carried out before an operation, as its edges say (of those before it in the text): a number's bits. -/
def ancs (ops : List Oper) : Nat → List Nat → List Nat
  | 0, acc => acc
  | n + 1, acc =>
    let ds := match ops[acc.length]? with
      | some o => (o.after.toList.filter fun e => Region.binds .any e && decide (e.on < acc.length)).map fun (e : Edge) => e.on
      | none => []
    ancs ops n (acc ++ [orAnc acc ds])

def optL : Option AOpd → List AOpd
  | some x => [x]
  | none => []

def opdsA : AOp → List AOpd
  | .mov x => [x]
  | .movN x => [x]
  | .freeze x => [x]
  | .rangeStr x => [x]
  | .nextStr x => [x]
  | .pick x y z => [x, y, z]
  | .alloc _ => []
  | .claim _ => []
  | .allocC _ _ => []
  | .box x => [x]
  | .build _ ps => ps.map fun p => p.2.2
  | .buildSl _ _ _ _ ps => ps.map fun p => p.2
  | .load _ _ x => [x]
  | .store _ x y => [x, y]
  | .nilCheck x => [x]
  | .ibin _ x y => [x, y]
  | .bin _ _ x y => [x, y]
  | .un _ x => [x]
  | .conv _ _ x => [x]
  | .fieldAddr _ x => [x]
  | .field _ _ _ x => [x]
  | .idxAddr _ x y => [x, y]
  | .idxArr _ _ x y => [x, y]
  | .index _ _ _ x y => [x, y]
  | .strIdx _ x y => [x, y]
  | .slice _ x lo hi mx => x :: (optL lo ++ (optL hi ++ optL mx))
  | .strSlice _ x lo hi => x :: (optL lo ++ optL hi)
  | .mkSlice _ _ _ x y => [x, y]
  | .mkMap => []
  | .lookup _ z m k _ => [z, m, k]
  | .mapUpd _ m k v => [m, k, v]
  | .lenS x => [x]
  | .lenM x => [x]
  | .lenStr _ x => [x]
  | .lenC _ => []
  | .append _ _ x y => [x, y]
  | .appendZ _ _ _ x y => [x, y]
  | .copy _ x y => [x, y]
  | .delete _ x y => [x, y]
  | .minmax _ xs => xs
  | .mkFn _ xs => xs
  | .call _ _ xs => xs
  | .callv _ x xs => x :: xs
  | .callF _ xs => xs
  | .callS _ xs => xs
  | .capS x => [x]
  | .extract x _ => [x]

def tmpsOf : List AOpd → List Nat
  | [] => []
  | .tmp t :: r => t :: tmpsOf r
  | _ :: r => tmpsOf r

def looksA (o : AOper) : List Nat :=
  match o.guard with
  | some (t, _) => t :: tmpsOf (opdsA o.op)
  | none => tmpsOf (opdsA o.op)

/-- Does an operation write a temporary that another one looks at or writes? -/
def clash (x y : AOper) : Bool :=
  match x.dst with
  | some d => (looksA y).contains d || y.dst == some d
  | none => false

/-- Operations that leave the objects alone. -/
def quietOp : AOp → Bool
  | .mov _ => true
  | .movN _ => true
  | .pick .. => true
  | .build .. => true
  | .buildSl pu .. => pu
  | .load .. => true
  | .nilCheck _ => true
  | .ibin .. => true
  | .bin .. => true
  | .un .. => true
  | .conv .. => true
  | .fieldAddr .. => true
  | .field .. => true
  | .idxAddr .. => true
  | .idxArr .. => true
  | .index .. => true
  | .strIdx .. => true
  | .slice .. => true
  | .strSlice .. => true
  | .lookup .. => true
  | .lenS _ => true
  | .capS _ => true
  | .lenM _ => true
  | .lenStr .. => true
  | .lenC _ => true
  | .minmax .. => true
  | .mkFn .. => true
  | .call pu .. => pu
  | .callv pu .. => pu
  | .extract .. => true
  | .callS .. => true
  | _ => false

/-- Operations that do not even look at the objects. -/
def neutralOp : AOp → Bool
  | .mov _ => true
  | .movN _ => true
  | .pick .. => true
  | .build .. => true
  | .buildSl pu .. => pu
  | .nilCheck _ => true
  | .ibin .. => true
  | .bin .. => true
  | .un .. => true
  | .conv .. => true
  | .fieldAddr .. => true
  | .field .. => true
  | .idxArr .. => true
  | .index .. => true
  | .strIdx .. => true
  | .strSlice .. => true
  | .lenS _ => true
  | .capS _ => true
  | .lenStr .. => true
  | .lenC _ => true
  | .minmax .. => true
  | .mkFn .. => true
  | .extract .. => true
  | _ => false

def backOk (ops : List Oper) : Nat → Bool
  | 0 => true
  | n + 1 => backOk ops n && match ops[n]? with
    | some o => o.after.toList.all fun e => !Region.binds .any e || decide (e.on < n)
    | none => true

def quietAt (aops : List AOper) (k : Nat) : Bool := match aops[k]? with
  | some o => quietOp o.op
  | none => true

def neutralAt (aops : List AOper) (k : Nat) : Bool := match aops[k]? with
  | some o => neutralOp o.op
  | none => true

def allocAt (aops : List AOper) (k : Nat) : Bool := match aops[k]? with
  | some o => match o.dst with
    | some _ => match o.op with
      | .alloc _ => match o.guard with
        | none => true
        | some _ => false
      | _ => false
    | none => false
  | none => false

/-- The first of two new variables side by side that have no order. -/
def swapAt (aops : List AOper) (an : List Nat) : Nat → Nat → Nat
  | 0, _ => aops.length
  | n + 1, i => if allocAt aops i && allocAt aops (i + 1) && !(an.getD (i + 1) 0).testBit i then i else swapAt aops an n (i + 1)

/-- Operations without an order do not clash, and one of them leaves the objects alone. -/
def orderOk (sw : Nat) (aops : List AOper) (an : List Nat) : Nat → Bool
  | 0 => true
  | j + 1 => orderOk sw aops an j && ((List.range j).all fun i =>
    (an.getD j 0).testBit i || ((quietAt aops i || quietAt aops j || (i == sw && j == sw + 1 && allocAt aops i && allocAt aops j)) && match aops[i]?, aops[j]? with
      | some x, some y => !clash x y && !clash y x
      | _, _ => false))

/-- An operation that looks at the objects, without an order to one that changes them, is listed. -/
def stabOk (aops : List AOper) (ck : List (Nat × Nat)) (an : List Nat) (n : Nat) : Bool :=
  (List.range n).all fun k => neutralAt aops k || !quietAt aops k || ((List.range n).all fun m => quietAt aops m || (an.getD k 0).testBit m || (an.getD m 0).testBit k || ck.contains (k, m))

def isEqNil (P : Program) (d0 d1 : Nat) (o : Oper) : Bool :=
  (match o.dst with | some d => d == d1 | none => false) && o.guard.isNone && match o.op with
    | .binOp .eql t (.tmp x) (.const (.slice none 0 0)) _ => x == d0 && match P.underlying t with
      | some (.slice _) => true
      | _ => false
    | _ => false

/-- An operation that looks at the objects comes behind the first of two such new variables, or is listed. -/
def stab2Ok (sw : Nat) (aops : List AOper) (ck : List (Nat × Nat)) (an : List Nat) (n : Nat) : Bool :=
  !decide (sw + 1 < n) || (List.range n).all fun k => !quietAt aops k || neutralAt aops k || (an.getD k 0).testBit sw || ck.contains (k, sw)

def chkC : ACode → Code → Bool
  | .skip, .skip => true
  | .skip, .label _ => true
  | .region draw ck aops, .region _ ops draw' => draw == draw' && chkOpers P T ops aops ops.toList && (!draw || (orderOk (swapAt aops (ancs ops.toList ops.size []) ops.size 0) aops (ancs ops.toList ops.size []) ops.size && (stabOk aops ck (ancs ops.toList ops.size []) ops.size && stab2Ok (swapAt aops (ancs ops.toList ops.size []) ops.size 0) aops ck (ancs ops.toList ops.size []) ops.size) && backOk ops.toList ops.size))
  | .seq a b, .seq a' b' => chkC a a' && chkC b b'
  | .cond c a b, .cond c' a' b' => chkOpd T c c' && chkC a a' && chkC b b'
  | .block i c, .block j d => i == j && chkC c d
  | .loop _ _ c, .loop d => chkC c d
  | .exit i, .exit j => i == j
  | .ret, .ret => true
  | .frz _ c, d => chkC c d
  | .mask _ _ _ c, d => chkC c d
  | .loopV _ _ _ _ c, .loop d => chkC c d
  | .scope c, .scope d => chkC c d
  | .nilIf t d0 d1 a b, .seq (.seq (.region _ ops draw) (.cond (.tmp e) a' .skip)) b' => !draw && e == d1 && (match ops.toList with
      | [o1, o2] => chkOper P T ops ⟨some d0, .mov (.tmp t), none⟩ o1 && isEqNil P d0 d1 o2
      | _ => false) && chkC a a' && chkC b b'
  | .stop, _ => true
  | _, _ => false

def chkRes : List ARes → List ResultVar → Bool
  | [], [] => true
  | .tmp t :: r, .tmp u :: s => t == u && chkRes r s
  | .cell t n agg :: r, .cell u ty :: s => t == u && sizeIs P ty n && aggIs P ty agg && (agg || n == 1) && chkRes r s
  | _, _ => false

def chkFun (F : AFun) : Bool :=
  match P.funcs[F.fid]? with
  | some fn => match fn.body with
    | some c => chkC P T F.body c && fn.ntmps == F.nt && chkRes P F.rets fn.results.toList && !(fn.name == "runtime.NumGoroutine")
    | none => false
  | none => false

def chkAll : List AFun → Bool
  | [] => true
  | F :: r => chkFun P T F && chkAll r
end

end Go.Proofs.YtanonfpdkoijnaaGreatDoor.Av
