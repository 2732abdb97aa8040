/- A part of the proof of EditChecksCardSaid. -/
import Derived.Test.YtmflphfmefakfaaGreatDoorAvObj
import Derived.Laws.Entries
import Derived.Great.BuildSlice
import Derived.Laws.Tables
set_option linter.all false
namespace Go.Proofs.YtmflphfmefakfaaGreatDoor.Av
open Go
def ftOf (T : List AFun) (vi : Nat) : Option Nat := match T[vi]? with | some F => some F.fid | none => none
def veq : Value → Value → Bool
 | .bool a, .bool b => a == b
 | .int k a, .int k' b => decide (k = k') && decide (a = b)
 | .string a, .string b => decide (a.data = b.data)
 | .slice none 0 0, .slice none 0 0 => true
 | .pointer none, .pointer none => true
 | .map none, .map none => true
 | .nilFunc, .nilFunc => true
 | .nilIface, .nilIface => true
 | _, _ => false
theorem veq_eq {a b : Value} (h : veq a b = true) : a = b := by
 unfold veq at h
 split at h
 ·simp_all
 ·simp only [Bool.and_eq_true, decide_eq_true_eq] at h; rw [h.1, h.2]
 ·rename_i x y
  simp only [decide_eq_true_eq] at h
  cases x; cases y; simp_all
 all_goals first | rfl | cases h
def veqL : List Value → List Value → Bool
 | [], [] => true
 | a :: r, b :: s => veq a b && veqL r s
 | _, _ => false
theorem veqL_eq [GlobT] : ∀ {a b : List Value}, veqL a b = true → a = b
 | [], [], _ => rfl
 | a :: r, b :: s, h => by
  simp only [veqL, Bool.and_eq_true] at h
  rw [veq_eq h.1, veqL_eq h.2]
 | [], _ :: _, h => by cases h
 | _ :: _, [], h => by cases h
theorem veq_scalar {a b : Value} (h : veq a b = true) : scalarB a = true := by
 unfold veq at h
 split at h <;> first | rfl | cases h
theorem veqL_scalar [GlobT] : ∀ {a b : List Value}, veqL a b = true → ∀ v ∈ a, scalarB v = true
 | [], [], _, v, hv => by cases hv
 | a :: r, b :: s, h, v, hv => by
  simp only [veqL, Bool.and_eq_true] at h
  rcases List.mem_cons.1 hv with rfl | hv
  ·exact veq_scalar h.1
  ·exact veqL_scalar h.2 v hv
 | [], _ :: _, h, _, _ => by cases h
 | _ :: _, [], h, _, _ => by cases h
section
variable (P : Program) (T : List AFun)
def chkOpd : AOpd → Operand → Bool
 | .tmp t, .tmp u => t == u
 | .lit v, .const u => veq v u
 | .agg vs, .const (.agg us) => veqL vs us.toList
 | .fn vi, .func f => ftOf T vi == some f
 | .glob g, .global g' => g == g'
 | _, _ => false
def chkOpds : List AOpd → List Operand → Bool
 | [], [] => true
 | a :: r, b :: s => chkOpd T a b && chkOpds r s
 | _, _ => false
def chkOpt : Option AOpd → Option Operand → Bool
 | none, none => true
 | some a, some b => chkOpd T a b
 | _, _ => false
def zeroIs (t : TypeId) (z : List Value) : Bool :=
 match P.info? t with
 | some i => match i.zero with
  | some v => veqL z v.cells.toList
  | none => false
 | none => false
def sizeIs (t : TypeId) (n : Nat) : Bool :=
 match P.info? t with
 | some i => i.size == n
 | none => false
def bytesIs (t : TypeId) (n : Nat) : Bool :=
 match P.info? t with
 | some i => i.bytes == n
 | none => false
def aggIs (t : TypeId) (b : Bool) : Bool :=
 match P.underlying t with
 | some (.struct _) => b
 | some (.array _ _) => b
 | some _ => !b
 | none => false
def chkParts (place : Nat → Option (Nat × Nat)) : List (Nat × Nat × AOpd) → List (Nat × Operand) → Bool
 | [], [] => true
 | (o, s, x) :: r, (i, y) :: q => place i == some (o, s) && chkOpd T x y && chkParts place r q
 | _, _ => false
def chkElems : List (Nat × AOpd) → List (Nat × Operand) → Bool
 | [], [] => true
 | (i, x) :: r, (j, y) :: q => i == j && chkOpd T x y && chkElems r q
 | _, _ => false
def fieldPl (fs : Array Field) (i : Nat) : Option (Nat × Nat) :=
 match fs[i]? with
 | some f => match P.info? f.type with
  | some n => some (f.offset, n.size)
  | none => none
 | none => none
def allSized (fs : List Field) : Bool := fs.all fun f => (P.info? f.type).isSome
def chkOp (a : AOp) (o : Op) : Bool :=
 match a with
 | .mov x => (match o with
  | .move y => chkOpd T x y
  | .assign y => chkOpd T x y
  | _ => false)
 | .movN x => (match o with
  | .move y => chkOpd T x y
  | .assign y => chkOpd T x y
  | _ => false)
 | .rangeStr x => (match o with
  | .range t y => chkOpd T x y && (match P.underlying t with | some .string => true | _ => false)
  | _ => false)
 | .nextStr x => (match o with
  | .next y b => chkOpd T x y && b
  | _ => false)
 | .freeze x => (match o with
  | .move y => chkOpd T x y
  | .assign y => chkOpd T x y
  | _ => false)
 | .pick c a b => (match o with
  | .pick c' a' b' => chkOpd T c c' && chkOpd T a a' && chkOpd T b b'
  | _ => false)
 | .alloc z => (match o with
  | .alloc t => zeroIs P t z
  | _ => false)
 | .claim _ => (match o with
  | .move (.const (.slice none 0 0)) => true
  | .assign (.const (.slice none 0 0)) => true
  | _ => false)
 | .allocC z cl => (match o with
  | .alloc t => zeroIs P t z && cl.all fun c => match z[c.1]? with | some (.slice none 0 0) => true | _ => false
  | _ => false)
 | .box x => (match o with
  | .box _ y => chkOpd T x y
  | _ => false)
 | .build z ps => (match o with
  | .build t qs => zeroIs P t z && match P.underlying t with
   | some (.struct fs) => allSized P fs.toList && chkParts T (fieldPl P fs) ps qs.toList
   | some (.array _ e) => match P.info? e with
    | some i => chkParts T (fun k => some (k * i.size, i.size)) ps qs.toList
    | none => false
   | _ => false
  | _ => false)
 | .buildSl _ s n z ps => (match o with
  | .buildSlice t m qs => n == m && match P.underlying t with
   | some (.slice e) => sizeIs P e s && zeroIs P e z && z.length == s && decide (0 < s) && decide (n * s ≤ 2 ^ 24) && chkElems T ps qs.toList
   | _ => false
  | _ => false)
 | .load agg n x => (match o with
  | .load t y => aggIs P t agg && sizeIs P t n && (agg || n == 1) && chkOpd T x y
  | _ => false)
 | .store n x v => (match o with
  | .store t y u => sizeIs P t n && chkOpd T x y && chkOpd T v u
  | _ => false)
 | .nilCheck x => (match o with
  | .nilCheck y => chkOpd T x y
  | _ => false)
 | .ibin op x y => (match o with
  | .binOp op' _ x' y' _ => decide (op = op') && chkOpd T x x' && chkOpd T y y'
  | _ => false)
 | .bin op t x y => (match o with
  | .binOp op' t' x' y' _ => decide (op = op') && t == t' && chkOpd T x x' && chkOpd T y y'
  | _ => false)
 | .un op x => (match o with
  | .unOp op' _ y => decide (op = op') && chkOpd T x y
  | _ => false)
 | .conv s d x => (match o with
  | .convert s' d' y => s == s' && d == d' && chkOpd T x y
  | _ => false)
 | .fieldAddr off x => (match o with
  | .fieldAddr t y f => chkOpd T x y && match P.underlying t with
   | some (.struct fs) => match fs[f]? with
    | some fd => fd.offset == off && match P.info? fd.type with
     | some i => i.size != 0
     | none => false
    | none => false
   | _ => false
  | _ => false)
 | .field agg n off x => (match o with
  | .field t y f => chkOpd T x y && match P.underlying t with
   | some (.struct fs) => match fs[f]? with
    | some fd => fd.offset == off && aggIs P fd.type agg && sizeIs P fd.type n && (agg || n == 1)
    | none => false
   | _ => false
  | _ => false)
 | .idxAddr s x i => (match o with
  | .indexAddr t y j => chkOpd T x y && chkOpd T i j && match P.underlying t with
   | some (.slice e) => sizeIs P e s
   | _ => false
  | _ => false)
 | .idxArr s n x i => (match o with
  | .indexAddr t y j => chkOpd T x y && chkOpd T i j && match P.underlying t with
   | some (.array m e) => m == n && sizeIs P e s
   | _ => false
  | _ => false)
 | .index agg s n x i => (match o with
  | .index t y j => chkOpd T x y && chkOpd T i j && match P.underlying t with
   | some (.array m e) => m == n && sizeIs P e s && aggIs P e agg && (agg || s == 1)
   | _ => false
  | _ => false)
 | .strIdx t x i => (match o with
  | .index t' y j => t == t' && chkOpd T x y && chkOpd T i j
  | _ => false)
 | .slice s x lo hi mx => (match o with
  | .slice t y lo' hi' mx' => chkOpd T x y && chkOpt T lo lo' && chkOpt T hi hi' && chkOpt T mx mx' && match P.underlying t with
   | some (.slice e) => sizeIs P e s
   | _ => false
  | _ => false)
 | .strSlice t x lo hi => (match o with
  | .slice t' y lo' hi' none => t == t' && chkOpd T x y && chkOpt T lo lo' && chkOpt T hi hi' && match P.underlying t with
   | some .string => true
   | _ => false
  | _ => false)
 | .mkSlice s z bytes l c => (match o with
  | .makeSlice t l' c' => chkOpd T l l' && chkOpd T c c' && match P.underlying t with
   | some (.slice e) => sizeIs P e s && bytesIs P e bytes && zeroIs P e z && decide (0 < s)
   | _ => false
  | _ => false)
 | .mkMap => (match o with
  | .makeMap _ none => true
  | _ => false)
 | .lookup kt z m k ok => (match o with
  | .lookup t m' k' ok' => ok == ok' && chkOpd T m m' && chkOpd T k k' && match P.underlying t with
   | some (.map kt' e) => kt == kt' && match P.info? e with
    | some i => match i.zero, z with
     | some v, .lit u => veq u v
     | some (.agg us), .agg vs => veqL vs us.toList
     | _, _ => false
    | none => false
   | _ => false
  | _ => false)
 | .mapUpd kt m k v => (match o with
  | .mapUpdate t m' k' v' => chkOpd T m m' && chkOpd T k k' && chkOpd T v v' && match P.underlying t with
   | some (.map kt' _) => kt == kt'
   | _ => false
  | .insert t m' k' v' => chkOpd T m m' && chkOpd T k k' && chkOpd T v v' && match P.underlying t with
   | some (.map kt' _) => kt == kt'
   | _ => false
  | _ => false)
 | .lenS x => (match o with
  | .call ⟨.builtin .len, as, ts⟩ => match as.toList, ts.toList with
   | [y], [t] => chkOpd T x y && match P.underlying t with
    | some (.slice _) => true
    | _ => false
   | _, _ => false
  | _ => false)
 | .lenM x => (match o with
  | .call ⟨.builtin .len, as, ts⟩ => match as.toList, ts.toList with
   | [y], [t] => chkOpd T x y && match P.underlying t with
    | some (.map _ _) => true
    | _ => false
   | _, _ => false
  | _ => false)
 | .lenStr t x => (match o with
  | .call ⟨.builtin .len, as, ts⟩ => match as.toList, ts.toList with
   | [y], [t'] => t == t' && chkOpd T x y
   | _, _ => false
  | _ => false)
 | .lenC n => (match o with
  | .call ⟨.builtin .len, as, ts⟩ => match as.toList, ts.toList with
   | [_], [t] => match P.underlying t with
    | some (.array m _) => m == n
    | _ => false
   | _, _ => false
  | _ => false)
 | .append s bytes x y => (match o with
  | .call ⟨.builtin .append, as, ts⟩ => match as.toList, ts.toList with
   | [x', y'], [t, t'] => chkOpd T x x' && chkOpd T y y' && (match P.underlying t' with | some (.slice _) => true | _ => false) && match P.underlying t with
    | some (.slice e) => sizeIs P e s && bytesIs P e bytes && match P.info? e with
     | some i => match i.zero with | some z => z.cells.size == s | none => false
     | none => false
    | _ => false
   | _, _ => false
  | _ => false)
 | .appendZ s bytes z x y => (match o with
  | .call ⟨.builtin .append, as, ts⟩ => match as.toList, ts.toList with
   | [x', y'], [t, t'] => chkOpd T x x' && chkOpd T y y' && (match P.underlying t' with | some (.int _) => true | _ => false) && match P.underlying t with
    | some (.slice e) => sizeIs P e s && bytesIs P e bytes && zeroIs P e z
    | _ => false
   | _, _ => false
  | _ => false)
 | .copy s x y => (match o with
  | .call ⟨.builtin .copy, as, ts⟩ => match as.toList, ts.toList with
   | [x', y'], [t, _] => chkOpd T x x' && chkOpd T y y' && match P.underlying t with
    | some (.slice e) => sizeIs P e s
    | _ => false
   | _, _ => false
  | _ => false)
 | .delete kt m k => (match o with
  | .call ⟨.builtin .delete, as, ts⟩ => match as.toList, ts.toList with
   | [m', k'], t :: _ => chkOpd T m m' && chkOpd T k k' && match P.underlying t with
    | some (.map kt' _) => kt == kt'
    | _ => false
   | _, _ => false
  | _ => false)
 | .minmax mx xs => (match o with
  | .call ⟨.builtin .max, as, _⟩ => mx && chkOpds T xs as.toList
  | .call ⟨.builtin .min, as, _⟩ => !mx && chkOpds T xs as.toList
  | _ => false)
 | .mkFn vi caps => (match o with
  | .makeFunc (.func f) first cs => first.isEmpty && ftOf T vi == some f && chkOpds T caps cs.toList
  | _ => false)
 | .call _ vi args => (match o with
  | .call ⟨.value (.func f), as, _⟩ => ftOf T vi == some f && chkOpds T args as.toList
  | _ => false)
 | .callS vi args => (match o with
  | .call ⟨.value (.func f), as, _⟩ => ftOf T vi == some f && chkOpds T args as.toList
  | _ => false)
 | .callF vi args => (match o with
  | .call ⟨.value (.func f), as, _⟩ => ftOf T vi == some f && chkOpds T args as.toList
  | _ => false)
 | .capS x => (match o with
  | .call ⟨.builtin .cap, as, ts⟩ => match as.toList, ts.toList with
   | [y], [t] => chkOpd T x y && match P.underlying t with
    | some (.slice _) => true
    | _ => false
   | _, _ => false
  | _ => false)
 | .callv _ x args => (match o with
  | .call ⟨.value y, as, _⟩ => chkOpd T x y && chkOpds T args as.toList
  | _ => false)
 | .extract x i => (match o with
  | .extract y j => i == j && chkOpd T x y
  | _ => false)
def chkGuard (ops : Array Oper) : Option (Nat × Bool) → Option (Nat × Bool) → Bool
 | none, none => true
 | some (t, b), some (j, b') => b == b' && match ops[j]? with
  | some o => o.dst == some t
  | none => false
 | _, _ => false
def chkOper (ops : Array Oper) (a : AOper) (o : Oper) : Bool := a.dst == o.dst && chkGuard ops a.guard o.guard && chkOp P T a.op o.op
def chkOpers (ops : Array Oper) : List AOper → List Oper → Bool
 | [], [] => true
 | a :: r, o :: s => chkOper P T ops a o && chkOpers ops r s
 | _, _ => false
def orAnc (acc : List Nat) : List Nat → Nat
 | [] => 0
 | d :: r => (2 ^ d ||| acc.getD d 0) ||| orAnc acc r
def ancs (ops : List Oper) : Nat → List Nat → List Nat
 | 0, acc => acc
 | n + 1, acc =>
  let ds := match ops[acc.length]? with
   | some o => (o.after.toList.filter fun e => Region.binds .any e && decide (e.on < acc.length)).map fun (e : Edge) => e.on
   | none => []
  ancs ops n (acc ++ [orAnc acc ds])
def optL : Option AOpd → List AOpd
 | some x => [x]
 | none => []
def opdsA : AOp → List AOpd
 | .mov x => [x]
 | .movN x => [x]
 | .freeze x => [x]
 | .rangeStr x => [x]
 | .nextStr x => [x]
 | .pick x y z => [x, y, z]
 | .alloc _ => []
 | .claim _ => []
 | .allocC _ _ => []
 | .box x => [x]
 | .build _ ps => ps.map fun p => p.2.2
 | .buildSl _ _ _ _ ps => ps.map fun p => p.2
 | .load _ _ x => [x]
 | .store _ x y => [x, y]
 | .nilCheck x => [x]
 | .ibin _ x y => [x, y]
 | .bin _ _ x y => [x, y]
 | .un _ x => [x]
 | .conv _ _ x => [x]
 | .fieldAddr _ x => [x]
 | .field _ _ _ x => [x]
 | .idxAddr _ x y => [x, y]
 | .idxArr _ _ x y => [x, y]
 | .index _ _ _ x y => [x, y]
 | .strIdx _ x y => [x, y]
 | .slice _ x lo hi mx => x :: (optL lo ++ (optL hi ++ optL mx))
 | .strSlice _ x lo hi => x :: (optL lo ++ optL hi)
 | .mkSlice _ _ _ x y => [x, y]
 | .mkMap => []
 | .lookup _ z m k _ => [z, m, k]
 | .mapUpd _ m k v => [m, k, v]
 | .lenS x => [x]
 | .lenM x => [x]
 | .lenStr _ x => [x]
 | .lenC _ => []
 | .append _ _ x y => [x, y]
 | .appendZ _ _ _ x y => [x, y]
 | .copy _ x y => [x, y]
 | .delete _ x y => [x, y]
 | .minmax _ xs => xs
 | .mkFn _ xs => xs
 | .call _ _ xs => xs
 | .callv _ x xs => x :: xs
 | .callF _ xs => xs
 | .callS _ xs => xs
 | .capS x => [x]
 | .extract x _ => [x]
def tmpsOf : List AOpd → List Nat
 | [] => []
 | .tmp t :: r => t :: tmpsOf r
 | _ :: r => tmpsOf r
def looksA (o : AOper) : List Nat :=
 match o.guard with
 | some (t, _) => t :: tmpsOf (opdsA o.op)
 | none => tmpsOf (opdsA o.op)
def clash (x y : AOper) : Bool :=
 match x.dst with
 | some d => (looksA y).contains d || y.dst == some d
 | none => false
def quietOp : AOp → Bool
 | .mov _ => true
 | .movN _ => true
 | .pick .. => true
 | .build .. => true
 | .buildSl pu .. => pu
 | .load .. => true
 | .nilCheck _ => true
 | .ibin .. => true
 | .bin .. => true
 | .un .. => true
 | .conv .. => true
 | .fieldAddr .. => true
 | .field .. => true
 | .idxAddr .. => true
 | .idxArr .. => true
 | .index .. => true
 | .strIdx .. => true
 | .slice .. => true
 | .strSlice .. => true
 | .lookup .. => true
 | .lenS _ => true
 | .capS _ => true
 | .lenM _ => true
 | .lenStr .. => true
 | .lenC _ => true
 | .minmax .. => true
 | .mkFn .. => true
 | .call pu .. => pu
 | .callv pu .. => pu
 | .extract .. => true
 | .callS .. => true
 | _ => false
def neutralOp : AOp → Bool
 | .mov _ => true
 | .movN _ => true
 | .pick .. => true
 | .build .. => true
 | .buildSl pu .. => pu
 | .nilCheck _ => true
 | .ibin .. => true
 | .bin .. => true
 | .un .. => true
 | .conv .. => true
 | .fieldAddr .. => true
 | .field .. => true
 | .idxArr .. => true
 | .index .. => true
 | .strIdx .. => true
 | .strSlice .. => true
 | .lenS _ => true
 | .capS _ => true
 | .lenStr .. => true
 | .lenC _ => true
 | .minmax .. => true
 | .mkFn .. => true
 | .extract .. => true
 | _ => false
def backOk (ops : List Oper) : Nat → Bool
 | 0 => true
 | n + 1 => backOk ops n && match ops[n]? with
  | some o => o.after.toList.all fun e => !Region.binds .any e || decide (e.on < n)
  | none => true
def quietAt (aops : List AOper) (k : Nat) : Bool := match aops[k]? with
 | some o => quietOp o.op
 | none => true
def neutralAt (aops : List AOper) (k : Nat) : Bool := match aops[k]? with
 | some o => neutralOp o.op
 | none => true
def allocAt (aops : List AOper) (k : Nat) : Bool := match aops[k]? with
 | some o => match o.dst with
  | some _ => match o.op with
   | .alloc _ => match o.guard with
    | none => true
    | some _ => false
   | _ => false
  | none => false
 | none => false
def swapAt (aops : List AOper) (an : List Nat) : Nat → Nat → Nat
 | 0, _ => aops.length
 | n + 1, i => if allocAt aops i && allocAt aops (i + 1) && !(an.getD (i + 1) 0).testBit i then i else swapAt aops an n (i + 1)
def orderOk (sw : Nat) (aops : List AOper) (an : List Nat) : Nat → Bool
 | 0 => true
 | j + 1 => orderOk sw aops an j && ((List.range j).all fun i =>
  (an.getD j 0).testBit i || ((quietAt aops i || quietAt aops j || (i == sw && j == sw + 1 && allocAt aops i && allocAt aops j)) && match aops[i]?, aops[j]? with
   | some x, some y => !clash x y && !clash y x
   | _, _ => false))
def stabOk (aops : List AOper) (ck : List (Nat × Nat)) (an : List Nat) (n : Nat) : Bool :=
 (List.range n).all fun k => neutralAt aops k || !quietAt aops k || ((List.range n).all fun m => quietAt aops m || (an.getD k 0).testBit m || (an.getD m 0).testBit k || ck.contains (k, m))
def isEqNil (P : Program) (d0 d1 : Nat) (o : Oper) : Bool :=
 (match o.dst with | some d => d == d1 | none => false) && o.guard.isNone && match o.op with
  | .binOp .eql t (.tmp x) (.const (.slice none 0 0)) _ => x == d0 && match P.underlying t with
   | some (.slice _) => true
   | _ => false
  | _ => false
def stab2Ok (sw : Nat) (aops : List AOper) (ck : List (Nat × Nat)) (an : List Nat) (n : Nat) : Bool :=
 !decide (sw + 1 < n) || (List.range n).all fun k => !quietAt aops k || neutralAt aops k || (an.getD k 0).testBit sw || ck.contains (k, sw)
def chkC : ACode → Code → Bool
 | .skip, .skip => true
 | .skip, .label _ => true
 | .region draw ck aops, .region _ ops draw' => draw == draw' && chkOpers P T ops aops ops.toList && (!draw || (orderOk (swapAt aops (ancs ops.toList ops.size []) ops.size 0) aops (ancs ops.toList ops.size []) ops.size && (stabOk aops ck (ancs ops.toList ops.size []) ops.size && stab2Ok (swapAt aops (ancs ops.toList ops.size []) ops.size 0) aops ck (ancs ops.toList ops.size []) ops.size) && backOk ops.toList ops.size))
 | .seq a b, .seq a' b' => chkC a a' && chkC b b'
 | .cond c a b, .cond c' a' b' => chkOpd T c c' && chkC a a' && chkC b b'
 | .block i c, .block j d => i == j && chkC c d
 | .loop _ _ c, .loop d => chkC c d
 | .exit i, .exit j => i == j
 | .ret, .ret => true
 | .frz _ c, d => chkC c d
 | .mask _ _ _ c, d => chkC c d
 | .loopV _ _ _ _ c, .loop d => chkC c d
 | .scope c, .scope d => chkC c d
 | .nilIf t d0 d1 a b, .seq (.seq (.region _ ops draw) (.cond (.tmp e) a' .skip)) b' => !draw && e == d1 && (match ops.toList with
   | [o1, o2] => chkOper P T ops ⟨some d0, .mov (.tmp t), none⟩ o1 && isEqNil P d0 d1 o2
   | _ => false) && chkC a a' && chkC b b'
 | .stop, _ => true
 | _, _ => false
def chkRes : List ARes → List ResultVar → Bool
 | [], [] => true
 | .tmp t :: r, .tmp u :: s => t == u && chkRes r s
 | .cell t n agg :: r, .cell u ty :: s => t == u && sizeIs P ty n && aggIs P ty agg && (agg || n == 1) && chkRes r s
 | _, _ => false
def chkFun (F : AFun) : Bool :=
 match P.funcs[F.fid]? with
 | some fn => match fn.body with
  | some c => chkC P T F.body c && fn.ntmps == F.nt && chkRes P F.rets fn.results.toList && !(fn.name == "runtime.NumGoroutine")
  | none => false
 | none => false
def chkAll : List AFun → Bool
 | [] => true
 | F :: r => chkFun P T F && chkAll r
end
end Go.Proofs.YtmflphfmefakfaaGreatDoor.Av
namespace Go.Proofs.YtmflphfmefakfaaGreatDoor.Av
open Go
theorem run_of_pureRun [GlobT] {α : Type} {P : Program} {a : α} {w : World} : ∀ {s : Sem α}, pureRun P s = some a → s.run P w = .ok a w
 | .pure _, h => by simp only [pureRun, Option.some.injEq] at h; subst h; rfl
 | .program k, h => by
  simp only [pureRun] at h
  simp only [Sem.run]
  exact run_of_pureRun h
 | .mark _ k, h => by
  simp only [pureRun] at h
  simp only [Sem.run]
  exact run_of_pureRun h
 | .load .., h => by simp [pureRun] at h
 | .store .., h => by simp [pureRun] at h
 | .new .., h => by simp [pureRun] at h
 | .shape .., h => by simp [pureRun] at h
 | .freeze .., h => by simp [pureRun] at h
 | .frozen .., h => by simp [pureRun] at h
 | .getObj .., h => by simp [pureRun] at h
 | .setObj .., h => by simp [pureRun] at h
 | .choose .., h => by simp [pureRun] at h
 | .sys .., h => by simp [pureRun] at h
 | .halt .., h => by simp [pureRun] at h
section inv
variable {FT : Nat → Option Nat} {c : Ctx} {v : Value}
theorem RV.ptr_inv {id tot idx off : Nat} (h : RV FT c (.ptr id tot idx off) v) : ∃ a s n, v = .pointer (some a) ∧ shp c.H id = some (s, n) ∧ tot ≤ n ∧
  (tot = n → ∃ b, c.β id = some b ∧ a = ⟨b, idx * s + off, none⟩) := by
 cases h with
 | pure _ _ hp => cases hp
 | ptr _ _ _ _ a s n h1 h2 h3 => exact ⟨a, s, n, rfl, h1, h2, h3⟩
theorem RV.ms_inv {id tot off len : Nat} (h : RV FT c (.ms id tot off len) v) : ∃ a cap s n, v = .slice a len cap ∧ shp c.H id = some (s, n) ∧ tot ≤ n ∧ len ≤ cap ∧
  (tot = n → MsOk c id tot off len a cap s) := by
 cases h with
 | pure _ _ hp => cases hp
 | ms _ _ _ _ a cap s n h1 h2 h3 h4 => exact ⟨a, cap, s, n, rfl, h1, h2, h3, h4⟩
theorem RV.sl_inv {f : Bool} {es : List (List AV)} (h : RV FT c (.sl f es) v) : RP c.w (Imm c) (.sl f es) v := by
 cases h with
 | pure _ _ hp => exact hp
theorem RV.rptr_inv {cs : List AV} (h : RV FT c (.rptr cs) v) : ∃ (b off : Nat) (cc : Array Value) (T : TypeId) (fz : Nat × Nat) (vals : Nat → Value), v = .pointer (some ⟨b, off, none⟩) ∧ Imm c b ∧
  c.w.heap[b]? = some (.cells cc T fz) ∧ (∀ (j : Nat) (x : AV), cs[j]? = some x → cc[off + j]? = some (vals j) ∧ scalarB (vals j) = true) ∧
  (∀ (j : Nat) (x : AV), cs[j]? = some x → RP c.w (Imm c) x (vals j)) := by
 cases h with
 | pure _ _ hp => cases hp
 | rptr _ b off cc T fz vals h1 h2 h3 h4 => exact ⟨b, off, cc, T, fz, vals, rfl, h1, h2, h3, h4⟩
theorem RV.mp_inv {id : Nat} (h : RV FT c (.mp id) v) : ∃ b, v = .map (some b) ∧ isMap c.H id ∧ c.β id = some b := by
 cases h with
 | pure _ _ hp => cases hp
 | mp _ b h1 h2 => exact ⟨b, rfl, h1, h2⟩
theorem RV.it_inv {id : Nat} (h : RV FT c (.it id) v) : ∃ b, v = .pointer (some ⟨b, 0, none⟩) ∧ isMap c.H id ∧ c.β id = some b := by
 cases h with
 | pure _ _ hp => cases hp
 | it _ b h1 h2 => exact ⟨b, rfl, h1, h2⟩
theorem RV.fn_inv {vi : Nat} {caps : List AV} (h : RV FT c (.fn vi caps) v) : ∃ (f : Nat) (cv : Array Value) (vals : Nat → Value), v = .func (.func f) #[] cv ∧ FT vi = some f ∧ cv.size = caps.length ∧
  (∀ (i : Nat) (x : AV), caps[i]? = some x → cv[i]? = some (vals i)) ∧ (∀ (i : Nat) (x : AV), caps[i]? = some x → RV FT c x (vals i)) := by
 cases h with
 | pure _ _ hp => cases hp
 | fn _ f _ cv vals h1 h2 h3 h4 => exact ⟨f, cv, vals, rfl, h1, h2, h3, h4⟩
theorem RV.agg_inv {cs : List AV} (h : RV FT c (.agg cs) v) : ∃ (cv : Array Value) (vals : Nat → Value), v = .agg cv ∧ cv.size = cs.length ∧
  (∀ (i : Nat) (x : AV), cs[i]? = some x → cv[i]? = some (vals i) ∧ scalarB (vals i) = true) ∧ (∀ (i : Nat) (x : AV), cs[i]? = some x → RV FT c x (vals i)) := by
 cases h with
 | pure _ _ hp => cases hp
 | agg _ cv vals h1 h2 h3 => exact ⟨cv, vals, rfl, h1, h2, h3⟩
theorem RV.tup_inv {cs : List AV} (h : RV FT c (.tup cs) v) : ∃ (cv : Array Value) (vals : Nat → Value), v = .tuple cv ∧ cv.size = cs.length ∧
  (∀ (i : Nat) (x : AV), cs[i]? = some x → cv[i]? = some (vals i)) ∧ (∀ (i : Nat) (x : AV), cs[i]? = some x → RV FT c x (vals i)) := by
 cases h with
 | pure _ _ hp => cases hp
 | tup _ cv vals h1 h2 h3 => exact ⟨cv, vals, rfl, h1, h2, h3⟩
end inv
theorem scalar_one (v : Value) : scalarB v = v.oneCell' := by cases v <;> rfl
section
variable {P : Program} {T : List AFun} {c : Ctx} {fl : Nat} {o : Oper} {a : Act} {tm : List AV}
def OpOK [GlobT] (P : Program) (FT : Nat → Option Nat) (c : Ctx) (fl : Nat) (o : Oper) (a : Act) (v : AV) (H' : Heap) : Prop :=
 ∀ (K : Act → World → Prop) (Q : Exit → Act → World → Prop),
  (∀ cv c', c'.H = H' → Step fl c c' → Sim FT c' → RV FT c' v cv → K (a.put o.dst cv) c'.w) → o.wp P a c.w K Q
theorem ok_value [GlobT] {FT : Nat → Option Nat} {v : AV} {H' : Heap} {cv : Value} {w' : World} {β' : Nat → Option Nat}
  (hr : (execOp a.eval o).run P c.w = .ok (.value cv) w') (hst : Step fl c ⟨w', c.X, β', H'⟩) (hs : Sim FT ⟨w', c.X, β', H'⟩)
  (hv : RV FT ⟨w', c.X, β', H'⟩ v cv) : OpOK P FT c fl o a v H' := by
 intro K Q hK
 unfold Oper.wp
 rw [hr]
 exact hK cv ⟨w', c.X, β', H'⟩ rfl hst hs hv
theorem ok_skip [GlobT] {FT : Nat → Option Nat} {H' : Heap} {w' : World} {β' : Nat → Option Nat}
  (hr : (execOp a.eval o).run P c.w = .ok .skip w') (hst : Step fl c ⟨w', c.X, β', H'⟩) (hs : Sim FT ⟨w', c.X, β', H'⟩) :
  OpOK P FT c fl o a (.lit undefV) H' := by
 intro K Q hK
 unfold Oper.wp
 rw [hr]
 exact hK undefV ⟨w', c.X, β', H'⟩ rfl hst hs (RV.lit _)
theorem ok_same [GlobT] {FT : Nat → Option Nat} {v : AV} {cv : Value} (hs : Sim FT c)
  (hr : (execOp a.eval o).run P c.w = .ok (.value cv) c.w) (hv : RV FT c v cv) : OpOK P FT c fl o a v c.H :=
 ok_value (β' := c.β) hr (Step.refl _ _) hs hv
theorem rv_agg_lits [GlobT] {FT : Nat → Option Nat} (vs : List Value) (hsc : ∀ v ∈ vs, scalarB v = true) : RV FT c (.agg (vs.map .lit)) (.agg vs.toArray) := by
 refine .agg _ _ (fun i => vs.getD i undefV) (by simp) ?_ ?_
 ·intro i x hx
  simp only [List.getElem?_map, Option.map_eq_some_iff] at hx
  obtain ⟨v, hv, rfl⟩ := hx
  refine ⟨by simp [hv], ?_⟩
  simp only [List.getD_eq_getElem?_getD, hv, Option.getD_some]
  exact hsc v (List.mem_of_getElem? hv)
 ·intro i x hx
  simp only [List.getElem?_map, Option.map_eq_some_iff] at hx
  obtain ⟨v, hv, rfl⟩ := hx
  simp only [List.getD_eq_getElem?_getD, hv, Option.getD_some]
  exact RV.lit v
theorem getOpd_rv [GlobT] (hs : Sim (ftOf T) c) (htr : TR (ftOf T) c tm a.tmps) {x : AOpd} {y : Operand} (h : chkOpd T x y = true) : RV (ftOf T) c (getOpd tm x) (a.eval y) := by
 unfold chkOpd at h
 split at h
 ·rename_i t u
  have : t = u := by simpa using h
  subst this
  simp only [getOpd, Act.eval]
  cases ht : tm[t]? with
  | none =>
   have hlt : a.tmps.size ≤ t := by rw [← htr.1]; simpa using ht
   have : a.tmps[t]? = none := Array.getElem?_eq_none hlt
   simp only [Array.getD_eq_getD_getElem?, this, Option.getD_none]
   exact RV.lit _
  | some x =>
   obtain ⟨v, hv, hr⟩ := htr.2 t x ht
   simpa [Array.getD_eq_getD_getElem?, hv] using hr
 ·rw [veq_eq h]; exact RV.lit _
 ·rename_i vs us
  have e := veqL_eq h
  simp only [getOpd, Act.eval]
  have : us = vs.toArray := by rw [e]
  rw [this]
  exact rv_agg_lits vs (veqL_scalar h)
 ·rename_i vi f
  simp only [getOpd, Act.eval]
  refine .fn vi f [] #[] (fun _ => undefV) (by simpa using h) rfl ?_ ?_ <;> intro i x hx <;> simp at hx
 ·rename_i g g'
  have : g = g' := by simpa using h
  subst this
  simp only [getOpd, Act.eval]
  split
  ·rename_i cs hcs
   exact hs.gl.rv hcs
  ·exact RV.undef _
 ·cases h
theorem op_mov [GlobT] (hs : Sim (ftOf T) c) (htr : TR (ftOf T) c tm a.tmps) {x : AOpd} {y : Operand} (ho : o.op = .move y ∨ o.op = .assign y) (h : chkOpd T x y = true) :
  OpOK P (ftOf T) c fl o a (getOpd tm x) c.H := by
 refine ok_same (cv := a.eval y) hs ?_ (getOpd_rv hs htr h)
 rcases ho with ho | ho <;> simp [execOp, ho]
theorem op_pick [GlobT] (hs : Sim (ftOf T) c) (htr : TR (ftOf T) c tm a.tmps) {x y z : AOpd} {x' y' z' : Operand} {t : Bool} (ho : o.op = .pick x' y' z')
  (h1 : chkOpd T x x' = true) (h2 : chkOpd T y y' = true) (h3 : chkOpd T z z' = true) (ht : getOpd tm x = .lit (.bool t)) :
  OpOK P (ftOf T) c fl o a (if t then getOpd tm y else getOpd tm z) c.H := by
 have hx := getOpd_rv hs htr h1
 rw [ht] at hx
 have ex := hx.lit_inv
 refine ok_same (cv := if t then a.eval y' else a.eval z') hs ?_ ?_
 ·simp [execOp, ho, ex, asBool]
 ·cases t
  ·exact getOpd_rv hs htr h3
  ·exact getOpd_rv hs htr h2
theorem zeroIs_spec [GlobT] {t : TypeId} {z : List Value} (h : zeroIs P t z = true) : ∃ i v, P.info? t = some i ∧ i.zero = some v ∧ v.cells = z.toArray ∧ ∀ u ∈ z, scalarB u = true := by
 unfold zeroIs at h
 split at h
 ·rename_i i hi
  split at h
  ·rename_i v hv
   refine ⟨i, v, hi, hv, ?_, veqL_scalar h⟩
   have := veqL_eq h
   rw [this]
  ·cases h
 ·cases h
theorem cellE_one {cs : List AV} {i j : Nat} {x : AV} (h : cellE [cs] i j = some x) : i = 0 ∧ cs[j]? = some x := by
 unfold cellE at h
 cases i with
 | zero => simpa using h
 | succ i => simp at h
theorem rv_new_ptr {FT : Nat → Option Nat} {w' : World} {X : Nat → Prop} {s : Nat} {cs : List AV} {L : List AObj} (β : Nat → Option Nat) (H : Heap) (b : Nat)
  (hb : β H.length = some b) : RV FT ⟨w', X, β, H ++ .blk s [cs] :: L⟩ (.ptr H.length 1 0 0) (.pointer (some ⟨b, 0, none⟩)) :=
 .ptr H.length 1 0 0 _ s 1 (by simp [shp]) (Nat.le_refl _) fun _ => ⟨b, hb, by simp⟩
theorem op_newVar [GlobT] (hs : Sim (ftOf T) c) (hfl : fl ≤ c.H.length) {cs : List AV} {cv : Array Value} {t : TypeId}
  (hr : (execOp a.eval o).run P c.w = .ok (.value (.pointer (some ⟨c.w.heap.size, 0, none⟩))) (c.w.alloc (.cells cv t (0, 0))))
  (hsz : cv.size = cs.length) (hcs : ∀ (j : Nat) (x : AV), cs[j]? = some x → ∃ v, cv[j]? = some v ∧ scalarB v = true ∧ RV (ftOf T) c x v) :
  OpOK P (ftOf T) c fl o a (.ptr c.H.length 1 0 0) (c.H ++ [.blk cs.length [cs]]) := by
 refine ok_value (β' := upd c.β c.H.length c.w.heap.size) hr (step_new (ob := .cells cv t (0, 0)) hfl rfl rfl rfl rfl (fun id b hb => hs.lt hb))
  (sim_new (ob := .cells cv t (0, 0)) hs rfl rfl rfl rfl ?_ ?_ ?_ (fun _ h => by cases h)) (rv_new_ptr (L := []) _ _ _ (upd_same _ _ _))
 ·intro s es he e hm
  cases he
  simp only [List.mem_singleton] at hm
  rw [hm]
 ·intro s es he
  cases he
  refine ⟨cv, t, rfl, by simp [hsz], ?_⟩
  intro i j x hx
  obtain ⟨rfl, hj⟩ := cellE_one hx
  obtain ⟨v, h1, h2, h3⟩ := hcs j x hj
  exact ⟨v, by simpa using h1, h2, h3⟩
 ·intro ents he; cases he
theorem op_alloc [GlobT] (hs : Sim (ftOf T) c) (hfl : fl ≤ c.H.length) {z : List Value} {t : TypeId} (ho : o.op = .alloc t) (h : zeroIs P t z = true) :
  OpOK P (ftOf T) c fl o a (.ptr c.H.length 1 0 0) (c.H ++ [.blk z.length [z.map .lit]]) := by
 obtain ⟨i, v, hi, hv, hc, hsc⟩ := zeroIs_spec h
 have := op_newVar (P := P) (o := o) (a := a) (cs := z.map AV.lit) (cv := z.toArray) (t := t) hs hfl ?_ (by simp) ?_
 ·simpa using this
 ·simp [execOp, ho, Instr.alloc, zeroValue, typeInfo, hi, hv, newVar, newRow, hc]
 ·intro j x hx
  simp only [List.getElem?_map, Option.map_eq_some_iff] at hx
  obtain ⟨u, hu, rfl⟩ := hx
  exact ⟨u, by simpa using hu, hsc u (List.mem_of_getElem? hu), RV.lit u⟩
theorem cellsOf_rv [GlobT] {FT : Nat → Option Nat} {x : AV} {v : Value} {cs : List AV} (hr : RV FT c x v) (h : cellsOf x = some cs) :
  v.cells.size = cs.length ∧ ∀ (j : Nat) (y : AV), cs[j]? = some y → ∃ u, v.cells[j]? = some u ∧ scalarB u = true ∧ RV FT c y u := by
 have one : ∀ {x : AV} {v : Value}, RV FT c x v → scalarB v = true → cs = [x] →
   v.cells.size = cs.length ∧ ∀ (j : Nat) (y : AV), cs[j]? = some y → ∃ u, v.cells[j]? = some u ∧ scalarB u = true ∧ RV FT c y u := by
  intro x v hr hsc e
  have hv : v.cells = #[v] := by cases v <;> first | rfl | (simp [scalarB] at hsc)
  subst e
  rw [hv]
  refine ⟨rfl, fun j y hy => ?_⟩
  cases j with
  | zero => simp at hy; subst hy; exact ⟨v, by simp, hsc, hr⟩
  | succ j => simp at hy
 cases hr with
 | pure _ _ hp =>
  cases hp with
  | undef => simp [cellsOf] at h
  | lit v =>
   simp only [cellsOf] at h
   split at h
   ·rename_i hsc
    cases h
    exact one (RV.lit v) hsc rfl
   ·cases h
  | nil f a' cap hf =>
   simp only [cellsOf, Option.some.injEq] at h
   exact one (.pure _ _ (.nil f a' cap hf)) rfl h.symm
  | sl f es b off cap cc T fz s vals h1 h2 h3 h4 h5 h6 h7 h8 =>
   simp only [cellsOf, Option.some.injEq] at h
   exact one (.pure _ _ (.sl f es b off cap cc T fz s vals h1 h2 h3 h4 h5 h6 h7 h8)) rfl h.symm
 | ms id tot off len a' cap s n h1 h2 h3 h4 =>
  simp only [cellsOf, Option.some.injEq] at h
  exact one (.ms id tot off len a' cap s n h1 h2 h3 h4) rfl h.symm
 | ptr id tot idx off a' s n h1 h2 h3 =>
  simp only [cellsOf, Option.some.injEq] at h
  exact one (.ptr id tot idx off a' s n h1 h2 h3) rfl h.symm
 | rptr cs' b off cc T fz vals h1 h2 h3 h4 =>
  simp only [cellsOf, Option.some.injEq] at h
  exact one (.rptr cs' b off cc T fz vals h1 h2 h3 h4) rfl h.symm
 | mp id b h1 h2 =>
  simp only [cellsOf, Option.some.injEq] at h
  exact one (.mp id b h1 h2) rfl h.symm
 | it id b h1 h2 =>
  simp only [cellsOf, Option.some.injEq] at h
  exact one (.it id b h1 h2) rfl h.symm
 | fn vi f caps cv vals h1 h2 h3 h4 =>
  simp only [cellsOf, Option.some.injEq] at h
  exact one (.fn vi f caps cv vals h1 h2 h3 h4) rfl h.symm
 | agg cs' cv vals h1 h2 h3 =>
  simp only [cellsOf, Option.some.injEq] at h
  subst h
  exact ⟨h1, fun j y hy => ⟨vals j, (h2 j y hy).1, (h2 j y hy).2, h3 j y hy⟩⟩
 | tup => simp [cellsOf] at h
theorem op_box [GlobT] (hs : Sim (ftOf T) c) (htr : TR (ftOf T) c tm a.tmps) (hfl : fl ≤ c.H.length) {x : AOpd} {y : Operand} {t : TypeId} {cs : List AV} (ho : o.op = .box t y)
  (h : chkOpd T x y = true) (hc : cellsOf (getOpd tm x) = some cs) :
  OpOK P (ftOf T) c fl o a (.ptr c.H.length 1 0 0) (c.H ++ [.blk cs.length [cs]]) := by
 obtain ⟨h1, h2⟩ := cellsOf_rv (getOpd_rv hs htr h) hc
 refine op_newVar (cv := (a.eval y).cells) (t := t) hs hfl ?_ h1 h2
 simp [execOp, ho, Instr.box, newVar, newRow]
theorem op_claim [GlobT] (hs : Sim (ftOf T) c) (hfl : fl ≤ c.H.length) {s : Nat} (ho : o.op = .move (.const nilS) ∨ o.op = .assign (.const nilS)) :
  OpOK P (ftOf T) c fl o a (.ms c.H.length 0 0 0) (c.H ++ [.blk s []]) := by
 refine ok_value (cv := nilS) (β' := c.β) ?_ (step_claim hfl) (sim_claim hs) ?_
 ·rcases ho with ho | ho <;> simp [execOp, ho, Act.eval]
 ·refine .ms _ 0 0 0 none 0 s 0 (by simp [shp]) (Nat.le_refl _) (Nat.le_refl _) fun _ => ⟨Nat.le_refl _, .inl ⟨?_, rfl, rfl, rfl⟩⟩
  cases hb : c.β c.H.length with
  | none => rfl
  | some b => have := hs.dom _ b hb; omega
theorem addr_add (b k j : Nat) : (⟨b, k, none⟩ : Addr).add j = ⟨b, k + j, none⟩ := by unfold Addr.add; split <;> simp_all
def CellsAt (FT : Nat → Option Nat) (c : Ctx) (ad : Addr) (cs : List AV) (vs : List Value) : Prop :=
 vs.length = cs.length ∧ (∀ (j : Nat) (u : Value), vs[j]? = some u → c.w.cell? (ad.add j) = some u) ∧
 ∀ (j : Nat) (x : AV), cs[j]? = some x → ∃ u, vs[j]? = some u ∧ scalarB u = true ∧ RV FT c x u
theorem shp_of {H : Heap} {id s : Nat} {es : List (List AV)} (h : H[id]? = some (.blk s es)) : shp H id = some (s, es.length) := by simp [shp, h]
theorem cellsAt_row [GlobT] {FT : Nat → Option Nat} {b k n : Nat} {cc : Array Value} {T : TypeId} {fz : Nat × Nat} {cs : List AV} (hb : c.w.heap[b]? = some (.cells cc T fz)) (hn : cs.length = n)
  (h : ∀ (j : Nat) (x : AV), cs[j]? = some x → ∃ u, cc[k + j]? = some u ∧ scalarB u = true ∧ RV FT c x u) :
  CellsAt FT c ⟨b, k, none⟩ cs ((cc.toList.drop k).take n) := by
 refine ⟨?_, ?_, ?_⟩
 ·simp only [List.length_take, List.length_drop, Array.length_toList, hn]
  cases n with
  | zero => simp
  | succ m =>
   obtain ⟨u, hu, _⟩ := h m (cs[m]'(by omega)) (by simp)
   have : k + m < cc.size := (Array.getElem?_eq_some_iff.1 hu).1
   omega
 ·intro j u hu
  rw [addr_add, cell_of_row c.w b (k + j) cc T fz hb]
  rw [List.getElem?_take] at hu
  split at hu
  ·simpa using hu
  ·cases hu
 ·intro j x hx
  obtain ⟨u, h1, h2, h3⟩ := h j x hx
  have hj : j < n := by rw [← hn]; exact (List.getElem?_eq_some_iff.1 hx).1
  refine ⟨u, ?_, h2, h3⟩
  rw [List.getElem?_take, if_pos hj]
  simpa using h1
theorem ldCells_rv [GlobT] {FT : Nat → Option Nat} (hs : Sim FT c) {x : AV} {v : Value} {n : Nat} {cs : List AV} (hr : RV FT c x v) (h : ldCells c.H x n = some cs) :
  ∃ (ad : Addr) (vs : List Value), v = .pointer (some ad) ∧ cs.length = n ∧ CellsAt FT c ad cs vs := by
 unfold ldCells at h
 split at h
 ·rename_i id tot idx off
  split at h
  ·rename_i s es ho
   split at h
   ·rename_i ht
    split at h
    ·rename_i e he
     split at h
     ·rename_i hle
      cases h
      cases hr with
      | pure _ _ hp => cases hp
      | ptr _ _ _ _ ad s' n' h1 h2 h3 =>
       rw [shp_of ho] at h1
       cases h1
       obtain ⟨b, hb, rfl⟩ := h3 ht.symm
       obtain ⟨cc, T, g1, g2, g3⟩ := hs.blk id s es b ho hb
       have hel := hs.lens id s es ho e (List.mem_of_getElem? he)
       have hcl : ((e.drop off).take n).length = n := by simp; omega
       refine ⟨_, _, rfl, hcl, cellsAt_row (n := n) g1 hcl ?_⟩
       intro j x hx
       rw [List.getElem?_take] at hx
       split at hx
       ·rw [List.getElem?_drop] at hx
        have := g3 idx (off + j) x (by simp [cellE, he, hx])
        simpa [Nat.add_assoc] using this
       ·cases hx
     ·cases h
    ·cases h
   ·cases h
  ·cases h
 ·rename_i cs0
  split at h
  ·rename_i hle
   cases h
   cases hr with
   | pure _ _ hp => cases hp
   | rptr _ b off cc T fz vals h1 h2 h3 h4 =>
    have hcl : (cs0.take n).length = n := by simp; omega
    refine ⟨_, _, rfl, hcl, cellsAt_row (n := n) h2 hcl ?_⟩
    intro j x hx
    rw [List.getElem?_take] at hx
    split at hx
    ·exact ⟨vals j, (h3 j x hx).1, (h3 j x hx).2, .pure _ _ (h4 j x hx)⟩
    ·cases hx
  ·cases h
 ·cases h
theorem rv_agg_cells {FT : Nat → Option Nat} {ad : Addr} {cs : List AV} {vs : List Value} (h : CellsAt FT c ad cs vs) : RV FT c (.agg cs) (.agg vs.toArray) := by
 refine .agg cs vs.toArray (fun i => vs.getD i undefV) (by simp [h.1]) ?_ ?_
 ·intro i x hx
  obtain ⟨u, h1, h2, _⟩ := h.2.2 i x hx
  simp [List.getD_eq_getElem?_getD, h1, h2]
 ·intro i x hx
  obtain ⟨u, h1, _, h3⟩ := h.2.2 i x hx
  simpa [List.getD_eq_getElem?_getD, h1] using h3
theorem sizeIs_spec {t : TypeId} {n : Nat} (h : sizeIs P t n = true) : ∃ i, P.info? t = some i ∧ i.size = n := by
 unfold sizeIs at h
 split at h
 ·rename_i i hi; exact ⟨i, hi, by simpa using h⟩
 ·cases h
theorem aggIs_run {t : TypeId} {b : Bool} (h : aggIs P t b = true) (w : World) : (isAgg t).run P w = .ok b w := by
 unfold aggIs at h
 unfold isAgg
 split at h
 ·rename_i hu; simp [run_underlying hu, h]
 ·rename_i hu; simp [run_underlying hu, h]
 ·rename_i d h1 h2 hu
  rw [Sem.run_bind, run_underlying hu]
  simp only [Result.andThen_ok]
  have hb : b = false := by simpa using h
  subst hb
  cases d with
  | struct fs => exact (h1 fs rfl).elim
  | array n e => exact (h2 n e rfl).elim
  | _ => rfl
 ·cases h
theorem run_loadVar_at [GlobT] {FT : Nat → Option Nat} {ad : Addr} {cs : List AV} {vs : List Value} {t : TypeId} {n : Nat} {agg : Bool} (hc : CellsAt FT c ad cs vs) (hn : cs.length = n)
  (h1 : aggIs P t agg = true) (h2 : sizeIs P t n = true) :
  agg = true → (loadVar t ad).run P c.w = .ok (.agg vs.toArray) c.w := by
 intro e
 subst e
 obtain ⟨i, hi, hsz⟩ := sizeIs_spec h2
 have hl := run_loadCells_list (P := P) c.w ad vs hc.2.1
 have e : vs.length = n := hc.1.trans hn
 simp [loadVar, aggIs_run h1, sizeOf, typeInfo, hi, hsz, ← e, hl]
theorem run_loadVar_one [GlobT] {ad : Addr} {u : Value} {t : TypeId} (hc : c.w.cell? ad = some u) (h1 : aggIs P t false = true) :
  (loadVar t ad).run P c.w = .ok u c.w := by
 simp [loadVar, aggIs_run h1, hc]
theorem op_load [GlobT] (hs : Sim (ftOf T) c) (htr : TR (ftOf T) c tm a.tmps) {x : AOpd} {y : Operand} {t : TypeId} {n : Nat} {agg : Bool} {cs : List AV} {v : AV} (ho : o.op = .load t y)
  (h : chkOpd T x y = true) (h1 : aggIs P t agg = true) (h2 : sizeIs P t n = true) (hl : ldCells c.H (getOpd tm x) n = some cs)
  (hv : if agg then v = .agg cs else cs = [v]) : OpOK P (ftOf T) c fl o a v c.H := by
 obtain ⟨ad, vs, hp, hn, hc⟩ := ldCells_rv hs (getOpd_rv hs htr h) hl
 cases agg with
 | true =>
  simp only [if_true] at hv
  subst hv
  refine ok_same (cv := .agg vs.toArray) hs ?_ (rv_agg_cells hc)
  simp [execOp, ho, Instr.loadAt, Instr.sureAddr, hp, run_loadVar_at hc hn h1 h2 rfl]
 | false =>
  simp only [Bool.false_eq_true, if_false] at hv
  subst hv
  obtain ⟨u, g1, g2, g3⟩ := hc.2.2 0 v (by simp)
  have hcell := hc.2.1 0 u g1
  have e0 : ad.add 0 = ad := by simp [Addr.add]
  rw [e0] at hcell
  refine ok_same (cv := u) hs ?_ g3
  simp [execOp, ho, Instr.loadAt, Instr.sureAddr, hp, run_loadVar_one hcell h1]
theorem splice_length {α : Type} {l vs : List α} {k : Nat} (h : k + vs.length ≤ l.length) : (splice l k vs).length = l.length := by
 simp only [splice, List.length_append, List.length_take, List.length_drop]; omega
theorem splice_get {α : Type} {l vs : List α} {k : Nat} (h : k + vs.length ≤ l.length) (p : Nat) :
  (splice l k vs)[p]? = if p < k then l[p]? else if p < k + vs.length then vs[p - k]? else l[p]? := by
 unfold splice
 rw [List.getElem?_append]
 simp only [List.length_take]
 have hk : min k l.length = k := by omega
 rw [hk]
 split
 ·rename_i hp
  rw [List.getElem?_take, if_pos hp]
 ·rename_i hp
  rw [List.getElem?_append]
  split
  ·rename_i hq
   rw [if_pos (by omega)]
  ·rename_i hq
   rw [if_neg (by omega), List.getElem?_drop]
   congr 1
   omega
theorem row_ne {s i i' j j' : Nat} (hi : i ≠ i') (hj : j < s) (hj' : j' < s) : i * s + j ≠ i' * s + j' := by
 intro e
 rcases Nat.lt_or_gt_of_ne hi with h | h
 ·have : (i + 1) * s ≤ i' * s := Nat.mul_le_mul_right s h
  rw [Nat.add_mul] at this; omega
 ·have : (i' + 1) * s ≤ i * s := Nat.mul_le_mul_right s h
  rw [Nat.add_mul] at this; omega
theorem row_lt {s i n j : Nat} (hi : i < n) (hj : j < s) : i * s + j < n * s := by
 have : (i + 1) * s ≤ n * s := Nat.mul_le_mul_right s hi
 rw [Nat.add_mul] at this; omega
theorem cellE_some {es : List (List AV)} {i j : Nat} {x : AV} (h : cellE es i j = some x) : ∃ e, es[i]? = some e ∧ e[j]? = some x := by
 unfold cellE at h
 cases he : es[i]? with
 | none => simp [he] at h
 | some e => exact ⟨e, rfl, by simpa [he] using h⟩
theorem blk_put [GlobT] {FT : Nat → Option Nat} {s idx off : Nat} {es : List (List AV)} {e cs : List AV} {vs : List Value} {cc : Array Value}
  (hl : ∀ e ∈ es, e.length = s) (he : es[idx]? = some e) (hfit : off + cs.length ≤ e.length) (hsz : es.length * s ≤ cc.size) (hvs : vs.length = cs.length)
  (hold : ∀ i j x, cellE es i j = some x → ∃ v, cc[i * s + j]? = some v ∧ scalarB v = true ∧ RV FT c x v)
  (hnew : ∀ (j : Nat) (x : AV), cs[j]? = some x → ∃ u, vs[j]? = some u ∧ scalarB u = true ∧ RV FT c x u) :
  (∀ e' ∈ es.set idx (splice e off cs), e'.length = s) ∧
  ∀ i j x, cellE (es.set idx (splice e off cs)) i j = some x →
   ∃ v, ((splice cc.toList (idx * s + off) vs).toArray)[i * s + j]? = some v ∧ scalarB v = true ∧ RV FT c x v := by
 have hes : e.length = s := hl e (List.mem_of_getElem? he)
 have hidx : idx < es.length := (List.getElem?_eq_some_iff.1 he).1
 have hlt : (idx + 1) * s ≤ es.length * s := Nat.mul_le_mul_right s hidx
 rw [Nat.add_mul] at hlt
 have hfit2 : idx * s + off + vs.length ≤ cc.toList.length := by simp only [Array.length_toList]; omega
 refine ⟨?_, ?_⟩
 ·intro e' he'
  rcases List.mem_or_eq_of_mem_set he' with h | h
  ·exact hl e' h
  ·rw [h, splice_length hfit, hes]
 ·intro i j x hx
  simp only [List.getElem?_toArray, splice_get hfit2]
  obtain ⟨e1, h1, h2⟩ := cellE_some hx
  by_cases ei : i = idx
  ·subst ei
   rw [getElem?_set_eq' he] at h1
   cases h1
   rw [splice_get hfit] at h2
   split at h2
   ·rename_i hj
    rw [if_pos (by omega)]
    have := hold i j x (by simp [cellE, he, h2])
    simpa using this
   ·rename_i hj
    split at h2
    ·rename_i hj2
     rw [if_neg (by omega), if_pos (by omega)]
     obtain ⟨u, g1, g2, g3⟩ := hnew _ x h2
     refine ⟨u, ?_, g2, g3⟩
     rw [← g1]
     congr 1
     omega
    ·rename_i hj2
     rw [if_neg (by omega), if_neg (by omega)]
     have := hold i j x (by simp [cellE, he, h2])
     simpa using this
  ·rw [getElem?_set_ne' ei] at h1
   have hj : j < s := by
    rw [← hl e1 (List.mem_of_getElem? h1)]; exact (List.getElem?_eq_some_iff.1 h2).1
   have hout : i * s + j < idx * s + off ∨ idx * s + off + vs.length ≤ i * s + j := by
    rcases Nat.lt_or_gt_of_ne ei with h | h
    ·have : (i + 1) * s ≤ idx * s := Nat.mul_le_mul_right s h
     rw [Nat.add_mul] at this; omega
    ·have : (idx + 1) * s ≤ i * s := Nat.mul_le_mul_right s h
     rw [Nat.add_mul] at this; omega
   have key := hold i j x (by simp [cellE, h1, h2])
   rcases hout with h | h
   ·rw [if_pos h]; simpa using key
   ·rw [if_neg (by omega), if_neg (by omega)]; simpa using key
theorem setRow_splice (w : World) (g k : Nat) (cc : Array Value) (vs : List Value) :
  w.setRow g (cc.toList.take (k + 0) ++ vs ++ cc.toList.drop (k + 0 + vs.length)).toArray = w.setRow g (splice cc.toList k vs).toArray := by
 simp [splice]
theorem op_store [GlobT] (hs : Sim (ftOf T) c) (htr : TR (ftOf T) c tm a.tmps) {x v : AOpd} {y u : Operand} {t : TypeId} {n : Nat} {cs : List AV} {H' : Heap} (ho : o.op = .store t y u)
  (h1 : chkOpd T x y = true) (h2 : chkOpd T v u = true) (h3 : sizeIs P t n = true) (hc : cellsOf (getOpd tm v) = some cs) (hn : cs.length = n)
  (hst : stCells fl c.H (getOpd tm x) cs = some H') : OpOK P (ftOf T) c fl o a (.lit undefV) H' := by
 obtain ⟨i, hi, hsz⟩ := sizeIs_spec h3
 obtain ⟨hvs, hvr⟩ := cellsOf_rv (getOpd_rv hs htr h2) hc
 have hx := getOpd_rv hs htr h1
 unfold stCells at hst
 split at hst
 ·rename_i id tot idx off hxe
  rw [hxe] at hx
  split at hst
  ·rename_i hfl
   split at hst
   ·rename_i s es hob
    split at hst
    ·rename_i htot
     split at hst
     ·rename_i e he
      split at hst
      ·rename_i hfit
       cases hst
       ·obtain ⟨ad, s', n', hxa, g1, g2, g3⟩ := hx.ptr_inv
        rw [shp_of hob] at g1
        cases g1
        obtain ⟨b, hb, rfl⟩ := g3 htot.symm
        obtain ⟨cc, Ty, k1, k2, k3⟩ := hs.blk id s es b hob hb
        have hlens := hs.lens id s es hob
        have hes : e.length = s := hlens e (List.mem_of_getElem? he)
        have hidx : idx < es.length := (List.getElem?_eq_some_iff.1 he).1
        have hlt : (idx + 1) * s ≤ es.length * s := Nat.mul_le_mul_right s hidx
        rw [Nat.add_mul] at hlt
        have hvl : (a.eval u).cells.toList.length = cs.length := by simpa using hvs
        obtain ⟨p1, p2⟩ := blk_put (vs := (a.eval u).cells.toList) (cc := cc) hlens he hfit k2 hvl k3 (fun j x hx => by simpa using hvr j x hx)
        have hfit2 : idx * s + off + (a.eval u).cells.toList.length ≤ cc.toList.length := by simp only [Array.length_toList] at hvl ⊢; omega
        have hone : ∀ v ∈ (a.eval u).cells.toList, v.oneCell' = true := by
         intro v hv
         obtain ⟨j, hj⟩ := List.mem_iff_getElem?.1 hv
         have hjl : j < cs.length := by rw [← hvl]; exact (List.getElem?_eq_some_iff.1 hj).1
         obtain ⟨u', w1, w2, _⟩ := hvr j cs[j] (by simp)
         have : u' = v := by
          have hj' : (a.eval u).cells[j]? = some v := by simpa using hj
          rw [w1] at hj'; exact Option.some.inj hj'
         rw [← scalar_one, ← this]; exact w2
        have hrun := run_storeCells_at P b (idx * s + off) Ty (a.eval u).cells.toList 0 cc c.w k1 (by simpa using hfit2) hone
        rw [setRow_splice] at hrun
        have hsplen := splice_length hfit2
        refine ok_skip (w' := c.w.setRow b (splice cc.toList (idx * s + off) (a.eval u).cells.toList).toArray) (β' := c.β) ?_
         (step_set (cs' := (splice cc.toList (idx * s + off) (a.eval u).cells.toList).toArray) hs hfl hob hb k1 (by simp) ?_ (setRow_heap c.w b cc _ Ty _ k1) (fun k hk => setRow_other c.w b k _ hk) (by simp) rfl rfl rfl)
         (sim_set (cs' := (splice cc.toList (idx * s + off) (a.eval u).cells.toList).toArray) hs hob hb k1 (by simp) ?_ (setRow_heap c.w b cc _ Ty _ k1) (fun k hk => setRow_other c.w b k _ hk) (by simp) rfl rfl rfl p1 ?_ p2)
        ·have hne : ¬ (a.eval u).cells.size ≠ i.size := by rw [hvs, hn, hsz]; simp
         simp [execOp, ho, Instr.storeAt, Instr.sureAddr, storeVar, sizeOf, typeInfo, hxa, hi, hvs, hn, hsz, hrun]
        ·simpa using hsplen
        ·simpa using hsplen
        ·simp only [List.length_set, List.size_toArray, hsplen, Array.length_toList]; exact k2
      ·cases hst
     ·cases hst
    ·cases hst
   ·cases hst
  ·cases hst
 ·cases hst
end
end Go.Proofs.YtmflphfmefakfaaGreatDoor.Av
namespace Go.Proofs.YtmflphfmefakfaaGreatDoor.Av
open Go
section
variable {P : Program} {T : List AFun} {c : Ctx} {fl : Nat} {o : Oper} {a : Act} {tm : List AV}
theorem op_nilCheck [GlobT] (hs : Sim (ftOf T) c) (htr : TR (ftOf T) c tm a.tmps) {x : AOpd} {y : Operand} (ho : o.op = .nilCheck y) (h : chkOpd T x y = true)
  (hk : (∃ id tot idx off, getOpd tm x = .ptr id tot idx off) ∨ (∃ cs, getOpd tm x = .rptr cs) ∨ ∃ vi caps, getOpd tm x = .fn vi caps) :
  OpOK P (ftOf T) c fl o a (getOpd tm x) c.H := by
 have hx := getOpd_rv hs htr h
 refine ok_same (cv := a.eval y) hs ?_ hx
 rcases hk with ⟨id, tot, idx, off, hk⟩ | ⟨cs, hk⟩ | ⟨vi, caps, hk⟩ <;> rw [hk] at hx
 ·obtain ⟨ad, s, n, hv, _⟩ := hx.ptr_inv
  simp [execOp, ho, hv]
 ·obtain ⟨b, off, cc, Ty, fz, vals, hv, _⟩ := hx.rptr_inv
  simp [execOp, ho, hv]
 ·obtain ⟨f, cv, vals, hv, _⟩ := hx.fn_inv
  simp [execOp, ho, hv]
theorem ibinV_run {op : BinOp} {k : IntKind} {x y : Int} {t : TypeId} {r : Value} (h : ibinV op k x y = some r) (w : World) : (binOp op t (.int k x) (.int k y)).run P w = .ok r w := by
 cases op <;> simp [ibinV] at h <;> subst h <;> simp [binOp, Op.intArith, Op.intCmp]
theorem eqGuard_int {op : BinOp} {k k' : IntKind} {x y : Int} {t : TypeId} {p q : Operand} (w : World) : (eqGuard op t p q (.int k x) (.int k' y)).run P w = .ok () w := by
 unfold eqGuard
 split <;> simp
theorem op_ibin [GlobT] (hs : Sim (ftOf T) c) (htr : TR (ftOf T) c tm a.tmps) {op : BinOp} {x y : AOpd} {x' y' : Operand} {t t' : TypeId} {k : IntKind} {n m : Int} {r : Value} (ho : o.op = .binOp op t x' y' t')
  (h1 : chkOpd T x x' = true) (h2 : chkOpd T y y' = true) (e1 : getOpd tm x = .lit (.int k n)) (e2 : getOpd tm y = .lit (.int k m)) (hr : ibinV op k n m = some r) :
  OpOK P (ftOf T) c fl o a (.lit r) c.H := by
 have hx := getOpd_rv hs htr h1
 have hy := getOpd_rv hs htr h2
 rw [e1] at hx
 rw [e2] at hy
 refine ok_same (cv := r) hs ?_ (RV.lit r)
 simp [execOp, ho, hx.lit_inv, hy.lit_inv, eqGuard_int, ibinV_run hr]
theorem litL_rv [GlobT] : ∀ {cs : List AV} {l : List Value}, litL cs = some l → cs = l.map .lit
 | [], l, h => by simp [litL] at h; subst h; rfl
 | .lit v :: r, l, h => by
  simp only [litL] at h
  split at h
  ·rename_i l' hl
   cases h
   rw [litL_rv hl]; rfl
  ·cases h
 | .undef :: _, _, h => by simp [litL] at h
 | .sl .. :: _, _, h => by simp [litL] at h
 | .ms .. :: _, _, h => by simp [litL] at h
 | .ptr .. :: _, _, h => by simp [litL] at h
 | .rptr .. :: _, _, h => by simp [litL] at h
 | .mp .. :: _, _, h => by simp [litL] at h
 | .fn .. :: _, _, h => by simp [litL] at h
 | .agg .. :: _, _, h => by simp [litL] at h
 | .tup .. :: _, _, h => by simp [litL] at h
theorem lits_rv [GlobT] {FT : Nat → Option Nat} {x : AV} {v u : Value} (hr : RV FT c x v) (h : lits x = some u) : v = u := by
 unfold lits at h
 split at h
 ·cases h; exact hr.lit_inv
 ·rename_i cs
  split at h
  ·rename_i l hl
   cases h
   have e := litL_rv hl
   subst e
   obtain ⟨cv, vals, rfl, h1, h2, h3⟩ := hr.agg_inv
   congr 1
   apply Array.ext_getElem?
   intro i
   by_cases hi : i < l.length
   ·have hx : (l.map AV.lit)[i]? = some (.lit l[i]) := by simp [hi]
    have := (h3 i _ hx).lit_inv
    rw [(h2 i _ hx).1, this]
    simp [hi]
   ·rw [Array.getElem?_eq_none (by simp at h1; omega), Array.getElem?_eq_none (by simp; omega)]
  ·cases h
 ·cases h
theorem eqGuard_congr {op : BinOp} {t : TypeId} {v u : Value} {p q p' q' : Operand} (hn : notNil v = true) : eqGuard op t p q v u = eqGuard op t p' q' v u := by
 unfold eqGuard
 cases v <;> first | rfl | (cases u <;> rfl) | (simp [notNil] at hn)
theorem eqGuard_run [GlobT] {op : BinOp} {t : TypeId} {v u : Value} {p q : Operand} (hn : notNil v = true) (h : pureRun P (eqGuard op t (.tmp 0) (.tmp 0) v u) = some ()) (w : World) :
  (eqGuard op t p q v u).run P w = .ok () w := by
 rw [eqGuard_congr (p' := .tmp 0) (q' := .tmp 0) hn]
 exact run_of_pureRun h
theorem op_bin [GlobT] (hs : Sim (ftOf T) c) (htr : TR (ftOf T) c tm a.tmps) {op : BinOp} {x y : AOpd} {x' y' : Operand} {t t' : TypeId} {v u r : Value} (ho : o.op = .binOp op t x' y' t')
  (h1 : chkOpd T x x' = true) (h2 : chkOpd T y y' = true) (e1 : lits (getOpd tm x) = some v) (e2 : lits (getOpd tm y) = some u)
  (hn : notNil v = true) (hg : pureRun P (eqGuard op t (.tmp 0) (.tmp 0) v u) = some ()) (hr : pureRun P (binOp op t v u) = some r) :
  OpOK P (ftOf T) c fl o a (.lit r) c.H := by
 have hx := lits_rv (getOpd_rv hs htr h1) e1
 have hy := lits_rv (getOpd_rv hs htr h2) e2
 refine ok_same (cv := r) hs ?_ (RV.lit r)
 simp [execOp, ho, hx, hy, eqGuard_run hn hg, run_of_pureRun hr]
theorem op_un [GlobT] (hs : Sim (ftOf T) c) (htr : TR (ftOf T) c tm a.tmps) {op : UnOp} {x : AOpd} {x' : Operand} {t : TypeId} {v r : Value} (ho : o.op = .unOp op t x')
  (h1 : chkOpd T x x' = true) (e1 : getOpd tm x = .lit v) (hr : pureRun P (Op.unary op v) = some r) : OpOK P (ftOf T) c fl o a (.lit r) c.H := by
 have hx := getOpd_rv hs htr h1
 rw [e1] at hx
 refine ok_same (cv := r) hs ?_ (RV.lit r)
 simp [execOp, ho, hx.lit_inv, run_of_pureRun hr]
theorem op_conv [GlobT] (hs : Sim (ftOf T) c) (htr : TR (ftOf T) c tm a.tmps) {x : AOpd} {x' : Operand} {s d : TypeId} {v r : Value} (ho : o.op = .convert s d x')
  (h1 : chkOpd T x x' = true) (e1 : getOpd tm x = .lit v) (hr : pureRun P (convert s d v) = some r) : OpOK P (ftOf T) c fl o a (.lit r) c.H := by
 have hx := getOpd_rv hs htr h1
 rw [e1] at hx
 refine ok_same (cv := r) hs ?_ (RV.lit r)
 simp [execOp, ho, hx.lit_inv, run_of_pureRun hr]
theorem op_strIdx [GlobT] (hs : Sim (ftOf T) c) (htr : TR (ftOf T) c tm a.tmps) {x i : AOpd} {x' i' : Operand} {t : TypeId} {v u r : Value} (ho : o.op = .index t x' i')
  (h1 : chkOpd T x x' = true) (h2 : chkOpd T i i' = true) (e1 : getOpd tm x = .lit v) (e2 : getOpd tm i = .lit u) (hr : pureRun P (Instr.index t v u) = some r) :
  OpOK P (ftOf T) c fl o a (.lit r) c.H := by
 have hx := getOpd_rv hs htr h1
 rw [e1] at hx
 have hi := getOpd_rv hs htr h2
 rw [e2] at hi
 refine ok_same (cv := r) hs ?_ (RV.lit r)
 simp [execOp, ho, hx.lit_inv, hi.lit_inv, run_of_pureRun hr]
theorem fieldAt_run {t : TypeId} {f off : Nat} {fs : Array Field} {fd : Field} {i : TypeInfo} {ad : Addr} (hu : P.underlying t = some (.struct fs)) (hf : fs[f]? = some fd)
  (hof : fd.offset = off) (hi : P.info? fd.type = some i) (hsz : i.size ≠ 0) (w : World) :
  (Instr.fieldAt t (.pointer (some ad)) f).run P w = .ok (.pointer (some (ad.add off))) w := by
 simp [Instr.fieldAt, run_underlying hu, hf, Instr.sureAddr, fieldPlace, sizeOf, typeInfo, hi, hsz, hof]
theorem op_fieldAddr [GlobT] (hs : Sim (ftOf T) c) (htr : TR (ftOf T) c tm a.tmps) {x : AOpd} {y : Operand} {t : TypeId} {f off : Nat} {fs : Array Field} {fd : Field} {i : TypeInfo} {v : AV} (ho : o.op = .fieldAddr t y f)
  (h : chkOpd T x y = true) (hu : P.underlying t = some (.struct fs)) (hf : fs[f]? = some fd) (hof : fd.offset = off) (hi : P.info? fd.type = some i) (hsz : i.size ≠ 0)
  (hk : (∃ id tot idx k, getOpd tm x = .ptr id tot idx k ∧ v = .ptr id tot idx (k + off)) ∨ (∃ cs, getOpd tm x = .rptr cs ∧ v = .rptr (cs.drop off))) :
  OpOK P (ftOf T) c fl o a v c.H := by
 have hx := getOpd_rv hs htr h
 rcases hk with ⟨id, tot, idx, k, hk, rfl⟩ | ⟨cs, hk, rfl⟩ <;> rw [hk] at hx
 ·obtain ⟨ad, s, n, hv, g1, g2, g3⟩ := hx.ptr_inv
  refine ok_same (cv := .pointer (some (ad.add off))) hs (by simp [execOp, ho, hv, fieldAt_run hu hf hof hi hsz]) ?_
  refine .ptr id tot idx (k + off) _ s n g1 g2 fun e => ?_
  obtain ⟨b, hb, rfl⟩ := g3 e
  exact ⟨b, hb, by rw [addr_add]; simp [Nat.add_assoc]⟩
 ·obtain ⟨b, k, cc, Ty, fz, vals, hv, g1, g2, g3, g4⟩ := hx.rptr_inv
  refine ok_same (cv := .pointer (some ⟨b, k + off, none⟩)) hs (by simp [execOp, ho, hv, fieldAt_run hu hf hof hi hsz, addr_add]) ?_
  refine .rptr _ b (k + off) cc Ty fz (fun j => vals (off + j)) g1 g2 ?_ ?_
  ·intro j x hx
   rw [List.getElem?_drop] at hx
   have := g3 _ x hx
   rwa [← Nat.add_assoc] at this
  ·intro j x hx
   rw [List.getElem?_drop] at hx
   exact g4 _ x hx
theorem part_rv [GlobT] {FT : Nat → Option Nat} {cs : List AV} {cv : Array Value} {t : TypeId} {n off : Nat} {agg : Bool} {v : AV} (hr : RV FT c (.agg cs) (.agg cv))
  (h1 : aggIs P t agg = true) (h2 : sizeIs P t n = true) (hle : off + n ≤ cs.length) (hv : if agg then v = .agg ((cs.drop off).take n) else (cs.drop off).take n = [v]) (h3 : agg = true ∨ n = 1) :
  ∃ r, (part t cv off).run P c.w = .ok r c.w ∧ RV FT c v r := by
 obtain ⟨cv', vals, e, g1, g2, g3⟩ := hr.agg_inv
 cases e
 obtain ⟨i, hi, hsz⟩ := sizeIs_spec h2
 cases agg with
 | true =>
  simp only [if_true] at hv
  subst hv
  refine ⟨.agg (cv.extract off (off + n)), ?_, ?_⟩
  ·simp [part, aggIs_run h1, sizeOf, typeInfo, hi, hsz]
  ·refine .agg _ _ (fun j => vals (off + j)) (by simp; omega) ?_ ?_
   ·intro j x hx
    rw [List.getElem?_take] at hx
    split at hx
    ·rename_i hj
     rw [List.getElem?_drop] at hx
     obtain ⟨k1, k2⟩ := g2 _ x hx
     refine ⟨?_, k2⟩
     rw [Array.getElem?_extract]
     rw [if_pos (by omega)]
     exact k1
    ·cases hx
   ·intro j x hx
    rw [List.getElem?_take] at hx
    split at hx
    ·rw [List.getElem?_drop] at hx
     exact g3 _ x hx
    ·cases hx
 | false =>
  simp only [Bool.false_eq_true, if_false] at hv
  have hn : n = 1 := by simpa using h3
  subst hn
  have hx : cs[off]? = some v := by
   have : ((cs.drop off).take 1)[0]? = some v := by rw [hv]; rfl
   rw [List.getElem?_take, if_pos (by omega), List.getElem?_drop] at this
   simpa using this
  refine ⟨vals off, ?_, g3 off v hx⟩
  simp [part, aggIs_run h1, (g2 off v hx).1]
theorem op_field [GlobT] (hs : Sim (ftOf T) c) (htr : TR (ftOf T) c tm a.tmps) {x : AOpd} {y : Operand} {t : TypeId} {f off n : Nat} {agg : Bool} {fs : Array Field} {fd : Field} {cs : List AV} {v : AV} (ho : o.op = .field t y f)
  (h : chkOpd T x y = true) (hu : P.underlying t = some (.struct fs)) (hf : fs[f]? = some fd) (hof : fd.offset = off) (h1 : aggIs P fd.type agg = true) (h2 : sizeIs P fd.type n = true) (h3 : agg = true ∨ n = 1)
  (hx : getOpd tm x = .agg cs) (hle : off + n ≤ cs.length) (hv : if agg then v = .agg ((cs.drop off).take n) else (cs.drop off).take n = [v]) :
  OpOK P (ftOf T) c fl o a v c.H := by
 have hr := getOpd_rv hs htr h
 rw [hx] at hr
 obtain ⟨cv, vals, e, _⟩ := hr.agg_inv
 rw [e] at hr
 obtain ⟨r, k1, k2⟩ := part_rv (P := P) hr h1 h2 hle hv h3
 refine ok_same (cv := r) hs ?_ k2
 simp [execOp, ho, e, Instr.field, run_underlying hu, hf, asAgg, hof, k1]
theorem natOf_inv [GlobT] {FT : Nat → Option Nat} {x : AV} {v : Value} {n : Nat} (hr : RV FT c x v) (h : natOf x = some n) : ∃ k, v = .int k n := by
 unfold natOf at h
 split at h
 ·rename_i k m
  split at h
  ·rename_i hm
   cases h
   exact ⟨k, by rw [hr.lit_inv, Int.toNat_of_nonneg hm]⟩
  ·cases h
 ·cases h
theorem op_idxAddr [GlobT] (hs : Sim (ftOf T) c) (htr : TR (ftOf T) c tm a.tmps) {x i : AOpd} {y j : Operand} {t e : TypeId} {s n : Nat} {v : AV} (ho : o.op = .indexAddr t y j)
  (h1 : chkOpd T x y = true) (h2 : chkOpd T i j = true) (hu : P.underlying t = some (.slice e)) (hsz : sizeIs P e s = true) (hn : natOf (getOpd tm i) = some n)
  (hk : (∃ f es cs, getOpd tm x = .sl f es ∧ es[n]? = some cs ∧ cs.length = s ∧ v = .rptr cs) ∨
   (∃ id tot off len es, getOpd tm x = .ms id tot off len ∧ c.H[id]? = some (.blk s es) ∧ es.length = tot ∧ n < len ∧ v = .ptr id tot (off + n) 0)) :
  OpOK P (ftOf T) c fl o a v c.H := by
 have hx := getOpd_rv hs htr h1
 obtain ⟨k, hj⟩ := natOf_inv (getOpd_rv hs htr h2) hn
 obtain ⟨ei, hei, hes⟩ := sizeIs_spec hsz
 rcases hk with ⟨f, es, cs, hk, hcs, hlen, rfl⟩ | ⟨id, tot, off, len, es, hk, hob, htot, hlt, rfl⟩ <;> rw [hk] at hx
 ·have hp := hx.sl_inv
  generalize hw : a.eval y = w at hp
  cases hp with
  | nil => simp at hcs
  | sl _ _ b off cap cc Ty fz s' vals g1 g2 g3 g4 g5 g6 g7 g8 =>
   have hs' : s' = s := by rw [← hlen, g4 cs (List.mem_of_getElem? hcs)]
   subst hs'
   have hnl : n < es.length := (List.getElem?_eq_some_iff.1 hcs).1
   refine ok_same (cv := .pointer (some ⟨b, off + n * s', none⟩)) hs ?_ ?_
   ·simp [execOp, ho, hw, hj, Instr.indexAt, asIntOf, run_underlying hu, sizeOf, typeInfo, hei, hes, hnl, addr_add]
   ·refine .rptr cs b (off + n * s') cc Ty fz (fun j => vals n j) g2 g3 ?_ ?_
    ·intro j x hx
     have := g7 n j x (by simp [cellE, hcs, hx])
     rwa [← Nat.add_assoc] at this
    ·intro j x hx
     exact g8 n j x (by simp [cellE, hcs, hx])
 ·obtain ⟨ad, cap, s', n', hv, g1, g2, g3, g4⟩ := hx.ms_inv
  rw [shp_of hob] at g1
  cases g1
  obtain ⟨m1, m2⟩ := g4 htot.symm
  rcases m2 with ⟨_, _, _, m3⟩ | ⟨b, cc, Ty, a', m3, m4, m5, m6, m7⟩
  ·omega
  ·have ha := m7 (by omega)
   subst ha
   subst m6
   refine ok_same (cv := .pointer (some ⟨b, off * s + n * s, none⟩)) hs ?_ ?_
   ·simp [execOp, ho, hv, hj, Instr.indexAt, asIntOf, run_underlying hu, sizeOf, typeInfo, hei, hes, hlt, addr_add]
   ·refine .ptr id tot (off + n) 0 _ s _ (shp_of hob) (by omega) fun _ => ⟨b, m3, by simp [Nat.add_mul]⟩
end
end Go.Proofs.YtmflphfmefakfaaGreatDoor.Av
namespace Go.Proofs.YtmflphfmefakfaaGreatDoor.Av
open Go
section
variable {P : Program} {T : List AFun} {c : Ctx} {fl : Nat} {o : Oper} {a : Act} {tm : List AV}
theorem op_idxArr [GlobT] (hs : Sim (ftOf T) c) (htr : TR (ftOf T) c tm a.tmps) {x i : AOpd} {y j : Operand} {t e : TypeId} {s n m : Nat} {v : AV} (ho : o.op = .indexAddr t y j)
  (h1 : chkOpd T x y = true) (h2 : chkOpd T i j = true) (hu : P.underlying t = some (.array m e)) (hsz : sizeIs P e s = true) (hn : natOf (getOpd tm i) = some n) (hlt : n < m)
  (hk : (∃ id tot idx k, getOpd tm x = .ptr id tot idx k ∧ v = .ptr id tot idx (k + n * s)) ∨ (∃ cs, getOpd tm x = .rptr cs ∧ v = .rptr (cs.drop (n * s)))) :
  OpOK P (ftOf T) c fl o a v c.H := by
 have hx := getOpd_rv hs htr h1
 obtain ⟨k, hj⟩ := natOf_inv (getOpd_rv hs htr h2) hn
 obtain ⟨ei, hei, hes⟩ := sizeIs_spec hsz
 have run : ∀ ad : Addr, a.eval y = .pointer (some ad) → (execOp a.eval o).run P c.w = .ok (.value (.pointer (some (ad.add (n * s))))) c.w := by
  intro ad hv
  simp [execOp, ho, hv, hj, Instr.indexAt, Instr.sureAddr, asIntOf, run_underlying hu, sizeOf, typeInfo, hei, hes, hlt]
 rcases hk with ⟨id, tot, idx, k', hk, rfl⟩ | ⟨cs, hk, rfl⟩ <;> rw [hk] at hx
 ·obtain ⟨ad, s', n', hv, g1, g2, g3⟩ := hx.ptr_inv
  refine ok_same hs (run ad hv) ?_
  refine .ptr id tot idx (k' + n * s) _ s' n' g1 g2 fun e => ?_
  obtain ⟨b, hb, rfl⟩ := g3 e
  exact ⟨b, hb, by rw [addr_add]; simp [Nat.add_assoc]⟩
 ·obtain ⟨b, k', cc, Ty, fz, vals, hv, g1, g2, g3, g4⟩ := hx.rptr_inv
  refine ok_same hs (run _ hv) ?_
  rw [addr_add]
  refine .rptr _ b (k' + n * s) cc Ty fz (fun j => vals (n * s + j)) g1 g2 ?_ ?_
  ·intro j x hx
   rw [List.getElem?_drop] at hx
   have := g3 _ x hx
   rwa [← Nat.add_assoc] at this
  ·intro j x hx
   rw [List.getElem?_drop] at hx
   exact g4 _ x hx
theorem op_index [GlobT] (hs : Sim (ftOf T) c) (htr : TR (ftOf T) c tm a.tmps) {x i : AOpd} {y j : Operand} {t e : TypeId} {s n m : Nat} {agg : Bool} {cs : List AV} {v : AV} (ho : o.op = .index t y j)
  (h1 : chkOpd T x y = true) (h2 : chkOpd T i j = true) (hu : P.underlying t = some (.array m e)) (hsz : sizeIs P e s = true) (hag : aggIs P e agg = true) (h3 : agg = true ∨ s = 1)
  (hn : natOf (getOpd tm i) = some n) (hlt : n < m) (hx : getOpd tm x = .agg cs) (hle : n * s + s ≤ cs.length)
  (hv : if agg then v = .agg ((cs.drop (n * s)).take s) else (cs.drop (n * s)).take s = [v]) : OpOK P (ftOf T) c fl o a v c.H := by
 have hr := getOpd_rv hs htr h1
 rw [hx] at hr
 obtain ⟨k, hj⟩ := natOf_inv (getOpd_rv hs htr h2) hn
 obtain ⟨ei, hei, hes⟩ := sizeIs_spec hsz
 obtain ⟨cv, vals, e', _⟩ := hr.agg_inv
 rw [e'] at hr
 obtain ⟨r, k1, k2⟩ := part_rv (P := P) hr hag hsz hle hv h3
 refine ok_same (cv := r) hs ?_ k2
 simp [execOp, ho, e', hj, Instr.index, asIntOf, run_underlying hu, sizeOf, typeInfo, hei, hes, hlt, k1]
theorem op_extract [GlobT] (hs : Sim (ftOf T) c) (htr : TR (ftOf T) c tm a.tmps) {x : AOpd} {y : Operand} {i : Nat} {vs : List AV} {v : AV} (ho : o.op = .extract y i)
  (h : chkOpd T x y = true) (hx : getOpd tm x = .tup vs) (hv : vs[i]? = some v) : OpOK P (ftOf T) c fl o a v c.H := by
 have hr := getOpd_rv hs htr h
 rw [hx] at hr
 obtain ⟨cv, vals, e, g1, g2, g3⟩ := hr.tup_inv
 refine ok_same (cv := vals i) hs ?_ (g3 i v hv)
 simp [execOp, ho, e, Instr.extract, g2 i v hv]
theorem opds_rv [GlobT] (hs : Sim (ftOf T) c) (htr : TR (ftOf T) c tm a.tmps) : ∀ {xs : List AOpd} {ys : List Operand}, chkOpds T xs ys = true →
  xs.length = ys.length ∧ ∀ (i : Nat) (x : AV), (xs.map (getOpd tm))[i]? = some x → ∃ v, (ys.map a.eval)[i]? = some v ∧ RV (ftOf T) c x v
 | [], [], _ => ⟨rfl, fun i x hx => by simp at hx⟩
 | x :: r, y :: s, h => by
  simp only [chkOpds, Bool.and_eq_true] at h
  obtain ⟨h1, h2⟩ := opds_rv hs htr h.2
  refine ⟨by simp [h1], fun i z hz => ?_⟩
  cases i with
  | zero =>
   simp only [List.map_cons, List.getElem?_cons_zero, Option.some.injEq] at hz
   subst hz
   exact ⟨a.eval y, by simp, getOpd_rv hs htr h.1⟩
  | succ i =>
   simp only [List.map_cons, List.getElem?_cons_succ] at hz ⊢
   exact h2 i z hz
 | [], _ :: _, h => by cases h
 | _ :: _, [], h => by cases h
theorem op_mkFn [GlobT] (hs : Sim (ftOf T) c) (htr : TR (ftOf T) c tm a.tmps) {vi f : Nat} {caps : List AOpd} {cs : Array Operand} (ho : o.op = .makeFunc (.func f) #[] cs)
  (hf : ftOf T vi = some f) (h : chkOpds T caps cs.toList = true) : OpOK P (ftOf T) c fl o a (.fn vi (caps.map (getOpd tm))) c.H := by
 obtain ⟨h1, h2⟩ := opds_rv hs htr h
 refine ok_same (cv := .func (.func f) #[] (cs.map a.eval)) hs (by simp [execOp, ho, Instr.makeFunc]) ?_
 refine .fn vi f _ _ (fun i => ((cs.toList.map a.eval)[i]?).getD undefV) hf (by simpa using h1.symm) ?_ ?_
 ·intro i x hx
  obtain ⟨v, g1, g2⟩ := h2 i x hx
  simp only [g1, Option.getD_some]
  simpa using g1
 ·intro i x hx
  obtain ⟨v, g1, g2⟩ := h2 i x hx
  simpa only [g1, Option.getD_some] using g2
theorem op_mkMap [GlobT] (hs : Sim (ftOf T) c) (hfl : fl ≤ c.H.length) {t : TypeId} (ho : o.op = .makeMap t none) : OpOK P (ftOf T) c fl o a (.mp c.H.length) (c.H ++ [.mp []]) := by
 refine ok_value (cv := .map (some c.w.heap.size)) (w' := c.w.alloc (.map #[] 0)) (β' := upd c.β c.H.length c.w.heap.size) ?_
  (step_new (ob := .map #[] 0) hfl rfl rfl rfl rfl (fun id b hb => hs.lt hb)) (sim_new (ob := .map #[] 0) hs rfl rfl rfl rfl ?_ ?_ ?_ (fun _ h => by cases h)) ?_
 ·simp [execOp, ho, Instr.makeMap]
 ·intro s es he; cases he
 ·intro s es he; cases he
 ·intro ents he; cases he; exact ⟨rfl, 0, rfl⟩
 ·exact .mp _ _ ⟨.mp [], by simp, trivial⟩ (upd_same _ _ _)
theorem op_rangeStr [GlobT] (hs : Sim (ftOf T) c) (htr : TR (ftOf T) c tm a.tmps) (hfl : fl ≤ c.H.length) {x : AOpd} {y : Operand} {t : TypeId} {s : ByteArray} (ho : o.op = .range t y) (h : chkOpd T x y = true) (hu : P.underlying t = some .string) (hx : getOpd tm x = .lit (.string s)) :
  OpOK P (ftOf T) c fl o a (.it c.H.length) (c.H ++ [.raw (.stringIter s 0)]) := by
 have hr := getOpd_rv hs htr h
 rw [hx] at hr
 have hv := hr.lit_inv
 refine ok_value (cv := .pointer (some ⟨c.w.heap.size, 0, none⟩)) (w' := c.w.alloc (.stringIter s 0)) (β' := upd c.β c.H.length c.w.heap.size) ?_
  (step_new (ob := .stringIter s 0) hfl rfl rfl rfl rfl (fun id b hb => hs.lt hb)) (sim_new (ob := .stringIter s 0) hs rfl rfl rfl rfl ?_ ?_ ?_ ?_) ?_
 ·simp [execOp, ho, Instr.range, run_underlying hu, hv]
 ·intro s es he; cases he
 ·intro s es he; cases he
 ·intro ents he; cases he
 ·intro q he; cases he; rfl
 ·exact .it _ _ ⟨.raw (.stringIter s 0), by simp, trivial⟩ (upd_same _ _ _)
theorem op_nextStr [GlobT] (hs : Sim (ftOf T) c) (htr : TR (ftOf T) c tm a.tmps) {x : AOpd} {y : Operand} {id pos : Nat} {s : ByteArray} (ho : o.op = .next y true) (h : chkOpd T x y = true) (hx : getOpd tm x = .it id) (hfl : fl ≤ id) (hob : c.H[id]? = some (.raw (.stringIter s pos))) (hp : pos < s.size) :
  OpOK P (ftOf T) c fl o a (.tup [.lit (.bool true), .lit (.int .i64 pos), .lit (.int .i32 (Utf8.decode s pos).1)]) (c.H.set id (.raw (.stringIter s (pos + (Utf8.decode s pos).2)))) := by
 have hr := getOpd_rv hs htr h
 rw [hx] at hr
 obtain ⟨b, hv, _, hb⟩ := hr.it_inv
 have g1 := hs.raw id _ b hob hb
 have hget : (getObj b).run P c.w = .ok (.stringIter s pos) c.w := by simp [getObj, Sem.run, g1]
 have hset : ∀ ob, (setObj b ob).run P c.w = .ok () { c.w with heap := c.w.heap.setIfInBounds b ob } := by
  intro ob; simp [setObj, Sem.run, g1]
 refine ok_value (cv := .tuple #[.bool true, .int .i64 pos, .int .i32 (Utf8.decode s pos).1]) (β' := c.β) (w' := { c.w with heap := c.w.heap.setIfInBounds b (.stringIter s (pos + (Utf8.decode s pos).2)) }) ?_
  (step_setRaw (q' := .stringIter s (pos + (Utf8.decode s pos).2)) hs hfl hob hb rfl rfl rfl rfl) (sim_setRaw hs hob hb rfl rfl rfl rfl) ?_
 ·simp [execOp, ho, hv, Instr.next, hget, hset, hp, goInt]
 ·refine .tup _ _ (fun i => if i = 0 then .bool true else if i = 1 then .int .i64 pos else .int .i32 (Utf8.decode s pos).1) rfl ?_ ?_
  ·intro i x hx
   match i with
   | 0 => rfl
   | 1 => rfl
   | 2 => rfl
   | n + 3 => simp at hx
  ·intro i x hx
   match i with
   | 0 => simp at hx; subst hx; exact RV.lit _
   | 1 => simp at hx; subst hx; exact RV.lit _
   | 2 => simp at hx; subst hx; exact RV.lit _
   | n + 3 => simp at hx
theorem op_overStr [GlobT] (hs : Sim (ftOf T) c) (htr : TR (ftOf T) c tm a.tmps) {x : AOpd} {y : Operand} {id pos : Nat} {s : ByteArray} (ho : o.op = .next y true) (h : chkOpd T x y = true) (hx : getOpd tm x = .it id) (hob : c.H[id]? = some (.raw (.stringIter s pos))) (hp : ¬ pos < s.size) :
  OpOK P (ftOf T) c fl o a (.tup [.lit (.bool false)]) c.H := by
 have hr := getOpd_rv hs htr h
 rw [hx] at hr
 obtain ⟨b, hv, _, hb⟩ := hr.it_inv
 have g1 := hs.raw id _ b hob hb
 have hget : (getObj b).run P c.w = .ok (.stringIter s pos) c.w := by simp [getObj, Sem.run, g1]
 refine ok_same (cv := .tuple #[.bool false]) hs ?_ ?_
 ·simp [execOp, ho, hv, Instr.next, hget, hp]
 ·refine .tup _ _ (fun _ => .bool false) rfl ?_ ?_
  ·intro i x hx
   match i with
   | 0 => rfl
   | n + 1 => simp at hx
  ·intro i x hx
   match i with
   | 0 => simp at hx; subst hx; exact RV.lit _
   | n + 1 => simp at hx
theorem op_lenS [GlobT] (hs : Sim (ftOf T) c) (htr : TR (ftOf T) c tm a.tmps) {x : AOpd} {y : Operand} {t e : TypeId} {n : Nat} (ho : o.op = .call ⟨.builtin .len, #[y], #[t]⟩)
  (h : chkOpd T x y = true) (hu : P.underlying t = some (.slice e))
  (hk : (getOpd tm x = .lit (.slice none 0 0) ∧ n = 0) ∨ (∃ f es, getOpd tm x = .sl f es ∧ n = es.length) ∨ ∃ id tot off, getOpd tm x = .ms id tot off n) :
  OpOK P (ftOf T) c fl o a (.lit (.int .i64 n)) c.H := by
 have hx := getOpd_rv hs htr h
 have hv : ∃ ad cap, a.eval y = .slice ad n cap := by
  rcases hk with ⟨hk, rfl⟩ | ⟨f, es, hk, rfl⟩ | ⟨id, tot, off, hk⟩ <;> rw [hk] at hx
  ·exact ⟨none, 0, hx.lit_inv⟩
  ·have hp := hx.sl_inv
   generalize a.eval y = w at hp
   cases hp with
   | nil _ ad cap => exact ⟨ad, cap, rfl⟩
   | sl _ _ b off cap => exact ⟨_, cap, rfl⟩
  ·obtain ⟨ad, cap, s, n', hv, _⟩ := hx.ms_inv
   exact ⟨ad, cap, hv⟩
 obtain ⟨ad, cap, hv⟩ := hv
 refine ok_same (cv := .int .i64 n) hs ?_ (RV.lit _)
 simp [execOp, ho, resolve, invoke, builtin, Builtin.len_, run_underlying hu, hv, goInt]
theorem op_capS [GlobT] (hs : Sim (ftOf T) c) (htr : TR (ftOf T) c tm a.tmps) {x : AOpd} {y : Operand} {t e : TypeId} {n : Nat} (ho : o.op = .call ⟨.builtin .cap, #[y], #[t]⟩)
  (h : chkOpd T x y = true) (hu : P.underlying t = some (.slice e))
  (hk : (getOpd tm x = .lit (.slice none 0 0) ∧ n = 0) ∨ (∃ es, getOpd tm x = .sl true es ∧ n = es.length)) :
  OpOK P (ftOf T) c fl o a (.lit (.int .i64 n)) c.H := by
 have hx := getOpd_rv hs htr h
 have hv : ∃ ad len, a.eval y = .slice ad len n := by
  rcases hk with ⟨hk, rfl⟩ | ⟨es, hk, rfl⟩ <;> rw [hk] at hx
  ·exact ⟨none, 0, hx.lit_inv⟩
  ·have hp := hx.sl_inv
   generalize a.eval y = w at hp
   cases hp with
   | nil _ ad cap hf => exact ⟨ad, 0, by rw [hf rfl]; rfl⟩
   | sl _ _ b off cap cc Ty fz s vals g1 g2 g3 g4 g5 g6 g7 g8 => exact ⟨_, _, by rw [g6 rfl]⟩
 obtain ⟨ad, len, hv⟩ := hv
 refine ok_same (cv := .int .i64 n) hs ?_ (RV.lit _)
 simp [execOp, ho, resolve, invoke, builtin, Builtin.cap_, run_underlying hu, hv, goInt]
theorem op_lenM [GlobT] (hs : Sim (ftOf T) c) (htr : TR (ftOf T) c tm a.tmps) {x : AOpd} {y : Operand} {t k e : TypeId} {n : Nat} (ho : o.op = .call ⟨.builtin .len, #[y], #[t]⟩)
  (h : chkOpd T x y = true) (hu : P.underlying t = some (.map k e))
  (hk : (getOpd tm x = .lit (.map none) ∧ n = 0) ∨ (∃ id ents, getOpd tm x = .mp id ∧ c.H[id]? = some (.mp ents) ∧ n = ents.length)) :
  OpOK P (ftOf T) c fl o a (.lit (.int .i64 n)) c.H := by
 have hx := getOpd_rv hs htr h
 refine ok_same (cv := .int .i64 n) hs ?_ (RV.lit _)
 rcases hk with ⟨hk, rfl⟩ | ⟨id, ents, hk, hob, rfl⟩ <;> rw [hk] at hx
 ·simp [execOp, ho, resolve, invoke, builtin, Builtin.len_, run_underlying hu, hx.lit_inv, goInt]
 ·obtain ⟨b, hv, _, hb⟩ := hx.mp_inv
  obtain ⟨es, clk, g1, g2, _⟩ := hs.map id ents b hob hb
  simp [execOp, ho, resolve, invoke, builtin, Builtin.len_, run_underlying hu, hv, goInt, getObj, Sem.run, g1, g2]
theorem op_lenStr [GlobT] (hs : Sim (ftOf T) c) (htr : TR (ftOf T) c tm a.tmps) {x : AOpd} {y : Operand} {t : TypeId} {v r : Value} (ho : o.op = .call ⟨.builtin .len, #[y], #[t]⟩)
  (h : chkOpd T x y = true) (hx : getOpd tm x = .lit v) (hr : pureRun P (Builtin.len_ #[t] 0 #[v]) = some r) : OpOK P (ftOf T) c fl o a (.lit r) c.H := by
 have hrv := getOpd_rv hs htr h
 rw [hx] at hrv
 refine ok_same (cv := r) hs ?_ (RV.lit _)
 have h0 := run_of_pureRun (w := c.w) hr
 have e : Builtin.len_ #[t] o.type #[v] = Builtin.len_ #[t] 0 #[v] := rfl
 simp [execOp, ho, resolve, invoke, builtin, hrv.lit_inv, e, h0]
theorem op_lenC [GlobT] (hs : Sim (ftOf T) c) {y : Operand} {t e : TypeId} {n : Nat} (ho : o.op = .call ⟨.builtin .len, #[y], #[t]⟩)
  (hu : P.underlying t = some (.array n e)) : OpOK P (ftOf T) c fl o a (.lit (.int .i64 n)) c.H := by
 refine ok_same (cv := .int .i64 n) hs ?_ (RV.lit _)
 simp [execOp, ho, resolve, invoke, builtin, Builtin.len_, run_underlying hu, goInt]
theorem op_minmax [GlobT] (hs : Sim (ftOf T) c) (htr : TR (ftOf T) c tm a.tmps) {xs : List AOpd} {ys : Array Operand} {ts : Array TypeId} {vs : List Value} {r : Value} {b : Builtin} (ho : o.op = .call ⟨.builtin b, ys, ts⟩)
  (hb : b = .max ∨ b = .min) (h : chkOpds T xs ys.toList = true) (hv : litL (xs.map (getOpd tm)) = some vs)
  (hr : pureRun P (if b = .max then Builtin.max_ #[] 0 vs.toArray else Builtin.min_ #[] 0 vs.toArray) = some r) : OpOK P (ftOf T) c fl o a (.lit r) c.H := by
 obtain ⟨h1, h2⟩ := opds_rv hs htr h
 have e := litL_rv hv
 have hvs : ys.map a.eval = vs.toArray := by
  apply Array.ext_getElem?
  intro i
  have hl : vs.length = xs.length := by have := congrArg List.length e; simpa using this.symm
  by_cases hi : i < vs.length
  ·have hx : (xs.map (getOpd tm))[i]? = some (.lit vs[i]) := by rw [e]; simp [hi]
   obtain ⟨v, g1, g2⟩ := h2 i _ hx
   have := g2.lit_inv
   subst this
   have : (ys.map a.eval)[i]? = some vs[i] := by simpa using g1
   rw [this]; simp [hi]
  ·have hy : ys.size = vs.length := by simpa [hl] using h1.symm
   rw [Array.getElem?_eq_none (by simp; omega), Array.getElem?_eq_none (by simp; omega)]
 refine ok_same (cv := r) hs ?_ (RV.lit _)
 have h0 := run_of_pureRun (w := c.w) hr
 rcases hb with rfl | rfl
 ·simp only [if_true] at h0
  have e2 : ∀ (as : Array Value) (ty : TypeId), Builtin.max_ ts ty as = Builtin.max_ #[] 0 as := fun _ _ => rfl
  simp [execOp, ho, resolve, invoke, builtin, hvs, e2, h0]
 ·rw [if_neg (by simp)] at h0
  have e2 : ∀ (as : Array Value) (ty : TypeId), Builtin.min_ ts ty as = Builtin.min_ #[] 0 as := fun _ _ => rfl
  simp [execOp, ho, resolve, invoke, builtin, hvs, e2, h0]
end
end Go.Proofs.YtmflphfmefakfaaGreatDoor.Av
namespace Go.Proofs.YtmflphfmefakfaaGreatDoor.Av
open Go
section
variable {P : Program} {T : List AFun} {c : Ctx} {fl : Nat} {o : Oper} {a : Act} {tm : List AV}
def CellsR (FT : Nat → Option Nat) (c : Ctx) (cs : List AV) (cv : Array Value) : Prop :=
 cv.size = cs.length ∧ ∀ (j : Nat) (x : AV), cs[j]? = some x → ∃ v, cv[j]? = some v ∧ scalarB v = true ∧ RV FT c x v
theorem foldl_put (off : Nat) (v cells : Array Value) : (v.zipIdx.foldl (fun cs (x : Value × Nat) => cs.setIfInBounds (off + x.2) x.1) cells).size = cells.size ∧
  ∀ k, (v.zipIdx.foldl (fun cs (x : Value × Nat) => cs.setIfInBounds (off + x.2) x.1) cells)[k]? = if off ≤ k ∧ k < off + v.size ∧ k < cells.size then v[k - off]? else cells[k]? := by
 have e : v.zipIdx.foldl (fun cs (x : Value × Nat) => cs.setIfInBounds (off + x.2) x.1) cells = (v.toList.zipIdx 0).foldl (fun cs (x : Value × Nat) => cs.setIfInBounds (off + x.2) x.1) cells := by
  rw [← Array.foldl_toList]; simp
 rw [e]
 have h := Great.foldl_set off v.toList 0 cells
 simpa using h
theorem fill_cons {place : Nat → Option (Nat × Nat)} {cells : Array Value} {i off size : Nat} {v : Value} {rest : List (Nat × Value)} (hp : place i = some (off, size)) (h1 : v.cells.size = size) (h2 : off + size ≤ cells.size) :
  Instr.fill place cells ((i, v) :: rest) = Instr.fill place (v.cells.zipIdx.foldl (fun cs (x : Value × Nat) => cs.setIfInBounds (off + x.2) x.1) cells) rest := by
 rw [Instr.fill]
 simp only [hp, h1]
 rw [if_neg (by simp; omega)]
theorem fill_rv [GlobT] (hs : Sim (ftOf T) c) (htr : TR (ftOf T) c tm a.tmps) {place : Nat → Option (Nat × Nat)} : ∀ (ps : List (Nat × Nat × AOpd)) (qs : List (Nat × Operand)) (cells cs : List AV) (cv : Array Value),
  chkParts T place ps qs = true → CellsR (ftOf T) c cells cv → fillA cells (ps.map fun (o, s, x) => (o, s, getOpd tm x)) = some cs →
  ∃ r, Instr.fill place cv (qs.map fun (i, x) => (i, a.eval x)) = some r ∧ CellsR (ftOf T) c cs r
 | [], [], cells, cs, cv, _, hc, hf => by
  simp only [List.map_nil, fillA, Option.some.injEq] at hf
  subst hf
  exact ⟨cv, rfl, hc⟩
 | (off, s, x) :: ps, (i, y) :: qs, cells, cs, cv, hk, hc, hf => by
  simp only [chkParts, Bool.and_eq_true] at hk
  obtain ⟨⟨hp, hx⟩, hrest⟩ := hk
  have hp' : place i = some (off, s) := by simpa using hp
  simp only [List.map_cons, fillA] at hf
  split at hf
  ·cases hf
  ·rename_i ys hy
   split at hf
   ·rename_i hcond
    obtain ⟨v1, v2⟩ := cellsOf_rv (getOpd_rv hs htr hx) hy
    have hvs : (a.eval y).cells.size = s := v1.trans hcond.1
    obtain ⟨g1, g2⟩ := foldl_put off (a.eval y).cells cv
    have hnew : CellsR (ftOf T) c (splice cells off ys) ((a.eval y).cells.zipIdx.foldl (fun cs (x : Value × Nat) => cs.setIfInBounds (off + x.2) x.1) cv) := by
     refine ⟨by rw [g1, splice_length (by omega)]; exact hc.1, fun j z hz => ?_⟩
     rw [g2 j]
     rw [splice_get (by omega)] at hz
     have hsz := hc.1
     split at hz
     ·rename_i hj
      rw [if_neg (by omega)]
      exact hc.2 j z hz
     ·rename_i hj
      split at hz
      ·rename_i hj2
       rw [if_pos (by omega)]
       exact v2 _ z hz
      ·rename_i hj2
       rw [if_neg (by omega)]
       exact hc.2 j z hz
    obtain ⟨r, k1, k2⟩ := fill_rv hs htr ps qs _ cs _ hrest hnew hf
    refine ⟨r, ?_, k2⟩
    simp only [List.map_cons]
    rw [fill_cons hp' hvs (by rw [hc.1]; exact hcond.2)]
    exact k1
   ·cases hf
 | [], _ :: _, _, _, _, hk, _, _ => by cases hk
 | (_, _, _) :: _, [], _, _, _, hk, _, _ => by cases hk
theorem lits_cellsR [GlobT] {FT : Nat → Option Nat} {z : List Value} (hsc : ∀ u ∈ z, scalarB u = true) : CellsR FT c (z.map .lit) z.toArray := by
 refine ⟨by simp, fun j x hx => ?_⟩
 simp only [List.getElem?_map, Option.map_eq_some_iff] at hx
 obtain ⟨u, hu, rfl⟩ := hx
 exact ⟨u, by simpa using hu, hsc u (List.mem_of_getElem? hu), RV.lit u⟩
theorem cellsR_agg {FT : Nat → Option Nat} {cs : List AV} {cv : Array Value} (h : CellsR FT c cs cv) : RV FT c (.agg cs) (.agg cv) := by
 refine .agg cs cv (fun i => (cv[i]?).getD undefV) h.1 ?_ ?_
 ·intro i x hx
  obtain ⟨v, g1, g2, _⟩ := h.2 i x hx
  simp [g1, g2]
 ·intro i x hx
  obtain ⟨v, g1, _, g3⟩ := h.2 i x hx
  simpa [g1] using g3
theorem mapM_places {fs : List Field} (h : allSized P fs = true) : ∃ places, fs.mapM (fun f => (P.info? f.type).map fun i => (f.offset, i.size)) = some places ∧
  ∀ i, places[i]? = fieldPl P fs.toArray i := by
 induction fs with
 | nil => exact ⟨[], by simp, fun i => by simp [fieldPl]⟩
 | cons f fs ih =>
  simp only [allSized, List.all_cons, Bool.and_eq_true] at h
  obtain ⟨pl, h1, h2⟩ := ih h.2
  obtain ⟨n, hn⟩ := Option.isSome_iff_exists.1 h.1
  refine ⟨(f.offset, n.size) :: pl, by simp [List.mapM_cons, hn, h1], fun i => ?_⟩
  cases i with
  | zero => simp [fieldPl, hn]
  | succ i =>
   have := h2 i
   simp only [List.getElem?_cons_succ, this]
   simp [fieldPl]
theorem op_build [GlobT] (hs : Sim (ftOf T) c) (htr : TR (ftOf T) c tm a.tmps) {z : List Value} {ps : List (Nat × Nat × AOpd)} {qs : Array (Nat × Operand)} {t : TypeId} {cs : List AV} (ho : o.op = .build t qs)
  (hz : zeroIs P t z = true) (hc : chkOp P T (.build z ps) (.build t qs) = true) (hf : fillA (z.map .lit) (ps.map fun (o, s, x) => (o, s, getOpd tm x)) = some cs) :
  OpOK P (ftOf T) c fl o a (.agg cs) c.H := by
 obtain ⟨i, v, hi, hv, hvc, hsc⟩ := zeroIs_spec hz
 simp only [chkOp, hz, Bool.true_and] at hc
 have hbuilt : ∃ r, P.built t (qs.map fun (i, x) => (i, a.eval x)).toList = some r ∧ CellsR (ftOf T) c cs r := by
  have hql : (qs.map fun (i, x) => (i, a.eval x)).toList = qs.toList.map fun (i, x) => (i, a.eval x) := by simp
  rw [hql]
  split at hc
  ·rename_i fs hu
   simp only [Bool.and_eq_true] at hc
   obtain ⟨pl, h1, h2⟩ := mapM_places hc.1
   have hpl : (fun i => pl.toArray[i]?) = fieldPl P fs := by
    funext i
    have := h2 i
    simpa using this
   obtain ⟨r, k1, k2⟩ := fill_rv hs htr ps qs.toList _ cs _ hc.2 (lits_cellsR hsc) hf
   refine ⟨r, ?_, k2⟩
   unfold Program.built
   simp only [hi, hu, hv, h1, hpl, hvc]
   exact k1
  ·rename_i n e hu
   split at hc
   ·rename_i ie hie
    obtain ⟨r, k1, k2⟩ := fill_rv hs htr ps qs.toList _ cs _ hc (lits_cellsR hsc) hf
    refine ⟨r, ?_, k2⟩
    unfold Program.built
    simp only [hi, hu, hv, hie, hvc]
    exact k1
   ·cases hc
  ·cases hc
 obtain ⟨r, k1, k2⟩ := hbuilt
 refine ok_same (cv := .agg r) hs ?_ (cellsR_agg k2)
 simp only [execOp, ho, Sem.run_bind, run_build c.w t _ r k1, Result.andThen_ok, Sem.run_pure]
def RowsR (FT : Nat → Option Nat) (c : Ctx) (s : Nat) (es : List (List AV)) (cv : Array Value) : Prop :=
 cv.size = es.length * s ∧ (∀ e ∈ es, e.length = s) ∧ ∀ i j x, cellE es i j = some x → ∃ v, cv[i * s + j]? = some v ∧ scalarB v = true ∧ RV FT c x v
theorem fillE_rv [GlobT] (hs : Sim (ftOf T) c) (htr : TR (ftOf T) c tm a.tmps) {s : Nat} : ∀ (ps : List (Nat × AOpd)) (qs : List (Nat × Operand)) (es es' : List (List AV)) (cv : Array Value),
  chkElems T ps qs = true → RowsR (ftOf T) c s es cv → fillE s es (ps.map fun (i, x) => (i, getOpd tm x)) = some es' →
  es'.length = es.length ∧ ∃ r, Instr.fill (fun i => some (i * s, s)) cv (qs.map fun (i, x) => (i, a.eval x)) = some r ∧ RowsR (ftOf T) c s es' r
 | [], [], es, es', cv, _, hc, hf => by
  simp only [List.map_nil, fillE, Option.some.injEq] at hf
  subst hf
  exact ⟨rfl, cv, rfl, hc⟩
 | (i, x) :: ps, (i', y) :: qs, es, es', cv, hk, hc, hf => by
  simp only [chkElems, Bool.and_eq_true, beq_iff_eq] at hk
  obtain ⟨⟨rfl, hx⟩, hrest⟩ := hk
  simp only [List.map_cons, fillE] at hf
  split at hf
  ·cases hf
  ·rename_i ys hy
   split at hf
   ·rename_i hcond
    obtain ⟨v1, v2⟩ := cellsOf_rv (getOpd_rv hs htr hx) hy
    have hvs : (a.eval y).cells.size = s := v1.trans hcond.1
    have hlt : (i + 1) * s ≤ es.length * s := Nat.mul_le_mul_right s hcond.2
    rw [Nat.add_mul] at hlt
    obtain ⟨g1, g2⟩ := foldl_put (i * s) (a.eval y).cells cv
    have hnew : RowsR (ftOf T) c s (es.set i ys) ((a.eval y).cells.zipIdx.foldl (fun cs (x : Value × Nat) => cs.setIfInBounds (i * s + x.2) x.1) cv) := by
     refine ⟨by rw [g1]; simpa using hc.1, ?_, ?_⟩
     ·intro e he
      rcases List.mem_or_eq_of_mem_set he with h | h
      ·exact hc.2.1 e h
      ·rw [h]; exact hcond.1
     ·intro k j z hz
      rw [g2]
      obtain ⟨e1, h1, h2⟩ := cellE_some hz
      by_cases ek : k = i
      ·subst ek
       have : e1 = ys := by
        rw [List.getElem?_set] at h1
        simp only [hcond.2, if_true] at h1
        exact (Option.some.inj h1).symm
       subst this
       have hj : j < s := by rw [← hcond.1]; exact (List.getElem?_eq_some_iff.1 h2).1
       have hsz := hc.1
       rw [if_pos (by omega)]
       obtain ⟨u, w1, w2, w3⟩ := v2 j z h2
       refine ⟨u, ?_, w2, w3⟩
       rw [← w1]; congr 1; omega
      ·rw [getElem?_set_ne' ek] at h1
       have hj : j < s := by rw [← hc.2.1 e1 (List.mem_of_getElem? h1)]; exact (List.getElem?_eq_some_iff.1 h2).1
       have hout : ¬ (i * s ≤ k * s + j ∧ k * s + j < i * s + (a.eval y).cells.size ∧ k * s + j < cv.size) := by
        rcases Nat.lt_or_gt_of_ne ek with h | h
        ·have : (k + 1) * s ≤ i * s := Nat.mul_le_mul_right s h
         rw [Nat.add_mul] at this; omega
        ·have : (i + 1) * s ≤ k * s := Nat.mul_le_mul_right s h
         rw [Nat.add_mul] at this; omega
       rw [if_neg hout]
       exact hc.2.2 k j z (by simp [cellE, h1, h2])
    obtain ⟨hl, r, k1, k2⟩ := fillE_rv hs htr ps qs _ es' _ hrest hnew hf
    refine ⟨by simpa using hl, r, ?_, k2⟩
    simp only [List.map_cons]
    rw [fill_cons (off := i * s) (size := s) rfl hvs (by rw [hc.1]; omega)]
    exact k1
   ·cases hf
 | [], _ :: _, _, _, _, hk, _, _ => by cases hk
 | (_, _) :: _, [], _, _, _, hk, _, _ => by cases hk
theorem cellE_replicate [GlobT] {n i j : Nat} {e : List AV} {x : AV} (h : cellE (List.replicate n e) i j = some x) : i < n ∧ e[j]? = some x := by
 obtain ⟨e1, h1, h2⟩ := cellE_some h
 rw [List.getElem?_replicate] at h1
 split at h1
 ·cases h1; exact ⟨by assumption, h2⟩
 ·cases h1
theorem rowsR_zero [GlobT] {FT : Nat → Option Nat} {s n m : Nat} {z : List Value} {cv : Array Value} (hz : z.length = s) (hsc : ∀ u ∈ z, scalarB u = true) (hv : cv.toList = z) (hnm : n ≤ m) :
  (∀ e ∈ List.replicate n (z.map AV.lit), e.length = s) ∧ ∀ i j x, cellE (List.replicate n (z.map AV.lit)) i j = some x →
   ∃ v, ((Array.range (m * s)).map (cv[· % cv.size]!))[i * s + j]? = some v ∧ scalarB v = true ∧ RV FT c x v := by
 refine ⟨fun e he => by rw [List.mem_replicate] at he; rw [he.2]; simpa using hz, fun i j x hx => ?_⟩
 obtain ⟨hi, hj⟩ := cellE_replicate hx
 simp only [List.getElem?_map, Option.map_eq_some_iff] at hj
 obtain ⟨u, hu, rfl⟩ := hj
 have hjs : j < s := by rw [← hz]; exact (List.getElem?_eq_some_iff.1 hu).1
 have hcs : cv.size = s := by rw [← Array.length_toList, hv, hz]
 have hlt : i * s + j < m * s := row_lt (by omega) hjs
 have hmod : (i * s + j) % cv.size = j := by rw [hcs, Nat.mul_comm, Nat.mul_add_mod, Nat.mod_eq_of_lt hjs]
 refine ⟨u, ?_, hsc u (List.mem_of_getElem? hu), RV.lit u⟩
 have hcu : cv[j]? = some u := by rw [← Array.getElem?_toList, hv]; exact hu
 simp only [Array.getElem?_map, Array.getElem?_range, hlt, if_true, Option.map_some, hmod]
 rw [getElem!_def, hcu]
end
end Go.Proofs.YtmflphfmefakfaaGreatDoor.Av
