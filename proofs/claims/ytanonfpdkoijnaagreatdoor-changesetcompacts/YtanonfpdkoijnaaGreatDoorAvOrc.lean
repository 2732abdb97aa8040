/- A part of the proof of ChangesetCompactsCardSaid: an evaluator of the program, proved sound, and what it says. -/
import Derived.Test.YtanonfpdkoijnaaGreatDoorAvSym
namespace Go.Proofs.YtanonfpdkoijnaaGreatDoor.Av
open Go

/-- The proposition that a proof is of. -/
abbrev PropOf {p : Prop} (_ : p) : Prop := p

def AllP : List Prop → Prop
  | [] => True
  | p :: r => p ∧ AllP r

/-- What is told ahead: results of operations by their destinations, decisions by their temporaries. -/
structure Orc where
  O : List (Nat × AV × Option Heap)
  B : List (Nat × Bool)

/-- A state with what is told of loops and of writes, and with what is to be shown, the last first. -/
structure OSt where
  st : St
  L : List (AExit × St)
  M : List (Option Heap)
  ps : List Prop

def look {α : Type} (t : Nat) : List (Nat × α) → Option α
  | [] => none
  | (u, a) :: r => match Nat.beq u t with | true => some a | false => look t r

def isB (x : AV) (b : Bool) : Prop := match x with
  | .lit (.bool y) => y = b
  | _ => False

theorem isB_eq {x : AV} {b : Bool} (h : isB x b) : x = .lit (.bool b) := by
  unfold isB at h
  split at h
  · rw [h]
  · exact h.elim

/-- What a call gives that is handed nothing of the objects. -/
def pvc (cf : Nat → Nat → List AV → Heap → Option (AV × Heap)) (vi : Nat) (args : List AV) : Option AV :=
  match cf 0 vi args [] with
  | some (r, H') => some (seal3 H' 0 r)
  | none => none

def idxA (H : Heap) (s : Nat) (x i : AV) : Option AV :=
  match natOf i with
  | some i => match x with
    | .sl _ es => match es[i]? with
      | some e => if e.length = s then some (.rptr e) else none
      | none => none
    | .ms id tot off len => match H[id]? with
      | some (.blk s' es) => if s' = s ∧ es.length = tot ∧ i < len then some (.ptr id tot (off + i) 0) else none
      | _ => none
    | _ => none
  | none => none

def ibA (op : BinOp) (x y : AV) : Option AV :=
  match x, y with
  | .lit (.int k a), .lit (.int k' b) => if k = k' then match ibinV op k a b with
      | some v => some (.lit v)
      | none => none
    else none
  | _, _ => none

section
variable (P : Program) (cf : Nat → Nat → List AV → Heap → Option (AV × Heap)) (fl : Nat)

def getO [GlobT] (tm : List AV) : Option AOpd → AV
  | none => .undef
  | some x => getOpd tm x

/-- What is to be shown of an operation's result, in terms of the operands' values. -/
def stk [GlobT] (op : AOp) (tm : List AV) (H : Heap) (v : AV) (h : Option Heap) : Prop :=
  match op with
  | .call pu vi args =>
    match pu with
    | true => match plainAll (args.map (getOpd tm)) with
      | true => match h with
        | none => pvc cf vi ((args.map (getOpd tm)).map nrm2) = some v
        | some _ => False
      | false => callA cf fl true vi (args.map (getOpd tm)) H = some (v, h.getD H)
    | false => cf fl vi (args.map (getOpd tm)) H = some (v, h.getD H)
  | .callv pu x args => match getOpd tm x with
    | .fn vi caps => callA cf fl pu vi (args.map (getOpd tm) ++ caps) H = some (v, h.getD H)
    | _ => False
  | .idxAddr s x i => match h with
    | none => idxA H s (getOpd tm x) (getOpd tm i) = some v
    | some _ => False
  | .ibin op x y => match h with
    | none => ibA op (getOpd tm x) (getOpd tm y) = some v
    | some _ => False
  | .append s bytes x y => (match rd H (getOpd tm y) with | some ys => appendA fl H s bytes (getOpd tm x) ys | none => none) = some (v, h.getD H)
  | .lenS x => evOp P cf fl (.lenS (.tmp 0)) [getOpd tm x] H = some (v, h.getD H)
  | .un op x => evOp P cf fl (.un op (.tmp 0)) [getOpd tm x] H = some (v, h.getD H)
  | .bin op t x y => evOp P cf fl (.bin op t (.tmp 0) (.tmp 1)) [getOpd tm x, getOpd tm y] H = some (v, h.getD H)
  | .lookup kt z m k ok => evOp P cf fl (.lookup kt (.tmp 2) (.tmp 0) (.tmp 1) ok) [getOpd tm m, getOpd tm k, getOpd tm z] H = some (v, h.getD H)
  | .load agg n x => evOp P cf fl (.load agg n (.tmp 0)) [getOpd tm x] H = some (v, h.getD H)
  | .appendZ s b z x n => evOp P cf fl (.appendZ s b z (.tmp 0) (.tmp 1)) [getOpd tm x, getOpd tm n] H = some (v, h.getD H)
  | .mkSlice s z b x n => evOp P cf fl (.mkSlice s z b (.tmp 0) (.tmp 1)) [getOpd tm x, getOpd tm n] H = some (v, h.getD H)
  | .minmax mx xs => evOp P cf fl (.minmax mx ((List.range xs.length).map .tmp)) (xs.map (getOpd tm)) H = some (v, h.getD H)
  | .slice s x lo hi mx => evOp P cf fl (.slice s (.tmp 0) (lo.map fun _ => .tmp 1) (hi.map fun _ => .tmp 2) (mx.map fun _ => .tmp 3)) [getOpd tm x, getO tm lo, getO tm hi, getO tm mx] H = some (v, h.getD H)
  | .strSlice t x lo hi => evOp P cf fl (.strSlice t (.tmp 0) (lo.map fun _ => .tmp 1) (hi.map fun _ => .tmp 2)) [getOpd tm x, getO tm lo, getO tm hi] H = some (v, h.getD H)
  | .strIdx t x i => evOp P cf fl (.strIdx t (.tmp 0) (.tmp 1)) [getOpd tm x, getOpd tm i] H = some (v, h.getD H)
  | .lenStr t x => evOp P cf fl (.lenStr t (.tmp 0)) [getOpd tm x] H = some (v, h.getD H)
  | .conv a b x => evOp P cf fl (.conv a b (.tmp 0)) [getOpd tm x] H = some (v, h.getD H)
  | .lenM x => evOp P cf fl (.lenM (.tmp 0)) [getOpd tm x] H = some (v, h.getD H)
  | .copy s x y => evOp P cf fl (.copy s (.tmp 0) (.tmp 1)) [getOpd tm x, getOpd tm y] H = some (v, h.getD H)
  | op => evOp P cf fl op tm H = some (v, h.getD H)

/-- The same, of an operation without a destination. -/
def stn [GlobT] (op : AOp) (tm : List AV) (H H' : Heap) : Prop :=
  match op with
  | .mapUpd kt m k v => evOp P cf fl (.mapUpd kt (.tmp 0) (.tmp 1) (.tmp 2)) [getOpd tm m, getOpd tm k, getOpd tm v] H = some (.lit undefV, H')
  | .store n x v => evOp P cf fl (.store n (.tmp 0) (.tmp 1)) [getOpd tm x, getOpd tm v] H = some (.lit undefV, H')
  | .call pu vi args => ∃ v, callA cf fl pu vi (args.map (getOpd tm)) H = some (v, H')
  | .callv pu x args => match getOpd tm x with
    | .fn vi caps => ∃ v, callA cf fl pu vi (args.map (getOpd tm) ++ caps) H = some (v, H')
    | _ => False
  | op => ∃ v, evOp P cf fl op tm H = some (v, H')

theorem stn_ok [GlobT] {op : AOp} {tm : List AV} {H H' : Heap} (k : stn P cf fl op tm H H') : ∃ v, evOp P cf fl op tm H = some (v, H') := by
  unfold stn at k
  split at k
  · exact ⟨_, k⟩
  · exact ⟨_, k⟩
  · exact k
  · rename_i pu x args
    split at k
    · rename_i vi caps hx
      simp only [evOp, hx]
      exact k
    · exact k.elim
  · exact k

theorem getOpd_range [GlobT] (xs : List AV) : ((List.range xs.length).map AOpd.tmp).map (getOpd xs) = xs := by
  apply List.ext_getElem?
  intro i
  simp only [List.getElem?_map]
  rcases Nat.lt_or_ge i xs.length with h | h
  · rw [List.getElem?_range h, List.getElem?_eq_getElem h]
    simp [getOpd, List.getElem?_eq_getElem h]
  · rw [List.getElem?_eq_none (by simpa using h), List.getElem?_eq_none h]
    rfl

theorem stk_ok [GlobT] {op : AOp} {tm : List AV} {H : Heap} {v : AV} {h : Option Heap} (k : stk P cf fl op tm H v h) : evOp P cf fl op tm H = some (v, h.getD H) := by
  unfold stk at k
  split at k
  · rename_i pu vi args
    show callA cf fl pu vi (args.map (getOpd tm)) H = _
    split at k
    · split at k
      · rename_i hp
        split at k
        · unfold pvc at k
          unfold callA
          simp only [hp]
          split at k
          · rename_i r H' he
            rw [he]
            simp only [Option.some.injEq] at k
            simp [k]
          · cases k
        · exact k.elim
      · exact k
    · exact k
  · rename_i pu x args
    split at k
    · rename_i vi caps hx
      simp only [evOp, hx]
      exact k
    · exact k.elim
  · rename_i s x i
    split at k
    · unfold idxA at k
      simp only [evOp]
      split at k
      · rename_i j hj
        simp only [hj]
        split at k
        · rename_i es hx
          simp only [hx]
          split at k
          · rename_i e he
            simp only [he]
            split at k
            · rename_i hl
              simp only [hl, if_true]
              cases k
              rfl
            · cases k
          · cases k
        · rename_i id tot off len hx
          simp only [hx]
          split at k
          · rename_i s' es he
            simp only [he]
            split at k
            · rename_i hl
              rw [if_pos hl]
              cases k
              rfl
            · cases k
          · cases k
        · cases k
      · cases k
    · exact k.elim
  · rename_i op x y
    split at k
    · unfold ibA at k
      simp only [evOp]
      split at k
      · rename_i k1 a k2 b h1 h2
        simp only [h1, h2]
        split at k
        · rename_i hk
          rw [if_pos hk]
          split at k
          · rename_i u hu
            simp only [hu]
            cases k
            rfl
          · cases k
        · cases k
      · cases k
    · exact k.elim
  · simp only [evOp]
    split at k
    · rename_i ys hy
      simp only [hy]
      exact k
    · cases k
  · exact k
  · exact k
  · exact k
  · exact k
  · exact k
  · exact k
  · exact k
  · rename_i mx xs
    simp only [evOp] at k ⊢
    have := getOpd_range (xs.map (getOpd tm))
    rw [List.length_map] at this
    rw [this] at k
    exact k
  · rename_i s x lo hi mx
    cases lo <;> cases hi <;> cases mx <;> exact k
  · rename_i t x lo hi
    cases lo <;> cases hi <;> exact k
  · exact k
  · exact k
  · exact k
  · exact k
  · exact k
  · exact k

/-- A loop whose state the head has been through. -/
def evLoopH (head : St → St) (step : St → Option (AExit × St)) : Nat → St → Option (AExit × St)
  | 0, _ => none
  | n + 1, st => match step st with
    | some (.normal, st) => evLoop head step n st
    | r => r

theorem evLoopH_eq {head : St → St} {step : St → Option (AExit × St)} (n : Nat) (st : St) : evLoop head step n st = evLoopH head step n (head st) := by
  cases n <;> rfl

/-- Nothing of the objects that stay speaks of those that go. -/
def cleanQ (tr : Bool) (fl n : Nat) (H : Heap) : Prop := match tr with
  | true => (H.drop fl).map (cleanObj n) = H.drop fl
  | false => True

def headO (live : Option (List Bool)) (tr : Bool) (n : Nat) (st : St) : St := match tr with
  | true => ⟨(maskO live st.tmps).map (clean3 n), st.heap.take n⟩
  | false => ⟨maskO live st.tmps, st.heap⟩

theorem headO_eq {live : Option (List Bool)} {tr : Bool} {fl n : Nat} {st : St} (hn : Nat.ble fl n = true) (h : cleanQ tr fl n (headO live tr n st).heap) : headSt live tr fl n st = headO live tr n st := by
  cases tr with
  | false => rfl
  | true =>
    simp only [cleanQ, headO] at h
    simp only [headSt, headO, if_true, h]
    congr 1
    have : st.heap.take fl = (st.heap.take n).take fl := by rw [List.take_take, Nat.min_eq_left (Nat.le_of_ble_eq_true hn)]
    rw [this, List.take_append_drop]

def maskO2 (lx lr : List Bool) (tr : Bool) (n : Nat) (x : AExit) (st : St) : St := match x with
  | .ret => ⟨maskL lr st.tmps, st.heap⟩
  | .normal => headO (some lx) tr n st
  | .exit _ => headO (some lx) tr n st

def cleanX (tr : Bool) (fl n : Nat) (x : AExit) (H : Heap) : Prop := match x with
  | .ret => True
  | .normal => cleanQ tr fl n H
  | .exit _ => cleanQ tr fl n H

theorem maskO2_eq [GlobT] {lx lr : List Bool} {tr : Bool} {fl n : Nat} {x : AExit} {st : St} (hn : Nat.ble fl n = true) (h : cleanX tr fl n x (maskO2 lx lr tr n x st).heap) : maskR lx lr tr fl n (some (x, st)) = some (x, maskO2 lx lr tr n x st) := by
  cases x with
  | ret => rfl
  | normal => simp only [maskR, maskO2]; rw [headO_eq hn h]
  | exit i => simp only [maskR, maskO2]; rw [headO_eq hn h]

def headVO [GlobT] (live : List Bool) (t n : Nat) (st : St) : St :=
  match getOpd st.tmps (.tmp t) with
  | .ms id tot off len => match Nat.ble n id with
    | true => match st.heap[id]? with
      | some (.blk s es) => ⟨((maskL live st.tmps).map (clean3 n)).set t (.ms n tot off len), st.heap.take n ++ [.blk s es]⟩
      | _ => headO (some live) true n st
    | false => headO (some live) true n st
  | _ => headO (some live) true n st

theorem headVO_eq [GlobT] {live : List Bool} {t fl n : Nat} {st : St} (hn : Nat.ble fl n = true) (h : cleanQ true fl n (headVO live t n st).heap) : headV live t fl n st = headVO live t n st := by
  have hfn := Nat.le_of_ble_eq_true hn
  unfold headVO at h ⊢
  unfold headV
  split
  · rename_i id tot off len hx
    simp only [hx] at h ⊢
    split
    · rename_i hid
      rw [Nat.ble_eq_true_of_le hid] at h ⊢
      simp only at h ⊢
      split
      · rename_i s es hob
        simp only [hob, cleanQ] at h
        have hlt : id < st.heap.length := (List.getElem?_eq_some_iff.1 hob).1
        have hl : (st.heap.take n).length = n := by simp; omega
        rw [List.drop_append_of_le_length (by omega), List.map_append] at h
        have h1 := List.append_inj_left' h (by simp)
        have h2 := List.append_inj_right' h (by simp)
        simp only [List.map_cons, List.map_nil, List.cons.injEq, and_true] at h2
        have hh : st.heap.take fl ++ (st.heap.take n).drop fl = st.heap.take n := by
          have : st.heap.take fl = (st.heap.take n).take fl := by rw [List.take_take, Nat.min_eq_left hfn]
          rw [this, List.take_append_drop]
        simp only [hob, h1, h2, hh]
      · rename_i hob
        split at h
        · rename_i s es hob'
          exact (hob s es hob').elim
        · exact headO_eq hn h
    · rename_i hid
      have : Nat.ble n id = false := by
        cases hb : Nat.ble n id with
        | false => rfl
        | true => exact (hid (Nat.le_of_ble_eq_true hb)).elim
      rw [this] at h ⊢
      exact headO_eq hn h
  · rename_i hx
    split at h
    · rename_i id tot off len hx'
      exact (hx id tot off len hx').elim
    · exact headO_eq hn h

def maskVO [GlobT] (lx lr : List Bool) (t n : Nat) (x : AExit) (st : St) : St := match x with
  | .ret => ⟨maskL lr st.tmps, st.heap⟩
  | .normal => headVO lx t n st
  | .exit _ => headVO lx t n st

theorem maskVO_eq [GlobT] {lx lr : List Bool} {t fl n : Nat} {x : AExit} {st : St} (hn : Nat.ble fl n = true) (h : cleanX true fl n x (maskVO lx lr t n x st).heap) : maskV lx lr t fl n (some (x, st)) = some (x, maskVO lx lr t n x st) := by
  cases x with
  | ret => rfl
  | normal => simp only [maskV, maskVO]; rw [headVO_eq hn h]
  | exit i => simp only [maskV, maskVO]; rw [headVO_eq hn h]

def loopOf : ACode → Option (Option (List Bool) × Bool × ACode)
  | .loop live tr c => some (live, tr, c)
  | _ => none

theorem loopOf_eq {c : ACode} {live : Option (List Bool)} {tr : Bool} {b : ACode} (h : loopOf c = some (live, tr, b)) : c = .loop live tr b := by
  cases c <;> simp [loopOf] at h
  obtain ⟨rfl, rfl, rfl⟩ := h
  rfl

variable (o : Orc)

def oRun [GlobT] (a : AOper) (s : OSt) : Option OSt :=
  match a.dst with
  | some d => match look d o.O with
    | some (v, h) => some ⟨⟨s.st.tmps.set d v, h.getD s.st.heap⟩, s.L, s.M, stk P cf fl a.op s.st.tmps s.st.heap v h :: s.ps⟩
    | none => match evOp P cf fl a.op s.st.tmps s.st.heap with
      | some (v, H) => some ⟨⟨s.st.tmps.set d v, H⟩, s.L, s.M, s.ps⟩
      | none => none
  | none => match s.M with
    | some H' :: M => some ⟨⟨s.st.tmps, H'⟩, s.L, M, stn P cf fl a.op s.st.tmps s.st.heap H' :: s.ps⟩
    | none :: M => match evOp P cf fl a.op s.st.tmps s.st.heap with
      | some (_, H) => some ⟨⟨s.st.tmps, H⟩, s.L, M, s.ps⟩
      | none => none
    | [] => match evOp P cf fl a.op s.st.tmps s.st.heap with
      | some (_, H) => some ⟨⟨s.st.tmps, H⟩, s.L, [], s.ps⟩
      | none => none

def oOper [GlobT] (a : AOper) (s : OSt) : Option OSt :=
  match a.guard with
  | none => oRun P cf fl o a s
  | some (t, want) => match look t o.B with
    | some b => match b == want with
      | true => oRun P cf fl o a ⟨s.st, s.L, s.M, isB (getOpd s.st.tmps (.tmp t)) b :: s.ps⟩
      | false => some ⟨⟨putA s.st.tmps a.dst (.lit undefV), s.st.heap⟩, s.L, s.M, isB (getOpd s.st.tmps (.tmp t)) b :: s.ps⟩
    | none => match wantA s.st.tmps (some (t, want)) with
      | some true => oRun P cf fl o a s
      | some false => some ⟨⟨putA s.st.tmps a.dst (.lit undefV), s.st.heap⟩, s.L, s.M, s.ps⟩
      | none => none

def oOps [GlobT] : List AOper → OSt → Option OSt
  | [], s => some s
  | a :: r, s => match oOper P cf fl o a s with
    | some s => oOps r s
    | none => none

def oOpsL [GlobT] : List AOper → OSt → Option (List OSt)
  | [], s => some [s]
  | a :: r, s => match oOper P cf fl o a s with
    | some s1 => match oOpsL r s1 with
      | some l => some (s :: l)
      | none => none
    | none => none

def stsOf : List OSt → List St
  | [] => []
  | s :: r => s.st :: stsOf r

def oReg [GlobT] (ck : List (Nat × Nat)) (ops : List AOper) (s : OSt) : Option OSt := match ck with
  | [] => oOps P cf fl o ops s
  | c :: r => match oOpsL P cf fl o ops s with
    | some l => match ckAll ops (stsOf l) (c :: r) with
      | true => l.getLast?
      | false => none
    | none => none

def condB (c : AOpd) : Option Bool := match c with
  | .tmp t => look t o.B
  | _ => none

def oC [GlobT] (lf : Nat) : ACode → OSt → Option (AExit × OSt)
  | .skip, s => some (.normal, s)
  | .region _ ck ops, s => match oReg P cf fl o ck ops s with
    | some s => some (.normal, s)
    | none => none
  | .seq a b, s => match oC lf a s with
    | some (.normal, s) => oC lf b s
    | r => r
  | .cond c a b, s => match condB o c with
    | some true => oC lf a ⟨s.st, s.L, s.M, isB (getOpd s.st.tmps c) true :: s.ps⟩
    | some false => oC lf b ⟨s.st, s.L, s.M, isB (getOpd s.st.tmps c) false :: s.ps⟩
    | none => match getOpd s.st.tmps c with
      | .lit (.bool true) => oC lf a s
      | .lit (.bool false) => oC lf b s
      | _ => none
  | .block id c, s => match oC lf c s with
    | some (.exit i, s) => if i = id then some (.normal, s) else some (.exit i, s)
    | r => r
  | .loop live tr c, s => match s.L with
    | (x, st) :: L => some (x, ⟨st, L, s.M, (evLoopH (headSt live tr fl s.st.heap.length) (evC P cf lf fl c) lf (headSt live tr fl s.st.heap.length s.st) = some (x, st)) :: s.ps⟩)
    | [] => none
  | .exit id, s => some (.exit id, s)
  | .ret, s => some (.ret, s)
  | .frz t c, s => match look (t + 100000) o.O with
    | some (v, h) => oC lf c ⟨⟨s.st.tmps.set t v, h.getD s.st.heap⟩, s.L, s.M, (evOp P cf fl (.freeze (.tmp 0)) [getOpd s.st.tmps (.tmp t)] s.st.heap = some (v, h.getD s.st.heap)) :: s.ps⟩
    | none => match evOp P cf fl (.freeze (.tmp t)) s.st.tmps s.st.heap with
      | some (v, H) => oC lf c ⟨⟨s.st.tmps.set t v, H⟩, s.L, s.M, s.ps⟩
      | none => none
  | .mask lx lr tr c, s => match Nat.ble fl s.st.heap.length with
    | true => match loopOf c with
      | some (live, tr', b) => match s.L with
        | (x, st) :: L => some (x, ⟨st, L, s.M, (maskR lx lr tr fl s.st.heap.length (evLoopH (headSt live tr' fl s.st.heap.length) (evC P cf lf fl b) lf (headO live tr' s.st.heap.length s.st)) = some (x, st)) :: cleanQ tr' fl s.st.heap.length (headO live tr' s.st.heap.length s.st).heap :: s.ps⟩)
        | [] => none
      | none => match oC lf c s with
        | some (x, s') => some (x, ⟨maskO2 lx lr tr s.st.heap.length x s'.st, s'.L, s'.M, cleanX tr fl s.st.heap.length x (maskO2 lx lr tr s.st.heap.length x s'.st).heap :: s'.ps⟩)
        | none => none
    | false => none
  | .scope c, s => oC lf c s
  | .nilIf _ _ _ _ _, _ => none
  | .loopV live lx lr t c, s => match Nat.ble fl s.st.heap.length with
    | true => match s.L with
      | (_, st1) :: (x, st) :: L => some (x, ⟨st, L, s.M, (maskV lx lr t fl s.st.heap.length (evLoopH (headV live t fl s.st.heap.length) (evC P cf lf fl c) lf (headVO live t s.st.heap.length st1)) = some (x, st)) :: cleanQ true fl s.st.heap.length (headVO live t s.st.heap.length st1).heap :: (ownSt fl t s.st = some st1) :: s.ps⟩)
      | _ => none
    | false => none
  | .stop, _ => none

theorem oRun_ok [GlobT] {a : AOper} {s s' : OSt} (h : oRun P cf fl o a s = some s') (hp : AllP s'.ps) : (match evOp P cf fl a.op s.st.tmps s.st.heap with
      | some (v, H) => some (⟨putA s.st.tmps a.dst v, H⟩ : St)
      | none => none) = some s'.st ∧ AllP s.ps := by
  unfold oRun at h
  split at h
  · rename_i d hd
    split at h
    · rename_i v h' hl
      cases h
      obtain ⟨h1, h2⟩ := hp
      rw [stk_ok P cf fl h1]
      simp only [putA, hd]
      exact ⟨trivial, h2⟩
    · split at h
      · rename_i v H he
        cases h
        simp only [putA, hd]
        exact ⟨trivial, hp⟩
      · cases h
  · rename_i hd
    simp only [putA, hd]
    split at h
    · rename_i H' M hM
      cases h
      obtain ⟨h1, h2⟩ := hp
      obtain ⟨v, h3⟩ := stn_ok P cf fl h1
      rw [h3]
      exact ⟨rfl, h2⟩
    · split at h
      · rename_i u H he
        cases h
        simp only
        exact ⟨trivial, hp⟩
      · cases h
    · split at h
      · rename_i u H he
        cases h
        simp only
        exact ⟨trivial, hp⟩
      · cases h

theorem oOper_ok [GlobT] {a : AOper} {s s' : OSt} (h : oOper P cf fl o a s = some s') (hp : AllP s'.ps) : evOper P cf fl a s.st = some s'.st ∧ AllP s.ps := by
  unfold oOper at h
  unfold evOper
  split at h
  · rename_i hg
    rw [hg]
    simp only [wantA]
    exact oRun_ok P cf fl o h hp
  · rename_i t want hg
    rw [hg]
    split at h
    · rename_i b hb
      split at h
      · rename_i hw
        obtain ⟨h1, h2⟩ := oRun_ok P cf fl o h hp
        obtain ⟨h3, h4⟩ := h2
        have h5 := isB_eq h3
        simp only [wantA, h5, hw]
        exact ⟨h1, h4⟩
      · rename_i hw
        cases h
        obtain ⟨h3, h4⟩ := hp
        have h5 := isB_eq h3
        simp only [wantA, h5, hw]
        exact ⟨trivial, h4⟩
    · split at h
      · rename_i hw
        rw [hw]
        exact oRun_ok P cf fl o h hp
      · rename_i hw
        rw [hw]
        cases h
        exact ⟨rfl, hp⟩
      · cases h

theorem oOps_ok [GlobT] : ∀ (l : List AOper) (s s' : OSt), oOps P cf fl o l s = some s' → AllP s'.ps → evOps P cf fl l s.st = some s'.st ∧ AllP s.ps
  | [], s, s', h, hp => by cases h; exact ⟨rfl, hp⟩
  | a :: r, s, s', h, hp => by
    simp only [oOps] at h
    split at h
    · rename_i s1 h1
      obtain ⟨k1, k2⟩ := oOps_ok r s1 s' h hp
      obtain ⟨k3, k4⟩ := oOper_ok P cf fl o h1 k2
      simp only [evOps, k3]
      exact ⟨k1, k4⟩
    · cases h

theorem oOpsL_ok [GlobT] : ∀ (l : List AOper) (s : OSt) (q : List OSt) (s' : OSt), oOpsL P cf fl o l s = some q → q.getLast? = some s' → AllP s'.ps → evOpsL P cf fl l s.st = some (stsOf q) ∧ (stsOf q).getLast? = some s'.st ∧ AllP s.ps
  | [], s, q, s', h, hl, hp => by
    simp only [oOpsL, Option.some.injEq] at h
    subst h
    simp only [List.getLast?_singleton, Option.some.injEq] at hl
    subst hl
    exact ⟨rfl, rfl, hp⟩
  | a :: r, s, q, s', h, hl, hp => by
    simp only [oOpsL] at h
    split at h
    · rename_i s1 h1
      split at h
      · rename_i l1 h2
        cases h
        have hne : l1 ≠ [] := by
          intro e
          subst e
          cases r with
          | nil => simp [oOpsL] at h2
          | cons b r =>
            simp only [oOpsL] at h2
            split at h2
            · split at h2 <;> cases h2
            · cases h2
        rw [List.getLast?_cons_of_ne_nil hne] at hl
        obtain ⟨k1, k2, k3⟩ := oOpsL_ok r s1 l1 s' h2 hl hp
        obtain ⟨k4, k5⟩ := oOper_ok P cf fl o h1 k3
        have hne2 : stsOf l1 ≠ [] := by
          cases l1 with
          | nil => exact (hne rfl).elim
          | cons b r => simp [stsOf]
        refine ⟨by simp only [evOpsL, k4, k1]; rfl, ?_, k5⟩
        show (s.st :: stsOf l1).getLast? = _
        rw [List.getLast?_cons_of_ne_nil hne2]
        exact k2
      · cases h
    · cases h

theorem oReg_ok [GlobT] {ck : List (Nat × Nat)} {ops : List AOper} {s s' : OSt} (h : oReg P cf fl o ck ops s = some s') (hp : AllP s'.ps) : evReg P cf fl ck ops s.st = some s'.st ∧ AllP s.ps := by
  unfold oReg at h
  unfold evReg
  split at h
  · exact oOps_ok P cf fl o ops s s' h hp
  · split at h
    · rename_i l hl
      split at h
      · rename_i hck
        obtain ⟨k1, k2, k3⟩ := oOpsL_ok P cf fl o ops s l s' hl h hp
        simp only [k1, hck]
        exact ⟨k2, k3⟩
      · cases h
    · cases h

theorem oC_ok [GlobT] (lf : Nat) : ∀ (c : ACode) (s : OSt) (x : AExit) (s' : OSt), oC P cf fl o lf c s = some (x, s') → AllP s'.ps → evC P cf lf fl c s.st = some (x, s'.st) ∧ AllP s.ps
  | .skip, s, x, s', h, hp => by cases h; exact ⟨rfl, hp⟩
  | .region _ ck ops, s, x, s', h, hp => by
    simp only [oC] at h
    split at h
    · rename_i s1 h1
      cases h
      obtain ⟨k1, k2⟩ := oReg_ok P cf fl o h1 hp
      simp only [evC, k1]
      exact ⟨trivial, k2⟩
    · cases h
  | .seq a b, s, x, s', h, hp => by
    simp only [oC] at h
    split at h
    · rename_i s1 h1
      obtain ⟨k1, k2⟩ := oC_ok lf b s1 x s' h hp
      obtain ⟨k3, k4⟩ := oC_ok lf a s _ s1 h1 k2
      simp only [evC, k3]
      exact ⟨k1, k4⟩
    · rename_i hn
      obtain ⟨k3, k4⟩ := oC_ok lf a s x s' h hp
      simp only [evC, k3]
      cases x with
      | normal => exact (hn _ h).elim
      | exit => exact ⟨rfl, k4⟩
      | ret => exact ⟨rfl, k4⟩
  | .cond c a b, s, x, s', h, hp => by
    simp only [oC] at h
    split at h
    · obtain ⟨k1, k2, k3⟩ := oC_ok lf a _ x s' h hp
      simp only [evC, isB_eq k2]
      exact ⟨k1, k3⟩
    · obtain ⟨k1, k2, k3⟩ := oC_ok lf b _ x s' h hp
      simp only [evC, isB_eq k2]
      exact ⟨k1, k3⟩
    · split at h
      · rename_i hg
        obtain ⟨k1, k2⟩ := oC_ok lf a _ x s' h hp
        simp only [evC, hg]
        exact ⟨k1, k2⟩
      · rename_i hg
        obtain ⟨k1, k2⟩ := oC_ok lf b _ x s' h hp
        simp only [evC, hg]
        exact ⟨k1, k2⟩
      · cases h
  | .block id c, s, x, s', h, hp => by
    simp only [oC] at h
    split at h
    · rename_i i s1 h1
      have hs : s1 = s' := by
        split at h
        · cases h; rfl
        · cases h; rfl
      subst hs
      obtain ⟨k1, k2⟩ := oC_ok lf c s _ s1 h1 hp
      simp only [evC, k1]
      split at h
      · rename_i hi; cases h; rw [if_pos hi]; exact ⟨rfl, k2⟩
      · rename_i hi; cases h; rw [if_neg hi]; exact ⟨rfl, k2⟩
    · rename_i hn
      obtain ⟨k3, k4⟩ := oC_ok lf c s x s' h hp
      simp only [evC, k3]
      cases x with
      | normal => exact ⟨rfl, k4⟩
      | exit i => exact (hn _ _ h).elim
      | ret => exact ⟨rfl, k4⟩
  | .loop live tr c, s, x, s', h, hp => by
    simp only [oC] at h
    split at h
    · rename_i y st L hL
      cases h
      obtain ⟨h1, h2⟩ := hp
      exact ⟨by simp only [evC]; rw [evLoopH_eq]; exact h1, h2⟩
    · cases h
  | .exit id, s, x, s', h, hp => by cases h; exact ⟨rfl, hp⟩
  | .ret, s, x, s', h, hp => by cases h; exact ⟨rfl, hp⟩
  | .frz t c, s, x, s', h, hp => by
    simp only [oC] at h
    split at h
    · rename_i v h' hl
      obtain ⟨k1, k2, k3⟩ := oC_ok lf c _ x s' h hp
      have k2' : evOp P cf fl (.freeze (.tmp t)) s.st.tmps s.st.heap = some (v, h'.getD s.st.heap) := k2
      simp only [evC, k2']
      exact ⟨k1, k3⟩
    · split at h
      · rename_i v H he
        obtain ⟨k1, k2⟩ := oC_ok lf c _ x s' h hp
        simp only [evC, he]
        exact ⟨k1, k2⟩
      · cases h
  | .mask lx lr tr c, s, x, s', h, hp => by
    simp only [oC] at h
    split at h
    · rename_i hn
      split at h
      · rename_i live tr' b hl
        have := loopOf_eq hl
        subst this
        split at h
        · rename_i y st L hL
          cases h
          obtain ⟨h1, h2, h3⟩ := hp
          refine ⟨?_, h3⟩
          simp only [evC]
          rw [evLoopH_eq, headO_eq hn h2]
          exact h1
        · cases h
      · split at h
        · rename_i y s1 h1
          cases h
          obtain ⟨h2, h3⟩ := hp
          obtain ⟨k1, k2⟩ := oC_ok lf c s _ s1 h1 h3
          simp only [evC, k1]
          exact ⟨maskO2_eq hn h2, k2⟩
        · cases h
    · cases h
  | .nilIf _ _ _ _ _, s, x, s', h, hp => by simp only [oC] at h; cases h
  | .scope c, s, x, s', h, hp => by
    simp only [oC] at h
    simp only [evC]
    exact oC_ok lf c s x s' h hp
  | .loopV live lx lr t c, s, x, s', h, hp => by
    simp only [oC] at h
    split at h
    · rename_i hn
      split at h
      · rename_i y0 st1 y st L hL
        cases h
        obtain ⟨h1, h2, h3, h4⟩ := hp
        refine ⟨?_, h4⟩
        simp only [evC, h3]
        rw [evLoopH_eq, headVO_eq hn h2]
        exact h1
      · cases h
    · cases h
  | .stop, s, x, s', h, hp => by simp only [oC] at h; cases h
end

/-- A function's call, told ahead: its sealed result, and what is to be shown. -/
def oF [GlobT] (P : Program) (T : List AFun) (n : Nat) (o : Orc) (L : List (AExit × St)) (M : List (Option Heap)) (F : AFun) (args : List AV) : Option (AV × List Prop) :=
  match oC P (evF P T n) 0 o n F.body ⟨⟨args ++ List.replicate (F.nt - args.length) (.lit undefV), []⟩, L, M, []⟩ with
  | some (x, s) => match sealO (finA F (some (x, s.st))) with
    | some r => some (r, s.ps)
    | none => none
  | none => none

theorem pv_o [GlobT] {P : Program} {T : List AFun} {n vi : Nat} {args : List AV} {r : AV} {ps : List Prop} {F : AFun} (o : Orc) (L : List (AExit × St)) (M : List (Option Heap)) (hF : T[vi]? = some F) (h : oF P T n o L M F args = some (r, ps)) (hp : AllP ps) : pv P T (n + 1) vi args = some r := by
  rw [pv_at F hF]
  unfold oF at h
  split at h
  · rename_i x s hs
    split at h
    · rename_i r' hr
      cases h
      obtain ⟨k, _⟩ := oC_ok P (evF P T n) 0 o n F.body _ x s hs hp
      rw [k]
      exact hr
    · cases h
  · cases h

/-- The same, of a call in the middle of other objects. -/
def oE [GlobT] (P : Program) (T : List AFun) (n : Nat) (o : Orc) (L : List (AExit × St)) (M : List (Option Heap)) (F : AFun) (fl : Nat) (args : List AV) (H : Heap) : Option (AV × Heap × List Prop) :=
  match oC P (evF P T n) fl o n F.body ⟨⟨args ++ List.replicate (F.nt - args.length) (.lit undefV), H⟩, L, M, []⟩ with
  | some (x, s) => match finA F (some (x, s.st)) with
    | some (r, H') => some (r, H', s.ps)
    | none => none
  | none => none

theorem evF_o [GlobT] {P : Program} {T : List AFun} {n fl vi : Nat} {args : List AV} {H H' : Heap} {r : AV} {ps : List Prop} {F : AFun} (o : Orc) (L : List (AExit × St)) (M : List (Option Heap)) (hF : T[vi]? = some F) (h : oE P T n o L M F fl args H = some (r, H', ps)) (hp : AllP ps) : evF P T (n + 1) fl vi args H = some (r, H') := by
  rw [evF_at F hF]
  unfold oE at h
  split at h
  · rename_i x s hs
    split at h
    · rename_i r' H'' hr
      cases h
      obtain ⟨k, _⟩ := oC_ok P (evF P T n) fl o n F.body _ x s hs hp
      rw [k]
      exact hr
    · cases h
  · cases h

/-- A piece of code, told ahead; the head of the next round is made of a state that goes on. -/
def oB [GlobT] (P : Program) (cf : Nat → Nat → List AV → Heap → Option (AV × Heap)) (lf fl : Nat) (head : St → St) (o : Orc) (L : List (AExit × St)) (M : List (Option Heap)) (c : ACode) (st : St) : Option (AExit × St × List Prop) :=
  match oC P cf fl o lf c ⟨st, L, M, []⟩ with
  | some (.normal, s) => some (.normal, head s.st, s.ps)
  | some (x, s) => some (x, s.st, s.ps)
  | none => none

theorem next_o [GlobT] {P : Program} {cf : Nat → Nat → List AV → Heap → Option (AV × Heap)} {lf fl : Nat} {head : St → St} {c : ACode} {st st' : St} {ps : List Prop} (o : Orc) (L : List (AExit × St)) (M : List (Option Heap)) (h : oB P cf lf fl head o L M c st = some (.normal, st', ps)) (hp : AllP ps) : nextIs head (evC P cf lf fl c st) st' := by
  unfold oB at h
  split at h
  · rename_i s hs
    cases h
    obtain ⟨k, _⟩ := oC_ok P cf fl o lf c _ _ s hs hp
    rw [k]
    rfl
  · rename_i x s hn hs
    cases h
    exact (hn rfl).elim
  · cases h

theorem exit_o [GlobT] {P : Program} {cf : Nat → Nat → List AV → Heap → Option (AV × Heap)} {lf fl : Nat} {x : AExit} {c : ACode} {st st' : St} {ps : List Prop} (hx : x ≠ .normal) (o : Orc) (L : List (AExit × St)) (M : List (Option Heap)) (h : oB P cf lf fl id o L M c st = some (x, st', ps)) (hp : AllP ps) : evC P cf lf fl c st = some (x, st') := by
  unfold oB at h
  split at h
  · cases h; exact (hx rfl).elim
  · rename_i x' s hn hs
    cases h
    exact (oC_ok P cf fl o lf c _ _ s hs hp).1
  · cases h

/-- A loop, round by round: the states at the heads are S 0, S 1, ... -/
theorem evLoopH_run [GlobT] {head : St → St} {step : St → Option (AExit × St)} {x : AExit} {stx : St} {n k : Nat} (S : Nat → St) (hx : x ≠ .normal) (hn : k < n)
    (hstep : ∀ i, i < k → nextIs head (step (S i)) (S (i + 1))) (hend : step (S k) = some (x, stx)) : evLoopH head step n (S 0) = some (x, stx) := by
  obtain ⟨m, rfl⟩ : ∃ m, n = m + 1 := ⟨n - 1, by omega⟩
  cases k with
  | zero =>
    simp only [evLoopH, hend]
    cases x with
    | normal => exact (hx rfl).elim
    | exit => rfl
    | ret => rfl
  | succ k =>
    obtain ⟨st', h1, h2⟩ := nextIs_ex (hstep 0 (by omega))
    simp only [evLoopH, h1]
    exact evLoop_eq (k := k) (fun i => S (i + 1)) hx h2 (by omega) (fun i hi => hstep (i + 1) (by omega)) hend

/-- A round of a loop that goes on. -/
theorem next_m [GlobT] {P : Program} {cf : Nat → Nat → List AV → Heap → Option (AV × Heap)} {lf fl n m : Nat} {live : Option (List Bool)} {tr : Bool} {c : ACode} {st st' : St} {ps : List Prop} {r : Option (AExit × St)} (o : Orc) (L : List (AExit × St)) (M : List (Option Heap)) (hn : Nat.ble fl n = true) (h : oB P cf lf fl (headO live tr n) o L M c st = some (.normal, st', ps)) (hp : AllP ps)
    (hc : cleanQ tr fl n st'.heap) (hr : evLoopH (headSt live tr fl n) (evC P cf lf fl c) m st' = r) : evLoopH (headSt live tr fl n) (evC P cf lf fl c) (m + 1) st = r := by
  have := next_o o L M h hp
  obtain ⟨s, e1, e2⟩ := nextIs_ex this
  subst e2
  simp only [evLoopH, e1]
  rw [evLoopH_eq, headO_eq hn hc]
  exact hr

def oX [GlobT] (P : Program) (cf : Nat → Nat → List AV → Heap → Option (AV × Heap)) (lf fl n : Nat) (lx lr : List Bool) (tr : Bool) (o : Orc) (L : List (AExit × St)) (M : List (Option Heap)) (c : ACode) (st : St) : Option (AExit × St × List Prop) :=
  match oC P cf fl o lf c ⟨st, L, M, []⟩ with
  | some (x, s) => match x with
    | .normal => none
    | x => some (x, maskO2 lx lr tr n x s.st, s.ps)
  | none => none

/-- The last round of a loop. -/
theorem last_m [GlobT] {P : Program} {cf : Nat → Nat → List AV → Heap → Option (AV × Heap)} {lf fl n m : Nat} {live : Option (List Bool)} {tr tr' : Bool} {lx lr : List Bool} {c : ACode} {st st' : St} {x : AExit} {ps : List Prop} (o : Orc) (L : List (AExit × St)) (M : List (Option Heap)) (hn : Nat.ble fl n = true) (h : oX P cf lf fl n lx lr tr o L M c st = some (x, st', ps)) (hp : AllP ps)
    (hc : cleanX tr fl n x st'.heap) : maskR lx lr tr fl n (evLoopH (headSt live tr' fl n) (evC P cf lf fl c) (m + 1) st) = some (x, st') := by
  unfold oX at h
  split at h
  · rename_i y s hs
    have hk := (oC_ok P cf fl o lf c _ _ s hs (by
      split at h
      · cases h
      · cases h; exact hp)).1
    split at h
    · cases h
    · rename_i hne
      cases h
      have : evLoopH (headSt live tr' fl n) (evC P cf lf fl c) (m + 1) st = some (x, s.st) := by
        simp only [evLoopH, hk]
        cases x with
        | normal => exact (hne rfl).elim
        | exit i => rfl
        | ret => rfl
      rw [this]
      exact maskO2_eq hn hc
  · cases h

theorem next_mV [GlobT] {P : Program} {cf : Nat → Nat → List AV → Heap → Option (AV × Heap)} {lf fl n m t : Nat} {live : List Bool} {c : ACode} {st st' : St} {ps : List Prop} {r : Option (AExit × St)} (o : Orc) (L : List (AExit × St)) (M : List (Option Heap)) (hn : Nat.ble fl n = true) (h : oB P cf lf fl (headVO live t n) o L M c st = some (.normal, st', ps)) (hp : AllP ps)
    (hc : cleanQ true fl n st'.heap) (hr : evLoopH (headV live t fl n) (evC P cf lf fl c) m st' = r) : evLoopH (headV live t fl n) (evC P cf lf fl c) (m + 1) st = r := by
  have := next_o o L M h hp
  obtain ⟨s, e1, e2⟩ := nextIs_ex this
  subst e2
  simp only [evLoopH, e1]
  rw [evLoopH_eq, headVO_eq hn hc]
  exact hr

def oXV [GlobT] (P : Program) (cf : Nat → Nat → List AV → Heap → Option (AV × Heap)) (lf fl n : Nat) (lx lr : List Bool) (t : Nat) (o : Orc) (L : List (AExit × St)) (M : List (Option Heap)) (c : ACode) (st : St) : Option (AExit × St × List Prop) :=
  match oC P cf fl o lf c ⟨st, L, M, []⟩ with
  | some (x, s) => match x with
    | .normal => none
    | x => some (x, maskVO lx lr t n x s.st, s.ps)
  | none => none

theorem last_mV [GlobT] {P : Program} {cf : Nat → Nat → List AV → Heap → Option (AV × Heap)} {lf fl n m t : Nat} {live : List Bool} {lx lr : List Bool} {c : ACode} {st st' : St} {x : AExit} {ps : List Prop} (o : Orc) (L : List (AExit × St)) (M : List (Option Heap)) (hn : Nat.ble fl n = true) (h : oXV P cf lf fl n lx lr t o L M c st = some (x, st', ps)) (hp : AllP ps)
    (hc : cleanX true fl n x st'.heap) : maskV lx lr t fl n (evLoopH (headV live t fl n) (evC P cf lf fl c) (m + 1) st) = some (x, st') := by
  unfold oXV at h
  split at h
  · rename_i y s hs
    have hk := (oC_ok P cf fl o lf c _ _ s hs (by
      split at h
      · cases h
      · cases h; exact hp)).1
    split at h
    · cases h
    · rename_i hne
      cases h
      have : evLoopH (headV live t fl n) (evC P cf lf fl c) (m + 1) st = some (x, s.st) := by
        simp only [evLoopH, hk]
        cases x with
        | normal => exact (hne rfl).elim
        | exit i => rfl
        | ret => rfl
      rw [this]
      exact maskVO_eq hn hc
  · cases h

theorem own_ok [GlobT] {fl t id s k : Nat} {tm : List AV} {H : Heap} {α : Type} {l : List α} {c : α → List AV} (ht : getOpd tm (.tmp t) = .ms id l.length 0 k) (hfl : fl ≤ id) (hH : H[id]? = some (.blk s (l.map c))) :
    ownSt fl t ⟨tm, H⟩ = some ⟨tm.set t (.ms H.length l.length 0 k), H.set id (.blk s (l.map c ++ [List.replicate s .undef])) ++ [.blk s (l.map c)]⟩ := by
  have e : (l.map c).length = l.length := by simp
  simp only [ownSt, ht, hfl, if_true, hH, e]

theorem idx_sl {H : Heap} {s : Nat} {f : Bool} {es : List (List AV)} {i : Int} {j : Nat} {e : List AV} (hi : i = j) (he : es[j]? = some e) (hl : e.length = s) : idxA H s (.sl f es) (.lit (.int .i64 i)) = some (.rptr e) := by
  subst hi
  simp [idxA, natOf, he, hl]

theorem lit_eq {a b : Int} (h : a = b) : some (AV.lit (.int .i64 a)) = some (AV.lit (.int .i64 b)) := by rw [h]
end Go.Proofs.YtanonfpdkoijnaaGreatDoor.Av
