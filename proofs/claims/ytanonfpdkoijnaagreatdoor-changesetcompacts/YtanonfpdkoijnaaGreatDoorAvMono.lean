/- A part of the proof of ChangesetCompactsCardSaid: an evaluator of the program, proved sound, and what it says. -/
import Derived.Test.YtanonfpdkoijnaaGreatDoorAvSym
namespace Go.Proofs.YtanonfpdkoijnaaGreatDoor.Av
open Go

/- More fuel changes no answer. -/
section
variable {P : Program} {cf cf' : Nat → Nat → List AV → Heap → Option (AV × Heap)}

def Le (cf cf' : Nat → Nat → List AV → Heap → Option (AV × Heap)) : Prop := ∀ fl vi args H x, cf fl vi args H = some x → cf' fl vi args H = some x

theorem callA_mono (h : Le cf cf') {fl vi : Nat} {pu : Bool} {args : List AV} {H : Heap} {x : AV × Heap} (hx : callA cf fl pu vi args H = some x) : callA cf' fl pu vi args H = some x := by
  unfold callA at hx ⊢
  cases pu with
  | true =>
    simp only at hx ⊢
    cases hp : plainAll args with
    | true =>
      rw [hp] at hx
      simp only at hx ⊢
      split at hx
      · rename_i r H' he; rw [h _ _ _ _ _ he]; exact hx
      · cases hx
    | false =>
      rw [hp] at hx
      simp only at hx ⊢
      split at hx
      · rename_i r H' he; rw [h _ _ _ _ _ he]; exact hx
      · cases hx
  | false => exact h _ _ _ _ _ hx

theorem evOp_mono [GlobT] (h : Le cf cf') {fl : Nat} {op : AOp} {tm : List AV} {H : Heap} {x : AV × Heap} (hx : evOp P cf fl op tm H = some x) : evOp P cf' fl op tm H = some x := by
  cases op with
  | call pu vi args => exact callA_mono h hx
  | callv pu y args =>
    simp only [evOp] at hx ⊢
    split at hx
    · rename_i vi caps he
      exact callA_mono h hx
    · cases hx
  | callF vi args => exact h _ _ _ _ _ hx
  | callS vi args =>
    simp only [evOp] at hx ⊢
    split at hx
    · rename_i r H1 he
      rw [h _ _ _ _ _ he]; exact hx
    · cases hx
  | _ => exact hx

theorem evOper_mono [GlobT] (h : Le cf cf') {fl : Nat} {o : AOper} {st st' : St} (hx : evOper P cf fl o st = some st') : evOper P cf' fl o st = some st' := by
  unfold evOper at hx ⊢
  split at hx
  · split at hx
    · rename_i v H he
      rw [evOp_mono h he]; exact hx
    · cases hx
  · exact hx
  · cases hx

theorem evOps_mono [GlobT] (h : Le cf cf') {fl : Nat} : ∀ (l : List AOper) {st st' : St}, evOps P cf fl l st = some st' → evOps P cf' fl l st = some st'
  | [], _, _, hx => hx
  | o :: r, st, st', hx => by
    simp only [evOps] at hx ⊢
    split at hx
    · rename_i s1 he
      rw [evOper_mono h he]; exact evOps_mono h r hx
    · cases hx

theorem evOpsL_mono [GlobT] (h : Le cf cf') {fl : Nat} : ∀ (l : List AOper) {st : St} {q : List St}, evOpsL P cf fl l st = some q → evOpsL P cf' fl l st = some q
  | [], _, _, hx => hx
  | o :: r, st, q, hx => by
    simp only [evOpsL] at hx ⊢
    split at hx
    · rename_i s1 he
      rw [evOper_mono h he]
      simp only
      split at hx
      · rename_i l1 h1
        rw [evOpsL_mono h r h1]; exact hx
      · cases hx
    · cases hx

theorem evReg_mono [GlobT] (h : Le cf cf') {fl : Nat} {ck : List (Nat × Nat)} {ops : List AOper} {st st' : St} (hx : evReg P cf fl ck ops st = some st') : evReg P cf' fl ck ops st = some st' := by
  cases ck with
  | nil => exact evOps_mono h ops hx
  | cons c r =>
    simp only [evReg] at hx ⊢
    split at hx
    · rename_i l he
      rw [evOpsL_mono h ops he]; exact hx
    · cases hx

theorem evLoop_mono [GlobT] {head : St → St} {step step' : St → Option (AExit × St)} (hs : ∀ st x, step st = some x → step' st = some x) : ∀ (n m : Nat) (st : St) (x : AExit × St), n ≤ m → evLoop head step n st = some x → evLoop head step' m st = some x
  | 0, _, _, _, _, hx => by cases hx
  | n + 1, m, st, x, hnm, hx => by
    obtain ⟨m, rfl⟩ : ∃ q, m = q + 1 := ⟨m - 1, by omega⟩
    simp only [evLoop] at hx ⊢
    cases he : step (head st) with
    | none => rw [he] at hx; cases hx
    | some r =>
      rw [he] at hx
      rw [hs _ _ he]
      obtain ⟨y, s⟩ := r
      cases y with
      | normal => exact evLoop_mono hs n m s x (by omega) hx
      | exit i => exact hx
      | ret => exact hx

theorem maskR_mono {lx lr : List Bool} {tr : Bool} {fl n : Nat} {r r' : Option (AExit × St)} {x : AExit × St} (h : ∀ y, r = some y → r' = some y) (hx : maskR lx lr tr fl n r = some x) : maskR lx lr tr fl n r' = some x := by
  cases r with
  | none => cases hx
  | some y => rw [h y rfl]; exact hx

theorem maskV_mono [GlobT] {lx lr : List Bool} {t fl n : Nat} {r r' : Option (AExit × St)} {x : AExit × St} (h : ∀ y, r = some y → r' = some y) (hx : maskV lx lr t fl n r = some x) : maskV lx lr t fl n r' = some x := by
  cases r with
  | none => cases hx
  | some y => rw [h y rfl]; exact hx

theorem evC_mono [GlobT] (h : Le cf cf') {lf lf' fl : Nat} (hl : lf ≤ lf') : ∀ (c : ACode) (st : St) (x : AExit × St), evC P cf lf fl c st = some x → evC P cf' lf' fl c st = some x
  | .skip, _, _, hx => hx
  | .exit _, _, _, hx => hx
  | .ret, _, _, hx => hx
  | .stop, _, _, hx => hx
  | .region _ ck ops, st, x, hx => by
    simp only [evC] at hx ⊢
    split at hx
    · rename_i s1 he
      rw [evReg_mono h he]; exact hx
    · cases hx
  | .seq a b, st, x, hx => by
    simp only [evC] at hx ⊢
    cases he : evC P cf lf fl a st with
    | none => rw [he] at hx; cases hx
    | some r =>
      rw [he] at hx
      rw [evC_mono h hl a st r he]
      obtain ⟨y, s⟩ := r
      cases y with
      | normal => exact evC_mono h hl b s x hx
      | exit i => exact hx
      | ret => exact hx
  | .cond c a b, st, x, hx => by
    simp only [evC] at hx ⊢
    split at hx
    · exact evC_mono h hl a st x hx
    · exact evC_mono h hl b st x hx
    · cases hx
  | .block id c, st, x, hx => by
    simp only [evC] at hx ⊢
    cases he : evC P cf lf fl c st with
    | none => rw [he] at hx; cases hx
    | some r =>
      rw [he] at hx
      rw [evC_mono h hl c st r he]
      exact hx
  | .loop live tr c, st, x, hx => by
    simp only [evC] at hx ⊢
    exact evLoop_mono (fun st x hs => evC_mono h hl c st x hs) lf lf' st x hl hx
  | .frz t c, st, x, hx => by
    simp only [evC] at hx ⊢
    split at hx
    · rename_i v H he
      rw [evOp_mono h he]
      exact evC_mono h hl c _ x hx
    · cases hx
  | .mask lx lr tr c, st, x, hx => by
    simp only [evC] at hx ⊢
    exact maskR_mono (fun y hy => evC_mono h hl c st y hy) hx
  | .scope c, st, x, hx => by
    simp only [evC] at hx ⊢
    exact evC_mono h hl c st x hx
  | .nilIf t d0 d1 a b, st, x, hx => by
    simp only [evC] at hx ⊢
    split at hx
    · split at hx
      · cases he : evC P cf lf fl a ⟨nilTm st.tmps t d0 d1 true, st.heap⟩ with
        | none => rw [he] at hx; cases hx
        | some r => rw [he] at hx; rw [evC_mono h hl a _ r he]; exact hx
      · exact evC_mono h hl b _ x hx
      · split at hx
        · cases he : evC P cf lf fl a ⟨nilTm st.tmps t d0 d1 true, st.heap⟩ with
          | none => rw [he] at hx; cases hx
          | some r =>
            cases he2 : evC P cf lf fl b ⟨nilTm st.tmps t d0 d1 false, st.heap⟩ with
            | none => rw [he, he2] at hx; obtain ⟨y, s⟩ := r; cases y <;> cases hx
            | some r2 => rw [he, he2] at hx; rw [evC_mono h hl a _ r he, evC_mono h hl b _ r2 he2]; exact hx
        · cases hx
      · cases hx
    · cases hx
  | .loopV live lx lr t c, st, x, hx => by
    simp only [evC] at hx ⊢
    split at hx
    · rename_i s1 he
      exact maskV_mono (fun y hy => evLoop_mono (fun st x hs => evC_mono h hl c st x hs) lf lf' s1 y hl hy) hx
    · cases hx
end

theorem evF_le [GlobT] (P : Program) (T : List AFun) : ∀ n, Le (evF P T n) (evF P T (n + 1))
  | 0 => fun _ _ _ _ _ h => by cases h
  | n + 1 => fun fl vi args H x hx => by
    rw [evF] at hx ⊢
    split at hx
    · cases hx
    · rename_i F hF
      cases he : evC P (evF P T n) n fl F.body ⟨args ++ List.replicate (F.nt - args.length) (.lit undefV), H⟩ with
      | none => rw [he] at hx; cases hx
      | some r =>
        rw [he] at hx
        rw [evC_mono (evF_le P T n) (Nat.le_succ n) F.body _ r he]
        exact hx

theorem evF_mono [GlobT] {P : Program} {T : List AFun} {n m fl vi : Nat} {args : List AV} {H : Heap} {x : AV × Heap} (hnm : n ≤ m) (hx : evF P T n fl vi args H = some x) : evF P T m fl vi args H = some x := by
  induction hnm with
  | refl => exact hx
  | step _ ih => exact evF_le P T _ _ _ _ _ _ ih

theorem pv_mono [GlobT] {P : Program} {T : List AFun} {n m vi : Nat} {args : List AV} {r : AV} (hnm : n ≤ m) (hx : pv P T n vi args = some r) : pv P T m vi args = some r := by
  unfold pv at hx ⊢
  split at hx
  · rename_i r' H' he
    rw [evF_mono hnm he]; exact hx
  · cases hx

/- A boolean test of equality. -/
def eqVal : Value → Value → Bool
  | .int k a, .int k' b => k == k' && (match Int.decEq a b with | .isTrue _ => true | .isFalse _ => false)
  | .bool a, .bool b => a == b
  | .string a, .string b => decide (a = b)
  | .slice none 0 0, .slice none 0 0 => true
  | .pointer none, .pointer none => true
  | .map none, .map none => true
  | _, _ => false

theorem eqVal_eq {v u : Value} (h : eqVal v u = true) : v = u := by
  unfold eqVal at h
  split at h
  · rename_i k a k' b
    simp only [Bool.and_eq_true, beq_iff_eq] at h
    obtain ⟨rfl, h2⟩ := h
    split at h2
    · rename_i e _; rw [e]
    · cases h2
  · rename_i a b; simp only [beq_iff_eq] at h; rw [h]
  · rename_i a b; rw [of_decide_eq_true h]
  · rfl
  · rfl
  · rfl
  · cases h

def eqL {α : Type} (f : α → α → Bool) : List α → List α → Bool
  | [], [] => true
  | x :: r, y :: s => match f x y with
    | true => eqL f r s
    | false => false
  | _, _ => false
theorem eqL_eq [GlobT] {α : Type} {f : α → α → Bool} (hf : ∀ x y, f x y = true → x = y) : ∀ (l m : List α), eqL f l m = true → l = m
  | [], [], _ => rfl
  | x :: r, y :: s, h => by
    simp only [eqL] at h
    split at h
    · rename_i he
      rw [hf x y he, eqL_eq hf r s h]
    · cases h
  | [], _ :: _, h => by cases h
  | _ :: _, [], h => by cases h

def eqAV : Nat → AV → AV → Bool
  | 0, _, _ => false
  | d + 1, x, y => match x with
    | .lit v => match y with
      | .lit u => eqVal v u
      | _ => false
    | .sl f es => match y with
      | .sl g fs => f == g && eqL (eqL (eqAV d)) es fs
      | _ => false
    | .agg cs => match y with
      | .agg ds => eqL (eqAV d) cs ds
      | _ => false
    | .fn v [] => match y with
      | .fn u [] => Nat.beq v u
      | _ => false
    | .undef => match y with
      | .undef => true
      | _ => false
    | _ => false

theorem eqAV_eq [GlobT] : ∀ (d : Nat) (x y : AV), eqAV d x y = true → x = y
  | 0, _, _, h => by cases h
  | d + 1, x, y, h => by
    have ih := eqAV_eq d
    unfold eqAV at h
    split at h
    · split at h
      · rw [eqVal_eq h]
      · cases h
    · split at h
      · simp only [Bool.and_eq_true, beq_iff_eq] at h
        rw [h.1, eqL_eq (eqL_eq ih) _ _ h.2]
      · cases h
    · split at h
      · rw [eqL_eq ih _ _ h]
      · cases h
    · split at h
      · rw [Nat.eq_of_beq_eq_true h]
      · cases h
    · split at h
      · rfl
      · cases h
    · cases h

/-- What is known of calls: from which fuel on, the variant, the arguments, the result. -/
abbrev Memo := List (Nat × Nat × List AV × AV)

def lookM (n vi : Nat) (args : List AV) : Memo → Option AV
  | [] => none
  | (b, w, as, r) :: m => match Nat.beq vi w with
    | true => match Nat.ble b n with
      | true => match eqL (eqAV 9) args as with
        | true => some r
        | false => lookM n vi args m
      | false => lookM n vi args m
    | false => lookM n vi args m

def MemoOK [GlobT] (P : Program) (T : List AFun) : Memo → Prop
  | [] => True
  | (b, w, as, r) :: m => pv P T b w as = some r ∧ MemoOK P T m

theorem lookM_pv [GlobT] {P : Program} {T : List AFun} {n vi : Nat} {args : List AV} {r : AV} : ∀ (M : Memo), MemoOK P T M → lookM n vi args M = some r → pv P T n vi args = some r
  | [], _, h => by cases h
  | (b, w, as, r') :: m, hM, h => by
    simp only [lookM] at h
    split at h
    · rename_i h1
      split at h
      · rename_i h2
        split at h
        · rename_i h3
          cases h
          have e1 := Nat.eq_of_beq_eq_true h1
          have e2 := eqL_eq (eqAV_eq 9) _ _ h3
          subst e1 e2
          exact pv_mono (Nat.le_of_ble_eq_true h2) hM.1
        · exact lookM_pv m hM.2 h
      · exact lookM_pv m hM.2 h
    · exact lookM_pv m hM.2 h
end Go.Proofs.YtanonfpdkoijnaaGreatDoor.Av
