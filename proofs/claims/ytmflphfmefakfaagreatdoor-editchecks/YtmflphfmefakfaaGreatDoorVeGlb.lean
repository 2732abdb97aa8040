/- A part of the proof of EditChecksCardSaid. -/
import Derived.Test.YtmflphfmefakfaaGreatDoorVePl
import Derived.Test.YtmflphfmefakfaaGreatDoorVeTchk
import Derived.Test.YtmflphfmefakfaaGreatDoorAvOrc
import Derived.Shelf.Strings.Search3
import Derived.Shelf.Vars
import Derived.Handed
import Derived.OpenShut
set_option linter.all false
namespace Go.Proofs.YtmflphfmefakfaaGreatDoor.Av
open Go Go.Proofs
set_option maxRecDepth 100000
theorem shapeAll1 {P : Program} {n : Nat} {a : TypeId} {xs : List AV} (h : ShapeAll P n [a] xs) : ∃ x, xs = [x] ∧ (∃ ys, Shape P n a ys ∧ x = argOf P a ys) :=
 match xs, h with
 | [x], ⟨h1, _⟩ => ⟨x, rfl, h1⟩
theorem shapeAll2 {P : Program} {n : Nat} {a b : TypeId} {xs : List AV} (h : ShapeAll P n [a, b] xs) : ∃ x y, xs = [x, y] ∧ (∃ ys, Shape P n a ys ∧ x = argOf P a ys) ∧ (∃ ys, Shape P n b ys ∧ y = argOf P b ys) :=
 match xs, h with
 | [x, y], ⟨h1, h2, _⟩ => ⟨x, y, rfl, h1, h2⟩
theorem shape_int {n : Nat} {t : TypeId} {ys : List AV} (hu : PP.underlying t = some (.int .i64)) (h : Shape PP (n + 1) t ys) : ∃ z, ys = [.lit (.int .i64 z)] := by
 unfold Shape at h
 rw [hu] at h
 exact h.imp fun z hz => hz.2
theorem shape_str {n : Nat} {t : TypeId} {ys : List AV} (hu : PP.underlying t = some .string) (h : Shape PP (n + 1) t ys) : ∃ z, ys = [.lit (.string z)] := by
 unfold Shape at h
 rw [hu] at h
 exact h.imp fun z hz => hz.2
theorem shape_list {α : Type} {c : α → List AV} {n : Nat} {t e : TypeId} {ys : List AV} (hu : PP.underlying t = some (.slice e)) (hc : ∀ x, Shape PP n e x → ∃ z, x = c z) (h : Shape PP (n + 1) t ys) : ∃ l : List α, ys = [.sl false (l.map c)] := by
 unfold Shape at h
 rw [hu] at h
 obtain ⟨es, rfl, _, h2⟩ := h
 have : ∀ es : List (List AV), (∀ x ∈ es, Shape PP n e x) → ∃ l : List α, es = l.map c := by
  intro es
  induction es with
  | nil => exact fun _ => ⟨[], rfl⟩
  | cons x r ih =>
   intro h
   obtain ⟨l, rfl⟩ := ih fun y hy => h y (by simp [hy])
   obtain ⟨z, rfl⟩ := hc x (h x (by simp))
   exact ⟨z :: l, rfl⟩
 obtain ⟨l, rfl⟩ := this es h2
 exact ⟨l, rfl⟩
theorem shape_point {n : Nat} {ys : List AV} (h : Shape PP (n + 2) 23 ys) : ∃ z, ys = c_GPoint z := by
 unfold Shape at h
 have hu : PP.underlying 23 = some (.struct #[{ name := "X", type := 3, offset := 0, embedded := false, tag := "", pkgPath := "", byteOffset := 0 }, { name := "Y", type := 3, offset := 1, embedded := false, tag := "", pkgPath := "", byteOffset := 8 }]) := by kernel_rfl
 rw [hu] at h
 obtain ⟨ps, rfl, hl, h2⟩ := h
 match ps, hl with
 | [p, q], _ =>
  have hi : PP.underlying 3 = some (.int .i64) := by kernel_rfl
  obtain ⟨x, rfl⟩ := shape_int hi (h2 0 _ p rfl rfl)
  obtain ⟨y, rfl⟩ := shape_int hi (h2 1 _ q rfl rfl)
  exact ⟨⟨x, y⟩, rfl⟩
theorem shape_edit {n : Nat} {ys : List AV} (h : Shape PP (n + 4) 27 ys) : ∃ z, ys = c_GEdit z := by
 unfold Shape at h
 have hu : PP.underlying 27 = some (.struct #[{ name := "Kind", type := 3, offset := 0, embedded := false, tag := "", pkgPath := "", byteOffset := 0 }, { name := "ID", type := 3, offset := 1, embedded := false, tag := "", pkgPath := "", byteOffset := 8 }, { name := "A", type := 3, offset := 2, embedded := false, tag := "", pkgPath := "", byteOffset := 16 }, { name := "B", type := 3, offset := 3, embedded := false, tag := "", pkgPath := "", byteOffset := 24 }, { name := "C", type := 3, offset := 4, embedded := false, tag := "", pkgPath := "", byteOffset := 32 }, { name := "At", type := 23, offset := 5, embedded := false, tag := "", pkgPath := "", byteOffset := 40 }, { name := "Via", type := 24, offset := 7, embedded := false, tag := "", pkgPath := "", byteOffset := 56 }, { name := "Name", type := 9, offset := 8, embedded := false, tag := "", pkgPath := "", byteOffset := 80 }, { name := "Parts", type := 25, offset := 9, embedded := false, tag := "", pkgPath := "", byteOffset := 96 }]) := by kernel_rfl
 rw [hu] at h
 obtain ⟨ps, rfl, hl, h2⟩ := h
 match ps, hl with
 | [p0, p1, p2, p3, p4, p5, p6, p7, p8], _ =>
  have hi : PP.underlying 3 = some (.int .i64) := by kernel_rfl
  obtain ⟨x0, rfl⟩ := shape_int hi (h2 0 _ p0 rfl rfl)
  obtain ⟨x1, rfl⟩ := shape_int hi (h2 1 _ p1 rfl rfl)
  obtain ⟨x2, rfl⟩ := shape_int hi (h2 2 _ p2 rfl rfl)
  obtain ⟨x3, rfl⟩ := shape_int hi (h2 3 _ p3 rfl rfl)
  obtain ⟨x4, rfl⟩ := shape_int hi (h2 4 _ p4 rfl rfl)
  obtain ⟨x5, rfl⟩ := shape_point (h2 5 _ p5 rfl rfl)
  obtain ⟨x6, rfl⟩ := shape_list (c := c_GPoint) (e := 23) (by kernel_rfl) (fun _ h => shape_point h) (h2 6 _ p6 rfl rfl)
  obtain ⟨x7, rfl⟩ := shape_str (by kernel_rfl) (h2 7 _ p7 rfl rfl)
  obtain ⟨x8, rfl⟩ := shape_list (c := c_i64) (e := 3) (by kernel_rfl) (fun _ h => shape_int hi h) (h2 8 _ p8 rfl rfl)
  exact ⟨⟨x0, x1, x2, x3, x4, x5, x6, x7, x8⟩, rfl⟩
theorem arg_edit {x : AV} (h : ∃ ys, Shape PP 6 27 ys ∧ x = argOf PP 27 ys) : ∃ a, x = .agg (c_GEdit a) := by
 obtain ⟨ys, h1, rfl⟩ := h
 obtain ⟨a, rfl⟩ := shape_edit h1
 exact ⟨a, by simp only [argOf, isAgg]; rfl⟩
end Go.Proofs.YtmflphfmefakfaaGreatDoor.Av
namespace Go.Proofs.YtmflphfmefakfaaGreatDoor.Av
open Go Go.Proofs Go.RowKit Go.Shelf
set_option maxRecDepth 100000
def cren : Ren where
 f := fun x => match x with
  | 144 => 128
  | 143 => 170
  | 219 => 210
  | 217 => 243
  | 225 => 244
  | 224 => 245
  | 267 => 246
  | 266 => 278
  | 314 => 279
  | n => n
 t := fun x => match x with
  | 9 => 9
  | 4 => 4
  | 3 => 3
  | 5 => 5
  | 46 => 190
  | 146 => 300
  | 51 => 229
  | n => n
 g := fun x => match x with
  | 1 => 1
  | n => n
theorem clays : Lays.n144 PP cren where
 mixed := by kernel_rfl
 f143 := Tryz.func170.trans (congrArg some (by kernel_rfl))
 f144 := Tryz.func128.trans (congrArg some (by kernel_rfl))
 f217 := Tryz.func243.trans (congrArg some (by kernel_rfl))
 f219 := Tryz.func210.trans (congrArg some (by kernel_rfl))
 f224 := Tryz.func245.trans (congrArg some (by kernel_rfl))
 f225 := Tryz.func244.trans (congrArg some (by kernel_rfl))
 f266 := Tryz.func278.trans (congrArg some (by kernel_rfl))
 f267 := Tryz.func246.trans (congrArg some (by kernel_rfl))
 f314 := Tryz.func279.trans (congrArg some (by kernel_rfl))
 t3 := Tryz.underlying3
 a3 := Tryz.isAgg3
 z3 := Tryz.sizeOf3
 v3 := Tryz.zeroValue3
 t4 := Tryz.underlying4
 a4 := Tryz.isAgg4
 z4 := Tryz.sizeOf4
 v4 := Tryz.zeroValue4
 t5 := Tryz.underlying5
 a5 := Tryz.isAgg5
 z5 := Tryz.sizeOf5
 v5 := Tryz.zeroValue5
 t9 := Tryz.underlying9
 a9 := Tryz.isAgg9
 z9 := Tryz.sizeOf9
 v9 := Tryz.zeroValue9
 t46 := Tryz.underlying190
 a46 := Tryz.isAgg190
 z46 := Tryz.sizeOf190
 v46 := Tryz.zeroValue190
 t51 := Tryz.underlying229
 a51 := Tryz.isAgg229
 z51 := Tryz.sizeOf229
 v51 := Tryz.zeroValue229
 t146 := Tryz.underlying300
 a146 := Tryz.isAgg300
 z146 := Tryz.sizeOf300
 v146 := Tryz.zeroValue300
 g1 := by kernel_rfl
end Go.Proofs.YtmflphfmefakfaaGreatDoor.Av
namespace Go.Proofs.YtmflphfmefakfaaGreatDoor.Av
open Go Go.Proofs Go.RowKit Go.Shelf
set_option maxRecDepth 100000
theorem primF_inv {fl vi : Nat} {args : List AV} {H H' : Heap} {r : AV} (h : primF fl vi args H = some (r, H')) : vi = 46 ∧ contA fl args H = some (r, H') := by
 unfold primF at h
 have e : (GlobT.prim vi : Option _) = (match Nat.beq vi 46 with | true => some contA | false => none) := rfl
 rw [e] at h
 cases hb : Nat.beq vi 46 with
 | true => rw [hb] at h; exact ⟨Nat.eq_of_beq_eq_true hb, h⟩
 | false => rw [hb] at h; cases h
theorem contA_inv {fl : Nat} {args : List AV} {H H' : Heap} {r : AV} (h : contA fl args H = some (r, H')) :
  ∃ s t : ByteArray, args = [.lit (.string s), .lit (.string t)] ∧ s.size < 4294967281 ∧ r = .lit (.bool (Lib.contains s.data.toList t.data.toList)) ∧ H' = H := by
 unfold contA at h
 repeat' split at h
 all_goals first
  | (cases h; done)
  | skip
 rename_i hb
 cases h
 exact ⟨_, _, rfl, Nat.le_of_ble_eq_true hb, rfl, rfl⟩
theorem prim_ok : PrimOK PP T where
 fl := fun fl vi args H r H' hle hev => by
  obtain ⟨_, h⟩ := primF_inv hev
  obtain ⟨s, t, _, _, _, rfl⟩ := contA_inv h
  exact ⟨rfl, hle⟩
 ok := fun fl vi f args r H' c vs hev hf hs hfl hargs => by
  obtain ⟨rfl, h⟩ := primF_inv hev
  obtain ⟨s, t, rfl, hsz, rfl, rfl⟩ := contA_inv h
  obtain rfl : 128 = f := Option.some.inj ((show ftOf T 46 = some 128 by kernel_rfl).symm.trans hf)
  have hv : vs = #[.string s, .string t] := by
   obtain ⟨h1, h2⟩ := hargs
   obtain ⟨v0, g0, k0⟩ := h2 0 _ rfl
   obtain ⟨v1, g1, k1⟩ := h2 1 _ rfl
   have e0 := k0.lit_inv
   have e1 := k1.lit_inv
   subst e0 e1
   apply Array.ext
   ·simpa using h1
   ·intro i hi1 hi2
    have hi3 : i < 2 := by simpa using hi2
    match i, hi3 with
    | 0, _ => exact Option.some.inj ((Array.getElem?_eq_getElem hi1).symm.trans g0)
    | 1, _ => exact Option.some.inj ((Array.getElem?_eq_getElem hi1).symm.trans g1)
  subst hv
  obtain ⟨cc, t', fz, vals, _, hheap, hok, _, _⟩ := hs.gl 1 [.undef] rfl
  obtain ⟨m, hm⟩ := hok rfl
  have hcell : c.w.cell? ⟨1, 0, none⟩ = some (.int .i64 m) := by simp [World.cell?, hheap, hm]
  exact (Any.strings_Contains clays s t m c.w hsz hcell).mono fun e w' ⟨he, hw⟩ => ⟨_, c, he, hw.symm, rfl, rfl, Step.refl fl c, hs, .lit _⟩
end Go.Proofs.YtmflphfmefakfaaGreatDoor.Av
namespace Go.Proofs.YtmflphfmefakfaaGreatDoor.Av
open Go Go.Proofs Go.RowKit
set_option maxRecDepth 100000
theorem handed_shaped {H : Type} {enc : TypeId × Value → H} {a : Assume} {C : Go.Checked} {os : Os} {f : FuncId} {fn : Func} {s : ChangeSpec} {conds : List PathCond} {apart fresh handsOn again : Bool} {X : World → Array Value → Prop}
  (hX : ∀ (w w' : World) (args : Array Value), w.heap = w'.heap → X w args → X w' args)
  (own : ownKnob C.prog.godebug = none) (started : os.Started) (noInit : C.prog.inits.idxOf? f = none) (hfn : C.prog.funcs[f]? = some fn)
  (witness : ∃ (w : World) (tape : Tape) (i : Input), w.os = os ∧ (w.forCall tape i).Shaped C.prog ∧ i.vars = [] ∧ Input.okWide C.prog (w.forCall tape i) .any w.heap.size f i ∧
   ((s.pre enc C.prog fn conds apart (w.forCall tape i).memory i.args ∧ X (w.forCall tape i).memory i.args) ∧ sizedMet enc C.prog fn (OpenSpec.ofChange s) apart (w.forCall tape i).memory i.args) ∧ a.holds C.prog (lone (Frame.enter C.prog f i.args .normal) [] (w.forCall tape i)))
  (contract : ∀ (W : World) (base : Nat) (args : Array Value) (ds gs : List (DataW H)) (before : List MemPlace),
   (∀ (j : Nat) t v, fn.params[j]? = some t → args[j]? = some v → Value.okWide C.prog W .any base t v) →
   DataW.Whole enc C.prog fn.params.toList s.vars apart W args.toList ds gs before → X W args → W.ShapedOpen C.prog →
   Calls C.prog f args W fun e W' => ∃ v, e = .returned v ∧ s.post enc C.prog fn apart fresh handsOn again W args v W') :
  ReturnsInHanded a C os f .any (fun w args => (s.pre enc C.prog fn conds apart w args ∧ X w args) ∧ sizedMet enc C.prog fn (OpenSpec.ofChange s) apart w args) (s.post enc C.prog fn apart fresh handsOn again) := by
 refine returnsInHanded_of_calls own started noInit witness ?_
 intro w tape i _ hsh _ hok hpre _
 obtain ⟨_, _, _, fn', hfn', _, _, _, _, hval⟩ := hok
 have e : fn' = fn := Option.some.inj (hfn'.symm.trans hfn)
 subst e
 obtain ⟨⟨⟨ds, gs, before, hw, _⟩, hx⟩, _⟩ := hpre
 have hw' := DataW.Whole.of_heap (w' := w.forCall tape i) (by rfl) hw
 refine (contract (w.forCall tape i) w.heap.size i.args ds gs before hval hw' (hX _ _ _ (by rfl) hx) hsh).mono fun e W' ⟨v, he, hp⟩ => ?_
 subst he
 exact ChangeSpec.post_blind hp
def litV : DataW Unit → List Value
 | .lit (.int k z) => [.int k z]
 | _ => []
def flat1 : DataW Unit → List Value
 | .agg ps => ps.flatMap litV
 | _ => []
def flat2 : DataW Unit → List Value
 | .agg ps => ps.flatMap flat1
 | _ => []
section
variable {P : Program} {w : World} {base : Nat} {sp : Nat → Bool} {held : Bool} {enc : TypeId × Value → Unit}
theorem trod_row3 {fuel : Nat} {t ta tb tc : TypeId} {ka kb kc : IntKind} {f0 f1 f2 : Field} {cs : List Value} {x : DataW Unit × List MemPlace}
  (hu : P.underlying t = some (.struct #[f0, f1, f2])) (hc : P.cellsOf t = 3) (t0 : f0.type = ta) (t1 : f1.type = tb) (t2 : f2.type = tc) (o0 : f0.offset = 0) (o1 : f1.offset = 1) (o2 : f2.offset = 2)
  (ua : P.underlying ta = some (.int ka)) (ub : P.underlying tb = some (.int kb)) (uc : P.underlying tc = some (.int kc)) (ca : P.cellsOf ta = 1) (cb : P.cellsOf tb = 1) (cc : P.cellsOf tc = 1)
  (h : DataW.trod enc P w base sp held fuel t cs = some x) : cs = flat1 x.1 := by
 obtain ⟨xs, n, _, rfl, hl, hxl, hat⟩ := DataW.trod_struct hu h
 rw [hc] at hl
 match cs, hl with
 | [a, b, c], _ =>
  match xs, hxl with
  | [y0, y1, y2], _ =>
   have h0 := hat 0 f0 rfl
   have h1 := hat 1 f1 rfl
   have h2 := hat 2 f2 rfl
   rw [t0, o0, ca] at h0
   rw [t1, o1, cb] at h1
   rw [t2, o2, cc] at h2
   obtain ⟨z0, e0, q0, _⟩ := DataW.trod_int ua h0
   obtain ⟨z1, e1, q1, _⟩ := DataW.trod_int ub h1
   obtain ⟨z2, e2, q2, _⟩ := DataW.trod_int uc h2
   have e0' : a = .int ka z0 := by simpa using e0
   have e1' : b = .int kb z1 := by simpa using e1
   have e2' : c = .int kc z2 := by simpa using e2
   subst e0' e1' e2' q0 q1 q2
   rfl
theorem trod_table {fuel m : Nat} {t e ta tb tc : TypeId} {ka kb kc : IntKind} {f0 f1 f2 : Field} {cs : List Value} {x : DataW Unit × List MemPlace}
  (ha : P.underlying t = some (.array m e)) (hca : P.cellsOf t = m * 3)
  (hu : P.underlying e = some (.struct #[f0, f1, f2])) (hc : P.cellsOf e = 3) (t0 : f0.type = ta) (t1 : f1.type = tb) (t2 : f2.type = tc) (o0 : f0.offset = 0) (o1 : f1.offset = 1) (o2 : f2.offset = 2)
  (ua : P.underlying ta = some (.int ka)) (ub : P.underlying tb = some (.int kb)) (uc : P.underlying tc = some (.int kc)) (ca : P.cellsOf ta = 1) (cb : P.cellsOf tb = 1) (cc : P.cellsOf tc = 1)
  (h : DataW.trod enc P w base sp held fuel t cs = some x) : cs = flat2 x.1 := by
 obtain ⟨xs, n, _, rfl, hl, hxl, hat⟩ := DataW.trod_array ha h
 have e' := array_flat 3 m 0 cs (by rw [hl, hca]; omega)
 rw [List.drop_zero] at e'
 have key : ∀ i, i < m → ∃ y, xs[i]? = some y ∧ (cs.drop (0 + i * 3)).take 3 = flat1 y.1 := by
  intro i hi
  have h1 := hat i hi
  rw [hc] at h1
  have h2 : xs[i]? = some xs[i] := List.getElem?_eq_getElem (by omega)
  rw [h2] at h1
  refine ⟨_, h2, ?_⟩
  rw [Nat.zero_add]
  exact trod_row3 hu hc t0 t1 t2 o0 o1 o2 ua ub uc ca cb cc h1
 rw [e']
 show _ = (xs.map (·.1)).flatMap flat1
 rw [List.flatMap_def, List.map_map]
 congr 1
 apply List.ext_getElem?
 intro i
 rw [List.getElem?_map, List.getElem?_map]
 rcases Nat.lt_or_ge i m with hi | hi
 ·obtain ⟨y, h1, h2⟩ := key i hi
  rw [List.getElem?_range hi, h1]
  simp only [Option.map_some, Function.comp]
  rw [h2]
 ·rw [List.getElem?_eq_none (by simpa using hi), List.getElem?_eq_none (by omega)]
  rfl
end
end Go.Proofs.YtmflphfmefakfaaGreatDoor.Av
