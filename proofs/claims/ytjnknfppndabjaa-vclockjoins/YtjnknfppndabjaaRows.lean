/-
  No cell of these rows narrows 'for every input' (looked for: loops, veiled, ifaces, maps, wideKeys, modest, calm, conditions, laid).
  DERIVED. THE GIVEN ROWS OF THIS SEAT. 6 by the template 'for every input the law returns true; each argument reads behind the call as it read before'; 0 by the template 'total and deterministic' (their statements: YtjnknfppndabjaaTotals.lean).
  GIVEN WITH THE SEED: the statements are not yours to turn. If you find one false, say at which input.
  Laid BY PROGRAM, IN A SANDBOX (cutbox-rows.mjs): the forced cells as the released guide's own fill.sh prints them over the translation 033126fea7c4a35c… (all of the seat's roots in one cut). By AI agents, Wed Nov 11 2026. No macro, syntax, notation, axiom, sorry.
-/
import Derived.Test.YtjnknfppndabjaaChecked
import GoSem.Claim
import GoSem.ClaimJoined
import GoSem.ClaimMapViews
import Derived.JoinedTies
import Derived.KernelRfl
namespace Go.Proofs.Ytjnknfppndabjaa
/- THE CELL 'sum', in the pinned program and in every row, IS THE sha256 OF THE DUMP (.gsa) THAT YtjnknfppndabjaaProg.lean LOADS. Nothing in Lean hashes anything: it is a label: what it is worth is what the hold of that sum in a sandbox is worth. -/
noncomputable def Try.pinned : Pinned := { name := "ytjnknfppndabjaa", sum := "033126fea7c4a35ccbd3dfc1a4b4d5becf1bf31c0f720190e5d283bcf5436d55", checked := Try.checked }
namespace Rows
def none {H : Type} : Left H := { results := [], args := [] }

/-- 'mapsheetslaw27.VclockCounts': WHATEVER THE INPUT: true; the input reads as it did. -/
def vclockCountsSpec : ChangeSpec := { name := "vclockCounts", fn := fun _ => fun
  | [d] => { results := [.lit (.bool true)], args := [d] }
  | _ => none }
def vclockCountsRow : OpenClaim := { program := "ytjnknfppndabjaa", sum := "033126fea7c4a35ccbd3dfc1a4b4d5becf1bf31c0f720190e5d283bcf5436d55", func := "mapsheets/mapsheetslaw27.VclockCounts", spec := "vclockCounts", unfollowed := true, recurses := true, plainKeys := false, apart := false }
def VclockCountsSaid : Prop := vclockCountsRow.holds Try.pinned (OpenSpec.ofChange vclockCountsSpec)

/-- ITS FALSE NEIGHBOUR: 'it returns false'. Refute it at one input. -/
def vclockCountsWrong : ChangeSpec := { name := "vclockCounts", fn := fun _ => fun
  | [d] => { results := [.lit (.bool false)], args := [d] }
  | _ => none }
def VclockCountsWrongFalsely : Prop := vclockCountsRow.holds Try.pinned (OpenSpec.ofChange vclockCountsWrong)

/-- 'mapsheetslaw27.VclockReports': WHATEVER THE INPUT: true; the input reads as it did. -/
def vclockReportsSpec : ChangeSpec := { name := "vclockReports", fn := fun _ => fun
  | [d1, d2, d3] => { results := [.lit (.bool true)], args := [d1, d2, d3] }
  | _ => none }
def vclockReportsRow : OpenClaim := { program := "ytjnknfppndabjaa", sum := "033126fea7c4a35ccbd3dfc1a4b4d5becf1bf31c0f720190e5d283bcf5436d55", func := "mapsheets/mapsheetslaw27.VclockReports", spec := "vclockReports", unfollowed := true, recurses := true, plainKeys := false, apart := false }
def VclockReportsSaid : Prop := vclockReportsRow.holds Try.pinned (OpenSpec.ofChange vclockReportsSpec)

/-- ITS FALSE NEIGHBOUR: 'it returns false'. Refute it at one input. -/
def vclockReportsWrong : ChangeSpec := { name := "vclockReports", fn := fun _ => fun
  | [d1, d2, d3] => { results := [.lit (.bool false)], args := [d1, d2, d3] }
  | _ => none }
def VclockReportsWrongFalsely : Prop := vclockReportsRow.holds Try.pinned (OpenSpec.ofChange vclockReportsWrong)

/-- 'mapsheetslaw27.VclockMerges': WHATEVER THE INPUT: true; the input reads as it did. -/
def vclockMergesSpec : ChangeSpec := { name := "vclockMerges", fn := fun _ => fun
  | [d1, d2] => { results := [.lit (.bool true)], args := [d1, d2] }
  | _ => none }
def vclockMergesRow : OpenClaim := { program := "ytjnknfppndabjaa", sum := "033126fea7c4a35ccbd3dfc1a4b4d5becf1bf31c0f720190e5d283bcf5436d55", func := "mapsheets/mapsheetslaw27.VclockMerges", spec := "vclockMerges", unfollowed := true, recurses := true, plainKeys := false, apart := false }
def VclockMergesSaid : Prop := vclockMergesRow.holds Try.pinned (OpenSpec.ofChange vclockMergesSpec)

/-- ITS FALSE NEIGHBOUR: 'it returns false'. Refute it at one input. -/
def vclockMergesWrong : ChangeSpec := { name := "vclockMerges", fn := fun _ => fun
  | [d1, d2] => { results := [.lit (.bool false)], args := [d1, d2] }
  | _ => none }
def VclockMergesWrongFalsely : Prop := vclockMergesRow.holds Try.pinned (OpenSpec.ofChange vclockMergesWrong)

/-- 'mapsheetslaw27.VclockMissing': WHATEVER THE INPUT: true; the input reads as it did. -/
def vclockMissingSpec : ChangeSpec := { name := "vclockMissing", fn := fun _ => fun
  | [d1, d2] => { results := [.lit (.bool true)], args := [d1, d2] }
  | _ => none }
def vclockMissingRow : OpenClaim := { program := "ytjnknfppndabjaa", sum := "033126fea7c4a35ccbd3dfc1a4b4d5becf1bf31c0f720190e5d283bcf5436d55", func := "mapsheets/mapsheetslaw27.VclockMissing", spec := "vclockMissing", unfollowed := true, recurses := true, plainKeys := false, apart := false }
def VclockMissingSaid : Prop := vclockMissingRow.holds Try.pinned (OpenSpec.ofChange vclockMissingSpec)

/-- ITS FALSE NEIGHBOUR: 'it returns false'. Refute it at one input. -/
def vclockMissingWrong : ChangeSpec := { name := "vclockMissing", fn := fun _ => fun
  | [d1, d2] => { results := [.lit (.bool false)], args := [d1, d2] }
  | _ => none }
def VclockMissingWrongFalsely : Prop := vclockMissingRow.holds Try.pinned (OpenSpec.ofChange vclockMissingWrong)

/-- 'mapsheetslaw27.VclockOrders': WHATEVER THE INPUT: true; the input reads as it did. -/
def vclockOrdersSpec : ChangeSpec := { name := "vclockOrders", fn := fun _ => fun
  | [d1, d2, d3] => { results := [.lit (.bool true)], args := [d1, d2, d3] }
  | _ => none }
def vclockOrdersRow : OpenClaim := { program := "ytjnknfppndabjaa", sum := "033126fea7c4a35ccbd3dfc1a4b4d5becf1bf31c0f720190e5d283bcf5436d55", func := "mapsheets/mapsheetslaw27.VclockOrders", spec := "vclockOrders", unfollowed := true, recurses := true, plainKeys := false, apart := false }
def VclockOrdersSaid : Prop := vclockOrdersRow.holds Try.pinned (OpenSpec.ofChange vclockOrdersSpec)

/-- ITS FALSE NEIGHBOUR: 'it returns false'. Refute it at one input. -/
def vclockOrdersWrong : ChangeSpec := { name := "vclockOrders", fn := fun _ => fun
  | [d1, d2, d3] => { results := [.lit (.bool false)], args := [d1, d2, d3] }
  | _ => none }
def VclockOrdersWrongFalsely : Prop := vclockOrdersRow.holds Try.pinned (OpenSpec.ofChange vclockOrdersWrong)

/-- 'mapsheetslaw27.VclockJoins': WHATEVER THE INPUT: true; the input reads as it did. -/
def vclockJoinsSpec : ChangeSpec := { name := "vclockJoins", fn := fun _ => fun
  | [d1, d2] => { results := [.lit (.bool true)], args := [d1, d2] }
  | _ => none }
def vclockJoinsRow : OpenClaim := { program := "ytjnknfppndabjaa", sum := "033126fea7c4a35ccbd3dfc1a4b4d5becf1bf31c0f720190e5d283bcf5436d55", func := "mapsheets/mapsheetslaw27.VclockJoins", spec := "vclockJoins", unfollowed := true, recurses := true, plainKeys := false, apart := false }
def VclockJoinsSaid : Prop := vclockJoinsRow.holds Try.pinned (OpenSpec.ofChange vclockJoinsSpec)

/-- ITS FALSE NEIGHBOUR: 'it returns false'. Refute it at one input. -/
def vclockJoinsWrong : ChangeSpec := { name := "vclockJoins", fn := fun _ => fun
  | [d1, d2] => { results := [.lit (.bool false)], args := [d1, d2] }
  | _ => none }
def VclockJoinsWrongFalsely : Prop := vclockJoinsRow.holds Try.pinned (OpenSpec.ofChange vclockJoinsWrong)

/- THE SECOND FORM. 'bulk': how many values and letters a reading holds, each counted each time it is reached (what is shared counts as often as it is met; a slice's spare places count too). A statement '..UptoSaid' is the law's where the arguments, and the package variables that the reading takes, are together of bulk at most 1048576: NARROWER than '..Said'. Prove '..Said' where nothing that the law and all that it calls make is longer than what came in: it says more and counts as full. Else prove '..UptoSaid'. A law counts once. -/
mutual
def uptoBulk {H : Type} : DataW H → Nat
  | .lit (.string bytes) => bytes.length + 1
  | .lit _ => 1
  | .nil => 1
  | .ptr d => uptoBulk d + 1
  | .slice elems spare => uptoBulkAll elems + uptoBulkAll spare + 1
  | .agg parts => uptoBulkAll parts + 1
  | .iface _ d => uptoBulk d + 1
  | .map entries => uptoBulkEntries entries + 1
  | .held _ => 1
def uptoBulkAll {H : Type} : List (DataW H) → Nat
  | [] => 0
  | d :: r => uptoBulk d + uptoBulkAll r
def uptoBulkEntries {H : Type} : List (Lit × DataW H) → Nat
  | [] => 0
  | x :: r => uptoBulkEntry x + uptoBulkEntries r
def uptoBulkEntry {H : Type} : Lit × DataW H → Nat
  | (.string bytes, d) => bytes.length + uptoBulk d + 1
  | (_, d) => uptoBulk d + 1
 end
def uptoSmall : (H : Type) → List (DataW H) → Bool := fun _ ds => decide (uptoBulkAll ds ≤ 1048576)
def OpenSpec.upto (s : _root_.Go.ChangeSpec) : _root_.Go.OpenSpec := { _root_.Go.OpenSpec.ofChange s with cond := some uptoSmall }

/-- 'mapsheetslaw27.VclockCounts', WHERE WHAT IT READS IS OF BULK AT MOST 1048576: true; the input reads as it did. -/
def vclockCountsUptoRow : OpenClaim := { program := "ytjnknfppndabjaa", sum := "033126fea7c4a35ccbd3dfc1a4b4d5becf1bf31c0f720190e5d283bcf5436d55", func := "mapsheets/mapsheetslaw27.VclockCounts", spec := "vclockCounts", unfollowed := true, recurses := true, plainKeys := false, apart := false, narrowed := true }
def VclockCountsUptoSaid : Prop := vclockCountsUptoRow.holds Try.pinned (OpenSpec.upto vclockCountsSpec)

/-- 'mapsheetslaw27.VclockReports', WHERE WHAT IT READS IS OF BULK AT MOST 1048576: true; the input reads as it did. -/
def vclockReportsUptoRow : OpenClaim := { program := "ytjnknfppndabjaa", sum := "033126fea7c4a35ccbd3dfc1a4b4d5becf1bf31c0f720190e5d283bcf5436d55", func := "mapsheets/mapsheetslaw27.VclockReports", spec := "vclockReports", unfollowed := true, recurses := true, plainKeys := false, apart := false, narrowed := true }
def VclockReportsUptoSaid : Prop := vclockReportsUptoRow.holds Try.pinned (OpenSpec.upto vclockReportsSpec)

/-- 'mapsheetslaw27.VclockMerges', WHERE WHAT IT READS IS OF BULK AT MOST 1048576: true; the input reads as it did. -/
def vclockMergesUptoRow : OpenClaim := { program := "ytjnknfppndabjaa", sum := "033126fea7c4a35ccbd3dfc1a4b4d5becf1bf31c0f720190e5d283bcf5436d55", func := "mapsheets/mapsheetslaw27.VclockMerges", spec := "vclockMerges", unfollowed := true, recurses := true, plainKeys := false, apart := false, narrowed := true }
def VclockMergesUptoSaid : Prop := vclockMergesUptoRow.holds Try.pinned (OpenSpec.upto vclockMergesSpec)

/-- 'mapsheetslaw27.VclockMissing', WHERE WHAT IT READS IS OF BULK AT MOST 1048576: true; the input reads as it did. -/
def vclockMissingUptoRow : OpenClaim := { program := "ytjnknfppndabjaa", sum := "033126fea7c4a35ccbd3dfc1a4b4d5becf1bf31c0f720190e5d283bcf5436d55", func := "mapsheets/mapsheetslaw27.VclockMissing", spec := "vclockMissing", unfollowed := true, recurses := true, plainKeys := false, apart := false, narrowed := true }
def VclockMissingUptoSaid : Prop := vclockMissingUptoRow.holds Try.pinned (OpenSpec.upto vclockMissingSpec)

/-- 'mapsheetslaw27.VclockOrders', WHERE WHAT IT READS IS OF BULK AT MOST 1048576: true; the input reads as it did. -/
def vclockOrdersUptoRow : OpenClaim := { program := "ytjnknfppndabjaa", sum := "033126fea7c4a35ccbd3dfc1a4b4d5becf1bf31c0f720190e5d283bcf5436d55", func := "mapsheets/mapsheetslaw27.VclockOrders", spec := "vclockOrders", unfollowed := true, recurses := true, plainKeys := false, apart := false, narrowed := true }
def VclockOrdersUptoSaid : Prop := vclockOrdersUptoRow.holds Try.pinned (OpenSpec.upto vclockOrdersSpec)

/-- 'mapsheetslaw27.VclockJoins', WHERE WHAT IT READS IS OF BULK AT MOST 1048576: true; the input reads as it did. -/
def vclockJoinsUptoRow : OpenClaim := { program := "ytjnknfppndabjaa", sum := "033126fea7c4a35ccbd3dfc1a4b4d5becf1bf31c0f720190e5d283bcf5436d55", func := "mapsheets/mapsheetslaw27.VclockJoins", spec := "vclockJoins", unfollowed := true, recurses := true, plainKeys := false, apart := false, narrowed := true }
def VclockJoinsUptoSaid : Prop := vclockJoinsUptoRow.holds Try.pinned (OpenSpec.upto vclockJoinsSpec)

end Rows
end Go.Proofs.Ytjnknfppndabjaa
