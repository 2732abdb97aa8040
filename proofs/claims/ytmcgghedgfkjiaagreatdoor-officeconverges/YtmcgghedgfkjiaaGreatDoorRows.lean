/-
  NARROWER THAN 'FOR EVERY INPUT', by the rows' own cells (each row's printed sentence says how): OfficeConverges: laid · OfficeKeeps: laid.
  DERIVED. THE GIVEN ROWS OF THIS SEAT. 2 by the template 'for every input the law returns true; each argument reads behind the call as it read before'; 0 by the template 'total and deterministic' (their statements: YtmcgghedgfkjiaaGreatDoorTotals.lean).
  GIVEN WITH THE SEED: the statements are not yours to turn. If you find one false, say at which input.
  Laid BY PROGRAM, IN A SANDBOX (cutbox-rows.mjs): the forced cells as the released guide's own fill.sh prints them over the translation 70540c02665d6d15… (all of the seat's roots in one cut). By AI agents, Wed Nov 11 2026. No macro, syntax, notation, axiom, sorry.
-/
import Derived.Test.YtmcgghedgfkjiaaGreatDoorChecked
import GoSem.Claim
import GoSem.ClaimJoined
import GoSem.ClaimMapViews
import Derived.JoinedTies
import Derived.KernelRfl
namespace Go.Proofs.YtmcgghedgfkjiaaGreatDoor
/- THE CELL 'sum', in the pinned program and in every row, IS THE sha256 OF THE DUMP (.gsa) THAT YtmcgghedgfkjiaaGreatDoorProg.lean LOADS. Nothing in Lean hashes anything: it is a label: what it is worth is what the hold of that sum in a sandbox is worth. -/
noncomputable def Tryz.pinned : Pinned := { name := "ytmcgghedgfkjiaagreatdoor", sum := "70540c02665d6d153ada19789c0b8fefecc29f026e69279191e11ff08af822d7", checked := Tryz.checked }
namespace Rows
def none {H : Type} : Left H := { results := [], args := [] }

/- WHAT THE LISTED PACKAGE-LEVEL VARIABLES READ AS WHEN THE CALL BEGINS. Each datum BY PROGRAM (the guide's laid-datum.mjs) off the statement by which the dump's own 'gosem.cut.vars' lays the variable. In a bare row this is a premise. The card (YtmcgghedgfkjiaaGreatDoorCards.lean) ties it to the program's text. -/
def laid_mapsheets_glyph_scripts {H : Type} : DataW H := .agg [.agg [.lit (.int .i32 32), .lit (.int .i32 32), .lit (.int .i64 0)], .agg [.lit (.int .i32 39), .lit (.int .i32 41), .lit (.int .i64 0)], .agg [.lit (.int .i32 45), .lit (.int .i32 46), .lit (.int .i64 0)], .agg [.lit (.int .i32 48), .lit (.int .i32 57), .lit (.int .i64 0)], .agg [.lit (.int .i32 65), .lit (.int .i32 90), .lit (.int .i64 1)], .agg [.lit (.int .i32 97), .lit (.int .i32 122), .lit (.int .i64 1)], .agg [.lit (.int .i32 192), .lit (.int .i32 214), .lit (.int .i64 1)], .agg [.lit (.int .i32 216), .lit (.int .i32 246), .lit (.int .i64 1)], .agg [.lit (.int .i32 248), .lit (.int .i32 591), .lit (.int .i64 1)], .agg [.lit (.int .i32 880), .lit (.int .i32 1023), .lit (.int .i64 2)], .agg [.lit (.int .i32 1024), .lit (.int .i32 1279), .lit (.int .i64 3)], .agg [.lit (.int .i32 1488), .lit (.int .i32 1514), .lit (.int .i64 4)], .agg [.lit (.int .i32 19968), .lit (.int .i32 40959), .lit (.int .i64 5)]]

/-- 'mapsheetslaw30.OfficeConverges': WHATEVER THE INPUT: true; the input reads as it did. -/
def officeConvergesSpec : ChangeSpec := { name := "officeConverges", fn := fun _ => fun
  | [d1, d2, d3, d4] => { results := [.lit (.bool true)], args := [d1, d2, d3, d4] }
  | _ => none }
def officeConvergesRow : OpenClaim := { program := "ytmcgghedgfkjiaagreatdoor", sum := "70540c02665d6d153ada19789c0b8fefecc29f026e69279191e11ff08af822d7", func := "mapsheets/mapsheetslaw30.OfficeConverges", spec := "officeConverges", inPlace := ["internal/bytealg.IndexByteString", "internal/bytealg.IndexString", "slices.overlaps[mapsheets/api.Txn]", "slices.overlaps[mapsheets/api.Node]", "slices.overlaps[mapsheets/api.Arc]", "slices.overlaps[mapsheets/api.Feature]"], unfollowed := true, recurses := true, named := ["mapsheets/glyph.scripts", "internal/bytealg.MaxLen"], plainKeys := false, apart := false, laid := [("mapsheets/glyph.scripts", laid_mapsheets_glyph_scripts)] }
def OfficeConvergesSaid : Prop := officeConvergesRow.holds Tryz.pinned (OpenSpec.ofChange officeConvergesSpec)

/-- ITS FALSE NEIGHBOUR: 'it returns false'. Refute it at one input. -/
def officeConvergesWrong : ChangeSpec := { name := "officeConverges", fn := fun _ => fun
  | [d1, d2, d3, d4] => { results := [.lit (.bool false)], args := [d1, d2, d3, d4] }
  | _ => none }
def OfficeConvergesWrongFalsely : Prop := officeConvergesRow.holds Tryz.pinned (OpenSpec.ofChange officeConvergesWrong)

/-- 'mapsheetslaw30.OfficeKeeps': WHATEVER THE INPUT: true; the input reads as it did. -/
def officeKeepsSpec : ChangeSpec := { name := "officeKeeps", fn := fun _ => fun
  | [d] => { results := [.lit (.bool true)], args := [d] }
  | _ => none }
def officeKeepsRow : OpenClaim := { program := "ytmcgghedgfkjiaagreatdoor", sum := "70540c02665d6d153ada19789c0b8fefecc29f026e69279191e11ff08af822d7", func := "mapsheets/mapsheetslaw30.OfficeKeeps", spec := "officeKeeps", inPlace := ["internal/bytealg.IndexByteString", "internal/bytealg.IndexString", "slices.overlaps[mapsheets/api.Txn]", "slices.overlaps[mapsheets/api.Node]", "slices.overlaps[mapsheets/api.Arc]", "slices.overlaps[mapsheets/api.Feature]"], unfollowed := true, recurses := true, named := ["mapsheets/glyph.scripts", "internal/bytealg.MaxLen"], plainKeys := false, apart := false, laid := [("mapsheets/glyph.scripts", laid_mapsheets_glyph_scripts)] }
def OfficeKeepsSaid : Prop := officeKeepsRow.holds Tryz.pinned (OpenSpec.ofChange officeKeepsSpec)

/-- ITS FALSE NEIGHBOUR: 'it returns false'. Refute it at one input. -/
def officeKeepsWrong : ChangeSpec := { name := "officeKeeps", fn := fun _ => fun
  | [d] => { results := [.lit (.bool false)], args := [d] }
  | _ => none }
def OfficeKeepsWrongFalsely : Prop := officeKeepsRow.holds Tryz.pinned (OpenSpec.ofChange officeKeepsWrong)

/- THE SECOND FORM. 'bulk': how many values and letters a reading holds, each counted each time it is reached (what is shared counts as often as it is met; a slice's spare places count too). A statement '..UptoSaid' is the law's where the arguments, and the package variables that the reading takes, are together of bulk at most 1048576: NARROWER than '..Said'. Prove '..Said' where nothing that the law and all that it calls make is longer than what came in: it says more and counts as full. Else prove '..UptoSaid'. A law counts once. -/
mutual
def uptoBulk {H : Type} : DataW H → Nat
  | .lit (.string bytes) => bytes.length + 1
  | .lit _ => 1
  | .nil => 1
  | .ptr d => uptoBulk d + 1
  | .slice elems spare => uptoBulkAll elems + uptoBulkAll spare + 1
  | .agg parts => uptoBulkAll parts + 1
  | .iface _ d => uptoBulk d + 1
  | .map entries => uptoBulkEntries entries + 1
  | .held _ => 1
def uptoBulkAll {H : Type} : List (DataW H) → Nat
  | [] => 0
  | d :: r => uptoBulk d + uptoBulkAll r
def uptoBulkEntries {H : Type} : List (Lit × DataW H) → Nat
  | [] => 0
  | x :: r => uptoBulkEntry x + uptoBulkEntries r
def uptoBulkEntry {H : Type} : Lit × DataW H → Nat
  | (.string bytes, d) => bytes.length + uptoBulk d + 1
  | (_, d) => uptoBulk d + 1
 end
def uptoSmall : (H : Type) → List (DataW H) → Bool := fun _ ds => decide (uptoBulkAll ds ≤ 1048576)
def OpenSpec.upto (s : _root_.Go.ChangeSpec) : _root_.Go.OpenSpec := { _root_.Go.OpenSpec.ofChange s with cond := some uptoSmall }

/-- 'mapsheetslaw30.OfficeConverges', WHERE WHAT IT READS IS OF BULK AT MOST 1048576: true; the input reads as it did. -/
def officeConvergesUptoRow : OpenClaim := { program := "ytmcgghedgfkjiaagreatdoor", sum := "70540c02665d6d153ada19789c0b8fefecc29f026e69279191e11ff08af822d7", func := "mapsheets/mapsheetslaw30.OfficeConverges", spec := "officeConverges", inPlace := ["internal/bytealg.IndexByteString", "internal/bytealg.IndexString", "slices.overlaps[mapsheets/api.Txn]", "slices.overlaps[mapsheets/api.Node]", "slices.overlaps[mapsheets/api.Arc]", "slices.overlaps[mapsheets/api.Feature]"], unfollowed := true, recurses := true, named := ["mapsheets/glyph.scripts", "internal/bytealg.MaxLen"], plainKeys := false, apart := false, laid := [("mapsheets/glyph.scripts", laid_mapsheets_glyph_scripts)], narrowed := true }
def OfficeConvergesUptoSaid : Prop := officeConvergesUptoRow.holds Tryz.pinned (OpenSpec.upto officeConvergesSpec)

/-- 'mapsheetslaw30.OfficeKeeps', WHERE WHAT IT READS IS OF BULK AT MOST 1048576: true; the input reads as it did. -/
def officeKeepsUptoRow : OpenClaim := { program := "ytmcgghedgfkjiaagreatdoor", sum := "70540c02665d6d153ada19789c0b8fefecc29f026e69279191e11ff08af822d7", func := "mapsheets/mapsheetslaw30.OfficeKeeps", spec := "officeKeeps", inPlace := ["internal/bytealg.IndexByteString", "internal/bytealg.IndexString", "slices.overlaps[mapsheets/api.Txn]", "slices.overlaps[mapsheets/api.Node]", "slices.overlaps[mapsheets/api.Arc]", "slices.overlaps[mapsheets/api.Feature]"], unfollowed := true, recurses := true, named := ["mapsheets/glyph.scripts", "internal/bytealg.MaxLen"], plainKeys := false, apart := false, laid := [("mapsheets/glyph.scripts", laid_mapsheets_glyph_scripts)], narrowed := true }
def OfficeKeepsUptoSaid : Prop := officeKeepsUptoRow.holds Tryz.pinned (OpenSpec.upto officeKeepsSpec)

end Rows
end Go.Proofs.YtmcgghedgfkjiaaGreatDoor
