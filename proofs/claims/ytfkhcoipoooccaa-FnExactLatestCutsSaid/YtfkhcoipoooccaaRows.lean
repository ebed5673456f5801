/-
  No cell of these rows narrows 'for every input' (looked for: loops, veiled, ifaces, maps, wideKeys, modest, calm, conditions, laid).
  DERIVED. THE GIVEN ROWS OF THIS SEAT. 8 by the template 'for every input the law returns true; each argument reads behind the call as it read before'; 0 by the template 'total and deterministic' (their statements: YtfkhcoipoooccaaTotals.lean).
  GIVEN WITH THE SEED: the statements are not yours to turn. If you find one false, say at which input.
  Laid BY PROGRAM, IN A SANDBOX (cutbox-rows.mjs): the forced cells as the released guide's own fill.sh prints them over the translation bc321f6ca39feff5… (all of the seat's roots in one cut). By AI agents, Wed Nov 11 2026. No macro, syntax, notation, axiom, sorry.
-/
import Derived.Test.YtfkhcoipoooccaaChecked
import GoSem.Claim
import GoSem.ClaimJoined
import GoSem.ClaimMapViews
import Derived.JoinedTies
import Derived.KernelRfl
namespace Go.Proofs.Ytfkhcoipoooccaa
/- THE CELL 'sum', in the pinned program and in every row, IS THE sha256 OF THE DUMP (.gsa) THAT YtfkhcoipoooccaaProg.lean LOADS. Nothing in Lean hashes anything: it is a label: what it is worth is what the hold of that sum in a sandbox is worth. -/
noncomputable def Try.pinned : Pinned := { name := "ytfkhcoipoooccaa", sum := "bc321f6ca39feff599f4b67d278a053c23cafcaab383be53d9932197f454e1b7", checked := Try.checked }
namespace Rows
def none {H : Type} : Left H := { results := [], args := [] }

/-- 'laws.FnExactAreCuts': WHATEVER THE INPUT: true; the input reads as it did. -/
def fnExactAreCutsSpec : ChangeSpec := { name := "fnExactAreCuts", fn := fun _ => fun
  | [d1, d2] => { results := [.lit (.bool true)], args := [d1, d2] }
  | _ => none }
def fnExactAreCutsRow : OpenClaim := { program := "ytfkhcoipoooccaa", sum := "bc321f6ca39feff599f4b67d278a053c23cafcaab383be53d9932197f454e1b7", func := "loop.example/g00917/laws.FnExactAreCuts", spec := "fnExactAreCuts", unfollowed := true, recurses := true, apart := false }
def FnExactAreCutsSaid : Prop := fnExactAreCutsRow.holds Try.pinned (OpenSpec.ofChange fnExactAreCutsSpec)

/-- ITS FALSE NEIGHBOUR: 'it returns false'. Refute it at one input. -/
def fnExactAreCutsWrong : ChangeSpec := { name := "fnExactAreCuts", fn := fun _ => fun
  | [d1, d2] => { results := [.lit (.bool false)], args := [d1, d2] }
  | _ => none }
def FnExactAreCutsWrongFalsely : Prop := fnExactAreCutsRow.holds Try.pinned (OpenSpec.ofChange fnExactAreCutsWrong)

/-- 'laws.FnExactDelayCuts': WHATEVER THE INPUT: true; the input reads as it did. -/
def fnExactDelayCutsSpec : ChangeSpec := { name := "fnExactDelayCuts", fn := fun _ => fun
  | [d1, d2, d3] => { results := [.lit (.bool true)], args := [d1, d2, d3] }
  | _ => none }
def fnExactDelayCutsRow : OpenClaim := { program := "ytfkhcoipoooccaa", sum := "bc321f6ca39feff599f4b67d278a053c23cafcaab383be53d9932197f454e1b7", func := "loop.example/g00917/laws.FnExactDelayCuts", spec := "fnExactDelayCuts", unfollowed := true, recurses := true, apart := false }
def FnExactDelayCutsSaid : Prop := fnExactDelayCutsRow.holds Try.pinned (OpenSpec.ofChange fnExactDelayCutsSpec)

/-- ITS FALSE NEIGHBOUR: 'it returns false'. Refute it at one input. -/
def fnExactDelayCutsWrong : ChangeSpec := { name := "fnExactDelayCuts", fn := fun _ => fun
  | [d1, d2, d3] => { results := [.lit (.bool false)], args := [d1, d2, d3] }
  | _ => none }
def FnExactDelayCutsWrongFalsely : Prop := fnExactDelayCutsRow.holds Try.pinned (OpenSpec.ofChange fnExactDelayCutsWrong)

/-- 'laws.FnExactLatestCuts': WHATEVER THE INPUT: true; the input reads as it did. -/
def fnExactLatestCutsSpec : ChangeSpec := { name := "fnExactLatestCuts", fn := fun _ => fun
  | [d1, d2, d3, d4, d5] => { results := [.lit (.bool true)], args := [d1, d2, d3, d4, d5] }
  | _ => none }
def fnExactLatestCutsRow : OpenClaim := { program := "ytfkhcoipoooccaa", sum := "bc321f6ca39feff599f4b67d278a053c23cafcaab383be53d9932197f454e1b7", func := "loop.example/g00917/laws.FnExactLatestCuts", spec := "fnExactLatestCuts", unfollowed := true, recurses := true, apart := false }
def FnExactLatestCutsSaid : Prop := fnExactLatestCutsRow.holds Try.pinned (OpenSpec.ofChange fnExactLatestCutsSpec)

/-- ITS FALSE NEIGHBOUR: 'it returns false'. Refute it at one input. -/
def fnExactLatestCutsWrong : ChangeSpec := { name := "fnExactLatestCuts", fn := fun _ => fun
  | [d1, d2, d3, d4, d5] => { results := [.lit (.bool false)], args := [d1, d2, d3, d4, d5] }
  | _ => none }
def FnExactLatestCutsWrongFalsely : Prop := fnExactLatestCutsRow.holds Try.pinned (OpenSpec.ofChange fnExactLatestCutsWrong)

/-- 'laws.FnExactWeakestCut': WHATEVER THE INPUT: true; the input reads as it did. -/
def fnExactWeakestCutSpec : ChangeSpec := { name := "fnExactWeakestCut", fn := fun _ => fun
  | [d1, d2, d3, d4, d5] => { results := [.lit (.bool true)], args := [d1, d2, d3, d4, d5] }
  | _ => none }
def fnExactWeakestCutRow : OpenClaim := { program := "ytfkhcoipoooccaa", sum := "bc321f6ca39feff599f4b67d278a053c23cafcaab383be53d9932197f454e1b7", func := "loop.example/g00917/laws.FnExactWeakestCut", spec := "fnExactWeakestCut", unfollowed := true, recurses := true, apart := false }
def FnExactWeakestCutSaid : Prop := fnExactWeakestCutRow.holds Try.pinned (OpenSpec.ofChange fnExactWeakestCutSpec)

/-- ITS FALSE NEIGHBOUR: 'it returns false'. Refute it at one input. -/
def fnExactWeakestCutWrong : ChangeSpec := { name := "fnExactWeakestCut", fn := fun _ => fun
  | [d1, d2, d3, d4, d5] => { results := [.lit (.bool false)], args := [d1, d2, d3, d4, d5] }
  | _ => none }
def FnExactWeakestCutWrongFalsely : Prop := fnExactWeakestCutRow.holds Try.pinned (OpenSpec.ofChange fnExactWeakestCutWrong)

/-- 'laws.FnExactSlacksOf': WHATEVER THE INPUT: true; the input reads as it did. -/
def fnExactSlacksOfSpec : ChangeSpec := { name := "fnExactSlacksOf", fn := fun _ => fun
  | [d1, d2, d3, d4, d5] => { results := [.lit (.bool true)], args := [d1, d2, d3, d4, d5] }
  | _ => none }
def fnExactSlacksOfRow : OpenClaim := { program := "ytfkhcoipoooccaa", sum := "bc321f6ca39feff599f4b67d278a053c23cafcaab383be53d9932197f454e1b7", func := "loop.example/g00917/laws.FnExactSlacksOf", spec := "fnExactSlacksOf", unfollowed := true, recurses := true, apart := false }
def FnExactSlacksOfSaid : Prop := fnExactSlacksOfRow.holds Try.pinned (OpenSpec.ofChange fnExactSlacksOfSpec)

/-- ITS FALSE NEIGHBOUR: 'it returns false'. Refute it at one input. -/
def fnExactSlacksOfWrong : ChangeSpec := { name := "fnExactSlacksOf", fn := fun _ => fun
  | [d1, d2, d3, d4, d5] => { results := [.lit (.bool false)], args := [d1, d2, d3, d4, d5] }
  | _ => none }
def FnExactSlacksOfWrongFalsely : Prop := fnExactSlacksOfRow.holds Try.pinned (OpenSpec.ofChange fnExactSlacksOfWrong)

/-- 'laws.FnExactSpentCells': WHATEVER THE INPUT: true; the input reads as it did. -/
def fnExactSpentCellsSpec : ChangeSpec := { name := "fnExactSpentCells", fn := fun _ => fun
  | [d] => { results := [.lit (.bool true)], args := [d] }
  | _ => none }
def fnExactSpentCellsRow : OpenClaim := { program := "ytfkhcoipoooccaa", sum := "bc321f6ca39feff599f4b67d278a053c23cafcaab383be53d9932197f454e1b7", func := "loop.example/g00917/laws.FnExactSpentCells", spec := "fnExactSpentCells", unfollowed := true, recurses := true, apart := false }
def FnExactSpentCellsSaid : Prop := fnExactSpentCellsRow.holds Try.pinned (OpenSpec.ofChange fnExactSpentCellsSpec)

/-- ITS FALSE NEIGHBOUR: 'it returns false'. Refute it at one input. -/
def fnExactSpentCellsWrong : ChangeSpec := { name := "fnExactSpentCells", fn := fun _ => fun
  | [d] => { results := [.lit (.bool false)], args := [d] }
  | _ => none }
def FnExactSpentCellsWrongFalsely : Prop := fnExactSpentCellsRow.holds Try.pinned (OpenSpec.ofChange fnExactSpentCellsWrong)

/-- 'laws.FnExactBurningCells': WHATEVER THE INPUT: true; the input reads as it did. -/
def fnExactBurningCellsSpec : ChangeSpec := { name := "fnExactBurningCells", fn := fun _ => fun
  | [d] => { results := [.lit (.bool true)], args := [d] }
  | _ => none }
def fnExactBurningCellsRow : OpenClaim := { program := "ytfkhcoipoooccaa", sum := "bc321f6ca39feff599f4b67d278a053c23cafcaab383be53d9932197f454e1b7", func := "loop.example/g00917/laws.FnExactBurningCells", spec := "fnExactBurningCells", unfollowed := true, recurses := true, apart := false }
def FnExactBurningCellsSaid : Prop := fnExactBurningCellsRow.holds Try.pinned (OpenSpec.ofChange fnExactBurningCellsSpec)

/-- ITS FALSE NEIGHBOUR: 'it returns false'. Refute it at one input. -/
def fnExactBurningCellsWrong : ChangeSpec := { name := "fnExactBurningCells", fn := fun _ => fun
  | [d] => { results := [.lit (.bool false)], args := [d] }
  | _ => none }
def FnExactBurningCellsWrongFalsely : Prop := fnExactBurningCellsRow.holds Try.pinned (OpenSpec.ofChange fnExactBurningCellsWrong)

/-- 'laws.FnExactThreatenedCells': WHATEVER THE INPUT: true; the input reads as it did. -/
def fnExactThreatenedCellsSpec : ChangeSpec := { name := "fnExactThreatenedCells", fn := fun _ => fun
  | [d] => { results := [.lit (.bool true)], args := [d] }
  | _ => none }
def fnExactThreatenedCellsRow : OpenClaim := { program := "ytfkhcoipoooccaa", sum := "bc321f6ca39feff599f4b67d278a053c23cafcaab383be53d9932197f454e1b7", func := "loop.example/g00917/laws.FnExactThreatenedCells", spec := "fnExactThreatenedCells", unfollowed := true, recurses := true, apart := false }
def FnExactThreatenedCellsSaid : Prop := fnExactThreatenedCellsRow.holds Try.pinned (OpenSpec.ofChange fnExactThreatenedCellsSpec)

/-- ITS FALSE NEIGHBOUR: 'it returns false'. Refute it at one input. -/
def fnExactThreatenedCellsWrong : ChangeSpec := { name := "fnExactThreatenedCells", fn := fun _ => fun
  | [d] => { results := [.lit (.bool false)], args := [d] }
  | _ => none }
def FnExactThreatenedCellsWrongFalsely : Prop := fnExactThreatenedCellsRow.holds Try.pinned (OpenSpec.ofChange fnExactThreatenedCellsWrong)

/- THE SECOND FORM. 'bulk': how many values and letters a reading holds, each counted each time it is reached (what is shared counts as often as it is met; a slice's spare places count too). A statement '..UptoSaid' is the law's where the arguments, and the package variables that the reading takes, are together of bulk at most 1048576: NARROWER than '..Said'. Prove '..Said' where nothing that the law and all that it calls make is longer than what came in: it says more and counts as full. Else prove '..UptoSaid'. A law counts once. -/
mutual
def uptoBulk {H : Type} : DataW H → Nat
  | .lit (.string bytes) => bytes.length + 1
  | .lit _ => 1
  | .nil => 1
  | .ptr d => uptoBulk d + 1
  | .slice elems spare => uptoBulkAll elems + uptoBulkAll spare + 1
  | .agg parts => uptoBulkAll parts + 1
  | .iface _ d => uptoBulk d + 1
  | .map entries => uptoBulkEntries entries + 1
  | .held _ => 1
def uptoBulkAll {H : Type} : List (DataW H) → Nat
  | [] => 0
  | d :: r => uptoBulk d + uptoBulkAll r
def uptoBulkEntries {H : Type} : List (Lit × DataW H) → Nat
  | [] => 0
  | x :: r => uptoBulkEntry x + uptoBulkEntries r
def uptoBulkEntry {H : Type} : Lit × DataW H → Nat
  | (.string bytes, d) => bytes.length + uptoBulk d + 1
  | (_, d) => uptoBulk d + 1
 end
def uptoSmall : (H : Type) → List (DataW H) → Bool := fun _ ds => decide (uptoBulkAll ds ≤ 1048576)
def OpenSpec.upto (s : _root_.Go.ChangeSpec) : _root_.Go.OpenSpec := { _root_.Go.OpenSpec.ofChange s with cond := some uptoSmall }

/-- 'laws.FnExactAreCuts', WHERE WHAT IT READS IS OF BULK AT MOST 1048576: true; the input reads as it did. -/
def fnExactAreCutsUptoRow : OpenClaim := { program := "ytfkhcoipoooccaa", sum := "bc321f6ca39feff599f4b67d278a053c23cafcaab383be53d9932197f454e1b7", func := "loop.example/g00917/laws.FnExactAreCuts", spec := "fnExactAreCuts", unfollowed := true, recurses := true, apart := false, narrowed := true }
def FnExactAreCutsUptoSaid : Prop := fnExactAreCutsUptoRow.holds Try.pinned (OpenSpec.upto fnExactAreCutsSpec)

/-- 'laws.FnExactDelayCuts', WHERE WHAT IT READS IS OF BULK AT MOST 1048576: true; the input reads as it did. -/
def fnExactDelayCutsUptoRow : OpenClaim := { program := "ytfkhcoipoooccaa", sum := "bc321f6ca39feff599f4b67d278a053c23cafcaab383be53d9932197f454e1b7", func := "loop.example/g00917/laws.FnExactDelayCuts", spec := "fnExactDelayCuts", unfollowed := true, recurses := true, apart := false, narrowed := true }
def FnExactDelayCutsUptoSaid : Prop := fnExactDelayCutsUptoRow.holds Try.pinned (OpenSpec.upto fnExactDelayCutsSpec)

/-- 'laws.FnExactLatestCuts', WHERE WHAT IT READS IS OF BULK AT MOST 1048576: true; the input reads as it did. -/
def fnExactLatestCutsUptoRow : OpenClaim := { program := "ytfkhcoipoooccaa", sum := "bc321f6ca39feff599f4b67d278a053c23cafcaab383be53d9932197f454e1b7", func := "loop.example/g00917/laws.FnExactLatestCuts", spec := "fnExactLatestCuts", unfollowed := true, recurses := true, apart := false, narrowed := true }
def FnExactLatestCutsUptoSaid : Prop := fnExactLatestCutsUptoRow.holds Try.pinned (OpenSpec.upto fnExactLatestCutsSpec)

/-- 'laws.FnExactWeakestCut', WHERE WHAT IT READS IS OF BULK AT MOST 1048576: true; the input reads as it did. -/
def fnExactWeakestCutUptoRow : OpenClaim := { program := "ytfkhcoipoooccaa", sum := "bc321f6ca39feff599f4b67d278a053c23cafcaab383be53d9932197f454e1b7", func := "loop.example/g00917/laws.FnExactWeakestCut", spec := "fnExactWeakestCut", unfollowed := true, recurses := true, apart := false, narrowed := true }
def FnExactWeakestCutUptoSaid : Prop := fnExactWeakestCutUptoRow.holds Try.pinned (OpenSpec.upto fnExactWeakestCutSpec)

/-- 'laws.FnExactSlacksOf', WHERE WHAT IT READS IS OF BULK AT MOST 1048576: true; the input reads as it did. -/
def fnExactSlacksOfUptoRow : OpenClaim := { program := "ytfkhcoipoooccaa", sum := "bc321f6ca39feff599f4b67d278a053c23cafcaab383be53d9932197f454e1b7", func := "loop.example/g00917/laws.FnExactSlacksOf", spec := "fnExactSlacksOf", unfollowed := true, recurses := true, apart := false, narrowed := true }
def FnExactSlacksOfUptoSaid : Prop := fnExactSlacksOfUptoRow.holds Try.pinned (OpenSpec.upto fnExactSlacksOfSpec)

/-- 'laws.FnExactSpentCells', WHERE WHAT IT READS IS OF BULK AT MOST 1048576: true; the input reads as it did. -/
def fnExactSpentCellsUptoRow : OpenClaim := { program := "ytfkhcoipoooccaa", sum := "bc321f6ca39feff599f4b67d278a053c23cafcaab383be53d9932197f454e1b7", func := "loop.example/g00917/laws.FnExactSpentCells", spec := "fnExactSpentCells", unfollowed := true, recurses := true, apart := false, narrowed := true }
def FnExactSpentCellsUptoSaid : Prop := fnExactSpentCellsUptoRow.holds Try.pinned (OpenSpec.upto fnExactSpentCellsSpec)

/-- 'laws.FnExactBurningCells', WHERE WHAT IT READS IS OF BULK AT MOST 1048576: true; the input reads as it did. -/
def fnExactBurningCellsUptoRow : OpenClaim := { program := "ytfkhcoipoooccaa", sum := "bc321f6ca39feff599f4b67d278a053c23cafcaab383be53d9932197f454e1b7", func := "loop.example/g00917/laws.FnExactBurningCells", spec := "fnExactBurningCells", unfollowed := true, recurses := true, apart := false, narrowed := true }
def FnExactBurningCellsUptoSaid : Prop := fnExactBurningCellsUptoRow.holds Try.pinned (OpenSpec.upto fnExactBurningCellsSpec)

/-- 'laws.FnExactThreatenedCells', WHERE WHAT IT READS IS OF BULK AT MOST 1048576: true; the input reads as it did. -/
def fnExactThreatenedCellsUptoRow : OpenClaim := { program := "ytfkhcoipoooccaa", sum := "bc321f6ca39feff599f4b67d278a053c23cafcaab383be53d9932197f454e1b7", func := "loop.example/g00917/laws.FnExactThreatenedCells", spec := "fnExactThreatenedCells", unfollowed := true, recurses := true, apart := false, narrowed := true }
def FnExactThreatenedCellsUptoSaid : Prop := fnExactThreatenedCellsUptoRow.holds Try.pinned (OpenSpec.upto fnExactThreatenedCellsSpec)

end Rows
end Go.Proofs.Ytfkhcoipoooccaa
