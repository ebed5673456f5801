/-
  No cell of these rows narrows 'for every input' (looked for: loops, veiled, ifaces, maps, wideKeys, modest, calm, conditions, laid).
  DERIVED. THE GIVEN ROWS OF THIS SEAT. 12 by the template 'for every input the law returns true; each argument reads behind the call as it read before'; 0 by the template 'total and deterministic' (their statements: YtcnmakipfgfopaaTotals.lean).
  GIVEN WITH THE SEED: the statements are not yours to turn. If you find one false, say at which input.
  Laid BY PROGRAM, IN A SANDBOX (cutbox-rows.mjs): the forced cells as the released guide's own fill.sh prints them over the translation 011296bfa3985996… (all of the seat's roots in one cut). By AI agents, Wed Nov 11 2026. No macro, syntax, notation, axiom, sorry.
-/
import Derived.Test.YtcnmakipfgfopaaChecked
import GoSem.Claim
import GoSem.ClaimJoined
import GoSem.ClaimMapViews
import Derived.JoinedTies
import Derived.KernelRfl
namespace Go.Proofs.Ytcnmakipfgfopaa
/- THE CELL 'sum', in the pinned program and in every row, IS THE sha256 OF THE DUMP (.gsa) THAT YtcnmakipfgfopaaProg.lean LOADS. Nothing in Lean hashes anything: it is a label: what it is worth is what the hold of that sum in a sandbox is worth. -/
noncomputable def Try.pinned : Pinned := { name := "ytcnmakipfgfopaa", sum := "011296bfa39859966d8c2457576ecfd2bf0c0246a9e2ef017d31aa27800c812d", checked := Try.checked }
namespace Rows
def none {H : Type} : Left H := { results := [], args := [] }

/-- 'laws.FnExactIsFire': WHATEVER THE INPUT: true; the input reads as it did. -/
def fnExactIsFireSpec : ChangeSpec := { name := "fnExactIsFire", fn := fun _ => fun
  | [d] => { results := [.lit (.bool true)], args := [d] }
  | _ => none }
def fnExactIsFireRow : OpenClaim := { program := "ytcnmakipfgfopaa", sum := "011296bfa39859966d8c2457576ecfd2bf0c0246a9e2ef017d31aa27800c812d", func := "loop.example/g00917/laws.FnExactIsFire", spec := "fnExactIsFire", apart := false }
def FnExactIsFireSaid : Prop := fnExactIsFireRow.holds Try.pinned (OpenSpec.ofChange fnExactIsFireSpec)

/-- ITS FALSE NEIGHBOUR: 'it returns false'. Refute it at one input. -/
def fnExactIsFireWrong : ChangeSpec := { name := "fnExactIsFire", fn := fun _ => fun
  | [d] => { results := [.lit (.bool false)], args := [d] }
  | _ => none }
def FnExactIsFireWrongFalsely : Prop := fnExactIsFireRow.holds Try.pinned (OpenSpec.ofChange fnExactIsFireWrong)

/-- 'laws.FnExactIsSeason': WHATEVER THE INPUT: true; the input reads as it did. -/
def fnExactIsSeasonSpec : ChangeSpec := { name := "fnExactIsSeason", fn := fun _ => fun
  | [d] => { results := [.lit (.bool true)], args := [d] }
  | _ => none }
def fnExactIsSeasonRow : OpenClaim := { program := "ytcnmakipfgfopaa", sum := "011296bfa39859966d8c2457576ecfd2bf0c0246a9e2ef017d31aa27800c812d", func := "loop.example/g00917/laws.FnExactIsSeason", spec := "fnExactIsSeason", unfollowed := true, recurses := true, apart := false }
def FnExactIsSeasonSaid : Prop := fnExactIsSeasonRow.holds Try.pinned (OpenSpec.ofChange fnExactIsSeasonSpec)

/-- ITS FALSE NEIGHBOUR: 'it returns false'. Refute it at one input. -/
def fnExactIsSeasonWrong : ChangeSpec := { name := "fnExactIsSeason", fn := fun _ => fun
  | [d] => { results := [.lit (.bool false)], args := [d] }
  | _ => none }
def FnExactIsSeasonWrongFalsely : Prop := fnExactIsSeasonRow.holds Try.pinned (OpenSpec.ofChange fnExactIsSeasonWrong)

/-- 'laws.FnExactAreHeights': WHATEVER THE INPUT: true; the input reads as it did. -/
def fnExactAreHeightsSpec : ChangeSpec := { name := "fnExactAreHeights", fn := fun _ => fun
  | [d] => { results := [.lit (.bool true)], args := [d] }
  | _ => none }
def fnExactAreHeightsRow : OpenClaim := { program := "ytcnmakipfgfopaa", sum := "011296bfa39859966d8c2457576ecfd2bf0c0246a9e2ef017d31aa27800c812d", func := "loop.example/g00917/laws.FnExactAreHeights", spec := "fnExactAreHeights", unfollowed := true, recurses := true, apart := false }
def FnExactAreHeightsSaid : Prop := fnExactAreHeightsRow.holds Try.pinned (OpenSpec.ofChange fnExactAreHeightsSpec)

/-- ITS FALSE NEIGHBOUR: 'it returns false'. Refute it at one input. -/
def fnExactAreHeightsWrong : ChangeSpec := { name := "fnExactAreHeights", fn := fun _ => fun
  | [d] => { results := [.lit (.bool false)], args := [d] }
  | _ => none }
def FnExactAreHeightsWrongFalsely : Prop := fnExactAreHeightsRow.holds Try.pinned (OpenSpec.ofChange fnExactAreHeightsWrong)

/-- 'laws.FnExactHighestCell': WHATEVER THE INPUT: true; the input reads as it did. -/
def fnExactHighestCellSpec : ChangeSpec := { name := "fnExactHighestCell", fn := fun _ => fun
  | [d] => { results := [.lit (.bool true)], args := [d] }
  | _ => none }
def fnExactHighestCellRow : OpenClaim := { program := "ytcnmakipfgfopaa", sum := "011296bfa39859966d8c2457576ecfd2bf0c0246a9e2ef017d31aa27800c812d", func := "loop.example/g00917/laws.FnExactHighestCell", spec := "fnExactHighestCell", unfollowed := true, recurses := true, apart := false }
def FnExactHighestCellSaid : Prop := fnExactHighestCellRow.holds Try.pinned (OpenSpec.ofChange fnExactHighestCellSpec)

/-- ITS FALSE NEIGHBOUR: 'it returns false'. Refute it at one input. -/
def fnExactHighestCellWrong : ChangeSpec := { name := "fnExactHighestCell", fn := fun _ => fun
  | [d] => { results := [.lit (.bool false)], args := [d] }
  | _ => none }
def FnExactHighestCellWrongFalsely : Prop := fnExactHighestCellRow.holds Try.pinned (OpenSpec.ofChange fnExactHighestCellWrong)

/-- 'laws.FnExactHalfBurnedBy': WHATEVER THE INPUT: true; the input reads as it did. -/
def fnExactHalfBurnedBySpec : ChangeSpec := { name := "fnExactHalfBurnedBy", fn := fun _ => fun
  | [d] => { results := [.lit (.bool true)], args := [d] }
  | _ => none }
def fnExactHalfBurnedByRow : OpenClaim := { program := "ytcnmakipfgfopaa", sum := "011296bfa39859966d8c2457576ecfd2bf0c0246a9e2ef017d31aa27800c812d", func := "loop.example/g00917/laws.FnExactHalfBurnedBy", spec := "fnExactHalfBurnedBy", unfollowed := true, recurses := true, apart := false }
def FnExactHalfBurnedBySaid : Prop := fnExactHalfBurnedByRow.holds Try.pinned (OpenSpec.ofChange fnExactHalfBurnedBySpec)

/-- ITS FALSE NEIGHBOUR: 'it returns false'. Refute it at one input. -/
def fnExactHalfBurnedByWrong : ChangeSpec := { name := "fnExactHalfBurnedBy", fn := fun _ => fun
  | [d] => { results := [.lit (.bool false)], args := [d] }
  | _ => none }
def FnExactHalfBurnedByWrongFalsely : Prop := fnExactHalfBurnedByRow.holds Try.pinned (OpenSpec.ofChange fnExactHalfBurnedByWrong)

/-- 'laws.FnExactLongestQuiet': WHATEVER THE INPUT: true; the input reads as it did. -/
def fnExactLongestQuietSpec : ChangeSpec := { name := "fnExactLongestQuiet", fn := fun _ => fun
  | [d] => { results := [.lit (.bool true)], args := [d] }
  | _ => none }
def fnExactLongestQuietRow : OpenClaim := { program := "ytcnmakipfgfopaa", sum := "011296bfa39859966d8c2457576ecfd2bf0c0246a9e2ef017d31aa27800c812d", func := "loop.example/g00917/laws.FnExactLongestQuiet", spec := "fnExactLongestQuiet", unfollowed := true, recurses := true, apart := false }
def FnExactLongestQuietSaid : Prop := fnExactLongestQuietRow.holds Try.pinned (OpenSpec.ofChange fnExactLongestQuietSpec)

/-- ITS FALSE NEIGHBOUR: 'it returns false'. Refute it at one input. -/
def fnExactLongestQuietWrong : ChangeSpec := { name := "fnExactLongestQuiet", fn := fun _ => fun
  | [d] => { results := [.lit (.bool false)], args := [d] }
  | _ => none }
def FnExactLongestQuietWrongFalsely : Prop := fnExactLongestQuietRow.holds Try.pinned (OpenSpec.ofChange fnExactLongestQuietWrong)

/-- 'laws.FnExactDoesSee': WHATEVER THE INPUT: true; the input reads as it did. -/
def fnExactDoesSeeSpec : ChangeSpec := { name := "fnExactDoesSee", fn := fun _ => fun
  | [d1, d2, d3, d4] => { results := [.lit (.bool true)], args := [d1, d2, d3, d4] }
  | _ => none }
def fnExactDoesSeeRow : OpenClaim := { program := "ytcnmakipfgfopaa", sum := "011296bfa39859966d8c2457576ecfd2bf0c0246a9e2ef017d31aa27800c812d", func := "loop.example/g00917/laws.FnExactDoesSee", spec := "fnExactDoesSee", unfollowed := true, recurses := true, apart := false }
def FnExactDoesSeeSaid : Prop := fnExactDoesSeeRow.holds Try.pinned (OpenSpec.ofChange fnExactDoesSeeSpec)

/-- ITS FALSE NEIGHBOUR: 'it returns false'. Refute it at one input. -/
def fnExactDoesSeeWrong : ChangeSpec := { name := "fnExactDoesSee", fn := fun _ => fun
  | [d1, d2, d3, d4] => { results := [.lit (.bool false)], args := [d1, d2, d3, d4] }
  | _ => none }
def FnExactDoesSeeWrongFalsely : Prop := fnExactDoesSeeRow.holds Try.pinned (OpenSpec.ofChange fnExactDoesSeeWrong)

/-- 'laws.FnExactLowestTower': WHATEVER THE INPUT: true; the input reads as it did. -/
def fnExactLowestTowerSpec : ChangeSpec := { name := "fnExactLowestTower", fn := fun _ => fun
  | [d1, d2, d3] => { results := [.lit (.bool true)], args := [d1, d2, d3] }
  | _ => none }
def fnExactLowestTowerRow : OpenClaim := { program := "ytcnmakipfgfopaa", sum := "011296bfa39859966d8c2457576ecfd2bf0c0246a9e2ef017d31aa27800c812d", func := "loop.example/g00917/laws.FnExactLowestTower", spec := "fnExactLowestTower", unfollowed := true, recurses := true, apart := false }
def FnExactLowestTowerSaid : Prop := fnExactLowestTowerRow.holds Try.pinned (OpenSpec.ofChange fnExactLowestTowerSpec)

/-- ITS FALSE NEIGHBOUR: 'it returns false'. Refute it at one input. -/
def fnExactLowestTowerWrong : ChangeSpec := { name := "fnExactLowestTower", fn := fun _ => fun
  | [d1, d2, d3] => { results := [.lit (.bool false)], args := [d1, d2, d3] }
  | _ => none }
def FnExactLowestTowerWrongFalsely : Prop := fnExactLowestTowerRow.holds Try.pinned (OpenSpec.ofChange fnExactLowestTowerWrong)

/-- 'laws.FnExactCellsBetween': WHATEVER THE INPUT: true; the input reads as it did. -/
def fnExactCellsBetweenSpec : ChangeSpec := { name := "fnExactCellsBetween", fn := fun _ => fun
  | [d1, d2, d3] => { results := [.lit (.bool true)], args := [d1, d2, d3] }
  | _ => none }
def fnExactCellsBetweenRow : OpenClaim := { program := "ytcnmakipfgfopaa", sum := "011296bfa39859966d8c2457576ecfd2bf0c0246a9e2ef017d31aa27800c812d", func := "loop.example/g00917/laws.FnExactCellsBetween", spec := "fnExactCellsBetween", unfollowed := true, recurses := true, apart := false }
def FnExactCellsBetweenSaid : Prop := fnExactCellsBetweenRow.holds Try.pinned (OpenSpec.ofChange fnExactCellsBetweenSpec)

/-- ITS FALSE NEIGHBOUR: 'it returns false'. Refute it at one input. -/
def fnExactCellsBetweenWrong : ChangeSpec := { name := "fnExactCellsBetween", fn := fun _ => fun
  | [d1, d2, d3] => { results := [.lit (.bool false)], args := [d1, d2, d3] }
  | _ => none }
def FnExactCellsBetweenWrongFalsely : Prop := fnExactCellsBetweenRow.holds Try.pinned (OpenSpec.ofChange fnExactCellsBetweenWrong)

/-- 'laws.FnExactSeenFrom': WHATEVER THE INPUT: true; the input reads as it did. -/
def fnExactSeenFromSpec : ChangeSpec := { name := "fnExactSeenFrom", fn := fun _ => fun
  | [d1, d2, d3] => { results := [.lit (.bool true)], args := [d1, d2, d3] }
  | _ => none }
def fnExactSeenFromRow : OpenClaim := { program := "ytcnmakipfgfopaa", sum := "011296bfa39859966d8c2457576ecfd2bf0c0246a9e2ef017d31aa27800c812d", func := "loop.example/g00917/laws.FnExactSeenFrom", spec := "fnExactSeenFrom", unfollowed := true, recurses := true, apart := false }
def FnExactSeenFromSaid : Prop := fnExactSeenFromRow.holds Try.pinned (OpenSpec.ofChange fnExactSeenFromSpec)

/-- ITS FALSE NEIGHBOUR: 'it returns false'. Refute it at one input. -/
def fnExactSeenFromWrong : ChangeSpec := { name := "fnExactSeenFrom", fn := fun _ => fun
  | [d1, d2, d3] => { results := [.lit (.bool false)], args := [d1, d2, d3] }
  | _ => none }
def FnExactSeenFromWrongFalsely : Prop := fnExactSeenFromRow.holds Try.pinned (OpenSpec.ofChange fnExactSeenFromWrong)

/-- 'laws.FnExactUnseenBy': WHATEVER THE INPUT: true; the input reads as it did. -/
def fnExactUnseenBySpec : ChangeSpec := { name := "fnExactUnseenBy", fn := fun _ => fun
  | [d1, d2, d3] => { results := [.lit (.bool true)], args := [d1, d2, d3] }
  | _ => none }
def fnExactUnseenByRow : OpenClaim := { program := "ytcnmakipfgfopaa", sum := "011296bfa39859966d8c2457576ecfd2bf0c0246a9e2ef017d31aa27800c812d", func := "loop.example/g00917/laws.FnExactUnseenBy", spec := "fnExactUnseenBy", unfollowed := true, recurses := true, apart := false }
def FnExactUnseenBySaid : Prop := fnExactUnseenByRow.holds Try.pinned (OpenSpec.ofChange fnExactUnseenBySpec)

/-- ITS FALSE NEIGHBOUR: 'it returns false'. Refute it at one input. -/
def fnExactUnseenByWrong : ChangeSpec := { name := "fnExactUnseenBy", fn := fun _ => fun
  | [d1, d2, d3] => { results := [.lit (.bool false)], args := [d1, d2, d3] }
  | _ => none }
def FnExactUnseenByWrongFalsely : Prop := fnExactUnseenByRow.holds Try.pinned (OpenSpec.ofChange fnExactUnseenByWrong)

/-- 'laws.FnExactBestLookout': WHATEVER THE INPUT: true; the input reads as it did. -/
def fnExactBestLookoutSpec : ChangeSpec := { name := "fnExactBestLookout", fn := fun _ => fun
  | [d1, d2] => { results := [.lit (.bool true)], args := [d1, d2] }
  | _ => none }
def fnExactBestLookoutRow : OpenClaim := { program := "ytcnmakipfgfopaa", sum := "011296bfa39859966d8c2457576ecfd2bf0c0246a9e2ef017d31aa27800c812d", func := "loop.example/g00917/laws.FnExactBestLookout", spec := "fnExactBestLookout", unfollowed := true, recurses := true, apart := false }
def FnExactBestLookoutSaid : Prop := fnExactBestLookoutRow.holds Try.pinned (OpenSpec.ofChange fnExactBestLookoutSpec)

/-- ITS FALSE NEIGHBOUR: 'it returns false'. Refute it at one input. -/
def fnExactBestLookoutWrong : ChangeSpec := { name := "fnExactBestLookout", fn := fun _ => fun
  | [d1, d2] => { results := [.lit (.bool false)], args := [d1, d2] }
  | _ => none }
def FnExactBestLookoutWrongFalsely : Prop := fnExactBestLookoutRow.holds Try.pinned (OpenSpec.ofChange fnExactBestLookoutWrong)

/- THE SECOND FORM. 'bulk': how many values and letters a reading holds, each counted each time it is reached (what is shared counts as often as it is met; a slice's spare places count too). A statement '..UptoSaid' is the law's where the arguments, and the package variables that the reading takes, are together of bulk at most 1048576: NARROWER than '..Said'. Prove '..Said' where nothing that the law and all that it calls make is longer than what came in: it says more and counts as full. Else prove '..UptoSaid'. A law counts once. -/
mutual
def uptoBulk {H : Type} : DataW H → Nat
  | .lit (.string bytes) => bytes.length + 1
  | .lit _ => 1
  | .nil => 1
  | .ptr d => uptoBulk d + 1
  | .slice elems spare => uptoBulkAll elems + uptoBulkAll spare + 1
  | .agg parts => uptoBulkAll parts + 1
  | .iface _ d => uptoBulk d + 1
  | .map entries => uptoBulkEntries entries + 1
  | .held _ => 1
def uptoBulkAll {H : Type} : List (DataW H) → Nat
  | [] => 0
  | d :: r => uptoBulk d + uptoBulkAll r
def uptoBulkEntries {H : Type} : List (Lit × DataW H) → Nat
  | [] => 0
  | x :: r => uptoBulkEntry x + uptoBulkEntries r
def uptoBulkEntry {H : Type} : Lit × DataW H → Nat
  | (.string bytes, d) => bytes.length + uptoBulk d + 1
  | (_, d) => uptoBulk d + 1
 end
def uptoSmall : (H : Type) → List (DataW H) → Bool := fun _ ds => decide (uptoBulkAll ds ≤ 1048576)
def OpenSpec.upto (s : _root_.Go.ChangeSpec) : _root_.Go.OpenSpec := { _root_.Go.OpenSpec.ofChange s with cond := some uptoSmall }

/-- 'laws.FnExactIsFire', WHERE WHAT IT READS IS OF BULK AT MOST 1048576: true; the input reads as it did. -/
def fnExactIsFireUptoRow : OpenClaim := { program := "ytcnmakipfgfopaa", sum := "011296bfa39859966d8c2457576ecfd2bf0c0246a9e2ef017d31aa27800c812d", func := "loop.example/g00917/laws.FnExactIsFire", spec := "fnExactIsFire", apart := false, narrowed := true }
def FnExactIsFireUptoSaid : Prop := fnExactIsFireUptoRow.holds Try.pinned (OpenSpec.upto fnExactIsFireSpec)

/-- 'laws.FnExactIsSeason', WHERE WHAT IT READS IS OF BULK AT MOST 1048576: true; the input reads as it did. -/
def fnExactIsSeasonUptoRow : OpenClaim := { program := "ytcnmakipfgfopaa", sum := "011296bfa39859966d8c2457576ecfd2bf0c0246a9e2ef017d31aa27800c812d", func := "loop.example/g00917/laws.FnExactIsSeason", spec := "fnExactIsSeason", unfollowed := true, recurses := true, apart := false, narrowed := true }
def FnExactIsSeasonUptoSaid : Prop := fnExactIsSeasonUptoRow.holds Try.pinned (OpenSpec.upto fnExactIsSeasonSpec)

/-- 'laws.FnExactAreHeights', WHERE WHAT IT READS IS OF BULK AT MOST 1048576: true; the input reads as it did. -/
def fnExactAreHeightsUptoRow : OpenClaim := { program := "ytcnmakipfgfopaa", sum := "011296bfa39859966d8c2457576ecfd2bf0c0246a9e2ef017d31aa27800c812d", func := "loop.example/g00917/laws.FnExactAreHeights", spec := "fnExactAreHeights", unfollowed := true, recurses := true, apart := false, narrowed := true }
def FnExactAreHeightsUptoSaid : Prop := fnExactAreHeightsUptoRow.holds Try.pinned (OpenSpec.upto fnExactAreHeightsSpec)

/-- 'laws.FnExactHighestCell', WHERE WHAT IT READS IS OF BULK AT MOST 1048576: true; the input reads as it did. -/
def fnExactHighestCellUptoRow : OpenClaim := { program := "ytcnmakipfgfopaa", sum := "011296bfa39859966d8c2457576ecfd2bf0c0246a9e2ef017d31aa27800c812d", func := "loop.example/g00917/laws.FnExactHighestCell", spec := "fnExactHighestCell", unfollowed := true, recurses := true, apart := false, narrowed := true }
def FnExactHighestCellUptoSaid : Prop := fnExactHighestCellUptoRow.holds Try.pinned (OpenSpec.upto fnExactHighestCellSpec)

/-- 'laws.FnExactHalfBurnedBy', WHERE WHAT IT READS IS OF BULK AT MOST 1048576: true; the input reads as it did. -/
def fnExactHalfBurnedByUptoRow : OpenClaim := { program := "ytcnmakipfgfopaa", sum := "011296bfa39859966d8c2457576ecfd2bf0c0246a9e2ef017d31aa27800c812d", func := "loop.example/g00917/laws.FnExactHalfBurnedBy", spec := "fnExactHalfBurnedBy", unfollowed := true, recurses := true, apart := false, narrowed := true }
def FnExactHalfBurnedByUptoSaid : Prop := fnExactHalfBurnedByUptoRow.holds Try.pinned (OpenSpec.upto fnExactHalfBurnedBySpec)

/-- 'laws.FnExactLongestQuiet', WHERE WHAT IT READS IS OF BULK AT MOST 1048576: true; the input reads as it did. -/
def fnExactLongestQuietUptoRow : OpenClaim := { program := "ytcnmakipfgfopaa", sum := "011296bfa39859966d8c2457576ecfd2bf0c0246a9e2ef017d31aa27800c812d", func := "loop.example/g00917/laws.FnExactLongestQuiet", spec := "fnExactLongestQuiet", unfollowed := true, recurses := true, apart := false, narrowed := true }
def FnExactLongestQuietUptoSaid : Prop := fnExactLongestQuietUptoRow.holds Try.pinned (OpenSpec.upto fnExactLongestQuietSpec)

/-- 'laws.FnExactDoesSee', WHERE WHAT IT READS IS OF BULK AT MOST 1048576: true; the input reads as it did. -/
def fnExactDoesSeeUptoRow : OpenClaim := { program := "ytcnmakipfgfopaa", sum := "011296bfa39859966d8c2457576ecfd2bf0c0246a9e2ef017d31aa27800c812d", func := "loop.example/g00917/laws.FnExactDoesSee", spec := "fnExactDoesSee", unfollowed := true, recurses := true, apart := false, narrowed := true }
def FnExactDoesSeeUptoSaid : Prop := fnExactDoesSeeUptoRow.holds Try.pinned (OpenSpec.upto fnExactDoesSeeSpec)

/-- 'laws.FnExactLowestTower', WHERE WHAT IT READS IS OF BULK AT MOST 1048576: true; the input reads as it did. -/
def fnExactLowestTowerUptoRow : OpenClaim := { program := "ytcnmakipfgfopaa", sum := "011296bfa39859966d8c2457576ecfd2bf0c0246a9e2ef017d31aa27800c812d", func := "loop.example/g00917/laws.FnExactLowestTower", spec := "fnExactLowestTower", unfollowed := true, recurses := true, apart := false, narrowed := true }
def FnExactLowestTowerUptoSaid : Prop := fnExactLowestTowerUptoRow.holds Try.pinned (OpenSpec.upto fnExactLowestTowerSpec)

/-- 'laws.FnExactCellsBetween', WHERE WHAT IT READS IS OF BULK AT MOST 1048576: true; the input reads as it did. -/
def fnExactCellsBetweenUptoRow : OpenClaim := { program := "ytcnmakipfgfopaa", sum := "011296bfa39859966d8c2457576ecfd2bf0c0246a9e2ef017d31aa27800c812d", func := "loop.example/g00917/laws.FnExactCellsBetween", spec := "fnExactCellsBetween", unfollowed := true, recurses := true, apart := false, narrowed := true }
def FnExactCellsBetweenUptoSaid : Prop := fnExactCellsBetweenUptoRow.holds Try.pinned (OpenSpec.upto fnExactCellsBetweenSpec)

/-- 'laws.FnExactSeenFrom', WHERE WHAT IT READS IS OF BULK AT MOST 1048576: true; the input reads as it did. -/
def fnExactSeenFromUptoRow : OpenClaim := { program := "ytcnmakipfgfopaa", sum := "011296bfa39859966d8c2457576ecfd2bf0c0246a9e2ef017d31aa27800c812d", func := "loop.example/g00917/laws.FnExactSeenFrom", spec := "fnExactSeenFrom", unfollowed := true, recurses := true, apart := false, narrowed := true }
def FnExactSeenFromUptoSaid : Prop := fnExactSeenFromUptoRow.holds Try.pinned (OpenSpec.upto fnExactSeenFromSpec)

/-- 'laws.FnExactUnseenBy', WHERE WHAT IT READS IS OF BULK AT MOST 1048576: true; the input reads as it did. -/
def fnExactUnseenByUptoRow : OpenClaim := { program := "ytcnmakipfgfopaa", sum := "011296bfa39859966d8c2457576ecfd2bf0c0246a9e2ef017d31aa27800c812d", func := "loop.example/g00917/laws.FnExactUnseenBy", spec := "fnExactUnseenBy", unfollowed := true, recurses := true, apart := false, narrowed := true }
def FnExactUnseenByUptoSaid : Prop := fnExactUnseenByUptoRow.holds Try.pinned (OpenSpec.upto fnExactUnseenBySpec)

/-- 'laws.FnExactBestLookout', WHERE WHAT IT READS IS OF BULK AT MOST 1048576: true; the input reads as it did. -/
def fnExactBestLookoutUptoRow : OpenClaim := { program := "ytcnmakipfgfopaa", sum := "011296bfa39859966d8c2457576ecfd2bf0c0246a9e2ef017d31aa27800c812d", func := "loop.example/g00917/laws.FnExactBestLookout", spec := "fnExactBestLookout", unfollowed := true, recurses := true, apart := false, narrowed := true }
def FnExactBestLookoutUptoSaid : Prop := fnExactBestLookoutUptoRow.holds Try.pinned (OpenSpec.upto fnExactBestLookoutSpec)

end Rows
end Go.Proofs.Ytcnmakipfgfopaa
