/-
  No cell of these rows narrows 'for every input' (looked for: loops, veiled, ifaces, maps, wideKeys, modest, calm, conditions, laid).
  DERIVED. THE GIVEN ROWS OF THIS SEAT. 12 by the template 'for every input the law returns true; each argument reads behind the call as it read before'; 0 by the template 'total and deterministic' (their statements: YtcnldfcjidmgaaaTotals.lean).
  GIVEN WITH THE SEED: the statements are not yours to turn. If you find one false, say at which input.
  Laid BY PROGRAM, IN A SANDBOX (cutbox-rows.mjs): the forced cells as the released guide's own fill.sh prints them over the translation 93be82bb4ca762da… (all of the seat's roots in one cut). By AI agents, Wed Nov 11 2026. No macro, syntax, notation, axiom, sorry.
-/
import Derived.Test.YtcnldfcjidmgaaaChecked
import GoSem.Claim
import GoSem.ClaimJoined
import GoSem.ClaimMapViews
import Derived.JoinedTies
import Derived.KernelRfl
namespace Go.Proofs.Ytcnldfcjidmgaaa
/- THE CELL 'sum', in the pinned program and in every row, IS THE sha256 OF THE DUMP (.gsa) THAT YtcnldfcjidmgaaaProg.lean LOADS. Nothing in Lean hashes anything: it is a label: what it is worth is what the hold of that sum in a sandbox is worth. -/
noncomputable def Try.pinned : Pinned := { name := "ytcnldfcjidmgaaa", sum := "93be82bb4ca762da5a1acdbef7f332f884cfbecc186f41b37c3880e9fcb9f066", checked := Try.checked }
namespace Rows
def none {H : Type} : Left H := { results := [], args := [] }

/-- 'laws.FnExactAreAssets': WHATEVER THE INPUT: true; the input reads as it did. -/
def fnExactAreAssetsSpec : ChangeSpec := { name := "fnExactAreAssets", fn := fun _ => fun
  | [d] => { results := [.lit (.bool true)], args := [d] }
  | _ => none }
def fnExactAreAssetsRow : OpenClaim := { program := "ytcnldfcjidmgaaa", sum := "93be82bb4ca762da5a1acdbef7f332f884cfbecc186f41b37c3880e9fcb9f066", func := "loop.example/g00917/laws.FnExactAreAssets", spec := "fnExactAreAssets", unfollowed := true, recurses := true, apart := false }
def FnExactAreAssetsSaid : Prop := fnExactAreAssetsRow.holds Try.pinned (OpenSpec.ofChange fnExactAreAssetsSpec)

/-- ITS FALSE NEIGHBOUR: 'it returns false'. Refute it at one input. -/
def fnExactAreAssetsWrong : ChangeSpec := { name := "fnExactAreAssets", fn := fun _ => fun
  | [d] => { results := [.lit (.bool false)], args := [d] }
  | _ => none }
def FnExactAreAssetsWrongFalsely : Prop := fnExactAreAssetsRow.holds Try.pinned (OpenSpec.ofChange fnExactAreAssetsWrong)

/-- 'laws.FnExactAreScenes': WHATEVER THE INPUT: true; the input reads as it did. -/
def fnExactAreScenesSpec : ChangeSpec := { name := "fnExactAreScenes", fn := fun _ => fun
  | [d1, d2] => { results := [.lit (.bool true)], args := [d1, d2] }
  | _ => none }
def fnExactAreScenesRow : OpenClaim := { program := "ytcnldfcjidmgaaa", sum := "93be82bb4ca762da5a1acdbef7f332f884cfbecc186f41b37c3880e9fcb9f066", func := "loop.example/g00917/laws.FnExactAreScenes", spec := "fnExactAreScenes", unfollowed := true, recurses := true, apart := false }
def FnExactAreScenesSaid : Prop := fnExactAreScenesRow.holds Try.pinned (OpenSpec.ofChange fnExactAreScenesSpec)

/-- ITS FALSE NEIGHBOUR: 'it returns false'. Refute it at one input. -/
def fnExactAreScenesWrong : ChangeSpec := { name := "fnExactAreScenes", fn := fun _ => fun
  | [d1, d2] => { results := [.lit (.bool false)], args := [d1, d2] }
  | _ => none }
def FnExactAreScenesWrongFalsely : Prop := fnExactAreScenesRow.holds Try.pinned (OpenSpec.ofChange fnExactAreScenesWrong)

/-- 'laws.FnExactSceneLoss': WHATEVER THE INPUT: true; the input reads as it did. -/
def fnExactSceneLossSpec : ChangeSpec := { name := "fnExactSceneLoss", fn := fun _ => fun
  | [d1, d2] => { results := [.lit (.bool true)], args := [d1, d2] }
  | _ => none }
def fnExactSceneLossRow : OpenClaim := { program := "ytcnldfcjidmgaaa", sum := "93be82bb4ca762da5a1acdbef7f332f884cfbecc186f41b37c3880e9fcb9f066", func := "loop.example/g00917/laws.FnExactSceneLoss", spec := "fnExactSceneLoss", unfollowed := true, recurses := true, apart := false }
def FnExactSceneLossSaid : Prop := fnExactSceneLossRow.holds Try.pinned (OpenSpec.ofChange fnExactSceneLossSpec)

/-- ITS FALSE NEIGHBOUR: 'it returns false'. Refute it at one input. -/
def fnExactSceneLossWrong : ChangeSpec := { name := "fnExactSceneLoss", fn := fun _ => fun
  | [d1, d2] => { results := [.lit (.bool false)], args := [d1, d2] }
  | _ => none }
def FnExactSceneLossWrongFalsely : Prop := fnExactSceneLossRow.holds Try.pinned (OpenSpec.ofChange fnExactSceneLossWrong)

/-- 'laws.FnExactWorstScene': WHATEVER THE INPUT: true; the input reads as it did. -/
def fnExactWorstSceneSpec : ChangeSpec := { name := "fnExactWorstScene", fn := fun _ => fun
  | [d1, d2] => { results := [.lit (.bool true)], args := [d1, d2] }
  | _ => none }
def fnExactWorstSceneRow : OpenClaim := { program := "ytcnldfcjidmgaaa", sum := "93be82bb4ca762da5a1acdbef7f332f884cfbecc186f41b37c3880e9fcb9f066", func := "loop.example/g00917/laws.FnExactWorstScene", spec := "fnExactWorstScene", unfollowed := true, recurses := true, apart := false }
def FnExactWorstSceneSaid : Prop := fnExactWorstSceneRow.holds Try.pinned (OpenSpec.ofChange fnExactWorstSceneSpec)

/-- ITS FALSE NEIGHBOUR: 'it returns false'. Refute it at one input. -/
def fnExactWorstSceneWrong : ChangeSpec := { name := "fnExactWorstScene", fn := fun _ => fun
  | [d1, d2] => { results := [.lit (.bool false)], args := [d1, d2] }
  | _ => none }
def FnExactWorstSceneWrongFalsely : Prop := fnExactWorstSceneRow.holds Try.pinned (OpenSpec.ofChange fnExactWorstSceneWrong)

/-- 'laws.FnExactChanceToBurn': WHATEVER THE INPUT: true; the input reads as it did. -/
def fnExactChanceToBurnSpec : ChangeSpec := { name := "fnExactChanceToBurn", fn := fun _ => fun
  | [d1, d2, d3] => { results := [.lit (.bool true)], args := [d1, d2, d3] }
  | _ => none }
def fnExactChanceToBurnRow : OpenClaim := { program := "ytcnldfcjidmgaaa", sum := "93be82bb4ca762da5a1acdbef7f332f884cfbecc186f41b37c3880e9fcb9f066", func := "loop.example/g00917/laws.FnExactChanceToBurn", spec := "fnExactChanceToBurn", unfollowed := true, recurses := true, apart := false }
def FnExactChanceToBurnSaid : Prop := fnExactChanceToBurnRow.holds Try.pinned (OpenSpec.ofChange fnExactChanceToBurnSpec)

/-- ITS FALSE NEIGHBOUR: 'it returns false'. Refute it at one input. -/
def fnExactChanceToBurnWrong : ChangeSpec := { name := "fnExactChanceToBurn", fn := fun _ => fun
  | [d1, d2, d3] => { results := [.lit (.bool false)], args := [d1, d2, d3] }
  | _ => none }
def FnExactChanceToBurnWrongFalsely : Prop := fnExactChanceToBurnRow.holds Try.pinned (OpenSpec.ofChange fnExactChanceToBurnWrong)

/-- 'laws.FnExactExpectedLoss': WHATEVER THE INPUT: true; the input reads as it did. -/
def fnExactExpectedLossSpec : ChangeSpec := { name := "fnExactExpectedLoss", fn := fun _ => fun
  | [d1, d2] => { results := [.lit (.bool true)], args := [d1, d2] }
  | _ => none }
def fnExactExpectedLossRow : OpenClaim := { program := "ytcnldfcjidmgaaa", sum := "93be82bb4ca762da5a1acdbef7f332f884cfbecc186f41b37c3880e9fcb9f066", func := "loop.example/g00917/laws.FnExactExpectedLoss", spec := "fnExactExpectedLoss", unfollowed := true, recurses := true, apart := false }
def FnExactExpectedLossSaid : Prop := fnExactExpectedLossRow.holds Try.pinned (OpenSpec.ofChange fnExactExpectedLossSpec)

/-- ITS FALSE NEIGHBOUR: 'it returns false'. Refute it at one input. -/
def fnExactExpectedLossWrong : ChangeSpec := { name := "fnExactExpectedLoss", fn := fun _ => fun
  | [d1, d2] => { results := [.lit (.bool false)], args := [d1, d2] }
  | _ => none }
def FnExactExpectedLossWrongFalsely : Prop := fnExactExpectedLossRow.holds Try.pinned (OpenSpec.ofChange fnExactExpectedLossWrong)

/-- 'laws.FnExactProtectAsset': WHATEVER THE INPUT: true; the input reads as it did. -/
def fnExactProtectAssetSpec : ChangeSpec := { name := "fnExactProtectAsset", fn := fun _ => fun
  | [d1, d2, d3] => { results := [.lit (.bool true)], args := [d1, d2, d3] }
  | _ => none }
def fnExactProtectAssetRow : OpenClaim := { program := "ytcnldfcjidmgaaa", sum := "93be82bb4ca762da5a1acdbef7f332f884cfbecc186f41b37c3880e9fcb9f066", func := "loop.example/g00917/laws.FnExactProtectAsset", spec := "fnExactProtectAsset", unfollowed := true, recurses := true, apart := false }
def FnExactProtectAssetSaid : Prop := fnExactProtectAssetRow.holds Try.pinned (OpenSpec.ofChange fnExactProtectAssetSpec)

/-- ITS FALSE NEIGHBOUR: 'it returns false'. Refute it at one input. -/
def fnExactProtectAssetWrong : ChangeSpec := { name := "fnExactProtectAsset", fn := fun _ => fun
  | [d1, d2, d3] => { results := [.lit (.bool false)], args := [d1, d2, d3] }
  | _ => none }
def FnExactProtectAssetWrongFalsely : Prop := fnExactProtectAssetRow.holds Try.pinned (OpenSpec.ofChange fnExactProtectAssetWrong)

/-- 'laws.FnExactLossAtLeast': WHATEVER THE INPUT: true; the input reads as it did. -/
def fnExactLossAtLeastSpec : ChangeSpec := { name := "fnExactLossAtLeast", fn := fun _ => fun
  | [d1, d2, d3] => { results := [.lit (.bool true)], args := [d1, d2, d3] }
  | _ => none }
def fnExactLossAtLeastRow : OpenClaim := { program := "ytcnldfcjidmgaaa", sum := "93be82bb4ca762da5a1acdbef7f332f884cfbecc186f41b37c3880e9fcb9f066", func := "loop.example/g00917/laws.FnExactLossAtLeast", spec := "fnExactLossAtLeast", unfollowed := true, recurses := true, apart := false }
def FnExactLossAtLeastSaid : Prop := fnExactLossAtLeastRow.holds Try.pinned (OpenSpec.ofChange fnExactLossAtLeastSpec)

/-- ITS FALSE NEIGHBOUR: 'it returns false'. Refute it at one input. -/
def fnExactLossAtLeastWrong : ChangeSpec := { name := "fnExactLossAtLeast", fn := fun _ => fun
  | [d1, d2, d3] => { results := [.lit (.bool false)], args := [d1, d2, d3] }
  | _ => none }
def FnExactLossAtLeastWrongFalsely : Prop := fnExactLossAtLeastRow.holds Try.pinned (OpenSpec.ofChange fnExactLossAtLeastWrong)

/-- 'laws.FnExactAlwaysSafe': WHATEVER THE INPUT: true; the input reads as it did. -/
def fnExactAlwaysSafeSpec : ChangeSpec := { name := "fnExactAlwaysSafe", fn := fun _ => fun
  | [d1, d2] => { results := [.lit (.bool true)], args := [d1, d2] }
  | _ => none }
def fnExactAlwaysSafeRow : OpenClaim := { program := "ytcnldfcjidmgaaa", sum := "93be82bb4ca762da5a1acdbef7f332f884cfbecc186f41b37c3880e9fcb9f066", func := "loop.example/g00917/laws.FnExactAlwaysSafe", spec := "fnExactAlwaysSafe", unfollowed := true, recurses := true, apart := false }
def FnExactAlwaysSafeSaid : Prop := fnExactAlwaysSafeRow.holds Try.pinned (OpenSpec.ofChange fnExactAlwaysSafeSpec)

/-- ITS FALSE NEIGHBOUR: 'it returns false'. Refute it at one input. -/
def fnExactAlwaysSafeWrong : ChangeSpec := { name := "fnExactAlwaysSafe", fn := fun _ => fun
  | [d1, d2] => { results := [.lit (.bool false)], args := [d1, d2] }
  | _ => none }
def FnExactAlwaysSafeWrongFalsely : Prop := fnExactAlwaysSafeRow.holds Try.pinned (OpenSpec.ofChange fnExactAlwaysSafeWrong)

/-- 'laws.FnExactBestProtection': WHATEVER THE INPUT: true; the input reads as it did. -/
def fnExactBestProtectionSpec : ChangeSpec := { name := "fnExactBestProtection", fn := fun _ => fun
  | [d1, d2] => { results := [.lit (.bool true)], args := [d1, d2] }
  | _ => none }
def fnExactBestProtectionRow : OpenClaim := { program := "ytcnldfcjidmgaaa", sum := "93be82bb4ca762da5a1acdbef7f332f884cfbecc186f41b37c3880e9fcb9f066", func := "loop.example/g00917/laws.FnExactBestProtection", spec := "fnExactBestProtection", unfollowed := true, recurses := true, apart := false }
def FnExactBestProtectionSaid : Prop := fnExactBestProtectionRow.holds Try.pinned (OpenSpec.ofChange fnExactBestProtectionSpec)

/-- ITS FALSE NEIGHBOUR: 'it returns false'. Refute it at one input. -/
def fnExactBestProtectionWrong : ChangeSpec := { name := "fnExactBestProtection", fn := fun _ => fun
  | [d1, d2] => { results := [.lit (.bool false)], args := [d1, d2] }
  | _ => none }
def FnExactBestProtectionWrongFalsely : Prop := fnExactBestProtectionRow.holds Try.pinned (OpenSpec.ofChange fnExactBestProtectionWrong)

/-- 'laws.FnExactRankAssets': WHATEVER THE INPUT: true; the input reads as it did. -/
def fnExactRankAssetsSpec : ChangeSpec := { name := "fnExactRankAssets", fn := fun _ => fun
  | [d1, d2] => { results := [.lit (.bool true)], args := [d1, d2] }
  | _ => none }
def fnExactRankAssetsRow : OpenClaim := { program := "ytcnldfcjidmgaaa", sum := "93be82bb4ca762da5a1acdbef7f332f884cfbecc186f41b37c3880e9fcb9f066", func := "loop.example/g00917/laws.FnExactRankAssets", spec := "fnExactRankAssets", unfollowed := true, recurses := true, apart := false }
def FnExactRankAssetsSaid : Prop := fnExactRankAssetsRow.holds Try.pinned (OpenSpec.ofChange fnExactRankAssetsSpec)

/-- ITS FALSE NEIGHBOUR: 'it returns false'. Refute it at one input. -/
def fnExactRankAssetsWrong : ChangeSpec := { name := "fnExactRankAssets", fn := fun _ => fun
  | [d1, d2] => { results := [.lit (.bool false)], args := [d1, d2] }
  | _ => none }
def FnExactRankAssetsWrongFalsely : Prop := fnExactRankAssetsRow.holds Try.pinned (OpenSpec.ofChange fnExactRankAssetsWrong)

/-- 'laws.FnRisks': WHATEVER THE INPUT: true; the input reads as it did. -/
def fnRisksSpec : ChangeSpec := { name := "fnRisks", fn := fun _ => fun
  | [d] => { results := [.lit (.bool true)], args := [d] }
  | _ => none }
def fnRisksRow : OpenClaim := { program := "ytcnldfcjidmgaaa", sum := "93be82bb4ca762da5a1acdbef7f332f884cfbecc186f41b37c3880e9fcb9f066", func := "loop.example/g00917/laws.FnRisks", spec := "fnRisks", unfollowed := true, recurses := true, apart := false }
def FnRisksSaid : Prop := fnRisksRow.holds Try.pinned (OpenSpec.ofChange fnRisksSpec)

/-- ITS FALSE NEIGHBOUR: 'it returns false'. Refute it at one input. -/
def fnRisksWrong : ChangeSpec := { name := "fnRisks", fn := fun _ => fun
  | [d] => { results := [.lit (.bool false)], args := [d] }
  | _ => none }
def FnRisksWrongFalsely : Prop := fnRisksRow.holds Try.pinned (OpenSpec.ofChange fnRisksWrong)

/- THE SECOND FORM. 'bulk': how many values and letters a reading holds, each counted each time it is reached (what is shared counts as often as it is met; a slice's spare places count too). A statement '..UptoSaid' is the law's where the arguments, and the package variables that the reading takes, are together of bulk at most 1048576: NARROWER than '..Said'. Prove '..Said' where nothing that the law and all that it calls make is longer than what came in: it says more and counts as full. Else prove '..UptoSaid'. A law counts once. -/
mutual
def uptoBulk {H : Type} : DataW H → Nat
  | .lit (.string bytes) => bytes.length + 1
  | .lit _ => 1
  | .nil => 1
  | .ptr d => uptoBulk d + 1
  | .slice elems spare => uptoBulkAll elems + uptoBulkAll spare + 1
  | .agg parts => uptoBulkAll parts + 1
  | .iface _ d => uptoBulk d + 1
  | .map entries => uptoBulkEntries entries + 1
  | .held _ => 1
def uptoBulkAll {H : Type} : List (DataW H) → Nat
  | [] => 0
  | d :: r => uptoBulk d + uptoBulkAll r
def uptoBulkEntries {H : Type} : List (Lit × DataW H) → Nat
  | [] => 0
  | x :: r => uptoBulkEntry x + uptoBulkEntries r
def uptoBulkEntry {H : Type} : Lit × DataW H → Nat
  | (.string bytes, d) => bytes.length + uptoBulk d + 1
  | (_, d) => uptoBulk d + 1
 end
def uptoSmall : (H : Type) → List (DataW H) → Bool := fun _ ds => decide (uptoBulkAll ds ≤ 1048576)
def OpenSpec.upto (s : _root_.Go.ChangeSpec) : _root_.Go.OpenSpec := { _root_.Go.OpenSpec.ofChange s with cond := some uptoSmall }

/-- 'laws.FnExactAreAssets', WHERE WHAT IT READS IS OF BULK AT MOST 1048576: true; the input reads as it did. -/
def fnExactAreAssetsUptoRow : OpenClaim := { program := "ytcnldfcjidmgaaa", sum := "93be82bb4ca762da5a1acdbef7f332f884cfbecc186f41b37c3880e9fcb9f066", func := "loop.example/g00917/laws.FnExactAreAssets", spec := "fnExactAreAssets", unfollowed := true, recurses := true, apart := false, narrowed := true }
def FnExactAreAssetsUptoSaid : Prop := fnExactAreAssetsUptoRow.holds Try.pinned (OpenSpec.upto fnExactAreAssetsSpec)

/-- 'laws.FnExactAreScenes', WHERE WHAT IT READS IS OF BULK AT MOST 1048576: true; the input reads as it did. -/
def fnExactAreScenesUptoRow : OpenClaim := { program := "ytcnldfcjidmgaaa", sum := "93be82bb4ca762da5a1acdbef7f332f884cfbecc186f41b37c3880e9fcb9f066", func := "loop.example/g00917/laws.FnExactAreScenes", spec := "fnExactAreScenes", unfollowed := true, recurses := true, apart := false, narrowed := true }
def FnExactAreScenesUptoSaid : Prop := fnExactAreScenesUptoRow.holds Try.pinned (OpenSpec.upto fnExactAreScenesSpec)

/-- 'laws.FnExactSceneLoss', WHERE WHAT IT READS IS OF BULK AT MOST 1048576: true; the input reads as it did. -/
def fnExactSceneLossUptoRow : OpenClaim := { program := "ytcnldfcjidmgaaa", sum := "93be82bb4ca762da5a1acdbef7f332f884cfbecc186f41b37c3880e9fcb9f066", func := "loop.example/g00917/laws.FnExactSceneLoss", spec := "fnExactSceneLoss", unfollowed := true, recurses := true, apart := false, narrowed := true }
def FnExactSceneLossUptoSaid : Prop := fnExactSceneLossUptoRow.holds Try.pinned (OpenSpec.upto fnExactSceneLossSpec)

/-- 'laws.FnExactWorstScene', WHERE WHAT IT READS IS OF BULK AT MOST 1048576: true; the input reads as it did. -/
def fnExactWorstSceneUptoRow : OpenClaim := { program := "ytcnldfcjidmgaaa", sum := "93be82bb4ca762da5a1acdbef7f332f884cfbecc186f41b37c3880e9fcb9f066", func := "loop.example/g00917/laws.FnExactWorstScene", spec := "fnExactWorstScene", unfollowed := true, recurses := true, apart := false, narrowed := true }
def FnExactWorstSceneUptoSaid : Prop := fnExactWorstSceneUptoRow.holds Try.pinned (OpenSpec.upto fnExactWorstSceneSpec)

/-- 'laws.FnExactChanceToBurn', WHERE WHAT IT READS IS OF BULK AT MOST 1048576: true; the input reads as it did. -/
def fnExactChanceToBurnUptoRow : OpenClaim := { program := "ytcnldfcjidmgaaa", sum := "93be82bb4ca762da5a1acdbef7f332f884cfbecc186f41b37c3880e9fcb9f066", func := "loop.example/g00917/laws.FnExactChanceToBurn", spec := "fnExactChanceToBurn", unfollowed := true, recurses := true, apart := false, narrowed := true }
def FnExactChanceToBurnUptoSaid : Prop := fnExactChanceToBurnUptoRow.holds Try.pinned (OpenSpec.upto fnExactChanceToBurnSpec)

/-- 'laws.FnExactExpectedLoss', WHERE WHAT IT READS IS OF BULK AT MOST 1048576: true; the input reads as it did. -/
def fnExactExpectedLossUptoRow : OpenClaim := { program := "ytcnldfcjidmgaaa", sum := "93be82bb4ca762da5a1acdbef7f332f884cfbecc186f41b37c3880e9fcb9f066", func := "loop.example/g00917/laws.FnExactExpectedLoss", spec := "fnExactExpectedLoss", unfollowed := true, recurses := true, apart := false, narrowed := true }
def FnExactExpectedLossUptoSaid : Prop := fnExactExpectedLossUptoRow.holds Try.pinned (OpenSpec.upto fnExactExpectedLossSpec)

/-- 'laws.FnExactProtectAsset', WHERE WHAT IT READS IS OF BULK AT MOST 1048576: true; the input reads as it did. -/
def fnExactProtectAssetUptoRow : OpenClaim := { program := "ytcnldfcjidmgaaa", sum := "93be82bb4ca762da5a1acdbef7f332f884cfbecc186f41b37c3880e9fcb9f066", func := "loop.example/g00917/laws.FnExactProtectAsset", spec := "fnExactProtectAsset", unfollowed := true, recurses := true, apart := false, narrowed := true }
def FnExactProtectAssetUptoSaid : Prop := fnExactProtectAssetUptoRow.holds Try.pinned (OpenSpec.upto fnExactProtectAssetSpec)

/-- 'laws.FnExactLossAtLeast', WHERE WHAT IT READS IS OF BULK AT MOST 1048576: true; the input reads as it did. -/
def fnExactLossAtLeastUptoRow : OpenClaim := { program := "ytcnldfcjidmgaaa", sum := "93be82bb4ca762da5a1acdbef7f332f884cfbecc186f41b37c3880e9fcb9f066", func := "loop.example/g00917/laws.FnExactLossAtLeast", spec := "fnExactLossAtLeast", unfollowed := true, recurses := true, apart := false, narrowed := true }
def FnExactLossAtLeastUptoSaid : Prop := fnExactLossAtLeastUptoRow.holds Try.pinned (OpenSpec.upto fnExactLossAtLeastSpec)

/-- 'laws.FnExactAlwaysSafe', WHERE WHAT IT READS IS OF BULK AT MOST 1048576: true; the input reads as it did. -/
def fnExactAlwaysSafeUptoRow : OpenClaim := { program := "ytcnldfcjidmgaaa", sum := "93be82bb4ca762da5a1acdbef7f332f884cfbecc186f41b37c3880e9fcb9f066", func := "loop.example/g00917/laws.FnExactAlwaysSafe", spec := "fnExactAlwaysSafe", unfollowed := true, recurses := true, apart := false, narrowed := true }
def FnExactAlwaysSafeUptoSaid : Prop := fnExactAlwaysSafeUptoRow.holds Try.pinned (OpenSpec.upto fnExactAlwaysSafeSpec)

/-- 'laws.FnExactBestProtection', WHERE WHAT IT READS IS OF BULK AT MOST 1048576: true; the input reads as it did. -/
def fnExactBestProtectionUptoRow : OpenClaim := { program := "ytcnldfcjidmgaaa", sum := "93be82bb4ca762da5a1acdbef7f332f884cfbecc186f41b37c3880e9fcb9f066", func := "loop.example/g00917/laws.FnExactBestProtection", spec := "fnExactBestProtection", unfollowed := true, recurses := true, apart := false, narrowed := true }
def FnExactBestProtectionUptoSaid : Prop := fnExactBestProtectionUptoRow.holds Try.pinned (OpenSpec.upto fnExactBestProtectionSpec)

/-- 'laws.FnExactRankAssets', WHERE WHAT IT READS IS OF BULK AT MOST 1048576: true; the input reads as it did. -/
def fnExactRankAssetsUptoRow : OpenClaim := { program := "ytcnldfcjidmgaaa", sum := "93be82bb4ca762da5a1acdbef7f332f884cfbecc186f41b37c3880e9fcb9f066", func := "loop.example/g00917/laws.FnExactRankAssets", spec := "fnExactRankAssets", unfollowed := true, recurses := true, apart := false, narrowed := true }
def FnExactRankAssetsUptoSaid : Prop := fnExactRankAssetsUptoRow.holds Try.pinned (OpenSpec.upto fnExactRankAssetsSpec)

/-- 'laws.FnRisks', WHERE WHAT IT READS IS OF BULK AT MOST 1048576: true; the input reads as it did. -/
def fnRisksUptoRow : OpenClaim := { program := "ytcnldfcjidmgaaa", sum := "93be82bb4ca762da5a1acdbef7f332f884cfbecc186f41b37c3880e9fcb9f066", func := "loop.example/g00917/laws.FnRisks", spec := "fnRisks", unfollowed := true, recurses := true, apart := false, narrowed := true }
def FnRisksUptoSaid : Prop := fnRisksUptoRow.holds Try.pinned (OpenSpec.upto fnRisksSpec)

end Rows
end Go.Proofs.Ytcnldfcjidmgaaa
