/-
  No cell of these rows narrows 'for every input' (looked for: loops, veiled, ifaces, maps, wideKeys, modest, calm, conditions, laid).
  DERIVED. THE GIVEN ROWS OF THIS SEAT. 4 by the template 'for every input the law returns true; each argument reads behind the call as it read before'; 0 by the template 'total and deterministic' (their statements: YtgpnbhnndhakhabTotals.lean).
  GIVEN WITH THE SEED: the statements are not yours to turn. If you find one false, say at which input.
  Laid BY PROGRAM, IN A SANDBOX (cutbox-rows.mjs): the forced cells as the released guide's own fill.sh prints them over the translation d88f5c05ecc83d18… (all of the seat's roots in one cut). By AI agents, Wed Nov 11 2026. No macro, syntax, notation, axiom, sorry.
-/
import Derived.Test.YtgpnbhnndhakhabChecked
import GoSem.Claim
import GoSem.ClaimJoined
import GoSem.ClaimMapViews
import Derived.JoinedTies
import Derived.KernelRfl
namespace Go.Proofs.Ytgpnbhnndhakhab
/- THE CELL 'sum', in the pinned program and in every row, IS THE sha256 OF THE DUMP (.gsa) THAT YtgpnbhnndhakhabProg.lean LOADS. Nothing in Lean hashes anything: it is a label: what it is worth is what the hold of that sum in a sandbox is worth. -/
noncomputable def Try.pinned : Pinned := { name := "ytgpnbhnndhakhab", sum := "d88f5c05ecc83d1816fa7711ec73aea626615564b6f859ef0a41b17dcd2678ed", checked := Try.checked }
namespace Rows
def none {H : Type} : Left H := { results := [], args := [] }

/-- 'laws.FnRegionSteps': WHATEVER THE INPUT: true; the input reads as it did. -/
def fnRegionStepsSpec : ChangeSpec := { name := "fnRegionSteps", fn := fun _ => fun
  | [d] => { results := [.lit (.bool true)], args := [d] }
  | _ => none }
def fnRegionStepsRow : OpenClaim := { program := "ytgpnbhnndhakhab", sum := "d88f5c05ecc83d1816fa7711ec73aea626615564b6f859ef0a41b17dcd2678ed", func := "loop.example/g00917/laws.FnRegionSteps", spec := "fnRegionSteps", unfollowed := true, recurses := true, apart := false }
def FnRegionStepsSaid : Prop := fnRegionStepsRow.holds Try.pinned (OpenSpec.ofChange fnRegionStepsSpec)

/-- ITS FALSE NEIGHBOUR: 'it returns false'. Refute it at one input. -/
def fnRegionStepsWrong : ChangeSpec := { name := "fnRegionSteps", fn := fun _ => fun
  | [d] => { results := [.lit (.bool false)], args := [d] }
  | _ => none }
def FnRegionStepsWrongFalsely : Prop := fnRegionStepsRow.holds Try.pinned (OpenSpec.ofChange fnRegionStepsWrong)

/-- 'laws.FnRegionParts': WHATEVER THE INPUT: true; the input reads as it did. -/
def fnRegionPartsSpec : ChangeSpec := { name := "fnRegionParts", fn := fun _ => fun
  | [d] => { results := [.lit (.bool true)], args := [d] }
  | _ => none }
def fnRegionPartsRow : OpenClaim := { program := "ytgpnbhnndhakhab", sum := "d88f5c05ecc83d1816fa7711ec73aea626615564b6f859ef0a41b17dcd2678ed", func := "loop.example/g00917/laws.FnRegionParts", spec := "fnRegionParts", unfollowed := true, recurses := true, apart := false }
def FnRegionPartsSaid : Prop := fnRegionPartsRow.holds Try.pinned (OpenSpec.ofChange fnRegionPartsSpec)

/-- ITS FALSE NEIGHBOUR: 'it returns false'. Refute it at one input. -/
def fnRegionPartsWrong : ChangeSpec := { name := "fnRegionParts", fn := fun _ => fun
  | [d] => { results := [.lit (.bool false)], args := [d] }
  | _ => none }
def FnRegionPartsWrongFalsely : Prop := fnRegionPartsRow.holds Try.pinned (OpenSpec.ofChange fnRegionPartsWrong)

/-- 'laws.FnExactAlwaysSafe': WHATEVER THE INPUT: true; the input reads as it did. -/
def fnExactAlwaysSafeSpec : ChangeSpec := { name := "fnExactAlwaysSafe", fn := fun _ => fun
  | [d1, d2] => { results := [.lit (.bool true)], args := [d1, d2] }
  | _ => none }
def fnExactAlwaysSafeRow : OpenClaim := { program := "ytgpnbhnndhakhab", sum := "d88f5c05ecc83d1816fa7711ec73aea626615564b6f859ef0a41b17dcd2678ed", func := "loop.example/g00917/laws.FnExactAlwaysSafe", spec := "fnExactAlwaysSafe", unfollowed := true, recurses := true, apart := false }
def FnExactAlwaysSafeSaid : Prop := fnExactAlwaysSafeRow.holds Try.pinned (OpenSpec.ofChange fnExactAlwaysSafeSpec)

/-- ITS FALSE NEIGHBOUR: 'it returns false'. Refute it at one input. -/
def fnExactAlwaysSafeWrong : ChangeSpec := { name := "fnExactAlwaysSafe", fn := fun _ => fun
  | [d1, d2] => { results := [.lit (.bool false)], args := [d1, d2] }
  | _ => none }
def FnExactAlwaysSafeWrongFalsely : Prop := fnExactAlwaysSafeRow.holds Try.pinned (OpenSpec.ofChange fnExactAlwaysSafeWrong)

/-- 'laws.FnExactProtectAsset': WHATEVER THE INPUT: true; the input reads as it did. -/
def fnExactProtectAssetSpec : ChangeSpec := { name := "fnExactProtectAsset", fn := fun _ => fun
  | [d1, d2, d3] => { results := [.lit (.bool true)], args := [d1, d2, d3] }
  | _ => none }
def fnExactProtectAssetRow : OpenClaim := { program := "ytgpnbhnndhakhab", sum := "d88f5c05ecc83d1816fa7711ec73aea626615564b6f859ef0a41b17dcd2678ed", func := "loop.example/g00917/laws.FnExactProtectAsset", spec := "fnExactProtectAsset", unfollowed := true, recurses := true, apart := false }
def FnExactProtectAssetSaid : Prop := fnExactProtectAssetRow.holds Try.pinned (OpenSpec.ofChange fnExactProtectAssetSpec)

/-- ITS FALSE NEIGHBOUR: 'it returns false'. Refute it at one input. -/
def fnExactProtectAssetWrong : ChangeSpec := { name := "fnExactProtectAsset", fn := fun _ => fun
  | [d1, d2, d3] => { results := [.lit (.bool false)], args := [d1, d2, d3] }
  | _ => none }
def FnExactProtectAssetWrongFalsely : Prop := fnExactProtectAssetRow.holds Try.pinned (OpenSpec.ofChange fnExactProtectAssetWrong)

/- THE SECOND FORM. 'bulk': how many values and letters a reading holds, each counted each time it is reached (what is shared counts as often as it is met; a slice's spare places count too). A statement '..UptoSaid' is the law's where the arguments, and the package variables that the reading takes, are together of bulk at most 1048576: NARROWER than '..Said'. Prove '..Said' where nothing that the law and all that it calls make is longer than what came in: it says more and counts as full. Else prove '..UptoSaid'. A law counts once. -/
mutual
def uptoBulk {H : Type} : DataW H → Nat
  | .lit (.string bytes) => bytes.length + 1
  | .lit _ => 1
  | .nil => 1
  | .ptr d => uptoBulk d + 1
  | .slice elems spare => uptoBulkAll elems + uptoBulkAll spare + 1
  | .agg parts => uptoBulkAll parts + 1
  | .iface _ d => uptoBulk d + 1
  | .map entries => uptoBulkEntries entries + 1
  | .held _ => 1
def uptoBulkAll {H : Type} : List (DataW H) → Nat
  | [] => 0
  | d :: r => uptoBulk d + uptoBulkAll r
def uptoBulkEntries {H : Type} : List (Lit × DataW H) → Nat
  | [] => 0
  | x :: r => uptoBulkEntry x + uptoBulkEntries r
def uptoBulkEntry {H : Type} : Lit × DataW H → Nat
  | (.string bytes, d) => bytes.length + uptoBulk d + 1
  | (_, d) => uptoBulk d + 1
 end
def uptoSmall : (H : Type) → List (DataW H) → Bool := fun _ ds => decide (uptoBulkAll ds ≤ 1048576)
def OpenSpec.upto (s : _root_.Go.ChangeSpec) : _root_.Go.OpenSpec := { _root_.Go.OpenSpec.ofChange s with cond := some uptoSmall }

/-- 'laws.FnRegionSteps', WHERE WHAT IT READS IS OF BULK AT MOST 1048576: true; the input reads as it did. -/
def fnRegionStepsUptoRow : OpenClaim := { program := "ytgpnbhnndhakhab", sum := "d88f5c05ecc83d1816fa7711ec73aea626615564b6f859ef0a41b17dcd2678ed", func := "loop.example/g00917/laws.FnRegionSteps", spec := "fnRegionSteps", unfollowed := true, recurses := true, apart := false, narrowed := true }
def FnRegionStepsUptoSaid : Prop := fnRegionStepsUptoRow.holds Try.pinned (OpenSpec.upto fnRegionStepsSpec)

/-- 'laws.FnRegionParts', WHERE WHAT IT READS IS OF BULK AT MOST 1048576: true; the input reads as it did. -/
def fnRegionPartsUptoRow : OpenClaim := { program := "ytgpnbhnndhakhab", sum := "d88f5c05ecc83d1816fa7711ec73aea626615564b6f859ef0a41b17dcd2678ed", func := "loop.example/g00917/laws.FnRegionParts", spec := "fnRegionParts", unfollowed := true, recurses := true, apart := false, narrowed := true }
def FnRegionPartsUptoSaid : Prop := fnRegionPartsUptoRow.holds Try.pinned (OpenSpec.upto fnRegionPartsSpec)

/-- 'laws.FnExactAlwaysSafe', WHERE WHAT IT READS IS OF BULK AT MOST 1048576: true; the input reads as it did. -/
def fnExactAlwaysSafeUptoRow : OpenClaim := { program := "ytgpnbhnndhakhab", sum := "d88f5c05ecc83d1816fa7711ec73aea626615564b6f859ef0a41b17dcd2678ed", func := "loop.example/g00917/laws.FnExactAlwaysSafe", spec := "fnExactAlwaysSafe", unfollowed := true, recurses := true, apart := false, narrowed := true }
def FnExactAlwaysSafeUptoSaid : Prop := fnExactAlwaysSafeUptoRow.holds Try.pinned (OpenSpec.upto fnExactAlwaysSafeSpec)

/-- 'laws.FnExactProtectAsset', WHERE WHAT IT READS IS OF BULK AT MOST 1048576: true; the input reads as it did. -/
def fnExactProtectAssetUptoRow : OpenClaim := { program := "ytgpnbhnndhakhab", sum := "d88f5c05ecc83d1816fa7711ec73aea626615564b6f859ef0a41b17dcd2678ed", func := "loop.example/g00917/laws.FnExactProtectAsset", spec := "fnExactProtectAsset", unfollowed := true, recurses := true, apart := false, narrowed := true }
def FnExactProtectAssetUptoSaid : Prop := fnExactProtectAssetUptoRow.holds Try.pinned (OpenSpec.upto fnExactProtectAssetSpec)

end Rows
end Go.Proofs.Ytgpnbhnndhakhab
