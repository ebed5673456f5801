/-
  No cell of these rows narrows 'for every input' (looked for: loops, veiled, ifaces, maps, wideKeys, modest, calm, conditions, laid).
  DERIVED. THE GIVEN ROWS OF THIS SEAT. 7 by the template 'for every input the law returns true; each argument reads behind the call as it read before'; 0 by the template 'total and deterministic' (their statements: YthjlolbooehhcaaTotals.lean).
  GIVEN WITH THE SEED: the statements are not yours to turn. If you find one false, say at which input.
  Laid BY PROGRAM, IN A SANDBOX (cutbox-rows.mjs): the forced cells as the released guide's own fill.sh prints them over the translation f73c4fa219fdc12c… (all of the seat's roots in one cut). By AI agents, Wed Nov 11 2026. No macro, syntax, notation, axiom, sorry.
-/
import Derived.Test.YthjlolbooehhcaaChecked
import GoSem.Claim
import GoSem.ClaimJoined
import GoSem.ClaimMapViews
import Derived.JoinedTies
import Derived.KernelRfl
namespace Go.Proofs.Ythjlolbooehhcaa
/- THE CELL 'sum', in the pinned program and in every row, IS THE sha256 OF THE DUMP (.gsa) THAT YthjlolbooehhcaaProg.lean LOADS. Nothing in Lean hashes anything: it is a label: what it is worth is what the hold of that sum in a sandbox is worth. -/
noncomputable def Try.pinned : Pinned := { name := "ythjlolbooehhcaa", sum := "f73c4fa219fdc12c05e33b447545396795c7745946983b16a67b4affd827404c", checked := Try.checked }
namespace Rows
def none {H : Type} : Left H := { results := [], args := [] }

/-- 'laws.FnExactShareRations': WHATEVER THE INPUT: true; the input reads as it did. -/
def fnExactShareRationsSpec : ChangeSpec := { name := "fnExactShareRations", fn := fun _ => fun
  | [d1, d2] => { results := [.lit (.bool true)], args := [d1, d2] }
  | _ => none }
def fnExactShareRationsRow : OpenClaim := { program := "ythjlolbooehhcaa", sum := "f73c4fa219fdc12c05e33b447545396795c7745946983b16a67b4affd827404c", func := "loop.example/g00917/laws.FnExactShareRations", spec := "fnExactShareRations", unfollowed := true, recurses := true, apart := false }
def FnExactShareRationsSaid : Prop := fnExactShareRationsRow.holds Try.pinned (OpenSpec.ofChange fnExactShareRationsSpec)

/-- ITS FALSE NEIGHBOUR: 'it returns false'. Refute it at one input. -/
def fnExactShareRationsWrong : ChangeSpec := { name := "fnExactShareRations", fn := fun _ => fun
  | [d1, d2] => { results := [.lit (.bool false)], args := [d1, d2] }
  | _ => none }
def FnExactShareRationsWrongFalsely : Prop := fnExactShareRationsRow.holds Try.pinned (OpenSpec.ofChange fnExactShareRationsWrong)

/-- 'laws.FnExactSheltersFor': WHATEVER THE INPUT: true; the input reads as it did. -/
def fnExactSheltersForSpec : ChangeSpec := { name := "fnExactSheltersFor", fn := fun _ => fun
  | [d1, d2, d3, d4, d5, d6] => { results := [.lit (.bool true)], args := [d1, d2, d3, d4, d5, d6] }
  | _ => none }
def fnExactSheltersForRow : OpenClaim := { program := "ythjlolbooehhcaa", sum := "f73c4fa219fdc12c05e33b447545396795c7745946983b16a67b4affd827404c", func := "loop.example/g00917/laws.FnExactSheltersFor", spec := "fnExactSheltersFor", unfollowed := true, recurses := true, apart := false }
def FnExactSheltersForSaid : Prop := fnExactSheltersForRow.holds Try.pinned (OpenSpec.ofChange fnExactSheltersForSpec)

/-- ITS FALSE NEIGHBOUR: 'it returns false'. Refute it at one input. -/
def fnExactSheltersForWrong : ChangeSpec := { name := "fnExactSheltersFor", fn := fun _ => fun
  | [d1, d2, d3, d4, d5, d6] => { results := [.lit (.bool false)], args := [d1, d2, d3, d4, d5, d6] }
  | _ => none }
def FnExactSheltersForWrongFalsely : Prop := fnExactSheltersForRow.holds Try.pinned (OpenSpec.ofChange fnExactSheltersForWrong)

/-- 'laws.FnExactLostGroups': WHATEVER THE INPUT: true; the input reads as it did. -/
def fnExactLostGroupsSpec : ChangeSpec := { name := "fnExactLostGroups", fn := fun _ => fun
  | [d1, d2, d3, d4, d5] => { results := [.lit (.bool true)], args := [d1, d2, d3, d4, d5] }
  | _ => none }
def fnExactLostGroupsRow : OpenClaim := { program := "ythjlolbooehhcaa", sum := "f73c4fa219fdc12c05e33b447545396795c7745946983b16a67b4affd827404c", func := "loop.example/g00917/laws.FnExactLostGroups", spec := "fnExactLostGroups", unfollowed := true, recurses := true, apart := false }
def FnExactLostGroupsSaid : Prop := fnExactLostGroupsRow.holds Try.pinned (OpenSpec.ofChange fnExactLostGroupsSpec)

/-- ITS FALSE NEIGHBOUR: 'it returns false'. Refute it at one input. -/
def fnExactLostGroupsWrong : ChangeSpec := { name := "fnExactLostGroups", fn := fun _ => fun
  | [d1, d2, d3, d4, d5] => { results := [.lit (.bool false)], args := [d1, d2, d3, d4, d5] }
  | _ => none }
def FnExactLostGroupsWrongFalsely : Prop := fnExactLostGroupsRow.holds Try.pinned (OpenSpec.ofChange fnExactLostGroupsWrong)

/-- 'laws.FnExactSafePeople': WHATEVER THE INPUT: true; the input reads as it did. -/
def fnExactSafePeopleSpec : ChangeSpec := { name := "fnExactSafePeople", fn := fun _ => fun
  | [d1, d2, d3, d4, d5, d6] => { results := [.lit (.bool true)], args := [d1, d2, d3, d4, d5, d6] }
  | _ => none }
def fnExactSafePeopleRow : OpenClaim := { program := "ythjlolbooehhcaa", sum := "f73c4fa219fdc12c05e33b447545396795c7745946983b16a67b4affd827404c", func := "loop.example/g00917/laws.FnExactSafePeople", spec := "fnExactSafePeople", unfollowed := true, recurses := true, apart := false }
def FnExactSafePeopleSaid : Prop := fnExactSafePeopleRow.holds Try.pinned (OpenSpec.ofChange fnExactSafePeopleSpec)

/-- ITS FALSE NEIGHBOUR: 'it returns false'. Refute it at one input. -/
def fnExactSafePeopleWrong : ChangeSpec := { name := "fnExactSafePeople", fn := fun _ => fun
  | [d1, d2, d3, d4, d5, d6] => { results := [.lit (.bool false)], args := [d1, d2, d3, d4, d5, d6] }
  | _ => none }
def FnExactSafePeopleWrongFalsely : Prop := fnExactSafePeopleRow.holds Try.pinned (OpenSpec.ofChange fnExactSafePeopleWrong)

/-- 'laws.FnExactRoomLeft': WHATEVER THE INPUT: true; the input reads as it did. -/
def fnExactRoomLeftSpec : ChangeSpec := { name := "fnExactRoomLeft", fn := fun _ => fun
  | [d1, d2, d3, d4, d5, d6] => { results := [.lit (.bool true)], args := [d1, d2, d3, d4, d5, d6] }
  | _ => none }
def fnExactRoomLeftRow : OpenClaim := { program := "ythjlolbooehhcaa", sum := "f73c4fa219fdc12c05e33b447545396795c7745946983b16a67b4affd827404c", func := "loop.example/g00917/laws.FnExactRoomLeft", spec := "fnExactRoomLeft", unfollowed := true, recurses := true, apart := false }
def FnExactRoomLeftSaid : Prop := fnExactRoomLeftRow.holds Try.pinned (OpenSpec.ofChange fnExactRoomLeftSpec)

/-- ITS FALSE NEIGHBOUR: 'it returns false'. Refute it at one input. -/
def fnExactRoomLeftWrong : ChangeSpec := { name := "fnExactRoomLeft", fn := fun _ => fun
  | [d1, d2, d3, d4, d5, d6] => { results := [.lit (.bool false)], args := [d1, d2, d3, d4, d5, d6] }
  | _ => none }
def FnExactRoomLeftWrongFalsely : Prop := fnExactRoomLeftRow.holds Try.pinned (OpenSpec.ofChange fnExactRoomLeftWrong)

/-- 'laws.FnExactTriggerMinute': WHATEVER THE INPUT: true; the input reads as it did. -/
def fnExactTriggerMinuteSpec : ChangeSpec := { name := "fnExactTriggerMinute", fn := fun _ => fun
  | [d1, d2, d3, d4] => { results := [.lit (.bool true)], args := [d1, d2, d3, d4] }
  | _ => none }
def fnExactTriggerMinuteRow : OpenClaim := { program := "ythjlolbooehhcaa", sum := "f73c4fa219fdc12c05e33b447545396795c7745946983b16a67b4affd827404c", func := "loop.example/g00917/laws.FnExactTriggerMinute", spec := "fnExactTriggerMinute", unfollowed := true, recurses := true, apart := false }
def FnExactTriggerMinuteSaid : Prop := fnExactTriggerMinuteRow.holds Try.pinned (OpenSpec.ofChange fnExactTriggerMinuteSpec)

/-- ITS FALSE NEIGHBOUR: 'it returns false'. Refute it at one input. -/
def fnExactTriggerMinuteWrong : ChangeSpec := { name := "fnExactTriggerMinute", fn := fun _ => fun
  | [d1, d2, d3, d4] => { results := [.lit (.bool false)], args := [d1, d2, d3, d4] }
  | _ => none }
def FnExactTriggerMinuteWrongFalsely : Prop := fnExactTriggerMinuteRow.holds Try.pinned (OpenSpec.ofChange fnExactTriggerMinuteWrong)

/-- 'laws.FnExactBestEvacuation': WHATEVER THE INPUT: true; the input reads as it did. -/
def fnExactBestEvacuationSpec : ChangeSpec := { name := "fnExactBestEvacuation", fn := fun _ => fun
  | [d1, d2, d3, d4, d5] => { results := [.lit (.bool true)], args := [d1, d2, d3, d4, d5] }
  | _ => none }
def fnExactBestEvacuationRow : OpenClaim := { program := "ythjlolbooehhcaa", sum := "f73c4fa219fdc12c05e33b447545396795c7745946983b16a67b4affd827404c", func := "loop.example/g00917/laws.FnExactBestEvacuation", spec := "fnExactBestEvacuation", unfollowed := true, recurses := true, apart := false }
def FnExactBestEvacuationSaid : Prop := fnExactBestEvacuationRow.holds Try.pinned (OpenSpec.ofChange fnExactBestEvacuationSpec)

/-- ITS FALSE NEIGHBOUR: 'it returns false'. Refute it at one input. -/
def fnExactBestEvacuationWrong : ChangeSpec := { name := "fnExactBestEvacuation", fn := fun _ => fun
  | [d1, d2, d3, d4, d5] => { results := [.lit (.bool false)], args := [d1, d2, d3, d4, d5] }
  | _ => none }
def FnExactBestEvacuationWrongFalsely : Prop := fnExactBestEvacuationRow.holds Try.pinned (OpenSpec.ofChange fnExactBestEvacuationWrong)

/- THE SECOND FORM. 'bulk': how many values and letters a reading holds, each counted each time it is reached (what is shared counts as often as it is met; a slice's spare places count too). A statement '..UptoSaid' is the law's where the arguments, and the package variables that the reading takes, are together of bulk at most 1048576: NARROWER than '..Said'. Prove '..Said' where nothing that the law and all that it calls make is longer than what came in: it says more and counts as full. Else prove '..UptoSaid'. A law counts once. -/
mutual
def uptoBulk {H : Type} : DataW H → Nat
  | .lit (.string bytes) => bytes.length + 1
  | .lit _ => 1
  | .nil => 1
  | .ptr d => uptoBulk d + 1
  | .slice elems spare => uptoBulkAll elems + uptoBulkAll spare + 1
  | .agg parts => uptoBulkAll parts + 1
  | .iface _ d => uptoBulk d + 1
  | .map entries => uptoBulkEntries entries + 1
  | .held _ => 1
def uptoBulkAll {H : Type} : List (DataW H) → Nat
  | [] => 0
  | d :: r => uptoBulk d + uptoBulkAll r
def uptoBulkEntries {H : Type} : List (Lit × DataW H) → Nat
  | [] => 0
  | x :: r => uptoBulkEntry x + uptoBulkEntries r
def uptoBulkEntry {H : Type} : Lit × DataW H → Nat
  | (.string bytes, d) => bytes.length + uptoBulk d + 1
  | (_, d) => uptoBulk d + 1
 end
def uptoSmall : (H : Type) → List (DataW H) → Bool := fun _ ds => decide (uptoBulkAll ds ≤ 1048576)
def OpenSpec.upto (s : _root_.Go.ChangeSpec) : _root_.Go.OpenSpec := { _root_.Go.OpenSpec.ofChange s with cond := some uptoSmall }

/-- 'laws.FnExactShareRations', WHERE WHAT IT READS IS OF BULK AT MOST 1048576: true; the input reads as it did. -/
def fnExactShareRationsUptoRow : OpenClaim := { program := "ythjlolbooehhcaa", sum := "f73c4fa219fdc12c05e33b447545396795c7745946983b16a67b4affd827404c", func := "loop.example/g00917/laws.FnExactShareRations", spec := "fnExactShareRations", unfollowed := true, recurses := true, apart := false, narrowed := true }
def FnExactShareRationsUptoSaid : Prop := fnExactShareRationsUptoRow.holds Try.pinned (OpenSpec.upto fnExactShareRationsSpec)

/-- 'laws.FnExactSheltersFor', WHERE WHAT IT READS IS OF BULK AT MOST 1048576: true; the input reads as it did. -/
def fnExactSheltersForUptoRow : OpenClaim := { program := "ythjlolbooehhcaa", sum := "f73c4fa219fdc12c05e33b447545396795c7745946983b16a67b4affd827404c", func := "loop.example/g00917/laws.FnExactSheltersFor", spec := "fnExactSheltersFor", unfollowed := true, recurses := true, apart := false, narrowed := true }
def FnExactSheltersForUptoSaid : Prop := fnExactSheltersForUptoRow.holds Try.pinned (OpenSpec.upto fnExactSheltersForSpec)

/-- 'laws.FnExactLostGroups', WHERE WHAT IT READS IS OF BULK AT MOST 1048576: true; the input reads as it did. -/
def fnExactLostGroupsUptoRow : OpenClaim := { program := "ythjlolbooehhcaa", sum := "f73c4fa219fdc12c05e33b447545396795c7745946983b16a67b4affd827404c", func := "loop.example/g00917/laws.FnExactLostGroups", spec := "fnExactLostGroups", unfollowed := true, recurses := true, apart := false, narrowed := true }
def FnExactLostGroupsUptoSaid : Prop := fnExactLostGroupsUptoRow.holds Try.pinned (OpenSpec.upto fnExactLostGroupsSpec)

/-- 'laws.FnExactSafePeople', WHERE WHAT IT READS IS OF BULK AT MOST 1048576: true; the input reads as it did. -/
def fnExactSafePeopleUptoRow : OpenClaim := { program := "ythjlolbooehhcaa", sum := "f73c4fa219fdc12c05e33b447545396795c7745946983b16a67b4affd827404c", func := "loop.example/g00917/laws.FnExactSafePeople", spec := "fnExactSafePeople", unfollowed := true, recurses := true, apart := false, narrowed := true }
def FnExactSafePeopleUptoSaid : Prop := fnExactSafePeopleUptoRow.holds Try.pinned (OpenSpec.upto fnExactSafePeopleSpec)

/-- 'laws.FnExactRoomLeft', WHERE WHAT IT READS IS OF BULK AT MOST 1048576: true; the input reads as it did. -/
def fnExactRoomLeftUptoRow : OpenClaim := { program := "ythjlolbooehhcaa", sum := "f73c4fa219fdc12c05e33b447545396795c7745946983b16a67b4affd827404c", func := "loop.example/g00917/laws.FnExactRoomLeft", spec := "fnExactRoomLeft", unfollowed := true, recurses := true, apart := false, narrowed := true }
def FnExactRoomLeftUptoSaid : Prop := fnExactRoomLeftUptoRow.holds Try.pinned (OpenSpec.upto fnExactRoomLeftSpec)

/-- 'laws.FnExactTriggerMinute', WHERE WHAT IT READS IS OF BULK AT MOST 1048576: true; the input reads as it did. -/
def fnExactTriggerMinuteUptoRow : OpenClaim := { program := "ythjlolbooehhcaa", sum := "f73c4fa219fdc12c05e33b447545396795c7745946983b16a67b4affd827404c", func := "loop.example/g00917/laws.FnExactTriggerMinute", spec := "fnExactTriggerMinute", unfollowed := true, recurses := true, apart := false, narrowed := true }
def FnExactTriggerMinuteUptoSaid : Prop := fnExactTriggerMinuteUptoRow.holds Try.pinned (OpenSpec.upto fnExactTriggerMinuteSpec)

/-- 'laws.FnExactBestEvacuation', WHERE WHAT IT READS IS OF BULK AT MOST 1048576: true; the input reads as it did. -/
def fnExactBestEvacuationUptoRow : OpenClaim := { program := "ythjlolbooehhcaa", sum := "f73c4fa219fdc12c05e33b447545396795c7745946983b16a67b4affd827404c", func := "loop.example/g00917/laws.FnExactBestEvacuation", spec := "fnExactBestEvacuation", unfollowed := true, recurses := true, apart := false, narrowed := true }
def FnExactBestEvacuationUptoSaid : Prop := fnExactBestEvacuationUptoRow.holds Try.pinned (OpenSpec.upto fnExactBestEvacuationSpec)

end Rows
end Go.Proofs.Ythjlolbooehhcaa
