/-
  No cell of these rows narrows 'for every input' (looked for: loops, veiled, ifaces, maps, wideKeys, modest, calm, conditions, laid).
  DERIVED. THE GIVEN ROWS OF THIS SEAT. 9 by the template 'for every input the law returns true; each argument reads behind the call as it read before'; 0 by the template 'total and deterministic' (their statements: YtmlhmapibagmgaaTotals.lean).
  GIVEN WITH THE SEED: the statements are not yours to turn. If you find one false, say at which input.
  Laid BY PROGRAM, IN A SANDBOX (cutbox-rows.mjs): the forced cells as the released guide's own fill.sh prints them over the translation bbf4f2690ee44b07… (all of the seat's roots in one cut). By AI agents, Wed Nov 11 2026. No macro, syntax, notation, axiom, sorry.
-/
import Derived.Test.YtmlhmapibagmgaaChecked
import GoSem.Claim
import GoSem.ClaimJoined
import GoSem.ClaimMapViews
import Derived.JoinedTies
import Derived.KernelRfl
namespace Go.Proofs.Ytmlhmapibagmgaa
/- THE CELL 'sum', in the pinned program and in every row, IS THE sha256 OF THE DUMP (.gsa) THAT YtmlhmapibagmgaaProg.lean LOADS. Nothing in Lean hashes anything: it is a label: what it is worth is what the hold of that sum in a sandbox is worth. -/
noncomputable def Try.pinned : Pinned := { name := "ytmlhmapibagmgaa", sum := "bbf4f2690ee44b078e06bc1385788148d669951add6e6f8a82390358f22af5bc", checked := Try.checked }
namespace Rows
def none {H : Type} : Left H := { results := [], args := [] }

/-- 'laws.FnExactAreCamps': WHATEVER THE INPUT: true; the input reads as it did. -/
def fnExactAreCampsSpec : ChangeSpec := { name := "fnExactAreCamps", fn := fun _ => fun
  | [d] => { results := [.lit (.bool true)], args := [d] }
  | _ => none }
def fnExactAreCampsRow : OpenClaim := { program := "ytmlhmapibagmgaa", sum := "bbf4f2690ee44b078e06bc1385788148d669951add6e6f8a82390358f22af5bc", func := "loop.example/g00917/laws.FnExactAreCamps", spec := "fnExactAreCamps", unfollowed := true, recurses := true, apart := false }
def FnExactAreCampsSaid : Prop := fnExactAreCampsRow.holds Try.pinned (OpenSpec.ofChange fnExactAreCampsSpec)

/-- ITS FALSE NEIGHBOUR: 'it returns false'. Refute it at one input. -/
def fnExactAreCampsWrong : ChangeSpec := { name := "fnExactAreCamps", fn := fun _ => fun
  | [d] => { results := [.lit (.bool false)], args := [d] }
  | _ => none }
def FnExactAreCampsWrongFalsely : Prop := fnExactAreCampsRow.holds Try.pinned (OpenSpec.ofChange fnExactAreCampsWrong)

/-- 'laws.FnExactMoveRations': WHATEVER THE INPUT: true; the input reads as it did. -/
def fnExactMoveRationsSpec : ChangeSpec := { name := "fnExactMoveRations", fn := fun _ => fun
  | [d1, d2, d3, d4] => { results := [.lit (.bool true)], args := [d1, d2, d3, d4] }
  | _ => none }
def fnExactMoveRationsRow : OpenClaim := { program := "ytmlhmapibagmgaa", sum := "bbf4f2690ee44b078e06bc1385788148d669951add6e6f8a82390358f22af5bc", func := "loop.example/g00917/laws.FnExactMoveRations", spec := "fnExactMoveRations", unfollowed := true, recurses := true, apart := false }
def FnExactMoveRationsSaid : Prop := fnExactMoveRationsRow.holds Try.pinned (OpenSpec.ofChange fnExactMoveRationsSpec)

/-- ITS FALSE NEIGHBOUR: 'it returns false'. Refute it at one input. -/
def fnExactMoveRationsWrong : ChangeSpec := { name := "fnExactMoveRations", fn := fun _ => fun
  | [d1, d2, d3, d4] => { results := [.lit (.bool false)], args := [d1, d2, d3, d4] }
  | _ => none }
def FnExactMoveRationsWrongFalsely : Prop := fnExactMoveRationsRow.holds Try.pinned (OpenSpec.ofChange fnExactMoveRationsWrong)

/-- 'laws.FnExactAreTrucks': WHATEVER THE INPUT: true; the input reads as it did. -/
def fnExactAreTrucksSpec : ChangeSpec := { name := "fnExactAreTrucks", fn := fun _ => fun
  | [d1, d2] => { results := [.lit (.bool true)], args := [d1, d2] }
  | _ => none }
def fnExactAreTrucksRow : OpenClaim := { program := "ytmlhmapibagmgaa", sum := "bbf4f2690ee44b078e06bc1385788148d669951add6e6f8a82390358f22af5bc", func := "loop.example/g00917/laws.FnExactAreTrucks", spec := "fnExactAreTrucks", unfollowed := true, recurses := true, apart := false }
def FnExactAreTrucksSaid : Prop := fnExactAreTrucksRow.holds Try.pinned (OpenSpec.ofChange fnExactAreTrucksSpec)

/-- ITS FALSE NEIGHBOUR: 'it returns false'. Refute it at one input. -/
def fnExactAreTrucksWrong : ChangeSpec := { name := "fnExactAreTrucks", fn := fun _ => fun
  | [d1, d2] => { results := [.lit (.bool false)], args := [d1, d2] }
  | _ => none }
def FnExactAreTrucksWrongFalsely : Prop := fnExactAreTrucksRow.holds Try.pinned (OpenSpec.ofChange fnExactAreTrucksWrong)

/-- 'laws.FnExactShareRations': WHATEVER THE INPUT: true; the input reads as it did. -/
def fnExactShareRationsSpec : ChangeSpec := { name := "fnExactShareRations", fn := fun _ => fun
  | [d1, d2] => { results := [.lit (.bool true)], args := [d1, d2] }
  | _ => none }
def fnExactShareRationsRow : OpenClaim := { program := "ytmlhmapibagmgaa", sum := "bbf4f2690ee44b078e06bc1385788148d669951add6e6f8a82390358f22af5bc", func := "loop.example/g00917/laws.FnExactShareRations", spec := "fnExactShareRations", unfollowed := true, recurses := true, apart := false }
def FnExactShareRationsSaid : Prop := fnExactShareRationsRow.holds Try.pinned (OpenSpec.ofChange fnExactShareRationsSpec)

/-- ITS FALSE NEIGHBOUR: 'it returns false'. Refute it at one input. -/
def fnExactShareRationsWrong : ChangeSpec := { name := "fnExactShareRations", fn := fun _ => fun
  | [d1, d2] => { results := [.lit (.bool false)], args := [d1, d2] }
  | _ => none }
def FnExactShareRationsWrongFalsely : Prop := fnExactShareRationsRow.holds Try.pinned (OpenSpec.ofChange fnExactShareRationsWrong)

/-- 'laws.FnExactWithoutOn': WHATEVER THE INPUT: true; the input reads as it did. -/
def fnExactWithoutOnSpec : ChangeSpec := { name := "fnExactWithoutOn", fn := fun _ => fun
  | [d1, d2, d3] => { results := [.lit (.bool true)], args := [d1, d2, d3] }
  | _ => none }
def fnExactWithoutOnRow : OpenClaim := { program := "ytmlhmapibagmgaa", sum := "bbf4f2690ee44b078e06bc1385788148d669951add6e6f8a82390358f22af5bc", func := "loop.example/g00917/laws.FnExactWithoutOn", spec := "fnExactWithoutOn", unfollowed := true, recurses := true, apart := false }
def FnExactWithoutOnSaid : Prop := fnExactWithoutOnRow.holds Try.pinned (OpenSpec.ofChange fnExactWithoutOnSpec)

/-- ITS FALSE NEIGHBOUR: 'it returns false'. Refute it at one input. -/
def fnExactWithoutOnWrong : ChangeSpec := { name := "fnExactWithoutOn", fn := fun _ => fun
  | [d1, d2, d3] => { results := [.lit (.bool false)], args := [d1, d2, d3] }
  | _ => none }
def FnExactWithoutOnWrongFalsely : Prop := fnExactWithoutOnRow.holds Try.pinned (OpenSpec.ofChange fnExactWithoutOnWrong)

/-- 'laws.FnExactLastsFor': WHATEVER THE INPUT: true; the input reads as it did. -/
def fnExactLastsForSpec : ChangeSpec := { name := "fnExactLastsFor", fn := fun _ => fun
  | [d1, d2, d3] => { results := [.lit (.bool true)], args := [d1, d2, d3] }
  | _ => none }
def fnExactLastsForRow : OpenClaim := { program := "ytmlhmapibagmgaa", sum := "bbf4f2690ee44b078e06bc1385788148d669951add6e6f8a82390358f22af5bc", func := "loop.example/g00917/laws.FnExactLastsFor", spec := "fnExactLastsFor", unfollowed := true, recurses := true, apart := false }
def FnExactLastsForSaid : Prop := fnExactLastsForRow.holds Try.pinned (OpenSpec.ofChange fnExactLastsForSpec)

/-- ITS FALSE NEIGHBOUR: 'it returns false'. Refute it at one input. -/
def fnExactLastsForWrong : ChangeSpec := { name := "fnExactLastsFor", fn := fun _ => fun
  | [d1, d2, d3] => { results := [.lit (.bool false)], args := [d1, d2, d3] }
  | _ => none }
def FnExactLastsForWrongFalsely : Prop := fnExactLastsForRow.holds Try.pinned (OpenSpec.ofChange fnExactLastsForWrong)

/-- 'laws.FnExactTruckNeeded': WHATEVER THE INPUT: true; the input reads as it did. -/
def fnExactTruckNeededSpec : ChangeSpec := { name := "fnExactTruckNeeded", fn := fun _ => fun
  | [d1, d2, d3] => { results := [.lit (.bool true)], args := [d1, d2, d3] }
  | _ => none }
def fnExactTruckNeededRow : OpenClaim := { program := "ytmlhmapibagmgaa", sum := "bbf4f2690ee44b078e06bc1385788148d669951add6e6f8a82390358f22af5bc", func := "loop.example/g00917/laws.FnExactTruckNeeded", spec := "fnExactTruckNeeded", unfollowed := true, recurses := true, apart := false }
def FnExactTruckNeededSaid : Prop := fnExactTruckNeededRow.holds Try.pinned (OpenSpec.ofChange fnExactTruckNeededSpec)

/-- ITS FALSE NEIGHBOUR: 'it returns false'. Refute it at one input. -/
def fnExactTruckNeededWrong : ChangeSpec := { name := "fnExactTruckNeeded", fn := fun _ => fun
  | [d1, d2, d3] => { results := [.lit (.bool false)], args := [d1, d2, d3] }
  | _ => none }
def FnExactTruckNeededWrongFalsely : Prop := fnExactTruckNeededRow.holds Try.pinned (OpenSpec.ofChange fnExactTruckNeededWrong)

/-- 'laws.FnExactStocksAfter': WHATEVER THE INPUT: true; the input reads as it did. -/
def fnExactStocksAfterSpec : ChangeSpec := { name := "fnExactStocksAfter", fn := fun _ => fun
  | [d1, d2, d3] => { results := [.lit (.bool true)], args := [d1, d2, d3] }
  | _ => none }
def fnExactStocksAfterRow : OpenClaim := { program := "ytmlhmapibagmgaa", sum := "bbf4f2690ee44b078e06bc1385788148d669951add6e6f8a82390358f22af5bc", func := "loop.example/g00917/laws.FnExactStocksAfter", spec := "fnExactStocksAfter", unfollowed := true, recurses := true, apart := false }
def FnExactStocksAfterSaid : Prop := fnExactStocksAfterRow.holds Try.pinned (OpenSpec.ofChange fnExactStocksAfterSpec)

/-- ITS FALSE NEIGHBOUR: 'it returns false'. Refute it at one input. -/
def fnExactStocksAfterWrong : ChangeSpec := { name := "fnExactStocksAfter", fn := fun _ => fun
  | [d1, d2, d3] => { results := [.lit (.bool false)], args := [d1, d2, d3] }
  | _ => none }
def FnExactStocksAfterWrongFalsely : Prop := fnExactStocksAfterRow.holds Try.pinned (OpenSpec.ofChange fnExactStocksAfterWrong)

/-- 'laws.FnRations': WHATEVER THE INPUT: true; the input reads as it did. -/
def fnRationsSpec : ChangeSpec := { name := "fnRations", fn := fun _ => fun
  | [d] => { results := [.lit (.bool true)], args := [d] }
  | _ => none }
def fnRationsRow : OpenClaim := { program := "ytmlhmapibagmgaa", sum := "bbf4f2690ee44b078e06bc1385788148d669951add6e6f8a82390358f22af5bc", func := "loop.example/g00917/laws.FnRations", spec := "fnRations", unfollowed := true, recurses := true, apart := false }
def FnRationsSaid : Prop := fnRationsRow.holds Try.pinned (OpenSpec.ofChange fnRationsSpec)

/-- ITS FALSE NEIGHBOUR: 'it returns false'. Refute it at one input. -/
def fnRationsWrong : ChangeSpec := { name := "fnRations", fn := fun _ => fun
  | [d] => { results := [.lit (.bool false)], args := [d] }
  | _ => none }
def FnRationsWrongFalsely : Prop := fnRationsRow.holds Try.pinned (OpenSpec.ofChange fnRationsWrong)

/- THE SECOND FORM. 'bulk': how many values and letters a reading holds, each counted each time it is reached (what is shared counts as often as it is met; a slice's spare places count too). A statement '..UptoSaid' is the law's where the arguments, and the package variables that the reading takes, are together of bulk at most 1048576: NARROWER than '..Said'. Prove '..Said' where nothing that the law and all that it calls make is longer than what came in: it says more and counts as full. Else prove '..UptoSaid'. A law counts once. -/
mutual
def uptoBulk {H : Type} : DataW H → Nat
  | .lit (.string bytes) => bytes.length + 1
  | .lit _ => 1
  | .nil => 1
  | .ptr d => uptoBulk d + 1
  | .slice elems spare => uptoBulkAll elems + uptoBulkAll spare + 1
  | .agg parts => uptoBulkAll parts + 1
  | .iface _ d => uptoBulk d + 1
  | .map entries => uptoBulkEntries entries + 1
  | .held _ => 1
def uptoBulkAll {H : Type} : List (DataW H) → Nat
  | [] => 0
  | d :: r => uptoBulk d + uptoBulkAll r
def uptoBulkEntries {H : Type} : List (Lit × DataW H) → Nat
  | [] => 0
  | x :: r => uptoBulkEntry x + uptoBulkEntries r
def uptoBulkEntry {H : Type} : Lit × DataW H → Nat
  | (.string bytes, d) => bytes.length + uptoBulk d + 1
  | (_, d) => uptoBulk d + 1
 end
def uptoSmall : (H : Type) → List (DataW H) → Bool := fun _ ds => decide (uptoBulkAll ds ≤ 1048576)
def OpenSpec.upto (s : _root_.Go.ChangeSpec) : _root_.Go.OpenSpec := { _root_.Go.OpenSpec.ofChange s with cond := some uptoSmall }

/-- 'laws.FnExactAreCamps', WHERE WHAT IT READS IS OF BULK AT MOST 1048576: true; the input reads as it did. -/
def fnExactAreCampsUptoRow : OpenClaim := { program := "ytmlhmapibagmgaa", sum := "bbf4f2690ee44b078e06bc1385788148d669951add6e6f8a82390358f22af5bc", func := "loop.example/g00917/laws.FnExactAreCamps", spec := "fnExactAreCamps", unfollowed := true, recurses := true, apart := false, narrowed := true }
def FnExactAreCampsUptoSaid : Prop := fnExactAreCampsUptoRow.holds Try.pinned (OpenSpec.upto fnExactAreCampsSpec)

/-- 'laws.FnExactMoveRations', WHERE WHAT IT READS IS OF BULK AT MOST 1048576: true; the input reads as it did. -/
def fnExactMoveRationsUptoRow : OpenClaim := { program := "ytmlhmapibagmgaa", sum := "bbf4f2690ee44b078e06bc1385788148d669951add6e6f8a82390358f22af5bc", func := "loop.example/g00917/laws.FnExactMoveRations", spec := "fnExactMoveRations", unfollowed := true, recurses := true, apart := false, narrowed := true }
def FnExactMoveRationsUptoSaid : Prop := fnExactMoveRationsUptoRow.holds Try.pinned (OpenSpec.upto fnExactMoveRationsSpec)

/-- 'laws.FnExactAreTrucks', WHERE WHAT IT READS IS OF BULK AT MOST 1048576: true; the input reads as it did. -/
def fnExactAreTrucksUptoRow : OpenClaim := { program := "ytmlhmapibagmgaa", sum := "bbf4f2690ee44b078e06bc1385788148d669951add6e6f8a82390358f22af5bc", func := "loop.example/g00917/laws.FnExactAreTrucks", spec := "fnExactAreTrucks", unfollowed := true, recurses := true, apart := false, narrowed := true }
def FnExactAreTrucksUptoSaid : Prop := fnExactAreTrucksUptoRow.holds Try.pinned (OpenSpec.upto fnExactAreTrucksSpec)

/-- 'laws.FnExactShareRations', WHERE WHAT IT READS IS OF BULK AT MOST 1048576: true; the input reads as it did. -/
def fnExactShareRationsUptoRow : OpenClaim := { program := "ytmlhmapibagmgaa", sum := "bbf4f2690ee44b078e06bc1385788148d669951add6e6f8a82390358f22af5bc", func := "loop.example/g00917/laws.FnExactShareRations", spec := "fnExactShareRations", unfollowed := true, recurses := true, apart := false, narrowed := true }
def FnExactShareRationsUptoSaid : Prop := fnExactShareRationsUptoRow.holds Try.pinned (OpenSpec.upto fnExactShareRationsSpec)

/-- 'laws.FnExactWithoutOn', WHERE WHAT IT READS IS OF BULK AT MOST 1048576: true; the input reads as it did. -/
def fnExactWithoutOnUptoRow : OpenClaim := { program := "ytmlhmapibagmgaa", sum := "bbf4f2690ee44b078e06bc1385788148d669951add6e6f8a82390358f22af5bc", func := "loop.example/g00917/laws.FnExactWithoutOn", spec := "fnExactWithoutOn", unfollowed := true, recurses := true, apart := false, narrowed := true }
def FnExactWithoutOnUptoSaid : Prop := fnExactWithoutOnUptoRow.holds Try.pinned (OpenSpec.upto fnExactWithoutOnSpec)

/-- 'laws.FnExactLastsFor', WHERE WHAT IT READS IS OF BULK AT MOST 1048576: true; the input reads as it did. -/
def fnExactLastsForUptoRow : OpenClaim := { program := "ytmlhmapibagmgaa", sum := "bbf4f2690ee44b078e06bc1385788148d669951add6e6f8a82390358f22af5bc", func := "loop.example/g00917/laws.FnExactLastsFor", spec := "fnExactLastsFor", unfollowed := true, recurses := true, apart := false, narrowed := true }
def FnExactLastsForUptoSaid : Prop := fnExactLastsForUptoRow.holds Try.pinned (OpenSpec.upto fnExactLastsForSpec)

/-- 'laws.FnExactTruckNeeded', WHERE WHAT IT READS IS OF BULK AT MOST 1048576: true; the input reads as it did. -/
def fnExactTruckNeededUptoRow : OpenClaim := { program := "ytmlhmapibagmgaa", sum := "bbf4f2690ee44b078e06bc1385788148d669951add6e6f8a82390358f22af5bc", func := "loop.example/g00917/laws.FnExactTruckNeeded", spec := "fnExactTruckNeeded", unfollowed := true, recurses := true, apart := false, narrowed := true }
def FnExactTruckNeededUptoSaid : Prop := fnExactTruckNeededUptoRow.holds Try.pinned (OpenSpec.upto fnExactTruckNeededSpec)

/-- 'laws.FnExactStocksAfter', WHERE WHAT IT READS IS OF BULK AT MOST 1048576: true; the input reads as it did. -/
def fnExactStocksAfterUptoRow : OpenClaim := { program := "ytmlhmapibagmgaa", sum := "bbf4f2690ee44b078e06bc1385788148d669951add6e6f8a82390358f22af5bc", func := "loop.example/g00917/laws.FnExactStocksAfter", spec := "fnExactStocksAfter", unfollowed := true, recurses := true, apart := false, narrowed := true }
def FnExactStocksAfterUptoSaid : Prop := fnExactStocksAfterUptoRow.holds Try.pinned (OpenSpec.upto fnExactStocksAfterSpec)

/-- 'laws.FnRations', WHERE WHAT IT READS IS OF BULK AT MOST 1048576: true; the input reads as it did. -/
def fnRationsUptoRow : OpenClaim := { program := "ytmlhmapibagmgaa", sum := "bbf4f2690ee44b078e06bc1385788148d669951add6e6f8a82390358f22af5bc", func := "loop.example/g00917/laws.FnRations", spec := "fnRations", unfollowed := true, recurses := true, apart := false, narrowed := true }
def FnRationsUptoSaid : Prop := fnRationsUptoRow.holds Try.pinned (OpenSpec.upto fnRationsSpec)

end Rows
end Go.Proofs.Ytmlhmapibagmgaa
