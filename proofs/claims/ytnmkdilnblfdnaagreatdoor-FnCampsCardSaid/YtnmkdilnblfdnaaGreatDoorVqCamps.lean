/- The tied card of FnCamps: the row is proved (VpCamps), its tie is the given one. -/
import Derived.Test.YtnmkdilnblfdnaaGreatDoorVau
import Derived.Test.YtnmkdilnblfdnaaGreatDoorVpCamps
import Derived.Test.YtnmkdilnblfdnaaGreatDoorTie
import Derived.Test.YtnmkdilnblfdnaaGreatDoorCards
import Derived.SevenTiedAt
set_option linter.unusedVariables false
namespace Go.Proofs.YtnmkdilnblfdnaaGreatDoor.FnCampsCardDone
open Go

theorem proved : Rows.FnCampsCardSaid :=
  Claim7.holds_tied_plain_at .later [] [.data, .data, .data, .data, .sentinel, .sentinel, .pinned] true (true, "9d3ccc54768d7f13d93b39095ffb74f50cbe7a58474b0d8c5f914ec585290799") true
    FnCampsDone.proved (fun _ h => by cases h) (by kernel_rfl) (fun _ h => by cases h) fnCamps_row_tie rfl ⟨rfl, rfl⟩ (by kernel_rfl) rfl
    (fun f fn hf hfn => by
      obtain rfl : f = 3 := Option.some.inj ((show Tryz.prog.funcNamed "loop.example/g00917/laws.FnCamps" = some 3 by kernel_rfl).symm.trans hf) |>.symm
      obtain rfl : fn = Tryz.f3 := (Option.some.inj (Tryz.func3.symm.trans hfn)).symm
      exact ⟨by kernel_rfl, fun j t ht => by
        rw [Tryz.params3] at ht
        have hm : t ∈ [22] := by simpa using Array.mem_of_getElem? ht
        have hall : ([22].all fun u => !Tryz.prog.wantsStandIn u) = true := by kernel_rfl
        exact (show Tryz.prog.wantsStandIn t = false by simpa using List.all_eq_true.1 hall t hm)⟩)
    (by kernel_rfl)
end Go.Proofs.YtnmkdilnblfdnaaGreatDoor.FnCampsCardDone
