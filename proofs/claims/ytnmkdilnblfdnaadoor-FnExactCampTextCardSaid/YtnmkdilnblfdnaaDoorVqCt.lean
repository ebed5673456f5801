/- The tied card of FnExactCampText: the row is proved (VpCt), its tie is the given one. -/
import Derived.Test.YtnmkdilnblfdnaaDoorVau
import Derived.Test.YtnmkdilnblfdnaaDoorVpCt
import Derived.Test.YtnmkdilnblfdnaaDoorTie
import Derived.Test.YtnmkdilnblfdnaaDoorCards
import Derived.SevenTiedAt
set_option linter.unusedVariables false
namespace Go.Proofs.YtnmkdilnblfdnaaDoor.FnExactCampTextCardDone
open Go

theorem proved : Rows.FnExactCampTextCardSaid :=
  Claim7.holds_tied_plain_at .later [] [.data, .data, .data] true (true, "333b381687bc61480019e295b572ea53a7ed75a43e3be44c65888b5166c82631") true
    FnExactCampTextDone.proved (fun _ h => by cases h) (by kernel_rfl) (fun _ h => by cases h) fnExactCampText_row_tie rfl ⟨rfl, rfl⟩ (by kernel_rfl) rfl
    (fun f fn hf hfn => by
      obtain rfl : f = 3 := Option.some.inj ((show Tryd.prog.funcNamed "loop.example/g00917/laws.FnExactCampText" = some 3 by kernel_rfl).symm.trans hf) |>.symm
      obtain rfl : fn = Tryd.f3 := (Option.some.inj (Tryd.func3.symm.trans hfn)).symm
      exact ⟨by kernel_rfl, fun j t ht => by
        rw [Tryd.params3] at ht
        have hm : t ∈ [23] := by simpa using Array.mem_of_getElem? ht
        have hall : ([23].all fun u => !Tryd.prog.wantsStandIn u) = true := by kernel_rfl
        exact (show Tryd.prog.wantsStandIn t = false by simpa using List.all_eq_true.1 hall t hm)⟩)
    (by kernel_rfl)
end Go.Proofs.YtnmkdilnblfdnaaDoor.FnExactCampTextCardDone
