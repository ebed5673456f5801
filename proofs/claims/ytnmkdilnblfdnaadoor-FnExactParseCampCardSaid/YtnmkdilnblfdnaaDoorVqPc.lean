/- The tied card of FnExactParseCamp: the row is proved (VpPc), its tie is the given one. -/
import Derived.Test.YtnmkdilnblfdnaaDoorVau
import Derived.Test.YtnmkdilnblfdnaaDoorVpPc
import Derived.Test.YtnmkdilnblfdnaaDoorTie
import Derived.Test.YtnmkdilnblfdnaaDoorCards
import Derived.SevenTiedAt
set_option linter.unusedVariables false
namespace Go.Proofs.YtnmkdilnblfdnaaDoor.FnExactParseCampCardDone
open Go

theorem proved : Rows.FnExactParseCampCardSaid :=
  Claim7.holds_tied_plain_at .later [] [.data, .data, .data, .data, .sentinel, .sentinel, .pinned] true (true, "333b381687bc61480019e295b572ea53a7ed75a43e3be44c65888b5166c82631") true
    FnExactParseCampDone.proved (fun _ h => by cases h) (by kernel_rfl) (fun _ h => by cases h) fnExactParseCamp_row_tie rfl ⟨rfl, rfl⟩ (by kernel_rfl) rfl
    (fun f fn hf hfn => by
      obtain rfl : f = 4 := Option.some.inj ((show Tryd.prog.funcNamed "loop.example/g00917/laws.FnExactParseCamp" = some 4 by kernel_rfl).symm.trans hf) |>.symm
      obtain rfl : fn = Tryd.f4 := (Option.some.inj (Tryd.func4.symm.trans hfn)).symm
      exact ⟨by kernel_rfl, fun j t ht => by
        rw [Tryd.params4] at ht
        have hm : t ∈ [9] := by simpa using Array.mem_of_getElem? ht
        have hall : ([9].all fun u => !Tryd.prog.wantsStandIn u) = true := by kernel_rfl
        exact (show Tryd.prog.wantsStandIn t = false by simpa using List.all_eq_true.1 hall t hm)⟩)
    (by kernel_rfl)
end Go.Proofs.YtnmkdilnblfdnaaDoor.FnExactParseCampCardDone
