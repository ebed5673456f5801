/- strconv.Itoa by the kit's contract, as a contract of values. -/
import Derived.Test.YtnmkdilnblfdnaaDoorVau
import Derived.Test.YtnmkdilnblfdnaaDoorCt2
import Derived.Test.YtnmkdilnblfdnaaDoorCti
set_option linter.unusedVariables false
set_option linter.unusedSimpArgs false
set_option maxRecDepth 100000
set_option maxHeartbeats 4000000
namespace Go.Vs
open Go.Proofs Go.RowKit
attribute [local irreducible] exec vwp thenQ blkQ loopQ RetPost

theorem tab_pow (w : World) (h : TabsAt w) : Lib.TabIs Tryd.prog w "internal/strconv.uint64pow10" .u64 Lib.pow10Tab := by
  obtain ⟨hp, ⟨t, fr, h1⟩, h2⟩ := h
  have hg : Tryd.prog.globalNamed "internal/strconv.uint64pow10" = some 3 := by kernel_rfl
  have h3 := (h2 3 (by simp [tabG])).2
  rw [h1] at h3
  unfold Lib.TabIs World.var?
  rw [hg]
  simp only [Option.bind_some, h3]
theorem below_grown (w : World) (k : Nat) (os : Array Obj) : Below w.heap.size w (Sort.grow (w.drewN k) os) := by
  refine ⟨rfl, rfl, rfl, ?_, fun b hb => ?_⟩
  · simp [Sort.grow, World.drewN]
  · simp only [Sort.grow, World.drewN]
    exact Array.getElem?_append_left hb
theorem k_itoa0 (n : Nat) (hn : n < 10 ^ 18) : Con Tryd.prog 28 [.int .i64 (n : Int)] (.str (numT n)) := by
  refine con_lib (vs := #[.int .i64 (n : Int)]) ⟨_, Tryd.func28, by kernel_rfl, by kernel_rfl⟩ ?_ (fun t => ⟨rfl, rfl⟩) fun w hw => ?_
  · intro ρ w S M cargs h
    obtain ⟨h1, h2⟩ := h
    obtain ⟨c, hc, hr⟩ := h2 0 _ rfl
    have := rep_int.1 hr
    subst this
    apply Array.ext
    · simpa using h1
    · intro i hi1 hi2
      have hi : i = 0 := by simp at h1; omega
      subst hi
      obtain ⟨_, e⟩ := Array.getElem?_eq_some_iff.1 hc
      simpa using e
  · refine (Tryd.internal_strconv_Itoa (n : Int) aO aO w (tab_pow w hw)).mono ?_
    rintro e w' ⟨rfl, k, os, rfl⟩
    refine ⟨_, rfl, fun ρ S M => rep_str.2 ?_, below_grown w k os⟩
    have : Lib.itoa (n : Int) = Lib.decDigits n := by
      unfold Lib.itoa
      rw [if_neg aO]
      rfl
    rw [this]
    rfl
theorem itoaC : ItoaC := fun n hn => by
  have k := k_itoa0 n hn
  intro al
  refine contract_of hmix Tryd.func24 rfl (by kernel_rfl) (by kernel_rfl) (Nat.le_of_ble_eq_true rfl) (fun row h => by cases h) ?_
  repeat' (first
      | (refine g_exec ?_; first | (refine g_move ?_; refine x_moveO _ rfl ?_) | (refine g_assign ?_; refine x_assignO _ rfl ?_) | (refine g_call ?_; refine x_callG true (k) rfl rfl rfl aS rfl aH ?_; simp only [cl]) | (refine x_nil (hK _ _ (.inl rfl) ?_); clear hK K) | (refine x_nil (hK _ _ (.inr (by kernel_rfl)) ?_); clear hK K))
      | (refine g_code ?_; first | (refine v_seq ?_) | (refine v_region (fun K hK => ?_)) | (refine v_block ?_) | (refine v_skip ?_) | (refine v_ret ?_) | (refine v_exit ?_))
      | (refine q_then ?_) | (refine q_then_r ?_) | (refine q_then_e ?_) | (refine q_blk_n ?_) | (refine q_blk_r ?_) | (refine q_blk_e ?_) | (refine q_blk_o rfl ?_) | (refine q_loop_r ?_) | (refine q_loop_e ?_) | (refine ret_n ?_))
  all_goals exact ret_str rfl (lookE_ok rfl) rfl
theorem law_CampText (c : Camp) : Con Tryd.prog 3 [.agg c.pv] (.bool true) := law_FnExactCampText itoaC c
end Go.Vs
