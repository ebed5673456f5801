/- The law FnExactBestProtection, its walk: whatever the arguments, it returns true. -/
import Derived.Test.YtdpgjihgfhefeaaVau
import Derived.Test.YtdpgjihgfhefeaaVm6
set_option linter.unusedVariables false
set_option linter.unusedSimpArgs false
set_option maxRecDepth 100000
set_option maxHeartbeats 4000000
namespace Go.Vs
open Go.Proofs
attribute [local irreducible] exec vwp thenQ blkQ loopQ RetPost

theorem law_FnExactBestProtection (xs : List Asset) (ys : List Scene) (g_xs : xs.length ≤ 9223372036854775807) (n_xs : ∀ a ∈ xs, a.name.size ≤ 9223372036854775807) (g_ys : ys.length ≤ 9223372036854775807) (n_ys : ∀ a ∈ ys, a.burned.length ≤ 9223372036854775807) : Con Try.prog 5 [.list 4 (xs.map Asset.pv), .list 2 (ys.map Scene.pv)] (.bool true) := by
  intro al
  refine contract_of hmix Try.func5 rfl (by kernel_rfl) (by kernel_rfl) (Nat.le_of_ble_eq_true rfl) (fun row h => by cases h) ?_
  have hty_u44 := ty_u44
  have hty_s44 := ty_s44
  have hty_u45 := ty_u45
  have hty_s45 := ty_s45
  have hty_u24 := ty_u24
  have hty_s24 := ty_s24
  have hty_u25 := ty_u25
  have hty_s25 := ty_s25
  have hty_u4 := ty_u4
  have hl_xs : (xs.map Asset.pv).length = xs.length := by simp
  have hl_ys : (ys.map Scene.pv).length = ys.length := by simp
  have z_xs := con_szAssetS xs (1048576) g_xs n_xs aO
  have p_xs := (szA_ge xs).1
  by_cases q_xs : szA xs ≤ 1048576
  · rw [if_neg aO] at z_xs
    have e_xs : xs.length ≤ 1099511627776 := by omega
    have m_xs : ∀ a ∈ xs, a.name.size ≤ 1099511627776 := fun a h => by have := (szA_ge xs).2 a h; omega
    have z_ys := con_szSceneS ys (1048576 - szA xs) g_ys n_ys aO
    have p_ys := (szS_ge ys).1
    by_cases q_ys : szS ys ≤ 1048576 - szA xs
    · rw [if_neg aO] at z_ys
      have e_ys : ys.length ≤ 1099511627776 := by omega
      have m_ys : ∀ a ∈ ys, a.burned.length ≤ 1099511627776 := fun a h => by have := (szS_ge ys).2 a h; omega
      repeat' (first
      | (refine g_exec ?_; first | (refine g_move ?_; refine x_moveO _ rfl ?_) | (refine g_assign ?_; refine x_assignO _ rfl ?_) | (refine g_bin ?_; first | (refine x_bin _ rfl rfl rfl ?_) | (refine x_boolNe aA rfl rfl ?_) | (refine x_strBin _ rfl rfl rfl ?_)) | (refine g_un ?_; first | (refine x_not rfl ?_) | (refine x_neg rfl aO ?_)) | (refine g_pick ?_; first | (refine x_pick_b rfl aD rfl ?_) | (refine x_pick_c rfl aD ?_) | (refine x_pick_a rfl aD ?_) | (refine x_pick_d rfl aD rfl ?_)) | (refine g_guard ?_; first | (refine x_gyes rfl rfl aD ?_) | (refine x_gno rfl rfl aD ?_) | (refine x_gun rfl rfl ?_) | (refine x_gsplit rfl rfl (fun h => ?_) (fun h => ?_) <;> (have h' := h; (try simp only [sx] at h')))) | (refine g_call ?_; first | (refine x_callG true (z_xs) rfl rfl rfl aS rfl aH ?_; simp only [cl]) | (refine x_callG true (z_ys) rfl rfl rfl aS rfl aH ?_; simp only [cl]) | (refine x_callG true (con_toAssetS xs e_xs) rfl rfl rfl aS rfl aH ?_; simp only [cl]) | (refine x_callG true (con_sameAssetS xs e_xs) rfl rfl rfl aS rfl aH ?_; simp only [cl]) | (refine x_callA true (con_toSceneS ys e_ys m_ys) rfl rfl rfl rfl rfl aS rfl aH ?_; simp only [cl]) | (refine x_callG true (con_sameSceneS ys e_ys m_ys) rfl rfl rfl aS rfl aH ?_; simp only [cl]) | (refine x_callG true ((k_sBestP xs ys ⟨e_xs, m_xs, e_ys, m_ys⟩)) rfl rfl rfl aS rfl aH ?_; simp only [cl]) | (refine x_callG true ((k_iBestP xs ys ⟨e_xs, m_xs, e_ys, m_ys⟩)) rfl rfl rfl aS rfl aH ?_; simp only [cl])) | (refine x_extract _ rfl rfl ?_) | (refine x_nil (hK _ _ (.inl rfl) ?_); clear hK K) | (refine x_nil (hK _ _ (.inr (by kernel_rfl)) ?_); clear hK K))
      | (refine g_code ?_; first | (refine v_seq ?_) | (refine v_region (fun K hK => ?_)) | (refine v_block ?_) | (refine v_skip ?_) | (refine v_ret ?_) | (refine v_exit ?_) | (refine g_cond ?_; first | (refine v_cond_y rfl aD ?_) | (refine v_cond_n rfl aD ?_) | (refine v_condt rfl (fun h => ?_) (fun h => ?_) <;> (have h' := h; (try simp only [sx] at h')))))
      | (refine q_then ?_) | (refine q_then_r ?_) | (refine q_then_e ?_) | (refine q_blk_n ?_) | (refine q_blk_r ?_) | (refine q_blk_e ?_) | (refine q_blk_o rfl ?_) | (refine q_loop_r ?_) | (refine q_loop_e ?_) | (refine ret_n ?_))
      all_goals try (exfalso; first | (exact absurd trivial aA) | (simp at *; done))
      all_goals exact ret_bool rfl (lookE_ok rfl) rfl
    · rw [if_pos aO] at z_ys
      repeat' (first
      | (refine g_exec ?_; first | (refine g_move ?_; refine x_moveO _ rfl ?_) | (refine g_assign ?_; refine x_assignO _ rfl ?_) | (refine g_bin ?_; first | (refine x_bin _ rfl rfl rfl ?_) | (refine x_boolNe aA rfl rfl ?_) | (refine x_strBin _ rfl rfl rfl ?_)) | (refine g_un ?_; first | (refine x_not rfl ?_) | (refine x_neg rfl aO ?_)) | (refine g_pick ?_; first | (refine x_pick_b rfl aD rfl ?_) | (refine x_pick_c rfl aD ?_) | (refine x_pick_a rfl aD ?_) | (refine x_pick_d rfl aD rfl ?_)) | (refine g_guard ?_; first | (refine x_gyes rfl rfl aD ?_) | (refine x_gno rfl rfl aD ?_) | (refine x_gun rfl rfl ?_) | (refine x_gsplit rfl rfl (fun h => ?_) (fun h => ?_) <;> (have h' := h; (try simp only [sx] at h')))) | (refine g_call ?_; first | (refine x_callG true (z_xs) rfl rfl rfl aS rfl aH ?_; simp only [cl]) | (refine x_callG true (z_ys) rfl rfl rfl aS rfl aH ?_; simp only [cl])) | (refine x_extract _ rfl rfl ?_) | (refine x_nil (hK _ _ (.inl rfl) ?_); clear hK K) | (refine x_nil (hK _ _ (.inr (by kernel_rfl)) ?_); clear hK K))
      | (refine g_code ?_; first | (refine v_seq ?_) | (refine v_region (fun K hK => ?_)) | (refine v_block ?_) | (refine v_skip ?_) | (refine v_ret ?_) | (refine v_exit ?_) | (refine g_cond ?_; first | (refine v_cond_y rfl aD ?_) | (refine v_cond_n rfl aD ?_) | (refine v_condt rfl (fun h => ?_) (fun h => ?_) <;> (have h' := h; (try simp only [sx] at h')))))
      | (refine q_then ?_) | (refine q_then_r ?_) | (refine q_then_e ?_) | (refine q_blk_n ?_) | (refine q_blk_r ?_) | (refine q_blk_e ?_) | (refine q_blk_o rfl ?_) | (refine q_loop_r ?_) | (refine q_loop_e ?_) | (refine ret_n ?_))
      all_goals exact ret_bool rfl (lookE_ok rfl) rfl
  · rw [if_pos aO] at z_xs
    repeat' (first
      | (refine g_exec ?_; first | (refine g_move ?_; refine x_moveO _ rfl ?_) | (refine g_assign ?_; refine x_assignO _ rfl ?_) | (refine g_bin ?_; first | (refine x_bin _ rfl rfl rfl ?_) | (refine x_boolNe aA rfl rfl ?_) | (refine x_strBin _ rfl rfl rfl ?_)) | (refine g_un ?_; first | (refine x_not rfl ?_) | (refine x_neg rfl aO ?_)) | (refine g_pick ?_; first | (refine x_pick_b rfl aD rfl ?_) | (refine x_pick_c rfl aD ?_) | (refine x_pick_a rfl aD ?_) | (refine x_pick_d rfl aD rfl ?_)) | (refine g_guard ?_; first | (refine x_gyes rfl rfl aD ?_) | (refine x_gno rfl rfl aD ?_) | (refine x_gun rfl rfl ?_) | (refine x_gsplit rfl rfl (fun h => ?_) (fun h => ?_) <;> (have h' := h; (try simp only [sx] at h')))) | (refine g_call ?_; refine x_callG true (z_xs) rfl rfl rfl aS rfl aH ?_; simp only [cl]) | (refine x_extract _ rfl rfl ?_) | (refine x_nil (hK _ _ (.inl rfl) ?_); clear hK K) | (refine x_nil (hK _ _ (.inr (by kernel_rfl)) ?_); clear hK K))
      | (refine g_code ?_; first | (refine v_seq ?_) | (refine v_region (fun K hK => ?_)) | (refine v_block ?_) | (refine v_skip ?_) | (refine v_ret ?_) | (refine v_exit ?_) | (refine g_cond ?_; first | (refine v_cond_y rfl aD ?_) | (refine v_cond_n rfl aD ?_) | (refine v_condt rfl (fun h => ?_) (fun h => ?_) <;> (have h' := h; (try simp only [sx] at h')))))
      | (refine q_then ?_) | (refine q_then_r ?_) | (refine q_then_e ?_) | (refine q_blk_n ?_) | (refine q_blk_r ?_) | (refine q_blk_e ?_) | (refine q_blk_o rfl ?_) | (refine q_loop_r ?_) | (refine q_loop_e ?_) | (refine ret_n ?_))
    all_goals exact ret_bool rfl (lookE_ok rfl) rfl
end Go.Vs
