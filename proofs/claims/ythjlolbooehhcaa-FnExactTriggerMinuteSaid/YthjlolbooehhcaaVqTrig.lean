/- The law FnExactTriggerMinute, its walk: whatever the arguments, it returns true. -/
import Derived.Test.YthjlolbooehhcaaVau
import Derived.Test.YthjlolbooehhcaaEw11
set_option linter.unusedVariables false
set_option linter.unusedSimpArgs false
set_option maxRecDepth 100000
set_option maxHeartbeats 4000000
namespace Go.Vs
open Go.Proofs
attribute [local irreducible] exec vwp thenQ blkQ loopQ RetPost

theorem law_FnExactTriggerMinute (n : Int) (rs : List Road) (gs : List Group) (ss : List Shelter) (r_n : -9223372036854775808 ≤ n ∧ n ≤ 9223372036854775807) (g_rs : rs.length ≤ 9223372036854775807) (g_gs : gs.length ≤ 9223372036854775807) (g_ss : ss.length ≤ 9223372036854775807) : Con Try.prog 8 [.int .i64 n, .list 4 (rs.map Road.pv), .list 3 (gs.map Group.pv), .list 2 (ss.map Shelter.pv)] (.bool true) := by
  intro al
  refine contract_of hmix Try.func8 rfl (by kernel_rfl) (by kernel_rfl) (Nat.le_of_ble_eq_true rfl) (fun row h => by cases h) ?_
  have hty_u34 := ty_u34
  have hty_s34 := ty_s34
  have hty_u35 := ty_u35
  have hty_s35 := ty_s35
  have hty_u36 := ty_u36
  have hty_s36 := ty_s36
  have hty_u41 := ty_u41
  have hty_s41 := ty_s41
  have hty_u43 := ty_u43
  have hty_s43 := ty_s43
  have hty_u45 := ty_u45
  have hty_s45 := ty_s45
  have hty_u4 := ty_u4
  have hl_rs : (rs.map Road.pv).length = rs.length := by simp
  have hl_gs : (gs.map Group.pv).length = gs.length := by simp
  have hl_ss : (ss.map Shelter.pv).length = ss.length := by simp
  have z_rs := con_szRoadS (rs.map Road.pv) (1048576) aO aO
  by_cases q_rs : (rs.length : Int) ≤ 1048576
  · rw [if_neg aO] at z_rs
    have e_rs : rs.length ≤ 1099511627776 := by omega
    have z_gs := con_szGroupS (gs.map Group.pv) (1048576 - ((rs.map Road.pv).length : Int)) aO aO
    by_cases q_gs : (gs.length : Int) ≤ 1048576 - ((rs.map Road.pv).length : Int)
    · rw [if_neg aO] at z_gs
      have e_gs : gs.length ≤ 1099511627776 := by omega
      have z_ss := con_szShelterS (ss.map Shelter.pv) (1048576 - ((rs.map Road.pv).length : Int) - ((gs.map Group.pv).length : Int)) aO aO
      by_cases q_ss : (ss.length : Int) ≤ 1048576 - ((rs.map Road.pv).length : Int) - ((gs.map Group.pv).length : Int)
      · rw [if_neg aO] at z_ss
        have e_ss : ss.length ≤ 1099511627776 := by omega
        repeat' (first
      | (refine g_exec ?_; first | (refine g_move ?_; refine x_moveO _ rfl ?_) | (refine g_assign ?_; refine x_assignO _ rfl ?_) | (refine g_bin ?_; first | (refine x_bin _ rfl rfl rfl ?_) | (refine x_boolNe aA rfl rfl ?_) | (refine x_strBin _ rfl rfl rfl ?_)) | (refine g_un ?_; first | (refine x_not rfl ?_) | (refine x_neg rfl aO ?_)) | (refine g_pick ?_; first | (refine x_pick_b rfl aD rfl ?_) | (refine x_pick_c rfl aD ?_) | (refine x_pick_a rfl aD ?_) | (refine x_pick_d rfl aD rfl ?_)) | (refine g_guard ?_; first | (refine x_gyes rfl rfl aD ?_) | (refine x_gno rfl rfl aD ?_) | (refine x_gun rfl rfl ?_) | (refine x_gsplit rfl rfl (fun h => ?_) (fun h => ?_) <;> (have h' := h; (try simp only [sx] at h')))) | (refine g_call ?_; first | (refine x_callG true (z_rs) rfl rfl rfl aS rfl aH ?_; simp only [cl]) | (refine x_callG true (z_gs) rfl rfl rfl aS rfl aH ?_; simp only [cl]) | (refine x_callG true (z_ss) rfl rfl rfl aS rfl aH ?_; simp only [cl]) | (refine x_callG true (con_toRoadS rs e_rs) rfl rfl rfl aS rfl aH ?_; simp only [cl]) | (refine x_callG true (con_sameRoadS rs e_rs) rfl rfl rfl aS rfl aH ?_; simp only [cl]) | (refine x_callG true (con_toGroupS gs e_gs) rfl rfl rfl aS rfl aH ?_; simp only [cl]) | (refine x_callG true (con_sameGroupS gs e_gs) rfl rfl rfl aS rfl aH ?_; simp only [cl]) | (refine x_callG true (con_toShelterS ss e_ss) rfl rfl rfl aS rfl aH ?_; simp only [cl]) | (refine x_callG true (con_sameShelterS ss e_ss) rfl rfl rfl aS rfl aH ?_; simp only [cl]) | (refine x_callG true ((k_sTrig ⟨n, rs, gs, ss⟩ ⟨e_rs, e_gs, e_ss⟩)) rfl rfl rfl aS rfl aH ?_; simp only [cl]) | (refine x_callG true ((k_iTrig ⟨n, rs, gs, ss⟩ ⟨e_rs, e_gs, e_ss⟩ r_n)) rfl rfl rfl aS rfl aH ?_; simp only [cl])) | (refine x_extract _ rfl rfl ?_) | (refine x_nil (hK _ _ (.inl rfl) ?_); clear hK K) | (refine x_nil (hK _ _ (.inr (by kernel_rfl)) ?_); clear hK K))
      | (refine g_code ?_; first | (refine v_seq ?_) | (refine v_region (fun K hK => ?_)) | (refine v_block ?_) | (refine v_skip ?_) | (refine v_ret ?_) | (refine v_exit ?_) | (refine g_cond ?_; first | (refine v_cond_y rfl aD ?_) | (refine v_cond_n rfl aD ?_) | (refine v_condt rfl (fun h => ?_) (fun h => ?_) <;> (have h' := h; (try simp only [sx] at h')))))
      | (refine q_then ?_) | (refine q_then_r ?_) | (refine q_then_e ?_) | (refine q_blk_n ?_) | (refine q_blk_r ?_) | (refine q_blk_e ?_) | (refine q_blk_o rfl ?_) | (refine q_loop_r ?_) | (refine q_loop_e ?_) | (refine ret_n ?_))
        all_goals try (exfalso; first | (exact absurd trivial aA) | (simp at *; done))
        all_goals exact ret_bool rfl (lookE_ok rfl) rfl
      · rw [if_pos aO] at z_ss
        repeat' (first
      | (refine g_exec ?_; first | (refine g_move ?_; refine x_moveO _ rfl ?_) | (refine g_assign ?_; refine x_assignO _ rfl ?_) | (refine g_bin ?_; first | (refine x_bin _ rfl rfl rfl ?_) | (refine x_boolNe aA rfl rfl ?_) | (refine x_strBin _ rfl rfl rfl ?_)) | (refine g_un ?_; first | (refine x_not rfl ?_) | (refine x_neg rfl aO ?_)) | (refine g_pick ?_; first | (refine x_pick_b rfl aD rfl ?_) | (refine x_pick_c rfl aD ?_) | (refine x_pick_a rfl aD ?_) | (refine x_pick_d rfl aD rfl ?_)) | (refine g_guard ?_; first | (refine x_gyes rfl rfl aD ?_) | (refine x_gno rfl rfl aD ?_) | (refine x_gun rfl rfl ?_) | (refine x_gsplit rfl rfl (fun h => ?_) (fun h => ?_) <;> (have h' := h; (try simp only [sx] at h')))) | (refine g_call ?_; first | (refine x_callG true (z_rs) rfl rfl rfl aS rfl aH ?_; simp only [cl]) | (refine x_callG true (z_gs) rfl rfl rfl aS rfl aH ?_; simp only [cl]) | (refine x_callG true (z_ss) rfl rfl rfl aS rfl aH ?_; simp only [cl])) | (refine x_extract _ rfl rfl ?_) | (refine x_nil (hK _ _ (.inl rfl) ?_); clear hK K) | (refine x_nil (hK _ _ (.inr (by kernel_rfl)) ?_); clear hK K))
      | (refine g_code ?_; first | (refine v_seq ?_) | (refine v_region (fun K hK => ?_)) | (refine v_block ?_) | (refine v_skip ?_) | (refine v_ret ?_) | (refine v_exit ?_) | (refine g_cond ?_; first | (refine v_cond_y rfl aD ?_) | (refine v_cond_n rfl aD ?_) | (refine v_condt rfl (fun h => ?_) (fun h => ?_) <;> (have h' := h; (try simp only [sx] at h')))))
      | (refine q_then ?_) | (refine q_then_r ?_) | (refine q_then_e ?_) | (refine q_blk_n ?_) | (refine q_blk_r ?_) | (refine q_blk_e ?_) | (refine q_blk_o rfl ?_) | (refine q_loop_r ?_) | (refine q_loop_e ?_) | (refine ret_n ?_))
        all_goals exact ret_bool rfl (lookE_ok rfl) rfl
    · rw [if_pos aO] at z_gs
      repeat' (first
      | (refine g_exec ?_; first | (refine g_move ?_; refine x_moveO _ rfl ?_) | (refine g_assign ?_; refine x_assignO _ rfl ?_) | (refine g_bin ?_; first | (refine x_bin _ rfl rfl rfl ?_) | (refine x_boolNe aA rfl rfl ?_) | (refine x_strBin _ rfl rfl rfl ?_)) | (refine g_un ?_; first | (refine x_not rfl ?_) | (refine x_neg rfl aO ?_)) | (refine g_pick ?_; first | (refine x_pick_b rfl aD rfl ?_) | (refine x_pick_c rfl aD ?_) | (refine x_pick_a rfl aD ?_) | (refine x_pick_d rfl aD rfl ?_)) | (refine g_guard ?_; first | (refine x_gyes rfl rfl aD ?_) | (refine x_gno rfl rfl aD ?_) | (refine x_gun rfl rfl ?_) | (refine x_gsplit rfl rfl (fun h => ?_) (fun h => ?_) <;> (have h' := h; (try simp only [sx] at h')))) | (refine g_call ?_; first | (refine x_callG true (z_rs) rfl rfl rfl aS rfl aH ?_; simp only [cl]) | (refine x_callG true (z_gs) rfl rfl rfl aS rfl aH ?_; simp only [cl])) | (refine x_extract _ rfl rfl ?_) | (refine x_nil (hK _ _ (.inl rfl) ?_); clear hK K) | (refine x_nil (hK _ _ (.inr (by kernel_rfl)) ?_); clear hK K))
      | (refine g_code ?_; first | (refine v_seq ?_) | (refine v_region (fun K hK => ?_)) | (refine v_block ?_) | (refine v_skip ?_) | (refine v_ret ?_) | (refine v_exit ?_) | (refine g_cond ?_; first | (refine v_cond_y rfl aD ?_) | (refine v_cond_n rfl aD ?_) | (refine v_condt rfl (fun h => ?_) (fun h => ?_) <;> (have h' := h; (try simp only [sx] at h')))))
      | (refine q_then ?_) | (refine q_then_r ?_) | (refine q_then_e ?_) | (refine q_blk_n ?_) | (refine q_blk_r ?_) | (refine q_blk_e ?_) | (refine q_blk_o rfl ?_) | (refine q_loop_r ?_) | (refine q_loop_e ?_) | (refine ret_n ?_))
      all_goals exact ret_bool rfl (lookE_ok rfl) rfl
  · rw [if_pos aO] at z_rs
    repeat' (first
      | (refine g_exec ?_; first | (refine g_move ?_; refine x_moveO _ rfl ?_) | (refine g_assign ?_; refine x_assignO _ rfl ?_) | (refine g_bin ?_; first | (refine x_bin _ rfl rfl rfl ?_) | (refine x_boolNe aA rfl rfl ?_) | (refine x_strBin _ rfl rfl rfl ?_)) | (refine g_un ?_; first | (refine x_not rfl ?_) | (refine x_neg rfl aO ?_)) | (refine g_pick ?_; first | (refine x_pick_b rfl aD rfl ?_) | (refine x_pick_c rfl aD ?_) | (refine x_pick_a rfl aD ?_) | (refine x_pick_d rfl aD rfl ?_)) | (refine g_guard ?_; first | (refine x_gyes rfl rfl aD ?_) | (refine x_gno rfl rfl aD ?_) | (refine x_gun rfl rfl ?_) | (refine x_gsplit rfl rfl (fun h => ?_) (fun h => ?_) <;> (have h' := h; (try simp only [sx] at h')))) | (refine g_call ?_; refine x_callG true (z_rs) rfl rfl rfl aS rfl aH ?_; simp only [cl]) | (refine x_extract _ rfl rfl ?_) | (refine x_nil (hK _ _ (.inl rfl) ?_); clear hK K) | (refine x_nil (hK _ _ (.inr (by kernel_rfl)) ?_); clear hK K))
      | (refine g_code ?_; first | (refine v_seq ?_) | (refine v_region (fun K hK => ?_)) | (refine v_block ?_) | (refine v_skip ?_) | (refine v_ret ?_) | (refine v_exit ?_) | (refine g_cond ?_; first | (refine v_cond_y rfl aD ?_) | (refine v_cond_n rfl aD ?_) | (refine v_condt rfl (fun h => ?_) (fun h => ?_) <;> (have h' := h; (try simp only [sx] at h')))))
      | (refine q_then ?_) | (refine q_then_r ?_) | (refine q_then_e ?_) | (refine q_blk_n ?_) | (refine q_blk_r ?_) | (refine q_blk_e ?_) | (refine q_blk_o rfl ?_) | (refine q_loop_r ?_) | (refine q_loop_e ?_) | (refine ret_n ?_))
    all_goals exact ret_bool rfl (lookE_ok rfl) rfl
end Go.Vs
