/- HEIGHTS: what a law asks of them. -/
import Derived.Test.YtaidllndmhgnhaaVau
import Derived.Test.YtaidllndmhgnhaaVrTerrain
set_option linter.unusedVariables false
set_option linter.unusedSimpArgs false
set_option maxRecDepth 100000
set_option maxHeartbeats 4000000
namespace Go.Vs
open Go.Proofs
attribute [local irreducible] exec vwp thenQ blkQ loopQ RetPost

structure Heights where
  (terrain : Terrain)
  (metres : List Int)
  deriving DecidableEq
@[reducible] def Heights.pv (h : Heights) : List PV := [.int .i64 h.terrain.width, .int .i64 h.terrain.height, .list 1 (ints h.terrain.burn), .list 1 (ints h.metres)]
def Heights.size (h : Heights) : Nat := h.terrain.burn.length + h.metres.length
theorem con_szHeights (h : Heights) (n : Int) (hn : h.terrain.burn.length ≤ 9223372036854775807) (hm : h.metres.length ≤ 9223372036854775807) (h0 : 0 ≤ n ∧ n ≤ 1048576) :
    Con Try.prog 7 [.agg h.pv, .int .i64 n] (.int .i64 (if n - (h.terrain.burn.length + h.metres.length : Int) < 0 then -1 else n - (h.terrain.burn.length + h.metres.length : Int))) := by
  intro al
  refine contract_of hmix Try.func7 rfl (by kernel_rfl) (by kernel_rfl) (Nat.le_of_ble_eq_true rfl) (fun row h => by cases h) ?_
  have hty_f26_0 := ty_f26_0
  have hty_a24 := ty_a24
  have hty_f26_1 := ty_f26_1
  have hty_c22 := ty_c22
  have hty_u22 := ty_u22
  have hty_s22 := ty_s22
  have hl : (ints h.metres).length = h.metres.length := by simp
  have k := con_szTerrain h.terrain n hn h0
  by_cases hc : n - (h.terrain.burn.length : Int) < 0
  · rw [if_pos hc] at k
    repeat' (first
      | (refine g_exec ?_; first | (refine g_move ?_; refine x_moveO _ rfl ?_) | (refine g_assign ?_; refine x_assignO _ rfl ?_) | (refine g_bin ?_; first | (refine x_bin _ rfl rfl rfl ?_) | (refine x_strBin _ rfl rfl rfl ?_)) | (refine g_load ?_; first | (refine x_load_pc aA rfl ?_) | (refine x_load_oc _ aA rfl rfl aE rfl ?_) | (refine x_load_pa _ aA rfl aZ aL ?_) | (refine x_load_oa _ aA rfl rfl aE aZ aL ?_)) | (refine g_field ?_; first | (refine x_field_p _ aA rfl aL ?_) | (refine x_field_o _ aA rfl rfl (by simp only [lx, Nat.reduceAdd]; first | done | rfl) ?_)) | (refine g_call ?_; refine x_callG true (k) rfl rfl rfl aS rfl aH ?_; simp only [cl]) | (refine x_boxO _ _ rfl rfl rfl rfl ?_) | (refine x_nil (hK _ _ (.inl rfl) ?_); clear hK K) | (refine x_nil (hK _ _ (.inr (by kernel_rfl)) ?_); clear hK K))
      | (refine g_code ?_; first | (refine v_seq ?_) | (refine v_region (fun K hK => ?_)) | (refine v_block ?_) | (refine v_skip ?_) | (refine v_ret ?_) | (refine v_exit ?_) | (refine g_cond ?_; first | (refine v_cond_y rfl aD ?_) | (refine v_cond_n rfl aD ?_) | (refine v_condt rfl (fun h => ?_) (fun h => ?_) <;> (have h' := h; (try simp only [sx] at h')))))
      | (refine q_then ?_) | (refine q_then_r ?_) | (refine q_then_e ?_) | (refine q_blk_n ?_) | (refine q_blk_r ?_) | (refine q_blk_e ?_) | (refine q_blk_o rfl ?_) | (refine q_loop_r ?_) | (refine q_loop_e ?_) | (refine ret_n ?_))
    exact ret_int rfl (lookE_ok rfl) (by rw [if_pos aO])
  · rw [if_neg hc] at k
    have k2 := con_szIntS (ints h.metres) (n - h.terrain.burn.length) aO aO
    rw [hl] at k2
    by_cases hc2 : n - (h.terrain.burn.length : Int) - h.metres.length < 0
    · rw [if_pos hc2] at k2
      repeat' (first
      | (refine g_exec ?_; first | (refine g_move ?_; refine x_moveO _ rfl ?_) | (refine g_assign ?_; refine x_assignO _ rfl ?_) | (refine g_bin ?_; first | (refine x_bin _ rfl rfl rfl ?_) | (refine x_strBin _ rfl rfl rfl ?_)) | (refine g_load ?_; first | (refine x_load_pc aA rfl ?_) | (refine x_load_oc _ aA rfl rfl aE rfl ?_) | (refine x_load_pa _ aA rfl aZ aL ?_) | (refine x_load_oa _ aA rfl rfl aE aZ aL ?_)) | (refine g_field ?_; first | (refine x_field_p _ aA rfl aL ?_) | (refine x_field_o _ aA rfl rfl (by simp only [lx, Nat.reduceAdd]; first | done | rfl) ?_)) | (refine g_call ?_; first | (refine x_callG true (k) rfl rfl rfl aS rfl aH ?_; simp only [cl]) | (refine x_callG true (k2) rfl rfl rfl aS rfl aH ?_; simp only [cl])) | (refine x_boxO _ _ rfl rfl rfl rfl ?_) | (refine x_nil (hK _ _ (.inl rfl) ?_); clear hK K) | (refine x_nil (hK _ _ (.inr (by kernel_rfl)) ?_); clear hK K))
      | (refine g_code ?_; first | (refine v_seq ?_) | (refine v_region (fun K hK => ?_)) | (refine v_block ?_) | (refine v_skip ?_) | (refine v_ret ?_) | (refine v_exit ?_) | (refine g_cond ?_; first | (refine v_cond_y rfl aD ?_) | (refine v_cond_n rfl aD ?_) | (refine v_condt rfl (fun h => ?_) (fun h => ?_) <;> (have h' := h; (try simp only [sx] at h')))))
      | (refine q_then ?_) | (refine q_then_r ?_) | (refine q_then_e ?_) | (refine q_blk_n ?_) | (refine q_blk_r ?_) | (refine q_blk_e ?_) | (refine q_blk_o rfl ?_) | (refine q_loop_r ?_) | (refine q_loop_e ?_) | (refine ret_n ?_))
      exact ret_int rfl (lookE_ok rfl) (by rw [if_pos aO])
    · rw [if_neg hc2] at k2
      repeat' (first
      | (refine g_exec ?_; first | (refine g_move ?_; refine x_moveO _ rfl ?_) | (refine g_assign ?_; refine x_assignO _ rfl ?_) | (refine g_bin ?_; first | (refine x_bin _ rfl rfl rfl ?_) | (refine x_strBin _ rfl rfl rfl ?_)) | (refine g_load ?_; first | (refine x_load_pc aA rfl ?_) | (refine x_load_oc _ aA rfl rfl aE rfl ?_) | (refine x_load_pa _ aA rfl aZ aL ?_) | (refine x_load_oa _ aA rfl rfl aE aZ aL ?_)) | (refine g_field ?_; first | (refine x_field_p _ aA rfl aL ?_) | (refine x_field_o _ aA rfl rfl (by simp only [lx, Nat.reduceAdd]; first | done | rfl) ?_)) | (refine g_call ?_; first | (refine x_callG true (k) rfl rfl rfl aS rfl aH ?_; simp only [cl]) | (refine x_callG true (k2) rfl rfl rfl aS rfl aH ?_; simp only [cl])) | (refine x_boxO _ _ rfl rfl rfl rfl ?_) | (refine x_nil (hK _ _ (.inl rfl) ?_); clear hK K) | (refine x_nil (hK _ _ (.inr (by kernel_rfl)) ?_); clear hK K))
      | (refine g_code ?_; first | (refine v_seq ?_) | (refine v_region (fun K hK => ?_)) | (refine v_block ?_) | (refine v_skip ?_) | (refine v_ret ?_) | (refine v_exit ?_) | (refine g_cond ?_; first | (refine v_cond_y rfl aD ?_) | (refine v_cond_n rfl aD ?_) | (refine v_condt rfl (fun h => ?_) (fun h => ?_) <;> (have h' := h; (try simp only [sx] at h')))))
      | (refine q_then ?_) | (refine q_then_r ?_) | (refine q_then_e ?_) | (refine q_blk_n ?_) | (refine q_blk_r ?_) | (refine q_blk_e ?_) | (refine q_blk_o rfl ?_) | (refine q_loop_r ?_) | (refine q_loop_e ?_) | (refine ret_n ?_))
      exact ret_int rfl (lookE_ok rfl) (by rw [if_neg aO]; omega)
theorem con_toHeights (h : Heights) (hn : h.terrain.burn.length ≤ 1099511627776) (hm : h.metres.length ≤ 1099511627776) : Con Try.prog 9 [.agg h.pv] (.agg [.int .i64 h.terrain.width, .int .i64 h.terrain.height, .olist 3 1 (ints h.terrain.burn), .olist 3 1 (ints h.metres)]) := by
  intro al
  refine contract_of hmix Try.func9 rfl (by kernel_rfl) (by kernel_rfl) (Nat.le_of_ble_eq_true rfl) (fun row h => by cases h) ?_
  have hty_a32 := ty_a32
  have hty_z32 := ty_z32
  have hty_f26_0 := ty_f26_0
  have hty_a24 := ty_a24
  have hty_f32_0 := ty_f32_0
  have hty_t30 := ty_t30
  have hty_a30 := ty_a30
  have hty_f26_1 := ty_f26_1
  have hty_c22 := ty_c22
  have hty_u22 := ty_u22
  have hty_s22 := ty_s22
  have hty_f32_1 := ty_f32_1
  have hty_t22 := ty_t22
  have hty_t32 := ty_t32
  repeat' (first
      | (refine g_exec ?_; first | (refine g_load ?_; first | (refine x_load_pc aA rfl ?_) | (refine x_load_oc _ aA rfl rfl aE rfl ?_) | (refine x_load_pa _ aA rfl aZ aL ?_) | (refine x_load_oa _ aA rfl rfl aE aZ aL ?_)) | (refine g_field ?_; first | (refine x_field_p _ aA rfl aL ?_) | (refine x_field_o _ aA rfl rfl (by simp only [lx, Nat.reduceAdd]; first | done | rfl) ?_)) | (refine g_call ?_; first | (refine x_callG true (con_toTerrain h.terrain hn) rfl rfl rfl aS rfl aH ?_; simp only [cl]) | (refine x_callG true (con_toIntS h.metres hm) rfl rfl rfl aS rfl aH ?_; simp only [cl])) | (refine x_boxO _ _ rfl rfl rfl rfl ?_) | (refine x_alloc _ aA rfl ?_) | (refine x_allocF aA rfl ?_) | (refine x_storeO _ _ _ rfl rfl aE (by first | assumption | (exact TAgg.size aA)) rfl rfl rfl aZ rfl aL (by first | (first | (simp only [lx, Nat.reduceAdd]; first | done | rfl) | fail) | rfl) ?_) | (refine x_nil (hK _ _ (.inl rfl) ?_); clear hK K) | (refine x_nil (hK _ _ (.inr (by kernel_rfl)) ?_); clear hK K))
      | (refine g_code ?_; first | (refine v_seq ?_) | (refine v_region (fun K hK => ?_)) | (refine v_block ?_) | (refine v_skip ?_) | (refine v_ret ?_) | (refine v_exit ?_))
      | (refine q_then ?_) | (refine q_then_r ?_) | (refine q_then_e ?_) | (refine q_blk_n ?_) | (refine q_blk_r ?_) | (refine q_blk_e ?_) | (refine q_blk_o rfl ?_) | (refine q_loop_r ?_) | (refine q_loop_e ?_) | (refine ret_n ?_))
  (first | refine ret_T rfl rfl rfl (by first | exact trivial | (repeat' (first | exact trivial | refine ⟨by assumption, ?_⟩))) (by repeat' (first | exact trivial | refine ⟨by simp, ?_⟩)) ?_ | refine ret_A rfl rfl rfl (by first | exact trivial | (repeat' (first | exact trivial | refine ⟨by assumption, ?_⟩))) (by repeat' (first | exact trivial | refine ⟨by simp, ?_⟩)) ?_); (repeat' (first | exact et_end | exact el_end | refine et_int rfl ?_ ?_ | refine et_bool ?_ ?_ | refine et_str ?_ ?_ | refine et_list (by rfl) (by decide) rfl rfl ?_ ?_ ?_ ?_ | refine et_nil ?_ ?_ | refine et_agg ?_ ?_ | refine el_int rfl ?_ ?_ | refine el_bool ?_ ?_ | refine el_str ?_ ?_ | refine el_list (by rfl) (by decide) rfl rfl ?_ ?_ ?_ ?_ | refine el_nil ?_ ?_))
  · rfl
  · rfl
  · rfl
  · exact ints_flat _
  · rfl
  · rfl
  · exact ints_flat _
  · rfl
theorem con_eqHeights (a b : Heights) (hn : a.terrain.burn.length ≤ 1099511627776) (hm : a.metres.length ≤ 1099511627776) : Con Try.prog 12 [.agg a.pv, .agg b.pv] (.bool (decide (a = b))) := by
  intro al
  refine contract_of hmix Try.func12 rfl (by kernel_rfl) (by kernel_rfl) (Nat.le_of_ble_eq_true rfl) (fun row h => by cases h) ?_
  have hty_f32_0 := ty_f32_0
  have hty_a30 := ty_a30
  have hty_f32_1 := ty_f32_1
  have hty_c22 := ty_c22
  have hty_u22 := ty_u22
  have hty_s22 := ty_s22
  repeat' (first
      | (refine g_exec ?_; first | (refine g_assign ?_; refine x_assignO _ rfl ?_) | (refine g_un ?_; first | (refine x_not rfl ?_) | (refine x_neg rfl aO ?_)) | (refine g_load ?_; first | (refine x_load_pc aA rfl ?_) | (refine x_load_oc _ aA rfl rfl aE rfl ?_) | (refine x_load_pa _ aA rfl aZ aL ?_) | (refine x_load_oa _ aA rfl rfl aE aZ aL ?_)) | (refine g_field ?_; first | (refine x_field_p _ aA rfl aL ?_) | (refine x_field_o _ aA rfl rfl (by simp only [lx, Nat.reduceAdd]; first | done | rfl) ?_)) | (refine g_call ?_; first | (refine x_callG true (con_eqTerrain a.terrain b.terrain hn) rfl rfl rfl aS rfl aH ?_; simp only [cl]) | (refine x_callG true (con_eqIntS a.metres b.metres hm) rfl rfl rfl aS rfl aH ?_; simp only [cl])) | (refine x_boxO _ _ rfl rfl rfl rfl ?_) | (refine x_nil (hK _ _ (.inl rfl) ?_); clear hK K) | (refine x_nil (hK _ _ (.inr (by kernel_rfl)) ?_); clear hK K))
      | (refine g_code ?_; first | (refine v_seq ?_) | (refine v_region (fun K hK => ?_)) | (refine v_block ?_) | (refine v_skip ?_) | (refine v_ret ?_) | (refine v_exit ?_) | (refine g_cond ?_; first | (refine v_cond_y rfl aD ?_) | (refine v_cond_n rfl aD ?_) | (refine v_condt rfl (fun h => ?_) (fun h => ?_) <;> (have h' := h; (try simp only [sx] at h')))))
      | (refine q_then ?_) | (refine q_then_r ?_) | (refine q_then_e ?_) | (refine q_blk_n ?_) | (refine q_blk_r ?_) | (refine q_blk_e ?_) | (refine q_blk_o rfl ?_) | (refine q_loop_r ?_) | (refine q_loop_e ?_) | (refine ret_n ?_))
  all_goals (refine ret_bool rfl (lookE_ok rfl) ?_; cases a; cases b; simp_all)
theorem con_sameHeights (a : Heights) (hn : a.terrain.burn.length ≤ 1099511627776) (hm : a.metres.length ≤ 1099511627776) : Con Try.prog 12 [.agg a.pv, .agg a.pv] (.bool true) := by
  have := con_eqHeights a a hn hm
  simpa using this
theorem con_markHeights (h : Heights) (k : Int) (hn : h.terrain.burn.length ≤ 1099511627776) (hm : h.metres.length ≤ 1099511627776) (hk : 0 ≤ k ∧ k + h.terrain.burn.length ≤ 1099511627776) :
    ContractP Try.prog 13 true [.agg [.int .i64 h.terrain.width, .int .i64 h.terrain.height, .osl (io, 0) 0 h.terrain.burn.length, .osl (io, 1) 0 h.metres.length], .int .i64 k]
      [⟨3, 1, ints h.terrain.burn, false⟩, ⟨3, 1, ints h.metres, false⟩]
    (fun r' fin' => r' = .int .i64 (k + h.terrain.burn.length + h.metres.length) ∧ fin' = [ints (markI k h.terrain.burn.length), ints (markI (k + h.terrain.burn.length) h.metres.length)]) := by
  refine contract_of hmix Try.func13 rfl (by kernel_rfl) (by kernel_rfl) (Nat.le_of_ble_eq_true rfl) (fun row h => by (simp at h; first | (rcases h with rfl | rfl <;> exact .inl rfl) | (rcases h with rfl | rfl | rfl <;> exact .inl rfl))) ?_
  have hty_f32_0 := ty_f32_0
  have hty_a30 := ty_a30
  have hty_f32_1 := ty_f32_1
  have hty_c22 := ty_c22
  have hty_u22 := ty_u22
  have hty_s22 := ty_s22
  repeat' (first
      | (refine g_exec ?_; first | (refine g_move ?_; refine x_moveO _ rfl ?_) | (refine g_assign ?_; refine x_assignO _ rfl ?_) | (refine g_load ?_; first | (refine x_load_pc aA rfl ?_) | (refine x_load_oc _ aA rfl rfl aE rfl ?_) | (refine x_load_pa _ aA rfl aZ aL ?_) | (refine x_load_oa _ aA rfl rfl aE aZ aL ?_)) | (refine g_field ?_; first | (refine x_field_p _ aA rfl aL ?_) | (refine x_field_o _ aA rfl rfl (by simp only [lx, Nat.reduceAdd]; first | done | rfl) ?_)) | (refine g_call ?_; first | (refine x_callM (con_markTerrain h.terrain k hn aO) rfl rfl rfl rfl rfl rfl aS rfl rfl rfl ?_; simp only [cl]) | (refine x_callM (con_markIntS h.metres (k + h.terrain.burn.length) hm aO) rfl rfl rfl rfl rfl rfl aS rfl rfl rfl ?_; simp only [cl])) | (refine x_boxO _ _ rfl rfl rfl rfl ?_) | (refine x_nil (hK _ _ (.inl rfl) ?_); clear hK K) | (refine x_nil (hK _ _ (.inr (by kernel_rfl)) ?_); clear hK K))
      | (refine g_code ?_; first | (refine v_seq ?_) | (refine v_region (fun K hK => ?_)) | (refine v_block ?_) | (refine v_skip ?_) | (refine v_ret ?_) | (refine v_exit ?_))
      | (refine q_then ?_) | (refine q_then_r ?_) | (refine q_then_e ?_) | (refine q_blk_n ?_) | (refine q_blk_r ?_) | (refine q_blk_e ?_) | (refine q_blk_o rfl ?_) | (refine q_loop_r ?_) | (refine q_loop_e ?_) | (refine ret_n ?_))
  exact ret_ios rfl (lookE_ok rfl) rfl ⟨by simp [markI_len], by rfl, by simp [markI_len], by rfl, trivial⟩
end Go.Vs
