/- SPREAD: arrivals, by the program. -/
import Derived.Test.YtfkhcoipoooccaaVa3
set_option linter.unusedVariables false
set_option linter.unusedSimpArgs false
set_option maxRecDepth 100000
set_option maxHeartbeats 4000000
namespace Go.Vs
open Go.Proofs
attribute [local irreducible] exec vwp thenQ blkQ loopQ RetPost

theorem k_work (t : Terrain) (a c : Int) (hg : GoodT t) (ha : IsCell t a) (hc : IsCell t c) : Con Try.prog 98 [.agg t.pv, .int .i64 a, .int .i64 c] (.int .i64 (wkF t a c)) := by
  intro al
  refine contract_of hmix Try.func98 rfl (by kernel_rfl) (by kernel_rfl) (Nat.le_of_ble_eq_true rfl) (fun row h => by cases h) ?_
  have hty_f29_2 := ty_f29_2
  have hty_c22 := ty_c22
  have hty_s22 := ty_s22
  have hty_c3 := ty_c3
  have hty_a29 := ty_a29
  have hl1 : (ints t.burn).length = t.burn.length := by simp
  have hw := hg.1.1
  have hx := ints_at (burn_at ha)
  have hy := ints_at (burn_at hc)
  have b1 := burn_bound hg ha
  have b2 := burn_bound hg hc
  have hca := ha
  have hcc := hc
  unfold IsCell at hca hcc
  have hlen := goodT_len hg
  by_cases h1 : a % t.width = c % t.width
  · repeat' (first
      | (refine g_exec ?_; first | (refine g_move ?_; refine x_moveO _ rfl ?_) | (refine g_assign ?_; refine x_assignO _ rfl ?_) | (refine g_bin ?_; first | (refine x_add rfl rfl (by omega) ?_) | (refine x_mul rfl rfl (by omega) ?_) | (refine x_bin _ rfl rfl rfl ?_) | (refine x_boolEq (by assumption) rfl rfl ?_) | (refine x_strBin _ rfl rfl rfl ?_)) | (refine g_load ?_; first | (refine x_load_pc (by assumption) rfl ?_) | (refine x_load_oc _ (by assumption) rfl rfl (by first | rfl | assumption | exact getSelf (by omega) | exact getNe (by omega) (by assumption)) rfl ?_) | (refine x_load_pa _ (by assumption) rfl (by first | (simp; done) | fail) (by (first | (simp only [lx, Nat.reduceAdd]; first | done | rfl) | fail)) ?_) | (refine x_load_oa _ (by assumption) rfl rfl (by first | rfl | assumption | exact getSelf (by omega) | exact getNe (by omega) (by assumption)) (by first | (simp; done) | fail) (by (first | (simp only [lx, Nat.reduceAdd]; first | done | rfl) | fail)) ?_)) | (refine g_field ?_; first | (refine x_field_p _ (by assumption) rfl (by (first | (simp only [lx, Nat.reduceAdd]; first | done | rfl) | fail)) ?_) | (refine x_field_o _ (by assumption) rfl rfl (by simp only [lx, Nat.reduceAdd]; first | done | rfl) ?_)) | (refine g_index ?_; first | (refine x_index_l _ (by assumption) rfl rfl (by omega) (by assumption) ?_) | (refine x_index_o _ (by assumption) rfl rfl rfl rfl (by omega) (by omega) (by first | (rw [Nat.zero_add, Int.toNat_natCast]) | (rw [Nat.zero_add]) | rfl) ?_)) | (refine g_pick ?_; first | (refine x_pick_b rfl (by first | rfl | assumption | (simp only [sx]; omega) | (simp; done) | fail) rfl ?_) | (refine x_pick_c rfl (by first | rfl | assumption | (simp only [sx]; omega) | (simp; done) | fail) ?_) | (refine x_pick_a rfl (by first | rfl | assumption | (simp only [sx]; omega) | (simp; done) | fail) ?_) | (refine x_pick_d rfl (by first | rfl | assumption | (simp only [sx]; omega) | (simp; done) | fail) rfl ?_)) | (refine g_guard ?_; first | (refine x_gyes rfl rfl (by first | rfl | assumption | (simp only [sx]; omega) | (simp; done) | fail) ?_) | (refine x_gno rfl rfl (by first | rfl | assumption | (simp only [sx]; omega) | (simp; done) | fail) ?_) | (refine x_gun rfl rfl ?_) | (refine x_gsplit rfl rfl (fun h => ?_) (fun h => ?_) <;> (have h' := h; (try simp only [sx] at h')))) | (refine g_call ?_; first | (refine x_callG true (k_column t a hw.1 (by omega)) rfl rfl rfl (by (repeat' (first | exact trivial | exact rfl | exact allR_ptrs _ | exact .inl rfl | exact sn_all rfl rfl rfl | exact sn_all rfl rfl (by first | omega | (simp; done) | fail) | exact sn_part rfl rfl (by first | (simp; done) | exact (takeAll (by assumption)).symm | exact (takeAll (by first | (simp; done) | omega | fail)).symm | (first | (simp only [lx, Nat.reduceAdd]; first | done | rfl) | fail) | fail) | refine sn_own rfl rfl rfl ?_ | exact List.length_map .. | refine ⟨?_, ?_⟩)); first | done | fail) rfl (by simp only [thaw, thawT, thaw1, thawL, Nat.zero_add, Nat.reduceAdd]; exact rfl) ?_; simp only [List.cons_append, List.nil_append, List.map_cons, List.map_nil]) | (refine x_callG true (k_column t c hw.1 (by omega)) rfl rfl rfl (by (repeat' (first | exact trivial | exact rfl | exact allR_ptrs _ | exact .inl rfl | exact sn_all rfl rfl rfl | exact sn_all rfl rfl (by first | omega | (simp; done) | fail) | exact sn_part rfl rfl (by first | (simp; done) | exact (takeAll (by assumption)).symm | exact (takeAll (by first | (simp; done) | omega | fail)).symm | (first | (simp only [lx, Nat.reduceAdd]; first | done | rfl) | fail) | fail) | refine sn_own rfl rfl rfl ?_ | exact List.length_map .. | refine ⟨?_, ?_⟩)); first | done | fail) rfl (by simp only [thaw, thawT, thaw1, thawL, Nat.zero_add, Nat.reduceAdd]; exact rfl) ?_; simp only [List.cons_append, List.nil_append, List.map_cons, List.map_nil]) | (refine x_callG true (k_row t a hw.1 (by omega)) rfl rfl rfl (by (repeat' (first | exact trivial | exact rfl | exact allR_ptrs _ | exact .inl rfl | exact sn_all rfl rfl rfl | exact sn_all rfl rfl (by first | omega | (simp; done) | fail) | exact sn_part rfl rfl (by first | (simp; done) | exact (takeAll (by assumption)).symm | exact (takeAll (by first | (simp; done) | omega | fail)).symm | (first | (simp only [lx, Nat.reduceAdd]; first | done | rfl) | fail) | fail) | refine sn_own rfl rfl rfl ?_ | exact List.length_map .. | refine ⟨?_, ?_⟩)); first | done | fail) rfl (by simp only [thaw, thawT, thaw1, thawL, Nat.zero_add, Nat.reduceAdd]; exact rfl) ?_; simp only [List.cons_append, List.nil_append, List.map_cons, List.map_nil]) | (refine x_callG true (k_row t c hw.1 (by omega)) rfl rfl rfl (by (repeat' (first | exact trivial | exact rfl | exact allR_ptrs _ | exact .inl rfl | exact sn_all rfl rfl rfl | exact sn_all rfl rfl (by first | omega | (simp; done) | fail) | exact sn_part rfl rfl (by first | (simp; done) | exact (takeAll (by assumption)).symm | exact (takeAll (by first | (simp; done) | omega | fail)).symm | (first | (simp only [lx, Nat.reduceAdd]; first | done | rfl) | fail) | fail) | refine sn_own rfl rfl rfl ?_ | exact List.length_map .. | refine ⟨?_, ?_⟩)); first | done | fail) rfl (by simp only [thaw, thawT, thaw1, thawL, Nat.zero_add, Nat.reduceAdd]; exact rfl) ?_; simp only [List.cons_append, List.nil_append, List.map_cons, List.map_nil])) | (refine x_boxO _ _ rfl rfl rfl rfl ?_) | (refine x_nil (hK _ _ (.inl rfl) ?_); clear hK K) | (refine x_nil (hK _ _ (.inr (by kernel_rfl)) ?_); clear hK K))
      | (refine g_code ?_; first | (refine v_seq ?_) | (refine v_region (fun K hK => ?_)) | (refine v_block ?_) | (refine v_skip ?_) | (refine v_ret ?_) | (refine v_exit ?_) | (refine g_cond ?_; first | (refine v_cond_y rfl (by first | rfl | assumption | (simp only [sx]; omega) | (simp; done) | fail) ?_) | (refine v_cond_n rfl (by first | rfl | assumption | (simp only [sx]; omega) | (simp; done) | fail) ?_) | (refine v_condt rfl (fun h => ?_) (fun h => ?_) <;> (have h' := h; (try simp only [sx] at h')))))
      | (refine q_then ?_) | (refine q_then_r ?_) | (refine q_then_e ?_) | (refine q_blk_n ?_) | (refine q_blk_r ?_) | (refine q_blk_e ?_) | (refine q_blk_o rfl ?_) | (refine q_loop_r ?_) | (refine q_loop_e ?_) | (refine ret_n ?_))
    all_goals first
      | (exfalso; omega)
      | (refine ret_int rfl (lookE_ok rfl) ?_
         simp only [wkF, colOf, rowOf]
         rw [if_pos (.inl h1)])
  · by_cases h2 : a / t.width = c / t.width
    · repeat' (first
      | (refine g_exec ?_; first | (refine g_move ?_; refine x_moveO _ rfl ?_) | (refine g_assign ?_; refine x_assignO _ rfl ?_) | (refine g_bin ?_; first | (refine x_add rfl rfl (by omega) ?_) | (refine x_mul rfl rfl (by omega) ?_) | (refine x_bin _ rfl rfl rfl ?_) | (refine x_boolEq (by assumption) rfl rfl ?_) | (refine x_strBin _ rfl rfl rfl ?_)) | (refine g_load ?_; first | (refine x_load_pc (by assumption) rfl ?_) | (refine x_load_oc _ (by assumption) rfl rfl (by first | rfl | assumption | exact getSelf (by omega) | exact getNe (by omega) (by assumption)) rfl ?_) | (refine x_load_pa _ (by assumption) rfl (by first | (simp; done) | fail) (by (first | (simp only [lx, Nat.reduceAdd]; first | done | rfl) | fail)) ?_) | (refine x_load_oa _ (by assumption) rfl rfl (by first | rfl | assumption | exact getSelf (by omega) | exact getNe (by omega) (by assumption)) (by first | (simp; done) | fail) (by (first | (simp only [lx, Nat.reduceAdd]; first | done | rfl) | fail)) ?_)) | (refine g_field ?_; first | (refine x_field_p _ (by assumption) rfl (by (first | (simp only [lx, Nat.reduceAdd]; first | done | rfl) | fail)) ?_) | (refine x_field_o _ (by assumption) rfl rfl (by simp only [lx, Nat.reduceAdd]; first | done | rfl) ?_)) | (refine g_index ?_; first | (refine x_index_l _ (by assumption) rfl rfl (by omega) (by assumption) ?_) | (refine x_index_o _ (by assumption) rfl rfl rfl rfl (by omega) (by omega) (by first | (rw [Nat.zero_add, Int.toNat_natCast]) | (rw [Nat.zero_add]) | rfl) ?_)) | (refine g_pick ?_; first | (refine x_pick_b rfl (by first | rfl | assumption | (simp only [sx]; omega) | (simp; done) | fail) rfl ?_) | (refine x_pick_c rfl (by first | rfl | assumption | (simp only [sx]; omega) | (simp; done) | fail) ?_) | (refine x_pick_a rfl (by first | rfl | assumption | (simp only [sx]; omega) | (simp; done) | fail) ?_) | (refine x_pick_d rfl (by first | rfl | assumption | (simp only [sx]; omega) | (simp; done) | fail) rfl ?_)) | (refine g_guard ?_; first | (refine x_gyes rfl rfl (by first | rfl | assumption | (simp only [sx]; omega) | (simp; done) | fail) ?_) | (refine x_gno rfl rfl (by first | rfl | assumption | (simp only [sx]; omega) | (simp; done) | fail) ?_) | (refine x_gun rfl rfl ?_) | (refine x_gsplit rfl rfl (fun h => ?_) (fun h => ?_) <;> (have h' := h; (try simp only [sx] at h')))) | (refine g_call ?_; first | (refine x_callG true (k_column t a hw.1 (by omega)) rfl rfl rfl (by (repeat' (first | exact trivial | exact rfl | exact allR_ptrs _ | exact .inl rfl | exact sn_all rfl rfl rfl | exact sn_all rfl rfl (by first | omega | (simp; done) | fail) | exact sn_part rfl rfl (by first | (simp; done) | exact (takeAll (by assumption)).symm | exact (takeAll (by first | (simp; done) | omega | fail)).symm | (first | (simp only [lx, Nat.reduceAdd]; first | done | rfl) | fail) | fail) | refine sn_own rfl rfl rfl ?_ | exact List.length_map .. | refine ⟨?_, ?_⟩)); first | done | fail) rfl (by simp only [thaw, thawT, thaw1, thawL, Nat.zero_add, Nat.reduceAdd]; exact rfl) ?_; simp only [List.cons_append, List.nil_append, List.map_cons, List.map_nil]) | (refine x_callG true (k_column t c hw.1 (by omega)) rfl rfl rfl (by (repeat' (first | exact trivial | exact rfl | exact allR_ptrs _ | exact .inl rfl | exact sn_all rfl rfl rfl | exact sn_all rfl rfl (by first | omega | (simp; done) | fail) | exact sn_part rfl rfl (by first | (simp; done) | exact (takeAll (by assumption)).symm | exact (takeAll (by first | (simp; done) | omega | fail)).symm | (first | (simp only [lx, Nat.reduceAdd]; first | done | rfl) | fail) | fail) | refine sn_own rfl rfl rfl ?_ | exact List.length_map .. | refine ⟨?_, ?_⟩)); first | done | fail) rfl (by simp only [thaw, thawT, thaw1, thawL, Nat.zero_add, Nat.reduceAdd]; exact rfl) ?_; simp only [List.cons_append, List.nil_append, List.map_cons, List.map_nil]) | (refine x_callG true (k_row t a hw.1 (by omega)) rfl rfl rfl (by (repeat' (first | exact trivial | exact rfl | exact allR_ptrs _ | exact .inl rfl | exact sn_all rfl rfl rfl | exact sn_all rfl rfl (by first | omega | (simp; done) | fail) | exact sn_part rfl rfl (by first | (simp; done) | exact (takeAll (by assumption)).symm | exact (takeAll (by first | (simp; done) | omega | fail)).symm | (first | (simp only [lx, Nat.reduceAdd]; first | done | rfl) | fail) | fail) | refine sn_own rfl rfl rfl ?_ | exact List.length_map .. | refine ⟨?_, ?_⟩)); first | done | fail) rfl (by simp only [thaw, thawT, thaw1, thawL, Nat.zero_add, Nat.reduceAdd]; exact rfl) ?_; simp only [List.cons_append, List.nil_append, List.map_cons, List.map_nil]) | (refine x_callG true (k_row t c hw.1 (by omega)) rfl rfl rfl (by (repeat' (first | exact trivial | exact rfl | exact allR_ptrs _ | exact .inl rfl | exact sn_all rfl rfl rfl | exact sn_all rfl rfl (by first | omega | (simp; done) | fail) | exact sn_part rfl rfl (by first | (simp; done) | exact (takeAll (by assumption)).symm | exact (takeAll (by first | (simp; done) | omega | fail)).symm | (first | (simp only [lx, Nat.reduceAdd]; first | done | rfl) | fail) | fail) | refine sn_own rfl rfl rfl ?_ | exact List.length_map .. | refine ⟨?_, ?_⟩)); first | done | fail) rfl (by simp only [thaw, thawT, thaw1, thawL, Nat.zero_add, Nat.reduceAdd]; exact rfl) ?_; simp only [List.cons_append, List.nil_append, List.map_cons, List.map_nil])) | (refine x_boxO _ _ rfl rfl rfl rfl ?_) | (refine x_nil (hK _ _ (.inl rfl) ?_); clear hK K) | (refine x_nil (hK _ _ (.inr (by kernel_rfl)) ?_); clear hK K))
      | (refine g_code ?_; first | (refine v_seq ?_) | (refine v_region (fun K hK => ?_)) | (refine v_block ?_) | (refine v_skip ?_) | (refine v_ret ?_) | (refine v_exit ?_) | (refine g_cond ?_; first | (refine v_cond_y rfl (by first | rfl | assumption | (simp only [sx]; omega) | (simp; done) | fail) ?_) | (refine v_cond_n rfl (by first | rfl | assumption | (simp only [sx]; omega) | (simp; done) | fail) ?_) | (refine v_condt rfl (fun h => ?_) (fun h => ?_) <;> (have h' := h; (try simp only [sx] at h')))))
      | (refine q_then ?_) | (refine q_then_r ?_) | (refine q_then_e ?_) | (refine q_blk_n ?_) | (refine q_blk_r ?_) | (refine q_blk_e ?_) | (refine q_blk_o rfl ?_) | (refine q_loop_r ?_) | (refine q_loop_e ?_) | (refine ret_n ?_))
      all_goals first
        | (exfalso; omega)
        | (refine ret_int rfl (lookE_ok rfl) ?_
           simp only [wkF, colOf, rowOf]
           rw [if_pos (.inr h2)])
    · repeat' (first
      | (refine g_exec ?_; first | (refine g_move ?_; refine x_moveO _ rfl ?_) | (refine g_assign ?_; refine x_assignO _ rfl ?_) | (refine g_bin ?_; first | (refine x_add rfl rfl (by omega) ?_) | (refine x_mul rfl rfl (by omega) ?_) | (refine x_bin _ rfl rfl rfl ?_) | (refine x_boolEq (by assumption) rfl rfl ?_) | (refine x_strBin _ rfl rfl rfl ?_)) | (refine g_load ?_; first | (refine x_load_pc (by assumption) rfl ?_) | (refine x_load_oc _ (by assumption) rfl rfl (by first | rfl | assumption | exact getSelf (by omega) | exact getNe (by omega) (by assumption)) rfl ?_) | (refine x_load_pa _ (by assumption) rfl (by first | (simp; done) | fail) (by (first | (simp only [lx, Nat.reduceAdd]; first | done | rfl) | fail)) ?_) | (refine x_load_oa _ (by assumption) rfl rfl (by first | rfl | assumption | exact getSelf (by omega) | exact getNe (by omega) (by assumption)) (by first | (simp; done) | fail) (by (first | (simp only [lx, Nat.reduceAdd]; first | done | rfl) | fail)) ?_)) | (refine g_field ?_; first | (refine x_field_p _ (by assumption) rfl (by (first | (simp only [lx, Nat.reduceAdd]; first | done | rfl) | fail)) ?_) | (refine x_field_o _ (by assumption) rfl rfl (by simp only [lx, Nat.reduceAdd]; first | done | rfl) ?_)) | (refine g_index ?_; first | (refine x_index_l _ (by assumption) rfl rfl (by omega) (by assumption) ?_) | (refine x_index_o _ (by assumption) rfl rfl rfl rfl (by omega) (by omega) (by first | (rw [Nat.zero_add, Int.toNat_natCast]) | (rw [Nat.zero_add]) | rfl) ?_)) | (refine g_pick ?_; first | (refine x_pick_b rfl (by first | rfl | assumption | (simp only [sx]; omega) | (simp; done) | fail) rfl ?_) | (refine x_pick_c rfl (by first | rfl | assumption | (simp only [sx]; omega) | (simp; done) | fail) ?_) | (refine x_pick_a rfl (by first | rfl | assumption | (simp only [sx]; omega) | (simp; done) | fail) ?_) | (refine x_pick_d rfl (by first | rfl | assumption | (simp only [sx]; omega) | (simp; done) | fail) rfl ?_)) | (refine g_guard ?_; first | (refine x_gyes rfl rfl (by first | rfl | assumption | (simp only [sx]; omega) | (simp; done) | fail) ?_) | (refine x_gno rfl rfl (by first | rfl | assumption | (simp only [sx]; omega) | (simp; done) | fail) ?_) | (refine x_gun rfl rfl ?_) | (refine x_gsplit rfl rfl (fun h => ?_) (fun h => ?_) <;> (have h' := h; (try simp only [sx] at h')))) | (refine g_call ?_; first | (refine x_callG true (k_column t a hw.1 (by omega)) rfl rfl rfl (by (repeat' (first | exact trivial | exact rfl | exact allR_ptrs _ | exact .inl rfl | exact sn_all rfl rfl rfl | exact sn_all rfl rfl (by first | omega | (simp; done) | fail) | exact sn_part rfl rfl (by first | (simp; done) | exact (takeAll (by assumption)).symm | exact (takeAll (by first | (simp; done) | omega | fail)).symm | (first | (simp only [lx, Nat.reduceAdd]; first | done | rfl) | fail) | fail) | refine sn_own rfl rfl rfl ?_ | exact List.length_map .. | refine ⟨?_, ?_⟩)); first | done | fail) rfl (by simp only [thaw, thawT, thaw1, thawL, Nat.zero_add, Nat.reduceAdd]; exact rfl) ?_; simp only [List.cons_append, List.nil_append, List.map_cons, List.map_nil]) | (refine x_callG true (k_column t c hw.1 (by omega)) rfl rfl rfl (by (repeat' (first | exact trivial | exact rfl | exact allR_ptrs _ | exact .inl rfl | exact sn_all rfl rfl rfl | exact sn_all rfl rfl (by first | omega | (simp; done) | fail) | exact sn_part rfl rfl (by first | (simp; done) | exact (takeAll (by assumption)).symm | exact (takeAll (by first | (simp; done) | omega | fail)).symm | (first | (simp only [lx, Nat.reduceAdd]; first | done | rfl) | fail) | fail) | refine sn_own rfl rfl rfl ?_ | exact List.length_map .. | refine ⟨?_, ?_⟩)); first | done | fail) rfl (by simp only [thaw, thawT, thaw1, thawL, Nat.zero_add, Nat.reduceAdd]; exact rfl) ?_; simp only [List.cons_append, List.nil_append, List.map_cons, List.map_nil]) | (refine x_callG true (k_row t a hw.1 (by omega)) rfl rfl rfl (by (repeat' (first | exact trivial | exact rfl | exact allR_ptrs _ | exact .inl rfl | exact sn_all rfl rfl rfl | exact sn_all rfl rfl (by first | omega | (simp; done) | fail) | exact sn_part rfl rfl (by first | (simp; done) | exact (takeAll (by assumption)).symm | exact (takeAll (by first | (simp; done) | omega | fail)).symm | (first | (simp only [lx, Nat.reduceAdd]; first | done | rfl) | fail) | fail) | refine sn_own rfl rfl rfl ?_ | exact List.length_map .. | refine ⟨?_, ?_⟩)); first | done | fail) rfl (by simp only [thaw, thawT, thaw1, thawL, Nat.zero_add, Nat.reduceAdd]; exact rfl) ?_; simp only [List.cons_append, List.nil_append, List.map_cons, List.map_nil]) | (refine x_callG true (k_row t c hw.1 (by omega)) rfl rfl rfl (by (repeat' (first | exact trivial | exact rfl | exact allR_ptrs _ | exact .inl rfl | exact sn_all rfl rfl rfl | exact sn_all rfl rfl (by first | omega | (simp; done) | fail) | exact sn_part rfl rfl (by first | (simp; done) | exact (takeAll (by assumption)).symm | exact (takeAll (by first | (simp; done) | omega | fail)).symm | (first | (simp only [lx, Nat.reduceAdd]; first | done | rfl) | fail) | fail) | refine sn_own rfl rfl rfl ?_ | exact List.length_map .. | refine ⟨?_, ?_⟩)); first | done | fail) rfl (by simp only [thaw, thawT, thaw1, thawL, Nat.zero_add, Nat.reduceAdd]; exact rfl) ?_; simp only [List.cons_append, List.nil_append, List.map_cons, List.map_nil])) | (refine x_boxO _ _ rfl rfl rfl rfl ?_) | (refine x_nil (hK _ _ (.inl rfl) ?_); clear hK K) | (refine x_nil (hK _ _ (.inr (by kernel_rfl)) ?_); clear hK K))
      | (refine g_code ?_; first | (refine v_seq ?_) | (refine v_region (fun K hK => ?_)) | (refine v_block ?_) | (refine v_skip ?_) | (refine v_ret ?_) | (refine v_exit ?_) | (refine g_cond ?_; first | (refine v_cond_y rfl (by first | rfl | assumption | (simp only [sx]; omega) | (simp; done) | fail) ?_) | (refine v_cond_n rfl (by first | rfl | assumption | (simp only [sx]; omega) | (simp; done) | fail) ?_) | (refine v_condt rfl (fun h => ?_) (fun h => ?_) <;> (have h' := h; (try simp only [sx] at h')))))
      | (refine q_then ?_) | (refine q_then_r ?_) | (refine q_then_e ?_) | (refine q_blk_n ?_) | (refine q_blk_r ?_) | (refine q_blk_e ?_) | (refine q_blk_o rfl ?_) | (refine q_loop_r ?_) | (refine q_loop_e ?_) | (refine ret_n ?_))
      all_goals first
        | (exfalso; omega)
        | (refine ret_int rfl (lookE_ok rfl) ?_
           simp only [wkF, colOf, rowOf]
           rw [if_neg (by omega)])
theorem k_filterIntT (xs : List Int) (g : FuncId) (t : Terrain) (p : Int → Bool) (hg : ∀ a ∈ xs, Con Try.prog g [.agg t.pv, .int .i64 a] (.bool (p a))) (hn : xs.length ≤ 1099511627776) :
    Con Try.prog 95 [.list 1 (ints xs), .fn g [.agg t.pv] []] (.olist 3 1 (ints (xs.filter p))) := by
  intro al
  refine contract_of hmix Try.func95 rfl (by kernel_rfl) (by kernel_rfl) (Nat.le_of_ble_eq_true rfl) (fun row h => by cases h) ?_
  have hty_s22 := ty_s22
  have hty_u22 := ty_u22
  have hty_c3 := ty_c3
  have hl1 : (ints xs).length = xs.length := by simp
  repeat' (first
      | (refine g_exec ?_; first | (refine g_move ?_; refine x_moveO _ rfl ?_) | (refine g_assign ?_; refine x_assignO _ rfl ?_) | (refine g_bin ?_; first | (refine x_add rfl rfl (by omega) ?_) | (refine x_bin _ rfl rfl rfl ?_) | (refine x_strBin _ rfl rfl rfl ?_)) | (refine g_load ?_; first | (refine x_load_pc (by assumption) rfl ?_) | (refine x_load_oc _ (by assumption) rfl rfl (by first | rfl | assumption | exact getSelf (by omega) | exact getNe (by omega) (by assumption)) rfl ?_) | (refine x_load_pa _ (by assumption) rfl (by first | (simp; done) | fail) (by (first | (simp only [lx, Nat.reduceAdd]; first | done | rfl) | fail)) ?_) | (refine x_load_oa _ (by assumption) rfl rfl (by first | rfl | assumption | exact getSelf (by omega) | exact getNe (by omega) (by assumption)) (by first | (simp; done) | fail) (by (first | (simp only [lx, Nat.reduceAdd]; first | done | rfl) | fail)) ?_)) | (refine g_index ?_; first | (refine x_index_l _ (by assumption) rfl rfl (by omega) (by assumption) ?_) | (refine x_index_o _ (by assumption) rfl rfl rfl rfl (by omega) (by omega) (by first | (rw [Nat.zero_add, Int.toNat_natCast]) | (rw [Nat.zero_add]) | rfl) ?_)) | (refine g_call ?_; first | (refine x_len_l (by assumption) rfl ?_) | (refine x_len_o (by assumption) rfl rfl ?_) | (refine x_len_n (by assumption) rfl ?_) | (refine x_len_s (by assumption) (evO_ok rfl) ?_) | (refine x_appOO _ _ (by assumption) rfl (lookM (by rfl)) rfl (lookM (by rfl)) rfl (by first | exact (takeAll rfl).symm | exact (takeAll (by assumption)).symm | exact (takeAll (by first | (simp; done) | omega | fail)).symm | (first | (simp only [lx, Nat.reduceAdd]; first | done | rfl) | fail) | fail) ⟨rfl, rfl, by decide, by decide⟩ (by first | rfl | omega | (simp; done) | (simp; omega) | fail) ⟨by first | (simp only [List.length_cons, List.length_nil]; omega) | omega | fail, by decide⟩ rfl (by first | (first | (simp only [lx, Nat.reduceAdd]; first | done | rfl) | fail) | rfl) (by first | (simp only [List.length_cons, List.length_nil, Nat.zero_add, Nat.reduceAdd]; exact rfl) | exact rfl) ?_) | (refine x_appNO _ (by assumption) rfl rfl (lookM (by rfl)) ⟨rfl, by decide⟩ (by first | exact (takeAll rfl).symm | exact (takeAll (by assumption)).symm | exact (takeAll (by first | (simp; done) | omega | fail)).symm | (first | (simp only [lx, Nat.reduceAdd]; first | done | rfl) | fail) | fail) ⟨by first | (simp only [List.length_cons, List.length_nil]; omega) | omega | fail, by decide⟩ rfl (by first | (simp only [List.length_cons, List.length_nil, Nat.zero_add, Nat.reduceAdd]; exact rfl) | exact rfl) ?_) | (refine x_app_ol _ (by assumption) rfl rfl rfl ⟨rfl, rfl, rfl, by decide, by decide⟩ (by first | rfl | (simp; done) | fail) ⟨by omega, by decide⟩ rfl (by (first | (simp only [lx, Nat.reduceAdd]; first | done | rfl) | fail)) (by first | (rw [Nat.zero_add]) | rfl) ?_)) | (refine x_buildSliceO (by assumption) rfl rfl rfl ?_) | (refine x_nil (hK _ _ (.inl rfl) ?_); clear hK K) | (refine x_nil (hK _ _ (.inr (by kernel_rfl)) ?_); clear hK K))
      | (refine g_code ?_; first | (refine v_seq ?_) | (refine v_region (fun K hK => ?_)) | (refine v_block ?_) | (refine v_skip ?_) | (refine v_ret ?_) | (refine v_exit ?_) | (refine g_cond ?_; first | (refine v_cond_y rfl (by first | rfl | assumption | (simp only [sx]; omega) | (simp; done) | fail) ?_) | (refine v_cond_n rfl (by first | rfl | assumption | (simp only [sx]; omega) | (simp; done) | fail) ?_) | (refine v_condt rfl (fun h => ?_) (fun h => ?_) <;> (have h' := h; (try simp only [sx] at h')))))
      | (refine q_then ?_) | (refine q_then_r ?_) | (refine q_then_e ?_) | (refine q_blk_n ?_) | (refine q_blk_r ?_) | (refine q_blk_e ?_) | (refine q_blk_o rfl ?_) | (refine q_loop_r ?_) | (refine q_loop_e ?_) | (refine ret_n ?_))
  refine v_loopK [1, 9, 10] [] (fun q : Nat × Nat × List (List PV) => [(5, .osl (1001, 0) 0 q.2.1), (11, .int .i64 q.1)]) (fun q : Nat × Nat × List (List PV) => [((1001, 0), some ⟨3, 1, q.2.2, false⟩)]) (fun q : Nat × Nat × List (List PV) => q.1 ≤ xs.length ∧ q.2.2 = ints ((xs.take q.1).filter p) ∧ q.2.2.length = q.2.1) (fun q : Nat × Nat × List (List PV) => xs.length - q.1) ((0, 0, [])) rfl rfl (fun _ => rfl) (fun _ => rfl) rfl (by refine ⟨?_, ?_, rfl, rfl⟩ <;> (repeat' (first | exact trivial | exact ⟨rfl, rfl⟩ | exact rfl | exact ⟨sub_fn, refs_fn⟩ | refine ⟨⟨rfl, rfl⟩, ?_⟩ | refine ⟨⟨sub_fn, refs_fn⟩, ?_⟩ | refine ⟨⟨rfl, fun h => Bool.noConfusion h⟩, ?_⟩ | refine ⟨⟨rfl, fun h => ?_⟩, ?_⟩ | refine ⟨rfl, ?_⟩ | refine ⟨?_, ?_⟩ | fail))) ⟨by simp, by simp, rfl⟩ (fun q hq => ?_)
  obtain ⟨i, m, es⟩ := q
  obtain ⟨hi1, hi2, hl⟩ := hq
  simp only at hi1 hi2 hl
  have hle : es.length ≤ i := by rw [hi2]; simp only [List.length_map]; exact Nat.le_trans (List.length_filter_le _ _) (by rw [List.length_take]; omega)
  rcases Nat.lt_or_ge i xs.length with hlt | hge
  · obtain ⟨a, hga⟩ := get_ex hlt
    have hx := ints_at hga
    have kg := hg a (get_mem hga)
    dsimp only
    repeat' (first
      | (refine g_exec ?_; first | (refine g_move ?_; refine x_moveO _ rfl ?_) | (refine g_assign ?_; refine x_assignO _ rfl ?_) | (refine g_bin ?_; first | (refine x_add rfl rfl (by omega) ?_) | (refine x_bin _ rfl rfl rfl ?_) | (refine x_strBin _ rfl rfl rfl ?_)) | (refine g_load ?_; first | (refine x_load_pc (by assumption) rfl ?_) | (refine x_load_oc _ (by assumption) rfl rfl (by first | rfl | assumption | exact getSelf (by omega) | exact getNe (by omega) (by assumption)) rfl ?_) | (refine x_load_pa _ (by assumption) rfl (by first | (simp; done) | fail) (by (first | (simp only [lx, Nat.reduceAdd]; first | done | rfl) | fail)) ?_) | (refine x_load_oa _ (by assumption) rfl rfl (by first | rfl | assumption | exact getSelf (by omega) | exact getNe (by omega) (by assumption)) (by first | (simp; done) | fail) (by (first | (simp only [lx, Nat.reduceAdd]; first | done | rfl) | fail)) ?_)) | (refine g_index ?_; first | (refine x_index_l _ (by assumption) rfl rfl (by omega) (by assumption) ?_) | (refine x_index_o _ (by assumption) rfl rfl rfl rfl (by omega) (by omega) (by first | (rw [Nat.zero_add, Int.toNat_natCast]) | (rw [Nat.zero_add]) | rfl) ?_)) | (refine g_call ?_; first | (refine x_callG true (kg) rfl rfl rfl (by (repeat' (first | exact trivial | exact rfl | exact allR_ptrs _ | exact .inl rfl | exact sn_all rfl rfl rfl | exact sn_all rfl rfl (by first | omega | (simp; done) | fail) | exact sn_part rfl rfl (by first | (simp; done) | exact (takeAll (by assumption)).symm | exact (takeAll (by first | (simp; done) | omega | fail)).symm | (first | (simp only [lx, Nat.reduceAdd]; first | done | rfl) | fail) | fail) | refine sn_own rfl rfl rfl ?_ | exact List.length_map .. | refine ⟨?_, ?_⟩)); first | done | fail) rfl (by simp only [thaw, thawT, thaw1, thawL, Nat.zero_add, Nat.reduceAdd]; exact rfl) ?_; simp only [List.cons_append, List.nil_append, List.map_cons, List.map_nil]) | (refine x_call [] _ (kg) rfl rfl (by (repeat' (first | exact trivial | exact rfl | exact allR_ptrs _ | exact .inl rfl | exact sn_all rfl rfl rfl | exact sn_all rfl rfl (by first | omega | (simp; done) | fail) | exact sn_part rfl rfl (by first | (simp; done) | exact (takeAll (by assumption)).symm | exact (takeAll (by first | (simp; done) | omega | fail)).symm | (first | (simp only [lx, Nat.reduceAdd]; first | done | rfl) | fail) | fail) | refine sn_own rfl rfl rfl ?_ | exact List.length_map .. | refine ⟨?_, ?_⟩)); first | done | fail) rfl (by simp only [thaw, thawT, thaw1, thawL, Nat.zero_add, Nat.reduceAdd]; exact rfl) ?_; simp only [List.cons_append, List.nil_append, List.map_cons, List.map_nil]) | (refine x_len_l (by assumption) rfl ?_) | (refine x_len_o (by assumption) rfl rfl ?_) | (refine x_len_n (by assumption) rfl ?_) | (refine x_len_s (by assumption) (evO_ok rfl) ?_) | (refine x_appOO _ _ (by assumption) rfl (lookM (by rfl)) rfl (lookM (by rfl)) rfl (by first | exact (takeAll rfl).symm | exact (takeAll (by assumption)).symm | exact (takeAll (by first | (simp; done) | omega | fail)).symm | (first | (simp only [lx, Nat.reduceAdd]; first | done | rfl) | fail) | fail) ⟨rfl, rfl, by decide, by decide⟩ (by first | rfl | omega | (simp; done) | (simp; omega) | fail) ⟨by first | (simp only [List.length_cons, List.length_nil]; omega) | omega | fail, by decide⟩ rfl (by first | (first | (simp only [lx, Nat.reduceAdd]; first | done | rfl) | fail) | rfl) (by first | (simp only [List.length_cons, List.length_nil, Nat.zero_add, Nat.reduceAdd]; exact rfl) | exact rfl) ?_) | (refine x_appNO _ (by assumption) rfl rfl (lookM (by rfl)) ⟨rfl, by decide⟩ (by first | exact (takeAll rfl).symm | exact (takeAll (by assumption)).symm | exact (takeAll (by first | (simp; done) | omega | fail)).symm | (first | (simp only [lx, Nat.reduceAdd]; first | done | rfl) | fail) | fail) ⟨by first | (simp only [List.length_cons, List.length_nil]; omega) | omega | fail, by decide⟩ rfl (by first | (simp only [List.length_cons, List.length_nil, Nat.zero_add, Nat.reduceAdd]; exact rfl) | exact rfl) ?_) | (refine x_app_ol _ (by assumption) rfl rfl rfl ⟨rfl, rfl, rfl, by decide, by decide⟩ (by first | rfl | (simp; done) | fail) ⟨by omega, by decide⟩ rfl (by (first | (simp only [lx, Nat.reduceAdd]; first | done | rfl) | fail)) (by first | (rw [Nat.zero_add]) | rfl) ?_)) | (refine x_buildSliceO (by assumption) rfl rfl rfl ?_) | (refine x_nil (hK _ _ (.inl rfl) ?_); clear hK K) | (refine x_nil (hK _ _ (.inr (by kernel_rfl)) ?_); clear hK K))
      | (refine g_code ?_; first | (refine v_seq ?_) | (refine v_region (fun K hK => ?_)) | (refine v_block ?_) | (refine v_skip ?_) | (refine v_ret ?_) | (refine v_exit ?_) | (refine g_cond ?_; first | (refine v_cond_y rfl (by first | rfl | assumption | (simp only [sx]; omega) | (simp; done) | fail) ?_) | (refine v_cond_n rfl (by first | rfl | assumption | (simp only [sx]; omega) | (simp; done) | fail) ?_) | (refine v_condt rfl (fun h => ?_) (fun h => ?_) <;> (have h' := h; (try simp only [sx] at h')))))
      | (refine q_then ?_) | (refine q_then_r ?_) | (refine q_then_e ?_) | (refine q_blk_n ?_) | (refine q_blk_r ?_) | (refine q_blk_e ?_) | (refine q_blk_o rfl ?_) | (refine q_loop_r ?_) | (refine q_loop_e ?_) | (refine ret_n ?_))
    · refine q_next (i + 1, m + 1, es ++ [[.int .i64 a]]) rfl (by refine ⟨?_, ?_, rfl, rfl⟩ <;> (repeat' (first | exact trivial | exact ⟨rfl, rfl⟩ | exact rfl | exact ⟨sub_fn, refs_fn⟩ | refine ⟨⟨rfl, rfl⟩, ?_⟩ | refine ⟨⟨sub_fn, refs_fn⟩, ?_⟩ | refine ⟨⟨rfl, fun h => Bool.noConfusion h⟩, ?_⟩ | refine ⟨⟨rfl, fun h => ?_⟩, ?_⟩ | refine ⟨rfl, ?_⟩ | refine ⟨?_, ?_⟩ | fail))) ⟨by simp only; omega, ?_, by simp [hl]⟩ (by simp only; omega)
      simp only [filter_take_t hga (show p a = true by assumption), ints_snoc, hi2, List.map_cons, List.map_nil]
    · refine q_next (i + 1, m, es) rfl (by refine ⟨?_, ?_, rfl, rfl⟩ <;> (repeat' (first | exact trivial | exact ⟨rfl, rfl⟩ | exact rfl | exact ⟨sub_fn, refs_fn⟩ | refine ⟨⟨rfl, rfl⟩, ?_⟩ | refine ⟨⟨sub_fn, refs_fn⟩, ?_⟩ | refine ⟨⟨rfl, fun h => Bool.noConfusion h⟩, ?_⟩ | refine ⟨⟨rfl, fun h => ?_⟩, ?_⟩ | refine ⟨rfl, ?_⟩ | refine ⟨?_, ?_⟩ | fail))) ⟨by simp only; omega, ?_, hl⟩ (by simp only; omega)
      simp only [filter_take_f hga (show p a = false by assumption), hi2]
  · repeat' (first
      | (refine g_exec ?_; first | (refine g_move ?_; refine x_moveO _ rfl ?_) | (refine g_assign ?_; refine x_assignO _ rfl ?_) | (refine g_bin ?_; first | (refine x_add rfl rfl (by omega) ?_) | (refine x_bin _ rfl rfl rfl ?_) | (refine x_strBin _ rfl rfl rfl ?_)) | (refine g_load ?_; first | (refine x_load_pc (by assumption) rfl ?_) | (refine x_load_oc _ (by assumption) rfl rfl (by first | rfl | assumption | exact getSelf (by omega) | exact getNe (by omega) (by assumption)) rfl ?_) | (refine x_load_pa _ (by assumption) rfl (by first | (simp; done) | fail) (by (first | (simp only [lx, Nat.reduceAdd]; first | done | rfl) | fail)) ?_) | (refine x_load_oa _ (by assumption) rfl rfl (by first | rfl | assumption | exact getSelf (by omega) | exact getNe (by omega) (by assumption)) (by first | (simp; done) | fail) (by (first | (simp only [lx, Nat.reduceAdd]; first | done | rfl) | fail)) ?_)) | (refine g_index ?_; first | (refine x_index_l _ (by assumption) rfl rfl (by omega) (by assumption) ?_) | (refine x_index_o _ (by assumption) rfl rfl rfl rfl (by omega) (by omega) (by first | (rw [Nat.zero_add, Int.toNat_natCast]) | (rw [Nat.zero_add]) | rfl) ?_)) | (refine g_call ?_; first | (refine x_len_l (by assumption) rfl ?_) | (refine x_len_o (by assumption) rfl rfl ?_) | (refine x_len_n (by assumption) rfl ?_) | (refine x_len_s (by assumption) (evO_ok rfl) ?_) | (refine x_appOO _ _ (by assumption) rfl (lookM (by rfl)) rfl (lookM (by rfl)) rfl (by first | exact (takeAll rfl).symm | exact (takeAll (by assumption)).symm | exact (takeAll (by first | (simp; done) | omega | fail)).symm | (first | (simp only [lx, Nat.reduceAdd]; first | done | rfl) | fail) | fail) ⟨rfl, rfl, by decide, by decide⟩ (by first | rfl | omega | (simp; done) | (simp; omega) | fail) ⟨by first | (simp only [List.length_cons, List.length_nil]; omega) | omega | fail, by decide⟩ rfl (by first | (first | (simp only [lx, Nat.reduceAdd]; first | done | rfl) | fail) | rfl) (by first | (simp only [List.length_cons, List.length_nil, Nat.zero_add, Nat.reduceAdd]; exact rfl) | exact rfl) ?_) | (refine x_appNO _ (by assumption) rfl rfl (lookM (by rfl)) ⟨rfl, by decide⟩ (by first | exact (takeAll rfl).symm | exact (takeAll (by assumption)).symm | exact (takeAll (by first | (simp; done) | omega | fail)).symm | (first | (simp only [lx, Nat.reduceAdd]; first | done | rfl) | fail) | fail) ⟨by first | (simp only [List.length_cons, List.length_nil]; omega) | omega | fail, by decide⟩ rfl (by first | (simp only [List.length_cons, List.length_nil, Nat.zero_add, Nat.reduceAdd]; exact rfl) | exact rfl) ?_) | (refine x_app_ol _ (by assumption) rfl rfl rfl ⟨rfl, rfl, rfl, by decide, by decide⟩ (by first | rfl | (simp; done) | fail) ⟨by omega, by decide⟩ rfl (by (first | (simp only [lx, Nat.reduceAdd]; first | done | rfl) | fail)) (by first | (rw [Nat.zero_add]) | rfl) ?_)) | (refine x_buildSliceO (by assumption) rfl rfl rfl ?_) | (refine x_nil (hK _ _ (.inl rfl) ?_); clear hK K) | (refine x_nil (hK _ _ (.inr (by kernel_rfl)) ?_); clear hK K))
      | (refine g_code ?_; first | (refine v_seq ?_) | (refine v_region (fun K hK => ?_)) | (refine v_block ?_) | (refine v_skip ?_) | (refine v_ret ?_) | (refine v_exit ?_) | (refine g_cond ?_; first | (refine v_cond_y rfl (by first | rfl | assumption | (simp only [sx]; omega) | (simp; done) | fail) ?_) | (refine v_cond_n rfl (by first | rfl | assumption | (simp only [sx]; omega) | (simp; done) | fail) ?_) | (refine v_condt rfl (fun h => ?_) (fun h => ?_) <;> (have h' := h; (try simp only [sx] at h')))))
      | (refine q_then ?_) | (refine q_then_r ?_) | (refine q_then_e ?_) | (refine q_blk_n ?_) | (refine q_blk_r ?_) | (refine q_blk_e ?_) | (refine q_blk_o rfl ?_) | (refine q_loop_r ?_) | (refine q_loop_e ?_) | (refine ret_n ?_))
    have : xs.take i = xs := take_all (by omega)
    rw [this] at hi2
    subst hi2
    exact ret_list rfl (lookE_ok (by rfl)) (by rfl) (by decide) hl.symm (ints_flat _) rfl

@[reducible] def bools (F : List Bool) : List (List PV) := F.map fun b => [PV.bool b]
theorem bools_set (F : List Bool) (i : Nat) (x : Bool) : bools (F.set i x) = (bools F).set i [PV.bool x] := by simp [bools, List.map_set]
def fv (F : List Bool) (c : Int) : Bool := F.getD c.toNat false
theorem fv_at {F : List Bool} {c : Int} (h : c.toNat < F.length) : (bools F)[c.toNat]? = some [PV.bool (fv F c)] := by
  obtain ⟨a, ha⟩ := get_ex h
  have : fv F c = a := by simp [fv, List.getD_eq_getElem?_getD, ha]
  simp [bools, ha, this]
theorem fv_set {F : List Bool} {i : Nat} (x : Bool) (h : i < F.length) (c : Int) : fv (F.set i x) c = if c.toNat = i then x else fv F c := by
  unfold fv
  rw [List.getD_eq_getElem?_getD, List.getD_eq_getElem?_getD, List.getElem?_set]
  by_cases he : i = c.toNat
  · simp [he, he ▸ h]
  · simp [he, Ne.symm he]
@[reducible] def gfree (f : Bool) : Int := if f = true then 0 else 1
def freeN (F : List Bool) : Int := sumBy gfree F
theorem freeN_ge (F : List Bool) : 0 ≤ freeN F := by
  have := sumBy_bound gfree 1 F fun y _ => by simp only [gfree]; split <;> omega
  unfold freeN; omega
theorem freeN_set {F : List Bool} {i : Nat} (h : F[i]? = some false) : freeN (F.set i true) = freeN F - 1 := by
  rw [freeN, sumBy_set gfree true h, freeN]
  simp [gfree]
theorem tv_ext {b : Blz} {T U : List Int} (h1 : T.length = b.t.burn.length) (h2 : U.length = b.t.burn.length) (h : ∀ c, IsCell b.t c → tv T c = tv U c) : T = U := List.ext_getElem? fun j => by
  by_cases hj : j < b.t.burn.length
  · have e1 := tv_at (T := T) (c := (j : Int)) (by rw [Int.toNat_natCast, h1]; exact hj)
    have e2 := tv_at (T := U) (c := (j : Int)) (by rw [Int.toNat_natCast, h2]; exact hj)
    rw [Int.toNat_natCast] at e1 e2
    rw [e1, e2, h j ⟨by omega, by omega⟩]
  · rw [List.getElem?_eq_none (by omega), List.getElem?_eq_none (by omega)]
/-- What holds ahead of each round: cells that are fixed are closed, and not later than those that are not. -/
structure Fix (b : Blz) (T : List Int) (F : List Bool) : Prop where
  len : F.length = b.t.burn.length
  fin : ∀ a, IsCell b.t a → fv F a = true → tv T a ≠ -1 ∧ Clsd b T a
  ord : ∀ a c, IsCell b.t a → IsCell b.t c → fv F a = true → fv F c = false → tv T c ≠ -1 → tv T a ≤ tv T c
def BestOf (T : List Int) (F : List Bool) (i : Nat) (m : Int) : Prop :=
  (m = -1 ∧ ∀ c : Nat, c < i → fv F c = true ∨ tv T c = -1) ∨
  (0 ≤ m ∧ m < i ∧ fv F m = false ∧ tv T m ≠ -1 ∧ ∀ c : Nat, c < i → fv F c = false → tv T c ≠ -1 → tv T m ≤ tv T c)
theorem best_same {T : List Int} {F : List Bool} {i : Nat} {m : Int} (h : BestOf T F i m) (hi : fv F i = true ∨ tv T i = -1 ∨ (0 ≤ m ∧ tv T m ≤ tv T i)) : BestOf T F (i + 1) m := by
  rcases h with ⟨h1, h2⟩ | ⟨h1, h2, h3, h4, h5⟩
  · refine .inl ⟨h1, fun c hc => ?_⟩
    rcases Nat.lt_or_ge c i with h | h
    · exact h2 c h
    · have : c = i := by omega
      subst this
      rcases hi with hi | hi | hi
      · exact .inl hi
      · exact .inr hi
      · omega
  · refine .inr ⟨h1, by omega, h3, h4, fun c hc hf hn => ?_⟩
    rcases Nat.lt_or_ge c i with h | h
    · exact h5 c h hf hn
    · have : c = i := by omega
      subst this
      rcases hi with hi | hi | hi
      · rw [hi] at hf; cases hf
      · exact absurd hi hn
      · exact hi.2
theorem best_new {T : List Int} {F : List Bool} {i : Nat} {m : Int} (h : BestOf T F i m) (h1 : fv F i = false) (h2 : tv T i ≠ -1) (h3 : m < 0 ∨ tv T i < tv T m) : BestOf T F (i + 1) i := by
  refine .inr ⟨by omega, by omega, h1, h2, fun c hc hf hn => ?_⟩
  rcases Nat.lt_or_ge c i with g | g
  · rcases h with ⟨k1, k2⟩ | ⟨k1, k2, k3, k4, k5⟩
    · rcases k2 c g with k | k
      · rw [k] at hf; cases hf
      · exact absurd k hn
    · have := k5 c g hf hn
      omega
  · have : c = i := by omega
    subst this
    exact Int.le_refl _
/-- What holds while the neighbors of the best cell are told their ticks. -/
structure Rnd (b : Blz) (T U : List Int) (F : List Bool) (a : Int) (k : Nat) : Prop where
  mid : Mid b U
  fix : ∀ c, IsCell b.t c → fv F c = true ∨ c = a → tv U c = tv T c
  low : ∀ c, IsCell b.t c → tv T c ≠ -1 → tv U c ≠ -1 ∧ tv U c ≤ tv T c
  hi : ∀ c, IsCell b.t c → fv F c = false → tv U c ≠ -1 → tv T a ≤ tv U c
  told : ∀ j, j < k → ∀ c, (nears b.t a)[j]? = some c → 0 < burnAt b.t c → tv U c ≠ -1 ∧ tv U c ≤ hop b a c (tv T a)
theorem apart_self (t : Terrain) (a : Int) : apart t a a = 0 := by simp only [apart, absI]; omega
theorem rnd_end {b : Blz} (hb : GoodB b) {T U : List Int} {F : List Bool} {a : Int} {k : Nat} (hF : Fix b T F) (hM : Mid b T) (ha : IsCell b.t a) (hf : fv F a = false) (hn : tv T a ≠ -1) (h : Rnd b T U F a k) (hk : (nears b.t a).length ≤ k) :
    Fix b U (F.set a.toNat true) := by
  have hal : a.toNat < F.length := by have := ha; unfold IsCell at this; rw [hF.len]; omega
  have hset := fv_set true hal
  have hcell : ∀ y, IsCell b.t y → (y.toNat = a.toNat ↔ y = a) := fun y hy => by
    have h1 := hy.1
    have h2 := ha.1
    omega
  have eT : tv U a = tv T a := h.fix a ha (.inr rfl)
  refine ⟨by rw [List.length_set]; exact hF.len, fun c hc hcf => ?_, fun c d hc hd hcf hdf hdn => ?_⟩
  · rw [hset] at hcf
    by_cases he : c = a
    · subst he
      rw [Clsd, eT]
      refine ⟨hn, fun _ y hy => ?_⟩
      obtain ⟨j, hj⟩ := List.getElem?_of_mem (nears_mem.2 ⟨hy.2.1, hy.2.2.1⟩)
      exact h.told j (by have := get_lt hj; omega) y hj hy.2.2.2
    · rw [if_neg (fun e => he ((hcell c hc).1 e))] at hcf
      have e := h.fix c hc (.inl hcf)
      obtain ⟨g1, g2⟩ := hF.fin c hc hcf
      rw [Clsd, e]
      refine ⟨g1, fun _ y hy => ?_⟩
      obtain ⟨k1, k2⟩ := g2 g1 y hy
      have k3 := h.low y hy.2.1 k1
      exact ⟨k3.1, by omega⟩
  · rw [hset] at hcf hdf
    have hda : ¬ d.toNat = a.toNat := fun e => by rw [if_pos e] at hdf; cases hdf
    rw [if_neg hda] at hdf
    have h1 := h.hi d hd hdf hdn
    by_cases he : c = a
    · subst he; rw [eT]; exact h1
    · rw [if_neg (fun e => he ((hcell c hc).1 e))] at hcf
      rw [h.fix c hc (.inl hcf)]
      have := hF.ord c a hc ha hcf hf hn
      omega
theorem rnd_skip {b : Blz} {T U : List Int} {F : List Bool} {a : Int} {k : Nat} (h : Rnd b T U F a k)
    (hs : ∀ c, (nears b.t a)[k]? = some c → 0 < burnAt b.t c → tv U c ≠ -1 ∧ tv U c ≤ hop b a c (tv T a)) : Rnd b T U F a (k + 1) :=
  ⟨h.mid, h.fix, h.low, h.hi, fun j hj c hc hb => by
    rcases Nat.lt_or_ge j k with h1 | h1
    · exact h.told j h1 c hc hb
    · have : j = k := by omega
      subst this
      exact hs c hc hb⟩
theorem rnd_set {b : Blz} (hb : GoodB b) {T U : List Int} {F : List Bool} {a c : Int} {k : Nat} (h : Rnd b T U F a k) (hc : (nears b.t a)[k]? = some c) (he : Edge b a c) (hn : tv T a ≠ -1) (hf : fv F c = false)
    (hx : tv U c = -1 ∨ hop b a c (tv T a) < tv U c) : Rnd b T (U.set c.toNat (hop b a c (tv T a))) F a (k + 1) := by
  have eT : tv U a = tv T a := h.fix a he.1 (.inr rfl)
  have hrel := (h.mid.relax hb he (by rw [eT]; exact hn) (by rw [eT]; exact hx)).1
  rw [eT] at hrel
  have hva := h.mid.ge hb he.1 (by rw [eT]; exact hn)
  rw [eT] at hva
  have hop1 := hop_bnd hb hva.1 he hva.2
  have hcl := cell_inT h.mid.pre.len he.2.1
  have hset := tv_set (hop b a c (tv T a)) hcl
  have hcell : ∀ y, IsCell b.t y → (y.toNat = c.toNat ↔ y = c) := fun y hy => by
    have h1 := hy.1
    have h2 := he.2.1.1
    omega
  have hca : c ≠ a := fun e => by
    have h1 := he.2.2.1
    rw [e, apart_self] at h1
    omega
  refine ⟨hrel, fun y hy hyf => ?_, fun y hy hyn => ?_, fun y hy hyf hyn => ?_, fun j hj y hjy hyb => ?_⟩
  · have : ¬ y.toNat = c.toNat := fun e => by
      have := (hcell y hy).1 e
      subst this
      rcases hyf with g | g
      · rw [hf] at g; cases g
      · exact hca g
    rw [hset, if_neg this]
    exact h.fix y hy hyf
  · rw [hset]
    have := h.low y hy hyn
    split
    · rename_i e
      have e2 := (hcell y hy).1 e
      subst e2
      rcases hx with hx | hx
      · exact absurd hx this.1
      · omega
    · exact this
  · rw [hset] at hyn ⊢
    split
    · omega
    · rename_i e
      rw [if_neg e] at hyn
      exact h.hi y hy hyf hyn
  · rw [hset]
    rcases Nat.lt_or_ge j k with h1 | h1
    · have := h.told j h1 y hjy hyb
      have hyc := (nears_mem.1 (get_mem hjy)).1
      split
      · rename_i e
        have e2 := (hcell y hyc).1 e
        subst e2
        exact ⟨by omega, Int.le_refl _⟩
      · exact this
    · have : j = k := by omega
      subst this
      rw [hc] at hjy
      injection hjy with hjy
      subst hjy
      rw [if_pos rfl]
      exact ⟨by omega, Int.le_refl _⟩
theorem fix_ini {b : Blz} {T : List Int} : Fix b T (List.replicate b.t.burn.length false) := by
  have hf : ∀ c, fv (List.replicate b.t.burn.length false) c = false := fun c => by
    unfold fv
    rw [List.getD_eq_getElem?_getD, List.getElem?_replicate]
    split <;> rfl
  exact ⟨by simp, fun a _ h => (by rw [hf] at h; cases h), fun a c _ _ h => (by rw [hf] at h; cases h)⟩
end Go.Vs
