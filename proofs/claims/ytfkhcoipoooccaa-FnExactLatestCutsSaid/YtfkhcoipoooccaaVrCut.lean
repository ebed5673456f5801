/- RECORD Cut: what a law asks of lists of it. -/
import Derived.Test.YtfkhcoipoooccaaVe1
set_option linter.unusedVariables false
set_option linter.unusedSimpArgs false
set_option maxRecDepth 100000
set_option maxHeartbeats 4000000
namespace Go.Vs
open Go.Proofs
attribute [local irreducible] exec vwp thenQ blkQ loopQ RetPost

structure Cut where
  (cell : Int)
  (tick : Int)
  deriving DecidableEq
@[reducible] def Cut.pv (c : Cut) : List PV := [.int .i64 c.cell, .int .i64 c.tick]
theorem Cut.at {xs : List Cut} {i : Nat} {a : Cut} (h : xs[i]? = some a) : (xs.map Cut.pv)[i]? = some [.int .i64 a.cell, .int .i64 a.tick] := by simp [h]
theorem Cut.flat (xs : List Cut) : ∀ e ∈ xs.map Cut.pv, ∀ c ∈ e, c.flat = true := by
  intro e he c hc
  obtain ⟨a, _, rfl⟩ := List.mem_map.1 he
  simp only [Cut.pv, List.mem_cons, List.not_mem_nil, or_false] at hc
  rcases hc with rfl | rfl <;> rfl
theorem con_eqCut (a b : Cut) : Con Try.prog 58 [.agg a.pv, .agg b.pv] (.bool (decide (a = b))) := by
  intro al
  refine contract_of hmix Try.func58 rfl (by kernel_rfl) (by kernel_rfl) (Nat.le_of_ble_eq_true rfl) (fun row h => by cases h) ?_
  have hty_f68_0 := ty_f68_0
  have hty_c3 := ty_c3
  have hty_f68_1 := ty_f68_1
  repeat' (first
      | (refine g_exec ?_; first | (refine g_assign ?_; refine x_assignO _ rfl ?_) | (refine g_bin ?_; first | (refine x_bin _ rfl rfl rfl ?_) | (refine x_boolNe (by assumption) rfl rfl ?_) | (refine x_strBin _ rfl rfl rfl ?_)) | (refine g_load ?_; first | (refine x_load_pc (by assumption) rfl ?_) | (refine x_load_oc _ (by assumption) rfl rfl (by first | rfl | assumption | exact getSelf (by omega) | exact getNe (by omega) (by assumption)) rfl ?_) | (refine x_load_pa _ (by assumption) rfl (by first | (simp; done) | fail) (by (first | (simp only [lx, Nat.reduceAdd]; first | done | rfl) | fail)) ?_) | (refine x_load_oa _ (by assumption) rfl rfl (by first | rfl | assumption | exact getSelf (by omega) | exact getNe (by omega) (by assumption)) (by first | (simp; done) | fail) (by (first | (simp only [lx, Nat.reduceAdd]; first | done | rfl) | fail)) ?_)) | (refine g_field ?_; first | (refine x_field_p _ (by assumption) rfl (by (first | (simp only [lx, Nat.reduceAdd]; first | done | rfl) | fail)) ?_) | (refine x_field_o _ (by assumption) rfl rfl (by simp only [lx, Nat.reduceAdd]; first | done | rfl) ?_)) | (refine x_boxO _ _ rfl rfl rfl rfl ?_) | (refine x_nil (hK _ _ (.inl rfl) ?_); clear hK K) | (refine x_nil (hK _ _ (.inr (by kernel_rfl)) ?_); clear hK K))
      | (refine g_code ?_; first | (refine v_seq ?_) | (refine v_region (fun K hK => ?_)) | (refine v_block ?_) | (refine v_skip ?_) | (refine v_ret ?_) | (refine v_exit ?_) | (refine g_cond ?_; first | (refine v_cond_y rfl (by first | rfl | assumption | (simp only [sx]; omega) | (simp; done) | fail) ?_) | (refine v_cond_n rfl (by first | rfl | assumption | (simp only [sx]; omega) | (simp; done) | fail) ?_) | (refine v_condt rfl (fun h => ?_) (fun h => ?_) <;> (have h' := h; (try simp only [sx] at h')))))
      | (refine q_then ?_) | (refine q_then_r ?_) | (refine q_then_e ?_) | (refine q_blk_n ?_) | (refine q_blk_r ?_) | (refine q_blk_e ?_) | (refine q_blk_o rfl ?_) | (refine q_loop_r ?_) | (refine q_loop_e ?_) | (refine ret_n ?_))
  all_goals (refine ret_bool rfl (lookE_ok rfl) ?_; cases a; cases b; simp_all)
theorem con_toCut (c : Cut) : Con Try.prog 50 [.agg c.pv] (.agg c.pv) := by
  intro al
  refine contract_of hmix Try.func50 rfl (by kernel_rfl) (by kernel_rfl) (Nat.le_of_ble_eq_true rfl) (fun row h => by cases h) ?_
  have hty_a68 := ty_a68
  have hty_z68 := ty_z68
  have hty_f70_0 := ty_f70_0
  have hty_c3 := ty_c3
  have hty_f68_0 := ty_f68_0
  have hty_t3 := ty_t3
  have hty_f70_1 := ty_f70_1
  have hty_f68_1 := ty_f68_1
  have hty_t68 := ty_t68
  repeat' (first
      | (refine g_exec ?_; first | (refine g_load ?_; first | (refine x_load_pc (by assumption) rfl ?_) | (refine x_load_oc _ (by assumption) rfl rfl (by first | rfl | assumption | exact getSelf (by omega) | exact getNe (by omega) (by assumption)) rfl ?_) | (refine x_load_pa _ (by assumption) rfl (by first | (simp; done) | fail) (by (first | (simp only [lx, Nat.reduceAdd]; first | done | rfl) | fail)) ?_) | (refine x_load_oa _ (by assumption) rfl rfl (by first | rfl | assumption | exact getSelf (by omega) | exact getNe (by omega) (by assumption)) (by first | (simp; done) | fail) (by (first | (simp only [lx, Nat.reduceAdd]; first | done | rfl) | fail)) ?_)) | (refine g_field ?_; first | (refine x_field_p _ (by assumption) rfl (by (first | (simp only [lx, Nat.reduceAdd]; first | done | rfl) | fail)) ?_) | (refine x_field_o _ (by assumption) rfl rfl (by simp only [lx, Nat.reduceAdd]; first | done | rfl) ?_)) | (refine x_boxO _ _ rfl rfl rfl rfl ?_) | (refine x_alloc _ (by assumption) rfl ?_) | (refine x_storeO _ _ _ rfl rfl (by first | rfl | assumption | exact getSelf (by omega) | exact getNe (by omega) (by assumption)) (by first | assumption | (exact TAgg.size (by assumption))) rfl rfl rfl (by first | (simp; done) | fail) rfl (by (first | (simp only [lx, Nat.reduceAdd]; first | done | rfl) | fail)) (by first | (first | (simp only [lx, Nat.reduceAdd]; first | done | rfl) | fail) | rfl) ?_) | (refine x_nil (hK _ _ (.inl rfl) ?_); clear hK K) | (refine x_nil (hK _ _ (.inr (by kernel_rfl)) ?_); clear hK K))
      | (refine g_code ?_; first | (refine v_seq ?_) | (refine v_region (fun K hK => ?_)) | (refine v_block ?_) | (refine v_skip ?_) | (refine v_ret ?_) | (refine v_exit ?_))
      | (refine q_then ?_) | (refine q_then_r ?_) | (refine q_then_e ?_) | (refine q_blk_n ?_) | (refine q_blk_r ?_) | (refine q_blk_e ?_) | (refine q_blk_o rfl ?_) | (refine q_loop_r ?_) | (refine q_loop_e ?_) | (refine ret_n ?_))
  exact ret_cell (cs := c.pv) rfl ty_a68 (lookE_ok (by rfl)) (by rfl) (by rfl) (by rfl) (by rfl)
theorem con_eqCutS (xs ys : List Cut) (hn : xs.length ≤ 1099511627776) : Con Try.prog 18 [.list 2 (xs.map Cut.pv), .list 2 (ys.map Cut.pv)] (.bool (decide (xs = ys))) := by
  intro al
  refine contract_of hmix Try.func18 rfl (by kernel_rfl) (by kernel_rfl) (Nat.le_of_ble_eq_true rfl) (fun row h => by cases h) ?_
  have hty_u31 := ty_u31
  have hty_s31 := ty_s31
  have hty_a68 := ty_a68
  have hl1 : (xs.map Cut.pv).length = xs.length := by simp
  have hl2 : (ys.map Cut.pv).length = ys.length := by simp
  repeat' (first
      | (refine g_exec ?_; first | (refine g_move ?_; refine x_moveO _ rfl ?_) | (refine g_assign ?_; refine x_assignO _ rfl ?_) | (refine g_bin ?_; first | (refine x_add rfl rfl (by omega) ?_) | (refine x_bin _ rfl rfl rfl ?_) | (refine x_boolNe (by assumption) rfl rfl ?_) | (refine x_strBin _ rfl rfl rfl ?_)) | (refine g_un ?_; first | (refine x_not rfl ?_) | (refine x_neg rfl (by omega) ?_)) | (refine g_load ?_; first | (refine x_load_pc (by assumption) rfl ?_) | (refine x_load_oc _ (by assumption) rfl rfl (by first | rfl | assumption | exact getSelf (by omega) | exact getNe (by omega) (by assumption)) rfl ?_) | (refine x_load_pa _ (by assumption) rfl (by first | (simp; done) | fail) (by (first | (simp only [lx, Nat.reduceAdd]; first | done | rfl) | fail)) ?_) | (refine x_load_oa _ (by assumption) rfl rfl (by first | rfl | assumption | exact getSelf (by omega) | exact getNe (by omega) (by assumption)) (by first | (simp; done) | fail) (by (first | (simp only [lx, Nat.reduceAdd]; first | done | rfl) | fail)) ?_)) | (refine g_index ?_; first | (refine x_index_l _ (by assumption) rfl rfl (by omega) (by assumption) ?_) | (refine x_index_o _ (by assumption) rfl rfl rfl rfl (by omega) (by omega) (by first | (rw [Nat.zero_add, Int.toNat_natCast]) | (rw [Nat.zero_add]) | rfl) ?_)) | (refine g_call ?_; first | (refine x_len_l (by assumption) rfl ?_) | (refine x_len_o (by assumption) rfl rfl ?_) | (refine x_len_n (by assumption) rfl ?_) | (refine x_len_s (by assumption) (evO_ok rfl) ?_)) | (refine x_nil (hK _ _ (.inl rfl) ?_); clear hK K) | (refine x_nil (hK _ _ (.inr (by kernel_rfl)) ?_); clear hK K))
      | (refine g_code ?_; first | (refine v_seq ?_) | (refine v_region (fun K hK => ?_)) | (refine v_block ?_) | (refine v_skip ?_) | (refine v_ret ?_) | (refine v_exit ?_) | (refine g_cond ?_; first | (refine v_cond_y rfl (by first | rfl | assumption | (simp only [sx]; omega) | (simp; done) | fail) ?_) | (refine v_cond_n rfl (by first | rfl | assumption | (simp only [sx]; omega) | (simp; done) | fail) ?_) | (refine v_condt rfl (fun h => ?_) (fun h => ?_) <;> (have h' := h; (try simp only [sx] at h')))))
      | (refine q_then ?_) | (refine q_then_r ?_) | (refine q_then_e ?_) | (refine q_blk_n ?_) | (refine q_blk_r ?_) | (refine q_blk_e ?_) | (refine q_blk_o rfl ?_) | (refine q_loop_r ?_) | (refine q_loop_e ?_) | (refine ret_n ?_))
  · refine ret_bool rfl (lookE_ok rfl) ?_
    by_cases he : xs = ys
    · subst he; omega
    · simp [he]
  refine v_loopA (fun i : Nat => ⟨[(0, .list 2 (xs.map Cut.pv)), (1, .list 2 (ys.map Cut.pv)), (5, .int .i64 i)], []⟩) (fun i => i ≤ xs.length ∧ ∀ j, j < i → xs[j]? = ys[j]?) (fun i => xs.length - i) 0 (by refine ⟨?_, ?_⟩ <;> (repeat' (first | exact trivial | exact ⟨rfl, rfl⟩ | exact rfl | exact ⟨sub_fn, refs_fn⟩ | refine ⟨⟨rfl, rfl⟩, ?_⟩ | refine ⟨⟨sub_fn, refs_fn⟩, ?_⟩ | refine ⟨⟨rfl, fun h => Bool.noConfusion h⟩, ?_⟩ | refine ⟨⟨rfl, fun h => ?_⟩, ?_⟩ | refine ⟨rfl, ?_⟩ | refine ⟨?_, ?_⟩ | fail))) ⟨by omega, fun j hj => by omega⟩ (fun i hi => ?_)
  obtain ⟨hi1, hi2⟩ := hi
  rcases Nat.lt_or_ge i xs.length with hlt | hge
  · obtain ⟨a, ha⟩ : ∃ a, xs[i]? = some a := ⟨xs[i], List.getElem?_eq_getElem hlt⟩
    obtain ⟨b, hb⟩ : ∃ a, ys[i]? = some a := ⟨ys[i]'(by omega), List.getElem?_eq_getElem (by omega)⟩
    have hx := Cut.at ha
    have hy := Cut.at hb
    repeat' (first
      | (refine g_exec ?_; first | (refine g_move ?_; refine x_moveO _ rfl ?_) | (refine g_assign ?_; refine x_assignO _ rfl ?_) | (refine g_bin ?_; first | (refine x_add rfl rfl (by omega) ?_) | (refine x_bin _ rfl rfl rfl ?_) | (refine x_boolNe (by assumption) rfl rfl ?_) | (refine x_strBin _ rfl rfl rfl ?_)) | (refine g_un ?_; first | (refine x_not rfl ?_) | (refine x_neg rfl (by omega) ?_)) | (refine g_load ?_; first | (refine x_load_pc (by assumption) rfl ?_) | (refine x_load_oc _ (by assumption) rfl rfl (by first | rfl | assumption | exact getSelf (by omega) | exact getNe (by omega) (by assumption)) rfl ?_) | (refine x_load_pa _ (by assumption) rfl (by first | (simp; done) | fail) (by (first | (simp only [lx, Nat.reduceAdd]; first | done | rfl) | fail)) ?_) | (refine x_load_oa _ (by assumption) rfl rfl (by first | rfl | assumption | exact getSelf (by omega) | exact getNe (by omega) (by assumption)) (by first | (simp; done) | fail) (by (first | (simp only [lx, Nat.reduceAdd]; first | done | rfl) | fail)) ?_)) | (refine g_index ?_; first | (refine x_index_l _ (by assumption) rfl rfl (by omega) (by assumption) ?_) | (refine x_index_o _ (by assumption) rfl rfl rfl rfl (by omega) (by omega) (by first | (rw [Nat.zero_add, Int.toNat_natCast]) | (rw [Nat.zero_add]) | rfl) ?_)) | (refine g_call ?_; first | (refine x_callG true (con_eqCut a b) rfl rfl rfl (by (repeat' (first | exact trivial | exact rfl | exact allR_ptrs _ | exact .inl rfl | exact sn_all rfl rfl rfl | exact sn_all rfl rfl (by first | omega | (simp; done) | fail) | exact sn_part rfl rfl (by first | (simp; done) | exact (takeAll (by assumption)).symm | exact (takeAll (by first | (simp; done) | omega | fail)).symm | (first | (simp only [lx, Nat.reduceAdd]; first | done | rfl) | fail) | fail) | refine sn_own rfl rfl rfl ?_ | exact List.length_map .. | refine ⟨?_, ?_⟩)); first | done | fail) rfl (by simp only [thaw, thawT, thaw1, thawL, Nat.zero_add, Nat.reduceAdd]; exact rfl) ?_; simp only [List.cons_append, List.nil_append, List.map_cons, List.map_nil]) | (refine x_len_l (by assumption) rfl ?_) | (refine x_len_o (by assumption) rfl rfl ?_) | (refine x_len_n (by assumption) rfl ?_) | (refine x_len_s (by assumption) (evO_ok rfl) ?_)) | (refine x_nil (hK _ _ (.inl rfl) ?_); clear hK K) | (refine x_nil (hK _ _ (.inr (by kernel_rfl)) ?_); clear hK K))
      | (refine g_code ?_; first | (refine v_seq ?_) | (refine v_region (fun K hK => ?_)) | (refine v_block ?_) | (refine v_skip ?_) | (refine v_ret ?_) | (refine v_exit ?_) | (refine g_cond ?_; first | (refine v_cond_y rfl (by first | rfl | assumption | (simp only [sx]; omega) | (simp; done) | fail) ?_) | (refine v_cond_n rfl (by first | rfl | assumption | (simp only [sx]; omega) | (simp; done) | fail) ?_) | (refine v_condt rfl (fun h => ?_) (fun h => ?_) <;> (have h' := h; (try simp only [sx] at h')))))
      | (refine q_then ?_) | (refine q_then_r ?_) | (refine q_then_e ?_) | (refine q_blk_n ?_) | (refine q_blk_r ?_) | (refine q_blk_e ?_) | (refine q_blk_o rfl ?_) | (refine q_loop_r ?_) | (refine q_loop_e ?_) | (refine ret_n ?_))
    · refine ret_bool rfl (lookE_ok rfl) ?_
      have : ¬ xs = ys := fun e => by rw [e, hb] at ha; injection ha with ha; exact h' ha.symm
      simp [this]
    · refine q_loopA (i + 1) (by refine ⟨?_, ?_⟩ <;> (repeat' (first | exact trivial | exact ⟨rfl, rfl⟩ | exact rfl | exact ⟨sub_fn, refs_fn⟩ | refine ⟨⟨rfl, rfl⟩, ?_⟩ | refine ⟨⟨sub_fn, refs_fn⟩, ?_⟩ | refine ⟨⟨rfl, fun h => Bool.noConfusion h⟩, ?_⟩ | refine ⟨⟨rfl, fun h => ?_⟩, ?_⟩ | refine ⟨rfl, ?_⟩ | refine ⟨?_, ?_⟩ | fail))) ⟨by omega, fun j hj => ?_⟩ (by omega)
      rcases Nat.lt_or_ge j i with hj' | hj'
      · exact hi2 j hj'
      · have : j = i := by omega
        rw [this, ha, hb, h']
  · repeat' (first
      | (refine g_exec ?_; first | (refine g_move ?_; refine x_moveO _ rfl ?_) | (refine g_assign ?_; refine x_assignO _ rfl ?_) | (refine g_bin ?_; first | (refine x_add rfl rfl (by omega) ?_) | (refine x_bin _ rfl rfl rfl ?_) | (refine x_boolNe (by assumption) rfl rfl ?_) | (refine x_strBin _ rfl rfl rfl ?_)) | (refine g_un ?_; first | (refine x_not rfl ?_) | (refine x_neg rfl (by omega) ?_)) | (refine g_load ?_; first | (refine x_load_pc (by assumption) rfl ?_) | (refine x_load_oc _ (by assumption) rfl rfl (by first | rfl | assumption | exact getSelf (by omega) | exact getNe (by omega) (by assumption)) rfl ?_) | (refine x_load_pa _ (by assumption) rfl (by first | (simp; done) | fail) (by (first | (simp only [lx, Nat.reduceAdd]; first | done | rfl) | fail)) ?_) | (refine x_load_oa _ (by assumption) rfl rfl (by first | rfl | assumption | exact getSelf (by omega) | exact getNe (by omega) (by assumption)) (by first | (simp; done) | fail) (by (first | (simp only [lx, Nat.reduceAdd]; first | done | rfl) | fail)) ?_)) | (refine g_index ?_; first | (refine x_index_l _ (by assumption) rfl rfl (by omega) (by assumption) ?_) | (refine x_index_o _ (by assumption) rfl rfl rfl rfl (by omega) (by omega) (by first | (rw [Nat.zero_add, Int.toNat_natCast]) | (rw [Nat.zero_add]) | rfl) ?_)) | (refine g_call ?_; first | (refine x_len_l (by assumption) rfl ?_) | (refine x_len_o (by assumption) rfl rfl ?_) | (refine x_len_n (by assumption) rfl ?_) | (refine x_len_s (by assumption) (evO_ok rfl) ?_)) | (refine x_nil (hK _ _ (.inl rfl) ?_); clear hK K) | (refine x_nil (hK _ _ (.inr (by kernel_rfl)) ?_); clear hK K))
      | (refine g_code ?_; first | (refine v_seq ?_) | (refine v_region (fun K hK => ?_)) | (refine v_block ?_) | (refine v_skip ?_) | (refine v_ret ?_) | (refine v_exit ?_) | (refine g_cond ?_; first | (refine v_cond_y rfl (by first | rfl | assumption | (simp only [sx]; omega) | (simp; done) | fail) ?_) | (refine v_cond_n rfl (by first | rfl | assumption | (simp only [sx]; omega) | (simp; done) | fail) ?_) | (refine v_condt rfl (fun h => ?_) (fun h => ?_) <;> (have h' := h; (try simp only [sx] at h')))))
      | (refine q_then ?_) | (refine q_then_r ?_) | (refine q_then_e ?_) | (refine q_blk_n ?_) | (refine q_blk_r ?_) | (refine q_blk_e ?_) | (refine q_blk_o rfl ?_) | (refine q_loop_r ?_) | (refine q_loop_e ?_) | (refine ret_n ?_))
    refine ret_bool rfl (lookE_ok rfl) ?_
    have : xs = ys := List.ext_getElem? fun j => by
      rcases Nat.lt_or_ge j i with hj | hj
      · exact hi2 j hj
      · rw [List.getElem?_eq_none (by omega), List.getElem?_eq_none (by omega)]
    simp [this]
theorem con_sameCutS (xs : List Cut) (hn : xs.length ≤ 1099511627776) : Con Try.prog 18 [.list 2 (xs.map Cut.pv), .list 2 (xs.map Cut.pv)] (.bool true) := by
  have := con_eqCutS xs xs hn
  simpa using this
theorem con_szCutS (es : List (List PV)) (n : Int) (hn : es.length ≤ 9223372036854775807) (h0 : 0 ≤ n ∧ n ≤ 1048576) : Con Try.prog 12 [.list 2 es, .int .i64 n] (.int .i64 (if n - es.length < 0 then -1 else n - es.length)) := by
  intro al
  refine contract_of hmix Try.func12 rfl (by kernel_rfl) (by kernel_rfl) (Nat.le_of_ble_eq_true rfl) (fun row h => by cases h) ?_
  have hty_u25 := ty_u25
  have hty_s25 := ty_s25
  repeat' (first
      | (refine g_exec ?_; first | (refine g_move ?_; refine x_moveO _ rfl ?_) | (refine g_assign ?_; refine x_assignO _ rfl ?_) | (refine g_bin ?_; first | (refine x_sub rfl rfl (by omega) ?_) | (refine x_bin _ rfl rfl rfl ?_) | (refine x_strBin _ rfl rfl rfl ?_)) | (refine g_call ?_; first | (refine x_len_l (by assumption) rfl ?_) | (refine x_len_o (by assumption) rfl rfl ?_) | (refine x_len_n (by assumption) rfl ?_) | (refine x_len_s (by assumption) (evO_ok rfl) ?_)) | (refine x_nil (hK _ _ (.inl rfl) ?_); clear hK K) | (refine x_nil (hK _ _ (.inr (by kernel_rfl)) ?_); clear hK K))
      | (refine g_code ?_; first | (refine v_seq ?_) | (refine v_region (fun K hK => ?_)) | (refine v_block ?_) | (refine v_skip ?_) | (refine v_ret ?_) | (refine v_exit ?_) | (refine g_cond ?_; first | (refine v_cond_y rfl (by first | rfl | assumption | (simp only [sx]; omega) | (simp; done) | fail) ?_) | (refine v_cond_n rfl (by first | rfl | assumption | (simp only [sx]; omega) | (simp; done) | fail) ?_) | (refine v_condt rfl (fun h => ?_) (fun h => ?_) <;> (have h' := h; (try simp only [sx] at h')))))
      | (refine q_then ?_) | (refine q_then_r ?_) | (refine q_then_e ?_) | (refine q_blk_n ?_) | (refine q_blk_r ?_) | (refine q_blk_e ?_) | (refine q_blk_o rfl ?_) | (refine q_loop_r ?_) | (refine q_loop_e ?_) | (refine ret_n ?_))
  · exact ret_int rfl (lookE_ok rfl) (by rw [if_pos (by omega)])
  · exact ret_int rfl (lookE_ok rfl) (by rw [if_neg (by omega)])
theorem con_toCutS (xs : List Cut) (hn : xs.length ≤ 1099511627776) : Con Try.prog 15 [.list 2 (xs.map Cut.pv)] (.olist 68 2 (xs.map Cut.pv)) := by
  intro al
  refine contract_of hmix Try.func15 rfl (by kernel_rfl) (by kernel_rfl) (Nat.le_of_ble_eq_true rfl) (fun row h => by cases h) ?_
  have hty_u25 := ty_u25
  have hty_s25 := ty_s25
  have hty_s31 := ty_s31
  have hty_z68 := ty_z68
  have hty_a70 := ty_a70
  have hty_t68 := ty_t68
  have hty_a68 := ty_a68
  have hl1 : (xs.map Cut.pv).length = xs.length := by simp
  repeat' (first
      | (refine g_exec ?_; first | (refine g_move ?_; refine x_moveO _ rfl ?_) | (refine g_assign ?_; refine x_assignO _ rfl ?_) | (refine g_bin ?_; first | (refine x_add rfl rfl (by omega) ?_) | (refine x_bin _ rfl rfl rfl ?_) | (refine x_strBin _ rfl rfl rfl ?_)) | (refine g_load ?_; first | (refine x_load_pc (by assumption) rfl ?_) | (refine x_load_oc _ (by assumption) rfl rfl (by first | rfl | assumption | exact getSelf (by omega) | exact getNe (by omega) (by assumption)) rfl ?_) | (refine x_load_pa _ (by assumption) rfl (by first | (simp; done) | fail) (by (first | (simp only [lx, Nat.reduceAdd]; first | done | rfl) | fail)) ?_) | (refine x_load_oa _ (by assumption) rfl rfl (by first | rfl | assumption | exact getSelf (by omega) | exact getNe (by omega) (by assumption)) (by first | (simp; done) | fail) (by (first | (simp only [lx, Nat.reduceAdd]; first | done | rfl) | fail)) ?_)) | (refine g_index ?_; first | (refine x_index_l _ (by assumption) rfl rfl (by omega) (by assumption) ?_) | (refine x_index_o _ (by assumption) rfl rfl rfl rfl (by omega) (by omega) (by first | (rw [Nat.zero_add, Int.toNat_natCast]) | (rw [Nat.zero_add]) | rfl) ?_)) | (refine g_call ?_; first | (refine x_len_l (by assumption) rfl ?_) | (refine x_len_o (by assumption) rfl rfl ?_) | (refine x_len_n (by assumption) rfl ?_) | (refine x_len_s (by assumption) (evO_ok rfl) ?_)) | (refine x_storeO _ _ _ rfl rfl (by first | rfl | assumption | exact getSelf (by omega) | exact getNe (by omega) (by assumption)) (by first | assumption | (exact TAgg.size (by assumption))) rfl rfl rfl (by first | (simp; done) | fail) rfl (by (first | (simp only [lx, Nat.reduceAdd]; first | done | rfl) | fail)) (by first | (first | (simp only [lx, Nat.reduceAdd]; first | done | rfl) | fail) | rfl) ?_) | (refine x_make (by assumption) (by assumption) rfl rfl rfl (by omega) rfl ?_) | (refine x_nil (hK _ _ (.inl rfl) ?_); clear hK K) | (refine x_nil (hK _ _ (.inr (by kernel_rfl)) ?_); clear hK K))
      | (refine g_code ?_; first | (refine v_seq ?_) | (refine v_region (fun K hK => ?_)) | (refine v_block ?_) | (refine v_skip ?_) | (refine v_ret ?_) | (refine v_exit ?_) | (refine g_cond ?_; first | (refine v_cond_y rfl (by first | rfl | assumption | (simp only [sx]; omega) | (simp; done) | fail) ?_) | (refine v_cond_n rfl (by first | rfl | assumption | (simp only [sx]; omega) | (simp; done) | fail) ?_) | (refine v_condt rfl (fun h => ?_) (fun h => ?_) <;> (have h' := h; (try simp only [sx] at h')))))
      | (refine q_then ?_) | (refine q_then_r ?_) | (refine q_then_e ?_) | (refine q_blk_n ?_) | (refine q_blk_r ?_) | (refine q_blk_e ?_) | (refine q_blk_o rfl ?_) | (refine q_loop_r ?_) | (refine q_loop_e ?_) | (refine ret_n ?_))
  refine v_loopA (fun p : Nat × List (List PV) => ⟨[(0, .list 2 (xs.map Cut.pv)), (3, .osl (7, 0) 0 (xs.map Cut.pv).length), (4, .int .i64 p.1)], [((7, 0), some ⟨68, 2, p.2, false⟩)]⟩)
    (fun p => p.1 ≤ xs.length ∧ p.2.length = xs.length ∧ (∀ j, j < p.1 → p.2[j]? = (xs.map Cut.pv)[j]?) ∧ ∀ e ∈ p.2, e.length = 2) (fun p => xs.length - p.1) (0, List.replicate (xs.map Cut.pv).length [.int .i64 0, .int .i64 0]) (by refine ⟨?_, ?_⟩ <;> (repeat' (first | exact trivial | exact ⟨rfl, rfl⟩ | exact rfl | exact ⟨sub_fn, refs_fn⟩ | refine ⟨⟨rfl, rfl⟩, ?_⟩ | refine ⟨⟨sub_fn, refs_fn⟩, ?_⟩ | refine ⟨⟨rfl, fun h => Bool.noConfusion h⟩, ?_⟩ | refine ⟨⟨rfl, fun h => ?_⟩, ?_⟩ | refine ⟨rfl, ?_⟩ | refine ⟨?_, ?_⟩ | fail)))
    ⟨by simp, by simp, fun j hj => by simp at hj, fun e he => by rw [List.eq_of_mem_replicate he]; rfl⟩ (fun p hp => ?_)
  obtain ⟨i, es⟩ := p
  obtain ⟨hi1, hi2, hi3, hi4⟩ := hp
  simp only at hi1 hi2 hi3 hi4
  rcases Nat.lt_or_ge i xs.length with hlt | hge
  · obtain ⟨a, hga⟩ : ∃ a, xs[i]? = some a := ⟨xs[i], List.getElem?_eq_getElem hlt⟩
    have hx := Cut.at hga
    obtain ⟨e, he⟩ : ∃ e, es[i]? = some e := ⟨es[i]'(by omega), List.getElem?_eq_getElem (by omega)⟩
    obtain ⟨e0, e1, rfl⟩ : ∃ e0 e1, e = [e0, e1] := by
      have := hi4 e (List.mem_of_getElem? he)
      match e, this with
      | [a, b], _ => exact ⟨a, b, rfl⟩
    repeat' (first
      | (refine g_exec ?_; first | (refine g_move ?_; refine x_moveO _ rfl ?_) | (refine g_assign ?_; refine x_assignO _ rfl ?_) | (refine g_bin ?_; first | (refine x_add rfl rfl (by omega) ?_) | (refine x_bin _ rfl rfl rfl ?_) | (refine x_strBin _ rfl rfl rfl ?_)) | (refine g_load ?_; first | (refine x_load_pc (by assumption) rfl ?_) | (refine x_load_oc _ (by assumption) rfl rfl (by first | rfl | assumption | exact getSelf (by omega) | exact getNe (by omega) (by assumption)) rfl ?_) | (refine x_load_pa _ (by assumption) rfl (by first | (simp; done) | fail) (by (first | (simp only [lx, Nat.reduceAdd]; first | done | rfl) | fail)) ?_) | (refine x_load_oa _ (by assumption) rfl rfl (by first | rfl | assumption | exact getSelf (by omega) | exact getNe (by omega) (by assumption)) (by first | (simp; done) | fail) (by (first | (simp only [lx, Nat.reduceAdd]; first | done | rfl) | fail)) ?_)) | (refine g_index ?_; first | (refine x_index_l _ (by assumption) rfl rfl (by omega) (by assumption) ?_) | (refine x_index_o _ (by assumption) rfl rfl rfl rfl (by omega) (by omega) (by first | (rw [Nat.zero_add, Int.toNat_natCast]) | (rw [Nat.zero_add]) | rfl) ?_)) | (refine g_call ?_; first | (refine x_callG true (con_toCut a) rfl rfl rfl (by (repeat' (first | exact trivial | exact rfl | exact allR_ptrs _ | exact .inl rfl | exact sn_all rfl rfl rfl | exact sn_all rfl rfl (by first | omega | (simp; done) | fail) | exact sn_part rfl rfl (by first | (simp; done) | exact (takeAll (by assumption)).symm | exact (takeAll (by first | (simp; done) | omega | fail)).symm | (first | (simp only [lx, Nat.reduceAdd]; first | done | rfl) | fail) | fail) | refine sn_own rfl rfl rfl ?_ | exact List.length_map .. | refine ⟨?_, ?_⟩)); first | done | fail) rfl (by simp only [thaw, thawT, thaw1, thawL, Nat.zero_add, Nat.reduceAdd]; exact rfl) ?_; simp only [List.cons_append, List.nil_append, List.map_cons, List.map_nil]) | (refine x_len_l (by assumption) rfl ?_) | (refine x_len_o (by assumption) rfl rfl ?_) | (refine x_len_n (by assumption) rfl ?_) | (refine x_len_s (by assumption) (evO_ok rfl) ?_)) | (refine x_storeO _ _ _ rfl rfl (by first | rfl | assumption | exact getSelf (by omega) | exact getNe (by omega) (by assumption)) (by first | assumption | (exact TAgg.size (by assumption))) rfl rfl rfl (by first | (simp; done) | fail) rfl (by (first | (simp only [lx, Nat.reduceAdd]; first | done | rfl) | fail)) (by first | (first | (simp only [lx, Nat.reduceAdd]; first | done | rfl) | fail) | rfl) ?_) | (refine x_make (by assumption) (by assumption) rfl rfl rfl (by omega) rfl ?_) | (refine x_nil (hK _ _ (.inl rfl) ?_); clear hK K) | (refine x_nil (hK _ _ (.inr (by kernel_rfl)) ?_); clear hK K))
      | (refine g_code ?_; first | (refine v_seq ?_) | (refine v_region (fun K hK => ?_)) | (refine v_block ?_) | (refine v_skip ?_) | (refine v_ret ?_) | (refine v_exit ?_) | (refine g_cond ?_; first | (refine v_cond_y rfl (by first | rfl | assumption | (simp only [sx]; omega) | (simp; done) | fail) ?_) | (refine v_cond_n rfl (by first | rfl | assumption | (simp only [sx]; omega) | (simp; done) | fail) ?_) | (refine v_condt rfl (fun h => ?_) (fun h => ?_) <;> (have h' := h; (try simp only [sx] at h')))))
      | (refine q_then ?_) | (refine q_then_r ?_) | (refine q_then_e ?_) | (refine q_blk_n ?_) | (refine q_blk_r ?_) | (refine q_blk_e ?_) | (refine q_blk_o rfl ?_) | (refine q_loop_r ?_) | (refine q_loop_e ?_) | (refine ret_n ?_))
    refine q_loopA (i + 1, es.set i a.pv) (by refine ⟨?_, ?_⟩ <;> (repeat' (first | exact trivial | exact ⟨rfl, rfl⟩ | exact rfl | exact ⟨sub_fn, refs_fn⟩ | refine ⟨⟨rfl, rfl⟩, ?_⟩ | refine ⟨⟨sub_fn, refs_fn⟩, ?_⟩ | refine ⟨⟨rfl, fun h => Bool.noConfusion h⟩, ?_⟩ | refine ⟨⟨rfl, fun h => ?_⟩, ?_⟩ | refine ⟨rfl, ?_⟩ | refine ⟨?_, ?_⟩ | fail))) ⟨by simp only; omega, by simp [hi2], fun j hj => ?_, fun e he => ?_⟩ (by simp only; omega)
    · simp only at hj ⊢
      by_cases hji : j = i
      · subst hji
        rw [List.getElem?_set_self (by omega)]
        exact hx.symm
      · rw [List.getElem?_set_ne (fun e => hji e.symm)]
        exact hi3 j (by omega)
    · rcases List.mem_or_eq_of_mem_set he with h1 | h1
      · exact hi4 e h1
      · rw [h1]; rfl
  · have hes : es = xs.map Cut.pv := List.ext_getElem? fun j => by
      rcases Nat.lt_or_ge j i with hj | hj
      · exact hi3 j hj
      · rw [List.getElem?_eq_none (by omega), List.getElem?_eq_none (by omega)]
    subst hes
    repeat' (first
      | (refine g_exec ?_; first | (refine g_move ?_; refine x_moveO _ rfl ?_) | (refine g_assign ?_; refine x_assignO _ rfl ?_) | (refine g_bin ?_; first | (refine x_add rfl rfl (by omega) ?_) | (refine x_bin _ rfl rfl rfl ?_) | (refine x_strBin _ rfl rfl rfl ?_)) | (refine g_load ?_; first | (refine x_load_pc (by assumption) rfl ?_) | (refine x_load_oc _ (by assumption) rfl rfl (by first | rfl | assumption | exact getSelf (by omega) | exact getNe (by omega) (by assumption)) rfl ?_) | (refine x_load_pa _ (by assumption) rfl (by first | (simp; done) | fail) (by (first | (simp only [lx, Nat.reduceAdd]; first | done | rfl) | fail)) ?_) | (refine x_load_oa _ (by assumption) rfl rfl (by first | rfl | assumption | exact getSelf (by omega) | exact getNe (by omega) (by assumption)) (by first | (simp; done) | fail) (by (first | (simp only [lx, Nat.reduceAdd]; first | done | rfl) | fail)) ?_)) | (refine g_index ?_; first | (refine x_index_l _ (by assumption) rfl rfl (by omega) (by assumption) ?_) | (refine x_index_o _ (by assumption) rfl rfl rfl rfl (by omega) (by omega) (by first | (rw [Nat.zero_add, Int.toNat_natCast]) | (rw [Nat.zero_add]) | rfl) ?_)) | (refine g_call ?_; first | (refine x_len_l (by assumption) rfl ?_) | (refine x_len_o (by assumption) rfl rfl ?_) | (refine x_len_n (by assumption) rfl ?_) | (refine x_len_s (by assumption) (evO_ok rfl) ?_)) | (refine x_storeO _ _ _ rfl rfl (by first | rfl | assumption | exact getSelf (by omega) | exact getNe (by omega) (by assumption)) (by first | assumption | (exact TAgg.size (by assumption))) rfl rfl rfl (by first | (simp; done) | fail) rfl (by (first | (simp only [lx, Nat.reduceAdd]; first | done | rfl) | fail)) (by first | (first | (simp only [lx, Nat.reduceAdd]; first | done | rfl) | fail) | rfl) ?_) | (refine x_make (by assumption) (by assumption) rfl rfl rfl (by omega) rfl ?_) | (refine x_nil (hK _ _ (.inl rfl) ?_); clear hK K) | (refine x_nil (hK _ _ (.inr (by kernel_rfl)) ?_); clear hK K))
      | (refine g_code ?_; first | (refine v_seq ?_) | (refine v_region (fun K hK => ?_)) | (refine v_block ?_) | (refine v_skip ?_) | (refine v_ret ?_) | (refine v_exit ?_) | (refine g_cond ?_; first | (refine v_cond_y rfl (by first | rfl | assumption | (simp only [sx]; omega) | (simp; done) | fail) ?_) | (refine v_cond_n rfl (by first | rfl | assumption | (simp only [sx]; omega) | (simp; done) | fail) ?_) | (refine v_condt rfl (fun h => ?_) (fun h => ?_) <;> (have h' := h; (try simp only [sx] at h')))))
      | (refine q_then ?_) | (refine q_then_r ?_) | (refine q_then_e ?_) | (refine q_blk_n ?_) | (refine q_blk_r ?_) | (refine q_blk_e ?_) | (refine q_blk_o rfl ?_) | (refine q_loop_r ?_) | (refine q_loop_e ?_) | (refine ret_n ?_))
    exact ret_list rfl (lookE_ok (by rfl)) (by rfl) (by decide) rfl (Cut.flat xs) rfl
def markCut (k : Int) (n : Nat) : List Cut := (List.range n).map fun i : Nat => ⟨k + 2 * (i : Int), k + 2 * (i : Int) + 1⟩
theorem markCut_len (k : Int) (n : Nat) : (markCut k n).length = n := by simp [markCut]
theorem markCut_at {k : Int} {n i : Nat} (h : i < n) : (markCut k n)[i]? = some ⟨k + 2 * i, k + 2 * i + 1⟩ := by simp [markCut, h]
theorem con_heldCutS (k : Int) (n : Nat) (hn : n ≤ 1099511627776) (hk : 0 ≤ k ∧ k ≤ 1099511627776) : Con Try.prog 23 [.list 2 ((markCut k n).map Cut.pv), .int .i64 k] (.int .i64 (k + 2 * n)) := by
  intro al
  refine contract_of hmix Try.func23 rfl (by kernel_rfl) (by kernel_rfl) (Nat.le_of_ble_eq_true rfl) (fun row h => by cases h) ?_
  have hty_u31 := ty_u31
  have hty_s31 := ty_s31
  have hty_f68_0 := ty_f68_0
  have hty_c3 := ty_c3
  have hty_f68_1 := ty_f68_1
  have hl1 : ((markCut k n).map Cut.pv).length = n := by simp [markCut_len]
  repeat' (first
      | (refine g_exec ?_; first | (refine g_move ?_; refine x_moveO _ rfl ?_) | (refine g_assign ?_; refine x_assignO _ rfl ?_) | (refine g_bin ?_; first | (refine x_add rfl rfl (by omega) ?_) | (refine x_bin _ rfl rfl rfl ?_) | (refine x_boolNe (by assumption) rfl rfl ?_) | (refine x_strBin _ rfl rfl rfl ?_)) | (refine g_load ?_; first | (refine x_load_pc (by assumption) rfl ?_) | (refine x_load_oc _ (by assumption) rfl rfl (by first | rfl | assumption | exact getSelf (by omega) | exact getNe (by omega) (by assumption)) rfl ?_) | (refine x_load_pa _ (by assumption) rfl (by first | (simp; done) | fail) (by (first | (simp only [lx, Nat.reduceAdd]; first | done | rfl) | fail)) ?_) | (refine x_load_oa _ (by assumption) rfl rfl (by first | rfl | assumption | exact getSelf (by omega) | exact getNe (by omega) (by assumption)) (by first | (simp; done) | fail) (by (first | (simp only [lx, Nat.reduceAdd]; first | done | rfl) | fail)) ?_)) | (refine g_field ?_; first | (refine x_field_p _ (by assumption) rfl (by (first | (simp only [lx, Nat.reduceAdd]; first | done | rfl) | fail)) ?_) | (refine x_field_o _ (by assumption) rfl rfl (by simp only [lx, Nat.reduceAdd]; first | done | rfl) ?_)) | (refine g_index ?_; first | (refine x_index_l _ (by assumption) rfl rfl (by omega) (by assumption) ?_) | (refine x_index_o _ (by assumption) rfl rfl rfl rfl (by omega) (by omega) (by first | (rw [Nat.zero_add, Int.toNat_natCast]) | (rw [Nat.zero_add]) | rfl) ?_)) | (refine g_call ?_; first | (refine x_len_l (by assumption) rfl ?_) | (refine x_len_o (by assumption) rfl rfl ?_) | (refine x_len_n (by assumption) rfl ?_) | (refine x_len_s (by assumption) (evO_ok rfl) ?_)) | (refine x_nil (hK _ _ (.inl rfl) ?_); clear hK K) | (refine x_nil (hK _ _ (.inr (by kernel_rfl)) ?_); clear hK K))
      | (refine g_code ?_; first | (refine v_seq ?_) | (refine v_region (fun K hK => ?_)) | (refine v_block ?_) | (refine v_skip ?_) | (refine v_ret ?_) | (refine v_exit ?_) | (refine g_cond ?_; first | (refine v_cond_y rfl (by first | rfl | assumption | (simp only [sx]; omega) | (simp; done) | fail) ?_) | (refine v_cond_n rfl (by first | rfl | assumption | (simp only [sx]; omega) | (simp; done) | fail) ?_) | (refine v_condt rfl (fun h => ?_) (fun h => ?_) <;> (have h' := h; (try simp only [sx] at h')))))
      | (refine q_then ?_) | (refine q_then_r ?_) | (refine q_then_e ?_) | (refine q_blk_n ?_) | (refine q_blk_r ?_) | (refine q_blk_e ?_) | (refine q_blk_o rfl ?_) | (refine q_loop_r ?_) | (refine q_loop_e ?_) | (refine ret_n ?_))
  refine v_loopA (fun p : Nat × Int => ⟨[(0, .list 2 ((markCut k n).map Cut.pv)), (1, .int .i64 p.2), (5, .int .i64 p.1)], []⟩) (fun p => p.1 ≤ n ∧ p.2 = k + 2 * p.1) (fun p => n - p.1) (0, k) (by refine ⟨?_, ?_⟩ <;> (repeat' (first | exact trivial | exact ⟨rfl, rfl⟩ | exact rfl | exact ⟨sub_fn, refs_fn⟩ | refine ⟨⟨rfl, rfl⟩, ?_⟩ | refine ⟨⟨sub_fn, refs_fn⟩, ?_⟩ | refine ⟨⟨rfl, fun h => Bool.noConfusion h⟩, ?_⟩ | refine ⟨⟨rfl, fun h => ?_⟩, ?_⟩ | refine ⟨rfl, ?_⟩ | refine ⟨?_, ?_⟩ | fail))) ⟨by simp, by simp⟩ (fun p hp => ?_)
  obtain ⟨i, q⟩ := p
  obtain ⟨hi1, hi2⟩ := hp
  simp only at hi1 hi2
  rcases Nat.lt_or_ge i n with hlt | hge
  · have hx := Cut.at (markCut_at (k := k) hlt)
    simp only at hx
    rw [← hi2] at hx

    dsimp only
    repeat' (first
      | (refine g_exec ?_; first | (refine g_move ?_; refine x_moveO _ rfl ?_) | (refine g_assign ?_; refine x_assignO _ rfl ?_) | (refine g_bin ?_; first | (refine x_add rfl rfl (by omega) ?_) | (refine x_bin _ rfl rfl rfl ?_) | (refine x_boolNe (by assumption) rfl rfl ?_) | (refine x_strBin _ rfl rfl rfl ?_)) | (refine g_load ?_; first | (refine x_load_pc (by assumption) rfl ?_) | (refine x_load_oc _ (by assumption) rfl rfl (by first | rfl | assumption | exact getSelf (by omega) | exact getNe (by omega) (by assumption)) rfl ?_) | (refine x_load_pa _ (by assumption) rfl (by first | (simp; done) | fail) (by (first | (simp only [lx, Nat.reduceAdd]; first | done | rfl) | fail)) ?_) | (refine x_load_oa _ (by assumption) rfl rfl (by first | rfl | assumption | exact getSelf (by omega) | exact getNe (by omega) (by assumption)) (by first | (simp; done) | fail) (by (first | (simp only [lx, Nat.reduceAdd]; first | done | rfl) | fail)) ?_)) | (refine g_field ?_; first | (refine x_field_p _ (by assumption) rfl (by (first | (simp only [lx, Nat.reduceAdd]; first | done | rfl) | fail)) ?_) | (refine x_field_o _ (by assumption) rfl rfl (by simp only [lx, Nat.reduceAdd]; first | done | rfl) ?_)) | (refine g_index ?_; first | (refine x_index_l _ (by assumption) rfl rfl (by omega) (by assumption) ?_) | (refine x_index_o _ (by assumption) rfl rfl rfl rfl (by omega) (by omega) (by first | (rw [Nat.zero_add, Int.toNat_natCast]) | (rw [Nat.zero_add]) | rfl) ?_)) | (refine g_call ?_; first | (refine x_len_l (by assumption) rfl ?_) | (refine x_len_o (by assumption) rfl rfl ?_) | (refine x_len_n (by assumption) rfl ?_) | (refine x_len_s (by assumption) (evO_ok rfl) ?_)) | (refine x_nil (hK _ _ (.inl rfl) ?_); clear hK K) | (refine x_nil (hK _ _ (.inr (by kernel_rfl)) ?_); clear hK K))
      | (refine g_code ?_; first | (refine v_seq ?_) | (refine v_region (fun K hK => ?_)) | (refine v_block ?_) | (refine v_skip ?_) | (refine v_ret ?_) | (refine v_exit ?_) | (refine g_cond ?_; first | (refine v_cond_y rfl (by first | rfl | assumption | (simp only [sx]; omega) | (simp; done) | fail) ?_) | (refine v_cond_n rfl (by first | rfl | assumption | (simp only [sx]; omega) | (simp; done) | fail) ?_) | (refine v_condt rfl (fun h => ?_) (fun h => ?_) <;> (have h' := h; (try simp only [sx] at h')))))
      | (refine q_then ?_) | (refine q_then_r ?_) | (refine q_then_e ?_) | (refine q_blk_n ?_) | (refine q_blk_r ?_) | (refine q_blk_e ?_) | (refine q_blk_o rfl ?_) | (refine q_loop_r ?_) | (refine q_loop_e ?_) | (refine ret_n ?_))
    all_goals first | (exfalso; first | omega | simp_all; done) | skip
    refine q_loopA (i + 1, q + 1 + 1) (by refine ⟨?_, ?_⟩ <;> (repeat' (first | exact trivial | exact ⟨rfl, rfl⟩ | exact rfl | exact ⟨sub_fn, refs_fn⟩ | refine ⟨⟨rfl, rfl⟩, ?_⟩ | refine ⟨⟨sub_fn, refs_fn⟩, ?_⟩ | refine ⟨⟨rfl, fun h => Bool.noConfusion h⟩, ?_⟩ | refine ⟨⟨rfl, fun h => ?_⟩, ?_⟩ | refine ⟨rfl, ?_⟩ | refine ⟨?_, ?_⟩ | fail))) ⟨by simp only; omega, by simp only; omega⟩ (by simp only; omega)
  · repeat' (first
      | (refine g_exec ?_; first | (refine g_move ?_; refine x_moveO _ rfl ?_) | (refine g_assign ?_; refine x_assignO _ rfl ?_) | (refine g_bin ?_; first | (refine x_add rfl rfl (by omega) ?_) | (refine x_bin _ rfl rfl rfl ?_) | (refine x_boolNe (by assumption) rfl rfl ?_) | (refine x_strBin _ rfl rfl rfl ?_)) | (refine g_load ?_; first | (refine x_load_pc (by assumption) rfl ?_) | (refine x_load_oc _ (by assumption) rfl rfl (by first | rfl | assumption | exact getSelf (by omega) | exact getNe (by omega) (by assumption)) rfl ?_) | (refine x_load_pa _ (by assumption) rfl (by first | (simp; done) | fail) (by (first | (simp only [lx, Nat.reduceAdd]; first | done | rfl) | fail)) ?_) | (refine x_load_oa _ (by assumption) rfl rfl (by first | rfl | assumption | exact getSelf (by omega) | exact getNe (by omega) (by assumption)) (by first | (simp; done) | fail) (by (first | (simp only [lx, Nat.reduceAdd]; first | done | rfl) | fail)) ?_)) | (refine g_field ?_; first | (refine x_field_p _ (by assumption) rfl (by (first | (simp only [lx, Nat.reduceAdd]; first | done | rfl) | fail)) ?_) | (refine x_field_o _ (by assumption) rfl rfl (by simp only [lx, Nat.reduceAdd]; first | done | rfl) ?_)) | (refine g_index ?_; first | (refine x_index_l _ (by assumption) rfl rfl (by omega) (by assumption) ?_) | (refine x_index_o _ (by assumption) rfl rfl rfl rfl (by omega) (by omega) (by first | (rw [Nat.zero_add, Int.toNat_natCast]) | (rw [Nat.zero_add]) | rfl) ?_)) | (refine g_call ?_; first | (refine x_len_l (by assumption) rfl ?_) | (refine x_len_o (by assumption) rfl rfl ?_) | (refine x_len_n (by assumption) rfl ?_) | (refine x_len_s (by assumption) (evO_ok rfl) ?_)) | (refine x_nil (hK _ _ (.inl rfl) ?_); clear hK K) | (refine x_nil (hK _ _ (.inr (by kernel_rfl)) ?_); clear hK K))
      | (refine g_code ?_; first | (refine v_seq ?_) | (refine v_region (fun K hK => ?_)) | (refine v_block ?_) | (refine v_skip ?_) | (refine v_ret ?_) | (refine v_exit ?_) | (refine g_cond ?_; first | (refine v_cond_y rfl (by first | rfl | assumption | (simp only [sx]; omega) | (simp; done) | fail) ?_) | (refine v_cond_n rfl (by first | rfl | assumption | (simp only [sx]; omega) | (simp; done) | fail) ?_) | (refine v_condt rfl (fun h => ?_) (fun h => ?_) <;> (have h' := h; (try simp only [sx] at h')))))
      | (refine q_then ?_) | (refine q_then_r ?_) | (refine q_then_e ?_) | (refine q_blk_n ?_) | (refine q_blk_r ?_) | (refine q_blk_e ?_) | (refine q_blk_o rfl ?_) | (refine q_loop_r ?_) | (refine q_loop_e ?_) | (refine ret_n ?_))
    exact ret_int rfl (lookE_ok rfl) (by show q = _; omega)
theorem con_markCutS (xs : List Cut) (k : Int) (hn : xs.length ≤ 1099511627776) (hk : 0 ≤ k ∧ k ≤ 1099511627776) : ContractP Try.prog 22 true [.osl (io, 0) 0 xs.length, .int .i64 k] [⟨68, 2, xs.map Cut.pv, false⟩] (fun r' fin' => r' = .int .i64 (k + 2 * xs.length) ∧ fin' = [(markCut k xs.length).map Cut.pv]) := by
  refine contract_of hmix Try.func22 rfl (by kernel_rfl) (by kernel_rfl) (Nat.le_of_ble_eq_true rfl) (fun row h => by simp at h; subst h; rfl) ?_
  have hty_u31 := ty_u31
  have hty_s31 := ty_s31
  have hty_f68_0 := ty_f68_0
  have hty_t3 := ty_t3
  have hty_f68_1 := ty_f68_1
  have hl1 : (xs.map Cut.pv).length = xs.length := by simp
  repeat' (first
      | (refine g_exec ?_; first | (refine g_move ?_; refine x_moveO _ rfl ?_) | (refine g_assign ?_; refine x_assignO _ rfl ?_) | (refine g_bin ?_; first | (refine x_add rfl rfl (by omega) ?_) | (refine x_bin _ rfl rfl rfl ?_) | (refine x_strBin _ rfl rfl rfl ?_)) | (refine g_field ?_; first | (refine x_field_p _ (by assumption) rfl (by (first | (simp only [lx, Nat.reduceAdd]; first | done | rfl) | fail)) ?_) | (refine x_field_o _ (by assumption) rfl rfl (by simp only [lx, Nat.reduceAdd]; first | done | rfl) ?_)) | (refine g_index ?_; first | (refine x_index_l _ (by assumption) rfl rfl (by omega) (by assumption) ?_) | (refine x_index_o _ (by assumption) rfl rfl rfl rfl (by omega) (by omega) (by first | (rw [Nat.zero_add, Int.toNat_natCast]) | (rw [Nat.zero_add]) | rfl) ?_)) | (refine g_call ?_; first | (refine x_len_l (by assumption) rfl ?_) | (refine x_len_o (by assumption) rfl rfl ?_) | (refine x_len_n (by assumption) rfl ?_) | (refine x_len_s (by assumption) (evO_ok rfl) ?_)) | (refine x_storeO _ _ _ rfl rfl (by first | rfl | assumption | exact getSelf (by omega) | exact getNe (by omega) (by assumption)) (by first | assumption | (exact TAgg.size (by assumption))) rfl rfl rfl (by first | (simp; done) | fail) rfl (by (first | (simp only [lx, Nat.reduceAdd]; first | done | rfl) | fail)) (by first | (first | (simp only [lx, Nat.reduceAdd]; first | done | rfl) | fail) | rfl) ?_) | (refine x_nil (hK _ _ (.inl rfl) ?_); clear hK K) | (refine x_nil (hK _ _ (.inr (by kernel_rfl)) ?_); clear hK K))
      | (refine g_code ?_; first | (refine v_seq ?_) | (refine v_region (fun K hK => ?_)) | (refine v_block ?_) | (refine v_skip ?_) | (refine v_ret ?_) | (refine v_exit ?_) | (refine g_cond ?_; first | (refine v_cond_y rfl (by first | rfl | assumption | (simp only [sx]; omega) | (simp; done) | fail) ?_) | (refine v_cond_n rfl (by first | rfl | assumption | (simp only [sx]; omega) | (simp; done) | fail) ?_) | (refine v_condt rfl (fun h => ?_) (fun h => ?_) <;> (have h' := h; (try simp only [sx] at h')))))
      | (refine q_then ?_) | (refine q_then_r ?_) | (refine q_then_e ?_) | (refine q_blk_n ?_) | (refine q_blk_r ?_) | (refine q_blk_e ?_) | (refine q_blk_o rfl ?_) | (refine q_loop_r ?_) | (refine q_loop_e ?_) | (refine ret_n ?_))
  refine v_loopA (fun p : Nat × Int × List (List PV) => ⟨[(0, .osl (io, 0) 0 xs.length), (1, .int .i64 p.2.1), (5, .int .i64 p.1)], [((io, 0), some ⟨68, 2, p.2.2, false⟩)]⟩)
    (fun p => p.1 ≤ xs.length ∧ p.2.1 = k + 2 * p.1 ∧ p.2.2.length = xs.length ∧ (∀ j, j < p.1 → p.2.2[j]? = ((markCut k xs.length).map Cut.pv)[j]?) ∧ ∀ e ∈ p.2.2, e.length = 2) (fun p => xs.length - p.1) (0, k, xs.map Cut.pv) (by refine ⟨?_, ?_⟩ <;> (repeat' (first | exact trivial | exact ⟨rfl, rfl⟩ | exact rfl | exact ⟨sub_fn, refs_fn⟩ | refine ⟨⟨rfl, rfl⟩, ?_⟩ | refine ⟨⟨sub_fn, refs_fn⟩, ?_⟩ | refine ⟨⟨rfl, fun h => Bool.noConfusion h⟩, ?_⟩ | refine ⟨⟨rfl, fun h => ?_⟩, ?_⟩ | refine ⟨rfl, ?_⟩ | refine ⟨?_, ?_⟩ | fail)))
    ⟨by simp, by simp, by simp, fun j hj => by simp at hj, fun e he => by obtain ⟨a, _, rfl⟩ := List.mem_map.1 he; rfl⟩ (fun p hp => ?_)
  obtain ⟨i, q, es⟩ := p
  obtain ⟨hi1, hi2, hi3, hi4, hi5⟩ := hp
  simp only at hi1 hi2 hi3 hi4 hi5
  rcases Nat.lt_or_ge i xs.length with hlt | hge
  · obtain ⟨e, he⟩ : ∃ e, es[i]? = some e := ⟨es[i]'(by omega), List.getElem?_eq_getElem (by omega)⟩
    obtain ⟨e0, e1, rfl⟩ : ∃ e0 e1, e = [e0, e1] := by
      have := hi5 e (List.mem_of_getElem? he)
      match e, this with
      | [a, b], _ => exact ⟨a, b, rfl⟩
    dsimp only
    repeat' (first
      | (refine g_exec ?_; first | (refine g_move ?_; refine x_moveO _ rfl ?_) | (refine g_assign ?_; refine x_assignO _ rfl ?_) | (refine g_bin ?_; first | (refine x_add rfl rfl (by omega) ?_) | (refine x_bin _ rfl rfl rfl ?_) | (refine x_strBin _ rfl rfl rfl ?_)) | (refine g_field ?_; first | (refine x_field_p _ (by assumption) rfl (by (first | (simp only [lx, Nat.reduceAdd]; first | done | rfl) | fail)) ?_) | (refine x_field_o _ (by assumption) rfl rfl (by simp only [lx, Nat.reduceAdd]; first | done | rfl) ?_)) | (refine g_index ?_; first | (refine x_index_l _ (by assumption) rfl rfl (by omega) (by assumption) ?_) | (refine x_index_o _ (by assumption) rfl rfl rfl rfl (by omega) (by omega) (by first | (rw [Nat.zero_add, Int.toNat_natCast]) | (rw [Nat.zero_add]) | rfl) ?_)) | (refine g_call ?_; first | (refine x_len_l (by assumption) rfl ?_) | (refine x_len_o (by assumption) rfl rfl ?_) | (refine x_len_n (by assumption) rfl ?_) | (refine x_len_s (by assumption) (evO_ok rfl) ?_)) | (refine x_storeO _ _ _ rfl rfl (by first | rfl | assumption | exact getSelf (by omega) | exact getNe (by omega) (by assumption)) (by first | assumption | (exact TAgg.size (by assumption))) rfl rfl rfl (by first | (simp; done) | fail) rfl (by (first | (simp only [lx, Nat.reduceAdd]; first | done | rfl) | fail)) (by first | (first | (simp only [lx, Nat.reduceAdd]; first | done | rfl) | fail) | rfl) ?_) | (refine x_nil (hK _ _ (.inl rfl) ?_); clear hK K) | (refine x_nil (hK _ _ (.inr (by kernel_rfl)) ?_); clear hK K))
      | (refine g_code ?_; first | (refine v_seq ?_) | (refine v_region (fun K hK => ?_)) | (refine v_block ?_) | (refine v_skip ?_) | (refine v_ret ?_) | (refine v_exit ?_) | (refine g_cond ?_; first | (refine v_cond_y rfl (by first | rfl | assumption | (simp only [sx]; omega) | (simp; done) | fail) ?_) | (refine v_cond_n rfl (by first | rfl | assumption | (simp only [sx]; omega) | (simp; done) | fail) ?_) | (refine v_condt rfl (fun h => ?_) (fun h => ?_) <;> (have h' := h; (try simp only [sx] at h')))))
      | (refine q_then ?_) | (refine q_then_r ?_) | (refine q_then_e ?_) | (refine q_blk_n ?_) | (refine q_blk_r ?_) | (refine q_blk_e ?_) | (refine q_blk_o rfl ?_) | (refine q_loop_r ?_) | (refine q_loop_e ?_) | (refine ret_n ?_))
    refine q_loopA (i + 1, q + 1 + 1, es.set i [.int .i64 q, .int .i64 (q + 1)]) (by refine ⟨?_, ?_⟩ <;> (repeat' (first | exact trivial | exact ⟨rfl, rfl⟩ | exact rfl | exact ⟨sub_fn, refs_fn⟩ | refine ⟨⟨rfl, rfl⟩, ?_⟩ | refine ⟨⟨sub_fn, refs_fn⟩, ?_⟩ | refine ⟨⟨rfl, fun h => Bool.noConfusion h⟩, ?_⟩ | refine ⟨⟨rfl, fun h => ?_⟩, ?_⟩ | refine ⟨rfl, ?_⟩ | refine ⟨?_, ?_⟩ | fail))) ⟨by simp only; omega, by simp only; omega, by simp [hi3], fun j hj => ?_, fun e he => ?_⟩ (by simp only; omega)
    · simp only at hj ⊢
      by_cases hji : j = i
      · subst hji
        rw [List.getElem?_set_self (by omega), Cut.at (markCut_at (k := k) hlt), ← hi2]

      · rw [List.getElem?_set_ne (fun e => hji e.symm)]
        exact hi4 j (by omega)
    · rcases List.mem_or_eq_of_mem_set he with h1 | h1
      · exact hi5 e h1
      · rw [h1]; rfl
  · repeat' (first
      | (refine g_exec ?_; first | (refine g_move ?_; refine x_moveO _ rfl ?_) | (refine g_assign ?_; refine x_assignO _ rfl ?_) | (refine g_bin ?_; first | (refine x_add rfl rfl (by omega) ?_) | (refine x_bin _ rfl rfl rfl ?_) | (refine x_strBin _ rfl rfl rfl ?_)) | (refine g_field ?_; first | (refine x_field_p _ (by assumption) rfl (by (first | (simp only [lx, Nat.reduceAdd]; first | done | rfl) | fail)) ?_) | (refine x_field_o _ (by assumption) rfl rfl (by simp only [lx, Nat.reduceAdd]; first | done | rfl) ?_)) | (refine g_index ?_; first | (refine x_index_l _ (by assumption) rfl rfl (by omega) (by assumption) ?_) | (refine x_index_o _ (by assumption) rfl rfl rfl rfl (by omega) (by omega) (by first | (rw [Nat.zero_add, Int.toNat_natCast]) | (rw [Nat.zero_add]) | rfl) ?_)) | (refine g_call ?_; first | (refine x_len_l (by assumption) rfl ?_) | (refine x_len_o (by assumption) rfl rfl ?_) | (refine x_len_n (by assumption) rfl ?_) | (refine x_len_s (by assumption) (evO_ok rfl) ?_)) | (refine x_storeO _ _ _ rfl rfl (by first | rfl | assumption | exact getSelf (by omega) | exact getNe (by omega) (by assumption)) (by first | assumption | (exact TAgg.size (by assumption))) rfl rfl rfl (by first | (simp; done) | fail) rfl (by (first | (simp only [lx, Nat.reduceAdd]; first | done | rfl) | fail)) (by first | (first | (simp only [lx, Nat.reduceAdd]; first | done | rfl) | fail) | rfl) ?_) | (refine x_nil (hK _ _ (.inl rfl) ?_); clear hK K) | (refine x_nil (hK _ _ (.inr (by kernel_rfl)) ?_); clear hK K))
      | (refine g_code ?_; first | (refine v_seq ?_) | (refine v_region (fun K hK => ?_)) | (refine v_block ?_) | (refine v_skip ?_) | (refine v_ret ?_) | (refine v_exit ?_) | (refine g_cond ?_; first | (refine v_cond_y rfl (by first | rfl | assumption | (simp only [sx]; omega) | (simp; done) | fail) ?_) | (refine v_cond_n rfl (by first | rfl | assumption | (simp only [sx]; omega) | (simp; done) | fail) ?_) | (refine v_condt rfl (fun h => ?_) (fun h => ?_) <;> (have h' := h; (try simp only [sx] at h')))))
      | (refine q_then ?_) | (refine q_then_r ?_) | (refine q_then_e ?_) | (refine q_blk_n ?_) | (refine q_blk_r ?_) | (refine q_blk_e ?_) | (refine q_blk_o rfl ?_) | (refine q_loop_r ?_) | (refine q_loop_e ?_) | (refine ret_n ?_))
    have hes : es = (markCut k xs.length).map Cut.pv := List.ext_getElem? fun j => by
      rcases Nat.lt_or_ge j i with hj | hj
      · exact hi4 j hj
      · rw [List.getElem?_eq_none (by omega), List.getElem?_eq_none (by simp [markCut_len]; omega)]
    subst hes
    exact ret_io rfl (lookE_ok rfl) (by show q = _; omega) (by simp [markCut_len]) (by rfl)
end Go.Vs
