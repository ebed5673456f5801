/- RECORD Phase: what a law asks of lists of it. -/
import Derived.Test.YtfkhcoipoooccaaVe1
set_option linter.unusedVariables false
set_option linter.unusedSimpArgs false
set_option maxRecDepth 100000
set_option maxHeartbeats 4000000
namespace Go.Vs
open Go.Proofs
attribute [local irreducible] exec vwp thenQ blkQ loopQ RetPost

structure Phase where
  (frm : Int)
  (speed : Int)
  deriving DecidableEq
@[reducible] def Phase.pv (c : Phase) : List PV := [.int .i64 c.frm, .int .i64 c.speed]
theorem Phase.at {xs : List Phase} {i : Nat} {a : Phase} (h : xs[i]? = some a) : (xs.map Phase.pv)[i]? = some [.int .i64 a.frm, .int .i64 a.speed] := by simp [h]
theorem Phase.flat (xs : List Phase) : ∀ e ∈ xs.map Phase.pv, ∀ c ∈ e, c.flat = true := by
  intro e he c hc
  obtain ⟨a, _, rfl⟩ := List.mem_map.1 he
  simp only [Phase.pv, List.mem_cons, List.not_mem_nil, or_false] at hc
  rcases hc with rfl | rfl <;> rfl
theorem con_eqPhase (a b : Phase) : Con Try.prog 69 [.agg a.pv, .agg b.pv] (.bool (decide (a = b))) := by
  intro al
  refine contract_of hmix Try.func69 rfl (by kernel_rfl) (by kernel_rfl) (Nat.le_of_ble_eq_true rfl) (fun row h => by cases h) ?_
  have hty_f82_0 := ty_f82_0
  have hty_c3 := ty_c3
  have hty_f82_1 := ty_f82_1
  repeat' (first
      | (refine g_exec ?_; first | (refine g_assign ?_; refine x_assignO _ rfl ?_) | (refine g_bin ?_; first | (refine x_bin _ rfl rfl rfl ?_) | (refine x_boolNe (by assumption) rfl rfl ?_) | (refine x_strBin _ rfl rfl rfl ?_)) | (refine g_load ?_; first | (refine x_load_pc (by assumption) rfl ?_) | (refine x_load_oc _ (by assumption) rfl rfl (by first | rfl | assumption | exact getSelf (by omega) | exact getNe (by omega) (by assumption)) rfl ?_) | (refine x_load_pa _ (by assumption) rfl (by first | (simp; done) | fail) (by (first | (simp only [lx, Nat.reduceAdd]; first | done | rfl) | fail)) ?_) | (refine x_load_oa _ (by assumption) rfl rfl (by first | rfl | assumption | exact getSelf (by omega) | exact getNe (by omega) (by assumption)) (by first | (simp; done) | fail) (by (first | (simp only [lx, Nat.reduceAdd]; first | done | rfl) | fail)) ?_)) | (refine g_field ?_; first | (refine x_field_p _ (by assumption) rfl (by (first | (simp only [lx, Nat.reduceAdd]; first | done | rfl) | fail)) ?_) | (refine x_field_o _ (by assumption) rfl rfl (by simp only [lx, Nat.reduceAdd]; first | done | rfl) ?_)) | (refine x_boxO _ _ rfl rfl rfl rfl ?_) | (refine x_nil (hK _ _ (.inl rfl) ?_); clear hK K) | (refine x_nil (hK _ _ (.inr (by kernel_rfl)) ?_); clear hK K))
      | (refine g_code ?_; first | (refine v_seq ?_) | (refine v_region (fun K hK => ?_)) | (refine v_block ?_) | (refine v_skip ?_) | (refine v_ret ?_) | (refine v_exit ?_) | (refine g_cond ?_; first | (refine v_cond_y rfl (by first | rfl | assumption | (simp only [sx]; omega) | (simp; done) | fail) ?_) | (refine v_cond_n rfl (by first | rfl | assumption | (simp only [sx]; omega) | (simp; done) | fail) ?_) | (refine v_condt rfl (fun h => ?_) (fun h => ?_) <;> (have h' := h; (try simp only [sx] at h')))))
      | (refine q_then ?_) | (refine q_then_r ?_) | (refine q_then_e ?_) | (refine q_blk_n ?_) | (refine q_blk_r ?_) | (refine q_blk_e ?_) | (refine q_blk_o rfl ?_) | (refine q_loop_r ?_) | (refine q_loop_e ?_) | (refine ret_n ?_))
  all_goals (refine ret_bool rfl (lookE_ok rfl) ?_; cases a; cases b; simp_all)
theorem con_toPhase (c : Phase) : Con Try.prog 65 [.agg c.pv] (.agg c.pv) := by
  intro al
  refine contract_of hmix Try.func65 rfl (by kernel_rfl) (by kernel_rfl) (Nat.le_of_ble_eq_true rfl) (fun row h => by cases h) ?_
  have hty_a82 := ty_a82
  have hty_z82 := ty_z82
  have hty_f84_0 := ty_f84_0
  have hty_c3 := ty_c3
  have hty_f82_0 := ty_f82_0
  have hty_t3 := ty_t3
  have hty_f84_1 := ty_f84_1
  have hty_f82_1 := ty_f82_1
  have hty_t82 := ty_t82
  repeat' (first
      | (refine g_exec ?_; first | (refine g_load ?_; first | (refine x_load_pc (by assumption) rfl ?_) | (refine x_load_oc _ (by assumption) rfl rfl (by first | rfl | assumption | exact getSelf (by omega) | exact getNe (by omega) (by assumption)) rfl ?_) | (refine x_load_pa _ (by assumption) rfl (by first | (simp; done) | fail) (by (first | (simp only [lx, Nat.reduceAdd]; first | done | rfl) | fail)) ?_) | (refine x_load_oa _ (by assumption) rfl rfl (by first | rfl | assumption | exact getSelf (by omega) | exact getNe (by omega) (by assumption)) (by first | (simp; done) | fail) (by (first | (simp only [lx, Nat.reduceAdd]; first | done | rfl) | fail)) ?_)) | (refine g_field ?_; first | (refine x_field_p _ (by assumption) rfl (by (first | (simp only [lx, Nat.reduceAdd]; first | done | rfl) | fail)) ?_) | (refine x_field_o _ (by assumption) rfl rfl (by simp only [lx, Nat.reduceAdd]; first | done | rfl) ?_)) | (refine x_boxO _ _ rfl rfl rfl rfl ?_) | (refine x_alloc _ (by assumption) rfl ?_) | (refine x_storeO _ _ _ rfl rfl (by first | rfl | assumption | exact getSelf (by omega) | exact getNe (by omega) (by assumption)) (by first | assumption | (exact TAgg.size (by assumption))) rfl rfl rfl (by first | (simp; done) | fail) rfl (by (first | (simp only [lx, Nat.reduceAdd]; first | done | rfl) | fail)) (by first | (first | (simp only [lx, Nat.reduceAdd]; first | done | rfl) | fail) | rfl) ?_) | (refine x_nil (hK _ _ (.inl rfl) ?_); clear hK K) | (refine x_nil (hK _ _ (.inr (by kernel_rfl)) ?_); clear hK K))
      | (refine g_code ?_; first | (refine v_seq ?_) | (refine v_region (fun K hK => ?_)) | (refine v_block ?_) | (refine v_skip ?_) | (refine v_ret ?_) | (refine v_exit ?_))
      | (refine q_then ?_) | (refine q_then_r ?_) | (refine q_then_e ?_) | (refine q_blk_n ?_) | (refine q_blk_r ?_) | (refine q_blk_e ?_) | (refine q_blk_o rfl ?_) | (refine q_loop_r ?_) | (refine q_loop_e ?_) | (refine ret_n ?_))
  exact ret_cell (cs := c.pv) rfl ty_a82 (lookE_ok (by rfl)) (by rfl) (by rfl) (by rfl) (by rfl)
theorem con_eqPhaseS (xs ys : List Phase) (hn : xs.length ≤ 1099511627776) : Con Try.prog 29 [.list 2 (xs.map Phase.pv), .list 2 (ys.map Phase.pv)] (.bool (decide (xs = ys))) := by
  intro al
  refine contract_of hmix Try.func29 rfl (by kernel_rfl) (by kernel_rfl) (Nat.le_of_ble_eq_true rfl) (fun row h => by cases h) ?_
  have hty_u44 := ty_u44
  have hty_s44 := ty_s44
  have hty_a82 := ty_a82
  have hl1 : (xs.map Phase.pv).length = xs.length := by simp
  have hl2 : (ys.map Phase.pv).length = ys.length := by simp
  repeat' (first
      | (refine g_exec ?_; first | (refine g_move ?_; refine x_moveO _ rfl ?_) | (refine g_assign ?_; refine x_assignO _ rfl ?_) | (refine g_bin ?_; first | (refine x_add rfl rfl (by omega) ?_) | (refine x_bin _ rfl rfl rfl ?_) | (refine x_boolNe (by assumption) rfl rfl ?_) | (refine x_strBin _ rfl rfl rfl ?_)) | (refine g_un ?_; first | (refine x_not rfl ?_) | (refine x_neg rfl (by omega) ?_)) | (refine g_load ?_; first | (refine x_load_pc (by assumption) rfl ?_) | (refine x_load_oc _ (by assumption) rfl rfl (by first | rfl | assumption | exact getSelf (by omega) | exact getNe (by omega) (by assumption)) rfl ?_) | (refine x_load_pa _ (by assumption) rfl (by first | (simp; done) | fail) (by (first | (simp only [lx, Nat.reduceAdd]; first | done | rfl) | fail)) ?_) | (refine x_load_oa _ (by assumption) rfl rfl (by first | rfl | assumption | exact getSelf (by omega) | exact getNe (by omega) (by assumption)) (by first | (simp; done) | fail) (by (first | (simp only [lx, Nat.reduceAdd]; first | done | rfl) | fail)) ?_)) | (refine g_index ?_; first | (refine x_index_l _ (by assumption) rfl rfl (by omega) (by assumption) ?_) | (refine x_index_o _ (by assumption) rfl rfl rfl rfl (by omega) (by omega) (by first | (rw [Nat.zero_add, Int.toNat_natCast]) | (rw [Nat.zero_add]) | rfl) ?_)) | (refine g_call ?_; first | (refine x_len_l (by assumption) rfl ?_) | (refine x_len_o (by assumption) rfl rfl ?_) | (refine x_len_n (by assumption) rfl ?_) | (refine x_len_s (by assumption) (evO_ok rfl) ?_)) | (refine x_nil (hK _ _ (.inl rfl) ?_); clear hK K) | (refine x_nil (hK _ _ (.inr (by kernel_rfl)) ?_); clear hK K))
      | (refine g_code ?_; first | (refine v_seq ?_) | (refine v_region (fun K hK => ?_)) | (refine v_block ?_) | (refine v_skip ?_) | (refine v_ret ?_) | (refine v_exit ?_) | (refine g_cond ?_; first | (refine v_cond_y rfl (by first | rfl | assumption | (simp only [sx]; omega) | (simp; done) | fail) ?_) | (refine v_cond_n rfl (by first | rfl | assumption | (simp only [sx]; omega) | (simp; done) | fail) ?_) | (refine v_condt rfl (fun h => ?_) (fun h => ?_) <;> (have h' := h; (try simp only [sx] at h')))))
      | (refine q_then ?_) | (refine q_then_r ?_) | (refine q_then_e ?_) | (refine q_blk_n ?_) | (refine q_blk_r ?_) | (refine q_blk_e ?_) | (refine q_blk_o rfl ?_) | (refine q_loop_r ?_) | (refine q_loop_e ?_) | (refine ret_n ?_))
  · refine ret_bool rfl (lookE_ok rfl) ?_
    by_cases he : xs = ys
    · subst he; omega
    · simp [he]
  refine v_loopA (fun i : Nat => ⟨[(0, .list 2 (xs.map Phase.pv)), (1, .list 2 (ys.map Phase.pv)), (5, .int .i64 i)], []⟩) (fun i => i ≤ xs.length ∧ ∀ j, j < i → xs[j]? = ys[j]?) (fun i => xs.length - i) 0 (by refine ⟨?_, ?_⟩ <;> (repeat' (first | exact trivial | exact ⟨rfl, rfl⟩ | exact rfl | exact ⟨sub_fn, refs_fn⟩ | refine ⟨⟨rfl, rfl⟩, ?_⟩ | refine ⟨⟨sub_fn, refs_fn⟩, ?_⟩ | refine ⟨⟨rfl, fun h => Bool.noConfusion h⟩, ?_⟩ | refine ⟨⟨rfl, fun h => ?_⟩, ?_⟩ | refine ⟨rfl, ?_⟩ | refine ⟨?_, ?_⟩ | fail))) ⟨by omega, fun j hj => by omega⟩ (fun i hi => ?_)
  obtain ⟨hi1, hi2⟩ := hi
  rcases Nat.lt_or_ge i xs.length with hlt | hge
  · obtain ⟨a, ha⟩ : ∃ a, xs[i]? = some a := ⟨xs[i], List.getElem?_eq_getElem hlt⟩
    obtain ⟨b, hb⟩ : ∃ a, ys[i]? = some a := ⟨ys[i]'(by omega), List.getElem?_eq_getElem (by omega)⟩
    have hx := Phase.at ha
    have hy := Phase.at hb
    repeat' (first
      | (refine g_exec ?_; first | (refine g_move ?_; refine x_moveO _ rfl ?_) | (refine g_assign ?_; refine x_assignO _ rfl ?_) | (refine g_bin ?_; first | (refine x_add rfl rfl (by omega) ?_) | (refine x_bin _ rfl rfl rfl ?_) | (refine x_boolNe (by assumption) rfl rfl ?_) | (refine x_strBin _ rfl rfl rfl ?_)) | (refine g_un ?_; first | (refine x_not rfl ?_) | (refine x_neg rfl (by omega) ?_)) | (refine g_load ?_; first | (refine x_load_pc (by assumption) rfl ?_) | (refine x_load_oc _ (by assumption) rfl rfl (by first | rfl | assumption | exact getSelf (by omega) | exact getNe (by omega) (by assumption)) rfl ?_) | (refine x_load_pa _ (by assumption) rfl (by first | (simp; done) | fail) (by (first | (simp only [lx, Nat.reduceAdd]; first | done | rfl) | fail)) ?_) | (refine x_load_oa _ (by assumption) rfl rfl (by first | rfl | assumption | exact getSelf (by omega) | exact getNe (by omega) (by assumption)) (by first | (simp; done) | fail) (by (first | (simp only [lx, Nat.reduceAdd]; first | done | rfl) | fail)) ?_)) | (refine g_index ?_; first | (refine x_index_l _ (by assumption) rfl rfl (by omega) (by assumption) ?_) | (refine x_index_o _ (by assumption) rfl rfl rfl rfl (by omega) (by omega) (by first | (rw [Nat.zero_add, Int.toNat_natCast]) | (rw [Nat.zero_add]) | rfl) ?_)) | (refine g_call ?_; first | (refine x_callG true (con_eqPhase a b) rfl rfl rfl (by (repeat' (first | exact trivial | exact rfl | exact allR_ptrs _ | exact .inl rfl | exact sn_all rfl rfl rfl | exact sn_all rfl rfl (by first | omega | (simp; done) | fail) | exact sn_part rfl rfl (by first | (simp; done) | exact (takeAll (by assumption)).symm | exact (takeAll (by first | (simp; done) | omega | fail)).symm | (first | (simp only [lx, Nat.reduceAdd]; first | done | rfl) | fail) | fail) | refine sn_own rfl rfl rfl ?_ | exact List.length_map .. | refine ⟨?_, ?_⟩)); first | done | fail) rfl (by simp only [thaw, thawT, thaw1, thawL, Nat.zero_add, Nat.reduceAdd]; exact rfl) ?_; simp only [List.cons_append, List.nil_append, List.map_cons, List.map_nil]) | (refine x_len_l (by assumption) rfl ?_) | (refine x_len_o (by assumption) rfl rfl ?_) | (refine x_len_n (by assumption) rfl ?_) | (refine x_len_s (by assumption) (evO_ok rfl) ?_)) | (refine x_nil (hK _ _ (.inl rfl) ?_); clear hK K) | (refine x_nil (hK _ _ (.inr (by kernel_rfl)) ?_); clear hK K))
      | (refine g_code ?_; first | (refine v_seq ?_) | (refine v_region (fun K hK => ?_)) | (refine v_block ?_) | (refine v_skip ?_) | (refine v_ret ?_) | (refine v_exit ?_) | (refine g_cond ?_; first | (refine v_cond_y rfl (by first | rfl | assumption | (simp only [sx]; omega) | (simp; done) | fail) ?_) | (refine v_cond_n rfl (by first | rfl | assumption | (simp only [sx]; omega) | (simp; done) | fail) ?_) | (refine v_condt rfl (fun h => ?_) (fun h => ?_) <;> (have h' := h; (try simp only [sx] at h')))))
      | (refine q_then ?_) | (refine q_then_r ?_) | (refine q_then_e ?_) | (refine q_blk_n ?_) | (refine q_blk_r ?_) | (refine q_blk_e ?_) | (refine q_blk_o rfl ?_) | (refine q_loop_r ?_) | (refine q_loop_e ?_) | (refine ret_n ?_))
    · refine ret_bool rfl (lookE_ok rfl) ?_
      have : ¬ xs = ys := fun e => by rw [e, hb] at ha; injection ha with ha; exact h' ha.symm
      simp [this]
    · refine q_loopA (i + 1) (by refine ⟨?_, ?_⟩ <;> (repeat' (first | exact trivial | exact ⟨rfl, rfl⟩ | exact rfl | exact ⟨sub_fn, refs_fn⟩ | refine ⟨⟨rfl, rfl⟩, ?_⟩ | refine ⟨⟨sub_fn, refs_fn⟩, ?_⟩ | refine ⟨⟨rfl, fun h => Bool.noConfusion h⟩, ?_⟩ | refine ⟨⟨rfl, fun h => ?_⟩, ?_⟩ | refine ⟨rfl, ?_⟩ | refine ⟨?_, ?_⟩ | fail))) ⟨by omega, fun j hj => ?_⟩ (by omega)
      rcases Nat.lt_or_ge j i with hj' | hj'
      · exact hi2 j hj'
      · have : j = i := by omega
        rw [this, ha, hb, h']
  · repeat' (first
      | (refine g_exec ?_; first | (refine g_move ?_; refine x_moveO _ rfl ?_) | (refine g_assign ?_; refine x_assignO _ rfl ?_) | (refine g_bin ?_; first | (refine x_add rfl rfl (by omega) ?_) | (refine x_bin _ rfl rfl rfl ?_) | (refine x_boolNe (by assumption) rfl rfl ?_) | (refine x_strBin _ rfl rfl rfl ?_)) | (refine g_un ?_; first | (refine x_not rfl ?_) | (refine x_neg rfl (by omega) ?_)) | (refine g_load ?_; first | (refine x_load_pc (by assumption) rfl ?_) | (refine x_load_oc _ (by assumption) rfl rfl (by first | rfl | assumption | exact getSelf (by omega) | exact getNe (by omega) (by assumption)) rfl ?_) | (refine x_load_pa _ (by assumption) rfl (by first | (simp; done) | fail) (by (first | (simp only [lx, Nat.reduceAdd]; first | done | rfl) | fail)) ?_) | (refine x_load_oa _ (by assumption) rfl rfl (by first | rfl | assumption | exact getSelf (by omega) | exact getNe (by omega) (by assumption)) (by first | (simp; done) | fail) (by (first | (simp only [lx, Nat.reduceAdd]; first | done | rfl) | fail)) ?_)) | (refine g_index ?_; first | (refine x_index_l _ (by assumption) rfl rfl (by omega) (by assumption) ?_) | (refine x_index_o _ (by assumption) rfl rfl rfl rfl (by omega) (by omega) (by first | (rw [Nat.zero_add, Int.toNat_natCast]) | (rw [Nat.zero_add]) | rfl) ?_)) | (refine g_call ?_; first | (refine x_len_l (by assumption) rfl ?_) | (refine x_len_o (by assumption) rfl rfl ?_) | (refine x_len_n (by assumption) rfl ?_) | (refine x_len_s (by assumption) (evO_ok rfl) ?_)) | (refine x_nil (hK _ _ (.inl rfl) ?_); clear hK K) | (refine x_nil (hK _ _ (.inr (by kernel_rfl)) ?_); clear hK K))
      | (refine g_code ?_; first | (refine v_seq ?_) | (refine v_region (fun K hK => ?_)) | (refine v_block ?_) | (refine v_skip ?_) | (refine v_ret ?_) | (refine v_exit ?_) | (refine g_cond ?_; first | (refine v_cond_y rfl (by first | rfl | assumption | (simp only [sx]; omega) | (simp; done) | fail) ?_) | (refine v_cond_n rfl (by first | rfl | assumption | (simp only [sx]; omega) | (simp; done) | fail) ?_) | (refine v_condt rfl (fun h => ?_) (fun h => ?_) <;> (have h' := h; (try simp only [sx] at h')))))
      | (refine q_then ?_) | (refine q_then_r ?_) | (refine q_then_e ?_) | (refine q_blk_n ?_) | (refine q_blk_r ?_) | (refine q_blk_e ?_) | (refine q_blk_o rfl ?_) | (refine q_loop_r ?_) | (refine q_loop_e ?_) | (refine ret_n ?_))
    refine ret_bool rfl (lookE_ok rfl) ?_
    have : xs = ys := List.ext_getElem? fun j => by
      rcases Nat.lt_or_ge j i with hj | hj
      · exact hi2 j hj
      · rw [List.getElem?_eq_none (by omega), List.getElem?_eq_none (by omega)]
    simp [this]
theorem con_samePhaseS (xs : List Phase) (hn : xs.length ≤ 1099511627776) : Con Try.prog 29 [.list 2 (xs.map Phase.pv), .list 2 (xs.map Phase.pv)] (.bool true) := by
  have := con_eqPhaseS xs xs hn
  simpa using this
theorem con_szPhaseS (es : List (List PV)) (n : Int) (hn : es.length ≤ 9223372036854775807) (h0 : 0 ≤ n ∧ n ≤ 1048576) : Con Try.prog 24 [.list 2 es, .int .i64 n] (.int .i64 (if n - es.length < 0 then -1 else n - es.length)) := by
  intro al
  refine contract_of hmix Try.func24 rfl (by kernel_rfl) (by kernel_rfl) (Nat.le_of_ble_eq_true rfl) (fun row h => by cases h) ?_
  have hty_u41 := ty_u41
  have hty_s41 := ty_s41
  repeat' (first
      | (refine g_exec ?_; first | (refine g_move ?_; refine x_moveO _ rfl ?_) | (refine g_assign ?_; refine x_assignO _ rfl ?_) | (refine g_bin ?_; first | (refine x_sub rfl rfl (by omega) ?_) | (refine x_bin _ rfl rfl rfl ?_) | (refine x_strBin _ rfl rfl rfl ?_)) | (refine g_call ?_; first | (refine x_len_l (by assumption) rfl ?_) | (refine x_len_o (by assumption) rfl rfl ?_) | (refine x_len_n (by assumption) rfl ?_) | (refine x_len_s (by assumption) (evO_ok rfl) ?_)) | (refine x_nil (hK _ _ (.inl rfl) ?_); clear hK K) | (refine x_nil (hK _ _ (.inr (by kernel_rfl)) ?_); clear hK K))
      | (refine g_code ?_; first | (refine v_seq ?_) | (refine v_region (fun K hK => ?_)) | (refine v_block ?_) | (refine v_skip ?_) | (refine v_ret ?_) | (refine v_exit ?_) | (refine g_cond ?_; first | (refine v_cond_y rfl (by first | rfl | assumption | (simp only [sx]; omega) | (simp; done) | fail) ?_) | (refine v_cond_n rfl (by first | rfl | assumption | (simp only [sx]; omega) | (simp; done) | fail) ?_) | (refine v_condt rfl (fun h => ?_) (fun h => ?_) <;> (have h' := h; (try simp only [sx] at h')))))
      | (refine q_then ?_) | (refine q_then_r ?_) | (refine q_then_e ?_) | (refine q_blk_n ?_) | (refine q_blk_r ?_) | (refine q_blk_e ?_) | (refine q_blk_o rfl ?_) | (refine q_loop_r ?_) | (refine q_loop_e ?_) | (refine ret_n ?_))
  · exact ret_int rfl (lookE_ok rfl) (by rw [if_pos (by omega)])
  · exact ret_int rfl (lookE_ok rfl) (by rw [if_neg (by omega)])
theorem con_toPhaseS (xs : List Phase) (hn : xs.length ≤ 1099511627776) : Con Try.prog 26 [.list 2 (xs.map Phase.pv)] (.olist 82 2 (xs.map Phase.pv)) := by
  intro al
  refine contract_of hmix Try.func26 rfl (by kernel_rfl) (by kernel_rfl) (Nat.le_of_ble_eq_true rfl) (fun row h => by cases h) ?_
  have hty_u41 := ty_u41
  have hty_s41 := ty_s41
  have hty_s44 := ty_s44
  have hty_z82 := ty_z82
  have hty_a84 := ty_a84
  have hty_t82 := ty_t82
  have hty_a82 := ty_a82
  have hl1 : (xs.map Phase.pv).length = xs.length := by simp
  repeat' (first
      | (refine g_exec ?_; first | (refine g_move ?_; refine x_moveO _ rfl ?_) | (refine g_assign ?_; refine x_assignO _ rfl ?_) | (refine g_bin ?_; first | (refine x_add rfl rfl (by omega) ?_) | (refine x_bin _ rfl rfl rfl ?_) | (refine x_strBin _ rfl rfl rfl ?_)) | (refine g_load ?_; first | (refine x_load_pc (by assumption) rfl ?_) | (refine x_load_oc _ (by assumption) rfl rfl (by first | rfl | assumption | exact getSelf (by omega) | exact getNe (by omega) (by assumption)) rfl ?_) | (refine x_load_pa _ (by assumption) rfl (by first | (simp; done) | fail) (by (first | (simp only [lx, Nat.reduceAdd]; first | done | rfl) | fail)) ?_) | (refine x_load_oa _ (by assumption) rfl rfl (by first | rfl | assumption | exact getSelf (by omega) | exact getNe (by omega) (by assumption)) (by first | (simp; done) | fail) (by (first | (simp only [lx, Nat.reduceAdd]; first | done | rfl) | fail)) ?_)) | (refine g_index ?_; first | (refine x_index_l _ (by assumption) rfl rfl (by omega) (by assumption) ?_) | (refine x_index_o _ (by assumption) rfl rfl rfl rfl (by omega) (by omega) (by first | (rw [Nat.zero_add, Int.toNat_natCast]) | (rw [Nat.zero_add]) | rfl) ?_)) | (refine g_call ?_; first | (refine x_len_l (by assumption) rfl ?_) | (refine x_len_o (by assumption) rfl rfl ?_) | (refine x_len_n (by assumption) rfl ?_) | (refine x_len_s (by assumption) (evO_ok rfl) ?_)) | (refine x_storeO _ _ _ rfl rfl (by first | rfl | assumption | exact getSelf (by omega) | exact getNe (by omega) (by assumption)) (by first | assumption | (exact TAgg.size (by assumption))) rfl rfl rfl (by first | (simp; done) | fail) rfl (by (first | (simp only [lx, Nat.reduceAdd]; first | done | rfl) | fail)) (by first | (first | (simp only [lx, Nat.reduceAdd]; first | done | rfl) | fail) | rfl) ?_) | (refine x_make (by assumption) (by assumption) rfl rfl rfl (by omega) rfl ?_) | (refine x_nil (hK _ _ (.inl rfl) ?_); clear hK K) | (refine x_nil (hK _ _ (.inr (by kernel_rfl)) ?_); clear hK K))
      | (refine g_code ?_; first | (refine v_seq ?_) | (refine v_region (fun K hK => ?_)) | (refine v_block ?_) | (refine v_skip ?_) | (refine v_ret ?_) | (refine v_exit ?_) | (refine g_cond ?_; first | (refine v_cond_y rfl (by first | rfl | assumption | (simp only [sx]; omega) | (simp; done) | fail) ?_) | (refine v_cond_n rfl (by first | rfl | assumption | (simp only [sx]; omega) | (simp; done) | fail) ?_) | (refine v_condt rfl (fun h => ?_) (fun h => ?_) <;> (have h' := h; (try simp only [sx] at h')))))
      | (refine q_then ?_) | (refine q_then_r ?_) | (refine q_then_e ?_) | (refine q_blk_n ?_) | (refine q_blk_r ?_) | (refine q_blk_e ?_) | (refine q_blk_o rfl ?_) | (refine q_loop_r ?_) | (refine q_loop_e ?_) | (refine ret_n ?_))
  refine v_loopA (fun p : Nat × List (List PV) => ⟨[(0, .list 2 (xs.map Phase.pv)), (3, .osl (7, 0) 0 (xs.map Phase.pv).length), (4, .int .i64 p.1)], [((7, 0), some ⟨82, 2, p.2, false⟩)]⟩)
    (fun p => p.1 ≤ xs.length ∧ p.2.length = xs.length ∧ (∀ j, j < p.1 → p.2[j]? = (xs.map Phase.pv)[j]?) ∧ ∀ e ∈ p.2, e.length = 2) (fun p => xs.length - p.1) (0, List.replicate (xs.map Phase.pv).length [.int .i64 0, .int .i64 0]) (by refine ⟨?_, ?_⟩ <;> (repeat' (first | exact trivial | exact ⟨rfl, rfl⟩ | exact rfl | exact ⟨sub_fn, refs_fn⟩ | refine ⟨⟨rfl, rfl⟩, ?_⟩ | refine ⟨⟨sub_fn, refs_fn⟩, ?_⟩ | refine ⟨⟨rfl, fun h => Bool.noConfusion h⟩, ?_⟩ | refine ⟨⟨rfl, fun h => ?_⟩, ?_⟩ | refine ⟨rfl, ?_⟩ | refine ⟨?_, ?_⟩ | fail)))
    ⟨by simp, by simp, fun j hj => by simp at hj, fun e he => by rw [List.eq_of_mem_replicate he]; rfl⟩ (fun p hp => ?_)
  obtain ⟨i, es⟩ := p
  obtain ⟨hi1, hi2, hi3, hi4⟩ := hp
  simp only at hi1 hi2 hi3 hi4
  rcases Nat.lt_or_ge i xs.length with hlt | hge
  · obtain ⟨a, hga⟩ : ∃ a, xs[i]? = some a := ⟨xs[i], List.getElem?_eq_getElem hlt⟩
    have hx := Phase.at hga
    obtain ⟨e, he⟩ : ∃ e, es[i]? = some e := ⟨es[i]'(by omega), List.getElem?_eq_getElem (by omega)⟩
    obtain ⟨e0, e1, rfl⟩ : ∃ e0 e1, e = [e0, e1] := by
      have := hi4 e (List.mem_of_getElem? he)
      match e, this with
      | [a, b], _ => exact ⟨a, b, rfl⟩
    repeat' (first
      | (refine g_exec ?_; first | (refine g_move ?_; refine x_moveO _ rfl ?_) | (refine g_assign ?_; refine x_assignO _ rfl ?_) | (refine g_bin ?_; first | (refine x_add rfl rfl (by omega) ?_) | (refine x_bin _ rfl rfl rfl ?_) | (refine x_strBin _ rfl rfl rfl ?_)) | (refine g_load ?_; first | (refine x_load_pc (by assumption) rfl ?_) | (refine x_load_oc _ (by assumption) rfl rfl (by first | rfl | assumption | exact getSelf (by omega) | exact getNe (by omega) (by assumption)) rfl ?_) | (refine x_load_pa _ (by assumption) rfl (by first | (simp; done) | fail) (by (first | (simp only [lx, Nat.reduceAdd]; first | done | rfl) | fail)) ?_) | (refine x_load_oa _ (by assumption) rfl rfl (by first | rfl | assumption | exact getSelf (by omega) | exact getNe (by omega) (by assumption)) (by first | (simp; done) | fail) (by (first | (simp only [lx, Nat.reduceAdd]; first | done | rfl) | fail)) ?_)) | (refine g_index ?_; first | (refine x_index_l _ (by assumption) rfl rfl (by omega) (by assumption) ?_) | (refine x_index_o _ (by assumption) rfl rfl rfl rfl (by omega) (by omega) (by first | (rw [Nat.zero_add, Int.toNat_natCast]) | (rw [Nat.zero_add]) | rfl) ?_)) | (refine g_call ?_; first | (refine x_callG true (con_toPhase a) rfl rfl rfl (by (repeat' (first | exact trivial | exact rfl | exact allR_ptrs _ | exact .inl rfl | exact sn_all rfl rfl rfl | exact sn_all rfl rfl (by first | omega | (simp; done) | fail) | exact sn_part rfl rfl (by first | (simp; done) | exact (takeAll (by assumption)).symm | exact (takeAll (by first | (simp; done) | omega | fail)).symm | (first | (simp only [lx, Nat.reduceAdd]; first | done | rfl) | fail) | fail) | refine sn_own rfl rfl rfl ?_ | exact List.length_map .. | refine ⟨?_, ?_⟩)); first | done | fail) rfl (by simp only [thaw, thawT, thaw1, thawL, Nat.zero_add, Nat.reduceAdd]; exact rfl) ?_; simp only [List.cons_append, List.nil_append, List.map_cons, List.map_nil]) | (refine x_len_l (by assumption) rfl ?_) | (refine x_len_o (by assumption) rfl rfl ?_) | (refine x_len_n (by assumption) rfl ?_) | (refine x_len_s (by assumption) (evO_ok rfl) ?_)) | (refine x_storeO _ _ _ rfl rfl (by first | rfl | assumption | exact getSelf (by omega) | exact getNe (by omega) (by assumption)) (by first | assumption | (exact TAgg.size (by assumption))) rfl rfl rfl (by first | (simp; done) | fail) rfl (by (first | (simp only [lx, Nat.reduceAdd]; first | done | rfl) | fail)) (by first | (first | (simp only [lx, Nat.reduceAdd]; first | done | rfl) | fail) | rfl) ?_) | (refine x_make (by assumption) (by assumption) rfl rfl rfl (by omega) rfl ?_) | (refine x_nil (hK _ _ (.inl rfl) ?_); clear hK K) | (refine x_nil (hK _ _ (.inr (by kernel_rfl)) ?_); clear hK K))
      | (refine g_code ?_; first | (refine v_seq ?_) | (refine v_region (fun K hK => ?_)) | (refine v_block ?_) | (refine v_skip ?_) | (refine v_ret ?_) | (refine v_exit ?_) | (refine g_cond ?_; first | (refine v_cond_y rfl (by first | rfl | assumption | (simp only [sx]; omega) | (simp; done) | fail) ?_) | (refine v_cond_n rfl (by first | rfl | assumption | (simp only [sx]; omega) | (simp; done) | fail) ?_) | (refine v_condt rfl (fun h => ?_) (fun h => ?_) <;> (have h' := h; (try simp only [sx] at h')))))
      | (refine q_then ?_) | (refine q_then_r ?_) | (refine q_then_e ?_) | (refine q_blk_n ?_) | (refine q_blk_r ?_) | (refine q_blk_e ?_) | (refine q_blk_o rfl ?_) | (refine q_loop_r ?_) | (refine q_loop_e ?_) | (refine ret_n ?_))
    refine q_loopA (i + 1, es.set i a.pv) (by refine ⟨?_, ?_⟩ <;> (repeat' (first | exact trivial | exact ⟨rfl, rfl⟩ | exact rfl | exact ⟨sub_fn, refs_fn⟩ | refine ⟨⟨rfl, rfl⟩, ?_⟩ | refine ⟨⟨sub_fn, refs_fn⟩, ?_⟩ | refine ⟨⟨rfl, fun h => Bool.noConfusion h⟩, ?_⟩ | refine ⟨⟨rfl, fun h => ?_⟩, ?_⟩ | refine ⟨rfl, ?_⟩ | refine ⟨?_, ?_⟩ | fail))) ⟨by simp only; omega, by simp [hi2], fun j hj => ?_, fun e he => ?_⟩ (by simp only; omega)
    · simp only at hj ⊢
      by_cases hji : j = i
      · subst hji
        rw [List.getElem?_set_self (by omega)]
        exact hx.symm
      · rw [List.getElem?_set_ne (fun e => hji e.symm)]
        exact hi3 j (by omega)
    · rcases List.mem_or_eq_of_mem_set he with h1 | h1
      · exact hi4 e h1
      · rw [h1]; rfl
  · have hes : es = xs.map Phase.pv := List.ext_getElem? fun j => by
      rcases Nat.lt_or_ge j i with hj | hj
      · exact hi3 j hj
      · rw [List.getElem?_eq_none (by omega), List.getElem?_eq_none (by omega)]
    subst hes
    repeat' (first
      | (refine g_exec ?_; first | (refine g_move ?_; refine x_moveO _ rfl ?_) | (refine g_assign ?_; refine x_assignO _ rfl ?_) | (refine g_bin ?_; first | (refine x_add rfl rfl (by omega) ?_) | (refine x_bin _ rfl rfl rfl ?_) | (refine x_strBin _ rfl rfl rfl ?_)) | (refine g_load ?_; first | (refine x_load_pc (by assumption) rfl ?_) | (refine x_load_oc _ (by assumption) rfl rfl (by first | rfl | assumption | exact getSelf (by omega) | exact getNe (by omega) (by assumption)) rfl ?_) | (refine x_load_pa _ (by assumption) rfl (by first | (simp; done) | fail) (by (first | (simp only [lx, Nat.reduceAdd]; first | done | rfl) | fail)) ?_) | (refine x_load_oa _ (by assumption) rfl rfl (by first | rfl | assumption | exact getSelf (by omega) | exact getNe (by omega) (by assumption)) (by first | (simp; done) | fail) (by (first | (simp only [lx, Nat.reduceAdd]; first | done | rfl) | fail)) ?_)) | (refine g_index ?_; first | (refine x_index_l _ (by assumption) rfl rfl (by omega) (by assumption) ?_) | (refine x_index_o _ (by assumption) rfl rfl rfl rfl (by omega) (by omega) (by first | (rw [Nat.zero_add, Int.toNat_natCast]) | (rw [Nat.zero_add]) | rfl) ?_)) | (refine g_call ?_; first | (refine x_len_l (by assumption) rfl ?_) | (refine x_len_o (by assumption) rfl rfl ?_) | (refine x_len_n (by assumption) rfl ?_) | (refine x_len_s (by assumption) (evO_ok rfl) ?_)) | (refine x_storeO _ _ _ rfl rfl (by first | rfl | assumption | exact getSelf (by omega) | exact getNe (by omega) (by assumption)) (by first | assumption | (exact TAgg.size (by assumption))) rfl rfl rfl (by first | (simp; done) | fail) rfl (by (first | (simp only [lx, Nat.reduceAdd]; first | done | rfl) | fail)) (by first | (first | (simp only [lx, Nat.reduceAdd]; first | done | rfl) | fail) | rfl) ?_) | (refine x_make (by assumption) (by assumption) rfl rfl rfl (by omega) rfl ?_) | (refine x_nil (hK _ _ (.inl rfl) ?_); clear hK K) | (refine x_nil (hK _ _ (.inr (by kernel_rfl)) ?_); clear hK K))
      | (refine g_code ?_; first | (refine v_seq ?_) | (refine v_region (fun K hK => ?_)) | (refine v_block ?_) | (refine v_skip ?_) | (refine v_ret ?_) | (refine v_exit ?_) | (refine g_cond ?_; first | (refine v_cond_y rfl (by first | rfl | assumption | (simp only [sx]; omega) | (simp; done) | fail) ?_) | (refine v_cond_n rfl (by first | rfl | assumption | (simp only [sx]; omega) | (simp; done) | fail) ?_) | (refine v_condt rfl (fun h => ?_) (fun h => ?_) <;> (have h' := h; (try simp only [sx] at h')))))
      | (refine q_then ?_) | (refine q_then_r ?_) | (refine q_then_e ?_) | (refine q_blk_n ?_) | (refine q_blk_r ?_) | (refine q_blk_e ?_) | (refine q_blk_o rfl ?_) | (refine q_loop_r ?_) | (refine q_loop_e ?_) | (refine ret_n ?_))
    exact ret_list rfl (lookE_ok (by rfl)) (by rfl) (by decide) rfl (Phase.flat xs) rfl
def markPhase (k : Int) (n : Nat) : List Phase := (List.range n).map fun i : Nat => ⟨k + 2 * (i : Int), k + 2 * (i : Int) + 1⟩
theorem markPhase_len (k : Int) (n : Nat) : (markPhase k n).length = n := by simp [markPhase]
theorem markPhase_at {k : Int} {n i : Nat} (h : i < n) : (markPhase k n)[i]? = some ⟨k + 2 * i, k + 2 * i + 1⟩ := by simp [markPhase, h]
theorem con_markPhaseS (xs : List Phase) (k : Int) (hn : xs.length ≤ 1099511627776) (hk : 0 ≤ k ∧ k ≤ 1099511627776) : ContractP Try.prog 31 true [.osl (io, 0) 0 xs.length, .int .i64 k] [⟨82, 2, xs.map Phase.pv, false⟩] (fun r' fin' => r' = .int .i64 (k + 2 * xs.length) ∧ fin' = [(markPhase k xs.length).map Phase.pv]) := by
  refine contract_of hmix Try.func31 rfl (by kernel_rfl) (by kernel_rfl) (Nat.le_of_ble_eq_true rfl) (fun row h => by simp at h; subst h; rfl) ?_
  have hty_u44 := ty_u44
  have hty_s44 := ty_s44
  have hty_f82_0 := ty_f82_0
  have hty_t3 := ty_t3
  have hty_f82_1 := ty_f82_1
  have hl1 : (xs.map Phase.pv).length = xs.length := by simp
  repeat' (first
      | (refine g_exec ?_; first | (refine g_move ?_; refine x_moveO _ rfl ?_) | (refine g_assign ?_; refine x_assignO _ rfl ?_) | (refine g_bin ?_; first | (refine x_add rfl rfl (by omega) ?_) | (refine x_bin _ rfl rfl rfl ?_) | (refine x_strBin _ rfl rfl rfl ?_)) | (refine g_field ?_; first | (refine x_field_p _ (by assumption) rfl (by (first | (simp only [lx, Nat.reduceAdd]; first | done | rfl) | fail)) ?_) | (refine x_field_o _ (by assumption) rfl rfl (by simp only [lx, Nat.reduceAdd]; first | done | rfl) ?_)) | (refine g_index ?_; first | (refine x_index_l _ (by assumption) rfl rfl (by omega) (by assumption) ?_) | (refine x_index_o _ (by assumption) rfl rfl rfl rfl (by omega) (by omega) (by first | (rw [Nat.zero_add, Int.toNat_natCast]) | (rw [Nat.zero_add]) | rfl) ?_)) | (refine g_call ?_; first | (refine x_len_l (by assumption) rfl ?_) | (refine x_len_o (by assumption) rfl rfl ?_) | (refine x_len_n (by assumption) rfl ?_) | (refine x_len_s (by assumption) (evO_ok rfl) ?_)) | (refine x_storeO _ _ _ rfl rfl (by first | rfl | assumption | exact getSelf (by omega) | exact getNe (by omega) (by assumption)) (by first | assumption | (exact TAgg.size (by assumption))) rfl rfl rfl (by first | (simp; done) | fail) rfl (by (first | (simp only [lx, Nat.reduceAdd]; first | done | rfl) | fail)) (by first | (first | (simp only [lx, Nat.reduceAdd]; first | done | rfl) | fail) | rfl) ?_) | (refine x_nil (hK _ _ (.inl rfl) ?_); clear hK K) | (refine x_nil (hK _ _ (.inr (by kernel_rfl)) ?_); clear hK K))
      | (refine g_code ?_; first | (refine v_seq ?_) | (refine v_region (fun K hK => ?_)) | (refine v_block ?_) | (refine v_skip ?_) | (refine v_ret ?_) | (refine v_exit ?_) | (refine g_cond ?_; first | (refine v_cond_y rfl (by first | rfl | assumption | (simp only [sx]; omega) | (simp; done) | fail) ?_) | (refine v_cond_n rfl (by first | rfl | assumption | (simp only [sx]; omega) | (simp; done) | fail) ?_) | (refine v_condt rfl (fun h => ?_) (fun h => ?_) <;> (have h' := h; (try simp only [sx] at h')))))
      | (refine q_then ?_) | (refine q_then_r ?_) | (refine q_then_e ?_) | (refine q_blk_n ?_) | (refine q_blk_r ?_) | (refine q_blk_e ?_) | (refine q_blk_o rfl ?_) | (refine q_loop_r ?_) | (refine q_loop_e ?_) | (refine ret_n ?_))
  refine v_loopA (fun p : Nat × Int × List (List PV) => ⟨[(0, .osl (io, 0) 0 xs.length), (1, .int .i64 p.2.1), (5, .int .i64 p.1)], [((io, 0), some ⟨82, 2, p.2.2, false⟩)]⟩)
    (fun p => p.1 ≤ xs.length ∧ p.2.1 = k + 2 * p.1 ∧ p.2.2.length = xs.length ∧ (∀ j, j < p.1 → p.2.2[j]? = ((markPhase k xs.length).map Phase.pv)[j]?) ∧ ∀ e ∈ p.2.2, e.length = 2) (fun p => xs.length - p.1) (0, k, xs.map Phase.pv) (by refine ⟨?_, ?_⟩ <;> (repeat' (first | exact trivial | exact ⟨rfl, rfl⟩ | exact rfl | exact ⟨sub_fn, refs_fn⟩ | refine ⟨⟨rfl, rfl⟩, ?_⟩ | refine ⟨⟨sub_fn, refs_fn⟩, ?_⟩ | refine ⟨⟨rfl, fun h => Bool.noConfusion h⟩, ?_⟩ | refine ⟨⟨rfl, fun h => ?_⟩, ?_⟩ | refine ⟨rfl, ?_⟩ | refine ⟨?_, ?_⟩ | fail)))
    ⟨by simp, by simp, by simp, fun j hj => by simp at hj, fun e he => by obtain ⟨a, _, rfl⟩ := List.mem_map.1 he; rfl⟩ (fun p hp => ?_)
  obtain ⟨i, q, es⟩ := p
  obtain ⟨hi1, hi2, hi3, hi4, hi5⟩ := hp
  simp only at hi1 hi2 hi3 hi4 hi5
  rcases Nat.lt_or_ge i xs.length with hlt | hge
  · obtain ⟨e, he⟩ : ∃ e, es[i]? = some e := ⟨es[i]'(by omega), List.getElem?_eq_getElem (by omega)⟩
    obtain ⟨e0, e1, rfl⟩ : ∃ e0 e1, e = [e0, e1] := by
      have := hi5 e (List.mem_of_getElem? he)
      match e, this with
      | [a, b], _ => exact ⟨a, b, rfl⟩
    dsimp only
    repeat' (first
      | (refine g_exec ?_; first | (refine g_move ?_; refine x_moveO _ rfl ?_) | (refine g_assign ?_; refine x_assignO _ rfl ?_) | (refine g_bin ?_; first | (refine x_add rfl rfl (by omega) ?_) | (refine x_bin _ rfl rfl rfl ?_) | (refine x_strBin _ rfl rfl rfl ?_)) | (refine g_field ?_; first | (refine x_field_p _ (by assumption) rfl (by (first | (simp only [lx, Nat.reduceAdd]; first | done | rfl) | fail)) ?_) | (refine x_field_o _ (by assumption) rfl rfl (by simp only [lx, Nat.reduceAdd]; first | done | rfl) ?_)) | (refine g_index ?_; first | (refine x_index_l _ (by assumption) rfl rfl (by omega) (by assumption) ?_) | (refine x_index_o _ (by assumption) rfl rfl rfl rfl (by omega) (by omega) (by first | (rw [Nat.zero_add, Int.toNat_natCast]) | (rw [Nat.zero_add]) | rfl) ?_)) | (refine g_call ?_; first | (refine x_len_l (by assumption) rfl ?_) | (refine x_len_o (by assumption) rfl rfl ?_) | (refine x_len_n (by assumption) rfl ?_) | (refine x_len_s (by assumption) (evO_ok rfl) ?_)) | (refine x_storeO _ _ _ rfl rfl (by first | rfl | assumption | exact getSelf (by omega) | exact getNe (by omega) (by assumption)) (by first | assumption | (exact TAgg.size (by assumption))) rfl rfl rfl (by first | (simp; done) | fail) rfl (by (first | (simp only [lx, Nat.reduceAdd]; first | done | rfl) | fail)) (by first | (first | (simp only [lx, Nat.reduceAdd]; first | done | rfl) | fail) | rfl) ?_) | (refine x_nil (hK _ _ (.inl rfl) ?_); clear hK K) | (refine x_nil (hK _ _ (.inr (by kernel_rfl)) ?_); clear hK K))
      | (refine g_code ?_; first | (refine v_seq ?_) | (refine v_region (fun K hK => ?_)) | (refine v_block ?_) | (refine v_skip ?_) | (refine v_ret ?_) | (refine v_exit ?_) | (refine g_cond ?_; first | (refine v_cond_y rfl (by first | rfl | assumption | (simp only [sx]; omega) | (simp; done) | fail) ?_) | (refine v_cond_n rfl (by first | rfl | assumption | (simp only [sx]; omega) | (simp; done) | fail) ?_) | (refine v_condt rfl (fun h => ?_) (fun h => ?_) <;> (have h' := h; (try simp only [sx] at h')))))
      | (refine q_then ?_) | (refine q_then_r ?_) | (refine q_then_e ?_) | (refine q_blk_n ?_) | (refine q_blk_r ?_) | (refine q_blk_e ?_) | (refine q_blk_o rfl ?_) | (refine q_loop_r ?_) | (refine q_loop_e ?_) | (refine ret_n ?_))
    refine q_loopA (i + 1, q + 1 + 1, es.set i [.int .i64 q, .int .i64 (q + 1)]) (by refine ⟨?_, ?_⟩ <;> (repeat' (first | exact trivial | exact ⟨rfl, rfl⟩ | exact rfl | exact ⟨sub_fn, refs_fn⟩ | refine ⟨⟨rfl, rfl⟩, ?_⟩ | refine ⟨⟨sub_fn, refs_fn⟩, ?_⟩ | refine ⟨⟨rfl, fun h => Bool.noConfusion h⟩, ?_⟩ | refine ⟨⟨rfl, fun h => ?_⟩, ?_⟩ | refine ⟨rfl, ?_⟩ | refine ⟨?_, ?_⟩ | fail))) ⟨by simp only; omega, by simp only; omega, by simp [hi3], fun j hj => ?_, fun e he => ?_⟩ (by simp only; omega)
    · simp only at hj ⊢
      by_cases hji : j = i
      · subst hji
        rw [List.getElem?_set_self (by omega), Phase.at (markPhase_at (k := k) hlt), ← hi2]

      · rw [List.getElem?_set_ne (fun e => hji e.symm)]
        exact hi4 j (by omega)
    · rcases List.mem_or_eq_of_mem_set he with h1 | h1
      · exact hi5 e h1
      · rw [h1]; rfl
  · repeat' (first
      | (refine g_exec ?_; first | (refine g_move ?_; refine x_moveO _ rfl ?_) | (refine g_assign ?_; refine x_assignO _ rfl ?_) | (refine g_bin ?_; first | (refine x_add rfl rfl (by omega) ?_) | (refine x_bin _ rfl rfl rfl ?_) | (refine x_strBin _ rfl rfl rfl ?_)) | (refine g_field ?_; first | (refine x_field_p _ (by assumption) rfl (by (first | (simp only [lx, Nat.reduceAdd]; first | done | rfl) | fail)) ?_) | (refine x_field_o _ (by assumption) rfl rfl (by simp only [lx, Nat.reduceAdd]; first | done | rfl) ?_)) | (refine g_index ?_; first | (refine x_index_l _ (by assumption) rfl rfl (by omega) (by assumption) ?_) | (refine x_index_o _ (by assumption) rfl rfl rfl rfl (by omega) (by omega) (by first | (rw [Nat.zero_add, Int.toNat_natCast]) | (rw [Nat.zero_add]) | rfl) ?_)) | (refine g_call ?_; first | (refine x_len_l (by assumption) rfl ?_) | (refine x_len_o (by assumption) rfl rfl ?_) | (refine x_len_n (by assumption) rfl ?_) | (refine x_len_s (by assumption) (evO_ok rfl) ?_)) | (refine x_storeO _ _ _ rfl rfl (by first | rfl | assumption | exact getSelf (by omega) | exact getNe (by omega) (by assumption)) (by first | assumption | (exact TAgg.size (by assumption))) rfl rfl rfl (by first | (simp; done) | fail) rfl (by (first | (simp only [lx, Nat.reduceAdd]; first | done | rfl) | fail)) (by first | (first | (simp only [lx, Nat.reduceAdd]; first | done | rfl) | fail) | rfl) ?_) | (refine x_nil (hK _ _ (.inl rfl) ?_); clear hK K) | (refine x_nil (hK _ _ (.inr (by kernel_rfl)) ?_); clear hK K))
      | (refine g_code ?_; first | (refine v_seq ?_) | (refine v_region (fun K hK => ?_)) | (refine v_block ?_) | (refine v_skip ?_) | (refine v_ret ?_) | (refine v_exit ?_) | (refine g_cond ?_; first | (refine v_cond_y rfl (by first | rfl | assumption | (simp only [sx]; omega) | (simp; done) | fail) ?_) | (refine v_cond_n rfl (by first | rfl | assumption | (simp only [sx]; omega) | (simp; done) | fail) ?_) | (refine v_condt rfl (fun h => ?_) (fun h => ?_) <;> (have h' := h; (try simp only [sx] at h')))))
      | (refine q_then ?_) | (refine q_then_r ?_) | (refine q_then_e ?_) | (refine q_blk_n ?_) | (refine q_blk_r ?_) | (refine q_blk_e ?_) | (refine q_blk_o rfl ?_) | (refine q_loop_r ?_) | (refine q_loop_e ?_) | (refine ret_n ?_))
    have hes : es = (markPhase k xs.length).map Phase.pv := List.ext_getElem? fun j => by
      rcases Nat.lt_or_ge j i with hj | hj
      · exact hi4 j hj
      · rw [List.getElem?_eq_none (by omega), List.getElem?_eq_none (by simp [markPhase_len]; omega)]
    subst hes
    exact ret_io rfl (lookE_ok rfl) (by show q = _; omega) (by simp [markPhase_len]) (by rfl)
end Go.Vs
