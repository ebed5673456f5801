/- RECORD Asset: what a law asks of lists of it. -/
import Derived.Test.YtcnldfcjidmgaaaVd1
set_option linter.unusedVariables false
set_option linter.unusedSimpArgs false
set_option maxRecDepth 100000
set_option maxHeartbeats 4000000
namespace Go.Vs
open Go.Proofs
attribute [local irreducible] exec vwp thenQ blkQ loopQ RetPost

structure Asset where
  (id : Int)
  (name : ByteArray)
  (worth : Int)
  (loss : Int)
  deriving DecidableEq
@[reducible] def Asset.pv (c : Asset) : List PV := [.int .i64 c.id, .str c.name, .int .i64 c.worth, .int .i64 c.loss]
theorem Asset.at {xs : List Asset} {i : Nat} {a : Asset} (h : xs[i]? = some a) : (xs.map Asset.pv)[i]? = some [.int .i64 a.id, .str a.name, .int .i64 a.worth, .int .i64 a.loss] := by simp [h]
theorem Asset.flat (xs : List Asset) : ∀ e ∈ xs.map Asset.pv, ∀ c ∈ e, c.flat = true := by
  intro e he c hc
  obtain ⟨a, _, rfl⟩ := List.mem_map.1 he
  simp only [Asset.pv, List.mem_cons, List.not_mem_nil, or_false] at hc
  rcases hc with rfl | rfl | rfl | rfl <;> rfl
theorem con_eqAsset (a b : Asset) : Con Try.prog 65 [.agg a.pv, .agg b.pv] (.bool (decide (a = b))) := by
  intro al
  refine contract_of hmix Try.func65 rfl (by kernel_rfl) (by kernel_rfl) (Nat.le_of_ble_eq_true rfl) (fun row h => by cases h) ?_
  have hty_f71_0 := ty_f71_0
  have hty_c3 := ty_c3
  have hty_f71_1 := ty_f71_1
  have hty_c9 := ty_c9
  have hty_f71_2 := ty_f71_2
  have hty_f71_3 := ty_f71_3
  repeat' (first
      | (refine g_exec ?_; first | (refine g_assign ?_; refine x_assignO _ rfl ?_) | (refine g_bin ?_; first | (refine x_bin _ rfl rfl rfl ?_) | (refine x_boolNe (by assumption) rfl rfl ?_) | (refine x_strBin _ rfl rfl rfl ?_)) | (refine g_load ?_; first | (refine x_load_pc (by assumption) rfl ?_) | (refine x_load_oc _ (by assumption) rfl rfl (by first | rfl | assumption | exact getSelf (by omega) | exact getNe (by omega) (by assumption)) rfl ?_) | (refine x_load_pa _ (by assumption) rfl (by first | (simp; done) | fail) (by (first | (simp only [lx, Nat.reduceAdd]; first | done | rfl) | fail)) ?_) | (refine x_load_oa _ (by assumption) rfl rfl (by first | rfl | assumption | exact getSelf (by omega) | exact getNe (by omega) (by assumption)) (by first | (simp; done) | fail) (by (first | (simp only [lx, Nat.reduceAdd]; first | done | rfl) | fail)) ?_)) | (refine g_field ?_; first | (refine x_field_p _ (by assumption) rfl (by (first | (simp only [lx, Nat.reduceAdd]; first | done | rfl) | fail)) ?_) | (refine x_field_o _ (by assumption) rfl rfl (by simp only [lx, Nat.reduceAdd]; first | done | rfl) ?_)) | (refine x_boxO _ _ rfl rfl rfl rfl ?_) | (refine x_nil (hK _ _ (.inl rfl) ?_); clear hK K) | (refine x_nil (hK _ _ (.inr (by kernel_rfl)) ?_); clear hK K))
      | (refine g_code ?_; first | (refine v_seq ?_) | (refine v_region (fun K hK => ?_)) | (refine v_block ?_) | (refine v_skip ?_) | (refine v_ret ?_) | (refine v_exit ?_) | (refine g_cond ?_; first | (refine v_cond_y rfl (by first | rfl | assumption | (simp only [sx]; omega) | (simp; done) | fail) ?_) | (refine v_cond_n rfl (by first | rfl | assumption | (simp only [sx]; omega) | (simp; done) | fail) ?_) | (refine v_condt rfl (fun h => ?_) (fun h => ?_) <;> (have h' := h; (try simp only [sx] at h')))))
      | (refine q_then ?_) | (refine q_then_r ?_) | (refine q_then_e ?_) | (refine q_blk_n ?_) | (refine q_blk_r ?_) | (refine q_blk_e ?_) | (refine q_blk_o rfl ?_) | (refine q_loop_r ?_) | (refine q_loop_e ?_) | (refine ret_n ?_))
  all_goals (refine ret_bool rfl (lookE_ok rfl) ?_; cases a; cases b; simp_all [str_iff])
theorem con_toAsset (c : Asset) : Con Try.prog 61 [.agg c.pv] (.agg c.pv) := by
  intro al
  refine contract_of hmix Try.func61 rfl (by kernel_rfl) (by kernel_rfl) (Nat.le_of_ble_eq_true rfl) (fun row h => by cases h) ?_
  have hty_a71 := ty_a71
  have hty_z71 := ty_z71
  have hty_f77_0 := ty_f77_0
  have hty_c3 := ty_c3
  have hty_f71_0 := ty_f71_0
  have hty_t3 := ty_t3
  have hty_f77_1 := ty_f77_1
  have hty_c9 := ty_c9
  have hty_f71_1 := ty_f71_1
  have hty_t9 := ty_t9
  have hty_f77_2 := ty_f77_2
  have hty_f71_2 := ty_f71_2
  have hty_f77_3 := ty_f77_3
  have hty_f71_3 := ty_f71_3
  have hty_t71 := ty_t71
  repeat' (first
      | (refine g_exec ?_; first | (refine g_load ?_; first | (refine x_load_pc (by assumption) rfl ?_) | (refine x_load_oc _ (by assumption) rfl rfl (by first | rfl | assumption | exact getSelf (by omega) | exact getNe (by omega) (by assumption)) rfl ?_) | (refine x_load_pa _ (by assumption) rfl (by first | (simp; done) | fail) (by (first | (simp only [lx, Nat.reduceAdd]; first | done | rfl) | fail)) ?_) | (refine x_load_oa _ (by assumption) rfl rfl (by first | rfl | assumption | exact getSelf (by omega) | exact getNe (by omega) (by assumption)) (by first | (simp; done) | fail) (by (first | (simp only [lx, Nat.reduceAdd]; first | done | rfl) | fail)) ?_)) | (refine g_field ?_; first | (refine x_field_p _ (by assumption) rfl (by (first | (simp only [lx, Nat.reduceAdd]; first | done | rfl) | fail)) ?_) | (refine x_field_o _ (by assumption) rfl rfl (by simp only [lx, Nat.reduceAdd]; first | done | rfl) ?_)) | (refine x_boxO _ _ rfl rfl rfl rfl ?_) | (refine x_alloc _ (by assumption) rfl ?_) | (refine x_storeO _ _ _ rfl rfl (by first | rfl | assumption | exact getSelf (by omega) | exact getNe (by omega) (by assumption)) (by first | assumption | (exact TAgg.size (by assumption))) rfl rfl rfl (by first | (simp; done) | fail) rfl (by (first | (simp only [lx, Nat.reduceAdd]; first | done | rfl) | fail)) (by first | (first | (simp only [lx, Nat.reduceAdd]; first | done | rfl) | fail) | rfl) ?_) | (refine x_nil (hK _ _ (.inl rfl) ?_); clear hK K) | (refine x_nil (hK _ _ (.inr (by kernel_rfl)) ?_); clear hK K))
      | (refine g_code ?_; first | (refine v_seq ?_) | (refine v_region (fun K hK => ?_)) | (refine v_block ?_) | (refine v_skip ?_) | (refine v_ret ?_) | (refine v_exit ?_))
      | (refine q_then ?_) | (refine q_then_r ?_) | (refine q_then_e ?_) | (refine q_blk_n ?_) | (refine q_blk_r ?_) | (refine q_blk_e ?_) | (refine q_blk_o rfl ?_) | (refine q_loop_r ?_) | (refine q_loop_e ?_) | (refine ret_n ?_))
  exact ret_cell (cs := c.pv) rfl ty_a71 (lookE_ok (by rfl)) (by rfl) (by rfl) (by rfl) (by rfl)
theorem con_eqAssetS (xs ys : List Asset) (hn : xs.length ≤ 1099511627776) : Con Try.prog 19 [.list 4 (xs.map Asset.pv), .list 4 (ys.map Asset.pv)] (.bool (decide (xs = ys))) := by
  intro al
  refine contract_of hmix Try.func19 rfl (by kernel_rfl) (by kernel_rfl) (Nat.le_of_ble_eq_true rfl) (fun row h => by cases h) ?_
  have hty_u25 := ty_u25
  have hty_s25 := ty_s25
  have hty_a71 := ty_a71
  have hl1 : (xs.map Asset.pv).length = xs.length := by simp
  have hl2 : (ys.map Asset.pv).length = ys.length := by simp
  repeat' (first
      | (refine g_exec ?_; first | (refine g_move ?_; refine x_moveO _ rfl ?_) | (refine g_assign ?_; refine x_assignO _ rfl ?_) | (refine g_bin ?_; first | (refine x_add rfl rfl (by omega) ?_) | (refine x_bin _ rfl rfl rfl ?_) | (refine x_boolNe (by assumption) rfl rfl ?_) | (refine x_strBin _ rfl rfl rfl ?_)) | (refine g_un ?_; first | (refine x_not rfl ?_) | (refine x_neg rfl (by omega) ?_)) | (refine g_load ?_; first | (refine x_load_pc (by assumption) rfl ?_) | (refine x_load_oc _ (by assumption) rfl rfl (by first | rfl | assumption | exact getSelf (by omega) | exact getNe (by omega) (by assumption)) rfl ?_) | (refine x_load_pa _ (by assumption) rfl (by first | (simp; done) | fail) (by (first | (simp only [lx, Nat.reduceAdd]; first | done | rfl) | fail)) ?_) | (refine x_load_oa _ (by assumption) rfl rfl (by first | rfl | assumption | exact getSelf (by omega) | exact getNe (by omega) (by assumption)) (by first | (simp; done) | fail) (by (first | (simp only [lx, Nat.reduceAdd]; first | done | rfl) | fail)) ?_)) | (refine g_index ?_; first | (refine x_index_l _ (by assumption) rfl rfl (by omega) (by assumption) ?_) | (refine x_index_o _ (by assumption) rfl rfl rfl rfl (by omega) (by omega) (by first | (rw [Nat.zero_add, Int.toNat_natCast]) | (rw [Nat.zero_add]) | rfl) ?_)) | (refine g_call ?_; first | (refine x_len_l (by assumption) rfl ?_) | (refine x_len_o (by assumption) rfl rfl ?_) | (refine x_len_n (by assumption) rfl ?_) | (refine x_len_s (by assumption) (evO_ok rfl) ?_)) | (refine x_nil (hK _ _ (.inl rfl) ?_); clear hK K) | (refine x_nil (hK _ _ (.inr (by kernel_rfl)) ?_); clear hK K))
      | (refine g_code ?_; first | (refine v_seq ?_) | (refine v_region (fun K hK => ?_)) | (refine v_block ?_) | (refine v_skip ?_) | (refine v_ret ?_) | (refine v_exit ?_) | (refine g_cond ?_; first | (refine v_cond_y rfl (by first | rfl | assumption | (simp only [sx]; omega) | (simp; done) | fail) ?_) | (refine v_cond_n rfl (by first | rfl | assumption | (simp only [sx]; omega) | (simp; done) | fail) ?_) | (refine v_condt rfl (fun h => ?_) (fun h => ?_) <;> (have h' := h; (try simp only [sx] at h')))))
      | (refine q_then ?_) | (refine q_then_r ?_) | (refine q_then_e ?_) | (refine q_blk_n ?_) | (refine q_blk_r ?_) | (refine q_blk_e ?_) | (refine q_blk_o rfl ?_) | (refine q_loop_r ?_) | (refine q_loop_e ?_) | (refine ret_n ?_))
  · refine ret_bool rfl (lookE_ok rfl) ?_
    by_cases he : xs = ys
    · subst he; omega
    · simp [he]
  refine v_loopA (fun i : Nat => ⟨[(0, .list 4 (xs.map Asset.pv)), (1, .list 4 (ys.map Asset.pv)), (5, .int .i64 i)], []⟩) (fun i => i ≤ xs.length ∧ ∀ j, j < i → xs[j]? = ys[j]?) (fun i => xs.length - i) 0 (by refine ⟨?_, ?_⟩ <;> (repeat' (first | exact trivial | exact ⟨rfl, rfl⟩ | exact rfl | exact ⟨sub_fn, refs_fn⟩ | refine ⟨⟨rfl, rfl⟩, ?_⟩ | refine ⟨⟨sub_fn, refs_fn⟩, ?_⟩ | refine ⟨⟨rfl, fun h => Bool.noConfusion h⟩, ?_⟩ | refine ⟨⟨rfl, fun h => ?_⟩, ?_⟩ | refine ⟨rfl, ?_⟩ | refine ⟨?_, ?_⟩ | fail))) ⟨by omega, fun j hj => by omega⟩ (fun i hi => ?_)
  obtain ⟨hi1, hi2⟩ := hi
  rcases Nat.lt_or_ge i xs.length with hlt | hge
  · obtain ⟨a, ha⟩ : ∃ a, xs[i]? = some a := ⟨xs[i], List.getElem?_eq_getElem hlt⟩
    obtain ⟨b, hb⟩ : ∃ a, ys[i]? = some a := ⟨ys[i]'(by omega), List.getElem?_eq_getElem (by omega)⟩
    have hx := Asset.at ha
    have hy := Asset.at hb
    repeat' (first
      | (refine g_exec ?_; first | (refine g_move ?_; refine x_moveO _ rfl ?_) | (refine g_assign ?_; refine x_assignO _ rfl ?_) | (refine g_bin ?_; first | (refine x_add rfl rfl (by omega) ?_) | (refine x_bin _ rfl rfl rfl ?_) | (refine x_boolNe (by assumption) rfl rfl ?_) | (refine x_strBin _ rfl rfl rfl ?_)) | (refine g_un ?_; first | (refine x_not rfl ?_) | (refine x_neg rfl (by omega) ?_)) | (refine g_load ?_; first | (refine x_load_pc (by assumption) rfl ?_) | (refine x_load_oc _ (by assumption) rfl rfl (by first | rfl | assumption | exact getSelf (by omega) | exact getNe (by omega) (by assumption)) rfl ?_) | (refine x_load_pa _ (by assumption) rfl (by first | (simp; done) | fail) (by (first | (simp only [lx, Nat.reduceAdd]; first | done | rfl) | fail)) ?_) | (refine x_load_oa _ (by assumption) rfl rfl (by first | rfl | assumption | exact getSelf (by omega) | exact getNe (by omega) (by assumption)) (by first | (simp; done) | fail) (by (first | (simp only [lx, Nat.reduceAdd]; first | done | rfl) | fail)) ?_)) | (refine g_index ?_; first | (refine x_index_l _ (by assumption) rfl rfl (by omega) (by assumption) ?_) | (refine x_index_o _ (by assumption) rfl rfl rfl rfl (by omega) (by omega) (by first | (rw [Nat.zero_add, Int.toNat_natCast]) | (rw [Nat.zero_add]) | rfl) ?_)) | (refine g_call ?_; first | (refine x_callG true (con_eqAsset a b) rfl rfl rfl (by (repeat' (first | exact trivial | exact rfl | exact allR_ptrs _ | exact .inl rfl | exact sn_all rfl rfl rfl | exact sn_all rfl rfl (by first | omega | (simp; done) | fail) | exact sn_part rfl rfl (by first | (simp; done) | exact (takeAll (by assumption)).symm | exact (takeAll (by first | (simp; done) | omega | fail)).symm | (first | (simp only [lx, Nat.reduceAdd]; first | done | rfl) | fail) | fail) | refine sn_own rfl rfl rfl ?_ | exact List.length_map .. | refine ⟨?_, ?_⟩)); first | done | fail) rfl (by simp only [thaw, thawT, thaw1, thawL, Nat.zero_add, Nat.reduceAdd]; exact rfl) ?_; simp only [List.cons_append, List.nil_append, List.map_cons, List.map_nil]) | (refine x_len_l (by assumption) rfl ?_) | (refine x_len_o (by assumption) rfl rfl ?_) | (refine x_len_n (by assumption) rfl ?_) | (refine x_len_s (by assumption) (evO_ok rfl) ?_)) | (refine x_nil (hK _ _ (.inl rfl) ?_); clear hK K) | (refine x_nil (hK _ _ (.inr (by kernel_rfl)) ?_); clear hK K))
      | (refine g_code ?_; first | (refine v_seq ?_) | (refine v_region (fun K hK => ?_)) | (refine v_block ?_) | (refine v_skip ?_) | (refine v_ret ?_) | (refine v_exit ?_) | (refine g_cond ?_; first | (refine v_cond_y rfl (by first | rfl | assumption | (simp only [sx]; omega) | (simp; done) | fail) ?_) | (refine v_cond_n rfl (by first | rfl | assumption | (simp only [sx]; omega) | (simp; done) | fail) ?_) | (refine v_condt rfl (fun h => ?_) (fun h => ?_) <;> (have h' := h; (try simp only [sx] at h')))))
      | (refine q_then ?_) | (refine q_then_r ?_) | (refine q_then_e ?_) | (refine q_blk_n ?_) | (refine q_blk_r ?_) | (refine q_blk_e ?_) | (refine q_blk_o rfl ?_) | (refine q_loop_r ?_) | (refine q_loop_e ?_) | (refine ret_n ?_))
    · refine ret_bool rfl (lookE_ok rfl) ?_
      have : ¬ xs = ys := fun e => by rw [e, hb] at ha; injection ha with ha; exact h' ha.symm
      simp [this]
    · refine q_loopA (i + 1) (by refine ⟨?_, ?_⟩ <;> (repeat' (first | exact trivial | exact ⟨rfl, rfl⟩ | exact rfl | exact ⟨sub_fn, refs_fn⟩ | refine ⟨⟨rfl, rfl⟩, ?_⟩ | refine ⟨⟨sub_fn, refs_fn⟩, ?_⟩ | refine ⟨⟨rfl, fun h => Bool.noConfusion h⟩, ?_⟩ | refine ⟨⟨rfl, fun h => ?_⟩, ?_⟩ | refine ⟨rfl, ?_⟩ | refine ⟨?_, ?_⟩ | fail))) ⟨by omega, fun j hj => ?_⟩ (by omega)
      rcases Nat.lt_or_ge j i with hj' | hj'
      · exact hi2 j hj'
      · have : j = i := by omega
        rw [this, ha, hb, h']
  · repeat' (first
      | (refine g_exec ?_; first | (refine g_move ?_; refine x_moveO _ rfl ?_) | (refine g_assign ?_; refine x_assignO _ rfl ?_) | (refine g_bin ?_; first | (refine x_add rfl rfl (by omega) ?_) | (refine x_bin _ rfl rfl rfl ?_) | (refine x_boolNe (by assumption) rfl rfl ?_) | (refine x_strBin _ rfl rfl rfl ?_)) | (refine g_un ?_; first | (refine x_not rfl ?_) | (refine x_neg rfl (by omega) ?_)) | (refine g_load ?_; first | (refine x_load_pc (by assumption) rfl ?_) | (refine x_load_oc _ (by assumption) rfl rfl (by first | rfl | assumption | exact getSelf (by omega) | exact getNe (by omega) (by assumption)) rfl ?_) | (refine x_load_pa _ (by assumption) rfl (by first | (simp; done) | fail) (by (first | (simp only [lx, Nat.reduceAdd]; first | done | rfl) | fail)) ?_) | (refine x_load_oa _ (by assumption) rfl rfl (by first | rfl | assumption | exact getSelf (by omega) | exact getNe (by omega) (by assumption)) (by first | (simp; done) | fail) (by (first | (simp only [lx, Nat.reduceAdd]; first | done | rfl) | fail)) ?_)) | (refine g_index ?_; first | (refine x_index_l _ (by assumption) rfl rfl (by omega) (by assumption) ?_) | (refine x_index_o _ (by assumption) rfl rfl rfl rfl (by omega) (by omega) (by first | (rw [Nat.zero_add, Int.toNat_natCast]) | (rw [Nat.zero_add]) | rfl) ?_)) | (refine g_call ?_; first | (refine x_len_l (by assumption) rfl ?_) | (refine x_len_o (by assumption) rfl rfl ?_) | (refine x_len_n (by assumption) rfl ?_) | (refine x_len_s (by assumption) (evO_ok rfl) ?_)) | (refine x_nil (hK _ _ (.inl rfl) ?_); clear hK K) | (refine x_nil (hK _ _ (.inr (by kernel_rfl)) ?_); clear hK K))
      | (refine g_code ?_; first | (refine v_seq ?_) | (refine v_region (fun K hK => ?_)) | (refine v_block ?_) | (refine v_skip ?_) | (refine v_ret ?_) | (refine v_exit ?_) | (refine g_cond ?_; first | (refine v_cond_y rfl (by first | rfl | assumption | (simp only [sx]; omega) | (simp; done) | fail) ?_) | (refine v_cond_n rfl (by first | rfl | assumption | (simp only [sx]; omega) | (simp; done) | fail) ?_) | (refine v_condt rfl (fun h => ?_) (fun h => ?_) <;> (have h' := h; (try simp only [sx] at h')))))
      | (refine q_then ?_) | (refine q_then_r ?_) | (refine q_then_e ?_) | (refine q_blk_n ?_) | (refine q_blk_r ?_) | (refine q_blk_e ?_) | (refine q_blk_o rfl ?_) | (refine q_loop_r ?_) | (refine q_loop_e ?_) | (refine ret_n ?_))
    refine ret_bool rfl (lookE_ok rfl) ?_
    have : xs = ys := List.ext_getElem? fun j => by
      rcases Nat.lt_or_ge j i with hj | hj
      · exact hi2 j hj
      · rw [List.getElem?_eq_none (by omega), List.getElem?_eq_none (by omega)]
    simp [this]
theorem con_sameAssetS (xs : List Asset) (hn : xs.length ≤ 1099511627776) : Con Try.prog 19 [.list 4 (xs.map Asset.pv), .list 4 (xs.map Asset.pv)] (.bool true) := by
  have := con_eqAssetS xs xs hn
  simpa using this
theorem con_toAssetS (xs : List Asset) (hn : xs.length ≤ 1099511627776) : Con Try.prog 17 [.list 4 (xs.map Asset.pv)] (.olist 71 4 (xs.map Asset.pv)) := by
  intro al
  refine contract_of hmix Try.func17 rfl (by kernel_rfl) (by kernel_rfl) (Nat.le_of_ble_eq_true rfl) (fun row h => by cases h) ?_
  have hty_u22 := ty_u22
  have hty_s22 := ty_s22
  have hty_s25 := ty_s25
  have hty_z71 := ty_z71
  have hty_a77 := ty_a77
  have hty_t71 := ty_t71
  have hty_a71 := ty_a71
  have hl1 : (xs.map Asset.pv).length = xs.length := by simp
  repeat' (first
      | (refine g_exec ?_; first | (refine g_move ?_; refine x_moveO _ rfl ?_) | (refine g_assign ?_; refine x_assignO _ rfl ?_) | (refine g_bin ?_; first | (refine x_add rfl rfl (by omega) ?_) | (refine x_bin _ rfl rfl rfl ?_) | (refine x_strBin _ rfl rfl rfl ?_)) | (refine g_load ?_; first | (refine x_load_pc (by assumption) rfl ?_) | (refine x_load_oc _ (by assumption) rfl rfl (by first | rfl | assumption | exact getSelf (by omega) | exact getNe (by omega) (by assumption)) rfl ?_) | (refine x_load_pa _ (by assumption) rfl (by first | (simp; done) | fail) (by (first | (simp only [lx, Nat.reduceAdd]; first | done | rfl) | fail)) ?_) | (refine x_load_oa _ (by assumption) rfl rfl (by first | rfl | assumption | exact getSelf (by omega) | exact getNe (by omega) (by assumption)) (by first | (simp; done) | fail) (by (first | (simp only [lx, Nat.reduceAdd]; first | done | rfl) | fail)) ?_)) | (refine g_index ?_; first | (refine x_index_l _ (by assumption) rfl rfl (by omega) (by assumption) ?_) | (refine x_index_o _ (by assumption) rfl rfl rfl rfl (by omega) (by omega) (by first | (rw [Nat.zero_add, Int.toNat_natCast]) | (rw [Nat.zero_add]) | rfl) ?_)) | (refine g_call ?_; first | (refine x_len_l (by assumption) rfl ?_) | (refine x_len_o (by assumption) rfl rfl ?_) | (refine x_len_n (by assumption) rfl ?_) | (refine x_len_s (by assumption) (evO_ok rfl) ?_)) | (refine x_storeO _ _ _ rfl rfl (by first | rfl | assumption | exact getSelf (by omega) | exact getNe (by omega) (by assumption)) (by first | assumption | (exact TAgg.size (by assumption))) rfl rfl rfl (by first | (simp; done) | fail) rfl (by (first | (simp only [lx, Nat.reduceAdd]; first | done | rfl) | fail)) (by first | (first | (simp only [lx, Nat.reduceAdd]; first | done | rfl) | fail) | rfl) ?_) | (refine x_make (by assumption) (by assumption) rfl rfl rfl (by omega) rfl ?_) | (refine x_nil (hK _ _ (.inl rfl) ?_); clear hK K) | (refine x_nil (hK _ _ (.inr (by kernel_rfl)) ?_); clear hK K))
      | (refine g_code ?_; first | (refine v_seq ?_) | (refine v_region (fun K hK => ?_)) | (refine v_block ?_) | (refine v_skip ?_) | (refine v_ret ?_) | (refine v_exit ?_) | (refine g_cond ?_; first | (refine v_cond_y rfl (by first | rfl | assumption | (simp only [sx]; omega) | (simp; done) | fail) ?_) | (refine v_cond_n rfl (by first | rfl | assumption | (simp only [sx]; omega) | (simp; done) | fail) ?_) | (refine v_condt rfl (fun h => ?_) (fun h => ?_) <;> (have h' := h; (try simp only [sx] at h')))))
      | (refine q_then ?_) | (refine q_then_r ?_) | (refine q_then_e ?_) | (refine q_blk_n ?_) | (refine q_blk_r ?_) | (refine q_blk_e ?_) | (refine q_blk_o rfl ?_) | (refine q_loop_r ?_) | (refine q_loop_e ?_) | (refine ret_n ?_))
  refine v_loopA (fun p : Nat × List (List PV) => ⟨[(0, .list 4 (xs.map Asset.pv)), (3, .osl (7, 0) 0 (xs.map Asset.pv).length), (4, .int .i64 p.1)], [((7, 0), some ⟨71, 4, p.2, false⟩)]⟩)
    (fun p => p.1 ≤ xs.length ∧ p.2.length = xs.length ∧ (∀ j, j < p.1 → p.2[j]? = (xs.map Asset.pv)[j]?) ∧ ∀ e ∈ p.2, e.length = 4) (fun p => xs.length - p.1) (0, List.replicate (xs.map Asset.pv).length [.int .i64 0, .str ByteArray.empty, .int .i64 0, .int .i64 0]) (by refine ⟨?_, ?_⟩ <;> (repeat' (first | exact trivial | exact ⟨rfl, rfl⟩ | exact rfl | exact ⟨sub_fn, refs_fn⟩ | refine ⟨⟨rfl, rfl⟩, ?_⟩ | refine ⟨⟨sub_fn, refs_fn⟩, ?_⟩ | refine ⟨⟨rfl, fun h => Bool.noConfusion h⟩, ?_⟩ | refine ⟨⟨rfl, fun h => ?_⟩, ?_⟩ | refine ⟨rfl, ?_⟩ | refine ⟨?_, ?_⟩ | fail)))
    ⟨by simp, by simp, fun j hj => by simp at hj, fun e he => by rw [List.eq_of_mem_replicate he]; rfl⟩ (fun p hp => ?_)
  obtain ⟨i, es⟩ := p
  obtain ⟨hi1, hi2, hi3, hi4⟩ := hp
  simp only at hi1 hi2 hi3 hi4
  rcases Nat.lt_or_ge i xs.length with hlt | hge
  · obtain ⟨a, hga⟩ : ∃ a, xs[i]? = some a := ⟨xs[i], List.getElem?_eq_getElem hlt⟩
    have hx := Asset.at hga
    obtain ⟨e, he⟩ : ∃ e, es[i]? = some e := ⟨es[i]'(by omega), List.getElem?_eq_getElem (by omega)⟩
    obtain ⟨e0, e1, e2, e3, rfl⟩ : ∃ e0 e1 e2 e3, e = [e0, e1, e2, e3] := by
      have := hi4 e (List.mem_of_getElem? he)
      match e, this with
      | [a, b, c, d], _ => exact ⟨a, b, c, d, rfl⟩
    repeat' (first
      | (refine g_exec ?_; first | (refine g_move ?_; refine x_moveO _ rfl ?_) | (refine g_assign ?_; refine x_assignO _ rfl ?_) | (refine g_bin ?_; first | (refine x_add rfl rfl (by omega) ?_) | (refine x_bin _ rfl rfl rfl ?_) | (refine x_strBin _ rfl rfl rfl ?_)) | (refine g_load ?_; first | (refine x_load_pc (by assumption) rfl ?_) | (refine x_load_oc _ (by assumption) rfl rfl (by first | rfl | assumption | exact getSelf (by omega) | exact getNe (by omega) (by assumption)) rfl ?_) | (refine x_load_pa _ (by assumption) rfl (by first | (simp; done) | fail) (by (first | (simp only [lx, Nat.reduceAdd]; first | done | rfl) | fail)) ?_) | (refine x_load_oa _ (by assumption) rfl rfl (by first | rfl | assumption | exact getSelf (by omega) | exact getNe (by omega) (by assumption)) (by first | (simp; done) | fail) (by (first | (simp only [lx, Nat.reduceAdd]; first | done | rfl) | fail)) ?_)) | (refine g_index ?_; first | (refine x_index_l _ (by assumption) rfl rfl (by omega) (by assumption) ?_) | (refine x_index_o _ (by assumption) rfl rfl rfl rfl (by omega) (by omega) (by first | (rw [Nat.zero_add, Int.toNat_natCast]) | (rw [Nat.zero_add]) | rfl) ?_)) | (refine g_call ?_; first | (refine x_callG true (con_toAsset a) rfl rfl rfl (by (repeat' (first | exact trivial | exact rfl | exact allR_ptrs _ | exact .inl rfl | exact sn_all rfl rfl rfl | exact sn_all rfl rfl (by first | omega | (simp; done) | fail) | exact sn_part rfl rfl (by first | (simp; done) | exact (takeAll (by assumption)).symm | exact (takeAll (by first | (simp; done) | omega | fail)).symm | (first | (simp only [lx, Nat.reduceAdd]; first | done | rfl) | fail) | fail) | refine sn_own rfl rfl rfl ?_ | exact List.length_map .. | refine ⟨?_, ?_⟩)); first | done | fail) rfl (by simp only [thaw, thawT, thaw1, thawL, Nat.zero_add, Nat.reduceAdd]; exact rfl) ?_; simp only [List.cons_append, List.nil_append, List.map_cons, List.map_nil]) | (refine x_len_l (by assumption) rfl ?_) | (refine x_len_o (by assumption) rfl rfl ?_) | (refine x_len_n (by assumption) rfl ?_) | (refine x_len_s (by assumption) (evO_ok rfl) ?_)) | (refine x_storeO _ _ _ rfl rfl (by first | rfl | assumption | exact getSelf (by omega) | exact getNe (by omega) (by assumption)) (by first | assumption | (exact TAgg.size (by assumption))) rfl rfl rfl (by first | (simp; done) | fail) rfl (by (first | (simp only [lx, Nat.reduceAdd]; first | done | rfl) | fail)) (by first | (first | (simp only [lx, Nat.reduceAdd]; first | done | rfl) | fail) | rfl) ?_) | (refine x_make (by assumption) (by assumption) rfl rfl rfl (by omega) rfl ?_) | (refine x_nil (hK _ _ (.inl rfl) ?_); clear hK K) | (refine x_nil (hK _ _ (.inr (by kernel_rfl)) ?_); clear hK K))
      | (refine g_code ?_; first | (refine v_seq ?_) | (refine v_region (fun K hK => ?_)) | (refine v_block ?_) | (refine v_skip ?_) | (refine v_ret ?_) | (refine v_exit ?_) | (refine g_cond ?_; first | (refine v_cond_y rfl (by first | rfl | assumption | (simp only [sx]; omega) | (simp; done) | fail) ?_) | (refine v_cond_n rfl (by first | rfl | assumption | (simp only [sx]; omega) | (simp; done) | fail) ?_) | (refine v_condt rfl (fun h => ?_) (fun h => ?_) <;> (have h' := h; (try simp only [sx] at h')))))
      | (refine q_then ?_) | (refine q_then_r ?_) | (refine q_then_e ?_) | (refine q_blk_n ?_) | (refine q_blk_r ?_) | (refine q_blk_e ?_) | (refine q_blk_o rfl ?_) | (refine q_loop_r ?_) | (refine q_loop_e ?_) | (refine ret_n ?_))
    refine q_loopA (i + 1, es.set i a.pv) (by refine ⟨?_, ?_⟩ <;> (repeat' (first | exact trivial | exact ⟨rfl, rfl⟩ | exact rfl | exact ⟨sub_fn, refs_fn⟩ | refine ⟨⟨rfl, rfl⟩, ?_⟩ | refine ⟨⟨sub_fn, refs_fn⟩, ?_⟩ | refine ⟨⟨rfl, fun h => Bool.noConfusion h⟩, ?_⟩ | refine ⟨⟨rfl, fun h => ?_⟩, ?_⟩ | refine ⟨rfl, ?_⟩ | refine ⟨?_, ?_⟩ | fail))) ⟨by simp only; omega, by simp [hi2], fun j hj => ?_, fun e he => ?_⟩ (by simp only; omega)
    · simp only at hj ⊢
      by_cases hji : j = i
      · subst hji
        rw [List.getElem?_set_self (by omega)]
        exact hx.symm
      · rw [List.getElem?_set_ne (fun e => hji e.symm)]
        exact hi3 j (by omega)
    · rcases List.mem_or_eq_of_mem_set he with h1 | h1
      · exact hi4 e h1
      · rw [h1]; rfl
  · have hes : es = xs.map Asset.pv := List.ext_getElem? fun j => by
      rcases Nat.lt_or_ge j i with hj | hj
      · exact hi3 j hj
      · rw [List.getElem?_eq_none (by omega), List.getElem?_eq_none (by omega)]
    subst hes
    repeat' (first
      | (refine g_exec ?_; first | (refine g_move ?_; refine x_moveO _ rfl ?_) | (refine g_assign ?_; refine x_assignO _ rfl ?_) | (refine g_bin ?_; first | (refine x_add rfl rfl (by omega) ?_) | (refine x_bin _ rfl rfl rfl ?_) | (refine x_strBin _ rfl rfl rfl ?_)) | (refine g_load ?_; first | (refine x_load_pc (by assumption) rfl ?_) | (refine x_load_oc _ (by assumption) rfl rfl (by first | rfl | assumption | exact getSelf (by omega) | exact getNe (by omega) (by assumption)) rfl ?_) | (refine x_load_pa _ (by assumption) rfl (by first | (simp; done) | fail) (by (first | (simp only [lx, Nat.reduceAdd]; first | done | rfl) | fail)) ?_) | (refine x_load_oa _ (by assumption) rfl rfl (by first | rfl | assumption | exact getSelf (by omega) | exact getNe (by omega) (by assumption)) (by first | (simp; done) | fail) (by (first | (simp only [lx, Nat.reduceAdd]; first | done | rfl) | fail)) ?_)) | (refine g_index ?_; first | (refine x_index_l _ (by assumption) rfl rfl (by omega) (by assumption) ?_) | (refine x_index_o _ (by assumption) rfl rfl rfl rfl (by omega) (by omega) (by first | (rw [Nat.zero_add, Int.toNat_natCast]) | (rw [Nat.zero_add]) | rfl) ?_)) | (refine g_call ?_; first | (refine x_len_l (by assumption) rfl ?_) | (refine x_len_o (by assumption) rfl rfl ?_) | (refine x_len_n (by assumption) rfl ?_) | (refine x_len_s (by assumption) (evO_ok rfl) ?_)) | (refine x_storeO _ _ _ rfl rfl (by first | rfl | assumption | exact getSelf (by omega) | exact getNe (by omega) (by assumption)) (by first | assumption | (exact TAgg.size (by assumption))) rfl rfl rfl (by first | (simp; done) | fail) rfl (by (first | (simp only [lx, Nat.reduceAdd]; first | done | rfl) | fail)) (by first | (first | (simp only [lx, Nat.reduceAdd]; first | done | rfl) | fail) | rfl) ?_) | (refine x_make (by assumption) (by assumption) rfl rfl rfl (by omega) rfl ?_) | (refine x_nil (hK _ _ (.inl rfl) ?_); clear hK K) | (refine x_nil (hK _ _ (.inr (by kernel_rfl)) ?_); clear hK K))
      | (refine g_code ?_; first | (refine v_seq ?_) | (refine v_region (fun K hK => ?_)) | (refine v_block ?_) | (refine v_skip ?_) | (refine v_ret ?_) | (refine v_exit ?_) | (refine g_cond ?_; first | (refine v_cond_y rfl (by first | rfl | assumption | (simp only [sx]; omega) | (simp; done) | fail) ?_) | (refine v_cond_n rfl (by first | rfl | assumption | (simp only [sx]; omega) | (simp; done) | fail) ?_) | (refine v_condt rfl (fun h => ?_) (fun h => ?_) <;> (have h' := h; (try simp only [sx] at h')))))
      | (refine q_then ?_) | (refine q_then_r ?_) | (refine q_then_e ?_) | (refine q_blk_n ?_) | (refine q_blk_r ?_) | (refine q_blk_e ?_) | (refine q_blk_o rfl ?_) | (refine q_loop_r ?_) | (refine q_loop_e ?_) | (refine ret_n ?_))
    exact ret_list rfl (lookE_ok (by rfl)) (by rfl) (by decide) rfl (Asset.flat xs) rfl
end Go.Vs
