/- Parts of a proof: what its last text mentions. -/
import Derived.Test.YtdpgjihgfhefeaaFpb
set_option linter.unusedVariables false
set_option linter.unusedSimpArgs false
set_option maxRecDepth 100000
set_option maxHeartbeats 4000000
namespace Go.Vs
open Go.Proofs
attribute [local irreducible] exec vwp thenQ blkQ loopQ RetPost
theorem k_IndexFuncInt (xs : List Int) (g : FuncId) (ca : List (List PV)) (p : Int → Bool) (hg : ∀ a ∈ xs, Con Try.prog g (.int .i64 a :: ca.map PV.ptr) (.bool (p a))) (hn : xs.length ≤ 1099511627776) :
    Con Try.prog 132 [.list 1 (ints xs), .fn g [] (ca.map PV.ptr)] (.int .i64 (idx p xs)) := by
  intro al
  refine contract_of hmix Try.func132 rfl (by kernel_rfl) (by kernel_rfl) (Nat.le_of_ble_eq_true rfl) (fun row h => by cases h) ?_
  have hty_u33 := ty_u33
  have hty_s33 := ty_s33
  have hty_c3 := ty_c3
  have hl1 : (ints xs).length = xs.length := by simp
  repeat' (first
      | (refine g_exec ?_; first | (refine g_move ?_; refine x_moveO _ rfl ?_) | (refine g_assign ?_; refine x_assignO _ rfl ?_) | (refine g_bin ?_; first | (refine x_add rfl rfl aO ?_) | (refine x_bin _ rfl rfl rfl ?_) | (refine x_strBin _ rfl rfl rfl ?_)) | (refine g_load ?_; first | (refine x_load_pc aA rfl ?_) | (refine x_load_oc _ aA rfl rfl aE rfl ?_) | (refine x_load_pa _ aA rfl aZ aL ?_) | (refine x_load_oa _ aA rfl rfl aE aZ aL ?_)) | (refine g_index ?_; first | (refine x_index_l _ aA rfl rfl aO aA ?_) | (refine x_index_o _ aA rfl rfl rfl rfl aO aO (by first | (rw [Nat.zero_add, Int.toNat_natCast]) | (rw [Nat.zero_add]) | rfl) ?_)) | (refine g_call ?_; first | (refine x_len_l aA rfl ?_) | (refine x_len_o aA rfl rfl ?_) | (refine x_len_n aA rfl ?_) | (refine x_len_s aA (evO_ok rfl) ?_)) | (refine x_nil (hK _ _ (.inl rfl) ?_); clear hK K) | (refine x_nil (hK _ _ (.inr (by kernel_rfl)) ?_); clear hK K))
      | (refine g_code ?_; first | (refine v_seq ?_) | (refine v_region (fun K hK => ?_)) | (refine v_block ?_) | (refine v_skip ?_) | (refine v_ret ?_) | (refine v_exit ?_) | (refine g_cond ?_; first | (refine v_cond_y rfl aD ?_) | (refine v_cond_n rfl aD ?_) | (refine v_condt rfl (fun h => ?_) (fun h => ?_) <;> (have h' := h; (try simp only [sx] at h')))))
      | (refine q_then ?_) | (refine q_then_r ?_) | (refine q_then_e ?_) | (refine q_blk_n ?_) | (refine q_blk_r ?_) | (refine q_blk_e ?_) | (refine q_blk_o rfl ?_) | (refine q_loop_r ?_) | (refine q_loop_e ?_) | (refine ret_n ?_))
  refine v_loopK [0, 1, 7] [] (fun i : Nat => [(8, .int .i64 i)]) (fun i : Nat => []) (fun i : Nat => i ≤ xs.length ∧ ∀ j, j < i → ∀ c, xs[j]? = some c → p c = false) (fun i : Nat => xs.length - i) (0) rfl rfl (fun _ => rfl) (fun _ => rfl) rfl (by refine ⟨?_, ?_, rfl, rfl⟩ <;> (repeat' (first | exact trivial | exact ⟨rfl, rfl⟩ | exact rfl | exact ⟨sub_fn, refs_fn⟩ | refine ⟨⟨rfl, rfl⟩, ?_⟩ | refine ⟨⟨sub_fn, refs_fn⟩, ?_⟩ | refine ⟨⟨rfl, fun h => Bool.noConfusion h⟩, ?_⟩ | refine ⟨⟨rfl, fun h => ?_⟩, ?_⟩ | refine ⟨rfl, ?_⟩ | refine ⟨?_, ?_⟩ | fail))) ⟨by omega, fun j hj => by omega⟩ (fun i hi => ?_)
  obtain ⟨hi1, hi2⟩ := hi
  rcases Nat.lt_or_ge i xs.length with hlt | hge
  · obtain ⟨a, hga⟩ := get_ex hlt
    have hx := ints_at hga
    have kg := hg a (get_mem hga)
    repeat' (first
      | (refine g_exec ?_; first | (refine g_move ?_; refine x_moveO _ rfl ?_) | (refine g_assign ?_; refine x_assignO _ rfl ?_) | (refine g_bin ?_; first | (refine x_add rfl rfl aO ?_) | (refine x_bin _ rfl rfl rfl ?_) | (refine x_strBin _ rfl rfl rfl ?_)) | (refine g_load ?_; first | (refine x_load_pc aA rfl ?_) | (refine x_load_oc _ aA rfl rfl aE rfl ?_) | (refine x_load_pa _ aA rfl aZ aL ?_) | (refine x_load_oa _ aA rfl rfl aE aZ aL ?_)) | (refine g_index ?_; first | (refine x_index_l _ aA rfl rfl aO aA ?_) | (refine x_index_o _ aA rfl rfl rfl rfl aO aO (by first | (rw [Nat.zero_add, Int.toNat_natCast]) | (rw [Nat.zero_add]) | rfl) ?_)) | (refine g_call ?_; first | (refine x_callG true (kg) rfl rfl rfl aS rfl aH ?_; simp only [cl]) | (refine x_call [] _ (kg) rfl rfl aS rfl aH ?_; simp only [cl]) | (refine x_len_l aA rfl ?_) | (refine x_len_o aA rfl rfl ?_) | (refine x_len_n aA rfl ?_) | (refine x_len_s aA (evO_ok rfl) ?_)) | (refine x_nil (hK _ _ (.inl rfl) ?_); clear hK K) | (refine x_nil (hK _ _ (.inr (by kernel_rfl)) ?_); clear hK K))
      | (refine g_code ?_; first | (refine v_seq ?_) | (refine v_region (fun K hK => ?_)) | (refine v_block ?_) | (refine v_skip ?_) | (refine v_ret ?_) | (refine v_exit ?_) | (refine g_cond ?_; first | (refine v_cond_y rfl aD ?_) | (refine v_cond_n rfl aD ?_) | (refine v_condt rfl (fun h => ?_) (fun h => ?_) <;> (have h' := h; (try simp only [sx] at h')))))
      | (refine q_then ?_) | (refine q_then_r ?_) | (refine q_then_e ?_) | (refine q_blk_n ?_) | (refine q_blk_r ?_) | (refine q_blk_e ?_) | (refine q_blk_o rfl ?_) | (refine q_loop_r ?_) | (refine q_loop_e ?_) | (refine ret_n ?_))
    · exact ret_int rfl (lookE_ok rfl) (idx_some hi2 hga aA).symm
    · refine q_next (i + 1) rfl (by refine ⟨?_, ?_, rfl, rfl⟩ <;> (repeat' (first | exact trivial | exact ⟨rfl, rfl⟩ | exact rfl | exact ⟨sub_fn, refs_fn⟩ | refine ⟨⟨rfl, rfl⟩, ?_⟩ | refine ⟨⟨sub_fn, refs_fn⟩, ?_⟩ | refine ⟨⟨rfl, fun h => Bool.noConfusion h⟩, ?_⟩ | refine ⟨⟨rfl, fun h => ?_⟩, ?_⟩ | refine ⟨rfl, ?_⟩ | refine ⟨?_, ?_⟩ | fail))) ⟨by omega, idx_step hi2 hga (by simpa using h)⟩ aO
  · repeat' (first
      | (refine g_exec ?_; first | (refine g_move ?_; refine x_moveO _ rfl ?_) | (refine g_assign ?_; refine x_assignO _ rfl ?_) | (refine g_bin ?_; first | (refine x_add rfl rfl aO ?_) | (refine x_bin _ rfl rfl rfl ?_) | (refine x_strBin _ rfl rfl rfl ?_)) | (refine g_load ?_; first | (refine x_load_pc aA rfl ?_) | (refine x_load_oc _ aA rfl rfl aE rfl ?_) | (refine x_load_pa _ aA rfl aZ aL ?_) | (refine x_load_oa _ aA rfl rfl aE aZ aL ?_)) | (refine g_index ?_; first | (refine x_index_l _ aA rfl rfl aO aA ?_) | (refine x_index_o _ aA rfl rfl rfl rfl aO aO (by first | (rw [Nat.zero_add, Int.toNat_natCast]) | (rw [Nat.zero_add]) | rfl) ?_)) | (refine g_call ?_; first | (refine x_len_l aA rfl ?_) | (refine x_len_o aA rfl rfl ?_) | (refine x_len_n aA rfl ?_) | (refine x_len_s aA (evO_ok rfl) ?_)) | (refine x_nil (hK _ _ (.inl rfl) ?_); clear hK K) | (refine x_nil (hK _ _ (.inr (by kernel_rfl)) ?_); clear hK K))
      | (refine g_code ?_; first | (refine v_seq ?_) | (refine v_region (fun K hK => ?_)) | (refine v_block ?_) | (refine v_skip ?_) | (refine v_ret ?_) | (refine v_exit ?_) | (refine g_cond ?_; first | (refine v_cond_y rfl aD ?_) | (refine v_cond_n rfl aD ?_) | (refine v_condt rfl (fun h => ?_) (fun h => ?_) <;> (have h' := h; (try simp only [sx] at h')))))
      | (refine q_then ?_) | (refine q_then_r ?_) | (refine q_then_e ?_) | (refine q_blk_n ?_) | (refine q_blk_r ?_) | (refine q_blk_e ?_) | (refine q_blk_o rfl ?_) | (refine q_loop_r ?_) | (refine q_loop_e ?_) | (refine ret_n ?_))
    exact ret_int rfl (lookE_ok rfl) (idx_none fun j hj => hi2 j aO).symm
theorem k_ContainsFuncInt (xs : List Int) (g : FuncId) (ca : List (List PV)) (p : Int → Bool) (hg : ∀ a ∈ xs, Con Try.prog g (.int .i64 a :: ca.map PV.ptr) (.bool (p a))) (hn : xs.length ≤ 1099511627776) :
    Con Try.prog 127 [.list 1 (ints xs), .fn g [] (ca.map PV.ptr)] (.bool (xs.any p)) := by
  intro al
  refine contract_of hmix Try.func127 rfl (by kernel_rfl) (by kernel_rfl) (Nat.le_of_ble_eq_true rfl) (fun row h => by cases h) ?_
  have hty_u33 := ty_u33
  have hty_s33 := ty_s33
  repeat' (first
      | (refine g_exec ?_; first | (refine g_move ?_; refine x_moveO _ rfl ?_) | (refine g_assign ?_; refine x_assignO _ rfl ?_) | (refine g_bin ?_; refine x_bin _ rfl rfl rfl ?_) | (refine g_call ?_; refine x_callG false (k_IndexFuncInt xs g ca p hg hn) rfl rfl rfl aS rfl aH ?_; simp only [cl]) | (refine x_nil (hK _ _ (.inl rfl) ?_); clear hK K) | (refine x_nil (hK _ _ (.inr (by kernel_rfl)) ?_); clear hK K))
      | (refine g_code ?_; first | (refine v_seq ?_) | (refine v_region (fun K hK => ?_)) | (refine v_block ?_) | (refine v_skip ?_) | (refine v_ret ?_) | (refine v_exit ?_))
      | (refine q_then ?_) | (refine q_then_r ?_) | (refine q_then_e ?_) | (refine q_blk_n ?_) | (refine q_blk_r ?_) | (refine q_blk_e ?_) | (refine q_blk_o rfl ?_) | (refine q_loop_r ?_) | (refine q_loop_e ?_) | (refine ret_n ?_))
  refine ret_bool rfl (lookE_ok rfl) ?_
  rw [← idx_any]
theorem k_all1Int (a : Int) (g : FuncId) (ca : List (List PV)) (b : Bool) (hg : Con Try.prog g (.int .i64 a :: ca.map PV.ptr) (.bool b)) :
    Con Try.prog 128 [.int .i64 a, .ptr [.fn g [] (ca.map PV.ptr)]] (.bool (!b)) := by
  intro al
  refine contract_of hmix Try.func128 rfl (by kernel_rfl) (by kernel_rfl) (Nat.le_of_ble_eq_true rfl) (fun row h => by cases h) ?_
  have hty_c108 := ty_c108
  have kg := hg
  repeat' (first
      | (refine g_exec ?_; first | (refine g_move ?_; refine x_moveO _ rfl ?_) | (refine g_assign ?_; refine x_assignO _ rfl ?_) | (refine g_un ?_; first | (refine x_not rfl ?_) | (refine x_neg rfl aO ?_)) | (refine g_load ?_; first | (refine x_load_pc aA rfl ?_) | (refine x_load_oc _ aA rfl rfl aE rfl ?_) | (refine x_load_pa _ aA rfl aZ aL ?_) | (refine x_load_oa _ aA rfl rfl aE aZ aL ?_)) | (refine g_call ?_; first | (refine x_callG true (kg) rfl rfl rfl aS rfl aH ?_; simp only [cl]) | (refine x_call [] _ (kg) rfl rfl aS rfl aH ?_; simp only [cl])) | (refine x_nil (hK _ _ (.inl rfl) ?_); clear hK K) | (refine x_nil (hK _ _ (.inr (by kernel_rfl)) ?_); clear hK K))
      | (refine g_code ?_; first | (refine v_seq ?_) | (refine v_region (fun K hK => ?_)) | (refine v_block ?_) | (refine v_skip ?_) | (refine v_ret ?_) | (refine v_exit ?_))
      | (refine q_then ?_) | (refine q_then_r ?_) | (refine q_then_e ?_) | (refine q_blk_n ?_) | (refine q_blk_r ?_) | (refine q_blk_e ?_) | (refine q_blk_o rfl ?_) | (refine q_loop_r ?_) | (refine q_loop_e ?_) | (refine ret_n ?_))
  exact ret_bool rfl (lookE_ok rfl) rfl
theorem k_allInt (xs : List Int) (g : FuncId) (ca : List (List PV)) (p : Int → Bool) (hg : ∀ a ∈ xs, Con Try.prog g (.int .i64 a :: ca.map PV.ptr) (.bool (p a))) (hn : xs.length ≤ 1099511627776) :
    Con Try.prog 108 [.list 1 (ints xs), .fn g [] (ca.map PV.ptr)] (.bool (xs.all p)) := by
  intro al
  refine contract_of hmix Try.func108 rfl (by kernel_rfl) (by kernel_rfl) (Nat.le_of_ble_eq_true rfl) (fun row h => by cases h) ?_
  have hty_u33 := ty_u33
  have hty_s33 := ty_s33
  repeat' (first
      | (refine g_exec ?_; first | (refine g_move ?_; refine x_moveO _ rfl ?_) | (refine g_assign ?_; refine x_assignO _ rfl ?_) | (refine g_un ?_; first | (refine x_not rfl ?_) | (refine x_neg rfl aO ?_)) | (refine g_call ?_; refine x_callG true (k_ContainsFuncInt xs 128 [[.fn g [] (ca.map PV.ptr)]] (fun a => !p a) (fun a ha => k_all1Int a g ca (p a) (hg a ha)) hn) rfl rfl rfl aS rfl aH ?_; simp only [cl]) | (refine x_boxO _ _ rfl rfl rfl rfl ?_) | (refine x_mkfn _ _ rfl rfl ?_) | (refine x_nil (hK _ _ (.inl rfl) ?_); clear hK K) | (refine x_nil (hK _ _ (.inr (by kernel_rfl)) ?_); clear hK K))
      | (refine g_code ?_; first | (refine v_seq ?_) | (refine v_region (fun K hK => ?_)) | (refine v_block ?_) | (refine v_skip ?_) | (refine v_ret ?_) | (refine v_exit ?_))
      | (refine q_then ?_) | (refine q_then_r ?_) | (refine q_then_e ?_) | (refine q_blk_n ?_) | (refine q_blk_r ?_) | (refine q_blk_e ?_) | (refine q_blk_o rfl ?_) | (refine q_loop_r ?_) | (refine q_loop_e ?_) | (refine ret_n ?_))
  refine ret_bool rfl (lookE_ok rfl) ?_
  rw [List.all_eq_not_any_not]
theorem k_filterInt (xs : List Int) (g : FuncId) (ca : List (List PV)) (p : Int → Bool) (hg : ∀ a ∈ xs, Con Try.prog g (.int .i64 a :: ca.map PV.ptr) (.bool (p a))) (hn : xs.length ≤ 1099511627776) :
    Con Try.prog 95 [.list 1 (ints xs), .fn g [] (ca.map PV.ptr)] (.olist 3 1 (ints (xs.filter p))) := by
  intro al
  refine contract_of hmix Try.func95 rfl (by kernel_rfl) (by kernel_rfl) (Nat.le_of_ble_eq_true rfl) (fun row h => by cases h) ?_
  have hty_s33 := ty_s33
  have hty_u33 := ty_u33
  have hty_c3 := ty_c3
  have hl1 : (ints xs).length = xs.length := by simp
  repeat' (first
      | (refine g_exec ?_; first | (refine g_move ?_; refine x_moveO _ rfl ?_) | (refine g_assign ?_; refine x_assignO _ rfl ?_) | (refine g_bin ?_; first | (refine x_add rfl rfl aO ?_) | (refine x_bin _ rfl rfl rfl ?_) | (refine x_strBin _ rfl rfl rfl ?_)) | (refine g_load ?_; first | (refine x_load_pc aA rfl ?_) | (refine x_load_oc _ aA rfl rfl aE rfl ?_) | (refine x_load_pa _ aA rfl aZ aL ?_) | (refine x_load_oa _ aA rfl rfl aE aZ aL ?_)) | (refine g_index ?_; first | (refine x_index_l _ aA rfl rfl aO aA ?_) | (refine x_index_o _ aA rfl rfl rfl rfl aO aO (by first | (rw [Nat.zero_add, Int.toNat_natCast]) | (rw [Nat.zero_add]) | rfl) ?_)) | (refine g_call ?_; first | (refine x_len_l aA rfl ?_) | (refine x_len_o aA rfl rfl ?_) | (refine x_len_n aA rfl ?_) | (refine x_len_s aA (evO_ok rfl) ?_) | (refine x_appOO _ _ aA rfl (lookM (by rfl)) rfl (lookM (by rfl)) rfl aN ⟨rfl, rfl, by decide, by decide⟩ (by first | rfl | omega | (simp; done) | (simp; omega) | fail) ⟨by first | (simp only [List.length_cons, List.length_nil]; omega) | omega | fail, by decide⟩ rfl (by first | (first | (simp only [lx, Nat.reduceAdd]; first | done | rfl) | fail) | rfl) aP ?_) | (refine x_appCO _ _ aA rfl rfl (lookM (by rfl)) ⟨rfl, by decide⟩ aN (by first | exact Nat.succ_pos _ | omega | (simp; done)) ⟨by first | (simp only [List.length_cons, List.length_nil]; omega) | omega | fail, by decide⟩ rfl rfl aP ?_) | (refine x_appNO _ aA rfl rfl (lookM (by rfl)) ⟨rfl, by decide⟩ aN ⟨by first | (simp only [List.length_cons, List.length_nil]; omega) | omega | fail, by decide⟩ rfl aP ?_) | (refine x_app_ol _ aA rfl rfl rfl ⟨rfl, rfl, rfl, by decide, by decide⟩ (by first | rfl | (simp; done) | fail) ⟨by omega, by decide⟩ rfl aL (by first | (rw [Nat.zero_add]) | rfl) ?_)) | (refine x_buildSliceO aA rfl rfl rfl ?_) | (refine x_nil (hK _ _ (.inl rfl) ?_); clear hK K) | (refine x_nil (hK _ _ (.inr (by kernel_rfl)) ?_); clear hK K))
      | (refine g_code ?_; first | (refine v_seq ?_) | (refine v_region (fun K hK => ?_)) | (refine v_block ?_) | (refine v_skip ?_) | (refine v_ret ?_) | (refine v_exit ?_) | (refine g_cond ?_; first | (refine v_cond_y rfl aD ?_) | (refine v_cond_n rfl aD ?_) | (refine v_condt rfl (fun h => ?_) (fun h => ?_) <;> (have h' := h; (try simp only [sx] at h')))))
      | (refine q_then ?_) | (refine q_then_r ?_) | (refine q_then_e ?_) | (refine q_blk_n ?_) | (refine q_blk_r ?_) | (refine q_blk_e ?_) | (refine q_blk_o rfl ?_) | (refine q_loop_r ?_) | (refine q_loop_e ?_) | (refine ret_n ?_))
  refine v_loopK [1, 9, 10] [] (fun q : Nat × Nat × List (List PV) => [(5, .osl (1001, 0) 0 q.2.1), (11, .int .i64 q.1)]) (fun q : Nat × Nat × List (List PV) => [((1001, 0), some ⟨3, 1, q.2.2, false⟩)]) (fun q : Nat × Nat × List (List PV) => q.1 ≤ xs.length ∧ q.2.2 = ints ((xs.take q.1).filter p) ∧ q.2.2.length = q.2.1) (fun q : Nat × Nat × List (List PV) => xs.length - q.1) ((0, 0, [])) rfl rfl (fun _ => rfl) (fun _ => rfl) rfl (by refine ⟨?_, ?_, rfl, rfl⟩ <;> (repeat' (first | exact trivial | exact ⟨rfl, rfl⟩ | exact rfl | exact ⟨sub_fn, refs_fn⟩ | refine ⟨⟨rfl, rfl⟩, ?_⟩ | refine ⟨⟨sub_fn, refs_fn⟩, ?_⟩ | refine ⟨⟨rfl, fun h => Bool.noConfusion h⟩, ?_⟩ | refine ⟨⟨rfl, fun h => ?_⟩, ?_⟩ | refine ⟨rfl, ?_⟩ | refine ⟨?_, ?_⟩ | fail))) ⟨by simp, by simp, rfl⟩ (fun q hq => ?_)
  obtain ⟨i, m, es⟩ := q
  obtain ⟨hi1, hi2, hl⟩ := hq
  simp only at hi1 hi2 hl
  have hle : es.length ≤ i := by rw [hi2]; simp only [List.length_map]; exact Nat.le_trans (List.length_filter_le _ _) (by rw [List.length_take]; omega)
  rcases Nat.lt_or_ge i xs.length with hlt | hge
  · obtain ⟨a, hga⟩ := get_ex hlt
    have hx := ints_at hga
    have kg := hg a (get_mem hga)
    dsimp only
    repeat' (first
      | (refine g_exec ?_; first | (refine g_move ?_; refine x_moveO _ rfl ?_) | (refine g_assign ?_; refine x_assignO _ rfl ?_) | (refine g_bin ?_; first | (refine x_add rfl rfl aO ?_) | (refine x_bin _ rfl rfl rfl ?_) | (refine x_strBin _ rfl rfl rfl ?_)) | (refine g_load ?_; first | (refine x_load_pc aA rfl ?_) | (refine x_load_oc _ aA rfl rfl aE rfl ?_) | (refine x_load_pa _ aA rfl aZ aL ?_) | (refine x_load_oa _ aA rfl rfl aE aZ aL ?_)) | (refine g_index ?_; first | (refine x_index_l _ aA rfl rfl aO aA ?_) | (refine x_index_o _ aA rfl rfl rfl rfl aO aO (by first | (rw [Nat.zero_add, Int.toNat_natCast]) | (rw [Nat.zero_add]) | rfl) ?_)) | (refine g_call ?_; first | (refine x_callG true (kg) rfl rfl rfl aS rfl aH ?_; simp only [cl]) | (refine x_call [] _ (kg) rfl rfl aS rfl aH ?_; simp only [cl]) | (refine x_len_l aA rfl ?_) | (refine x_len_o aA rfl rfl ?_) | (refine x_len_n aA rfl ?_) | (refine x_len_s aA (evO_ok rfl) ?_) | (refine x_appOO _ _ aA rfl (lookM (by rfl)) rfl (lookM (by rfl)) rfl aN ⟨rfl, rfl, by decide, by decide⟩ (by first | rfl | omega | (simp; done) | (simp; omega) | fail) ⟨by first | (simp only [List.length_cons, List.length_nil]; omega) | omega | fail, by decide⟩ rfl (by first | (first | (simp only [lx, Nat.reduceAdd]; first | done | rfl) | fail) | rfl) aP ?_) | (refine x_appCO _ _ aA rfl rfl (lookM (by rfl)) ⟨rfl, by decide⟩ aN (by first | exact Nat.succ_pos _ | omega | (simp; done)) ⟨by first | (simp only [List.length_cons, List.length_nil]; omega) | omega | fail, by decide⟩ rfl rfl aP ?_) | (refine x_appNO _ aA rfl rfl (lookM (by rfl)) ⟨rfl, by decide⟩ aN ⟨by first | (simp only [List.length_cons, List.length_nil]; omega) | omega | fail, by decide⟩ rfl aP ?_) | (refine x_app_ol _ aA rfl rfl rfl ⟨rfl, rfl, rfl, by decide, by decide⟩ (by first | rfl | (simp; done) | fail) ⟨by omega, by decide⟩ rfl aL (by first | (rw [Nat.zero_add]) | rfl) ?_)) | (refine x_buildSliceO aA rfl rfl rfl ?_) | (refine x_nil (hK _ _ (.inl rfl) ?_); clear hK K) | (refine x_nil (hK _ _ (.inr (by kernel_rfl)) ?_); clear hK K))
      | (refine g_code ?_; first | (refine v_seq ?_) | (refine v_region (fun K hK => ?_)) | (refine v_block ?_) | (refine v_skip ?_) | (refine v_ret ?_) | (refine v_exit ?_) | (refine g_cond ?_; first | (refine v_cond_y rfl aD ?_) | (refine v_cond_n rfl aD ?_) | (refine v_condt rfl (fun h => ?_) (fun h => ?_) <;> (have h' := h; (try simp only [sx] at h')))))
      | (refine q_then ?_) | (refine q_then_r ?_) | (refine q_then_e ?_) | (refine q_blk_n ?_) | (refine q_blk_r ?_) | (refine q_blk_e ?_) | (refine q_blk_o rfl ?_) | (refine q_loop_r ?_) | (refine q_loop_e ?_) | (refine ret_n ?_))
    · refine q_next (i + 1, m + 1, es ++ [[.int .i64 a]]) rfl (by refine ⟨?_, ?_, rfl, rfl⟩ <;> (repeat' (first | exact trivial | exact ⟨rfl, rfl⟩ | exact rfl | exact ⟨sub_fn, refs_fn⟩ | refine ⟨⟨rfl, rfl⟩, ?_⟩ | refine ⟨⟨sub_fn, refs_fn⟩, ?_⟩ | refine ⟨⟨rfl, fun h => Bool.noConfusion h⟩, ?_⟩ | refine ⟨⟨rfl, fun h => ?_⟩, ?_⟩ | refine ⟨rfl, ?_⟩ | refine ⟨?_, ?_⟩ | fail))) ⟨by simp only; omega, ?_, by simp [hl]⟩ (by simp only; omega)
      simp only [filter_take_t hga (show p a = true by assumption), ints_snoc, hi2, List.map_cons, List.map_nil]
    · refine q_next (i + 1, m, es) rfl (by refine ⟨?_, ?_, rfl, rfl⟩ <;> (repeat' (first | exact trivial | exact ⟨rfl, rfl⟩ | exact rfl | exact ⟨sub_fn, refs_fn⟩ | refine ⟨⟨rfl, rfl⟩, ?_⟩ | refine ⟨⟨sub_fn, refs_fn⟩, ?_⟩ | refine ⟨⟨rfl, fun h => Bool.noConfusion h⟩, ?_⟩ | refine ⟨⟨rfl, fun h => ?_⟩, ?_⟩ | refine ⟨rfl, ?_⟩ | refine ⟨?_, ?_⟩ | fail))) ⟨by simp only; omega, ?_, hl⟩ (by simp only; omega)
      simp only [filter_take_f hga (show p a = false by assumption), hi2]
  · repeat' (first
      | (refine g_exec ?_; first | (refine g_move ?_; refine x_moveO _ rfl ?_) | (refine g_assign ?_; refine x_assignO _ rfl ?_) | (refine g_bin ?_; first | (refine x_add rfl rfl aO ?_) | (refine x_bin _ rfl rfl rfl ?_) | (refine x_strBin _ rfl rfl rfl ?_)) | (refine g_load ?_; first | (refine x_load_pc aA rfl ?_) | (refine x_load_oc _ aA rfl rfl aE rfl ?_) | (refine x_load_pa _ aA rfl aZ aL ?_) | (refine x_load_oa _ aA rfl rfl aE aZ aL ?_)) | (refine g_index ?_; first | (refine x_index_l _ aA rfl rfl aO aA ?_) | (refine x_index_o _ aA rfl rfl rfl rfl aO aO (by first | (rw [Nat.zero_add, Int.toNat_natCast]) | (rw [Nat.zero_add]) | rfl) ?_)) | (refine g_call ?_; first | (refine x_len_l aA rfl ?_) | (refine x_len_o aA rfl rfl ?_) | (refine x_len_n aA rfl ?_) | (refine x_len_s aA (evO_ok rfl) ?_) | (refine x_appOO _ _ aA rfl (lookM (by rfl)) rfl (lookM (by rfl)) rfl aN ⟨rfl, rfl, by decide, by decide⟩ (by first | rfl | omega | (simp; done) | (simp; omega) | fail) ⟨by first | (simp only [List.length_cons, List.length_nil]; omega) | omega | fail, by decide⟩ rfl (by first | (first | (simp only [lx, Nat.reduceAdd]; first | done | rfl) | fail) | rfl) aP ?_) | (refine x_appCO _ _ aA rfl rfl (lookM (by rfl)) ⟨rfl, by decide⟩ aN (by first | exact Nat.succ_pos _ | omega | (simp; done)) ⟨by first | (simp only [List.length_cons, List.length_nil]; omega) | omega | fail, by decide⟩ rfl rfl aP ?_) | (refine x_appNO _ aA rfl rfl (lookM (by rfl)) ⟨rfl, by decide⟩ aN ⟨by first | (simp only [List.length_cons, List.length_nil]; omega) | omega | fail, by decide⟩ rfl aP ?_) | (refine x_app_ol _ aA rfl rfl rfl ⟨rfl, rfl, rfl, by decide, by decide⟩ (by first | rfl | (simp; done) | fail) ⟨by omega, by decide⟩ rfl aL (by first | (rw [Nat.zero_add]) | rfl) ?_)) | (refine x_buildSliceO aA rfl rfl rfl ?_) | (refine x_nil (hK _ _ (.inl rfl) ?_); clear hK K) | (refine x_nil (hK _ _ (.inr (by kernel_rfl)) ?_); clear hK K))
      | (refine g_code ?_; first | (refine v_seq ?_) | (refine v_region (fun K hK => ?_)) | (refine v_block ?_) | (refine v_skip ?_) | (refine v_ret ?_) | (refine v_exit ?_) | (refine g_cond ?_; first | (refine v_cond_y rfl aD ?_) | (refine v_cond_n rfl aD ?_) | (refine v_condt rfl (fun h => ?_) (fun h => ?_) <;> (have h' := h; (try simp only [sx] at h')))))
      | (refine q_then ?_) | (refine q_then_r ?_) | (refine q_then_e ?_) | (refine q_blk_n ?_) | (refine q_blk_r ?_) | (refine q_blk_e ?_) | (refine q_blk_o rfl ?_) | (refine q_loop_r ?_) | (refine q_loop_e ?_) | (refine ret_n ?_))
    have : xs.take i = xs := take_all aO
    rw [this] at hi2
    subst hi2
    exact ret_list rfl (lookE_ok (by rfl)) (by rfl) (by decide) hl.symm (ints_flat _) rfl
end Go.Vs
set_option linter.unusedVariables false
set_option linter.unusedSimpArgs false
set_option maxRecDepth 100000
set_option maxHeartbeats 4000000
namespace Go.Vs
open Go.Proofs
attribute [local irreducible] exec vwp thenQ blkQ loopQ RetPost
theorem str_iff (a b : ByteArray) : (a.toList = b.toList) = (a = b) := by
  rw [ByteArray.toList_eq, ByteArray.toList_eq]
  refine propext ⟨fun h => ?_, fun h => by rw [h]⟩
  cases a; cases b
  simp only [ByteArray.mk.injEq]
  exact Array.ext' h
theorem not_mem_of {xs : List Int} {n : Int} (h : ∀ y ∈ xs, y ≠ n) : n ∉ xs := fun hm => h n hm rfl
theorem k_l1Has (xs : List Int) (n : Int) (hn : xs.length ≤ 1099511627776) : Con Try.prog 110 [.list 1 (ints xs), .int .i64 n] (.bool (decide (n ∈ xs))) := by
  intro al
  refine contract_of hmix Try.func110 rfl (by kernel_rfl) (by kernel_rfl) (Nat.le_of_ble_eq_true rfl) (fun row h => by cases h) ?_
  have hty_u33 := ty_u33
  have hty_s33 := ty_s33
  have hty_c3 := ty_c3
  have hl1 : (ints xs).length = xs.length := by simp
  repeat' (first
      | (refine g_exec ?_; first | (refine g_move ?_; refine x_moveO _ rfl ?_) | (refine g_assign ?_; refine x_assignO _ rfl ?_) | (refine g_bin ?_; first | (refine x_add rfl rfl aO ?_) | (refine x_bin _ rfl rfl rfl ?_) | (refine x_boolEq aA rfl rfl ?_) | (refine x_strBin _ rfl rfl rfl ?_)) | (refine g_load ?_; first | (refine x_load_pc aA rfl ?_) | (refine x_load_oc _ aA rfl rfl aE rfl ?_) | (refine x_load_pa _ aA rfl aZ aL ?_) | (refine x_load_oa _ aA rfl rfl aE aZ aL ?_)) | (refine g_index ?_; first | (refine x_index_l _ aA rfl rfl aO aA ?_) | (refine x_index_o _ aA rfl rfl rfl rfl aO aO (by first | (rw [Nat.zero_add, Int.toNat_natCast]) | (rw [Nat.zero_add]) | rfl) ?_)) | (refine g_call ?_; first | (refine x_len_l aA rfl ?_) | (refine x_len_o aA rfl rfl ?_) | (refine x_len_n aA rfl ?_) | (refine x_len_s aA (evO_ok rfl) ?_)) | (refine x_nil (hK _ _ (.inl rfl) ?_); clear hK K) | (refine x_nil (hK _ _ (.inr (by kernel_rfl)) ?_); clear hK K))
      | (refine g_code ?_; first | (refine v_seq ?_) | (refine v_region (fun K hK => ?_)) | (refine v_block ?_) | (refine v_skip ?_) | (refine v_ret ?_) | (refine v_exit ?_) | (refine g_cond ?_; first | (refine v_cond_y rfl aD ?_) | (refine v_cond_n rfl aD ?_) | (refine v_condt rfl (fun h => ?_) (fun h => ?_) <;> (have h' := h; (try simp only [sx] at h')))))
      | (refine q_then ?_) | (refine q_then_r ?_) | (refine q_then_e ?_) | (refine q_blk_n ?_) | (refine q_blk_r ?_) | (refine q_blk_e ?_) | (refine q_blk_o rfl ?_) | (refine q_loop_r ?_) | (refine q_loop_e ?_) | (refine ret_n ?_))
  refine v_loopK [0, 1] [] (fun i : Nat => [(5, .int .i64 i)]) (fun i : Nat => []) (fun i : Nat => i ≤ xs.length ∧ ∀ y ∈ xs.take i, y ≠ n) (fun i : Nat => xs.length - i) (0) rfl rfl (fun _ => rfl) (fun _ => rfl) rfl (by refine ⟨?_, ?_, rfl, rfl⟩ <;> (repeat' (first | exact trivial | exact ⟨rfl, rfl⟩ | exact rfl | exact ⟨sub_fn, refs_fn⟩ | refine ⟨⟨rfl, rfl⟩, ?_⟩ | refine ⟨⟨sub_fn, refs_fn⟩, ?_⟩ | refine ⟨⟨rfl, fun h => Bool.noConfusion h⟩, ?_⟩ | refine ⟨⟨rfl, fun h => ?_⟩, ?_⟩ | refine ⟨rfl, ?_⟩ | refine ⟨?_, ?_⟩ | fail))) ⟨by omega, fun y hy => by simp at hy⟩ (fun i hi => ?_)
  obtain ⟨hi1, hi2⟩ := hi
  rcases Nat.lt_or_ge i xs.length with hlt | hge
  · obtain ⟨a, hga⟩ := get_ex hlt
    have hx := ints_at hga
    repeat' (first
      | (refine g_exec ?_; first | (refine g_move ?_; refine x_moveO _ rfl ?_) | (refine g_assign ?_; refine x_assignO _ rfl ?_) | (refine g_bin ?_; first | (refine x_add rfl rfl aO ?_) | (refine x_bin _ rfl rfl rfl ?_) | (refine x_boolEq aA rfl rfl ?_) | (refine x_strBin _ rfl rfl rfl ?_)) | (refine g_load ?_; first | (refine x_load_pc aA rfl ?_) | (refine x_load_oc _ aA rfl rfl aE rfl ?_) | (refine x_load_pa _ aA rfl aZ aL ?_) | (refine x_load_oa _ aA rfl rfl aE aZ aL ?_)) | (refine g_index ?_; first | (refine x_index_l _ aA rfl rfl aO aA ?_) | (refine x_index_o _ aA rfl rfl rfl rfl aO aO (by first | (rw [Nat.zero_add, Int.toNat_natCast]) | (rw [Nat.zero_add]) | rfl) ?_)) | (refine g_call ?_; first | (refine x_len_l aA rfl ?_) | (refine x_len_o aA rfl rfl ?_) | (refine x_len_n aA rfl ?_) | (refine x_len_s aA (evO_ok rfl) ?_)) | (refine x_nil (hK _ _ (.inl rfl) ?_); clear hK K) | (refine x_nil (hK _ _ (.inr (by kernel_rfl)) ?_); clear hK K))
      | (refine g_code ?_; first | (refine v_seq ?_) | (refine v_region (fun K hK => ?_)) | (refine v_block ?_) | (refine v_skip ?_) | (refine v_ret ?_) | (refine v_exit ?_) | (refine g_cond ?_; first | (refine v_cond_y rfl aD ?_) | (refine v_cond_n rfl aD ?_) | (refine v_condt rfl (fun h => ?_) (fun h => ?_) <;> (have h' := h; (try simp only [sx] at h')))))
      | (refine q_then ?_) | (refine q_then_r ?_) | (refine q_then_e ?_) | (refine q_blk_n ?_) | (refine q_blk_r ?_) | (refine q_blk_e ?_) | (refine q_blk_o rfl ?_) | (refine q_loop_r ?_) | (refine q_loop_e ?_) | (refine ret_n ?_))
    · refine ret_bool rfl (lookE_ok rfl) ?_
      have : n ∈ xs := by rw [← h']; exact get_mem hga
      simp [this]
    · refine q_next (i + 1) rfl (by refine ⟨?_, ?_, rfl, rfl⟩ <;> (repeat' (first | exact trivial | exact ⟨rfl, rfl⟩ | exact rfl | exact ⟨sub_fn, refs_fn⟩ | refine ⟨⟨rfl, rfl⟩, ?_⟩ | refine ⟨⟨sub_fn, refs_fn⟩, ?_⟩ | refine ⟨⟨rfl, fun h => Bool.noConfusion h⟩, ?_⟩ | refine ⟨⟨rfl, fun h => ?_⟩, ?_⟩ | refine ⟨rfl, ?_⟩ | refine ⟨?_, ?_⟩ | fail))) ⟨by omega, all_take_succ hga hi2 (by simpa using h')⟩ aO
  · repeat' (first
      | (refine g_exec ?_; first | (refine g_move ?_; refine x_moveO _ rfl ?_) | (refine g_assign ?_; refine x_assignO _ rfl ?_) | (refine g_bin ?_; first | (refine x_add rfl rfl aO ?_) | (refine x_bin _ rfl rfl rfl ?_) | (refine x_boolEq aA rfl rfl ?_) | (refine x_strBin _ rfl rfl rfl ?_)) | (refine g_load ?_; first | (refine x_load_pc aA rfl ?_) | (refine x_load_oc _ aA rfl rfl aE rfl ?_) | (refine x_load_pa _ aA rfl aZ aL ?_) | (refine x_load_oa _ aA rfl rfl aE aZ aL ?_)) | (refine g_index ?_; first | (refine x_index_l _ aA rfl rfl aO aA ?_) | (refine x_index_o _ aA rfl rfl rfl rfl aO aO (by first | (rw [Nat.zero_add, Int.toNat_natCast]) | (rw [Nat.zero_add]) | rfl) ?_)) | (refine g_call ?_; first | (refine x_len_l aA rfl ?_) | (refine x_len_o aA rfl rfl ?_) | (refine x_len_n aA rfl ?_) | (refine x_len_s aA (evO_ok rfl) ?_)) | (refine x_nil (hK _ _ (.inl rfl) ?_); clear hK K) | (refine x_nil (hK _ _ (.inr (by kernel_rfl)) ?_); clear hK K))
      | (refine g_code ?_; first | (refine v_seq ?_) | (refine v_region (fun K hK => ?_)) | (refine v_block ?_) | (refine v_skip ?_) | (refine v_ret ?_) | (refine v_exit ?_) | (refine g_cond ?_; first | (refine v_cond_y rfl aD ?_) | (refine v_cond_n rfl aD ?_) | (refine v_condt rfl (fun h => ?_) (fun h => ?_) <;> (have h' := h; (try simp only [sx] at h')))))
      | (refine q_then ?_) | (refine q_then_r ?_) | (refine q_then_e ?_) | (refine q_blk_n ?_) | (refine q_blk_r ?_) | (refine q_blk_e ?_) | (refine q_blk_o rfl ?_) | (refine q_loop_r ?_) | (refine q_loop_e ?_) | (refine ret_n ?_))
    refine ret_bool rfl (lookE_ok rfl) ?_
    rw [take_all hge] at hi2
    simp [not_mem_of hi2]
theorem k_IndexInt (xs : List Int) (n : Int) (hn : xs.length ≤ 1099511627776) : Con Try.prog 131 [.list 1 (ints xs), .int .i64 n] (.int .i64 (idx (fun a => decide (n = a)) xs)) := by
  intro al
  refine contract_of hmix Try.func131 rfl (by kernel_rfl) (by kernel_rfl) (Nat.le_of_ble_eq_true rfl) (fun row h => by cases h) ?_
  have hty_u33 := ty_u33
  have hty_s33 := ty_s33
  have hty_c3 := ty_c3
  have hl1 : (ints xs).length = xs.length := by simp
  repeat' (first
      | (refine g_exec ?_; first | (refine g_move ?_; refine x_moveO _ rfl ?_) | (refine g_assign ?_; refine x_assignO _ rfl ?_) | (refine g_bin ?_; first | (refine x_add rfl rfl aO ?_) | (refine x_bin _ rfl rfl rfl ?_) | (refine x_boolEq aA rfl rfl ?_) | (refine x_strBin _ rfl rfl rfl ?_)) | (refine g_load ?_; first | (refine x_load_pc aA rfl ?_) | (refine x_load_oc _ aA rfl rfl aE rfl ?_) | (refine x_load_pa _ aA rfl aZ aL ?_) | (refine x_load_oa _ aA rfl rfl aE aZ aL ?_)) | (refine g_index ?_; first | (refine x_index_l _ aA rfl rfl aO aA ?_) | (refine x_index_o _ aA rfl rfl rfl rfl aO aO (by first | (rw [Nat.zero_add, Int.toNat_natCast]) | (rw [Nat.zero_add]) | rfl) ?_)) | (refine g_call ?_; first | (refine x_len_l aA rfl ?_) | (refine x_len_o aA rfl rfl ?_) | (refine x_len_n aA rfl ?_) | (refine x_len_s aA (evO_ok rfl) ?_)) | (refine x_nil (hK _ _ (.inl rfl) ?_); clear hK K) | (refine x_nil (hK _ _ (.inr (by kernel_rfl)) ?_); clear hK K))
      | (refine g_code ?_; first | (refine v_seq ?_) | (refine v_region (fun K hK => ?_)) | (refine v_block ?_) | (refine v_skip ?_) | (refine v_ret ?_) | (refine v_exit ?_) | (refine g_cond ?_; first | (refine v_cond_y rfl aD ?_) | (refine v_cond_n rfl aD ?_) | (refine v_condt rfl (fun h => ?_) (fun h => ?_) <;> (have h' := h; (try simp only [sx] at h')))))
      | (refine q_then ?_) | (refine q_then_r ?_) | (refine q_then_e ?_) | (refine q_blk_n ?_) | (refine q_blk_r ?_) | (refine q_blk_e ?_) | (refine q_blk_o rfl ?_) | (refine q_loop_r ?_) | (refine q_loop_e ?_) | (refine ret_n ?_))
  refine v_loopK [0, 1, 7] [] (fun i : Nat => [(8, .int .i64 i)]) (fun i : Nat => []) (fun i : Nat => i ≤ xs.length ∧ ∀ j, j < i → ∀ c, xs[j]? = some c → decide (n = c) = false) (fun i : Nat => xs.length - i) (0) rfl rfl (fun _ => rfl) (fun _ => rfl) rfl (by refine ⟨?_, ?_, rfl, rfl⟩ <;> (repeat' (first | exact trivial | exact ⟨rfl, rfl⟩ | exact rfl | exact ⟨sub_fn, refs_fn⟩ | refine ⟨⟨rfl, rfl⟩, ?_⟩ | refine ⟨⟨sub_fn, refs_fn⟩, ?_⟩ | refine ⟨⟨rfl, fun h => Bool.noConfusion h⟩, ?_⟩ | refine ⟨⟨rfl, fun h => ?_⟩, ?_⟩ | refine ⟨rfl, ?_⟩ | refine ⟨?_, ?_⟩ | fail))) ⟨by omega, fun j hj => by omega⟩ (fun i hi => ?_)
  obtain ⟨hi1, hi2⟩ := hi
  rcases Nat.lt_or_ge i xs.length with hlt | hge
  · obtain ⟨a, hga⟩ := get_ex hlt
    have hx := ints_at hga
    repeat' (first
      | (refine g_exec ?_; first | (refine g_move ?_; refine x_moveO _ rfl ?_) | (refine g_assign ?_; refine x_assignO _ rfl ?_) | (refine g_bin ?_; first | (refine x_add rfl rfl aO ?_) | (refine x_bin _ rfl rfl rfl ?_) | (refine x_boolEq aA rfl rfl ?_) | (refine x_strBin _ rfl rfl rfl ?_)) | (refine g_load ?_; first | (refine x_load_pc aA rfl ?_) | (refine x_load_oc _ aA rfl rfl aE rfl ?_) | (refine x_load_pa _ aA rfl aZ aL ?_) | (refine x_load_oa _ aA rfl rfl aE aZ aL ?_)) | (refine g_index ?_; first | (refine x_index_l _ aA rfl rfl aO aA ?_) | (refine x_index_o _ aA rfl rfl rfl rfl aO aO (by first | (rw [Nat.zero_add, Int.toNat_natCast]) | (rw [Nat.zero_add]) | rfl) ?_)) | (refine g_call ?_; first | (refine x_len_l aA rfl ?_) | (refine x_len_o aA rfl rfl ?_) | (refine x_len_n aA rfl ?_) | (refine x_len_s aA (evO_ok rfl) ?_)) | (refine x_nil (hK _ _ (.inl rfl) ?_); clear hK K) | (refine x_nil (hK _ _ (.inr (by kernel_rfl)) ?_); clear hK K))
      | (refine g_code ?_; first | (refine v_seq ?_) | (refine v_region (fun K hK => ?_)) | (refine v_block ?_) | (refine v_skip ?_) | (refine v_ret ?_) | (refine v_exit ?_) | (refine g_cond ?_; first | (refine v_cond_y rfl aD ?_) | (refine v_cond_n rfl aD ?_) | (refine v_condt rfl (fun h => ?_) (fun h => ?_) <;> (have h' := h; (try simp only [sx] at h')))))
      | (refine q_then ?_) | (refine q_then_r ?_) | (refine q_then_e ?_) | (refine q_blk_n ?_) | (refine q_blk_r ?_) | (refine q_blk_e ?_) | (refine q_blk_o rfl ?_) | (refine q_loop_r ?_) | (refine q_loop_e ?_) | (refine ret_n ?_))
    · exact ret_int rfl (lookE_ok rfl) (idx_some (p := fun a => decide (n = a)) hi2 hga (by simpa using h')).symm
    · refine q_next (i + 1) rfl (by refine ⟨?_, ?_, rfl, rfl⟩ <;> (repeat' (first | exact trivial | exact ⟨rfl, rfl⟩ | exact rfl | exact ⟨sub_fn, refs_fn⟩ | refine ⟨⟨rfl, rfl⟩, ?_⟩ | refine ⟨⟨sub_fn, refs_fn⟩, ?_⟩ | refine ⟨⟨rfl, fun h => Bool.noConfusion h⟩, ?_⟩ | refine ⟨⟨rfl, fun h => ?_⟩, ?_⟩ | refine ⟨rfl, ?_⟩ | refine ⟨?_, ?_⟩ | fail))) ⟨by omega, idx_step (p := fun a => decide (n = a)) hi2 hga (by simpa using h')⟩ aO
  · repeat' (first
      | (refine g_exec ?_; first | (refine g_move ?_; refine x_moveO _ rfl ?_) | (refine g_assign ?_; refine x_assignO _ rfl ?_) | (refine g_bin ?_; first | (refine x_add rfl rfl aO ?_) | (refine x_bin _ rfl rfl rfl ?_) | (refine x_boolEq aA rfl rfl ?_) | (refine x_strBin _ rfl rfl rfl ?_)) | (refine g_load ?_; first | (refine x_load_pc aA rfl ?_) | (refine x_load_oc _ aA rfl rfl aE rfl ?_) | (refine x_load_pa _ aA rfl aZ aL ?_) | (refine x_load_oa _ aA rfl rfl aE aZ aL ?_)) | (refine g_index ?_; first | (refine x_index_l _ aA rfl rfl aO aA ?_) | (refine x_index_o _ aA rfl rfl rfl rfl aO aO (by first | (rw [Nat.zero_add, Int.toNat_natCast]) | (rw [Nat.zero_add]) | rfl) ?_)) | (refine g_call ?_; first | (refine x_len_l aA rfl ?_) | (refine x_len_o aA rfl rfl ?_) | (refine x_len_n aA rfl ?_) | (refine x_len_s aA (evO_ok rfl) ?_)) | (refine x_nil (hK _ _ (.inl rfl) ?_); clear hK K) | (refine x_nil (hK _ _ (.inr (by kernel_rfl)) ?_); clear hK K))
      | (refine g_code ?_; first | (refine v_seq ?_) | (refine v_region (fun K hK => ?_)) | (refine v_block ?_) | (refine v_skip ?_) | (refine v_ret ?_) | (refine v_exit ?_) | (refine g_cond ?_; first | (refine v_cond_y rfl aD ?_) | (refine v_cond_n rfl aD ?_) | (refine v_condt rfl (fun h => ?_) (fun h => ?_) <;> (have h' := h; (try simp only [sx] at h')))))
      | (refine q_then ?_) | (refine q_then_r ?_) | (refine q_then_e ?_) | (refine q_blk_n ?_) | (refine q_blk_r ?_) | (refine q_blk_e ?_) | (refine q_blk_o rfl ?_) | (refine q_loop_r ?_) | (refine q_loop_e ?_) | (refine ret_n ?_))
    exact ret_int rfl (lookE_ok rfl) (idx_none (p := fun a => decide (n = a)) fun j hj => hi2 j aO).symm
theorem k_ContainsInt (xs : List Int) (n : Int) (hn : xs.length ≤ 1099511627776) : Con Try.prog 125 [.list 1 (ints xs), .int .i64 n] (.bool (decide (n ∈ xs))) := by
  intro al
  refine contract_of hmix Try.func125 rfl (by kernel_rfl) (by kernel_rfl) (Nat.le_of_ble_eq_true rfl) (fun row h => by cases h) ?_
  have hty_u33 := ty_u33
  have hty_s33 := ty_s33
  repeat' (first
      | (refine g_exec ?_; first | (refine g_move ?_; refine x_moveO _ rfl ?_) | (refine g_assign ?_; refine x_assignO _ rfl ?_) | (refine g_bin ?_; refine x_bin _ rfl rfl rfl ?_) | (refine g_call ?_; refine x_callG true (k_IndexInt xs n hn) rfl rfl rfl aS rfl aH ?_; simp only [cl]) | (refine x_nil (hK _ _ (.inl rfl) ?_); clear hK K) | (refine x_nil (hK _ _ (.inr (by kernel_rfl)) ?_); clear hK K))
      | (refine g_code ?_; first | (refine v_seq ?_) | (refine v_region (fun K hK => ?_)) | (refine v_block ?_) | (refine v_skip ?_) | (refine v_ret ?_) | (refine v_exit ?_))
      | (refine q_then ?_) | (refine q_then_r ?_) | (refine q_then_e ?_) | (refine q_blk_n ?_) | (refine q_blk_r ?_) | (refine q_blk_e ?_) | (refine q_blk_o rfl ?_) | (refine q_loop_r ?_) | (refine q_loop_e ?_) | (refine ret_n ?_))
  refine ret_bool rfl (lookE_ok rfl) ?_
  rw [show (decide (idx (fun a => decide (n = a)) xs ≥ 0)) = xs.any (fun a => decide (n = a)) from idx_any]
  rw [Bool.eq_iff_iff]
  simp
theorem k_hasInt (xs : List Int) (n : Int) (hn : xs.length ≤ 1099511627776) : Con Try.prog 102 [.list 1 (ints xs), .int .i64 n] (.bool (decide (n ∈ xs))) := by
  intro al
  refine contract_of hmix Try.func102 rfl (by kernel_rfl) (by kernel_rfl) (Nat.le_of_ble_eq_true rfl) (fun row h => by cases h) ?_
  have hty_u33 := ty_u33
  have hty_s33 := ty_s33
  repeat' (first
      | (refine g_exec ?_; first | (refine g_move ?_; refine x_moveO _ rfl ?_) | (refine g_assign ?_; refine x_assignO _ rfl ?_) | (refine g_call ?_; refine x_callG true (k_ContainsInt xs n hn) rfl rfl rfl aS rfl aH ?_; simp only [cl]) | (refine x_nil (hK _ _ (.inl rfl) ?_); clear hK K) | (refine x_nil (hK _ _ (.inr (by kernel_rfl)) ?_); clear hK K))
      | (refine g_code ?_; first | (refine v_seq ?_) | (refine v_region (fun K hK => ?_)) | (refine v_block ?_) | (refine v_skip ?_) | (refine v_ret ?_) | (refine v_exit ?_))
      | (refine q_then ?_) | (refine q_then_r ?_) | (refine q_then_e ?_) | (refine q_blk_n ?_) | (refine q_blk_r ?_) | (refine q_blk_e ?_) | (refine q_blk_o rfl ?_) | (refine q_loop_r ?_) | (refine q_loop_e ?_) | (refine ret_n ?_))
  exact ret_bool rfl (lookE_ok rfl) rfl
def Up (l : List Int) (i : Nat) : Prop := ∀ j, j < i - 1 → l.getD j 0 < l.getD (j + 1) 0
def Rising (l : List Int) : Prop := Up l l.length
instance (l : List Int) (i : Nat) : Decidable (Up l i) := by unfold Up; infer_instance
instance (l : List Int) : Decidable (Rising l) := by unfold Rising; infer_instance
theorem getI {l : List Int} {i : Nat} {a : Int} (h : l[i]? = some a) : l.getD i 0 = a := by simp [List.getD_eq_getElem?_getD, h]
theorem up_step {l : List Int} {i : Nat} {a b : Int} (h : Up l i) (ha : l[i - 1]? = some a) (hb : l[i]? = some b) (hab : a < b) : Up l (i + 1) := fun j hj => by
  by_cases he : j + 1 = i
  · rw [he, getI hb, show j = i - 1 by omega, getI ha]; exact hab
  · exact h j aO
theorem not_rising {l : List Int} {i : Nat} {a b : Int} (h0 : 0 < i) (ha : l[i - 1]? = some a) (hb : l[i]? = some b) (hab : b ≤ a) : ¬ Rising l := fun h => by
  have := h (i - 1) (by have := get_lt hb; omega)
  rw [getI ha, show i - 1 + 1 = i by omega, getI hb] at this
  omega
theorem Rising.pair {l : List Int} (h : Rising l) : l.Pairwise (· < ·) := pair_of_adj (r := fun a b : Int => a < b) (fun a b c h1 h2 => Int.lt_trans h1 h2) l fun j a b ha hb => by
  have := h j (by have := get_lt hb; omega)
  rw [getI ha, getI hb] at this
  exact this
theorem rising_of_pair {l : List Int} (h : l.Pairwise (· < ·)) : Rising l := fun j hj => by
  rw [List.pairwise_iff_getElem] at h
  have := h j (j + 1) aO aO aO
  rw [getI (List.getElem?_eq_getElem aO), getI (List.getElem?_eq_getElem (show j + 1 < l.length by omega))]
  exact this
theorem k_isRising (xs : List Int) (hn : xs.length ≤ 1099511627776) : Con Try.prog 107 [.list 1 (ints xs)] (.bool (decide (Rising xs))) := by
  intro al
  refine contract_of hmix Try.func107 rfl (by kernel_rfl) (by kernel_rfl) (Nat.le_of_ble_eq_true rfl) (fun row h => by cases h) ?_
  have hty_u33 := ty_u33
  have hty_s33 := ty_s33
  have hty_c3 := ty_c3
  have hl1 : (ints xs).length = xs.length := by simp
  repeat' (first
      | (refine g_exec ?_; first | (refine g_move ?_; refine x_moveO _ rfl ?_) | (refine g_assign ?_; refine x_assignO _ rfl ?_) | (refine g_bin ?_; first | (refine x_add rfl rfl aO ?_) | (refine x_sub rfl rfl aO ?_) | (refine x_bin _ rfl rfl rfl ?_) | (refine x_strBin _ rfl rfl rfl ?_)) | (refine g_load ?_; first | (refine x_load_pc aA rfl ?_) | (refine x_load_oc _ aA rfl rfl aE rfl ?_) | (refine x_load_pa _ aA rfl aZ aL ?_) | (refine x_load_oa _ aA rfl rfl aE aZ aL ?_)) | (refine g_index ?_; first | (refine x_index_l _ aA rfl rfl aO aA ?_) | (refine x_index_o _ aA rfl rfl rfl rfl aO aO (by first | (rw [Nat.zero_add, Int.toNat_natCast]) | (rw [Nat.zero_add]) | rfl) ?_)) | (refine g_call ?_; first | (refine x_len_l aA rfl ?_) | (refine x_len_o aA rfl rfl ?_) | (refine x_len_n aA rfl ?_) | (refine x_len_s aA (evO_ok rfl) ?_)) | (refine x_nil (hK _ _ (.inl rfl) ?_); clear hK K) | (refine x_nil (hK _ _ (.inr (by kernel_rfl)) ?_); clear hK K))
      | (refine g_code ?_; first | (refine v_seq ?_) | (refine v_region (fun K hK => ?_)) | (refine v_block ?_) | (refine v_skip ?_) | (refine v_ret ?_) | (refine v_exit ?_) | (refine g_cond ?_; first | (refine v_cond_y rfl aD ?_) | (refine v_cond_n rfl aD ?_) | (refine v_condt rfl (fun h => ?_) (fun h => ?_) <;> (have h' := h; (try simp only [sx] at h')))))
      | (refine q_then ?_) | (refine q_then_r ?_) | (refine q_then_e ?_) | (refine q_blk_n ?_) | (refine q_blk_r ?_) | (refine q_blk_e ?_) | (refine q_blk_o rfl ?_) | (refine q_loop_r ?_) | (refine q_loop_e ?_) | (refine ret_n ?_))
  refine v_loopK [0] [] (fun i : Nat => [(3, .int .i64 i)]) (fun i : Nat => []) (fun i : Nat => (1 ≤ i ∧ i ≤ xs.length + 1) ∧ Up xs i) (fun i : Nat => xs.length + 1 - i) (1) rfl rfl (fun _ => rfl) (fun _ => rfl) rfl (by refine ⟨?_, ?_, rfl, rfl⟩ <;> (repeat' (first | exact trivial | exact ⟨rfl, rfl⟩ | exact rfl | exact ⟨sub_fn, refs_fn⟩ | refine ⟨⟨rfl, rfl⟩, ?_⟩ | refine ⟨⟨sub_fn, refs_fn⟩, ?_⟩ | refine ⟨⟨rfl, fun h => Bool.noConfusion h⟩, ?_⟩ | refine ⟨⟨rfl, fun h => ?_⟩, ?_⟩ | refine ⟨rfl, ?_⟩ | refine ⟨?_, ?_⟩ | fail))) ⟨by omega, fun j hj => by omega⟩ (fun i hi => ?_)
  obtain ⟨hi1, hi2⟩ := hi
  rcases Nat.lt_or_ge i xs.length with hlt | hge
  · obtain ⟨a, hga⟩ := get_ex hlt
    obtain ⟨b, hgb⟩ := get_ex (show i - 1 < xs.length by omega)
    have hx := ints_at hga
    have hy := ints_at hgb
    have e1 : ((i : Int) - 1).toNat = i - 1 := by omega
    rw [← e1] at hy
    repeat' (first
      | (refine g_exec ?_; first | (refine g_move ?_; refine x_moveO _ rfl ?_) | (refine g_assign ?_; refine x_assignO _ rfl ?_) | (refine g_bin ?_; first | (refine x_add rfl rfl aO ?_) | (refine x_sub rfl rfl aO ?_) | (refine x_bin _ rfl rfl rfl ?_) | (refine x_strBin _ rfl rfl rfl ?_)) | (refine g_load ?_; first | (refine x_load_pc aA rfl ?_) | (refine x_load_oc _ aA rfl rfl aE rfl ?_) | (refine x_load_pa _ aA rfl aZ aL ?_) | (refine x_load_oa _ aA rfl rfl aE aZ aL ?_)) | (refine g_index ?_; first | (refine x_index_l _ aA rfl rfl aO aA ?_) | (refine x_index_o _ aA rfl rfl rfl rfl aO aO (by first | (rw [Nat.zero_add, Int.toNat_natCast]) | (rw [Nat.zero_add]) | rfl) ?_)) | (refine g_call ?_; first | (refine x_len_l aA rfl ?_) | (refine x_len_o aA rfl rfl ?_) | (refine x_len_n aA rfl ?_) | (refine x_len_s aA (evO_ok rfl) ?_)) | (refine x_nil (hK _ _ (.inl rfl) ?_); clear hK K) | (refine x_nil (hK _ _ (.inr (by kernel_rfl)) ?_); clear hK K))
      | (refine g_code ?_; first | (refine v_seq ?_) | (refine v_region (fun K hK => ?_)) | (refine v_block ?_) | (refine v_skip ?_) | (refine v_ret ?_) | (refine v_exit ?_) | (refine g_cond ?_; first | (refine v_cond_y rfl aD ?_) | (refine v_cond_n rfl aD ?_) | (refine v_condt rfl (fun h => ?_) (fun h => ?_) <;> (have h' := h; (try simp only [sx] at h')))))
      | (refine q_then ?_) | (refine q_then_r ?_) | (refine q_then_e ?_) | (refine q_blk_n ?_) | (refine q_blk_r ?_) | (refine q_blk_e ?_) | (refine q_blk_o rfl ?_) | (refine q_loop_r ?_) | (refine q_loop_e ?_) | (refine ret_n ?_))
    · exact ret_bool rfl (lookE_ok rfl) (by simp [not_rising aO hgb hga h'])
    · refine q_next (i + 1) rfl (by refine ⟨?_, ?_, rfl, rfl⟩ <;> (repeat' (first | exact trivial | exact ⟨rfl, rfl⟩ | exact rfl | exact ⟨sub_fn, refs_fn⟩ | refine ⟨⟨rfl, rfl⟩, ?_⟩ | refine ⟨⟨sub_fn, refs_fn⟩, ?_⟩ | refine ⟨⟨rfl, fun h => Bool.noConfusion h⟩, ?_⟩ | refine ⟨⟨rfl, fun h => ?_⟩, ?_⟩ | refine ⟨rfl, ?_⟩ | refine ⟨?_, ?_⟩ | fail))) ⟨by omega, up_step hi2 hgb hga aO⟩ aO
  · repeat' (first
      | (refine g_exec ?_; first | (refine g_move ?_; refine x_moveO _ rfl ?_) | (refine g_assign ?_; refine x_assignO _ rfl ?_) | (refine g_bin ?_; first | (refine x_add rfl rfl aO ?_) | (refine x_sub rfl rfl aO ?_) | (refine x_bin _ rfl rfl rfl ?_) | (refine x_strBin _ rfl rfl rfl ?_)) | (refine g_load ?_; first | (refine x_load_pc aA rfl ?_) | (refine x_load_oc _ aA rfl rfl aE rfl ?_) | (refine x_load_pa _ aA rfl aZ aL ?_) | (refine x_load_oa _ aA rfl rfl aE aZ aL ?_)) | (refine g_index ?_; first | (refine x_index_l _ aA rfl rfl aO aA ?_) | (refine x_index_o _ aA rfl rfl rfl rfl aO aO (by first | (rw [Nat.zero_add, Int.toNat_natCast]) | (rw [Nat.zero_add]) | rfl) ?_)) | (refine g_call ?_; first | (refine x_len_l aA rfl ?_) | (refine x_len_o aA rfl rfl ?_) | (refine x_len_n aA rfl ?_) | (refine x_len_s aA (evO_ok rfl) ?_)) | (refine x_nil (hK _ _ (.inl rfl) ?_); clear hK K) | (refine x_nil (hK _ _ (.inr (by kernel_rfl)) ?_); clear hK K))
      | (refine g_code ?_; first | (refine v_seq ?_) | (refine v_region (fun K hK => ?_)) | (refine v_block ?_) | (refine v_skip ?_) | (refine v_ret ?_) | (refine v_exit ?_) | (refine g_cond ?_; first | (refine v_cond_y rfl aD ?_) | (refine v_cond_n rfl aD ?_) | (refine v_condt rfl (fun h => ?_) (fun h => ?_) <;> (have h' := h; (try simp only [sx] at h')))))
      | (refine q_then ?_) | (refine q_then_r ?_) | (refine q_then_e ?_) | (refine q_blk_n ?_) | (refine q_blk_r ?_) | (refine q_blk_e ?_) | (refine q_blk_o rfl ?_) | (refine q_loop_r ?_) | (refine q_loop_e ?_) | (refine ret_n ?_))
    exact ret_bool rfl (lookE_ok rfl) (by
      have : Rising xs := fun j hj => hi2 j aO
      simp [this])
theorem k_l1Rising (xs : List Int) (lo hi : Int) (hn : xs.length ≤ 1099511627776) : Con Try.prog 118 [.list 1 (ints xs), .int .i64 lo, .int .i64 hi] (.bool (decide ((∀ y ∈ xs, lo ≤ y ∧ y ≤ hi) ∧ Rising xs))) := by
  intro al
  refine contract_of hmix Try.func118 rfl (by kernel_rfl) (by kernel_rfl) (Nat.le_of_ble_eq_true rfl) (fun row h => by cases h) ?_
  have hty_u33 := ty_u33
  have hty_s33 := ty_s33
  have hty_c3 := ty_c3
  have hl1 : (ints xs).length = xs.length := by simp
  repeat' (first
      | (refine g_exec ?_; first | (refine g_move ?_; refine x_moveO _ rfl ?_) | (refine g_assign ?_; refine x_assignO _ rfl ?_) | (refine g_bin ?_; first | (refine x_add rfl rfl aO ?_) | (refine x_sub rfl rfl aO ?_) | (refine x_bin _ rfl rfl rfl ?_) | (refine x_strBin _ rfl rfl rfl ?_)) | (refine g_un ?_; first | (refine x_not rfl ?_) | (refine x_neg rfl aO ?_)) | (refine g_load ?_; first | (refine x_load_pc aA rfl ?_) | (refine x_load_oc _ aA rfl rfl aE rfl ?_) | (refine x_load_pa _ aA rfl aZ aL ?_) | (refine x_load_oa _ aA rfl rfl aE aZ aL ?_)) | (refine g_index ?_; first | (refine x_index_l _ aA rfl rfl aO aA ?_) | (refine x_index_o _ aA rfl rfl rfl rfl aO aO (by first | (rw [Nat.zero_add, Int.toNat_natCast]) | (rw [Nat.zero_add]) | rfl) ?_)) | (refine g_pick ?_; first | (refine x_pick_b rfl aD rfl ?_) | (refine x_pick_c rfl aD ?_) | (refine x_pick_a rfl aD ?_) | (refine x_pick_d rfl aD rfl ?_)) | (refine g_guard ?_; first | (refine x_gyes rfl rfl aD ?_) | (refine x_gno rfl rfl aD ?_) | (refine x_gun rfl rfl ?_) | (refine x_gsplit rfl rfl (fun h => ?_) (fun h => ?_) <;> (have h' := h; (try simp only [sx] at h')))) | (refine g_call ?_; first | (refine x_len_l aA rfl ?_) | (refine x_len_o aA rfl rfl ?_) | (refine x_len_n aA rfl ?_) | (refine x_len_s aA (evO_ok rfl) ?_)) | (refine x_nil (hK _ _ (.inl rfl) ?_); clear hK K) | (refine x_nil (hK _ _ (.inr (by kernel_rfl)) ?_); clear hK K))
      | (refine g_code ?_; first | (refine v_seq ?_) | (refine v_region (fun K hK => ?_)) | (refine v_block ?_) | (refine v_skip ?_) | (refine v_ret ?_) | (refine v_exit ?_) | (refine g_cond ?_; first | (refine v_cond_y rfl aD ?_) | (refine v_cond_n rfl aD ?_) | (refine v_condt rfl (fun h => ?_) (fun h => ?_) <;> (have h' := h; (try simp only [sx] at h')))))
      | (refine q_then ?_) | (refine q_then_r ?_) | (refine q_then_e ?_) | (refine q_blk_n ?_) | (refine q_blk_r ?_) | (refine q_blk_e ?_) | (refine q_blk_o rfl ?_) | (refine q_loop_r ?_) | (refine q_loop_e ?_) | (refine ret_n ?_))
  refine v_loopK [0, 1, 2] [] (fun i : Nat => [(7, .int .i64 i)]) (fun i : Nat => []) (fun i : Nat => i ≤ xs.length ∧ (∀ y ∈ xs.take i, lo ≤ y ∧ y ≤ hi) ∧ Up xs i) (fun i : Nat => xs.length - i) (0) rfl rfl (fun _ => rfl) (fun _ => rfl) rfl (by refine ⟨?_, ?_, rfl, rfl⟩ <;> (repeat' (first | exact trivial | exact ⟨rfl, rfl⟩ | exact rfl | exact ⟨sub_fn, refs_fn⟩ | refine ⟨⟨rfl, rfl⟩, ?_⟩ | refine ⟨⟨sub_fn, refs_fn⟩, ?_⟩ | refine ⟨⟨rfl, fun h => Bool.noConfusion h⟩, ?_⟩ | refine ⟨⟨rfl, fun h => ?_⟩, ?_⟩ | refine ⟨rfl, ?_⟩ | refine ⟨?_, ?_⟩ | fail))) ⟨by omega, fun y hy => by simp at hy, fun j hj => by omega⟩ (fun i hi => ?_)
  obtain ⟨hi1, hi2, hi3⟩ := hi
  rcases Nat.lt_or_ge i xs.length with hlt | hge
  · obtain ⟨a, hga⟩ := get_ex hlt
    have hx := ints_at hga
    by_cases hi0 : 0 < i
    · obtain ⟨b, hgb⟩ := get_ex (show i - 1 < xs.length by omega)
      have hy := ints_at hgb
      have e1 : ((i : Int) - 1).toNat = i - 1 := by omega
      rw [← e1] at hy
      repeat' (first
      | (refine g_exec ?_; first | (refine g_move ?_; refine x_moveO _ rfl ?_) | (refine g_assign ?_; refine x_assignO _ rfl ?_) | (refine g_bin ?_; first | (refine x_add rfl rfl aO ?_) | (refine x_sub rfl rfl aO ?_) | (refine x_bin _ rfl rfl rfl ?_) | (refine x_strBin _ rfl rfl rfl ?_)) | (refine g_un ?_; first | (refine x_not rfl ?_) | (refine x_neg rfl aO ?_)) | (refine g_load ?_; first | (refine x_load_pc aA rfl ?_) | (refine x_load_oc _ aA rfl rfl aE rfl ?_) | (refine x_load_pa _ aA rfl aZ aL ?_) | (refine x_load_oa _ aA rfl rfl aE aZ aL ?_)) | (refine g_index ?_; first | (refine x_index_l _ aA rfl rfl aO aA ?_) | (refine x_index_o _ aA rfl rfl rfl rfl aO aO (by first | (rw [Nat.zero_add, Int.toNat_natCast]) | (rw [Nat.zero_add]) | rfl) ?_)) | (refine g_pick ?_; first | (refine x_pick_b rfl aD rfl ?_) | (refine x_pick_c rfl aD ?_) | (refine x_pick_a rfl aD ?_) | (refine x_pick_d rfl aD rfl ?_)) | (refine g_guard ?_; first | (refine x_gyes rfl rfl aD ?_) | (refine x_gno rfl rfl aD ?_) | (refine x_gun rfl rfl ?_) | (refine x_gsplit rfl rfl (fun h => ?_) (fun h => ?_) <;> (have h' := h; (try simp only [sx] at h')))) | (refine g_call ?_; first | (refine x_callG true (k_l1In _ _ _) rfl rfl rfl aS rfl aH ?_; simp only [cl]) | (refine x_len_l aA rfl ?_) | (refine x_len_o aA rfl rfl ?_) | (refine x_len_n aA rfl ?_) | (refine x_len_s aA (evO_ok rfl) ?_)) | (refine x_nil (hK _ _ (.inl rfl) ?_); clear hK K) | (refine x_nil (hK _ _ (.inr (by kernel_rfl)) ?_); clear hK K))
      | (refine g_code ?_; first | (refine v_seq ?_) | (refine v_region (fun K hK => ?_)) | (refine v_block ?_) | (refine v_skip ?_) | (refine v_ret ?_) | (refine v_exit ?_) | (refine g_cond ?_; first | (refine v_cond_y rfl aD ?_) | (refine v_cond_n rfl aD ?_) | (refine v_condt rfl (fun h => ?_) (fun h => ?_) <;> (have h' := h; (try simp only [sx] at h')))))
      | (refine q_then ?_) | (refine q_then_r ?_) | (refine q_then_e ?_) | (refine q_blk_n ?_) | (refine q_blk_r ?_) | (refine q_blk_e ?_) | (refine q_blk_o rfl ?_) | (refine q_loop_r ?_) | (refine q_loop_e ?_) | (refine ret_n ?_))
      all_goals first
        | (refine q_next (i + 1) rfl (by refine ⟨?_, ?_, rfl, rfl⟩ <;> (repeat' (first | exact trivial | exact ⟨rfl, rfl⟩ | exact rfl | exact ⟨sub_fn, refs_fn⟩ | refine ⟨⟨rfl, rfl⟩, ?_⟩ | refine ⟨⟨sub_fn, refs_fn⟩, ?_⟩ | refine ⟨⟨rfl, fun h => Bool.noConfusion h⟩, ?_⟩ | refine ⟨⟨rfl, fun h => ?_⟩, ?_⟩ | refine ⟨rfl, ?_⟩ | refine ⟨?_, ?_⟩ | fail))) ⟨by omega, all_take_succ hga hi2 aO, up_step hi3 hgb hga aO⟩ aO)
        | (refine ret_bool rfl (lookE_ok rfl) ?_
           have : ¬ ((∀ y ∈ xs, lo ≤ y ∧ y ≤ hi) ∧ Rising xs) := fun hk => by
             have k1 := hk.1 a (get_mem hga)
             first | omega | exact not_rising hi0 hgb hga aO hk.2
           simp only [this, decide_false])
    · have h1 : i = 0 := by omega
      repeat' (first
      | (refine g_exec ?_; first | (refine g_move ?_; refine x_moveO _ rfl ?_) | (refine g_assign ?_; refine x_assignO _ rfl ?_) | (refine g_bin ?_; first | (refine x_add rfl rfl aO ?_) | (refine x_sub rfl rfl aO ?_) | (refine x_bin _ rfl rfl rfl ?_) | (refine x_strBin _ rfl rfl rfl ?_)) | (refine g_un ?_; first | (refine x_not rfl ?_) | (refine x_neg rfl aO ?_)) | (refine g_load ?_; first | (refine x_load_pc aA rfl ?_) | (refine x_load_oc _ aA rfl rfl aE rfl ?_) | (refine x_load_pa _ aA rfl aZ aL ?_) | (refine x_load_oa _ aA rfl rfl aE aZ aL ?_)) | (refine g_index ?_; first | (refine x_index_l _ aA rfl rfl aO aA ?_) | (refine x_index_o _ aA rfl rfl rfl rfl aO aO (by first | (rw [Nat.zero_add, Int.toNat_natCast]) | (rw [Nat.zero_add]) | rfl) ?_)) | (refine g_pick ?_; first | (refine x_pick_b rfl aD rfl ?_) | (refine x_pick_c rfl aD ?_) | (refine x_pick_a rfl aD ?_) | (refine x_pick_d rfl aD rfl ?_)) | (refine g_guard ?_; first | (refine x_gyes rfl rfl aD ?_) | (refine x_gno rfl rfl aD ?_) | (refine x_gun rfl rfl ?_) | (refine x_gsplit rfl rfl (fun h => ?_) (fun h => ?_) <;> (have h' := h; (try simp only [sx] at h')))) | (refine g_call ?_; first | (refine x_callG true (k_l1In _ _ _) rfl rfl rfl aS rfl aH ?_; simp only [cl]) | (refine x_len_l aA rfl ?_) | (refine x_len_o aA rfl rfl ?_) | (refine x_len_n aA rfl ?_) | (refine x_len_s aA (evO_ok rfl) ?_)) | (refine x_nil (hK _ _ (.inl rfl) ?_); clear hK K) | (refine x_nil (hK _ _ (.inr (by kernel_rfl)) ?_); clear hK K))
      | (refine g_code ?_; first | (refine v_seq ?_) | (refine v_region (fun K hK => ?_)) | (refine v_block ?_) | (refine v_skip ?_) | (refine v_ret ?_) | (refine v_exit ?_) | (refine g_cond ?_; first | (refine v_cond_y rfl aD ?_) | (refine v_cond_n rfl aD ?_) | (refine v_condt rfl (fun h => ?_) (fun h => ?_) <;> (have h' := h; (try simp only [sx] at h')))))
      | (refine q_then ?_) | (refine q_then_r ?_) | (refine q_then_e ?_) | (refine q_blk_n ?_) | (refine q_blk_r ?_) | (refine q_blk_e ?_) | (refine q_blk_o rfl ?_) | (refine q_loop_r ?_) | (refine q_loop_e ?_) | (refine ret_n ?_))
      all_goals first
        | (refine q_next (i + 1) rfl (by refine ⟨?_, ?_, rfl, rfl⟩ <;> (repeat' (first | exact trivial | exact ⟨rfl, rfl⟩ | exact rfl | exact ⟨sub_fn, refs_fn⟩ | refine ⟨⟨rfl, rfl⟩, ?_⟩ | refine ⟨⟨sub_fn, refs_fn⟩, ?_⟩ | refine ⟨⟨rfl, fun h => Bool.noConfusion h⟩, ?_⟩ | refine ⟨⟨rfl, fun h => ?_⟩, ?_⟩ | refine ⟨rfl, ?_⟩ | refine ⟨?_, ?_⟩ | fail))) ⟨by omega, all_take_succ hga hi2 aO, fun j hj => by omega⟩ aO)
        | (refine ret_bool rfl (lookE_ok rfl) ?_
           have : ¬ ((∀ y ∈ xs, lo ≤ y ∧ y ≤ hi) ∧ Rising xs) := fun hk => by
             have k1 := hk.1 a (get_mem hga)
             omega
           simp only [this, decide_false])
  · repeat' (first
      | (refine g_exec ?_; first | (refine g_move ?_; refine x_moveO _ rfl ?_) | (refine g_assign ?_; refine x_assignO _ rfl ?_) | (refine g_bin ?_; first | (refine x_add rfl rfl aO ?_) | (refine x_sub rfl rfl aO ?_) | (refine x_bin _ rfl rfl rfl ?_) | (refine x_strBin _ rfl rfl rfl ?_)) | (refine g_un ?_; first | (refine x_not rfl ?_) | (refine x_neg rfl aO ?_)) | (refine g_load ?_; first | (refine x_load_pc aA rfl ?_) | (refine x_load_oc _ aA rfl rfl aE rfl ?_) | (refine x_load_pa _ aA rfl aZ aL ?_) | (refine x_load_oa _ aA rfl rfl aE aZ aL ?_)) | (refine g_index ?_; first | (refine x_index_l _ aA rfl rfl aO aA ?_) | (refine x_index_o _ aA rfl rfl rfl rfl aO aO (by first | (rw [Nat.zero_add, Int.toNat_natCast]) | (rw [Nat.zero_add]) | rfl) ?_)) | (refine g_pick ?_; first | (refine x_pick_b rfl aD rfl ?_) | (refine x_pick_c rfl aD ?_) | (refine x_pick_a rfl aD ?_) | (refine x_pick_d rfl aD rfl ?_)) | (refine g_guard ?_; first | (refine x_gyes rfl rfl aD ?_) | (refine x_gno rfl rfl aD ?_) | (refine x_gun rfl rfl ?_) | (refine x_gsplit rfl rfl (fun h => ?_) (fun h => ?_) <;> (have h' := h; (try simp only [sx] at h')))) | (refine g_call ?_; first | (refine x_len_l aA rfl ?_) | (refine x_len_o aA rfl rfl ?_) | (refine x_len_n aA rfl ?_) | (refine x_len_s aA (evO_ok rfl) ?_)) | (refine x_nil (hK _ _ (.inl rfl) ?_); clear hK K) | (refine x_nil (hK _ _ (.inr (by kernel_rfl)) ?_); clear hK K))
      | (refine g_code ?_; first | (refine v_seq ?_) | (refine v_region (fun K hK => ?_)) | (refine v_block ?_) | (refine v_skip ?_) | (refine v_ret ?_) | (refine v_exit ?_) | (refine g_cond ?_; first | (refine v_cond_y rfl aD ?_) | (refine v_cond_n rfl aD ?_) | (refine v_condt rfl (fun h => ?_) (fun h => ?_) <;> (have h' := h; (try simp only [sx] at h')))))
      | (refine q_then ?_) | (refine q_then_r ?_) | (refine q_then_e ?_) | (refine q_blk_n ?_) | (refine q_blk_r ?_) | (refine q_blk_e ?_) | (refine q_blk_o rfl ?_) | (refine q_loop_r ?_) | (refine q_loop_e ?_) | (refine ret_n ?_))
    refine ret_bool rfl (lookE_ok rfl) ?_
    rw [take_all hge] at hi2
    have : (∀ y ∈ xs, lo ≤ y ∧ y ≤ hi) ∧ Rising xs := ⟨hi2, fun j hj => hi3 j aO⟩
    simp only [decide_eq_true this]
theorem mul_bnd {p q A B : Int} (h0 : 0 ≤ p) (h1 : p ≤ A) (h2 : 0 ≤ q) (h3 : q ≤ B) : 0 ≤ p * q ∧ p * q ≤ A * B := ⟨Int.mul_nonneg h0 h2, Int.mul_le_mul h1 h3 h2 aO⟩
theorem sum_bnd {α : Type} (f : α → Int) (B C : Int) {l : List α} (h : ∀ y ∈ l, 0 ≤ f y ∧ f y ≤ B) (hC : B * (l.length : Int) ≤ C) (i : Nat) : 0 ≤ sumBy f (l.take i) ∧ sumBy f (l.take i) ≤ C := by
  have h1 := sumBy_take_le f l (fun y hy => (h y hy).1) i
  have h2 := sumBy_bound f B l h
  omega
def amax (f : Nat → Int) : Nat → Nat
  | 0 => 0
  | n + 1 => if f n > f (amax f n) then n else amax f n
theorem amax_lt (f : Nat → Int) : ∀ n, 0 < n → amax f n < n
  | 0, h => by omega
  | 1, _ => by unfold amax; unfold amax; split <;> omega
  | n + 2, _ => by
    have := amax_lt f (n + 1) aO
    rw [amax]
    split <;> omega
theorem amax_one (f : Nat → Int) : amax f 1 = 0 := by unfold amax; unfold amax; split <;> rfl
theorem gcd_step (a b : Int) : Int.gcd b (a.tmod b) = Int.gcd a b := by
  simp only [Int.gcd, Int.natAbs_tmod]
  rw [Nat.gcd_comm b.natAbs, ← Nat.gcd_rec, Nat.gcd_comm]
theorem gcd_emod {a b : Int} (ha : 0 ≤ a) (hb : 0 < b) : Int.gcd b (a % b) = Int.gcd a b := by
  have h := gcd_step a b
  rwa [Int.tmod_eq_emod_of_nonneg ha] at h
theorem k_gcd (a b : Int) (ha : -1000000000000000 ≤ a ∧ a ≤ 1000000000000000) (hb : -1000000000000000 ≤ b ∧ b ≤ 1000000000000000) : Con Try.prog 103 [.int .i64 a, .int .i64 b] (.int .i64 (Int.gcd a b)) := by
  intro al
  refine contract_of hmix Try.func103 rfl (by kernel_rfl) (by kernel_rfl) (Nat.le_of_ble_eq_true rfl) (fun row h => by cases h) ?_
  repeat' (first
      | (refine g_exec ?_; first | (refine g_move ?_; refine x_moveO _ rfl ?_) | (refine g_assign ?_; refine x_assignO _ rfl ?_) | (refine g_bin ?_; first | (refine x_rem rfl rfl aO ?_) | (refine x_remT rfl rfl aO ?_) | (refine x_bin _ rfl rfl rfl ?_) | (refine x_boolNe aA rfl rfl ?_) | (refine x_strBin _ rfl rfl rfl ?_)) | (refine g_un ?_; first | (refine x_not rfl ?_) | (refine x_neg rfl aO ?_)) | (refine g_call ?_; refine x_max rfl rfl ?_) | (refine x_nil (hK _ _ (.inl rfl) ?_); clear hK K) | (refine x_nil (hK _ _ (.inr (by kernel_rfl)) ?_); clear hK K))
      | (refine g_code ?_; first | (refine v_seq ?_) | (refine v_region (fun K hK => ?_)) | (refine v_block ?_) | (refine v_skip ?_) | (refine v_ret ?_) | (refine v_exit ?_) | (refine g_cond ?_; first | (refine v_cond_y rfl aD ?_) | (refine v_cond_n rfl aD ?_) | (refine v_condt rfl (fun h => ?_) (fun h => ?_) <;> (have h' := h; (try simp only [sx] at h')))))
      | (refine q_then ?_) | (refine q_then_r ?_) | (refine q_then_e ?_) | (refine q_blk_n ?_) | (refine q_blk_r ?_) | (refine q_blk_e ?_) | (refine q_blk_o rfl ?_) | (refine q_loop_r ?_) | (refine q_loop_e ?_) | (refine ret_n ?_))
  refine v_loopK [] [] (fun q : Int × Int => [(0, .int .i64 q.1), (1, .int .i64 q.2)]) (fun q : Int × Int => []) (fun q : Int × Int => Int.gcd q.1 q.2 = Int.gcd a b ∧ (-1000000000000000 ≤ q.1 ∧ q.1 ≤ 1000000000000000) ∧ (-1000000000000000 ≤ q.2 ∧ q.2 ≤ 1000000000000000)) (fun q : Int × Int => q.2.natAbs) ((a, b)) rfl rfl (fun _ => rfl) (fun _ => rfl) rfl (by refine ⟨?_, ?_, rfl, rfl⟩ <;> (repeat' (first | exact trivial | exact ⟨rfl, rfl⟩ | exact rfl | exact ⟨sub_fn, refs_fn⟩ | refine ⟨⟨rfl, rfl⟩, ?_⟩ | refine ⟨⟨sub_fn, refs_fn⟩, ?_⟩ | refine ⟨⟨rfl, fun h => Bool.noConfusion h⟩, ?_⟩ | refine ⟨⟨rfl, fun h => ?_⟩, ?_⟩ | refine ⟨rfl, ?_⟩ | refine ⟨?_, ?_⟩ | fail))) ⟨rfl, ha, hb⟩ (fun q hq => ?_)
  obtain ⟨x, y⟩ := q
  obtain ⟨h1, h2, h3⟩ := hq
  simp only at h1 h2 h3
  dsimp only
  by_cases hy : y = 0
  · subst hy
    repeat' (first
      | (refine g_exec ?_; first | (refine g_move ?_; refine x_moveO _ rfl ?_) | (refine g_assign ?_; refine x_assignO _ rfl ?_) | (refine g_bin ?_; first | (refine x_rem rfl rfl aO ?_) | (refine x_remT rfl rfl aO ?_) | (refine x_bin _ rfl rfl rfl ?_) | (refine x_boolNe aA rfl rfl ?_) | (refine x_strBin _ rfl rfl rfl ?_)) | (refine g_un ?_; first | (refine x_not rfl ?_) | (refine x_neg rfl aO ?_)) | (refine g_call ?_; refine x_max rfl rfl ?_) | (refine x_nil (hK _ _ (.inl rfl) ?_); clear hK K) | (refine x_nil (hK _ _ (.inr (by kernel_rfl)) ?_); clear hK K))
      | (refine g_code ?_; first | (refine v_seq ?_) | (refine v_region (fun K hK => ?_)) | (refine v_block ?_) | (refine v_skip ?_) | (refine v_ret ?_) | (refine v_exit ?_) | (refine g_cond ?_; first | (refine v_cond_y rfl aD ?_) | (refine v_cond_n rfl aD ?_) | (refine v_condt rfl (fun h => ?_) (fun h => ?_) <;> (have h' := h; (try simp only [sx] at h')))))
      | (refine q_then ?_) | (refine q_then_r ?_) | (refine q_then_e ?_) | (refine q_blk_n ?_) | (refine q_blk_r ?_) | (refine q_blk_e ?_) | (refine q_blk_o rfl ?_) | (refine q_loop_r ?_) | (refine q_loop_e ?_) | (refine ret_n ?_))
    exact ret_int rfl (lookE_ok rfl) (by rw [← h1]; simp only [Int.gcd, Int.natAbs_zero, Nat.gcd_zero_right]; omega)
  · have hm := Int.natAbs_tmod x y
    have hlt : x.natAbs % y.natAbs < y.natAbs := Nat.mod_lt _ aO
    have hle : x.natAbs % y.natAbs ≤ x.natAbs := Nat.mod_le _ _
    have hne : decide (y = 0) = false := by simp [hy]
    repeat' (first
      | (refine g_exec ?_; first | (refine g_move ?_; refine x_moveO _ rfl ?_) | (refine g_assign ?_; refine x_assignO _ rfl ?_) | (refine g_bin ?_; first | (refine x_rem rfl rfl aO ?_) | (refine x_remT rfl rfl aO ?_) | (refine x_bin _ rfl rfl rfl ?_) | (refine x_boolNe aA rfl rfl ?_) | (refine x_strBin _ rfl rfl rfl ?_)) | (refine g_un ?_; first | (refine x_not rfl ?_) | (refine x_neg rfl aO ?_)) | (refine g_call ?_; refine x_max rfl rfl ?_) | (refine x_nil (hK _ _ (.inl rfl) ?_); clear hK K) | (refine x_nil (hK _ _ (.inr (by kernel_rfl)) ?_); clear hK K))
      | (refine g_code ?_; first | (refine v_seq ?_) | (refine v_region (fun K hK => ?_)) | (refine v_block ?_) | (refine v_skip ?_) | (refine v_ret ?_) | (refine v_exit ?_) | (refine g_cond ?_; first | (refine v_cond_y rfl aD ?_) | (refine v_cond_n rfl aD ?_) | (refine v_condt rfl (fun h => ?_) (fun h => ?_) <;> (have h' := h; (try simp only [sx] at h')))))
      | (refine q_then ?_) | (refine q_then_r ?_) | (refine q_then_e ?_) | (refine q_blk_n ?_) | (refine q_blk_r ?_) | (refine q_blk_e ?_) | (refine q_blk_o rfl ?_) | (refine q_loop_r ?_) | (refine q_loop_e ?_) | (refine ret_n ?_))
    all_goals first
      | (refine q_next (y, x.tmod y) rfl (by refine ⟨?_, ?_, rfl, rfl⟩ <;> (repeat' (first | exact trivial | exact ⟨rfl, rfl⟩ | exact rfl | exact ⟨sub_fn, refs_fn⟩ | refine ⟨⟨rfl, rfl⟩, ?_⟩ | refine ⟨⟨sub_fn, refs_fn⟩, ?_⟩ | refine ⟨⟨rfl, fun h => Bool.noConfusion h⟩, ?_⟩ | refine ⟨⟨rfl, fun h => ?_⟩, ?_⟩ | refine ⟨rfl, ?_⟩ | refine ⟨?_, ?_⟩ | fail))) ⟨by simp only; rw [gcd_step]; exact h1, by simp only; omega, by simp only; omega⟩ (by simp only; omega))
      | skip
theorem k_l20Common (a b : Int) (ha : 0 ≤ a ∧ a ≤ 1000000000000000) (hb : 0 ≤ b ∧ b ≤ 1000000000000000) : Con Try.prog 104 [.int .i64 a, .int .i64 b] (.int .i64 (Int.gcd a b)) := by
  intro al
  refine contract_of hmix Try.func104 rfl (by kernel_rfl) (by kernel_rfl) (Nat.le_of_ble_eq_true rfl) (fun row h => by cases h) ?_
  repeat' (first
      | (refine g_exec ?_; first | (refine g_move ?_; refine x_moveO _ rfl ?_) | (refine g_assign ?_; refine x_assignO _ rfl ?_) | (refine g_bin ?_; first | (refine x_rem rfl rfl aO ?_) | (refine x_remT rfl rfl aO ?_) | (refine x_bin _ rfl rfl rfl ?_)) | (refine x_nil (hK _ _ (.inl rfl) ?_); clear hK K) | (refine x_nil (hK _ _ (.inr (by kernel_rfl)) ?_); clear hK K))
      | (refine g_code ?_; first | (refine v_seq ?_) | (refine v_region (fun K hK => ?_)) | (refine v_block ?_) | (refine v_skip ?_) | (refine v_ret ?_) | (refine v_exit ?_) | (refine g_cond ?_; first | (refine v_cond_y rfl aD ?_) | (refine v_cond_n rfl aD ?_) | (refine v_condt rfl (fun h => ?_) (fun h => ?_) <;> (have h' := h; (try simp only [sx] at h')))))
      | (refine q_then ?_) | (refine q_then_r ?_) | (refine q_then_e ?_) | (refine q_blk_n ?_) | (refine q_blk_r ?_) | (refine q_blk_e ?_) | (refine q_blk_o rfl ?_) | (refine q_loop_r ?_) | (refine q_loop_e ?_) | (refine ret_n ?_))
  refine v_loopK [] [] (fun q : Int × Int => [(0, .int .i64 q.1), (1, .int .i64 q.2)]) (fun q : Int × Int => []) (fun q : Int × Int => Int.gcd q.1 q.2 = Int.gcd a b ∧ (0 ≤ q.1 ∧ q.1 ≤ 1000000000000000) ∧ (0 ≤ q.2 ∧ q.2 ≤ 1000000000000000)) (fun q : Int × Int => q.2.toNat) ((a, b)) rfl rfl (fun _ => rfl) (fun _ => rfl) rfl (by refine ⟨?_, ?_, rfl, rfl⟩ <;> (repeat' (first | exact trivial | exact ⟨rfl, rfl⟩ | exact rfl | exact ⟨sub_fn, refs_fn⟩ | refine ⟨⟨rfl, rfl⟩, ?_⟩ | refine ⟨⟨sub_fn, refs_fn⟩, ?_⟩ | refine ⟨⟨rfl, fun h => Bool.noConfusion h⟩, ?_⟩ | refine ⟨⟨rfl, fun h => ?_⟩, ?_⟩ | refine ⟨rfl, ?_⟩ | refine ⟨?_, ?_⟩ | fail))) ⟨rfl, ha, hb⟩ (fun q hq => ?_)
  obtain ⟨x, y⟩ := q
  obtain ⟨h1, h2, h3⟩ := hq
  simp only at h1 h2 h3
  dsimp only
  by_cases hy : y > 0
  · have e1 := Int.emod_nonneg x (show y ≠ 0 by omega)
    have e2 := Int.emod_lt_of_pos x hy
    repeat' (first
      | (refine g_exec ?_; first | (refine g_move ?_; refine x_moveO _ rfl ?_) | (refine g_assign ?_; refine x_assignO _ rfl ?_) | (refine g_bin ?_; first | (refine x_rem rfl rfl aO ?_) | (refine x_remT rfl rfl aO ?_) | (refine x_bin _ rfl rfl rfl ?_)) | (refine x_nil (hK _ _ (.inl rfl) ?_); clear hK K) | (refine x_nil (hK _ _ (.inr (by kernel_rfl)) ?_); clear hK K))
      | (refine g_code ?_; first | (refine v_seq ?_) | (refine v_region (fun K hK => ?_)) | (refine v_block ?_) | (refine v_skip ?_) | (refine v_ret ?_) | (refine v_exit ?_) | (refine g_cond ?_; first | (refine v_cond_y rfl aD ?_) | (refine v_cond_n rfl aD ?_) | (refine v_condt rfl (fun h => ?_) (fun h => ?_) <;> (have h' := h; (try simp only [sx] at h')))))
      | (refine q_then ?_) | (refine q_then_r ?_) | (refine q_then_e ?_) | (refine q_blk_n ?_) | (refine q_blk_r ?_) | (refine q_blk_e ?_) | (refine q_blk_o rfl ?_) | (refine q_loop_r ?_) | (refine q_loop_e ?_) | (refine ret_n ?_))
    refine q_next (y, x % y) rfl (by refine ⟨?_, ?_, rfl, rfl⟩ <;> (repeat' (first | exact trivial | exact ⟨rfl, rfl⟩ | exact rfl | exact ⟨sub_fn, refs_fn⟩ | refine ⟨⟨rfl, rfl⟩, ?_⟩ | refine ⟨⟨sub_fn, refs_fn⟩, ?_⟩ | refine ⟨⟨rfl, fun h => Bool.noConfusion h⟩, ?_⟩ | refine ⟨⟨rfl, fun h => ?_⟩, ?_⟩ | refine ⟨rfl, ?_⟩ | refine ⟨?_, ?_⟩ | fail))) ⟨by simp only; rw [gcd_emod h2.1 hy]; exact h1, by simp only; omega, by simp only; omega⟩ (by simp only; omega)
  · have hy0 : y = 0 := by omega
    subst hy0
    repeat' (first
      | (refine g_exec ?_; first | (refine g_move ?_; refine x_moveO _ rfl ?_) | (refine g_assign ?_; refine x_assignO _ rfl ?_) | (refine g_bin ?_; first | (refine x_rem rfl rfl aO ?_) | (refine x_remT rfl rfl aO ?_) | (refine x_bin _ rfl rfl rfl ?_)) | (refine x_nil (hK _ _ (.inl rfl) ?_); clear hK K) | (refine x_nil (hK _ _ (.inr (by kernel_rfl)) ?_); clear hK K))
      | (refine g_code ?_; first | (refine v_seq ?_) | (refine v_region (fun K hK => ?_)) | (refine v_block ?_) | (refine v_skip ?_) | (refine v_ret ?_) | (refine v_exit ?_) | (refine g_cond ?_; first | (refine v_cond_y rfl aD ?_) | (refine v_cond_n rfl aD ?_) | (refine v_condt rfl (fun h => ?_) (fun h => ?_) <;> (have h' := h; (try simp only [sx] at h')))))
      | (refine q_then ?_) | (refine q_then_r ?_) | (refine q_then_e ?_) | (refine q_blk_n ?_) | (refine q_blk_r ?_) | (refine q_blk_e ?_) | (refine q_blk_o rfl ?_) | (refine q_loop_r ?_) | (refine q_loop_e ?_) | (refine ret_n ?_))
    exact ret_int rfl (lookE_ok rfl) (by rw [← h1]; simp only [Int.gcd, Int.natAbs_zero, Nat.gcd_zero_right]; omega)
theorem gcd_pos {a b : Int} (hb : 1 ≤ b) : 1 ≤ (Int.gcd a b : Int) := by
  have : Int.gcd a b ≠ 0 := fun h => by
    have := (Int.gcd_eq_zero_iff.1 h).2
    omega
  omega
theorem k_fraction (a b : Int) (ha : 0 ≤ a ∧ a ≤ 1000000000000000) (hb : 1 ≤ b ∧ b ≤ 1000000000000000) : Con Try.prog 59 [.int .i64 a, .int .i64 b] (.tuple [.int .i64 (a / Int.gcd a b), .int .i64 (b / Int.gcd a b)]) := by
  intro al
  refine contract_of hmix Try.func59 rfl (by kernel_rfl) (by kernel_rfl) (Nat.le_of_ble_eq_true rfl) (fun row h => by cases h) ?_
  have hp := gcd_pos (a := a) hb.1
  repeat' (first
      | (refine g_exec ?_; first | (refine g_move ?_; refine x_moveO _ rfl ?_) | (refine g_assign ?_; refine x_assignO _ rfl ?_) | (refine g_bin ?_; first | (refine x_quo rfl rfl aO ?_) | (refine x_quoT rfl rfl aO ?_) | (refine x_bin _ rfl rfl rfl ?_)) | (refine g_call ?_; refine x_callG true (k_gcd a b aO aO) rfl rfl rfl aS rfl aH ?_; simp only [cl]) | (refine x_nil (hK _ _ (.inl rfl) ?_); clear hK K) | (refine x_nil (hK _ _ (.inr (by kernel_rfl)) ?_); clear hK K))
      | (refine g_code ?_; first | (refine v_seq ?_) | (refine v_region (fun K hK => ?_)) | (refine v_block ?_) | (refine v_skip ?_) | (refine v_ret ?_) | (refine v_exit ?_))
      | (refine q_then ?_) | (refine q_then_r ?_) | (refine q_then_e ?_) | (refine q_blk_n ?_) | (refine q_blk_r ?_) | (refine q_blk_e ?_) | (refine q_blk_o rfl ?_) | (refine q_loop_r ?_) | (refine q_loop_e ?_) | (refine ret_n ?_))
  (first | refine ret_T rfl rfl rfl (by first | exact trivial | (repeat' (first | exact trivial | refine ⟨by assumption, ?_⟩))) (by repeat' (first | exact trivial | refine ⟨by simp, ?_⟩)) ?_ | refine ret_A rfl rfl rfl (by first | exact trivial | (repeat' (first | exact trivial | refine ⟨by assumption, ?_⟩))) (by repeat' (first | exact trivial | refine ⟨by simp, ?_⟩)) ?_); (repeat' (first | exact et_end | exact el_end | refine et_int rfl ?_ ?_ | refine et_bool ?_ ?_ | refine et_str ?_ ?_ | refine et_list (by rfl) (by decide) rfl rfl ?_ ?_ ?_ ?_ | refine et_nil ?_ ?_ | refine et_agg ?_ ?_ | refine el_int rfl ?_ ?_ | refine el_bool ?_ ?_ | refine el_str ?_ ?_ | refine el_list (by rfl) (by decide) rfl rfl ?_ ?_ ?_ ?_ | refine el_nil ?_ ?_))
  · rfl
  · rfl
theorem k_l24Reduce (a b : Int) (ha : 0 ≤ a ∧ a ≤ 1000000000000000) (hb : 1 ≤ b ∧ b ≤ 1000000000000000) : Con Try.prog 61 [.int .i64 a, .int .i64 b] (.tuple [.int .i64 (a / Int.gcd a b), .int .i64 (b / Int.gcd a b)]) := by
  intro al
  refine contract_of hmix Try.func61 rfl (by kernel_rfl) (by kernel_rfl) (Nat.le_of_ble_eq_true rfl) (fun row h => by cases h) ?_
  have hp := gcd_pos (a := a) hb.1
  repeat' (first
      | (refine g_exec ?_; first | (refine g_move ?_; refine x_moveO _ rfl ?_) | (refine g_assign ?_; refine x_assignO _ rfl ?_) | (refine g_bin ?_; first | (refine x_quo rfl rfl aO ?_) | (refine x_quoT rfl rfl aO ?_) | (refine x_bin _ rfl rfl rfl ?_)) | (refine g_call ?_; refine x_callG true (k_l20Common a b aO aO) rfl rfl rfl aS rfl aH ?_; simp only [cl]) | (refine x_nil (hK _ _ (.inl rfl) ?_); clear hK K) | (refine x_nil (hK _ _ (.inr (by kernel_rfl)) ?_); clear hK K))
      | (refine g_code ?_; first | (refine v_seq ?_) | (refine v_region (fun K hK => ?_)) | (refine v_block ?_) | (refine v_skip ?_) | (refine v_ret ?_) | (refine v_exit ?_))
      | (refine q_then ?_) | (refine q_then_r ?_) | (refine q_then_e ?_) | (refine q_blk_n ?_) | (refine q_blk_r ?_) | (refine q_blk_e ?_) | (refine q_blk_o rfl ?_) | (refine q_loop_r ?_) | (refine q_loop_e ?_) | (refine ret_n ?_))
  (first | refine ret_T rfl rfl rfl (by first | exact trivial | (repeat' (first | exact trivial | refine ⟨by assumption, ?_⟩))) (by repeat' (first | exact trivial | refine ⟨by simp, ?_⟩)) ?_ | refine ret_A rfl rfl rfl (by first | exact trivial | (repeat' (first | exact trivial | refine ⟨by assumption, ?_⟩))) (by repeat' (first | exact trivial | refine ⟨by simp, ?_⟩)) ?_); (repeat' (first | exact et_end | exact el_end | refine et_int rfl ?_ ?_ | refine et_bool ?_ ?_ | refine et_str ?_ ?_ | refine et_list (by rfl) (by decide) rfl rfl ?_ ?_ ?_ ?_ | refine et_nil ?_ ?_ | refine et_agg ?_ ?_ | refine el_int rfl ?_ ?_ | refine el_bool ?_ ?_ | refine el_str ?_ ?_ | refine el_list (by rfl) (by decide) rfl rfl ?_ ?_ ?_ ?_ | refine el_nil ?_ ?_))
  · rfl
  · rfl
end Go.Vs
set_option linter.unusedVariables false
set_option linter.unusedSimpArgs false
namespace Go.Vs
section
variable {P : Program} {G : Nat → Prop} {ρ : Id → Option (Nat × Nat)} {w0 w : World} {X : List (Option (Nat × Nat))} {M N : Mem} {v : Value}
theorem frzL_repN {t : Nat} {xs : List PV} {k : Nat} (hW : WRel G ρ w0 X M w) (hM : ∀ p ∈ (thawL t k xs).2.2, M p.1 = some p.2) (ht : t ≠ io) (hc : xs.all clean1 = true)
    (hsub : ∀ b, Stab G ρ M w b → Stab G ρ N w b) (hoff : ∀ id r, N id = some (some r) → M id = some (some r) ∧ id.1 ≠ t) {cs : Array Value} (h : Comps ρ w (Stab G ρ M w) M cs (thawL t k xs).2.1) : Comps ρ w (Stab G ρ N w) noMem cs (xs.map frz1) := by
  obtain ⟨hl, hat⟩ := thawL_at t xs k
  refine ⟨by rw [h.1, hl, List.length_map], fun j u hu => ?_⟩
  rw [List.getElem?_map] at hu
  cases hx : xs[j]? with
  | none => rw [hx] at hu; cases hu
  | some x =>
    rw [hx] at hu
    injection hu with hu
    subst hu
    obtain ⟨y, h1, h2⟩ := hat j x hx
    obtain ⟨c, h3, h4⟩ := h.2 j y h1
    refine ⟨c, h3, ?_⟩
    rcases h2 with ⟨ty, sz, es, k', rfl, rfl, hm⟩ | ⟨rfl, he⟩
    · exact osl_given hW (hM _ hm) ht hsub (fun id r h => ⟨(hoff id r h).1, fun e => (hoff id r h).2 (by rw [e])⟩) h4
    · rw [he]
      exact rep_clean1 hsub (List.all_eq_true.1 hc _ (List.mem_of_getElem? hx)) he h4
theorem frz2_repN {t : Nat} {x : PV} {k : Nat} (hW : WRel G ρ w0 X M w) (hM : ∀ p ∈ (thaw1 t k x).2.2, M p.1 = some p.2) (ht : t ≠ io) (hc : clean2 x = true)
    (hsub : ∀ b, Stab G ρ M w b → Stab G ρ N w b) (hoff : ∀ id r, N id = some (some r) → M id = some (some r) ∧ id.1 ≠ t) (h : Rep ρ w (Stab G ρ M w) M v (thaw1 t k x).2.1) : Rep ρ w (Stab G ρ N w) noMem v (frz2 x) := by
  cases x with
  | agg cs =>
    simp only [thaw1] at h hM
    obtain ⟨a, rfl, hcs⟩ := rep_agg.1 h
    exact rep_agg.2 ⟨a, rfl, frzL_repN hW hM ht hc hsub hoff hcs⟩
  | olist ty sz es => exact osl_given hW (hM ((t, k), some ⟨ty, sz, es, false⟩) (by simp [thaw1])) ht hsub (fun id r h => ⟨(hoff id r h).1, fun e => (hoff id r h).2 (by rw [e])⟩) h
  | any => exact rep_any
  | int _ _ => exact rep_clean1 hsub rfl rfl h
  | bool _ => exact rep_clean1 hsub rfl rfl h
  | str _ => exact rep_clean1 hsub rfl rfl h
  | nil => exact rep_clean1 hsub rfl rfl h
  | list _ _ => exact rep_clean1 hsub rfl rfl h
  | ptr _ => exact rep_clean1 hsub rfl rfl h
  | own _ _ _ => cases hc
  | clist _ _ => cases hc
  | osl _ _ _ => cases hc
  | tuple _ => cases hc
  | fn _ _ _ => cases hc
theorem ConL.frz {g : FuncId} {ys : List PV} {ios : List Row} {r : PV} {fin : List (List (List PV))} (h : ContractP P g true ys ios fun r' fin' => r' = r ∧ fin' = fin) (hc : clean r = true) (hbx : ∀ row ∈ ios, row.bx = false) :
    ContractP P g true ys ios fun r' fin' => r' = Go.Vs.frz r ∧ fin' = fin := by
  refine ⟨h.1, fun G w X ρ cargs hW hX hC => ?_⟩
  obtain ⟨cb, h2⟩ := h
  refine (h2 G w X ρ cargs hW hX hC).mono fun e w' => ?_
  rintro ⟨v, r', fin', rfl, ⟨rfl, rfl⟩, hl, hf, hR⟩
  refine ⟨v, Go.Vs.frz r', fin', rfl, ⟨rfl, rfl⟩, hl, hf, fun t ht => ?_⟩
  obtain ⟨ρ', hR⟩ := hR t ht
  refine ⟨ρ', ?_⟩
  have hrel := hR.rel
  have hval := hR.val
  have hN : ∀ id r, ioMem (withEs ios fin') id = some (some r) → ((ioMem (withEs ios fin')).upds (thaw t r').2) id = some (some r) ∧ id.1 ≠ t := by
    intro id r h
    have hio : id.1 = io := by
      simp only [ioMem] at h
      split at h
      · assumption
      · cases h
    have hne : id.1 ≠ t := by rw [hio]; exact fun e => ht e.symm
    exact ⟨by rw [upds_other _ _ id fun p hp e => hne (by rw [← e]; exact thaw_fst t r' p hp)]; exact h, hne⟩
  have hsub : ∀ b, Stab G ρ' ((ioMem (withEs ios fin')).upds (thaw t r').2) w' b → Stab G ρ' (ioMem (withEs ios fin')) w' b := fun b hb => ⟨hb.1, fun id r z h => hb.2.1 id r z (hN id r h).1, hb.2.2⟩
  have hkeys : ∀ p ∈ (thaw t r').2, noMem.upds (thaw t r').2 p.1 = some p.2 := fun p hp => by
    refine looks_upds _ ?_ p hp
    cases r' with
    | tuple vs => exact (thawT_keys t vs 0).2.2
    | _ => exact (thaw1_keys t 0 _).2.2
  have hat : ∀ p ∈ (thaw t r').2, ((ioMem (withEs ios fin')).upds (thaw t r').2) p.1 = some p.2 := fun p hp => by
    rcases upds_or (ioMem (withEs ios fin')) (thaw t r').2 p.1 with ⟨h1, _⟩ | ⟨_, h2⟩
    · rw [h1]; exact hkeys p hp
    · rw [hkeys p hp] at h2; cases h2
  have hmle : MLe ρ' w' (noMem.upds (thaw t r').2) ρ' w' ((ioMem (withEs ios fin')).upds (thaw t r').2) := fun id => by
    cases hMi : noMem.upds (thaw t r').2 id with
    | none => trivial
    | some o =>
      have e := hat (id, o) (upds_find hMi)
      cases o with
      | none => exact e
      | some row => exact .inr ⟨row, e, rfl, rfl, Nat.le_refl _, rfl, fun b z hb cur hcur => ⟨cur, hcur, rfl⟩⟩
  have hv : Rep ρ' w' (Stab G ρ' ((ioMem (withEs ios fin')).upds (thaw t r').2) w') ((ioMem (withEs ios fin')).upds (thaw t r').2) v (thaw t r').1 := hval.mono (fun b hb => ⟨hb.1, rfl⟩) hmle
  have key : Rep ρ' w' (Stab G ρ' (ioMem (withEs ios fin')) w') noMem v (Go.Vs.frz r') := by
    have one : ∀ x : PV, (∀ p ∈ (thaw1 t 0 x).2.2, ((ioMem (withEs ios fin')).upds (thaw t r').2) p.1 = some p.2) → clean2 x = true → Rep ρ' w' (Stab G ρ' ((ioMem (withEs ios fin')).upds (thaw t r').2) w') ((ioMem (withEs ios fin')).upds (thaw t r').2) v (thaw1 t 0 x).2.1 → Rep ρ' w' (Stab G ρ' (ioMem (withEs ios fin')) w') noMem v (frz2 x) :=
      fun x h1 h2 h3 => frz2_repN hrel h1 ht h2 hsub hN h3
    cases r' with
    | tuple vs =>
      simp only [thaw] at hv hrel hsub hN hat
      obtain ⟨a, rfl, hcs⟩ := rep_tuple.1 hv
      obtain ⟨k1, k2⟩ := thawT_at t vs 0
      refine rep_tuple.2 ⟨a, rfl, by rw [hcs.1, k1, List.length_map], fun j u hu => ?_⟩
      rw [List.getElem?_map] at hu
      cases hx : vs[j]? with
      | none => rw [hx] at hu; cases hu
      | some x =>
        rw [hx] at hu
        injection hu with hu
        subst hu
        obtain ⟨k', g1, g2⟩ := k2 j x hx
        obtain ⟨c, m1, m2⟩ := hcs.2 j _ g1
        exact ⟨c, m1, frz2_repN hrel (fun p hp => hat p (g2 p hp)) ht (List.all_eq_true.1 hc _ (List.mem_of_getElem? hx)) hsub hN m2⟩
    | agg cs => exact one (.agg cs) hat hc hv
    | olist ty sz es => exact one (.olist ty sz es) hat hc hv
    | any => exact rep_any
    | int _ _ => exact rep_clean1 hsub rfl rfl hv
    | bool _ => exact rep_clean1 hsub rfl rfl hv
    | str _ => exact rep_clean1 hsub rfl rfl hv
    | nil => exact rep_clean1 hsub rfl rfl hv
    | list _ _ => exact rep_clean1 hsub rfl rfl hv
    | ptr _ => exact rep_clean1 hsub rfl rfl hv
    | own _ _ _ => cases hc
    | clist _ _ => cases hc
    | osl _ _ _ => cases hc
    | fn _ _ _ => cases hc
  have hbx' : ∀ id r, ioMem (withEs ios fin') id = some (some r) → r.bx = false := by
    intro id r h
    simp only [ioMem] at h
    split at h
    · rw [withEs_at ios fin' _ hl] at h
      cases hk : ios[id.2]? with
      | none => rw [hk] at h; simp at h
      | some row0 =>
        cases hk2 : fin'[id.2]? with
        | none => rw [hk, hk2] at h; simp at h
        | some es =>
          rw [hk, hk2] at h
          simp at h
          rw [← h]
          exact hbx row0 (List.mem_of_getElem? hk)
    · cases h
  have hnew : WRel G ρ' w X (ioMem (withEs ios fin')) w' := by
    refine ⟨fun id id' r r' b z z' h1 h2 => hrel.inj id id' r r' b z z' (hN id r h1).1 (hN id' r' h2).1, fun id r h => ?_, fun id r h => hrel.new id r (hN id r h).1, hrel.keep, hrel.good⟩
    have hr := hrel.row id r (hN id r h).1
    have hb := hbx' id r h
    cases hρ : ρ' id with
    | none => rw [hρ] at hr; exact hr
    | some bz =>
      obtain ⟨b, z⟩ := bz
      rw [hρ] at hr
      obtain ⟨cur, C, g1, g2, g3, g4, g5, g6⟩ := hr
      refine ⟨cur, C, g1, g2, g3, g4, g5, fun i e hi => ⟨(g6 i e hi).1, fun j u hu => ?_⟩⟩
      obtain ⟨c, k1, k2, k3⟩ := (g6 i e hi).2 j u hu
      rw [hb] at k3 ⊢
      exact ⟨c, k1, k2, k3.pureMono fun b hb => ⟨hsub b hb, rfl⟩⟩
  refine ⟨?_, ?_, ?_⟩
  · rw [thaw_frz]; exact hnew
  · intro id row b z h1
    rw [thaw_frz] at h1
    cases h1
  · rw [thaw_frz]
    exact key.mono (fun b hb => ⟨⟨hb, fun h => by cases h⟩, rfl⟩) (MLe.refl _ _ _)
end
section
variable {P : Program} {st : St} {al : Bool} {xs ys : List PV} {u u1 : List (Option Id)}
theorem et_lst {sz sz' : Nat} {es es' : List (List PV)} (ha : al = true) (hz : sz = sz') (h : es = es') (ht : ExpT al st xs ys u) : ExpT al st (.list sz es :: xs) (.list sz' es' :: ys) u := ⟨[], u, ⟨ha, hz, h, rfl⟩, ht, rfl⟩
theorem el_lst {sz sz' : Nat} {es es' : List (List PV)} (ha : al = true) (hz : sz = sz') (h : es = es') (ht : ExpL al st xs ys u) : ExpL al st (.list sz es :: xs) (.list sz' es' :: ys) u := ⟨[], u, ⟨ha, hz, h, rfl⟩, ht, rfl⟩
theorem et_listA {id : Id} {T T' sz sz' n : Nat} {es es' : List (List PV)} (ha : al = true) (hm : getM st.mem id = some (some ⟨T, sz, es, false⟩)) (hio : id.1 ≠ io) (hT : T = T') (hz : sz = sz') (hn : n = es.length) (hes : es = es')
    (ht : ExpT al st xs ys u) : ExpT al st (.osl id 0 n :: xs) (.olist T' sz' es' :: ys) (some id :: u) := by
  subst hT hz hes hn
  exact ⟨[some id], u, ⟨rfl, hio, rfl, .inl ha, hm, rfl⟩, ht, rfl⟩
theorem el_listA {id : Id} {T T' sz sz' n : Nat} {es es' : List (List PV)} (ha : al = true) (hm : getM st.mem id = some (some ⟨T, sz, es, false⟩)) (hio : id.1 ≠ io) (hT : T = T') (hz : sz = sz') (hn : n = es.length) (hes : es = es')
    (ht : ExpL al st xs ys u) : ExpL al st (.osl id 0 n :: xs) (.olist T' sz' es' :: ys) (some id :: u) := by
  subst hT hz hes hn
  exact ⟨[some id], u, ⟨rfl, hio, rfl, .inl ha, hm, rfl⟩, ht, rfl⟩
variable {rows : List Row} {fin : List (List (List PV))} {e : Exit}
theorem ret_TL {fn : Func} {x y : PV} {rs : List ResultVar} (hrs : fn.results.toList = rs) (hr : resO st rs = some (x :: y :: xs)) (hu : uT (x :: y :: xs) = some u) (hc : cellsT P rs (x :: y :: xs)) (ha : apartIds u) (hf : finsL st.mem 0 rows fin) (he : ExpT al st (x :: y :: xs) ys u) :
    RetPost P fn al rows (fun r' fin' => r' = .tuple ys ∧ fin' = fin) .ret st := ret_ofL (.inl rfl) (x :: y :: xs) u (by rw [hrs]; exact resO_ok hr hc) he ha hf
theorem ret_AL {fn : Func} {cs ds : List PV} {rs : List ResultVar} (hrs : fn.results.toList = rs) (hr : resO st rs = some [.agg cs]) (hu : uO cs = some u) (hc : cellsT P rs [.agg cs]) (ha : apartIds u) (hf : finsL st.mem 0 rows fin) (he : ExpL al st cs ds u) :
    RetPost P fn al rows (fun r' fin' => r' = .agg ds ∧ fin' = fin) .ret st := ret_ofL (.inl rfl) [.agg cs] u (by rw [hrs]; exact resO_ok hr hc) he ha hf
theorem ret_lL {fn : Func} {t T T' sz sz' n : Nat} {id : Id} {es es' : List (List PV)} (hr : fn.results = #[.tmp t]) (hv : lookE st.env t = some (.osl id 0 n)) (hm : getM st.mem id = some (some ⟨T, sz, es, false⟩)) (hio : id.1 ≠ io) (hf : finsL st.mem 0 rows fin) (hT : T = T') (hz : sz = sz') (hn : n = es.length) (hes : es = es') :
    RetPost P fn true rows (fun r' fin' => r' = .olist T' sz' es' ∧ fin' = fin) .ret st := by
  subst hT hz hes hn
  exact ret_ofL (.inl rfl) [.osl id 0 es.length] [some id] (by rw [hr]; exact ⟨lookE_ok hv, trivial⟩) ⟨rfl, hio, rfl, .inl rfl, hm, rfl⟩ ⟨by simp, trivial⟩ hf
theorem ret_iL {fn : Func} {t : Nat} {k : IntKind} {n n' : Int} (hr : fn.results = #[.tmp t]) (hv : lookE st.env t = some (.int k n)) (hf : finsL st.mem 0 rows fin) (hn : n = n') : RetPost P fn al rows (fun r' fin' => r' = .int k n' ∧ fin' = fin) .ret st := by
  subst hn
  exact ret_ofL (.inl rfl) [.int k n] [] (by rw [hr]; exact ⟨lookE_ok hv, trivial⟩) ⟨rfl, rfl, rfl⟩ trivial hf
theorem ret_bL {fn : Func} {t : Nat} {n n' : Bool} (hr : fn.results = #[.tmp t]) (hv : lookE st.env t = some (.bool n)) (hf : finsL st.mem 0 rows fin) (hn : n = n') : RetPost P fn al rows (fun r' fin' => r' = .bool n' ∧ fin' = fin) .ret st := by
  subst hn
  exact ret_ofL (.inl rfl) [.bool n] [] (by rw [hr]; exact ⟨lookE_ok hv, trivial⟩) ⟨rfl, rfl⟩ trivial hf
theorem ret_sL {fn : Func} {t : Nat} {n n' : ByteArray} (hr : fn.results = #[.tmp t]) (hv : lookE st.env t = some (.str n)) (hf : finsL st.mem 0 rows fin) (hn : n = n') : RetPost P fn al rows (fun r' fin' => r' = .str n' ∧ fin' = fin) .ret st := by
  subst hn
  exact ret_ofL (.inl rfl) [.str n] [] (by rw [hr]; exact ⟨lookE_ok hv, trivial⟩) ⟨rfl, rfl⟩ trivial hf
end
def nilTo (id : Id) : List PV → Option (List PV)
  | [] => none
  | .nil :: r => some (.osl id 0 0 :: r)
  | x :: r => match nilTo id r with
    | some l => some (x :: l)
    | none => none
theorem nilTo_at {id : Id} : ∀ {cs cs' : List PV}, nilTo id cs = some cs' → cs'.length = cs.length ∧ ∀ (j : Nat) u', cs'[j]? = some u' → ∃ u, cs[j]? = some u ∧ (u' = u ∨ (u = .nil ∧ u' = .osl id 0 0))
  | [], cs', h => by cases h
  | x :: r, cs', h => by
    by_cases hx : x = .nil
    · subst hx
      simp only [nilTo, Option.some.injEq] at h
      subst h
      refine ⟨rfl, fun j u' hu => ?_⟩
      cases j with
      | zero => simp at hu; subst hu; exact ⟨.nil, rfl, .inr ⟨rfl, rfl⟩⟩
      | succ j => exact ⟨u', by simpa using hu, .inl rfl⟩
    · have h2 : ∃ l, nilTo id r = some l ∧ cs' = x :: l := by
        cases hr : nilTo id r with
        | none => cases x <;> simp [nilTo, hr] at h hx
        | some l => cases x <;> simp [nilTo, hr] at h hx <;> exact ⟨l, rfl, h.symm⟩
      obtain ⟨l, h3, rfl⟩ := h2
      obtain ⟨g1, g2⟩ := nilTo_at h3
      refine ⟨by simp [g1], fun j u' hu => ?_⟩
      cases j with
      | zero => simp at hu; subst hu; exact ⟨x, rfl, .inl rfl⟩
      | succ j => obtain ⟨u, k1, k2⟩ := g2 j u' (by simpa using hu); exact ⟨u, by simpa using k1, k2⟩
section
variable {P : Program}
theorem ent_virtB {st : St} (bid id : Id) (T sz : Nat) {T0 s0 : Nat} {cs cs' : List PV} (hm : getM st.mem bid = some (some ⟨T0, s0, [cs], true⟩)) (hcs : nilTo id cs = some cs') (hfree : getM st.mem id = none) (hio : id.1 ≠ io) :
    Ent st ⟨st.env, (bid, some ⟨T0, s0, [cs'], true⟩) :: (id, some ⟨T, sz, [], false⟩) :: st.mem⟩ := by
  intro G w0 X N a w ⟨ρ, hW, hd, hs, hV⟩
  obtain ⟨T1, W1⟩ := hW.virt hfree hio T sz
  have hne : bid ≠ id := fun e => by rw [e, hfree] at hm; cases hm
  have hM1b : (st.M.set id (some ⟨T, sz, [], false⟩)) bid = some (some ⟨T0, s0, [cs], true⟩) := by simp [Mem.set, hne]; exact hm
  have hM1i : (st.M.set id (some ⟨T, sz, [], false⟩)) id = some (some ⟨T, sz, [], false⟩) := by simp [Mem.set]
  have hst : St.M ⟨st.env, (bid, some ⟨T0, s0, [cs'], true⟩) :: (id, some ⟨T, sz, [], false⟩) :: st.mem⟩ = (st.M.set id (some ⟨T, sz, [], false⟩)).set bid (some ⟨T0, s0, [cs'], true⟩) := by
    show getM ((bid, some ⟨T0, s0, [cs'], true⟩) :: (id, some ⟨T, sz, [], false⟩) :: st.mem) = _
    rw [show ((bid, some (⟨T0, s0, [cs'], true⟩ : Row)) :: (id, some (⟨T, sz, [], false⟩ : Row)) :: st.mem) = [(bid, some ⟨T0, s0, [cs'], true⟩), (id, some ⟨T, sz, [], false⟩)] ++ st.mem from rfl, getM_app]
    rfl
  generalize hM1 : st.M.set id (some ⟨T, sz, [], false⟩) = M1 at *
  generalize hρ1 : setAt ρ id none = ρ1 at *
  have hlive : ∀ i r, (M1.set bid (some ⟨T0, s0, [cs'], true⟩)) i = some (some r) → (i = bid ∧ r = ⟨T0, s0, [cs'], true⟩) ∨ (i ≠ bid ∧ M1 i = some (some r)) := by
    intro i r h
    by_cases he : i = bid
    · subst he
      simp only [Mem.set, if_true, Option.some.injEq] at h
      exact .inl ⟨rfl, h.symm⟩
    · simp only [Mem.set, he, if_false] at h
      exact .inr ⟨he, h⟩
  have hold : ∀ i r, (M1.set bid (some ⟨T0, s0, [cs'], true⟩)) i = some (some r) → ∃ r0, M1 i = some (some r0) := fun i r h => by
    rcases hlive i r h with ⟨rfl, _⟩ | ⟨_, h2⟩
    · exact ⟨_, hM1b⟩
    · exact ⟨_, h2⟩
  have T2 : Trans G ρ1 M1 w ρ1 (M1.set bid (some ⟨T0, s0, [cs'], true⟩)) w := by
    refine ⟨fun b hb => ⟨⟨hb.1, fun i r z h => ?_, hb.2.2⟩, rfl⟩, fun i => ?_⟩
    · obtain ⟨r0, h0⟩ := hold i r h
      exact hb.2.1 i r0 z h0
    · cases hi : M1 i with
      | none => trivial
      | some o =>
        by_cases he : i = bid
        · subst he
          rw [hM1b] at hi
          injection hi with hi
          subst hi
          exact .inr ⟨⟨T0, s0, [cs'], true⟩, by simp [Mem.set], rfl, rfl, Nat.le_refl _, rfl, fun b z hb cur hcur => ⟨cur, hcur, rfl⟩⟩
        · cases o with
          | none => simp [Mem.set, he, hi]
          | some r0 => exact .inr ⟨r0, by simp [Mem.set, he, hi], rfl, rfl, Nat.le_refl _, rfl, fun b z hb cur hcur => ⟨cur, hcur, rfl⟩⟩
  obtain ⟨g1, g2⟩ := nilTo_at hcs
  have hvirt : (M1.set bid (some ⟨T0, s0, [cs'], true⟩)) id = some (some ⟨T, sz, [], false⟩) := by simp [Mem.set, Ne.symm hne, hM1i]
  have hρi : ρ1 id = none := by rw [← hρ1]; simp [setAt]
  have W2 : WRel G ρ1 w0 X (M1.set bid (some ⟨T0, s0, [cs'], true⟩)) w := by
    refine ⟨fun i1 i2 r1 r2 b z1 z2 h1 h2 => ?_, fun i r h => ?_, fun i r h => ?_, W1.keep, W1.good⟩
    · obtain ⟨q1, k1⟩ := hold i1 r1 h1
      obtain ⟨q2, k2⟩ := hold i2 r2 h2
      exact W1.inj i1 i2 q1 q2 b z1 z2 k1 k2
    · rcases hlive i r h with ⟨rfl, rfl⟩ | ⟨he, h2⟩
      · have hr := W1.row i _ hM1b
        cases hb : ρ1 i with
        | none => rw [hb] at hr; have := hr.2; cases this
        | some bz =>
          obtain ⟨b, z⟩ := bz
          rw [hb] at hr
          obtain ⟨cur, C, k1, k2, k3, k4, k5, k6⟩ := hr
          refine ⟨cur, C, k1, k2, k3, k4, k5, fun j e hj => ?_⟩
          cases j with
          | succ j => simp at hj
          | zero =>
            simp only [List.getElem?_cons_zero, Option.some.injEq] at hj
            subst hj
            obtain ⟨m1, m2⟩ := k6 0 cs rfl
            refine ⟨by rw [g1]; exact m1, fun j u' hu => ?_⟩
            obtain ⟨u, n1, n2⟩ := g2 j u' hu
            obtain ⟨c, p1, p2, p3⟩ := m2 j u n1
            refine ⟨c, p1, p2, ?_⟩
            simp only [if_true] at p3 ⊢
            rcases n2 with rfl | ⟨rfl, rfl⟩
            · exact T2.rep p3
            · exact (rep_osl (r := ⟨T, sz, [], false⟩) hvirt).2 (by rw [hρi]; exact ⟨rep_nil.1 p3, rfl, rfl⟩)
      · exact (W1.row i r h2).mono T2 fun b z _ => rfl
    · obtain ⟨r0, h0⟩ := hold i r h
      exact W1.new i r0 h0
  exact ⟨ρ1, by rw [hst]; exact W2, hd, hs, fun s => by rw [hst]; exact T2.rep (T1.rep (hV s))⟩
theorem q_thenW {st : St} {Q : Exit → St → Prop} {y : Code} (bid id : Id) (T sz : Nat) {T0 s0 : Nat} {cs cs' : List PV} (hm : getM st.mem bid = some (some ⟨T0, s0, [cs], true⟩)) (hcs : nilTo id cs = some cs') (hfree : getM st.mem id = none) (hio : Nat.beq id.1 io = false)
    (h : vwp P y ⟨st.env, (bid, some ⟨T0, s0, [cs'], true⟩) :: (id, some ⟨T, sz, [], false⟩) :: st.mem⟩ Q) : thenQ P y Q .normal st :=
  ⟨_, ent_virtB bid id T sz hm hcs hfree (fun e => by rw [e] at hio; simp at hio), h⟩
end
end Go.Vs
set_option linter.unusedVariables false
set_option linter.unusedSimpArgs false
namespace Go.Vs
section
variable {P : Program} {ops : Array Oper} {rest : List Oper} {env : List (Nat × PV)} {mem : List (Id × Option Row)} {tr : List (List Id × List Id)} {K : St → List (List Id × List Id) → Prop}
  {d : Nat} {ty : TypeId} {pos : String} {af : Array Edge}
theorem x_callLP {f : Operand} {args : List Operand} {ats : Array TypeId} {g : FuncId} {fi ca xs ys : List PV} {Post : PV → List (List (List PV)) → Prop} (ids : List Id) {rd : List Id} {ios : List Row}
    (hC : ContractP P g true ys ios Post) (hf : ev (getE env) f = .fn g fi ca)
    (hxs : fi ++ args.map (ev (getE env)) ++ ca = xs) (hlend : lendR mem ids ids ios) (hrd : rdL (rdO true 6 mem) xs ys [] = some rd)
    (hnd : (nodupB ids && nodupB rd && rd.all (fun id => !(hasId ids id) && !Nat.beq id.1 io && (match getM mem id with | some (some _) => true | _ => false))) = true)
    (hsnap : AllR (SnapD 6 (getM mem) ids rd) xs ys) (hfree : freeB mem d = true)
    (hk : ∀ r fin, Post r fin → ∃ v up mem', thaw d r = (v, up) ∧ rowsNewL mem ids ios fin = some mem' ∧
      exec P ops false rest ⟨(d, v) :: env, (up ++ (mem' ++ (rd.map fun id : Id => (id, (none : Option Row))))) ++ mem⟩ (([], []) :: tr) K) :
    exec P ops false (⟨some d, .call ⟨.value f, args.toArray, ats⟩, ty, pos, af, none⟩ :: rest) ⟨env, mem⟩ tr K := by
  obtain ⟨hl, hr⟩ := lendR_ok hlend
  simp only [Bool.and_eq_true] at hnd
  obtain ⟨⟨hn1, hn2⟩, hn3⟩ := hnd
  have hn3 := List.all_eq_true.1 hn3
  obtain ⟨h1, h2⟩ := freeB_ok hfree
  subst hxs
  refine .inr ⟨by simp [wantedPV], .inr ⟨d, true, true, ids, rd, ios, Post, ⟨⟨.value f, args.toArray, ats⟩, f, g, fi, ca, ys, rfl, rfl, hf, fun t ht => by injection ht with ht; exact ht.symm, hC,
    ⟨h1, h2, by simpa using hsnap, hl, nodupB_ok hn1, hr, fun id hid hm => ?_, .inl ⟨rfl, fun id hid => ?_, nodupB_ok hn2⟩⟩⟩, .inl ⟨rfl, fun r fin hp _ => ?_⟩⟩⟩
  · have := hn3 id hid
    simp only [Bool.and_eq_true, Bool.not_eq_true'] at this
    rw [hasId_iff.2 hm] at this
    exact absurd this.1.1 (by simp)
  · have := hn3 id hid
    simp only [Bool.and_eq_true, Bool.not_eq_true'] at this
    refine ⟨fun e => by have h2 := this.1.2; rw [e] at h2; simp at h2, ?_⟩
    have h2 := this.2
    split at h2
    · exact ⟨_, by assumption⟩
    · cases h2
  · obtain ⟨v, up, mem', hth, hnew, hk⟩ := hk r fin hp
    have hups : callUps (St.M ⟨env, mem⟩) d ids rd true r (backF (St.M ⟨env, mem⟩) ids ios fin) = up ++ (mem' ++ rd.map fun id => (id, none)) := by
      show callUps (getM mem) d ids rd true r (backF (getM mem) ids ios fin) = _
      simp only [callUps, hth, frzUps, rowsNewL_ok hnew]
      simp
    rw [hups, show (thaw d r).1 = v by rw [hth]]
    exact hk
end
theorem RetPost.mono {P : Program} {fn : Func} {al : Bool} {ios : List Row} {Post Post' : PV → List (List (List PV)) → Prop} {e : Exit} {st : St} (hp : ∀ r fin, Post r fin → Post' r fin) (h : RetPost P fn al ios Post e st) : RetPost P fn al ios Post' e st := by
  obtain ⟨h0, xs, r, u, fin, h1, h2, h3, h4, h5⟩ := h
  exact ⟨h0, xs, r, u, fin, h1, h2, h3, hp _ _ h4, h5⟩
theorem ContractP.mono {P : Program} {g : FuncId} {al : Bool} {ys : List PV} {ios : List Row} {Post Post' : PV → List (List (List PV)) → Prop} (hp : ∀ r fin, Post r fin → Post' r fin) (h : ContractP P g al ys ios Post) : ContractP P g al ys ios Post' := by
  refine ⟨h.1, fun G w X ρ cargs hW hX hC => (h.2 G w X ρ cargs hW hX hC).mono fun e w' => ?_⟩
  rintro ⟨v, r', fin', rfl, hP, hl, hf, hR⟩
  exact ⟨v, r', fin', rfl, hp _ _ hP, hl, hf, hR⟩
section
variable {P : Program} {G : Nat → Prop} {ρ : Id → Option (Nat × Nat)} {w0 w : World} {X : List (Option (Nat × Nat))} {M N : Mem} {v : Value}
theorem ConL.frzP {g : FuncId} {ys : List PV} {ios : List Row} {Post : PV → List (List (List PV)) → Prop} (h : ContractP P g true ys ios Post) (hcl : ∀ r fin, Post r fin → clean r = true) (hbx : ∀ row ∈ ios, row.bx = false) :
    ContractP P g true ys ios fun r' fin' => ∃ r, r' = Go.Vs.frz r ∧ Post r fin' := by
  refine ⟨h.1, fun G w X ρ cargs hW hX hC => ?_⟩
  obtain ⟨cb, h2⟩ := h
  refine (h2 G w X ρ cargs hW hX hC).mono fun e w' => ?_
  rintro ⟨v, r', fin', rfl, hP0, hl, hf, hR⟩
  have hc := hcl _ _ hP0
  refine ⟨v, Go.Vs.frz r', fin', rfl, ⟨r', rfl, hP0⟩, hl, hf, fun t ht => ?_⟩
  obtain ⟨ρ', hR⟩ := hR t ht
  refine ⟨ρ', ?_⟩
  have hrel := hR.rel
  have hval := hR.val
  have hN : ∀ id r, ioMem (withEs ios fin') id = some (some r) → ((ioMem (withEs ios fin')).upds (thaw t r').2) id = some (some r) ∧ id.1 ≠ t := by
    intro id r h
    have hio : id.1 = io := by
      simp only [ioMem] at h
      split at h
      · assumption
      · cases h
    have hne : id.1 ≠ t := by rw [hio]; exact fun e => ht e.symm
    exact ⟨by rw [upds_other _ _ id fun p hp e => hne (by rw [← e]; exact thaw_fst t r' p hp)]; exact h, hne⟩
  have hsub : ∀ b, Stab G ρ' ((ioMem (withEs ios fin')).upds (thaw t r').2) w' b → Stab G ρ' (ioMem (withEs ios fin')) w' b := fun b hb => ⟨hb.1, fun id r z h => hb.2.1 id r z (hN id r h).1, hb.2.2⟩
  have hkeys : ∀ p ∈ (thaw t r').2, noMem.upds (thaw t r').2 p.1 = some p.2 := fun p hp => by
    refine looks_upds _ ?_ p hp
    cases r' with
    | tuple vs => exact (thawT_keys t vs 0).2.2
    | _ => exact (thaw1_keys t 0 _).2.2
  have hat : ∀ p ∈ (thaw t r').2, ((ioMem (withEs ios fin')).upds (thaw t r').2) p.1 = some p.2 := fun p hp => by
    rcases upds_or (ioMem (withEs ios fin')) (thaw t r').2 p.1 with ⟨h1, _⟩ | ⟨_, h2⟩
    · rw [h1]; exact hkeys p hp
    · rw [hkeys p hp] at h2; cases h2
  have hmle : MLe ρ' w' (noMem.upds (thaw t r').2) ρ' w' ((ioMem (withEs ios fin')).upds (thaw t r').2) := fun id => by
    cases hMi : noMem.upds (thaw t r').2 id with
    | none => trivial
    | some o =>
      have e := hat (id, o) (upds_find hMi)
      cases o with
      | none => exact e
      | some row => exact .inr ⟨row, e, rfl, rfl, Nat.le_refl _, rfl, fun b z hb cur hcur => ⟨cur, hcur, rfl⟩⟩
  have hv : Rep ρ' w' (Stab G ρ' ((ioMem (withEs ios fin')).upds (thaw t r').2) w') ((ioMem (withEs ios fin')).upds (thaw t r').2) v (thaw t r').1 := hval.mono (fun b hb => ⟨hb.1, rfl⟩) hmle
  have key : Rep ρ' w' (Stab G ρ' (ioMem (withEs ios fin')) w') noMem v (Go.Vs.frz r') := by
    have one : ∀ x : PV, (∀ p ∈ (thaw1 t 0 x).2.2, ((ioMem (withEs ios fin')).upds (thaw t r').2) p.1 = some p.2) → clean2 x = true → Rep ρ' w' (Stab G ρ' ((ioMem (withEs ios fin')).upds (thaw t r').2) w') ((ioMem (withEs ios fin')).upds (thaw t r').2) v (thaw1 t 0 x).2.1 → Rep ρ' w' (Stab G ρ' (ioMem (withEs ios fin')) w') noMem v (frz2 x) :=
      fun x h1 h2 h3 => frz2_repN hrel h1 ht h2 hsub hN h3
    cases r' with
    | tuple vs =>
      simp only [thaw] at hv hrel hsub hN hat
      obtain ⟨a, rfl, hcs⟩ := rep_tuple.1 hv
      obtain ⟨k1, k2⟩ := thawT_at t vs 0
      refine rep_tuple.2 ⟨a, rfl, by rw [hcs.1, k1, List.length_map], fun j u hu => ?_⟩
      rw [List.getElem?_map] at hu
      cases hx : vs[j]? with
      | none => rw [hx] at hu; cases hu
      | some x =>
        rw [hx] at hu
        injection hu with hu
        subst hu
        obtain ⟨k', g1, g2⟩ := k2 j x hx
        obtain ⟨c, m1, m2⟩ := hcs.2 j _ g1
        exact ⟨c, m1, frz2_repN hrel (fun p hp => hat p (g2 p hp)) ht (List.all_eq_true.1 hc _ (List.mem_of_getElem? hx)) hsub hN m2⟩
    | agg cs => exact one (.agg cs) hat hc hv
    | olist ty sz es => exact one (.olist ty sz es) hat hc hv
    | any => exact rep_any
    | int _ _ => exact rep_clean1 hsub rfl rfl hv
    | bool _ => exact rep_clean1 hsub rfl rfl hv
    | str _ => exact rep_clean1 hsub rfl rfl hv
    | nil => exact rep_clean1 hsub rfl rfl hv
    | list _ _ => exact rep_clean1 hsub rfl rfl hv
    | ptr _ => exact rep_clean1 hsub rfl rfl hv
    | own _ _ _ => cases hc
    | clist _ _ => cases hc
    | osl _ _ _ => cases hc
    | fn _ _ _ => cases hc
  have hbx' : ∀ id r, ioMem (withEs ios fin') id = some (some r) → r.bx = false := by
    intro id r h
    simp only [ioMem] at h
    split at h
    · rw [withEs_at ios fin' _ hl] at h
      cases hk : ios[id.2]? with
      | none => rw [hk] at h; simp at h
      | some row0 =>
        cases hk2 : fin'[id.2]? with
        | none => rw [hk, hk2] at h; simp at h
        | some es =>
          rw [hk, hk2] at h
          simp at h
          rw [← h]
          exact hbx row0 (List.mem_of_getElem? hk)
    · cases h
  have hnew : WRel G ρ' w X (ioMem (withEs ios fin')) w' := by
    refine ⟨fun id id' r r' b z z' h1 h2 => hrel.inj id id' r r' b z z' (hN id r h1).1 (hN id' r' h2).1, fun id r h => ?_, fun id r h => hrel.new id r (hN id r h).1, hrel.keep, hrel.good⟩
    have hr := hrel.row id r (hN id r h).1
    have hb := hbx' id r h
    cases hρ : ρ' id with
    | none => rw [hρ] at hr; exact hr
    | some bz =>
      obtain ⟨b, z⟩ := bz
      rw [hρ] at hr
      obtain ⟨cur, C, g1, g2, g3, g4, g5, g6⟩ := hr
      refine ⟨cur, C, g1, g2, g3, g4, g5, fun i e hi => ⟨(g6 i e hi).1, fun j u hu => ?_⟩⟩
      obtain ⟨c, k1, k2, k3⟩ := (g6 i e hi).2 j u hu
      rw [hb] at k3 ⊢
      exact ⟨c, k1, k2, k3.pureMono fun b hb => ⟨hsub b hb, rfl⟩⟩
  refine ⟨?_, ?_, ?_⟩
  · rw [thaw_frz]; exact hnew
  · intro id row b z h1
    rw [thaw_frz] at h1
    cases h1
  · rw [thaw_frz]
    exact key.mono (fun b hb => ⟨⟨hb, fun h => by cases h⟩, rfl⟩) (MLe.refl _ _ _)
end
def NilL (es es' : List (List PV)) : Prop := es'.length = es.length ∧ ∀ (i : Nat) e', es'[i]? = some e' → ∃ e, es[i]? = some e ∧ e'.length = e.length ∧ ∀ (j : Nat) u', e'[j]? = some u' → ∃ u, e[j]? = some u ∧ (u' = u ∨ (u = .nil ∧ ∃ z, u' = .list z []))
theorem nilL_last {es : List (List PV)} {e e' : List PV} (hl : e'.length = e.length) (h : ∀ (j : Nat) u', e'[j]? = some u' → ∃ u, e[j]? = some u ∧ (u' = u ∨ (u = .nil ∧ ∃ z, u' = .list z []))) : NilL (es ++ [e]) (es ++ [e']) := by
  refine ⟨by simp, fun i x hx => ?_⟩
  rcases Nat.lt_or_ge i es.length with h1 | h1
  · rw [List.getElem?_append_left h1] at hx
    exact ⟨x, by rw [List.getElem?_append_left h1]; exact hx, rfl, fun j u hu => ⟨u, hu, .inl rfl⟩⟩
  · rw [List.getElem?_append_right h1] at hx
    have h2 : i - es.length = 0 := by
      rcases Nat.eq_zero_or_pos (i - es.length) with h2 | h2
      · exact h2
      · rw [List.getElem?_eq_none (by simp; omega)] at hx; cases hx
    rw [h2] at hx
    simp at hx
    subst hx
    exact ⟨e, by rw [List.getElem?_append_right h1, h2]; rfl, hl, h⟩
theorem ent_nilL {st : St} (id : Id) {T sz : Nat} {es es' : List (List PV)} (hm : getM st.mem id = some (some ⟨T, sz, es, false⟩)) (hn : NilL es es') : Ent st ⟨st.env, (id, some ⟨T, sz, es', false⟩) :: st.mem⟩ := by
  intro G w0 X N a w ⟨ρ, hW, hd, hs, hV⟩
  obtain ⟨hlen, hel⟩ := hn
  have hst : St.M ⟨st.env, (id, some ⟨T, sz, es', false⟩) :: st.mem⟩ = st.M.set id (some ⟨T, sz, es', false⟩) := by
    show getM ((id, some ⟨T, sz, es', false⟩) :: st.mem) = _
    rw [show ((id, some (⟨T, sz, es', false⟩ : Row)) :: st.mem) = [(id, some ⟨T, sz, es', false⟩)] ++ st.mem from rfl, getM_app]
    rfl
  have hM1b : st.M id = some (some ⟨T, sz, es, false⟩) := hm
  generalize hM1 : st.M = M1 at *
  have hlive : ∀ i r, (M1.set id (some ⟨T, sz, es', false⟩)) i = some (some r) → (i = id ∧ r = ⟨T, sz, es', false⟩) ∨ (i ≠ id ∧ M1 i = some (some r)) := by
    intro i r h
    by_cases he : i = id
    · subst he
      simp only [Mem.set, if_true, Option.some.injEq] at h
      exact .inl ⟨rfl, h.symm⟩
    · simp only [Mem.set, he, if_false] at h
      exact .inr ⟨he, h⟩
  have hold : ∀ i r, (M1.set id (some ⟨T, sz, es', false⟩)) i = some (some r) → ∃ r0, M1 i = some (some r0) := fun i r h => by
    rcases hlive i r h with ⟨rfl, _⟩ | ⟨_, h2⟩
    · exact ⟨_, hM1b⟩
    · exact ⟨_, h2⟩
  have T2 : Trans G ρ M1 w ρ (M1.set id (some ⟨T, sz, es', false⟩)) w := by
    refine ⟨fun b hb => ⟨⟨hb.1, fun i r z h => ?_, hb.2.2⟩, rfl⟩, fun i => ?_⟩
    · obtain ⟨r0, h0⟩ := hold i r h
      exact hb.2.1 i r0 z h0
    · cases hi : M1 i with
      | none => trivial
      | some o =>
        by_cases he : i = id
        · subst he
          rw [hM1b] at hi
          injection hi with hi
          subst hi
          exact .inr ⟨⟨T, sz, es', false⟩, by simp [Mem.set], rfl, rfl, by simp [hlen], rfl, fun b z hb cur hcur => ⟨cur, hcur, rfl⟩⟩
        · cases o with
          | none => simp [Mem.set, he, hi]
          | some r0 => exact .inr ⟨r0, by simp [Mem.set, he, hi], rfl, rfl, Nat.le_refl _, rfl, fun b z hb cur hcur => ⟨cur, hcur, rfl⟩⟩
  have W2 : WRel G ρ w0 X (M1.set id (some ⟨T, sz, es', false⟩)) w := by
    refine ⟨fun i1 i2 r1 r2 b z1 z2 h1 h2 => ?_, fun i r h => ?_, fun i r h => ?_, hW.keep, hW.good⟩
    · obtain ⟨q1, k1⟩ := hold i1 r1 h1
      obtain ⟨q2, k2⟩ := hold i2 r2 h2
      exact hW.inj i1 i2 q1 q2 b z1 z2 k1 k2
    · rcases hlive i r h with ⟨rfl, rfl⟩ | ⟨he, h2⟩
      · have hr := hW.row i _ hM1b
        cases hb : ρ i with
        | none =>
          rw [hb] at hr
          have h0 : es = [] := hr.1
          have h1 : es' = [] := by
            rw [h0] at hlen
            exact List.length_eq_zero_iff.1 hlen
          exact ⟨h1, rfl⟩
        | some bz =>
          obtain ⟨b, z⟩ := bz
          rw [hb] at hr
          obtain ⟨cur, C, k1, k2, k3, k4, k5, k6⟩ := hr
          refine ⟨cur, C, k1, k2, by simp only [hlen] at *; exact k3, by simp only [hlen] at *; exact k4, by simp only [hlen] at *; exact k5, fun j e hj => ?_⟩
          obtain ⟨e0, n0, n1, n2⟩ := hel j e hj
          obtain ⟨m1, m2⟩ := k6 j e0 n0
          refine ⟨by rw [n1]; exact m1, fun q u' hu => ?_⟩
          obtain ⟨u, n3, n4⟩ := n2 q u' hu
          obtain ⟨c, p1, p2, p3⟩ := m2 q u n3
          refine ⟨c, p1, p2, ?_⟩
          rcases n4 with rfl | ⟨rfl, z', rfl⟩
          · exact T2.repB p3
          · exact rep_list.2 ⟨none, 0, by simpa using rep_nil.1 p3, Nat.le_refl _, fun h => absurd rfl h⟩
      · exact (hW.row i r h2).mono T2 fun b z _ => rfl
    · obtain ⟨r0, h0⟩ := hold i r h
      exact hW.new i r0 h0
  exact ⟨ρ, by rw [hst]; exact W2, hd, hs, fun s => by rw [hst]; exact T2.rep (hV s)⟩
theorem loopQ_ent {I : St → Prop} {m : St → Nat} {n : Nat} {Q : Exit → St → Prop} {st st' : St} (h : Ent st st') (hq : loopQ I m n Q .normal st') : loopQ I m n Q .normal st := by
  obtain ⟨st3, h1, h2, h3⟩ := hq
  exact ⟨st3, h.trans h1, h2, h3⟩
end Go.Vs
set_option linter.unusedVariables false
set_option linter.unusedSimpArgs false
set_option maxRecDepth 100000
set_option maxHeartbeats 4000000
namespace Go.Vs
open Go.Proofs
attribute [local irreducible] exec vwp thenQ blkQ loopQ RetPost
theorem et_agg0 {st : St} {al : Bool} {xs ys cs ds : List PV} {u : List (Option Id)} (h : ExpL al st cs ds []) (ht : ExpT al st xs ys u) : ExpT al st (.agg cs :: xs) (.agg ds :: ys) u := ⟨[], u, h, ht, rfl⟩
theorem ret_lstL {P : Program} {fn : Func} {st : St} {t sz sz' : Nat} {rows : List Row} {fin : List (List (List PV))} {es es' : List (List PV)} (hr : fn.results = #[.tmp t]) (hv : lookE st.env t = some (.list sz es)) (hf : finsL st.mem 0 rows fin) (hz : sz = sz') (hes : es = es') :
    RetPost P fn true rows (fun r' fin' => r' = .list sz' es' ∧ fin' = fin) .ret st := by
  subst hz hes
  exact ret_ofL (.inl rfl) [.list sz es] [] (by rw [hr]; exact ⟨lookE_ok hv, trivial⟩) ⟨rfl, rfl, rfl, rfl⟩ trivial hf
structure Cu where
  bs : List Int
  pos : Int
  seed : Int
@[reducible] def bytesP (bs : List Int) : List (List PV) := bs.map fun b => [PV.int .u8 b]
theorem bytes_at {bs : List Int} {i : Nat} {b : Int} (h : bs[i]? = some b) : (bytesP bs)[i]? = some [PV.int .u8 b] := by simp [bytesP, h]
@[reducible] def Cu.pv (c : Cu) : List PV := [.list 1 (bytesP c.bs), .int .i64 c.pos, .int .u64 c.seed]
structure Cu.Ok (c : Cu) : Prop where
  byte : ∀ b ∈ c.bs, 0 ≤ b ∧ b ≤ 255
  len : c.bs.length ≤ 1099511627776
  pos : 0 ≤ c.pos ∧ c.pos ≤ 1152921504606846976
structure Aft (c c' : Cu) (k : Int) : Prop where
  bs : c'.bs = c.bs
  pos : c.pos ≤ c'.pos ∧ c'.pos ≤ c.pos + k
theorem Aft.ok {c c' : Cu} {k : Int} (h : Aft c c' k) (hc : c.Ok) (hk : c.pos + k ≤ 1152921504606846976) : c'.Ok := ⟨by rw [h.bs]; exact hc.byte, by rw [h.bs]; exact hc.len, by have := h.pos; have := hc.pos; omega⟩
theorem Aft.trans {c c' c'' : Cu} {k l : Int} (h : Aft c c' k) (g : Aft c' c'' l) : Aft c c'' (k + l) := ⟨g.bs.trans h.bs, by have := h.pos; have := g.pos; omega⟩
theorem Aft.le {c c' : Cu} {k l : Int} (h : Aft c c' k) (hl : k ≤ l) : Aft c c' l := ⟨h.bs, by have := h.pos; omega⟩
theorem Aft.refl (c : Cu) : Aft c c 0 := ⟨rfl, by omega⟩
@[reducible] def cuRow (c : Cu) : Row := ⟨86, 3, [c.pv], false⟩
@[reducible] def Dr (f : FuncId) (args : List PV) (c : Cu) (r : PV) (c' : Cu) : Prop := ContractP Try.prog f true (.own (io, 0) 0 0 :: args) [cuRow c] (fun r' fin' => r' = r ∧ fin' = [[c'.pv]])
def nxS (c : Cu) (b : Int) : Int := IntKind.u64.wrap (IntKind.u64.wrap (IntKind.u64.wrap (c.seed * 6364136223846793005) + IntKind.u64.wrap b) + 917917)
def nxX (s : Int) : Int := IntKind.i64.wrap (IntKind.u64.wrap ((BitVec.ofInt IntKind.u64.bits (s.fdiv (2 ^ min (Int.toNat 40) IntKind.u64.bits)) &&& BitVec.ofInt IntKind.u64.bits 255).toNat : Nat))
theorem wrap_u {n : Int} (h : 0 ≤ n ∧ n < 18446744073709551616) : IntKind.u64.wrap n = n := by
  simp [IntKind.wrap, IntKind.signed, IntKind.bits]
  omega
theorem nxX_bnd (s : Int) : 0 ≤ nxX s ∧ nxX s ≤ 255 := by
  unfold nxX
  have h : (BitVec.ofInt IntKind.u64.bits (s.fdiv (2 ^ min (Int.toNat 40) IntKind.u64.bits)) &&& BitVec.ofInt IntKind.u64.bits 255).toNat ≤ 255 := by
    rw [BitVec.toNat_and]
    exact Nat.le_trans Nat.and_le_right (by decide)
  generalize (BitVec.ofInt IntKind.u64.bits (s.fdiv (2 ^ min (Int.toNat 40) IntKind.u64.bits)) &&& BitVec.ofInt IntKind.u64.bits 255).toNat = m at *
  rw [wrap_u aO, wrap_in aO]
  omega
theorem k_next (c : Cu) (hc : c.Ok) (hp : c.pos + 1 ≤ 1152921504606846976) : ∃ (r : Int) (c' : Cu), Dr 119 [] c (.int .i64 r) c' ∧ Aft c c' 1 ∧ 0 ≤ r ∧ r ≤ 255 := by
  have hpos := hc.pos
  have hlen := hc.len
  have hl1 : (bytesP c.bs).length = c.bs.length := by simp
  by_cases hlt : c.pos < c.bs.length
  · obtain ⟨b, hb⟩ := get_ex (show c.pos.toNat < c.bs.length by omega)
    have hx := bytes_at hb
    have hbb := hc.byte b (get_mem hb)
    refine ⟨b, ⟨c.bs, c.pos + 1, nxS c b⟩, ?_, ⟨rfl, by simp only; omega⟩, hbb⟩
    refine contract_of hmix Try.func119 rfl (by kernel_rfl) (by kernel_rfl) (Nat.le_of_ble_eq_true rfl) (fun row h => by (simp only [List.mem_cons, List.not_mem_nil, or_false] at h; first | (subst h; (first | exact .inl rfl | exact .inr (fun e he u hu => by (simp only [List.mem_cons, List.not_mem_nil, or_false] at he; subst he; simp only [List.mem_cons, List.not_mem_nil, or_false] at hu; subst hu; rfl)))) | (rcases h with rfl | rfl <;> (first | exact .inl rfl | exact .inr (fun e he u hu => by (simp only [List.mem_cons, List.not_mem_nil, or_false] at he; subst he; simp only [List.mem_cons, List.not_mem_nil, or_false] at hu; subst hu; rfl)))) | (rcases h with rfl | rfl | rfl <;> (first | exact .inl rfl | exact .inr (fun e he u hu => by (simp only [List.mem_cons, List.not_mem_nil, or_false] at he; subst he; simp only [List.mem_cons, List.not_mem_nil, or_false] at hu; subst hu; rfl)))) | (rcases h with rfl | rfl | rfl | rfl <;> (first | exact .inl rfl | exact .inr (fun e he u hu => by (simp only [List.mem_cons, List.not_mem_nil, or_false] at he; subst he; simp only [List.mem_cons, List.not_mem_nil, or_false] at hu; subst hu; rfl)))))) ?_
    have hty_f86_1 := ty_f86_1
    have hty_c3 := ty_c3
    have hty_f86_0 := ty_f86_0
    have hty_c22 := ty_c22
    have hty_u22 := ty_u22
    have hty_s22 := ty_s22
    have hty_c5 := ty_c5
    have hty_u5 := ty_u5
    have hty_u3 := ty_u3
    have hty_t3 := ty_t3
    have hty_f86_2 := ty_f86_2
    have hty_c84 := ty_c84
    have hty_u84 := ty_u84
    have hty_t84 := ty_t84
    repeat' (first
      | (refine g_exec ?_; first | (refine g_move ?_; refine x_moveO _ rfl ?_) | (refine g_assign ?_; refine x_assignO _ rfl ?_) | (refine g_bin ?_; first | (refine x_add rfl rfl aO ?_) | (refine x_mul rfl rfl aO ?_) | (refine x_bin _ rfl rfl rfl ?_) | (refine x_shr _ rfl rfl rfl ?_) | (refine x_strBin _ rfl rfl rfl ?_)) | (refine g_load ?_; first | (refine x_load_pc aA rfl ?_) | (refine x_load_oc _ aA rfl rfl aE rfl ?_) | (refine x_load_pa _ aA rfl aZ aL ?_) | (refine x_load_oa _ aA rfl rfl aE aZ aL ?_)) | (refine g_field ?_; first | (refine x_field_p _ aA rfl aL ?_) | (refine x_field_o _ aA rfl rfl (by simp only [lx, Nat.reduceAdd]; first | done | rfl) ?_)) | (refine g_index ?_; first | (refine x_index_l _ aA rfl rfl aO aA ?_) | (refine x_index_o _ aA rfl rfl rfl rfl aO aO (by first | (rw [Nat.zero_add, Int.toNat_natCast]) | (rw [Nat.zero_add]) | rfl) ?_)) | (refine g_call ?_; first | (refine x_len_l aA rfl ?_) | (refine x_len_o aA rfl rfl ?_) | (refine x_len_n aA rfl ?_) | (refine x_len_s aA (evO_ok rfl) ?_)) | (refine x_convert_i aA aA (evO_ok rfl) aO ?_) | (refine x_convert aA aA (evO_ok rfl) ?_) | (refine x_storeO _ _ _ rfl rfl aE (by first | assumption | (exact TAgg.size aA)) rfl rfl rfl aZ rfl aL (by first | (first | (simp only [lx, Nat.reduceAdd]; first | done | rfl) | fail) | rfl) ?_) | (refine x_nil_p rfl ?_) | (refine x_nil_o rfl rfl ?_) | (refine x_nil_f rfl ?_) | (refine x_nil (hK _ _ (.inl rfl) ?_); clear hK K) | (refine x_nil (hK _ _ (.inr (by kernel_rfl)) ?_); clear hK K))
      | (refine g_code ?_; first | (refine v_seq ?_) | (refine v_region (fun K hK => ?_)) | (refine v_block ?_) | (refine v_skip ?_) | (refine v_ret ?_) | (refine v_exit ?_) | (refine g_cond ?_; first | (refine v_cond_y rfl aD ?_) | (refine v_cond_n rfl aD ?_) | (refine v_condt rfl (fun h => ?_) (fun h => ?_) <;> (have h' := h; (try simp only [sx] at h')))))
      | (refine q_then ?_) | (refine q_then_r ?_) | (refine q_then_e ?_) | (refine q_blk_n ?_) | (refine q_blk_r ?_) | (refine q_blk_e ?_) | (refine q_blk_o rfl ?_) | (refine q_loop_r ?_) | (refine q_loop_e ?_) | (refine ret_n ?_))
    all_goals first
      | (exfalso; omega)
      | exact ret_iL rfl rfl ⟨⟨rfl, rfl, fun h => by cases h⟩, trivial⟩ rfl
  · refine ⟨nxX (nxS c 0), ⟨c.bs, c.pos + 1, nxS c 0⟩, ?_, ⟨rfl, by simp only; omega⟩, nxX_bnd _⟩
    refine contract_of hmix Try.func119 rfl (by kernel_rfl) (by kernel_rfl) (Nat.le_of_ble_eq_true rfl) (fun row h => by (simp only [List.mem_cons, List.not_mem_nil, or_false] at h; first | (subst h; (first | exact .inl rfl | exact .inr (fun e he u hu => by (simp only [List.mem_cons, List.not_mem_nil, or_false] at he; subst he; simp only [List.mem_cons, List.not_mem_nil, or_false] at hu; subst hu; rfl)))) | (rcases h with rfl | rfl <;> (first | exact .inl rfl | exact .inr (fun e he u hu => by (simp only [List.mem_cons, List.not_mem_nil, or_false] at he; subst he; simp only [List.mem_cons, List.not_mem_nil, or_false] at hu; subst hu; rfl)))) | (rcases h with rfl | rfl | rfl <;> (first | exact .inl rfl | exact .inr (fun e he u hu => by (simp only [List.mem_cons, List.not_mem_nil, or_false] at he; subst he; simp only [List.mem_cons, List.not_mem_nil, or_false] at hu; subst hu; rfl)))) | (rcases h with rfl | rfl | rfl | rfl <;> (first | exact .inl rfl | exact .inr (fun e he u hu => by (simp only [List.mem_cons, List.not_mem_nil, or_false] at he; subst he; simp only [List.mem_cons, List.not_mem_nil, or_false] at hu; subst hu; rfl)))))) ?_
    have hty_f86_1 := ty_f86_1
    have hty_c3 := ty_c3
    have hty_f86_0 := ty_f86_0
    have hty_c22 := ty_c22
    have hty_u22 := ty_u22
    have hty_s22 := ty_s22
    have hty_c5 := ty_c5
    have hty_u5 := ty_u5
    have hty_u3 := ty_u3
    have hty_t3 := ty_t3
    have hty_f86_2 := ty_f86_2
    have hty_c84 := ty_c84
    have hty_u84 := ty_u84
    have hty_t84 := ty_t84
    repeat' (first
      | (refine g_exec ?_; first | (refine g_move ?_; refine x_moveO _ rfl ?_) | (refine g_assign ?_; refine x_assignO _ rfl ?_) | (refine g_bin ?_; first | (refine x_add rfl rfl aO ?_) | (refine x_mul rfl rfl aO ?_) | (refine x_bin _ rfl rfl rfl ?_) | (refine x_shr _ rfl rfl rfl ?_) | (refine x_strBin _ rfl rfl rfl ?_)) | (refine g_load ?_; first | (refine x_load_pc aA rfl ?_) | (refine x_load_oc _ aA rfl rfl aE rfl ?_) | (refine x_load_pa _ aA rfl aZ aL ?_) | (refine x_load_oa _ aA rfl rfl aE aZ aL ?_)) | (refine g_field ?_; first | (refine x_field_p _ aA rfl aL ?_) | (refine x_field_o _ aA rfl rfl (by simp only [lx, Nat.reduceAdd]; first | done | rfl) ?_)) | (refine g_index ?_; first | (refine x_index_l _ aA rfl rfl aO aA ?_) | (refine x_index_o _ aA rfl rfl rfl rfl aO aO (by first | (rw [Nat.zero_add, Int.toNat_natCast]) | (rw [Nat.zero_add]) | rfl) ?_)) | (refine g_call ?_; first | (refine x_len_l aA rfl ?_) | (refine x_len_o aA rfl rfl ?_) | (refine x_len_n aA rfl ?_) | (refine x_len_s aA (evO_ok rfl) ?_)) | (refine x_convert_i aA aA (evO_ok rfl) aO ?_) | (refine x_convert aA aA (evO_ok rfl) ?_) | (refine x_storeO _ _ _ rfl rfl aE (by first | assumption | (exact TAgg.size aA)) rfl rfl rfl aZ rfl aL (by first | (first | (simp only [lx, Nat.reduceAdd]; first | done | rfl) | fail) | rfl) ?_) | (refine x_nil_p rfl ?_) | (refine x_nil_o rfl rfl ?_) | (refine x_nil_f rfl ?_) | (refine x_nil (hK _ _ (.inl rfl) ?_); clear hK K) | (refine x_nil (hK _ _ (.inr (by kernel_rfl)) ?_); clear hK K))
      | (refine g_code ?_; first | (refine v_seq ?_) | (refine v_region (fun K hK => ?_)) | (refine v_block ?_) | (refine v_skip ?_) | (refine v_ret ?_) | (refine v_exit ?_) | (refine g_cond ?_; first | (refine v_cond_y rfl aD ?_) | (refine v_cond_n rfl aD ?_) | (refine v_condt rfl (fun h => ?_) (fun h => ?_) <;> (have h' := h; (try simp only [sx] at h')))))
      | (refine q_then ?_) | (refine q_then_r ?_) | (refine q_then_e ?_) | (refine q_blk_n ?_) | (refine q_blk_r ?_) | (refine q_blk_e ?_) | (refine q_blk_o rfl ?_) | (refine q_loop_r ?_) | (refine q_loop_e ?_) | (refine ret_n ?_))
    all_goals first
      | (exfalso; omega)
      | exact ret_iL rfl rfl ⟨⟨rfl, rfl, fun h => by cases h⟩, trivial⟩ rfl
theorem k_pick (c : Cu) (n : Int) (hc : c.Ok) (hp : c.pos + 2 ≤ 1152921504606846976) (hn : n ≤ 1000000000) : ∃ (r : Int) (c' : Cu), Dr 77 [.int .i64 n] c (.int .i64 r) c' ∧ Aft c c' 2 ∧ 0 ≤ r ∧ (1 ≤ n → r < n) ∧ (n ≤ 1 → r = 0) := by
  by_cases h1 : n ≤ 1
  · refine ⟨0, c, ?_, (Aft.refl c).le aO, by omega, by omega, by omega⟩
    refine contract_of hmix Try.func77 rfl (by kernel_rfl) (by kernel_rfl) (Nat.le_of_ble_eq_true rfl) (fun row h => by (simp only [List.mem_cons, List.not_mem_nil, or_false] at h; first | (subst h; (first | exact .inl rfl | exact .inr (fun e he u hu => by (simp only [List.mem_cons, List.not_mem_nil, or_false] at he; subst he; simp only [List.mem_cons, List.not_mem_nil, or_false] at hu; subst hu; rfl)))) | (rcases h with rfl | rfl <;> (first | exact .inl rfl | exact .inr (fun e he u hu => by (simp only [List.mem_cons, List.not_mem_nil, or_false] at he; subst he; simp only [List.mem_cons, List.not_mem_nil, or_false] at hu; subst hu; rfl)))) | (rcases h with rfl | rfl | rfl <;> (first | exact .inl rfl | exact .inr (fun e he u hu => by (simp only [List.mem_cons, List.not_mem_nil, or_false] at he; subst he; simp only [List.mem_cons, List.not_mem_nil, or_false] at hu; subst hu; rfl)))) | (rcases h with rfl | rfl | rfl | rfl <;> (first | exact .inl rfl | exact .inr (fun e he u hu => by (simp only [List.mem_cons, List.not_mem_nil, or_false] at he; subst he; simp only [List.mem_cons, List.not_mem_nil, or_false] at hu; subst hu; rfl)))))) ?_
    repeat' (first
      | (refine g_exec ?_; first | (refine g_move ?_; refine x_moveO _ rfl ?_) | (refine g_assign ?_; refine x_assignO _ rfl ?_) | (refine g_bin ?_; first | (refine x_add rfl rfl aO ?_) | (refine x_mul rfl rfl aO ?_) | (refine x_rem rfl rfl aO ?_) | (refine x_remT rfl rfl aO ?_) | (refine x_bin _ rfl rfl rfl ?_) | (refine x_strBin _ rfl rfl rfl ?_)) | (refine x_nil (hK _ _ (.inl rfl) ?_); clear hK K) | (refine x_nil (hK _ _ (.inr (by kernel_rfl)) ?_); clear hK K))
      | (refine g_code ?_; first | (refine v_seq ?_) | (refine v_region (fun K hK => ?_)) | (refine v_block ?_) | (refine v_skip ?_) | (refine v_ret ?_) | (refine v_exit ?_) | (refine g_cond ?_; first | (refine v_cond_y rfl aD ?_) | (refine v_cond_n rfl aD ?_) | (refine v_condt rfl (fun h => ?_) (fun h => ?_) <;> (have h' := h; (try simp only [sx] at h')))))
      | (refine q_then ?_) | (refine q_then_r ?_) | (refine q_then_e ?_) | (refine q_blk_n ?_) | (refine q_blk_r ?_) | (refine q_blk_e ?_) | (refine q_blk_o rfl ?_) | (refine q_loop_r ?_) | (refine q_loop_e ?_) | (refine ret_n ?_))
    all_goals first
      | (exfalso; omega)
      | exact ret_iL rfl rfl ⟨⟨rfl, rfl, fun h => by cases h⟩, trivial⟩ rfl
  · obtain ⟨r1, c1, k1, a1, b1, b2⟩ := k_next c hc aO
    by_cases h2 : n > 200
    · obtain ⟨r2, c2, k2, a2, b3, b4⟩ := k_next c1 (a1.ok hc aO) (by have := a1.pos; omega)
      refine ⟨(r1 * 256 + r2) % n, c2, ?_, (a1.trans a2).le aO, Int.emod_nonneg _ aO, fun _ => Int.emod_lt_of_pos _ aO, fun h => by omega⟩
      refine contract_of hmix Try.func77 rfl (by kernel_rfl) (by kernel_rfl) (Nat.le_of_ble_eq_true rfl) (fun row h => by (simp only [List.mem_cons, List.not_mem_nil, or_false] at h; first | (subst h; (first | exact .inl rfl | exact .inr (fun e he u hu => by (simp only [List.mem_cons, List.not_mem_nil, or_false] at he; subst he; simp only [List.mem_cons, List.not_mem_nil, or_false] at hu; subst hu; rfl)))) | (rcases h with rfl | rfl <;> (first | exact .inl rfl | exact .inr (fun e he u hu => by (simp only [List.mem_cons, List.not_mem_nil, or_false] at he; subst he; simp only [List.mem_cons, List.not_mem_nil, or_false] at hu; subst hu; rfl)))) | (rcases h with rfl | rfl | rfl <;> (first | exact .inl rfl | exact .inr (fun e he u hu => by (simp only [List.mem_cons, List.not_mem_nil, or_false] at he; subst he; simp only [List.mem_cons, List.not_mem_nil, or_false] at hu; subst hu; rfl)))) | (rcases h with rfl | rfl | rfl | rfl <;> (first | exact .inl rfl | exact .inr (fun e he u hu => by (simp only [List.mem_cons, List.not_mem_nil, or_false] at he; subst he; simp only [List.mem_cons, List.not_mem_nil, or_false] at hu; subst hu; rfl)))))) ?_
      repeat' (first
      | (refine g_exec ?_; first | (refine g_move ?_; refine x_moveO _ rfl ?_) | (refine g_assign ?_; refine x_assignO _ rfl ?_) | (refine g_bin ?_; first | (refine x_add rfl rfl aO ?_) | (refine x_mul rfl rfl aO ?_) | (refine x_rem rfl rfl aO ?_) | (refine x_remT rfl rfl aO ?_) | (refine x_bin _ rfl rfl rfl ?_) | (refine x_strBin _ rfl rfl rfl ?_)) | (refine g_call ?_; first | (refine x_callL [(io, 0)] (k1) rfl rfl (by (repeat' (first | exact trivial | refine ⟨⟨_, rfl, ?_⟩, ?_⟩ | exact .inl ⟨rfl, .inl rfl⟩ | exact .inr ⟨rfl, rfl, rfl, rfl, rfl, fun e he u hu => by (simp only [List.mem_cons, List.not_mem_nil, or_false] at he; subst he; simp only [List.mem_cons, List.not_mem_nil, or_false] at hu; subst hu; rfl)⟩ | exact .inl ⟨rfl, .inr (fun e he => by (simp only [List.mem_cons, List.not_mem_nil, or_false] at he; subst he; rfl))⟩ | fail)); first | done | fail) rfl rfl aS rfl aH rfl ?_; simp only [cl]) | (refine x_callL [(io, 0)] (k2) rfl rfl (by (repeat' (first | exact trivial | refine ⟨⟨_, rfl, ?_⟩, ?_⟩ | exact .inl ⟨rfl, .inl rfl⟩ | exact .inr ⟨rfl, rfl, rfl, rfl, rfl, fun e he u hu => by (simp only [List.mem_cons, List.not_mem_nil, or_false] at he; subst he; simp only [List.mem_cons, List.not_mem_nil, or_false] at hu; subst hu; rfl)⟩ | exact .inl ⟨rfl, .inr (fun e he => by (simp only [List.mem_cons, List.not_mem_nil, or_false] at he; subst he; rfl))⟩ | fail)); first | done | fail) rfl rfl aS rfl aH rfl ?_; simp only [cl])) | (refine x_nil (hK _ _ (.inl rfl) ?_); clear hK K) | (refine x_nil (hK _ _ (.inr (by kernel_rfl)) ?_); clear hK K))
      | (refine g_code ?_; first | (refine v_seq ?_) | (refine v_region (fun K hK => ?_)) | (refine v_block ?_) | (refine v_skip ?_) | (refine v_ret ?_) | (refine v_exit ?_) | (refine g_cond ?_; first | (refine v_cond_y rfl aD ?_) | (refine v_cond_n rfl aD ?_) | (refine v_condt rfl (fun h => ?_) (fun h => ?_) <;> (have h' := h; (try simp only [sx] at h')))))
      | (refine q_then ?_) | (refine q_then_r ?_) | (refine q_then_e ?_) | (refine q_blk_n ?_) | (refine q_blk_r ?_) | (refine q_blk_e ?_) | (refine q_blk_o rfl ?_) | (refine q_loop_r ?_) | (refine q_loop_e ?_) | (refine ret_n ?_))
      all_goals first
        | (exfalso; omega)
        | exact ret_iL rfl rfl ⟨⟨rfl, rfl, fun h => by cases h⟩, trivial⟩ rfl
    · refine ⟨r1 % n, c1, ?_, a1.le aO, Int.emod_nonneg _ aO, fun _ => Int.emod_lt_of_pos _ aO, fun h => by omega⟩
      refine contract_of hmix Try.func77 rfl (by kernel_rfl) (by kernel_rfl) (Nat.le_of_ble_eq_true rfl) (fun row h => by (simp only [List.mem_cons, List.not_mem_nil, or_false] at h; first | (subst h; (first | exact .inl rfl | exact .inr (fun e he u hu => by (simp only [List.mem_cons, List.not_mem_nil, or_false] at he; subst he; simp only [List.mem_cons, List.not_mem_nil, or_false] at hu; subst hu; rfl)))) | (rcases h with rfl | rfl <;> (first | exact .inl rfl | exact .inr (fun e he u hu => by (simp only [List.mem_cons, List.not_mem_nil, or_false] at he; subst he; simp only [List.mem_cons, List.not_mem_nil, or_false] at hu; subst hu; rfl)))) | (rcases h with rfl | rfl | rfl <;> (first | exact .inl rfl | exact .inr (fun e he u hu => by (simp only [List.mem_cons, List.not_mem_nil, or_false] at he; subst he; simp only [List.mem_cons, List.not_mem_nil, or_false] at hu; subst hu; rfl)))) | (rcases h with rfl | rfl | rfl | rfl <;> (first | exact .inl rfl | exact .inr (fun e he u hu => by (simp only [List.mem_cons, List.not_mem_nil, or_false] at he; subst he; simp only [List.mem_cons, List.not_mem_nil, or_false] at hu; subst hu; rfl)))))) ?_
      repeat' (first
      | (refine g_exec ?_; first | (refine g_move ?_; refine x_moveO _ rfl ?_) | (refine g_assign ?_; refine x_assignO _ rfl ?_) | (refine g_bin ?_; first | (refine x_add rfl rfl aO ?_) | (refine x_mul rfl rfl aO ?_) | (refine x_rem rfl rfl aO ?_) | (refine x_remT rfl rfl aO ?_) | (refine x_bin _ rfl rfl rfl ?_) | (refine x_strBin _ rfl rfl rfl ?_)) | (refine g_call ?_; refine x_callL [(io, 0)] (k1) rfl rfl (by (repeat' (first | exact trivial | refine ⟨⟨_, rfl, ?_⟩, ?_⟩ | exact .inl ⟨rfl, .inl rfl⟩ | exact .inr ⟨rfl, rfl, rfl, rfl, rfl, fun e he u hu => by (simp only [List.mem_cons, List.not_mem_nil, or_false] at he; subst he; simp only [List.mem_cons, List.not_mem_nil, or_false] at hu; subst hu; rfl)⟩ | exact .inl ⟨rfl, .inr (fun e he => by (simp only [List.mem_cons, List.not_mem_nil, or_false] at he; subst he; rfl))⟩ | fail)); first | done | fail) rfl rfl aS rfl aH rfl ?_; simp only [cl]) | (refine x_nil (hK _ _ (.inl rfl) ?_); clear hK K) | (refine x_nil (hK _ _ (.inr (by kernel_rfl)) ?_); clear hK K))
      | (refine g_code ?_; first | (refine v_seq ?_) | (refine v_region (fun K hK => ?_)) | (refine v_block ?_) | (refine v_skip ?_) | (refine v_ret ?_) | (refine v_exit ?_) | (refine g_cond ?_; first | (refine v_cond_y rfl aD ?_) | (refine v_cond_n rfl aD ?_) | (refine v_condt rfl (fun h => ?_) (fun h => ?_) <;> (have h' := h; (try simp only [sx] at h')))))
      | (refine q_then ?_) | (refine q_then_r ?_) | (refine q_then_e ?_) | (refine q_blk_n ?_) | (refine q_blk_r ?_) | (refine q_blk_e ?_) | (refine q_blk_o rfl ?_) | (refine q_loop_r ?_) | (refine q_loop_e ?_) | (refine ret_n ?_))
      all_goals first
        | (exfalso; omega)
        | exact ret_iL rfl rfl ⟨⟨rfl, rfl, fun h => by cases h⟩, trivial⟩ rfl
theorem k_one (c : Cu) (n : Int) (hc : c.Ok) (hp : c.pos + 2 ≤ 1152921504606846976) (hn : n ≤ 1000000000) : ∃ (b : Bool) (c' : Cu), Dr 116 [.int .i64 n] c (.bool b) c' ∧ Aft c c' 2 := by
  obtain ⟨r, c1, k1, a1, b1, b2⟩ := k_pick c n hc hp hn
  refine ⟨r == 0, c1, ?_, a1⟩
  refine contract_of hmix Try.func116 rfl (by kernel_rfl) (by kernel_rfl) (Nat.le_of_ble_eq_true rfl) (fun row h => by (simp only [List.mem_cons, List.not_mem_nil, or_false] at h; first | (subst h; (first | exact .inl rfl | exact .inr (fun e he u hu => by (simp only [List.mem_cons, List.not_mem_nil, or_false] at he; subst he; simp only [List.mem_cons, List.not_mem_nil, or_false] at hu; subst hu; rfl)))) | (rcases h with rfl | rfl <;> (first | exact .inl rfl | exact .inr (fun e he u hu => by (simp only [List.mem_cons, List.not_mem_nil, or_false] at he; subst he; simp only [List.mem_cons, List.not_mem_nil, or_false] at hu; subst hu; rfl)))) | (rcases h with rfl | rfl | rfl <;> (first | exact .inl rfl | exact .inr (fun e he u hu => by (simp only [List.mem_cons, List.not_mem_nil, or_false] at he; subst he; simp only [List.mem_cons, List.not_mem_nil, or_false] at hu; subst hu; rfl)))) | (rcases h with rfl | rfl | rfl | rfl <;> (first | exact .inl rfl | exact .inr (fun e he u hu => by (simp only [List.mem_cons, List.not_mem_nil, or_false] at he; subst he; simp only [List.mem_cons, List.not_mem_nil, or_false] at hu; subst hu; rfl)))))) ?_
  repeat' (first
      | (refine g_exec ?_; first | (refine g_move ?_; refine x_moveO _ rfl ?_) | (refine g_assign ?_; refine x_assignO _ rfl ?_) | (refine g_bin ?_; first | (refine x_bin _ rfl rfl rfl ?_) | (refine x_boolEq aA rfl rfl ?_) | (refine x_strBin _ rfl rfl rfl ?_)) | (refine g_call ?_; refine x_callL [(io, 0)] (k1) rfl rfl (by (repeat' (first | exact trivial | refine ⟨⟨_, rfl, ?_⟩, ?_⟩ | exact .inl ⟨rfl, .inl rfl⟩ | exact .inr ⟨rfl, rfl, rfl, rfl, rfl, fun e he u hu => by (simp only [List.mem_cons, List.not_mem_nil, or_false] at he; subst he; simp only [List.mem_cons, List.not_mem_nil, or_false] at hu; subst hu; rfl)⟩ | exact .inl ⟨rfl, .inr (fun e he => by (simp only [List.mem_cons, List.not_mem_nil, or_false] at he; subst he; rfl))⟩ | fail)); first | done | fail) rfl rfl aS rfl aH rfl ?_; simp only [cl]) | (refine x_nil (hK _ _ (.inl rfl) ?_); clear hK K) | (refine x_nil (hK _ _ (.inr (by kernel_rfl)) ?_); clear hK K))
      | (refine g_code ?_; first | (refine v_seq ?_) | (refine v_region (fun K hK => ?_)) | (refine v_block ?_) | (refine v_skip ?_) | (refine v_ret ?_) | (refine v_exit ?_))
      | (refine q_then ?_) | (refine q_then_r ?_) | (refine q_then_e ?_) | (refine q_blk_n ?_) | (refine q_blk_r ?_) | (refine q_blk_e ?_) | (refine q_blk_o rfl ?_) | (refine q_loop_r ?_) | (refine q_loop_e ?_) | (refine ret_n ?_))
  all_goals exact ret_bL rfl rfl ⟨⟨rfl, rfl, fun h => by cases h⟩, trivial⟩ rfl
theorem k_among (c : Cu) (l : List Int) (hc : c.Ok) (hp : c.pos + 2 ≤ 1152921504606846976) (hl : 1 ≤ l.length ∧ l.length ≤ 1000000) : ∃ (x : Int) (c' : Cu), Dr 76 [.list 1 (ints l)] c (.int .i64 x) c' ∧ Aft c c' 2 ∧ x ∈ l := by
  obtain ⟨r, c1, k1, a1, b1, b2, b3⟩ := k_pick c l.length hc hp aO
  have b2 := b2 aO
  obtain ⟨x, hx⟩ := get_ex (show r.toNat < l.length by omega)
  have hy := ints_at hx
  have hl1 : (ints l).length = l.length := by simp
  rw [← hl1] at k1
  refine ⟨x, c1, ?_, a1, get_mem hx⟩
  refine contract_of hmix Try.func76 rfl (by kernel_rfl) (by kernel_rfl) (Nat.le_of_ble_eq_true rfl) (fun row h => by (simp only [List.mem_cons, List.not_mem_nil, or_false] at h; first | (subst h; (first | exact .inl rfl | exact .inr (fun e he u hu => by (simp only [List.mem_cons, List.not_mem_nil, or_false] at he; subst he; simp only [List.mem_cons, List.not_mem_nil, or_false] at hu; subst hu; rfl)))) | (rcases h with rfl | rfl <;> (first | exact .inl rfl | exact .inr (fun e he u hu => by (simp only [List.mem_cons, List.not_mem_nil, or_false] at he; subst he; simp only [List.mem_cons, List.not_mem_nil, or_false] at hu; subst hu; rfl)))) | (rcases h with rfl | rfl | rfl <;> (first | exact .inl rfl | exact .inr (fun e he u hu => by (simp only [List.mem_cons, List.not_mem_nil, or_false] at he; subst he; simp only [List.mem_cons, List.not_mem_nil, or_false] at hu; subst hu; rfl)))) | (rcases h with rfl | rfl | rfl | rfl <;> (first | exact .inl rfl | exact .inr (fun e he u hu => by (simp only [List.mem_cons, List.not_mem_nil, or_false] at he; subst he; simp only [List.mem_cons, List.not_mem_nil, or_false] at hu; subst hu; rfl)))))) ?_
  have hty_u33 := ty_u33
  have hty_s33 := ty_s33
  have hty_c3 := ty_c3
  repeat' (first
      | (refine g_exec ?_; first | (refine g_move ?_; refine x_moveO _ rfl ?_) | (refine g_assign ?_; refine x_assignO _ rfl ?_) | (refine g_load ?_; first | (refine x_load_pc aA rfl ?_) | (refine x_load_oc _ aA rfl rfl aE rfl ?_) | (refine x_load_pa _ aA rfl aZ aL ?_) | (refine x_load_oa _ aA rfl rfl aE aZ aL ?_)) | (refine g_index ?_; first | (refine x_index_l _ aA rfl rfl aO aA ?_) | (refine x_index_o _ aA rfl rfl rfl rfl aO aO (by first | (rw [Nat.zero_add, Int.toNat_natCast]) | (rw [Nat.zero_add]) | rfl) ?_)) | (refine g_call ?_; first | (refine x_callL [(io, 0)] (k1) rfl rfl (by (repeat' (first | exact trivial | refine ⟨⟨_, rfl, ?_⟩, ?_⟩ | exact .inl ⟨rfl, .inl rfl⟩ | exact .inr ⟨rfl, rfl, rfl, rfl, rfl, fun e he u hu => by (simp only [List.mem_cons, List.not_mem_nil, or_false] at he; subst he; simp only [List.mem_cons, List.not_mem_nil, or_false] at hu; subst hu; rfl)⟩ | exact .inl ⟨rfl, .inr (fun e he => by (simp only [List.mem_cons, List.not_mem_nil, or_false] at he; subst he; rfl))⟩ | fail)); first | done | fail) rfl rfl aS rfl aH rfl ?_; simp only [cl]) | (refine x_len_l aA rfl ?_) | (refine x_len_o aA rfl rfl ?_) | (refine x_len_n aA rfl ?_) | (refine x_len_s aA (evO_ok rfl) ?_)) | (refine x_nil (hK _ _ (.inl rfl) ?_); clear hK K) | (refine x_nil (hK _ _ (.inr (by kernel_rfl)) ?_); clear hK K))
      | (refine g_code ?_; first | (refine v_seq ?_) | (refine v_region (fun K hK => ?_)) | (refine v_block ?_) | (refine v_skip ?_) | (refine v_ret ?_) | (refine v_exit ?_))
      | (refine q_then ?_) | (refine q_then_r ?_) | (refine q_then_e ?_) | (refine q_blk_n ?_) | (refine q_blk_r ?_) | (refine q_blk_e ?_) | (refine q_blk_o rfl ?_) | (refine q_loop_r ?_) | (refine q_loop_e ?_) | (refine ret_n ?_))
  all_goals first
    | (exfalso; omega)
    | exact ret_iL rfl rfl ⟨⟨rfl, rfl, fun h => by cases h⟩, trivial⟩ rfl
@[reducible] def cu0 (code : List Int) : Cu := ⟨code, 0, 0⟩
structure CodeOk (code : List Int) : Prop where
  len : code.length ≤ 1099511627776
  byte : ∀ b ∈ code, 0 ≤ b ∧ b ≤ 255
theorem cu0_ok {code : List Int} (h : CodeOk code) : (cu0 code).Ok := ⟨h.byte, h.len, by simp⟩
end Go.Vs
set_option linter.unusedVariables false
set_option linter.unusedSimpArgs false
set_option maxRecDepth 100000
set_option maxHeartbeats 4000000
namespace Go.Vs
open Go.Proofs
attribute [local irreducible] exec vwp thenQ blkQ loopQ RetPost
structure Asset where
  (id : Int)
  (name : ByteArray)
  (worth : Int)
  (loss : Int)
  deriving DecidableEq
@[reducible] def Asset.pv (c : Asset) : List PV := [.int .i64 c.id, .str c.name, .int .i64 c.worth, .int .i64 c.loss]
theorem Asset.at {xs : List Asset} {i : Nat} {a : Asset} (h : xs[i]? = some a) : (xs.map Asset.pv)[i]? = some [.int .i64 a.id, .str a.name, .int .i64 a.worth, .int .i64 a.loss] := by simp [h]
theorem Asset.flat (xs : List Asset) : ∀ e ∈ xs.map Asset.pv, ∀ c ∈ e, c.flat = true := by
  intro e he c hc
  obtain ⟨a, _, rfl⟩ := List.mem_map.1 he
  simp only [Asset.pv, List.mem_cons, List.not_mem_nil, or_false] at hc
  rcases hc with rfl | rfl | rfl | rfl <;> rfl
end Go.Vs
set_option linter.unusedVariables false
set_option linter.unusedSimpArgs false
set_option maxRecDepth 100000
set_option maxHeartbeats 4000000
namespace Go.Vs
open Go.Proofs
attribute [local irreducible] exec vwp thenQ blkQ loopQ RetPost
structure Scene where
  (weight : Int)
  (burned : List Int)
  deriving DecidableEq
@[reducible] def Scene.pv (s : Scene) : List PV := [.int .i64 s.weight, .list 1 (ints s.burned)]
theorem Scene.at {xs : List Scene} {i : Nat} {a : Scene} (h : xs[i]? = some a) : (xs.map Scene.pv)[i]? = some [.int .i64 a.weight, .list 1 (ints a.burned)] := by simp [h]
end Go.Vs
set_option linter.unusedVariables false
set_option linter.unusedSimpArgs false
set_option maxRecDepth 100000
set_option maxHeartbeats 4000000
namespace Go.Vs
open Go.Proofs
attribute [local irreducible] exec vwp thenQ blkQ loopQ RetPost
theorem k_IndexFuncAsset (xs : List Asset) (g : FuncId) (ca : List (List PV)) (p : Asset → Bool) (hg : ∀ a ∈ xs, Con Try.prog g (.agg a.pv :: ca.map PV.ptr) (.bool (p a))) (hn : xs.length ≤ 1099511627776) :
    Con Try.prog 111 [.list 4 (xs.map Asset.pv), .fn g [] (ca.map PV.ptr)] (.int .i64 (idx p xs)) := by
  intro al
  refine contract_of hmix Try.func111 rfl (by kernel_rfl) (by kernel_rfl) (Nat.le_of_ble_eq_true rfl) (fun row h => by cases h) ?_
  have hty_u24 := ty_u24
  have hty_s24 := ty_s24
  have hty_a38 := ty_a38
  have hl1 : (xs.map Asset.pv).length = xs.length := by simp
  repeat' (first
      | (refine g_exec ?_; first | (refine g_move ?_; refine x_moveO _ rfl ?_) | (refine g_assign ?_; refine x_assignO _ rfl ?_) | (refine g_bin ?_; first | (refine x_add rfl rfl aO ?_) | (refine x_bin _ rfl rfl rfl ?_) | (refine x_strBin _ rfl rfl rfl ?_)) | (refine g_load ?_; first | (refine x_load_pc aA rfl ?_) | (refine x_load_oc _ aA rfl rfl aE rfl ?_) | (refine x_load_pa _ aA rfl aZ aL ?_) | (refine x_load_oa _ aA rfl rfl aE aZ aL ?_)) | (refine g_index ?_; first | (refine x_index_l _ aA rfl rfl aO aA ?_) | (refine x_index_o _ aA rfl rfl rfl rfl aO aO (by first | (rw [Nat.zero_add, Int.toNat_natCast]) | (rw [Nat.zero_add]) | rfl) ?_)) | (refine g_call ?_; first | (refine x_len_l aA rfl ?_) | (refine x_len_o aA rfl rfl ?_) | (refine x_len_n aA rfl ?_) | (refine x_len_s aA (evO_ok rfl) ?_)) | (refine x_nil (hK _ _ (.inl rfl) ?_); clear hK K) | (refine x_nil (hK _ _ (.inr (by kernel_rfl)) ?_); clear hK K))
      | (refine g_code ?_; first | (refine v_seq ?_) | (refine v_region (fun K hK => ?_)) | (refine v_block ?_) | (refine v_skip ?_) | (refine v_ret ?_) | (refine v_exit ?_) | (refine g_cond ?_; first | (refine v_cond_y rfl aD ?_) | (refine v_cond_n rfl aD ?_) | (refine v_condt rfl (fun h => ?_) (fun h => ?_) <;> (have h' := h; (try simp only [sx] at h')))))
      | (refine q_then ?_) | (refine q_then_r ?_) | (refine q_then_e ?_) | (refine q_blk_n ?_) | (refine q_blk_r ?_) | (refine q_blk_e ?_) | (refine q_blk_o rfl ?_) | (refine q_loop_r ?_) | (refine q_loop_e ?_) | (refine ret_n ?_))
  refine v_loopK [0, 1, 7] [] (fun i : Nat => [(8, .int .i64 i)]) (fun i : Nat => []) (fun i : Nat => i ≤ xs.length ∧ ∀ j, j < i → ∀ c, xs[j]? = some c → p c = false) (fun i : Nat => xs.length - i) (0) rfl rfl (fun _ => rfl) (fun _ => rfl) rfl (by refine ⟨?_, ?_, rfl, rfl⟩ <;> (repeat' (first | exact trivial | exact ⟨rfl, rfl⟩ | exact rfl | exact ⟨sub_fn, refs_fn⟩ | refine ⟨⟨rfl, rfl⟩, ?_⟩ | refine ⟨⟨sub_fn, refs_fn⟩, ?_⟩ | refine ⟨⟨rfl, fun h => Bool.noConfusion h⟩, ?_⟩ | refine ⟨⟨rfl, fun h => ?_⟩, ?_⟩ | refine ⟨rfl, ?_⟩ | refine ⟨?_, ?_⟩ | fail))) ⟨by omega, fun j hj => by omega⟩ (fun i hi => ?_)
  obtain ⟨hi1, hi2⟩ := hi
  rcases Nat.lt_or_ge i xs.length with hlt | hge
  · obtain ⟨a, hga⟩ := get_ex hlt
    have hx := Asset.at hga
    have kg := hg a (get_mem hga)
    repeat' (first
      | (refine g_exec ?_; first | (refine g_move ?_; refine x_moveO _ rfl ?_) | (refine g_assign ?_; refine x_assignO _ rfl ?_) | (refine g_bin ?_; first | (refine x_add rfl rfl aO ?_) | (refine x_bin _ rfl rfl rfl ?_) | (refine x_strBin _ rfl rfl rfl ?_)) | (refine g_load ?_; first | (refine x_load_pc aA rfl ?_) | (refine x_load_oc _ aA rfl rfl aE rfl ?_) | (refine x_load_pa _ aA rfl aZ aL ?_) | (refine x_load_oa _ aA rfl rfl aE aZ aL ?_)) | (refine g_index ?_; first | (refine x_index_l _ aA rfl rfl aO aA ?_) | (refine x_index_o _ aA rfl rfl rfl rfl aO aO (by first | (rw [Nat.zero_add, Int.toNat_natCast]) | (rw [Nat.zero_add]) | rfl) ?_)) | (refine g_call ?_; first | (refine x_callG true (kg) rfl rfl rfl aS rfl aH ?_; simp only [cl]) | (refine x_call [] _ (kg) rfl rfl aS rfl aH ?_; simp only [cl]) | (refine x_len_l aA rfl ?_) | (refine x_len_o aA rfl rfl ?_) | (refine x_len_n aA rfl ?_) | (refine x_len_s aA (evO_ok rfl) ?_)) | (refine x_nil (hK _ _ (.inl rfl) ?_); clear hK K) | (refine x_nil (hK _ _ (.inr (by kernel_rfl)) ?_); clear hK K))
      | (refine g_code ?_; first | (refine v_seq ?_) | (refine v_region (fun K hK => ?_)) | (refine v_block ?_) | (refine v_skip ?_) | (refine v_ret ?_) | (refine v_exit ?_) | (refine g_cond ?_; first | (refine v_cond_y rfl aD ?_) | (refine v_cond_n rfl aD ?_) | (refine v_condt rfl (fun h => ?_) (fun h => ?_) <;> (have h' := h; (try simp only [sx] at h')))))
      | (refine q_then ?_) | (refine q_then_r ?_) | (refine q_then_e ?_) | (refine q_blk_n ?_) | (refine q_blk_r ?_) | (refine q_blk_e ?_) | (refine q_blk_o rfl ?_) | (refine q_loop_r ?_) | (refine q_loop_e ?_) | (refine ret_n ?_))
    · exact ret_int rfl (lookE_ok rfl) (idx_some hi2 hga aA).symm
    · refine q_next (i + 1) rfl (by refine ⟨?_, ?_, rfl, rfl⟩ <;> (repeat' (first | exact trivial | exact ⟨rfl, rfl⟩ | exact rfl | exact ⟨sub_fn, refs_fn⟩ | refine ⟨⟨rfl, rfl⟩, ?_⟩ | refine ⟨⟨sub_fn, refs_fn⟩, ?_⟩ | refine ⟨⟨rfl, fun h => Bool.noConfusion h⟩, ?_⟩ | refine ⟨⟨rfl, fun h => ?_⟩, ?_⟩ | refine ⟨rfl, ?_⟩ | refine ⟨?_, ?_⟩ | fail))) ⟨by omega, idx_step hi2 hga (by simpa using h)⟩ aO
  · repeat' (first
      | (refine g_exec ?_; first | (refine g_move ?_; refine x_moveO _ rfl ?_) | (refine g_assign ?_; refine x_assignO _ rfl ?_) | (refine g_bin ?_; first | (refine x_add rfl rfl aO ?_) | (refine x_bin _ rfl rfl rfl ?_) | (refine x_strBin _ rfl rfl rfl ?_)) | (refine g_load ?_; first | (refine x_load_pc aA rfl ?_) | (refine x_load_oc _ aA rfl rfl aE rfl ?_) | (refine x_load_pa _ aA rfl aZ aL ?_) | (refine x_load_oa _ aA rfl rfl aE aZ aL ?_)) | (refine g_index ?_; first | (refine x_index_l _ aA rfl rfl aO aA ?_) | (refine x_index_o _ aA rfl rfl rfl rfl aO aO (by first | (rw [Nat.zero_add, Int.toNat_natCast]) | (rw [Nat.zero_add]) | rfl) ?_)) | (refine g_call ?_; first | (refine x_len_l aA rfl ?_) | (refine x_len_o aA rfl rfl ?_) | (refine x_len_n aA rfl ?_) | (refine x_len_s aA (evO_ok rfl) ?_)) | (refine x_nil (hK _ _ (.inl rfl) ?_); clear hK K) | (refine x_nil (hK _ _ (.inr (by kernel_rfl)) ?_); clear hK K))
      | (refine g_code ?_; first | (refine v_seq ?_) | (refine v_region (fun K hK => ?_)) | (refine v_block ?_) | (refine v_skip ?_) | (refine v_ret ?_) | (refine v_exit ?_) | (refine g_cond ?_; first | (refine v_cond_y rfl aD ?_) | (refine v_cond_n rfl aD ?_) | (refine v_condt rfl (fun h => ?_) (fun h => ?_) <;> (have h' := h; (try simp only [sx] at h')))))
      | (refine q_then ?_) | (refine q_then_r ?_) | (refine q_then_e ?_) | (refine q_blk_n ?_) | (refine q_blk_r ?_) | (refine q_blk_e ?_) | (refine q_blk_o rfl ?_) | (refine q_loop_r ?_) | (refine q_loop_e ?_) | (refine ret_n ?_))
    exact ret_int rfl (lookE_ok rfl) (idx_none fun j hj => hi2 j aO).symm
theorem k_copyOfAsset (xs : List Asset) (hn : xs.length ≤ 1099511627776) : Con Try.prog 87 [.list 4 (xs.map Asset.pv)] (.olist 38 4 (xs.map Asset.pv)) := by
  intro al
  refine contract_of hmix Try.func87 rfl (by kernel_rfl) (by kernel_rfl) (Nat.le_of_ble_eq_true rfl) (fun row h => by cases h) ?_
  have hty_s24 := ty_s24
  have hty_u24 := ty_u24
  have hl1 : (xs.map Asset.pv).length = xs.length := by simp
  repeat' (first
      | (refine g_exec ?_; first | (refine g_move ?_; refine x_moveO _ rfl ?_) | (refine g_assign ?_; refine x_assignO _ rfl ?_) | (refine g_call ?_; first | (refine x_appOO _ _ aA rfl (lookM (by rfl)) rfl (lookM (by rfl)) rfl aN ⟨rfl, rfl, by decide, by decide⟩ (by first | rfl | omega | (simp; done) | (simp; omega) | fail) ⟨by first | (simp only [List.length_cons, List.length_nil]; omega) | omega | fail, by decide⟩ rfl (by first | (first | (simp only [lx, Nat.reduceAdd]; first | done | rfl) | fail) | rfl) aP ?_) | (refine x_appCO _ _ aA rfl rfl (lookM (by rfl)) ⟨rfl, by decide⟩ aN (by first | exact Nat.succ_pos _ | omega | (simp; done)) ⟨by first | (simp only [List.length_cons, List.length_nil]; omega) | omega | fail, by decide⟩ rfl rfl aP ?_) | (refine x_appNO _ aA rfl rfl (lookM (by rfl)) ⟨rfl, by decide⟩ aN ⟨by first | (simp only [List.length_cons, List.length_nil]; omega) | omega | fail, by decide⟩ rfl aP ?_) | (refine x_app_ol _ aA rfl rfl rfl ⟨rfl, rfl, rfl, by decide, by decide⟩ (by first | rfl | (simp; done) | fail) ⟨by omega, by decide⟩ rfl aL (by first | (rw [Nat.zero_add]) | rfl) ?_)) | (refine x_buildSliceO aA rfl rfl rfl ?_) | (refine x_nil (hK _ _ (.inl rfl) ?_); clear hK K) | (refine x_nil (hK _ _ (.inr (by kernel_rfl)) ?_); clear hK K))
      | (refine g_code ?_; first | (refine v_seq ?_) | (refine v_region (fun K hK => ?_)) | (refine v_block ?_) | (refine v_skip ?_) | (refine v_ret ?_) | (refine v_exit ?_))
      | (refine q_then ?_) | (refine q_then_r ?_) | (refine q_then_e ?_) | (refine q_blk_n ?_) | (refine q_blk_r ?_) | (refine q_blk_e ?_) | (refine q_blk_o rfl ?_) | (refine q_loop_r ?_) | (refine q_loop_e ?_) | (refine ret_n ?_))
  exact ret_list rfl (lookE_ok (by rfl)) (by rfl) (by decide) rfl (Asset.flat xs) rfl
end Go.Vs
set_option linter.unusedVariables false
set_option linter.unusedSimpArgs false
set_option maxRecDepth 100000
set_option maxHeartbeats 4000000
namespace Go.Vs
open Go.Proofs
attribute [local irreducible] exec vwp thenQ blkQ loopQ RetPost
theorem k_IndexFuncScene (xs : List Scene) (g : FuncId) (ca : List (List PV)) (p : Scene → Bool) (hg : ∀ a ∈ xs, Con Try.prog g (.agg a.pv :: ca.map PV.ptr) (.bool (p a))) (hn : xs.length ≤ 1099511627776) :
    Con Try.prog 126 [.list 2 (xs.map Scene.pv), .fn g [] (ca.map PV.ptr)] (.int .i64 (idx p xs)) := by
  intro al
  refine contract_of hmix Try.func126 rfl (by kernel_rfl) (by kernel_rfl) (Nat.le_of_ble_eq_true rfl) (fun row h => by cases h) ?_
  have hty_u25 := ty_u25
  have hty_s25 := ty_s25
  have hty_a35 := ty_a35
  have hl1 : (xs.map Scene.pv).length = xs.length := by simp
  repeat' (first
      | (refine g_exec ?_; first | (refine g_move ?_; refine x_moveO _ rfl ?_) | (refine g_assign ?_; refine x_assignO _ rfl ?_) | (refine g_bin ?_; first | (refine x_add rfl rfl aO ?_) | (refine x_bin _ rfl rfl rfl ?_) | (refine x_strBin _ rfl rfl rfl ?_)) | (refine g_load ?_; first | (refine x_load_pc aA rfl ?_) | (refine x_load_oc _ aA rfl rfl aE rfl ?_) | (refine x_load_pa _ aA rfl aZ aL ?_) | (refine x_load_oa _ aA rfl rfl aE aZ aL ?_)) | (refine g_index ?_; first | (refine x_index_l _ aA rfl rfl aO aA ?_) | (refine x_index_o _ aA rfl rfl rfl rfl aO aO (by first | (rw [Nat.zero_add, Int.toNat_natCast]) | (rw [Nat.zero_add]) | rfl) ?_)) | (refine g_call ?_; first | (refine x_len_l aA rfl ?_) | (refine x_len_o aA rfl rfl ?_) | (refine x_len_n aA rfl ?_) | (refine x_len_s aA (evO_ok rfl) ?_)) | (refine x_nil (hK _ _ (.inl rfl) ?_); clear hK K) | (refine x_nil (hK _ _ (.inr (by kernel_rfl)) ?_); clear hK K))
      | (refine g_code ?_; first | (refine v_seq ?_) | (refine v_region (fun K hK => ?_)) | (refine v_block ?_) | (refine v_skip ?_) | (refine v_ret ?_) | (refine v_exit ?_) | (refine g_cond ?_; first | (refine v_cond_y rfl aD ?_) | (refine v_cond_n rfl aD ?_) | (refine v_condt rfl (fun h => ?_) (fun h => ?_) <;> (have h' := h; (try simp only [sx] at h')))))
      | (refine q_then ?_) | (refine q_then_r ?_) | (refine q_then_e ?_) | (refine q_blk_n ?_) | (refine q_blk_r ?_) | (refine q_blk_e ?_) | (refine q_blk_o rfl ?_) | (refine q_loop_r ?_) | (refine q_loop_e ?_) | (refine ret_n ?_))
  refine v_loopK [0, 1, 7] [] (fun i : Nat => [(8, .int .i64 i)]) (fun i : Nat => []) (fun i : Nat => i ≤ xs.length ∧ ∀ j, j < i → ∀ c, xs[j]? = some c → p c = false) (fun i : Nat => xs.length - i) (0) rfl rfl (fun _ => rfl) (fun _ => rfl) rfl (by refine ⟨?_, ?_, rfl, rfl⟩ <;> (repeat' (first | exact trivial | exact ⟨rfl, rfl⟩ | exact rfl | exact ⟨sub_fn, refs_fn⟩ | refine ⟨⟨rfl, rfl⟩, ?_⟩ | refine ⟨⟨sub_fn, refs_fn⟩, ?_⟩ | refine ⟨⟨rfl, fun h => Bool.noConfusion h⟩, ?_⟩ | refine ⟨⟨rfl, fun h => ?_⟩, ?_⟩ | refine ⟨rfl, ?_⟩ | refine ⟨?_, ?_⟩ | fail))) ⟨by omega, fun j hj => by omega⟩ (fun i hi => ?_)
  obtain ⟨hi1, hi2⟩ := hi
  rcases Nat.lt_or_ge i xs.length with hlt | hge
  · obtain ⟨a, hga⟩ := get_ex hlt
    have hx := Scene.at hga
    have kg := hg a (get_mem hga)
    repeat' (first
      | (refine g_exec ?_; first | (refine g_move ?_; refine x_moveO _ rfl ?_) | (refine g_assign ?_; refine x_assignO _ rfl ?_) | (refine g_bin ?_; first | (refine x_add rfl rfl aO ?_) | (refine x_bin _ rfl rfl rfl ?_) | (refine x_strBin _ rfl rfl rfl ?_)) | (refine g_load ?_; first | (refine x_load_pc aA rfl ?_) | (refine x_load_oc _ aA rfl rfl aE rfl ?_) | (refine x_load_pa _ aA rfl aZ aL ?_) | (refine x_load_oa _ aA rfl rfl aE aZ aL ?_)) | (refine g_index ?_; first | (refine x_index_l _ aA rfl rfl aO aA ?_) | (refine x_index_o _ aA rfl rfl rfl rfl aO aO (by first | (rw [Nat.zero_add, Int.toNat_natCast]) | (rw [Nat.zero_add]) | rfl) ?_)) | (refine g_call ?_; first | (refine x_callG true (kg) rfl rfl rfl aS rfl aH ?_; simp only [cl]) | (refine x_call [] _ (kg) rfl rfl aS rfl aH ?_; simp only [cl]) | (refine x_len_l aA rfl ?_) | (refine x_len_o aA rfl rfl ?_) | (refine x_len_n aA rfl ?_) | (refine x_len_s aA (evO_ok rfl) ?_)) | (refine x_nil (hK _ _ (.inl rfl) ?_); clear hK K) | (refine x_nil (hK _ _ (.inr (by kernel_rfl)) ?_); clear hK K))
      | (refine g_code ?_; first | (refine v_seq ?_) | (refine v_region (fun K hK => ?_)) | (refine v_block ?_) | (refine v_skip ?_) | (refine v_ret ?_) | (refine v_exit ?_) | (refine g_cond ?_; first | (refine v_cond_y rfl aD ?_) | (refine v_cond_n rfl aD ?_) | (refine v_condt rfl (fun h => ?_) (fun h => ?_) <;> (have h' := h; (try simp only [sx] at h')))))
      | (refine q_then ?_) | (refine q_then_r ?_) | (refine q_then_e ?_) | (refine q_blk_n ?_) | (refine q_blk_r ?_) | (refine q_blk_e ?_) | (refine q_blk_o rfl ?_) | (refine q_loop_r ?_) | (refine q_loop_e ?_) | (refine ret_n ?_))
    · exact ret_int rfl (lookE_ok rfl) (idx_some hi2 hga aA).symm
    · refine q_next (i + 1) rfl (by refine ⟨?_, ?_, rfl, rfl⟩ <;> (repeat' (first | exact trivial | exact ⟨rfl, rfl⟩ | exact rfl | exact ⟨sub_fn, refs_fn⟩ | refine ⟨⟨rfl, rfl⟩, ?_⟩ | refine ⟨⟨sub_fn, refs_fn⟩, ?_⟩ | refine ⟨⟨rfl, fun h => Bool.noConfusion h⟩, ?_⟩ | refine ⟨⟨rfl, fun h => ?_⟩, ?_⟩ | refine ⟨rfl, ?_⟩ | refine ⟨?_, ?_⟩ | fail))) ⟨by omega, idx_step hi2 hga (by simpa using h)⟩ aO
  · repeat' (first
      | (refine g_exec ?_; first | (refine g_move ?_; refine x_moveO _ rfl ?_) | (refine g_assign ?_; refine x_assignO _ rfl ?_) | (refine g_bin ?_; first | (refine x_add rfl rfl aO ?_) | (refine x_bin _ rfl rfl rfl ?_) | (refine x_strBin _ rfl rfl rfl ?_)) | (refine g_load ?_; first | (refine x_load_pc aA rfl ?_) | (refine x_load_oc _ aA rfl rfl aE rfl ?_) | (refine x_load_pa _ aA rfl aZ aL ?_) | (refine x_load_oa _ aA rfl rfl aE aZ aL ?_)) | (refine g_index ?_; first | (refine x_index_l _ aA rfl rfl aO aA ?_) | (refine x_index_o _ aA rfl rfl rfl rfl aO aO (by first | (rw [Nat.zero_add, Int.toNat_natCast]) | (rw [Nat.zero_add]) | rfl) ?_)) | (refine g_call ?_; first | (refine x_len_l aA rfl ?_) | (refine x_len_o aA rfl rfl ?_) | (refine x_len_n aA rfl ?_) | (refine x_len_s aA (evO_ok rfl) ?_)) | (refine x_nil (hK _ _ (.inl rfl) ?_); clear hK K) | (refine x_nil (hK _ _ (.inr (by kernel_rfl)) ?_); clear hK K))
      | (refine g_code ?_; first | (refine v_seq ?_) | (refine v_region (fun K hK => ?_)) | (refine v_block ?_) | (refine v_skip ?_) | (refine v_ret ?_) | (refine v_exit ?_) | (refine g_cond ?_; first | (refine v_cond_y rfl aD ?_) | (refine v_cond_n rfl aD ?_) | (refine v_condt rfl (fun h => ?_) (fun h => ?_) <;> (have h' := h; (try simp only [sx] at h')))))
      | (refine q_then ?_) | (refine q_then_r ?_) | (refine q_then_e ?_) | (refine q_blk_n ?_) | (refine q_blk_r ?_) | (refine q_blk_e ?_) | (refine q_blk_o rfl ?_) | (refine q_loop_r ?_) | (refine q_loop_e ?_) | (refine ret_n ?_))
    exact ret_int rfl (lookE_ok rfl) (idx_none fun j hj => hi2 j aO).symm
theorem k_ContainsFuncScene (xs : List Scene) (g : FuncId) (ca : List (List PV)) (p : Scene → Bool) (hg : ∀ a ∈ xs, Con Try.prog g (.agg a.pv :: ca.map PV.ptr) (.bool (p a))) (hn : xs.length ≤ 1099511627776) :
    Con Try.prog 105 [.list 2 (xs.map Scene.pv), .fn g [] (ca.map PV.ptr)] (.bool (xs.any p)) := by
  intro al
  refine contract_of hmix Try.func105 rfl (by kernel_rfl) (by kernel_rfl) (Nat.le_of_ble_eq_true rfl) (fun row h => by cases h) ?_
  have hty_u25 := ty_u25
  have hty_s25 := ty_s25
  repeat' (first
      | (refine g_exec ?_; first | (refine g_move ?_; refine x_moveO _ rfl ?_) | (refine g_assign ?_; refine x_assignO _ rfl ?_) | (refine g_bin ?_; refine x_bin _ rfl rfl rfl ?_) | (refine g_call ?_; refine x_callG false (k_IndexFuncScene xs g ca p hg hn) rfl rfl rfl aS rfl aH ?_; simp only [cl]) | (refine x_nil (hK _ _ (.inl rfl) ?_); clear hK K) | (refine x_nil (hK _ _ (.inr (by kernel_rfl)) ?_); clear hK K))
      | (refine g_code ?_; first | (refine v_seq ?_) | (refine v_region (fun K hK => ?_)) | (refine v_block ?_) | (refine v_skip ?_) | (refine v_ret ?_) | (refine v_exit ?_))
      | (refine q_then ?_) | (refine q_then_r ?_) | (refine q_then_e ?_) | (refine q_blk_n ?_) | (refine q_blk_r ?_) | (refine q_blk_e ?_) | (refine q_blk_o rfl ?_) | (refine q_loop_r ?_) | (refine q_loop_e ?_) | (refine ret_n ?_))
  refine ret_bool rfl (lookE_ok rfl) ?_
  rw [← idx_any]
theorem k_all1Scene (a : Scene) (g : FuncId) (ca : List (List PV)) (b : Bool) (hg : Con Try.prog g (.agg a.pv :: ca.map PV.ptr) (.bool b)) :
    Con Try.prog 106 [.agg a.pv, .ptr [.fn g [] (ca.map PV.ptr)]] (.bool (!b)) := by
  intro al
  refine contract_of hmix Try.func106 rfl (by kernel_rfl) (by kernel_rfl) (Nat.le_of_ble_eq_true rfl) (fun row h => by cases h) ?_
  have hty_c80 := ty_c80
  have hty_a35 := ty_a35
  have kg := hg
  repeat' (first
      | (refine g_exec ?_; first | (refine g_assign ?_; refine x_assignO _ rfl ?_) | (refine g_un ?_; first | (refine x_not rfl ?_) | (refine x_neg rfl aO ?_)) | (refine g_load ?_; first | (refine x_load_pc aA rfl ?_) | (refine x_load_oc _ aA rfl rfl aE rfl ?_) | (refine x_load_pa _ aA rfl aZ aL ?_) | (refine x_load_oa _ aA rfl rfl aE aZ aL ?_)) | (refine g_call ?_; first | (refine x_callG true (kg) rfl rfl rfl aS rfl aH ?_; simp only [cl]) | (refine x_call [] _ (kg) rfl rfl aS rfl aH ?_; simp only [cl])) | (refine x_boxO _ _ rfl rfl rfl rfl ?_) | (refine x_nil (hK _ _ (.inl rfl) ?_); clear hK K) | (refine x_nil (hK _ _ (.inr (by kernel_rfl)) ?_); clear hK K))
      | (refine g_code ?_; first | (refine v_seq ?_) | (refine v_region (fun K hK => ?_)) | (refine v_block ?_) | (refine v_skip ?_) | (refine v_ret ?_) | (refine v_exit ?_))
      | (refine q_then ?_) | (refine q_then_r ?_) | (refine q_then_e ?_) | (refine q_blk_n ?_) | (refine q_blk_r ?_) | (refine q_blk_e ?_) | (refine q_blk_o rfl ?_) | (refine q_loop_r ?_) | (refine q_loop_e ?_) | (refine ret_n ?_))
  exact ret_bool rfl (lookE_ok rfl) rfl
theorem k_allScene (xs : List Scene) (g : FuncId) (ca : List (List PV)) (p : Scene → Bool) (hg : ∀ a ∈ xs, Con Try.prog g (.agg a.pv :: ca.map PV.ptr) (.bool (p a))) (hn : xs.length ≤ 1099511627776) :
    Con Try.prog 65 [.list 2 (xs.map Scene.pv), .fn g [] (ca.map PV.ptr)] (.bool (xs.all p)) := by
  intro al
  refine contract_of hmix Try.func65 rfl (by kernel_rfl) (by kernel_rfl) (Nat.le_of_ble_eq_true rfl) (fun row h => by cases h) ?_
  have hty_u25 := ty_u25
  have hty_s25 := ty_s25
  repeat' (first
      | (refine g_exec ?_; first | (refine g_move ?_; refine x_moveO _ rfl ?_) | (refine g_assign ?_; refine x_assignO _ rfl ?_) | (refine g_un ?_; first | (refine x_not rfl ?_) | (refine x_neg rfl aO ?_)) | (refine g_call ?_; refine x_callG true (k_ContainsFuncScene xs 106 [[.fn g [] (ca.map PV.ptr)]] (fun a => !p a) (fun a ha => k_all1Scene a g ca (p a) (hg a ha)) hn) rfl rfl rfl aS rfl aH ?_; simp only [cl]) | (refine x_boxO _ _ rfl rfl rfl rfl ?_) | (refine x_mkfn _ _ rfl rfl ?_) | (refine x_nil (hK _ _ (.inl rfl) ?_); clear hK K) | (refine x_nil (hK _ _ (.inr (by kernel_rfl)) ?_); clear hK K))
      | (refine g_code ?_; first | (refine v_seq ?_) | (refine v_region (fun K hK => ?_)) | (refine v_block ?_) | (refine v_skip ?_) | (refine v_ret ?_) | (refine v_exit ?_))
      | (refine q_then ?_) | (refine q_then_r ?_) | (refine q_then_e ?_) | (refine q_blk_n ?_) | (refine q_blk_r ?_) | (refine q_blk_e ?_) | (refine q_blk_o rfl ?_) | (refine q_loop_r ?_) | (refine q_loop_e ?_) | (refine ret_n ?_))
  refine ret_bool rfl (lookE_ok rfl) ?_
  rw [List.all_eq_not_any_not]
end Go.Vs
set_option linter.unusedVariables false
set_option linter.unusedSimpArgs false
set_option maxRecDepth 100000
set_option maxHeartbeats 4000000
namespace Go.Vs
open Go.Proofs
attribute [local irreducible] exec vwp thenQ blkQ loopQ RetPost
def wordAt (s : ByteArray) (i : Nat) : Bool := match s[i]? with
  | some b => decide (97 ≤ b.toNat) && decide (b.toNat ≤ 122)
  | none => true
def Word (s : ByteArray) : Prop := (∀ i, i < s.size → wordAt s i = true) ∧ 1 ≤ s.size ∧ s.size ≤ 10
instance (s : ByteArray) : Decidable (Word s) := by unfold Word; infer_instance
theorem byte_ex {s : ByteArray} {i : Nat} (h : i < s.size) : ∃ b, s[i]? = some b := ⟨s[i], getElem?_pos s i h⟩
theorem word_step {s : ByteArray} {i : Nat} {b : UInt8} (h : ∀ j, j < i → wordAt s j = true) (hb : s[i]? = some b) (h1 : 97 ≤ b.toNat) (h2 : b.toNat ≤ 122) : ∀ j, j < i + 1 → wordAt s j = true := fun j hj => by
  rcases Nat.lt_or_ge j i with h3 | h3
  · exact h j h3
  · have : j = i := by omega
    subst this
    simp [wordAt, hb, h1, h2]
theorem not_word {s : ByteArray} {i : Nat} {b : UInt8} (hi : i < s.size) (hb : s[i]? = some b) (h : b.toNat < 97 ∨ 122 < b.toNat) : ¬ Word s := fun hk => by
  have := hk.1 i hi
  simp [wordAt, hb] at this
  omega
theorem k_l2Word (s : ByteArray) (hs : s.size ≤ 1099511627776) : Con Try.prog 117 [.str s] (.bool (decide (Word s))) := by
  intro al
  refine contract_of hmix Try.func117 rfl (by kernel_rfl) (by kernel_rfl) (Nat.le_of_ble_eq_true rfl) (fun row h => by cases h) ?_
  have hty_u9 := ty_u9
  repeat' (first
      | (refine g_exec ?_; first | (refine g_move ?_; refine x_moveO _ rfl ?_) | (refine g_assign ?_; refine x_assignO _ rfl ?_) | (refine g_bin ?_; first | (refine x_add rfl rfl aO ?_) | (refine x_bin _ rfl rfl rfl ?_) | (refine x_strBin _ rfl rfl rfl ?_)) | (refine g_pick ?_; first | (refine x_pick_b rfl aD rfl ?_) | (refine x_pick_c rfl aD ?_) | (refine x_pick_a rfl aD ?_) | (refine x_pick_d rfl aD rfl ?_)) | (refine g_guard ?_; first | (refine x_gyes rfl rfl aD ?_) | (refine x_gno rfl rfl aD ?_) | (refine x_gun rfl rfl ?_) | (refine x_gsplit rfl rfl (fun h => ?_) (fun h => ?_) <;> (have h' := h; (try simp only [sx] at h')))) | (refine g_call ?_; first | (refine x_len_l aA rfl ?_) | (refine x_len_o aA rfl rfl ?_) | (refine x_len_n aA rfl ?_) | (refine x_len_s aA (evO_ok rfl) ?_)) | (refine x_index_s _ aA (evO_ok rfl) (evO_ok rfl) aO aA ?_) | (refine x_nil (hK _ _ (.inl rfl) ?_); clear hK K) | (refine x_nil (hK _ _ (.inr (by kernel_rfl)) ?_); clear hK K))
      | (refine g_code ?_; first | (refine v_seq ?_) | (refine v_region (fun K hK => ?_)) | (refine v_block ?_) | (refine v_skip ?_) | (refine v_ret ?_) | (refine v_exit ?_) | (refine g_cond ?_; first | (refine v_cond_y rfl aD ?_) | (refine v_cond_n rfl aD ?_) | (refine v_condt rfl (fun h => ?_) (fun h => ?_) <;> (have h' := h; (try simp only [sx] at h')))))
      | (refine q_then ?_) | (refine q_then_r ?_) | (refine q_then_e ?_) | (refine q_blk_n ?_) | (refine q_blk_r ?_) | (refine q_blk_e ?_) | (refine q_blk_o rfl ?_) | (refine q_loop_r ?_) | (refine q_loop_e ?_) | (refine ret_n ?_))
  refine v_loopK [0] [] (fun i : Nat => [(3, .int .i64 i)]) (fun i : Nat => []) (fun i : Nat => i ≤ s.size ∧ ∀ j, j < i → wordAt s j = true) (fun i : Nat => s.size - i) (0) rfl rfl (fun _ => rfl) (fun _ => rfl) rfl (by refine ⟨?_, ?_, rfl, rfl⟩ <;> (repeat' (first | exact trivial | exact ⟨rfl, rfl⟩ | exact rfl | exact ⟨sub_fn, refs_fn⟩ | refine ⟨⟨rfl, rfl⟩, ?_⟩ | refine ⟨⟨sub_fn, refs_fn⟩, ?_⟩ | refine ⟨⟨rfl, fun h => Bool.noConfusion h⟩, ?_⟩ | refine ⟨⟨rfl, fun h => ?_⟩, ?_⟩ | refine ⟨rfl, ?_⟩ | refine ⟨?_, ?_⟩ | fail))) ⟨by omega, fun j hj => by omega⟩ (fun i hi => ?_)
  obtain ⟨h1, h2⟩ := hi
  rcases Nat.lt_or_ge i s.size with hlt | hge
  · obtain ⟨b, hb⟩ := byte_ex hlt
    repeat' (first
      | (refine g_exec ?_; first | (refine g_move ?_; refine x_moveO _ rfl ?_) | (refine g_assign ?_; refine x_assignO _ rfl ?_) | (refine g_bin ?_; first | (refine x_add rfl rfl aO ?_) | (refine x_bin _ rfl rfl rfl ?_) | (refine x_strBin _ rfl rfl rfl ?_)) | (refine g_pick ?_; first | (refine x_pick_b rfl aD rfl ?_) | (refine x_pick_c rfl aD ?_) | (refine x_pick_a rfl aD ?_) | (refine x_pick_d rfl aD rfl ?_)) | (refine g_guard ?_; first | (refine x_gyes rfl rfl aD ?_) | (refine x_gno rfl rfl aD ?_) | (refine x_gun rfl rfl ?_) | (refine x_gsplit rfl rfl (fun h => ?_) (fun h => ?_) <;> (have h' := h; (try simp only [sx] at h')))) | (refine g_call ?_; first | (refine x_len_l aA rfl ?_) | (refine x_len_o aA rfl rfl ?_) | (refine x_len_n aA rfl ?_) | (refine x_len_s aA (evO_ok rfl) ?_)) | (refine x_index_s _ aA (evO_ok rfl) (evO_ok rfl) aO aA ?_) | (refine x_nil (hK _ _ (.inl rfl) ?_); clear hK K) | (refine x_nil (hK _ _ (.inr (by kernel_rfl)) ?_); clear hK K))
      | (refine g_code ?_; first | (refine v_seq ?_) | (refine v_region (fun K hK => ?_)) | (refine v_block ?_) | (refine v_skip ?_) | (refine v_ret ?_) | (refine v_exit ?_) | (refine g_cond ?_; first | (refine v_cond_y rfl aD ?_) | (refine v_cond_n rfl aD ?_) | (refine v_condt rfl (fun h => ?_) (fun h => ?_) <;> (have h' := h; (try simp only [sx] at h')))))
      | (refine q_then ?_) | (refine q_then_r ?_) | (refine q_then_e ?_) | (refine q_blk_n ?_) | (refine q_blk_r ?_) | (refine q_blk_e ?_) | (refine q_blk_o rfl ?_) | (refine q_loop_r ?_) | (refine q_loop_e ?_) | (refine ret_n ?_))
    all_goals first
      | (refine q_next (i + 1) rfl (by refine ⟨?_, ?_, rfl, rfl⟩ <;> (repeat' (first | exact trivial | exact ⟨rfl, rfl⟩ | exact rfl | exact ⟨sub_fn, refs_fn⟩ | refine ⟨⟨rfl, rfl⟩, ?_⟩ | refine ⟨⟨sub_fn, refs_fn⟩, ?_⟩ | refine ⟨⟨rfl, fun h => Bool.noConfusion h⟩, ?_⟩ | refine ⟨⟨rfl, fun h => ?_⟩, ?_⟩ | refine ⟨rfl, ?_⟩ | refine ⟨?_, ?_⟩ | fail))) ⟨by omega, word_step h2 hb aO aO⟩ aO)
      | exact ret_bool rfl (lookE_ok rfl) (by simp [not_word hlt hb aO])
  · repeat' (first
      | (refine g_exec ?_; first | (refine g_move ?_; refine x_moveO _ rfl ?_) | (refine g_assign ?_; refine x_assignO _ rfl ?_) | (refine g_bin ?_; first | (refine x_add rfl rfl aO ?_) | (refine x_bin _ rfl rfl rfl ?_) | (refine x_strBin _ rfl rfl rfl ?_)) | (refine g_pick ?_; first | (refine x_pick_b rfl aD rfl ?_) | (refine x_pick_c rfl aD ?_) | (refine x_pick_a rfl aD ?_) | (refine x_pick_d rfl aD rfl ?_)) | (refine g_guard ?_; first | (refine x_gyes rfl rfl aD ?_) | (refine x_gno rfl rfl aD ?_) | (refine x_gun rfl rfl ?_) | (refine x_gsplit rfl rfl (fun h => ?_) (fun h => ?_) <;> (have h' := h; (try simp only [sx] at h')))) | (refine g_call ?_; first | (refine x_callG true (k_l1In _ _ _) rfl rfl rfl aS rfl aH ?_; simp only [cl]) | (refine x_len_l aA rfl ?_) | (refine x_len_o aA rfl rfl ?_) | (refine x_len_n aA rfl ?_) | (refine x_len_s aA (evO_ok rfl) ?_)) | (refine x_index_s _ aA (evO_ok rfl) (evO_ok rfl) aO aA ?_) | (refine x_nil (hK _ _ (.inl rfl) ?_); clear hK K) | (refine x_nil (hK _ _ (.inr (by kernel_rfl)) ?_); clear hK K))
      | (refine g_code ?_; first | (refine v_seq ?_) | (refine v_region (fun K hK => ?_)) | (refine v_block ?_) | (refine v_skip ?_) | (refine v_ret ?_) | (refine v_exit ?_) | (refine g_cond ?_; first | (refine v_cond_y rfl aD ?_) | (refine v_cond_n rfl aD ?_) | (refine v_condt rfl (fun h => ?_) (fun h => ?_) <;> (have h' := h; (try simp only [sx] at h')))))
      | (refine q_then ?_) | (refine q_then_r ?_) | (refine q_then_e ?_) | (refine q_blk_n ?_) | (refine q_blk_r ?_) | (refine q_blk_e ?_) | (refine q_blk_o rfl ?_) | (refine q_loop_r ?_) | (refine q_loop_e ?_) | (refine ret_n ?_))
    (refine ret_bool rfl (lookE_ok rfl) ?_; rw [Bool.eq_iff_iff]; try simp only [sx] at *)
    unfold Word
    constructor
    · intro hq; exact ⟨fun j hj => h2 j aO, by omega, by omega⟩
    · intro hq; omega
theorem k_isWord (s : ByteArray) (hs : s.size ≤ 1099511627776) : Con Try.prog 124 [.str s] (.bool (decide (Word s))) := by
  intro al
  refine contract_of hmix Try.func124 rfl (by kernel_rfl) (by kernel_rfl) (Nat.le_of_ble_eq_true rfl) (fun row h => by cases h) ?_
  have hty_u9 := ty_u9
  repeat' (first
      | (refine g_exec ?_; first | (refine g_move ?_; refine x_moveO _ rfl ?_) | (refine g_assign ?_; refine x_assignO _ rfl ?_) | (refine g_bin ?_; first | (refine x_add rfl rfl aO ?_) | (refine x_bin _ rfl rfl rfl ?_) | (refine x_strBin _ rfl rfl rfl ?_)) | (refine g_pick ?_; first | (refine x_pick_b rfl aD rfl ?_) | (refine x_pick_c rfl aD ?_) | (refine x_pick_a rfl aD ?_) | (refine x_pick_d rfl aD rfl ?_)) | (refine g_guard ?_; first | (refine x_gyes rfl rfl aD ?_) | (refine x_gno rfl rfl aD ?_) | (refine x_gun rfl rfl ?_) | (refine x_gsplit rfl rfl (fun h => ?_) (fun h => ?_) <;> (have h' := h; (try simp only [sx] at h')))) | (refine g_call ?_; first | (refine x_len_l aA rfl ?_) | (refine x_len_o aA rfl rfl ?_) | (refine x_len_n aA rfl ?_) | (refine x_len_s aA (evO_ok rfl) ?_)) | (refine x_index_s _ aA (evO_ok rfl) (evO_ok rfl) aO aA ?_) | (refine x_nil (hK _ _ (.inl rfl) ?_); clear hK K) | (refine x_nil (hK _ _ (.inr (by kernel_rfl)) ?_); clear hK K))
      | (refine g_code ?_; first | (refine v_seq ?_) | (refine v_region (fun K hK => ?_)) | (refine v_block ?_) | (refine v_skip ?_) | (refine v_ret ?_) | (refine v_exit ?_) | (refine g_cond ?_; first | (refine v_cond_y rfl aD ?_) | (refine v_cond_n rfl aD ?_) | (refine v_condt rfl (fun h => ?_) (fun h => ?_) <;> (have h' := h; (try simp only [sx] at h')))))
      | (refine q_then ?_) | (refine q_then_r ?_) | (refine q_then_e ?_) | (refine q_blk_n ?_) | (refine q_blk_r ?_) | (refine q_blk_e ?_) | (refine q_blk_o rfl ?_) | (refine q_loop_r ?_) | (refine q_loop_e ?_) | (refine ret_n ?_))
  refine v_loopK [0, 5] [] (fun i : Nat => [(6, .int .i64 i)]) (fun i : Nat => []) (fun i : Nat => i ≤ s.size ∧ ∀ j, j < i → wordAt s j = true) (fun i : Nat => s.size - i) (0) rfl rfl (fun _ => rfl) (fun _ => rfl) rfl (by refine ⟨?_, ?_, rfl, rfl⟩ <;> (repeat' (first | exact trivial | exact ⟨rfl, rfl⟩ | exact rfl | exact ⟨sub_fn, refs_fn⟩ | refine ⟨⟨rfl, rfl⟩, ?_⟩ | refine ⟨⟨sub_fn, refs_fn⟩, ?_⟩ | refine ⟨⟨rfl, fun h => Bool.noConfusion h⟩, ?_⟩ | refine ⟨⟨rfl, fun h => ?_⟩, ?_⟩ | refine ⟨rfl, ?_⟩ | refine ⟨?_, ?_⟩ | fail))) ⟨by omega, fun j hj => by omega⟩ (fun i hi => ?_)
  obtain ⟨h1, h2⟩ := hi
  rcases Nat.lt_or_ge i s.size with hlt | hge
  · obtain ⟨b, hb⟩ := byte_ex hlt
    repeat' (first
      | (refine g_exec ?_; first | (refine g_move ?_; refine x_moveO _ rfl ?_) | (refine g_assign ?_; refine x_assignO _ rfl ?_) | (refine g_bin ?_; first | (refine x_add rfl rfl aO ?_) | (refine x_bin _ rfl rfl rfl ?_) | (refine x_strBin _ rfl rfl rfl ?_)) | (refine g_pick ?_; first | (refine x_pick_b rfl aD rfl ?_) | (refine x_pick_c rfl aD ?_) | (refine x_pick_a rfl aD ?_) | (refine x_pick_d rfl aD rfl ?_)) | (refine g_guard ?_; first | (refine x_gyes rfl rfl aD ?_) | (refine x_gno rfl rfl aD ?_) | (refine x_gun rfl rfl ?_) | (refine x_gsplit rfl rfl (fun h => ?_) (fun h => ?_) <;> (have h' := h; (try simp only [sx] at h')))) | (refine g_call ?_; first | (refine x_len_l aA rfl ?_) | (refine x_len_o aA rfl rfl ?_) | (refine x_len_n aA rfl ?_) | (refine x_len_s aA (evO_ok rfl) ?_)) | (refine x_index_s _ aA (evO_ok rfl) (evO_ok rfl) aO aA ?_) | (refine x_nil (hK _ _ (.inl rfl) ?_); clear hK K) | (refine x_nil (hK _ _ (.inr (by kernel_rfl)) ?_); clear hK K))
      | (refine g_code ?_; first | (refine v_seq ?_) | (refine v_region (fun K hK => ?_)) | (refine v_block ?_) | (refine v_skip ?_) | (refine v_ret ?_) | (refine v_exit ?_) | (refine g_cond ?_; first | (refine v_cond_y rfl aD ?_) | (refine v_cond_n rfl aD ?_) | (refine v_condt rfl (fun h => ?_) (fun h => ?_) <;> (have h' := h; (try simp only [sx] at h')))))
      | (refine q_then ?_) | (refine q_then_r ?_) | (refine q_then_e ?_) | (refine q_blk_n ?_) | (refine q_blk_r ?_) | (refine q_blk_e ?_) | (refine q_blk_o rfl ?_) | (refine q_loop_r ?_) | (refine q_loop_e ?_) | (refine ret_n ?_))
    all_goals first
      | (refine q_next (i + 1) rfl (by refine ⟨?_, ?_, rfl, rfl⟩ <;> (repeat' (first | exact trivial | exact ⟨rfl, rfl⟩ | exact rfl | exact ⟨sub_fn, refs_fn⟩ | refine ⟨⟨rfl, rfl⟩, ?_⟩ | refine ⟨⟨sub_fn, refs_fn⟩, ?_⟩ | refine ⟨⟨rfl, fun h => Bool.noConfusion h⟩, ?_⟩ | refine ⟨⟨rfl, fun h => ?_⟩, ?_⟩ | refine ⟨rfl, ?_⟩ | refine ⟨?_, ?_⟩ | fail))) ⟨by omega, word_step h2 hb aO aO⟩ aO)
      | exact ret_bool rfl (lookE_ok rfl) (by simp [not_word hlt hb aO])
  · repeat' (first
      | (refine g_exec ?_; first | (refine g_move ?_; refine x_moveO _ rfl ?_) | (refine g_assign ?_; refine x_assignO _ rfl ?_) | (refine g_bin ?_; first | (refine x_add rfl rfl aO ?_) | (refine x_bin _ rfl rfl rfl ?_) | (refine x_strBin _ rfl rfl rfl ?_)) | (refine g_pick ?_; first | (refine x_pick_b rfl aD rfl ?_) | (refine x_pick_c rfl aD ?_) | (refine x_pick_a rfl aD ?_) | (refine x_pick_d rfl aD rfl ?_)) | (refine g_guard ?_; first | (refine x_gyes rfl rfl aD ?_) | (refine x_gno rfl rfl aD ?_) | (refine x_gun rfl rfl ?_) | (refine x_gsplit rfl rfl (fun h => ?_) (fun h => ?_) <;> (have h' := h; (try simp only [sx] at h')))) | (refine g_call ?_; first | (refine x_callG true (k_in _ _ _) rfl rfl rfl aS rfl aH ?_; simp only [cl]) | (refine x_len_l aA rfl ?_) | (refine x_len_o aA rfl rfl ?_) | (refine x_len_n aA rfl ?_) | (refine x_len_s aA (evO_ok rfl) ?_)) | (refine x_index_s _ aA (evO_ok rfl) (evO_ok rfl) aO aA ?_) | (refine x_nil (hK _ _ (.inl rfl) ?_); clear hK K) | (refine x_nil (hK _ _ (.inr (by kernel_rfl)) ?_); clear hK K))
      | (refine g_code ?_; first | (refine v_seq ?_) | (refine v_region (fun K hK => ?_)) | (refine v_block ?_) | (refine v_skip ?_) | (refine v_ret ?_) | (refine v_exit ?_) | (refine g_cond ?_; first | (refine v_cond_y rfl aD ?_) | (refine v_cond_n rfl aD ?_) | (refine v_condt rfl (fun h => ?_) (fun h => ?_) <;> (have h' := h; (try simp only [sx] at h')))))
      | (refine q_then ?_) | (refine q_then_r ?_) | (refine q_then_e ?_) | (refine q_blk_n ?_) | (refine q_blk_r ?_) | (refine q_blk_e ?_) | (refine q_blk_o rfl ?_) | (refine q_loop_r ?_) | (refine q_loop_e ?_) | (refine ret_n ?_))
    (refine ret_bool rfl (lookE_ok rfl) ?_; rw [Bool.eq_iff_iff]; try simp only [sx] at *)
    unfold Word
    constructor
    · intro hq; exact ⟨fun j hj => h2 j aO, by omega, by omega⟩
    · intro hq; omega
def OneA (a : Asset) : Prop := (1 ≤ a.id ∧ a.id ≤ 99) ∧ Word a.name ∧ (0 ≤ a.worth ∧ a.worth ≤ 10000) ∧ (0 ≤ a.loss ∧ a.loss ≤ 100)
instance (a : Asset) : Decidable (OneA a) := by unfold OneA; infer_instance
theorem k_isAsset (a : Asset) (hs : a.name.size ≤ 1099511627776) : Con Try.prog 99 [.agg a.pv] (.bool (decide (OneA a))) := by
  intro al
  refine contract_of hmix Try.func99 rfl (by kernel_rfl) (by kernel_rfl) (Nat.le_of_ble_eq_true rfl) (fun row h => by cases h) ?_
  have hty_f38_0 := ty_f38_0
  have hty_c3 := ty_c3
  have hty_f38_1 := ty_f38_1
  have hty_c9 := ty_c9
  have hty_u9 := ty_u9
  have hty_f38_2 := ty_f38_2
  have hty_f38_3 := ty_f38_3
  repeat' (first
      | (refine g_exec ?_; first | (refine g_move ?_; refine x_moveO _ rfl ?_) | (refine g_assign ?_; refine x_assignO _ rfl ?_) | (refine g_load ?_; first | (refine x_load_pc aA rfl ?_) | (refine x_load_oc _ aA rfl rfl aE rfl ?_) | (refine x_load_pa _ aA rfl aZ aL ?_) | (refine x_load_oa _ aA rfl rfl aE aZ aL ?_)) | (refine g_field ?_; first | (refine x_field_p _ aA rfl aL ?_) | (refine x_field_o _ aA rfl rfl (by simp only [lx, Nat.reduceAdd]; first | done | rfl) ?_)) | (refine g_pick ?_; first | (refine x_pick_b rfl aD rfl ?_) | (refine x_pick_c rfl aD ?_) | (refine x_pick_a rfl aD ?_) | (refine x_pick_d rfl aD rfl ?_)) | (refine g_guard ?_; first | (refine x_gyes rfl rfl aD ?_) | (refine x_gno rfl rfl aD ?_) | (refine x_gun rfl rfl ?_) | (refine x_gsplit rfl rfl (fun h => ?_) (fun h => ?_) <;> (have h' := h; (try simp only [sx] at h')))) | (refine g_call ?_; first | (refine x_callG true (k_in _ _ _) rfl rfl rfl aS rfl aH ?_; simp only [cl]) | (refine x_callG true (k_isWord a.name hs) rfl rfl rfl aS rfl aH ?_; simp only [cl])) | (refine x_boxO _ _ rfl rfl rfl rfl ?_) | (refine x_nil (hK _ _ (.inl rfl) ?_); clear hK K) | (refine x_nil (hK _ _ (.inr (by kernel_rfl)) ?_); clear hK K))
      | (refine g_code ?_; first | (refine v_seq ?_) | (refine v_region (fun K hK => ?_)) | (refine v_block ?_) | (refine v_skip ?_) | (refine v_ret ?_) | (refine v_exit ?_))
      | (refine q_then ?_) | (refine q_then_r ?_) | (refine q_then_e ?_) | (refine q_blk_n ?_) | (refine q_blk_r ?_) | (refine q_blk_e ?_) | (refine q_blk_o rfl ?_) | (refine q_loop_r ?_) | (refine q_loop_e ?_) | (refine ret_n ?_))
  all_goals ((refine ret_bool rfl (lookE_ok rfl) ?_; rw [Bool.eq_iff_iff]; try simp only [sx] at *); simp only [OneA]; constructor <;> intro hq <;> first | contradiction | (exact ⟨by omega, by assumption, by omega, by omega⟩) | (obtain ⟨q1, q2, q3, q4⟩ := hq; first | contradiction | omega))
theorem k_AreAssets1 (a : Asset) : Con Try.prog 100 [.agg a.pv] (.int .i64 a.id) := by
  intro al
  refine contract_of hmix Try.func100 rfl (by kernel_rfl) (by kernel_rfl) (Nat.le_of_ble_eq_true rfl) (fun row h => by cases h) ?_
  have hty_f38_0 := ty_f38_0
  have hty_c3 := ty_c3
  repeat' (first
      | (refine g_exec ?_; first | (refine g_assign ?_; refine x_assignO _ rfl ?_) | (refine g_load ?_; first | (refine x_load_pc aA rfl ?_) | (refine x_load_oc _ aA rfl rfl aE rfl ?_) | (refine x_load_pa _ aA rfl aZ aL ?_) | (refine x_load_oa _ aA rfl rfl aE aZ aL ?_)) | (refine g_field ?_; first | (refine x_field_p _ aA rfl aL ?_) | (refine x_field_o _ aA rfl rfl (by simp only [lx, Nat.reduceAdd]; first | done | rfl) ?_)) | (refine x_boxO _ _ rfl rfl rfl rfl ?_) | (refine x_nil (hK _ _ (.inl rfl) ?_); clear hK K) | (refine x_nil (hK _ _ (.inr (by kernel_rfl)) ?_); clear hK K))
      | (refine g_code ?_; first | (refine v_seq ?_) | (refine v_region (fun K hK => ?_)) | (refine v_block ?_) | (refine v_skip ?_) | (refine v_ret ?_) | (refine v_exit ?_))
      | (refine q_then ?_) | (refine q_then_r ?_) | (refine q_then_e ?_) | (refine q_blk_n ?_) | (refine q_blk_r ?_) | (refine q_blk_e ?_) | (refine q_blk_o rfl ?_) | (refine q_loop_r ?_) | (refine q_loop_e ?_) | (refine ret_n ?_))
  exact ret_int rfl (lookE_ok rfl) rfl
def a0 : Asset := ⟨0, ByteArray.empty, 0, 0⟩
def OkA (xs : List Asset) (j : Nat) : Prop := OneA (xs.getD j a0) ∧ (0 < j → (xs.getD (j - 1) a0).id < (xs.getD j a0).id)
instance (xs : List Asset) (j : Nat) : Decidable (OkA xs j) := by unfold OkA; infer_instance
def GoodA (xs : List Asset) : Prop := (∀ j, j < xs.length → OkA xs j) ∧ xs.length ≤ 10
instance (xs : List Asset) : Decidable (GoodA xs) := by unfold GoodA; infer_instance
theorem getA {xs : List Asset} {i : Nat} {a : Asset} (h : xs[i]? = some a) : xs.getD i a0 = a := by simp [List.getD_eq_getElem?_getD, h]
theorem not_goodA {xs : List Asset} {i : Nat} (hi : i < xs.length) (h : ¬ OkA xs i) : ¬ GoodA xs := fun hg => h (hg.1 i hi)
theorem okA_step {xs : List Asset} {i : Nat} (h : ∀ j, j < i → OkA xs j) (hi : OkA xs i) : ∀ j, j < i + 1 → OkA xs j := fun j hj => by
  rcases Nat.lt_or_ge j i with h1 | h1
  · exact h j h1
  · have : j = i := by omega
    rw [this]; exact hi
theorem GoodA.one {xs : List Asset} (h : GoodA xs) : ∀ a ∈ xs, OneA a := fun a ha => by
  obtain ⟨i, hi⟩ := List.getElem?_of_mem ha
  have := (h.1 i (get_lt hi)).1
  rwa [getA hi] at this
theorem k_l24Assets (xs : List Asset) (hn : xs.length ≤ 1099511627776) (hs : ∀ a ∈ xs, a.name.size ≤ 1099511627776) : Con Try.prog 73 [.list 4 (xs.map Asset.pv)] (.bool (decide (GoodA xs))) := by
  intro al
  refine contract_of hmix Try.func73 rfl (by kernel_rfl) (by kernel_rfl) (Nat.le_of_ble_eq_true rfl) (fun row h => by cases h) ?_
  have hty_u24 := ty_u24
  have hty_s24 := ty_s24
  have hty_a38 := ty_a38
  have hty_z38 := ty_z38
  have hty_t38 := ty_t38
  have hty_f38_0 := ty_f38_0
  have hty_c3 := ty_c3
  have hty_f38_1 := ty_f38_1
  have hty_c9 := ty_c9
  have hty_u9 := ty_u9
  have hty_f38_2 := ty_f38_2
  have hty_f38_3 := ty_f38_3
  have hl1 : (xs.map Asset.pv).length = xs.length := by simp
  repeat' (first
      | (refine g_exec ?_; first | (refine g_move ?_; refine x_moveO _ rfl ?_) | (refine g_assign ?_; refine x_assignO _ rfl ?_) | (refine g_bin ?_; first | (refine x_add rfl rfl aO ?_) | (refine x_sub rfl rfl aO ?_) | (refine x_bin _ rfl rfl rfl ?_) | (refine x_strBin _ rfl rfl rfl ?_)) | (refine g_un ?_; first | (refine x_not rfl ?_) | (refine x_neg rfl aO ?_)) | (refine g_load ?_; first | (refine x_load_pc aA rfl ?_) | (refine x_load_oc _ aA rfl rfl aE rfl ?_) | (refine x_load_pa _ aA rfl aZ aL ?_) | (refine x_load_oa _ aA rfl rfl aE aZ aL ?_)) | (refine g_field ?_; first | (refine x_field_p _ aA rfl aL ?_) | (refine x_field_o _ aA rfl rfl (by simp only [lx, Nat.reduceAdd]; first | done | rfl) ?_)) | (refine g_index ?_; first | (refine x_index_l _ aA rfl rfl aO aA ?_) | (refine x_index_o _ aA rfl rfl rfl rfl aO aO (by first | (rw [Nat.zero_add, Int.toNat_natCast]) | (rw [Nat.zero_add]) | rfl) ?_)) | (refine g_pick ?_; first | (refine x_pick_b rfl aD rfl ?_) | (refine x_pick_c rfl aD ?_) | (refine x_pick_a rfl aD ?_) | (refine x_pick_d rfl aD rfl ?_)) | (refine g_guard ?_; first | (refine x_gyes rfl rfl aD ?_) | (refine x_gno rfl rfl aD ?_) | (refine x_gun rfl rfl ?_) | (refine x_gsplit rfl rfl (fun h => ?_) (fun h => ?_) <;> (have h' := h; (try simp only [sx] at h')))) | (refine g_call ?_; first | (refine x_len_l aA rfl ?_) | (refine x_len_o aA rfl rfl ?_) | (refine x_len_n aA rfl ?_) | (refine x_len_s aA (evO_ok rfl) ?_)) | (refine x_alloc _ aA rfl ?_) | (refine x_allocF aA rfl ?_) | (refine x_storeO _ _ _ rfl rfl aE (by first | assumption | (exact TAgg.size aA)) rfl rfl rfl aZ rfl aL (by first | (first | (simp only [lx, Nat.reduceAdd]; first | done | rfl) | fail) | rfl) ?_) | (refine x_nil (hK _ _ (.inl rfl) ?_); clear hK K) | (refine x_nil (hK _ _ (.inr (by kernel_rfl)) ?_); clear hK K))
      | (refine g_code ?_; first | (refine v_seq ?_) | (refine v_region (fun K hK => ?_)) | (refine v_block ?_) | (refine v_skip ?_) | (refine v_ret ?_) | (refine v_exit ?_) | (refine g_cond ?_; first | (refine v_cond_y rfl aD ?_) | (refine v_cond_n rfl aD ?_) | (refine v_condt rfl (fun h => ?_) (fun h => ?_) <;> (have h' := h; (try simp only [sx] at h')))))
      | (refine q_then ?_) | (refine q_then_r ?_) | (refine q_then_e ?_) | (refine q_blk_n ?_) | (refine q_blk_r ?_) | (refine q_blk_e ?_) | (refine q_blk_o rfl ?_) | (refine q_loop_r ?_) | (refine q_loop_e ?_) | (refine ret_n ?_))
  refine v_loopK [0] [] (fun i : Nat => [(3, .int .i64 i)]) (fun i : Nat => []) (fun i : Nat => i ≤ xs.length ∧ ∀ j, j < i → OkA xs j) (fun i : Nat => xs.length - i) (0) rfl rfl (fun _ => rfl) (fun _ => rfl) rfl (by refine ⟨?_, ?_, rfl, rfl⟩ <;> (repeat' (first | exact trivial | exact ⟨rfl, rfl⟩ | exact rfl | exact ⟨sub_fn, refs_fn⟩ | refine ⟨⟨rfl, rfl⟩, ?_⟩ | refine ⟨⟨sub_fn, refs_fn⟩, ?_⟩ | refine ⟨⟨rfl, fun h => Bool.noConfusion h⟩, ?_⟩ | refine ⟨⟨rfl, fun h => ?_⟩, ?_⟩ | refine ⟨rfl, ?_⟩ | refine ⟨?_, ?_⟩ | fail))) ⟨by omega, fun j hj => by omega⟩ (fun i hi => ?_)
  obtain ⟨hi1, hi2⟩ := hi
  rcases Nat.lt_or_ge i xs.length with hlt | hge
  · obtain ⟨a, hga⟩ := get_ex hlt
    have hx := Asset.at hga
    have hd := getA hga
    have hsa := hs a (get_mem hga)
    by_cases hi0 : 0 < i
    · obtain ⟨b, hgb⟩ := get_ex (show i - 1 < xs.length by omega)
      have hy := Asset.at hgb
      have hd' := getA hgb
      have e1 : ((i : Int) - 1).toNat = i - 1 := by omega
      rw [← e1] at hy
      repeat' (first
      | (refine g_exec ?_; first | (refine g_move ?_; refine x_moveO _ rfl ?_) | (refine g_assign ?_; refine x_assignO _ rfl ?_) | (refine g_bin ?_; first | (refine x_add rfl rfl aO ?_) | (refine x_sub rfl rfl aO ?_) | (refine x_bin _ rfl rfl rfl ?_) | (refine x_strBin _ rfl rfl rfl ?_)) | (refine g_un ?_; first | (refine x_not rfl ?_) | (refine x_neg rfl aO ?_)) | (refine g_load ?_; first | (refine x_load_pc aA rfl ?_) | (refine x_load_oc _ aA rfl rfl aE rfl ?_) | (refine x_load_pa _ aA rfl aZ aL ?_) | (refine x_load_oa _ aA rfl rfl aE aZ aL ?_)) | (refine g_field ?_; first | (refine x_field_p _ aA rfl aL ?_) | (refine x_field_o _ aA rfl rfl (by simp only [lx, Nat.reduceAdd]; first | done | rfl) ?_)) | (refine g_index ?_; first | (refine x_index_l _ aA rfl rfl aO aA ?_) | (refine x_index_o _ aA rfl rfl rfl rfl aO aO (by first | (rw [Nat.zero_add, Int.toNat_natCast]) | (rw [Nat.zero_add]) | rfl) ?_)) | (refine g_pick ?_; first | (refine x_pick_b rfl aD rfl ?_) | (refine x_pick_c rfl aD ?_) | (refine x_pick_a rfl aD ?_) | (refine x_pick_d rfl aD rfl ?_)) | (refine g_guard ?_; first | (refine x_gyes rfl rfl aD ?_) | (refine x_gno rfl rfl aD ?_) | (refine x_gun rfl rfl ?_) | (refine x_gsplit rfl rfl (fun h => ?_) (fun h => ?_) <;> (have h' := h; (try simp only [sx] at h')))) | (refine g_call ?_; first | (refine x_callG true (k_l1In _ _ _) rfl rfl rfl aS rfl aH ?_; simp only [cl]) | (refine x_callG true (k_l2Word a.name hsa) rfl rfl rfl aS rfl aH ?_; simp only [cl]) | (refine x_len_l aA rfl ?_) | (refine x_len_o aA rfl rfl ?_) | (refine x_len_n aA rfl ?_) | (refine x_len_s aA (evO_ok rfl) ?_)) | (refine x_alloc _ aA rfl ?_) | (refine x_allocF aA rfl ?_) | (refine x_storeO _ _ _ rfl rfl aE (by first | assumption | (exact TAgg.size aA)) rfl rfl rfl aZ rfl aL (by first | (first | (simp only [lx, Nat.reduceAdd]; first | done | rfl) | fail) | rfl) ?_) | (refine x_nil (hK _ _ (.inl rfl) ?_); clear hK K) | (refine x_nil (hK _ _ (.inr (by kernel_rfl)) ?_); clear hK K))
      | (refine g_code ?_; first | (refine v_seq ?_) | (refine v_region (fun K hK => ?_)) | (refine v_block ?_) | (refine v_skip ?_) | (refine v_ret ?_) | (refine v_exit ?_) | (refine g_cond ?_; first | (refine v_cond_y rfl aD ?_) | (refine v_cond_n rfl aD ?_) | (refine v_condt rfl (fun h => ?_) (fun h => ?_) <;> (have h' := h; (try simp only [sx] at h')))))
      | (refine q_then ?_) | (refine q_then_r ?_) | (refine q_then_e ?_) | (refine q_blk_n ?_) | (refine q_blk_r ?_) | (refine q_blk_e ?_) | (refine q_blk_o rfl ?_) | (refine q_loop_r ?_) | (refine q_loop_e ?_) | (refine ret_n ?_))
      all_goals first
        | (refine q_next (i + 1) rfl (by refine ⟨?_, ?_, rfl, rfl⟩ <;> (repeat' (first | exact trivial | exact ⟨rfl, rfl⟩ | exact rfl | exact ⟨sub_fn, refs_fn⟩ | refine ⟨⟨rfl, rfl⟩, ?_⟩ | refine ⟨⟨sub_fn, refs_fn⟩, ?_⟩ | refine ⟨⟨rfl, fun h => Bool.noConfusion h⟩, ?_⟩ | refine ⟨⟨rfl, fun h => ?_⟩, ?_⟩ | refine ⟨rfl, ?_⟩ | refine ⟨?_, ?_⟩ | fail))) ⟨by omega, okA_step hi2 ?_⟩ aO; unfold OkA; rw [hd, hd']; exact ⟨⟨by omega, by assumption, by omega, by omega⟩, fun _ => by omega⟩)
        | (refine ret_bool rfl (lookE_ok rfl) ?_
           have : ¬ GoodA xs := not_goodA hlt (fun hk => by
             unfold OkA at hk
             rw [hd, hd'] at hk
             obtain ⟨⟨q1, q2, q3, q4⟩, q5⟩ := hk
             have := q5 hi0
             first | contradiction | omega)
           simp [this])
    · repeat' (first
      | (refine g_exec ?_; first | (refine g_move ?_; refine x_moveO _ rfl ?_) | (refine g_assign ?_; refine x_assignO _ rfl ?_) | (refine g_bin ?_; first | (refine x_add rfl rfl aO ?_) | (refine x_sub rfl rfl aO ?_) | (refine x_bin _ rfl rfl rfl ?_) | (refine x_strBin _ rfl rfl rfl ?_)) | (refine g_un ?_; first | (refine x_not rfl ?_) | (refine x_neg rfl aO ?_)) | (refine g_load ?_; first | (refine x_load_pc aA rfl ?_) | (refine x_load_oc _ aA rfl rfl aE rfl ?_) | (refine x_load_pa _ aA rfl aZ aL ?_) | (refine x_load_oa _ aA rfl rfl aE aZ aL ?_)) | (refine g_field ?_; first | (refine x_field_p _ aA rfl aL ?_) | (refine x_field_o _ aA rfl rfl (by simp only [lx, Nat.reduceAdd]; first | done | rfl) ?_)) | (refine g_index ?_; first | (refine x_index_l _ aA rfl rfl aO aA ?_) | (refine x_index_o _ aA rfl rfl rfl rfl aO aO (by first | (rw [Nat.zero_add, Int.toNat_natCast]) | (rw [Nat.zero_add]) | rfl) ?_)) | (refine g_pick ?_; first | (refine x_pick_b rfl aD rfl ?_) | (refine x_pick_c rfl aD ?_) | (refine x_pick_a rfl aD ?_) | (refine x_pick_d rfl aD rfl ?_)) | (refine g_guard ?_; first | (refine x_gyes rfl rfl aD ?_) | (refine x_gno rfl rfl aD ?_) | (refine x_gun rfl rfl ?_) | (refine x_gsplit rfl rfl (fun h => ?_) (fun h => ?_) <;> (have h' := h; (try simp only [sx] at h')))) | (refine g_call ?_; first | (refine x_callG true (k_l1In _ _ _) rfl rfl rfl aS rfl aH ?_; simp only [cl]) | (refine x_callG true (k_l2Word a.name hsa) rfl rfl rfl aS rfl aH ?_; simp only [cl]) | (refine x_len_l aA rfl ?_) | (refine x_len_o aA rfl rfl ?_) | (refine x_len_n aA rfl ?_) | (refine x_len_s aA (evO_ok rfl) ?_)) | (refine x_alloc _ aA rfl ?_) | (refine x_allocF aA rfl ?_) | (refine x_storeO _ _ _ rfl rfl aE (by first | assumption | (exact TAgg.size aA)) rfl rfl rfl aZ rfl aL (by first | (first | (simp only [lx, Nat.reduceAdd]; first | done | rfl) | fail) | rfl) ?_) | (refine x_nil (hK _ _ (.inl rfl) ?_); clear hK K) | (refine x_nil (hK _ _ (.inr (by kernel_rfl)) ?_); clear hK K))
      | (refine g_code ?_; first | (refine v_seq ?_) | (refine v_region (fun K hK => ?_)) | (refine v_block ?_) | (refine v_skip ?_) | (refine v_ret ?_) | (refine v_exit ?_) | (refine g_cond ?_; first | (refine v_cond_y rfl aD ?_) | (refine v_cond_n rfl aD ?_) | (refine v_condt rfl (fun h => ?_) (fun h => ?_) <;> (have h' := h; (try simp only [sx] at h')))))
      | (refine q_then ?_) | (refine q_then_r ?_) | (refine q_then_e ?_) | (refine q_blk_n ?_) | (refine q_blk_r ?_) | (refine q_blk_e ?_) | (refine q_blk_o rfl ?_) | (refine q_loop_r ?_) | (refine q_loop_e ?_) | (refine ret_n ?_))
      all_goals first
        | (refine q_next (i + 1) rfl (by refine ⟨?_, ?_, rfl, rfl⟩ <;> (repeat' (first | exact trivial | exact ⟨rfl, rfl⟩ | exact rfl | exact ⟨sub_fn, refs_fn⟩ | refine ⟨⟨rfl, rfl⟩, ?_⟩ | refine ⟨⟨sub_fn, refs_fn⟩, ?_⟩ | refine ⟨⟨rfl, fun h => Bool.noConfusion h⟩, ?_⟩ | refine ⟨⟨rfl, fun h => ?_⟩, ?_⟩ | refine ⟨rfl, ?_⟩ | refine ⟨?_, ?_⟩ | fail))) ⟨by omega, okA_step hi2 ?_⟩ aO; unfold OkA; rw [hd]; exact ⟨⟨by omega, by assumption, by omega, by omega⟩, fun h0 => absurd h0 hi0⟩)
        | (refine ret_bool rfl (lookE_ok rfl) ?_
           have : ¬ GoodA xs := not_goodA hlt (fun hk => by
             unfold OkA at hk
             rw [hd] at hk
             obtain ⟨⟨q1, q2, q3, q4⟩, q5⟩ := hk
             first | contradiction | omega)
           simp [this])
  · repeat' (first
      | (refine g_exec ?_; first | (refine g_move ?_; refine x_moveO _ rfl ?_) | (refine g_assign ?_; refine x_assignO _ rfl ?_) | (refine g_bin ?_; first | (refine x_add rfl rfl aO ?_) | (refine x_sub rfl rfl aO ?_) | (refine x_bin _ rfl rfl rfl ?_) | (refine x_strBin _ rfl rfl rfl ?_)) | (refine g_un ?_; first | (refine x_not rfl ?_) | (refine x_neg rfl aO ?_)) | (refine g_load ?_; first | (refine x_load_pc aA rfl ?_) | (refine x_load_oc _ aA rfl rfl aE rfl ?_) | (refine x_load_pa _ aA rfl aZ aL ?_) | (refine x_load_oa _ aA rfl rfl aE aZ aL ?_)) | (refine g_field ?_; first | (refine x_field_p _ aA rfl aL ?_) | (refine x_field_o _ aA rfl rfl (by simp only [lx, Nat.reduceAdd]; first | done | rfl) ?_)) | (refine g_index ?_; first | (refine x_index_l _ aA rfl rfl aO aA ?_) | (refine x_index_o _ aA rfl rfl rfl rfl aO aO (by first | (rw [Nat.zero_add, Int.toNat_natCast]) | (rw [Nat.zero_add]) | rfl) ?_)) | (refine g_pick ?_; first | (refine x_pick_b rfl aD rfl ?_) | (refine x_pick_c rfl aD ?_) | (refine x_pick_a rfl aD ?_) | (refine x_pick_d rfl aD rfl ?_)) | (refine g_guard ?_; first | (refine x_gyes rfl rfl aD ?_) | (refine x_gno rfl rfl aD ?_) | (refine x_gun rfl rfl ?_) | (refine x_gsplit rfl rfl (fun h => ?_) (fun h => ?_) <;> (have h' := h; (try simp only [sx] at h')))) | (refine g_call ?_; first | (refine x_len_l aA rfl ?_) | (refine x_len_o aA rfl rfl ?_) | (refine x_len_n aA rfl ?_) | (refine x_len_s aA (evO_ok rfl) ?_)) | (refine x_alloc _ aA rfl ?_) | (refine x_allocF aA rfl ?_) | (refine x_storeO _ _ _ rfl rfl aE (by first | assumption | (exact TAgg.size aA)) rfl rfl rfl aZ rfl aL (by first | (first | (simp only [lx, Nat.reduceAdd]; first | done | rfl) | fail) | rfl) ?_) | (refine x_nil (hK _ _ (.inl rfl) ?_); clear hK K) | (refine x_nil (hK _ _ (.inr (by kernel_rfl)) ?_); clear hK K))
      | (refine g_code ?_; first | (refine v_seq ?_) | (refine v_region (fun K hK => ?_)) | (refine v_block ?_) | (refine v_skip ?_) | (refine v_ret ?_) | (refine v_exit ?_) | (refine g_cond ?_; first | (refine v_cond_y rfl aD ?_) | (refine v_cond_n rfl aD ?_) | (refine v_condt rfl (fun h => ?_) (fun h => ?_) <;> (have h' := h; (try simp only [sx] at h')))))
      | (refine q_then ?_) | (refine q_then_r ?_) | (refine q_then_e ?_) | (refine q_blk_n ?_) | (refine q_blk_r ?_) | (refine q_blk_e ?_) | (refine q_blk_o rfl ?_) | (refine q_loop_r ?_) | (refine q_loop_e ?_) | (refine ret_n ?_))
    (refine ret_bool rfl (lookE_ok rfl) ?_; rw [Bool.eq_iff_iff]; try simp only [sx] at *)
    constructor
    · intro h
      exact ⟨fun j hj => hi2 j aO, by omega⟩
    · intro h
      have := h.2
      omega
theorem k_areListedA (xs : List Asset) (hn : xs.length ≤ 1099511627776) (hs : ∀ a ∈ xs, a.name.size ≤ 1099511627776) : Con Try.prog 98 [.list 4 (xs.map Asset.pv), .int .i64 10, .fn 99 [] [], .fn 100 [] []] (.bool (decide (GoodA xs))) := by
  intro al
  refine contract_of hmix Try.func98 rfl (by kernel_rfl) (by kernel_rfl) (Nat.le_of_ble_eq_true rfl) (fun row h => by cases h) ?_
  have hty_u24 := ty_u24
  have hty_s24 := ty_s24
  have hty_a38 := ty_a38
  have hty_z38 := ty_z38
  have hty_t38 := ty_t38
  have hl1 : (xs.map Asset.pv).length = xs.length := by simp
  repeat' (first
      | (refine g_exec ?_; first | (refine g_move ?_; refine x_moveO _ rfl ?_) | (refine g_assign ?_; refine x_assignO _ rfl ?_) | (refine g_bin ?_; first | (refine x_add rfl rfl aO ?_) | (refine x_sub rfl rfl aO ?_) | (refine x_bin _ rfl rfl rfl ?_) | (refine x_strBin _ rfl rfl rfl ?_)) | (refine g_un ?_; first | (refine x_not rfl ?_) | (refine x_neg rfl aO ?_)) | (refine g_load ?_; first | (refine x_load_pc aA rfl ?_) | (refine x_load_oc _ aA rfl rfl aE rfl ?_) | (refine x_load_pa _ aA rfl aZ aL ?_) | (refine x_load_oa _ aA rfl rfl aE aZ aL ?_)) | (refine g_index ?_; first | (refine x_index_l _ aA rfl rfl aO aA ?_) | (refine x_index_o _ aA rfl rfl rfl rfl aO aO (by first | (rw [Nat.zero_add, Int.toNat_natCast]) | (rw [Nat.zero_add]) | rfl) ?_)) | (refine g_pick ?_; first | (refine x_pick_b rfl aD rfl ?_) | (refine x_pick_c rfl aD ?_) | (refine x_pick_a rfl aD ?_) | (refine x_pick_d rfl aD rfl ?_)) | (refine g_guard ?_; first | (refine x_gyes rfl rfl aD ?_) | (refine x_gno rfl rfl aD ?_) | (refine x_gun rfl rfl ?_) | (refine x_gsplit rfl rfl (fun h => ?_) (fun h => ?_) <;> (have h' := h; (try simp only [sx] at h')))) | (refine g_call ?_; first | (refine x_len_l aA rfl ?_) | (refine x_len_o aA rfl rfl ?_) | (refine x_len_n aA rfl ?_) | (refine x_len_s aA (evO_ok rfl) ?_)) | (refine x_alloc _ aA rfl ?_) | (refine x_allocF aA rfl ?_) | (refine x_storeO _ _ _ rfl rfl aE (by first | assumption | (exact TAgg.size aA)) rfl rfl rfl aZ rfl aL (by first | (first | (simp only [lx, Nat.reduceAdd]; first | done | rfl) | fail) | rfl) ?_) | (refine x_nil (hK _ _ (.inl rfl) ?_); clear hK K) | (refine x_nil (hK _ _ (.inr (by kernel_rfl)) ?_); clear hK K))
      | (refine g_code ?_; first | (refine v_seq ?_) | (refine v_region (fun K hK => ?_)) | (refine v_block ?_) | (refine v_skip ?_) | (refine v_ret ?_) | (refine v_exit ?_) | (refine g_cond ?_; first | (refine v_cond_y rfl aD ?_) | (refine v_cond_n rfl aD ?_) | (refine v_condt rfl (fun h => ?_) (fun h => ?_) <;> (have h' := h; (try simp only [sx] at h')))))
      | (refine q_then ?_) | (refine q_then_r ?_) | (refine q_then_e ?_) | (refine q_blk_n ?_) | (refine q_blk_r ?_) | (refine q_blk_e ?_) | (refine q_blk_o rfl ?_) | (refine q_loop_r ?_) | (refine q_loop_e ?_) | (refine ret_n ?_))
  refine v_loopK [0, 1, 2, 3, 11, 12] [] (fun i : Nat => [(13, .int .i64 i)]) (fun i : Nat => []) (fun i : Nat => i ≤ xs.length ∧ ∀ j, j < i → OkA xs j) (fun i : Nat => xs.length - i) (0) rfl rfl (fun _ => rfl) (fun _ => rfl) rfl (by refine ⟨?_, ?_, rfl, rfl⟩ <;> (repeat' (first | exact trivial | exact ⟨rfl, rfl⟩ | exact rfl | exact ⟨sub_fn, refs_fn⟩ | refine ⟨⟨rfl, rfl⟩, ?_⟩ | refine ⟨⟨sub_fn, refs_fn⟩, ?_⟩ | refine ⟨⟨rfl, fun h => Bool.noConfusion h⟩, ?_⟩ | refine ⟨⟨rfl, fun h => ?_⟩, ?_⟩ | refine ⟨rfl, ?_⟩ | refine ⟨?_, ?_⟩ | fail))) ⟨by omega, fun j hj => by omega⟩ (fun i hi => ?_)
  obtain ⟨hi1, hi2⟩ := hi
  rcases Nat.lt_or_ge i xs.length with hlt | hge
  · obtain ⟨a, hga⟩ := get_ex hlt
    have hx := Asset.at hga
    have hd := getA hga
    have hsa := hs a (get_mem hga)
    by_cases hi0 : 0 < i
    · obtain ⟨b, hgb⟩ := get_ex (show i - 1 < xs.length by omega)
      have hy := Asset.at hgb
      have hd' := getA hgb
      have e1 : ((i : Int) - 1).toNat = i - 1 := by omega
      rw [← e1] at hy
      repeat' (first
      | (refine g_exec ?_; first | (refine g_move ?_; refine x_moveO _ rfl ?_) | (refine g_assign ?_; refine x_assignO _ rfl ?_) | (refine g_bin ?_; first | (refine x_add rfl rfl aO ?_) | (refine x_sub rfl rfl aO ?_) | (refine x_bin _ rfl rfl rfl ?_) | (refine x_strBin _ rfl rfl rfl ?_)) | (refine g_un ?_; first | (refine x_not rfl ?_) | (refine x_neg rfl aO ?_)) | (refine g_load ?_; first | (refine x_load_pc aA rfl ?_) | (refine x_load_oc _ aA rfl rfl aE rfl ?_) | (refine x_load_pa _ aA rfl aZ aL ?_) | (refine x_load_oa _ aA rfl rfl aE aZ aL ?_)) | (refine g_index ?_; first | (refine x_index_l _ aA rfl rfl aO aA ?_) | (refine x_index_o _ aA rfl rfl rfl rfl aO aO (by first | (rw [Nat.zero_add, Int.toNat_natCast]) | (rw [Nat.zero_add]) | rfl) ?_)) | (refine g_pick ?_; first | (refine x_pick_b rfl aD rfl ?_) | (refine x_pick_c rfl aD ?_) | (refine x_pick_a rfl aD ?_) | (refine x_pick_d rfl aD rfl ?_)) | (refine g_guard ?_; first | (refine x_gyes rfl rfl aD ?_) | (refine x_gno rfl rfl aD ?_) | (refine x_gun rfl rfl ?_) | (refine x_gsplit rfl rfl (fun h => ?_) (fun h => ?_) <;> (have h' := h; (try simp only [sx] at h')))) | (refine g_call ?_; first | (refine x_callG true (k_isAsset a hsa) rfl rfl rfl aS rfl aH ?_; simp only [cl]) | (refine x_callG true (k_AreAssets1 a) rfl rfl rfl aS rfl aH ?_; simp only [cl]) | (refine x_callG true (k_AreAssets1 b) rfl rfl rfl aS rfl aH ?_; simp only [cl]) | (refine x_len_l aA rfl ?_) | (refine x_len_o aA rfl rfl ?_) | (refine x_len_n aA rfl ?_) | (refine x_len_s aA (evO_ok rfl) ?_)) | (refine x_alloc _ aA rfl ?_) | (refine x_allocF aA rfl ?_) | (refine x_storeO _ _ _ rfl rfl aE (by first | assumption | (exact TAgg.size aA)) rfl rfl rfl aZ rfl aL (by first | (first | (simp only [lx, Nat.reduceAdd]; first | done | rfl) | fail) | rfl) ?_) | (refine x_nil (hK _ _ (.inl rfl) ?_); clear hK K) | (refine x_nil (hK _ _ (.inr (by kernel_rfl)) ?_); clear hK K))
      | (refine g_code ?_; first | (refine v_seq ?_) | (refine v_region (fun K hK => ?_)) | (refine v_block ?_) | (refine v_skip ?_) | (refine v_ret ?_) | (refine v_exit ?_) | (refine g_cond ?_; first | (refine v_cond_y rfl aD ?_) | (refine v_cond_n rfl aD ?_) | (refine v_condt rfl (fun h => ?_) (fun h => ?_) <;> (have h' := h; (try simp only [sx] at h')))))
      | (refine q_then ?_) | (refine q_then_r ?_) | (refine q_then_e ?_) | (refine q_blk_n ?_) | (refine q_blk_r ?_) | (refine q_blk_e ?_) | (refine q_blk_o rfl ?_) | (refine q_loop_r ?_) | (refine q_loop_e ?_) | (refine ret_n ?_))
      all_goals first
        | (refine q_next (i + 1) rfl (by refine ⟨?_, ?_, rfl, rfl⟩ <;> (repeat' (first | exact trivial | exact ⟨rfl, rfl⟩ | exact rfl | exact ⟨sub_fn, refs_fn⟩ | refine ⟨⟨rfl, rfl⟩, ?_⟩ | refine ⟨⟨sub_fn, refs_fn⟩, ?_⟩ | refine ⟨⟨rfl, fun h => Bool.noConfusion h⟩, ?_⟩ | refine ⟨⟨rfl, fun h => ?_⟩, ?_⟩ | refine ⟨rfl, ?_⟩ | refine ⟨?_, ?_⟩ | fail))) ⟨by omega, okA_step hi2 ?_⟩ aO; unfold OkA; rw [hd, hd']; exact ⟨by assumption, fun _ => by omega⟩)
        | (refine ret_bool rfl (lookE_ok rfl) ?_
           have : ¬ GoodA xs := not_goodA hlt (fun hk => by
             unfold OkA at hk
             rw [hd, hd'] at hk
             first | exact absurd hk.1 aA | (have := hk.2 hi0; omega))
           simp [this])
    · repeat' (first
      | (refine g_exec ?_; first | (refine g_move ?_; refine x_moveO _ rfl ?_) | (refine g_assign ?_; refine x_assignO _ rfl ?_) | (refine g_bin ?_; first | (refine x_add rfl rfl aO ?_) | (refine x_sub rfl rfl aO ?_) | (refine x_bin _ rfl rfl rfl ?_) | (refine x_strBin _ rfl rfl rfl ?_)) | (refine g_un ?_; first | (refine x_not rfl ?_) | (refine x_neg rfl aO ?_)) | (refine g_load ?_; first | (refine x_load_pc aA rfl ?_) | (refine x_load_oc _ aA rfl rfl aE rfl ?_) | (refine x_load_pa _ aA rfl aZ aL ?_) | (refine x_load_oa _ aA rfl rfl aE aZ aL ?_)) | (refine g_index ?_; first | (refine x_index_l _ aA rfl rfl aO aA ?_) | (refine x_index_o _ aA rfl rfl rfl rfl aO aO (by first | (rw [Nat.zero_add, Int.toNat_natCast]) | (rw [Nat.zero_add]) | rfl) ?_)) | (refine g_pick ?_; first | (refine x_pick_b rfl aD rfl ?_) | (refine x_pick_c rfl aD ?_) | (refine x_pick_a rfl aD ?_) | (refine x_pick_d rfl aD rfl ?_)) | (refine g_guard ?_; first | (refine x_gyes rfl rfl aD ?_) | (refine x_gno rfl rfl aD ?_) | (refine x_gun rfl rfl ?_) | (refine x_gsplit rfl rfl (fun h => ?_) (fun h => ?_) <;> (have h' := h; (try simp only [sx] at h')))) | (refine g_call ?_; first | (refine x_callG true (k_isAsset a hsa) rfl rfl rfl aS rfl aH ?_; simp only [cl]) | (refine x_callG true (k_AreAssets1 a) rfl rfl rfl aS rfl aH ?_; simp only [cl]) | (refine x_len_l aA rfl ?_) | (refine x_len_o aA rfl rfl ?_) | (refine x_len_n aA rfl ?_) | (refine x_len_s aA (evO_ok rfl) ?_)) | (refine x_alloc _ aA rfl ?_) | (refine x_allocF aA rfl ?_) | (refine x_storeO _ _ _ rfl rfl aE (by first | assumption | (exact TAgg.size aA)) rfl rfl rfl aZ rfl aL (by first | (first | (simp only [lx, Nat.reduceAdd]; first | done | rfl) | fail) | rfl) ?_) | (refine x_nil (hK _ _ (.inl rfl) ?_); clear hK K) | (refine x_nil (hK _ _ (.inr (by kernel_rfl)) ?_); clear hK K))
      | (refine g_code ?_; first | (refine v_seq ?_) | (refine v_region (fun K hK => ?_)) | (refine v_block ?_) | (refine v_skip ?_) | (refine v_ret ?_) | (refine v_exit ?_) | (refine g_cond ?_; first | (refine v_cond_y rfl aD ?_) | (refine v_cond_n rfl aD ?_) | (refine v_condt rfl (fun h => ?_) (fun h => ?_) <;> (have h' := h; (try simp only [sx] at h')))))
      | (refine q_then ?_) | (refine q_then_r ?_) | (refine q_then_e ?_) | (refine q_blk_n ?_) | (refine q_blk_r ?_) | (refine q_blk_e ?_) | (refine q_blk_o rfl ?_) | (refine q_loop_r ?_) | (refine q_loop_e ?_) | (refine ret_n ?_))
      all_goals first
        | (refine q_next (i + 1) rfl (by refine ⟨?_, ?_, rfl, rfl⟩ <;> (repeat' (first | exact trivial | exact ⟨rfl, rfl⟩ | exact rfl | exact ⟨sub_fn, refs_fn⟩ | refine ⟨⟨rfl, rfl⟩, ?_⟩ | refine ⟨⟨sub_fn, refs_fn⟩, ?_⟩ | refine ⟨⟨rfl, fun h => Bool.noConfusion h⟩, ?_⟩ | refine ⟨⟨rfl, fun h => ?_⟩, ?_⟩ | refine ⟨rfl, ?_⟩ | refine ⟨?_, ?_⟩ | fail))) ⟨by omega, okA_step hi2 ?_⟩ aO; unfold OkA; rw [hd]; exact ⟨by assumption, fun h0 => absurd h0 hi0⟩)
        | (refine ret_bool rfl (lookE_ok rfl) ?_
           have : ¬ GoodA xs := not_goodA hlt (fun hk => by
             unfold OkA at hk
             rw [hd] at hk
             first | exact absurd hk.1 aA | (have := hk.2 hi0; omega))
           simp [this])
  · repeat' (first
      | (refine g_exec ?_; first | (refine g_move ?_; refine x_moveO _ rfl ?_) | (refine g_assign ?_; refine x_assignO _ rfl ?_) | (refine g_bin ?_; first | (refine x_add rfl rfl aO ?_) | (refine x_sub rfl rfl aO ?_) | (refine x_bin _ rfl rfl rfl ?_) | (refine x_strBin _ rfl rfl rfl ?_)) | (refine g_un ?_; first | (refine x_not rfl ?_) | (refine x_neg rfl aO ?_)) | (refine g_load ?_; first | (refine x_load_pc aA rfl ?_) | (refine x_load_oc _ aA rfl rfl aE rfl ?_) | (refine x_load_pa _ aA rfl aZ aL ?_) | (refine x_load_oa _ aA rfl rfl aE aZ aL ?_)) | (refine g_index ?_; first | (refine x_index_l _ aA rfl rfl aO aA ?_) | (refine x_index_o _ aA rfl rfl rfl rfl aO aO (by first | (rw [Nat.zero_add, Int.toNat_natCast]) | (rw [Nat.zero_add]) | rfl) ?_)) | (refine g_pick ?_; first | (refine x_pick_b rfl aD rfl ?_) | (refine x_pick_c rfl aD ?_) | (refine x_pick_a rfl aD ?_) | (refine x_pick_d rfl aD rfl ?_)) | (refine g_guard ?_; first | (refine x_gyes rfl rfl aD ?_) | (refine x_gno rfl rfl aD ?_) | (refine x_gun rfl rfl ?_) | (refine x_gsplit rfl rfl (fun h => ?_) (fun h => ?_) <;> (have h' := h; (try simp only [sx] at h')))) | (refine g_call ?_; first | (refine x_len_l aA rfl ?_) | (refine x_len_o aA rfl rfl ?_) | (refine x_len_n aA rfl ?_) | (refine x_len_s aA (evO_ok rfl) ?_)) | (refine x_alloc _ aA rfl ?_) | (refine x_allocF aA rfl ?_) | (refine x_storeO _ _ _ rfl rfl aE (by first | assumption | (exact TAgg.size aA)) rfl rfl rfl aZ rfl aL (by first | (first | (simp only [lx, Nat.reduceAdd]; first | done | rfl) | fail) | rfl) ?_) | (refine x_nil (hK _ _ (.inl rfl) ?_); clear hK K) | (refine x_nil (hK _ _ (.inr (by kernel_rfl)) ?_); clear hK K))
      | (refine g_code ?_; first | (refine v_seq ?_) | (refine v_region (fun K hK => ?_)) | (refine v_block ?_) | (refine v_skip ?_) | (refine v_ret ?_) | (refine v_exit ?_) | (refine g_cond ?_; first | (refine v_cond_y rfl aD ?_) | (refine v_cond_n rfl aD ?_) | (refine v_condt rfl (fun h => ?_) (fun h => ?_) <;> (have h' := h; (try simp only [sx] at h')))))
      | (refine q_then ?_) | (refine q_then_r ?_) | (refine q_then_e ?_) | (refine q_blk_n ?_) | (refine q_blk_r ?_) | (refine q_blk_e ?_) | (refine q_blk_o rfl ?_) | (refine q_loop_r ?_) | (refine q_loop_e ?_) | (refine ret_n ?_))
    (refine ret_bool rfl (lookE_ok rfl) ?_; rw [Bool.eq_iff_iff]; try simp only [sx] at *)
    constructor
    · intro h
      exact ⟨fun j hj => hi2 j aO, by omega⟩
    · intro h
      have := h.2
      omega
theorem k_sAreAssets (xs : List Asset) (hn : xs.length ≤ 1099511627776) (hs : ∀ a ∈ xs, a.name.size ≤ 1099511627776) : Con Try.prog 54 [.list 4 (xs.map Asset.pv)] (.bool (decide (GoodA xs))) := by
  intro al
  refine contract_of hmix Try.func54 rfl (by kernel_rfl) (by kernel_rfl) (Nat.le_of_ble_eq_true rfl) (fun row h => by cases h) ?_
  have hty_u24 := ty_u24
  have hty_s24 := ty_s24
  repeat' (first
      | (refine g_exec ?_; first | (refine g_move ?_; refine x_moveO _ rfl ?_) | (refine g_assign ?_; refine x_assignO _ rfl ?_) | (refine g_call ?_; refine x_callG true (k_l24Assets xs hn hs) rfl rfl rfl aS rfl aH ?_; simp only [cl]) | (refine x_nil (hK _ _ (.inl rfl) ?_); clear hK K) | (refine x_nil (hK _ _ (.inr (by kernel_rfl)) ?_); clear hK K))
      | (refine g_code ?_; first | (refine v_seq ?_) | (refine v_region (fun K hK => ?_)) | (refine v_block ?_) | (refine v_skip ?_) | (refine v_ret ?_) | (refine v_exit ?_))
      | (refine q_then ?_) | (refine q_then_r ?_) | (refine q_then_e ?_) | (refine q_blk_n ?_) | (refine q_blk_r ?_) | (refine q_blk_e ?_) | (refine q_blk_o rfl ?_) | (refine q_loop_r ?_) | (refine q_loop_e ?_) | (refine ret_n ?_))
  exact ret_bool rfl (lookE_ok rfl) rfl
theorem k_iAreAssets (xs : List Asset) (hn : xs.length ≤ 1099511627776) (hs : ∀ a ∈ xs, a.name.size ≤ 1099511627776) : Con Try.prog 53 [.list 4 (xs.map Asset.pv)] (.bool (decide (GoodA xs))) := by
  intro al
  refine contract_of hmix Try.func53 rfl (by kernel_rfl) (by kernel_rfl) (Nat.le_of_ble_eq_true rfl) (fun row h => by cases h) ?_
  have hty_u24 := ty_u24
  have hty_s24 := ty_s24
  repeat' (first
      | (refine g_exec ?_; first | (refine g_move ?_; refine x_moveO _ rfl ?_) | (refine g_assign ?_; refine x_assignO _ rfl ?_) | (refine g_call ?_; refine x_callG true (k_areListedA xs hn hs) rfl rfl rfl aS rfl aH ?_; simp only [cl]) | (refine x_nil (hK _ _ (.inl rfl) ?_); clear hK K) | (refine x_nil (hK _ _ (.inr (by kernel_rfl)) ?_); clear hK K))
      | (refine g_code ?_; first | (refine v_seq ?_) | (refine v_region (fun K hK => ?_)) | (refine v_block ?_) | (refine v_skip ?_) | (refine v_ret ?_) | (refine v_exit ?_))
      | (refine q_then ?_) | (refine q_then_r ?_) | (refine q_then_e ?_) | (refine q_blk_n ?_) | (refine q_blk_r ?_) | (refine q_blk_e ?_) | (refine q_blk_o rfl ?_) | (refine q_loop_r ?_) | (refine q_loop_e ?_) | (refine ret_n ?_))
  exact ret_bool rfl (lookE_ok rfl) rfl
@[reducible] def isIdA (n : Int) (a : Asset) : Bool := a.id == n
@[reducible] def fndA (xs : List Asset) (n : Int) : Int := idx (isIdA n) xs
theorem k_l24Find (xs : List Asset) (n : Int) (hn : xs.length ≤ 1099511627776) : Con Try.prog 84 [.list 4 (xs.map Asset.pv), .int .i64 n] (.int .i64 (fndA xs n)) := by
  intro al
  refine contract_of hmix Try.func84 rfl (by kernel_rfl) (by kernel_rfl) (Nat.le_of_ble_eq_true rfl) (fun row h => by cases h) ?_
  have hty_u24 := ty_u24
  have hty_s24 := ty_s24
  have hty_f38_0 := ty_f38_0
  have hty_c3 := ty_c3
  have hl1 : (xs.map Asset.pv).length = xs.length := by simp
  repeat' (first
      | (refine g_exec ?_; first | (refine g_move ?_; refine x_moveO _ rfl ?_) | (refine g_assign ?_; refine x_assignO _ rfl ?_) | (refine g_bin ?_; first | (refine x_add rfl rfl aO ?_) | (refine x_bin _ rfl rfl rfl ?_) | (refine x_boolEq aA rfl rfl ?_) | (refine x_strBin _ rfl rfl rfl ?_)) | (refine g_load ?_; first | (refine x_load_pc aA rfl ?_) | (refine x_load_oc _ aA rfl rfl aE rfl ?_) | (refine x_load_pa _ aA rfl aZ aL ?_) | (refine x_load_oa _ aA rfl rfl aE aZ aL ?_)) | (refine g_field ?_; first | (refine x_field_p _ aA rfl aL ?_) | (refine x_field_o _ aA rfl rfl (by simp only [lx, Nat.reduceAdd]; first | done | rfl) ?_)) | (refine g_index ?_; first | (refine x_index_l _ aA rfl rfl aO aA ?_) | (refine x_index_o _ aA rfl rfl rfl rfl aO aO (by first | (rw [Nat.zero_add, Int.toNat_natCast]) | (rw [Nat.zero_add]) | rfl) ?_)) | (refine g_call ?_; first | (refine x_len_l aA rfl ?_) | (refine x_len_o aA rfl rfl ?_) | (refine x_len_n aA rfl ?_) | (refine x_len_s aA (evO_ok rfl) ?_)) | (refine x_nil (hK _ _ (.inl rfl) ?_); clear hK K) | (refine x_nil (hK _ _ (.inr (by kernel_rfl)) ?_); clear hK K))
      | (refine g_code ?_; first | (refine v_seq ?_) | (refine v_region (fun K hK => ?_)) | (refine v_block ?_) | (refine v_skip ?_) | (refine v_ret ?_) | (refine v_exit ?_) | (refine g_cond ?_; first | (refine v_cond_y rfl aD ?_) | (refine v_cond_n rfl aD ?_) | (refine v_condt rfl (fun h => ?_) (fun h => ?_) <;> (have h' := h; (try simp only [sx] at h')))))
      | (refine q_then ?_) | (refine q_then_r ?_) | (refine q_then_e ?_) | (refine q_blk_n ?_) | (refine q_blk_r ?_) | (refine q_blk_e ?_) | (refine q_blk_o rfl ?_) | (refine q_loop_r ?_) | (refine q_loop_e ?_) | (refine ret_n ?_))
  refine v_loopK [0, 1] [] (fun i : Nat => [(5, .int .i64 i)]) (fun i : Nat => []) (fun i : Nat => i ≤ xs.length ∧ ∀ j, j < i → ∀ c, xs[j]? = some c → isIdA n c = false) (fun i : Nat => xs.length - i) (0) rfl rfl (fun _ => rfl) (fun _ => rfl) rfl (by refine ⟨?_, ?_, rfl, rfl⟩ <;> (repeat' (first | exact trivial | exact ⟨rfl, rfl⟩ | exact rfl | exact ⟨sub_fn, refs_fn⟩ | refine ⟨⟨rfl, rfl⟩, ?_⟩ | refine ⟨⟨sub_fn, refs_fn⟩, ?_⟩ | refine ⟨⟨rfl, fun h => Bool.noConfusion h⟩, ?_⟩ | refine ⟨⟨rfl, fun h => ?_⟩, ?_⟩ | refine ⟨rfl, ?_⟩ | refine ⟨?_, ?_⟩ | fail))) ⟨by omega, fun j hj => by omega⟩ (fun i hi => ?_)
  obtain ⟨hi1, hi2⟩ := hi
  rcases Nat.lt_or_ge i xs.length with hlt | hge
  · obtain ⟨a, hga⟩ := get_ex hlt
    have hx := Asset.at hga
    repeat' (first
      | (refine g_exec ?_; first | (refine g_move ?_; refine x_moveO _ rfl ?_) | (refine g_assign ?_; refine x_assignO _ rfl ?_) | (refine g_bin ?_; first | (refine x_add rfl rfl aO ?_) | (refine x_bin _ rfl rfl rfl ?_) | (refine x_boolEq aA rfl rfl ?_) | (refine x_strBin _ rfl rfl rfl ?_)) | (refine g_load ?_; first | (refine x_load_pc aA rfl ?_) | (refine x_load_oc _ aA rfl rfl aE rfl ?_) | (refine x_load_pa _ aA rfl aZ aL ?_) | (refine x_load_oa _ aA rfl rfl aE aZ aL ?_)) | (refine g_field ?_; first | (refine x_field_p _ aA rfl aL ?_) | (refine x_field_o _ aA rfl rfl (by simp only [lx, Nat.reduceAdd]; first | done | rfl) ?_)) | (refine g_index ?_; first | (refine x_index_l _ aA rfl rfl aO aA ?_) | (refine x_index_o _ aA rfl rfl rfl rfl aO aO (by first | (rw [Nat.zero_add, Int.toNat_natCast]) | (rw [Nat.zero_add]) | rfl) ?_)) | (refine g_call ?_; first | (refine x_len_l aA rfl ?_) | (refine x_len_o aA rfl rfl ?_) | (refine x_len_n aA rfl ?_) | (refine x_len_s aA (evO_ok rfl) ?_)) | (refine x_nil (hK _ _ (.inl rfl) ?_); clear hK K) | (refine x_nil (hK _ _ (.inr (by kernel_rfl)) ?_); clear hK K))
      | (refine g_code ?_; first | (refine v_seq ?_) | (refine v_region (fun K hK => ?_)) | (refine v_block ?_) | (refine v_skip ?_) | (refine v_ret ?_) | (refine v_exit ?_) | (refine g_cond ?_; first | (refine v_cond_y rfl aD ?_) | (refine v_cond_n rfl aD ?_) | (refine v_condt rfl (fun h => ?_) (fun h => ?_) <;> (have h' := h; (try simp only [sx] at h')))))
      | (refine q_then ?_) | (refine q_then_r ?_) | (refine q_then_e ?_) | (refine q_blk_n ?_) | (refine q_blk_r ?_) | (refine q_blk_e ?_) | (refine q_blk_o rfl ?_) | (refine q_loop_r ?_) | (refine q_loop_e ?_) | (refine ret_n ?_))
    · exact ret_int rfl (lookE_ok rfl) (idx_some hi2 hga (by simpa [isIdA] using h)).symm
    · refine q_next (i + 1) rfl (by refine ⟨?_, ?_, rfl, rfl⟩ <;> (repeat' (first | exact trivial | exact ⟨rfl, rfl⟩ | exact rfl | exact ⟨sub_fn, refs_fn⟩ | refine ⟨⟨rfl, rfl⟩, ?_⟩ | refine ⟨⟨sub_fn, refs_fn⟩, ?_⟩ | refine ⟨⟨rfl, fun h => Bool.noConfusion h⟩, ?_⟩ | refine ⟨⟨rfl, fun h => ?_⟩, ?_⟩ | refine ⟨rfl, ?_⟩ | refine ⟨?_, ?_⟩ | fail))) ⟨by omega, idx_step hi2 hga (by simpa [isIdA] using h)⟩ aO
  · repeat' (first
      | (refine g_exec ?_; first | (refine g_move ?_; refine x_moveO _ rfl ?_) | (refine g_assign ?_; refine x_assignO _ rfl ?_) | (refine g_bin ?_; first | (refine x_add rfl rfl aO ?_) | (refine x_bin _ rfl rfl rfl ?_) | (refine x_boolEq aA rfl rfl ?_) | (refine x_strBin _ rfl rfl rfl ?_)) | (refine g_load ?_; first | (refine x_load_pc aA rfl ?_) | (refine x_load_oc _ aA rfl rfl aE rfl ?_) | (refine x_load_pa _ aA rfl aZ aL ?_) | (refine x_load_oa _ aA rfl rfl aE aZ aL ?_)) | (refine g_field ?_; first | (refine x_field_p _ aA rfl aL ?_) | (refine x_field_o _ aA rfl rfl (by simp only [lx, Nat.reduceAdd]; first | done | rfl) ?_)) | (refine g_index ?_; first | (refine x_index_l _ aA rfl rfl aO aA ?_) | (refine x_index_o _ aA rfl rfl rfl rfl aO aO (by first | (rw [Nat.zero_add, Int.toNat_natCast]) | (rw [Nat.zero_add]) | rfl) ?_)) | (refine g_call ?_; first | (refine x_len_l aA rfl ?_) | (refine x_len_o aA rfl rfl ?_) | (refine x_len_n aA rfl ?_) | (refine x_len_s aA (evO_ok rfl) ?_)) | (refine x_nil (hK _ _ (.inl rfl) ?_); clear hK K) | (refine x_nil (hK _ _ (.inr (by kernel_rfl)) ?_); clear hK K))
      | (refine g_code ?_; first | (refine v_seq ?_) | (refine v_region (fun K hK => ?_)) | (refine v_block ?_) | (refine v_skip ?_) | (refine v_ret ?_) | (refine v_exit ?_) | (refine g_cond ?_; first | (refine v_cond_y rfl aD ?_) | (refine v_cond_n rfl aD ?_) | (refine v_condt rfl (fun h => ?_) (fun h => ?_) <;> (have h' := h; (try simp only [sx] at h')))))
      | (refine q_then ?_) | (refine q_then_r ?_) | (refine q_then_e ?_) | (refine q_blk_n ?_) | (refine q_blk_r ?_) | (refine q_blk_e ?_) | (refine q_blk_o rfl ?_) | (refine q_loop_r ?_) | (refine q_loop_e ?_) | (refine ret_n ?_))
    exact ret_int rfl (lookE_ok rfl) (idx_none fun j hj => hi2 j aO).symm
theorem k_assetAt1 (a : Asset) (n : Int) : Con Try.prog 112 [.agg a.pv, .ptr [.int .i64 n]] (.bool (isIdA n a)) := by
  intro al
  refine contract_of hmix Try.func112 rfl (by kernel_rfl) (by kernel_rfl) (Nat.le_of_ble_eq_true rfl) (fun row h => by cases h) ?_
  have hty_f38_0 := ty_f38_0
  have hty_c3 := ty_c3
  repeat' (first
      | (refine g_exec ?_; first | (refine g_assign ?_; refine x_assignO _ rfl ?_) | (refine g_bin ?_; first | (refine x_bin _ rfl rfl rfl ?_) | (refine x_boolEq aA rfl rfl ?_) | (refine x_strBin _ rfl rfl rfl ?_)) | (refine g_load ?_; first | (refine x_load_pc aA rfl ?_) | (refine x_load_oc _ aA rfl rfl aE rfl ?_) | (refine x_load_pa _ aA rfl aZ aL ?_) | (refine x_load_oa _ aA rfl rfl aE aZ aL ?_)) | (refine g_field ?_; first | (refine x_field_p _ aA rfl aL ?_) | (refine x_field_o _ aA rfl rfl (by simp only [lx, Nat.reduceAdd]; first | done | rfl) ?_)) | (refine x_boxO _ _ rfl rfl rfl rfl ?_) | (refine x_nil (hK _ _ (.inl rfl) ?_); clear hK K) | (refine x_nil (hK _ _ (.inr (by kernel_rfl)) ?_); clear hK K))
      | (refine g_code ?_; first | (refine v_seq ?_) | (refine v_region (fun K hK => ?_)) | (refine v_block ?_) | (refine v_skip ?_) | (refine v_ret ?_) | (refine v_exit ?_))
      | (refine q_then ?_) | (refine q_then_r ?_) | (refine q_then_e ?_) | (refine q_blk_n ?_) | (refine q_blk_r ?_) | (refine q_blk_e ?_) | (refine q_blk_o rfl ?_) | (refine q_loop_r ?_) | (refine q_loop_e ?_) | (refine ret_n ?_))
  exact ret_bool rfl (lookE_ok rfl) rfl
theorem k_assetAt (xs : List Asset) (n : Int) (hn : xs.length ≤ 1099511627776) : Con Try.prog 69 [.list 4 (xs.map Asset.pv), .int .i64 n] (.int .i64 (fndA xs n)) := by
  intro al
  refine contract_of hmix Try.func69 rfl (by kernel_rfl) (by kernel_rfl) (Nat.le_of_ble_eq_true rfl) (fun row h => by cases h) ?_
  have hty_u24 := ty_u24
  have hty_s24 := ty_s24
  repeat' (first
      | (refine g_exec ?_; first | (refine g_move ?_; refine x_moveO _ rfl ?_) | (refine g_assign ?_; refine x_assignO _ rfl ?_) | (refine g_call ?_; refine x_callG true (k_IndexFuncAsset xs 112 [[.int .i64 n]] (isIdA n) (fun a _ => k_assetAt1 a n) hn) rfl rfl rfl aS rfl aH ?_; simp only [cl]) | (refine x_boxO _ _ rfl rfl rfl rfl ?_) | (refine x_mkfn _ _ rfl rfl ?_) | (refine x_nil (hK _ _ (.inl rfl) ?_); clear hK K) | (refine x_nil (hK _ _ (.inr (by kernel_rfl)) ?_); clear hK K))
      | (refine g_code ?_; first | (refine v_seq ?_) | (refine v_region (fun K hK => ?_)) | (refine v_block ?_) | (refine v_skip ?_) | (refine v_ret ?_) | (refine v_exit ?_))
      | (refine q_then ?_) | (refine q_then_r ?_) | (refine q_then_e ?_) | (refine q_blk_n ?_) | (refine q_blk_r ?_) | (refine q_blk_e ?_) | (refine q_blk_o rfl ?_) | (refine q_loop_r ?_) | (refine q_loop_e ?_) | (refine ret_n ?_))
  exact ret_int rfl (lookE_ok rfl) rfl
theorem fndA_id {xs : List Asset} {n : Int} (h : 0 ≤ fndA xs n) : ∃ a ∈ xs, a.id = n := by
  obtain ⟨i, a, _, h2, h3⟩ := idx_at h
  exact ⟨a, get_mem h2, by simpa [isIdA] using h3⟩
def SceneS (xs : List Asset) (s : Scene) : Prop := (∀ b ∈ s.burned, 0 ≤ fndA xs b) ∧ (1 ≤ s.weight ∧ s.weight ≤ 100) ∧ (∀ b ∈ s.burned, 1 ≤ b ∧ b ≤ 99) ∧ Rising s.burned
instance (xs : List Asset) (s : Scene) : Decidable (SceneS xs s) := by unfold SceneS; infer_instance
def SceneI (xs : List Asset) (s : Scene) : Prop := (1 ≤ s.weight ∧ s.weight ≤ 100) ∧ Rising s.burned ∧ ∀ b ∈ s.burned, 0 ≤ fndA xs b
instance (xs : List Asset) (s : Scene) : Decidable (SceneI xs s) := by unfold SceneI; infer_instance
theorem scene_same {xs : List Asset} (hg : GoodA xs) (s : Scene) : SceneS xs s ↔ SceneI xs s := by
  constructor
  · intro h; exact ⟨h.2.1, h.2.2.2, h.1⟩
  · intro h
    refine ⟨h.2.2, h.1, fun b hb => ?_, h.2.1⟩
    obtain ⟨a, ha, e⟩ := fndA_id (h.2.2 b hb)
    have := (hg.one a ha).1
    omega
theorem k_l24Scene (xs : List Asset) (s : Scene) (hn : xs.length ≤ 1099511627776) (hb : s.burned.length ≤ 1099511627776) : Con Try.prog 74 [.list 4 (xs.map Asset.pv), .agg s.pv] (.bool (decide (SceneS xs s))) := by
  intro al
  refine contract_of hmix Try.func74 rfl (by kernel_rfl) (by kernel_rfl) (Nat.le_of_ble_eq_true rfl) (fun row h => by cases h) ?_
  have hty_f35_1 := ty_f35_1
  have hty_c33 := ty_c33
  have hty_u33 := ty_u33
  have hty_s33 := ty_s33
  have hty_c3 := ty_c3
  have hty_u24 := ty_u24
  have hty_s24 := ty_s24
  have hty_f35_0 := ty_f35_0
  have hl1 : (ints s.burned).length = s.burned.length := by simp
  repeat' (first
      | (refine g_exec ?_; first | (refine g_move ?_; refine x_moveO _ rfl ?_) | (refine g_assign ?_; refine x_assignO _ rfl ?_) | (refine g_bin ?_; first | (refine x_add rfl rfl aO ?_) | (refine x_bin _ rfl rfl rfl ?_) | (refine x_strBin _ rfl rfl rfl ?_)) | (refine g_load ?_; first | (refine x_load_pc aA rfl ?_) | (refine x_load_oc _ aA rfl rfl aE rfl ?_) | (refine x_load_pa _ aA rfl aZ aL ?_) | (refine x_load_oa _ aA rfl rfl aE aZ aL ?_)) | (refine g_field ?_; first | (refine x_field_p _ aA rfl aL ?_) | (refine x_field_o _ aA rfl rfl (by simp only [lx, Nat.reduceAdd]; first | done | rfl) ?_)) | (refine g_index ?_; first | (refine x_index_l _ aA rfl rfl aO aA ?_) | (refine x_index_o _ aA rfl rfl rfl rfl aO aO (by first | (rw [Nat.zero_add, Int.toNat_natCast]) | (rw [Nat.zero_add]) | rfl) ?_)) | (refine g_pick ?_; first | (refine x_pick_b rfl aD rfl ?_) | (refine x_pick_c rfl aD ?_) | (refine x_pick_a rfl aD ?_) | (refine x_pick_d rfl aD rfl ?_)) | (refine g_guard ?_; first | (refine x_gyes rfl rfl aD ?_) | (refine x_gno rfl rfl aD ?_) | (refine x_gun rfl rfl ?_) | (refine x_gsplit rfl rfl (fun h => ?_) (fun h => ?_) <;> (have h' := h; (try simp only [sx] at h')))) | (refine g_call ?_; first | (refine x_len_l aA rfl ?_) | (refine x_len_o aA rfl rfl ?_) | (refine x_len_n aA rfl ?_) | (refine x_len_s aA (evO_ok rfl) ?_)) | (refine x_boxO _ _ rfl rfl rfl rfl ?_) | (refine x_nil (hK _ _ (.inl rfl) ?_); clear hK K) | (refine x_nil (hK _ _ (.inr (by kernel_rfl)) ?_); clear hK K))
      | (refine g_code ?_; first | (refine v_seq ?_) | (refine v_region (fun K hK => ?_)) | (refine v_block ?_) | (refine v_skip ?_) | (refine v_ret ?_) | (refine v_exit ?_) | (refine g_cond ?_; first | (refine v_cond_y rfl aD ?_) | (refine v_cond_n rfl aD ?_) | (refine v_condt rfl (fun h => ?_) (fun h => ?_) <;> (have h' := h; (try simp only [sx] at h')))))
      | (refine q_then ?_) | (refine q_then_r ?_) | (refine q_then_e ?_) | (refine q_blk_n ?_) | (refine q_blk_r ?_) | (refine q_blk_e ?_) | (refine q_blk_o rfl ?_) | (refine q_loop_r ?_) | (refine q_loop_e ?_) | (refine ret_n ?_))
  refine v_loopK [0, 3] [] (fun i : Nat => [(5, .int .i64 i)]) (fun i : Nat => []) (fun i : Nat => i ≤ s.burned.length ∧ ∀ b ∈ s.burned.take i, 0 ≤ fndA xs b) (fun i : Nat => s.burned.length - i) (0) rfl rfl (fun _ => rfl) (fun _ => rfl) rfl (by refine ⟨?_, ?_, rfl, rfl⟩ <;> (repeat' (first | exact trivial | exact ⟨rfl, rfl⟩ | exact rfl | exact ⟨sub_fn, refs_fn⟩ | refine ⟨⟨rfl, rfl⟩, ?_⟩ | refine ⟨⟨sub_fn, refs_fn⟩, ?_⟩ | refine ⟨⟨rfl, fun h => Bool.noConfusion h⟩, ?_⟩ | refine ⟨⟨rfl, fun h => ?_⟩, ?_⟩ | refine ⟨rfl, ?_⟩ | refine ⟨?_, ?_⟩ | fail))) ⟨by omega, fun y hy => by simp at hy⟩ (fun i hi => ?_)
  obtain ⟨hi1, hi2⟩ := hi
  rcases Nat.lt_or_ge i s.burned.length with hlt | hge
  · obtain ⟨a, hga⟩ := get_ex hlt
    have hx := ints_at hga
    repeat' (first
      | (refine g_exec ?_; first | (refine g_move ?_; refine x_moveO _ rfl ?_) | (refine g_assign ?_; refine x_assignO _ rfl ?_) | (refine g_bin ?_; first | (refine x_add rfl rfl aO ?_) | (refine x_bin _ rfl rfl rfl ?_) | (refine x_strBin _ rfl rfl rfl ?_)) | (refine g_load ?_; first | (refine x_load_pc aA rfl ?_) | (refine x_load_oc _ aA rfl rfl aE rfl ?_) | (refine x_load_pa _ aA rfl aZ aL ?_) | (refine x_load_oa _ aA rfl rfl aE aZ aL ?_)) | (refine g_field ?_; first | (refine x_field_p _ aA rfl aL ?_) | (refine x_field_o _ aA rfl rfl (by simp only [lx, Nat.reduceAdd]; first | done | rfl) ?_)) | (refine g_index ?_; first | (refine x_index_l _ aA rfl rfl aO aA ?_) | (refine x_index_o _ aA rfl rfl rfl rfl aO aO (by first | (rw [Nat.zero_add, Int.toNat_natCast]) | (rw [Nat.zero_add]) | rfl) ?_)) | (refine g_pick ?_; first | (refine x_pick_b rfl aD rfl ?_) | (refine x_pick_c rfl aD ?_) | (refine x_pick_a rfl aD ?_) | (refine x_pick_d rfl aD rfl ?_)) | (refine g_guard ?_; first | (refine x_gyes rfl rfl aD ?_) | (refine x_gno rfl rfl aD ?_) | (refine x_gun rfl rfl ?_) | (refine x_gsplit rfl rfl (fun h => ?_) (fun h => ?_) <;> (have h' := h; (try simp only [sx] at h')))) | (refine g_call ?_; first | (refine x_callG true (k_l24Find xs a hn) rfl rfl rfl aS rfl aH ?_; simp only [cl]) | (refine x_len_l aA rfl ?_) | (refine x_len_o aA rfl rfl ?_) | (refine x_len_n aA rfl ?_) | (refine x_len_s aA (evO_ok rfl) ?_)) | (refine x_boxO _ _ rfl rfl rfl rfl ?_) | (refine x_nil (hK _ _ (.inl rfl) ?_); clear hK K) | (refine x_nil (hK _ _ (.inr (by kernel_rfl)) ?_); clear hK K))
      | (refine g_code ?_; first | (refine v_seq ?_) | (refine v_region (fun K hK => ?_)) | (refine v_block ?_) | (refine v_skip ?_) | (refine v_ret ?_) | (refine v_exit ?_) | (refine g_cond ?_; first | (refine v_cond_y rfl aD ?_) | (refine v_cond_n rfl aD ?_) | (refine v_condt rfl (fun h => ?_) (fun h => ?_) <;> (have h' := h; (try simp only [sx] at h')))))
      | (refine q_then ?_) | (refine q_then_r ?_) | (refine q_then_e ?_) | (refine q_blk_n ?_) | (refine q_blk_r ?_) | (refine q_blk_e ?_) | (refine q_blk_o rfl ?_) | (refine q_loop_r ?_) | (refine q_loop_e ?_) | (refine ret_n ?_))
    · refine ret_bool rfl (lookE_ok rfl) ?_
      have : ¬ SceneS xs s := fun hk => by have := hk.1 a (get_mem hga); omega
      simp [this]
    · refine q_next (i + 1) rfl (by refine ⟨?_, ?_, rfl, rfl⟩ <;> (repeat' (first | exact trivial | exact ⟨rfl, rfl⟩ | exact rfl | exact ⟨sub_fn, refs_fn⟩ | refine ⟨⟨rfl, rfl⟩, ?_⟩ | refine ⟨⟨sub_fn, refs_fn⟩, ?_⟩ | refine ⟨⟨rfl, fun h => Bool.noConfusion h⟩, ?_⟩ | refine ⟨⟨rfl, fun h => ?_⟩, ?_⟩ | refine ⟨rfl, ?_⟩ | refine ⟨?_, ?_⟩ | fail))) ⟨by omega, all_take_succ hga hi2 aO⟩ aO
  · rw [take_all hge] at hi2
    repeat' (first
      | (refine g_exec ?_; first | (refine g_move ?_; refine x_moveO _ rfl ?_) | (refine g_assign ?_; refine x_assignO _ rfl ?_) | (refine g_bin ?_; first | (refine x_add rfl rfl aO ?_) | (refine x_bin _ rfl rfl rfl ?_) | (refine x_strBin _ rfl rfl rfl ?_)) | (refine g_load ?_; first | (refine x_load_pc aA rfl ?_) | (refine x_load_oc _ aA rfl rfl aE rfl ?_) | (refine x_load_pa _ aA rfl aZ aL ?_) | (refine x_load_oa _ aA rfl rfl aE aZ aL ?_)) | (refine g_field ?_; first | (refine x_field_p _ aA rfl aL ?_) | (refine x_field_o _ aA rfl rfl (by simp only [lx, Nat.reduceAdd]; first | done | rfl) ?_)) | (refine g_index ?_; first | (refine x_index_l _ aA rfl rfl aO aA ?_) | (refine x_index_o _ aA rfl rfl rfl rfl aO aO (by first | (rw [Nat.zero_add, Int.toNat_natCast]) | (rw [Nat.zero_add]) | rfl) ?_)) | (refine g_pick ?_; first | (refine x_pick_b rfl aD rfl ?_) | (refine x_pick_c rfl aD ?_) | (refine x_pick_a rfl aD ?_) | (refine x_pick_d rfl aD rfl ?_)) | (refine g_guard ?_; first | (refine x_gyes rfl rfl aD ?_) | (refine x_gno rfl rfl aD ?_) | (refine x_gun rfl rfl ?_) | (refine x_gsplit rfl rfl (fun h => ?_) (fun h => ?_) <;> (have h' := h; (try simp only [sx] at h')))) | (refine g_call ?_; first | (refine x_callG true (k_l1In _ _ _) rfl rfl rfl aS rfl aH ?_; simp only [cl]) | (refine x_callG true (k_l1Rising s.burned 1 99 hb) rfl rfl rfl aS rfl aH ?_; simp only [cl]) | (refine x_len_l aA rfl ?_) | (refine x_len_o aA rfl rfl ?_) | (refine x_len_n aA rfl ?_) | (refine x_len_s aA (evO_ok rfl) ?_)) | (refine x_boxO _ _ rfl rfl rfl rfl ?_) | (refine x_nil (hK _ _ (.inl rfl) ?_); clear hK K) | (refine x_nil (hK _ _ (.inr (by kernel_rfl)) ?_); clear hK K))
      | (refine g_code ?_; first | (refine v_seq ?_) | (refine v_region (fun K hK => ?_)) | (refine v_block ?_) | (refine v_skip ?_) | (refine v_ret ?_) | (refine v_exit ?_) | (refine g_cond ?_; first | (refine v_cond_y rfl aD ?_) | (refine v_cond_n rfl aD ?_) | (refine v_condt rfl (fun h => ?_) (fun h => ?_) <;> (have h' := h; (try simp only [sx] at h')))))
      | (refine q_then ?_) | (refine q_then_r ?_) | (refine q_then_e ?_) | (refine q_blk_n ?_) | (refine q_blk_r ?_) | (refine q_blk_e ?_) | (refine q_blk_o rfl ?_) | (refine q_loop_r ?_) | (refine q_loop_e ?_) | (refine ret_n ?_))
    all_goals
      (refine ret_bool rfl (lookE_ok rfl) ?_; rw [Bool.eq_iff_iff]; try simp only [sx] at *)
      unfold SceneS
      constructor
      · intro hq
        first | contradiction | exact ⟨hi2, by omega, hq.1, hq.2⟩
      · intro hq
        first | exact ⟨hq.2.2.1, hq.2.2.2⟩ | (have := hq.2.1; omega)
theorem k_isScene1 (xs : List Asset) (n : Int) (hn : xs.length ≤ 1099511627776) : Con Try.prog 109 [.int .i64 n, .ptr [.list 4 (xs.map Asset.pv)]] (.bool (decide (0 ≤ fndA xs n))) := by
  intro al
  refine contract_of hmix Try.func109 rfl (by kernel_rfl) (by kernel_rfl) (Nat.le_of_ble_eq_true rfl) (fun row h => by cases h) ?_
  have hty_c24 := ty_c24
  have hty_u24 := ty_u24
  have hty_s24 := ty_s24
  repeat' (first
      | (refine g_exec ?_; first | (refine g_move ?_; refine x_moveO _ rfl ?_) | (refine g_assign ?_; refine x_assignO _ rfl ?_) | (refine g_bin ?_; refine x_bin _ rfl rfl rfl ?_) | (refine g_load ?_; first | (refine x_load_pc aA rfl ?_) | (refine x_load_oc _ aA rfl rfl aE rfl ?_) | (refine x_load_pa _ aA rfl aZ aL ?_) | (refine x_load_oa _ aA rfl rfl aE aZ aL ?_)) | (refine g_call ?_; refine x_callG true (k_assetAt xs n hn) rfl rfl rfl aS rfl aH ?_; simp only [cl]) | (refine x_nil (hK _ _ (.inl rfl) ?_); clear hK K) | (refine x_nil (hK _ _ (.inr (by kernel_rfl)) ?_); clear hK K))
      | (refine g_code ?_; first | (refine v_seq ?_) | (refine v_region (fun K hK => ?_)) | (refine v_block ?_) | (refine v_skip ?_) | (refine v_ret ?_) | (refine v_exit ?_))
      | (refine q_then ?_) | (refine q_then_r ?_) | (refine q_then_e ?_) | (refine q_blk_n ?_) | (refine q_blk_r ?_) | (refine q_blk_e ?_) | (refine q_blk_o rfl ?_) | (refine q_loop_r ?_) | (refine q_loop_e ?_) | (refine ret_n ?_))
  exact ret_bool rfl (lookE_ok rfl) rfl
theorem k_isScene (xs : List Asset) (s : Scene) (hn : xs.length ≤ 1099511627776) (hb : s.burned.length ≤ 1099511627776) : Con Try.prog 67 [.list 4 (xs.map Asset.pv), .agg s.pv] (.bool (decide (SceneI xs s))) := by
  intro al
  refine contract_of hmix Try.func67 rfl (by kernel_rfl) (by kernel_rfl) (Nat.le_of_ble_eq_true rfl) (fun row h => by cases h) ?_
  have hty_f35_0 := ty_f35_0
  have hty_c3 := ty_c3
  have hty_f35_1 := ty_f35_1
  have hty_c33 := ty_c33
  have hty_u33 := ty_u33
  have hty_s33 := ty_s33
  have hall : (s.burned.all fun b => decide (0 ≤ fndA xs b)) = true ↔ ∀ b ∈ s.burned, 0 ≤ fndA xs b := by simp
  repeat' (first
      | (refine g_exec ?_; first | (refine g_move ?_; refine x_moveO _ rfl ?_) | (refine g_assign ?_; refine x_assignO _ rfl ?_) | (refine g_load ?_; first | (refine x_load_pc aA rfl ?_) | (refine x_load_oc _ aA rfl rfl aE rfl ?_) | (refine x_load_pa _ aA rfl aZ aL ?_) | (refine x_load_oa _ aA rfl rfl aE aZ aL ?_)) | (refine g_field ?_; first | (refine x_field_p _ aA rfl aL ?_) | (refine x_field_o _ aA rfl rfl (by simp only [lx, Nat.reduceAdd]; first | done | rfl) ?_)) | (refine g_pick ?_; first | (refine x_pick_b rfl aD rfl ?_) | (refine x_pick_c rfl aD ?_) | (refine x_pick_a rfl aD ?_) | (refine x_pick_d rfl aD rfl ?_)) | (refine g_guard ?_; first | (refine x_gyes rfl rfl aD ?_) | (refine x_gno rfl rfl aD ?_) | (refine x_gun rfl rfl ?_) | (refine x_gsplit rfl rfl (fun h => ?_) (fun h => ?_) <;> (have h' := h; (try simp only [sx] at h')))) | (refine g_call ?_; first | (refine x_callG true (k_in _ _ _) rfl rfl rfl aS rfl aH ?_; simp only [cl]) | (refine x_callG true (k_isRising s.burned hb) rfl rfl rfl aS rfl aH ?_; simp only [cl]) | (refine x_callG true (k_allInt s.burned 109 [[.list 4 (xs.map Asset.pv)]] (fun b => decide (0 ≤ fndA xs b)) (fun b _ => k_isScene1 xs b hn) hb) rfl rfl rfl aS rfl aH ?_; simp only [cl])) | (refine x_boxO _ _ rfl rfl rfl rfl ?_) | (refine x_mkfn _ _ rfl rfl ?_) | (refine x_nil (hK _ _ (.inl rfl) ?_); clear hK K) | (refine x_nil (hK _ _ (.inr (by kernel_rfl)) ?_); clear hK K))
      | (refine g_code ?_; first | (refine v_seq ?_) | (refine v_region (fun K hK => ?_)) | (refine v_block ?_) | (refine v_skip ?_) | (refine v_ret ?_) | (refine v_exit ?_))
      | (refine q_then ?_) | (refine q_then_r ?_) | (refine q_then_e ?_) | (refine q_blk_n ?_) | (refine q_blk_r ?_) | (refine q_blk_e ?_) | (refine q_blk_o rfl ?_) | (refine q_loop_r ?_) | (refine q_loop_e ?_) | (refine ret_n ?_))
  all_goals
    (refine ret_bool rfl (lookE_ok rfl) ?_; rw [Bool.eq_iff_iff]; try simp only [sx] at *)
    unfold SceneI
    constructor
    · intro hq
      first | contradiction | exact ⟨by omega, by assumption, hall.1 hq⟩
    · intro hq
      first | exact hall.2 hq.2.2 | (exact absurd hq.2.1 aA) | (have := hq.1; omega)
def AskA (xs : List Asset) (ys : List Scene) : Prop := (∀ s ∈ ys, SceneS xs s) ∧ GoodA xs ∧ 1 ≤ ys.length ∧ ys.length ≤ 12
instance (xs : List Asset) (ys : List Scene) : Decidable (AskA xs ys) := by unfold AskA; infer_instance
theorem k_l24Asked (xs : List Asset) (ys : List Scene) (hn : xs.length ≤ 1099511627776) (hs : ∀ a ∈ xs, a.name.size ≤ 1099511627776) (hm : ys.length ≤ 1099511627776) (hb : ∀ s ∈ ys, s.burned.length ≤ 1099511627776) :
    Con Try.prog 60 [.list 4 (xs.map Asset.pv), .list 2 (ys.map Scene.pv)] (.bool (decide (AskA xs ys))) := by
  intro al
  refine contract_of hmix Try.func60 rfl (by kernel_rfl) (by kernel_rfl) (Nat.le_of_ble_eq_true rfl) (fun row h => by cases h) ?_
  have hty_u25 := ty_u25
  have hty_s25 := ty_s25
  have hty_a35 := ty_a35
  have hty_u24 := ty_u24
  have hty_s24 := ty_s24
  have hl1 : (ys.map Scene.pv).length = ys.length := by simp
  repeat' (first
      | (refine g_exec ?_; first | (refine g_move ?_; refine x_moveO _ rfl ?_) | (refine g_assign ?_; refine x_assignO _ rfl ?_) | (refine g_bin ?_; first | (refine x_add rfl rfl aO ?_) | (refine x_bin _ rfl rfl rfl ?_) | (refine x_strBin _ rfl rfl rfl ?_)) | (refine g_un ?_; first | (refine x_not rfl ?_) | (refine x_neg rfl aO ?_)) | (refine g_load ?_; first | (refine x_load_pc aA rfl ?_) | (refine x_load_oc _ aA rfl rfl aE rfl ?_) | (refine x_load_pa _ aA rfl aZ aL ?_) | (refine x_load_oa _ aA rfl rfl aE aZ aL ?_)) | (refine g_index ?_; first | (refine x_index_l _ aA rfl rfl aO aA ?_) | (refine x_index_o _ aA rfl rfl rfl rfl aO aO (by first | (rw [Nat.zero_add, Int.toNat_natCast]) | (rw [Nat.zero_add]) | rfl) ?_)) | (refine g_pick ?_; first | (refine x_pick_b rfl aD rfl ?_) | (refine x_pick_c rfl aD ?_) | (refine x_pick_a rfl aD ?_) | (refine x_pick_d rfl aD rfl ?_)) | (refine g_guard ?_; first | (refine x_gyes rfl rfl aD ?_) | (refine x_gno rfl rfl aD ?_) | (refine x_gun rfl rfl ?_) | (refine x_gsplit rfl rfl (fun h => ?_) (fun h => ?_) <;> (have h' := h; (try simp only [sx] at h')))) | (refine g_call ?_; first | (refine x_len_l aA rfl ?_) | (refine x_len_o aA rfl rfl ?_) | (refine x_len_n aA rfl ?_) | (refine x_len_s aA (evO_ok rfl) ?_)) | (refine x_nil (hK _ _ (.inl rfl) ?_); clear hK K) | (refine x_nil (hK _ _ (.inr (by kernel_rfl)) ?_); clear hK K))
      | (refine g_code ?_; first | (refine v_seq ?_) | (refine v_region (fun K hK => ?_)) | (refine v_block ?_) | (refine v_skip ?_) | (refine v_ret ?_) | (refine v_exit ?_) | (refine g_cond ?_; first | (refine v_cond_y rfl aD ?_) | (refine v_cond_n rfl aD ?_) | (refine v_condt rfl (fun h => ?_) (fun h => ?_) <;> (have h' := h; (try simp only [sx] at h')))))
      | (refine q_then ?_) | (refine q_then_r ?_) | (refine q_then_e ?_) | (refine q_blk_n ?_) | (refine q_blk_r ?_) | (refine q_blk_e ?_) | (refine q_blk_o rfl ?_) | (refine q_loop_r ?_) | (refine q_loop_e ?_) | (refine ret_n ?_))
  refine v_loopK [0, 1] [] (fun i : Nat => [(5, .int .i64 i)]) (fun i : Nat => []) (fun i : Nat => i ≤ ys.length ∧ ∀ s ∈ ys.take i, SceneS xs s) (fun i : Nat => ys.length - i) (0) rfl rfl (fun _ => rfl) (fun _ => rfl) rfl (by refine ⟨?_, ?_, rfl, rfl⟩ <;> (repeat' (first | exact trivial | exact ⟨rfl, rfl⟩ | exact rfl | exact ⟨sub_fn, refs_fn⟩ | refine ⟨⟨rfl, rfl⟩, ?_⟩ | refine ⟨⟨sub_fn, refs_fn⟩, ?_⟩ | refine ⟨⟨rfl, fun h => Bool.noConfusion h⟩, ?_⟩ | refine ⟨⟨rfl, fun h => ?_⟩, ?_⟩ | refine ⟨rfl, ?_⟩ | refine ⟨?_, ?_⟩ | fail))) ⟨by omega, fun y hy => by simp at hy⟩ (fun i hi => ?_)
  obtain ⟨hi1, hi2⟩ := hi
  rcases Nat.lt_or_ge i ys.length with hlt | hge
  · obtain ⟨a, hga⟩ := get_ex hlt
    have hx := Scene.at hga
    have hba := hb a (get_mem hga)
    repeat' (first
      | (refine g_exec ?_; first | (refine g_move ?_; refine x_moveO _ rfl ?_) | (refine g_assign ?_; refine x_assignO _ rfl ?_) | (refine g_bin ?_; first | (refine x_add rfl rfl aO ?_) | (refine x_bin _ rfl rfl rfl ?_) | (refine x_strBin _ rfl rfl rfl ?_)) | (refine g_un ?_; first | (refine x_not rfl ?_) | (refine x_neg rfl aO ?_)) | (refine g_load ?_; first | (refine x_load_pc aA rfl ?_) | (refine x_load_oc _ aA rfl rfl aE rfl ?_) | (refine x_load_pa _ aA rfl aZ aL ?_) | (refine x_load_oa _ aA rfl rfl aE aZ aL ?_)) | (refine g_index ?_; first | (refine x_index_l _ aA rfl rfl aO aA ?_) | (refine x_index_o _ aA rfl rfl rfl rfl aO aO (by first | (rw [Nat.zero_add, Int.toNat_natCast]) | (rw [Nat.zero_add]) | rfl) ?_)) | (refine g_pick ?_; first | (refine x_pick_b rfl aD rfl ?_) | (refine x_pick_c rfl aD ?_) | (refine x_pick_a rfl aD ?_) | (refine x_pick_d rfl aD rfl ?_)) | (refine g_guard ?_; first | (refine x_gyes rfl rfl aD ?_) | (refine x_gno rfl rfl aD ?_) | (refine x_gun rfl rfl ?_) | (refine x_gsplit rfl rfl (fun h => ?_) (fun h => ?_) <;> (have h' := h; (try simp only [sx] at h')))) | (refine g_call ?_; first | (refine x_callG true (k_l24Scene xs a hn hba) rfl rfl rfl aS rfl aH ?_; simp only [cl]) | (refine x_len_l aA rfl ?_) | (refine x_len_o aA rfl rfl ?_) | (refine x_len_n aA rfl ?_) | (refine x_len_s aA (evO_ok rfl) ?_)) | (refine x_nil (hK _ _ (.inl rfl) ?_); clear hK K) | (refine x_nil (hK _ _ (.inr (by kernel_rfl)) ?_); clear hK K))
      | (refine g_code ?_; first | (refine v_seq ?_) | (refine v_region (fun K hK => ?_)) | (refine v_block ?_) | (refine v_skip ?_) | (refine v_ret ?_) | (refine v_exit ?_) | (refine g_cond ?_; first | (refine v_cond_y rfl aD ?_) | (refine v_cond_n rfl aD ?_) | (refine v_condt rfl (fun h => ?_) (fun h => ?_) <;> (have h' := h; (try simp only [sx] at h')))))
      | (refine q_then ?_) | (refine q_then_r ?_) | (refine q_then_e ?_) | (refine q_blk_n ?_) | (refine q_blk_r ?_) | (refine q_blk_e ?_) | (refine q_blk_o rfl ?_) | (refine q_loop_r ?_) | (refine q_loop_e ?_) | (refine ret_n ?_))
    · refine ret_bool rfl (lookE_ok rfl) ?_
      have : ¬ AskA xs ys := fun hk => h' (hk.1 a (get_mem hga))
      simp [this]
    · refine q_next (i + 1) rfl (by refine ⟨?_, ?_, rfl, rfl⟩ <;> (repeat' (first | exact trivial | exact ⟨rfl, rfl⟩ | exact rfl | exact ⟨sub_fn, refs_fn⟩ | refine ⟨⟨rfl, rfl⟩, ?_⟩ | refine ⟨⟨sub_fn, refs_fn⟩, ?_⟩ | refine ⟨⟨rfl, fun h => Bool.noConfusion h⟩, ?_⟩ | refine ⟨⟨rfl, fun h => ?_⟩, ?_⟩ | refine ⟨rfl, ?_⟩ | refine ⟨?_, ?_⟩ | fail))) ⟨by omega, all_take_succ hga hi2 h'⟩ aO
  · rw [take_all hge] at hi2
    repeat' (first
      | (refine g_exec ?_; first | (refine g_move ?_; refine x_moveO _ rfl ?_) | (refine g_assign ?_; refine x_assignO _ rfl ?_) | (refine g_bin ?_; first | (refine x_add rfl rfl aO ?_) | (refine x_bin _ rfl rfl rfl ?_) | (refine x_strBin _ rfl rfl rfl ?_)) | (refine g_un ?_; first | (refine x_not rfl ?_) | (refine x_neg rfl aO ?_)) | (refine g_load ?_; first | (refine x_load_pc aA rfl ?_) | (refine x_load_oc _ aA rfl rfl aE rfl ?_) | (refine x_load_pa _ aA rfl aZ aL ?_) | (refine x_load_oa _ aA rfl rfl aE aZ aL ?_)) | (refine g_index ?_; first | (refine x_index_l _ aA rfl rfl aO aA ?_) | (refine x_index_o _ aA rfl rfl rfl rfl aO aO (by first | (rw [Nat.zero_add, Int.toNat_natCast]) | (rw [Nat.zero_add]) | rfl) ?_)) | (refine g_pick ?_; first | (refine x_pick_b rfl aD rfl ?_) | (refine x_pick_c rfl aD ?_) | (refine x_pick_a rfl aD ?_) | (refine x_pick_d rfl aD rfl ?_)) | (refine g_guard ?_; first | (refine x_gyes rfl rfl aD ?_) | (refine x_gno rfl rfl aD ?_) | (refine x_gun rfl rfl ?_) | (refine x_gsplit rfl rfl (fun h => ?_) (fun h => ?_) <;> (have h' := h; (try simp only [sx] at h')))) | (refine g_call ?_; first | (refine x_callG true (k_l24Assets xs hn hs) rfl rfl rfl aS rfl aH ?_; simp only [cl]) | (refine x_callG true (k_l1In _ _ _) rfl rfl rfl aS rfl aH ?_; simp only [cl]) | (refine x_len_l aA rfl ?_) | (refine x_len_o aA rfl rfl ?_) | (refine x_len_n aA rfl ?_) | (refine x_len_s aA (evO_ok rfl) ?_)) | (refine x_nil (hK _ _ (.inl rfl) ?_); clear hK K) | (refine x_nil (hK _ _ (.inr (by kernel_rfl)) ?_); clear hK K))
      | (refine g_code ?_; first | (refine v_seq ?_) | (refine v_region (fun K hK => ?_)) | (refine v_block ?_) | (refine v_skip ?_) | (refine v_ret ?_) | (refine v_exit ?_) | (refine g_cond ?_; first | (refine v_cond_y rfl aD ?_) | (refine v_cond_n rfl aD ?_) | (refine v_condt rfl (fun h => ?_) (fun h => ?_) <;> (have h' := h; (try simp only [sx] at h')))))
      | (refine q_then ?_) | (refine q_then_r ?_) | (refine q_then_e ?_) | (refine q_blk_n ?_) | (refine q_blk_r ?_) | (refine q_blk_e ?_) | (refine q_blk_o rfl ?_) | (refine q_loop_r ?_) | (refine q_loop_e ?_) | (refine ret_n ?_))
    all_goals
      (refine ret_bool rfl (lookE_ok rfl) ?_; rw [Bool.eq_iff_iff]; try simp only [sx] at *)
      unfold AskA
      constructor
      · intro hq
        first | contradiction | exact ⟨hi2, by assumption, by omega⟩
      · intro hq
        first | omega | (exact absurd hq.2.1 aA)
theorem k_AreScenes1 (xs : List Asset) (s : Scene) (hn : xs.length ≤ 1099511627776) (hb : s.burned.length ≤ 1099511627776) : Con Try.prog 66 [.agg s.pv, .ptr [.list 4 (xs.map Asset.pv)]] (.bool (decide (SceneI xs s))) := by
  intro al
  refine contract_of hmix Try.func66 rfl (by kernel_rfl) (by kernel_rfl) (Nat.le_of_ble_eq_true rfl) (fun row h => by cases h) ?_
  have hty_c24 := ty_c24
  have hty_a35 := ty_a35
  have hty_u24 := ty_u24
  have hty_s24 := ty_s24
  repeat' (first
      | (refine g_exec ?_; first | (refine g_assign ?_; refine x_assignO _ rfl ?_) | (refine g_load ?_; first | (refine x_load_pc aA rfl ?_) | (refine x_load_oc _ aA rfl rfl aE rfl ?_) | (refine x_load_pa _ aA rfl aZ aL ?_) | (refine x_load_oa _ aA rfl rfl aE aZ aL ?_)) | (refine g_call ?_; refine x_callG true (k_isScene xs s hn hb) rfl rfl rfl aS rfl aH ?_; simp only [cl]) | (refine x_boxO _ _ rfl rfl rfl rfl ?_) | (refine x_nil (hK _ _ (.inl rfl) ?_); clear hK K) | (refine x_nil (hK _ _ (.inr (by kernel_rfl)) ?_); clear hK K))
      | (refine g_code ?_; first | (refine v_seq ?_) | (refine v_region (fun K hK => ?_)) | (refine v_block ?_) | (refine v_skip ?_) | (refine v_ret ?_) | (refine v_exit ?_))
      | (refine q_then ?_) | (refine q_then_r ?_) | (refine q_then_e ?_) | (refine q_blk_n ?_) | (refine q_blk_r ?_) | (refine q_blk_e ?_) | (refine q_blk_o rfl ?_) | (refine q_loop_r ?_) | (refine q_loop_e ?_) | (refine ret_n ?_))
  exact ret_bool rfl (lookE_ok rfl) rfl
theorem k_iAreScenes (xs : List Asset) (ys : List Scene) (hn : xs.length ≤ 1099511627776) (hs : ∀ a ∈ xs, a.name.size ≤ 1099511627776) (hm : ys.length ≤ 1099511627776) (hb : ∀ s ∈ ys, s.burned.length ≤ 1099511627776) :
    Con Try.prog 13 [.list 4 (xs.map Asset.pv), .list 2 (ys.map Scene.pv)] (.bool (decide (AskA xs ys))) := by
  intro al
  refine contract_of hmix Try.func13 rfl (by kernel_rfl) (by kernel_rfl) (Nat.le_of_ble_eq_true rfl) (fun row h => by cases h) ?_
  have hty_c24 := ty_c24
  have hty_u24 := ty_u24
  have hty_s24 := ty_s24
  have hty_u25 := ty_u25
  have hty_s25 := ty_s25
  have hl1 : (ys.map Scene.pv).length = ys.length := by simp
  have hall : (ys.all fun s => decide (SceneI xs s)) = true ↔ ∀ s ∈ ys, SceneI xs s := by simp
  repeat' (first
      | (refine g_exec ?_; first | (refine g_move ?_; refine x_moveO _ rfl ?_) | (refine g_assign ?_; refine x_assignO _ rfl ?_) | (refine g_load ?_; first | (refine x_load_pc aA rfl ?_) | (refine x_load_oc _ aA rfl rfl aE rfl ?_) | (refine x_load_pa _ aA rfl aZ aL ?_) | (refine x_load_oa _ aA rfl rfl aE aZ aL ?_)) | (refine g_pick ?_; first | (refine x_pick_b rfl aD rfl ?_) | (refine x_pick_c rfl aD ?_) | (refine x_pick_a rfl aD ?_) | (refine x_pick_d rfl aD rfl ?_)) | (refine g_guard ?_; first | (refine x_gyes rfl rfl aD ?_) | (refine x_gno rfl rfl aD ?_) | (refine x_gun rfl rfl ?_) | (refine x_gsplit rfl rfl (fun h => ?_) (fun h => ?_) <;> (have h' := h; (try simp only [sx] at h')))) | (refine g_call ?_; first | (refine x_callG true (k_iAreAssets xs hn hs) rfl rfl rfl aS rfl aH ?_; simp only [cl]) | (refine x_callG true (k_in _ _ _) rfl rfl rfl aS rfl aH ?_; simp only [cl]) | (refine x_callG true (k_allScene ys 66 [[.list 4 (xs.map Asset.pv)]] (fun s => decide (SceneI xs s)) (fun s h => k_AreScenes1 xs s hn (hb s h)) hm) rfl rfl rfl aS rfl aH ?_; simp only [cl]) | (refine x_len_l aA rfl ?_) | (refine x_len_o aA rfl rfl ?_) | (refine x_len_n aA rfl ?_) | (refine x_len_s aA (evO_ok rfl) ?_)) | (refine x_boxO _ _ rfl rfl rfl rfl ?_) | (refine x_mkfn _ _ rfl rfl ?_) | (refine x_nil (hK _ _ (.inl rfl) ?_); clear hK K) | (refine x_nil (hK _ _ (.inr (by kernel_rfl)) ?_); clear hK K))
      | (refine g_code ?_; first | (refine v_seq ?_) | (refine v_region (fun K hK => ?_)) | (refine v_block ?_) | (refine v_skip ?_) | (refine v_ret ?_) | (refine v_exit ?_))
      | (refine q_then ?_) | (refine q_then_r ?_) | (refine q_then_e ?_) | (refine q_blk_n ?_) | (refine q_blk_r ?_) | (refine q_blk_e ?_) | (refine q_blk_o rfl ?_) | (refine q_loop_r ?_) | (refine q_loop_e ?_) | (refine ret_n ?_))
  all_goals
    (refine ret_bool rfl (lookE_ok rfl) ?_; rw [Bool.eq_iff_iff]; try simp only [sx] at *)
    unfold AskA
    constructor
    · intro hq
      first | contradiction | (have hg : GoodA xs := by assumption
                               exact ⟨fun s h => (scene_same hg s).2 (hall.1 hq s h), hg, by omega⟩)
    · intro hq
      first | (exact hall.2 fun s h => (scene_same hq.2.1 s).1 (hq.1 s h)) | (exact absurd hq.2.1 aA) | (have := hq.2.2; omega)
end Go.Vs
