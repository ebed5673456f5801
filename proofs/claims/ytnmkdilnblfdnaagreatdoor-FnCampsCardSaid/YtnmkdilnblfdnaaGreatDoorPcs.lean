/- TEXTS READ: the reference's splitting; its camp out of a text. -/
import Derived.Test.YtnmkdilnblfdnaaGreatDoorVau
import Derived.Test.YtnmkdilnblfdnaaGreatDoorPc1
set_option linter.unusedVariables false
set_option linter.unusedSimpArgs false
set_option maxRecDepth 100000
set_option maxHeartbeats 4000000
-- SADD
namespace Go.Vs
open Go.Proofs
attribute [local irreducible] exec vwp thenQ blkQ loopQ RetPost

theorem et_aggP {al : Bool} {st : St} {cs ds xs ys : List PV} {u : List (Option Id)} (ha : ExpL al st cs ds []) (ht : ExpT al st xs ys u) : ExpT al st (.agg cs :: xs) (.agg ds :: ys) u := ⟨[], u, ha, ht, rfl⟩
theorem drop_at {l : List UInt8} {f i : Nat} {b : UInt8} (hf : f ≤ i) (hb : l[i]? = some b) : l.drop f = (l.drop f).take (i - f) ++ b :: l.drop (i + 1) := by
  obtain ⟨hi, e⟩ := List.getElem?_eq_some_iff.1 hb
  have h1 : (l.drop f).drop (i - f) = b :: l.drop (i + 1) := by
    rw [List.drop_drop, show f + (i - f) = i by omega, List.drop_eq_getElem_cons hi, e]
  rw [← h1, List.take_append_drop]
theorem take_next {l : List UInt8} {f i : Nat} {b : UInt8} (hf : f ≤ i) (hb : l[i]? = some b) : (l.drop f).take (i + 1 - f) = (l.drop f).take (i - f) ++ [b] := by
  rw [show i + 1 - f = (i - f) + 1 by omega, List.take_add_one, List.getElem?_drop, show f + (i - f) = i by omega, hb]
  rfl
theorem ext_bs (s : ByteArray) (f i : Nat) : s.extract f i = bs ((s.data.toList.drop f).take (i - f)) := by
  apply ByteArray.ext
  rw [ByteArray.data_extract]
  apply Array.toList_inj.1
  rw [Array.toList_extract, List.extract_eq_take_drop]
theorem k_l1Split (s : ByteArray) (hs : s.size ≤ 1099511627000) : Con Tryz.prog 46 [.str s, .int .u8 32] (.olist 9 1 (strs ((spl 32 s.data.toList).map bs))) := by
  have hsz := size_l s
  intro al
  refine contract_of hmix Tryz.func46 rfl (by kernel_rfl) (by kernel_rfl) (Nat.le_of_ble_eq_true rfl) (fun row h => by cases h) ?_
  have hty_s72 := ty_s72
  have hty_u9 := ty_u9
  have hty_u72 := ty_u72
  repeat' (first
      | (refine g_exec ?_; first | (refine g_move ?_; refine x_moveO _ rfl ?_) | (refine g_assign ?_; refine x_assignO _ rfl ?_) | (refine g_bin ?_; first | (refine x_add rfl rfl aO ?_) | (refine x_bin _ rfl rfl rfl ?_) | (refine x_boolEq aA rfl rfl ?_) | (refine x_strAdd rfl rfl (by first | omega | (simp only [app_size, bs_lit, bs_lit2, List.length_cons, List.length_nil]; omega) | fail) ?_) | (refine x_strBin _ rfl rfl rfl ?_)) | (refine g_call ?_; first | (refine x_len_l aA rfl ?_) | (refine x_len_o aA rfl rfl ?_) | (refine x_len_n aA rfl ?_) | (refine x_len_s aA (evO_ok rfl) ?_) | (refine x_appOO _ _ aA rfl (lookM (by rfl)) rfl (lookM (by rfl)) rfl aN ⟨rfl, rfl, by decide, by decide⟩ (by first | rfl | omega | (simp; done) | (simp; omega) | fail) ⟨by first | (simp only [List.length_cons, List.length_nil]; omega) | omega | fail, by decide⟩ rfl (by first | (first | (simp only [lx, Nat.reduceAdd]; first | done | rfl) | fail) | rfl) aP ?_) | (refine x_appCO _ _ aA rfl rfl (lookM (by rfl)) ⟨rfl, by decide⟩ aN (by first | exact Nat.succ_pos _ | omega | (simp; done)) ⟨by first | (simp only [List.length_cons, List.length_nil]; omega) | omega | fail, by decide⟩ rfl rfl aP ?_) | (refine x_appNO _ aA rfl rfl (lookM (by rfl)) ⟨rfl, by decide⟩ aN ⟨by first | (simp only [List.length_cons, List.length_nil]; omega) | omega | fail, by decide⟩ rfl aP ?_) | (refine x_app_ol _ aA rfl rfl rfl ⟨rfl, rfl, rfl, by decide, by decide⟩ (by first | rfl | (simp; done) | fail) ⟨by omega, by decide⟩ rfl aL (by first | (rw [Nat.zero_add]) | rfl) ?_)) | (refine g_slice ?_; first | (refine x_sliceL _ aA rfl rfl rfl aO (by first | assumption | rfl) ?_) | (refine x_sliceO _ _ aA rfl (lookM (by rfl)) rfl rfl rfl aO (by first | (simp only [Nat.zero_add, Int.toNat_natCast]; exact rfl) | rfl) (by first | (simp only [Nat.sub_zero, Int.toNat_natCast]; exact rfl) | rfl) ?_) | (refine x_sliceS aA rfl rfl rfl aO rfl ?_)) | (refine x_slice3 _ aA rfl rfl rfl aO (by first | exact List.take_of_length_le aO | rfl) ?_) | (refine x_index_s _ aA (evO_ok rfl) (evO_ok rfl) aO aA ?_) | (refine x_buildSliceO aA rfl rfl rfl ?_) | (refine x_nil (hK _ _ (.inl rfl) ?_); clear hK K) | (refine x_nil (hK _ _ (.inr (by kernel_rfl)) ?_); clear hK K))
      | (refine g_code ?_; first | (refine v_seq ?_) | (refine v_region (fun K hK => ?_)) | (refine v_block ?_) | (refine v_skip ?_) | (refine v_ret ?_) | (refine v_exit ?_) | (refine g_cond ?_; first | (refine v_cond_y rfl aD ?_) | (refine v_cond_n rfl aD ?_) | (refine v_condt rfl (fun h => ?_) (fun h => ?_) <;> (have h' := h; (try simp only [sx] at h')))))
      | (refine q_then ?_) | (refine q_then_r ?_) | (refine q_then_e ?_) | (refine q_blk_n ?_) | (refine q_blk_r ?_) | (refine q_blk_e ?_) | (refine q_blk_o rfl ?_) | (refine q_loop_r ?_) | (refine q_loop_e ?_) | (refine ret_n ?_))
  refine v_loopK [0, 1] [] (fun q : Nat × Nat × Nat × List (List PV) => [(5, .osl (1001, 0) 0 q.2.2.1), (6, .int .i64 q.1), (7, .int .i64 q.2.1)]) (fun q : Nat × Nat × Nat × List (List PV) => [((1001, 0), some ⟨9, 1, q.2.2.2, false⟩)]) (fun q : Nat × Nat × Nat × List (List PV) => q.1 ≤ q.2.1 ∧ q.2.1 ≤ s.size ∧ q.2.2.2.length = q.2.2.1 ∧ q.2.2.1 ≤ q.2.1 ∧ ∃ ps : List (List UInt8), q.2.2.2 = strs (ps.map bs) ∧ spl 32 s.data.toList = ps ++ spl 32 (s.data.toList.drop q.1) ∧ (32 : UInt8) ∉ (s.data.toList.drop q.1).take (q.2.1 - q.1)) (fun q : Nat × Nat × Nat × List (List PV) => s.size - q.2.1) ((0, 0, 0, [])) rfl rfl (fun _ => rfl) (fun _ => rfl) rfl (by refine ⟨?_, ?_, rfl, rfl⟩ <;> (repeat' (first | exact trivial | exact ⟨rfl, rfl⟩ | exact rfl | exact ⟨sub_fn, refs_fn⟩ | refine ⟨⟨rfl, rfl⟩, ?_⟩ | refine ⟨⟨sub_fn, refs_fn⟩, ?_⟩ | refine ⟨⟨rfl, fun h => Bool.noConfusion h⟩, ?_⟩ | refine ⟨⟨rfl, fun h => ?_⟩, ?_⟩ | refine ⟨rfl, ?_⟩ | refine ⟨?_, ?_⟩ | fail))) ⟨Nat.le_refl _, Nat.zero_le _, rfl, Nat.le_refl _, [], rfl, by simp, by simp⟩ (fun q hq => ?_)
  obtain ⟨f, i, m, es⟩ := q
  obtain ⟨h1, h2, h3, h4, ps, h5, h6, h7⟩ := hq
  simp only at h1 h2 h3 h4 h5 h6 h7
  dsimp only
  rcases Nat.lt_or_ge i s.size with hlt | hge
  · obtain ⟨b, hb⟩ := byte_ex hlt
    have hbl := byte_l hb
    by_cases hc : b = 32
    · have hsp : spl 32 (s.data.toList.drop f) = (s.data.toList.drop f).take (i - f) :: spl 32 (s.data.toList.drop (i + 1)) := by
        have e := drop_at h1 hbl
        rw [hc] at e
        calc spl 32 (s.data.toList.drop f) = spl 32 ((s.data.toList.drop f).take (i - f) ++ 32 :: s.data.toList.drop (i + 1)) := by rw [← e]
          _ = _ := spl_hit 32 _ _ h7
      have hb32 : b.toNat = 32 := by rw [hc]; rfl
      repeat' (first
      | (refine g_exec ?_; first | (refine g_move ?_; refine x_moveO _ rfl ?_) | (refine g_assign ?_; refine x_assignO _ rfl ?_) | (refine g_bin ?_; first | (refine x_add rfl rfl aO ?_) | (refine x_bin _ rfl rfl rfl ?_) | (refine x_boolEq aA rfl rfl ?_) | (refine x_strAdd rfl rfl (by first | omega | (simp only [app_size, bs_lit, bs_lit2, List.length_cons, List.length_nil]; omega) | fail) ?_) | (refine x_strBin _ rfl rfl rfl ?_)) | (refine g_call ?_; first | (refine x_len_l aA rfl ?_) | (refine x_len_o aA rfl rfl ?_) | (refine x_len_n aA rfl ?_) | (refine x_len_s aA (evO_ok rfl) ?_) | (refine x_appOO _ _ aA rfl (lookM (by rfl)) rfl (lookM (by rfl)) rfl aN ⟨rfl, rfl, by decide, by decide⟩ (by first | rfl | omega | (simp; done) | (simp; omega) | fail) ⟨by first | (simp only [List.length_cons, List.length_nil]; omega) | omega | fail, by decide⟩ rfl (by first | (first | (simp only [lx, Nat.reduceAdd]; first | done | rfl) | fail) | rfl) aP ?_) | (refine x_appCO _ _ aA rfl rfl (lookM (by rfl)) ⟨rfl, by decide⟩ aN (by first | exact Nat.succ_pos _ | omega | (simp; done)) ⟨by first | (simp only [List.length_cons, List.length_nil]; omega) | omega | fail, by decide⟩ rfl rfl aP ?_) | (refine x_appNO _ aA rfl rfl (lookM (by rfl)) ⟨rfl, by decide⟩ aN ⟨by first | (simp only [List.length_cons, List.length_nil]; omega) | omega | fail, by decide⟩ rfl aP ?_) | (refine x_app_ol _ aA rfl rfl rfl ⟨rfl, rfl, rfl, by decide, by decide⟩ (by first | rfl | (simp; done) | fail) ⟨by omega, by decide⟩ rfl aL (by first | (rw [Nat.zero_add]) | rfl) ?_)) | (refine g_slice ?_; first | (refine x_sliceL _ aA rfl rfl rfl aO (by first | assumption | rfl) ?_) | (refine x_sliceO _ _ aA rfl (lookM (by rfl)) rfl rfl rfl aO (by first | (simp only [Nat.zero_add, Int.toNat_natCast]; exact rfl) | rfl) (by first | (simp only [Nat.sub_zero, Int.toNat_natCast]; exact rfl) | rfl) ?_) | (refine x_sliceS aA rfl rfl rfl aO rfl ?_)) | (refine x_slice3 _ aA rfl rfl rfl aO (by first | exact List.take_of_length_le aO | rfl) ?_) | (refine x_index_s _ aA (evO_ok rfl) (evO_ok rfl) aO aA ?_) | (refine x_buildSliceO aA rfl rfl rfl ?_) | (refine x_nil (hK _ _ (.inl rfl) ?_); clear hK K) | (refine x_nil (hK _ _ (.inr (by kernel_rfl)) ?_); clear hK K))
      | (refine g_code ?_; first | (refine v_seq ?_) | (refine v_region (fun K hK => ?_)) | (refine v_block ?_) | (refine v_skip ?_) | (refine v_ret ?_) | (refine v_exit ?_) | (refine g_cond ?_; first | (refine v_cond_y rfl aD ?_) | (refine v_cond_n rfl aD ?_) | (refine v_condt rfl (fun h => ?_) (fun h => ?_) <;> (have h' := h; (try simp only [sx] at h')))))
      | (refine q_then ?_) | (refine q_then_r ?_) | (refine q_then_e ?_) | (refine q_blk_n ?_) | (refine q_blk_r ?_) | (refine q_blk_e ?_) | (refine q_blk_o rfl ?_) | (refine q_loop_r ?_) | (refine q_loop_e ?_) | (refine ret_n ?_))
      all_goals first
        | (exfalso; omega)
        | (refine q_next (i + 1, i + 1, m + 1, es ++ [[.str (s.extract f i)]]) rfl (by refine ⟨?_, ?_, rfl, rfl⟩ <;> (repeat' (first | exact trivial | exact ⟨rfl, rfl⟩ | exact rfl | exact ⟨sub_fn, refs_fn⟩ | refine ⟨⟨rfl, rfl⟩, ?_⟩ | refine ⟨⟨sub_fn, refs_fn⟩, ?_⟩ | refine ⟨⟨rfl, fun h => Bool.noConfusion h⟩, ?_⟩ | refine ⟨⟨rfl, fun h => ?_⟩, ?_⟩ | refine ⟨rfl, ?_⟩ | refine ⟨?_, ?_⟩ | fail))) ⟨Nat.le_refl _, by simp only; omega, by simp [h3], by simp only; omega, ps ++ [(s.data.toList.drop f).take (i - f)], by rw [h5, ext_bs]; simp, by rw [h6, hsp]; simp, by simp⟩ (by simp only; omega))
    · have hb32 : b.toNat ≠ 32 := fun e => hc (UInt8.toNat_inj.1 e)
      repeat' (first
      | (refine g_exec ?_; first | (refine g_move ?_; refine x_moveO _ rfl ?_) | (refine g_assign ?_; refine x_assignO _ rfl ?_) | (refine g_bin ?_; first | (refine x_add rfl rfl aO ?_) | (refine x_bin _ rfl rfl rfl ?_) | (refine x_boolEq aA rfl rfl ?_) | (refine x_strAdd rfl rfl (by first | omega | (simp only [app_size, bs_lit, bs_lit2, List.length_cons, List.length_nil]; omega) | fail) ?_) | (refine x_strBin _ rfl rfl rfl ?_)) | (refine g_call ?_; first | (refine x_len_l aA rfl ?_) | (refine x_len_o aA rfl rfl ?_) | (refine x_len_n aA rfl ?_) | (refine x_len_s aA (evO_ok rfl) ?_) | (refine x_appOO _ _ aA rfl (lookM (by rfl)) rfl (lookM (by rfl)) rfl aN ⟨rfl, rfl, by decide, by decide⟩ (by first | rfl | omega | (simp; done) | (simp; omega) | fail) ⟨by first | (simp only [List.length_cons, List.length_nil]; omega) | omega | fail, by decide⟩ rfl (by first | (first | (simp only [lx, Nat.reduceAdd]; first | done | rfl) | fail) | rfl) aP ?_) | (refine x_appCO _ _ aA rfl rfl (lookM (by rfl)) ⟨rfl, by decide⟩ aN (by first | exact Nat.succ_pos _ | omega | (simp; done)) ⟨by first | (simp only [List.length_cons, List.length_nil]; omega) | omega | fail, by decide⟩ rfl rfl aP ?_) | (refine x_appNO _ aA rfl rfl (lookM (by rfl)) ⟨rfl, by decide⟩ aN ⟨by first | (simp only [List.length_cons, List.length_nil]; omega) | omega | fail, by decide⟩ rfl aP ?_) | (refine x_app_ol _ aA rfl rfl rfl ⟨rfl, rfl, rfl, by decide, by decide⟩ (by first | rfl | (simp; done) | fail) ⟨by omega, by decide⟩ rfl aL (by first | (rw [Nat.zero_add]) | rfl) ?_)) | (refine g_slice ?_; first | (refine x_sliceL _ aA rfl rfl rfl aO (by first | assumption | rfl) ?_) | (refine x_sliceO _ _ aA rfl (lookM (by rfl)) rfl rfl rfl aO (by first | (simp only [Nat.zero_add, Int.toNat_natCast]; exact rfl) | rfl) (by first | (simp only [Nat.sub_zero, Int.toNat_natCast]; exact rfl) | rfl) ?_) | (refine x_sliceS aA rfl rfl rfl aO rfl ?_)) | (refine x_slice3 _ aA rfl rfl rfl aO (by first | exact List.take_of_length_le aO | rfl) ?_) | (refine x_index_s _ aA (evO_ok rfl) (evO_ok rfl) aO aA ?_) | (refine x_buildSliceO aA rfl rfl rfl ?_) | (refine x_nil (hK _ _ (.inl rfl) ?_); clear hK K) | (refine x_nil (hK _ _ (.inr (by kernel_rfl)) ?_); clear hK K))
      | (refine g_code ?_; first | (refine v_seq ?_) | (refine v_region (fun K hK => ?_)) | (refine v_block ?_) | (refine v_skip ?_) | (refine v_ret ?_) | (refine v_exit ?_) | (refine g_cond ?_; first | (refine v_cond_y rfl aD ?_) | (refine v_cond_n rfl aD ?_) | (refine v_condt rfl (fun h => ?_) (fun h => ?_) <;> (have h' := h; (try simp only [sx] at h')))))
      | (refine q_then ?_) | (refine q_then_r ?_) | (refine q_then_e ?_) | (refine q_blk_n ?_) | (refine q_blk_r ?_) | (refine q_blk_e ?_) | (refine q_blk_o rfl ?_) | (refine q_loop_r ?_) | (refine q_loop_e ?_) | (refine ret_n ?_))
      all_goals first
        | (exfalso; omega)
        | (refine q_next (f, i + 1, m, es) rfl (by refine ⟨?_, ?_, rfl, rfl⟩ <;> (repeat' (first | exact trivial | exact ⟨rfl, rfl⟩ | exact rfl | exact ⟨sub_fn, refs_fn⟩ | refine ⟨⟨rfl, rfl⟩, ?_⟩ | refine ⟨⟨sub_fn, refs_fn⟩, ?_⟩ | refine ⟨⟨rfl, fun h => Bool.noConfusion h⟩, ?_⟩ | refine ⟨⟨rfl, fun h => ?_⟩, ?_⟩ | refine ⟨rfl, ?_⟩ | refine ⟨?_, ?_⟩ | fail))) ⟨by simp only; omega, by simp only; omega, h3, by simp only; omega, ps, h5, h6, fun hm => by (simp only at hm; rw [take_next h1 hbl] at hm; rcases List.mem_append.1 hm with hm | hm; exact h7 hm; simp at hm; exact hc hm.symm)⟩ (by simp only; omega))
  · have hi : i = s.size := by omega
    subst hi
    have e1 : (s.data.toList.drop f).take (s.size - f) = s.data.toList.drop f := List.take_of_length_le (by rw [List.length_drop, hsz]; exact Nat.le_refl _)
    rw [e1] at h7
    have hsp := spl_none 32 _ h7
    have hfin : strs ((spl 32 s.data.toList).map bs) = es ++ [[.str (s.extract f s.size)]] := by
      rw [h6, hsp, h5, ext_bs, e1]
      simp
    rw [hfin]
    have hfl : ∀ e ∈ es ++ [[PV.str (s.extract f s.size)]], ∀ c ∈ e, c.flat = true := by rw [← hfin]; exact strs_flat _
    repeat' (first
      | (refine g_exec ?_; first | (refine g_move ?_; refine x_moveO _ rfl ?_) | (refine g_assign ?_; refine x_assignO _ rfl ?_) | (refine g_bin ?_; first | (refine x_add rfl rfl aO ?_) | (refine x_bin _ rfl rfl rfl ?_) | (refine x_boolEq aA rfl rfl ?_) | (refine x_strAdd rfl rfl (by first | omega | (simp only [app_size, bs_lit, bs_lit2, List.length_cons, List.length_nil]; omega) | fail) ?_) | (refine x_strBin _ rfl rfl rfl ?_)) | (refine g_call ?_; first | (refine x_len_l aA rfl ?_) | (refine x_len_o aA rfl rfl ?_) | (refine x_len_n aA rfl ?_) | (refine x_len_s aA (evO_ok rfl) ?_) | (refine x_appOO _ _ aA rfl (lookM (by rfl)) rfl (lookM (by rfl)) rfl aN ⟨rfl, rfl, by decide, by decide⟩ (by first | rfl | omega | (simp; done) | (simp; omega) | fail) ⟨by first | (simp only [List.length_cons, List.length_nil]; omega) | omega | fail, by decide⟩ rfl (by first | (first | (simp only [lx, Nat.reduceAdd]; first | done | rfl) | fail) | rfl) aP ?_) | (refine x_appCO _ _ aA rfl rfl (lookM (by rfl)) ⟨rfl, by decide⟩ aN (by first | exact Nat.succ_pos _ | omega | (simp; done)) ⟨by first | (simp only [List.length_cons, List.length_nil]; omega) | omega | fail, by decide⟩ rfl rfl aP ?_) | (refine x_appNO _ aA rfl rfl (lookM (by rfl)) ⟨rfl, by decide⟩ aN ⟨by first | (simp only [List.length_cons, List.length_nil]; omega) | omega | fail, by decide⟩ rfl aP ?_) | (refine x_app_ol _ aA rfl rfl rfl ⟨rfl, rfl, rfl, by decide, by decide⟩ (by first | rfl | (simp; done) | fail) ⟨by omega, by decide⟩ rfl aL (by first | (rw [Nat.zero_add]) | rfl) ?_)) | (refine g_slice ?_; first | (refine x_sliceL _ aA rfl rfl rfl aO (by first | assumption | rfl) ?_) | (refine x_sliceO _ _ aA rfl (lookM (by rfl)) rfl rfl rfl aO (by first | (simp only [Nat.zero_add, Int.toNat_natCast]; exact rfl) | rfl) (by first | (simp only [Nat.sub_zero, Int.toNat_natCast]; exact rfl) | rfl) ?_) | (refine x_sliceS aA rfl rfl rfl aO rfl ?_)) | (refine x_slice3 _ aA rfl rfl rfl aO (by first | exact List.take_of_length_le aO | rfl) ?_) | (refine x_index_s _ aA (evO_ok rfl) (evO_ok rfl) aO aA ?_) | (refine x_buildSliceO aA rfl rfl rfl ?_) | (refine x_nil (hK _ _ (.inl rfl) ?_); clear hK K) | (refine x_nil (hK _ _ (.inr (by kernel_rfl)) ?_); clear hK K))
      | (refine g_code ?_; first | (refine v_seq ?_) | (refine v_region (fun K hK => ?_)) | (refine v_block ?_) | (refine v_skip ?_) | (refine v_ret ?_) | (refine v_exit ?_) | (refine g_cond ?_; first | (refine v_cond_y rfl aD ?_) | (refine v_cond_n rfl aD ?_) | (refine v_condt rfl (fun h => ?_) (fun h => ?_) <;> (have h' := h; (try simp only [sx] at h')))))
      | (refine q_then ?_) | (refine q_then_r ?_) | (refine q_then_e ?_) | (refine q_blk_n ?_) | (refine q_blk_r ?_) | (refine q_blk_e ?_) | (refine q_blk_o rfl ?_) | (refine q_loop_r ?_) | (refine q_loop_e ?_) | (refine ret_n ?_))
    all_goals try (exfalso; omega)
    all_goals exact ret_list rfl (lookE_ok (by rfl)) (by rfl) (by decide) (by simp [h3]) hfl rfl

/-- The camp whose text it is. -/
noncomputable def pcO (s : ByteArray) : Option Camp := by
  classical
  exact if h : ∃ c, One c ∧ campT c = s then some (Classical.choose h) else none
theorem campT_words (c : Camp) : spl 32 (campT c).data.toList = [[99, 97, 109, 112], Lib.decDigits c.id.toNat ++ [58], Lib.decDigits c.people.toNat, w3 c.people.toNat, Lib.decDigits c.stock.toNat, w5 c.stock.toNat] := camp_spl _ _ _
theorem bs_inj {l m : List UInt8} (h : bs l = bs m) : l = m := by
  have := congrArg (fun b => b.data.toList) h
  simpa [bs] using this
theorem dec_inj {a b : Nat} (h : Lib.decDigits a = Lib.decDigits b) : a = b := by
  have h1 := decFrom_dec a
  rw [h, decFrom_dec b] at h1
  exact (Option.some.inj h1).symm
theorem campT_inj {c d : Camp} (hc : One c) (hd : One d) (h : campT c = campT d) : c = d := by
  have h1 := campT_words c
  rw [h, campT_words d] at h1
  simp only [List.cons.injEq, and_true, true_and] at h1
  obtain ⟨e1, e2, _, e3, _⟩ := h1
  have e1 := dec_inj (List.append_cancel_right e1)
  have e2 := dec_inj e2
  have e3 := dec_inj e3
  obtain ⟨⟨a1, a2⟩, ⟨a3, a4⟩, ⟨a5, a6⟩⟩ := hc
  obtain ⟨⟨b1, b2⟩, ⟨b3, b4⟩, ⟨b5, b6⟩⟩ := hd
  cases c; cases d
  simp only [Camp.mk.injEq]
  simp only at *
  omega
theorem pcO_some {s : ByteArray} {c : Camp} (hc : One c) (h : campT c = s) : pcO s = some c := by
  unfold pcO
  have he : ∃ c, One c ∧ campT c = s := ⟨c, hc, h⟩
  rw [dif_pos he]
  have h2 := Classical.choose_spec he
  exact congrArg some (campT_inj h2.1 hc (h2.2.trans h.symm))
theorem pcO_none {s : ByteArray} (h : ∀ c, One c → campT c ≠ s) : pcO s = none := by
  unfold pcO
  rw [dif_neg fun ⟨c, h1, h2⟩ => h c h1 h2]
theorem pcO_cases (s : ByteArray) : (∃ c, One c ∧ campT c = s ∧ pcO s = some c) ∨ (pcO s = none ∧ ∀ c, One c → campT c ≠ s) := by
  by_cases h : ∃ c, One c ∧ campT c = s
  · obtain ⟨c, h1, h2⟩ := h
    exact .inl ⟨c, h1, h2, pcO_some h1 h2⟩
  · have h' : ∀ c, One c → campT c ≠ s := fun c h1 h2 => h ⟨c, h1, h2⟩
    exact .inr ⟨pcO_none h', h'⟩
def camp0 : Camp := ⟨0, 0, 0⟩
theorem spl_part (c : UInt8) : ∀ (l x : List UInt8), x ∈ spl c l → x.length ≤ l.length
  | [], x, h => by
    simp [spl] at h
    subst h
    simp
  | b :: l, x, h => by
    have ih := spl_part c l
    rw [spl] at h
    split at h
    · rcases List.mem_cons.1 h with rfl | h
      · simp
      · have := ih x h; simp; omega
    · split at h
      · rename_i p ps e
        rw [e] at ih
        rcases List.mem_cons.1 h with rfl | h
        · have := ih p (by simp); simp; omega
        · have := ih x (by simp [h]); simp; omega
      · cases h
theorem six {l : List (List UInt8)} (h : l.length = 6) : ∃ a b c d e f, l = [a, b, c, d, e, f] := by
  match l, h with
  | [a, b, c, d, e, f], _ => exact ⟨a, b, c, d, e, f, rfl⟩
theorem k_sParse (s : ByteArray) (hs : s.size ≤ 1048576) : Con Tryz.prog 18 [.str s] (.tuple [.agg ((pcO s).getD camp0).pv, .bool (pcO s).isSome]) := by
  have kS := k_l1Split s aO
  rcases pcO_cases s with ⟨c, hc, ht, he⟩ | ⟨he, hno⟩
  · rw [he]
    have hw := campT_words c
    rw [ht] at hw
    obtain ⟨i, p, k⟩ := c
    obtain ⟨⟨h1, h2⟩, ⟨h3, h4⟩, ⟨h5, h6⟩⟩ := id hc
    dsimp only at h1 h2 h3 h4 h5 h6 hw
    obtain ⟨i, rfl⟩ := Int.eq_ofNat_of_zero_le (show 0 ≤ i by omega)
    obtain ⟨p, rfl⟩ := Int.eq_ofNat_of_zero_le h3
    obtain ⟨k, rfl⟩ := Int.eq_ofNat_of_zero_le h5
    have hsz : s.size ≤ 50 := by rw [← ht]; exact camp_size _ _ _ (by dsimp only; omega) (by dsimp only; omega) (by dsimp only; omega)
    have r1 := k_l1Read (bs (Lib.decDigits i)) (by have := digits_len6 i aO; rw [bs_size]; omega)
    have r2 := k_l1Read (bs (Lib.decDigits p)) (by have := digits_len6 p aO; rw [bs_size]; omega)
    have r3 := k_l1Read (bs (Lib.decDigits k)) (by have := digits_len6 k aO; rw [bs_size]; omega)
    rw [rdV_dec i aO] at r1
    rw [rdV_dec p aO] at r2
    rw [rdV_dec k aO] at r3
    have kO := k_l23One ⟨(i : Int), (p : Int), (k : Int)⟩
    rw [decide_eq_true hc] at kO
    have kT := k_l23Text ⟨(i : Int), (p : Int), (k : Int)⟩ hc
    rw [ht] at kT
    have e1 : ((i : Int)).toNat = i := by omega
    have e2 : ((p : Int)).toNat = p := by omega
    have e3 : ((k : Int)).toNat = k := by omega
    rw [hw, e1, e2, e3] at kS
    simp only [strs, List.map_cons, List.map_nil] at kS
    generalize bs [99, 97, 109, 112] = b0 at *
    generalize bs (w3 p) = b3 at *
    generalize bs (w5 k) = b5 at *
    have hd1 : 1 ≤ (Lib.decDigits i).length := List.length_pos_iff.2 (dec_ne i)
    have hd2 := digits_len6 i aO
    have hx : (bs (Lib.decDigits i ++ [58])).extract 0 ((bs (Lib.decDigits i ++ [58])).size - 1) = bs (Lib.decDigits i) := by
      rw [ext_bs, bs_size]
      simp [bs]
    have hxs : (bs (Lib.decDigits i ++ [58])).size = (Lib.decDigits i).length + 1 := by rw [bs_size]; simp
    generalize bs (Lib.decDigits i ++ [58]) = W at *
    have hx2 : W.extract 0 ((W.size : Int) - 1).toNat = bs (Lib.decDigits i) := by rw [← hx]; congr 1; omega
    generalize bs (Lib.decDigits i) = D1 at *
    generalize bs (Lib.decDigits p) = D2 at *
    generalize bs (Lib.decDigits k) = D3 at *
    rw [← hx2] at r1
    obtain ⟨E, hE, l6, g1, g2, g4⟩ : ∃ E : List (List PV), E = [[PV.str b0], [PV.str W], [PV.str D2], [PV.str b3], [PV.str D3], [PV.str b5]] ∧ E.length = 6 ∧ E[1]? = some [.str W] ∧ E[2]? = some [.str D2] ∧ E[4]? = some [.str D3] := ⟨_, rfl, rfl, rfl, rfl, rfl⟩
    rw [← hE] at kS
    clear hE
    show Con _ _ _ (.tuple [.agg [.int .i64 (i : Int), .int .i64 (p : Int), .int .i64 (k : Int)], .bool true])
    intro al
    refine contract_of hmix Tryz.func18 rfl (by kernel_rfl) (by kernel_rfl) (Nat.le_of_ble_eq_true rfl) (fun row h => by cases h) ?_
    have hty_a34 := ty_a34
    have hty_z34 := ty_z34
    have hty_u9 := ty_u9
    have hty_u72 := ty_u72
    have hty_s72 := ty_s72
    have hty_c9 := ty_c9
    have hty_st34 := ty_st34
    have hty_t34 := ty_t34
    have hty_f34_0 := ty_f34_0
    have hty_t3 := ty_t3
    have hty_f34_1 := ty_f34_1
    have hty_f34_2 := ty_f34_2
    repeat' (first
      | (refine g_exec ?_; first | (refine g_move ?_; refine x_moveO _ rfl ?_) | (refine g_assign ?_; refine x_assignO _ rfl ?_) | (refine g_bin ?_; first | (refine x_sub rfl rfl aO ?_) | (refine x_bin _ rfl rfl rfl ?_) | (refine x_boolNe aA rfl rfl ?_) | (refine x_strAdd rfl rfl (by first | omega | (simp only [app_size, bs_lit, bs_lit2, List.length_cons, List.length_nil]; omega) | fail) ?_) | (refine x_strBin _ rfl rfl rfl ?_)) | (refine g_un ?_; first | (refine x_not rfl ?_) | (refine x_neg rfl aO ?_)) | (refine g_load ?_; first | (refine x_load_pc aA rfl ?_) | (refine x_load_oc _ aA rfl rfl aE rfl ?_) | (refine x_load_pa _ aA rfl aZ aL ?_) | (refine x_load_oa _ aA rfl rfl aE aZ aL ?_)) | (refine g_field ?_; first | (refine x_field_p _ aA rfl aL ?_) | (refine x_field_o _ aA rfl rfl (by simp only [lx, Nat.reduceAdd]; first | done | rfl) ?_)) | (refine g_index ?_; first | (refine x_index_l _ aA rfl rfl aO aA ?_) | (refine x_index_o _ aA rfl rfl rfl rfl aO aO (by first | (rw [Nat.zero_add, Int.toNat_natCast]) | (rw [Nat.zero_add]) | rfl) ?_)) | (refine g_pick ?_; first | (refine x_pick_b rfl aD rfl ?_) | (refine x_pick_c rfl aD ?_) | (refine x_pick_a rfl aD ?_) | (refine x_pick_d rfl aD rfl ?_)) | (refine g_guard ?_; first | (refine x_gyes rfl rfl aD ?_) | (refine x_gno rfl rfl aD ?_) | (refine x_gun rfl rfl ?_) | (refine x_gsplit rfl rfl (fun h => ?_) (fun h => ?_) <;> (have h' := h; (try simp only [sx] at h')))) | (refine g_call ?_; first | (refine x_callG true (kS) rfl rfl rfl aS rfl aH ?_; simp only [cl]) | (refine x_callG true (r1) rfl rfl rfl aS rfl aH ?_; simp only [cl]) | (refine x_callG true (r2) rfl rfl rfl aS rfl aH ?_; simp only [cl]) | (refine x_callG true (r3) rfl rfl rfl aS rfl aH ?_; simp only [cl]) | (refine x_callG true (kO) rfl rfl rfl aS rfl aH ?_; simp only [cl]) | (refine x_callG true (kT) rfl rfl rfl aS rfl aH ?_; simp only [cl]) | (refine x_len_l aA rfl ?_) | (refine x_len_o aA rfl rfl ?_) | (refine x_len_n aA rfl ?_) | (refine x_len_s aA (evO_ok rfl) ?_)) | (refine g_slice ?_; first | (refine x_sliceL _ aA rfl rfl rfl aO (by first | assumption | rfl) ?_) | (refine x_sliceO _ _ aA rfl (lookM (by rfl)) rfl rfl rfl aO (by first | (simp only [Nat.zero_add, Int.toNat_natCast]; exact rfl) | rfl) (by first | (simp only [Nat.sub_zero, Int.toNat_natCast]; exact rfl) | rfl) ?_) | (refine x_sliceS aA rfl rfl rfl aO rfl ?_)) | (refine x_slice3 _ aA rfl rfl rfl aO (by first | exact List.take_of_length_le aO | rfl) ?_) | (refine x_buildO _ _ aA rfl rfl (by simp [buildPV, PV.cells]; first | done | rfl) ?_) | (refine x_alloc _ aA rfl ?_) | (refine x_allocF aA rfl ?_) | (refine x_storeO _ _ _ rfl rfl aE (by first | assumption | (exact TAgg.size aA)) rfl rfl rfl aZ rfl aL (by first | (first | (simp only [lx, Nat.reduceAdd]; first | done | rfl) | fail) | rfl) ?_) | (refine x_extract _ rfl rfl ?_) | (refine x_nil (hK _ _ (.inl rfl) ?_); clear hK K) | (refine x_nil (hK _ _ (.inr (by kernel_rfl)) ?_); clear hK K))
      | (refine g_code ?_; first | (refine v_seq ?_) | (refine v_region (fun K hK => ?_)) | (refine v_block ?_) | (refine v_skip ?_) | (refine v_ret ?_) | (refine v_exit ?_) | (refine g_cond ?_; first | (refine v_cond_y rfl aD ?_) | (refine v_cond_n rfl aD ?_) | (refine v_condt rfl (fun h => ?_) (fun h => ?_) <;> (have h' := h; (try simp only [sx] at h')))))
      | (refine q_then ?_) | (refine q_then_r ?_) | (refine q_then_e ?_) | (refine q_blk_n ?_) | (refine q_blk_r ?_) | (refine q_blk_e ?_) | (refine q_blk_o rfl ?_) | (refine q_loop_r ?_) | (refine q_loop_e ?_) | (refine ret_n ?_))
    all_goals first
      | (exfalso; omega)
      | ((first | refine ret_T rfl rfl rfl (by first | exact trivial | (repeat' (first | exact trivial | refine ⟨by assumption, ?_⟩))) (by repeat' (first | exact trivial | refine ⟨by simp, ?_⟩)) ?_ | refine ret_A rfl rfl rfl (by first | exact trivial | (repeat' (first | exact trivial | refine ⟨by assumption, ?_⟩))) (by repeat' (first | exact trivial | refine ⟨by simp, ?_⟩)) ?_); (repeat' (first | exact et_end | exact el_end | refine et_int rfl ?_ ?_ | refine et_bool ?_ ?_ | refine et_str ?_ ?_ | refine et_list (by rfl) (by decide) rfl rfl ?_ ?_ ?_ ?_ | refine et_nil ?_ ?_ | refine et_agg ?_ ?_ | refine el_int rfl ?_ ?_ | refine el_bool ?_ ?_ | refine el_str ?_ ?_ | refine el_list (by rfl) (by decide) rfl rfl ?_ ?_ ?_ ?_ | refine el_nil ?_ ?_)); refine et_aggP ?_ ?_; all_goals (repeat' (first | exact et_end | exact el_end | refine et_bool ?_ ?_ | refine el_int rfl ?_ ?_)); all_goals rfl)
  · rw [he]
    show Con _ _ _ (.tuple [.agg [.int .i64 0, .int .i64 0, .int .i64 0], .bool false])
    by_cases h6 : (spl 32 s.data.toList).length = 6
    · obtain ⟨a0, a1, a2, a3, a4, a5, hw⟩ := six h6
      have hln := spl_len 32 s.data.toList
      have hss := size_l s
      rw [hw] at kS
      have z1 : (bs a1).size ≤ 1099511627776 := by rw [bs_size]; have := spl_part 32 s.data.toList a1 (by rw [hw]; simp); omega
      have z2 : (bs a2).size ≤ 1099511627776 := by rw [bs_size]; have := spl_part 32 s.data.toList a2 (by rw [hw]; simp); omega
      have z4 : (bs a4).size ≤ 1099511627776 := by rw [bs_size]; have := spl_part 32 s.data.toList a4 (by rw [hw]; simp); omega
      simp only [strs, List.map_cons, List.map_nil] at kS
      generalize bs a0 = b0 at *
      generalize bs a1 = b1 at *
      generalize bs a2 = b2 at *
      generalize bs a3 = b3 at *
      generalize bs a4 = b4 at *
      generalize bs a5 = b5 at *
      obtain ⟨E, hE, l6, g1, g2, g4⟩ : ∃ E : List (List PV), E = [[PV.str b0], [PV.str b1], [PV.str b2], [PV.str b3], [PV.str b4], [PV.str b5]] ∧ E.length = 6 ∧ E[1]? = some [.str b1] ∧ E[2]? = some [.str b2] ∧ E[4]? = some [.str b4] := ⟨_, rfl, rfl, rfl, rfl, rfl⟩
      rw [← hE] at kS
      clear hE
      have r1 := k_l1Read (b1.extract 0 ((b1.size : Int) - 1).toNat) (by rw [ByteArray.size_extract]; omega)
      have r2 := k_l1Read b2 z2
      have r3 := k_l1Read b4 z4
      generalize (rdV (b1.extract 0 ((b1.size : Int) - 1).toNat)).getD 0 = x1 at *
      generalize (rdV b2).getD 0 = x2 at *
      generalize (rdV b4).getD 0 = x3 at *
      generalize (rdV (b1.extract 0 ((b1.size : Int) - 1).toNat)).isSome = t1 at *
      generalize (rdV b2).isSome = t2 at *
      generalize (rdV b4).isSome = t3 at *
      have kO := k_l23One ⟨x1, x2, x3⟩
      by_cases hO : One ⟨x1, x2, x3⟩
      · rw [decide_eq_true hO] at kO
        have kT := k_l23Text ⟨x1, x2, x3⟩ hO
        have hne := hno _ hO
        generalize campT ⟨x1, x2, x3⟩ = T at *
        intro al
        refine contract_of hmix Tryz.func18 rfl (by kernel_rfl) (by kernel_rfl) (Nat.le_of_ble_eq_true rfl) (fun row h => by cases h) ?_
        have hty_a34 := ty_a34
        have hty_z34 := ty_z34
        have hty_u9 := ty_u9
        have hty_u72 := ty_u72
        have hty_s72 := ty_s72
        have hty_c9 := ty_c9
        have hty_st34 := ty_st34
        have hty_t34 := ty_t34
        have hty_f34_0 := ty_f34_0
        have hty_t3 := ty_t3
        have hty_f34_1 := ty_f34_1
        have hty_f34_2 := ty_f34_2
        repeat' (first
      | (refine g_exec ?_; first | (refine g_move ?_; refine x_moveO _ rfl ?_) | (refine g_assign ?_; refine x_assignO _ rfl ?_) | (refine g_bin ?_; first | (refine x_sub rfl rfl aO ?_) | (refine x_bin _ rfl rfl rfl ?_) | (refine x_boolNe aA rfl rfl ?_) | (refine x_strAdd rfl rfl (by first | omega | (simp only [app_size, bs_lit, bs_lit2, List.length_cons, List.length_nil]; omega) | fail) ?_) | (refine x_strBin _ rfl rfl rfl ?_)) | (refine g_un ?_; first | (refine x_not rfl ?_) | (refine x_neg rfl aO ?_)) | (refine g_load ?_; first | (refine x_load_pc aA rfl ?_) | (refine x_load_oc _ aA rfl rfl aE rfl ?_) | (refine x_load_pa _ aA rfl aZ aL ?_) | (refine x_load_oa _ aA rfl rfl aE aZ aL ?_)) | (refine g_field ?_; first | (refine x_field_p _ aA rfl aL ?_) | (refine x_field_o _ aA rfl rfl (by simp only [lx, Nat.reduceAdd]; first | done | rfl) ?_)) | (refine g_index ?_; first | (refine x_index_l _ aA rfl rfl aO aA ?_) | (refine x_index_o _ aA rfl rfl rfl rfl aO aO (by first | (rw [Nat.zero_add, Int.toNat_natCast]) | (rw [Nat.zero_add]) | rfl) ?_)) | (refine g_pick ?_; first | (refine x_pick_b rfl aD rfl ?_) | (refine x_pick_c rfl aD ?_) | (refine x_pick_a rfl aD ?_) | (refine x_pick_d rfl aD rfl ?_)) | (refine g_guard ?_; first | (refine x_gyes rfl rfl aD ?_) | (refine x_gno rfl rfl aD ?_) | (refine x_gun rfl rfl ?_) | (refine x_gsplit rfl rfl (fun h => ?_) (fun h => ?_) <;> (have h' := h; (try simp only [sx] at h')))) | (refine g_call ?_; first | (refine x_callG true (kS) rfl rfl rfl aS rfl aH ?_; simp only [cl]) | (refine x_callG true (r1) rfl rfl rfl aS rfl aH ?_; simp only [cl]) | (refine x_callG true (r2) rfl rfl rfl aS rfl aH ?_; simp only [cl]) | (refine x_callG true (r3) rfl rfl rfl aS rfl aH ?_; simp only [cl]) | (refine x_callG true (kO) rfl rfl rfl aS rfl aH ?_; simp only [cl]) | (refine x_callG true (kT) rfl rfl rfl aS rfl aH ?_; simp only [cl]) | (refine x_len_l aA rfl ?_) | (refine x_len_o aA rfl rfl ?_) | (refine x_len_n aA rfl ?_) | (refine x_len_s aA (evO_ok rfl) ?_)) | (refine g_slice ?_; first | (refine x_sliceL _ aA rfl rfl rfl aO (by first | assumption | rfl) ?_) | (refine x_sliceO _ _ aA rfl (lookM (by rfl)) rfl rfl rfl aO (by first | (simp only [Nat.zero_add, Int.toNat_natCast]; exact rfl) | rfl) (by first | (simp only [Nat.sub_zero, Int.toNat_natCast]; exact rfl) | rfl) ?_) | (refine x_sliceS aA rfl rfl rfl aO rfl ?_)) | (refine x_slice3 _ aA rfl rfl rfl aO (by first | exact List.take_of_length_le aO | rfl) ?_) | (refine x_buildO _ _ aA rfl rfl (by simp [buildPV, PV.cells]; first | done | rfl) ?_) | (refine x_alloc _ aA rfl ?_) | (refine x_allocF aA rfl ?_) | (refine x_storeO _ _ _ rfl rfl aE (by first | assumption | (exact TAgg.size aA)) rfl rfl rfl aZ rfl aL (by first | (first | (simp only [lx, Nat.reduceAdd]; first | done | rfl) | fail) | rfl) ?_) | (refine x_extract _ rfl rfl ?_) | (refine x_nil (hK _ _ (.inl rfl) ?_); clear hK K) | (refine x_nil (hK _ _ (.inr (by kernel_rfl)) ?_); clear hK K))
      | (refine g_code ?_; first | (refine v_seq ?_) | (refine v_region (fun K hK => ?_)) | (refine v_block ?_) | (refine v_skip ?_) | (refine v_ret ?_) | (refine v_exit ?_) | (refine g_cond ?_; first | (refine v_cond_y rfl aD ?_) | (refine v_cond_n rfl aD ?_) | (refine v_condt rfl (fun h => ?_) (fun h => ?_) <;> (have h' := h; (try simp only [sx] at h')))))
      | (refine q_then ?_) | (refine q_then_r ?_) | (refine q_then_e ?_) | (refine q_blk_n ?_) | (refine q_blk_r ?_) | (refine q_blk_e ?_) | (refine q_blk_o rfl ?_) | (refine q_loop_r ?_) | (refine q_loop_e ?_) | (refine ret_n ?_))
        all_goals first
          | (exfalso; omega)
          | (exfalso; apply hne; apply str_inj; assumption)
          | ((first | refine ret_T rfl rfl rfl (by first | exact trivial | (repeat' (first | exact trivial | refine ⟨by assumption, ?_⟩))) (by repeat' (first | exact trivial | refine ⟨by simp, ?_⟩)) ?_ | refine ret_A rfl rfl rfl (by first | exact trivial | (repeat' (first | exact trivial | refine ⟨by assumption, ?_⟩))) (by repeat' (first | exact trivial | refine ⟨by simp, ?_⟩)) ?_); (repeat' (first | exact et_end | exact el_end | refine et_int rfl ?_ ?_ | refine et_bool ?_ ?_ | refine et_str ?_ ?_ | refine et_list (by rfl) (by decide) rfl rfl ?_ ?_ ?_ ?_ | refine et_nil ?_ ?_ | refine et_agg ?_ ?_ | refine el_int rfl ?_ ?_ | refine el_bool ?_ ?_ | refine el_str ?_ ?_ | refine el_list (by rfl) (by decide) rfl rfl ?_ ?_ ?_ ?_ | refine el_nil ?_ ?_)); refine et_aggP ?_ ?_; all_goals (repeat' (first | exact et_end | exact el_end | refine et_bool ?_ ?_ | refine el_int rfl ?_ ?_)); all_goals rfl)
      · rw [decide_eq_false hO] at kO
        intro al
        refine contract_of hmix Tryz.func18 rfl (by kernel_rfl) (by kernel_rfl) (Nat.le_of_ble_eq_true rfl) (fun row h => by cases h) ?_
        have hty_a34 := ty_a34
        have hty_z34 := ty_z34
        have hty_u9 := ty_u9
        have hty_u72 := ty_u72
        have hty_s72 := ty_s72
        have hty_c9 := ty_c9
        have hty_st34 := ty_st34
        have hty_t34 := ty_t34
        have hty_f34_0 := ty_f34_0
        have hty_t3 := ty_t3
        have hty_f34_1 := ty_f34_1
        have hty_f34_2 := ty_f34_2
        repeat' (first
      | (refine g_exec ?_; first | (refine g_move ?_; refine x_moveO _ rfl ?_) | (refine g_assign ?_; refine x_assignO _ rfl ?_) | (refine g_bin ?_; first | (refine x_sub rfl rfl aO ?_) | (refine x_bin _ rfl rfl rfl ?_) | (refine x_boolNe aA rfl rfl ?_) | (refine x_strAdd rfl rfl (by first | omega | (simp only [app_size, bs_lit, bs_lit2, List.length_cons, List.length_nil]; omega) | fail) ?_) | (refine x_strBin _ rfl rfl rfl ?_)) | (refine g_un ?_; first | (refine x_not rfl ?_) | (refine x_neg rfl aO ?_)) | (refine g_load ?_; first | (refine x_load_pc aA rfl ?_) | (refine x_load_oc _ aA rfl rfl aE rfl ?_) | (refine x_load_pa _ aA rfl aZ aL ?_) | (refine x_load_oa _ aA rfl rfl aE aZ aL ?_)) | (refine g_field ?_; first | (refine x_field_p _ aA rfl aL ?_) | (refine x_field_o _ aA rfl rfl (by simp only [lx, Nat.reduceAdd]; first | done | rfl) ?_)) | (refine g_index ?_; first | (refine x_index_l _ aA rfl rfl aO aA ?_) | (refine x_index_o _ aA rfl rfl rfl rfl aO aO (by first | (rw [Nat.zero_add, Int.toNat_natCast]) | (rw [Nat.zero_add]) | rfl) ?_)) | (refine g_pick ?_; first | (refine x_pick_b rfl aD rfl ?_) | (refine x_pick_c rfl aD ?_) | (refine x_pick_a rfl aD ?_) | (refine x_pick_d rfl aD rfl ?_)) | (refine g_guard ?_; first | (refine x_gyes rfl rfl aD ?_) | (refine x_gno rfl rfl aD ?_) | (refine x_gun rfl rfl ?_) | (refine x_gsplit rfl rfl (fun h => ?_) (fun h => ?_) <;> (have h' := h; (try simp only [sx] at h')))) | (refine g_call ?_; first | (refine x_callG true (kS) rfl rfl rfl aS rfl aH ?_; simp only [cl]) | (refine x_callG true (r1) rfl rfl rfl aS rfl aH ?_; simp only [cl]) | (refine x_callG true (r2) rfl rfl rfl aS rfl aH ?_; simp only [cl]) | (refine x_callG true (r3) rfl rfl rfl aS rfl aH ?_; simp only [cl]) | (refine x_callG true (kO) rfl rfl rfl aS rfl aH ?_; simp only [cl]) | (refine x_len_l aA rfl ?_) | (refine x_len_o aA rfl rfl ?_) | (refine x_len_n aA rfl ?_) | (refine x_len_s aA (evO_ok rfl) ?_)) | (refine g_slice ?_; first | (refine x_sliceL _ aA rfl rfl rfl aO (by first | assumption | rfl) ?_) | (refine x_sliceO _ _ aA rfl (lookM (by rfl)) rfl rfl rfl aO (by first | (simp only [Nat.zero_add, Int.toNat_natCast]; exact rfl) | rfl) (by first | (simp only [Nat.sub_zero, Int.toNat_natCast]; exact rfl) | rfl) ?_) | (refine x_sliceS aA rfl rfl rfl aO rfl ?_)) | (refine x_slice3 _ aA rfl rfl rfl aO (by first | exact List.take_of_length_le aO | rfl) ?_) | (refine x_buildO _ _ aA rfl rfl (by simp [buildPV, PV.cells]; first | done | rfl) ?_) | (refine x_alloc _ aA rfl ?_) | (refine x_allocF aA rfl ?_) | (refine x_storeO _ _ _ rfl rfl aE (by first | assumption | (exact TAgg.size aA)) rfl rfl rfl aZ rfl aL (by first | (first | (simp only [lx, Nat.reduceAdd]; first | done | rfl) | fail) | rfl) ?_) | (refine x_extract _ rfl rfl ?_) | (refine x_nil (hK _ _ (.inl rfl) ?_); clear hK K) | (refine x_nil (hK _ _ (.inr (by kernel_rfl)) ?_); clear hK K))
      | (refine g_code ?_; first | (refine v_seq ?_) | (refine v_region (fun K hK => ?_)) | (refine v_block ?_) | (refine v_skip ?_) | (refine v_ret ?_) | (refine v_exit ?_) | (refine g_cond ?_; first | (refine v_cond_y rfl aD ?_) | (refine v_cond_n rfl aD ?_) | (refine v_condt rfl (fun h => ?_) (fun h => ?_) <;> (have h' := h; (try simp only [sx] at h')))))
      | (refine q_then ?_) | (refine q_then_r ?_) | (refine q_then_e ?_) | (refine q_blk_n ?_) | (refine q_blk_r ?_) | (refine q_blk_e ?_) | (refine q_blk_o rfl ?_) | (refine q_loop_r ?_) | (refine q_loop_e ?_) | (refine ret_n ?_))
        all_goals first
          | (exfalso; omega)
          | ((first | refine ret_T rfl rfl rfl (by first | exact trivial | (repeat' (first | exact trivial | refine ⟨by assumption, ?_⟩))) (by repeat' (first | exact trivial | refine ⟨by simp, ?_⟩)) ?_ | refine ret_A rfl rfl rfl (by first | exact trivial | (repeat' (first | exact trivial | refine ⟨by assumption, ?_⟩))) (by repeat' (first | exact trivial | refine ⟨by simp, ?_⟩)) ?_); (repeat' (first | exact et_end | exact el_end | refine et_int rfl ?_ ?_ | refine et_bool ?_ ?_ | refine et_str ?_ ?_ | refine et_list (by rfl) (by decide) rfl rfl ?_ ?_ ?_ ?_ | refine et_nil ?_ ?_ | refine et_agg ?_ ?_ | refine el_int rfl ?_ ?_ | refine el_bool ?_ ?_ | refine el_str ?_ ?_ | refine el_list (by rfl) (by decide) rfl rfl ?_ ?_ ?_ ?_ | refine el_nil ?_ ?_)); refine et_aggP ?_ ?_; all_goals (repeat' (first | exact et_end | exact el_end | refine et_bool ?_ ?_ | refine el_int rfl ?_ ?_)); all_goals rfl)
    · have hl : (strs ((spl 32 s.data.toList).map bs)).length = (spl 32 s.data.toList).length := by simp
      generalize strs ((spl 32 s.data.toList).map bs) = E at *
      generalize (spl 32 s.data.toList).length = N at *
      intro al
      refine contract_of hmix Tryz.func18 rfl (by kernel_rfl) (by kernel_rfl) (Nat.le_of_ble_eq_true rfl) (fun row h => by cases h) ?_
      have hty_a34 := ty_a34
      have hty_z34 := ty_z34
      have hty_u9 := ty_u9
      have hty_u72 := ty_u72
      have hty_s72 := ty_s72
      have hty_c9 := ty_c9
      have hty_st34 := ty_st34
      have hty_t34 := ty_t34
      have hty_f34_0 := ty_f34_0
      have hty_t3 := ty_t3
      have hty_f34_1 := ty_f34_1
      have hty_f34_2 := ty_f34_2
      repeat' (first
      | (refine g_exec ?_; first | (refine g_move ?_; refine x_moveO _ rfl ?_) | (refine g_assign ?_; refine x_assignO _ rfl ?_) | (refine g_bin ?_; first | (refine x_sub rfl rfl aO ?_) | (refine x_bin _ rfl rfl rfl ?_) | (refine x_boolNe aA rfl rfl ?_) | (refine x_strAdd rfl rfl (by first | omega | (simp only [app_size, bs_lit, bs_lit2, List.length_cons, List.length_nil]; omega) | fail) ?_) | (refine x_strBin _ rfl rfl rfl ?_)) | (refine g_un ?_; first | (refine x_not rfl ?_) | (refine x_neg rfl aO ?_)) | (refine g_load ?_; first | (refine x_load_pc aA rfl ?_) | (refine x_load_oc _ aA rfl rfl aE rfl ?_) | (refine x_load_pa _ aA rfl aZ aL ?_) | (refine x_load_oa _ aA rfl rfl aE aZ aL ?_)) | (refine g_field ?_; first | (refine x_field_p _ aA rfl aL ?_) | (refine x_field_o _ aA rfl rfl (by simp only [lx, Nat.reduceAdd]; first | done | rfl) ?_)) | (refine g_index ?_; first | (refine x_index_l _ aA rfl rfl aO aA ?_) | (refine x_index_o _ aA rfl rfl rfl rfl aO aO (by first | (rw [Nat.zero_add, Int.toNat_natCast]) | (rw [Nat.zero_add]) | rfl) ?_)) | (refine g_pick ?_; first | (refine x_pick_b rfl aD rfl ?_) | (refine x_pick_c rfl aD ?_) | (refine x_pick_a rfl aD ?_) | (refine x_pick_d rfl aD rfl ?_)) | (refine g_guard ?_; first | (refine x_gyes rfl rfl aD ?_) | (refine x_gno rfl rfl aD ?_) | (refine x_gun rfl rfl ?_) | (refine x_gsplit rfl rfl (fun h => ?_) (fun h => ?_) <;> (have h' := h; (try simp only [sx] at h')))) | (refine g_call ?_; first | (refine x_callG true (kS) rfl rfl rfl aS rfl aH ?_; simp only [cl]) | (refine x_len_l aA rfl ?_) | (refine x_len_o aA rfl rfl ?_) | (refine x_len_n aA rfl ?_) | (refine x_len_s aA (evO_ok rfl) ?_)) | (refine g_slice ?_; first | (refine x_sliceL _ aA rfl rfl rfl aO (by first | assumption | rfl) ?_) | (refine x_sliceO _ _ aA rfl (lookM (by rfl)) rfl rfl rfl aO (by first | (simp only [Nat.zero_add, Int.toNat_natCast]; exact rfl) | rfl) (by first | (simp only [Nat.sub_zero, Int.toNat_natCast]; exact rfl) | rfl) ?_) | (refine x_sliceS aA rfl rfl rfl aO rfl ?_)) | (refine x_slice3 _ aA rfl rfl rfl aO (by first | exact List.take_of_length_le aO | rfl) ?_) | (refine x_buildO _ _ aA rfl rfl (by simp [buildPV, PV.cells]; first | done | rfl) ?_) | (refine x_alloc _ aA rfl ?_) | (refine x_allocF aA rfl ?_) | (refine x_storeO _ _ _ rfl rfl aE (by first | assumption | (exact TAgg.size aA)) rfl rfl rfl aZ rfl aL (by first | (first | (simp only [lx, Nat.reduceAdd]; first | done | rfl) | fail) | rfl) ?_) | (refine x_extract _ rfl rfl ?_) | (refine x_nil (hK _ _ (.inl rfl) ?_); clear hK K) | (refine x_nil (hK _ _ (.inr (by kernel_rfl)) ?_); clear hK K))
      | (refine g_code ?_; first | (refine v_seq ?_) | (refine v_region (fun K hK => ?_)) | (refine v_block ?_) | (refine v_skip ?_) | (refine v_ret ?_) | (refine v_exit ?_) | (refine g_cond ?_; first | (refine v_cond_y rfl aD ?_) | (refine v_cond_n rfl aD ?_) | (refine v_condt rfl (fun h => ?_) (fun h => ?_) <;> (have h' := h; (try simp only [sx] at h')))))
      | (refine q_then ?_) | (refine q_then_r ?_) | (refine q_then_e ?_) | (refine q_blk_n ?_) | (refine q_blk_r ?_) | (refine q_blk_e ?_) | (refine q_blk_o rfl ?_) | (refine q_loop_r ?_) | (refine q_loop_e ?_) | (refine ret_n ?_))
      all_goals first
        | (exfalso; omega)
        | ((first | refine ret_T rfl rfl rfl (by first | exact trivial | (repeat' (first | exact trivial | refine ⟨by assumption, ?_⟩))) (by repeat' (first | exact trivial | refine ⟨by simp, ?_⟩)) ?_ | refine ret_A rfl rfl rfl (by first | exact trivial | (repeat' (first | exact trivial | refine ⟨by assumption, ?_⟩))) (by repeat' (first | exact trivial | refine ⟨by simp, ?_⟩)) ?_); (repeat' (first | exact et_end | exact el_end | refine et_int rfl ?_ ?_ | refine et_bool ?_ ?_ | refine et_str ?_ ?_ | refine et_list (by rfl) (by decide) rfl rfl ?_ ?_ ?_ ?_ | refine et_nil ?_ ?_ | refine et_agg ?_ ?_ | refine el_int rfl ?_ ?_ | refine el_bool ?_ ?_ | refine el_str ?_ ?_ | refine el_list (by rfl) (by decide) rfl rfl ?_ ?_ ?_ ?_ | refine el_nil ?_ ?_)); refine et_aggP ?_ ?_; all_goals (repeat' (first | exact et_end | exact el_end | refine et_bool ?_ ?_ | refine el_int rfl ?_ ?_)); all_goals rfl)
end Go.Vs
