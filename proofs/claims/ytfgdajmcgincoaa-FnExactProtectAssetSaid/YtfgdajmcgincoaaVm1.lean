/- RISK: good assets, good scenes. -/
import Derived.Test.YtfgdajmcgincoaaVau
import Derived.Test.YtfgdajmcgincoaaVhAsset
import Derived.Test.YtfgdajmcgincoaaVhScene
set_option linter.unusedVariables false
set_option linter.unusedSimpArgs false
set_option maxRecDepth 100000
set_option maxHeartbeats 4000000
set_option pp.deepTerms false
set_option pp.deepTerms.threshold 4
set_option format.width 220
namespace Go.Vs
open Go.Proofs
attribute [local irreducible] exec vwp thenQ blkQ loopQ RetPost

def wordAt (s : ByteArray) (i : Nat) : Bool := match s[i]? with
  | some b => decide (97 ≤ b.toNat) && decide (b.toNat ≤ 122)
  | none => true
def Word (s : ByteArray) : Prop := (∀ i, i < s.size → wordAt s i = true) ∧ 1 ≤ s.size ∧ s.size ≤ 10
instance (s : ByteArray) : Decidable (Word s) := by unfold Word; infer_instance
theorem byte_ex {s : ByteArray} {i : Nat} (h : i < s.size) : ∃ b, s[i]? = some b := ⟨s[i], getElem?_pos s i h⟩
theorem word_step {s : ByteArray} {i : Nat} {b : UInt8} (h : ∀ j, j < i → wordAt s j = true) (hb : s[i]? = some b) (h1 : 97 ≤ b.toNat) (h2 : b.toNat ≤ 122) : ∀ j, j < i + 1 → wordAt s j = true := fun j hj => by
  rcases Nat.lt_or_ge j i with h3 | h3
  · exact h j h3
  · have : j = i := by omega
    subst this
    simp [wordAt, hb, h1, h2]
theorem not_word {s : ByteArray} {i : Nat} {b : UInt8} (hi : i < s.size) (hb : s[i]? = some b) (h : b.toNat < 97 ∨ 122 < b.toNat) : ¬ Word s := fun hk => by
  have := hk.1 i hi
  simp [wordAt, hb] at this
  omega
theorem k_l2Word (s : ByteArray) (hs : s.size ≤ 1099511627776) : Con Try.prog 67 [.str s] (.bool (decide (Word s))) := by
  intro al
  refine contract_of hmix Try.func67 rfl (by kernel_rfl) (by kernel_rfl) (Nat.le_of_ble_eq_true rfl) (fun row h => by cases h) ?_
  have hty_u9 := ty_u9
  repeat' (first
      | (refine g_exec ?_; first | (refine g_move ?_; refine x_moveO _ rfl ?_) | (refine g_assign ?_; refine x_assignO _ rfl ?_) | (refine g_bin ?_; first | (refine x_add rfl rfl aO ?_) | (refine x_bin _ rfl rfl rfl ?_) | (refine x_strBin _ rfl rfl rfl ?_)) | (refine g_pick ?_; first | (refine x_pick_b rfl aD rfl ?_) | (refine x_pick_c rfl aD ?_) | (refine x_pick_a rfl aD ?_) | (refine x_pick_d rfl aD rfl ?_)) | (refine g_guard ?_; first | (refine x_gyes rfl rfl aD ?_) | (refine x_gno rfl rfl aD ?_) | (refine x_gun rfl rfl ?_) | (refine x_gsplit rfl rfl (fun h => ?_) (fun h => ?_) <;> (have h' := h; (try simp only [sx] at h')))) | (refine g_call ?_; first | (refine x_len_l aA rfl ?_) | (refine x_len_o aA rfl rfl ?_) | (refine x_len_n aA rfl ?_) | (refine x_len_s aA (evO_ok rfl) ?_)) | (refine x_index_s _ aA (evO_ok rfl) (evO_ok rfl) aO aA ?_) | (refine x_nil (hK _ _ (.inl rfl) ?_); clear hK K) | (refine x_nil (hK _ _ (.inr (by kernel_rfl)) ?_); clear hK K))
      | (refine g_code ?_; first | (refine v_seq ?_) | (refine v_region (fun K hK => ?_)) | (refine v_block ?_) | (refine v_skip ?_) | (refine v_ret ?_) | (refine v_exit ?_) | (refine g_cond ?_; first | (refine v_cond_y rfl aD ?_) | (refine v_cond_n rfl aD ?_) | (refine v_condt rfl (fun h => ?_) (fun h => ?_) <;> (have h' := h; (try simp only [sx] at h')))))
      | (refine q_then ?_) | (refine q_then_r ?_) | (refine q_then_e ?_) | (refine q_blk_n ?_) | (refine q_blk_r ?_) | (refine q_blk_e ?_) | (refine q_blk_o rfl ?_) | (refine q_loop_r ?_) | (refine q_loop_e ?_) | (refine ret_n ?_))
  refine v_loopK [0] [] (fun i : Nat => [(3, .int .i64 i)]) (fun i : Nat => []) (fun i : Nat => i ≤ s.size ∧ ∀ j, j < i → wordAt s j = true) (fun i : Nat => s.size - i) (0) rfl rfl (fun _ => rfl) (fun _ => rfl) rfl (by refine ⟨?_, ?_, rfl, rfl⟩ <;> (repeat' (first | exact trivial | exact ⟨rfl, rfl⟩ | exact rfl | exact ⟨sub_fn, refs_fn⟩ | refine ⟨⟨rfl, rfl⟩, ?_⟩ | refine ⟨⟨sub_fn, refs_fn⟩, ?_⟩ | refine ⟨⟨rfl, fun h => Bool.noConfusion h⟩, ?_⟩ | refine ⟨⟨rfl, fun h => ?_⟩, ?_⟩ | refine ⟨rfl, ?_⟩ | refine ⟨?_, ?_⟩ | fail))) ⟨by omega, fun j hj => by omega⟩ (fun i hi => ?_)
  obtain ⟨h1, h2⟩ := hi
  rcases Nat.lt_or_ge i s.size with hlt | hge
  · obtain ⟨b, hb⟩ := byte_ex hlt
    repeat' (first
      | (refine g_exec ?_; first | (refine g_move ?_; refine x_moveO _ rfl ?_) | (refine g_assign ?_; refine x_assignO _ rfl ?_) | (refine g_bin ?_; first | (refine x_add rfl rfl aO ?_) | (refine x_bin _ rfl rfl rfl ?_) | (refine x_strBin _ rfl rfl rfl ?_)) | (refine g_pick ?_; first | (refine x_pick_b rfl aD rfl ?_) | (refine x_pick_c rfl aD ?_) | (refine x_pick_a rfl aD ?_) | (refine x_pick_d rfl aD rfl ?_)) | (refine g_guard ?_; first | (refine x_gyes rfl rfl aD ?_) | (refine x_gno rfl rfl aD ?_) | (refine x_gun rfl rfl ?_) | (refine x_gsplit rfl rfl (fun h => ?_) (fun h => ?_) <;> (have h' := h; (try simp only [sx] at h')))) | (refine g_call ?_; first | (refine x_len_l aA rfl ?_) | (refine x_len_o aA rfl rfl ?_) | (refine x_len_n aA rfl ?_) | (refine x_len_s aA (evO_ok rfl) ?_)) | (refine x_index_s _ aA (evO_ok rfl) (evO_ok rfl) aO aA ?_) | (refine x_nil (hK _ _ (.inl rfl) ?_); clear hK K) | (refine x_nil (hK _ _ (.inr (by kernel_rfl)) ?_); clear hK K))
      | (refine g_code ?_; first | (refine v_seq ?_) | (refine v_region (fun K hK => ?_)) | (refine v_block ?_) | (refine v_skip ?_) | (refine v_ret ?_) | (refine v_exit ?_) | (refine g_cond ?_; first | (refine v_cond_y rfl aD ?_) | (refine v_cond_n rfl aD ?_) | (refine v_condt rfl (fun h => ?_) (fun h => ?_) <;> (have h' := h; (try simp only [sx] at h')))))
      | (refine q_then ?_) | (refine q_then_r ?_) | (refine q_then_e ?_) | (refine q_blk_n ?_) | (refine q_blk_r ?_) | (refine q_blk_e ?_) | (refine q_blk_o rfl ?_) | (refine q_loop_r ?_) | (refine q_loop_e ?_) | (refine ret_n ?_))
    all_goals first
      | (refine q_next (i + 1) rfl (by refine ⟨?_, ?_, rfl, rfl⟩ <;> (repeat' (first | exact trivial | exact ⟨rfl, rfl⟩ | exact rfl | exact ⟨sub_fn, refs_fn⟩ | refine ⟨⟨rfl, rfl⟩, ?_⟩ | refine ⟨⟨sub_fn, refs_fn⟩, ?_⟩ | refine ⟨⟨rfl, fun h => Bool.noConfusion h⟩, ?_⟩ | refine ⟨⟨rfl, fun h => ?_⟩, ?_⟩ | refine ⟨rfl, ?_⟩ | refine ⟨?_, ?_⟩ | fail))) ⟨by omega, word_step h2 hb aO aO⟩ aO)
      | exact ret_bool rfl (lookE_ok rfl) (by simp [not_word hlt hb aO])
  · repeat' (first
      | (refine g_exec ?_; first | (refine g_move ?_; refine x_moveO _ rfl ?_) | (refine g_assign ?_; refine x_assignO _ rfl ?_) | (refine g_bin ?_; first | (refine x_add rfl rfl aO ?_) | (refine x_bin _ rfl rfl rfl ?_) | (refine x_strBin _ rfl rfl rfl ?_)) | (refine g_pick ?_; first | (refine x_pick_b rfl aD rfl ?_) | (refine x_pick_c rfl aD ?_) | (refine x_pick_a rfl aD ?_) | (refine x_pick_d rfl aD rfl ?_)) | (refine g_guard ?_; first | (refine x_gyes rfl rfl aD ?_) | (refine x_gno rfl rfl aD ?_) | (refine x_gun rfl rfl ?_) | (refine x_gsplit rfl rfl (fun h => ?_) (fun h => ?_) <;> (have h' := h; (try simp only [sx] at h')))) | (refine g_call ?_; first | (refine x_callG true (k_l1In _ _ _) rfl rfl rfl aS rfl aH ?_; simp only [cl]) | (refine x_len_l aA rfl ?_) | (refine x_len_o aA rfl rfl ?_) | (refine x_len_n aA rfl ?_) | (refine x_len_s aA (evO_ok rfl) ?_)) | (refine x_index_s _ aA (evO_ok rfl) (evO_ok rfl) aO aA ?_) | (refine x_nil (hK _ _ (.inl rfl) ?_); clear hK K) | (refine x_nil (hK _ _ (.inr (by kernel_rfl)) ?_); clear hK K))
      | (refine g_code ?_; first | (refine v_seq ?_) | (refine v_region (fun K hK => ?_)) | (refine v_block ?_) | (refine v_skip ?_) | (refine v_ret ?_) | (refine v_exit ?_) | (refine g_cond ?_; first | (refine v_cond_y rfl aD ?_) | (refine v_cond_n rfl aD ?_) | (refine v_condt rfl (fun h => ?_) (fun h => ?_) <;> (have h' := h; (try simp only [sx] at h')))))
      | (refine q_then ?_) | (refine q_then_r ?_) | (refine q_then_e ?_) | (refine q_blk_n ?_) | (refine q_blk_r ?_) | (refine q_blk_e ?_) | (refine q_blk_o rfl ?_) | (refine q_loop_r ?_) | (refine q_loop_e ?_) | (refine ret_n ?_))
    (refine ret_bool rfl (lookE_ok rfl) ?_; rw [Bool.eq_iff_iff]; try simp only [sx] at *)
    unfold Word
    constructor
    · intro hq; exact ⟨fun j hj => h2 j aO, by omega, by omega⟩
    · intro hq; omega
theorem k_isWord (s : ByteArray) (hs : s.size ≤ 1099511627776) : Con Try.prog 79 [.str s] (.bool (decide (Word s))) := by
  intro al
  refine contract_of hmix Try.func79 rfl (by kernel_rfl) (by kernel_rfl) (Nat.le_of_ble_eq_true rfl) (fun row h => by cases h) ?_
  have hty_u9 := ty_u9
  repeat' (first
      | (refine g_exec ?_; first | (refine g_move ?_; refine x_moveO _ rfl ?_) | (refine g_assign ?_; refine x_assignO _ rfl ?_) | (refine g_bin ?_; first | (refine x_add rfl rfl aO ?_) | (refine x_bin _ rfl rfl rfl ?_) | (refine x_strBin _ rfl rfl rfl ?_)) | (refine g_pick ?_; first | (refine x_pick_b rfl aD rfl ?_) | (refine x_pick_c rfl aD ?_) | (refine x_pick_a rfl aD ?_) | (refine x_pick_d rfl aD rfl ?_)) | (refine g_guard ?_; first | (refine x_gyes rfl rfl aD ?_) | (refine x_gno rfl rfl aD ?_) | (refine x_gun rfl rfl ?_) | (refine x_gsplit rfl rfl (fun h => ?_) (fun h => ?_) <;> (have h' := h; (try simp only [sx] at h')))) | (refine g_call ?_; first | (refine x_len_l aA rfl ?_) | (refine x_len_o aA rfl rfl ?_) | (refine x_len_n aA rfl ?_) | (refine x_len_s aA (evO_ok rfl) ?_)) | (refine x_index_s _ aA (evO_ok rfl) (evO_ok rfl) aO aA ?_) | (refine x_nil (hK _ _ (.inl rfl) ?_); clear hK K) | (refine x_nil (hK _ _ (.inr (by kernel_rfl)) ?_); clear hK K))
      | (refine g_code ?_; first | (refine v_seq ?_) | (refine v_region (fun K hK => ?_)) | (refine v_block ?_) | (refine v_skip ?_) | (refine v_ret ?_) | (refine v_exit ?_) | (refine g_cond ?_; first | (refine v_cond_y rfl aD ?_) | (refine v_cond_n rfl aD ?_) | (refine v_condt rfl (fun h => ?_) (fun h => ?_) <;> (have h' := h; (try simp only [sx] at h')))))
      | (refine q_then ?_) | (refine q_then_r ?_) | (refine q_then_e ?_) | (refine q_blk_n ?_) | (refine q_blk_r ?_) | (refine q_blk_e ?_) | (refine q_blk_o rfl ?_) | (refine q_loop_r ?_) | (refine q_loop_e ?_) | (refine ret_n ?_))
  refine v_loopK [0, 5] [] (fun i : Nat => [(6, .int .i64 i)]) (fun i : Nat => []) (fun i : Nat => i ≤ s.size ∧ ∀ j, j < i → wordAt s j = true) (fun i : Nat => s.size - i) (0) rfl rfl (fun _ => rfl) (fun _ => rfl) rfl (by refine ⟨?_, ?_, rfl, rfl⟩ <;> (repeat' (first | exact trivial | exact ⟨rfl, rfl⟩ | exact rfl | exact ⟨sub_fn, refs_fn⟩ | refine ⟨⟨rfl, rfl⟩, ?_⟩ | refine ⟨⟨sub_fn, refs_fn⟩, ?_⟩ | refine ⟨⟨rfl, fun h => Bool.noConfusion h⟩, ?_⟩ | refine ⟨⟨rfl, fun h => ?_⟩, ?_⟩ | refine ⟨rfl, ?_⟩ | refine ⟨?_, ?_⟩ | fail))) ⟨by omega, fun j hj => by omega⟩ (fun i hi => ?_)
  obtain ⟨h1, h2⟩ := hi
  rcases Nat.lt_or_ge i s.size with hlt | hge
  · obtain ⟨b, hb⟩ := byte_ex hlt
    repeat' (first
      | (refine g_exec ?_; first | (refine g_move ?_; refine x_moveO _ rfl ?_) | (refine g_assign ?_; refine x_assignO _ rfl ?_) | (refine g_bin ?_; first | (refine x_add rfl rfl aO ?_) | (refine x_bin _ rfl rfl rfl ?_) | (refine x_strBin _ rfl rfl rfl ?_)) | (refine g_pick ?_; first | (refine x_pick_b rfl aD rfl ?_) | (refine x_pick_c rfl aD ?_) | (refine x_pick_a rfl aD ?_) | (refine x_pick_d rfl aD rfl ?_)) | (refine g_guard ?_; first | (refine x_gyes rfl rfl aD ?_) | (refine x_gno rfl rfl aD ?_) | (refine x_gun rfl rfl ?_) | (refine x_gsplit rfl rfl (fun h => ?_) (fun h => ?_) <;> (have h' := h; (try simp only [sx] at h')))) | (refine g_call ?_; first | (refine x_len_l aA rfl ?_) | (refine x_len_o aA rfl rfl ?_) | (refine x_len_n aA rfl ?_) | (refine x_len_s aA (evO_ok rfl) ?_)) | (refine x_index_s _ aA (evO_ok rfl) (evO_ok rfl) aO aA ?_) | (refine x_nil (hK _ _ (.inl rfl) ?_); clear hK K) | (refine x_nil (hK _ _ (.inr (by kernel_rfl)) ?_); clear hK K))
      | (refine g_code ?_; first | (refine v_seq ?_) | (refine v_region (fun K hK => ?_)) | (refine v_block ?_) | (refine v_skip ?_) | (refine v_ret ?_) | (refine v_exit ?_) | (refine g_cond ?_; first | (refine v_cond_y rfl aD ?_) | (refine v_cond_n rfl aD ?_) | (refine v_condt rfl (fun h => ?_) (fun h => ?_) <;> (have h' := h; (try simp only [sx] at h')))))
      | (refine q_then ?_) | (refine q_then_r ?_) | (refine q_then_e ?_) | (refine q_blk_n ?_) | (refine q_blk_r ?_) | (refine q_blk_e ?_) | (refine q_blk_o rfl ?_) | (refine q_loop_r ?_) | (refine q_loop_e ?_) | (refine ret_n ?_))
    all_goals first
      | (refine q_next (i + 1) rfl (by refine ⟨?_, ?_, rfl, rfl⟩ <;> (repeat' (first | exact trivial | exact ⟨rfl, rfl⟩ | exact rfl | exact ⟨sub_fn, refs_fn⟩ | refine ⟨⟨rfl, rfl⟩, ?_⟩ | refine ⟨⟨sub_fn, refs_fn⟩, ?_⟩ | refine ⟨⟨rfl, fun h => Bool.noConfusion h⟩, ?_⟩ | refine ⟨⟨rfl, fun h => ?_⟩, ?_⟩ | refine ⟨rfl, ?_⟩ | refine ⟨?_, ?_⟩ | fail))) ⟨by omega, word_step h2 hb aO aO⟩ aO)
      | exact ret_bool rfl (lookE_ok rfl) (by simp [not_word hlt hb aO])
  · repeat' (first
      | (refine g_exec ?_; first | (refine g_move ?_; refine x_moveO _ rfl ?_) | (refine g_assign ?_; refine x_assignO _ rfl ?_) | (refine g_bin ?_; first | (refine x_add rfl rfl aO ?_) | (refine x_bin _ rfl rfl rfl ?_) | (refine x_strBin _ rfl rfl rfl ?_)) | (refine g_pick ?_; first | (refine x_pick_b rfl aD rfl ?_) | (refine x_pick_c rfl aD ?_) | (refine x_pick_a rfl aD ?_) | (refine x_pick_d rfl aD rfl ?_)) | (refine g_guard ?_; first | (refine x_gyes rfl rfl aD ?_) | (refine x_gno rfl rfl aD ?_) | (refine x_gun rfl rfl ?_) | (refine x_gsplit rfl rfl (fun h => ?_) (fun h => ?_) <;> (have h' := h; (try simp only [sx] at h')))) | (refine g_call ?_; first | (refine x_callG true (k_in _ _ _) rfl rfl rfl aS rfl aH ?_; simp only [cl]) | (refine x_len_l aA rfl ?_) | (refine x_len_o aA rfl rfl ?_) | (refine x_len_n aA rfl ?_) | (refine x_len_s aA (evO_ok rfl) ?_)) | (refine x_index_s _ aA (evO_ok rfl) (evO_ok rfl) aO aA ?_) | (refine x_nil (hK _ _ (.inl rfl) ?_); clear hK K) | (refine x_nil (hK _ _ (.inr (by kernel_rfl)) ?_); clear hK K))
      | (refine g_code ?_; first | (refine v_seq ?_) | (refine v_region (fun K hK => ?_)) | (refine v_block ?_) | (refine v_skip ?_) | (refine v_ret ?_) | (refine v_exit ?_) | (refine g_cond ?_; first | (refine v_cond_y rfl aD ?_) | (refine v_cond_n rfl aD ?_) | (refine v_condt rfl (fun h => ?_) (fun h => ?_) <;> (have h' := h; (try simp only [sx] at h')))))
      | (refine q_then ?_) | (refine q_then_r ?_) | (refine q_then_e ?_) | (refine q_blk_n ?_) | (refine q_blk_r ?_) | (refine q_blk_e ?_) | (refine q_blk_o rfl ?_) | (refine q_loop_r ?_) | (refine q_loop_e ?_) | (refine ret_n ?_))
    (refine ret_bool rfl (lookE_ok rfl) ?_; rw [Bool.eq_iff_iff]; try simp only [sx] at *)
    unfold Word
    constructor
    · intro hq; exact ⟨fun j hj => h2 j aO, by omega, by omega⟩
    · intro hq; omega

def OneA (a : Asset) : Prop := (1 ≤ a.id ∧ a.id ≤ 99) ∧ Word a.name ∧ (0 ≤ a.worth ∧ a.worth ≤ 10000) ∧ (0 ≤ a.loss ∧ a.loss ≤ 100)
instance (a : Asset) : Decidable (OneA a) := by unfold OneA; infer_instance
theorem k_isAsset (a : Asset) (hs : a.name.size ≤ 1099511627776) : Con Try.prog 69 [.agg a.pv] (.bool (decide (OneA a))) := by
  intro al
  refine contract_of hmix Try.func69 rfl (by kernel_rfl) (by kernel_rfl) (Nat.le_of_ble_eq_true rfl) (fun row h => by cases h) ?_
  have hty_f55_0 := ty_f55_0
  have hty_c3 := ty_c3
  have hty_f55_1 := ty_f55_1
  have hty_c9 := ty_c9
  have hty_u9 := ty_u9
  have hty_f55_2 := ty_f55_2
  have hty_f55_3 := ty_f55_3
  repeat' (first
      | (refine g_exec ?_; first | (refine g_move ?_; refine x_moveO _ rfl ?_) | (refine g_assign ?_; refine x_assignO _ rfl ?_) | (refine g_load ?_; first | (refine x_load_pc aA rfl ?_) | (refine x_load_oc _ aA rfl rfl aE rfl ?_) | (refine x_load_pa _ aA rfl aZ aL ?_) | (refine x_load_oa _ aA rfl rfl aE aZ aL ?_)) | (refine g_field ?_; first | (refine x_field_p _ aA rfl aL ?_) | (refine x_field_o _ aA rfl rfl (by simp only [lx, Nat.reduceAdd]; first | done | rfl) ?_)) | (refine g_pick ?_; first | (refine x_pick_b rfl aD rfl ?_) | (refine x_pick_c rfl aD ?_) | (refine x_pick_a rfl aD ?_) | (refine x_pick_d rfl aD rfl ?_)) | (refine g_guard ?_; first | (refine x_gyes rfl rfl aD ?_) | (refine x_gno rfl rfl aD ?_) | (refine x_gun rfl rfl ?_) | (refine x_gsplit rfl rfl (fun h => ?_) (fun h => ?_) <;> (have h' := h; (try simp only [sx] at h')))) | (refine g_call ?_; first | (refine x_callG true (k_in _ _ _) rfl rfl rfl aS rfl aH ?_; simp only [cl]) | (refine x_callG true (k_isWord a.name hs) rfl rfl rfl aS rfl aH ?_; simp only [cl])) | (refine x_boxO _ _ rfl rfl rfl rfl ?_) | (refine x_nil (hK _ _ (.inl rfl) ?_); clear hK K) | (refine x_nil (hK _ _ (.inr (by kernel_rfl)) ?_); clear hK K))
      | (refine g_code ?_; first | (refine v_seq ?_) | (refine v_region (fun K hK => ?_)) | (refine v_block ?_) | (refine v_skip ?_) | (refine v_ret ?_) | (refine v_exit ?_))
      | (refine q_then ?_) | (refine q_then_r ?_) | (refine q_then_e ?_) | (refine q_blk_n ?_) | (refine q_blk_r ?_) | (refine q_blk_e ?_) | (refine q_blk_o rfl ?_) | (refine q_loop_r ?_) | (refine q_loop_e ?_) | (refine ret_n ?_))
  all_goals ((refine ret_bool rfl (lookE_ok rfl) ?_; rw [Bool.eq_iff_iff]; try simp only [sx] at *); simp only [OneA]; constructor <;> intro hq <;> first | contradiction | (exact ⟨by omega, by assumption, by omega, by omega⟩) | (obtain ⟨q1, q2, q3, q4⟩ := hq; first | contradiction | omega))
theorem k_AreAssets1 (a : Asset) : Con Try.prog 70 [.agg a.pv] (.int .i64 a.id) := by
  intro al
  refine contract_of hmix Try.func70 rfl (by kernel_rfl) (by kernel_rfl) (Nat.le_of_ble_eq_true rfl) (fun row h => by cases h) ?_
  have hty_f55_0 := ty_f55_0
  have hty_c3 := ty_c3
  repeat' (first
      | (refine g_exec ?_; first | (refine g_assign ?_; refine x_assignO _ rfl ?_) | (refine g_load ?_; first | (refine x_load_pc aA rfl ?_) | (refine x_load_oc _ aA rfl rfl aE rfl ?_) | (refine x_load_pa _ aA rfl aZ aL ?_) | (refine x_load_oa _ aA rfl rfl aE aZ aL ?_)) | (refine g_field ?_; first | (refine x_field_p _ aA rfl aL ?_) | (refine x_field_o _ aA rfl rfl (by simp only [lx, Nat.reduceAdd]; first | done | rfl) ?_)) | (refine x_boxO _ _ rfl rfl rfl rfl ?_) | (refine x_nil (hK _ _ (.inl rfl) ?_); clear hK K) | (refine x_nil (hK _ _ (.inr (by kernel_rfl)) ?_); clear hK K))
      | (refine g_code ?_; first | (refine v_seq ?_) | (refine v_region (fun K hK => ?_)) | (refine v_block ?_) | (refine v_skip ?_) | (refine v_ret ?_) | (refine v_exit ?_))
      | (refine q_then ?_) | (refine q_then_r ?_) | (refine q_then_e ?_) | (refine q_blk_n ?_) | (refine q_blk_r ?_) | (refine q_blk_e ?_) | (refine q_blk_o rfl ?_) | (refine q_loop_r ?_) | (refine q_loop_e ?_) | (refine ret_n ?_))
  exact ret_int rfl (lookE_ok rfl) rfl
def a0 : Asset := ⟨0, ByteArray.empty, 0, 0⟩
def OkA (xs : List Asset) (j : Nat) : Prop := OneA (xs.getD j a0) ∧ (0 < j → (xs.getD (j - 1) a0).id < (xs.getD j a0).id)
instance (xs : List Asset) (j : Nat) : Decidable (OkA xs j) := by unfold OkA; infer_instance
def GoodA (xs : List Asset) : Prop := (∀ j, j < xs.length → OkA xs j) ∧ xs.length ≤ 10
instance (xs : List Asset) : Decidable (GoodA xs) := by unfold GoodA; infer_instance
theorem getA {xs : List Asset} {i : Nat} {a : Asset} (h : xs[i]? = some a) : xs.getD i a0 = a := by simp [List.getD_eq_getElem?_getD, h]
theorem not_goodA {xs : List Asset} {i : Nat} (hi : i < xs.length) (h : ¬ OkA xs i) : ¬ GoodA xs := fun hg => h (hg.1 i hi)
theorem okA_step {xs : List Asset} {i : Nat} (h : ∀ j, j < i → OkA xs j) (hi : OkA xs i) : ∀ j, j < i + 1 → OkA xs j := fun j hj => by
  rcases Nat.lt_or_ge j i with h1 | h1
  · exact h j h1
  · have : j = i := by omega
    rw [this]; exact hi
theorem GoodA.one {xs : List Asset} (h : GoodA xs) : ∀ a ∈ xs, OneA a := fun a ha => by
  obtain ⟨i, hi⟩ := List.getElem?_of_mem ha
  have := (h.1 i (get_lt hi)).1
  rwa [getA hi] at this
theorem k_l24Assets (xs : List Asset) (hn : xs.length ≤ 1099511627776) (hs : ∀ a ∈ xs, a.name.size ≤ 1099511627776) : Con Try.prog 50 [.list 4 (xs.map Asset.pv)] (.bool (decide (GoodA xs))) := by
  intro al
  refine contract_of hmix Try.func50 rfl (by kernel_rfl) (by kernel_rfl) (Nat.le_of_ble_eq_true rfl) (fun row h => by cases h) ?_
  have hty_u29 := ty_u29
  have hty_s29 := ty_s29
  have hty_a55 := ty_a55
  have hty_z55 := ty_z55
  have hty_t55 := ty_t55
  have hty_f55_0 := ty_f55_0
  have hty_c3 := ty_c3
  have hty_f55_1 := ty_f55_1
  have hty_c9 := ty_c9
  have hty_u9 := ty_u9
  have hty_f55_2 := ty_f55_2
  have hty_f55_3 := ty_f55_3
  have hl1 : (xs.map Asset.pv).length = xs.length := by simp
  repeat' (first
      | (refine g_exec ?_; first | (refine g_move ?_; refine x_moveO _ rfl ?_) | (refine g_assign ?_; refine x_assignO _ rfl ?_) | (refine g_bin ?_; first | (refine x_add rfl rfl aO ?_) | (refine x_sub rfl rfl aO ?_) | (refine x_bin _ rfl rfl rfl ?_) | (refine x_strBin _ rfl rfl rfl ?_)) | (refine g_un ?_; first | (refine x_not rfl ?_) | (refine x_neg rfl aO ?_)) | (refine g_load ?_; first | (refine x_load_pc aA rfl ?_) | (refine x_load_oc _ aA rfl rfl aE rfl ?_) | (refine x_load_pa _ aA rfl aZ aL ?_) | (refine x_load_oa _ aA rfl rfl aE aZ aL ?_)) | (refine g_field ?_; first | (refine x_field_p _ aA rfl aL ?_) | (refine x_field_o _ aA rfl rfl (by simp only [lx, Nat.reduceAdd]; first | done | rfl) ?_)) | (refine g_index ?_; first | (refine x_index_l _ aA rfl rfl aO aA ?_) | (refine x_index_o _ aA rfl rfl rfl rfl aO aO (by first | (rw [Nat.zero_add, Int.toNat_natCast]) | (rw [Nat.zero_add]) | rfl) ?_)) | (refine g_pick ?_; first | (refine x_pick_b rfl aD rfl ?_) | (refine x_pick_c rfl aD ?_) | (refine x_pick_a rfl aD ?_) | (refine x_pick_d rfl aD rfl ?_)) | (refine g_guard ?_; first | (refine x_gyes rfl rfl aD ?_) | (refine x_gno rfl rfl aD ?_) | (refine x_gun rfl rfl ?_) | (refine x_gsplit rfl rfl (fun h => ?_) (fun h => ?_) <;> (have h' := h; (try simp only [sx] at h')))) | (refine g_call ?_; first | (refine x_len_l aA rfl ?_) | (refine x_len_o aA rfl rfl ?_) | (refine x_len_n aA rfl ?_) | (refine x_len_s aA (evO_ok rfl) ?_)) | (refine x_alloc _ aA rfl ?_) | (refine x_allocF aA rfl ?_) | (refine x_storeO _ _ _ rfl rfl aE (by first | assumption | (exact TAgg.size aA)) rfl rfl rfl aZ rfl aL (by first | (first | (simp only [lx, Nat.reduceAdd]; first | done | rfl) | fail) | rfl) ?_) | (refine x_nil (hK _ _ (.inl rfl) ?_); clear hK K) | (refine x_nil (hK _ _ (.inr (by kernel_rfl)) ?_); clear hK K))
      | (refine g_code ?_; first | (refine v_seq ?_) | (refine v_region (fun K hK => ?_)) | (refine v_block ?_) | (refine v_skip ?_) | (refine v_ret ?_) | (refine v_exit ?_) | (refine g_cond ?_; first | (refine v_cond_y rfl aD ?_) | (refine v_cond_n rfl aD ?_) | (refine v_condt rfl (fun h => ?_) (fun h => ?_) <;> (have h' := h; (try simp only [sx] at h')))))
      | (refine q_then ?_) | (refine q_then_r ?_) | (refine q_then_e ?_) | (refine q_blk_n ?_) | (refine q_blk_r ?_) | (refine q_blk_e ?_) | (refine q_blk_o rfl ?_) | (refine q_loop_r ?_) | (refine q_loop_e ?_) | (refine ret_n ?_))
  refine v_loopK [0] [] (fun i : Nat => [(3, .int .i64 i)]) (fun i : Nat => []) (fun i : Nat => i ≤ xs.length ∧ ∀ j, j < i → OkA xs j) (fun i : Nat => xs.length - i) (0) rfl rfl (fun _ => rfl) (fun _ => rfl) rfl (by refine ⟨?_, ?_, rfl, rfl⟩ <;> (repeat' (first | exact trivial | exact ⟨rfl, rfl⟩ | exact rfl | exact ⟨sub_fn, refs_fn⟩ | refine ⟨⟨rfl, rfl⟩, ?_⟩ | refine ⟨⟨sub_fn, refs_fn⟩, ?_⟩ | refine ⟨⟨rfl, fun h => Bool.noConfusion h⟩, ?_⟩ | refine ⟨⟨rfl, fun h => ?_⟩, ?_⟩ | refine ⟨rfl, ?_⟩ | refine ⟨?_, ?_⟩ | fail))) ⟨by omega, fun j hj => by omega⟩ (fun i hi => ?_)
  obtain ⟨hi1, hi2⟩ := hi
  rcases Nat.lt_or_ge i xs.length with hlt | hge
  · obtain ⟨a, hga⟩ := get_ex hlt
    have hx := Asset.at hga
    have hd := getA hga
    have hsa := hs a (get_mem hga)
    by_cases hi0 : 0 < i
    · obtain ⟨b, hgb⟩ := get_ex (show i - 1 < xs.length by omega)
      have hy := Asset.at hgb
      have hd' := getA hgb
      have e1 : ((i : Int) - 1).toNat = i - 1 := by omega
      rw [← e1] at hy
      repeat' (first
      | (refine g_exec ?_; first | (refine g_move ?_; refine x_moveO _ rfl ?_) | (refine g_assign ?_; refine x_assignO _ rfl ?_) | (refine g_bin ?_; first | (refine x_add rfl rfl aO ?_) | (refine x_sub rfl rfl aO ?_) | (refine x_bin _ rfl rfl rfl ?_) | (refine x_strBin _ rfl rfl rfl ?_)) | (refine g_un ?_; first | (refine x_not rfl ?_) | (refine x_neg rfl aO ?_)) | (refine g_load ?_; first | (refine x_load_pc aA rfl ?_) | (refine x_load_oc _ aA rfl rfl aE rfl ?_) | (refine x_load_pa _ aA rfl aZ aL ?_) | (refine x_load_oa _ aA rfl rfl aE aZ aL ?_)) | (refine g_field ?_; first | (refine x_field_p _ aA rfl aL ?_) | (refine x_field_o _ aA rfl rfl (by simp only [lx, Nat.reduceAdd]; first | done | rfl) ?_)) | (refine g_index ?_; first | (refine x_index_l _ aA rfl rfl aO aA ?_) | (refine x_index_o _ aA rfl rfl rfl rfl aO aO (by first | (rw [Nat.zero_add, Int.toNat_natCast]) | (rw [Nat.zero_add]) | rfl) ?_)) | (refine g_pick ?_; first | (refine x_pick_b rfl aD rfl ?_) | (refine x_pick_c rfl aD ?_) | (refine x_pick_a rfl aD ?_) | (refine x_pick_d rfl aD rfl ?_)) | (refine g_guard ?_; first | (refine x_gyes rfl rfl aD ?_) | (refine x_gno rfl rfl aD ?_) | (refine x_gun rfl rfl ?_) | (refine x_gsplit rfl rfl (fun h => ?_) (fun h => ?_) <;> (have h' := h; (try simp only [sx] at h')))) | (refine g_call ?_; first | (refine x_callG true (k_l1In _ _ _) rfl rfl rfl aS rfl aH ?_; simp only [cl]) | (refine x_callG true (k_l2Word a.name hsa) rfl rfl rfl aS rfl aH ?_; simp only [cl]) | (refine x_len_l aA rfl ?_) | (refine x_len_o aA rfl rfl ?_) | (refine x_len_n aA rfl ?_) | (refine x_len_s aA (evO_ok rfl) ?_)) | (refine x_alloc _ aA rfl ?_) | (refine x_allocF aA rfl ?_) | (refine x_storeO _ _ _ rfl rfl aE (by first | assumption | (exact TAgg.size aA)) rfl rfl rfl aZ rfl aL (by first | (first | (simp only [lx, Nat.reduceAdd]; first | done | rfl) | fail) | rfl) ?_) | (refine x_nil (hK _ _ (.inl rfl) ?_); clear hK K) | (refine x_nil (hK _ _ (.inr (by kernel_rfl)) ?_); clear hK K))
      | (refine g_code ?_; first | (refine v_seq ?_) | (refine v_region (fun K hK => ?_)) | (refine v_block ?_) | (refine v_skip ?_) | (refine v_ret ?_) | (refine v_exit ?_) | (refine g_cond ?_; first | (refine v_cond_y rfl aD ?_) | (refine v_cond_n rfl aD ?_) | (refine v_condt rfl (fun h => ?_) (fun h => ?_) <;> (have h' := h; (try simp only [sx] at h')))))
      | (refine q_then ?_) | (refine q_then_r ?_) | (refine q_then_e ?_) | (refine q_blk_n ?_) | (refine q_blk_r ?_) | (refine q_blk_e ?_) | (refine q_blk_o rfl ?_) | (refine q_loop_r ?_) | (refine q_loop_e ?_) | (refine ret_n ?_))
      all_goals first
        | (refine q_next (i + 1) rfl (by refine ⟨?_, ?_, rfl, rfl⟩ <;> (repeat' (first | exact trivial | exact ⟨rfl, rfl⟩ | exact rfl | exact ⟨sub_fn, refs_fn⟩ | refine ⟨⟨rfl, rfl⟩, ?_⟩ | refine ⟨⟨sub_fn, refs_fn⟩, ?_⟩ | refine ⟨⟨rfl, fun h => Bool.noConfusion h⟩, ?_⟩ | refine ⟨⟨rfl, fun h => ?_⟩, ?_⟩ | refine ⟨rfl, ?_⟩ | refine ⟨?_, ?_⟩ | fail))) ⟨by omega, okA_step hi2 ?_⟩ aO; unfold OkA; rw [hd, hd']; exact ⟨⟨by omega, by assumption, by omega, by omega⟩, fun _ => by omega⟩)
        | (refine ret_bool rfl (lookE_ok rfl) ?_
           have : ¬ GoodA xs := not_goodA hlt (fun hk => by
             unfold OkA at hk
             rw [hd, hd'] at hk
             obtain ⟨⟨q1, q2, q3, q4⟩, q5⟩ := hk
             have := q5 hi0
             first | contradiction | omega)
           simp [this])
    · repeat' (first
      | (refine g_exec ?_; first | (refine g_move ?_; refine x_moveO _ rfl ?_) | (refine g_assign ?_; refine x_assignO _ rfl ?_) | (refine g_bin ?_; first | (refine x_add rfl rfl aO ?_) | (refine x_sub rfl rfl aO ?_) | (refine x_bin _ rfl rfl rfl ?_) | (refine x_strBin _ rfl rfl rfl ?_)) | (refine g_un ?_; first | (refine x_not rfl ?_) | (refine x_neg rfl aO ?_)) | (refine g_load ?_; first | (refine x_load_pc aA rfl ?_) | (refine x_load_oc _ aA rfl rfl aE rfl ?_) | (refine x_load_pa _ aA rfl aZ aL ?_) | (refine x_load_oa _ aA rfl rfl aE aZ aL ?_)) | (refine g_field ?_; first | (refine x_field_p _ aA rfl aL ?_) | (refine x_field_o _ aA rfl rfl (by simp only [lx, Nat.reduceAdd]; first | done | rfl) ?_)) | (refine g_index ?_; first | (refine x_index_l _ aA rfl rfl aO aA ?_) | (refine x_index_o _ aA rfl rfl rfl rfl aO aO (by first | (rw [Nat.zero_add, Int.toNat_natCast]) | (rw [Nat.zero_add]) | rfl) ?_)) | (refine g_pick ?_; first | (refine x_pick_b rfl aD rfl ?_) | (refine x_pick_c rfl aD ?_) | (refine x_pick_a rfl aD ?_) | (refine x_pick_d rfl aD rfl ?_)) | (refine g_guard ?_; first | (refine x_gyes rfl rfl aD ?_) | (refine x_gno rfl rfl aD ?_) | (refine x_gun rfl rfl ?_) | (refine x_gsplit rfl rfl (fun h => ?_) (fun h => ?_) <;> (have h' := h; (try simp only [sx] at h')))) | (refine g_call ?_; first | (refine x_callG true (k_l1In _ _ _) rfl rfl rfl aS rfl aH ?_; simp only [cl]) | (refine x_callG true (k_l2Word a.name hsa) rfl rfl rfl aS rfl aH ?_; simp only [cl]) | (refine x_len_l aA rfl ?_) | (refine x_len_o aA rfl rfl ?_) | (refine x_len_n aA rfl ?_) | (refine x_len_s aA (evO_ok rfl) ?_)) | (refine x_alloc _ aA rfl ?_) | (refine x_allocF aA rfl ?_) | (refine x_storeO _ _ _ rfl rfl aE (by first | assumption | (exact TAgg.size aA)) rfl rfl rfl aZ rfl aL (by first | (first | (simp only [lx, Nat.reduceAdd]; first | done | rfl) | fail) | rfl) ?_) | (refine x_nil (hK _ _ (.inl rfl) ?_); clear hK K) | (refine x_nil (hK _ _ (.inr (by kernel_rfl)) ?_); clear hK K))
      | (refine g_code ?_; first | (refine v_seq ?_) | (refine v_region (fun K hK => ?_)) | (refine v_block ?_) | (refine v_skip ?_) | (refine v_ret ?_) | (refine v_exit ?_) | (refine g_cond ?_; first | (refine v_cond_y rfl aD ?_) | (refine v_cond_n rfl aD ?_) | (refine v_condt rfl (fun h => ?_) (fun h => ?_) <;> (have h' := h; (try simp only [sx] at h')))))
      | (refine q_then ?_) | (refine q_then_r ?_) | (refine q_then_e ?_) | (refine q_blk_n ?_) | (refine q_blk_r ?_) | (refine q_blk_e ?_) | (refine q_blk_o rfl ?_) | (refine q_loop_r ?_) | (refine q_loop_e ?_) | (refine ret_n ?_))
      all_goals first
        | (refine q_next (i + 1) rfl (by refine ⟨?_, ?_, rfl, rfl⟩ <;> (repeat' (first | exact trivial | exact ⟨rfl, rfl⟩ | exact rfl | exact ⟨sub_fn, refs_fn⟩ | refine ⟨⟨rfl, rfl⟩, ?_⟩ | refine ⟨⟨sub_fn, refs_fn⟩, ?_⟩ | refine ⟨⟨rfl, fun h => Bool.noConfusion h⟩, ?_⟩ | refine ⟨⟨rfl, fun h => ?_⟩, ?_⟩ | refine ⟨rfl, ?_⟩ | refine ⟨?_, ?_⟩ | fail))) ⟨by omega, okA_step hi2 ?_⟩ aO; unfold OkA; rw [hd]; exact ⟨⟨by omega, by assumption, by omega, by omega⟩, fun h0 => absurd h0 hi0⟩)
        | (refine ret_bool rfl (lookE_ok rfl) ?_
           have : ¬ GoodA xs := not_goodA hlt (fun hk => by
             unfold OkA at hk
             rw [hd] at hk
             obtain ⟨⟨q1, q2, q3, q4⟩, q5⟩ := hk
             first | contradiction | omega)
           simp [this])
  · repeat' (first
      | (refine g_exec ?_; first | (refine g_move ?_; refine x_moveO _ rfl ?_) | (refine g_assign ?_; refine x_assignO _ rfl ?_) | (refine g_bin ?_; first | (refine x_add rfl rfl aO ?_) | (refine x_sub rfl rfl aO ?_) | (refine x_bin _ rfl rfl rfl ?_) | (refine x_strBin _ rfl rfl rfl ?_)) | (refine g_un ?_; first | (refine x_not rfl ?_) | (refine x_neg rfl aO ?_)) | (refine g_load ?_; first | (refine x_load_pc aA rfl ?_) | (refine x_load_oc _ aA rfl rfl aE rfl ?_) | (refine x_load_pa _ aA rfl aZ aL ?_) | (refine x_load_oa _ aA rfl rfl aE aZ aL ?_)) | (refine g_field ?_; first | (refine x_field_p _ aA rfl aL ?_) | (refine x_field_o _ aA rfl rfl (by simp only [lx, Nat.reduceAdd]; first | done | rfl) ?_)) | (refine g_index ?_; first | (refine x_index_l _ aA rfl rfl aO aA ?_) | (refine x_index_o _ aA rfl rfl rfl rfl aO aO (by first | (rw [Nat.zero_add, Int.toNat_natCast]) | (rw [Nat.zero_add]) | rfl) ?_)) | (refine g_pick ?_; first | (refine x_pick_b rfl aD rfl ?_) | (refine x_pick_c rfl aD ?_) | (refine x_pick_a rfl aD ?_) | (refine x_pick_d rfl aD rfl ?_)) | (refine g_guard ?_; first | (refine x_gyes rfl rfl aD ?_) | (refine x_gno rfl rfl aD ?_) | (refine x_gun rfl rfl ?_) | (refine x_gsplit rfl rfl (fun h => ?_) (fun h => ?_) <;> (have h' := h; (try simp only [sx] at h')))) | (refine g_call ?_; first | (refine x_len_l aA rfl ?_) | (refine x_len_o aA rfl rfl ?_) | (refine x_len_n aA rfl ?_) | (refine x_len_s aA (evO_ok rfl) ?_)) | (refine x_alloc _ aA rfl ?_) | (refine x_allocF aA rfl ?_) | (refine x_storeO _ _ _ rfl rfl aE (by first | assumption | (exact TAgg.size aA)) rfl rfl rfl aZ rfl aL (by first | (first | (simp only [lx, Nat.reduceAdd]; first | done | rfl) | fail) | rfl) ?_) | (refine x_nil (hK _ _ (.inl rfl) ?_); clear hK K) | (refine x_nil (hK _ _ (.inr (by kernel_rfl)) ?_); clear hK K))
      | (refine g_code ?_; first | (refine v_seq ?_) | (refine v_region (fun K hK => ?_)) | (refine v_block ?_) | (refine v_skip ?_) | (refine v_ret ?_) | (refine v_exit ?_) | (refine g_cond ?_; first | (refine v_cond_y rfl aD ?_) | (refine v_cond_n rfl aD ?_) | (refine v_condt rfl (fun h => ?_) (fun h => ?_) <;> (have h' := h; (try simp only [sx] at h')))))
      | (refine q_then ?_) | (refine q_then_r ?_) | (refine q_then_e ?_) | (refine q_blk_n ?_) | (refine q_blk_r ?_) | (refine q_blk_e ?_) | (refine q_blk_o rfl ?_) | (refine q_loop_r ?_) | (refine q_loop_e ?_) | (refine ret_n ?_))
    (refine ret_bool rfl (lookE_ok rfl) ?_; rw [Bool.eq_iff_iff]; try simp only [sx] at *)
    constructor
    · intro h
      exact ⟨fun j hj => hi2 j aO, by omega⟩
    · intro h
      have := h.2
      omega
theorem k_areListedA (xs : List Asset) (hn : xs.length ≤ 1099511627776) (hs : ∀ a ∈ xs, a.name.size ≤ 1099511627776) : Con Try.prog 68 [.list 4 (xs.map Asset.pv), .int .i64 10, .fn 69 [] [], .fn 70 [] []] (.bool (decide (GoodA xs))) := by
  intro al
  refine contract_of hmix Try.func68 rfl (by kernel_rfl) (by kernel_rfl) (Nat.le_of_ble_eq_true rfl) (fun row h => by cases h) ?_
  have hty_u29 := ty_u29
  have hty_s29 := ty_s29
  have hty_a55 := ty_a55
  have hty_z55 := ty_z55
  have hty_t55 := ty_t55
  have hl1 : (xs.map Asset.pv).length = xs.length := by simp
  repeat' (first
      | (refine g_exec ?_; first | (refine g_move ?_; refine x_moveO _ rfl ?_) | (refine g_assign ?_; refine x_assignO _ rfl ?_) | (refine g_bin ?_; first | (refine x_add rfl rfl aO ?_) | (refine x_sub rfl rfl aO ?_) | (refine x_bin _ rfl rfl rfl ?_) | (refine x_strBin _ rfl rfl rfl ?_)) | (refine g_un ?_; first | (refine x_not rfl ?_) | (refine x_neg rfl aO ?_)) | (refine g_load ?_; first | (refine x_load_pc aA rfl ?_) | (refine x_load_oc _ aA rfl rfl aE rfl ?_) | (refine x_load_pa _ aA rfl aZ aL ?_) | (refine x_load_oa _ aA rfl rfl aE aZ aL ?_)) | (refine g_index ?_; first | (refine x_index_l _ aA rfl rfl aO aA ?_) | (refine x_index_o _ aA rfl rfl rfl rfl aO aO (by first | (rw [Nat.zero_add, Int.toNat_natCast]) | (rw [Nat.zero_add]) | rfl) ?_)) | (refine g_pick ?_; first | (refine x_pick_b rfl aD rfl ?_) | (refine x_pick_c rfl aD ?_) | (refine x_pick_a rfl aD ?_) | (refine x_pick_d rfl aD rfl ?_)) | (refine g_guard ?_; first | (refine x_gyes rfl rfl aD ?_) | (refine x_gno rfl rfl aD ?_) | (refine x_gun rfl rfl ?_) | (refine x_gsplit rfl rfl (fun h => ?_) (fun h => ?_) <;> (have h' := h; (try simp only [sx] at h')))) | (refine g_call ?_; first | (refine x_len_l aA rfl ?_) | (refine x_len_o aA rfl rfl ?_) | (refine x_len_n aA rfl ?_) | (refine x_len_s aA (evO_ok rfl) ?_)) | (refine x_alloc _ aA rfl ?_) | (refine x_allocF aA rfl ?_) | (refine x_storeO _ _ _ rfl rfl aE (by first | assumption | (exact TAgg.size aA)) rfl rfl rfl aZ rfl aL (by first | (first | (simp only [lx, Nat.reduceAdd]; first | done | rfl) | fail) | rfl) ?_) | (refine x_nil (hK _ _ (.inl rfl) ?_); clear hK K) | (refine x_nil (hK _ _ (.inr (by kernel_rfl)) ?_); clear hK K))
      | (refine g_code ?_; first | (refine v_seq ?_) | (refine v_region (fun K hK => ?_)) | (refine v_block ?_) | (refine v_skip ?_) | (refine v_ret ?_) | (refine v_exit ?_) | (refine g_cond ?_; first | (refine v_cond_y rfl aD ?_) | (refine v_cond_n rfl aD ?_) | (refine v_condt rfl (fun h => ?_) (fun h => ?_) <;> (have h' := h; (try simp only [sx] at h')))))
      | (refine q_then ?_) | (refine q_then_r ?_) | (refine q_then_e ?_) | (refine q_blk_n ?_) | (refine q_blk_r ?_) | (refine q_blk_e ?_) | (refine q_blk_o rfl ?_) | (refine q_loop_r ?_) | (refine q_loop_e ?_) | (refine ret_n ?_))
  refine v_loopK [0, 1, 2, 3, 11, 12] [] (fun i : Nat => [(13, .int .i64 i)]) (fun i : Nat => []) (fun i : Nat => i ≤ xs.length ∧ ∀ j, j < i → OkA xs j) (fun i : Nat => xs.length - i) (0) rfl rfl (fun _ => rfl) (fun _ => rfl) rfl (by refine ⟨?_, ?_, rfl, rfl⟩ <;> (repeat' (first | exact trivial | exact ⟨rfl, rfl⟩ | exact rfl | exact ⟨sub_fn, refs_fn⟩ | refine ⟨⟨rfl, rfl⟩, ?_⟩ | refine ⟨⟨sub_fn, refs_fn⟩, ?_⟩ | refine ⟨⟨rfl, fun h => Bool.noConfusion h⟩, ?_⟩ | refine ⟨⟨rfl, fun h => ?_⟩, ?_⟩ | refine ⟨rfl, ?_⟩ | refine ⟨?_, ?_⟩ | fail))) ⟨by omega, fun j hj => by omega⟩ (fun i hi => ?_)
  obtain ⟨hi1, hi2⟩ := hi
  rcases Nat.lt_or_ge i xs.length with hlt | hge
  · obtain ⟨a, hga⟩ := get_ex hlt
    have hx := Asset.at hga
    have hd := getA hga
    have hsa := hs a (get_mem hga)
    by_cases hi0 : 0 < i
    · obtain ⟨b, hgb⟩ := get_ex (show i - 1 < xs.length by omega)
      have hy := Asset.at hgb
      have hd' := getA hgb
      have e1 : ((i : Int) - 1).toNat = i - 1 := by omega
      rw [← e1] at hy
      repeat' (first
      | (refine g_exec ?_; first | (refine g_move ?_; refine x_moveO _ rfl ?_) | (refine g_assign ?_; refine x_assignO _ rfl ?_) | (refine g_bin ?_; first | (refine x_add rfl rfl aO ?_) | (refine x_sub rfl rfl aO ?_) | (refine x_bin _ rfl rfl rfl ?_) | (refine x_strBin _ rfl rfl rfl ?_)) | (refine g_un ?_; first | (refine x_not rfl ?_) | (refine x_neg rfl aO ?_)) | (refine g_load ?_; first | (refine x_load_pc aA rfl ?_) | (refine x_load_oc _ aA rfl rfl aE rfl ?_) | (refine x_load_pa _ aA rfl aZ aL ?_) | (refine x_load_oa _ aA rfl rfl aE aZ aL ?_)) | (refine g_index ?_; first | (refine x_index_l _ aA rfl rfl aO aA ?_) | (refine x_index_o _ aA rfl rfl rfl rfl aO aO (by first | (rw [Nat.zero_add, Int.toNat_natCast]) | (rw [Nat.zero_add]) | rfl) ?_)) | (refine g_pick ?_; first | (refine x_pick_b rfl aD rfl ?_) | (refine x_pick_c rfl aD ?_) | (refine x_pick_a rfl aD ?_) | (refine x_pick_d rfl aD rfl ?_)) | (refine g_guard ?_; first | (refine x_gyes rfl rfl aD ?_) | (refine x_gno rfl rfl aD ?_) | (refine x_gun rfl rfl ?_) | (refine x_gsplit rfl rfl (fun h => ?_) (fun h => ?_) <;> (have h' := h; (try simp only [sx] at h')))) | (refine g_call ?_; first | (refine x_callG true (k_isAsset a hsa) rfl rfl rfl aS rfl aH ?_; simp only [cl]) | (refine x_callG true (k_AreAssets1 a) rfl rfl rfl aS rfl aH ?_; simp only [cl]) | (refine x_callG true (k_AreAssets1 b) rfl rfl rfl aS rfl aH ?_; simp only [cl]) | (refine x_len_l aA rfl ?_) | (refine x_len_o aA rfl rfl ?_) | (refine x_len_n aA rfl ?_) | (refine x_len_s aA (evO_ok rfl) ?_)) | (refine x_alloc _ aA rfl ?_) | (refine x_allocF aA rfl ?_) | (refine x_storeO _ _ _ rfl rfl aE (by first | assumption | (exact TAgg.size aA)) rfl rfl rfl aZ rfl aL (by first | (first | (simp only [lx, Nat.reduceAdd]; first | done | rfl) | fail) | rfl) ?_) | (refine x_nil (hK _ _ (.inl rfl) ?_); clear hK K) | (refine x_nil (hK _ _ (.inr (by kernel_rfl)) ?_); clear hK K))
      | (refine g_code ?_; first | (refine v_seq ?_) | (refine v_region (fun K hK => ?_)) | (refine v_block ?_) | (refine v_skip ?_) | (refine v_ret ?_) | (refine v_exit ?_) | (refine g_cond ?_; first | (refine v_cond_y rfl aD ?_) | (refine v_cond_n rfl aD ?_) | (refine v_condt rfl (fun h => ?_) (fun h => ?_) <;> (have h' := h; (try simp only [sx] at h')))))
      | (refine q_then ?_) | (refine q_then_r ?_) | (refine q_then_e ?_) | (refine q_blk_n ?_) | (refine q_blk_r ?_) | (refine q_blk_e ?_) | (refine q_blk_o rfl ?_) | (refine q_loop_r ?_) | (refine q_loop_e ?_) | (refine ret_n ?_))
      all_goals first
        | (refine q_next (i + 1) rfl (by refine ⟨?_, ?_, rfl, rfl⟩ <;> (repeat' (first | exact trivial | exact ⟨rfl, rfl⟩ | exact rfl | exact ⟨sub_fn, refs_fn⟩ | refine ⟨⟨rfl, rfl⟩, ?_⟩ | refine ⟨⟨sub_fn, refs_fn⟩, ?_⟩ | refine ⟨⟨rfl, fun h => Bool.noConfusion h⟩, ?_⟩ | refine ⟨⟨rfl, fun h => ?_⟩, ?_⟩ | refine ⟨rfl, ?_⟩ | refine ⟨?_, ?_⟩ | fail))) ⟨by omega, okA_step hi2 ?_⟩ aO; unfold OkA; rw [hd, hd']; exact ⟨by assumption, fun _ => by omega⟩)
        | (refine ret_bool rfl (lookE_ok rfl) ?_
           have : ¬ GoodA xs := not_goodA hlt (fun hk => by
             unfold OkA at hk
             rw [hd, hd'] at hk
             first | exact absurd hk.1 aA | (have := hk.2 hi0; omega))
           simp [this])
    · repeat' (first
      | (refine g_exec ?_; first | (refine g_move ?_; refine x_moveO _ rfl ?_) | (refine g_assign ?_; refine x_assignO _ rfl ?_) | (refine g_bin ?_; first | (refine x_add rfl rfl aO ?_) | (refine x_sub rfl rfl aO ?_) | (refine x_bin _ rfl rfl rfl ?_) | (refine x_strBin _ rfl rfl rfl ?_)) | (refine g_un ?_; first | (refine x_not rfl ?_) | (refine x_neg rfl aO ?_)) | (refine g_load ?_; first | (refine x_load_pc aA rfl ?_) | (refine x_load_oc _ aA rfl rfl aE rfl ?_) | (refine x_load_pa _ aA rfl aZ aL ?_) | (refine x_load_oa _ aA rfl rfl aE aZ aL ?_)) | (refine g_index ?_; first | (refine x_index_l _ aA rfl rfl aO aA ?_) | (refine x_index_o _ aA rfl rfl rfl rfl aO aO (by first | (rw [Nat.zero_add, Int.toNat_natCast]) | (rw [Nat.zero_add]) | rfl) ?_)) | (refine g_pick ?_; first | (refine x_pick_b rfl aD rfl ?_) | (refine x_pick_c rfl aD ?_) | (refine x_pick_a rfl aD ?_) | (refine x_pick_d rfl aD rfl ?_)) | (refine g_guard ?_; first | (refine x_gyes rfl rfl aD ?_) | (refine x_gno rfl rfl aD ?_) | (refine x_gun rfl rfl ?_) | (refine x_gsplit rfl rfl (fun h => ?_) (fun h => ?_) <;> (have h' := h; (try simp only [sx] at h')))) | (refine g_call ?_; first | (refine x_callG true (k_isAsset a hsa) rfl rfl rfl aS rfl aH ?_; simp only [cl]) | (refine x_callG true (k_AreAssets1 a) rfl rfl rfl aS rfl aH ?_; simp only [cl]) | (refine x_len_l aA rfl ?_) | (refine x_len_o aA rfl rfl ?_) | (refine x_len_n aA rfl ?_) | (refine x_len_s aA (evO_ok rfl) ?_)) | (refine x_alloc _ aA rfl ?_) | (refine x_allocF aA rfl ?_) | (refine x_storeO _ _ _ rfl rfl aE (by first | assumption | (exact TAgg.size aA)) rfl rfl rfl aZ rfl aL (by first | (first | (simp only [lx, Nat.reduceAdd]; first | done | rfl) | fail) | rfl) ?_) | (refine x_nil (hK _ _ (.inl rfl) ?_); clear hK K) | (refine x_nil (hK _ _ (.inr (by kernel_rfl)) ?_); clear hK K))
      | (refine g_code ?_; first | (refine v_seq ?_) | (refine v_region (fun K hK => ?_)) | (refine v_block ?_) | (refine v_skip ?_) | (refine v_ret ?_) | (refine v_exit ?_) | (refine g_cond ?_; first | (refine v_cond_y rfl aD ?_) | (refine v_cond_n rfl aD ?_) | (refine v_condt rfl (fun h => ?_) (fun h => ?_) <;> (have h' := h; (try simp only [sx] at h')))))
      | (refine q_then ?_) | (refine q_then_r ?_) | (refine q_then_e ?_) | (refine q_blk_n ?_) | (refine q_blk_r ?_) | (refine q_blk_e ?_) | (refine q_blk_o rfl ?_) | (refine q_loop_r ?_) | (refine q_loop_e ?_) | (refine ret_n ?_))
      all_goals first
        | (refine q_next (i + 1) rfl (by refine ⟨?_, ?_, rfl, rfl⟩ <;> (repeat' (first | exact trivial | exact ⟨rfl, rfl⟩ | exact rfl | exact ⟨sub_fn, refs_fn⟩ | refine ⟨⟨rfl, rfl⟩, ?_⟩ | refine ⟨⟨sub_fn, refs_fn⟩, ?_⟩ | refine ⟨⟨rfl, fun h => Bool.noConfusion h⟩, ?_⟩ | refine ⟨⟨rfl, fun h => ?_⟩, ?_⟩ | refine ⟨rfl, ?_⟩ | refine ⟨?_, ?_⟩ | fail))) ⟨by omega, okA_step hi2 ?_⟩ aO; unfold OkA; rw [hd]; exact ⟨by assumption, fun h0 => absurd h0 hi0⟩)
        | (refine ret_bool rfl (lookE_ok rfl) ?_
           have : ¬ GoodA xs := not_goodA hlt (fun hk => by
             unfold OkA at hk
             rw [hd] at hk
             first | exact absurd hk.1 aA | (have := hk.2 hi0; omega))
           simp [this])
  · repeat' (first
      | (refine g_exec ?_; first | (refine g_move ?_; refine x_moveO _ rfl ?_) | (refine g_assign ?_; refine x_assignO _ rfl ?_) | (refine g_bin ?_; first | (refine x_add rfl rfl aO ?_) | (refine x_sub rfl rfl aO ?_) | (refine x_bin _ rfl rfl rfl ?_) | (refine x_strBin _ rfl rfl rfl ?_)) | (refine g_un ?_; first | (refine x_not rfl ?_) | (refine x_neg rfl aO ?_)) | (refine g_load ?_; first | (refine x_load_pc aA rfl ?_) | (refine x_load_oc _ aA rfl rfl aE rfl ?_) | (refine x_load_pa _ aA rfl aZ aL ?_) | (refine x_load_oa _ aA rfl rfl aE aZ aL ?_)) | (refine g_index ?_; first | (refine x_index_l _ aA rfl rfl aO aA ?_) | (refine x_index_o _ aA rfl rfl rfl rfl aO aO (by first | (rw [Nat.zero_add, Int.toNat_natCast]) | (rw [Nat.zero_add]) | rfl) ?_)) | (refine g_pick ?_; first | (refine x_pick_b rfl aD rfl ?_) | (refine x_pick_c rfl aD ?_) | (refine x_pick_a rfl aD ?_) | (refine x_pick_d rfl aD rfl ?_)) | (refine g_guard ?_; first | (refine x_gyes rfl rfl aD ?_) | (refine x_gno rfl rfl aD ?_) | (refine x_gun rfl rfl ?_) | (refine x_gsplit rfl rfl (fun h => ?_) (fun h => ?_) <;> (have h' := h; (try simp only [sx] at h')))) | (refine g_call ?_; first | (refine x_len_l aA rfl ?_) | (refine x_len_o aA rfl rfl ?_) | (refine x_len_n aA rfl ?_) | (refine x_len_s aA (evO_ok rfl) ?_)) | (refine x_alloc _ aA rfl ?_) | (refine x_allocF aA rfl ?_) | (refine x_storeO _ _ _ rfl rfl aE (by first | assumption | (exact TAgg.size aA)) rfl rfl rfl aZ rfl aL (by first | (first | (simp only [lx, Nat.reduceAdd]; first | done | rfl) | fail) | rfl) ?_) | (refine x_nil (hK _ _ (.inl rfl) ?_); clear hK K) | (refine x_nil (hK _ _ (.inr (by kernel_rfl)) ?_); clear hK K))
      | (refine g_code ?_; first | (refine v_seq ?_) | (refine v_region (fun K hK => ?_)) | (refine v_block ?_) | (refine v_skip ?_) | (refine v_ret ?_) | (refine v_exit ?_) | (refine g_cond ?_; first | (refine v_cond_y rfl aD ?_) | (refine v_cond_n rfl aD ?_) | (refine v_condt rfl (fun h => ?_) (fun h => ?_) <;> (have h' := h; (try simp only [sx] at h')))))
      | (refine q_then ?_) | (refine q_then_r ?_) | (refine q_then_e ?_) | (refine q_blk_n ?_) | (refine q_blk_r ?_) | (refine q_blk_e ?_) | (refine q_blk_o rfl ?_) | (refine q_loop_r ?_) | (refine q_loop_e ?_) | (refine ret_n ?_))
    (refine ret_bool rfl (lookE_ok rfl) ?_; rw [Bool.eq_iff_iff]; try simp only [sx] at *)
    constructor
    · intro h
      exact ⟨fun j hj => hi2 j aO, by omega⟩
    · intro h
      have := h.2
      omega
theorem k_iAreAssets (xs : List Asset) (hn : xs.length ≤ 1099511627776) (hs : ∀ a ∈ xs, a.name.size ≤ 1099511627776) : Con Try.prog 54 [.list 4 (xs.map Asset.pv)] (.bool (decide (GoodA xs))) := by
  intro al
  refine contract_of hmix Try.func54 rfl (by kernel_rfl) (by kernel_rfl) (Nat.le_of_ble_eq_true rfl) (fun row h => by cases h) ?_
  have hty_u29 := ty_u29
  have hty_s29 := ty_s29
  repeat' (first
      | (refine g_exec ?_; first | (refine g_move ?_; refine x_moveO _ rfl ?_) | (refine g_assign ?_; refine x_assignO _ rfl ?_) | (refine g_call ?_; refine x_callG true (k_areListedA xs hn hs) rfl rfl rfl aS rfl aH ?_; simp only [cl]) | (refine x_nil (hK _ _ (.inl rfl) ?_); clear hK K) | (refine x_nil (hK _ _ (.inr (by kernel_rfl)) ?_); clear hK K))
      | (refine g_code ?_; first | (refine v_seq ?_) | (refine v_region (fun K hK => ?_)) | (refine v_block ?_) | (refine v_skip ?_) | (refine v_ret ?_) | (refine v_exit ?_))
      | (refine q_then ?_) | (refine q_then_r ?_) | (refine q_then_e ?_) | (refine q_blk_n ?_) | (refine q_blk_r ?_) | (refine q_blk_e ?_) | (refine q_blk_o rfl ?_) | (refine q_loop_r ?_) | (refine q_loop_e ?_) | (refine ret_n ?_))
  exact ret_bool rfl (lookE_ok rfl) rfl

@[reducible] def isIdA (n : Int) (a : Asset) : Bool := a.id == n
@[reducible] def fndA (xs : List Asset) (n : Int) : Int := idx (isIdA n) xs
theorem k_l24Find (xs : List Asset) (n : Int) (hn : xs.length ≤ 1099511627776) : Con Try.prog 39 [.list 4 (xs.map Asset.pv), .int .i64 n] (.int .i64 (fndA xs n)) := by
  intro al
  refine contract_of hmix Try.func39 rfl (by kernel_rfl) (by kernel_rfl) (Nat.le_of_ble_eq_true rfl) (fun row h => by cases h) ?_
  have hty_u29 := ty_u29
  have hty_s29 := ty_s29
  have hty_f55_0 := ty_f55_0
  have hty_c3 := ty_c3
  have hl1 : (xs.map Asset.pv).length = xs.length := by simp
  repeat' (first
      | (refine g_exec ?_; first | (refine g_move ?_; refine x_moveO _ rfl ?_) | (refine g_assign ?_; refine x_assignO _ rfl ?_) | (refine g_bin ?_; first | (refine x_add rfl rfl aO ?_) | (refine x_bin _ rfl rfl rfl ?_) | (refine x_boolEq aA rfl rfl ?_) | (refine x_strBin _ rfl rfl rfl ?_)) | (refine g_load ?_; first | (refine x_load_pc aA rfl ?_) | (refine x_load_oc _ aA rfl rfl aE rfl ?_) | (refine x_load_pa _ aA rfl aZ aL ?_) | (refine x_load_oa _ aA rfl rfl aE aZ aL ?_)) | (refine g_field ?_; first | (refine x_field_p _ aA rfl aL ?_) | (refine x_field_o _ aA rfl rfl (by simp only [lx, Nat.reduceAdd]; first | done | rfl) ?_)) | (refine g_index ?_; first | (refine x_index_l _ aA rfl rfl aO aA ?_) | (refine x_index_o _ aA rfl rfl rfl rfl aO aO (by first | (rw [Nat.zero_add, Int.toNat_natCast]) | (rw [Nat.zero_add]) | rfl) ?_)) | (refine g_call ?_; first | (refine x_len_l aA rfl ?_) | (refine x_len_o aA rfl rfl ?_) | (refine x_len_n aA rfl ?_) | (refine x_len_s aA (evO_ok rfl) ?_)) | (refine x_nil (hK _ _ (.inl rfl) ?_); clear hK K) | (refine x_nil (hK _ _ (.inr (by kernel_rfl)) ?_); clear hK K))
      | (refine g_code ?_; first | (refine v_seq ?_) | (refine v_region (fun K hK => ?_)) | (refine v_block ?_) | (refine v_skip ?_) | (refine v_ret ?_) | (refine v_exit ?_) | (refine g_cond ?_; first | (refine v_cond_y rfl aD ?_) | (refine v_cond_n rfl aD ?_) | (refine v_condt rfl (fun h => ?_) (fun h => ?_) <;> (have h' := h; (try simp only [sx] at h')))))
      | (refine q_then ?_) | (refine q_then_r ?_) | (refine q_then_e ?_) | (refine q_blk_n ?_) | (refine q_blk_r ?_) | (refine q_blk_e ?_) | (refine q_blk_o rfl ?_) | (refine q_loop_r ?_) | (refine q_loop_e ?_) | (refine ret_n ?_))
  refine v_loopK [0, 1] [] (fun i : Nat => [(5, .int .i64 i)]) (fun i : Nat => []) (fun i : Nat => i ≤ xs.length ∧ ∀ j, j < i → ∀ c, xs[j]? = some c → isIdA n c = false) (fun i : Nat => xs.length - i) (0) rfl rfl (fun _ => rfl) (fun _ => rfl) rfl (by refine ⟨?_, ?_, rfl, rfl⟩ <;> (repeat' (first | exact trivial | exact ⟨rfl, rfl⟩ | exact rfl | exact ⟨sub_fn, refs_fn⟩ | refine ⟨⟨rfl, rfl⟩, ?_⟩ | refine ⟨⟨sub_fn, refs_fn⟩, ?_⟩ | refine ⟨⟨rfl, fun h => Bool.noConfusion h⟩, ?_⟩ | refine ⟨⟨rfl, fun h => ?_⟩, ?_⟩ | refine ⟨rfl, ?_⟩ | refine ⟨?_, ?_⟩ | fail))) ⟨by omega, fun j hj => by omega⟩ (fun i hi => ?_)
  obtain ⟨hi1, hi2⟩ := hi
  rcases Nat.lt_or_ge i xs.length with hlt | hge
  · obtain ⟨a, hga⟩ := get_ex hlt
    have hx := Asset.at hga
    repeat' (first
      | (refine g_exec ?_; first | (refine g_move ?_; refine x_moveO _ rfl ?_) | (refine g_assign ?_; refine x_assignO _ rfl ?_) | (refine g_bin ?_; first | (refine x_add rfl rfl aO ?_) | (refine x_bin _ rfl rfl rfl ?_) | (refine x_boolEq aA rfl rfl ?_) | (refine x_strBin _ rfl rfl rfl ?_)) | (refine g_load ?_; first | (refine x_load_pc aA rfl ?_) | (refine x_load_oc _ aA rfl rfl aE rfl ?_) | (refine x_load_pa _ aA rfl aZ aL ?_) | (refine x_load_oa _ aA rfl rfl aE aZ aL ?_)) | (refine g_field ?_; first | (refine x_field_p _ aA rfl aL ?_) | (refine x_field_o _ aA rfl rfl (by simp only [lx, Nat.reduceAdd]; first | done | rfl) ?_)) | (refine g_index ?_; first | (refine x_index_l _ aA rfl rfl aO aA ?_) | (refine x_index_o _ aA rfl rfl rfl rfl aO aO (by first | (rw [Nat.zero_add, Int.toNat_natCast]) | (rw [Nat.zero_add]) | rfl) ?_)) | (refine g_call ?_; first | (refine x_len_l aA rfl ?_) | (refine x_len_o aA rfl rfl ?_) | (refine x_len_n aA rfl ?_) | (refine x_len_s aA (evO_ok rfl) ?_)) | (refine x_nil (hK _ _ (.inl rfl) ?_); clear hK K) | (refine x_nil (hK _ _ (.inr (by kernel_rfl)) ?_); clear hK K))
      | (refine g_code ?_; first | (refine v_seq ?_) | (refine v_region (fun K hK => ?_)) | (refine v_block ?_) | (refine v_skip ?_) | (refine v_ret ?_) | (refine v_exit ?_) | (refine g_cond ?_; first | (refine v_cond_y rfl aD ?_) | (refine v_cond_n rfl aD ?_) | (refine v_condt rfl (fun h => ?_) (fun h => ?_) <;> (have h' := h; (try simp only [sx] at h')))))
      | (refine q_then ?_) | (refine q_then_r ?_) | (refine q_then_e ?_) | (refine q_blk_n ?_) | (refine q_blk_r ?_) | (refine q_blk_e ?_) | (refine q_blk_o rfl ?_) | (refine q_loop_r ?_) | (refine q_loop_e ?_) | (refine ret_n ?_))
    · exact ret_int rfl (lookE_ok rfl) (idx_some hi2 hga (by simpa [isIdA] using h)).symm
    · refine q_next (i + 1) rfl (by refine ⟨?_, ?_, rfl, rfl⟩ <;> (repeat' (first | exact trivial | exact ⟨rfl, rfl⟩ | exact rfl | exact ⟨sub_fn, refs_fn⟩ | refine ⟨⟨rfl, rfl⟩, ?_⟩ | refine ⟨⟨sub_fn, refs_fn⟩, ?_⟩ | refine ⟨⟨rfl, fun h => Bool.noConfusion h⟩, ?_⟩ | refine ⟨⟨rfl, fun h => ?_⟩, ?_⟩ | refine ⟨rfl, ?_⟩ | refine ⟨?_, ?_⟩ | fail))) ⟨by omega, idx_step hi2 hga (by simpa [isIdA] using h)⟩ aO
  · repeat' (first
      | (refine g_exec ?_; first | (refine g_move ?_; refine x_moveO _ rfl ?_) | (refine g_assign ?_; refine x_assignO _ rfl ?_) | (refine g_bin ?_; first | (refine x_add rfl rfl aO ?_) | (refine x_bin _ rfl rfl rfl ?_) | (refine x_boolEq aA rfl rfl ?_) | (refine x_strBin _ rfl rfl rfl ?_)) | (refine g_load ?_; first | (refine x_load_pc aA rfl ?_) | (refine x_load_oc _ aA rfl rfl aE rfl ?_) | (refine x_load_pa _ aA rfl aZ aL ?_) | (refine x_load_oa _ aA rfl rfl aE aZ aL ?_)) | (refine g_field ?_; first | (refine x_field_p _ aA rfl aL ?_) | (refine x_field_o _ aA rfl rfl (by simp only [lx, Nat.reduceAdd]; first | done | rfl) ?_)) | (refine g_index ?_; first | (refine x_index_l _ aA rfl rfl aO aA ?_) | (refine x_index_o _ aA rfl rfl rfl rfl aO aO (by first | (rw [Nat.zero_add, Int.toNat_natCast]) | (rw [Nat.zero_add]) | rfl) ?_)) | (refine g_call ?_; first | (refine x_len_l aA rfl ?_) | (refine x_len_o aA rfl rfl ?_) | (refine x_len_n aA rfl ?_) | (refine x_len_s aA (evO_ok rfl) ?_)) | (refine x_nil (hK _ _ (.inl rfl) ?_); clear hK K) | (refine x_nil (hK _ _ (.inr (by kernel_rfl)) ?_); clear hK K))
      | (refine g_code ?_; first | (refine v_seq ?_) | (refine v_region (fun K hK => ?_)) | (refine v_block ?_) | (refine v_skip ?_) | (refine v_ret ?_) | (refine v_exit ?_) | (refine g_cond ?_; first | (refine v_cond_y rfl aD ?_) | (refine v_cond_n rfl aD ?_) | (refine v_condt rfl (fun h => ?_) (fun h => ?_) <;> (have h' := h; (try simp only [sx] at h')))))
      | (refine q_then ?_) | (refine q_then_r ?_) | (refine q_then_e ?_) | (refine q_blk_n ?_) | (refine q_blk_r ?_) | (refine q_blk_e ?_) | (refine q_blk_o rfl ?_) | (refine q_loop_r ?_) | (refine q_loop_e ?_) | (refine ret_n ?_))
    exact ret_int rfl (lookE_ok rfl) (idx_none fun j hj => hi2 j aO).symm
theorem k_assetAt1 (a : Asset) (n : Int) : Con Try.prog 65 [.agg a.pv, .ptr [.int .i64 n]] (.bool (isIdA n a)) := by
  intro al
  refine contract_of hmix Try.func65 rfl (by kernel_rfl) (by kernel_rfl) (Nat.le_of_ble_eq_true rfl) (fun row h => by cases h) ?_
  have hty_f55_0 := ty_f55_0
  have hty_c3 := ty_c3
  repeat' (first
      | (refine g_exec ?_; first | (refine g_assign ?_; refine x_assignO _ rfl ?_) | (refine g_bin ?_; first | (refine x_bin _ rfl rfl rfl ?_) | (refine x_boolEq aA rfl rfl ?_) | (refine x_strBin _ rfl rfl rfl ?_)) | (refine g_load ?_; first | (refine x_load_pc aA rfl ?_) | (refine x_load_oc _ aA rfl rfl aE rfl ?_) | (refine x_load_pa _ aA rfl aZ aL ?_) | (refine x_load_oa _ aA rfl rfl aE aZ aL ?_)) | (refine g_field ?_; first | (refine x_field_p _ aA rfl aL ?_) | (refine x_field_o _ aA rfl rfl (by simp only [lx, Nat.reduceAdd]; first | done | rfl) ?_)) | (refine x_boxO _ _ rfl rfl rfl rfl ?_) | (refine x_nil (hK _ _ (.inl rfl) ?_); clear hK K) | (refine x_nil (hK _ _ (.inr (by kernel_rfl)) ?_); clear hK K))
      | (refine g_code ?_; first | (refine v_seq ?_) | (refine v_region (fun K hK => ?_)) | (refine v_block ?_) | (refine v_skip ?_) | (refine v_ret ?_) | (refine v_exit ?_))
      | (refine q_then ?_) | (refine q_then_r ?_) | (refine q_then_e ?_) | (refine q_blk_n ?_) | (refine q_blk_r ?_) | (refine q_blk_e ?_) | (refine q_blk_o rfl ?_) | (refine q_loop_r ?_) | (refine q_loop_e ?_) | (refine ret_n ?_))
  exact ret_bool rfl (lookE_ok rfl) rfl
theorem k_assetAt (xs : List Asset) (n : Int) (hn : xs.length ≤ 1099511627776) : Con Try.prog 45 [.list 4 (xs.map Asset.pv), .int .i64 n] (.int .i64 (fndA xs n)) := by
  intro al
  refine contract_of hmix Try.func45 rfl (by kernel_rfl) (by kernel_rfl) (Nat.le_of_ble_eq_true rfl) (fun row h => by cases h) ?_
  have hty_u29 := ty_u29
  have hty_s29 := ty_s29
  repeat' (first
      | (refine g_exec ?_; first | (refine g_move ?_; refine x_moveO _ rfl ?_) | (refine g_assign ?_; refine x_assignO _ rfl ?_) | (refine g_call ?_; refine x_callG true (k_IndexFuncAsset xs 65 [[.int .i64 n]] (isIdA n) (fun a _ => k_assetAt1 a n) hn) rfl rfl rfl aS rfl aH ?_; simp only [cl]) | (refine x_boxO _ _ rfl rfl rfl rfl ?_) | (refine x_mkfn _ _ rfl rfl ?_) | (refine x_nil (hK _ _ (.inl rfl) ?_); clear hK K) | (refine x_nil (hK _ _ (.inr (by kernel_rfl)) ?_); clear hK K))
      | (refine g_code ?_; first | (refine v_seq ?_) | (refine v_region (fun K hK => ?_)) | (refine v_block ?_) | (refine v_skip ?_) | (refine v_ret ?_) | (refine v_exit ?_))
      | (refine q_then ?_) | (refine q_then_r ?_) | (refine q_then_e ?_) | (refine q_blk_n ?_) | (refine q_blk_r ?_) | (refine q_blk_e ?_) | (refine q_blk_o rfl ?_) | (refine q_loop_r ?_) | (refine q_loop_e ?_) | (refine ret_n ?_))
  exact ret_int rfl (lookE_ok rfl) rfl
theorem fndA_id {xs : List Asset} {n : Int} (h : 0 ≤ fndA xs n) : ∃ a ∈ xs, a.id = n := by
  obtain ⟨i, a, _, h2, h3⟩ := idx_at h
  exact ⟨a, get_mem h2, by simpa [isIdA] using h3⟩

def SceneS (xs : List Asset) (s : Scene) : Prop := (∀ b ∈ s.burned, 0 ≤ fndA xs b) ∧ (1 ≤ s.weight ∧ s.weight ≤ 100) ∧ (∀ b ∈ s.burned, 1 ≤ b ∧ b ≤ 99) ∧ Rising s.burned
instance (xs : List Asset) (s : Scene) : Decidable (SceneS xs s) := by unfold SceneS; infer_instance
def SceneI (xs : List Asset) (s : Scene) : Prop := (1 ≤ s.weight ∧ s.weight ≤ 100) ∧ Rising s.burned ∧ ∀ b ∈ s.burned, 0 ≤ fndA xs b
instance (xs : List Asset) (s : Scene) : Decidable (SceneI xs s) := by unfold SceneI; infer_instance
theorem scene_same {xs : List Asset} (hg : GoodA xs) (s : Scene) : SceneS xs s ↔ SceneI xs s := by
  constructor
  · intro h; exact ⟨h.2.1, h.2.2.2, h.1⟩
  · intro h
    refine ⟨h.2.2, h.1, fun b hb => ?_, h.2.1⟩
    obtain ⟨a, ha, e⟩ := fndA_id (h.2.2 b hb)
    have := (hg.one a ha).1
    omega
theorem k_l24Scene (xs : List Asset) (s : Scene) (hn : xs.length ≤ 1099511627776) (hb : s.burned.length ≤ 1099511627776) : Con Try.prog 49 [.list 4 (xs.map Asset.pv), .agg s.pv] (.bool (decide (SceneS xs s))) := by
  intro al
  refine contract_of hmix Try.func49 rfl (by kernel_rfl) (by kernel_rfl) (Nat.le_of_ble_eq_true rfl) (fun row h => by cases h) ?_
  have hty_f57_1 := ty_f57_1
  have hty_c40 := ty_c40
  have hty_u40 := ty_u40
  have hty_s40 := ty_s40
  have hty_c3 := ty_c3
  have hty_u29 := ty_u29
  have hty_s29 := ty_s29
  have hty_f57_0 := ty_f57_0
  have hl1 : (ints s.burned).length = s.burned.length := by simp
  repeat' (first
      | (refine g_exec ?_; first | (refine g_move ?_; refine x_moveO _ rfl ?_) | (refine g_assign ?_; refine x_assignO _ rfl ?_) | (refine g_bin ?_; first | (refine x_add rfl rfl aO ?_) | (refine x_bin _ rfl rfl rfl ?_) | (refine x_strBin _ rfl rfl rfl ?_)) | (refine g_load ?_; first | (refine x_load_pc aA rfl ?_) | (refine x_load_oc _ aA rfl rfl aE rfl ?_) | (refine x_load_pa _ aA rfl aZ aL ?_) | (refine x_load_oa _ aA rfl rfl aE aZ aL ?_)) | (refine g_field ?_; first | (refine x_field_p _ aA rfl aL ?_) | (refine x_field_o _ aA rfl rfl (by simp only [lx, Nat.reduceAdd]; first | done | rfl) ?_)) | (refine g_index ?_; first | (refine x_index_l _ aA rfl rfl aO aA ?_) | (refine x_index_o _ aA rfl rfl rfl rfl aO aO (by first | (rw [Nat.zero_add, Int.toNat_natCast]) | (rw [Nat.zero_add]) | rfl) ?_)) | (refine g_pick ?_; first | (refine x_pick_b rfl aD rfl ?_) | (refine x_pick_c rfl aD ?_) | (refine x_pick_a rfl aD ?_) | (refine x_pick_d rfl aD rfl ?_)) | (refine g_guard ?_; first | (refine x_gyes rfl rfl aD ?_) | (refine x_gno rfl rfl aD ?_) | (refine x_gun rfl rfl ?_) | (refine x_gsplit rfl rfl (fun h => ?_) (fun h => ?_) <;> (have h' := h; (try simp only [sx] at h')))) | (refine g_call ?_; first | (refine x_len_l aA rfl ?_) | (refine x_len_o aA rfl rfl ?_) | (refine x_len_n aA rfl ?_) | (refine x_len_s aA (evO_ok rfl) ?_)) | (refine x_boxO _ _ rfl rfl rfl rfl ?_) | (refine x_nil (hK _ _ (.inl rfl) ?_); clear hK K) | (refine x_nil (hK _ _ (.inr (by kernel_rfl)) ?_); clear hK K))
      | (refine g_code ?_; first | (refine v_seq ?_) | (refine v_region (fun K hK => ?_)) | (refine v_block ?_) | (refine v_skip ?_) | (refine v_ret ?_) | (refine v_exit ?_) | (refine g_cond ?_; first | (refine v_cond_y rfl aD ?_) | (refine v_cond_n rfl aD ?_) | (refine v_condt rfl (fun h => ?_) (fun h => ?_) <;> (have h' := h; (try simp only [sx] at h')))))
      | (refine q_then ?_) | (refine q_then_r ?_) | (refine q_then_e ?_) | (refine q_blk_n ?_) | (refine q_blk_r ?_) | (refine q_blk_e ?_) | (refine q_blk_o rfl ?_) | (refine q_loop_r ?_) | (refine q_loop_e ?_) | (refine ret_n ?_))
  refine v_loopK [0, 3] [] (fun i : Nat => [(5, .int .i64 i)]) (fun i : Nat => []) (fun i : Nat => i ≤ s.burned.length ∧ ∀ b ∈ s.burned.take i, 0 ≤ fndA xs b) (fun i : Nat => s.burned.length - i) (0) rfl rfl (fun _ => rfl) (fun _ => rfl) rfl (by refine ⟨?_, ?_, rfl, rfl⟩ <;> (repeat' (first | exact trivial | exact ⟨rfl, rfl⟩ | exact rfl | exact ⟨sub_fn, refs_fn⟩ | refine ⟨⟨rfl, rfl⟩, ?_⟩ | refine ⟨⟨sub_fn, refs_fn⟩, ?_⟩ | refine ⟨⟨rfl, fun h => Bool.noConfusion h⟩, ?_⟩ | refine ⟨⟨rfl, fun h => ?_⟩, ?_⟩ | refine ⟨rfl, ?_⟩ | refine ⟨?_, ?_⟩ | fail))) ⟨by omega, fun y hy => by simp at hy⟩ (fun i hi => ?_)
  obtain ⟨hi1, hi2⟩ := hi
  rcases Nat.lt_or_ge i s.burned.length with hlt | hge
  · obtain ⟨a, hga⟩ := get_ex hlt
    have hx := ints_at hga
    repeat' (first
      | (refine g_exec ?_; first | (refine g_move ?_; refine x_moveO _ rfl ?_) | (refine g_assign ?_; refine x_assignO _ rfl ?_) | (refine g_bin ?_; first | (refine x_add rfl rfl aO ?_) | (refine x_bin _ rfl rfl rfl ?_) | (refine x_strBin _ rfl rfl rfl ?_)) | (refine g_load ?_; first | (refine x_load_pc aA rfl ?_) | (refine x_load_oc _ aA rfl rfl aE rfl ?_) | (refine x_load_pa _ aA rfl aZ aL ?_) | (refine x_load_oa _ aA rfl rfl aE aZ aL ?_)) | (refine g_field ?_; first | (refine x_field_p _ aA rfl aL ?_) | (refine x_field_o _ aA rfl rfl (by simp only [lx, Nat.reduceAdd]; first | done | rfl) ?_)) | (refine g_index ?_; first | (refine x_index_l _ aA rfl rfl aO aA ?_) | (refine x_index_o _ aA rfl rfl rfl rfl aO aO (by first | (rw [Nat.zero_add, Int.toNat_natCast]) | (rw [Nat.zero_add]) | rfl) ?_)) | (refine g_pick ?_; first | (refine x_pick_b rfl aD rfl ?_) | (refine x_pick_c rfl aD ?_) | (refine x_pick_a rfl aD ?_) | (refine x_pick_d rfl aD rfl ?_)) | (refine g_guard ?_; first | (refine x_gyes rfl rfl aD ?_) | (refine x_gno rfl rfl aD ?_) | (refine x_gun rfl rfl ?_) | (refine x_gsplit rfl rfl (fun h => ?_) (fun h => ?_) <;> (have h' := h; (try simp only [sx] at h')))) | (refine g_call ?_; first | (refine x_callG true (k_l24Find xs a hn) rfl rfl rfl aS rfl aH ?_; simp only [cl]) | (refine x_len_l aA rfl ?_) | (refine x_len_o aA rfl rfl ?_) | (refine x_len_n aA rfl ?_) | (refine x_len_s aA (evO_ok rfl) ?_)) | (refine x_boxO _ _ rfl rfl rfl rfl ?_) | (refine x_nil (hK _ _ (.inl rfl) ?_); clear hK K) | (refine x_nil (hK _ _ (.inr (by kernel_rfl)) ?_); clear hK K))
      | (refine g_code ?_; first | (refine v_seq ?_) | (refine v_region (fun K hK => ?_)) | (refine v_block ?_) | (refine v_skip ?_) | (refine v_ret ?_) | (refine v_exit ?_) | (refine g_cond ?_; first | (refine v_cond_y rfl aD ?_) | (refine v_cond_n rfl aD ?_) | (refine v_condt rfl (fun h => ?_) (fun h => ?_) <;> (have h' := h; (try simp only [sx] at h')))))
      | (refine q_then ?_) | (refine q_then_r ?_) | (refine q_then_e ?_) | (refine q_blk_n ?_) | (refine q_blk_r ?_) | (refine q_blk_e ?_) | (refine q_blk_o rfl ?_) | (refine q_loop_r ?_) | (refine q_loop_e ?_) | (refine ret_n ?_))
    · refine ret_bool rfl (lookE_ok rfl) ?_
      have : ¬ SceneS xs s := fun hk => by have := hk.1 a (get_mem hga); omega
      simp [this]
    · refine q_next (i + 1) rfl (by refine ⟨?_, ?_, rfl, rfl⟩ <;> (repeat' (first | exact trivial | exact ⟨rfl, rfl⟩ | exact rfl | exact ⟨sub_fn, refs_fn⟩ | refine ⟨⟨rfl, rfl⟩, ?_⟩ | refine ⟨⟨sub_fn, refs_fn⟩, ?_⟩ | refine ⟨⟨rfl, fun h => Bool.noConfusion h⟩, ?_⟩ | refine ⟨⟨rfl, fun h => ?_⟩, ?_⟩ | refine ⟨rfl, ?_⟩ | refine ⟨?_, ?_⟩ | fail))) ⟨by omega, all_take_succ hga hi2 aO⟩ aO
  · rw [take_all hge] at hi2
    repeat' (first
      | (refine g_exec ?_; first | (refine g_move ?_; refine x_moveO _ rfl ?_) | (refine g_assign ?_; refine x_assignO _ rfl ?_) | (refine g_bin ?_; first | (refine x_add rfl rfl aO ?_) | (refine x_bin _ rfl rfl rfl ?_) | (refine x_strBin _ rfl rfl rfl ?_)) | (refine g_load ?_; first | (refine x_load_pc aA rfl ?_) | (refine x_load_oc _ aA rfl rfl aE rfl ?_) | (refine x_load_pa _ aA rfl aZ aL ?_) | (refine x_load_oa _ aA rfl rfl aE aZ aL ?_)) | (refine g_field ?_; first | (refine x_field_p _ aA rfl aL ?_) | (refine x_field_o _ aA rfl rfl (by simp only [lx, Nat.reduceAdd]; first | done | rfl) ?_)) | (refine g_index ?_; first | (refine x_index_l _ aA rfl rfl aO aA ?_) | (refine x_index_o _ aA rfl rfl rfl rfl aO aO (by first | (rw [Nat.zero_add, Int.toNat_natCast]) | (rw [Nat.zero_add]) | rfl) ?_)) | (refine g_pick ?_; first | (refine x_pick_b rfl aD rfl ?_) | (refine x_pick_c rfl aD ?_) | (refine x_pick_a rfl aD ?_) | (refine x_pick_d rfl aD rfl ?_)) | (refine g_guard ?_; first | (refine x_gyes rfl rfl aD ?_) | (refine x_gno rfl rfl aD ?_) | (refine x_gun rfl rfl ?_) | (refine x_gsplit rfl rfl (fun h => ?_) (fun h => ?_) <;> (have h' := h; (try simp only [sx] at h')))) | (refine g_call ?_; first | (refine x_callG true (k_l1In _ _ _) rfl rfl rfl aS rfl aH ?_; simp only [cl]) | (refine x_callG true (k_l1Rising s.burned 1 99 hb) rfl rfl rfl aS rfl aH ?_; simp only [cl]) | (refine x_len_l aA rfl ?_) | (refine x_len_o aA rfl rfl ?_) | (refine x_len_n aA rfl ?_) | (refine x_len_s aA (evO_ok rfl) ?_)) | (refine x_boxO _ _ rfl rfl rfl rfl ?_) | (refine x_nil (hK _ _ (.inl rfl) ?_); clear hK K) | (refine x_nil (hK _ _ (.inr (by kernel_rfl)) ?_); clear hK K))
      | (refine g_code ?_; first | (refine v_seq ?_) | (refine v_region (fun K hK => ?_)) | (refine v_block ?_) | (refine v_skip ?_) | (refine v_ret ?_) | (refine v_exit ?_) | (refine g_cond ?_; first | (refine v_cond_y rfl aD ?_) | (refine v_cond_n rfl aD ?_) | (refine v_condt rfl (fun h => ?_) (fun h => ?_) <;> (have h' := h; (try simp only [sx] at h')))))
      | (refine q_then ?_) | (refine q_then_r ?_) | (refine q_then_e ?_) | (refine q_blk_n ?_) | (refine q_blk_r ?_) | (refine q_blk_e ?_) | (refine q_blk_o rfl ?_) | (refine q_loop_r ?_) | (refine q_loop_e ?_) | (refine ret_n ?_))
    all_goals
      (refine ret_bool rfl (lookE_ok rfl) ?_; rw [Bool.eq_iff_iff]; try simp only [sx] at *)
      unfold SceneS
      constructor
      · intro hq
        first | contradiction | exact ⟨hi2, by omega, hq.1, hq.2⟩
      · intro hq
        first | exact ⟨hq.2.2.1, hq.2.2.2⟩ | (have := hq.2.1; omega)
theorem k_isScene1 (xs : List Asset) (n : Int) (hn : xs.length ≤ 1099511627776) : Con Try.prog 75 [.int .i64 n, .ptr [.list 4 (xs.map Asset.pv)]] (.bool (decide (0 ≤ fndA xs n))) := by
  intro al
  refine contract_of hmix Try.func75 rfl (by kernel_rfl) (by kernel_rfl) (Nat.le_of_ble_eq_true rfl) (fun row h => by cases h) ?_
  have hty_c29 := ty_c29
  have hty_u29 := ty_u29
  have hty_s29 := ty_s29
  repeat' (first
      | (refine g_exec ?_; first | (refine g_move ?_; refine x_moveO _ rfl ?_) | (refine g_assign ?_; refine x_assignO _ rfl ?_) | (refine g_bin ?_; refine x_bin _ rfl rfl rfl ?_) | (refine g_load ?_; first | (refine x_load_pc aA rfl ?_) | (refine x_load_oc _ aA rfl rfl aE rfl ?_) | (refine x_load_pa _ aA rfl aZ aL ?_) | (refine x_load_oa _ aA rfl rfl aE aZ aL ?_)) | (refine g_call ?_; refine x_callG true (k_assetAt xs n hn) rfl rfl rfl aS rfl aH ?_; simp only [cl]) | (refine x_nil (hK _ _ (.inl rfl) ?_); clear hK K) | (refine x_nil (hK _ _ (.inr (by kernel_rfl)) ?_); clear hK K))
      | (refine g_code ?_; first | (refine v_seq ?_) | (refine v_region (fun K hK => ?_)) | (refine v_block ?_) | (refine v_skip ?_) | (refine v_ret ?_) | (refine v_exit ?_))
      | (refine q_then ?_) | (refine q_then_r ?_) | (refine q_then_e ?_) | (refine q_blk_n ?_) | (refine q_blk_r ?_) | (refine q_blk_e ?_) | (refine q_blk_o rfl ?_) | (refine q_loop_r ?_) | (refine q_loop_e ?_) | (refine ret_n ?_))
  exact ret_bool rfl (lookE_ok rfl) rfl
theorem k_isScene (xs : List Asset) (s : Scene) (hn : xs.length ≤ 1099511627776) (hb : s.burned.length ≤ 1099511627776) : Con Try.prog 58 [.list 4 (xs.map Asset.pv), .agg s.pv] (.bool (decide (SceneI xs s))) := by
  intro al
  refine contract_of hmix Try.func58 rfl (by kernel_rfl) (by kernel_rfl) (Nat.le_of_ble_eq_true rfl) (fun row h => by cases h) ?_
  have hty_f57_0 := ty_f57_0
  have hty_c3 := ty_c3
  have hty_f57_1 := ty_f57_1
  have hty_c40 := ty_c40
  have hty_u40 := ty_u40
  have hty_s40 := ty_s40
  have hall : (s.burned.all fun b => decide (0 ≤ fndA xs b)) = true ↔ ∀ b ∈ s.burned, 0 ≤ fndA xs b := by simp
  repeat' (first
      | (refine g_exec ?_; first | (refine g_move ?_; refine x_moveO _ rfl ?_) | (refine g_assign ?_; refine x_assignO _ rfl ?_) | (refine g_load ?_; first | (refine x_load_pc aA rfl ?_) | (refine x_load_oc _ aA rfl rfl aE rfl ?_) | (refine x_load_pa _ aA rfl aZ aL ?_) | (refine x_load_oa _ aA rfl rfl aE aZ aL ?_)) | (refine g_field ?_; first | (refine x_field_p _ aA rfl aL ?_) | (refine x_field_o _ aA rfl rfl (by simp only [lx, Nat.reduceAdd]; first | done | rfl) ?_)) | (refine g_pick ?_; first | (refine x_pick_b rfl aD rfl ?_) | (refine x_pick_c rfl aD ?_) | (refine x_pick_a rfl aD ?_) | (refine x_pick_d rfl aD rfl ?_)) | (refine g_guard ?_; first | (refine x_gyes rfl rfl aD ?_) | (refine x_gno rfl rfl aD ?_) | (refine x_gun rfl rfl ?_) | (refine x_gsplit rfl rfl (fun h => ?_) (fun h => ?_) <;> (have h' := h; (try simp only [sx] at h')))) | (refine g_call ?_; first | (refine x_callG true (k_in _ _ _) rfl rfl rfl aS rfl aH ?_; simp only [cl]) | (refine x_callG true (k_isRising s.burned hb) rfl rfl rfl aS rfl aH ?_; simp only [cl]) | (refine x_callG true (k_allInt s.burned 75 [[.list 4 (xs.map Asset.pv)]] (fun b => decide (0 ≤ fndA xs b)) (fun b _ => k_isScene1 xs b hn) hb) rfl rfl rfl aS rfl aH ?_; simp only [cl])) | (refine x_boxO _ _ rfl rfl rfl rfl ?_) | (refine x_mkfn _ _ rfl rfl ?_) | (refine x_nil (hK _ _ (.inl rfl) ?_); clear hK K) | (refine x_nil (hK _ _ (.inr (by kernel_rfl)) ?_); clear hK K))
      | (refine g_code ?_; first | (refine v_seq ?_) | (refine v_region (fun K hK => ?_)) | (refine v_block ?_) | (refine v_skip ?_) | (refine v_ret ?_) | (refine v_exit ?_))
      | (refine q_then ?_) | (refine q_then_r ?_) | (refine q_then_e ?_) | (refine q_blk_n ?_) | (refine q_blk_r ?_) | (refine q_blk_e ?_) | (refine q_blk_o rfl ?_) | (refine q_loop_r ?_) | (refine q_loop_e ?_) | (refine ret_n ?_))
  all_goals
    (refine ret_bool rfl (lookE_ok rfl) ?_; rw [Bool.eq_iff_iff]; try simp only [sx] at *)
    unfold SceneI
    constructor
    · intro hq
      first | contradiction | exact ⟨by omega, by assumption, hall.1 hq⟩
    · intro hq
      first | exact hall.2 hq.2.2 | (exact absurd hq.2.1 aA) | (have := hq.1; omega)
def AskA (xs : List Asset) (ys : List Scene) : Prop := (∀ s ∈ ys, SceneS xs s) ∧ GoodA xs ∧ 1 ≤ ys.length ∧ ys.length ≤ 12
instance (xs : List Asset) (ys : List Scene) : Decidable (AskA xs ys) := by unfold AskA; infer_instance
theorem k_l24Asked (xs : List Asset) (ys : List Scene) (hn : xs.length ≤ 1099511627776) (hs : ∀ a ∈ xs, a.name.size ≤ 1099511627776) (hm : ys.length ≤ 1099511627776) (hb : ∀ s ∈ ys, s.burned.length ≤ 1099511627776) :
    Con Try.prog 29 [.list 4 (xs.map Asset.pv), .list 2 (ys.map Scene.pv)] (.bool (decide (AskA xs ys))) := by
  intro al
  refine contract_of hmix Try.func29 rfl (by kernel_rfl) (by kernel_rfl) (Nat.le_of_ble_eq_true rfl) (fun row h => by cases h) ?_
  have hty_u31 := ty_u31
  have hty_s31 := ty_s31
  have hty_a57 := ty_a57
  have hty_u29 := ty_u29
  have hty_s29 := ty_s29
  have hl1 : (ys.map Scene.pv).length = ys.length := by simp
  repeat' (first
      | (refine g_exec ?_; first | (refine g_move ?_; refine x_moveO _ rfl ?_) | (refine g_assign ?_; refine x_assignO _ rfl ?_) | (refine g_bin ?_; first | (refine x_add rfl rfl aO ?_) | (refine x_bin _ rfl rfl rfl ?_) | (refine x_strBin _ rfl rfl rfl ?_)) | (refine g_un ?_; first | (refine x_not rfl ?_) | (refine x_neg rfl aO ?_)) | (refine g_load ?_; first | (refine x_load_pc aA rfl ?_) | (refine x_load_oc _ aA rfl rfl aE rfl ?_) | (refine x_load_pa _ aA rfl aZ aL ?_) | (refine x_load_oa _ aA rfl rfl aE aZ aL ?_)) | (refine g_index ?_; first | (refine x_index_l _ aA rfl rfl aO aA ?_) | (refine x_index_o _ aA rfl rfl rfl rfl aO aO (by first | (rw [Nat.zero_add, Int.toNat_natCast]) | (rw [Nat.zero_add]) | rfl) ?_)) | (refine g_pick ?_; first | (refine x_pick_b rfl aD rfl ?_) | (refine x_pick_c rfl aD ?_) | (refine x_pick_a rfl aD ?_) | (refine x_pick_d rfl aD rfl ?_)) | (refine g_guard ?_; first | (refine x_gyes rfl rfl aD ?_) | (refine x_gno rfl rfl aD ?_) | (refine x_gun rfl rfl ?_) | (refine x_gsplit rfl rfl (fun h => ?_) (fun h => ?_) <;> (have h' := h; (try simp only [sx] at h')))) | (refine g_call ?_; first | (refine x_len_l aA rfl ?_) | (refine x_len_o aA rfl rfl ?_) | (refine x_len_n aA rfl ?_) | (refine x_len_s aA (evO_ok rfl) ?_)) | (refine x_nil (hK _ _ (.inl rfl) ?_); clear hK K) | (refine x_nil (hK _ _ (.inr (by kernel_rfl)) ?_); clear hK K))
      | (refine g_code ?_; first | (refine v_seq ?_) | (refine v_region (fun K hK => ?_)) | (refine v_block ?_) | (refine v_skip ?_) | (refine v_ret ?_) | (refine v_exit ?_) | (refine g_cond ?_; first | (refine v_cond_y rfl aD ?_) | (refine v_cond_n rfl aD ?_) | (refine v_condt rfl (fun h => ?_) (fun h => ?_) <;> (have h' := h; (try simp only [sx] at h')))))
      | (refine q_then ?_) | (refine q_then_r ?_) | (refine q_then_e ?_) | (refine q_blk_n ?_) | (refine q_blk_r ?_) | (refine q_blk_e ?_) | (refine q_blk_o rfl ?_) | (refine q_loop_r ?_) | (refine q_loop_e ?_) | (refine ret_n ?_))
  refine v_loopK [0, 1] [] (fun i : Nat => [(5, .int .i64 i)]) (fun i : Nat => []) (fun i : Nat => i ≤ ys.length ∧ ∀ s ∈ ys.take i, SceneS xs s) (fun i : Nat => ys.length - i) (0) rfl rfl (fun _ => rfl) (fun _ => rfl) rfl (by refine ⟨?_, ?_, rfl, rfl⟩ <;> (repeat' (first | exact trivial | exact ⟨rfl, rfl⟩ | exact rfl | exact ⟨sub_fn, refs_fn⟩ | refine ⟨⟨rfl, rfl⟩, ?_⟩ | refine ⟨⟨sub_fn, refs_fn⟩, ?_⟩ | refine ⟨⟨rfl, fun h => Bool.noConfusion h⟩, ?_⟩ | refine ⟨⟨rfl, fun h => ?_⟩, ?_⟩ | refine ⟨rfl, ?_⟩ | refine ⟨?_, ?_⟩ | fail))) ⟨by omega, fun y hy => by simp at hy⟩ (fun i hi => ?_)
  obtain ⟨hi1, hi2⟩ := hi
  rcases Nat.lt_or_ge i ys.length with hlt | hge
  · obtain ⟨a, hga⟩ := get_ex hlt
    have hx := Scene.at hga
    have hba := hb a (get_mem hga)
    repeat' (first
      | (refine g_exec ?_; first | (refine g_move ?_; refine x_moveO _ rfl ?_) | (refine g_assign ?_; refine x_assignO _ rfl ?_) | (refine g_bin ?_; first | (refine x_add rfl rfl aO ?_) | (refine x_bin _ rfl rfl rfl ?_) | (refine x_strBin _ rfl rfl rfl ?_)) | (refine g_un ?_; first | (refine x_not rfl ?_) | (refine x_neg rfl aO ?_)) | (refine g_load ?_; first | (refine x_load_pc aA rfl ?_) | (refine x_load_oc _ aA rfl rfl aE rfl ?_) | (refine x_load_pa _ aA rfl aZ aL ?_) | (refine x_load_oa _ aA rfl rfl aE aZ aL ?_)) | (refine g_index ?_; first | (refine x_index_l _ aA rfl rfl aO aA ?_) | (refine x_index_o _ aA rfl rfl rfl rfl aO aO (by first | (rw [Nat.zero_add, Int.toNat_natCast]) | (rw [Nat.zero_add]) | rfl) ?_)) | (refine g_pick ?_; first | (refine x_pick_b rfl aD rfl ?_) | (refine x_pick_c rfl aD ?_) | (refine x_pick_a rfl aD ?_) | (refine x_pick_d rfl aD rfl ?_)) | (refine g_guard ?_; first | (refine x_gyes rfl rfl aD ?_) | (refine x_gno rfl rfl aD ?_) | (refine x_gun rfl rfl ?_) | (refine x_gsplit rfl rfl (fun h => ?_) (fun h => ?_) <;> (have h' := h; (try simp only [sx] at h')))) | (refine g_call ?_; first | (refine x_callG true (k_l24Scene xs a hn hba) rfl rfl rfl aS rfl aH ?_; simp only [cl]) | (refine x_len_l aA rfl ?_) | (refine x_len_o aA rfl rfl ?_) | (refine x_len_n aA rfl ?_) | (refine x_len_s aA (evO_ok rfl) ?_)) | (refine x_nil (hK _ _ (.inl rfl) ?_); clear hK K) | (refine x_nil (hK _ _ (.inr (by kernel_rfl)) ?_); clear hK K))
      | (refine g_code ?_; first | (refine v_seq ?_) | (refine v_region (fun K hK => ?_)) | (refine v_block ?_) | (refine v_skip ?_) | (refine v_ret ?_) | (refine v_exit ?_) | (refine g_cond ?_; first | (refine v_cond_y rfl aD ?_) | (refine v_cond_n rfl aD ?_) | (refine v_condt rfl (fun h => ?_) (fun h => ?_) <;> (have h' := h; (try simp only [sx] at h')))))
      | (refine q_then ?_) | (refine q_then_r ?_) | (refine q_then_e ?_) | (refine q_blk_n ?_) | (refine q_blk_r ?_) | (refine q_blk_e ?_) | (refine q_blk_o rfl ?_) | (refine q_loop_r ?_) | (refine q_loop_e ?_) | (refine ret_n ?_))
    · refine ret_bool rfl (lookE_ok rfl) ?_
      have : ¬ AskA xs ys := fun hk => h' (hk.1 a (get_mem hga))
      simp [this]
    · refine q_next (i + 1) rfl (by refine ⟨?_, ?_, rfl, rfl⟩ <;> (repeat' (first | exact trivial | exact ⟨rfl, rfl⟩ | exact rfl | exact ⟨sub_fn, refs_fn⟩ | refine ⟨⟨rfl, rfl⟩, ?_⟩ | refine ⟨⟨sub_fn, refs_fn⟩, ?_⟩ | refine ⟨⟨rfl, fun h => Bool.noConfusion h⟩, ?_⟩ | refine ⟨⟨rfl, fun h => ?_⟩, ?_⟩ | refine ⟨rfl, ?_⟩ | refine ⟨?_, ?_⟩ | fail))) ⟨by omega, all_take_succ hga hi2 h'⟩ aO
  · rw [take_all hge] at hi2
    repeat' (first
      | (refine g_exec ?_; first | (refine g_move ?_; refine x_moveO _ rfl ?_) | (refine g_assign ?_; refine x_assignO _ rfl ?_) | (refine g_bin ?_; first | (refine x_add rfl rfl aO ?_) | (refine x_bin _ rfl rfl rfl ?_) | (refine x_strBin _ rfl rfl rfl ?_)) | (refine g_un ?_; first | (refine x_not rfl ?_) | (refine x_neg rfl aO ?_)) | (refine g_load ?_; first | (refine x_load_pc aA rfl ?_) | (refine x_load_oc _ aA rfl rfl aE rfl ?_) | (refine x_load_pa _ aA rfl aZ aL ?_) | (refine x_load_oa _ aA rfl rfl aE aZ aL ?_)) | (refine g_index ?_; first | (refine x_index_l _ aA rfl rfl aO aA ?_) | (refine x_index_o _ aA rfl rfl rfl rfl aO aO (by first | (rw [Nat.zero_add, Int.toNat_natCast]) | (rw [Nat.zero_add]) | rfl) ?_)) | (refine g_pick ?_; first | (refine x_pick_b rfl aD rfl ?_) | (refine x_pick_c rfl aD ?_) | (refine x_pick_a rfl aD ?_) | (refine x_pick_d rfl aD rfl ?_)) | (refine g_guard ?_; first | (refine x_gyes rfl rfl aD ?_) | (refine x_gno rfl rfl aD ?_) | (refine x_gun rfl rfl ?_) | (refine x_gsplit rfl rfl (fun h => ?_) (fun h => ?_) <;> (have h' := h; (try simp only [sx] at h')))) | (refine g_call ?_; first | (refine x_callG true (k_l24Assets xs hn hs) rfl rfl rfl aS rfl aH ?_; simp only [cl]) | (refine x_callG true (k_l1In _ _ _) rfl rfl rfl aS rfl aH ?_; simp only [cl]) | (refine x_len_l aA rfl ?_) | (refine x_len_o aA rfl rfl ?_) | (refine x_len_n aA rfl ?_) | (refine x_len_s aA (evO_ok rfl) ?_)) | (refine x_nil (hK _ _ (.inl rfl) ?_); clear hK K) | (refine x_nil (hK _ _ (.inr (by kernel_rfl)) ?_); clear hK K))
      | (refine g_code ?_; first | (refine v_seq ?_) | (refine v_region (fun K hK => ?_)) | (refine v_block ?_) | (refine v_skip ?_) | (refine v_ret ?_) | (refine v_exit ?_) | (refine g_cond ?_; first | (refine v_cond_y rfl aD ?_) | (refine v_cond_n rfl aD ?_) | (refine v_condt rfl (fun h => ?_) (fun h => ?_) <;> (have h' := h; (try simp only [sx] at h')))))
      | (refine q_then ?_) | (refine q_then_r ?_) | (refine q_then_e ?_) | (refine q_blk_n ?_) | (refine q_blk_r ?_) | (refine q_blk_e ?_) | (refine q_blk_o rfl ?_) | (refine q_loop_r ?_) | (refine q_loop_e ?_) | (refine ret_n ?_))
    all_goals
      (refine ret_bool rfl (lookE_ok rfl) ?_; rw [Bool.eq_iff_iff]; try simp only [sx] at *)
      unfold AskA
      constructor
      · intro hq
        first | contradiction | exact ⟨hi2, by assumption, by omega⟩
      · intro hq
        first | omega | (exact absurd hq.2.1 aA)
theorem k_AreScenes1 (xs : List Asset) (s : Scene) (hn : xs.length ≤ 1099511627776) (hb : s.burned.length ≤ 1099511627776) : Con Try.prog 57 [.agg s.pv, .ptr [.list 4 (xs.map Asset.pv)]] (.bool (decide (SceneI xs s))) := by
  intro al
  refine contract_of hmix Try.func57 rfl (by kernel_rfl) (by kernel_rfl) (Nat.le_of_ble_eq_true rfl) (fun row h => by cases h) ?_
  have hty_c29 := ty_c29
  have hty_a57 := ty_a57
  have hty_u29 := ty_u29
  have hty_s29 := ty_s29
  repeat' (first
      | (refine g_exec ?_; first | (refine g_assign ?_; refine x_assignO _ rfl ?_) | (refine g_load ?_; first | (refine x_load_pc aA rfl ?_) | (refine x_load_oc _ aA rfl rfl aE rfl ?_) | (refine x_load_pa _ aA rfl aZ aL ?_) | (refine x_load_oa _ aA rfl rfl aE aZ aL ?_)) | (refine g_call ?_; refine x_callG true (k_isScene xs s hn hb) rfl rfl rfl aS rfl aH ?_; simp only [cl]) | (refine x_boxO _ _ rfl rfl rfl rfl ?_) | (refine x_nil (hK _ _ (.inl rfl) ?_); clear hK K) | (refine x_nil (hK _ _ (.inr (by kernel_rfl)) ?_); clear hK K))
      | (refine g_code ?_; first | (refine v_seq ?_) | (refine v_region (fun K hK => ?_)) | (refine v_block ?_) | (refine v_skip ?_) | (refine v_ret ?_) | (refine v_exit ?_))
      | (refine q_then ?_) | (refine q_then_r ?_) | (refine q_then_e ?_) | (refine q_blk_n ?_) | (refine q_blk_r ?_) | (refine q_blk_e ?_) | (refine q_blk_o rfl ?_) | (refine q_loop_r ?_) | (refine q_loop_e ?_) | (refine ret_n ?_))
  exact ret_bool rfl (lookE_ok rfl) rfl
theorem k_iAreScenes (xs : List Asset) (ys : List Scene) (hn : xs.length ≤ 1099511627776) (hs : ∀ a ∈ xs, a.name.size ≤ 1099511627776) (hm : ys.length ≤ 1099511627776) (hb : ∀ s ∈ ys, s.burned.length ≤ 1099511627776) :
    Con Try.prog 33 [.list 4 (xs.map Asset.pv), .list 2 (ys.map Scene.pv)] (.bool (decide (AskA xs ys))) := by
  intro al
  refine contract_of hmix Try.func33 rfl (by kernel_rfl) (by kernel_rfl) (Nat.le_of_ble_eq_true rfl) (fun row h => by cases h) ?_
  have hty_c29 := ty_c29
  have hty_u29 := ty_u29
  have hty_s29 := ty_s29
  have hty_u31 := ty_u31
  have hty_s31 := ty_s31
  have hl1 : (ys.map Scene.pv).length = ys.length := by simp
  have hall : (ys.all fun s => decide (SceneI xs s)) = true ↔ ∀ s ∈ ys, SceneI xs s := by simp
  repeat' (first
      | (refine g_exec ?_; first | (refine g_move ?_; refine x_moveO _ rfl ?_) | (refine g_assign ?_; refine x_assignO _ rfl ?_) | (refine g_load ?_; first | (refine x_load_pc aA rfl ?_) | (refine x_load_oc _ aA rfl rfl aE rfl ?_) | (refine x_load_pa _ aA rfl aZ aL ?_) | (refine x_load_oa _ aA rfl rfl aE aZ aL ?_)) | (refine g_pick ?_; first | (refine x_pick_b rfl aD rfl ?_) | (refine x_pick_c rfl aD ?_) | (refine x_pick_a rfl aD ?_) | (refine x_pick_d rfl aD rfl ?_)) | (refine g_guard ?_; first | (refine x_gyes rfl rfl aD ?_) | (refine x_gno rfl rfl aD ?_) | (refine x_gun rfl rfl ?_) | (refine x_gsplit rfl rfl (fun h => ?_) (fun h => ?_) <;> (have h' := h; (try simp only [sx] at h')))) | (refine g_call ?_; first | (refine x_callG true (k_iAreAssets xs hn hs) rfl rfl rfl aS rfl aH ?_; simp only [cl]) | (refine x_callG true (k_in _ _ _) rfl rfl rfl aS rfl aH ?_; simp only [cl]) | (refine x_callG true (k_allScene ys 57 [[.list 4 (xs.map Asset.pv)]] (fun s => decide (SceneI xs s)) (fun s h => k_AreScenes1 xs s hn (hb s h)) hm) rfl rfl rfl aS rfl aH ?_; simp only [cl]) | (refine x_len_l aA rfl ?_) | (refine x_len_o aA rfl rfl ?_) | (refine x_len_n aA rfl ?_) | (refine x_len_s aA (evO_ok rfl) ?_)) | (refine x_boxO _ _ rfl rfl rfl rfl ?_) | (refine x_mkfn _ _ rfl rfl ?_) | (refine x_nil (hK _ _ (.inl rfl) ?_); clear hK K) | (refine x_nil (hK _ _ (.inr (by kernel_rfl)) ?_); clear hK K))
      | (refine g_code ?_; first | (refine v_seq ?_) | (refine v_region (fun K hK => ?_)) | (refine v_block ?_) | (refine v_skip ?_) | (refine v_ret ?_) | (refine v_exit ?_))
      | (refine q_then ?_) | (refine q_then_r ?_) | (refine q_then_e ?_) | (refine q_blk_n ?_) | (refine q_blk_r ?_) | (refine q_blk_e ?_) | (refine q_blk_o rfl ?_) | (refine q_loop_r ?_) | (refine q_loop_e ?_) | (refine ret_n ?_))
  all_goals
    (refine ret_bool rfl (lookE_ok rfl) ?_; rw [Bool.eq_iff_iff]; try simp only [sx] at *)
    unfold AskA
    constructor
    · intro hq
      first | contradiction | (have hg : GoodA xs := by assumption
                               exact ⟨fun s h => (scene_same hg s).2 (hall.1 hq s h), hg, by omega⟩)
    · intro hq
      first | (exact hall.2 fun s h => (scene_same hq.2.1 s).1 (hq.1 s h)) | (exact absurd hq.2.1 aA) | (have := hq.2.2; omega)
end Go.Vs
