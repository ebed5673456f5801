/- LAWS: what they compare with: sizes, lists of numbers and of texts, sums. -/
import Derived.Test.YtnmkdilnblfdnaaGreatDoorVau
import Derived.Test.YtnmkdilnblfdnaaGreatDoorVw1
set_option linter.unusedVariables false
set_option linter.unusedSimpArgs false
set_option maxRecDepth 100000
set_option maxHeartbeats 4000000
namespace Go.Vs
open Go.Proofs
attribute [local irreducible] exec vwp thenQ blkQ loopQ RetPost
theorem within_nil {l : List Int} {P : Int → Prop} : ∀ x ∈ l.take 0, P x := fun x hx => by simp at hx
theorem within_step {l : List Int} {i : Nat} {a : Int} {P : Int → Prop} (h : ∀ x ∈ l.take i, P x) (ha : l[i]? = some a) (hp : P a) : ∀ x ∈ l.take (i + 1), P x := fun x hx => by
  rw [take_succ ha] at hx
  rcases List.mem_append.1 hx with hx | hx
  · exact h x hx
  · simp at hx; subst hx; exact hp
@[reducible] def idI (x : Int) : Int := x
theorem k_rBig (code : List Int) (g : code.length ≤ 9223372036854775807) : Con Tryz.prog 4 [.list 1 (bytesP code)] (.bool (decide (65536 < code.length))) := by
  intro al
  refine contract_of hmix Tryz.func4 rfl (by kernel_rfl) (by kernel_rfl) (Nat.le_of_ble_eq_true rfl) (fun row h => by cases h) ?_
  have hty_u22 := ty_u22
  have hty_s22 := ty_s22
  have hl1 : (bytesP code).length = code.length := by simp
  repeat' (first
      | (refine g_exec ?_; first | (refine g_move ?_; refine x_moveO _ rfl ?_) | (refine g_assign ?_; refine x_assignO _ rfl ?_) | (refine g_bin ?_; refine x_bin _ rfl rfl rfl ?_) | (refine g_call ?_; first | (refine x_len_l aA rfl ?_) | (refine x_len_o aA rfl rfl ?_) | (refine x_len_n aA rfl ?_) | (refine x_len_s aA (evO_ok rfl) ?_)) | (refine x_nil (hK _ _ (.inl rfl) ?_); clear hK K) | (refine x_nil (hK _ _ (.inr (by kernel_rfl)) ?_); clear hK K))
      | (refine g_code ?_; first | (refine v_seq ?_) | (refine v_region (fun K hK => ?_)) | (refine v_block ?_) | (refine v_skip ?_) | (refine v_ret ?_) | (refine v_exit ?_))
      | (refine q_then ?_) | (refine q_then_r ?_) | (refine q_then_e ?_) | (refine q_blk_n ?_) | (refine q_blk_r ?_) | (refine q_blk_e ?_) | (refine q_blk_o rfl ?_) | (refine q_loop_r ?_) | (refine q_loop_e ?_) | (refine ret_n ?_))
  all_goals (refine ret_bool rfl (lookE_ok rfl) ?_; first | rfl | (simp; omega))
theorem k_rIntsS (xs : List Int) (hn : xs.length ≤ 1099511627776) : Con Tryz.prog 8 [.list 1 (ints xs), .list 1 (ints xs)] (.bool true) := by
  intro al
  refine contract_of hmix Tryz.func8 rfl (by kernel_rfl) (by kernel_rfl) (Nat.le_of_ble_eq_true rfl) (fun row h => by cases h) ?_
  have hty_u28 := ty_u28
  have hty_s28 := ty_s28
  have hty_c3 := ty_c3
  have hl1 : (ints xs).length = xs.length := by simp
  repeat' (first
      | (refine g_exec ?_; first | (refine g_move ?_; refine x_moveO _ rfl ?_) | (refine g_assign ?_; refine x_assignO _ rfl ?_) | (refine g_bin ?_; first | (refine x_add rfl rfl aO ?_) | (refine x_bin _ rfl rfl rfl ?_) | (refine x_boolNe aA rfl rfl ?_) | (refine x_strBin _ rfl rfl rfl ?_)) | (refine g_load ?_; first | (refine x_load_pc aA rfl ?_) | (refine x_load_oc _ aA rfl rfl aE rfl ?_) | (refine x_load_pa _ aA rfl aZ aL ?_) | (refine x_load_oa _ aA rfl rfl aE aZ aL ?_)) | (refine g_index ?_; first | (refine x_index_l _ aA rfl rfl aO aA ?_) | (refine x_index_o _ aA rfl rfl rfl rfl aO aO (by first | (rw [Nat.zero_add, Int.toNat_natCast]) | (rw [Nat.zero_add]) | rfl) ?_)) | (refine g_call ?_; first | (refine x_len_l aA rfl ?_) | (refine x_len_o aA rfl rfl ?_) | (refine x_len_n aA rfl ?_) | (refine x_len_s aA (evO_ok rfl) ?_)) | (refine x_nil (hK _ _ (.inl rfl) ?_); clear hK K) | (refine x_nil (hK _ _ (.inr (by kernel_rfl)) ?_); clear hK K))
      | (refine g_code ?_; first | (refine v_seq ?_) | (refine v_region (fun K hK => ?_)) | (refine v_block ?_) | (refine v_skip ?_) | (refine v_ret ?_) | (refine v_exit ?_) | (refine g_cond ?_; first | (refine v_cond_y rfl aD ?_) | (refine v_cond_n rfl aD ?_) | (refine v_condt rfl (fun h => ?_) (fun h => ?_) <;> (have h' := h; (try simp only [sx] at h')))))
      | (refine q_then ?_) | (refine q_then_r ?_) | (refine q_then_e ?_) | (refine q_blk_n ?_) | (refine q_blk_r ?_) | (refine q_blk_e ?_) | (refine q_blk_o rfl ?_) | (refine q_loop_r ?_) | (refine q_loop_e ?_) | (refine ret_n ?_))
  all_goals try (exfalso; omega)
  refine v_loopK [0, 1] [] (fun i : Nat => [(5, .int .i64 i)]) (fun i : Nat => []) (fun i : Nat => i ≤ xs.length) (fun i : Nat => xs.length - i) (0) rfl rfl (fun _ => rfl) (fun _ => rfl) rfl (by refine ⟨?_, ?_, rfl, rfl⟩ <;> (repeat' (first | exact trivial | exact ⟨rfl, rfl⟩ | exact rfl | exact ⟨sub_fn, refs_fn⟩ | refine ⟨⟨rfl, rfl⟩, ?_⟩ | refine ⟨⟨sub_fn, refs_fn⟩, ?_⟩ | refine ⟨⟨rfl, fun h => Bool.noConfusion h⟩, ?_⟩ | refine ⟨⟨rfl, fun h => ?_⟩, ?_⟩ | refine ⟨rfl, ?_⟩ | refine ⟨?_, ?_⟩ | fail))) aO (fun i hi => ?_)
  rcases Nat.lt_or_ge i xs.length with hlt | hge
  · obtain ⟨a, ha⟩ := get_ex hlt
    have hx := ints_at ha
    repeat' (first
      | (refine g_exec ?_; first | (refine g_move ?_; refine x_moveO _ rfl ?_) | (refine g_assign ?_; refine x_assignO _ rfl ?_) | (refine g_bin ?_; first | (refine x_add rfl rfl aO ?_) | (refine x_bin _ rfl rfl rfl ?_) | (refine x_boolNe aA rfl rfl ?_) | (refine x_strBin _ rfl rfl rfl ?_)) | (refine g_load ?_; first | (refine x_load_pc aA rfl ?_) | (refine x_load_oc _ aA rfl rfl aE rfl ?_) | (refine x_load_pa _ aA rfl aZ aL ?_) | (refine x_load_oa _ aA rfl rfl aE aZ aL ?_)) | (refine g_index ?_; first | (refine x_index_l _ aA rfl rfl aO aA ?_) | (refine x_index_o _ aA rfl rfl rfl rfl aO aO (by first | (rw [Nat.zero_add, Int.toNat_natCast]) | (rw [Nat.zero_add]) | rfl) ?_)) | (refine g_call ?_; first | (refine x_len_l aA rfl ?_) | (refine x_len_o aA rfl rfl ?_) | (refine x_len_n aA rfl ?_) | (refine x_len_s aA (evO_ok rfl) ?_)) | (refine x_nil (hK _ _ (.inl rfl) ?_); clear hK K) | (refine x_nil (hK _ _ (.inr (by kernel_rfl)) ?_); clear hK K))
      | (refine g_code ?_; first | (refine v_seq ?_) | (refine v_region (fun K hK => ?_)) | (refine v_block ?_) | (refine v_skip ?_) | (refine v_ret ?_) | (refine v_exit ?_) | (refine g_cond ?_; first | (refine v_cond_y rfl aD ?_) | (refine v_cond_n rfl aD ?_) | (refine v_condt rfl (fun h => ?_) (fun h => ?_) <;> (have h' := h; (try simp only [sx] at h')))))
      | (refine q_then ?_) | (refine q_then_r ?_) | (refine q_then_e ?_) | (refine q_blk_n ?_) | (refine q_blk_r ?_) | (refine q_blk_e ?_) | (refine q_blk_o rfl ?_) | (refine q_loop_r ?_) | (refine q_loop_e ?_) | (refine ret_n ?_))
    all_goals first
      | (exfalso; omega)
      | (refine q_next (i + 1) rfl (by refine ⟨?_, ?_, rfl, rfl⟩ <;> (repeat' (first | exact trivial | exact ⟨rfl, rfl⟩ | exact rfl | exact ⟨sub_fn, refs_fn⟩ | refine ⟨⟨rfl, rfl⟩, ?_⟩ | refine ⟨⟨sub_fn, refs_fn⟩, ?_⟩ | refine ⟨⟨rfl, fun h => Bool.noConfusion h⟩, ?_⟩ | refine ⟨⟨rfl, fun h => ?_⟩, ?_⟩ | refine ⟨rfl, ?_⟩ | refine ⟨?_, ?_⟩ | fail))) aO aO)
      | (exfalso; simp at *; done)
  · repeat' (first
      | (refine g_exec ?_; first | (refine g_move ?_; refine x_moveO _ rfl ?_) | (refine g_assign ?_; refine x_assignO _ rfl ?_) | (refine g_bin ?_; first | (refine x_add rfl rfl aO ?_) | (refine x_bin _ rfl rfl rfl ?_) | (refine x_boolNe aA rfl rfl ?_) | (refine x_strBin _ rfl rfl rfl ?_)) | (refine g_load ?_; first | (refine x_load_pc aA rfl ?_) | (refine x_load_oc _ aA rfl rfl aE rfl ?_) | (refine x_load_pa _ aA rfl aZ aL ?_) | (refine x_load_oa _ aA rfl rfl aE aZ aL ?_)) | (refine g_index ?_; first | (refine x_index_l _ aA rfl rfl aO aA ?_) | (refine x_index_o _ aA rfl rfl rfl rfl aO aO (by first | (rw [Nat.zero_add, Int.toNat_natCast]) | (rw [Nat.zero_add]) | rfl) ?_)) | (refine g_call ?_; first | (refine x_len_l aA rfl ?_) | (refine x_len_o aA rfl rfl ?_) | (refine x_len_n aA rfl ?_) | (refine x_len_s aA (evO_ok rfl) ?_)) | (refine x_nil (hK _ _ (.inl rfl) ?_); clear hK K) | (refine x_nil (hK _ _ (.inr (by kernel_rfl)) ?_); clear hK K))
      | (refine g_code ?_; first | (refine v_seq ?_) | (refine v_region (fun K hK => ?_)) | (refine v_block ?_) | (refine v_skip ?_) | (refine v_ret ?_) | (refine v_exit ?_) | (refine g_cond ?_; first | (refine v_cond_y rfl aD ?_) | (refine v_cond_n rfl aD ?_) | (refine v_condt rfl (fun h => ?_) (fun h => ?_) <;> (have h' := h; (try simp only [sx] at h')))))
      | (refine q_then ?_) | (refine q_then_r ?_) | (refine q_then_e ?_) | (refine q_blk_n ?_) | (refine q_blk_r ?_) | (refine q_blk_e ?_) | (refine q_blk_o rfl ?_) | (refine q_loop_r ?_) | (refine q_loop_e ?_) | (refine ret_n ?_))
    all_goals first
      | (exfalso; omega)
      | exact ret_bool rfl (lookE_ok rfl) rfl
theorem k_rSum (xs : List Int) (B : Int) (hB : 0 ≤ B ∧ B ≤ 1000000000000) (hn : xs.length ≤ 1000000) (hx0 : ∀ x ∈ xs, -B ≤ x ∧ x ≤ B) : Con Tryz.prog 12 [.list 1 (ints xs)] (.int .i64 (sumBy idI xs)) := by
  intro al
  refine contract_of hmix Tryz.func12 rfl (by kernel_rfl) (by kernel_rfl) (Nat.le_of_ble_eq_true rfl) (fun row h => by cases h) ?_
  have hty_u28 := ty_u28
  have hty_s28 := ty_s28
  have hty_c3 := ty_c3
  have hl1 : (ints xs).length = xs.length := by simp
  have hb : ∀ i : Nat, i ≤ xs.length → -B * i ≤ sumBy idI (xs.take i) ∧ sumBy idI (xs.take i) ≤ B * i := fun i => by
    induction i with
    | zero => intro _; simp [sumBy]
    | succ i ih =>
      intro hi
      obtain ⟨a, ha⟩ := get_ex (show i < xs.length by omega)
      have h1 := ih aO
      have h2 := hx0 a (get_mem ha)
      have h3 := sumBy_take_succ idI ha
      have h4 : B * ((i + 1 : Nat) : Int) = B * i + B := by rw [show ((i + 1 : Nat) : Int) = (i : Int) + 1 by omega, Int.mul_add, Int.mul_one]
      have h5 : -B * ((i + 1 : Nat) : Int) = -B * i - B := by rw [Int.neg_mul, Int.neg_mul, h4]; omega
      unfold idI at *
      omega
  have hBi : ∀ i : Nat, i ≤ xs.length → B * i ≤ 1000000000000 * 1000000 := fun i hi => Int.mul_le_mul hB.2 aO aO aO
  repeat' (first
      | (refine g_exec ?_; first | (refine g_move ?_; refine x_moveO _ rfl ?_) | (refine g_assign ?_; refine x_assignO _ rfl ?_) | (refine g_bin ?_; first | (refine x_add rfl rfl aO ?_) | (refine x_bin _ rfl rfl rfl ?_) | (refine x_strBin _ rfl rfl rfl ?_)) | (refine g_load ?_; first | (refine x_load_pc aA rfl ?_) | (refine x_load_oc _ aA rfl rfl aE rfl ?_) | (refine x_load_pa _ aA rfl aZ aL ?_) | (refine x_load_oa _ aA rfl rfl aE aZ aL ?_)) | (refine g_index ?_; first | (refine x_index_l _ aA rfl rfl aO aA ?_) | (refine x_index_o _ aA rfl rfl rfl rfl aO aO (by first | (rw [Nat.zero_add, Int.toNat_natCast]) | (rw [Nat.zero_add]) | rfl) ?_)) | (refine g_call ?_; first | (refine x_len_l aA rfl ?_) | (refine x_len_o aA rfl rfl ?_) | (refine x_len_n aA rfl ?_) | (refine x_len_s aA (evO_ok rfl) ?_)) | (refine x_nil (hK _ _ (.inl rfl) ?_); clear hK K) | (refine x_nil (hK _ _ (.inr (by kernel_rfl)) ?_); clear hK K))
      | (refine g_code ?_; first | (refine v_seq ?_) | (refine v_region (fun K hK => ?_)) | (refine v_block ?_) | (refine v_skip ?_) | (refine v_ret ?_) | (refine v_exit ?_) | (refine g_cond ?_; first | (refine v_cond_y rfl aD ?_) | (refine v_cond_n rfl aD ?_) | (refine v_condt rfl (fun h => ?_) (fun h => ?_) <;> (have h' := h; (try simp only [sx] at h')))))
      | (refine q_then ?_) | (refine q_then_r ?_) | (refine q_then_e ?_) | (refine q_blk_n ?_) | (refine q_blk_r ?_) | (refine q_blk_e ?_) | (refine q_blk_o rfl ?_) | (refine q_loop_r ?_) | (refine q_loop_e ?_) | (refine ret_n ?_))
  refine v_loopK [0] [] (fun q : Nat × Int => [(3, .int .i64 q.2), (4, .int .i64 q.1)]) (fun q : Nat × Int => []) (fun q : Nat × Int => q.1 ≤ xs.length ∧ q.2 = sumBy idI (xs.take q.1)) (fun q : Nat × Int => xs.length - q.1) ((0, 0)) rfl rfl (fun _ => rfl) (fun _ => rfl) rfl (by refine ⟨?_, ?_, rfl, rfl⟩ <;> (repeat' (first | exact trivial | exact ⟨rfl, rfl⟩ | exact rfl | exact ⟨sub_fn, refs_fn⟩ | refine ⟨⟨rfl, rfl⟩, ?_⟩ | refine ⟨⟨sub_fn, refs_fn⟩, ?_⟩ | refine ⟨⟨rfl, fun h => Bool.noConfusion h⟩, ?_⟩ | refine ⟨⟨rfl, fun h => ?_⟩, ?_⟩ | refine ⟨rfl, ?_⟩ | refine ⟨?_, ?_⟩ | fail))) ⟨by simp, by simp [sumBy]⟩ (fun q hq => ?_)
  obtain ⟨i, t⟩ := q
  obtain ⟨h1, h2⟩ := hq
  simp only at h1 h2
  dsimp only
  rcases Nat.lt_or_ge i xs.length with hlt | hge
  · obtain ⟨a, hga⟩ := get_ex hlt
    have hx := ints_at hga
    have hsum := sumBy_take_succ idI hga
    have e1 := hb i aO
    have e2 := hBi i aO
    have e3 := hx0 a (get_mem hga)
    rw [Int.neg_mul] at e1
    repeat' (first
      | (refine g_exec ?_; first | (refine g_move ?_; refine x_moveO _ rfl ?_) | (refine g_assign ?_; refine x_assignO _ rfl ?_) | (refine g_bin ?_; first | (refine x_add rfl rfl aO ?_) | (refine x_bin _ rfl rfl rfl ?_) | (refine x_strBin _ rfl rfl rfl ?_)) | (refine g_load ?_; first | (refine x_load_pc aA rfl ?_) | (refine x_load_oc _ aA rfl rfl aE rfl ?_) | (refine x_load_pa _ aA rfl aZ aL ?_) | (refine x_load_oa _ aA rfl rfl aE aZ aL ?_)) | (refine g_index ?_; first | (refine x_index_l _ aA rfl rfl aO aA ?_) | (refine x_index_o _ aA rfl rfl rfl rfl aO aO (by first | (rw [Nat.zero_add, Int.toNat_natCast]) | (rw [Nat.zero_add]) | rfl) ?_)) | (refine g_call ?_; first | (refine x_len_l aA rfl ?_) | (refine x_len_o aA rfl rfl ?_) | (refine x_len_n aA rfl ?_) | (refine x_len_s aA (evO_ok rfl) ?_)) | (refine x_nil (hK _ _ (.inl rfl) ?_); clear hK K) | (refine x_nil (hK _ _ (.inr (by kernel_rfl)) ?_); clear hK K))
      | (refine g_code ?_; first | (refine v_seq ?_) | (refine v_region (fun K hK => ?_)) | (refine v_block ?_) | (refine v_skip ?_) | (refine v_ret ?_) | (refine v_exit ?_) | (refine g_cond ?_; first | (refine v_cond_y rfl aD ?_) | (refine v_cond_n rfl aD ?_) | (refine v_condt rfl (fun h => ?_) (fun h => ?_) <;> (have h' := h; (try simp only [sx] at h')))))
      | (refine q_then ?_) | (refine q_then_r ?_) | (refine q_then_e ?_) | (refine q_blk_n ?_) | (refine q_blk_r ?_) | (refine q_blk_e ?_) | (refine q_blk_o rfl ?_) | (refine q_loop_r ?_) | (refine q_loop_e ?_) | (refine ret_n ?_))
    all_goals first
      | (exfalso; omega)
      | (refine q_next (i + 1, t + a) rfl (by refine ⟨?_, ?_, rfl, rfl⟩ <;> (repeat' (first | exact trivial | exact ⟨rfl, rfl⟩ | exact rfl | exact ⟨sub_fn, refs_fn⟩ | refine ⟨⟨rfl, rfl⟩, ?_⟩ | refine ⟨⟨sub_fn, refs_fn⟩, ?_⟩ | refine ⟨⟨rfl, fun h => Bool.noConfusion h⟩, ?_⟩ | refine ⟨⟨rfl, fun h => ?_⟩, ?_⟩ | refine ⟨rfl, ?_⟩ | refine ⟨?_, ?_⟩ | fail))) ⟨by simp only; omega, by simp only [hsum, h2]⟩ (by simp only; omega))
  · rw [take_all hge] at h2
    subst h2
    repeat' (first
      | (refine g_exec ?_; first | (refine g_move ?_; refine x_moveO _ rfl ?_) | (refine g_assign ?_; refine x_assignO _ rfl ?_) | (refine g_bin ?_; first | (refine x_add rfl rfl aO ?_) | (refine x_bin _ rfl rfl rfl ?_) | (refine x_strBin _ rfl rfl rfl ?_)) | (refine g_load ?_; first | (refine x_load_pc aA rfl ?_) | (refine x_load_oc _ aA rfl rfl aE rfl ?_) | (refine x_load_pa _ aA rfl aZ aL ?_) | (refine x_load_oa _ aA rfl rfl aE aZ aL ?_)) | (refine g_index ?_; first | (refine x_index_l _ aA rfl rfl aO aA ?_) | (refine x_index_o _ aA rfl rfl rfl rfl aO aO (by first | (rw [Nat.zero_add, Int.toNat_natCast]) | (rw [Nat.zero_add]) | rfl) ?_)) | (refine g_call ?_; first | (refine x_len_l aA rfl ?_) | (refine x_len_o aA rfl rfl ?_) | (refine x_len_n aA rfl ?_) | (refine x_len_s aA (evO_ok rfl) ?_)) | (refine x_nil (hK _ _ (.inl rfl) ?_); clear hK K) | (refine x_nil (hK _ _ (.inr (by kernel_rfl)) ?_); clear hK K))
      | (refine g_code ?_; first | (refine v_seq ?_) | (refine v_region (fun K hK => ?_)) | (refine v_block ?_) | (refine v_skip ?_) | (refine v_ret ?_) | (refine v_exit ?_) | (refine g_cond ?_; first | (refine v_cond_y rfl aD ?_) | (refine v_cond_n rfl aD ?_) | (refine v_condt rfl (fun h => ?_) (fun h => ?_) <;> (have h' := h; (try simp only [sx] at h')))))
      | (refine q_then ?_) | (refine q_then_r ?_) | (refine q_then_e ?_) | (refine q_blk_n ?_) | (refine q_blk_r ?_) | (refine q_blk_e ?_) | (refine q_blk_o rfl ?_) | (refine q_loop_r ?_) | (refine q_loop_e ?_) | (refine ret_n ?_))
    all_goals first
      | (exfalso; omega)
      | exact ret_int rfl (lookE_ok rfl) rfl
end Go.Vs
