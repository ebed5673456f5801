/- CAMPS AS TEXT: numbers in decimal and camps as text, the reference's and the program's. -/
import Derived.Test.YtnmkdilnblfdnaaGreatDoorVau
import Derived.Test.YtnmkdilnblfdnaaGreatDoorVe1
import Derived.Test.YtnmkdilnblfdnaaGreatDoorVrCamp
import Derived.Test.YtnmkdilnblfdnaaGreatDoorVk1
import Derived.Test.YtnmkdilnblfdnaaGreatDoorVsG
import Derived.Test.YtnmkdilnblfdnaaGreatDoorCmp
set_option linter.unusedVariables false
set_option linter.unusedSimpArgs false
set_option maxRecDepth 100000
set_option maxHeartbeats 4000000
-- SADD
namespace Go.Vs
open Go.Proofs
attribute [local irreducible] exec vwp thenQ blkQ loopQ RetPost

section
variable {P : Program} {ops : Array Oper} {draw : Bool} {env : List (Nat × PV)} {mem : List (Id × Option Row)} {tr : List (List Id × List Id)} {rest : List Oper} {d : Nat} {T yT ty : TypeId} {pos : String} {af : Array Edge} {x y : Operand} {K : St → List (List Id × List Id) → Prop}
theorem x_strAdd {m n : ByteArray} (hx : ev (getE env) x = .str m) (hy : ev (getE env) y = .str n) (hb : m.size + n.size ≤ 9223372036854775807)
    (hk : exec P ops draw rest ⟨(d, .str (m ++ n)) :: env, mem⟩ (([], []) :: tr) K) : exec P ops draw (⟨some d, .binOp .add T x y yT, ty, pos, af, none⟩ :: rest) ⟨env, mem⟩ tr K :=
  x_strBin (.str (m ++ n)) hx hy (by simp only [strBin]; rw [if_pos hb]) hk
end
theorem bs_lit (l : List UInt8) : (⟨l.toArray⟩ : ByteArray).size = l.length := by simp [ByteArray.size]
theorem app_size (a b : ByteArray) : (a ++ b).size = a.size + b.size := ByteArray.size_append
theorem bs_lit2 (l : List UInt8) : (⟨⟨l⟩⟩ : ByteArray).size = l.length := rfl
theorem ten_size (i : Nat) (h : i < 10) : (tenT.extract i (i + 1)).size = 1 := by rw [tenT_at ⟨i, h⟩]; rfl
theorem k_l1Num : ∀ (n : Nat), n < 10 ^ 18 → Con Tryz.prog 62 [.int .i64 (n : Int)] (.str (numT n)) := by
  intro n
  induction n using Nat.strongRecOn with
  | _ n ih =>
  intro hn
  intro al
  refine contract_of hmix Tryz.func62 rfl (by kernel_rfl) (by kernel_rfl) (Nat.le_of_ble_eq_true rfl) (fun row h => by cases h) ?_
  have hty_u9 := ty_u9
  by_cases h9 : n < 10
  · rw [numT_small n h9]
    repeat' (first
      | (refine g_exec ?_; first | (refine g_move ?_; refine x_moveO _ rfl ?_) | (refine g_assign ?_; refine x_assignO _ rfl ?_) | (refine g_bin ?_; first | (refine x_add rfl rfl aO ?_) | (refine x_quo rfl rfl aO ?_) | (refine x_rem rfl rfl aO ?_) | (refine x_quoT rfl rfl aO ?_) | (refine x_remT rfl rfl aO ?_) | (refine x_bin _ rfl rfl rfl ?_) | (refine x_strAdd rfl rfl (by first | omega | (simp only [app_size, bs_lit, bs_lit2, List.length_cons, List.length_nil]; omega) | fail) ?_) | (refine x_strBin _ rfl rfl rfl ?_)) | (refine g_un ?_; first | (refine x_not rfl ?_) | (refine x_neg rfl aO ?_)) | (refine g_slice ?_; first | (refine x_sliceL _ aA rfl rfl rfl aO (by first | assumption | rfl) ?_) | (refine x_sliceO _ _ aA rfl (lookM (by rfl)) rfl rfl rfl aO (by first | (simp only [Nat.zero_add, Int.toNat_natCast]; exact rfl) | rfl) (by first | (simp only [Nat.sub_zero, Int.toNat_natCast]; exact rfl) | rfl) ?_) | (refine x_sliceS aA rfl rfl rfl aO rfl ?_)) | (refine x_slice3 _ aA rfl rfl rfl aO (by first | exact List.take_of_length_le aO | rfl) ?_) | (refine x_nil (hK _ _ (.inl rfl) ?_); clear hK K) | (refine x_nil (hK _ _ (.inr (by kernel_rfl)) ?_); clear hK K))
      | (refine g_code ?_; first | (refine v_seq ?_) | (refine v_region (fun K hK => ?_)) | (refine v_block ?_) | (refine v_skip ?_) | (refine v_ret ?_) | (refine v_exit ?_) | (refine g_cond ?_; first | (refine v_cond_y rfl aD ?_) | (refine v_cond_n rfl aD ?_) | (refine v_condt rfl (fun h => ?_) (fun h => ?_) <;> (have h' := h; (try simp only [sx] at h')))))
      | (refine q_then ?_) | (refine q_then_r ?_) | (refine q_then_e ?_) | (refine q_blk_n ?_) | (refine q_blk_r ?_) | (refine q_blk_e ?_) | (refine q_blk_o rfl ?_) | (refine q_loop_r ?_) | (refine q_loop_e ?_) | (refine ret_n ?_))
    all_goals try (exfalso; omega)
    refine g_exec ?_
    refine x_sliceS (s := tenT) (s' := tenT.extract n (n + 1)) (by kernel_rfl) rfl rfl rfl ⟨by omega, by omega, by show _ ≤ ((10 : Nat) : Int); omega⟩ rfl ?_
    repeat' (first
      | (refine g_exec ?_; first | (refine g_move ?_; refine x_moveO _ rfl ?_) | (refine g_assign ?_; refine x_assignO _ rfl ?_) | (refine g_bin ?_; first | (refine x_add rfl rfl aO ?_) | (refine x_quo rfl rfl aO ?_) | (refine x_rem rfl rfl aO ?_) | (refine x_quoT rfl rfl aO ?_) | (refine x_remT rfl rfl aO ?_) | (refine x_bin _ rfl rfl rfl ?_) | (refine x_strAdd rfl rfl (by first | omega | (simp only [app_size, bs_lit, bs_lit2, List.length_cons, List.length_nil]; omega) | fail) ?_) | (refine x_strBin _ rfl rfl rfl ?_)) | (refine g_un ?_; first | (refine x_not rfl ?_) | (refine x_neg rfl aO ?_)) | (refine g_slice ?_; first | (refine x_sliceL _ aA rfl rfl rfl aO (by first | assumption | rfl) ?_) | (refine x_sliceO _ _ aA rfl (lookM (by rfl)) rfl rfl rfl aO (by first | (simp only [Nat.zero_add, Int.toNat_natCast]; exact rfl) | rfl) (by first | (simp only [Nat.sub_zero, Int.toNat_natCast]; exact rfl) | rfl) ?_) | (refine x_sliceS aA rfl rfl rfl aO rfl ?_)) | (refine x_slice3 _ aA rfl rfl rfl aO (by first | exact List.take_of_length_le aO | rfl) ?_) | (refine x_nil (hK _ _ (.inl rfl) ?_); clear hK K) | (refine x_nil (hK _ _ (.inr (by kernel_rfl)) ?_); clear hK K))
      | (refine g_code ?_; first | (refine v_seq ?_) | (refine v_region (fun K hK => ?_)) | (refine v_block ?_) | (refine v_skip ?_) | (refine v_ret ?_) | (refine v_exit ?_) | (refine g_cond ?_; first | (refine v_cond_y rfl aD ?_) | (refine v_cond_n rfl aD ?_) | (refine v_condt rfl (fun h => ?_) (fun h => ?_) <;> (have h' := h; (try simp only [sx] at h')))))
      | (refine q_then ?_) | (refine q_then_r ?_) | (refine q_then_e ?_) | (refine q_blk_n ?_) | (refine q_blk_r ?_) | (refine q_blk_e ?_) | (refine q_blk_o rfl ?_) | (refine q_loop_r ?_) | (refine q_loop_e ?_) | (refine ret_n ?_))
    all_goals exact ret_str rfl (lookE_ok rfl) rfl
  · have k := ih (n / 10) aO aO
    have hsz := numT_size (n / 10) aO
    rw [numT_big n h9]
    repeat' (first
      | (refine g_exec ?_; first | (refine g_move ?_; refine x_moveO _ rfl ?_) | (refine g_assign ?_; refine x_assignO _ rfl ?_) | (refine g_bin ?_; first | (refine x_add rfl rfl aO ?_) | (refine x_quo rfl rfl aO ?_) | (refine x_rem rfl rfl aO ?_) | (refine x_quoT rfl rfl aO ?_) | (refine x_remT rfl rfl aO ?_) | (refine x_bin _ rfl rfl rfl ?_) | (refine x_strAdd rfl rfl (by first | omega | (simp only [app_size, bs_lit, bs_lit2, List.length_cons, List.length_nil]; omega) | fail) ?_) | (refine x_strBin _ rfl rfl rfl ?_)) | (refine g_un ?_; first | (refine x_not rfl ?_) | (refine x_neg rfl aO ?_)) | (refine g_call ?_; refine x_callG true (k) rfl rfl rfl aS rfl aH ?_; simp only [cl]) | (refine g_slice ?_; first | (refine x_sliceL _ aA rfl rfl rfl aO (by first | assumption | rfl) ?_) | (refine x_sliceO _ _ aA rfl (lookM (by rfl)) rfl rfl rfl aO (by first | (simp only [Nat.zero_add, Int.toNat_natCast]; exact rfl) | rfl) (by first | (simp only [Nat.sub_zero, Int.toNat_natCast]; exact rfl) | rfl) ?_) | (refine x_sliceS aA rfl rfl rfl aO rfl ?_)) | (refine x_slice3 _ aA rfl rfl rfl aO (by first | exact List.take_of_length_le aO | rfl) ?_) | (refine x_nil (hK _ _ (.inl rfl) ?_); clear hK K) | (refine x_nil (hK _ _ (.inr (by kernel_rfl)) ?_); clear hK K))
      | (refine g_code ?_; first | (refine v_seq ?_) | (refine v_region (fun K hK => ?_)) | (refine v_block ?_) | (refine v_skip ?_) | (refine v_ret ?_) | (refine v_exit ?_) | (refine g_cond ?_; first | (refine v_cond_y rfl aD ?_) | (refine v_cond_n rfl aD ?_) | (refine v_condt rfl (fun h => ?_) (fun h => ?_) <;> (have h' := h; (try simp only [sx] at h')))))
      | (refine q_then ?_) | (refine q_then_r ?_) | (refine q_then_e ?_) | (refine q_blk_n ?_) | (refine q_blk_r ?_) | (refine q_blk_e ?_) | (refine q_blk_o rfl ?_) | (refine q_loop_r ?_) | (refine q_loop_e ?_) | (refine ret_n ?_))
    all_goals try (exfalso; omega)
    refine g_exec ?_
    refine x_sliceS (s := tenT) (s' := tenT.extract (n % 10) (n % 10 + 1)) (by kernel_rfl) rfl rfl rfl ⟨by omega, by omega, by show _ ≤ ((10 : Nat) : Int); omega⟩ rfl ?_
    have hts := ten_size (n % 10) aO
    repeat' (first
      | (refine g_exec ?_; first | (refine g_move ?_; refine x_moveO _ rfl ?_) | (refine g_assign ?_; refine x_assignO _ rfl ?_) | (refine g_bin ?_; first | (refine x_add rfl rfl aO ?_) | (refine x_quo rfl rfl aO ?_) | (refine x_rem rfl rfl aO ?_) | (refine x_quoT rfl rfl aO ?_) | (refine x_remT rfl rfl aO ?_) | (refine x_bin _ rfl rfl rfl ?_) | (refine x_strAdd rfl rfl (by first | omega | (simp only [app_size, bs_lit, bs_lit2, List.length_cons, List.length_nil]; omega) | fail) ?_) | (refine x_strBin _ rfl rfl rfl ?_)) | (refine g_un ?_; first | (refine x_not rfl ?_) | (refine x_neg rfl aO ?_)) | (refine g_slice ?_; first | (refine x_sliceL _ aA rfl rfl rfl aO (by first | assumption | rfl) ?_) | (refine x_sliceO _ _ aA rfl (lookM (by rfl)) rfl rfl rfl aO (by first | (simp only [Nat.zero_add, Int.toNat_natCast]; exact rfl) | rfl) (by first | (simp only [Nat.sub_zero, Int.toNat_natCast]; exact rfl) | rfl) ?_) | (refine x_sliceS aA rfl rfl rfl aO rfl ?_)) | (refine x_slice3 _ aA rfl rfl rfl aO (by first | exact List.take_of_length_le aO | rfl) ?_) | (refine x_nil (hK _ _ (.inl rfl) ?_); clear hK K) | (refine x_nil (hK _ _ (.inr (by kernel_rfl)) ?_); clear hK K))
      | (refine g_code ?_; first | (refine v_seq ?_) | (refine v_region (fun K hK => ?_)) | (refine v_block ?_) | (refine v_skip ?_) | (refine v_ret ?_) | (refine v_exit ?_) | (refine g_cond ?_; first | (refine v_cond_y rfl aD ?_) | (refine v_cond_n rfl aD ?_) | (refine v_condt rfl (fun h => ?_) (fun h => ?_) <;> (have h' := h; (try simp only [sx] at h')))))
      | (refine q_then ?_) | (refine q_then_r ?_) | (refine q_then_e ?_) | (refine q_blk_n ?_) | (refine q_blk_r ?_) | (refine q_blk_e ?_) | (refine q_blk_o rfl ?_) | (refine q_loop_r ?_) | (refine q_loop_e ?_) | (refine ret_n ?_))
    all_goals exact ret_str rfl (lookE_ok rfl) rfl
/-- The text of a camp. -/
def campT (c : Camp) : ByteArray := campS c.id.toNat c.people.toNat c.stock.toNat
theorem k_l23Text (c : Camp) (h : One c) : Con Tryz.prog 40 [.agg c.pv] (.str (campT c)) := by
  obtain ⟨i, p, s⟩ := c
  obtain ⟨⟨h1, h2⟩, ⟨h3, h4⟩, ⟨h5, h6⟩⟩ := h
  dsimp only at h1 h2 h3 h4 h5 h6
  obtain ⟨i, rfl⟩ := Int.eq_ofNat_of_zero_le (show 0 ≤ i by omega)
  obtain ⟨p, rfl⟩ := Int.eq_ofNat_of_zero_le h3
  obtain ⟨s, rfl⟩ := Int.eq_ofNat_of_zero_le h5
  have si := numT_size i aO
  have sp := numT_size p aO
  have ss := numT_size s aO
  have ki := k_l1Num i aO
  have kp := k_l1Num p aO
  have ks := k_l1Num s aO
  have e : campT ⟨(i : Int), (p : Int), (s : Int)⟩ = campS i p s := rfl
  rw [e]
  clear e
  unfold campS
  have hbd : p = s → numT p = numT s := fun e => by rw [e]
  generalize numT i = a at *
  generalize numT p = b at *
  generalize numT s = d at *
  intro al
  refine contract_of hmix Tryz.func40 rfl (by kernel_rfl) (by kernel_rfl) (Nat.le_of_ble_eq_true rfl) (fun row h => by cases h) ?_
  have hty_f34_0 := ty_f34_0
  have hty_c3 := ty_c3
  have hty_f34_1 := ty_f34_1
  have hty_f34_2 := ty_f34_2
  by_cases hp : p = 1
  · by_cases hs : s = 1
    · subst hp hs
      obtain rfl := hbd rfl
      repeat' (first
      | (refine g_exec ?_; first | (refine g_move ?_; refine x_moveO _ rfl ?_) | (refine g_assign ?_; refine x_assignO _ rfl ?_) | (refine g_bin ?_; first | (refine x_add rfl rfl aO ?_) | (refine x_bin _ rfl rfl rfl ?_) | (refine x_boolEq aA rfl rfl ?_) | (refine x_strAdd rfl rfl (by first | omega | (simp only [app_size, bs_lit, bs_lit2, List.length_cons, List.length_nil]; omega) | fail) ?_) | (refine x_strBin _ rfl rfl rfl ?_)) | (refine g_load ?_; first | (refine x_load_pc aA rfl ?_) | (refine x_load_oc _ aA rfl rfl aE rfl ?_) | (refine x_load_pa _ aA rfl aZ aL ?_) | (refine x_load_oa _ aA rfl rfl aE aZ aL ?_)) | (refine g_field ?_; first | (refine x_field_p _ aA rfl aL ?_) | (refine x_field_o _ aA rfl rfl (by simp only [lx, Nat.reduceAdd]; first | done | rfl) ?_)) | (refine g_call ?_; first | (refine x_callG true (ki) rfl rfl rfl aS rfl aH ?_; simp only [cl]) | (refine x_callG true (kp) rfl rfl rfl aS rfl aH ?_; simp only [cl])) | (refine x_boxO _ _ rfl rfl rfl rfl ?_) | (refine x_nil (hK _ _ (.inl rfl) ?_); clear hK K) | (refine x_nil (hK _ _ (.inr (by kernel_rfl)) ?_); clear hK K))
      | (refine g_code ?_; first | (refine v_seq ?_) | (refine v_region (fun K hK => ?_)) | (refine v_block ?_) | (refine v_skip ?_) | (refine v_ret ?_) | (refine v_exit ?_) | (refine g_cond ?_; first | (refine v_cond_y rfl aD ?_) | (refine v_cond_n rfl aD ?_) | (refine v_condt rfl (fun h => ?_) (fun h => ?_) <;> (have h' := h; (try simp only [sx] at h')))))
      | (refine q_then ?_) | (refine q_then_r ?_) | (refine q_then_e ?_) | (refine q_blk_n ?_) | (refine q_blk_r ?_) | (refine q_blk_e ?_) | (refine q_blk_o rfl ?_) | (refine q_loop_r ?_) | (refine q_loop_e ?_) | (refine ret_n ?_))
      all_goals first
        | (exfalso; omega)
        | exact ret_str rfl (lookE_ok rfl) (by simp only [if_true])
    · subst hp
      repeat' (first
      | (refine g_exec ?_; first | (refine g_move ?_; refine x_moveO _ rfl ?_) | (refine g_assign ?_; refine x_assignO _ rfl ?_) | (refine g_bin ?_; first | (refine x_add rfl rfl aO ?_) | (refine x_bin _ rfl rfl rfl ?_) | (refine x_boolEq aA rfl rfl ?_) | (refine x_strAdd rfl rfl (by first | omega | (simp only [app_size, bs_lit, bs_lit2, List.length_cons, List.length_nil]; omega) | fail) ?_) | (refine x_strBin _ rfl rfl rfl ?_)) | (refine g_load ?_; first | (refine x_load_pc aA rfl ?_) | (refine x_load_oc _ aA rfl rfl aE rfl ?_) | (refine x_load_pa _ aA rfl aZ aL ?_) | (refine x_load_oa _ aA rfl rfl aE aZ aL ?_)) | (refine g_field ?_; first | (refine x_field_p _ aA rfl aL ?_) | (refine x_field_o _ aA rfl rfl (by simp only [lx, Nat.reduceAdd]; first | done | rfl) ?_)) | (refine g_call ?_; first | (refine x_callG true (ki) rfl rfl rfl aS rfl aH ?_; simp only [cl]) | (refine x_callG true (kp) rfl rfl rfl aS rfl aH ?_; simp only [cl]) | (refine x_callG true (ks) rfl rfl rfl aS rfl aH ?_; simp only [cl])) | (refine x_boxO _ _ rfl rfl rfl rfl ?_) | (refine x_nil (hK _ _ (.inl rfl) ?_); clear hK K) | (refine x_nil (hK _ _ (.inr (by kernel_rfl)) ?_); clear hK K))
      | (refine g_code ?_; first | (refine v_seq ?_) | (refine v_region (fun K hK => ?_)) | (refine v_block ?_) | (refine v_skip ?_) | (refine v_ret ?_) | (refine v_exit ?_) | (refine g_cond ?_; first | (refine v_cond_y rfl aD ?_) | (refine v_cond_n rfl aD ?_) | (refine v_condt rfl (fun h => ?_) (fun h => ?_) <;> (have h' := h; (try simp only [sx] at h')))))
      | (refine q_then ?_) | (refine q_then_r ?_) | (refine q_then_e ?_) | (refine q_blk_n ?_) | (refine q_blk_r ?_) | (refine q_blk_e ?_) | (refine q_blk_o rfl ?_) | (refine q_loop_r ?_) | (refine q_loop_e ?_) | (refine ret_n ?_))
      all_goals first
        | (exfalso; omega)
        | exact ret_str rfl (lookE_ok rfl) (by simp only [if_true, if_neg hs])
  · by_cases hs : s = 1
    · subst hs
      repeat' (first
      | (refine g_exec ?_; first | (refine g_move ?_; refine x_moveO _ rfl ?_) | (refine g_assign ?_; refine x_assignO _ rfl ?_) | (refine g_bin ?_; first | (refine x_add rfl rfl aO ?_) | (refine x_bin _ rfl rfl rfl ?_) | (refine x_boolEq aA rfl rfl ?_) | (refine x_strAdd rfl rfl (by first | omega | (simp only [app_size, bs_lit, bs_lit2, List.length_cons, List.length_nil]; omega) | fail) ?_) | (refine x_strBin _ rfl rfl rfl ?_)) | (refine g_load ?_; first | (refine x_load_pc aA rfl ?_) | (refine x_load_oc _ aA rfl rfl aE rfl ?_) | (refine x_load_pa _ aA rfl aZ aL ?_) | (refine x_load_oa _ aA rfl rfl aE aZ aL ?_)) | (refine g_field ?_; first | (refine x_field_p _ aA rfl aL ?_) | (refine x_field_o _ aA rfl rfl (by simp only [lx, Nat.reduceAdd]; first | done | rfl) ?_)) | (refine g_call ?_; first | (refine x_callG true (ki) rfl rfl rfl aS rfl aH ?_; simp only [cl]) | (refine x_callG true (kp) rfl rfl rfl aS rfl aH ?_; simp only [cl]) | (refine x_callG true (ks) rfl rfl rfl aS rfl aH ?_; simp only [cl])) | (refine x_boxO _ _ rfl rfl rfl rfl ?_) | (refine x_nil (hK _ _ (.inl rfl) ?_); clear hK K) | (refine x_nil (hK _ _ (.inr (by kernel_rfl)) ?_); clear hK K))
      | (refine g_code ?_; first | (refine v_seq ?_) | (refine v_region (fun K hK => ?_)) | (refine v_block ?_) | (refine v_skip ?_) | (refine v_ret ?_) | (refine v_exit ?_) | (refine g_cond ?_; first | (refine v_cond_y rfl aD ?_) | (refine v_cond_n rfl aD ?_) | (refine v_condt rfl (fun h => ?_) (fun h => ?_) <;> (have h' := h; (try simp only [sx] at h')))))
      | (refine q_then ?_) | (refine q_then_r ?_) | (refine q_then_e ?_) | (refine q_blk_n ?_) | (refine q_blk_r ?_) | (refine q_blk_e ?_) | (refine q_blk_o rfl ?_) | (refine q_loop_r ?_) | (refine q_loop_e ?_) | (refine ret_n ?_))
      all_goals first
        | (exfalso; omega)
        | exact ret_str rfl (lookE_ok rfl) (by simp only [if_true, if_neg hp])
    · repeat' (first
      | (refine g_exec ?_; first | (refine g_move ?_; refine x_moveO _ rfl ?_) | (refine g_assign ?_; refine x_assignO _ rfl ?_) | (refine g_bin ?_; first | (refine x_add rfl rfl aO ?_) | (refine x_bin _ rfl rfl rfl ?_) | (refine x_boolEq aA rfl rfl ?_) | (refine x_strAdd rfl rfl (by first | omega | (simp only [app_size, bs_lit, bs_lit2, List.length_cons, List.length_nil]; omega) | fail) ?_) | (refine x_strBin _ rfl rfl rfl ?_)) | (refine g_load ?_; first | (refine x_load_pc aA rfl ?_) | (refine x_load_oc _ aA rfl rfl aE rfl ?_) | (refine x_load_pa _ aA rfl aZ aL ?_) | (refine x_load_oa _ aA rfl rfl aE aZ aL ?_)) | (refine g_field ?_; first | (refine x_field_p _ aA rfl aL ?_) | (refine x_field_o _ aA rfl rfl (by simp only [lx, Nat.reduceAdd]; first | done | rfl) ?_)) | (refine g_call ?_; first | (refine x_callG true (ki) rfl rfl rfl aS rfl aH ?_; simp only [cl]) | (refine x_callG true (kp) rfl rfl rfl aS rfl aH ?_; simp only [cl]) | (refine x_callG true (ks) rfl rfl rfl aS rfl aH ?_; simp only [cl])) | (refine x_boxO _ _ rfl rfl rfl rfl ?_) | (refine x_nil (hK _ _ (.inl rfl) ?_); clear hK K) | (refine x_nil (hK _ _ (.inr (by kernel_rfl)) ?_); clear hK K))
      | (refine g_code ?_; first | (refine v_seq ?_) | (refine v_region (fun K hK => ?_)) | (refine v_block ?_) | (refine v_skip ?_) | (refine v_ret ?_) | (refine v_exit ?_) | (refine g_cond ?_; first | (refine v_cond_y rfl aD ?_) | (refine v_cond_n rfl aD ?_) | (refine v_condt rfl (fun h => ?_) (fun h => ?_) <;> (have h' := h; (try simp only [sx] at h')))))
      | (refine q_then ?_) | (refine q_then_r ?_) | (refine q_then_e ?_) | (refine q_blk_n ?_) | (refine q_blk_r ?_) | (refine q_blk_e ?_) | (refine q_blk_o rfl ?_) | (refine q_loop_r ?_) | (refine q_loop_e ?_) | (refine ret_n ?_))
      all_goals first
        | (exfalso; omega)
        | exact ret_str rfl (lookE_ok rfl) (by simp only [if_neg hp, if_neg hs])
theorem k_sCampText (c : Camp) : Con Tryz.prog 15 [.agg c.pv] (.tuple [.str (if One c then campT c else ⟨#[]⟩), .bool (decide (One c))]) := by
  intro al
  refine contract_of hmix Tryz.func15 rfl (by kernel_rfl) (by kernel_rfl) (Nat.le_of_ble_eq_true rfl) (fun row h => by cases h) ?_
  have hty_a34 := ty_a34
  have k1 := k_l23One c
  by_cases h : One c
  · rw [decide_eq_true h] at k1
    rw [if_pos h, decide_eq_true h]
    have k2 := k_l23Text c h
    repeat' (first
      | (refine g_exec ?_; first | (refine g_assign ?_; refine x_assignO _ rfl ?_) | (refine g_un ?_; first | (refine x_not rfl ?_) | (refine x_neg rfl aO ?_)) | (refine g_load ?_; first | (refine x_load_pc aA rfl ?_) | (refine x_load_oc _ aA rfl rfl aE rfl ?_) | (refine x_load_pa _ aA rfl aZ aL ?_) | (refine x_load_oa _ aA rfl rfl aE aZ aL ?_)) | (refine g_call ?_; first | (refine x_callG true (k1) rfl rfl rfl aS rfl aH ?_; simp only [cl]) | (refine x_callG true (k2) rfl rfl rfl aS rfl aH ?_; simp only [cl])) | (refine x_boxO _ _ rfl rfl rfl rfl ?_) | (refine x_nil (hK _ _ (.inl rfl) ?_); clear hK K) | (refine x_nil (hK _ _ (.inr (by kernel_rfl)) ?_); clear hK K))
      | (refine g_code ?_; first | (refine v_seq ?_) | (refine v_region (fun K hK => ?_)) | (refine v_block ?_) | (refine v_skip ?_) | (refine v_ret ?_) | (refine v_exit ?_) | (refine g_cond ?_; first | (refine v_cond_y rfl aD ?_) | (refine v_cond_n rfl aD ?_) | (refine v_condt rfl (fun h => ?_) (fun h => ?_) <;> (have h' := h; (try simp only [sx] at h')))))
      | (refine q_then ?_) | (refine q_then_r ?_) | (refine q_then_e ?_) | (refine q_blk_n ?_) | (refine q_blk_r ?_) | (refine q_blk_e ?_) | (refine q_blk_o rfl ?_) | (refine q_loop_r ?_) | (refine q_loop_e ?_) | (refine ret_n ?_))
    all_goals first
      | (exfalso; omega)
      | exact aR
  · rw [decide_eq_false h] at k1
    rw [if_neg h, decide_eq_false h]
    repeat' (first
      | (refine g_exec ?_; first | (refine g_assign ?_; refine x_assignO _ rfl ?_) | (refine g_un ?_; first | (refine x_not rfl ?_) | (refine x_neg rfl aO ?_)) | (refine g_load ?_; first | (refine x_load_pc aA rfl ?_) | (refine x_load_oc _ aA rfl rfl aE rfl ?_) | (refine x_load_pa _ aA rfl aZ aL ?_) | (refine x_load_oa _ aA rfl rfl aE aZ aL ?_)) | (refine g_call ?_; refine x_callG true (k1) rfl rfl rfl aS rfl aH ?_; simp only [cl]) | (refine x_boxO _ _ rfl rfl rfl rfl ?_) | (refine x_nil (hK _ _ (.inl rfl) ?_); clear hK K) | (refine x_nil (hK _ _ (.inr (by kernel_rfl)) ?_); clear hK K))
      | (refine g_code ?_; first | (refine v_seq ?_) | (refine v_region (fun K hK => ?_)) | (refine v_block ?_) | (refine v_skip ?_) | (refine v_ret ?_) | (refine v_exit ?_) | (refine g_cond ?_; first | (refine v_cond_y rfl aD ?_) | (refine v_cond_n rfl aD ?_) | (refine v_condt rfl (fun h => ?_) (fun h => ?_) <;> (have h' := h; (try simp only [sx] at h')))))
      | (refine q_then ?_) | (refine q_then_r ?_) | (refine q_then_e ?_) | (refine q_blk_n ?_) | (refine q_blk_r ?_) | (refine q_blk_e ?_) | (refine q_blk_o rfl ?_) | (refine q_loop_r ?_) | (refine q_loop_e ?_) | (refine ret_n ?_))
    all_goals first
      | (exfalso; omega)
      | exact aR
/-- What is asked of strconv.Itoa. -/
def ItoaC : Prop := ∀ n : Nat, n < 10 ^ 18 → Con Tryz.prog 61 [.int .i64 (n : Int)] (.str (numT n))
theorem k_itoa (kI : ItoaC) (n : Nat) (hn : n < 10 ^ 18) : Con Tryz.prog 37 [.int .i64 (n : Int)] (.str (numT n)) := by
  intro al
  refine contract_of hmix Tryz.func37 rfl (by kernel_rfl) (by kernel_rfl) (Nat.le_of_ble_eq_true rfl) (fun row h => by cases h) ?_
  have k := kI n hn
  repeat' (first
      | (refine g_exec ?_; first | (refine g_move ?_; refine x_moveO _ rfl ?_) | (refine g_assign ?_; refine x_assignO _ rfl ?_) | (refine g_call ?_; refine x_callG true (k) rfl rfl rfl aS rfl aH ?_; simp only [cl]) | (refine x_nil (hK _ _ (.inl rfl) ?_); clear hK K) | (refine x_nil (hK _ _ (.inr (by kernel_rfl)) ?_); clear hK K))
      | (refine g_code ?_; first | (refine v_seq ?_) | (refine v_region (fun K hK => ?_)) | (refine v_block ?_) | (refine v_skip ?_) | (refine v_ret ?_) | (refine v_exit ?_))
      | (refine q_then ?_) | (refine q_then_r ?_) | (refine q_then_e ?_) | (refine q_blk_n ?_) | (refine q_blk_r ?_) | (refine q_blk_e ?_) | (refine q_blk_o rfl ?_) | (refine q_loop_r ?_) | (refine q_loop_e ?_) | (refine ret_n ?_))
  all_goals exact ret_str rfl (lookE_ok rfl) rfl
theorem k_counted (kI : ItoaC) (n : Nat) (hn : n < 10 ^ 18) (one others : ByteArray) (h1 : one.size ≤ 1000) (h2 : others.size ≤ 1000) : Con Tryz.prog 38 [.int .i64 (n : Int), .str one, .str others] (.str (cntT n one others)) := by
  intro al
  refine contract_of hmix Tryz.func38 rfl (by kernel_rfl) (by kernel_rfl) (Nat.le_of_ble_eq_true rfl) (fun row h => by cases h) ?_
  have k := k_itoa kI n hn
  have hs := numT_size n aO
  unfold cntT
  by_cases h : n = 1
  · rw [if_pos h]
    repeat' (first
      | (refine g_exec ?_; first | (refine g_move ?_; refine x_moveO _ rfl ?_) | (refine g_assign ?_; refine x_assignO _ rfl ?_) | (refine g_bin ?_; first | (refine x_add rfl rfl aO ?_) | (refine x_bin _ rfl rfl rfl ?_) | (refine x_boolEq aA rfl rfl ?_) | (refine x_strAdd rfl rfl (by first | omega | (simp only [app_size, bs_lit, bs_lit2, List.length_cons, List.length_nil]; omega) | fail) ?_) | (refine x_strBin _ rfl rfl rfl ?_)) | (refine g_call ?_; refine x_callG true (k) rfl rfl rfl aS rfl aH ?_; simp only [cl]) | (refine x_nil (hK _ _ (.inl rfl) ?_); clear hK K) | (refine x_nil (hK _ _ (.inr (by kernel_rfl)) ?_); clear hK K))
      | (refine g_code ?_; first | (refine v_seq ?_) | (refine v_region (fun K hK => ?_)) | (refine v_block ?_) | (refine v_skip ?_) | (refine v_ret ?_) | (refine v_exit ?_) | (refine g_cond ?_; first | (refine v_cond_y rfl aD ?_) | (refine v_cond_n rfl aD ?_) | (refine v_condt rfl (fun h => ?_) (fun h => ?_) <;> (have h' := h; (try simp only [sx] at h')))))
      | (refine q_then ?_) | (refine q_then_r ?_) | (refine q_then_e ?_) | (refine q_blk_n ?_) | (refine q_blk_r ?_) | (refine q_blk_e ?_) | (refine q_blk_o rfl ?_) | (refine q_loop_r ?_) | (refine q_loop_e ?_) | (refine ret_n ?_))
    all_goals first
      | (exfalso; omega)
      | exact ret_str rfl (lookE_ok rfl) rfl
  · rw [if_neg h]
    repeat' (first
      | (refine g_exec ?_; first | (refine g_move ?_; refine x_moveO _ rfl ?_) | (refine g_assign ?_; refine x_assignO _ rfl ?_) | (refine g_bin ?_; first | (refine x_add rfl rfl aO ?_) | (refine x_bin _ rfl rfl rfl ?_) | (refine x_boolEq aA rfl rfl ?_) | (refine x_strAdd rfl rfl (by first | omega | (simp only [app_size, bs_lit, bs_lit2, List.length_cons, List.length_nil]; omega) | fail) ?_) | (refine x_strBin _ rfl rfl rfl ?_)) | (refine g_call ?_; refine x_callG true (k) rfl rfl rfl aS rfl aH ?_; simp only [cl]) | (refine x_nil (hK _ _ (.inl rfl) ?_); clear hK K) | (refine x_nil (hK _ _ (.inr (by kernel_rfl)) ?_); clear hK K))
      | (refine g_code ?_; first | (refine v_seq ?_) | (refine v_region (fun K hK => ?_)) | (refine v_block ?_) | (refine v_skip ?_) | (refine v_ret ?_) | (refine v_exit ?_) | (refine g_cond ?_; first | (refine v_cond_y rfl aD ?_) | (refine v_cond_n rfl aD ?_) | (refine v_condt rfl (fun h => ?_) (fun h => ?_) <;> (have h' := h; (try simp only [sx] at h')))))
      | (refine q_then ?_) | (refine q_then_r ?_) | (refine q_then_e ?_) | (refine q_blk_n ?_) | (refine q_blk_r ?_) | (refine q_blk_e ?_) | (refine q_blk_o rfl ?_) | (refine q_loop_r ?_) | (refine q_loop_e ?_) | (refine ret_n ?_))
    all_goals first
      | (exfalso; omega)
      | exact ret_str rfl (lookE_ok rfl) rfl
theorem cntT_size (n : Nat) (hn : n < 10 ^ 19) (one others : ByteArray) (h1 : one.size ≤ 100) (h2 : others.size ≤ 100) : (cntT n one others).size ≤ 200 := by
  have hs := numT_size n hn
  unfold cntT
  split <;> simp only [app_size, bs_lit, List.length_cons, List.length_nil] <;> omega
theorem k_iCampText (kI : ItoaC) (c : Camp) : Con Tryz.prog 14 [.agg c.pv] (.tuple [.str (if One c then campT c else ⟨#[]⟩), .bool (decide (One c))]) := by
  have k1 := k_isCamp c
  by_cases h : One c
  · rw [decide_eq_true h] at k1
    rw [if_pos h, decide_eq_true h]
    obtain ⟨i, p, s⟩ := c
    obtain ⟨⟨h1, h2⟩, ⟨h3, h4⟩, ⟨h5, h6⟩⟩ := h
    dsimp only at h1 h2 h3 h4 h5 h6
    obtain ⟨i, rfl⟩ := Int.eq_ofNat_of_zero_le (show 0 ≤ i by omega)
    obtain ⟨p, rfl⟩ := Int.eq_ofNat_of_zero_le h3
    obtain ⟨s, rfl⟩ := Int.eq_ofNat_of_zero_le h5
    have e : campT ⟨(i : Int), (p : Int), (s : Int)⟩ = campI i p s := (campIS i p s).symm
    rw [e]
    clear e
    have si := numT_size i aO
    have sp := cntT_size p aO (bs [112, 101, 114, 115, 111, 110]) (bs [112, 101, 111, 112, 108, 101]) (by decide) (by decide)
    have ss := cntT_size s aO (bs [114, 97, 116, 105, 111, 110]) (bs [114, 97, 116, 105, 111, 110, 115]) (by decide) (by decide)
    have ki := k_itoa kI i aO
    have kp := k_counted kI p aO (bs [112, 101, 114, 115, 111, 110]) (bs [112, 101, 111, 112, 108, 101]) (by decide) (by decide)
    have ks := k_counted kI s aO (bs [114, 97, 116, 105, 111, 110]) (bs [114, 97, 116, 105, 111, 110, 115]) (by decide) (by decide)
    unfold campI
    generalize numT i = a at *
    generalize cntT p (bs [112, 101, 114, 115, 111, 110]) (bs [112, 101, 111, 112, 108, 101]) = b at *
    generalize cntT s (bs [114, 97, 116, 105, 111, 110]) (bs [114, 97, 116, 105, 111, 110, 115]) = d at *
    intro al
    refine contract_of hmix Tryz.func14 rfl (by kernel_rfl) (by kernel_rfl) (Nat.le_of_ble_eq_true rfl) (fun row h => by cases h) ?_
    have hty_a34 := ty_a34
    have hty_f34_0 := ty_f34_0
    have hty_c3 := ty_c3
    have hty_f34_1 := ty_f34_1
    have hty_u9 := ty_u9
    have hty_f34_2 := ty_f34_2
    repeat' (first
      | (refine g_exec ?_; first | (refine g_assign ?_; refine x_assignO _ rfl ?_) | (refine g_bin ?_; first | (refine x_add rfl rfl aO ?_) | (refine x_bin _ rfl rfl rfl ?_) | (refine x_strAdd rfl rfl (by first | omega | (simp only [app_size, bs_lit, bs_lit2, List.length_cons, List.length_nil]; omega) | fail) ?_) | (refine x_strBin _ rfl rfl rfl ?_)) | (refine g_un ?_; first | (refine x_not rfl ?_) | (refine x_neg rfl aO ?_)) | (refine g_load ?_; first | (refine x_load_pc aA rfl ?_) | (refine x_load_oc _ aA rfl rfl aE rfl ?_) | (refine x_load_pa _ aA rfl aZ aL ?_) | (refine x_load_oa _ aA rfl rfl aE aZ aL ?_)) | (refine g_field ?_; first | (refine x_field_p _ aA rfl aL ?_) | (refine x_field_o _ aA rfl rfl (by simp only [lx, Nat.reduceAdd]; first | done | rfl) ?_)) | (refine g_call ?_; first | (refine x_callG true (k1) rfl rfl rfl aS rfl aH ?_; simp only [cl]) | (refine x_callG true (ki) rfl rfl rfl aS rfl aH ?_; simp only [cl]) | (refine x_callG true (kp) rfl rfl rfl aS rfl aH ?_; simp only [cl]) | (refine x_callG true (ks) rfl rfl rfl aS rfl aH ?_; simp only [cl])) | (refine x_boxO _ _ rfl rfl rfl rfl ?_) | (refine x_nil (hK _ _ (.inl rfl) ?_); clear hK K) | (refine x_nil (hK _ _ (.inr (by kernel_rfl)) ?_); clear hK K))
      | (refine g_code ?_; first | (refine v_seq ?_) | (refine v_region (fun K hK => ?_)) | (refine v_block ?_) | (refine v_skip ?_) | (refine v_ret ?_) | (refine v_exit ?_) | (refine g_cond ?_; first | (refine v_cond_y rfl aD ?_) | (refine v_cond_n rfl aD ?_) | (refine v_condt rfl (fun h => ?_) (fun h => ?_) <;> (have h' := h; (try simp only [sx] at h')))))
      | (refine q_then ?_) | (refine q_then_r ?_) | (refine q_then_e ?_) | (refine q_blk_n ?_) | (refine q_blk_r ?_) | (refine q_blk_e ?_) | (refine q_blk_o rfl ?_) | (refine q_loop_r ?_) | (refine q_loop_e ?_) | (refine ret_n ?_))
    all_goals first
      | (exfalso; omega)
      | exact aR
  · rw [decide_eq_false h] at k1
    rw [if_neg h, decide_eq_false h]
    intro al
    refine contract_of hmix Tryz.func14 rfl (by kernel_rfl) (by kernel_rfl) (Nat.le_of_ble_eq_true rfl) (fun row h => by cases h) ?_
    have hty_a34 := ty_a34
    have hty_f34_0 := ty_f34_0
    have hty_c3 := ty_c3
    have hty_f34_1 := ty_f34_1
    have hty_u9 := ty_u9
    have hty_f34_2 := ty_f34_2
    repeat' (first
      | (refine g_exec ?_; first | (refine g_assign ?_; refine x_assignO _ rfl ?_) | (refine g_bin ?_; first | (refine x_add rfl rfl aO ?_) | (refine x_bin _ rfl rfl rfl ?_) | (refine x_strAdd rfl rfl (by first | omega | (simp only [app_size, bs_lit, bs_lit2, List.length_cons, List.length_nil]; omega) | fail) ?_) | (refine x_strBin _ rfl rfl rfl ?_)) | (refine g_un ?_; first | (refine x_not rfl ?_) | (refine x_neg rfl aO ?_)) | (refine g_load ?_; first | (refine x_load_pc aA rfl ?_) | (refine x_load_oc _ aA rfl rfl aE rfl ?_) | (refine x_load_pa _ aA rfl aZ aL ?_) | (refine x_load_oa _ aA rfl rfl aE aZ aL ?_)) | (refine g_field ?_; first | (refine x_field_p _ aA rfl aL ?_) | (refine x_field_o _ aA rfl rfl (by simp only [lx, Nat.reduceAdd]; first | done | rfl) ?_)) | (refine g_call ?_; refine x_callG true (k1) rfl rfl rfl aS rfl aH ?_; simp only [cl]) | (refine x_boxO _ _ rfl rfl rfl rfl ?_) | (refine x_nil (hK _ _ (.inl rfl) ?_); clear hK K) | (refine x_nil (hK _ _ (.inr (by kernel_rfl)) ?_); clear hK K))
      | (refine g_code ?_; first | (refine v_seq ?_) | (refine v_region (fun K hK => ?_)) | (refine v_block ?_) | (refine v_skip ?_) | (refine v_ret ?_) | (refine v_exit ?_) | (refine g_cond ?_; first | (refine v_cond_y rfl aD ?_) | (refine v_cond_n rfl aD ?_) | (refine v_condt rfl (fun h => ?_) (fun h => ?_) <;> (have h' := h; (try simp only [sx] at h')))))
      | (refine q_then ?_) | (refine q_then_r ?_) | (refine q_then_e ?_) | (refine q_blk_n ?_) | (refine q_blk_r ?_) | (refine q_blk_e ?_) | (refine q_blk_o rfl ?_) | (refine q_loop_r ?_) | (refine q_loop_e ?_) | (refine ret_n ?_))
    all_goals first
      | (exfalso; omega)
      | exact aR
end Go.Vs
