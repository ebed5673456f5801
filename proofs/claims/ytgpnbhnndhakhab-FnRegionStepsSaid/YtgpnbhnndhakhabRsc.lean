/- Parts of a proof: what its last text mentions. -/
import Derived.Test.YtgpnbhnndhakhabRsb
set_option maxRecDepth 100000
set_option maxHeartbeats 4000000
namespace Go.Vs
theorem aD {p : Prop} (h : p := by first | rfl | assumption | (simp only [sx]; omega) | (simp; done) | fail) : p := h
theorem aL {p : Prop} (h : p := by (first | (simp only [lx, Nat.reduceAdd]; first | done | rfl) | fail)) : p := h
theorem aE {p : Prop} (h : p := by first | rfl | assumption | exact getSelf (by omega) | exact getNe (by omega) (by assumption)) : p := h
theorem aZ {p : Prop} (h : p := by first | (simp; done) | fail) : p := h
theorem aN {p : Prop} (h : p := by first | exact (takeAll rfl).symm | exact (takeAll (by assumption)).symm | exact (takeAll (by first | (simp; done) | omega | fail)).symm | (first | (simp only [lx, Nat.reduceAdd]; first | done | rfl) | fail) | fail) : p := h
theorem aP {p : Prop} (h : p := by first | (simp only [List.length_cons, List.length_nil, Nat.zero_add, Nat.reduceAdd]; exact rfl) | exact rfl) : p := h
theorem aH {p : Prop} (h : p := by simp only [thaw, thawT, thaw1, thawL, Nat.zero_add, Nat.reduceAdd]; exact rfl) : p := h
theorem aS {p : Prop} (h : p := by (repeat' (first | exact trivial | exact rfl | exact allR_ptrs _ | exact .inl rfl | exact sn_all rfl rfl rfl | exact sn_all rfl rfl (by first | omega | (simp; done) | fail) | exact sn_part rfl rfl (by first | (simp; done) | exact (takeAll (by assumption)).symm | exact (takeAll (by first | (simp; done) | omega | fail)).symm | (first | (simp only [lx, Nat.reduceAdd]; first | done | rfl) | fail) | fail) | refine sn_own rfl rfl rfl ?_ | exact List.length_map .. | refine ⟨?_, ?_⟩)); first | done | fail) : p := h
theorem aO {p : Prop} (h : p := by omega) : p := h
theorem aA {p : Prop} (h : p := by assumption) : p := h
theorem cl : (∀ (α : Type) (a : α) (l m : List α), (a :: l) ++ m = a :: (l ++ m)) ∧ (∀ (α : Type) (l : List α), [] ++ l = l) ∧ (∀ (α β : Type) (f : α → β) (a : α) (l : List α), (a :: l).map f = f a :: l.map f) ∧ (∀ (α β : Type) (f : α → β), ([] : List α).map f = []) := ⟨fun _ _ _ _ => rfl, fun _ _ => rfl, fun _ _ _ _ _ => rfl, fun _ _ _ => rfl⟩
theorem aR {p : Prop} (h : p := by ((first | refine ret_T rfl rfl rfl (by first | exact trivial | (repeat' (first | exact trivial | refine ⟨by assumption, ?_⟩))) (by repeat' (first | exact trivial | refine ⟨by simp, ?_⟩)) ?_ | refine ret_A rfl rfl rfl (by first | exact trivial | (repeat' (first | exact trivial | refine ⟨by assumption, ?_⟩))) (by repeat' (first | exact trivial | refine ⟨by simp, ?_⟩)) ?_); (repeat' (first | exact et_end | exact el_end | refine et_int rfl ?_ ?_ | refine et_bool ?_ ?_ | refine et_str ?_ ?_ | refine et_list (by rfl) (by decide) rfl rfl ?_ ?_ ?_ ?_ | refine et_nil ?_ ?_ | refine et_agg ?_ ?_ | refine el_int rfl ?_ ?_ | refine el_bool ?_ ?_ | refine el_str ?_ ?_ | refine el_list (by rfl) (by decide) rfl rfl ?_ ?_ ?_ ?_ | refine el_nil ?_ ?_)) <;> (first | rfl | assumption | (exact ints_flat _) | (simp; done) | omega))) : p := h
end Go.Vs
set_option linter.unusedVariables false
set_option linter.unusedSimpArgs false
set_option maxRecDepth 100000
namespace Go.Vs
open Go.Proofs
theorem hmix : Try.prog.follows .mixedOrders = true := by kernel_rfl
theorem ty_c3 : TCell Try.prog 3 := tcell (by kernel_rfl)
theorem ty_u3 : Try.prog.underlying 3 = some (.int .i64) := Try.underlying3
theorem ty_t3 : TSize Try.prog 3 1 := tsize (by kernel_rfl)
theorem ty_u4 : Try.prog.underlying 4 = some .bool := Try.underlying4
theorem ty_c5 : TCell Try.prog 5 := tcell (by kernel_rfl)
theorem ty_u5 : Try.prog.underlying 5 = some (.int .u8) := Try.underlying5
theorem ty_c22 : TCell Try.prog 22 := tcell (by kernel_rfl)
theorem ty_u22 : Try.prog.underlying 22 = some (.slice 5) := Try.underlying22
theorem ty_s22 : TSlice Try.prog 22 5 1 1 := tslice (by kernel_rfl)
theorem ty_c24 : TCell Try.prog 24 := tcell (by kernel_rfl)
theorem ty_u24 : Try.prog.underlying 24 = some (.slice 3) := Try.underlying24
theorem ty_t24 : TSize Try.prog 24 1 := tsize (by kernel_rfl)
theorem ty_s24 : TSlice Try.prog 24 3 1 8 := tslice (by kernel_rfl)
theorem ty_t26 : TSize Try.prog 26 3 := tsize (by kernel_rfl)
theorem ty_z26 : TZero Try.prog 26 [.int .i64 0, .int .i64 0, .nil] := tzero (.agg #[.int .i64 0, .int .i64 0, .slice none 0 0]) (by kernel_rfl) rfl
theorem ty_a26 : TAgg Try.prog 26 3 := tagg (by kernel_rfl)
theorem ty_f26_0 : TField Try.prog 26 0 0 := tfield (by kernel_rfl)
theorem ty_f26_1 : TField Try.prog 26 1 1 := tfield (by kernel_rfl)
theorem ty_f26_2 : TField Try.prog 26 2 2 := tfield (by kernel_rfl)
theorem ty_st26 : TStruct Try.prog 26 [(0, 1), (1, 1), (2, 1)] [.int .i64 0, .int .i64 0, .nil] := tstruct (by kernel_rfl) ty_z26
theorem ty_u35 : Try.prog.underlying 35 = some (.slice 24) := Try.underlying35
theorem ty_s35 : TSlice Try.prog 35 24 1 24 := tslice (by kernel_rfl)
theorem ty_c68 : TCell Try.prog 68 := tcell (by kernel_rfl)
theorem ty_c77 : TCell Try.prog 77 := tcell (by kernel_rfl)
theorem ty_u77 : Try.prog.underlying 77 = some (.int .u64) := Try.underlying77
theorem ty_t77 : TSize Try.prog 77 1 := tsize (by kernel_rfl)
theorem ty_z79 : TZero Try.prog 79 [.nil, .int .i64 0, .int .u64 0] := tzero (.agg #[.slice none 0 0, .int .i64 0, .int .u64 0]) (by kernel_rfl) rfl
theorem ty_f79_0 : TField Try.prog 79 0 0 := tfield (by kernel_rfl)
theorem ty_f79_1 : TField Try.prog 79 1 1 := tfield (by kernel_rfl)
theorem ty_f79_2 : TField Try.prog 79 2 2 := tfield (by kernel_rfl)
theorem ty_st79 : TStruct Try.prog 79 [(0, 1), (1, 1), (2, 1)] [.nil, .int .i64 0, .int .u64 0] := tstruct (by kernel_rfl) ty_z79
theorem ty_c108 : TCell Try.prog 108 := tcell (by kernel_rfl)
end Go.Vs
set_option linter.unusedVariables false
set_option linter.unusedSimpArgs false
set_option maxRecDepth 100000
set_option maxHeartbeats 4000000
namespace Go.Vs
open Go.Proofs
attribute [local irreducible] exec vwp thenQ blkQ loopQ RetPost
theorem k_l1In (x a b : Int) : Con Try.prog 137 [.int .i64 x, .int .i64 a, .int .i64 b] (.bool (decide (a ≤ x) && decide (x ≤ b))) := by
  intro al
  refine contract_of hmix Try.func137 rfl (by kernel_rfl) (by kernel_rfl) (Nat.le_of_ble_eq_true rfl) (fun row h => by cases h) ?_
  repeat' (first
      | (refine g_exec ?_; first | (refine g_move ?_; refine x_moveO _ rfl ?_) | (refine g_assign ?_; refine x_assignO _ rfl ?_) | (refine g_bin ?_; refine x_bin _ rfl rfl rfl ?_) | (refine g_pick ?_; first | (refine x_pick_b rfl aD rfl ?_) | (refine x_pick_c rfl aD ?_) | (refine x_pick_a rfl aD ?_) | (refine x_pick_d rfl aD rfl ?_)) | (refine g_guard ?_; first | (refine x_gyes rfl rfl aD ?_) | (refine x_gno rfl rfl aD ?_) | (refine x_gun rfl rfl ?_) | (refine x_gsplit rfl rfl (fun h => ?_) (fun h => ?_) <;> (have h' := h; (try simp only [sx] at h')))) | (refine x_nil (hK _ _ (.inl rfl) ?_); clear hK K) | (refine x_nil (hK _ _ (.inr (by kernel_rfl)) ?_); clear hK K))
      | (refine g_code ?_; first | (refine v_seq ?_) | (refine v_region (fun K hK => ?_)) | (refine v_block ?_) | (refine v_skip ?_) | (refine v_ret ?_) | (refine v_exit ?_))
      | (refine q_then ?_) | (refine q_then_r ?_) | (refine q_then_e ?_) | (refine q_blk_n ?_) | (refine q_blk_r ?_) | (refine q_blk_e ?_) | (refine q_blk_o rfl ?_) | (refine q_loop_r ?_) | (refine q_loop_e ?_) | (refine ret_n ?_))
  all_goals (refine ret_bool rfl (lookE_ok rfl) ?_; simp; omega)
theorem k_in (x a b : Int) : Con Try.prog 140 [.int .i64 x, .int .i64 a, .int .i64 b] (.bool (decide (a ≤ x) && decide (x ≤ b))) := by
  intro al
  refine contract_of hmix Try.func140 rfl (by kernel_rfl) (by kernel_rfl) (Nat.le_of_ble_eq_true rfl) (fun row h => by cases h) ?_
  repeat' (first
      | (refine g_exec ?_; first | (refine g_move ?_; refine x_moveO _ rfl ?_) | (refine g_assign ?_; refine x_assignO _ rfl ?_) | (refine g_bin ?_; refine x_bin _ rfl rfl rfl ?_) | (refine g_pick ?_; first | (refine x_pick_b rfl aD rfl ?_) | (refine x_pick_c rfl aD ?_) | (refine x_pick_a rfl aD ?_) | (refine x_pick_d rfl aD rfl ?_)) | (refine g_guard ?_; first | (refine x_gyes rfl rfl aD ?_) | (refine x_gno rfl rfl aD ?_) | (refine x_gun rfl rfl ?_) | (refine x_gsplit rfl rfl (fun h => ?_) (fun h => ?_) <;> (have h' := h; (try simp only [sx] at h')))) | (refine x_nil (hK _ _ (.inl rfl) ?_); clear hK K) | (refine x_nil (hK _ _ (.inr (by kernel_rfl)) ?_); clear hK K))
      | (refine g_code ?_; first | (refine v_seq ?_) | (refine v_region (fun K hK => ?_)) | (refine v_block ?_) | (refine v_skip ?_) | (refine v_ret ?_) | (refine v_exit ?_))
      | (refine q_then ?_) | (refine q_then_r ?_) | (refine q_then_e ?_) | (refine q_blk_n ?_) | (refine q_blk_r ?_) | (refine q_blk_e ?_) | (refine q_blk_o rfl ?_) | (refine q_loop_r ?_) | (refine q_loop_e ?_) | (refine ret_n ?_))
  all_goals (refine ret_bool rfl (lookE_ok rfl) ?_; simp; omega)
theorem k_l1Most (a b : Int) : Con Try.prog 155 [.int .i64 a, .int .i64 b] (.int .i64 (max a b)) := by
  intro al
  refine contract_of hmix Try.func155 rfl (by kernel_rfl) (by kernel_rfl) (Nat.le_of_ble_eq_true rfl) (fun row h => by cases h) ?_
  repeat' (first
      | (refine g_exec ?_; first | (refine g_move ?_; refine x_moveO _ rfl ?_) | (refine g_assign ?_; refine x_assignO _ rfl ?_) | (refine g_bin ?_; refine x_bin _ rfl rfl rfl ?_) | (refine x_nil (hK _ _ (.inl rfl) ?_); clear hK K) | (refine x_nil (hK _ _ (.inr (by kernel_rfl)) ?_); clear hK K))
      | (refine g_code ?_; first | (refine v_seq ?_) | (refine v_region (fun K hK => ?_)) | (refine v_block ?_) | (refine v_skip ?_) | (refine v_ret ?_) | (refine v_exit ?_) | (refine g_cond ?_; first | (refine v_cond_y rfl aD ?_) | (refine v_cond_n rfl aD ?_) | (refine v_condt rfl (fun h => ?_) (fun h => ?_) <;> (have h' := h; (try simp only [sx] at h')))))
      | (refine q_then ?_) | (refine q_then_r ?_) | (refine q_then_e ?_) | (refine q_blk_n ?_) | (refine q_blk_r ?_) | (refine q_blk_e ?_) | (refine q_blk_o rfl ?_) | (refine q_loop_r ?_) | (refine q_loop_e ?_) | (refine ret_n ?_))
  all_goals (exact ret_int rfl (lookE_ok rfl) aO)
end Go.Vs
set_option linter.unusedVariables false
set_option linter.unusedSimpArgs false
set_option maxRecDepth 100000
set_option maxHeartbeats 4000000
namespace Go.Vs
open Go.Proofs
attribute [local irreducible] exec vwp thenQ blkQ loopQ RetPost
structure Terrain where
  (width height : Int)
  (burn : List Int)
  deriving DecidableEq
@[reducible] def Terrain.pv (t : Terrain) : List PV := [.int .i64 t.width, .int .i64 t.height, .list 1 (ints t.burn)]
end Go.Vs
set_option linter.unusedVariables false
set_option linter.unusedSimpArgs false
set_option maxRecDepth 100000
set_option maxHeartbeats 4000000
namespace Go.Vs
open Go.Proofs
attribute [local irreducible] exec vwp thenQ blkQ loopQ RetPost
theorem k_IndexFuncInt (xs : List Int) (g : FuncId) (ca : List (List PV)) (p : Int → Bool) (hg : ∀ a ∈ xs, Con Try.prog g (.int .i64 a :: ca.map PV.ptr) (.bool (p a))) (hn : xs.length ≤ 1099511627776) :
    Con Try.prog 154 [.list 1 (ints xs), .fn g [] (ca.map PV.ptr)] (.int .i64 (idx p xs)) := by
  intro al
  refine contract_of hmix Try.func154 rfl (by kernel_rfl) (by kernel_rfl) (Nat.le_of_ble_eq_true rfl) (fun row h => by cases h) ?_
  have hty_u24 := ty_u24
  have hty_s24 := ty_s24
  have hty_c3 := ty_c3
  have hl1 : (ints xs).length = xs.length := by simp
  repeat' (first
      | (refine g_exec ?_; first | (refine g_move ?_; refine x_moveO _ rfl ?_) | (refine g_assign ?_; refine x_assignO _ rfl ?_) | (refine g_bin ?_; first | (refine x_add rfl rfl aO ?_) | (refine x_bin _ rfl rfl rfl ?_) | (refine x_strBin _ rfl rfl rfl ?_)) | (refine g_load ?_; first | (refine x_load_pc aA rfl ?_) | (refine x_load_oc _ aA rfl rfl aE rfl ?_) | (refine x_load_pa _ aA rfl aZ aL ?_) | (refine x_load_oa _ aA rfl rfl aE aZ aL ?_)) | (refine g_index ?_; first | (refine x_index_l _ aA rfl rfl aO aA ?_) | (refine x_index_o _ aA rfl rfl rfl rfl aO aO (by first | (rw [Nat.zero_add, Int.toNat_natCast]) | (rw [Nat.zero_add]) | rfl) ?_)) | (refine g_call ?_; first | (refine x_len_l aA rfl ?_) | (refine x_len_o aA rfl rfl ?_) | (refine x_len_n aA rfl ?_) | (refine x_len_s aA (evO_ok rfl) ?_)) | (refine x_nil (hK _ _ (.inl rfl) ?_); clear hK K) | (refine x_nil (hK _ _ (.inr (by kernel_rfl)) ?_); clear hK K))
      | (refine g_code ?_; first | (refine v_seq ?_) | (refine v_region (fun K hK => ?_)) | (refine v_block ?_) | (refine v_skip ?_) | (refine v_ret ?_) | (refine v_exit ?_) | (refine g_cond ?_; first | (refine v_cond_y rfl aD ?_) | (refine v_cond_n rfl aD ?_) | (refine v_condt rfl (fun h => ?_) (fun h => ?_) <;> (have h' := h; (try simp only [sx] at h')))))
      | (refine q_then ?_) | (refine q_then_r ?_) | (refine q_then_e ?_) | (refine q_blk_n ?_) | (refine q_blk_r ?_) | (refine q_blk_e ?_) | (refine q_blk_o rfl ?_) | (refine q_loop_r ?_) | (refine q_loop_e ?_) | (refine ret_n ?_))
  refine v_loopK [0, 1, 7] [] (fun i : Nat => [(8, .int .i64 i)]) (fun i : Nat => []) (fun i : Nat => i ≤ xs.length ∧ ∀ j, j < i → ∀ c, xs[j]? = some c → p c = false) (fun i : Nat => xs.length - i) (0) rfl rfl (fun _ => rfl) (fun _ => rfl) rfl (by refine ⟨?_, ?_, rfl, rfl⟩ <;> (repeat' (first | exact trivial | exact ⟨rfl, rfl⟩ | exact rfl | exact ⟨sub_fn, refs_fn⟩ | refine ⟨⟨rfl, rfl⟩, ?_⟩ | refine ⟨⟨sub_fn, refs_fn⟩, ?_⟩ | refine ⟨⟨rfl, fun h => Bool.noConfusion h⟩, ?_⟩ | refine ⟨⟨rfl, fun h => ?_⟩, ?_⟩ | refine ⟨rfl, ?_⟩ | refine ⟨?_, ?_⟩ | fail))) ⟨by omega, fun j hj => by omega⟩ (fun i hi => ?_)
  obtain ⟨hi1, hi2⟩ := hi
  rcases Nat.lt_or_ge i xs.length with hlt | hge
  · obtain ⟨a, hga⟩ := get_ex hlt
    have hx := ints_at hga
    have kg := hg a (get_mem hga)
    repeat' (first
      | (refine g_exec ?_; first | (refine g_move ?_; refine x_moveO _ rfl ?_) | (refine g_assign ?_; refine x_assignO _ rfl ?_) | (refine g_bin ?_; first | (refine x_add rfl rfl aO ?_) | (refine x_bin _ rfl rfl rfl ?_) | (refine x_strBin _ rfl rfl rfl ?_)) | (refine g_load ?_; first | (refine x_load_pc aA rfl ?_) | (refine x_load_oc _ aA rfl rfl aE rfl ?_) | (refine x_load_pa _ aA rfl aZ aL ?_) | (refine x_load_oa _ aA rfl rfl aE aZ aL ?_)) | (refine g_index ?_; first | (refine x_index_l _ aA rfl rfl aO aA ?_) | (refine x_index_o _ aA rfl rfl rfl rfl aO aO (by first | (rw [Nat.zero_add, Int.toNat_natCast]) | (rw [Nat.zero_add]) | rfl) ?_)) | (refine g_call ?_; first | (refine x_callG true (kg) rfl rfl rfl aS rfl aH ?_; simp only [cl]) | (refine x_call [] _ (kg) rfl rfl aS rfl aH ?_; simp only [cl]) | (refine x_len_l aA rfl ?_) | (refine x_len_o aA rfl rfl ?_) | (refine x_len_n aA rfl ?_) | (refine x_len_s aA (evO_ok rfl) ?_)) | (refine x_nil (hK _ _ (.inl rfl) ?_); clear hK K) | (refine x_nil (hK _ _ (.inr (by kernel_rfl)) ?_); clear hK K))
      | (refine g_code ?_; first | (refine v_seq ?_) | (refine v_region (fun K hK => ?_)) | (refine v_block ?_) | (refine v_skip ?_) | (refine v_ret ?_) | (refine v_exit ?_) | (refine g_cond ?_; first | (refine v_cond_y rfl aD ?_) | (refine v_cond_n rfl aD ?_) | (refine v_condt rfl (fun h => ?_) (fun h => ?_) <;> (have h' := h; (try simp only [sx] at h')))))
      | (refine q_then ?_) | (refine q_then_r ?_) | (refine q_then_e ?_) | (refine q_blk_n ?_) | (refine q_blk_r ?_) | (refine q_blk_e ?_) | (refine q_blk_o rfl ?_) | (refine q_loop_r ?_) | (refine q_loop_e ?_) | (refine ret_n ?_))
    · exact ret_int rfl (lookE_ok rfl) (idx_some hi2 hga aA).symm
    · refine q_next (i + 1) rfl (by refine ⟨?_, ?_, rfl, rfl⟩ <;> (repeat' (first | exact trivial | exact ⟨rfl, rfl⟩ | exact rfl | exact ⟨sub_fn, refs_fn⟩ | refine ⟨⟨rfl, rfl⟩, ?_⟩ | refine ⟨⟨sub_fn, refs_fn⟩, ?_⟩ | refine ⟨⟨rfl, fun h => Bool.noConfusion h⟩, ?_⟩ | refine ⟨⟨rfl, fun h => ?_⟩, ?_⟩ | refine ⟨rfl, ?_⟩ | refine ⟨?_, ?_⟩ | fail))) ⟨by omega, idx_step hi2 hga (by simpa using h)⟩ aO
  · repeat' (first
      | (refine g_exec ?_; first | (refine g_move ?_; refine x_moveO _ rfl ?_) | (refine g_assign ?_; refine x_assignO _ rfl ?_) | (refine g_bin ?_; first | (refine x_add rfl rfl aO ?_) | (refine x_bin _ rfl rfl rfl ?_) | (refine x_strBin _ rfl rfl rfl ?_)) | (refine g_load ?_; first | (refine x_load_pc aA rfl ?_) | (refine x_load_oc _ aA rfl rfl aE rfl ?_) | (refine x_load_pa _ aA rfl aZ aL ?_) | (refine x_load_oa _ aA rfl rfl aE aZ aL ?_)) | (refine g_index ?_; first | (refine x_index_l _ aA rfl rfl aO aA ?_) | (refine x_index_o _ aA rfl rfl rfl rfl aO aO (by first | (rw [Nat.zero_add, Int.toNat_natCast]) | (rw [Nat.zero_add]) | rfl) ?_)) | (refine g_call ?_; first | (refine x_len_l aA rfl ?_) | (refine x_len_o aA rfl rfl ?_) | (refine x_len_n aA rfl ?_) | (refine x_len_s aA (evO_ok rfl) ?_)) | (refine x_nil (hK _ _ (.inl rfl) ?_); clear hK K) | (refine x_nil (hK _ _ (.inr (by kernel_rfl)) ?_); clear hK K))
      | (refine g_code ?_; first | (refine v_seq ?_) | (refine v_region (fun K hK => ?_)) | (refine v_block ?_) | (refine v_skip ?_) | (refine v_ret ?_) | (refine v_exit ?_) | (refine g_cond ?_; first | (refine v_cond_y rfl aD ?_) | (refine v_cond_n rfl aD ?_) | (refine v_condt rfl (fun h => ?_) (fun h => ?_) <;> (have h' := h; (try simp only [sx] at h')))))
      | (refine q_then ?_) | (refine q_then_r ?_) | (refine q_then_e ?_) | (refine q_blk_n ?_) | (refine q_blk_r ?_) | (refine q_blk_e ?_) | (refine q_blk_o rfl ?_) | (refine q_loop_r ?_) | (refine q_loop_e ?_) | (refine ret_n ?_))
    exact ret_int rfl (lookE_ok rfl) (idx_none fun j hj => hi2 j aO).symm
theorem k_ContainsFuncInt (xs : List Int) (g : FuncId) (ca : List (List PV)) (p : Int → Bool) (hg : ∀ a ∈ xs, Con Try.prog g (.int .i64 a :: ca.map PV.ptr) (.bool (p a))) (hn : xs.length ≤ 1099511627776) :
    Con Try.prog 113 [.list 1 (ints xs), .fn g [] (ca.map PV.ptr)] (.bool (xs.any p)) := by
  intro al
  refine contract_of hmix Try.func113 rfl (by kernel_rfl) (by kernel_rfl) (Nat.le_of_ble_eq_true rfl) (fun row h => by cases h) ?_
  have hty_u24 := ty_u24
  have hty_s24 := ty_s24
  repeat' (first
      | (refine g_exec ?_; first | (refine g_move ?_; refine x_moveO _ rfl ?_) | (refine g_assign ?_; refine x_assignO _ rfl ?_) | (refine g_bin ?_; refine x_bin _ rfl rfl rfl ?_) | (refine g_call ?_; refine x_callG false (k_IndexFuncInt xs g ca p hg hn) rfl rfl rfl aS rfl aH ?_; simp only [cl]) | (refine x_nil (hK _ _ (.inl rfl) ?_); clear hK K) | (refine x_nil (hK _ _ (.inr (by kernel_rfl)) ?_); clear hK K))
      | (refine g_code ?_; first | (refine v_seq ?_) | (refine v_region (fun K hK => ?_)) | (refine v_block ?_) | (refine v_skip ?_) | (refine v_ret ?_) | (refine v_exit ?_))
      | (refine q_then ?_) | (refine q_then_r ?_) | (refine q_then_e ?_) | (refine q_blk_n ?_) | (refine q_blk_r ?_) | (refine q_blk_e ?_) | (refine q_blk_o rfl ?_) | (refine q_loop_r ?_) | (refine q_loop_e ?_) | (refine ret_n ?_))
  refine ret_bool rfl (lookE_ok rfl) ?_
  rw [← idx_any]
theorem k_all1Int (a : Int) (g : FuncId) (ca : List (List PV)) (b : Bool) (hg : Con Try.prog g (.int .i64 a :: ca.map PV.ptr) (.bool b)) :
    Con Try.prog 114 [.int .i64 a, .ptr [.fn g [] (ca.map PV.ptr)]] (.bool (!b)) := by
  intro al
  refine contract_of hmix Try.func114 rfl (by kernel_rfl) (by kernel_rfl) (Nat.le_of_ble_eq_true rfl) (fun row h => by cases h) ?_
  have hty_c68 := ty_c68
  have kg := hg
  repeat' (first
      | (refine g_exec ?_; first | (refine g_move ?_; refine x_moveO _ rfl ?_) | (refine g_assign ?_; refine x_assignO _ rfl ?_) | (refine g_un ?_; first | (refine x_not rfl ?_) | (refine x_neg rfl aO ?_)) | (refine g_load ?_; first | (refine x_load_pc aA rfl ?_) | (refine x_load_oc _ aA rfl rfl aE rfl ?_) | (refine x_load_pa _ aA rfl aZ aL ?_) | (refine x_load_oa _ aA rfl rfl aE aZ aL ?_)) | (refine g_call ?_; first | (refine x_callG true (kg) rfl rfl rfl aS rfl aH ?_; simp only [cl]) | (refine x_call [] _ (kg) rfl rfl aS rfl aH ?_; simp only [cl])) | (refine x_nil (hK _ _ (.inl rfl) ?_); clear hK K) | (refine x_nil (hK _ _ (.inr (by kernel_rfl)) ?_); clear hK K))
      | (refine g_code ?_; first | (refine v_seq ?_) | (refine v_region (fun K hK => ?_)) | (refine v_block ?_) | (refine v_skip ?_) | (refine v_ret ?_) | (refine v_exit ?_))
      | (refine q_then ?_) | (refine q_then_r ?_) | (refine q_then_e ?_) | (refine q_blk_n ?_) | (refine q_blk_r ?_) | (refine q_blk_e ?_) | (refine q_blk_o rfl ?_) | (refine q_loop_r ?_) | (refine q_loop_e ?_) | (refine ret_n ?_))
  exact ret_bool rfl (lookE_ok rfl) rfl
theorem k_allInt (xs : List Int) (g : FuncId) (ca : List (List PV)) (p : Int → Bool) (hg : ∀ a ∈ xs, Con Try.prog g (.int .i64 a :: ca.map PV.ptr) (.bool (p a))) (hn : xs.length ≤ 1099511627776) :
    Con Try.prog 58 [.list 1 (ints xs), .fn g [] (ca.map PV.ptr)] (.bool (xs.all p)) := by
  intro al
  refine contract_of hmix Try.func58 rfl (by kernel_rfl) (by kernel_rfl) (Nat.le_of_ble_eq_true rfl) (fun row h => by cases h) ?_
  have hty_u24 := ty_u24
  have hty_s24 := ty_s24
  repeat' (first
      | (refine g_exec ?_; first | (refine g_move ?_; refine x_moveO _ rfl ?_) | (refine g_assign ?_; refine x_assignO _ rfl ?_) | (refine g_un ?_; first | (refine x_not rfl ?_) | (refine x_neg rfl aO ?_)) | (refine g_call ?_; refine x_callG true (k_ContainsFuncInt xs 114 [[.fn g [] (ca.map PV.ptr)]] (fun a => !p a) (fun a ha => k_all1Int a g ca (p a) (hg a ha)) hn) rfl rfl rfl aS rfl aH ?_; simp only [cl]) | (refine x_boxO _ _ rfl rfl rfl rfl ?_) | (refine x_mkfn _ _ rfl rfl ?_) | (refine x_nil (hK _ _ (.inl rfl) ?_); clear hK K) | (refine x_nil (hK _ _ (.inr (by kernel_rfl)) ?_); clear hK K))
      | (refine g_code ?_; first | (refine v_seq ?_) | (refine v_region (fun K hK => ?_)) | (refine v_block ?_) | (refine v_skip ?_) | (refine v_ret ?_) | (refine v_exit ?_))
      | (refine q_then ?_) | (refine q_then_r ?_) | (refine q_then_e ?_) | (refine q_blk_n ?_) | (refine q_blk_r ?_) | (refine q_blk_e ?_) | (refine q_blk_o rfl ?_) | (refine q_loop_r ?_) | (refine q_loop_e ?_) | (refine ret_n ?_))
  refine ret_bool rfl (lookE_ok rfl) ?_
  rw [List.all_eq_not_any_not]
theorem k_filterInt (xs : List Int) (g : FuncId) (ca : List (List PV)) (p : Int → Bool) (hg : ∀ a ∈ xs, Con Try.prog g (.int .i64 a :: ca.map PV.ptr) (.bool (p a))) (hn : xs.length ≤ 1099511627776) :
    Con Try.prog 65 [.list 1 (ints xs), .fn g [] (ca.map PV.ptr)] (.olist 3 1 (ints (xs.filter p))) := by
  intro al
  refine contract_of hmix Try.func65 rfl (by kernel_rfl) (by kernel_rfl) (Nat.le_of_ble_eq_true rfl) (fun row h => by cases h) ?_
  have hty_s24 := ty_s24
  have hty_u24 := ty_u24
  have hty_c3 := ty_c3
  have hl1 : (ints xs).length = xs.length := by simp
  repeat' (first
      | (refine g_exec ?_; first | (refine g_move ?_; refine x_moveO _ rfl ?_) | (refine g_assign ?_; refine x_assignO _ rfl ?_) | (refine g_bin ?_; first | (refine x_add rfl rfl aO ?_) | (refine x_bin _ rfl rfl rfl ?_) | (refine x_strBin _ rfl rfl rfl ?_)) | (refine g_load ?_; first | (refine x_load_pc aA rfl ?_) | (refine x_load_oc _ aA rfl rfl aE rfl ?_) | (refine x_load_pa _ aA rfl aZ aL ?_) | (refine x_load_oa _ aA rfl rfl aE aZ aL ?_)) | (refine g_index ?_; first | (refine x_index_l _ aA rfl rfl aO aA ?_) | (refine x_index_o _ aA rfl rfl rfl rfl aO aO (by first | (rw [Nat.zero_add, Int.toNat_natCast]) | (rw [Nat.zero_add]) | rfl) ?_)) | (refine g_call ?_; first | (refine x_len_l aA rfl ?_) | (refine x_len_o aA rfl rfl ?_) | (refine x_len_n aA rfl ?_) | (refine x_len_s aA (evO_ok rfl) ?_) | (refine x_appOO _ _ aA rfl (lookM (by rfl)) rfl (lookM (by rfl)) rfl aN ⟨rfl, rfl, by decide, by decide⟩ (by first | rfl | omega | (simp; done) | (simp; omega) | fail) ⟨by first | (simp only [List.length_cons, List.length_nil]; omega) | omega | fail, by decide⟩ rfl (by first | (first | (simp only [lx, Nat.reduceAdd]; first | done | rfl) | fail) | rfl) aP ?_) | (refine x_appCO _ _ aA rfl rfl (lookM (by rfl)) ⟨rfl, by decide⟩ aN (by first | exact Nat.succ_pos _ | omega | (simp; done)) ⟨by first | (simp only [List.length_cons, List.length_nil]; omega) | omega | fail, by decide⟩ rfl rfl aP ?_) | (refine x_appNO _ aA rfl rfl (lookM (by rfl)) ⟨rfl, by decide⟩ aN ⟨by first | (simp only [List.length_cons, List.length_nil]; omega) | omega | fail, by decide⟩ rfl aP ?_) | (refine x_app_ol _ aA rfl rfl rfl ⟨rfl, rfl, rfl, by decide, by decide⟩ (by first | rfl | (simp; done) | fail) ⟨by omega, by decide⟩ rfl aL (by first | (rw [Nat.zero_add]) | rfl) ?_)) | (refine x_buildSliceO aA rfl rfl rfl ?_) | (refine x_nil (hK _ _ (.inl rfl) ?_); clear hK K) | (refine x_nil (hK _ _ (.inr (by kernel_rfl)) ?_); clear hK K))
      | (refine g_code ?_; first | (refine v_seq ?_) | (refine v_region (fun K hK => ?_)) | (refine v_block ?_) | (refine v_skip ?_) | (refine v_ret ?_) | (refine v_exit ?_) | (refine g_cond ?_; first | (refine v_cond_y rfl aD ?_) | (refine v_cond_n rfl aD ?_) | (refine v_condt rfl (fun h => ?_) (fun h => ?_) <;> (have h' := h; (try simp only [sx] at h')))))
      | (refine q_then ?_) | (refine q_then_r ?_) | (refine q_then_e ?_) | (refine q_blk_n ?_) | (refine q_blk_r ?_) | (refine q_blk_e ?_) | (refine q_blk_o rfl ?_) | (refine q_loop_r ?_) | (refine q_loop_e ?_) | (refine ret_n ?_))
  refine v_loopK [1, 9, 10] [] (fun q : Nat × Nat × List (List PV) => [(5, .osl (1001, 0) 0 q.2.1), (11, .int .i64 q.1)]) (fun q : Nat × Nat × List (List PV) => [((1001, 0), some ⟨3, 1, q.2.2, false⟩)]) (fun q : Nat × Nat × List (List PV) => q.1 ≤ xs.length ∧ q.2.2 = ints ((xs.take q.1).filter p) ∧ q.2.2.length = q.2.1) (fun q : Nat × Nat × List (List PV) => xs.length - q.1) ((0, 0, [])) rfl rfl (fun _ => rfl) (fun _ => rfl) rfl (by refine ⟨?_, ?_, rfl, rfl⟩ <;> (repeat' (first | exact trivial | exact ⟨rfl, rfl⟩ | exact rfl | exact ⟨sub_fn, refs_fn⟩ | refine ⟨⟨rfl, rfl⟩, ?_⟩ | refine ⟨⟨sub_fn, refs_fn⟩, ?_⟩ | refine ⟨⟨rfl, fun h => Bool.noConfusion h⟩, ?_⟩ | refine ⟨⟨rfl, fun h => ?_⟩, ?_⟩ | refine ⟨rfl, ?_⟩ | refine ⟨?_, ?_⟩ | fail))) ⟨by simp, by simp, rfl⟩ (fun q hq => ?_)
  obtain ⟨i, m, es⟩ := q
  obtain ⟨hi1, hi2, hl⟩ := hq
  simp only at hi1 hi2 hl
  have hle : es.length ≤ i := by rw [hi2]; simp only [List.length_map]; exact Nat.le_trans (List.length_filter_le _ _) (by rw [List.length_take]; omega)
  rcases Nat.lt_or_ge i xs.length with hlt | hge
  · obtain ⟨a, hga⟩ := get_ex hlt
    have hx := ints_at hga
    have kg := hg a (get_mem hga)
    dsimp only
    repeat' (first
      | (refine g_exec ?_; first | (refine g_move ?_; refine x_moveO _ rfl ?_) | (refine g_assign ?_; refine x_assignO _ rfl ?_) | (refine g_bin ?_; first | (refine x_add rfl rfl aO ?_) | (refine x_bin _ rfl rfl rfl ?_) | (refine x_strBin _ rfl rfl rfl ?_)) | (refine g_load ?_; first | (refine x_load_pc aA rfl ?_) | (refine x_load_oc _ aA rfl rfl aE rfl ?_) | (refine x_load_pa _ aA rfl aZ aL ?_) | (refine x_load_oa _ aA rfl rfl aE aZ aL ?_)) | (refine g_index ?_; first | (refine x_index_l _ aA rfl rfl aO aA ?_) | (refine x_index_o _ aA rfl rfl rfl rfl aO aO (by first | (rw [Nat.zero_add, Int.toNat_natCast]) | (rw [Nat.zero_add]) | rfl) ?_)) | (refine g_call ?_; first | (refine x_callG true (kg) rfl rfl rfl aS rfl aH ?_; simp only [cl]) | (refine x_call [] _ (kg) rfl rfl aS rfl aH ?_; simp only [cl]) | (refine x_len_l aA rfl ?_) | (refine x_len_o aA rfl rfl ?_) | (refine x_len_n aA rfl ?_) | (refine x_len_s aA (evO_ok rfl) ?_) | (refine x_appOO _ _ aA rfl (lookM (by rfl)) rfl (lookM (by rfl)) rfl aN ⟨rfl, rfl, by decide, by decide⟩ (by first | rfl | omega | (simp; done) | (simp; omega) | fail) ⟨by first | (simp only [List.length_cons, List.length_nil]; omega) | omega | fail, by decide⟩ rfl (by first | (first | (simp only [lx, Nat.reduceAdd]; first | done | rfl) | fail) | rfl) aP ?_) | (refine x_appCO _ _ aA rfl rfl (lookM (by rfl)) ⟨rfl, by decide⟩ aN (by first | exact Nat.succ_pos _ | omega | (simp; done)) ⟨by first | (simp only [List.length_cons, List.length_nil]; omega) | omega | fail, by decide⟩ rfl rfl aP ?_) | (refine x_appNO _ aA rfl rfl (lookM (by rfl)) ⟨rfl, by decide⟩ aN ⟨by first | (simp only [List.length_cons, List.length_nil]; omega) | omega | fail, by decide⟩ rfl aP ?_) | (refine x_app_ol _ aA rfl rfl rfl ⟨rfl, rfl, rfl, by decide, by decide⟩ (by first | rfl | (simp; done) | fail) ⟨by omega, by decide⟩ rfl aL (by first | (rw [Nat.zero_add]) | rfl) ?_)) | (refine x_buildSliceO aA rfl rfl rfl ?_) | (refine x_nil (hK _ _ (.inl rfl) ?_); clear hK K) | (refine x_nil (hK _ _ (.inr (by kernel_rfl)) ?_); clear hK K))
      | (refine g_code ?_; first | (refine v_seq ?_) | (refine v_region (fun K hK => ?_)) | (refine v_block ?_) | (refine v_skip ?_) | (refine v_ret ?_) | (refine v_exit ?_) | (refine g_cond ?_; first | (refine v_cond_y rfl aD ?_) | (refine v_cond_n rfl aD ?_) | (refine v_condt rfl (fun h => ?_) (fun h => ?_) <;> (have h' := h; (try simp only [sx] at h')))))
      | (refine q_then ?_) | (refine q_then_r ?_) | (refine q_then_e ?_) | (refine q_blk_n ?_) | (refine q_blk_r ?_) | (refine q_blk_e ?_) | (refine q_blk_o rfl ?_) | (refine q_loop_r ?_) | (refine q_loop_e ?_) | (refine ret_n ?_))
    · refine q_next (i + 1, m + 1, es ++ [[.int .i64 a]]) rfl (by refine ⟨?_, ?_, rfl, rfl⟩ <;> (repeat' (first | exact trivial | exact ⟨rfl, rfl⟩ | exact rfl | exact ⟨sub_fn, refs_fn⟩ | refine ⟨⟨rfl, rfl⟩, ?_⟩ | refine ⟨⟨sub_fn, refs_fn⟩, ?_⟩ | refine ⟨⟨rfl, fun h => Bool.noConfusion h⟩, ?_⟩ | refine ⟨⟨rfl, fun h => ?_⟩, ?_⟩ | refine ⟨rfl, ?_⟩ | refine ⟨?_, ?_⟩ | fail))) ⟨by simp only; omega, ?_, by simp [hl]⟩ (by simp only; omega)
      simp only [filter_take_t hga (show p a = true by assumption), ints_snoc, hi2, List.map_cons, List.map_nil]
    · refine q_next (i + 1, m, es) rfl (by refine ⟨?_, ?_, rfl, rfl⟩ <;> (repeat' (first | exact trivial | exact ⟨rfl, rfl⟩ | exact rfl | exact ⟨sub_fn, refs_fn⟩ | refine ⟨⟨rfl, rfl⟩, ?_⟩ | refine ⟨⟨sub_fn, refs_fn⟩, ?_⟩ | refine ⟨⟨rfl, fun h => Bool.noConfusion h⟩, ?_⟩ | refine ⟨⟨rfl, fun h => ?_⟩, ?_⟩ | refine ⟨rfl, ?_⟩ | refine ⟨?_, ?_⟩ | fail))) ⟨by simp only; omega, ?_, hl⟩ (by simp only; omega)
      simp only [filter_take_f hga (show p a = false by assumption), hi2]
  · repeat' (first
      | (refine g_exec ?_; first | (refine g_move ?_; refine x_moveO _ rfl ?_) | (refine g_assign ?_; refine x_assignO _ rfl ?_) | (refine g_bin ?_; first | (refine x_add rfl rfl aO ?_) | (refine x_bin _ rfl rfl rfl ?_) | (refine x_strBin _ rfl rfl rfl ?_)) | (refine g_load ?_; first | (refine x_load_pc aA rfl ?_) | (refine x_load_oc _ aA rfl rfl aE rfl ?_) | (refine x_load_pa _ aA rfl aZ aL ?_) | (refine x_load_oa _ aA rfl rfl aE aZ aL ?_)) | (refine g_index ?_; first | (refine x_index_l _ aA rfl rfl aO aA ?_) | (refine x_index_o _ aA rfl rfl rfl rfl aO aO (by first | (rw [Nat.zero_add, Int.toNat_natCast]) | (rw [Nat.zero_add]) | rfl) ?_)) | (refine g_call ?_; first | (refine x_len_l aA rfl ?_) | (refine x_len_o aA rfl rfl ?_) | (refine x_len_n aA rfl ?_) | (refine x_len_s aA (evO_ok rfl) ?_) | (refine x_appOO _ _ aA rfl (lookM (by rfl)) rfl (lookM (by rfl)) rfl aN ⟨rfl, rfl, by decide, by decide⟩ (by first | rfl | omega | (simp; done) | (simp; omega) | fail) ⟨by first | (simp only [List.length_cons, List.length_nil]; omega) | omega | fail, by decide⟩ rfl (by first | (first | (simp only [lx, Nat.reduceAdd]; first | done | rfl) | fail) | rfl) aP ?_) | (refine x_appCO _ _ aA rfl rfl (lookM (by rfl)) ⟨rfl, by decide⟩ aN (by first | exact Nat.succ_pos _ | omega | (simp; done)) ⟨by first | (simp only [List.length_cons, List.length_nil]; omega) | omega | fail, by decide⟩ rfl rfl aP ?_) | (refine x_appNO _ aA rfl rfl (lookM (by rfl)) ⟨rfl, by decide⟩ aN ⟨by first | (simp only [List.length_cons, List.length_nil]; omega) | omega | fail, by decide⟩ rfl aP ?_) | (refine x_app_ol _ aA rfl rfl rfl ⟨rfl, rfl, rfl, by decide, by decide⟩ (by first | rfl | (simp; done) | fail) ⟨by omega, by decide⟩ rfl aL (by first | (rw [Nat.zero_add]) | rfl) ?_)) | (refine x_buildSliceO aA rfl rfl rfl ?_) | (refine x_nil (hK _ _ (.inl rfl) ?_); clear hK K) | (refine x_nil (hK _ _ (.inr (by kernel_rfl)) ?_); clear hK K))
      | (refine g_code ?_; first | (refine v_seq ?_) | (refine v_region (fun K hK => ?_)) | (refine v_block ?_) | (refine v_skip ?_) | (refine v_ret ?_) | (refine v_exit ?_) | (refine g_cond ?_; first | (refine v_cond_y rfl aD ?_) | (refine v_cond_n rfl aD ?_) | (refine v_condt rfl (fun h => ?_) (fun h => ?_) <;> (have h' := h; (try simp only [sx] at h')))))
      | (refine q_then ?_) | (refine q_then_r ?_) | (refine q_then_e ?_) | (refine q_blk_n ?_) | (refine q_blk_r ?_) | (refine q_blk_e ?_) | (refine q_blk_o rfl ?_) | (refine q_loop_r ?_) | (refine q_loop_e ?_) | (refine ret_n ?_))
    have : xs.take i = xs := take_all aO
    rw [this] at hi2
    subst hi2
    exact ret_list rfl (lookE_ok (by rfl)) (by rfl) (by decide) hl.symm (ints_flat _) rfl
end Go.Vs
set_option linter.unusedVariables false
set_option linter.unusedSimpArgs false
set_option maxRecDepth 100000
set_option maxHeartbeats 4000000
namespace Go.Vs
open Go.Proofs
attribute [local irreducible] exec vwp thenQ blkQ loopQ RetPost
theorem not_mem_of {xs : List Int} {n : Int} (h : ∀ y ∈ xs, y ≠ n) : n ∉ xs := fun hm => h n hm rfl
theorem k_l1Has (xs : List Int) (n : Int) (hn : xs.length ≤ 1099511627776) : Con Try.prog 75 [.list 1 (ints xs), .int .i64 n] (.bool (decide (n ∈ xs))) := by
  intro al
  refine contract_of hmix Try.func75 rfl (by kernel_rfl) (by kernel_rfl) (Nat.le_of_ble_eq_true rfl) (fun row h => by cases h) ?_
  have hty_u24 := ty_u24
  have hty_s24 := ty_s24
  have hty_c3 := ty_c3
  have hl1 : (ints xs).length = xs.length := by simp
  repeat' (first
      | (refine g_exec ?_; first | (refine g_move ?_; refine x_moveO _ rfl ?_) | (refine g_assign ?_; refine x_assignO _ rfl ?_) | (refine g_bin ?_; first | (refine x_add rfl rfl aO ?_) | (refine x_bin _ rfl rfl rfl ?_) | (refine x_boolEq aA rfl rfl ?_) | (refine x_strBin _ rfl rfl rfl ?_)) | (refine g_load ?_; first | (refine x_load_pc aA rfl ?_) | (refine x_load_oc _ aA rfl rfl aE rfl ?_) | (refine x_load_pa _ aA rfl aZ aL ?_) | (refine x_load_oa _ aA rfl rfl aE aZ aL ?_)) | (refine g_index ?_; first | (refine x_index_l _ aA rfl rfl aO aA ?_) | (refine x_index_o _ aA rfl rfl rfl rfl aO aO (by first | (rw [Nat.zero_add, Int.toNat_natCast]) | (rw [Nat.zero_add]) | rfl) ?_)) | (refine g_call ?_; first | (refine x_len_l aA rfl ?_) | (refine x_len_o aA rfl rfl ?_) | (refine x_len_n aA rfl ?_) | (refine x_len_s aA (evO_ok rfl) ?_)) | (refine x_nil (hK _ _ (.inl rfl) ?_); clear hK K) | (refine x_nil (hK _ _ (.inr (by kernel_rfl)) ?_); clear hK K))
      | (refine g_code ?_; first | (refine v_seq ?_) | (refine v_region (fun K hK => ?_)) | (refine v_block ?_) | (refine v_skip ?_) | (refine v_ret ?_) | (refine v_exit ?_) | (refine g_cond ?_; first | (refine v_cond_y rfl aD ?_) | (refine v_cond_n rfl aD ?_) | (refine v_condt rfl (fun h => ?_) (fun h => ?_) <;> (have h' := h; (try simp only [sx] at h')))))
      | (refine q_then ?_) | (refine q_then_r ?_) | (refine q_then_e ?_) | (refine q_blk_n ?_) | (refine q_blk_r ?_) | (refine q_blk_e ?_) | (refine q_blk_o rfl ?_) | (refine q_loop_r ?_) | (refine q_loop_e ?_) | (refine ret_n ?_))
  refine v_loopK [0, 1] [] (fun i : Nat => [(5, .int .i64 i)]) (fun i : Nat => []) (fun i : Nat => i ≤ xs.length ∧ ∀ y ∈ xs.take i, y ≠ n) (fun i : Nat => xs.length - i) (0) rfl rfl (fun _ => rfl) (fun _ => rfl) rfl (by refine ⟨?_, ?_, rfl, rfl⟩ <;> (repeat' (first | exact trivial | exact ⟨rfl, rfl⟩ | exact rfl | exact ⟨sub_fn, refs_fn⟩ | refine ⟨⟨rfl, rfl⟩, ?_⟩ | refine ⟨⟨sub_fn, refs_fn⟩, ?_⟩ | refine ⟨⟨rfl, fun h => Bool.noConfusion h⟩, ?_⟩ | refine ⟨⟨rfl, fun h => ?_⟩, ?_⟩ | refine ⟨rfl, ?_⟩ | refine ⟨?_, ?_⟩ | fail))) ⟨by omega, fun y hy => by simp at hy⟩ (fun i hi => ?_)
  obtain ⟨hi1, hi2⟩ := hi
  rcases Nat.lt_or_ge i xs.length with hlt | hge
  · obtain ⟨a, hga⟩ := get_ex hlt
    have hx := ints_at hga
    repeat' (first
      | (refine g_exec ?_; first | (refine g_move ?_; refine x_moveO _ rfl ?_) | (refine g_assign ?_; refine x_assignO _ rfl ?_) | (refine g_bin ?_; first | (refine x_add rfl rfl aO ?_) | (refine x_bin _ rfl rfl rfl ?_) | (refine x_boolEq aA rfl rfl ?_) | (refine x_strBin _ rfl rfl rfl ?_)) | (refine g_load ?_; first | (refine x_load_pc aA rfl ?_) | (refine x_load_oc _ aA rfl rfl aE rfl ?_) | (refine x_load_pa _ aA rfl aZ aL ?_) | (refine x_load_oa _ aA rfl rfl aE aZ aL ?_)) | (refine g_index ?_; first | (refine x_index_l _ aA rfl rfl aO aA ?_) | (refine x_index_o _ aA rfl rfl rfl rfl aO aO (by first | (rw [Nat.zero_add, Int.toNat_natCast]) | (rw [Nat.zero_add]) | rfl) ?_)) | (refine g_call ?_; first | (refine x_len_l aA rfl ?_) | (refine x_len_o aA rfl rfl ?_) | (refine x_len_n aA rfl ?_) | (refine x_len_s aA (evO_ok rfl) ?_)) | (refine x_nil (hK _ _ (.inl rfl) ?_); clear hK K) | (refine x_nil (hK _ _ (.inr (by kernel_rfl)) ?_); clear hK K))
      | (refine g_code ?_; first | (refine v_seq ?_) | (refine v_region (fun K hK => ?_)) | (refine v_block ?_) | (refine v_skip ?_) | (refine v_ret ?_) | (refine v_exit ?_) | (refine g_cond ?_; first | (refine v_cond_y rfl aD ?_) | (refine v_cond_n rfl aD ?_) | (refine v_condt rfl (fun h => ?_) (fun h => ?_) <;> (have h' := h; (try simp only [sx] at h')))))
      | (refine q_then ?_) | (refine q_then_r ?_) | (refine q_then_e ?_) | (refine q_blk_n ?_) | (refine q_blk_r ?_) | (refine q_blk_e ?_) | (refine q_blk_o rfl ?_) | (refine q_loop_r ?_) | (refine q_loop_e ?_) | (refine ret_n ?_))
    · refine ret_bool rfl (lookE_ok rfl) ?_
      have : n ∈ xs := by rw [← h']; exact get_mem hga
      simp [this]
    · refine q_next (i + 1) rfl (by refine ⟨?_, ?_, rfl, rfl⟩ <;> (repeat' (first | exact trivial | exact ⟨rfl, rfl⟩ | exact rfl | exact ⟨sub_fn, refs_fn⟩ | refine ⟨⟨rfl, rfl⟩, ?_⟩ | refine ⟨⟨sub_fn, refs_fn⟩, ?_⟩ | refine ⟨⟨rfl, fun h => Bool.noConfusion h⟩, ?_⟩ | refine ⟨⟨rfl, fun h => ?_⟩, ?_⟩ | refine ⟨rfl, ?_⟩ | refine ⟨?_, ?_⟩ | fail))) ⟨by omega, all_take_succ hga hi2 (by simpa using h')⟩ aO
  · repeat' (first
      | (refine g_exec ?_; first | (refine g_move ?_; refine x_moveO _ rfl ?_) | (refine g_assign ?_; refine x_assignO _ rfl ?_) | (refine g_bin ?_; first | (refine x_add rfl rfl aO ?_) | (refine x_bin _ rfl rfl rfl ?_) | (refine x_boolEq aA rfl rfl ?_) | (refine x_strBin _ rfl rfl rfl ?_)) | (refine g_load ?_; first | (refine x_load_pc aA rfl ?_) | (refine x_load_oc _ aA rfl rfl aE rfl ?_) | (refine x_load_pa _ aA rfl aZ aL ?_) | (refine x_load_oa _ aA rfl rfl aE aZ aL ?_)) | (refine g_index ?_; first | (refine x_index_l _ aA rfl rfl aO aA ?_) | (refine x_index_o _ aA rfl rfl rfl rfl aO aO (by first | (rw [Nat.zero_add, Int.toNat_natCast]) | (rw [Nat.zero_add]) | rfl) ?_)) | (refine g_call ?_; first | (refine x_len_l aA rfl ?_) | (refine x_len_o aA rfl rfl ?_) | (refine x_len_n aA rfl ?_) | (refine x_len_s aA (evO_ok rfl) ?_)) | (refine x_nil (hK _ _ (.inl rfl) ?_); clear hK K) | (refine x_nil (hK _ _ (.inr (by kernel_rfl)) ?_); clear hK K))
      | (refine g_code ?_; first | (refine v_seq ?_) | (refine v_region (fun K hK => ?_)) | (refine v_block ?_) | (refine v_skip ?_) | (refine v_ret ?_) | (refine v_exit ?_) | (refine g_cond ?_; first | (refine v_cond_y rfl aD ?_) | (refine v_cond_n rfl aD ?_) | (refine v_condt rfl (fun h => ?_) (fun h => ?_) <;> (have h' := h; (try simp only [sx] at h')))))
      | (refine q_then ?_) | (refine q_then_r ?_) | (refine q_then_e ?_) | (refine q_blk_n ?_) | (refine q_blk_r ?_) | (refine q_blk_e ?_) | (refine q_blk_o rfl ?_) | (refine q_loop_r ?_) | (refine q_loop_e ?_) | (refine ret_n ?_))
    refine ret_bool rfl (lookE_ok rfl) ?_
    rw [take_all hge] at hi2
    simp [not_mem_of hi2]
theorem k_IndexInt (xs : List Int) (n : Int) (hn : xs.length ≤ 1099511627776) : Con Try.prog 156 [.list 1 (ints xs), .int .i64 n] (.int .i64 (idx (fun a => decide (n = a)) xs)) := by
  intro al
  refine contract_of hmix Try.func156 rfl (by kernel_rfl) (by kernel_rfl) (Nat.le_of_ble_eq_true rfl) (fun row h => by cases h) ?_
  have hty_u24 := ty_u24
  have hty_s24 := ty_s24
  have hty_c3 := ty_c3
  have hl1 : (ints xs).length = xs.length := by simp
  repeat' (first
      | (refine g_exec ?_; first | (refine g_move ?_; refine x_moveO _ rfl ?_) | (refine g_assign ?_; refine x_assignO _ rfl ?_) | (refine g_bin ?_; first | (refine x_add rfl rfl aO ?_) | (refine x_bin _ rfl rfl rfl ?_) | (refine x_boolEq aA rfl rfl ?_) | (refine x_strBin _ rfl rfl rfl ?_)) | (refine g_load ?_; first | (refine x_load_pc aA rfl ?_) | (refine x_load_oc _ aA rfl rfl aE rfl ?_) | (refine x_load_pa _ aA rfl aZ aL ?_) | (refine x_load_oa _ aA rfl rfl aE aZ aL ?_)) | (refine g_index ?_; first | (refine x_index_l _ aA rfl rfl aO aA ?_) | (refine x_index_o _ aA rfl rfl rfl rfl aO aO (by first | (rw [Nat.zero_add, Int.toNat_natCast]) | (rw [Nat.zero_add]) | rfl) ?_)) | (refine g_call ?_; first | (refine x_len_l aA rfl ?_) | (refine x_len_o aA rfl rfl ?_) | (refine x_len_n aA rfl ?_) | (refine x_len_s aA (evO_ok rfl) ?_)) | (refine x_nil (hK _ _ (.inl rfl) ?_); clear hK K) | (refine x_nil (hK _ _ (.inr (by kernel_rfl)) ?_); clear hK K))
      | (refine g_code ?_; first | (refine v_seq ?_) | (refine v_region (fun K hK => ?_)) | (refine v_block ?_) | (refine v_skip ?_) | (refine v_ret ?_) | (refine v_exit ?_) | (refine g_cond ?_; first | (refine v_cond_y rfl aD ?_) | (refine v_cond_n rfl aD ?_) | (refine v_condt rfl (fun h => ?_) (fun h => ?_) <;> (have h' := h; (try simp only [sx] at h')))))
      | (refine q_then ?_) | (refine q_then_r ?_) | (refine q_then_e ?_) | (refine q_blk_n ?_) | (refine q_blk_r ?_) | (refine q_blk_e ?_) | (refine q_blk_o rfl ?_) | (refine q_loop_r ?_) | (refine q_loop_e ?_) | (refine ret_n ?_))
  refine v_loopK [0, 1, 7] [] (fun i : Nat => [(8, .int .i64 i)]) (fun i : Nat => []) (fun i : Nat => i ≤ xs.length ∧ ∀ j, j < i → ∀ c, xs[j]? = some c → decide (n = c) = false) (fun i : Nat => xs.length - i) (0) rfl rfl (fun _ => rfl) (fun _ => rfl) rfl (by refine ⟨?_, ?_, rfl, rfl⟩ <;> (repeat' (first | exact trivial | exact ⟨rfl, rfl⟩ | exact rfl | exact ⟨sub_fn, refs_fn⟩ | refine ⟨⟨rfl, rfl⟩, ?_⟩ | refine ⟨⟨sub_fn, refs_fn⟩, ?_⟩ | refine ⟨⟨rfl, fun h => Bool.noConfusion h⟩, ?_⟩ | refine ⟨⟨rfl, fun h => ?_⟩, ?_⟩ | refine ⟨rfl, ?_⟩ | refine ⟨?_, ?_⟩ | fail))) ⟨by omega, fun j hj => by omega⟩ (fun i hi => ?_)
  obtain ⟨hi1, hi2⟩ := hi
  rcases Nat.lt_or_ge i xs.length with hlt | hge
  · obtain ⟨a, hga⟩ := get_ex hlt
    have hx := ints_at hga
    repeat' (first
      | (refine g_exec ?_; first | (refine g_move ?_; refine x_moveO _ rfl ?_) | (refine g_assign ?_; refine x_assignO _ rfl ?_) | (refine g_bin ?_; first | (refine x_add rfl rfl aO ?_) | (refine x_bin _ rfl rfl rfl ?_) | (refine x_boolEq aA rfl rfl ?_) | (refine x_strBin _ rfl rfl rfl ?_)) | (refine g_load ?_; first | (refine x_load_pc aA rfl ?_) | (refine x_load_oc _ aA rfl rfl aE rfl ?_) | (refine x_load_pa _ aA rfl aZ aL ?_) | (refine x_load_oa _ aA rfl rfl aE aZ aL ?_)) | (refine g_index ?_; first | (refine x_index_l _ aA rfl rfl aO aA ?_) | (refine x_index_o _ aA rfl rfl rfl rfl aO aO (by first | (rw [Nat.zero_add, Int.toNat_natCast]) | (rw [Nat.zero_add]) | rfl) ?_)) | (refine g_call ?_; first | (refine x_len_l aA rfl ?_) | (refine x_len_o aA rfl rfl ?_) | (refine x_len_n aA rfl ?_) | (refine x_len_s aA (evO_ok rfl) ?_)) | (refine x_nil (hK _ _ (.inl rfl) ?_); clear hK K) | (refine x_nil (hK _ _ (.inr (by kernel_rfl)) ?_); clear hK K))
      | (refine g_code ?_; first | (refine v_seq ?_) | (refine v_region (fun K hK => ?_)) | (refine v_block ?_) | (refine v_skip ?_) | (refine v_ret ?_) | (refine v_exit ?_) | (refine g_cond ?_; first | (refine v_cond_y rfl aD ?_) | (refine v_cond_n rfl aD ?_) | (refine v_condt rfl (fun h => ?_) (fun h => ?_) <;> (have h' := h; (try simp only [sx] at h')))))
      | (refine q_then ?_) | (refine q_then_r ?_) | (refine q_then_e ?_) | (refine q_blk_n ?_) | (refine q_blk_r ?_) | (refine q_blk_e ?_) | (refine q_blk_o rfl ?_) | (refine q_loop_r ?_) | (refine q_loop_e ?_) | (refine ret_n ?_))
    · exact ret_int rfl (lookE_ok rfl) (idx_some (p := fun a => decide (n = a)) hi2 hga (by simpa using h')).symm
    · refine q_next (i + 1) rfl (by refine ⟨?_, ?_, rfl, rfl⟩ <;> (repeat' (first | exact trivial | exact ⟨rfl, rfl⟩ | exact rfl | exact ⟨sub_fn, refs_fn⟩ | refine ⟨⟨rfl, rfl⟩, ?_⟩ | refine ⟨⟨sub_fn, refs_fn⟩, ?_⟩ | refine ⟨⟨rfl, fun h => Bool.noConfusion h⟩, ?_⟩ | refine ⟨⟨rfl, fun h => ?_⟩, ?_⟩ | refine ⟨rfl, ?_⟩ | refine ⟨?_, ?_⟩ | fail))) ⟨by omega, idx_step (p := fun a => decide (n = a)) hi2 hga (by simpa using h')⟩ aO
  · repeat' (first
      | (refine g_exec ?_; first | (refine g_move ?_; refine x_moveO _ rfl ?_) | (refine g_assign ?_; refine x_assignO _ rfl ?_) | (refine g_bin ?_; first | (refine x_add rfl rfl aO ?_) | (refine x_bin _ rfl rfl rfl ?_) | (refine x_boolEq aA rfl rfl ?_) | (refine x_strBin _ rfl rfl rfl ?_)) | (refine g_load ?_; first | (refine x_load_pc aA rfl ?_) | (refine x_load_oc _ aA rfl rfl aE rfl ?_) | (refine x_load_pa _ aA rfl aZ aL ?_) | (refine x_load_oa _ aA rfl rfl aE aZ aL ?_)) | (refine g_index ?_; first | (refine x_index_l _ aA rfl rfl aO aA ?_) | (refine x_index_o _ aA rfl rfl rfl rfl aO aO (by first | (rw [Nat.zero_add, Int.toNat_natCast]) | (rw [Nat.zero_add]) | rfl) ?_)) | (refine g_call ?_; first | (refine x_len_l aA rfl ?_) | (refine x_len_o aA rfl rfl ?_) | (refine x_len_n aA rfl ?_) | (refine x_len_s aA (evO_ok rfl) ?_)) | (refine x_nil (hK _ _ (.inl rfl) ?_); clear hK K) | (refine x_nil (hK _ _ (.inr (by kernel_rfl)) ?_); clear hK K))
      | (refine g_code ?_; first | (refine v_seq ?_) | (refine v_region (fun K hK => ?_)) | (refine v_block ?_) | (refine v_skip ?_) | (refine v_ret ?_) | (refine v_exit ?_) | (refine g_cond ?_; first | (refine v_cond_y rfl aD ?_) | (refine v_cond_n rfl aD ?_) | (refine v_condt rfl (fun h => ?_) (fun h => ?_) <;> (have h' := h; (try simp only [sx] at h')))))
      | (refine q_then ?_) | (refine q_then_r ?_) | (refine q_then_e ?_) | (refine q_blk_n ?_) | (refine q_blk_r ?_) | (refine q_blk_e ?_) | (refine q_blk_o rfl ?_) | (refine q_loop_r ?_) | (refine q_loop_e ?_) | (refine ret_n ?_))
    exact ret_int rfl (lookE_ok rfl) (idx_none (p := fun a => decide (n = a)) fun j hj => hi2 j aO).symm
theorem k_ContainsInt (xs : List Int) (n : Int) (hn : xs.length ≤ 1099511627776) : Con Try.prog 122 [.list 1 (ints xs), .int .i64 n] (.bool (decide (n ∈ xs))) := by
  intro al
  refine contract_of hmix Try.func122 rfl (by kernel_rfl) (by kernel_rfl) (Nat.le_of_ble_eq_true rfl) (fun row h => by cases h) ?_
  have hty_u24 := ty_u24
  have hty_s24 := ty_s24
  repeat' (first
      | (refine g_exec ?_; first | (refine g_move ?_; refine x_moveO _ rfl ?_) | (refine g_assign ?_; refine x_assignO _ rfl ?_) | (refine g_bin ?_; refine x_bin _ rfl rfl rfl ?_) | (refine g_call ?_; refine x_callG true (k_IndexInt xs n hn) rfl rfl rfl aS rfl aH ?_; simp only [cl]) | (refine x_nil (hK _ _ (.inl rfl) ?_); clear hK K) | (refine x_nil (hK _ _ (.inr (by kernel_rfl)) ?_); clear hK K))
      | (refine g_code ?_; first | (refine v_seq ?_) | (refine v_region (fun K hK => ?_)) | (refine v_block ?_) | (refine v_skip ?_) | (refine v_ret ?_) | (refine v_exit ?_))
      | (refine q_then ?_) | (refine q_then_r ?_) | (refine q_then_e ?_) | (refine q_blk_n ?_) | (refine q_blk_r ?_) | (refine q_blk_e ?_) | (refine q_blk_o rfl ?_) | (refine q_loop_r ?_) | (refine q_loop_e ?_) | (refine ret_n ?_))
  refine ret_bool rfl (lookE_ok rfl) ?_
  rw [show (decide (idx (fun a => decide (n = a)) xs ≥ 0)) = xs.any (fun a => decide (n = a)) from idx_any]
  rw [Bool.eq_iff_iff]
  simp
theorem k_hasInt (xs : List Int) (n : Int) (hn : xs.length ≤ 1099511627776) : Con Try.prog 69 [.list 1 (ints xs), .int .i64 n] (.bool (decide (n ∈ xs))) := by
  intro al
  refine contract_of hmix Try.func69 rfl (by kernel_rfl) (by kernel_rfl) (Nat.le_of_ble_eq_true rfl) (fun row h => by cases h) ?_
  have hty_u24 := ty_u24
  have hty_s24 := ty_s24
  repeat' (first
      | (refine g_exec ?_; first | (refine g_move ?_; refine x_moveO _ rfl ?_) | (refine g_assign ?_; refine x_assignO _ rfl ?_) | (refine g_call ?_; refine x_callG true (k_ContainsInt xs n hn) rfl rfl rfl aS rfl aH ?_; simp only [cl]) | (refine x_nil (hK _ _ (.inl rfl) ?_); clear hK K) | (refine x_nil (hK _ _ (.inr (by kernel_rfl)) ?_); clear hK K))
      | (refine g_code ?_; first | (refine v_seq ?_) | (refine v_region (fun K hK => ?_)) | (refine v_block ?_) | (refine v_skip ?_) | (refine v_ret ?_) | (refine v_exit ?_))
      | (refine q_then ?_) | (refine q_then_r ?_) | (refine q_then_e ?_) | (refine q_blk_n ?_) | (refine q_blk_r ?_) | (refine q_blk_e ?_) | (refine q_blk_o rfl ?_) | (refine q_loop_r ?_) | (refine q_loop_e ?_) | (refine ret_n ?_))
  exact ret_bool rfl (lookE_ok rfl) rfl
def Up (l : List Int) (i : Nat) : Prop := ∀ j, j < i - 1 → l.getD j 0 < l.getD (j + 1) 0
def Rising (l : List Int) : Prop := Up l l.length
instance (l : List Int) (i : Nat) : Decidable (Up l i) := by unfold Up; infer_instance
instance (l : List Int) : Decidable (Rising l) := by unfold Rising; infer_instance
theorem getI {l : List Int} {i : Nat} {a : Int} (h : l[i]? = some a) : l.getD i 0 = a := by simp [List.getD_eq_getElem?_getD, h]
theorem up_step {l : List Int} {i : Nat} {a b : Int} (h : Up l i) (ha : l[i - 1]? = some a) (hb : l[i]? = some b) (hab : a < b) : Up l (i + 1) := fun j hj => by
  by_cases he : j + 1 = i
  · rw [he, getI hb, show j = i - 1 by omega, getI ha]; exact hab
  · exact h j aO
theorem not_rising {l : List Int} {i : Nat} {a b : Int} (h0 : 0 < i) (ha : l[i - 1]? = some a) (hb : l[i]? = some b) (hab : b ≤ a) : ¬ Rising l := fun h => by
  have := h (i - 1) (by have := get_lt hb; omega)
  rw [getI ha, show i - 1 + 1 = i by omega, getI hb] at this
  omega
theorem Rising.pair {l : List Int} (h : Rising l) : l.Pairwise (· < ·) := pair_of_adj (r := fun a b : Int => a < b) (fun a b c h1 h2 => Int.lt_trans h1 h2) l fun j a b ha hb => by
  have := h j (by have := get_lt hb; omega)
  rw [getI ha, getI hb] at this
  exact this
theorem rising_of_pair {l : List Int} (h : l.Pairwise (· < ·)) : Rising l := fun j hj => by
  rw [List.pairwise_iff_getElem] at h
  have := h j (j + 1) aO aO aO
  rw [getI (List.getElem?_eq_getElem aO), getI (List.getElem?_eq_getElem (show j + 1 < l.length by omega))]
  exact this
theorem k_isRising (xs : List Int) (hn : xs.length ≤ 1099511627776) : Con Try.prog 152 [.list 1 (ints xs)] (.bool (decide (Rising xs))) := by
  intro al
  refine contract_of hmix Try.func152 rfl (by kernel_rfl) (by kernel_rfl) (Nat.le_of_ble_eq_true rfl) (fun row h => by cases h) ?_
  have hty_u24 := ty_u24
  have hty_s24 := ty_s24
  have hty_c3 := ty_c3
  have hl1 : (ints xs).length = xs.length := by simp
  repeat' (first
      | (refine g_exec ?_; first | (refine g_move ?_; refine x_moveO _ rfl ?_) | (refine g_assign ?_; refine x_assignO _ rfl ?_) | (refine g_bin ?_; first | (refine x_add rfl rfl aO ?_) | (refine x_sub rfl rfl aO ?_) | (refine x_bin _ rfl rfl rfl ?_) | (refine x_strBin _ rfl rfl rfl ?_)) | (refine g_load ?_; first | (refine x_load_pc aA rfl ?_) | (refine x_load_oc _ aA rfl rfl aE rfl ?_) | (refine x_load_pa _ aA rfl aZ aL ?_) | (refine x_load_oa _ aA rfl rfl aE aZ aL ?_)) | (refine g_index ?_; first | (refine x_index_l _ aA rfl rfl aO aA ?_) | (refine x_index_o _ aA rfl rfl rfl rfl aO aO (by first | (rw [Nat.zero_add, Int.toNat_natCast]) | (rw [Nat.zero_add]) | rfl) ?_)) | (refine g_call ?_; first | (refine x_len_l aA rfl ?_) | (refine x_len_o aA rfl rfl ?_) | (refine x_len_n aA rfl ?_) | (refine x_len_s aA (evO_ok rfl) ?_)) | (refine x_nil (hK _ _ (.inl rfl) ?_); clear hK K) | (refine x_nil (hK _ _ (.inr (by kernel_rfl)) ?_); clear hK K))
      | (refine g_code ?_; first | (refine v_seq ?_) | (refine v_region (fun K hK => ?_)) | (refine v_block ?_) | (refine v_skip ?_) | (refine v_ret ?_) | (refine v_exit ?_) | (refine g_cond ?_; first | (refine v_cond_y rfl aD ?_) | (refine v_cond_n rfl aD ?_) | (refine v_condt rfl (fun h => ?_) (fun h => ?_) <;> (have h' := h; (try simp only [sx] at h')))))
      | (refine q_then ?_) | (refine q_then_r ?_) | (refine q_then_e ?_) | (refine q_blk_n ?_) | (refine q_blk_r ?_) | (refine q_blk_e ?_) | (refine q_blk_o rfl ?_) | (refine q_loop_r ?_) | (refine q_loop_e ?_) | (refine ret_n ?_))
  refine v_loopK [0] [] (fun i : Nat => [(3, .int .i64 i)]) (fun i : Nat => []) (fun i : Nat => (1 ≤ i ∧ i ≤ xs.length + 1) ∧ Up xs i) (fun i : Nat => xs.length + 1 - i) (1) rfl rfl (fun _ => rfl) (fun _ => rfl) rfl (by refine ⟨?_, ?_, rfl, rfl⟩ <;> (repeat' (first | exact trivial | exact ⟨rfl, rfl⟩ | exact rfl | exact ⟨sub_fn, refs_fn⟩ | refine ⟨⟨rfl, rfl⟩, ?_⟩ | refine ⟨⟨sub_fn, refs_fn⟩, ?_⟩ | refine ⟨⟨rfl, fun h => Bool.noConfusion h⟩, ?_⟩ | refine ⟨⟨rfl, fun h => ?_⟩, ?_⟩ | refine ⟨rfl, ?_⟩ | refine ⟨?_, ?_⟩ | fail))) ⟨by omega, fun j hj => by omega⟩ (fun i hi => ?_)
  obtain ⟨hi1, hi2⟩ := hi
  rcases Nat.lt_or_ge i xs.length with hlt | hge
  · obtain ⟨a, hga⟩ := get_ex hlt
    obtain ⟨b, hgb⟩ := get_ex (show i - 1 < xs.length by omega)
    have hx := ints_at hga
    have hy := ints_at hgb
    have e1 : ((i : Int) - 1).toNat = i - 1 := by omega
    rw [← e1] at hy
    repeat' (first
      | (refine g_exec ?_; first | (refine g_move ?_; refine x_moveO _ rfl ?_) | (refine g_assign ?_; refine x_assignO _ rfl ?_) | (refine g_bin ?_; first | (refine x_add rfl rfl aO ?_) | (refine x_sub rfl rfl aO ?_) | (refine x_bin _ rfl rfl rfl ?_) | (refine x_strBin _ rfl rfl rfl ?_)) | (refine g_load ?_; first | (refine x_load_pc aA rfl ?_) | (refine x_load_oc _ aA rfl rfl aE rfl ?_) | (refine x_load_pa _ aA rfl aZ aL ?_) | (refine x_load_oa _ aA rfl rfl aE aZ aL ?_)) | (refine g_index ?_; first | (refine x_index_l _ aA rfl rfl aO aA ?_) | (refine x_index_o _ aA rfl rfl rfl rfl aO aO (by first | (rw [Nat.zero_add, Int.toNat_natCast]) | (rw [Nat.zero_add]) | rfl) ?_)) | (refine g_call ?_; first | (refine x_len_l aA rfl ?_) | (refine x_len_o aA rfl rfl ?_) | (refine x_len_n aA rfl ?_) | (refine x_len_s aA (evO_ok rfl) ?_)) | (refine x_nil (hK _ _ (.inl rfl) ?_); clear hK K) | (refine x_nil (hK _ _ (.inr (by kernel_rfl)) ?_); clear hK K))
      | (refine g_code ?_; first | (refine v_seq ?_) | (refine v_region (fun K hK => ?_)) | (refine v_block ?_) | (refine v_skip ?_) | (refine v_ret ?_) | (refine v_exit ?_) | (refine g_cond ?_; first | (refine v_cond_y rfl aD ?_) | (refine v_cond_n rfl aD ?_) | (refine v_condt rfl (fun h => ?_) (fun h => ?_) <;> (have h' := h; (try simp only [sx] at h')))))
      | (refine q_then ?_) | (refine q_then_r ?_) | (refine q_then_e ?_) | (refine q_blk_n ?_) | (refine q_blk_r ?_) | (refine q_blk_e ?_) | (refine q_blk_o rfl ?_) | (refine q_loop_r ?_) | (refine q_loop_e ?_) | (refine ret_n ?_))
    · exact ret_bool rfl (lookE_ok rfl) (by simp [not_rising aO hgb hga h'])
    · refine q_next (i + 1) rfl (by refine ⟨?_, ?_, rfl, rfl⟩ <;> (repeat' (first | exact trivial | exact ⟨rfl, rfl⟩ | exact rfl | exact ⟨sub_fn, refs_fn⟩ | refine ⟨⟨rfl, rfl⟩, ?_⟩ | refine ⟨⟨sub_fn, refs_fn⟩, ?_⟩ | refine ⟨⟨rfl, fun h => Bool.noConfusion h⟩, ?_⟩ | refine ⟨⟨rfl, fun h => ?_⟩, ?_⟩ | refine ⟨rfl, ?_⟩ | refine ⟨?_, ?_⟩ | fail))) ⟨by omega, up_step hi2 hgb hga aO⟩ aO
  · repeat' (first
      | (refine g_exec ?_; first | (refine g_move ?_; refine x_moveO _ rfl ?_) | (refine g_assign ?_; refine x_assignO _ rfl ?_) | (refine g_bin ?_; first | (refine x_add rfl rfl aO ?_) | (refine x_sub rfl rfl aO ?_) | (refine x_bin _ rfl rfl rfl ?_) | (refine x_strBin _ rfl rfl rfl ?_)) | (refine g_load ?_; first | (refine x_load_pc aA rfl ?_) | (refine x_load_oc _ aA rfl rfl aE rfl ?_) | (refine x_load_pa _ aA rfl aZ aL ?_) | (refine x_load_oa _ aA rfl rfl aE aZ aL ?_)) | (refine g_index ?_; first | (refine x_index_l _ aA rfl rfl aO aA ?_) | (refine x_index_o _ aA rfl rfl rfl rfl aO aO (by first | (rw [Nat.zero_add, Int.toNat_natCast]) | (rw [Nat.zero_add]) | rfl) ?_)) | (refine g_call ?_; first | (refine x_len_l aA rfl ?_) | (refine x_len_o aA rfl rfl ?_) | (refine x_len_n aA rfl ?_) | (refine x_len_s aA (evO_ok rfl) ?_)) | (refine x_nil (hK _ _ (.inl rfl) ?_); clear hK K) | (refine x_nil (hK _ _ (.inr (by kernel_rfl)) ?_); clear hK K))
      | (refine g_code ?_; first | (refine v_seq ?_) | (refine v_region (fun K hK => ?_)) | (refine v_block ?_) | (refine v_skip ?_) | (refine v_ret ?_) | (refine v_exit ?_) | (refine g_cond ?_; first | (refine v_cond_y rfl aD ?_) | (refine v_cond_n rfl aD ?_) | (refine v_condt rfl (fun h => ?_) (fun h => ?_) <;> (have h' := h; (try simp only [sx] at h')))))
      | (refine q_then ?_) | (refine q_then_r ?_) | (refine q_then_e ?_) | (refine q_blk_n ?_) | (refine q_blk_r ?_) | (refine q_blk_e ?_) | (refine q_blk_o rfl ?_) | (refine q_loop_r ?_) | (refine q_loop_e ?_) | (refine ret_n ?_))
    exact ret_bool rfl (lookE_ok rfl) (by
      have : Rising xs := fun j hj => hi2 j aO
      simp [this])
theorem k_l1Rising (xs : List Int) (lo hi : Int) (hn : xs.length ≤ 1099511627776) : Con Try.prog 119 [.list 1 (ints xs), .int .i64 lo, .int .i64 hi] (.bool (decide ((∀ y ∈ xs, lo ≤ y ∧ y ≤ hi) ∧ Rising xs))) := by
  intro al
  refine contract_of hmix Try.func119 rfl (by kernel_rfl) (by kernel_rfl) (Nat.le_of_ble_eq_true rfl) (fun row h => by cases h) ?_
  have hty_u24 := ty_u24
  have hty_s24 := ty_s24
  have hty_c3 := ty_c3
  have hl1 : (ints xs).length = xs.length := by simp
  repeat' (first
      | (refine g_exec ?_; first | (refine g_move ?_; refine x_moveO _ rfl ?_) | (refine g_assign ?_; refine x_assignO _ rfl ?_) | (refine g_bin ?_; first | (refine x_add rfl rfl aO ?_) | (refine x_sub rfl rfl aO ?_) | (refine x_bin _ rfl rfl rfl ?_) | (refine x_strBin _ rfl rfl rfl ?_)) | (refine g_un ?_; first | (refine x_not rfl ?_) | (refine x_neg rfl aO ?_)) | (refine g_load ?_; first | (refine x_load_pc aA rfl ?_) | (refine x_load_oc _ aA rfl rfl aE rfl ?_) | (refine x_load_pa _ aA rfl aZ aL ?_) | (refine x_load_oa _ aA rfl rfl aE aZ aL ?_)) | (refine g_index ?_; first | (refine x_index_l _ aA rfl rfl aO aA ?_) | (refine x_index_o _ aA rfl rfl rfl rfl aO aO (by first | (rw [Nat.zero_add, Int.toNat_natCast]) | (rw [Nat.zero_add]) | rfl) ?_)) | (refine g_pick ?_; first | (refine x_pick_b rfl aD rfl ?_) | (refine x_pick_c rfl aD ?_) | (refine x_pick_a rfl aD ?_) | (refine x_pick_d rfl aD rfl ?_)) | (refine g_guard ?_; first | (refine x_gyes rfl rfl aD ?_) | (refine x_gno rfl rfl aD ?_) | (refine x_gun rfl rfl ?_) | (refine x_gsplit rfl rfl (fun h => ?_) (fun h => ?_) <;> (have h' := h; (try simp only [sx] at h')))) | (refine g_call ?_; first | (refine x_len_l aA rfl ?_) | (refine x_len_o aA rfl rfl ?_) | (refine x_len_n aA rfl ?_) | (refine x_len_s aA (evO_ok rfl) ?_)) | (refine x_nil (hK _ _ (.inl rfl) ?_); clear hK K) | (refine x_nil (hK _ _ (.inr (by kernel_rfl)) ?_); clear hK K))
      | (refine g_code ?_; first | (refine v_seq ?_) | (refine v_region (fun K hK => ?_)) | (refine v_block ?_) | (refine v_skip ?_) | (refine v_ret ?_) | (refine v_exit ?_) | (refine g_cond ?_; first | (refine v_cond_y rfl aD ?_) | (refine v_cond_n rfl aD ?_) | (refine v_condt rfl (fun h => ?_) (fun h => ?_) <;> (have h' := h; (try simp only [sx] at h')))))
      | (refine q_then ?_) | (refine q_then_r ?_) | (refine q_then_e ?_) | (refine q_blk_n ?_) | (refine q_blk_r ?_) | (refine q_blk_e ?_) | (refine q_blk_o rfl ?_) | (refine q_loop_r ?_) | (refine q_loop_e ?_) | (refine ret_n ?_))
  refine v_loopK [0, 1, 2] [] (fun i : Nat => [(7, .int .i64 i)]) (fun i : Nat => []) (fun i : Nat => i ≤ xs.length ∧ (∀ y ∈ xs.take i, lo ≤ y ∧ y ≤ hi) ∧ Up xs i) (fun i : Nat => xs.length - i) (0) rfl rfl (fun _ => rfl) (fun _ => rfl) rfl (by refine ⟨?_, ?_, rfl, rfl⟩ <;> (repeat' (first | exact trivial | exact ⟨rfl, rfl⟩ | exact rfl | exact ⟨sub_fn, refs_fn⟩ | refine ⟨⟨rfl, rfl⟩, ?_⟩ | refine ⟨⟨sub_fn, refs_fn⟩, ?_⟩ | refine ⟨⟨rfl, fun h => Bool.noConfusion h⟩, ?_⟩ | refine ⟨⟨rfl, fun h => ?_⟩, ?_⟩ | refine ⟨rfl, ?_⟩ | refine ⟨?_, ?_⟩ | fail))) ⟨by omega, fun y hy => by simp at hy, fun j hj => by omega⟩ (fun i hi => ?_)
  obtain ⟨hi1, hi2, hi3⟩ := hi
  rcases Nat.lt_or_ge i xs.length with hlt | hge
  · obtain ⟨a, hga⟩ := get_ex hlt
    have hx := ints_at hga
    by_cases hi0 : 0 < i
    · obtain ⟨b, hgb⟩ := get_ex (show i - 1 < xs.length by omega)
      have hy := ints_at hgb
      have e1 : ((i : Int) - 1).toNat = i - 1 := by omega
      rw [← e1] at hy
      repeat' (first
      | (refine g_exec ?_; first | (refine g_move ?_; refine x_moveO _ rfl ?_) | (refine g_assign ?_; refine x_assignO _ rfl ?_) | (refine g_bin ?_; first | (refine x_add rfl rfl aO ?_) | (refine x_sub rfl rfl aO ?_) | (refine x_bin _ rfl rfl rfl ?_) | (refine x_strBin _ rfl rfl rfl ?_)) | (refine g_un ?_; first | (refine x_not rfl ?_) | (refine x_neg rfl aO ?_)) | (refine g_load ?_; first | (refine x_load_pc aA rfl ?_) | (refine x_load_oc _ aA rfl rfl aE rfl ?_) | (refine x_load_pa _ aA rfl aZ aL ?_) | (refine x_load_oa _ aA rfl rfl aE aZ aL ?_)) | (refine g_index ?_; first | (refine x_index_l _ aA rfl rfl aO aA ?_) | (refine x_index_o _ aA rfl rfl rfl rfl aO aO (by first | (rw [Nat.zero_add, Int.toNat_natCast]) | (rw [Nat.zero_add]) | rfl) ?_)) | (refine g_pick ?_; first | (refine x_pick_b rfl aD rfl ?_) | (refine x_pick_c rfl aD ?_) | (refine x_pick_a rfl aD ?_) | (refine x_pick_d rfl aD rfl ?_)) | (refine g_guard ?_; first | (refine x_gyes rfl rfl aD ?_) | (refine x_gno rfl rfl aD ?_) | (refine x_gun rfl rfl ?_) | (refine x_gsplit rfl rfl (fun h => ?_) (fun h => ?_) <;> (have h' := h; (try simp only [sx] at h')))) | (refine g_call ?_; first | (refine x_callG true (k_l1In _ _ _) rfl rfl rfl aS rfl aH ?_; simp only [cl]) | (refine x_len_l aA rfl ?_) | (refine x_len_o aA rfl rfl ?_) | (refine x_len_n aA rfl ?_) | (refine x_len_s aA (evO_ok rfl) ?_)) | (refine x_nil (hK _ _ (.inl rfl) ?_); clear hK K) | (refine x_nil (hK _ _ (.inr (by kernel_rfl)) ?_); clear hK K))
      | (refine g_code ?_; first | (refine v_seq ?_) | (refine v_region (fun K hK => ?_)) | (refine v_block ?_) | (refine v_skip ?_) | (refine v_ret ?_) | (refine v_exit ?_) | (refine g_cond ?_; first | (refine v_cond_y rfl aD ?_) | (refine v_cond_n rfl aD ?_) | (refine v_condt rfl (fun h => ?_) (fun h => ?_) <;> (have h' := h; (try simp only [sx] at h')))))
      | (refine q_then ?_) | (refine q_then_r ?_) | (refine q_then_e ?_) | (refine q_blk_n ?_) | (refine q_blk_r ?_) | (refine q_blk_e ?_) | (refine q_blk_o rfl ?_) | (refine q_loop_r ?_) | (refine q_loop_e ?_) | (refine ret_n ?_))
      all_goals first
        | (refine q_next (i + 1) rfl (by refine ⟨?_, ?_, rfl, rfl⟩ <;> (repeat' (first | exact trivial | exact ⟨rfl, rfl⟩ | exact rfl | exact ⟨sub_fn, refs_fn⟩ | refine ⟨⟨rfl, rfl⟩, ?_⟩ | refine ⟨⟨sub_fn, refs_fn⟩, ?_⟩ | refine ⟨⟨rfl, fun h => Bool.noConfusion h⟩, ?_⟩ | refine ⟨⟨rfl, fun h => ?_⟩, ?_⟩ | refine ⟨rfl, ?_⟩ | refine ⟨?_, ?_⟩ | fail))) ⟨by omega, all_take_succ hga hi2 aO, up_step hi3 hgb hga aO⟩ aO)
        | (refine ret_bool rfl (lookE_ok rfl) ?_
           have : ¬ ((∀ y ∈ xs, lo ≤ y ∧ y ≤ hi) ∧ Rising xs) := fun hk => by
             have k1 := hk.1 a (get_mem hga)
             first | omega | exact not_rising hi0 hgb hga aO hk.2
           simp only [this, decide_false])
    · have h1 : i = 0 := by omega
      repeat' (first
      | (refine g_exec ?_; first | (refine g_move ?_; refine x_moveO _ rfl ?_) | (refine g_assign ?_; refine x_assignO _ rfl ?_) | (refine g_bin ?_; first | (refine x_add rfl rfl aO ?_) | (refine x_sub rfl rfl aO ?_) | (refine x_bin _ rfl rfl rfl ?_) | (refine x_strBin _ rfl rfl rfl ?_)) | (refine g_un ?_; first | (refine x_not rfl ?_) | (refine x_neg rfl aO ?_)) | (refine g_load ?_; first | (refine x_load_pc aA rfl ?_) | (refine x_load_oc _ aA rfl rfl aE rfl ?_) | (refine x_load_pa _ aA rfl aZ aL ?_) | (refine x_load_oa _ aA rfl rfl aE aZ aL ?_)) | (refine g_index ?_; first | (refine x_index_l _ aA rfl rfl aO aA ?_) | (refine x_index_o _ aA rfl rfl rfl rfl aO aO (by first | (rw [Nat.zero_add, Int.toNat_natCast]) | (rw [Nat.zero_add]) | rfl) ?_)) | (refine g_pick ?_; first | (refine x_pick_b rfl aD rfl ?_) | (refine x_pick_c rfl aD ?_) | (refine x_pick_a rfl aD ?_) | (refine x_pick_d rfl aD rfl ?_)) | (refine g_guard ?_; first | (refine x_gyes rfl rfl aD ?_) | (refine x_gno rfl rfl aD ?_) | (refine x_gun rfl rfl ?_) | (refine x_gsplit rfl rfl (fun h => ?_) (fun h => ?_) <;> (have h' := h; (try simp only [sx] at h')))) | (refine g_call ?_; first | (refine x_callG true (k_l1In _ _ _) rfl rfl rfl aS rfl aH ?_; simp only [cl]) | (refine x_len_l aA rfl ?_) | (refine x_len_o aA rfl rfl ?_) | (refine x_len_n aA rfl ?_) | (refine x_len_s aA (evO_ok rfl) ?_)) | (refine x_nil (hK _ _ (.inl rfl) ?_); clear hK K) | (refine x_nil (hK _ _ (.inr (by kernel_rfl)) ?_); clear hK K))
      | (refine g_code ?_; first | (refine v_seq ?_) | (refine v_region (fun K hK => ?_)) | (refine v_block ?_) | (refine v_skip ?_) | (refine v_ret ?_) | (refine v_exit ?_) | (refine g_cond ?_; first | (refine v_cond_y rfl aD ?_) | (refine v_cond_n rfl aD ?_) | (refine v_condt rfl (fun h => ?_) (fun h => ?_) <;> (have h' := h; (try simp only [sx] at h')))))
      | (refine q_then ?_) | (refine q_then_r ?_) | (refine q_then_e ?_) | (refine q_blk_n ?_) | (refine q_blk_r ?_) | (refine q_blk_e ?_) | (refine q_blk_o rfl ?_) | (refine q_loop_r ?_) | (refine q_loop_e ?_) | (refine ret_n ?_))
      all_goals first
        | (refine q_next (i + 1) rfl (by refine ⟨?_, ?_, rfl, rfl⟩ <;> (repeat' (first | exact trivial | exact ⟨rfl, rfl⟩ | exact rfl | exact ⟨sub_fn, refs_fn⟩ | refine ⟨⟨rfl, rfl⟩, ?_⟩ | refine ⟨⟨sub_fn, refs_fn⟩, ?_⟩ | refine ⟨⟨rfl, fun h => Bool.noConfusion h⟩, ?_⟩ | refine ⟨⟨rfl, fun h => ?_⟩, ?_⟩ | refine ⟨rfl, ?_⟩ | refine ⟨?_, ?_⟩ | fail))) ⟨by omega, all_take_succ hga hi2 aO, fun j hj => by omega⟩ aO)
        | (refine ret_bool rfl (lookE_ok rfl) ?_
           have : ¬ ((∀ y ∈ xs, lo ≤ y ∧ y ≤ hi) ∧ Rising xs) := fun hk => by
             have k1 := hk.1 a (get_mem hga)
             omega
           simp only [this, decide_false])
  · repeat' (first
      | (refine g_exec ?_; first | (refine g_move ?_; refine x_moveO _ rfl ?_) | (refine g_assign ?_; refine x_assignO _ rfl ?_) | (refine g_bin ?_; first | (refine x_add rfl rfl aO ?_) | (refine x_sub rfl rfl aO ?_) | (refine x_bin _ rfl rfl rfl ?_) | (refine x_strBin _ rfl rfl rfl ?_)) | (refine g_un ?_; first | (refine x_not rfl ?_) | (refine x_neg rfl aO ?_)) | (refine g_load ?_; first | (refine x_load_pc aA rfl ?_) | (refine x_load_oc _ aA rfl rfl aE rfl ?_) | (refine x_load_pa _ aA rfl aZ aL ?_) | (refine x_load_oa _ aA rfl rfl aE aZ aL ?_)) | (refine g_index ?_; first | (refine x_index_l _ aA rfl rfl aO aA ?_) | (refine x_index_o _ aA rfl rfl rfl rfl aO aO (by first | (rw [Nat.zero_add, Int.toNat_natCast]) | (rw [Nat.zero_add]) | rfl) ?_)) | (refine g_pick ?_; first | (refine x_pick_b rfl aD rfl ?_) | (refine x_pick_c rfl aD ?_) | (refine x_pick_a rfl aD ?_) | (refine x_pick_d rfl aD rfl ?_)) | (refine g_guard ?_; first | (refine x_gyes rfl rfl aD ?_) | (refine x_gno rfl rfl aD ?_) | (refine x_gun rfl rfl ?_) | (refine x_gsplit rfl rfl (fun h => ?_) (fun h => ?_) <;> (have h' := h; (try simp only [sx] at h')))) | (refine g_call ?_; first | (refine x_len_l aA rfl ?_) | (refine x_len_o aA rfl rfl ?_) | (refine x_len_n aA rfl ?_) | (refine x_len_s aA (evO_ok rfl) ?_)) | (refine x_nil (hK _ _ (.inl rfl) ?_); clear hK K) | (refine x_nil (hK _ _ (.inr (by kernel_rfl)) ?_); clear hK K))
      | (refine g_code ?_; first | (refine v_seq ?_) | (refine v_region (fun K hK => ?_)) | (refine v_block ?_) | (refine v_skip ?_) | (refine v_ret ?_) | (refine v_exit ?_) | (refine g_cond ?_; first | (refine v_cond_y rfl aD ?_) | (refine v_cond_n rfl aD ?_) | (refine v_condt rfl (fun h => ?_) (fun h => ?_) <;> (have h' := h; (try simp only [sx] at h')))))
      | (refine q_then ?_) | (refine q_then_r ?_) | (refine q_then_e ?_) | (refine q_blk_n ?_) | (refine q_blk_r ?_) | (refine q_blk_e ?_) | (refine q_blk_o rfl ?_) | (refine q_loop_r ?_) | (refine q_loop_e ?_) | (refine ret_n ?_))
    refine ret_bool rfl (lookE_ok rfl) ?_
    rw [take_all hge] at hi2
    have : (∀ y ∈ xs, lo ≤ y ∧ y ≤ hi) ∧ Rising xs := ⟨hi2, fun j hj => hi3 j aO⟩
    simp only [decide_eq_true this]
end Go.Vs
set_option linter.unusedVariables false
set_option linter.unusedSimpArgs false
set_option maxRecDepth 100000
set_option maxHeartbeats 4000000
namespace Go.Vs
open Go.Proofs
attribute [local irreducible] exec vwp thenQ blkQ loopQ RetPost
def Dims (t : Terrain) : Prop := (1 ≤ t.width ∧ t.width ≤ 5) ∧ (1 ≤ t.height ∧ t.height ≤ 5)
instance (t : Terrain) : Decidable (Dims t) := by unfold Dims; infer_instance
def GoodT (t : Terrain) : Prop := Dims t ∧ (t.burn.length : Int) = t.width * t.height ∧ ∀ b ∈ t.burn, 0 ≤ b ∧ b ≤ 20
instance (t : Terrain) : Decidable (GoodT t) := by unfold GoodT; infer_instance
theorem dims_area {t : Terrain} (h : Dims t) : 1 ≤ t.width * t.height ∧ t.width * t.height ≤ 25 := by
  have h1 : 1 * 1 ≤ t.width * t.height := Int.mul_le_mul h.1.1 h.2.1 aO (by have := h.1; omega)
  have h2 : t.width * t.height ≤ 5 * 5 := Int.mul_le_mul h.1.2 h.2.2 (by have := h.2; omega) aO
  omega
theorem goodT_len {t : Terrain} (h : GoodT t) : 1 ≤ t.burn.length ∧ t.burn.length ≤ 25 := by
  have := dims_area h.1
  have := h.2.1
  omega
theorem k_l2Good (t : Terrain) (hn : t.burn.length ≤ 1099511627776) : Con Try.prog 118 [.agg t.pv] (.bool (decide (GoodT t))) := by
  intro al
  refine contract_of hmix Try.func118 rfl (by kernel_rfl) (by kernel_rfl) (Nat.le_of_ble_eq_true rfl) (fun row h => by cases h) ?_
  have hty_f26_0 := ty_f26_0
  have hty_c3 := ty_c3
  have hty_f26_1 := ty_f26_1
  have hty_f26_2 := ty_f26_2
  have hty_c24 := ty_c24
  have hty_u24 := ty_u24
  have hty_s24 := ty_s24
  have hl : (ints t.burn).length = t.burn.length := by simp
  by_cases hd : Dims t
  · have ha := dims_area hd
    have hd' := hd
    unfold Dims at hd'
    by_cases hs : (t.burn.length : Int) = t.width * t.height
    · repeat' (first
      | (refine g_exec ?_; first | (refine g_move ?_; refine x_moveO _ rfl ?_) | (refine g_assign ?_; refine x_assignO _ rfl ?_) | (refine g_bin ?_; first | (refine x_add rfl rfl aO ?_) | (refine x_mul rfl rfl aO ?_) | (refine x_bin _ rfl rfl rfl ?_) | (refine x_boolNe aA rfl rfl ?_) | (refine x_strBin _ rfl rfl rfl ?_)) | (refine g_un ?_; first | (refine x_not rfl ?_) | (refine x_neg rfl aO ?_)) | (refine g_load ?_; first | (refine x_load_pc aA rfl ?_) | (refine x_load_oc _ aA rfl rfl aE rfl ?_) | (refine x_load_pa _ aA rfl aZ aL ?_) | (refine x_load_oa _ aA rfl rfl aE aZ aL ?_)) | (refine g_field ?_; first | (refine x_field_p _ aA rfl aL ?_) | (refine x_field_o _ aA rfl rfl (by simp only [lx, Nat.reduceAdd]; first | done | rfl) ?_)) | (refine g_index ?_; first | (refine x_index_l _ aA rfl rfl aO aA ?_) | (refine x_index_o _ aA rfl rfl rfl rfl aO aO (by first | (rw [Nat.zero_add, Int.toNat_natCast]) | (rw [Nat.zero_add]) | rfl) ?_)) | (refine g_pick ?_; first | (refine x_pick_b rfl aD rfl ?_) | (refine x_pick_c rfl aD ?_) | (refine x_pick_a rfl aD ?_) | (refine x_pick_d rfl aD rfl ?_)) | (refine g_guard ?_; first | (refine x_gyes rfl rfl aD ?_) | (refine x_gno rfl rfl aD ?_) | (refine x_gun rfl rfl ?_) | (refine x_gsplit rfl rfl (fun h => ?_) (fun h => ?_) <;> (have h' := h; (try simp only [sx] at h')))) | (refine g_call ?_; first | (refine x_callG true (k_l1In _ _ _) rfl rfl rfl aS rfl aH ?_; simp only [cl]) | (refine x_len_l aA rfl ?_) | (refine x_len_o aA rfl rfl ?_) | (refine x_len_n aA rfl ?_) | (refine x_len_s aA (evO_ok rfl) ?_)) | (refine x_boxO _ _ rfl rfl rfl rfl ?_) | (refine x_nil (hK _ _ (.inl rfl) ?_); clear hK K) | (refine x_nil (hK _ _ (.inr (by kernel_rfl)) ?_); clear hK K))
      | (refine g_code ?_; first | (refine v_seq ?_) | (refine v_region (fun K hK => ?_)) | (refine v_block ?_) | (refine v_skip ?_) | (refine v_ret ?_) | (refine v_exit ?_) | (refine g_cond ?_; first | (refine v_cond_y rfl aD ?_) | (refine v_cond_n rfl aD ?_) | (refine v_condt rfl (fun h => ?_) (fun h => ?_) <;> (have h' := h; (try simp only [sx] at h')))))
      | (refine q_then ?_) | (refine q_then_r ?_) | (refine q_then_e ?_) | (refine q_blk_n ?_) | (refine q_blk_r ?_) | (refine q_blk_e ?_) | (refine q_blk_o rfl ?_) | (refine q_loop_r ?_) | (refine q_loop_e ?_) | (refine ret_n ?_))
      refine v_loopK [1] [] (fun i : Nat => [(3, .int .i64 i)]) (fun i : Nat => []) (fun i : Nat => i ≤ t.burn.length ∧ ∀ b ∈ t.burn.take i, 0 ≤ b ∧ b ≤ 20) (fun i : Nat => t.burn.length - i) (0) rfl rfl (fun _ => rfl) (fun _ => rfl) rfl (by refine ⟨?_, ?_, rfl, rfl⟩ <;> (repeat' (first | exact trivial | exact ⟨rfl, rfl⟩ | exact rfl | exact ⟨sub_fn, refs_fn⟩ | refine ⟨⟨rfl, rfl⟩, ?_⟩ | refine ⟨⟨sub_fn, refs_fn⟩, ?_⟩ | refine ⟨⟨rfl, fun h => Bool.noConfusion h⟩, ?_⟩ | refine ⟨⟨rfl, fun h => ?_⟩, ?_⟩ | refine ⟨rfl, ?_⟩ | refine ⟨?_, ?_⟩ | fail))) ⟨by omega, fun b hb => by simp at hb⟩ (fun i hi => ?_)
      obtain ⟨h1, h2⟩ := hi
      rcases Nat.lt_or_ge i t.burn.length with hlt | hge
      · obtain ⟨a, hga⟩ := get_ex hlt
        have hx := ints_at hga
        repeat' (first
      | (refine g_exec ?_; first | (refine g_move ?_; refine x_moveO _ rfl ?_) | (refine g_assign ?_; refine x_assignO _ rfl ?_) | (refine g_bin ?_; first | (refine x_add rfl rfl aO ?_) | (refine x_mul rfl rfl aO ?_) | (refine x_bin _ rfl rfl rfl ?_) | (refine x_boolNe aA rfl rfl ?_) | (refine x_strBin _ rfl rfl rfl ?_)) | (refine g_un ?_; first | (refine x_not rfl ?_) | (refine x_neg rfl aO ?_)) | (refine g_load ?_; first | (refine x_load_pc aA rfl ?_) | (refine x_load_oc _ aA rfl rfl aE rfl ?_) | (refine x_load_pa _ aA rfl aZ aL ?_) | (refine x_load_oa _ aA rfl rfl aE aZ aL ?_)) | (refine g_field ?_; first | (refine x_field_p _ aA rfl aL ?_) | (refine x_field_o _ aA rfl rfl (by simp only [lx, Nat.reduceAdd]; first | done | rfl) ?_)) | (refine g_index ?_; first | (refine x_index_l _ aA rfl rfl aO aA ?_) | (refine x_index_o _ aA rfl rfl rfl rfl aO aO (by first | (rw [Nat.zero_add, Int.toNat_natCast]) | (rw [Nat.zero_add]) | rfl) ?_)) | (refine g_pick ?_; first | (refine x_pick_b rfl aD rfl ?_) | (refine x_pick_c rfl aD ?_) | (refine x_pick_a rfl aD ?_) | (refine x_pick_d rfl aD rfl ?_)) | (refine g_guard ?_; first | (refine x_gyes rfl rfl aD ?_) | (refine x_gno rfl rfl aD ?_) | (refine x_gun rfl rfl ?_) | (refine x_gsplit rfl rfl (fun h => ?_) (fun h => ?_) <;> (have h' := h; (try simp only [sx] at h')))) | (refine g_call ?_; first | (refine x_callG true (k_l1In _ _ _) rfl rfl rfl aS rfl aH ?_; simp only [cl]) | (refine x_len_l aA rfl ?_) | (refine x_len_o aA rfl rfl ?_) | (refine x_len_n aA rfl ?_) | (refine x_len_s aA (evO_ok rfl) ?_)) | (refine x_boxO _ _ rfl rfl rfl rfl ?_) | (refine x_nil (hK _ _ (.inl rfl) ?_); clear hK K) | (refine x_nil (hK _ _ (.inr (by kernel_rfl)) ?_); clear hK K))
      | (refine g_code ?_; first | (refine v_seq ?_) | (refine v_region (fun K hK => ?_)) | (refine v_block ?_) | (refine v_skip ?_) | (refine v_ret ?_) | (refine v_exit ?_) | (refine g_cond ?_; first | (refine v_cond_y rfl aD ?_) | (refine v_cond_n rfl aD ?_) | (refine v_condt rfl (fun h => ?_) (fun h => ?_) <;> (have h' := h; (try simp only [sx] at h')))))
      | (refine q_then ?_) | (refine q_then_r ?_) | (refine q_then_e ?_) | (refine q_blk_n ?_) | (refine q_blk_r ?_) | (refine q_blk_e ?_) | (refine q_blk_o rfl ?_) | (refine q_loop_r ?_) | (refine q_loop_e ?_) | (refine ret_n ?_))
        all_goals first
          | (refine q_next (i + 1) rfl (by refine ⟨?_, ?_, rfl, rfl⟩ <;> (repeat' (first | exact trivial | exact ⟨rfl, rfl⟩ | exact rfl | exact ⟨sub_fn, refs_fn⟩ | refine ⟨⟨rfl, rfl⟩, ?_⟩ | refine ⟨⟨sub_fn, refs_fn⟩, ?_⟩ | refine ⟨⟨rfl, fun h => Bool.noConfusion h⟩, ?_⟩ | refine ⟨⟨rfl, fun h => ?_⟩, ?_⟩ | refine ⟨rfl, ?_⟩ | refine ⟨?_, ?_⟩ | fail))) ⟨by omega, all_take_succ hga h2 aO⟩ aO)
          | (refine ret_bool rfl (lookE_ok rfl) ?_
             have : ¬ GoodT t := fun h => by have := h.2.2 a (get_mem hga); omega
             simp [this])
      · repeat' (first
      | (refine g_exec ?_; first | (refine g_move ?_; refine x_moveO _ rfl ?_) | (refine g_assign ?_; refine x_assignO _ rfl ?_) | (refine g_bin ?_; first | (refine x_add rfl rfl aO ?_) | (refine x_mul rfl rfl aO ?_) | (refine x_bin _ rfl rfl rfl ?_) | (refine x_boolNe aA rfl rfl ?_) | (refine x_strBin _ rfl rfl rfl ?_)) | (refine g_un ?_; first | (refine x_not rfl ?_) | (refine x_neg rfl aO ?_)) | (refine g_load ?_; first | (refine x_load_pc aA rfl ?_) | (refine x_load_oc _ aA rfl rfl aE rfl ?_) | (refine x_load_pa _ aA rfl aZ aL ?_) | (refine x_load_oa _ aA rfl rfl aE aZ aL ?_)) | (refine g_field ?_; first | (refine x_field_p _ aA rfl aL ?_) | (refine x_field_o _ aA rfl rfl (by simp only [lx, Nat.reduceAdd]; first | done | rfl) ?_)) | (refine g_index ?_; first | (refine x_index_l _ aA rfl rfl aO aA ?_) | (refine x_index_o _ aA rfl rfl rfl rfl aO aO (by first | (rw [Nat.zero_add, Int.toNat_natCast]) | (rw [Nat.zero_add]) | rfl) ?_)) | (refine g_pick ?_; first | (refine x_pick_b rfl aD rfl ?_) | (refine x_pick_c rfl aD ?_) | (refine x_pick_a rfl aD ?_) | (refine x_pick_d rfl aD rfl ?_)) | (refine g_guard ?_; first | (refine x_gyes rfl rfl aD ?_) | (refine x_gno rfl rfl aD ?_) | (refine x_gun rfl rfl ?_) | (refine x_gsplit rfl rfl (fun h => ?_) (fun h => ?_) <;> (have h' := h; (try simp only [sx] at h')))) | (refine g_call ?_; first | (refine x_len_l aA rfl ?_) | (refine x_len_o aA rfl rfl ?_) | (refine x_len_n aA rfl ?_) | (refine x_len_s aA (evO_ok rfl) ?_)) | (refine x_boxO _ _ rfl rfl rfl rfl ?_) | (refine x_nil (hK _ _ (.inl rfl) ?_); clear hK K) | (refine x_nil (hK _ _ (.inr (by kernel_rfl)) ?_); clear hK K))
      | (refine g_code ?_; first | (refine v_seq ?_) | (refine v_region (fun K hK => ?_)) | (refine v_block ?_) | (refine v_skip ?_) | (refine v_ret ?_) | (refine v_exit ?_) | (refine g_cond ?_; first | (refine v_cond_y rfl aD ?_) | (refine v_cond_n rfl aD ?_) | (refine v_condt rfl (fun h => ?_) (fun h => ?_) <;> (have h' := h; (try simp only [sx] at h')))))
      | (refine q_then ?_) | (refine q_then_r ?_) | (refine q_then_e ?_) | (refine q_blk_n ?_) | (refine q_blk_r ?_) | (refine q_blk_e ?_) | (refine q_blk_o rfl ?_) | (refine q_loop_r ?_) | (refine q_loop_e ?_) | (refine ret_n ?_))
        refine ret_bool rfl (lookE_ok rfl) ?_
        have : GoodT t := ⟨hd, hs, by rw [take_all aO] at h2; exact h2⟩
        simp [this]
    · repeat' (first
      | (refine g_exec ?_; first | (refine g_move ?_; refine x_moveO _ rfl ?_) | (refine g_assign ?_; refine x_assignO _ rfl ?_) | (refine g_bin ?_; first | (refine x_add rfl rfl aO ?_) | (refine x_mul rfl rfl aO ?_) | (refine x_bin _ rfl rfl rfl ?_) | (refine x_boolNe aA rfl rfl ?_) | (refine x_strBin _ rfl rfl rfl ?_)) | (refine g_un ?_; first | (refine x_not rfl ?_) | (refine x_neg rfl aO ?_)) | (refine g_load ?_; first | (refine x_load_pc aA rfl ?_) | (refine x_load_oc _ aA rfl rfl aE rfl ?_) | (refine x_load_pa _ aA rfl aZ aL ?_) | (refine x_load_oa _ aA rfl rfl aE aZ aL ?_)) | (refine g_field ?_; first | (refine x_field_p _ aA rfl aL ?_) | (refine x_field_o _ aA rfl rfl (by simp only [lx, Nat.reduceAdd]; first | done | rfl) ?_)) | (refine g_index ?_; first | (refine x_index_l _ aA rfl rfl aO aA ?_) | (refine x_index_o _ aA rfl rfl rfl rfl aO aO (by first | (rw [Nat.zero_add, Int.toNat_natCast]) | (rw [Nat.zero_add]) | rfl) ?_)) | (refine g_pick ?_; first | (refine x_pick_b rfl aD rfl ?_) | (refine x_pick_c rfl aD ?_) | (refine x_pick_a rfl aD ?_) | (refine x_pick_d rfl aD rfl ?_)) | (refine g_guard ?_; first | (refine x_gyes rfl rfl aD ?_) | (refine x_gno rfl rfl aD ?_) | (refine x_gun rfl rfl ?_) | (refine x_gsplit rfl rfl (fun h => ?_) (fun h => ?_) <;> (have h' := h; (try simp only [sx] at h')))) | (refine g_call ?_; first | (refine x_callG true (k_l1In _ _ _) rfl rfl rfl aS rfl aH ?_; simp only [cl]) | (refine x_len_l aA rfl ?_) | (refine x_len_o aA rfl rfl ?_) | (refine x_len_n aA rfl ?_) | (refine x_len_s aA (evO_ok rfl) ?_)) | (refine x_boxO _ _ rfl rfl rfl rfl ?_) | (refine x_nil (hK _ _ (.inl rfl) ?_); clear hK K) | (refine x_nil (hK _ _ (.inr (by kernel_rfl)) ?_); clear hK K))
      | (refine g_code ?_; first | (refine v_seq ?_) | (refine v_region (fun K hK => ?_)) | (refine v_block ?_) | (refine v_skip ?_) | (refine v_ret ?_) | (refine v_exit ?_) | (refine g_cond ?_; first | (refine v_cond_y rfl aD ?_) | (refine v_cond_n rfl aD ?_) | (refine v_condt rfl (fun h => ?_) (fun h => ?_) <;> (have h' := h; (try simp only [sx] at h')))))
      | (refine q_then ?_) | (refine q_then_r ?_) | (refine q_then_e ?_) | (refine q_blk_n ?_) | (refine q_blk_r ?_) | (refine q_blk_e ?_) | (refine q_blk_o rfl ?_) | (refine q_loop_r ?_) | (refine q_loop_e ?_) | (refine ret_n ?_))
      refine ret_bool rfl (lookE_ok rfl) ?_
      have : ¬ GoodT t := fun h => hs h.2.1
      simp [this]
  · have hng : ¬ GoodT t := fun h => hd h.1
    rw [show decide (GoodT t) = false from by simp [hng]]
    unfold Dims at hd
    repeat' (first
      | (refine g_exec ?_; first | (refine g_move ?_; refine x_moveO _ rfl ?_) | (refine g_assign ?_; refine x_assignO _ rfl ?_) | (refine g_bin ?_; first | (refine x_add rfl rfl aO ?_) | (refine x_mul rfl rfl aO ?_) | (refine x_bin _ rfl rfl rfl ?_) | (refine x_boolNe aA rfl rfl ?_) | (refine x_strBin _ rfl rfl rfl ?_)) | (refine g_un ?_; first | (refine x_not rfl ?_) | (refine x_neg rfl aO ?_)) | (refine g_load ?_; first | (refine x_load_pc aA rfl ?_) | (refine x_load_oc _ aA rfl rfl aE rfl ?_) | (refine x_load_pa _ aA rfl aZ aL ?_) | (refine x_load_oa _ aA rfl rfl aE aZ aL ?_)) | (refine g_field ?_; first | (refine x_field_p _ aA rfl aL ?_) | (refine x_field_o _ aA rfl rfl (by simp only [lx, Nat.reduceAdd]; first | done | rfl) ?_)) | (refine g_index ?_; first | (refine x_index_l _ aA rfl rfl aO aA ?_) | (refine x_index_o _ aA rfl rfl rfl rfl aO aO (by first | (rw [Nat.zero_add, Int.toNat_natCast]) | (rw [Nat.zero_add]) | rfl) ?_)) | (refine g_pick ?_; first | (refine x_pick_b rfl aD rfl ?_) | (refine x_pick_c rfl aD ?_) | (refine x_pick_a rfl aD ?_) | (refine x_pick_d rfl aD rfl ?_)) | (refine g_guard ?_; first | (refine x_gyes rfl rfl aD ?_) | (refine x_gno rfl rfl aD ?_) | (refine x_gun rfl rfl ?_) | (refine x_gsplit rfl rfl (fun h => ?_) (fun h => ?_) <;> (have h' := h; (try simp only [sx] at h')))) | (refine g_call ?_; first | (refine x_callG true (k_l1In _ _ _) rfl rfl rfl aS rfl aH ?_; simp only [cl]) | (refine x_len_l aA rfl ?_) | (refine x_len_o aA rfl rfl ?_) | (refine x_len_n aA rfl ?_) | (refine x_len_s aA (evO_ok rfl) ?_)) | (refine x_boxO _ _ rfl rfl rfl rfl ?_) | (refine x_nil (hK _ _ (.inl rfl) ?_); clear hK K) | (refine x_nil (hK _ _ (.inr (by kernel_rfl)) ?_); clear hK K))
      | (refine g_code ?_; first | (refine v_seq ?_) | (refine v_region (fun K hK => ?_)) | (refine v_block ?_) | (refine v_skip ?_) | (refine v_ret ?_) | (refine v_exit ?_) | (refine g_cond ?_; first | (refine v_cond_y rfl aD ?_) | (refine v_cond_n rfl aD ?_) | (refine v_condt rfl (fun h => ?_) (fun h => ?_) <;> (have h' := h; (try simp only [sx] at h')))))
      | (refine q_then ?_) | (refine q_then_r ?_) | (refine q_then_e ?_) | (refine q_blk_n ?_) | (refine q_blk_r ?_) | (refine q_blk_e ?_) | (refine q_blk_o rfl ?_) | (refine q_loop_r ?_) | (refine q_loop_e ?_) | (refine ret_n ?_))
    all_goals first
      | (exfalso; omega)
      | exact ret_bool rfl (lookE_ok rfl) rfl
theorem k_IsTerrain1 (b : Int) : Con Try.prog 149 [.int .i64 b] (.bool (decide (0 ≤ b) && decide (b ≤ 20))) := by
  intro al
  refine contract_of hmix Try.func149 rfl (by kernel_rfl) (by kernel_rfl) (Nat.le_of_ble_eq_true rfl) (fun row h => by cases h) ?_
  repeat' (first
      | (refine g_exec ?_; first | (refine g_move ?_; refine x_moveO _ rfl ?_) | (refine g_assign ?_; refine x_assignO _ rfl ?_) | (refine g_call ?_; refine x_callG true (k_in _ _ _) rfl rfl rfl aS rfl aH ?_; simp only [cl]) | (refine x_nil (hK _ _ (.inl rfl) ?_); clear hK K) | (refine x_nil (hK _ _ (.inr (by kernel_rfl)) ?_); clear hK K))
      | (refine g_code ?_; first | (refine v_seq ?_) | (refine v_region (fun K hK => ?_)) | (refine v_block ?_) | (refine v_skip ?_) | (refine v_ret ?_) | (refine v_exit ?_))
      | (refine q_then ?_) | (refine q_then_r ?_) | (refine q_then_e ?_) | (refine q_blk_n ?_) | (refine q_blk_r ?_) | (refine q_blk_e ?_) | (refine q_blk_o rfl ?_) | (refine q_loop_r ?_) | (refine q_loop_e ?_) | (refine ret_n ?_))
  exact ret_bool rfl (lookE_ok rfl) rfl
theorem k_IsTerrain (t : Terrain) (hn : t.burn.length ≤ 1099511627776) : Con Try.prog 110 [.agg t.pv] (.bool (decide (GoodT t))) := by
  intro al
  refine contract_of hmix Try.func110 rfl (by kernel_rfl) (by kernel_rfl) (Nat.le_of_ble_eq_true rfl) (fun row h => by cases h) ?_
  have hty_f26_0 := ty_f26_0
  have hty_c3 := ty_c3
  have hty_f26_1 := ty_f26_1
  have hty_f26_2 := ty_f26_2
  have hty_c24 := ty_c24
  have hty_u24 := ty_u24
  have hty_s24 := ty_s24
  have hl : (ints t.burn).length = t.burn.length := by simp
  have kA := k_allInt t.burn 149 [] (fun b => decide (0 ≤ b) && decide (b ≤ 20)) (fun b _ => k_IsTerrain1 b) hn
  have h5 : (t.burn.all fun b => decide (0 ≤ b) && decide (b ≤ 20)) = true ↔ ∀ b ∈ t.burn, 0 ≤ b ∧ b ≤ 20 := by simp
  by_cases hd : Dims t
  · have ha := dims_area hd
    have hd' := hd
    unfold Dims at hd'
    by_cases hs : (t.burn.length : Int) = t.width * t.height
    · repeat' (first
      | (refine g_exec ?_; first | (refine g_move ?_; refine x_moveO _ rfl ?_) | (refine g_assign ?_; refine x_assignO _ rfl ?_) | (refine g_bin ?_; first | (refine x_mul rfl rfl aO ?_) | (refine x_bin _ rfl rfl rfl ?_) | (refine x_boolEq aA rfl rfl ?_) | (refine x_strBin _ rfl rfl rfl ?_)) | (refine g_load ?_; first | (refine x_load_pc aA rfl ?_) | (refine x_load_oc _ aA rfl rfl aE rfl ?_) | (refine x_load_pa _ aA rfl aZ aL ?_) | (refine x_load_oa _ aA rfl rfl aE aZ aL ?_)) | (refine g_field ?_; first | (refine x_field_p _ aA rfl aL ?_) | (refine x_field_o _ aA rfl rfl (by simp only [lx, Nat.reduceAdd]; first | done | rfl) ?_)) | (refine g_pick ?_; first | (refine x_pick_b rfl aD rfl ?_) | (refine x_pick_c rfl aD ?_) | (refine x_pick_a rfl aD ?_) | (refine x_pick_d rfl aD rfl ?_)) | (refine g_guard ?_; first | (refine x_gyes rfl rfl aD ?_) | (refine x_gno rfl rfl aD ?_) | (refine x_gun rfl rfl ?_) | (refine x_gsplit rfl rfl (fun h => ?_) (fun h => ?_) <;> (have h' := h; (try simp only [sx] at h')))) | (refine g_call ?_; first | (refine x_callG true (k_in _ _ _) rfl rfl rfl aS rfl aH ?_; simp only [cl]) | (refine x_callG true (kA) rfl rfl rfl aS rfl aH ?_; simp only [cl]) | (refine x_len_l aA rfl ?_) | (refine x_len_o aA rfl rfl ?_) | (refine x_len_n aA rfl ?_) | (refine x_len_s aA (evO_ok rfl) ?_)) | (refine x_boxO _ _ rfl rfl rfl rfl ?_) | (refine x_nil (hK _ _ (.inl rfl) ?_); clear hK K) | (refine x_nil (hK _ _ (.inr (by kernel_rfl)) ?_); clear hK K))
      | (refine g_code ?_; first | (refine v_seq ?_) | (refine v_region (fun K hK => ?_)) | (refine v_block ?_) | (refine v_skip ?_) | (refine v_ret ?_) | (refine v_exit ?_))
      | (refine q_then ?_) | (refine q_then_r ?_) | (refine q_then_e ?_) | (refine q_blk_n ?_) | (refine q_blk_r ?_) | (refine q_blk_e ?_) | (refine q_blk_o rfl ?_) | (refine q_loop_r ?_) | (refine q_loop_e ?_) | (refine ret_n ?_))
      refine ret_bool rfl (lookE_ok rfl) ?_
      rw [Bool.eq_iff_iff, h5]
      simp only [decide_eq_true_eq]
      exact ⟨fun h => ⟨hd, hs, h⟩, fun h => h.2.2⟩
    · repeat' (first
      | (refine g_exec ?_; first | (refine g_move ?_; refine x_moveO _ rfl ?_) | (refine g_assign ?_; refine x_assignO _ rfl ?_) | (refine g_bin ?_; first | (refine x_mul rfl rfl aO ?_) | (refine x_bin _ rfl rfl rfl ?_) | (refine x_boolEq aA rfl rfl ?_) | (refine x_strBin _ rfl rfl rfl ?_)) | (refine g_load ?_; first | (refine x_load_pc aA rfl ?_) | (refine x_load_oc _ aA rfl rfl aE rfl ?_) | (refine x_load_pa _ aA rfl aZ aL ?_) | (refine x_load_oa _ aA rfl rfl aE aZ aL ?_)) | (refine g_field ?_; first | (refine x_field_p _ aA rfl aL ?_) | (refine x_field_o _ aA rfl rfl (by simp only [lx, Nat.reduceAdd]; first | done | rfl) ?_)) | (refine g_pick ?_; first | (refine x_pick_b rfl aD rfl ?_) | (refine x_pick_c rfl aD ?_) | (refine x_pick_a rfl aD ?_) | (refine x_pick_d rfl aD rfl ?_)) | (refine g_guard ?_; first | (refine x_gyes rfl rfl aD ?_) | (refine x_gno rfl rfl aD ?_) | (refine x_gun rfl rfl ?_) | (refine x_gsplit rfl rfl (fun h => ?_) (fun h => ?_) <;> (have h' := h; (try simp only [sx] at h')))) | (refine g_call ?_; first | (refine x_callG true (k_in _ _ _) rfl rfl rfl aS rfl aH ?_; simp only [cl]) | (refine x_callG true (kA) rfl rfl rfl aS rfl aH ?_; simp only [cl]) | (refine x_len_l aA rfl ?_) | (refine x_len_o aA rfl rfl ?_) | (refine x_len_n aA rfl ?_) | (refine x_len_s aA (evO_ok rfl) ?_)) | (refine x_boxO _ _ rfl rfl rfl rfl ?_) | (refine x_nil (hK _ _ (.inl rfl) ?_); clear hK K) | (refine x_nil (hK _ _ (.inr (by kernel_rfl)) ?_); clear hK K))
      | (refine g_code ?_; first | (refine v_seq ?_) | (refine v_region (fun K hK => ?_)) | (refine v_block ?_) | (refine v_skip ?_) | (refine v_ret ?_) | (refine v_exit ?_))
      | (refine q_then ?_) | (refine q_then_r ?_) | (refine q_then_e ?_) | (refine q_blk_n ?_) | (refine q_blk_r ?_) | (refine q_blk_e ?_) | (refine q_blk_o rfl ?_) | (refine q_loop_r ?_) | (refine q_loop_e ?_) | (refine ret_n ?_))
      refine ret_bool rfl (lookE_ok rfl) ?_
      have : ¬ GoodT t := fun h => hs h.2.1
      simp [this]
      try omega
  · have hng : ¬ GoodT t := fun h => hd h.1
    rw [show decide (GoodT t) = false from by simp [hng]]
    unfold Dims at hd
    repeat' (first
      | (refine g_exec ?_; first | (refine g_move ?_; refine x_moveO _ rfl ?_) | (refine g_assign ?_; refine x_assignO _ rfl ?_) | (refine g_bin ?_; first | (refine x_mul rfl rfl aO ?_) | (refine x_bin _ rfl rfl rfl ?_) | (refine x_boolEq aA rfl rfl ?_) | (refine x_strBin _ rfl rfl rfl ?_)) | (refine g_load ?_; first | (refine x_load_pc aA rfl ?_) | (refine x_load_oc _ aA rfl rfl aE rfl ?_) | (refine x_load_pa _ aA rfl aZ aL ?_) | (refine x_load_oa _ aA rfl rfl aE aZ aL ?_)) | (refine g_field ?_; first | (refine x_field_p _ aA rfl aL ?_) | (refine x_field_o _ aA rfl rfl (by simp only [lx, Nat.reduceAdd]; first | done | rfl) ?_)) | (refine g_pick ?_; first | (refine x_pick_b rfl aD rfl ?_) | (refine x_pick_c rfl aD ?_) | (refine x_pick_a rfl aD ?_) | (refine x_pick_d rfl aD rfl ?_)) | (refine g_guard ?_; first | (refine x_gyes rfl rfl aD ?_) | (refine x_gno rfl rfl aD ?_) | (refine x_gun rfl rfl ?_) | (refine x_gsplit rfl rfl (fun h => ?_) (fun h => ?_) <;> (have h' := h; (try simp only [sx] at h')))) | (refine g_call ?_; first | (refine x_callG true (k_in _ _ _) rfl rfl rfl aS rfl aH ?_; simp only [cl]) | (refine x_callG true (kA) rfl rfl rfl aS rfl aH ?_; simp only [cl]) | (refine x_len_l aA rfl ?_) | (refine x_len_o aA rfl rfl ?_) | (refine x_len_n aA rfl ?_) | (refine x_len_s aA (evO_ok rfl) ?_)) | (refine x_boxO _ _ rfl rfl rfl rfl ?_) | (refine x_nil (hK _ _ (.inl rfl) ?_); clear hK K) | (refine x_nil (hK _ _ (.inr (by kernel_rfl)) ?_); clear hK K))
      | (refine g_code ?_; first | (refine v_seq ?_) | (refine v_region (fun K hK => ?_)) | (refine v_block ?_) | (refine v_skip ?_) | (refine v_ret ?_) | (refine v_exit ?_))
      | (refine q_then ?_) | (refine q_then_r ?_) | (refine q_then_e ?_) | (refine q_blk_n ?_) | (refine q_blk_r ?_) | (refine q_blk_e ?_) | (refine q_blk_o rfl ?_) | (refine q_loop_r ?_) | (refine q_loop_e ?_) | (refine ret_n ?_))
    all_goals first
      | (exfalso; omega)
      | exact ret_bool rfl (lookE_ok rfl) rfl
      | (refine ret_bool rfl (lookE_ok rfl) ?_; simp; omega)
theorem k_isCell (t : Terrain) (c : Int) (hn : t.burn.length ≤ 1099511627776) : Con Try.prog 153 [.agg t.pv, .int .i64 c] (.bool (decide (0 ≤ c ∧ c < t.burn.length))) := by
  intro al
  refine contract_of hmix Try.func153 rfl (by kernel_rfl) (by kernel_rfl) (Nat.le_of_ble_eq_true rfl) (fun row h => by cases h) ?_
  have hty_f26_2 := ty_f26_2
  have hty_c24 := ty_c24
  have hty_u24 := ty_u24
  have hty_s24 := ty_s24
  have hl1 : (ints t.burn).length = t.burn.length := by simp
  repeat' (first
      | (refine g_exec ?_; first | (refine g_move ?_; refine x_moveO _ rfl ?_) | (refine g_assign ?_; refine x_assignO _ rfl ?_) | (refine g_bin ?_; first | (refine x_sub rfl rfl aO ?_) | (refine x_bin _ rfl rfl rfl ?_)) | (refine g_load ?_; first | (refine x_load_pc aA rfl ?_) | (refine x_load_oc _ aA rfl rfl aE rfl ?_) | (refine x_load_pa _ aA rfl aZ aL ?_) | (refine x_load_oa _ aA rfl rfl aE aZ aL ?_)) | (refine g_field ?_; first | (refine x_field_p _ aA rfl aL ?_) | (refine x_field_o _ aA rfl rfl (by simp only [lx, Nat.reduceAdd]; first | done | rfl) ?_)) | (refine g_call ?_; first | (refine x_callG true (k_in _ _ _) rfl rfl rfl aS rfl aH ?_; simp only [cl]) | (refine x_len_l aA rfl ?_) | (refine x_len_o aA rfl rfl ?_) | (refine x_len_n aA rfl ?_) | (refine x_len_s aA (evO_ok rfl) ?_)) | (refine x_boxO _ _ rfl rfl rfl rfl ?_) | (refine x_nil (hK _ _ (.inl rfl) ?_); clear hK K) | (refine x_nil (hK _ _ (.inr (by kernel_rfl)) ?_); clear hK K))
      | (refine g_code ?_; first | (refine v_seq ?_) | (refine v_region (fun K hK => ?_)) | (refine v_block ?_) | (refine v_skip ?_) | (refine v_ret ?_) | (refine v_exit ?_))
      | (refine q_then ?_) | (refine q_then_r ?_) | (refine q_then_e ?_) | (refine q_blk_n ?_) | (refine q_blk_r ?_) | (refine q_blk_e ?_) | (refine q_blk_o rfl ?_) | (refine q_loop_r ?_) | (refine q_loop_e ?_) | (refine ret_n ?_))
  refine ret_bool rfl (lookE_ok rfl) ?_
  rw [Bool.eq_iff_iff]
  simp only [sx]
  omega
theorem k_all1IntT (a : Int) (g : FuncId) (t : Terrain) (b : Bool) (hg : Con Try.prog g [.agg t.pv, .int .i64 a] (.bool b)) :
    Con Try.prog 114 [.int .i64 a, .ptr [.fn g [.agg t.pv] []]] (.bool (!b)) := by
  intro al
  refine contract_of hmix Try.func114 rfl (by kernel_rfl) (by kernel_rfl) (Nat.le_of_ble_eq_true rfl) (fun row h => by cases h) ?_
  have hty_c68 := ty_c68
  repeat' (first
      | (refine g_exec ?_; first | (refine g_move ?_; refine x_moveO _ rfl ?_) | (refine g_assign ?_; refine x_assignO _ rfl ?_) | (refine g_un ?_; first | (refine x_not rfl ?_) | (refine x_neg rfl aO ?_)) | (refine g_load ?_; first | (refine x_load_pc aA rfl ?_) | (refine x_load_oc _ aA rfl rfl aE rfl ?_) | (refine x_load_pa _ aA rfl aZ aL ?_) | (refine x_load_oa _ aA rfl rfl aE aZ aL ?_)) | (refine g_call ?_; refine x_callG true (hg) rfl rfl rfl aS rfl aH ?_; simp only [cl]) | (refine x_nil (hK _ _ (.inl rfl) ?_); clear hK K) | (refine x_nil (hK _ _ (.inr (by kernel_rfl)) ?_); clear hK K))
      | (refine g_code ?_; first | (refine v_seq ?_) | (refine v_region (fun K hK => ?_)) | (refine v_block ?_) | (refine v_skip ?_) | (refine v_ret ?_) | (refine v_exit ?_))
      | (refine q_then ?_) | (refine q_then_r ?_) | (refine q_then_e ?_) | (refine q_blk_n ?_) | (refine q_blk_r ?_) | (refine q_blk_e ?_) | (refine q_blk_o rfl ?_) | (refine q_loop_r ?_) | (refine q_loop_e ?_) | (refine ret_n ?_))
  exact ret_bool rfl (lookE_ok rfl) rfl
theorem k_allIntT (xs : List Int) (g : FuncId) (t : Terrain) (p : Int → Bool) (hg : ∀ a ∈ xs, Con Try.prog g [.agg t.pv, .int .i64 a] (.bool (p a))) (hn : xs.length ≤ 1099511627776) :
    Con Try.prog 58 [.list 1 (ints xs), .fn g [.agg t.pv] []] (.bool (xs.all p)) := by
  intro al
  refine contract_of hmix Try.func58 rfl (by kernel_rfl) (by kernel_rfl) (Nat.le_of_ble_eq_true rfl) (fun row h => by cases h) ?_
  have hty_u24 := ty_u24
  have hty_s24 := ty_s24
  repeat' (first
      | (refine g_exec ?_; first | (refine g_move ?_; refine x_moveO _ rfl ?_) | (refine g_assign ?_; refine x_assignO _ rfl ?_) | (refine g_un ?_; first | (refine x_not rfl ?_) | (refine x_neg rfl aO ?_)) | (refine g_call ?_; refine x_callG true (k_ContainsFuncInt xs 114 [[.fn g [.agg t.pv] []]] (fun a => !p a) (fun a ha => k_all1IntT a g t (p a) (hg a ha)) hn) rfl rfl rfl aS rfl aH ?_; simp only [cl]) | (refine x_boxO _ _ rfl rfl rfl rfl ?_) | (refine x_mkfn _ _ rfl rfl ?_) | (refine x_nil (hK _ _ (.inl rfl) ?_); clear hK K) | (refine x_nil (hK _ _ (.inr (by kernel_rfl)) ?_); clear hK K))
      | (refine g_code ?_; first | (refine v_seq ?_) | (refine v_region (fun K hK => ?_)) | (refine v_block ?_) | (refine v_skip ?_) | (refine v_ret ?_) | (refine v_exit ?_))
      | (refine q_then ?_) | (refine q_then_r ?_) | (refine q_then_e ?_) | (refine q_blk_n ?_) | (refine q_blk_r ?_) | (refine q_blk_e ?_) | (refine q_blk_o rfl ?_) | (refine q_loop_r ?_) | (refine q_loop_e ?_) | (refine ret_n ?_))
  refine ret_bool rfl (lookE_ok rfl) ?_
  rw [List.all_eq_not_any_not]
theorem k_column (t : Terrain) (c : Int) (hw : 1 ≤ t.width) (hc : 0 ≤ c ∧ c ≤ 1000) : Con Try.prog 116 [.agg t.pv, .int .i64 c] (.int .i64 (c % t.width)) := by
  intro al
  refine contract_of hmix Try.func116 rfl (by kernel_rfl) (by kernel_rfl) (Nat.le_of_ble_eq_true rfl) (fun row h => by cases h) ?_
  have hty_f26_0 := ty_f26_0
  have hty_c3 := ty_c3
  repeat' (first
      | (refine g_exec ?_; first | (refine g_move ?_; refine x_moveO _ rfl ?_) | (refine g_assign ?_; refine x_assignO _ rfl ?_) | (refine g_bin ?_; first | (refine x_rem rfl rfl aO ?_) | (refine x_remT rfl rfl aO ?_) | (refine x_bin _ rfl rfl rfl ?_)) | (refine g_load ?_; first | (refine x_load_pc aA rfl ?_) | (refine x_load_oc _ aA rfl rfl aE rfl ?_) | (refine x_load_pa _ aA rfl aZ aL ?_) | (refine x_load_oa _ aA rfl rfl aE aZ aL ?_)) | (refine g_field ?_; first | (refine x_field_p _ aA rfl aL ?_) | (refine x_field_o _ aA rfl rfl (by simp only [lx, Nat.reduceAdd]; first | done | rfl) ?_)) | (refine x_boxO _ _ rfl rfl rfl rfl ?_) | (refine x_nil (hK _ _ (.inl rfl) ?_); clear hK K) | (refine x_nil (hK _ _ (.inr (by kernel_rfl)) ?_); clear hK K))
      | (refine g_code ?_; first | (refine v_seq ?_) | (refine v_region (fun K hK => ?_)) | (refine v_block ?_) | (refine v_skip ?_) | (refine v_ret ?_) | (refine v_exit ?_))
      | (refine q_then ?_) | (refine q_then_r ?_) | (refine q_then_e ?_) | (refine q_blk_n ?_) | (refine q_blk_r ?_) | (refine q_blk_e ?_) | (refine q_blk_o rfl ?_) | (refine q_loop_r ?_) | (refine q_loop_e ?_) | (refine ret_n ?_))
  exact ret_int rfl (lookE_ok rfl) rfl
theorem k_row (t : Terrain) (c : Int) (hw : 1 ≤ t.width) (hc : 0 ≤ c ∧ c ≤ 1000) : Con Try.prog 117 [.agg t.pv, .int .i64 c] (.int .i64 (c / t.width)) := by
  intro al
  refine contract_of hmix Try.func117 rfl (by kernel_rfl) (by kernel_rfl) (Nat.le_of_ble_eq_true rfl) (fun row h => by cases h) ?_
  have hty_f26_0 := ty_f26_0
  have hty_c3 := ty_c3
  repeat' (first
      | (refine g_exec ?_; first | (refine g_move ?_; refine x_moveO _ rfl ?_) | (refine g_assign ?_; refine x_assignO _ rfl ?_) | (refine g_bin ?_; first | (refine x_quo rfl rfl aO ?_) | (refine x_quoT rfl rfl aO ?_) | (refine x_bin _ rfl rfl rfl ?_)) | (refine g_load ?_; first | (refine x_load_pc aA rfl ?_) | (refine x_load_oc _ aA rfl rfl aE rfl ?_) | (refine x_load_pa _ aA rfl aZ aL ?_) | (refine x_load_oa _ aA rfl rfl aE aZ aL ?_)) | (refine g_field ?_; first | (refine x_field_p _ aA rfl aL ?_) | (refine x_field_o _ aA rfl rfl (by simp only [lx, Nat.reduceAdd]; first | done | rfl) ?_)) | (refine x_boxO _ _ rfl rfl rfl rfl ?_) | (refine x_nil (hK _ _ (.inl rfl) ?_); clear hK K) | (refine x_nil (hK _ _ (.inr (by kernel_rfl)) ?_); clear hK K))
      | (refine g_code ?_; first | (refine v_seq ?_) | (refine v_region (fun K hK => ?_)) | (refine v_block ?_) | (refine v_skip ?_) | (refine v_ret ?_) | (refine v_exit ?_))
      | (refine q_then ?_) | (refine q_then_r ?_) | (refine q_then_e ?_) | (refine q_blk_n ?_) | (refine q_blk_r ?_) | (refine q_blk_e ?_) | (refine q_blk_o rfl ?_) | (refine q_loop_r ?_) | (refine q_loop_e ?_) | (refine ret_n ?_))
  exact ret_int rfl (lookE_ok rfl) rfl
theorem k_l2Set (t : Terrain) (xs : List Int) (hn : t.burn.length ≤ 1099511627776) (hm : xs.length ≤ 1099511627776) : Con Try.prog 61 [.agg t.pv, .list 1 (ints xs)] (.bool (decide (GoodT t ∧ (∀ y ∈ xs, 0 ≤ y ∧ y < t.burn.length) ∧ Rising xs))) := by
  intro al
  refine contract_of hmix Try.func61 rfl (by kernel_rfl) (by kernel_rfl) (Nat.le_of_ble_eq_true rfl) (fun row h => by cases h) ?_
  have hty_a26 := ty_a26
  have hty_f26_2 := ty_f26_2
  have hty_c24 := ty_c24
  have hty_u24 := ty_u24
  have hty_s24 := ty_s24
  have hl1 : (ints t.burn).length = t.burn.length := by simp
  have e : (∀ y ∈ xs, 0 ≤ y ∧ y ≤ ((ints t.burn).length : Int) - 1) ↔ ∀ y ∈ xs, 0 ≤ y ∧ y < t.burn.length := by
    rw [hl1]
    constructor <;> intro h y hy <;> have := h y hy <;> omega
  repeat' (first
      | (refine g_exec ?_; first | (refine g_move ?_; refine x_moveO _ rfl ?_) | (refine g_assign ?_; refine x_assignO _ rfl ?_) | (refine g_bin ?_; first | (refine x_sub rfl rfl aO ?_) | (refine x_bin _ rfl rfl rfl ?_)) | (refine g_load ?_; first | (refine x_load_pc aA rfl ?_) | (refine x_load_oc _ aA rfl rfl aE rfl ?_) | (refine x_load_pa _ aA rfl aZ aL ?_) | (refine x_load_oa _ aA rfl rfl aE aZ aL ?_)) | (refine g_field ?_; first | (refine x_field_p _ aA rfl aL ?_) | (refine x_field_o _ aA rfl rfl (by simp only [lx, Nat.reduceAdd]; first | done | rfl) ?_)) | (refine g_pick ?_; first | (refine x_pick_b rfl aD rfl ?_) | (refine x_pick_c rfl aD ?_) | (refine x_pick_a rfl aD ?_) | (refine x_pick_d rfl aD rfl ?_)) | (refine g_guard ?_; first | (refine x_gyes rfl rfl aD ?_) | (refine x_gno rfl rfl aD ?_) | (refine x_gun rfl rfl ?_) | (refine x_gsplit rfl rfl (fun h => ?_) (fun h => ?_) <;> (have h' := h; (try simp only [sx] at h')))) | (refine g_call ?_; first | (refine x_callG true (k_l2Good t hn) rfl rfl rfl aS rfl aH ?_; simp only [cl]) | (refine x_callG true (k_l1Rising xs 0 (((ints t.burn).length : Int) - 1) hm) rfl rfl rfl aS rfl aH ?_; simp only [cl]) | (refine x_len_l aA rfl ?_) | (refine x_len_o aA rfl rfl ?_) | (refine x_len_n aA rfl ?_) | (refine x_len_s aA (evO_ok rfl) ?_)) | (refine x_boxO _ _ rfl rfl rfl rfl ?_) | (refine x_nil (hK _ _ (.inl rfl) ?_); clear hK K) | (refine x_nil (hK _ _ (.inr (by kernel_rfl)) ?_); clear hK K))
      | (refine g_code ?_; first | (refine v_seq ?_) | (refine v_region (fun K hK => ?_)) | (refine v_block ?_) | (refine v_skip ?_) | (refine v_ret ?_) | (refine v_exit ?_))
      | (refine q_then ?_) | (refine q_then_r ?_) | (refine q_then_e ?_) | (refine q_blk_n ?_) | (refine q_blk_r ?_) | (refine q_blk_e ?_) | (refine q_blk_o rfl ?_) | (refine q_loop_r ?_) | (refine q_loop_e ?_) | (refine ret_n ?_))
  all_goals
    (refine ret_bool rfl (lookE_ok rfl) ?_; rw [Bool.eq_iff_iff]; try simp only [sx] at *)
    first
      | (rw [e]; constructor
         · intro hq; exact ⟨by assumption, hq⟩
         · intro hq; exact hq.2)
      | (constructor <;> intro hq <;> first | contradiction | exact absurd hq.1 aA)
def cellsL (n : Nat) (p : Nat → Bool) : List Int := ((List.range n).filter p).map fun c : Nat => (c : Int)
theorem cellsL_len (n : Nat) (p : Nat → Bool) : (cellsL n p).length ≤ n := by
  simp only [cellsL, List.length_map]
  have := List.length_filter_le p (List.range n)
  simpa using this
theorem cellsL_mem {n : Nat} {p : Nat → Bool} {c : Int} : c ∈ cellsL n p ↔ ∃ i : Nat, i < n ∧ p i = true ∧ c = i := by
  simp only [cellsL, List.mem_map, List.mem_filter, List.mem_range]
  constructor
  · rintro ⟨i, ⟨h1, h2⟩, rfl⟩; exact ⟨i, h1, h2, rfl⟩
  · rintro ⟨i, h1, h2, rfl⟩; exact ⟨i, ⟨h1, h2⟩, rfl⟩
theorem cellsL_succ (n : Nat) (p : Nat → Bool) : cellsL (n + 1) p = cellsL n p ++ (if p n = true then [(n : Int)] else []) := by
  simp only [cellsL, List.range_succ, List.filter_append, List.map_append]
  by_cases h : p n = true <;> simp [h]
theorem cellsL_t {n : Nat} {p : Nat → Bool} (h : p n = true) : cellsL (n + 1) p = cellsL n p ++ [(n : Int)] := by rw [cellsL_succ, if_pos h]
theorem cellsL_f {n : Nat} {p : Nat → Bool} (h : p n = false) : cellsL (n + 1) p = cellsL n p := by rw [cellsL_succ, if_neg (by simp [h]), List.append_nil]
theorem k_cellsThat (t : Terrain) (g : FuncId) (ca : List (List PV)) (p : Nat → Bool) (hg : ∀ c : Nat, c < t.burn.length → Con Try.prog g (.int .i64 c :: ca.map PV.ptr) (.bool (p c))) (hn : t.burn.length ≤ 1099511627776) :
    Con Try.prog 56 [.agg t.pv, .fn g [] (ca.map PV.ptr)] (.olist 3 1 (ints (cellsL t.burn.length p))) := by
  intro al
  refine contract_of hmix Try.func56 rfl (by kernel_rfl) (by kernel_rfl) (Nat.le_of_ble_eq_true rfl) (fun row h => by cases h) ?_
  have hty_s24 := ty_s24
  have hty_f26_2 := ty_f26_2
  have hty_c24 := ty_c24
  have hty_u24 := ty_u24
  have hl1 : (ints t.burn).length = t.burn.length := by simp
  repeat' (first
      | (refine g_exec ?_; first | (refine g_move ?_; refine x_moveO _ rfl ?_) | (refine g_assign ?_; refine x_assignO _ rfl ?_) | (refine g_bin ?_; first | (refine x_add rfl rfl aO ?_) | (refine x_bin _ rfl rfl rfl ?_) | (refine x_strBin _ rfl rfl rfl ?_)) | (refine g_load ?_; first | (refine x_load_pc aA rfl ?_) | (refine x_load_oc _ aA rfl rfl aE rfl ?_) | (refine x_load_pa _ aA rfl aZ aL ?_) | (refine x_load_oa _ aA rfl rfl aE aZ aL ?_)) | (refine g_field ?_; first | (refine x_field_p _ aA rfl aL ?_) | (refine x_field_o _ aA rfl rfl (by simp only [lx, Nat.reduceAdd]; first | done | rfl) ?_)) | (refine g_call ?_; first | (refine x_len_l aA rfl ?_) | (refine x_len_o aA rfl rfl ?_) | (refine x_len_n aA rfl ?_) | (refine x_len_s aA (evO_ok rfl) ?_) | (refine x_appOO _ _ aA rfl (lookM (by rfl)) rfl (lookM (by rfl)) rfl aN ⟨rfl, rfl, by decide, by decide⟩ (by first | rfl | omega | (simp; done) | (simp; omega) | fail) ⟨by first | (simp only [List.length_cons, List.length_nil]; omega) | omega | fail, by decide⟩ rfl (by first | (first | (simp only [lx, Nat.reduceAdd]; first | done | rfl) | fail) | rfl) aP ?_) | (refine x_appCO _ _ aA rfl rfl (lookM (by rfl)) ⟨rfl, by decide⟩ aN (by first | exact Nat.succ_pos _ | omega | (simp; done)) ⟨by first | (simp only [List.length_cons, List.length_nil]; omega) | omega | fail, by decide⟩ rfl rfl aP ?_) | (refine x_appNO _ aA rfl rfl (lookM (by rfl)) ⟨rfl, by decide⟩ aN ⟨by first | (simp only [List.length_cons, List.length_nil]; omega) | omega | fail, by decide⟩ rfl aP ?_) | (refine x_app_ol _ aA rfl rfl rfl ⟨rfl, rfl, rfl, by decide, by decide⟩ (by first | rfl | (simp; done) | fail) ⟨by omega, by decide⟩ rfl aL (by first | (rw [Nat.zero_add]) | rfl) ?_)) | (refine x_buildSliceO aA rfl rfl rfl ?_) | (refine x_boxO _ _ rfl rfl rfl rfl ?_) | (refine x_nil (hK _ _ (.inl rfl) ?_); clear hK K) | (refine x_nil (hK _ _ (.inr (by kernel_rfl)) ?_); clear hK K))
      | (refine g_code ?_; first | (refine v_seq ?_) | (refine v_region (fun K hK => ?_)) | (refine v_block ?_) | (refine v_skip ?_) | (refine v_ret ?_) | (refine v_exit ?_) | (refine g_cond ?_; first | (refine v_cond_y rfl aD ?_) | (refine v_cond_n rfl aD ?_) | (refine v_condt rfl (fun h => ?_) (fun h => ?_) <;> (have h' := h; (try simp only [sx] at h')))))
      | (refine q_then ?_) | (refine q_then_r ?_) | (refine q_then_e ?_) | (refine q_blk_n ?_) | (refine q_blk_r ?_) | (refine q_blk_e ?_) | (refine q_blk_o rfl ?_) | (refine q_loop_r ?_) | (refine q_loop_e ?_) | (refine ret_n ?_))
  refine v_loopK [1, 10] [] (fun q : Nat × Nat × List (List PV) => [(5, .osl (1001, 0) 0 q.2.1), (11, .int .i64 q.1)]) (fun q : Nat × Nat × List (List PV) => [((1001, 0), some ⟨3, 1, q.2.2, false⟩)]) (fun q : Nat × Nat × List (List PV) => q.1 ≤ t.burn.length ∧ q.2.2 = ints (cellsL q.1 p) ∧ q.2.2.length = q.2.1) (fun q : Nat × Nat × List (List PV) => t.burn.length - q.1) ((0, 0, [])) rfl rfl (fun _ => rfl) (fun _ => rfl) rfl (by refine ⟨?_, ?_, rfl, rfl⟩ <;> (repeat' (first | exact trivial | exact ⟨rfl, rfl⟩ | exact rfl | exact ⟨sub_fn, refs_fn⟩ | refine ⟨⟨rfl, rfl⟩, ?_⟩ | refine ⟨⟨sub_fn, refs_fn⟩, ?_⟩ | refine ⟨⟨rfl, fun h => Bool.noConfusion h⟩, ?_⟩ | refine ⟨⟨rfl, fun h => ?_⟩, ?_⟩ | refine ⟨rfl, ?_⟩ | refine ⟨?_, ?_⟩ | fail))) ⟨by simp, by simp [cellsL], rfl⟩ (fun q hq => ?_)
  obtain ⟨i, m, es⟩ := q
  obtain ⟨hi1, hi2, hl⟩ := hq
  simp only at hi1 hi2 hl
  have hle : es.length ≤ i := by rw [hi2, ints_len]; exact cellsL_len i p
  dsimp only
  rcases Nat.lt_or_ge i t.burn.length with hlt | hge
  · have kg := hg i hlt
    repeat' (first
      | (refine g_exec ?_; first | (refine g_move ?_; refine x_moveO _ rfl ?_) | (refine g_assign ?_; refine x_assignO _ rfl ?_) | (refine g_bin ?_; first | (refine x_add rfl rfl aO ?_) | (refine x_bin _ rfl rfl rfl ?_) | (refine x_strBin _ rfl rfl rfl ?_)) | (refine g_load ?_; first | (refine x_load_pc aA rfl ?_) | (refine x_load_oc _ aA rfl rfl aE rfl ?_) | (refine x_load_pa _ aA rfl aZ aL ?_) | (refine x_load_oa _ aA rfl rfl aE aZ aL ?_)) | (refine g_field ?_; first | (refine x_field_p _ aA rfl aL ?_) | (refine x_field_o _ aA rfl rfl (by simp only [lx, Nat.reduceAdd]; first | done | rfl) ?_)) | (refine g_call ?_; first | (refine x_callG true (kg) rfl rfl rfl aS rfl aH ?_; simp only [cl]) | (refine x_call [] _ (kg) rfl rfl aS rfl aH ?_; simp only [cl]) | (refine x_len_l aA rfl ?_) | (refine x_len_o aA rfl rfl ?_) | (refine x_len_n aA rfl ?_) | (refine x_len_s aA (evO_ok rfl) ?_) | (refine x_appOO _ _ aA rfl (lookM (by rfl)) rfl (lookM (by rfl)) rfl aN ⟨rfl, rfl, by decide, by decide⟩ (by first | rfl | omega | (simp; done) | (simp; omega) | fail) ⟨by first | (simp only [List.length_cons, List.length_nil]; omega) | omega | fail, by decide⟩ rfl (by first | (first | (simp only [lx, Nat.reduceAdd]; first | done | rfl) | fail) | rfl) aP ?_) | (refine x_appCO _ _ aA rfl rfl (lookM (by rfl)) ⟨rfl, by decide⟩ aN (by first | exact Nat.succ_pos _ | omega | (simp; done)) ⟨by first | (simp only [List.length_cons, List.length_nil]; omega) | omega | fail, by decide⟩ rfl rfl aP ?_) | (refine x_appNO _ aA rfl rfl (lookM (by rfl)) ⟨rfl, by decide⟩ aN ⟨by first | (simp only [List.length_cons, List.length_nil]; omega) | omega | fail, by decide⟩ rfl aP ?_) | (refine x_app_ol _ aA rfl rfl rfl ⟨rfl, rfl, rfl, by decide, by decide⟩ (by first | rfl | (simp; done) | fail) ⟨by omega, by decide⟩ rfl aL (by first | (rw [Nat.zero_add]) | rfl) ?_)) | (refine x_buildSliceO aA rfl rfl rfl ?_) | (refine x_boxO _ _ rfl rfl rfl rfl ?_) | (refine x_nil (hK _ _ (.inl rfl) ?_); clear hK K) | (refine x_nil (hK _ _ (.inr (by kernel_rfl)) ?_); clear hK K))
      | (refine g_code ?_; first | (refine v_seq ?_) | (refine v_region (fun K hK => ?_)) | (refine v_block ?_) | (refine v_skip ?_) | (refine v_ret ?_) | (refine v_exit ?_) | (refine g_cond ?_; first | (refine v_cond_y rfl aD ?_) | (refine v_cond_n rfl aD ?_) | (refine v_condt rfl (fun h => ?_) (fun h => ?_) <;> (have h' := h; (try simp only [sx] at h')))))
      | (refine q_then ?_) | (refine q_then_r ?_) | (refine q_then_e ?_) | (refine q_blk_n ?_) | (refine q_blk_r ?_) | (refine q_blk_e ?_) | (refine q_blk_o rfl ?_) | (refine q_loop_r ?_) | (refine q_loop_e ?_) | (refine ret_n ?_))
    · refine q_next (i + 1, m + 1, es ++ [[.int .i64 i]]) rfl (by refine ⟨?_, ?_, rfl, rfl⟩ <;> (repeat' (first | exact trivial | exact ⟨rfl, rfl⟩ | exact rfl | exact ⟨sub_fn, refs_fn⟩ | refine ⟨⟨rfl, rfl⟩, ?_⟩ | refine ⟨⟨sub_fn, refs_fn⟩, ?_⟩ | refine ⟨⟨rfl, fun h => Bool.noConfusion h⟩, ?_⟩ | refine ⟨⟨rfl, fun h => ?_⟩, ?_⟩ | refine ⟨rfl, ?_⟩ | refine ⟨?_, ?_⟩ | fail))) ⟨by simp only; omega, ?_, by simp [hl]⟩ (by simp only; omega)
      simp only [cellsL_t (show p i = true by assumption), ints_snoc, hi2]
    · refine q_next (i + 1, m, es) rfl (by refine ⟨?_, ?_, rfl, rfl⟩ <;> (repeat' (first | exact trivial | exact ⟨rfl, rfl⟩ | exact rfl | exact ⟨sub_fn, refs_fn⟩ | refine ⟨⟨rfl, rfl⟩, ?_⟩ | refine ⟨⟨sub_fn, refs_fn⟩, ?_⟩ | refine ⟨⟨rfl, fun h => Bool.noConfusion h⟩, ?_⟩ | refine ⟨⟨rfl, fun h => ?_⟩, ?_⟩ | refine ⟨rfl, ?_⟩ | refine ⟨?_, ?_⟩ | fail))) ⟨by simp only; omega, ?_, hl⟩ (by simp only; omega)
      simp only [cellsL_f (show p i = false by assumption), hi2]
  · have : i = t.burn.length := by omega
    subst this
    repeat' (first
      | (refine g_exec ?_; first | (refine g_move ?_; refine x_moveO _ rfl ?_) | (refine g_assign ?_; refine x_assignO _ rfl ?_) | (refine g_bin ?_; first | (refine x_add rfl rfl aO ?_) | (refine x_bin _ rfl rfl rfl ?_) | (refine x_strBin _ rfl rfl rfl ?_)) | (refine g_load ?_; first | (refine x_load_pc aA rfl ?_) | (refine x_load_oc _ aA rfl rfl aE rfl ?_) | (refine x_load_pa _ aA rfl aZ aL ?_) | (refine x_load_oa _ aA rfl rfl aE aZ aL ?_)) | (refine g_field ?_; first | (refine x_field_p _ aA rfl aL ?_) | (refine x_field_o _ aA rfl rfl (by simp only [lx, Nat.reduceAdd]; first | done | rfl) ?_)) | (refine g_call ?_; first | (refine x_len_l aA rfl ?_) | (refine x_len_o aA rfl rfl ?_) | (refine x_len_n aA rfl ?_) | (refine x_len_s aA (evO_ok rfl) ?_) | (refine x_appOO _ _ aA rfl (lookM (by rfl)) rfl (lookM (by rfl)) rfl aN ⟨rfl, rfl, by decide, by decide⟩ (by first | rfl | omega | (simp; done) | (simp; omega) | fail) ⟨by first | (simp only [List.length_cons, List.length_nil]; omega) | omega | fail, by decide⟩ rfl (by first | (first | (simp only [lx, Nat.reduceAdd]; first | done | rfl) | fail) | rfl) aP ?_) | (refine x_appCO _ _ aA rfl rfl (lookM (by rfl)) ⟨rfl, by decide⟩ aN (by first | exact Nat.succ_pos _ | omega | (simp; done)) ⟨by first | (simp only [List.length_cons, List.length_nil]; omega) | omega | fail, by decide⟩ rfl rfl aP ?_) | (refine x_appNO _ aA rfl rfl (lookM (by rfl)) ⟨rfl, by decide⟩ aN ⟨by first | (simp only [List.length_cons, List.length_nil]; omega) | omega | fail, by decide⟩ rfl aP ?_) | (refine x_app_ol _ aA rfl rfl rfl ⟨rfl, rfl, rfl, by decide, by decide⟩ (by first | rfl | (simp; done) | fail) ⟨by omega, by decide⟩ rfl aL (by first | (rw [Nat.zero_add]) | rfl) ?_)) | (refine x_buildSliceO aA rfl rfl rfl ?_) | (refine x_boxO _ _ rfl rfl rfl rfl ?_) | (refine x_nil (hK _ _ (.inl rfl) ?_); clear hK K) | (refine x_nil (hK _ _ (.inr (by kernel_rfl)) ?_); clear hK K))
      | (refine g_code ?_; first | (refine v_seq ?_) | (refine v_region (fun K hK => ?_)) | (refine v_block ?_) | (refine v_skip ?_) | (refine v_ret ?_) | (refine v_exit ?_) | (refine g_cond ?_; first | (refine v_cond_y rfl aD ?_) | (refine v_cond_n rfl aD ?_) | (refine v_condt rfl (fun h => ?_) (fun h => ?_) <;> (have h' := h; (try simp only [sx] at h')))))
      | (refine q_then ?_) | (refine q_then_r ?_) | (refine q_then_e ?_) | (refine q_blk_n ?_) | (refine q_blk_r ?_) | (refine q_blk_e ?_) | (refine q_blk_o rfl ?_) | (refine q_loop_r ?_) | (refine q_loop_e ?_) | (refine ret_n ?_))
    exact ret_list rfl (lookE_ok (by rfl)) (by rfl) (by decide) hl.symm (by rw [hi2]; exact ints_flat _) hi2
end Go.Vs
set_option linter.unusedVariables false
set_option linter.unusedSimpArgs false
set_option maxRecDepth 100000
set_option maxHeartbeats 4000000
namespace Go.Vs
open Go.Proofs
attribute [local irreducible] exec vwp thenQ blkQ loopQ RetPost
def IsCell (t : Terrain) (c : Int) : Prop := 0 ≤ c ∧ c < t.burn.length
instance (t : Terrain) (c : Int) : Decidable (IsCell t c) := by unfold IsCell; infer_instance
@[reducible] def colOf (t : Terrain) (c : Int) : Int := c % t.width
@[reducible] def rowOf (t : Terrain) (c : Int) : Int := c / t.width
theorem cell_place {t : Terrain} (hg : GoodT t) {c : Int} (hc : IsCell t c) : (0 ≤ colOf t c ∧ colOf t c < t.width) ∧ (0 ≤ rowOf t c ∧ rowOf t c < t.height) ∧ rowOf t c * t.width + colOf t c = c := by
  have hw := hg.1.1
  have ha := hg.2.1
  have h1 := hc.2
  refine ⟨⟨Int.emod_nonneg _ aO, Int.emod_lt_of_pos _ aO⟩, ⟨Int.ediv_nonneg hc.1 aO, Int.ediv_lt_of_lt_mul aO ?_⟩, ?_⟩
  · rw [Int.mul_comm]; omega
  · show c / t.width * t.width + c % t.width = c
    rw [Int.emod_def, Int.mul_comm]; omega
@[reducible] def absI (x : Int) : Int := max x (-x)
@[reducible] def apart (t : Terrain) (a b : Int) : Int := max (absI (colOf t a - colOf t b)) (absI (rowOf t a - rowOf t b))
theorem apart_comm (t : Terrain) (a b : Int) : apart t a b = apart t b a := by simp only [apart, absI]; omega
@[reducible] def burnAt (t : Terrain) (c : Int) : Int := t.burn.getD c.toNat 0
theorem burn_at {t : Terrain} {c : Int} (hc : IsCell t c) : t.burn[c.toNat]? = some (burnAt t c) := by
  obtain ⟨a, ha⟩ := get_ex (show c.toNat < t.burn.length by have := hc; unfold IsCell at this; omega)
  rw [ha, burnAt, getI ha]
@[reducible] def nearP (t : Terrain) (c : Int) (i : Nat) : Bool := decide (apart t c i = 1)
def nears (t : Terrain) (c : Int) : List Int := cellsL t.burn.length (nearP t c)
theorem nears_mem {t : Terrain} {c x : Int} : x ∈ nears t c ↔ IsCell t x ∧ apart t c x = 1 := by
  rw [nears, cellsL_mem]
  constructor
  · rintro ⟨i, h1, h2, rfl⟩
    exact ⟨⟨by omega, by omega⟩, by simpa [nearP] using h2⟩
  · rintro ⟨⟨h1, h2⟩, h3⟩
    refine ⟨x.toNat, by omega, ?_, by omega⟩
    have : ((x.toNat : Nat) : Int) = x := by omega
    simp only [nearP, this, h3, decide_true]
theorem nears_len (t : Terrain) (c : Int) : (nears t c).length ≤ t.burn.length := cellsL_len _ _
theorem k_l2Apart (t : Terrain) (a b : Int) (hg : GoodT t) (ha : IsCell t a) (hb : IsCell t b) : Con Try.prog 120 [.agg t.pv, .int .i64 a, .int .i64 b] (.int .i64 (apart t a b)) := by
  intro al
  refine contract_of hmix Try.func120 rfl (by kernel_rfl) (by kernel_rfl) (Nat.le_of_ble_eq_true rfl) (fun row h => by cases h) ?_
  have hty_f26_0 := ty_f26_0
  have hty_c3 := ty_c3
  have hd := hg.1
  unfold Dims at hd
  have p1 := cell_place hg ha
  have p2 := cell_place hg hb
  dsimp only [colOf, rowOf] at p1 p2
  have hca := ha
  have hcb := hb
  unfold IsCell at hca hcb
  have hl := goodT_len hg
  repeat' (first
      | (refine g_exec ?_; first | (refine g_move ?_; refine x_moveO _ rfl ?_) | (refine g_assign ?_; refine x_assignO _ rfl ?_) | (refine g_bin ?_; first | (refine x_sub rfl rfl aO ?_) | (refine x_quo rfl rfl aO ?_) | (refine x_rem rfl rfl aO ?_) | (refine x_quoT rfl rfl aO ?_) | (refine x_remT rfl rfl aO ?_) | (refine x_bin _ rfl rfl rfl ?_)) | (refine g_un ?_; first | (refine x_not rfl ?_) | (refine x_neg rfl aO ?_)) | (refine g_load ?_; first | (refine x_load_pc aA rfl ?_) | (refine x_load_oc _ aA rfl rfl aE rfl ?_) | (refine x_load_pa _ aA rfl aZ aL ?_) | (refine x_load_oa _ aA rfl rfl aE aZ aL ?_)) | (refine g_field ?_; first | (refine x_field_p _ aA rfl aL ?_) | (refine x_field_o _ aA rfl rfl (by simp only [lx, Nat.reduceAdd]; first | done | rfl) ?_)) | (refine g_call ?_; refine x_callG true (k_l1Most _ _) rfl rfl rfl aS rfl aH ?_; simp only [cl]) | (refine x_boxO _ _ rfl rfl rfl rfl ?_) | (refine x_nil (hK _ _ (.inl rfl) ?_); clear hK K) | (refine x_nil (hK _ _ (.inr (by kernel_rfl)) ?_); clear hK K))
      | (refine g_code ?_; first | (refine v_seq ?_) | (refine v_region (fun K hK => ?_)) | (refine v_block ?_) | (refine v_skip ?_) | (refine v_ret ?_) | (refine v_exit ?_))
      | (refine q_then ?_) | (refine q_then_r ?_) | (refine q_then_e ?_) | (refine q_blk_n ?_) | (refine q_blk_r ?_) | (refine q_blk_e ?_) | (refine q_blk_o rfl ?_) | (refine q_loop_r ?_) | (refine q_loop_e ?_) | (refine ret_n ?_))
  exact ret_int rfl (lookE_ok rfl) rfl
theorem k_l2Near (t : Terrain) (c : Int) (hg : GoodT t) (hc : IsCell t c) : Con Try.prog 63 [.agg t.pv, .int .i64 c] (.olist 3 1 (ints (nears t c))) := by
  intro al
  refine contract_of hmix Try.func63 rfl (by kernel_rfl) (by kernel_rfl) (Nat.le_of_ble_eq_true rfl) (fun row h => by cases h) ?_
  have hty_s24 := ty_s24
  have hty_f26_2 := ty_f26_2
  have hty_c24 := ty_c24
  have hty_u24 := ty_u24
  have hty_a26 := ty_a26
  have hl1 : (ints t.burn).length = t.burn.length := by simp
  have hlen := goodT_len hg
  repeat' (first
      | (refine g_exec ?_; first | (refine g_move ?_; refine x_moveO _ rfl ?_) | (refine g_assign ?_; refine x_assignO _ rfl ?_) | (refine g_bin ?_; first | (refine x_add rfl rfl aO ?_) | (refine x_bin _ rfl rfl rfl ?_) | (refine x_boolEq aA rfl rfl ?_) | (refine x_strBin _ rfl rfl rfl ?_)) | (refine g_load ?_; first | (refine x_load_pc aA rfl ?_) | (refine x_load_oc _ aA rfl rfl aE rfl ?_) | (refine x_load_pa _ aA rfl aZ aL ?_) | (refine x_load_oa _ aA rfl rfl aE aZ aL ?_)) | (refine g_field ?_; first | (refine x_field_p _ aA rfl aL ?_) | (refine x_field_o _ aA rfl rfl (by simp only [lx, Nat.reduceAdd]; first | done | rfl) ?_)) | (refine g_call ?_; first | (refine x_len_l aA rfl ?_) | (refine x_len_o aA rfl rfl ?_) | (refine x_len_n aA rfl ?_) | (refine x_len_s aA (evO_ok rfl) ?_) | (refine x_appOO _ _ aA rfl (lookM (by rfl)) rfl (lookM (by rfl)) rfl aN ⟨rfl, rfl, by decide, by decide⟩ (by first | rfl | omega | (simp; done) | (simp; omega) | fail) ⟨by first | (simp only [List.length_cons, List.length_nil]; omega) | omega | fail, by decide⟩ rfl (by first | (first | (simp only [lx, Nat.reduceAdd]; first | done | rfl) | fail) | rfl) aP ?_) | (refine x_appCO _ _ aA rfl rfl (lookM (by rfl)) ⟨rfl, by decide⟩ aN (by first | exact Nat.succ_pos _ | omega | (simp; done)) ⟨by first | (simp only [List.length_cons, List.length_nil]; omega) | omega | fail, by decide⟩ rfl rfl aP ?_) | (refine x_appNO _ aA rfl rfl (lookM (by rfl)) ⟨rfl, by decide⟩ aN ⟨by first | (simp only [List.length_cons, List.length_nil]; omega) | omega | fail, by decide⟩ rfl aP ?_) | (refine x_app_ol _ aA rfl rfl rfl ⟨rfl, rfl, rfl, by decide, by decide⟩ (by first | rfl | (simp; done) | fail) ⟨by omega, by decide⟩ rfl aL (by first | (rw [Nat.zero_add]) | rfl) ?_)) | (refine x_buildSliceO aA rfl rfl rfl ?_) | (refine x_boxO _ _ rfl rfl rfl rfl ?_) | (refine x_nil (hK _ _ (.inl rfl) ?_); clear hK K) | (refine x_nil (hK _ _ (.inr (by kernel_rfl)) ?_); clear hK K))
      | (refine g_code ?_; first | (refine v_seq ?_) | (refine v_region (fun K hK => ?_)) | (refine v_block ?_) | (refine v_skip ?_) | (refine v_ret ?_) | (refine v_exit ?_) | (refine g_cond ?_; first | (refine v_cond_y rfl aD ?_) | (refine v_cond_n rfl aD ?_) | (refine v_condt rfl (fun h => ?_) (fun h => ?_) <;> (have h' := h; (try simp only [sx] at h')))))
      | (refine q_then ?_) | (refine q_then_r ?_) | (refine q_then_e ?_) | (refine q_blk_n ?_) | (refine q_blk_r ?_) | (refine q_blk_e ?_) | (refine q_blk_o rfl ?_) | (refine q_loop_r ?_) | (refine q_loop_e ?_) | (refine ret_n ?_))
  refine v_loopK [1, 2] [] (fun q : Nat × Nat × List (List PV) => [(5, .osl (1001, 0) 0 q.2.1), (6, .int .i64 q.1)]) (fun q : Nat × Nat × List (List PV) => [((1001, 0), some ⟨3, 1, q.2.2, false⟩)]) (fun q : Nat × Nat × List (List PV) => q.1 ≤ t.burn.length ∧ q.2.2 = ints (cellsL q.1 (nearP t c)) ∧ q.2.2.length = q.2.1) (fun q : Nat × Nat × List (List PV) => t.burn.length - q.1) ((0, 0, [])) rfl rfl (fun _ => rfl) (fun _ => rfl) rfl (by refine ⟨?_, ?_, rfl, rfl⟩ <;> (repeat' (first | exact trivial | exact ⟨rfl, rfl⟩ | exact rfl | exact ⟨sub_fn, refs_fn⟩ | refine ⟨⟨rfl, rfl⟩, ?_⟩ | refine ⟨⟨sub_fn, refs_fn⟩, ?_⟩ | refine ⟨⟨rfl, fun h => Bool.noConfusion h⟩, ?_⟩ | refine ⟨⟨rfl, fun h => ?_⟩, ?_⟩ | refine ⟨rfl, ?_⟩ | refine ⟨?_, ?_⟩ | fail))) ⟨by simp, by simp [cellsL], rfl⟩ (fun q hq => ?_)
  obtain ⟨i, m, es⟩ := q
  obtain ⟨hi1, hi2, hl⟩ := hq
  simp only at hi1 hi2 hl
  have hle : es.length ≤ i := by rw [hi2, ints_len]; exact cellsL_len i _
  dsimp only
  rcases Nat.lt_or_ge i t.burn.length with hlt | hge
  · have kA := k_l2Apart t c i hg hc ⟨by omega, by omega⟩
    repeat' (first
      | (refine g_exec ?_; first | (refine g_move ?_; refine x_moveO _ rfl ?_) | (refine g_assign ?_; refine x_assignO _ rfl ?_) | (refine g_bin ?_; first | (refine x_add rfl rfl aO ?_) | (refine x_bin _ rfl rfl rfl ?_) | (refine x_boolEq aA rfl rfl ?_) | (refine x_strBin _ rfl rfl rfl ?_)) | (refine g_load ?_; first | (refine x_load_pc aA rfl ?_) | (refine x_load_oc _ aA rfl rfl aE rfl ?_) | (refine x_load_pa _ aA rfl aZ aL ?_) | (refine x_load_oa _ aA rfl rfl aE aZ aL ?_)) | (refine g_field ?_; first | (refine x_field_p _ aA rfl aL ?_) | (refine x_field_o _ aA rfl rfl (by simp only [lx, Nat.reduceAdd]; first | done | rfl) ?_)) | (refine g_call ?_; first | (refine x_callG true (kA) rfl rfl rfl aS rfl aH ?_; simp only [cl]) | (refine x_len_l aA rfl ?_) | (refine x_len_o aA rfl rfl ?_) | (refine x_len_n aA rfl ?_) | (refine x_len_s aA (evO_ok rfl) ?_) | (refine x_appOO _ _ aA rfl (lookM (by rfl)) rfl (lookM (by rfl)) rfl aN ⟨rfl, rfl, by decide, by decide⟩ (by first | rfl | omega | (simp; done) | (simp; omega) | fail) ⟨by first | (simp only [List.length_cons, List.length_nil]; omega) | omega | fail, by decide⟩ rfl (by first | (first | (simp only [lx, Nat.reduceAdd]; first | done | rfl) | fail) | rfl) aP ?_) | (refine x_appCO _ _ aA rfl rfl (lookM (by rfl)) ⟨rfl, by decide⟩ aN (by first | exact Nat.succ_pos _ | omega | (simp; done)) ⟨by first | (simp only [List.length_cons, List.length_nil]; omega) | omega | fail, by decide⟩ rfl rfl aP ?_) | (refine x_appNO _ aA rfl rfl (lookM (by rfl)) ⟨rfl, by decide⟩ aN ⟨by first | (simp only [List.length_cons, List.length_nil]; omega) | omega | fail, by decide⟩ rfl aP ?_) | (refine x_app_ol _ aA rfl rfl rfl ⟨rfl, rfl, rfl, by decide, by decide⟩ (by first | rfl | (simp; done) | fail) ⟨by omega, by decide⟩ rfl aL (by first | (rw [Nat.zero_add]) | rfl) ?_)) | (refine x_buildSliceO aA rfl rfl rfl ?_) | (refine x_boxO _ _ rfl rfl rfl rfl ?_) | (refine x_nil (hK _ _ (.inl rfl) ?_); clear hK K) | (refine x_nil (hK _ _ (.inr (by kernel_rfl)) ?_); clear hK K))
      | (refine g_code ?_; first | (refine v_seq ?_) | (refine v_region (fun K hK => ?_)) | (refine v_block ?_) | (refine v_skip ?_) | (refine v_ret ?_) | (refine v_exit ?_) | (refine g_cond ?_; first | (refine v_cond_y rfl aD ?_) | (refine v_cond_n rfl aD ?_) | (refine v_condt rfl (fun h => ?_) (fun h => ?_) <;> (have h' := h; (try simp only [sx] at h')))))
      | (refine q_then ?_) | (refine q_then_r ?_) | (refine q_then_e ?_) | (refine q_blk_n ?_) | (refine q_blk_r ?_) | (refine q_blk_e ?_) | (refine q_blk_o rfl ?_) | (refine q_loop_r ?_) | (refine q_loop_e ?_) | (refine ret_n ?_))
    · refine q_next (i + 1, m + 1, es ++ [[.int .i64 i]]) rfl (by refine ⟨?_, ?_, rfl, rfl⟩ <;> (repeat' (first | exact trivial | exact ⟨rfl, rfl⟩ | exact rfl | exact ⟨sub_fn, refs_fn⟩ | refine ⟨⟨rfl, rfl⟩, ?_⟩ | refine ⟨⟨sub_fn, refs_fn⟩, ?_⟩ | refine ⟨⟨rfl, fun h => Bool.noConfusion h⟩, ?_⟩ | refine ⟨⟨rfl, fun h => ?_⟩, ?_⟩ | refine ⟨rfl, ?_⟩ | refine ⟨?_, ?_⟩ | fail))) ⟨by simp only; omega, ?_, by simp [hl]⟩ (by simp only; omega)
      simp only [cellsL_t (show nearP t c i = true by assumption), ints_snoc, hi2]
    · refine q_next (i + 1, m, es) rfl (by refine ⟨?_, ?_, rfl, rfl⟩ <;> (repeat' (first | exact trivial | exact ⟨rfl, rfl⟩ | exact rfl | exact ⟨sub_fn, refs_fn⟩ | refine ⟨⟨rfl, rfl⟩, ?_⟩ | refine ⟨⟨sub_fn, refs_fn⟩, ?_⟩ | refine ⟨⟨rfl, fun h => Bool.noConfusion h⟩, ?_⟩ | refine ⟨⟨rfl, fun h => ?_⟩, ?_⟩ | refine ⟨rfl, ?_⟩ | refine ⟨?_, ?_⟩ | fail))) ⟨by simp only; omega, ?_, hl⟩ (by simp only; omega)
      simp only [cellsL_f (show nearP t c i = false by assumption), hi2]
  · have : i = t.burn.length := by omega
    subst this
    repeat' (first
      | (refine g_exec ?_; first | (refine g_move ?_; refine x_moveO _ rfl ?_) | (refine g_assign ?_; refine x_assignO _ rfl ?_) | (refine g_bin ?_; first | (refine x_add rfl rfl aO ?_) | (refine x_bin _ rfl rfl rfl ?_) | (refine x_boolEq aA rfl rfl ?_) | (refine x_strBin _ rfl rfl rfl ?_)) | (refine g_load ?_; first | (refine x_load_pc aA rfl ?_) | (refine x_load_oc _ aA rfl rfl aE rfl ?_) | (refine x_load_pa _ aA rfl aZ aL ?_) | (refine x_load_oa _ aA rfl rfl aE aZ aL ?_)) | (refine g_field ?_; first | (refine x_field_p _ aA rfl aL ?_) | (refine x_field_o _ aA rfl rfl (by simp only [lx, Nat.reduceAdd]; first | done | rfl) ?_)) | (refine g_call ?_; first | (refine x_len_l aA rfl ?_) | (refine x_len_o aA rfl rfl ?_) | (refine x_len_n aA rfl ?_) | (refine x_len_s aA (evO_ok rfl) ?_) | (refine x_appOO _ _ aA rfl (lookM (by rfl)) rfl (lookM (by rfl)) rfl aN ⟨rfl, rfl, by decide, by decide⟩ (by first | rfl | omega | (simp; done) | (simp; omega) | fail) ⟨by first | (simp only [List.length_cons, List.length_nil]; omega) | omega | fail, by decide⟩ rfl (by first | (first | (simp only [lx, Nat.reduceAdd]; first | done | rfl) | fail) | rfl) aP ?_) | (refine x_appCO _ _ aA rfl rfl (lookM (by rfl)) ⟨rfl, by decide⟩ aN (by first | exact Nat.succ_pos _ | omega | (simp; done)) ⟨by first | (simp only [List.length_cons, List.length_nil]; omega) | omega | fail, by decide⟩ rfl rfl aP ?_) | (refine x_appNO _ aA rfl rfl (lookM (by rfl)) ⟨rfl, by decide⟩ aN ⟨by first | (simp only [List.length_cons, List.length_nil]; omega) | omega | fail, by decide⟩ rfl aP ?_) | (refine x_app_ol _ aA rfl rfl rfl ⟨rfl, rfl, rfl, by decide, by decide⟩ (by first | rfl | (simp; done) | fail) ⟨by omega, by decide⟩ rfl aL (by first | (rw [Nat.zero_add]) | rfl) ?_)) | (refine x_buildSliceO aA rfl rfl rfl ?_) | (refine x_boxO _ _ rfl rfl rfl rfl ?_) | (refine x_nil (hK _ _ (.inl rfl) ?_); clear hK K) | (refine x_nil (hK _ _ (.inr (by kernel_rfl)) ?_); clear hK K))
      | (refine g_code ?_; first | (refine v_seq ?_) | (refine v_region (fun K hK => ?_)) | (refine v_block ?_) | (refine v_skip ?_) | (refine v_ret ?_) | (refine v_exit ?_) | (refine g_cond ?_; first | (refine v_cond_y rfl aD ?_) | (refine v_cond_n rfl aD ?_) | (refine v_condt rfl (fun h => ?_) (fun h => ?_) <;> (have h' := h; (try simp only [sx] at h')))))
      | (refine q_then ?_) | (refine q_then_r ?_) | (refine q_then_e ?_) | (refine q_blk_n ?_) | (refine q_blk_r ?_) | (refine q_blk_e ?_) | (refine q_blk_o rfl ?_) | (refine q_loop_r ?_) | (refine q_loop_e ?_) | (refine ret_n ?_))
    exact ret_list rfl (lookE_ok (by rfl)) (by rfl) (by decide) hl.symm (by rw [hi2]; exact ints_flat _) hi2
theorem k_distance (a b : Int) (ha : -1000 ≤ a ∧ a ≤ 1000) (hb : -1000 ≤ b ∧ b ≤ 1000) : Con Try.prog 115 [.int .i64 a, .int .i64 b] (.int .i64 (absI (a - b))) := by
  intro al
  refine contract_of hmix Try.func115 rfl (by kernel_rfl) (by kernel_rfl) (Nat.le_of_ble_eq_true rfl) (fun row h => by cases h) ?_
  repeat' (first
      | (refine g_exec ?_; first | (refine g_move ?_; refine x_moveO _ rfl ?_) | (refine g_assign ?_; refine x_assignO _ rfl ?_) | (refine g_bin ?_; first | (refine x_sub rfl rfl aO ?_) | (refine x_bin _ rfl rfl rfl ?_)) | (refine g_call ?_; refine x_max rfl rfl ?_) | (refine x_nil (hK _ _ (.inl rfl) ?_); clear hK K) | (refine x_nil (hK _ _ (.inr (by kernel_rfl)) ?_); clear hK K))
      | (refine g_code ?_; first | (refine v_seq ?_) | (refine v_region (fun K hK => ?_)) | (refine v_block ?_) | (refine v_skip ?_) | (refine v_ret ?_) | (refine v_exit ?_))
      | (refine q_then ?_) | (refine q_then_r ?_) | (refine q_then_e ?_) | (refine q_blk_n ?_) | (refine q_blk_r ?_) | (refine q_blk_e ?_) | (refine q_blk_o rfl ?_) | (refine q_loop_r ?_) | (refine q_loop_e ?_) | (refine ret_n ?_))
  exact ret_int rfl (lookE_ok rfl) (by simp only [absI]; omega)
theorem k_apart (t : Terrain) (a b : Int) (hg : GoodT t) (ha : IsCell t a) (hb : IsCell t b) : Con Try.prog 60 [.agg t.pv, .int .i64 a, .int .i64 b] (.int .i64 (apart t a b)) := by
  intro al
  refine contract_of hmix Try.func60 rfl (by kernel_rfl) (by kernel_rfl) (Nat.le_of_ble_eq_true rfl) (fun row h => by cases h) ?_
  have hty_a26 := ty_a26
  have hd := hg.1
  unfold Dims at hd
  have p1 := cell_place hg ha
  have p2 := cell_place hg hb
  dsimp only [colOf, rowOf] at p1 p2
  have hca := ha
  have hcb := hb
  unfold IsCell at hca hcb
  have hl := goodT_len hg
  repeat' (first
      | (refine g_exec ?_; first | (refine g_move ?_; refine x_moveO _ rfl ?_) | (refine g_assign ?_; refine x_assignO _ rfl ?_) | (refine g_load ?_; first | (refine x_load_pc aA rfl ?_) | (refine x_load_oc _ aA rfl rfl aE rfl ?_) | (refine x_load_pa _ aA rfl aZ aL ?_) | (refine x_load_oa _ aA rfl rfl aE aZ aL ?_)) | (refine g_call ?_; first | (refine x_callG true (k_column t a hd.1.1 aO) rfl rfl rfl aS rfl aH ?_; simp only [cl]) | (refine x_callG true (k_column t b hd.1.1 aO) rfl rfl rfl aS rfl aH ?_; simp only [cl]) | (refine x_callG true (k_row t a hd.1.1 aO) rfl rfl rfl aS rfl aH ?_; simp only [cl]) | (refine x_callG true (k_row t b hd.1.1 aO) rfl rfl rfl aS rfl aH ?_; simp only [cl]) | (refine x_callG true (k_distance (a % t.width) (b % t.width) aO aO) rfl rfl rfl aS rfl aH ?_; simp only [cl]) | (refine x_callG true (k_distance (a / t.width) (b / t.width) aO aO) rfl rfl rfl aS rfl aH ?_; simp only [cl]) | (refine x_max rfl rfl ?_)) | (refine x_boxO _ _ rfl rfl rfl rfl ?_) | (refine x_nil (hK _ _ (.inl rfl) ?_); clear hK K) | (refine x_nil (hK _ _ (.inr (by kernel_rfl)) ?_); clear hK K))
      | (refine g_code ?_; first | (refine v_seq ?_) | (refine v_region (fun K hK => ?_)) | (refine v_block ?_) | (refine v_skip ?_) | (refine v_ret ?_) | (refine v_exit ?_))
      | (refine q_then ?_) | (refine q_then_r ?_) | (refine q_then_e ?_) | (refine q_blk_n ?_) | (refine q_blk_r ?_) | (refine q_blk_e ?_) | (refine q_blk_o rfl ?_) | (refine q_loop_r ?_) | (refine q_loop_e ?_) | (refine ret_n ?_))
  exact ret_int rfl (lookE_ok rfl) rfl
theorem k_neighbors1 (t : Terrain) (c x : Int) (hg : GoodT t) (hc : IsCell t c) (hx : IsCell t x) : Con Try.prog 121 [.int .i64 x, .ptr t.pv, .ptr [.int .i64 c]] (.bool (decide (apart t c x = 1))) := by
  intro al
  refine contract_of hmix Try.func121 rfl (by kernel_rfl) (by kernel_rfl) (Nat.le_of_ble_eq_true rfl) (fun row h => by cases h) ?_
  have hty_a26 := ty_a26
  have hty_c3 := ty_c3
  have k := k_apart t x c hg hx hc
  rw [apart_comm] at k
  repeat' (first
      | (refine g_exec ?_; first | (refine g_move ?_; refine x_moveO _ rfl ?_) | (refine g_assign ?_; refine x_assignO _ rfl ?_) | (refine g_bin ?_; first | (refine x_bin _ rfl rfl rfl ?_) | (refine x_boolEq aA rfl rfl ?_) | (refine x_strBin _ rfl rfl rfl ?_)) | (refine g_load ?_; first | (refine x_load_pc aA rfl ?_) | (refine x_load_oc _ aA rfl rfl aE rfl ?_) | (refine x_load_pa _ aA rfl aZ aL ?_) | (refine x_load_oa _ aA rfl rfl aE aZ aL ?_)) | (refine g_call ?_; refine x_callG true (k) rfl rfl rfl aS rfl aH ?_; simp only [cl]) | (refine x_nil (hK _ _ (.inl rfl) ?_); clear hK K) | (refine x_nil (hK _ _ (.inr (by kernel_rfl)) ?_); clear hK K))
      | (refine g_code ?_; first | (refine v_seq ?_) | (refine v_region (fun K hK => ?_)) | (refine v_block ?_) | (refine v_skip ?_) | (refine v_ret ?_) | (refine v_exit ?_))
      | (refine q_then ?_) | (refine q_then_r ?_) | (refine q_then_e ?_) | (refine q_blk_n ?_) | (refine q_blk_r ?_) | (refine q_blk_e ?_) | (refine q_blk_o rfl ?_) | (refine q_loop_r ?_) | (refine q_loop_e ?_) | (refine ret_n ?_))
  exact ret_bool rfl (lookE_ok rfl) rfl
theorem k_neighbors (t : Terrain) (c : Int) (hg : GoodT t) (hc : IsCell t c) : Con Try.prog 67 [.agg t.pv, .int .i64 c] (.olist 3 1 (ints (nears t c))) := by
  intro al
  refine contract_of hmix Try.func67 rfl (by kernel_rfl) (by kernel_rfl) (Nat.le_of_ble_eq_true rfl) (fun row h => by cases h) ?_
  have hty_a26 := ty_a26
  have hlen := goodT_len hg
  repeat' (first
      | (refine g_exec ?_; first | (refine g_assign ?_; refine x_assignO _ rfl ?_) | (refine g_load ?_; first | (refine x_load_pc aA rfl ?_) | (refine x_load_oc _ aA rfl rfl aE rfl ?_) | (refine x_load_pa _ aA rfl aZ aL ?_) | (refine x_load_oa _ aA rfl rfl aE aZ aL ?_)) | (refine g_call ?_; refine x_callG true (k_cellsThat t 121 [t.pv, [.int .i64 c]] (nearP t c) (fun x h => k_neighbors1 t c x hg hc ⟨by omega, by omega⟩) aO) rfl rfl rfl aS rfl aH ?_; simp only [cl]) | (refine x_boxO _ _ rfl rfl rfl rfl ?_) | (refine x_mkfn _ _ rfl rfl ?_) | (refine x_nil (hK _ _ (.inl rfl) ?_); clear hK K) | (refine x_nil (hK _ _ (.inr (by kernel_rfl)) ?_); clear hK K))
      | (refine g_code ?_; first | (refine v_seq ?_) | (refine v_region (fun K hK => ?_)) | (refine v_block ?_) | (refine v_skip ?_) | (refine v_ret ?_) | (refine v_exit ?_))
      | (refine q_then ?_) | (refine q_then_r ?_) | (refine q_then_e ?_) | (refine q_blk_n ?_) | (refine q_blk_r ?_) | (refine q_blk_e ?_) | (refine q_blk_o rfl ?_) | (refine q_loop_r ?_) | (refine q_loop_e ?_) | (refine ret_n ?_))
  exact ret_list rfl (lookE_ok (by rfl)) (by rfl) (by decide) rfl (ints_flat _) rfl
theorem k_burns (t : Terrain) (c : Int) (hg : GoodT t) (hc : IsCell t c) : Con Try.prog 72 [.agg t.pv, .int .i64 c] (.bool (decide (0 < burnAt t c))) := by
  intro al
  refine contract_of hmix Try.func72 rfl (by kernel_rfl) (by kernel_rfl) (Nat.le_of_ble_eq_true rfl) (fun row h => by cases h) ?_
  have hty_f26_2 := ty_f26_2
  have hty_c24 := ty_c24
  have hty_s24 := ty_s24
  have hty_c3 := ty_c3
  have hl1 : (ints t.burn).length = t.burn.length := by simp
  have hx := ints_at (burn_at hc)
  have hcc := hc
  unfold IsCell at hcc
  repeat' (first
      | (refine g_exec ?_; first | (refine g_move ?_; refine x_moveO _ rfl ?_) | (refine g_assign ?_; refine x_assignO _ rfl ?_) | (refine g_bin ?_; refine x_bin _ rfl rfl rfl ?_) | (refine g_load ?_; first | (refine x_load_pc aA rfl ?_) | (refine x_load_oc _ aA rfl rfl aE rfl ?_) | (refine x_load_pa _ aA rfl aZ aL ?_) | (refine x_load_oa _ aA rfl rfl aE aZ aL ?_)) | (refine g_field ?_; first | (refine x_field_p _ aA rfl aL ?_) | (refine x_field_o _ aA rfl rfl (by simp only [lx, Nat.reduceAdd]; first | done | rfl) ?_)) | (refine g_index ?_; first | (refine x_index_l _ aA rfl rfl aO aA ?_) | (refine x_index_o _ aA rfl rfl rfl rfl aO aO (by first | (rw [Nat.zero_add, Int.toNat_natCast]) | (rw [Nat.zero_add]) | rfl) ?_)) | (refine x_boxO _ _ rfl rfl rfl rfl ?_) | (refine x_nil (hK _ _ (.inl rfl) ?_); clear hK K) | (refine x_nil (hK _ _ (.inr (by kernel_rfl)) ?_); clear hK K))
      | (refine g_code ?_; first | (refine v_seq ?_) | (refine v_region (fun K hK => ?_)) | (refine v_block ?_) | (refine v_skip ?_) | (refine v_ret ?_) | (refine v_exit ?_))
      | (refine q_then ?_) | (refine q_then_r ?_) | (refine q_then_e ?_) | (refine q_blk_n ?_) | (refine q_blk_r ?_) | (refine q_blk_e ?_) | (refine q_blk_o rfl ?_) | (refine q_loop_r ?_) | (refine q_loop_e ?_) | (refine ret_n ?_))
  exact ret_bool rfl (lookE_ok rfl) rfl
end Go.Vs
set_option linter.unusedVariables false
set_option linter.unusedSimpArgs false
set_option maxRecDepth 100000
set_option maxHeartbeats 4000000
namespace Go.Vs
theorem ints_set (T : List Int) (i : Nat) (x : Int) : ints (T.set i x) = (ints T).set i [PV.int .i64 x] := by simp [ints, List.map_set]
end Go.Vs
set_option linter.unusedVariables false
set_option linter.unusedSimpArgs false
set_option maxRecDepth 100000
set_option maxHeartbeats 4000000
namespace Go.Vs
open Go.Proofs
attribute [local irreducible] exec vwp thenQ blkQ loopQ RetPost
def fv (F : List Bool) (c : Int) : Bool := F.getD c.toNat false
theorem fv_set {F : List Bool} {i : Nat} (x : Bool) (h : i < F.length) (c : Int) : fv (F.set i x) c = if c.toNat = i then x else fv F c := by
  unfold fv
  rw [List.getD_eq_getElem?_getD, List.getD_eq_getElem?_getD, List.getElem?_set]
  by_cases he : i = c.toNat
  · simp [he, he ▸ h]
  · simp [he, Ne.symm he]
inductive Fl (t : Terrain) (P : Int → Int → Prop) (src : List Int) : Int → Prop
  | src {s : Int} : s ∈ src → Fl t P src s
  | step {a c : Int} : Fl t P src a → IsCell t c → P a c → Fl t P src c
structure FlI (t : Terrain) (P : Int → Int → Bool) (src W : List Int) (F : List Bool) : Prop where
  len : F.length = t.burn.length
  snd : ∀ a, IsCell t a → fv F a = true → Fl t (fun a c => P a c = true) src a
  que : ∀ a ∈ W, IsCell t a ∧ fv F a = true
  src : ∀ s ∈ src, fv F s = true
def Clo (t : Terrain) (P : Int → Int → Bool) (W : List Int) (F : List Bool) : Prop := ∀ a c, IsCell t a → IsCell t c → fv F a = true → a ∉ W → P a c = true → fv F c = true
def CloX (t : Terrain) (P : Int → Int → Bool) (W : List Int) (F : List Bool) (x : Int) (i : Nat) : Prop := ∀ a c, IsCell t a → IsCell t c → fv F a = true → a ∉ W → (a = x → c < i) → P a c = true → fv F c = true
section
variable {t : Terrain} {P : Int → Int → Bool} {src W : List Int} {F : List Bool} {x : Int} {i : Nat}
theorem CloX.done (h : CloX t P W F x t.burn.length) : Clo t P W F := fun a c ha hc hf hw hp => h a c ha hc hf hw (fun _ => hc.2) hp
theorem CloX.skip (h : CloX t P W F x i) (hi : fv F i = true ∨ P x i = false) : CloX t P W F x (i + 1) := fun a c ha hc hf hw hx hp => by
  by_cases e : a = x ∧ c = i
  · obtain ⟨rfl, rfl⟩ := e
    rcases hi with hi | hi
    · exact hi
    · rw [hp] at hi; cases hi
  · exact h a c ha hc hf hw (fun h2 => by have := hx h2; have : c ≠ i := fun h3 => e ⟨h2, h3⟩; omega) hp
theorem fv_set2 (h : i < F.length) (c : Int) (hc : 0 ≤ c) : fv (F.set i true) c = true ↔ c = i ∨ fv F c = true := by
  rw [fv_set true h]
  split
  · exact ⟨fun _ => .inl aO, fun _ => rfl⟩
  · exact ⟨.inr, fun h => h.elim (fun h => by omega) id⟩
theorem FlI.push (h : FlI t P src W F) (hi : i < t.burn.length) (hx : IsCell t x) (hfx : fv F x = true) (hp : P x i = true) (hsrc : ∀ s ∈ src, IsCell t s) : FlI t P src (W ++ [(i : Int)]) (F.set i true) := by
  have hiF : i < F.length := by rw [h.len]; exact hi
  have hci : IsCell t (i : Int) := ⟨by omega, by omega⟩
  refine ⟨by simp [h.len], fun a ha hf => ?_, fun a ha => ?_, fun s hs => ?_⟩
  · rcases (fv_set2 hiF a ha.1).1 hf with e | e
    · subst e
      exact .step (h.snd x hx hfx) hci hp
    · exact h.snd a ha e
  · rcases List.mem_append.1 ha with h1 | h1
    · exact ⟨(h.que a h1).1, (fv_set2 hiF a (h.que a h1).1.1).2 (.inr (h.que a h1).2)⟩
    · rw [List.mem_singleton] at h1
      subst h1
      exact ⟨hci, (fv_set2 hiF _ aO).2 (.inl rfl)⟩
  · exact (fv_set2 hiF s (hsrc s hs).1).2 (.inr (h.src s hs))
theorem CloX.push (h : CloX t P W F x i) (hi : i < F.length) : CloX t P (W ++ [(i : Int)]) (F.set i true) x (i + 1) := fun a c ha hc hf hw hx hp => by
  by_cases e : c = i
  · exact (fv_set2 hi c hc.1).2 (.inl e)
  · have hai : a ≠ i := fun e2 => hw (by rw [e2]; simp)
    have hfa : fv F a = true := by
      rcases (fv_set2 hi a ha.1).1 hf with h1 | h1
      · exact absurd h1 hai
      · exact h1
    exact (fv_set2 hi c hc.1).2 (.inr (h a c ha hc hfa (fun hm => hw (List.mem_append_left _ hm)) (fun h2 => by have := hx h2; omega) hp))
theorem FlI.done (h : FlI t P src [] F) (hc : Clo t P [] F) (a : Int) (ha : IsCell t a) (hs : ∀ s ∈ src, IsCell t s) : fv F a = true ↔ Fl t (fun a c => P a c = true) src a := by
  refine ⟨h.snd a ha, fun hf => ?_⟩
  have key : ∀ a, Fl t (fun a c => P a c = true) src a → IsCell t a ∧ fv F a = true := by
    intro a hf
    induction hf with
    | src hm => exact ⟨hs _ hm, h.src _ hm⟩
    | step _ h2 h3 ih => exact ⟨h2, hc _ _ ih.1 h2 ih.2 (by simp) h3⟩
  exact (key a hf).2
end
end Go.Vs
set_option linter.unusedVariables false
set_option linter.unusedSimpArgs false
namespace Go.Vs
section
variable {P : Program} {G : Nat → Prop} {ρ : Id → Option (Nat × Nat)} {w0 w : World} {X : List (Option (Nat × Nat))} {M N : Mem} {v : Value}
theorem frzL_repN {t : Nat} {xs : List PV} {k : Nat} (hW : WRel G ρ w0 X M w) (hM : ∀ p ∈ (thawL t k xs).2.2, M p.1 = some p.2) (ht : t ≠ io) (hc : xs.all clean1 = true)
    (hsub : ∀ b, Stab G ρ M w b → Stab G ρ N w b) (hoff : ∀ id r, N id = some (some r) → M id = some (some r) ∧ id.1 ≠ t) {cs : Array Value} (h : Comps ρ w (Stab G ρ M w) M cs (thawL t k xs).2.1) : Comps ρ w (Stab G ρ N w) noMem cs (xs.map frz1) := by
  obtain ⟨hl, hat⟩ := thawL_at t xs k
  refine ⟨by rw [h.1, hl, List.length_map], fun j u hu => ?_⟩
  rw [List.getElem?_map] at hu
  cases hx : xs[j]? with
  | none => rw [hx] at hu; cases hu
  | some x =>
    rw [hx] at hu
    injection hu with hu
    subst hu
    obtain ⟨y, h1, h2⟩ := hat j x hx
    obtain ⟨c, h3, h4⟩ := h.2 j y h1
    refine ⟨c, h3, ?_⟩
    rcases h2 with ⟨ty, sz, es, k', rfl, rfl, hm⟩ | ⟨rfl, he⟩
    · exact osl_given hW (hM _ hm) ht hsub (fun id r h => ⟨(hoff id r h).1, fun e => (hoff id r h).2 (by rw [e])⟩) h4
    · rw [he]
      exact rep_clean1 hsub (List.all_eq_true.1 hc _ (List.mem_of_getElem? hx)) he h4
theorem frz2_repN {t : Nat} {x : PV} {k : Nat} (hW : WRel G ρ w0 X M w) (hM : ∀ p ∈ (thaw1 t k x).2.2, M p.1 = some p.2) (ht : t ≠ io) (hc : clean2 x = true)
    (hsub : ∀ b, Stab G ρ M w b → Stab G ρ N w b) (hoff : ∀ id r, N id = some (some r) → M id = some (some r) ∧ id.1 ≠ t) (h : Rep ρ w (Stab G ρ M w) M v (thaw1 t k x).2.1) : Rep ρ w (Stab G ρ N w) noMem v (frz2 x) := by
  cases x with
  | agg cs =>
    simp only [thaw1] at h hM
    obtain ⟨a, rfl, hcs⟩ := rep_agg.1 h
    exact rep_agg.2 ⟨a, rfl, frzL_repN hW hM ht hc hsub hoff hcs⟩
  | olist ty sz es => exact osl_given hW (hM ((t, k), some ⟨ty, sz, es, false⟩) (by simp [thaw1])) ht hsub (fun id r h => ⟨(hoff id r h).1, fun e => (hoff id r h).2 (by rw [e])⟩) h
  | any => exact rep_any
  | int _ _ => exact rep_clean1 hsub rfl rfl h
  | bool _ => exact rep_clean1 hsub rfl rfl h
  | str _ => exact rep_clean1 hsub rfl rfl h
  | nil => exact rep_clean1 hsub rfl rfl h
  | list _ _ => exact rep_clean1 hsub rfl rfl h
  | ptr _ => exact rep_clean1 hsub rfl rfl h
  | own _ _ _ => cases hc
  | clist _ _ => cases hc
  | osl _ _ _ => cases hc
  | tuple _ => cases hc
  | fn _ _ _ => cases hc
theorem ConL.frz {g : FuncId} {ys : List PV} {ios : List Row} {r : PV} {fin : List (List (List PV))} (h : ContractP P g true ys ios fun r' fin' => r' = r ∧ fin' = fin) (hc : clean r = true) (hbx : ∀ row ∈ ios, row.bx = false) :
    ContractP P g true ys ios fun r' fin' => r' = Go.Vs.frz r ∧ fin' = fin := by
  refine ⟨h.1, fun G w X ρ cargs hW hX hC => ?_⟩
  obtain ⟨cb, h2⟩ := h
  refine (h2 G w X ρ cargs hW hX hC).mono fun e w' => ?_
  rintro ⟨v, r', fin', rfl, ⟨rfl, rfl⟩, hl, hf, hR⟩
  refine ⟨v, Go.Vs.frz r', fin', rfl, ⟨rfl, rfl⟩, hl, hf, fun t ht => ?_⟩
  obtain ⟨ρ', hR⟩ := hR t ht
  refine ⟨ρ', ?_⟩
  have hrel := hR.rel
  have hval := hR.val
  have hN : ∀ id r, ioMem (withEs ios fin') id = some (some r) → ((ioMem (withEs ios fin')).upds (thaw t r').2) id = some (some r) ∧ id.1 ≠ t := by
    intro id r h
    have hio : id.1 = io := by
      simp only [ioMem] at h
      split at h
      · assumption
      · cases h
    have hne : id.1 ≠ t := by rw [hio]; exact fun e => ht e.symm
    exact ⟨by rw [upds_other _ _ id fun p hp e => hne (by rw [← e]; exact thaw_fst t r' p hp)]; exact h, hne⟩
  have hsub : ∀ b, Stab G ρ' ((ioMem (withEs ios fin')).upds (thaw t r').2) w' b → Stab G ρ' (ioMem (withEs ios fin')) w' b := fun b hb => ⟨hb.1, fun id r z h => hb.2.1 id r z (hN id r h).1, hb.2.2⟩
  have hkeys : ∀ p ∈ (thaw t r').2, noMem.upds (thaw t r').2 p.1 = some p.2 := fun p hp => by
    refine looks_upds _ ?_ p hp
    cases r' with
    | tuple vs => exact (thawT_keys t vs 0).2.2
    | _ => exact (thaw1_keys t 0 _).2.2
  have hat : ∀ p ∈ (thaw t r').2, ((ioMem (withEs ios fin')).upds (thaw t r').2) p.1 = some p.2 := fun p hp => by
    rcases upds_or (ioMem (withEs ios fin')) (thaw t r').2 p.1 with ⟨h1, _⟩ | ⟨_, h2⟩
    · rw [h1]; exact hkeys p hp
    · rw [hkeys p hp] at h2; cases h2
  have hmle : MLe ρ' w' (noMem.upds (thaw t r').2) ρ' w' ((ioMem (withEs ios fin')).upds (thaw t r').2) := fun id => by
    cases hMi : noMem.upds (thaw t r').2 id with
    | none => trivial
    | some o =>
      have e := hat (id, o) (upds_find hMi)
      cases o with
      | none => exact e
      | some row => exact .inr ⟨row, e, rfl, rfl, Nat.le_refl _, rfl, fun b z hb cur hcur => ⟨cur, hcur, rfl⟩⟩
  have hv : Rep ρ' w' (Stab G ρ' ((ioMem (withEs ios fin')).upds (thaw t r').2) w') ((ioMem (withEs ios fin')).upds (thaw t r').2) v (thaw t r').1 := hval.mono (fun b hb => ⟨hb.1, rfl⟩) hmle
  have key : Rep ρ' w' (Stab G ρ' (ioMem (withEs ios fin')) w') noMem v (Go.Vs.frz r') := by
    have one : ∀ x : PV, (∀ p ∈ (thaw1 t 0 x).2.2, ((ioMem (withEs ios fin')).upds (thaw t r').2) p.1 = some p.2) → clean2 x = true → Rep ρ' w' (Stab G ρ' ((ioMem (withEs ios fin')).upds (thaw t r').2) w') ((ioMem (withEs ios fin')).upds (thaw t r').2) v (thaw1 t 0 x).2.1 → Rep ρ' w' (Stab G ρ' (ioMem (withEs ios fin')) w') noMem v (frz2 x) :=
      fun x h1 h2 h3 => frz2_repN hrel h1 ht h2 hsub hN h3
    cases r' with
    | tuple vs =>
      simp only [thaw] at hv hrel hsub hN hat
      obtain ⟨a, rfl, hcs⟩ := rep_tuple.1 hv
      obtain ⟨k1, k2⟩ := thawT_at t vs 0
      refine rep_tuple.2 ⟨a, rfl, by rw [hcs.1, k1, List.length_map], fun j u hu => ?_⟩
      rw [List.getElem?_map] at hu
      cases hx : vs[j]? with
      | none => rw [hx] at hu; cases hu
      | some x =>
        rw [hx] at hu
        injection hu with hu
        subst hu
        obtain ⟨k', g1, g2⟩ := k2 j x hx
        obtain ⟨c, m1, m2⟩ := hcs.2 j _ g1
        exact ⟨c, m1, frz2_repN hrel (fun p hp => hat p (g2 p hp)) ht (List.all_eq_true.1 hc _ (List.mem_of_getElem? hx)) hsub hN m2⟩
    | agg cs => exact one (.agg cs) hat hc hv
    | olist ty sz es => exact one (.olist ty sz es) hat hc hv
    | any => exact rep_any
    | int _ _ => exact rep_clean1 hsub rfl rfl hv
    | bool _ => exact rep_clean1 hsub rfl rfl hv
    | str _ => exact rep_clean1 hsub rfl rfl hv
    | nil => exact rep_clean1 hsub rfl rfl hv
    | list _ _ => exact rep_clean1 hsub rfl rfl hv
    | ptr _ => exact rep_clean1 hsub rfl rfl hv
    | own _ _ _ => cases hc
    | clist _ _ => cases hc
    | osl _ _ _ => cases hc
    | fn _ _ _ => cases hc
  have hbx' : ∀ id r, ioMem (withEs ios fin') id = some (some r) → r.bx = false := by
    intro id r h
    simp only [ioMem] at h
    split at h
    · rw [withEs_at ios fin' _ hl] at h
      cases hk : ios[id.2]? with
      | none => rw [hk] at h; simp at h
      | some row0 =>
        cases hk2 : fin'[id.2]? with
        | none => rw [hk, hk2] at h; simp at h
        | some es =>
          rw [hk, hk2] at h
          simp at h
          rw [← h]
          exact hbx row0 (List.mem_of_getElem? hk)
    · cases h
  have hnew : WRel G ρ' w X (ioMem (withEs ios fin')) w' := by
    refine ⟨fun id id' r r' b z z' h1 h2 => hrel.inj id id' r r' b z z' (hN id r h1).1 (hN id' r' h2).1, fun id r h => ?_, fun id r h => hrel.new id r (hN id r h).1, hrel.keep, hrel.good⟩
    have hr := hrel.row id r (hN id r h).1
    have hb := hbx' id r h
    cases hρ : ρ' id with
    | none => rw [hρ] at hr; exact hr
    | some bz =>
      obtain ⟨b, z⟩ := bz
      rw [hρ] at hr
      obtain ⟨cur, C, g1, g2, g3, g4, g5, g6⟩ := hr
      refine ⟨cur, C, g1, g2, g3, g4, g5, fun i e hi => ⟨(g6 i e hi).1, fun j u hu => ?_⟩⟩
      obtain ⟨c, k1, k2, k3⟩ := (g6 i e hi).2 j u hu
      rw [hb] at k3 ⊢
      exact ⟨c, k1, k2, k3.pureMono fun b hb => ⟨hsub b hb, rfl⟩⟩
  refine ⟨?_, ?_, ?_⟩
  · rw [thaw_frz]; exact hnew
  · intro id row b z h1
    rw [thaw_frz] at h1
    cases h1
  · rw [thaw_frz]
    exact key.mono (fun b hb => ⟨⟨hb, fun h => by cases h⟩, rfl⟩) (MLe.refl _ _ _)
end
section
variable {P : Program} {st : St} {al : Bool} {xs ys : List PV} {u u1 : List (Option Id)}
theorem et_lst {sz sz' : Nat} {es es' : List (List PV)} (ha : al = true) (hz : sz = sz') (h : es = es') (ht : ExpT al st xs ys u) : ExpT al st (.list sz es :: xs) (.list sz' es' :: ys) u := ⟨[], u, ⟨ha, hz, h, rfl⟩, ht, rfl⟩
theorem el_lst {sz sz' : Nat} {es es' : List (List PV)} (ha : al = true) (hz : sz = sz') (h : es = es') (ht : ExpL al st xs ys u) : ExpL al st (.list sz es :: xs) (.list sz' es' :: ys) u := ⟨[], u, ⟨ha, hz, h, rfl⟩, ht, rfl⟩
theorem et_listA {id : Id} {T T' sz sz' n : Nat} {es es' : List (List PV)} (ha : al = true) (hm : getM st.mem id = some (some ⟨T, sz, es, false⟩)) (hio : id.1 ≠ io) (hT : T = T') (hz : sz = sz') (hn : n = es.length) (hes : es = es')
    (ht : ExpT al st xs ys u) : ExpT al st (.osl id 0 n :: xs) (.olist T' sz' es' :: ys) (some id :: u) := by
  subst hT hz hes hn
  exact ⟨[some id], u, ⟨rfl, hio, rfl, .inl ha, hm, rfl⟩, ht, rfl⟩
theorem el_listA {id : Id} {T T' sz sz' n : Nat} {es es' : List (List PV)} (ha : al = true) (hm : getM st.mem id = some (some ⟨T, sz, es, false⟩)) (hio : id.1 ≠ io) (hT : T = T') (hz : sz = sz') (hn : n = es.length) (hes : es = es')
    (ht : ExpL al st xs ys u) : ExpL al st (.osl id 0 n :: xs) (.olist T' sz' es' :: ys) (some id :: u) := by
  subst hT hz hes hn
  exact ⟨[some id], u, ⟨rfl, hio, rfl, .inl ha, hm, rfl⟩, ht, rfl⟩
variable {rows : List Row} {fin : List (List (List PV))} {e : Exit}
theorem ret_TL {fn : Func} {x y : PV} {rs : List ResultVar} (hrs : fn.results.toList = rs) (hr : resO st rs = some (x :: y :: xs)) (hu : uT (x :: y :: xs) = some u) (hc : cellsT P rs (x :: y :: xs)) (ha : apartIds u) (hf : finsL st.mem 0 rows fin) (he : ExpT al st (x :: y :: xs) ys u) :
    RetPost P fn al rows (fun r' fin' => r' = .tuple ys ∧ fin' = fin) .ret st := ret_ofL (.inl rfl) (x :: y :: xs) u (by rw [hrs]; exact resO_ok hr hc) he ha hf
theorem ret_AL {fn : Func} {cs ds : List PV} {rs : List ResultVar} (hrs : fn.results.toList = rs) (hr : resO st rs = some [.agg cs]) (hu : uO cs = some u) (hc : cellsT P rs [.agg cs]) (ha : apartIds u) (hf : finsL st.mem 0 rows fin) (he : ExpL al st cs ds u) :
    RetPost P fn al rows (fun r' fin' => r' = .agg ds ∧ fin' = fin) .ret st := ret_ofL (.inl rfl) [.agg cs] u (by rw [hrs]; exact resO_ok hr hc) he ha hf
theorem ret_lL {fn : Func} {t T T' sz sz' n : Nat} {id : Id} {es es' : List (List PV)} (hr : fn.results = #[.tmp t]) (hv : lookE st.env t = some (.osl id 0 n)) (hm : getM st.mem id = some (some ⟨T, sz, es, false⟩)) (hio : id.1 ≠ io) (hf : finsL st.mem 0 rows fin) (hT : T = T') (hz : sz = sz') (hn : n = es.length) (hes : es = es') :
    RetPost P fn true rows (fun r' fin' => r' = .olist T' sz' es' ∧ fin' = fin) .ret st := by
  subst hT hz hes hn
  exact ret_ofL (.inl rfl) [.osl id 0 es.length] [some id] (by rw [hr]; exact ⟨lookE_ok hv, trivial⟩) ⟨rfl, hio, rfl, .inl rfl, hm, rfl⟩ ⟨by simp, trivial⟩ hf
theorem ret_iL {fn : Func} {t : Nat} {k : IntKind} {n n' : Int} (hr : fn.results = #[.tmp t]) (hv : lookE st.env t = some (.int k n)) (hf : finsL st.mem 0 rows fin) (hn : n = n') : RetPost P fn al rows (fun r' fin' => r' = .int k n' ∧ fin' = fin) .ret st := by
  subst hn
  exact ret_ofL (.inl rfl) [.int k n] [] (by rw [hr]; exact ⟨lookE_ok hv, trivial⟩) ⟨rfl, rfl, rfl⟩ trivial hf
theorem ret_bL {fn : Func} {t : Nat} {n n' : Bool} (hr : fn.results = #[.tmp t]) (hv : lookE st.env t = some (.bool n)) (hf : finsL st.mem 0 rows fin) (hn : n = n') : RetPost P fn al rows (fun r' fin' => r' = .bool n' ∧ fin' = fin) .ret st := by
  subst hn
  exact ret_ofL (.inl rfl) [.bool n] [] (by rw [hr]; exact ⟨lookE_ok hv, trivial⟩) ⟨rfl, rfl⟩ trivial hf
end
theorem seq_ex {S : Type} {Q : Nat → S → Prop} {R : Nat → S → S → Prop} (s0 : S) (h0 : Q 0 s0) (h : ∀ i s, Q i s → ∃ s', R i s s' ∧ Q (i + 1) s') : ∃ f : Nat → S, f 0 = s0 ∧ ∀ i, Q i (f i) ∧ R i (f i) (f (i + 1)) := by
  classical
  let g : (i : Nat) → {s : S // Q i s} := fun i => Nat.rec ⟨s0, h0⟩ (fun i s => ⟨Classical.choose (h i s.1 s.2), (Classical.choose_spec (h i s.1 s.2)).2⟩) i
  refine ⟨fun i => (g i).1, rfl, fun i => ⟨(g i).2, ?_⟩⟩
  exact (Classical.choose_spec (h i (g i).1 (g i).2)).1
section
variable {P : Program}
end
end Go.Vs
set_option linter.unusedVariables false
set_option linter.unusedSimpArgs false
namespace Go.Vs
section
variable {P : Program} {ops : Array Oper} {rest : List Oper} {env : List (Nat × PV)} {mem : List (Id × Option Row)} {tr : List (List Id × List Id)} {K : St → List (List Id × List Id) → Prop}
  {d : Nat} {ty : TypeId} {pos : String} {af : Array Edge}
theorem x_callLP {f : Operand} {args : List Operand} {ats : Array TypeId} {g : FuncId} {fi ca xs ys : List PV} {Post : PV → List (List (List PV)) → Prop} (ids : List Id) {rd : List Id} {ios : List Row}
    (hC : ContractP P g true ys ios Post) (hf : ev (getE env) f = .fn g fi ca)
    (hxs : fi ++ args.map (ev (getE env)) ++ ca = xs) (hlend : lendR mem ids ids ios) (hrd : rdL (rdO true 6 mem) xs ys [] = some rd)
    (hnd : (nodupB ids && nodupB rd && rd.all (fun id => !(hasId ids id) && !Nat.beq id.1 io && (match getM mem id with | some (some _) => true | _ => false))) = true)
    (hsnap : AllR (SnapD 6 (getM mem) ids rd) xs ys) (hfree : freeB mem d = true)
    (hk : ∀ r fin, Post r fin → ∃ v up mem', thaw d r = (v, up) ∧ rowsNewL mem ids ios fin = some mem' ∧
      exec P ops false rest ⟨(d, v) :: env, (up ++ (mem' ++ (rd.map fun id : Id => (id, (none : Option Row))))) ++ mem⟩ (([], []) :: tr) K) :
    exec P ops false (⟨some d, .call ⟨.value f, args.toArray, ats⟩, ty, pos, af, none⟩ :: rest) ⟨env, mem⟩ tr K := by
  obtain ⟨hl, hr⟩ := lendR_ok hlend
  simp only [Bool.and_eq_true] at hnd
  obtain ⟨⟨hn1, hn2⟩, hn3⟩ := hnd
  have hn3 := List.all_eq_true.1 hn3
  obtain ⟨h1, h2⟩ := freeB_ok hfree
  subst hxs
  refine .inr ⟨by simp [wantedPV], .inr ⟨d, true, true, ids, rd, ios, Post, ⟨⟨.value f, args.toArray, ats⟩, f, g, fi, ca, ys, rfl, rfl, hf, fun t ht => by injection ht with ht; exact ht.symm, hC,
    ⟨h1, h2, by simpa using hsnap, hl, nodupB_ok hn1, hr, fun id hid hm => ?_, .inl ⟨rfl, fun id hid => ?_, nodupB_ok hn2⟩⟩⟩, .inl ⟨rfl, fun r fin hp _ => ?_⟩⟩⟩
  · have := hn3 id hid
    simp only [Bool.and_eq_true, Bool.not_eq_true'] at this
    rw [hasId_iff.2 hm] at this
    exact absurd this.1.1 (by simp)
  · have := hn3 id hid
    simp only [Bool.and_eq_true, Bool.not_eq_true'] at this
    refine ⟨fun e => by have h2 := this.1.2; rw [e] at h2; simp at h2, ?_⟩
    have h2 := this.2
    split at h2
    · exact ⟨_, by assumption⟩
    · cases h2
  · obtain ⟨v, up, mem', hth, hnew, hk⟩ := hk r fin hp
    have hups : callUps (St.M ⟨env, mem⟩) d ids rd true r (backF (St.M ⟨env, mem⟩) ids ios fin) = up ++ (mem' ++ rd.map fun id => (id, none)) := by
      show callUps (getM mem) d ids rd true r (backF (getM mem) ids ios fin) = _
      simp only [callUps, hth, frzUps, rowsNewL_ok hnew]
      simp
    rw [hups, show (thaw d r).1 = v by rw [hth]]
    exact hk
end
theorem RetPost.mono {P : Program} {fn : Func} {al : Bool} {ios : List Row} {Post Post' : PV → List (List (List PV)) → Prop} {e : Exit} {st : St} (hp : ∀ r fin, Post r fin → Post' r fin) (h : RetPost P fn al ios Post e st) : RetPost P fn al ios Post' e st := by
  obtain ⟨h0, xs, r, u, fin, h1, h2, h3, h4, h5⟩ := h
  exact ⟨h0, xs, r, u, fin, h1, h2, h3, hp _ _ h4, h5⟩
theorem ContractP.mono {P : Program} {g : FuncId} {al : Bool} {ys : List PV} {ios : List Row} {Post Post' : PV → List (List (List PV)) → Prop} (hp : ∀ r fin, Post r fin → Post' r fin) (h : ContractP P g al ys ios Post) : ContractP P g al ys ios Post' := by
  refine ⟨h.1, fun G w X ρ cargs hW hX hC => (h.2 G w X ρ cargs hW hX hC).mono fun e w' => ?_⟩
  rintro ⟨v, r', fin', rfl, hP, hl, hf, hR⟩
  exact ⟨v, r', fin', rfl, hp _ _ hP, hl, hf, hR⟩
section
variable {P : Program} {G : Nat → Prop} {ρ : Id → Option (Nat × Nat)} {w0 w : World} {X : List (Option (Nat × Nat))} {M N : Mem} {v : Value}
theorem ConL.frzP {g : FuncId} {ys : List PV} {ios : List Row} {Post : PV → List (List (List PV)) → Prop} (h : ContractP P g true ys ios Post) (hcl : ∀ r fin, Post r fin → clean r = true) (hbx : ∀ row ∈ ios, row.bx = false) :
    ContractP P g true ys ios fun r' fin' => ∃ r, r' = Go.Vs.frz r ∧ Post r fin' := by
  refine ⟨h.1, fun G w X ρ cargs hW hX hC => ?_⟩
  obtain ⟨cb, h2⟩ := h
  refine (h2 G w X ρ cargs hW hX hC).mono fun e w' => ?_
  rintro ⟨v, r', fin', rfl, hP0, hl, hf, hR⟩
  have hc := hcl _ _ hP0
  refine ⟨v, Go.Vs.frz r', fin', rfl, ⟨r', rfl, hP0⟩, hl, hf, fun t ht => ?_⟩
  obtain ⟨ρ', hR⟩ := hR t ht
  refine ⟨ρ', ?_⟩
  have hrel := hR.rel
  have hval := hR.val
  have hN : ∀ id r, ioMem (withEs ios fin') id = some (some r) → ((ioMem (withEs ios fin')).upds (thaw t r').2) id = some (some r) ∧ id.1 ≠ t := by
    intro id r h
    have hio : id.1 = io := by
      simp only [ioMem] at h
      split at h
      · assumption
      · cases h
    have hne : id.1 ≠ t := by rw [hio]; exact fun e => ht e.symm
    exact ⟨by rw [upds_other _ _ id fun p hp e => hne (by rw [← e]; exact thaw_fst t r' p hp)]; exact h, hne⟩
  have hsub : ∀ b, Stab G ρ' ((ioMem (withEs ios fin')).upds (thaw t r').2) w' b → Stab G ρ' (ioMem (withEs ios fin')) w' b := fun b hb => ⟨hb.1, fun id r z h => hb.2.1 id r z (hN id r h).1, hb.2.2⟩
  have hkeys : ∀ p ∈ (thaw t r').2, noMem.upds (thaw t r').2 p.1 = some p.2 := fun p hp => by
    refine looks_upds _ ?_ p hp
    cases r' with
    | tuple vs => exact (thawT_keys t vs 0).2.2
    | _ => exact (thaw1_keys t 0 _).2.2
  have hat : ∀ p ∈ (thaw t r').2, ((ioMem (withEs ios fin')).upds (thaw t r').2) p.1 = some p.2 := fun p hp => by
    rcases upds_or (ioMem (withEs ios fin')) (thaw t r').2 p.1 with ⟨h1, _⟩ | ⟨_, h2⟩
    · rw [h1]; exact hkeys p hp
    · rw [hkeys p hp] at h2; cases h2
  have hmle : MLe ρ' w' (noMem.upds (thaw t r').2) ρ' w' ((ioMem (withEs ios fin')).upds (thaw t r').2) := fun id => by
    cases hMi : noMem.upds (thaw t r').2 id with
    | none => trivial
    | some o =>
      have e := hat (id, o) (upds_find hMi)
      cases o with
      | none => exact e
      | some row => exact .inr ⟨row, e, rfl, rfl, Nat.le_refl _, rfl, fun b z hb cur hcur => ⟨cur, hcur, rfl⟩⟩
  have hv : Rep ρ' w' (Stab G ρ' ((ioMem (withEs ios fin')).upds (thaw t r').2) w') ((ioMem (withEs ios fin')).upds (thaw t r').2) v (thaw t r').1 := hval.mono (fun b hb => ⟨hb.1, rfl⟩) hmle
  have key : Rep ρ' w' (Stab G ρ' (ioMem (withEs ios fin')) w') noMem v (Go.Vs.frz r') := by
    have one : ∀ x : PV, (∀ p ∈ (thaw1 t 0 x).2.2, ((ioMem (withEs ios fin')).upds (thaw t r').2) p.1 = some p.2) → clean2 x = true → Rep ρ' w' (Stab G ρ' ((ioMem (withEs ios fin')).upds (thaw t r').2) w') ((ioMem (withEs ios fin')).upds (thaw t r').2) v (thaw1 t 0 x).2.1 → Rep ρ' w' (Stab G ρ' (ioMem (withEs ios fin')) w') noMem v (frz2 x) :=
      fun x h1 h2 h3 => frz2_repN hrel h1 ht h2 hsub hN h3
    cases r' with
    | tuple vs =>
      simp only [thaw] at hv hrel hsub hN hat
      obtain ⟨a, rfl, hcs⟩ := rep_tuple.1 hv
      obtain ⟨k1, k2⟩ := thawT_at t vs 0
      refine rep_tuple.2 ⟨a, rfl, by rw [hcs.1, k1, List.length_map], fun j u hu => ?_⟩
      rw [List.getElem?_map] at hu
      cases hx : vs[j]? with
      | none => rw [hx] at hu; cases hu
      | some x =>
        rw [hx] at hu
        injection hu with hu
        subst hu
        obtain ⟨k', g1, g2⟩ := k2 j x hx
        obtain ⟨c, m1, m2⟩ := hcs.2 j _ g1
        exact ⟨c, m1, frz2_repN hrel (fun p hp => hat p (g2 p hp)) ht (List.all_eq_true.1 hc _ (List.mem_of_getElem? hx)) hsub hN m2⟩
    | agg cs => exact one (.agg cs) hat hc hv
    | olist ty sz es => exact one (.olist ty sz es) hat hc hv
    | any => exact rep_any
    | int _ _ => exact rep_clean1 hsub rfl rfl hv
    | bool _ => exact rep_clean1 hsub rfl rfl hv
    | str _ => exact rep_clean1 hsub rfl rfl hv
    | nil => exact rep_clean1 hsub rfl rfl hv
    | list _ _ => exact rep_clean1 hsub rfl rfl hv
    | ptr _ => exact rep_clean1 hsub rfl rfl hv
    | own _ _ _ => cases hc
    | clist _ _ => cases hc
    | osl _ _ _ => cases hc
    | fn _ _ _ => cases hc
  have hbx' : ∀ id r, ioMem (withEs ios fin') id = some (some r) → r.bx = false := by
    intro id r h
    simp only [ioMem] at h
    split at h
    · rw [withEs_at ios fin' _ hl] at h
      cases hk : ios[id.2]? with
      | none => rw [hk] at h; simp at h
      | some row0 =>
        cases hk2 : fin'[id.2]? with
        | none => rw [hk, hk2] at h; simp at h
        | some es =>
          rw [hk, hk2] at h
          simp at h
          rw [← h]
          exact hbx row0 (List.mem_of_getElem? hk)
    · cases h
  have hnew : WRel G ρ' w X (ioMem (withEs ios fin')) w' := by
    refine ⟨fun id id' r r' b z z' h1 h2 => hrel.inj id id' r r' b z z' (hN id r h1).1 (hN id' r' h2).1, fun id r h => ?_, fun id r h => hrel.new id r (hN id r h).1, hrel.keep, hrel.good⟩
    have hr := hrel.row id r (hN id r h).1
    have hb := hbx' id r h
    cases hρ : ρ' id with
    | none => rw [hρ] at hr; exact hr
    | some bz =>
      obtain ⟨b, z⟩ := bz
      rw [hρ] at hr
      obtain ⟨cur, C, g1, g2, g3, g4, g5, g6⟩ := hr
      refine ⟨cur, C, g1, g2, g3, g4, g5, fun i e hi => ⟨(g6 i e hi).1, fun j u hu => ?_⟩⟩
      obtain ⟨c, k1, k2, k3⟩ := (g6 i e hi).2 j u hu
      rw [hb] at k3 ⊢
      exact ⟨c, k1, k2, k3.pureMono fun b hb => ⟨hsub b hb, rfl⟩⟩
  refine ⟨?_, ?_, ?_⟩
  · rw [thaw_frz]; exact hnew
  · intro id row b z h1
    rw [thaw_frz] at h1
    cases h1
  · rw [thaw_frz]
    exact key.mono (fun b hb => ⟨⟨hb, fun h => by cases h⟩, rfl⟩) (MLe.refl _ _ _)
end
end Go.Vs
set_option linter.unusedVariables false
set_option linter.unusedSimpArgs false
set_option maxRecDepth 100000
set_option maxHeartbeats 4000000
namespace Go.Vs
open Go.Proofs
attribute [local irreducible] exec vwp thenQ blkQ loopQ RetPost
def kPut (l : List Int) (n : Int) : Nat := (l.takeWhile fun x => decide (x < n)).length
def put (l : List Int) (n : Int) : List Int := if l[kPut l n]? = some n then l else l.take (kPut l n) ++ (n :: l.drop (kPut l n))
theorem kPut_is : ∀ {l : List Int} {n : Int} {k : Nat}, k ≤ l.length → (∀ (j : Nat) x, j < k → l[j]? = some x → x < n) → (∀ x, l[k]? = some x → ¬ x < n) → kPut l n = k
  | [], n, k, hk, _, _ => by simp at hk; subst hk; rfl
  | a :: l, n, k, hk, h1, h2 => by
    unfold kPut
    cases k with
    | zero =>
      have := h2 a rfl
      rw [List.takeWhile_cons_of_neg (by simpa using this)]
      rfl
    | succ k =>
      have h0 := h1 0 a aO rfl
      rw [List.takeWhile_cons_of_pos (by simpa using h0), List.length_cons]
      have := kPut_is (l := l) (n := n) (k := k) (by simpa using hk) (fun j x hj hx => h1 (j + 1) x aO (by simpa using hx)) (fun x hx => h2 x (by simpa using hx))
      unfold kPut at this
      rw [this]
theorem kPut_le (l : List Int) (n : Int) : kPut l n ≤ l.length := (List.takeWhile_prefix _).length_le
theorem kPut_lt : ∀ (l : List Int) (n : Int) (j : Nat) x, j < kPut l n → l[j]? = some x → x < n
  | [], n, j, x, h, _ => by simp [kPut] at h
  | a :: l, n, j, x, h, hx => by
    unfold kPut at h
    by_cases h0 : a < n
    · rw [List.takeWhile_cons_of_pos (by simpa using h0), List.length_cons] at h
      cases j with
      | zero => simp at hx; omega
      | succ j => exact kPut_lt l n j x (by unfold kPut; omega) (by simpa using hx)
    · rw [List.takeWhile_cons_of_neg (by simpa using h0)] at h
      simp at h
theorem kPut_ge : ∀ (l : List Int) (n : Int) x, l[kPut l n]? = some x → n ≤ x
  | [], n, x, h => by simp at h
  | a :: l, n, x, h => by
    unfold kPut at h
    by_cases h0 : a < n
    · rw [List.takeWhile_cons_of_pos (by simpa using h0), List.length_cons, List.getElem?_cons_succ] at h
      exact kPut_ge l n x h
    · rw [List.takeWhile_cons_of_neg (by simpa using h0)] at h
      simp at h
      omega
theorem put_len (l : List Int) (n : Int) : (put l n).length ≤ l.length + 1 := by
  have := kPut_le l n
  unfold put
  split
  · omega
  · simp; omega
theorem put_mem {l : List Int} {n y : Int} : y ∈ put l n ↔ y ∈ l ∨ y = n := by
  unfold put
  split
  · rename_i h
    exact ⟨.inl, fun h2 => by rcases h2 with h2 | rfl; exact h2; exact get_mem h⟩
  · have : y ∈ l ↔ y ∈ l.take (kPut l n) ∨ y ∈ l.drop (kPut l n) := by rw [← List.mem_append, List.take_append_drop]
    simp only [List.mem_append, List.mem_cons, this]
    constructor
    · rintro (h | h | h)
      · exact .inl (.inl h)
      · exact .inr h
      · exact .inl (.inr h)
    · rintro ((h | h) | h)
      · exact .inl h
      · exact .inr (.inr h)
      · exact .inr (.inl h)
theorem put_pair {l : List Int} {n : Int} (h : l.Pairwise (· < ·)) : (put l n).Pairwise (· < ·) := by
  unfold put
  split
  · exact h
  · rename_i hne
    have ht : ∀ x ∈ l.take (kPut l n), x < n := fun x hx => by
      obtain ⟨j, hj⟩ := List.getElem?_of_mem hx
      rw [List.getElem?_take] at hj
      split at hj
      · exact kPut_lt l n j x aA hj
      · cases hj
    have hsplit : (l.take (kPut l n) ++ l.drop (kPut l n)).Pairwise (· < ·) := by rw [List.take_append_drop]; exact h
    rw [List.pairwise_append] at hsplit
    have hd : ∀ x ∈ l.drop (kPut l n), n < x := by
      intro x hx
      cases hc : l.drop (kPut l n) with
      | nil => rw [hc] at hx; cases hx
      | cons a r =>
        have ha : l[kPut l n]? = some a := by
          have : (l.drop (kPut l n))[0]? = some a := by rw [hc]; rfl
          rw [List.getElem?_drop] at this
          simpa using this
        have h1 := kPut_ge l n a ha
        have h2 : a ≠ n := fun e => hne (by rw [← e]; rw [e] at ha ⊢; exact ha)
        rw [hc] at hx
        rcases List.mem_cons.1 hx with rfl | hx
        · omega
        · have := hsplit.2.1
          rw [hc] at this
          have := (List.pairwise_cons.1 this).1 x hx
          omega
    rw [List.pairwise_append]
    refine ⟨hsplit.1, ?_, ?_⟩
    · rw [List.pairwise_cons]
      exact ⟨hd, hsplit.2.1⟩
    · intro a ha b hb
      rcases List.mem_cons.1 hb with rfl | hb
      · exact ht a ha
      · have := ht a ha; have := hd b hb; omega
theorem rise_ext : ∀ {a b : List Int}, a.Pairwise (· < ·) → b.Pairwise (· < ·) → (∀ x, x ∈ a ↔ x ∈ b) → a = b
  | [], [], _, _, _ => rfl
  | [], y :: b, _, _, h => by have := (h y).2 (by simp); cases this
  | x :: a, [], _, _, h => by have := (h x).1 (by simp); cases this
  | x :: a, y :: b, ha, hb, h => by
    rw [List.pairwise_cons] at ha hb
    have hxy : x = y := by
      have h1 := (h x).1 (by simp)
      have h2 := (h y).2 (by simp)
      rcases List.mem_cons.1 h1 with h1 | h1
      · exact h1
      · rcases List.mem_cons.1 h2 with h2 | h2
        · exact h2.symm
        · have := hb.1 x h1; have := ha.1 y h2; omega
    subst hxy
    rw [rise_ext ha.2 hb.2 fun z => ?_]
    have hz := h z
    simp only [List.mem_cons] at hz
    constructor
    · intro hm
      rcases hz.1 (.inr hm) with rfl | h2
      · have := ha.1 z hm; omega
      · exact h2
    · intro hm
      rcases hz.2 (.inr hm) with rfl | h2
      · have := hb.1 z hm; omega
      · exact h2
end Go.Vs
set_option linter.unusedVariables false
set_option linter.unusedSimpArgs false
set_option maxRecDepth 100000
set_option maxHeartbeats 4000000
namespace Go.Vs
open Go.Proofs
theorem cells_rise (n : Nat) (p : Nat → Bool) : (cellsL n p).Pairwise (· < ·) := by
  induction n with
  | zero => simp [cellsL]
  | succ n ih =>
    cases h : p n with
    | false => rw [cellsL_f h]; exact ih
    | true =>
      rw [cellsL_t h, List.pairwise_append]
      refine ⟨ih, by simp, fun a ha b hb => ?_⟩
      obtain ⟨i, h1, _, rfl⟩ := cellsL_mem.1 ha
      rw [List.mem_singleton] at hb
      subst hb
      omega
theorem rise_nodup {l : List Int} (h : l.Pairwise (· < ·)) : l.Nodup := h.imp fun h => by omega
theorem nodup_sub : ∀ {l m : List Int}, l.Nodup → (∀ x ∈ l, x ∈ m) → l.length ≤ m.length
  | [], _, _, _ => by simp
  | a :: l, m, hn, hs => by
    obtain ⟨h1, h2⟩ := List.nodup_cons.1 hn
    have ha := hs a (by simp)
    have h3 := nodup_sub (l := l) (m := m.erase a) h2 fun x hx => (List.mem_erase_of_ne (fun e => h1 (by rw [← e]; exact hx))).2 (hs x (List.mem_cons_of_mem _ hx))
    rw [List.length_erase_of_mem ha] at h3
    have := List.length_pos_of_mem ha
    rw [List.length_cons]
    omega
theorem rise_cells {n : Nat} {l : List Int} (h : l.Pairwise (· < ·)) (hc : ∀ x ∈ l, 0 ≤ x ∧ x < n) : cellsL n (fun i => decide ((i : Int) ∈ l)) = l := by
  refine rise_ext (cells_rise _ _) h fun x => ?_
  rw [cellsL_mem]
  constructor
  · rintro ⟨i, _, h2, rfl⟩
    exact of_decide_eq_true h2
  · intro hx
    have := hc x hx
    refine ⟨x.toNat, by omega, ?_, by omega⟩
    rw [show ((x.toNat : Nat) : Int) = x by omega]
    exact decide_eq_true hx
theorem cells_mem {n : Nat} {p : Int → Bool} {x : Int} : x ∈ cellsL n (fun i => p (i : Int)) ↔ (0 ≤ x ∧ x < n) ∧ p x = true := by
  rw [cellsL_mem]
  constructor
  · rintro ⟨i, h1, h2, rfl⟩
    exact ⟨by omega, h2⟩
  · rintro ⟨h1, h2⟩
    refine ⟨x.toNat, by omega, ?_, by omega⟩
    rw [show ((x.toNat : Nat) : Int) = x by omega]
    exact h2
structure Set1 (t : Terrain) (cells : List Int) (st : Int → Int → Bool) : Prop where
  cel : ∀ c ∈ cells, IsCell t c
  sym : ∀ a c, a ∈ cells → c ∈ cells → st a c = true → st c a = true
section
variable {t : Terrain} {cells : List Int} {st : Int → Int → Bool} {c x y : Int}
theorem Set1.sub (hS : Set1 t cells st) {p : List Int} (hp : ∀ x ∈ p, x ∈ cells) : Set1 t p st := ⟨fun c hc => hS.cel c (hp c hc), fun a c ha hc => hS.sym a c (hp a ha) (hp c hc)⟩
end
end Go.Vs
set_option linter.unusedVariables false
set_option linter.unusedSimpArgs false
set_option maxRecDepth 100000
set_option maxHeartbeats 4000000
namespace Go.Vs
open Go.Proofs
@[reducible] def grB (t : Terrain) (region : List Int) (i : Nat) : Bool := !(region.all fun x => decide (apart t (i : Int) x > 1))
def grL (t : Terrain) (region : List Int) : List Int := cellsL t.burn.length (grB t region)
theorem grL_mem {t : Terrain} {region : List Int} {x : Int} : x ∈ grL t region ↔ IsCell t x ∧ ∃ y ∈ region, apart t x y ≤ 1 := by
  unfold grL
  rw [cells_mem (p := fun i => !(region.all fun x => decide (apart t i x > 1)))]
  refine and_congr Iff.rfl ?_
  simp
@[reducible] def shB (t : Terrain) (region : List Int) (c : Int) : Bool := (nears t c).all fun x => decide (x ∈ region)
def shL (t : Terrain) (region : List Int) : List Int := region.filter (shB t region)
theorem shL_mem {t : Terrain} {region : List Int} {x : Int} : x ∈ shL t region ↔ x ∈ region ∧ ∀ y ∈ nears t x, y ∈ region := by
  unfold shL
  rw [List.mem_filter]
  simp
@[reducible] def frB (t : Terrain) (region : List Int) (c : Int) : Bool := !((nears t c).all fun x => decide (x ∈ region) || !decide (0 < burnAt t x))
def frL (t : Terrain) (region : List Int) : List Int := region.filter (frB t region)
theorem apart_self (t : Terrain) (c : Int) : apart t c c = 0 := by simp only [apart, absI]; omega
theorem apart_nn (t : Terrain) (a c : Int) : 0 ≤ apart t a c := by simp only [apart, absI]; omega
theorem gr_sub {t : Terrain} {region : List Int} (hr : ∀ c ∈ region, IsCell t c) : ∀ x ∈ region, x ∈ grL t region := fun x hx => grL_mem.2 ⟨hr x hx, x, hx, by rw [apart_self]; omega⟩
theorem gr_back {t : Terrain} {region : List Int} (hr : ∀ c ∈ region, IsCell t c) : ∀ x ∈ region, x ∈ shL t (grL t region) := fun x hx => shL_mem.2 ⟨gr_sub hr x hx, fun y hy => by
  obtain ⟨h1, h2⟩ := nears_mem.1 hy
  exact grL_mem.2 ⟨h1, x, hx, by rw [apart_comm]; omega⟩⟩
theorem place_eq {t : Terrain} (hg : GoodT t) {a b : Int} (ha : IsCell t a) (hb : IsCell t b) (h : apart t a b = 0) : a = b := by
  have p1 := (cell_place hg ha).2.2
  have p2 := (cell_place hg hb).2.2
  simp only [apart, absI] at h
  have e1 : colOf t a = colOf t b := by omega
  have e2 : rowOf t a = rowOf t b := by omega
  rw [← p1, ← p2, e1, e2]
theorem sh_grow {t : Terrain} (hg : GoodT t) {region : List Int} (hr : ∀ c ∈ region, IsCell t c) : ∀ x ∈ grL t (shL t region), x ∈ region := fun x hx => by
  obtain ⟨h1, y, h2, h3⟩ := grL_mem.1 hx
  obtain ⟨h4, h5⟩ := shL_mem.1 h2
  by_cases h : apart t x y = 0
  · rw [place_eq hg h1 (hr y h4) h]; exact h4
  · have := apart_nn t x y
    exact h5 x (nears_mem.2 ⟨h1, by rw [apart_comm]; omega⟩)
@[reducible] def jnB (a b : List Int) (i : Nat) : Bool := decide ((i : Int) ∈ a) || decide ((i : Int) ∈ b)
def jnL (t : Terrain) (a b : List Int) : List Int := cellsL t.burn.length (jnB a b)
def coL (a b : List Int) : List Int := a.filter fun x => decide (x ∈ b)
theorem count_two (p q : Nat → Bool) : ∀ n : Nat, (cellsL n fun i => p i || q i).length + (cellsL n fun i => p i && q i).length = (cellsL n p).length + (cellsL n q).length
  | 0 => rfl
  | n + 1 => by
    have ih := count_two p q n
    simp only [cellsL_succ, List.length_append]
    cases p n <;> cases q n <;> simp <;> omega
theorem join_len {t : Terrain} {a b : List Int} (ha : ∀ c ∈ a, IsCell t c) (hb : ∀ c ∈ b, IsCell t c) (ua : a.Pairwise (· < ·)) (ub : b.Pairwise (· < ·)) : (jnL t a b).length + (coL a b).length = a.length + b.length := by
  have h := count_two (fun i => decide ((i : Int) ∈ a)) (fun i => decide ((i : Int) ∈ b)) t.burn.length
  rw [rise_cells ua ha, rise_cells ub hb] at h
  have e : coL a b = cellsL t.burn.length fun i => decide ((i : Int) ∈ a) && decide ((i : Int) ∈ b) := by
    refine rise_ext (ua.filter _) (cells_rise _ _) fun x => ?_
    unfold coL
    rw [cells_mem (p := fun i => decide (i ∈ a) && decide (i ∈ b)), List.mem_filter, Bool.and_eq_true, decide_eq_true_eq, decide_eq_true_eq]
    exact ⟨fun h => ⟨ha x h.1, h⟩, fun h => h.2⟩
  rw [e]
  exact h
end Go.Vs
set_option linter.unusedVariables false
set_option linter.unusedSimpArgs false
set_option maxRecDepth 100000
set_option maxHeartbeats 4000000
namespace Go.Vs
open Go.Proofs
attribute [local irreducible] exec vwp thenQ blkQ loopQ RetPost
@[reducible] def rowR (r : List Int) : List PV := [PV.list 1 (ints r)]
def tabR (L : List (List Int)) : List (List PV) := L.map rowR
theorem tabR_len (L : List (List Int)) : (tabR L).length = L.length := by simp [tabR]
theorem tabR_at {L : List (List Int)} {i : Nat} {r : List Int} (h : L[i]? = some r) : (tabR L)[i]? = some [PV.list 1 (ints r)] := by simp [tabR, h]
theorem k_isSet (t : Terrain) (xs : List Int) (hn : t.burn.length ≤ 1099511627776) (hm : xs.length ≤ 1099511627776) : Con Try.prog 112 [.agg t.pv, .list 1 (ints xs)] (.bool (decide ((∀ s ∈ xs, IsCell t s) ∧ Rising xs))) := by
  intro al
  refine contract_of hmix Try.func112 rfl (by kernel_rfl) (by kernel_rfl) (Nat.le_of_ble_eq_true rfl) (fun row h => by cases h) ?_
  have hty_u24 := ty_u24
  have hty_s24 := ty_s24
  have hty_a26 := ty_a26
  have hall : (xs.all fun c => decide (0 ≤ c ∧ c < t.burn.length)) = true ↔ ∀ s ∈ xs, IsCell t s := by simp [IsCell]
  repeat' (first
      | (refine g_exec ?_; first | (refine g_move ?_; refine x_moveO _ rfl ?_) | (refine g_assign ?_; refine x_assignO _ rfl ?_) | (refine g_load ?_; first | (refine x_load_pc aA rfl ?_) | (refine x_load_oc _ aA rfl rfl aE rfl ?_) | (refine x_load_pa _ aA rfl aZ aL ?_) | (refine x_load_oa _ aA rfl rfl aE aZ aL ?_)) | (refine g_pick ?_; first | (refine x_pick_b rfl aD rfl ?_) | (refine x_pick_c rfl aD ?_) | (refine x_pick_a rfl aD ?_) | (refine x_pick_d rfl aD rfl ?_)) | (refine g_guard ?_; first | (refine x_gyes rfl rfl aD ?_) | (refine x_gno rfl rfl aD ?_) | (refine x_gun rfl rfl ?_) | (refine x_gsplit rfl rfl (fun h => ?_) (fun h => ?_) <;> (have h' := h; (try simp only [sx] at h')))) | (refine g_call ?_; first | (refine x_callG true (k_isRising xs hm) rfl rfl rfl aS rfl aH ?_; simp only [cl]) | (refine x_callG true (k_allIntT xs 153 t (fun c => decide (0 ≤ c ∧ c < t.burn.length)) (fun c _ => k_isCell t c hn) hm) rfl rfl rfl aS rfl aH ?_; simp only [cl])) | (refine x_boxO _ _ rfl rfl rfl rfl ?_) | (refine x_mkfn _ _ rfl rfl ?_) | (refine x_nil (hK _ _ (.inl rfl) ?_); clear hK K) | (refine x_nil (hK _ _ (.inr (by kernel_rfl)) ?_); clear hK K))
      | (refine g_code ?_; first | (refine v_seq ?_) | (refine v_region (fun K hK => ?_)) | (refine v_block ?_) | (refine v_skip ?_) | (refine v_ret ?_) | (refine v_exit ?_))
      | (refine q_then ?_) | (refine q_then_r ?_) | (refine q_then_e ?_) | (refine q_blk_n ?_) | (refine q_blk_r ?_) | (refine q_blk_e ?_) | (refine q_blk_o rfl ?_) | (refine q_loop_r ?_) | (refine q_loop_e ?_) | (refine ret_n ?_))
  all_goals
    (refine ret_bool rfl (lookE_ok rfl) ?_; rw [Bool.eq_iff_iff]; try simp only [sx] at *)
    first
      | (constructor
         · intro hq; exact ⟨hall.1 hq, by assumption⟩
         · intro hq; exact hall.2 hq.1)
      | (constructor <;> intro hq <;> first | contradiction | (exact absurd hq.2 aA))
@[reducible] def SetG (t : Terrain) (r : List Int) : Prop := (∀ s ∈ r, IsCell t s) ∧ Rising r
theorem k_all1R (t : Terrain) (r : List Int) (b : Bool) (hg : Con Try.prog 112 [.agg t.pv, .list 1 (ints r)] (.bool b)) :
    Con Try.prog 151 [.list 1 (ints r), .ptr [.fn 112 [.agg t.pv] []]] (.bool (!b)) := by
  intro al
  refine contract_of hmix Try.func151 rfl (by kernel_rfl) (by kernel_rfl) (Nat.le_of_ble_eq_true rfl) (fun row h => by cases h) ?_
  have hty_c108 := ty_c108
  have hty_u24 := ty_u24
  have hty_s24 := ty_s24
  repeat' (first
      | (refine g_exec ?_; first | (refine g_move ?_; refine x_moveO _ rfl ?_) | (refine g_assign ?_; refine x_assignO _ rfl ?_) | (refine g_un ?_; first | (refine x_not rfl ?_) | (refine x_neg rfl aO ?_)) | (refine g_load ?_; first | (refine x_load_pc aA rfl ?_) | (refine x_load_oc _ aA rfl rfl aE rfl ?_) | (refine x_load_pa _ aA rfl aZ aL ?_) | (refine x_load_oa _ aA rfl rfl aE aZ aL ?_)) | (refine g_call ?_; refine x_callG true (hg) rfl rfl rfl aS rfl aH ?_; simp only [cl]) | (refine x_nil (hK _ _ (.inl rfl) ?_); clear hK K) | (refine x_nil (hK _ _ (.inr (by kernel_rfl)) ?_); clear hK K))
      | (refine g_code ?_; first | (refine v_seq ?_) | (refine v_region (fun K hK => ?_)) | (refine v_block ?_) | (refine v_skip ?_) | (refine v_ret ?_) | (refine v_exit ?_))
      | (refine q_then ?_) | (refine q_then_r ?_) | (refine q_then_e ?_) | (refine q_blk_n ?_) | (refine q_blk_r ?_) | (refine q_blk_e ?_) | (refine q_blk_o rfl ?_) | (refine q_loop_r ?_) | (refine q_loop_e ?_) | (refine ret_n ?_))
  exact ret_bool rfl (lookE_ok rfl) rfl
theorem k_IndexFuncR (xs : List (List Int)) (g : FuncId) (ca : List (List PV)) (p : List Int → Bool) (hg : ∀ a ∈ xs, Con Try.prog g (.list 1 (ints a) :: ca.map PV.ptr) (.bool (p a))) (hn : xs.length ≤ 1099511627776) :
    Con Try.prog 166 [.list 1 (tabR xs), .fn g [] (ca.map PV.ptr)] (.int .i64 (idx p xs)) := by
  intro al
  refine contract_of hmix Try.func166 rfl (by kernel_rfl) (by kernel_rfl) (Nat.le_of_ble_eq_true rfl) (fun row h => by cases h) ?_
  have hty_u35 := ty_u35
  have hty_s35 := ty_s35
  have hty_c24 := ty_c24
  have hty_u24 := ty_u24
  have hty_s24 := ty_s24
  have hl1 := tabR_len xs
  repeat' (first
      | (refine g_exec ?_; first | (refine g_move ?_; refine x_moveO _ rfl ?_) | (refine g_assign ?_; refine x_assignO _ rfl ?_) | (refine g_bin ?_; first | (refine x_add rfl rfl aO ?_) | (refine x_bin _ rfl rfl rfl ?_) | (refine x_strBin _ rfl rfl rfl ?_)) | (refine g_load ?_; first | (refine x_load_pc aA rfl ?_) | (refine x_load_oc _ aA rfl rfl aE rfl ?_) | (refine x_load_pa _ aA rfl aZ aL ?_) | (refine x_load_oa _ aA rfl rfl aE aZ aL ?_)) | (refine g_index ?_; first | (refine x_index_l _ aA rfl rfl aO aA ?_) | (refine x_index_o _ aA rfl rfl rfl rfl aO aO (by first | (rw [Nat.zero_add, Int.toNat_natCast]) | (rw [Nat.zero_add]) | rfl) ?_)) | (refine g_call ?_; first | (refine x_len_l aA rfl ?_) | (refine x_len_o aA rfl rfl ?_) | (refine x_len_n aA rfl ?_) | (refine x_len_s aA (evO_ok rfl) ?_)) | (refine x_nil (hK _ _ (.inl rfl) ?_); clear hK K) | (refine x_nil (hK _ _ (.inr (by kernel_rfl)) ?_); clear hK K))
      | (refine g_code ?_; first | (refine v_seq ?_) | (refine v_region (fun K hK => ?_)) | (refine v_block ?_) | (refine v_skip ?_) | (refine v_ret ?_) | (refine v_exit ?_) | (refine g_cond ?_; first | (refine v_cond_y rfl aD ?_) | (refine v_cond_n rfl aD ?_) | (refine v_condt rfl (fun h => ?_) (fun h => ?_) <;> (have h' := h; (try simp only [sx] at h')))))
      | (refine q_then ?_) | (refine q_then_r ?_) | (refine q_then_e ?_) | (refine q_blk_n ?_) | (refine q_blk_r ?_) | (refine q_blk_e ?_) | (refine q_blk_o rfl ?_) | (refine q_loop_r ?_) | (refine q_loop_e ?_) | (refine ret_n ?_))
  refine v_loopK [0, 1, 7] [] (fun i : Nat => [(8, .int .i64 i)]) (fun i : Nat => []) (fun i : Nat => i ≤ xs.length ∧ ∀ j, j < i → ∀ c, xs[j]? = some c → p c = false) (fun i : Nat => xs.length - i) (0) rfl rfl (fun _ => rfl) (fun _ => rfl) rfl (by refine ⟨?_, ?_, rfl, rfl⟩ <;> (repeat' (first | exact trivial | exact ⟨rfl, rfl⟩ | exact rfl | exact ⟨sub_fn, refs_fn⟩ | refine ⟨⟨rfl, rfl⟩, ?_⟩ | refine ⟨⟨sub_fn, refs_fn⟩, ?_⟩ | refine ⟨⟨rfl, fun h => Bool.noConfusion h⟩, ?_⟩ | refine ⟨⟨rfl, fun h => ?_⟩, ?_⟩ | refine ⟨rfl, ?_⟩ | refine ⟨?_, ?_⟩ | fail))) ⟨by omega, fun j hj => by omega⟩ (fun i hi => ?_)
  obtain ⟨hi1, hi2⟩ := hi
  rcases Nat.lt_or_ge i xs.length with hlt | hge
  · obtain ⟨a, hga⟩ := get_ex hlt
    have hx := tabR_at hga
    have kg := hg a (get_mem hga)
    repeat' (first
      | (refine g_exec ?_; first | (refine g_move ?_; refine x_moveO _ rfl ?_) | (refine g_assign ?_; refine x_assignO _ rfl ?_) | (refine g_bin ?_; first | (refine x_add rfl rfl aO ?_) | (refine x_bin _ rfl rfl rfl ?_) | (refine x_strBin _ rfl rfl rfl ?_)) | (refine g_load ?_; first | (refine x_load_pc aA rfl ?_) | (refine x_load_oc _ aA rfl rfl aE rfl ?_) | (refine x_load_pa _ aA rfl aZ aL ?_) | (refine x_load_oa _ aA rfl rfl aE aZ aL ?_)) | (refine g_index ?_; first | (refine x_index_l _ aA rfl rfl aO aA ?_) | (refine x_index_o _ aA rfl rfl rfl rfl aO aO (by first | (rw [Nat.zero_add, Int.toNat_natCast]) | (rw [Nat.zero_add]) | rfl) ?_)) | (refine g_call ?_; first | (refine x_callG true (kg) rfl rfl rfl aS rfl aH ?_; simp only [cl]) | (refine x_call [] _ (kg) rfl rfl aS rfl aH ?_; simp only [cl]) | (refine x_len_l aA rfl ?_) | (refine x_len_o aA rfl rfl ?_) | (refine x_len_n aA rfl ?_) | (refine x_len_s aA (evO_ok rfl) ?_)) | (refine x_nil (hK _ _ (.inl rfl) ?_); clear hK K) | (refine x_nil (hK _ _ (.inr (by kernel_rfl)) ?_); clear hK K))
      | (refine g_code ?_; first | (refine v_seq ?_) | (refine v_region (fun K hK => ?_)) | (refine v_block ?_) | (refine v_skip ?_) | (refine v_ret ?_) | (refine v_exit ?_) | (refine g_cond ?_; first | (refine v_cond_y rfl aD ?_) | (refine v_cond_n rfl aD ?_) | (refine v_condt rfl (fun h => ?_) (fun h => ?_) <;> (have h' := h; (try simp only [sx] at h')))))
      | (refine q_then ?_) | (refine q_then_r ?_) | (refine q_then_e ?_) | (refine q_blk_n ?_) | (refine q_blk_r ?_) | (refine q_blk_e ?_) | (refine q_blk_o rfl ?_) | (refine q_loop_r ?_) | (refine q_loop_e ?_) | (refine ret_n ?_))
    · exact ret_int rfl (lookE_ok rfl) (idx_some hi2 hga aA).symm
    · refine q_next (i + 1) rfl (by refine ⟨?_, ?_, rfl, rfl⟩ <;> (repeat' (first | exact trivial | exact ⟨rfl, rfl⟩ | exact rfl | exact ⟨sub_fn, refs_fn⟩ | refine ⟨⟨rfl, rfl⟩, ?_⟩ | refine ⟨⟨sub_fn, refs_fn⟩, ?_⟩ | refine ⟨⟨rfl, fun h => Bool.noConfusion h⟩, ?_⟩ | refine ⟨⟨rfl, fun h => ?_⟩, ?_⟩ | refine ⟨rfl, ?_⟩ | refine ⟨?_, ?_⟩ | fail))) ⟨by omega, idx_step hi2 hga (by simpa using h)⟩ aO
  · repeat' (first
      | (refine g_exec ?_; first | (refine g_move ?_; refine x_moveO _ rfl ?_) | (refine g_assign ?_; refine x_assignO _ rfl ?_) | (refine g_bin ?_; first | (refine x_add rfl rfl aO ?_) | (refine x_bin _ rfl rfl rfl ?_) | (refine x_strBin _ rfl rfl rfl ?_)) | (refine g_load ?_; first | (refine x_load_pc aA rfl ?_) | (refine x_load_oc _ aA rfl rfl aE rfl ?_) | (refine x_load_pa _ aA rfl aZ aL ?_) | (refine x_load_oa _ aA rfl rfl aE aZ aL ?_)) | (refine g_index ?_; first | (refine x_index_l _ aA rfl rfl aO aA ?_) | (refine x_index_o _ aA rfl rfl rfl rfl aO aO (by first | (rw [Nat.zero_add, Int.toNat_natCast]) | (rw [Nat.zero_add]) | rfl) ?_)) | (refine g_call ?_; first | (refine x_len_l aA rfl ?_) | (refine x_len_o aA rfl rfl ?_) | (refine x_len_n aA rfl ?_) | (refine x_len_s aA (evO_ok rfl) ?_)) | (refine x_nil (hK _ _ (.inl rfl) ?_); clear hK K) | (refine x_nil (hK _ _ (.inr (by kernel_rfl)) ?_); clear hK K))
      | (refine g_code ?_; first | (refine v_seq ?_) | (refine v_region (fun K hK => ?_)) | (refine v_block ?_) | (refine v_skip ?_) | (refine v_ret ?_) | (refine v_exit ?_) | (refine g_cond ?_; first | (refine v_cond_y rfl aD ?_) | (refine v_cond_n rfl aD ?_) | (refine v_condt rfl (fun h => ?_) (fun h => ?_) <;> (have h' := h; (try simp only [sx] at h')))))
      | (refine q_then ?_) | (refine q_then_r ?_) | (refine q_then_e ?_) | (refine q_blk_n ?_) | (refine q_blk_r ?_) | (refine q_blk_e ?_) | (refine q_blk_o rfl ?_) | (refine q_loop_r ?_) | (refine q_loop_e ?_) | (refine ret_n ?_))
    exact ret_int rfl (lookE_ok rfl) (idx_none fun j hj => hi2 j aO).symm
theorem k_ContainsFuncR (xs : List (List Int)) (g : FuncId) (ca : List (List PV)) (p : List Int → Bool) (hg : ∀ a ∈ xs, Con Try.prog g (.list 1 (ints a) :: ca.map PV.ptr) (.bool (p a))) (hn : xs.length ≤ 1099511627776) :
    Con Try.prog 150 [.list 1 (tabR xs), .fn g [] (ca.map PV.ptr)] (.bool (xs.any p)) := by
  intro al
  refine contract_of hmix Try.func150 rfl (by kernel_rfl) (by kernel_rfl) (Nat.le_of_ble_eq_true rfl) (fun row h => by cases h) ?_
  have hty_u35 := ty_u35
  have hty_s35 := ty_s35
  repeat' (first
      | (refine g_exec ?_; first | (refine g_move ?_; refine x_moveO _ rfl ?_) | (refine g_assign ?_; refine x_assignO _ rfl ?_) | (refine g_bin ?_; refine x_bin _ rfl rfl rfl ?_) | (refine g_call ?_; refine x_callG false (k_IndexFuncR xs g ca p hg hn) rfl rfl rfl aS rfl aH ?_; simp only [cl]) | (refine x_nil (hK _ _ (.inl rfl) ?_); clear hK K) | (refine x_nil (hK _ _ (.inr (by kernel_rfl)) ?_); clear hK K))
      | (refine g_code ?_; first | (refine v_seq ?_) | (refine v_region (fun K hK => ?_)) | (refine v_block ?_) | (refine v_skip ?_) | (refine v_ret ?_) | (refine v_exit ?_))
      | (refine q_then ?_) | (refine q_then_r ?_) | (refine q_then_e ?_) | (refine q_blk_n ?_) | (refine q_blk_r ?_) | (refine q_blk_e ?_) | (refine q_blk_o rfl ?_) | (refine q_loop_r ?_) | (refine q_loop_e ?_) | (refine ret_n ?_))
  refine ret_bool rfl (lookE_ok rfl) ?_
  rw [← idx_any]
theorem k_allR (t : Terrain) (xs : List (List Int)) (p : List Int → Bool) (hg : ∀ a ∈ xs, Con Try.prog 112 [.agg t.pv, .list 1 (ints a)] (.bool (p a))) (hn : xs.length ≤ 1099511627776) :
    Con Try.prog 111 [.list 1 (tabR xs), .fn 112 [.agg t.pv] []] (.bool (xs.all p)) := by
  intro al
  refine contract_of hmix Try.func111 rfl (by kernel_rfl) (by kernel_rfl) (Nat.le_of_ble_eq_true rfl) (fun row h => by cases h) ?_
  have hty_u35 := ty_u35
  have hty_s35 := ty_s35
  repeat' (first
      | (refine g_exec ?_; first | (refine g_move ?_; refine x_moveO _ rfl ?_) | (refine g_assign ?_; refine x_assignO _ rfl ?_) | (refine g_un ?_; first | (refine x_not rfl ?_) | (refine x_neg rfl aO ?_)) | (refine g_call ?_; refine x_callG true (k_ContainsFuncR xs 151 [[.fn 112 [.agg t.pv] []]] (fun a => !p a) (fun a ha => k_all1R t a (p a) (hg a ha)) hn) rfl rfl rfl aS rfl aH ?_; simp only [cl]) | (refine x_boxO _ _ rfl rfl rfl rfl ?_) | (refine x_mkfn _ _ rfl rfl ?_) | (refine x_nil (hK _ _ (.inl rfl) ?_); clear hK K) | (refine x_nil (hK _ _ (.inr (by kernel_rfl)) ?_); clear hK K))
      | (refine g_code ?_; first | (refine v_seq ?_) | (refine v_region (fun K hK => ?_)) | (refine v_block ?_) | (refine v_skip ?_) | (refine v_ret ?_) | (refine v_exit ?_))
      | (refine q_then ?_) | (refine q_then_r ?_) | (refine q_then_e ?_) | (refine q_blk_n ?_) | (refine q_blk_r ?_) | (refine q_blk_e ?_) | (refine q_blk_o rfl ?_) | (refine q_loop_r ?_) | (refine q_loop_e ?_) | (refine ret_n ?_))
  refine ret_bool rfl (lookE_ok rfl) ?_
  rw [List.all_eq_not_any_not]
@[reducible] def rgB (t : Terrain) (xs : List (List Int)) : Bool := decide (GoodT t) && xs.all fun r => decide (SetG t r)
theorem k_isRegion (t : Terrain) (xs : List (List Int)) (hn : t.burn.length ≤ 1000000) (hm : xs.length ≤ 1000000) (hs : ∀ r ∈ xs, r.length ≤ 1000000) :
    Con Try.prog 55 [.agg t.pv, .list 1 (tabR xs)] (.bool (rgB t xs)) := by
  intro al
  refine contract_of hmix Try.func55 rfl (by kernel_rfl) (by kernel_rfl) (Nat.le_of_ble_eq_true rfl) (fun row h => by cases h) ?_
  have hty_a26 := ty_a26
  have hty_u35 := ty_u35
  have hty_s35 := ty_s35
  have k1 := k_IsTerrain t aO
  have k2 := k_allR t xs (fun r => decide (SetG t r)) (fun r h => k_isSet t r aO (by have := hs r h; omega)) aO
  unfold rgB
  generalize decide (GoodT t) = x at *
  generalize (xs.all fun r => decide (SetG t r)) = y at *
  cases x
  · repeat' (first
      | (refine g_exec ?_; first | (refine g_move ?_; refine x_moveO _ rfl ?_) | (refine g_assign ?_; refine x_assignO _ rfl ?_) | (refine g_load ?_; first | (refine x_load_pc aA rfl ?_) | (refine x_load_oc _ aA rfl rfl aE rfl ?_) | (refine x_load_pa _ aA rfl aZ aL ?_) | (refine x_load_oa _ aA rfl rfl aE aZ aL ?_)) | (refine g_pick ?_; first | (refine x_pick_b rfl aD rfl ?_) | (refine x_pick_c rfl aD ?_) | (refine x_pick_a rfl aD ?_) | (refine x_pick_d rfl aD rfl ?_)) | (refine g_guard ?_; first | (refine x_gyes rfl rfl aD ?_) | (refine x_gno rfl rfl aD ?_) | (refine x_gun rfl rfl ?_) | (refine x_gsplit rfl rfl (fun h => ?_) (fun h => ?_) <;> (have h' := h; (try simp only [sx] at h')))) | (refine g_call ?_; first | (refine x_callG true (k1) rfl rfl rfl aS rfl aH ?_; simp only [cl]) | (refine x_callG true (k2) rfl rfl rfl aS rfl aH ?_; simp only [cl])) | (refine x_boxO _ _ rfl rfl rfl rfl ?_) | (refine x_mkfn _ _ rfl rfl ?_) | (refine x_nil (hK _ _ (.inl rfl) ?_); clear hK K) | (refine x_nil (hK _ _ (.inr (by kernel_rfl)) ?_); clear hK K))
      | (refine g_code ?_; first | (refine v_seq ?_) | (refine v_region (fun K hK => ?_)) | (refine v_block ?_) | (refine v_skip ?_) | (refine v_ret ?_) | (refine v_exit ?_))
      | (refine q_then ?_) | (refine q_then_r ?_) | (refine q_then_e ?_) | (refine q_blk_n ?_) | (refine q_blk_r ?_) | (refine q_blk_e ?_) | (refine q_blk_o rfl ?_) | (refine q_loop_r ?_) | (refine q_loop_e ?_) | (refine ret_n ?_))
    all_goals exact ret_bool rfl (lookE_ok rfl) rfl
  · repeat' (first
      | (refine g_exec ?_; first | (refine g_move ?_; refine x_moveO _ rfl ?_) | (refine g_assign ?_; refine x_assignO _ rfl ?_) | (refine g_load ?_; first | (refine x_load_pc aA rfl ?_) | (refine x_load_oc _ aA rfl rfl aE rfl ?_) | (refine x_load_pa _ aA rfl aZ aL ?_) | (refine x_load_oa _ aA rfl rfl aE aZ aL ?_)) | (refine g_pick ?_; first | (refine x_pick_b rfl aD rfl ?_) | (refine x_pick_c rfl aD ?_) | (refine x_pick_a rfl aD ?_) | (refine x_pick_d rfl aD rfl ?_)) | (refine g_guard ?_; first | (refine x_gyes rfl rfl aD ?_) | (refine x_gno rfl rfl aD ?_) | (refine x_gun rfl rfl ?_) | (refine x_gsplit rfl rfl (fun h => ?_) (fun h => ?_) <;> (have h' := h; (try simp only [sx] at h')))) | (refine g_call ?_; first | (refine x_callG true (k1) rfl rfl rfl aS rfl aH ?_; simp only [cl]) | (refine x_callG true (k2) rfl rfl rfl aS rfl aH ?_; simp only [cl])) | (refine x_boxO _ _ rfl rfl rfl rfl ?_) | (refine x_mkfn _ _ rfl rfl ?_) | (refine x_nil (hK _ _ (.inl rfl) ?_); clear hK K) | (refine x_nil (hK _ _ (.inr (by kernel_rfl)) ?_); clear hK K))
      | (refine g_code ?_; first | (refine v_seq ?_) | (refine v_region (fun K hK => ?_)) | (refine v_block ?_) | (refine v_skip ?_) | (refine v_ret ?_) | (refine v_exit ?_))
      | (refine q_then ?_) | (refine q_then_r ?_) | (refine q_then_e ?_) | (refine q_blk_n ?_) | (refine q_blk_r ?_) | (refine q_blk_e ?_) | (refine q_blk_o rfl ?_) | (refine q_loop_r ?_) | (refine q_loop_e ?_) | (refine ret_n ?_))
    all_goals exact ret_bool rfl (lookE_ok rfl) (by simp)
end Go.Vs
set_option linter.unusedVariables false
set_option linter.unusedSimpArgs false
namespace Go.Vs
def ContractR (P : Program) (f : FuncId) (args : List PV) (ios mvs : List Row) (r : PV) (ios' mvs' : List Row) : Prop :=
  Callable P f ∧ ∀ (G : Nat → Prop) (w : World) (X : List (Option (Nat × Nat))) (ρ : Id → Option (Nat × Nat)) (cargs : Array Value),
    WRel G ρ w X (memS ios mvs) w → Comps ρ w (Stab G ρ (memS ios mvs) w) (memS ios mvs) cargs args →
    Calls P f cargs w fun e w' => ∃ v ρ', e = .returned v ∧ WRel G ρ' w X (memS ios' mvs') w' ∧ Rep ρ' w' (Stab G ρ' (memS ios' mvs') w') (memS ios' mvs') v r
section
variable {P : Program} {G G' : Nat → Prop} {ρ ρ' : Id → Option (Nat × Nat)} {w0 w : World} {X : List (Option (Nat × Nat))} {M M' : Mem}
theorem callR_sound (hW : WRel G ρ w0 X M w) {f : FuncId} {cargs : Array Value} {xs ys : List PV} {d : Nat} {ids mids rd : List Id} {ios mvs ios' mvs' : List Row} {r : PV}
    (hc : Comps ρ w (Stab G ρ M w) M cargs xs) (ok : CallOkS M d xs ys ids mids rd ios mvs ios' mvs') (hC : ContractR P f ys ios mvs r ios' mvs') (hrr : refsD 5 (namesS ios.length mvs.length) r = true) :
    Calls P f cargs w fun e w' => ∃ v ρ2, e = .returned v ∧ Trans G ρ M w ρ2 (M.upds (upsS d ids mids rd ios' mvs')) w' ∧
      WRel G ρ2 w0 X (M.upds (upsS d ids mids rd ios' mvs')) w' ∧ Rep ρ2 w' (Stab G ρ2 (M.upds (upsS d ids mids rd ios' mvs')) w') (M.upds (upsS d ids mids rd ios' mvs')) v (subD 5 (outS ids d) r) := by
  have hnd := List.nodup_append.1 ok.nodup
  have hdis : ∀ id, id ∈ ids → id ∉ mids := fun id h1 h2 => hnd.2.2 id h1 id h2 rfl
  have liveI : ∀ (k : Nat) id, ids[k]? = some id → ∃ row, ios[k]? = some row ∧ M id = some (some (sbr (inS ids mids) row)) ∧ refsR (namesS ios.length mvs.length) row := fun k id hk => by
    have hlt : k < ios.length := by rw [← ok.len]; exact (List.getElem?_eq_some_iff.1 hk).1
    exact ⟨_, List.getElem?_eq_getElem hlt, ok.lent k id _ hk (List.getElem?_eq_getElem hlt)⟩
  have liveM : ∀ (k : Nat) id, mids[k]? = some id → ∃ row, mvs[k]? = some row ∧ M id = some (some (sbr (inS ids mids) row)) ∧ row.bx = false ∧ id.1 ≠ io := fun k id hk => by
    have hlt : k < mvs.length := by rw [← ok.lem]; exact (List.getElem?_eq_some_iff.1 hk).1
    exact ⟨_, List.getElem?_eq_getElem hlt, ok.lemt k id _ hk (List.getElem?_eq_getElem hlt)⟩
  have liveA : ∀ id, id ∈ ids ∨ id ∈ mids → ∃ r0, M id = some (some r0) := by
    rintro id (h | h)
    · obtain ⟨k, hk⟩ := List.getElem?_of_mem h
      obtain ⟨row, _, h2, _⟩ := liveI k id hk
      exact ⟨_, h2⟩
    · obtain ⟨k, hk⟩ := List.getElem?_of_mem h
      obtain ⟨row, _, h2, _⟩ := liveM k id hk
      exact ⟨_, h2⟩
  have nd : ∀ id x, M id = some x → id.1 ≠ d := fun id x h e => by
    rw [show id = (d, id.2) from by rw [← e], ok.free] at h
    cases h
  have hin1 : ∀ (k : Nat) id, ids[k]? = some id → inS ids mids (io, k) = id := fun k id hk => by simp [inS, hk]
  have hin2 : ∀ (k : Nat) id, mids[k]? = some id → inS ids mids (mv, k) = id := fun k id hk => by simp [inS, hk, mv_io]
  have hout1 : ∀ (k : Nat) id, ids[k]? = some id → outS ids d (io, k) = id := fun k id hk => by simp [outS, hk]
  have hout2 : ∀ k : Nat, outS ids d (mv, k) = (d, k) := fun k => by simp [outS, mv_io]
  obtain ⟨T1, W1⟩ : Trans G ρ M w ρ (M.upds (deadS rd)) w ∧ WRel G ρ w0 X (M.upds (deadS rd)) w := freeze_all hW rd (fun id hid => (ok.given id hid).2) ok.rnodup
  let ρc : Id → Option (Nat × Nat) := fun id => if id.1 = io ∨ id.1 = mv then ρ (inS ids mids id) else none
  let Xc : List (Option (Nat × Nat)) := ids.map ρ ++ mids.map ρ
  let Gc : Nat → Prop := fun b => Stab G ρ (M.upds (deadS rd)) w b ∨ w.heap.size ≤ b ∨ ∃ z, some (b, z) ∈ Xc
  have hρ1 : ∀ (k : Nat) id, ids[k]? = some id → ρc (io, k) = ρ id := fun k id hk => by simp only [ρc, true_or, if_true, hin1 k id hk]
  have hρ2 : ∀ (k : Nat) id, mids[k]? = some id → ρc (mv, k) = ρ id := fun k id hk => by simp only [ρc, or_true, if_true, hin2 k id hk]
  have hmem : ∀ id row, memS ios mvs id = some (some row) → (id = (io, id.2) ∧ ios[id.2]? = some row ∧ ∃ id', ids[id.2]? = some id') ∨ (id = (mv, id.2) ∧ mvs[id.2]? = some row ∧ ∃ id', mids[id.2]? = some id') := by
    intro id row h
    simp only [memS] at h
    split at h
    · rename_i h1
      obtain ⟨row', g1, g2⟩ := Option.map_eq_some_iff.1 h
      injection g2 with g2
      subst g2
      have hlt : id.2 < ids.length := by rw [ok.len]; exact (List.getElem?_eq_some_iff.1 g1).1
      exact .inl ⟨by rw [← h1], g1, _, List.getElem?_eq_getElem hlt⟩
    · split at h
      · rename_i h1
        obtain ⟨row', g1, g2⟩ := Option.map_eq_some_iff.1 h
        injection g2 with g2
        subst g2
        have hlt : id.2 < mids.length := by rw [ok.lem]; exact (List.getElem?_eq_some_iff.1 g1).1
        exact .inr ⟨by rw [← h1], g1, _, List.getElem?_eq_getElem hlt⟩
      · cases h
  have hlive : ∀ id row, memS ios mvs id = some (some row) → ∃ id', inS ids mids id = id' ∧ M id' = some (some (sbr (inS ids mids) row)) ∧ ρc id = ρ id' ∧ (id' ∈ ids ∨ id' ∈ mids) ∧ refsR (namesS ios.length mvs.length) row := by
    intro id row h
    rcases hmem id row h with ⟨e, h1, id', h2⟩ | ⟨e, h1, id', h2⟩
    · obtain ⟨g1, g2⟩ := ok.lent id.2 id' row h2 h1
      exact ⟨id', by rw [e]; exact hin1 _ _ h2, g1, by rw [e]; exact hρ1 _ _ h2, .inl (List.mem_of_getElem? h2), g2⟩
    · obtain ⟨g1, g2, g3⟩ := ok.lemt id.2 id' row h2 h1
      exact ⟨id', by rw [e]; exact hin2 _ _ h2, g1, by rw [e]; exact hρ2 _ _ h2, .inr (List.mem_of_getElem? h2), fun hb => by rw [g2] at hb; cases hb⟩
  have hinj : ∀ i1 r1 i2 r2, memS ios mvs i1 = some (some r1) → memS ios mvs i2 = some (some r2) → inS ids mids i1 = inS ids mids i2 → i1 = i2 := by
    intro i1 r1 i2 r2 h1 h2 he
    rcases hmem i1 r1 h1 with ⟨e1, _, j1, k1⟩ | ⟨e1, _, j1, k1⟩ <;> rcases hmem i2 r2 h2 with ⟨e2, _, j2, k2⟩ | ⟨e2, _, j2, k2⟩ <;> rw [e1, e2] at he
    · rw [hin1 _ _ k1, hin1 _ _ k2] at he
      subst he
      rw [e1, e2, nodup_inj ids _ _ _ hnd.1 k1 k2]
    · rw [hin1 _ _ k1, hin2 _ _ k2] at he
      subst he
      exact absurd (List.mem_of_getElem? k2) (hdis _ (List.mem_of_getElem? k1))
    · rw [hin2 _ _ k1, hin1 _ _ k2] at he
      subst he
      exact absurd (List.mem_of_getElem? k1) (hdis _ (List.mem_of_getElem? k2))
    · rw [hin2 _ _ k1, hin2 _ _ k2] at he
      subst he
      rw [e1, e2, nodup_inj mids _ _ _ hnd.2.1 k1 k2]
  have hXc : ∀ b z, some (b, z) ∈ Xc → ∃ id, (id ∈ ids ∨ id ∈ mids) ∧ ρ id = some (b, z) := by
    intro b z h
    rcases List.mem_append.1 h with h | h
    · obtain ⟨id, h1, h2⟩ := List.mem_map.1 h; exact ⟨id, .inl h1, h2⟩
    · obtain ⟨id, h1, h2⟩ := List.mem_map.1 h; exact ⟨id, .inr h1, h2⟩
  have hS : ∀ b, Stab G ρ M w b → Stab Gc ρc (memS ios mvs) w b := by
    intro b hb
    refine ⟨hb.1, fun id row z hl => ?_, .inl (T1.stab b hb).1⟩
    obtain ⟨id', _, g1, g2, _⟩ := hlive id row hl
    rw [g2]
    exact hb.2.1 id' _ z g1
  have hId : ∀ id ∈ rd, ∀ r b z, M id = some (some r) → ρ id = some (b, z) → Stab Gc ρc (memS ios mvs) w b := by
    intro id hid r b z hM hρ
    refine ⟨hW.lt hM hρ, fun id2 row z2 hl hh => ?_, .inl ⟨hW.lt hM hρ, fun id2 r2 z2 hl hh => ?_, ?_⟩⟩
    · obtain ⟨id', _, g1, g2, g3, _⟩ := hlive id2 row hl
      rw [g2] at hh
      have := hW.inj id id' r _ b z z2 hM g1 hρ hh
      subst this
      rcases g3 with g3 | g3
      · exact (ok.apart id hid).1 g3
      · exact (ok.apart id hid).2 g3
    · by_cases hin : id2 ∈ rd
      · rw [deadS_at M hin] at hl; cases hl
      · rw [deadS_other M hin] at hl
        have := hW.inj id id2 r r2 b z z2 hM hl hρ hh
        exact hin (by rw [← this]; exact hid)
    · have := hW.new id r hM
      rw [if_neg (ok.given id hid).1] at this
      exact hW.good b (this b z hρ)
  have hMin : ∀ id, ((namesS ios.length mvs.length).any fun k => Nat.beq k.1 id.1 && Nat.beq k.2 id.2) = true → ∃ r r', M (inS ids mids id) = some (some r) ∧ memS ios mvs id = some (some r') ∧ r'.sz = r.sz ∧ r'.ty = r.ty ∧ r'.es.length = r.es.length ∧ ρc id = ρ (inS ids mids id) := by
    intro id hid
    have hx : ∃ row, memS ios mvs id = some (some row) := by
      rcases namesS_any hid with ⟨h1, h2⟩ | ⟨h1, h2⟩
      · rw [h1]; exact ⟨ios[id.2], by simp only [memS, if_true, List.getElem?_eq_getElem h2, Option.map_some]⟩
      · rw [h1]; exact ⟨mvs[id.2], by simp only [memS, mv_io, if_false, if_true, List.getElem?_eq_getElem h2, Option.map_some]⟩
    obtain ⟨row, hrow⟩ := hx
    obtain ⟨id', g0, g1, g2, _⟩ := hlive id row hrow
    exact ⟨sbr (inS ids mids) row, row, by rw [g0]; exact g1, hrow, rfl, rfl, (sbr_len _ _).symm, by rw [g0]; exact g2⟩
  have hentry : WRel Gc ρc w Xc (memS ios mvs) w := by
    refine ⟨?_, ?_, ?_, ⟨rfl, rfl, rfl, Nat.le_refl _, fun _ _ _ => rfl, fun b cur ty fr h => ⟨cur, h, rfl⟩⟩, fun b hb => .inr hb⟩
    · intro i1 i2 r1 r2 b z1 z2 h1 h2 k1 k2
      obtain ⟨j1, e1, m1, p1, _⟩ := hlive i1 r1 h1
      obtain ⟨j2, e2, m2, p2, _⟩ := hlive i2 r2 h2
      rw [p1] at k1
      rw [p2] at k2
      have := hW.inj j1 j2 _ _ b z1 z2 m1 m2 k1 k2
      exact hinj i1 r1 i2 r2 h1 h2 (by rw [e1, e2, this])
    · intro id row hl
      obtain ⟨id', e1, m1, p1, _, href⟩ := hlive id row hl
      rw [p1]
      exact (rowOk_ren (namesS ios.length mvs.length) hMin href).1 hS (hW.row id' _ m1)
    · intro id row hl
      rcases hmem id row hl with ⟨e, h1, id', h2⟩ | ⟨e, h1, id', h2⟩
      · rw [e, if_pos rfl]
        have hlt : id.2 < (ids.map ρ).length := by rw [List.length_map]; exact (List.getElem?_eq_some_iff.1 h2).1
        show (ids.map ρ ++ mids.map ρ)[id.2]? = _
        rw [List.getElem?_append_left hlt, List.getElem?_map, h2, hρ1 _ _ h2]
        rfl
      · rw [e, if_neg mv_io]
        intro b z hb
        rw [hρ2 _ _ h2] at hb
        exact .inr ⟨z, List.mem_append_right _ (List.mem_map.2 ⟨id', List.mem_of_getElem? h2, hb⟩)⟩
  have hargs : Comps ρc w (Stab Gc ρc (memS ios mvs) w) (memS ios mvs) cargs ys :=
    comps_snap (snap_sound hW hS hId 6 ids (memS ios mvs) ρc (fun k id hk => by
      obtain ⟨row, h1, h2, h3⟩ := liveI k id hk
      exact ⟨_, row, h2, by simp only [memS, if_true, h1, Option.map_some], rfl, rfl, (sbr_len _ _).symm, hρ1 k id hk⟩)) ok.snap hc
  refine (hC.2 Gc w Xc ρc cargs hentry hargs).mono ?_
  rintro e w' ⟨v, ρ', rfl, hR, hv⟩
  have hkeep := hR.keep
  let ρ2 : Id → Option (Nat × Nat) := fun id => if id.1 = d then ρ' (mv, id.2) else ρ id
  let M2 : Mem := M.upds (upsS d ids mids rd ios' mvs')
  show ∃ v_1 ρ2, Ending.returned v = Ending.returned v_1 ∧ Trans G ρ M w ρ2 M2 w' ∧ WRel G ρ2 w0 X M2 w' ∧ Rep ρ2 w' (Stab G ρ2 M2 w') M2 v_1 (subD 5 (outS ids d) r)
  have hM2 : M2 = ((((M.upds (deadS rd)).upds (deadS mids)).upds (backS (outS ids d) ids ios')).upds (newS d (outS ids d) 0 mvs')) := by simp only [M2, upsS, upds_append]
  have m2d : ∀ k : Nat, M2 (d, k) = (mvs'[k]?).map fun row => some (sbr (outS ids d) row) := by
    intro k
    rw [hM2, newS_at _ mvs' 0 k, if_pos (Nat.zero_le _), Nat.sub_zero]
    cases mvs'[k]? with
    | some row => rfl
    | none =>
      show (((M.upds (deadS rd)).upds (deadS mids)).upds (backS (outS ids d) ids ios')) (d, k) = none
      have no : ∀ id, id ∈ ids ∨ id ∈ mids ∨ id ∈ rd → id ≠ (d, k) := fun id h e => by
        subst e
        have : ∃ r0, M (d, k) = some (some r0) := by
          rcases h with h | h | h
          · exact liveA _ (.inl h)
          · exact liveA _ (.inr h)
          · exact (ok.given _ h).2
        obtain ⟨r0, h0⟩ := this
        rw [ok.free] at h0; cases h0
      rw [upds_other _ _ _ (fun p hp e => no _ (.inl (backS_fst p hp)) e), deadS_other _ (fun h => no _ (.inr (.inl h)) rfl), deadS_other _ (fun h => no _ (.inr (.inr h)) rfl)]
      exact ok.free k
  have m2n : ∀ id, id.1 ≠ d → M2 id = (((M.upds (deadS rd)).upds (deadS mids)).upds (backS (outS ids d) ids ios')) id := fun id h => by
    rw [hM2, upds_other _ _ id (fun p hp e => h (by rw [← e]; exact newS_fst p hp))]
  have m2i : ∀ (k : Nat) id, ids[k]? = some id → ∃ row', ios'[k]? = some row' ∧ M2 id = some (some (sbr (outS ids d) row')) ∧ id.1 ≠ d := by
    intro k id hk
    have hlt : k < ios'.length := by rw [ok.len', ← ok.len]; exact (List.getElem?_eq_some_iff.1 hk).1
    obtain ⟨row, _, h2, _⟩ := liveI k id hk
    have hne := nd id _ h2
    refine ⟨_, List.getElem?_eq_getElem hlt, ?_, hne⟩
    rw [m2n id hne]
    exact backS_at _ ids ios' k id _ hnd.1 hk (List.getElem?_eq_getElem hlt)
  have m2m : ∀ id, id ∈ mids → M2 id = some none := by
    intro id h
    obtain ⟨r0, h0⟩ := liveA id (.inr h)
    rw [m2n id (nd id _ h0), upds_other _ _ _ (fun p hp e => hdis id (by rw [← e]; exact backS_fst p hp) h)]
    exact deadS_at _ h
  have m2r : ∀ id, id ∈ rd → M2 id = some none := by
    intro id h
    obtain ⟨r0, h0⟩ := (ok.given id h).2
    rw [m2n id (nd id _ h0), upds_other _ _ _ (fun p hp e => (ok.apart id h).1 (by rw [← e]; exact backS_fst p hp)), deadS_other _ (ok.apart id h).2]
    exact deadS_at _ h
  have m2o : ∀ id, id.1 ≠ d → id ∉ ids → id ∉ mids → id ∉ rd → M2 id = M id := by
    intro id h1 h2 h3 h4
    rw [m2n id h1, upds_other _ _ _ (fun p hp e => h2 (by rw [← e]; exact backS_fst p hp)), deadS_other _ h3, deadS_other _ h4]
  have old : ∀ id r2, id.1 ≠ d → M2 id = some (some r2) → id ∉ mids ∧ id ∉ rd ∧ (∃ r0, M id = some (some r0)) ∧ (id ∉ ids → M id = some (some r2)) := by
    intro id r2 h1 h2
    have n1 : id ∉ mids := fun h => by rw [m2m id h] at h2; cases h2
    have n2 : id ∉ rd := fun h => by rw [m2r id h] at h2; cases h2
    refine ⟨n1, n2, ?_, fun h => by rw [m2o id h1 h n1 n2] at h2; exact h2⟩
    by_cases h : id ∈ ids
    · exact liveA id (.inl h)
    · rw [m2o id h1 h n1 n2] at h2; exact ⟨_, h2⟩
  have outI : ∀ (k : Nat) row, ios'[k]? = some row → memS ios' mvs' (io, k) = some (some row) := fun k row h => by simp only [memS, if_true, h, Option.map_some]
  have outM : ∀ (k : Nat) row, mvs'[k]? = some row → memS ios' mvs' (mv, k) = some (some row) := fun k row h => by simp only [memS, mv_io, if_false, if_true, h, Option.map_some]
  have ρio : ∀ (k : Nat) id, ids[k]? = some id → ρ' (io, k) = ρ id := by
    intro k id hk
    obtain ⟨row', h1, _⟩ := m2i k id hk
    have := hR.new (io, k) _ (outI k row' h1)
    rw [if_pos rfl] at this
    have hlt : k < (ids.map ρ).length := by rw [List.length_map]; exact (List.getElem?_eq_some_iff.1 hk).1
    rw [show Xc[k]? = some (ρ id) from by show (ids.map ρ ++ mids.map ρ)[k]? = _; rw [List.getElem?_append_left hlt, List.getElem?_map, hk]; rfl] at this
    injection this with this
    exact this.symm
  have newM : ∀ (k : Nat) row b z, mvs'[k]? = some row → ρ' (mv, k) = some (b, z) → w.heap.size ≤ b ∨ ∃ id ∈ mids, ∃ z', ρ id = some (b, z') := by
    intro k row b z h1 hb
    have := hR.new (mv, k) _ (outM k row h1)
    rw [if_neg mv_io] at this
    rcases this b z hb with h2 | ⟨z', h2⟩
    · exact .inl h2
    · obtain ⟨id, hid | hid, he⟩ := hXc b z' h2
      · exfalso
        obtain ⟨k2, hk2⟩ := List.getElem?_of_mem hid
        obtain ⟨row', g1, _⟩ := m2i k2 id hk2
        have := hR.inj (mv, k) (io, k2) _ _ b z z' (outM k row h1) (outI k2 row' g1) hb (by rw [ρio k2 id hk2]; exact he)
        exact mv_io (congrArg Prod.fst this)
      · exact .inr ⟨id, hid, z', he⟩
  have same : ∀ b, b < w.heap.size → (∀ id, id ∈ ids ∨ id ∈ mids → ∀ z, ρ id ≠ some (b, z)) → w'.heap[b]? = w.heap[b]? := fun b hb h =>
    hkeep.block b hb fun z hm => by
      obtain ⟨id, h1, h2⟩ := hXc b z hm
      exact h id h1 z h2
  have ρ2o : ∀ id, id.1 ≠ d → ρ2 id = ρ id := fun id h => by simp only [ρ2, h, if_false]
  have ρ2d : ∀ k : Nat, ρ2 (d, k) = ρ' (mv, k) := fun k => by simp only [ρ2, if_true]
  have dcase : ∀ id r2, id.1 = d → M2 id = some (some r2) → ∃ row, mvs'[id.2]? = some row ∧ r2 = sbr (outS ids d) row := by
    intro id r2 h1 h2
    rw [show id = (d, id.2) from by rw [← h1], m2d] at h2
    obtain ⟨row, g1, g2⟩ := Option.map_eq_some_iff.1 h2
    injection g2 with g2
    exact ⟨row, g1, g2.symm⟩
  have stab2 : ∀ b, Stab Gc ρ' (memS ios' mvs') w' b → Stab G ρ2 M2 w' b := by
    intro b hb
    refine ⟨hb.1, fun id r2 z hl hh => ?_, ?_⟩
    · by_cases hit : id.1 = d
      · obtain ⟨row, h1, _⟩ := dcase id r2 hit hl
        rw [show id = (d, id.2) from by rw [← hit], ρ2d] at hh
        exact hb.2.1 (mv, id.2) row z (outM _ _ h1) hh
      · rw [ρ2o id hit] at hh
        obtain ⟨n1, n2, ⟨r0, h0⟩, n3⟩ := old id r2 hit hl
        by_cases hi : id ∈ ids
        · obtain ⟨k, hk⟩ := List.getElem?_of_mem hi
          obtain ⟨row', g1, _⟩ := m2i k id hk
          exact hb.2.1 (io, k) _ z (outI k row' g1) (by rw [ρio k id hk]; exact hh)
        · rcases hb.2.2 with hG | hG | ⟨z', hG⟩
          · exact hG.2.1 id r2 z (by rw [deadS_other M n2]; exact n3 hi) hh
          · have := hW.lt h0 hh; omega
          · obtain ⟨id', h1, h2⟩ := hXc b z' hG
            obtain ⟨r1, h3⟩ := liveA id' h1
            have := hW.inj id id' r0 r1 b z z' h0 h3 hh h2
            subst this
            rcases h1 with h1 | h1
            · exact hi h1
            · exact n1 h1
    · rcases hb.2.2 with hG | hG | ⟨z, hG⟩
      · exact hG.2.2
      · exact hW.good b (.inl (Nat.le_trans hW.keep.size hG))
      · obtain ⟨id', h1, h2⟩ := hXc b z hG
        obtain ⟨r1, h3⟩ := liveA id' h1
        have := hW.new id' r1 h3
        split at this
        · exact hW.good b (.inr ⟨z, by rw [← h2]; exact List.mem_of_getElem? this⟩)
        · exact hW.good b (this b z h2)
  have stab1 : ∀ b, Stab G ρ M w b → Stab G ρ2 M2 w' b ∧ w'.heap[b]? = w.heap[b]? := by
    intro b hb
    refine ⟨⟨Nat.lt_of_lt_of_le hb.1 hkeep.size, fun id r2 z hl hh => ?_, hb.2.2⟩, same b hb.1 fun id hid z => ?_⟩
    · by_cases hit : id.1 = d
      · obtain ⟨row, h1, _⟩ := dcase id r2 hit hl
        rw [show id = (d, id.2) from by rw [← hit], ρ2d] at hh
        rcases newM _ _ _ _ h1 hh with h2 | ⟨id', h2, z', h3⟩
        · have := hb.1; omega
        · obtain ⟨r1, h4⟩ := liveA id' (.inr h2)
          exact hb.2.1 id' r1 z' h4 h3
      · rw [ρ2o id hit] at hh
        obtain ⟨_, _, ⟨r0, h0⟩, _⟩ := old id r2 hit hl
        exact hb.2.1 id r0 z h0 hh
    · obtain ⟨r1, h4⟩ := liveA id hid
      exact hb.2.1 id r1 z h4
  have T2 : Trans G ρ M w ρ2 M2 w' := by
    refine ⟨stab1, fun id => ?_⟩
    cases hMi : M id with
    | none => trivial
    | some o =>
      have hit := nd id _ hMi
      by_cases hi : id ∈ ids
      · obtain ⟨k, hk⟩ := List.getElem?_of_mem hi
        obtain ⟨row, g1, g2, _⟩ := liveI k id hk
        obtain ⟨row', g3, g4, _⟩ := m2i k id hk
        obtain ⟨s1, s2, s3, s4, s5⟩ := ok.shape k row row' g1 g3
        rw [hMi] at g2
        injection g2 with g2
        subst g2
        refine .inr ⟨sbr (outS ids d) row', g4, s1, s2, by rw [sbr_len, sbr_len, s3]; exact Nat.le_refl _, ρ2o id hit, fun b z hb cur hcur => ?_⟩
        exact hkeep.shape b cur _ (0, 0) hcur
      · cases o with
        | none =>
          show M2 id = some none
          by_cases h1 : id ∈ mids
          · exact m2m id h1
          · by_cases h2 : id ∈ rd
            · exact m2r id h2
            · rw [m2o id hit hi h1 h2]; exact hMi
        | some r0 =>
          show M2 id = some none ∨ _
          by_cases h1 : id ∈ mids
          · exact .inl (m2m id h1)
          · by_cases h2 : id ∈ rd
            · exact .inl (m2r id h2)
            · refine .inr ⟨r0, by rw [m2o id hit hi h1 h2]; exact hMi, rfl, rfl, Nat.le_refl _, ρ2o id hit, fun b z hb cur hcur => hkeep.shape b cur _ (0, 0) hcur⟩
  have hMout : ∀ id, ((namesS ios.length mvs.length).any fun k => Nat.beq k.1 id.1 && Nat.beq k.2 id.2) = true → ∃ r r', M2 (outS ids d id) = some (some r) ∧ memS ios' mvs' id = some (some r') ∧ r'.sz = r.sz ∧ r'.ty = r.ty ∧ r'.es.length = r.es.length ∧ ρ' id = ρ2 (outS ids d id) := by
    intro id hid
    rcases namesS_any hid with ⟨h1, h2⟩ | ⟨h1, h2⟩
    · have hlt : id.2 < ids.length := by rw [ok.len]; exact h2
      have hk := List.getElem?_eq_getElem hlt
      obtain ⟨row', g1, g2, g3⟩ := m2i _ _ hk
      rw [h1]
      exact ⟨sbr (outS ids d) row', row', by rw [hout1 _ _ hk]; exact g2, outI _ _ g1, rfl, rfl, (sbr_len _ _).symm, by rw [hout1 _ _ hk, ρ2o _ g3]; exact ρio _ _ hk⟩
    · have hlt : id.2 < mvs'.length := by rw [ok.lem']; exact h2
      have hk := List.getElem?_eq_getElem hlt
      rw [h1]
      exact ⟨sbr (outS ids d) mvs'[id.2], mvs'[id.2], by rw [hout2, m2d, hk]; rfl, outM _ _ hk, rfl, rfl, (sbr_len _ _).symm, by rw [hout2, ρ2d]⟩
  refine ⟨v, ρ2, rfl, T2, ⟨?_, ?_, ?_, ?_, hW.good⟩, ?_⟩
  · intro i1 i2 r1 r2 b z1 z2 h1 h2 k1 k2
    have cross : ∀ i1 i2 r1 r2 z1 z2, i1.1 = d → i2.1 ≠ d → M2 i1 = some (some r1) → M2 i2 = some (some r2) → ρ2 i1 = some (b, z1) → ρ2 i2 = some (b, z2) → False := by
      intro i1 i2 r1 r2 z1 z2 e1 e2 h1 h2 k1 k2
      obtain ⟨row, g1, _⟩ := dcase i1 r1 e1 h1
      rw [show i1 = (d, i1.2) from by rw [← e1], ρ2d] at k1
      rw [ρ2o i2 e2] at k2
      obtain ⟨n1, _, ⟨r0, h0⟩, _⟩ := old i2 r2 e2 h2
      rcases newM _ _ _ _ g1 k1 with h3 | ⟨id', h3, z', h4⟩
      · have := hW.lt h0 k2; omega
      · obtain ⟨r3, h5⟩ := liveA id' (.inr h3)
        have := hW.inj i2 id' r0 r3 b z2 z' h0 h5 k2 h4
        exact n1 (by rw [this]; exact h3)
    by_cases e1 : i1.1 = d <;> by_cases e2 : i2.1 = d
    · obtain ⟨row1, g1, _⟩ := dcase i1 r1 e1 h1
      obtain ⟨row2, g2, _⟩ := dcase i2 r2 e2 h2
      rw [show i1 = (d, i1.2) from by rw [← e1], ρ2d] at k1
      rw [show i2 = (d, i2.2) from by rw [← e2], ρ2d] at k2
      have := hR.inj (mv, i1.2) (mv, i2.2) _ _ b z1 z2 (outM _ _ g1) (outM _ _ g2) k1 k2
      exact Prod.ext (e1.trans e2.symm) (Prod.mk.inj this).2
    · exact (cross i1 i2 r1 r2 z1 z2 e1 e2 h1 h2 k1 k2).elim
    · exact (cross i2 i1 r2 r1 z2 z1 e2 e1 h2 h1 k2 k1).elim
    · rw [ρ2o _ e1] at k1
      rw [ρ2o _ e2] at k2
      obtain ⟨_, _, ⟨q1, h3⟩, _⟩ := old i1 r1 e1 h1
      obtain ⟨_, _, ⟨q2, h4⟩, _⟩ := old i2 r2 e2 h2
      exact hW.inj i1 i2 q1 q2 b z1 z2 h3 h4 k1 k2
  · intro id r2 hl
    by_cases hit : id.1 = d
    · obtain ⟨row, h1, rfl⟩ := dcase id r2 hit hl
      rw [show id = (d, id.2) from by rw [← hit], ρ2d]
      have hb := ok.shapm row (List.mem_of_getElem? h1)
      exact (rowOk_ren (namesS ios.length mvs.length) hMout (fun h => by rw [hb] at h; cases h)).2 stab2 (hR.row (mv, id.2) row (outM _ _ h1))
    · rw [ρ2o id hit]
      by_cases hi : id ∈ ids
      · obtain ⟨k, hk⟩ := List.getElem?_of_mem hi
        obtain ⟨row, g1, g2, _⟩ := liveI k id hk
        obtain ⟨row', g3, g4, _⟩ := m2i k id hk
        rw [hl] at g4
        injection g4 with g4
        injection g4 with g4
        subst g4
        have := hR.row (io, k) row' (outI k row' g3)
        rw [ρio k id hk] at this
        exact (rowOk_ren (namesS ios.length mvs.length) hMout (ok.shape k row row' g1 g3).2.2.2.2).2 stab2 this
      · obtain ⟨n1, n2, ⟨r0, h0⟩, n3⟩ := old id r2 hit hl
        refine (hW.row id r2 (n3 hi)).mono T2 fun b z hb => ?_
        refine same b (hW.lt h0 hb) fun id2 hid2 z2 hh => ?_
        obtain ⟨r3, h3⟩ := liveA id2 hid2
        have := hW.inj id id2 r0 r3 b z z2 h0 h3 hb hh
        subst this
        rcases hid2 with h | h
        · exact hi h
        · exact n1 h
  · intro id r2 hl
    by_cases hit : id.1 = d
    · rw [if_neg (by rw [hit]; exact ok.dio)]
      intro b z hb
      obtain ⟨row, h1, _⟩ := dcase id r2 hit hl
      rw [show id = (d, id.2) from by rw [← hit], ρ2d] at hb
      rcases newM _ _ _ _ h1 hb with h2 | ⟨id', h2, z', h3⟩
      · exact .inl (Nat.le_trans hW.keep.size h2)
      · obtain ⟨k, hk⟩ := List.getElem?_of_mem h2
        obtain ⟨row0, _, h4, _, h5⟩ := liveM k id' hk
        have := hW.new id' _ h4
        rw [if_neg h5] at this
        exact this b z' h3
    · obtain ⟨_, _, ⟨r0, h0⟩, _⟩ := old id r2 hit hl
      rw [ρ2o id hit]
      exact hW.new id r0 h0
  · refine ⟨hkeep.os.trans hW.keep.os, hkeep.tape.trans hW.keep.tape, hkeep.output.trans hW.keep.output, Nat.le_trans hW.keep.size hkeep.size, fun b hb hX => ?_, fun b cur ty fr hb => ?_⟩
    · refine (same b (Nat.lt_of_lt_of_le hb hW.keep.size) fun id hid z hh => ?_).trans (hW.keep.block b hb hX)
      obtain ⟨r3, h3⟩ := liveA id hid
      have := hW.new id r3 h3
      split at this
      · exact hX z (by rw [← hh]; exact List.mem_of_getElem? this)
      · rcases this b z hh with h1 | ⟨z', h1⟩
        · omega
        · exact hX z' h1
    · obtain ⟨c1, k1, k2⟩ := hW.keep.shape b cur ty fr hb
      obtain ⟨c2, k3, k4⟩ := hkeep.shape b c1 ty fr k1
      exact ⟨c2, k3, k4.trans k2⟩
  · exact (rep_ren (namesS ios.length mvs.length) hMout 5 r v hrr).2 stab2 hv
end
section
variable {P : Program} {draw : Bool} {ops : Array Oper} {rest : List Oper} {env : List (Nat × PV)} {mem : List (Id × Option Row)} {tr : List (List Id × List Id)} {K : St → List (List Id × List Id) → Prop}
  {d : Nat} {ty : TypeId} {pos : String} {af : Array Edge}
theorem sem_callR {o : Oper} {V : Nat → PV} {M : Mem} {c : Call} {f : Operand} {g : FuncId} {fi ca ys : List PV} {r : PV} {ids mids rd : List Id} {ios mvs ios' mvs' : List Row} (ho : o.op = .call c) (hd : o.dst = some d) (hcal : c.callee = .value f) (hev : ev V f = .fn g fi ca)
    (hC : ContractR P g ys ios mvs r ios' mvs') (hrr : refsD 5 (namesS ios.length mvs.length) r = true) (hok : CallOkS M d (fi ++ c.args.toList.map (ev V) ++ ca) ys ids mids rd ios mvs ios' mvs') :
    SemStep P o V M ⟨subD 5 (outS ids d) r, upsS d ids mids rd ios' mvs', (d, 0) :: (ids ++ (mids ++ rd))⟩ := by
  intro V' M' hV' hM' G w0 X N a w K Q hdN hR hK
  obtain ⟨ρ, hW, hdef, hs, hV⟩ := hR
  have hop : o.op.operands = c.operands := by rw [ho]; rfl
  have hev' : ev V' f = .fn g fi ca := by rw [hV' f (by rw [hop]; simp [Call.operands, hcal])]; exact hev
  have hargsE : c.args.toList.map (ev V') = c.args.toList.map (ev V) := List.map_congr_left fun y hy => hV' y (by rw [hop]; simp [Call.operands]; exact .inr (Array.mem_toList_iff.1 hy))
  have hok' : CallOkS M' d (fi ++ c.args.toList.map (ev V') ++ ca) ys ids mids rd ios mvs ios' mvs' := by
    rw [hargsE]
    refine hok.congr fun id hid => hM' id (List.mem_map.2 ?_)
    rcases hid with h | h | h | h
    · exact ⟨(d, 0), by simp, h.symm⟩
    · exact ⟨id, List.mem_append_left _ (List.mem_cons_of_mem _ (List.mem_append_left _ h)), rfl⟩
    · exact ⟨id, List.mem_append_left _ (List.mem_cons_of_mem _ (List.mem_append_right _ (List.mem_append_left _ h))), rfl⟩
    · exact ⟨id, List.mem_append_left _ (List.mem_cons_of_mem _ (List.mem_append_right _ (List.mem_append_right _ h))), rfl⟩
  have hf := rep_ev hV f
  rw [hev'] at hf
  obtain ⟨vfi, vca, hfv, c1, c2⟩ := rep_fn.1 hf
  have hargs := (c1.append (comps_map hV c.args)).append c2
  obtain ⟨fn, hfn, hname, hbody⟩ := hC.1
  have hrun : (execOp a.eval o).run P w = .ok (.enter g (vfi ++ c.args.map a.eval ++ vca)) w := by
    simp only [execOp, ho, resolve, hcal, hfv, Deferred.ofValue, Sem.run_bind, Sem.run_pure, Result.andThen_ok, invoke, callFunc, run_program, hfn, hname, hbody, Bool.false_eq_true, if_false]
  unfold Oper.wp
  rw [hrun]
  show Calls P g _ w _
  refine (callR_sound hW hargs hok' hC hrr).mono ?_
  rintro e w' ⟨v, ρ2, rfl, T, W, hx⟩
  exact hK _ _ (put_rel hdN hdef hs hV T W hx)
theorem x_callMr {f : Operand} {args : List Operand} {ats : Array TypeId} {g : FuncId} {fi ca xs ys : List PV} {r v : PV} (ids mids : List Id) {rd : List Id} {ios mvs ios' mvs' : List Row} {up : List (Id × Option Row)}
    (hC : ContractR P g ys ios mvs r ios' mvs') (hf : ev (getE env) f = .fn g fi ca)
    (hxs : fi ++ args.map (ev (getE env)) ++ ca = xs) (hlent : lentS mem (inB ids mids) (namesS ios.length mvs.length) ids ios) (hlemt : lentM mem (inB ids mids) mids mvs) (hrd : rdL (rdO true 6 mem) xs ys [] = some rd)
    (hnd : (nodupB (ids ++ mids) && nodupB rd && rd.all (fun id => !(hasId ids id) && !(hasId mids id) && !Nat.beq id.1 io && (match getM mem id with | some (some _) => true | _ => false))) = true)
    (hsnap : AllR (SnapD 6 (getM mem) ids rd) xs ys) (hfree : freeB mem d = true) (hshape : shapeS (namesS ios.length mvs.length) ios ios') (hlen : Nat.beq mvs'.length mvs.length = true) (hup : upsO d ids mids rd ios' mvs' = some up) (hrr : refsD 5 (namesS ios.length mvs.length) r = true) (hv : subO 5 (outB ids d) r = some v)
    (hk : exec P ops draw rest ⟨(d, v) :: env, up ++ mem⟩ (((d, 0) :: (ids ++ (mids ++ rd)), up.map (·.1)) :: tr) K) :
    exec P ops draw (⟨some d, .call ⟨.value f, args.toArray, ats⟩, ty, pos, af, none⟩ :: rest) ⟨env, mem⟩ tr K := by
  obtain ⟨hu1, hu2⟩ := upsO_ok hup
  obtain ⟨l1, l2⟩ := lentS_ok hlent
  obtain ⟨m1, m2⟩ := lentM_ok hlemt
  obtain ⟨s1, s2⟩ := shapeS_ok hshape
  rw [inB_eq] at l2 m2
  simp only [Bool.and_eq_true] at hnd
  obtain ⟨⟨hn1, hn2⟩, hn3⟩ := hnd
  have hn3 := List.all_eq_true.1 hn3
  obtain ⟨f1, f2⟩ := freeB_ok hfree
  subst hxs
  refine x_sem ⟨v, up, (d, 0) :: (ids ++ (mids ++ rd))⟩ rfl ?_ hk
  rw [← hu1]
  rw [outB_eq] at hv
  rw [← subO_ok 5 _ _ _ hv]
  refine sem_callR (c := ⟨.value f, args.toArray, ats⟩) rfl rfl rfl hf hC hrr ⟨f1, f2, by simpa using hsnap, l1, m1, s1, Nat.eq_of_beq_eq_true hlen, nodupB_ok hn1, l2, m2, fun id hid => ⟨fun hm => ?_, fun hm => ?_⟩, fun id hid => ⟨fun e => ?_, ?_⟩, nodupB_ok hn2, s2, hu2⟩
  · have := hn3 id hid
    simp only [Bool.and_eq_true, Bool.not_eq_true'] at this
    rw [hasId_iff.2 hm] at this
    exact absurd this.1.1.1 (by simp)
  · have := hn3 id hid
    simp only [Bool.and_eq_true, Bool.not_eq_true'] at this
    rw [hasId_iff.2 hm] at this
    exact absurd this.1.1.2 (by simp)
  · have := hn3 id hid
    simp only [Bool.and_eq_true, Bool.not_eq_true'] at this
    have h2 := this.1.2
    rw [e] at h2
    simp at h2
  · have := hn3 id hid
    simp only [Bool.and_eq_true, Bool.not_eq_true'] at this
    have h2 := this.2
    split at h2
    · exact ⟨_, by assumption⟩
    · cases h2
end
def RetPostR (P : Program) (fn : Func) (r : PV) (ios' mvs' : List Row) (e : Exit) (st : St) : Prop :=
  (e = .ret ∨ e = .normal) ∧ ∃ t, fn.results = #[.tmp t] ∧ Ent st ⟨[(t, r)], ioEnv 0 ios' ++ mvEnv 0 mvs'⟩
theorem getE_one (t : Nat) (r : PV) : getE [(t, r)] t = r := by
  show cond (Nat.beq t t) r _ = r
  rw [Nat.beq_refl]
  rfl
theorem contract_ofR {P : Program} {f : FuncId} {fn : Func} {c : Code} {args : List PV} {ios mvs ios' mvs' : List Row} {r : PV} (hm : P.follows .mixedOrders = true) (hf : P.funcs[f]? = some fn) (hb : fn.body = some c)
    (hname : (fn.name == "runtime.NumGoroutine") = false) (hok : codeOk fn.ntmps c = true) (hargs : args.length ≤ fn.ntmps)
    (h : vwp P c ⟨argsEnv 0 args, ioEnv 0 ios ++ mvEnv 0 mvs⟩ (RetPostR P fn r ios' mvs')) : ContractR P f args ios mvs r ios' mvs' := by
  refine ⟨⟨fn, hf, hname, by rw [hb]; rfl⟩, fun G w X ρ cargs hW hC => ?_⟩
  refine calls_of_wp hf hb ?_
  have hM : (⟨argsEnv 0 args, ioEnv 0 ios ++ mvEnv 0 mvs⟩ : St).M = memS ios mvs := memS_eq ios mvs
  have hR : RelF G w X fn.ntmps (⟨argsEnv 0 args, ioEnv 0 ios ++ mvEnv 0 mvs⟩ : St).V (⟨argsEnv 0 args, ioEnv 0 ios ++ mvEnv 0 mvs⟩ : St).M { tmps := cargs ++ Array.replicate (fn.ntmps - cargs.size) undef, defers := [] } w := by
    rw [hM]
    refine ⟨ρ, hW, rfl, by simp [hC.1]; omega, fun t => ?_⟩
    show Rep ρ w _ _ _ (getE (argsEnv 0 args) t)
    rw [getE_args, if_pos (Nat.zero_le _), Nat.sub_zero]
    cases ht : args[t]? with
    | none => exact rep_any
    | some x =>
      obtain ⟨v, h1, h2⟩ := hC.2 t x ht
      have hlt := (Array.getElem?_eq_some_iff.1 h1).1
      have : (cargs ++ Array.replicate (fn.ntmps - cargs.size) undef).getD t undef = v := by
        rw [Array.getD_eq_getD_getElem?, Array.getElem?_append_left hlt, h1]
        rfl
      rw [this]
      exact h2
  refine wp_mono (vwp_sound hm c _ _ _ w hok h hR) ?_
  rintro e a' w' ⟨st', ⟨he, t, hres, hent⟩, hR'⟩
  obtain ⟨ρ1, hW1, hdef, hs, hV⟩ := hR'
  obtain ⟨ρ2, hW2, _, _, hV2⟩ := hent G w X _ a' w' ⟨ρ1, hW1, hdef, hs, hV⟩
  have hM2 : (⟨[(t, r)], ioEnv 0 ios' ++ mvEnv 0 mvs'⟩ : St).M = memS ios' mvs' := memS_eq ios' mvs'
  obtain ⟨v, hrun, hv⟩ := res_sound (st := ⟨[(t, r)], ioEnv 0 ios' ++ mvEnv 0 mvs'⟩) hW2 hV2 (xs := [r]) (by rw [hres]; exact ⟨getE_one t r, trivial⟩)
  rw [hM2] at hW2 hv
  have goal : ∃ v', (results fn a'.tmps).run P w' = .ok v' w' ∧ ∃ v ρ', Ending.returned v' = .returned v ∧ WRel G ρ' w X (memS ios' mvs') w' ∧ Rep ρ' w' (Stab G ρ' (memS ios' mvs') w') (memS ios' mvs') v r :=
    ⟨v, hrun, v, ρ2, rfl, hW2, hv⟩
  rcases he with rfl | rfl
  · exact ⟨hdef, goal⟩
  · exact ⟨hdef, goal⟩
theorem ret_R {P : Program} {st : St} {fn : Func} {r : PV} {ios' mvs' : List Row} {e : Exit} {ren : List (Id × Id)} {t : Nat} (he : e = .ret ∨ e = .normal) (hr : fn.results = #[.tmp t]) (hren : renA st [(t, r)] (ioEnv 0 ios' ++ mvEnv 0 mvs') = some ren) (hw : WeakerR (oldOf ren) st ⟨[(t, r)], ioEnv 0 ios' ++ mvEnv 0 mvs'⟩) :
    RetPostR P fn r ios' mvs' e st := ⟨he, t, hr, hw.ent⟩
end Go.Vs
set_option linter.unusedVariables false
set_option linter.unusedSimpArgs false
set_option maxRecDepth 100000
set_option maxHeartbeats 4000000
namespace Go.Vs
open Go.Proofs
attribute [local irreducible] exec vwp thenQ blkQ loopQ RetPost RetPostR
theorem k_l1PutS (l : List Int) (n : Int) (m : Nat) (hm : l.length = m) (hn : m ≤ 1000000) (h : l[kPut l n]? = some n) : ContractR Try.prog 64 [.osl (io, 0) 0 m, .int .i64 n] [⟨3, 1, ints l, false⟩] [] (.osl (io, 0) 0 m) [⟨3, 1, ints l, false⟩] [] := by
  refine contract_ofR hmix Try.func64 rfl (by kernel_rfl) (by kernel_rfl) (Nat.le_of_ble_eq_true rfl) ?_
  have hty_u24 := ty_u24
  have hty_s24 := ty_s24
  have hty_c3 := ty_c3
  have hl1 : (ints l).length = l.length := by simp
  repeat' (first
      | (refine g_exec ?_; first | (refine g_move ?_; refine x_moveO _ rfl ?_) | (refine g_assign ?_; refine x_assignO _ rfl ?_) | (refine g_bin ?_; first | (refine x_add rfl rfl aO ?_) | (refine x_bin _ rfl rfl rfl ?_) | (refine x_boolEq aA rfl rfl ?_) | (refine x_strBin _ rfl rfl rfl ?_)) | (refine g_load ?_; first | (refine x_load_pc aA rfl ?_) | (refine x_load_oc _ aA rfl rfl aE rfl ?_) | (refine x_load_pa _ aA rfl aZ aL ?_) | (refine x_load_oa _ aA rfl rfl aE aZ aL ?_)) | (refine g_index ?_; first | (refine x_index_l _ aA rfl rfl aO aA ?_) | (refine x_index_o _ aA rfl rfl rfl rfl aO aO (by first | (rw [Nat.zero_add, Int.toNat_natCast]) | (rw [Nat.zero_add]) | rfl) ?_)) | (refine g_pick ?_; first | (refine x_pick_b rfl aD rfl ?_) | (refine x_pick_c rfl aD ?_) | (refine x_pick_a rfl aD ?_) | (refine x_pick_d rfl aD rfl ?_)) | (refine g_guard ?_; first | (refine x_gyes rfl rfl aD ?_) | (refine x_gno rfl rfl aD ?_) | (refine x_gun rfl rfl ?_) | (refine x_gsplit rfl rfl (fun h => ?_) (fun h => ?_) <;> (have h' := h; (try simp only [sx] at h')))) | (refine g_call ?_; first | (refine x_len_l aA rfl ?_) | (refine x_len_o aA rfl rfl ?_) | (refine x_len_n aA rfl ?_) | (refine x_len_s aA (evO_ok rfl) ?_) | (refine x_appOO _ _ aA rfl (lookM (by rfl)) rfl (lookM (by rfl)) rfl aN ⟨rfl, rfl, by decide, by decide⟩ (by first | rfl | omega | (simp; done) | (simp; omega) | fail) ⟨by first | (simp only [List.length_cons, List.length_nil]; omega) | omega | fail, by decide⟩ rfl (by first | (first | (simp only [lx, Nat.reduceAdd]; first | done | rfl) | fail) | rfl) aP ?_) | (refine x_appCO _ _ aA rfl rfl (lookM (by rfl)) ⟨rfl, by decide⟩ aN (by first | exact Nat.succ_pos _ | omega | (simp; done)) ⟨by first | (simp only [List.length_cons, List.length_nil]; omega) | omega | fail, by decide⟩ rfl rfl aP ?_) | (refine x_appNO _ aA rfl rfl (lookM (by rfl)) ⟨rfl, by decide⟩ aN ⟨by first | (simp only [List.length_cons, List.length_nil]; omega) | omega | fail, by decide⟩ rfl aP ?_) | (refine x_app_ol _ aA rfl rfl rfl ⟨rfl, rfl, rfl, by decide, by decide⟩ (by first | rfl | (simp; done) | fail) ⟨by omega, by decide⟩ rfl aL (by first | (rw [Nat.zero_add]) | rfl) ?_)) | (refine g_slice ?_; first | (refine x_sliceL _ aA rfl rfl rfl aO (by first | assumption | rfl) ?_) | (refine x_sliceO _ _ aA rfl (lookM (by rfl)) rfl rfl rfl aO (by first | (simp only [Nat.zero_add, Int.toNat_natCast]; exact rfl) | rfl) (by first | (simp only [Nat.sub_zero, Int.toNat_natCast]; exact rfl) | rfl) ?_) | (refine x_sliceS aA rfl rfl rfl aO rfl ?_)) | (refine x_slice3 _ aA rfl rfl rfl aO (by first | exact List.take_of_length_le aO | rfl) ?_) | (refine x_buildSliceO aA rfl rfl rfl ?_) | (refine x_nil (hK _ _ (.inl rfl) ?_); clear hK K) | (refine x_nil (hK _ _ (.inr (by kernel_rfl)) ?_); clear hK K))
      | (refine g_code ?_; first | (refine v_seq ?_) | (refine v_region (fun K hK => ?_)) | (refine v_block ?_) | (refine v_skip ?_) | (refine v_ret ?_) | (refine v_exit ?_) | (refine g_cond ?_; first | (refine v_cond_y rfl aD ?_) | (refine v_cond_n rfl aD ?_) | (refine v_condt rfl (fun h => ?_) (fun h => ?_) <;> (have h' := h; (try simp only [sx] at h')))))
      | (refine q_then ?_) | (refine q_then_r ?_) | (refine q_then_e ?_) | (refine q_blk_n ?_) | (refine q_blk_r ?_) | (refine q_blk_e ?_) | (refine q_blk_o rfl ?_) | (refine q_loop_r ?_) | (refine q_loop_e ?_) | (refine ret_n ?_))
  refine v_loopK [0, 1] [] (fun k : Nat => [(5, .int .i64 k)]) (fun k : Nat => []) (fun k : Nat => k ≤ l.length ∧ ∀ (j : Nat) x, j < k → l[j]? = some x → x < n) (fun k : Nat => l.length - k) (0) rfl rfl (fun _ => rfl) (fun _ => rfl) rfl (by refine ⟨?_, ?_, rfl, rfl⟩ <;> (repeat' (first | exact trivial | exact ⟨rfl, rfl⟩ | exact rfl | exact ⟨sub_fn, refs_fn⟩ | refine ⟨⟨rfl, rfl⟩, ?_⟩ | refine ⟨⟨sub_fn, refs_fn⟩, ?_⟩ | refine ⟨⟨rfl, fun h => Bool.noConfusion h⟩, ?_⟩ | refine ⟨⟨rfl, fun h => ?_⟩, ?_⟩ | refine ⟨rfl, ?_⟩ | refine ⟨?_, ?_⟩ | fail))) ⟨by omega, fun j x hj => by omega⟩ (fun k hk => ?_)
  obtain ⟨hk1, hk2⟩ := hk
  rcases Nat.lt_or_ge k l.length with hlt | hge
  · obtain ⟨a, ha⟩ := get_ex hlt
    have hx := ints_at ha
    by_cases hb : a < n
    · repeat' (first
      | (refine g_exec ?_; first | (refine g_move ?_; refine x_moveO _ rfl ?_) | (refine g_assign ?_; refine x_assignO _ rfl ?_) | (refine g_bin ?_; first | (refine x_add rfl rfl aO ?_) | (refine x_bin _ rfl rfl rfl ?_) | (refine x_boolEq aA rfl rfl ?_) | (refine x_strBin _ rfl rfl rfl ?_)) | (refine g_load ?_; first | (refine x_load_pc aA rfl ?_) | (refine x_load_oc _ aA rfl rfl aE rfl ?_) | (refine x_load_pa _ aA rfl aZ aL ?_) | (refine x_load_oa _ aA rfl rfl aE aZ aL ?_)) | (refine g_index ?_; first | (refine x_index_l _ aA rfl rfl aO aA ?_) | (refine x_index_o _ aA rfl rfl rfl rfl aO aO (by first | (rw [Nat.zero_add, Int.toNat_natCast]) | (rw [Nat.zero_add]) | rfl) ?_)) | (refine g_pick ?_; first | (refine x_pick_b rfl aD rfl ?_) | (refine x_pick_c rfl aD ?_) | (refine x_pick_a rfl aD ?_) | (refine x_pick_d rfl aD rfl ?_)) | (refine g_guard ?_; first | (refine x_gyes rfl rfl aD ?_) | (refine x_gno rfl rfl aD ?_) | (refine x_gun rfl rfl ?_) | (refine x_gsplit rfl rfl (fun h => ?_) (fun h => ?_) <;> (have h' := h; (try simp only [sx] at h')))) | (refine g_call ?_; first | (refine x_len_l aA rfl ?_) | (refine x_len_o aA rfl rfl ?_) | (refine x_len_n aA rfl ?_) | (refine x_len_s aA (evO_ok rfl) ?_) | (refine x_appOO _ _ aA rfl (lookM (by rfl)) rfl (lookM (by rfl)) rfl aN ⟨rfl, rfl, by decide, by decide⟩ (by first | rfl | omega | (simp; done) | (simp; omega) | fail) ⟨by first | (simp only [List.length_cons, List.length_nil]; omega) | omega | fail, by decide⟩ rfl (by first | (first | (simp only [lx, Nat.reduceAdd]; first | done | rfl) | fail) | rfl) aP ?_) | (refine x_appCO _ _ aA rfl rfl (lookM (by rfl)) ⟨rfl, by decide⟩ aN (by first | exact Nat.succ_pos _ | omega | (simp; done)) ⟨by first | (simp only [List.length_cons, List.length_nil]; omega) | omega | fail, by decide⟩ rfl rfl aP ?_) | (refine x_appNO _ aA rfl rfl (lookM (by rfl)) ⟨rfl, by decide⟩ aN ⟨by first | (simp only [List.length_cons, List.length_nil]; omega) | omega | fail, by decide⟩ rfl aP ?_) | (refine x_app_ol _ aA rfl rfl rfl ⟨rfl, rfl, rfl, by decide, by decide⟩ (by first | rfl | (simp; done) | fail) ⟨by omega, by decide⟩ rfl aL (by first | (rw [Nat.zero_add]) | rfl) ?_)) | (refine g_slice ?_; first | (refine x_sliceL _ aA rfl rfl rfl aO (by first | assumption | rfl) ?_) | (refine x_sliceO _ _ aA rfl (lookM (by rfl)) rfl rfl rfl aO (by first | (simp only [Nat.zero_add, Int.toNat_natCast]; exact rfl) | rfl) (by first | (simp only [Nat.sub_zero, Int.toNat_natCast]; exact rfl) | rfl) ?_) | (refine x_sliceS aA rfl rfl rfl aO rfl ?_)) | (refine x_slice3 _ aA rfl rfl rfl aO (by first | exact List.take_of_length_le aO | rfl) ?_) | (refine x_buildSliceO aA rfl rfl rfl ?_) | (refine x_nil (hK _ _ (.inl rfl) ?_); clear hK K) | (refine x_nil (hK _ _ (.inr (by kernel_rfl)) ?_); clear hK K))
      | (refine g_code ?_; first | (refine v_seq ?_) | (refine v_region (fun K hK => ?_)) | (refine v_block ?_) | (refine v_skip ?_) | (refine v_ret ?_) | (refine v_exit ?_) | (refine g_cond ?_; first | (refine v_cond_y rfl aD ?_) | (refine v_cond_n rfl aD ?_) | (refine v_condt rfl (fun h => ?_) (fun h => ?_) <;> (have h' := h; (try simp only [sx] at h')))))
      | (refine q_then ?_) | (refine q_then_r ?_) | (refine q_then_e ?_) | (refine q_blk_n ?_) | (refine q_blk_r ?_) | (refine q_blk_e ?_) | (refine q_blk_o rfl ?_) | (refine q_loop_r ?_) | (refine q_loop_e ?_) | (refine ret_n ?_))
      all_goals try (exfalso; omega)
      refine q_next (k + 1) rfl (by refine ⟨?_, ?_, rfl, rfl⟩ <;> (repeat' (first | exact trivial | exact ⟨rfl, rfl⟩ | exact rfl | exact ⟨sub_fn, refs_fn⟩ | refine ⟨⟨rfl, rfl⟩, ?_⟩ | refine ⟨⟨sub_fn, refs_fn⟩, ?_⟩ | refine ⟨⟨rfl, fun h => Bool.noConfusion h⟩, ?_⟩ | refine ⟨⟨rfl, fun h => ?_⟩, ?_⟩ | refine ⟨rfl, ?_⟩ | refine ⟨?_, ?_⟩ | fail))) ⟨by omega, fun j x hj hxx => ?_⟩ aO
      rcases Nat.lt_or_ge j k with h1 | h1
      · exact hk2 j x h1 hxx
      · have : j = k := by omega
        subst this
        rw [ha] at hxx
        injection hxx with hxx
        omega
    · have e : kPut l n = k := kPut_is hk1 hk2 fun x hx => by rw [ha] at hx; injection hx with hx; omega
      rw [e, ha] at h
      injection h with heq
      repeat' (first
      | (refine g_exec ?_; first | (refine g_move ?_; refine x_moveO _ rfl ?_) | (refine g_assign ?_; refine x_assignO _ rfl ?_) | (refine g_bin ?_; first | (refine x_add rfl rfl aO ?_) | (refine x_bin _ rfl rfl rfl ?_) | (refine x_boolEq aA rfl rfl ?_) | (refine x_strBin _ rfl rfl rfl ?_)) | (refine g_load ?_; first | (refine x_load_pc aA rfl ?_) | (refine x_load_oc _ aA rfl rfl aE rfl ?_) | (refine x_load_pa _ aA rfl aZ aL ?_) | (refine x_load_oa _ aA rfl rfl aE aZ aL ?_)) | (refine g_index ?_; first | (refine x_index_l _ aA rfl rfl aO aA ?_) | (refine x_index_o _ aA rfl rfl rfl rfl aO aO (by first | (rw [Nat.zero_add, Int.toNat_natCast]) | (rw [Nat.zero_add]) | rfl) ?_)) | (refine g_pick ?_; first | (refine x_pick_b rfl aD rfl ?_) | (refine x_pick_c rfl aD ?_) | (refine x_pick_a rfl aD ?_) | (refine x_pick_d rfl aD rfl ?_)) | (refine g_guard ?_; first | (refine x_gyes rfl rfl aD ?_) | (refine x_gno rfl rfl aD ?_) | (refine x_gun rfl rfl ?_) | (refine x_gsplit rfl rfl (fun h => ?_) (fun h => ?_) <;> (have h' := h; (try simp only [sx] at h')))) | (refine g_call ?_; first | (refine x_len_l aA rfl ?_) | (refine x_len_o aA rfl rfl ?_) | (refine x_len_n aA rfl ?_) | (refine x_len_s aA (evO_ok rfl) ?_) | (refine x_appOO _ _ aA rfl (lookM (by rfl)) rfl (lookM (by rfl)) rfl aN ⟨rfl, rfl, by decide, by decide⟩ (by first | rfl | omega | (simp; done) | (simp; omega) | fail) ⟨by first | (simp only [List.length_cons, List.length_nil]; omega) | omega | fail, by decide⟩ rfl (by first | (first | (simp only [lx, Nat.reduceAdd]; first | done | rfl) | fail) | rfl) aP ?_) | (refine x_appCO _ _ aA rfl rfl (lookM (by rfl)) ⟨rfl, by decide⟩ aN (by first | exact Nat.succ_pos _ | omega | (simp; done)) ⟨by first | (simp only [List.length_cons, List.length_nil]; omega) | omega | fail, by decide⟩ rfl rfl aP ?_) | (refine x_appNO _ aA rfl rfl (lookM (by rfl)) ⟨rfl, by decide⟩ aN ⟨by first | (simp only [List.length_cons, List.length_nil]; omega) | omega | fail, by decide⟩ rfl aP ?_) | (refine x_app_ol _ aA rfl rfl rfl ⟨rfl, rfl, rfl, by decide, by decide⟩ (by first | rfl | (simp; done) | fail) ⟨by omega, by decide⟩ rfl aL (by first | (rw [Nat.zero_add]) | rfl) ?_)) | (refine g_slice ?_; first | (refine x_sliceL _ aA rfl rfl rfl aO (by first | assumption | rfl) ?_) | (refine x_sliceO _ _ aA rfl (lookM (by rfl)) rfl rfl rfl aO (by first | (simp only [Nat.zero_add, Int.toNat_natCast]; exact rfl) | rfl) (by first | (simp only [Nat.sub_zero, Int.toNat_natCast]; exact rfl) | rfl) ?_) | (refine x_sliceS aA rfl rfl rfl aO rfl ?_)) | (refine x_slice3 _ aA rfl rfl rfl aO (by first | exact List.take_of_length_le aO | rfl) ?_) | (refine x_buildSliceO aA rfl rfl rfl ?_) | (refine x_nil (hK _ _ (.inl rfl) ?_); clear hK K) | (refine x_nil (hK _ _ (.inr (by kernel_rfl)) ?_); clear hK K))
      | (refine g_code ?_; first | (refine v_seq ?_) | (refine v_region (fun K hK => ?_)) | (refine v_block ?_) | (refine v_skip ?_) | (refine v_ret ?_) | (refine v_exit ?_) | (refine g_cond ?_; first | (refine v_cond_y rfl aD ?_) | (refine v_cond_n rfl aD ?_) | (refine v_condt rfl (fun h => ?_) (fun h => ?_) <;> (have h' := h; (try simp only [sx] at h')))))
      | (refine q_then ?_) | (refine q_then_r ?_) | (refine q_then_e ?_) | (refine q_blk_n ?_) | (refine q_blk_r ?_) | (refine q_blk_e ?_) | (refine q_blk_o rfl ?_) | (refine q_loop_r ?_) | (refine q_loop_e ?_) | (refine ret_n ?_))
      all_goals first
        | (exfalso; omega)
        | refine ret_R (by first | exact .inl rfl | exact .inr rfl) rfl rfl (by refine ⟨?_, ?_⟩ <;> (repeat' (first | exact trivial | exact ⟨rfl, rfl⟩ | exact rfl | exact ⟨sub_fn, refs_fn⟩ | refine ⟨⟨rfl, rfl⟩, ?_⟩ | refine ⟨⟨sub_fn, refs_fn⟩, ?_⟩ | refine ⟨⟨rfl, fun h => Bool.noConfusion h⟩, ?_⟩ | refine ⟨⟨rfl, fun h => ?_⟩, ?_⟩ | refine ⟨rfl, ?_⟩ | refine ⟨?_, ?_⟩ | fail)))
  · have : k = l.length := by omega
    subst this
    have e : kPut l n = l.length := kPut_is hk1 hk2 fun x hx => by have := get_lt hx; omega
    rw [e] at h
    have := get_lt h
    omega
theorem k_l1PutN (l : List Int) (n : Int) (hn : l.length ≤ 1000000) (h : l[kPut l n]? ≠ some n) : Con Try.prog 64 [.list 1 (ints l), .int .i64 n] (.olist 3 1 (ints (put l n))) := by
  intro al
  refine contract_of hmix Try.func64 rfl (by kernel_rfl) (by kernel_rfl) (Nat.le_of_ble_eq_true rfl) (fun row h => by cases h) ?_
  have hty_u24 := ty_u24
  have hty_s24 := ty_s24
  have hty_c3 := ty_c3
  have hl1 : (ints l).length = l.length := by simp
  repeat' (first
      | (refine g_exec ?_; first | (refine g_move ?_; refine x_moveO _ rfl ?_) | (refine g_assign ?_; refine x_assignO _ rfl ?_) | (refine g_bin ?_; first | (refine x_add rfl rfl aO ?_) | (refine x_bin _ rfl rfl rfl ?_) | (refine x_boolEq aA rfl rfl ?_) | (refine x_strBin _ rfl rfl rfl ?_)) | (refine g_load ?_; first | (refine x_load_pc aA rfl ?_) | (refine x_load_oc _ aA rfl rfl aE rfl ?_) | (refine x_load_pa _ aA rfl aZ aL ?_) | (refine x_load_oa _ aA rfl rfl aE aZ aL ?_)) | (refine g_index ?_; first | (refine x_index_l _ aA rfl rfl aO aA ?_) | (refine x_index_o _ aA rfl rfl rfl rfl aO aO (by first | (rw [Nat.zero_add, Int.toNat_natCast]) | (rw [Nat.zero_add]) | rfl) ?_)) | (refine g_pick ?_; first | (refine x_pick_b rfl aD rfl ?_) | (refine x_pick_c rfl aD ?_) | (refine x_pick_a rfl aD ?_) | (refine x_pick_d rfl aD rfl ?_)) | (refine g_guard ?_; first | (refine x_gyes rfl rfl aD ?_) | (refine x_gno rfl rfl aD ?_) | (refine x_gun rfl rfl ?_) | (refine x_gsplit rfl rfl (fun h => ?_) (fun h => ?_) <;> (have h' := h; (try simp only [sx] at h')))) | (refine g_call ?_; first | (refine x_len_l aA rfl ?_) | (refine x_len_o aA rfl rfl ?_) | (refine x_len_n aA rfl ?_) | (refine x_len_s aA (evO_ok rfl) ?_) | (refine x_appOO _ _ aA rfl (lookM (by rfl)) rfl (lookM (by rfl)) rfl aN ⟨rfl, rfl, by decide, by decide⟩ (by first | rfl | omega | (simp; done) | (simp; omega) | fail) ⟨by first | (simp only [List.length_cons, List.length_nil]; omega) | omega | fail, by decide⟩ rfl (by first | (first | (simp only [lx, Nat.reduceAdd]; first | done | rfl) | fail) | rfl) aP ?_) | (refine x_appCO _ _ aA rfl rfl (lookM (by rfl)) ⟨rfl, by decide⟩ aN (by first | exact Nat.succ_pos _ | omega | (simp; done)) ⟨by first | (simp only [List.length_cons, List.length_nil]; omega) | omega | fail, by decide⟩ rfl rfl aP ?_) | (refine x_appNO _ aA rfl rfl (lookM (by rfl)) ⟨rfl, by decide⟩ aN ⟨by first | (simp only [List.length_cons, List.length_nil]; omega) | omega | fail, by decide⟩ rfl aP ?_) | (refine x_app_ol _ aA rfl rfl rfl ⟨rfl, rfl, rfl, by decide, by decide⟩ (by first | rfl | (simp; done) | fail) ⟨by omega, by decide⟩ rfl aL (by first | (rw [Nat.zero_add]) | rfl) ?_)) | (refine g_slice ?_; first | (refine x_sliceL _ aA rfl rfl rfl aO (by first | assumption | rfl) ?_) | (refine x_sliceO _ _ aA rfl (lookM (by rfl)) rfl rfl rfl aO (by first | (simp only [Nat.zero_add, Int.toNat_natCast]; exact rfl) | rfl) (by first | (simp only [Nat.sub_zero, Int.toNat_natCast]; exact rfl) | rfl) ?_) | (refine x_sliceS aA rfl rfl rfl aO rfl ?_)) | (refine x_slice3 _ aA rfl rfl rfl aO (by first | exact List.take_of_length_le aO | rfl) ?_) | (refine x_buildSliceO aA rfl rfl rfl ?_) | (refine x_nil (hK _ _ (.inl rfl) ?_); clear hK K) | (refine x_nil (hK _ _ (.inr (by kernel_rfl)) ?_); clear hK K))
      | (refine g_code ?_; first | (refine v_seq ?_) | (refine v_region (fun K hK => ?_)) | (refine v_block ?_) | (refine v_skip ?_) | (refine v_ret ?_) | (refine v_exit ?_) | (refine g_cond ?_; first | (refine v_cond_y rfl aD ?_) | (refine v_cond_n rfl aD ?_) | (refine v_condt rfl (fun h => ?_) (fun h => ?_) <;> (have h' := h; (try simp only [sx] at h')))))
      | (refine q_then ?_) | (refine q_then_r ?_) | (refine q_then_e ?_) | (refine q_blk_n ?_) | (refine q_blk_r ?_) | (refine q_blk_e ?_) | (refine q_blk_o rfl ?_) | (refine q_loop_r ?_) | (refine q_loop_e ?_) | (refine ret_n ?_))
  refine v_loopK [0, 1] [] (fun k : Nat => [(5, .int .i64 k)]) (fun k : Nat => []) (fun k : Nat => k ≤ l.length ∧ ∀ (j : Nat) x, j < k → l[j]? = some x → x < n) (fun k : Nat => l.length - k) (0) rfl rfl (fun _ => rfl) (fun _ => rfl) rfl (by refine ⟨?_, ?_, rfl, rfl⟩ <;> (repeat' (first | exact trivial | exact ⟨rfl, rfl⟩ | exact rfl | exact ⟨sub_fn, refs_fn⟩ | refine ⟨⟨rfl, rfl⟩, ?_⟩ | refine ⟨⟨sub_fn, refs_fn⟩, ?_⟩ | refine ⟨⟨rfl, fun h => Bool.noConfusion h⟩, ?_⟩ | refine ⟨⟨rfl, fun h => ?_⟩, ?_⟩ | refine ⟨rfl, ?_⟩ | refine ⟨?_, ?_⟩ | fail))) ⟨by omega, fun j x hj => by omega⟩ (fun k hk => ?_)
  obtain ⟨hk1, hk2⟩ := hk
  have hs1 : ((ints l).take ((k : Nat) : Int).toNat).drop (((0 : Nat) : Int)).toNat = (ints l).take k := by simp
  have hs2 : ((ints l).take (((ints l).length : Nat) : Int).toNat).drop ((k : Nat) : Int).toNat = (ints l).drop k := by rw [Int.toNat_natCast, Int.toNat_natCast, List.take_length]
  have hs3 : ((ints l).take k).length = k := by rw [List.length_take]; omega
  have hs4 : ((ints l).drop k).length = l.length - k := by rw [List.length_drop]; omega
  rcases Nat.lt_or_ge k l.length with hlt | hge
  · obtain ⟨a, ha⟩ := get_ex hlt
    have hx := ints_at ha
    by_cases hb : a < n
    · repeat' (first
      | (refine g_exec ?_; first | (refine g_move ?_; refine x_moveO _ rfl ?_) | (refine g_assign ?_; refine x_assignO _ rfl ?_) | (refine g_bin ?_; first | (refine x_add rfl rfl aO ?_) | (refine x_bin _ rfl rfl rfl ?_) | (refine x_boolEq aA rfl rfl ?_) | (refine x_strBin _ rfl rfl rfl ?_)) | (refine g_load ?_; first | (refine x_load_pc aA rfl ?_) | (refine x_load_oc _ aA rfl rfl aE rfl ?_) | (refine x_load_pa _ aA rfl aZ aL ?_) | (refine x_load_oa _ aA rfl rfl aE aZ aL ?_)) | (refine g_index ?_; first | (refine x_index_l _ aA rfl rfl aO aA ?_) | (refine x_index_o _ aA rfl rfl rfl rfl aO aO (by first | (rw [Nat.zero_add, Int.toNat_natCast]) | (rw [Nat.zero_add]) | rfl) ?_)) | (refine g_pick ?_; first | (refine x_pick_b rfl aD rfl ?_) | (refine x_pick_c rfl aD ?_) | (refine x_pick_a rfl aD ?_) | (refine x_pick_d rfl aD rfl ?_)) | (refine g_guard ?_; first | (refine x_gyes rfl rfl aD ?_) | (refine x_gno rfl rfl aD ?_) | (refine x_gun rfl rfl ?_) | (refine x_gsplit rfl rfl (fun h => ?_) (fun h => ?_) <;> (have h' := h; (try simp only [sx] at h')))) | (refine g_call ?_; first | (refine x_len_l aA rfl ?_) | (refine x_len_o aA rfl rfl ?_) | (refine x_len_n aA rfl ?_) | (refine x_len_s aA (evO_ok rfl) ?_) | (refine x_appOO _ _ aA rfl (lookM (by rfl)) rfl (lookM (by rfl)) rfl aN ⟨rfl, rfl, by decide, by decide⟩ (by first | rfl | omega | (simp; done) | (simp; omega) | fail) ⟨by first | (simp only [List.length_cons, List.length_nil]; omega) | omega | fail, by decide⟩ rfl (by first | (first | (simp only [lx, Nat.reduceAdd]; first | done | rfl) | fail) | rfl) aP ?_) | (refine x_appCO _ _ aA rfl rfl (lookM (by rfl)) ⟨rfl, by decide⟩ aN (by first | exact Nat.succ_pos _ | omega | (simp; done)) ⟨by first | (simp only [List.length_cons, List.length_nil]; omega) | omega | fail, by decide⟩ rfl rfl aP ?_) | (refine x_appNO _ aA rfl rfl (lookM (by rfl)) ⟨rfl, by decide⟩ aN ⟨by first | (simp only [List.length_cons, List.length_nil]; omega) | omega | fail, by decide⟩ rfl aP ?_) | (refine x_app_ol _ aA rfl rfl rfl ⟨rfl, rfl, rfl, by decide, by decide⟩ (by first | rfl | (simp; done) | fail) ⟨by omega, by decide⟩ rfl aL (by first | (rw [Nat.zero_add]) | rfl) ?_)) | (refine g_slice ?_; first | (refine x_sliceL _ aA rfl rfl rfl aO (by first | assumption | rfl) ?_) | (refine x_sliceO _ _ aA rfl (lookM (by rfl)) rfl rfl rfl aO (by first | (simp only [Nat.zero_add, Int.toNat_natCast]; exact rfl) | rfl) (by first | (simp only [Nat.sub_zero, Int.toNat_natCast]; exact rfl) | rfl) ?_) | (refine x_sliceS aA rfl rfl rfl aO rfl ?_)) | (refine x_slice3 _ aA rfl rfl rfl aO (by first | exact List.take_of_length_le aO | rfl) ?_) | (refine x_buildSliceO aA rfl rfl rfl ?_) | (refine x_nil (hK _ _ (.inl rfl) ?_); clear hK K) | (refine x_nil (hK _ _ (.inr (by kernel_rfl)) ?_); clear hK K))
      | (refine g_code ?_; first | (refine v_seq ?_) | (refine v_region (fun K hK => ?_)) | (refine v_block ?_) | (refine v_skip ?_) | (refine v_ret ?_) | (refine v_exit ?_) | (refine g_cond ?_; first | (refine v_cond_y rfl aD ?_) | (refine v_cond_n rfl aD ?_) | (refine v_condt rfl (fun h => ?_) (fun h => ?_) <;> (have h' := h; (try simp only [sx] at h')))))
      | (refine q_then ?_) | (refine q_then_r ?_) | (refine q_then_e ?_) | (refine q_blk_n ?_) | (refine q_blk_r ?_) | (refine q_blk_e ?_) | (refine q_blk_o rfl ?_) | (refine q_loop_r ?_) | (refine q_loop_e ?_) | (refine ret_n ?_))
      all_goals try (exfalso; omega)
      refine q_next (k + 1) rfl (by refine ⟨?_, ?_, rfl, rfl⟩ <;> (repeat' (first | exact trivial | exact ⟨rfl, rfl⟩ | exact rfl | exact ⟨sub_fn, refs_fn⟩ | refine ⟨⟨rfl, rfl⟩, ?_⟩ | refine ⟨⟨sub_fn, refs_fn⟩, ?_⟩ | refine ⟨⟨rfl, fun h => Bool.noConfusion h⟩, ?_⟩ | refine ⟨⟨rfl, fun h => ?_⟩, ?_⟩ | refine ⟨rfl, ?_⟩ | refine ⟨?_, ?_⟩ | fail))) ⟨by omega, fun j x hj hxx => ?_⟩ aO
      rcases Nat.lt_or_ge j k with h1 | h1
      · exact hk2 j x h1 hxx
      · have : j = k := by omega
        subst this
        rw [ha] at hxx
        injection hxx with hxx
        omega
    · have e : kPut l n = k := kPut_is hk1 hk2 fun x hx => by rw [ha] at hx; injection hx with hx; omega
      have heq : a ≠ n := fun hh => h (by rw [e, ha, hh])
      have e2 : put l n = l.take k ++ (n :: l.drop k) := by unfold put; rw [e, if_neg (by rw [ha]; intro h; injection h with h; exact heq h)]
      have e3 : ints (put l n) = ((ints l).take k ++ [[.int .i64 n]]) ++ (ints l).drop k := by rw [e2]; simp [ints, List.map_take, List.map_drop]
      have hfl : ∀ e ∈ ((ints l).take k ++ [[.int .i64 n]]) ++ (ints l).drop k, ∀ c ∈ e, c.flat = true := by rw [← e3]; exact ints_flat _
      rw [e3]
      repeat' (first
      | (refine g_exec ?_; first | (refine g_move ?_; refine x_moveO _ rfl ?_) | (refine g_assign ?_; refine x_assignO _ rfl ?_) | (refine g_bin ?_; first | (refine x_add rfl rfl aO ?_) | (refine x_bin _ rfl rfl rfl ?_) | (refine x_boolEq aA rfl rfl ?_) | (refine x_strBin _ rfl rfl rfl ?_)) | (refine g_load ?_; first | (refine x_load_pc aA rfl ?_) | (refine x_load_oc _ aA rfl rfl aE rfl ?_) | (refine x_load_pa _ aA rfl aZ aL ?_) | (refine x_load_oa _ aA rfl rfl aE aZ aL ?_)) | (refine g_index ?_; first | (refine x_index_l _ aA rfl rfl aO aA ?_) | (refine x_index_o _ aA rfl rfl rfl rfl aO aO (by first | (rw [Nat.zero_add, Int.toNat_natCast]) | (rw [Nat.zero_add]) | rfl) ?_)) | (refine g_pick ?_; first | (refine x_pick_b rfl aD rfl ?_) | (refine x_pick_c rfl aD ?_) | (refine x_pick_a rfl aD ?_) | (refine x_pick_d rfl aD rfl ?_)) | (refine g_guard ?_; first | (refine x_gyes rfl rfl aD ?_) | (refine x_gno rfl rfl aD ?_) | (refine x_gun rfl rfl ?_) | (refine x_gsplit rfl rfl (fun h => ?_) (fun h => ?_) <;> (have h' := h; (try simp only [sx] at h')))) | (refine g_call ?_; first | (refine x_len_l aA rfl ?_) | (refine x_len_o aA rfl rfl ?_) | (refine x_len_n aA rfl ?_) | (refine x_len_s aA (evO_ok rfl) ?_) | (refine x_appOO _ _ aA rfl (lookM (by rfl)) rfl (lookM (by rfl)) rfl aN ⟨rfl, rfl, by decide, by decide⟩ (by first | rfl | omega | (simp; done) | (simp; omega) | fail) ⟨by first | (simp only [List.length_cons, List.length_nil]; omega) | omega | fail, by decide⟩ rfl (by first | (first | (simp only [lx, Nat.reduceAdd]; first | done | rfl) | fail) | rfl) aP ?_) | (refine x_appCO _ _ aA rfl rfl (lookM (by rfl)) ⟨rfl, by decide⟩ aN (by first | exact Nat.succ_pos _ | omega | (simp; done)) ⟨by first | (simp only [List.length_cons, List.length_nil]; omega) | omega | fail, by decide⟩ rfl rfl aP ?_) | (refine x_appNO _ aA rfl rfl (lookM (by rfl)) ⟨rfl, by decide⟩ aN ⟨by first | (simp only [List.length_cons, List.length_nil]; omega) | omega | fail, by decide⟩ rfl aP ?_) | (refine x_app_ol _ aA rfl rfl rfl ⟨rfl, rfl, rfl, by decide, by decide⟩ (by first | rfl | (simp; done) | fail) ⟨by omega, by decide⟩ rfl aL (by first | (rw [Nat.zero_add]) | rfl) ?_)) | (refine g_slice ?_; first | (refine x_sliceL _ aA rfl rfl rfl aO (by first | assumption | rfl) ?_) | (refine x_sliceO _ _ aA rfl (lookM (by rfl)) rfl rfl rfl aO (by first | (simp only [Nat.zero_add, Int.toNat_natCast]; exact rfl) | rfl) (by first | (simp only [Nat.sub_zero, Int.toNat_natCast]; exact rfl) | rfl) ?_) | (refine x_sliceS aA rfl rfl rfl aO rfl ?_)) | (refine x_slice3 _ aA rfl rfl rfl aO (by first | exact List.take_of_length_le aO | rfl) ?_) | (refine x_buildSliceO aA rfl rfl rfl ?_) | (refine x_nil (hK _ _ (.inl rfl) ?_); clear hK K) | (refine x_nil (hK _ _ (.inr (by kernel_rfl)) ?_); clear hK K))
      | (refine g_code ?_; first | (refine v_seq ?_) | (refine v_region (fun K hK => ?_)) | (refine v_block ?_) | (refine v_skip ?_) | (refine v_ret ?_) | (refine v_exit ?_) | (refine g_cond ?_; first | (refine v_cond_y rfl aD ?_) | (refine v_cond_n rfl aD ?_) | (refine v_condt rfl (fun h => ?_) (fun h => ?_) <;> (have h' := h; (try simp only [sx] at h')))))
      | (refine q_then ?_) | (refine q_then_r ?_) | (refine q_then_e ?_) | (refine q_blk_n ?_) | (refine q_blk_r ?_) | (refine q_blk_e ?_) | (refine q_blk_o rfl ?_) | (refine q_loop_r ?_) | (refine q_loop_e ?_) | (refine ret_n ?_))
      all_goals first
        | (exfalso; omega)
        | (refine ret_list rfl (lookE_ok rfl) rfl ?_ ?_ hfl rfl <;> first | decide | (simp; done) | (simp; omega))
  · have e : kPut l n = l.length := by
      have : k = l.length := by omega
      subst this
      exact kPut_is hk1 hk2 fun x hx => by have := get_lt hx; omega
    have e2 : put l n = l.take l.length ++ (n :: l.drop l.length) := by unfold put; rw [e, if_neg (by rw [List.getElem?_eq_none (Nat.le_refl _)]; intro h; cases h)]
    have e3 : ints (put l n) = ((ints l).take l.length ++ [[.int .i64 n]]) ++ (ints l).drop l.length := by rw [e2]; simp only [ints, List.map_append, List.map_cons, List.map_take, List.map_drop, List.append_assoc, List.cons_append, List.nil_append]
    have hk3 : k = l.length := by omega
    subst hk3
    have hfl : ∀ e ∈ ((ints l).take l.length ++ [[.int .i64 n]]) ++ (ints l).drop l.length, ∀ c ∈ e, c.flat = true := by rw [← e3]; exact ints_flat _
    rw [e3]
    repeat' (first
      | (refine g_exec ?_; first | (refine g_move ?_; refine x_moveO _ rfl ?_) | (refine g_assign ?_; refine x_assignO _ rfl ?_) | (refine g_bin ?_; first | (refine x_add rfl rfl aO ?_) | (refine x_bin _ rfl rfl rfl ?_) | (refine x_boolEq aA rfl rfl ?_) | (refine x_strBin _ rfl rfl rfl ?_)) | (refine g_load ?_; first | (refine x_load_pc aA rfl ?_) | (refine x_load_oc _ aA rfl rfl aE rfl ?_) | (refine x_load_pa _ aA rfl aZ aL ?_) | (refine x_load_oa _ aA rfl rfl aE aZ aL ?_)) | (refine g_index ?_; first | (refine x_index_l _ aA rfl rfl aO aA ?_) | (refine x_index_o _ aA rfl rfl rfl rfl aO aO (by first | (rw [Nat.zero_add, Int.toNat_natCast]) | (rw [Nat.zero_add]) | rfl) ?_)) | (refine g_pick ?_; first | (refine x_pick_b rfl aD rfl ?_) | (refine x_pick_c rfl aD ?_) | (refine x_pick_a rfl aD ?_) | (refine x_pick_d rfl aD rfl ?_)) | (refine g_guard ?_; first | (refine x_gyes rfl rfl aD ?_) | (refine x_gno rfl rfl aD ?_) | (refine x_gun rfl rfl ?_) | (refine x_gsplit rfl rfl (fun h => ?_) (fun h => ?_) <;> (have h' := h; (try simp only [sx] at h')))) | (refine g_call ?_; first | (refine x_len_l aA rfl ?_) | (refine x_len_o aA rfl rfl ?_) | (refine x_len_n aA rfl ?_) | (refine x_len_s aA (evO_ok rfl) ?_) | (refine x_appOO _ _ aA rfl (lookM (by rfl)) rfl (lookM (by rfl)) rfl aN ⟨rfl, rfl, by decide, by decide⟩ (by first | rfl | omega | (simp; done) | (simp; omega) | fail) ⟨by first | (simp only [List.length_cons, List.length_nil]; omega) | omega | fail, by decide⟩ rfl (by first | (first | (simp only [lx, Nat.reduceAdd]; first | done | rfl) | fail) | rfl) aP ?_) | (refine x_appCO _ _ aA rfl rfl (lookM (by rfl)) ⟨rfl, by decide⟩ aN (by first | exact Nat.succ_pos _ | omega | (simp; done)) ⟨by first | (simp only [List.length_cons, List.length_nil]; omega) | omega | fail, by decide⟩ rfl rfl aP ?_) | (refine x_appNO _ aA rfl rfl (lookM (by rfl)) ⟨rfl, by decide⟩ aN ⟨by first | (simp only [List.length_cons, List.length_nil]; omega) | omega | fail, by decide⟩ rfl aP ?_) | (refine x_app_ol _ aA rfl rfl rfl ⟨rfl, rfl, rfl, by decide, by decide⟩ (by first | rfl | (simp; done) | fail) ⟨by omega, by decide⟩ rfl aL (by first | (rw [Nat.zero_add]) | rfl) ?_)) | (refine g_slice ?_; first | (refine x_sliceL _ aA rfl rfl rfl aO (by first | assumption | rfl) ?_) | (refine x_sliceO _ _ aA rfl (lookM (by rfl)) rfl rfl rfl aO (by first | (simp only [Nat.zero_add, Int.toNat_natCast]; exact rfl) | rfl) (by first | (simp only [Nat.sub_zero, Int.toNat_natCast]; exact rfl) | rfl) ?_) | (refine x_sliceS aA rfl rfl rfl aO rfl ?_)) | (refine x_slice3 _ aA rfl rfl rfl aO (by first | exact List.take_of_length_le aO | rfl) ?_) | (refine x_buildSliceO aA rfl rfl rfl ?_) | (refine x_nil (hK _ _ (.inl rfl) ?_); clear hK K) | (refine x_nil (hK _ _ (.inr (by kernel_rfl)) ?_); clear hK K))
      | (refine g_code ?_; first | (refine v_seq ?_) | (refine v_region (fun K hK => ?_)) | (refine v_block ?_) | (refine v_skip ?_) | (refine v_ret ?_) | (refine v_exit ?_) | (refine g_cond ?_; first | (refine v_cond_y rfl aD ?_) | (refine v_cond_n rfl aD ?_) | (refine v_condt rfl (fun h => ?_) (fun h => ?_) <;> (have h' := h; (try simp only [sx] at h')))))
      | (refine q_then ?_) | (refine q_then_r ?_) | (refine q_then_e ?_) | (refine q_blk_n ?_) | (refine q_blk_r ?_) | (refine q_blk_e ?_) | (refine q_blk_o rfl ?_) | (refine q_loop_r ?_) | (refine q_loop_e ?_) | (refine ret_n ?_))
    all_goals first
      | (exfalso; omega)
      | (refine ret_list rfl (lookE_ok rfl) rfl ?_ ?_ hfl rfl <;> first | decide | (simp; done) | (simp; omega))
end Go.Vs
set_option linter.unusedVariables false
set_option linter.unusedSimpArgs false
namespace Go.Vs
theorem ConF.frz {P : Program} {g : FuncId} {ys : List PV} {ty : TypeId} {sz : Nat} {es : List (List PV)} (h : ContractP P g false ys [] (Ret (.olist ty sz es))) (hfl : ∀ e ∈ es, ∀ c ∈ e, c.flat = true) : ContractP P g false ys [] (Ret (.list sz es)) := by
  refine ⟨h.1, fun G w X ρ cargs hW hX hC => ?_⟩
  obtain ⟨cb, h2⟩ := h
  refine (h2 G w X ρ cargs hW hX hC).mono fun e w' => ?_
  rintro ⟨v, r', fin, rfl, ⟨rfl, rfl⟩, hl, hf, hR⟩
  refine ⟨v, .list sz es, [], rfl, ⟨rfl, rfl⟩, hl, hf, fun t ht => ?_⟩
  obtain ⟨ρ', hR⟩ := hR t ht
  refine ⟨ρ', ?_⟩
  have hio : ioMem (withEs [] ([] : List (List (List PV)))) = noMem := by funext id; simp [ioMem, noMem, withEs]
  have hX0 : X = [] := List.length_eq_zero_iff.1 hX
  have hrel := hR.rel
  rw [hio] at hrel
  have hval := hR.val
  rw [hio] at hval
  have hM : (noMem.upds (thaw t (.olist ty sz es)).2) (t, 0) = some (some ⟨ty, sz, es, false⟩) := looks_upds _ (thaw1_keys t 0 (.olist ty sz es)).2.2 ((t, 0), some ⟨ty, sz, es, false⟩) (by simp [thaw1])
  have hv : Rep ρ' w' (Stab G ρ' (noMem.upds (thaw t (.olist ty sz es)).2) w') (noMem.upds (thaw t (.olist ty sz es)).2) v (.osl (t, 0) 0 es.length) := hval.mono (fun b hb => ⟨hb.1, rfl⟩) (MLe.refl _ _ _)
  have hnew : WRel G ρ' w X noMem w' := ⟨fun id id' r r' b z z' h => by simp [noMem] at h, fun id r h => by simp [noMem] at h, fun id r h => by simp [noMem] at h, hrel.keep, hrel.good⟩
  have key : Rep ρ' w' (RetS G false ρ' w noMem w') noMem v (.list sz es) := by
    obtain ⟨a, cap, rfl, h1, h2, h3⟩ := osl_cells hrel hM rfl hv
    refine rep_list.2 ⟨a, cap, rfl, h1, fun hne => ?_⟩
    obtain ⟨b, z, hρ, rfl, g⟩ := h3 (List.length_pos_iff.2 hne)
    have hb := hrel.new (t, 0) _ hM
    rw [if_neg ht] at hb
    have hb2 := hb b z hρ
    have hfresh : w.heap.size ≤ b := by
      rcases hb2 with h | ⟨z', h⟩
      · exact h
      · rw [hX0] at h; cases h
    refine ⟨_, rfl, ⟨⟨hrel.lt hM hρ, fun id' r z' hM' => by simp [noMem] at hM', hrel.good b hb2⟩, fun _ => hfresh⟩, fun i e hi => ?_⟩
    have hi' : ((es.drop 0).take es.length)[i]? = some e := by rw [List.drop_zero, List.take_length]; exact hi
    obtain ⟨k1, k2⟩ := g i e hi'
    refine ⟨k1, fun j u hu => ?_⟩
    obtain ⟨c, m1, m2, m3⟩ := k2 j u hu
    exact ⟨c, m1, m2, rep_flat (hfl e (List.mem_of_getElem? hi) u (List.mem_of_getElem? hu)) m3⟩
  refine ⟨?_, ?_, ?_⟩
  · rw [hio]; exact hnew
  · intro id row b z h1
    cases h1
  · rw [hio]; exact key
theorem Con.frzF {P : Program} {g : FuncId} {ys : List PV} {ty : TypeId} {sz : Nat} {es : List (List PV)} (h : Con P g ys (.olist ty sz es)) (hfl : ∀ e ∈ es, ∀ c ∈ e, c.flat = true) : Con P g ys (.list sz es) := by
  intro al
  cases al
  · exact ConF.frz (h false) hfl
  · exact ConA.frz (h true) rfl
end Go.Vs
set_option linter.unusedVariables false
set_option linter.unusedSimpArgs false
set_option maxRecDepth 100000
set_option maxHeartbeats 4000000
namespace Go.Vs
open Go.Proofs
attribute [local irreducible] exec vwp thenQ blkQ loopQ RetPost
@[reducible] def RgOk (t : Terrain) (r : List Int) : Prop := GoodT t ∧ SetG t r
theorem k_isRegion1 (t : Terrain) (r : List Int) (hn : t.burn.length ≤ 1000000) (hm : r.length ≤ 1000000) : Con Try.prog 55 [.agg t.pv, .list 1 [[.list 1 (ints r)]]] (.bool (decide (RgOk t r))) := by
  have h := k_isRegion t [r] hn (by simp) (fun x hx => by rw [List.mem_singleton] at hx; subst hx; exact hm)
  have e : rgB t [r] = decide (RgOk t r) := by unfold rgB; rw [Bool.eq_iff_iff]; simp
  rw [e] at h
  exact h
theorem k_set1 (t : Terrain) (r : List Int) (hn : t.burn.length ≤ 1000000) (hm : r.length ≤ 1000000) : Con Try.prog 61 [.agg t.pv, .list 1 (ints r)] (.bool (decide (RgOk t r))) := by
  have h := k_l2Set t r aO aO
  have e : decide (GoodT t ∧ (∀ y ∈ r, 0 ≤ y ∧ y < t.burn.length) ∧ Rising r) = decide (RgOk t r) := by rw [Bool.eq_iff_iff, decide_eq_true_eq, decide_eq_true_eq]; exact Iff.rfl
  rw [e] at h
  exact h
theorem RgOk.cel {t : Terrain} {r : List Int} (h : RgOk t r) : ∀ c ∈ r, IsCell t c := h.2.1
theorem RgOk.up {t : Terrain} {r : List Int} (h : RgOk t r) : r.Pairwise (· < ·) := h.2.2.pair
theorem RgOk.len {t : Terrain} {r : List Int} (h : RgOk t r) : r.length ≤ 25 := by
  have h1 := goodT_len h.1
  have := nodup_sub (rise_nodup h.up) (m := cellsL t.burn.length fun _ => true) fun x hx => by
    rw [cells_mem (p := fun _ => true)]
    exact ⟨h.cel x hx, rfl⟩
  have h2 := cellsL_len t.burn.length fun _ => true
  omega
theorem k_l1Own (l : List Int) (hn : l.length ≤ 1000000) : Con Try.prog 62 [.list 1 (ints l)] (.olist 3 1 (ints l)) := by
  intro al
  refine contract_of hmix Try.func62 rfl (by kernel_rfl) (by kernel_rfl) (Nat.le_of_ble_eq_true rfl) (fun row h => by cases h) ?_
  have hty_s24 := ty_s24
  have hty_u24 := ty_u24
  have hl1 : (ints l).length = l.length := by simp
  repeat' (first
      | (refine g_exec ?_; first | (refine g_move ?_; refine x_moveO _ rfl ?_) | (refine g_assign ?_; refine x_assignO _ rfl ?_) | (refine g_call ?_; first | (refine x_appOO _ _ aA rfl (lookM (by rfl)) rfl (lookM (by rfl)) rfl aN ⟨rfl, rfl, by decide, by decide⟩ (by first | rfl | omega | (simp; done) | (simp; omega) | fail) ⟨by first | (simp only [List.length_cons, List.length_nil]; omega) | omega | fail, by decide⟩ rfl (by first | (first | (simp only [lx, Nat.reduceAdd]; first | done | rfl) | fail) | rfl) aP ?_) | (refine x_appCO _ _ aA rfl rfl (lookM (by rfl)) ⟨rfl, by decide⟩ aN (by first | exact Nat.succ_pos _ | omega | (simp; done)) ⟨by first | (simp only [List.length_cons, List.length_nil]; omega) | omega | fail, by decide⟩ rfl rfl aP ?_) | (refine x_appNO _ aA rfl rfl (lookM (by rfl)) ⟨rfl, by decide⟩ aN ⟨by first | (simp only [List.length_cons, List.length_nil]; omega) | omega | fail, by decide⟩ rfl aP ?_) | (refine x_app_ol _ aA rfl rfl rfl ⟨rfl, rfl, rfl, by decide, by decide⟩ (by first | rfl | (simp; done) | fail) ⟨by omega, by decide⟩ rfl aL (by first | (rw [Nat.zero_add]) | rfl) ?_)) | (refine x_buildSliceO aA rfl rfl rfl ?_) | (refine x_nil (hK _ _ (.inl rfl) ?_); clear hK K) | (refine x_nil (hK _ _ (.inr (by kernel_rfl)) ?_); clear hK K))
      | (refine g_code ?_; first | (refine v_seq ?_) | (refine v_region (fun K hK => ?_)) | (refine v_block ?_) | (refine v_skip ?_) | (refine v_ret ?_) | (refine v_exit ?_))
      | (refine q_then ?_) | (refine q_then_r ?_) | (refine q_then_e ?_) | (refine q_blk_n ?_) | (refine q_blk_r ?_) | (refine q_blk_e ?_) | (refine q_blk_o rfl ?_) | (refine q_loop_r ?_) | (refine q_loop_e ?_) | (refine ret_n ?_))
  all_goals first
    | (exfalso; omega)
    | (refine ret_list rfl (lookE_ok (by rfl)) (by rfl) (by decide) ?_ (ints_flat _) ?_ <;> first | rfl | simp)
end Go.Vs
