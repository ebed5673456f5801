/- HEIGHTS: does a lookout see a cell: the program. -/
import Derived.Test.YtlkdgochmoeaaaaVau
import Derived.Test.YtlkdgochmoeaaaaVg5
set_option linter.unusedVariables false
set_option linter.unusedSimpArgs false
set_option maxRecDepth 100000
set_option maxHeartbeats 4000000
namespace Go.Vs
open Go.Proofs
attribute [local irreducible] exec vwp thenQ blkQ loopQ RetPost

theorem k_areSights (hh : Heights) (l : List Int) (hn : hh.terrain.burn.length ≤ 1099511627776) (hm : hh.metres.length ≤ 1099511627776) (hl : l.length ≤ 1099511627776) :
    Con Try.prog 35 [.agg hh.pv, .list 1 (ints l)] (.bool (decide (GoodH hh ∧ ∀ c ∈ l, CellOk hh c))) := by
  intro al
  refine contract_of hmix Try.func35 rfl (by kernel_rfl) (by kernel_rfl) (Nat.le_of_ble_eq_true rfl) (fun row h => by cases h) ?_
  have hty_a28 := ty_a28
  have hty_f28_0 := ty_f28_0
  have hty_a26 := ty_a26
  have hty_u24 := ty_u24
  have hty_s24 := ty_s24
  have kA := k_allIntT l 71 hh.terrain (fun c => decide (0 ≤ c ∧ c < hh.terrain.burn.length)) (fun c _ => k_isCell hh.terrain c hn) hl
  by_cases hg : GoodH hh
  · have kG := k_iAreHeights hh hn hm
    rw [show decide (GoodH hh) = true from by simp [hg]] at kG
    have e : (hh.metres.length : Int) = hh.terrain.burn.length := by have := hg.2.1; omega
    repeat' (first
      | (refine g_exec ?_; first | (refine g_move ?_; refine x_moveO _ rfl ?_) | (refine g_assign ?_; refine x_assignO _ rfl ?_) | (refine g_load ?_; first | (refine x_load_pc aA rfl ?_) | (refine x_load_oc _ aA rfl rfl aE rfl ?_) | (refine x_load_pa _ aA rfl aZ aL ?_) | (refine x_load_oa _ aA rfl rfl aE aZ aL ?_)) | (refine g_field ?_; first | (refine x_field_p _ aA rfl aL ?_) | (refine x_field_o _ aA rfl rfl (by simp only [lx, Nat.reduceAdd]; first | done | rfl) ?_)) | (refine g_pick ?_; first | (refine x_pick_b rfl aD rfl ?_) | (refine x_pick_c rfl aD ?_) | (refine x_pick_a rfl aD ?_) | (refine x_pick_d rfl aD rfl ?_)) | (refine g_guard ?_; first | (refine x_gyes rfl rfl aD ?_) | (refine x_gno rfl rfl aD ?_) | (refine x_gun rfl rfl ?_) | (refine x_gsplit rfl rfl (fun h => ?_) (fun h => ?_) <;> (have h' := h; (try simp only [sx] at h')))) | (refine g_call ?_; first | (refine x_callG true (kG) rfl rfl rfl aS rfl aH ?_; simp only [cl]) | (refine x_callG true (kA) rfl rfl rfl aS rfl aH ?_; simp only [cl])) | (refine x_boxO _ _ rfl rfl rfl rfl ?_) | (refine x_mkfn _ _ rfl rfl ?_) | (refine x_nil (hK _ _ (.inl rfl) ?_); clear hK K) | (refine x_nil (hK _ _ (.inr (by kernel_rfl)) ?_); clear hK K))
      | (refine g_code ?_; first | (refine v_seq ?_) | (refine v_region (fun K hK => ?_)) | (refine v_block ?_) | (refine v_skip ?_) | (refine v_ret ?_) | (refine v_exit ?_))
      | (refine q_then ?_) | (refine q_then_r ?_) | (refine q_then_e ?_) | (refine q_blk_n ?_) | (refine q_blk_r ?_) | (refine q_blk_e ?_) | (refine q_blk_o rfl ?_) | (refine q_loop_r ?_) | (refine q_loop_e ?_) | (refine ret_n ?_))
    refine ret_bool rfl (lookE_ok rfl) ?_
    rw [Bool.eq_iff_iff, List.all_eq_true]
    simp only [decide_eq_true_eq, CellOk, e]
    exact ⟨fun h => ⟨hg, h⟩, fun h => h.2⟩
  · have kG := k_iAreHeights hh hn hm
    rw [show decide (GoodH hh) = false from by simp [hg]] at kG
    repeat' (first
      | (refine g_exec ?_; first | (refine g_move ?_; refine x_moveO _ rfl ?_) | (refine g_assign ?_; refine x_assignO _ rfl ?_) | (refine g_load ?_; first | (refine x_load_pc aA rfl ?_) | (refine x_load_oc _ aA rfl rfl aE rfl ?_) | (refine x_load_pa _ aA rfl aZ aL ?_) | (refine x_load_oa _ aA rfl rfl aE aZ aL ?_)) | (refine g_field ?_; first | (refine x_field_p _ aA rfl aL ?_) | (refine x_field_o _ aA rfl rfl (by simp only [lx, Nat.reduceAdd]; first | done | rfl) ?_)) | (refine g_pick ?_; first | (refine x_pick_b rfl aD rfl ?_) | (refine x_pick_c rfl aD ?_) | (refine x_pick_a rfl aD ?_) | (refine x_pick_d rfl aD rfl ?_)) | (refine g_guard ?_; first | (refine x_gyes rfl rfl aD ?_) | (refine x_gno rfl rfl aD ?_) | (refine x_gun rfl rfl ?_) | (refine x_gsplit rfl rfl (fun h => ?_) (fun h => ?_) <;> (have h' := h; (try simp only [sx] at h')))) | (refine g_call ?_; first | (refine x_callG true (kG) rfl rfl rfl aS rfl aH ?_; simp only [cl]) | (refine x_callG true (kA) rfl rfl rfl aS rfl aH ?_; simp only [cl])) | (refine x_boxO _ _ rfl rfl rfl rfl ?_) | (refine x_mkfn _ _ rfl rfl ?_) | (refine x_nil (hK _ _ (.inl rfl) ?_); clear hK K) | (refine x_nil (hK _ _ (.inr (by kernel_rfl)) ?_); clear hK K))
      | (refine g_code ?_; first | (refine v_seq ?_) | (refine v_region (fun K hK => ?_)) | (refine v_block ?_) | (refine v_skip ?_) | (refine v_ret ?_) | (refine v_exit ?_))
      | (refine q_then ?_) | (refine q_then_r ?_) | (refine q_then_e ?_) | (refine q_blk_n ?_) | (refine q_blk_r ?_) | (refine q_blk_e ?_) | (refine q_blk_o rfl ?_) | (refine q_loop_r ?_) | (refine q_loop_e ?_) | (refine ret_n ?_))
    exact ret_bool rfl (lookE_ok rfl) (by simp [hg])
theorem k_isTower (t : Int) : Con Try.prog 36 [.int .i64 t] (.bool (decide (0 ≤ t) && decide (t ≤ 50))) := by
  intro al
  refine contract_of hmix Try.func36 rfl (by kernel_rfl) (by kernel_rfl) (Nat.le_of_ble_eq_true rfl) (fun row h => by cases h) ?_
  repeat' (first
      | (refine g_exec ?_; first | (refine g_move ?_; refine x_moveO _ rfl ?_) | (refine g_assign ?_; refine x_assignO _ rfl ?_) | (refine g_call ?_; refine x_callG true (k_in _ _ _) rfl rfl rfl aS rfl aH ?_; simp only [cl]) | (refine x_nil (hK _ _ (.inl rfl) ?_); clear hK K) | (refine x_nil (hK _ _ (.inr (by kernel_rfl)) ?_); clear hK K))
      | (refine g_code ?_; first | (refine v_seq ?_) | (refine v_region (fun K hK => ?_)) | (refine v_block ?_) | (refine v_skip ?_) | (refine v_ret ?_) | (refine v_exit ?_))
      | (refine q_then ?_) | (refine q_then_r ?_) | (refine q_then_e ?_) | (refine q_blk_n ?_) | (refine q_blk_r ?_) | (refine q_blk_e ?_) | (refine q_blk_o rfl ?_) | (refine q_loop_r ?_) | (refine q_loop_e ?_) | (refine ret_n ?_))
  exact ret_bool rfl (lookE_ok rfl) rfl
theorem line_bounds {hh : Heights} (hg : GoodH hh) {a b : Int} (ha : CellOk hh a) (hb : CellOk hh b) {k : Int} (h0 : 0 ≤ k) (h1 : k ≤ nn hh a b) (hn : 0 < nn hh a b) :
    (-4 ≤ (yd hh a b).tdiv (nn hh a b) * k ∧ (yd hh a b).tdiv (nn hh a b) * k ≤ 4) ∧ (-4 ≤ (xd hh a b).tdiv (nn hh a b) * k ∧ (xd hh a b).tdiv (nn hh a b) * k ≤ 4) ∧
    (0 ≤ (a / hh.terrain.width + (yd hh a b).tdiv (nn hh a b) * k) * hh.terrain.width ∧ (a / hh.terrain.width + (yd hh a b).tdiv (nn hh a b) * k) * hh.terrain.width ≤ 25) := by
  have p1 := place hg ha
  have p2 := place hg hb
  have m1 := mid (x_exact hh a b) aO h0 h1
  have m2 := mid (y_exact hh a b) aO h0 h1
  have hdf := diffs hg ha hb
  have hd := hg.1.1
  unfold Dims at hd
  generalize hq : (xd hh a b).tdiv (nn hh a b) * k = q at *
  generalize hr : (yd hh a b).tdiv (nn hh a b) * k = r at *
  have hy : -4 ≤ r ∧ r ≤ 4 ∧ 0 ≤ a / hh.terrain.width + r ∧ a / hh.terrain.width + r ≤ 4 := by
    rcases Int.le_total 0 (yd hh a b) with h | h
    · have := m2.1 h; unfold yd at *; omega
    · have := m2.2 h; unfold yd at *; omega
  have hx : -4 ≤ q ∧ q ≤ 4 := by
    rcases Int.le_total 0 (xd hh a b) with h | h
    · have := m1.1 h; omega
    · have := m1.2 h; omega
  have := mul_bnd (p := a / hh.terrain.width + r) (q := hh.terrain.width) (A := 4) (B := 5) hy.2.2.1 hy.2.2.2 aO hd.1.2
  omega
theorem k_between (hh : Heights) (a b : Int) (g : FuncId) (u1 u2 u3 : List PV) (T : TypeId) (F : Nat → List (List PV)) (hg : GoodH hh) (ha : CellOk hh a) (hb : CellOk hh b) (hF : ∀ j, (F j).length = 1)
    (hc : ∀ j : Nat, j < nn hh a b - 1 → ContractP Try.prog g true [.int .i64 (cellK hh a b ((j : Int) + 1)), .int .i64 ((j : Int) + 1), .int .i64 (nn hh a b), .own (io, 0) 0 0, .ptr u1, .ptr u2, .ptr u3] [⟨T, 1, F j, false⟩] (fun r' fin' => r' = .tuple [] ∧ fin' = [F (j + 1)])) :
    ContractP Try.prog 46 true [.agg hh.pv, .int .i64 a, .int .i64 b, .fn g [] [.own (io, 0) 0 0, .ptr u1, .ptr u2, .ptr u3]] [⟨T, 1, F 0, false⟩] (fun r' fin' => r' = .tuple [] ∧ fin' = [F (nn hh a b - 1)]) := by
  refine contract_of hmix Try.func46 rfl (by kernel_rfl) (by kernel_rfl) (Nat.le_of_ble_eq_true rfl) (fun row h => by simp at h; subst h; exact .inl rfl) ?_
  have hty_f28_0 := ty_f28_0
  have hty_a26 := ty_a26
  have hty_z26 := ty_z26
  have hty_t26 := ty_t26
  have hty_f26_0 := ty_f26_0
  have hty_c3 := ty_c3
  have hca := ha
  have hcb := hb
  unfold CellOk at hca hcb
  have hml := goodH_pos hg
  have hw := hg.1.1.1
  have hd := hg.1.1
  unfold Dims at hd
  have p1 := place hg ha
  have p2 := place hg hb
  have hdf := diffs hg ha hb
  have hnl := nn_le hg ha hb
  have kg0 := k_gcd (xd hh a b) (yd hh a b) aO aO
  dsimp only [xd, yd] at hdf kg0
  repeat' (first
      | (refine g_exec ?_; first | (refine g_move ?_; refine x_moveO _ rfl ?_) | (refine g_assign ?_; refine x_assignO _ rfl ?_) | (refine g_bin ?_; first | (refine x_add rfl rfl aO ?_) | (refine x_sub rfl rfl aO ?_) | (refine x_mul rfl rfl aO ?_) | (refine x_quo rfl rfl aO ?_) | (refine x_quoT rfl rfl aO ?_) | (refine x_bin _ rfl rfl rfl ?_) | (refine x_strBin _ rfl rfl rfl ?_)) | (refine g_load ?_; first | (refine x_load_pc aA rfl ?_) | (refine x_load_oc _ aA rfl rfl aE rfl ?_) | (refine x_load_pa _ aA rfl aZ aL ?_) | (refine x_load_oa _ aA rfl rfl aE aZ aL ?_)) | (refine g_field ?_; first | (refine x_field_p _ aA rfl aL ?_) | (refine x_field_o _ aA rfl rfl (by simp only [lx, Nat.reduceAdd]; first | done | rfl) ?_)) | (refine g_call ?_; first | (refine x_callG true (k_column hh.terrain a hw.1 aO) rfl rfl rfl aS rfl aH ?_; simp only [cl]) | (refine x_callG true (k_column hh.terrain b hw.1 aO) rfl rfl rfl aS rfl aH ?_; simp only [cl]) | (refine x_callG true (k_row hh.terrain a hw.1 aO) rfl rfl rfl aS rfl aH ?_; simp only [cl]) | (refine x_callG true (k_row hh.terrain b hw.1 aO) rfl rfl rfl aS rfl aH ?_; simp only [cl]) | (refine x_callG true (kg0) rfl rfl rfl aS rfl aH ?_; simp only [cl]) | (refine x_call [] _ (kg0) rfl rfl aS rfl aH ?_; simp only [cl])) | (refine x_boxO _ _ rfl rfl rfl rfl ?_) | (refine x_alloc _ aA rfl ?_) | (refine x_allocF aA rfl ?_) | (refine x_storeO _ _ _ rfl rfl aE (by first | assumption | (exact TAgg.size aA)) rfl rfl rfl aZ rfl aL (by first | (first | (simp only [lx, Nat.reduceAdd]; first | done | rfl) | fail) | rfl) ?_) | (refine x_nil (hK _ _ (.inl rfl) ?_); clear hK K) | (refine x_nil (hK _ _ (.inr (by kernel_rfl)) ?_); clear hK K))
      | (refine g_code ?_; first | (refine v_seq ?_) | (refine v_region (fun K hK => ?_)) | (refine v_block ?_) | (refine v_skip ?_) | (refine v_ret ?_) | (refine v_exit ?_) | (refine g_cond ?_; first | (refine v_cond_y rfl aD ?_) | (refine v_cond_n rfl aD ?_) | (refine v_condt rfl (fun h => ?_) (fun h => ?_) <;> (have h' := h; (try simp only [sx] at h')))))
      | (refine q_then ?_) | (refine q_then_r ?_) | (refine q_then_e ?_) | (refine q_blk_n ?_) | (refine q_blk_r ?_) | (refine q_blk_e ?_) | (refine q_blk_o rfl ?_) | (refine q_loop_r ?_) | (refine q_loop_e ?_) | (refine ret_n ?_))
  refine v_loopK [1, 3, 8, 9, 10, 11] [(io, 0)] (fun j : Nat => [(12, .int .i64 ((j : Int) + 1))]) (fun j : Nat => [((io, 0), some ⟨T, 1, F j, false⟩)]) (fun j : Nat => j ≤ nn hh a b - 1) (fun j : Nat => nn hh a b - j) (0) rfl rfl (fun _ => rfl) (fun _ => rfl) rfl (by refine ⟨?_, ?_, rfl, rfl⟩ <;> (repeat' (first | exact trivial | exact ⟨rfl, rfl⟩ | exact rfl | exact ⟨sub_fn, refs_fn⟩ | refine ⟨⟨rfl, rfl⟩, ?_⟩ | refine ⟨⟨sub_fn, refs_fn⟩, ?_⟩ | refine ⟨⟨rfl, fun h => Bool.noConfusion h⟩, ?_⟩ | refine ⟨⟨rfl, fun h => ?_⟩, ?_⟩ | refine ⟨rfl, ?_⟩ | refine ⟨?_, ?_⟩ | fail))) aO (fun j hj => ?_)
  by_cases hlt : (j : Int) + 1 < (nn hh a b : Int)
  · have lb := line_bounds hg ha hb (k := (j : Int) + 1) aO aO aO
    have kg := hc j aO
    rw [← cell_form hg ha b] at kg
    dsimp only [xd, yd, nn] at lb kg hlt
    repeat' (first
      | (refine g_exec ?_; first | (refine g_move ?_; refine x_moveO _ rfl ?_) | (refine g_assign ?_; refine x_assignO _ rfl ?_) | (refine g_bin ?_; first | (refine x_add rfl rfl aO ?_) | (refine x_sub rfl rfl aO ?_) | (refine x_mul rfl rfl aO ?_) | (refine x_quo rfl rfl aO ?_) | (refine x_quoT rfl rfl aO ?_) | (refine x_bin _ rfl rfl rfl ?_) | (refine x_strBin _ rfl rfl rfl ?_)) | (refine g_load ?_; first | (refine x_load_pc aA rfl ?_) | (refine x_load_oc _ aA rfl rfl aE rfl ?_) | (refine x_load_pa _ aA rfl aZ aL ?_) | (refine x_load_oa _ aA rfl rfl aE aZ aL ?_)) | (refine g_field ?_; first | (refine x_field_p _ aA rfl aL ?_) | (refine x_field_o _ aA rfl rfl (by simp only [lx, Nat.reduceAdd]; first | done | rfl) ?_)) | (refine g_call ?_; first | (refine x_callG true (k_column hh.terrain a hw.1 aO) rfl rfl rfl aS rfl aH ?_; simp only [cl]) | (refine x_callG true (k_row hh.terrain a hw.1 aO) rfl rfl rfl aS rfl aH ?_; simp only [cl]) | (refine x_callB (kg) rfl rfl rfl rfl rfl rfl rfl aS rfl rfl rfl ?_; simp only [cl])) | (refine x_boxO _ _ rfl rfl rfl rfl ?_) | (refine x_alloc _ aA rfl ?_) | (refine x_allocF aA rfl ?_) | (refine x_storeO _ _ _ rfl rfl aE (by first | assumption | (exact TAgg.size aA)) rfl rfl rfl aZ rfl aL (by first | (first | (simp only [lx, Nat.reduceAdd]; first | done | rfl) | fail) | rfl) ?_) | (refine x_nil (hK _ _ (.inl rfl) ?_); clear hK K) | (refine x_nil (hK _ _ (.inr (by kernel_rfl)) ?_); clear hK K))
      | (refine g_code ?_; first | (refine v_seq ?_) | (refine v_region (fun K hK => ?_)) | (refine v_block ?_) | (refine v_skip ?_) | (refine v_ret ?_) | (refine v_exit ?_) | (refine g_cond ?_; first | (refine v_cond_y rfl aD ?_) | (refine v_cond_n rfl aD ?_) | (refine v_condt rfl (fun h => ?_) (fun h => ?_) <;> (have h' := h; (try simp only [sx] at h')))))
      | (refine q_then ?_) | (refine q_then_r ?_) | (refine q_then_e ?_) | (refine q_blk_n ?_) | (refine q_blk_r ?_) | (refine q_blk_e ?_) | (refine q_blk_o rfl ?_) | (refine q_loop_r ?_) | (refine q_loop_e ?_) | (refine ret_n ?_))
    refine q_next (j + 1) rfl (by refine ⟨?_, ?_, rfl, rfl⟩ <;> (repeat' (first | exact trivial | exact ⟨rfl, rfl⟩ | exact rfl | exact ⟨sub_fn, refs_fn⟩ | refine ⟨⟨rfl, rfl⟩, ?_⟩ | refine ⟨⟨sub_fn, refs_fn⟩, ?_⟩ | refine ⟨⟨rfl, fun h => Bool.noConfusion h⟩, ?_⟩ | refine ⟨⟨rfl, fun h => ?_⟩, ?_⟩ | refine ⟨rfl, ?_⟩ | refine ⟨?_, ?_⟩ | fail))) (by dsimp only [xd, yd, nn]; omega) (by dsimp only [xd, yd, nn]; omega)
  · have hj2 : j = nn hh a b - 1 := by omega
    dsimp only [xd, yd, nn] at hlt
    repeat' (first
      | (refine g_exec ?_; first | (refine g_move ?_; refine x_moveO _ rfl ?_) | (refine g_assign ?_; refine x_assignO _ rfl ?_) | (refine g_bin ?_; first | (refine x_add rfl rfl aO ?_) | (refine x_sub rfl rfl aO ?_) | (refine x_mul rfl rfl aO ?_) | (refine x_quo rfl rfl aO ?_) | (refine x_quoT rfl rfl aO ?_) | (refine x_bin _ rfl rfl rfl ?_) | (refine x_strBin _ rfl rfl rfl ?_)) | (refine g_load ?_; first | (refine x_load_pc aA rfl ?_) | (refine x_load_oc _ aA rfl rfl aE rfl ?_) | (refine x_load_pa _ aA rfl aZ aL ?_) | (refine x_load_oa _ aA rfl rfl aE aZ aL ?_)) | (refine g_field ?_; first | (refine x_field_p _ aA rfl aL ?_) | (refine x_field_o _ aA rfl rfl (by simp only [lx, Nat.reduceAdd]; first | done | rfl) ?_)) | (refine x_boxO _ _ rfl rfl rfl rfl ?_) | (refine x_alloc _ aA rfl ?_) | (refine x_allocF aA rfl ?_) | (refine x_storeO _ _ _ rfl rfl aE (by first | assumption | (exact TAgg.size aA)) rfl rfl rfl aZ rfl aL (by first | (first | (simp only [lx, Nat.reduceAdd]; first | done | rfl) | fail) | rfl) ?_) | (refine x_nil (hK _ _ (.inl rfl) ?_); clear hK K) | (refine x_nil (hK _ _ (.inr (by kernel_rfl)) ?_); clear hK K))
      | (refine g_code ?_; first | (refine v_seq ?_) | (refine v_region (fun K hK => ?_)) | (refine v_block ?_) | (refine v_skip ?_) | (refine v_ret ?_) | (refine v_exit ?_) | (refine g_cond ?_; first | (refine v_cond_y rfl aD ?_) | (refine v_cond_n rfl aD ?_) | (refine v_condt rfl (fun h => ?_) (fun h => ?_) <;> (have h' := h; (try simp only [sx] at h')))))
      | (refine q_then ?_) | (refine q_then_r ?_) | (refine q_then_e ?_) | (refine q_blk_n ?_) | (refine q_blk_r ?_) | (refine q_blk_e ?_) | (refine q_blk_o rfl ?_) | (refine q_loop_r ?_) | (refine q_loop_e ?_) | (refine ret_n ?_))
    exact ret_none (.inr rfl) rfl ⟨by rw [hF, hF], by rw [← hj2]; rfl, trivial⟩
end Go.Vs
