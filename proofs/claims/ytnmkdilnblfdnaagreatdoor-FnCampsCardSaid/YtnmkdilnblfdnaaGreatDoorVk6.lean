/- CAMPS: moved rations. -/
import Derived.Test.YtnmkdilnblfdnaaGreatDoorVau
import Derived.Test.YtnmkdilnblfdnaaGreatDoorVk2
set_option linter.unusedVariables false
set_option linter.unusedSimpArgs false
set_option maxRecDepth 100000
set_option maxHeartbeats 4000000
namespace Go.Vs
open Go.Proofs
attribute [local irreducible] exec vwp thenQ blkQ loopQ RetPost

theorem fnd_at {xs : List Camp} {n : Int} (h : 0 ≤ fnd xs n) : ∃ (i : Nat) (a : Camp), fnd xs n = i ∧ xs[i]? = some a ∧ a.id = n := by
  obtain ⟨i, a, h1, h2, h3⟩ := idx_at h
  exact ⟨i, a, h1, h2, by simpa [isId] using h3⟩
def Movable (xs : List Camp) (f t r : Int) : Prop := Good xs ∧ 0 ≤ fnd xs f ∧ 0 ≤ fnd xs t ∧ fnd xs f ≠ fnd xs t ∧ (1 ≤ r ∧ r ≤ 5000)
instance (xs : List Camp) (f t r : Int) : Decidable (Movable xs f t r) := by unfold Movable; infer_instance
def moved (xs : List Camp) (f t r : Int) : List Camp :=
  let i := (fnd xs f).toNat
  let k := (fnd xs t).toNat
  (xs.set i ⟨f, (xs.getD i d0).people, (xs.getD i d0).stock - r⟩).set k ⟨t, (xs.getD k d0).people, (xs.getD k d0).stock + r⟩
def Mv (xs : List Camp) (f t r : Int) : Prop := Movable xs f t r ∧ Good (moved xs f t r)
instance (xs : List Camp) (f t r : Int) : Decidable (Mv xs f t r) := by unfold Mv; infer_instance
def mvL (xs : List Camp) (f t r : Int) : List Camp := if Mv xs f t r then moved xs f t r else []
theorem mvL_len (xs : List Camp) (f t r : Int) : (mvL xs f t r).length ≤ xs.length := by
  unfold mvL moved
  split <;> simp
theorem good_one {xs : List Camp} (h : Good xs) {i : Nat} {a : Camp} (ha : xs[i]? = some a) : One a := by
  have := (h.1 i (get_lt ha)).1
  rwa [getD_of ha] at this

theorem k_iMove (xs : List Camp) (f t r : Int) (hn : xs.length ≤ 1099511627776) : Con Tryz.prog 20 [.list 3 (xs.map Camp.pv), .int .i64 f, .int .i64 t, .int .i64 r] (.tuple [.olist 34 3 ((mvL xs f t r).map Camp.pv), .bool (decide (Mv xs f t r))]) := by
  intro al
  refine contract_of hmix Tryz.func20 rfl (by kernel_rfl) (by kernel_rfl) (Nat.le_of_ble_eq_true rfl) (fun row h => by cases h) ?_
  have hty_u24 := ty_u24
  have hty_s24 := ty_s24
  have hty_f34_2 := ty_f34_2
  have hty_c3 := ty_c3
  have hty_t3 := ty_t3
  have hl1 : (xs.map Camp.pv).length = xs.length := by simp
  by_cases hm : Movable xs f t r
  · have hg := hm.1
    obtain ⟨i, a, hfi, hia, haf⟩ := fnd_at hm.2.1
    obtain ⟨k, b, hfk, hkb, hbt⟩ := fnd_at hm.2.2.1
    have hne : i ≠ k := fun e => hm.2.2.2.1 (by rw [hfi, hfk, e])
    have hr := hm.2.2.2.2
    have h1 := good_one hg hia
    have h2 := good_one hg hkb
    have hi := get_lt hia
    have hk := get_lt hkb
    unfold One at h1 h2
    have hx := Camp.at hia
    have hy := Camp.at hkb
    have k1 := k_campAt xs f hn
    have k2 := k_campAt xs t hn
    have k3 := k_iAreCamps xs hn
    rw [hfi] at k1
    rw [hfk] at k2
    rw [show decide (Good xs) = true from by simp [hg]] at k3
    have k4 := k_in r 1 5000
    rw [show (decide ((1 : Int) ≤ r) && decide (r ≤ 5000)) = true from by simp; omega] at k4
    have hmv : moved xs f t r = (xs.set i ⟨a.id, a.people, a.stock - r⟩).set k ⟨b.id, b.people, b.stock + r⟩ := by
      simp only [moved, hfi, hfk, Int.toNat_natCast, getD_of hia, getD_of hkb, haf, hbt]
    have k5 := k_iAreCamps (moved xs f t r) (by rw [hmv]; simpa using hn)
    have hes : (moved xs f t r).map Camp.pv = ((xs.map Camp.pv).set i [.int .i64 a.id, .int .i64 a.people, .int .i64 (a.stock - r)]).set k [.int .i64 b.id, .int .i64 b.people, .int .i64 (b.stock + r)] := by
      rw [hmv]; simp [List.map_set]
    rw [hes] at k5
    repeat' (first
      | (refine g_exec ?_; first | (refine g_move ?_; refine x_moveO _ rfl ?_) | (refine g_assign ?_; refine x_assignO _ rfl ?_) | (refine g_bin ?_; first | (refine x_add rfl rfl aO ?_) | (refine x_sub rfl rfl aO ?_) | (refine x_bin _ rfl rfl rfl ?_) | (refine x_boolEq aA rfl rfl ?_) | (refine x_strBin _ rfl rfl rfl ?_)) | (refine g_un ?_; first | (refine x_not rfl ?_) | (refine x_neg rfl aO ?_)) | (refine g_load ?_; first | (refine x_load_pc aA rfl ?_) | (refine x_load_oc _ aA rfl rfl aE rfl ?_) | (refine x_load_pa _ aA rfl aZ aL ?_) | (refine x_load_oa _ aA rfl rfl aE aZ aL ?_)) | (refine g_field ?_; first | (refine x_field_p _ aA rfl aL ?_) | (refine x_field_o _ aA rfl rfl (by simp only [lx, Nat.reduceAdd]; first | done | rfl) ?_)) | (refine g_index ?_; first | (refine x_index_l _ aA rfl rfl aO aA ?_) | (refine x_index_o _ aA rfl rfl rfl rfl aO aO (by first | (rw [Nat.zero_add, Int.toNat_natCast]) | (rw [Nat.zero_add]) | rfl) ?_)) | (refine g_pick ?_; first | (refine x_pick_b rfl aD rfl ?_) | (refine x_pick_c rfl aD ?_) | (refine x_pick_a rfl aD ?_) | (refine x_pick_d rfl aD rfl ?_)) | (refine g_guard ?_; first | (refine x_gyes rfl rfl aD ?_) | (refine x_gno rfl rfl aD ?_) | (refine x_gun rfl rfl ?_) | (refine x_gsplit rfl rfl (fun h => ?_) (fun h => ?_) <;> (have h' := h; (try simp only [sx] at h')))) | (refine g_call ?_; first | (refine x_callG true (k1) rfl rfl rfl aS rfl aH ?_; simp only [cl]) | (refine x_callG true (k2) rfl rfl rfl aS rfl aH ?_; simp only [cl]) | (refine x_callG true (k3) rfl rfl rfl aS rfl aH ?_; simp only [cl]) | (refine x_callG true (k4) rfl rfl rfl aS rfl aH ?_; simp only [cl]) | (refine x_callG true (k_copyOfCamp xs hn) rfl rfl rfl aS rfl aH ?_; simp only [cl]) | (refine x_callG true (k5) rfl rfl rfl aS rfl aH ?_; simp only [cl])) | (refine x_storeO _ _ _ rfl rfl aE (by first | assumption | (exact TAgg.size aA)) rfl rfl rfl aZ rfl aL (by first | (first | (simp only [lx, Nat.reduceAdd]; first | done | rfl) | fail) | rfl) ?_) | (refine x_nil (hK _ _ (.inl rfl) ?_); clear hK K) | (refine x_nil (hK _ _ (.inr (by kernel_rfl)) ?_); clear hK K))
      | (refine g_code ?_; first | (refine v_seq ?_) | (refine v_region (fun K hK => ?_)) | (refine v_block ?_) | (refine v_skip ?_) | (refine v_ret ?_) | (refine v_exit ?_) | (refine g_cond ?_; first | (refine v_cond_y rfl aD ?_) | (refine v_cond_n rfl aD ?_) | (refine v_condt rfl (fun h => ?_) (fun h => ?_) <;> (have h' := h; (try simp only [sx] at h')))))
      | (refine q_then ?_) | (refine q_then_r ?_) | (refine q_then_e ?_) | (refine q_blk_n ?_) | (refine q_blk_r ?_) | (refine q_blk_e ?_) | (refine q_blk_o rfl ?_) | (refine q_loop_r ?_) | (refine q_loop_e ?_) | (refine ret_n ?_))
    · have hng : ¬ Mv xs f t r := fun h => absurd h.2 aA
      rw [show mvL xs f t r = [] from by simp [mvL, hng], show decide (Mv xs f t r) = false from by simp [hng]]
      exact aR
    · have hgo : Mv xs f t r := ⟨hm, by assumption⟩
      (first | refine ret_T rfl rfl rfl (by first | exact trivial | (repeat' (first | exact trivial | refine ⟨by assumption, ?_⟩))) (by repeat' (first | exact trivial | refine ⟨by simp, ?_⟩)) ?_ | refine ret_A rfl rfl rfl (by first | exact trivial | (repeat' (first | exact trivial | refine ⟨by assumption, ?_⟩))) (by repeat' (first | exact trivial | refine ⟨by simp, ?_⟩)) ?_); (repeat' (first | exact et_end | exact el_end | refine et_int rfl ?_ ?_ | refine et_bool ?_ ?_ | refine et_str ?_ ?_ | refine et_list (by rfl) (by decide) rfl rfl ?_ ?_ ?_ ?_ | refine et_nil ?_ ?_ | refine et_agg ?_ ?_ | refine el_int rfl ?_ ?_ | refine el_bool ?_ ?_ | refine el_str ?_ ?_ | refine el_list (by rfl) (by decide) rfl rfl ?_ ?_ ?_ ?_ | refine el_nil ?_ ?_))
      · simp
      · have hq := Camp.flat (moved xs f t r)
        rw [hes] at hq
        exact hq
      · exact hes.symm.trans (by simp [mvL, hgo])
      · simp [hgo]
  · have hmv : ¬ Mv xs f t r := fun h => hm h.1
    have hmo : mvL xs f t r = [] := by simp [mvL, hmv]
    rw [hmo, show decide (Mv xs f t r) = false from by simp [hmv]]
    unfold Movable at hm
    repeat' (first
      | (refine g_exec ?_; first | (refine g_move ?_; refine x_moveO _ rfl ?_) | (refine g_assign ?_; refine x_assignO _ rfl ?_) | (refine g_bin ?_; first | (refine x_add rfl rfl aO ?_) | (refine x_sub rfl rfl aO ?_) | (refine x_bin _ rfl rfl rfl ?_) | (refine x_boolEq aA rfl rfl ?_) | (refine x_strBin _ rfl rfl rfl ?_)) | (refine g_un ?_; first | (refine x_not rfl ?_) | (refine x_neg rfl aO ?_)) | (refine g_load ?_; first | (refine x_load_pc aA rfl ?_) | (refine x_load_oc _ aA rfl rfl aE rfl ?_) | (refine x_load_pa _ aA rfl aZ aL ?_) | (refine x_load_oa _ aA rfl rfl aE aZ aL ?_)) | (refine g_field ?_; first | (refine x_field_p _ aA rfl aL ?_) | (refine x_field_o _ aA rfl rfl (by simp only [lx, Nat.reduceAdd]; first | done | rfl) ?_)) | (refine g_index ?_; first | (refine x_index_l _ aA rfl rfl aO aA ?_) | (refine x_index_o _ aA rfl rfl rfl rfl aO aO (by first | (rw [Nat.zero_add, Int.toNat_natCast]) | (rw [Nat.zero_add]) | rfl) ?_)) | (refine g_pick ?_; first | (refine x_pick_b rfl aD rfl ?_) | (refine x_pick_c rfl aD ?_) | (refine x_pick_a rfl aD ?_) | (refine x_pick_d rfl aD rfl ?_)) | (refine g_guard ?_; first | (refine x_gyes rfl rfl aD ?_) | (refine x_gno rfl rfl aD ?_) | (refine x_gun rfl rfl ?_) | (refine x_gsplit rfl rfl (fun h => ?_) (fun h => ?_) <;> (have h' := h; (try simp only [sx] at h')))) | (refine g_call ?_; first | (refine x_callG true (k_campAt xs f hn) rfl rfl rfl aS rfl aH ?_; simp only [cl]) | (refine x_callG true (k_campAt xs t hn) rfl rfl rfl aS rfl aH ?_; simp only [cl]) | (refine x_callG true (k_iAreCamps xs hn) rfl rfl rfl aS rfl aH ?_; simp only [cl]) | (refine x_callG true (k_in r 1 5000) rfl rfl rfl aS rfl aH ?_; simp only [cl])) | (refine x_storeO _ _ _ rfl rfl aE (by first | assumption | (exact TAgg.size aA)) rfl rfl rfl aZ rfl aL (by first | (first | (simp only [lx, Nat.reduceAdd]; first | done | rfl) | fail) | rfl) ?_) | (refine x_nil (hK _ _ (.inl rfl) ?_); clear hK K) | (refine x_nil (hK _ _ (.inr (by kernel_rfl)) ?_); clear hK K))
      | (refine g_code ?_; first | (refine v_seq ?_) | (refine v_region (fun K hK => ?_)) | (refine v_block ?_) | (refine v_skip ?_) | (refine v_ret ?_) | (refine v_exit ?_) | (refine g_cond ?_; first | (refine v_cond_y rfl aD ?_) | (refine v_cond_n rfl aD ?_) | (refine v_condt rfl (fun h => ?_) (fun h => ?_) <;> (have h' := h; (try simp only [sx] at h')))))
      | (refine q_then ?_) | (refine q_then_r ?_) | (refine q_then_e ?_) | (refine q_blk_n ?_) | (refine q_blk_r ?_) | (refine q_blk_e ?_) | (refine q_blk_o rfl ?_) | (refine q_loop_r ?_) | (refine q_loop_e ?_) | (refine ret_n ?_))
    all_goals first
      | (exfalso; exact hm ⟨by assumption, by omega, by omega, by assumption, by assumption⟩)
      | exact aR
theorem k_sMove (xs : List Camp) (f t r : Int) (hn : xs.length ≤ 1099511627776) : Con Tryz.prog 21 [.list 3 (xs.map Camp.pv), .int .i64 f, .int .i64 t, .int .i64 r] (.tuple [.olist 34 3 ((mvL xs f t r).map Camp.pv), .bool (decide (Mv xs f t r))]) := by
  intro al
  refine contract_of hmix Tryz.func21 rfl (by kernel_rfl) (by kernel_rfl) (Nat.le_of_ble_eq_true rfl) (fun row h => by cases h) ?_
  have hty_u24 := ty_u24
  have hty_s24 := ty_s24
  have hty_f34_1 := ty_f34_1
  have hty_c3 := ty_c3
  have hty_f34_2 := ty_f34_2
  have hty_st34 := ty_st34
  have hty_t34 := ty_t34
  have hty_a34 := ty_a34
  have hl1 : (xs.map Camp.pv).length = xs.length := by simp
  by_cases hm : Movable xs f t r
  · have hg := hm.1
    obtain ⟨i, a, hfi, hia, haf⟩ := fnd_at hm.2.1
    obtain ⟨k, b, hfk, hkb, hbt⟩ := fnd_at hm.2.2.1
    have hne : i ≠ k := fun e => hm.2.2.2.1 (by rw [hfi, hfk, e])
    have hr := hm.2.2.2.2
    have h1 := good_one hg hia
    have h2 := good_one hg hkb
    have hi := get_lt hia
    have hk := get_lt hkb
    unfold One at h1 h2
    have hx := Camp.at hia
    have hy := Camp.at hkb
    have k1 := k_l23Find xs f hn
    have k2 := k_l23Find xs t hn
    have k3 := k_l23Good xs hn
    rw [hfi] at k1
    rw [hfk] at k2
    rw [show decide (Good xs) = true from by simp [hg]] at k3
    have k4 := k_l1In r 1 5000
    rw [show (decide ((1 : Int) ≤ r) && decide (r ≤ 5000)) = true from by simp; omega] at k4
    have hmv : moved xs f t r = (xs.set i ⟨a.id, a.people, a.stock - r⟩).set k ⟨b.id, b.people, b.stock + r⟩ := by
      simp only [moved, hfi, hfk, Int.toNat_natCast, getD_of hia, getD_of hkb, haf, hbt]
    have k5 := k_l23Good (moved xs f t r) (by rw [hmv]; simpa using hn)
    have hes : (moved xs f t r).map Camp.pv = ((xs.map Camp.pv).set i [.int .i64 a.id, .int .i64 a.people, .int .i64 (a.stock - r)]).set k [.int .i64 b.id, .int .i64 b.people, .int .i64 (b.stock + r)] := by
      rw [hmv]; simp [List.map_set]
    rw [haf, hbt] at hes
    rw [hes] at k5
    repeat' (first
      | (refine g_exec ?_; first | (refine g_move ?_; refine x_moveO _ rfl ?_) | (refine g_assign ?_; refine x_assignO _ rfl ?_) | (refine g_bin ?_; first | (refine x_add rfl rfl aO ?_) | (refine x_sub rfl rfl aO ?_) | (refine x_bin _ rfl rfl rfl ?_) | (refine x_boolEq aA rfl rfl ?_) | (refine x_strBin _ rfl rfl rfl ?_)) | (refine g_un ?_; first | (refine x_not rfl ?_) | (refine x_neg rfl aO ?_)) | (refine g_load ?_; first | (refine x_load_pc aA rfl ?_) | (refine x_load_oc _ aA rfl rfl aE rfl ?_) | (refine x_load_pa _ aA rfl aZ aL ?_) | (refine x_load_oa _ aA rfl rfl aE aZ aL ?_)) | (refine g_field ?_; first | (refine x_field_p _ aA rfl aL ?_) | (refine x_field_o _ aA rfl rfl (by simp only [lx, Nat.reduceAdd]; first | done | rfl) ?_)) | (refine g_index ?_; first | (refine x_index_l _ aA rfl rfl aO aA ?_) | (refine x_index_o _ aA rfl rfl rfl rfl aO aO (by first | (rw [Nat.zero_add, Int.toNat_natCast]) | (rw [Nat.zero_add]) | rfl) ?_)) | (refine g_pick ?_; first | (refine x_pick_b rfl aD rfl ?_) | (refine x_pick_c rfl aD ?_) | (refine x_pick_a rfl aD ?_) | (refine x_pick_d rfl aD rfl ?_)) | (refine g_guard ?_; first | (refine x_gyes rfl rfl aD ?_) | (refine x_gno rfl rfl aD ?_) | (refine x_gun rfl rfl ?_) | (refine x_gsplit rfl rfl (fun h => ?_) (fun h => ?_) <;> (have h' := h; (try simp only [sx] at h')))) | (refine g_call ?_; first | (refine x_callG true (k1) rfl rfl rfl aS rfl aH ?_; simp only [cl]) | (refine x_callG true (k2) rfl rfl rfl aS rfl aH ?_; simp only [cl]) | (refine x_callG true (k3) rfl rfl rfl aS rfl aH ?_; simp only [cl]) | (refine x_callG true (k4) rfl rfl rfl aS rfl aH ?_; simp only [cl]) | (refine x_callG true (k5) rfl rfl rfl aS rfl aH ?_; simp only [cl]) | (refine x_appOO _ _ aA rfl (lookM (by rfl)) rfl (lookM (by rfl)) rfl aN ⟨rfl, rfl, by decide, by decide⟩ (by first | rfl | omega | (simp; done) | (simp; omega) | fail) ⟨by first | (simp only [List.length_cons, List.length_nil]; omega) | omega | fail, by decide⟩ rfl (by first | (first | (simp only [lx, Nat.reduceAdd]; first | done | rfl) | fail) | rfl) aP ?_) | (refine x_appCO _ _ aA rfl rfl (lookM (by rfl)) ⟨rfl, by decide⟩ aN (by first | exact Nat.succ_pos _ | omega | (simp; done)) ⟨by first | (simp only [List.length_cons, List.length_nil]; omega) | omega | fail, by decide⟩ rfl rfl aP ?_) | (refine x_appNO _ aA rfl rfl (lookM (by rfl)) ⟨rfl, by decide⟩ aN ⟨by first | (simp only [List.length_cons, List.length_nil]; omega) | omega | fail, by decide⟩ rfl aP ?_) | (refine x_app_ol _ aA rfl rfl rfl ⟨rfl, rfl, rfl, by decide, by decide⟩ (by first | rfl | (simp; done) | fail) ⟨by omega, by decide⟩ rfl aL (by first | (rw [Nat.zero_add]) | rfl) ?_)) | (refine x_buildSliceO aA rfl rfl rfl ?_) | (refine x_buildO _ _ aA rfl rfl (by simp [buildPV, PV.cells]; first | done | rfl) ?_) | (refine x_storeO _ _ _ rfl rfl aE (by first | assumption | (exact TAgg.size aA)) rfl rfl rfl aZ rfl aL (by first | (first | (simp only [lx, Nat.reduceAdd]; first | done | rfl) | fail) | rfl) ?_) | (refine x_nil (hK _ _ (.inl rfl) ?_); clear hK K) | (refine x_nil (hK _ _ (.inr (by kernel_rfl)) ?_); clear hK K))
      | (refine g_code ?_; first | (refine v_seq ?_) | (refine v_region (fun K hK => ?_)) | (refine v_block ?_) | (refine v_skip ?_) | (refine v_ret ?_) | (refine v_exit ?_) | (refine g_cond ?_; first | (refine v_cond_y rfl aD ?_) | (refine v_cond_n rfl aD ?_) | (refine v_condt rfl (fun h => ?_) (fun h => ?_) <;> (have h' := h; (try simp only [sx] at h')))))
      | (refine q_then ?_) | (refine q_then_r ?_) | (refine q_then_e ?_) | (refine q_blk_n ?_) | (refine q_blk_r ?_) | (refine q_blk_e ?_) | (refine q_blk_o rfl ?_) | (refine q_loop_r ?_) | (refine q_loop_e ?_) | (refine ret_n ?_))
    · have hng : ¬ Mv xs f t r := fun h => absurd h.2 aA
      rw [show mvL xs f t r = [] from by simp [mvL, hng], show decide (Mv xs f t r) = false from by simp [hng]]
      exact aR
    · have hgo : Mv xs f t r := ⟨hm, by assumption⟩
      (first | refine ret_T rfl rfl rfl (by first | exact trivial | (repeat' (first | exact trivial | refine ⟨by assumption, ?_⟩))) (by repeat' (first | exact trivial | refine ⟨by simp, ?_⟩)) ?_ | refine ret_A rfl rfl rfl (by first | exact trivial | (repeat' (first | exact trivial | refine ⟨by assumption, ?_⟩))) (by repeat' (first | exact trivial | refine ⟨by simp, ?_⟩)) ?_); (repeat' (first | exact et_end | exact el_end | refine et_int rfl ?_ ?_ | refine et_bool ?_ ?_ | refine et_str ?_ ?_ | refine et_list (by rfl) (by decide) rfl rfl ?_ ?_ ?_ ?_ | refine et_nil ?_ ?_ | refine et_agg ?_ ?_ | refine el_int rfl ?_ ?_ | refine el_bool ?_ ?_ | refine el_str ?_ ?_ | refine el_list (by rfl) (by decide) rfl rfl ?_ ?_ ?_ ?_ | refine el_nil ?_ ?_))
      · simp
      · have hq := Camp.flat (moved xs f t r)
        rw [hes] at hq
        exact hq
      · exact hes.symm.trans (by simp [mvL, hgo])
      · simp [hgo]
  · have hmv : ¬ Mv xs f t r := fun h => hm h.1
    have hmo : mvL xs f t r = [] := by simp [mvL, hmv]
    rw [hmo, show decide (Mv xs f t r) = false from by simp [hmv]]
    unfold Movable at hm
    repeat' (first
      | (refine g_exec ?_; first | (refine g_move ?_; refine x_moveO _ rfl ?_) | (refine g_assign ?_; refine x_assignO _ rfl ?_) | (refine g_bin ?_; first | (refine x_add rfl rfl aO ?_) | (refine x_sub rfl rfl aO ?_) | (refine x_bin _ rfl rfl rfl ?_) | (refine x_boolEq aA rfl rfl ?_) | (refine x_strBin _ rfl rfl rfl ?_)) | (refine g_un ?_; first | (refine x_not rfl ?_) | (refine x_neg rfl aO ?_)) | (refine g_load ?_; first | (refine x_load_pc aA rfl ?_) | (refine x_load_oc _ aA rfl rfl aE rfl ?_) | (refine x_load_pa _ aA rfl aZ aL ?_) | (refine x_load_oa _ aA rfl rfl aE aZ aL ?_)) | (refine g_field ?_; first | (refine x_field_p _ aA rfl aL ?_) | (refine x_field_o _ aA rfl rfl (by simp only [lx, Nat.reduceAdd]; first | done | rfl) ?_)) | (refine g_index ?_; first | (refine x_index_l _ aA rfl rfl aO aA ?_) | (refine x_index_o _ aA rfl rfl rfl rfl aO aO (by first | (rw [Nat.zero_add, Int.toNat_natCast]) | (rw [Nat.zero_add]) | rfl) ?_)) | (refine g_pick ?_; first | (refine x_pick_b rfl aD rfl ?_) | (refine x_pick_c rfl aD ?_) | (refine x_pick_a rfl aD ?_) | (refine x_pick_d rfl aD rfl ?_)) | (refine g_guard ?_; first | (refine x_gyes rfl rfl aD ?_) | (refine x_gno rfl rfl aD ?_) | (refine x_gun rfl rfl ?_) | (refine x_gsplit rfl rfl (fun h => ?_) (fun h => ?_) <;> (have h' := h; (try simp only [sx] at h')))) | (refine g_call ?_; first | (refine x_callG true (k_l23Find xs f hn) rfl rfl rfl aS rfl aH ?_; simp only [cl]) | (refine x_callG true (k_l23Find xs t hn) rfl rfl rfl aS rfl aH ?_; simp only [cl]) | (refine x_callG true (k_l23Good xs hn) rfl rfl rfl aS rfl aH ?_; simp only [cl]) | (refine x_callG true (k_l1In r 1 5000) rfl rfl rfl aS rfl aH ?_; simp only [cl]) | (refine x_appOO _ _ aA rfl (lookM (by rfl)) rfl (lookM (by rfl)) rfl aN ⟨rfl, rfl, by decide, by decide⟩ (by first | rfl | omega | (simp; done) | (simp; omega) | fail) ⟨by first | (simp only [List.length_cons, List.length_nil]; omega) | omega | fail, by decide⟩ rfl (by first | (first | (simp only [lx, Nat.reduceAdd]; first | done | rfl) | fail) | rfl) aP ?_) | (refine x_appCO _ _ aA rfl rfl (lookM (by rfl)) ⟨rfl, by decide⟩ aN (by first | exact Nat.succ_pos _ | omega | (simp; done)) ⟨by first | (simp only [List.length_cons, List.length_nil]; omega) | omega | fail, by decide⟩ rfl rfl aP ?_) | (refine x_appNO _ aA rfl rfl (lookM (by rfl)) ⟨rfl, by decide⟩ aN ⟨by first | (simp only [List.length_cons, List.length_nil]; omega) | omega | fail, by decide⟩ rfl aP ?_) | (refine x_app_ol _ aA rfl rfl rfl ⟨rfl, rfl, rfl, by decide, by decide⟩ (by first | rfl | (simp; done) | fail) ⟨by omega, by decide⟩ rfl aL (by first | (rw [Nat.zero_add]) | rfl) ?_)) | (refine x_buildSliceO aA rfl rfl rfl ?_) | (refine x_buildO _ _ aA rfl rfl (by simp [buildPV, PV.cells]; first | done | rfl) ?_) | (refine x_storeO _ _ _ rfl rfl aE (by first | assumption | (exact TAgg.size aA)) rfl rfl rfl aZ rfl aL (by first | (first | (simp only [lx, Nat.reduceAdd]; first | done | rfl) | fail) | rfl) ?_) | (refine x_nil (hK _ _ (.inl rfl) ?_); clear hK K) | (refine x_nil (hK _ _ (.inr (by kernel_rfl)) ?_); clear hK K))
      | (refine g_code ?_; first | (refine v_seq ?_) | (refine v_region (fun K hK => ?_)) | (refine v_block ?_) | (refine v_skip ?_) | (refine v_ret ?_) | (refine v_exit ?_) | (refine g_cond ?_; first | (refine v_cond_y rfl aD ?_) | (refine v_cond_n rfl aD ?_) | (refine v_condt rfl (fun h => ?_) (fun h => ?_) <;> (have h' := h; (try simp only [sx] at h')))))
      | (refine q_then ?_) | (refine q_then_r ?_) | (refine q_then_e ?_) | (refine q_blk_n ?_) | (refine q_blk_r ?_) | (refine q_blk_e ?_) | (refine q_blk_o rfl ?_) | (refine q_loop_r ?_) | (refine q_loop_e ?_) | (refine ret_n ?_))
    all_goals first
      | (exfalso; exact hm ⟨by assumption, by omega, by omega, by assumption, by assumption⟩)
      | exact aR
end Go.Vs
