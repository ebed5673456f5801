/- Parts of a proof: what its last text mentions. -/
import Derived.Test.YtaoadjbjpagdoaaCxj
set_option linter.unusedVariables false
set_option linter.unusedSimpArgs false
set_option maxRecDepth 100000
set_option maxHeartbeats 4000000
namespace Go.Vs
open Go.Proofs
attribute [local irreducible] exec vwp thenQ blkQ loopQ RetPost
def OneC (t : Terrain) (c : Cut) : Prop := IsCell t c.cell ∧ 0 < burnAt t c.cell ∧ 0 ≤ c.tick ∧ c.tick ≤ 9999
instance (t : Terrain) (c : Cut) : Decidable (OneC t c) := by unfold OneC; infer_instance
def c0 : Cut := ⟨0, 0⟩
def OkC (t : Terrain) (cs : List Cut) (j : Nat) : Prop := OneC t (cs.getD j c0) ∧ (0 < j → (cs.getD (j - 1) c0).cell < (cs.getD j c0).cell)
instance (t : Terrain) (cs : List Cut) (j : Nat) : Decidable (OkC t cs j) := by unfold OkC; infer_instance
def LstC (t : Terrain) (cs : List Cut) : Prop := (∀ j, j < cs.length → OkC t cs j) ∧ cs.length ≤ 8
instance (t : Terrain) (cs : List Cut) : Decidable (LstC t cs) := by unfold LstC; infer_instance
def GoodC (t : Terrain) (cs : List Cut) : Prop := GoodT t ∧ LstC t cs
instance (t : Terrain) (cs : List Cut) : Decidable (GoodC t cs) := by unfold GoodC; infer_instance
theorem getC {cs : List Cut} {i : Nat} {a : Cut} (h : cs[i]? = some a) : cs.getD i c0 = a := by simp [List.getD_eq_getElem?_getD, h]
theorem not_lstC {t : Terrain} {cs : List Cut} {i : Nat} (hi : i < cs.length) (h : ¬ OkC t cs i) : ¬ LstC t cs := fun hg => h (hg.1 i hi)
theorem okC_step {t : Terrain} {cs : List Cut} {i : Nat} (h : ∀ j, j < i → OkC t cs j) (hi : OkC t cs i) : ∀ j, j < i + 1 → OkC t cs j := fun j hj => by
  rcases Nat.lt_or_ge j i with h1 | h1
  · exact h j h1
  · have : j = i := by omega
    rw [this]; exact hi
theorem LstC.one {t : Terrain} {cs : List Cut} (h : LstC t cs) : ∀ c ∈ cs, OneC t c := fun c hc => by
  obtain ⟨i, hi⟩ := List.getElem?_of_mem hc
  have := (h.1 i (get_lt hi)).1
  rwa [getC hi] at this
theorem k_l25Good (t : Terrain) (cs : List Cut) (hn : t.burn.length ≤ 1099511627776) (hm : cs.length ≤ 1099511627776) : Con Try.prog 29 [.agg t.pv, .list 2 (cs.map Cut.pv)] (.bool (decide (GoodC t cs))) := by
  intro al
  refine contract_of hmix Try.func29 rfl (by kernel_rfl) (by kernel_rfl) (Nat.le_of_ble_eq_true rfl) (fun row h => by cases h) ?_
  have hty_u30 := ty_u30
  have hty_s30 := ty_s30
  have hty_a26 := ty_a26
  have hty_f38_0 := ty_f38_0
  have hty_c3 := ty_c3
  have hty_f38_1 := ty_f38_1
  have hty_f26_2 := ty_f26_2
  have hty_c24 := ty_c24
  have hty_s24 := ty_s24
  have hl1 : (cs.map Cut.pv).length = cs.length := by simp
  have hl2 : (ints t.burn).length = t.burn.length := by simp
  by_cases hg : GoodT t
  · have kG := k_l2Good t hn
    rw [decide_eq_true hg] at kG
    have eG : decide (GoodC t cs) = decide (LstC t cs) := by simp [GoodC, hg]
    rw [eG]
    repeat' (first | (refine pA (k := ?_)) | (refine g_exec ?_; first | (refine g_guard ?_; refine x_gsplit rfl rfl (fun h => ?_) (fun h => ?_) <;> (have h' := h; try simp only [sx] at h')) | (refine x_nil (hK _ _ aI ?_); clear hK K)) | (refine v_region (fun K hK => ?_)) | (refine v_condt rfl (fun h => ?_) (fun h => ?_) <;> (have h' := h; try simp only [sx] at h')))
    refine v_loopK [1, 2] [] (fun i : Nat => [(5, .int .i64 i)]) (fun i : Nat => []) (fun i : Nat => i ≤ cs.length ∧ ∀ j, j < i → OkC t cs j) (fun i : Nat => cs.length - i) (0) rfl rfl (fun _ => rfl) (fun _ => rfl) rfl (by refine ⟨?_, ?_, rfl, rfl⟩ <;> (repeat' (first | exact trivial | exact ⟨rfl, rfl⟩ | exact rfl | exact ⟨sub_fn, refs_fn⟩ | refine ⟨⟨rfl, rfl⟩, ?_⟩ | refine ⟨⟨sub_fn, refs_fn⟩, ?_⟩ | refine ⟨⟨rfl, fun h => Bool.noConfusion h⟩, ?_⟩ | refine ⟨⟨rfl, fun h => ?_⟩, ?_⟩ | refine ⟨rfl, ?_⟩ | refine ⟨?_, ?_⟩ | fail))) ⟨by omega, fun j hj => by omega⟩ (fun i hi => ?_)
    obtain ⟨hi1, hi2⟩ := hi
    rcases Nat.lt_or_ge i cs.length with hlt | hge
    · obtain ⟨a, hga⟩ := get_ex hlt
      have hx := Cut.at hga
      have hd := getC hga
      have kC := k_l2Cell t a.cell hn
      by_cases hc : IsCell t a.cell
      · rw [decide_eq_true (show GoodT t ∧ IsCell t a.cell from ⟨hg, hc⟩)] at kC
        have hb := ints_at (burn_at hc)
        have bb := burn_bound hg hc
        have hcc := hc
        unfold IsCell at hcc
        by_cases hi0 : 0 < i
        · obtain ⟨b, hgb⟩ := get_ex (show i - 1 < cs.length by omega)
          have hy := Cut.at hgb
          have hd' := getC hgb
          have e1 : ((i : Int) - 1).toNat = i - 1 := by omega
          rw [← e1] at hy
          repeat' (first | (refine pA (k := ?_)) | (refine g_exec ?_; first | (refine g_call ?_; first | (refine x_callG true (kC) rfl rfl rfl aS rfl aH ?_; simp only [cl]) | (refine x_callG true (k_l4Tick _) rfl rfl rfl aS rfl aH ?_; simp only [cl])) | (refine g_guard ?_; refine x_gsplit rfl rfl (fun h => ?_) (fun h => ?_) <;> (have h' := h; try simp only [sx] at h')) | (refine x_nil (hK _ _ aI ?_); clear hK K)) | (refine v_region (fun K hK => ?_)) | (refine v_condt rfl (fun h => ?_) (fun h => ?_) <;> (have h' := h; try simp only [sx] at h')))
          all_goals first
            | (refine q_next (i + 1) rfl (by refine ⟨?_, ?_, rfl, rfl⟩ <;> (repeat' (first | exact trivial | exact ⟨rfl, rfl⟩ | exact rfl | exact ⟨sub_fn, refs_fn⟩ | refine ⟨⟨rfl, rfl⟩, ?_⟩ | refine ⟨⟨sub_fn, refs_fn⟩, ?_⟩ | refine ⟨⟨rfl, fun h => Bool.noConfusion h⟩, ?_⟩ | refine ⟨⟨rfl, fun h => ?_⟩, ?_⟩ | refine ⟨rfl, ?_⟩ | refine ⟨?_, ?_⟩ | fail))) ⟨by omega, okC_step hi2 ?_⟩ aO; unfold OkC; rw [hd, hd']; exact ⟨⟨hc, by omega, by omega, by omega⟩, fun _ => by omega⟩)
            | (refine ret_bool rfl (lookE_ok rfl) ?_
               have : ¬ LstC t cs := not_lstC hlt (fun hk => by
                 unfold OkC OneC at hk
                 rw [hd, hd'] at hk
                 have := hk.2 hi0
                 omega)
               simp [this])
        · repeat' (first | (refine pA (k := ?_)) | (refine g_exec ?_; first | (refine g_call ?_; first | (refine x_callG true (kC) rfl rfl rfl aS rfl aH ?_; simp only [cl]) | (refine x_callG true (k_l4Tick _) rfl rfl rfl aS rfl aH ?_; simp only [cl])) | (refine g_guard ?_; refine x_gsplit rfl rfl (fun h => ?_) (fun h => ?_) <;> (have h' := h; try simp only [sx] at h')) | (refine x_nil (hK _ _ aI ?_); clear hK K)) | (refine v_region (fun K hK => ?_)) | (refine v_condt rfl (fun h => ?_) (fun h => ?_) <;> (have h' := h; try simp only [sx] at h')))
          all_goals first
            | (refine q_next (i + 1) rfl (by refine ⟨?_, ?_, rfl, rfl⟩ <;> (repeat' (first | exact trivial | exact ⟨rfl, rfl⟩ | exact rfl | exact ⟨sub_fn, refs_fn⟩ | refine ⟨⟨rfl, rfl⟩, ?_⟩ | refine ⟨⟨sub_fn, refs_fn⟩, ?_⟩ | refine ⟨⟨rfl, fun h => Bool.noConfusion h⟩, ?_⟩ | refine ⟨⟨rfl, fun h => ?_⟩, ?_⟩ | refine ⟨rfl, ?_⟩ | refine ⟨?_, ?_⟩ | fail))) ⟨by omega, okC_step hi2 ?_⟩ aO; unfold OkC; rw [hd]; exact ⟨⟨hc, by omega, by omega, by omega⟩, fun h0 => absurd h0 hi0⟩)
            | (refine ret_bool rfl (lookE_ok rfl) ?_
               have : ¬ LstC t cs := not_lstC hlt (fun hk => by
                 unfold OkC OneC at hk
                 rw [hd] at hk
                 omega)
               simp [this])
      · rw [decide_eq_false (fun h => hc h.2)] at kC
        have : ¬ LstC t cs := not_lstC hlt (fun hk => by
          unfold OkC OneC at hk
          rw [hd] at hk
          exact hc hk.1.1)
        repeat' (first | (refine pA (k := ?_)) | (refine g_exec ?_; first | (refine g_call ?_; first | (refine x_callG true (kC) rfl rfl rfl aS rfl aH ?_; simp only [cl]) | (refine x_callG true (k_l4Tick _) rfl rfl rfl aS rfl aH ?_; simp only [cl])) | (refine g_guard ?_; refine x_gsplit rfl rfl (fun h => ?_) (fun h => ?_) <;> (have h' := h; try simp only [sx] at h')) | (refine x_nil (hK _ _ aI ?_); clear hK K)) | (refine v_region (fun K hK => ?_)) | (refine v_condt rfl (fun h => ?_) (fun h => ?_) <;> (have h' := h; try simp only [sx] at h')))
        exact ret_bool rfl (lookE_ok rfl) (by simp [this])
    · repeat' (first | (refine pA (k := ?_)) | (refine g_exec ?_; first | (refine g_call ?_; refine x_callG true (kG) rfl rfl rfl aS rfl aH ?_; simp only [cl]) | (refine g_guard ?_; refine x_gsplit rfl rfl (fun h => ?_) (fun h => ?_) <;> (have h' := h; try simp only [sx] at h')) | (refine x_nil (hK _ _ aI ?_); clear hK K)) | (refine v_region (fun K hK => ?_)) | (refine v_condt rfl (fun h => ?_) (fun h => ?_) <;> (have h' := h; try simp only [sx] at h')))
      all_goals
        (refine ret_bool rfl (lookE_ok rfl) ?_; rw [Bool.eq_iff_iff]; try simp only [sx] at *)
        constructor
        · intro h
          exact ⟨fun j hj => hi2 j aO, by omega⟩
        · intro h
          have := h.2
          omega
  · have kG := k_l2Good t hn
    rw [decide_eq_false hg] at kG
    rw [decide_eq_false (fun h : GoodC t cs => hg h.1)]
    repeat' (first | (refine pA (k := ?_)) | (refine g_exec ?_; first | (refine g_guard ?_; refine x_gsplit rfl rfl (fun h => ?_) (fun h => ?_) <;> (have h' := h; try simp only [sx] at h')) | (refine x_nil (hK _ _ aI ?_); clear hK K)) | (refine v_region (fun K hK => ?_)) | (refine v_condt rfl (fun h => ?_) (fun h => ?_) <;> (have h' := h; try simp only [sx] at h')))
    refine v_loopK [1, 2] [] (fun i : Nat => [(5, .int .i64 i)]) (fun i : Nat => []) (fun i : Nat => i ≤ cs.length) (fun i : Nat => cs.length - i) (0) rfl rfl (fun _ => rfl) (fun _ => rfl) rfl (by refine ⟨?_, ?_, rfl, rfl⟩ <;> (repeat' (first | exact trivial | exact ⟨rfl, rfl⟩ | exact rfl | exact ⟨sub_fn, refs_fn⟩ | refine ⟨⟨rfl, rfl⟩, ?_⟩ | refine ⟨⟨sub_fn, refs_fn⟩, ?_⟩ | refine ⟨⟨rfl, fun h => Bool.noConfusion h⟩, ?_⟩ | refine ⟨⟨rfl, fun h => ?_⟩, ?_⟩ | refine ⟨rfl, ?_⟩ | refine ⟨?_, ?_⟩ | fail))) aO (fun i hi => ?_)
    rcases Nat.lt_or_ge i cs.length with hlt | hge
    · obtain ⟨a, hga⟩ := get_ex hlt
      have hx := Cut.at hga
      have kC := k_l2Cell t a.cell hn
      rw [decide_eq_false (fun h => hg h.1)] at kC
      repeat' (first | (refine pA (k := ?_)) | (refine g_exec ?_; first | (refine g_call ?_; first | (refine x_callG true (kC) rfl rfl rfl aS rfl aH ?_; simp only [cl]) | (refine x_callG true (k_l4Tick _) rfl rfl rfl aS rfl aH ?_; simp only [cl])) | (refine g_guard ?_; refine x_gsplit rfl rfl (fun h => ?_) (fun h => ?_) <;> (have h' := h; try simp only [sx] at h')) | (refine x_nil (hK _ _ aI ?_); clear hK K)) | (refine v_region (fun K hK => ?_)) | (refine v_condt rfl (fun h => ?_) (fun h => ?_) <;> (have h' := h; try simp only [sx] at h')))
      exact ret_bool rfl (lookE_ok rfl) rfl
    · repeat' (first | (refine pA (k := ?_)) | (refine g_exec ?_; first | (refine g_call ?_; refine x_callG true (kG) rfl rfl rfl aS rfl aH ?_; simp only [cl]) | (refine g_guard ?_; refine x_gsplit rfl rfl (fun h => ?_) (fun h => ?_) <;> (have h' := h; try simp only [sx] at h')) | (refine x_nil (hK _ _ aI ?_); clear hK K)) | (refine v_region (fun K hK => ?_)) | (refine v_condt rfl (fun h => ?_) (fun h => ?_) <;> (have h' := h; try simp only [sx] at h')))
      exact ret_bool rfl (lookE_ok rfl) rfl
theorem k_AreCuts1 (t : Terrain) (c : Cut) (hg : GoodT t) : Con Try.prog 56 [.agg c.pv, .ptr t.pv] (.bool (decide (OneC t c))) := by
  intro al
  refine contract_of hmix Try.func56 rfl (by kernel_rfl) (by kernel_rfl) (Nat.le_of_ble_eq_true rfl) (fun row h => by cases h) ?_
  have hty_a26 := ty_a26
  have hty_f38_0 := ty_f38_0
  have hty_c3 := ty_c3
  have hty_f38_1 := ty_f38_1
  have hlen := goodT_len hg
  have kI := k_isCell t c.cell aO
  by_cases hc : IsCell t c.cell
  · rw [decide_eq_true (show 0 ≤ c.cell ∧ c.cell < t.burn.length from hc)] at kI
    repeat' (first | (refine pA (k := ?_)) | (refine g_exec ?_; first | (refine g_call ?_; first | (refine x_callG true (kI) rfl rfl rfl aS rfl aH ?_; simp only [cl]) | (refine x_callG true (k_burns t c.cell hg hc) rfl rfl rfl aS rfl aH ?_; simp only [cl]) | (refine x_callG true (k_isTick _) rfl rfl rfl aS rfl aH ?_; simp only [cl])) | (refine g_guard ?_; refine x_gsplit rfl rfl (fun h => ?_) (fun h => ?_) <;> (have h' := h; try simp only [sx] at h')) | (refine x_nil (hK _ _ aI ?_); clear hK K)) | (refine v_region (fun K hK => ?_)))
    all_goals ((refine ret_bool rfl (lookE_ok rfl) ?_; rw [Bool.eq_iff_iff]; try simp only [sx] at *); unfold OneC; constructor <;> intro hq <;> first | contradiction | (exact ⟨hc, by omega, by omega, by omega⟩) | omega)
  · rw [decide_eq_false (show ¬ (0 ≤ c.cell ∧ c.cell < t.burn.length) from hc)] at kI
    have : ¬ OneC t c := fun h => hc h.1
    repeat' (first | (refine pA (k := ?_)) | (refine g_exec ?_; first | (refine g_call ?_; first | (refine x_callG true (kI) rfl rfl rfl aS rfl aH ?_; simp only [cl]) | (refine x_callG true (k_isTick _) rfl rfl rfl aS rfl aH ?_; simp only [cl])) | (refine g_guard ?_; refine x_gsplit rfl rfl (fun h => ?_) (fun h => ?_) <;> (have h' := h; try simp only [sx] at h')) | (refine x_nil (hK _ _ aI ?_); clear hK K)) | (refine v_region (fun K hK => ?_)))
    exact ret_bool rfl (lookE_ok rfl) (by simp [this])
theorem k_AreCuts2 (c : Cut) : Con Try.prog 58 [.agg c.pv] (.int .i64 c.cell) := by
  intro al
  refine contract_of hmix Try.func58 rfl (by kernel_rfl) (by kernel_rfl) (Nat.le_of_ble_eq_true rfl) (fun row h => by cases h) ?_
  have hty_f38_0 := ty_f38_0
  have hty_c3 := ty_c3
  repeat' (first | (refine pA (k := ?_)) | (refine g_exec ?_; refine x_nil (hK _ _ aI ?_); clear hK K) | (refine v_region (fun K hK => ?_)))
  exact ret_int rfl (lookE_ok rfl) rfl
theorem k_areListedCut (t : Terrain) (cs : List Cut) (hg : GoodT t) (hm : cs.length ≤ 1099511627776) : Con Try.prog 57 [.list 2 (cs.map Cut.pv), .int .i64 8, .fn 56 [] [.ptr t.pv], .fn 58 [] []] (.bool (decide (LstC t cs))) := by
  intro al
  refine contract_of hmix Try.func57 rfl (by kernel_rfl) (by kernel_rfl) (Nat.le_of_ble_eq_true rfl) (fun row h => by cases h) ?_
  have hty_u30 := ty_u30
  have hty_s30 := ty_s30
  have hty_a38 := ty_a38
  have hty_z38 := ty_z38
  have hty_t38 := ty_t38
  have hl1 : (cs.map Cut.pv).length = cs.length := by simp
  repeat' (first | (refine pA (k := ?_)) | (refine g_exec ?_; first | (refine g_guard ?_; refine x_gsplit rfl rfl (fun h => ?_) (fun h => ?_) <;> (have h' := h; try simp only [sx] at h')) | (refine x_nil (hK _ _ aI ?_); clear hK K)) | (refine v_region (fun K hK => ?_)) | (refine v_condt rfl (fun h => ?_) (fun h => ?_) <;> (have h' := h; try simp only [sx] at h')))
  refine v_loopK [0, 1, 2, 3, 11, 12] [] (fun i : Nat => [(13, .int .i64 i)]) (fun i : Nat => []) (fun i : Nat => i ≤ cs.length ∧ ∀ j, j < i → OkC t cs j) (fun i : Nat => cs.length - i) (0) rfl rfl (fun _ => rfl) (fun _ => rfl) rfl (by refine ⟨?_, ?_, rfl, rfl⟩ <;> (repeat' (first | exact trivial | exact ⟨rfl, rfl⟩ | exact rfl | exact ⟨sub_fn, refs_fn⟩ | refine ⟨⟨rfl, rfl⟩, ?_⟩ | refine ⟨⟨sub_fn, refs_fn⟩, ?_⟩ | refine ⟨⟨rfl, fun h => Bool.noConfusion h⟩, ?_⟩ | refine ⟨⟨rfl, fun h => ?_⟩, ?_⟩ | refine ⟨rfl, ?_⟩ | refine ⟨?_, ?_⟩ | fail))) ⟨by omega, fun j hj => by omega⟩ (fun i hi => ?_)
  obtain ⟨hi1, hi2⟩ := hi
  rcases Nat.lt_or_ge i cs.length with hlt | hge
  · obtain ⟨a, hga⟩ := get_ex hlt
    have hx := Cut.at hga
    have hd := getC hga
    by_cases hi0 : 0 < i
    · obtain ⟨b, hgb⟩ := get_ex (show i - 1 < cs.length by omega)
      have hy := Cut.at hgb
      have hd' := getC hgb
      have e1 : ((i : Int) - 1).toNat = i - 1 := by omega
      rw [← e1] at hy
      repeat' (first | (refine pA (k := ?_)) | (refine g_exec ?_; first | (refine g_call ?_; first | (refine x_callG true (k_AreCuts1 t a hg) rfl rfl rfl aS rfl aH ?_; simp only [cl]) | (refine x_callG true (k_AreCuts2 a) rfl rfl rfl aS rfl aH ?_; simp only [cl]) | (refine x_callG true (k_AreCuts2 b) rfl rfl rfl aS rfl aH ?_; simp only [cl])) | (refine g_guard ?_; refine x_gsplit rfl rfl (fun h => ?_) (fun h => ?_) <;> (have h' := h; try simp only [sx] at h')) | (refine x_nil (hK _ _ aI ?_); clear hK K)) | (refine v_region (fun K hK => ?_)) | (refine v_condt rfl (fun h => ?_) (fun h => ?_) <;> (have h' := h; try simp only [sx] at h')))
      all_goals first
        | (refine q_next (i + 1) rfl (by refine ⟨?_, ?_, rfl, rfl⟩ <;> (repeat' (first | exact trivial | exact ⟨rfl, rfl⟩ | exact rfl | exact ⟨sub_fn, refs_fn⟩ | refine ⟨⟨rfl, rfl⟩, ?_⟩ | refine ⟨⟨sub_fn, refs_fn⟩, ?_⟩ | refine ⟨⟨rfl, fun h => Bool.noConfusion h⟩, ?_⟩ | refine ⟨⟨rfl, fun h => ?_⟩, ?_⟩ | refine ⟨rfl, ?_⟩ | refine ⟨?_, ?_⟩ | fail))) ⟨by omega, okC_step hi2 ?_⟩ aO; unfold OkC; rw [hd, hd']; exact ⟨by assumption, fun _ => by omega⟩)
        | (refine ret_bool rfl (lookE_ok rfl) ?_
           have : ¬ LstC t cs := not_lstC hlt (fun hk => by
             unfold OkC at hk
             rw [hd, hd'] at hk
             first | exact absurd hk.1 aA | (have := hk.2 hi0; omega))
           simp [this])
    · repeat' (first | (refine pA (k := ?_)) | (refine g_exec ?_; first | (refine g_call ?_; first | (refine x_callG true (k_AreCuts1 t a hg) rfl rfl rfl aS rfl aH ?_; simp only [cl]) | (refine x_callG true (k_AreCuts2 a) rfl rfl rfl aS rfl aH ?_; simp only [cl])) | (refine g_guard ?_; refine x_gsplit rfl rfl (fun h => ?_) (fun h => ?_) <;> (have h' := h; try simp only [sx] at h')) | (refine x_nil (hK _ _ aI ?_); clear hK K)) | (refine v_region (fun K hK => ?_)) | (refine v_condt rfl (fun h => ?_) (fun h => ?_) <;> (have h' := h; try simp only [sx] at h')))
      all_goals first
        | (refine q_next (i + 1) rfl (by refine ⟨?_, ?_, rfl, rfl⟩ <;> (repeat' (first | exact trivial | exact ⟨rfl, rfl⟩ | exact rfl | exact ⟨sub_fn, refs_fn⟩ | refine ⟨⟨rfl, rfl⟩, ?_⟩ | refine ⟨⟨sub_fn, refs_fn⟩, ?_⟩ | refine ⟨⟨rfl, fun h => Bool.noConfusion h⟩, ?_⟩ | refine ⟨⟨rfl, fun h => ?_⟩, ?_⟩ | refine ⟨rfl, ?_⟩ | refine ⟨?_, ?_⟩ | fail))) ⟨by omega, okC_step hi2 ?_⟩ aO; unfold OkC; rw [hd]; exact ⟨by assumption, fun h0 => absurd h0 hi0⟩)
        | (refine ret_bool rfl (lookE_ok rfl) ?_
           have : ¬ LstC t cs := not_lstC hlt (fun hk => by
             unfold OkC at hk
             rw [hd] at hk
             first | exact absurd hk.1 aA | (have := hk.2 hi0; omega))
           simp [this])
  · repeat' (first | (refine pA (k := ?_)) | (refine g_exec ?_; first | (refine g_guard ?_; refine x_gsplit rfl rfl (fun h => ?_) (fun h => ?_) <;> (have h' := h; try simp only [sx] at h')) | (refine x_nil (hK _ _ aI ?_); clear hK K)) | (refine v_region (fun K hK => ?_)) | (refine v_condt rfl (fun h => ?_) (fun h => ?_) <;> (have h' := h; try simp only [sx] at h')))
    (refine ret_bool rfl (lookE_ok rfl) ?_; rw [Bool.eq_iff_iff]; try simp only [sx] at *)
    constructor
    · intro h
      exact ⟨fun j hj => hi2 j aO, by omega⟩
    · intro h
      have := h.2
      omega
theorem k_iAreCuts (t : Terrain) (cs : List Cut) (hn : t.burn.length ≤ 1099511627776) (hm : cs.length ≤ 1099511627776) : Con Try.prog 25 [.agg t.pv, .list 2 (cs.map Cut.pv)] (.bool (decide (GoodC t cs))) := by
  intro al
  refine contract_of hmix Try.func25 rfl (by kernel_rfl) (by kernel_rfl) (Nat.le_of_ble_eq_true rfl) (fun row h => by cases h) ?_
  have hty_a26 := ty_a26
  have hty_u30 := ty_u30
  have hty_s30 := ty_s30
  have kG := k_IsTerrain t hn
  by_cases hg : GoodT t
  · rw [decide_eq_true hg] at kG
    repeat' (first | (refine pA (k := ?_)) | (refine g_exec ?_; first | (refine g_call ?_; first | (refine x_callG true (kG) rfl rfl rfl aS rfl aH ?_; simp only [cl]) | (refine x_callG true (k_areListedCut t cs hg hm) rfl rfl rfl aS rfl aH ?_; simp only [cl])) | (refine g_guard ?_; refine x_gsplit rfl rfl (fun h => ?_) (fun h => ?_) <;> (have h' := h; try simp only [sx] at h')) | (refine x_nil (hK _ _ aI ?_); clear hK K)) | (refine v_region (fun K hK => ?_)))
    exact ret_bool rfl (lookE_ok rfl) (by simp [GoodC, hg])
  · rw [decide_eq_false hg] at kG
    repeat' (first | (refine pA (k := ?_)) | (refine g_exec ?_; first | (refine g_call ?_; refine x_callG true (kG) rfl rfl rfl aS rfl aH ?_; simp only [cl]) | (refine g_guard ?_; refine x_gsplit rfl rfl (fun h => ?_) (fun h => ?_) <;> (have h' := h; try simp only [sx] at h')) | (refine x_nil (hK _ _ aI ?_); clear hK K)) | (refine v_region (fun K hK => ?_)))
    exact ret_bool rfl (lookE_ok rfl) (by simp [GoodC, hg])
end Go.Vs
set_option linter.unusedVariables false
set_option linter.unusedSimpArgs false
set_option maxRecDepth 100000
set_option maxHeartbeats 4000000
namespace Go.Vs
open Go.Proofs
attribute [local irreducible] exec vwp thenQ blkQ loopQ RetPost
noncomputable section
def ltF (b : Blz) (c : Int) : Cut := ⟨c, if tv (arr b) c = -1 then 9999 else tv (arr b) c - 1⟩
def ltL (b : Blz) (cs : List Int) : List Cut := cs.map (ltF b)
theorem ltL_len (b : Blz) (cs : List Int) : (ltL b cs).length = cs.length := by simp [ltL]
theorem ltL_succ {b : Blz} {cs : List Int} {i : Nat} {c : Int} (h : cs[i]? = some c) : (ltL b (cs.take (i + 1))).map Cut.pv = (ltL b (cs.take i)).map Cut.pv ++ [(ltF b c).pv] := by simp only [ltL, map_take_succ _ h, List.map_append, List.map_cons, List.map_nil]
def SetOk (t : Terrain) (cs : List Int) : Prop := (∀ c ∈ cs, IsCell t c) ∧ Rising cs
instance (t : Terrain) (cs : List Int) : Decidable (SetOk t cs) := by unfold SetOk; infer_instance
def LtOk (b : Blz) (cs : List Int) : Prop := GoodB b ∧ SetOk b.t cs ∧ GoodC b.t (ltL b cs)
instance (b : Blz) (cs : List Int) : Decidable (LtOk b cs) := by unfold LtOk; infer_instance
def lcL (b : Blz) (cs : List Int) : List Cut := if LtOk b cs then ltL b cs else []
theorem lcL_len (b : Blz) (cs : List Int) : (lcL b cs).length ≤ cs.length := by unfold lcL; split <;> simp [ltL_len]
@[reducible] def lcRes (b : Blz) (cs : List Int) : PV := .tuple [.olist 38 2 ((lcL b cs).map Cut.pv), .bool (decide (LtOk b cs))]
theorem k_sLatest (b : Blz) (cs : List Int) (z : SzB b) (hm : cs.length ≤ 1000000000) :
    Con Try.prog 7 [.agg b.t.pv, .list 2 (b.ps.map Phase.pv), .list 1 (ints b.src), .int .i64 b.st, .list 1 (ints cs)] (lcRes b cs) := by
  intro al
  refine contract_of hmix Try.func7 rfl (by kernel_rfl) (by kernel_rfl) (Nat.le_of_ble_eq_true rfl) (fun row h => by cases h) ?_
  have hty_s30 := ty_s30
  have hty_a26 := ty_a26
  have hty_u27 := ty_u27
  have hty_s27 := ty_s27
  have hty_u24 := ty_u24
  have hty_s24 := ty_s24
  have hty_c3 := ty_c3
  have hty_st38 := ty_st38
  have hty_u30 := ty_u30
  have hl1 : (ints cs).length = cs.length := by simp
  have k1 := k_l4Asked b z
  have k2 := k_l2Set b.t cs z.hn aO
  by_cases hb : GoodB b
  · rw [decide_eq_true hb] at k1
    by_cases hset : SetOk b.t cs
    · rw [decide_eq_true (show GoodT b.t ∧ (∀ y ∈ cs, 0 ≤ y ∧ y < b.t.burn.length) ∧ Rising cs from ⟨hb.1.1, hset.1, hset.2⟩)] at k2
      obtain ⟨hM, hA⟩ := arr_ok hb
      have la : (ints (arr b)).length = b.t.burn.length := by rw [ints_len, hM.pre.len]
      repeat' (first | (refine pA (k := ?_)) | (refine g_exec ?_; first | (refine g_call ?_; first | (refine x_callG true (k1) rfl rfl rfl aS rfl aH ?_; simp only [cl]) | (refine x_callG true (k2) rfl rfl rfl aS rfl aH ?_; simp only [cl]) | (refine x_callG true (k_l4Arrivals b hb z.hs) rfl rfl rfl aS rfl aH ?_; simp only [cl])) | (refine g_guard ?_; refine x_gsplit rfl rfl (fun h => ?_) (fun h => ?_) <;> (have h' := h; try simp only [sx] at h')) | (refine x_nil (hK _ _ aI ?_); clear hK K)) | (refine v_region (fun K hK => ?_)) | (refine v_condt rfl (fun h => ?_) (fun h => ?_) <;> (have h' := h; try simp only [sx] at h')))
      refine v_loopK [4, 5, 13] [] (fun q : Nat × List (List PV) => [(12, .osl (1001, 0) 0 q.1), (14, .int .i64 q.1)]) (fun q : Nat × List (List PV) => [((1001, 0), some ⟨38, 2, q.2, false⟩)]) (fun q : Nat × List (List PV) => q.1 ≤ cs.length ∧ q.2 = (ltL b (cs.take q.1)).map Cut.pv) (fun q : Nat × List (List PV) => cs.length - q.1) ((0, [])) rfl rfl (fun _ => rfl) (fun _ => rfl) rfl (by refine ⟨?_, ?_, rfl, rfl⟩ <;> (repeat' (first | exact trivial | exact ⟨rfl, rfl⟩ | exact rfl | exact ⟨sub_fn, refs_fn⟩ | refine ⟨⟨rfl, rfl⟩, ?_⟩ | refine ⟨⟨sub_fn, refs_fn⟩, ?_⟩ | refine ⟨⟨rfl, fun h => Bool.noConfusion h⟩, ?_⟩ | refine ⟨⟨rfl, fun h => ?_⟩, ?_⟩ | refine ⟨rfl, ?_⟩ | refine ⟨?_, ?_⟩ | fail))) ⟨by simp, by simp [ltL]⟩ (fun q hq => ?_)
      obtain ⟨i, es⟩ := q
      obtain ⟨h1, h2⟩ := hq
      simp only at h1 h2
      have hl : es.length = i := by rw [h2, List.length_map, ltL_len, List.length_take]; omega
      dsimp only
      rcases Nat.lt_or_ge i cs.length with hlt | hge
      · obtain ⟨c, hgc⟩ := get_ex hlt
        have hx := ints_at hgc
        have ho := hset.1 c (get_mem hgc)
        have hcc := ho
        unfold IsCell at hcc
        have hat : (ints (arr b))[c.toNat]? = some [.int .i64 (tv (arr b) c)] := tv_int (cell_inT hM.pre.len ho)
        have hle := hM.le hb ho
        by_cases hne : tv (arr b) c = -1
        · have hsl : (ltF b c).pv = [.int .i64 c, .int .i64 9999] := by rw [ltF, if_pos hne]
          repeat' (first | (refine pA (k := ?_)) | (refine g_exec ?_; first | (refine g_guard ?_; refine x_gsplit rfl rfl (fun h => ?_) (fun h => ?_) <;> (have h' := h; try simp only [sx] at h')) | (refine x_nil (hK _ _ aI ?_); clear hK K)) | (refine v_region (fun K hK => ?_)) | (refine v_condt rfl (fun h => ?_) (fun h => ?_) <;> (have h' := h; try simp only [sx] at h')))
          all_goals first
            | (exfalso; omega)
            | (refine q_next (i + 1, es ++ [[.int .i64 c, .int .i64 9999]]) rfl (by refine ⟨?_, ?_, rfl, rfl⟩ <;> (repeat' (first | exact trivial | exact ⟨rfl, rfl⟩ | exact rfl | exact ⟨sub_fn, refs_fn⟩ | refine ⟨⟨rfl, rfl⟩, ?_⟩ | refine ⟨⟨sub_fn, refs_fn⟩, ?_⟩ | refine ⟨⟨rfl, fun h => Bool.noConfusion h⟩, ?_⟩ | refine ⟨⟨rfl, fun h => ?_⟩, ?_⟩ | refine ⟨rfl, ?_⟩ | refine ⟨?_, ?_⟩ | fail))) ⟨by simp only; omega, by simp only [ltL_succ hgc, hsl, h2]⟩ (by simp only; omega))
        · have hge2 := (hM.ge hb ho hne).1
          have hsl : (ltF b c).pv = [.int .i64 c, .int .i64 (tv (arr b) c - 1)] := by rw [ltF, if_neg hne]
          repeat' (first | (refine pA (k := ?_)) | (refine g_exec ?_; first | (refine g_guard ?_; refine x_gsplit rfl rfl (fun h => ?_) (fun h => ?_) <;> (have h' := h; try simp only [sx] at h')) | (refine x_nil (hK _ _ aI ?_); clear hK K)) | (refine v_region (fun K hK => ?_)) | (refine v_condt rfl (fun h => ?_) (fun h => ?_) <;> (have h' := h; try simp only [sx] at h')))
          all_goals first
            | (exfalso; omega)
            | (refine q_next (i + 1, es ++ [[.int .i64 c, .int .i64 (tv (arr b) c - 1)]]) rfl (by refine ⟨?_, ?_, rfl, rfl⟩ <;> (repeat' (first | exact trivial | exact ⟨rfl, rfl⟩ | exact rfl | exact ⟨sub_fn, refs_fn⟩ | refine ⟨⟨rfl, rfl⟩, ?_⟩ | refine ⟨⟨sub_fn, refs_fn⟩, ?_⟩ | refine ⟨⟨rfl, fun h => Bool.noConfusion h⟩, ?_⟩ | refine ⟨⟨rfl, fun h => ?_⟩, ?_⟩ | refine ⟨rfl, ?_⟩ | refine ⟨?_, ?_⟩ | fail))) ⟨by simp only; omega, by simp only [ltL_succ hgc, hsl, h2]⟩ (by simp only; omega))
      · rw [take_all hge] at h2
        subst h2
        have k3 := k_l25Good b.t (ltL b cs) z.hn (by rw [ltL_len]; omega)
        by_cases hgc : GoodC b.t (ltL b cs)
        · rw [decide_eq_true hgc] at k3
          have hok : LtOk b cs := ⟨hb, hset, hgc⟩
          have hfl := Cut.flat (ltL b cs)
          rw [lcRes, decide_eq_true hok, lcL, if_pos hok]
          repeat' (first | (refine pA (k := ?_)) | (refine g_exec ?_; first | (refine g_call ?_; refine x_callG true (k3) rfl rfl rfl aS rfl aH ?_; simp only [cl]) | (refine g_guard ?_; refine x_gsplit rfl rfl (fun h => ?_) (fun h => ?_) <;> (have h' := h; try simp only [sx] at h')) | (refine x_nil (hK _ _ aI ?_); clear hK K)) | (refine v_region (fun K hK => ?_)) | (refine v_condt rfl (fun h => ?_) (fun h => ?_) <;> (have h' := h; try simp only [sx] at h')))
          (first | refine ret_T rfl rfl rfl (by first | exact trivial | (repeat' (first | exact trivial | refine ⟨by assumption, ?_⟩))) (by repeat' (first | exact trivial | refine ⟨by simp, ?_⟩)) ?_ | refine ret_A rfl rfl rfl (by first | exact trivial | (repeat' (first | exact trivial | refine ⟨by assumption, ?_⟩))) (by repeat' (first | exact trivial | refine ⟨by simp, ?_⟩)) ?_); (repeat' (first | exact et_end | exact el_end | refine et_int rfl ?_ ?_ | refine et_bool ?_ ?_ | refine et_str ?_ ?_ | refine et_list (by rfl) (by decide) rfl rfl ?_ ?_ ?_ ?_ | refine et_nil ?_ ?_ | refine et_agg ?_ ?_ | refine el_int rfl ?_ ?_ | refine el_bool ?_ ?_ | refine el_str ?_ ?_ | refine el_list (by rfl) (by decide) rfl rfl ?_ ?_ ?_ ?_ | refine el_nil ?_ ?_))
          · exact hl.symm
          · exact hfl
          · rfl
          · rfl
        · rw [decide_eq_false hgc] at k3
          have hok : ¬ LtOk b cs := fun h => hgc h.2.2
          rw [lcRes, decide_eq_false hok, lcL, if_neg hok]
          repeat' (first | (refine pA (k := ?_)) | (refine g_exec ?_; first | (refine g_call ?_; refine x_callG true (k3) rfl rfl rfl aS rfl aH ?_; simp only [cl]) | (refine g_guard ?_; refine x_gsplit rfl rfl (fun h => ?_) (fun h => ?_) <;> (have h' := h; try simp only [sx] at h')) | (refine x_nil (hK _ _ aI ?_); clear hK K)) | (refine v_region (fun K hK => ?_)) | (refine v_condt rfl (fun h => ?_) (fun h => ?_) <;> (have h' := h; try simp only [sx] at h')))
          exact aR
    · rw [decide_eq_false (show ¬ (GoodT b.t ∧ (∀ y ∈ cs, 0 ≤ y ∧ y < b.t.burn.length) ∧ Rising cs) from fun h => hset ⟨h.2.1, h.2.2⟩)] at k2
      have hok : ¬ LtOk b cs := fun h => hset h.2.1
      rw [lcRes, decide_eq_false hok, lcL, if_neg hok]
      repeat' (first | (refine pA (k := ?_)) | (refine g_exec ?_; first | (refine g_call ?_; first | (refine x_callG true (k1) rfl rfl rfl aS rfl aH ?_; simp only [cl]) | (refine x_callG true (k2) rfl rfl rfl aS rfl aH ?_; simp only [cl])) | (refine g_guard ?_; refine x_gsplit rfl rfl (fun h => ?_) (fun h => ?_) <;> (have h' := h; try simp only [sx] at h')) | (refine x_nil (hK _ _ aI ?_); clear hK K)) | (refine v_region (fun K hK => ?_)) | (refine v_condt rfl (fun h => ?_) (fun h => ?_) <;> (have h' := h; try simp only [sx] at h')))
      exact aR
  · rw [decide_eq_false hb] at k1
    have hok : ¬ LtOk b cs := fun h => hb h.1
    rw [lcRes, decide_eq_false hok, lcL, if_neg hok]
    repeat' (first | (refine pA (k := ?_)) | (refine g_exec ?_; first | (refine g_call ?_; first | (refine x_callG true (k1) rfl rfl rfl aS rfl aH ?_; simp only [cl]) | (refine x_callG true (k2) rfl rfl rfl aS rfl aH ?_; simp only [cl])) | (refine g_guard ?_; refine x_gsplit rfl rfl (fun h => ?_) (fun h => ?_) <;> (have h' := h; try simp only [sx] at h')) | (refine x_nil (hK _ _ aI ?_); clear hK K)) | (refine v_region (fun K hK => ?_)) | (refine v_condt rfl (fun h => ?_) (fun h => ?_) <;> (have h' := h; try simp only [sx] at h')))
    exact aR
theorem k_iLatest (b : Blz) (cs : List Int) (z : SzB b) (hm : cs.length ≤ 1000000000) :
    Con Try.prog 6 [.agg b.t.pv, .list 2 (b.ps.map Phase.pv), .list 1 (ints b.src), .int .i64 b.st, .list 1 (ints cs)] (lcRes b cs) := by
  intro al
  refine contract_of hmix Try.func6 rfl (by kernel_rfl) (by kernel_rfl) (Nat.le_of_ble_eq_true rfl) (fun row h => by cases h) ?_
  have hty_a26 := ty_a26
  have hty_u27 := ty_u27
  have hty_s27 := ty_s27
  have hty_u24 := ty_u24
  have hty_s24 := ty_s24
  have hty_s30 := ty_s30
  have hty_c3 := ty_c3
  have hty_st38 := ty_st38
  have hty_u30 := ty_u30
  have hl1 : (ints cs).length = cs.length := by simp
  have k1 := k_isFire b z
  have k2 := k_isSet b.t cs z.hn aO
  by_cases hb : GoodB b
  · rw [decide_eq_true hb] at k1
    by_cases hset : SetOk b.t cs
    · rw [decide_eq_true (show (∀ s ∈ cs, IsCell b.t s) ∧ Rising cs from hset)] at k2
      obtain ⟨hM, hA⟩ := arr_ok hb
      have la : (ints (arr b)).length = b.t.burn.length := by rw [ints_len, hM.pre.len]
      repeat' (first | (refine pA (k := ?_)) | (refine g_exec ?_; first | (refine g_call ?_; first | (refine x_callG true (k1) rfl rfl rfl aS rfl aH ?_; simp only [cl]) | (refine x_callG true (k2) rfl rfl rfl aS rfl aH ?_; simp only [cl]) | (refine x_callG true (k_arrivals b hb z.hs) rfl rfl rfl aS rfl aH ?_; simp only [cl])) | (refine g_guard ?_; refine x_gsplit rfl rfl (fun h => ?_) (fun h => ?_) <;> (have h' := h; try simp only [sx] at h')) | (refine x_nil (hK _ _ aI ?_); clear hK K)) | (refine v_region (fun K hK => ?_)) | (refine v_condt rfl (fun h => ?_) (fun h => ?_) <;> (have h' := h; try simp only [sx] at h')))
      refine v_loopK [5, 12, 34, 35] [] (fun q : Nat × List (List PV) => [(13, .osl (1001, 0) 0 q.1), (36, .int .i64 q.1)]) (fun q : Nat × List (List PV) => [((1001, 0), some ⟨38, 2, q.2, false⟩)]) (fun q : Nat × List (List PV) => q.1 ≤ cs.length ∧ q.2 = (ltL b (cs.take q.1)).map Cut.pv) (fun q : Nat × List (List PV) => cs.length - q.1) ((0, [])) rfl rfl (fun _ => rfl) (fun _ => rfl) rfl (by refine ⟨?_, ?_, rfl, rfl⟩ <;> (repeat' (first | exact trivial | exact ⟨rfl, rfl⟩ | exact rfl | exact ⟨sub_fn, refs_fn⟩ | refine ⟨⟨rfl, rfl⟩, ?_⟩ | refine ⟨⟨sub_fn, refs_fn⟩, ?_⟩ | refine ⟨⟨rfl, fun h => Bool.noConfusion h⟩, ?_⟩ | refine ⟨⟨rfl, fun h => ?_⟩, ?_⟩ | refine ⟨rfl, ?_⟩ | refine ⟨?_, ?_⟩ | fail))) ⟨by simp, by simp [ltL]⟩ (fun q hq => ?_)
      obtain ⟨i, es⟩ := q
      obtain ⟨h1, h2⟩ := hq
      simp only at h1 h2
      have hl : es.length = i := by rw [h2, List.length_map, ltL_len, List.length_take]; omega
      dsimp only
      rcases Nat.lt_or_ge i cs.length with hlt | hge
      · obtain ⟨c, hgc⟩ := get_ex hlt
        have hx := ints_at hgc
        have ho := hset.1 c (get_mem hgc)
        have hcc := ho
        unfold IsCell at hcc
        have hat : (ints (arr b))[c.toNat]? = some [.int .i64 (tv (arr b) c)] := tv_int (cell_inT hM.pre.len ho)
        have hle := hM.le hb ho
        by_cases hne : tv (arr b) c = -1
        · have hsl : (ltF b c).pv = [.int .i64 c, .int .i64 9999] := by rw [ltF, if_pos hne]
          repeat' (first | (refine pA (k := ?_)) | (refine g_exec ?_; first | (refine g_guard ?_; refine x_gsplit rfl rfl (fun h => ?_) (fun h => ?_) <;> (have h' := h; try simp only [sx] at h')) | (refine x_nil (hK _ _ aI ?_); clear hK K)) | (refine v_region (fun K hK => ?_)) | (refine v_condt rfl (fun h => ?_) (fun h => ?_) <;> (have h' := h; try simp only [sx] at h')))
          all_goals first
            | (exfalso; omega)
            | (refine q_next (i + 1, es ++ [[.int .i64 c, .int .i64 9999]]) rfl (by refine ⟨?_, ?_, rfl, rfl⟩ <;> (repeat' (first | exact trivial | exact ⟨rfl, rfl⟩ | exact rfl | exact ⟨sub_fn, refs_fn⟩ | refine ⟨⟨rfl, rfl⟩, ?_⟩ | refine ⟨⟨sub_fn, refs_fn⟩, ?_⟩ | refine ⟨⟨rfl, fun h => Bool.noConfusion h⟩, ?_⟩ | refine ⟨⟨rfl, fun h => ?_⟩, ?_⟩ | refine ⟨rfl, ?_⟩ | refine ⟨?_, ?_⟩ | fail))) ⟨by simp only; omega, by simp only [ltL_succ hgc, hsl, h2]⟩ (by simp only; omega))
        · have hge2 := (hM.ge hb ho hne).1
          have hsl : (ltF b c).pv = [.int .i64 c, .int .i64 (tv (arr b) c - 1)] := by rw [ltF, if_neg hne]
          repeat' (first | (refine pA (k := ?_)) | (refine g_exec ?_; first | (refine g_guard ?_; refine x_gsplit rfl rfl (fun h => ?_) (fun h => ?_) <;> (have h' := h; try simp only [sx] at h')) | (refine x_nil (hK _ _ aI ?_); clear hK K)) | (refine v_region (fun K hK => ?_)) | (refine v_condt rfl (fun h => ?_) (fun h => ?_) <;> (have h' := h; try simp only [sx] at h')))
          all_goals first
            | (exfalso; omega)
            | (refine q_next (i + 1, es ++ [[.int .i64 c, .int .i64 (tv (arr b) c - 1)]]) rfl (by refine ⟨?_, ?_, rfl, rfl⟩ <;> (repeat' (first | exact trivial | exact ⟨rfl, rfl⟩ | exact rfl | exact ⟨sub_fn, refs_fn⟩ | refine ⟨⟨rfl, rfl⟩, ?_⟩ | refine ⟨⟨sub_fn, refs_fn⟩, ?_⟩ | refine ⟨⟨rfl, fun h => Bool.noConfusion h⟩, ?_⟩ | refine ⟨⟨rfl, fun h => ?_⟩, ?_⟩ | refine ⟨rfl, ?_⟩ | refine ⟨?_, ?_⟩ | fail))) ⟨by simp only; omega, by simp only [ltL_succ hgc, hsl, h2]⟩ (by simp only; omega))
      · rw [take_all hge] at h2
        subst h2
        have k3 := k_iAreCuts b.t (ltL b cs) z.hn (by rw [ltL_len]; omega)
        by_cases hgc : GoodC b.t (ltL b cs)
        · rw [decide_eq_true hgc] at k3
          have hok : LtOk b cs := ⟨hb, hset, hgc⟩
          have hfl := Cut.flat (ltL b cs)
          rw [lcRes, decide_eq_true hok, lcL, if_pos hok]
          repeat' (first | (refine pA (k := ?_)) | (refine g_exec ?_; first | (refine g_call ?_; refine x_callG true (k3) rfl rfl rfl aS rfl aH ?_; simp only [cl]) | (refine g_guard ?_; refine x_gsplit rfl rfl (fun h => ?_) (fun h => ?_) <;> (have h' := h; try simp only [sx] at h')) | (refine x_nil (hK _ _ aI ?_); clear hK K)) | (refine v_region (fun K hK => ?_)) | (refine v_condt rfl (fun h => ?_) (fun h => ?_) <;> (have h' := h; try simp only [sx] at h')))
          (first | refine ret_T rfl rfl rfl (by first | exact trivial | (repeat' (first | exact trivial | refine ⟨by assumption, ?_⟩))) (by repeat' (first | exact trivial | refine ⟨by simp, ?_⟩)) ?_ | refine ret_A rfl rfl rfl (by first | exact trivial | (repeat' (first | exact trivial | refine ⟨by assumption, ?_⟩))) (by repeat' (first | exact trivial | refine ⟨by simp, ?_⟩)) ?_); (repeat' (first | exact et_end | exact el_end | refine et_int rfl ?_ ?_ | refine et_bool ?_ ?_ | refine et_str ?_ ?_ | refine et_list (by rfl) (by decide) rfl rfl ?_ ?_ ?_ ?_ | refine et_nil ?_ ?_ | refine et_agg ?_ ?_ | refine el_int rfl ?_ ?_ | refine el_bool ?_ ?_ | refine el_str ?_ ?_ | refine el_list (by rfl) (by decide) rfl rfl ?_ ?_ ?_ ?_ | refine el_nil ?_ ?_))
          · exact hl.symm
          · exact hfl
          · rfl
          · rfl
        · rw [decide_eq_false hgc] at k3
          have hok : ¬ LtOk b cs := fun h => hgc h.2.2
          rw [lcRes, decide_eq_false hok, lcL, if_neg hok]
          repeat' (first | (refine pA (k := ?_)) | (refine g_exec ?_; first | (refine g_call ?_; refine x_callG true (k3) rfl rfl rfl aS rfl aH ?_; simp only [cl]) | (refine g_guard ?_; refine x_gsplit rfl rfl (fun h => ?_) (fun h => ?_) <;> (have h' := h; try simp only [sx] at h')) | (refine x_nil (hK _ _ aI ?_); clear hK K)) | (refine v_region (fun K hK => ?_)) | (refine v_condt rfl (fun h => ?_) (fun h => ?_) <;> (have h' := h; try simp only [sx] at h')))
          exact aR
    · rw [decide_eq_false (show ¬ ((∀ s ∈ cs, IsCell b.t s) ∧ Rising cs) from hset)] at k2
      have hok : ¬ LtOk b cs := fun h => hset h.2.1
      rw [lcRes, decide_eq_false hok, lcL, if_neg hok]
      repeat' (first | (refine pA (k := ?_)) | (refine g_exec ?_; first | (refine g_call ?_; first | (refine x_callG true (k1) rfl rfl rfl aS rfl aH ?_; simp only [cl]) | (refine x_callG true (k2) rfl rfl rfl aS rfl aH ?_; simp only [cl])) | (refine g_guard ?_; refine x_gsplit rfl rfl (fun h => ?_) (fun h => ?_) <;> (have h' := h; try simp only [sx] at h')) | (refine x_nil (hK _ _ aI ?_); clear hK K)) | (refine v_region (fun K hK => ?_)) | (refine v_condt rfl (fun h => ?_) (fun h => ?_) <;> (have h' := h; try simp only [sx] at h')))
      exact aR
  · rw [decide_eq_false hb] at k1
    have hok : ¬ LtOk b cs := fun h => hb h.1
    rw [lcRes, decide_eq_false hok, lcL, if_neg hok]
    repeat' (first | (refine pA (k := ?_)) | (refine g_exec ?_; first | (refine g_call ?_; first | (refine x_callG true (k1) rfl rfl rfl aS rfl aH ?_; simp only [cl]) | (refine x_callG true (k2) rfl rfl rfl aS rfl aH ?_; simp only [cl])) | (refine g_guard ?_; refine x_gsplit rfl rfl (fun h => ?_) (fun h => ?_) <;> (have h' := h; try simp only [sx] at h')) | (refine x_nil (hK _ _ aI ?_); clear hK K)) | (refine v_region (fun K hK => ?_)) | (refine v_condt rfl (fun h => ?_) (fun h => ?_) <;> (have h' := h; try simp only [sx] at h')))
    exact aR
end
end Go.Vs
set_option linter.unusedVariables false
set_option linter.unusedSimpArgs false
set_option maxRecDepth 100000
set_option maxHeartbeats 4000000
namespace Go.Vs
open Go.Proofs
attribute [local irreducible] exec vwp thenQ blkQ loopQ RetPost
theorem et_agg0 {st : St} {al : Bool} {xs ys cs ds : List PV} {u : List (Option Id)} (h : ExpL al st cs ds []) (ht : ExpT al st xs ys u) : ExpT al st (.agg cs :: xs) (.agg ds :: ys) u := ⟨[], u, h, ht, rfl⟩
structure Cu where
  bs : List Int
  pos : Int
  seed : Int
@[reducible] def bytesP (bs : List Int) : List (List PV) := bs.map fun b => [PV.int .u8 b]
theorem bytes_at {bs : List Int} {i : Nat} {b : Int} (h : bs[i]? = some b) : (bytesP bs)[i]? = some [PV.int .u8 b] := by simp [bytesP, h]
@[reducible] def Cu.pv (c : Cu) : List PV := [.list 1 (bytesP c.bs), .int .i64 c.pos, .int .u64 c.seed]
structure Cu.Ok (c : Cu) : Prop where
  byte : ∀ b ∈ c.bs, 0 ≤ b ∧ b ≤ 255
  len : c.bs.length ≤ 1099511627776
  pos : 0 ≤ c.pos ∧ c.pos ≤ 1152921504606846976
structure Aft (c c' : Cu) (k : Int) : Prop where
  bs : c'.bs = c.bs
  pos : c.pos ≤ c'.pos ∧ c'.pos ≤ c.pos + k
theorem Aft.ok {c c' : Cu} {k : Int} (h : Aft c c' k) (hc : c.Ok) (hk : c.pos + k ≤ 1152921504606846976) : c'.Ok := ⟨by rw [h.bs]; exact hc.byte, by rw [h.bs]; exact hc.len, by have := h.pos; have := hc.pos; omega⟩
theorem Aft.trans {c c' c'' : Cu} {k l : Int} (h : Aft c c' k) (g : Aft c' c'' l) : Aft c c'' (k + l) := ⟨g.bs.trans h.bs, by have := h.pos; have := g.pos; omega⟩
theorem Aft.le {c c' : Cu} {k l : Int} (h : Aft c c' k) (hl : k ≤ l) : Aft c c' l := ⟨h.bs, by have := h.pos; omega⟩
theorem Aft.refl (c : Cu) : Aft c c 0 := ⟨rfl, by omega⟩
@[reducible] def cuRow (c : Cu) : Row := ⟨50, 3, [c.pv], false⟩
@[reducible] def Dr (f : FuncId) (args : List PV) (c : Cu) (r : PV) (c' : Cu) : Prop := ContractP Try.prog f true (.own (io, 0) 0 0 :: args) [cuRow c] (fun r' fin' => r' = r ∧ fin' = [[c'.pv]])
def nxS (c : Cu) (b : Int) : Int := IntKind.u64.wrap (IntKind.u64.wrap (IntKind.u64.wrap (c.seed * 6364136223846793005) + IntKind.u64.wrap b) + 917917)
def nxX (s : Int) : Int := IntKind.i64.wrap (IntKind.u64.wrap ((BitVec.ofInt IntKind.u64.bits (s.fdiv (2 ^ min (Int.toNat 40) IntKind.u64.bits)) &&& BitVec.ofInt IntKind.u64.bits 255).toNat : Nat))
theorem wrap_u {n : Int} (h : 0 ≤ n ∧ n < 18446744073709551616) : IntKind.u64.wrap n = n := by
  simp [IntKind.wrap, IntKind.signed, IntKind.bits]
  omega
theorem nxX_bnd (s : Int) : 0 ≤ nxX s ∧ nxX s ≤ 255 := by
  unfold nxX
  have h : (BitVec.ofInt IntKind.u64.bits (s.fdiv (2 ^ min (Int.toNat 40) IntKind.u64.bits)) &&& BitVec.ofInt IntKind.u64.bits 255).toNat ≤ 255 := by
    rw [BitVec.toNat_and]
    exact Nat.le_trans Nat.and_le_right (by decide)
  generalize (BitVec.ofInt IntKind.u64.bits (s.fdiv (2 ^ min (Int.toNat 40) IntKind.u64.bits)) &&& BitVec.ofInt IntKind.u64.bits 255).toNat = m at *
  rw [wrap_u aO, wrap_in aO]
  omega
theorem k_next (c : Cu) (hc : c.Ok) (hp : c.pos + 1 ≤ 1152921504606846976) : ∃ (r : Int) (c' : Cu), Dr 71 [] c (.int .i64 r) c' ∧ Aft c c' 1 ∧ 0 ≤ r ∧ r ≤ 255 := by
  have hpos := hc.pos
  have hlen := hc.len
  have hl1 : (bytesP c.bs).length = c.bs.length := by simp
  by_cases hlt : c.pos < c.bs.length
  · obtain ⟨b, hb⟩ := get_ex (show c.pos.toNat < c.bs.length by omega)
    have hx := bytes_at hb
    have hbb := hc.byte b (get_mem hb)
    refine ⟨b, ⟨c.bs, c.pos + 1, nxS c b⟩, ?_, ⟨rfl, by simp only; omega⟩, hbb⟩
    refine contract_of hmix Try.func71 rfl (by kernel_rfl) (by kernel_rfl) (Nat.le_of_ble_eq_true rfl) (fun row h => by (simp only [List.mem_cons, List.not_mem_nil, or_false] at h; first | (subst h; (first | exact .inl rfl | exact .inr (fun e he u hu => by (simp only [List.mem_cons, List.not_mem_nil, or_false] at he; subst he; simp only [List.mem_cons, List.not_mem_nil, or_false] at hu; subst hu; rfl)))) | (rcases h with rfl | rfl <;> (first | exact .inl rfl | exact .inr (fun e he u hu => by (simp only [List.mem_cons, List.not_mem_nil, or_false] at he; subst he; simp only [List.mem_cons, List.not_mem_nil, or_false] at hu; subst hu; rfl)))) | (rcases h with rfl | rfl | rfl <;> (first | exact .inl rfl | exact .inr (fun e he u hu => by (simp only [List.mem_cons, List.not_mem_nil, or_false] at he; subst he; simp only [List.mem_cons, List.not_mem_nil, or_false] at hu; subst hu; rfl)))) | (rcases h with rfl | rfl | rfl | rfl <;> (first | exact .inl rfl | exact .inr (fun e he u hu => by (simp only [List.mem_cons, List.not_mem_nil, or_false] at he; subst he; simp only [List.mem_cons, List.not_mem_nil, or_false] at hu; subst hu; rfl)))))) ?_
    have hty_f50_1 := ty_f50_1
    have hty_c3 := ty_c3
    have hty_f50_0 := ty_f50_0
    have hty_c22 := ty_c22
    have hty_u22 := ty_u22
    have hty_s22 := ty_s22
    have hty_c5 := ty_c5
    have hty_u5 := ty_u5
    have hty_u3 := ty_u3
    have hty_t3 := ty_t3
    have hty_f50_2 := ty_f50_2
    have hty_c48 := ty_c48
    have hty_u48 := ty_u48
    have hty_t48 := ty_t48
    repeat' (first | (refine pA (k := ?_)) | (refine g_exec ?_; refine x_nil (hK _ _ aI ?_); clear hK K) | (refine v_region (fun K hK => ?_)) | (refine v_condt rfl (fun h => ?_) (fun h => ?_) <;> (have h' := h; try simp only [sx] at h')))
    all_goals first
      | (exfalso; omega)
      | exact ret_iL rfl rfl ⟨⟨rfl, rfl, fun h => by cases h⟩, trivial⟩ rfl
  · refine ⟨nxX (nxS c 0), ⟨c.bs, c.pos + 1, nxS c 0⟩, ?_, ⟨rfl, by simp only; omega⟩, nxX_bnd _⟩
    refine contract_of hmix Try.func71 rfl (by kernel_rfl) (by kernel_rfl) (Nat.le_of_ble_eq_true rfl) (fun row h => by (simp only [List.mem_cons, List.not_mem_nil, or_false] at h; first | (subst h; (first | exact .inl rfl | exact .inr (fun e he u hu => by (simp only [List.mem_cons, List.not_mem_nil, or_false] at he; subst he; simp only [List.mem_cons, List.not_mem_nil, or_false] at hu; subst hu; rfl)))) | (rcases h with rfl | rfl <;> (first | exact .inl rfl | exact .inr (fun e he u hu => by (simp only [List.mem_cons, List.not_mem_nil, or_false] at he; subst he; simp only [List.mem_cons, List.not_mem_nil, or_false] at hu; subst hu; rfl)))) | (rcases h with rfl | rfl | rfl <;> (first | exact .inl rfl | exact .inr (fun e he u hu => by (simp only [List.mem_cons, List.not_mem_nil, or_false] at he; subst he; simp only [List.mem_cons, List.not_mem_nil, or_false] at hu; subst hu; rfl)))) | (rcases h with rfl | rfl | rfl | rfl <;> (first | exact .inl rfl | exact .inr (fun e he u hu => by (simp only [List.mem_cons, List.not_mem_nil, or_false] at he; subst he; simp only [List.mem_cons, List.not_mem_nil, or_false] at hu; subst hu; rfl)))))) ?_
    have hty_f50_1 := ty_f50_1
    have hty_c3 := ty_c3
    have hty_f50_0 := ty_f50_0
    have hty_c22 := ty_c22
    have hty_u22 := ty_u22
    have hty_s22 := ty_s22
    have hty_c5 := ty_c5
    have hty_u5 := ty_u5
    have hty_u3 := ty_u3
    have hty_t3 := ty_t3
    have hty_f50_2 := ty_f50_2
    have hty_c48 := ty_c48
    have hty_u48 := ty_u48
    have hty_t48 := ty_t48
    repeat' (first | (refine pA (k := ?_)) | (refine g_exec ?_; refine x_nil (hK _ _ aI ?_); clear hK K) | (refine v_region (fun K hK => ?_)) | (refine v_condt rfl (fun h => ?_) (fun h => ?_) <;> (have h' := h; try simp only [sx] at h')))
    all_goals first
      | (exfalso; omega)
      | exact ret_iL rfl rfl ⟨⟨rfl, rfl, fun h => by cases h⟩, trivial⟩ rfl
theorem k_pick (c : Cu) (n : Int) (hc : c.Ok) (hp : c.pos + 2 ≤ 1152921504606846976) (hn : n ≤ 1000000000) : ∃ (r : Int) (c' : Cu), Dr 43 [.int .i64 n] c (.int .i64 r) c' ∧ Aft c c' 2 ∧ 0 ≤ r ∧ (1 ≤ n → r < n) ∧ (n ≤ 1 → r = 0) := by
  by_cases h1 : n ≤ 1
  · refine ⟨0, c, ?_, (Aft.refl c).le aO, by omega, by omega, by omega⟩
    refine contract_of hmix Try.func43 rfl (by kernel_rfl) (by kernel_rfl) (Nat.le_of_ble_eq_true rfl) (fun row h => by (simp only [List.mem_cons, List.not_mem_nil, or_false] at h; first | (subst h; (first | exact .inl rfl | exact .inr (fun e he u hu => by (simp only [List.mem_cons, List.not_mem_nil, or_false] at he; subst he; simp only [List.mem_cons, List.not_mem_nil, or_false] at hu; subst hu; rfl)))) | (rcases h with rfl | rfl <;> (first | exact .inl rfl | exact .inr (fun e he u hu => by (simp only [List.mem_cons, List.not_mem_nil, or_false] at he; subst he; simp only [List.mem_cons, List.not_mem_nil, or_false] at hu; subst hu; rfl)))) | (rcases h with rfl | rfl | rfl <;> (first | exact .inl rfl | exact .inr (fun e he u hu => by (simp only [List.mem_cons, List.not_mem_nil, or_false] at he; subst he; simp only [List.mem_cons, List.not_mem_nil, or_false] at hu; subst hu; rfl)))) | (rcases h with rfl | rfl | rfl | rfl <;> (first | exact .inl rfl | exact .inr (fun e he u hu => by (simp only [List.mem_cons, List.not_mem_nil, or_false] at he; subst he; simp only [List.mem_cons, List.not_mem_nil, or_false] at hu; subst hu; rfl)))))) ?_
    repeat' (first | (refine pA (k := ?_)) | (refine g_exec ?_; refine x_nil (hK _ _ aI ?_); clear hK K) | (refine v_region (fun K hK => ?_)) | (refine v_condt rfl (fun h => ?_) (fun h => ?_) <;> (have h' := h; try simp only [sx] at h')))
    all_goals first
      | (exfalso; omega)
      | exact ret_iL rfl rfl ⟨⟨rfl, rfl, fun h => by cases h⟩, trivial⟩ rfl
  · obtain ⟨r1, c1, k1, a1, b1, b2⟩ := k_next c hc aO
    by_cases h2 : n > 200
    · obtain ⟨r2, c2, k2, a2, b3, b4⟩ := k_next c1 (a1.ok hc aO) (by have := a1.pos; omega)
      refine ⟨(r1 * 256 + r2) % n, c2, ?_, (a1.trans a2).le aO, Int.emod_nonneg _ aO, fun _ => Int.emod_lt_of_pos _ aO, fun h => by omega⟩
      refine contract_of hmix Try.func43 rfl (by kernel_rfl) (by kernel_rfl) (Nat.le_of_ble_eq_true rfl) (fun row h => by (simp only [List.mem_cons, List.not_mem_nil, or_false] at h; first | (subst h; (first | exact .inl rfl | exact .inr (fun e he u hu => by (simp only [List.mem_cons, List.not_mem_nil, or_false] at he; subst he; simp only [List.mem_cons, List.not_mem_nil, or_false] at hu; subst hu; rfl)))) | (rcases h with rfl | rfl <;> (first | exact .inl rfl | exact .inr (fun e he u hu => by (simp only [List.mem_cons, List.not_mem_nil, or_false] at he; subst he; simp only [List.mem_cons, List.not_mem_nil, or_false] at hu; subst hu; rfl)))) | (rcases h with rfl | rfl | rfl <;> (first | exact .inl rfl | exact .inr (fun e he u hu => by (simp only [List.mem_cons, List.not_mem_nil, or_false] at he; subst he; simp only [List.mem_cons, List.not_mem_nil, or_false] at hu; subst hu; rfl)))) | (rcases h with rfl | rfl | rfl | rfl <;> (first | exact .inl rfl | exact .inr (fun e he u hu => by (simp only [List.mem_cons, List.not_mem_nil, or_false] at he; subst he; simp only [List.mem_cons, List.not_mem_nil, or_false] at hu; subst hu; rfl)))))) ?_
      repeat' (first | (refine pA (k := ?_)) | (refine g_exec ?_; first | (refine g_call ?_; first | (refine x_callL [(io, 0)] (k1) rfl rfl aF rfl rfl aS rfl aH rfl ?_; simp only [cl]) | (refine x_callL [(io, 0)] (k2) rfl rfl aF rfl rfl aS rfl aH rfl ?_; simp only [cl])) | (refine x_nil (hK _ _ aI ?_); clear hK K)) | (refine v_region (fun K hK => ?_)) | (refine v_condt rfl (fun h => ?_) (fun h => ?_) <;> (have h' := h; try simp only [sx] at h')))
      all_goals first
        | (exfalso; omega)
        | exact ret_iL rfl rfl ⟨⟨rfl, rfl, fun h => by cases h⟩, trivial⟩ rfl
    · refine ⟨r1 % n, c1, ?_, a1.le aO, Int.emod_nonneg _ aO, fun _ => Int.emod_lt_of_pos _ aO, fun h => by omega⟩
      refine contract_of hmix Try.func43 rfl (by kernel_rfl) (by kernel_rfl) (Nat.le_of_ble_eq_true rfl) (fun row h => by (simp only [List.mem_cons, List.not_mem_nil, or_false] at h; first | (subst h; (first | exact .inl rfl | exact .inr (fun e he u hu => by (simp only [List.mem_cons, List.not_mem_nil, or_false] at he; subst he; simp only [List.mem_cons, List.not_mem_nil, or_false] at hu; subst hu; rfl)))) | (rcases h with rfl | rfl <;> (first | exact .inl rfl | exact .inr (fun e he u hu => by (simp only [List.mem_cons, List.not_mem_nil, or_false] at he; subst he; simp only [List.mem_cons, List.not_mem_nil, or_false] at hu; subst hu; rfl)))) | (rcases h with rfl | rfl | rfl <;> (first | exact .inl rfl | exact .inr (fun e he u hu => by (simp only [List.mem_cons, List.not_mem_nil, or_false] at he; subst he; simp only [List.mem_cons, List.not_mem_nil, or_false] at hu; subst hu; rfl)))) | (rcases h with rfl | rfl | rfl | rfl <;> (first | exact .inl rfl | exact .inr (fun e he u hu => by (simp only [List.mem_cons, List.not_mem_nil, or_false] at he; subst he; simp only [List.mem_cons, List.not_mem_nil, or_false] at hu; subst hu; rfl)))))) ?_
      repeat' (first | (refine pA (k := ?_)) | (refine g_exec ?_; first | (refine g_call ?_; refine x_callL [(io, 0)] (k1) rfl rfl aF rfl rfl aS rfl aH rfl ?_; simp only [cl]) | (refine x_nil (hK _ _ aI ?_); clear hK K)) | (refine v_region (fun K hK => ?_)) | (refine v_condt rfl (fun h => ?_) (fun h => ?_) <;> (have h' := h; try simp only [sx] at h')))
      all_goals first
        | (exfalso; omega)
        | exact ret_iL rfl rfl ⟨⟨rfl, rfl, fun h => by cases h⟩, trivial⟩ rfl
theorem k_one (c : Cu) (n : Int) (hc : c.Ok) (hp : c.pos + 2 ≤ 1152921504606846976) (hn : n ≤ 1000000000) : ∃ (b : Bool) (c' : Cu), Dr 20 [.int .i64 n] c (.bool b) c' ∧ Aft c c' 2 := by
  obtain ⟨r, c1, k1, a1, b1, b2⟩ := k_pick c n hc hp hn
  refine ⟨r == 0, c1, ?_, a1⟩
  refine contract_of hmix Try.func20 rfl (by kernel_rfl) (by kernel_rfl) (Nat.le_of_ble_eq_true rfl) (fun row h => by (simp only [List.mem_cons, List.not_mem_nil, or_false] at h; first | (subst h; (first | exact .inl rfl | exact .inr (fun e he u hu => by (simp only [List.mem_cons, List.not_mem_nil, or_false] at he; subst he; simp only [List.mem_cons, List.not_mem_nil, or_false] at hu; subst hu; rfl)))) | (rcases h with rfl | rfl <;> (first | exact .inl rfl | exact .inr (fun e he u hu => by (simp only [List.mem_cons, List.not_mem_nil, or_false] at he; subst he; simp only [List.mem_cons, List.not_mem_nil, or_false] at hu; subst hu; rfl)))) | (rcases h with rfl | rfl | rfl <;> (first | exact .inl rfl | exact .inr (fun e he u hu => by (simp only [List.mem_cons, List.not_mem_nil, or_false] at he; subst he; simp only [List.mem_cons, List.not_mem_nil, or_false] at hu; subst hu; rfl)))) | (rcases h with rfl | rfl | rfl | rfl <;> (first | exact .inl rfl | exact .inr (fun e he u hu => by (simp only [List.mem_cons, List.not_mem_nil, or_false] at he; subst he; simp only [List.mem_cons, List.not_mem_nil, or_false] at hu; subst hu; rfl)))))) ?_
  repeat' (first | (refine pA (k := ?_)) | (refine g_exec ?_; first | (refine g_call ?_; refine x_callL [(io, 0)] (k1) rfl rfl aF rfl rfl aS rfl aH rfl ?_; simp only [cl]) | (refine x_nil (hK _ _ aI ?_); clear hK K)) | (refine v_region (fun K hK => ?_)))
  all_goals exact ret_bL rfl rfl ⟨⟨rfl, rfl, fun h => by cases h⟩, trivial⟩ rfl
theorem k_among (c : Cu) (l : List Int) (hc : c.Ok) (hp : c.pos + 2 ≤ 1152921504606846976) (hl : 1 ≤ l.length ∧ l.length ≤ 1000000) : ∃ (x : Int) (c' : Cu), Dr 35 [.list 1 (ints l)] c (.int .i64 x) c' ∧ Aft c c' 2 ∧ x ∈ l := by
  obtain ⟨r, c1, k1, a1, b1, b2, b3⟩ := k_pick c l.length hc hp aO
  have b2 := b2 aO
  obtain ⟨x, hx⟩ := get_ex (show r.toNat < l.length by omega)
  have hy := ints_at hx
  have hl1 : (ints l).length = l.length := by simp
  rw [← hl1] at k1
  refine ⟨x, c1, ?_, a1, get_mem hx⟩
  refine contract_of hmix Try.func35 rfl (by kernel_rfl) (by kernel_rfl) (Nat.le_of_ble_eq_true rfl) (fun row h => by (simp only [List.mem_cons, List.not_mem_nil, or_false] at h; first | (subst h; (first | exact .inl rfl | exact .inr (fun e he u hu => by (simp only [List.mem_cons, List.not_mem_nil, or_false] at he; subst he; simp only [List.mem_cons, List.not_mem_nil, or_false] at hu; subst hu; rfl)))) | (rcases h with rfl | rfl <;> (first | exact .inl rfl | exact .inr (fun e he u hu => by (simp only [List.mem_cons, List.not_mem_nil, or_false] at he; subst he; simp only [List.mem_cons, List.not_mem_nil, or_false] at hu; subst hu; rfl)))) | (rcases h with rfl | rfl | rfl <;> (first | exact .inl rfl | exact .inr (fun e he u hu => by (simp only [List.mem_cons, List.not_mem_nil, or_false] at he; subst he; simp only [List.mem_cons, List.not_mem_nil, or_false] at hu; subst hu; rfl)))) | (rcases h with rfl | rfl | rfl | rfl <;> (first | exact .inl rfl | exact .inr (fun e he u hu => by (simp only [List.mem_cons, List.not_mem_nil, or_false] at he; subst he; simp only [List.mem_cons, List.not_mem_nil, or_false] at hu; subst hu; rfl)))))) ?_
  have hty_u24 := ty_u24
  have hty_s24 := ty_s24
  have hty_c3 := ty_c3
  repeat' (first | (refine pA (k := ?_)) | (refine g_exec ?_; first | (refine g_call ?_; refine x_callL [(io, 0)] (k1) rfl rfl aF rfl rfl aS rfl aH rfl ?_; simp only [cl]) | (refine x_nil (hK _ _ aI ?_); clear hK K)) | (refine v_region (fun K hK => ?_)))
  all_goals first
    | (exfalso; omega)
    | exact ret_iL rfl rfl ⟨⟨rfl, rfl, fun h => by cases h⟩, trivial⟩ rfl
@[reducible] def cu0 (code : List Int) : Cu := ⟨code, 0, 0⟩
structure CodeOk (code : List Int) : Prop where
  len : code.length ≤ 1099511627776
  byte : ∀ b ∈ code, 0 ≤ b ∧ b ≤ 255
theorem cu0_ok {code : List Int} (h : CodeOk code) : (cu0 code).Ok := ⟨h.byte, h.len, by simp⟩
end Go.Vs
set_option linter.unusedVariables false
set_option linter.unusedSimpArgs false
set_option maxRecDepth 100000
set_option maxHeartbeats 4000000
namespace Go.Vs
open Go.Proofs
attribute [local irreducible] exec vwp thenQ blkQ loopQ RetPost
theorem area5 {p q : Int} (hp : 0 ≤ p ∧ p ≤ 4) (hq : 0 ≤ q ∧ q ≤ 4) : 1 ≤ (1 + p) * (1 + q) ∧ (1 + p) * (1 + q) ≤ 25 := by
  have h1 : (1 + p) * (1 + q) ≤ 5 * 5 := Int.mul_le_mul aO aO aO aO
  have h2 : (1 : Int) * 1 ≤ (1 + p) * (1 + q) := Int.mul_le_mul aO aO aO aO
  omega
theorem k_terrain (c : Cu) (hc : c.Ok) (hp : c.pos + 100 ≤ 1152921504606846976) :
    ContractP Try.prog 70 true [.own (io, 0) 0 0] [cuRow c] (fun r' fin' => ∃ (t : Terrain) (c' : Cu), (r' = .agg [.int .i64 t.width, .int .i64 t.height, .olist 3 1 (ints t.burn)] ∧ fin' = [[c'.pv]]) ∧ Aft c c' 100 ∧ (1 ≤ t.width ∧ t.width ≤ 5) ∧ (1 ≤ t.height ∧ t.height ≤ 5) ∧ 1 ≤ t.burn.length ∧ t.burn.length ≤ 25) := by
  obtain ⟨r1, c1, k1, a1, g0, g1, _⟩ := k_pick c 5 hc aO aO
  have g1 := g1 aO
  have o1 := a1.ok hc aO
  have p1 := a1.pos
  obtain ⟨r2, c2, k2, a2, g2, g3, _⟩ := k_pick c1 5 o1 aO aO
  have g3 := g3 aO
  have o2 := a2.ok o1 aO
  have p2 := a2.pos
  have har := area5 (p := r1) (q := r2) aO aO
  refine contract_of hmix Try.func70 rfl (by kernel_rfl) (by kernel_rfl) (Nat.le_of_ble_eq_true rfl) (fun row h => by (simp only [List.mem_cons, List.not_mem_nil, or_false] at h; first | (subst h; (first | exact .inl rfl | exact .inr (fun e he u hu => by (simp only [List.mem_cons, List.not_mem_nil, or_false] at he; subst he; simp only [List.mem_cons, List.not_mem_nil, or_false] at hu; subst hu; rfl)))) | (rcases h with rfl | rfl <;> (first | exact .inl rfl | exact .inr (fun e he u hu => by (simp only [List.mem_cons, List.not_mem_nil, or_false] at he; subst he; simp only [List.mem_cons, List.not_mem_nil, or_false] at hu; subst hu; rfl)))) | (rcases h with rfl | rfl | rfl <;> (first | exact .inl rfl | exact .inr (fun e he u hu => by (simp only [List.mem_cons, List.not_mem_nil, or_false] at he; subst he; simp only [List.mem_cons, List.not_mem_nil, or_false] at hu; subst hu; rfl)))) | (rcases h with rfl | rfl | rfl | rfl <;> (first | exact .inl rfl | exact .inr (fun e he u hu => by (simp only [List.mem_cons, List.not_mem_nil, or_false] at he; subst he; simp only [List.mem_cons, List.not_mem_nil, or_false] at hu; subst hu; rfl)))))) ?_
  have hty_a26 := ty_a26
  have hty_z26 := ty_z26
  have hty_s24 := ty_s24
  have hty_st26 := ty_st26
  have hty_t26 := ty_t26
  have hty_f26_0 := ty_f26_0
  have hty_c3 := ty_c3
  have hty_f26_1 := ty_f26_1
  have hty_f26_2 := ty_f26_2
  have hty_c24 := ty_c24
  have hty_u24 := ty_u24
  have hty_t24 := ty_t24
  repeat' (first | (refine pA (k := ?_)) | (refine g_exec ?_; first | (refine g_call ?_; first | (refine x_callL [(io, 0)] (k1) rfl rfl aF rfl rfl aS rfl aH rfl ?_; simp only [cl]) | (refine x_callL [(io, 0)] (k2) rfl rfl aF rfl rfl aS rfl aH rfl ?_; simp only [cl])) | (refine x_nil (hK _ _ aI ?_); clear hK K)) | (refine v_region (fun K hK => ?_)) | (refine v_condt rfl (fun h => ?_) (fun h => ?_) <;> (have h' := h; try simp only [sx] at h')))
  all_goals try (exfalso; omega)
  refine v_loopK [0, 2, 3] [(io, 0), (3, 0), (1001, 0)] (fun q : Cu × List (List PV) × Nat => [(4, .int .i64 q.2.2)]) (fun q : Cu × List (List PV) × Nat => [((io, 0), some (cuRow q.1)), ((3, 0), some ⟨26, 3, [[.int .i64 (1 + r1), .int .i64 (1 + r2), .osl (1001, 0) 0 q.2.2]], true⟩), ((1001, 0), some ⟨3, 1, q.2.1, false⟩)]) (fun q : Cu × List (List PV) × Nat => Aft c2 q.1 (2 * q.2.2) ∧ (q.2.2 : Int) ≤ (1 + r1) * (1 + r2) ∧ ∃ b : List Int, q.2.1 = ints b ∧ b.length = q.2.2) (fun q : Cu × List (List PV) × Nat => ((1 + r1) * (1 + r2) - q.2.2).toNat) ((c2, [], 0)) rfl rfl (fun _ => rfl) (fun _ => rfl) rfl (by refine ⟨?_, ?_, rfl, rfl⟩ <;> (repeat' (first | exact trivial | exact ⟨rfl, rfl⟩ | exact rfl | exact ⟨sub_fn, refs_fn⟩ | refine ⟨⟨rfl, rfl⟩, ?_⟩ | refine ⟨⟨sub_fn, refs_fn⟩, ?_⟩ | refine ⟨⟨rfl, fun h => Bool.noConfusion h⟩, ?_⟩ | refine ⟨⟨rfl, fun h => ?_⟩, ?_⟩ | refine ⟨rfl, ?_⟩ | refine ⟨?_, ?_⟩ | fail))) ⟨Aft.refl c2, by simp only; omega, [], rfl, rfl⟩ (fun q hq => ?_)
  obtain ⟨d, es, m⟩ := q
  obtain ⟨ad, hm, b, hes, hlen⟩ := hq
  simp only at ad hm hes hlen
  dsimp only
  have hel : es.length = m := by rw [hes, ints_len, hlen]
  have hme := hel.symm
  have od := ad.ok o2 aO
  have pd := ad.pos
  by_cases hlt : (m : Int) < (1 + r1) * (1 + r2)
  · obtain ⟨x, c3, k3, a3, _⟩ := k_among d [0, 0, 1, 1, 2, 3, 5, 9, 20] od aO (by decide)
    repeat' (first | (refine pA (k := ?_)) | (refine g_exec ?_; first | (refine g_call ?_; refine x_callL [(io, 0)] (k3) rfl rfl aF rfl rfl aS rfl aH rfl ?_; simp only [cl]) | (refine x_nil (hK _ _ aI ?_); clear hK K)) | (refine v_region (fun K hK => ?_)) | (refine v_condt rfl (fun h => ?_) (fun h => ?_) <;> (have h' := h; try simp only [sx] at h')))
    all_goals try (exfalso; omega)
    all_goals (refine q_next (c3, es ++ [[.int .i64 x]], m + 1) rfl (by refine ⟨?_, ?_, rfl, rfl⟩ <;> (repeat' (first | exact trivial | exact ⟨rfl, rfl⟩ | exact rfl | exact ⟨sub_fn, refs_fn⟩ | refine ⟨⟨rfl, rfl⟩, ?_⟩ | refine ⟨⟨sub_fn, refs_fn⟩, ?_⟩ | refine ⟨⟨rfl, fun h => Bool.noConfusion h⟩, ?_⟩ | refine ⟨⟨rfl, fun h => ?_⟩, ?_⟩ | refine ⟨rfl, ?_⟩ | refine ⟨?_, ?_⟩ | fail))) ⟨(ad.trans a3).le (by simp only; omega), by simp only; omega, b ++ [x], by simp [hes], by simp [hlen]⟩ (by simp only; omega))
  · repeat' (first | (refine pA (k := ?_)) | (refine g_exec ?_; refine x_nil (hK _ _ aI ?_); clear hK K) | (refine v_region (fun K hK => ?_)) | (refine v_condt rfl (fun h => ?_) (fun h => ?_) <;> (have h' := h; try simp only [sx] at h')))
    all_goals first
      | (exfalso; omega)
      | (refine RetPost.mono (fun r fin h => ⟨⟨1 + r1, 1 + r2, b⟩, d, h, ((a1.trans a2).trans ad).le aO, by simp only; omega, by simp only; omega, by simp only; omega, by simp only; omega⟩) ?_
         ((first | refine ret_TL rfl rfl rfl (by first | exact trivial | (repeat' (first | exact trivial | refine ⟨by assumption, ?_⟩))) (by repeat' (first | exact trivial | refine ⟨by simp, ?_⟩)) (by first | exact trivial | exact ⟨⟨rfl, rfl, fun h => by cases h⟩, trivial⟩) ?_ | refine ret_AL rfl rfl rfl (by first | exact trivial | (repeat' (first | exact trivial | refine ⟨by assumption, ?_⟩))) (by repeat' (first | exact trivial | refine ⟨by simp, ?_⟩)) (by first | exact trivial | exact ⟨⟨rfl, rfl, fun h => by cases h⟩, trivial⟩) ?_); (repeat' (first | exact et_end | exact el_end | refine et_int rfl ?_ ?_ | refine et_bool ?_ ?_ | refine et_str ?_ ?_ | refine et_lst rfl rfl ?_ ?_ | refine et_listA rfl (by rfl) (by decide) rfl rfl ?_ ?_ ?_ | refine et_nil ?_ ?_ | refine et_agg0 ?_ ?_ | refine et_agg ?_ ?_ | refine el_int rfl ?_ ?_ | refine el_bool ?_ ?_ | refine el_str ?_ ?_ | refine el_lst rfl rfl ?_ ?_ | refine el_listA rfl (by rfl) (by decide) rfl rfl ?_ ?_ ?_ | refine el_nil ?_ ?_)) <;> (first | rfl | assumption | (simp; done) | omega)))
def TrSz (t : Terrain) : Prop := (0 ≤ t.width ∧ t.width ≤ 6) ∧ (0 ≤ t.height ∧ t.height ≤ 6) ∧ 1 ≤ t.burn.length ∧ t.burn.length ≤ 26
theorem k_anyTerrain (c : Cu) (hc : c.Ok) (hp : c.pos + 200 ≤ 1152921504606846976) :
    ContractP Try.prog 40 true [.own (io, 0) 0 0] [cuRow c] (fun r' fin' => ∃ (t : Terrain) (c' : Cu), (r' = .agg [.int .i64 t.width, .int .i64 t.height, .olist 3 1 (ints t.burn)] ∧ fin' = [[c'.pv]]) ∧ Aft c c' 200 ∧ TrSz t) := by
  refine contract_of hmix Try.func40 rfl (by kernel_rfl) (by kernel_rfl) (Nat.le_of_ble_eq_true rfl) (fun row h => by (simp only [List.mem_cons, List.not_mem_nil, or_false] at h; first | (subst h; (first | exact .inl rfl | exact .inr (fun e he u hu => by (simp only [List.mem_cons, List.not_mem_nil, or_false] at he; subst he; simp only [List.mem_cons, List.not_mem_nil, or_false] at hu; subst hu; rfl)))) | (rcases h with rfl | rfl <;> (first | exact .inl rfl | exact .inr (fun e he u hu => by (simp only [List.mem_cons, List.not_mem_nil, or_false] at he; subst he; simp only [List.mem_cons, List.not_mem_nil, or_false] at hu; subst hu; rfl)))) | (rcases h with rfl | rfl | rfl <;> (first | exact .inl rfl | exact .inr (fun e he u hu => by (simp only [List.mem_cons, List.not_mem_nil, or_false] at he; subst he; simp only [List.mem_cons, List.not_mem_nil, or_false] at hu; subst hu; rfl)))) | (rcases h with rfl | rfl | rfl | rfl <;> (first | exact .inl rfl | exact .inr (fun e he u hu => by (simp only [List.mem_cons, List.not_mem_nil, or_false] at he; subst he; simp only [List.mem_cons, List.not_mem_nil, or_false] at hu; subst hu; rfl)))))) ?_
  have hty_a26 := ty_a26
  have hty_z26 := ty_z26
  have hty_t26 := ty_t26
  have hty_f26_0 := ty_f26_0
  have hty_c3 := ty_c3
  have hty_s24 := ty_s24
  have hty_u24 := ty_u24
  have hty_t3 := ty_t3
  have hty_f26_1 := ty_f26_1
  have hty_f26_2 := ty_f26_2
  have hty_c24 := ty_c24
  have hty_t24 := ty_t24
  repeat' (first | (refine pA (k := ?_)) | (refine g_exec ?_; first | (refine g_call ?_; refine x_callLP [(io, 0)] (k_terrain c hc aO) rfl rfl aF rfl rfl aS rfl (fun r_ fin_ hP_ => ?_); obtain ⟨t, c1, ⟨rfl, rfl⟩, a1, hw, hh, hl1, hl2⟩ := hP_; refine ⟨_, _, _, aH, rfl, ?_⟩; simp only [cl]) | (refine x_nil (hK _ _ aI ?_); clear hK K)) | (refine v_region (fun K hK => ?_)) | (refine v_condt rfl (fun h => ?_) (fun h => ?_) <;> (have h' := h; try simp only [sx] at h')))
  have o1 := a1.ok hc aO
  have p1 := a1.pos
  obtain ⟨r, c2, k2, a2, g0, g1, _⟩ := k_pick c1 32 o1 aO aO
  have o2 := a2.ok o1 aO
  have p2 := a2.pos
  have aft2 := a1.trans a2
  have hil : (ints t.burn).length = t.burn.length := by simp
  by_cases e0 : r = 0
  · obtain ⟨x, c3, k3, a3, hx⟩ := k_among c2 [0, 6, t.width + 1] o2 aO (by simp)
    have hx6 : 0 ≤ x ∧ x ≤ 6 := by simp at hx; omega
    repeat' (first | (refine pA (k := ?_)) | (refine g_exec ?_; first | (refine g_call ?_; first | (refine x_callL [(io, 0)] (k2) rfl rfl aF rfl rfl aS rfl aH rfl ?_; simp only [cl]) | (refine x_callL [(io, 0)] (k3) rfl rfl aF rfl rfl aS rfl aH rfl ?_; simp only [cl])) | (refine x_nil (hK _ _ aI ?_); clear hK K)) | (refine v_region (fun K hK => ?_)) | (refine v_condt rfl (fun h => ?_) (fun h => ?_) <;> (have h' := h; try simp only [sx] at h')))
    all_goals first
      | (exfalso; omega)
      | (refine RetPost.mono (fun r fin h => ⟨⟨x, t.height, t.burn⟩, c3, h, (aft2.trans a3).le aO, hx6, by simp only; omega, hl1, by simp only; omega⟩) ?_
         ((first | refine ret_TL rfl rfl rfl (by first | exact trivial | (repeat' (first | exact trivial | refine ⟨by assumption, ?_⟩))) (by repeat' (first | exact trivial | refine ⟨by simp, ?_⟩)) (by first | exact trivial | exact ⟨⟨rfl, rfl, fun h => by cases h⟩, trivial⟩) ?_ | refine ret_AL rfl rfl rfl (by first | exact trivial | (repeat' (first | exact trivial | refine ⟨by assumption, ?_⟩))) (by repeat' (first | exact trivial | refine ⟨by simp, ?_⟩)) (by first | exact trivial | exact ⟨⟨rfl, rfl, fun h => by cases h⟩, trivial⟩) ?_); (repeat' (first | exact et_end | exact el_end | refine et_int rfl ?_ ?_ | refine et_bool ?_ ?_ | refine et_str ?_ ?_ | refine et_lst rfl rfl ?_ ?_ | refine et_listA rfl (by rfl) (by decide) rfl rfl ?_ ?_ ?_ | refine et_nil ?_ ?_ | refine et_agg0 ?_ ?_ | refine et_agg ?_ ?_ | refine el_int rfl ?_ ?_ | refine el_bool ?_ ?_ | refine el_str ?_ ?_ | refine el_lst rfl rfl ?_ ?_ | refine el_listA rfl (by rfl) (by decide) rfl rfl ?_ ?_ ?_ | refine el_nil ?_ ?_)) <;> (first | rfl | assumption | (simp; done) | omega)))
  · by_cases e1 : r = 1
    · obtain ⟨x, c3, k3, a3, hx⟩ := k_among c2 [0, 6, t.height + 1] o2 aO (by simp)
      have hx6 : 0 ≤ x ∧ x ≤ 6 := by simp at hx; omega
      repeat' (first | (refine pA (k := ?_)) | (refine g_exec ?_; first | (refine g_call ?_; first | (refine x_callL [(io, 0)] (k2) rfl rfl aF rfl rfl aS rfl aH rfl ?_; simp only [cl]) | (refine x_callL [(io, 0)] (k3) rfl rfl aF rfl rfl aS rfl aH rfl ?_; simp only [cl])) | (refine x_nil (hK _ _ aI ?_); clear hK K)) | (refine v_region (fun K hK => ?_)) | (refine v_condt rfl (fun h => ?_) (fun h => ?_) <;> (have h' := h; try simp only [sx] at h')))
      all_goals first
        | (exfalso; omega)
        | (refine RetPost.mono (fun r fin h => ⟨⟨t.width, x, t.burn⟩, c3, h, (aft2.trans a3).le aO, by simp only; omega, hx6, hl1, by simp only; omega⟩) ?_
           ((first | refine ret_TL rfl rfl rfl (by first | exact trivial | (repeat' (first | exact trivial | refine ⟨by assumption, ?_⟩))) (by repeat' (first | exact trivial | refine ⟨by simp, ?_⟩)) (by first | exact trivial | exact ⟨⟨rfl, rfl, fun h => by cases h⟩, trivial⟩) ?_ | refine ret_AL rfl rfl rfl (by first | exact trivial | (repeat' (first | exact trivial | refine ⟨by assumption, ?_⟩))) (by repeat' (first | exact trivial | refine ⟨by simp, ?_⟩)) (by first | exact trivial | exact ⟨⟨rfl, rfl, fun h => by cases h⟩, trivial⟩) ?_); (repeat' (first | exact et_end | exact el_end | refine et_int rfl ?_ ?_ | refine et_bool ?_ ?_ | refine et_str ?_ ?_ | refine et_lst rfl rfl ?_ ?_ | refine et_listA rfl (by rfl) (by decide) rfl rfl ?_ ?_ ?_ | refine et_nil ?_ ?_ | refine et_agg0 ?_ ?_ | refine et_agg ?_ ?_ | refine el_int rfl ?_ ?_ | refine el_bool ?_ ?_ | refine el_str ?_ ?_ | refine el_lst rfl rfl ?_ ?_ | refine el_listA rfl (by rfl) (by decide) rfl rfl ?_ ?_ ?_ | refine el_nil ?_ ?_)) <;> (first | rfl | assumption | (simp; done) | omega)))
    · by_cases e2 : r = 2
      · obtain ⟨k, c3, k3, a3, g2, g3, _⟩ := k_pick c2 t.burn.length o2 aO aO
        have g3 := g3 aO
        have o3 := a3.ok o2 aO
        have p3 := a3.pos
        obtain ⟨x, c4, k4, a4, _⟩ := k_among c3 [-1, 20, 21] o3 aO (by decide)
        obtain ⟨y, hy⟩ := get_ex (show k.toNat < t.burn.length by omega)
        have hy2 := ints_at hy
        have e := ints_set t.burn k.toNat x
        rw [← hil] at k3
        repeat' (first | (refine pA (k := ?_)) | (refine g_exec ?_; first | (refine g_call ?_; first | (refine x_callL [(io, 0)] (k2) rfl rfl aF rfl rfl aS rfl aH rfl ?_; simp only [cl]) | (refine x_callL [(io, 0)] (k3) rfl rfl aF rfl rfl aS rfl aH rfl ?_; simp only [cl]) | (refine x_callL [(io, 0)] (k4) rfl rfl aF rfl rfl aS rfl aH rfl ?_; simp only [cl])) | (refine x_nil (hK _ _ aI ?_); clear hK K)) | (refine v_region (fun K hK => ?_)) | (refine v_condt rfl (fun h => ?_) (fun h => ?_) <;> (have h' := h; try simp only [sx] at h')))
        all_goals first
          | (exfalso; omega)
          | (refine RetPost.mono (fun r fin h => ⟨⟨t.width, t.height, t.burn.set k.toNat x⟩, c4, h, ((aft2.trans a3).trans a4).le aO, by simp only; omega, by simp only; omega, by simp only [List.length_set]; omega, by simp only [List.length_set]; omega⟩) ?_
             (first | refine ret_TL rfl rfl rfl (by first | exact trivial | (repeat' (first | exact trivial | refine ⟨by assumption, ?_⟩))) (by repeat' (first | exact trivial | refine ⟨by simp, ?_⟩)) (by first | exact trivial | exact ⟨⟨rfl, rfl, fun h => by cases h⟩, trivial⟩) ?_ | refine ret_AL rfl rfl rfl (by first | exact trivial | (repeat' (first | exact trivial | refine ⟨by assumption, ?_⟩))) (by repeat' (first | exact trivial | refine ⟨by simp, ?_⟩)) (by first | exact trivial | exact ⟨⟨rfl, rfl, fun h => by cases h⟩, trivial⟩) ?_); (repeat' (first | exact et_end | exact el_end | refine et_int rfl ?_ ?_ | refine et_bool ?_ ?_ | refine et_str ?_ ?_ | refine et_lst rfl rfl ?_ ?_ | refine et_listA rfl (by rfl) (by decide) rfl rfl ?_ ?_ ?_ | refine et_nil ?_ ?_ | refine et_agg0 ?_ ?_ | refine et_agg ?_ ?_ | refine el_int rfl ?_ ?_ | refine el_bool ?_ ?_ | refine el_str ?_ ?_ | refine el_lst rfl rfl ?_ ?_ | refine el_listA rfl (by rfl) (by decide) rfl rfl ?_ ?_ ?_ | refine el_nil ?_ ?_)) <;> first | rfl | (simp [e]; done) | (simp; done) | omega)
      · by_cases e3 : r = 3
        · repeat' (first | (refine pA (k := ?_)) | (refine g_exec ?_; first | (refine g_call ?_; refine x_callL [(io, 0)] (k2) rfl rfl aF rfl rfl aS rfl aH rfl ?_; simp only [cl]) | (refine x_nil (hK _ _ aI ?_); clear hK K)) | (refine v_region (fun K hK => ?_)) | (refine v_condt rfl (fun h => ?_) (fun h => ?_) <;> (have h' := h; try simp only [sx] at h')))
          all_goals first
            | (exfalso; omega)
            | (refine RetPost.mono (fun r fin h => ⟨⟨t.width, t.height, t.burn ++ [1]⟩, c2, h, aft2.le aO, by simp only; omega, by simp only; omega, by simp, by simp; omega⟩) ?_
               (first | refine ret_TL rfl rfl rfl (by first | exact trivial | (repeat' (first | exact trivial | refine ⟨by assumption, ?_⟩))) (by repeat' (first | exact trivial | refine ⟨by simp, ?_⟩)) (by first | exact trivial | exact ⟨⟨rfl, rfl, fun h => by cases h⟩, trivial⟩) ?_ | refine ret_AL rfl rfl rfl (by first | exact trivial | (repeat' (first | exact trivial | refine ⟨by assumption, ?_⟩))) (by repeat' (first | exact trivial | refine ⟨by simp, ?_⟩)) (by first | exact trivial | exact ⟨⟨rfl, rfl, fun h => by cases h⟩, trivial⟩) ?_); (repeat' (first | exact et_end | exact el_end | refine et_int rfl ?_ ?_ | refine et_bool ?_ ?_ | refine et_str ?_ ?_ | refine et_lst rfl rfl ?_ ?_ | refine et_listA rfl (by rfl) (by decide) rfl rfl ?_ ?_ ?_ | refine et_nil ?_ ?_ | refine et_agg0 ?_ ?_ | refine et_agg ?_ ?_ | refine el_int rfl ?_ ?_ | refine el_bool ?_ ?_ | refine el_str ?_ ?_ | refine el_lst rfl rfl ?_ ?_ | refine el_listA rfl (by rfl) (by decide) rfl rfl ?_ ?_ ?_ | refine el_nil ?_ ?_)) <;> first | rfl | (simp; done) | omega)
        · repeat' (first | (refine pA (k := ?_)) | (refine g_exec ?_; first | (refine g_call ?_; refine x_callL [(io, 0)] (k2) rfl rfl aF rfl rfl aS rfl aH rfl ?_; simp only [cl]) | (refine x_nil (hK _ _ aI ?_); clear hK K)) | (refine v_region (fun K hK => ?_)) | (refine v_condt rfl (fun h => ?_) (fun h => ?_) <;> (have h' := h; try simp only [sx] at h')))
          all_goals first
            | (exfalso; omega)
            | (refine RetPost.mono (fun r fin h => ⟨t, c2, h, aft2.le aO, by omega, by omega, by omega, by omega⟩) ?_
               (first | refine ret_TL rfl rfl rfl (by first | exact trivial | (repeat' (first | exact trivial | refine ⟨by assumption, ?_⟩))) (by repeat' (first | exact trivial | refine ⟨by simp, ?_⟩)) (by first | exact trivial | exact ⟨⟨rfl, rfl, fun h => by cases h⟩, trivial⟩) ?_ | refine ret_AL rfl rfl rfl (by first | exact trivial | (repeat' (first | exact trivial | refine ⟨by assumption, ?_⟩))) (by repeat' (first | exact trivial | refine ⟨by simp, ?_⟩)) (by first | exact trivial | exact ⟨⟨rfl, rfl, fun h => by cases h⟩, trivial⟩) ?_); (repeat' (first | exact et_end | exact el_end | refine et_int rfl ?_ ?_ | refine et_bool ?_ ?_ | refine et_str ?_ ?_ | refine et_lst rfl rfl ?_ ?_ | refine et_listA rfl (by rfl) (by decide) rfl rfl ?_ ?_ ?_ | refine et_nil ?_ ?_ | refine et_agg0 ?_ ?_ | refine et_agg ?_ ?_ | refine el_int rfl ?_ ?_ | refine el_bool ?_ ?_ | refine el_str ?_ ?_ | refine el_lst rfl rfl ?_ ?_ | refine el_listA rfl (by rfl) (by decide) rfl rfl ?_ ?_ ?_ | refine el_nil ?_ ?_)) <;> first | rfl | (simp; done) | omega)
theorem k_anyTerrainZ (c : Cu) (hc : c.Ok) (hp : c.pos + 200 ≤ 1152921504606846976) :
    ContractP Try.prog 40 true [.own (io, 0) 0 0] [cuRow c] (fun r' fin' => ∃ (t : Terrain) (c' : Cu), (r' = .agg t.pv ∧ fin' = [[c'.pv]]) ∧ Aft c c' 200 ∧ TrSz t) := by
  refine ContractP.mono ?_ (ConL.frzP (k_anyTerrain c hc hp) (by rintro r fin ⟨t, c', ⟨rfl, rfl⟩, _⟩; rfl) (by intro row h; simp at h; subst h; rfl))
  rintro r fin ⟨r', rfl, t, c', ⟨rfl, rfl⟩, h⟩
  exact ⟨t, c', ⟨rfl, rfl⟩, h⟩
end Go.Vs
