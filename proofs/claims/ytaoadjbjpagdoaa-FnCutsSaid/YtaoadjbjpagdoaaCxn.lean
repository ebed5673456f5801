/- PROVED: the given statement FnCuts: whatever the arguments, the law returns true and the arguments read as they did; no condition. -/
import Derived.Test.YtaoadjbjpagdoaaCxm
import Derived.WalkKit
import Derived.Orders
import Derived.Laws.MakeOwn
import Derived.Laws.BytesString
import Derived.KernelRfl
import Derived.Below
import Derived.ChangeArms
import Derived.Deep.Slices
import Derived.Test.YtaoadjbjpagdoaaRows
import Derived.Laws.Strings
import Derived.Laws.StructEq
import Derived.ChangeKeysEq
import Derived.ProofKit
import Derived.OpenShut
import Derived.ShutString
import Derived.ChangeOld
set_option linter.unusedVariables false
set_option linter.unusedSimpArgs false
set_option maxRecDepth 100000
set_option maxHeartbeats 4000000
namespace Go.Vs
open Go.Proofs
attribute [local irreducible] exec vwp thenQ blkQ loopQ RetPost
@[reducible] def dly (n : Int) (c : Cut) : Cut := ⟨c.cell, c.tick + n⟩
def TickC (cs : List Cut) (n : Int) : Prop := (∀ c ∈ cs, 0 ≤ c.tick ∧ c.tick ≤ 9999) ∧ cs.length ≤ 8 ∧ 0 ≤ n ∧ n ≤ 9999
theorem k_delayed (cs : List Cut) (n : Int) (h0 : TickC cs n) : Con Try.prog 37 [.list 2 (cs.map Cut.pv), .int .i64 n] (.olist 38 2 ((cs.map (dly n)).map Cut.pv)) := by
  intro al
  refine contract_of hmix Try.func37 rfl (by kernel_rfl) (by kernel_rfl) (Nat.le_of_ble_eq_true rfl) (fun row h => by cases h) ?_
  have hty_s30 := ty_s30
  have hty_u30 := ty_u30
  have hty_a38 := ty_a38
  have hty_z38 := ty_z38
  have hty_t38 := ty_t38
  have hty_f38_0 := ty_f38_0
  have hty_c3 := ty_c3
  have hty_f38_1 := ty_f38_1
  have hty_st38 := ty_st38
  have hl1 : (cs.map Cut.pv).length = cs.length := by simp
  have hcl := h0.2
  repeat' (first | (refine pA (k := ?_)) | (refine g_exec ?_; refine x_nil (hK _ _ aI ?_); clear hK K) | (refine v_region (fun K hK => ?_)) | (refine v_condt rfl (fun h => ?_) (fun h => ?_) <;> (have h' := h; try simp only [sx] at h')))
  refine v_loopK [1, 9, 10] [] (fun q : Nat × List (List PV) => [(5, .osl (1001, 0) 0 q.1), (11, .int .i64 q.1)]) (fun q : Nat × List (List PV) => [((1001, 0), some ⟨38, 2, q.2, false⟩)]) (fun q : Nat × List (List PV) => q.1 ≤ cs.length ∧ q.2 = ((cs.take q.1).map (dly n)).map Cut.pv) (fun q : Nat × List (List PV) => cs.length - q.1) ((0, [])) rfl rfl (fun _ => rfl) (fun _ => rfl) rfl (by refine ⟨?_, ?_, rfl, rfl⟩ <;> (repeat' (first | exact trivial | exact ⟨rfl, rfl⟩ | exact rfl | exact ⟨sub_fn, refs_fn⟩ | refine ⟨⟨rfl, rfl⟩, ?_⟩ | refine ⟨⟨sub_fn, refs_fn⟩, ?_⟩ | refine ⟨⟨rfl, fun h => Bool.noConfusion h⟩, ?_⟩ | refine ⟨⟨rfl, fun h => ?_⟩, ?_⟩ | refine ⟨rfl, ?_⟩ | refine ⟨?_, ?_⟩ | fail))) ⟨by simp, by simp⟩ (fun q hq => ?_)
  obtain ⟨i, es⟩ := q
  obtain ⟨hi1, hi2⟩ := hq
  simp only at hi1 hi2
  have hl : es.length = i := by rw [hi2]; simp; omega
  dsimp only
  rcases Nat.lt_or_ge i cs.length with hlt | hge
  · obtain ⟨a, hga⟩ := get_ex hlt
    have hx := Cut.at hga
    have hta := h0.1 a (get_mem hga)
    repeat' (first | (refine pA (k := ?_)) | (refine g_exec ?_; refine x_nil (hK _ _ aI ?_); clear hK K) | (refine v_region (fun K hK => ?_)) | (refine v_condt rfl (fun h => ?_) (fun h => ?_) <;> (have h' := h; try simp only [sx] at h')))
    refine q_next (i + 1, es ++ [[.int .i64 a.cell, .int .i64 (a.tick + n)]]) rfl (by refine ⟨?_, ?_, rfl, rfl⟩ <;> (repeat' (first | exact trivial | exact ⟨rfl, rfl⟩ | exact rfl | exact ⟨sub_fn, refs_fn⟩ | refine ⟨⟨rfl, rfl⟩, ?_⟩ | refine ⟨⟨sub_fn, refs_fn⟩, ?_⟩ | refine ⟨⟨rfl, fun h => Bool.noConfusion h⟩, ?_⟩ | refine ⟨⟨rfl, fun h => ?_⟩, ?_⟩ | refine ⟨rfl, ?_⟩ | refine ⟨?_, ?_⟩ | fail))) ⟨by simp only; omega, ?_⟩ (by simp only; omega)
    simp only [map_take_succ (dly n) hga, List.map_append, hi2, List.map_cons, List.map_nil]
  · repeat' (first | (refine pA (k := ?_)) | (refine g_exec ?_; refine x_nil (hK _ _ aI ?_); clear hK K) | (refine v_region (fun K hK => ?_)) | (refine v_condt rfl (fun h => ?_) (fun h => ?_) <;> (have h' := h; try simp only [sx] at h')))
    rw [take_all hge] at hi2
    exact ret_list rfl (lookE_ok (by rfl)) (by rfl) (by decide) hl.symm (by rw [hi2]; exact Cut.flat _) hi2
theorem k_l25Delay (cs : List Cut) (n : Int) (h0 : TickC cs n) : Con Try.prog 39 [.list 2 (cs.map Cut.pv), .int .i64 n] (.olist 38 2 ((cs.map (dly n)).map Cut.pv)) := by
  intro al
  refine contract_of hmix Try.func39 rfl (by kernel_rfl) (by kernel_rfl) (Nat.le_of_ble_eq_true rfl) (fun row h => by cases h) ?_
  have hty_s30 := ty_s30
  have hty_u30 := ty_u30
  have hty_f38_0 := ty_f38_0
  have hty_c3 := ty_c3
  have hty_f38_1 := ty_f38_1
  have hty_st38 := ty_st38
  have hl1 : (cs.map Cut.pv).length = cs.length := by simp
  have hcl := h0.2
  repeat' (first | (refine pA (k := ?_)) | (refine g_exec ?_; refine x_nil (hK _ _ aI ?_); clear hK K) | (refine v_region (fun K hK => ?_)) | (refine v_condt rfl (fun h => ?_) (fun h => ?_) <;> (have h' := h; try simp only [sx] at h')))
  refine v_loopK [0, 1] [] (fun q : Nat × List (List PV) => [(5, .osl (1001, 0) 0 q.1), (6, .int .i64 q.1)]) (fun q : Nat × List (List PV) => [((1001, 0), some ⟨38, 2, q.2, false⟩)]) (fun q : Nat × List (List PV) => q.1 ≤ cs.length ∧ q.2 = ((cs.take q.1).map (dly n)).map Cut.pv) (fun q : Nat × List (List PV) => cs.length - q.1) ((0, [])) rfl rfl (fun _ => rfl) (fun _ => rfl) rfl (by refine ⟨?_, ?_, rfl, rfl⟩ <;> (repeat' (first | exact trivial | exact ⟨rfl, rfl⟩ | exact rfl | exact ⟨sub_fn, refs_fn⟩ | refine ⟨⟨rfl, rfl⟩, ?_⟩ | refine ⟨⟨sub_fn, refs_fn⟩, ?_⟩ | refine ⟨⟨rfl, fun h => Bool.noConfusion h⟩, ?_⟩ | refine ⟨⟨rfl, fun h => ?_⟩, ?_⟩ | refine ⟨rfl, ?_⟩ | refine ⟨?_, ?_⟩ | fail))) ⟨by simp, by simp⟩ (fun q hq => ?_)
  obtain ⟨i, es⟩ := q
  obtain ⟨hi1, hi2⟩ := hq
  simp only at hi1 hi2
  have hl : es.length = i := by rw [hi2]; simp; omega
  dsimp only
  rcases Nat.lt_or_ge i cs.length with hlt | hge
  · obtain ⟨a, hga⟩ := get_ex hlt
    have hx := Cut.at hga
    have hta := h0.1 a (get_mem hga)
    repeat' (first | (refine pA (k := ?_)) | (refine g_exec ?_; refine x_nil (hK _ _ aI ?_); clear hK K) | (refine v_region (fun K hK => ?_)) | (refine v_condt rfl (fun h => ?_) (fun h => ?_) <;> (have h' := h; try simp only [sx] at h')))
    refine q_next (i + 1, es ++ [[.int .i64 a.cell, .int .i64 (a.tick + n)]]) rfl (by refine ⟨?_, ?_, rfl, rfl⟩ <;> (repeat' (first | exact trivial | exact ⟨rfl, rfl⟩ | exact rfl | exact ⟨sub_fn, refs_fn⟩ | refine ⟨⟨rfl, rfl⟩, ?_⟩ | refine ⟨⟨sub_fn, refs_fn⟩, ?_⟩ | refine ⟨⟨rfl, fun h => Bool.noConfusion h⟩, ?_⟩ | refine ⟨⟨rfl, fun h => ?_⟩, ?_⟩ | refine ⟨rfl, ?_⟩ | refine ⟨?_, ?_⟩ | fail))) ⟨by simp only; omega, ?_⟩ (by simp only; omega)
    simp only [map_take_succ (dly n) hga, List.map_append, hi2, List.map_cons, List.map_nil]
  · repeat' (first | (refine pA (k := ?_)) | (refine g_exec ?_; refine x_nil (hK _ _ aI ?_); clear hK K) | (refine v_region (fun K hK => ?_)) | (refine v_condt rfl (fun h => ?_) (fun h => ?_) <;> (have h' := h; try simp only [sx] at h')))
    rw [take_all hge] at hi2
    exact ret_list rfl (lookE_ok (by rfl)) (by rfl) (by decide) hl.symm (by rw [hi2]; exact Cut.flat _) hi2
def DcOk (t : Terrain) (cs : List Cut) (n : Int) : Prop := GoodC t cs ∧ (0 ≤ n ∧ n ≤ 9999) ∧ GoodC t (cs.map (dly n))
instance (t : Terrain) (cs : List Cut) (n : Int) : Decidable (DcOk t cs n) := by unfold DcOk; infer_instance
def dcL (t : Terrain) (cs : List Cut) (n : Int) : List Cut := if DcOk t cs n then cs.map (dly n) else []
theorem dcL_len (t : Terrain) (cs : List Cut) (n : Int) : (dcL t cs n).length ≤ cs.length := by unfold dcL; split <;> simp
theorem tickC {t : Terrain} {cs : List Cut} {n : Int} (h : GoodC t cs) (hn : 0 ≤ n ∧ n ≤ 9999) : TickC cs n := ⟨fun c hc => (h.2.one c hc).2.2, h.2.2, hn⟩
@[reducible] def dcRes (t : Terrain) (cs : List Cut) (n : Int) : PV := .tuple [.olist 38 2 ((dcL t cs n).map Cut.pv), .bool (decide (DcOk t cs n))]
theorem k_sDelay (t : Terrain) (cs : List Cut) (n : Int) (hn : t.burn.length ≤ 1099511627776) (hm : cs.length ≤ 1099511627776) : Con Try.prog 18 [.agg t.pv, .list 2 (cs.map Cut.pv), .int .i64 n] (dcRes t cs n) := by
  intro al
  refine contract_of hmix Try.func18 rfl (by kernel_rfl) (by kernel_rfl) (Nat.le_of_ble_eq_true rfl) (fun row h => by cases h) ?_
  have hty_a26 := ty_a26
  have hty_u30 := ty_u30
  have hty_s30 := ty_s30
  have k1 := k_l25Good t cs hn hm
  have hfl := Cut.flat (cs.map (dly n))
  by_cases hg : GoodC t cs
  · rw [decide_eq_true hg] at k1
    by_cases hb : 0 ≤ n ∧ n ≤ 9999
    · have h2 := k_l25Good t (cs.map (dly n)) hn (by rw [List.length_map]; exact hm)
      by_cases hd : GoodC t (cs.map (dly n))
      · rw [decide_eq_true hd] at h2
        have hok : DcOk t cs n := ⟨hg, hb, hd⟩
        rw [dcRes, decide_eq_true hok, dcL, if_pos hok]
        repeat' (first | (refine pA (k := ?_)) | (refine g_exec ?_; first | (refine g_call ?_; first | (refine x_callG true (k1) rfl rfl rfl aS rfl aH ?_; simp only [cl]) | (refine x_callG true (k_l4Tick _) rfl rfl rfl aS rfl aH ?_; simp only [cl]) | (refine x_callG true (h2) rfl rfl rfl aS rfl aH ?_; simp only [cl]) | (refine x_callG true (k_l25Delay cs n (tickC hg hb)) rfl rfl rfl aS rfl aH ?_; simp only [cl])) | (refine g_guard ?_; refine x_gsplit rfl rfl (fun h => ?_) (fun h => ?_) <;> (have h' := h; try simp only [sx] at h')) | (refine x_nil (hK _ _ aI ?_); clear hK K)) | (refine v_region (fun K hK => ?_)) | (refine v_condt rfl (fun h => ?_) (fun h => ?_) <;> (have h' := h; try simp only [sx] at h')))
        exact aR
      · rw [decide_eq_false hd] at h2
        have hok : ¬ DcOk t cs n := fun h => hd h.2.2
        rw [dcRes, decide_eq_false hok, dcL, if_neg hok]
        repeat' (first | (refine pA (k := ?_)) | (refine g_exec ?_; first | (refine g_call ?_; first | (refine x_callG true (k1) rfl rfl rfl aS rfl aH ?_; simp only [cl]) | (refine x_callG true (k_l4Tick _) rfl rfl rfl aS rfl aH ?_; simp only [cl]) | (refine x_callG true (h2) rfl rfl rfl aS rfl aH ?_; simp only [cl]) | (refine x_callG true (k_l25Delay cs n (tickC hg hb)) rfl rfl rfl aS rfl aH ?_; simp only [cl])) | (refine g_guard ?_; refine x_gsplit rfl rfl (fun h => ?_) (fun h => ?_) <;> (have h' := h; try simp only [sx] at h')) | (refine x_nil (hK _ _ aI ?_); clear hK K)) | (refine v_region (fun K hK => ?_)) | (refine v_condt rfl (fun h => ?_) (fun h => ?_) <;> (have h' := h; try simp only [sx] at h')))
        exact aR
    · have hok : ¬ DcOk t cs n := fun h => hb h.2.1
      rw [dcRes, decide_eq_false hok, dcL, if_neg hok]
      repeat' (first | (refine pA (k := ?_)) | (refine g_exec ?_; first | (refine g_call ?_; first | (refine x_callG true (k1) rfl rfl rfl aS rfl aH ?_; simp only [cl]) | (refine x_callG true (k_l4Tick _) rfl rfl rfl aS rfl aH ?_; simp only [cl])) | (refine g_guard ?_; refine x_gsplit rfl rfl (fun h => ?_) (fun h => ?_) <;> (have h' := h; try simp only [sx] at h')) | (refine x_nil (hK _ _ aI ?_); clear hK K)) | (refine v_region (fun K hK => ?_)) | (refine v_condt rfl (fun h => ?_) (fun h => ?_) <;> (have h' := h; try simp only [sx] at h')))
      all_goals first | exact aR | (exfalso; omega)
  · rw [decide_eq_false hg] at k1
    have hok : ¬ DcOk t cs n := fun h => hg h.1
    rw [dcRes, decide_eq_false hok, dcL, if_neg hok]
    repeat' (first | (refine pA (k := ?_)) | (refine g_exec ?_; first | (refine g_call ?_; first | (refine x_callG true (k1) rfl rfl rfl aS rfl aH ?_; simp only [cl]) | (refine x_callG true (k_l4Tick _) rfl rfl rfl aS rfl aH ?_; simp only [cl])) | (refine g_guard ?_; refine x_gsplit rfl rfl (fun h => ?_) (fun h => ?_) <;> (have h' := h; try simp only [sx] at h')) | (refine x_nil (hK _ _ aI ?_); clear hK K)) | (refine v_region (fun K hK => ?_)) | (refine v_condt rfl (fun h => ?_) (fun h => ?_) <;> (have h' := h; try simp only [sx] at h')))
    all_goals exact aR
theorem k_iDelay (t : Terrain) (cs : List Cut) (n : Int) (hn : t.burn.length ≤ 1099511627776) (hm : cs.length ≤ 1099511627776) : Con Try.prog 17 [.agg t.pv, .list 2 (cs.map Cut.pv), .int .i64 n] (dcRes t cs n) := by
  intro al
  refine contract_of hmix Try.func17 rfl (by kernel_rfl) (by kernel_rfl) (Nat.le_of_ble_eq_true rfl) (fun row h => by cases h) ?_
  have hty_a26 := ty_a26
  have hty_u30 := ty_u30
  have hty_s30 := ty_s30
  have k1 := k_iAreCuts t cs hn hm
  have hfl := Cut.flat (cs.map (dly n))
  by_cases hg : GoodC t cs
  · rw [decide_eq_true hg] at k1
    by_cases hb : 0 ≤ n ∧ n ≤ 9999
    · have h2 := k_iAreCuts t (cs.map (dly n)) hn (by rw [List.length_map]; exact hm)
      by_cases hd : GoodC t (cs.map (dly n))
      · rw [decide_eq_true hd] at h2
        have hok : DcOk t cs n := ⟨hg, hb, hd⟩
        rw [dcRes, decide_eq_true hok, dcL, if_pos hok]
        repeat' (first | (refine pA (k := ?_)) | (refine g_exec ?_; first | (refine g_call ?_; first | (refine x_callG true (k1) rfl rfl rfl aS rfl aH ?_; simp only [cl]) | (refine x_callG true (k_isTick _) rfl rfl rfl aS rfl aH ?_; simp only [cl]) | (refine x_callG true (h2) rfl rfl rfl aS rfl aH ?_; simp only [cl]) | (refine x_callG true (k_delayed cs n (tickC hg hb)) rfl rfl rfl aS rfl aH ?_; simp only [cl])) | (refine g_guard ?_; refine x_gsplit rfl rfl (fun h => ?_) (fun h => ?_) <;> (have h' := h; try simp only [sx] at h')) | (refine x_nil (hK _ _ aI ?_); clear hK K)) | (refine v_region (fun K hK => ?_)) | (refine v_condt rfl (fun h => ?_) (fun h => ?_) <;> (have h' := h; try simp only [sx] at h')))
        exact aR
      · rw [decide_eq_false hd] at h2
        have hok : ¬ DcOk t cs n := fun h => hd h.2.2
        rw [dcRes, decide_eq_false hok, dcL, if_neg hok]
        repeat' (first | (refine pA (k := ?_)) | (refine g_exec ?_; first | (refine g_call ?_; first | (refine x_callG true (k1) rfl rfl rfl aS rfl aH ?_; simp only [cl]) | (refine x_callG true (k_isTick _) rfl rfl rfl aS rfl aH ?_; simp only [cl]) | (refine x_callG true (h2) rfl rfl rfl aS rfl aH ?_; simp only [cl]) | (refine x_callG true (k_delayed cs n (tickC hg hb)) rfl rfl rfl aS rfl aH ?_; simp only [cl])) | (refine g_guard ?_; refine x_gsplit rfl rfl (fun h => ?_) (fun h => ?_) <;> (have h' := h; try simp only [sx] at h')) | (refine x_nil (hK _ _ aI ?_); clear hK K)) | (refine v_region (fun K hK => ?_)) | (refine v_condt rfl (fun h => ?_) (fun h => ?_) <;> (have h' := h; try simp only [sx] at h')))
        exact aR
    · have hok : ¬ DcOk t cs n := fun h => hb h.2.1
      rw [dcRes, decide_eq_false hok, dcL, if_neg hok]
      repeat' (first | (refine pA (k := ?_)) | (refine g_exec ?_; first | (refine g_call ?_; first | (refine x_callG true (k1) rfl rfl rfl aS rfl aH ?_; simp only [cl]) | (refine x_callG true (k_isTick _) rfl rfl rfl aS rfl aH ?_; simp only [cl])) | (refine g_guard ?_; refine x_gsplit rfl rfl (fun h => ?_) (fun h => ?_) <;> (have h' := h; try simp only [sx] at h')) | (refine x_nil (hK _ _ aI ?_); clear hK K)) | (refine v_region (fun K hK => ?_)) | (refine v_condt rfl (fun h => ?_) (fun h => ?_) <;> (have h' := h; try simp only [sx] at h')))
      all_goals first | exact aR | (exfalso; omega)
  · rw [decide_eq_false hg] at k1
    have hok : ¬ DcOk t cs n := fun h => hg h.1
    rw [dcRes, decide_eq_false hok, dcL, if_neg hok]
    repeat' (first | (refine pA (k := ?_)) | (refine g_exec ?_; first | (refine g_call ?_; first | (refine x_callG true (k1) rfl rfl rfl aS rfl aH ?_; simp only [cl]) | (refine x_callG true (k_isTick _) rfl rfl rfl aS rfl aH ?_; simp only [cl])) | (refine g_guard ?_; refine x_gsplit rfl rfl (fun h => ?_) (fun h => ?_) <;> (have h' := h; try simp only [sx] at h')) | (refine x_nil (hK _ _ aI ?_); clear hK K)) | (refine v_region (fun K hK => ?_)) | (refine v_condt rfl (fun h => ?_) (fun h => ?_) <;> (have h' := h; try simp only [sx] at h')))
    all_goals exact aR
end Go.Vs
set_option linter.unusedVariables false
set_option linter.unusedSimpArgs false
set_option maxRecDepth 100000
set_option maxHeartbeats 4000000
namespace Go.Vs
open Go.Proofs
theorem arr_len {b : Blz} (hb : GoodB b) : (arr b).length = b.t.burn.length := (arr_ok hb).2.pre.len
end Go.Vs
set_option linter.unusedVariables false
set_option linter.unusedSimpArgs false
set_option maxRecDepth 100000
set_option maxHeartbeats 4000000
namespace Go.Vs
open Go.Proofs
attribute [local irreducible] exec vwp thenQ blkQ loopQ RetPost
noncomputable def arL (b : Blz) : List Int := if GoodB b then arr b else []
theorem k_sArr (b : Blz) (z : SzB b) : Con Try.prog 10 [.agg b.t.pv, .list 2 (b.ps.map Phase.pv), .list 1 (ints b.src), .int .i64 b.st] (.tuple [.olist 3 1 (ints (arL b)), .bool (decide (GoodB b))]) := by
  intro al
  refine contract_of hmix Try.func10 rfl (by kernel_rfl) (by kernel_rfl) (Nat.le_of_ble_eq_true rfl) (fun row h => by cases h) ?_
  have hty_a26 := ty_a26
  have hty_u27 := ty_u27
  have hty_s27 := ty_s27
  have hty_u24 := ty_u24
  have hty_s24 := ty_s24
  have k1 := k_l4Asked b z
  by_cases hb : GoodB b
  · rw [arL, if_pos hb, decide_eq_true hb]
    rw [decide_eq_true hb] at k1
    repeat' (first | (refine pA (k := ?_)) | (refine g_exec ?_; first | (refine g_call ?_; first | (refine x_callG true (k1) rfl rfl rfl aS rfl aH ?_; simp only [cl]) | (refine x_callG true (k_l4Arrivals b hb z.hs) rfl rfl rfl aS rfl aH ?_; simp only [cl])) | (refine x_nil (hK _ _ aI ?_); clear hK K)) | (refine v_region (fun K hK => ?_)) | (refine v_condt rfl (fun h => ?_) (fun h => ?_) <;> (have h' := h; try simp only [sx] at h')))
    all_goals first
      | (exfalso; omega)
      | exact aR
  · rw [arL, if_neg hb, decide_eq_false hb]
    rw [decide_eq_false hb] at k1
    repeat' (first | (refine pA (k := ?_)) | (refine g_exec ?_; first | (refine g_call ?_; refine x_callG true (k1) rfl rfl rfl aS rfl aH ?_; simp only [cl]) | (refine x_nil (hK _ _ aI ?_); clear hK K)) | (refine v_region (fun K hK => ?_)) | (refine v_condt rfl (fun h => ?_) (fun h => ?_) <;> (have h' := h; try simp only [sx] at h')))
    all_goals first
      | (exfalso; omega)
      | exact aR
def WdOk (ps : List Phase) (t w : Int) : Prop := GoodP ps ∧ (0 ≤ t ∧ t ≤ 9999) ∧ (0 ≤ w ∧ w ≤ 1000) ∧ dn (spF ps) t w ≤ 9999
instance (ps : List Phase) (t w : Int) : Decidable (WdOk ps t w) := by unfold WdOk; infer_instance
end Go.Vs
set_option linter.unusedVariables false
set_option linter.unusedSimpArgs false
set_option maxRecDepth 100000
set_option maxHeartbeats 4000000
namespace Go.Vs
open Go.Proofs
attribute [local irreducible] exec vwp thenQ blkQ loopQ RetPost
theorem k_vBig (code : List Int) (g : code.length ≤ 9223372036854775807) : Con Try.prog 4 [.list 1 (bytesP code)] (.bool (decide (65536 < code.length))) := by
  intro al
  refine contract_of hmix Try.func4 rfl (by kernel_rfl) (by kernel_rfl) (Nat.le_of_ble_eq_true rfl) (fun row h => by cases h) ?_
  have hty_u22 := ty_u22
  have hty_s22 := ty_s22
  have hl1 : (bytesP code).length = code.length := by simp
  repeat' (first | (refine pA (k := ?_)) | (refine g_exec ?_; refine x_nil (hK _ _ aI ?_); clear hK K) | (refine v_region (fun K hK => ?_)))
  all_goals (refine ret_bool rfl (lookE_ok rfl) ?_; first | rfl | (simp; omega))
theorem k_vIntsS (xs : List Int) (hn : xs.length ≤ 1099511627776) : Con Try.prog 15 [.list 1 (ints xs), .list 1 (ints xs)] (.bool true) := by
  intro al
  refine contract_of hmix Try.func15 rfl (by kernel_rfl) (by kernel_rfl) (Nat.le_of_ble_eq_true rfl) (fun row h => by cases h) ?_
  have hty_u24 := ty_u24
  have hty_s24 := ty_s24
  have hty_c3 := ty_c3
  have hl1 : (ints xs).length = xs.length := by simp
  repeat' (first | (refine pA (k := ?_)) | (refine g_exec ?_; refine x_nil (hK _ _ aI ?_); clear hK K) | (refine v_region (fun K hK => ?_)) | (refine v_condt rfl (fun h => ?_) (fun h => ?_) <;> (have h' := h; try simp only [sx] at h')))
  all_goals try (exfalso; omega)
  refine v_loopK [0, 1] [] (fun i : Nat => [(5, .int .i64 i)]) (fun i : Nat => []) (fun i : Nat => i ≤ xs.length) (fun i : Nat => xs.length - i) (0) rfl rfl (fun _ => rfl) (fun _ => rfl) rfl (by refine ⟨?_, ?_, rfl, rfl⟩ <;> (repeat' (first | exact trivial | exact ⟨rfl, rfl⟩ | exact rfl | exact ⟨sub_fn, refs_fn⟩ | refine ⟨⟨rfl, rfl⟩, ?_⟩ | refine ⟨⟨sub_fn, refs_fn⟩, ?_⟩ | refine ⟨⟨rfl, fun h => Bool.noConfusion h⟩, ?_⟩ | refine ⟨⟨rfl, fun h => ?_⟩, ?_⟩ | refine ⟨rfl, ?_⟩ | refine ⟨?_, ?_⟩ | fail))) aO (fun i hi => ?_)
  rcases Nat.lt_or_ge i xs.length with hlt | hge
  · obtain ⟨a, ha⟩ := get_ex hlt
    have hx := ints_at ha
    repeat' (first | (refine pA (k := ?_)) | (refine g_exec ?_; refine x_nil (hK _ _ aI ?_); clear hK K) | (refine v_region (fun K hK => ?_)) | (refine v_condt rfl (fun h => ?_) (fun h => ?_) <;> (have h' := h; try simp only [sx] at h')))
    all_goals first
      | (exfalso; omega)
      | (refine q_next (i + 1) rfl (by refine ⟨?_, ?_, rfl, rfl⟩ <;> (repeat' (first | exact trivial | exact ⟨rfl, rfl⟩ | exact rfl | exact ⟨sub_fn, refs_fn⟩ | refine ⟨⟨rfl, rfl⟩, ?_⟩ | refine ⟨⟨sub_fn, refs_fn⟩, ?_⟩ | refine ⟨⟨rfl, fun h => Bool.noConfusion h⟩, ?_⟩ | refine ⟨⟨rfl, fun h => ?_⟩, ?_⟩ | refine ⟨rfl, ?_⟩ | refine ⟨?_, ?_⟩ | fail))) aO aO)
      | (exfalso; simp at *; done)
  · repeat' (first | (refine pA (k := ?_)) | (refine g_exec ?_; refine x_nil (hK _ _ aI ?_); clear hK K) | (refine v_region (fun K hK => ?_)) | (refine v_condt rfl (fun h => ?_) (fun h => ?_) <;> (have h' := h; try simp only [sx] at h')))
    all_goals first
      | (exfalso; omega)
      | exact ret_bool rfl (lookE_ok rfl) rfl
end Go.Vs
set_option linter.unusedVariables false
set_option linter.unusedSimpArgs false
namespace Go.Vs
def IntG (P : Program) (f : Field) (k : Nat) : Prop := f.offset = k ∧ f.name ≠ "_" ∧ P.plainKey f.type = true ∧ P.underlying f.type = some (.int .i64)
def Int2 (P : Program) (T : TypeId) : Prop := ∃ f0 f1 : Field, P.underlying T = some (.struct #[f0, f1]) ∧ IntG P f0 0 ∧ IntG P f1 1 ∧ P.stoodInHeld T = false ∧ P.eqGuardType P.depth T = false
theorem run_ne2 {P : Program} {T : TypeId} (h : Int2 P T) (w : World) (a0 a1 b0 b1 : Int) :
    (binOp .neq T (.agg #[.int .i64 a0, .int .i64 a1]) (.agg #[.int .i64 b0, .int .i64 b1])).run P w = .ok (.bool (!((a0 == b0) && (a1 == b1)))) w := by
  obtain ⟨f0, f1, hu, ⟨o0, n0, p0, u0⟩, ⟨o1, n1, p1, u1⟩, hh, hg⟩ := h
  have hf : P.fieldsOf T = #[f0, f1] := by simp [Program.fieldsOf, hu]
  rw [run_neq_struct w T, run_equalIn_struct w 9999 T _ _ (by rw [hf]; exact hu) hh, hf]
  have g0 : ∀ x0 x1 : Int, (part f0.type #[.int .i64 x0, .int .i64 x1] f0.offset).run P w = .ok (.int .i64 x0) w := fun x0 x1 => run_part_plain (P := P) w p0 (by rw [o0]; rfl)
  have g1 : ∀ x0 x1 : Int, (part f1.type #[.int .i64 x0, .int .i64 x1] f1.offset).run P w = .ok (.int .i64 x1) w := fun x0 x1 => run_part_plain (P := P) w p1 (by rw [o1]; rfl)
  have e0 : ∀ (t : TypeId), P.underlying t = some (.int .i64) → ∀ a b : Int, (Op.equalIn 9999 t (.int .i64 a) (.int .i64 b)).run P w = .ok (a == b) w := fun t ht a b => run_equalIn_int (P := P) w 9998 t .i64 .i64 a b ht
  simp only [Op.eqFields, n0, n1, ne_eq, not_false_eq_true, if_true, Sem.run_bind, g0, g1, Result.andThen_ok, e0 _ u0, e0 _ u1]
  cases h0 : (a0 == b0) <;> cases h1 : (a1 == b1) <;> simp [g1, e0 _ u1, h1, n1, Op.eqFields]
section
variable {P : Program} {ops : Array Oper} {draw : Bool} {rest : List Oper} {env : List (Nat × PV)} {mem : List (Id × Option Row)} {tr : List (List Id × List Id)} {K : St → List (List Id × List Id) → Prop}
  {d : Nat} {ty : TypeId} {pos : String} {af : Array Go.Edge} {x y : Operand} {T yT : TypeId}
theorem rep_int2 {ρ : Id → Option (Nat × Nat)} {w : World} {S : Nat → Prop} {M : Mem} {v : Value} {a b : Int} (h : Rep ρ w S M v (.agg [.int .i64 a, .int .i64 b])) : v = .agg #[.int .i64 a, .int .i64 b] := by
  obtain ⟨cs, rfl, hs, hc⟩ := rep_agg.1 h
  obtain ⟨c0, e0, r0⟩ := hc 0 _ rfl
  obtain ⟨c1, e1, r1⟩ := hc 1 _ rfl
  rw [rep_int.1 r0] at e0
  rw [rep_int.1 r1] at e1
  congr 1
  apply Array.ext
  · simpa using hs
  · intro i h1 h2
    have h3 : i < 2 := by simpa using h2
    match i, h3 with
    | 0, _ => obtain ⟨_, e⟩ := Array.getElem?_eq_some_iff.1 e0; simpa using e
    | 1, _ => obtain ⟨_, e⟩ := Array.getElem?_eq_some_iff.1 e1; simpa using e
theorem x_aggNe2 {a0 a1 b0 b1 : Int} (hT : Int2 P T) (hx : ev (getE env) x = .agg [.int .i64 a0, .int .i64 a1]) (hy : ev (getE env) y = .agg [.int .i64 b0, .int .i64 b1])
    (hk : exec P ops draw rest ⟨(d, .bool (!((a0 == b0) && (a1 == b1)))) :: env, mem⟩ (([], []) :: tr) K) : exec P ops draw (⟨some d, .binOp .neq T x y yT, ty, pos, af, none⟩ :: rest) ⟨env, mem⟩ tr K := by
  refine x_sem ⟨.bool (!((a0 == b0) && (a1 == b1))), [], []⟩ rfl ?_ hk
  refine sem_of_res fun V' M' hV' hM' G ρ w0 X a w hW hV => ?_
  have h1 := rep_ev hV x
  have h2 := rep_ev hV y
  rw [hV' x (by simp [Op.operands])] at h1
  rw [hV' y (by simp [Op.operands])] at h2
  have e1 := rep_int2 (by rw [← hx]; exact h1)
  have e2 := rep_int2 (by rw [← hy]; exact h2)
  refine OpRes.quiet hW (v := .bool (!((a0 == b0) && (a1 == b1)))) ?_ (rep_bool.2 rfl)
  obtain ⟨f0, f1, hu, q0, q1, hh, hg⟩ := id hT
  simp only [execOp, e1, e2, Sem.run_bind, run_eqGuard_agg w .neq T x y _ _ hg, Result.andThen_ok, run_ne2 hT w, Sem.run_pure]
end
end Go.Vs
set_option linter.unusedVariables false
set_option linter.unusedSimpArgs false
set_option maxRecDepth 100000
set_option maxHeartbeats 4000000
namespace Go.Vs
open Go.Proofs
attribute [local irreducible] exec vwp thenQ blkQ loopQ RetPost
theorem int2_cut : Int2 Try.prog 38 := ⟨_, _, Try.underlying38, ⟨rfl, by decide, by kernel_rfl, Try.underlying3⟩, ⟨rfl, by decide, by kernel_rfl, Try.underlying3⟩, by kernel_rfl, by kernel_rfl⟩
theorem k_vCuts (xs : List Cut) (hn : xs.length ≤ 1099511627776) : Con Try.prog 8 [.list 2 (xs.map Cut.pv), .list 2 (xs.map Cut.pv)] (.bool true) := by
  intro al
  refine contract_of hmix Try.func8 rfl (by kernel_rfl) (by kernel_rfl) (Nat.le_of_ble_eq_true rfl) (fun row h => by cases h) ?_
  have hty_u30 := ty_u30
  have hty_s30 := ty_s30
  have hty_a38 := ty_a38
  have hI2 := int2_cut
  have hl1 : (xs.map Cut.pv).length = xs.length := by simp
  repeat' (first | (refine g_exec ?_; refine x_aggNe2 aA rfl rfl ?_) | (refine pA (k := ?_)) | (refine g_exec ?_; refine x_nil (hK _ _ aI ?_); clear hK K) | (refine v_region (fun K hK => ?_)) | (refine v_condt rfl (fun h => ?_) (fun h => ?_) <;> (have h' := h; try simp only [sx] at h')))
  all_goals try (exfalso; omega)
  refine v_loopK [0, 1] [] (fun i : Nat => [(5, .int .i64 i)]) (fun i : Nat => []) (fun i : Nat => i ≤ xs.length) (fun i : Nat => xs.length - i) (0) rfl rfl (fun _ => rfl) (fun _ => rfl) rfl (by refine ⟨?_, ?_, rfl, rfl⟩ <;> (repeat' (first | exact trivial | exact ⟨rfl, rfl⟩ | exact rfl | exact ⟨sub_fn, refs_fn⟩ | refine ⟨⟨rfl, rfl⟩, ?_⟩ | refine ⟨⟨sub_fn, refs_fn⟩, ?_⟩ | refine ⟨⟨rfl, fun h => Bool.noConfusion h⟩, ?_⟩ | refine ⟨⟨rfl, fun h => ?_⟩, ?_⟩ | refine ⟨rfl, ?_⟩ | refine ⟨?_, ?_⟩ | fail))) aO (fun i hi => ?_)
  rcases Nat.lt_or_ge i xs.length with hlt | hge
  · obtain ⟨a, ha⟩ := get_ex hlt
    have hx := Cut.at ha
    repeat' (first | (refine g_exec ?_; refine x_aggNe2 aA rfl rfl ?_) | (refine pA (k := ?_)) | (refine g_exec ?_; refine x_nil (hK _ _ aI ?_); clear hK K) | (refine v_region (fun K hK => ?_)) | (refine v_condt rfl (fun h => ?_) (fun h => ?_) <;> (have h' := h; try simp only [sx] at h')))
    all_goals first
      | (exfalso; omega)
      | (exfalso; simp at *; done)
      | (refine q_next (i + 1) rfl (by refine ⟨?_, ?_, rfl, rfl⟩ <;> (repeat' (first | exact trivial | exact ⟨rfl, rfl⟩ | exact rfl | exact ⟨sub_fn, refs_fn⟩ | refine ⟨⟨rfl, rfl⟩, ?_⟩ | refine ⟨⟨sub_fn, refs_fn⟩, ?_⟩ | refine ⟨⟨rfl, fun h => Bool.noConfusion h⟩, ?_⟩ | refine ⟨⟨rfl, fun h => ?_⟩, ?_⟩ | refine ⟨rfl, ?_⟩ | refine ⟨?_, ?_⟩ | fail))) aO aO)
  · repeat' (first | (refine g_exec ?_; refine x_aggNe2 aA rfl rfl ?_) | (refine pA (k := ?_)) | (refine g_exec ?_; refine x_nil (hK _ _ aI ?_); clear hK K) | (refine v_region (fun K hK => ?_)) | (refine v_condt rfl (fun h => ?_) (fun h => ?_) <;> (have h' := h; try simp only [sx] at h')))
    all_goals first
      | (exfalso; omega)
      | exact ret_bool rfl (lookE_ok rfl) rfl
theorem BlzB.zc {b : Blz} (h : BlzB b) : SzB b := by
  have h1 := h.t.2.2
  have h2 := h.ps
  have h3 := h.src
  constructor <;> omega
theorem amax_before (f : Nat → Int) : ∀ (n i : Nat), i < amax f n → f i < f (amax f n) := by
  have hge : ∀ (n i : Nat), i < n → f i ≤ f (amax f n) := by
    intro n
    induction n with
    | zero => intro i h; omega
    | succ n ih =>
      intro i h
      rw [amax]
      split
      · rename_i hc
        rcases Nat.lt_or_ge i n with h1 | h1
        · have := ih i h1; omega
        · have : i = n := by omega
          rw [this]; omega
      · rename_i hc
        rcases Nat.lt_or_ge i n with h1 | h1
        · exact ih i h1
        · have : i = n := by omega
          rw [this]; omega
  intro n
  induction n with
  | zero => intro i h; simp [amax] at h
  | succ n ih =>
    intro i h
    rw [amax] at h ⊢
    split at h
    · rename_i hc
      rw [if_pos hc]
      have := hge n i h
      omega
    · rename_i hc
      rw [if_neg hc]
      exact ih i h
theorem amax_geC (f : Nat → Int) : ∀ (n i : Nat), i < n → f i ≤ f (amax f n) := by
  intro n
  induction n with
  | zero => intro i h; omega
  | succ n ih =>
    intro i h
    rw [amax]
    split
    · rename_i hc
      rcases Nat.lt_or_ge i n with h1 | h1
      · have := ih i h1; omega
      · have : i = n := by omega
        rw [this]; omega
    · rename_i hc
      rcases Nat.lt_or_ge i n with h1 | h1
      · exact ih i h1
      · have : i = n := by omega
        rw [this]; omega
structure CuF (b : Blz) (zs : List Int) (lc : List Cut) (sl T : List Int) : Prop where
  lenS : sl.length = zs.length
  lenC : lc.length = zs.length
  lenT : T.length = b.t.burn.length
  cell : ∀ c ∈ zs, IsCell b.t c
  at_ : ∀ (i : Nat) c, zs[i]? = some c → (tv T c = -1 ∧ sl[i]? = some 9999 ∧ lc[i]? = some ⟨c, 9999⟩) ∨ (tv T c ≠ -1 ∧ sl[i]? = some 1)
theorem cuF_all {b : Blz} {zs : List Int} (h : LtOk b zs) : SoOk b (lcL b zs) ∧ GoodB b ∧ CuF b zs (lcL b zs) (soL b (lcL b zs)) (arL b) := by
  have e1 : lcL b zs = ltL b zs := by unfold lcL; rw [if_pos h]
  have hs : SoOk b (lcL b zs) := by rw [e1]; exact ⟨h.1, h.2.2⟩
  have e2 : soL b (lcL b zs) = slL b (ltL b zs) := by unfold soL; rw [if_pos hs, e1]
  have e3 : arL b = arr b := by unfold arL; rw [if_pos h.1]
  refine ⟨hs, h.1, ?_⟩
  rw [e2, e3, e1]
  refine ⟨by rw [slL_len, ltL_len], ltL_len b zs, arr_len h.1, h.2.1.1, fun i c hc => ?_⟩
  have hl : (ltL b zs)[i]? = some (ltF b c) := by simp [ltL, hc]
  have hsl : (slL b (ltL b zs))[i]? = some (slF b (ltF b c)) := by simp [slL, hl]
  by_cases hv : tv (arr b) c = -1
  · have e4 : (ltF b c).tick = 9999 := by unfold ltF; exact if_pos hv
    have e5 : slF b (ltF b c) = 9999 := by unfold slF; exact if_pos hv
    refine .inl ⟨hv, by rw [hsl, e5], ?_⟩
    rw [hl]
    congr 1
    show (⟨c, (ltF b c).tick⟩ : Cut) = _
    rw [e4]
  · have e4 : (ltF b c).tick = tv (arr b) c - 1 := by unfold ltF; exact if_neg hv
    have e5 : slF b (ltF b c) = tv (arr b) c - (ltF b c).tick := by unfold slF; exact if_neg hv
    refine .inr ⟨hv, ?_⟩
    rw [hsl, e5, e4]
    congr 1
    omega
theorem weak_law {b : Blz} {cs : List Cut} (h : WkOk b cs) : ∀ (i : Nat) y, (soL b cs)[i]? = some y → (slL b cs).getD (wkI b cs) 0 ≤ y ∧ (i < wkI b cs → y ≠ (slL b cs).getD (wkI b cs) 0) := by
  intro i y hy
  have e2 : soL b cs = slL b cs := by unfold soL; rw [if_pos h.1]
  rw [e2] at hy
  have hlt := get_lt hy
  have ey : (slL b cs).getD i 0 = y := by simp [List.getD_eq_getElem?_getD, hy]
  have h1 : -((slL b cs).getD i 0) ≤ -((slL b cs).getD (wkI b cs) 0) := amax_geC (negAt (slL b cs)) (slL b cs).length i hlt
  have h2 : i < wkI b cs → -((slL b cs).getD i 0) < -((slL b cs).getD (wkI b cs) 0) := amax_before (negAt (slL b cs)) (slL b cs).length i
  rw [ey] at h1 h2
  generalize (slL b cs).getD (wkI b cs) 0 = z at *
  refine ⟨by omega, fun hi => ?_⟩
  have := h2 hi
  omega
theorem law_FnCuts (code : List Int) (g : code.length ≤ 9223372036854775807) (hb : ∀ b ∈ code, 0 ≤ b ∧ b ≤ 255) : Con Try.prog 3 [.list 1 (bytesP code)] (.bool true) := by
  intro al
  refine contract_of hmix Try.func3 rfl (by kernel_rfl) (by kernel_rfl) (Nat.le_of_ble_eq_true rfl) (fun row h => by cases h) ?_
  have hty_u22 := ty_u22
  have hty_s22 := ty_s22
  have hty_z26 := ty_z26
  have hty_t26 := ty_t26
  have hty_a26 := ty_a26
  have hty_u27 := ty_u27
  have hty_s27 := ty_s27
  have hty_u24 := ty_u24
  have hty_s24 := ty_s24
  have hty_u4 := ty_u4
  have hty_u30 := ty_u30
  have hty_s30 := ty_s30
  have hty_c3 := ty_c3
  have hty_f38_1 := ty_f38_1
  have kb := k_vBig code g
  by_cases hbig : 65536 < code.length
  · rw [decide_eq_true hbig] at kb
    repeat' (first | (refine g_exec ?_; refine x_aggNe2 aA rfl rfl ?_) | (refine pA (k := ?_)) | (refine g_exec ?_; first | (refine g_call ?_; refine x_callG true (kb) rfl rfl rfl aS rfl aH ?_; simp only [cl]) | (refine g_guard ?_; refine x_gsplit rfl rfl (fun h => ?_) (fun h => ?_) <;> (have h' := h; try simp only [sx] at h')) | (refine x_nil (hK _ _ aI ?_); clear hK K)) | (refine v_region (fun K hK => ?_)) | (refine v_condt rfl (fun h => ?_) (fun h => ?_) <;> (have h' := h; try simp only [sx] at h')))
    exact ret_bool rfl (lookE_ok rfl) rfl
  · rw [decide_eq_false hbig] at kb
    have hz : CodeOk code := ⟨by omega, hb⟩
    repeat' (first | (refine g_exec ?_; refine x_aggNe2 aA rfl rfl ?_) | (refine pA (k := ?_)) | (refine g_exec ?_; first | (refine g_call ?_; first | (refine x_callG true (kb) rfl rfl rfl aS rfl aH ?_; simp only [cl]) | (refine x_callLP [] (k_DrawLatestCuts code hz) rfl rfl aF rfl rfl aS rfl (fun r_ fin_ hP_ => ?_); obtain ⟨b, zs, ⟨rfl, rfl⟩, hB, hzl⟩ := hP_; refine ⟨_, _, _, aH, rfl, ?_⟩; simp only [cl])) | (refine g_guard ?_; refine x_gsplit rfl rfl (fun h => ?_) (fun h => ?_) <;> (have h' := h; try simp only [sx] at h')) | (refine x_nil (hK _ _ aI ?_); clear hK K)) | (refine v_region (fun K hK => ?_)) | (refine v_condt rfl (fun h => ?_) (fun h => ?_) <;> (have h' := h; try simp only [sx] at h')))
    have hz2 := hB.zc
    have hB1 := hB.t.2.2
    have hll := lcL_len b zs
    have kI := (Con.a (k_iLatest b zs hz2 aO)).frz rfl
    have kS := (Con.a (k_sLatest b zs hz2 aO)).frz rfl
    have kO := (Con.a (k_iSlacks b (lcL b zs) hz2 aO)).frz rfl
    have kR := (Con.a (k_sArr b hz2)).frz rfl
    simp only [frz, frz2, List.map_cons, List.map_nil] at kI kS kO kR
    have kV := k_vCuts (lcL b zs) aO
    have hF : decide (LtOk b zs) = true → decide (SoOk b (lcL b zs)) = true ∧ decide (GoodB b) = true ∧ CuF b zs (lcL b zs) (soL b (lcL b zs)) (arL b) := fun h => by
      obtain ⟨h1, h2, h3⟩ := cuF_all (of_decide_eq_true h)
      exact ⟨decide_eq_true h1, decide_eq_true h2, h3⟩
    generalize soL b (lcL b zs) = sl at *
    generalize decide (SoOk b (lcL b zs)) = o1 at *
    generalize lcL b zs = lc at *
    generalize decide (LtOk b zs) = ok at *
    generalize arL b = T at *
    generalize decide (GoodB b) = o2 at *
    repeat' (first | (refine g_exec ?_; refine x_aggNe2 aA rfl rfl ?_) | (refine pB (k := ?_)) | (refine v_seqN 3000008 rfl ?_) | (refine g_exec ?_; first | (refine g_call ?_; first | (refine x_callA true (kI) rfl rfl rfl rfl rfl aS rfl aH ?_; simp only [cl]) | (refine x_callA true (kS) rfl rfl rfl rfl rfl aS rfl aH ?_; simp only [cl]) | (refine x_callG true (kV) rfl rfl rfl aS rfl aH ?_; simp only [cl])) | (refine g_guard ?_; refine x_gsplit rfl rfl (fun h => ?_) (fun h => ?_) <;> (have h' := h; try simp only [sx] at h')) | (refine x_nil (hK _ _ aI ?_); clear hK K)) | (refine v_region (fun K hK => ?_)) | (refine v_condt rfl (fun h => ?_) (fun h => ?_) <;> (have h' := h; try simp only [sx] at h')))
    all_goals try (exfalso; simp at *; done)
    refine v_cutK [0] [] (fun u_ : Unit => []) (fun u_ : Unit => []) (fun u_ : Unit => True) rfl rfl (fun _ => rfl) (fun _ => rfl) ?_ (fun u_ hu_ => ?_)
    · cases ok
      · repeat' (first | (refine g_exec ?_; refine x_aggNe2 aA rfl rfl ?_) | (refine pA (k := ?_)) | (refine g_exec ?_; first | (refine g_guard ?_; refine x_gsplit rfl rfl (fun h => ?_) (fun h => ?_) <;> (have h' := h; try simp only [sx] at h')) | (refine x_nil (hK _ _ aI ?_); clear hK K)) | (refine v_region (fun K hK => ?_)) | (refine v_condt rfl (fun h => ?_) (fun h => ?_) <;> (have h' := h; try simp only [sx] at h')))
        all_goals (refine q_next () rfl (by refine ⟨?_, ?_, rfl, rfl⟩ <;> (repeat' (first | exact trivial | exact ⟨rfl, rfl⟩ | exact rfl | exact ⟨sub_fn, refs_fn⟩ | refine ⟨⟨rfl, rfl⟩, ?_⟩ | refine ⟨⟨sub_fn, refs_fn⟩, ?_⟩ | refine ⟨⟨rfl, fun h => Bool.noConfusion h⟩, ?_⟩ | refine ⟨⟨rfl, fun h => ?_⟩, ?_⟩ | refine ⟨rfl, ?_⟩ | refine ⟨?_, ?_⟩ | fail))) trivial (by decide))
      obtain ⟨rfl, rfl, hC⟩ := hF rfl
      have hl1 : (ints sl).length = sl.length := by simp
      have hl2 : (ints zs).length = zs.length := by simp
      have hl3 := hC.lenS
      have hl4 : (lc.map Cut.pv).length = lc.length := by simp
      repeat' (first | (refine g_exec ?_; refine x_aggNe2 aA rfl rfl ?_) | (refine pA (k := ?_)) | (refine g_exec ?_; first | (refine g_call ?_; first | (refine x_callA true (kO) rfl rfl rfl rfl rfl aS rfl aH ?_; simp only [cl]) | (refine x_callA true (kR) rfl rfl rfl rfl rfl aS rfl aH ?_; simp only [cl])) | (refine g_guard ?_; refine x_gsplit rfl rfl (fun h => ?_) (fun h => ?_) <;> (have h' := h; try simp only [sx] at h')) | (refine x_nil (hK _ _ aI ?_); clear hK K)) | (refine v_region (fun K hK => ?_)) | (refine v_condt rfl (fun h => ?_) (fun h => ?_) <;> (have h' := h; try simp only [sx] at h')))
      all_goals try (exfalso; first | omega | (simp at *; done))
      refine v_loopK [0, 7, 8, 12, 14] [] (fun i : Nat => [(16, .int .i64 i)]) (fun i : Nat => []) (fun i : Nat => i ≤ zs.length) (fun i : Nat => zs.length - i) (0) rfl rfl (fun _ => rfl) (fun _ => rfl) rfl (by refine ⟨?_, ?_, rfl, rfl⟩ <;> (repeat' (first | exact trivial | exact ⟨rfl, rfl⟩ | exact rfl | exact ⟨sub_fn, refs_fn⟩ | refine ⟨⟨rfl, rfl⟩, ?_⟩ | refine ⟨⟨sub_fn, refs_fn⟩, ?_⟩ | refine ⟨⟨rfl, fun h => Bool.noConfusion h⟩, ?_⟩ | refine ⟨⟨rfl, fun h => ?_⟩, ?_⟩ | refine ⟨rfl, ?_⟩ | refine ⟨?_, ?_⟩ | fail))) aO (fun i hi => ?_)
      rcases Nat.lt_or_ge i zs.length with hlt | hge
      · obtain ⟨c, hc⟩ := get_ex hlt
        have hxc := ints_at hc
        have hcc := hC.cell c (get_mem hc)
        have hcl := hC.lenT
        unfold IsCell at hcc
        have hxT : (ints T)[c.toNat]? = some [.int .i64 (tv T c)] := tv_int aO
        rcases hC.at_ i c hc with ⟨g1, g2, g3⟩ | ⟨g1, g2⟩
        · have hs := ints_at g2
          have hx3 := Cut.at g3
          repeat' (first | (refine g_exec ?_; refine x_aggNe2 aA rfl rfl ?_) | (refine pA (k := ?_)) | (refine g_exec ?_; first | (refine g_guard ?_; refine x_gsplit rfl rfl (fun h => ?_) (fun h => ?_) <;> (have h' := h; try simp only [sx] at h')) | (refine x_nil (hK _ _ aI ?_); clear hK K)) | (refine v_region (fun K hK => ?_)) | (refine v_condt rfl (fun h => ?_) (fun h => ?_) <;> (have h' := h; try simp only [sx] at h')))
          all_goals first
            | (exfalso; omega)
            | (refine q_next (i + 1) rfl (by refine ⟨?_, ?_, rfl, rfl⟩ <;> (repeat' (first | exact trivial | exact ⟨rfl, rfl⟩ | exact rfl | exact ⟨sub_fn, refs_fn⟩ | refine ⟨⟨rfl, rfl⟩, ?_⟩ | refine ⟨⟨sub_fn, refs_fn⟩, ?_⟩ | refine ⟨⟨rfl, fun h => Bool.noConfusion h⟩, ?_⟩ | refine ⟨⟨rfl, fun h => ?_⟩, ?_⟩ | refine ⟨rfl, ?_⟩ | refine ⟨?_, ?_⟩ | fail))) aO aO)
        · have hs := ints_at g2
          repeat' (first | (refine g_exec ?_; refine x_aggNe2 aA rfl rfl ?_) | (refine pA (k := ?_)) | (refine g_exec ?_; first | (refine g_guard ?_; refine x_gsplit rfl rfl (fun h => ?_) (fun h => ?_) <;> (have h' := h; try simp only [sx] at h')) | (refine x_nil (hK _ _ aI ?_); clear hK K)) | (refine v_region (fun K hK => ?_)) | (refine v_condt rfl (fun h => ?_) (fun h => ?_) <;> (have h' := h; try simp only [sx] at h')))
          all_goals first
            | (exfalso; omega)
            | (refine q_next (i + 1) rfl (by refine ⟨?_, ?_, rfl, rfl⟩ <;> (repeat' (first | exact trivial | exact ⟨rfl, rfl⟩ | exact rfl | exact ⟨sub_fn, refs_fn⟩ | refine ⟨⟨rfl, rfl⟩, ?_⟩ | refine ⟨⟨sub_fn, refs_fn⟩, ?_⟩ | refine ⟨⟨rfl, fun h => Bool.noConfusion h⟩, ?_⟩ | refine ⟨⟨rfl, fun h => ?_⟩, ?_⟩ | refine ⟨rfl, ?_⟩ | refine ⟨?_, ?_⟩ | fail))) aO aO)
      · repeat' (first | (refine g_exec ?_; refine x_aggNe2 aA rfl rfl ?_) | (refine pA (k := ?_)) | (refine g_exec ?_; first | (refine g_guard ?_; refine x_gsplit rfl rfl (fun h => ?_) (fun h => ?_) <;> (have h' := h; try simp only [sx] at h')) | (refine x_nil (hK _ _ aI ?_); clear hK K)) | (refine v_region (fun K hK => ?_)) | (refine v_condt rfl (fun h => ?_) (fun h => ?_) <;> (have h' := h; try simp only [sx] at h')))
        all_goals first
          | (exfalso; omega)
          | (refine q_next () rfl (by refine ⟨?_, ?_, rfl, rfl⟩ <;> (repeat' (first | exact trivial | exact ⟨rfl, rfl⟩ | exact rfl | exact ⟨sub_fn, refs_fn⟩ | refine ⟨⟨rfl, rfl⟩, ?_⟩ | refine ⟨⟨sub_fn, refs_fn⟩, ?_⟩ | refine ⟨⟨rfl, fun h => Bool.noConfusion h⟩, ?_⟩ | refine ⟨⟨rfl, fun h => ?_⟩, ?_⟩ | refine ⟨rfl, ?_⟩ | refine ⟨?_, ?_⟩ | fail))) trivial (by decide))
    clear kI kS kO kR kV hF
    repeat' (first | (refine g_exec ?_; refine x_aggNe2 aA rfl rfl ?_) | (refine pA (k := ?_)) | (refine g_exec ?_; first | (refine g_call ?_; refine x_callLP [] (k_DrawWeakestCut code hz) rfl rfl aF rfl rfl aS rfl (fun r_ fin_ hP_ => ?_); obtain ⟨x, cs, ⟨rfl, rfl⟩, hX, hcs⟩ := hP_; refine ⟨_, _, _, aH, rfl, ?_⟩; simp only [cl]) | (refine g_guard ?_; refine x_gsplit rfl rfl (fun h => ?_) (fun h => ?_) <;> (have h' := h; try simp only [sx] at h')) | (refine x_nil (hK _ _ aI ?_); clear hK K)) | (refine v_region (fun K hK => ?_)) | (refine v_condt rfl (fun h => ?_) (fun h => ?_) <;> (have h' := h; try simp only [sx] at h')))
    have hx2 := hX.zc
    have kW1 := k_iWeakest x cs hx2 aO
    have kW2 := k_sWeakest x cs hx2 aO
    have kS1 := (Con.a (k_iSlacks x cs hx2 aO)).frz rfl
    have kS2 := (Con.a (k_sSlacks x cs hx2 aO)).frz rfl
    simp only [frz, frz2, List.map_cons, List.map_nil] at kS1 kS2
    have hsl := soL_len x cs
    have kV := k_vIntsS (soL x cs) aO
    have hW : decide (WkOk x cs) = true → ∀ (i : Nat) y, (soL x cs)[i]? = some y → (if decide (WkOk x cs) = true then (slL x cs).getD (wkI x cs) 0 else 0) ≤ y ∧ ((i : Int) < (if decide (WkOk x cs) = true then (wkI x cs : Nat) else 0 : Int) → y ≠ (if decide (WkOk x cs) = true then (slL x cs).getD (wkI x cs) 0 else 0)) := fun h i y hy => by
      rw [if_pos h, if_pos h]
      have := weak_law (of_decide_eq_true h) i y hy
      exact ⟨this.1, fun hi => this.2 aO⟩
    have hWk : decide (WkOk x cs) = (decide (SoOk x cs) && decide (1 ≤ cs.length)) := by
      rw [Bool.eq_iff_iff, Bool.and_eq_true, decide_eq_true_iff, decide_eq_true_iff, decide_eq_true_iff]
      exact Iff.rfl
    unfold wkRes at kW1 kW2
    generalize hwk : (if decide (WkOk x cs) = true then (wkI x cs : Nat) else 0 : Int) = wk at *
    generalize hsv : (if decide (WkOk x cs) = true then (slL x cs).getD (wkI x cs) 0 else 0) = sv at *
    clear hwk hsv
    generalize decide (WkOk x cs) = told at *
    generalize soL x cs = S at *
    generalize decide (SoOk x cs) = fine at *
    have hl1 : (ints S).length = S.length := by simp
    have hl4 : (cs.map Cut.pv).length = cs.length := by simp
    repeat' (first | (refine g_exec ?_; refine x_aggNe2 aA rfl rfl ?_) | (refine pB (k := ?_)) | (refine v_seqN 3000027 rfl ?_) | (refine g_exec ?_; first | (refine g_call ?_; first | (refine x_callG true (kW1) rfl rfl rfl aS rfl aH ?_; simp only [cl]) | (refine x_callG true (kW2) rfl rfl rfl aS rfl aH ?_; simp only [cl]) | (refine x_callA true (kS1) rfl rfl rfl rfl rfl aS rfl aH ?_; simp only [cl])) | (refine g_guard ?_; refine x_gsplit rfl rfl (fun h => ?_) (fun h => ?_) <;> (have h' := h; try simp only [sx] at h')) | (refine x_nil (hK _ _ aI ?_); clear hK K)) | (refine v_region (fun K hK => ?_)) | (refine v_condt rfl (fun h => ?_) (fun h => ?_) <;> (have h' := h; try simp only [sx] at h')))
    all_goals try (exfalso; first | omega | (simp at *; done))
    refine v_cutK [0, 22, 23, 24, 28] [] (fun u_ : Unit => []) (fun u_ : Unit => []) (fun u_ : Unit => True) rfl rfl (fun _ => rfl) (fun _ => rfl) ?_ (fun u_ hu_ => ?_)
    · by_cases hlen : 1 ≤ cs.length
      · rw [decide_eq_true hlen, Bool.and_true] at hWk
        subst hWk
        cases told
        · repeat' (first | (refine g_exec ?_; refine x_aggNe2 aA rfl rfl ?_) | (refine pA (k := ?_)) | (refine g_exec ?_; first | (refine g_call ?_; first | (refine x_callA true (kS2) rfl rfl rfl rfl rfl aS rfl aH ?_; simp only [cl]) | (refine x_callG true (kV) rfl rfl rfl aS rfl aH ?_; simp only [cl])) | (refine g_guard ?_; refine x_gsplit rfl rfl (fun h => ?_) (fun h => ?_) <;> (have h' := h; try simp only [sx] at h')) | (refine x_nil (hK _ _ aI ?_); clear hK K)) | (refine v_region (fun K hK => ?_)) | (refine v_condt rfl (fun h => ?_) (fun h => ?_) <;> (have h' := h; try simp only [sx] at h')))
          all_goals first
            | (exfalso; omega)
            | (exfalso; apply h'; symm; rw [decide_eq_true_iff]; omega)
            | (exfalso; apply h'; symm; rw [decide_eq_false_iff_not]; omega)
            | (exfalso; simp at *; done)
            | (refine q_next () rfl (by refine ⟨?_, ?_, rfl, rfl⟩ <;> (repeat' (first | exact trivial | exact ⟨rfl, rfl⟩ | exact rfl | exact ⟨sub_fn, refs_fn⟩ | refine ⟨⟨rfl, rfl⟩, ?_⟩ | refine ⟨⟨sub_fn, refs_fn⟩, ?_⟩ | refine ⟨⟨rfl, fun h => Bool.noConfusion h⟩, ?_⟩ | refine ⟨⟨rfl, fun h => ?_⟩, ?_⟩ | refine ⟨rfl, ?_⟩ | refine ⟨?_, ?_⟩ | fail))) trivial (by decide))
        · repeat' (first | (refine g_exec ?_; refine x_aggNe2 aA rfl rfl ?_) | (refine pA (k := ?_)) | (refine g_exec ?_; first | (refine g_call ?_; first | (refine x_callA true (kS2) rfl rfl rfl rfl rfl aS rfl aH ?_; simp only [cl]) | (refine x_callG true (kV) rfl rfl rfl aS rfl aH ?_; simp only [cl])) | (refine g_guard ?_; refine x_gsplit rfl rfl (fun h => ?_) (fun h => ?_) <;> (have h' := h; try simp only [sx] at h')) | (refine x_nil (hK _ _ aI ?_); clear hK K)) | (refine v_region (fun K hK => ?_)) | (refine v_condt rfl (fun h => ?_) (fun h => ?_) <;> (have h' := h; try simp only [sx] at h')))
          all_goals first
            | (exfalso; omega)
            | (exfalso; apply h'; symm; rw [decide_eq_true_iff]; omega)
            | (exfalso; apply h'; symm; rw [decide_eq_false_iff_not]; omega)
            | (exfalso; simp at *; done)
            | (refine q_next () rfl (by refine ⟨?_, ?_, rfl, rfl⟩ <;> (repeat' (first | exact trivial | exact ⟨rfl, rfl⟩ | exact rfl | exact ⟨sub_fn, refs_fn⟩ | refine ⟨⟨rfl, rfl⟩, ?_⟩ | refine ⟨⟨sub_fn, refs_fn⟩, ?_⟩ | refine ⟨⟨rfl, fun h => Bool.noConfusion h⟩, ?_⟩ | refine ⟨⟨rfl, fun h => ?_⟩, ?_⟩ | refine ⟨rfl, ?_⟩ | refine ⟨?_, ?_⟩ | fail))) trivial (by decide))
      · rw [decide_eq_false hlen, Bool.and_false] at hWk
        subst hWk
        cases fine
        · repeat' (first | (refine g_exec ?_; refine x_aggNe2 aA rfl rfl ?_) | (refine pA (k := ?_)) | (refine g_exec ?_; first | (refine g_call ?_; first | (refine x_callA true (kS2) rfl rfl rfl rfl rfl aS rfl aH ?_; simp only [cl]) | (refine x_callG true (kV) rfl rfl rfl aS rfl aH ?_; simp only [cl])) | (refine g_guard ?_; refine x_gsplit rfl rfl (fun h => ?_) (fun h => ?_) <;> (have h' := h; try simp only [sx] at h')) | (refine x_nil (hK _ _ aI ?_); clear hK K)) | (refine v_region (fun K hK => ?_)) | (refine v_condt rfl (fun h => ?_) (fun h => ?_) <;> (have h' := h; try simp only [sx] at h')))
          all_goals first
            | (exfalso; omega)
            | (exfalso; apply h'; symm; rw [decide_eq_true_iff]; omega)
            | (exfalso; apply h'; symm; rw [decide_eq_false_iff_not]; omega)
            | (exfalso; simp at *; done)
            | (refine q_next () rfl (by refine ⟨?_, ?_, rfl, rfl⟩ <;> (repeat' (first | exact trivial | exact ⟨rfl, rfl⟩ | exact rfl | exact ⟨sub_fn, refs_fn⟩ | refine ⟨⟨rfl, rfl⟩, ?_⟩ | refine ⟨⟨sub_fn, refs_fn⟩, ?_⟩ | refine ⟨⟨rfl, fun h => Bool.noConfusion h⟩, ?_⟩ | refine ⟨⟨rfl, fun h => ?_⟩, ?_⟩ | refine ⟨rfl, ?_⟩ | refine ⟨?_, ?_⟩ | fail))) trivial (by decide))
        · repeat' (first | (refine g_exec ?_; refine x_aggNe2 aA rfl rfl ?_) | (refine pA (k := ?_)) | (refine g_exec ?_; first | (refine g_call ?_; first | (refine x_callA true (kS2) rfl rfl rfl rfl rfl aS rfl aH ?_; simp only [cl]) | (refine x_callG true (kV) rfl rfl rfl aS rfl aH ?_; simp only [cl])) | (refine g_guard ?_; refine x_gsplit rfl rfl (fun h => ?_) (fun h => ?_) <;> (have h' := h; try simp only [sx] at h')) | (refine x_nil (hK _ _ aI ?_); clear hK K)) | (refine v_region (fun K hK => ?_)) | (refine v_condt rfl (fun h => ?_) (fun h => ?_) <;> (have h' := h; try simp only [sx] at h')))
          all_goals first
            | (exfalso; omega)
            | (exfalso; apply h'; symm; rw [decide_eq_true_iff]; omega)
            | (exfalso; apply h'; symm; rw [decide_eq_false_iff_not]; omega)
            | (exfalso; simp at *; done)
            | (refine q_next () rfl (by refine ⟨?_, ?_, rfl, rfl⟩ <;> (repeat' (first | exact trivial | exact ⟨rfl, rfl⟩ | exact rfl | exact ⟨sub_fn, refs_fn⟩ | refine ⟨⟨rfl, rfl⟩, ?_⟩ | refine ⟨⟨sub_fn, refs_fn⟩, ?_⟩ | refine ⟨⟨rfl, fun h => Bool.noConfusion h⟩, ?_⟩ | refine ⟨⟨rfl, fun h => ?_⟩, ?_⟩ | refine ⟨rfl, ?_⟩ | refine ⟨?_, ?_⟩ | fail))) trivial (by decide))
    clear kW1 kW2 kS1 kS2 kV hWk
    repeat' (first | (refine g_exec ?_; refine x_aggNe2 aA rfl rfl ?_) | (refine pB (k := ?_)) | (refine v_seqN 3000030 rfl ?_) | (refine g_exec ?_; first | (refine g_guard ?_; refine x_gsplit rfl rfl (fun h => ?_) (fun h => ?_) <;> (have h' := h; try simp only [sx] at h')) | (refine x_nil (hK _ _ aI ?_); clear hK K)) | (refine v_region (fun K hK => ?_)) | (refine v_condt rfl (fun h => ?_) (fun h => ?_) <;> (have h' := h; try simp only [sx] at h')))
    refine v_cutK [0] [] (fun u_ : Unit => []) (fun u_ : Unit => []) (fun u_ : Unit => True) rfl rfl (fun _ => rfl) (fun _ => rfl) ?_ (fun u_ hu_ => ?_)
    · repeat' (first | (refine g_exec ?_; refine x_aggNe2 aA rfl rfl ?_) | (refine pA (k := ?_)) | (refine g_exec ?_; first | (refine g_guard ?_; refine x_gsplit rfl rfl (fun h => ?_) (fun h => ?_) <;> (have h' := h; try simp only [sx] at h')) | (refine x_nil (hK _ _ aI ?_); clear hK K)) | (refine v_region (fun K hK => ?_)) | (refine v_condt rfl (fun h => ?_) (fun h => ?_) <;> (have h' := h; try simp only [sx] at h')))
      refine v_loopK [0, 22, 23, 24, 28] [] (fun i : Nat => [(32, .int .i64 i)]) (fun i : Nat => []) (fun i : Nat => i ≤ S.length) (fun i : Nat => S.length - i) (0) rfl rfl (fun _ => rfl) (fun _ => rfl) rfl (by refine ⟨?_, ?_, rfl, rfl⟩ <;> (repeat' (first | exact trivial | exact ⟨rfl, rfl⟩ | exact rfl | exact ⟨sub_fn, refs_fn⟩ | refine ⟨⟨rfl, rfl⟩, ?_⟩ | refine ⟨⟨sub_fn, refs_fn⟩, ?_⟩ | refine ⟨⟨rfl, fun h => Bool.noConfusion h⟩, ?_⟩ | refine ⟨⟨rfl, fun h => ?_⟩, ?_⟩ | refine ⟨rfl, ?_⟩ | refine ⟨?_, ?_⟩ | fail))) aO (fun i hi => ?_)
      by_cases hgo : i < S.length ∧ told = true
      · obtain ⟨hlt, rfl⟩ := hgo
        obtain ⟨y, hy⟩ := get_ex hlt
        have hxs := ints_at hy
        obtain ⟨w1, w2⟩ := hW rfl i y hy
        by_cases hiw : (i : Int) < wk
        · have w3 := w2 hiw
          repeat' (first | (refine g_exec ?_; refine x_aggNe2 aA rfl rfl ?_) | (refine pA (k := ?_)) | (refine g_exec ?_; first | (refine g_guard ?_; refine x_gsplit rfl rfl (fun h => ?_) (fun h => ?_) <;> (have h' := h; try simp only [sx] at h')) | (refine x_nil (hK _ _ aI ?_); clear hK K)) | (refine v_region (fun K hK => ?_)) | (refine v_condt rfl (fun h => ?_) (fun h => ?_) <;> (have h' := h; try simp only [sx] at h')))
          all_goals first
            | (exfalso; omega)
            | (refine q_next (i + 1) rfl (by refine ⟨?_, ?_, rfl, rfl⟩ <;> (repeat' (first | exact trivial | exact ⟨rfl, rfl⟩ | exact rfl | exact ⟨sub_fn, refs_fn⟩ | refine ⟨⟨rfl, rfl⟩, ?_⟩ | refine ⟨⟨sub_fn, refs_fn⟩, ?_⟩ | refine ⟨⟨rfl, fun h => Bool.noConfusion h⟩, ?_⟩ | refine ⟨⟨rfl, fun h => ?_⟩, ?_⟩ | refine ⟨rfl, ?_⟩ | refine ⟨?_, ?_⟩ | fail))) aO aO)
        · repeat' (first | (refine g_exec ?_; refine x_aggNe2 aA rfl rfl ?_) | (refine pA (k := ?_)) | (refine g_exec ?_; first | (refine g_guard ?_; refine x_gsplit rfl rfl (fun h => ?_) (fun h => ?_) <;> (have h' := h; try simp only [sx] at h')) | (refine x_nil (hK _ _ aI ?_); clear hK K)) | (refine v_region (fun K hK => ?_)) | (refine v_condt rfl (fun h => ?_) (fun h => ?_) <;> (have h' := h; try simp only [sx] at h')))
          all_goals first
            | (exfalso; omega)
            | (refine q_next (i + 1) rfl (by refine ⟨?_, ?_, rfl, rfl⟩ <;> (repeat' (first | exact trivial | exact ⟨rfl, rfl⟩ | exact rfl | exact ⟨sub_fn, refs_fn⟩ | refine ⟨⟨rfl, rfl⟩, ?_⟩ | refine ⟨⟨sub_fn, refs_fn⟩, ?_⟩ | refine ⟨⟨rfl, fun h => Bool.noConfusion h⟩, ?_⟩ | refine ⟨⟨rfl, fun h => ?_⟩, ?_⟩ | refine ⟨rfl, ?_⟩ | refine ⟨?_, ?_⟩ | fail))) aO aO)
      · rcases Nat.lt_or_ge i S.length with hlt | hge
        · have ht : told = false := by
            cases told
            · rfl
            · exact absurd ⟨hlt, rfl⟩ hgo
          subst ht
          repeat' (first | (refine g_exec ?_; refine x_aggNe2 aA rfl rfl ?_) | (refine pA (k := ?_)) | (refine g_exec ?_; first | (refine g_guard ?_; refine x_gsplit rfl rfl (fun h => ?_) (fun h => ?_) <;> (have h' := h; try simp only [sx] at h')) | (refine x_nil (hK _ _ aI ?_); clear hK K)) | (refine v_region (fun K hK => ?_)) | (refine v_condt rfl (fun h => ?_) (fun h => ?_) <;> (have h' := h; try simp only [sx] at h')))
          all_goals first
            | (exfalso; omega)
            | (refine q_next () rfl (by refine ⟨?_, ?_, rfl, rfl⟩ <;> (repeat' (first | exact trivial | exact ⟨rfl, rfl⟩ | exact rfl | exact ⟨sub_fn, refs_fn⟩ | refine ⟨⟨rfl, rfl⟩, ?_⟩ | refine ⟨⟨sub_fn, refs_fn⟩, ?_⟩ | refine ⟨⟨rfl, fun h => Bool.noConfusion h⟩, ?_⟩ | refine ⟨⟨rfl, fun h => ?_⟩, ?_⟩ | refine ⟨rfl, ?_⟩ | refine ⟨?_, ?_⟩ | fail))) trivial (by decide))
        · cases told
          · repeat' (first | (refine g_exec ?_; refine x_aggNe2 aA rfl rfl ?_) | (refine pA (k := ?_)) | (refine g_exec ?_; first | (refine g_guard ?_; refine x_gsplit rfl rfl (fun h => ?_) (fun h => ?_) <;> (have h' := h; try simp only [sx] at h')) | (refine x_nil (hK _ _ aI ?_); clear hK K)) | (refine v_region (fun K hK => ?_)) | (refine v_condt rfl (fun h => ?_) (fun h => ?_) <;> (have h' := h; try simp only [sx] at h')))
            all_goals first
              | (exfalso; omega)
              | (refine q_next () rfl (by refine ⟨?_, ?_, rfl, rfl⟩ <;> (repeat' (first | exact trivial | exact ⟨rfl, rfl⟩ | exact rfl | exact ⟨sub_fn, refs_fn⟩ | refine ⟨⟨rfl, rfl⟩, ?_⟩ | refine ⟨⟨sub_fn, refs_fn⟩, ?_⟩ | refine ⟨⟨rfl, fun h => Bool.noConfusion h⟩, ?_⟩ | refine ⟨⟨rfl, fun h => ?_⟩, ?_⟩ | refine ⟨rfl, ?_⟩ | refine ⟨?_, ?_⟩ | fail))) trivial (by decide))
          · repeat' (first | (refine g_exec ?_; refine x_aggNe2 aA rfl rfl ?_) | (refine pA (k := ?_)) | (refine g_exec ?_; first | (refine g_guard ?_; refine x_gsplit rfl rfl (fun h => ?_) (fun h => ?_) <;> (have h' := h; try simp only [sx] at h')) | (refine x_nil (hK _ _ aI ?_); clear hK K)) | (refine v_region (fun K hK => ?_)) | (refine v_condt rfl (fun h => ?_) (fun h => ?_) <;> (have h' := h; try simp only [sx] at h')))
            all_goals first
              | (exfalso; omega)
              | (refine q_next () rfl (by refine ⟨?_, ?_, rfl, rfl⟩ <;> (repeat' (first | exact trivial | exact ⟨rfl, rfl⟩ | exact rfl | exact ⟨sub_fn, refs_fn⟩ | refine ⟨⟨rfl, rfl⟩, ?_⟩ | refine ⟨⟨sub_fn, refs_fn⟩, ?_⟩ | refine ⟨⟨rfl, fun h => Bool.noConfusion h⟩, ?_⟩ | refine ⟨⟨rfl, fun h => ?_⟩, ?_⟩ | refine ⟨rfl, ?_⟩ | refine ⟨?_, ?_⟩ | fail))) trivial (by decide))
    clear hW
    repeat' (first | (refine g_exec ?_; refine x_aggNe2 aA rfl rfl ?_) | (refine pA (k := ?_)) | (refine g_exec ?_; first | (refine g_call ?_; refine x_callLP [] (k_DrawDelayCuts code hz) rfl rfl aF rfl rfl aS rfl (fun r_ fin_ hP_ => ?_); obtain ⟨y, ds, n, ⟨rfl, rfl⟩, hY, hds⟩ := hP_; refine ⟨_, _, _, aH, rfl, ?_⟩; simp only [cl]) | (refine g_guard ?_; refine x_gsplit rfl rfl (fun h => ?_) (fun h => ?_) <;> (have h' := h; try simp only [sx] at h')) | (refine x_nil (hK _ _ aI ?_); clear hK K)) | (refine v_region (fun K hK => ?_)) | (refine v_condt rfl (fun h => ?_) (fun h => ?_) <;> (have h' := h; try simp only [sx] at h')))
    have hY3 := hY.2.2
    have kD1 := (Con.a (k_iDelay y ds n aO aO)).frz rfl
    have kD2 := (Con.a (k_sDelay y ds n aO aO)).frz rfl
    simp only [frz, frz2, List.map_cons, List.map_nil] at kD1 kD2
    have hdl := dcL_len y ds n
    have kV := k_vCuts (dcL y ds n) aO
    generalize dcL y ds n = D at *
    generalize decide (DcOk y ds n) = o at *
    cases o
    · repeat' (first | (refine g_exec ?_; refine x_aggNe2 aA rfl rfl ?_) | (refine pA (k := ?_)) | (refine g_exec ?_; first | (refine g_call ?_; first | (refine x_callA true (kD1) rfl rfl rfl rfl rfl aS rfl aH ?_; simp only [cl]) | (refine x_callA true (kD2) rfl rfl rfl rfl rfl aS rfl aH ?_; simp only [cl]) | (refine x_callG true (kV) rfl rfl rfl aS rfl aH ?_; simp only [cl])) | (refine g_guard ?_; refine x_gsplit rfl rfl (fun h => ?_) (fun h => ?_) <;> (have h' := h; try simp only [sx] at h')) | (refine x_nil (hK _ _ aI ?_); clear hK K)) | (refine v_region (fun K hK => ?_)) | (refine v_condt rfl (fun h => ?_) (fun h => ?_) <;> (have h' := h; try simp only [sx] at h')))
      all_goals first
        | (exfalso; simp at *; done)
        | exact ret_bool rfl (lookE_ok rfl) rfl
    · repeat' (first | (refine g_exec ?_; refine x_aggNe2 aA rfl rfl ?_) | (refine pA (k := ?_)) | (refine g_exec ?_; first | (refine g_call ?_; first | (refine x_callA true (kD1) rfl rfl rfl rfl rfl aS rfl aH ?_; simp only [cl]) | (refine x_callA true (kD2) rfl rfl rfl rfl rfl aS rfl aH ?_; simp only [cl]) | (refine x_callG true (kV) rfl rfl rfl aS rfl aH ?_; simp only [cl])) | (refine g_guard ?_; refine x_gsplit rfl rfl (fun h => ?_) (fun h => ?_) <;> (have h' := h; try simp only [sx] at h')) | (refine x_nil (hK _ _ aI ?_); clear hK K)) | (refine v_region (fun K hK => ?_)) | (refine v_condt rfl (fun h => ?_) (fun h => ?_) <;> (have h' := h; try simp only [sx] at h')))
      all_goals first
        | (exfalso; simp at *; done)
        | exact ret_bool rfl (lookE_ok rfl) rfl
end Go.Vs
set_option linter.unusedVariables false
set_option linter.unusedSimpArgs false
namespace Go.Proofs.Ytaoadjbjpagdoaa.FnCutsDone
open Go.ChangeShapes Go.WideShapes Go.ChangeAt Go.RowKit
open Go.Vs
theorem own : ownKnob Try.prog.godebug = none := by kernel_rfl
theorem laidOut : laidOutB Try.prog = true := by kernel_rfl
theorem one_cell {d : Nat} {sh : Sh} {us : List PV} (hl : us.length = 1) (h : ∀ (j : Nat) sh' u, [sh][j]? = some sh' → us[j]? = some u → CellIs d sh' u) : ∃ u, us = [u] ∧ CellIs d sh u := by
  match us, hl with
  | [u], _ => exact ⟨u, rfl, h 0 sh u rfl rfl⟩
set_option maxRecDepth 100000 in
theorem lifted (os : Os) (started : os.Started) (H : Type) (enc : TypeId × Value → H) :
    ReturnsInHanded {} Try.checked os 3 .any (Rows.fnCutsSpec.pre6 enc Try.prog Try.f3 Rows.fnCutsRow.domain false) (Rows.fnCutsSpec.post enc Try.prog Try.f3 false true false false) := by
  refine returnsInHanded_of_change (C := Try.checked) own started (by kernel_rfl) Try.func3
    (ChangeSpec.witness6 (enc := enc) (C := Try.checked) false ⟨#[], #[.slice none 0 0], []⟩ 8 (by kernel_rfl) (by kernel_rfl) (by kernel_rfl) (by kernel_rfl)) ?_
  intro W base args ds gs before hval0 hW hcnd _
  have hval : ∀ (j : Nat) t v, Try.f3.params[j]? = some t → args[j]? = some v → Value.okWide Try.prog W .any base t v := hval0
  have hW' := hW
  obtain ⟨p, q, hA0, hV, rfl, hfz, hnd⟩ := hW
  have hA : DataW.TrodAll enc Try.prog W 0 (fun _ => true) true Try.f3.params.toList args.toList ds p := hA0
  rw [Try.params3] at hA hval
  obtain ⟨v0, vs0, d0, ds0, p0, q0, hargs, rfl, rfl, h0, r0⟩ := trodAll_cons hA
  obtain ⟨rfl, rfl, rfl⟩ := trodAll_nil r0
  obtain rfl : args = #[v0] := by cases args; simp_all
  obtain ⟨rfl, rfl⟩ := trodVars_none hV
  obtain ⟨a0, len0, cap0, rfl⟩ := okWide_slice Try.underlying22 (hval 0 22 v0 rfl rfl)
  have k0 := h0
  have lt0 : ∀ x ∈ p0, x.block < W.heap.size := by obtain ⟨m, hm⟩ := k0; exact DataW.trod_lt m _ _ _ hm
  obtain ⟨us0, ul0, uc0, ur0⟩ : ∃ us : List PV, us.length = ([.slice [.byte]] : List Sh).length ∧ (∀ (j : Nat) sh u, ([.slice [.byte]] : List Sh)[j]? = some sh → us[j]? = some u → CellIs 4 sh u) ∧ ∀ ρ, Comps ρ W (fun b => b < W.heap.size) noMem #[.slice a0 len0 cap0] us := by
    obtain ⟨fuel, hf⟩ := h0
    exact open_all (d := 4) (T := 22) (by kernel_rfl) (by simpa [Value.cells] using hf)
  obtain ⟨u0, rfl, c0⟩ := one_cell ul0 uc0
  obtain ⟨code', rfl, b0⟩ := cell_list (fun b : {b : Int // 0 ≤ b ∧ b ≤ 255} => [PV.int .u8 b.1]) c0 (fun el hl h => by match el, hl with | [u], _ => obtain ⟨m, rfl, hm⟩ := cell_byte (h 0 _ _ rfl rfl); exact ⟨⟨m, hm⟩, rfl⟩)
  obtain ⟨code, e0, l0, b0'⟩ : ∃ code : List Int, code'.map (fun b : {b : Int // 0 ≤ b ∧ b ≤ 255} => [PV.int .u8 b.1]) = bytesP code ∧ code.length = code'.length ∧ ∀ b ∈ code, 0 ≤ b ∧ b ≤ 255 := ⟨code'.map (·.1), by simp [bytesP, Function.comp_def], by simp, fun a ha => by obtain ⟨q, _, rfl⟩ := List.mem_map.1 ha; exact q.2⟩
  rw [e0] at ur0
  rw [← l0] at b0
  clear hA0 hval0
  have hcomp : Comps (fun _ => none) W (fun b => b < W.heap.size) noMem #[.slice a0 len0 cap0] [.list 1 (bytesP code)] := by
    refine ⟨rfl, fun j u hu => ?_⟩
    match j, hu with
    | 0, hu =>
      simp only [List.getElem?_cons_zero, Option.some.injEq] at hu
      subst hu
      obtain ⟨c, hc, hr⟩ := (ur0 (fun _ => none)).2 0 _ rfl
      simp only [List.getElem?_toArray, List.getElem?_cons_zero, Option.some.injEq] at hc
      subst hc
      exact ⟨_, rfl, hr⟩
  refine (calls_below (law_FnCuts code (by simpa [Go.maxLen] using b0) b0') hcomp).mono fun e W' ⟨he, bel⟩ => ?_
  subst he
  exact ⟨_, rfl, _, _, _, [], _, [], hW', trodAll_mk1 (shut_bool Try.underlying4 _), (trodAll_cons_mk (Below.trod laidOut (by kernel_rfl) (of_decide_eq_true (by kernel_rfl)) k0 bel lt0) trodAll_mk0), rfl, bel.frame _, fun h => by cases h⟩
theorem over : Rows.fnCutsRow.holds Try.pinned (OpenSpec.ofChange Rows.fnCutsSpec) :=
  OpenClaim.holds_of_wide 3 Try.f3 rfl rfl rfl rfl rfl rfl rfl ⟨rfl, rfl, rfl, rfl, rfl⟩ rfl rfl rfl rfl rfl (by kernel_rfl) Try.func3 (by kernel_rfl)
    (of_decide_eq_true (by kernel_rfl)) (by unfold Func.isWrapper; first | (rw [if_pos (by decide +kernel)]; kernel_rfl) | (rw [if_neg (by decide +kernel)]; exact ⟨rfl, rfl⟩))
    (fun os started H enc _ => lifted os started H enc)
theorem proved : Rows.FnCutsSaid := over
end Go.Proofs.Ytaoadjbjpagdoaa.FnCutsDone
