/- Parts of a proof: what its last text mentions. -/
import Derived.Test.YtaoadjbjpagdoaaCxh
set_option linter.unusedVariables false
set_option linter.unusedSimpArgs false
set_option maxRecDepth 100000
set_option maxHeartbeats 4000000
namespace Go.Vs
open Go.Proofs
attribute [local irreducible] exec vwp thenQ blkQ loopQ RetPost RetPostR
def badB (t : Terrain) (xs ys : List Int) (c : Int) : Bool := decide (burnAt t c = 0 ∨ c ∈ xs ∨ c ∈ ys)
theorem k_l9Line (t : Terrain) (xs ys ln : List Int) (hg : GoodT t) (hx : CelT t xs) (hl : CelT t ln) (hxl : xs.length ≤ 1000000) (hyl : ys.length ≤ 1000000) (hll : ln.length ≤ 1000000) : ∃ b, Con Try.prog 98 [.agg t.pv, .list 1 (ints xs), .list 1 (ints ys), .list 1 (ints ln)] (.bool b) := by
  obtain ⟨out, ho, hol, kR⟩ := k_l2Reach (clrT t ln) xs (clrT_good hg ln) (fun y hy => clrT_cell (hx y hy)) hxl
  have kC := k_l2Clear t ln hg hl hll
  have kM := k_l9Meet out ys aO hyl
  have hlen := goodT_len hg
  refine ⟨if ln.any (badB t xs ys) = true then false else !metB out ys, ?_⟩
  intro al
  refine contract_of hmix Try.func98 rfl (by kernel_rfl) (by kernel_rfl) (Nat.le_of_ble_eq_true rfl) (fun row h => by cases h) ?_
  have hty_u24 := ty_u24
  have hty_s24 := ty_s24
  have hty_f26_2 := ty_f26_2
  have hty_c24 := ty_c24
  have hty_c3 := ty_c3
  have hty_a26 := ty_a26
  have hl1 : (ints ln).length = ln.length := by simp
  have hl2 : (ints t.burn).length = t.burn.length := by simp
  repeat' (first | (refine g_exec ?_; refine x_buildSliceL (d := 66) aA rfl rfl rfl ?_) | (refine pA (k := ?_)) | (refine g_exec ?_; first | (refine g_guard ?_; refine x_gsplit rfl rfl (fun h => ?_) (fun h => ?_) <;> (have h' := h; try simp only [sx] at h')) | (refine x_nil (hK _ _ aI ?_); clear hK K)) | (refine v_region (fun K hK => ?_)) | (refine v_condt rfl (fun h => ?_) (fun h => ?_) <;> (have h' := h; try simp only [sx] at h')))
  refine v_loopK [1, 2, 3, 4] [] (fun i : Nat => [(9, .int .i64 i)]) (fun i : Nat => []) (fun i : Nat => i ≤ ln.length ∧ ∀ y ∈ ln.take i, badB t xs ys y = false) (fun i : Nat => ln.length - i) (0) rfl rfl (fun _ => rfl) (fun _ => rfl) rfl (by refine ⟨?_, ?_, rfl, rfl⟩ <;> (repeat' (first | exact trivial | exact ⟨rfl, rfl⟩ | exact rfl | exact ⟨sub_fn, refs_fn⟩ | refine ⟨⟨rfl, rfl⟩, ?_⟩ | refine ⟨⟨sub_fn, refs_fn⟩, ?_⟩ | refine ⟨⟨rfl, fun h => Bool.noConfusion h⟩, ?_⟩ | refine ⟨⟨rfl, fun h => ?_⟩, ?_⟩ | refine ⟨rfl, ?_⟩ | refine ⟨?_, ?_⟩ | fail))) ⟨by omega, fun y hy => by simp at hy⟩ (fun i hi => ?_)
  obtain ⟨hi1, hi2⟩ := hi
  rcases Nat.lt_or_ge i ln.length with hlt | hge
  · obtain ⟨a, hga⟩ := get_ex hlt
    have hg' := ints_at hga
    have hca := hl.at hga
    have hcc := hca
    unfold IsCell at hcc
    have hb := ints_at (burn_at hca)
    by_cases hin : burnAt t a = 0 ∨ a ∈ xs ∨ a ∈ ys
    · have hy := any_yes (p := badB t xs ys) hga (decide_eq_true hin)
      repeat' (first | (refine g_exec ?_; refine x_buildSliceL (d := 66) aA rfl rfl rfl ?_) | (refine pA (k := ?_)) | (refine g_exec ?_; first | (refine g_call ?_; first | (refine x_callG true (k_l1Has xs a aO) rfl rfl rfl aS rfl aH ?_; simp only [cl]) | (refine x_callG true (k_l1Has ys a aO) rfl rfl rfl aS rfl aH ?_; simp only [cl])) | (refine g_guard ?_; refine x_gsplit rfl rfl (fun h => ?_) (fun h => ?_) <;> (have h' := h; try simp only [sx] at h')) | (refine x_nil (hK _ _ aI ?_); clear hK K)) | (refine v_region (fun K hK => ?_)) | (refine v_condt rfl (fun h => ?_) (fun h => ?_) <;> (have h' := h; try simp only [sx] at h')))
      all_goals first
        | exact ret_bool rfl (lookE_ok rfl) (by rw [if_pos hy])
        | (exfalso; rcases hin with g | g | g <;> first | (exact absurd g aA) | omega)
    · have n1 : burnAt t a ≠ 0 := fun h => hin (.inl h)
      have n2 : a ∉ xs := fun h => hin (.inr (.inl h))
      have n3 : a ∉ ys := fun h => hin (.inr (.inr h))
      repeat' (first | (refine g_exec ?_; refine x_buildSliceL (d := 66) aA rfl rfl rfl ?_) | (refine pA (k := ?_)) | (refine g_exec ?_; first | (refine g_call ?_; first | (refine x_callG true (k_l1Has xs a aO) rfl rfl rfl aS rfl aH ?_; simp only [cl]) | (refine x_callG true (k_l1Has ys a aO) rfl rfl rfl aS rfl aH ?_; simp only [cl])) | (refine g_guard ?_; refine x_gsplit rfl rfl (fun h => ?_) (fun h => ?_) <;> (have h' := h; try simp only [sx] at h')) | (refine x_nil (hK _ _ aI ?_); clear hK K)) | (refine v_region (fun K hK => ?_)) | (refine v_condt rfl (fun h => ?_) (fun h => ?_) <;> (have h' := h; try simp only [sx] at h')))
      all_goals first
        | (exact absurd aA n2)
        | (exact absurd aA n3)
        | (exfalso; omega)
        | (refine q_next (i + 1) rfl (by refine ⟨?_, ?_, rfl, rfl⟩ <;> (repeat' (first | exact trivial | exact ⟨rfl, rfl⟩ | exact rfl | exact ⟨sub_fn, refs_fn⟩ | refine ⟨⟨rfl, rfl⟩, ?_⟩ | refine ⟨⟨sub_fn, refs_fn⟩, ?_⟩ | refine ⟨⟨rfl, fun h => Bool.noConfusion h⟩, ?_⟩ | refine ⟨⟨rfl, fun h => ?_⟩, ?_⟩ | refine ⟨rfl, ?_⟩ | refine ⟨?_, ?_⟩ | fail))) ⟨by omega, any_step hi2 hga (decide_eq_false hin)⟩ aO)
  · have hno := any_no hi2 hge
    repeat' (first | (refine g_exec ?_; refine x_buildSliceL (d := 66) aA rfl rfl rfl ?_) | (refine pA (k := ?_)) | (refine g_exec ?_; first | (refine g_call ?_; first | (refine x_callG true (kC) rfl rfl rfl aS rfl aH ?_; simp only [cl]) | (refine x_callG true (kR) rfl rfl rfl aS rfl aH ?_; simp only [cl]) | (refine x_callG true (kM) rfl rfl rfl aS rfl aH ?_; simp only [cl])) | (refine g_guard ?_; refine x_gsplit rfl rfl (fun h => ?_) (fun h => ?_) <;> (have h' := h; try simp only [sx] at h')) | (refine x_nil (hK _ _ aI ?_); clear hK K)) | (refine v_region (fun K hK => ?_)) | (refine v_condt rfl (fun h => ?_) (fun h => ?_) <;> (have h' := h; try simp only [sx] at h')))
    exact ret_bool rfl (lookE_ok rfl) (by rw [if_neg (by rw [hno]; exact Bool.false_ne_true)])
def FstP (t : Terrain) (xs ys bg : List Int) (N : Nat) (r : List Int) (b : Bool) : Prop :=
  ContractP Try.prog 93 true [.agg t.pv, .list 1 (ints xs), .list 1 (ints ys), .list 1 (ints bg), .int .i64 N] [] (Ret (.tuple [.list 1 (ints r), .bool b]))
theorem ex_least {P : Nat → Prop} (n : Nat) : ∃ k, k ≤ n ∧ (k = n ∨ P k) ∧ ∀ j, j < k → ¬ P j := by
  induction n with
  | zero => exact ⟨0, Nat.le_refl _, .inl rfl, fun j h => by omega⟩
  | succ n ih =>
    obtain ⟨k, h1, h2, h3⟩ := ih
    by_cases hk : P k
    · exact ⟨k, by omega, .inr hk, h3⟩
    · rcases h2 with h2 | h2
      · subst h2
        exact ⟨k + 1, Nat.le_refl _, .inl rfl, fun j hj => by
          by_cases hjk : j = k
          · subst hjk; exact hk
          · exact h3 j aO⟩
      · exact absurd h2 hk
theorem k_l9First (t : Terrain) (xs ys : List Int) (hg : GoodT t) (hx : CelT t xs) (hy : CelT t ys) (hxl : xs.length ≤ 1000000) (hyl : ys.length ≤ 1000000) (N : Nat) (hN : N ≤ 1000) : ∀ (d : Nat) (bg : List Int), CelT t bg → bg.length + d = N →
    ∃ r b, r.length ≤ N ∧ CelT t r ∧ FstP t xs ys bg N r b := by
  have hlen := goodT_len hg
  have hl2 : (ints t.burn).length = t.burn.length := by simp
  intro d
  induction d with
  | zero =>
    intro bg hbg hd
    obtain ⟨b, kL⟩ := k_l9Line t xs ys bg hg hx hbg hxl hyl aO
    refine ⟨bg, b, by omega, hbg, ?_⟩
    unfold FstP
    have hl1 : (ints bg).length = bg.length := by simp
    refine contract_of hmix Try.func93 rfl (by kernel_rfl) (by kernel_rfl) (Nat.le_of_ble_eq_true rfl) (fun row h => by cases h) ?_
    have hty_u24 := ty_u24
    have hty_s24 := ty_s24
    have hty_a26 := ty_a26
    have hty_c3 := ty_c3
    have hty_f26_2 := ty_f26_2
    have hty_c24 := ty_c24
    repeat' (first | (refine g_exec ?_; refine x_buildSliceL (d := 66) aA rfl rfl rfl ?_) | (refine pA (k := ?_)) | (refine g_exec ?_; first | (refine g_call ?_; refine x_callG true (kL) rfl rfl rfl aS rfl aH ?_; simp only [cl]) | (refine x_nil (hK _ _ aI ?_); clear hK K)) | (refine v_region (fun K hK => ?_)) | (refine v_condt rfl (fun h => ?_) (fun h => ?_) <;> (have h' := h; try simp only [sx] at h')))
    all_goals first
      | (exfalso; omega)
      | exact ret_lstb rfl (lookE_ok rfl) (lookE_ok rfl) rfl rfl
  | succ d ih =>
    intro bg hbg hd
    have hl1 : (ints bg).length = bg.length := by simp
    obtain ⟨fr, hfr⟩ : ∃ fr : Nat, fr ≤ t.burn.length ∧ ((bg = [] ∧ fr = 0) ∨ ∃ a, bg[bg.length - 1]? = some a ∧ 0 < bg.length ∧ (fr : Int) = a + 1) := by
      cases hb : bg with
      | nil => exact ⟨0, by omega, .inl ⟨rfl, rfl⟩⟩
      | cons b0 rest =>
        rw [← hb]
        obtain ⟨a, ha⟩ := get_ex (show bg.length - 1 < bg.length by rw [hb]; simp)
        have hc := hbg.at ha
        unfold IsCell at hc
        exact ⟨(a + 1).toNat, by omega, .inr ⟨a, ha, by rw [hb]; simp, by omega⟩⟩
    obtain ⟨hfr1, hfr2⟩ := hfr
    have hnext : ∀ i : Nat, i < t.burn.length → (∃ r, r.length ≤ N ∧ CelT t r ∧ FstP t xs ys (bg ++ [(i : Int)]) N r true) ∨ ∃ r, FstP t xs ys (bg ++ [(i : Int)]) N r false := by
      intro i hi
      obtain ⟨r, b, h1, h2, h3⟩ := ih (bg ++ [(i : Int)]) (fun y hy => by
        rcases List.mem_append.1 hy with h | h
        · exact hbg y h
        · simp at h; rw [h]; exact ⟨by omega, by omega⟩) (by simp; omega)
      cases b with
      | true => exact .inl ⟨r, h1, h2, h3⟩
      | false => exact .inr ⟨r, h3⟩
    obtain ⟨i0, hi0, hat, hbef⟩ := ex_least (P := fun i => fr ≤ i ∧ freB t xs ys i = true ∧ ∃ r, r.length ≤ N ∧ CelT t r ∧ FstP t xs ys (bg ++ [(i : Int)]) N r true) t.burn.length
    have hbad : ∀ i : Nat, i < i0 → fr ≤ i → freB t xs ys i = true → ∃ r, FstP t xs ys (bg ++ [(i : Int)]) N r false := by
      intro i hi h1 h2
      rcases hnext i aO with h | h
      · exact absurd ⟨h1, h2, h⟩ (hbef i hi)
      · exact h
    obtain ⟨r0, b0, hr1, hr2, hr3⟩ : ∃ (r0 : List Int) (b0 : Bool), r0.length ≤ N ∧ CelT t r0 ∧ ((i0 = t.burn.length ∧ r0 = [] ∧ b0 = false) ∨ (i0 < t.burn.length ∧ b0 = true ∧ fr ≤ i0 ∧ freB t xs ys i0 = true ∧ FstP t xs ys (bg ++ [(i0 : Int)]) N r0 true)) := by
      by_cases he : i0 = t.burn.length
      · exact ⟨[], false, by simp, fun y hy => by simp at hy, .inl ⟨he, rfl, rfl⟩⟩
      · rcases hat with h | ⟨h1, h2, r, h3, h4, h5⟩
        · exact absurd h he
        · exact ⟨r, true, h3, h4, .inr ⟨by omega, rfl, h1, h2, h5⟩⟩
    refine ⟨r0, b0, hr1, hr2, ?_⟩
    unfold FstP
    refine contract_of hmix Try.func93 rfl (by kernel_rfl) (by kernel_rfl) (Nat.le_of_ble_eq_true rfl) (fun row h => by cases h) ?_
    have hty_u24 := ty_u24
    have hty_s24 := ty_s24
    have hty_a26 := ty_a26
    have hty_c3 := ty_c3
    have hty_f26_2 := ty_f26_2
    have hty_c24 := ty_c24
    have hfi : fr ≤ i0 := by rcases hat with h | h <;> omega
    rcases hfr2 with ⟨hb0, rfl⟩ | ⟨a, ha, hbp, hfa⟩
    · have hbl0 : bg.length = 0 := by rw [hb0]; rfl
      repeat' (first | (refine g_exec ?_; refine x_buildSliceL (d := 66) aA rfl rfl rfl ?_) | (refine pA (k := ?_)) | (refine g_exec ?_; refine x_nil (hK _ _ aI ?_); clear hK K) | (refine v_region (fun K hK => ?_)) | (refine v_condt rfl (fun h => ?_) (fun h => ?_) <;> (have h' := h; try simp only [sx] at h')))
      all_goals try (exfalso; omega)
      refine v_loopK [1, 2, 3, 4, 5] [] (fun i : Nat => [(14, .int .i64 i)]) (fun i : Nat => []) (fun i : Nat => i ≤ i0) (fun i : Nat => i0 - i) (0) rfl rfl (fun _ => rfl) (fun _ => rfl) rfl (by refine ⟨?_, ?_, rfl, rfl⟩ <;> (repeat' (first | exact trivial | exact ⟨rfl, rfl⟩ | exact rfl | exact ⟨sub_fn, refs_fn⟩ | refine ⟨⟨rfl, rfl⟩, ?_⟩ | refine ⟨⟨sub_fn, refs_fn⟩, ?_⟩ | refine ⟨⟨rfl, fun h => Bool.noConfusion h⟩, ?_⟩ | refine ⟨⟨rfl, fun h => ?_⟩, ?_⟩ | refine ⟨rfl, ?_⟩ | refine ⟨?_, ?_⟩ | fail))) aO (fun i hi => ?_)
      rcases Nat.lt_or_ge i i0 with hlt | hge
      · have hca : IsCell t (i : Int) := ⟨by omega, by omega⟩
        have kF := k_l9Free t xs ys i hg hca hxl hyl
        cases hf : freB t xs ys i with
        | false =>
          rw [hf] at kF
          repeat' (first | (refine g_exec ?_; refine x_buildSliceL (d := 66) aA rfl rfl rfl ?_) | (refine pA (k := ?_)) | (refine g_exec ?_; first | (refine g_call ?_; refine x_callG true (kF) rfl rfl rfl aS rfl aH ?_; simp only [cl]) | (refine x_nil (hK _ _ aI ?_); clear hK K)) | (refine v_region (fun K hK => ?_)) | (refine v_condt rfl (fun h => ?_) (fun h => ?_) <;> (have h' := h; try simp only [sx] at h')))
          all_goals first
            | (exfalso; omega)
            | (refine q_next (i + 1) rfl (by refine ⟨?_, ?_, rfl, rfl⟩ <;> (repeat' (first | exact trivial | exact ⟨rfl, rfl⟩ | exact rfl | exact ⟨sub_fn, refs_fn⟩ | refine ⟨⟨rfl, rfl⟩, ?_⟩ | refine ⟨⟨sub_fn, refs_fn⟩, ?_⟩ | refine ⟨⟨rfl, fun h => Bool.noConfusion h⟩, ?_⟩ | refine ⟨⟨rfl, fun h => ?_⟩, ?_⟩ | refine ⟨rfl, ?_⟩ | refine ⟨?_, ?_⟩ | fail))) aO aO)
        | true =>
          rw [hf] at kF
          obtain ⟨r, kB⟩ := hbad i hlt aO hf
          unfold FstP at kB
          rw [ints_snoc] at kB
          have kO := k_l1OwnF bg aO
          repeat' (first | (refine g_exec ?_; refine x_buildSliceL (d := 66) aA rfl rfl rfl ?_) | (refine pA (k := ?_)) | (refine g_exec ?_; first | (refine g_call ?_; first | (refine x_callG true (kF) rfl rfl rfl aS rfl aH ?_; simp only [cl]) | (refine x_callG true (kO) rfl rfl rfl aS rfl aH ?_; simp only [cl]) | (refine x_callA true (kB) rfl rfl rfl rfl rfl aS rfl aH ?_; simp only [cl])) | (refine x_nil (hK _ _ aI ?_); clear hK K)) | (refine v_region (fun K hK => ?_)) | (refine v_condt rfl (fun h => ?_) (fun h => ?_) <;> (have h' := h; try simp only [sx] at h')))
          all_goals first
            | (exfalso; omega)
            | (refine q_next (i + 1) rfl (by refine ⟨?_, ?_, rfl, rfl⟩ <;> (repeat' (first | exact trivial | exact ⟨rfl, rfl⟩ | exact rfl | exact ⟨sub_fn, refs_fn⟩ | refine ⟨⟨rfl, rfl⟩, ?_⟩ | refine ⟨⟨sub_fn, refs_fn⟩, ?_⟩ | refine ⟨⟨rfl, fun h => Bool.noConfusion h⟩, ?_⟩ | refine ⟨⟨rfl, fun h => ?_⟩, ?_⟩ | refine ⟨rfl, ?_⟩ | refine ⟨?_, ?_⟩ | fail))) aO aO)
      · have : i = i0 := by omega
        subst this
        rcases hr3 with ⟨g1, rfl, rfl⟩ | ⟨g1, rfl, g2, g3, kG⟩
        · repeat' (first | (refine g_exec ?_; refine x_buildSliceL (d := 66) aA rfl rfl rfl ?_) | (refine pA (k := ?_)) | (refine g_exec ?_; refine x_nil (hK _ _ aI ?_); clear hK K) | (refine v_region (fun K hK => ?_)) | (refine v_condt rfl (fun h => ?_) (fun h => ?_) <;> (have h' := h; try simp only [sx] at h')))
          all_goals first
            | (exfalso; omega)
            | exact ret_lstb rfl (lookE_ok rfl) (lookE_ok rfl) rfl rfl
        · have hca : IsCell t (i : Int) := ⟨by omega, by omega⟩
          have kF := k_l9Free t xs ys i hg hca hxl hyl
          rw [g3] at kF
          unfold FstP at kG
          rw [ints_snoc] at kG
          have kO := k_l1OwnF bg aO
          repeat' (first | (refine g_exec ?_; refine x_buildSliceL (d := 66) aA rfl rfl rfl ?_) | (refine pA (k := ?_)) | (refine g_exec ?_; first | (refine g_call ?_; first | (refine x_callG true (kF) rfl rfl rfl aS rfl aH ?_; simp only [cl]) | (refine x_callG true (kO) rfl rfl rfl aS rfl aH ?_; simp only [cl]) | (refine x_callA true (kG) rfl rfl rfl rfl rfl aS rfl aH ?_; simp only [cl])) | (refine x_nil (hK _ _ aI ?_); clear hK K)) | (refine v_region (fun K hK => ?_)) | (refine v_condt rfl (fun h => ?_) (fun h => ?_) <;> (have h' := h; try simp only [sx] at h')))
          all_goals first
            | (exfalso; omega)
            | exact ret_lstb rfl (lookE_ok rfl) (lookE_ok rfl) rfl rfl
    · have hai : (ints bg)[(((ints bg).length : Int) - 1).toNat]? = some [.int .i64 a] := by
        rw [show (((ints bg).length : Int) - 1).toNat = bg.length - 1 by omega]
        exact ints_at ha
      have hac := hbg.at ha
      unfold IsCell at hac
      repeat' (first | (refine g_exec ?_; refine x_buildSliceL (d := 66) aA rfl rfl rfl ?_) | (refine pA (k := ?_)) | (refine g_exec ?_; refine x_nil (hK _ _ aI ?_); clear hK K) | (refine v_region (fun K hK => ?_)) | (refine v_condt rfl (fun h => ?_) (fun h => ?_) <;> (have h' := h; try simp only [sx] at h')))
      all_goals try (exfalso; omega)
      refine v_loopK [1, 2, 3, 4, 5] [] (fun i : Int => [(14, .int .i64 i)]) (fun i : Int => []) (fun i : Int => (fr : Int) ≤ i ∧ i ≤ i0) (fun i : Int => ((i0 : Int) - i).toNat) ((a + 1)) rfl rfl (fun _ => rfl) (fun _ => rfl) rfl (by refine ⟨?_, ?_, rfl, rfl⟩ <;> (repeat' (first | exact trivial | exact ⟨rfl, rfl⟩ | exact rfl | exact ⟨sub_fn, refs_fn⟩ | refine ⟨⟨rfl, rfl⟩, ?_⟩ | refine ⟨⟨sub_fn, refs_fn⟩, ?_⟩ | refine ⟨⟨rfl, fun h => Bool.noConfusion h⟩, ?_⟩ | refine ⟨⟨rfl, fun h => ?_⟩, ?_⟩ | refine ⟨rfl, ?_⟩ | refine ⟨?_, ?_⟩ | fail))) aO (fun i hi => ?_)
      obtain ⟨i', hi'⟩ : ∃ k : Nat, i = (k : Int) := ⟨i.toNat, by omega⟩
      subst hi'
      rename Nat => i
      rcases Nat.lt_or_ge i i0 with hlt | hge
      · have hca : IsCell t (i : Int) := ⟨by omega, by omega⟩
        have kF := k_l9Free t xs ys i hg hca hxl hyl
        cases hf : freB t xs ys i with
        | false =>
          rw [hf] at kF
          repeat' (first | (refine g_exec ?_; refine x_buildSliceL (d := 66) aA rfl rfl rfl ?_) | (refine pA (k := ?_)) | (refine g_exec ?_; first | (refine g_call ?_; refine x_callG true (kF) rfl rfl rfl aS rfl aH ?_; simp only [cl]) | (refine x_nil (hK _ _ aI ?_); clear hK K)) | (refine v_region (fun K hK => ?_)) | (refine v_condt rfl (fun h => ?_) (fun h => ?_) <;> (have h' := h; try simp only [sx] at h')))
          all_goals first
            | (exfalso; omega)
            | (refine q_next ((i : Int) + 1) rfl (by refine ⟨?_, ?_, rfl, rfl⟩ <;> (repeat' (first | exact trivial | exact ⟨rfl, rfl⟩ | exact rfl | exact ⟨sub_fn, refs_fn⟩ | refine ⟨⟨rfl, rfl⟩, ?_⟩ | refine ⟨⟨sub_fn, refs_fn⟩, ?_⟩ | refine ⟨⟨rfl, fun h => Bool.noConfusion h⟩, ?_⟩ | refine ⟨⟨rfl, fun h => ?_⟩, ?_⟩ | refine ⟨rfl, ?_⟩ | refine ⟨?_, ?_⟩ | fail))) aO aO)
        | true =>
          rw [hf] at kF
          obtain ⟨r, kB⟩ := hbad i hlt aO hf
          unfold FstP at kB
          rw [ints_snoc] at kB
          have kO := k_l1OwnF bg aO
          repeat' (first | (refine g_exec ?_; refine x_buildSliceL (d := 66) aA rfl rfl rfl ?_) | (refine pA (k := ?_)) | (refine g_exec ?_; first | (refine g_call ?_; first | (refine x_callG true (kF) rfl rfl rfl aS rfl aH ?_; simp only [cl]) | (refine x_callG true (kO) rfl rfl rfl aS rfl aH ?_; simp only [cl]) | (refine x_callA true (kB) rfl rfl rfl rfl rfl aS rfl aH ?_; simp only [cl])) | (refine x_nil (hK _ _ aI ?_); clear hK K)) | (refine v_region (fun K hK => ?_)) | (refine v_condt rfl (fun h => ?_) (fun h => ?_) <;> (have h' := h; try simp only [sx] at h')))
          all_goals first
            | (exfalso; omega)
            | (refine q_next ((i : Int) + 1) rfl (by refine ⟨?_, ?_, rfl, rfl⟩ <;> (repeat' (first | exact trivial | exact ⟨rfl, rfl⟩ | exact rfl | exact ⟨sub_fn, refs_fn⟩ | refine ⟨⟨rfl, rfl⟩, ?_⟩ | refine ⟨⟨sub_fn, refs_fn⟩, ?_⟩ | refine ⟨⟨rfl, fun h => Bool.noConfusion h⟩, ?_⟩ | refine ⟨⟨rfl, fun h => ?_⟩, ?_⟩ | refine ⟨rfl, ?_⟩ | refine ⟨?_, ?_⟩ | fail))) aO aO)
      · have : i = i0 := by omega
        subst this
        rcases hr3 with ⟨g1, rfl, rfl⟩ | ⟨g1, rfl, g2, g3, kG⟩
        · repeat' (first | (refine g_exec ?_; refine x_buildSliceL (d := 66) aA rfl rfl rfl ?_) | (refine pA (k := ?_)) | (refine g_exec ?_; refine x_nil (hK _ _ aI ?_); clear hK K) | (refine v_region (fun K hK => ?_)) | (refine v_condt rfl (fun h => ?_) (fun h => ?_) <;> (have h' := h; try simp only [sx] at h')))
          all_goals first
            | (exfalso; omega)
            | exact ret_lstb rfl (lookE_ok rfl) (lookE_ok rfl) rfl rfl
        · have hca : IsCell t (i : Int) := ⟨by omega, by omega⟩
          have kF := k_l9Free t xs ys i hg hca hxl hyl
          rw [g3] at kF
          unfold FstP at kG
          rw [ints_snoc] at kG
          have kO := k_l1OwnF bg aO
          repeat' (first | (refine g_exec ?_; refine x_buildSliceL (d := 66) aA rfl rfl rfl ?_) | (refine pA (k := ?_)) | (refine g_exec ?_; first | (refine g_call ?_; first | (refine x_callG true (kF) rfl rfl rfl aS rfl aH ?_; simp only [cl]) | (refine x_callG true (kO) rfl rfl rfl aS rfl aH ?_; simp only [cl]) | (refine x_callA true (kG) rfl rfl rfl rfl rfl aS rfl aH ?_; simp only [cl])) | (refine x_nil (hK _ _ aI ?_); clear hK K)) | (refine v_region (fun K hK => ?_)) | (refine v_condt rfl (fun h => ?_) (fun h => ?_) <;> (have h' := h; try simp only [sx] at h')))
          all_goals first
            | (exfalso; omega)
            | exact ret_lstb rfl (lookE_ok rfl) (lookE_ok rfl) rfl rfl
end Go.Vs
set_option linter.unusedVariables false
set_option linter.unusedSimpArgs false
set_option linter.unusedSectionVars false
set_option maxRecDepth 100000
set_option maxHeartbeats 4000000
namespace Go.Vs
open Go.Proofs
attribute [local irreducible] exec vwp thenQ blkQ loopQ RetPost
section
variable [fl : Inhabited FlrT] {ops : Array Oper} {rest : List Oper} {env : List (Nat × PV)} {mem : List (Id × Option Row)} {tr : List (List Id × List Id)} {K : St → List (List Id × List Id) → Prop}
  {d : Nat} {ty : TypeId} {pos : String} {af : Array Edge}
theorem x_caps {f : Operand} {args : List Operand} {ats : Array TypeId} {fi ca : List PV} (hok : ∀ (w0 : World) X, FlOk w0 X → ∀ b, (w0.heap.size ≤ b ∨ ∃ z, some (b, z) ∈ X) → flW b) (t : Terrain) (xs ys : List Int) (hg : GoodT t) (hx : CelT t xs) (hy : CelT t ys) (hxl : xs.length ≤ 1000000) (hyl : ys.length ≤ 1000000) (N : Nat) (hN : N = 2 * t.burn.length + 2)
    (hf : ev (getE env) f = .fn 96 fi ca) (hxs : fi ++ args.map (ev (getE env)) ++ ca = [.agg t.pv, .list 1 (ints xs), .list 1 (ints ys)]) (hd0 : Nat.beq d io = false)
    (hk : ∀ qs : List Plc, qs.length = N → Apt qs → (∀ q ∈ qs, ∀ b, inQ q b → flN ≤ b ∧ flW b) → exec Try.prog ops false rest ⟨[(d, .osl (d, 0) 0 N)], [((d, 0), some ⟨24, 1, rowM 3 qs (capM t xs ys N t.burn.length), false⟩)]⟩ (([], []) :: tr) K) :
    exec Try.prog ops false (⟨some d, .call ⟨.value f, args.toArray, ats⟩, ty, pos, af, none⟩ :: rest) ⟨env, mem⟩ tr K :=
  x_big _ rfl (big_caps hok t xs ys hg hx hy hxl hyl N hN rfl rfl hf rfl (by simpa using hxs) (fun e => by rw [e] at hd0; simp at hd0)) rfl fun st' ⟨qs, h1, h2, h3, e⟩ => by rw [e]; exact hk qs h1 h2 h3
theorem x_pushN {f : Operand} {args : List Operand} {ats : Array TypeId} {fi ca : List PV} {id : Id} (env' : List (Nat × PV)) (hok : ∀ (w0 : World) X, FlOk w0 X → ∀ b, (w0.heap.size ≤ b ∨ ∃ z, some (b, z) ∈ X) → flW b) (n : Nat) (hn : 2 ≤ n) (hn2 : n ≤ 1000) (M : Mtx) (hD : Dim n M) (hD2 : canP M n = true → Dim n (pshM M n)) (qs : List Plc) (hl : qs.length = n) (hA : Apt qs) (hw : ∀ x ∈ qs, ∀ b, inQ x b → flN ≤ b ∧ flW b)
    (b : Bool) (hb : canP M n = b) (M2 : Mtx) (hM2 : (if b = true then pshM M n else M) = M2) (hid0 : id.1 ≠ io)
    (hf : ev (getE env) f = .fn 97 fi ca) (hxs : fi ++ args.map (ev (getE env)) ++ ca = [.osl id 0 n])
    (hm : getM mem id = some (some ⟨24, 1, rowM 3 qs M, false⟩)) (henv : allL (fun p : Nat × PV => getE env p.1 = p.2 ∧ (p.2.flat = true ∨ p.2 = .osl id 0 n)) env')
    (hk : ∀ ps : List Plc, ps.length = n → Apt ps → (∀ q ∈ ps, ∀ b, inQ q b → flN ≤ b ∧ flW b) → exec Try.prog ops false rest ⟨(d, .bool b) :: env', [(id, some ⟨24, 1, rowM 3 ps M2, false⟩)]⟩ (([], []) :: tr) K) :
    exec Try.prog ops false (⟨some d, .call ⟨.value f, args.toArray, ats⟩, ty, pos, af, none⟩ :: rest) ⟨env, mem⟩ tr K := by
  subst hM2
  subst hb
  exact x_big _ rfl (big_push hok n hn hn2 M hD hD2 qs hl hA hw rfl rfl hf rfl (by simpa using hxs) hid0 hm henv) rfl fun st' ⟨qs, h1, h2, h3, e⟩ => by rw [e]; exact hk qs h1 h2 h3
end
theorem ways_at [fl : Inhabited FlrT] {al : Bool} (hok : ∀ (w0 : World) X, FlOk w0 X → ∀ b, (w0.heap.size ≤ b ∨ ∃ z, some (b, z) ∈ X) → flW b) (t : Terrain) (xs ys : List Int) (hg : GoodT t) (hx : CelT t xs) (hy : CelT t ys) (hxl : xs.length ≤ 1000000) (hyl : ys.length ≤ 1000000) (n : Nat) (hn : n = 2 * t.burn.length + 2)
    (W : Nat) (hW1 : W ≤ n) (hW2 : canP (wys (capM t xs ys n t.burn.length) n W) n = false) (hW3 : ∀ k, k < W → canP (wys (capM t xs ys n t.burn.length) n k) n = true)
    {G : Nat → Prop} {w : World} {X : List (Option (Nat × Nat))} {ρ : Id → Option (Nat × Nat)} {cargs : Array Value}
    (hF : FlOk w X) (hW : WRel G ρ w X (ioMem []) w) (hC : Comps ρ w (Stab G ρ (ioMem []) w) (ioMem []) cargs [.agg t.pv, .list 1 (ints xs), .list 1 (ints ys)]) :
    Calls Try.prog 92 cargs w fun e w' => ∃ v r fin, e = .returned v ∧ Ret (.int .i64 (W : Nat)) r fin ∧ fin.length = ([] : List Row).length ∧
      (∀ (k : Nat) row f, ([] : List Row)[k]? = some row → fin[k]? = some f → f.length = row.es.length ∧ (row.bx = true → f = row.es)) ∧ ∀ t, t ≠ io → ∃ ρ', RetOk G al w X w' v r [] fin t ρ' := by
  refine contract_at hmix Try.func92 rfl (by kernel_rfl) (Nat.le_of_ble_eq_true rfl) (fun row h => by cases h) ?_ hF hW hC
  have hty_a26 := ty_a26
  have hty_u24 := ty_u24
  have hty_s24 := ty_s24
  have hty_u104 := ty_u104
  have hty_s104 := ty_s104
  have hlen := goodT_len hg
  have hZ := capM_zo (xs := xs) (ys := ys) hn t.burn.length (Nat.le_refl _)
  have hS := hZ.src aO
  generalize hM0 : capM t xs ys n t.burn.length = M0 at *
  have hsrc : ∀ k, k ≤ W → SrcM n (wys M0 n k) := fun k hk => (wys_src aO hS k fun t' ht => hW3 t' aO).1
  repeat' (first | (refine pA (k := ?_)) | (refine g_exec ?_; first | (refine g_call ?_; refine x_caps hok t xs ys hg hx hy hxl hyl n hn rfl rfl rfl (fun qs_ hl_ ha_ hw_ => ?_)) | (refine x_nil (hK _ _ aI ?_); clear hK K)) | (refine v_region (fun K hK => ?_)) | (refine v_condt rfl (fun h => ?_) (fun h => ?_) <;> (have h' := h; try simp only [sx] at h')))
  rw [hM0]
  repeat' (first | (refine pA (k := ?_)) | (refine g_exec ?_; refine x_nil (hK _ _ aI ?_); clear hK K) | (refine v_region (fun K hK => ?_)) | (refine v_condt rfl (fun h => ?_) (fun h => ?_) <;> (have h' := h; try simp only [sx] at h')))
  refine v_loopK [7] [(12, 0)] (fun q : Nat × List Plc => [(8, .int .i64 q.1)]) (fun q : Nat × List Plc => [((12, 0), some ⟨24, 1, rowM 3 q.2 (wys M0 n q.1), false⟩)]) (fun q : Nat × List Plc => q.1 ≤ W ∧ q.2.length = n ∧ Apt q.2 ∧ ∀ x ∈ q.2, ∀ b, inQ x b → flN ≤ b ∧ flW b) (fun q : Nat × List Plc => W - q.1) ((0, qs_)) rfl rfl (fun _ => rfl) (fun _ => rfl) rfl (by refine ⟨?_, ?_, rfl, rfl⟩ <;> (repeat' (first | exact trivial | exact ⟨rfl, rfl⟩ | exact rfl | exact ⟨sub_fn, refs_fn⟩ | refine ⟨⟨rfl, rfl⟩, ?_⟩ | refine ⟨⟨sub_fn, refs_fn⟩, ?_⟩ | refine ⟨⟨rfl, fun h => Bool.noConfusion h⟩, ?_⟩ | refine ⟨⟨rfl, fun h => ?_⟩, ?_⟩ | refine ⟨rfl, ?_⟩ | refine ⟨?_, ?_⟩ | fail))) ⟨by simp, hl_, ha_, hw_⟩ (fun q hq => ?_)
  obtain ⟨k, ps⟩ := q
  obtain ⟨g1, g2, g3, g4⟩ := hq
  simp only at g1 g2 g3 g4
  have hs := hsrc k g1
  have hpD : canP (wys M0 n k) n = true → Dim n (pshM (wys M0 n k) n) := fun h => (hs.push aO h).1.1
  dsimp only
  rcases Nat.lt_or_ge k W with hlt | hge
  · repeat' (first | (refine pA (k := ?_)) | (refine g_exec ?_; first | (refine g_call ?_; refine x_pushN (id := (12, 0)) [(7, .osl (12, 0) 0 n), (8, .int .i64 (k : Nat))] hok n aO aO (wys M0 n k) hs.1 hpD ps g2 g3 g4 true (hW3 k hlt) (wys M0 n (k + 1)) rfl (by decide) rfl rfl rfl ⟨⟨rfl, .inr rfl⟩, ⟨rfl, .inl rfl⟩, trivial⟩ (fun ps_ hl2_ ha2_ hw2_ => ?_)) | (refine x_nil (hK _ _ aI ?_); clear hK K)) | (refine v_region (fun K hK => ?_)) | (refine v_condt rfl (fun h => ?_) (fun h => ?_) <;> (have h' := h; try simp only [sx] at h')))
    all_goals try (exfalso; omega)
    all_goals (refine q_next (k + 1, ps_) rfl (by refine ⟨?_, ?_, rfl, rfl⟩ <;> (repeat' (first | exact trivial | exact ⟨rfl, rfl⟩ | exact rfl | exact ⟨sub_fn, refs_fn⟩ | refine ⟨⟨rfl, rfl⟩, ?_⟩ | refine ⟨⟨sub_fn, refs_fn⟩, ?_⟩ | refine ⟨⟨rfl, fun h => Bool.noConfusion h⟩, ?_⟩ | refine ⟨⟨rfl, fun h => ?_⟩, ?_⟩ | refine ⟨rfl, ?_⟩ | refine ⟨?_, ?_⟩ | fail))) ⟨by simp only; omega, hl2_, ha2_, hw2_⟩ (by simp only; omega))
  · have hkW : k = W := by omega
    subst hkW
    repeat' (first | (refine pA (k := ?_)) | (refine g_exec ?_; first | (refine g_call ?_; refine x_pushN (id := (12, 0)) [(7, .osl (12, 0) 0 n), (8, .int .i64 (k : Nat))] hok n aO aO (wys M0 n k) hs.1 hpD ps g2 g3 g4 false hW2 (wys M0 n k) rfl (by decide) rfl rfl rfl ⟨⟨rfl, .inr rfl⟩, ⟨rfl, .inl rfl⟩, trivial⟩ (fun ps_ hl2_ ha2_ hw2_ => ?_)) | (refine x_nil (hK _ _ aI ?_); clear hK K)) | (refine v_region (fun K hK => ?_)) | (refine v_condt rfl (fun h => ?_) (fun h => ?_) <;> (have h' := h; try simp only [sx] at h')))
    all_goals try (exfalso; omega)
    exact ret_int rfl (lookE_ok rfl) rfl
theorem k_l9Ways (t : Terrain) (xs ys : List Int) (hg : GoodT t) (hx : CelT t xs) (hy : CelT t ys) (hxl : xs.length ≤ 1000000) (hyl : ys.length ≤ 1000000) : ∃ W : Nat, W ≤ 60 ∧ Con Try.prog 92 [.agg t.pv, .list 1 (ints xs), .list 1 (ints ys)] (.int .i64 (W : Nat)) := by
  have hlen := goodT_len hg
  obtain ⟨n, hn⟩ : ∃ n, n = 2 * t.burn.length + 2 := ⟨_, rfl⟩
  obtain ⟨W, h1, h2, h3⟩ := wys_ex (M := capM t xs ys n t.burn.length) (n := n) aO ((capM_zo hn _ (Nat.le_refl _)).src aO)
  refine ⟨W, by omega, fun al => ⟨⟨_, Try.func92, by kernel_rfl, rfl⟩, fun G w X ρ cargs hW _ hC => ?_⟩⟩
  exact ways_at (fl := ⟨⟨0, fun b => w.heap.size ≤ b ∨ ∃ z, some (b, z) ∈ X, fun w0 X' => ∀ b, (w0.heap.size ≤ b ∨ ∃ z, some (b, z) ∈ X') → (w.heap.size ≤ b ∨ ∃ z, some (b, z) ∈ X)⟩⟩) (fun w0 X' h => h.2.2.2) t xs ys hg hx hy hxl hyl n hn W h1 h2 h3 ⟨Nat.zero_le _, fun b h => h, fun _ _ _ => Nat.zero_le _, fun b h => h⟩ hW hC
end Go.Vs
set_option linter.unusedVariables false
set_option linter.unusedSimpArgs false
set_option linter.unusedSectionVars false
set_option maxRecDepth 100000
set_option maxHeartbeats 4000000
namespace Go.Vs
open Go.Proofs
attribute [local irreducible] exec vwp thenQ blkQ loopQ RetPost
theorem k_BestLine (t : Terrain) (xs ys : List Int) (hn : t.burn.length ≤ 1000) (hxl : xs.length ≤ 1000000) (hyl : ys.length ≤ 1000000) :
    ∃ r b, r.length ≤ 3 ∧ ContractP Try.prog 83 true [.agg t.pv, .list 1 (ints xs), .list 1 (ints ys)] [] (Ret (.tuple [.list 1 (ints r), .bool b])) := by
  have kA := k_l9Asked t xs ys aO hxl hyl
  by_cases hA : AskL t xs ys
  · rw [decide_eq_true hA] at kA
    obtain ⟨hg, hx, _, hy, _, _⟩ := hA
    have kO := k_l9Open t xs ys hg hx hxl hyl
    cases ho : opnB t xs ys with
    | true =>
      rw [ho] at kO
      refine ⟨[], false, by simp, ?_⟩
      refine contract_of hmix Try.func83 rfl (by kernel_rfl) (by kernel_rfl) (Nat.le_of_ble_eq_true rfl) (fun row h => by cases h) ?_
      have hty_a26 := ty_a26
      have hty_u24 := ty_u24
      have hty_s24 := ty_s24
      repeat' (first | (refine g_exec ?_; first | (refine x_buildSliceL (d := 20) aA rfl rfl rfl ?_) | (refine x_buildSliceL (d := 27) aA rfl rfl rfl ?_)) | (refine pA (k := ?_)) | (refine g_exec ?_; first | (refine g_call ?_; first | (refine x_callG true (kA) rfl rfl rfl aS rfl aH ?_; simp only [cl]) | (refine x_callG true (kO) rfl rfl rfl aS rfl aH ?_; simp only [cl])) | (refine g_guard ?_; refine x_gsplit rfl rfl (fun h => ?_) (fun h => ?_) <;> (have h' := h; try simp only [sx] at h')) | (refine x_nil (hK _ _ aI ?_); clear hK K)) | (refine v_region (fun K hK => ?_)) | (refine v_condt rfl (fun h => ?_) (fun h => ?_) <;> (have h' := h; try simp only [sx] at h')))
      all_goals first
        | (exfalso; omega)
        | exact ret_lstb rfl (lookE_ok rfl) (lookE_ok rfl) rfl rfl
    | false =>
      rw [ho] at kO
      obtain ⟨W, hW, kW⟩ := k_l9Ways t xs ys hg hx hy hxl hyl
      by_cases h3 : 3 < W
      · refine ⟨[], false, by simp, ?_⟩
        refine contract_of hmix Try.func83 rfl (by kernel_rfl) (by kernel_rfl) (Nat.le_of_ble_eq_true rfl) (fun row h => by cases h) ?_
        have hty_a26 := ty_a26
        have hty_u24 := ty_u24
        have hty_s24 := ty_s24
        repeat' (first | (refine g_exec ?_; first | (refine x_buildSliceL (d := 20) aA rfl rfl rfl ?_) | (refine x_buildSliceL (d := 27) aA rfl rfl rfl ?_)) | (refine pA (k := ?_)) | (refine g_exec ?_; first | (refine g_call ?_; first | (refine x_callG true (kA) rfl rfl rfl aS rfl aH ?_; simp only [cl]) | (refine x_callG true (kO) rfl rfl rfl aS rfl aH ?_; simp only [cl]) | (refine x_callG true (kW) rfl rfl rfl aS rfl aH ?_; simp only [cl])) | (refine g_guard ?_; refine x_gsplit rfl rfl (fun h => ?_) (fun h => ?_) <;> (have h' := h; try simp only [sx] at h')) | (refine x_nil (hK _ _ aI ?_); clear hK K)) | (refine v_region (fun K hK => ?_)) | (refine v_condt rfl (fun h => ?_) (fun h => ?_) <;> (have h' := h; try simp only [sx] at h')))
        all_goals first
          | (exfalso; omega)
          | exact ret_lstb rfl (lookE_ok rfl) (lookE_ok rfl) rfl rfl
      · obtain ⟨r, b, h1, h2, kF⟩ := k_l9First t xs ys hg hx hy hxl hyl W aO W [] (fun y hy => by simp at hy) (by simp)
        unfold FstP at kF
        refine ⟨r, b, by omega, ?_⟩
        refine contract_of hmix Try.func83 rfl (by kernel_rfl) (by kernel_rfl) (Nat.le_of_ble_eq_true rfl) (fun row h => by cases h) ?_
        have hty_a26 := ty_a26
        have hty_u24 := ty_u24
        have hty_s24 := ty_s24
        repeat' (first | (refine g_exec ?_; first | (refine x_buildSliceL (d := 20) aA rfl rfl rfl ?_) | (refine x_buildSliceL (d := 27) aA rfl rfl rfl ?_)) | (refine pA (k := ?_)) | (refine g_exec ?_; first | (refine g_call ?_; first | (refine x_callG true (kA) rfl rfl rfl aS rfl aH ?_; simp only [cl]) | (refine x_callG true (kO) rfl rfl rfl aS rfl aH ?_; simp only [cl]) | (refine x_callG true (kW) rfl rfl rfl aS rfl aH ?_; simp only [cl]) | (refine x_callA true (kF) rfl rfl rfl rfl rfl aS rfl aH ?_; simp only [cl])) | (refine g_guard ?_; refine x_gsplit rfl rfl (fun h => ?_) (fun h => ?_) <;> (have h' := h; try simp only [sx] at h')) | (refine x_nil (hK _ _ aI ?_); clear hK K)) | (refine v_region (fun K hK => ?_)) | (refine v_condt rfl (fun h => ?_) (fun h => ?_) <;> (have h' := h; try simp only [sx] at h')))
        all_goals first
          | (exfalso; omega)
          | exact ret_lstb rfl (lookE_ok rfl) (lookE_ok rfl) rfl rfl
  · rw [decide_eq_false hA] at kA
    refine ⟨[], false, by simp, ?_⟩
    refine contract_of hmix Try.func83 rfl (by kernel_rfl) (by kernel_rfl) (Nat.le_of_ble_eq_true rfl) (fun row h => by cases h) ?_
    have hty_a26 := ty_a26
    have hty_u24 := ty_u24
    have hty_s24 := ty_s24
    repeat' (first | (refine g_exec ?_; first | (refine x_buildSliceL (d := 20) aA rfl rfl rfl ?_) | (refine x_buildSliceL (d := 27) aA rfl rfl rfl ?_)) | (refine pA (k := ?_)) | (refine g_exec ?_; first | (refine g_call ?_; refine x_callG true (kA) rfl rfl rfl aS rfl aH ?_; simp only [cl]) | (refine g_guard ?_; refine x_gsplit rfl rfl (fun h => ?_) (fun h => ?_) <;> (have h' := h; try simp only [sx] at h')) | (refine x_nil (hK _ _ aI ?_); clear hK K)) | (refine v_region (fun K hK => ?_)) | (refine v_condt rfl (fun h => ?_) (fun h => ?_) <;> (have h' := h; try simp only [sx] at h')))
    all_goals first
      | (exfalso; omega)
      | exact ret_lstb rfl (lookE_ok rfl) (lookE_ok rfl) rfl rfl
end Go.Vs
set_option linter.unusedVariables false
set_option linter.unusedSimpArgs false
set_option maxRecDepth 100000
set_option maxHeartbeats 4000000
namespace Go.Vs
open Go.Proofs
attribute [local irreducible] exec vwp thenQ blkQ loopQ RetPost
structure Phase where
  (frm : Int)
  (speed : Int)
  deriving DecidableEq
@[reducible] def Phase.pv (c : Phase) : List PV := [.int .i64 c.frm, .int .i64 c.speed]
theorem Phase.at {xs : List Phase} {i : Nat} {a : Phase} (h : xs[i]? = some a) : (xs.map Phase.pv)[i]? = some [.int .i64 a.frm, .int .i64 a.speed] := by simp [h]
theorem Phase.flat (xs : List Phase) : ∀ e ∈ xs.map Phase.pv, ∀ c ∈ e, c.flat = true := by
  intro e he c hc
  obtain ⟨a, _, rfl⟩ := List.mem_map.1 he
  simp only [Phase.pv, List.mem_cons, List.not_mem_nil, or_false] at hc
  rcases hc with rfl | rfl <;> rfl
end Go.Vs
set_option linter.unusedVariables false
set_option linter.unusedSimpArgs false
set_option maxRecDepth 100000
set_option maxHeartbeats 4000000
namespace Go.Vs
open Go.Proofs
attribute [local irreducible] exec vwp thenQ blkQ loopQ RetPost
def p0 : Phase := ⟨0, 0⟩
def OkP (ps : List Phase) (j : Nat) : Prop := (0 ≤ (ps.getD j p0).frm ∧ (ps.getD j p0).frm ≤ 9999) ∧ (1 ≤ (ps.getD j p0).speed ∧ (ps.getD j p0).speed ≤ 9) ∧ (j = 0 → (ps.getD j p0).frm = 0) ∧ (0 < j → (ps.getD (j - 1) p0).frm < (ps.getD j p0).frm)
instance (ps : List Phase) (j : Nat) : Decidable (OkP ps j) := by unfold OkP; infer_instance
def GoodP (ps : List Phase) : Prop := (∀ j, j < ps.length → OkP ps j) ∧ 1 ≤ ps.length ∧ ps.length ≤ 6
instance (ps : List Phase) : Decidable (GoodP ps) := by unfold GoodP; infer_instance
theorem getP {ps : List Phase} {i : Nat} {a : Phase} (h : ps[i]? = some a) : ps.getD i p0 = a := by simp [List.getD_eq_getElem?_getD, h]
theorem not_goodP {ps : List Phase} {i : Nat} (hi : i < ps.length) (h : ¬ OkP ps i) : ¬ GoodP ps := fun hg => h (hg.1 i hi)
theorem okP_step {ps : List Phase} {i : Nat} (h : ∀ j, j < i → OkP ps j) (hi : OkP ps i) : ∀ j, j < i + 1 → OkP ps j := fun j hj => by
  rcases Nat.lt_or_ge j i with h1 | h1
  · exact h j h1
  · have : j = i := by omega
    rw [this]; exact hi
theorem k_l4Phases (ps : List Phase) (hn : ps.length ≤ 1099511627776) : Con Try.prog 59 [.list 2 (ps.map Phase.pv)] (.bool (decide (GoodP ps))) := by
  intro al
  refine contract_of hmix Try.func59 rfl (by kernel_rfl) (by kernel_rfl) (Nat.le_of_ble_eq_true rfl) (fun row h => by cases h) ?_
  have hty_u27 := ty_u27
  have hty_s27 := ty_s27
  have hty_f93_0 := ty_f93_0
  have hty_c3 := ty_c3
  have hty_f93_1 := ty_f93_1
  have hl1 : (ps.map Phase.pv).length = ps.length := by simp
  by_cases hlen : 1 ≤ ps.length ∧ ps.length ≤ 6
  · obtain ⟨f, hgf⟩ := get_ex (show 0 < ps.length by omega)
    have hf := Phase.at hgf
    have hdf := getP hgf
    by_cases hf0 : f.frm = 0
    · repeat' (first | (refine pA (k := ?_)) | (refine g_exec ?_; first | (refine g_call ?_; refine x_callG true (k_l1In _ _ _) rfl rfl rfl aS rfl aH ?_; simp only [cl]) | (refine g_guard ?_; refine x_gsplit rfl rfl (fun h => ?_) (fun h => ?_) <;> (have h' := h; try simp only [sx] at h')) | (refine x_nil (hK _ _ aI ?_); clear hK K)) | (refine v_region (fun K hK => ?_)) | (refine v_condt rfl (fun h => ?_) (fun h => ?_) <;> (have h' := h; try simp only [sx] at h')))
      all_goals try (exfalso; omega)
      refine v_loopK [0] [] (fun i : Nat => [(3, .int .i64 i)]) (fun i : Nat => []) (fun i : Nat => i ≤ ps.length ∧ ∀ j, j < i → OkP ps j) (fun i : Nat => ps.length - i) (0) rfl rfl (fun _ => rfl) (fun _ => rfl) rfl (by refine ⟨?_, ?_, rfl, rfl⟩ <;> (repeat' (first | exact trivial | exact ⟨rfl, rfl⟩ | exact rfl | exact ⟨sub_fn, refs_fn⟩ | refine ⟨⟨rfl, rfl⟩, ?_⟩ | refine ⟨⟨sub_fn, refs_fn⟩, ?_⟩ | refine ⟨⟨rfl, fun h => Bool.noConfusion h⟩, ?_⟩ | refine ⟨⟨rfl, fun h => ?_⟩, ?_⟩ | refine ⟨rfl, ?_⟩ | refine ⟨?_, ?_⟩ | fail))) ⟨by omega, fun j hj => by omega⟩ (fun i hi => ?_)
      obtain ⟨hi1, hi2⟩ := hi
      rcases Nat.lt_or_ge i ps.length with hlt | hge
      · obtain ⟨a, hga⟩ := get_ex hlt
        have hx := Phase.at hga
        have hd := getP hga
        by_cases hi0 : 0 < i
        · obtain ⟨b, hgb⟩ := get_ex (show i - 1 < ps.length by omega)
          have hy := Phase.at hgb
          have hd' := getP hgb
          have e1 : ((i : Int) - 1).toNat = i - 1 := by omega
          rw [← e1] at hy
          repeat' (first | (refine pA (k := ?_)) | (refine g_exec ?_; first | (refine g_call ?_; first | (refine x_callG true (k_l4Tick _) rfl rfl rfl aS rfl aH ?_; simp only [cl]) | (refine x_callG true (k_l1In _ _ _) rfl rfl rfl aS rfl aH ?_; simp only [cl])) | (refine g_guard ?_; refine x_gsplit rfl rfl (fun h => ?_) (fun h => ?_) <;> (have h' := h; try simp only [sx] at h')) | (refine x_nil (hK _ _ aI ?_); clear hK K)) | (refine v_region (fun K hK => ?_)) | (refine v_condt rfl (fun h => ?_) (fun h => ?_) <;> (have h' := h; try simp only [sx] at h')))
          all_goals first
            | (refine q_next (i + 1) rfl (by refine ⟨?_, ?_, rfl, rfl⟩ <;> (repeat' (first | exact trivial | exact ⟨rfl, rfl⟩ | exact rfl | exact ⟨sub_fn, refs_fn⟩ | refine ⟨⟨rfl, rfl⟩, ?_⟩ | refine ⟨⟨sub_fn, refs_fn⟩, ?_⟩ | refine ⟨⟨rfl, fun h => Bool.noConfusion h⟩, ?_⟩ | refine ⟨⟨rfl, fun h => ?_⟩, ?_⟩ | refine ⟨rfl, ?_⟩ | refine ⟨?_, ?_⟩ | fail))) ⟨by omega, okP_step hi2 ?_⟩ aO; unfold OkP; rw [hd, hd']; exact ⟨by omega, by omega, by omega, by omega⟩)
            | (refine ret_bool rfl (lookE_ok rfl) ?_
               have : ¬ GoodP ps := not_goodP hlt (fun hk => by
                 unfold OkP at hk
                 rw [hd, hd'] at hk
                 omega)
               simp [this])
        · have hi00 : i = 0 := by omega
          have : a = f := by subst hi00; rw [hga] at hgf; exact Option.some.inj hgf
          subst this
          repeat' (first | (refine pA (k := ?_)) | (refine g_exec ?_; first | (refine g_call ?_; first | (refine x_callG true (k_l4Tick _) rfl rfl rfl aS rfl aH ?_; simp only [cl]) | (refine x_callG true (k_l1In _ _ _) rfl rfl rfl aS rfl aH ?_; simp only [cl])) | (refine g_guard ?_; refine x_gsplit rfl rfl (fun h => ?_) (fun h => ?_) <;> (have h' := h; try simp only [sx] at h')) | (refine x_nil (hK _ _ aI ?_); clear hK K)) | (refine v_region (fun K hK => ?_)) | (refine v_condt rfl (fun h => ?_) (fun h => ?_) <;> (have h' := h; try simp only [sx] at h')))
          all_goals first
            | (refine q_next (i + 1) rfl (by refine ⟨?_, ?_, rfl, rfl⟩ <;> (repeat' (first | exact trivial | exact ⟨rfl, rfl⟩ | exact rfl | exact ⟨sub_fn, refs_fn⟩ | refine ⟨⟨rfl, rfl⟩, ?_⟩ | refine ⟨⟨sub_fn, refs_fn⟩, ?_⟩ | refine ⟨⟨rfl, fun h => Bool.noConfusion h⟩, ?_⟩ | refine ⟨⟨rfl, fun h => ?_⟩, ?_⟩ | refine ⟨rfl, ?_⟩ | refine ⟨?_, ?_⟩ | fail))) ⟨by omega, okP_step hi2 ?_⟩ aO; unfold OkP; rw [hd]; exact ⟨by omega, by omega, by omega, fun h0 => absurd h0 hi0⟩)
            | (refine ret_bool rfl (lookE_ok rfl) ?_
               have : ¬ GoodP ps := not_goodP hlt (fun hk => by
                 unfold OkP at hk
                 rw [hd] at hk
                 omega)
               simp [this])
      · repeat' (first | (refine pA (k := ?_)) | (refine g_exec ?_; first | (refine g_guard ?_; refine x_gsplit rfl rfl (fun h => ?_) (fun h => ?_) <;> (have h' := h; try simp only [sx] at h')) | (refine x_nil (hK _ _ aI ?_); clear hK K)) | (refine v_region (fun K hK => ?_)) | (refine v_condt rfl (fun h => ?_) (fun h => ?_) <;> (have h' := h; try simp only [sx] at h')))
        refine ret_bool rfl (lookE_ok rfl) ?_
        have : GoodP ps := ⟨fun j hj => hi2 j aO, hlen⟩
        simp [this]
    · have hng : ¬ GoodP ps := not_goodP (i := 0) aO (fun hk => by
        unfold OkP at hk
        rw [hdf] at hk
        exact hf0 (hk.2.2.1 rfl))
      repeat' (first | (refine pA (k := ?_)) | (refine g_exec ?_; first | (refine g_call ?_; refine x_callG true (k_l1In _ _ _) rfl rfl rfl aS rfl aH ?_; simp only [cl]) | (refine g_guard ?_; refine x_gsplit rfl rfl (fun h => ?_) (fun h => ?_) <;> (have h' := h; try simp only [sx] at h')) | (refine x_nil (hK _ _ aI ?_); clear hK K)) | (refine v_region (fun K hK => ?_)) | (refine v_condt rfl (fun h => ?_) (fun h => ?_) <;> (have h' := h; try simp only [sx] at h')))
      all_goals first
        | exact ret_bool rfl (lookE_ok rfl) (by simp [hng])
        | (exfalso; omega)
  · have hng : ¬ GoodP ps := fun h => hlen h.2
    repeat' (first | (refine pA (k := ?_)) | (refine g_exec ?_; first | (refine g_call ?_; refine x_callG true (k_l1In _ _ _) rfl rfl rfl aS rfl aH ?_; simp only [cl]) | (refine g_guard ?_; refine x_gsplit rfl rfl (fun h => ?_) (fun h => ?_) <;> (have h' := h; try simp only [sx] at h')) | (refine x_nil (hK _ _ aI ?_); clear hK K)) | (refine v_region (fun K hK => ?_)) | (refine v_condt rfl (fun h => ?_) (fun h => ?_) <;> (have h' := h; try simp only [sx] at h')))
    all_goals first
      | exact ret_bool rfl (lookE_ok rfl) (by simp [hng])
      | (exfalso; omega)
theorem k_ArePhases (ps : List Phase) (hn : ps.length ≤ 1099511627776) : Con Try.prog 46 [.list 2 (ps.map Phase.pv)] (.bool (decide (GoodP ps))) := by
  intro al
  refine contract_of hmix Try.func46 rfl (by kernel_rfl) (by kernel_rfl) (Nat.le_of_ble_eq_true rfl) (fun row h => by cases h) ?_
  have hty_u27 := ty_u27
  have hty_s27 := ty_s27
  have hty_a93 := ty_a93
  have hty_z93 := ty_z93
  have hty_t93 := ty_t93
  have hty_f93_0 := ty_f93_0
  have hty_c3 := ty_c3
  have hty_f93_1 := ty_f93_1
  have hl1 : (ps.map Phase.pv).length = ps.length := by simp
  repeat' (first | (refine pA (k := ?_)) | (refine g_exec ?_; first | (refine g_guard ?_; refine x_gsplit rfl rfl (fun h => ?_) (fun h => ?_) <;> (have h' := h; try simp only [sx] at h')) | (refine x_nil (hK _ _ aI ?_); clear hK K)) | (refine v_region (fun K hK => ?_)) | (refine v_condt rfl (fun h => ?_) (fun h => ?_) <;> (have h' := h; try simp only [sx] at h')))
  refine v_loopK [0, 5, 6] [] (fun i : Nat => [(7, .int .i64 i)]) (fun i : Nat => []) (fun i : Nat => i ≤ ps.length ∧ ∀ j, j < i → OkP ps j) (fun i : Nat => ps.length - i) (0) rfl rfl (fun _ => rfl) (fun _ => rfl) rfl (by refine ⟨?_, ?_, rfl, rfl⟩ <;> (repeat' (first | exact trivial | exact ⟨rfl, rfl⟩ | exact rfl | exact ⟨sub_fn, refs_fn⟩ | refine ⟨⟨rfl, rfl⟩, ?_⟩ | refine ⟨⟨sub_fn, refs_fn⟩, ?_⟩ | refine ⟨⟨rfl, fun h => Bool.noConfusion h⟩, ?_⟩ | refine ⟨⟨rfl, fun h => ?_⟩, ?_⟩ | refine ⟨rfl, ?_⟩ | refine ⟨?_, ?_⟩ | fail))) ⟨by omega, fun j hj => by omega⟩ (fun i hi => ?_)
  obtain ⟨hi1, hi2⟩ := hi
  rcases Nat.lt_or_ge i ps.length with hlt | hge
  · obtain ⟨a, hga⟩ := get_ex hlt
    have hx := Phase.at hga
    have hd := getP hga
    by_cases hi0 : 0 < i
    · obtain ⟨b, hgb⟩ := get_ex (show i - 1 < ps.length by omega)
      have hy := Phase.at hgb
      have hd' := getP hgb
      have e1 : ((i : Int) - 1).toNat = i - 1 := by omega
      rw [← e1] at hy
      repeat' (first | (refine pA (k := ?_)) | (refine g_exec ?_; first | (refine g_call ?_; first | (refine x_callG true (k_isTick _) rfl rfl rfl aS rfl aH ?_; simp only [cl]) | (refine x_callG true (k_in _ _ _) rfl rfl rfl aS rfl aH ?_; simp only [cl])) | (refine g_guard ?_; refine x_gsplit rfl rfl (fun h => ?_) (fun h => ?_) <;> (have h' := h; try simp only [sx] at h')) | (refine x_nil (hK _ _ aI ?_); clear hK K)) | (refine v_region (fun K hK => ?_)) | (refine v_condt rfl (fun h => ?_) (fun h => ?_) <;> (have h' := h; try simp only [sx] at h')))
      all_goals first
        | (refine q_next (i + 1) rfl (by refine ⟨?_, ?_, rfl, rfl⟩ <;> (repeat' (first | exact trivial | exact ⟨rfl, rfl⟩ | exact rfl | exact ⟨sub_fn, refs_fn⟩ | refine ⟨⟨rfl, rfl⟩, ?_⟩ | refine ⟨⟨sub_fn, refs_fn⟩, ?_⟩ | refine ⟨⟨rfl, fun h => Bool.noConfusion h⟩, ?_⟩ | refine ⟨⟨rfl, fun h => ?_⟩, ?_⟩ | refine ⟨rfl, ?_⟩ | refine ⟨?_, ?_⟩ | fail))) ⟨by omega, okP_step hi2 ?_⟩ aO; unfold OkP; rw [hd, hd']; exact ⟨by omega, by omega, by omega, by omega⟩)
        | (refine ret_bool rfl (lookE_ok rfl) ?_
           have : ¬ GoodP ps := not_goodP hlt (fun hk => by
             unfold OkP at hk
             rw [hd, hd'] at hk
             omega)
           simp [this])
        | (exfalso; omega)
    · repeat' (first | (refine pA (k := ?_)) | (refine g_exec ?_; first | (refine g_call ?_; first | (refine x_callG true (k_isTick _) rfl rfl rfl aS rfl aH ?_; simp only [cl]) | (refine x_callG true (k_in _ _ _) rfl rfl rfl aS rfl aH ?_; simp only [cl])) | (refine g_guard ?_; refine x_gsplit rfl rfl (fun h => ?_) (fun h => ?_) <;> (have h' := h; try simp only [sx] at h')) | (refine x_nil (hK _ _ aI ?_); clear hK K)) | (refine v_region (fun K hK => ?_)) | (refine v_condt rfl (fun h => ?_) (fun h => ?_) <;> (have h' := h; try simp only [sx] at h')))
      all_goals first
        | (refine q_next (i + 1) rfl (by refine ⟨?_, ?_, rfl, rfl⟩ <;> (repeat' (first | exact trivial | exact ⟨rfl, rfl⟩ | exact rfl | exact ⟨sub_fn, refs_fn⟩ | refine ⟨⟨rfl, rfl⟩, ?_⟩ | refine ⟨⟨sub_fn, refs_fn⟩, ?_⟩ | refine ⟨⟨rfl, fun h => Bool.noConfusion h⟩, ?_⟩ | refine ⟨⟨rfl, fun h => ?_⟩, ?_⟩ | refine ⟨rfl, ?_⟩ | refine ⟨?_, ?_⟩ | fail))) ⟨by omega, okP_step hi2 ?_⟩ aO; unfold OkP; rw [hd]; exact ⟨by omega, by omega, by omega, fun h0 => absurd h0 hi0⟩)
        | (refine ret_bool rfl (lookE_ok rfl) ?_
           have : ¬ GoodP ps := not_goodP hlt (fun hk => by
             unfold OkP at hk
             rw [hd] at hk
             omega)
           simp [this])
        | (exfalso; omega)
  · repeat' (first | (refine pA (k := ?_)) | (refine g_exec ?_; first | (refine g_call ?_; refine x_callG true (k_in _ _ _) rfl rfl rfl aS rfl aH ?_; simp only [cl]) | (refine g_guard ?_; refine x_gsplit rfl rfl (fun h => ?_) (fun h => ?_) <;> (have h' := h; try simp only [sx] at h')) | (refine x_nil (hK _ _ aI ?_); clear hK K)) | (refine v_region (fun K hK => ?_)) | (refine v_condt rfl (fun h => ?_) (fun h => ?_) <;> (have h' := h; try simp only [sx] at h')))
    (refine ret_bool rfl (lookE_ok rfl) ?_; rw [Bool.eq_iff_iff]; try simp only [sx] at *)
    unfold GoodP
    constructor
    · intro h
      exact ⟨fun j hj => hi2 j aO, by omega⟩
    · intro h
      have := h.2
      omega
@[reducible] def spStep (t : Int) (o : Int) (p : Phase) : Int := if p.frm ≤ t then p.speed else o
def spF (ps : List Phase) (t : Int) : Int := ps.foldl (spStep t) 0
theorem spF_take_succ {ps : List Phase} {i : Nat} {a : Phase} (t : Int) (h : ps[i]? = some a) : spF (ps.take (i + 1)) t = if a.frm ≤ t then a.speed else spF (ps.take i) t := by
  rw [take_succ h, spF, List.foldl_append]; rfl
theorem GoodP.at {ps : List Phase} (hg : GoodP ps) {i : Nat} {a : Phase} (h : ps[i]? = some a) : (0 ≤ a.frm ∧ a.frm ≤ 9999) ∧ (1 ≤ a.speed ∧ a.speed ≤ 9) ∧ (i = 0 → a.frm = 0) := by
  have := hg.1 i (get_lt h)
  unfold OkP at this
  rw [getP h] at this
  exact ⟨this.1, this.2.1, this.2.2.1⟩
theorem GoodP.lt {ps : List Phase} (hg : GoodP ps) {i : Nat} {a b : Phase} (ha : ps[i]? = some a) (hb : ps[i + 1]? = some b) : a.frm < b.frm := by
  have := hg.1 (i + 1) (get_lt hb)
  unfold OkP at this
  rw [getP hb, Nat.add_sub_cancel, getP ha] at this
  exact this.2.2.2 aO
theorem sp_range {ps : List Phase} (hg : GoodP ps) {t : Int} (ht : 0 ≤ t) : ∀ i, 0 < i → i ≤ ps.length → 1 ≤ spF (ps.take i) t ∧ spF (ps.take i) t ≤ 9
  | 0, h, _ => by omega
  | 1, _, h => by
    obtain ⟨a, ha⟩ := get_ex (show 0 < ps.length by omega)
    have := hg.at ha
    rw [spF_take_succ t ha, if_pos aO]
    exact this.2.1
  | i + 2, _, h => by
    obtain ⟨a, ha⟩ := get_ex (show i + 1 < ps.length by omega)
    have := hg.at ha
    rw [spF_take_succ t ha]
    split
    · exact this.2.1
    · exact sp_range hg ht (i + 1) aO aO
theorem sp_bounds {ps : List Phase} (hg : GoodP ps) {t : Int} (ht : 0 ≤ t) : 1 ≤ spF ps t ∧ spF ps t ≤ 9 := by
  have := sp_range hg ht ps.length (by have := hg.2; omega) (Nat.le_refl _)
  rwa [List.take_length] at this
theorem sp_min {ps : List Phase} (hg : GoodP ps) (t : Int) : spF ps (min t 9999) = spF ps t := by
  have key : ∀ i, i ≤ ps.length → spF (ps.take i) (min t 9999) = spF (ps.take i) t := by
    intro i
    induction i with
    | zero => intro _; rfl
    | succ i ih =>
      intro h
      obtain ⟨a, ha⟩ := get_ex (show i < ps.length by omega)
      have := (hg.at ha).1
      rw [spF_take_succ _ ha, spF_take_succ _ ha, ih aO]
      by_cases hc : a.frm ≤ t
      · rw [if_pos aO, if_pos hc]
      · rw [if_neg aO, if_neg hc]
  have := key ps.length (Nat.le_refl _)
  rwa [List.take_length] at this
theorem sp_at {ps : List Phase} (hg : GoodP ps) {t : Int} {i : Nat} {a : Phase} (ha : ps[i]? = some a) (h1 : a.frm ≤ t) (h2 : ∀ b, ps[i + 1]? = some b → t < b.frm) : spF ps t = a.speed := by
  have key : ∀ d, i + 1 + d ≤ ps.length → spF (ps.take (i + 1 + d)) t = a.speed ∧ ∀ b, ps[i + 1 + d]? = some b → t < b.frm := by
    intro d
    induction d with
    | zero =>
      intro _
      rw [Nat.add_zero, spF_take_succ t ha, if_pos h1]
      exact ⟨rfl, h2⟩
    | succ d ih =>
      intro h
      obtain ⟨g1, g2⟩ := ih aO
      obtain ⟨b, hb⟩ := get_ex (show i + 1 + d < ps.length by omega)
      have := g2 b hb
      refine ⟨?_, fun c hc => ?_⟩
      · rw [show i + 1 + (d + 1) = i + 1 + d + 1 by omega, spF_take_succ t hb, if_neg aO, g1]
      · have := hg.lt hb (by rw [← hc]; rfl)
        omega
  have := (key (ps.length - (i + 1)) (by have := get_lt ha; omega)).1
  rwa [show i + 1 + (ps.length - (i + 1)) = ps.length by have := get_lt ha; omega, List.take_length] at this
theorem k_speedAt (ps : List Phase) (t : Int) (hn : ps.length ≤ 1099511627776) : Con Try.prog 78 [.list 2 (ps.map Phase.pv), .int .i64 t] (.int .i64 (spF ps t)) := by
  intro al
  refine contract_of hmix Try.func78 rfl (by kernel_rfl) (by kernel_rfl) (Nat.le_of_ble_eq_true rfl) (fun row h => by cases h) ?_
  have hty_u27 := ty_u27
  have hty_s27 := ty_s27
  have hty_a93 := ty_a93
  have hty_z93 := ty_z93
  have hty_t93 := ty_t93
  have hty_f93_0 := ty_f93_0
  have hty_c3 := ty_c3
  have hty_f93_1 := ty_f93_1
  have hl1 : (ps.map Phase.pv).length = ps.length := by simp
  repeat' (first | (refine pA (k := ?_)) | (refine g_exec ?_; refine x_nil (hK _ _ aI ?_); clear hK K) | (refine v_region (fun K hK => ?_)) | (refine v_condt rfl (fun h => ?_) (fun h => ?_) <;> (have h' := h; try simp only [sx] at h')))
  refine v_loopK [1, 8, 9] [] (fun q : Nat × Int => [(5, .int .i64 q.2), (10, .int .i64 q.1)]) (fun q : Nat × Int => []) (fun q : Nat × Int => q.1 ≤ ps.length ∧ q.2 = spF (ps.take q.1) t) (fun q : Nat × Int => ps.length - q.1) ((0, 0)) rfl rfl (fun _ => rfl) (fun _ => rfl) rfl (by refine ⟨?_, ?_, rfl, rfl⟩ <;> (repeat' (first | exact trivial | exact ⟨rfl, rfl⟩ | exact rfl | exact ⟨sub_fn, refs_fn⟩ | refine ⟨⟨rfl, rfl⟩, ?_⟩ | refine ⟨⟨sub_fn, refs_fn⟩, ?_⟩ | refine ⟨⟨rfl, fun h => Bool.noConfusion h⟩, ?_⟩ | refine ⟨⟨rfl, fun h => ?_⟩, ?_⟩ | refine ⟨rfl, ?_⟩ | refine ⟨?_, ?_⟩ | fail))) ⟨by simp, rfl⟩ (fun q hq => ?_)
  obtain ⟨i, o⟩ := q
  obtain ⟨h1, h2⟩ := hq
  simp only at h1 h2
  dsimp only
  rcases Nat.lt_or_ge i ps.length with hlt | hge
  · obtain ⟨a, hga⟩ := get_ex hlt
    have hx := Phase.at hga
    have hs := spF_take_succ t hga
    repeat' (first | (refine pA (k := ?_)) | (refine g_exec ?_; refine x_nil (hK _ _ aI ?_); clear hK K) | (refine v_region (fun K hK => ?_)) | (refine v_condt rfl (fun h => ?_) (fun h => ?_) <;> (have h' := h; try simp only [sx] at h')))
    · refine q_next (i + 1, a.speed) rfl (by refine ⟨?_, ?_, rfl, rfl⟩ <;> (repeat' (first | exact trivial | exact ⟨rfl, rfl⟩ | exact rfl | exact ⟨sub_fn, refs_fn⟩ | refine ⟨⟨rfl, rfl⟩, ?_⟩ | refine ⟨⟨sub_fn, refs_fn⟩, ?_⟩ | refine ⟨⟨rfl, fun h => Bool.noConfusion h⟩, ?_⟩ | refine ⟨⟨rfl, fun h => ?_⟩, ?_⟩ | refine ⟨rfl, ?_⟩ | refine ⟨?_, ?_⟩ | fail))) ⟨by simp only; omega, by simp only [hs]; rw [if_pos aA]⟩ (by simp only; omega)
    · refine q_next (i + 1, o) rfl (by refine ⟨?_, ?_, rfl, rfl⟩ <;> (repeat' (first | exact trivial | exact ⟨rfl, rfl⟩ | exact rfl | exact ⟨sub_fn, refs_fn⟩ | refine ⟨⟨rfl, rfl⟩, ?_⟩ | refine ⟨⟨sub_fn, refs_fn⟩, ?_⟩ | refine ⟨⟨rfl, fun h => Bool.noConfusion h⟩, ?_⟩ | refine ⟨⟨rfl, fun h => ?_⟩, ?_⟩ | refine ⟨rfl, ?_⟩ | refine ⟨?_, ?_⟩ | fail))) ⟨by simp only; omega, by simp only [hs]; rw [if_neg aA]; exact h2⟩ (by simp only; omega)
  · repeat' (first | (refine pA (k := ?_)) | (refine g_exec ?_; refine x_nil (hK _ _ aI ?_); clear hK K) | (refine v_region (fun K hK => ?_)) | (refine v_condt rfl (fun h => ?_) (fun h => ?_) <;> (have h' := h; try simp only [sx] at h')))
    rw [take_all hge] at h2
    exact ret_int rfl (lookE_ok rfl) h2
theorem k_l4Speed (ps : List Phase) (t : Int) (hg : GoodP ps) (ht : 0 ≤ t) : Con Try.prog 82 [.list 2 (ps.map Phase.pv), .int .i64 t] (.int .i64 (spF ps t)) := by
  intro al
  refine contract_of hmix Try.func82 rfl (by kernel_rfl) (by kernel_rfl) (Nat.le_of_ble_eq_true rfl) (fun row h => by cases h) ?_
  have hty_u27 := ty_u27
  have hty_s27 := ty_s27
  have hty_f93_0 := ty_f93_0
  have hty_c3 := ty_c3
  have hty_f93_1 := ty_f93_1
  have hl1 : (ps.map Phase.pv).length = ps.length := by simp
  have hlen := hg.2
  have hini : (ps.getD 0 p0).frm ≤ t := by
    obtain ⟨a, ha⟩ := get_ex (show 0 < ps.length by omega)
    rw [getP ha, (hg.at ha).2.2 rfl]; exact ht
  repeat' (first | (refine pA (k := ?_)) | (refine g_exec ?_; first | (refine g_guard ?_; refine x_gsplit rfl rfl (fun h => ?_) (fun h => ?_) <;> (have h' := h; try simp only [sx] at h')) | (refine x_nil (hK _ _ aI ?_); clear hK K)) | (refine v_region (fun K hK => ?_)) | (refine v_condt rfl (fun h => ?_) (fun h => ?_) <;> (have h' := h; try simp only [sx] at h')))
  refine v_loopK [0, 1] [] (fun i : Nat => [(5, .int .i64 i)]) (fun i : Nat => []) (fun i : Nat => i < ps.length ∧ (ps.getD i p0).frm ≤ t) (fun i : Nat => ps.length - i) (0) rfl rfl (fun _ => rfl) (fun _ => rfl) rfl (by refine ⟨?_, ?_, rfl, rfl⟩ <;> (repeat' (first | exact trivial | exact ⟨rfl, rfl⟩ | exact rfl | exact ⟨sub_fn, refs_fn⟩ | refine ⟨⟨rfl, rfl⟩, ?_⟩ | refine ⟨⟨sub_fn, refs_fn⟩, ?_⟩ | refine ⟨⟨rfl, fun h => Bool.noConfusion h⟩, ?_⟩ | refine ⟨⟨rfl, fun h => ?_⟩, ?_⟩ | refine ⟨rfl, ?_⟩ | refine ⟨?_, ?_⟩ | fail))) ⟨by omega, hini⟩ (fun i hi => ?_)
  obtain ⟨h1, h2⟩ := hi
  obtain ⟨a, hga⟩ := get_ex h1
  have hx := Phase.at hga
  rw [getP hga] at h2
  rcases Nat.lt_or_ge (i + 1) ps.length with hlt | hge
  · obtain ⟨b, hgb⟩ := get_ex hlt
    have hy := Phase.at hgb
    have e1 : ((i : Int) + 1).toNat = i + 1 := by omega
    rw [← e1] at hy
    by_cases hc : b.frm ≤ t
    · repeat' (first | (refine pA (k := ?_)) | (refine g_exec ?_; first | (refine g_guard ?_; refine x_gsplit rfl rfl (fun h => ?_) (fun h => ?_) <;> (have h' := h; try simp only [sx] at h')) | (refine x_nil (hK _ _ aI ?_); clear hK K)) | (refine v_region (fun K hK => ?_)) | (refine v_condt rfl (fun h => ?_) (fun h => ?_) <;> (have h' := h; try simp only [sx] at h')))
      all_goals first
        | (refine q_next (i + 1) rfl (by refine ⟨?_, ?_, rfl, rfl⟩ <;> (repeat' (first | exact trivial | exact ⟨rfl, rfl⟩ | exact rfl | exact ⟨sub_fn, refs_fn⟩ | refine ⟨⟨rfl, rfl⟩, ?_⟩ | refine ⟨⟨sub_fn, refs_fn⟩, ?_⟩ | refine ⟨⟨rfl, fun h => Bool.noConfusion h⟩, ?_⟩ | refine ⟨⟨rfl, fun h => ?_⟩, ?_⟩ | refine ⟨rfl, ?_⟩ | refine ⟨?_, ?_⟩ | fail))) ⟨hlt, by rw [getP hgb]; exact hc⟩ aO)
        | (exfalso; omega)
    · repeat' (first | (refine pA (k := ?_)) | (refine g_exec ?_; first | (refine g_guard ?_; refine x_gsplit rfl rfl (fun h => ?_) (fun h => ?_) <;> (have h' := h; try simp only [sx] at h')) | (refine x_nil (hK _ _ aI ?_); clear hK K)) | (refine v_region (fun K hK => ?_)) | (refine v_condt rfl (fun h => ?_) (fun h => ?_) <;> (have h' := h; try simp only [sx] at h')))
      all_goals first
        | exact ret_int rfl (lookE_ok rfl) (sp_at hg hga h2 (fun c hcc => by rw [hgb] at hcc; cases hcc; omega)).symm
        | (exfalso; omega)
  · repeat' (first | (refine pA (k := ?_)) | (refine g_exec ?_; first | (refine g_guard ?_; refine x_gsplit rfl rfl (fun h => ?_) (fun h => ?_) <;> (have h' := h; try simp only [sx] at h')) | (refine x_nil (hK _ _ aI ?_); clear hK K)) | (refine v_region (fun K hK => ?_)) | (refine v_condt rfl (fun h => ?_) (fun h => ?_) <;> (have h' := h; try simp only [sx] at h')))
    all_goals first
      | exact ret_int rfl (lookE_ok rfl) (sp_at hg hga h2 (fun c hcc => by have := get_lt hcc; omega)).symm
      | (exfalso; omega)
def dnF (sp : Int → Int) : Nat → Int → Int → Int
  | 0, t, _ => t
  | n + 1, t, w => if 0 < w then dnF sp n (t + 1) (w - sp t) else t
def dn (sp : Int → Int) (t w : Int) : Int := dnF sp w.toNat t w
section
variable {sp : Int → Int} (hsp : ∀ t, 0 ≤ t → 1 ≤ sp t)
include hsp
theorem dnF_any : ∀ (n m : Nat) (t w : Int), 0 ≤ t → w.toNat ≤ n → w.toNat ≤ m → dnF sp n t w = dnF sp m t w
  | 0, 0, _, _, _, _, _ => rfl
  | 0, m + 1, t, w, _, h1, _ => by rw [dnF, dnF, if_neg aO]
  | n + 1, 0, t, w, _, _, h2 => by rw [dnF, dnF, if_neg aO]
  | n + 1, m + 1, t, w, ht, h1, h2 => by
    rw [dnF, dnF]
    split
    · have := hsp t ht
      exact dnF_any n m (t + 1) (w - sp t) aO aO aO
    · rfl
theorem dn_pos {t w : Int} (ht : 0 ≤ t) (hw : 0 < w) : dn sp t w = dn sp (t + 1) (w - sp t) := by
  have := hsp t ht
  obtain ⟨n, hn⟩ : ∃ n, w.toNat = n + 1 := ⟨w.toNat - 1, by omega⟩
  rw [dn, hn, dnF, if_pos hw]
  exact dnF_any hsp n _ _ _ aO aO (Nat.le_refl _)
omit hsp in
theorem dn_zero {t w : Int} (hw : ¬ 0 < w) : dn sp t w = t := by
  rw [dn]
  cases hn : w.toNat with
  | zero => rfl
  | succ n => rw [dnF, if_neg hw]
theorem dn_ge : ∀ (n : Nat) (t w : Int), w.toNat = n → 0 ≤ t → t ≤ dn sp t w ∧ dn sp t w ≤ t + n ∧ (0 < w → t < dn sp t w) := by
  intro n
  induction n using Nat.strongRecOn with
  | _ n ih =>
    intro t w hn ht
    by_cases hw : 0 < w
    · have h1 := hsp t ht
      have := ih (w - sp t).toNat aO (t + 1) (w - sp t) rfl aO
      rw [dn_pos hsp ht hw]
      omega
    · rw [dn_zero hw]
      omega
theorem dn_mono_w : ∀ (n : Nat) (t w w' : Int), w'.toNat = n → 0 ≤ t → w ≤ w' → dn sp t w ≤ dn sp t w' := by
  intro n
  induction n using Nat.strongRecOn with
  | _ n ih =>
    intro t w w' hn ht hww
    by_cases hw : 0 < w
    · have h1 := hsp t ht
      rw [dn_pos hsp ht hw, dn_pos hsp ht (show 0 < w' by omega)]
      exact ih (w' - sp t).toNat aO (t + 1) (w - sp t) (w' - sp t) rfl aO aO
    · rw [dn_zero hw]
      exact (dn_ge hsp _ t w' rfl ht).1
theorem dn_mono_1 {t w : Int} (ht : 0 ≤ t) : dn sp t w ≤ dn sp (t + 1) w := by
  by_cases hw : 0 < w
  · have h1 := hsp t ht
    rw [dn_pos hsp ht hw]
    exact dn_mono_w hsp _ (t + 1) (w - sp t) w rfl aO aO
  · rw [dn_zero hw, dn_zero hw]; omega
theorem dn_mono {t t' w : Int} (ht : 0 ≤ t) (htt : t ≤ t') : dn sp t w ≤ dn sp t' w := by
  obtain ⟨k, hk⟩ : ∃ k : Nat, t' = t + k := ⟨(t' - t).toNat, by omega⟩
  subst hk
  clear htt
  induction k with
  | zero => simp
  | succ k ih =>
    have := dn_mono_1 hsp (t := t + k) (w := w) aO
    rw [show t + ((k + 1 : Nat) : Int) = t + k + 1 by omega]
    omega
end
theorem k_done (ps : List Phase) (t w : Int) (hg : GoodP ps) (ht : 0 ≤ t ∧ t ≤ 100000) (hw : 0 ≤ w ∧ w ≤ 1000) : Con Try.prog 54 [.list 2 (ps.map Phase.pv), .int .i64 t, .int .i64 w] (.int .i64 (dn (spF ps) t w)) := by
  intro al
  refine contract_of hmix Try.func54 rfl (by kernel_rfl) (by kernel_rfl) (Nat.le_of_ble_eq_true rfl) (fun row h => by cases h) ?_
  have hty_u27 := ty_u27
  have hty_s27 := ty_s27
  have hlen := hg.2
  have hsp : ∀ t, 0 ≤ t → 1 ≤ spF ps t := fun t h => (sp_bounds hg h).1
  repeat' (first | (refine pA (k := ?_)) | (refine g_exec ?_; refine x_nil (hK _ _ aI ?_); clear hK K) | (refine v_region (fun K hK => ?_)) | (refine v_condt rfl (fun h => ?_) (fun h => ?_) <;> (have h' := h; try simp only [sx] at h')))
  refine v_loopK [0] [] (fun q : Int × Int => [(1, .int .i64 q.1), (2, .int .i64 q.2)]) (fun q : Int × Int => []) (fun q : Int × Int => dn (spF ps) q.1 q.2 = dn (spF ps) t w ∧ 0 ≤ q.1 ∧ -9 ≤ q.2 ∧ q.2 ≤ 1000 ∧ q.1 + q.2 ≤ 101000) (fun q : Int × Int => q.2.toNat) ((t, w)) rfl rfl (fun _ => rfl) (fun _ => rfl) rfl (by refine ⟨?_, ?_, rfl, rfl⟩ <;> (repeat' (first | exact trivial | exact ⟨rfl, rfl⟩ | exact rfl | exact ⟨sub_fn, refs_fn⟩ | refine ⟨⟨rfl, rfl⟩, ?_⟩ | refine ⟨⟨sub_fn, refs_fn⟩, ?_⟩ | refine ⟨⟨rfl, fun h => Bool.noConfusion h⟩, ?_⟩ | refine ⟨⟨rfl, fun h => ?_⟩, ?_⟩ | refine ⟨rfl, ?_⟩ | refine ⟨?_, ?_⟩ | fail))) ⟨rfl, by simp only; omega, by simp only; omega, by simp only; omega, by simp only; omega⟩ (fun q hq => ?_)
  obtain ⟨x, y⟩ := q
  obtain ⟨h1, h2, h3, h4, h5⟩ := hq
  simp only at h1 h2 h3 h4 h5
  dsimp only
  by_cases hy : 0 < y
  · have hb := sp_bounds hg h2
    have hm := sp_min hg x
    have hd := dn_pos hsp h2 hy
    have kS := k_speedAt ps (min x 9999) aO
    rw [hm] at kS
    repeat' (first | (refine pA (k := ?_)) | (refine g_exec ?_; first | (refine g_call ?_; refine x_callG true (kS) rfl rfl rfl aS rfl aH ?_; simp only [cl]) | (refine x_nil (hK _ _ aI ?_); clear hK K)) | (refine v_region (fun K hK => ?_)) | (refine v_condt rfl (fun h => ?_) (fun h => ?_) <;> (have h' := h; try simp only [sx] at h')))
    refine q_next (x + 1, y - spF ps x) rfl (by refine ⟨?_, ?_, rfl, rfl⟩ <;> (repeat' (first | exact trivial | exact ⟨rfl, rfl⟩ | exact rfl | exact ⟨sub_fn, refs_fn⟩ | refine ⟨⟨rfl, rfl⟩, ?_⟩ | refine ⟨⟨sub_fn, refs_fn⟩, ?_⟩ | refine ⟨⟨rfl, fun h => Bool.noConfusion h⟩, ?_⟩ | refine ⟨⟨rfl, fun h => ?_⟩, ?_⟩ | refine ⟨rfl, ?_⟩ | refine ⟨?_, ?_⟩ | fail))) ⟨by simp only; rw [← hd]; exact h1, by simp only; omega, by simp only; omega, by simp only; omega, by simp only; omega⟩ (by simp only; omega)
  · repeat' (first | (refine pA (k := ?_)) | (refine g_exec ?_; refine x_nil (hK _ _ aI ?_); clear hK K) | (refine v_region (fun K hK => ?_)) | (refine v_condt rfl (fun h => ?_) (fun h => ?_) <;> (have h' := h; try simp only [sx] at h')))
    exact ret_int rfl (lookE_ok rfl) (by rw [← h1, dn_zero hy])
theorem k_l4Done (ps : List Phase) (t w : Int) (hg : GoodP ps) (ht : 0 ≤ t ∧ t ≤ 100000) (hw : 0 ≤ w ∧ w ≤ 1000) : Con Try.prog 65 [.list 2 (ps.map Phase.pv), .int .i64 t, .int .i64 w] (.int .i64 (dn (spF ps) t w)) := by
  intro al
  refine contract_of hmix Try.func65 rfl (by kernel_rfl) (by kernel_rfl) (Nat.le_of_ble_eq_true rfl) (fun row h => by cases h) ?_
  have hty_u27 := ty_u27
  have hty_s27 := ty_s27
  have hlen := hg.2
  have hsp : ∀ t, 0 ≤ t → 1 ≤ spF ps t := fun t h => (sp_bounds hg h).1
  repeat' (first | (refine pA (k := ?_)) | (refine g_exec ?_; refine x_nil (hK _ _ aI ?_); clear hK K) | (refine v_region (fun K hK => ?_)) | (refine v_condt rfl (fun h => ?_) (fun h => ?_) <;> (have h' := h; try simp only [sx] at h')))
  refine v_loopK [0] [] (fun q : Int × Int => [(1, .int .i64 q.1), (2, .int .i64 q.2)]) (fun q : Int × Int => []) (fun q : Int × Int => dn (spF ps) q.1 q.2 = dn (spF ps) t w ∧ 0 ≤ q.1 ∧ -9 ≤ q.2 ∧ q.2 ≤ 1000 ∧ q.1 + q.2 ≤ 101000) (fun q : Int × Int => q.2.toNat) ((t, w)) rfl rfl (fun _ => rfl) (fun _ => rfl) rfl (by refine ⟨?_, ?_, rfl, rfl⟩ <;> (repeat' (first | exact trivial | exact ⟨rfl, rfl⟩ | exact rfl | exact ⟨sub_fn, refs_fn⟩ | refine ⟨⟨rfl, rfl⟩, ?_⟩ | refine ⟨⟨sub_fn, refs_fn⟩, ?_⟩ | refine ⟨⟨rfl, fun h => Bool.noConfusion h⟩, ?_⟩ | refine ⟨⟨rfl, fun h => ?_⟩, ?_⟩ | refine ⟨rfl, ?_⟩ | refine ⟨?_, ?_⟩ | fail))) ⟨rfl, by simp only; omega, by simp only; omega, by simp only; omega, by simp only; omega⟩ (fun q hq => ?_)
  obtain ⟨x, y⟩ := q
  obtain ⟨h1, h2, h3, h4, h5⟩ := hq
  simp only at h1 h2 h3 h4 h5
  dsimp only
  by_cases hy : 0 < y
  · have hb := sp_bounds hg h2
    have hd := dn_pos hsp h2 hy
    have kS := k_l4Speed ps x hg h2
    repeat' (first | (refine pA (k := ?_)) | (refine g_exec ?_; first | (refine g_call ?_; refine x_callG true (kS) rfl rfl rfl aS rfl aH ?_; simp only [cl]) | (refine x_nil (hK _ _ aI ?_); clear hK K)) | (refine v_region (fun K hK => ?_)) | (refine v_condt rfl (fun h => ?_) (fun h => ?_) <;> (have h' := h; try simp only [sx] at h')))
    refine q_next (x + 1, y - spF ps x) rfl (by refine ⟨?_, ?_, rfl, rfl⟩ <;> (repeat' (first | exact trivial | exact ⟨rfl, rfl⟩ | exact rfl | exact ⟨sub_fn, refs_fn⟩ | refine ⟨⟨rfl, rfl⟩, ?_⟩ | refine ⟨⟨sub_fn, refs_fn⟩, ?_⟩ | refine ⟨⟨rfl, fun h => Bool.noConfusion h⟩, ?_⟩ | refine ⟨⟨rfl, fun h => ?_⟩, ?_⟩ | refine ⟨rfl, ?_⟩ | refine ⟨?_, ?_⟩ | fail))) ⟨by simp only; rw [← hd]; exact h1, by simp only; omega, by simp only; omega, by simp only; omega, by simp only; omega⟩ (by simp only; omega)
  · repeat' (first | (refine pA (k := ?_)) | (refine g_exec ?_; refine x_nil (hK _ _ aI ?_); clear hK K) | (refine v_region (fun K hK => ?_)) | (refine v_condt rfl (fun h => ?_) (fun h => ?_) <;> (have h' := h; try simp only [sx] at h')))
    exact ret_int rfl (lookE_ok rfl) (by rw [← h1, dn_zero hy])
@[reducible] def wkF (t : Terrain) (a b : Int) : Int := (if colOf t a = colOf t b ∨ rowOf t a = rowOf t b then 2 else 3) * (burnAt t a + burnAt t b)
end Go.Vs
set_option linter.unusedVariables false
set_option linter.unusedSimpArgs false
set_option maxRecDepth 100000
set_option maxHeartbeats 4000000
namespace Go.Vs
def tv (T : List Int) (c : Int) : Int := T.getD c.toNat (-1)
theorem tv_at {T : List Int} {c : Int} (h : c.toNat < T.length) : T[c.toNat]? = some (tv T c) := by
  obtain ⟨a, ha⟩ := get_ex h
  rw [ha, tv]
  simp [List.getD_eq_getElem?_getD, ha]
theorem tv_set {T : List Int} {i : Nat} (x : Int) (h : i < T.length) (c : Int) : tv (T.set i x) c = if c.toNat = i then x else tv T c := by
  unfold tv
  rw [List.getD_eq_getElem?_getD, List.getD_eq_getElem?_getD, List.getElem?_set]
  by_cases he : i = c.toNat
  · simp [he, he ▸ h]
  · simp [he, Ne.symm he]
theorem sumBy_set {α : Type} (g : α → Int) {l : List α} : ∀ {i : Nat} {a : α} (x : α), l[i]? = some a → sumBy g (l.set i x) = sumBy g l - g a + g x := by
  induction l with
  | nil => intro i a x h; simp at h
  | cons y l ih =>
    intro i a x h
    cases i with
    | zero =>
      simp only [List.getElem?_cons_zero, Option.some.injEq] at h
      subst h
      rw [List.set_cons_zero, sumBy_cons, sumBy_cons]
      omega
    | succ i =>
      rw [List.set_cons_succ, sumBy_cons, sumBy_cons, ih x (by simpa using h)]
      omega
theorem ints_set (T : List Int) (i : Nat) (x : Int) : ints (T.set i x) = (ints T).set i [PV.int .i64 x] := by simp [ints, List.map_set]
theorem tv_nat {T : List Int} {i : Nat} (h : i < T.length) : (ints T)[i]? = some [PV.int .i64 (tv T i)] := by
  have := tv_at (T := T) (c := (i : Int)) (by rw [Int.toNat_natCast]; exact h)
  rw [Int.toNat_natCast] at this
  exact ints_at this
theorem tv_int {T : List Int} {c : Int} (h : c.toNat < T.length) : (ints T)[c.toNat]? = some [PV.int .i64 (tv T c)] := ints_at (tv_at h)
end Go.Vs
set_option linter.unusedVariables false
set_option linter.unusedSimpArgs false
set_option maxRecDepth 100000
set_option maxHeartbeats 4000000
namespace Go.Vs
open Go.Proofs
structure Blz where
  (t : Terrain)
  (ps : List Phase)
  (src : List Int)
  (st : Int)
def GoodB (b : Blz) : Prop := (GoodT b.t ∧ (∀ s ∈ b.src, IsCell b.t s) ∧ Rising b.src) ∧ GoodP b.ps ∧ 0 ≤ b.st ∧ b.st ≤ 1000
instance (b : Blz) : Decidable (GoodB b) := by unfold GoodB; infer_instance
def hop (b : Blz) (a c v : Int) : Int := dn (spF b.ps) v (wkF b.t a c)
def Edge (b : Blz) (a c : Int) : Prop := IsCell b.t a ∧ IsCell b.t c ∧ apart b.t a c = 1 ∧ 0 < burnAt b.t c
def Lit (b : Blz) (s : Int) : Prop := IsCell b.t s ∧ 0 < burnAt b.t s ∧ s ∈ b.src
inductive Rch (b : Blz) : Int → Int → Prop
  | lit {s : Int} : Lit b s → Rch b s b.st
  | hop {a c v : Int} : Rch b a v → Edge b a c → Rch b c (hop b a c v)
structure Pre (b : Blz) (T : List Int) : Prop where
  len : T.length = b.t.burn.length
  lit : ∀ s, Lit b s → tv T s ≠ -1 ∧ tv T s ≤ b.st
  att : ∀ c, IsCell b.t c → tv T c ≠ -1 → Rch b c (tv T c)
def Clsd (b : Blz) (T : List Int) (a : Int) : Prop := tv T a ≠ -1 → ∀ c, Edge b a c → tv T c ≠ -1 ∧ tv T c ≤ hop b a c (tv T a)
structure IsArr (b : Blz) (T : List Int) : Prop where
  pre : Pre b T
  clo : ∀ a, IsCell b.t a → Clsd b T a
section
variable {b : Blz}
theorem GoodB.sp (h : GoodB b) : ∀ t, 0 ≤ t → 1 ≤ spF b.ps t := fun t ht => (sp_bounds h.2.1 ht).1
theorem wk_bnd (h : GoodB b) {a c : Int} (ha : IsCell b.t a) (hc : IsCell b.t c) : 0 ≤ wkF b.t a c ∧ wkF b.t a c ≤ 120 ∧ (0 < burnAt b.t a → 4 ≤ wkF b.t a c ∨ burnAt b.t c = 0) := by
  have h1 := burn_bound h.1.1 ha
  have h2 := burn_bound h.1.1 hc
  simp only [wkF]
  split <;> omega
theorem rch_facts (h : GoodB b) {c v : Int} (hr : Rch b c v) : b.st ≤ v ∧ 0 < burnAt b.t c ∧ IsCell b.t c := by
  induction hr with
  | lit hs => exact ⟨Int.le_refl _, hs.2.1, hs.1⟩
  | @hop a c v hr he ih =>
    have hst := h.2.2
    have := dn_ge h.sp _ v (wkF b.t a c) rfl aO
    exact ⟨by unfold hop; omega, he.2.2.2, he.2.1⟩
theorem hop_bnd (h : GoodB b) {a c v : Int} (hv : 0 ≤ v) (he : Edge b a c) (ha : 0 < burnAt b.t a) : v < hop b a c v ∧ hop b a c v ≤ v + 120 := by
  have hw := wk_bnd h he.1 he.2.1
  have := dn_ge h.sp _ v (wkF b.t a c) rfl hv
  have hb := he.2.2.2
  unfold hop
  rcases hw.2.2 ha with h1 | h1 <;> omega
theorem hop_mono (h : GoodB b) {a c v v' : Int} (hv : 0 ≤ v) (hvv : v ≤ v') : hop b a c v ≤ hop b a c v' := dn_mono h.sp hv hvv
theorem arr_le (h : GoodB b) {T : List Int} (hT : IsArr b T) {c v : Int} (hr : Rch b c v) : tv T c ≠ -1 ∧ tv T c ≤ v := by
  have hst := h.2.2
  induction hr with
  | lit hs => exact hT.pre.lit _ hs
  | @hop a c v hr he ih =>
    have h1 := hT.clo a he.1 ih.1 c he
    have h2 := rch_facts h (hT.pre.att a he.1 ih.1)
    have := hop_mono h (a := a) (c := c) (show 0 ≤ tv T a by omega) ih.2
    exact ⟨h1.1, by omega⟩
theorem arr_unique (h : GoodB b) {T T' : List Int} (hT : IsArr b T) (hT' : IsArr b T') : T = T' := by
  have key : ∀ {T T' : List Int}, IsArr b T → IsArr b T' → ∀ c, IsCell b.t c → tv T c ≠ -1 → tv T' c ≠ -1 ∧ tv T' c ≤ tv T c := fun h1 h2 c hc hne => arr_le h h2 (h1.pre.att c hc hne)
  refine List.ext_getElem? fun j => ?_
  by_cases hj : j < b.t.burn.length
  · have hc : IsCell b.t (j : Int) := ⟨by omega, by omega⟩
    have e1 := tv_at (T := T) (c := (j : Int)) (by rw [Int.toNat_natCast, hT.pre.len]; exact hj)
    have e2 := tv_at (T := T') (c := (j : Int)) (by rw [Int.toNat_natCast, hT'.pre.len]; exact hj)
    rw [Int.toNat_natCast] at e1 e2
    rw [e1, e2]
    congr 1
    by_cases h1 : tv T j = -1
    · by_cases h2 : tv T' j = -1
      · rw [h1, h2]
      · exact absurd h1 (key hT' hT j hc h2).1
    · have g1 := key hT hT' j hc h1
      have g2 := key hT' hT j hc g1.1
      omega
  · rw [List.getElem?_eq_none (by rw [hT.pre.len]; omega), List.getElem?_eq_none (by rw [hT'.pre.len]; omega)]
end
noncomputable def arr (b : Blz) : List Int := Classical.epsilon fun T => IsArr b T
theorem arr_is {b : Blz} {T : List Int} (h : IsArr b T) : IsArr b (arr b) := Classical.epsilon_spec (p := fun T => IsArr b T) ⟨T, h⟩
theorem arr_eq {b : Blz} (hb : GoodB b) {T : List Int} (h : IsArr b T) : T = arr b := arr_unique hb h (arr_is h)
@[reducible] def gfin (v : Int) : Int := if v = -1 then 0 else 1
@[reducible] def gval (v : Int) : Int := if v = -1 then 9000 else v
def cntF (T : List Int) : Int := sumBy gfin T
def valF (T : List Int) : Int := sumBy gval T
theorem cntF_bnd (T : List Int) : 0 ≤ cntF T ∧ cntF T ≤ T.length := by
  have := sumBy_bound gfin 1 T fun y _ => by simp only [gfin]; split <;> omega
  unfold cntF; omega
structure Mid (b : Blz) (T : List Int) : Prop where
  pre : Pre b T
  bnd : ∀ c, IsCell b.t c → tv T c ≤ b.st + 120 * cntF T
section
variable {b : Blz} {T : List Int}
theorem Mid.le (h : Mid b T) (hb : GoodB b) {c : Int} (hc : IsCell b.t c) : tv T c ≤ 4000 := by
  have h1 := h.bnd c hc
  have h2 := (cntF_bnd T).2
  have h3 := goodT_len hb.1.1
  have h4 := h.pre.len
  have h5 := hb.2.2
  omega
theorem Mid.ge (h : Mid b T) (hb : GoodB b) {c : Int} (hc : IsCell b.t c) (hne : tv T c ≠ -1) : 0 ≤ tv T c ∧ 0 < burnAt b.t c := by
  have h1 := rch_facts hb (h.pre.att c hc hne)
  have h5 := hb.2.2
  exact ⟨by omega, h1.2.1⟩
theorem cell_inT {c : Int} (h : T.length = b.t.burn.length) (hc : IsCell b.t c) : c.toNat < T.length := by
  have := hc; unfold IsCell at this; omega
theorem Mid.val (h : Mid b T) (hb : GoodB b) : 0 ≤ valF T := by
  have h5 := hb.2.2
  unfold valF
  have := sumBy_take_le gval T (fun y hy => by
    obtain ⟨i, hi⟩ := List.getElem?_of_mem hy
    have hlt := get_lt hi
    have hlen := h.pre.len
    have hc : IsCell b.t (i : Int) := ⟨by omega, by omega⟩
    have e := tv_at (T := T) (c := (i : Int)) (by rw [Int.toNat_natCast]; exact hlt)
    rw [Int.toNat_natCast, hi] at e
    injection e with e
    simp only [gval]
    split
    · omega
    · rename_i hne
      rw [e] at hne ⊢
      exact (h.ge hb hc hne).1) T.length
  rw [List.take_length] at this
  omega
theorem Mid.relax (h : Mid b T) (hb : GoodB b) {a c : Int} (he : Edge b a c) (ha : tv T a ≠ -1) (hx : tv T c = -1 ∨ hop b a c (tv T a) < tv T c) :
    Mid b (T.set c.toNat (hop b a c (tv T a))) ∧ valF (T.set c.toNat (hop b a c (tv T a))) < valF T := by
  have g1 := h.ge hb he.1 ha
  have g2 := hop_bnd hb g1.1 he g1.2
  have g3 := h.le hb he.1
  have hcl := cell_inT h.pre.len he.2.1
  have hst := hb.2.2
  have hat := tv_at hcl
  have hcnt : cntF (T.set c.toNat (hop b a c (tv T a))) = cntF T - gfin (tv T c) + 1 := by
    rw [cntF, sumBy_set gfin _ hat, cntF]
    simp only [gfin]
    rw [if_neg (show ¬ hop b a c (tv T a) = -1 by omega)]
  have hset := tv_set (hop b a c (tv T a)) hcl
  have hcell : ∀ y, IsCell b.t y → (y.toNat = c.toNat ↔ y = c) := fun y hy => by
    have h1 := hy.1
    have h2 := he.2.1.1
    omega
  refine ⟨⟨⟨by rw [List.length_set]; exact h.pre.len, fun s hs => ?_, fun y hy hne => ?_⟩, fun y hy => ?_⟩, ?_⟩
  · rw [hset]
    have hl := h.pre.lit s hs
    split
    · rename_i e
      have := (hcell s hs.1).1 e
      subst this
      rcases hx with hx | hx
      · exact absurd hx hl.1
      · omega
    · exact hl
  · rw [hset] at hne ⊢
    split
    · rename_i e
      have := (hcell y hy).1 e
      subst this
      exact .hop (h.pre.att a he.1 ha) he
    · rename_i e
      rw [if_neg e] at hne
      exact h.pre.att y hy hne
  · rw [hset, hcnt]
    have hbc := h.bnd c he.2.1
    have hba := h.bnd a he.1
    have hby := h.bnd y hy
    simp only [gfin]
    split
    · split
      · omega
      · rename_i hne
        rcases hx with hx | hx
        · exact absurd hx hne
        · omega
    · split <;> omega
  · rw [valF, sumBy_set gval _ hat, valF]
    simp only [gval]
    rw [if_neg (show ¬ hop b a c (tv T a) = -1 by omega)]
    split
    · omega
    · rename_i hne
      rcases hx with hx | hx
      · exact absurd hx hne
      · omega
@[reducible] def iniV (b : Blz) (i : Nat) : Int := if 0 < burnAt b.t i ∧ (i : Int) ∈ b.src then b.st else -1
def iniL (b : Blz) : List Int := (List.range b.t.burn.length).map (iniV b)
theorem iniL_len (b : Blz) : (iniL b).length = b.t.burn.length := by simp [iniL]
theorem ini_tv {c : Int} (hc : IsCell b.t c) : tv (iniL b) c = if 0 < burnAt b.t c ∧ c ∈ b.src then b.st else -1 := by
  have h1 := hc; unfold IsCell at h1
  have e : ((c.toNat : Nat) : Int) = c := by omega
  have h2 : c.toNat < b.t.burn.length := by omega
  unfold tv iniL
  rw [List.getD_eq_getElem?_getD, List.getElem?_map, List.getElem?_range h2]
  simp only [Option.map_some, Option.getD_some, iniV, e]
theorem ini_mid (hb : GoodB b) : Mid b (iniL b) := by
  have hst := hb.2.2
  refine ⟨⟨iniL_len b, fun s hs => ?_, fun c hc hne => ?_⟩, fun c hc => ?_⟩
  · rw [ini_tv hs.1, if_pos ⟨hs.2.1, hs.2.2⟩]; omega
  · rw [ini_tv hc] at hne ⊢
    split
    · rename_i h; exact .lit ⟨hc, h.1, h.2⟩
    · rename_i h; rw [if_neg h] at hne; exact absurd rfl hne
  · have := cntF_bnd (iniL b)
    rw [ini_tv hc]
    split <;> omega
end
end Go.Vs
