/- Parts of a proof: what its last text mentions. -/
import Derived.Test.YtaoadjbjpagdoaaCxi
set_option linter.unusedVariables false
set_option linter.unusedSimpArgs false
set_option maxRecDepth 100000
set_option maxHeartbeats 4000000
namespace Go.Vs
open Go.Proofs
attribute [local irreducible] exec vwp thenQ blkQ loopQ RetPost
theorem k_l4Work (t : Terrain) (a c : Int) (hg : GoodT t) (ha : IsCell t a) (hc : IsCell t c) : Con Try.prog 66 [.agg t.pv, .int .i64 a, .int .i64 c] (.int .i64 (wkF t a c)) := by
  intro al
  refine contract_of hmix Try.func66 rfl (by kernel_rfl) (by kernel_rfl) (Nat.le_of_ble_eq_true rfl) (fun row h => by cases h) ?_
  have hty_f26_2 := ty_f26_2
  have hty_c24 := ty_c24
  have hty_s24 := ty_s24
  have hty_c3 := ty_c3
  have hty_f26_0 := ty_f26_0
  have hl1 : (ints t.burn).length = t.burn.length := by simp
  have hw := hg.1.1
  have hx := ints_at (burn_at ha)
  have hy := ints_at (burn_at hc)
  have b1 := burn_bound hg ha
  have b2 := burn_bound hg hc
  have hca := ha
  have hcc := hc
  unfold IsCell at hca hcc
  have hlen := goodT_len hg
  by_cases h1 : a % t.width = c % t.width
  · repeat' (first | (refine pA (k := ?_)) | (refine g_exec ?_; first | (refine g_guard ?_; refine x_gsplit rfl rfl (fun h => ?_) (fun h => ?_) <;> (have h' := h; try simp only [sx] at h')) | (refine x_nil (hK _ _ aI ?_); clear hK K)) | (refine v_region (fun K hK => ?_)) | (refine v_condt rfl (fun h => ?_) (fun h => ?_) <;> (have h' := h; try simp only [sx] at h')))
    all_goals first
      | (exfalso; omega)
      | (refine ret_int rfl (lookE_ok rfl) ?_
         simp only [wkF, colOf, rowOf]
         rw [if_pos (.inl h1)])
  · by_cases h2 : a / t.width = c / t.width
    · repeat' (first | (refine pA (k := ?_)) | (refine g_exec ?_; first | (refine g_guard ?_; refine x_gsplit rfl rfl (fun h => ?_) (fun h => ?_) <;> (have h' := h; try simp only [sx] at h')) | (refine x_nil (hK _ _ aI ?_); clear hK K)) | (refine v_region (fun K hK => ?_)) | (refine v_condt rfl (fun h => ?_) (fun h => ?_) <;> (have h' := h; try simp only [sx] at h')))
      all_goals first
        | (exfalso; omega)
        | (refine ret_int rfl (lookE_ok rfl) ?_
           simp only [wkF, colOf, rowOf]
           rw [if_pos (.inr h2)])
    · repeat' (first | (refine pA (k := ?_)) | (refine g_exec ?_; first | (refine g_guard ?_; refine x_gsplit rfl rfl (fun h => ?_) (fun h => ?_) <;> (have h' := h; try simp only [sx] at h')) | (refine x_nil (hK _ _ aI ?_); clear hK K)) | (refine v_region (fun K hK => ?_)) | (refine v_condt rfl (fun h => ?_) (fun h => ?_) <;> (have h' := h; try simp only [sx] at h')))
      all_goals first
        | (exfalso; omega)
        | (refine ret_int rfl (lookE_ok rfl) ?_
           simp only [wkF, colOf, rowOf]
           rw [if_neg aO])
theorem k_l4Arrivals (b : Blz) (hb : GoodB b) (hs : b.src.length ≤ 1099511627776) :
    Con Try.prog 28 [.agg b.t.pv, .list 2 (b.ps.map Phase.pv), .list 1 (ints b.src), .int .i64 b.st] (.olist 3 1 (ints (arr b))) := by
  intro al
  refine contract_of hmix Try.func28 rfl (by kernel_rfl) (by kernel_rfl) (Nat.le_of_ble_eq_true rfl) (fun row h => by cases h) ?_
  have hty_s24 := ty_s24
  have hty_f26_2 := ty_f26_2
  have hty_c24 := ty_c24
  have hty_u24 := ty_u24
  have hty_c3 := ty_c3
  have hty_a26 := ty_a26
  have hty_u27 := ty_u27
  have hty_s27 := ty_s27
  have hty_t3 := ty_t3
  have hl1 : (ints b.t.burn).length = b.t.burn.length := by simp
  have hg := hb.1.1
  have hlen := goodT_len hg
  have hst := hb.2.2
  repeat' (first | (refine pA (k := ?_)) | (refine g_exec ?_; first | (refine g_guard ?_; refine x_gsplit rfl rfl (fun h => ?_) (fun h => ?_) <;> (have h' := h; try simp only [sx] at h')) | (refine x_nil (hK _ _ aI ?_); clear hK K)) | (refine v_region (fun K hK => ?_)) | (refine v_condt rfl (fun h => ?_) (fun h => ?_) <;> (have h' := h; try simp only [sx] at h')))
  refine v_loopK [1, 2, 3, 4] [] (fun q : Nat × List (List PV) => [(9, .osl (1001, 0) 0 q.1), (10, .int .i64 q.1)]) (fun q : Nat × List (List PV) => [((1001, 0), some ⟨3, 1, q.2, false⟩)]) (fun q : Nat × List (List PV) => q.1 ≤ b.t.burn.length ∧ q.2 = ints ((iniL b).take q.1)) (fun q : Nat × List (List PV) => b.t.burn.length - q.1) ((0, [])) rfl rfl (fun _ => rfl) (fun _ => rfl) rfl (by refine ⟨?_, ?_, rfl, rfl⟩ <;> (repeat' (first | exact trivial | exact ⟨rfl, rfl⟩ | exact rfl | exact ⟨sub_fn, refs_fn⟩ | refine ⟨⟨rfl, rfl⟩, ?_⟩ | refine ⟨⟨sub_fn, refs_fn⟩, ?_⟩ | refine ⟨⟨rfl, fun h => Bool.noConfusion h⟩, ?_⟩ | refine ⟨⟨rfl, fun h => ?_⟩, ?_⟩ | refine ⟨rfl, ?_⟩ | refine ⟨?_, ?_⟩ | fail))) ⟨by simp, by simp⟩ (fun q hq => ?_)
  obtain ⟨i, es⟩ := q
  obtain ⟨hi1, hi2⟩ := hq
  simp only at hi1 hi2
  have hl : es.length = i := by rw [hi2, ints_len, List.length_take, iniL_len]; omega
  dsimp only
  rcases Nat.lt_or_ge i b.t.burn.length with hlt | hge
  · have hci : IsCell b.t (i : Int) := ⟨by omega, by omega⟩
    have hx := ints_at (burn_at hci)
    have hat : (iniL b)[i]? = some (iniV b i) := by simp [iniL, hlt]
    by_cases hc : 0 < burnAt b.t i ∧ (i : Int) ∈ b.src
    · obtain ⟨hc1, hc2⟩ := hc
      have eV : iniV b i = b.st := by rw [iniV, if_pos ⟨hc1, hc2⟩]
      repeat' (first | (refine pA (k := ?_)) | (refine g_exec ?_; first | (refine g_call ?_; refine x_callG true (k_l1Has b.src i hs) rfl rfl rfl aS rfl aH ?_; simp only [cl]) | (refine g_guard ?_; refine x_gsplit rfl rfl (fun h => ?_) (fun h => ?_) <;> (have h' := h; try simp only [sx] at h')) | (refine x_nil (hK _ _ aI ?_); clear hK K)) | (refine v_region (fun K hK => ?_)) | (refine v_condt rfl (fun h => ?_) (fun h => ?_) <;> (have h' := h; try simp only [sx] at h')))
      all_goals first
        | (exfalso; first | omega | exact absurd hc2 aA)
        | (refine q_next (i + 1, es ++ [[.int .i64 b.st]]) rfl (by refine ⟨?_, ?_, rfl, rfl⟩ <;> (repeat' (first | exact trivial | exact ⟨rfl, rfl⟩ | exact rfl | exact ⟨sub_fn, refs_fn⟩ | refine ⟨⟨rfl, rfl⟩, ?_⟩ | refine ⟨⟨sub_fn, refs_fn⟩, ?_⟩ | refine ⟨⟨rfl, fun h => Bool.noConfusion h⟩, ?_⟩ | refine ⟨⟨rfl, fun h => ?_⟩, ?_⟩ | refine ⟨rfl, ?_⟩ | refine ⟨?_, ?_⟩ | fail))) ⟨by simp only; omega, ?_⟩ (by simp only; omega)
           simp only [take_succ hat, ints_snoc, hi2, eV])
    · have eV : iniV b i = -1 := by rw [iniV, if_neg hc]
      repeat' (first | (refine pA (k := ?_)) | (refine g_exec ?_; first | (refine g_call ?_; refine x_callG true (k_l1Has b.src i hs) rfl rfl rfl aS rfl aH ?_; simp only [cl]) | (refine g_guard ?_; refine x_gsplit rfl rfl (fun h => ?_) (fun h => ?_) <;> (have h' := h; try simp only [sx] at h')) | (refine x_nil (hK _ _ aI ?_); clear hK K)) | (refine v_region (fun K hK => ?_)) | (refine v_condt rfl (fun h => ?_) (fun h => ?_) <;> (have h' := h; try simp only [sx] at h')))
      all_goals first
        | (exfalso; exact hc ⟨by assumption, by assumption⟩)
        | (refine q_next (i + 1, es ++ [[.int .i64 (-1)]]) rfl (by refine ⟨?_, ?_, rfl, rfl⟩ <;> (repeat' (first | exact trivial | exact ⟨rfl, rfl⟩ | exact rfl | exact ⟨sub_fn, refs_fn⟩ | refine ⟨⟨rfl, rfl⟩, ?_⟩ | refine ⟨⟨sub_fn, refs_fn⟩, ?_⟩ | refine ⟨⟨rfl, fun h => Bool.noConfusion h⟩, ?_⟩ | refine ⟨⟨rfl, fun h => ?_⟩, ?_⟩ | refine ⟨rfl, ?_⟩ | refine ⟨?_, ?_⟩ | fail))) ⟨by simp only; omega, ?_⟩ (by simp only; omega)
           simp only [take_succ hat, ints_snoc, hi2, eV])
  have hi3 : i = b.t.burn.length := by omega
  subst hi3
  rw [take_all (by rw [iniL_len]; exact Nat.le_refl _)] at hi2
  subst hi2
  repeat' (first | (refine pA (k := ?_)) | (refine g_exec ?_; first | (refine g_guard ?_; refine x_gsplit rfl rfl (fun h => ?_) (fun h => ?_) <;> (have h' := h; try simp only [sx] at h')) | (refine x_nil (hK _ _ aI ?_); clear hK K)) | (refine v_region (fun K hK => ?_)) | (refine v_condt rfl (fun h => ?_) (fun h => ?_) <;> (have h' := h; try simp only [sx] at h')))
  refine v_loopK [1, 4] [] (fun q : List (List PV) × List Int × Bool => [(9, .osl (1001, 0) 0 b.t.burn.length), (11, .bool q.2.2)]) (fun q : List (List PV) × List Int × Bool => [((1001, 0), some ⟨3, 1, q.1, false⟩)]) (fun q : List (List PV) × List Int × Bool => q.1 = ints q.2.1 ∧ Mid b q.2.1 ∧ (q.2.2 = false → ∀ a, IsCell b.t a → Clsd b q.2.1 a)) (fun q : List (List PV) × List Int × Bool => (if q.2.2 = true then valF q.2.1 + 1 else 0).toNat) ((ints (iniL b), iniL b, true)) rfl rfl (fun _ => rfl) (fun _ => rfl) rfl (by refine ⟨?_, ?_, rfl, rfl⟩ <;> (repeat' (first | exact trivial | exact ⟨rfl, rfl⟩ | exact rfl | exact ⟨sub_fn, refs_fn⟩ | refine ⟨⟨rfl, rfl⟩, ?_⟩ | refine ⟨⟨sub_fn, refs_fn⟩, ?_⟩ | refine ⟨⟨rfl, fun h => Bool.noConfusion h⟩, ?_⟩ | refine ⟨⟨rfl, fun h => ?_⟩, ?_⟩ | refine ⟨rfl, ?_⟩ | refine ⟨?_, ?_⟩ | fail))) ⟨rfl, ini_mid hb, fun h => by cases h⟩ (fun q hq => ?_)
  obtain ⟨es, T, again⟩ := q
  obtain ⟨hq1, hq2, hq3⟩ := hq
  simp only at hq1 hq2 hq3
  have hle : es.length = b.t.burn.length := by rw [hq1, ints_len, hq2.pre.len]
  dsimp only
  cases again
  · repeat' (first | (refine pA (k := ?_)) | (refine g_exec ?_; first | (refine g_guard ?_; refine x_gsplit rfl rfl (fun h => ?_) (fun h => ?_) <;> (have h' := h; try simp only [sx] at h')) | (refine x_nil (hK _ _ aI ?_); clear hK K)) | (refine v_region (fun K hK => ?_)) | (refine v_condt rfl (fun h => ?_) (fun h => ?_) <;> (have h' := h; try simp only [sx] at h')))
    have : T = arr b := arr_eq hb ⟨hq2.pre, hq3 rfl⟩
    exact ret_list rfl (lookE_ok (by rfl)) (by rfl) (by decide) hle.symm (by rw [hq1]; exact ints_flat _) (by rw [hq1, this])
  · have hvT := hq2.val hb
    repeat' (first | (refine pA (k := ?_)) | (refine g_exec ?_; first | (refine g_guard ?_; refine x_gsplit rfl rfl (fun h => ?_) (fun h => ?_) <;> (have h' := h; try simp only [sx] at h')) | (refine x_nil (hK _ _ aI ?_); clear hK K)) | (refine v_region (fun K hK => ?_)) | (refine v_condt rfl (fun h => ?_) (fun h => ?_) <;> (have h' := h; try simp only [sx] at h')))
    refine v_loopK [1, 4] [] (fun r : Nat × List (List PV) × List Int × Bool => [(9, .osl (1001, 0) 0 b.t.burn.length), (11, .bool r.2.2.2), (12, .int .i64 r.1)]) (fun r : Nat × List (List PV) × List Int × Bool => [((1001, 0), some ⟨3, 1, r.2.1, false⟩)]) (fun r : Nat × List (List PV) × List Int × Bool => r.1 ≤ b.t.burn.length ∧ r.2.1 = ints r.2.2.1 ∧ Mid b r.2.2.1 ∧ (r.2.2.2 = false → r.2.2.1 = T ∧ ∀ a : Nat, a < r.1 → Clsd b T a) ∧ (r.2.2.2 = true → valF r.2.2.1 < valF T)) (fun r : Nat × List (List PV) × List Int × Bool => b.t.burn.length - r.1) ((0, es, T, false)) rfl rfl (fun _ => rfl) (fun _ => rfl) rfl (by refine ⟨?_, ?_, rfl, rfl⟩ <;> (repeat' (first | exact trivial | exact ⟨rfl, rfl⟩ | exact rfl | exact ⟨sub_fn, refs_fn⟩ | refine ⟨⟨rfl, rfl⟩, ?_⟩ | refine ⟨⟨sub_fn, refs_fn⟩, ?_⟩ | refine ⟨⟨rfl, fun h => Bool.noConfusion h⟩, ?_⟩ | refine ⟨⟨rfl, fun h => ?_⟩, ?_⟩ | refine ⟨rfl, ?_⟩ | refine ⟨?_, ?_⟩ | fail))) ⟨by simp, hq1, hq2, fun _ => ⟨rfl, fun a h => by simp at h⟩, fun h => by cases h⟩ (fun r hr => ?_)
    obtain ⟨a, fs, U, ag⟩ := r
    obtain ⟨hr1, hr2, hr3, hr4, hr5⟩ := hr
    simp only at hr1 hr2 hr3 hr4 hr5
    have hlf : fs.length = b.t.burn.length := by rw [hr2, ints_len, hr3.pre.len]
    dsimp only
    rcases Nat.lt_or_ge a b.t.burn.length with hlt | hge
    · have hca : IsCell b.t (a : Int) := ⟨by omega, by omega⟩
      have hfa : fs[a]? = some [.int .i64 (tv U a)] := by rw [hr2]; exact tv_nat (by rw [hr3.pre.len]; exact hlt)
      by_cases hu : tv U a = -1
      · repeat' (first | (refine pA (k := ?_)) | (refine g_exec ?_; first | (refine g_guard ?_; refine x_gsplit rfl rfl (fun h => ?_) (fun h => ?_) <;> (have h' := h; try simp only [sx] at h')) | (refine x_nil (hK _ _ aI ?_); clear hK K)) | (refine v_region (fun K hK => ?_)) | (refine v_condt rfl (fun h => ?_) (fun h => ?_) <;> (have h' := h; try simp only [sx] at h')))
        all_goals try (exfalso; omega)
        refine q_next (a + 1, fs, U, ag) rfl (by refine ⟨?_, ?_, rfl, rfl⟩ <;> (repeat' (first | exact trivial | exact ⟨rfl, rfl⟩ | exact rfl | exact ⟨sub_fn, refs_fn⟩ | refine ⟨⟨rfl, rfl⟩, ?_⟩ | refine ⟨⟨sub_fn, refs_fn⟩, ?_⟩ | refine ⟨⟨rfl, fun h => Bool.noConfusion h⟩, ?_⟩ | refine ⟨⟨rfl, fun h => ?_⟩, ?_⟩ | refine ⟨rfl, ?_⟩ | refine ⟨?_, ?_⟩ | fail))) ⟨by simp only; omega, hr2, hr3, fun h => ⟨(hr4 h).1, fun a' ha' => ?_⟩, hr5⟩ (by simp only; omega)
        simp only at ha'
        rcases Nat.lt_or_ge a' a with h1 | h1
        · exact (hr4 h).2 a' h1
        · have : a' = a := by omega
          subst this
          intro hne
          rw [← (hr4 h).1] at hne
          exact absurd hu hne
      · have ln : (ints (nears b.t a)).length = (nears b.t a).length := by simp
        have hnl := nears_len b.t a
        repeat' (first | (refine pA (k := ?_)) | (refine g_exec ?_; first | (refine g_call ?_; refine x_callG true (k_l2Near b.t a hg hca) rfl rfl rfl aS rfl aH ?_; simp only [cl]) | (refine g_guard ?_; refine x_gsplit rfl rfl (fun h => ?_) (fun h => ?_) <;> (have h' := h; try simp only [sx] at h')) | (refine x_nil (hK _ _ aI ?_); clear hK K)) | (refine v_region (fun K hK => ?_)) | (refine v_condt rfl (fun h => ?_) (fun h => ?_) <;> (have h' := h; try simp only [sx] at h')))
        all_goals try (exfalso; omega)
        refine v_loopK [1, 4, 12, 13] [] (fun s : Nat × List (List PV) × List Int × Bool => [(9, .osl (1001, 0) 0 b.t.burn.length), (11, .bool s.2.2.2), (14, .int .i64 s.1)]) (fun s : Nat × List (List PV) × List Int × Bool => [((1001, 0), some ⟨3, 1, s.2.1, false⟩)]) (fun s : Nat × List (List PV) × List Int × Bool => s.1 ≤ (nears b.t a).length ∧ s.2.1 = ints s.2.2.1 ∧ Mid b s.2.2.1 ∧ tv s.2.2.1 a ≠ -1 ∧ (s.2.2.2 = false → s.2.2.1 = T ∧ (∀ a' : Nat, a' < a → Clsd b T a') ∧ ∀ j, j < s.1 → ∀ c, (nears b.t a)[j]? = some c → 0 < burnAt b.t c → tv T c ≠ -1 ∧ tv T c ≤ hop b a c (tv T a)) ∧ (s.2.2.2 = true → valF s.2.2.1 < valF T)) (fun s : Nat × List (List PV) × List Int × Bool => (nears b.t a).length - s.1) ((0, fs, U, ag)) rfl rfl (fun _ => rfl) (fun _ => rfl) rfl (by refine ⟨?_, ?_, rfl, rfl⟩ <;> (repeat' (first | exact trivial | exact ⟨rfl, rfl⟩ | exact rfl | exact ⟨sub_fn, refs_fn⟩ | refine ⟨⟨rfl, rfl⟩, ?_⟩ | refine ⟨⟨sub_fn, refs_fn⟩, ?_⟩ | refine ⟨⟨rfl, fun h => Bool.noConfusion h⟩, ?_⟩ | refine ⟨⟨rfl, fun h => ?_⟩, ?_⟩ | refine ⟨rfl, ?_⟩ | refine ⟨?_, ?_⟩ | fail))) ⟨by simp, hr2, hr3, hu, fun h => ⟨(hr4 h).1, (hr4 h).2, fun j hj => by simp at hj⟩, hr5⟩ (fun s hs => ?_)
        obtain ⟨k, gs, V, bg⟩ := s
        obtain ⟨hs1, hs2, hs3, hs4, hs5, hs6⟩ := hs
        simp only at hs1 hs2 hs3 hs4 hs5 hs6
        have hlg : gs.length = b.t.burn.length := by rw [hs2, ints_len, hs3.pre.len]
        have hga : gs[a]? = some [.int .i64 (tv V a)] := by rw [hs2]; exact tv_nat (by rw [hs3.pre.len]; exact hlt)
        dsimp only
        rcases Nat.lt_or_ge k (nears b.t a).length with hkt | hkg
        · obtain ⟨c, hc⟩ := get_ex hkt
          have hxc := ints_at hc
          have hnc := nears_mem.1 (get_mem hc)
          have hcc := hnc.1
          unfold IsCell at hcc
          have hbc := ints_at (burn_at hnc.1)
          have hbb := burn_bound hg hnc.1
          have hgc : gs[c.toNat]? = some [.int .i64 (tv V c)] := by rw [hs2]; exact tv_int (cell_inT hs3.pre.len hnc.1)
          by_cases hb0 : burnAt b.t c = 0
          · repeat' (first | (refine pA (k := ?_)) | (refine g_exec ?_; first | (refine g_guard ?_; refine x_gsplit rfl rfl (fun h => ?_) (fun h => ?_) <;> (have h' := h; try simp only [sx] at h')) | (refine x_nil (hK _ _ aI ?_); clear hK K)) | (refine v_region (fun K hK => ?_)) | (refine v_condt rfl (fun h => ?_) (fun h => ?_) <;> (have h' := h; try simp only [sx] at h')))
            all_goals try (exfalso; omega)
            refine q_next (k + 1, gs, V, bg) rfl (by refine ⟨?_, ?_, rfl, rfl⟩ <;> (repeat' (first | exact trivial | exact ⟨rfl, rfl⟩ | exact rfl | exact ⟨sub_fn, refs_fn⟩ | refine ⟨⟨rfl, rfl⟩, ?_⟩ | refine ⟨⟨sub_fn, refs_fn⟩, ?_⟩ | refine ⟨⟨rfl, fun h => Bool.noConfusion h⟩, ?_⟩ | refine ⟨⟨rfl, fun h => ?_⟩, ?_⟩ | refine ⟨rfl, ?_⟩ | refine ⟨?_, ?_⟩ | fail))) ⟨by simp only; omega, hs2, hs3, hs4, fun h => ⟨(hs5 h).1, (hs5 h).2.1, fun j hj c' hc' hb' => ?_⟩, hs6⟩ (by simp only; omega)
            simp only at hj
            rcases Nat.lt_or_ge j k with h1 | h1
            · exact (hs5 h).2.2 j h1 c' hc' hb'
            · have : j = k := by omega
              subst this
              rw [hc] at hc'
              injection hc' with hc'
              subst hc'
              omega
          · have he : Edge b a c := ⟨hca, hnc.1, hnc.2, by omega⟩
            have hva := hs3.ge hb hca hs4
            have hval := hs3.le hb hca
            have hwk := wk_bnd hb hca hnc.1
            have hop1 := hop_bnd hb hva.1 he hva.2
            have hvc := hs3.le hb hnc.1
            have kW := k_l4Work b.t a c hg hca hnc.1
            have kD : Con Try.prog 65 [.list 2 (b.ps.map Phase.pv), .int .i64 (tv V a), .int .i64 (wkF b.t a c)] (.int .i64 (hop b a c (tv V a))) := k_l4Done b.ps (tv V a) (wkF b.t a c) hb.2.1 aO aO
            generalize hxx : hop b a c (tv V a) = x at *
            generalize hww : wkF b.t a c = wk at *
            by_cases hx : tv V c = -1 ∨ x < tv V c
            · have hrel := hs3.relax hb he hs4 (by rw [hxx]; exact hx)
              rw [hxx] at hrel
              repeat' (first | (refine pA (k := ?_)) | (refine g_exec ?_; first | (refine g_call ?_; first | (refine x_callG true (kW) rfl rfl rfl aS rfl aH ?_; simp only [cl]) | (refine x_callG true (kD) rfl rfl rfl aS rfl aH ?_; simp only [cl])) | (refine g_guard ?_; refine x_gsplit rfl rfl (fun h => ?_) (fun h => ?_) <;> (have h' := h; try simp only [sx] at h')) | (refine x_nil (hK _ _ aI ?_); clear hK K)) | (refine v_region (fun K hK => ?_)) | (refine v_condt rfl (fun h => ?_) (fun h => ?_) <;> (have h' := h; try simp only [sx] at h')))
              all_goals first
                | (exfalso; omega)
                | (refine q_next (k + 1, gs.set c.toNat [.int .i64 x], V.set c.toNat x, true) rfl (by refine ⟨?_, ?_, rfl, rfl⟩ <;> (repeat' (first | exact trivial | exact ⟨rfl, rfl⟩ | exact rfl | exact ⟨sub_fn, refs_fn⟩ | refine ⟨⟨rfl, rfl⟩, ?_⟩ | refine ⟨⟨sub_fn, refs_fn⟩, ?_⟩ | refine ⟨⟨rfl, fun h => Bool.noConfusion h⟩, ?_⟩ | refine ⟨⟨rfl, fun h => ?_⟩, ?_⟩ | refine ⟨rfl, ?_⟩ | refine ⟨?_, ?_⟩ | fail))) ⟨by simp only; omega, by simp only [ints_set, hs2], hrel.1, ?_, fun h => (by cases h), fun _ => ?_⟩ (by simp only; omega)
                   · simp only [tv_set x (cell_inT hs3.pre.len hnc.1)]
                     split
                     · omega
                     · exact hs4
                   · have h2 := hrel.2
                     cases bg
                     · have := (hs5 rfl).1; subst this; exact h2
                     · have := hs6 rfl; simp only; omega)
            · repeat' (first | (refine pA (k := ?_)) | (refine g_exec ?_; first | (refine g_call ?_; first | (refine x_callG true (kW) rfl rfl rfl aS rfl aH ?_; simp only [cl]) | (refine x_callG true (kD) rfl rfl rfl aS rfl aH ?_; simp only [cl])) | (refine g_guard ?_; refine x_gsplit rfl rfl (fun h => ?_) (fun h => ?_) <;> (have h' := h; try simp only [sx] at h')) | (refine x_nil (hK _ _ aI ?_); clear hK K)) | (refine v_region (fun K hK => ?_)) | (refine v_condt rfl (fun h => ?_) (fun h => ?_) <;> (have h' := h; try simp only [sx] at h')))
              all_goals first
                | (exfalso; omega)
                | (refine q_next (k + 1, gs, V, bg) rfl (by refine ⟨?_, ?_, rfl, rfl⟩ <;> (repeat' (first | exact trivial | exact ⟨rfl, rfl⟩ | exact rfl | exact ⟨sub_fn, refs_fn⟩ | refine ⟨⟨rfl, rfl⟩, ?_⟩ | refine ⟨⟨sub_fn, refs_fn⟩, ?_⟩ | refine ⟨⟨rfl, fun h => Bool.noConfusion h⟩, ?_⟩ | refine ⟨⟨rfl, fun h => ?_⟩, ?_⟩ | refine ⟨rfl, ?_⟩ | refine ⟨?_, ?_⟩ | fail))) ⟨by simp only; omega, hs2, hs3, hs4, fun h => ⟨(hs5 h).1, (hs5 h).2.1, fun j hj c' hc' hb' => ?_⟩, hs6⟩ (by simp only; omega)
                   simp only at hj
                   rcases Nat.lt_or_ge j k with h1 | h1
                   · exact (hs5 h).2.2 j h1 c' hc' hb'
                   · have : j = k := by omega
                     subst this
                     rw [hc] at hc'
                     injection hc' with hc'
                     subst hc'
                     have hVT := (hs5 h).1
                     subst hVT
                     rw [hxx]
                     omega)
        · repeat' (first | (refine pA (k := ?_)) | (refine g_exec ?_; first | (refine g_guard ?_; refine x_gsplit rfl rfl (fun h => ?_) (fun h => ?_) <;> (have h' := h; try simp only [sx] at h')) | (refine x_nil (hK _ _ aI ?_); clear hK K)) | (refine v_region (fun K hK => ?_)) | (refine v_condt rfl (fun h => ?_) (fun h => ?_) <;> (have h' := h; try simp only [sx] at h')))
          refine q_next (a + 1, gs, V, bg) rfl (by refine ⟨?_, ?_, rfl, rfl⟩ <;> (repeat' (first | exact trivial | exact ⟨rfl, rfl⟩ | exact rfl | exact ⟨sub_fn, refs_fn⟩ | refine ⟨⟨rfl, rfl⟩, ?_⟩ | refine ⟨⟨sub_fn, refs_fn⟩, ?_⟩ | refine ⟨⟨rfl, fun h => Bool.noConfusion h⟩, ?_⟩ | refine ⟨⟨rfl, fun h => ?_⟩, ?_⟩ | refine ⟨rfl, ?_⟩ | refine ⟨?_, ?_⟩ | fail))) ⟨by simp only; omega, hs2, hs3, fun h => ⟨(hs5 h).1, fun a' ha' => ?_⟩, hs6⟩ (by simp only; omega)
          simp only at ha'
          rcases Nat.lt_or_ge a' a with h1 | h1
          · exact (hs5 h).2.1 a' h1
          · have : a' = a := by omega
            subst this
            intro hne c he
            obtain ⟨j, hj⟩ := List.getElem?_of_mem (nears_mem.2 ⟨he.2.1, he.2.2.1⟩)
            exact (hs5 h).2.2 j (by have := get_lt hj; omega) c hj he.2.2.2
    · repeat' (first | (refine pA (k := ?_)) | (refine g_exec ?_; first | (refine g_guard ?_; refine x_gsplit rfl rfl (fun h => ?_) (fun h => ?_) <;> (have h' := h; try simp only [sx] at h')) | (refine x_nil (hK _ _ aI ?_); clear hK K)) | (refine v_region (fun K hK => ?_)) | (refine v_condt rfl (fun h => ?_) (fun h => ?_) <;> (have h' := h; try simp only [sx] at h')))
      refine q_next (fs, U, ag) rfl (by refine ⟨?_, ?_, rfl, rfl⟩ <;> (repeat' (first | exact trivial | exact ⟨rfl, rfl⟩ | exact rfl | exact ⟨sub_fn, refs_fn⟩ | refine ⟨⟨rfl, rfl⟩, ?_⟩ | refine ⟨⟨sub_fn, refs_fn⟩, ?_⟩ | refine ⟨⟨rfl, fun h => Bool.noConfusion h⟩, ?_⟩ | refine ⟨⟨rfl, fun h => ?_⟩, ?_⟩ | refine ⟨rfl, ?_⟩ | refine ⟨?_, ?_⟩ | fail))) ⟨hr2, hr3, fun h a ha => ?_⟩ ?_
      · simp only at h ⊢
        have h4 := hr4 h
        rw [h4.1]
        have h5 := ha; unfold IsCell at h5
        have := h4.2 a.toNat aO
        rwa [show ((a.toNat : Nat) : Int) = a by omega] at this
      · have hvU := hr3.val hb
        simp only [if_true]
        cases ag
        · simp; omega
        · have := hr5 rfl
          simp only [if_true]
          omega
end Go.Vs
set_option linter.unusedVariables false
set_option linter.unusedSimpArgs false
set_option maxRecDepth 100000
set_option maxHeartbeats 4000000
namespace Go.Vs
open Go.Proofs
attribute [local irreducible] exec vwp thenQ blkQ loopQ RetPost
theorem k_work (t : Terrain) (a c : Int) (hg : GoodT t) (ha : IsCell t a) (hc : IsCell t c) : Con Try.prog 55 [.agg t.pv, .int .i64 a, .int .i64 c] (.int .i64 (wkF t a c)) := by
  intro al
  refine contract_of hmix Try.func55 rfl (by kernel_rfl) (by kernel_rfl) (Nat.le_of_ble_eq_true rfl) (fun row h => by cases h) ?_
  have hty_f26_2 := ty_f26_2
  have hty_c24 := ty_c24
  have hty_s24 := ty_s24
  have hty_c3 := ty_c3
  have hty_a26 := ty_a26
  have hl1 : (ints t.burn).length = t.burn.length := by simp
  have hw := hg.1.1
  have hx := ints_at (burn_at ha)
  have hy := ints_at (burn_at hc)
  have b1 := burn_bound hg ha
  have b2 := burn_bound hg hc
  have hca := ha
  have hcc := hc
  unfold IsCell at hca hcc
  have hlen := goodT_len hg
  by_cases h1 : a % t.width = c % t.width
  · repeat' (first | (refine pA (k := ?_)) | (refine g_exec ?_; first | (refine g_call ?_; first | (refine x_callG true (k_column t a hw.1 aO) rfl rfl rfl aS rfl aH ?_; simp only [cl]) | (refine x_callG true (k_column t c hw.1 aO) rfl rfl rfl aS rfl aH ?_; simp only [cl]) | (refine x_callG true (k_row t a hw.1 aO) rfl rfl rfl aS rfl aH ?_; simp only [cl]) | (refine x_callG true (k_row t c hw.1 aO) rfl rfl rfl aS rfl aH ?_; simp only [cl])) | (refine g_guard ?_; refine x_gsplit rfl rfl (fun h => ?_) (fun h => ?_) <;> (have h' := h; try simp only [sx] at h')) | (refine x_nil (hK _ _ aI ?_); clear hK K)) | (refine v_region (fun K hK => ?_)) | (refine v_condt rfl (fun h => ?_) (fun h => ?_) <;> (have h' := h; try simp only [sx] at h')))
    all_goals first
      | (exfalso; omega)
      | (refine ret_int rfl (lookE_ok rfl) ?_
         simp only [wkF, colOf, rowOf]
         rw [if_pos (.inl h1)])
  · by_cases h2 : a / t.width = c / t.width
    · repeat' (first | (refine pA (k := ?_)) | (refine g_exec ?_; first | (refine g_call ?_; first | (refine x_callG true (k_column t a hw.1 aO) rfl rfl rfl aS rfl aH ?_; simp only [cl]) | (refine x_callG true (k_column t c hw.1 aO) rfl rfl rfl aS rfl aH ?_; simp only [cl]) | (refine x_callG true (k_row t a hw.1 aO) rfl rfl rfl aS rfl aH ?_; simp only [cl]) | (refine x_callG true (k_row t c hw.1 aO) rfl rfl rfl aS rfl aH ?_; simp only [cl])) | (refine g_guard ?_; refine x_gsplit rfl rfl (fun h => ?_) (fun h => ?_) <;> (have h' := h; try simp only [sx] at h')) | (refine x_nil (hK _ _ aI ?_); clear hK K)) | (refine v_region (fun K hK => ?_)) | (refine v_condt rfl (fun h => ?_) (fun h => ?_) <;> (have h' := h; try simp only [sx] at h')))
      all_goals first
        | (exfalso; omega)
        | (refine ret_int rfl (lookE_ok rfl) ?_
           simp only [wkF, colOf, rowOf]
           rw [if_pos (.inr h2)])
    · repeat' (first | (refine pA (k := ?_)) | (refine g_exec ?_; first | (refine g_call ?_; first | (refine x_callG true (k_column t a hw.1 aO) rfl rfl rfl aS rfl aH ?_; simp only [cl]) | (refine x_callG true (k_column t c hw.1 aO) rfl rfl rfl aS rfl aH ?_; simp only [cl]) | (refine x_callG true (k_row t a hw.1 aO) rfl rfl rfl aS rfl aH ?_; simp only [cl]) | (refine x_callG true (k_row t c hw.1 aO) rfl rfl rfl aS rfl aH ?_; simp only [cl])) | (refine g_guard ?_; refine x_gsplit rfl rfl (fun h => ?_) (fun h => ?_) <;> (have h' := h; try simp only [sx] at h')) | (refine x_nil (hK _ _ aI ?_); clear hK K)) | (refine v_region (fun K hK => ?_)) | (refine v_condt rfl (fun h => ?_) (fun h => ?_) <;> (have h' := h; try simp only [sx] at h')))
      all_goals first
        | (exfalso; omega)
        | (refine ret_int rfl (lookE_ok rfl) ?_
           simp only [wkF, colOf, rowOf]
           rw [if_neg aO])
theorem k_filterIntT (xs : List Int) (g : FuncId) (t : Terrain) (p : Int → Bool) (hg : ∀ a ∈ xs, Con Try.prog g [.agg t.pv, .int .i64 a] (.bool (p a))) (hn : xs.length ≤ 1099511627776) :
    Con Try.prog 51 [.list 1 (ints xs), .fn g [.agg t.pv] []] (.olist 3 1 (ints (xs.filter p))) := by
  intro al
  refine contract_of hmix Try.func51 rfl (by kernel_rfl) (by kernel_rfl) (Nat.le_of_ble_eq_true rfl) (fun row h => by cases h) ?_
  have hty_s24 := ty_s24
  have hty_u24 := ty_u24
  have hty_c3 := ty_c3
  have hl1 : (ints xs).length = xs.length := by simp
  repeat' (first | (refine pA (k := ?_)) | (refine g_exec ?_; refine x_nil (hK _ _ aI ?_); clear hK K) | (refine v_region (fun K hK => ?_)) | (refine v_condt rfl (fun h => ?_) (fun h => ?_) <;> (have h' := h; try simp only [sx] at h')))
  refine v_loopK [1, 9, 10] [] (fun q : Nat × Nat × List (List PV) => [(5, .osl (1001, 0) 0 q.2.1), (11, .int .i64 q.1)]) (fun q : Nat × Nat × List (List PV) => [((1001, 0), some ⟨3, 1, q.2.2, false⟩)]) (fun q : Nat × Nat × List (List PV) => q.1 ≤ xs.length ∧ q.2.2 = ints ((xs.take q.1).filter p) ∧ q.2.2.length = q.2.1) (fun q : Nat × Nat × List (List PV) => xs.length - q.1) ((0, 0, [])) rfl rfl (fun _ => rfl) (fun _ => rfl) rfl (by refine ⟨?_, ?_, rfl, rfl⟩ <;> (repeat' (first | exact trivial | exact ⟨rfl, rfl⟩ | exact rfl | exact ⟨sub_fn, refs_fn⟩ | refine ⟨⟨rfl, rfl⟩, ?_⟩ | refine ⟨⟨sub_fn, refs_fn⟩, ?_⟩ | refine ⟨⟨rfl, fun h => Bool.noConfusion h⟩, ?_⟩ | refine ⟨⟨rfl, fun h => ?_⟩, ?_⟩ | refine ⟨rfl, ?_⟩ | refine ⟨?_, ?_⟩ | fail))) ⟨by simp, by simp, rfl⟩ (fun q hq => ?_)
  obtain ⟨i, m, es⟩ := q
  obtain ⟨hi1, hi2, hl⟩ := hq
  simp only at hi1 hi2 hl
  have hle : es.length ≤ i := by rw [hi2]; simp only [List.length_map]; exact Nat.le_trans (List.length_filter_le _ _) (by rw [List.length_take]; omega)
  rcases Nat.lt_or_ge i xs.length with hlt | hge
  · obtain ⟨a, hga⟩ := get_ex hlt
    have hx := ints_at hga
    have kg := hg a (get_mem hga)
    dsimp only
    repeat' (first | (refine pA (k := ?_)) | (refine g_exec ?_; first | (refine g_call ?_; first | (refine x_callG true (kg) rfl rfl rfl aS rfl aH ?_; simp only [cl]) | (refine x_call [] _ (kg) rfl rfl aS rfl aH ?_; simp only [cl])) | (refine x_nil (hK _ _ aI ?_); clear hK K)) | (refine v_region (fun K hK => ?_)) | (refine v_condt rfl (fun h => ?_) (fun h => ?_) <;> (have h' := h; try simp only [sx] at h')))
    · refine q_next (i + 1, m + 1, es ++ [[.int .i64 a]]) rfl (by refine ⟨?_, ?_, rfl, rfl⟩ <;> (repeat' (first | exact trivial | exact ⟨rfl, rfl⟩ | exact rfl | exact ⟨sub_fn, refs_fn⟩ | refine ⟨⟨rfl, rfl⟩, ?_⟩ | refine ⟨⟨sub_fn, refs_fn⟩, ?_⟩ | refine ⟨⟨rfl, fun h => Bool.noConfusion h⟩, ?_⟩ | refine ⟨⟨rfl, fun h => ?_⟩, ?_⟩ | refine ⟨rfl, ?_⟩ | refine ⟨?_, ?_⟩ | fail))) ⟨by simp only; omega, ?_, by simp [hl]⟩ (by simp only; omega)
      simp only [filter_take_t hga (show p a = true by assumption), ints_snoc, hi2, List.map_cons, List.map_nil]
    · refine q_next (i + 1, m, es) rfl (by refine ⟨?_, ?_, rfl, rfl⟩ <;> (repeat' (first | exact trivial | exact ⟨rfl, rfl⟩ | exact rfl | exact ⟨sub_fn, refs_fn⟩ | refine ⟨⟨rfl, rfl⟩, ?_⟩ | refine ⟨⟨sub_fn, refs_fn⟩, ?_⟩ | refine ⟨⟨rfl, fun h => Bool.noConfusion h⟩, ?_⟩ | refine ⟨⟨rfl, fun h => ?_⟩, ?_⟩ | refine ⟨rfl, ?_⟩ | refine ⟨?_, ?_⟩ | fail))) ⟨by simp only; omega, ?_, hl⟩ (by simp only; omega)
      simp only [filter_take_f hga (show p a = false by assumption), hi2]
  · repeat' (first | (refine pA (k := ?_)) | (refine g_exec ?_; refine x_nil (hK _ _ aI ?_); clear hK K) | (refine v_region (fun K hK => ?_)) | (refine v_condt rfl (fun h => ?_) (fun h => ?_) <;> (have h' := h; try simp only [sx] at h')))
    have : xs.take i = xs := take_all aO
    rw [this] at hi2
    subst hi2
    exact ret_list rfl (lookE_ok (by rfl)) (by rfl) (by decide) hl.symm (ints_flat _) rfl
@[reducible] def bools (F : List Bool) : List (List PV) := F.map fun b => [PV.bool b]
theorem bools_set (F : List Bool) (i : Nat) (x : Bool) : bools (F.set i x) = (bools F).set i [PV.bool x] := by simp [bools, List.map_set]
def fv (F : List Bool) (c : Int) : Bool := F.getD c.toNat false
theorem fv_at {F : List Bool} {c : Int} (h : c.toNat < F.length) : (bools F)[c.toNat]? = some [PV.bool (fv F c)] := by
  obtain ⟨a, ha⟩ := get_ex h
  have : fv F c = a := by simp [fv, List.getD_eq_getElem?_getD, ha]
  simp [bools, ha, this]
theorem fv_set {F : List Bool} {i : Nat} (x : Bool) (h : i < F.length) (c : Int) : fv (F.set i x) c = if c.toNat = i then x else fv F c := by
  unfold fv
  rw [List.getD_eq_getElem?_getD, List.getD_eq_getElem?_getD, List.getElem?_set]
  by_cases he : i = c.toNat
  · simp [he, he ▸ h]
  · simp [he, Ne.symm he]
@[reducible] def gfree (f : Bool) : Int := if f = true then 0 else 1
def freeN (F : List Bool) : Int := sumBy gfree F
theorem freeN_ge (F : List Bool) : 0 ≤ freeN F := by
  have := sumBy_bound gfree 1 F fun y _ => by simp only [gfree]; split <;> omega
  unfold freeN; omega
theorem freeN_set {F : List Bool} {i : Nat} (h : F[i]? = some false) : freeN (F.set i true) = freeN F - 1 := by
  rw [freeN, sumBy_set gfree true h, freeN]
  simp [gfree]
theorem tv_extB {b : Blz} {T U : List Int} (h1 : T.length = b.t.burn.length) (h2 : U.length = b.t.burn.length) (h : ∀ c, IsCell b.t c → tv T c = tv U c) : T = U := List.ext_getElem? fun j => by
  by_cases hj : j < b.t.burn.length
  · have e1 := tv_at (T := T) (c := (j : Int)) (by rw [Int.toNat_natCast, h1]; exact hj)
    have e2 := tv_at (T := U) (c := (j : Int)) (by rw [Int.toNat_natCast, h2]; exact hj)
    rw [Int.toNat_natCast] at e1 e2
    rw [e1, e2, h j ⟨by omega, by omega⟩]
  · rw [List.getElem?_eq_none aO, List.getElem?_eq_none aO]
structure Fix (b : Blz) (T : List Int) (F : List Bool) : Prop where
  len : F.length = b.t.burn.length
  fin : ∀ a, IsCell b.t a → fv F a = true → tv T a ≠ -1 ∧ Clsd b T a
  ord : ∀ a c, IsCell b.t a → IsCell b.t c → fv F a = true → fv F c = false → tv T c ≠ -1 → tv T a ≤ tv T c
def BestOf (T : List Int) (F : List Bool) (i : Nat) (m : Int) : Prop :=
  (m = -1 ∧ ∀ c : Nat, c < i → fv F c = true ∨ tv T c = -1) ∨
  (0 ≤ m ∧ m < i ∧ fv F m = false ∧ tv T m ≠ -1 ∧ ∀ c : Nat, c < i → fv F c = false → tv T c ≠ -1 → tv T m ≤ tv T c)
theorem best_same {T : List Int} {F : List Bool} {i : Nat} {m : Int} (h : BestOf T F i m) (hi : fv F i = true ∨ tv T i = -1 ∨ (0 ≤ m ∧ tv T m ≤ tv T i)) : BestOf T F (i + 1) m := by
  rcases h with ⟨h1, h2⟩ | ⟨h1, h2, h3, h4, h5⟩
  · refine .inl ⟨h1, fun c hc => ?_⟩
    rcases Nat.lt_or_ge c i with h | h
    · exact h2 c h
    · have : c = i := by omega
      subst this
      rcases hi with hi | hi | hi
      · exact .inl hi
      · exact .inr hi
      · omega
  · refine .inr ⟨h1, by omega, h3, h4, fun c hc hf hn => ?_⟩
    rcases Nat.lt_or_ge c i with h | h
    · exact h5 c h hf hn
    · have : c = i := by omega
      subst this
      rcases hi with hi | hi | hi
      · rw [hi] at hf; cases hf
      · exact absurd hi hn
      · exact hi.2
theorem best_new {T : List Int} {F : List Bool} {i : Nat} {m : Int} (h : BestOf T F i m) (h1 : fv F i = false) (h2 : tv T i ≠ -1) (h3 : m < 0 ∨ tv T i < tv T m) : BestOf T F (i + 1) i := by
  refine .inr ⟨by omega, by omega, h1, h2, fun c hc hf hn => ?_⟩
  rcases Nat.lt_or_ge c i with g | g
  · rcases h with ⟨k1, k2⟩ | ⟨k1, k2, k3, k4, k5⟩
    · rcases k2 c g with k | k
      · rw [k] at hf; cases hf
      · exact absurd k hn
    · have := k5 c g hf hn
      omega
  · have : c = i := by omega
    subst this
    exact Int.le_refl _
structure Rnd (b : Blz) (T U : List Int) (F : List Bool) (a : Int) (k : Nat) : Prop where
  mid : Mid b U
  fix : ∀ c, IsCell b.t c → fv F c = true ∨ c = a → tv U c = tv T c
  low : ∀ c, IsCell b.t c → tv T c ≠ -1 → tv U c ≠ -1 ∧ tv U c ≤ tv T c
  hi : ∀ c, IsCell b.t c → fv F c = false → tv U c ≠ -1 → tv T a ≤ tv U c
  told : ∀ j, j < k → ∀ c, (nears b.t a)[j]? = some c → 0 < burnAt b.t c → tv U c ≠ -1 ∧ tv U c ≤ hop b a c (tv T a)
theorem apart_self (t : Terrain) (a : Int) : apart t a a = 0 := by simp only [apart, absI]; omega
theorem rnd_end {b : Blz} (hb : GoodB b) {T U : List Int} {F : List Bool} {a : Int} {k : Nat} (hF : Fix b T F) (hM : Mid b T) (ha : IsCell b.t a) (hf : fv F a = false) (hn : tv T a ≠ -1) (h : Rnd b T U F a k) (hk : (nears b.t a).length ≤ k) :
    Fix b U (F.set a.toNat true) := by
  have hal : a.toNat < F.length := by have := ha; unfold IsCell at this; rw [hF.len]; omega
  have hset := fv_set true hal
  have hcell : ∀ y, IsCell b.t y → (y.toNat = a.toNat ↔ y = a) := fun y hy => by
    have h1 := hy.1
    have h2 := ha.1
    omega
  have eT : tv U a = tv T a := h.fix a ha (.inr rfl)
  refine ⟨by rw [List.length_set]; exact hF.len, fun c hc hcf => ?_, fun c d hc hd hcf hdf hdn => ?_⟩
  · rw [hset] at hcf
    by_cases he : c = a
    · subst he
      rw [Clsd, eT]
      refine ⟨hn, fun _ y hy => ?_⟩
      obtain ⟨j, hj⟩ := List.getElem?_of_mem (nears_mem.2 ⟨hy.2.1, hy.2.2.1⟩)
      exact h.told j (by have := get_lt hj; omega) y hj hy.2.2.2
    · rw [if_neg (fun e => he ((hcell c hc).1 e))] at hcf
      have e := h.fix c hc (.inl hcf)
      obtain ⟨g1, g2⟩ := hF.fin c hc hcf
      rw [Clsd, e]
      refine ⟨g1, fun _ y hy => ?_⟩
      obtain ⟨k1, k2⟩ := g2 g1 y hy
      have k3 := h.low y hy.2.1 k1
      exact ⟨k3.1, by omega⟩
  · rw [hset] at hcf hdf
    have hda : ¬ d.toNat = a.toNat := fun e => by rw [if_pos e] at hdf; cases hdf
    rw [if_neg hda] at hdf
    have h1 := h.hi d hd hdf hdn
    by_cases he : c = a
    · subst he; rw [eT]; exact h1
    · rw [if_neg (fun e => he ((hcell c hc).1 e))] at hcf
      rw [h.fix c hc (.inl hcf)]
      have := hF.ord c a hc ha hcf hf hn
      omega
theorem rnd_skip {b : Blz} {T U : List Int} {F : List Bool} {a : Int} {k : Nat} (h : Rnd b T U F a k)
    (hs : ∀ c, (nears b.t a)[k]? = some c → 0 < burnAt b.t c → tv U c ≠ -1 ∧ tv U c ≤ hop b a c (tv T a)) : Rnd b T U F a (k + 1) :=
  ⟨h.mid, h.fix, h.low, h.hi, fun j hj c hc hb => by
    rcases Nat.lt_or_ge j k with h1 | h1
    · exact h.told j h1 c hc hb
    · have : j = k := by omega
      subst this
      exact hs c hc hb⟩
theorem rnd_set {b : Blz} (hb : GoodB b) {T U : List Int} {F : List Bool} {a c : Int} {k : Nat} (h : Rnd b T U F a k) (hc : (nears b.t a)[k]? = some c) (he : Edge b a c) (hn : tv T a ≠ -1) (hf : fv F c = false)
    (hx : tv U c = -1 ∨ hop b a c (tv T a) < tv U c) : Rnd b T (U.set c.toNat (hop b a c (tv T a))) F a (k + 1) := by
  have eT : tv U a = tv T a := h.fix a he.1 (.inr rfl)
  have hrel := (h.mid.relax hb he (by rw [eT]; exact hn) (by rw [eT]; exact hx)).1
  rw [eT] at hrel
  have hva := h.mid.ge hb he.1 (by rw [eT]; exact hn)
  rw [eT] at hva
  have hop1 := hop_bnd hb hva.1 he hva.2
  have hcl := cell_inT h.mid.pre.len he.2.1
  have hset := tv_set (hop b a c (tv T a)) hcl
  have hcell : ∀ y, IsCell b.t y → (y.toNat = c.toNat ↔ y = c) := fun y hy => by
    have h1 := hy.1
    have h2 := he.2.1.1
    omega
  have hca : c ≠ a := fun e => by
    have h1 := he.2.2.1
    rw [e, apart_self] at h1
    omega
  refine ⟨hrel, fun y hy hyf => ?_, fun y hy hyn => ?_, fun y hy hyf hyn => ?_, fun j hj y hjy hyb => ?_⟩
  · have : ¬ y.toNat = c.toNat := fun e => by
      have := (hcell y hy).1 e
      subst this
      rcases hyf with g | g
      · rw [hf] at g; cases g
      · exact hca g
    rw [hset, if_neg this]
    exact h.fix y hy hyf
  · rw [hset]
    have := h.low y hy hyn
    split
    · rename_i e
      have e2 := (hcell y hy).1 e
      subst e2
      rcases hx with hx | hx
      · exact absurd hx this.1
      · omega
    · exact this
  · rw [hset] at hyn ⊢
    split
    · omega
    · rename_i e
      rw [if_neg e] at hyn
      exact h.hi y hy hyf hyn
  · rw [hset]
    rcases Nat.lt_or_ge j k with h1 | h1
    · have := h.told j h1 y hjy hyb
      have hyc := (nears_mem.1 (get_mem hjy)).1
      split
      · rename_i e
        have e2 := (hcell y hyc).1 e
        subst e2
        exact ⟨by omega, Int.le_refl _⟩
      · exact this
    · have : j = k := by omega
      subst this
      rw [hc] at hjy
      injection hjy with hjy
      subst hjy
      rw [if_pos rfl]
      exact ⟨by omega, Int.le_refl _⟩
theorem fix_ini {b : Blz} {T : List Int} : Fix b T (List.replicate b.t.burn.length false) := by
  have hf : ∀ c, fv (List.replicate b.t.burn.length false) c = false := fun c => by
    unfold fv
    rw [List.getD_eq_getElem?_getD, List.getElem?_replicate]
    split <;> rfl
  exact ⟨by simp, fun a _ h => (by rw [hf] at h; cases h), fun a c _ _ h => (by rw [hf] at h; cases h)⟩
end Go.Vs
set_option linter.unusedVariables false
set_option linter.unusedSimpArgs false
set_option maxRecDepth 100000
set_option maxHeartbeats 4000000
namespace Go.Vs
open Go.Proofs
attribute [local irreducible] exec vwp thenQ blkQ loopQ RetPost
theorem k_arrivals (b : Blz) (hb : GoodB b) (hs : b.src.length ≤ 1099511627776) :
    Con Try.prog 24 [.agg b.t.pv, .list 2 (b.ps.map Phase.pv), .list 1 (ints b.src), .int .i64 b.st] (.olist 3 1 (ints (arr b))) := by
  intro al
  refine contract_of hmix Try.func24 rfl (by kernel_rfl) (by kernel_rfl) (Nat.le_of_ble_eq_true rfl) (fun row h => by cases h) ?_
  have hty_f26_2 := ty_f26_2
  have hty_c24 := ty_c24
  have hty_u24 := ty_u24
  have hty_s24 := ty_s24
  have hty_z3 := ty_z3
  have hty_s76 := ty_s76
  have hty_z4 := ty_z4
  have hty_t3 := ty_t3
  have hty_a26 := ty_a26
  have hty_c3 := ty_c3
  have hty_c4 := ty_c4
  have hty_t4 := ty_t4
  have hty_u27 := ty_u27
  have hty_s27 := ty_s27
  have hl1 : (ints b.t.burn).length = b.t.burn.length := by simp
  have hg := hb.1.1
  have hlen := goodT_len hg
  have hst := hb.2.2
  have hfil := List.length_filter_le (fun s => decide (0 < burnAt b.t s)) b.src
  have kF := k_filterIntT b.src 52 b.t (fun s => decide (0 < burnAt b.t s)) (fun s h => k_burns b.t s hg (hb.1.2.1 s h)) hs
  generalize hfl : b.src.filter (fun s => decide (0 < burnAt b.t s)) = fl at kF hfil
  have hl2 : (ints fl).length = fl.length := by simp
  repeat' (first | (refine pA (k := ?_)) | (refine g_exec ?_; first | (refine g_guard ?_; refine x_gsplit rfl rfl (fun h => ?_) (fun h => ?_) <;> (have h' := h; try simp only [sx] at h')) | (refine x_nil (hK _ _ aI ?_); clear hK K)) | (refine v_region (fun K hK => ?_)) | (refine v_condt rfl (fun h => ?_) (fun h => ?_) <;> (have h' := h; try simp only [sx] at h')))
  refine v_loopK [1, 2, 3, 4, 10, 29] [] (fun q : Nat × List (List PV) => [(9, .osl (1001, 0) 0 (ints b.t.burn).length), (30, .int .i64 q.1)]) (fun q : Nat × List (List PV) => [((1001, 0), some ⟨3, 1, q.2, false⟩)]) (fun q : Nat × List (List PV) => q.1 ≤ b.t.burn.length ∧ q.2.length = b.t.burn.length ∧ (∀ j, j < q.1 → q.2[j]? = some [PV.int .i64 (-1)]) ∧ ∀ e ∈ q.2, e.length = 1) (fun q : Nat × List (List PV) => b.t.burn.length - q.1) ((0, List.replicate (ints b.t.burn).length [.int .i64 0])) rfl rfl (fun _ => rfl) (fun _ => rfl) rfl (by refine ⟨?_, ?_, rfl, rfl⟩ <;> (repeat' (first | exact trivial | exact ⟨rfl, rfl⟩ | exact rfl | exact ⟨sub_fn, refs_fn⟩ | refine ⟨⟨rfl, rfl⟩, ?_⟩ | refine ⟨⟨sub_fn, refs_fn⟩, ?_⟩ | refine ⟨⟨rfl, fun h => Bool.noConfusion h⟩, ?_⟩ | refine ⟨⟨rfl, fun h => ?_⟩, ?_⟩ | refine ⟨rfl, ?_⟩ | refine ⟨?_, ?_⟩ | fail))) ⟨by simp, by simp, fun j hj => by simp at hj, fun e he => by rw [List.eq_of_mem_replicate he]; rfl⟩ (fun q hq => ?_)
  obtain ⟨i, es⟩ := q
  obtain ⟨hi1, hi2, hi3, hi4⟩ := hq
  simp only at hi1 hi2 hi3 hi4
  dsimp only
  rcases Nat.lt_or_ge i b.t.burn.length with hlt | hge
  · obtain ⟨e, he⟩ := get_ex (show i < es.length by omega)
    obtain ⟨e0, rfl⟩ : ∃ e0, e = [e0] := by
      have := hi4 e (get_mem he)
      match e, this with
      | [a], _ => exact ⟨a, rfl⟩
    repeat' (first | (refine pA (k := ?_)) | (refine g_exec ?_; first | (refine g_guard ?_; refine x_gsplit rfl rfl (fun h => ?_) (fun h => ?_) <;> (have h' := h; try simp only [sx] at h')) | (refine x_nil (hK _ _ aI ?_); clear hK K)) | (refine v_region (fun K hK => ?_)) | (refine v_condt rfl (fun h => ?_) (fun h => ?_) <;> (have h' := h; try simp only [sx] at h')))
    refine q_next (i + 1, es.set i [.int .i64 (-1)]) rfl (by refine ⟨?_, ?_, rfl, rfl⟩ <;> (repeat' (first | exact trivial | exact ⟨rfl, rfl⟩ | exact rfl | exact ⟨sub_fn, refs_fn⟩ | refine ⟨⟨rfl, rfl⟩, ?_⟩ | refine ⟨⟨sub_fn, refs_fn⟩, ?_⟩ | refine ⟨⟨rfl, fun h => Bool.noConfusion h⟩, ?_⟩ | refine ⟨⟨rfl, fun h => ?_⟩, ?_⟩ | refine ⟨rfl, ?_⟩ | refine ⟨?_, ?_⟩ | fail))) ⟨by simp only; omega, by simp [hi2], fun j hj => ?_, fun e he => ?_⟩ (by simp only; omega)
    · simp only at hj ⊢
      by_cases hji : j = i
      · subst hji
        rw [List.getElem?_set_self aO]
      · rw [List.getElem?_set_ne (fun e => hji e.symm)]
        exact hi3 j aO
    · rcases List.mem_or_eq_of_mem_set he with h1 | h1
      · exact hi4 e h1
      · rw [h1]; rfl
  have hes : es = ints (List.replicate b.t.burn.length (-1)) := List.ext_getElem? fun j => by
    rcases Nat.lt_or_ge j b.t.burn.length with hj | hj
    · rw [hi3 j aO]
      simp [ints, hj]
    · rw [List.getElem?_eq_none aO, List.getElem?_eq_none (by simp; omega)]
  subst hes
  repeat' (first | (refine pA (k := ?_)) | (refine g_exec ?_; first | (refine g_call ?_; refine x_callG true (kF) rfl rfl rfl aS rfl aH ?_; simp only [cl]) | (refine g_guard ?_; refine x_gsplit rfl rfl (fun h => ?_) (fun h => ?_) <;> (have h' := h; try simp only [sx] at h')) | (refine x_nil (hK _ _ aI ?_); clear hK K)) | (refine v_region (fun K hK => ?_)) | (refine v_condt rfl (fun h => ?_) (fun h => ?_) <;> (have h' := h; try simp only [sx] at h')))
  refine v_loopK [1, 3, 4, 10, 40, 41] [] (fun q : Nat × List (List PV) × List Int => [(9, .osl (1001, 0) 0 (ints b.t.burn).length), (42, .int .i64 q.1)]) (fun q : Nat × List (List PV) × List Int => [((1001, 0), some ⟨3, 1, q.2.1, false⟩)]) (fun q : Nat × List (List PV) × List Int => q.1 ≤ fl.length ∧ q.2.1 = ints q.2.2 ∧ q.2.2.length = b.t.burn.length ∧ ∀ c, IsCell b.t c → tv q.2.2 c = if c ∈ fl.take q.1 then b.st else -1) (fun q : Nat × List (List PV) × List Int => fl.length - q.1) ((0, ints (List.replicate b.t.burn.length (-1)), List.replicate b.t.burn.length (-1))) rfl rfl (fun _ => rfl) (fun _ => rfl) rfl (by refine ⟨?_, ?_, rfl, rfl⟩ <;> (repeat' (first | exact trivial | exact ⟨rfl, rfl⟩ | exact rfl | exact ⟨sub_fn, refs_fn⟩ | refine ⟨⟨rfl, rfl⟩, ?_⟩ | refine ⟨⟨sub_fn, refs_fn⟩, ?_⟩ | refine ⟨⟨rfl, fun h => Bool.noConfusion h⟩, ?_⟩ | refine ⟨⟨rfl, fun h => ?_⟩, ?_⟩ | refine ⟨rfl, ?_⟩ | refine ⟨?_, ?_⟩ | fail))) ⟨by simp, rfl, by simp, fun c hc => by unfold tv; rw [List.getD_eq_getElem?_getD, List.getElem?_replicate]; simp; split <;> rfl⟩ (fun q hq => ?_)
  obtain ⟨j, fs, T⟩ := q
  obtain ⟨hj1, hj2, hj3, hj4⟩ := hq
  simp only at hj1 hj2 hj3 hj4
  have hlf : fs.length = b.t.burn.length := by rw [hj2, ints_len, hj3]
  dsimp only
  rcases Nat.lt_or_ge j fl.length with hlt | hge2
  · obtain ⟨c, hc⟩ := get_ex hlt
    have hxc := ints_at hc
    have hcs : c ∈ b.src ∧ 0 < burnAt b.t c := by
      have := get_mem hc
      rw [← hfl, List.mem_filter] at this
      exact ⟨this.1, by simpa using this.2⟩
    have hcc := hb.1.2.1 c hcs.1
    have hcc' := hcc
    unfold IsCell at hcc'
    have hgc : fs[c.toNat]? = some [.int .i64 (tv T c)] := by rw [hj2]; exact tv_int (cell_inT (b := b) hj3 hcc)
    repeat' (first | (refine pA (k := ?_)) | (refine g_exec ?_; first | (refine g_guard ?_; refine x_gsplit rfl rfl (fun h => ?_) (fun h => ?_) <;> (have h' := h; try simp only [sx] at h')) | (refine x_nil (hK _ _ aI ?_); clear hK K)) | (refine v_region (fun K hK => ?_)) | (refine v_condt rfl (fun h => ?_) (fun h => ?_) <;> (have h' := h; try simp only [sx] at h')))
    refine q_next (j + 1, fs.set c.toNat [.int .i64 b.st], T.set c.toNat b.st) rfl (by refine ⟨?_, ?_, rfl, rfl⟩ <;> (repeat' (first | exact trivial | exact ⟨rfl, rfl⟩ | exact rfl | exact ⟨sub_fn, refs_fn⟩ | refine ⟨⟨rfl, rfl⟩, ?_⟩ | refine ⟨⟨sub_fn, refs_fn⟩, ?_⟩ | refine ⟨⟨rfl, fun h => Bool.noConfusion h⟩, ?_⟩ | refine ⟨⟨rfl, fun h => ?_⟩, ?_⟩ | refine ⟨rfl, ?_⟩ | refine ⟨?_, ?_⟩ | fail))) ⟨by simp only; omega, by simp only [ints_set, hj2], by simp [hj3], fun y hy => ?_⟩ (by simp only; omega)
    simp only [take_succ hc, List.mem_append, List.mem_singleton]
    rw [tv_set b.st (cell_inT (b := b) hj3 hcc), hj4 y hy]
    have hyc : y.toNat = c.toNat ↔ y = c := by have h1 := hy.1; have h2 := hcc.1; omega
    by_cases he : y = c
    · rw [if_pos (hyc.2 he), if_pos (.inr he)]
    · rw [if_neg (fun h => he (hyc.1 h))]
      by_cases hm : y ∈ fl.take j
      · rw [if_pos hm, if_pos (.inl hm)]
      · rw [if_neg hm, if_neg (fun h => h.elim hm he)]
  have hT : T = iniL b := tv_extB (b := b) hj3 (iniL_len b) fun c hc => by
    rw [hj4 c hc, ini_tv hc, take_all hge2, ← hfl]
    simp only [List.mem_filter, decide_eq_true_eq, and_comm]
  subst hT
  repeat' (first | (refine pA (k := ?_)) | (refine g_exec ?_; first | (refine g_guard ?_; refine x_gsplit rfl rfl (fun h => ?_) (fun h => ?_) <;> (have h' := h; try simp only [sx] at h')) | (refine x_nil (hK _ _ aI ?_); clear hK K)) | (refine v_region (fun K hK => ?_)) | (refine v_condt rfl (fun h => ?_) (fun h => ?_) <;> (have h' := h; try simp only [sx] at h')))
  refine v_loopK [1, 4] [] (fun q : List (List PV) × List (List PV) × List Int × List Bool => [(9, .osl (1001, 0) 0 (ints b.t.burn).length), (10, .osl (1002, 0) 0 (ints b.t.burn).length)]) (fun q : List (List PV) × List (List PV) × List Int × List Bool => [((1001, 0), some ⟨3, 1, q.1, false⟩), ((1002, 0), some ⟨4, 1, q.2.1, false⟩)]) (fun q : List (List PV) × List (List PV) × List Int × List Bool => q.1 = ints q.2.2.1 ∧ q.2.1 = bools q.2.2.2 ∧ Mid b q.2.2.1 ∧ Fix b q.2.2.1 q.2.2.2) (fun q : List (List PV) × List (List PV) × List Int × List Bool => (freeN q.2.2.2).toNat) ((fs, List.replicate (ints b.t.burn).length [.bool false], iniL b, List.replicate b.t.burn.length false)) rfl rfl (fun _ => rfl) (fun _ => rfl) rfl (by refine ⟨?_, ?_, rfl, rfl⟩ <;> (repeat' (first | exact trivial | exact ⟨rfl, rfl⟩ | exact rfl | exact ⟨sub_fn, refs_fn⟩ | refine ⟨⟨rfl, rfl⟩, ?_⟩ | refine ⟨⟨sub_fn, refs_fn⟩, ?_⟩ | refine ⟨⟨rfl, fun h => Bool.noConfusion h⟩, ?_⟩ | refine ⟨⟨rfl, fun h => ?_⟩, ?_⟩ | refine ⟨rfl, ?_⟩ | refine ⟨?_, ?_⟩ | fail))) ⟨hj2, by simp [bools], ini_mid hb, fix_ini⟩ (fun q hq => ?_)
  obtain ⟨us, gs, U, F⟩ := q
  obtain ⟨hq1, hq2, hM, hF⟩ := hq
  simp only at hq1 hq2 hM hF
  have hlu : us.length = b.t.burn.length := by rw [hq1, ints_len, hM.pre.len]
  have hlg : gs.length = b.t.burn.length := by rw [hq2, List.length_map, hF.len]
  dsimp only
  repeat' (first | (refine pA (k := ?_)) | (refine g_exec ?_; first | (refine g_guard ?_; refine x_gsplit rfl rfl (fun h => ?_) (fun h => ?_) <;> (have h' := h; try simp only [sx] at h')) | (refine x_nil (hK _ _ aI ?_); clear hK K)) | (refine v_region (fun K hK => ?_)) | (refine v_condt rfl (fun h => ?_) (fun h => ?_) <;> (have h' := h; try simp only [sx] at h')))
  refine v_loopK [1, 4, 9, 10, 51, 52] [] (fun r : Nat × Int => [(14, .int .i64 r.2), (53, .int .i64 r.1)]) (fun r : Nat × Int => []) (fun r : Nat × Int => r.1 ≤ b.t.burn.length ∧ BestOf U F r.1 r.2) (fun r : Nat × Int => b.t.burn.length - r.1) ((0, -1)) rfl rfl (fun _ => rfl) (fun _ => rfl) rfl (by refine ⟨?_, ?_, rfl, rfl⟩ <;> (repeat' (first | exact trivial | exact ⟨rfl, rfl⟩ | exact rfl | exact ⟨sub_fn, refs_fn⟩ | refine ⟨⟨rfl, rfl⟩, ?_⟩ | refine ⟨⟨sub_fn, refs_fn⟩, ?_⟩ | refine ⟨⟨rfl, fun h => Bool.noConfusion h⟩, ?_⟩ | refine ⟨⟨rfl, fun h => ?_⟩, ?_⟩ | refine ⟨rfl, ?_⟩ | refine ⟨?_, ?_⟩ | fail))) ⟨by simp, .inl ⟨rfl, fun c hc => by simp at hc⟩⟩ (fun r hr => ?_)
  obtain ⟨n, m⟩ := r
  obtain ⟨hn1, hn2⟩ := hr
  simp only at hn1 hn2
  dsimp only
  rcases Nat.lt_or_ge n b.t.burn.length with hlt3 | hge3
  · have hcn : IsCell b.t (n : Int) := ⟨by omega, by omega⟩
    have hun : us[n]? = some [.int .i64 (tv U n)] := by rw [hq1]; exact tv_nat (by rw [hM.pre.len]; exact hlt3)
    have hgn : gs[n]? = some [.bool (fv F n)] := by
      have := fv_at (F := F) (c := (n : Int)) (by rw [Int.toNat_natCast, hF.len]; exact hlt3)
      rw [Int.toNat_natCast] at this
      rw [hq2]; exact this
    by_cases hm0 : m < 0
    · by_cases hnew : fv F n = false ∧ tv U n ≠ -1
      · obtain ⟨hnew1, hnew2⟩ := hnew
        rw [hnew1] at hgn
        repeat' (first | (refine pA (k := ?_)) | (refine g_exec ?_; first | (refine g_guard ?_; refine x_gsplit rfl rfl (fun h => ?_) (fun h => ?_) <;> (have h' := h; try simp only [sx] at h')) | (refine x_nil (hK _ _ aI ?_); clear hK K)) | (refine v_region (fun K hK => ?_)) | (refine v_condt rfl (fun h => ?_) (fun h => ?_) <;> (have h' := h; try simp only [sx] at h')))
        all_goals first
          | (exfalso; omega)
          | (refine q_next (n + 1, (n : Int)) rfl (by refine ⟨?_, ?_, rfl, rfl⟩ <;> (repeat' (first | exact trivial | exact ⟨rfl, rfl⟩ | exact rfl | exact ⟨sub_fn, refs_fn⟩ | refine ⟨⟨rfl, rfl⟩, ?_⟩ | refine ⟨⟨sub_fn, refs_fn⟩, ?_⟩ | refine ⟨⟨rfl, fun h => Bool.noConfusion h⟩, ?_⟩ | refine ⟨⟨rfl, fun h => ?_⟩, ?_⟩ | refine ⟨rfl, ?_⟩ | refine ⟨?_, ?_⟩ | fail))) ⟨by simp only; omega, best_new hn2 hnew1 hnew2 (.inl hm0)⟩ (by simp only; omega))
      · have hold : BestOf U F (n + 1) m := best_same hn2 (by
          by_cases h1 : fv F n = true
          · exact .inl h1
          · by_cases h2 : tv U n = -1
            · exact .inr (.inl h2)
            · exact absurd ⟨by simpa using h1, h2⟩ hnew)
        cases hfn : fv F n
        · rw [hfn] at hgn
          have h2 : tv U n = -1 := Decidable.byContradiction fun h => hnew ⟨hfn, h⟩
          rw [h2] at hun
          repeat' (first | (refine pA (k := ?_)) | (refine g_exec ?_; first | (refine g_guard ?_; refine x_gsplit rfl rfl (fun h => ?_) (fun h => ?_) <;> (have h' := h; try simp only [sx] at h')) | (refine x_nil (hK _ _ aI ?_); clear hK K)) | (refine v_region (fun K hK => ?_)) | (refine v_condt rfl (fun h => ?_) (fun h => ?_) <;> (have h' := h; try simp only [sx] at h')))
          all_goals first
            | (exfalso; omega)
            | (refine q_next (n + 1, m) rfl (by refine ⟨?_, ?_, rfl, rfl⟩ <;> (repeat' (first | exact trivial | exact ⟨rfl, rfl⟩ | exact rfl | exact ⟨sub_fn, refs_fn⟩ | refine ⟨⟨rfl, rfl⟩, ?_⟩ | refine ⟨⟨sub_fn, refs_fn⟩, ?_⟩ | refine ⟨⟨rfl, fun h => Bool.noConfusion h⟩, ?_⟩ | refine ⟨⟨rfl, fun h => ?_⟩, ?_⟩ | refine ⟨rfl, ?_⟩ | refine ⟨?_, ?_⟩ | fail))) ⟨by simp only; omega, hold⟩ (by simp only; omega))
        · rw [hfn] at hgn
          repeat' (first | (refine pA (k := ?_)) | (refine g_exec ?_; first | (refine g_guard ?_; refine x_gsplit rfl rfl (fun h => ?_) (fun h => ?_) <;> (have h' := h; try simp only [sx] at h')) | (refine x_nil (hK _ _ aI ?_); clear hK K)) | (refine v_region (fun K hK => ?_)) | (refine v_condt rfl (fun h => ?_) (fun h => ?_) <;> (have h' := h; try simp only [sx] at h')))
          all_goals first
            | (exfalso; omega)
            | (refine q_next (n + 1, m) rfl (by refine ⟨?_, ?_, rfl, rfl⟩ <;> (repeat' (first | exact trivial | exact ⟨rfl, rfl⟩ | exact rfl | exact ⟨sub_fn, refs_fn⟩ | refine ⟨⟨rfl, rfl⟩, ?_⟩ | refine ⟨⟨sub_fn, refs_fn⟩, ?_⟩ | refine ⟨⟨rfl, fun h => Bool.noConfusion h⟩, ?_⟩ | refine ⟨⟨rfl, fun h => ?_⟩, ?_⟩ | refine ⟨rfl, ?_⟩ | refine ⟨?_, ?_⟩ | fail))) ⟨by simp only; omega, hold⟩ (by simp only; omega))
    · have hmc : IsCell b.t m := by
        rcases hn2 with ⟨h1, _⟩ | ⟨h1, h2, _⟩
        · omega
        · exact ⟨h1, by omega⟩
      have hmc' := hmc
      unfold IsCell at hmc'
      have hum : us[m.toNat]? = some [.int .i64 (tv U m)] := by rw [hq1]; exact tv_int (cell_inT hM.pre.len hmc)
      by_cases hnew : fv F n = false ∧ tv U n ≠ -1 ∧ tv U n < tv U m
      · obtain ⟨hnew1, hnew2, hnew3⟩ := hnew
        rw [hnew1] at hgn
        repeat' (first | (refine pA (k := ?_)) | (refine g_exec ?_; first | (refine g_guard ?_; refine x_gsplit rfl rfl (fun h => ?_) (fun h => ?_) <;> (have h' := h; try simp only [sx] at h')) | (refine x_nil (hK _ _ aI ?_); clear hK K)) | (refine v_region (fun K hK => ?_)) | (refine v_condt rfl (fun h => ?_) (fun h => ?_) <;> (have h' := h; try simp only [sx] at h')))
        all_goals first
          | (exfalso; omega)
          | (refine q_next (n + 1, (n : Int)) rfl (by refine ⟨?_, ?_, rfl, rfl⟩ <;> (repeat' (first | exact trivial | exact ⟨rfl, rfl⟩ | exact rfl | exact ⟨sub_fn, refs_fn⟩ | refine ⟨⟨rfl, rfl⟩, ?_⟩ | refine ⟨⟨sub_fn, refs_fn⟩, ?_⟩ | refine ⟨⟨rfl, fun h => Bool.noConfusion h⟩, ?_⟩ | refine ⟨⟨rfl, fun h => ?_⟩, ?_⟩ | refine ⟨rfl, ?_⟩ | refine ⟨?_, ?_⟩ | fail))) ⟨by simp only; omega, best_new hn2 hnew1 hnew2 (.inr hnew3)⟩ (by simp only; omega))
      · have hold : BestOf U F (n + 1) m := best_same hn2 (by
          by_cases h1 : fv F n = true
          · exact .inl h1
          · by_cases h2 : tv U n = -1
            · exact .inr (.inl h2)
            · refine .inr (.inr ⟨by omega, ?_⟩)
              have : ¬ tv U n < tv U m := fun h => hnew ⟨by simpa using h1, h2, h⟩
              omega)
        cases hfn : fv F n
        · rw [hfn] at hgn
          by_cases h2 : tv U n = -1
          · repeat' (first | (refine pA (k := ?_)) | (refine g_exec ?_; first | (refine g_guard ?_; refine x_gsplit rfl rfl (fun h => ?_) (fun h => ?_) <;> (have h' := h; try simp only [sx] at h')) | (refine x_nil (hK _ _ aI ?_); clear hK K)) | (refine v_region (fun K hK => ?_)) | (refine v_condt rfl (fun h => ?_) (fun h => ?_) <;> (have h' := h; try simp only [sx] at h')))
            all_goals first
              | (exfalso; omega)
              | (refine q_next (n + 1, m) rfl (by refine ⟨?_, ?_, rfl, rfl⟩ <;> (repeat' (first | exact trivial | exact ⟨rfl, rfl⟩ | exact rfl | exact ⟨sub_fn, refs_fn⟩ | refine ⟨⟨rfl, rfl⟩, ?_⟩ | refine ⟨⟨sub_fn, refs_fn⟩, ?_⟩ | refine ⟨⟨rfl, fun h => Bool.noConfusion h⟩, ?_⟩ | refine ⟨⟨rfl, fun h => ?_⟩, ?_⟩ | refine ⟨rfl, ?_⟩ | refine ⟨?_, ?_⟩ | fail))) ⟨by simp only; omega, hold⟩ (by simp only; omega))
          · have h3 : ¬ tv U n < tv U m := fun h => hnew ⟨hfn, h2, h⟩
            repeat' (first | (refine pA (k := ?_)) | (refine g_exec ?_; first | (refine g_guard ?_; refine x_gsplit rfl rfl (fun h => ?_) (fun h => ?_) <;> (have h' := h; try simp only [sx] at h')) | (refine x_nil (hK _ _ aI ?_); clear hK K)) | (refine v_region (fun K hK => ?_)) | (refine v_condt rfl (fun h => ?_) (fun h => ?_) <;> (have h' := h; try simp only [sx] at h')))
            all_goals first
              | (exfalso; omega)
              | (refine q_next (n + 1, m) rfl (by refine ⟨?_, ?_, rfl, rfl⟩ <;> (repeat' (first | exact trivial | exact ⟨rfl, rfl⟩ | exact rfl | exact ⟨sub_fn, refs_fn⟩ | refine ⟨⟨rfl, rfl⟩, ?_⟩ | refine ⟨⟨sub_fn, refs_fn⟩, ?_⟩ | refine ⟨⟨rfl, fun h => Bool.noConfusion h⟩, ?_⟩ | refine ⟨⟨rfl, fun h => ?_⟩, ?_⟩ | refine ⟨rfl, ?_⟩ | refine ⟨?_, ?_⟩ | fail))) ⟨by simp only; omega, hold⟩ (by simp only; omega))
        · rw [hfn] at hgn
          repeat' (first | (refine pA (k := ?_)) | (refine g_exec ?_; first | (refine g_guard ?_; refine x_gsplit rfl rfl (fun h => ?_) (fun h => ?_) <;> (have h' := h; try simp only [sx] at h')) | (refine x_nil (hK _ _ aI ?_); clear hK K)) | (refine v_region (fun K hK => ?_)) | (refine v_condt rfl (fun h => ?_) (fun h => ?_) <;> (have h' := h; try simp only [sx] at h')))
          all_goals first
            | (exfalso; omega)
            | (refine q_next (n + 1, m) rfl (by refine ⟨?_, ?_, rfl, rfl⟩ <;> (repeat' (first | exact trivial | exact ⟨rfl, rfl⟩ | exact rfl | exact ⟨sub_fn, refs_fn⟩ | refine ⟨⟨rfl, rfl⟩, ?_⟩ | refine ⟨⟨sub_fn, refs_fn⟩, ?_⟩ | refine ⟨⟨rfl, fun h => Bool.noConfusion h⟩, ?_⟩ | refine ⟨⟨rfl, fun h => ?_⟩, ?_⟩ | refine ⟨rfl, ?_⟩ | refine ⟨?_, ?_⟩ | fail))) ⟨by simp only; omega, hold⟩ (by simp only; omega))
  have hnn : n = b.t.burn.length := by omega
  subst hnn
  rcases hn2 with ⟨hm1, hm2⟩ | ⟨hm1, hm2, hm3, hm4, hm5⟩
  · repeat' (first | (refine pA (k := ?_)) | (refine g_exec ?_; first | (refine g_guard ?_; refine x_gsplit rfl rfl (fun h => ?_) (fun h => ?_) <;> (have h' := h; try simp only [sx] at h')) | (refine x_nil (hK _ _ aI ?_); clear hK K)) | (refine v_region (fun K hK => ?_)) | (refine v_condt rfl (fun h => ?_) (fun h => ?_) <;> (have h' := h; try simp only [sx] at h')))
    all_goals try (exfalso; omega)
    have hA : IsArr b U := ⟨hM.pre, fun a ha => by
      have h5 := ha; unfold IsCell at h5
      have h6 := hm2 a.toNat aO
      rw [show ((a.toNat : Nat) : Int) = a by omega] at h6
      rcases h6 with h6 | h6
      · exact (hF.fin a ha h6).2
      · exact fun h => absurd h6 h⟩
    exact ret_list rfl (lookE_ok (by rfl)) (by rfl) (by decide) aO (by rw [hq1]; exact ints_flat _) (by rw [hq1, arr_eq hb hA])
  have hmc : IsCell b.t m := ⟨hm1, by omega⟩
  have hgm : gs[m.toNat]? = some [.bool (fv F m)] := by rw [hq2]; exact fv_at (by rw [hF.len]; omega)
  have hum : us[m.toNat]? = some [.int .i64 (tv U m)] := by rw [hq1]; exact tv_int (cell_inT hM.pre.len hmc)
  have hva := hM.ge hb hmc hm4
  have hvm := hM.le hb hmc
  have hnl := nears_len b.t m
  have ln : (ints (nears b.t m)).length = (nears b.t m).length := by simp
  have hlow : ∀ c, IsCell b.t c → fv F c = false → tv U c ≠ -1 → tv U m ≤ tv U c := fun c hc h1 h2 => by
    have h5 := hc; unfold IsCell at h5
    have := hm5 c.toNat aO
    rw [show ((c.toNat : Nat) : Int) = c by omega] at this
    exact this h1 h2
  repeat' (first | (refine pA (k := ?_)) | (refine g_exec ?_; first | (refine g_call ?_; refine x_callG true (k_neighbors b.t m hg hmc) rfl rfl rfl aS rfl aH ?_; simp only [cl]) | (refine g_guard ?_; refine x_gsplit rfl rfl (fun h => ?_) (fun h => ?_) <;> (have h' := h; try simp only [sx] at h')) | (refine x_nil (hK _ _ aI ?_); clear hK K)) | (refine v_region (fun K hK => ?_)) | (refine v_condt rfl (fun h => ?_) (fun h => ?_) <;> (have h' := h; try simp only [sx] at h')))
  all_goals try (exfalso; omega)
  refine v_loopK [1, 4, 10, 14, 89, 90] [] (fun s : Nat × List (List PV) × List Int => [(9, .osl (1001, 0) 0 (ints b.t.burn).length), (91, .int .i64 s.1)]) (fun s : Nat × List (List PV) × List Int => [((1001, 0), some ⟨3, 1, s.2.1, false⟩)]) (fun s : Nat × List (List PV) × List Int => s.1 ≤ (nears b.t m).length ∧ s.2.1 = ints s.2.2 ∧ Rnd b U s.2.2 F m s.1) (fun s : Nat × List (List PV) × List Int => (nears b.t m).length - s.1) ((0, us, U)) rfl rfl (fun _ => rfl) (fun _ => rfl) rfl (by refine ⟨?_, ?_, rfl, rfl⟩ <;> (repeat' (first | exact trivial | exact ⟨rfl, rfl⟩ | exact rfl | exact ⟨sub_fn, refs_fn⟩ | refine ⟨⟨rfl, rfl⟩, ?_⟩ | refine ⟨⟨sub_fn, refs_fn⟩, ?_⟩ | refine ⟨⟨rfl, fun h => Bool.noConfusion h⟩, ?_⟩ | refine ⟨⟨rfl, fun h => ?_⟩, ?_⟩ | refine ⟨rfl, ?_⟩ | refine ⟨?_, ?_⟩ | fail))) ⟨by simp, hq1, ⟨hM, fun c _ _ => rfl, fun c _ h => ⟨h, Int.le_refl _⟩, hlow, fun j hj => by simp at hj⟩⟩ (fun s hs => ?_)
  obtain ⟨k, vs, V⟩ := s
  obtain ⟨hs1, hs2, hs3⟩ := hs
  simp only at hs1 hs2 hs3
  have hlv : vs.length = b.t.burn.length := by rw [hs2, ints_len, hs3.mid.pre.len]
  dsimp only
  rcases Nat.lt_or_ge k (nears b.t m).length with hkt | hkg
  · obtain ⟨c, hc⟩ := get_ex hkt
    have hxc := ints_at hc
    have hnc := nears_mem.1 (get_mem hc)
    have hcc := hnc.1
    unfold IsCell at hcc
    have hbb := burn_bound hg hnc.1
    have hca : c ≠ m := fun e => by
      have h1 := hnc.2
      rw [e, apart_self] at h1
      omega
    have hvc : vs[c.toNat]? = some [.int .i64 (tv V c)] := by rw [hs2]; exact tv_int (cell_inT hs3.mid.pre.len hnc.1)
    have eVm : tv V m = tv U m := hs3.fix m hmc (.inr rfl)
    have hvm2 : vs[m.toNat]? = some [.int .i64 (tv U m)] := by rw [← eVm, hs2]; exact tv_int (cell_inT hs3.mid.pre.len hmc)
    have hgc : (gs.set m.toNat [.bool true])[c.toNat]? = some [.bool (fv F c)] := by
      rw [List.getElem?_set_ne aO, hq2]
      exact fv_at (by rw [hF.len]; omega)
    have kB := k_burns b.t c hg hnc.1
    by_cases hb0 : 0 < burnAt b.t c
    · rw [decide_eq_true hb0] at kB
      have he : Edge b m c := ⟨hmc, hnc.1, hnc.2, hb0⟩
      have hwk := wk_bnd hb hmc hnc.1
      have hop1 := hop_bnd hb hva.1 he hva.2
      have hvcb := hs3.mid.le hb hnc.1
      cases hfc : fv F c
      · rw [hfc] at hgc
        have kW := k_work b.t m c hg hmc hnc.1
        have kD : Con Try.prog 54 [.list 2 (b.ps.map Phase.pv), .int .i64 (tv U m), .int .i64 (wkF b.t m c)] (.int .i64 (hop b m c (tv U m))) := k_done b.ps (tv U m) (wkF b.t m c) hb.2.1 aO aO
        by_cases hx : tv V c = -1 ∨ hop b m c (tv U m) < tv V c
        · have hR := rnd_set hb hs3 hc he hm4 hfc hx
          generalize hxx : hop b m c (tv U m) = x at *
          generalize hww : wkF b.t m c = wk at *
          repeat' (first | (refine pA (k := ?_)) | (refine g_exec ?_; first | (refine g_call ?_; first | (refine x_callG true (kB) rfl rfl rfl aS rfl aH ?_; simp only [cl]) | (refine x_callG true (kW) rfl rfl rfl aS rfl aH ?_; simp only [cl]) | (refine x_callG true (kD) rfl rfl rfl aS rfl aH ?_; simp only [cl])) | (refine g_guard ?_; refine x_gsplit rfl rfl (fun h => ?_) (fun h => ?_) <;> (have h' := h; try simp only [sx] at h')) | (refine x_nil (hK _ _ aI ?_); clear hK K)) | (refine v_region (fun K hK => ?_)) | (refine v_condt rfl (fun h => ?_) (fun h => ?_) <;> (have h' := h; try simp only [sx] at h')))
          all_goals first
            | (exfalso; omega)
            | (refine q_next (k + 1, vs.set c.toNat [.int .i64 x], V.set c.toNat x) rfl (by refine ⟨?_, ?_, rfl, rfl⟩ <;> (repeat' (first | exact trivial | exact ⟨rfl, rfl⟩ | exact rfl | exact ⟨sub_fn, refs_fn⟩ | refine ⟨⟨rfl, rfl⟩, ?_⟩ | refine ⟨⟨sub_fn, refs_fn⟩, ?_⟩ | refine ⟨⟨rfl, fun h => Bool.noConfusion h⟩, ?_⟩ | refine ⟨⟨rfl, fun h => ?_⟩, ?_⟩ | refine ⟨rfl, ?_⟩ | refine ⟨?_, ?_⟩ | fail))) ⟨by simp only; omega, by simp only [ints_set, hs2], hR⟩ (by simp only; omega))
        · have hR := rnd_skip hs3 (fun c' hc' _ => by
            rw [hc] at hc'
            injection hc' with hc'
            subst hc'
            omega)
          generalize hxx : hop b m c (tv U m) = x at *
          generalize hww : wkF b.t m c = wk at *
          repeat' (first | (refine pA (k := ?_)) | (refine g_exec ?_; first | (refine g_call ?_; first | (refine x_callG true (kB) rfl rfl rfl aS rfl aH ?_; simp only [cl]) | (refine x_callG true (kW) rfl rfl rfl aS rfl aH ?_; simp only [cl]) | (refine x_callG true (kD) rfl rfl rfl aS rfl aH ?_; simp only [cl])) | (refine g_guard ?_; refine x_gsplit rfl rfl (fun h => ?_) (fun h => ?_) <;> (have h' := h; try simp only [sx] at h')) | (refine x_nil (hK _ _ aI ?_); clear hK K)) | (refine v_region (fun K hK => ?_)) | (refine v_condt rfl (fun h => ?_) (fun h => ?_) <;> (have h' := h; try simp only [sx] at h')))
          all_goals first
            | (exfalso; omega)
            | (refine q_next (k + 1, vs, V) rfl (by refine ⟨?_, ?_, rfl, rfl⟩ <;> (repeat' (first | exact trivial | exact ⟨rfl, rfl⟩ | exact rfl | exact ⟨sub_fn, refs_fn⟩ | refine ⟨⟨rfl, rfl⟩, ?_⟩ | refine ⟨⟨sub_fn, refs_fn⟩, ?_⟩ | refine ⟨⟨rfl, fun h => Bool.noConfusion h⟩, ?_⟩ | refine ⟨⟨rfl, fun h => ?_⟩, ?_⟩ | refine ⟨rfl, ?_⟩ | refine ⟨?_, ?_⟩ | fail))) ⟨by simp only; omega, hs2, hR⟩ (by simp only; omega))
      · rw [hfc] at hgc
        have hR := rnd_skip hs3 (fun c' hc' _ => by
          rw [hc] at hc'
          injection hc' with hc'
          subst hc'
          have h1 := hF.fin c hnc.1 hfc
          have h2 := hF.ord c m hnc.1 hmc hfc hm3 hm4
          rw [hs3.fix c hnc.1 (.inl hfc)]
          exact ⟨h1.1, by omega⟩)
        repeat' (first | (refine pA (k := ?_)) | (refine g_exec ?_; first | (refine g_call ?_; refine x_callG true (kB) rfl rfl rfl aS rfl aH ?_; simp only [cl]) | (refine g_guard ?_; refine x_gsplit rfl rfl (fun h => ?_) (fun h => ?_) <;> (have h' := h; try simp only [sx] at h')) | (refine x_nil (hK _ _ aI ?_); clear hK K)) | (refine v_region (fun K hK => ?_)) | (refine v_condt rfl (fun h => ?_) (fun h => ?_) <;> (have h' := h; try simp only [sx] at h')))
        all_goals first
          | (exfalso; omega)
          | (refine q_next (k + 1, vs, V) rfl (by refine ⟨?_, ?_, rfl, rfl⟩ <;> (repeat' (first | exact trivial | exact ⟨rfl, rfl⟩ | exact rfl | exact ⟨sub_fn, refs_fn⟩ | refine ⟨⟨rfl, rfl⟩, ?_⟩ | refine ⟨⟨sub_fn, refs_fn⟩, ?_⟩ | refine ⟨⟨rfl, fun h => Bool.noConfusion h⟩, ?_⟩ | refine ⟨⟨rfl, fun h => ?_⟩, ?_⟩ | refine ⟨rfl, ?_⟩ | refine ⟨?_, ?_⟩ | fail))) ⟨by simp only; omega, hs2, hR⟩ (by simp only; omega))
    · rw [decide_eq_false hb0] at kB
      have hR := rnd_skip hs3 (fun c' hc' hb' => by
        rw [hc] at hc'
        injection hc' with hc'
        subst hc'
        exact absurd hb' hb0)
      repeat' (first | (refine pA (k := ?_)) | (refine g_exec ?_; first | (refine g_call ?_; refine x_callG true (kB) rfl rfl rfl aS rfl aH ?_; simp only [cl]) | (refine g_guard ?_; refine x_gsplit rfl rfl (fun h => ?_) (fun h => ?_) <;> (have h' := h; try simp only [sx] at h')) | (refine x_nil (hK _ _ aI ?_); clear hK K)) | (refine v_region (fun K hK => ?_)) | (refine v_condt rfl (fun h => ?_) (fun h => ?_) <;> (have h' := h; try simp only [sx] at h')))
      all_goals first
        | (exfalso; omega)
        | (refine q_next (k + 1, vs, V) rfl (by refine ⟨?_, ?_, rfl, rfl⟩ <;> (repeat' (first | exact trivial | exact ⟨rfl, rfl⟩ | exact rfl | exact ⟨sub_fn, refs_fn⟩ | refine ⟨⟨rfl, rfl⟩, ?_⟩ | refine ⟨⟨sub_fn, refs_fn⟩, ?_⟩ | refine ⟨⟨rfl, fun h => Bool.noConfusion h⟩, ?_⟩ | refine ⟨⟨rfl, fun h => ?_⟩, ?_⟩ | refine ⟨rfl, ?_⟩ | refine ⟨?_, ?_⟩ | fail))) ⟨by simp only; omega, hs2, hR⟩ (by simp only; omega))
  · have hE := rnd_end hb hF hM hmc hm3 hm4 hs3 hkg
    repeat' (first | (refine pA (k := ?_)) | (refine g_exec ?_; first | (refine g_guard ?_; refine x_gsplit rfl rfl (fun h => ?_) (fun h => ?_) <;> (have h' := h; try simp only [sx] at h')) | (refine x_nil (hK _ _ aI ?_); clear hK K)) | (refine v_region (fun K hK => ?_)) | (refine v_condt rfl (fun h => ?_) (fun h => ?_) <;> (have h' := h; try simp only [sx] at h')))
    refine q_next (vs, gs.set m.toNat [.bool true], V, F.set m.toNat true) rfl (by refine ⟨?_, ?_, rfl, rfl⟩ <;> (repeat' (first | exact trivial | exact ⟨rfl, rfl⟩ | exact rfl | exact ⟨sub_fn, refs_fn⟩ | refine ⟨⟨rfl, rfl⟩, ?_⟩ | refine ⟨⟨sub_fn, refs_fn⟩, ?_⟩ | refine ⟨⟨rfl, fun h => Bool.noConfusion h⟩, ?_⟩ | refine ⟨⟨rfl, fun h => ?_⟩, ?_⟩ | refine ⟨rfl, ?_⟩ | refine ⟨?_, ?_⟩ | fail))) ⟨hs2, by simp only [bools_set, hq2], hs3.mid, hE⟩ ?_
    simp only
    have hfm : F[m.toNat]? = some false := by
      obtain ⟨x, hx⟩ := get_ex (show m.toNat < F.length by rw [hF.len]; omega)
      have : fv F m = x := by simp [fv, List.getD_eq_getElem?_getD, hx]
      rw [hx, ← this, hm3]
    have h1 := freeN_set hfm
    have h2 := freeN_ge (F.set m.toNat true)
    omega
end Go.Vs
set_option linter.unusedVariables false
set_option linter.unusedSimpArgs false
set_option maxRecDepth 100000
set_option maxHeartbeats 4000000
namespace Go.Vs
open Go.Proofs
attribute [local irreducible] exec vwp thenQ blkQ loopQ RetPost
theorem k_l2Cell (t : Terrain) (c : Int) (hn : t.burn.length ≤ 1099511627776) : Con Try.prog 67 [.agg t.pv, .int .i64 c] (.bool (decide (GoodT t ∧ IsCell t c))) := by
  intro al
  refine contract_of hmix Try.func67 rfl (by kernel_rfl) (by kernel_rfl) (Nat.le_of_ble_eq_true rfl) (fun row h => by cases h) ?_
  have hty_a26 := ty_a26
  have hty_f26_2 := ty_f26_2
  have hty_c24 := ty_c24
  have hty_u24 := ty_u24
  have hty_s24 := ty_s24
  have hl1 : (ints t.burn).length = t.burn.length := by simp
  repeat' (first | (refine pA (k := ?_)) | (refine g_exec ?_; first | (refine g_call ?_; first | (refine x_callG true (k_l2Good t hn) rfl rfl rfl aS rfl aH ?_; simp only [cl]) | (refine x_callG true (k_l1In _ _ _) rfl rfl rfl aS rfl aH ?_; simp only [cl])) | (refine g_guard ?_; refine x_gsplit rfl rfl (fun h => ?_) (fun h => ?_) <;> (have h' := h; try simp only [sx] at h')) | (refine x_nil (hK _ _ aI ?_); clear hK K)) | (refine v_region (fun K hK => ?_)))
  all_goals ((refine ret_bool rfl (lookE_ok rfl) ?_; rw [Bool.eq_iff_iff]; try simp only [sx] at *); simp only [IsCell]; constructor <;> intro hq <;> first | contradiction | (exact ⟨by assumption, by omega⟩) | omega | (exact absurd hq.1 aA))
end Go.Vs
set_option linter.unusedVariables false
set_option linter.unusedSimpArgs false
set_option maxRecDepth 100000
set_option maxHeartbeats 4000000
namespace Go.Vs
open Go.Proofs
attribute [local irreducible] exec vwp thenQ blkQ loopQ RetPost
noncomputable section
theorem arr_ok {b : Blz} (hb : GoodB b) : Mid b (arr b) ∧ IsArr b (arr b) := by
  obtain ⟨n, ⟨T, hT, hn⟩, hmin⟩ := exists_least (fun n => ∃ T, Mid b T ∧ (valF T).toNat = n) ⟨_, _, ini_mid hb, rfl⟩
  have hA : IsArr b T := by
    refine ⟨hT.pre, fun a ha hne c he => ?_⟩
    refine Decidable.byContradiction fun hc => ?_
    have hr := hT.relax hb he hne aO
    have h1 := hmin (valF (T.set c.toNat (hop b a c (tv T a)))).toNat (show ∃ T', Mid b T' ∧ (valF T').toNat = (valF (T.set c.toNat (hop b a c (tv T a)))).toNat from ⟨_, hr.1, rfl⟩)
    have h2 := hr.1.val hb
    have h3 := hr.2
    omega
  have := arr_eq hb hA
  subst this
  exact ⟨hT, hA⟩
structure SzB (b : Blz) : Prop where
  (hn : b.t.burn.length ≤ 1099511627776) (hp : b.ps.length ≤ 1099511627776) (hs : b.src.length ≤ 1099511627776)
theorem k_l4Asked (b : Blz) (z : SzB b) : Con Try.prog 26 [.agg b.t.pv, .list 2 (b.ps.map Phase.pv), .list 1 (ints b.src), .int .i64 b.st] (.bool (decide (GoodB b))) := by
  intro al
  refine contract_of hmix Try.func26 rfl (by kernel_rfl) (by kernel_rfl) (Nat.le_of_ble_eq_true rfl) (fun row h => by cases h) ?_
  have hty_a26 := ty_a26
  have hty_u24 := ty_u24
  have hty_s24 := ty_s24
  have hty_u27 := ty_u27
  have hty_s27 := ty_s27
  have kS : Con Try.prog 27 [.agg b.t.pv, .list 1 (ints b.src)] (.bool (decide (GoodT b.t ∧ (∀ s ∈ b.src, IsCell b.t s) ∧ Rising b.src))) := k_l2Set b.t b.src z.hn z.hs
  repeat' (first | (refine pA (k := ?_)) | (refine g_exec ?_; first | (refine g_call ?_; first | (refine x_callG true (kS) rfl rfl rfl aS rfl aH ?_; simp only [cl]) | (refine x_callG true (k_l4Phases b.ps z.hp) rfl rfl rfl aS rfl aH ?_; simp only [cl]) | (refine x_callG true (k_l1In _ _ _) rfl rfl rfl aS rfl aH ?_; simp only [cl])) | (refine g_guard ?_; refine x_gsplit rfl rfl (fun h => ?_) (fun h => ?_) <;> (have h' := h; try simp only [sx] at h')) | (refine x_nil (hK _ _ aI ?_); clear hK K)) | (refine v_region (fun K hK => ?_)))
  all_goals ((refine ret_bool rfl (lookE_ok rfl) ?_; rw [Bool.eq_iff_iff]; try simp only [sx] at *); unfold GoodB; constructor <;> intro hq <;> first | contradiction | (exact ⟨by assumption, by assumption, by omega⟩) | (exact absurd hq.1 aA) | (exact absurd hq.2.1 aA) | (have := hq.2.2; omega))
theorem k_isSet (t : Terrain) (xs : List Int) (hn : t.burn.length ≤ 1099511627776) (hm : xs.length ≤ 1099511627776) : Con Try.prog 23 [.agg t.pv, .list 1 (ints xs)] (.bool (decide ((∀ s ∈ xs, IsCell t s) ∧ Rising xs))) := by
  intro al
  refine contract_of hmix Try.func23 rfl (by kernel_rfl) (by kernel_rfl) (Nat.le_of_ble_eq_true rfl) (fun row h => by cases h) ?_
  have hty_u24 := ty_u24
  have hty_s24 := ty_s24
  have hty_a26 := ty_a26
  have hall : (xs.all fun c => decide (0 ≤ c ∧ c < t.burn.length)) = true ↔ ∀ s ∈ xs, IsCell t s := by simp [IsCell]
  repeat' (first | (refine pA (k := ?_)) | (refine g_exec ?_; first | (refine g_call ?_; first | (refine x_callG true (k_isRising xs hm) rfl rfl rfl aS rfl aH ?_; simp only [cl]) | (refine x_callG true (k_allIntT xs 50 t (fun c => decide (0 ≤ c ∧ c < t.burn.length)) (fun c _ => k_isCell t c hn) hm) rfl rfl rfl aS rfl aH ?_; simp only [cl])) | (refine g_guard ?_; refine x_gsplit rfl rfl (fun h => ?_) (fun h => ?_) <;> (have h' := h; try simp only [sx] at h')) | (refine x_nil (hK _ _ aI ?_); clear hK K)) | (refine v_region (fun K hK => ?_)))
  all_goals
    (refine ret_bool rfl (lookE_ok rfl) ?_; rw [Bool.eq_iff_iff]; try simp only [sx] at *)
    first
      | (constructor
         · intro hq; exact ⟨hall.1 hq, by assumption⟩
         · intro hq; exact hall.2 hq.1)
      | (constructor <;> intro hq <;> first | contradiction | (exact absurd hq.2 aA))
theorem k_isFire (b : Blz) (z : SzB b) : Con Try.prog 22 [.agg b.t.pv, .list 2 (b.ps.map Phase.pv), .list 1 (ints b.src), .int .i64 b.st] (.bool (decide (GoodB b))) := by
  intro al
  refine contract_of hmix Try.func22 rfl (by kernel_rfl) (by kernel_rfl) (Nat.le_of_ble_eq_true rfl) (fun row h => by cases h) ?_
  have hty_a26 := ty_a26
  have hty_u27 := ty_u27
  have hty_s27 := ty_s27
  have hty_u24 := ty_u24
  have hty_s24 := ty_s24
  repeat' (first | (refine pA (k := ?_)) | (refine g_exec ?_; first | (refine g_call ?_; first | (refine x_callG true (k_IsTerrain b.t z.hn) rfl rfl rfl aS rfl aH ?_; simp only [cl]) | (refine x_callG true (k_ArePhases b.ps z.hp) rfl rfl rfl aS rfl aH ?_; simp only [cl]) | (refine x_callG true (k_isSet b.t b.src z.hn z.hs) rfl rfl rfl aS rfl aH ?_; simp only [cl]) | (refine x_callG true (k_in _ _ _) rfl rfl rfl aS rfl aH ?_; simp only [cl])) | (refine g_guard ?_; refine x_gsplit rfl rfl (fun h => ?_) (fun h => ?_) <;> (have h' := h; try simp only [sx] at h')) | (refine x_nil (hK _ _ aI ?_); clear hK K)) | (refine v_region (fun K hK => ?_)))
  all_goals
    (refine ret_bool rfl (lookE_ok rfl) ?_; rw [Bool.eq_iff_iff]; try simp only [sx] at *)
    unfold GoodB
    constructor
    · intro hq
      first
        | contradiction
        | (have hS : (∀ s ∈ b.src, IsCell b.t s) ∧ Rising b.src := by assumption
           exact ⟨⟨by assumption, hS.1, hS.2⟩, by assumption, by omega⟩)
    · intro hq
      first
        | (exact absurd hq.1.1 aA)
        | (exact absurd hq.2.1 aA)
        | (exact absurd (show (∀ s ∈ b.src, IsCell b.t s) ∧ Rising b.src from ⟨hq.1.2.1, hq.1.2.2⟩) aA)
        | (have := hq.2.2; omega)
end
end Go.Vs
set_option linter.unusedVariables false
set_option linter.unusedSimpArgs false
set_option maxRecDepth 100000
set_option maxHeartbeats 4000000
namespace Go.Vs
open Go.Proofs
attribute [local irreducible] exec vwp thenQ blkQ loopQ RetPost
structure Cut where
  (cell : Int)
  (tick : Int)
  deriving DecidableEq
@[reducible] def Cut.pv (c : Cut) : List PV := [.int .i64 c.cell, .int .i64 c.tick]
theorem Cut.at {xs : List Cut} {i : Nat} {a : Cut} (h : xs[i]? = some a) : (xs.map Cut.pv)[i]? = some [.int .i64 a.cell, .int .i64 a.tick] := by simp [h]
theorem Cut.flat (xs : List Cut) : ∀ e ∈ xs.map Cut.pv, ∀ c ∈ e, c.flat = true := by
  intro e he c hc
  obtain ⟨a, _, rfl⟩ := List.mem_map.1 he
  simp only [Cut.pv, List.mem_cons, List.not_mem_nil, or_false] at hc
  rcases hc with rfl | rfl <;> rfl
end Go.Vs
