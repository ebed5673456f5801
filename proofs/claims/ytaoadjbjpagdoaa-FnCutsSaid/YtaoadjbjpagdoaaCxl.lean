/- Parts of a proof: what its last text mentions. -/
import Derived.Test.YtaoadjbjpagdoaaCxk
set_option linter.unusedVariables false
set_option linter.unusedSimpArgs false
set_option maxRecDepth 100000
set_option maxHeartbeats 4000000
namespace Go.Vs
open Go.Proofs
attribute [local irreducible] exec vwp thenQ blkQ loopQ RetPost
theorem k_tick (c : Cu) (hc : c.Ok) (hp : c.pos + 10 ≤ 1152921504606846976) : ∃ (r : Int) (c' : Cu), Dr 87 [] c (.int .i64 r) c' ∧ Aft c c' 4 ∧ -1 ≤ r ∧ r ≤ 10000 := by
  obtain ⟨y, c1, k1, a1⟩ := k_one c 20 hc aO aO
  have o1 := a1.ok hc aO
  have p1 := a1.pos
  cases y
  · obtain ⟨x, c2, k2, a2, g0, g1, _⟩ := k_pick c1 120 o1 aO aO
    have g1 := g1 aO
    refine ⟨x, c2, ?_, (a1.trans a2).le aO, by omega, by omega⟩
    refine contract_of hmix Try.func87 rfl (by kernel_rfl) (by kernel_rfl) (Nat.le_of_ble_eq_true rfl) (fun row h => by (simp only [List.mem_cons, List.not_mem_nil, or_false] at h; first | (subst h; (first | exact .inl rfl | exact .inr (fun e he u hu => by (simp only [List.mem_cons, List.not_mem_nil, or_false] at he; subst he; simp only [List.mem_cons, List.not_mem_nil, or_false] at hu; subst hu; rfl)))) | (rcases h with rfl | rfl <;> (first | exact .inl rfl | exact .inr (fun e he u hu => by (simp only [List.mem_cons, List.not_mem_nil, or_false] at he; subst he; simp only [List.mem_cons, List.not_mem_nil, or_false] at hu; subst hu; rfl)))) | (rcases h with rfl | rfl | rfl <;> (first | exact .inl rfl | exact .inr (fun e he u hu => by (simp only [List.mem_cons, List.not_mem_nil, or_false] at he; subst he; simp only [List.mem_cons, List.not_mem_nil, or_false] at hu; subst hu; rfl)))) | (rcases h with rfl | rfl | rfl | rfl <;> (first | exact .inl rfl | exact .inr (fun e he u hu => by (simp only [List.mem_cons, List.not_mem_nil, or_false] at he; subst he; simp only [List.mem_cons, List.not_mem_nil, or_false] at hu; subst hu; rfl)))))) ?_
    have hty_s24 := ty_s24
    have hty_u24 := ty_u24
    repeat' (first | (refine pA (k := ?_)) | (refine g_exec ?_; first | (refine g_call ?_; first | (refine x_callL [(io, 0)] (k1) rfl rfl aF rfl rfl aS rfl aH rfl ?_; simp only [cl]) | (refine x_callL [(io, 0)] (k2) rfl rfl aF rfl rfl aS rfl aH rfl ?_; simp only [cl])) | (refine x_nil (hK _ _ aI ?_); clear hK K)) | (refine v_region (fun K hK => ?_)) | (refine v_condt rfl (fun h => ?_) (fun h => ?_) <;> (have h' := h; try simp only [sx] at h')))
    all_goals exact ret_iL rfl rfl ⟨⟨rfl, rfl, fun h => by cases h⟩, trivial⟩ rfl
  · obtain ⟨x, c2, k2, a2, hx⟩ := k_among c1 [-1, 9999, 10000] o1 aO (by decide)
    refine ⟨x, c2, ?_, (a1.trans a2).le aO, by simp at hx; omega, by simp at hx; omega⟩
    refine contract_of hmix Try.func87 rfl (by kernel_rfl) (by kernel_rfl) (Nat.le_of_ble_eq_true rfl) (fun row h => by (simp only [List.mem_cons, List.not_mem_nil, or_false] at h; first | (subst h; (first | exact .inl rfl | exact .inr (fun e he u hu => by (simp only [List.mem_cons, List.not_mem_nil, or_false] at he; subst he; simp only [List.mem_cons, List.not_mem_nil, or_false] at hu; subst hu; rfl)))) | (rcases h with rfl | rfl <;> (first | exact .inl rfl | exact .inr (fun e he u hu => by (simp only [List.mem_cons, List.not_mem_nil, or_false] at he; subst he; simp only [List.mem_cons, List.not_mem_nil, or_false] at hu; subst hu; rfl)))) | (rcases h with rfl | rfl | rfl <;> (first | exact .inl rfl | exact .inr (fun e he u hu => by (simp only [List.mem_cons, List.not_mem_nil, or_false] at he; subst he; simp only [List.mem_cons, List.not_mem_nil, or_false] at hu; subst hu; rfl)))) | (rcases h with rfl | rfl | rfl | rfl <;> (first | exact .inl rfl | exact .inr (fun e he u hu => by (simp only [List.mem_cons, List.not_mem_nil, or_false] at he; subst he; simp only [List.mem_cons, List.not_mem_nil, or_false] at hu; subst hu; rfl)))))) ?_
    have hty_s24 := ty_s24
    have hty_u24 := ty_u24
    repeat' (first | (refine pA (k := ?_)) | (refine g_exec ?_; first | (refine g_call ?_; first | (refine x_callL [(io, 0)] (k1) rfl rfl aF rfl rfl aS rfl aH rfl ?_; simp only [cl]) | (refine x_callL [(io, 0)] (k2) rfl rfl aF rfl rfl aS rfl aH rfl ?_; simp only [cl])) | (refine x_nil (hK _ _ aI ?_); clear hK K)) | (refine v_region (fun K hK => ?_)) | (refine v_condt rfl (fun h => ?_) (fun h => ?_) <;> (have h' := h; try simp only [sx] at h')))
    all_goals exact ret_iL rfl rfl ⟨⟨rfl, rfl, fun h => by cases h⟩, trivial⟩ rfl
theorem k_startTick (c : Cu) (hc : c.Ok) (hp : c.pos + 10 ≤ 1152921504606846976) : ∃ (r : Int) (c' : Cu), Dr 42 [] c (.int .i64 r) c' ∧ Aft c c' 4 ∧ -1 ≤ r ∧ r ≤ 1001 := by
  obtain ⟨y, c1, k1, a1⟩ := k_one c 24 hc aO aO
  have o1 := a1.ok hc aO
  have p1 := a1.pos
  cases y
  · obtain ⟨x, c2, k2, a2, hx⟩ := k_among c1 [0, 0, 5, 20, 60] o1 aO (by decide)
    refine ⟨x, c2, ?_, (a1.trans a2).le aO, by simp at hx; omega, by simp at hx; omega⟩
    refine contract_of hmix Try.func42 rfl (by kernel_rfl) (by kernel_rfl) (Nat.le_of_ble_eq_true rfl) (fun row h => by (simp only [List.mem_cons, List.not_mem_nil, or_false] at h; first | (subst h; (first | exact .inl rfl | exact .inr (fun e he u hu => by (simp only [List.mem_cons, List.not_mem_nil, or_false] at he; subst he; simp only [List.mem_cons, List.not_mem_nil, or_false] at hu; subst hu; rfl)))) | (rcases h with rfl | rfl <;> (first | exact .inl rfl | exact .inr (fun e he u hu => by (simp only [List.mem_cons, List.not_mem_nil, or_false] at he; subst he; simp only [List.mem_cons, List.not_mem_nil, or_false] at hu; subst hu; rfl)))) | (rcases h with rfl | rfl | rfl <;> (first | exact .inl rfl | exact .inr (fun e he u hu => by (simp only [List.mem_cons, List.not_mem_nil, or_false] at he; subst he; simp only [List.mem_cons, List.not_mem_nil, or_false] at hu; subst hu; rfl)))) | (rcases h with rfl | rfl | rfl | rfl <;> (first | exact .inl rfl | exact .inr (fun e he u hu => by (simp only [List.mem_cons, List.not_mem_nil, or_false] at he; subst he; simp only [List.mem_cons, List.not_mem_nil, or_false] at hu; subst hu; rfl)))))) ?_
    have hty_s24 := ty_s24
    have hty_u24 := ty_u24
    repeat' (first | (refine pA (k := ?_)) | (refine g_exec ?_; first | (refine g_call ?_; first | (refine x_callL [(io, 0)] (k1) rfl rfl aF rfl rfl aS rfl aH rfl ?_; simp only [cl]) | (refine x_callL [(io, 0)] (k2) rfl rfl aF rfl rfl aS rfl aH rfl ?_; simp only [cl])) | (refine x_nil (hK _ _ aI ?_); clear hK K)) | (refine v_region (fun K hK => ?_)) | (refine v_condt rfl (fun h => ?_) (fun h => ?_) <;> (have h' := h; try simp only [sx] at h')))
    all_goals exact ret_iL rfl rfl ⟨⟨rfl, rfl, fun h => by cases h⟩, trivial⟩ rfl
  · obtain ⟨x, c2, k2, a2, hx⟩ := k_among c1 [-1, 1000, 1001] o1 aO (by decide)
    refine ⟨x, c2, ?_, (a1.trans a2).le aO, by simp at hx; omega, by simp at hx; omega⟩
    refine contract_of hmix Try.func42 rfl (by kernel_rfl) (by kernel_rfl) (Nat.le_of_ble_eq_true rfl) (fun row h => by (simp only [List.mem_cons, List.not_mem_nil, or_false] at h; first | (subst h; (first | exact .inl rfl | exact .inr (fun e he u hu => by (simp only [List.mem_cons, List.not_mem_nil, or_false] at he; subst he; simp only [List.mem_cons, List.not_mem_nil, or_false] at hu; subst hu; rfl)))) | (rcases h with rfl | rfl <;> (first | exact .inl rfl | exact .inr (fun e he u hu => by (simp only [List.mem_cons, List.not_mem_nil, or_false] at he; subst he; simp only [List.mem_cons, List.not_mem_nil, or_false] at hu; subst hu; rfl)))) | (rcases h with rfl | rfl | rfl <;> (first | exact .inl rfl | exact .inr (fun e he u hu => by (simp only [List.mem_cons, List.not_mem_nil, or_false] at he; subst he; simp only [List.mem_cons, List.not_mem_nil, or_false] at hu; subst hu; rfl)))) | (rcases h with rfl | rfl | rfl | rfl <;> (first | exact .inl rfl | exact .inr (fun e he u hu => by (simp only [List.mem_cons, List.not_mem_nil, or_false] at he; subst he; simp only [List.mem_cons, List.not_mem_nil, or_false] at hu; subst hu; rfl)))))) ?_
    have hty_s24 := ty_s24
    have hty_u24 := ty_u24
    repeat' (first | (refine pA (k := ?_)) | (refine g_exec ?_; first | (refine g_call ?_; first | (refine x_callL [(io, 0)] (k1) rfl rfl aF rfl rfl aS rfl aH rfl ?_; simp only [cl]) | (refine x_callL [(io, 0)] (k2) rfl rfl aF rfl rfl aS rfl aH rfl ?_; simp only [cl])) | (refine x_nil (hK _ _ aI ?_); clear hK K)) | (refine v_region (fun K hK => ?_)) | (refine v_condt rfl (fun h => ?_) (fun h => ?_) <;> (have h' := h; try simp only [sx] at h')))
    all_goals exact ret_iL rfl rfl ⟨⟨rfl, rfl, fun h => by cases h⟩, trivial⟩ rfl
@[reducible] def PhS : Type := Cu × List Phase × Int
theorem least_ex {P : Nat → Prop} : ∀ (n : Nat), P n → ∃ k, k ≤ n ∧ P k ∧ ∀ j, j < k → ¬ P j := by
  intro n
  induction n using Nat.strongRecOn with
  | ind n ih =>
    intro h
    by_cases hj : ∃ j, j < n ∧ P j
    · obtain ⟨j, hjn, hp⟩ := hj
      obtain ⟨k, h1, h2, h3⟩ := ih j hjn hp
      exact ⟨k, by omega, h2, h3⟩
    · exact ⟨n, Nat.le_refl _, h, fun j hlt hp => hj ⟨j, hlt, hp⟩⟩
theorem k_phasesD (c : Cu) (hc : c.Ok) (hp : c.pos + 100 ≤ 1152921504606846976) : ∃ (ps : List Phase) (c' : Cu), Dr 41 [] c (.olist 93 2 (ps.map Phase.pv)) c' ∧ Aft c c' 100 ∧ ps.length ≤ 7 := by
  obtain ⟨s, c0, k0, a0, s0, s1, _⟩ := k_pick c 9 hc aO aO
  have s1 := s1 aO
  have o0 := a0.ok hc aO
  have p0 := a0.pos
  obtain ⟨n, c1, k1, a1, n0, n1, _⟩ := k_pick c0 4 o0 aO aO
  have n1 := n1 aO
  have o1 := a1.ok o0 aO
  have p1 := a1.pos
  obtain ⟨f, f0, fs⟩ := seq_ex (S := PhS) (Q := fun i s => i ≤ 4 → Aft c1 s.1 (4 * i) ∧ s.2.1.length = i + 1 ∧ (0 ≤ s.2.2 ∧ s.2.2 ≤ 31 * i))
    (R := fun i s s' => i < 4 → ∃ (r2 : Int) (c2 : Cu) (x : Int), Dr 43 [.int .i64 30] s.1 (.int .i64 r2) c2 ∧ (0 ≤ r2 ∧ r2 < 30) ∧ Dr 35 [.list 1 (ints [1, 2, 5, 9])] c2 (.int .i64 x) s'.1 ∧ s'.2.1 = s.2.1 ++ [⟨s.2.2 + 1 + r2, x⟩] ∧ s'.2.2 = s.2.2 + 1 + r2)
    (c1, [⟨0, 1 + s⟩], 0) (fun _ => ⟨(Aft.refl c1).le aO, rfl, by simp⟩) (fun i st hq => by
      by_cases hi : i < 4
      · obtain ⟨ad, hl, hf⟩ := hq aO
        have od := ad.ok o1 aO
        have pd := ad.pos
        obtain ⟨r2, c2, k2, a2, b1, b2, _⟩ := k_pick st.1 30 od aO aO
        have b2 := b2 aO
        have o2 := a2.ok od aO
        have p2 := a2.pos
        obtain ⟨x, c4, k4, a4, _⟩ := k_among c2 [1, 2, 5, 9] o2 aO (by decide)
        exact ⟨(c4, st.2.1 ++ [⟨st.2.2 + 1 + r2, x⟩], st.2.2 + 1 + r2), fun _ => ⟨r2, c2, x, k2, ⟨b1, b2⟩, k4, rfl, rfl⟩, fun _ => ⟨((ad.trans a2).trans a4).le (by first | omega | (simp only; omega)), by simp [hl], by first | omega | (simp only; omega)⟩⟩
      · exact ⟨st, fun h => absurd h hi, fun h => by omega⟩)
  obtain ⟨N, hN⟩ : ∃ N : Nat, n = (N : Int) := ⟨n.toNat, by omega⟩
  subst hN
  obtain ⟨ad, hl, hfr⟩ := (fs N).1 aO
  have od := ad.ok o1 aO
  have pd := ad.pos
  obtain ⟨r, c2, k2, a2, _⟩ := k_pick (f N).1 32 od aO aO
  have o2 := a2.ok od aO
  have p2 := a2.pos
  have aft2 := ((a0.trans a1).trans ad).trans a2
  obtain ⟨x0, c3, k3, a3, _⟩ := k_among c2 [0, 9999, 10000] o2 aO (by decide)
  have o3 := a3.ok o2 aO
  have p3 := a3.pos
  obtain ⟨y0, c4, k4, a4, _⟩ := k_among c3 [0, 9, 10] o3 aO (by decide)
  obtain ⟨x1, c5, k5, a5, _⟩ := k_among c2 [1, 0, -1] o2 aO (by decide)
  obtain ⟨w, hw⟩ := get_ex (show 0 < (f N).2.1.length by omega)
  have hw2 : ((f N).2.1.map Phase.pv)[0]? = some w.pv := Phase.at hw
  have hse : ((f N).2.1.map Phase.pv).set 0 [.int .i64 x1, .int .i64 3] = ((f N).2.1.set 0 ⟨x1, 3⟩).map Phase.pv := by rw [List.map_set]
  obtain ⟨g, g0, gs⟩ := seq_ex (S := PhS) (Q := fun i s => i ≤ 8 → Aft c2 s.1 (2 * i) ∧ s.2.1.length = N + 1 + i)
    (R := fun i s s' => i < 8 → Dr 43 [.int .i64 2] s.1 (.int .i64 s'.2.2) s'.1 ∧ (0 ≤ s'.2.2 ∧ s'.2.2 < 2) ∧ s'.2.1 = s.2.1 ++ [⟨200 + 10 * (s.2.1.length : Int), 2⟩])
    (c2, (f N).2.1, 0) (fun _ => ⟨(Aft.refl c2).le aO, by first | omega | (simp only; omega)⟩) (fun i st hq => by
      by_cases hi : i < 8
      · obtain ⟨ad, hl2⟩ := hq aO
        have od := ad.ok o2 aO
        have pd := ad.pos
        obtain ⟨r5, c5, k5, a5, b5, b6, _⟩ := k_pick st.1 2 od aO aO
        exact ⟨(c5, st.2.1 ++ [⟨200 + 10 * (st.2.1.length : Int), 2⟩], r5), fun _ => ⟨k5, ⟨b5, b6 aO⟩, rfl⟩, fun _ => ⟨(ad.trans a5).le (by first | omega | (simp only; omega)), by simp; omega⟩⟩
      · exact ⟨st, fun h => absurd h hi, fun h => by omega⟩)
  obtain ⟨K, hK7, hK, hKl⟩ := least_ex (P := fun i => ¬ ((N : Int) + 1 + i < 6 + (g (i + 1)).2.2)) 6 (by
    obtain ⟨_, h2, _⟩ := (gs 6).2 aO
    try simp only
    omega)
  obtain ⟨adK, hlK⟩ := (gs K).1 aO
  obtain ⟨kK, bK, _⟩ := (gs K).2 aO
  have hlK7 : (g K).2.1.length ≤ 7 := by
    rw [hlK]
    rcases Nat.eq_zero_or_pos K with h0 | h0
    · omega
    · have h1 := hKl (K - 1) aO
      obtain ⟨_, h2, _⟩ := (gs (K - 1)).2 aO
      try simp only at h1
      omega
  obtain ⟨adK1, _⟩ := (gs (K + 1)).1 aO
  have key : ∃ (ps : List Phase) (c' : Cu), Aft c c' 100 ∧ ps.length ≤ 7 ∧ ((r = 0 ∧ ps = (f N).2.1 ++ [⟨x0, y0⟩] ∧ c' = c4) ∨ (r ≠ 0 ∧ r = 1 ∧ ps = (f N).2.1.set 0 ⟨x1, 3⟩ ∧ c' = c5) ∨ (r ≠ 0 ∧ r ≠ 1 ∧ r = 2 ∧ ps = [] ∧ c' = c2) ∨ (r ≠ 0 ∧ r ≠ 1 ∧ r ≠ 2 ∧ r = 3 ∧ ps = (g K).2.1 ∧ c' = (g (K + 1)).1) ∨ (r ≠ 0 ∧ r ≠ 1 ∧ r ≠ 2 ∧ r ≠ 3 ∧ ps = (f N).2.1 ∧ c' = c2)) := by
    by_cases e0 : r = 0
    · exact ⟨_, c4, ((aft2.trans a3).trans a4).le aO, by simp; omega, Or.inl ⟨e0, rfl, rfl⟩⟩
    · by_cases e1 : r = 1
      · exact ⟨_, c5, (aft2.trans a5).le aO, by simp; omega, Or.inr (Or.inl ⟨e0, e1, rfl, rfl⟩)⟩
      · by_cases e2 : r = 2
        · exact ⟨[], c2, aft2.le aO, by simp, Or.inr (Or.inr (Or.inl ⟨e0, e1, e2, rfl, rfl⟩))⟩
        · by_cases e3 : r = 3
          · exact ⟨_, _, (aft2.trans adK1).le aO, hlK7, Or.inr (Or.inr (Or.inr (Or.inl ⟨e0, e1, e2, e3, rfl, rfl⟩)))⟩
          · exact ⟨_, c2, aft2.le aO, by omega, Or.inr (Or.inr (Or.inr (Or.inr ⟨e0, e1, e2, e3, rfl, rfl⟩)))⟩
  obtain ⟨ps, c', hA, hL, key⟩ := key
  refine ⟨ps, c', ?_, hA, hL⟩
  clear hA hL
  refine contract_of hmix Try.func41 rfl (by kernel_rfl) (by kernel_rfl) (Nat.le_of_ble_eq_true rfl) (fun row h => by (simp only [List.mem_cons, List.not_mem_nil, or_false] at h; first | (subst h; (first | exact .inl rfl | exact .inr (fun e he u hu => by (simp only [List.mem_cons, List.not_mem_nil, or_false] at he; subst he; simp only [List.mem_cons, List.not_mem_nil, or_false] at hu; subst hu; rfl)))) | (rcases h with rfl | rfl <;> (first | exact .inl rfl | exact .inr (fun e he u hu => by (simp only [List.mem_cons, List.not_mem_nil, or_false] at he; subst he; simp only [List.mem_cons, List.not_mem_nil, or_false] at hu; subst hu; rfl)))) | (rcases h with rfl | rfl | rfl <;> (first | exact .inl rfl | exact .inr (fun e he u hu => by (simp only [List.mem_cons, List.not_mem_nil, or_false] at he; subst he; simp only [List.mem_cons, List.not_mem_nil, or_false] at hu; subst hu; rfl)))) | (rcases h with rfl | rfl | rfl | rfl <;> (first | exact .inl rfl | exact .inr (fun e he u hu => by (simp only [List.mem_cons, List.not_mem_nil, or_false] at he; subst he; simp only [List.mem_cons, List.not_mem_nil, or_false] at hu; subst hu; rfl)))))) ?_
  have hty_st93 := ty_st93
  have hty_s27 := ty_s27
  have hty_s24 := ty_s24
  have hty_u24 := ty_u24
  have hty_u27 := ty_u27
  have hty_t93 := ty_t93
  have hty_a93 := ty_a93
  repeat' (first | (refine pA (k := ?_)) | (refine g_exec ?_; first | (refine g_call ?_; first | (refine x_callL [(io, 0)] (k0) rfl rfl aF rfl rfl aS rfl aH rfl ?_; simp only [cl]) | (refine x_callL [(io, 0)] (k1) rfl rfl aF rfl rfl aS rfl aH rfl ?_; simp only [cl])) | (refine x_nil (hK _ _ aI ?_); clear hK K)) | (refine v_region (fun K hK => ?_)) | (refine v_condt rfl (fun h => ?_) (fun h => ?_) <;> (have h' := h; try simp only [sx] at h')))
  all_goals try (exfalso; omega)
  refine v_loopK [0] [(io, 0), (1001, 0)] (fun q : Nat × Cu × List (List PV) × Int × Int => [(3, .osl (1001, 0) 0 (q.1 + 1)), (4, .int .i64 q.2.2.2.1), (5, .int .i64 q.2.2.2.2)]) (fun q : Nat × Cu × List (List PV) × Int × Int => [((io, 0), some (cuRow q.2.1)), ((1001, 0), some ⟨93, 2, q.2.2.1, false⟩)]) (fun q : Nat × Cu × List (List PV) × Int × Int => q.2.1 = (f q.1).1 ∧ q.2.2.1 = (f q.1).2.1.map Phase.pv ∧ q.2.2.2.1 = (f q.1).2.2 ∧ q.2.2.2.2 = (N : Int) - q.1 ∧ q.1 ≤ N) (fun q : Nat × Cu × List (List PV) × Int × Int => N - q.1) ((0, c1, [[.int .i64 0, .int .i64 (1 + s)]], 0, N)) rfl rfl (fun _ => rfl) (fun _ => rfl) rfl (by refine ⟨?_, ?_, rfl, rfl⟩ <;> (repeat' (first | exact trivial | exact ⟨rfl, rfl⟩ | exact rfl | exact ⟨sub_fn, refs_fn⟩ | refine ⟨⟨rfl, rfl⟩, ?_⟩ | refine ⟨⟨sub_fn, refs_fn⟩, ?_⟩ | refine ⟨⟨rfl, fun h => Bool.noConfusion h⟩, ?_⟩ | refine ⟨⟨rfl, fun h => ?_⟩, ?_⟩ | refine ⟨rfl, ?_⟩ | refine ⟨?_, ?_⟩ | fail))) ⟨by rw [f0], by rw [f0]; rfl, by rw [f0], by simp, by first | omega | (simp only; omega)⟩ (fun q hq => ?_)
  obtain ⟨m, d, es, fr, v⟩ := q
  obtain ⟨hd, hes, hfr2, hv, hmN⟩ := hq
  try simp only at hd hes hfr2 hv hmN
  dsimp only
  obtain ⟨ad, hl2, hf2⟩ := (fs m).1 aO
  have hel : es.length = m + 1 := by rw [hes, List.length_map, hl2]
  have hme := hel.symm
  by_cases hlt : m < N
  · obtain ⟨r2, cc, x, kp, br2, ka, e1, e2⟩ := (fs m).2 aO
    rw [← hd] at kp
    repeat' (first | (refine pA (k := ?_)) | (refine g_exec ?_; first | (refine g_call ?_; first | (refine x_callL [(io, 0)] (kp) rfl rfl aF rfl rfl aS rfl aH rfl ?_; simp only [cl]) | (refine x_callL [(io, 0)] (ka) rfl rfl aF rfl rfl aS rfl aH rfl ?_; simp only [cl])) | (refine x_nil (hK _ _ aI ?_); clear hK K)) | (refine v_region (fun K hK => ?_)) | (refine v_condt rfl (fun h => ?_) (fun h => ?_) <;> (have h' := h; try simp only [sx] at h')))
    all_goals try (exfalso; omega)
    all_goals (refine q_next (m + 1, (f (m + 1)).1, es ++ [[.int .i64 (fr + 1 + r2), .int .i64 x]], fr + 1 + r2, v - 1) rfl (by refine ⟨?_, ?_, rfl, rfl⟩ <;> (repeat' (first | exact trivial | exact ⟨rfl, rfl⟩ | exact rfl | exact ⟨sub_fn, refs_fn⟩ | refine ⟨⟨rfl, rfl⟩, ?_⟩ | refine ⟨⟨sub_fn, refs_fn⟩, ?_⟩ | refine ⟨⟨rfl, fun h => Bool.noConfusion h⟩, ?_⟩ | refine ⟨⟨rfl, fun h => ?_⟩, ?_⟩ | refine ⟨rfl, ?_⟩ | refine ⟨?_, ?_⟩ | fail))) ⟨rfl, by simp [hes, e1, hfr2, Phase.pv], by simp only; rw [e2, hfr2], by first | omega | (simp only; omega), by first | omega | (simp only; omega)⟩ (by first | omega | (simp only; omega)))
  · have hmN2 : m = N := by omega
    subst hmN2
    rw [← hd] at k2
    rw [← hes] at hw2 hse
    rcases key with ⟨e0, rfl, rfl⟩ | ⟨e0, e1, rfl, rfl⟩ | ⟨e0, e1, e2, rfl, rfl⟩ | ⟨e0, e1, e2, e3, rfl, rfl⟩ | ⟨e0, e1, e2, e3, rfl, rfl⟩
    · repeat' (first | (refine pA (k := ?_)) | (refine g_exec ?_; first | (refine g_call ?_; first | (refine x_callL [(io, 0)] (k2) rfl rfl aF rfl rfl aS rfl aH rfl ?_; simp only [cl]) | (refine x_callL [(io, 0)] (k3) rfl rfl aF rfl rfl aS rfl aH rfl ?_; simp only [cl]) | (refine x_callL [(io, 0)] (k4) rfl rfl aF rfl rfl aS rfl aH rfl ?_; simp only [cl])) | (refine x_nil (hK _ _ aI ?_); clear hK K)) | (refine v_region (fun K hK => ?_)) | (refine v_condt rfl (fun h => ?_) (fun h => ?_) <;> (have h' := h; try simp only [sx] at h')))
      all_goals first
        | (exfalso; omega)
        | exact ret_lL rfl rfl rfl (by decide) ⟨⟨rfl, rfl, fun h => by cases h⟩, trivial⟩ rfl rfl (by simp [hel]) (by simp [hes, Phase.pv])
    · repeat' (first | (refine pA (k := ?_)) | (refine g_exec ?_; first | (refine g_call ?_; first | (refine x_callL [(io, 0)] (k2) rfl rfl aF rfl rfl aS rfl aH rfl ?_; simp only [cl]) | (refine x_callL [(io, 0)] (k5) rfl rfl aF rfl rfl aS rfl aH rfl ?_; simp only [cl])) | (refine x_nil (hK _ _ aI ?_); clear hK K)) | (refine v_region (fun K hK => ?_)) | (refine v_condt rfl (fun h => ?_) (fun h => ?_) <;> (have h' := h; try simp only [sx] at h')))
      all_goals first
        | (exfalso; omega)
        | exact ret_lL rfl rfl rfl (by decide) ⟨⟨rfl, rfl, fun h => by cases h⟩, trivial⟩ rfl rfl (by simp [hel]) hse
    · repeat' (first | (refine pA (k := ?_)) | (refine g_exec ?_; first | (refine g_call ?_; refine x_callL [(io, 0)] (k2) rfl rfl aF rfl rfl aS rfl aH rfl ?_; simp only [cl]) | (refine x_nil (hK _ _ aI ?_); clear hK K)) | (refine v_region (fun K hK => ?_)) | (refine v_condt rfl (fun h => ?_) (fun h => ?_) <;> (have h' := h; try simp only [sx] at h')))
      all_goals first
        | (exfalso; omega)
        | exact ret_lL rfl rfl rfl (by decide) ⟨⟨rfl, rfl, fun h => by cases h⟩, trivial⟩ rfl rfl rfl rfl
    · repeat' (first | (refine pA (k := ?_)) | (refine g_exec ?_; first | (refine g_call ?_; refine x_callL [(io, 0)] (k2) rfl rfl aF rfl rfl aS rfl aH rfl ?_; simp only [cl]) | (refine x_nil (hK _ _ aI ?_); clear hK K)) | (refine v_region (fun K hK => ?_)) | (refine v_condt rfl (fun h => ?_) (fun h => ?_) <;> (have h' := h; try simp only [sx] at h')))
      all_goals try (exfalso; omega)
      refine v_loopK [0] [(io, 0), (1001, 0)] (fun q : Nat × Cu × List (List PV) => [(3, .osl (1001, 0) 0 (m + 1 + q.1))]) (fun q : Nat × Cu × List (List PV) => [((io, 0), some (cuRow q.2.1)), ((1001, 0), some ⟨93, 2, q.2.2, false⟩)]) (fun q : Nat × Cu × List (List PV) => q.2.1 = (g q.1).1 ∧ q.2.2 = (g q.1).2.1.map Phase.pv ∧ q.1 ≤ K) (fun q : Nat × Cu × List (List PV) => K - q.1) ((0, c2, es)) rfl rfl (fun _ => rfl) (fun _ => rfl) rfl (by refine ⟨?_, ?_, rfl, rfl⟩ <;> (repeat' (first | exact trivial | exact ⟨rfl, rfl⟩ | exact rfl | exact ⟨sub_fn, refs_fn⟩ | refine ⟨⟨rfl, rfl⟩, ?_⟩ | refine ⟨⟨sub_fn, refs_fn⟩, ?_⟩ | refine ⟨⟨rfl, fun h => Bool.noConfusion h⟩, ?_⟩ | refine ⟨⟨rfl, fun h => ?_⟩, ?_⟩ | refine ⟨rfl, ?_⟩ | refine ⟨?_, ?_⟩ | fail))) ⟨by rw [g0], by rw [g0, hes], by simp⟩ (fun q hq => ?_)
      obtain ⟨j, d2, fs2⟩ := q
      obtain ⟨hd2, hfs2, hjK⟩ := hq
      try simp only at hd2 hfs2 hjK
      dsimp only
      obtain ⟨adj, hlj⟩ := (gs j).1 aO
      obtain ⟨kj, bj, ej⟩ := (gs j).2 aO
      have hel2 : fs2.length = m + 1 + j := by rw [hfs2, List.length_map, hlj]
      have hme2 := hel2.symm
      rw [← hd2] at kj
      by_cases hjlt : j < K
      · have hgo := hKl j hjlt
        simp only [Classical.not_not] at hgo
        repeat' (first | (refine pA (k := ?_)) | (refine g_exec ?_; first | (refine g_call ?_; refine x_callL [(io, 0)] (kj) rfl rfl aF rfl rfl aS rfl aH rfl ?_; simp only [cl]) | (refine x_nil (hK _ _ aI ?_); clear hK K)) | (refine v_region (fun K hK => ?_)) | (refine v_condt rfl (fun h => ?_) (fun h => ?_) <;> (have h' := h; try simp only [sx] at h')))
        all_goals try (exfalso; omega)
        all_goals (refine q_next (j + 1, (g (j + 1)).1, fs2 ++ [[.int .i64 (200 + 10 * ((m + 1 + j : Nat) : Int)), .int .i64 2]]) rfl (by refine ⟨?_, ?_, rfl, rfl⟩ <;> (repeat' (first | exact trivial | exact ⟨rfl, rfl⟩ | exact rfl | exact ⟨sub_fn, refs_fn⟩ | refine ⟨⟨rfl, rfl⟩, ?_⟩ | refine ⟨⟨sub_fn, refs_fn⟩, ?_⟩ | refine ⟨⟨rfl, fun h => Bool.noConfusion h⟩, ?_⟩ | refine ⟨⟨rfl, fun h => ?_⟩, ?_⟩ | refine ⟨rfl, ?_⟩ | refine ⟨?_, ?_⟩ | fail))) ⟨rfl, by simp [hfs2, ej, Phase.pv, hlj], by first | omega | (simp only; omega)⟩ (by first | omega | (simp only; omega)))
      · have hjK2 : j = K := by omega
        subst hjK2
        try simp only at hK
        repeat' (first | (refine pA (k := ?_)) | (refine g_exec ?_; first | (refine g_call ?_; refine x_callL [(io, 0)] (kj) rfl rfl aF rfl rfl aS rfl aH rfl ?_; simp only [cl]) | (refine x_nil (hK _ _ aI ?_); clear hK K)) | (refine v_region (fun K hK => ?_)) | (refine v_condt rfl (fun h => ?_) (fun h => ?_) <;> (have h' := h; try simp only [sx] at h')))
        all_goals first
          | (exfalso; omega)
          | exact ret_lL rfl rfl rfl (by decide) ⟨⟨rfl, rfl, fun h => by cases h⟩, trivial⟩ rfl rfl hme2 hfs2
    · repeat' (first | (refine pA (k := ?_)) | (refine g_exec ?_; first | (refine g_call ?_; refine x_callL [(io, 0)] (k2) rfl rfl aF rfl rfl aS rfl aH rfl ?_; simp only [cl]) | (refine x_nil (hK _ _ aI ?_); clear hK K)) | (refine v_region (fun K hK => ?_)) | (refine v_condt rfl (fun h => ?_) (fun h => ?_) <;> (have h' := h; try simp only [sx] at h')))
      all_goals first
        | (exfalso; omega)
        | exact ret_lL rfl rfl rfl (by decide) ⟨⟨rfl, rfl, fun h => by cases h⟩, trivial⟩ rfl rfl hme hes
theorem k_phasesZ (c : Cu) (hc : c.Ok) (hp : c.pos + 100 ≤ 1152921504606846976) : ∃ (ps : List Phase) (c' : Cu), Dr 41 [] c (.list 2 (ps.map Phase.pv)) c' ∧ Aft c c' 100 ∧ ps.length ≤ 7 := by
  obtain ⟨ps, c', k, h⟩ := k_phasesD c hc hp
  exact ⟨ps, c', ConL.frz k rfl (by intro row h; simp at h; subst h; rfl), h⟩
theorem k_cellsOfD (c : Cu) (t : Terrain) (hc : c.Ok) (hp : c.pos + 100 ≤ 1152921504606846976) (ht : TrSz t) : ∃ (xs : List Int) (c' : Cu), Dr 21 [.agg t.pv] c (.olist 3 1 (ints xs)) c' ∧ Aft c c' 100 ∧ xs.length ≤ 5 := by
  obtain ⟨n, c1, k1, a1, n0, n1, _⟩ := k_pick c 5 hc aO aO
  have n1 := n1 aO
  have o1 := a1.ok hc aO
  have p1 := a1.pos
  have hl1 : (ints t.burn).length = t.burn.length := by simp
  have ht3 := ht.2.2
  obtain ⟨N, hN⟩ : ∃ N : Nat, n = (N : Int) := ⟨n.toNat, by omega⟩
  subst hN
  obtain ⟨f, f0, fs⟩ := seq_ex (S := Cu × List Int) (Q := fun i s => i ≤ 5 → Aft c1 s.1 (2 * i) ∧ s.2.length ≤ i)
    (R := fun i s s' => i < 5 → ∃ (x : Int), Dr 43 [.int .i64 ((ints t.burn).length : Int)] s.1 (.int .i64 x) s'.1 ∧ s'.2 = put s.2 x)
    (c1, []) (fun _ => ⟨(Aft.refl c1).le aO, by simp⟩) (fun i st hq => by
      by_cases hi : i < 5
      · obtain ⟨ad, hl2⟩ := hq aO
        have od := ad.ok o1 aO
        have pd := ad.pos
        obtain ⟨x, c2, k2, a2, _⟩ := k_pick st.1 t.burn.length od aO aO
        rw [← hl1] at k2
        have hpl := put_len st.2 x
        exact ⟨(c2, put st.2 x), fun _ => ⟨x, k2, rfl⟩, fun _ => ⟨(ad.trans a2).le (by first | omega | (simp only; omega)), by first | omega | (simp only; omega)⟩⟩
      · exact ⟨st, fun h => absurd h hi, fun h => by omega⟩)
  obtain ⟨ad, hl⟩ := (fs N).1 aO
  have od := ad.ok o1 aO
  have pd := ad.pos
  obtain ⟨y, c2, k2, a2⟩ := k_one (f N).1 24 od aO aO
  have o2 := a2.ok od aO
  have p2 := a2.pos
  obtain ⟨x3, c3, k3, a3, _⟩ := k_among c2 [0, -1, (t.burn.length : Int)] o2 aO (by simp)
  rw [← hl1] at k3
  have key : ∃ (xs : List Int) (c' : Cu), Aft c c' 100 ∧ xs.length ≤ 5 ∧ ((y = false ∧ xs = (f N).2 ∧ c' = c2) ∨ (y = true ∧ xs = (f N).2 ++ [x3] ∧ c' = c3)) := by
    cases y
    · exact ⟨_, c2, ((a1.trans ad).trans a2).le aO, by omega, Or.inl ⟨rfl, rfl, rfl⟩⟩
    · exact ⟨_, c3, (((a1.trans ad).trans a2).trans a3).le aO, by simp; omega, Or.inr ⟨rfl, rfl, rfl⟩⟩
  obtain ⟨xs, c', hA, hL, key⟩ := key
  refine ⟨xs, c', ?_, hA, hL⟩
  clear hA hL
  refine contract_of hmix Try.func21 rfl (by kernel_rfl) (by kernel_rfl) (Nat.le_of_ble_eq_true rfl) (fun row h => by (simp only [List.mem_cons, List.not_mem_nil, or_false] at h; first | (subst h; (first | exact .inl rfl | exact .inr (fun e he u hu => by (simp only [List.mem_cons, List.not_mem_nil, or_false] at he; subst he; simp only [List.mem_cons, List.not_mem_nil, or_false] at hu; subst hu; rfl)))) | (rcases h with rfl | rfl <;> (first | exact .inl rfl | exact .inr (fun e he u hu => by (simp only [List.mem_cons, List.not_mem_nil, or_false] at he; subst he; simp only [List.mem_cons, List.not_mem_nil, or_false] at hu; subst hu; rfl)))) | (rcases h with rfl | rfl | rfl <;> (first | exact .inl rfl | exact .inr (fun e he u hu => by (simp only [List.mem_cons, List.not_mem_nil, or_false] at he; subst he; simp only [List.mem_cons, List.not_mem_nil, or_false] at hu; subst hu; rfl)))) | (rcases h with rfl | rfl | rfl | rfl <;> (first | exact .inl rfl | exact .inr (fun e he u hu => by (simp only [List.mem_cons, List.not_mem_nil, or_false] at he; subst he; simp only [List.mem_cons, List.not_mem_nil, or_false] at hu; subst hu; rfl)))))) ?_
  have hty_s24 := ty_s24
  have hty_f26_2 := ty_f26_2
  have hty_c24 := ty_c24
  have hty_u24 := ty_u24
  repeat' (first | (refine pA (k := ?_)) | (refine g_exec ?_; first | (refine g_call ?_; refine x_callL [(io, 0)] (k1) rfl rfl aF rfl rfl aS rfl aH rfl ?_; simp only [cl]) | (refine x_nil (hK _ _ aI ?_); clear hK K)) | (refine v_region (fun K hK => ?_)) | (refine v_condt rfl (fun h => ?_) (fun h => ?_) <;> (have h' := h; try simp only [sx] at h')))
  all_goals try (exfalso; omega)
  refine v_loopK [0, 3] [(io, 0), (1001, 0)] (fun q : Nat × Cu × List Int × Nat × Int => [(5, .osl (1001, 0) 0 q.2.2.2.1), (6, .int .i64 q.2.2.2.2)]) (fun q : Nat × Cu × List Int × Nat × Int => [((io, 0), some (cuRow q.2.1)), ((1001, 0), some ⟨3, 1, ints q.2.2.1, false⟩)]) (fun q : Nat × Cu × List Int × Nat × Int => q.2.1 = (f q.1).1 ∧ q.2.2.1 = (f q.1).2 ∧ q.2.2.2.2 = (N : Int) - q.1 ∧ q.1 ≤ N ∧ (ints q.2.2.1).length = q.2.2.2.1) (fun q : Nat × Cu × List Int × Nat × Int => N - q.1) ((0, c1, [], 0, N)) rfl rfl (fun _ => rfl) (fun _ => rfl) rfl (by refine ⟨?_, ?_, rfl, rfl⟩ <;> (repeat' (first | exact trivial | exact ⟨rfl, rfl⟩ | exact rfl | exact ⟨sub_fn, refs_fn⟩ | refine ⟨⟨rfl, rfl⟩, ?_⟩ | refine ⟨⟨sub_fn, refs_fn⟩, ?_⟩ | refine ⟨⟨rfl, fun h => Bool.noConfusion h⟩, ?_⟩ | refine ⟨⟨rfl, fun h => ?_⟩, ?_⟩ | refine ⟨rfl, ?_⟩ | refine ⟨?_, ?_⟩ | fail))) ⟨by rw [f0], by rw [f0], by simp, by simp, rfl⟩ (fun q hq => ?_)
  obtain ⟨m, d, us, ul, v⟩ := q
  obtain ⟨hd, hus, hv, hmN, hul⟩ := hq
  simp only at hd hus hv hmN hul
  dsimp only
  have hul2 : us.length = ul := by rw [← hul]; simp
  have hlu := hul.symm
  obtain ⟨adm, hlm⟩ := (fs m).1 aO
  by_cases hlt : m < N
  · obtain ⟨x, kp, ep⟩ := (fs m).2 aO
    rw [← hd] at kp
    rw [← hus] at hlm ep
    by_cases hin : us[kPut us x]? = some x
    · have kP := k_l1PutS us x ul hul2 aO hin
      have eP : put us x = us := by unfold put; rw [if_pos hin]
      repeat' (first | (refine pA (k := ?_)) | (refine g_exec ?_; first | (refine g_call ?_; first | (refine x_callL [(io, 0)] (kp) rfl rfl aF rfl rfl aS rfl aH rfl ?_; simp only [cl]) | (refine x_callMr [(1001, 0)] [] (kP) rfl rfl (by (repeat' (first | exact trivial | exact ⟨⟨_, rfl, rfl⟩, rfl⟩ | exact ⟨rfl, rfl⟩ | refine ⟨⟨⟨_, rfl, rfl⟩, rfl⟩, ?_⟩ | refine ⟨⟨rfl, rfl⟩, ?_⟩)); first | done | fail) (by (repeat' (first | exact trivial | exact ⟨⟨_, rfl, rfl⟩, rfl⟩ | exact ⟨rfl, rfl⟩ | refine ⟨⟨⟨_, rfl, rfl⟩, rfl⟩, ?_⟩ | refine ⟨⟨rfl, rfl⟩, ?_⟩)); first | done | fail) rfl rfl aS rfl (by (repeat' (first | exact trivial | refine ⟨⟨rfl, rfl, (by first | rfl | (simp; done) | omega), rfl, rfl⟩, ?_⟩)); first | done | fail) rfl rfl rfl rfl ?_; simp only [cl])) | (refine x_nil (hK _ _ aI ?_); clear hK K)) | (refine v_region (fun K hK => ?_)) | (refine v_condt rfl (fun h => ?_) (fun h => ?_) <;> (have h' := h; try simp only [sx] at h')))
      all_goals try (exfalso; omega)
      all_goals (refine q_next (m + 1, (f (m + 1)).1, us, ul, v - 1) rfl (by refine ⟨?_, ?_, rfl, rfl⟩ <;> (repeat' (first | exact trivial | exact ⟨rfl, rfl⟩ | exact rfl | exact ⟨sub_fn, refs_fn⟩ | refine ⟨⟨rfl, rfl⟩, ?_⟩ | refine ⟨⟨sub_fn, refs_fn⟩, ?_⟩ | refine ⟨⟨rfl, fun h => Bool.noConfusion h⟩, ?_⟩ | refine ⟨⟨rfl, fun h => ?_⟩, ?_⟩ | refine ⟨rfl, ?_⟩ | refine ⟨?_, ?_⟩ | fail))) ⟨rfl, by simp only; rw [ep, eP], by first | omega | (simp only; omega), by first | omega | (simp only; omega), hul⟩ (by first | omega | (simp only; omega)))
    · have kP := k_l1PutN us x aO hin
      repeat' (first | (refine pA (k := ?_)) | (refine g_exec ?_; first | (refine g_call ?_; first | (refine x_callL [(io, 0)] (kp) rfl rfl aF rfl rfl aS rfl aH rfl ?_; simp only [cl]) | (refine x_callG true (kP) rfl rfl rfl aS rfl aH ?_; simp only [cl])) | (refine x_nil (hK _ _ aI ?_); clear hK K)) | (refine v_region (fun K hK => ?_)) | (refine v_condt rfl (fun h => ?_) (fun h => ?_) <;> (have h' := h; try simp only [sx] at h')))
      all_goals try (exfalso; omega)
      all_goals (refine q_next (m + 1, (f (m + 1)).1, put us x, (ints (put us x)).length, v - 1) rfl (by refine ⟨?_, ?_, rfl, rfl⟩ <;> (repeat' (first | exact trivial | exact ⟨rfl, rfl⟩ | exact rfl | exact ⟨sub_fn, refs_fn⟩ | refine ⟨⟨rfl, rfl⟩, ?_⟩ | refine ⟨⟨sub_fn, refs_fn⟩, ?_⟩ | refine ⟨⟨rfl, fun h => Bool.noConfusion h⟩, ?_⟩ | refine ⟨⟨rfl, fun h => ?_⟩, ?_⟩ | refine ⟨rfl, ?_⟩ | refine ⟨?_, ?_⟩ | fail))) ⟨rfl, ep.symm, by first | omega | (simp only; omega), by first | omega | (simp only; omega), rfl⟩ (by first | omega | (simp only; omega)))
  · have hmN2 : m = N := by omega
    subst hmN2
    rw [← hd] at k2
    rw [← hus] at key hlm
    rcases key with ⟨rfl, rfl, rfl⟩ | ⟨rfl, rfl, rfl⟩
    · repeat' (first | (refine pA (k := ?_)) | (refine g_exec ?_; first | (refine g_call ?_; refine x_callL [(io, 0)] (k2) rfl rfl aF rfl rfl aS rfl aH rfl ?_; simp only [cl]) | (refine x_nil (hK _ _ aI ?_); clear hK K)) | (refine v_region (fun K hK => ?_)) | (refine v_condt rfl (fun h => ?_) (fun h => ?_) <;> (have h' := h; try simp only [sx] at h')))
      all_goals first
        | (exfalso; omega)
        | exact ret_lL rfl rfl rfl (by decide) ⟨⟨rfl, rfl, fun h => by cases h⟩, trivial⟩ rfl rfl hlu rfl
    · repeat' (first | (refine pA (k := ?_)) | (refine g_exec ?_; first | (refine g_call ?_; first | (refine x_callL [(io, 0)] (k2) rfl rfl aF rfl rfl aS rfl aH rfl ?_; simp only [cl]) | (refine x_callL [(io, 0)] (k3) rfl rfl aF rfl rfl aS rfl aH rfl ?_; simp only [cl])) | (refine x_nil (hK _ _ aI ?_); clear hK K)) | (refine v_region (fun K hK => ?_)) | (refine v_condt rfl (fun h => ?_) (fun h => ?_) <;> (have h' := h; try simp only [sx] at h')))
      all_goals first
        | (exfalso; omega)
        | exact ret_lL rfl rfl rfl (by decide) ⟨⟨rfl, rfl, fun h => by cases h⟩, trivial⟩ rfl rfl (by simp [hul2]) (by simp)
theorem k_cellsOf (c : Cu) (t : Terrain) (hc : c.Ok) (hp : c.pos + 100 ≤ 1152921504606846976) (ht : TrSz t) : ∃ (xs : List Int) (c' : Cu), Dr 21 [.agg t.pv] c (.list 1 (ints xs)) c' ∧ Aft c c' 100 ∧ xs.length ≤ 5 := by
  obtain ⟨ps, c', k, h⟩ := k_cellsOfD c t hc hp ht
  exact ⟨ps, c', ConL.frz k rfl (by intro row h; simp at h; subst h; rfl), h⟩
theorem k_cellOf (c : Cu) (t : Terrain) (hc : c.Ok) (hp : c.pos + 10 ≤ 1152921504606846976) (ht : TrSz t) : ∃ (r : Int) (c' : Cu), Dr 86 [.agg t.pv] c (.int .i64 r) c' ∧ Aft c c' 4 ∧ -1 ≤ r ∧ r ≤ 26 := by
  obtain ⟨y, c1, k1, a1⟩ := k_one c 16 hc aO aO
  have o1 := a1.ok hc aO
  have p1 := a1.pos
  have hl1 : (ints t.burn).length = t.burn.length := by simp
  have ht3 := ht.2.2
  cases y
  · obtain ⟨x, c2, k2, a2, g0, g1, _⟩ := k_pick c1 t.burn.length o1 aO aO
    have g1 := g1 aO
    rw [← hl1] at k2
    refine ⟨x, c2, ?_, (a1.trans a2).le aO, by omega, by omega⟩
    refine contract_of hmix Try.func86 rfl (by kernel_rfl) (by kernel_rfl) (Nat.le_of_ble_eq_true rfl) (fun row h => by (simp only [List.mem_cons, List.not_mem_nil, or_false] at h; first | (subst h; (first | exact .inl rfl | exact .inr (fun e he u hu => by (simp only [List.mem_cons, List.not_mem_nil, or_false] at he; subst he; simp only [List.mem_cons, List.not_mem_nil, or_false] at hu; subst hu; rfl)))) | (rcases h with rfl | rfl <;> (first | exact .inl rfl | exact .inr (fun e he u hu => by (simp only [List.mem_cons, List.not_mem_nil, or_false] at he; subst he; simp only [List.mem_cons, List.not_mem_nil, or_false] at hu; subst hu; rfl)))) | (rcases h with rfl | rfl | rfl <;> (first | exact .inl rfl | exact .inr (fun e he u hu => by (simp only [List.mem_cons, List.not_mem_nil, or_false] at he; subst he; simp only [List.mem_cons, List.not_mem_nil, or_false] at hu; subst hu; rfl)))) | (rcases h with rfl | rfl | rfl | rfl <;> (first | exact .inl rfl | exact .inr (fun e he u hu => by (simp only [List.mem_cons, List.not_mem_nil, or_false] at he; subst he; simp only [List.mem_cons, List.not_mem_nil, or_false] at hu; subst hu; rfl)))))) ?_
    have hty_f26_2 := ty_f26_2
    have hty_c24 := ty_c24
    have hty_u24 := ty_u24
    have hty_s24 := ty_s24
    repeat' (first | (refine pA (k := ?_)) | (refine g_exec ?_; first | (refine g_call ?_; first | (refine x_callL [(io, 0)] (k1) rfl rfl aF rfl rfl aS rfl aH rfl ?_; simp only [cl]) | (refine x_callL [(io, 0)] (k2) rfl rfl aF rfl rfl aS rfl aH rfl ?_; simp only [cl])) | (refine x_nil (hK _ _ aI ?_); clear hK K)) | (refine v_region (fun K hK => ?_)) | (refine v_condt rfl (fun h => ?_) (fun h => ?_) <;> (have h' := h; try simp only [sx] at h')))
    all_goals exact ret_iL rfl rfl ⟨⟨rfl, rfl, fun h => by cases h⟩, trivial⟩ rfl
  · obtain ⟨x, c2, k2, a2, hx⟩ := k_among c1 [-1, (t.burn.length : Int)] o1 aO (by simp)
    rw [← hl1] at k2
    refine ⟨x, c2, ?_, (a1.trans a2).le aO, by simp at hx; omega, by simp at hx; omega⟩
    refine contract_of hmix Try.func86 rfl (by kernel_rfl) (by kernel_rfl) (Nat.le_of_ble_eq_true rfl) (fun row h => by (simp only [List.mem_cons, List.not_mem_nil, or_false] at h; first | (subst h; (first | exact .inl rfl | exact .inr (fun e he u hu => by (simp only [List.mem_cons, List.not_mem_nil, or_false] at he; subst he; simp only [List.mem_cons, List.not_mem_nil, or_false] at hu; subst hu; rfl)))) | (rcases h with rfl | rfl <;> (first | exact .inl rfl | exact .inr (fun e he u hu => by (simp only [List.mem_cons, List.not_mem_nil, or_false] at he; subst he; simp only [List.mem_cons, List.not_mem_nil, or_false] at hu; subst hu; rfl)))) | (rcases h with rfl | rfl | rfl <;> (first | exact .inl rfl | exact .inr (fun e he u hu => by (simp only [List.mem_cons, List.not_mem_nil, or_false] at he; subst he; simp only [List.mem_cons, List.not_mem_nil, or_false] at hu; subst hu; rfl)))) | (rcases h with rfl | rfl | rfl | rfl <;> (first | exact .inl rfl | exact .inr (fun e he u hu => by (simp only [List.mem_cons, List.not_mem_nil, or_false] at he; subst he; simp only [List.mem_cons, List.not_mem_nil, or_false] at hu; subst hu; rfl)))))) ?_
    have hty_f26_2 := ty_f26_2
    have hty_c24 := ty_c24
    have hty_u24 := ty_u24
    have hty_s24 := ty_s24
    repeat' (first | (refine pA (k := ?_)) | (refine g_exec ?_; first | (refine g_call ?_; first | (refine x_callL [(io, 0)] (k1) rfl rfl aF rfl rfl aS rfl aH rfl ?_; simp only [cl]) | (refine x_callL [(io, 0)] (k2) rfl rfl aF rfl rfl aS rfl aH rfl ?_; simp only [cl])) | (refine x_nil (hK _ _ aI ?_); clear hK K)) | (refine v_region (fun K hK => ?_)) | (refine v_condt rfl (fun h => ?_) (fun h => ?_) <;> (have h' := h; try simp only [sx] at h')))
    all_goals exact ret_iL rfl rfl ⟨⟨rfl, rfl, fun h => by cases h⟩, trivial⟩ rfl
end Go.Vs
set_option linter.unusedVariables false
set_option linter.unusedSimpArgs false
set_option maxRecDepth 100000
set_option maxHeartbeats 4000000
namespace Go.Vs
open Go.Proofs
attribute [local irreducible] exec vwp thenQ blkQ loopQ RetPost
@[reducible] def bzP (b : Blz) : List PV := [.agg b.t.pv, .list 2 (b.ps.map Phase.pv), .list 1 (ints b.src), .int .i64 b.st]
@[reducible] def bzQ (b : Blz) (y : PV) : List PV := [.agg b.t.pv, .list 2 (b.ps.map Phase.pv), .list 1 (ints b.src), .int .i64 b.st, y]
structure BlzB (b : Blz) : Prop where
  t : TrSz b.t
  ps : b.ps.length ≤ 7
  src : b.src.length ≤ 5
  st : -1 ≤ b.st ∧ b.st ≤ 1001
theorem k_fire (c : Cu) (hc : c.Ok) (hp : c.pos + 1000 ≤ 1152921504606846976) :
    ContractP Try.prog 19 true [.own (io, 0) 0 0] [cuRow c] (fun r' fin' => ∃ (b : Blz) (c' : Cu), (r' = .tuple (bzP b) ∧ fin' = [[c'.pv]]) ∧ Aft c c' 1000 ∧ BlzB b) := by
  refine contract_of hmix Try.func19 rfl (by kernel_rfl) (by kernel_rfl) (Nat.le_of_ble_eq_true rfl) (fun row h => by (simp only [List.mem_cons, List.not_mem_nil, or_false] at h; first | (subst h; (first | exact .inl rfl | exact .inr (fun e he u hu => by (simp only [List.mem_cons, List.not_mem_nil, or_false] at he; subst he; simp only [List.mem_cons, List.not_mem_nil, or_false] at hu; subst hu; rfl)))) | (rcases h with rfl | rfl <;> (first | exact .inl rfl | exact .inr (fun e he u hu => by (simp only [List.mem_cons, List.not_mem_nil, or_false] at he; subst he; simp only [List.mem_cons, List.not_mem_nil, or_false] at hu; subst hu; rfl)))) | (rcases h with rfl | rfl | rfl <;> (first | exact .inl rfl | exact .inr (fun e he u hu => by (simp only [List.mem_cons, List.not_mem_nil, or_false] at he; subst he; simp only [List.mem_cons, List.not_mem_nil, or_false] at hu; subst hu; rfl)))) | (rcases h with rfl | rfl | rfl | rfl <;> (first | exact .inl rfl | exact .inr (fun e he u hu => by (simp only [List.mem_cons, List.not_mem_nil, or_false] at he; subst he; simp only [List.mem_cons, List.not_mem_nil, or_false] at hu; subst hu; rfl)))))) ?_
  have hty_a26 := ty_a26
  have hty_z26 := ty_z26
  have hty_t26 := ty_t26
  have hty_u24 := ty_u24
  have hty_s24 := ty_s24
  repeat' (first | (refine pA (k := ?_)) | (refine g_exec ?_; first | (refine g_call ?_; refine x_callLP [(io, 0)] (k_anyTerrainZ c hc aO) rfl rfl aF rfl rfl aS rfl (fun r_ fin_ hP_ => ?_); obtain ⟨t, c1, ⟨rfl, rfl⟩, a1, ht⟩ := hP_; refine ⟨_, _, _, aH, rfl, ?_⟩; simp only [cl]) | (refine g_guard ?_; refine x_gsplit rfl rfl (fun h => ?_) (fun h => ?_) <;> (have h' := h; try simp only [sx] at h')) | (refine x_nil (hK _ _ aI ?_); clear hK K)) | (refine v_region (fun K hK => ?_)) | (refine v_condt rfl (fun h => ?_) (fun h => ?_) <;> (have h' := h; try simp only [sx] at h')))
  have o1 := a1.ok hc aO
  have p1 := a1.pos
  obtain ⟨ps, c2, k2, a2, hps⟩ := k_phasesZ c1 o1 aO
  have o2 := a2.ok o1 aO
  have p2 := a2.pos
  obtain ⟨xs, c3, k3, a3, hxs⟩ := k_cellsOf c2 t o2 aO ht
  have o3 := a3.ok o2 aO
  have p3 := a3.pos
  have aft3 := (a1.trans a2).trans a3
  repeat' (first | (refine pA (k := ?_)) | (refine g_exec ?_; first | (refine g_call ?_; first | (refine x_callL [(io, 0)] (k2) rfl rfl aF rfl rfl aS rfl aH rfl ?_; simp only [cl]) | (refine x_callL [(io, 0)] (k3) rfl rfl aF rfl rfl aS rfl aH rfl ?_; simp only [cl])) | (refine g_guard ?_; refine x_gsplit rfl rfl (fun h => ?_) (fun h => ?_) <;> (have h' := h; try simp only [sx] at h')) | (refine x_nil (hK _ _ aI ?_); clear hK K)) | (refine v_region (fun K hK => ?_)) | (refine v_condt rfl (fun h => ?_) (fun h => ?_) <;> (have h' := h; try simp only [sx] at h')))
  refine v_loopK [0, 2, 6, 7] [(io, 0)] (fun q : Cu × List Int × Nat => [(8, .list 1 (ints q.2.1)), (9, .int .i64 q.2.2)]) (fun q : Cu × List Int × Nat => [((io, 0), some (cuRow q.1))]) (fun q : Cu × List Int × Nat => Aft c3 q.1 (100 * q.2.2) ∧ q.2.1.length ≤ 5 ∧ q.2.2 ≤ 3) (fun q : Cu × List Int × Nat => 3 - q.2.2) ((c3, xs, 0)) rfl rfl (fun _ => rfl) (fun _ => rfl) rfl (by refine ⟨?_, ?_, rfl, rfl⟩ <;> (repeat' (first | exact trivial | exact ⟨rfl, rfl⟩ | exact rfl | exact ⟨sub_fn, refs_fn⟩ | refine ⟨⟨rfl, rfl⟩, ?_⟩ | refine ⟨⟨sub_fn, refs_fn⟩, ?_⟩ | refine ⟨⟨rfl, fun h => Bool.noConfusion h⟩, ?_⟩ | refine ⟨⟨rfl, fun h => ?_⟩, ?_⟩ | refine ⟨rfl, ?_⟩ | refine ⟨?_, ?_⟩ | fail))) ⟨(Aft.refl c3).le (by simp only; omega), hxs, by simp only; omega⟩ (fun q hq => ?_)
  obtain ⟨d, us, i⟩ := q
  obtain ⟨ad, hus, hi⟩ := hq
  simp only at ad hus hi
  dsimp only
  have od := ad.ok o3 aO
  have pd := ad.pos
  have hl1 : (ints us).length = us.length := by simp
  by_cases hgo : i < 3 ∧ us.length = 0
  · obtain ⟨ys, c4, k4, a4, hys⟩ := k_cellsOf d t od aO ht
    repeat' (first | (refine pA (k := ?_)) | (refine g_exec ?_; first | (refine g_call ?_; refine x_callL [(io, 0)] (k4) rfl rfl aF rfl rfl aS rfl aH rfl ?_; simp only [cl]) | (refine g_guard ?_; refine x_gsplit rfl rfl (fun h => ?_) (fun h => ?_) <;> (have h' := h; try simp only [sx] at h')) | (refine x_nil (hK _ _ aI ?_); clear hK K)) | (refine v_region (fun K hK => ?_)) | (refine v_condt rfl (fun h => ?_) (fun h => ?_) <;> (have h' := h; try simp only [sx] at h')))
    all_goals try (exfalso; omega)
    all_goals (refine q_next (c4, ys, i + 1) rfl (by refine ⟨?_, ?_, rfl, rfl⟩ <;> (repeat' (first | exact trivial | exact ⟨rfl, rfl⟩ | exact rfl | exact ⟨sub_fn, refs_fn⟩ | refine ⟨⟨rfl, rfl⟩, ?_⟩ | refine ⟨⟨sub_fn, refs_fn⟩, ?_⟩ | refine ⟨⟨rfl, fun h => Bool.noConfusion h⟩, ?_⟩ | refine ⟨⟨rfl, fun h => ?_⟩, ?_⟩ | refine ⟨rfl, ?_⟩ | refine ⟨?_, ?_⟩ | fail))) ⟨(ad.trans a4).le (by simp only; omega), hys, by simp only; omega⟩ (by simp only; omega))
  · obtain ⟨s, c4, k4, a4, h1, h2⟩ := k_startTick d od aO
    repeat' (first | (refine pA (k := ?_)) | (refine g_exec ?_; first | (refine g_call ?_; refine x_callL [(io, 0)] (k4) rfl rfl aF rfl rfl aS rfl aH rfl ?_; simp only [cl]) | (refine g_guard ?_; refine x_gsplit rfl rfl (fun h => ?_) (fun h => ?_) <;> (have h' := h; try simp only [sx] at h')) | (refine x_nil (hK _ _ aI ?_); clear hK K)) | (refine v_region (fun K hK => ?_)) | (refine v_condt rfl (fun h => ?_) (fun h => ?_) <;> (have h' := h; try simp only [sx] at h')))
    all_goals first
      | (exfalso; omega)
      | (refine RetPost.mono (fun r fin h => ⟨⟨t, ps, us, s⟩, c4, h, ((aft3.trans ad).trans a4).le aO, ⟨ht, hps, hus, ⟨h1, h2⟩⟩⟩) ?_
         (first | refine ret_TL rfl rfl rfl (by first | exact trivial | (repeat' (first | exact trivial | refine ⟨by assumption, ?_⟩))) (by repeat' (first | exact trivial | refine ⟨by simp, ?_⟩)) (by first | exact trivial | exact ⟨⟨rfl, rfl, fun h => by cases h⟩, trivial⟩) ?_ | refine ret_AL rfl rfl rfl (by first | exact trivial | (repeat' (first | exact trivial | refine ⟨by assumption, ?_⟩))) (by repeat' (first | exact trivial | refine ⟨by simp, ?_⟩)) (by first | exact trivial | exact ⟨⟨rfl, rfl, fun h => by cases h⟩, trivial⟩) ?_); (repeat' (first | exact et_end | exact el_end | refine et_int rfl ?_ ?_ | refine et_bool ?_ ?_ | refine et_str ?_ ?_ | refine et_lst rfl rfl ?_ ?_ | refine et_listA rfl (by rfl) (by decide) rfl rfl ?_ ?_ ?_ | refine et_nil ?_ ?_ | refine et_agg0 ?_ ?_ | refine et_agg ?_ ?_ | refine el_int rfl ?_ ?_ | refine el_bool ?_ ?_ | refine el_str ?_ ?_ | refine el_lst rfl rfl ?_ ?_ | refine el_listA rfl (by rfl) (by decide) rfl rfl ?_ ?_ ?_ | refine el_nil ?_ ?_)) <;> first | rfl | (simp; done) | omega)
end Go.Vs
set_option linter.unusedVariables false
set_option linter.unusedSimpArgs false
set_option maxRecDepth 100000
set_option maxHeartbeats 4000000
namespace Go.Vs
open Go.Proofs
attribute [local irreducible] exec vwp thenQ blkQ loopQ RetPost
theorem k_threat (c : Cu) (hc : c.Ok) (hp : c.pos + 1000 ≤ 1152921504606846976) :
    ContractP Try.prog 68 true [.own (io, 0) 0 0] [cuRow c] (fun r' fin' => ∃ (t : Terrain) (xs ys : List Int) (c' : Cu), (r' = .tuple [.agg t.pv, .list 1 (ints xs), .list 1 (ints ys)] ∧ fin' = [[c'.pv]]) ∧ Aft c c' 700 ∧ TrSz t ∧ xs.length ≤ 5 ∧ ys.length ≤ 5) := by
  refine contract_of hmix Try.func68 rfl (by kernel_rfl) (by kernel_rfl) (Nat.le_of_ble_eq_true rfl) (fun row h => by (simp only [List.mem_cons, List.not_mem_nil, or_false] at h; first | (subst h; (first | exact .inl rfl | exact .inr (fun e he u hu => by (simp only [List.mem_cons, List.not_mem_nil, or_false] at he; subst he; simp only [List.mem_cons, List.not_mem_nil, or_false] at hu; subst hu; rfl)))) | (rcases h with rfl | rfl <;> (first | exact .inl rfl | exact .inr (fun e he u hu => by (simp only [List.mem_cons, List.not_mem_nil, or_false] at he; subst he; simp only [List.mem_cons, List.not_mem_nil, or_false] at hu; subst hu; rfl)))) | (rcases h with rfl | rfl | rfl <;> (first | exact .inl rfl | exact .inr (fun e he u hu => by (simp only [List.mem_cons, List.not_mem_nil, or_false] at he; subst he; simp only [List.mem_cons, List.not_mem_nil, or_false] at hu; subst hu; rfl)))) | (rcases h with rfl | rfl | rfl | rfl <;> (first | exact .inl rfl | exact .inr (fun e he u hu => by (simp only [List.mem_cons, List.not_mem_nil, or_false] at he; subst he; simp only [List.mem_cons, List.not_mem_nil, or_false] at hu; subst hu; rfl)))))) ?_
  have hty_a26 := ty_a26
  have hty_z26 := ty_z26
  have hty_t26 := ty_t26
  have hty_f26_2 := ty_f26_2
  have hty_c24 := ty_c24
  have hty_u24 := ty_u24
  have hty_s24 := ty_s24
  have hty_c3 := ty_c3
  repeat' (first | (refine g_exec ?_; first | (refine x_buildSliceL (d := 18) aA rfl rfl rfl ?_) | (refine x_buildSliceL (d := 22) aA rfl rfl rfl ?_) | (refine x_buildSliceL (d := 49) aA rfl rfl rfl ?_) | (refine x_buildSliceL (d := 53) aA rfl rfl rfl ?_)) | (refine pA (k := ?_)) | (refine g_exec ?_; first | (refine g_call ?_; refine x_callLP [(io, 0)] (k_anyTerrainZ c hc aO) rfl rfl aF rfl rfl aS rfl (fun r_ fin_ hP_ => ?_); obtain ⟨t, c1, ⟨rfl, rfl⟩, a1, ht⟩ := hP_; refine ⟨_, _, _, aH, rfl, ?_⟩; simp only [cl]) | (refine g_guard ?_; refine x_gsplit rfl rfl (fun h => ?_) (fun h => ?_) <;> (have h' := h; try simp only [sx] at h')) | (refine x_nil (hK _ _ aI ?_); clear hK K)) | (refine v_region (fun K hK => ?_)) | (refine v_condt rfl (fun h => ?_) (fun h => ?_) <;> (have h' := h; try simp only [sx] at h')))
  have o1 := a1.ok hc aO
  have p1 := a1.pos
  have ht3 := ht.2.2
  have hl1 : (ints t.burn).length = t.burn.length := by simp
  obtain ⟨x0, c2, k2, a2, x1, x2, _⟩ := k_pick c1 t.burn.length o1 aO aO
  have x2 := x2 aO
  have o2 := a2.ok o1 aO
  have p2 := a2.pos
  obtain ⟨y0, c3, k3, a3, y1, y2, _⟩ := k_pick c2 t.burn.length o2 aO aO
  have y2 := y2 aO
  have o3 := a3.ok o2 aO
  have p3 := a3.pos
  have aft3 := (a1.trans a2).trans a3
  rw [← hl1] at k2 k3
  repeat' (first | (refine g_exec ?_; first | (refine x_buildSliceL (d := 18) aA rfl rfl rfl ?_) | (refine x_buildSliceL (d := 22) aA rfl rfl rfl ?_) | (refine x_buildSliceL (d := 49) aA rfl rfl rfl ?_) | (refine x_buildSliceL (d := 53) aA rfl rfl rfl ?_)) | (refine pB (k := ?_)) | (refine v_seqN 3000004 rfl ?_) | (refine g_exec ?_; first | (refine g_call ?_; first | (refine x_callL [(io, 0)] (k2) rfl rfl aF rfl rfl aS rfl aH rfl ?_; simp only [cl]) | (refine x_callL [(io, 0)] (k3) rfl rfl aF rfl rfl aS rfl aH rfl ?_; simp only [cl])) | (refine g_guard ?_; refine x_gsplit rfl rfl (fun h => ?_) (fun h => ?_) <;> (have h' := h; try simp only [sx] at h')) | (refine x_nil (hK _ _ aI ?_); clear hK K)) | (refine v_region (fun K hK => ?_)) | (refine v_condt rfl (fun h => ?_) (fun h => ?_) <;> (have h' := h; try simp only [sx] at h')))
  all_goals try (exfalso; omega)
  refine v_cutK [0, 2, 5, 6] [(io, 0)] (fun q : Cu × List Int × List Int => [(7, .list 1 (ints q.2.1)), (8, .list 1 (ints q.2.2))]) (fun q : Cu × List Int × List Int => [((io, 0), some (cuRow q.1))]) (fun q : Cu × List Int × List Int => Aft c3 q.1 20 ∧ q.2.1.length = 1 ∧ q.2.2.length = 1) rfl rfl (fun _ => rfl) (fun _ => rfl) ?_ (fun q hq => ?_)
  · repeat' (first | (refine g_exec ?_; first | (refine x_buildSliceL (d := 18) aA rfl rfl rfl ?_) | (refine x_buildSliceL (d := 22) aA rfl rfl rfl ?_) | (refine x_buildSliceL (d := 49) aA rfl rfl rfl ?_) | (refine x_buildSliceL (d := 53) aA rfl rfl rfl ?_)) | (refine pA (k := ?_)) | (refine g_exec ?_; first | (refine g_guard ?_; refine x_gsplit rfl rfl (fun h => ?_) (fun h => ?_) <;> (have h' := h; try simp only [sx] at h')) | (refine x_nil (hK _ _ aI ?_); clear hK K)) | (refine v_region (fun K hK => ?_)) | (refine v_condt rfl (fun h => ?_) (fun h => ?_) <;> (have h' := h; try simp only [sx] at h')))
    refine v_loopK [0, 2, 5, 6] [(io, 0)] (fun q : Cu × Int × Int × Nat => [(7, .list 1 [[.int .i64 q.2.1]]), (8, .list 1 [[.int .i64 q.2.2.1]]), (9, .int .i64 q.2.2.2)]) (fun q : Cu × Int × Int × Nat => [((io, 0), some (cuRow q.1))]) (fun q : Cu × Int × Int × Nat => Aft c3 q.1 (4 * q.2.2.2) ∧ (0 ≤ q.2.1 ∧ q.2.1 < t.burn.length) ∧ (0 ≤ q.2.2.1 ∧ q.2.2.1 < t.burn.length) ∧ q.2.2.2 ≤ 4) (fun q : Cu × Int × Int × Nat => 4 - q.2.2.2) ((c3, x0, y0, 0)) rfl rfl (fun _ => rfl) (fun _ => rfl) rfl (by refine ⟨?_, ?_, rfl, rfl⟩ <;> (repeat' (first | exact trivial | exact ⟨rfl, rfl⟩ | exact rfl | exact ⟨sub_fn, refs_fn⟩ | refine ⟨⟨rfl, rfl⟩, ?_⟩ | refine ⟨⟨sub_fn, refs_fn⟩, ?_⟩ | refine ⟨⟨rfl, fun h => Bool.noConfusion h⟩, ?_⟩ | refine ⟨⟨rfl, fun h => ?_⟩, ?_⟩ | refine ⟨rfl, ?_⟩ | refine ⟨?_, ?_⟩ | fail))) ⟨(Aft.refl c3).le (by first | omega | (simp only; omega)), ⟨x1, x2⟩, ⟨y1, y2⟩, by first | omega | (simp only; omega)⟩ (fun q hq => ?_)
    obtain ⟨d, x, y, k⟩ := q
    obtain ⟨ad, hx, hy, hk⟩ := hq
    simp only at ad hx hy hk
    dsimp only
    have od := ad.ok o3 aO
    have pd := ad.pos
    have kG := k_l2Good t aO
    have hx0 : ([[PV.int .i64 x]] : List (List PV))[Int.toNat 0]? = some [PV.int .i64 x] := rfl
    have hy0 : ([[PV.int .i64 y]] : List (List PV))[Int.toNat 0]? = some [PV.int .i64 y] := rfl
    obtain ⟨x', c4, k4, a4, g1, g2, _⟩ := k_pick d t.burn.length od aO aO
    have g2 := g2 aO
    have o4 := a4.ok od aO
    have p4 := a4.pos
    obtain ⟨y', c5, k5, a5, g3, g4, _⟩ := k_pick c4 t.burn.length o4 aO aO
    have g4 := g4 aO
    rw [← hl1] at k4 k5
    by_cases hg : GoodT t
    · have kA := k_l2Apart t x y hg ⟨hx.1, hx.2⟩ ⟨hy.1, hy.2⟩
      rw [decide_eq_true hg] at kG
      repeat' (first | (refine g_exec ?_; first | (refine x_buildSliceL (d := 18) aA rfl rfl rfl ?_) | (refine x_buildSliceL (d := 22) aA rfl rfl rfl ?_) | (refine x_buildSliceL (d := 49) aA rfl rfl rfl ?_) | (refine x_buildSliceL (d := 53) aA rfl rfl rfl ?_)) | (refine pA (k := ?_)) | (refine g_exec ?_; first | (refine g_call ?_; first | (refine x_callG true (kG) rfl rfl rfl aS rfl aH ?_; simp only [cl]) | (refine x_callG true (kA) rfl rfl rfl aS rfl aH ?_; simp only [cl]) | (refine x_callL [(io, 0)] (k4) rfl rfl aF rfl rfl aS rfl aH rfl ?_; simp only [cl]) | (refine x_callL [(io, 0)] (k5) rfl rfl aF rfl rfl aS rfl aH rfl ?_; simp only [cl])) | (refine g_guard ?_; refine x_gsplit rfl rfl (fun h => ?_) (fun h => ?_) <;> (have h' := h; try simp only [sx] at h')) | (refine x_nil (hK _ _ aI ?_); clear hK K)) | (refine v_region (fun K hK => ?_)) | (refine v_condt rfl (fun h => ?_) (fun h => ?_) <;> (have h' := h; try simp only [sx] at h')))
      all_goals first
        | (exfalso; omega)
        | (refine q_next (c5, x', y', k + 1) rfl (by refine ⟨?_, ?_, rfl, rfl⟩ <;> (repeat' (first | exact trivial | exact ⟨rfl, rfl⟩ | exact rfl | exact ⟨sub_fn, refs_fn⟩ | refine ⟨⟨rfl, rfl⟩, ?_⟩ | refine ⟨⟨sub_fn, refs_fn⟩, ?_⟩ | refine ⟨⟨rfl, fun h => Bool.noConfusion h⟩, ?_⟩ | refine ⟨⟨rfl, fun h => ?_⟩, ?_⟩ | refine ⟨rfl, ?_⟩ | refine ⟨?_, ?_⟩ | fail))) ⟨((ad.trans a4).trans a5).le (by first | omega | (simp only; omega)), ⟨g1, g2⟩, ⟨g3, g4⟩, by first | omega | (simp only; omega)⟩ (by first | omega | (simp only; omega)))
        | (refine q_next (d, [x], [y]) rfl (by refine ⟨?_, ?_, rfl, rfl⟩ <;> (repeat' (first | exact trivial | exact ⟨rfl, rfl⟩ | exact rfl | exact ⟨sub_fn, refs_fn⟩ | refine ⟨⟨rfl, rfl⟩, ?_⟩ | refine ⟨⟨sub_fn, refs_fn⟩, ?_⟩ | refine ⟨⟨rfl, fun h => Bool.noConfusion h⟩, ?_⟩ | refine ⟨⟨rfl, fun h => ?_⟩, ?_⟩ | refine ⟨rfl, ?_⟩ | refine ⟨?_, ?_⟩ | fail))) ⟨ad.le (by first | omega | (simp only; omega)), rfl, rfl⟩ (by decide))
    · rw [decide_eq_false hg] at kG
      repeat' (first | (refine g_exec ?_; first | (refine x_buildSliceL (d := 18) aA rfl rfl rfl ?_) | (refine x_buildSliceL (d := 22) aA rfl rfl rfl ?_) | (refine x_buildSliceL (d := 49) aA rfl rfl rfl ?_) | (refine x_buildSliceL (d := 53) aA rfl rfl rfl ?_)) | (refine pA (k := ?_)) | (refine g_exec ?_; first | (refine g_call ?_; refine x_callG true (kG) rfl rfl rfl aS rfl aH ?_; simp only [cl]) | (refine g_guard ?_; refine x_gsplit rfl rfl (fun h => ?_) (fun h => ?_) <;> (have h' := h; try simp only [sx] at h')) | (refine x_nil (hK _ _ aI ?_); clear hK K)) | (refine v_region (fun K hK => ?_)) | (refine v_condt rfl (fun h => ?_) (fun h => ?_) <;> (have h' := h; try simp only [sx] at h')))
      all_goals first
        | (exfalso; omega)
        | (refine q_next (d, [x], [y]) rfl (by refine ⟨?_, ?_, rfl, rfl⟩ <;> (repeat' (first | exact trivial | exact ⟨rfl, rfl⟩ | exact rfl | exact ⟨sub_fn, refs_fn⟩ | refine ⟨⟨rfl, rfl⟩, ?_⟩ | refine ⟨⟨sub_fn, refs_fn⟩, ?_⟩ | refine ⟨⟨rfl, fun h => Bool.noConfusion h⟩, ?_⟩ | refine ⟨⟨rfl, fun h => ?_⟩, ?_⟩ | refine ⟨rfl, ?_⟩ | refine ⟨?_, ?_⟩ | fail))) ⟨ad.le (by first | omega | (simp only; omega)), rfl, rfl⟩ (by decide))
  clear x1 x2 y1 y2 k2 k3
  obtain ⟨d, xs, ys⟩ := q
  obtain ⟨ad, hxl, hyl⟩ := hq
  simp only at ad hxl hyl
  dsimp only
  have od := ad.ok o3 aO
  have pd := ad.pos
  have aftd := aft3.trans ad
  repeat' (first | (refine g_exec ?_; first | (refine x_buildSliceL (d := 18) aA rfl rfl rfl ?_) | (refine x_buildSliceL (d := 22) aA rfl rfl rfl ?_) | (refine x_buildSliceL (d := 49) aA rfl rfl rfl ?_) | (refine x_buildSliceL (d := 53) aA rfl rfl rfl ?_)) | (refine pB (k := ?_)) | (refine v_seqN 3000009 rfl ?_) | (refine g_exec ?_; first | (refine g_guard ?_; refine x_gsplit rfl rfl (fun h => ?_) (fun h => ?_) <;> (have h' := h; try simp only [sx] at h')) | (refine x_nil (hK _ _ aI ?_); clear hK K)) | (refine v_region (fun K hK => ?_)) | (refine v_condt rfl (fun h => ?_) (fun h => ?_) <;> (have h' := h; try simp only [sx] at h')))
  refine v_cutK [0, 2, 5, 6, 8] [(io, 0)] (fun q : Cu × List Int => [(7, .list 1 (ints q.2))]) (fun q : Cu × List Int => [((io, 0), some (cuRow q.1))]) (fun q : Cu × List Int => Aft d q.1 4 ∧ q.2.length ≤ 2) rfl rfl (fun _ => rfl) (fun _ => rfl) ?_ (fun q hq => ?_)
  · obtain ⟨b, e1, kb, ab⟩ := k_one d 3 od aO aO
    have ob := ab.ok od aO
    have pb := ab.pos
    cases b with
    | false =>
      repeat' (first | (refine g_exec ?_; first | (refine x_buildSliceL (d := 18) aA rfl rfl rfl ?_) | (refine x_buildSliceL (d := 22) aA rfl rfl rfl ?_) | (refine x_buildSliceL (d := 49) aA rfl rfl rfl ?_) | (refine x_buildSliceL (d := 53) aA rfl rfl rfl ?_)) | (refine pA (k := ?_)) | (refine g_exec ?_; first | (refine g_call ?_; refine x_callL [(io, 0)] (kb) rfl rfl aF rfl rfl aS rfl aH rfl ?_; simp only [cl]) | (refine g_guard ?_; refine x_gsplit rfl rfl (fun h => ?_) (fun h => ?_) <;> (have h' := h; try simp only [sx] at h')) | (refine x_nil (hK _ _ aI ?_); clear hK K)) | (refine v_region (fun K hK => ?_)) | (refine v_condt rfl (fun h => ?_) (fun h => ?_) <;> (have h' := h; try simp only [sx] at h')))
      all_goals first
        | (exfalso; omega)
        | (refine q_next (e1, xs) rfl (by refine ⟨?_, ?_, rfl, rfl⟩ <;> (repeat' (first | exact trivial | exact ⟨rfl, rfl⟩ | exact rfl | exact ⟨sub_fn, refs_fn⟩ | refine ⟨⟨rfl, rfl⟩, ?_⟩ | refine ⟨⟨sub_fn, refs_fn⟩, ?_⟩ | refine ⟨⟨rfl, fun h => Bool.noConfusion h⟩, ?_⟩ | refine ⟨⟨rfl, fun h => ?_⟩, ?_⟩ | refine ⟨rfl, ?_⟩ | refine ⟨?_, ?_⟩ | fail))) ⟨ab.le (by first | omega | (simp only; omega)), by first | omega | (simp only; omega)⟩ (by decide))
    | true =>
      obtain ⟨z, e2, kz, az, _⟩ := k_pick e1 t.burn.length ob aO aO
      rw [← hl1] at kz
      have hpl := put_len xs z
      have kP := k_l1Put xs z aO
      repeat' (first | (refine g_exec ?_; first | (refine x_buildSliceL (d := 18) aA rfl rfl rfl ?_) | (refine x_buildSliceL (d := 22) aA rfl rfl rfl ?_) | (refine x_buildSliceL (d := 49) aA rfl rfl rfl ?_) | (refine x_buildSliceL (d := 53) aA rfl rfl rfl ?_)) | (refine pA (k := ?_)) | (refine g_exec ?_; first | (refine g_call ?_; first | (refine x_callL [(io, 0)] (kb) rfl rfl aF rfl rfl aS rfl aH rfl ?_; simp only [cl]) | (refine x_callL [(io, 0)] (kz) rfl rfl aF rfl rfl aS rfl aH rfl ?_; simp only [cl]) | (refine x_callA true (kP) rfl rfl rfl rfl rfl aS rfl aH ?_; simp only [cl])) | (refine g_guard ?_; refine x_gsplit rfl rfl (fun h => ?_) (fun h => ?_) <;> (have h' := h; try simp only [sx] at h')) | (refine x_nil (hK _ _ aI ?_); clear hK K)) | (refine v_region (fun K hK => ?_)) | (refine v_condt rfl (fun h => ?_) (fun h => ?_) <;> (have h' := h; try simp only [sx] at h')))
      all_goals first
        | (exfalso; omega)
        | (refine q_next (e2, put xs z) rfl (by refine ⟨?_, ?_, rfl, rfl⟩ <;> (repeat' (first | exact trivial | exact ⟨rfl, rfl⟩ | exact rfl | exact ⟨sub_fn, refs_fn⟩ | refine ⟨⟨rfl, rfl⟩, ?_⟩ | refine ⟨⟨sub_fn, refs_fn⟩, ?_⟩ | refine ⟨⟨rfl, fun h => Bool.noConfusion h⟩, ?_⟩ | refine ⟨⟨rfl, fun h => ?_⟩, ?_⟩ | refine ⟨rfl, ?_⟩ | refine ⟨?_, ?_⟩ | fail))) ⟨(ab.trans az).le (by first | omega | (simp only; omega)), by first | omega | (simp only; omega)⟩ (by decide))
  obtain ⟨e, us⟩ := q
  obtain ⟨ae, hul⟩ := hq
  simp only at ae hul
  dsimp only
  have oe := ae.ok od aO
  have pe := ae.pos
  have afte := aftd.trans ae
  repeat' (first | (refine g_exec ?_; first | (refine x_buildSliceL (d := 18) aA rfl rfl rfl ?_) | (refine x_buildSliceL (d := 22) aA rfl rfl rfl ?_) | (refine x_buildSliceL (d := 49) aA rfl rfl rfl ?_) | (refine x_buildSliceL (d := 53) aA rfl rfl rfl ?_)) | (refine pB (k := ?_)) | (refine v_seqN 3000011 rfl ?_) | (refine g_exec ?_; first | (refine g_guard ?_; refine x_gsplit rfl rfl (fun h => ?_) (fun h => ?_) <;> (have h' := h; try simp only [sx] at h')) | (refine x_nil (hK _ _ aI ?_); clear hK K)) | (refine v_region (fun K hK => ?_)) | (refine v_condt rfl (fun h => ?_) (fun h => ?_) <;> (have h' := h; try simp only [sx] at h')))
  refine v_cutK [0, 2, 5, 7] [(io, 0)] (fun q : Cu × List Int => [(8, .list 1 (ints q.2))]) (fun q : Cu × List Int => [((io, 0), some (cuRow q.1))]) (fun q : Cu × List Int => Aft e q.1 4 ∧ q.2.length ≤ 2) rfl rfl (fun _ => rfl) (fun _ => rfl) ?_ (fun q hq => ?_)
  · obtain ⟨b, e1, kb, ab⟩ := k_one e 3 oe aO aO
    have ob := ab.ok oe aO
    have pb := ab.pos
    cases b with
    | false =>
      repeat' (first | (refine g_exec ?_; first | (refine x_buildSliceL (d := 18) aA rfl rfl rfl ?_) | (refine x_buildSliceL (d := 22) aA rfl rfl rfl ?_) | (refine x_buildSliceL (d := 49) aA rfl rfl rfl ?_) | (refine x_buildSliceL (d := 53) aA rfl rfl rfl ?_)) | (refine pA (k := ?_)) | (refine g_exec ?_; first | (refine g_call ?_; refine x_callL [(io, 0)] (kb) rfl rfl aF rfl rfl aS rfl aH rfl ?_; simp only [cl]) | (refine g_guard ?_; refine x_gsplit rfl rfl (fun h => ?_) (fun h => ?_) <;> (have h' := h; try simp only [sx] at h')) | (refine x_nil (hK _ _ aI ?_); clear hK K)) | (refine v_region (fun K hK => ?_)) | (refine v_condt rfl (fun h => ?_) (fun h => ?_) <;> (have h' := h; try simp only [sx] at h')))
      all_goals first
        | (exfalso; omega)
        | (refine q_next (e1, ys) rfl (by refine ⟨?_, ?_, rfl, rfl⟩ <;> (repeat' (first | exact trivial | exact ⟨rfl, rfl⟩ | exact rfl | exact ⟨sub_fn, refs_fn⟩ | refine ⟨⟨rfl, rfl⟩, ?_⟩ | refine ⟨⟨sub_fn, refs_fn⟩, ?_⟩ | refine ⟨⟨rfl, fun h => Bool.noConfusion h⟩, ?_⟩ | refine ⟨⟨rfl, fun h => ?_⟩, ?_⟩ | refine ⟨rfl, ?_⟩ | refine ⟨?_, ?_⟩ | fail))) ⟨ab.le (by first | omega | (simp only; omega)), by first | omega | (simp only; omega)⟩ (by decide))
    | true =>
      obtain ⟨z, e2, kz, az, _⟩ := k_pick e1 t.burn.length ob aO aO
      rw [← hl1] at kz
      have hpl := put_len ys z
      have kP := k_l1Put ys z aO
      repeat' (first | (refine g_exec ?_; first | (refine x_buildSliceL (d := 18) aA rfl rfl rfl ?_) | (refine x_buildSliceL (d := 22) aA rfl rfl rfl ?_) | (refine x_buildSliceL (d := 49) aA rfl rfl rfl ?_) | (refine x_buildSliceL (d := 53) aA rfl rfl rfl ?_)) | (refine pA (k := ?_)) | (refine g_exec ?_; first | (refine g_call ?_; first | (refine x_callL [(io, 0)] (kb) rfl rfl aF rfl rfl aS rfl aH rfl ?_; simp only [cl]) | (refine x_callL [(io, 0)] (kz) rfl rfl aF rfl rfl aS rfl aH rfl ?_; simp only [cl]) | (refine x_callA true (kP) rfl rfl rfl rfl rfl aS rfl aH ?_; simp only [cl])) | (refine g_guard ?_; refine x_gsplit rfl rfl (fun h => ?_) (fun h => ?_) <;> (have h' := h; try simp only [sx] at h')) | (refine x_nil (hK _ _ aI ?_); clear hK K)) | (refine v_region (fun K hK => ?_)) | (refine v_condt rfl (fun h => ?_) (fun h => ?_) <;> (have h' := h; try simp only [sx] at h')))
      all_goals first
        | (exfalso; omega)
        | (refine q_next (e2, put ys z) rfl (by refine ⟨?_, ?_, rfl, rfl⟩ <;> (repeat' (first | exact trivial | exact ⟨rfl, rfl⟩ | exact rfl | exact ⟨sub_fn, refs_fn⟩ | refine ⟨⟨rfl, rfl⟩, ?_⟩ | refine ⟨⟨sub_fn, refs_fn⟩, ?_⟩ | refine ⟨⟨rfl, fun h => Bool.noConfusion h⟩, ?_⟩ | refine ⟨⟨rfl, fun h => ?_⟩, ?_⟩ | refine ⟨rfl, ?_⟩ | refine ⟨?_, ?_⟩ | fail))) ⟨(ab.trans az).le (by first | omega | (simp only; omega)), by first | omega | (simp only; omega)⟩ (by decide))
  obtain ⟨g, vs⟩ := q
  obtain ⟨ag, hvl⟩ := hq
  simp only at ag hvl
  dsimp only
  have og := ag.ok oe aO
  have pg := ag.pos
  have aftg := afte.trans ag
  obtain ⟨r, g1, kr, ar, _⟩ := k_pick g 24 og aO aO
  have or := ar.ok og aO
  have pr := ar.pos
  obtain ⟨zs, g2, kc, ac, hzl⟩ := k_cellsOf g1 t or aO ht
  by_cases r0 : r = 0
  · repeat' (first | (refine g_exec ?_; first | (refine x_buildSliceL (d := 18) aA rfl rfl rfl ?_) | (refine x_buildSliceL (d := 22) aA rfl rfl rfl ?_) | (refine x_buildSliceL (d := 49) aA rfl rfl rfl ?_) | (refine x_buildSliceL (d := 53) aA rfl rfl rfl ?_)) | (refine pA (k := ?_)) | (refine g_exec ?_; first | (refine g_call ?_; first | (refine x_callL [(io, 0)] (kr) rfl rfl aF rfl rfl aS rfl aH rfl ?_; simp only [cl]) | (refine x_callL [(io, 0)] (kc) rfl rfl aF rfl rfl aS rfl aH rfl ?_; simp only [cl])) | (refine g_guard ?_; refine x_gsplit rfl rfl (fun h => ?_) (fun h => ?_) <;> (have h' := h; try simp only [sx] at h')) | (refine x_nil (hK _ _ aI ?_); clear hK K)) | (refine v_region (fun K hK => ?_)) | (refine v_condt rfl (fun h => ?_) (fun h => ?_) <;> (have h' := h; try simp only [sx] at h')))
    all_goals first
      | (exfalso; omega)
      | (refine RetPost.mono (fun r fin h => ⟨t, us, zs, g2, h, ((aftg.trans ar).trans ac).le aO, ht, by omega, hzl⟩) ?_
         (first | refine ret_TL rfl rfl rfl (by first | exact trivial | (repeat' (first | exact trivial | refine ⟨by assumption, ?_⟩))) (by repeat' (first | exact trivial | refine ⟨by simp, ?_⟩)) (by first | exact trivial | exact ⟨⟨rfl, rfl, fun h => by cases h⟩, trivial⟩) ?_ | refine ret_AL rfl rfl rfl (by first | exact trivial | (repeat' (first | exact trivial | refine ⟨by assumption, ?_⟩))) (by repeat' (first | exact trivial | refine ⟨by simp, ?_⟩)) (by first | exact trivial | exact ⟨⟨rfl, rfl, fun h => by cases h⟩, trivial⟩) ?_); (repeat' (first | exact et_end | exact el_end | refine et_int rfl ?_ ?_ | refine et_bool ?_ ?_ | refine et_str ?_ ?_ | refine et_lst rfl rfl ?_ ?_ | refine et_listA rfl (by rfl) (by decide) rfl rfl ?_ ?_ ?_ | refine et_nil ?_ ?_ | refine et_agg0 ?_ ?_ | refine et_agg ?_ ?_ | refine el_int rfl ?_ ?_ | refine el_bool ?_ ?_ | refine el_str ?_ ?_ | refine el_lst rfl rfl ?_ ?_ | refine el_listA rfl (by rfl) (by decide) rfl rfl ?_ ?_ ?_ | refine el_nil ?_ ?_)) <;> first | rfl | (simp; done) | omega)
  · by_cases r1 : r = 1
    · repeat' (first | (refine g_exec ?_; first | (refine x_buildSliceL (d := 18) aA rfl rfl rfl ?_) | (refine x_buildSliceL (d := 22) aA rfl rfl rfl ?_) | (refine x_buildSliceL (d := 49) aA rfl rfl rfl ?_) | (refine x_buildSliceL (d := 53) aA rfl rfl rfl ?_)) | (refine pA (k := ?_)) | (refine g_exec ?_; first | (refine g_call ?_; first | (refine x_callL [(io, 0)] (kr) rfl rfl aF rfl rfl aS rfl aH rfl ?_; simp only [cl]) | (refine x_callL [(io, 0)] (kc) rfl rfl aF rfl rfl aS rfl aH rfl ?_; simp only [cl])) | (refine g_guard ?_; refine x_gsplit rfl rfl (fun h => ?_) (fun h => ?_) <;> (have h' := h; try simp only [sx] at h')) | (refine x_nil (hK _ _ aI ?_); clear hK K)) | (refine v_region (fun K hK => ?_)) | (refine v_condt rfl (fun h => ?_) (fun h => ?_) <;> (have h' := h; try simp only [sx] at h')))
      all_goals first
        | (exfalso; omega)
        | (refine RetPost.mono (fun r fin h => ⟨t, zs, vs, g2, h, ((aftg.trans ar).trans ac).le aO, ht, hzl, by omega⟩) ?_
           (first | refine ret_TL rfl rfl rfl (by first | exact trivial | (repeat' (first | exact trivial | refine ⟨by assumption, ?_⟩))) (by repeat' (first | exact trivial | refine ⟨by simp, ?_⟩)) (by first | exact trivial | exact ⟨⟨rfl, rfl, fun h => by cases h⟩, trivial⟩) ?_ | refine ret_AL rfl rfl rfl (by first | exact trivial | (repeat' (first | exact trivial | refine ⟨by assumption, ?_⟩))) (by repeat' (first | exact trivial | refine ⟨by simp, ?_⟩)) (by first | exact trivial | exact ⟨⟨rfl, rfl, fun h => by cases h⟩, trivial⟩) ?_); (repeat' (first | exact et_end | exact el_end | refine et_int rfl ?_ ?_ | refine et_bool ?_ ?_ | refine et_str ?_ ?_ | refine et_lst rfl rfl ?_ ?_ | refine et_listA rfl (by rfl) (by decide) rfl rfl ?_ ?_ ?_ | refine et_nil ?_ ?_ | refine et_agg0 ?_ ?_ | refine et_agg ?_ ?_ | refine el_int rfl ?_ ?_ | refine el_bool ?_ ?_ | refine el_str ?_ ?_ | refine el_lst rfl rfl ?_ ?_ | refine el_listA rfl (by rfl) (by decide) rfl rfl ?_ ?_ ?_ | refine el_nil ?_ ?_)) <;> first | rfl | (simp; done) | omega)
    · repeat' (first | (refine g_exec ?_; first | (refine x_buildSliceL (d := 18) aA rfl rfl rfl ?_) | (refine x_buildSliceL (d := 22) aA rfl rfl rfl ?_) | (refine x_buildSliceL (d := 49) aA rfl rfl rfl ?_) | (refine x_buildSliceL (d := 53) aA rfl rfl rfl ?_)) | (refine pA (k := ?_)) | (refine g_exec ?_; first | (refine g_call ?_; refine x_callL [(io, 0)] (kr) rfl rfl aF rfl rfl aS rfl aH rfl ?_; simp only [cl]) | (refine g_guard ?_; refine x_gsplit rfl rfl (fun h => ?_) (fun h => ?_) <;> (have h' := h; try simp only [sx] at h')) | (refine x_nil (hK _ _ aI ?_); clear hK K)) | (refine v_region (fun K hK => ?_)) | (refine v_condt rfl (fun h => ?_) (fun h => ?_) <;> (have h' := h; try simp only [sx] at h')))
      all_goals first
        | (exfalso; omega)
        | (refine RetPost.mono (fun r fin h => ⟨t, us, vs, g1, h, (aftg.trans ar).le aO, ht, by omega, by omega⟩) ?_
           (first | refine ret_TL rfl rfl rfl (by first | exact trivial | (repeat' (first | exact trivial | refine ⟨by assumption, ?_⟩))) (by repeat' (first | exact trivial | refine ⟨by simp, ?_⟩)) (by first | exact trivial | exact ⟨⟨rfl, rfl, fun h => by cases h⟩, trivial⟩) ?_ | refine ret_AL rfl rfl rfl (by first | exact trivial | (repeat' (first | exact trivial | refine ⟨by assumption, ?_⟩))) (by repeat' (first | exact trivial | refine ⟨by simp, ?_⟩)) (by first | exact trivial | exact ⟨⟨rfl, rfl, fun h => by cases h⟩, trivial⟩) ?_); (repeat' (first | exact et_end | exact el_end | refine et_int rfl ?_ ?_ | refine et_bool ?_ ?_ | refine et_str ?_ ?_ | refine et_lst rfl rfl ?_ ?_ | refine et_listA rfl (by rfl) (by decide) rfl rfl ?_ ?_ ?_ | refine et_nil ?_ ?_ | refine et_agg0 ?_ ?_ | refine et_agg ?_ ?_ | refine el_int rfl ?_ ?_ | refine el_bool ?_ ?_ | refine el_str ?_ ?_ | refine el_lst rfl rfl ?_ ?_ | refine el_listA rfl (by rfl) (by decide) rfl rfl ?_ ?_ ?_ | refine el_nil ?_ ?_)) <;> first | rfl | (simp; done) | omega)
end Go.Vs
