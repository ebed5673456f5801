/- PROVED: the given statement FnCuts: whatever the arguments, the law returns true and the arguments read as they did; no condition. -/
import Derived.Test.YtaoadjbjpagdoaaCue
import Derived.WalkKit
import Derived.Orders
import Derived.Laws.MakeOwn
import Derived.Laws.BytesString
import Derived.KernelRfl
import Derived.Below
import Derived.ChangeArms
import Derived.Deep.Slices
import Derived.Test.YtaoadjbjpagdoaaRows
import Derived.Laws.Strings
import Derived.Laws.StructEq
import Derived.ChangeKeysEq
import Derived.ProofKit
import Derived.OpenShut
import Derived.ShutString
import Derived.ChangeOld
set_option linter.unusedVariables false
set_option linter.unusedSimpArgs false
set_option maxRecDepth 100000
set_option maxHeartbeats 4000000
namespace Go.Vs
open Go.Proofs
attribute [local irreducible] exec vwp thenQ blkQ loopQ RetPost
theorem k_tick (c : Cu) (hc : c.Ok) (hp : c.pos + 10 ≤ 1152921504606846976) : ∃ (r : Int) (c' : Cu), Dr 87 [] c (.int .i64 r) c' ∧ Aft c c' 4 ∧ -1 ≤ r ∧ r ≤ 10000 := by
  obtain ⟨y, c1, k1, a1⟩ := k_one c 20 hc aO aO
  have o1 := a1.ok hc aO
  have p1 := a1.pos
  cases y
  · obtain ⟨x, c2, k2, a2, g0, g1, _⟩ := k_pick c1 120 o1 aO aO
    have g1 := g1 aO
    refine ⟨x, c2, ?_, (a1.trans a2).le aO, by omega, by omega⟩
    refine contract_of hmix Try.func87 rfl (by kernel_rfl) (by kernel_rfl) (Nat.le_of_ble_eq_true rfl) (fun row h => by (simp only [List.mem_cons, List.not_mem_nil, or_false] at h; first | (subst h; (first | exact .inl rfl | exact .inr (fun e he u hu => by (simp only [List.mem_cons, List.not_mem_nil, or_false] at he; subst he; simp only [List.mem_cons, List.not_mem_nil, or_false] at hu; subst hu; rfl)))) | (rcases h with rfl | rfl <;> (first | exact .inl rfl | exact .inr (fun e he u hu => by (simp only [List.mem_cons, List.not_mem_nil, or_false] at he; subst he; simp only [List.mem_cons, List.not_mem_nil, or_false] at hu; subst hu; rfl)))) | (rcases h with rfl | rfl | rfl <;> (first | exact .inl rfl | exact .inr (fun e he u hu => by (simp only [List.mem_cons, List.not_mem_nil, or_false] at he; subst he; simp only [List.mem_cons, List.not_mem_nil, or_false] at hu; subst hu; rfl)))) | (rcases h with rfl | rfl | rfl | rfl <;> (first | exact .inl rfl | exact .inr (fun e he u hu => by (simp only [List.mem_cons, List.not_mem_nil, or_false] at he; subst he; simp only [List.mem_cons, List.not_mem_nil, or_false] at hu; subst hu; rfl)))))) ?_
    have hty_s24 := ty_s24
    have hty_u24 := ty_u24
    repeat' (first | (refine pA (k := ?_)) | (refine g_exec ?_; first | (refine g_call ?_; first | (refine x_callL [(io, 0)] (k1) rfl rfl aF rfl rfl aS rfl aH rfl ?_; simp only [cl]) | (refine x_callL [(io, 0)] (k2) rfl rfl aF rfl rfl aS rfl aH rfl ?_; simp only [cl])) | (refine x_nil (hK _ _ aI ?_); clear hK K)) | (refine v_region (fun K hK => ?_)) | (refine v_condt rfl (fun h => ?_) (fun h => ?_) <;> (have h' := h; try simp only [sx] at h')))
    all_goals exact ret_iL rfl rfl ⟨⟨rfl, rfl, fun h => by cases h⟩, trivial⟩ rfl
  · obtain ⟨x, c2, k2, a2, hx⟩ := k_among c1 [-1, 9999, 10000] o1 aO (by decide)
    refine ⟨x, c2, ?_, (a1.trans a2).le aO, by simp at hx; omega, by simp at hx; omega⟩
    refine contract_of hmix Try.func87 rfl (by kernel_rfl) (by kernel_rfl) (Nat.le_of_ble_eq_true rfl) (fun row h => by (simp only [List.mem_cons, List.not_mem_nil, or_false] at h; first | (subst h; (first | exact .inl rfl | exact .inr (fun e he u hu => by (simp only [List.mem_cons, List.not_mem_nil, or_false] at he; subst he; simp only [List.mem_cons, List.not_mem_nil, or_false] at hu; subst hu; rfl)))) | (rcases h with rfl | rfl <;> (first | exact .inl rfl | exact .inr (fun e he u hu => by (simp only [List.mem_cons, List.not_mem_nil, or_false] at he; subst he; simp only [List.mem_cons, List.not_mem_nil, or_false] at hu; subst hu; rfl)))) | (rcases h with rfl | rfl | rfl <;> (first | exact .inl rfl | exact .inr (fun e he u hu => by (simp only [List.mem_cons, List.not_mem_nil, or_false] at he; subst he; simp only [List.mem_cons, List.not_mem_nil, or_false] at hu; subst hu; rfl)))) | (rcases h with rfl | rfl | rfl | rfl <;> (first | exact .inl rfl | exact .inr (fun e he u hu => by (simp only [List.mem_cons, List.not_mem_nil, or_false] at he; subst he; simp only [List.mem_cons, List.not_mem_nil, or_false] at hu; subst hu; rfl)))))) ?_
    have hty_s24 := ty_s24
    have hty_u24 := ty_u24
    repeat' (first | (refine pA (k := ?_)) | (refine g_exec ?_; first | (refine g_call ?_; first | (refine x_callL [(io, 0)] (k1) rfl rfl aF rfl rfl aS rfl aH rfl ?_; simp only [cl]) | (refine x_callL [(io, 0)] (k2) rfl rfl aF rfl rfl aS rfl aH rfl ?_; simp only [cl])) | (refine x_nil (hK _ _ aI ?_); clear hK K)) | (refine v_region (fun K hK => ?_)) | (refine v_condt rfl (fun h => ?_) (fun h => ?_) <;> (have h' := h; try simp only [sx] at h')))
    all_goals exact ret_iL rfl rfl ⟨⟨rfl, rfl, fun h => by cases h⟩, trivial⟩ rfl
theorem k_startTick (c : Cu) (hc : c.Ok) (hp : c.pos + 10 ≤ 1152921504606846976) : ∃ (r : Int) (c' : Cu), Dr 42 [] c (.int .i64 r) c' ∧ Aft c c' 4 ∧ -1 ≤ r ∧ r ≤ 1001 := by
  obtain ⟨y, c1, k1, a1⟩ := k_one c 24 hc aO aO
  have o1 := a1.ok hc aO
  have p1 := a1.pos
  cases y
  · obtain ⟨x, c2, k2, a2, hx⟩ := k_among c1 [0, 0, 5, 20, 60] o1 aO (by decide)
    refine ⟨x, c2, ?_, (a1.trans a2).le aO, by simp at hx; omega, by simp at hx; omega⟩
    refine contract_of hmix Try.func42 rfl (by kernel_rfl) (by kernel_rfl) (Nat.le_of_ble_eq_true rfl) (fun row h => by (simp only [List.mem_cons, List.not_mem_nil, or_false] at h; first | (subst h; (first | exact .inl rfl | exact .inr (fun e he u hu => by (simp only [List.mem_cons, List.not_mem_nil, or_false] at he; subst he; simp only [List.mem_cons, List.not_mem_nil, or_false] at hu; subst hu; rfl)))) | (rcases h with rfl | rfl <;> (first | exact .inl rfl | exact .inr (fun e he u hu => by (simp only [List.mem_cons, List.not_mem_nil, or_false] at he; subst he; simp only [List.mem_cons, List.not_mem_nil, or_false] at hu; subst hu; rfl)))) | (rcases h with rfl | rfl | rfl <;> (first | exact .inl rfl | exact .inr (fun e he u hu => by (simp only [List.mem_cons, List.not_mem_nil, or_false] at he; subst he; simp only [List.mem_cons, List.not_mem_nil, or_false] at hu; subst hu; rfl)))) | (rcases h with rfl | rfl | rfl | rfl <;> (first | exact .inl rfl | exact .inr (fun e he u hu => by (simp only [List.mem_cons, List.not_mem_nil, or_false] at he; subst he; simp only [List.mem_cons, List.not_mem_nil, or_false] at hu; subst hu; rfl)))))) ?_
    have hty_s24 := ty_s24
    have hty_u24 := ty_u24
    repeat' (first | (refine pA (k := ?_)) | (refine g_exec ?_; first | (refine g_call ?_; first | (refine x_callL [(io, 0)] (k1) rfl rfl aF rfl rfl aS rfl aH rfl ?_; simp only [cl]) | (refine x_callL [(io, 0)] (k2) rfl rfl aF rfl rfl aS rfl aH rfl ?_; simp only [cl])) | (refine x_nil (hK _ _ aI ?_); clear hK K)) | (refine v_region (fun K hK => ?_)) | (refine v_condt rfl (fun h => ?_) (fun h => ?_) <;> (have h' := h; try simp only [sx] at h')))
    all_goals exact ret_iL rfl rfl ⟨⟨rfl, rfl, fun h => by cases h⟩, trivial⟩ rfl
  · obtain ⟨x, c2, k2, a2, hx⟩ := k_among c1 [-1, 1000, 1001] o1 aO (by decide)
    refine ⟨x, c2, ?_, (a1.trans a2).le aO, by simp at hx; omega, by simp at hx; omega⟩
    refine contract_of hmix Try.func42 rfl (by kernel_rfl) (by kernel_rfl) (Nat.le_of_ble_eq_true rfl) (fun row h => by (simp only [List.mem_cons, List.not_mem_nil, or_false] at h; first | (subst h; (first | exact .inl rfl | exact .inr (fun e he u hu => by (simp only [List.mem_cons, List.not_mem_nil, or_false] at he; subst he; simp only [List.mem_cons, List.not_mem_nil, or_false] at hu; subst hu; rfl)))) | (rcases h with rfl | rfl <;> (first | exact .inl rfl | exact .inr (fun e he u hu => by (simp only [List.mem_cons, List.not_mem_nil, or_false] at he; subst he; simp only [List.mem_cons, List.not_mem_nil, or_false] at hu; subst hu; rfl)))) | (rcases h with rfl | rfl | rfl <;> (first | exact .inl rfl | exact .inr (fun e he u hu => by (simp only [List.mem_cons, List.not_mem_nil, or_false] at he; subst he; simp only [List.mem_cons, List.not_mem_nil, or_false] at hu; subst hu; rfl)))) | (rcases h with rfl | rfl | rfl | rfl <;> (first | exact .inl rfl | exact .inr (fun e he u hu => by (simp only [List.mem_cons, List.not_mem_nil, or_false] at he; subst he; simp only [List.mem_cons, List.not_mem_nil, or_false] at hu; subst hu; rfl)))))) ?_
    have hty_s24 := ty_s24
    have hty_u24 := ty_u24
    repeat' (first | (refine pA (k := ?_)) | (refine g_exec ?_; first | (refine g_call ?_; first | (refine x_callL [(io, 0)] (k1) rfl rfl aF rfl rfl aS rfl aH rfl ?_; simp only [cl]) | (refine x_callL [(io, 0)] (k2) rfl rfl aF rfl rfl aS rfl aH rfl ?_; simp only [cl])) | (refine x_nil (hK _ _ aI ?_); clear hK K)) | (refine v_region (fun K hK => ?_)) | (refine v_condt rfl (fun h => ?_) (fun h => ?_) <;> (have h' := h; try simp only [sx] at h')))
    all_goals exact ret_iL rfl rfl ⟨⟨rfl, rfl, fun h => by cases h⟩, trivial⟩ rfl
@[reducible] def PhS : Type := Cu × List Phase × Int
theorem least_ex {P : Nat → Prop} : ∀ (n : Nat), P n → ∃ k, k ≤ n ∧ P k ∧ ∀ j, j < k → ¬ P j := by
  intro n
  induction n using Nat.strongRecOn with
  | ind n ih =>
    intro h
    by_cases hj : ∃ j, j < n ∧ P j
    · obtain ⟨j, hjn, hp⟩ := hj
      obtain ⟨k, h1, h2, h3⟩ := ih j hjn hp
      exact ⟨k, by omega, h2, h3⟩
    · exact ⟨n, Nat.le_refl _, h, fun j hlt hp => hj ⟨j, hlt, hp⟩⟩
theorem k_phasesD (c : Cu) (hc : c.Ok) (hp : c.pos + 100 ≤ 1152921504606846976) : ∃ (ps : List Phase) (c' : Cu), Dr 41 [] c (.olist 93 2 (ps.map Phase.pv)) c' ∧ Aft c c' 100 ∧ ps.length ≤ 7 := by
  obtain ⟨s, c0, k0, a0, s0, s1, _⟩ := k_pick c 9 hc aO aO
  have s1 := s1 aO
  have o0 := a0.ok hc aO
  have p0 := a0.pos
  obtain ⟨n, c1, k1, a1, n0, n1, _⟩ := k_pick c0 4 o0 aO aO
  have n1 := n1 aO
  have o1 := a1.ok o0 aO
  have p1 := a1.pos
  obtain ⟨f, f0, fs⟩ := seq_ex (S := PhS) (Q := fun i s => i ≤ 4 → Aft c1 s.1 (4 * i) ∧ s.2.1.length = i + 1 ∧ (0 ≤ s.2.2 ∧ s.2.2 ≤ 31 * i))
    (R := fun i s s' => i < 4 → ∃ (r2 : Int) (c2 : Cu) (x : Int), Dr 43 [.int .i64 30] s.1 (.int .i64 r2) c2 ∧ (0 ≤ r2 ∧ r2 < 30) ∧ Dr 35 [.list 1 (ints [1, 2, 5, 9])] c2 (.int .i64 x) s'.1 ∧ s'.2.1 = s.2.1 ++ [⟨s.2.2 + 1 + r2, x⟩] ∧ s'.2.2 = s.2.2 + 1 + r2)
    (c1, [⟨0, 1 + s⟩], 0) (fun _ => ⟨(Aft.refl c1).le aO, rfl, by simp⟩) (fun i st hq => by
      by_cases hi : i < 4
      · obtain ⟨ad, hl, hf⟩ := hq aO
        have od := ad.ok o1 aO
        have pd := ad.pos
        obtain ⟨r2, c2, k2, a2, b1, b2, _⟩ := k_pick st.1 30 od aO aO
        have b2 := b2 aO
        have o2 := a2.ok od aO
        have p2 := a2.pos
        obtain ⟨x, c4, k4, a4, _⟩ := k_among c2 [1, 2, 5, 9] o2 aO (by decide)
        exact ⟨(c4, st.2.1 ++ [⟨st.2.2 + 1 + r2, x⟩], st.2.2 + 1 + r2), fun _ => ⟨r2, c2, x, k2, ⟨b1, b2⟩, k4, rfl, rfl⟩, fun _ => ⟨((ad.trans a2).trans a4).le (by first | omega | (simp only; omega)), by simp [hl], by first | omega | (simp only; omega)⟩⟩
      · exact ⟨st, fun h => absurd h hi, fun h => by omega⟩)
  obtain ⟨N, hN⟩ : ∃ N : Nat, n = (N : Int) := ⟨n.toNat, by omega⟩
  subst hN
  obtain ⟨ad, hl, hfr⟩ := (fs N).1 aO
  have od := ad.ok o1 aO
  have pd := ad.pos
  obtain ⟨r, c2, k2, a2, _⟩ := k_pick (f N).1 32 od aO aO
  have o2 := a2.ok od aO
  have p2 := a2.pos
  have aft2 := ((a0.trans a1).trans ad).trans a2
  obtain ⟨x0, c3, k3, a3, _⟩ := k_among c2 [0, 9999, 10000] o2 aO (by decide)
  have o3 := a3.ok o2 aO
  have p3 := a3.pos
  obtain ⟨y0, c4, k4, a4, _⟩ := k_among c3 [0, 9, 10] o3 aO (by decide)
  obtain ⟨x1, c5, k5, a5, _⟩ := k_among c2 [1, 0, -1] o2 aO (by decide)
  obtain ⟨w, hw⟩ := get_ex (show 0 < (f N).2.1.length by omega)
  have hw2 : ((f N).2.1.map Phase.pv)[0]? = some w.pv := Phase.at hw
  have hse : ((f N).2.1.map Phase.pv).set 0 [.int .i64 x1, .int .i64 3] = ((f N).2.1.set 0 ⟨x1, 3⟩).map Phase.pv := by rw [List.map_set]
  obtain ⟨g, g0, gs⟩ := seq_ex (S := PhS) (Q := fun i s => i ≤ 8 → Aft c2 s.1 (2 * i) ∧ s.2.1.length = N + 1 + i)
    (R := fun i s s' => i < 8 → Dr 43 [.int .i64 2] s.1 (.int .i64 s'.2.2) s'.1 ∧ (0 ≤ s'.2.2 ∧ s'.2.2 < 2) ∧ s'.2.1 = s.2.1 ++ [⟨200 + 10 * (s.2.1.length : Int), 2⟩])
    (c2, (f N).2.1, 0) (fun _ => ⟨(Aft.refl c2).le aO, by first | omega | (simp only; omega)⟩) (fun i st hq => by
      by_cases hi : i < 8
      · obtain ⟨ad, hl2⟩ := hq aO
        have od := ad.ok o2 aO
        have pd := ad.pos
        obtain ⟨r5, c5, k5, a5, b5, b6, _⟩ := k_pick st.1 2 od aO aO
        exact ⟨(c5, st.2.1 ++ [⟨200 + 10 * (st.2.1.length : Int), 2⟩], r5), fun _ => ⟨k5, ⟨b5, b6 aO⟩, rfl⟩, fun _ => ⟨(ad.trans a5).le (by first | omega | (simp only; omega)), by simp; omega⟩⟩
      · exact ⟨st, fun h => absurd h hi, fun h => by omega⟩)
  obtain ⟨K, hK7, hK, hKl⟩ := least_ex (P := fun i => ¬ ((N : Int) + 1 + i < 6 + (g (i + 1)).2.2)) 6 (by
    obtain ⟨_, h2, _⟩ := (gs 6).2 aO
    try simp only
    omega)
  obtain ⟨adK, hlK⟩ := (gs K).1 aO
  obtain ⟨kK, bK, _⟩ := (gs K).2 aO
  have hlK7 : (g K).2.1.length ≤ 7 := by
    rw [hlK]
    rcases Nat.eq_zero_or_pos K with h0 | h0
    · omega
    · have h1 := hKl (K - 1) aO
      obtain ⟨_, h2, _⟩ := (gs (K - 1)).2 aO
      try simp only at h1
      omega
  obtain ⟨adK1, _⟩ := (gs (K + 1)).1 aO
  have key : ∃ (ps : List Phase) (c' : Cu), Aft c c' 100 ∧ ps.length ≤ 7 ∧ ((r = 0 ∧ ps = (f N).2.1 ++ [⟨x0, y0⟩] ∧ c' = c4) ∨ (r ≠ 0 ∧ r = 1 ∧ ps = (f N).2.1.set 0 ⟨x1, 3⟩ ∧ c' = c5) ∨ (r ≠ 0 ∧ r ≠ 1 ∧ r = 2 ∧ ps = [] ∧ c' = c2) ∨ (r ≠ 0 ∧ r ≠ 1 ∧ r ≠ 2 ∧ r = 3 ∧ ps = (g K).2.1 ∧ c' = (g (K + 1)).1) ∨ (r ≠ 0 ∧ r ≠ 1 ∧ r ≠ 2 ∧ r ≠ 3 ∧ ps = (f N).2.1 ∧ c' = c2)) := by
    by_cases e0 : r = 0
    · exact ⟨_, c4, ((aft2.trans a3).trans a4).le aO, by simp; omega, Or.inl ⟨e0, rfl, rfl⟩⟩
    · by_cases e1 : r = 1
      · exact ⟨_, c5, (aft2.trans a5).le aO, by simp; omega, Or.inr (Or.inl ⟨e0, e1, rfl, rfl⟩)⟩
      · by_cases e2 : r = 2
        · exact ⟨[], c2, aft2.le aO, by simp, Or.inr (Or.inr (Or.inl ⟨e0, e1, e2, rfl, rfl⟩))⟩
        · by_cases e3 : r = 3
          · exact ⟨_, _, (aft2.trans adK1).le aO, hlK7, Or.inr (Or.inr (Or.inr (Or.inl ⟨e0, e1, e2, e3, rfl, rfl⟩)))⟩
          · exact ⟨_, c2, aft2.le aO, by omega, Or.inr (Or.inr (Or.inr (Or.inr ⟨e0, e1, e2, e3, rfl, rfl⟩)))⟩
  obtain ⟨ps, c', hA, hL, key⟩ := key
  refine ⟨ps, c', ?_, hA, hL⟩
  clear hA hL
  refine contract_of hmix Try.func41 rfl (by kernel_rfl) (by kernel_rfl) (Nat.le_of_ble_eq_true rfl) (fun row h => by (simp only [List.mem_cons, List.not_mem_nil, or_false] at h; first | (subst h; (first | exact .inl rfl | exact .inr (fun e he u hu => by (simp only [List.mem_cons, List.not_mem_nil, or_false] at he; subst he; simp only [List.mem_cons, List.not_mem_nil, or_false] at hu; subst hu; rfl)))) | (rcases h with rfl | rfl <;> (first | exact .inl rfl | exact .inr (fun e he u hu => by (simp only [List.mem_cons, List.not_mem_nil, or_false] at he; subst he; simp only [List.mem_cons, List.not_mem_nil, or_false] at hu; subst hu; rfl)))) | (rcases h with rfl | rfl | rfl <;> (first | exact .inl rfl | exact .inr (fun e he u hu => by (simp only [List.mem_cons, List.not_mem_nil, or_false] at he; subst he; simp only [List.mem_cons, List.not_mem_nil, or_false] at hu; subst hu; rfl)))) | (rcases h with rfl | rfl | rfl | rfl <;> (first | exact .inl rfl | exact .inr (fun e he u hu => by (simp only [List.mem_cons, List.not_mem_nil, or_false] at he; subst he; simp only [List.mem_cons, List.not_mem_nil, or_false] at hu; subst hu; rfl)))))) ?_
  have hty_st93 := ty_st93
  have hty_s27 := ty_s27
  have hty_s24 := ty_s24
  have hty_u24 := ty_u24
  have hty_u27 := ty_u27
  have hty_t93 := ty_t93
  have hty_a93 := ty_a93
  repeat' (first | (refine pA (k := ?_)) | (refine g_exec ?_; first | (refine g_call ?_; first | (refine x_callL [(io, 0)] (k0) rfl rfl aF rfl rfl aS rfl aH rfl ?_; simp only [cl]) | (refine x_callL [(io, 0)] (k1) rfl rfl aF rfl rfl aS rfl aH rfl ?_; simp only [cl])) | (refine x_nil (hK _ _ aI ?_); clear hK K)) | (refine v_region (fun K hK => ?_)) | (refine v_condt rfl (fun h => ?_) (fun h => ?_) <;> (have h' := h; try simp only [sx] at h')))
  all_goals try (exfalso; omega)
  refine v_loopK [0] [(io, 0), (1001, 0)] (fun q : Nat × Cu × List (List PV) × Int × Int => [(3, .osl (1001, 0) 0 (q.1 + 1)), (4, .int .i64 q.2.2.2.1), (5, .int .i64 q.2.2.2.2)]) (fun q : Nat × Cu × List (List PV) × Int × Int => [((io, 0), some (cuRow q.2.1)), ((1001, 0), some ⟨93, 2, q.2.2.1, false⟩)]) (fun q : Nat × Cu × List (List PV) × Int × Int => q.2.1 = (f q.1).1 ∧ q.2.2.1 = (f q.1).2.1.map Phase.pv ∧ q.2.2.2.1 = (f q.1).2.2 ∧ q.2.2.2.2 = (N : Int) - q.1 ∧ q.1 ≤ N) (fun q : Nat × Cu × List (List PV) × Int × Int => N - q.1) ((0, c1, [[.int .i64 0, .int .i64 (1 + s)]], 0, N)) rfl rfl (fun _ => rfl) (fun _ => rfl) rfl (by refine ⟨?_, ?_, rfl, rfl⟩ <;> (repeat' (first | exact trivial | exact ⟨rfl, rfl⟩ | exact rfl | exact ⟨sub_fn, refs_fn⟩ | refine ⟨⟨rfl, rfl⟩, ?_⟩ | refine ⟨⟨sub_fn, refs_fn⟩, ?_⟩ | refine ⟨⟨rfl, fun h => Bool.noConfusion h⟩, ?_⟩ | refine ⟨⟨rfl, fun h => ?_⟩, ?_⟩ | refine ⟨rfl, ?_⟩ | refine ⟨?_, ?_⟩ | fail))) ⟨by rw [f0], by rw [f0]; rfl, by rw [f0], by simp, by first | omega | (simp only; omega)⟩ (fun q hq => ?_)
  obtain ⟨m, d, es, fr, v⟩ := q
  obtain ⟨hd, hes, hfr2, hv, hmN⟩ := hq
  try simp only at hd hes hfr2 hv hmN
  dsimp only
  obtain ⟨ad, hl2, hf2⟩ := (fs m).1 aO
  have hel : es.length = m + 1 := by rw [hes, List.length_map, hl2]
  have hme := hel.symm
  by_cases hlt : m < N
  · obtain ⟨r2, cc, x, kp, br2, ka, e1, e2⟩ := (fs m).2 aO
    rw [← hd] at kp
    repeat' (first | (refine pA (k := ?_)) | (refine g_exec ?_; first | (refine g_call ?_; first | (refine x_callL [(io, 0)] (kp) rfl rfl aF rfl rfl aS rfl aH rfl ?_; simp only [cl]) | (refine x_callL [(io, 0)] (ka) rfl rfl aF rfl rfl aS rfl aH rfl ?_; simp only [cl])) | (refine x_nil (hK _ _ aI ?_); clear hK K)) | (refine v_region (fun K hK => ?_)) | (refine v_condt rfl (fun h => ?_) (fun h => ?_) <;> (have h' := h; try simp only [sx] at h')))
    all_goals try (exfalso; omega)
    all_goals (refine q_next (m + 1, (f (m + 1)).1, es ++ [[.int .i64 (fr + 1 + r2), .int .i64 x]], fr + 1 + r2, v - 1) rfl (by refine ⟨?_, ?_, rfl, rfl⟩ <;> (repeat' (first | exact trivial | exact ⟨rfl, rfl⟩ | exact rfl | exact ⟨sub_fn, refs_fn⟩ | refine ⟨⟨rfl, rfl⟩, ?_⟩ | refine ⟨⟨sub_fn, refs_fn⟩, ?_⟩ | refine ⟨⟨rfl, fun h => Bool.noConfusion h⟩, ?_⟩ | refine ⟨⟨rfl, fun h => ?_⟩, ?_⟩ | refine ⟨rfl, ?_⟩ | refine ⟨?_, ?_⟩ | fail))) ⟨rfl, by simp [hes, e1, hfr2, Phase.pv], by simp only; rw [e2, hfr2], by first | omega | (simp only; omega), by first | omega | (simp only; omega)⟩ (by first | omega | (simp only; omega)))
  · have hmN2 : m = N := by omega
    subst hmN2
    rw [← hd] at k2
    rw [← hes] at hw2 hse
    rcases key with ⟨e0, rfl, rfl⟩ | ⟨e0, e1, rfl, rfl⟩ | ⟨e0, e1, e2, rfl, rfl⟩ | ⟨e0, e1, e2, e3, rfl, rfl⟩ | ⟨e0, e1, e2, e3, rfl, rfl⟩
    · repeat' (first | (refine pA (k := ?_)) | (refine g_exec ?_; first | (refine g_call ?_; first | (refine x_callL [(io, 0)] (k2) rfl rfl aF rfl rfl aS rfl aH rfl ?_; simp only [cl]) | (refine x_callL [(io, 0)] (k3) rfl rfl aF rfl rfl aS rfl aH rfl ?_; simp only [cl]) | (refine x_callL [(io, 0)] (k4) rfl rfl aF rfl rfl aS rfl aH rfl ?_; simp only [cl])) | (refine x_nil (hK _ _ aI ?_); clear hK K)) | (refine v_region (fun K hK => ?_)) | (refine v_condt rfl (fun h => ?_) (fun h => ?_) <;> (have h' := h; try simp only [sx] at h')))
      all_goals first
        | (exfalso; omega)
        | exact ret_lL rfl rfl rfl (by decide) ⟨⟨rfl, rfl, fun h => by cases h⟩, trivial⟩ rfl rfl (by simp [hel]) (by simp [hes, Phase.pv])
    · repeat' (first | (refine pA (k := ?_)) | (refine g_exec ?_; first | (refine g_call ?_; first | (refine x_callL [(io, 0)] (k2) rfl rfl aF rfl rfl aS rfl aH rfl ?_; simp only [cl]) | (refine x_callL [(io, 0)] (k5) rfl rfl aF rfl rfl aS rfl aH rfl ?_; simp only [cl])) | (refine x_nil (hK _ _ aI ?_); clear hK K)) | (refine v_region (fun K hK => ?_)) | (refine v_condt rfl (fun h => ?_) (fun h => ?_) <;> (have h' := h; try simp only [sx] at h')))
      all_goals first
        | (exfalso; omega)
        | exact ret_lL rfl rfl rfl (by decide) ⟨⟨rfl, rfl, fun h => by cases h⟩, trivial⟩ rfl rfl (by simp [hel]) hse
    · repeat' (first | (refine pA (k := ?_)) | (refine g_exec ?_; first | (refine g_call ?_; refine x_callL [(io, 0)] (k2) rfl rfl aF rfl rfl aS rfl aH rfl ?_; simp only [cl]) | (refine x_nil (hK _ _ aI ?_); clear hK K)) | (refine v_region (fun K hK => ?_)) | (refine v_condt rfl (fun h => ?_) (fun h => ?_) <;> (have h' := h; try simp only [sx] at h')))
      all_goals first
        | (exfalso; omega)
        | exact ret_lL rfl rfl rfl (by decide) ⟨⟨rfl, rfl, fun h => by cases h⟩, trivial⟩ rfl rfl rfl rfl
    · repeat' (first | (refine pA (k := ?_)) | (refine g_exec ?_; first | (refine g_call ?_; refine x_callL [(io, 0)] (k2) rfl rfl aF rfl rfl aS rfl aH rfl ?_; simp only [cl]) | (refine x_nil (hK _ _ aI ?_); clear hK K)) | (refine v_region (fun K hK => ?_)) | (refine v_condt rfl (fun h => ?_) (fun h => ?_) <;> (have h' := h; try simp only [sx] at h')))
      all_goals try (exfalso; omega)
      refine v_loopK [0] [(io, 0), (1001, 0)] (fun q : Nat × Cu × List (List PV) => [(3, .osl (1001, 0) 0 (m + 1 + q.1))]) (fun q : Nat × Cu × List (List PV) => [((io, 0), some (cuRow q.2.1)), ((1001, 0), some ⟨93, 2, q.2.2, false⟩)]) (fun q : Nat × Cu × List (List PV) => q.2.1 = (g q.1).1 ∧ q.2.2 = (g q.1).2.1.map Phase.pv ∧ q.1 ≤ K) (fun q : Nat × Cu × List (List PV) => K - q.1) ((0, c2, es)) rfl rfl (fun _ => rfl) (fun _ => rfl) rfl (by refine ⟨?_, ?_, rfl, rfl⟩ <;> (repeat' (first | exact trivial | exact ⟨rfl, rfl⟩ | exact rfl | exact ⟨sub_fn, refs_fn⟩ | refine ⟨⟨rfl, rfl⟩, ?_⟩ | refine ⟨⟨sub_fn, refs_fn⟩, ?_⟩ | refine ⟨⟨rfl, fun h => Bool.noConfusion h⟩, ?_⟩ | refine ⟨⟨rfl, fun h => ?_⟩, ?_⟩ | refine ⟨rfl, ?_⟩ | refine ⟨?_, ?_⟩ | fail))) ⟨by rw [g0], by rw [g0, hes], by simp⟩ (fun q hq => ?_)
      obtain ⟨j, d2, fs2⟩ := q
      obtain ⟨hd2, hfs2, hjK⟩ := hq
      try simp only at hd2 hfs2 hjK
      dsimp only
      obtain ⟨adj, hlj⟩ := (gs j).1 aO
      obtain ⟨kj, bj, ej⟩ := (gs j).2 aO
      have hel2 : fs2.length = m + 1 + j := by rw [hfs2, List.length_map, hlj]
      have hme2 := hel2.symm
      rw [← hd2] at kj
      by_cases hjlt : j < K
      · have hgo := hKl j hjlt
        simp only [Classical.not_not] at hgo
        repeat' (first | (refine pA (k := ?_)) | (refine g_exec ?_; first | (refine g_call ?_; refine x_callL [(io, 0)] (kj) rfl rfl aF rfl rfl aS rfl aH rfl ?_; simp only [cl]) | (refine x_nil (hK _ _ aI ?_); clear hK K)) | (refine v_region (fun K hK => ?_)) | (refine v_condt rfl (fun h => ?_) (fun h => ?_) <;> (have h' := h; try simp only [sx] at h')))
        all_goals try (exfalso; omega)
        all_goals (refine q_next (j + 1, (g (j + 1)).1, fs2 ++ [[.int .i64 (200 + 10 * ((m + 1 + j : Nat) : Int)), .int .i64 2]]) rfl (by refine ⟨?_, ?_, rfl, rfl⟩ <;> (repeat' (first | exact trivial | exact ⟨rfl, rfl⟩ | exact rfl | exact ⟨sub_fn, refs_fn⟩ | refine ⟨⟨rfl, rfl⟩, ?_⟩ | refine ⟨⟨sub_fn, refs_fn⟩, ?_⟩ | refine ⟨⟨rfl, fun h => Bool.noConfusion h⟩, ?_⟩ | refine ⟨⟨rfl, fun h => ?_⟩, ?_⟩ | refine ⟨rfl, ?_⟩ | refine ⟨?_, ?_⟩ | fail))) ⟨rfl, by simp [hfs2, ej, Phase.pv, hlj], by first | omega | (simp only; omega)⟩ (by first | omega | (simp only; omega)))
      · have hjK2 : j = K := by omega
        subst hjK2
        try simp only at hK
        repeat' (first | (refine pA (k := ?_)) | (refine g_exec ?_; first | (refine g_call ?_; refine x_callL [(io, 0)] (kj) rfl rfl aF rfl rfl aS rfl aH rfl ?_; simp only [cl]) | (refine x_nil (hK _ _ aI ?_); clear hK K)) | (refine v_region (fun K hK => ?_)) | (refine v_condt rfl (fun h => ?_) (fun h => ?_) <;> (have h' := h; try simp only [sx] at h')))
        all_goals first
          | (exfalso; omega)
          | exact ret_lL rfl rfl rfl (by decide) ⟨⟨rfl, rfl, fun h => by cases h⟩, trivial⟩ rfl rfl hme2 hfs2
    · repeat' (first | (refine pA (k := ?_)) | (refine g_exec ?_; first | (refine g_call ?_; refine x_callL [(io, 0)] (k2) rfl rfl aF rfl rfl aS rfl aH rfl ?_; simp only [cl]) | (refine x_nil (hK _ _ aI ?_); clear hK K)) | (refine v_region (fun K hK => ?_)) | (refine v_condt rfl (fun h => ?_) (fun h => ?_) <;> (have h' := h; try simp only [sx] at h')))
      all_goals first
        | (exfalso; omega)
        | exact ret_lL rfl rfl rfl (by decide) ⟨⟨rfl, rfl, fun h => by cases h⟩, trivial⟩ rfl rfl hme hes
theorem k_phasesZ (c : Cu) (hc : c.Ok) (hp : c.pos + 100 ≤ 1152921504606846976) : ∃ (ps : List Phase) (c' : Cu), Dr 41 [] c (.list 2 (ps.map Phase.pv)) c' ∧ Aft c c' 100 ∧ ps.length ≤ 7 := by
  obtain ⟨ps, c', k, h⟩ := k_phasesD c hc hp
  exact ⟨ps, c', ConL.frz k rfl (by intro row h; simp at h; subst h; rfl), h⟩
theorem k_cellsOfD (c : Cu) (t : Terrain) (hc : c.Ok) (hp : c.pos + 100 ≤ 1152921504606846976) (ht : TrSz t) : ∃ (xs : List Int) (c' : Cu), Dr 21 [.agg t.pv] c (.olist 3 1 (ints xs)) c' ∧ Aft c c' 100 ∧ xs.length ≤ 5 := by
  obtain ⟨n, c1, k1, a1, n0, n1, _⟩ := k_pick c 5 hc aO aO
  have n1 := n1 aO
  have o1 := a1.ok hc aO
  have p1 := a1.pos
  have hl1 : (ints t.burn).length = t.burn.length := by simp
  have ht3 := ht.2.2
  obtain ⟨N, hN⟩ : ∃ N : Nat, n = (N : Int) := ⟨n.toNat, by omega⟩
  subst hN
  obtain ⟨f, f0, fs⟩ := seq_ex (S := Cu × List Int) (Q := fun i s => i ≤ 5 → Aft c1 s.1 (2 * i) ∧ s.2.length ≤ i)
    (R := fun i s s' => i < 5 → ∃ (x : Int), Dr 43 [.int .i64 ((ints t.burn).length : Int)] s.1 (.int .i64 x) s'.1 ∧ s'.2 = put s.2 x)
    (c1, []) (fun _ => ⟨(Aft.refl c1).le aO, by simp⟩) (fun i st hq => by
      by_cases hi : i < 5
      · obtain ⟨ad, hl2⟩ := hq aO
        have od := ad.ok o1 aO
        have pd := ad.pos
        obtain ⟨x, c2, k2, a2, _⟩ := k_pick st.1 t.burn.length od aO aO
        rw [← hl1] at k2
        have hpl := put_len st.2 x
        exact ⟨(c2, put st.2 x), fun _ => ⟨x, k2, rfl⟩, fun _ => ⟨(ad.trans a2).le (by first | omega | (simp only; omega)), by first | omega | (simp only; omega)⟩⟩
      · exact ⟨st, fun h => absurd h hi, fun h => by omega⟩)
  obtain ⟨ad, hl⟩ := (fs N).1 aO
  have od := ad.ok o1 aO
  have pd := ad.pos
  obtain ⟨y, c2, k2, a2⟩ := k_one (f N).1 24 od aO aO
  have o2 := a2.ok od aO
  have p2 := a2.pos
  obtain ⟨x3, c3, k3, a3, _⟩ := k_among c2 [0, -1, (t.burn.length : Int)] o2 aO (by simp)
  rw [← hl1] at k3
  have key : ∃ (xs : List Int) (c' : Cu), Aft c c' 100 ∧ xs.length ≤ 5 ∧ ((y = false ∧ xs = (f N).2 ∧ c' = c2) ∨ (y = true ∧ xs = (f N).2 ++ [x3] ∧ c' = c3)) := by
    cases y
    · exact ⟨_, c2, ((a1.trans ad).trans a2).le aO, by omega, Or.inl ⟨rfl, rfl, rfl⟩⟩
    · exact ⟨_, c3, (((a1.trans ad).trans a2).trans a3).le aO, by simp; omega, Or.inr ⟨rfl, rfl, rfl⟩⟩
  obtain ⟨xs, c', hA, hL, key⟩ := key
  refine ⟨xs, c', ?_, hA, hL⟩
  clear hA hL
  refine contract_of hmix Try.func21 rfl (by kernel_rfl) (by kernel_rfl) (Nat.le_of_ble_eq_true rfl) (fun row h => by (simp only [List.mem_cons, List.not_mem_nil, or_false] at h; first | (subst h; (first | exact .inl rfl | exact .inr (fun e he u hu => by (simp only [List.mem_cons, List.not_mem_nil, or_false] at he; subst he; simp only [List.mem_cons, List.not_mem_nil, or_false] at hu; subst hu; rfl)))) | (rcases h with rfl | rfl <;> (first | exact .inl rfl | exact .inr (fun e he u hu => by (simp only [List.mem_cons, List.not_mem_nil, or_false] at he; subst he; simp only [List.mem_cons, List.not_mem_nil, or_false] at hu; subst hu; rfl)))) | (rcases h with rfl | rfl | rfl <;> (first | exact .inl rfl | exact .inr (fun e he u hu => by (simp only [List.mem_cons, List.not_mem_nil, or_false] at he; subst he; simp only [List.mem_cons, List.not_mem_nil, or_false] at hu; subst hu; rfl)))) | (rcases h with rfl | rfl | rfl | rfl <;> (first | exact .inl rfl | exact .inr (fun e he u hu => by (simp only [List.mem_cons, List.not_mem_nil, or_false] at he; subst he; simp only [List.mem_cons, List.not_mem_nil, or_false] at hu; subst hu; rfl)))))) ?_
  have hty_s24 := ty_s24
  have hty_f26_2 := ty_f26_2
  have hty_c24 := ty_c24
  have hty_u24 := ty_u24
  repeat' (first | (refine pA (k := ?_)) | (refine g_exec ?_; first | (refine g_call ?_; refine x_callL [(io, 0)] (k1) rfl rfl aF rfl rfl aS rfl aH rfl ?_; simp only [cl]) | (refine x_nil (hK _ _ aI ?_); clear hK K)) | (refine v_region (fun K hK => ?_)) | (refine v_condt rfl (fun h => ?_) (fun h => ?_) <;> (have h' := h; try simp only [sx] at h')))
  all_goals try (exfalso; omega)
  refine v_loopK [0, 3] [(io, 0), (1001, 0)] (fun q : Nat × Cu × List Int × Nat × Int => [(5, .osl (1001, 0) 0 q.2.2.2.1), (6, .int .i64 q.2.2.2.2)]) (fun q : Nat × Cu × List Int × Nat × Int => [((io, 0), some (cuRow q.2.1)), ((1001, 0), some ⟨3, 1, ints q.2.2.1, false⟩)]) (fun q : Nat × Cu × List Int × Nat × Int => q.2.1 = (f q.1).1 ∧ q.2.2.1 = (f q.1).2 ∧ q.2.2.2.2 = (N : Int) - q.1 ∧ q.1 ≤ N ∧ (ints q.2.2.1).length = q.2.2.2.1) (fun q : Nat × Cu × List Int × Nat × Int => N - q.1) ((0, c1, [], 0, N)) rfl rfl (fun _ => rfl) (fun _ => rfl) rfl (by refine ⟨?_, ?_, rfl, rfl⟩ <;> (repeat' (first | exact trivial | exact ⟨rfl, rfl⟩ | exact rfl | exact ⟨sub_fn, refs_fn⟩ | refine ⟨⟨rfl, rfl⟩, ?_⟩ | refine ⟨⟨sub_fn, refs_fn⟩, ?_⟩ | refine ⟨⟨rfl, fun h => Bool.noConfusion h⟩, ?_⟩ | refine ⟨⟨rfl, fun h => ?_⟩, ?_⟩ | refine ⟨rfl, ?_⟩ | refine ⟨?_, ?_⟩ | fail))) ⟨by rw [f0], by rw [f0], by simp, by simp, rfl⟩ (fun q hq => ?_)
  obtain ⟨m, d, us, ul, v⟩ := q
  obtain ⟨hd, hus, hv, hmN, hul⟩ := hq
  simp only at hd hus hv hmN hul
  dsimp only
  have hul2 : us.length = ul := by rw [← hul]; simp
  have hlu := hul.symm
  obtain ⟨adm, hlm⟩ := (fs m).1 aO
  by_cases hlt : m < N
  · obtain ⟨x, kp, ep⟩ := (fs m).2 aO
    rw [← hd] at kp
    rw [← hus] at hlm ep
    by_cases hin : us[kPut us x]? = some x
    · have kP := k_l1PutS us x ul hul2 aO hin
      have eP : put us x = us := by unfold put; rw [if_pos hin]
      repeat' (first | (refine pA (k := ?_)) | (refine g_exec ?_; first | (refine g_call ?_; first | (refine x_callL [(io, 0)] (kp) rfl rfl aF rfl rfl aS rfl aH rfl ?_; simp only [cl]) | (refine x_callMr [(1001, 0)] [] (kP) rfl rfl (by (repeat' (first | exact trivial | exact ⟨⟨_, rfl, rfl⟩, rfl⟩ | exact ⟨rfl, rfl⟩ | refine ⟨⟨⟨_, rfl, rfl⟩, rfl⟩, ?_⟩ | refine ⟨⟨rfl, rfl⟩, ?_⟩)); first | done | fail) (by (repeat' (first | exact trivial | exact ⟨⟨_, rfl, rfl⟩, rfl⟩ | exact ⟨rfl, rfl⟩ | refine ⟨⟨⟨_, rfl, rfl⟩, rfl⟩, ?_⟩ | refine ⟨⟨rfl, rfl⟩, ?_⟩)); first | done | fail) rfl rfl aS rfl (by (repeat' (first | exact trivial | refine ⟨⟨rfl, rfl, (by first | rfl | (simp; done) | omega), rfl, rfl⟩, ?_⟩)); first | done | fail) rfl rfl rfl rfl ?_; simp only [cl])) | (refine x_nil (hK _ _ aI ?_); clear hK K)) | (refine v_region (fun K hK => ?_)) | (refine v_condt rfl (fun h => ?_) (fun h => ?_) <;> (have h' := h; try simp only [sx] at h')))
      all_goals try (exfalso; omega)
      all_goals (refine q_next (m + 1, (f (m + 1)).1, us, ul, v - 1) rfl (by refine ⟨?_, ?_, rfl, rfl⟩ <;> (repeat' (first | exact trivial | exact ⟨rfl, rfl⟩ | exact rfl | exact ⟨sub_fn, refs_fn⟩ | refine ⟨⟨rfl, rfl⟩, ?_⟩ | refine ⟨⟨sub_fn, refs_fn⟩, ?_⟩ | refine ⟨⟨rfl, fun h => Bool.noConfusion h⟩, ?_⟩ | refine ⟨⟨rfl, fun h => ?_⟩, ?_⟩ | refine ⟨rfl, ?_⟩ | refine ⟨?_, ?_⟩ | fail))) ⟨rfl, by simp only; rw [ep, eP], by first | omega | (simp only; omega), by first | omega | (simp only; omega), hul⟩ (by first | omega | (simp only; omega)))
    · have kP := k_l1PutN us x aO hin
      repeat' (first | (refine pA (k := ?_)) | (refine g_exec ?_; first | (refine g_call ?_; first | (refine x_callL [(io, 0)] (kp) rfl rfl aF rfl rfl aS rfl aH rfl ?_; simp only [cl]) | (refine x_callG true (kP) rfl rfl rfl aS rfl aH ?_; simp only [cl])) | (refine x_nil (hK _ _ aI ?_); clear hK K)) | (refine v_region (fun K hK => ?_)) | (refine v_condt rfl (fun h => ?_) (fun h => ?_) <;> (have h' := h; try simp only [sx] at h')))
      all_goals try (exfalso; omega)
      all_goals (refine q_next (m + 1, (f (m + 1)).1, put us x, (ints (put us x)).length, v - 1) rfl (by refine ⟨?_, ?_, rfl, rfl⟩ <;> (repeat' (first | exact trivial | exact ⟨rfl, rfl⟩ | exact rfl | exact ⟨sub_fn, refs_fn⟩ | refine ⟨⟨rfl, rfl⟩, ?_⟩ | refine ⟨⟨sub_fn, refs_fn⟩, ?_⟩ | refine ⟨⟨rfl, fun h => Bool.noConfusion h⟩, ?_⟩ | refine ⟨⟨rfl, fun h => ?_⟩, ?_⟩ | refine ⟨rfl, ?_⟩ | refine ⟨?_, ?_⟩ | fail))) ⟨rfl, ep.symm, by first | omega | (simp only; omega), by first | omega | (simp only; omega), rfl⟩ (by first | omega | (simp only; omega)))
  · have hmN2 : m = N := by omega
    subst hmN2
    rw [← hd] at k2
    rw [← hus] at key hlm
    rcases key with ⟨rfl, rfl, rfl⟩ | ⟨rfl, rfl, rfl⟩
    · repeat' (first | (refine pA (k := ?_)) | (refine g_exec ?_; first | (refine g_call ?_; refine x_callL [(io, 0)] (k2) rfl rfl aF rfl rfl aS rfl aH rfl ?_; simp only [cl]) | (refine x_nil (hK _ _ aI ?_); clear hK K)) | (refine v_region (fun K hK => ?_)) | (refine v_condt rfl (fun h => ?_) (fun h => ?_) <;> (have h' := h; try simp only [sx] at h')))
      all_goals first
        | (exfalso; omega)
        | exact ret_lL rfl rfl rfl (by decide) ⟨⟨rfl, rfl, fun h => by cases h⟩, trivial⟩ rfl rfl hlu rfl
    · repeat' (first | (refine pA (k := ?_)) | (refine g_exec ?_; first | (refine g_call ?_; first | (refine x_callL [(io, 0)] (k2) rfl rfl aF rfl rfl aS rfl aH rfl ?_; simp only [cl]) | (refine x_callL [(io, 0)] (k3) rfl rfl aF rfl rfl aS rfl aH rfl ?_; simp only [cl])) | (refine x_nil (hK _ _ aI ?_); clear hK K)) | (refine v_region (fun K hK => ?_)) | (refine v_condt rfl (fun h => ?_) (fun h => ?_) <;> (have h' := h; try simp only [sx] at h')))
      all_goals first
        | (exfalso; omega)
        | exact ret_lL rfl rfl rfl (by decide) ⟨⟨rfl, rfl, fun h => by cases h⟩, trivial⟩ rfl rfl (by simp [hul2]) (by simp)
theorem k_cellsOf (c : Cu) (t : Terrain) (hc : c.Ok) (hp : c.pos + 100 ≤ 1152921504606846976) (ht : TrSz t) : ∃ (xs : List Int) (c' : Cu), Dr 21 [.agg t.pv] c (.list 1 (ints xs)) c' ∧ Aft c c' 100 ∧ xs.length ≤ 5 := by
  obtain ⟨ps, c', k, h⟩ := k_cellsOfD c t hc hp ht
  exact ⟨ps, c', ConL.frz k rfl (by intro row h; simp at h; subst h; rfl), h⟩
theorem k_cellOf (c : Cu) (t : Terrain) (hc : c.Ok) (hp : c.pos + 10 ≤ 1152921504606846976) (ht : TrSz t) : ∃ (r : Int) (c' : Cu), Dr 86 [.agg t.pv] c (.int .i64 r) c' ∧ Aft c c' 4 ∧ -1 ≤ r ∧ r ≤ 26 := by
  obtain ⟨y, c1, k1, a1⟩ := k_one c 16 hc aO aO
  have o1 := a1.ok hc aO
  have p1 := a1.pos
  have hl1 : (ints t.burn).length = t.burn.length := by simp
  have ht3 := ht.2.2
  cases y
  · obtain ⟨x, c2, k2, a2, g0, g1, _⟩ := k_pick c1 t.burn.length o1 aO aO
    have g1 := g1 aO
    rw [← hl1] at k2
    refine ⟨x, c2, ?_, (a1.trans a2).le aO, by omega, by omega⟩
    refine contract_of hmix Try.func86 rfl (by kernel_rfl) (by kernel_rfl) (Nat.le_of_ble_eq_true rfl) (fun row h => by (simp only [List.mem_cons, List.not_mem_nil, or_false] at h; first | (subst h; (first | exact .inl rfl | exact .inr (fun e he u hu => by (simp only [List.mem_cons, List.not_mem_nil, or_false] at he; subst he; simp only [List.mem_cons, List.not_mem_nil, or_false] at hu; subst hu; rfl)))) | (rcases h with rfl | rfl <;> (first | exact .inl rfl | exact .inr (fun e he u hu => by (simp only [List.mem_cons, List.not_mem_nil, or_false] at he; subst he; simp only [List.mem_cons, List.not_mem_nil, or_false] at hu; subst hu; rfl)))) | (rcases h with rfl | rfl | rfl <;> (first | exact .inl rfl | exact .inr (fun e he u hu => by (simp only [List.mem_cons, List.not_mem_nil, or_false] at he; subst he; simp only [List.mem_cons, List.not_mem_nil, or_false] at hu; subst hu; rfl)))) | (rcases h with rfl | rfl | rfl | rfl <;> (first | exact .inl rfl | exact .inr (fun e he u hu => by (simp only [List.mem_cons, List.not_mem_nil, or_false] at he; subst he; simp only [List.mem_cons, List.not_mem_nil, or_false] at hu; subst hu; rfl)))))) ?_
    have hty_f26_2 := ty_f26_2
    have hty_c24 := ty_c24
    have hty_u24 := ty_u24
    have hty_s24 := ty_s24
    repeat' (first | (refine pA (k := ?_)) | (refine g_exec ?_; first | (refine g_call ?_; first | (refine x_callL [(io, 0)] (k1) rfl rfl aF rfl rfl aS rfl aH rfl ?_; simp only [cl]) | (refine x_callL [(io, 0)] (k2) rfl rfl aF rfl rfl aS rfl aH rfl ?_; simp only [cl])) | (refine x_nil (hK _ _ aI ?_); clear hK K)) | (refine v_region (fun K hK => ?_)) | (refine v_condt rfl (fun h => ?_) (fun h => ?_) <;> (have h' := h; try simp only [sx] at h')))
    all_goals exact ret_iL rfl rfl ⟨⟨rfl, rfl, fun h => by cases h⟩, trivial⟩ rfl
  · obtain ⟨x, c2, k2, a2, hx⟩ := k_among c1 [-1, (t.burn.length : Int)] o1 aO (by simp)
    rw [← hl1] at k2
    refine ⟨x, c2, ?_, (a1.trans a2).le aO, by simp at hx; omega, by simp at hx; omega⟩
    refine contract_of hmix Try.func86 rfl (by kernel_rfl) (by kernel_rfl) (Nat.le_of_ble_eq_true rfl) (fun row h => by (simp only [List.mem_cons, List.not_mem_nil, or_false] at h; first | (subst h; (first | exact .inl rfl | exact .inr (fun e he u hu => by (simp only [List.mem_cons, List.not_mem_nil, or_false] at he; subst he; simp only [List.mem_cons, List.not_mem_nil, or_false] at hu; subst hu; rfl)))) | (rcases h with rfl | rfl <;> (first | exact .inl rfl | exact .inr (fun e he u hu => by (simp only [List.mem_cons, List.not_mem_nil, or_false] at he; subst he; simp only [List.mem_cons, List.not_mem_nil, or_false] at hu; subst hu; rfl)))) | (rcases h with rfl | rfl | rfl <;> (first | exact .inl rfl | exact .inr (fun e he u hu => by (simp only [List.mem_cons, List.not_mem_nil, or_false] at he; subst he; simp only [List.mem_cons, List.not_mem_nil, or_false] at hu; subst hu; rfl)))) | (rcases h with rfl | rfl | rfl | rfl <;> (first | exact .inl rfl | exact .inr (fun e he u hu => by (simp only [List.mem_cons, List.not_mem_nil, or_false] at he; subst he; simp only [List.mem_cons, List.not_mem_nil, or_false] at hu; subst hu; rfl)))))) ?_
    have hty_f26_2 := ty_f26_2
    have hty_c24 := ty_c24
    have hty_u24 := ty_u24
    have hty_s24 := ty_s24
    repeat' (first | (refine pA (k := ?_)) | (refine g_exec ?_; first | (refine g_call ?_; first | (refine x_callL [(io, 0)] (k1) rfl rfl aF rfl rfl aS rfl aH rfl ?_; simp only [cl]) | (refine x_callL [(io, 0)] (k2) rfl rfl aF rfl rfl aS rfl aH rfl ?_; simp only [cl])) | (refine x_nil (hK _ _ aI ?_); clear hK K)) | (refine v_region (fun K hK => ?_)) | (refine v_condt rfl (fun h => ?_) (fun h => ?_) <;> (have h' := h; try simp only [sx] at h')))
    all_goals exact ret_iL rfl rfl ⟨⟨rfl, rfl, fun h => by cases h⟩, trivial⟩ rfl
end Go.Vs
set_option linter.unusedVariables false
set_option linter.unusedSimpArgs false
set_option maxRecDepth 100000
set_option maxHeartbeats 4000000
namespace Go.Vs
open Go.Proofs
attribute [local irreducible] exec vwp thenQ blkQ loopQ RetPost
@[reducible] def bzP (b : Blz) : List PV := [.agg b.t.pv, .list 2 (b.ps.map Phase.pv), .list 1 (ints b.src), .int .i64 b.st]
@[reducible] def bzQ (b : Blz) (y : PV) : List PV := [.agg b.t.pv, .list 2 (b.ps.map Phase.pv), .list 1 (ints b.src), .int .i64 b.st, y]
structure BlzB (b : Blz) : Prop where
  t : TrSz b.t
  ps : b.ps.length ≤ 7
  src : b.src.length ≤ 5
  st : -1 ≤ b.st ∧ b.st ≤ 1001
theorem k_fire (c : Cu) (hc : c.Ok) (hp : c.pos + 1000 ≤ 1152921504606846976) :
    ContractP Try.prog 19 true [.own (io, 0) 0 0] [cuRow c] (fun r' fin' => ∃ (b : Blz) (c' : Cu), (r' = .tuple (bzP b) ∧ fin' = [[c'.pv]]) ∧ Aft c c' 1000 ∧ BlzB b) := by
  refine contract_of hmix Try.func19 rfl (by kernel_rfl) (by kernel_rfl) (Nat.le_of_ble_eq_true rfl) (fun row h => by (simp only [List.mem_cons, List.not_mem_nil, or_false] at h; first | (subst h; (first | exact .inl rfl | exact .inr (fun e he u hu => by (simp only [List.mem_cons, List.not_mem_nil, or_false] at he; subst he; simp only [List.mem_cons, List.not_mem_nil, or_false] at hu; subst hu; rfl)))) | (rcases h with rfl | rfl <;> (first | exact .inl rfl | exact .inr (fun e he u hu => by (simp only [List.mem_cons, List.not_mem_nil, or_false] at he; subst he; simp only [List.mem_cons, List.not_mem_nil, or_false] at hu; subst hu; rfl)))) | (rcases h with rfl | rfl | rfl <;> (first | exact .inl rfl | exact .inr (fun e he u hu => by (simp only [List.mem_cons, List.not_mem_nil, or_false] at he; subst he; simp only [List.mem_cons, List.not_mem_nil, or_false] at hu; subst hu; rfl)))) | (rcases h with rfl | rfl | rfl | rfl <;> (first | exact .inl rfl | exact .inr (fun e he u hu => by (simp only [List.mem_cons, List.not_mem_nil, or_false] at he; subst he; simp only [List.mem_cons, List.not_mem_nil, or_false] at hu; subst hu; rfl)))))) ?_
  have hty_a26 := ty_a26
  have hty_z26 := ty_z26
  have hty_t26 := ty_t26
  have hty_u24 := ty_u24
  have hty_s24 := ty_s24
  repeat' (first | (refine pA (k := ?_)) | (refine g_exec ?_; first | (refine g_call ?_; refine x_callLP [(io, 0)] (k_anyTerrainZ c hc aO) rfl rfl aF rfl rfl aS rfl (fun r_ fin_ hP_ => ?_); obtain ⟨t, c1, ⟨rfl, rfl⟩, a1, ht⟩ := hP_; refine ⟨_, _, _, aH, rfl, ?_⟩; simp only [cl]) | (refine g_guard ?_; refine x_gsplit rfl rfl (fun h => ?_) (fun h => ?_) <;> (have h' := h; try simp only [sx] at h')) | (refine x_nil (hK _ _ aI ?_); clear hK K)) | (refine v_region (fun K hK => ?_)) | (refine v_condt rfl (fun h => ?_) (fun h => ?_) <;> (have h' := h; try simp only [sx] at h')))
  have o1 := a1.ok hc aO
  have p1 := a1.pos
  obtain ⟨ps, c2, k2, a2, hps⟩ := k_phasesZ c1 o1 aO
  have o2 := a2.ok o1 aO
  have p2 := a2.pos
  obtain ⟨xs, c3, k3, a3, hxs⟩ := k_cellsOf c2 t o2 aO ht
  have o3 := a3.ok o2 aO
  have p3 := a3.pos
  have aft3 := (a1.trans a2).trans a3
  repeat' (first | (refine pA (k := ?_)) | (refine g_exec ?_; first | (refine g_call ?_; first | (refine x_callL [(io, 0)] (k2) rfl rfl aF rfl rfl aS rfl aH rfl ?_; simp only [cl]) | (refine x_callL [(io, 0)] (k3) rfl rfl aF rfl rfl aS rfl aH rfl ?_; simp only [cl])) | (refine g_guard ?_; refine x_gsplit rfl rfl (fun h => ?_) (fun h => ?_) <;> (have h' := h; try simp only [sx] at h')) | (refine x_nil (hK _ _ aI ?_); clear hK K)) | (refine v_region (fun K hK => ?_)) | (refine v_condt rfl (fun h => ?_) (fun h => ?_) <;> (have h' := h; try simp only [sx] at h')))
  refine v_loopK [0, 2, 6, 7] [(io, 0)] (fun q : Cu × List Int × Nat => [(8, .list 1 (ints q.2.1)), (9, .int .i64 q.2.2)]) (fun q : Cu × List Int × Nat => [((io, 0), some (cuRow q.1))]) (fun q : Cu × List Int × Nat => Aft c3 q.1 (100 * q.2.2) ∧ q.2.1.length ≤ 5 ∧ q.2.2 ≤ 3) (fun q : Cu × List Int × Nat => 3 - q.2.2) ((c3, xs, 0)) rfl rfl (fun _ => rfl) (fun _ => rfl) rfl (by refine ⟨?_, ?_, rfl, rfl⟩ <;> (repeat' (first | exact trivial | exact ⟨rfl, rfl⟩ | exact rfl | exact ⟨sub_fn, refs_fn⟩ | refine ⟨⟨rfl, rfl⟩, ?_⟩ | refine ⟨⟨sub_fn, refs_fn⟩, ?_⟩ | refine ⟨⟨rfl, fun h => Bool.noConfusion h⟩, ?_⟩ | refine ⟨⟨rfl, fun h => ?_⟩, ?_⟩ | refine ⟨rfl, ?_⟩ | refine ⟨?_, ?_⟩ | fail))) ⟨(Aft.refl c3).le (by simp only; omega), hxs, by simp only; omega⟩ (fun q hq => ?_)
  obtain ⟨d, us, i⟩ := q
  obtain ⟨ad, hus, hi⟩ := hq
  simp only at ad hus hi
  dsimp only
  have od := ad.ok o3 aO
  have pd := ad.pos
  have hl1 : (ints us).length = us.length := by simp
  by_cases hgo : i < 3 ∧ us.length = 0
  · obtain ⟨ys, c4, k4, a4, hys⟩ := k_cellsOf d t od aO ht
    repeat' (first | (refine pA (k := ?_)) | (refine g_exec ?_; first | (refine g_call ?_; refine x_callL [(io, 0)] (k4) rfl rfl aF rfl rfl aS rfl aH rfl ?_; simp only [cl]) | (refine g_guard ?_; refine x_gsplit rfl rfl (fun h => ?_) (fun h => ?_) <;> (have h' := h; try simp only [sx] at h')) | (refine x_nil (hK _ _ aI ?_); clear hK K)) | (refine v_region (fun K hK => ?_)) | (refine v_condt rfl (fun h => ?_) (fun h => ?_) <;> (have h' := h; try simp only [sx] at h')))
    all_goals try (exfalso; omega)
    all_goals (refine q_next (c4, ys, i + 1) rfl (by refine ⟨?_, ?_, rfl, rfl⟩ <;> (repeat' (first | exact trivial | exact ⟨rfl, rfl⟩ | exact rfl | exact ⟨sub_fn, refs_fn⟩ | refine ⟨⟨rfl, rfl⟩, ?_⟩ | refine ⟨⟨sub_fn, refs_fn⟩, ?_⟩ | refine ⟨⟨rfl, fun h => Bool.noConfusion h⟩, ?_⟩ | refine ⟨⟨rfl, fun h => ?_⟩, ?_⟩ | refine ⟨rfl, ?_⟩ | refine ⟨?_, ?_⟩ | fail))) ⟨(ad.trans a4).le (by simp only; omega), hys, by simp only; omega⟩ (by simp only; omega))
  · obtain ⟨s, c4, k4, a4, h1, h2⟩ := k_startTick d od aO
    repeat' (first | (refine pA (k := ?_)) | (refine g_exec ?_; first | (refine g_call ?_; refine x_callL [(io, 0)] (k4) rfl rfl aF rfl rfl aS rfl aH rfl ?_; simp only [cl]) | (refine g_guard ?_; refine x_gsplit rfl rfl (fun h => ?_) (fun h => ?_) <;> (have h' := h; try simp only [sx] at h')) | (refine x_nil (hK _ _ aI ?_); clear hK K)) | (refine v_region (fun K hK => ?_)) | (refine v_condt rfl (fun h => ?_) (fun h => ?_) <;> (have h' := h; try simp only [sx] at h')))
    all_goals first
      | (exfalso; omega)
      | (refine RetPost.mono (fun r fin h => ⟨⟨t, ps, us, s⟩, c4, h, ((aft3.trans ad).trans a4).le aO, ⟨ht, hps, hus, ⟨h1, h2⟩⟩⟩) ?_
         (first | refine ret_TL rfl rfl rfl (by first | exact trivial | (repeat' (first | exact trivial | refine ⟨by assumption, ?_⟩))) (by repeat' (first | exact trivial | refine ⟨by simp, ?_⟩)) (by first | exact trivial | exact ⟨⟨rfl, rfl, fun h => by cases h⟩, trivial⟩) ?_ | refine ret_AL rfl rfl rfl (by first | exact trivial | (repeat' (first | exact trivial | refine ⟨by assumption, ?_⟩))) (by repeat' (first | exact trivial | refine ⟨by simp, ?_⟩)) (by first | exact trivial | exact ⟨⟨rfl, rfl, fun h => by cases h⟩, trivial⟩) ?_); (repeat' (first | exact et_end | exact el_end | refine et_int rfl ?_ ?_ | refine et_bool ?_ ?_ | refine et_str ?_ ?_ | refine et_lst rfl rfl ?_ ?_ | refine et_listA rfl (by rfl) (by decide) rfl rfl ?_ ?_ ?_ | refine et_nil ?_ ?_ | refine et_agg0 ?_ ?_ | refine et_agg ?_ ?_ | refine el_int rfl ?_ ?_ | refine el_bool ?_ ?_ | refine el_str ?_ ?_ | refine el_lst rfl rfl ?_ ?_ | refine el_listA rfl (by rfl) (by decide) rfl rfl ?_ ?_ ?_ | refine el_nil ?_ ?_)) <;> first | rfl | (simp; done) | omega)
end Go.Vs
set_option linter.unusedVariables false
set_option linter.unusedSimpArgs false
set_option maxRecDepth 100000
set_option maxHeartbeats 4000000
namespace Go.Vs
open Go.Proofs
attribute [local irreducible] exec vwp thenQ blkQ loopQ RetPost
theorem k_threat (c : Cu) (hc : c.Ok) (hp : c.pos + 1000 ≤ 1152921504606846976) :
    ContractP Try.prog 68 true [.own (io, 0) 0 0] [cuRow c] (fun r' fin' => ∃ (t : Terrain) (xs ys : List Int) (c' : Cu), (r' = .tuple [.agg t.pv, .list 1 (ints xs), .list 1 (ints ys)] ∧ fin' = [[c'.pv]]) ∧ Aft c c' 700 ∧ TrSz t ∧ xs.length ≤ 5 ∧ ys.length ≤ 5) := by
  refine contract_of hmix Try.func68 rfl (by kernel_rfl) (by kernel_rfl) (Nat.le_of_ble_eq_true rfl) (fun row h => by (simp only [List.mem_cons, List.not_mem_nil, or_false] at h; first | (subst h; (first | exact .inl rfl | exact .inr (fun e he u hu => by (simp only [List.mem_cons, List.not_mem_nil, or_false] at he; subst he; simp only [List.mem_cons, List.not_mem_nil, or_false] at hu; subst hu; rfl)))) | (rcases h with rfl | rfl <;> (first | exact .inl rfl | exact .inr (fun e he u hu => by (simp only [List.mem_cons, List.not_mem_nil, or_false] at he; subst he; simp only [List.mem_cons, List.not_mem_nil, or_false] at hu; subst hu; rfl)))) | (rcases h with rfl | rfl | rfl <;> (first | exact .inl rfl | exact .inr (fun e he u hu => by (simp only [List.mem_cons, List.not_mem_nil, or_false] at he; subst he; simp only [List.mem_cons, List.not_mem_nil, or_false] at hu; subst hu; rfl)))) | (rcases h with rfl | rfl | rfl | rfl <;> (first | exact .inl rfl | exact .inr (fun e he u hu => by (simp only [List.mem_cons, List.not_mem_nil, or_false] at he; subst he; simp only [List.mem_cons, List.not_mem_nil, or_false] at hu; subst hu; rfl)))))) ?_
  have hty_a26 := ty_a26
  have hty_z26 := ty_z26
  have hty_t26 := ty_t26
  have hty_f26_2 := ty_f26_2
  have hty_c24 := ty_c24
  have hty_u24 := ty_u24
  have hty_s24 := ty_s24
  have hty_c3 := ty_c3
  repeat' (first | (refine g_exec ?_; first | (refine x_buildSliceL (d := 18) aA rfl rfl rfl ?_) | (refine x_buildSliceL (d := 22) aA rfl rfl rfl ?_) | (refine x_buildSliceL (d := 49) aA rfl rfl rfl ?_) | (refine x_buildSliceL (d := 53) aA rfl rfl rfl ?_)) | (refine pA (k := ?_)) | (refine g_exec ?_; first | (refine g_call ?_; refine x_callLP [(io, 0)] (k_anyTerrainZ c hc aO) rfl rfl aF rfl rfl aS rfl (fun r_ fin_ hP_ => ?_); obtain ⟨t, c1, ⟨rfl, rfl⟩, a1, ht⟩ := hP_; refine ⟨_, _, _, aH, rfl, ?_⟩; simp only [cl]) | (refine g_guard ?_; refine x_gsplit rfl rfl (fun h => ?_) (fun h => ?_) <;> (have h' := h; try simp only [sx] at h')) | (refine x_nil (hK _ _ aI ?_); clear hK K)) | (refine v_region (fun K hK => ?_)) | (refine v_condt rfl (fun h => ?_) (fun h => ?_) <;> (have h' := h; try simp only [sx] at h')))
  have o1 := a1.ok hc aO
  have p1 := a1.pos
  have ht3 := ht.2.2
  have hl1 : (ints t.burn).length = t.burn.length := by simp
  obtain ⟨x0, c2, k2, a2, x1, x2, _⟩ := k_pick c1 t.burn.length o1 aO aO
  have x2 := x2 aO
  have o2 := a2.ok o1 aO
  have p2 := a2.pos
  obtain ⟨y0, c3, k3, a3, y1, y2, _⟩ := k_pick c2 t.burn.length o2 aO aO
  have y2 := y2 aO
  have o3 := a3.ok o2 aO
  have p3 := a3.pos
  have aft3 := (a1.trans a2).trans a3
  rw [← hl1] at k2 k3
  repeat' (first | (refine g_exec ?_; first | (refine x_buildSliceL (d := 18) aA rfl rfl rfl ?_) | (refine x_buildSliceL (d := 22) aA rfl rfl rfl ?_) | (refine x_buildSliceL (d := 49) aA rfl rfl rfl ?_) | (refine x_buildSliceL (d := 53) aA rfl rfl rfl ?_)) | (refine pB (k := ?_)) | (refine v_seqN 3000004 rfl ?_) | (refine g_exec ?_; first | (refine g_call ?_; first | (refine x_callL [(io, 0)] (k2) rfl rfl aF rfl rfl aS rfl aH rfl ?_; simp only [cl]) | (refine x_callL [(io, 0)] (k3) rfl rfl aF rfl rfl aS rfl aH rfl ?_; simp only [cl])) | (refine g_guard ?_; refine x_gsplit rfl rfl (fun h => ?_) (fun h => ?_) <;> (have h' := h; try simp only [sx] at h')) | (refine x_nil (hK _ _ aI ?_); clear hK K)) | (refine v_region (fun K hK => ?_)) | (refine v_condt rfl (fun h => ?_) (fun h => ?_) <;> (have h' := h; try simp only [sx] at h')))
  all_goals try (exfalso; omega)
  refine v_cutK [0, 2, 5, 6] [(io, 0)] (fun q : Cu × List Int × List Int => [(7, .list 1 (ints q.2.1)), (8, .list 1 (ints q.2.2))]) (fun q : Cu × List Int × List Int => [((io, 0), some (cuRow q.1))]) (fun q : Cu × List Int × List Int => Aft c3 q.1 20 ∧ q.2.1.length = 1 ∧ q.2.2.length = 1) rfl rfl (fun _ => rfl) (fun _ => rfl) ?_ (fun q hq => ?_)
  · repeat' (first | (refine g_exec ?_; first | (refine x_buildSliceL (d := 18) aA rfl rfl rfl ?_) | (refine x_buildSliceL (d := 22) aA rfl rfl rfl ?_) | (refine x_buildSliceL (d := 49) aA rfl rfl rfl ?_) | (refine x_buildSliceL (d := 53) aA rfl rfl rfl ?_)) | (refine pA (k := ?_)) | (refine g_exec ?_; first | (refine g_guard ?_; refine x_gsplit rfl rfl (fun h => ?_) (fun h => ?_) <;> (have h' := h; try simp only [sx] at h')) | (refine x_nil (hK _ _ aI ?_); clear hK K)) | (refine v_region (fun K hK => ?_)) | (refine v_condt rfl (fun h => ?_) (fun h => ?_) <;> (have h' := h; try simp only [sx] at h')))
    refine v_loopK [0, 2, 5, 6] [(io, 0)] (fun q : Cu × Int × Int × Nat => [(7, .list 1 [[.int .i64 q.2.1]]), (8, .list 1 [[.int .i64 q.2.2.1]]), (9, .int .i64 q.2.2.2)]) (fun q : Cu × Int × Int × Nat => [((io, 0), some (cuRow q.1))]) (fun q : Cu × Int × Int × Nat => Aft c3 q.1 (4 * q.2.2.2) ∧ (0 ≤ q.2.1 ∧ q.2.1 < t.burn.length) ∧ (0 ≤ q.2.2.1 ∧ q.2.2.1 < t.burn.length) ∧ q.2.2.2 ≤ 4) (fun q : Cu × Int × Int × Nat => 4 - q.2.2.2) ((c3, x0, y0, 0)) rfl rfl (fun _ => rfl) (fun _ => rfl) rfl (by refine ⟨?_, ?_, rfl, rfl⟩ <;> (repeat' (first | exact trivial | exact ⟨rfl, rfl⟩ | exact rfl | exact ⟨sub_fn, refs_fn⟩ | refine ⟨⟨rfl, rfl⟩, ?_⟩ | refine ⟨⟨sub_fn, refs_fn⟩, ?_⟩ | refine ⟨⟨rfl, fun h => Bool.noConfusion h⟩, ?_⟩ | refine ⟨⟨rfl, fun h => ?_⟩, ?_⟩ | refine ⟨rfl, ?_⟩ | refine ⟨?_, ?_⟩ | fail))) ⟨(Aft.refl c3).le (by first | omega | (simp only; omega)), ⟨x1, x2⟩, ⟨y1, y2⟩, by first | omega | (simp only; omega)⟩ (fun q hq => ?_)
    obtain ⟨d, x, y, k⟩ := q
    obtain ⟨ad, hx, hy, hk⟩ := hq
    simp only at ad hx hy hk
    dsimp only
    have od := ad.ok o3 aO
    have pd := ad.pos
    have kG := k_l2Good t aO
    have hx0 : ([[PV.int .i64 x]] : List (List PV))[Int.toNat 0]? = some [PV.int .i64 x] := rfl
    have hy0 : ([[PV.int .i64 y]] : List (List PV))[Int.toNat 0]? = some [PV.int .i64 y] := rfl
    obtain ⟨x', c4, k4, a4, g1, g2, _⟩ := k_pick d t.burn.length od aO aO
    have g2 := g2 aO
    have o4 := a4.ok od aO
    have p4 := a4.pos
    obtain ⟨y', c5, k5, a5, g3, g4, _⟩ := k_pick c4 t.burn.length o4 aO aO
    have g4 := g4 aO
    rw [← hl1] at k4 k5
    by_cases hg : GoodT t
    · have kA := k_l2Apart t x y hg ⟨hx.1, hx.2⟩ ⟨hy.1, hy.2⟩
      rw [decide_eq_true hg] at kG
      repeat' (first | (refine g_exec ?_; first | (refine x_buildSliceL (d := 18) aA rfl rfl rfl ?_) | (refine x_buildSliceL (d := 22) aA rfl rfl rfl ?_) | (refine x_buildSliceL (d := 49) aA rfl rfl rfl ?_) | (refine x_buildSliceL (d := 53) aA rfl rfl rfl ?_)) | (refine pA (k := ?_)) | (refine g_exec ?_; first | (refine g_call ?_; first | (refine x_callG true (kG) rfl rfl rfl aS rfl aH ?_; simp only [cl]) | (refine x_callG true (kA) rfl rfl rfl aS rfl aH ?_; simp only [cl]) | (refine x_callL [(io, 0)] (k4) rfl rfl aF rfl rfl aS rfl aH rfl ?_; simp only [cl]) | (refine x_callL [(io, 0)] (k5) rfl rfl aF rfl rfl aS rfl aH rfl ?_; simp only [cl])) | (refine g_guard ?_; refine x_gsplit rfl rfl (fun h => ?_) (fun h => ?_) <;> (have h' := h; try simp only [sx] at h')) | (refine x_nil (hK _ _ aI ?_); clear hK K)) | (refine v_region (fun K hK => ?_)) | (refine v_condt rfl (fun h => ?_) (fun h => ?_) <;> (have h' := h; try simp only [sx] at h')))
      all_goals first
        | (exfalso; omega)
        | (refine q_next (c5, x', y', k + 1) rfl (by refine ⟨?_, ?_, rfl, rfl⟩ <;> (repeat' (first | exact trivial | exact ⟨rfl, rfl⟩ | exact rfl | exact ⟨sub_fn, refs_fn⟩ | refine ⟨⟨rfl, rfl⟩, ?_⟩ | refine ⟨⟨sub_fn, refs_fn⟩, ?_⟩ | refine ⟨⟨rfl, fun h => Bool.noConfusion h⟩, ?_⟩ | refine ⟨⟨rfl, fun h => ?_⟩, ?_⟩ | refine ⟨rfl, ?_⟩ | refine ⟨?_, ?_⟩ | fail))) ⟨((ad.trans a4).trans a5).le (by first | omega | (simp only; omega)), ⟨g1, g2⟩, ⟨g3, g4⟩, by first | omega | (simp only; omega)⟩ (by first | omega | (simp only; omega)))
        | (refine q_next (d, [x], [y]) rfl (by refine ⟨?_, ?_, rfl, rfl⟩ <;> (repeat' (first | exact trivial | exact ⟨rfl, rfl⟩ | exact rfl | exact ⟨sub_fn, refs_fn⟩ | refine ⟨⟨rfl, rfl⟩, ?_⟩ | refine ⟨⟨sub_fn, refs_fn⟩, ?_⟩ | refine ⟨⟨rfl, fun h => Bool.noConfusion h⟩, ?_⟩ | refine ⟨⟨rfl, fun h => ?_⟩, ?_⟩ | refine ⟨rfl, ?_⟩ | refine ⟨?_, ?_⟩ | fail))) ⟨ad.le (by first | omega | (simp only; omega)), rfl, rfl⟩ (by decide))
    · rw [decide_eq_false hg] at kG
      repeat' (first | (refine g_exec ?_; first | (refine x_buildSliceL (d := 18) aA rfl rfl rfl ?_) | (refine x_buildSliceL (d := 22) aA rfl rfl rfl ?_) | (refine x_buildSliceL (d := 49) aA rfl rfl rfl ?_) | (refine x_buildSliceL (d := 53) aA rfl rfl rfl ?_)) | (refine pA (k := ?_)) | (refine g_exec ?_; first | (refine g_call ?_; refine x_callG true (kG) rfl rfl rfl aS rfl aH ?_; simp only [cl]) | (refine g_guard ?_; refine x_gsplit rfl rfl (fun h => ?_) (fun h => ?_) <;> (have h' := h; try simp only [sx] at h')) | (refine x_nil (hK _ _ aI ?_); clear hK K)) | (refine v_region (fun K hK => ?_)) | (refine v_condt rfl (fun h => ?_) (fun h => ?_) <;> (have h' := h; try simp only [sx] at h')))
      all_goals first
        | (exfalso; omega)
        | (refine q_next (d, [x], [y]) rfl (by refine ⟨?_, ?_, rfl, rfl⟩ <;> (repeat' (first | exact trivial | exact ⟨rfl, rfl⟩ | exact rfl | exact ⟨sub_fn, refs_fn⟩ | refine ⟨⟨rfl, rfl⟩, ?_⟩ | refine ⟨⟨sub_fn, refs_fn⟩, ?_⟩ | refine ⟨⟨rfl, fun h => Bool.noConfusion h⟩, ?_⟩ | refine ⟨⟨rfl, fun h => ?_⟩, ?_⟩ | refine ⟨rfl, ?_⟩ | refine ⟨?_, ?_⟩ | fail))) ⟨ad.le (by first | omega | (simp only; omega)), rfl, rfl⟩ (by decide))
  clear x1 x2 y1 y2 k2 k3
  obtain ⟨d, xs, ys⟩ := q
  obtain ⟨ad, hxl, hyl⟩ := hq
  simp only at ad hxl hyl
  dsimp only
  have od := ad.ok o3 aO
  have pd := ad.pos
  have aftd := aft3.trans ad
  repeat' (first | (refine g_exec ?_; first | (refine x_buildSliceL (d := 18) aA rfl rfl rfl ?_) | (refine x_buildSliceL (d := 22) aA rfl rfl rfl ?_) | (refine x_buildSliceL (d := 49) aA rfl rfl rfl ?_) | (refine x_buildSliceL (d := 53) aA rfl rfl rfl ?_)) | (refine pB (k := ?_)) | (refine v_seqN 3000009 rfl ?_) | (refine g_exec ?_; first | (refine g_guard ?_; refine x_gsplit rfl rfl (fun h => ?_) (fun h => ?_) <;> (have h' := h; try simp only [sx] at h')) | (refine x_nil (hK _ _ aI ?_); clear hK K)) | (refine v_region (fun K hK => ?_)) | (refine v_condt rfl (fun h => ?_) (fun h => ?_) <;> (have h' := h; try simp only [sx] at h')))
  refine v_cutK [0, 2, 5, 6, 8] [(io, 0)] (fun q : Cu × List Int => [(7, .list 1 (ints q.2))]) (fun q : Cu × List Int => [((io, 0), some (cuRow q.1))]) (fun q : Cu × List Int => Aft d q.1 4 ∧ q.2.length ≤ 2) rfl rfl (fun _ => rfl) (fun _ => rfl) ?_ (fun q hq => ?_)
  · obtain ⟨b, e1, kb, ab⟩ := k_one d 3 od aO aO
    have ob := ab.ok od aO
    have pb := ab.pos
    cases b with
    | false =>
      repeat' (first | (refine g_exec ?_; first | (refine x_buildSliceL (d := 18) aA rfl rfl rfl ?_) | (refine x_buildSliceL (d := 22) aA rfl rfl rfl ?_) | (refine x_buildSliceL (d := 49) aA rfl rfl rfl ?_) | (refine x_buildSliceL (d := 53) aA rfl rfl rfl ?_)) | (refine pA (k := ?_)) | (refine g_exec ?_; first | (refine g_call ?_; refine x_callL [(io, 0)] (kb) rfl rfl aF rfl rfl aS rfl aH rfl ?_; simp only [cl]) | (refine g_guard ?_; refine x_gsplit rfl rfl (fun h => ?_) (fun h => ?_) <;> (have h' := h; try simp only [sx] at h')) | (refine x_nil (hK _ _ aI ?_); clear hK K)) | (refine v_region (fun K hK => ?_)) | (refine v_condt rfl (fun h => ?_) (fun h => ?_) <;> (have h' := h; try simp only [sx] at h')))
      all_goals first
        | (exfalso; omega)
        | (refine q_next (e1, xs) rfl (by refine ⟨?_, ?_, rfl, rfl⟩ <;> (repeat' (first | exact trivial | exact ⟨rfl, rfl⟩ | exact rfl | exact ⟨sub_fn, refs_fn⟩ | refine ⟨⟨rfl, rfl⟩, ?_⟩ | refine ⟨⟨sub_fn, refs_fn⟩, ?_⟩ | refine ⟨⟨rfl, fun h => Bool.noConfusion h⟩, ?_⟩ | refine ⟨⟨rfl, fun h => ?_⟩, ?_⟩ | refine ⟨rfl, ?_⟩ | refine ⟨?_, ?_⟩ | fail))) ⟨ab.le (by first | omega | (simp only; omega)), by first | omega | (simp only; omega)⟩ (by decide))
    | true =>
      obtain ⟨z, e2, kz, az, _⟩ := k_pick e1 t.burn.length ob aO aO
      rw [← hl1] at kz
      have hpl := put_len xs z
      have kP := k_l1Put xs z aO
      repeat' (first | (refine g_exec ?_; first | (refine x_buildSliceL (d := 18) aA rfl rfl rfl ?_) | (refine x_buildSliceL (d := 22) aA rfl rfl rfl ?_) | (refine x_buildSliceL (d := 49) aA rfl rfl rfl ?_) | (refine x_buildSliceL (d := 53) aA rfl rfl rfl ?_)) | (refine pA (k := ?_)) | (refine g_exec ?_; first | (refine g_call ?_; first | (refine x_callL [(io, 0)] (kb) rfl rfl aF rfl rfl aS rfl aH rfl ?_; simp only [cl]) | (refine x_callL [(io, 0)] (kz) rfl rfl aF rfl rfl aS rfl aH rfl ?_; simp only [cl]) | (refine x_callA true (kP) rfl rfl rfl rfl rfl aS rfl aH ?_; simp only [cl])) | (refine g_guard ?_; refine x_gsplit rfl rfl (fun h => ?_) (fun h => ?_) <;> (have h' := h; try simp only [sx] at h')) | (refine x_nil (hK _ _ aI ?_); clear hK K)) | (refine v_region (fun K hK => ?_)) | (refine v_condt rfl (fun h => ?_) (fun h => ?_) <;> (have h' := h; try simp only [sx] at h')))
      all_goals first
        | (exfalso; omega)
        | (refine q_next (e2, put xs z) rfl (by refine ⟨?_, ?_, rfl, rfl⟩ <;> (repeat' (first | exact trivial | exact ⟨rfl, rfl⟩ | exact rfl | exact ⟨sub_fn, refs_fn⟩ | refine ⟨⟨rfl, rfl⟩, ?_⟩ | refine ⟨⟨sub_fn, refs_fn⟩, ?_⟩ | refine ⟨⟨rfl, fun h => Bool.noConfusion h⟩, ?_⟩ | refine ⟨⟨rfl, fun h => ?_⟩, ?_⟩ | refine ⟨rfl, ?_⟩ | refine ⟨?_, ?_⟩ | fail))) ⟨(ab.trans az).le (by first | omega | (simp only; omega)), by first | omega | (simp only; omega)⟩ (by decide))
  obtain ⟨e, us⟩ := q
  obtain ⟨ae, hul⟩ := hq
  simp only at ae hul
  dsimp only
  have oe := ae.ok od aO
  have pe := ae.pos
  have afte := aftd.trans ae
  repeat' (first | (refine g_exec ?_; first | (refine x_buildSliceL (d := 18) aA rfl rfl rfl ?_) | (refine x_buildSliceL (d := 22) aA rfl rfl rfl ?_) | (refine x_buildSliceL (d := 49) aA rfl rfl rfl ?_) | (refine x_buildSliceL (d := 53) aA rfl rfl rfl ?_)) | (refine pB (k := ?_)) | (refine v_seqN 3000011 rfl ?_) | (refine g_exec ?_; first | (refine g_guard ?_; refine x_gsplit rfl rfl (fun h => ?_) (fun h => ?_) <;> (have h' := h; try simp only [sx] at h')) | (refine x_nil (hK _ _ aI ?_); clear hK K)) | (refine v_region (fun K hK => ?_)) | (refine v_condt rfl (fun h => ?_) (fun h => ?_) <;> (have h' := h; try simp only [sx] at h')))
  refine v_cutK [0, 2, 5, 7] [(io, 0)] (fun q : Cu × List Int => [(8, .list 1 (ints q.2))]) (fun q : Cu × List Int => [((io, 0), some (cuRow q.1))]) (fun q : Cu × List Int => Aft e q.1 4 ∧ q.2.length ≤ 2) rfl rfl (fun _ => rfl) (fun _ => rfl) ?_ (fun q hq => ?_)
  · obtain ⟨b, e1, kb, ab⟩ := k_one e 3 oe aO aO
    have ob := ab.ok oe aO
    have pb := ab.pos
    cases b with
    | false =>
      repeat' (first | (refine g_exec ?_; first | (refine x_buildSliceL (d := 18) aA rfl rfl rfl ?_) | (refine x_buildSliceL (d := 22) aA rfl rfl rfl ?_) | (refine x_buildSliceL (d := 49) aA rfl rfl rfl ?_) | (refine x_buildSliceL (d := 53) aA rfl rfl rfl ?_)) | (refine pA (k := ?_)) | (refine g_exec ?_; first | (refine g_call ?_; refine x_callL [(io, 0)] (kb) rfl rfl aF rfl rfl aS rfl aH rfl ?_; simp only [cl]) | (refine g_guard ?_; refine x_gsplit rfl rfl (fun h => ?_) (fun h => ?_) <;> (have h' := h; try simp only [sx] at h')) | (refine x_nil (hK _ _ aI ?_); clear hK K)) | (refine v_region (fun K hK => ?_)) | (refine v_condt rfl (fun h => ?_) (fun h => ?_) <;> (have h' := h; try simp only [sx] at h')))
      all_goals first
        | (exfalso; omega)
        | (refine q_next (e1, ys) rfl (by refine ⟨?_, ?_, rfl, rfl⟩ <;> (repeat' (first | exact trivial | exact ⟨rfl, rfl⟩ | exact rfl | exact ⟨sub_fn, refs_fn⟩ | refine ⟨⟨rfl, rfl⟩, ?_⟩ | refine ⟨⟨sub_fn, refs_fn⟩, ?_⟩ | refine ⟨⟨rfl, fun h => Bool.noConfusion h⟩, ?_⟩ | refine ⟨⟨rfl, fun h => ?_⟩, ?_⟩ | refine ⟨rfl, ?_⟩ | refine ⟨?_, ?_⟩ | fail))) ⟨ab.le (by first | omega | (simp only; omega)), by first | omega | (simp only; omega)⟩ (by decide))
    | true =>
      obtain ⟨z, e2, kz, az, _⟩ := k_pick e1 t.burn.length ob aO aO
      rw [← hl1] at kz
      have hpl := put_len ys z
      have kP := k_l1Put ys z aO
      repeat' (first | (refine g_exec ?_; first | (refine x_buildSliceL (d := 18) aA rfl rfl rfl ?_) | (refine x_buildSliceL (d := 22) aA rfl rfl rfl ?_) | (refine x_buildSliceL (d := 49) aA rfl rfl rfl ?_) | (refine x_buildSliceL (d := 53) aA rfl rfl rfl ?_)) | (refine pA (k := ?_)) | (refine g_exec ?_; first | (refine g_call ?_; first | (refine x_callL [(io, 0)] (kb) rfl rfl aF rfl rfl aS rfl aH rfl ?_; simp only [cl]) | (refine x_callL [(io, 0)] (kz) rfl rfl aF rfl rfl aS rfl aH rfl ?_; simp only [cl]) | (refine x_callA true (kP) rfl rfl rfl rfl rfl aS rfl aH ?_; simp only [cl])) | (refine g_guard ?_; refine x_gsplit rfl rfl (fun h => ?_) (fun h => ?_) <;> (have h' := h; try simp only [sx] at h')) | (refine x_nil (hK _ _ aI ?_); clear hK K)) | (refine v_region (fun K hK => ?_)) | (refine v_condt rfl (fun h => ?_) (fun h => ?_) <;> (have h' := h; try simp only [sx] at h')))
      all_goals first
        | (exfalso; omega)
        | (refine q_next (e2, put ys z) rfl (by refine ⟨?_, ?_, rfl, rfl⟩ <;> (repeat' (first | exact trivial | exact ⟨rfl, rfl⟩ | exact rfl | exact ⟨sub_fn, refs_fn⟩ | refine ⟨⟨rfl, rfl⟩, ?_⟩ | refine ⟨⟨sub_fn, refs_fn⟩, ?_⟩ | refine ⟨⟨rfl, fun h => Bool.noConfusion h⟩, ?_⟩ | refine ⟨⟨rfl, fun h => ?_⟩, ?_⟩ | refine ⟨rfl, ?_⟩ | refine ⟨?_, ?_⟩ | fail))) ⟨(ab.trans az).le (by first | omega | (simp only; omega)), by first | omega | (simp only; omega)⟩ (by decide))
  obtain ⟨g, vs⟩ := q
  obtain ⟨ag, hvl⟩ := hq
  simp only at ag hvl
  dsimp only
  have og := ag.ok oe aO
  have pg := ag.pos
  have aftg := afte.trans ag
  obtain ⟨r, g1, kr, ar, _⟩ := k_pick g 24 og aO aO
  have or := ar.ok og aO
  have pr := ar.pos
  obtain ⟨zs, g2, kc, ac, hzl⟩ := k_cellsOf g1 t or aO ht
  by_cases r0 : r = 0
  · repeat' (first | (refine g_exec ?_; first | (refine x_buildSliceL (d := 18) aA rfl rfl rfl ?_) | (refine x_buildSliceL (d := 22) aA rfl rfl rfl ?_) | (refine x_buildSliceL (d := 49) aA rfl rfl rfl ?_) | (refine x_buildSliceL (d := 53) aA rfl rfl rfl ?_)) | (refine pA (k := ?_)) | (refine g_exec ?_; first | (refine g_call ?_; first | (refine x_callL [(io, 0)] (kr) rfl rfl aF rfl rfl aS rfl aH rfl ?_; simp only [cl]) | (refine x_callL [(io, 0)] (kc) rfl rfl aF rfl rfl aS rfl aH rfl ?_; simp only [cl])) | (refine g_guard ?_; refine x_gsplit rfl rfl (fun h => ?_) (fun h => ?_) <;> (have h' := h; try simp only [sx] at h')) | (refine x_nil (hK _ _ aI ?_); clear hK K)) | (refine v_region (fun K hK => ?_)) | (refine v_condt rfl (fun h => ?_) (fun h => ?_) <;> (have h' := h; try simp only [sx] at h')))
    all_goals first
      | (exfalso; omega)
      | (refine RetPost.mono (fun r fin h => ⟨t, us, zs, g2, h, ((aftg.trans ar).trans ac).le aO, ht, by omega, hzl⟩) ?_
         (first | refine ret_TL rfl rfl rfl (by first | exact trivial | (repeat' (first | exact trivial | refine ⟨by assumption, ?_⟩))) (by repeat' (first | exact trivial | refine ⟨by simp, ?_⟩)) (by first | exact trivial | exact ⟨⟨rfl, rfl, fun h => by cases h⟩, trivial⟩) ?_ | refine ret_AL rfl rfl rfl (by first | exact trivial | (repeat' (first | exact trivial | refine ⟨by assumption, ?_⟩))) (by repeat' (first | exact trivial | refine ⟨by simp, ?_⟩)) (by first | exact trivial | exact ⟨⟨rfl, rfl, fun h => by cases h⟩, trivial⟩) ?_); (repeat' (first | exact et_end | exact el_end | refine et_int rfl ?_ ?_ | refine et_bool ?_ ?_ | refine et_str ?_ ?_ | refine et_lst rfl rfl ?_ ?_ | refine et_listA rfl (by rfl) (by decide) rfl rfl ?_ ?_ ?_ | refine et_nil ?_ ?_ | refine et_agg0 ?_ ?_ | refine et_agg ?_ ?_ | refine el_int rfl ?_ ?_ | refine el_bool ?_ ?_ | refine el_str ?_ ?_ | refine el_lst rfl rfl ?_ ?_ | refine el_listA rfl (by rfl) (by decide) rfl rfl ?_ ?_ ?_ | refine el_nil ?_ ?_)) <;> first | rfl | (simp; done) | omega)
  · by_cases r1 : r = 1
    · repeat' (first | (refine g_exec ?_; first | (refine x_buildSliceL (d := 18) aA rfl rfl rfl ?_) | (refine x_buildSliceL (d := 22) aA rfl rfl rfl ?_) | (refine x_buildSliceL (d := 49) aA rfl rfl rfl ?_) | (refine x_buildSliceL (d := 53) aA rfl rfl rfl ?_)) | (refine pA (k := ?_)) | (refine g_exec ?_; first | (refine g_call ?_; first | (refine x_callL [(io, 0)] (kr) rfl rfl aF rfl rfl aS rfl aH rfl ?_; simp only [cl]) | (refine x_callL [(io, 0)] (kc) rfl rfl aF rfl rfl aS rfl aH rfl ?_; simp only [cl])) | (refine g_guard ?_; refine x_gsplit rfl rfl (fun h => ?_) (fun h => ?_) <;> (have h' := h; try simp only [sx] at h')) | (refine x_nil (hK _ _ aI ?_); clear hK K)) | (refine v_region (fun K hK => ?_)) | (refine v_condt rfl (fun h => ?_) (fun h => ?_) <;> (have h' := h; try simp only [sx] at h')))
      all_goals first
        | (exfalso; omega)
        | (refine RetPost.mono (fun r fin h => ⟨t, zs, vs, g2, h, ((aftg.trans ar).trans ac).le aO, ht, hzl, by omega⟩) ?_
           (first | refine ret_TL rfl rfl rfl (by first | exact trivial | (repeat' (first | exact trivial | refine ⟨by assumption, ?_⟩))) (by repeat' (first | exact trivial | refine ⟨by simp, ?_⟩)) (by first | exact trivial | exact ⟨⟨rfl, rfl, fun h => by cases h⟩, trivial⟩) ?_ | refine ret_AL rfl rfl rfl (by first | exact trivial | (repeat' (first | exact trivial | refine ⟨by assumption, ?_⟩))) (by repeat' (first | exact trivial | refine ⟨by simp, ?_⟩)) (by first | exact trivial | exact ⟨⟨rfl, rfl, fun h => by cases h⟩, trivial⟩) ?_); (repeat' (first | exact et_end | exact el_end | refine et_int rfl ?_ ?_ | refine et_bool ?_ ?_ | refine et_str ?_ ?_ | refine et_lst rfl rfl ?_ ?_ | refine et_listA rfl (by rfl) (by decide) rfl rfl ?_ ?_ ?_ | refine et_nil ?_ ?_ | refine et_agg0 ?_ ?_ | refine et_agg ?_ ?_ | refine el_int rfl ?_ ?_ | refine el_bool ?_ ?_ | refine el_str ?_ ?_ | refine el_lst rfl rfl ?_ ?_ | refine el_listA rfl (by rfl) (by decide) rfl rfl ?_ ?_ ?_ | refine el_nil ?_ ?_)) <;> first | rfl | (simp; done) | omega)
    · repeat' (first | (refine g_exec ?_; first | (refine x_buildSliceL (d := 18) aA rfl rfl rfl ?_) | (refine x_buildSliceL (d := 22) aA rfl rfl rfl ?_) | (refine x_buildSliceL (d := 49) aA rfl rfl rfl ?_) | (refine x_buildSliceL (d := 53) aA rfl rfl rfl ?_)) | (refine pA (k := ?_)) | (refine g_exec ?_; first | (refine g_call ?_; refine x_callL [(io, 0)] (kr) rfl rfl aF rfl rfl aS rfl aH rfl ?_; simp only [cl]) | (refine g_guard ?_; refine x_gsplit rfl rfl (fun h => ?_) (fun h => ?_) <;> (have h' := h; try simp only [sx] at h')) | (refine x_nil (hK _ _ aI ?_); clear hK K)) | (refine v_region (fun K hK => ?_)) | (refine v_condt rfl (fun h => ?_) (fun h => ?_) <;> (have h' := h; try simp only [sx] at h')))
      all_goals first
        | (exfalso; omega)
        | (refine RetPost.mono (fun r fin h => ⟨t, us, vs, g1, h, (aftg.trans ar).le aO, ht, by omega, by omega⟩) ?_
           (first | refine ret_TL rfl rfl rfl (by first | exact trivial | (repeat' (first | exact trivial | refine ⟨by assumption, ?_⟩))) (by repeat' (first | exact trivial | refine ⟨by simp, ?_⟩)) (by first | exact trivial | exact ⟨⟨rfl, rfl, fun h => by cases h⟩, trivial⟩) ?_ | refine ret_AL rfl rfl rfl (by first | exact trivial | (repeat' (first | exact trivial | refine ⟨by assumption, ?_⟩))) (by repeat' (first | exact trivial | refine ⟨by simp, ?_⟩)) (by first | exact trivial | exact ⟨⟨rfl, rfl, fun h => by cases h⟩, trivial⟩) ?_); (repeat' (first | exact et_end | exact el_end | refine et_int rfl ?_ ?_ | refine et_bool ?_ ?_ | refine et_str ?_ ?_ | refine et_lst rfl rfl ?_ ?_ | refine et_listA rfl (by rfl) (by decide) rfl rfl ?_ ?_ ?_ | refine et_nil ?_ ?_ | refine et_agg0 ?_ ?_ | refine et_agg ?_ ?_ | refine el_int rfl ?_ ?_ | refine el_bool ?_ ?_ | refine el_str ?_ ?_ | refine el_lst rfl rfl ?_ ?_ | refine el_listA rfl (by rfl) (by decide) rfl rfl ?_ ?_ ?_ | refine el_nil ?_ ?_)) <;> first | rfl | (simp; done) | omega)
end Go.Vs
set_option linter.unusedVariables false
set_option linter.unusedSimpArgs false
set_option maxRecDepth 100000
set_option maxHeartbeats 4000000
namespace Go.Vs
open Go.Proofs
attribute [local irreducible] exec vwp thenQ blkQ loopQ RetPost
theorem lcL_tick (b : Blz) (cs : List Int) : ∀ c ∈ lcL b cs, 0 ≤ c.tick ∧ c.tick ≤ 9999 := by
  intro c hc
  unfold lcL at hc
  split at hc
  · rename_i h
    have := h.2.2.2.one c hc
    exact ⟨this.2.2.1, this.2.2.2⟩
  · cases hc
theorem cut_set (cs : List Cut) (i : Nat) (x y : Int) : (cs.map Cut.pv).set i [.int .i64 x, .int .i64 y] = (cs.set i ⟨x, y⟩).map Cut.pv := by rw [List.map_set]
theorem k_cutsForD (c : Cu) (t : Terrain) (ps : List Phase) (xs ys : List Int) (st : Int) (hc : c.Ok) (hp : c.pos + 1000 ≤ 1152921504606846976) (ht : TrSz t) (hpl : ps.length ≤ 7) (hxl : xs.length ≤ 5) (hyl : ys.length ≤ 5) :
    ∃ (cs : List Cut) (c' : Cu), Dr 69 [.agg t.pv, .list 2 (ps.map Phase.pv), .list 1 (ints xs), .int .i64 st, .list 1 (ints ys)] c (.olist 38 2 (cs.map Cut.pv)) c' ∧ Aft c c' 300 ∧ cs.length ≤ 6 := by
  have ht3 := ht.2.2
  have hl1 : (ints t.burn).length = t.burn.length := by simp
  obtain ⟨zs, c1, k1, a1, hzl⟩ := k_cellsOf c t hc aO ht
  have o1 := a1.ok hc aO
  have p1 := a1.pos
  obtain ⟨best, b, hbl, kB⟩ := k_BestLine t xs ys aO aO aO
  obtain ⟨cz, c2, hcz, a2, hsel⟩ : ∃ (cz : List Int) (c2 : Cu), cz.length ≤ 5 ∧ Aft c1 c2 2 ∧ ((b = false ∧ cz = zs ∧ c2 = c1) ∨ (b = true ∧ ∃ y, Dr 20 [.int .i64 4] c1 (.bool y) c2 ∧ ((y = true ∧ cz = zs) ∨ (y = false ∧ cz = best)))) := by
    cases b with
    | false => exact ⟨zs, c1, hzl, (Aft.refl c1).le aO, .inl ⟨rfl, rfl, rfl⟩⟩
    | true =>
      obtain ⟨y, c2, k2, a2⟩ := k_one c1 4 o1 aO aO
      cases y with
      | true => exact ⟨zs, c2, hzl, a2, .inr ⟨rfl, true, k2, .inl ⟨rfl, rfl⟩⟩⟩
      | false => exact ⟨best, c2, by omega, a2, .inr ⟨rfl, false, k2, .inr ⟨rfl, rfl⟩⟩⟩
  have o2 := a2.ok o1 aO
  have p2 := a2.pos
  have kL := k_sLatest ⟨t, ps, xs, st⟩ cz ⟨by simp only; omega, by simp only; omega, by simp only; omega⟩ aO
  have hll := lcL_len ⟨t, ps, xs, st⟩ cz
  have hlt := lcL_tick ⟨t, ps, xs, st⟩ cz
  have hno : decide (LtOk ⟨t, ps, xs, st⟩ cz) = false → lcL ⟨t, ps, xs, st⟩ cz = [] := fun h => by unfold lcL; rw [if_neg (of_decide_eq_false h)]
  unfold lcRes at kL
  generalize lcL ⟨t, ps, xs, st⟩ cz = lc at *
  generalize decide (LtOk ⟨t, ps, xs, st⟩ cz) = ok at *
  obtain ⟨N1, hN1⟩ : ∃ N1, N1 = if ok = true then 0 else cz.length := ⟨_, rfl⟩
  have hN1l : N1 ≤ 5 := by rw [hN1]; split <;> omega
  have tick0 : ∀ c ∈ lc, -1 ≤ c.tick ∧ c.tick ≤ 10000 := fun c hc => by have := hlt c hc; omega
  obtain ⟨f, f0, fs⟩ := seq_ex (S := Cu × List Cut) (Q := fun i s => i ≤ 5 → Aft c2 s.1 (2 * i) ∧ s.2.length ≤ lc.length + i ∧ ∀ c ∈ s.2, -1 ≤ c.tick ∧ c.tick ≤ 10000)
    (R := fun i s s' => i < 5 → ∀ a, cz[i]? = some a → if (GoodT t ∧ IsCell t a) ∧ 0 < burnAt t a then ∃ r, Dr 43 [.int .i64 40] s.1 (.int .i64 r) s'.1 ∧ s'.2 = s.2 ++ [⟨a, r⟩] else s' = s)
    (c2, lc) (fun _ => ⟨(Aft.refl c2).le aO, by simp, tick0⟩) (fun i s hq => by
      by_cases hi : i < 5
      · obtain ⟨ad, hl, htk⟩ := hq aO
        have od := ad.ok o2 aO
        have pd := ad.pos
        by_cases hgo : ∃ a, cz[i]? = some a ∧ (GoodT t ∧ IsCell t a) ∧ 0 < burnAt t a
        · obtain ⟨a, ha, hgd⟩ := hgo
          obtain ⟨r, c3, k3, a3, g1, g2, _⟩ := k_pick s.1 40 od aO aO
          have g2 := g2 aO
          refine ⟨(c3, s.2 ++ [⟨a, r⟩]), fun _ a' ha' => ?_, fun _ => ⟨(ad.trans a3).le (by first | omega | (simp only; omega)), by simp; omega, fun c hc => ?_⟩⟩
          · rw [ha] at ha'
            injection ha' with ha'
            subst ha'
            rw [if_pos hgd]
            exact ⟨r, k3, rfl⟩
          · rcases List.mem_append.1 hc with h | h
            · exact htk c h
            · simp at h; rw [h]; simp only; omega
        · refine ⟨s, fun _ a' ha' => ?_, fun _ => ⟨ad.le aO, by omega, htk⟩⟩
          rw [if_neg fun h => hgo ⟨a', ha', h⟩]
      · exact ⟨s, fun h => absurd h hi, fun h => by omega⟩)
  obtain ⟨adn, hNl, hNt⟩ := (fs N1).1 hN1l
  have oN := adn.ok o2 aO
  have pN := adn.pos
  have hN10 : (f N1).2.length ≤ 5 := by
    cases ok with
    | true => rw [hN1] at hNl ⊢; simp at hNl ⊢; omega
    | false =>
      have := hno rfl
      rw [this] at hNl
      simp at hNl
      omega
  obtain ⟨L, hL⟩ : ∃ L, L = (f N1).2.length := ⟨_, rfl⟩
  obtain ⟨g, g0, gs⟩ := seq_ex (S := Cu × List Cut) (Q := fun i s => i ≤ 5 → Aft (f N1).1 s.1 (4 * i) ∧ s.2.length = L ∧ ∀ c ∈ s.2, -1 ≤ c.tick ∧ c.tick ≤ 10000)
    (R := fun i s s' => i < L → ∀ a, s.2[i]? = some a → ∃ y e1, Dr 20 [.int .i64 2] s.1 (.bool y) e1 ∧ ((y = false ∧ s' = (e1, s.2)) ∨ (y = true ∧ ∃ r, (0 ≤ r ∧ r < 8) ∧ Dr 43 [.int .i64 8] e1 (.int .i64 r) s'.1 ∧ s'.2 = s.2.set i ⟨a.cell, max 0 (min a.tick 200 - r)⟩)))
    (f N1) (fun _ => ⟨(Aft.refl _).le aO, hL.symm, hNt⟩) (fun i s hq => by
      by_cases hi : i < L
      · obtain ⟨ad, hl, htk⟩ := hq aO
        have od := ad.ok oN aO
        have pd := ad.pos
        obtain ⟨a, ha⟩ := get_ex (show i < s.2.length by omega)
        have hta := htk a (get_mem ha)
        obtain ⟨y, e1, k3, a3⟩ := k_one s.1 2 od aO aO
        have o3 := a3.ok od aO
        have p3 := a3.pos
        cases y with
        | false => exact ⟨(e1, s.2), fun _ a' ha' => ⟨false, e1, k3, .inl ⟨rfl, rfl⟩⟩, fun _ => ⟨(ad.trans a3).le (by first | omega | (simp only; omega)), hl, htk⟩⟩
        | true =>
          obtain ⟨r, e2, k4, a4, r0, r1, _⟩ := k_pick e1 8 o3 aO aO
          have r1 := r1 aO
          refine ⟨(e2, s.2.set i ⟨a.cell, max 0 (min a.tick 200 - r)⟩), fun _ a' ha' => ?_, fun _ => ⟨((ad.trans a3).trans a4).le (by first | omega | (simp only; omega)), by simp [hl], fun c hc => ?_⟩⟩
          · rw [ha] at ha'
            injection ha' with ha'
            subst ha'
            exact ⟨true, e1, k3, .inr ⟨rfl, r, ⟨r0, r1⟩, k4, rfl⟩⟩
          · rcases List.mem_or_eq_of_mem_set hc with h | h
            · exact htk c h
            · rw [h]; simp only; omega
      · exact ⟨s, fun h => absurd h hi, fun h => by
          obtain ⟨ad, hl, htk⟩ := hq aO
          exact ⟨ad.le aO, hl, htk⟩⟩)
  obtain ⟨adg, hGl, hGt⟩ := (gs L).1 aO
  have oG := adg.ok oN aO
  have pG := adg.pos
  obtain ⟨r, e1, kr, ar, _⟩ := k_pick (g L).1 24 oG aO aO
  have or := ar.ok oG aO
  have pr := ar.pos
  have key : ∃ (cs : List Cut) (c' : Cu), Aft e1 c' 8 ∧ cs.length ≤ 6 ∧ ((r = 0 ∧ ∃ x e2 y, Dr 86 [.agg t.pv] e1 (.int .i64 x) e2 ∧ Dr 87 [] e2 (.int .i64 y) c' ∧ cs = (g L).2 ++ [⟨x, y⟩]) ∨
      (r ≠ 0 ∧ r = 1 ∧ ∃ a, (g L).2[0]? = some a ∧ ∃ z, Dr 35 [.list 1 (ints [-1, 9999, 10000, a.tick + 1])] e1 (.int .i64 z) c' ∧ cs = (g L).2.set 0 ⟨a.cell, z⟩) ∨ (r ≠ 0 ∧ (r = 1 → L = 0) ∧ cs = (g L).2 ∧ c' = e1)) := by
    by_cases r0 : r = 0
    · obtain ⟨x, e2, kx, ax, _⟩ := k_cellOf e1 t or aO ht
      have ox := ax.ok or aO
      have px := ax.pos
      obtain ⟨y, e3, ky, ay, _⟩ := k_tick e2 ox aO
      exact ⟨_, e3, (ax.trans ay).le aO, by simp; omega, .inl ⟨r0, x, e2, y, kx, ky, rfl⟩⟩
    · by_cases r1 : r = 1 ∧ 0 < L
      · obtain ⟨a, ha⟩ := get_ex (show 0 < (g L).2.length by omega)
        obtain ⟨z, e2, kz, az, _⟩ := k_among e1 [-1, 9999, 10000, a.tick + 1] or aO (by simp)
        exact ⟨_, e2, az.le aO, by simp; omega, .inr (.inl ⟨r0, r1.1, a, ha, z, kz, rfl⟩)⟩
      · exact ⟨_, e1, (Aft.refl e1).le aO, by omega, .inr (.inr ⟨r0, fun h => by omega, rfl, rfl⟩)⟩
  obtain ⟨cs, c', adk, hcs, key⟩ := key
  refine ⟨cs, c', ?_, ((((((a1.trans a2).trans adn).trans adg).trans ar).trans adk)).le aO, hcs⟩
  have kLe := fun (a b : Int) => k_l1Least a b
  have kMo := fun (a b : Int) => k_l1Most a b
  refine contract_of hmix Try.func69 rfl (by kernel_rfl) (by kernel_rfl) (Nat.le_of_ble_eq_true rfl) (fun row h => by (simp only [List.mem_cons, List.not_mem_nil, or_false] at h; first | (subst h; (first | exact .inl rfl | exact .inr (fun e he u hu => by (simp only [List.mem_cons, List.not_mem_nil, or_false] at he; subst he; simp only [List.mem_cons, List.not_mem_nil, or_false] at hu; subst hu; rfl)))) | (rcases h with rfl | rfl <;> (first | exact .inl rfl | exact .inr (fun e he u hu => by (simp only [List.mem_cons, List.not_mem_nil, or_false] at he; subst he; simp only [List.mem_cons, List.not_mem_nil, or_false] at hu; subst hu; rfl)))) | (rcases h with rfl | rfl | rfl <;> (first | exact .inl rfl | exact .inr (fun e he u hu => by (simp only [List.mem_cons, List.not_mem_nil, or_false] at he; subst he; simp only [List.mem_cons, List.not_mem_nil, or_false] at hu; subst hu; rfl)))) | (rcases h with rfl | rfl | rfl | rfl <;> (first | exact .inl rfl | exact .inr (fun e he u hu => by (simp only [List.mem_cons, List.not_mem_nil, or_false] at he; subst he; simp only [List.mem_cons, List.not_mem_nil, or_false] at hu; subst hu; rfl)))))) ?_
  have hty_a26 := ty_a26
  have hty_u24 := ty_u24
  have hty_s24 := ty_s24
  have hty_u27 := ty_u27
  have hty_s27 := ty_s27
  have hty_s30 := ty_s30
  have hty_u30 := ty_u30
  have hty_c3 := ty_c3
  have hty_f26_2 := ty_f26_2
  have hty_c24 := ty_c24
  have hty_st38 := ty_st38
  have hty_f38_0 := ty_f38_0
  have hty_f38_1 := ty_f38_1
  have hty_t38 := ty_t38
  have hty_a38 := ty_a38
  repeat' (first | (refine pB (k := ?_)) | (refine v_seqN 3000002 rfl ?_) | (refine g_exec ?_; first | (refine g_call ?_; refine x_callL [(io, 0)] (k1) rfl rfl aF rfl rfl aS rfl aH rfl ?_; simp only [cl]) | (refine g_guard ?_; refine x_gsplit rfl rfl (fun h => ?_) (fun h => ?_) <;> (have h' := h; try simp only [sx] at h')) | (refine x_nil (hK _ _ aI ?_); clear hK K)) | (refine v_region (fun K hK => ?_)) | (refine v_condt rfl (fun h => ?_) (fun h => ?_) <;> (have h' := h; try simp only [sx] at h')))
  refine v_cutK [0, 2, 3, 4, 7] [(io, 0)] (fun u_ : Unit => [(13, .list 1 (ints cz))]) (fun u_ : Unit => [((io, 0), some (cuRow c2))]) (fun u_ : Unit => True) rfl rfl (fun _ => rfl) (fun _ => rfl) ?_ (fun u_ hu_ => ?_)
  · rcases hsel with ⟨rfl, rfl, rfl⟩ | ⟨rfl, y, k2, ⟨rfl, rfl⟩ | ⟨rfl, rfl⟩⟩
    · repeat' (first | (refine pA (k := ?_)) | (refine g_exec ?_; first | (refine g_call ?_; refine x_callA true (kB) rfl rfl rfl rfl rfl aS rfl aH ?_; simp only [cl]) | (refine g_guard ?_; refine x_gsplit rfl rfl (fun h => ?_) (fun h => ?_) <;> (have h' := h; try simp only [sx] at h')) | (refine x_nil (hK _ _ aI ?_); clear hK K)) | (refine v_region (fun K hK => ?_)) | (refine v_condt rfl (fun h => ?_) (fun h => ?_) <;> (have h' := h; try simp only [sx] at h')))
      all_goals (refine q_next () rfl (by refine ⟨?_, ?_, rfl, rfl⟩ <;> (repeat' (first | exact trivial | exact ⟨rfl, rfl⟩ | exact rfl | exact ⟨sub_fn, refs_fn⟩ | refine ⟨⟨rfl, rfl⟩, ?_⟩ | refine ⟨⟨sub_fn, refs_fn⟩, ?_⟩ | refine ⟨⟨rfl, fun h => Bool.noConfusion h⟩, ?_⟩ | refine ⟨⟨rfl, fun h => ?_⟩, ?_⟩ | refine ⟨rfl, ?_⟩ | refine ⟨?_, ?_⟩ | fail))) trivial (by decide))
    · repeat' (first | (refine pA (k := ?_)) | (refine g_exec ?_; first | (refine g_call ?_; first | (refine x_callA true (kB) rfl rfl rfl rfl rfl aS rfl aH ?_; simp only [cl]) | (refine x_callL [(io, 0)] (k2) rfl rfl aF rfl rfl aS rfl aH rfl ?_; simp only [cl])) | (refine g_guard ?_; refine x_gsplit rfl rfl (fun h => ?_) (fun h => ?_) <;> (have h' := h; try simp only [sx] at h')) | (refine x_nil (hK _ _ aI ?_); clear hK K)) | (refine v_region (fun K hK => ?_)) | (refine v_condt rfl (fun h => ?_) (fun h => ?_) <;> (have h' := h; try simp only [sx] at h')))
      all_goals (refine q_next () rfl (by refine ⟨?_, ?_, rfl, rfl⟩ <;> (repeat' (first | exact trivial | exact ⟨rfl, rfl⟩ | exact rfl | exact ⟨sub_fn, refs_fn⟩ | refine ⟨⟨rfl, rfl⟩, ?_⟩ | refine ⟨⟨sub_fn, refs_fn⟩, ?_⟩ | refine ⟨⟨rfl, fun h => Bool.noConfusion h⟩, ?_⟩ | refine ⟨⟨rfl, fun h => ?_⟩, ?_⟩ | refine ⟨rfl, ?_⟩ | refine ⟨?_, ?_⟩ | fail))) trivial (by decide))
    · repeat' (first | (refine pA (k := ?_)) | (refine g_exec ?_; first | (refine g_call ?_; first | (refine x_callA true (kB) rfl rfl rfl rfl rfl aS rfl aH ?_; simp only [cl]) | (refine x_callL [(io, 0)] (k2) rfl rfl aF rfl rfl aS rfl aH rfl ?_; simp only [cl])) | (refine g_guard ?_; refine x_gsplit rfl rfl (fun h => ?_) (fun h => ?_) <;> (have h' := h; try simp only [sx] at h')) | (refine x_nil (hK _ _ aI ?_); clear hK K)) | (refine v_region (fun K hK => ?_)) | (refine v_condt rfl (fun h => ?_) (fun h => ?_) <;> (have h' := h; try simp only [sx] at h')))
      all_goals (refine q_next () rfl (by refine ⟨?_, ?_, rfl, rfl⟩ <;> (repeat' (first | exact trivial | exact ⟨rfl, rfl⟩ | exact rfl | exact ⟨sub_fn, refs_fn⟩ | refine ⟨⟨rfl, rfl⟩, ?_⟩ | refine ⟨⟨sub_fn, refs_fn⟩, ?_⟩ | refine ⟨⟨rfl, fun h => Bool.noConfusion h⟩, ?_⟩ | refine ⟨⟨rfl, fun h => ?_⟩, ?_⟩ | refine ⟨rfl, ?_⟩ | refine ⟨?_, ?_⟩ | fail))) trivial (by decide))
  have hcz2 : (ints cz).length = cz.length := by simp
  have hlm : (lc.map Cut.pv).length = lc.length := by simp
  repeat' (first | (refine pB (k := ?_)) | (refine v_seqN 3000007 rfl ?_) | (refine g_exec ?_; first | (refine g_call ?_; refine x_callG true (kL) rfl rfl rfl aS rfl aH ?_; simp only [cl]) | (refine g_guard ?_; refine x_gsplit rfl rfl (fun h => ?_) (fun h => ?_) <;> (have h' := h; try simp only [sx] at h')) | (refine x_nil (hK _ _ aI ?_); clear hK K)) | (refine v_region (fun K hK => ?_)) | (refine v_condt rfl (fun h => ?_) (fun h => ?_) <;> (have h' := h; try simp only [sx] at h')))
  refine v_cutK [0, 7] [(io, 0), (1001, 0)] (fun q : Cu × List (List PV) × Nat => [(16, .osl (1001, 0) 0 q.2.2)]) (fun q : Cu × List (List PV) × Nat => [((io, 0), some (cuRow q.1)), ((1001, 0), some ⟨38, 2, q.2.1, false⟩)]) (fun q : Cu × List (List PV) × Nat => q.1 = (f N1).1 ∧ q.2.1 = (f N1).2.map Cut.pv ∧ q.2.1.length = q.2.2) rfl rfl (fun _ => rfl) (fun _ => rfl) ?_ (fun q hq => ?_)
  · repeat' (first | (refine pA (k := ?_)) | (refine g_exec ?_; first | (refine g_guard ?_; refine x_gsplit rfl rfl (fun h => ?_) (fun h => ?_) <;> (have h' := h; try simp only [sx] at h')) | (refine x_nil (hK _ _ aI ?_); clear hK K)) | (refine v_region (fun K hK => ?_)) | (refine v_condt rfl (fun h => ?_) (fun h => ?_) <;> (have h' := h; try simp only [sx] at h')))
    refine v_loopK [0, 7, 13, 17] [(io, 0), (1001, 0)] (fun q : Nat × Cu × List (List PV) × Nat => [(16, .osl (1001, 0) 0 q.2.2.2), (18, .int .i64 q.1)]) (fun q : Nat × Cu × List (List PV) × Nat => [((io, 0), some (cuRow q.2.1)), ((1001, 0), some ⟨38, 2, q.2.2.1, false⟩)]) (fun q : Nat × Cu × List (List PV) × Nat => q.1 ≤ N1 ∧ q.2.1 = (f q.1).1 ∧ q.2.2.1 = (f q.1).2.map Cut.pv ∧ q.2.2.1.length = q.2.2.2) (fun q : Nat × Cu × List (List PV) × Nat => N1 - q.1) ((0, c2, lc.map Cut.pv, (lc.map Cut.pv).length)) rfl rfl (fun _ => rfl) (fun _ => rfl) rfl (by refine ⟨?_, ?_, rfl, rfl⟩ <;> (repeat' (first | exact trivial | exact ⟨rfl, rfl⟩ | exact rfl | exact ⟨sub_fn, refs_fn⟩ | refine ⟨⟨rfl, rfl⟩, ?_⟩ | refine ⟨⟨sub_fn, refs_fn⟩, ?_⟩ | refine ⟨⟨rfl, fun h => Bool.noConfusion h⟩, ?_⟩ | refine ⟨⟨rfl, fun h => ?_⟩, ?_⟩ | refine ⟨rfl, ?_⟩ | refine ⟨?_, ?_⟩ | fail))) ⟨by simp, by rw [f0], by rw [f0], rfl⟩ (fun q hq => ?_)
    obtain ⟨k, d, es, m⟩ := q
    obtain ⟨hk, hd, hes, hem⟩ := hq
    simp only at hk hd hes hem
    dsimp only
    obtain ⟨ad, hfl, _⟩ := (fs k).1 aO
    have hel : es.length = (f k).2.length := by rw [hes, List.length_map]
    have hme := hem.symm
    by_cases hlt : k < N1
    · have hok : ok = false := by
        cases ok with
        | true => simp at hN1; omega
        | false => rfl
      subst hok
      simp at hN1
      obtain ⟨a, ha⟩ := get_ex (show k < cz.length by omega)
      have hxa := ints_at ha
      have hst := (fs k).2 aO a ha
      have kC := k_l2Cell t a aO
      by_cases hgd : (GoodT t ∧ IsCell t a) ∧ 0 < burnAt t a
      · rw [if_pos hgd] at hst
        obtain ⟨r', kp, e2⟩ := hst
        rw [← hd] at kp
        rw [decide_eq_true hgd.1] at kC
        have hb := ints_at (burn_at hgd.1.2)
        have hcc := hgd.1.2
        have hbp := hgd.2
        unfold IsCell at hcc
        repeat' (first | (refine pA (k := ?_)) | (refine g_exec ?_; first | (refine g_call ?_; first | (refine x_callG true (kC) rfl rfl rfl aS rfl aH ?_; simp only [cl]) | (refine x_callL [(io, 0)] (kp) rfl rfl aF rfl rfl aS rfl aH rfl ?_; simp only [cl])) | (refine g_guard ?_; refine x_gsplit rfl rfl (fun h => ?_) (fun h => ?_) <;> (have h' := h; try simp only [sx] at h')) | (refine x_nil (hK _ _ aI ?_); clear hK K)) | (refine v_region (fun K hK => ?_)) | (refine v_condt rfl (fun h => ?_) (fun h => ?_) <;> (have h' := h; try simp only [sx] at h')))
        all_goals first
          | (exfalso; omega)
          | (refine q_next (k + 1, (f (k + 1)).1, es ++ [[.int .i64 a, .int .i64 r']], m + 1) rfl (by refine ⟨?_, ?_, rfl, rfl⟩ <;> (repeat' (first | exact trivial | exact ⟨rfl, rfl⟩ | exact rfl | exact ⟨sub_fn, refs_fn⟩ | refine ⟨⟨rfl, rfl⟩, ?_⟩ | refine ⟨⟨sub_fn, refs_fn⟩, ?_⟩ | refine ⟨⟨rfl, fun h => Bool.noConfusion h⟩, ?_⟩ | refine ⟨⟨rfl, fun h => ?_⟩, ?_⟩ | refine ⟨rfl, ?_⟩ | refine ⟨?_, ?_⟩ | fail))) ⟨by simp only; omega, rfl, by simp only; rw [e2, hes]; simp, by simp [hem]⟩ (by simp only; omega))
      · rw [if_neg hgd] at hst
        by_cases hgc : GoodT t ∧ IsCell t a
        · have hb := ints_at (burn_at hgc.2)
          have hcc := hgc.2
          have hbn : ¬ 0 < burnAt t a := fun h => hgd ⟨hgc, h⟩
          unfold IsCell at hcc
          rw [decide_eq_true hgc] at kC
          repeat' (first | (refine pA (k := ?_)) | (refine g_exec ?_; first | (refine g_call ?_; refine x_callG true (kC) rfl rfl rfl aS rfl aH ?_; simp only [cl]) | (refine g_guard ?_; refine x_gsplit rfl rfl (fun h => ?_) (fun h => ?_) <;> (have h' := h; try simp only [sx] at h')) | (refine x_nil (hK _ _ aI ?_); clear hK K)) | (refine v_region (fun K hK => ?_)) | (refine v_condt rfl (fun h => ?_) (fun h => ?_) <;> (have h' := h; try simp only [sx] at h')))
          all_goals first
            | (exfalso; omega)
            | (refine q_next (k + 1, d, es, m) rfl (by refine ⟨?_, ?_, rfl, rfl⟩ <;> (repeat' (first | exact trivial | exact ⟨rfl, rfl⟩ | exact rfl | exact ⟨sub_fn, refs_fn⟩ | refine ⟨⟨rfl, rfl⟩, ?_⟩ | refine ⟨⟨sub_fn, refs_fn⟩, ?_⟩ | refine ⟨⟨rfl, fun h => Bool.noConfusion h⟩, ?_⟩ | refine ⟨⟨rfl, fun h => ?_⟩, ?_⟩ | refine ⟨rfl, ?_⟩ | refine ⟨?_, ?_⟩ | fail))) ⟨by simp only; omega, by simp only; rw [hst, hd], by simp only; rw [hst, hes], hem⟩ (by simp only; omega))
        · rw [decide_eq_false hgc] at kC
          repeat' (first | (refine pA (k := ?_)) | (refine g_exec ?_; first | (refine g_call ?_; refine x_callG true (kC) rfl rfl rfl aS rfl aH ?_; simp only [cl]) | (refine g_guard ?_; refine x_gsplit rfl rfl (fun h => ?_) (fun h => ?_) <;> (have h' := h; try simp only [sx] at h')) | (refine x_nil (hK _ _ aI ?_); clear hK K)) | (refine v_region (fun K hK => ?_)) | (refine v_condt rfl (fun h => ?_) (fun h => ?_) <;> (have h' := h; try simp only [sx] at h')))
          all_goals first
            | (exfalso; omega)
            | (refine q_next (k + 1, d, es, m) rfl (by refine ⟨?_, ?_, rfl, rfl⟩ <;> (repeat' (first | exact trivial | exact ⟨rfl, rfl⟩ | exact rfl | exact ⟨sub_fn, refs_fn⟩ | refine ⟨⟨rfl, rfl⟩, ?_⟩ | refine ⟨⟨sub_fn, refs_fn⟩, ?_⟩ | refine ⟨⟨rfl, fun h => Bool.noConfusion h⟩, ?_⟩ | refine ⟨⟨rfl, fun h => ?_⟩, ?_⟩ | refine ⟨rfl, ?_⟩ | refine ⟨?_, ?_⟩ | fail))) ⟨by simp only; omega, by simp only; rw [hst, hd], by simp only; rw [hst, hes], hem⟩ (by simp only; omega))
    · have hkN : k = N1 := by omega
      subst hkN
      cases ok with
      | true =>
        repeat' (first | (refine pA (k := ?_)) | (refine g_exec ?_; first | (refine g_guard ?_; refine x_gsplit rfl rfl (fun h => ?_) (fun h => ?_) <;> (have h' := h; try simp only [sx] at h')) | (refine x_nil (hK _ _ aI ?_); clear hK K)) | (refine v_region (fun K hK => ?_)) | (refine v_condt rfl (fun h => ?_) (fun h => ?_) <;> (have h' := h; try simp only [sx] at h')))
        all_goals first
          | (exfalso; omega)
          | (refine q_next (d, es, m) rfl (by refine ⟨?_, ?_, rfl, rfl⟩ <;> (repeat' (first | exact trivial | exact ⟨rfl, rfl⟩ | exact rfl | exact ⟨sub_fn, refs_fn⟩ | refine ⟨⟨rfl, rfl⟩, ?_⟩ | refine ⟨⟨sub_fn, refs_fn⟩, ?_⟩ | refine ⟨⟨rfl, fun h => Bool.noConfusion h⟩, ?_⟩ | refine ⟨⟨rfl, fun h => ?_⟩, ?_⟩ | refine ⟨rfl, ?_⟩ | refine ⟨?_, ?_⟩ | fail))) ⟨hd, hes, hem⟩ (by decide))
      | false =>
        simp at hN1
        repeat' (first | (refine pA (k := ?_)) | (refine g_exec ?_; first | (refine g_guard ?_; refine x_gsplit rfl rfl (fun h => ?_) (fun h => ?_) <;> (have h' := h; try simp only [sx] at h')) | (refine x_nil (hK _ _ aI ?_); clear hK K)) | (refine v_region (fun K hK => ?_)) | (refine v_condt rfl (fun h => ?_) (fun h => ?_) <;> (have h' := h; try simp only [sx] at h')))
        all_goals first
          | (exfalso; omega)
          | (refine q_next (d, es, m) rfl (by refine ⟨?_, ?_, rfl, rfl⟩ <;> (repeat' (first | exact trivial | exact ⟨rfl, rfl⟩ | exact rfl | exact ⟨sub_fn, refs_fn⟩ | refine ⟨⟨rfl, rfl⟩, ?_⟩ | refine ⟨⟨sub_fn, refs_fn⟩, ?_⟩ | refine ⟨⟨rfl, fun h => Bool.noConfusion h⟩, ?_⟩ | refine ⟨⟨rfl, fun h => ?_⟩, ?_⟩ | refine ⟨rfl, ?_⟩ | refine ⟨?_, ?_⟩ | fail))) ⟨hd, hes, hem⟩ (by decide))
  obtain ⟨d0, es0, m0⟩ := q
  obtain ⟨hd0, hes0, hem0⟩ := hq
  simp only at hd0 hes0 hem0
  subst hd0
  dsimp only
  have hm0L : m0 = L := by rw [← hem0, hes0, List.length_map, hL]
  subst hm0L
  repeat' (first | (refine pA (k := ?_)) | (refine g_exec ?_; first | (refine g_guard ?_; refine x_gsplit rfl rfl (fun h => ?_) (fun h => ?_) <;> (have h' := h; try simp only [sx] at h')) | (refine x_nil (hK _ _ aI ?_); clear hK K)) | (refine v_region (fun K hK => ?_)) | (refine v_condt rfl (fun h => ?_) (fun h => ?_) <;> (have h' := h; try simp only [sx] at h')))
  refine v_loopK [0, 7, 16] [(io, 0), (1001, 0)] (fun q : Nat × Cu × List (List PV) => [(19, .int .i64 q.1)]) (fun q : Nat × Cu × List (List PV) => [((io, 0), some (cuRow q.2.1)), ((1001, 0), some ⟨38, 2, q.2.2, false⟩)]) (fun q : Nat × Cu × List (List PV) => q.1 ≤ m0 ∧ q.2.1 = (g q.1).1 ∧ q.2.2 = (g q.1).2.map Cut.pv) (fun q : Nat × Cu × List (List PV) => m0 - q.1) ((0, (f N1).1, es0)) rfl rfl (fun _ => rfl) (fun _ => rfl) rfl (by refine ⟨?_, ?_, rfl, rfl⟩ <;> (repeat' (first | exact trivial | exact ⟨rfl, rfl⟩ | exact rfl | exact ⟨sub_fn, refs_fn⟩ | refine ⟨⟨rfl, rfl⟩, ?_⟩ | refine ⟨⟨sub_fn, refs_fn⟩, ?_⟩ | refine ⟨⟨rfl, fun h => Bool.noConfusion h⟩, ?_⟩ | refine ⟨⟨rfl, fun h => ?_⟩, ?_⟩ | refine ⟨rfl, ?_⟩ | refine ⟨?_, ?_⟩ | fail))) ⟨by simp, by rw [g0], by rw [g0, hes0]⟩ (fun q hq => ?_)
  obtain ⟨k, d, es⟩ := q
  obtain ⟨hk, hd, hes⟩ := hq
  simp only at hk hd hes
  dsimp only
  obtain ⟨ad, hgl, htk⟩ := (gs k).1 aO
  have hel : es.length = m0 := by rw [hes, List.length_map, hgl]
  have hme := hel.symm
  by_cases hlt : k < m0
  · obtain ⟨a, ha⟩ := get_ex (show k < (g k).2.length by omega)
    have hta := htk a (get_mem ha)
    have hxa : es[k]? = some [.int .i64 a.cell, .int .i64 a.tick] := by rw [hes]; exact Cut.at ha
    obtain ⟨y, e1', ky, hy⟩ := (gs k).2 hlt a ha
    rw [← hd] at ky
    rcases hy with ⟨rfl, hg⟩ | ⟨rfl, r', hr', kr', hg⟩
    · repeat' (first | (refine pA (k := ?_)) | (refine g_exec ?_; first | (refine g_call ?_; refine x_callL [(io, 0)] (ky) rfl rfl aF rfl rfl aS rfl aH rfl ?_; simp only [cl]) | (refine g_guard ?_; refine x_gsplit rfl rfl (fun h => ?_) (fun h => ?_) <;> (have h' := h; try simp only [sx] at h')) | (refine x_nil (hK _ _ aI ?_); clear hK K)) | (refine v_region (fun K hK => ?_)) | (refine v_condt rfl (fun h => ?_) (fun h => ?_) <;> (have h' := h; try simp only [sx] at h')))
      all_goals first
        | (exfalso; omega)
        | (refine q_next (k + 1, e1', es) rfl (by refine ⟨?_, ?_, rfl, rfl⟩ <;> (repeat' (first | exact trivial | exact ⟨rfl, rfl⟩ | exact rfl | exact ⟨sub_fn, refs_fn⟩ | refine ⟨⟨rfl, rfl⟩, ?_⟩ | refine ⟨⟨sub_fn, refs_fn⟩, ?_⟩ | refine ⟨⟨rfl, fun h => Bool.noConfusion h⟩, ?_⟩ | refine ⟨⟨rfl, fun h => ?_⟩, ?_⟩ | refine ⟨rfl, ?_⟩ | refine ⟨?_, ?_⟩ | fail))) ⟨by simp only; omega, by simp only; rw [hg], by simp only; rw [hg, hes]⟩ (by simp only; omega))
    · have kL1 := kLe a.tick 200
      have kM1 := kMo 0 (min a.tick 200 - r')
      repeat' (first | (refine pA (k := ?_)) | (refine g_exec ?_; first | (refine g_call ?_; first | (refine x_callL [(io, 0)] (ky) rfl rfl aF rfl rfl aS rfl aH rfl ?_; simp only [cl]) | (refine x_callL [(io, 0)] (kr') rfl rfl aF rfl rfl aS rfl aH rfl ?_; simp only [cl]) | (refine x_callG true (kL1) rfl rfl rfl aS rfl aH ?_; simp only [cl]) | (refine x_callG true (kM1) rfl rfl rfl aS rfl aH ?_; simp only [cl])) | (refine g_guard ?_; refine x_gsplit rfl rfl (fun h => ?_) (fun h => ?_) <;> (have h' := h; try simp only [sx] at h')) | (refine x_nil (hK _ _ aI ?_); clear hK K)) | (refine v_region (fun K hK => ?_)) | (refine v_condt rfl (fun h => ?_) (fun h => ?_) <;> (have h' := h; try simp only [sx] at h')))
      all_goals first
        | (exfalso; omega)
        | (refine q_next (k + 1, (g (k + 1)).1, es.set k [.int .i64 a.cell, .int .i64 (max 0 (min a.tick 200 - r'))]) rfl (by refine ⟨?_, ?_, rfl, rfl⟩ <;> (repeat' (first | exact trivial | exact ⟨rfl, rfl⟩ | exact rfl | exact ⟨sub_fn, refs_fn⟩ | refine ⟨⟨rfl, rfl⟩, ?_⟩ | refine ⟨⟨sub_fn, refs_fn⟩, ?_⟩ | refine ⟨⟨rfl, fun h => Bool.noConfusion h⟩, ?_⟩ | refine ⟨⟨rfl, fun h => ?_⟩, ?_⟩ | refine ⟨rfl, ?_⟩ | refine ⟨?_, ?_⟩ | fail))) ⟨by simp only; omega, rfl, by simp only; rw [hg, hes, cut_set]⟩ (by simp only; omega))
  · have hkL : k = m0 := by omega
    subst hkL
    rw [← hd] at kr
    rcases key with ⟨r0, x, e2, y, kx, ky, rfl⟩ | ⟨r0, r1, a, ha, z, kz, rfl⟩ | ⟨r0, r1, rfl, rfl⟩
    · repeat' (first | (refine pA (k := ?_)) | (refine g_exec ?_; first | (refine g_call ?_; first | (refine x_callL [(io, 0)] (kr) rfl rfl aF rfl rfl aS rfl aH rfl ?_; simp only [cl]) | (refine x_callL [(io, 0)] (kx) rfl rfl aF rfl rfl aS rfl aH rfl ?_; simp only [cl]) | (refine x_callL [(io, 0)] (ky) rfl rfl aF rfl rfl aS rfl aH rfl ?_; simp only [cl])) | (refine g_guard ?_; refine x_gsplit rfl rfl (fun h => ?_) (fun h => ?_) <;> (have h' := h; try simp only [sx] at h')) | (refine x_nil (hK _ _ aI ?_); clear hK K)) | (refine v_region (fun K hK => ?_)) | (refine v_condt rfl (fun h => ?_) (fun h => ?_) <;> (have h' := h; try simp only [sx] at h')))
      all_goals first
        | (exfalso; omega)
        | exact ret_lL rfl rfl rfl (by decide) ⟨⟨rfl, rfl, fun h => by cases h⟩, trivial⟩ rfl rfl (by simp [hel]) (by simp [hes])
    · have hxa : es[Int.toNat 0]? = some [.int .i64 a.cell, .int .i64 a.tick] := by rw [hes]; exact Cut.at ha
      have hta := htk a (get_mem ha)
      have hkp : 0 < k := by have := get_lt ha; omega
      have ez : es.set (Int.toNat 0) [.int .i64 a.cell, .int .i64 z] = ((g k).2.set 0 ⟨a.cell, z⟩).map Cut.pv := by rw [hes]; exact cut_set _ _ _ _
      repeat' (first | (refine pA (k := ?_)) | (refine g_exec ?_; first | (refine g_call ?_; first | (refine x_callL [(io, 0)] (kr) rfl rfl aF rfl rfl aS rfl aH rfl ?_; simp only [cl]) | (refine x_callL [(io, 0)] (kz) rfl rfl aF rfl rfl aS rfl aH rfl ?_; simp only [cl])) | (refine g_guard ?_; refine x_gsplit rfl rfl (fun h => ?_) (fun h => ?_) <;> (have h' := h; try simp only [sx] at h')) | (refine x_nil (hK _ _ aI ?_); clear hK K)) | (refine v_region (fun K hK => ?_)) | (refine v_condt rfl (fun h => ?_) (fun h => ?_) <;> (have h' := h; try simp only [sx] at h')))
      all_goals first
        | (exfalso; omega)
        | exact ret_lL rfl rfl rfl (by decide) ⟨⟨rfl, rfl, fun h => by cases h⟩, trivial⟩ rfl rfl (by simp [hel]) ez
    · repeat' (first | (refine pA (k := ?_)) | (refine g_exec ?_; first | (refine g_call ?_; refine x_callL [(io, 0)] (kr) rfl rfl aF rfl rfl aS rfl aH rfl ?_; simp only [cl]) | (refine g_guard ?_; refine x_gsplit rfl rfl (fun h => ?_) (fun h => ?_) <;> (have h' := h; try simp only [sx] at h')) | (refine x_nil (hK _ _ aI ?_); clear hK K)) | (refine v_region (fun K hK => ?_)) | (refine v_condt rfl (fun h => ?_) (fun h => ?_) <;> (have h' := h; try simp only [sx] at h')))
      all_goals first
        | (exfalso; omega)
        | exact ret_lL rfl rfl rfl (by decide) ⟨⟨rfl, rfl, fun h => by cases h⟩, trivial⟩ rfl rfl hme hes
theorem k_cutsFor (c : Cu) (t : Terrain) (ps : List Phase) (xs ys : List Int) (st : Int) (hc : c.Ok) (hp : c.pos + 1000 ≤ 1152921504606846976) (ht : TrSz t) (hpl : ps.length ≤ 7) (hxl : xs.length ≤ 5) (hyl : ys.length ≤ 5) :
    ∃ (cs : List Cut) (c' : Cu), Dr 69 [.agg t.pv, .list 2 (ps.map Phase.pv), .list 1 (ints xs), .int .i64 st, .list 1 (ints ys)] c (.list 2 (cs.map Cut.pv)) c' ∧ Aft c c' 300 ∧ cs.length ≤ 6 := by
  obtain ⟨cs, c', k, h⟩ := k_cutsForD c t ps xs ys st hc hp ht hpl hxl hyl
  exact ⟨cs, c', ConL.frz k rfl (by intro row h; simp at h; subst h; rfl), h⟩
end Go.Vs
set_option linter.unusedVariables false
set_option linter.unusedSimpArgs false
set_option maxRecDepth 100000
set_option maxHeartbeats 4000000
namespace Go.Vs
open Go.Proofs
attribute [local irreducible] exec vwp thenQ blkQ loopQ RetPost
theorem k_holding (c : Cu) (hc : c.Ok) (hp : c.pos + 3000 ≤ 1152921504606846976) :
    ContractP Try.prog 34 true [.own (io, 0) 0 0] [cuRow c] (fun r' fin' => ∃ (b : Blz) (cs : List Cut) (ys : List Int) (c' : Cu), (r' = .tuple [.agg b.t.pv, .list 2 (b.ps.map Phase.pv), .list 1 (ints b.src), .int .i64 b.st, .list 2 (cs.map Cut.pv), .list 1 (ints ys)] ∧ fin' = [[c'.pv]]) ∧ Aft c c' 1500 ∧ BlzB b ∧ cs.length ≤ 6 ∧ ys.length ≤ 5) := by
  refine contract_of hmix Try.func34 rfl (by kernel_rfl) (by kernel_rfl) (Nat.le_of_ble_eq_true rfl) (fun row h => by (simp only [List.mem_cons, List.not_mem_nil, or_false] at h; first | (subst h; (first | exact .inl rfl | exact .inr (fun e he u hu => by (simp only [List.mem_cons, List.not_mem_nil, or_false] at he; subst he; simp only [List.mem_cons, List.not_mem_nil, or_false] at hu; subst hu; rfl)))) | (rcases h with rfl | rfl <;> (first | exact .inl rfl | exact .inr (fun e he u hu => by (simp only [List.mem_cons, List.not_mem_nil, or_false] at he; subst he; simp only [List.mem_cons, List.not_mem_nil, or_false] at hu; subst hu; rfl)))) | (rcases h with rfl | rfl | rfl <;> (first | exact .inl rfl | exact .inr (fun e he u hu => by (simp only [List.mem_cons, List.not_mem_nil, or_false] at he; subst he; simp only [List.mem_cons, List.not_mem_nil, or_false] at hu; subst hu; rfl)))) | (rcases h with rfl | rfl | rfl | rfl <;> (first | exact .inl rfl | exact .inr (fun e he u hu => by (simp only [List.mem_cons, List.not_mem_nil, or_false] at he; subst he; simp only [List.mem_cons, List.not_mem_nil, or_false] at hu; subst hu; rfl)))))) ?_
  have hty_a26 := ty_a26
  have hty_z26 := ty_z26
  have hty_t26 := ty_t26
  have hty_u27 := ty_u27
  have hty_s27 := ty_s27
  have hty_u24 := ty_u24
  have hty_s24 := ty_s24
  repeat' (first | (refine pA (k := ?_)) | (refine g_exec ?_; first | (refine g_call ?_; refine x_callLP [(io, 0)] (k_threat c hc aO) rfl rfl aF rfl rfl aS rfl (fun r_ fin_ hP_ => ?_); obtain ⟨t, xs, ys, c1, ⟨rfl, rfl⟩, a1, ht, hxl, hyl⟩ := hP_; refine ⟨_, _, _, aH, rfl, ?_⟩; simp only [cl]) | (refine x_nil (hK _ _ aI ?_); clear hK K)) | (refine v_region (fun K hK => ?_)))
  have o1 := a1.ok hc aO
  have p1 := a1.pos
  obtain ⟨ps, c2, k2, a2, hps⟩ := k_phasesZ c1 o1 aO
  have o2 := a2.ok o1 aO
  have p2 := a2.pos
  obtain ⟨s, c3, k3, a3, h1, h2⟩ := k_startTick c2 o2 aO
  have o3 := a3.ok o2 aO
  have p3 := a3.pos
  obtain ⟨cs, c4, k4, a4, hcs⟩ := k_cutsFor c3 t ps xs ys s o3 aO ht hps hxl hyl
  repeat' (first | (refine pA (k := ?_)) | (refine g_exec ?_; first | (refine g_call ?_; first | (refine x_callL [(io, 0)] (k2) rfl rfl aF rfl rfl aS rfl aH rfl ?_; simp only [cl]) | (refine x_callL [(io, 0)] (k3) rfl rfl aF rfl rfl aS rfl aH rfl ?_; simp only [cl]) | (refine x_callL [(io, 0)] (k4) rfl rfl aF rfl rfl aS rfl aH rfl ?_; simp only [cl])) | (refine x_nil (hK _ _ aI ?_); clear hK K)) | (refine v_region (fun K hK => ?_)))
  refine RetPost.mono (fun r fin h => ⟨⟨t, ps, xs, s⟩, cs, ys, c4, h, (((a1.trans a2).trans a3).trans a4).le aO, ⟨ht, hps, hxl, ⟨h1, h2⟩⟩, hcs, hyl⟩) ?_
  (first | refine ret_TL rfl rfl rfl (by first | exact trivial | (repeat' (first | exact trivial | refine ⟨by assumption, ?_⟩))) (by repeat' (first | exact trivial | refine ⟨by simp, ?_⟩)) (by first | exact trivial | exact ⟨⟨rfl, rfl, fun h => by cases h⟩, trivial⟩) ?_ | refine ret_AL rfl rfl rfl (by first | exact trivial | (repeat' (first | exact trivial | refine ⟨by assumption, ?_⟩))) (by repeat' (first | exact trivial | refine ⟨by simp, ?_⟩)) (by first | exact trivial | exact ⟨⟨rfl, rfl, fun h => by cases h⟩, trivial⟩) ?_); (repeat' (first | exact et_end | exact el_end | refine et_int rfl ?_ ?_ | refine et_bool ?_ ?_ | refine et_str ?_ ?_ | refine et_lst rfl rfl ?_ ?_ | refine et_listA rfl (by rfl) (by decide) rfl rfl ?_ ?_ ?_ | refine et_nil ?_ ?_ | refine et_agg0 ?_ ?_ | refine et_agg ?_ ?_ | refine el_int rfl ?_ ?_ | refine el_bool ?_ ?_ | refine el_str ?_ ?_ | refine el_lst rfl rfl ?_ ?_ | refine el_listA rfl (by rfl) (by decide) rfl rfl ?_ ?_ ?_ | refine el_nil ?_ ?_)) <;> first | rfl | (simp; done) | omega
theorem k_DrawSlacksOf (code : List Int) (hz : CodeOk code) :
    ContractP Try.prog 31 true [.list 1 (bytesP code)] [] (fun r' fin' => ∃ (b : Blz) (cs : List Cut), (r' = .tuple (bzQ b (.list 2 (cs.map Cut.pv))) ∧ fin' = []) ∧ BlzB b ∧ cs.length ≤ 6) := by
  have o0 := cu0_ok hz
  refine contract_of hmix Try.func31 rfl (by kernel_rfl) (by kernel_rfl) (Nat.le_of_ble_eq_true rfl) (fun row h => by cases h) ?_
  have hty_a26 := ty_a26
  have hty_z26 := ty_z26
  have hty_st50 := ty_st50
  have hty_t26 := ty_t26
  repeat' (first | (refine pA (k := ?_)) | (refine g_exec ?_; first | (refine g_call ?_; refine x_callLP [(16, 0)] (k_holding (cu0 code) o0 (by simp)) rfl rfl aF rfl rfl aS rfl (fun r_ fin_ hP_ => ?_); obtain ⟨b, cs, ys, c1, ⟨rfl, rfl⟩, a1, hb, hcs, hys⟩ := hP_; refine ⟨_, _, _, aH, rfl, ?_⟩; simp only [cl]) | (refine x_nil (hK _ _ aI ?_); clear hK K)) | (refine v_region (fun K hK => ?_)))
  refine RetPost.mono (fun r fin h => ⟨b, cs, h, hb, hcs⟩) ?_
  (first | refine ret_TL rfl rfl rfl (by first | exact trivial | (repeat' (first | exact trivial | refine ⟨by assumption, ?_⟩))) (by repeat' (first | exact trivial | refine ⟨by simp, ?_⟩)) (by first | exact trivial | exact ⟨⟨rfl, rfl, fun h => by cases h⟩, trivial⟩) ?_ | refine ret_AL rfl rfl rfl (by first | exact trivial | (repeat' (first | exact trivial | refine ⟨by assumption, ?_⟩))) (by repeat' (first | exact trivial | refine ⟨by simp, ?_⟩)) (by first | exact trivial | exact ⟨⟨rfl, rfl, fun h => by cases h⟩, trivial⟩) ?_); (repeat' (first | exact et_end | exact el_end | refine et_int rfl ?_ ?_ | refine et_bool ?_ ?_ | refine et_str ?_ ?_ | refine et_lst rfl rfl ?_ ?_ | refine et_listA rfl (by rfl) (by decide) rfl rfl ?_ ?_ ?_ | refine et_nil ?_ ?_ | refine et_agg0 ?_ ?_ | refine et_agg ?_ ?_ | refine el_int rfl ?_ ?_ | refine el_bool ?_ ?_ | refine el_str ?_ ?_ | refine el_lst rfl rfl ?_ ?_ | refine el_listA rfl (by rfl) (by decide) rfl rfl ?_ ?_ ?_ | refine el_nil ?_ ?_)) <;> first | rfl | (simp; done) | omega
theorem k_DrawWeakestCut (code : List Int) (hz : CodeOk code) :
    ContractP Try.prog 11 true [.list 1 (bytesP code)] [] (fun r' fin' => ∃ (b : Blz) (cs : List Cut), (r' = .tuple (bzQ b (.list 2 (cs.map Cut.pv))) ∧ fin' = []) ∧ BlzB b ∧ cs.length ≤ 6) := by
  refine contract_of hmix Try.func11 rfl (by kernel_rfl) (by kernel_rfl) (Nat.le_of_ble_eq_true rfl) (fun row h => by cases h) ?_
  have hty_a26 := ty_a26
  have hty_z26 := ty_z26
  have hty_u22 := ty_u22
  have hty_s22 := ty_s22
  have hty_t26 := ty_t26
  repeat' (first | (refine pA (k := ?_)) | (refine g_exec ?_; first | (refine g_call ?_; refine x_callLP [] (k_DrawSlacksOf code hz) rfl rfl aF rfl rfl aS rfl (fun r_ fin_ hP_ => ?_); obtain ⟨b, cs, ⟨rfl, rfl⟩, hb, hcs⟩ := hP_; refine ⟨_, _, _, aH, rfl, ?_⟩; simp only [cl]) | (refine x_nil (hK _ _ aI ?_); clear hK K)) | (refine v_region (fun K hK => ?_)))
  refine RetPost.mono (fun r fin h => ⟨b, cs, h, hb, hcs⟩) ?_
  (first | refine ret_TL rfl rfl rfl (by first | exact trivial | (repeat' (first | exact trivial | refine ⟨by assumption, ?_⟩))) (by repeat' (first | exact trivial | refine ⟨by simp, ?_⟩)) (by first | exact trivial | exact ⟨⟨rfl, rfl, fun h => by cases h⟩, trivial⟩) ?_ | refine ret_AL rfl rfl rfl (by first | exact trivial | (repeat' (first | exact trivial | refine ⟨by assumption, ?_⟩))) (by repeat' (first | exact trivial | refine ⟨by simp, ?_⟩)) (by first | exact trivial | exact ⟨⟨rfl, rfl, fun h => by cases h⟩, trivial⟩) ?_); (repeat' (first | exact et_end | exact el_end | refine et_int rfl ?_ ?_ | refine et_bool ?_ ?_ | refine et_str ?_ ?_ | refine et_lst rfl rfl ?_ ?_ | refine et_listA rfl (by rfl) (by decide) rfl rfl ?_ ?_ ?_ | refine et_nil ?_ ?_ | refine et_agg0 ?_ ?_ | refine et_agg ?_ ?_ | refine el_int rfl ?_ ?_ | refine el_bool ?_ ?_ | refine el_str ?_ ?_ | refine el_lst rfl rfl ?_ ?_ | refine el_listA rfl (by rfl) (by decide) rfl rfl ?_ ?_ ?_ | refine el_nil ?_ ?_)) <;> first | rfl | (simp; done) | omega
theorem k_DrawDelayCuts (code : List Int) (hz : CodeOk code) :
    ContractP Try.prog 16 true [.list 1 (bytesP code)] [] (fun r' fin' => ∃ (t : Terrain) (cs : List Cut) (n : Int), (r' = .tuple [.agg t.pv, .list 2 (cs.map Cut.pv), .int .i64 n] ∧ fin' = []) ∧ TrSz t ∧ cs.length ≤ 6) := by
  have o0 := cu0_ok hz
  refine contract_of hmix Try.func16 rfl (by kernel_rfl) (by kernel_rfl) (Nat.le_of_ble_eq_true rfl) (fun row h => by cases h) ?_
  have hty_a26 := ty_a26
  have hty_z26 := ty_z26
  have hty_st50 := ty_st50
  have hty_t26 := ty_t26
  have hty_s24 := ty_s24
  have hty_u24 := ty_u24
  repeat' (first | (refine pA (k := ?_)) | (refine g_exec ?_; first | (refine g_call ?_; refine x_callLP [(14, 0)] (k_holding (cu0 code) o0 (by simp)) rfl rfl aF rfl rfl aS rfl (fun r_ fin_ hP_ => ?_); obtain ⟨b, cs, ys, c1, ⟨rfl, rfl⟩, a1, hb, hcs, hys⟩ := hP_; refine ⟨_, _, _, aH, rfl, ?_⟩; simp only [cl]) | (refine x_nil (hK _ _ aI ?_); clear hK K)) | (refine v_region (fun K hK => ?_)))
  have o1 := a1.ok o0 (by simp)
  have p1 := a1.pos
  dsimp only [cu0] at p1
  obtain ⟨n, c2, k2, a2, hn⟩ := k_among c1 [0, 1, 5, 100, 9999, 10000, -1, 30] o1 aO (by decide)
  repeat' (first | (refine pA (k := ?_)) | (refine g_exec ?_; first | (refine g_call ?_; refine x_callL [(14, 0)] (k2) rfl rfl aF rfl rfl aS rfl aH rfl ?_; simp only [cl]) | (refine x_nil (hK _ _ aI ?_); clear hK K)) | (refine v_region (fun K hK => ?_)))
  refine RetPost.mono (fun r fin h => ⟨b.t, cs, n, h, hb.t, hcs⟩) ?_
  (first | refine ret_TL rfl rfl rfl (by first | exact trivial | (repeat' (first | exact trivial | refine ⟨by assumption, ?_⟩))) (by repeat' (first | exact trivial | refine ⟨by simp, ?_⟩)) (by first | exact trivial | exact ⟨⟨rfl, rfl, fun h => by cases h⟩, trivial⟩) ?_ | refine ret_AL rfl rfl rfl (by first | exact trivial | (repeat' (first | exact trivial | refine ⟨by assumption, ?_⟩))) (by repeat' (first | exact trivial | refine ⟨by simp, ?_⟩)) (by first | exact trivial | exact ⟨⟨rfl, rfl, fun h => by cases h⟩, trivial⟩) ?_); (repeat' (first | exact et_end | exact el_end | refine et_int rfl ?_ ?_ | refine et_bool ?_ ?_ | refine et_str ?_ ?_ | refine et_lst rfl rfl ?_ ?_ | refine et_listA rfl (by rfl) (by decide) rfl rfl ?_ ?_ ?_ | refine et_nil ?_ ?_ | refine et_agg0 ?_ ?_ | refine et_agg ?_ ?_ | refine el_int rfl ?_ ?_ | refine el_bool ?_ ?_ | refine el_str ?_ ?_ | refine el_lst rfl rfl ?_ ?_ | refine el_listA rfl (by rfl) (by decide) rfl rfl ?_ ?_ ?_ | refine el_nil ?_ ?_)) <;> first | rfl | (simp; done) | omega
theorem k_DrawLatestCutsD (code : List Int) (hz : CodeOk code) :
    ContractP Try.prog 5 true [.list 1 (bytesP code)] [] (fun r' fin' => ∃ (b : Blz) (zs : List Int), ((r' = .tuple (bzQ b (.olist 3 1 (ints zs))) ∧ fin' = []) ∨ (r' = .tuple (bzQ b (.list 1 (ints zs))) ∧ fin' = [])) ∧ BlzB b ∧ zs.length ≤ 26) := by
  have o0 := cu0_ok hz
  refine contract_of hmix Try.func5 rfl (by kernel_rfl) (by kernel_rfl) (Nat.le_of_ble_eq_true rfl) (fun row h => by cases h) ?_
  have hty_a26 := ty_a26
  have hty_z26 := ty_z26
  have hty_st50 := ty_st50
  have hty_t26 := ty_t26
  have hty_s24 := ty_s24
  have hty_f26_2 := ty_f26_2
  have hty_c24 := ty_c24
  have hty_u24 := ty_u24
  have hty_c3 := ty_c3
  repeat' (first | (refine pA (k := ?_)) | (refine g_exec ?_; first | (refine g_call ?_; refine x_callLP [(16, 0)] (k_fire (cu0 code) o0 (by simp)) rfl rfl aF rfl rfl aS rfl (fun r_ fin_ hP_ => ?_); obtain ⟨b, c1, ⟨rfl, rfl⟩, a1, hb⟩ := hP_; refine ⟨_, _, _, aH, rfl, ?_⟩; simp only [cl]) | (refine g_guard ?_; refine x_gsplit rfl rfl (fun h => ?_) (fun h => ?_) <;> (have h' := h; try simp only [sx] at h')) | (refine x_nil (hK _ _ aI ?_); clear hK K)) | (refine v_region (fun K hK => ?_)) | (refine v_condt rfl (fun h => ?_) (fun h => ?_) <;> (have h' := h; try simp only [sx] at h')))
  have o1 := a1.ok o0 (by simp)
  have p1 := a1.pos
  dsimp only [cu0] at p1
  have ht3 := hb.t.2.2
  have hl1 : (ints b.t.burn).length = b.t.burn.length := by simp
  refine v_loopK [2, 7, 8, 9, 10, 11] [(16, 0), (1001, 0)] (fun q : Nat × Cu × List (List PV) × Nat => [(12, .osl (1001, 0) 0 q.2.2.2), (13, .int .i64 q.1)]) (fun q : Nat × Cu × List (List PV) × Nat => [((16, 0), some ⟨50, 3, [q.2.1.pv], true⟩), ((1001, 0), some ⟨3, 1, q.2.2.1, false⟩)]) (fun q : Nat × Cu × List (List PV) × Nat => q.1 ≤ b.t.burn.length ∧ Aft c1 q.2.1 (2 * q.1) ∧ ∃ us : List Int, q.2.2.1 = ints us ∧ us.length = q.2.2.2 ∧ us.length ≤ q.1) (fun q : Nat × Cu × List (List PV) × Nat => b.t.burn.length - q.1) ((0, c1, [], 0)) rfl rfl (fun _ => rfl) (fun _ => rfl) rfl (by refine ⟨?_, ?_, rfl, rfl⟩ <;> (repeat' (first | exact trivial | exact ⟨rfl, rfl⟩ | exact rfl | exact ⟨sub_fn, refs_fn⟩ | refine ⟨⟨rfl, rfl⟩, ?_⟩ | refine ⟨⟨sub_fn, refs_fn⟩, ?_⟩ | refine ⟨⟨rfl, fun h => Bool.noConfusion h⟩, ?_⟩ | refine ⟨⟨rfl, fun h => ?_⟩, ?_⟩ | refine ⟨rfl, ?_⟩ | refine ⟨?_, ?_⟩ | fail))) ⟨by simp, (Aft.refl c1).le (by simp), [], rfl, rfl, by simp⟩ (fun q hq => ?_)
  obtain ⟨i, d, es, m⟩ := q
  obtain ⟨hi, ad, us, hes, hul, hui⟩ := hq
  simp only at hi ad hes hul hui
  dsimp only
  have od := ad.ok o1 aO
  have pd := ad.pos
  have hel : es.length = m := by rw [hes, ints_len, hul]
  have hme := hel.symm
  rcases Nat.lt_or_ge i b.t.burn.length with hlt | hge
  · obtain ⟨x, hx⟩ := get_ex hlt
    have hxb := ints_at hx
    obtain ⟨y, c2, k2, a2⟩ := k_one d 4 od aO aO
    by_cases hgo : 0 < x
    · cases y with
      | false =>
        repeat' (first | (refine pA (k := ?_)) | (refine g_exec ?_; first | (refine g_call ?_; refine x_callL [(16, 0)] (k2) rfl rfl aF rfl rfl aS rfl aH rfl ?_; simp only [cl]) | (refine g_guard ?_; refine x_gsplit rfl rfl (fun h => ?_) (fun h => ?_) <;> (have h' := h; try simp only [sx] at h')) | (refine x_nil (hK _ _ aI ?_); clear hK K)) | (refine v_region (fun K hK => ?_)) | (refine v_condt rfl (fun h => ?_) (fun h => ?_) <;> (have h' := h; try simp only [sx] at h')))
        all_goals first
          | (exfalso; omega)
          | (refine q_next (i + 1, c2, es, m) rfl (by refine ⟨?_, ?_, rfl, rfl⟩ <;> (repeat' (first | exact trivial | exact ⟨rfl, rfl⟩ | exact rfl | exact ⟨sub_fn, refs_fn⟩ | refine ⟨⟨rfl, rfl⟩, ?_⟩ | refine ⟨⟨sub_fn, refs_fn⟩, ?_⟩ | refine ⟨⟨rfl, fun h => Bool.noConfusion h⟩, ?_⟩ | refine ⟨⟨rfl, fun h => ?_⟩, ?_⟩ | refine ⟨rfl, ?_⟩ | refine ⟨?_, ?_⟩ | fail))) ⟨by simp only; omega, (ad.trans a2).le (by simp only; omega), us, hes, hul, by simp only; omega⟩ (by simp only; omega))
      | true =>
        repeat' (first | (refine pA (k := ?_)) | (refine g_exec ?_; first | (refine g_call ?_; refine x_callL [(16, 0)] (k2) rfl rfl aF rfl rfl aS rfl aH rfl ?_; simp only [cl]) | (refine g_guard ?_; refine x_gsplit rfl rfl (fun h => ?_) (fun h => ?_) <;> (have h' := h; try simp only [sx] at h')) | (refine x_nil (hK _ _ aI ?_); clear hK K)) | (refine v_region (fun K hK => ?_)) | (refine v_condt rfl (fun h => ?_) (fun h => ?_) <;> (have h' := h; try simp only [sx] at h')))
        all_goals first
          | (exfalso; omega)
          | (refine q_next (i + 1, c2, es ++ [[.int .i64 (i : Nat)]], m + 1) rfl (by refine ⟨?_, ?_, rfl, rfl⟩ <;> (repeat' (first | exact trivial | exact ⟨rfl, rfl⟩ | exact rfl | exact ⟨sub_fn, refs_fn⟩ | refine ⟨⟨rfl, rfl⟩, ?_⟩ | refine ⟨⟨sub_fn, refs_fn⟩, ?_⟩ | refine ⟨⟨rfl, fun h => Bool.noConfusion h⟩, ?_⟩ | refine ⟨⟨rfl, fun h => ?_⟩, ?_⟩ | refine ⟨rfl, ?_⟩ | refine ⟨?_, ?_⟩ | fail))) ⟨by simp only; omega, (ad.trans a2).le (by simp only; omega), us ++ [(i : Int)], by simp [hes], by simp [hul], by simp; omega⟩ (by simp only; omega))
    · repeat' (first | (refine pA (k := ?_)) | (refine g_exec ?_; first | (refine g_guard ?_; refine x_gsplit rfl rfl (fun h => ?_) (fun h => ?_) <;> (have h' := h; try simp only [sx] at h')) | (refine x_nil (hK _ _ aI ?_); clear hK K)) | (refine v_region (fun K hK => ?_)) | (refine v_condt rfl (fun h => ?_) (fun h => ?_) <;> (have h' := h; try simp only [sx] at h')))
      all_goals first
        | (exfalso; omega)
        | (refine q_next (i + 1, d, es, m) rfl (by refine ⟨?_, ?_, rfl, rfl⟩ <;> (repeat' (first | exact trivial | exact ⟨rfl, rfl⟩ | exact rfl | exact ⟨sub_fn, refs_fn⟩ | refine ⟨⟨rfl, rfl⟩, ?_⟩ | refine ⟨⟨sub_fn, refs_fn⟩, ?_⟩ | refine ⟨⟨rfl, fun h => Bool.noConfusion h⟩, ?_⟩ | refine ⟨⟨rfl, fun h => ?_⟩, ?_⟩ | refine ⟨rfl, ?_⟩ | refine ⟨?_, ?_⟩ | fail))) ⟨by simp only; omega, ad.le (by simp only; omega), us, hes, hul, by simp only; omega⟩ (by simp only; omega))
  · have hib : i = b.t.burn.length := by omega
    subst hib
    obtain ⟨y, c2, k2, a2⟩ := k_one d 8 od aO aO
    have o2 := a2.ok od aO
    have p2 := a2.pos
    cases y with
    | false =>
      repeat' (first | (refine pA (k := ?_)) | (refine g_exec ?_; first | (refine g_call ?_; refine x_callL [(16, 0)] (k2) rfl rfl aF rfl rfl aS rfl aH rfl ?_; simp only [cl]) | (refine g_guard ?_; refine x_gsplit rfl rfl (fun h => ?_) (fun h => ?_) <;> (have h' := h; try simp only [sx] at h')) | (refine x_nil (hK _ _ aI ?_); clear hK K)) | (refine v_region (fun K hK => ?_)) | (refine v_condt rfl (fun h => ?_) (fun h => ?_) <;> (have h' := h; try simp only [sx] at h')))
      all_goals first
        | (exfalso; omega)
        | (refine RetPost.mono (fun r fin h => ⟨b, us, .inl h, hb, by omega⟩) ?_
           (first | refine ret_TL rfl rfl rfl (by first | exact trivial | (repeat' (first | exact trivial | refine ⟨by assumption, ?_⟩))) (by repeat' (first | exact trivial | refine ⟨by simp, ?_⟩)) (by first | exact trivial | exact ⟨⟨rfl, rfl, fun h => by cases h⟩, trivial⟩) ?_ | refine ret_AL rfl rfl rfl (by first | exact trivial | (repeat' (first | exact trivial | refine ⟨by assumption, ?_⟩))) (by repeat' (first | exact trivial | refine ⟨by simp, ?_⟩)) (by first | exact trivial | exact ⟨⟨rfl, rfl, fun h => by cases h⟩, trivial⟩) ?_); (repeat' (first | exact et_end | exact el_end | refine et_int rfl ?_ ?_ | refine et_bool ?_ ?_ | refine et_str ?_ ?_ | refine et_lst rfl rfl ?_ ?_ | refine et_listA rfl (by rfl) (by decide) rfl rfl ?_ ?_ ?_ | refine et_nil ?_ ?_ | refine et_agg0 ?_ ?_ | refine et_agg ?_ ?_ | refine el_int rfl ?_ ?_ | refine el_bool ?_ ?_ | refine el_str ?_ ?_ | refine el_lst rfl rfl ?_ ?_ | refine el_listA rfl (by rfl) (by decide) rfl rfl ?_ ?_ ?_ | refine el_nil ?_ ?_)) <;> first | rfl | assumption | (simp; done) | omega)
    | true =>
      obtain ⟨zs, c3, k3, a3, hzl⟩ := k_cellsOf c2 b.t o2 aO hb.t
      repeat' (first | (refine pA (k := ?_)) | (refine g_exec ?_; first | (refine g_call ?_; first | (refine x_callL [(16, 0)] (k2) rfl rfl aF rfl rfl aS rfl aH rfl ?_; simp only [cl]) | (refine x_callL [(16, 0)] (k3) rfl rfl aF rfl rfl aS rfl aH rfl ?_; simp only [cl])) | (refine g_guard ?_; refine x_gsplit rfl rfl (fun h => ?_) (fun h => ?_) <;> (have h' := h; try simp only [sx] at h')) | (refine x_nil (hK _ _ aI ?_); clear hK K)) | (refine v_region (fun K hK => ?_)) | (refine v_condt rfl (fun h => ?_) (fun h => ?_) <;> (have h' := h; try simp only [sx] at h')))
      all_goals first
        | (exfalso; omega)
        | (refine RetPost.mono (fun r fin h => ⟨b, zs, .inr h, hb, by omega⟩) ?_
           (first | refine ret_TL rfl rfl rfl (by first | exact trivial | (repeat' (first | exact trivial | refine ⟨by assumption, ?_⟩))) (by repeat' (first | exact trivial | refine ⟨by simp, ?_⟩)) (by first | exact trivial | exact ⟨⟨rfl, rfl, fun h => by cases h⟩, trivial⟩) ?_ | refine ret_AL rfl rfl rfl (by first | exact trivial | (repeat' (first | exact trivial | refine ⟨by assumption, ?_⟩))) (by repeat' (first | exact trivial | refine ⟨by simp, ?_⟩)) (by first | exact trivial | exact ⟨⟨rfl, rfl, fun h => by cases h⟩, trivial⟩) ?_); (repeat' (first | exact et_end | exact el_end | refine et_int rfl ?_ ?_ | refine et_bool ?_ ?_ | refine et_str ?_ ?_ | refine et_lst rfl rfl ?_ ?_ | refine et_listA rfl (by rfl) (by decide) rfl rfl ?_ ?_ ?_ | refine et_nil ?_ ?_ | refine et_agg0 ?_ ?_ | refine et_agg ?_ ?_ | refine el_int rfl ?_ ?_ | refine el_bool ?_ ?_ | refine el_str ?_ ?_ | refine el_lst rfl rfl ?_ ?_ | refine el_listA rfl (by rfl) (by decide) rfl rfl ?_ ?_ ?_ | refine el_nil ?_ ?_)) <;> first | rfl | assumption | (simp; done) | omega)
theorem k_DrawLatestCuts (code : List Int) (hz : CodeOk code) :
    ContractP Try.prog 5 true [.list 1 (bytesP code)] [] (fun r' fin' => ∃ (b : Blz) (zs : List Int), (r' = .tuple (bzQ b (.list 1 (ints zs))) ∧ fin' = []) ∧ BlzB b ∧ zs.length ≤ 26) := by
  refine ContractP.mono ?_ (ConL.frzP (k_DrawLatestCutsD code hz) (by rintro r fin ⟨b, zs, ⟨rfl, rfl⟩ | ⟨rfl, rfl⟩, _⟩ <;> rfl) (by intro row h; simp at h))
  rintro r fin ⟨r', rfl, b, zs, ⟨rfl, rfl⟩ | ⟨rfl, rfl⟩, h⟩
  · exact ⟨b, zs, ⟨rfl, rfl⟩, h⟩
  · exact ⟨b, zs, ⟨rfl, rfl⟩, h⟩
end Go.Vs
set_option linter.unusedVariables false
set_option linter.unusedSimpArgs false
set_option maxRecDepth 100000
set_option maxHeartbeats 4000000
namespace Go.Vs
open Go.Proofs
attribute [local irreducible] exec vwp thenQ blkQ loopQ RetPost
noncomputable section
def slF (b : Blz) (c : Cut) : Int := if tv (arr b) c.cell = -1 then 9999 else tv (arr b) c.cell - c.tick
def slL (b : Blz) (cs : List Cut) : List Int := cs.map (slF b)
theorem slL_len (b : Blz) (cs : List Cut) : (slL b cs).length = cs.length := by simp [slL]
theorem slL_succ {b : Blz} {cs : List Cut} {i : Nat} {c : Cut} (h : cs[i]? = some c) : slL b (cs.take (i + 1)) = slL b (cs.take i) ++ [slF b c] := by simp only [slL, map_take_succ _ h]
theorem k_l25Slacks (b : Blz) (cs : List Cut) (hb : GoodB b) (hc : GoodC b.t cs) (hs : b.src.length ≤ 1099511627776) :
    Con Try.prog 32 [.agg b.t.pv, .list 2 (b.ps.map Phase.pv), .list 1 (ints b.src), .int .i64 b.st, .list 2 (cs.map Cut.pv)] (.olist 3 1 (ints (slL b cs))) := by
  intro al
  refine contract_of hmix Try.func32 rfl (by kernel_rfl) (by kernel_rfl) (Nat.le_of_ble_eq_true rfl) (fun row h => by cases h) ?_
  have hty_s24 := ty_s24
  have hty_a26 := ty_a26
  have hty_u27 := ty_u27
  have hty_s27 := ty_s27
  have hty_u24 := ty_u24
  have hty_u30 := ty_u30
  have hty_s30 := ty_s30
  have hty_f38_0 := ty_f38_0
  have hty_c3 := ty_c3
  have hty_f38_1 := ty_f38_1
  have hl1 : (cs.map Cut.pv).length = cs.length := by simp
  have hcl := hc.2.2
  obtain ⟨hM, hA⟩ := arr_ok hb
  have la : (ints (arr b)).length = b.t.burn.length := by rw [ints_len, hM.pre.len]
  repeat' (first | (refine pA (k := ?_)) | (refine g_exec ?_; first | (refine g_call ?_; refine x_callG true (k_l4Arrivals b hb hs) rfl rfl rfl aS rfl aH ?_; simp only [cl]) | (refine x_nil (hK _ _ aI ?_); clear hK K)) | (refine v_region (fun K hK => ?_)) | (refine v_condt rfl (fun h => ?_) (fun h => ?_) <;> (have h' := h; try simp only [sx] at h')))
  refine v_loopK [4, 12] [] (fun q : Nat × List (List PV) => [(11, .osl (1001, 0) 0 q.1), (13, .int .i64 q.1)]) (fun q : Nat × List (List PV) => [((1001, 0), some ⟨3, 1, q.2, false⟩)]) (fun q : Nat × List (List PV) => q.1 ≤ cs.length ∧ q.2 = ints (slL b (cs.take q.1))) (fun q : Nat × List (List PV) => cs.length - q.1) ((0, [])) rfl rfl (fun _ => rfl) (fun _ => rfl) rfl (by refine ⟨?_, ?_, rfl, rfl⟩ <;> (repeat' (first | exact trivial | exact ⟨rfl, rfl⟩ | exact rfl | exact ⟨sub_fn, refs_fn⟩ | refine ⟨⟨rfl, rfl⟩, ?_⟩ | refine ⟨⟨sub_fn, refs_fn⟩, ?_⟩ | refine ⟨⟨rfl, fun h => Bool.noConfusion h⟩, ?_⟩ | refine ⟨⟨rfl, fun h => ?_⟩, ?_⟩ | refine ⟨rfl, ?_⟩ | refine ⟨?_, ?_⟩ | fail))) ⟨by simp, by simp [slL]⟩ (fun q hq => ?_)
  obtain ⟨i, es⟩ := q
  obtain ⟨h1, h2⟩ := hq
  simp only at h1 h2
  have hl : es.length = i := by rw [h2, ints_len, slL_len, List.length_take]; omega
  dsimp only
  rcases Nat.lt_or_ge i cs.length with hlt | hge
  · obtain ⟨c, hgc⟩ := get_ex hlt
    have hx := Cut.at hgc
    have ho := hc.2.one c (get_mem hgc)
    have hcc := ho.1
    unfold IsCell at hcc
    have hat : (ints (arr b))[c.cell.toNat]? = some [.int .i64 (tv (arr b) c.cell)] := tv_int (cell_inT hM.pre.len ho.1)
    have hle := hM.le hb ho.1
    have htk := ho.2.2
    by_cases hne : tv (arr b) c.cell = -1
    · have hsl : slF b c = 9999 := by rw [slF, if_pos hne]
      repeat' (first | (refine pA (k := ?_)) | (refine g_exec ?_; refine x_nil (hK _ _ aI ?_); clear hK K) | (refine v_region (fun K hK => ?_)) | (refine v_condt rfl (fun h => ?_) (fun h => ?_) <;> (have h' := h; try simp only [sx] at h')))
      all_goals first
        | (exfalso; omega)
        | (refine q_next (i + 1, es ++ [[.int .i64 9999]]) rfl (by refine ⟨?_, ?_, rfl, rfl⟩ <;> (repeat' (first | exact trivial | exact ⟨rfl, rfl⟩ | exact rfl | exact ⟨sub_fn, refs_fn⟩ | refine ⟨⟨rfl, rfl⟩, ?_⟩ | refine ⟨⟨sub_fn, refs_fn⟩, ?_⟩ | refine ⟨⟨rfl, fun h => Bool.noConfusion h⟩, ?_⟩ | refine ⟨⟨rfl, fun h => ?_⟩, ?_⟩ | refine ⟨rfl, ?_⟩ | refine ⟨?_, ?_⟩ | fail))) ⟨by simp only; omega, by simp only [slL_succ hgc, hsl, ints_snoc, h2]⟩ (by simp only; omega))
    · have hge2 := (hM.ge hb ho.1 hne).1
      have hsl : slF b c = tv (arr b) c.cell - c.tick := by rw [slF, if_neg hne]
      repeat' (first | (refine pA (k := ?_)) | (refine g_exec ?_; refine x_nil (hK _ _ aI ?_); clear hK K) | (refine v_region (fun K hK => ?_)) | (refine v_condt rfl (fun h => ?_) (fun h => ?_) <;> (have h' := h; try simp only [sx] at h')))
      all_goals first
        | (exfalso; omega)
        | (refine q_next (i + 1, es ++ [[.int .i64 (tv (arr b) c.cell - c.tick)]]) rfl (by refine ⟨?_, ?_, rfl, rfl⟩ <;> (repeat' (first | exact trivial | exact ⟨rfl, rfl⟩ | exact rfl | exact ⟨sub_fn, refs_fn⟩ | refine ⟨⟨rfl, rfl⟩, ?_⟩ | refine ⟨⟨sub_fn, refs_fn⟩, ?_⟩ | refine ⟨⟨rfl, fun h => Bool.noConfusion h⟩, ?_⟩ | refine ⟨⟨rfl, fun h => ?_⟩, ?_⟩ | refine ⟨rfl, ?_⟩ | refine ⟨?_, ?_⟩ | fail))) ⟨by simp only; omega, by simp only [slL_succ hgc, hsl, ints_snoc, h2]⟩ (by simp only; omega))
  · repeat' (first | (refine pA (k := ?_)) | (refine g_exec ?_; refine x_nil (hK _ _ aI ?_); clear hK K) | (refine v_region (fun K hK => ?_)) | (refine v_condt rfl (fun h => ?_) (fun h => ?_) <;> (have h' := h; try simp only [sx] at h')))
    rw [take_all hge] at h2
    exact ret_list rfl (lookE_ok (by rfl)) (by rfl) (by decide) hl.symm (by rw [h2]; exact ints_flat _) h2
theorem k_slacks (b : Blz) (cs : List Cut) (hb : GoodB b) (hc : GoodC b.t cs) (hs : b.src.length ≤ 1099511627776) :
    Con Try.prog 30 [.agg b.t.pv, .list 2 (b.ps.map Phase.pv), .list 1 (ints b.src), .int .i64 b.st, .list 2 (cs.map Cut.pv)] (.olist 3 1 (ints (slL b cs))) := by
  intro al
  refine contract_of hmix Try.func30 rfl (by kernel_rfl) (by kernel_rfl) (Nat.le_of_ble_eq_true rfl) (fun row h => by cases h) ?_
  have hty_a26 := ty_a26
  have hty_u27 := ty_u27
  have hty_s27 := ty_s27
  have hty_u24 := ty_u24
  have hty_s24 := ty_s24
  have hty_u30 := ty_u30
  have hty_s30 := ty_s30
  have hty_a38 := ty_a38
  have hty_z38 := ty_z38
  have hty_t38 := ty_t38
  have hty_f38_0 := ty_f38_0
  have hty_c3 := ty_c3
  have hty_f38_1 := ty_f38_1
  have hl1 : (cs.map Cut.pv).length = cs.length := by simp
  have hcl := hc.2.2
  obtain ⟨hM, hA⟩ := arr_ok hb
  have la : (ints (arr b)).length = b.t.burn.length := by rw [ints_len, hM.pre.len]
  repeat' (first | (refine pA (k := ?_)) | (refine g_exec ?_; first | (refine g_call ?_; refine x_callG true (k_arrivals b hb hs) rfl rfl rfl aS rfl aH ?_; simp only [cl]) | (refine x_nil (hK _ _ aI ?_); clear hK K)) | (refine v_region (fun K hK => ?_)) | (refine v_condt rfl (fun h => ?_) (fun h => ?_) <;> (have h' := h; try simp only [sx] at h')))
  refine v_loopK [11, 21, 22] [] (fun q : Nat × List (List PV) => [(12, .osl (1001, 0) 0 q.1), (23, .int .i64 q.1)]) (fun q : Nat × List (List PV) => [((1001, 0), some ⟨3, 1, q.2, false⟩)]) (fun q : Nat × List (List PV) => q.1 ≤ cs.length ∧ q.2 = ints (slL b (cs.take q.1))) (fun q : Nat × List (List PV) => cs.length - q.1) ((0, [])) rfl rfl (fun _ => rfl) (fun _ => rfl) rfl (by refine ⟨?_, ?_, rfl, rfl⟩ <;> (repeat' (first | exact trivial | exact ⟨rfl, rfl⟩ | exact rfl | exact ⟨sub_fn, refs_fn⟩ | refine ⟨⟨rfl, rfl⟩, ?_⟩ | refine ⟨⟨sub_fn, refs_fn⟩, ?_⟩ | refine ⟨⟨rfl, fun h => Bool.noConfusion h⟩, ?_⟩ | refine ⟨⟨rfl, fun h => ?_⟩, ?_⟩ | refine ⟨rfl, ?_⟩ | refine ⟨?_, ?_⟩ | fail))) ⟨by simp, by simp [slL]⟩ (fun q hq => ?_)
  obtain ⟨i, es⟩ := q
  obtain ⟨h1, h2⟩ := hq
  simp only at h1 h2
  have hl : es.length = i := by rw [h2, ints_len, slL_len, List.length_take]; omega
  dsimp only
  rcases Nat.lt_or_ge i cs.length with hlt | hge
  · obtain ⟨c, hgc⟩ := get_ex hlt
    have hx := Cut.at hgc
    have ho := hc.2.one c (get_mem hgc)
    have hcc := ho.1
    unfold IsCell at hcc
    have hat : (ints (arr b))[c.cell.toNat]? = some [.int .i64 (tv (arr b) c.cell)] := tv_int (cell_inT hM.pre.len ho.1)
    have hle := hM.le hb ho.1
    have htk := ho.2.2
    by_cases hne : tv (arr b) c.cell = -1
    · have hsl : slF b c = 9999 := by rw [slF, if_pos hne]
      repeat' (first | (refine pA (k := ?_)) | (refine g_exec ?_; refine x_nil (hK _ _ aI ?_); clear hK K) | (refine v_region (fun K hK => ?_)) | (refine v_condt rfl (fun h => ?_) (fun h => ?_) <;> (have h' := h; try simp only [sx] at h')))
      all_goals first
        | (exfalso; omega)
        | (refine q_next (i + 1, es ++ [[.int .i64 9999]]) rfl (by refine ⟨?_, ?_, rfl, rfl⟩ <;> (repeat' (first | exact trivial | exact ⟨rfl, rfl⟩ | exact rfl | exact ⟨sub_fn, refs_fn⟩ | refine ⟨⟨rfl, rfl⟩, ?_⟩ | refine ⟨⟨sub_fn, refs_fn⟩, ?_⟩ | refine ⟨⟨rfl, fun h => Bool.noConfusion h⟩, ?_⟩ | refine ⟨⟨rfl, fun h => ?_⟩, ?_⟩ | refine ⟨rfl, ?_⟩ | refine ⟨?_, ?_⟩ | fail))) ⟨by simp only; omega, by simp only [slL_succ hgc, hsl, ints_snoc, h2]⟩ (by simp only; omega))
    · have hge2 := (hM.ge hb ho.1 hne).1
      have hsl : slF b c = tv (arr b) c.cell - c.tick := by rw [slF, if_neg hne]
      repeat' (first | (refine pA (k := ?_)) | (refine g_exec ?_; refine x_nil (hK _ _ aI ?_); clear hK K) | (refine v_region (fun K hK => ?_)) | (refine v_condt rfl (fun h => ?_) (fun h => ?_) <;> (have h' := h; try simp only [sx] at h')))
      all_goals first
        | (exfalso; omega)
        | (refine q_next (i + 1, es ++ [[.int .i64 (tv (arr b) c.cell - c.tick)]]) rfl (by refine ⟨?_, ?_, rfl, rfl⟩ <;> (repeat' (first | exact trivial | exact ⟨rfl, rfl⟩ | exact rfl | exact ⟨sub_fn, refs_fn⟩ | refine ⟨⟨rfl, rfl⟩, ?_⟩ | refine ⟨⟨sub_fn, refs_fn⟩, ?_⟩ | refine ⟨⟨rfl, fun h => Bool.noConfusion h⟩, ?_⟩ | refine ⟨⟨rfl, fun h => ?_⟩, ?_⟩ | refine ⟨rfl, ?_⟩ | refine ⟨?_, ?_⟩ | fail))) ⟨by simp only; omega, by simp only [slL_succ hgc, hsl, ints_snoc, h2]⟩ (by simp only; omega))
  · repeat' (first | (refine pA (k := ?_)) | (refine g_exec ?_; refine x_nil (hK _ _ aI ?_); clear hK K) | (refine v_region (fun K hK => ?_)) | (refine v_condt rfl (fun h => ?_) (fun h => ?_) <;> (have h' := h; try simp only [sx] at h')))
    rw [take_all hge] at h2
    exact ret_list rfl (lookE_ok (by rfl)) (by rfl) (by decide) hl.symm (by rw [h2]; exact ints_flat _) h2
def SoOk (b : Blz) (cs : List Cut) : Prop := GoodB b ∧ GoodC b.t cs
instance (b : Blz) (cs : List Cut) : Decidable (SoOk b cs) := by unfold SoOk; infer_instance
def soL (b : Blz) (cs : List Cut) : List Int := if SoOk b cs then slL b cs else []
theorem soL_len (b : Blz) (cs : List Cut) : (soL b cs).length ≤ cs.length := by unfold soL; split <;> simp [slL_len]
@[reducible] def soRes (b : Blz) (cs : List Cut) : PV := .tuple [.olist 3 1 (ints (soL b cs)), .bool (decide (SoOk b cs))]
theorem k_iSlacks (b : Blz) (cs : List Cut) (z : SzB b) (hm : cs.length ≤ 1099511627776) :
    Con Try.prog 9 [.agg b.t.pv, .list 2 (b.ps.map Phase.pv), .list 1 (ints b.src), .int .i64 b.st, .list 2 (cs.map Cut.pv)] (soRes b cs) := by
  intro al
  refine contract_of hmix Try.func9 rfl (by kernel_rfl) (by kernel_rfl) (Nat.le_of_ble_eq_true rfl) (fun row h => by cases h) ?_
  have hty_a26 := ty_a26
  have hty_u27 := ty_u27
  have hty_s27 := ty_s27
  have hty_u24 := ty_u24
  have hty_s24 := ty_s24
  have hty_u30 := ty_u30
  have hty_s30 := ty_s30
  have k1 := k_isFire b z
  have k2 := k_iAreCuts b.t cs z.hn hm
  by_cases hb : GoodB b
  · rw [decide_eq_true hb] at k1
    by_cases hc : GoodC b.t cs
    · rw [decide_eq_true hc] at k2
      have hok : SoOk b cs := ⟨hb, hc⟩
      rw [soRes, decide_eq_true hok, soL, if_pos hok]
      repeat' (first | (refine pA (k := ?_)) | (refine g_exec ?_; first | (refine g_call ?_; first | (refine x_callG true (k1) rfl rfl rfl aS rfl aH ?_; simp only [cl]) | (refine x_callG true (k2) rfl rfl rfl aS rfl aH ?_; simp only [cl]) | (refine x_callG true (k_slacks b cs hb hc z.hs) rfl rfl rfl aS rfl aH ?_; simp only [cl])) | (refine g_guard ?_; refine x_gsplit rfl rfl (fun h => ?_) (fun h => ?_) <;> (have h' := h; try simp only [sx] at h')) | (refine x_nil (hK _ _ aI ?_); clear hK K)) | (refine v_region (fun K hK => ?_)) | (refine v_condt rfl (fun h => ?_) (fun h => ?_) <;> (have h' := h; try simp only [sx] at h')))
      exact aR
    · rw [decide_eq_false hc] at k2
      have hok : ¬ SoOk b cs := fun h => hc h.2
      rw [soRes, decide_eq_false hok, soL, if_neg hok]
      repeat' (first | (refine pA (k := ?_)) | (refine g_exec ?_; first | (refine g_call ?_; first | (refine x_callG true (k1) rfl rfl rfl aS rfl aH ?_; simp only [cl]) | (refine x_callG true (k2) rfl rfl rfl aS rfl aH ?_; simp only [cl])) | (refine g_guard ?_; refine x_gsplit rfl rfl (fun h => ?_) (fun h => ?_) <;> (have h' := h; try simp only [sx] at h')) | (refine x_nil (hK _ _ aI ?_); clear hK K)) | (refine v_region (fun K hK => ?_)) | (refine v_condt rfl (fun h => ?_) (fun h => ?_) <;> (have h' := h; try simp only [sx] at h')))
      exact aR
  · rw [decide_eq_false hb] at k1
    have hok : ¬ SoOk b cs := fun h => hb h.1
    rw [soRes, decide_eq_false hok, soL, if_neg hok]
    repeat' (first | (refine pA (k := ?_)) | (refine g_exec ?_; first | (refine g_call ?_; first | (refine x_callG true (k1) rfl rfl rfl aS rfl aH ?_; simp only [cl]) | (refine x_callG true (k2) rfl rfl rfl aS rfl aH ?_; simp only [cl])) | (refine g_guard ?_; refine x_gsplit rfl rfl (fun h => ?_) (fun h => ?_) <;> (have h' := h; try simp only [sx] at h')) | (refine x_nil (hK _ _ aI ?_); clear hK K)) | (refine v_region (fun K hK => ?_)) | (refine v_condt rfl (fun h => ?_) (fun h => ?_) <;> (have h' := h; try simp only [sx] at h')))
    exact aR
end
end Go.Vs
set_option linter.unusedVariables false
set_option linter.unusedSimpArgs false
set_option maxRecDepth 100000
set_option maxHeartbeats 4000000
namespace Go.Vs
open Go.Proofs
attribute [local irreducible] exec vwp thenQ blkQ loopQ RetPost
noncomputable section
theorem k_sSlacks (b : Blz) (cs : List Cut) (z : SzB b) (hm : cs.length ≤ 1099511627776) :
    Con Try.prog 14 [.agg b.t.pv, .list 2 (b.ps.map Phase.pv), .list 1 (ints b.src), .int .i64 b.st, .list 2 (cs.map Cut.pv)] (soRes b cs) := by
  intro al
  refine contract_of hmix Try.func14 rfl (by kernel_rfl) (by kernel_rfl) (Nat.le_of_ble_eq_true rfl) (fun row h => by cases h) ?_
  have hty_a26 := ty_a26
  have hty_u27 := ty_u27
  have hty_s27 := ty_s27
  have hty_u24 := ty_u24
  have hty_s24 := ty_s24
  have hty_u30 := ty_u30
  have hty_s30 := ty_s30
  have k1 := k_l4Asked b z
  have k2 := k_l25Good b.t cs z.hn hm
  by_cases hb : GoodB b
  · rw [decide_eq_true hb] at k1
    by_cases hc : GoodC b.t cs
    · rw [decide_eq_true hc] at k2
      have hok : SoOk b cs := ⟨hb, hc⟩
      rw [soRes, decide_eq_true hok, soL, if_pos hok]
      repeat' (first | (refine pA (k := ?_)) | (refine g_exec ?_; first | (refine g_call ?_; first | (refine x_callG true (k1) rfl rfl rfl aS rfl aH ?_; simp only [cl]) | (refine x_callG true (k2) rfl rfl rfl aS rfl aH ?_; simp only [cl]) | (refine x_callG true (k_l25Slacks b cs hb hc z.hs) rfl rfl rfl aS rfl aH ?_; simp only [cl])) | (refine g_guard ?_; refine x_gsplit rfl rfl (fun h => ?_) (fun h => ?_) <;> (have h' := h; try simp only [sx] at h')) | (refine x_nil (hK _ _ aI ?_); clear hK K)) | (refine v_region (fun K hK => ?_)) | (refine v_condt rfl (fun h => ?_) (fun h => ?_) <;> (have h' := h; try simp only [sx] at h')))
      exact aR
    · rw [decide_eq_false hc] at k2
      have hok : ¬ SoOk b cs := fun h => hc h.2
      rw [soRes, decide_eq_false hok, soL, if_neg hok]
      repeat' (first | (refine pA (k := ?_)) | (refine g_exec ?_; first | (refine g_call ?_; first | (refine x_callG true (k1) rfl rfl rfl aS rfl aH ?_; simp only [cl]) | (refine x_callG true (k2) rfl rfl rfl aS rfl aH ?_; simp only [cl])) | (refine g_guard ?_; refine x_gsplit rfl rfl (fun h => ?_) (fun h => ?_) <;> (have h' := h; try simp only [sx] at h')) | (refine x_nil (hK _ _ aI ?_); clear hK K)) | (refine v_region (fun K hK => ?_)) | (refine v_condt rfl (fun h => ?_) (fun h => ?_) <;> (have h' := h; try simp only [sx] at h')))
      exact aR
  · rw [decide_eq_false hb] at k1
    have hok : ¬ SoOk b cs := fun h => hb h.1
    rw [soRes, decide_eq_false hok, soL, if_neg hok]
    repeat' (first | (refine pA (k := ?_)) | (refine g_exec ?_; first | (refine g_call ?_; first | (refine x_callG true (k1) rfl rfl rfl aS rfl aH ?_; simp only [cl]) | (refine x_callG true (k2) rfl rfl rfl aS rfl aH ?_; simp only [cl])) | (refine g_guard ?_; refine x_gsplit rfl rfl (fun h => ?_) (fun h => ?_) <;> (have h' := h; try simp only [sx] at h')) | (refine x_nil (hK _ _ aI ?_); clear hK K)) | (refine v_region (fun K hK => ?_)) | (refine v_condt rfl (fun h => ?_) (fun h => ?_) <;> (have h' := h; try simp only [sx] at h')))
    exact aR
end
end Go.Vs
set_option linter.unusedVariables false
set_option linter.unusedSimpArgs false
set_option maxRecDepth 100000
set_option maxHeartbeats 4000000
namespace Go.Vs
open Go.Proofs
attribute [local irreducible] exec vwp thenQ blkQ loopQ RetPost
noncomputable section
@[reducible] def negAt (L : List Int) (i : Nat) : Int := -(L.getD i 0)
theorem k_l25Weakest (L : List Int) (h0 : 1 ≤ L.length ∧ L.length ≤ 8) : Con Try.prog 33 [.list 1 (ints L)] (.int .i64 (amax (negAt L) L.length : Nat)) := by
  intro al
  refine contract_of hmix Try.func33 rfl (by kernel_rfl) (by kernel_rfl) (Nat.le_of_ble_eq_true rfl) (fun row h => by cases h) ?_
  have hty_u24 := ty_u24
  have hty_s24 := ty_s24
  have hty_c3 := ty_c3
  have hl1 : (ints L).length = L.length := by simp
  repeat' (first | (refine pA (k := ?_)) | (refine g_exec ?_; refine x_nil (hK _ _ aI ?_); clear hK K) | (refine v_region (fun K hK => ?_)) | (refine v_condt rfl (fun h => ?_) (fun h => ?_) <;> (have h' := h; try simp only [sx] at h')))
  refine v_loopK [0] [] (fun q : Nat × Nat => [(3, .int .i64 q.2), (4, .int .i64 q.1)]) (fun q : Nat × Nat => []) (fun q : Nat × Nat => (1 ≤ q.1 ∧ q.1 ≤ L.length) ∧ q.2 = amax (negAt L) q.1) (fun q : Nat × Nat => L.length - q.1) ((1, 0)) rfl rfl (fun _ => rfl) (fun _ => rfl) rfl (by refine ⟨?_, ?_, rfl, rfl⟩ <;> (repeat' (first | exact trivial | exact ⟨rfl, rfl⟩ | exact rfl | exact ⟨sub_fn, refs_fn⟩ | refine ⟨⟨rfl, rfl⟩, ?_⟩ | refine ⟨⟨sub_fn, refs_fn⟩, ?_⟩ | refine ⟨⟨rfl, fun h => Bool.noConfusion h⟩, ?_⟩ | refine ⟨⟨rfl, fun h => ?_⟩, ?_⟩ | refine ⟨rfl, ?_⟩ | refine ⟨?_, ?_⟩ | fail))) ⟨by simp only; omega, (amax_one _).symm⟩ (fun q hq => ?_)
  obtain ⟨i, m⟩ := q
  obtain ⟨hi, hm⟩ := hq
  simp only at hi hm
  dsimp only
  rcases Nat.lt_or_ge i L.length with hlt | hge
  · have hml := amax_lt (negAt L) i aO
    obtain ⟨x, hx⟩ := get_ex hlt
    obtain ⟨y, hy⟩ := get_ex (show m < L.length by omega)
    have hxa := ints_at hx
    have hya := ints_at hy
    have e1 : negAt L i = -x := by rw [negAt, getI hx]
    have e2 : negAt L (amax (negAt L) i) = -y := by rw [← hm, negAt, getI hy]
    have e3 : amax (negAt L) (i + 1) = if -x > -y then i else m := by rw [amax, e1, e2, ← hm]
    by_cases hc : x < y
    · rw [if_pos aO] at e3
      repeat' (first | (refine pA (k := ?_)) | (refine g_exec ?_; refine x_nil (hK _ _ aI ?_); clear hK K) | (refine v_region (fun K hK => ?_)) | (refine v_condt rfl (fun h => ?_) (fun h => ?_) <;> (have h' := h; try simp only [sx] at h')))
      all_goals first
        | (exfalso; omega)
        | (refine q_next (i + 1, i) rfl (by refine ⟨?_, ?_, rfl, rfl⟩ <;> (repeat' (first | exact trivial | exact ⟨rfl, rfl⟩ | exact rfl | exact ⟨sub_fn, refs_fn⟩ | refine ⟨⟨rfl, rfl⟩, ?_⟩ | refine ⟨⟨sub_fn, refs_fn⟩, ?_⟩ | refine ⟨⟨rfl, fun h => Bool.noConfusion h⟩, ?_⟩ | refine ⟨⟨rfl, fun h => ?_⟩, ?_⟩ | refine ⟨rfl, ?_⟩ | refine ⟨?_, ?_⟩ | fail))) ⟨by simp only; omega, by simp only [e3]⟩ (by simp only; omega))
    · rw [if_neg aO] at e3
      repeat' (first | (refine pA (k := ?_)) | (refine g_exec ?_; refine x_nil (hK _ _ aI ?_); clear hK K) | (refine v_region (fun K hK => ?_)) | (refine v_condt rfl (fun h => ?_) (fun h => ?_) <;> (have h' := h; try simp only [sx] at h')))
      all_goals first
        | (exfalso; omega)
        | (refine q_next (i + 1, m) rfl (by refine ⟨?_, ?_, rfl, rfl⟩ <;> (repeat' (first | exact trivial | exact ⟨rfl, rfl⟩ | exact rfl | exact ⟨sub_fn, refs_fn⟩ | refine ⟨⟨rfl, rfl⟩, ?_⟩ | refine ⟨⟨sub_fn, refs_fn⟩, ?_⟩ | refine ⟨⟨rfl, fun h => Bool.noConfusion h⟩, ?_⟩ | refine ⟨⟨rfl, fun h => ?_⟩, ?_⟩ | refine ⟨rfl, ?_⟩ | refine ⟨?_, ?_⟩ | fail))) ⟨by simp only; omega, by simp only [e3]⟩ (by simp only; omega))
  · have : i = L.length := by omega
    subst this
    subst hm
    repeat' (first | (refine pA (k := ?_)) | (refine g_exec ?_; refine x_nil (hK _ _ aI ?_); clear hK K) | (refine v_region (fun K hK => ?_)) | (refine v_condt rfl (fun h => ?_) (fun h => ?_) <;> (have h' := h; try simp only [sx] at h')))
    exact ret_int rfl (lookE_ok rfl) rfl
def WkOk (b : Blz) (cs : List Cut) : Prop := SoOk b cs ∧ 1 ≤ cs.length
instance (b : Blz) (cs : List Cut) : Decidable (WkOk b cs) := by unfold WkOk; infer_instance
@[reducible] def wkI (b : Blz) (cs : List Cut) : Nat := amax (negAt (slL b cs)) (slL b cs).length
@[reducible] def wkRes (b : Blz) (cs : List Cut) : PV := .tuple [.int .i64 (if decide (WkOk b cs) = true then (wkI b cs : Nat) else 0), .int .i64 (if decide (WkOk b cs) = true then (slL b cs).getD (wkI b cs) 0 else 0), .bool (decide (WkOk b cs))]
theorem k_sWeakest (b : Blz) (cs : List Cut) (z : SzB b) (hm : cs.length ≤ 1099511627776) :
    Con Try.prog 13 [.agg b.t.pv, .list 2 (b.ps.map Phase.pv), .list 1 (ints b.src), .int .i64 b.st, .list 2 (cs.map Cut.pv)] (wkRes b cs) := by
  intro al
  refine contract_of hmix Try.func13 rfl (by kernel_rfl) (by kernel_rfl) (Nat.le_of_ble_eq_true rfl) (fun row h => by cases h) ?_
  have hty_a26 := ty_a26
  have hty_u27 := ty_u27
  have hty_s27 := ty_s27
  have hty_u24 := ty_u24
  have hty_s24 := ty_s24
  have hty_u30 := ty_u30
  have hty_s30 := ty_s30
  have hty_c3 := ty_c3
  have hl1 : (cs.map Cut.pv).length = cs.length := by simp
  have k1 := k_l4Asked b z
  have k2 := k_l25Good b.t cs z.hn hm
  by_cases hb : GoodB b
  · rw [decide_eq_true hb] at k1
    by_cases hc : GoodC b.t cs
    · rw [decide_eq_true hc] at k2
      have hcl := hc.2.2
      by_cases h1 : 1 ≤ cs.length
      · have hok : WkOk b cs := ⟨⟨hb, hc⟩, h1⟩
        have hll := slL_len b cs
        have hl2 : (ints (slL b cs)).length = cs.length := by rw [ints_len, hll]
        have hml := amax_lt (negAt (slL b cs)) (slL b cs).length aO
        obtain ⟨y, hy⟩ := get_ex hml
        have hya := ints_at hy
        have ey := getI hy
        have kW := k_l25Weakest (slL b cs) aO
        generalize hw : amax (negAt (slL b cs)) (slL b cs).length = w at *
        rw [wkRes, decide_eq_true hok, wkI, hw, ey]
        repeat' (first | (refine pA (k := ?_)) | (refine g_exec ?_; first | (refine g_call ?_; first | (refine x_callG true (k1) rfl rfl rfl aS rfl aH ?_; simp only [cl]) | (refine x_callG true (k2) rfl rfl rfl aS rfl aH ?_; simp only [cl]) | (refine x_callG true (k_l25Slacks b cs hb hc z.hs) rfl rfl rfl aS rfl aH ?_; simp only [cl]) | (refine x_callG true (kW) rfl rfl rfl aS rfl aH ?_; simp only [cl])) | (refine g_guard ?_; refine x_gsplit rfl rfl (fun h => ?_) (fun h => ?_) <;> (have h' := h; try simp only [sx] at h')) | (refine x_nil (hK _ _ aI ?_); clear hK K)) | (refine v_region (fun K hK => ?_)) | (refine v_condt rfl (fun h => ?_) (fun h => ?_) <;> (have h' := h; try simp only [sx] at h')))
        exact aR
      · have hok : ¬ WkOk b cs := fun h => h1 h.2
        rw [wkRes, decide_eq_false hok]
        repeat' (first | (refine pA (k := ?_)) | (refine g_exec ?_; first | (refine g_call ?_; first | (refine x_callG true (k1) rfl rfl rfl aS rfl aH ?_; simp only [cl]) | (refine x_callG true (k2) rfl rfl rfl aS rfl aH ?_; simp only [cl])) | (refine g_guard ?_; refine x_gsplit rfl rfl (fun h => ?_) (fun h => ?_) <;> (have h' := h; try simp only [sx] at h')) | (refine x_nil (hK _ _ aI ?_); clear hK K)) | (refine v_region (fun K hK => ?_)) | (refine v_condt rfl (fun h => ?_) (fun h => ?_) <;> (have h' := h; try simp only [sx] at h')))
        all_goals first | (exfalso; omega) | exact aR
    · rw [decide_eq_false hc] at k2
      have hok : ¬ WkOk b cs := fun h => hc h.1.2
      rw [wkRes, decide_eq_false hok]
      repeat' (first | (refine pA (k := ?_)) | (refine g_exec ?_; first | (refine g_call ?_; first | (refine x_callG true (k1) rfl rfl rfl aS rfl aH ?_; simp only [cl]) | (refine x_callG true (k2) rfl rfl rfl aS rfl aH ?_; simp only [cl])) | (refine g_guard ?_; refine x_gsplit rfl rfl (fun h => ?_) (fun h => ?_) <;> (have h' := h; try simp only [sx] at h')) | (refine x_nil (hK _ _ aI ?_); clear hK K)) | (refine v_region (fun K hK => ?_)) | (refine v_condt rfl (fun h => ?_) (fun h => ?_) <;> (have h' := h; try simp only [sx] at h')))
      exact aR
  · rw [decide_eq_false hb] at k1
    have hok : ¬ WkOk b cs := fun h => hb h.1.1
    rw [wkRes, decide_eq_false hok]
    repeat' (first | (refine pA (k := ?_)) | (refine g_exec ?_; first | (refine g_call ?_; first | (refine x_callG true (k1) rfl rfl rfl aS rfl aH ?_; simp only [cl]) | (refine x_callG true (k2) rfl rfl rfl aS rfl aH ?_; simp only [cl])) | (refine g_guard ?_; refine x_gsplit rfl rfl (fun h => ?_) (fun h => ?_) <;> (have h' := h; try simp only [sx] at h')) | (refine x_nil (hK _ _ aI ?_); clear hK K)) | (refine v_region (fun K hK => ?_)) | (refine v_condt rfl (fun h => ?_) (fun h => ?_) <;> (have h' := h; try simp only [sx] at h')))
    exact aR
theorem k_iWeakest (b : Blz) (cs : List Cut) (z : SzB b) (hm : cs.length ≤ 1099511627776) :
    Con Try.prog 12 [.agg b.t.pv, .list 2 (b.ps.map Phase.pv), .list 1 (ints b.src), .int .i64 b.st, .list 2 (cs.map Cut.pv)] (wkRes b cs) := by
  intro al
  refine contract_of hmix Try.func12 rfl (by kernel_rfl) (by kernel_rfl) (Nat.le_of_ble_eq_true rfl) (fun row h => by cases h) ?_
  have hty_a26 := ty_a26
  have hty_u27 := ty_u27
  have hty_s27 := ty_s27
  have hty_u24 := ty_u24
  have hty_s24 := ty_s24
  have hty_u30 := ty_u30
  have hty_s30 := ty_s30
  have hty_c3 := ty_c3
  have hl1 : (cs.map Cut.pv).length = cs.length := by simp
  have k1 := k_iSlacks b cs z hm
  by_cases hso : SoOk b cs
  · rw [soRes, decide_eq_true hso, soL, if_pos hso] at k1
    have hcl := hso.2.2.2
    have hll := slL_len b cs
    have hl2 : (ints (slL b cs)).length = cs.length := by rw [ints_len, hll]
    by_cases h1 : 1 ≤ cs.length
    · have hok : WkOk b cs := ⟨hso, h1⟩
      rw [wkRes, decide_eq_true hok, wkI]
      generalize slL b cs = L at *
      repeat' (first | (refine pA (k := ?_)) | (refine g_exec ?_; first | (refine g_call ?_; refine x_callG true (k1) rfl rfl rfl aS rfl aH ?_; simp only [cl]) | (refine g_guard ?_; refine x_gsplit rfl rfl (fun h => ?_) (fun h => ?_) <;> (have h' := h; try simp only [sx] at h')) | (refine x_nil (hK _ _ aI ?_); clear hK K)) | (refine v_region (fun K hK => ?_)) | (refine v_condt rfl (fun h => ?_) (fun h => ?_) <;> (have h' := h; try simp only [sx] at h')))
      all_goals try (exfalso; omega)
      refine v_loopK [13, 34, 35] [] (fun q : Nat × Nat => [(15, .int .i64 q.2), (36, .int .i64 q.1)]) (fun q : Nat × Nat => []) (fun q : Nat × Nat => q.1 ≤ L.length ∧ q.2 = amax (negAt L) q.1) (fun q : Nat × Nat => L.length - q.1) ((0, 0)) rfl rfl (fun _ => rfl) (fun _ => rfl) rfl (by refine ⟨?_, ?_, rfl, rfl⟩ <;> (repeat' (first | exact trivial | exact ⟨rfl, rfl⟩ | exact rfl | exact ⟨sub_fn, refs_fn⟩ | refine ⟨⟨rfl, rfl⟩, ?_⟩ | refine ⟨⟨sub_fn, refs_fn⟩, ?_⟩ | refine ⟨⟨rfl, fun h => Bool.noConfusion h⟩, ?_⟩ | refine ⟨⟨rfl, fun h => ?_⟩, ?_⟩ | refine ⟨rfl, ?_⟩ | refine ⟨?_, ?_⟩ | fail))) ⟨by simp, rfl⟩ (fun q hq => ?_)
      obtain ⟨i, m⟩ := q
      obtain ⟨hi, hm⟩ := hq
      simp only at hi hm
      dsimp only
      have hmL : m < L.length := by
        rcases Nat.eq_zero_or_pos i with h0 | h0
        · subst h0; rw [hm]; unfold amax; omega
        · have := amax_lt (negAt L) i h0; omega
      obtain ⟨y, hy⟩ := get_ex hmL
      have hya := ints_at hy
      rcases Nat.lt_or_ge i L.length with hlt | hge
      · obtain ⟨x, hx⟩ := get_ex hlt
        have hxa := ints_at hx
        have e1 : negAt L i = -x := by rw [negAt, getI hx]
        have e2 : negAt L (amax (negAt L) i) = -y := by rw [← hm, negAt, getI hy]
        have e3 : amax (negAt L) (i + 1) = if -x > -y then i else m := by rw [amax, e1, e2, ← hm]
        by_cases hc : x < y
        · rw [if_pos aO] at e3
          repeat' (first | (refine pA (k := ?_)) | (refine g_exec ?_; first | (refine g_guard ?_; refine x_gsplit rfl rfl (fun h => ?_) (fun h => ?_) <;> (have h' := h; try simp only [sx] at h')) | (refine x_nil (hK _ _ aI ?_); clear hK K)) | (refine v_region (fun K hK => ?_)) | (refine v_condt rfl (fun h => ?_) (fun h => ?_) <;> (have h' := h; try simp only [sx] at h')))
          all_goals first
            | (exfalso; omega)
            | (refine q_next (i + 1, i) rfl (by refine ⟨?_, ?_, rfl, rfl⟩ <;> (repeat' (first | exact trivial | exact ⟨rfl, rfl⟩ | exact rfl | exact ⟨sub_fn, refs_fn⟩ | refine ⟨⟨rfl, rfl⟩, ?_⟩ | refine ⟨⟨sub_fn, refs_fn⟩, ?_⟩ | refine ⟨⟨rfl, fun h => Bool.noConfusion h⟩, ?_⟩ | refine ⟨⟨rfl, fun h => ?_⟩, ?_⟩ | refine ⟨rfl, ?_⟩ | refine ⟨?_, ?_⟩ | fail))) ⟨by simp only; omega, by simp only [e3]⟩ (by simp only; omega))
        · rw [if_neg aO] at e3
          repeat' (first | (refine pA (k := ?_)) | (refine g_exec ?_; first | (refine g_guard ?_; refine x_gsplit rfl rfl (fun h => ?_) (fun h => ?_) <;> (have h' := h; try simp only [sx] at h')) | (refine x_nil (hK _ _ aI ?_); clear hK K)) | (refine v_region (fun K hK => ?_)) | (refine v_condt rfl (fun h => ?_) (fun h => ?_) <;> (have h' := h; try simp only [sx] at h')))
          all_goals first
            | (exfalso; omega)
            | (refine q_next (i + 1, m) rfl (by refine ⟨?_, ?_, rfl, rfl⟩ <;> (repeat' (first | exact trivial | exact ⟨rfl, rfl⟩ | exact rfl | exact ⟨sub_fn, refs_fn⟩ | refine ⟨⟨rfl, rfl⟩, ?_⟩ | refine ⟨⟨sub_fn, refs_fn⟩, ?_⟩ | refine ⟨⟨rfl, fun h => Bool.noConfusion h⟩, ?_⟩ | refine ⟨⟨rfl, fun h => ?_⟩, ?_⟩ | refine ⟨rfl, ?_⟩ | refine ⟨?_, ?_⟩ | fail))) ⟨by simp only; omega, by simp only [e3]⟩ (by simp only; omega))
      · have : i = L.length := by omega
        subst this
        have ey := getI hy
        rw [← hm, ey]
        repeat' (first | (refine pA (k := ?_)) | (refine g_exec ?_; first | (refine g_guard ?_; refine x_gsplit rfl rfl (fun h => ?_) (fun h => ?_) <;> (have h' := h; try simp only [sx] at h')) | (refine x_nil (hK _ _ aI ?_); clear hK K)) | (refine v_region (fun K hK => ?_)) | (refine v_condt rfl (fun h => ?_) (fun h => ?_) <;> (have h' := h; try simp only [sx] at h')))
        exact aR
    · have hok : ¬ WkOk b cs := fun h => h1 h.2
      rw [wkRes, decide_eq_false hok]
      repeat' (first | (refine pA (k := ?_)) | (refine g_exec ?_; first | (refine g_call ?_; refine x_callG true (k1) rfl rfl rfl aS rfl aH ?_; simp only [cl]) | (refine g_guard ?_; refine x_gsplit rfl rfl (fun h => ?_) (fun h => ?_) <;> (have h' := h; try simp only [sx] at h')) | (refine x_nil (hK _ _ aI ?_); clear hK K)) | (refine v_region (fun K hK => ?_)) | (refine v_condt rfl (fun h => ?_) (fun h => ?_) <;> (have h' := h; try simp only [sx] at h')))
      all_goals first | (exfalso; omega) | exact aR
  · rw [soRes, decide_eq_false hso, soL, if_neg hso] at k1
    have hok : ¬ WkOk b cs := fun h => hso h.1
    rw [wkRes, decide_eq_false hok]
    repeat' (first | (refine pA (k := ?_)) | (refine g_exec ?_; first | (refine g_call ?_; refine x_callG true (k1) rfl rfl rfl aS rfl aH ?_; simp only [cl]) | (refine g_guard ?_; refine x_gsplit rfl rfl (fun h => ?_) (fun h => ?_) <;> (have h' := h; try simp only [sx] at h')) | (refine x_nil (hK _ _ aI ?_); clear hK K)) | (refine v_region (fun K hK => ?_)) | (refine v_condt rfl (fun h => ?_) (fun h => ?_) <;> (have h' := h; try simp only [sx] at h')))
    exact aR
end
end Go.Vs
set_option linter.unusedVariables false
set_option linter.unusedSimpArgs false
set_option maxRecDepth 100000
set_option maxHeartbeats 4000000
namespace Go.Vs
open Go.Proofs
attribute [local irreducible] exec vwp thenQ blkQ loopQ RetPost
@[reducible] def dly (n : Int) (c : Cut) : Cut := ⟨c.cell, c.tick + n⟩
def TickC (cs : List Cut) (n : Int) : Prop := (∀ c ∈ cs, 0 ≤ c.tick ∧ c.tick ≤ 9999) ∧ cs.length ≤ 8 ∧ 0 ≤ n ∧ n ≤ 9999
theorem k_delayed (cs : List Cut) (n : Int) (h0 : TickC cs n) : Con Try.prog 37 [.list 2 (cs.map Cut.pv), .int .i64 n] (.olist 38 2 ((cs.map (dly n)).map Cut.pv)) := by
  intro al
  refine contract_of hmix Try.func37 rfl (by kernel_rfl) (by kernel_rfl) (Nat.le_of_ble_eq_true rfl) (fun row h => by cases h) ?_
  have hty_s30 := ty_s30
  have hty_u30 := ty_u30
  have hty_a38 := ty_a38
  have hty_z38 := ty_z38
  have hty_t38 := ty_t38
  have hty_f38_0 := ty_f38_0
  have hty_c3 := ty_c3
  have hty_f38_1 := ty_f38_1
  have hty_st38 := ty_st38
  have hl1 : (cs.map Cut.pv).length = cs.length := by simp
  have hcl := h0.2
  repeat' (first | (refine pA (k := ?_)) | (refine g_exec ?_; refine x_nil (hK _ _ aI ?_); clear hK K) | (refine v_region (fun K hK => ?_)) | (refine v_condt rfl (fun h => ?_) (fun h => ?_) <;> (have h' := h; try simp only [sx] at h')))
  refine v_loopK [1, 9, 10] [] (fun q : Nat × List (List PV) => [(5, .osl (1001, 0) 0 q.1), (11, .int .i64 q.1)]) (fun q : Nat × List (List PV) => [((1001, 0), some ⟨38, 2, q.2, false⟩)]) (fun q : Nat × List (List PV) => q.1 ≤ cs.length ∧ q.2 = ((cs.take q.1).map (dly n)).map Cut.pv) (fun q : Nat × List (List PV) => cs.length - q.1) ((0, [])) rfl rfl (fun _ => rfl) (fun _ => rfl) rfl (by refine ⟨?_, ?_, rfl, rfl⟩ <;> (repeat' (first | exact trivial | exact ⟨rfl, rfl⟩ | exact rfl | exact ⟨sub_fn, refs_fn⟩ | refine ⟨⟨rfl, rfl⟩, ?_⟩ | refine ⟨⟨sub_fn, refs_fn⟩, ?_⟩ | refine ⟨⟨rfl, fun h => Bool.noConfusion h⟩, ?_⟩ | refine ⟨⟨rfl, fun h => ?_⟩, ?_⟩ | refine ⟨rfl, ?_⟩ | refine ⟨?_, ?_⟩ | fail))) ⟨by simp, by simp⟩ (fun q hq => ?_)
  obtain ⟨i, es⟩ := q
  obtain ⟨hi1, hi2⟩ := hq
  simp only at hi1 hi2
  have hl : es.length = i := by rw [hi2]; simp; omega
  dsimp only
  rcases Nat.lt_or_ge i cs.length with hlt | hge
  · obtain ⟨a, hga⟩ := get_ex hlt
    have hx := Cut.at hga
    have hta := h0.1 a (get_mem hga)
    repeat' (first | (refine pA (k := ?_)) | (refine g_exec ?_; refine x_nil (hK _ _ aI ?_); clear hK K) | (refine v_region (fun K hK => ?_)) | (refine v_condt rfl (fun h => ?_) (fun h => ?_) <;> (have h' := h; try simp only [sx] at h')))
    refine q_next (i + 1, es ++ [[.int .i64 a.cell, .int .i64 (a.tick + n)]]) rfl (by refine ⟨?_, ?_, rfl, rfl⟩ <;> (repeat' (first | exact trivial | exact ⟨rfl, rfl⟩ | exact rfl | exact ⟨sub_fn, refs_fn⟩ | refine ⟨⟨rfl, rfl⟩, ?_⟩ | refine ⟨⟨sub_fn, refs_fn⟩, ?_⟩ | refine ⟨⟨rfl, fun h => Bool.noConfusion h⟩, ?_⟩ | refine ⟨⟨rfl, fun h => ?_⟩, ?_⟩ | refine ⟨rfl, ?_⟩ | refine ⟨?_, ?_⟩ | fail))) ⟨by simp only; omega, ?_⟩ (by simp only; omega)
    simp only [map_take_succ (dly n) hga, List.map_append, hi2, List.map_cons, List.map_nil]
  · repeat' (first | (refine pA (k := ?_)) | (refine g_exec ?_; refine x_nil (hK _ _ aI ?_); clear hK K) | (refine v_region (fun K hK => ?_)) | (refine v_condt rfl (fun h => ?_) (fun h => ?_) <;> (have h' := h; try simp only [sx] at h')))
    rw [take_all hge] at hi2
    exact ret_list rfl (lookE_ok (by rfl)) (by rfl) (by decide) hl.symm (by rw [hi2]; exact Cut.flat _) hi2
theorem k_l25Delay (cs : List Cut) (n : Int) (h0 : TickC cs n) : Con Try.prog 39 [.list 2 (cs.map Cut.pv), .int .i64 n] (.olist 38 2 ((cs.map (dly n)).map Cut.pv)) := by
  intro al
  refine contract_of hmix Try.func39 rfl (by kernel_rfl) (by kernel_rfl) (Nat.le_of_ble_eq_true rfl) (fun row h => by cases h) ?_
  have hty_s30 := ty_s30
  have hty_u30 := ty_u30
  have hty_f38_0 := ty_f38_0
  have hty_c3 := ty_c3
  have hty_f38_1 := ty_f38_1
  have hty_st38 := ty_st38
  have hl1 : (cs.map Cut.pv).length = cs.length := by simp
  have hcl := h0.2
  repeat' (first | (refine pA (k := ?_)) | (refine g_exec ?_; refine x_nil (hK _ _ aI ?_); clear hK K) | (refine v_region (fun K hK => ?_)) | (refine v_condt rfl (fun h => ?_) (fun h => ?_) <;> (have h' := h; try simp only [sx] at h')))
  refine v_loopK [0, 1] [] (fun q : Nat × List (List PV) => [(5, .osl (1001, 0) 0 q.1), (6, .int .i64 q.1)]) (fun q : Nat × List (List PV) => [((1001, 0), some ⟨38, 2, q.2, false⟩)]) (fun q : Nat × List (List PV) => q.1 ≤ cs.length ∧ q.2 = ((cs.take q.1).map (dly n)).map Cut.pv) (fun q : Nat × List (List PV) => cs.length - q.1) ((0, [])) rfl rfl (fun _ => rfl) (fun _ => rfl) rfl (by refine ⟨?_, ?_, rfl, rfl⟩ <;> (repeat' (first | exact trivial | exact ⟨rfl, rfl⟩ | exact rfl | exact ⟨sub_fn, refs_fn⟩ | refine ⟨⟨rfl, rfl⟩, ?_⟩ | refine ⟨⟨sub_fn, refs_fn⟩, ?_⟩ | refine ⟨⟨rfl, fun h => Bool.noConfusion h⟩, ?_⟩ | refine ⟨⟨rfl, fun h => ?_⟩, ?_⟩ | refine ⟨rfl, ?_⟩ | refine ⟨?_, ?_⟩ | fail))) ⟨by simp, by simp⟩ (fun q hq => ?_)
  obtain ⟨i, es⟩ := q
  obtain ⟨hi1, hi2⟩ := hq
  simp only at hi1 hi2
  have hl : es.length = i := by rw [hi2]; simp; omega
  dsimp only
  rcases Nat.lt_or_ge i cs.length with hlt | hge
  · obtain ⟨a, hga⟩ := get_ex hlt
    have hx := Cut.at hga
    have hta := h0.1 a (get_mem hga)
    repeat' (first | (refine pA (k := ?_)) | (refine g_exec ?_; refine x_nil (hK _ _ aI ?_); clear hK K) | (refine v_region (fun K hK => ?_)) | (refine v_condt rfl (fun h => ?_) (fun h => ?_) <;> (have h' := h; try simp only [sx] at h')))
    refine q_next (i + 1, es ++ [[.int .i64 a.cell, .int .i64 (a.tick + n)]]) rfl (by refine ⟨?_, ?_, rfl, rfl⟩ <;> (repeat' (first | exact trivial | exact ⟨rfl, rfl⟩ | exact rfl | exact ⟨sub_fn, refs_fn⟩ | refine ⟨⟨rfl, rfl⟩, ?_⟩ | refine ⟨⟨sub_fn, refs_fn⟩, ?_⟩ | refine ⟨⟨rfl, fun h => Bool.noConfusion h⟩, ?_⟩ | refine ⟨⟨rfl, fun h => ?_⟩, ?_⟩ | refine ⟨rfl, ?_⟩ | refine ⟨?_, ?_⟩ | fail))) ⟨by simp only; omega, ?_⟩ (by simp only; omega)
    simp only [map_take_succ (dly n) hga, List.map_append, hi2, List.map_cons, List.map_nil]
  · repeat' (first | (refine pA (k := ?_)) | (refine g_exec ?_; refine x_nil (hK _ _ aI ?_); clear hK K) | (refine v_region (fun K hK => ?_)) | (refine v_condt rfl (fun h => ?_) (fun h => ?_) <;> (have h' := h; try simp only [sx] at h')))
    rw [take_all hge] at hi2
    exact ret_list rfl (lookE_ok (by rfl)) (by rfl) (by decide) hl.symm (by rw [hi2]; exact Cut.flat _) hi2
def DcOk (t : Terrain) (cs : List Cut) (n : Int) : Prop := GoodC t cs ∧ (0 ≤ n ∧ n ≤ 9999) ∧ GoodC t (cs.map (dly n))
instance (t : Terrain) (cs : List Cut) (n : Int) : Decidable (DcOk t cs n) := by unfold DcOk; infer_instance
def dcL (t : Terrain) (cs : List Cut) (n : Int) : List Cut := if DcOk t cs n then cs.map (dly n) else []
theorem dcL_len (t : Terrain) (cs : List Cut) (n : Int) : (dcL t cs n).length ≤ cs.length := by unfold dcL; split <;> simp
theorem tickC {t : Terrain} {cs : List Cut} {n : Int} (h : GoodC t cs) (hn : 0 ≤ n ∧ n ≤ 9999) : TickC cs n := ⟨fun c hc => (h.2.one c hc).2.2, h.2.2, hn⟩
@[reducible] def dcRes (t : Terrain) (cs : List Cut) (n : Int) : PV := .tuple [.olist 38 2 ((dcL t cs n).map Cut.pv), .bool (decide (DcOk t cs n))]
theorem k_sDelay (t : Terrain) (cs : List Cut) (n : Int) (hn : t.burn.length ≤ 1099511627776) (hm : cs.length ≤ 1099511627776) : Con Try.prog 18 [.agg t.pv, .list 2 (cs.map Cut.pv), .int .i64 n] (dcRes t cs n) := by
  intro al
  refine contract_of hmix Try.func18 rfl (by kernel_rfl) (by kernel_rfl) (Nat.le_of_ble_eq_true rfl) (fun row h => by cases h) ?_
  have hty_a26 := ty_a26
  have hty_u30 := ty_u30
  have hty_s30 := ty_s30
  have k1 := k_l25Good t cs hn hm
  have hfl := Cut.flat (cs.map (dly n))
  by_cases hg : GoodC t cs
  · rw [decide_eq_true hg] at k1
    by_cases hb : 0 ≤ n ∧ n ≤ 9999
    · have h2 := k_l25Good t (cs.map (dly n)) hn (by rw [List.length_map]; exact hm)
      by_cases hd : GoodC t (cs.map (dly n))
      · rw [decide_eq_true hd] at h2
        have hok : DcOk t cs n := ⟨hg, hb, hd⟩
        rw [dcRes, decide_eq_true hok, dcL, if_pos hok]
        repeat' (first | (refine pA (k := ?_)) | (refine g_exec ?_; first | (refine g_call ?_; first | (refine x_callG true (k1) rfl rfl rfl aS rfl aH ?_; simp only [cl]) | (refine x_callG true (k_l4Tick _) rfl rfl rfl aS rfl aH ?_; simp only [cl]) | (refine x_callG true (h2) rfl rfl rfl aS rfl aH ?_; simp only [cl]) | (refine x_callG true (k_l25Delay cs n (tickC hg hb)) rfl rfl rfl aS rfl aH ?_; simp only [cl])) | (refine g_guard ?_; refine x_gsplit rfl rfl (fun h => ?_) (fun h => ?_) <;> (have h' := h; try simp only [sx] at h')) | (refine x_nil (hK _ _ aI ?_); clear hK K)) | (refine v_region (fun K hK => ?_)) | (refine v_condt rfl (fun h => ?_) (fun h => ?_) <;> (have h' := h; try simp only [sx] at h')))
        exact aR
      · rw [decide_eq_false hd] at h2
        have hok : ¬ DcOk t cs n := fun h => hd h.2.2
        rw [dcRes, decide_eq_false hok, dcL, if_neg hok]
        repeat' (first | (refine pA (k := ?_)) | (refine g_exec ?_; first | (refine g_call ?_; first | (refine x_callG true (k1) rfl rfl rfl aS rfl aH ?_; simp only [cl]) | (refine x_callG true (k_l4Tick _) rfl rfl rfl aS rfl aH ?_; simp only [cl]) | (refine x_callG true (h2) rfl rfl rfl aS rfl aH ?_; simp only [cl]) | (refine x_callG true (k_l25Delay cs n (tickC hg hb)) rfl rfl rfl aS rfl aH ?_; simp only [cl])) | (refine g_guard ?_; refine x_gsplit rfl rfl (fun h => ?_) (fun h => ?_) <;> (have h' := h; try simp only [sx] at h')) | (refine x_nil (hK _ _ aI ?_); clear hK K)) | (refine v_region (fun K hK => ?_)) | (refine v_condt rfl (fun h => ?_) (fun h => ?_) <;> (have h' := h; try simp only [sx] at h')))
        exact aR
    · have hok : ¬ DcOk t cs n := fun h => hb h.2.1
      rw [dcRes, decide_eq_false hok, dcL, if_neg hok]
      repeat' (first | (refine pA (k := ?_)) | (refine g_exec ?_; first | (refine g_call ?_; first | (refine x_callG true (k1) rfl rfl rfl aS rfl aH ?_; simp only [cl]) | (refine x_callG true (k_l4Tick _) rfl rfl rfl aS rfl aH ?_; simp only [cl])) | (refine g_guard ?_; refine x_gsplit rfl rfl (fun h => ?_) (fun h => ?_) <;> (have h' := h; try simp only [sx] at h')) | (refine x_nil (hK _ _ aI ?_); clear hK K)) | (refine v_region (fun K hK => ?_)) | (refine v_condt rfl (fun h => ?_) (fun h => ?_) <;> (have h' := h; try simp only [sx] at h')))
      all_goals first | exact aR | (exfalso; omega)
  · rw [decide_eq_false hg] at k1
    have hok : ¬ DcOk t cs n := fun h => hg h.1
    rw [dcRes, decide_eq_false hok, dcL, if_neg hok]
    repeat' (first | (refine pA (k := ?_)) | (refine g_exec ?_; first | (refine g_call ?_; first | (refine x_callG true (k1) rfl rfl rfl aS rfl aH ?_; simp only [cl]) | (refine x_callG true (k_l4Tick _) rfl rfl rfl aS rfl aH ?_; simp only [cl])) | (refine g_guard ?_; refine x_gsplit rfl rfl (fun h => ?_) (fun h => ?_) <;> (have h' := h; try simp only [sx] at h')) | (refine x_nil (hK _ _ aI ?_); clear hK K)) | (refine v_region (fun K hK => ?_)) | (refine v_condt rfl (fun h => ?_) (fun h => ?_) <;> (have h' := h; try simp only [sx] at h')))
    all_goals exact aR
theorem k_iDelay (t : Terrain) (cs : List Cut) (n : Int) (hn : t.burn.length ≤ 1099511627776) (hm : cs.length ≤ 1099511627776) : Con Try.prog 17 [.agg t.pv, .list 2 (cs.map Cut.pv), .int .i64 n] (dcRes t cs n) := by
  intro al
  refine contract_of hmix Try.func17 rfl (by kernel_rfl) (by kernel_rfl) (Nat.le_of_ble_eq_true rfl) (fun row h => by cases h) ?_
  have hty_a26 := ty_a26
  have hty_u30 := ty_u30
  have hty_s30 := ty_s30
  have k1 := k_iAreCuts t cs hn hm
  have hfl := Cut.flat (cs.map (dly n))
  by_cases hg : GoodC t cs
  · rw [decide_eq_true hg] at k1
    by_cases hb : 0 ≤ n ∧ n ≤ 9999
    · have h2 := k_iAreCuts t (cs.map (dly n)) hn (by rw [List.length_map]; exact hm)
      by_cases hd : GoodC t (cs.map (dly n))
      · rw [decide_eq_true hd] at h2
        have hok : DcOk t cs n := ⟨hg, hb, hd⟩
        rw [dcRes, decide_eq_true hok, dcL, if_pos hok]
        repeat' (first | (refine pA (k := ?_)) | (refine g_exec ?_; first | (refine g_call ?_; first | (refine x_callG true (k1) rfl rfl rfl aS rfl aH ?_; simp only [cl]) | (refine x_callG true (k_isTick _) rfl rfl rfl aS rfl aH ?_; simp only [cl]) | (refine x_callG true (h2) rfl rfl rfl aS rfl aH ?_; simp only [cl]) | (refine x_callG true (k_delayed cs n (tickC hg hb)) rfl rfl rfl aS rfl aH ?_; simp only [cl])) | (refine g_guard ?_; refine x_gsplit rfl rfl (fun h => ?_) (fun h => ?_) <;> (have h' := h; try simp only [sx] at h')) | (refine x_nil (hK _ _ aI ?_); clear hK K)) | (refine v_region (fun K hK => ?_)) | (refine v_condt rfl (fun h => ?_) (fun h => ?_) <;> (have h' := h; try simp only [sx] at h')))
        exact aR
      · rw [decide_eq_false hd] at h2
        have hok : ¬ DcOk t cs n := fun h => hd h.2.2
        rw [dcRes, decide_eq_false hok, dcL, if_neg hok]
        repeat' (first | (refine pA (k := ?_)) | (refine g_exec ?_; first | (refine g_call ?_; first | (refine x_callG true (k1) rfl rfl rfl aS rfl aH ?_; simp only [cl]) | (refine x_callG true (k_isTick _) rfl rfl rfl aS rfl aH ?_; simp only [cl]) | (refine x_callG true (h2) rfl rfl rfl aS rfl aH ?_; simp only [cl]) | (refine x_callG true (k_delayed cs n (tickC hg hb)) rfl rfl rfl aS rfl aH ?_; simp only [cl])) | (refine g_guard ?_; refine x_gsplit rfl rfl (fun h => ?_) (fun h => ?_) <;> (have h' := h; try simp only [sx] at h')) | (refine x_nil (hK _ _ aI ?_); clear hK K)) | (refine v_region (fun K hK => ?_)) | (refine v_condt rfl (fun h => ?_) (fun h => ?_) <;> (have h' := h; try simp only [sx] at h')))
        exact aR
    · have hok : ¬ DcOk t cs n := fun h => hb h.2.1
      rw [dcRes, decide_eq_false hok, dcL, if_neg hok]
      repeat' (first | (refine pA (k := ?_)) | (refine g_exec ?_; first | (refine g_call ?_; first | (refine x_callG true (k1) rfl rfl rfl aS rfl aH ?_; simp only [cl]) | (refine x_callG true (k_isTick _) rfl rfl rfl aS rfl aH ?_; simp only [cl])) | (refine g_guard ?_; refine x_gsplit rfl rfl (fun h => ?_) (fun h => ?_) <;> (have h' := h; try simp only [sx] at h')) | (refine x_nil (hK _ _ aI ?_); clear hK K)) | (refine v_region (fun K hK => ?_)) | (refine v_condt rfl (fun h => ?_) (fun h => ?_) <;> (have h' := h; try simp only [sx] at h')))
      all_goals first | exact aR | (exfalso; omega)
  · rw [decide_eq_false hg] at k1
    have hok : ¬ DcOk t cs n := fun h => hg h.1
    rw [dcRes, decide_eq_false hok, dcL, if_neg hok]
    repeat' (first | (refine pA (k := ?_)) | (refine g_exec ?_; first | (refine g_call ?_; first | (refine x_callG true (k1) rfl rfl rfl aS rfl aH ?_; simp only [cl]) | (refine x_callG true (k_isTick _) rfl rfl rfl aS rfl aH ?_; simp only [cl])) | (refine g_guard ?_; refine x_gsplit rfl rfl (fun h => ?_) (fun h => ?_) <;> (have h' := h; try simp only [sx] at h')) | (refine x_nil (hK _ _ aI ?_); clear hK K)) | (refine v_region (fun K hK => ?_)) | (refine v_condt rfl (fun h => ?_) (fun h => ?_) <;> (have h' := h; try simp only [sx] at h')))
    all_goals exact aR
end Go.Vs
set_option linter.unusedVariables false
set_option linter.unusedSimpArgs false
set_option maxRecDepth 100000
set_option maxHeartbeats 4000000
namespace Go.Vs
open Go.Proofs
theorem arr_len {b : Blz} (hb : GoodB b) : (arr b).length = b.t.burn.length := (arr_ok hb).2.pre.len
end Go.Vs
set_option linter.unusedVariables false
set_option linter.unusedSimpArgs false
set_option maxRecDepth 100000
set_option maxHeartbeats 4000000
namespace Go.Vs
open Go.Proofs
attribute [local irreducible] exec vwp thenQ blkQ loopQ RetPost
noncomputable def arL (b : Blz) : List Int := if GoodB b then arr b else []
theorem k_sArr (b : Blz) (z : SzB b) : Con Try.prog 10 [.agg b.t.pv, .list 2 (b.ps.map Phase.pv), .list 1 (ints b.src), .int .i64 b.st] (.tuple [.olist 3 1 (ints (arL b)), .bool (decide (GoodB b))]) := by
  intro al
  refine contract_of hmix Try.func10 rfl (by kernel_rfl) (by kernel_rfl) (Nat.le_of_ble_eq_true rfl) (fun row h => by cases h) ?_
  have hty_a26 := ty_a26
  have hty_u27 := ty_u27
  have hty_s27 := ty_s27
  have hty_u24 := ty_u24
  have hty_s24 := ty_s24
  have k1 := k_l4Asked b z
  by_cases hb : GoodB b
  · rw [arL, if_pos hb, decide_eq_true hb]
    rw [decide_eq_true hb] at k1
    repeat' (first | (refine pA (k := ?_)) | (refine g_exec ?_; first | (refine g_call ?_; first | (refine x_callG true (k1) rfl rfl rfl aS rfl aH ?_; simp only [cl]) | (refine x_callG true (k_l4Arrivals b hb z.hs) rfl rfl rfl aS rfl aH ?_; simp only [cl])) | (refine x_nil (hK _ _ aI ?_); clear hK K)) | (refine v_region (fun K hK => ?_)) | (refine v_condt rfl (fun h => ?_) (fun h => ?_) <;> (have h' := h; try simp only [sx] at h')))
    all_goals first
      | (exfalso; omega)
      | exact aR
  · rw [arL, if_neg hb, decide_eq_false hb]
    rw [decide_eq_false hb] at k1
    repeat' (first | (refine pA (k := ?_)) | (refine g_exec ?_; first | (refine g_call ?_; refine x_callG true (k1) rfl rfl rfl aS rfl aH ?_; simp only [cl]) | (refine x_nil (hK _ _ aI ?_); clear hK K)) | (refine v_region (fun K hK => ?_)) | (refine v_condt rfl (fun h => ?_) (fun h => ?_) <;> (have h' := h; try simp only [sx] at h')))
    all_goals first
      | (exfalso; omega)
      | exact aR
def WdOk (ps : List Phase) (t w : Int) : Prop := GoodP ps ∧ (0 ≤ t ∧ t ≤ 9999) ∧ (0 ≤ w ∧ w ≤ 1000) ∧ dn (spF ps) t w ≤ 9999
instance (ps : List Phase) (t w : Int) : Decidable (WdOk ps t w) := by unfold WdOk; infer_instance
end Go.Vs
set_option linter.unusedVariables false
set_option linter.unusedSimpArgs false
set_option maxRecDepth 100000
set_option maxHeartbeats 4000000
namespace Go.Vs
open Go.Proofs
attribute [local irreducible] exec vwp thenQ blkQ loopQ RetPost
theorem k_vBig (code : List Int) (g : code.length ≤ 9223372036854775807) : Con Try.prog 4 [.list 1 (bytesP code)] (.bool (decide (65536 < code.length))) := by
  intro al
  refine contract_of hmix Try.func4 rfl (by kernel_rfl) (by kernel_rfl) (Nat.le_of_ble_eq_true rfl) (fun row h => by cases h) ?_
  have hty_u22 := ty_u22
  have hty_s22 := ty_s22
  have hl1 : (bytesP code).length = code.length := by simp
  repeat' (first | (refine pA (k := ?_)) | (refine g_exec ?_; refine x_nil (hK _ _ aI ?_); clear hK K) | (refine v_region (fun K hK => ?_)))
  all_goals (refine ret_bool rfl (lookE_ok rfl) ?_; first | rfl | (simp; omega))
theorem k_vIntsS (xs : List Int) (hn : xs.length ≤ 1099511627776) : Con Try.prog 15 [.list 1 (ints xs), .list 1 (ints xs)] (.bool true) := by
  intro al
  refine contract_of hmix Try.func15 rfl (by kernel_rfl) (by kernel_rfl) (Nat.le_of_ble_eq_true rfl) (fun row h => by cases h) ?_
  have hty_u24 := ty_u24
  have hty_s24 := ty_s24
  have hty_c3 := ty_c3
  have hl1 : (ints xs).length = xs.length := by simp
  repeat' (first | (refine pA (k := ?_)) | (refine g_exec ?_; refine x_nil (hK _ _ aI ?_); clear hK K) | (refine v_region (fun K hK => ?_)) | (refine v_condt rfl (fun h => ?_) (fun h => ?_) <;> (have h' := h; try simp only [sx] at h')))
  all_goals try (exfalso; omega)
  refine v_loopK [0, 1] [] (fun i : Nat => [(5, .int .i64 i)]) (fun i : Nat => []) (fun i : Nat => i ≤ xs.length) (fun i : Nat => xs.length - i) (0) rfl rfl (fun _ => rfl) (fun _ => rfl) rfl (by refine ⟨?_, ?_, rfl, rfl⟩ <;> (repeat' (first | exact trivial | exact ⟨rfl, rfl⟩ | exact rfl | exact ⟨sub_fn, refs_fn⟩ | refine ⟨⟨rfl, rfl⟩, ?_⟩ | refine ⟨⟨sub_fn, refs_fn⟩, ?_⟩ | refine ⟨⟨rfl, fun h => Bool.noConfusion h⟩, ?_⟩ | refine ⟨⟨rfl, fun h => ?_⟩, ?_⟩ | refine ⟨rfl, ?_⟩ | refine ⟨?_, ?_⟩ | fail))) aO (fun i hi => ?_)
  rcases Nat.lt_or_ge i xs.length with hlt | hge
  · obtain ⟨a, ha⟩ := get_ex hlt
    have hx := ints_at ha
    repeat' (first | (refine pA (k := ?_)) | (refine g_exec ?_; refine x_nil (hK _ _ aI ?_); clear hK K) | (refine v_region (fun K hK => ?_)) | (refine v_condt rfl (fun h => ?_) (fun h => ?_) <;> (have h' := h; try simp only [sx] at h')))
    all_goals first
      | (exfalso; omega)
      | (refine q_next (i + 1) rfl (by refine ⟨?_, ?_, rfl, rfl⟩ <;> (repeat' (first | exact trivial | exact ⟨rfl, rfl⟩ | exact rfl | exact ⟨sub_fn, refs_fn⟩ | refine ⟨⟨rfl, rfl⟩, ?_⟩ | refine ⟨⟨sub_fn, refs_fn⟩, ?_⟩ | refine ⟨⟨rfl, fun h => Bool.noConfusion h⟩, ?_⟩ | refine ⟨⟨rfl, fun h => ?_⟩, ?_⟩ | refine ⟨rfl, ?_⟩ | refine ⟨?_, ?_⟩ | fail))) aO aO)
      | (exfalso; simp at *; done)
  · repeat' (first | (refine pA (k := ?_)) | (refine g_exec ?_; refine x_nil (hK _ _ aI ?_); clear hK K) | (refine v_region (fun K hK => ?_)) | (refine v_condt rfl (fun h => ?_) (fun h => ?_) <;> (have h' := h; try simp only [sx] at h')))
    all_goals first
      | (exfalso; omega)
      | exact ret_bool rfl (lookE_ok rfl) rfl
end Go.Vs
set_option linter.unusedVariables false
set_option linter.unusedSimpArgs false
namespace Go.Vs
def IntG (P : Program) (f : Field) (k : Nat) : Prop := f.offset = k ∧ f.name ≠ "_" ∧ P.plainKey f.type = true ∧ P.underlying f.type = some (.int .i64)
def Int2 (P : Program) (T : TypeId) : Prop := ∃ f0 f1 : Field, P.underlying T = some (.struct #[f0, f1]) ∧ IntG P f0 0 ∧ IntG P f1 1 ∧ P.stoodInHeld T = false ∧ P.eqGuardType P.depth T = false
theorem run_ne2 {P : Program} {T : TypeId} (h : Int2 P T) (w : World) (a0 a1 b0 b1 : Int) :
    (binOp .neq T (.agg #[.int .i64 a0, .int .i64 a1]) (.agg #[.int .i64 b0, .int .i64 b1])).run P w = .ok (.bool (!((a0 == b0) && (a1 == b1)))) w := by
  obtain ⟨f0, f1, hu, ⟨o0, n0, p0, u0⟩, ⟨o1, n1, p1, u1⟩, hh, hg⟩ := h
  have hf : P.fieldsOf T = #[f0, f1] := by simp [Program.fieldsOf, hu]
  rw [run_neq_struct w T, run_equalIn_struct w 9999 T _ _ (by rw [hf]; exact hu) hh, hf]
  have g0 : ∀ x0 x1 : Int, (part f0.type #[.int .i64 x0, .int .i64 x1] f0.offset).run P w = .ok (.int .i64 x0) w := fun x0 x1 => run_part_plain (P := P) w p0 (by rw [o0]; rfl)
  have g1 : ∀ x0 x1 : Int, (part f1.type #[.int .i64 x0, .int .i64 x1] f1.offset).run P w = .ok (.int .i64 x1) w := fun x0 x1 => run_part_plain (P := P) w p1 (by rw [o1]; rfl)
  have e0 : ∀ (t : TypeId), P.underlying t = some (.int .i64) → ∀ a b : Int, (Op.equalIn 9999 t (.int .i64 a) (.int .i64 b)).run P w = .ok (a == b) w := fun t ht a b => run_equalIn_int (P := P) w 9998 t .i64 .i64 a b ht
  simp only [Op.eqFields, n0, n1, ne_eq, not_false_eq_true, if_true, Sem.run_bind, g0, g1, Result.andThen_ok, e0 _ u0, e0 _ u1]
  cases h0 : (a0 == b0) <;> cases h1 : (a1 == b1) <;> simp [g1, e0 _ u1, h1, n1, Op.eqFields]
section
variable {P : Program} {ops : Array Oper} {draw : Bool} {rest : List Oper} {env : List (Nat × PV)} {mem : List (Id × Option Row)} {tr : List (List Id × List Id)} {K : St → List (List Id × List Id) → Prop}
  {d : Nat} {ty : TypeId} {pos : String} {af : Array Edge} {x y : Operand} {T yT : TypeId}
theorem rep_int2 {ρ : Id → Option (Nat × Nat)} {w : World} {S : Nat → Prop} {M : Mem} {v : Value} {a b : Int} (h : Rep ρ w S M v (.agg [.int .i64 a, .int .i64 b])) : v = .agg #[.int .i64 a, .int .i64 b] := by
  obtain ⟨cs, rfl, hs, hc⟩ := rep_agg.1 h
  obtain ⟨c0, e0, r0⟩ := hc 0 _ rfl
  obtain ⟨c1, e1, r1⟩ := hc 1 _ rfl
  rw [rep_int.1 r0] at e0
  rw [rep_int.1 r1] at e1
  congr 1
  apply Array.ext
  · simpa using hs
  · intro i h1 h2
    have h3 : i < 2 := by simpa using h2
    match i, h3 with
    | 0, _ => obtain ⟨_, e⟩ := Array.getElem?_eq_some_iff.1 e0; simpa using e
    | 1, _ => obtain ⟨_, e⟩ := Array.getElem?_eq_some_iff.1 e1; simpa using e
theorem x_aggNe2 {a0 a1 b0 b1 : Int} (hT : Int2 P T) (hx : ev (getE env) x = .agg [.int .i64 a0, .int .i64 a1]) (hy : ev (getE env) y = .agg [.int .i64 b0, .int .i64 b1])
    (hk : exec P ops draw rest ⟨(d, .bool (!((a0 == b0) && (a1 == b1)))) :: env, mem⟩ (([], []) :: tr) K) : exec P ops draw (⟨some d, .binOp .neq T x y yT, ty, pos, af, none⟩ :: rest) ⟨env, mem⟩ tr K := by
  refine x_sem ⟨.bool (!((a0 == b0) && (a1 == b1))), [], []⟩ rfl ?_ hk
  refine sem_of_res fun V' M' hV' hM' G ρ w0 X a w hW hV => ?_
  have h1 := rep_ev hV x
  have h2 := rep_ev hV y
  rw [hV' x (by simp [Op.operands])] at h1
  rw [hV' y (by simp [Op.operands])] at h2
  have e1 := rep_int2 (by rw [← hx]; exact h1)
  have e2 := rep_int2 (by rw [← hy]; exact h2)
  refine OpRes.quiet hW (v := .bool (!((a0 == b0) && (a1 == b1)))) ?_ (rep_bool.2 rfl)
  obtain ⟨f0, f1, hu, q0, q1, hh, hg⟩ := id hT
  simp only [execOp, e1, e2, Sem.run_bind, run_eqGuard_agg w .neq T x y _ _ hg, Result.andThen_ok, run_ne2 hT w, Sem.run_pure]
end
end Go.Vs
set_option linter.unusedVariables false
set_option linter.unusedSimpArgs false
set_option maxRecDepth 100000
set_option maxHeartbeats 4000000
namespace Go.Vs
open Go.Proofs
attribute [local irreducible] exec vwp thenQ blkQ loopQ RetPost
theorem int2_cut : Int2 Try.prog 38 := ⟨_, _, Try.underlying38, ⟨rfl, by decide, by kernel_rfl, Try.underlying3⟩, ⟨rfl, by decide, by kernel_rfl, Try.underlying3⟩, by kernel_rfl, by kernel_rfl⟩
theorem k_vCuts (xs : List Cut) (hn : xs.length ≤ 1099511627776) : Con Try.prog 8 [.list 2 (xs.map Cut.pv), .list 2 (xs.map Cut.pv)] (.bool true) := by
  intro al
  refine contract_of hmix Try.func8 rfl (by kernel_rfl) (by kernel_rfl) (Nat.le_of_ble_eq_true rfl) (fun row h => by cases h) ?_
  have hty_u30 := ty_u30
  have hty_s30 := ty_s30
  have hty_a38 := ty_a38
  have hI2 := int2_cut
  have hl1 : (xs.map Cut.pv).length = xs.length := by simp
  repeat' (first | (refine g_exec ?_; refine x_aggNe2 aA rfl rfl ?_) | (refine pA (k := ?_)) | (refine g_exec ?_; refine x_nil (hK _ _ aI ?_); clear hK K) | (refine v_region (fun K hK => ?_)) | (refine v_condt rfl (fun h => ?_) (fun h => ?_) <;> (have h' := h; try simp only [sx] at h')))
  all_goals try (exfalso; omega)
  refine v_loopK [0, 1] [] (fun i : Nat => [(5, .int .i64 i)]) (fun i : Nat => []) (fun i : Nat => i ≤ xs.length) (fun i : Nat => xs.length - i) (0) rfl rfl (fun _ => rfl) (fun _ => rfl) rfl (by refine ⟨?_, ?_, rfl, rfl⟩ <;> (repeat' (first | exact trivial | exact ⟨rfl, rfl⟩ | exact rfl | exact ⟨sub_fn, refs_fn⟩ | refine ⟨⟨rfl, rfl⟩, ?_⟩ | refine ⟨⟨sub_fn, refs_fn⟩, ?_⟩ | refine ⟨⟨rfl, fun h => Bool.noConfusion h⟩, ?_⟩ | refine ⟨⟨rfl, fun h => ?_⟩, ?_⟩ | refine ⟨rfl, ?_⟩ | refine ⟨?_, ?_⟩ | fail))) aO (fun i hi => ?_)
  rcases Nat.lt_or_ge i xs.length with hlt | hge
  · obtain ⟨a, ha⟩ := get_ex hlt
    have hx := Cut.at ha
    repeat' (first | (refine g_exec ?_; refine x_aggNe2 aA rfl rfl ?_) | (refine pA (k := ?_)) | (refine g_exec ?_; refine x_nil (hK _ _ aI ?_); clear hK K) | (refine v_region (fun K hK => ?_)) | (refine v_condt rfl (fun h => ?_) (fun h => ?_) <;> (have h' := h; try simp only [sx] at h')))
    all_goals first
      | (exfalso; omega)
      | (exfalso; simp at *; done)
      | (refine q_next (i + 1) rfl (by refine ⟨?_, ?_, rfl, rfl⟩ <;> (repeat' (first | exact trivial | exact ⟨rfl, rfl⟩ | exact rfl | exact ⟨sub_fn, refs_fn⟩ | refine ⟨⟨rfl, rfl⟩, ?_⟩ | refine ⟨⟨sub_fn, refs_fn⟩, ?_⟩ | refine ⟨⟨rfl, fun h => Bool.noConfusion h⟩, ?_⟩ | refine ⟨⟨rfl, fun h => ?_⟩, ?_⟩ | refine ⟨rfl, ?_⟩ | refine ⟨?_, ?_⟩ | fail))) aO aO)
  · repeat' (first | (refine g_exec ?_; refine x_aggNe2 aA rfl rfl ?_) | (refine pA (k := ?_)) | (refine g_exec ?_; refine x_nil (hK _ _ aI ?_); clear hK K) | (refine v_region (fun K hK => ?_)) | (refine v_condt rfl (fun h => ?_) (fun h => ?_) <;> (have h' := h; try simp only [sx] at h')))
    all_goals first
      | (exfalso; omega)
      | exact ret_bool rfl (lookE_ok rfl) rfl
theorem BlzB.zc {b : Blz} (h : BlzB b) : SzB b := by
  have h1 := h.t.2.2
  have h2 := h.ps
  have h3 := h.src
  constructor <;> omega
theorem amax_before (f : Nat → Int) : ∀ (n i : Nat), i < amax f n → f i < f (amax f n) := by
  have hge : ∀ (n i : Nat), i < n → f i ≤ f (amax f n) := by
    intro n
    induction n with
    | zero => intro i h; omega
    | succ n ih =>
      intro i h
      rw [amax]
      split
      · rename_i hc
        rcases Nat.lt_or_ge i n with h1 | h1
        · have := ih i h1; omega
        · have : i = n := by omega
          rw [this]; omega
      · rename_i hc
        rcases Nat.lt_or_ge i n with h1 | h1
        · exact ih i h1
        · have : i = n := by omega
          rw [this]; omega
  intro n
  induction n with
  | zero => intro i h; simp [amax] at h
  | succ n ih =>
    intro i h
    rw [amax] at h ⊢
    split at h
    · rename_i hc
      rw [if_pos hc]
      have := hge n i h
      omega
    · rename_i hc
      rw [if_neg hc]
      exact ih i h
theorem amax_geC (f : Nat → Int) : ∀ (n i : Nat), i < n → f i ≤ f (amax f n) := by
  intro n
  induction n with
  | zero => intro i h; omega
  | succ n ih =>
    intro i h
    rw [amax]
    split
    · rename_i hc
      rcases Nat.lt_or_ge i n with h1 | h1
      · have := ih i h1; omega
      · have : i = n := by omega
        rw [this]; omega
    · rename_i hc
      rcases Nat.lt_or_ge i n with h1 | h1
      · exact ih i h1
      · have : i = n := by omega
        rw [this]; omega
structure CuF (b : Blz) (zs : List Int) (lc : List Cut) (sl T : List Int) : Prop where
  lenS : sl.length = zs.length
  lenC : lc.length = zs.length
  lenT : T.length = b.t.burn.length
  cell : ∀ c ∈ zs, IsCell b.t c
  at_ : ∀ (i : Nat) c, zs[i]? = some c → (tv T c = -1 ∧ sl[i]? = some 9999 ∧ lc[i]? = some ⟨c, 9999⟩) ∨ (tv T c ≠ -1 ∧ sl[i]? = some 1)
theorem cuF_all {b : Blz} {zs : List Int} (h : LtOk b zs) : SoOk b (lcL b zs) ∧ GoodB b ∧ CuF b zs (lcL b zs) (soL b (lcL b zs)) (arL b) := by
  have e1 : lcL b zs = ltL b zs := by unfold lcL; rw [if_pos h]
  have hs : SoOk b (lcL b zs) := by rw [e1]; exact ⟨h.1, h.2.2⟩
  have e2 : soL b (lcL b zs) = slL b (ltL b zs) := by unfold soL; rw [if_pos hs, e1]
  have e3 : arL b = arr b := by unfold arL; rw [if_pos h.1]
  refine ⟨hs, h.1, ?_⟩
  rw [e2, e3, e1]
  refine ⟨by rw [slL_len, ltL_len], ltL_len b zs, arr_len h.1, h.2.1.1, fun i c hc => ?_⟩
  have hl : (ltL b zs)[i]? = some (ltF b c) := by simp [ltL, hc]
  have hsl : (slL b (ltL b zs))[i]? = some (slF b (ltF b c)) := by simp [slL, hl]
  by_cases hv : tv (arr b) c = -1
  · have e4 : (ltF b c).tick = 9999 := by unfold ltF; exact if_pos hv
    have e5 : slF b (ltF b c) = 9999 := by unfold slF; exact if_pos hv
    refine .inl ⟨hv, by rw [hsl, e5], ?_⟩
    rw [hl]
    congr 1
    show (⟨c, (ltF b c).tick⟩ : Cut) = _
    rw [e4]
  · have e4 : (ltF b c).tick = tv (arr b) c - 1 := by unfold ltF; exact if_neg hv
    have e5 : slF b (ltF b c) = tv (arr b) c - (ltF b c).tick := by unfold slF; exact if_neg hv
    refine .inr ⟨hv, ?_⟩
    rw [hsl, e5, e4]
    congr 1
    omega
theorem weak_law {b : Blz} {cs : List Cut} (h : WkOk b cs) : ∀ (i : Nat) y, (soL b cs)[i]? = some y → (slL b cs).getD (wkI b cs) 0 ≤ y ∧ (i < wkI b cs → y ≠ (slL b cs).getD (wkI b cs) 0) := by
  intro i y hy
  have e2 : soL b cs = slL b cs := by unfold soL; rw [if_pos h.1]
  rw [e2] at hy
  have hlt := get_lt hy
  have ey : (slL b cs).getD i 0 = y := by simp [List.getD_eq_getElem?_getD, hy]
  have h1 : -((slL b cs).getD i 0) ≤ -((slL b cs).getD (wkI b cs) 0) := amax_geC (negAt (slL b cs)) (slL b cs).length i hlt
  have h2 : i < wkI b cs → -((slL b cs).getD i 0) < -((slL b cs).getD (wkI b cs) 0) := amax_before (negAt (slL b cs)) (slL b cs).length i
  rw [ey] at h1 h2
  generalize (slL b cs).getD (wkI b cs) 0 = z at *
  refine ⟨by omega, fun hi => ?_⟩
  have := h2 hi
  omega
theorem law_FnCuts (code : List Int) (g : code.length ≤ 9223372036854775807) (hb : ∀ b ∈ code, 0 ≤ b ∧ b ≤ 255) : Con Try.prog 3 [.list 1 (bytesP code)] (.bool true) := by
  intro al
  refine contract_of hmix Try.func3 rfl (by kernel_rfl) (by kernel_rfl) (Nat.le_of_ble_eq_true rfl) (fun row h => by cases h) ?_
  have hty_u22 := ty_u22
  have hty_s22 := ty_s22
  have hty_z26 := ty_z26
  have hty_t26 := ty_t26
  have hty_a26 := ty_a26
  have hty_u27 := ty_u27
  have hty_s27 := ty_s27
  have hty_u24 := ty_u24
  have hty_s24 := ty_s24
  have hty_u4 := ty_u4
  have hty_u30 := ty_u30
  have hty_s30 := ty_s30
  have hty_c3 := ty_c3
  have hty_f38_1 := ty_f38_1
  have kb := k_vBig code g
  by_cases hbig : 65536 < code.length
  · rw [decide_eq_true hbig] at kb
    repeat' (first | (refine g_exec ?_; refine x_aggNe2 aA rfl rfl ?_) | (refine pA (k := ?_)) | (refine g_exec ?_; first | (refine g_call ?_; refine x_callG true (kb) rfl rfl rfl aS rfl aH ?_; simp only [cl]) | (refine g_guard ?_; refine x_gsplit rfl rfl (fun h => ?_) (fun h => ?_) <;> (have h' := h; try simp only [sx] at h')) | (refine x_nil (hK _ _ aI ?_); clear hK K)) | (refine v_region (fun K hK => ?_)) | (refine v_condt rfl (fun h => ?_) (fun h => ?_) <;> (have h' := h; try simp only [sx] at h')))
    exact ret_bool rfl (lookE_ok rfl) rfl
  · rw [decide_eq_false hbig] at kb
    have hz : CodeOk code := ⟨by omega, hb⟩
    repeat' (first | (refine g_exec ?_; refine x_aggNe2 aA rfl rfl ?_) | (refine pA (k := ?_)) | (refine g_exec ?_; first | (refine g_call ?_; first | (refine x_callG true (kb) rfl rfl rfl aS rfl aH ?_; simp only [cl]) | (refine x_callLP [] (k_DrawLatestCuts code hz) rfl rfl aF rfl rfl aS rfl (fun r_ fin_ hP_ => ?_); obtain ⟨b, zs, ⟨rfl, rfl⟩, hB, hzl⟩ := hP_; refine ⟨_, _, _, aH, rfl, ?_⟩; simp only [cl])) | (refine g_guard ?_; refine x_gsplit rfl rfl (fun h => ?_) (fun h => ?_) <;> (have h' := h; try simp only [sx] at h')) | (refine x_nil (hK _ _ aI ?_); clear hK K)) | (refine v_region (fun K hK => ?_)) | (refine v_condt rfl (fun h => ?_) (fun h => ?_) <;> (have h' := h; try simp only [sx] at h')))
    have hz2 := hB.zc
    have hB1 := hB.t.2.2
    have hll := lcL_len b zs
    have kI := (Con.a (k_iLatest b zs hz2 aO)).frz rfl
    have kS := (Con.a (k_sLatest b zs hz2 aO)).frz rfl
    have kO := (Con.a (k_iSlacks b (lcL b zs) hz2 aO)).frz rfl
    have kR := (Con.a (k_sArr b hz2)).frz rfl
    simp only [frz, frz2, List.map_cons, List.map_nil] at kI kS kO kR
    have kV := k_vCuts (lcL b zs) aO
    have hF : decide (LtOk b zs) = true → decide (SoOk b (lcL b zs)) = true ∧ decide (GoodB b) = true ∧ CuF b zs (lcL b zs) (soL b (lcL b zs)) (arL b) := fun h => by
      obtain ⟨h1, h2, h3⟩ := cuF_all (of_decide_eq_true h)
      exact ⟨decide_eq_true h1, decide_eq_true h2, h3⟩
    generalize soL b (lcL b zs) = sl at *
    generalize decide (SoOk b (lcL b zs)) = o1 at *
    generalize lcL b zs = lc at *
    generalize decide (LtOk b zs) = ok at *
    generalize arL b = T at *
    generalize decide (GoodB b) = o2 at *
    repeat' (first | (refine g_exec ?_; refine x_aggNe2 aA rfl rfl ?_) | (refine pB (k := ?_)) | (refine v_seqN 3000008 rfl ?_) | (refine g_exec ?_; first | (refine g_call ?_; first | (refine x_callA true (kI) rfl rfl rfl rfl rfl aS rfl aH ?_; simp only [cl]) | (refine x_callA true (kS) rfl rfl rfl rfl rfl aS rfl aH ?_; simp only [cl]) | (refine x_callG true (kV) rfl rfl rfl aS rfl aH ?_; simp only [cl])) | (refine g_guard ?_; refine x_gsplit rfl rfl (fun h => ?_) (fun h => ?_) <;> (have h' := h; try simp only [sx] at h')) | (refine x_nil (hK _ _ aI ?_); clear hK K)) | (refine v_region (fun K hK => ?_)) | (refine v_condt rfl (fun h => ?_) (fun h => ?_) <;> (have h' := h; try simp only [sx] at h')))
    all_goals try (exfalso; simp at *; done)
    refine v_cutK [0] [] (fun u_ : Unit => []) (fun u_ : Unit => []) (fun u_ : Unit => True) rfl rfl (fun _ => rfl) (fun _ => rfl) ?_ (fun u_ hu_ => ?_)
    · cases ok
      · repeat' (first | (refine g_exec ?_; refine x_aggNe2 aA rfl rfl ?_) | (refine pA (k := ?_)) | (refine g_exec ?_; first | (refine g_guard ?_; refine x_gsplit rfl rfl (fun h => ?_) (fun h => ?_) <;> (have h' := h; try simp only [sx] at h')) | (refine x_nil (hK _ _ aI ?_); clear hK K)) | (refine v_region (fun K hK => ?_)) | (refine v_condt rfl (fun h => ?_) (fun h => ?_) <;> (have h' := h; try simp only [sx] at h')))
        all_goals (refine q_next () rfl (by refine ⟨?_, ?_, rfl, rfl⟩ <;> (repeat' (first | exact trivial | exact ⟨rfl, rfl⟩ | exact rfl | exact ⟨sub_fn, refs_fn⟩ | refine ⟨⟨rfl, rfl⟩, ?_⟩ | refine ⟨⟨sub_fn, refs_fn⟩, ?_⟩ | refine ⟨⟨rfl, fun h => Bool.noConfusion h⟩, ?_⟩ | refine ⟨⟨rfl, fun h => ?_⟩, ?_⟩ | refine ⟨rfl, ?_⟩ | refine ⟨?_, ?_⟩ | fail))) trivial (by decide))
      obtain ⟨rfl, rfl, hC⟩ := hF rfl
      have hl1 : (ints sl).length = sl.length := by simp
      have hl2 : (ints zs).length = zs.length := by simp
      have hl3 := hC.lenS
      have hl4 : (lc.map Cut.pv).length = lc.length := by simp
      repeat' (first | (refine g_exec ?_; refine x_aggNe2 aA rfl rfl ?_) | (refine pA (k := ?_)) | (refine g_exec ?_; first | (refine g_call ?_; first | (refine x_callA true (kO) rfl rfl rfl rfl rfl aS rfl aH ?_; simp only [cl]) | (refine x_callA true (kR) rfl rfl rfl rfl rfl aS rfl aH ?_; simp only [cl])) | (refine g_guard ?_; refine x_gsplit rfl rfl (fun h => ?_) (fun h => ?_) <;> (have h' := h; try simp only [sx] at h')) | (refine x_nil (hK _ _ aI ?_); clear hK K)) | (refine v_region (fun K hK => ?_)) | (refine v_condt rfl (fun h => ?_) (fun h => ?_) <;> (have h' := h; try simp only [sx] at h')))
      all_goals try (exfalso; first | omega | (simp at *; done))
      refine v_loopK [0, 7, 8, 12, 14] [] (fun i : Nat => [(16, .int .i64 i)]) (fun i : Nat => []) (fun i : Nat => i ≤ zs.length) (fun i : Nat => zs.length - i) (0) rfl rfl (fun _ => rfl) (fun _ => rfl) rfl (by refine ⟨?_, ?_, rfl, rfl⟩ <;> (repeat' (first | exact trivial | exact ⟨rfl, rfl⟩ | exact rfl | exact ⟨sub_fn, refs_fn⟩ | refine ⟨⟨rfl, rfl⟩, ?_⟩ | refine ⟨⟨sub_fn, refs_fn⟩, ?_⟩ | refine ⟨⟨rfl, fun h => Bool.noConfusion h⟩, ?_⟩ | refine ⟨⟨rfl, fun h => ?_⟩, ?_⟩ | refine ⟨rfl, ?_⟩ | refine ⟨?_, ?_⟩ | fail))) aO (fun i hi => ?_)
      rcases Nat.lt_or_ge i zs.length with hlt | hge
      · obtain ⟨c, hc⟩ := get_ex hlt
        have hxc := ints_at hc
        have hcc := hC.cell c (get_mem hc)
        have hcl := hC.lenT
        unfold IsCell at hcc
        have hxT : (ints T)[c.toNat]? = some [.int .i64 (tv T c)] := tv_int aO
        rcases hC.at_ i c hc with ⟨g1, g2, g3⟩ | ⟨g1, g2⟩
        · have hs := ints_at g2
          have hx3 := Cut.at g3
          repeat' (first | (refine g_exec ?_; refine x_aggNe2 aA rfl rfl ?_) | (refine pA (k := ?_)) | (refine g_exec ?_; first | (refine g_guard ?_; refine x_gsplit rfl rfl (fun h => ?_) (fun h => ?_) <;> (have h' := h; try simp only [sx] at h')) | (refine x_nil (hK _ _ aI ?_); clear hK K)) | (refine v_region (fun K hK => ?_)) | (refine v_condt rfl (fun h => ?_) (fun h => ?_) <;> (have h' := h; try simp only [sx] at h')))
          all_goals first
            | (exfalso; omega)
            | (refine q_next (i + 1) rfl (by refine ⟨?_, ?_, rfl, rfl⟩ <;> (repeat' (first | exact trivial | exact ⟨rfl, rfl⟩ | exact rfl | exact ⟨sub_fn, refs_fn⟩ | refine ⟨⟨rfl, rfl⟩, ?_⟩ | refine ⟨⟨sub_fn, refs_fn⟩, ?_⟩ | refine ⟨⟨rfl, fun h => Bool.noConfusion h⟩, ?_⟩ | refine ⟨⟨rfl, fun h => ?_⟩, ?_⟩ | refine ⟨rfl, ?_⟩ | refine ⟨?_, ?_⟩ | fail))) aO aO)
        · have hs := ints_at g2
          repeat' (first | (refine g_exec ?_; refine x_aggNe2 aA rfl rfl ?_) | (refine pA (k := ?_)) | (refine g_exec ?_; first | (refine g_guard ?_; refine x_gsplit rfl rfl (fun h => ?_) (fun h => ?_) <;> (have h' := h; try simp only [sx] at h')) | (refine x_nil (hK _ _ aI ?_); clear hK K)) | (refine v_region (fun K hK => ?_)) | (refine v_condt rfl (fun h => ?_) (fun h => ?_) <;> (have h' := h; try simp only [sx] at h')))
          all_goals first
            | (exfalso; omega)
            | (refine q_next (i + 1) rfl (by refine ⟨?_, ?_, rfl, rfl⟩ <;> (repeat' (first | exact trivial | exact ⟨rfl, rfl⟩ | exact rfl | exact ⟨sub_fn, refs_fn⟩ | refine ⟨⟨rfl, rfl⟩, ?_⟩ | refine ⟨⟨sub_fn, refs_fn⟩, ?_⟩ | refine ⟨⟨rfl, fun h => Bool.noConfusion h⟩, ?_⟩ | refine ⟨⟨rfl, fun h => ?_⟩, ?_⟩ | refine ⟨rfl, ?_⟩ | refine ⟨?_, ?_⟩ | fail))) aO aO)
      · repeat' (first | (refine g_exec ?_; refine x_aggNe2 aA rfl rfl ?_) | (refine pA (k := ?_)) | (refine g_exec ?_; first | (refine g_guard ?_; refine x_gsplit rfl rfl (fun h => ?_) (fun h => ?_) <;> (have h' := h; try simp only [sx] at h')) | (refine x_nil (hK _ _ aI ?_); clear hK K)) | (refine v_region (fun K hK => ?_)) | (refine v_condt rfl (fun h => ?_) (fun h => ?_) <;> (have h' := h; try simp only [sx] at h')))
        all_goals first
          | (exfalso; omega)
          | (refine q_next () rfl (by refine ⟨?_, ?_, rfl, rfl⟩ <;> (repeat' (first | exact trivial | exact ⟨rfl, rfl⟩ | exact rfl | exact ⟨sub_fn, refs_fn⟩ | refine ⟨⟨rfl, rfl⟩, ?_⟩ | refine ⟨⟨sub_fn, refs_fn⟩, ?_⟩ | refine ⟨⟨rfl, fun h => Bool.noConfusion h⟩, ?_⟩ | refine ⟨⟨rfl, fun h => ?_⟩, ?_⟩ | refine ⟨rfl, ?_⟩ | refine ⟨?_, ?_⟩ | fail))) trivial (by decide))
    clear kI kS kO kR kV hF
    repeat' (first | (refine g_exec ?_; refine x_aggNe2 aA rfl rfl ?_) | (refine pA (k := ?_)) | (refine g_exec ?_; first | (refine g_call ?_; refine x_callLP [] (k_DrawWeakestCut code hz) rfl rfl aF rfl rfl aS rfl (fun r_ fin_ hP_ => ?_); obtain ⟨x, cs, ⟨rfl, rfl⟩, hX, hcs⟩ := hP_; refine ⟨_, _, _, aH, rfl, ?_⟩; simp only [cl]) | (refine g_guard ?_; refine x_gsplit rfl rfl (fun h => ?_) (fun h => ?_) <;> (have h' := h; try simp only [sx] at h')) | (refine x_nil (hK _ _ aI ?_); clear hK K)) | (refine v_region (fun K hK => ?_)) | (refine v_condt rfl (fun h => ?_) (fun h => ?_) <;> (have h' := h; try simp only [sx] at h')))
    have hx2 := hX.zc
    have kW1 := k_iWeakest x cs hx2 aO
    have kW2 := k_sWeakest x cs hx2 aO
    have kS1 := (Con.a (k_iSlacks x cs hx2 aO)).frz rfl
    have kS2 := (Con.a (k_sSlacks x cs hx2 aO)).frz rfl
    simp only [frz, frz2, List.map_cons, List.map_nil] at kS1 kS2
    have hsl := soL_len x cs
    have kV := k_vIntsS (soL x cs) aO
    have hW : decide (WkOk x cs) = true → ∀ (i : Nat) y, (soL x cs)[i]? = some y → (if decide (WkOk x cs) = true then (slL x cs).getD (wkI x cs) 0 else 0) ≤ y ∧ ((i : Int) < (if decide (WkOk x cs) = true then (wkI x cs : Nat) else 0 : Int) → y ≠ (if decide (WkOk x cs) = true then (slL x cs).getD (wkI x cs) 0 else 0)) := fun h i y hy => by
      rw [if_pos h, if_pos h]
      have := weak_law (of_decide_eq_true h) i y hy
      exact ⟨this.1, fun hi => this.2 aO⟩
    have hWk : decide (WkOk x cs) = (decide (SoOk x cs) && decide (1 ≤ cs.length)) := by
      rw [Bool.eq_iff_iff, Bool.and_eq_true, decide_eq_true_iff, decide_eq_true_iff, decide_eq_true_iff]
      exact Iff.rfl
    unfold wkRes at kW1 kW2
    generalize hwk : (if decide (WkOk x cs) = true then (wkI x cs : Nat) else 0 : Int) = wk at *
    generalize hsv : (if decide (WkOk x cs) = true then (slL x cs).getD (wkI x cs) 0 else 0) = sv at *
    clear hwk hsv
    generalize decide (WkOk x cs) = told at *
    generalize soL x cs = S at *
    generalize decide (SoOk x cs) = fine at *
    have hl1 : (ints S).length = S.length := by simp
    have hl4 : (cs.map Cut.pv).length = cs.length := by simp
    repeat' (first | (refine g_exec ?_; refine x_aggNe2 aA rfl rfl ?_) | (refine pB (k := ?_)) | (refine v_seqN 3000027 rfl ?_) | (refine g_exec ?_; first | (refine g_call ?_; first | (refine x_callG true (kW1) rfl rfl rfl aS rfl aH ?_; simp only [cl]) | (refine x_callG true (kW2) rfl rfl rfl aS rfl aH ?_; simp only [cl]) | (refine x_callA true (kS1) rfl rfl rfl rfl rfl aS rfl aH ?_; simp only [cl])) | (refine g_guard ?_; refine x_gsplit rfl rfl (fun h => ?_) (fun h => ?_) <;> (have h' := h; try simp only [sx] at h')) | (refine x_nil (hK _ _ aI ?_); clear hK K)) | (refine v_region (fun K hK => ?_)) | (refine v_condt rfl (fun h => ?_) (fun h => ?_) <;> (have h' := h; try simp only [sx] at h')))
    all_goals try (exfalso; first | omega | (simp at *; done))
    refine v_cutK [0, 22, 23, 24, 28] [] (fun u_ : Unit => []) (fun u_ : Unit => []) (fun u_ : Unit => True) rfl rfl (fun _ => rfl) (fun _ => rfl) ?_ (fun u_ hu_ => ?_)
    · by_cases hlen : 1 ≤ cs.length
      · rw [decide_eq_true hlen, Bool.and_true] at hWk
        subst hWk
        cases told
        · repeat' (first | (refine g_exec ?_; refine x_aggNe2 aA rfl rfl ?_) | (refine pA (k := ?_)) | (refine g_exec ?_; first | (refine g_call ?_; first | (refine x_callA true (kS2) rfl rfl rfl rfl rfl aS rfl aH ?_; simp only [cl]) | (refine x_callG true (kV) rfl rfl rfl aS rfl aH ?_; simp only [cl])) | (refine g_guard ?_; refine x_gsplit rfl rfl (fun h => ?_) (fun h => ?_) <;> (have h' := h; try simp only [sx] at h')) | (refine x_nil (hK _ _ aI ?_); clear hK K)) | (refine v_region (fun K hK => ?_)) | (refine v_condt rfl (fun h => ?_) (fun h => ?_) <;> (have h' := h; try simp only [sx] at h')))
          all_goals first
            | (exfalso; omega)
            | (exfalso; apply h'; symm; rw [decide_eq_true_iff]; omega)
            | (exfalso; apply h'; symm; rw [decide_eq_false_iff_not]; omega)
            | (exfalso; simp at *; done)
            | (refine q_next () rfl (by refine ⟨?_, ?_, rfl, rfl⟩ <;> (repeat' (first | exact trivial | exact ⟨rfl, rfl⟩ | exact rfl | exact ⟨sub_fn, refs_fn⟩ | refine ⟨⟨rfl, rfl⟩, ?_⟩ | refine ⟨⟨sub_fn, refs_fn⟩, ?_⟩ | refine ⟨⟨rfl, fun h => Bool.noConfusion h⟩, ?_⟩ | refine ⟨⟨rfl, fun h => ?_⟩, ?_⟩ | refine ⟨rfl, ?_⟩ | refine ⟨?_, ?_⟩ | fail))) trivial (by decide))
        · repeat' (first | (refine g_exec ?_; refine x_aggNe2 aA rfl rfl ?_) | (refine pA (k := ?_)) | (refine g_exec ?_; first | (refine g_call ?_; first | (refine x_callA true (kS2) rfl rfl rfl rfl rfl aS rfl aH ?_; simp only [cl]) | (refine x_callG true (kV) rfl rfl rfl aS rfl aH ?_; simp only [cl])) | (refine g_guard ?_; refine x_gsplit rfl rfl (fun h => ?_) (fun h => ?_) <;> (have h' := h; try simp only [sx] at h')) | (refine x_nil (hK _ _ aI ?_); clear hK K)) | (refine v_region (fun K hK => ?_)) | (refine v_condt rfl (fun h => ?_) (fun h => ?_) <;> (have h' := h; try simp only [sx] at h')))
          all_goals first
            | (exfalso; omega)
            | (exfalso; apply h'; symm; rw [decide_eq_true_iff]; omega)
            | (exfalso; apply h'; symm; rw [decide_eq_false_iff_not]; omega)
            | (exfalso; simp at *; done)
            | (refine q_next () rfl (by refine ⟨?_, ?_, rfl, rfl⟩ <;> (repeat' (first | exact trivial | exact ⟨rfl, rfl⟩ | exact rfl | exact ⟨sub_fn, refs_fn⟩ | refine ⟨⟨rfl, rfl⟩, ?_⟩ | refine ⟨⟨sub_fn, refs_fn⟩, ?_⟩ | refine ⟨⟨rfl, fun h => Bool.noConfusion h⟩, ?_⟩ | refine ⟨⟨rfl, fun h => ?_⟩, ?_⟩ | refine ⟨rfl, ?_⟩ | refine ⟨?_, ?_⟩ | fail))) trivial (by decide))
      · rw [decide_eq_false hlen, Bool.and_false] at hWk
        subst hWk
        cases fine
        · repeat' (first | (refine g_exec ?_; refine x_aggNe2 aA rfl rfl ?_) | (refine pA (k := ?_)) | (refine g_exec ?_; first | (refine g_call ?_; first | (refine x_callA true (kS2) rfl rfl rfl rfl rfl aS rfl aH ?_; simp only [cl]) | (refine x_callG true (kV) rfl rfl rfl aS rfl aH ?_; simp only [cl])) | (refine g_guard ?_; refine x_gsplit rfl rfl (fun h => ?_) (fun h => ?_) <;> (have h' := h; try simp only [sx] at h')) | (refine x_nil (hK _ _ aI ?_); clear hK K)) | (refine v_region (fun K hK => ?_)) | (refine v_condt rfl (fun h => ?_) (fun h => ?_) <;> (have h' := h; try simp only [sx] at h')))
          all_goals first
            | (exfalso; omega)
            | (exfalso; apply h'; symm; rw [decide_eq_true_iff]; omega)
            | (exfalso; apply h'; symm; rw [decide_eq_false_iff_not]; omega)
            | (exfalso; simp at *; done)
            | (refine q_next () rfl (by refine ⟨?_, ?_, rfl, rfl⟩ <;> (repeat' (first | exact trivial | exact ⟨rfl, rfl⟩ | exact rfl | exact ⟨sub_fn, refs_fn⟩ | refine ⟨⟨rfl, rfl⟩, ?_⟩ | refine ⟨⟨sub_fn, refs_fn⟩, ?_⟩ | refine ⟨⟨rfl, fun h => Bool.noConfusion h⟩, ?_⟩ | refine ⟨⟨rfl, fun h => ?_⟩, ?_⟩ | refine ⟨rfl, ?_⟩ | refine ⟨?_, ?_⟩ | fail))) trivial (by decide))
        · repeat' (first | (refine g_exec ?_; refine x_aggNe2 aA rfl rfl ?_) | (refine pA (k := ?_)) | (refine g_exec ?_; first | (refine g_call ?_; first | (refine x_callA true (kS2) rfl rfl rfl rfl rfl aS rfl aH ?_; simp only [cl]) | (refine x_callG true (kV) rfl rfl rfl aS rfl aH ?_; simp only [cl])) | (refine g_guard ?_; refine x_gsplit rfl rfl (fun h => ?_) (fun h => ?_) <;> (have h' := h; try simp only [sx] at h')) | (refine x_nil (hK _ _ aI ?_); clear hK K)) | (refine v_region (fun K hK => ?_)) | (refine v_condt rfl (fun h => ?_) (fun h => ?_) <;> (have h' := h; try simp only [sx] at h')))
          all_goals first
            | (exfalso; omega)
            | (exfalso; apply h'; symm; rw [decide_eq_true_iff]; omega)
            | (exfalso; apply h'; symm; rw [decide_eq_false_iff_not]; omega)
            | (exfalso; simp at *; done)
            | (refine q_next () rfl (by refine ⟨?_, ?_, rfl, rfl⟩ <;> (repeat' (first | exact trivial | exact ⟨rfl, rfl⟩ | exact rfl | exact ⟨sub_fn, refs_fn⟩ | refine ⟨⟨rfl, rfl⟩, ?_⟩ | refine ⟨⟨sub_fn, refs_fn⟩, ?_⟩ | refine ⟨⟨rfl, fun h => Bool.noConfusion h⟩, ?_⟩ | refine ⟨⟨rfl, fun h => ?_⟩, ?_⟩ | refine ⟨rfl, ?_⟩ | refine ⟨?_, ?_⟩ | fail))) trivial (by decide))
    clear kW1 kW2 kS1 kS2 kV hWk
    repeat' (first | (refine g_exec ?_; refine x_aggNe2 aA rfl rfl ?_) | (refine pB (k := ?_)) | (refine v_seqN 3000030 rfl ?_) | (refine g_exec ?_; first | (refine g_guard ?_; refine x_gsplit rfl rfl (fun h => ?_) (fun h => ?_) <;> (have h' := h; try simp only [sx] at h')) | (refine x_nil (hK _ _ aI ?_); clear hK K)) | (refine v_region (fun K hK => ?_)) | (refine v_condt rfl (fun h => ?_) (fun h => ?_) <;> (have h' := h; try simp only [sx] at h')))
    refine v_cutK [0] [] (fun u_ : Unit => []) (fun u_ : Unit => []) (fun u_ : Unit => True) rfl rfl (fun _ => rfl) (fun _ => rfl) ?_ (fun u_ hu_ => ?_)
    · repeat' (first | (refine g_exec ?_; refine x_aggNe2 aA rfl rfl ?_) | (refine pA (k := ?_)) | (refine g_exec ?_; first | (refine g_guard ?_; refine x_gsplit rfl rfl (fun h => ?_) (fun h => ?_) <;> (have h' := h; try simp only [sx] at h')) | (refine x_nil (hK _ _ aI ?_); clear hK K)) | (refine v_region (fun K hK => ?_)) | (refine v_condt rfl (fun h => ?_) (fun h => ?_) <;> (have h' := h; try simp only [sx] at h')))
      refine v_loopK [0, 22, 23, 24, 28] [] (fun i : Nat => [(32, .int .i64 i)]) (fun i : Nat => []) (fun i : Nat => i ≤ S.length) (fun i : Nat => S.length - i) (0) rfl rfl (fun _ => rfl) (fun _ => rfl) rfl (by refine ⟨?_, ?_, rfl, rfl⟩ <;> (repeat' (first | exact trivial | exact ⟨rfl, rfl⟩ | exact rfl | exact ⟨sub_fn, refs_fn⟩ | refine ⟨⟨rfl, rfl⟩, ?_⟩ | refine ⟨⟨sub_fn, refs_fn⟩, ?_⟩ | refine ⟨⟨rfl, fun h => Bool.noConfusion h⟩, ?_⟩ | refine ⟨⟨rfl, fun h => ?_⟩, ?_⟩ | refine ⟨rfl, ?_⟩ | refine ⟨?_, ?_⟩ | fail))) aO (fun i hi => ?_)
      by_cases hgo : i < S.length ∧ told = true
      · obtain ⟨hlt, rfl⟩ := hgo
        obtain ⟨y, hy⟩ := get_ex hlt
        have hxs := ints_at hy
        obtain ⟨w1, w2⟩ := hW rfl i y hy
        by_cases hiw : (i : Int) < wk
        · have w3 := w2 hiw
          repeat' (first | (refine g_exec ?_; refine x_aggNe2 aA rfl rfl ?_) | (refine pA (k := ?_)) | (refine g_exec ?_; first | (refine g_guard ?_; refine x_gsplit rfl rfl (fun h => ?_) (fun h => ?_) <;> (have h' := h; try simp only [sx] at h')) | (refine x_nil (hK _ _ aI ?_); clear hK K)) | (refine v_region (fun K hK => ?_)) | (refine v_condt rfl (fun h => ?_) (fun h => ?_) <;> (have h' := h; try simp only [sx] at h')))
          all_goals first
            | (exfalso; omega)
            | (refine q_next (i + 1) rfl (by refine ⟨?_, ?_, rfl, rfl⟩ <;> (repeat' (first | exact trivial | exact ⟨rfl, rfl⟩ | exact rfl | exact ⟨sub_fn, refs_fn⟩ | refine ⟨⟨rfl, rfl⟩, ?_⟩ | refine ⟨⟨sub_fn, refs_fn⟩, ?_⟩ | refine ⟨⟨rfl, fun h => Bool.noConfusion h⟩, ?_⟩ | refine ⟨⟨rfl, fun h => ?_⟩, ?_⟩ | refine ⟨rfl, ?_⟩ | refine ⟨?_, ?_⟩ | fail))) aO aO)
        · repeat' (first | (refine g_exec ?_; refine x_aggNe2 aA rfl rfl ?_) | (refine pA (k := ?_)) | (refine g_exec ?_; first | (refine g_guard ?_; refine x_gsplit rfl rfl (fun h => ?_) (fun h => ?_) <;> (have h' := h; try simp only [sx] at h')) | (refine x_nil (hK _ _ aI ?_); clear hK K)) | (refine v_region (fun K hK => ?_)) | (refine v_condt rfl (fun h => ?_) (fun h => ?_) <;> (have h' := h; try simp only [sx] at h')))
          all_goals first
            | (exfalso; omega)
            | (refine q_next (i + 1) rfl (by refine ⟨?_, ?_, rfl, rfl⟩ <;> (repeat' (first | exact trivial | exact ⟨rfl, rfl⟩ | exact rfl | exact ⟨sub_fn, refs_fn⟩ | refine ⟨⟨rfl, rfl⟩, ?_⟩ | refine ⟨⟨sub_fn, refs_fn⟩, ?_⟩ | refine ⟨⟨rfl, fun h => Bool.noConfusion h⟩, ?_⟩ | refine ⟨⟨rfl, fun h => ?_⟩, ?_⟩ | refine ⟨rfl, ?_⟩ | refine ⟨?_, ?_⟩ | fail))) aO aO)
      · rcases Nat.lt_or_ge i S.length with hlt | hge
        · have ht : told = false := by
            cases told
            · rfl
            · exact absurd ⟨hlt, rfl⟩ hgo
          subst ht
          repeat' (first | (refine g_exec ?_; refine x_aggNe2 aA rfl rfl ?_) | (refine pA (k := ?_)) | (refine g_exec ?_; first | (refine g_guard ?_; refine x_gsplit rfl rfl (fun h => ?_) (fun h => ?_) <;> (have h' := h; try simp only [sx] at h')) | (refine x_nil (hK _ _ aI ?_); clear hK K)) | (refine v_region (fun K hK => ?_)) | (refine v_condt rfl (fun h => ?_) (fun h => ?_) <;> (have h' := h; try simp only [sx] at h')))
          all_goals first
            | (exfalso; omega)
            | (refine q_next () rfl (by refine ⟨?_, ?_, rfl, rfl⟩ <;> (repeat' (first | exact trivial | exact ⟨rfl, rfl⟩ | exact rfl | exact ⟨sub_fn, refs_fn⟩ | refine ⟨⟨rfl, rfl⟩, ?_⟩ | refine ⟨⟨sub_fn, refs_fn⟩, ?_⟩ | refine ⟨⟨rfl, fun h => Bool.noConfusion h⟩, ?_⟩ | refine ⟨⟨rfl, fun h => ?_⟩, ?_⟩ | refine ⟨rfl, ?_⟩ | refine ⟨?_, ?_⟩ | fail))) trivial (by decide))
        · cases told
          · repeat' (first | (refine g_exec ?_; refine x_aggNe2 aA rfl rfl ?_) | (refine pA (k := ?_)) | (refine g_exec ?_; first | (refine g_guard ?_; refine x_gsplit rfl rfl (fun h => ?_) (fun h => ?_) <;> (have h' := h; try simp only [sx] at h')) | (refine x_nil (hK _ _ aI ?_); clear hK K)) | (refine v_region (fun K hK => ?_)) | (refine v_condt rfl (fun h => ?_) (fun h => ?_) <;> (have h' := h; try simp only [sx] at h')))
            all_goals first
              | (exfalso; omega)
              | (refine q_next () rfl (by refine ⟨?_, ?_, rfl, rfl⟩ <;> (repeat' (first | exact trivial | exact ⟨rfl, rfl⟩ | exact rfl | exact ⟨sub_fn, refs_fn⟩ | refine ⟨⟨rfl, rfl⟩, ?_⟩ | refine ⟨⟨sub_fn, refs_fn⟩, ?_⟩ | refine ⟨⟨rfl, fun h => Bool.noConfusion h⟩, ?_⟩ | refine ⟨⟨rfl, fun h => ?_⟩, ?_⟩ | refine ⟨rfl, ?_⟩ | refine ⟨?_, ?_⟩ | fail))) trivial (by decide))
          · repeat' (first | (refine g_exec ?_; refine x_aggNe2 aA rfl rfl ?_) | (refine pA (k := ?_)) | (refine g_exec ?_; first | (refine g_guard ?_; refine x_gsplit rfl rfl (fun h => ?_) (fun h => ?_) <;> (have h' := h; try simp only [sx] at h')) | (refine x_nil (hK _ _ aI ?_); clear hK K)) | (refine v_region (fun K hK => ?_)) | (refine v_condt rfl (fun h => ?_) (fun h => ?_) <;> (have h' := h; try simp only [sx] at h')))
            all_goals first
              | (exfalso; omega)
              | (refine q_next () rfl (by refine ⟨?_, ?_, rfl, rfl⟩ <;> (repeat' (first | exact trivial | exact ⟨rfl, rfl⟩ | exact rfl | exact ⟨sub_fn, refs_fn⟩ | refine ⟨⟨rfl, rfl⟩, ?_⟩ | refine ⟨⟨sub_fn, refs_fn⟩, ?_⟩ | refine ⟨⟨rfl, fun h => Bool.noConfusion h⟩, ?_⟩ | refine ⟨⟨rfl, fun h => ?_⟩, ?_⟩ | refine ⟨rfl, ?_⟩ | refine ⟨?_, ?_⟩ | fail))) trivial (by decide))
    clear hW
    repeat' (first | (refine g_exec ?_; refine x_aggNe2 aA rfl rfl ?_) | (refine pA (k := ?_)) | (refine g_exec ?_; first | (refine g_call ?_; refine x_callLP [] (k_DrawDelayCuts code hz) rfl rfl aF rfl rfl aS rfl (fun r_ fin_ hP_ => ?_); obtain ⟨y, ds, n, ⟨rfl, rfl⟩, hY, hds⟩ := hP_; refine ⟨_, _, _, aH, rfl, ?_⟩; simp only [cl]) | (refine g_guard ?_; refine x_gsplit rfl rfl (fun h => ?_) (fun h => ?_) <;> (have h' := h; try simp only [sx] at h')) | (refine x_nil (hK _ _ aI ?_); clear hK K)) | (refine v_region (fun K hK => ?_)) | (refine v_condt rfl (fun h => ?_) (fun h => ?_) <;> (have h' := h; try simp only [sx] at h')))
    have hY3 := hY.2.2
    have kD1 := (Con.a (k_iDelay y ds n aO aO)).frz rfl
    have kD2 := (Con.a (k_sDelay y ds n aO aO)).frz rfl
    simp only [frz, frz2, List.map_cons, List.map_nil] at kD1 kD2
    have hdl := dcL_len y ds n
    have kV := k_vCuts (dcL y ds n) aO
    generalize dcL y ds n = D at *
    generalize decide (DcOk y ds n) = o at *
    cases o
    · repeat' (first | (refine g_exec ?_; refine x_aggNe2 aA rfl rfl ?_) | (refine pA (k := ?_)) | (refine g_exec ?_; first | (refine g_call ?_; first | (refine x_callA true (kD1) rfl rfl rfl rfl rfl aS rfl aH ?_; simp only [cl]) | (refine x_callA true (kD2) rfl rfl rfl rfl rfl aS rfl aH ?_; simp only [cl]) | (refine x_callG true (kV) rfl rfl rfl aS rfl aH ?_; simp only [cl])) | (refine g_guard ?_; refine x_gsplit rfl rfl (fun h => ?_) (fun h => ?_) <;> (have h' := h; try simp only [sx] at h')) | (refine x_nil (hK _ _ aI ?_); clear hK K)) | (refine v_region (fun K hK => ?_)) | (refine v_condt rfl (fun h => ?_) (fun h => ?_) <;> (have h' := h; try simp only [sx] at h')))
      all_goals first
        | (exfalso; simp at *; done)
        | exact ret_bool rfl (lookE_ok rfl) rfl
    · repeat' (first | (refine g_exec ?_; refine x_aggNe2 aA rfl rfl ?_) | (refine pA (k := ?_)) | (refine g_exec ?_; first | (refine g_call ?_; first | (refine x_callA true (kD1) rfl rfl rfl rfl rfl aS rfl aH ?_; simp only [cl]) | (refine x_callA true (kD2) rfl rfl rfl rfl rfl aS rfl aH ?_; simp only [cl]) | (refine x_callG true (kV) rfl rfl rfl aS rfl aH ?_; simp only [cl])) | (refine g_guard ?_; refine x_gsplit rfl rfl (fun h => ?_) (fun h => ?_) <;> (have h' := h; try simp only [sx] at h')) | (refine x_nil (hK _ _ aI ?_); clear hK K)) | (refine v_region (fun K hK => ?_)) | (refine v_condt rfl (fun h => ?_) (fun h => ?_) <;> (have h' := h; try simp only [sx] at h')))
      all_goals first
        | (exfalso; simp at *; done)
        | exact ret_bool rfl (lookE_ok rfl) rfl
end Go.Vs
set_option linter.unusedVariables false
set_option linter.unusedSimpArgs false
namespace Go.Proofs.Ytaoadjbjpagdoaa.FnCutsDone
open Go.ChangeShapes Go.WideShapes Go.ChangeAt Go.RowKit
open Go.Vs
theorem own : ownKnob Try.prog.godebug = none := by kernel_rfl
theorem laidOut : laidOutB Try.prog = true := by kernel_rfl
theorem one_cell {d : Nat} {sh : Sh} {us : List PV} (hl : us.length = 1) (h : ∀ (j : Nat) sh' u, [sh][j]? = some sh' → us[j]? = some u → CellIs d sh' u) : ∃ u, us = [u] ∧ CellIs d sh u := by
  match us, hl with
  | [u], _ => exact ⟨u, rfl, h 0 sh u rfl rfl⟩
set_option maxRecDepth 100000 in
theorem lifted (os : Os) (started : os.Started) (H : Type) (enc : TypeId × Value → H) :
    ReturnsInHanded {} Try.checked os 3 .any (Rows.fnCutsSpec.pre6 enc Try.prog Try.f3 Rows.fnCutsRow.domain false) (Rows.fnCutsSpec.post enc Try.prog Try.f3 false true false false) := by
  refine returnsInHanded_of_change (C := Try.checked) own started (by kernel_rfl) Try.func3
    (ChangeSpec.witness6 (enc := enc) (C := Try.checked) false ⟨#[], #[.slice none 0 0], []⟩ 8 (by kernel_rfl) (by kernel_rfl) (by kernel_rfl) (by kernel_rfl)) ?_
  intro W base args ds gs before hval0 hW hcnd _
  have hval : ∀ (j : Nat) t v, Try.f3.params[j]? = some t → args[j]? = some v → Value.okWide Try.prog W .any base t v := hval0
  have hW' := hW
  obtain ⟨p, q, hA0, hV, rfl, hfz, hnd⟩ := hW
  have hA : DataW.TrodAll enc Try.prog W 0 (fun _ => true) true Try.f3.params.toList args.toList ds p := hA0
  rw [Try.params3] at hA hval
  obtain ⟨v0, vs0, d0, ds0, p0, q0, hargs, rfl, rfl, h0, r0⟩ := trodAll_cons hA
  obtain ⟨rfl, rfl, rfl⟩ := trodAll_nil r0
  obtain rfl : args = #[v0] := by cases args; simp_all
  obtain ⟨rfl, rfl⟩ := trodVars_none hV
  obtain ⟨a0, len0, cap0, rfl⟩ := okWide_slice Try.underlying22 (hval 0 22 v0 rfl rfl)
  have k0 := h0
  have lt0 : ∀ x ∈ p0, x.block < W.heap.size := by obtain ⟨m, hm⟩ := k0; exact DataW.trod_lt m _ _ _ hm
  obtain ⟨us0, ul0, uc0, ur0⟩ : ∃ us : List PV, us.length = ([.slice [.byte]] : List Sh).length ∧ (∀ (j : Nat) sh u, ([.slice [.byte]] : List Sh)[j]? = some sh → us[j]? = some u → CellIs 4 sh u) ∧ ∀ ρ, Comps ρ W (fun b => b < W.heap.size) noMem #[.slice a0 len0 cap0] us := by
    obtain ⟨fuel, hf⟩ := h0
    exact open_all (d := 4) (T := 22) (by kernel_rfl) (by simpa [Value.cells] using hf)
  obtain ⟨u0, rfl, c0⟩ := one_cell ul0 uc0
  obtain ⟨code', rfl, b0⟩ := cell_list (fun b : {b : Int // 0 ≤ b ∧ b ≤ 255} => [PV.int .u8 b.1]) c0 (fun el hl h => by match el, hl with | [u], _ => obtain ⟨m, rfl, hm⟩ := cell_byte (h 0 _ _ rfl rfl); exact ⟨⟨m, hm⟩, rfl⟩)
  obtain ⟨code, e0, l0, b0'⟩ : ∃ code : List Int, code'.map (fun b : {b : Int // 0 ≤ b ∧ b ≤ 255} => [PV.int .u8 b.1]) = bytesP code ∧ code.length = code'.length ∧ ∀ b ∈ code, 0 ≤ b ∧ b ≤ 255 := ⟨code'.map (·.1), by simp [bytesP, Function.comp_def], by simp, fun a ha => by obtain ⟨q, _, rfl⟩ := List.mem_map.1 ha; exact q.2⟩
  rw [e0] at ur0
  rw [← l0] at b0
  clear hA0 hval0
  have hcomp : Comps (fun _ => none) W (fun b => b < W.heap.size) noMem #[.slice a0 len0 cap0] [.list 1 (bytesP code)] := by
    refine ⟨rfl, fun j u hu => ?_⟩
    match j, hu with
    | 0, hu =>
      simp only [List.getElem?_cons_zero, Option.some.injEq] at hu
      subst hu
      obtain ⟨c, hc, hr⟩ := (ur0 (fun _ => none)).2 0 _ rfl
      simp only [List.getElem?_toArray, List.getElem?_cons_zero, Option.some.injEq] at hc
      subst hc
      exact ⟨_, rfl, hr⟩
  refine (calls_below (law_FnCuts code (by simpa [Go.maxLen] using b0) b0') hcomp).mono fun e W' ⟨he, bel⟩ => ?_
  subst he
  exact ⟨_, rfl, _, _, _, [], _, [], hW', trodAll_mk1 (shut_bool Try.underlying4 _), (trodAll_cons_mk (Below.trod laidOut (by kernel_rfl) (of_decide_eq_true (by kernel_rfl)) k0 bel lt0) trodAll_mk0), rfl, bel.frame _, fun h => by cases h⟩
theorem over : Rows.fnCutsRow.holds Try.pinned (OpenSpec.ofChange Rows.fnCutsSpec) :=
  OpenClaim.holds_of_wide 3 Try.f3 rfl rfl rfl rfl rfl rfl rfl ⟨rfl, rfl, rfl, rfl, rfl⟩ rfl rfl rfl rfl rfl (by kernel_rfl) Try.func3 (by kernel_rfl)
    (of_decide_eq_true (by kernel_rfl)) (by unfold Func.isWrapper; first | (rw [if_pos (by decide +kernel)]; kernel_rfl) | (rw [if_neg (by decide +kernel)]; exact ⟨rfl, rfl⟩))
    (fun os started H enc _ => lifted os started H enc)
theorem proved : Rows.FnCutsSaid := over
end Go.Proofs.Ytaoadjbjpagdoaa.FnCutsDone
