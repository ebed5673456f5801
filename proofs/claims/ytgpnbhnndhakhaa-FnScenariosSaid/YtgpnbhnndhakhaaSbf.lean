/- Parts of a proof: what its last text mentions. -/
import Derived.Test.YtgpnbhnndhakhaaSbe
set_option linter.unusedVariables false
set_option linter.unusedSimpArgs false
set_option maxRecDepth 100000
set_option maxHeartbeats 4000000
namespace Go.Vs
open Go.Proofs
attribute [local irreducible] exec vwp thenQ blkQ loopQ RetPost
@[reducible] def EnS : Type := Cu × List Scen × Int
def PhB (L : List Scen) : Prop := ∀ x ∈ L, x.phases.length ≤ 7
theorem phB_snoc {L : List Scen} {x : Scen} (h : PhB L) (hx : x.phases.length ≤ 7) : PhB (L ++ [x]) := fun y hy => by
  rcases List.mem_append.1 hy with h1 | h1
  · exact h y h1
  · rw [List.mem_singleton] at h1; subst h1; exact hx
@[reducible] def oneSc : Scen := ⟨[⟨0, 5⟩], 1⟩
theorem k_ensembleD (c : Cu) (hc : c.Ok) (hp : c.pos + 600 ≤ 1152921504606846976) : ∃ (L : List Scen) (c' : Cu), Dr 138 [] c (.olist 56 2 (L.map Scen.pv)) c' ∧ Aft c c' 500 ∧ L.length ≤ 5 ∧ PhB L := by
  obtain ⟨n0, c1, k1, a1, n1, n2, _⟩ := k_pick c 3 hc aO aO
  have n2 := n2 aO
  have o1 := a1.ok hc aO
  have p1 := a1.pos
  obtain ⟨f, f0, fs⟩ := seq_ex (S := EnS) (Q := fun i s => i ≤ 3 → Aft c1 s.1 (102 * i) ∧ s.2.1.length = i ∧ PhB s.2.1)
    (R := fun i s s' => i < 3 → ∃ (ps : List Phase) (c2 : Cu) (w : Int), Dr 73 [] s.1 (.list 2 (ps.map Phase.pv)) c2 ∧ Dr 75 [.list 1 (ints [1, 1, 2, 5, 100])] c2 (.int .i64 w) s'.1 ∧ s'.2.1 = s.2.1 ++ [⟨ps, w⟩])
    (c1, [], 0) (fun _ => ⟨(Aft.refl c1).le aO, rfl, fun x hx => (by cases hx)⟩) (fun i st hq => by
      by_cases hi : i < 3
      · obtain ⟨ad, hl, hb⟩ := hq aO
        have od := ad.ok o1 aO
        have pd := ad.pos
        obtain ⟨ps, c2, k2, a2, hps⟩ := k_phasesZ st.1 od aO
        have o2 := a2.ok od aO
        have p2 := a2.pos
        obtain ⟨w, c3, k3, a3, _⟩ := k_among c2 [1, 1, 2, 5, 100] o2 aO (by decide)
        exact ⟨(c3, st.2.1 ++ [⟨ps, w⟩], 0), fun _ => ⟨ps, c2, w, k2, k3, rfl⟩, fun _ => ⟨((ad.trans a2).trans a3).le (by first | omega | (simp only; omega)), by simp [hl], phB_snoc hb hps⟩⟩
      · exact ⟨st, fun h => absurd h hi, fun h => by omega⟩)
  obtain ⟨N, hN⟩ : ∃ N : Nat, 1 + n0 = (N : Int) := ⟨(1 + n0).toNat, by omega⟩
  obtain ⟨ad, hl, hb⟩ := (fs N).1 aO
  have od := ad.ok o1 aO
  have pd := ad.pos
  obtain ⟨r, c2, k2, a2, _⟩ := k_pick (f N).1 32 od aO aO
  have o2 := a2.ok od aO
  have p2 := a2.pos
  have aft2 := (a1.trans ad).trans a2
  obtain ⟨x0, c3, k3, a3, _⟩ := k_among c2 [0, 101] o2 aO (by decide)
  obtain ⟨w, hw⟩ := get_ex (show 0 < (f N).2.1.length by omega)
  have hw2 : ((f N).2.1.map Scen.pv)[0]? = some w.pv := Scen.at hw
  have hse : ((f N).2.1.map Scen.pv).set 0 [.list 2 (w.phases.map Phase.pv), .int .i64 x0] = ((f N).2.1.set 0 ⟨w.phases, x0⟩).map Scen.pv := by rw [List.map_set]
  have hsb : PhB ((f N).2.1.set 0 ⟨w.phases, x0⟩) := fun y hy => by
    rcases List.mem_or_eq_of_mem_set hy with h1 | h1
    · exact hb y h1
    · rw [h1]; exact hb w (get_mem hw)
  obtain ⟨g, g0, gs⟩ := seq_ex (S := EnS) (Q := fun i s => i ≤ 6 → Aft c2 s.1 (2 * i) ∧ s.2.1.length = N + i ∧ PhB s.2.1)
    (R := fun i s s' => i < 6 → Dr 104 [.int .i64 2] s.1 (.int .i64 s'.2.2) s'.1 ∧ (0 ≤ s'.2.2 ∧ s'.2.2 < 2) ∧ s'.2.1 = s.2.1 ++ [oneSc])
    (c2, (f N).2.1, 0) (fun _ => ⟨(Aft.refl c2).le aO, by first | omega | (simp only; omega), hb⟩) (fun i st hq => by
      by_cases hi : i < 6
      · obtain ⟨ad, hl2, hb2⟩ := hq aO
        have od := ad.ok o2 aO
        have pd := ad.pos
        obtain ⟨r5, c5, k5, a5, b5, b6, _⟩ := k_pick st.1 2 od aO aO
        exact ⟨(c5, st.2.1 ++ [oneSc], r5), fun _ => ⟨k5, ⟨b5, b6 aO⟩, rfl⟩, fun _ => ⟨(ad.trans a5).le (by first | omega | (simp only; omega)), by simp; omega, phB_snoc hb2 (by simp)⟩⟩
      · exact ⟨st, fun h => absurd h hi, fun h => by omega⟩)
  obtain ⟨K, hK7, hK, hKl⟩ := least_ex (P := fun i => ¬ ((N : Int) + i < 4 + (g (i + 1)).2.2)) 5 (by
    obtain ⟨_, h2, _⟩ := (gs 5).2 aO
    try simp only
    omega)
  obtain ⟨adK, hlK, hbK⟩ := (gs K).1 aO
  obtain ⟨kK, bK, _⟩ := (gs K).2 aO
  have hlK7 : (g K).2.1.length ≤ 5 := by
    rw [hlK]
    rcases Nat.eq_zero_or_pos K with h0 | h0
    · omega
    · have h1 := hKl (K - 1) aO
      obtain ⟨_, h2, _⟩ := (gs (K - 1)).2 aO
      try simp only at h1
      omega
  obtain ⟨adK1, _⟩ := (gs (K + 1)).1 aO
  have key : ∃ (L : List Scen) (c' : Cu), Aft c c' 500 ∧ (L.length ≤ 5 ∧ PhB L) ∧ ((r = 0 ∧ L = [] ∧ c' = c2) ∨ (r ≠ 0 ∧ r = 1 ∧ L = (f N).2.1.set 0 ⟨w.phases, x0⟩ ∧ c' = c3) ∨ (r ≠ 0 ∧ r ≠ 1 ∧ r = 2 ∧ L = (g K).2.1 ∧ c' = (g (K + 1)).1) ∨ (r ≠ 0 ∧ r ≠ 1 ∧ r ≠ 2 ∧ L = (f N).2.1 ∧ c' = c2)) := by
    by_cases e0 : r = 0
    · exact ⟨[], c2, aft2.le aO, ⟨by simp, fun x hx => (by cases hx)⟩, Or.inl ⟨e0, rfl, rfl⟩⟩
    · by_cases e1 : r = 1
      · exact ⟨_, c3, (aft2.trans a3).le aO, ⟨by rw [List.length_set]; omega, hsb⟩, Or.inr (Or.inl ⟨e0, e1, rfl, rfl⟩)⟩
      · by_cases e2 : r = 2
        · exact ⟨_, _, (aft2.trans adK1).le aO, ⟨hlK7, hbK⟩, Or.inr (Or.inr (Or.inl ⟨e0, e1, e2, rfl, rfl⟩))⟩
        · exact ⟨_, c2, aft2.le aO, ⟨by omega, hb⟩, Or.inr (Or.inr (Or.inr ⟨e0, e1, e2, rfl, rfl⟩))⟩
  obtain ⟨L, c', hA, hL, key⟩ := key
  refine ⟨L, c', ?_, hA, hL.1, hL.2⟩
  clear hA hL
  refine za6 hmix Try.func138 rfl (by kernel_rfl) (by kernel_rfl) (Nat.le_of_ble_eq_true rfl) (fun row h => by (simp only [List.mem_cons, List.not_mem_nil, or_false] at h; first | (subst h; (first | exact .inl rfl | exact .inr (fun e he u hu => by (simp only [List.mem_cons, List.not_mem_nil, or_false] at he; subst he; simp only [List.mem_cons, List.not_mem_nil, or_false] at hu; subst hu; rfl)))) | (rcases h with rfl | rfl <;> (first | exact .inl rfl | exact .inr (fun e he u hu => by (simp only [List.mem_cons, List.not_mem_nil, or_false] at he; subst he; simp only [List.mem_cons, List.not_mem_nil, or_false] at hu; subst hu; rfl)))) | (rcases h with rfl | rfl | rfl <;> (first | exact .inl rfl | exact .inr (fun e he u hu => by (simp only [List.mem_cons, List.not_mem_nil, or_false] at he; subst he; simp only [List.mem_cons, List.not_mem_nil, or_false] at hu; subst hu; rfl)))) | (rcases h with rfl | rfl | rfl | rfl <;> (first | exact .inl rfl | exact .inr (fun e he u hu => by (simp only [List.mem_cons, List.not_mem_nil, or_false] at he; subst he; simp only [List.mem_cons, List.not_mem_nil, or_false] at hu; subst hu; rfl)))))) ?_
  have hty_s51 := ty_s51
  have hty_s24 := ty_s24
  have hty_u24 := ty_u24
  have hty_st56 := ty_st56
  have hty_u51 := ty_u51
  have hty_f56_0 := ty_f56_0
  have hty_c27 := ty_c27
  have hty_t56 := ty_t56
  have hty_a56 := ty_a56
  have hty_st75 := ty_st75
  have hty_s27 := ty_s27
  repeat' (first
      | (refine za1 ?_; first | (refine za5 ?_; refine zat _ rfl ?_) | (refine zae ?_; refine zaa _ rfl ?_) | (refine zbv ?_; first | (refine zbz rfl rfl aO ?_) | (refine zcg rfl rfl aO ?_) | (refine zbu _ rfl rfl rfl ?_) | (refine zbt aA rfl rfl ?_) | (refine zaw _ rfl rfl rfl ?_)) | (refine zbk ?_; first | (refine zaj aA rfl ?_) | (refine zak _ aA rfl rfl aE rfl ?_) | (refine zah _ aA rfl aZ aL ?_) | (refine zai _ aA rfl rfl aE aZ aL ?_)) | (refine zbm ?_; first | (refine zax _ aA rfl aL ?_) | (refine zay _ aA rfl rfl (by simp only [lx, Nat.reduceAdd]; first | done | rfl) ?_)) | (refine zbd ?_; first | (refine zau _ aA rfl rfl aO aA ?_) | (refine zav _ aA rfl rfl rfl rfl aO aO (by first | (rw [Nat.zero_add, Int.toNat_natCast]) | (rw [Nat.zero_add]) | rfl) ?_)) | (refine za7 ?_; first | (refine zcb [(io, 0)] (k1) rfl rfl (by (repeat' (first | exact trivial | refine ⟨⟨_, rfl, ?_⟩, ?_⟩ | exact .inl ⟨rfl, .inl rfl⟩ | exact .inr ⟨rfl, rfl, rfl, rfl, rfl, fun e he u hu => by (simp only [List.mem_cons, List.not_mem_nil, or_false] at he; subst he; simp only [List.mem_cons, List.not_mem_nil, or_false] at hu; subst hu; rfl)⟩ | exact .inl ⟨rfl, .inr (fun e he => by (simp only [List.mem_cons, List.not_mem_nil, or_false] at he; subst he; rfl))⟩ | fail)); first | done | fail) rfl rfl aS rfl aH rfl ?_; simp only [cl]) | (refine zba aA rfl ?_) | (refine zbb aA rfl rfl ?_) | (refine zbc aA rfl ?_) | (refine za9 aA (evO_ok rfl) ?_) | (refine zb7 _ _ aA rfl (lookM (by rfl)) rfl (lookM (by rfl)) rfl aN ⟨rfl, rfl, by decide, by decide⟩ (by first | rfl | omega | (simp; done) | (simp; omega) | fail) ⟨by first | (simp only [List.length_cons, List.length_nil]; omega) | omega | fail, by decide⟩ rfl (by first | (first | (simp only [lx, Nat.reduceAdd]; first | done | rfl) | fail) | rfl) aP ?_) | (refine zb8 _ _ aA rfl rfl (lookM (by rfl)) ⟨rfl, by decide⟩ aN (by first | exact Nat.succ_pos _ | omega | (simp; done)) ⟨by first | (simp only [List.length_cons, List.length_nil]; omega) | omega | fail, by decide⟩ rfl rfl aP ?_) | (refine zb6 _ aA rfl rfl (lookM (by rfl)) ⟨rfl, by decide⟩ aN ⟨by first | (simp only [List.length_cons, List.length_nil]; omega) | omega | fail, by decide⟩ rfl aP ?_) | (refine zb1 _ aA rfl rfl rfl ⟨rfl, rfl, rfl, by decide, by decide⟩ (by first | rfl | (simp; done) | fail) ⟨by omega, by decide⟩ rfl aL (by first | (rw [Nat.zero_add]) | rfl) ?_)) | (first | refine x_buildSliceL (d := 49) aA rfl rfl rfl ?_ | refine zbe aA rfl rfl rfl ?_) | (refine zch _ _ aA rfl rfl (by simp [buildPV, PV.cells]; first | done | rfl) ?_) | (refine zbn _ _ _ rfl rfl aE (by first | assumption | (exact TAgg.size aA)) rfl rfl rfl aZ rfl aL (by first | (first | (simp only [lx, Nat.reduceAdd]; first | done | rfl) | fail) | rfl) ?_) | (refine zas (hK _ _ (.inl rfl) ?_); clear hK K) | (refine zas (hK _ _ (.inr (by kernel_rfl)) ?_); clear hK K))
      | (refine za4 ?_; first | (refine zbq ?_) | (refine zad (fun K hK => ?_)) | (refine zao ?_) | (refine za2 ?_) | (refine zbr ?_) | (refine za3 ?_) | (refine zbl ?_; first | (refine zam rfl aD ?_) | (refine zal rfl aD ?_) | (refine zaz rfl (fun h => ?_) (fun h => ?_) <;> (have h' := h; (try simp only [sx] at h')))))
      | (refine za0 ?_) | (refine zab ?_) | (refine zac ?_) | (refine zar ?_) | (refine zap ?_) | (refine zaq ?_) | (refine zan rfl ?_) | (refine zaf ?_) | (refine zag ?_) | (refine zbs ?_))
  all_goals try (exfalso; omega)
  refine zcf [0] [(io, 0), (1001, 0)] (fun q : Nat × Cu × List (List PV) × Int × Nat => [(3, .osl (1001, 0) 0 q.2.2.2.2), (4, .int .i64 q.2.2.2.1)]) (fun q : Nat × Cu × List (List PV) × Int × Nat => [((io, 0), some (cuRow q.2.1)), ((1001, 0), some ⟨56, 2, q.2.2.1, false⟩)]) (fun q : Nat × Cu × List (List PV) × Int × Nat => q.2.1 = (f q.1).1 ∧ q.2.2.1 = (f q.1).2.1.map Scen.pv ∧ q.2.2.2.1 = (N : Int) - q.1 ∧ q.1 ≤ N ∧ q.2.2.1.length = q.2.2.2.2) (fun q : Nat × Cu × List (List PV) × Int × Nat => N - q.1) ((0, c1, [], 1 + n0, 0)) rfl rfl (fun _ => rfl) (fun _ => rfl) rfl aW ⟨by rw [f0], by rw [f0]; rfl, by simp only; omega, by simp, rfl⟩ (fun q hq => ?_)
  obtain ⟨m, d, es, v, en⟩ := q
  obtain ⟨hd, hes, hv, hmN, hen⟩ := hq
  try simp only at hd hes hv hmN hen
  dsimp only
  obtain ⟨ad, hl2, hb2⟩ := (fs m).1 aO
  have hel : es.length = m := by rw [hes, List.length_map, hl2]
  have hne := hen.symm
  by_cases hlt : m < N
  · obtain ⟨ps, cc, x, kp, ka, e1⟩ := (fs m).2 aO
    rw [← hd] at kp
    repeat' (first
      | (refine za1 ?_; first | (refine za5 ?_; refine zat _ rfl ?_) | (refine zae ?_; refine zaa _ rfl ?_) | (refine zbv ?_; first | (refine zbz rfl rfl aO ?_) | (refine zcg rfl rfl aO ?_) | (refine zbu _ rfl rfl rfl ?_) | (refine zbt aA rfl rfl ?_) | (refine zaw _ rfl rfl rfl ?_)) | (refine zbk ?_; first | (refine zaj aA rfl ?_) | (refine zak _ aA rfl rfl aE rfl ?_) | (refine zah _ aA rfl aZ aL ?_) | (refine zai _ aA rfl rfl aE aZ aL ?_)) | (refine zbm ?_; first | (refine zax _ aA rfl aL ?_) | (refine zay _ aA rfl rfl (by simp only [lx, Nat.reduceAdd]; first | done | rfl) ?_)) | (refine zbd ?_; first | (refine zau _ aA rfl rfl aO aA ?_) | (refine zav _ aA rfl rfl rfl rfl aO aO (by first | (rw [Nat.zero_add, Int.toNat_natCast]) | (rw [Nat.zero_add]) | rfl) ?_)) | (refine za7 ?_; first | (refine zcb [(io, 0)] (kp) rfl rfl (by (repeat' (first | exact trivial | refine ⟨⟨_, rfl, ?_⟩, ?_⟩ | exact .inl ⟨rfl, .inl rfl⟩ | exact .inr ⟨rfl, rfl, rfl, rfl, rfl, fun e he u hu => by (simp only [List.mem_cons, List.not_mem_nil, or_false] at he; subst he; simp only [List.mem_cons, List.not_mem_nil, or_false] at hu; subst hu; rfl)⟩ | exact .inl ⟨rfl, .inr (fun e he => by (simp only [List.mem_cons, List.not_mem_nil, or_false] at he; subst he; rfl))⟩ | fail)); first | done | fail) rfl rfl aS rfl aH rfl ?_; simp only [cl]) | (refine zcb [(io, 0)] (ka) rfl rfl (by (repeat' (first | exact trivial | refine ⟨⟨_, rfl, ?_⟩, ?_⟩ | exact .inl ⟨rfl, .inl rfl⟩ | exact .inr ⟨rfl, rfl, rfl, rfl, rfl, fun e he u hu => by (simp only [List.mem_cons, List.not_mem_nil, or_false] at he; subst he; simp only [List.mem_cons, List.not_mem_nil, or_false] at hu; subst hu; rfl)⟩ | exact .inl ⟨rfl, .inr (fun e he => by (simp only [List.mem_cons, List.not_mem_nil, or_false] at he; subst he; rfl))⟩ | fail)); first | done | fail) rfl rfl aS rfl aH rfl ?_; simp only [cl]) | (refine zba aA rfl ?_) | (refine zbb aA rfl rfl ?_) | (refine zbc aA rfl ?_) | (refine za9 aA (evO_ok rfl) ?_) | (refine zb7 _ _ aA rfl (lookM (by rfl)) rfl (lookM (by rfl)) rfl aN ⟨rfl, rfl, by decide, by decide⟩ (by first | rfl | omega | (simp; done) | (simp; omega) | fail) ⟨by first | (simp only [List.length_cons, List.length_nil]; omega) | omega | fail, by decide⟩ rfl (by first | (first | (simp only [lx, Nat.reduceAdd]; first | done | rfl) | fail) | rfl) aP ?_) | (refine zb8 _ _ aA rfl rfl (lookM (by rfl)) ⟨rfl, by decide⟩ aN (by first | exact Nat.succ_pos _ | omega | (simp; done)) ⟨by first | (simp only [List.length_cons, List.length_nil]; omega) | omega | fail, by decide⟩ rfl rfl aP ?_) | (refine zb6 _ aA rfl rfl (lookM (by rfl)) ⟨rfl, by decide⟩ aN ⟨by first | (simp only [List.length_cons, List.length_nil]; omega) | omega | fail, by decide⟩ rfl aP ?_) | (refine zb1 _ aA rfl rfl rfl ⟨rfl, rfl, rfl, by decide, by decide⟩ (by first | rfl | (simp; done) | fail) ⟨by omega, by decide⟩ rfl aL (by first | (rw [Nat.zero_add]) | rfl) ?_)) | (first | refine x_buildSliceL (d := 49) aA rfl rfl rfl ?_ | refine zbe aA rfl rfl rfl ?_) | (refine zch _ _ aA rfl rfl (by simp [buildPV, PV.cells]; first | done | rfl) ?_) | (refine zbn _ _ _ rfl rfl aE (by first | assumption | (exact TAgg.size aA)) rfl rfl rfl aZ rfl aL (by first | (first | (simp only [lx, Nat.reduceAdd]; first | done | rfl) | fail) | rfl) ?_) | (refine zas (hK _ _ (.inl rfl) ?_); clear hK K) | (refine zas (hK _ _ (.inr (by kernel_rfl)) ?_); clear hK K))
      | (refine za4 ?_; first | (refine zbq ?_) | (refine zad (fun K hK => ?_)) | (refine zao ?_) | (refine za2 ?_) | (refine zbr ?_) | (refine za3 ?_) | (refine zbl ?_; first | (refine zam rfl aD ?_) | (refine zal rfl aD ?_) | (refine zaz rfl (fun h => ?_) (fun h => ?_) <;> (have h' := h; (try simp only [sx] at h')))))
      | (refine za0 ?_) | (refine zab ?_) | (refine zac ?_) | (refine zar ?_) | (refine zap ?_) | (refine zaq ?_) | (refine zan rfl ?_) | (refine zaf ?_) | (refine zag ?_) | (refine zbs ?_))
    all_goals try (exfalso; omega)
    all_goals (refine zb9 (m + 1, (f (m + 1)).1, es ++ [[.list 2 (ps.map Phase.pv), .int .i64 x]], v - 1, en + 1) rfl aW ⟨rfl, by simp [hes, e1], by first | omega | (simp only; omega), by first | omega | (simp only; omega), by simp [hen]⟩ (by first | omega | (simp only; omega)))
  · have hmN2 : m = N := by omega
    subst hmN2
    rw [← hd] at k2
    rw [← hes] at hw2 hse
    rcases key with ⟨e0, rfl, rfl⟩ | ⟨e0, e1, rfl, rfl⟩ | ⟨e0, e1, e2, rfl, rfl⟩ | ⟨e0, e1, e2, rfl, rfl⟩
    · repeat' (first
      | (refine za1 ?_; first | (refine za5 ?_; refine zat _ rfl ?_) | (refine zae ?_; refine zaa _ rfl ?_) | (refine zbv ?_; first | (refine zbz rfl rfl aO ?_) | (refine zcg rfl rfl aO ?_) | (refine zbu _ rfl rfl rfl ?_) | (refine zbt aA rfl rfl ?_) | (refine zaw _ rfl rfl rfl ?_)) | (refine zbk ?_; first | (refine zaj aA rfl ?_) | (refine zak _ aA rfl rfl aE rfl ?_) | (refine zah _ aA rfl aZ aL ?_) | (refine zai _ aA rfl rfl aE aZ aL ?_)) | (refine zbm ?_; first | (refine zax _ aA rfl aL ?_) | (refine zay _ aA rfl rfl (by simp only [lx, Nat.reduceAdd]; first | done | rfl) ?_)) | (refine zbd ?_; first | (refine zau _ aA rfl rfl aO aA ?_) | (refine zav _ aA rfl rfl rfl rfl aO aO (by first | (rw [Nat.zero_add, Int.toNat_natCast]) | (rw [Nat.zero_add]) | rfl) ?_)) | (refine za7 ?_; first | (refine zcb [(io, 0)] (k2) rfl rfl (by (repeat' (first | exact trivial | refine ⟨⟨_, rfl, ?_⟩, ?_⟩ | exact .inl ⟨rfl, .inl rfl⟩ | exact .inr ⟨rfl, rfl, rfl, rfl, rfl, fun e he u hu => by (simp only [List.mem_cons, List.not_mem_nil, or_false] at he; subst he; simp only [List.mem_cons, List.not_mem_nil, or_false] at hu; subst hu; rfl)⟩ | exact .inl ⟨rfl, .inr (fun e he => by (simp only [List.mem_cons, List.not_mem_nil, or_false] at he; subst he; rfl))⟩ | fail)); first | done | fail) rfl rfl aS rfl aH rfl ?_; simp only [cl]) | (refine zba aA rfl ?_) | (refine zbb aA rfl rfl ?_) | (refine zbc aA rfl ?_) | (refine za9 aA (evO_ok rfl) ?_) | (refine zb7 _ _ aA rfl (lookM (by rfl)) rfl (lookM (by rfl)) rfl aN ⟨rfl, rfl, by decide, by decide⟩ (by first | rfl | omega | (simp; done) | (simp; omega) | fail) ⟨by first | (simp only [List.length_cons, List.length_nil]; omega) | omega | fail, by decide⟩ rfl (by first | (first | (simp only [lx, Nat.reduceAdd]; first | done | rfl) | fail) | rfl) aP ?_) | (refine zb8 _ _ aA rfl rfl (lookM (by rfl)) ⟨rfl, by decide⟩ aN (by first | exact Nat.succ_pos _ | omega | (simp; done)) ⟨by first | (simp only [List.length_cons, List.length_nil]; omega) | omega | fail, by decide⟩ rfl rfl aP ?_) | (refine zb6 _ aA rfl rfl (lookM (by rfl)) ⟨rfl, by decide⟩ aN ⟨by first | (simp only [List.length_cons, List.length_nil]; omega) | omega | fail, by decide⟩ rfl aP ?_) | (refine zb1 _ aA rfl rfl rfl ⟨rfl, rfl, rfl, by decide, by decide⟩ (by first | rfl | (simp; done) | fail) ⟨by omega, by decide⟩ rfl aL (by first | (rw [Nat.zero_add]) | rfl) ?_)) | (first | refine x_buildSliceL (d := 49) aA rfl rfl rfl ?_ | refine zbe aA rfl rfl rfl ?_) | (refine zch _ _ aA rfl rfl (by simp [buildPV, PV.cells]; first | done | rfl) ?_) | (refine zbn _ _ _ rfl rfl aE (by first | assumption | (exact TAgg.size aA)) rfl rfl rfl aZ rfl aL (by first | (first | (simp only [lx, Nat.reduceAdd]; first | done | rfl) | fail) | rfl) ?_) | (refine zas (hK _ _ (.inl rfl) ?_); clear hK K) | (refine zas (hK _ _ (.inr (by kernel_rfl)) ?_); clear hK K))
      | (refine za4 ?_; first | (refine zbq ?_) | (refine zad (fun K hK => ?_)) | (refine zao ?_) | (refine za2 ?_) | (refine zbr ?_) | (refine za3 ?_) | (refine zbl ?_; first | (refine zam rfl aD ?_) | (refine zal rfl aD ?_) | (refine zaz rfl (fun h => ?_) (fun h => ?_) <;> (have h' := h; (try simp only [sx] at h')))))
      | (refine za0 ?_) | (refine zab ?_) | (refine zac ?_) | (refine zar ?_) | (refine zap ?_) | (refine zaq ?_) | (refine zan rfl ?_) | (refine zaf ?_) | (refine zag ?_) | (refine zbs ?_))
      all_goals first
        | (exfalso; omega)
        | exact ret_lL rfl rfl rfl (by decide) ⟨⟨rfl, rfl, fun h => by cases h⟩, trivial⟩ rfl rfl rfl rfl
    · repeat' (first
      | (refine za1 ?_; first | (refine za5 ?_; refine zat _ rfl ?_) | (refine zae ?_; refine zaa _ rfl ?_) | (refine zbv ?_; first | (refine zbz rfl rfl aO ?_) | (refine zcg rfl rfl aO ?_) | (refine zbu _ rfl rfl rfl ?_) | (refine zbt aA rfl rfl ?_) | (refine zaw _ rfl rfl rfl ?_)) | (refine zbk ?_; first | (refine zaj aA rfl ?_) | (refine zak _ aA rfl rfl aE rfl ?_) | (refine zah _ aA rfl aZ aL ?_) | (refine zai _ aA rfl rfl aE aZ aL ?_)) | (refine zbm ?_; first | (refine zax _ aA rfl aL ?_) | (refine zay _ aA rfl rfl (by simp only [lx, Nat.reduceAdd]; first | done | rfl) ?_)) | (refine zbd ?_; first | (refine zau _ aA rfl rfl aO aA ?_) | (refine zav _ aA rfl rfl rfl rfl aO aO (by first | (rw [Nat.zero_add, Int.toNat_natCast]) | (rw [Nat.zero_add]) | rfl) ?_)) | (refine za7 ?_; first | (refine zcb [(io, 0)] (k2) rfl rfl (by (repeat' (first | exact trivial | refine ⟨⟨_, rfl, ?_⟩, ?_⟩ | exact .inl ⟨rfl, .inl rfl⟩ | exact .inr ⟨rfl, rfl, rfl, rfl, rfl, fun e he u hu => by (simp only [List.mem_cons, List.not_mem_nil, or_false] at he; subst he; simp only [List.mem_cons, List.not_mem_nil, or_false] at hu; subst hu; rfl)⟩ | exact .inl ⟨rfl, .inr (fun e he => by (simp only [List.mem_cons, List.not_mem_nil, or_false] at he; subst he; rfl))⟩ | fail)); first | done | fail) rfl rfl aS rfl aH rfl ?_; simp only [cl]) | (refine zcb [(io, 0)] (k3) rfl rfl (by (repeat' (first | exact trivial | refine ⟨⟨_, rfl, ?_⟩, ?_⟩ | exact .inl ⟨rfl, .inl rfl⟩ | exact .inr ⟨rfl, rfl, rfl, rfl, rfl, fun e he u hu => by (simp only [List.mem_cons, List.not_mem_nil, or_false] at he; subst he; simp only [List.mem_cons, List.not_mem_nil, or_false] at hu; subst hu; rfl)⟩ | exact .inl ⟨rfl, .inr (fun e he => by (simp only [List.mem_cons, List.not_mem_nil, or_false] at he; subst he; rfl))⟩ | fail)); first | done | fail) rfl rfl aS rfl aH rfl ?_; simp only [cl]) | (refine zba aA rfl ?_) | (refine zbb aA rfl rfl ?_) | (refine zbc aA rfl ?_) | (refine za9 aA (evO_ok rfl) ?_) | (refine zb7 _ _ aA rfl (lookM (by rfl)) rfl (lookM (by rfl)) rfl aN ⟨rfl, rfl, by decide, by decide⟩ (by first | rfl | omega | (simp; done) | (simp; omega) | fail) ⟨by first | (simp only [List.length_cons, List.length_nil]; omega) | omega | fail, by decide⟩ rfl (by first | (first | (simp only [lx, Nat.reduceAdd]; first | done | rfl) | fail) | rfl) aP ?_) | (refine zb8 _ _ aA rfl rfl (lookM (by rfl)) ⟨rfl, by decide⟩ aN (by first | exact Nat.succ_pos _ | omega | (simp; done)) ⟨by first | (simp only [List.length_cons, List.length_nil]; omega) | omega | fail, by decide⟩ rfl rfl aP ?_) | (refine zb6 _ aA rfl rfl (lookM (by rfl)) ⟨rfl, by decide⟩ aN ⟨by first | (simp only [List.length_cons, List.length_nil]; omega) | omega | fail, by decide⟩ rfl aP ?_) | (refine zb1 _ aA rfl rfl rfl ⟨rfl, rfl, rfl, by decide, by decide⟩ (by first | rfl | (simp; done) | fail) ⟨by omega, by decide⟩ rfl aL (by first | (rw [Nat.zero_add]) | rfl) ?_)) | (first | refine x_buildSliceL (d := 49) aA rfl rfl rfl ?_ | refine zbe aA rfl rfl rfl ?_) | (refine zch _ _ aA rfl rfl (by simp [buildPV, PV.cells]; first | done | rfl) ?_) | (refine zbn _ _ _ rfl rfl aE (by first | assumption | (exact TAgg.size aA)) rfl rfl rfl aZ rfl aL (by first | (first | (simp only [lx, Nat.reduceAdd]; first | done | rfl) | fail) | rfl) ?_) | (refine zas (hK _ _ (.inl rfl) ?_); clear hK K) | (refine zas (hK _ _ (.inr (by kernel_rfl)) ?_); clear hK K))
      | (refine za4 ?_; first | (refine zbq ?_) | (refine zad (fun K hK => ?_)) | (refine zao ?_) | (refine za2 ?_) | (refine zbr ?_) | (refine za3 ?_) | (refine zbl ?_; first | (refine zam rfl aD ?_) | (refine zal rfl aD ?_) | (refine zaz rfl (fun h => ?_) (fun h => ?_) <;> (have h' := h; (try simp only [sx] at h')))))
      | (refine za0 ?_) | (refine zab ?_) | (refine zac ?_) | (refine zar ?_) | (refine zap ?_) | (refine zaq ?_) | (refine zan rfl ?_) | (refine zaf ?_) | (refine zag ?_) | (refine zbs ?_))
      all_goals first
        | (exfalso; omega)
        | exact ret_lL rfl rfl rfl (by decide) ⟨⟨rfl, rfl, fun h => by cases h⟩, trivial⟩ rfl rfl (by simp [hel, hen]; try omega) hse
    · repeat' (first
      | (refine za1 ?_; first | (refine za5 ?_; refine zat _ rfl ?_) | (refine zae ?_; refine zaa _ rfl ?_) | (refine zbv ?_; first | (refine zbz rfl rfl aO ?_) | (refine zcg rfl rfl aO ?_) | (refine zbu _ rfl rfl rfl ?_) | (refine zbt aA rfl rfl ?_) | (refine zaw _ rfl rfl rfl ?_)) | (refine zbk ?_; first | (refine zaj aA rfl ?_) | (refine zak _ aA rfl rfl aE rfl ?_) | (refine zah _ aA rfl aZ aL ?_) | (refine zai _ aA rfl rfl aE aZ aL ?_)) | (refine zbm ?_; first | (refine zax _ aA rfl aL ?_) | (refine zay _ aA rfl rfl (by simp only [lx, Nat.reduceAdd]; first | done | rfl) ?_)) | (refine zbd ?_; first | (refine zau _ aA rfl rfl aO aA ?_) | (refine zav _ aA rfl rfl rfl rfl aO aO (by first | (rw [Nat.zero_add, Int.toNat_natCast]) | (rw [Nat.zero_add]) | rfl) ?_)) | (refine za7 ?_; first | (refine zcb [(io, 0)] (k2) rfl rfl (by (repeat' (first | exact trivial | refine ⟨⟨_, rfl, ?_⟩, ?_⟩ | exact .inl ⟨rfl, .inl rfl⟩ | exact .inr ⟨rfl, rfl, rfl, rfl, rfl, fun e he u hu => by (simp only [List.mem_cons, List.not_mem_nil, or_false] at he; subst he; simp only [List.mem_cons, List.not_mem_nil, or_false] at hu; subst hu; rfl)⟩ | exact .inl ⟨rfl, .inr (fun e he => by (simp only [List.mem_cons, List.not_mem_nil, or_false] at he; subst he; rfl))⟩ | fail)); first | done | fail) rfl rfl aS rfl aH rfl ?_; simp only [cl]) | (refine zba aA rfl ?_) | (refine zbb aA rfl rfl ?_) | (refine zbc aA rfl ?_) | (refine za9 aA (evO_ok rfl) ?_) | (refine zb7 _ _ aA rfl (lookM (by rfl)) rfl (lookM (by rfl)) rfl aN ⟨rfl, rfl, by decide, by decide⟩ (by first | rfl | omega | (simp; done) | (simp; omega) | fail) ⟨by first | (simp only [List.length_cons, List.length_nil]; omega) | omega | fail, by decide⟩ rfl (by first | (first | (simp only [lx, Nat.reduceAdd]; first | done | rfl) | fail) | rfl) aP ?_) | (refine zb8 _ _ aA rfl rfl (lookM (by rfl)) ⟨rfl, by decide⟩ aN (by first | exact Nat.succ_pos _ | omega | (simp; done)) ⟨by first | (simp only [List.length_cons, List.length_nil]; omega) | omega | fail, by decide⟩ rfl rfl aP ?_) | (refine zb6 _ aA rfl rfl (lookM (by rfl)) ⟨rfl, by decide⟩ aN ⟨by first | (simp only [List.length_cons, List.length_nil]; omega) | omega | fail, by decide⟩ rfl aP ?_) | (refine zb1 _ aA rfl rfl rfl ⟨rfl, rfl, rfl, by decide, by decide⟩ (by first | rfl | (simp; done) | fail) ⟨by omega, by decide⟩ rfl aL (by first | (rw [Nat.zero_add]) | rfl) ?_)) | (first | refine x_buildSliceL (d := 49) aA rfl rfl rfl ?_ | refine zbe aA rfl rfl rfl ?_) | (refine zch _ _ aA rfl rfl (by simp [buildPV, PV.cells]; first | done | rfl) ?_) | (refine zbn _ _ _ rfl rfl aE (by first | assumption | (exact TAgg.size aA)) rfl rfl rfl aZ rfl aL (by first | (first | (simp only [lx, Nat.reduceAdd]; first | done | rfl) | fail) | rfl) ?_) | (refine zas (hK _ _ (.inl rfl) ?_); clear hK K) | (refine zas (hK _ _ (.inr (by kernel_rfl)) ?_); clear hK K))
      | (refine za4 ?_; first | (refine zbq ?_) | (refine zad (fun K hK => ?_)) | (refine zao ?_) | (refine za2 ?_) | (refine zbr ?_) | (refine za3 ?_) | (refine zbl ?_; first | (refine zam rfl aD ?_) | (refine zal rfl aD ?_) | (refine zaz rfl (fun h => ?_) (fun h => ?_) <;> (have h' := h; (try simp only [sx] at h')))))
      | (refine za0 ?_) | (refine zab ?_) | (refine zac ?_) | (refine zar ?_) | (refine zap ?_) | (refine zaq ?_) | (refine zan rfl ?_) | (refine zaf ?_) | (refine zag ?_) | (refine zbs ?_))
      all_goals try (exfalso; omega)
      refine zcf [0] [(io, 0), (1001, 0)] (fun q : Nat × Cu × List (List PV) × Nat => [(3, .osl (1001, 0) 0 q.2.2.2)]) (fun q : Nat × Cu × List (List PV) × Nat => [((io, 0), some (cuRow q.2.1)), ((1001, 0), some ⟨56, 2, q.2.2.1, false⟩)]) (fun q : Nat × Cu × List (List PV) × Nat => q.2.1 = (g q.1).1 ∧ q.2.2.1 = (g q.1).2.1.map Scen.pv ∧ q.1 ≤ K ∧ q.2.2.1.length = q.2.2.2) (fun q : Nat × Cu × List (List PV) × Nat => K - q.1) ((0, c2, es, en)) rfl rfl (fun _ => rfl) (fun _ => rfl) rfl aW ⟨by rw [g0], by rw [g0, hes], by simp, hen⟩ (fun q hq => ?_)
      obtain ⟨j, d2, fs2, fn2⟩ := q
      obtain ⟨hd2, hfs2, hjK, hfn⟩ := hq
      try simp only at hd2 hfs2 hjK hfn
      dsimp only
      obtain ⟨adj, hlj, _⟩ := (gs j).1 aO
      obtain ⟨kj, bj, ej⟩ := (gs j).2 aO
      have hel2 : fs2.length = m + j := by rw [hfs2, List.length_map, hlj]
      have hnf := hfn.symm
      rw [← hd2] at kj
      by_cases hjlt : j < K
      · have hgo := hKl j hjlt
        simp only [Classical.not_not] at hgo
        repeat' (first
      | (refine za1 ?_; first | (refine za5 ?_; refine zat _ rfl ?_) | (refine zae ?_; refine zaa _ rfl ?_) | (refine zbv ?_; first | (refine zbz rfl rfl aO ?_) | (refine zcg rfl rfl aO ?_) | (refine zbu _ rfl rfl rfl ?_) | (refine zbt aA rfl rfl ?_) | (refine zaw _ rfl rfl rfl ?_)) | (refine zbk ?_; first | (refine zaj aA rfl ?_) | (refine zak _ aA rfl rfl aE rfl ?_) | (refine zah _ aA rfl aZ aL ?_) | (refine zai _ aA rfl rfl aE aZ aL ?_)) | (refine zbm ?_; first | (refine zax _ aA rfl aL ?_) | (refine zay _ aA rfl rfl (by simp only [lx, Nat.reduceAdd]; first | done | rfl) ?_)) | (refine zbd ?_; first | (refine zau _ aA rfl rfl aO aA ?_) | (refine zav _ aA rfl rfl rfl rfl aO aO (by first | (rw [Nat.zero_add, Int.toNat_natCast]) | (rw [Nat.zero_add]) | rfl) ?_)) | (refine za7 ?_; first | (refine zcb [(io, 0)] (kj) rfl rfl (by (repeat' (first | exact trivial | refine ⟨⟨_, rfl, ?_⟩, ?_⟩ | exact .inl ⟨rfl, .inl rfl⟩ | exact .inr ⟨rfl, rfl, rfl, rfl, rfl, fun e he u hu => by (simp only [List.mem_cons, List.not_mem_nil, or_false] at he; subst he; simp only [List.mem_cons, List.not_mem_nil, or_false] at hu; subst hu; rfl)⟩ | exact .inl ⟨rfl, .inr (fun e he => by (simp only [List.mem_cons, List.not_mem_nil, or_false] at he; subst he; rfl))⟩ | fail)); first | done | fail) rfl rfl aS rfl aH rfl ?_; simp only [cl]) | (refine zba aA rfl ?_) | (refine zbb aA rfl rfl ?_) | (refine zbc aA rfl ?_) | (refine za9 aA (evO_ok rfl) ?_) | (refine zb7 _ _ aA rfl (lookM (by rfl)) rfl (lookM (by rfl)) rfl aN ⟨rfl, rfl, by decide, by decide⟩ (by first | rfl | omega | (simp; done) | (simp; omega) | fail) ⟨by first | (simp only [List.length_cons, List.length_nil]; omega) | omega | fail, by decide⟩ rfl (by first | (first | (simp only [lx, Nat.reduceAdd]; first | done | rfl) | fail) | rfl) aP ?_) | (refine zb8 _ _ aA rfl rfl (lookM (by rfl)) ⟨rfl, by decide⟩ aN (by first | exact Nat.succ_pos _ | omega | (simp; done)) ⟨by first | (simp only [List.length_cons, List.length_nil]; omega) | omega | fail, by decide⟩ rfl rfl aP ?_) | (refine zb6 _ aA rfl rfl (lookM (by rfl)) ⟨rfl, by decide⟩ aN ⟨by first | (simp only [List.length_cons, List.length_nil]; omega) | omega | fail, by decide⟩ rfl aP ?_) | (refine zb1 _ aA rfl rfl rfl ⟨rfl, rfl, rfl, by decide, by decide⟩ (by first | rfl | (simp; done) | fail) ⟨by omega, by decide⟩ rfl aL (by first | (rw [Nat.zero_add]) | rfl) ?_)) | (first | refine x_buildSliceL (d := 49) aA rfl rfl rfl ?_ | refine zbe aA rfl rfl rfl ?_) | (refine zch _ _ aA rfl rfl (by simp [buildPV, PV.cells]; first | done | rfl) ?_) | (refine zbn _ _ _ rfl rfl aE (by first | assumption | (exact TAgg.size aA)) rfl rfl rfl aZ rfl aL (by first | (first | (simp only [lx, Nat.reduceAdd]; first | done | rfl) | fail) | rfl) ?_) | (refine zas (hK _ _ (.inl rfl) ?_); clear hK K) | (refine zas (hK _ _ (.inr (by kernel_rfl)) ?_); clear hK K))
      | (refine za4 ?_; first | (refine zbq ?_) | (refine zad (fun K hK => ?_)) | (refine zao ?_) | (refine za2 ?_) | (refine zbr ?_) | (refine za3 ?_) | (refine zbl ?_; first | (refine zam rfl aD ?_) | (refine zal rfl aD ?_) | (refine zaz rfl (fun h => ?_) (fun h => ?_) <;> (have h' := h; (try simp only [sx] at h')))))
      | (refine za0 ?_) | (refine zab ?_) | (refine zac ?_) | (refine zar ?_) | (refine zap ?_) | (refine zaq ?_) | (refine zan rfl ?_) | (refine zaf ?_) | (refine zag ?_) | (refine zbs ?_))
        all_goals try (exfalso; omega)
        all_goals (refine zb9 (j + 1, (g (j + 1)).1, fs2 ++ [[.list 2 [[.int .i64 0, .int .i64 5]], .int .i64 1]], fn2 + 1) rfl aW ⟨rfl, by simp [hfs2, ej, Phase.pv], by first | omega | (simp only; omega), by simp [hfn]⟩ (by first | omega | (simp only; omega)))
      · have hjK2 : j = K := by omega
        subst hjK2
        try simp only at hK
        repeat' (first
      | (refine za1 ?_; first | (refine za5 ?_; refine zat _ rfl ?_) | (refine zae ?_; refine zaa _ rfl ?_) | (refine zbv ?_; first | (refine zbz rfl rfl aO ?_) | (refine zcg rfl rfl aO ?_) | (refine zbu _ rfl rfl rfl ?_) | (refine zbt aA rfl rfl ?_) | (refine zaw _ rfl rfl rfl ?_)) | (refine zbk ?_; first | (refine zaj aA rfl ?_) | (refine zak _ aA rfl rfl aE rfl ?_) | (refine zah _ aA rfl aZ aL ?_) | (refine zai _ aA rfl rfl aE aZ aL ?_)) | (refine zbm ?_; first | (refine zax _ aA rfl aL ?_) | (refine zay _ aA rfl rfl (by simp only [lx, Nat.reduceAdd]; first | done | rfl) ?_)) | (refine zbd ?_; first | (refine zau _ aA rfl rfl aO aA ?_) | (refine zav _ aA rfl rfl rfl rfl aO aO (by first | (rw [Nat.zero_add, Int.toNat_natCast]) | (rw [Nat.zero_add]) | rfl) ?_)) | (refine za7 ?_; first | (refine zcb [(io, 0)] (kj) rfl rfl (by (repeat' (first | exact trivial | refine ⟨⟨_, rfl, ?_⟩, ?_⟩ | exact .inl ⟨rfl, .inl rfl⟩ | exact .inr ⟨rfl, rfl, rfl, rfl, rfl, fun e he u hu => by (simp only [List.mem_cons, List.not_mem_nil, or_false] at he; subst he; simp only [List.mem_cons, List.not_mem_nil, or_false] at hu; subst hu; rfl)⟩ | exact .inl ⟨rfl, .inr (fun e he => by (simp only [List.mem_cons, List.not_mem_nil, or_false] at he; subst he; rfl))⟩ | fail)); first | done | fail) rfl rfl aS rfl aH rfl ?_; simp only [cl]) | (refine zba aA rfl ?_) | (refine zbb aA rfl rfl ?_) | (refine zbc aA rfl ?_) | (refine za9 aA (evO_ok rfl) ?_) | (refine zb7 _ _ aA rfl (lookM (by rfl)) rfl (lookM (by rfl)) rfl aN ⟨rfl, rfl, by decide, by decide⟩ (by first | rfl | omega | (simp; done) | (simp; omega) | fail) ⟨by first | (simp only [List.length_cons, List.length_nil]; omega) | omega | fail, by decide⟩ rfl (by first | (first | (simp only [lx, Nat.reduceAdd]; first | done | rfl) | fail) | rfl) aP ?_) | (refine zb8 _ _ aA rfl rfl (lookM (by rfl)) ⟨rfl, by decide⟩ aN (by first | exact Nat.succ_pos _ | omega | (simp; done)) ⟨by first | (simp only [List.length_cons, List.length_nil]; omega) | omega | fail, by decide⟩ rfl rfl aP ?_) | (refine zb6 _ aA rfl rfl (lookM (by rfl)) ⟨rfl, by decide⟩ aN ⟨by first | (simp only [List.length_cons, List.length_nil]; omega) | omega | fail, by decide⟩ rfl aP ?_) | (refine zb1 _ aA rfl rfl rfl ⟨rfl, rfl, rfl, by decide, by decide⟩ (by first | rfl | (simp; done) | fail) ⟨by omega, by decide⟩ rfl aL (by first | (rw [Nat.zero_add]) | rfl) ?_)) | (first | refine x_buildSliceL (d := 49) aA rfl rfl rfl ?_ | refine zbe aA rfl rfl rfl ?_) | (refine zch _ _ aA rfl rfl (by simp [buildPV, PV.cells]; first | done | rfl) ?_) | (refine zbn _ _ _ rfl rfl aE (by first | assumption | (exact TAgg.size aA)) rfl rfl rfl aZ rfl aL (by first | (first | (simp only [lx, Nat.reduceAdd]; first | done | rfl) | fail) | rfl) ?_) | (refine zas (hK _ _ (.inl rfl) ?_); clear hK K) | (refine zas (hK _ _ (.inr (by kernel_rfl)) ?_); clear hK K))
      | (refine za4 ?_; first | (refine zbq ?_) | (refine zad (fun K hK => ?_)) | (refine zao ?_) | (refine za2 ?_) | (refine zbr ?_) | (refine za3 ?_) | (refine zbl ?_; first | (refine zam rfl aD ?_) | (refine zal rfl aD ?_) | (refine zaz rfl (fun h => ?_) (fun h => ?_) <;> (have h' := h; (try simp only [sx] at h')))))
      | (refine za0 ?_) | (refine zab ?_) | (refine zac ?_) | (refine zar ?_) | (refine zap ?_) | (refine zaq ?_) | (refine zan rfl ?_) | (refine zaf ?_) | (refine zag ?_) | (refine zbs ?_))
        all_goals first
          | (exfalso; omega)
          | exact ret_lL rfl rfl rfl (by decide) ⟨⟨rfl, rfl, fun h => by cases h⟩, trivial⟩ rfl rfl hnf hfs2
    · repeat' (first
      | (refine za1 ?_; first | (refine za5 ?_; refine zat _ rfl ?_) | (refine zae ?_; refine zaa _ rfl ?_) | (refine zbv ?_; first | (refine zbz rfl rfl aO ?_) | (refine zcg rfl rfl aO ?_) | (refine zbu _ rfl rfl rfl ?_) | (refine zbt aA rfl rfl ?_) | (refine zaw _ rfl rfl rfl ?_)) | (refine zbk ?_; first | (refine zaj aA rfl ?_) | (refine zak _ aA rfl rfl aE rfl ?_) | (refine zah _ aA rfl aZ aL ?_) | (refine zai _ aA rfl rfl aE aZ aL ?_)) | (refine zbm ?_; first | (refine zax _ aA rfl aL ?_) | (refine zay _ aA rfl rfl (by simp only [lx, Nat.reduceAdd]; first | done | rfl) ?_)) | (refine zbd ?_; first | (refine zau _ aA rfl rfl aO aA ?_) | (refine zav _ aA rfl rfl rfl rfl aO aO (by first | (rw [Nat.zero_add, Int.toNat_natCast]) | (rw [Nat.zero_add]) | rfl) ?_)) | (refine za7 ?_; first | (refine zcb [(io, 0)] (k2) rfl rfl (by (repeat' (first | exact trivial | refine ⟨⟨_, rfl, ?_⟩, ?_⟩ | exact .inl ⟨rfl, .inl rfl⟩ | exact .inr ⟨rfl, rfl, rfl, rfl, rfl, fun e he u hu => by (simp only [List.mem_cons, List.not_mem_nil, or_false] at he; subst he; simp only [List.mem_cons, List.not_mem_nil, or_false] at hu; subst hu; rfl)⟩ | exact .inl ⟨rfl, .inr (fun e he => by (simp only [List.mem_cons, List.not_mem_nil, or_false] at he; subst he; rfl))⟩ | fail)); first | done | fail) rfl rfl aS rfl aH rfl ?_; simp only [cl]) | (refine zba aA rfl ?_) | (refine zbb aA rfl rfl ?_) | (refine zbc aA rfl ?_) | (refine za9 aA (evO_ok rfl) ?_) | (refine zb7 _ _ aA rfl (lookM (by rfl)) rfl (lookM (by rfl)) rfl aN ⟨rfl, rfl, by decide, by decide⟩ (by first | rfl | omega | (simp; done) | (simp; omega) | fail) ⟨by first | (simp only [List.length_cons, List.length_nil]; omega) | omega | fail, by decide⟩ rfl (by first | (first | (simp only [lx, Nat.reduceAdd]; first | done | rfl) | fail) | rfl) aP ?_) | (refine zb8 _ _ aA rfl rfl (lookM (by rfl)) ⟨rfl, by decide⟩ aN (by first | exact Nat.succ_pos _ | omega | (simp; done)) ⟨by first | (simp only [List.length_cons, List.length_nil]; omega) | omega | fail, by decide⟩ rfl rfl aP ?_) | (refine zb6 _ aA rfl rfl (lookM (by rfl)) ⟨rfl, by decide⟩ aN ⟨by first | (simp only [List.length_cons, List.length_nil]; omega) | omega | fail, by decide⟩ rfl aP ?_) | (refine zb1 _ aA rfl rfl rfl ⟨rfl, rfl, rfl, by decide, by decide⟩ (by first | rfl | (simp; done) | fail) ⟨by omega, by decide⟩ rfl aL (by first | (rw [Nat.zero_add]) | rfl) ?_)) | (first | refine x_buildSliceL (d := 49) aA rfl rfl rfl ?_ | refine zbe aA rfl rfl rfl ?_) | (refine zch _ _ aA rfl rfl (by simp [buildPV, PV.cells]; first | done | rfl) ?_) | (refine zbn _ _ _ rfl rfl aE (by first | assumption | (exact TAgg.size aA)) rfl rfl rfl aZ rfl aL (by first | (first | (simp only [lx, Nat.reduceAdd]; first | done | rfl) | fail) | rfl) ?_) | (refine zas (hK _ _ (.inl rfl) ?_); clear hK K) | (refine zas (hK _ _ (.inr (by kernel_rfl)) ?_); clear hK K))
      | (refine za4 ?_; first | (refine zbq ?_) | (refine zad (fun K hK => ?_)) | (refine zao ?_) | (refine za2 ?_) | (refine zbr ?_) | (refine za3 ?_) | (refine zbl ?_; first | (refine zam rfl aD ?_) | (refine zal rfl aD ?_) | (refine zaz rfl (fun h => ?_) (fun h => ?_) <;> (have h' := h; (try simp only [sx] at h')))))
      | (refine za0 ?_) | (refine zab ?_) | (refine zac ?_) | (refine zar ?_) | (refine zap ?_) | (refine zaq ?_) | (refine zan rfl ?_) | (refine zaf ?_) | (refine zag ?_) | (refine zbs ?_))
      all_goals first
        | (exfalso; omega)
        | exact ret_lL rfl rfl rfl (by decide) ⟨⟨rfl, rfl, fun h => by cases h⟩, trivial⟩ rfl rfl hne hes
theorem k_ensembleZ (c : Cu) (hc : c.Ok) (hp : c.pos + 600 ≤ 1152921504606846976) : ∃ (L : List Scen) (c' : Cu), Dr 138 [] c (.list 2 (L.map Scen.pv)) c' ∧ Aft c c' 500 ∧ L.length ≤ 5 ∧ PhB L := by
  obtain ⟨L, c', k, h⟩ := k_ensembleD c hc hp
  exact ⟨L, c', ConL.frz k rfl (by intro row h; simp at h; subst h; rfl), h⟩
structure EnsB (e : Ens) : Prop where
  t : TrSz e.t
  len : e.L.length ≤ 5
  ph : PhB e.L
  src : e.src.length ≤ 5
  st : -1 ≤ e.st ∧ e.st ≤ 1001
@[reducible] def enP0 (e : Ens) : List PV := [.agg e.t.pv, .list 2 (e.L.map Scen.pv), .list 1 (ints e.src), .int .i64 e.st]
@[reducible] def enP1 (e : Ens) (x : Int) : List PV := [.agg e.t.pv, .list 2 (e.L.map Scen.pv), .list 1 (ints e.src), .int .i64 e.st, .int .i64 x]
@[reducible] def enP2 (e : Ens) (x y : Int) : List PV := [.agg e.t.pv, .list 2 (e.L.map Scen.pv), .list 1 (ints e.src), .int .i64 e.st, .int .i64 x, .int .i64 y]
theorem k_blaze (c : Cu) (hc : c.Ok) (hp : c.pos + 2000 ≤ 1152921504606846976) :
    ContractP Try.prog 93 true [.own (io, 0) 0 0] [cuRow c] (fun r' fin' => ∃ (e : Ens) (c' : Cu), (r' = .tuple (enP0 e) ∧ fin' = [[c'.pv]]) ∧ Aft c c' 1400 ∧ EnsB e) := by
  refine za6 hmix Try.func93 rfl (by kernel_rfl) (by kernel_rfl) (Nat.le_of_ble_eq_true rfl) (fun row h => by (simp only [List.mem_cons, List.not_mem_nil, or_false] at h; first | (subst h; (first | exact .inl rfl | exact .inr (fun e he u hu => by (simp only [List.mem_cons, List.not_mem_nil, or_false] at he; subst he; simp only [List.mem_cons, List.not_mem_nil, or_false] at hu; subst hu; rfl)))) | (rcases h with rfl | rfl <;> (first | exact .inl rfl | exact .inr (fun e he u hu => by (simp only [List.mem_cons, List.not_mem_nil, or_false] at he; subst he; simp only [List.mem_cons, List.not_mem_nil, or_false] at hu; subst hu; rfl)))) | (rcases h with rfl | rfl | rfl <;> (first | exact .inl rfl | exact .inr (fun e he u hu => by (simp only [List.mem_cons, List.not_mem_nil, or_false] at he; subst he; simp only [List.mem_cons, List.not_mem_nil, or_false] at hu; subst hu; rfl)))) | (rcases h with rfl | rfl | rfl | rfl <;> (first | exact .inl rfl | exact .inr (fun e he u hu => by (simp only [List.mem_cons, List.not_mem_nil, or_false] at he; subst he; simp only [List.mem_cons, List.not_mem_nil, or_false] at hu; subst hu; rfl)))))) ?_
  have hty_a26 := ty_a26
  have hty_z26 := ty_z26
  have hty_t26 := ty_t26
  have hty_u24 := ty_u24
  have hty_s24 := ty_s24
  repeat' (first
      | (refine za1 ?_; first | (refine za5 ?_; refine zat _ rfl ?_) | (refine zae ?_; refine zaa _ rfl ?_) | (refine zbv ?_; first | (refine zbz rfl rfl aO ?_) | (refine zbu _ rfl rfl rfl ?_) | (refine zbt aA rfl rfl ?_) | (refine zaw _ rfl rfl rfl ?_)) | (refine zbk ?_; first | (refine zaj aA rfl ?_) | (refine zak _ aA rfl rfl aE rfl ?_) | (refine zah _ aA rfl aZ aL ?_) | (refine zai _ aA rfl rfl aE aZ aL ?_)) | (refine zbx ?_; first | (refine zbf rfl aD rfl ?_) | (refine zbh rfl aD ?_) | (refine zbi rfl aD ?_) | (refine zbg rfl aD rfl ?_)) | (refine zbp ?_; first | (refine zbw rfl rfl aD ?_) | (refine zb4 rfl rfl aD ?_) | (refine zb5 rfl rfl ?_) | (refine zbj rfl rfl (fun h => ?_) (fun h => ?_) <;> (have h' := h; (try simp only [sx] at h')))) | (refine za7 ?_; first | (refine x_callLP [(io, 0)] (k_anyTerrainZ c hc aO) rfl rfl (by (repeat' (first | exact trivial | refine ⟨⟨_, rfl, ?_⟩, ?_⟩ | exact .inl ⟨rfl, .inl rfl⟩ | exact .inr ⟨rfl, rfl, rfl, rfl, rfl, fun e he u hu => by (simp only [List.mem_cons, List.not_mem_nil, or_false] at he; subst he; simp only [List.mem_cons, List.not_mem_nil, or_false] at hu; subst hu; rfl)⟩ | exact .inl ⟨rfl, .inr (fun e he => by (simp only [List.mem_cons, List.not_mem_nil, or_false] at he; subst he; rfl))⟩ | fail)); first | done | fail) rfl rfl aS rfl (fun r_ fin_ hP_ => ?_); obtain ⟨t, c1, ⟨rfl, rfl⟩, a1, ht⟩ := hP_; refine ⟨_, _, _, aH, rfl, ?_⟩; simp only [cl]) | (refine zba aA rfl ?_) | (refine zbb aA rfl rfl ?_) | (refine zbc aA rfl ?_) | (refine za9 aA (evO_ok rfl) ?_)) | (refine zca _ aA rfl ?_) | (refine zb2 aA rfl ?_) | (refine zbn _ _ _ rfl rfl aE (by first | assumption | (exact TAgg.size aA)) rfl rfl rfl aZ rfl aL (by first | (first | (simp only [lx, Nat.reduceAdd]; first | done | rfl) | fail) | rfl) ?_) | (refine zas (hK _ _ (.inl rfl) ?_); clear hK K) | (refine zas (hK _ _ (.inr (by kernel_rfl)) ?_); clear hK K))
      | (refine za4 ?_; first | (refine zbq ?_) | (refine zad (fun K hK => ?_)) | (refine zao ?_) | (refine za2 ?_) | (refine zbr ?_) | (refine za3 ?_) | (refine zbl ?_; first | (refine zam rfl aD ?_) | (refine zal rfl aD ?_) | (refine zaz rfl (fun h => ?_) (fun h => ?_) <;> (have h' := h; (try simp only [sx] at h')))))
      | (refine za0 ?_) | (refine zab ?_) | (refine zac ?_) | (refine zar ?_) | (refine zap ?_) | (refine zaq ?_) | (refine zan rfl ?_) | (refine zaf ?_) | (refine zag ?_) | (refine zbs ?_))
  have o1 := a1.ok hc aO
  have p1 := a1.pos
  obtain ⟨L, c2, k2, a2, hL, hph⟩ := k_ensembleZ c1 o1 aO
  have o2 := a2.ok o1 aO
  have p2 := a2.pos
  obtain ⟨xs, c3, k3, a3, hxs⟩ := k_cellsOf c2 t o2 aO ht
  have o3 := a3.ok o2 aO
  have p3 := a3.pos
  have aft3 := (a1.trans a2).trans a3
  repeat' (first
      | (refine za1 ?_; first | (refine za5 ?_; refine zat _ rfl ?_) | (refine zae ?_; refine zaa _ rfl ?_) | (refine zbv ?_; first | (refine zbz rfl rfl aO ?_) | (refine zbu _ rfl rfl rfl ?_) | (refine zbt aA rfl rfl ?_) | (refine zaw _ rfl rfl rfl ?_)) | (refine zbk ?_; first | (refine zaj aA rfl ?_) | (refine zak _ aA rfl rfl aE rfl ?_) | (refine zah _ aA rfl aZ aL ?_) | (refine zai _ aA rfl rfl aE aZ aL ?_)) | (refine zbx ?_; first | (refine zbf rfl aD rfl ?_) | (refine zbh rfl aD ?_) | (refine zbi rfl aD ?_) | (refine zbg rfl aD rfl ?_)) | (refine zbp ?_; first | (refine zbw rfl rfl aD ?_) | (refine zb4 rfl rfl aD ?_) | (refine zb5 rfl rfl ?_) | (refine zbj rfl rfl (fun h => ?_) (fun h => ?_) <;> (have h' := h; (try simp only [sx] at h')))) | (refine za7 ?_; first | (refine zcb [(io, 0)] (k2) rfl rfl (by (repeat' (first | exact trivial | refine ⟨⟨_, rfl, ?_⟩, ?_⟩ | exact .inl ⟨rfl, .inl rfl⟩ | exact .inr ⟨rfl, rfl, rfl, rfl, rfl, fun e he u hu => by (simp only [List.mem_cons, List.not_mem_nil, or_false] at he; subst he; simp only [List.mem_cons, List.not_mem_nil, or_false] at hu; subst hu; rfl)⟩ | exact .inl ⟨rfl, .inr (fun e he => by (simp only [List.mem_cons, List.not_mem_nil, or_false] at he; subst he; rfl))⟩ | fail)); first | done | fail) rfl rfl aS rfl aH rfl ?_; simp only [cl]) | (refine zcb [(io, 0)] (k3) rfl rfl (by (repeat' (first | exact trivial | refine ⟨⟨_, rfl, ?_⟩, ?_⟩ | exact .inl ⟨rfl, .inl rfl⟩ | exact .inr ⟨rfl, rfl, rfl, rfl, rfl, fun e he u hu => by (simp only [List.mem_cons, List.not_mem_nil, or_false] at he; subst he; simp only [List.mem_cons, List.not_mem_nil, or_false] at hu; subst hu; rfl)⟩ | exact .inl ⟨rfl, .inr (fun e he => by (simp only [List.mem_cons, List.not_mem_nil, or_false] at he; subst he; rfl))⟩ | fail)); first | done | fail) rfl rfl aS rfl aH rfl ?_; simp only [cl]) | (refine zba aA rfl ?_) | (refine zbb aA rfl rfl ?_) | (refine zbc aA rfl ?_) | (refine za9 aA (evO_ok rfl) ?_)) | (refine zca _ aA rfl ?_) | (refine zb2 aA rfl ?_) | (refine zbn _ _ _ rfl rfl aE (by first | assumption | (exact TAgg.size aA)) rfl rfl rfl aZ rfl aL (by first | (first | (simp only [lx, Nat.reduceAdd]; first | done | rfl) | fail) | rfl) ?_) | (refine zas (hK _ _ (.inl rfl) ?_); clear hK K) | (refine zas (hK _ _ (.inr (by kernel_rfl)) ?_); clear hK K))
      | (refine za4 ?_; first | (refine zbq ?_) | (refine zad (fun K hK => ?_)) | (refine zao ?_) | (refine za2 ?_) | (refine zbr ?_) | (refine za3 ?_) | (refine zbl ?_; first | (refine zam rfl aD ?_) | (refine zal rfl aD ?_) | (refine zaz rfl (fun h => ?_) (fun h => ?_) <;> (have h' := h; (try simp only [sx] at h')))))
      | (refine za0 ?_) | (refine zab ?_) | (refine zac ?_) | (refine zar ?_) | (refine zap ?_) | (refine zaq ?_) | (refine zan rfl ?_) | (refine zaf ?_) | (refine zag ?_) | (refine zbs ?_))
  refine zcf [0, 2, 6, 7] [(io, 0)] (fun q : Cu × List Int × Nat => [(8, .list 1 (ints q.2.1)), (9, .int .i64 q.2.2)]) (fun q : Cu × List Int × Nat => [((io, 0), some (cuRow q.1))]) (fun q : Cu × List Int × Nat => Aft c3 q.1 (100 * q.2.2) ∧ q.2.1.length ≤ 5 ∧ q.2.2 ≤ 3) (fun q : Cu × List Int × Nat => 3 - q.2.2) ((c3, xs, 0)) rfl rfl (fun _ => rfl) (fun _ => rfl) rfl aW ⟨(Aft.refl c3).le (by simp only; omega), hxs, by simp only; omega⟩ (fun q hq => ?_)
  obtain ⟨d, us, i⟩ := q
  obtain ⟨ad, hus, hi⟩ := hq
  simp only at ad hus hi
  dsimp only
  have od := ad.ok o3 aO
  have pd := ad.pos
  have hl1 : (ints us).length = us.length := by simp
  by_cases hgo : i < 3 ∧ us.length = 0
  · obtain ⟨ys, c4, k4, a4, hys⟩ := k_cellsOf d t od aO ht
    repeat' (first
      | (refine za1 ?_; first | (refine za5 ?_; refine zat _ rfl ?_) | (refine zae ?_; refine zaa _ rfl ?_) | (refine zbv ?_; first | (refine zbz rfl rfl aO ?_) | (refine zbu _ rfl rfl rfl ?_) | (refine zbt aA rfl rfl ?_) | (refine zaw _ rfl rfl rfl ?_)) | (refine zbk ?_; first | (refine zaj aA rfl ?_) | (refine zak _ aA rfl rfl aE rfl ?_) | (refine zah _ aA rfl aZ aL ?_) | (refine zai _ aA rfl rfl aE aZ aL ?_)) | (refine zbx ?_; first | (refine zbf rfl aD rfl ?_) | (refine zbh rfl aD ?_) | (refine zbi rfl aD ?_) | (refine zbg rfl aD rfl ?_)) | (refine zbp ?_; first | (refine zbw rfl rfl aD ?_) | (refine zb4 rfl rfl aD ?_) | (refine zb5 rfl rfl ?_) | (refine zbj rfl rfl (fun h => ?_) (fun h => ?_) <;> (have h' := h; (try simp only [sx] at h')))) | (refine za7 ?_; first | (refine zcb [(io, 0)] (k4) rfl rfl (by (repeat' (first | exact trivial | refine ⟨⟨_, rfl, ?_⟩, ?_⟩ | exact .inl ⟨rfl, .inl rfl⟩ | exact .inr ⟨rfl, rfl, rfl, rfl, rfl, fun e he u hu => by (simp only [List.mem_cons, List.not_mem_nil, or_false] at he; subst he; simp only [List.mem_cons, List.not_mem_nil, or_false] at hu; subst hu; rfl)⟩ | exact .inl ⟨rfl, .inr (fun e he => by (simp only [List.mem_cons, List.not_mem_nil, or_false] at he; subst he; rfl))⟩ | fail)); first | done | fail) rfl rfl aS rfl aH rfl ?_; simp only [cl]) | (refine zba aA rfl ?_) | (refine zbb aA rfl rfl ?_) | (refine zbc aA rfl ?_) | (refine za9 aA (evO_ok rfl) ?_)) | (refine zca _ aA rfl ?_) | (refine zb2 aA rfl ?_) | (refine zbn _ _ _ rfl rfl aE (by first | assumption | (exact TAgg.size aA)) rfl rfl rfl aZ rfl aL (by first | (first | (simp only [lx, Nat.reduceAdd]; first | done | rfl) | fail) | rfl) ?_) | (refine zas (hK _ _ (.inl rfl) ?_); clear hK K) | (refine zas (hK _ _ (.inr (by kernel_rfl)) ?_); clear hK K))
      | (refine za4 ?_; first | (refine zbq ?_) | (refine zad (fun K hK => ?_)) | (refine zao ?_) | (refine za2 ?_) | (refine zbr ?_) | (refine za3 ?_) | (refine zbl ?_; first | (refine zam rfl aD ?_) | (refine zal rfl aD ?_) | (refine zaz rfl (fun h => ?_) (fun h => ?_) <;> (have h' := h; (try simp only [sx] at h')))))
      | (refine za0 ?_) | (refine zab ?_) | (refine zac ?_) | (refine zar ?_) | (refine zap ?_) | (refine zaq ?_) | (refine zan rfl ?_) | (refine zaf ?_) | (refine zag ?_) | (refine zbs ?_))
    all_goals try (exfalso; omega)
    all_goals (refine zb9 (c4, ys, i + 1) rfl aW ⟨(ad.trans a4).le (by simp only; omega), hys, by simp only; omega⟩ (by simp only; omega))
  · obtain ⟨s, c4, k4, a4, h1, h2⟩ := k_startTick d od aO
    repeat' (first
      | (refine za1 ?_; first | (refine za5 ?_; refine zat _ rfl ?_) | (refine zae ?_; refine zaa _ rfl ?_) | (refine zbv ?_; first | (refine zbz rfl rfl aO ?_) | (refine zbu _ rfl rfl rfl ?_) | (refine zbt aA rfl rfl ?_) | (refine zaw _ rfl rfl rfl ?_)) | (refine zbk ?_; first | (refine zaj aA rfl ?_) | (refine zak _ aA rfl rfl aE rfl ?_) | (refine zah _ aA rfl aZ aL ?_) | (refine zai _ aA rfl rfl aE aZ aL ?_)) | (refine zbx ?_; first | (refine zbf rfl aD rfl ?_) | (refine zbh rfl aD ?_) | (refine zbi rfl aD ?_) | (refine zbg rfl aD rfl ?_)) | (refine zbp ?_; first | (refine zbw rfl rfl aD ?_) | (refine zb4 rfl rfl aD ?_) | (refine zb5 rfl rfl ?_) | (refine zbj rfl rfl (fun h => ?_) (fun h => ?_) <;> (have h' := h; (try simp only [sx] at h')))) | (refine za7 ?_; first | (refine zcb [(io, 0)] (k4) rfl rfl (by (repeat' (first | exact trivial | refine ⟨⟨_, rfl, ?_⟩, ?_⟩ | exact .inl ⟨rfl, .inl rfl⟩ | exact .inr ⟨rfl, rfl, rfl, rfl, rfl, fun e he u hu => by (simp only [List.mem_cons, List.not_mem_nil, or_false] at he; subst he; simp only [List.mem_cons, List.not_mem_nil, or_false] at hu; subst hu; rfl)⟩ | exact .inl ⟨rfl, .inr (fun e he => by (simp only [List.mem_cons, List.not_mem_nil, or_false] at he; subst he; rfl))⟩ | fail)); first | done | fail) rfl rfl aS rfl aH rfl ?_; simp only [cl]) | (refine zba aA rfl ?_) | (refine zbb aA rfl rfl ?_) | (refine zbc aA rfl ?_) | (refine za9 aA (evO_ok rfl) ?_)) | (refine zca _ aA rfl ?_) | (refine zb2 aA rfl ?_) | (refine zbn _ _ _ rfl rfl aE (by first | assumption | (exact TAgg.size aA)) rfl rfl rfl aZ rfl aL (by first | (first | (simp only [lx, Nat.reduceAdd]; first | done | rfl) | fail) | rfl) ?_) | (refine zas (hK _ _ (.inl rfl) ?_); clear hK K) | (refine zas (hK _ _ (.inr (by kernel_rfl)) ?_); clear hK K))
      | (refine za4 ?_; first | (refine zbq ?_) | (refine zad (fun K hK => ?_)) | (refine zao ?_) | (refine za2 ?_) | (refine zbr ?_) | (refine za3 ?_) | (refine zbl ?_; first | (refine zam rfl aD ?_) | (refine zal rfl aD ?_) | (refine zaz rfl (fun h => ?_) (fun h => ?_) <;> (have h' := h; (try simp only [sx] at h')))))
      | (refine za0 ?_) | (refine zab ?_) | (refine zac ?_) | (refine zar ?_) | (refine zap ?_) | (refine zaq ?_) | (refine zan rfl ?_) | (refine zaf ?_) | (refine zag ?_) | (refine zbs ?_))
    all_goals first
      | (exfalso; omega)
      | (refine RetPost.mono (fun r fin h => ⟨⟨t, L, us, s⟩, c4, h, ((aft3.trans ad).trans a4).le aO, ⟨ht, hL, hph, hus, ⟨h1, h2⟩⟩⟩) ?_
         (first | refine ret_TL rfl rfl rfl (by first | exact trivial | (repeat' (first | exact trivial | refine ⟨by assumption, ?_⟩))) (by repeat' (first | exact trivial | refine ⟨by simp, ?_⟩)) (by first | exact trivial | exact ⟨⟨rfl, rfl, fun h => by cases h⟩, trivial⟩) ?_ | refine ret_AL rfl rfl rfl (by first | exact trivial | (repeat' (first | exact trivial | refine ⟨by assumption, ?_⟩))) (by repeat' (first | exact trivial | refine ⟨by simp, ?_⟩)) (by first | exact trivial | exact ⟨⟨rfl, rfl, fun h => by cases h⟩, trivial⟩) ?_); (repeat' (first | exact et_end | exact el_end | refine et_int rfl ?_ ?_ | refine et_bool ?_ ?_ | refine et_str ?_ ?_ | refine et_lst rfl rfl ?_ ?_ | refine zcn rfl (by rfl) (by decide) rfl rfl ?_ ?_ ?_ | refine et_nil ?_ ?_ | refine et_agg0 ?_ ?_ | refine et_agg ?_ ?_ | refine el_int rfl ?_ ?_ | refine zcp ?_ ?_ | refine el_str ?_ ?_ | refine el_lst rfl rfl ?_ ?_ | refine zco rfl (by rfl) (by decide) rfl rfl ?_ ?_ ?_ | refine el_nil ?_ ?_)) <;> first | rfl | (simp; done) | omega)
theorem k_DrawEarliest (code : List Int) (hz : CodeOk code) :
    ContractP Try.prog 36 true [.list 1 (bytesP code)] [] (fun r' fin' => ∃ e : Ens, (r' = .tuple (enP0 e) ∧ fin' = []) ∧ EnsB e) := by
  have o0 := cu0_ok hz
  refine za6 hmix Try.func36 rfl (by kernel_rfl) (by kernel_rfl) (Nat.le_of_ble_eq_true rfl) (fun row h => by cases h) ?_
  have hty_a26 := ty_a26
  have hty_z26 := ty_z26
  have hty_st69 := ty_st69
  have hty_t26 := ty_t26
  repeat' (first
      | (refine za1 ?_; first | (refine za5 ?_; refine zat _ rfl ?_) | (refine zae ?_; refine zaa _ rfl ?_) | (refine zbk ?_; first | (refine zaj aA rfl ?_) | (refine zak _ aA rfl rfl aE rfl ?_) | (refine zah _ aA rfl aZ aL ?_) | (refine zai _ aA rfl rfl aE aZ aL ?_)) | (refine za7 ?_; refine x_callLP [(13, 0)] (k_blaze (cu0 code) o0 (by simp)) rfl rfl (by (repeat' (first | exact trivial | refine ⟨⟨_, rfl, ?_⟩, ?_⟩ | exact .inl ⟨rfl, .inl rfl⟩ | exact .inr ⟨rfl, rfl, rfl, rfl, rfl, fun e he u hu => by (simp only [List.mem_cons, List.not_mem_nil, or_false] at he; subst he; simp only [List.mem_cons, List.not_mem_nil, or_false] at hu; subst hu; rfl)⟩ | exact .inl ⟨rfl, .inr (fun e he => by (simp only [List.mem_cons, List.not_mem_nil, or_false] at he; subst he; rfl))⟩ | fail)); first | done | fail) rfl rfl aS rfl (fun r_ fin_ hP_ => ?_); obtain ⟨e, c1, ⟨rfl, rfl⟩, a1, hb⟩ := hP_; refine ⟨_, _, _, aH, rfl, ?_⟩; simp only [cl]) | (refine zch _ _ aA rfl rfl (by simp [buildPV, PV.cells]; first | done | rfl) ?_) | (refine zby _ _ rfl rfl rfl rfl ?_) | (refine zca _ aA rfl ?_) | (refine zb2 aA rfl ?_) | (refine zbn _ _ _ rfl rfl aE (by first | assumption | (exact TAgg.size aA)) rfl rfl rfl aZ rfl aL (by first | (first | (simp only [lx, Nat.reduceAdd]; first | done | rfl) | fail) | rfl) ?_) | (refine zcc _ rfl rfl ?_) | (refine zas (hK _ _ (.inl rfl) ?_); clear hK K) | (refine zas (hK _ _ (.inr (by kernel_rfl)) ?_); clear hK K))
      | (refine za4 ?_; first | (refine zbq ?_) | (refine zad (fun K hK => ?_)) | (refine zao ?_) | (refine za2 ?_) | (refine zbr ?_) | (refine za3 ?_))
      | (refine za0 ?_) | (refine zab ?_) | (refine zac ?_) | (refine zar ?_) | (refine zap ?_) | (refine zaq ?_) | (refine zan rfl ?_) | (refine zaf ?_) | (refine zag ?_) | (refine zbs ?_))
  refine RetPost.mono (fun r fin h => ⟨e, h, hb⟩) ?_
  (first | refine ret_TL rfl rfl rfl (by first | exact trivial | (repeat' (first | exact trivial | refine ⟨by assumption, ?_⟩))) (by repeat' (first | exact trivial | refine ⟨by simp, ?_⟩)) (by first | exact trivial | exact ⟨⟨rfl, rfl, fun h => by cases h⟩, trivial⟩) ?_ | refine ret_AL rfl rfl rfl (by first | exact trivial | (repeat' (first | exact trivial | refine ⟨by assumption, ?_⟩))) (by repeat' (first | exact trivial | refine ⟨by simp, ?_⟩)) (by first | exact trivial | exact ⟨⟨rfl, rfl, fun h => by cases h⟩, trivial⟩) ?_); (repeat' (first | exact et_end | exact el_end | refine et_int rfl ?_ ?_ | refine et_bool ?_ ?_ | refine et_str ?_ ?_ | refine et_lst rfl rfl ?_ ?_ | refine zcn rfl (by rfl) (by decide) rfl rfl ?_ ?_ ?_ | refine et_nil ?_ ?_ | refine et_agg0 ?_ ?_ | refine et_agg ?_ ?_ | refine el_int rfl ?_ ?_ | refine zcp ?_ ?_ | refine el_str ?_ ?_ | refine el_lst rfl rfl ?_ ?_ | refine zco rfl (by rfl) (by decide) rfl rfl ?_ ?_ ?_ | refine el_nil ?_ ?_)) <;> first | rfl | (simp; done) | omega
theorem k_DrawSure (code : List Int) (hz : CodeOk code) :
    ContractP Try.prog 100 true [.list 1 (bytesP code)] [] (fun r' fin' => ∃ (e : Ens) (x : Int), (r' = .tuple (enP1 e x) ∧ fin' = []) ∧ EnsB e ∧ (-1 ≤ x ∧ x ≤ 10000)) := by
  have o0 := cu0_ok hz
  refine za6 hmix Try.func100 rfl (by kernel_rfl) (by kernel_rfl) (Nat.le_of_ble_eq_true rfl) (fun row h => by cases h) ?_
  have hty_a26 := ty_a26
  have hty_z26 := ty_z26
  have hty_st69 := ty_st69
  have hty_t26 := ty_t26
  repeat' (first
      | (refine za1 ?_; first | (refine za5 ?_; refine zat _ rfl ?_) | (refine zae ?_; refine zaa _ rfl ?_) | (refine zbk ?_; first | (refine zaj aA rfl ?_) | (refine zak _ aA rfl rfl aE rfl ?_) | (refine zah _ aA rfl aZ aL ?_) | (refine zai _ aA rfl rfl aE aZ aL ?_)) | (refine za7 ?_; refine x_callLP [(14, 0)] (k_blaze (cu0 code) o0 (by simp)) rfl rfl (by (repeat' (first | exact trivial | refine ⟨⟨_, rfl, ?_⟩, ?_⟩ | exact .inl ⟨rfl, .inl rfl⟩ | exact .inr ⟨rfl, rfl, rfl, rfl, rfl, fun e he u hu => by (simp only [List.mem_cons, List.not_mem_nil, or_false] at he; subst he; simp only [List.mem_cons, List.not_mem_nil, or_false] at hu; subst hu; rfl)⟩ | exact .inl ⟨rfl, .inr (fun e he => by (simp only [List.mem_cons, List.not_mem_nil, or_false] at he; subst he; rfl))⟩ | fail)); first | done | fail) rfl rfl aS rfl (fun r_ fin_ hP_ => ?_); obtain ⟨e, c1, ⟨rfl, rfl⟩, a1, hb⟩ := hP_; refine ⟨_, _, _, aH, rfl, ?_⟩; simp only [cl]) | (refine zch _ _ aA rfl rfl (by simp [buildPV, PV.cells]; first | done | rfl) ?_) | (refine zby _ _ rfl rfl rfl rfl ?_) | (refine zca _ aA rfl ?_) | (refine zb2 aA rfl ?_) | (refine zbn _ _ _ rfl rfl aE (by first | assumption | (exact TAgg.size aA)) rfl rfl rfl aZ rfl aL (by first | (first | (simp only [lx, Nat.reduceAdd]; first | done | rfl) | fail) | rfl) ?_) | (refine zcc _ rfl rfl ?_) | (refine zas (hK _ _ (.inl rfl) ?_); clear hK K) | (refine zas (hK _ _ (.inr (by kernel_rfl)) ?_); clear hK K))
      | (refine za4 ?_; first | (refine zbq ?_) | (refine zad (fun K hK => ?_)) | (refine zao ?_) | (refine za2 ?_) | (refine zbr ?_) | (refine za3 ?_))
      | (refine za0 ?_) | (refine zab ?_) | (refine zac ?_) | (refine zar ?_) | (refine zap ?_) | (refine zaq ?_) | (refine zan rfl ?_) | (refine zaf ?_) | (refine zag ?_) | (refine zbs ?_))
  have o1 := a1.ok o0 (by simp)
  have p1 := a1.pos
  dsimp only [cu0] at p1
  obtain ⟨x, c2, k2, a2, h1, h2⟩ := k_tick c1 o1 aO
  repeat' (first
      | (refine za1 ?_; first | (refine za5 ?_; refine zat _ rfl ?_) | (refine zae ?_; refine zaa _ rfl ?_) | (refine zbk ?_; first | (refine zaj aA rfl ?_) | (refine zak _ aA rfl rfl aE rfl ?_) | (refine zah _ aA rfl aZ aL ?_) | (refine zai _ aA rfl rfl aE aZ aL ?_)) | (refine za7 ?_; refine zcb [(14, 0)] (k2) rfl rfl (by (repeat' (first | exact trivial | refine ⟨⟨_, rfl, ?_⟩, ?_⟩ | exact .inl ⟨rfl, .inl rfl⟩ | exact .inr ⟨rfl, rfl, rfl, rfl, rfl, fun e he u hu => by (simp only [List.mem_cons, List.not_mem_nil, or_false] at he; subst he; simp only [List.mem_cons, List.not_mem_nil, or_false] at hu; subst hu; rfl)⟩ | exact .inl ⟨rfl, .inr (fun e he => by (simp only [List.mem_cons, List.not_mem_nil, or_false] at he; subst he; rfl))⟩ | fail)); first | done | fail) rfl rfl aS rfl aH rfl ?_; simp only [cl]) | (refine zch _ _ aA rfl rfl (by simp [buildPV, PV.cells]; first | done | rfl) ?_) | (refine zby _ _ rfl rfl rfl rfl ?_) | (refine zca _ aA rfl ?_) | (refine zb2 aA rfl ?_) | (refine zbn _ _ _ rfl rfl aE (by first | assumption | (exact TAgg.size aA)) rfl rfl rfl aZ rfl aL (by first | (first | (simp only [lx, Nat.reduceAdd]; first | done | rfl) | fail) | rfl) ?_) | (refine zcc _ rfl rfl ?_) | (refine zas (hK _ _ (.inl rfl) ?_); clear hK K) | (refine zas (hK _ _ (.inr (by kernel_rfl)) ?_); clear hK K))
      | (refine za4 ?_; first | (refine zbq ?_) | (refine zad (fun K hK => ?_)) | (refine zao ?_) | (refine za2 ?_) | (refine zbr ?_) | (refine za3 ?_))
      | (refine za0 ?_) | (refine zab ?_) | (refine zac ?_) | (refine zar ?_) | (refine zap ?_) | (refine zaq ?_) | (refine zan rfl ?_) | (refine zaf ?_) | (refine zag ?_) | (refine zbs ?_))
  refine RetPost.mono (fun r fin h => ⟨e, x, h, hb, ⟨h1, h2⟩⟩) ?_
  (first | refine ret_TL rfl rfl rfl (by first | exact trivial | (repeat' (first | exact trivial | refine ⟨by assumption, ?_⟩))) (by repeat' (first | exact trivial | refine ⟨by simp, ?_⟩)) (by first | exact trivial | exact ⟨⟨rfl, rfl, fun h => by cases h⟩, trivial⟩) ?_ | refine ret_AL rfl rfl rfl (by first | exact trivial | (repeat' (first | exact trivial | refine ⟨by assumption, ?_⟩))) (by repeat' (first | exact trivial | refine ⟨by simp, ?_⟩)) (by first | exact trivial | exact ⟨⟨rfl, rfl, fun h => by cases h⟩, trivial⟩) ?_); (repeat' (first | exact et_end | exact el_end | refine et_int rfl ?_ ?_ | refine et_bool ?_ ?_ | refine et_str ?_ ?_ | refine et_lst rfl rfl ?_ ?_ | refine zcn rfl (by rfl) (by decide) rfl rfl ?_ ?_ ?_ | refine et_nil ?_ ?_ | refine et_agg0 ?_ ?_ | refine et_agg ?_ ?_ | refine el_int rfl ?_ ?_ | refine zcp ?_ ?_ | refine el_str ?_ ?_ | refine el_lst rfl rfl ?_ ?_ | refine zco rfl (by rfl) (by decide) rfl rfl ?_ ?_ ?_ | refine el_nil ?_ ?_)) <;> first | rfl | (simp; done) | omega
theorem k_DrawWorst (code : List Int) (hz : CodeOk code) :
    ContractP Try.prog 41 true [.list 1 (bytesP code)] [] (fun r' fin' => ∃ (e : Ens) (x : Int), (r' = .tuple (enP1 e x) ∧ fin' = []) ∧ EnsB e ∧ (-1 ≤ x ∧ x ≤ 10000)) := by
  refine za6 hmix Try.func41 rfl (by kernel_rfl) (by kernel_rfl) (Nat.le_of_ble_eq_true rfl) (fun row h => by cases h) ?_
  have hty_a26 := ty_a26
  have hty_z26 := ty_z26
  have hty_u22 := ty_u22
  have hty_s22 := ty_s22
  have hty_t26 := ty_t26
  repeat' (first
      | (refine za1 ?_; first | (refine za5 ?_; refine zat _ rfl ?_) | (refine zae ?_; refine zaa _ rfl ?_) | (refine za7 ?_; refine x_callLP [] (k_DrawSure code hz) rfl rfl (by (repeat' (first | exact trivial | refine ⟨⟨_, rfl, ?_⟩, ?_⟩ | exact .inl ⟨rfl, .inl rfl⟩ | exact .inr ⟨rfl, rfl, rfl, rfl, rfl, fun e he u hu => by (simp only [List.mem_cons, List.not_mem_nil, or_false] at he; subst he; simp only [List.mem_cons, List.not_mem_nil, or_false] at hu; subst hu; rfl)⟩ | exact .inl ⟨rfl, .inr (fun e he => by (simp only [List.mem_cons, List.not_mem_nil, or_false] at he; subst he; rfl))⟩ | fail)); first | done | fail) rfl rfl aS rfl (fun r_ fin_ hP_ => ?_); obtain ⟨e, x, ⟨rfl, rfl⟩, hb, hx⟩ := hP_; refine ⟨_, _, _, aH, rfl, ?_⟩; simp only [cl]) | (refine zca _ aA rfl ?_) | (refine zb2 aA rfl ?_) | (refine zbn _ _ _ rfl rfl aE (by first | assumption | (exact TAgg.size aA)) rfl rfl rfl aZ rfl aL (by first | (first | (simp only [lx, Nat.reduceAdd]; first | done | rfl) | fail) | rfl) ?_) | (refine zcc _ rfl rfl ?_) | (refine zas (hK _ _ (.inl rfl) ?_); clear hK K) | (refine zas (hK _ _ (.inr (by kernel_rfl)) ?_); clear hK K))
      | (refine za4 ?_; first | (refine zbq ?_) | (refine zad (fun K hK => ?_)) | (refine zao ?_) | (refine za2 ?_) | (refine zbr ?_) | (refine za3 ?_))
      | (refine za0 ?_) | (refine zab ?_) | (refine zac ?_) | (refine zar ?_) | (refine zap ?_) | (refine zaq ?_) | (refine zan rfl ?_) | (refine zaf ?_) | (refine zag ?_) | (refine zbs ?_))
  refine RetPost.mono (fun r fin h => ⟨e, x, h, hb, hx⟩) ?_
  (first | refine ret_TL rfl rfl rfl (by first | exact trivial | (repeat' (first | exact trivial | refine ⟨by assumption, ?_⟩))) (by repeat' (first | exact trivial | refine ⟨by simp, ?_⟩)) (by first | exact trivial | exact ⟨⟨rfl, rfl, fun h => by cases h⟩, trivial⟩) ?_ | refine ret_AL rfl rfl rfl (by first | exact trivial | (repeat' (first | exact trivial | refine ⟨by assumption, ?_⟩))) (by repeat' (first | exact trivial | refine ⟨by simp, ?_⟩)) (by first | exact trivial | exact ⟨⟨rfl, rfl, fun h => by cases h⟩, trivial⟩) ?_); (repeat' (first | exact et_end | exact el_end | refine et_int rfl ?_ ?_ | refine et_bool ?_ ?_ | refine et_str ?_ ?_ | refine et_lst rfl rfl ?_ ?_ | refine zcn rfl (by rfl) (by decide) rfl rfl ?_ ?_ ?_ | refine et_nil ?_ ?_ | refine et_agg0 ?_ ?_ | refine et_agg ?_ ?_ | refine el_int rfl ?_ ?_ | refine zcp ?_ ?_ | refine el_str ?_ ?_ | refine el_lst rfl rfl ?_ ?_ | refine zco rfl (by rfl) (by decide) rfl rfl ?_ ?_ ?_ | refine el_nil ?_ ?_)) <;> first | rfl | (simp; done) | omega
theorem k_DrawAbove (code : List Int) (hz : CodeOk code) :
    ContractP Try.prog 45 true [.list 1 (bytesP code)] [] (fun r' fin' => ∃ (e : Ens) (x y : Int), (r' = .tuple (enP2 e x y) ∧ fin' = []) ∧ EnsB e ∧ (-1 ≤ x ∧ x ≤ 10000) ∧ (-1 ≤ y ∧ y ≤ 26)) := by
  have o0 := cu0_ok hz
  refine za6 hmix Try.func45 rfl (by kernel_rfl) (by kernel_rfl) (Nat.le_of_ble_eq_true rfl) (fun row h => by cases h) ?_
  have hty_a26 := ty_a26
  have hty_z26 := ty_z26
  have hty_st69 := ty_st69
  have hty_t26 := ty_t26
  repeat' (first
      | (refine za1 ?_; first | (refine za5 ?_; refine zat _ rfl ?_) | (refine zae ?_; refine zaa _ rfl ?_) | (refine zbv ?_; first | (refine zcg rfl rfl aO ?_) | (refine x_quo rfl rfl aO ?_) | (refine x_quoT rfl rfl aO ?_) | (refine zbu _ rfl rfl rfl ?_)) | (refine zbk ?_; first | (refine zaj aA rfl ?_) | (refine zak _ aA rfl rfl aE rfl ?_) | (refine zah _ aA rfl aZ aL ?_) | (refine zai _ aA rfl rfl aE aZ aL ?_)) | (refine za7 ?_; refine x_callLP [(15, 0)] (k_blaze (cu0 code) o0 (by simp)) rfl rfl (by (repeat' (first | exact trivial | refine ⟨⟨_, rfl, ?_⟩, ?_⟩ | exact .inl ⟨rfl, .inl rfl⟩ | exact .inr ⟨rfl, rfl, rfl, rfl, rfl, fun e he u hu => by (simp only [List.mem_cons, List.not_mem_nil, or_false] at he; subst he; simp only [List.mem_cons, List.not_mem_nil, or_false] at hu; subst hu; rfl)⟩ | exact .inl ⟨rfl, .inr (fun e he => by (simp only [List.mem_cons, List.not_mem_nil, or_false] at he; subst he; rfl))⟩ | fail)); first | done | fail) rfl rfl aS rfl (fun r_ fin_ hP_ => ?_); obtain ⟨e, c1, ⟨rfl, rfl⟩, a1, hb⟩ := hP_; refine ⟨_, _, _, aH, rfl, ?_⟩; simp only [cl]) | (refine zch _ _ aA rfl rfl (by simp [buildPV, PV.cells]; first | done | rfl) ?_) | (refine zby _ _ rfl rfl rfl rfl ?_) | (refine zca _ aA rfl ?_) | (refine zb2 aA rfl ?_) | (refine zbn _ _ _ rfl rfl aE (by first | assumption | (exact TAgg.size aA)) rfl rfl rfl aZ rfl aL (by first | (first | (simp only [lx, Nat.reduceAdd]; first | done | rfl) | fail) | rfl) ?_) | (refine zcc _ rfl rfl ?_) | (refine zas (hK _ _ (.inl rfl) ?_); clear hK K) | (refine zas (hK _ _ (.inr (by kernel_rfl)) ?_); clear hK K))
      | (refine za4 ?_; first | (refine zbq ?_) | (refine zad (fun K hK => ?_)) | (refine zao ?_) | (refine za2 ?_) | (refine zbr ?_) | (refine za3 ?_))
      | (refine za0 ?_) | (refine zab ?_) | (refine zac ?_) | (refine zar ?_) | (refine zap ?_) | (refine zaq ?_) | (refine zan rfl ?_) | (refine zaf ?_) | (refine zag ?_) | (refine zbs ?_))
  have o1 := a1.ok o0 (by simp)
  have p1 := a1.pos
  dsimp only [cu0] at p1
  obtain ⟨x, c2, k2, a2, h1, h2⟩ := k_tick c1 o1 aO
  have o2 := a2.ok o1 aO
  have p2 := a2.pos
  obtain ⟨y, c3, k3, a3, h3, h4, _⟩ := k_pick c2 12 o2 aO aO
  have h4 := h4 aO
  have o3 := a3.ok o2 aO
  have p3 := a3.pos
  obtain ⟨u, c4, k4, a4, h5, h6, _⟩ := k_pick c3 9 o3 aO aO
  have h6 := h6 aO
  have hq : 0 ≤ u / 8 ∧ u / 8 ≤ 1 := by omega
  repeat' (first
      | (refine za1 ?_; first | (refine za5 ?_; refine zat _ rfl ?_) | (refine zae ?_; refine zaa _ rfl ?_) | (refine zbv ?_; first | (refine zcg rfl rfl aO ?_) | (refine x_quo rfl rfl aO ?_) | (refine x_quoT rfl rfl aO ?_) | (refine zbu _ rfl rfl rfl ?_)) | (refine zbk ?_; first | (refine zaj aA rfl ?_) | (refine zak _ aA rfl rfl aE rfl ?_) | (refine zah _ aA rfl aZ aL ?_) | (refine zai _ aA rfl rfl aE aZ aL ?_)) | (refine za7 ?_; first | (refine zcb [(15, 0)] (k2) rfl rfl (by (repeat' (first | exact trivial | refine ⟨⟨_, rfl, ?_⟩, ?_⟩ | exact .inl ⟨rfl, .inl rfl⟩ | exact .inr ⟨rfl, rfl, rfl, rfl, rfl, fun e he u hu => by (simp only [List.mem_cons, List.not_mem_nil, or_false] at he; subst he; simp only [List.mem_cons, List.not_mem_nil, or_false] at hu; subst hu; rfl)⟩ | exact .inl ⟨rfl, .inr (fun e he => by (simp only [List.mem_cons, List.not_mem_nil, or_false] at he; subst he; rfl))⟩ | fail)); first | done | fail) rfl rfl aS rfl aH rfl ?_; simp only [cl]) | (refine zcb [(15, 0)] (k3) rfl rfl (by (repeat' (first | exact trivial | refine ⟨⟨_, rfl, ?_⟩, ?_⟩ | exact .inl ⟨rfl, .inl rfl⟩ | exact .inr ⟨rfl, rfl, rfl, rfl, rfl, fun e he u hu => by (simp only [List.mem_cons, List.not_mem_nil, or_false] at he; subst he; simp only [List.mem_cons, List.not_mem_nil, or_false] at hu; subst hu; rfl)⟩ | exact .inl ⟨rfl, .inr (fun e he => by (simp only [List.mem_cons, List.not_mem_nil, or_false] at he; subst he; rfl))⟩ | fail)); first | done | fail) rfl rfl aS rfl aH rfl ?_; simp only [cl]) | (refine zcb [(15, 0)] (k4) rfl rfl (by (repeat' (first | exact trivial | refine ⟨⟨_, rfl, ?_⟩, ?_⟩ | exact .inl ⟨rfl, .inl rfl⟩ | exact .inr ⟨rfl, rfl, rfl, rfl, rfl, fun e he u hu => by (simp only [List.mem_cons, List.not_mem_nil, or_false] at he; subst he; simp only [List.mem_cons, List.not_mem_nil, or_false] at hu; subst hu; rfl)⟩ | exact .inl ⟨rfl, .inr (fun e he => by (simp only [List.mem_cons, List.not_mem_nil, or_false] at he; subst he; rfl))⟩ | fail)); first | done | fail) rfl rfl aS rfl aH rfl ?_; simp only [cl])) | (refine zch _ _ aA rfl rfl (by simp [buildPV, PV.cells]; first | done | rfl) ?_) | (refine zby _ _ rfl rfl rfl rfl ?_) | (refine zca _ aA rfl ?_) | (refine zb2 aA rfl ?_) | (refine zbn _ _ _ rfl rfl aE (by first | assumption | (exact TAgg.size aA)) rfl rfl rfl aZ rfl aL (by first | (first | (simp only [lx, Nat.reduceAdd]; first | done | rfl) | fail) | rfl) ?_) | (refine zcc _ rfl rfl ?_) | (refine zas (hK _ _ (.inl rfl) ?_); clear hK K) | (refine zas (hK _ _ (.inr (by kernel_rfl)) ?_); clear hK K))
      | (refine za4 ?_; first | (refine zbq ?_) | (refine zad (fun K hK => ?_)) | (refine zao ?_) | (refine za2 ?_) | (refine zbr ?_) | (refine za3 ?_))
      | (refine za0 ?_) | (refine zab ?_) | (refine zac ?_) | (refine zar ?_) | (refine zap ?_) | (refine zaq ?_) | (refine zan rfl ?_) | (refine zaf ?_) | (refine zag ?_) | (refine zbs ?_))
  all_goals try (exfalso; omega)
  refine RetPost.mono (fun r fin h => ⟨e, x, y - u / 8, h, hb, ⟨h1, h2⟩, ⟨by omega, by omega⟩⟩) ?_
  (first | refine ret_TL rfl rfl rfl (by first | exact trivial | (repeat' (first | exact trivial | refine ⟨by assumption, ?_⟩))) (by repeat' (first | exact trivial | refine ⟨by simp, ?_⟩)) (by first | exact trivial | exact ⟨⟨rfl, rfl, fun h => by cases h⟩, trivial⟩) ?_ | refine ret_AL rfl rfl rfl (by first | exact trivial | (repeat' (first | exact trivial | refine ⟨by assumption, ?_⟩))) (by repeat' (first | exact trivial | refine ⟨by simp, ?_⟩)) (by first | exact trivial | exact ⟨⟨rfl, rfl, fun h => by cases h⟩, trivial⟩) ?_); (repeat' (first | exact et_end | exact el_end | refine et_int rfl ?_ ?_ | refine et_bool ?_ ?_ | refine et_str ?_ ?_ | refine et_lst rfl rfl ?_ ?_ | refine zcn rfl (by rfl) (by decide) rfl rfl ?_ ?_ ?_ | refine et_nil ?_ ?_ | refine et_agg0 ?_ ?_ | refine et_agg ?_ ?_ | refine el_int rfl ?_ ?_ | refine zcp ?_ ?_ | refine el_str ?_ ?_ | refine el_lst rfl rfl ?_ ?_ | refine zco rfl (by rfl) (by decide) rfl rfl ?_ ?_ ?_ | refine el_nil ?_ ?_)) <;> first | rfl | (simp; done) | omega
end Go.Vs
set_option linter.unusedVariables false
set_option linter.unusedSimpArgs false
set_option maxRecDepth 100000
set_option maxHeartbeats 4000000
namespace Go.Vs
open Go.Proofs
attribute [local irreducible] exec vwp thenQ blkQ loopQ RetPost
theorem k_IndexFuncScen (xs : List Scen) (g : FuncId) (ca : List (List PV)) (p : Scen → Bool) (hg : ∀ a ∈ xs, Con Try.prog g (.agg a.pv :: ca.map PV.ptr) (.bool (p a))) (hn : xs.length ≤ 1099511627776) :
    Con Try.prog 152 [.list 2 (xs.map Scen.pv), .fn g [] (ca.map PV.ptr)] (.int .i64 (idx p xs)) := by
  intro al
  refine za6 hmix Try.func152 rfl (by kernel_rfl) (by kernel_rfl) (Nat.le_of_ble_eq_true rfl) (fun row h => by cases h) ?_
  have hty_u51 := ty_u51
  have hty_s51 := ty_s51
  have hty_a56 := ty_a56
  have hl1 : (xs.map Scen.pv).length = xs.length := by simp
  repeat' (first
      | (refine za1 ?_; first | (refine za5 ?_; refine zat _ rfl ?_) | (refine zae ?_; refine zaa _ rfl ?_) | (refine zbv ?_; first | (refine zbz rfl rfl aO ?_) | (refine zbu _ rfl rfl rfl ?_) | (refine zaw _ rfl rfl rfl ?_)) | (refine zbk ?_; first | (refine zaj aA rfl ?_) | (refine zak _ aA rfl rfl aE rfl ?_) | (refine zah _ aA rfl aZ aL ?_) | (refine zai _ aA rfl rfl aE aZ aL ?_)) | (refine zbd ?_; first | (refine zau _ aA rfl rfl aO aA ?_) | (refine zav _ aA rfl rfl rfl rfl aO aO (by first | (rw [Nat.zero_add, Int.toNat_natCast]) | (rw [Nat.zero_add]) | rfl) ?_)) | (refine za7 ?_; first | (refine zba aA rfl ?_) | (refine zbb aA rfl rfl ?_) | (refine zbc aA rfl ?_) | (refine za9 aA (evO_ok rfl) ?_)) | (refine zas (hK _ _ (.inl rfl) ?_); clear hK K) | (refine zas (hK _ _ (.inr (by kernel_rfl)) ?_); clear hK K))
      | (refine za4 ?_; first | (refine zbq ?_) | (refine zad (fun K hK => ?_)) | (refine zao ?_) | (refine za2 ?_) | (refine zbr ?_) | (refine za3 ?_) | (refine zbl ?_; first | (refine zam rfl aD ?_) | (refine zal rfl aD ?_) | (refine zaz rfl (fun h => ?_) (fun h => ?_) <;> (have h' := h; (try simp only [sx] at h')))))
      | (refine za0 ?_) | (refine zab ?_) | (refine zac ?_) | (refine zar ?_) | (refine zap ?_) | (refine zaq ?_) | (refine zan rfl ?_) | (refine zaf ?_) | (refine zag ?_) | (refine zbs ?_))
  refine zcf [0, 1, 7] [] (fun i : Nat => [(8, .int .i64 i)]) (fun i : Nat => []) (fun i : Nat => i ≤ xs.length ∧ ∀ j, j < i → ∀ c, xs[j]? = some c → p c = false) (fun i : Nat => xs.length - i) (0) rfl rfl (fun _ => rfl) (fun _ => rfl) rfl aW ⟨by omega, fun j hj => by omega⟩ (fun i hi => ?_)
  obtain ⟨hi1, hi2⟩ := hi
  rcases Nat.lt_or_ge i xs.length with hlt | hge
  · obtain ⟨a, hga⟩ := get_ex hlt
    have hx := Scen.at hga
    have kg := hg a (get_mem hga)
    repeat' (first
      | (refine za1 ?_; first | (refine za5 ?_; refine zat _ rfl ?_) | (refine zae ?_; refine zaa _ rfl ?_) | (refine zbv ?_; first | (refine zbz rfl rfl aO ?_) | (refine zbu _ rfl rfl rfl ?_) | (refine zaw _ rfl rfl rfl ?_)) | (refine zbk ?_; first | (refine zaj aA rfl ?_) | (refine zak _ aA rfl rfl aE rfl ?_) | (refine zah _ aA rfl aZ aL ?_) | (refine zai _ aA rfl rfl aE aZ aL ?_)) | (refine zbd ?_; first | (refine zau _ aA rfl rfl aO aA ?_) | (refine zav _ aA rfl rfl rfl rfl aO aO (by first | (rw [Nat.zero_add, Int.toNat_natCast]) | (rw [Nat.zero_add]) | rfl) ?_)) | (refine za7 ?_; first | (refine za8 true (kg) rfl rfl rfl aS rfl aH ?_; simp only [cl]) | (refine x_call [] _ (kg) rfl rfl aS rfl aH ?_; simp only [cl]) | (refine zba aA rfl ?_) | (refine zbb aA rfl rfl ?_) | (refine zbc aA rfl ?_) | (refine za9 aA (evO_ok rfl) ?_)) | (refine zas (hK _ _ (.inl rfl) ?_); clear hK K) | (refine zas (hK _ _ (.inr (by kernel_rfl)) ?_); clear hK K))
      | (refine za4 ?_; first | (refine zbq ?_) | (refine zad (fun K hK => ?_)) | (refine zao ?_) | (refine za2 ?_) | (refine zbr ?_) | (refine za3 ?_) | (refine zbl ?_; first | (refine zam rfl aD ?_) | (refine zal rfl aD ?_) | (refine zaz rfl (fun h => ?_) (fun h => ?_) <;> (have h' := h; (try simp only [sx] at h')))))
      | (refine za0 ?_) | (refine zab ?_) | (refine zac ?_) | (refine zar ?_) | (refine zap ?_) | (refine zaq ?_) | (refine zan rfl ?_) | (refine zaf ?_) | (refine zag ?_) | (refine zbs ?_))
    · exact zci rfl (zbo rfl) (idx_some hi2 hga aA).symm
    · refine zb9 (i + 1) rfl aW ⟨by omega, idx_step hi2 hga (by simpa using h)⟩ aO
  · repeat' (first
      | (refine za1 ?_; first | (refine za5 ?_; refine zat _ rfl ?_) | (refine zae ?_; refine zaa _ rfl ?_) | (refine zbv ?_; first | (refine zbz rfl rfl aO ?_) | (refine zbu _ rfl rfl rfl ?_) | (refine zaw _ rfl rfl rfl ?_)) | (refine zbk ?_; first | (refine zaj aA rfl ?_) | (refine zak _ aA rfl rfl aE rfl ?_) | (refine zah _ aA rfl aZ aL ?_) | (refine zai _ aA rfl rfl aE aZ aL ?_)) | (refine zbd ?_; first | (refine zau _ aA rfl rfl aO aA ?_) | (refine zav _ aA rfl rfl rfl rfl aO aO (by first | (rw [Nat.zero_add, Int.toNat_natCast]) | (rw [Nat.zero_add]) | rfl) ?_)) | (refine za7 ?_; first | (refine zba aA rfl ?_) | (refine zbb aA rfl rfl ?_) | (refine zbc aA rfl ?_) | (refine za9 aA (evO_ok rfl) ?_)) | (refine zas (hK _ _ (.inl rfl) ?_); clear hK K) | (refine zas (hK _ _ (.inr (by kernel_rfl)) ?_); clear hK K))
      | (refine za4 ?_; first | (refine zbq ?_) | (refine zad (fun K hK => ?_)) | (refine zao ?_) | (refine za2 ?_) | (refine zbr ?_) | (refine za3 ?_) | (refine zbl ?_; first | (refine zam rfl aD ?_) | (refine zal rfl aD ?_) | (refine zaz rfl (fun h => ?_) (fun h => ?_) <;> (have h' := h; (try simp only [sx] at h')))))
      | (refine za0 ?_) | (refine zab ?_) | (refine zac ?_) | (refine zar ?_) | (refine zap ?_) | (refine zaq ?_) | (refine zan rfl ?_) | (refine zaf ?_) | (refine zag ?_) | (refine zbs ?_))
    exact zci rfl (zbo rfl) (idx_none fun j hj => hi2 j aO).symm
theorem k_ContainsFuncScen (xs : List Scen) (g : FuncId) (ca : List (List PV)) (p : Scen → Bool) (hg : ∀ a ∈ xs, Con Try.prog g (.agg a.pv :: ca.map PV.ptr) (.bool (p a))) (hn : xs.length ≤ 1099511627776) :
    Con Try.prog 142 [.list 2 (xs.map Scen.pv), .fn g [] (ca.map PV.ptr)] (.bool (xs.any p)) := by
  intro al
  refine za6 hmix Try.func142 rfl (by kernel_rfl) (by kernel_rfl) (Nat.le_of_ble_eq_true rfl) (fun row h => by cases h) ?_
  have hty_u51 := ty_u51
  have hty_s51 := ty_s51
  repeat' (first
      | (refine za1 ?_; first | (refine za5 ?_; refine zat _ rfl ?_) | (refine zae ?_; refine zaa _ rfl ?_) | (refine zbv ?_; refine zbu _ rfl rfl rfl ?_) | (refine za7 ?_; refine za8 false (k_IndexFuncScen xs g ca p hg hn) rfl rfl rfl aS rfl aH ?_; simp only [cl]) | (refine zas (hK _ _ (.inl rfl) ?_); clear hK K) | (refine zas (hK _ _ (.inr (by kernel_rfl)) ?_); clear hK K))
      | (refine za4 ?_; first | (refine zbq ?_) | (refine zad (fun K hK => ?_)) | (refine zao ?_) | (refine za2 ?_) | (refine zbr ?_) | (refine za3 ?_))
      | (refine za0 ?_) | (refine zab ?_) | (refine zac ?_) | (refine zar ?_) | (refine zap ?_) | (refine zaq ?_) | (refine zan rfl ?_) | (refine zaf ?_) | (refine zag ?_) | (refine zbs ?_))
  refine zb3 rfl (zbo rfl) ?_
  rw [← idx_any]
theorem k_all1Scen (a : Scen) (g : FuncId) (ca : List (List PV)) (b : Bool) (hg : Con Try.prog g (.agg a.pv :: ca.map PV.ptr) (.bool b)) :
    Con Try.prog 143 [.agg a.pv, .ptr [.fn g [] (ca.map PV.ptr)]] (.bool (!b)) := by
  intro al
  refine za6 hmix Try.func143 rfl (by kernel_rfl) (by kernel_rfl) (Nat.le_of_ble_eq_true rfl) (fun row h => by cases h) ?_
  have hty_c103 := ty_c103
  have hty_a56 := ty_a56
  have kg := hg
  repeat' (first
      | (refine za1 ?_; first | (refine zae ?_; refine zaa _ rfl ?_) | (refine g_un ?_; first | (refine zce rfl ?_) | (refine zcd rfl aO ?_)) | (refine zbk ?_; first | (refine zaj aA rfl ?_) | (refine zak _ aA rfl rfl aE rfl ?_) | (refine zah _ aA rfl aZ aL ?_) | (refine zai _ aA rfl rfl aE aZ aL ?_)) | (refine za7 ?_; first | (refine za8 true (kg) rfl rfl rfl aS rfl aH ?_; simp only [cl]) | (refine x_call [] _ (kg) rfl rfl aS rfl aH ?_; simp only [cl])) | (refine zby _ _ rfl rfl rfl rfl ?_) | (refine zas (hK _ _ (.inl rfl) ?_); clear hK K) | (refine zas (hK _ _ (.inr (by kernel_rfl)) ?_); clear hK K))
      | (refine za4 ?_; first | (refine zbq ?_) | (refine zad (fun K hK => ?_)) | (refine zao ?_) | (refine za2 ?_) | (refine zbr ?_) | (refine za3 ?_))
      | (refine za0 ?_) | (refine zab ?_) | (refine zac ?_) | (refine zar ?_) | (refine zap ?_) | (refine zaq ?_) | (refine zan rfl ?_) | (refine zaf ?_) | (refine zag ?_) | (refine zbs ?_))
  exact zb3 rfl (zbo rfl) rfl
theorem k_allScen (xs : List Scen) (g : FuncId) (ca : List (List PV)) (p : Scen → Bool) (hg : ∀ a ∈ xs, Con Try.prog g (.agg a.pv :: ca.map PV.ptr) (.bool (p a))) (hn : xs.length ≤ 1099511627776) :
    Con Try.prog 108 [.list 2 (xs.map Scen.pv), .fn g [] (ca.map PV.ptr)] (.bool (xs.all p)) := by
  intro al
  refine za6 hmix Try.func108 rfl (by kernel_rfl) (by kernel_rfl) (Nat.le_of_ble_eq_true rfl) (fun row h => by cases h) ?_
  have hty_u51 := ty_u51
  have hty_s51 := ty_s51
  repeat' (first
      | (refine za1 ?_; first | (refine za5 ?_; refine zat _ rfl ?_) | (refine zae ?_; refine zaa _ rfl ?_) | (refine g_un ?_; first | (refine zce rfl ?_) | (refine zcd rfl aO ?_)) | (refine za7 ?_; refine za8 true (k_ContainsFuncScen xs 143 [[.fn g [] (ca.map PV.ptr)]] (fun a => !p a) (fun a ha => k_all1Scen a g ca (p a) (hg a ha)) hn) rfl rfl rfl aS rfl aH ?_; simp only [cl]) | (refine zby _ _ rfl rfl rfl rfl ?_) | (refine zck _ _ rfl rfl ?_) | (refine zas (hK _ _ (.inl rfl) ?_); clear hK K) | (refine zas (hK _ _ (.inr (by kernel_rfl)) ?_); clear hK K))
      | (refine za4 ?_; first | (refine zbq ?_) | (refine zad (fun K hK => ?_)) | (refine zao ?_) | (refine za2 ?_) | (refine zbr ?_) | (refine za3 ?_))
      | (refine za0 ?_) | (refine zab ?_) | (refine zac ?_) | (refine zar ?_) | (refine zap ?_) | (refine zaq ?_) | (refine zan rfl ?_) | (refine zaf ?_) | (refine zag ?_) | (refine zbs ?_))
  refine zb3 rfl (zbo rfl) ?_
  rw [List.all_eq_not_any_not]
end Go.Vs
set_option linter.unusedVariables false
set_option linter.unusedSimpArgs false
set_option maxRecDepth 100000
set_option maxHeartbeats 4000000
namespace Go.Vs
open Go.Proofs
attribute [local irreducible] exec vwp thenQ blkQ loopQ RetPost
noncomputable def arL (b : Blz) : List Int := if GoodB b then arr b else []
theorem k_iArr (b : Blz) (z : SzB b) : Con Try.prog 9 [.agg b.t.pv, .list 2 (b.ps.map Phase.pv), .list 1 (ints b.src), .int .i64 b.st] (.tuple [.olist 3 1 (ints (arL b)), .bool (decide (GoodB b))]) := by
  intro al
  refine za6 hmix Try.func9 rfl (by kernel_rfl) (by kernel_rfl) (Nat.le_of_ble_eq_true rfl) (fun row h => by cases h) ?_
  have hty_a26 := ty_a26
  have hty_u27 := ty_u27
  have hty_s27 := ty_s27
  have hty_u24 := ty_u24
  have hty_s24 := ty_s24
  have k1 := k_isFire b z
  by_cases hb : GoodB b
  · rw [arL, if_pos hb, decide_eq_true hb]
    rw [decide_eq_true hb] at k1
    repeat' (first
      | (refine za1 ?_; first | (refine za5 ?_; refine zat _ rfl ?_) | (refine zae ?_; refine zaa _ rfl ?_) | (refine g_un ?_; first | (refine zce rfl ?_) | (refine zcd rfl aO ?_)) | (refine zbk ?_; first | (refine zaj aA rfl ?_) | (refine zak _ aA rfl rfl aE rfl ?_) | (refine zah _ aA rfl aZ aL ?_) | (refine zai _ aA rfl rfl aE aZ aL ?_)) | (refine za7 ?_; first | (refine za8 true (k1) rfl rfl rfl aS rfl aH ?_; simp only [cl]) | (refine za8 true (k_arrivals b hb z.hs) rfl rfl rfl aS rfl aH ?_; simp only [cl])) | (refine zby _ _ rfl rfl rfl rfl ?_) | (refine zas (hK _ _ (.inl rfl) ?_); clear hK K) | (refine zas (hK _ _ (.inr (by kernel_rfl)) ?_); clear hK K))
      | (refine za4 ?_; first | (refine zbq ?_) | (refine zad (fun K hK => ?_)) | (refine zao ?_) | (refine za2 ?_) | (refine zbr ?_) | (refine za3 ?_) | (refine zbl ?_; first | (refine zam rfl aD ?_) | (refine zal rfl aD ?_) | (refine zaz rfl (fun h => ?_) (fun h => ?_) <;> (have h' := h; (try simp only [sx] at h')))))
      | (refine za0 ?_) | (refine zab ?_) | (refine zac ?_) | (refine zar ?_) | (refine zap ?_) | (refine zaq ?_) | (refine zan rfl ?_) | (refine zaf ?_) | (refine zag ?_) | (refine zbs ?_))
    all_goals first
      | (exfalso; omega)
      | exact aR
  · rw [arL, if_neg hb, decide_eq_false hb]
    rw [decide_eq_false hb] at k1
    repeat' (first
      | (refine za1 ?_; first | (refine za5 ?_; refine zat _ rfl ?_) | (refine zae ?_; refine zaa _ rfl ?_) | (refine g_un ?_; first | (refine zce rfl ?_) | (refine zcd rfl aO ?_)) | (refine zbk ?_; first | (refine zaj aA rfl ?_) | (refine zak _ aA rfl rfl aE rfl ?_) | (refine zah _ aA rfl aZ aL ?_) | (refine zai _ aA rfl rfl aE aZ aL ?_)) | (refine za7 ?_; refine za8 true (k1) rfl rfl rfl aS rfl aH ?_; simp only [cl]) | (refine zby _ _ rfl rfl rfl rfl ?_) | (refine zas (hK _ _ (.inl rfl) ?_); clear hK K) | (refine zas (hK _ _ (.inr (by kernel_rfl)) ?_); clear hK K))
      | (refine za4 ?_; first | (refine zbq ?_) | (refine zad (fun K hK => ?_)) | (refine zao ?_) | (refine za2 ?_) | (refine zbr ?_) | (refine za3 ?_) | (refine zbl ?_; first | (refine zam rfl aD ?_) | (refine zal rfl aD ?_) | (refine zaz rfl (fun h => ?_) (fun h => ?_) <;> (have h' := h; (try simp only [sx] at h')))))
      | (refine za0 ?_) | (refine zab ?_) | (refine zac ?_) | (refine zar ?_) | (refine zap ?_) | (refine zaq ?_) | (refine zan rfl ?_) | (refine zaf ?_) | (refine zag ?_) | (refine zbs ?_))
    all_goals first
      | (exfalso; omega)
      | exact aR
def WdOk (ps : List Phase) (t w : Int) : Prop := GoodP ps ∧ (0 ≤ t ∧ t ≤ 9999) ∧ (0 ≤ w ∧ w ≤ 1000) ∧ dn (spF ps) t w ≤ 9999
instance (ps : List Phase) (t w : Int) : Decidable (WdOk ps t w) := by unfold WdOk; infer_instance
end Go.Vs
set_option linter.unusedVariables false
set_option linter.unusedSimpArgs false
set_option maxRecDepth 100000
set_option maxHeartbeats 4000000
namespace Go.Vs
open Go.Proofs
attribute [local irreducible] exec vwp thenQ blkQ loopQ RetPost
theorem k_burned1 (T : List Int) (k : Int) (c : Nat) (hc : c < T.length) : Con Try.prog 135 [.int .i64 (c : Int), .ptr [.list 1 (ints T)], .ptr [.int .i64 k]] (.bool (buP T k c)) := by
  intro al
  refine za6 hmix Try.func135 rfl (by kernel_rfl) (by kernel_rfl) (Nat.le_of_ble_eq_true rfl) (fun row h => by cases h) ?_
  have hty_c24 := ty_c24
  have hty_s24 := ty_s24
  have hty_c3 := ty_c3
  have hx := tv_int (T := T) (c := (c : Int)) (by simpa using hc)
  have hl : (ints T).length = T.length := by simp
  have kI := k_in (tv T (c : Int)) 0 k
  repeat' (first
      | (refine za1 ?_; first | (refine za5 ?_; refine zat _ rfl ?_) | (refine zae ?_; refine zaa _ rfl ?_) | (refine zbk ?_; first | (refine zaj aA rfl ?_) | (refine zak _ aA rfl rfl aE rfl ?_) | (refine zah _ aA rfl aZ aL ?_) | (refine zai _ aA rfl rfl aE aZ aL ?_)) | (refine zbd ?_; first | (refine zau _ aA rfl rfl aO aA ?_) | (refine zav _ aA rfl rfl rfl rfl aO aO (by first | (rw [Nat.zero_add, Int.toNat_natCast]) | (rw [Nat.zero_add]) | rfl) ?_)) | (refine za7 ?_; refine za8 true (kI) rfl rfl rfl aS rfl aH ?_; simp only [cl]) | (refine zas (hK _ _ (.inl rfl) ?_); clear hK K) | (refine zas (hK _ _ (.inr (by kernel_rfl)) ?_); clear hK K))
      | (refine za4 ?_; first | (refine zbq ?_) | (refine zad (fun K hK => ?_)) | (refine zao ?_) | (refine za2 ?_) | (refine zbr ?_) | (refine za3 ?_))
      | (refine za0 ?_) | (refine zab ?_) | (refine zac ?_) | (refine zar ?_) | (refine zap ?_) | (refine zaq ?_) | (refine zan rfl ?_) | (refine zaf ?_) | (refine zag ?_) | (refine zbs ?_))
  all_goals first
    | (exfalso; omega)
    | exact zb3 rfl (zbo rfl) (by simp [buP])
theorem k_burned (b : Blz) (hb : GoodB b) (hs : b.src.length ≤ 1099511627776) (k : Int) :
    Con Try.prog 87 [.agg b.t.pv, .list 2 (b.ps.map Phase.pv), .list 1 (ints b.src), .int .i64 b.st, .int .i64 k] (.olist 3 1 (ints (burL (arr b) k))) := by
  intro al
  refine za6 hmix Try.func87 rfl (by kernel_rfl) (by kernel_rfl) (Nat.le_of_ble_eq_true rfl) (fun row h => by cases h) ?_
  have hty_a26 := ty_a26
  have hty_u27 := ty_u27
  have hty_s27 := ty_s27
  have hty_u24 := ty_u24
  have hty_s24 := ty_s24
  have hty_z24 := ty_z24
  have hty_t24 := ty_t24
  have hl := arr_len hb
  have hlen := goodT_len hb.1.1
  have kA := k_arrivals b hb hs
  have kC := k_cellsThat b.t 135 [[.list 1 (ints (arr b))], [.int .i64 k]] (buP (arr b) k) (fun c hc => k_burned1 (arr b) k c aO) aO
  unfold burL
  rw [hl]
  repeat' (first
      | (refine za1 ?_; first | (refine za5 ?_; refine zat _ rfl ?_) | (refine zae ?_; refine zaa _ rfl ?_) | (refine zbk ?_; first | (refine zaj aA rfl ?_) | (refine zak _ aA rfl rfl aE rfl ?_) | (refine zah _ aA rfl aZ aL ?_) | (refine zai _ aA rfl rfl aE aZ aL ?_)) | (refine za7 ?_; first | (refine za8 true (kA) rfl rfl rfl aS rfl aH ?_; simp only [cl]) | (refine za8 true (kC) rfl rfl rfl aS rfl aH ?_; simp only [cl])) | (refine zby _ _ rfl rfl rfl rfl ?_) | (refine zca _ aA rfl ?_) | (refine zb2 aA rfl ?_) | (refine zck _ _ rfl rfl ?_) | (refine zbn _ _ _ rfl rfl aE (by first | assumption | (exact TAgg.size aA)) rfl rfl rfl aZ rfl aL (by first | (first | (simp only [lx, Nat.reduceAdd]; first | done | rfl) | fail) | rfl) ?_) | (refine zas (hK _ _ (.inl rfl) ?_); clear hK K) | (refine zas (hK _ _ (.inr (by kernel_rfl)) ?_); clear hK K))
      | (refine za4 ?_; first | (refine zbq ?_) | (refine zad (fun K hK => ?_)) | (refine zao ?_) | (refine za2 ?_) | (refine zbr ?_) | (refine za3 ?_))
      | (refine za0 ?_) | (refine zab ?_) | (refine zac ?_) | (refine zar ?_) | (refine zap ?_) | (refine zaq ?_) | (refine zan rfl ?_) | (refine zaf ?_) | (refine zag ?_) | (refine zbs ?_))
  all_goals first
    | (exfalso; omega)
    | exact zcl rfl (zbo (by rfl)) (by rfl) (by decide) rfl (ints_flat _) rfl
theorem k_l4Burned (T : List Int) (k : Int) (hn : T.length ≤ 1000000) : Con Try.prog 88 [.list 1 (ints T), .int .i64 k] (.olist 3 1 (ints (burL T k))) := by
  intro al
  refine za6 hmix Try.func88 rfl (by kernel_rfl) (by kernel_rfl) (Nat.le_of_ble_eq_true rfl) (fun row h => by cases h) ?_
  have hty_s24 := ty_s24
  have hty_u24 := ty_u24
  have hty_c3 := ty_c3
  have hl1 : (ints T).length = T.length := by simp
  repeat' (first
      | (refine za1 ?_; first | (refine za5 ?_; refine zat _ rfl ?_) | (refine zae ?_; refine zaa _ rfl ?_) | (refine zbv ?_; first | (refine zbz rfl rfl aO ?_) | (refine zbu _ rfl rfl rfl ?_) | (refine zaw _ rfl rfl rfl ?_)) | (refine zbk ?_; first | (refine zaj aA rfl ?_) | (refine zak _ aA rfl rfl aE rfl ?_) | (refine zah _ aA rfl aZ aL ?_) | (refine zai _ aA rfl rfl aE aZ aL ?_)) | (refine zbd ?_; first | (refine zau _ aA rfl rfl aO aA ?_) | (refine zav _ aA rfl rfl rfl rfl aO aO (by first | (rw [Nat.zero_add, Int.toNat_natCast]) | (rw [Nat.zero_add]) | rfl) ?_)) | (refine za7 ?_; first | (refine zba aA rfl ?_) | (refine zbb aA rfl rfl ?_) | (refine zbc aA rfl ?_) | (refine za9 aA (evO_ok rfl) ?_) | (refine zb7 _ _ aA rfl (lookM (by rfl)) rfl (lookM (by rfl)) rfl aN ⟨rfl, rfl, by decide, by decide⟩ (by first | rfl | omega | (simp; done) | (simp; omega) | fail) ⟨by first | (simp only [List.length_cons, List.length_nil]; omega) | omega | fail, by decide⟩ rfl (by first | (first | (simp only [lx, Nat.reduceAdd]; first | done | rfl) | fail) | rfl) aP ?_) | (refine zb8 _ _ aA rfl rfl (lookM (by rfl)) ⟨rfl, by decide⟩ aN (by first | exact Nat.succ_pos _ | omega | (simp; done)) ⟨by first | (simp only [List.length_cons, List.length_nil]; omega) | omega | fail, by decide⟩ rfl rfl aP ?_) | (refine zb6 _ aA rfl rfl (lookM (by rfl)) ⟨rfl, by decide⟩ aN ⟨by first | (simp only [List.length_cons, List.length_nil]; omega) | omega | fail, by decide⟩ rfl aP ?_) | (refine zb1 _ aA rfl rfl rfl ⟨rfl, rfl, rfl, by decide, by decide⟩ (by first | rfl | (simp; done) | fail) ⟨by omega, by decide⟩ rfl aL (by first | (rw [Nat.zero_add]) | rfl) ?_)) | (refine zbe aA rfl rfl rfl ?_) | (refine zas (hK _ _ (.inl rfl) ?_); clear hK K) | (refine zas (hK _ _ (.inr (by kernel_rfl)) ?_); clear hK K))
      | (refine za4 ?_; first | (refine zbq ?_) | (refine zad (fun K hK => ?_)) | (refine zao ?_) | (refine za2 ?_) | (refine zbr ?_) | (refine za3 ?_) | (refine zbl ?_; first | (refine zam rfl aD ?_) | (refine zal rfl aD ?_) | (refine zaz rfl (fun h => ?_) (fun h => ?_) <;> (have h' := h; (try simp only [sx] at h')))))
      | (refine za0 ?_) | (refine zab ?_) | (refine zac ?_) | (refine zar ?_) | (refine zap ?_) | (refine zaq ?_) | (refine zan rfl ?_) | (refine zaf ?_) | (refine zag ?_) | (refine zbs ?_))
  refine zcf [0, 1] [] (fun q : Nat × Nat × List (List PV) => [(5, .osl (1001, 0) 0 q.2.1), (6, .int .i64 q.1)]) (fun q : Nat × Nat × List (List PV) => [((1001, 0), some ⟨3, 1, q.2.2, false⟩)]) (fun q : Nat × Nat × List (List PV) => q.1 ≤ T.length ∧ q.2.2 = ints (cellsL q.1 (buP T k)) ∧ q.2.2.length = q.2.1) (fun q : Nat × Nat × List (List PV) => T.length - q.1) ((0, 0, [])) rfl rfl (fun _ => rfl) (fun _ => rfl) rfl aW ⟨by simp, by simp [cellsL], rfl⟩ (fun q hq => ?_)
  obtain ⟨i, m, es⟩ := q
  obtain ⟨hi1, hi2, hl⟩ := hq
  simp only at hi1 hi2 hl
  have hle : es.length ≤ i := by rw [hi2, ints_len]; exact cellsL_len i _
  dsimp only
  rcases Nat.lt_or_ge i T.length with hlt | hge
  · have hx := tv_int (T := T) (c := (i : Int)) (by simpa using hlt)
    have kI := k_l1In (tv T (i : Int)) 0 k
    rw [show (decide (0 ≤ tv T (i : Int)) && decide (tv T (i : Int) ≤ k)) = buP T k i by simp [buP]] at kI
    cases hp : buP T k i with
    | true =>
      rw [hp] at kI
      repeat' (first
      | (refine za1 ?_; first | (refine za5 ?_; refine zat _ rfl ?_) | (refine zae ?_; refine zaa _ rfl ?_) | (refine zbv ?_; first | (refine zbz rfl rfl aO ?_) | (refine zbu _ rfl rfl rfl ?_) | (refine zaw _ rfl rfl rfl ?_)) | (refine zbk ?_; first | (refine zaj aA rfl ?_) | (refine zak _ aA rfl rfl aE rfl ?_) | (refine zah _ aA rfl aZ aL ?_) | (refine zai _ aA rfl rfl aE aZ aL ?_)) | (refine zbd ?_; first | (refine zau _ aA rfl rfl aO aA ?_) | (refine zav _ aA rfl rfl rfl rfl aO aO (by first | (rw [Nat.zero_add, Int.toNat_natCast]) | (rw [Nat.zero_add]) | rfl) ?_)) | (refine za7 ?_; first | (refine za8 true (kI) rfl rfl rfl aS rfl aH ?_; simp only [cl]) | (refine zba aA rfl ?_) | (refine zbb aA rfl rfl ?_) | (refine zbc aA rfl ?_) | (refine za9 aA (evO_ok rfl) ?_) | (refine zb7 _ _ aA rfl (lookM (by rfl)) rfl (lookM (by rfl)) rfl aN ⟨rfl, rfl, by decide, by decide⟩ (by first | rfl | omega | (simp; done) | (simp; omega) | fail) ⟨by first | (simp only [List.length_cons, List.length_nil]; omega) | omega | fail, by decide⟩ rfl (by first | (first | (simp only [lx, Nat.reduceAdd]; first | done | rfl) | fail) | rfl) aP ?_) | (refine zb8 _ _ aA rfl rfl (lookM (by rfl)) ⟨rfl, by decide⟩ aN (by first | exact Nat.succ_pos _ | omega | (simp; done)) ⟨by first | (simp only [List.length_cons, List.length_nil]; omega) | omega | fail, by decide⟩ rfl rfl aP ?_) | (refine zb6 _ aA rfl rfl (lookM (by rfl)) ⟨rfl, by decide⟩ aN ⟨by first | (simp only [List.length_cons, List.length_nil]; omega) | omega | fail, by decide⟩ rfl aP ?_) | (refine zb1 _ aA rfl rfl rfl ⟨rfl, rfl, rfl, by decide, by decide⟩ (by first | rfl | (simp; done) | fail) ⟨by omega, by decide⟩ rfl aL (by first | (rw [Nat.zero_add]) | rfl) ?_)) | (refine zbe aA rfl rfl rfl ?_) | (refine zas (hK _ _ (.inl rfl) ?_); clear hK K) | (refine zas (hK _ _ (.inr (by kernel_rfl)) ?_); clear hK K))
      | (refine za4 ?_; first | (refine zbq ?_) | (refine zad (fun K hK => ?_)) | (refine zao ?_) | (refine za2 ?_) | (refine zbr ?_) | (refine za3 ?_) | (refine zbl ?_; first | (refine zam rfl aD ?_) | (refine zal rfl aD ?_) | (refine zaz rfl (fun h => ?_) (fun h => ?_) <;> (have h' := h; (try simp only [sx] at h')))))
      | (refine za0 ?_) | (refine zab ?_) | (refine zac ?_) | (refine zar ?_) | (refine zap ?_) | (refine zaq ?_) | (refine zan rfl ?_) | (refine zaf ?_) | (refine zag ?_) | (refine zbs ?_))
      all_goals first
        | (exfalso; omega)
        | (refine zb9 (i + 1, m + 1, es ++ [[.int .i64 i]]) rfl aW ⟨by simp only; omega, by simp only [cellsL_t hp, ints_snoc, hi2], by simp [hl]⟩ (by simp only; omega))
    | false =>
      rw [hp] at kI
      repeat' (first
      | (refine za1 ?_; first | (refine za5 ?_; refine zat _ rfl ?_) | (refine zae ?_; refine zaa _ rfl ?_) | (refine zbv ?_; first | (refine zbz rfl rfl aO ?_) | (refine zbu _ rfl rfl rfl ?_) | (refine zaw _ rfl rfl rfl ?_)) | (refine zbk ?_; first | (refine zaj aA rfl ?_) | (refine zak _ aA rfl rfl aE rfl ?_) | (refine zah _ aA rfl aZ aL ?_) | (refine zai _ aA rfl rfl aE aZ aL ?_)) | (refine zbd ?_; first | (refine zau _ aA rfl rfl aO aA ?_) | (refine zav _ aA rfl rfl rfl rfl aO aO (by first | (rw [Nat.zero_add, Int.toNat_natCast]) | (rw [Nat.zero_add]) | rfl) ?_)) | (refine za7 ?_; first | (refine za8 true (kI) rfl rfl rfl aS rfl aH ?_; simp only [cl]) | (refine zba aA rfl ?_) | (refine zbb aA rfl rfl ?_) | (refine zbc aA rfl ?_) | (refine za9 aA (evO_ok rfl) ?_) | (refine zb7 _ _ aA rfl (lookM (by rfl)) rfl (lookM (by rfl)) rfl aN ⟨rfl, rfl, by decide, by decide⟩ (by first | rfl | omega | (simp; done) | (simp; omega) | fail) ⟨by first | (simp only [List.length_cons, List.length_nil]; omega) | omega | fail, by decide⟩ rfl (by first | (first | (simp only [lx, Nat.reduceAdd]; first | done | rfl) | fail) | rfl) aP ?_) | (refine zb8 _ _ aA rfl rfl (lookM (by rfl)) ⟨rfl, by decide⟩ aN (by first | exact Nat.succ_pos _ | omega | (simp; done)) ⟨by first | (simp only [List.length_cons, List.length_nil]; omega) | omega | fail, by decide⟩ rfl rfl aP ?_) | (refine zb6 _ aA rfl rfl (lookM (by rfl)) ⟨rfl, by decide⟩ aN ⟨by first | (simp only [List.length_cons, List.length_nil]; omega) | omega | fail, by decide⟩ rfl aP ?_) | (refine zb1 _ aA rfl rfl rfl ⟨rfl, rfl, rfl, by decide, by decide⟩ (by first | rfl | (simp; done) | fail) ⟨by omega, by decide⟩ rfl aL (by first | (rw [Nat.zero_add]) | rfl) ?_)) | (refine zbe aA rfl rfl rfl ?_) | (refine zas (hK _ _ (.inl rfl) ?_); clear hK K) | (refine zas (hK _ _ (.inr (by kernel_rfl)) ?_); clear hK K))
      | (refine za4 ?_; first | (refine zbq ?_) | (refine zad (fun K hK => ?_)) | (refine zao ?_) | (refine za2 ?_) | (refine zbr ?_) | (refine za3 ?_) | (refine zbl ?_; first | (refine zam rfl aD ?_) | (refine zal rfl aD ?_) | (refine zaz rfl (fun h => ?_) (fun h => ?_) <;> (have h' := h; (try simp only [sx] at h')))))
      | (refine za0 ?_) | (refine zab ?_) | (refine zac ?_) | (refine zar ?_) | (refine zap ?_) | (refine zaq ?_) | (refine zan rfl ?_) | (refine zaf ?_) | (refine zag ?_) | (refine zbs ?_))
      all_goals first
        | (exfalso; omega)
        | (refine zb9 (i + 1, m, es) rfl aW ⟨by simp only; omega, by simp only [cellsL_f hp, hi2], hl⟩ (by simp only; omega))
  · have : i = T.length := by omega
    subst this
    repeat' (first
      | (refine za1 ?_; first | (refine za5 ?_; refine zat _ rfl ?_) | (refine zae ?_; refine zaa _ rfl ?_) | (refine zbv ?_; first | (refine zbz rfl rfl aO ?_) | (refine zbu _ rfl rfl rfl ?_) | (refine zaw _ rfl rfl rfl ?_)) | (refine zbk ?_; first | (refine zaj aA rfl ?_) | (refine zak _ aA rfl rfl aE rfl ?_) | (refine zah _ aA rfl aZ aL ?_) | (refine zai _ aA rfl rfl aE aZ aL ?_)) | (refine zbd ?_; first | (refine zau _ aA rfl rfl aO aA ?_) | (refine zav _ aA rfl rfl rfl rfl aO aO (by first | (rw [Nat.zero_add, Int.toNat_natCast]) | (rw [Nat.zero_add]) | rfl) ?_)) | (refine za7 ?_; first | (refine zba aA rfl ?_) | (refine zbb aA rfl rfl ?_) | (refine zbc aA rfl ?_) | (refine za9 aA (evO_ok rfl) ?_) | (refine zb7 _ _ aA rfl (lookM (by rfl)) rfl (lookM (by rfl)) rfl aN ⟨rfl, rfl, by decide, by decide⟩ (by first | rfl | omega | (simp; done) | (simp; omega) | fail) ⟨by first | (simp only [List.length_cons, List.length_nil]; omega) | omega | fail, by decide⟩ rfl (by first | (first | (simp only [lx, Nat.reduceAdd]; first | done | rfl) | fail) | rfl) aP ?_) | (refine zb8 _ _ aA rfl rfl (lookM (by rfl)) ⟨rfl, by decide⟩ aN (by first | exact Nat.succ_pos _ | omega | (simp; done)) ⟨by first | (simp only [List.length_cons, List.length_nil]; omega) | omega | fail, by decide⟩ rfl rfl aP ?_) | (refine zb6 _ aA rfl rfl (lookM (by rfl)) ⟨rfl, by decide⟩ aN ⟨by first | (simp only [List.length_cons, List.length_nil]; omega) | omega | fail, by decide⟩ rfl aP ?_) | (refine zb1 _ aA rfl rfl rfl ⟨rfl, rfl, rfl, by decide, by decide⟩ (by first | rfl | (simp; done) | fail) ⟨by omega, by decide⟩ rfl aL (by first | (rw [Nat.zero_add]) | rfl) ?_)) | (refine zbe aA rfl rfl rfl ?_) | (refine zas (hK _ _ (.inl rfl) ?_); clear hK K) | (refine zas (hK _ _ (.inr (by kernel_rfl)) ?_); clear hK K))
      | (refine za4 ?_; first | (refine zbq ?_) | (refine zad (fun K hK => ?_)) | (refine zao ?_) | (refine za2 ?_) | (refine zbr ?_) | (refine za3 ?_) | (refine zbl ?_; first | (refine zam rfl aD ?_) | (refine zal rfl aD ?_) | (refine zaz rfl (fun h => ?_) (fun h => ?_) <;> (have h' := h; (try simp only [sx] at h')))))
      | (refine za0 ?_) | (refine zab ?_) | (refine zac ?_) | (refine zar ?_) | (refine zap ?_) | (refine zaq ?_) | (refine zan rfl ?_) | (refine zaf ?_) | (refine zag ?_) | (refine zbs ?_))
    all_goals first
      | (exfalso; omega)
      | exact zcl rfl (zbo (by rfl)) (by rfl) (by decide) hl.symm (by rw [hi2]; exact ints_flat _) hi2
@[reducible] def BuOk (b : Blz) (k : Int) : Prop := GoodB b ∧ 0 ≤ k ∧ k ≤ 9999
noncomputable def buL (b : Blz) (k : Int) : List Int := if BuOk b k then burL (arr b) k else []
@[reducible] noncomputable def buRes (b : Blz) (k : Int) : PV := .tuple [.olist 3 1 (ints (buL b k)), .bool (decide (BuOk b k))]
theorem k_iBurnedBy (b : Blz) (z : SzB b) (k : Int) : Con Try.prog 27 [.agg b.t.pv, .list 2 (b.ps.map Phase.pv), .list 1 (ints b.src), .int .i64 b.st, .int .i64 k] (buRes b k) := by
  intro al
  refine za6 hmix Try.func27 rfl (by kernel_rfl) (by kernel_rfl) (Nat.le_of_ble_eq_true rfl) (fun row h => by cases h) ?_
  have hty_a26 := ty_a26
  have hty_u27 := ty_u27
  have hty_s27 := ty_s27
  have hty_u24 := ty_u24
  have hty_s24 := ty_s24
  have k1 := k_isFire b z
  have k2 := k_isTick k
  by_cases hb : GoodB b
  · rw [decide_eq_true hb] at k1
    by_cases hk : 0 ≤ k ∧ k ≤ 9999
    · have hok : BuOk b k := ⟨hb, hk⟩
      rw [buRes, buL, if_pos hok, decide_eq_true hok]
      repeat' (first
      | (refine za1 ?_; first | (refine za5 ?_; refine zat _ rfl ?_) | (refine zae ?_; refine zaa _ rfl ?_) | (refine g_un ?_; first | (refine zce rfl ?_) | (refine zcd rfl aO ?_)) | (refine zbk ?_; first | (refine zaj aA rfl ?_) | (refine zak _ aA rfl rfl aE rfl ?_) | (refine zah _ aA rfl aZ aL ?_) | (refine zai _ aA rfl rfl aE aZ aL ?_)) | (refine zbx ?_; first | (refine zbf rfl aD rfl ?_) | (refine zbh rfl aD ?_) | (refine zbi rfl aD ?_) | (refine zbg rfl aD rfl ?_)) | (refine zbp ?_; first | (refine zbw rfl rfl aD ?_) | (refine zb4 rfl rfl aD ?_) | (refine zb5 rfl rfl ?_) | (refine zbj rfl rfl (fun h => ?_) (fun h => ?_) <;> (have h' := h; (try simp only [sx] at h')))) | (refine za7 ?_; first | (refine za8 true (k1) rfl rfl rfl aS rfl aH ?_; simp only [cl]) | (refine za8 true (k2) rfl rfl rfl aS rfl aH ?_; simp only [cl]) | (refine za8 true (k_burned b hb z.hs k) rfl rfl rfl aS rfl aH ?_; simp only [cl])) | (refine zby _ _ rfl rfl rfl rfl ?_) | (refine zas (hK _ _ (.inl rfl) ?_); clear hK K) | (refine zas (hK _ _ (.inr (by kernel_rfl)) ?_); clear hK K))
      | (refine za4 ?_; first | (refine zbq ?_) | (refine zad (fun K hK => ?_)) | (refine zao ?_) | (refine za2 ?_) | (refine zbr ?_) | (refine za3 ?_) | (refine zbl ?_; first | (refine zam rfl aD ?_) | (refine zal rfl aD ?_) | (refine zaz rfl (fun h => ?_) (fun h => ?_) <;> (have h' := h; (try simp only [sx] at h')))))
      | (refine za0 ?_) | (refine zab ?_) | (refine zac ?_) | (refine zar ?_) | (refine zap ?_) | (refine zaq ?_) | (refine zan rfl ?_) | (refine zaf ?_) | (refine zag ?_) | (refine zbs ?_))
      all_goals first
        | (exfalso; omega)
        | exact aR
    · have hok : ¬ BuOk b k := fun h => hk h.2
      rw [buRes, buL, if_neg hok, decide_eq_false hok]
      repeat' (first
      | (refine za1 ?_; first | (refine za5 ?_; refine zat _ rfl ?_) | (refine zae ?_; refine zaa _ rfl ?_) | (refine g_un ?_; first | (refine zce rfl ?_) | (refine zcd rfl aO ?_)) | (refine zbk ?_; first | (refine zaj aA rfl ?_) | (refine zak _ aA rfl rfl aE rfl ?_) | (refine zah _ aA rfl aZ aL ?_) | (refine zai _ aA rfl rfl aE aZ aL ?_)) | (refine zbx ?_; first | (refine zbf rfl aD rfl ?_) | (refine zbh rfl aD ?_) | (refine zbi rfl aD ?_) | (refine zbg rfl aD rfl ?_)) | (refine zbp ?_; first | (refine zbw rfl rfl aD ?_) | (refine zb4 rfl rfl aD ?_) | (refine zb5 rfl rfl ?_) | (refine zbj rfl rfl (fun h => ?_) (fun h => ?_) <;> (have h' := h; (try simp only [sx] at h')))) | (refine za7 ?_; first | (refine za8 true (k1) rfl rfl rfl aS rfl aH ?_; simp only [cl]) | (refine za8 true (k2) rfl rfl rfl aS rfl aH ?_; simp only [cl])) | (refine zby _ _ rfl rfl rfl rfl ?_) | (refine zas (hK _ _ (.inl rfl) ?_); clear hK K) | (refine zas (hK _ _ (.inr (by kernel_rfl)) ?_); clear hK K))
      | (refine za4 ?_; first | (refine zbq ?_) | (refine zad (fun K hK => ?_)) | (refine zao ?_) | (refine za2 ?_) | (refine zbr ?_) | (refine za3 ?_) | (refine zbl ?_; first | (refine zam rfl aD ?_) | (refine zal rfl aD ?_) | (refine zaz rfl (fun h => ?_) (fun h => ?_) <;> (have h' := h; (try simp only [sx] at h')))))
      | (refine za0 ?_) | (refine zab ?_) | (refine zac ?_) | (refine zar ?_) | (refine zap ?_) | (refine zaq ?_) | (refine zan rfl ?_) | (refine zaf ?_) | (refine zag ?_) | (refine zbs ?_))
      all_goals first
        | (exfalso; omega)
        | exact aR
  · have hok : ¬ BuOk b k := fun h => hb h.1
    rw [decide_eq_false hb] at k1
    rw [buRes, buL, if_neg hok, decide_eq_false hok]
    repeat' (first
      | (refine za1 ?_; first | (refine za5 ?_; refine zat _ rfl ?_) | (refine zae ?_; refine zaa _ rfl ?_) | (refine g_un ?_; first | (refine zce rfl ?_) | (refine zcd rfl aO ?_)) | (refine zbk ?_; first | (refine zaj aA rfl ?_) | (refine zak _ aA rfl rfl aE rfl ?_) | (refine zah _ aA rfl aZ aL ?_) | (refine zai _ aA rfl rfl aE aZ aL ?_)) | (refine zbx ?_; first | (refine zbf rfl aD rfl ?_) | (refine zbh rfl aD ?_) | (refine zbi rfl aD ?_) | (refine zbg rfl aD rfl ?_)) | (refine zbp ?_; first | (refine zbw rfl rfl aD ?_) | (refine zb4 rfl rfl aD ?_) | (refine zb5 rfl rfl ?_) | (refine zbj rfl rfl (fun h => ?_) (fun h => ?_) <;> (have h' := h; (try simp only [sx] at h')))) | (refine za7 ?_; first | (refine za8 true (k1) rfl rfl rfl aS rfl aH ?_; simp only [cl]) | (refine za8 true (k2) rfl rfl rfl aS rfl aH ?_; simp only [cl])) | (refine zby _ _ rfl rfl rfl rfl ?_) | (refine zas (hK _ _ (.inl rfl) ?_); clear hK K) | (refine zas (hK _ _ (.inr (by kernel_rfl)) ?_); clear hK K))
      | (refine za4 ?_; first | (refine zbq ?_) | (refine zad (fun K hK => ?_)) | (refine zao ?_) | (refine za2 ?_) | (refine zbr ?_) | (refine za3 ?_) | (refine zbl ?_; first | (refine zam rfl aD ?_) | (refine zal rfl aD ?_) | (refine zaz rfl (fun h => ?_) (fun h => ?_) <;> (have h' := h; (try simp only [sx] at h')))))
      | (refine za0 ?_) | (refine zab ?_) | (refine zac ?_) | (refine zar ?_) | (refine zap ?_) | (refine zaq ?_) | (refine zan rfl ?_) | (refine zaf ?_) | (refine zag ?_) | (refine zbs ?_))
    all_goals first
      | (exfalso; omega)
      | exact aR
end Go.Vs
set_option linter.unusedVariables false
set_option linter.unusedSimpArgs false
set_option maxRecDepth 100000
set_option maxHeartbeats 4000000
namespace Go.Vs
open Go.Proofs
attribute [local irreducible] exec vwp thenQ blkQ loopQ RetPost
structure SzE (e : Ens) : Prop where
  (hn : e.t.burn.length ≤ 1000000) (hL : e.L.length ≤ 1000000) (hp : ∀ s ∈ e.L, s.phases.length ≤ 1000000) (hs : e.src.length ≤ 1000000)
theorem k_IsEns1 (s : Scen) (hn : s.phases.length ≤ 1000000) : Con Try.prog 109 [.agg s.pv] (.bool (decide (OneSc s))) := by
  intro al
  refine za6 hmix Try.func109 rfl (by kernel_rfl) (by kernel_rfl) (Nat.le_of_ble_eq_true rfl) (fun row h => by cases h) ?_
  have hty_f56_0 := ty_f56_0
  have hty_c27 := ty_c27
  have hty_u27 := ty_u27
  have hty_s27 := ty_s27
  have hty_f56_1 := ty_f56_1
  have hty_c3 := ty_c3
  have k1 := k_ArePhases s.phases aO
  have k2 := k_in s.weight 1 100
  have e : decide (OneSc s) = (decide (GoodP s.phases) && (decide (1 ≤ s.weight) && decide (s.weight ≤ 100))) := by rw [Bool.eq_iff_iff, decide_eq_true_eq]; unfold OneSc; simp
  rw [e]
  generalize decide (GoodP s.phases) = x at *
  cases x
  · repeat' (first
      | (refine za1 ?_; first | (refine za5 ?_; refine zat _ rfl ?_) | (refine zae ?_; refine zaa _ rfl ?_) | (refine zbk ?_; first | (refine zaj aA rfl ?_) | (refine zak _ aA rfl rfl aE rfl ?_) | (refine zah _ aA rfl aZ aL ?_) | (refine zai _ aA rfl rfl aE aZ aL ?_)) | (refine zbm ?_; first | (refine zax _ aA rfl aL ?_) | (refine zay _ aA rfl rfl (by simp only [lx, Nat.reduceAdd]; first | done | rfl) ?_)) | (refine zbx ?_; first | (refine zbf rfl aD rfl ?_) | (refine zbh rfl aD ?_) | (refine zbi rfl aD ?_) | (refine zbg rfl aD rfl ?_)) | (refine zbp ?_; first | (refine zbw rfl rfl aD ?_) | (refine zb4 rfl rfl aD ?_) | (refine zb5 rfl rfl ?_) | (refine zbj rfl rfl (fun h => ?_) (fun h => ?_) <;> (have h' := h; (try simp only [sx] at h')))) | (refine za7 ?_; first | (refine za8 true (k1) rfl rfl rfl aS rfl aH ?_; simp only [cl]) | (refine za8 true (k2) rfl rfl rfl aS rfl aH ?_; simp only [cl])) | (refine zby _ _ rfl rfl rfl rfl ?_) | (refine zas (hK _ _ (.inl rfl) ?_); clear hK K) | (refine zas (hK _ _ (.inr (by kernel_rfl)) ?_); clear hK K))
      | (refine za4 ?_; first | (refine zbq ?_) | (refine zad (fun K hK => ?_)) | (refine zao ?_) | (refine za2 ?_) | (refine zbr ?_) | (refine za3 ?_))
      | (refine za0 ?_) | (refine zab ?_) | (refine zac ?_) | (refine zar ?_) | (refine zap ?_) | (refine zaq ?_) | (refine zan rfl ?_) | (refine zaf ?_) | (refine zag ?_) | (refine zbs ?_))
    all_goals exact zb3 rfl (zbo rfl) rfl
  · repeat' (first
      | (refine za1 ?_; first | (refine za5 ?_; refine zat _ rfl ?_) | (refine zae ?_; refine zaa _ rfl ?_) | (refine zbk ?_; first | (refine zaj aA rfl ?_) | (refine zak _ aA rfl rfl aE rfl ?_) | (refine zah _ aA rfl aZ aL ?_) | (refine zai _ aA rfl rfl aE aZ aL ?_)) | (refine zbm ?_; first | (refine zax _ aA rfl aL ?_) | (refine zay _ aA rfl rfl (by simp only [lx, Nat.reduceAdd]; first | done | rfl) ?_)) | (refine zbx ?_; first | (refine zbf rfl aD rfl ?_) | (refine zbh rfl aD ?_) | (refine zbi rfl aD ?_) | (refine zbg rfl aD rfl ?_)) | (refine zbp ?_; first | (refine zbw rfl rfl aD ?_) | (refine zb4 rfl rfl aD ?_) | (refine zb5 rfl rfl ?_) | (refine zbj rfl rfl (fun h => ?_) (fun h => ?_) <;> (have h' := h; (try simp only [sx] at h')))) | (refine za7 ?_; first | (refine za8 true (k1) rfl rfl rfl aS rfl aH ?_; simp only [cl]) | (refine za8 true (k2) rfl rfl rfl aS rfl aH ?_; simp only [cl])) | (refine zby _ _ rfl rfl rfl rfl ?_) | (refine zas (hK _ _ (.inl rfl) ?_); clear hK K) | (refine zas (hK _ _ (.inr (by kernel_rfl)) ?_); clear hK K))
      | (refine za4 ?_; first | (refine zbq ?_) | (refine zad (fun K hK => ?_)) | (refine zao ?_) | (refine za2 ?_) | (refine zbr ?_) | (refine za3 ?_))
      | (refine za0 ?_) | (refine zab ?_) | (refine zac ?_) | (refine zar ?_) | (refine zap ?_) | (refine zaq ?_) | (refine zan rfl ?_) | (refine zaf ?_) | (refine zag ?_) | (refine zbs ?_))
    all_goals exact zb3 rfl (zbo rfl) rfl
theorem k_IsEnsemble (L : List Scen) (hL : L.length ≤ 1000000) (hp : ∀ s ∈ L, s.phases.length ≤ 1000000) : Con Try.prog 50 [.list 2 (L.map Scen.pv)] (.bool (decide (GoodL L))) := by
  intro al
  refine za6 hmix Try.func50 rfl (by kernel_rfl) (by kernel_rfl) (Nat.le_of_ble_eq_true rfl) (fun row h => by cases h) ?_
  have hty_u51 := ty_u51
  have hty_s51 := ty_s51
  have hl1 : (L.map Scen.pv).length = L.length := by simp
  have kA : Con Try.prog 108 [.list 2 (L.map Scen.pv), .fn 109 [] []] (.bool (L.all fun s => decide (OneSc s))) := k_allScen L 109 [] (fun s => decide (OneSc s)) (fun s h => k_IsEns1 s (hp s h)) aO
  have kI := k_in ((L.map Scen.pv).length : Int) 1 4
  have e : decide (GoodL L) = (decide (1 ≤ ((L.map Scen.pv).length : Int)) && decide (((L.map Scen.pv).length : Int) ≤ 4) && L.all fun s => decide (OneSc s)) := by
    rw [Bool.eq_iff_iff, hl1, decide_eq_true_eq]
    unfold GoodL
    simp only [decide_eq_true_eq, Bool.and_eq_true, List.all_eq_true]
    constructor
    · rintro ⟨h1, h2, h3⟩; exact ⟨⟨by omega, by omega⟩, h1⟩
    · rintro ⟨⟨h1, h2⟩, h3⟩; exact ⟨h3, by omega, by omega⟩
  rw [e]
  generalize (decide (1 ≤ ((L.map Scen.pv).length : Int)) && decide (((L.map Scen.pv).length : Int) ≤ 4)) = x at *
  generalize (L.all fun s => decide (OneSc s)) = y at *
  cases x
  · repeat' (first
      | (refine za1 ?_; first | (refine za5 ?_; refine zat _ rfl ?_) | (refine zae ?_; refine zaa _ rfl ?_) | (refine zbx ?_; first | (refine zbf rfl aD rfl ?_) | (refine zbh rfl aD ?_) | (refine zbi rfl aD ?_) | (refine zbg rfl aD rfl ?_)) | (refine zbp ?_; first | (refine zbw rfl rfl aD ?_) | (refine zb4 rfl rfl aD ?_) | (refine zb5 rfl rfl ?_) | (refine zbj rfl rfl (fun h => ?_) (fun h => ?_) <;> (have h' := h; (try simp only [sx] at h')))) | (refine za7 ?_; first | (refine za8 true (kI) rfl rfl rfl aS rfl aH ?_; simp only [cl]) | (refine za8 true (kA) rfl rfl rfl aS rfl aH ?_; simp only [cl]) | (refine zba aA rfl ?_) | (refine zbb aA rfl rfl ?_) | (refine zbc aA rfl ?_) | (refine za9 aA (evO_ok rfl) ?_)) | (refine zas (hK _ _ (.inl rfl) ?_); clear hK K) | (refine zas (hK _ _ (.inr (by kernel_rfl)) ?_); clear hK K))
      | (refine za4 ?_; first | (refine zbq ?_) | (refine zad (fun K hK => ?_)) | (refine zao ?_) | (refine za2 ?_) | (refine zbr ?_) | (refine za3 ?_))
      | (refine za0 ?_) | (refine zab ?_) | (refine zac ?_) | (refine zar ?_) | (refine zap ?_) | (refine zaq ?_) | (refine zan rfl ?_) | (refine zaf ?_) | (refine zag ?_) | (refine zbs ?_))
    all_goals exact zb3 rfl (zbo rfl) rfl
  · repeat' (first
      | (refine za1 ?_; first | (refine za5 ?_; refine zat _ rfl ?_) | (refine zae ?_; refine zaa _ rfl ?_) | (refine zbx ?_; first | (refine zbf rfl aD rfl ?_) | (refine zbh rfl aD ?_) | (refine zbi rfl aD ?_) | (refine zbg rfl aD rfl ?_)) | (refine zbp ?_; first | (refine zbw rfl rfl aD ?_) | (refine zb4 rfl rfl aD ?_) | (refine zb5 rfl rfl ?_) | (refine zbj rfl rfl (fun h => ?_) (fun h => ?_) <;> (have h' := h; (try simp only [sx] at h')))) | (refine za7 ?_; first | (refine za8 true (kI) rfl rfl rfl aS rfl aH ?_; simp only [cl]) | (refine za8 true (kA) rfl rfl rfl aS rfl aH ?_; simp only [cl]) | (refine zba aA rfl ?_) | (refine zbb aA rfl rfl ?_) | (refine zbc aA rfl ?_) | (refine za9 aA (evO_ok rfl) ?_)) | (refine zas (hK _ _ (.inl rfl) ?_); clear hK K) | (refine zas (hK _ _ (.inr (by kernel_rfl)) ?_); clear hK K))
      | (refine za4 ?_; first | (refine zbq ?_) | (refine zad (fun K hK => ?_)) | (refine zao ?_) | (refine za2 ?_) | (refine zbr ?_) | (refine za3 ?_))
      | (refine za0 ?_) | (refine zab ?_) | (refine zac ?_) | (refine zar ?_) | (refine zap ?_) | (refine zaq ?_) | (refine zan rfl ?_) | (refine zaf ?_) | (refine zag ?_) | (refine zbs ?_))
    all_goals exact zb3 rfl (zbo rfl) rfl
theorem k_l8Good (L : List Scen) (hL : L.length ≤ 1000000) (hp : ∀ s ∈ L, s.phases.length ≤ 1000000) : Con Try.prog 110 [.list 2 (L.map Scen.pv)] (.bool (decide (GoodL L))) := by
  intro al
  refine za6 hmix Try.func110 rfl (by kernel_rfl) (by kernel_rfl) (Nat.le_of_ble_eq_true rfl) (fun row h => by cases h) ?_
  have hty_u51 := ty_u51
  have hty_s51 := ty_s51
  have hty_f56_0 := ty_f56_0
  have hty_c27 := ty_c27
  have hty_u27 := ty_u27
  have hty_s27 := ty_s27
  have hty_f56_1 := ty_f56_1
  have hty_c3 := ty_c3
  have hl1 : (L.map Scen.pv).length = L.length := by simp
  repeat' (first
      | (refine za1 ?_; first | (refine za5 ?_; refine zat _ rfl ?_) | (refine zae ?_; refine zaa _ rfl ?_) | (refine zbv ?_; first | (refine zbz rfl rfl aO ?_) | (refine zbu _ rfl rfl rfl ?_) | (refine zaw _ rfl rfl rfl ?_)) | (refine g_un ?_; first | (refine zce rfl ?_) | (refine zcd rfl aO ?_)) | (refine zbk ?_; first | (refine zaj aA rfl ?_) | (refine zak _ aA rfl rfl aE rfl ?_) | (refine zah _ aA rfl aZ aL ?_) | (refine zai _ aA rfl rfl aE aZ aL ?_)) | (refine zbm ?_; first | (refine zax _ aA rfl aL ?_) | (refine zay _ aA rfl rfl (by simp only [lx, Nat.reduceAdd]; first | done | rfl) ?_)) | (refine zbd ?_; first | (refine zau _ aA rfl rfl aO aA ?_) | (refine zav _ aA rfl rfl rfl rfl aO aO (by first | (rw [Nat.zero_add, Int.toNat_natCast]) | (rw [Nat.zero_add]) | rfl) ?_)) | (refine zbx ?_; first | (refine zbf rfl aD rfl ?_) | (refine zbh rfl aD ?_) | (refine zbi rfl aD ?_) | (refine zbg rfl aD rfl ?_)) | (refine zbp ?_; first | (refine zbw rfl rfl aD ?_) | (refine zb4 rfl rfl aD ?_) | (refine zb5 rfl rfl ?_) | (refine zbj rfl rfl (fun h => ?_) (fun h => ?_) <;> (have h' := h; (try simp only [sx] at h')))) | (refine za7 ?_; first | (refine zba aA rfl ?_) | (refine zbb aA rfl rfl ?_) | (refine zbc aA rfl ?_) | (refine za9 aA (evO_ok rfl) ?_)) | (refine zas (hK _ _ (.inl rfl) ?_); clear hK K) | (refine zas (hK _ _ (.inr (by kernel_rfl)) ?_); clear hK K))
      | (refine za4 ?_; first | (refine zbq ?_) | (refine zad (fun K hK => ?_)) | (refine zao ?_) | (refine za2 ?_) | (refine zbr ?_) | (refine za3 ?_) | (refine zbl ?_; first | (refine zam rfl aD ?_) | (refine zal rfl aD ?_) | (refine zaz rfl (fun h => ?_) (fun h => ?_) <;> (have h' := h; (try simp only [sx] at h')))))
      | (refine za0 ?_) | (refine zab ?_) | (refine zac ?_) | (refine zar ?_) | (refine zap ?_) | (refine zaq ?_) | (refine zan rfl ?_) | (refine zaf ?_) | (refine zag ?_) | (refine zbs ?_))
  all_goals try (exfalso; omega)
  refine zcf [0] [] (fun i : Nat => [(3, .int .i64 i)]) (fun i : Nat => []) (fun i : Nat => i ≤ L.length ∧ ∀ s ∈ L.take i, OneSc s) (fun i : Nat => L.length - i) (0) rfl rfl (fun _ => rfl) (fun _ => rfl) rfl aW ⟨by omega, fun s hs => by simp at hs⟩ (fun i hi => ?_)
  obtain ⟨hi1, hi2⟩ := hi
  rcases Nat.lt_or_ge i L.length with hlt | hge
  · obtain ⟨a, hga⟩ := get_ex hlt
    have hx := Scen.at hga
    have hap := hp a (get_mem hga)
    have k1 := k_l4Phases a.phases aO
    by_cases h1 : GoodP a.phases
    · rw [decide_eq_true h1] at k1
      by_cases h2 : 1 ≤ a.weight ∧ a.weight ≤ 100
      · repeat' (first
      | (refine za1 ?_; first | (refine za5 ?_; refine zat _ rfl ?_) | (refine zae ?_; refine zaa _ rfl ?_) | (refine zbv ?_; first | (refine zbz rfl rfl aO ?_) | (refine zbu _ rfl rfl rfl ?_) | (refine zaw _ rfl rfl rfl ?_)) | (refine g_un ?_; first | (refine zce rfl ?_) | (refine zcd rfl aO ?_)) | (refine zbk ?_; first | (refine zaj aA rfl ?_) | (refine zak _ aA rfl rfl aE rfl ?_) | (refine zah _ aA rfl aZ aL ?_) | (refine zai _ aA rfl rfl aE aZ aL ?_)) | (refine zbm ?_; first | (refine zax _ aA rfl aL ?_) | (refine zay _ aA rfl rfl (by simp only [lx, Nat.reduceAdd]; first | done | rfl) ?_)) | (refine zbd ?_; first | (refine zau _ aA rfl rfl aO aA ?_) | (refine zav _ aA rfl rfl rfl rfl aO aO (by first | (rw [Nat.zero_add, Int.toNat_natCast]) | (rw [Nat.zero_add]) | rfl) ?_)) | (refine zbx ?_; first | (refine zbf rfl aD rfl ?_) | (refine zbh rfl aD ?_) | (refine zbi rfl aD ?_) | (refine zbg rfl aD rfl ?_)) | (refine zbp ?_; first | (refine zbw rfl rfl aD ?_) | (refine zb4 rfl rfl aD ?_) | (refine zb5 rfl rfl ?_) | (refine zbj rfl rfl (fun h => ?_) (fun h => ?_) <;> (have h' := h; (try simp only [sx] at h')))) | (refine za7 ?_; first | (refine za8 true (k1) rfl rfl rfl aS rfl aH ?_; simp only [cl]) | (refine za8 true (k_l1In a.weight 1 100) rfl rfl rfl aS rfl aH ?_; simp only [cl]) | (refine zba aA rfl ?_) | (refine zbb aA rfl rfl ?_) | (refine zbc aA rfl ?_) | (refine za9 aA (evO_ok rfl) ?_)) | (refine zas (hK _ _ (.inl rfl) ?_); clear hK K) | (refine zas (hK _ _ (.inr (by kernel_rfl)) ?_); clear hK K))
      | (refine za4 ?_; first | (refine zbq ?_) | (refine zad (fun K hK => ?_)) | (refine zao ?_) | (refine za2 ?_) | (refine zbr ?_) | (refine za3 ?_) | (refine zbl ?_; first | (refine zam rfl aD ?_) | (refine zal rfl aD ?_) | (refine zaz rfl (fun h => ?_) (fun h => ?_) <;> (have h' := h; (try simp only [sx] at h')))))
      | (refine za0 ?_) | (refine zab ?_) | (refine zac ?_) | (refine zar ?_) | (refine zap ?_) | (refine zaq ?_) | (refine zan rfl ?_) | (refine zaf ?_) | (refine zag ?_) | (refine zbs ?_))
        all_goals first
          | (exfalso; omega)
          | (refine zb9 (i + 1) rfl aW ⟨by omega, all_take_succ hga hi2 ⟨h1, h2⟩⟩ aO)
      · have hng : ¬ GoodL L := fun h => h2 (h.1 a (get_mem hga)).2
        rw [decide_eq_false hng]
        repeat' (first
      | (refine za1 ?_; first | (refine za5 ?_; refine zat _ rfl ?_) | (refine zae ?_; refine zaa _ rfl ?_) | (refine zbv ?_; first | (refine zbz rfl rfl aO ?_) | (refine zbu _ rfl rfl rfl ?_) | (refine zaw _ rfl rfl rfl ?_)) | (refine g_un ?_; first | (refine zce rfl ?_) | (refine zcd rfl aO ?_)) | (refine zbk ?_; first | (refine zaj aA rfl ?_) | (refine zak _ aA rfl rfl aE rfl ?_) | (refine zah _ aA rfl aZ aL ?_) | (refine zai _ aA rfl rfl aE aZ aL ?_)) | (refine zbm ?_; first | (refine zax _ aA rfl aL ?_) | (refine zay _ aA rfl rfl (by simp only [lx, Nat.reduceAdd]; first | done | rfl) ?_)) | (refine zbd ?_; first | (refine zau _ aA rfl rfl aO aA ?_) | (refine zav _ aA rfl rfl rfl rfl aO aO (by first | (rw [Nat.zero_add, Int.toNat_natCast]) | (rw [Nat.zero_add]) | rfl) ?_)) | (refine zbx ?_; first | (refine zbf rfl aD rfl ?_) | (refine zbh rfl aD ?_) | (refine zbi rfl aD ?_) | (refine zbg rfl aD rfl ?_)) | (refine zbp ?_; first | (refine zbw rfl rfl aD ?_) | (refine zb4 rfl rfl aD ?_) | (refine zb5 rfl rfl ?_) | (refine zbj rfl rfl (fun h => ?_) (fun h => ?_) <;> (have h' := h; (try simp only [sx] at h')))) | (refine za7 ?_; first | (refine za8 true (k1) rfl rfl rfl aS rfl aH ?_; simp only [cl]) | (refine za8 true (k_l1In a.weight 1 100) rfl rfl rfl aS rfl aH ?_; simp only [cl]) | (refine zba aA rfl ?_) | (refine zbb aA rfl rfl ?_) | (refine zbc aA rfl ?_) | (refine za9 aA (evO_ok rfl) ?_)) | (refine zas (hK _ _ (.inl rfl) ?_); clear hK K) | (refine zas (hK _ _ (.inr (by kernel_rfl)) ?_); clear hK K))
      | (refine za4 ?_; first | (refine zbq ?_) | (refine zad (fun K hK => ?_)) | (refine zao ?_) | (refine za2 ?_) | (refine zbr ?_) | (refine za3 ?_) | (refine zbl ?_; first | (refine zam rfl aD ?_) | (refine zal rfl aD ?_) | (refine zaz rfl (fun h => ?_) (fun h => ?_) <;> (have h' := h; (try simp only [sx] at h')))))
      | (refine za0 ?_) | (refine zab ?_) | (refine zac ?_) | (refine zar ?_) | (refine zap ?_) | (refine zaq ?_) | (refine zan rfl ?_) | (refine zaf ?_) | (refine zag ?_) | (refine zbs ?_))
        all_goals first
          | (exfalso; omega)
          | exact zb3 rfl (zbo rfl) rfl
    · rw [decide_eq_false h1] at k1
      have hng : ¬ GoodL L := fun h => h1 (h.1 a (get_mem hga)).1
      rw [decide_eq_false hng]
      repeat' (first
      | (refine za1 ?_; first | (refine za5 ?_; refine zat _ rfl ?_) | (refine zae ?_; refine zaa _ rfl ?_) | (refine zbv ?_; first | (refine zbz rfl rfl aO ?_) | (refine zbu _ rfl rfl rfl ?_) | (refine zaw _ rfl rfl rfl ?_)) | (refine g_un ?_; first | (refine zce rfl ?_) | (refine zcd rfl aO ?_)) | (refine zbk ?_; first | (refine zaj aA rfl ?_) | (refine zak _ aA rfl rfl aE rfl ?_) | (refine zah _ aA rfl aZ aL ?_) | (refine zai _ aA rfl rfl aE aZ aL ?_)) | (refine zbm ?_; first | (refine zax _ aA rfl aL ?_) | (refine zay _ aA rfl rfl (by simp only [lx, Nat.reduceAdd]; first | done | rfl) ?_)) | (refine zbd ?_; first | (refine zau _ aA rfl rfl aO aA ?_) | (refine zav _ aA rfl rfl rfl rfl aO aO (by first | (rw [Nat.zero_add, Int.toNat_natCast]) | (rw [Nat.zero_add]) | rfl) ?_)) | (refine zbx ?_; first | (refine zbf rfl aD rfl ?_) | (refine zbh rfl aD ?_) | (refine zbi rfl aD ?_) | (refine zbg rfl aD rfl ?_)) | (refine zbp ?_; first | (refine zbw rfl rfl aD ?_) | (refine zb4 rfl rfl aD ?_) | (refine zb5 rfl rfl ?_) | (refine zbj rfl rfl (fun h => ?_) (fun h => ?_) <;> (have h' := h; (try simp only [sx] at h')))) | (refine za7 ?_; first | (refine za8 true (k1) rfl rfl rfl aS rfl aH ?_; simp only [cl]) | (refine za8 true (k_l1In a.weight 1 100) rfl rfl rfl aS rfl aH ?_; simp only [cl]) | (refine zba aA rfl ?_) | (refine zbb aA rfl rfl ?_) | (refine zbc aA rfl ?_) | (refine za9 aA (evO_ok rfl) ?_)) | (refine zas (hK _ _ (.inl rfl) ?_); clear hK K) | (refine zas (hK _ _ (.inr (by kernel_rfl)) ?_); clear hK K))
      | (refine za4 ?_; first | (refine zbq ?_) | (refine zad (fun K hK => ?_)) | (refine zao ?_) | (refine za2 ?_) | (refine zbr ?_) | (refine za3 ?_) | (refine zbl ?_; first | (refine zam rfl aD ?_) | (refine zal rfl aD ?_) | (refine zaz rfl (fun h => ?_) (fun h => ?_) <;> (have h' := h; (try simp only [sx] at h')))))
      | (refine za0 ?_) | (refine zab ?_) | (refine zac ?_) | (refine zar ?_) | (refine zap ?_) | (refine zaq ?_) | (refine zan rfl ?_) | (refine zaf ?_) | (refine zag ?_) | (refine zbs ?_))
      all_goals first
        | (exfalso; omega)
        | exact zb3 rfl (zbo rfl) rfl
  · rw [take_all hge] at hi2
    repeat' (first
      | (refine za1 ?_; first | (refine za5 ?_; refine zat _ rfl ?_) | (refine zae ?_; refine zaa _ rfl ?_) | (refine zbv ?_; first | (refine zbz rfl rfl aO ?_) | (refine zbu _ rfl rfl rfl ?_) | (refine zaw _ rfl rfl rfl ?_)) | (refine g_un ?_; first | (refine zce rfl ?_) | (refine zcd rfl aO ?_)) | (refine zbk ?_; first | (refine zaj aA rfl ?_) | (refine zak _ aA rfl rfl aE rfl ?_) | (refine zah _ aA rfl aZ aL ?_) | (refine zai _ aA rfl rfl aE aZ aL ?_)) | (refine zbm ?_; first | (refine zax _ aA rfl aL ?_) | (refine zay _ aA rfl rfl (by simp only [lx, Nat.reduceAdd]; first | done | rfl) ?_)) | (refine zbd ?_; first | (refine zau _ aA rfl rfl aO aA ?_) | (refine zav _ aA rfl rfl rfl rfl aO aO (by first | (rw [Nat.zero_add, Int.toNat_natCast]) | (rw [Nat.zero_add]) | rfl) ?_)) | (refine zbx ?_; first | (refine zbf rfl aD rfl ?_) | (refine zbh rfl aD ?_) | (refine zbi rfl aD ?_) | (refine zbg rfl aD rfl ?_)) | (refine zbp ?_; first | (refine zbw rfl rfl aD ?_) | (refine zb4 rfl rfl aD ?_) | (refine zb5 rfl rfl ?_) | (refine zbj rfl rfl (fun h => ?_) (fun h => ?_) <;> (have h' := h; (try simp only [sx] at h')))) | (refine za7 ?_; first | (refine za8 true (k_l1In _ _ _) rfl rfl rfl aS rfl aH ?_; simp only [cl]) | (refine zba aA rfl ?_) | (refine zbb aA rfl rfl ?_) | (refine zbc aA rfl ?_) | (refine za9 aA (evO_ok rfl) ?_)) | (refine zas (hK _ _ (.inl rfl) ?_); clear hK K) | (refine zas (hK _ _ (.inr (by kernel_rfl)) ?_); clear hK K))
      | (refine za4 ?_; first | (refine zbq ?_) | (refine zad (fun K hK => ?_)) | (refine zao ?_) | (refine za2 ?_) | (refine zbr ?_) | (refine za3 ?_) | (refine zbl ?_; first | (refine zam rfl aD ?_) | (refine zal rfl aD ?_) | (refine zaz rfl (fun h => ?_) (fun h => ?_) <;> (have h' := h; (try simp only [sx] at h')))))
      | (refine za0 ?_) | (refine zab ?_) | (refine zac ?_) | (refine zar ?_) | (refine zap ?_) | (refine zaq ?_) | (refine zan rfl ?_) | (refine zaf ?_) | (refine zag ?_) | (refine zbs ?_))
    all_goals first
      | (exfalso; omega)
      | (refine zb3 rfl (zbo rfl) ?_
         rw [Bool.eq_iff_iff, decide_eq_true_eq]
         unfold GoodL
         simp only [decide_eq_true_eq, Bool.and_eq_true]
         constructor
         · intro h; exact ⟨hi2, by omega, by omega⟩
         · intro h; exact ⟨by omega, by omega⟩)
theorem goodE_bool (e : Ens) : decide (GoodEn e) = (decide (GoodT e.t) && (decide (GoodL e.L) && (decide ((∀ s ∈ e.src, IsCell e.t s) ∧ Rising e.src) && (decide (0 ≤ e.st) && decide (e.st ≤ 1000))))) := by
  rw [Bool.eq_iff_iff, decide_eq_true_eq]
  unfold GoodEn SetOk
  simp only [decide_eq_true_eq, Bool.and_eq_true]
  exact ⟨fun ⟨⟨h1, h2⟩, h3, h4⟩ => ⟨h1, h3, h2, h4⟩, fun ⟨h1, h3, h2, h4⟩ => ⟨⟨h1, h2⟩, h3, h4⟩⟩
theorem k_isBlaze (e : Ens) (z : SzE e) : Con Try.prog 94 [.agg e.t.pv, .list 2 (e.L.map Scen.pv), .list 1 (ints e.src), .int .i64 e.st] (.bool (decide (GoodEn e))) := by
  intro al
  refine za6 hmix Try.func94 rfl (by kernel_rfl) (by kernel_rfl) (Nat.le_of_ble_eq_true rfl) (fun row h => by cases h) ?_
  have hty_a26 := ty_a26
  have hty_u51 := ty_u51
  have hty_s51 := ty_s51
  have hty_u24 := ty_u24
  have hty_s24 := ty_s24
  have hn := z.hn
  have hs := z.hs
  have k1 := k_IsTerrain e.t aO
  have k2 := k_IsEnsemble e.L z.hL z.hp
  have k3 := k_isSet e.t e.src aO aO
  have k4 := k_in e.st 0 1000
  rw [goodE_bool]
  generalize decide (GoodT e.t) = a at *
  generalize decide (GoodL e.L) = b at *
  generalize decide ((∀ s ∈ e.src, IsCell e.t s) ∧ Rising e.src) = c at *
  cases a <;> cases b <;> cases c
  all_goals
    repeat' (first
      | (refine za1 ?_; first | (refine za5 ?_; refine zat _ rfl ?_) | (refine zae ?_; refine zaa _ rfl ?_) | (refine zbk ?_; first | (refine zaj aA rfl ?_) | (refine zak _ aA rfl rfl aE rfl ?_) | (refine zah _ aA rfl aZ aL ?_) | (refine zai _ aA rfl rfl aE aZ aL ?_)) | (refine zbx ?_; first | (refine zbf rfl aD rfl ?_) | (refine zbh rfl aD ?_) | (refine zbi rfl aD ?_) | (refine zbg rfl aD rfl ?_)) | (refine zbp ?_; first | (refine zbw rfl rfl aD ?_) | (refine zb4 rfl rfl aD ?_) | (refine zb5 rfl rfl ?_) | (refine zbj rfl rfl (fun h => ?_) (fun h => ?_) <;> (have h' := h; (try simp only [sx] at h')))) | (refine za7 ?_; first | (refine za8 true (k1) rfl rfl rfl aS rfl aH ?_; simp only [cl]) | (refine za8 true (k2) rfl rfl rfl aS rfl aH ?_; simp only [cl]) | (refine za8 true (k3) rfl rfl rfl aS rfl aH ?_; simp only [cl]) | (refine za8 true (k4) rfl rfl rfl aS rfl aH ?_; simp only [cl])) | (refine zby _ _ rfl rfl rfl rfl ?_) | (refine zas (hK _ _ (.inl rfl) ?_); clear hK K) | (refine zas (hK _ _ (.inr (by kernel_rfl)) ?_); clear hK K))
      | (refine za4 ?_; first | (refine zbq ?_) | (refine zad (fun K hK => ?_)) | (refine zao ?_) | (refine za2 ?_) | (refine zbr ?_) | (refine za3 ?_))
      | (refine za0 ?_) | (refine zab ?_) | (refine zac ?_) | (refine zar ?_) | (refine zap ?_) | (refine zaq ?_) | (refine zan rfl ?_) | (refine zaf ?_) | (refine zag ?_) | (refine zbs ?_))
    all_goals exact zb3 rfl (zbo rfl) rfl
theorem k_l8Asked (e : Ens) (z : SzE e) : Con Try.prog 98 [.agg e.t.pv, .list 2 (e.L.map Scen.pv), .list 1 (ints e.src), .int .i64 e.st] (.bool (decide (GoodEn e))) := by
  intro al
  refine za6 hmix Try.func98 rfl (by kernel_rfl) (by kernel_rfl) (Nat.le_of_ble_eq_true rfl) (fun row h => by cases h) ?_
  have hty_a26 := ty_a26
  have hty_u24 := ty_u24
  have hty_s24 := ty_s24
  have hty_u51 := ty_u51
  have hty_s51 := ty_s51
  have hn := z.hn
  have hs := z.hs
  have k2 := k_l8Good e.L z.hL z.hp
  have k3 := k_l2Set e.t e.src aO aO
  have k4 := k_l1In e.st 0 1000
  have e1 : decide (GoodEn e) = (decide (GoodT e.t ∧ (∀ y ∈ e.src, 0 ≤ y ∧ y < e.t.burn.length) ∧ Rising e.src) && (decide (GoodL e.L) && (decide (0 ≤ e.st) && decide (e.st ≤ 1000)))) := by
    rw [Bool.eq_iff_iff, decide_eq_true_eq]
    unfold GoodEn SetOk
    simp only [decide_eq_true_eq, Bool.and_eq_true]
    exact Iff.rfl
  rw [e1]
  generalize decide (GoodT e.t ∧ (∀ y ∈ e.src, 0 ≤ y ∧ y < e.t.burn.length) ∧ Rising e.src) = a at *
  generalize decide (GoodL e.L) = b at *
  cases a <;> cases b
  all_goals
    repeat' (first
      | (refine za1 ?_; first | (refine za5 ?_; refine zat _ rfl ?_) | (refine zae ?_; refine zaa _ rfl ?_) | (refine zbk ?_; first | (refine zaj aA rfl ?_) | (refine zak _ aA rfl rfl aE rfl ?_) | (refine zah _ aA rfl aZ aL ?_) | (refine zai _ aA rfl rfl aE aZ aL ?_)) | (refine zbx ?_; first | (refine zbf rfl aD rfl ?_) | (refine zbh rfl aD ?_) | (refine zbi rfl aD ?_) | (refine zbg rfl aD rfl ?_)) | (refine zbp ?_; first | (refine zbw rfl rfl aD ?_) | (refine zb4 rfl rfl aD ?_) | (refine zb5 rfl rfl ?_) | (refine zbj rfl rfl (fun h => ?_) (fun h => ?_) <;> (have h' := h; (try simp only [sx] at h')))) | (refine za7 ?_; first | (refine za8 true (k3) rfl rfl rfl aS rfl aH ?_; simp only [cl]) | (refine za8 true (k2) rfl rfl rfl aS rfl aH ?_; simp only [cl]) | (refine za8 true (k4) rfl rfl rfl aS rfl aH ?_; simp only [cl])) | (refine zby _ _ rfl rfl rfl rfl ?_) | (refine zas (hK _ _ (.inl rfl) ?_); clear hK K) | (refine zas (hK _ _ (.inr (by kernel_rfl)) ?_); clear hK K))
      | (refine za4 ?_; first | (refine zbq ?_) | (refine zad (fun K hK => ?_)) | (refine zao ?_) | (refine za2 ?_) | (refine zbr ?_) | (refine za3 ?_))
      | (refine za0 ?_) | (refine zab ?_) | (refine zac ?_) | (refine zar ?_) | (refine zap ?_) | (refine zaq ?_) | (refine zan rfl ?_) | (refine zaf ?_) | (refine zag ?_) | (refine zbs ?_))
    all_goals exact zb3 rfl (zbo rfl) rfl
@[reducible] def frN (p q : Int) : Int := p / (Int.gcd p q : Int)
@[reducible] def frD (p q : Int) : Int := q / (Int.gcd p q : Int)
theorem k_l8Reduce (a b : Int) (ha : 0 ≤ a ∧ a ≤ 1000000000) (hb : 1 ≤ b ∧ b ≤ 1000000000) : Con Try.prog 105 [.int .i64 a, .int .i64 b] (.tuple [.int .i64 (frN a b), .int .i64 (frD a b)]) := by
  intro al
  refine za6 hmix Try.func105 rfl (by kernel_rfl) (by kernel_rfl) (Nat.le_of_ble_eq_true rfl) (fun row h => by cases h) ?_
  have hp := gcd_pos (a := a) hb.1
  repeat' (first
      | (refine za1 ?_; first | (refine za5 ?_; refine zat _ rfl ?_) | (refine zae ?_; refine zaa _ rfl ?_) | (refine zbv ?_; first | (refine x_quo rfl rfl aO ?_) | (refine x_rem rfl rfl aO ?_) | (refine x_quoT rfl rfl aO ?_) | (refine x_remT rfl rfl aO ?_) | (refine zbu _ rfl rfl rfl ?_) | (refine zb0 aA rfl rfl ?_) | (refine zaw _ rfl rfl rfl ?_)) | (refine zas (hK _ _ (.inl rfl) ?_); clear hK K) | (refine zas (hK _ _ (.inr (by kernel_rfl)) ?_); clear hK K))
      | (refine za4 ?_; first | (refine zbq ?_) | (refine zad (fun K hK => ?_)) | (refine zao ?_) | (refine za2 ?_) | (refine zbr ?_) | (refine za3 ?_) | (refine zbl ?_; first | (refine zam rfl aD ?_) | (refine zal rfl aD ?_) | (refine zaz rfl (fun h => ?_) (fun h => ?_) <;> (have h' := h; (try simp only [sx] at h')))))
      | (refine za0 ?_) | (refine zab ?_) | (refine zac ?_) | (refine zar ?_) | (refine zap ?_) | (refine zaq ?_) | (refine zan rfl ?_) | (refine zaf ?_) | (refine zag ?_) | (refine zbs ?_))
  refine zcf [0, 1] [] (fun q : Int × Int => [(6, .int .i64 q.1), (7, .int .i64 q.2)]) (fun q : Int × Int => []) (fun q : Int × Int => Int.gcd q.1 q.2 = Int.gcd a b ∧ (0 ≤ q.1 ∧ q.1 ≤ 1000000000) ∧ (0 ≤ q.2 ∧ q.2 ≤ 1000000000)) (fun q : Int × Int => q.2.toNat) ((a, b)) rfl rfl (fun _ => rfl) (fun _ => rfl) rfl aW ⟨rfl, ha, by simp only; omega⟩ (fun q hq => ?_)
  obtain ⟨x, y⟩ := q
  obtain ⟨h1, h2, h3⟩ := hq
  simp only at h1 h2 h3
  dsimp only
  by_cases hy : y > 0
  · have e1 := Int.emod_nonneg x (show y ≠ 0 by omega)
    have e2 := Int.emod_lt_of_pos x hy
    repeat' (first
      | (refine za1 ?_; first | (refine za5 ?_; refine zat _ rfl ?_) | (refine zae ?_; refine zaa _ rfl ?_) | (refine zbv ?_; first | (refine x_quo rfl rfl aO ?_) | (refine x_rem rfl rfl aO ?_) | (refine x_quoT rfl rfl aO ?_) | (refine x_remT rfl rfl aO ?_) | (refine zbu _ rfl rfl rfl ?_) | (refine zb0 aA rfl rfl ?_) | (refine zaw _ rfl rfl rfl ?_)) | (refine zas (hK _ _ (.inl rfl) ?_); clear hK K) | (refine zas (hK _ _ (.inr (by kernel_rfl)) ?_); clear hK K))
      | (refine za4 ?_; first | (refine zbq ?_) | (refine zad (fun K hK => ?_)) | (refine zao ?_) | (refine za2 ?_) | (refine zbr ?_) | (refine za3 ?_) | (refine zbl ?_; first | (refine zam rfl aD ?_) | (refine zal rfl aD ?_) | (refine zaz rfl (fun h => ?_) (fun h => ?_) <;> (have h' := h; (try simp only [sx] at h')))))
      | (refine za0 ?_) | (refine zab ?_) | (refine zac ?_) | (refine zar ?_) | (refine zap ?_) | (refine zaq ?_) | (refine zan rfl ?_) | (refine zaf ?_) | (refine zag ?_) | (refine zbs ?_))
    all_goals first
      | (exfalso; omega)
      | (refine zb9 (y, x % y) rfl aW ⟨by simp only; rw [gcd_emod h2.1 hy]; exact h1, by simp only; omega, by simp only; omega⟩ (by simp only; omega))
  · have hy0 : y = 0 := by omega
    subst hy0
    have hx : x = (Int.gcd a b : Int) := by rw [← h1]; simp only [Int.gcd, Int.natAbs_zero, Nat.gcd_zero_right]; omega
    subst hx
    repeat' (first
      | (refine za1 ?_; first | (refine za5 ?_; refine zat _ rfl ?_) | (refine zae ?_; refine zaa _ rfl ?_) | (refine zbv ?_; first | (refine x_quo rfl rfl aO ?_) | (refine x_rem rfl rfl aO ?_) | (refine x_quoT rfl rfl aO ?_) | (refine x_remT rfl rfl aO ?_) | (refine zbu _ rfl rfl rfl ?_) | (refine zb0 aA rfl rfl ?_) | (refine zaw _ rfl rfl rfl ?_)) | (refine zas (hK _ _ (.inl rfl) ?_); clear hK K) | (refine zas (hK _ _ (.inr (by kernel_rfl)) ?_); clear hK K))
      | (refine za4 ?_; first | (refine zbq ?_) | (refine zad (fun K hK => ?_)) | (refine zao ?_) | (refine za2 ?_) | (refine zbr ?_) | (refine za3 ?_) | (refine zbl ?_; first | (refine zam rfl aD ?_) | (refine zal rfl aD ?_) | (refine zaz rfl (fun h => ?_) (fun h => ?_) <;> (have h' := h; (try simp only [sx] at h')))))
      | (refine za0 ?_) | (refine zab ?_) | (refine zac ?_) | (refine zar ?_) | (refine zap ?_) | (refine zaq ?_) | (refine zan rfl ?_) | (refine zaf ?_) | (refine zag ?_) | (refine zbs ?_))
    all_goals first
      | (exfalso; omega)
      | exact aR
theorem k_l8All (L : List Scen) (hL : GoodL L) : Con Try.prog 106 [.list 2 (L.map Scen.pv)] (.int .i64 (sumBy wtS L)) := by
  intro al
  refine za6 hmix Try.func106 rfl (by kernel_rfl) (by kernel_rfl) (Nat.le_of_ble_eq_true rfl) (fun row h => by cases h) ?_
  have hty_u51 := ty_u51
  have hty_s51 := ty_s51
  have hty_f56_1 := ty_f56_1
  have hty_c3 := ty_c3
  have hl1 : (L.map Scen.pv).length = L.length := by simp
  have hl := hL.2
  repeat' (first
      | (refine za1 ?_; first | (refine za5 ?_; refine zat _ rfl ?_) | (refine zae ?_; refine zaa _ rfl ?_) | (refine zbv ?_; first | (refine zbz rfl rfl aO ?_) | (refine zbu _ rfl rfl rfl ?_) | (refine zaw _ rfl rfl rfl ?_)) | (refine zbk ?_; first | (refine zaj aA rfl ?_) | (refine zak _ aA rfl rfl aE rfl ?_) | (refine zah _ aA rfl aZ aL ?_) | (refine zai _ aA rfl rfl aE aZ aL ?_)) | (refine zbm ?_; first | (refine zax _ aA rfl aL ?_) | (refine zay _ aA rfl rfl (by simp only [lx, Nat.reduceAdd]; first | done | rfl) ?_)) | (refine zbd ?_; first | (refine zau _ aA rfl rfl aO aA ?_) | (refine zav _ aA rfl rfl rfl rfl aO aO (by first | (rw [Nat.zero_add, Int.toNat_natCast]) | (rw [Nat.zero_add]) | rfl) ?_)) | (refine za7 ?_; first | (refine zba aA rfl ?_) | (refine zbb aA rfl rfl ?_) | (refine zbc aA rfl ?_) | (refine za9 aA (evO_ok rfl) ?_)) | (refine zas (hK _ _ (.inl rfl) ?_); clear hK K) | (refine zas (hK _ _ (.inr (by kernel_rfl)) ?_); clear hK K))
      | (refine za4 ?_; first | (refine zbq ?_) | (refine zad (fun K hK => ?_)) | (refine zao ?_) | (refine za2 ?_) | (refine zbr ?_) | (refine za3 ?_) | (refine zbl ?_; first | (refine zam rfl aD ?_) | (refine zal rfl aD ?_) | (refine zaz rfl (fun h => ?_) (fun h => ?_) <;> (have h' := h; (try simp only [sx] at h')))))
      | (refine za0 ?_) | (refine zab ?_) | (refine zac ?_) | (refine zar ?_) | (refine zap ?_) | (refine zaq ?_) | (refine zan rfl ?_) | (refine zaf ?_) | (refine zag ?_) | (refine zbs ?_))
  all_goals try (exfalso; omega)
  refine zcf [0] [] (fun q : Nat × Int => [(3, .int .i64 q.2), (4, .int .i64 q.1)]) (fun q : Nat × Int => []) (fun q : Nat × Int => q.1 ≤ L.length ∧ q.2 = sumBy wtS (L.take q.1)) (fun q : Nat × Int => L.length - q.1) ((0, 0)) rfl rfl (fun _ => rfl) (fun _ => rfl) rfl aW ⟨by simp, by simp [sumBy]⟩ (fun q hq => ?_)
  obtain ⟨i, s⟩ := q
  obtain ⟨h1, h2⟩ := hq
  simp only at h1 h2
  have hb := wtS_bnd hL i
  dsimp only
  rcases Nat.lt_or_ge i L.length with hlt | hge
  · obtain ⟨a, hga⟩ := get_ex hlt
    have hx := Scen.at hga
    have hwa := (hL.1 a (get_mem hga)).2
    have hsum := sumBy_take_succ wtS hga
    repeat' (first
      | (refine za1 ?_; first | (refine za5 ?_; refine zat _ rfl ?_) | (refine zae ?_; refine zaa _ rfl ?_) | (refine zbv ?_; first | (refine zbz rfl rfl aO ?_) | (refine zbu _ rfl rfl rfl ?_) | (refine zaw _ rfl rfl rfl ?_)) | (refine zbk ?_; first | (refine zaj aA rfl ?_) | (refine zak _ aA rfl rfl aE rfl ?_) | (refine zah _ aA rfl aZ aL ?_) | (refine zai _ aA rfl rfl aE aZ aL ?_)) | (refine zbm ?_; first | (refine zax _ aA rfl aL ?_) | (refine zay _ aA rfl rfl (by simp only [lx, Nat.reduceAdd]; first | done | rfl) ?_)) | (refine zbd ?_; first | (refine zau _ aA rfl rfl aO aA ?_) | (refine zav _ aA rfl rfl rfl rfl aO aO (by first | (rw [Nat.zero_add, Int.toNat_natCast]) | (rw [Nat.zero_add]) | rfl) ?_)) | (refine za7 ?_; first | (refine zba aA rfl ?_) | (refine zbb aA rfl rfl ?_) | (refine zbc aA rfl ?_) | (refine za9 aA (evO_ok rfl) ?_)) | (refine zas (hK _ _ (.inl rfl) ?_); clear hK K) | (refine zas (hK _ _ (.inr (by kernel_rfl)) ?_); clear hK K))
      | (refine za4 ?_; first | (refine zbq ?_) | (refine zad (fun K hK => ?_)) | (refine zao ?_) | (refine za2 ?_) | (refine zbr ?_) | (refine za3 ?_) | (refine zbl ?_; first | (refine zam rfl aD ?_) | (refine zal rfl aD ?_) | (refine zaz rfl (fun h => ?_) (fun h => ?_) <;> (have h' := h; (try simp only [sx] at h')))))
      | (refine za0 ?_) | (refine zab ?_) | (refine zac ?_) | (refine zar ?_) | (refine zap ?_) | (refine zaq ?_) | (refine zan rfl ?_) | (refine zaf ?_) | (refine zag ?_) | (refine zbs ?_))
    all_goals first
      | (exfalso; omega)
      | (refine zb9 (i + 1, s + a.weight) rfl aW ⟨by simp only; omega, by simp only [hsum, h2]⟩ (by simp only; omega))
  · rw [take_all hge] at h2
    repeat' (first
      | (refine za1 ?_; first | (refine za5 ?_; refine zat _ rfl ?_) | (refine zae ?_; refine zaa _ rfl ?_) | (refine zbv ?_; first | (refine zbz rfl rfl aO ?_) | (refine zbu _ rfl rfl rfl ?_) | (refine zaw _ rfl rfl rfl ?_)) | (refine zbk ?_; first | (refine zaj aA rfl ?_) | (refine zak _ aA rfl rfl aE rfl ?_) | (refine zah _ aA rfl aZ aL ?_) | (refine zai _ aA rfl rfl aE aZ aL ?_)) | (refine zbm ?_; first | (refine zax _ aA rfl aL ?_) | (refine zay _ aA rfl rfl (by simp only [lx, Nat.reduceAdd]; first | done | rfl) ?_)) | (refine zbd ?_; first | (refine zau _ aA rfl rfl aO aA ?_) | (refine zav _ aA rfl rfl rfl rfl aO aO (by first | (rw [Nat.zero_add, Int.toNat_natCast]) | (rw [Nat.zero_add]) | rfl) ?_)) | (refine za7 ?_; first | (refine zba aA rfl ?_) | (refine zbb aA rfl rfl ?_) | (refine zbc aA rfl ?_) | (refine za9 aA (evO_ok rfl) ?_)) | (refine zas (hK _ _ (.inl rfl) ?_); clear hK K) | (refine zas (hK _ _ (.inr (by kernel_rfl)) ?_); clear hK K))
      | (refine za4 ?_; first | (refine zbq ?_) | (refine zad (fun K hK => ?_)) | (refine zao ?_) | (refine za2 ?_) | (refine zbr ?_) | (refine za3 ?_) | (refine zbl ?_; first | (refine zam rfl aD ?_) | (refine zal rfl aD ?_) | (refine zaz rfl (fun h => ?_) (fun h => ?_) <;> (have h' := h; (try simp only [sx] at h')))))
      | (refine za0 ?_) | (refine zab ?_) | (refine zac ?_) | (refine zar ?_) | (refine zap ?_) | (refine zaq ?_) | (refine zan rfl ?_) | (refine zaf ?_) | (refine zag ?_) | (refine zbs ?_))
    all_goals first
      | (exfalso; omega)
      | exact zci rfl (zbo rfl) h2
theorem wtL_bnd {L : List Scen} (hL : GoodL L) : 1 ≤ sumBy wtS L ∧ sumBy wtS L ≤ 400 := by
  have h1 := wtS_bnd hL L.length
  rw [List.take_length] at h1
  obtain ⟨s, hs⟩ := get_ex (show 0 < L.length by have := hL.2; omega)
  have h3 := (wt_posS hL fun _ => true).2 ⟨s, get_mem hs, rfl⟩
  have h4 : sumBy (wIfS fun _ => true) L = sumBy wtS L := sumBy_congr fun s _ => rfl
  omega
theorem k_chance (L : List Scen) (g : FuncId) (ca : List (List PV)) (p : Scen → Bool) (hg : ∀ s ∈ L, Con Try.prog g (.agg s.pv :: ca.map PV.ptr) (.bool (p s))) (hL : GoodL L) :
    Con Try.prog 102 [.list 2 (L.map Scen.pv), .fn g [] (ca.map PV.ptr)] (.tuple [.int .i64 (frN (sumBy (wIfS p) L) (sumBy wtS L)), .int .i64 (frD (sumBy (wIfS p) L) (sumBy wtS L))]) := by
  intro al
  refine za6 hmix Try.func102 rfl (by kernel_rfl) (by kernel_rfl) (Nat.le_of_ble_eq_true rfl) (fun row h => by cases h) ?_
  have hty_u51 := ty_u51
  have hty_s51 := ty_s51
  have hty_a56 := ty_a56
  have hty_z56 := ty_z56
  have hty_t56 := ty_t56
  have hty_f56_1 := ty_f56_1
  have hty_c3 := ty_c3
  have hl1 : (L.map Scen.pv).length = L.length := by simp
  have hl := hL.2
  have hwb := wtL_bnd hL
  have hib := wIfS_bnd hL p L.length
  rw [List.take_length] at hib
  have kF := k_fraction (sumBy (wIfS p) L) (sumBy wtS L) aO aO
  repeat' (first
      | (refine za1 ?_; first | (refine za5 ?_; refine zat _ rfl ?_) | (refine zae ?_; refine zaa _ rfl ?_) | (refine zbv ?_; first | (refine zbz rfl rfl aO ?_) | (refine zbu _ rfl rfl rfl ?_) | (refine zaw _ rfl rfl rfl ?_)) | (refine zbk ?_; first | (refine zaj aA rfl ?_) | (refine zak _ aA rfl rfl aE rfl ?_) | (refine zah _ aA rfl aZ aL ?_) | (refine zai _ aA rfl rfl aE aZ aL ?_)) | (refine zbm ?_; first | (refine zax _ aA rfl aL ?_) | (refine zay _ aA rfl rfl (by simp only [lx, Nat.reduceAdd]; first | done | rfl) ?_)) | (refine zbd ?_; first | (refine zau _ aA rfl rfl aO aA ?_) | (refine zav _ aA rfl rfl rfl rfl aO aO (by first | (rw [Nat.zero_add, Int.toNat_natCast]) | (rw [Nat.zero_add]) | rfl) ?_)) | (refine za7 ?_; first | (refine zba aA rfl ?_) | (refine zbb aA rfl rfl ?_) | (refine zbc aA rfl ?_) | (refine za9 aA (evO_ok rfl) ?_)) | (refine zca _ aA rfl ?_) | (refine zb2 aA rfl ?_) | (refine zbn _ _ _ rfl rfl aE (by first | assumption | (exact TAgg.size aA)) rfl rfl rfl aZ rfl aL (by first | (first | (simp only [lx, Nat.reduceAdd]; first | done | rfl) | fail) | rfl) ?_) | (refine zcc _ rfl rfl ?_) | (refine zas (hK _ _ (.inl rfl) ?_); clear hK K) | (refine zas (hK _ _ (.inr (by kernel_rfl)) ?_); clear hK K))
      | (refine za4 ?_; first | (refine zbq ?_) | (refine zad (fun K hK => ?_)) | (refine zao ?_) | (refine za2 ?_) | (refine zbr ?_) | (refine za3 ?_) | (refine zbl ?_; first | (refine zam rfl aD ?_) | (refine zal rfl aD ?_) | (refine zaz rfl (fun h => ?_) (fun h => ?_) <;> (have h' := h; (try simp only [sx] at h')))))
      | (refine za0 ?_) | (refine zab ?_) | (refine zac ?_) | (refine zar ?_) | (refine zap ?_) | (refine zaq ?_) | (refine zan rfl ?_) | (refine zaf ?_) | (refine zag ?_) | (refine zbs ?_))
  all_goals try (exfalso; omega)
  refine zcf [1, 10, 11] [] (fun q : Nat × Int × Int => [(6, .int .i64 q.2.1), (7, .int .i64 q.2.2), (12, .int .i64 q.1)]) (fun q : Nat × Int × Int => []) (fun q : Nat × Int × Int => q.1 ≤ L.length ∧ q.2.1 = sumBy (wIfS p) (L.take q.1) ∧ q.2.2 = sumBy wtS (L.take q.1)) (fun q : Nat × Int × Int => L.length - q.1) ((0, 0, 0)) rfl rfl (fun _ => rfl) (fun _ => rfl) rfl aW ⟨by simp, by simp [sumBy], by simp [sumBy]⟩ (fun q hq => ?_)
  obtain ⟨i, s, t⟩ := q
  obtain ⟨h1, h2, h3⟩ := hq
  simp only at h1 h2 h3
  have hb := wtS_bnd hL i
  have hb' := wIfS_bnd hL p i
  dsimp only
  rcases Nat.lt_or_ge i L.length with hlt | hge
  · obtain ⟨a, hga⟩ := get_ex hlt
    have hx := Scen.at hga
    have hwa := (hL.1 a (get_mem hga)).2
    have hsum := sumBy_take_succ wtS hga
    have hsum' := sumBy_take_succ (wIfS p) hga
    have kg := hg a (get_mem hga)
    have ew : wIfS p a = if p a = true then a.weight else 0 := rfl
    cases hp : p a with
    | true =>
      rw [hp] at kg ew
      rw [if_pos rfl] at ew
      repeat' (first
      | (refine za1 ?_; first | (refine za5 ?_; refine zat _ rfl ?_) | (refine zae ?_; refine zaa _ rfl ?_) | (refine zbv ?_; first | (refine zbz rfl rfl aO ?_) | (refine zbu _ rfl rfl rfl ?_) | (refine zaw _ rfl rfl rfl ?_)) | (refine zbk ?_; first | (refine zaj aA rfl ?_) | (refine zak _ aA rfl rfl aE rfl ?_) | (refine zah _ aA rfl aZ aL ?_) | (refine zai _ aA rfl rfl aE aZ aL ?_)) | (refine zbm ?_; first | (refine zax _ aA rfl aL ?_) | (refine zay _ aA rfl rfl (by simp only [lx, Nat.reduceAdd]; first | done | rfl) ?_)) | (refine zbd ?_; first | (refine zau _ aA rfl rfl aO aA ?_) | (refine zav _ aA rfl rfl rfl rfl aO aO (by first | (rw [Nat.zero_add, Int.toNat_natCast]) | (rw [Nat.zero_add]) | rfl) ?_)) | (refine za7 ?_; first | (refine za8 true (kg) rfl rfl rfl aS rfl aH ?_; simp only [cl]) | (refine x_call [] _ (kg) rfl rfl aS rfl aH ?_; simp only [cl]) | (refine zba aA rfl ?_) | (refine zbb aA rfl rfl ?_) | (refine zbc aA rfl ?_) | (refine za9 aA (evO_ok rfl) ?_)) | (refine zca _ aA rfl ?_) | (refine zb2 aA rfl ?_) | (refine zbn _ _ _ rfl rfl aE (by first | assumption | (exact TAgg.size aA)) rfl rfl rfl aZ rfl aL (by first | (first | (simp only [lx, Nat.reduceAdd]; first | done | rfl) | fail) | rfl) ?_) | (refine zcc _ rfl rfl ?_) | (refine zas (hK _ _ (.inl rfl) ?_); clear hK K) | (refine zas (hK _ _ (.inr (by kernel_rfl)) ?_); clear hK K))
      | (refine za4 ?_; first | (refine zbq ?_) | (refine zad (fun K hK => ?_)) | (refine zao ?_) | (refine za2 ?_) | (refine zbr ?_) | (refine za3 ?_) | (refine zbl ?_; first | (refine zam rfl aD ?_) | (refine zal rfl aD ?_) | (refine zaz rfl (fun h => ?_) (fun h => ?_) <;> (have h' := h; (try simp only [sx] at h')))))
      | (refine za0 ?_) | (refine zab ?_) | (refine zac ?_) | (refine zar ?_) | (refine zap ?_) | (refine zaq ?_) | (refine zan rfl ?_) | (refine zaf ?_) | (refine zag ?_) | (refine zbs ?_))
      all_goals first
        | (exfalso; omega)
        | (refine zb9 (i + 1, s + a.weight, t + a.weight) rfl aW ⟨by simp only; omega, by simp only [hsum', h2, ew], by simp only [hsum, h3]⟩ (by simp only; omega))
    | false =>
      rw [hp] at kg ew
      rw [if_neg (by simp)] at ew
      repeat' (first
      | (refine za1 ?_; first | (refine za5 ?_; refine zat _ rfl ?_) | (refine zae ?_; refine zaa _ rfl ?_) | (refine zbv ?_; first | (refine zbz rfl rfl aO ?_) | (refine zbu _ rfl rfl rfl ?_) | (refine zaw _ rfl rfl rfl ?_)) | (refine zbk ?_; first | (refine zaj aA rfl ?_) | (refine zak _ aA rfl rfl aE rfl ?_) | (refine zah _ aA rfl aZ aL ?_) | (refine zai _ aA rfl rfl aE aZ aL ?_)) | (refine zbm ?_; first | (refine zax _ aA rfl aL ?_) | (refine zay _ aA rfl rfl (by simp only [lx, Nat.reduceAdd]; first | done | rfl) ?_)) | (refine zbd ?_; first | (refine zau _ aA rfl rfl aO aA ?_) | (refine zav _ aA rfl rfl rfl rfl aO aO (by first | (rw [Nat.zero_add, Int.toNat_natCast]) | (rw [Nat.zero_add]) | rfl) ?_)) | (refine za7 ?_; first | (refine za8 true (kg) rfl rfl rfl aS rfl aH ?_; simp only [cl]) | (refine x_call [] _ (kg) rfl rfl aS rfl aH ?_; simp only [cl]) | (refine zba aA rfl ?_) | (refine zbb aA rfl rfl ?_) | (refine zbc aA rfl ?_) | (refine za9 aA (evO_ok rfl) ?_)) | (refine zca _ aA rfl ?_) | (refine zb2 aA rfl ?_) | (refine zbn _ _ _ rfl rfl aE (by first | assumption | (exact TAgg.size aA)) rfl rfl rfl aZ rfl aL (by first | (first | (simp only [lx, Nat.reduceAdd]; first | done | rfl) | fail) | rfl) ?_) | (refine zcc _ rfl rfl ?_) | (refine zas (hK _ _ (.inl rfl) ?_); clear hK K) | (refine zas (hK _ _ (.inr (by kernel_rfl)) ?_); clear hK K))
      | (refine za4 ?_; first | (refine zbq ?_) | (refine zad (fun K hK => ?_)) | (refine zao ?_) | (refine za2 ?_) | (refine zbr ?_) | (refine za3 ?_) | (refine zbl ?_; first | (refine zam rfl aD ?_) | (refine zal rfl aD ?_) | (refine zaz rfl (fun h => ?_) (fun h => ?_) <;> (have h' := h; (try simp only [sx] at h')))))
      | (refine za0 ?_) | (refine zab ?_) | (refine zac ?_) | (refine zar ?_) | (refine zap ?_) | (refine zaq ?_) | (refine zan rfl ?_) | (refine zaf ?_) | (refine zag ?_) | (refine zbs ?_))
      all_goals first
        | (exfalso; omega)
        | (refine zb9 (i + 1, s, t + a.weight) rfl aW ⟨by simp only; omega, by simp only [hsum', h2, ew, Int.add_zero], by simp only [hsum, h3]⟩ (by simp only; omega))
  · rw [take_all hge] at h2 h3
    subst h2
    subst h3
    repeat' (first
      | (refine za1 ?_; first | (refine za5 ?_; refine zat _ rfl ?_) | (refine zae ?_; refine zaa _ rfl ?_) | (refine zbv ?_; first | (refine zbz rfl rfl aO ?_) | (refine zbu _ rfl rfl rfl ?_) | (refine zaw _ rfl rfl rfl ?_)) | (refine zbk ?_; first | (refine zaj aA rfl ?_) | (refine zak _ aA rfl rfl aE rfl ?_) | (refine zah _ aA rfl aZ aL ?_) | (refine zai _ aA rfl rfl aE aZ aL ?_)) | (refine zbm ?_; first | (refine zax _ aA rfl aL ?_) | (refine zay _ aA rfl rfl (by simp only [lx, Nat.reduceAdd]; first | done | rfl) ?_)) | (refine zbd ?_; first | (refine zau _ aA rfl rfl aO aA ?_) | (refine zav _ aA rfl rfl rfl rfl aO aO (by first | (rw [Nat.zero_add, Int.toNat_natCast]) | (rw [Nat.zero_add]) | rfl) ?_)) | (refine za7 ?_; first | (refine za8 true (kF) rfl rfl rfl aS rfl aH ?_; simp only [cl]) | (refine zba aA rfl ?_) | (refine zbb aA rfl rfl ?_) | (refine zbc aA rfl ?_) | (refine za9 aA (evO_ok rfl) ?_)) | (refine zca _ aA rfl ?_) | (refine zb2 aA rfl ?_) | (refine zbn _ _ _ rfl rfl aE (by first | assumption | (exact TAgg.size aA)) rfl rfl rfl aZ rfl aL (by first | (first | (simp only [lx, Nat.reduceAdd]; first | done | rfl) | fail) | rfl) ?_) | (refine zcc _ rfl rfl ?_) | (refine zas (hK _ _ (.inl rfl) ?_); clear hK K) | (refine zas (hK _ _ (.inr (by kernel_rfl)) ?_); clear hK K))
      | (refine za4 ?_; first | (refine zbq ?_) | (refine zad (fun K hK => ?_)) | (refine zao ?_) | (refine za2 ?_) | (refine zbr ?_) | (refine za3 ?_) | (refine zbl ?_; first | (refine zam rfl aD ?_) | (refine zal rfl aD ?_) | (refine zaz rfl (fun h => ?_) (fun h => ?_) <;> (have h' := h; (try simp only [sx] at h')))))
      | (refine za0 ?_) | (refine zab ?_) | (refine zac ?_) | (refine zar ?_) | (refine zap ?_) | (refine zaq ?_) | (refine zan rfl ?_) | (refine zaf ?_) | (refine zag ?_) | (refine zbs ?_))
    all_goals first
      | (exfalso; omega)
      | exact aR
theorem k_l8Burned (e : Ens) (h : GoodEn e) (z : SzE e) (k : Int) {s : Scen} (hs : s ∈ e.L) : Con Try.prog 101 [.agg e.t.pv, .agg s.pv, .list 1 (ints e.src), .int .i64 e.st, .int .i64 k] (.olist 3 1 (ints (buS e k s))) := by
  intro al
  refine za6 hmix Try.func101 rfl (by kernel_rfl) (by kernel_rfl) (Nat.le_of_ble_eq_true rfl) (fun row h => by cases h) ?_
  have hty_a26 := ty_a26
  have hty_f56_0 := ty_f56_0
  have hty_c27 := ty_c27
  have hty_u27 := ty_u27
  have hty_s27 := ty_s27
  have hty_u24 := ty_u24
  have hty_s24 := ty_s24
  have hlen := goodT_len h.1.1
  have hal := arr_len (h.b hs)
  have hs3 := z.hs
  have kA : Con Try.prog 63 [.agg e.t.pv, .list 2 (s.phases.map Phase.pv), .list 1 (ints e.src), .int .i64 e.st] (.olist 3 1 (ints (arr (e.bz s)))) := k_l4Arrivals (e.bz s) (h.b hs) (by show e.src.length ≤ _; omega)
  have hal2 : (arr (e.bz s)).length = e.t.burn.length := hal
  have kB := k_l4Burned (arr (e.bz s)) k aO
  unfold buS
  repeat' (first
      | (refine za1 ?_; first | (refine za5 ?_; refine zat _ rfl ?_) | (refine zae ?_; refine zaa _ rfl ?_) | (refine zbk ?_; first | (refine zaj aA rfl ?_) | (refine zak _ aA rfl rfl aE rfl ?_) | (refine zah _ aA rfl aZ aL ?_) | (refine zai _ aA rfl rfl aE aZ aL ?_)) | (refine zbm ?_; first | (refine zax _ aA rfl aL ?_) | (refine zay _ aA rfl rfl (by simp only [lx, Nat.reduceAdd]; first | done | rfl) ?_)) | (refine za7 ?_; first | (refine za8 true (kA) rfl rfl rfl aS rfl aH ?_; simp only [cl]) | (refine za8 true (kB) rfl rfl rfl aS rfl aH ?_; simp only [cl])) | (refine zby _ _ rfl rfl rfl rfl ?_) | (refine zas (hK _ _ (.inl rfl) ?_); clear hK K) | (refine zas (hK _ _ (.inr (by kernel_rfl)) ?_); clear hK K))
      | (refine za4 ?_; first | (refine zbq ?_) | (refine zad (fun K hK => ?_)) | (refine zao ?_) | (refine za2 ?_) | (refine zbr ?_) | (refine za3 ?_))
      | (refine za0 ?_) | (refine zab ?_) | (refine zac ?_) | (refine zar ?_) | (refine zap ?_) | (refine zaq ?_) | (refine zan rfl ?_) | (refine zaf ?_) | (refine zag ?_) | (refine zbs ?_))
  all_goals first
    | (exfalso; omega)
    | exact zcl rfl (zbo (by rfl)) (by rfl) (by decide) rfl (ints_flat _) rfl
theorem k_iBurnedS (e : Ens) (h : GoodEn e) (z : SzE e) (k : Int) {s : Scen} (hs : s ∈ e.L) : Con Try.prog 87 [.agg e.t.pv, .list 2 (s.phases.map Phase.pv), .list 1 (ints e.src), .int .i64 e.st, .int .i64 k] (.olist 3 1 (ints (buS e k s))) := by
  have hs3 := z.hs
  exact k_burned (e.bz s) (h.b hs) (by show e.src.length ≤ _; omega) k
end Go.Vs
set_option linter.unusedVariables false
set_option linter.unusedSimpArgs false
namespace Go.Vs
theorem ConF.frz {P : Program} {g : FuncId} {ys : List PV} {ty : TypeId} {sz : Nat} {es : List (List PV)} (h : ContractP P g false ys [] (Ret (.olist ty sz es))) (hfl : ∀ e ∈ es, ∀ c ∈ e, c.flat = true) : ContractP P g false ys [] (Ret (.list sz es)) := by
  refine ⟨h.1, fun G w X ρ cargs hW hX hC => ?_⟩
  obtain ⟨cb, h2⟩ := h
  refine (h2 G w X ρ cargs hW hX hC).mono fun e w' => ?_
  rintro ⟨v, r', fin, rfl, ⟨rfl, rfl⟩, hl, hf, hR⟩
  refine ⟨v, .list sz es, [], rfl, ⟨rfl, rfl⟩, hl, hf, fun t ht => ?_⟩
  obtain ⟨ρ', hR⟩ := hR t ht
  refine ⟨ρ', ?_⟩
  have hio : ioMem (withEs [] ([] : List (List (List PV)))) = noMem := by funext id; simp [ioMem, noMem, withEs]
  have hX0 : X = [] := List.length_eq_zero_iff.1 hX
  have hrel := hR.rel
  rw [hio] at hrel
  have hval := hR.val
  rw [hio] at hval
  have hM : (noMem.upds (thaw t (.olist ty sz es)).2) (t, 0) = some (some ⟨ty, sz, es, false⟩) := looks_upds _ (thaw1_keys t 0 (.olist ty sz es)).2.2 ((t, 0), some ⟨ty, sz, es, false⟩) (by simp [thaw1])
  have hv : Rep ρ' w' (Stab G ρ' (noMem.upds (thaw t (.olist ty sz es)).2) w') (noMem.upds (thaw t (.olist ty sz es)).2) v (.osl (t, 0) 0 es.length) := hval.mono (fun b hb => ⟨hb.1, rfl⟩) (MLe.refl _ _ _)
  have hnew : WRel G ρ' w X noMem w' := ⟨fun id id' r r' b z z' h => by simp [noMem] at h, fun id r h => by simp [noMem] at h, fun id r h => by simp [noMem] at h, hrel.keep, hrel.good⟩
  have key : Rep ρ' w' (RetS G false ρ' w noMem w') noMem v (.list sz es) := by
    obtain ⟨a, cap, rfl, h1, h2, h3⟩ := osl_cells hrel hM rfl hv
    refine rep_list.2 ⟨a, cap, rfl, h1, fun hne => ?_⟩
    obtain ⟨b, z, hρ, rfl, g⟩ := h3 (List.length_pos_iff.2 hne)
    have hb := hrel.new (t, 0) _ hM
    rw [if_neg ht] at hb
    have hb2 := hb b z hρ
    have hfresh : w.heap.size ≤ b := by
      rcases hb2 with h | ⟨z', h⟩
      · exact h
      · rw [hX0] at h; cases h
    refine ⟨_, rfl, ⟨⟨hrel.lt hM hρ, fun id' r z' hM' => by simp [noMem] at hM', hrel.good b hb2⟩, fun _ => hfresh⟩, fun i e hi => ?_⟩
    have hi' : ((es.drop 0).take es.length)[i]? = some e := by rw [List.drop_zero, List.take_length]; exact hi
    obtain ⟨k1, k2⟩ := g i e hi'
    refine ⟨k1, fun j u hu => ?_⟩
    obtain ⟨c, m1, m2, m3⟩ := k2 j u hu
    exact ⟨c, m1, m2, rep_flat (hfl e (List.mem_of_getElem? hi) u (List.mem_of_getElem? hu)) m3⟩
  refine ⟨?_, ?_, ?_⟩
  · rw [hio]; exact hnew
  · intro id row b z h1
    cases h1
  · rw [hio]; exact key
theorem Con.frzF {P : Program} {g : FuncId} {ys : List PV} {ty : TypeId} {sz : Nat} {es : List (List PV)} (h : Con P g ys (.olist ty sz es)) (hfl : ∀ e ∈ es, ∀ c ∈ e, c.flat = true) : Con P g ys (.list sz es) := by
  intro al
  cases al
  · exact ConF.frz (h false) hfl
  · exact ConA.frz (h true) rfl
end Go.Vs
set_option linter.unusedVariables false
set_option linter.unusedSimpArgs false
set_option maxRecDepth 100000
set_option maxHeartbeats 4000000
namespace Go.Vs
open Go.Proofs
attribute [local irreducible] exec vwp thenQ blkQ loopQ RetPost
noncomputable section
open Classical in
noncomputable def opB (p : Prop) : Bool := decide p
theorem opB_t {p : Prop} (h : p) : opB p = true := by classical exact decide_eq_true h
theorem opB_f {p : Prop} (h : ¬ p) : opB p = false := by classical exact decide_eq_false h
theorem opB_of {p : Prop} (h : opB p = true) : p := by classical exact of_decide_eq_true h
noncomputable def fr3 (p : Prop) (a b : Int) : PV := .tuple [.int .i64 (if opB p = true then frN a b else 0), .int .i64 (if opB p = true then frD a b else 0), .bool (opB p)]
theorem fr3_t {p : Prop} {a b : Int} (h : p) : fr3 p a b = .tuple [.int .i64 (frN a b), .int .i64 (frD a b), .bool true] := by unfold fr3; rw [opB_t h, if_pos rfl, if_pos rfl]
theorem fr3_f {p : Prop} {a b : Int} (h : ¬ p) : fr3 p a b = .tuple [.int .i64 0, .int .i64 0, .bool false] := by unfold fr3; rw [opB_f h, if_neg (by simp), if_neg (by simp)]
@[reducible] def EkOk (e : Ens) (k : Int) : Prop := GoodEn e ∧ 0 ≤ k ∧ k ≤ 9999
@[reducible] def EaOk (e : Ens) (k n : Int) : Prop := GoodEn e ∧ (0 ≤ k ∧ k ≤ 9999) ∧ 0 ≤ n
theorem k_above1 (e : Ens) (z : SzE e) (k n : Int) (h : GoodEn e) {s : Scen} (hs : s ∈ e.L) : Con Try.prog 103 [.agg s.pv, .ptr e.t.pv, .ptr [.list 1 (ints e.src)], .ptr [.int .i64 e.st], .ptr [.int .i64 k], .ptr [.int .i64 n]] (.bool (abP e k n s)) := by
  intro al
  refine za6 hmix Try.func103 rfl (by kernel_rfl) (by kernel_rfl) (Nat.le_of_ble_eq_true rfl) (fun row h => by cases h) ?_
  have hty_a26 := ty_a26
  have hty_f56_0 := ty_f56_0
  have hty_c27 := ty_c27
  have hty_c24 := ty_c24
  have hty_c3 := ty_c3
  have hty_u27 := ty_u27
  have hty_s27 := ty_s27
  have hty_u24 := ty_u24
  have hty_s24 := ty_s24
  have hlen := goodT_len h.1.1
  have hbl := bu_len h k hs
  have kB := (k_iBurnedS e h z k hs).frzF (ints_flat _)
  unfold abP
  generalize buS e k s = B at *
  have hl : (ints B).length = B.length := by simp
  repeat' (first
      | (refine za1 ?_; first | (refine zae ?_; refine zaa _ rfl ?_) | (refine zbv ?_; refine zbu _ rfl rfl rfl ?_) | (refine zbk ?_; first | (refine zaj aA rfl ?_) | (refine zak _ aA rfl rfl aE rfl ?_) | (refine zah _ aA rfl aZ aL ?_) | (refine zai _ aA rfl rfl aE aZ aL ?_)) | (refine zbm ?_; first | (refine zax _ aA rfl aL ?_) | (refine zay _ aA rfl rfl (by simp only [lx, Nat.reduceAdd]; first | done | rfl) ?_)) | (refine za7 ?_; first | (refine za8 true (kB) rfl rfl rfl aS rfl aH ?_; simp only [cl]) | (refine zba aA rfl ?_) | (refine zbb aA rfl rfl ?_) | (refine zbc aA rfl ?_) | (refine za9 aA (evO_ok rfl) ?_)) | (refine zby _ _ rfl rfl rfl rfl ?_) | (refine zas (hK _ _ (.inl rfl) ?_); clear hK K) | (refine zas (hK _ _ (.inr (by kernel_rfl)) ?_); clear hK K))
      | (refine za4 ?_; first | (refine zbq ?_) | (refine zad (fun K hK => ?_)) | (refine zao ?_) | (refine za2 ?_) | (refine zbr ?_) | (refine za3 ?_))
      | (refine za0 ?_) | (refine zab ?_) | (refine zac ?_) | (refine zar ?_) | (refine zap ?_) | (refine zaq ?_) | (refine zan rfl ?_) | (refine zaf ?_) | (refine zag ?_) | (refine zbs ?_))
  all_goals exact zb3 rfl (zbo rfl) (by rw [hl])
theorem k_iAbove (e : Ens) (z : SzE e) (k n : Int) : Con Try.prog 44 [.agg e.t.pv, .list 2 (e.L.map Scen.pv), .list 1 (ints e.src), .int .i64 e.st, .int .i64 k, .int .i64 n] (fr3 (EaOk e k n) (sumBy (wIfS (abP e k n)) e.L) (wgtE e)) := by
  intro al
  refine za6 hmix Try.func44 rfl (by kernel_rfl) (by kernel_rfl) (Nat.le_of_ble_eq_true rfl) (fun row h => by cases h) ?_
  have hty_a26 := ty_a26
  have hty_c24 := ty_c24
  have hty_c3 := ty_c3
  have hty_u51 := ty_u51
  have hty_s51 := ty_s51
  have hty_u24 := ty_u24
  have hty_s24 := ty_s24
  have hl1 : (e.L.map Scen.pv).length = e.L.length := by simp
  have hzn := z.hn
  have k1 := k_isBlaze e z
  have k2 := k_isTick k
  by_cases hE : GoodEn e
  · rw [decide_eq_true hE] at k1
    have hlen := goodT_len hE.1.1
    have hL := hE.2.1
    have hl4 := hL.2
    have hwb := wtL_bnd hL
    by_cases hk : 0 ≤ k ∧ k ≤ 9999
    rotate_left
    · have hok : ¬ EaOk e k n := fun h => hk h.2.1
      rw [fr3_f hok]
      repeat' (first
      | (refine za1 ?_; first | (refine za5 ?_; refine zat _ rfl ?_) | (refine zae ?_; refine zaa _ rfl ?_) | (refine zbv ?_; first | (refine zbu _ rfl rfl rfl ?_) | (refine zaw _ rfl rfl rfl ?_)) | (refine g_un ?_; first | (refine zce rfl ?_) | (refine zcd rfl aO ?_)) | (refine zbk ?_; first | (refine zaj aA rfl ?_) | (refine zak _ aA rfl rfl aE rfl ?_) | (refine zah _ aA rfl aZ aL ?_) | (refine zai _ aA rfl rfl aE aZ aL ?_)) | (refine zbx ?_; first | (refine zbf rfl aD rfl ?_) | (refine zbh rfl aD ?_) | (refine zbi rfl aD ?_) | (refine zbg rfl aD rfl ?_)) | (refine zbp ?_; first | (refine zbw rfl rfl aD ?_) | (refine zb4 rfl rfl aD ?_) | (refine zb5 rfl rfl ?_) | (refine zbj rfl rfl (fun h => ?_) (fun h => ?_) <;> (have h' := h; (try simp only [sx] at h')))) | (refine za7 ?_; first | (refine za8 true (k1) rfl rfl rfl aS rfl aH ?_; simp only [cl]) | (refine za8 true (k2) rfl rfl rfl aS rfl aH ?_; simp only [cl])) | (refine zby _ _ rfl rfl rfl rfl ?_) | (refine zck _ _ rfl rfl ?_) | (refine zcc _ rfl rfl ?_) | (refine zas (hK _ _ (.inl rfl) ?_); clear hK K) | (refine zas (hK _ _ (.inr (by kernel_rfl)) ?_); clear hK K))
      | (refine za4 ?_; first | (refine zbq ?_) | (refine zad (fun K hK => ?_)) | (refine zao ?_) | (refine za2 ?_) | (refine zbr ?_) | (refine za3 ?_) | (refine zbl ?_; first | (refine zam rfl aD ?_) | (refine zal rfl aD ?_) | (refine zaz rfl (fun h => ?_) (fun h => ?_) <;> (have h' := h; (try simp only [sx] at h')))))
      | (refine za0 ?_) | (refine zab ?_) | (refine zac ?_) | (refine zar ?_) | (refine zap ?_) | (refine zaq ?_) | (refine zan rfl ?_) | (refine zaf ?_) | (refine zag ?_) | (refine zbs ?_))
      all_goals first
        | (exfalso; omega)
        | (exfalso; simp at *; done)
        | exact aR
    by_cases hx : 0 ≤ n
    · skip
      have hok : EaOk e k n := ⟨hE, hk, hx⟩
      rw [fr3_t hok]
      have kC := k_chance e.L 103 [e.t.pv, [.list 1 (ints e.src)], [.int .i64 e.st], [.int .i64 k], [.int .i64 n]] (abP e k n) (fun s hs => k_above1 e z k n hE hs) hL
      repeat' (first
      | (refine za1 ?_; first | (refine za5 ?_; refine zat _ rfl ?_) | (refine zae ?_; refine zaa _ rfl ?_) | (refine zbv ?_; first | (refine zbu _ rfl rfl rfl ?_) | (refine zaw _ rfl rfl rfl ?_)) | (refine g_un ?_; first | (refine zce rfl ?_) | (refine zcd rfl aO ?_)) | (refine zbk ?_; first | (refine zaj aA rfl ?_) | (refine zak _ aA rfl rfl aE rfl ?_) | (refine zah _ aA rfl aZ aL ?_) | (refine zai _ aA rfl rfl aE aZ aL ?_)) | (refine zbx ?_; first | (refine zbf rfl aD rfl ?_) | (refine zbh rfl aD ?_) | (refine zbi rfl aD ?_) | (refine zbg rfl aD rfl ?_)) | (refine zbp ?_; first | (refine zbw rfl rfl aD ?_) | (refine zb4 rfl rfl aD ?_) | (refine zb5 rfl rfl ?_) | (refine zbj rfl rfl (fun h => ?_) (fun h => ?_) <;> (have h' := h; (try simp only [sx] at h')))) | (refine za7 ?_; first | (refine za8 true (k1) rfl rfl rfl aS rfl aH ?_; simp only [cl]) | (refine za8 true (k2) rfl rfl rfl aS rfl aH ?_; simp only [cl]) | (refine za8 true (kC) rfl rfl rfl aS rfl aH ?_; simp only [cl])) | (refine zby _ _ rfl rfl rfl rfl ?_) | (refine zck _ _ rfl rfl ?_) | (refine zcc _ rfl rfl ?_) | (refine zas (hK _ _ (.inl rfl) ?_); clear hK K) | (refine zas (hK _ _ (.inr (by kernel_rfl)) ?_); clear hK K))
      | (refine za4 ?_; first | (refine zbq ?_) | (refine zad (fun K hK => ?_)) | (refine zao ?_) | (refine za2 ?_) | (refine zbr ?_) | (refine za3 ?_) | (refine zbl ?_; first | (refine zam rfl aD ?_) | (refine zal rfl aD ?_) | (refine zaz rfl (fun h => ?_) (fun h => ?_) <;> (have h' := h; (try simp only [sx] at h')))))
      | (refine za0 ?_) | (refine zab ?_) | (refine zac ?_) | (refine zar ?_) | (refine zap ?_) | (refine zaq ?_) | (refine zan rfl ?_) | (refine zaf ?_) | (refine zag ?_) | (refine zbs ?_))
      all_goals first
        | (exfalso; omega)
        | (exfalso; simp at *; done)
        | exact aR
    · have hok : ¬ EaOk e k n := fun h => hx h.2.2
      rw [fr3_f hok]
      repeat' (first
      | (refine za1 ?_; first | (refine za5 ?_; refine zat _ rfl ?_) | (refine zae ?_; refine zaa _ rfl ?_) | (refine zbv ?_; first | (refine zbu _ rfl rfl rfl ?_) | (refine zaw _ rfl rfl rfl ?_)) | (refine g_un ?_; first | (refine zce rfl ?_) | (refine zcd rfl aO ?_)) | (refine zbk ?_; first | (refine zaj aA rfl ?_) | (refine zak _ aA rfl rfl aE rfl ?_) | (refine zah _ aA rfl aZ aL ?_) | (refine zai _ aA rfl rfl aE aZ aL ?_)) | (refine zbx ?_; first | (refine zbf rfl aD rfl ?_) | (refine zbh rfl aD ?_) | (refine zbi rfl aD ?_) | (refine zbg rfl aD rfl ?_)) | (refine zbp ?_; first | (refine zbw rfl rfl aD ?_) | (refine zb4 rfl rfl aD ?_) | (refine zb5 rfl rfl ?_) | (refine zbj rfl rfl (fun h => ?_) (fun h => ?_) <;> (have h' := h; (try simp only [sx] at h')))) | (refine za7 ?_; first | (refine za8 true (k1) rfl rfl rfl aS rfl aH ?_; simp only [cl]) | (refine za8 true (k2) rfl rfl rfl aS rfl aH ?_; simp only [cl])) | (refine zby _ _ rfl rfl rfl rfl ?_) | (refine zck _ _ rfl rfl ?_) | (refine zcc _ rfl rfl ?_) | (refine zas (hK _ _ (.inl rfl) ?_); clear hK K) | (refine zas (hK _ _ (.inr (by kernel_rfl)) ?_); clear hK K))
      | (refine za4 ?_; first | (refine zbq ?_) | (refine zad (fun K hK => ?_)) | (refine zao ?_) | (refine za2 ?_) | (refine zbr ?_) | (refine za3 ?_) | (refine zbl ?_; first | (refine zam rfl aD ?_) | (refine zal rfl aD ?_) | (refine zaz rfl (fun h => ?_) (fun h => ?_) <;> (have h' := h; (try simp only [sx] at h')))))
      | (refine za0 ?_) | (refine zab ?_) | (refine zac ?_) | (refine zar ?_) | (refine zap ?_) | (refine zaq ?_) | (refine zan rfl ?_) | (refine zaf ?_) | (refine zag ?_) | (refine zbs ?_))
      all_goals first
        | (exfalso; omega)
        | (exfalso; simp at *; done)
        | exact aR
  · rw [decide_eq_false hE] at k1
    have hok : ¬ EaOk e k n := fun h => hE h.1
    rw [fr3_f hok]
    repeat' (first
      | (refine za1 ?_; first | (refine za5 ?_; refine zat _ rfl ?_) | (refine zae ?_; refine zaa _ rfl ?_) | (refine zbv ?_; first | (refine zbu _ rfl rfl rfl ?_) | (refine zaw _ rfl rfl rfl ?_)) | (refine g_un ?_; first | (refine zce rfl ?_) | (refine zcd rfl aO ?_)) | (refine zbk ?_; first | (refine zaj aA rfl ?_) | (refine zak _ aA rfl rfl aE rfl ?_) | (refine zah _ aA rfl aZ aL ?_) | (refine zai _ aA rfl rfl aE aZ aL ?_)) | (refine zbx ?_; first | (refine zbf rfl aD rfl ?_) | (refine zbh rfl aD ?_) | (refine zbi rfl aD ?_) | (refine zbg rfl aD rfl ?_)) | (refine zbp ?_; first | (refine zbw rfl rfl aD ?_) | (refine zb4 rfl rfl aD ?_) | (refine zb5 rfl rfl ?_) | (refine zbj rfl rfl (fun h => ?_) (fun h => ?_) <;> (have h' := h; (try simp only [sx] at h')))) | (refine za7 ?_; first | (refine za8 true (k1) rfl rfl rfl aS rfl aH ?_; simp only [cl]) | (refine za8 true (k2) rfl rfl rfl aS rfl aH ?_; simp only [cl])) | (refine zby _ _ rfl rfl rfl rfl ?_) | (refine zck _ _ rfl rfl ?_) | (refine zcc _ rfl rfl ?_) | (refine zas (hK _ _ (.inl rfl) ?_); clear hK K) | (refine zas (hK _ _ (.inr (by kernel_rfl)) ?_); clear hK K))
      | (refine za4 ?_; first | (refine zbq ?_) | (refine zad (fun K hK => ?_)) | (refine zao ?_) | (refine za2 ?_) | (refine zbr ?_) | (refine za3 ?_) | (refine zbl ?_; first | (refine zam rfl aD ?_) | (refine zal rfl aD ?_) | (refine zaz rfl (fun h => ?_) (fun h => ?_) <;> (have h' := h; (try simp only [sx] at h')))))
      | (refine za0 ?_) | (refine zab ?_) | (refine zac ?_) | (refine zar ?_) | (refine zap ?_) | (refine zaq ?_) | (refine zan rfl ?_) | (refine zaf ?_) | (refine zag ?_) | (refine zbs ?_))
    all_goals first
      | (exfalso; omega)
      | (exfalso; simp at *; done)
      | exact aR
theorem k_sAbove (e : Ens) (z : SzE e) (k n : Int) : Con Try.prog 46 [.agg e.t.pv, .list 2 (e.L.map Scen.pv), .list 1 (ints e.src), .int .i64 e.st, .int .i64 k, .int .i64 n] (fr3 (EaOk e k n) (sumBy (wIfS (abP e k n)) e.L) (wgtE e)) := by
  intro al
  refine za6 hmix Try.func46 rfl (by kernel_rfl) (by kernel_rfl) (Nat.le_of_ble_eq_true rfl) (fun row h => by cases h) ?_
  have hty_a26 := ty_a26
  have hty_u51 := ty_u51
  have hty_s51 := ty_s51
  have hty_u24 := ty_u24
  have hty_s24 := ty_s24
  have hty_a56 := ty_a56
  have hty_f56_1 := ty_f56_1
  have hty_c3 := ty_c3
  have hl1 : (e.L.map Scen.pv).length = e.L.length := by simp
  have hzn := z.hn
  have k1 := k_l8Asked e z
  have k2 := k_l4Tick k
  by_cases hE : GoodEn e
  · rw [decide_eq_true hE] at k1
    have hlen := goodT_len hE.1.1
    have hL := hE.2.1
    have hl4 := hL.2
    have hwb := wtL_bnd hL
    by_cases hk : 0 ≤ k ∧ k ≤ 9999
    rotate_left
    · have hok : ¬ EaOk e k n := fun h => hk h.2.1
      rw [fr3_f hok]
      repeat' (first
      | (refine za1 ?_; first | (refine za5 ?_; refine zat _ rfl ?_) | (refine zae ?_; refine zaa _ rfl ?_) | (refine zbv ?_; first | (refine zbz rfl rfl aO ?_) | (refine zbu _ rfl rfl rfl ?_) | (refine zaw _ rfl rfl rfl ?_)) | (refine g_un ?_; first | (refine zce rfl ?_) | (refine zcd rfl aO ?_)) | (refine zbk ?_; first | (refine zaj aA rfl ?_) | (refine zak _ aA rfl rfl aE rfl ?_) | (refine zah _ aA rfl aZ aL ?_) | (refine zai _ aA rfl rfl aE aZ aL ?_)) | (refine zbm ?_; first | (refine zax _ aA rfl aL ?_) | (refine zay _ aA rfl rfl (by simp only [lx, Nat.reduceAdd]; first | done | rfl) ?_)) | (refine zbd ?_; first | (refine zau _ aA rfl rfl aO aA ?_) | (refine zav _ aA rfl rfl rfl rfl aO aO (by first | (rw [Nat.zero_add, Int.toNat_natCast]) | (rw [Nat.zero_add]) | rfl) ?_)) | (refine zbx ?_; first | (refine zbf rfl aD rfl ?_) | (refine zbh rfl aD ?_) | (refine zbi rfl aD ?_) | (refine zbg rfl aD rfl ?_)) | (refine zbp ?_; first | (refine zbw rfl rfl aD ?_) | (refine zb4 rfl rfl aD ?_) | (refine zb5 rfl rfl ?_) | (refine zbj rfl rfl (fun h => ?_) (fun h => ?_) <;> (have h' := h; (try simp only [sx] at h')))) | (refine za7 ?_; first | (refine za8 true (k1) rfl rfl rfl aS rfl aH ?_; simp only [cl]) | (refine za8 true (k2) rfl rfl rfl aS rfl aH ?_; simp only [cl]) | (refine zba aA rfl ?_) | (refine zbb aA rfl rfl ?_) | (refine zbc aA rfl ?_) | (refine za9 aA (evO_ok rfl) ?_)) | (refine zby _ _ rfl rfl rfl rfl ?_) | (refine zcc _ rfl rfl ?_) | (refine zas (hK _ _ (.inl rfl) ?_); clear hK K) | (refine zas (hK _ _ (.inr (by kernel_rfl)) ?_); clear hK K))
      | (refine za4 ?_; first | (refine zbq ?_) | (refine zad (fun K hK => ?_)) | (refine zao ?_) | (refine za2 ?_) | (refine zbr ?_) | (refine za3 ?_) | (refine zbl ?_; first | (refine zam rfl aD ?_) | (refine zal rfl aD ?_) | (refine zaz rfl (fun h => ?_) (fun h => ?_) <;> (have h' := h; (try simp only [sx] at h')))))
      | (refine za0 ?_) | (refine zab ?_) | (refine zac ?_) | (refine zar ?_) | (refine zap ?_) | (refine zaq ?_) | (refine zan rfl ?_) | (refine zaf ?_) | (refine zag ?_) | (refine zbs ?_))
      all_goals first
        | (exfalso; omega)
        | (exfalso; simp at *; done)
        | exact aR
    by_cases hx : 0 ≤ n
    · skip
      have hok : EaOk e k n := ⟨hE, hk, hx⟩
      rw [fr3_t hok]
      have hib := wIfS_bnd hL (abP e k n) e.L.length
      rw [List.take_length] at hib
      have kA := k_l8All e.L hL
      have kR := k_l8Reduce (sumBy (wIfS (abP e k n)) e.L) (sumBy wtS e.L) aO aO
      repeat' (first
      | (refine za1 ?_; first | (refine za5 ?_; refine zat _ rfl ?_) | (refine zae ?_; refine zaa _ rfl ?_) | (refine zbv ?_; first | (refine zbz rfl rfl aO ?_) | (refine zbu _ rfl rfl rfl ?_) | (refine zaw _ rfl rfl rfl ?_)) | (refine g_un ?_; first | (refine zce rfl ?_) | (refine zcd rfl aO ?_)) | (refine zbk ?_; first | (refine zaj aA rfl ?_) | (refine zak _ aA rfl rfl aE rfl ?_) | (refine zah _ aA rfl aZ aL ?_) | (refine zai _ aA rfl rfl aE aZ aL ?_)) | (refine zbm ?_; first | (refine zax _ aA rfl aL ?_) | (refine zay _ aA rfl rfl (by simp only [lx, Nat.reduceAdd]; first | done | rfl) ?_)) | (refine zbd ?_; first | (refine zau _ aA rfl rfl aO aA ?_) | (refine zav _ aA rfl rfl rfl rfl aO aO (by first | (rw [Nat.zero_add, Int.toNat_natCast]) | (rw [Nat.zero_add]) | rfl) ?_)) | (refine zbx ?_; first | (refine zbf rfl aD rfl ?_) | (refine zbh rfl aD ?_) | (refine zbi rfl aD ?_) | (refine zbg rfl aD rfl ?_)) | (refine zbp ?_; first | (refine zbw rfl rfl aD ?_) | (refine zb4 rfl rfl aD ?_) | (refine zb5 rfl rfl ?_) | (refine zbj rfl rfl (fun h => ?_) (fun h => ?_) <;> (have h' := h; (try simp only [sx] at h')))) | (refine za7 ?_; first | (refine za8 true (k1) rfl rfl rfl aS rfl aH ?_; simp only [cl]) | (refine za8 true (k2) rfl rfl rfl aS rfl aH ?_; simp only [cl]) | (refine zba aA rfl ?_) | (refine zbb aA rfl rfl ?_) | (refine zbc aA rfl ?_) | (refine za9 aA (evO_ok rfl) ?_)) | (refine zby _ _ rfl rfl rfl rfl ?_) | (refine zcc _ rfl rfl ?_) | (refine zas (hK _ _ (.inl rfl) ?_); clear hK K) | (refine zas (hK _ _ (.inr (by kernel_rfl)) ?_); clear hK K))
      | (refine za4 ?_; first | (refine zbq ?_) | (refine zad (fun K hK => ?_)) | (refine zao ?_) | (refine za2 ?_) | (refine zbr ?_) | (refine za3 ?_) | (refine zbl ?_; first | (refine zam rfl aD ?_) | (refine zal rfl aD ?_) | (refine zaz rfl (fun h => ?_) (fun h => ?_) <;> (have h' := h; (try simp only [sx] at h')))))
      | (refine za0 ?_) | (refine zab ?_) | (refine zac ?_) | (refine zar ?_) | (refine zap ?_) | (refine zaq ?_) | (refine zan rfl ?_) | (refine zaf ?_) | (refine zag ?_) | (refine zbs ?_))
      all_goals try (exfalso; omega)
      all_goals try (exfalso; simp at *; done)
      refine zcf [1, 2, 3, 4, 5, 6] [] (fun q : Nat × Int => [(15, .int .i64 q.2), (16, .int .i64 q.1)]) (fun q : Nat × Int => []) (fun q : Nat × Int => q.1 ≤ e.L.length ∧ q.2 = sumBy (wIfS (abP e k n)) (e.L.take q.1)) (fun q : Nat × Int => e.L.length - q.1) ((0, 0)) rfl rfl (fun _ => rfl) (fun _ => rfl) rfl aW ⟨by simp, by simp [sumBy]⟩ (fun q hq => ?_)
      obtain ⟨i, s⟩ := q
      obtain ⟨h1, h2⟩ := hq
      simp only at h1 h2
      dsimp only
      have hb' := wIfS_bnd hL (abP e k n) i
      rcases Nat.lt_or_ge i e.L.length with hlt | hge
      · obtain ⟨a, hga⟩ := get_ex hlt
        have hx := Scen.at hga
        have hwa := (hL.1 a (get_mem hga)).2
        have hsum := sumBy_take_succ (wIfS (abP e k n)) hga
        have ew : wIfS (abP e k n) a = if (abP e k n) a = true then a.weight else 0 := rfl
        have kB := (k_l8Burned e hE z k (get_mem hga)).frzF (ints_flat _)
        have hbl := bu_len hE k (get_mem hga)
        have ep : abP e k n a = decide (((buS e k a).length : Int) > n) := rfl
        have hbl2 : (ints (buS e k a)).length = (buS e k a).length := by simp
        cases hp : (abP e k n) a with
        | true =>
          rw [hp, if_pos rfl] at ew
          rw [hp] at ep
          have hgt : ((buS e k a).length : Int) > n := of_decide_eq_true ep.symm
          generalize buS e k a = B at *
          repeat' (first
      | (refine za1 ?_; first | (refine za5 ?_; refine zat _ rfl ?_) | (refine zae ?_; refine zaa _ rfl ?_) | (refine zbv ?_; first | (refine zbz rfl rfl aO ?_) | (refine zbu _ rfl rfl rfl ?_) | (refine zaw _ rfl rfl rfl ?_)) | (refine g_un ?_; first | (refine zce rfl ?_) | (refine zcd rfl aO ?_)) | (refine zbk ?_; first | (refine zaj aA rfl ?_) | (refine zak _ aA rfl rfl aE rfl ?_) | (refine zah _ aA rfl aZ aL ?_) | (refine zai _ aA rfl rfl aE aZ aL ?_)) | (refine zbm ?_; first | (refine zax _ aA rfl aL ?_) | (refine zay _ aA rfl rfl (by simp only [lx, Nat.reduceAdd]; first | done | rfl) ?_)) | (refine zbd ?_; first | (refine zau _ aA rfl rfl aO aA ?_) | (refine zav _ aA rfl rfl rfl rfl aO aO (by first | (rw [Nat.zero_add, Int.toNat_natCast]) | (rw [Nat.zero_add]) | rfl) ?_)) | (refine zbx ?_; first | (refine zbf rfl aD rfl ?_) | (refine zbh rfl aD ?_) | (refine zbi rfl aD ?_) | (refine zbg rfl aD rfl ?_)) | (refine zbp ?_; first | (refine zbw rfl rfl aD ?_) | (refine zb4 rfl rfl aD ?_) | (refine zb5 rfl rfl ?_) | (refine zbj rfl rfl (fun h => ?_) (fun h => ?_) <;> (have h' := h; (try simp only [sx] at h')))) | (refine za7 ?_; first | (refine za8 true (kB) rfl rfl rfl aS rfl aH ?_; simp only [cl]) | (refine zba aA rfl ?_) | (refine zbb aA rfl rfl ?_) | (refine zbc aA rfl ?_) | (refine za9 aA (evO_ok rfl) ?_)) | (refine zby _ _ rfl rfl rfl rfl ?_) | (refine zcc _ rfl rfl ?_) | (refine zas (hK _ _ (.inl rfl) ?_); clear hK K) | (refine zas (hK _ _ (.inr (by kernel_rfl)) ?_); clear hK K))
      | (refine za4 ?_; first | (refine zbq ?_) | (refine zad (fun K hK => ?_)) | (refine zao ?_) | (refine za2 ?_) | (refine zbr ?_) | (refine za3 ?_) | (refine zbl ?_; first | (refine zam rfl aD ?_) | (refine zal rfl aD ?_) | (refine zaz rfl (fun h => ?_) (fun h => ?_) <;> (have h' := h; (try simp only [sx] at h')))))
      | (refine za0 ?_) | (refine zab ?_) | (refine zac ?_) | (refine zar ?_) | (refine zap ?_) | (refine zaq ?_) | (refine zan rfl ?_) | (refine zaf ?_) | (refine zag ?_) | (refine zbs ?_))
          all_goals first
            | (exfalso; omega)
            | (refine zb9 (i + 1, s + a.weight) rfl aW ⟨by simp only; omega, by simp only [hsum, h2, ew]⟩ (by simp only; omega))
        | false =>
          rw [hp, if_neg (by simp)] at ew
          rw [hp] at ep
          have hgt : ¬ ((buS e k a).length : Int) > n := of_decide_eq_false ep.symm
          generalize buS e k a = B at *
          repeat' (first
      | (refine za1 ?_; first | (refine za5 ?_; refine zat _ rfl ?_) | (refine zae ?_; refine zaa _ rfl ?_) | (refine zbv ?_; first | (refine zbz rfl rfl aO ?_) | (refine zbu _ rfl rfl rfl ?_) | (refine zaw _ rfl rfl rfl ?_)) | (refine g_un ?_; first | (refine zce rfl ?_) | (refine zcd rfl aO ?_)) | (refine zbk ?_; first | (refine zaj aA rfl ?_) | (refine zak _ aA rfl rfl aE rfl ?_) | (refine zah _ aA rfl aZ aL ?_) | (refine zai _ aA rfl rfl aE aZ aL ?_)) | (refine zbm ?_; first | (refine zax _ aA rfl aL ?_) | (refine zay _ aA rfl rfl (by simp only [lx, Nat.reduceAdd]; first | done | rfl) ?_)) | (refine zbd ?_; first | (refine zau _ aA rfl rfl aO aA ?_) | (refine zav _ aA rfl rfl rfl rfl aO aO (by first | (rw [Nat.zero_add, Int.toNat_natCast]) | (rw [Nat.zero_add]) | rfl) ?_)) | (refine zbx ?_; first | (refine zbf rfl aD rfl ?_) | (refine zbh rfl aD ?_) | (refine zbi rfl aD ?_) | (refine zbg rfl aD rfl ?_)) | (refine zbp ?_; first | (refine zbw rfl rfl aD ?_) | (refine zb4 rfl rfl aD ?_) | (refine zb5 rfl rfl ?_) | (refine zbj rfl rfl (fun h => ?_) (fun h => ?_) <;> (have h' := h; (try simp only [sx] at h')))) | (refine za7 ?_; first | (refine za8 true (kB) rfl rfl rfl aS rfl aH ?_; simp only [cl]) | (refine zba aA rfl ?_) | (refine zbb aA rfl rfl ?_) | (refine zbc aA rfl ?_) | (refine za9 aA (evO_ok rfl) ?_)) | (refine zby _ _ rfl rfl rfl rfl ?_) | (refine zcc _ rfl rfl ?_) | (refine zas (hK _ _ (.inl rfl) ?_); clear hK K) | (refine zas (hK _ _ (.inr (by kernel_rfl)) ?_); clear hK K))
      | (refine za4 ?_; first | (refine zbq ?_) | (refine zad (fun K hK => ?_)) | (refine zao ?_) | (refine za2 ?_) | (refine zbr ?_) | (refine za3 ?_) | (refine zbl ?_; first | (refine zam rfl aD ?_) | (refine zal rfl aD ?_) | (refine zaz rfl (fun h => ?_) (fun h => ?_) <;> (have h' := h; (try simp only [sx] at h')))))
      | (refine za0 ?_) | (refine zab ?_) | (refine zac ?_) | (refine zar ?_) | (refine zap ?_) | (refine zaq ?_) | (refine zan rfl ?_) | (refine zaf ?_) | (refine zag ?_) | (refine zbs ?_))
          all_goals first
            | (exfalso; omega)
            | (refine zb9 (i + 1, s) rfl aW ⟨by simp only; omega, by simp only [hsum, h2, ew, Int.add_zero]⟩ (by simp only; omega))
      · rw [take_all hge] at h2
        subst h2
        repeat' (first
      | (refine za1 ?_; first | (refine za5 ?_; refine zat _ rfl ?_) | (refine zae ?_; refine zaa _ rfl ?_) | (refine zbv ?_; first | (refine zbz rfl rfl aO ?_) | (refine zbu _ rfl rfl rfl ?_) | (refine zaw _ rfl rfl rfl ?_)) | (refine g_un ?_; first | (refine zce rfl ?_) | (refine zcd rfl aO ?_)) | (refine zbk ?_; first | (refine zaj aA rfl ?_) | (refine zak _ aA rfl rfl aE rfl ?_) | (refine zah _ aA rfl aZ aL ?_) | (refine zai _ aA rfl rfl aE aZ aL ?_)) | (refine zbm ?_; first | (refine zax _ aA rfl aL ?_) | (refine zay _ aA rfl rfl (by simp only [lx, Nat.reduceAdd]; first | done | rfl) ?_)) | (refine zbd ?_; first | (refine zau _ aA rfl rfl aO aA ?_) | (refine zav _ aA rfl rfl rfl rfl aO aO (by first | (rw [Nat.zero_add, Int.toNat_natCast]) | (rw [Nat.zero_add]) | rfl) ?_)) | (refine zbx ?_; first | (refine zbf rfl aD rfl ?_) | (refine zbh rfl aD ?_) | (refine zbi rfl aD ?_) | (refine zbg rfl aD rfl ?_)) | (refine zbp ?_; first | (refine zbw rfl rfl aD ?_) | (refine zb4 rfl rfl aD ?_) | (refine zb5 rfl rfl ?_) | (refine zbj rfl rfl (fun h => ?_) (fun h => ?_) <;> (have h' := h; (try simp only [sx] at h')))) | (refine za7 ?_; first | (refine za8 true (kA) rfl rfl rfl aS rfl aH ?_; simp only [cl]) | (refine za8 true (kR) rfl rfl rfl aS rfl aH ?_; simp only [cl]) | (refine zba aA rfl ?_) | (refine zbb aA rfl rfl ?_) | (refine zbc aA rfl ?_) | (refine za9 aA (evO_ok rfl) ?_)) | (refine zby _ _ rfl rfl rfl rfl ?_) | (refine zcc _ rfl rfl ?_) | (refine zas (hK _ _ (.inl rfl) ?_); clear hK K) | (refine zas (hK _ _ (.inr (by kernel_rfl)) ?_); clear hK K))
      | (refine za4 ?_; first | (refine zbq ?_) | (refine zad (fun K hK => ?_)) | (refine zao ?_) | (refine za2 ?_) | (refine zbr ?_) | (refine za3 ?_) | (refine zbl ?_; first | (refine zam rfl aD ?_) | (refine zal rfl aD ?_) | (refine zaz rfl (fun h => ?_) (fun h => ?_) <;> (have h' := h; (try simp only [sx] at h')))))
      | (refine za0 ?_) | (refine zab ?_) | (refine zac ?_) | (refine zar ?_) | (refine zap ?_) | (refine zaq ?_) | (refine zan rfl ?_) | (refine zaf ?_) | (refine zag ?_) | (refine zbs ?_))
        all_goals first
          | (exfalso; omega)
          | exact aR
    · have hok : ¬ EaOk e k n := fun h => hx h.2.2
      rw [fr3_f hok]
      repeat' (first
      | (refine za1 ?_; first | (refine za5 ?_; refine zat _ rfl ?_) | (refine zae ?_; refine zaa _ rfl ?_) | (refine zbv ?_; first | (refine zbz rfl rfl aO ?_) | (refine zbu _ rfl rfl rfl ?_) | (refine zaw _ rfl rfl rfl ?_)) | (refine g_un ?_; first | (refine zce rfl ?_) | (refine zcd rfl aO ?_)) | (refine zbk ?_; first | (refine zaj aA rfl ?_) | (refine zak _ aA rfl rfl aE rfl ?_) | (refine zah _ aA rfl aZ aL ?_) | (refine zai _ aA rfl rfl aE aZ aL ?_)) | (refine zbm ?_; first | (refine zax _ aA rfl aL ?_) | (refine zay _ aA rfl rfl (by simp only [lx, Nat.reduceAdd]; first | done | rfl) ?_)) | (refine zbd ?_; first | (refine zau _ aA rfl rfl aO aA ?_) | (refine zav _ aA rfl rfl rfl rfl aO aO (by first | (rw [Nat.zero_add, Int.toNat_natCast]) | (rw [Nat.zero_add]) | rfl) ?_)) | (refine zbx ?_; first | (refine zbf rfl aD rfl ?_) | (refine zbh rfl aD ?_) | (refine zbi rfl aD ?_) | (refine zbg rfl aD rfl ?_)) | (refine zbp ?_; first | (refine zbw rfl rfl aD ?_) | (refine zb4 rfl rfl aD ?_) | (refine zb5 rfl rfl ?_) | (refine zbj rfl rfl (fun h => ?_) (fun h => ?_) <;> (have h' := h; (try simp only [sx] at h')))) | (refine za7 ?_; first | (refine za8 true (k1) rfl rfl rfl aS rfl aH ?_; simp only [cl]) | (refine za8 true (k2) rfl rfl rfl aS rfl aH ?_; simp only [cl]) | (refine zba aA rfl ?_) | (refine zbb aA rfl rfl ?_) | (refine zbc aA rfl ?_) | (refine za9 aA (evO_ok rfl) ?_)) | (refine zby _ _ rfl rfl rfl rfl ?_) | (refine zcc _ rfl rfl ?_) | (refine zas (hK _ _ (.inl rfl) ?_); clear hK K) | (refine zas (hK _ _ (.inr (by kernel_rfl)) ?_); clear hK K))
      | (refine za4 ?_; first | (refine zbq ?_) | (refine zad (fun K hK => ?_)) | (refine zao ?_) | (refine za2 ?_) | (refine zbr ?_) | (refine za3 ?_) | (refine zbl ?_; first | (refine zam rfl aD ?_) | (refine zal rfl aD ?_) | (refine zaz rfl (fun h => ?_) (fun h => ?_) <;> (have h' := h; (try simp only [sx] at h')))))
      | (refine za0 ?_) | (refine zab ?_) | (refine zac ?_) | (refine zar ?_) | (refine zap ?_) | (refine zaq ?_) | (refine zan rfl ?_) | (refine zaf ?_) | (refine zag ?_) | (refine zbs ?_))
      all_goals first
        | (exfalso; omega)
        | (exfalso; simp at *; done)
        | exact aR
  · rw [decide_eq_false hE] at k1
    have hok : ¬ EaOk e k n := fun h => hE h.1
    rw [fr3_f hok]
    repeat' (first
      | (refine za1 ?_; first | (refine za5 ?_; refine zat _ rfl ?_) | (refine zae ?_; refine zaa _ rfl ?_) | (refine zbv ?_; first | (refine zbz rfl rfl aO ?_) | (refine zbu _ rfl rfl rfl ?_) | (refine zaw _ rfl rfl rfl ?_)) | (refine g_un ?_; first | (refine zce rfl ?_) | (refine zcd rfl aO ?_)) | (refine zbk ?_; first | (refine zaj aA rfl ?_) | (refine zak _ aA rfl rfl aE rfl ?_) | (refine zah _ aA rfl aZ aL ?_) | (refine zai _ aA rfl rfl aE aZ aL ?_)) | (refine zbm ?_; first | (refine zax _ aA rfl aL ?_) | (refine zay _ aA rfl rfl (by simp only [lx, Nat.reduceAdd]; first | done | rfl) ?_)) | (refine zbd ?_; first | (refine zau _ aA rfl rfl aO aA ?_) | (refine zav _ aA rfl rfl rfl rfl aO aO (by first | (rw [Nat.zero_add, Int.toNat_natCast]) | (rw [Nat.zero_add]) | rfl) ?_)) | (refine zbx ?_; first | (refine zbf rfl aD rfl ?_) | (refine zbh rfl aD ?_) | (refine zbi rfl aD ?_) | (refine zbg rfl aD rfl ?_)) | (refine zbp ?_; first | (refine zbw rfl rfl aD ?_) | (refine zb4 rfl rfl aD ?_) | (refine zb5 rfl rfl ?_) | (refine zbj rfl rfl (fun h => ?_) (fun h => ?_) <;> (have h' := h; (try simp only [sx] at h')))) | (refine za7 ?_; first | (refine za8 true (k1) rfl rfl rfl aS rfl aH ?_; simp only [cl]) | (refine za8 true (k2) rfl rfl rfl aS rfl aH ?_; simp only [cl]) | (refine zba aA rfl ?_) | (refine zbb aA rfl rfl ?_) | (refine zbc aA rfl ?_) | (refine za9 aA (evO_ok rfl) ?_)) | (refine zby _ _ rfl rfl rfl rfl ?_) | (refine zcc _ rfl rfl ?_) | (refine zas (hK _ _ (.inl rfl) ?_); clear hK K) | (refine zas (hK _ _ (.inr (by kernel_rfl)) ?_); clear hK K))
      | (refine za4 ?_; first | (refine zbq ?_) | (refine zad (fun K hK => ?_)) | (refine zao ?_) | (refine za2 ?_) | (refine zbr ?_) | (refine za3 ?_) | (refine zbl ?_; first | (refine zam rfl aD ?_) | (refine zal rfl aD ?_) | (refine zaz rfl (fun h => ?_) (fun h => ?_) <;> (have h' := h; (try simp only [sx] at h')))))
      | (refine za0 ?_) | (refine zab ?_) | (refine zac ?_) | (refine zar ?_) | (refine zap ?_) | (refine zaq ?_) | (refine zan rfl ?_) | (refine zaf ?_) | (refine zag ?_) | (refine zbs ?_))
    all_goals first
      | (exfalso; omega)
      | (exfalso; simp at *; done)
      | exact aR
noncomputable def wsB (e : Ens) (k : Int) : Int := Classical.choose (worst_ex e k e.L.length (Nat.le_refl _))
noncomputable def wsM (e : Ens) (k : Int) : Int := Classical.choose (Classical.choose_spec (worst_ex e k e.L.length (Nat.le_refl _)))
theorem ws_is (e : Ens) (k : Int) : Worst e k e.L.length (wsB e k) (wsM e k) := Classical.choose_spec (Classical.choose_spec (worst_ex e k e.L.length (Nat.le_refl _)))
noncomputable def wsRes (e : Ens) (k : Int) : PV := .tuple [.int .i64 (if opB (EkOk e k) = true then wsB e k else 0), .int .i64 (if opB (EkOk e k) = true then wsM e k else 0), .bool (opB (EkOk e k))]
theorem wsRes_t {e : Ens} {k : Int} (h : EkOk e k) : wsRes e k = .tuple [.int .i64 (wsB e k), .int .i64 (wsM e k), .bool true] := by unfold wsRes; rw [opB_t h, if_pos rfl, if_pos rfl]
theorem wsRes_f {e : Ens} {k : Int} (h : ¬ EkOk e k) : wsRes e k = .tuple [.int .i64 0, .int .i64 0, .bool false] := by unfold wsRes; rw [opB_f h, if_neg (by simp), if_neg (by simp)]
theorem k_iWorst (e : Ens) (z : SzE e) (k : Int) : Con Try.prog 42 [.agg e.t.pv, .list 2 (e.L.map Scen.pv), .list 1 (ints e.src), .int .i64 e.st, .int .i64 k] (wsRes e k) := by
  intro al
  refine za6 hmix Try.func42 rfl (by kernel_rfl) (by kernel_rfl) (Nat.le_of_ble_eq_true rfl) (fun row h => by cases h) ?_
  have hty_a26 := ty_a26
  have hty_u51 := ty_u51
  have hty_s51 := ty_s51
  have hty_u24 := ty_u24
  have hty_s24 := ty_s24
  have hty_a56 := ty_a56
  have hty_z56 := ty_z56
  have hty_t56 := ty_t56
  have hty_f56_0 := ty_f56_0
  have hty_c27 := ty_c27
  have hty_u27 := ty_u27
  have hty_s27 := ty_s27
  have hl1 : (e.L.map Scen.pv).length = e.L.length := by simp
  have hzn := z.hn
  have k1 := k_isBlaze e z
  have k2 := k_isTick k
  by_cases hE : GoodEn e
  · rw [decide_eq_true hE] at k1
    have hlen := goodT_len hE.1.1
    have hL := hE.2.1
    have hl4 := hL.2
    have hwb := wtL_bnd hL
    by_cases hk : 0 ≤ k ∧ k ≤ 9999
    · skip
      have hok : EkOk e k := ⟨hE, hk⟩
      rw [wsRes_t hok]
      repeat' (first
      | (refine za1 ?_; first | (refine za5 ?_; refine zat _ rfl ?_) | (refine zae ?_; refine zaa _ rfl ?_) | (refine zbv ?_; first | (refine zbz rfl rfl aO ?_) | (refine zbu _ rfl rfl rfl ?_) | (refine zaw _ rfl rfl rfl ?_)) | (refine g_un ?_; first | (refine zce rfl ?_) | (refine zcd rfl aO ?_)) | (refine zbk ?_; first | (refine zaj aA rfl ?_) | (refine zak _ aA rfl rfl aE rfl ?_) | (refine zah _ aA rfl aZ aL ?_) | (refine zai _ aA rfl rfl aE aZ aL ?_)) | (refine zbm ?_; first | (refine zax _ aA rfl aL ?_) | (refine zay _ aA rfl rfl (by simp only [lx, Nat.reduceAdd]; first | done | rfl) ?_)) | (refine zbd ?_; first | (refine zau _ aA rfl rfl aO aA ?_) | (refine zav _ aA rfl rfl rfl rfl aO aO (by first | (rw [Nat.zero_add, Int.toNat_natCast]) | (rw [Nat.zero_add]) | rfl) ?_)) | (refine zbx ?_; first | (refine zbf rfl aD rfl ?_) | (refine zbh rfl aD ?_) | (refine zbi rfl aD ?_) | (refine zbg rfl aD rfl ?_)) | (refine zbp ?_; first | (refine zbw rfl rfl aD ?_) | (refine zb4 rfl rfl aD ?_) | (refine zb5 rfl rfl ?_) | (refine zbj rfl rfl (fun h => ?_) (fun h => ?_) <;> (have h' := h; (try simp only [sx] at h')))) | (refine za7 ?_; first | (refine za8 true (k1) rfl rfl rfl aS rfl aH ?_; simp only [cl]) | (refine za8 true (k2) rfl rfl rfl aS rfl aH ?_; simp only [cl]) | (refine zba aA rfl ?_) | (refine zbb aA rfl rfl ?_) | (refine zbc aA rfl ?_) | (refine za9 aA (evO_ok rfl) ?_)) | (refine zby _ _ rfl rfl rfl rfl ?_) | (refine zca _ aA rfl ?_) | (refine zb2 aA rfl ?_) | (refine zbn _ _ _ rfl rfl aE (by first | assumption | (exact TAgg.size aA)) rfl rfl rfl aZ rfl aL (by first | (first | (simp only [lx, Nat.reduceAdd]; first | done | rfl) | fail) | rfl) ?_) | (refine zas (hK _ _ (.inl rfl) ?_); clear hK K) | (refine zas (hK _ _ (.inr (by kernel_rfl)) ?_); clear hK K))
      | (refine za4 ?_; first | (refine zbq ?_) | (refine zad (fun K hK => ?_)) | (refine zao ?_) | (refine za2 ?_) | (refine zbr ?_) | (refine za3 ?_) | (refine zbl ?_; first | (refine zam rfl aD ?_) | (refine zal rfl aD ?_) | (refine zaz rfl (fun h => ?_) (fun h => ?_) <;> (have h' := h; (try simp only [sx] at h')))))
      | (refine za0 ?_) | (refine zab ?_) | (refine zac ?_) | (refine zar ?_) | (refine zap ?_) | (refine zaq ?_) | (refine zan rfl ?_) | (refine zaf ?_) | (refine zag ?_) | (refine zbs ?_))
      all_goals try (exfalso; omega)
      all_goals try (exfalso; simp at *; done)
      refine zcf [2, 3, 4, 5, 29, 30] [] (fun q : Nat × Int × Int => [(13, .int .i64 q.2.1), (14, .int .i64 q.2.2), (31, .int .i64 q.1)]) (fun q : Nat × Int × Int => []) (fun q : Nat × Int × Int => q.1 ≤ e.L.length ∧ Worst e k q.1 q.2.1 q.2.2) (fun q : Nat × Int × Int => e.L.length - q.1) ((0, 0, -1)) rfl rfl (fun _ => rfl) (fun _ => rfl) rfl aW ⟨by simp, ⟨fun _ => ⟨rfl, rfl⟩, fun h => absurd h (by simp), fun j s hj => absurd hj (by simp), by simp, fun j s hj => by simp at hj; omega⟩⟩ (fun q hq => ?_)
      obtain ⟨i, b, m⟩ := q
      obtain ⟨h1, hW⟩ := hq
      simp only at h1 hW
      dsimp only
      rcases Nat.lt_or_ge i e.L.length with hlt | hge
      · obtain ⟨a, hga⟩ := get_ex hlt
        have hx := Scen.at hga
        have kB := (k_iBurnedS e hE z k (get_mem hga)).frzF (ints_flat _)
        have hbl := bu_len hE k (get_mem hga)
        have hbl2 : (ints (buS e k a)).length = (buS e k a).length := by simp
        have hst := worst_step hW hga
        by_cases hgt : ((buS e k a).length : Int) > m
        · have hst2 := hst.1 hgt; clear hst
          rw [← hbl2] at hgt hst2
          generalize buS e k a = B at *
          repeat' (first
      | (refine za1 ?_; first | (refine za5 ?_; refine zat _ rfl ?_) | (refine zae ?_; refine zaa _ rfl ?_) | (refine zbv ?_; first | (refine zbz rfl rfl aO ?_) | (refine zbu _ rfl rfl rfl ?_) | (refine zaw _ rfl rfl rfl ?_)) | (refine g_un ?_; first | (refine zce rfl ?_) | (refine zcd rfl aO ?_)) | (refine zbk ?_; first | (refine zaj aA rfl ?_) | (refine zak _ aA rfl rfl aE rfl ?_) | (refine zah _ aA rfl aZ aL ?_) | (refine zai _ aA rfl rfl aE aZ aL ?_)) | (refine zbm ?_; first | (refine zax _ aA rfl aL ?_) | (refine zay _ aA rfl rfl (by simp only [lx, Nat.reduceAdd]; first | done | rfl) ?_)) | (refine zbd ?_; first | (refine zau _ aA rfl rfl aO aA ?_) | (refine zav _ aA rfl rfl rfl rfl aO aO (by first | (rw [Nat.zero_add, Int.toNat_natCast]) | (rw [Nat.zero_add]) | rfl) ?_)) | (refine zbx ?_; first | (refine zbf rfl aD rfl ?_) | (refine zbh rfl aD ?_) | (refine zbi rfl aD ?_) | (refine zbg rfl aD rfl ?_)) | (refine zbp ?_; first | (refine zbw rfl rfl aD ?_) | (refine zb4 rfl rfl aD ?_) | (refine zb5 rfl rfl ?_) | (refine zbj rfl rfl (fun h => ?_) (fun h => ?_) <;> (have h' := h; (try simp only [sx] at h')))) | (refine za7 ?_; first | (refine za8 true (kB) rfl rfl rfl aS rfl aH ?_; simp only [cl]) | (refine zba aA rfl ?_) | (refine zbb aA rfl rfl ?_) | (refine zbc aA rfl ?_) | (refine za9 aA (evO_ok rfl) ?_)) | (refine zby _ _ rfl rfl rfl rfl ?_) | (refine zca _ aA rfl ?_) | (refine zb2 aA rfl ?_) | (refine zbn _ _ _ rfl rfl aE (by first | assumption | (exact TAgg.size aA)) rfl rfl rfl aZ rfl aL (by first | (first | (simp only [lx, Nat.reduceAdd]; first | done | rfl) | fail) | rfl) ?_) | (refine zas (hK _ _ (.inl rfl) ?_); clear hK K) | (refine zas (hK _ _ (.inr (by kernel_rfl)) ?_); clear hK K))
      | (refine za4 ?_; first | (refine zbq ?_) | (refine zad (fun K hK => ?_)) | (refine zao ?_) | (refine za2 ?_) | (refine zbr ?_) | (refine za3 ?_) | (refine zbl ?_; first | (refine zam rfl aD ?_) | (refine zal rfl aD ?_) | (refine zaz rfl (fun h => ?_) (fun h => ?_) <;> (have h' := h; (try simp only [sx] at h')))))
      | (refine za0 ?_) | (refine zab ?_) | (refine zac ?_) | (refine zar ?_) | (refine zap ?_) | (refine zaq ?_) | (refine zan rfl ?_) | (refine zaf ?_) | (refine zag ?_) | (refine zbs ?_))
          all_goals first
            | (exfalso; omega)
            | (refine zb9 (i + 1, (i : Int), ((ints B).length : Int)) rfl aW ⟨by simp only; omega, hst2⟩ (by simp only; omega))
        · have hst2 := hst.2 hgt; clear hst
          rw [← hbl2] at hgt
          generalize buS e k a = B at *
          repeat' (first
      | (refine za1 ?_; first | (refine za5 ?_; refine zat _ rfl ?_) | (refine zae ?_; refine zaa _ rfl ?_) | (refine zbv ?_; first | (refine zbz rfl rfl aO ?_) | (refine zbu _ rfl rfl rfl ?_) | (refine zaw _ rfl rfl rfl ?_)) | (refine g_un ?_; first | (refine zce rfl ?_) | (refine zcd rfl aO ?_)) | (refine zbk ?_; first | (refine zaj aA rfl ?_) | (refine zak _ aA rfl rfl aE rfl ?_) | (refine zah _ aA rfl aZ aL ?_) | (refine zai _ aA rfl rfl aE aZ aL ?_)) | (refine zbm ?_; first | (refine zax _ aA rfl aL ?_) | (refine zay _ aA rfl rfl (by simp only [lx, Nat.reduceAdd]; first | done | rfl) ?_)) | (refine zbd ?_; first | (refine zau _ aA rfl rfl aO aA ?_) | (refine zav _ aA rfl rfl rfl rfl aO aO (by first | (rw [Nat.zero_add, Int.toNat_natCast]) | (rw [Nat.zero_add]) | rfl) ?_)) | (refine zbx ?_; first | (refine zbf rfl aD rfl ?_) | (refine zbh rfl aD ?_) | (refine zbi rfl aD ?_) | (refine zbg rfl aD rfl ?_)) | (refine zbp ?_; first | (refine zbw rfl rfl aD ?_) | (refine zb4 rfl rfl aD ?_) | (refine zb5 rfl rfl ?_) | (refine zbj rfl rfl (fun h => ?_) (fun h => ?_) <;> (have h' := h; (try simp only [sx] at h')))) | (refine za7 ?_; first | (refine za8 true (kB) rfl rfl rfl aS rfl aH ?_; simp only [cl]) | (refine zba aA rfl ?_) | (refine zbb aA rfl rfl ?_) | (refine zbc aA rfl ?_) | (refine za9 aA (evO_ok rfl) ?_)) | (refine zby _ _ rfl rfl rfl rfl ?_) | (refine zca _ aA rfl ?_) | (refine zb2 aA rfl ?_) | (refine zbn _ _ _ rfl rfl aE (by first | assumption | (exact TAgg.size aA)) rfl rfl rfl aZ rfl aL (by first | (first | (simp only [lx, Nat.reduceAdd]; first | done | rfl) | fail) | rfl) ?_) | (refine zas (hK _ _ (.inl rfl) ?_); clear hK K) | (refine zas (hK _ _ (.inr (by kernel_rfl)) ?_); clear hK K))
      | (refine za4 ?_; first | (refine zbq ?_) | (refine zad (fun K hK => ?_)) | (refine zao ?_) | (refine za2 ?_) | (refine zbr ?_) | (refine za3 ?_) | (refine zbl ?_; first | (refine zam rfl aD ?_) | (refine zal rfl aD ?_) | (refine zaz rfl (fun h => ?_) (fun h => ?_) <;> (have h' := h; (try simp only [sx] at h')))))
      | (refine za0 ?_) | (refine zab ?_) | (refine zac ?_) | (refine zar ?_) | (refine zap ?_) | (refine zaq ?_) | (refine zan rfl ?_) | (refine zaf ?_) | (refine zag ?_) | (refine zbs ?_))
          all_goals first
            | (exfalso; omega)
            | (refine zb9 (i + 1, b, m) rfl aW ⟨by simp only; omega, hst2⟩ (by simp only; omega))
      · have hin : i = e.L.length := by omega
        subst hin
        obtain ⟨rfl, rfl⟩ := worst_eq hW (ws_is e k)
        repeat' (first
      | (refine za1 ?_; first | (refine za5 ?_; refine zat _ rfl ?_) | (refine zae ?_; refine zaa _ rfl ?_) | (refine zbv ?_; first | (refine zbz rfl rfl aO ?_) | (refine zbu _ rfl rfl rfl ?_) | (refine zaw _ rfl rfl rfl ?_)) | (refine g_un ?_; first | (refine zce rfl ?_) | (refine zcd rfl aO ?_)) | (refine zbk ?_; first | (refine zaj aA rfl ?_) | (refine zak _ aA rfl rfl aE rfl ?_) | (refine zah _ aA rfl aZ aL ?_) | (refine zai _ aA rfl rfl aE aZ aL ?_)) | (refine zbm ?_; first | (refine zax _ aA rfl aL ?_) | (refine zay _ aA rfl rfl (by simp only [lx, Nat.reduceAdd]; first | done | rfl) ?_)) | (refine zbd ?_; first | (refine zau _ aA rfl rfl aO aA ?_) | (refine zav _ aA rfl rfl rfl rfl aO aO (by first | (rw [Nat.zero_add, Int.toNat_natCast]) | (rw [Nat.zero_add]) | rfl) ?_)) | (refine zbx ?_; first | (refine zbf rfl aD rfl ?_) | (refine zbh rfl aD ?_) | (refine zbi rfl aD ?_) | (refine zbg rfl aD rfl ?_)) | (refine zbp ?_; first | (refine zbw rfl rfl aD ?_) | (refine zb4 rfl rfl aD ?_) | (refine zb5 rfl rfl ?_) | (refine zbj rfl rfl (fun h => ?_) (fun h => ?_) <;> (have h' := h; (try simp only [sx] at h')))) | (refine za7 ?_; first | (refine zba aA rfl ?_) | (refine zbb aA rfl rfl ?_) | (refine zbc aA rfl ?_) | (refine za9 aA (evO_ok rfl) ?_)) | (refine zby _ _ rfl rfl rfl rfl ?_) | (refine zca _ aA rfl ?_) | (refine zb2 aA rfl ?_) | (refine zbn _ _ _ rfl rfl aE (by first | assumption | (exact TAgg.size aA)) rfl rfl rfl aZ rfl aL (by first | (first | (simp only [lx, Nat.reduceAdd]; first | done | rfl) | fail) | rfl) ?_) | (refine zas (hK _ _ (.inl rfl) ?_); clear hK K) | (refine zas (hK _ _ (.inr (by kernel_rfl)) ?_); clear hK K))
      | (refine za4 ?_; first | (refine zbq ?_) | (refine zad (fun K hK => ?_)) | (refine zao ?_) | (refine za2 ?_) | (refine zbr ?_) | (refine za3 ?_) | (refine zbl ?_; first | (refine zam rfl aD ?_) | (refine zal rfl aD ?_) | (refine zaz rfl (fun h => ?_) (fun h => ?_) <;> (have h' := h; (try simp only [sx] at h')))))
      | (refine za0 ?_) | (refine zab ?_) | (refine zac ?_) | (refine zar ?_) | (refine zap ?_) | (refine zaq ?_) | (refine zan rfl ?_) | (refine zaf ?_) | (refine zag ?_) | (refine zbs ?_))
        all_goals first
          | (exfalso; omega)
          | exact aR
    · have hok : ¬ EkOk e k := fun h => hk h.2
      rw [wsRes_f hok]
      repeat' (first
      | (refine za1 ?_; first | (refine za5 ?_; refine zat _ rfl ?_) | (refine zae ?_; refine zaa _ rfl ?_) | (refine zbv ?_; first | (refine zbz rfl rfl aO ?_) | (refine zbu _ rfl rfl rfl ?_) | (refine zaw _ rfl rfl rfl ?_)) | (refine g_un ?_; first | (refine zce rfl ?_) | (refine zcd rfl aO ?_)) | (refine zbk ?_; first | (refine zaj aA rfl ?_) | (refine zak _ aA rfl rfl aE rfl ?_) | (refine zah _ aA rfl aZ aL ?_) | (refine zai _ aA rfl rfl aE aZ aL ?_)) | (refine zbm ?_; first | (refine zax _ aA rfl aL ?_) | (refine zay _ aA rfl rfl (by simp only [lx, Nat.reduceAdd]; first | done | rfl) ?_)) | (refine zbd ?_; first | (refine zau _ aA rfl rfl aO aA ?_) | (refine zav _ aA rfl rfl rfl rfl aO aO (by first | (rw [Nat.zero_add, Int.toNat_natCast]) | (rw [Nat.zero_add]) | rfl) ?_)) | (refine zbx ?_; first | (refine zbf rfl aD rfl ?_) | (refine zbh rfl aD ?_) | (refine zbi rfl aD ?_) | (refine zbg rfl aD rfl ?_)) | (refine zbp ?_; first | (refine zbw rfl rfl aD ?_) | (refine zb4 rfl rfl aD ?_) | (refine zb5 rfl rfl ?_) | (refine zbj rfl rfl (fun h => ?_) (fun h => ?_) <;> (have h' := h; (try simp only [sx] at h')))) | (refine za7 ?_; first | (refine za8 true (k1) rfl rfl rfl aS rfl aH ?_; simp only [cl]) | (refine za8 true (k2) rfl rfl rfl aS rfl aH ?_; simp only [cl]) | (refine zba aA rfl ?_) | (refine zbb aA rfl rfl ?_) | (refine zbc aA rfl ?_) | (refine za9 aA (evO_ok rfl) ?_)) | (refine zby _ _ rfl rfl rfl rfl ?_) | (refine zca _ aA rfl ?_) | (refine zb2 aA rfl ?_) | (refine zbn _ _ _ rfl rfl aE (by first | assumption | (exact TAgg.size aA)) rfl rfl rfl aZ rfl aL (by first | (first | (simp only [lx, Nat.reduceAdd]; first | done | rfl) | fail) | rfl) ?_) | (refine zas (hK _ _ (.inl rfl) ?_); clear hK K) | (refine zas (hK _ _ (.inr (by kernel_rfl)) ?_); clear hK K))
      | (refine za4 ?_; first | (refine zbq ?_) | (refine zad (fun K hK => ?_)) | (refine zao ?_) | (refine za2 ?_) | (refine zbr ?_) | (refine za3 ?_) | (refine zbl ?_; first | (refine zam rfl aD ?_) | (refine zal rfl aD ?_) | (refine zaz rfl (fun h => ?_) (fun h => ?_) <;> (have h' := h; (try simp only [sx] at h')))))
      | (refine za0 ?_) | (refine zab ?_) | (refine zac ?_) | (refine zar ?_) | (refine zap ?_) | (refine zaq ?_) | (refine zan rfl ?_) | (refine zaf ?_) | (refine zag ?_) | (refine zbs ?_))
      all_goals first
        | (exfalso; omega)
        | (exfalso; simp at *; done)
        | exact aR
  · rw [decide_eq_false hE] at k1
    have hok : ¬ EkOk e k := fun h => hE h.1
    rw [wsRes_f hok]
    repeat' (first
      | (refine za1 ?_; first | (refine za5 ?_; refine zat _ rfl ?_) | (refine zae ?_; refine zaa _ rfl ?_) | (refine zbv ?_; first | (refine zbz rfl rfl aO ?_) | (refine zbu _ rfl rfl rfl ?_) | (refine zaw _ rfl rfl rfl ?_)) | (refine g_un ?_; first | (refine zce rfl ?_) | (refine zcd rfl aO ?_)) | (refine zbk ?_; first | (refine zaj aA rfl ?_) | (refine zak _ aA rfl rfl aE rfl ?_) | (refine zah _ aA rfl aZ aL ?_) | (refine zai _ aA rfl rfl aE aZ aL ?_)) | (refine zbm ?_; first | (refine zax _ aA rfl aL ?_) | (refine zay _ aA rfl rfl (by simp only [lx, Nat.reduceAdd]; first | done | rfl) ?_)) | (refine zbd ?_; first | (refine zau _ aA rfl rfl aO aA ?_) | (refine zav _ aA rfl rfl rfl rfl aO aO (by first | (rw [Nat.zero_add, Int.toNat_natCast]) | (rw [Nat.zero_add]) | rfl) ?_)) | (refine zbx ?_; first | (refine zbf rfl aD rfl ?_) | (refine zbh rfl aD ?_) | (refine zbi rfl aD ?_) | (refine zbg rfl aD rfl ?_)) | (refine zbp ?_; first | (refine zbw rfl rfl aD ?_) | (refine zb4 rfl rfl aD ?_) | (refine zb5 rfl rfl ?_) | (refine zbj rfl rfl (fun h => ?_) (fun h => ?_) <;> (have h' := h; (try simp only [sx] at h')))) | (refine za7 ?_; first | (refine za8 true (k1) rfl rfl rfl aS rfl aH ?_; simp only [cl]) | (refine za8 true (k2) rfl rfl rfl aS rfl aH ?_; simp only [cl]) | (refine zba aA rfl ?_) | (refine zbb aA rfl rfl ?_) | (refine zbc aA rfl ?_) | (refine za9 aA (evO_ok rfl) ?_)) | (refine zby _ _ rfl rfl rfl rfl ?_) | (refine zca _ aA rfl ?_) | (refine zb2 aA rfl ?_) | (refine zbn _ _ _ rfl rfl aE (by first | assumption | (exact TAgg.size aA)) rfl rfl rfl aZ rfl aL (by first | (first | (simp only [lx, Nat.reduceAdd]; first | done | rfl) | fail) | rfl) ?_) | (refine zas (hK _ _ (.inl rfl) ?_); clear hK K) | (refine zas (hK _ _ (.inr (by kernel_rfl)) ?_); clear hK K))
      | (refine za4 ?_; first | (refine zbq ?_) | (refine zad (fun K hK => ?_)) | (refine zao ?_) | (refine za2 ?_) | (refine zbr ?_) | (refine za3 ?_) | (refine zbl ?_; first | (refine zam rfl aD ?_) | (refine zal rfl aD ?_) | (refine zaz rfl (fun h => ?_) (fun h => ?_) <;> (have h' := h; (try simp only [sx] at h')))))
      | (refine za0 ?_) | (refine zab ?_) | (refine zac ?_) | (refine zar ?_) | (refine zap ?_) | (refine zaq ?_) | (refine zan rfl ?_) | (refine zaf ?_) | (refine zag ?_) | (refine zbs ?_))
    all_goals first
      | (exfalso; omega)
      | (exfalso; simp at *; done)
      | exact aR
theorem k_sWorst (e : Ens) (z : SzE e) (k : Int) : Con Try.prog 43 [.agg e.t.pv, .list 2 (e.L.map Scen.pv), .list 1 (ints e.src), .int .i64 e.st, .int .i64 k] (wsRes e k) := by
  intro al
  refine za6 hmix Try.func43 rfl (by kernel_rfl) (by kernel_rfl) (Nat.le_of_ble_eq_true rfl) (fun row h => by cases h) ?_
  have hty_a26 := ty_a26
  have hty_u51 := ty_u51
  have hty_s51 := ty_s51
  have hty_u24 := ty_u24
  have hty_s24 := ty_s24
  have hty_a56 := ty_a56
  have hl1 : (e.L.map Scen.pv).length = e.L.length := by simp
  have hzn := z.hn
  have k1 := k_l8Asked e z
  have k2 := k_l4Tick k
  by_cases hE : GoodEn e
  · rw [decide_eq_true hE] at k1
    have hlen := goodT_len hE.1.1
    have hL := hE.2.1
    have hl4 := hL.2
    have hwb := wtL_bnd hL
    by_cases hk : 0 ≤ k ∧ k ≤ 9999
    · skip
      have hok : EkOk e k := ⟨hE, hk⟩
      rw [wsRes_t hok]
      repeat' (first
      | (refine za1 ?_; first | (refine za5 ?_; refine zat _ rfl ?_) | (refine zae ?_; refine zaa _ rfl ?_) | (refine zbv ?_; first | (refine zbz rfl rfl aO ?_) | (refine zbu _ rfl rfl rfl ?_) | (refine zaw _ rfl rfl rfl ?_)) | (refine g_un ?_; first | (refine zce rfl ?_) | (refine zcd rfl aO ?_)) | (refine zbk ?_; first | (refine zaj aA rfl ?_) | (refine zak _ aA rfl rfl aE rfl ?_) | (refine zah _ aA rfl aZ aL ?_) | (refine zai _ aA rfl rfl aE aZ aL ?_)) | (refine zbd ?_; first | (refine zau _ aA rfl rfl aO aA ?_) | (refine zav _ aA rfl rfl rfl rfl aO aO (by first | (rw [Nat.zero_add, Int.toNat_natCast]) | (rw [Nat.zero_add]) | rfl) ?_)) | (refine zbx ?_; first | (refine zbf rfl aD rfl ?_) | (refine zbh rfl aD ?_) | (refine zbi rfl aD ?_) | (refine zbg rfl aD rfl ?_)) | (refine zbp ?_; first | (refine zbw rfl rfl aD ?_) | (refine zb4 rfl rfl aD ?_) | (refine zb5 rfl rfl ?_) | (refine zbj rfl rfl (fun h => ?_) (fun h => ?_) <;> (have h' := h; (try simp only [sx] at h')))) | (refine za7 ?_; first | (refine za8 true (k1) rfl rfl rfl aS rfl aH ?_; simp only [cl]) | (refine za8 true (k2) rfl rfl rfl aS rfl aH ?_; simp only [cl]) | (refine zba aA rfl ?_) | (refine zbb aA rfl rfl ?_) | (refine zbc aA rfl ?_) | (refine za9 aA (evO_ok rfl) ?_)) | (refine zby _ _ rfl rfl rfl rfl ?_) | (refine zas (hK _ _ (.inl rfl) ?_); clear hK K) | (refine zas (hK _ _ (.inr (by kernel_rfl)) ?_); clear hK K))
      | (refine za4 ?_; first | (refine zbq ?_) | (refine zad (fun K hK => ?_)) | (refine zao ?_) | (refine za2 ?_) | (refine zbr ?_) | (refine za3 ?_) | (refine zbl ?_; first | (refine zam rfl aD ?_) | (refine zal rfl aD ?_) | (refine zaz rfl (fun h => ?_) (fun h => ?_) <;> (have h' := h; (try simp only [sx] at h')))))
      | (refine za0 ?_) | (refine zab ?_) | (refine zac ?_) | (refine zar ?_) | (refine zap ?_) | (refine zaq ?_) | (refine zan rfl ?_) | (refine zaf ?_) | (refine zag ?_) | (refine zbs ?_))
      all_goals try (exfalso; omega)
      all_goals try (exfalso; simp at *; done)
      refine zcf [1, 2, 3, 4, 5] [] (fun q : Nat × Int × Int => [(13, .int .i64 q.2.1), (14, .int .i64 q.2.2), (15, .int .i64 q.1)]) (fun q : Nat × Int × Int => []) (fun q : Nat × Int × Int => q.1 ≤ e.L.length ∧ Worst e k q.1 q.2.1 q.2.2) (fun q : Nat × Int × Int => e.L.length - q.1) ((0, 0, -1)) rfl rfl (fun _ => rfl) (fun _ => rfl) rfl aW ⟨by simp, ⟨fun _ => ⟨rfl, rfl⟩, fun h => absurd h (by simp), fun j s hj => absurd hj (by simp), by simp, fun j s hj => by simp at hj; omega⟩⟩ (fun q hq => ?_)
      obtain ⟨i, b, m⟩ := q
      obtain ⟨h1, hW⟩ := hq
      simp only at h1 hW
      dsimp only
      rcases Nat.lt_or_ge i e.L.length with hlt | hge
      · obtain ⟨a, hga⟩ := get_ex hlt
        have hx := Scen.at hga
        have kB := (k_l8Burned e hE z k (get_mem hga)).frzF (ints_flat _)
        have hbl := bu_len hE k (get_mem hga)
        have hbl2 : (ints (buS e k a)).length = (buS e k a).length := by simp
        have hst := worst_step hW hga
        by_cases hgt : ((buS e k a).length : Int) > m
        · have hst2 := hst.1 hgt; clear hst
          rw [← hbl2] at hgt hst2
          generalize buS e k a = B at *
          repeat' (first
      | (refine za1 ?_; first | (refine za5 ?_; refine zat _ rfl ?_) | (refine zae ?_; refine zaa _ rfl ?_) | (refine zbv ?_; first | (refine zbz rfl rfl aO ?_) | (refine zbu _ rfl rfl rfl ?_) | (refine zaw _ rfl rfl rfl ?_)) | (refine g_un ?_; first | (refine zce rfl ?_) | (refine zcd rfl aO ?_)) | (refine zbk ?_; first | (refine zaj aA rfl ?_) | (refine zak _ aA rfl rfl aE rfl ?_) | (refine zah _ aA rfl aZ aL ?_) | (refine zai _ aA rfl rfl aE aZ aL ?_)) | (refine zbd ?_; first | (refine zau _ aA rfl rfl aO aA ?_) | (refine zav _ aA rfl rfl rfl rfl aO aO (by first | (rw [Nat.zero_add, Int.toNat_natCast]) | (rw [Nat.zero_add]) | rfl) ?_)) | (refine zbx ?_; first | (refine zbf rfl aD rfl ?_) | (refine zbh rfl aD ?_) | (refine zbi rfl aD ?_) | (refine zbg rfl aD rfl ?_)) | (refine zbp ?_; first | (refine zbw rfl rfl aD ?_) | (refine zb4 rfl rfl aD ?_) | (refine zb5 rfl rfl ?_) | (refine zbj rfl rfl (fun h => ?_) (fun h => ?_) <;> (have h' := h; (try simp only [sx] at h')))) | (refine za7 ?_; first | (refine za8 true (kB) rfl rfl rfl aS rfl aH ?_; simp only [cl]) | (refine zba aA rfl ?_) | (refine zbb aA rfl rfl ?_) | (refine zbc aA rfl ?_) | (refine za9 aA (evO_ok rfl) ?_)) | (refine zby _ _ rfl rfl rfl rfl ?_) | (refine zas (hK _ _ (.inl rfl) ?_); clear hK K) | (refine zas (hK _ _ (.inr (by kernel_rfl)) ?_); clear hK K))
      | (refine za4 ?_; first | (refine zbq ?_) | (refine zad (fun K hK => ?_)) | (refine zao ?_) | (refine za2 ?_) | (refine zbr ?_) | (refine za3 ?_) | (refine zbl ?_; first | (refine zam rfl aD ?_) | (refine zal rfl aD ?_) | (refine zaz rfl (fun h => ?_) (fun h => ?_) <;> (have h' := h; (try simp only [sx] at h')))))
      | (refine za0 ?_) | (refine zab ?_) | (refine zac ?_) | (refine zar ?_) | (refine zap ?_) | (refine zaq ?_) | (refine zan rfl ?_) | (refine zaf ?_) | (refine zag ?_) | (refine zbs ?_))
          all_goals first
            | (exfalso; omega)
            | (refine zb9 (i + 1, (i : Int), ((ints B).length : Int)) rfl aW ⟨by simp only; omega, hst2⟩ (by simp only; omega))
        · have hst2 := hst.2 hgt; clear hst
          rw [← hbl2] at hgt
          generalize buS e k a = B at *
          repeat' (first
      | (refine za1 ?_; first | (refine za5 ?_; refine zat _ rfl ?_) | (refine zae ?_; refine zaa _ rfl ?_) | (refine zbv ?_; first | (refine zbz rfl rfl aO ?_) | (refine zbu _ rfl rfl rfl ?_) | (refine zaw _ rfl rfl rfl ?_)) | (refine g_un ?_; first | (refine zce rfl ?_) | (refine zcd rfl aO ?_)) | (refine zbk ?_; first | (refine zaj aA rfl ?_) | (refine zak _ aA rfl rfl aE rfl ?_) | (refine zah _ aA rfl aZ aL ?_) | (refine zai _ aA rfl rfl aE aZ aL ?_)) | (refine zbd ?_; first | (refine zau _ aA rfl rfl aO aA ?_) | (refine zav _ aA rfl rfl rfl rfl aO aO (by first | (rw [Nat.zero_add, Int.toNat_natCast]) | (rw [Nat.zero_add]) | rfl) ?_)) | (refine zbx ?_; first | (refine zbf rfl aD rfl ?_) | (refine zbh rfl aD ?_) | (refine zbi rfl aD ?_) | (refine zbg rfl aD rfl ?_)) | (refine zbp ?_; first | (refine zbw rfl rfl aD ?_) | (refine zb4 rfl rfl aD ?_) | (refine zb5 rfl rfl ?_) | (refine zbj rfl rfl (fun h => ?_) (fun h => ?_) <;> (have h' := h; (try simp only [sx] at h')))) | (refine za7 ?_; first | (refine za8 true (kB) rfl rfl rfl aS rfl aH ?_; simp only [cl]) | (refine zba aA rfl ?_) | (refine zbb aA rfl rfl ?_) | (refine zbc aA rfl ?_) | (refine za9 aA (evO_ok rfl) ?_)) | (refine zby _ _ rfl rfl rfl rfl ?_) | (refine zas (hK _ _ (.inl rfl) ?_); clear hK K) | (refine zas (hK _ _ (.inr (by kernel_rfl)) ?_); clear hK K))
      | (refine za4 ?_; first | (refine zbq ?_) | (refine zad (fun K hK => ?_)) | (refine zao ?_) | (refine za2 ?_) | (refine zbr ?_) | (refine za3 ?_) | (refine zbl ?_; first | (refine zam rfl aD ?_) | (refine zal rfl aD ?_) | (refine zaz rfl (fun h => ?_) (fun h => ?_) <;> (have h' := h; (try simp only [sx] at h')))))
      | (refine za0 ?_) | (refine zab ?_) | (refine zac ?_) | (refine zar ?_) | (refine zap ?_) | (refine zaq ?_) | (refine zan rfl ?_) | (refine zaf ?_) | (refine zag ?_) | (refine zbs ?_))
          all_goals first
            | (exfalso; omega)
            | (refine zb9 (i + 1, b, m) rfl aW ⟨by simp only; omega, hst2⟩ (by simp only; omega))
      · have hin : i = e.L.length := by omega
        subst hin
        obtain ⟨rfl, rfl⟩ := worst_eq hW (ws_is e k)
        repeat' (first
      | (refine za1 ?_; first | (refine za5 ?_; refine zat _ rfl ?_) | (refine zae ?_; refine zaa _ rfl ?_) | (refine zbv ?_; first | (refine zbz rfl rfl aO ?_) | (refine zbu _ rfl rfl rfl ?_) | (refine zaw _ rfl rfl rfl ?_)) | (refine g_un ?_; first | (refine zce rfl ?_) | (refine zcd rfl aO ?_)) | (refine zbk ?_; first | (refine zaj aA rfl ?_) | (refine zak _ aA rfl rfl aE rfl ?_) | (refine zah _ aA rfl aZ aL ?_) | (refine zai _ aA rfl rfl aE aZ aL ?_)) | (refine zbd ?_; first | (refine zau _ aA rfl rfl aO aA ?_) | (refine zav _ aA rfl rfl rfl rfl aO aO (by first | (rw [Nat.zero_add, Int.toNat_natCast]) | (rw [Nat.zero_add]) | rfl) ?_)) | (refine zbx ?_; first | (refine zbf rfl aD rfl ?_) | (refine zbh rfl aD ?_) | (refine zbi rfl aD ?_) | (refine zbg rfl aD rfl ?_)) | (refine zbp ?_; first | (refine zbw rfl rfl aD ?_) | (refine zb4 rfl rfl aD ?_) | (refine zb5 rfl rfl ?_) | (refine zbj rfl rfl (fun h => ?_) (fun h => ?_) <;> (have h' := h; (try simp only [sx] at h')))) | (refine za7 ?_; first | (refine zba aA rfl ?_) | (refine zbb aA rfl rfl ?_) | (refine zbc aA rfl ?_) | (refine za9 aA (evO_ok rfl) ?_)) | (refine zby _ _ rfl rfl rfl rfl ?_) | (refine zas (hK _ _ (.inl rfl) ?_); clear hK K) | (refine zas (hK _ _ (.inr (by kernel_rfl)) ?_); clear hK K))
      | (refine za4 ?_; first | (refine zbq ?_) | (refine zad (fun K hK => ?_)) | (refine zao ?_) | (refine za2 ?_) | (refine zbr ?_) | (refine za3 ?_) | (refine zbl ?_; first | (refine zam rfl aD ?_) | (refine zal rfl aD ?_) | (refine zaz rfl (fun h => ?_) (fun h => ?_) <;> (have h' := h; (try simp only [sx] at h')))))
      | (refine za0 ?_) | (refine zab ?_) | (refine zac ?_) | (refine zar ?_) | (refine zap ?_) | (refine zaq ?_) | (refine zan rfl ?_) | (refine zaf ?_) | (refine zag ?_) | (refine zbs ?_))
        all_goals first
          | (exfalso; omega)
          | exact aR
    · have hok : ¬ EkOk e k := fun h => hk h.2
      rw [wsRes_f hok]
      repeat' (first
      | (refine za1 ?_; first | (refine za5 ?_; refine zat _ rfl ?_) | (refine zae ?_; refine zaa _ rfl ?_) | (refine zbv ?_; first | (refine zbz rfl rfl aO ?_) | (refine zbu _ rfl rfl rfl ?_) | (refine zaw _ rfl rfl rfl ?_)) | (refine g_un ?_; first | (refine zce rfl ?_) | (refine zcd rfl aO ?_)) | (refine zbk ?_; first | (refine zaj aA rfl ?_) | (refine zak _ aA rfl rfl aE rfl ?_) | (refine zah _ aA rfl aZ aL ?_) | (refine zai _ aA rfl rfl aE aZ aL ?_)) | (refine zbd ?_; first | (refine zau _ aA rfl rfl aO aA ?_) | (refine zav _ aA rfl rfl rfl rfl aO aO (by first | (rw [Nat.zero_add, Int.toNat_natCast]) | (rw [Nat.zero_add]) | rfl) ?_)) | (refine zbx ?_; first | (refine zbf rfl aD rfl ?_) | (refine zbh rfl aD ?_) | (refine zbi rfl aD ?_) | (refine zbg rfl aD rfl ?_)) | (refine zbp ?_; first | (refine zbw rfl rfl aD ?_) | (refine zb4 rfl rfl aD ?_) | (refine zb5 rfl rfl ?_) | (refine zbj rfl rfl (fun h => ?_) (fun h => ?_) <;> (have h' := h; (try simp only [sx] at h')))) | (refine za7 ?_; first | (refine za8 true (k1) rfl rfl rfl aS rfl aH ?_; simp only [cl]) | (refine za8 true (k2) rfl rfl rfl aS rfl aH ?_; simp only [cl]) | (refine zba aA rfl ?_) | (refine zbb aA rfl rfl ?_) | (refine zbc aA rfl ?_) | (refine za9 aA (evO_ok rfl) ?_)) | (refine zby _ _ rfl rfl rfl rfl ?_) | (refine zas (hK _ _ (.inl rfl) ?_); clear hK K) | (refine zas (hK _ _ (.inr (by kernel_rfl)) ?_); clear hK K))
      | (refine za4 ?_; first | (refine zbq ?_) | (refine zad (fun K hK => ?_)) | (refine zao ?_) | (refine za2 ?_) | (refine zbr ?_) | (refine za3 ?_) | (refine zbl ?_; first | (refine zam rfl aD ?_) | (refine zal rfl aD ?_) | (refine zaz rfl (fun h => ?_) (fun h => ?_) <;> (have h' := h; (try simp only [sx] at h')))))
      | (refine za0 ?_) | (refine zab ?_) | (refine zac ?_) | (refine zar ?_) | (refine zap ?_) | (refine zaq ?_) | (refine zan rfl ?_) | (refine zaf ?_) | (refine zag ?_) | (refine zbs ?_))
      all_goals first
        | (exfalso; omega)
        | (exfalso; simp at *; done)
        | exact aR
  · rw [decide_eq_false hE] at k1
    have hok : ¬ EkOk e k := fun h => hE h.1
    rw [wsRes_f hok]
    repeat' (first
      | (refine za1 ?_; first | (refine za5 ?_; refine zat _ rfl ?_) | (refine zae ?_; refine zaa _ rfl ?_) | (refine zbv ?_; first | (refine zbz rfl rfl aO ?_) | (refine zbu _ rfl rfl rfl ?_) | (refine zaw _ rfl rfl rfl ?_)) | (refine g_un ?_; first | (refine zce rfl ?_) | (refine zcd rfl aO ?_)) | (refine zbk ?_; first | (refine zaj aA rfl ?_) | (refine zak _ aA rfl rfl aE rfl ?_) | (refine zah _ aA rfl aZ aL ?_) | (refine zai _ aA rfl rfl aE aZ aL ?_)) | (refine zbd ?_; first | (refine zau _ aA rfl rfl aO aA ?_) | (refine zav _ aA rfl rfl rfl rfl aO aO (by first | (rw [Nat.zero_add, Int.toNat_natCast]) | (rw [Nat.zero_add]) | rfl) ?_)) | (refine zbx ?_; first | (refine zbf rfl aD rfl ?_) | (refine zbh rfl aD ?_) | (refine zbi rfl aD ?_) | (refine zbg rfl aD rfl ?_)) | (refine zbp ?_; first | (refine zbw rfl rfl aD ?_) | (refine zb4 rfl rfl aD ?_) | (refine zb5 rfl rfl ?_) | (refine zbj rfl rfl (fun h => ?_) (fun h => ?_) <;> (have h' := h; (try simp only [sx] at h')))) | (refine za7 ?_; first | (refine za8 true (k1) rfl rfl rfl aS rfl aH ?_; simp only [cl]) | (refine za8 true (k2) rfl rfl rfl aS rfl aH ?_; simp only [cl]) | (refine zba aA rfl ?_) | (refine zbb aA rfl rfl ?_) | (refine zbc aA rfl ?_) | (refine za9 aA (evO_ok rfl) ?_)) | (refine zby _ _ rfl rfl rfl rfl ?_) | (refine zas (hK _ _ (.inl rfl) ?_); clear hK K) | (refine zas (hK _ _ (.inr (by kernel_rfl)) ?_); clear hK K))
      | (refine za4 ?_; first | (refine zbq ?_) | (refine zad (fun K hK => ?_)) | (refine zao ?_) | (refine za2 ?_) | (refine zbr ?_) | (refine za3 ?_) | (refine zbl ?_; first | (refine zam rfl aD ?_) | (refine zal rfl aD ?_) | (refine zaz rfl (fun h => ?_) (fun h => ?_) <;> (have h' := h; (try simp only [sx] at h')))))
      | (refine za0 ?_) | (refine zab ?_) | (refine zac ?_) | (refine zar ?_) | (refine zap ?_) | (refine zaq ?_) | (refine zan rfl ?_) | (refine zaf ?_) | (refine zag ?_) | (refine zbs ?_))
    all_goals first
      | (exfalso; omega)
      | (exfalso; simp at *; done)
      | exact aR
end
end Go.Vs
set_option linter.unusedVariables false
set_option linter.unusedSimpArgs false
set_option maxRecDepth 100000
set_option maxHeartbeats 4000000
namespace Go.Vs
open Go.Proofs
attribute [local irreducible] exec vwp thenQ blkQ loopQ RetPost
noncomputable section
theorem tv_set2 {T : List Int} {y : Int} (v : Int) (h : y.toNat < T.length) (c : Int) : tv (T.set y.toNat v) c = if c.toNat = y.toNat then v else tv T c := tv_set v h c
theorem tv_extE {t : Terrain} {T U : List Int} (h1 : T.length = t.burn.length) (h2 : U.length = t.burn.length) (h : ∀ c, IsCell t c → tv T c = tv U c) : T = U := tv_extB (b := ⟨t, [], [], 0⟩) h1 h2 h
end
end Go.Vs
