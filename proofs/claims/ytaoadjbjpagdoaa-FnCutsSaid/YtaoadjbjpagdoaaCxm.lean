/- Parts of a proof: what its last text mentions. -/
import Derived.Test.YtaoadjbjpagdoaaCxl
set_option linter.unusedVariables false
set_option linter.unusedSimpArgs false
set_option maxRecDepth 100000
set_option maxHeartbeats 4000000
namespace Go.Vs
open Go.Proofs
attribute [local irreducible] exec vwp thenQ blkQ loopQ RetPost
theorem lcL_tick (b : Blz) (cs : List Int) : ∀ c ∈ lcL b cs, 0 ≤ c.tick ∧ c.tick ≤ 9999 := by
  intro c hc
  unfold lcL at hc
  split at hc
  · rename_i h
    have := h.2.2.2.one c hc
    exact ⟨this.2.2.1, this.2.2.2⟩
  · cases hc
theorem cut_set (cs : List Cut) (i : Nat) (x y : Int) : (cs.map Cut.pv).set i [.int .i64 x, .int .i64 y] = (cs.set i ⟨x, y⟩).map Cut.pv := by rw [List.map_set]
theorem k_cutsForD (c : Cu) (t : Terrain) (ps : List Phase) (xs ys : List Int) (st : Int) (hc : c.Ok) (hp : c.pos + 1000 ≤ 1152921504606846976) (ht : TrSz t) (hpl : ps.length ≤ 7) (hxl : xs.length ≤ 5) (hyl : ys.length ≤ 5) :
    ∃ (cs : List Cut) (c' : Cu), Dr 69 [.agg t.pv, .list 2 (ps.map Phase.pv), .list 1 (ints xs), .int .i64 st, .list 1 (ints ys)] c (.olist 38 2 (cs.map Cut.pv)) c' ∧ Aft c c' 300 ∧ cs.length ≤ 6 := by
  have ht3 := ht.2.2
  have hl1 : (ints t.burn).length = t.burn.length := by simp
  obtain ⟨zs, c1, k1, a1, hzl⟩ := k_cellsOf c t hc aO ht
  have o1 := a1.ok hc aO
  have p1 := a1.pos
  obtain ⟨best, b, hbl, kB⟩ := k_BestLine t xs ys aO aO aO
  obtain ⟨cz, c2, hcz, a2, hsel⟩ : ∃ (cz : List Int) (c2 : Cu), cz.length ≤ 5 ∧ Aft c1 c2 2 ∧ ((b = false ∧ cz = zs ∧ c2 = c1) ∨ (b = true ∧ ∃ y, Dr 20 [.int .i64 4] c1 (.bool y) c2 ∧ ((y = true ∧ cz = zs) ∨ (y = false ∧ cz = best)))) := by
    cases b with
    | false => exact ⟨zs, c1, hzl, (Aft.refl c1).le aO, .inl ⟨rfl, rfl, rfl⟩⟩
    | true =>
      obtain ⟨y, c2, k2, a2⟩ := k_one c1 4 o1 aO aO
      cases y with
      | true => exact ⟨zs, c2, hzl, a2, .inr ⟨rfl, true, k2, .inl ⟨rfl, rfl⟩⟩⟩
      | false => exact ⟨best, c2, by omega, a2, .inr ⟨rfl, false, k2, .inr ⟨rfl, rfl⟩⟩⟩
  have o2 := a2.ok o1 aO
  have p2 := a2.pos
  have kL := k_sLatest ⟨t, ps, xs, st⟩ cz ⟨by simp only; omega, by simp only; omega, by simp only; omega⟩ aO
  have hll := lcL_len ⟨t, ps, xs, st⟩ cz
  have hlt := lcL_tick ⟨t, ps, xs, st⟩ cz
  have hno : decide (LtOk ⟨t, ps, xs, st⟩ cz) = false → lcL ⟨t, ps, xs, st⟩ cz = [] := fun h => by unfold lcL; rw [if_neg (of_decide_eq_false h)]
  unfold lcRes at kL
  generalize lcL ⟨t, ps, xs, st⟩ cz = lc at *
  generalize decide (LtOk ⟨t, ps, xs, st⟩ cz) = ok at *
  obtain ⟨N1, hN1⟩ : ∃ N1, N1 = if ok = true then 0 else cz.length := ⟨_, rfl⟩
  have hN1l : N1 ≤ 5 := by rw [hN1]; split <;> omega
  have tick0 : ∀ c ∈ lc, -1 ≤ c.tick ∧ c.tick ≤ 10000 := fun c hc => by have := hlt c hc; omega
  obtain ⟨f, f0, fs⟩ := seq_ex (S := Cu × List Cut) (Q := fun i s => i ≤ 5 → Aft c2 s.1 (2 * i) ∧ s.2.length ≤ lc.length + i ∧ ∀ c ∈ s.2, -1 ≤ c.tick ∧ c.tick ≤ 10000)
    (R := fun i s s' => i < 5 → ∀ a, cz[i]? = some a → if (GoodT t ∧ IsCell t a) ∧ 0 < burnAt t a then ∃ r, Dr 43 [.int .i64 40] s.1 (.int .i64 r) s'.1 ∧ s'.2 = s.2 ++ [⟨a, r⟩] else s' = s)
    (c2, lc) (fun _ => ⟨(Aft.refl c2).le aO, by simp, tick0⟩) (fun i s hq => by
      by_cases hi : i < 5
      · obtain ⟨ad, hl, htk⟩ := hq aO
        have od := ad.ok o2 aO
        have pd := ad.pos
        by_cases hgo : ∃ a, cz[i]? = some a ∧ (GoodT t ∧ IsCell t a) ∧ 0 < burnAt t a
        · obtain ⟨a, ha, hgd⟩ := hgo
          obtain ⟨r, c3, k3, a3, g1, g2, _⟩ := k_pick s.1 40 od aO aO
          have g2 := g2 aO
          refine ⟨(c3, s.2 ++ [⟨a, r⟩]), fun _ a' ha' => ?_, fun _ => ⟨(ad.trans a3).le (by first | omega | (simp only; omega)), by simp; omega, fun c hc => ?_⟩⟩
          · rw [ha] at ha'
            injection ha' with ha'
            subst ha'
            rw [if_pos hgd]
            exact ⟨r, k3, rfl⟩
          · rcases List.mem_append.1 hc with h | h
            · exact htk c h
            · simp at h; rw [h]; simp only; omega
        · refine ⟨s, fun _ a' ha' => ?_, fun _ => ⟨ad.le aO, by omega, htk⟩⟩
          rw [if_neg fun h => hgo ⟨a', ha', h⟩]
      · exact ⟨s, fun h => absurd h hi, fun h => by omega⟩)
  obtain ⟨adn, hNl, hNt⟩ := (fs N1).1 hN1l
  have oN := adn.ok o2 aO
  have pN := adn.pos
  have hN10 : (f N1).2.length ≤ 5 := by
    cases ok with
    | true => rw [hN1] at hNl ⊢; simp at hNl ⊢; omega
    | false =>
      have := hno rfl
      rw [this] at hNl
      simp at hNl
      omega
  obtain ⟨L, hL⟩ : ∃ L, L = (f N1).2.length := ⟨_, rfl⟩
  obtain ⟨g, g0, gs⟩ := seq_ex (S := Cu × List Cut) (Q := fun i s => i ≤ 5 → Aft (f N1).1 s.1 (4 * i) ∧ s.2.length = L ∧ ∀ c ∈ s.2, -1 ≤ c.tick ∧ c.tick ≤ 10000)
    (R := fun i s s' => i < L → ∀ a, s.2[i]? = some a → ∃ y e1, Dr 20 [.int .i64 2] s.1 (.bool y) e1 ∧ ((y = false ∧ s' = (e1, s.2)) ∨ (y = true ∧ ∃ r, (0 ≤ r ∧ r < 8) ∧ Dr 43 [.int .i64 8] e1 (.int .i64 r) s'.1 ∧ s'.2 = s.2.set i ⟨a.cell, max 0 (min a.tick 200 - r)⟩)))
    (f N1) (fun _ => ⟨(Aft.refl _).le aO, hL.symm, hNt⟩) (fun i s hq => by
      by_cases hi : i < L
      · obtain ⟨ad, hl, htk⟩ := hq aO
        have od := ad.ok oN aO
        have pd := ad.pos
        obtain ⟨a, ha⟩ := get_ex (show i < s.2.length by omega)
        have hta := htk a (get_mem ha)
        obtain ⟨y, e1, k3, a3⟩ := k_one s.1 2 od aO aO
        have o3 := a3.ok od aO
        have p3 := a3.pos
        cases y with
        | false => exact ⟨(e1, s.2), fun _ a' ha' => ⟨false, e1, k3, .inl ⟨rfl, rfl⟩⟩, fun _ => ⟨(ad.trans a3).le (by first | omega | (simp only; omega)), hl, htk⟩⟩
        | true =>
          obtain ⟨r, e2, k4, a4, r0, r1, _⟩ := k_pick e1 8 o3 aO aO
          have r1 := r1 aO
          refine ⟨(e2, s.2.set i ⟨a.cell, max 0 (min a.tick 200 - r)⟩), fun _ a' ha' => ?_, fun _ => ⟨((ad.trans a3).trans a4).le (by first | omega | (simp only; omega)), by simp [hl], fun c hc => ?_⟩⟩
          · rw [ha] at ha'
            injection ha' with ha'
            subst ha'
            exact ⟨true, e1, k3, .inr ⟨rfl, r, ⟨r0, r1⟩, k4, rfl⟩⟩
          · rcases List.mem_or_eq_of_mem_set hc with h | h
            · exact htk c h
            · rw [h]; simp only; omega
      · exact ⟨s, fun h => absurd h hi, fun h => by
          obtain ⟨ad, hl, htk⟩ := hq aO
          exact ⟨ad.le aO, hl, htk⟩⟩)
  obtain ⟨adg, hGl, hGt⟩ := (gs L).1 aO
  have oG := adg.ok oN aO
  have pG := adg.pos
  obtain ⟨r, e1, kr, ar, _⟩ := k_pick (g L).1 24 oG aO aO
  have or := ar.ok oG aO
  have pr := ar.pos
  have key : ∃ (cs : List Cut) (c' : Cu), Aft e1 c' 8 ∧ cs.length ≤ 6 ∧ ((r = 0 ∧ ∃ x e2 y, Dr 86 [.agg t.pv] e1 (.int .i64 x) e2 ∧ Dr 87 [] e2 (.int .i64 y) c' ∧ cs = (g L).2 ++ [⟨x, y⟩]) ∨
      (r ≠ 0 ∧ r = 1 ∧ ∃ a, (g L).2[0]? = some a ∧ ∃ z, Dr 35 [.list 1 (ints [-1, 9999, 10000, a.tick + 1])] e1 (.int .i64 z) c' ∧ cs = (g L).2.set 0 ⟨a.cell, z⟩) ∨ (r ≠ 0 ∧ (r = 1 → L = 0) ∧ cs = (g L).2 ∧ c' = e1)) := by
    by_cases r0 : r = 0
    · obtain ⟨x, e2, kx, ax, _⟩ := k_cellOf e1 t or aO ht
      have ox := ax.ok or aO
      have px := ax.pos
      obtain ⟨y, e3, ky, ay, _⟩ := k_tick e2 ox aO
      exact ⟨_, e3, (ax.trans ay).le aO, by simp; omega, .inl ⟨r0, x, e2, y, kx, ky, rfl⟩⟩
    · by_cases r1 : r = 1 ∧ 0 < L
      · obtain ⟨a, ha⟩ := get_ex (show 0 < (g L).2.length by omega)
        obtain ⟨z, e2, kz, az, _⟩ := k_among e1 [-1, 9999, 10000, a.tick + 1] or aO (by simp)
        exact ⟨_, e2, az.le aO, by simp; omega, .inr (.inl ⟨r0, r1.1, a, ha, z, kz, rfl⟩)⟩
      · exact ⟨_, e1, (Aft.refl e1).le aO, by omega, .inr (.inr ⟨r0, fun h => by omega, rfl, rfl⟩)⟩
  obtain ⟨cs, c', adk, hcs, key⟩ := key
  refine ⟨cs, c', ?_, ((((((a1.trans a2).trans adn).trans adg).trans ar).trans adk)).le aO, hcs⟩
  have kLe := fun (a b : Int) => k_l1Least a b
  have kMo := fun (a b : Int) => k_l1Most a b
  refine contract_of hmix Try.func69 rfl (by kernel_rfl) (by kernel_rfl) (Nat.le_of_ble_eq_true rfl) (fun row h => by (simp only [List.mem_cons, List.not_mem_nil, or_false] at h; first | (subst h; (first | exact .inl rfl | exact .inr (fun e he u hu => by (simp only [List.mem_cons, List.not_mem_nil, or_false] at he; subst he; simp only [List.mem_cons, List.not_mem_nil, or_false] at hu; subst hu; rfl)))) | (rcases h with rfl | rfl <;> (first | exact .inl rfl | exact .inr (fun e he u hu => by (simp only [List.mem_cons, List.not_mem_nil, or_false] at he; subst he; simp only [List.mem_cons, List.not_mem_nil, or_false] at hu; subst hu; rfl)))) | (rcases h with rfl | rfl | rfl <;> (first | exact .inl rfl | exact .inr (fun e he u hu => by (simp only [List.mem_cons, List.not_mem_nil, or_false] at he; subst he; simp only [List.mem_cons, List.not_mem_nil, or_false] at hu; subst hu; rfl)))) | (rcases h with rfl | rfl | rfl | rfl <;> (first | exact .inl rfl | exact .inr (fun e he u hu => by (simp only [List.mem_cons, List.not_mem_nil, or_false] at he; subst he; simp only [List.mem_cons, List.not_mem_nil, or_false] at hu; subst hu; rfl)))))) ?_
  have hty_a26 := ty_a26
  have hty_u24 := ty_u24
  have hty_s24 := ty_s24
  have hty_u27 := ty_u27
  have hty_s27 := ty_s27
  have hty_s30 := ty_s30
  have hty_u30 := ty_u30
  have hty_c3 := ty_c3
  have hty_f26_2 := ty_f26_2
  have hty_c24 := ty_c24
  have hty_st38 := ty_st38
  have hty_f38_0 := ty_f38_0
  have hty_f38_1 := ty_f38_1
  have hty_t38 := ty_t38
  have hty_a38 := ty_a38
  repeat' (first | (refine pB (k := ?_)) | (refine v_seqN 3000002 rfl ?_) | (refine g_exec ?_; first | (refine g_call ?_; refine x_callL [(io, 0)] (k1) rfl rfl aF rfl rfl aS rfl aH rfl ?_; simp only [cl]) | (refine g_guard ?_; refine x_gsplit rfl rfl (fun h => ?_) (fun h => ?_) <;> (have h' := h; try simp only [sx] at h')) | (refine x_nil (hK _ _ aI ?_); clear hK K)) | (refine v_region (fun K hK => ?_)) | (refine v_condt rfl (fun h => ?_) (fun h => ?_) <;> (have h' := h; try simp only [sx] at h')))
  refine v_cutK [0, 2, 3, 4, 7] [(io, 0)] (fun u_ : Unit => [(13, .list 1 (ints cz))]) (fun u_ : Unit => [((io, 0), some (cuRow c2))]) (fun u_ : Unit => True) rfl rfl (fun _ => rfl) (fun _ => rfl) ?_ (fun u_ hu_ => ?_)
  · rcases hsel with ⟨rfl, rfl, rfl⟩ | ⟨rfl, y, k2, ⟨rfl, rfl⟩ | ⟨rfl, rfl⟩⟩
    · repeat' (first | (refine pA (k := ?_)) | (refine g_exec ?_; first | (refine g_call ?_; refine x_callA true (kB) rfl rfl rfl rfl rfl aS rfl aH ?_; simp only [cl]) | (refine g_guard ?_; refine x_gsplit rfl rfl (fun h => ?_) (fun h => ?_) <;> (have h' := h; try simp only [sx] at h')) | (refine x_nil (hK _ _ aI ?_); clear hK K)) | (refine v_region (fun K hK => ?_)) | (refine v_condt rfl (fun h => ?_) (fun h => ?_) <;> (have h' := h; try simp only [sx] at h')))
      all_goals (refine q_next () rfl (by refine ⟨?_, ?_, rfl, rfl⟩ <;> (repeat' (first | exact trivial | exact ⟨rfl, rfl⟩ | exact rfl | exact ⟨sub_fn, refs_fn⟩ | refine ⟨⟨rfl, rfl⟩, ?_⟩ | refine ⟨⟨sub_fn, refs_fn⟩, ?_⟩ | refine ⟨⟨rfl, fun h => Bool.noConfusion h⟩, ?_⟩ | refine ⟨⟨rfl, fun h => ?_⟩, ?_⟩ | refine ⟨rfl, ?_⟩ | refine ⟨?_, ?_⟩ | fail))) trivial (by decide))
    · repeat' (first | (refine pA (k := ?_)) | (refine g_exec ?_; first | (refine g_call ?_; first | (refine x_callA true (kB) rfl rfl rfl rfl rfl aS rfl aH ?_; simp only [cl]) | (refine x_callL [(io, 0)] (k2) rfl rfl aF rfl rfl aS rfl aH rfl ?_; simp only [cl])) | (refine g_guard ?_; refine x_gsplit rfl rfl (fun h => ?_) (fun h => ?_) <;> (have h' := h; try simp only [sx] at h')) | (refine x_nil (hK _ _ aI ?_); clear hK K)) | (refine v_region (fun K hK => ?_)) | (refine v_condt rfl (fun h => ?_) (fun h => ?_) <;> (have h' := h; try simp only [sx] at h')))
      all_goals (refine q_next () rfl (by refine ⟨?_, ?_, rfl, rfl⟩ <;> (repeat' (first | exact trivial | exact ⟨rfl, rfl⟩ | exact rfl | exact ⟨sub_fn, refs_fn⟩ | refine ⟨⟨rfl, rfl⟩, ?_⟩ | refine ⟨⟨sub_fn, refs_fn⟩, ?_⟩ | refine ⟨⟨rfl, fun h => Bool.noConfusion h⟩, ?_⟩ | refine ⟨⟨rfl, fun h => ?_⟩, ?_⟩ | refine ⟨rfl, ?_⟩ | refine ⟨?_, ?_⟩ | fail))) trivial (by decide))
    · repeat' (first | (refine pA (k := ?_)) | (refine g_exec ?_; first | (refine g_call ?_; first | (refine x_callA true (kB) rfl rfl rfl rfl rfl aS rfl aH ?_; simp only [cl]) | (refine x_callL [(io, 0)] (k2) rfl rfl aF rfl rfl aS rfl aH rfl ?_; simp only [cl])) | (refine g_guard ?_; refine x_gsplit rfl rfl (fun h => ?_) (fun h => ?_) <;> (have h' := h; try simp only [sx] at h')) | (refine x_nil (hK _ _ aI ?_); clear hK K)) | (refine v_region (fun K hK => ?_)) | (refine v_condt rfl (fun h => ?_) (fun h => ?_) <;> (have h' := h; try simp only [sx] at h')))
      all_goals (refine q_next () rfl (by refine ⟨?_, ?_, rfl, rfl⟩ <;> (repeat' (first | exact trivial | exact ⟨rfl, rfl⟩ | exact rfl | exact ⟨sub_fn, refs_fn⟩ | refine ⟨⟨rfl, rfl⟩, ?_⟩ | refine ⟨⟨sub_fn, refs_fn⟩, ?_⟩ | refine ⟨⟨rfl, fun h => Bool.noConfusion h⟩, ?_⟩ | refine ⟨⟨rfl, fun h => ?_⟩, ?_⟩ | refine ⟨rfl, ?_⟩ | refine ⟨?_, ?_⟩ | fail))) trivial (by decide))
  have hcz2 : (ints cz).length = cz.length := by simp
  have hlm : (lc.map Cut.pv).length = lc.length := by simp
  repeat' (first | (refine pB (k := ?_)) | (refine v_seqN 3000007 rfl ?_) | (refine g_exec ?_; first | (refine g_call ?_; refine x_callG true (kL) rfl rfl rfl aS rfl aH ?_; simp only [cl]) | (refine g_guard ?_; refine x_gsplit rfl rfl (fun h => ?_) (fun h => ?_) <;> (have h' := h; try simp only [sx] at h')) | (refine x_nil (hK _ _ aI ?_); clear hK K)) | (refine v_region (fun K hK => ?_)) | (refine v_condt rfl (fun h => ?_) (fun h => ?_) <;> (have h' := h; try simp only [sx] at h')))
  refine v_cutK [0, 7] [(io, 0), (1001, 0)] (fun q : Cu × List (List PV) × Nat => [(16, .osl (1001, 0) 0 q.2.2)]) (fun q : Cu × List (List PV) × Nat => [((io, 0), some (cuRow q.1)), ((1001, 0), some ⟨38, 2, q.2.1, false⟩)]) (fun q : Cu × List (List PV) × Nat => q.1 = (f N1).1 ∧ q.2.1 = (f N1).2.map Cut.pv ∧ q.2.1.length = q.2.2) rfl rfl (fun _ => rfl) (fun _ => rfl) ?_ (fun q hq => ?_)
  · repeat' (first | (refine pA (k := ?_)) | (refine g_exec ?_; first | (refine g_guard ?_; refine x_gsplit rfl rfl (fun h => ?_) (fun h => ?_) <;> (have h' := h; try simp only [sx] at h')) | (refine x_nil (hK _ _ aI ?_); clear hK K)) | (refine v_region (fun K hK => ?_)) | (refine v_condt rfl (fun h => ?_) (fun h => ?_) <;> (have h' := h; try simp only [sx] at h')))
    refine v_loopK [0, 7, 13, 17] [(io, 0), (1001, 0)] (fun q : Nat × Cu × List (List PV) × Nat => [(16, .osl (1001, 0) 0 q.2.2.2), (18, .int .i64 q.1)]) (fun q : Nat × Cu × List (List PV) × Nat => [((io, 0), some (cuRow q.2.1)), ((1001, 0), some ⟨38, 2, q.2.2.1, false⟩)]) (fun q : Nat × Cu × List (List PV) × Nat => q.1 ≤ N1 ∧ q.2.1 = (f q.1).1 ∧ q.2.2.1 = (f q.1).2.map Cut.pv ∧ q.2.2.1.length = q.2.2.2) (fun q : Nat × Cu × List (List PV) × Nat => N1 - q.1) ((0, c2, lc.map Cut.pv, (lc.map Cut.pv).length)) rfl rfl (fun _ => rfl) (fun _ => rfl) rfl (by refine ⟨?_, ?_, rfl, rfl⟩ <;> (repeat' (first | exact trivial | exact ⟨rfl, rfl⟩ | exact rfl | exact ⟨sub_fn, refs_fn⟩ | refine ⟨⟨rfl, rfl⟩, ?_⟩ | refine ⟨⟨sub_fn, refs_fn⟩, ?_⟩ | refine ⟨⟨rfl, fun h => Bool.noConfusion h⟩, ?_⟩ | refine ⟨⟨rfl, fun h => ?_⟩, ?_⟩ | refine ⟨rfl, ?_⟩ | refine ⟨?_, ?_⟩ | fail))) ⟨by simp, by rw [f0], by rw [f0], rfl⟩ (fun q hq => ?_)
    obtain ⟨k, d, es, m⟩ := q
    obtain ⟨hk, hd, hes, hem⟩ := hq
    simp only at hk hd hes hem
    dsimp only
    obtain ⟨ad, hfl, _⟩ := (fs k).1 aO
    have hel : es.length = (f k).2.length := by rw [hes, List.length_map]
    have hme := hem.symm
    by_cases hlt : k < N1
    · have hok : ok = false := by
        cases ok with
        | true => simp at hN1; omega
        | false => rfl
      subst hok
      simp at hN1
      obtain ⟨a, ha⟩ := get_ex (show k < cz.length by omega)
      have hxa := ints_at ha
      have hst := (fs k).2 aO a ha
      have kC := k_l2Cell t a aO
      by_cases hgd : (GoodT t ∧ IsCell t a) ∧ 0 < burnAt t a
      · rw [if_pos hgd] at hst
        obtain ⟨r', kp, e2⟩ := hst
        rw [← hd] at kp
        rw [decide_eq_true hgd.1] at kC
        have hb := ints_at (burn_at hgd.1.2)
        have hcc := hgd.1.2
        have hbp := hgd.2
        unfold IsCell at hcc
        repeat' (first | (refine pA (k := ?_)) | (refine g_exec ?_; first | (refine g_call ?_; first | (refine x_callG true (kC) rfl rfl rfl aS rfl aH ?_; simp only [cl]) | (refine x_callL [(io, 0)] (kp) rfl rfl aF rfl rfl aS rfl aH rfl ?_; simp only [cl])) | (refine g_guard ?_; refine x_gsplit rfl rfl (fun h => ?_) (fun h => ?_) <;> (have h' := h; try simp only [sx] at h')) | (refine x_nil (hK _ _ aI ?_); clear hK K)) | (refine v_region (fun K hK => ?_)) | (refine v_condt rfl (fun h => ?_) (fun h => ?_) <;> (have h' := h; try simp only [sx] at h')))
        all_goals first
          | (exfalso; omega)
          | (refine q_next (k + 1, (f (k + 1)).1, es ++ [[.int .i64 a, .int .i64 r']], m + 1) rfl (by refine ⟨?_, ?_, rfl, rfl⟩ <;> (repeat' (first | exact trivial | exact ⟨rfl, rfl⟩ | exact rfl | exact ⟨sub_fn, refs_fn⟩ | refine ⟨⟨rfl, rfl⟩, ?_⟩ | refine ⟨⟨sub_fn, refs_fn⟩, ?_⟩ | refine ⟨⟨rfl, fun h => Bool.noConfusion h⟩, ?_⟩ | refine ⟨⟨rfl, fun h => ?_⟩, ?_⟩ | refine ⟨rfl, ?_⟩ | refine ⟨?_, ?_⟩ | fail))) ⟨by simp only; omega, rfl, by simp only; rw [e2, hes]; simp, by simp [hem]⟩ (by simp only; omega))
      · rw [if_neg hgd] at hst
        by_cases hgc : GoodT t ∧ IsCell t a
        · have hb := ints_at (burn_at hgc.2)
          have hcc := hgc.2
          have hbn : ¬ 0 < burnAt t a := fun h => hgd ⟨hgc, h⟩
          unfold IsCell at hcc
          rw [decide_eq_true hgc] at kC
          repeat' (first | (refine pA (k := ?_)) | (refine g_exec ?_; first | (refine g_call ?_; refine x_callG true (kC) rfl rfl rfl aS rfl aH ?_; simp only [cl]) | (refine g_guard ?_; refine x_gsplit rfl rfl (fun h => ?_) (fun h => ?_) <;> (have h' := h; try simp only [sx] at h')) | (refine x_nil (hK _ _ aI ?_); clear hK K)) | (refine v_region (fun K hK => ?_)) | (refine v_condt rfl (fun h => ?_) (fun h => ?_) <;> (have h' := h; try simp only [sx] at h')))
          all_goals first
            | (exfalso; omega)
            | (refine q_next (k + 1, d, es, m) rfl (by refine ⟨?_, ?_, rfl, rfl⟩ <;> (repeat' (first | exact trivial | exact ⟨rfl, rfl⟩ | exact rfl | exact ⟨sub_fn, refs_fn⟩ | refine ⟨⟨rfl, rfl⟩, ?_⟩ | refine ⟨⟨sub_fn, refs_fn⟩, ?_⟩ | refine ⟨⟨rfl, fun h => Bool.noConfusion h⟩, ?_⟩ | refine ⟨⟨rfl, fun h => ?_⟩, ?_⟩ | refine ⟨rfl, ?_⟩ | refine ⟨?_, ?_⟩ | fail))) ⟨by simp only; omega, by simp only; rw [hst, hd], by simp only; rw [hst, hes], hem⟩ (by simp only; omega))
        · rw [decide_eq_false hgc] at kC
          repeat' (first | (refine pA (k := ?_)) | (refine g_exec ?_; first | (refine g_call ?_; refine x_callG true (kC) rfl rfl rfl aS rfl aH ?_; simp only [cl]) | (refine g_guard ?_; refine x_gsplit rfl rfl (fun h => ?_) (fun h => ?_) <;> (have h' := h; try simp only [sx] at h')) | (refine x_nil (hK _ _ aI ?_); clear hK K)) | (refine v_region (fun K hK => ?_)) | (refine v_condt rfl (fun h => ?_) (fun h => ?_) <;> (have h' := h; try simp only [sx] at h')))
          all_goals first
            | (exfalso; omega)
            | (refine q_next (k + 1, d, es, m) rfl (by refine ⟨?_, ?_, rfl, rfl⟩ <;> (repeat' (first | exact trivial | exact ⟨rfl, rfl⟩ | exact rfl | exact ⟨sub_fn, refs_fn⟩ | refine ⟨⟨rfl, rfl⟩, ?_⟩ | refine ⟨⟨sub_fn, refs_fn⟩, ?_⟩ | refine ⟨⟨rfl, fun h => Bool.noConfusion h⟩, ?_⟩ | refine ⟨⟨rfl, fun h => ?_⟩, ?_⟩ | refine ⟨rfl, ?_⟩ | refine ⟨?_, ?_⟩ | fail))) ⟨by simp only; omega, by simp only; rw [hst, hd], by simp only; rw [hst, hes], hem⟩ (by simp only; omega))
    · have hkN : k = N1 := by omega
      subst hkN
      cases ok with
      | true =>
        repeat' (first | (refine pA (k := ?_)) | (refine g_exec ?_; first | (refine g_guard ?_; refine x_gsplit rfl rfl (fun h => ?_) (fun h => ?_) <;> (have h' := h; try simp only [sx] at h')) | (refine x_nil (hK _ _ aI ?_); clear hK K)) | (refine v_region (fun K hK => ?_)) | (refine v_condt rfl (fun h => ?_) (fun h => ?_) <;> (have h' := h; try simp only [sx] at h')))
        all_goals first
          | (exfalso; omega)
          | (refine q_next (d, es, m) rfl (by refine ⟨?_, ?_, rfl, rfl⟩ <;> (repeat' (first | exact trivial | exact ⟨rfl, rfl⟩ | exact rfl | exact ⟨sub_fn, refs_fn⟩ | refine ⟨⟨rfl, rfl⟩, ?_⟩ | refine ⟨⟨sub_fn, refs_fn⟩, ?_⟩ | refine ⟨⟨rfl, fun h => Bool.noConfusion h⟩, ?_⟩ | refine ⟨⟨rfl, fun h => ?_⟩, ?_⟩ | refine ⟨rfl, ?_⟩ | refine ⟨?_, ?_⟩ | fail))) ⟨hd, hes, hem⟩ (by decide))
      | false =>
        simp at hN1
        repeat' (first | (refine pA (k := ?_)) | (refine g_exec ?_; first | (refine g_guard ?_; refine x_gsplit rfl rfl (fun h => ?_) (fun h => ?_) <;> (have h' := h; try simp only [sx] at h')) | (refine x_nil (hK _ _ aI ?_); clear hK K)) | (refine v_region (fun K hK => ?_)) | (refine v_condt rfl (fun h => ?_) (fun h => ?_) <;> (have h' := h; try simp only [sx] at h')))
        all_goals first
          | (exfalso; omega)
          | (refine q_next (d, es, m) rfl (by refine ⟨?_, ?_, rfl, rfl⟩ <;> (repeat' (first | exact trivial | exact ⟨rfl, rfl⟩ | exact rfl | exact ⟨sub_fn, refs_fn⟩ | refine ⟨⟨rfl, rfl⟩, ?_⟩ | refine ⟨⟨sub_fn, refs_fn⟩, ?_⟩ | refine ⟨⟨rfl, fun h => Bool.noConfusion h⟩, ?_⟩ | refine ⟨⟨rfl, fun h => ?_⟩, ?_⟩ | refine ⟨rfl, ?_⟩ | refine ⟨?_, ?_⟩ | fail))) ⟨hd, hes, hem⟩ (by decide))
  obtain ⟨d0, es0, m0⟩ := q
  obtain ⟨hd0, hes0, hem0⟩ := hq
  simp only at hd0 hes0 hem0
  subst hd0
  dsimp only
  have hm0L : m0 = L := by rw [← hem0, hes0, List.length_map, hL]
  subst hm0L
  repeat' (first | (refine pA (k := ?_)) | (refine g_exec ?_; first | (refine g_guard ?_; refine x_gsplit rfl rfl (fun h => ?_) (fun h => ?_) <;> (have h' := h; try simp only [sx] at h')) | (refine x_nil (hK _ _ aI ?_); clear hK K)) | (refine v_region (fun K hK => ?_)) | (refine v_condt rfl (fun h => ?_) (fun h => ?_) <;> (have h' := h; try simp only [sx] at h')))
  refine v_loopK [0, 7, 16] [(io, 0), (1001, 0)] (fun q : Nat × Cu × List (List PV) => [(19, .int .i64 q.1)]) (fun q : Nat × Cu × List (List PV) => [((io, 0), some (cuRow q.2.1)), ((1001, 0), some ⟨38, 2, q.2.2, false⟩)]) (fun q : Nat × Cu × List (List PV) => q.1 ≤ m0 ∧ q.2.1 = (g q.1).1 ∧ q.2.2 = (g q.1).2.map Cut.pv) (fun q : Nat × Cu × List (List PV) => m0 - q.1) ((0, (f N1).1, es0)) rfl rfl (fun _ => rfl) (fun _ => rfl) rfl (by refine ⟨?_, ?_, rfl, rfl⟩ <;> (repeat' (first | exact trivial | exact ⟨rfl, rfl⟩ | exact rfl | exact ⟨sub_fn, refs_fn⟩ | refine ⟨⟨rfl, rfl⟩, ?_⟩ | refine ⟨⟨sub_fn, refs_fn⟩, ?_⟩ | refine ⟨⟨rfl, fun h => Bool.noConfusion h⟩, ?_⟩ | refine ⟨⟨rfl, fun h => ?_⟩, ?_⟩ | refine ⟨rfl, ?_⟩ | refine ⟨?_, ?_⟩ | fail))) ⟨by simp, by rw [g0], by rw [g0, hes0]⟩ (fun q hq => ?_)
  obtain ⟨k, d, es⟩ := q
  obtain ⟨hk, hd, hes⟩ := hq
  simp only at hk hd hes
  dsimp only
  obtain ⟨ad, hgl, htk⟩ := (gs k).1 aO
  have hel : es.length = m0 := by rw [hes, List.length_map, hgl]
  have hme := hel.symm
  by_cases hlt : k < m0
  · obtain ⟨a, ha⟩ := get_ex (show k < (g k).2.length by omega)
    have hta := htk a (get_mem ha)
    have hxa : es[k]? = some [.int .i64 a.cell, .int .i64 a.tick] := by rw [hes]; exact Cut.at ha
    obtain ⟨y, e1', ky, hy⟩ := (gs k).2 hlt a ha
    rw [← hd] at ky
    rcases hy with ⟨rfl, hg⟩ | ⟨rfl, r', hr', kr', hg⟩
    · repeat' (first | (refine pA (k := ?_)) | (refine g_exec ?_; first | (refine g_call ?_; refine x_callL [(io, 0)] (ky) rfl rfl aF rfl rfl aS rfl aH rfl ?_; simp only [cl]) | (refine g_guard ?_; refine x_gsplit rfl rfl (fun h => ?_) (fun h => ?_) <;> (have h' := h; try simp only [sx] at h')) | (refine x_nil (hK _ _ aI ?_); clear hK K)) | (refine v_region (fun K hK => ?_)) | (refine v_condt rfl (fun h => ?_) (fun h => ?_) <;> (have h' := h; try simp only [sx] at h')))
      all_goals first
        | (exfalso; omega)
        | (refine q_next (k + 1, e1', es) rfl (by refine ⟨?_, ?_, rfl, rfl⟩ <;> (repeat' (first | exact trivial | exact ⟨rfl, rfl⟩ | exact rfl | exact ⟨sub_fn, refs_fn⟩ | refine ⟨⟨rfl, rfl⟩, ?_⟩ | refine ⟨⟨sub_fn, refs_fn⟩, ?_⟩ | refine ⟨⟨rfl, fun h => Bool.noConfusion h⟩, ?_⟩ | refine ⟨⟨rfl, fun h => ?_⟩, ?_⟩ | refine ⟨rfl, ?_⟩ | refine ⟨?_, ?_⟩ | fail))) ⟨by simp only; omega, by simp only; rw [hg], by simp only; rw [hg, hes]⟩ (by simp only; omega))
    · have kL1 := kLe a.tick 200
      have kM1 := kMo 0 (min a.tick 200 - r')
      repeat' (first | (refine pA (k := ?_)) | (refine g_exec ?_; first | (refine g_call ?_; first | (refine x_callL [(io, 0)] (ky) rfl rfl aF rfl rfl aS rfl aH rfl ?_; simp only [cl]) | (refine x_callL [(io, 0)] (kr') rfl rfl aF rfl rfl aS rfl aH rfl ?_; simp only [cl]) | (refine x_callG true (kL1) rfl rfl rfl aS rfl aH ?_; simp only [cl]) | (refine x_callG true (kM1) rfl rfl rfl aS rfl aH ?_; simp only [cl])) | (refine g_guard ?_; refine x_gsplit rfl rfl (fun h => ?_) (fun h => ?_) <;> (have h' := h; try simp only [sx] at h')) | (refine x_nil (hK _ _ aI ?_); clear hK K)) | (refine v_region (fun K hK => ?_)) | (refine v_condt rfl (fun h => ?_) (fun h => ?_) <;> (have h' := h; try simp only [sx] at h')))
      all_goals first
        | (exfalso; omega)
        | (refine q_next (k + 1, (g (k + 1)).1, es.set k [.int .i64 a.cell, .int .i64 (max 0 (min a.tick 200 - r'))]) rfl (by refine ⟨?_, ?_, rfl, rfl⟩ <;> (repeat' (first | exact trivial | exact ⟨rfl, rfl⟩ | exact rfl | exact ⟨sub_fn, refs_fn⟩ | refine ⟨⟨rfl, rfl⟩, ?_⟩ | refine ⟨⟨sub_fn, refs_fn⟩, ?_⟩ | refine ⟨⟨rfl, fun h => Bool.noConfusion h⟩, ?_⟩ | refine ⟨⟨rfl, fun h => ?_⟩, ?_⟩ | refine ⟨rfl, ?_⟩ | refine ⟨?_, ?_⟩ | fail))) ⟨by simp only; omega, rfl, by simp only; rw [hg, hes, cut_set]⟩ (by simp only; omega))
  · have hkL : k = m0 := by omega
    subst hkL
    rw [← hd] at kr
    rcases key with ⟨r0, x, e2, y, kx, ky, rfl⟩ | ⟨r0, r1, a, ha, z, kz, rfl⟩ | ⟨r0, r1, rfl, rfl⟩
    · repeat' (first | (refine pA (k := ?_)) | (refine g_exec ?_; first | (refine g_call ?_; first | (refine x_callL [(io, 0)] (kr) rfl rfl aF rfl rfl aS rfl aH rfl ?_; simp only [cl]) | (refine x_callL [(io, 0)] (kx) rfl rfl aF rfl rfl aS rfl aH rfl ?_; simp only [cl]) | (refine x_callL [(io, 0)] (ky) rfl rfl aF rfl rfl aS rfl aH rfl ?_; simp only [cl])) | (refine g_guard ?_; refine x_gsplit rfl rfl (fun h => ?_) (fun h => ?_) <;> (have h' := h; try simp only [sx] at h')) | (refine x_nil (hK _ _ aI ?_); clear hK K)) | (refine v_region (fun K hK => ?_)) | (refine v_condt rfl (fun h => ?_) (fun h => ?_) <;> (have h' := h; try simp only [sx] at h')))
      all_goals first
        | (exfalso; omega)
        | exact ret_lL rfl rfl rfl (by decide) ⟨⟨rfl, rfl, fun h => by cases h⟩, trivial⟩ rfl rfl (by simp [hel]) (by simp [hes])
    · have hxa : es[Int.toNat 0]? = some [.int .i64 a.cell, .int .i64 a.tick] := by rw [hes]; exact Cut.at ha
      have hta := htk a (get_mem ha)
      have hkp : 0 < k := by have := get_lt ha; omega
      have ez : es.set (Int.toNat 0) [.int .i64 a.cell, .int .i64 z] = ((g k).2.set 0 ⟨a.cell, z⟩).map Cut.pv := by rw [hes]; exact cut_set _ _ _ _
      repeat' (first | (refine pA (k := ?_)) | (refine g_exec ?_; first | (refine g_call ?_; first | (refine x_callL [(io, 0)] (kr) rfl rfl aF rfl rfl aS rfl aH rfl ?_; simp only [cl]) | (refine x_callL [(io, 0)] (kz) rfl rfl aF rfl rfl aS rfl aH rfl ?_; simp only [cl])) | (refine g_guard ?_; refine x_gsplit rfl rfl (fun h => ?_) (fun h => ?_) <;> (have h' := h; try simp only [sx] at h')) | (refine x_nil (hK _ _ aI ?_); clear hK K)) | (refine v_region (fun K hK => ?_)) | (refine v_condt rfl (fun h => ?_) (fun h => ?_) <;> (have h' := h; try simp only [sx] at h')))
      all_goals first
        | (exfalso; omega)
        | exact ret_lL rfl rfl rfl (by decide) ⟨⟨rfl, rfl, fun h => by cases h⟩, trivial⟩ rfl rfl (by simp [hel]) ez
    · repeat' (first | (refine pA (k := ?_)) | (refine g_exec ?_; first | (refine g_call ?_; refine x_callL [(io, 0)] (kr) rfl rfl aF rfl rfl aS rfl aH rfl ?_; simp only [cl]) | (refine g_guard ?_; refine x_gsplit rfl rfl (fun h => ?_) (fun h => ?_) <;> (have h' := h; try simp only [sx] at h')) | (refine x_nil (hK _ _ aI ?_); clear hK K)) | (refine v_region (fun K hK => ?_)) | (refine v_condt rfl (fun h => ?_) (fun h => ?_) <;> (have h' := h; try simp only [sx] at h')))
      all_goals first
        | (exfalso; omega)
        | exact ret_lL rfl rfl rfl (by decide) ⟨⟨rfl, rfl, fun h => by cases h⟩, trivial⟩ rfl rfl hme hes
theorem k_cutsFor (c : Cu) (t : Terrain) (ps : List Phase) (xs ys : List Int) (st : Int) (hc : c.Ok) (hp : c.pos + 1000 ≤ 1152921504606846976) (ht : TrSz t) (hpl : ps.length ≤ 7) (hxl : xs.length ≤ 5) (hyl : ys.length ≤ 5) :
    ∃ (cs : List Cut) (c' : Cu), Dr 69 [.agg t.pv, .list 2 (ps.map Phase.pv), .list 1 (ints xs), .int .i64 st, .list 1 (ints ys)] c (.list 2 (cs.map Cut.pv)) c' ∧ Aft c c' 300 ∧ cs.length ≤ 6 := by
  obtain ⟨cs, c', k, h⟩ := k_cutsForD c t ps xs ys st hc hp ht hpl hxl hyl
  exact ⟨cs, c', ConL.frz k rfl (by intro row h; simp at h; subst h; rfl), h⟩
end Go.Vs
set_option linter.unusedVariables false
set_option linter.unusedSimpArgs false
set_option maxRecDepth 100000
set_option maxHeartbeats 4000000
namespace Go.Vs
open Go.Proofs
attribute [local irreducible] exec vwp thenQ blkQ loopQ RetPost
theorem k_holding (c : Cu) (hc : c.Ok) (hp : c.pos + 3000 ≤ 1152921504606846976) :
    ContractP Try.prog 34 true [.own (io, 0) 0 0] [cuRow c] (fun r' fin' => ∃ (b : Blz) (cs : List Cut) (ys : List Int) (c' : Cu), (r' = .tuple [.agg b.t.pv, .list 2 (b.ps.map Phase.pv), .list 1 (ints b.src), .int .i64 b.st, .list 2 (cs.map Cut.pv), .list 1 (ints ys)] ∧ fin' = [[c'.pv]]) ∧ Aft c c' 1500 ∧ BlzB b ∧ cs.length ≤ 6 ∧ ys.length ≤ 5) := by
  refine contract_of hmix Try.func34 rfl (by kernel_rfl) (by kernel_rfl) (Nat.le_of_ble_eq_true rfl) (fun row h => by (simp only [List.mem_cons, List.not_mem_nil, or_false] at h; first | (subst h; (first | exact .inl rfl | exact .inr (fun e he u hu => by (simp only [List.mem_cons, List.not_mem_nil, or_false] at he; subst he; simp only [List.mem_cons, List.not_mem_nil, or_false] at hu; subst hu; rfl)))) | (rcases h with rfl | rfl <;> (first | exact .inl rfl | exact .inr (fun e he u hu => by (simp only [List.mem_cons, List.not_mem_nil, or_false] at he; subst he; simp only [List.mem_cons, List.not_mem_nil, or_false] at hu; subst hu; rfl)))) | (rcases h with rfl | rfl | rfl <;> (first | exact .inl rfl | exact .inr (fun e he u hu => by (simp only [List.mem_cons, List.not_mem_nil, or_false] at he; subst he; simp only [List.mem_cons, List.not_mem_nil, or_false] at hu; subst hu; rfl)))) | (rcases h with rfl | rfl | rfl | rfl <;> (first | exact .inl rfl | exact .inr (fun e he u hu => by (simp only [List.mem_cons, List.not_mem_nil, or_false] at he; subst he; simp only [List.mem_cons, List.not_mem_nil, or_false] at hu; subst hu; rfl)))))) ?_
  have hty_a26 := ty_a26
  have hty_z26 := ty_z26
  have hty_t26 := ty_t26
  have hty_u27 := ty_u27
  have hty_s27 := ty_s27
  have hty_u24 := ty_u24
  have hty_s24 := ty_s24
  repeat' (first | (refine pA (k := ?_)) | (refine g_exec ?_; first | (refine g_call ?_; refine x_callLP [(io, 0)] (k_threat c hc aO) rfl rfl aF rfl rfl aS rfl (fun r_ fin_ hP_ => ?_); obtain ⟨t, xs, ys, c1, ⟨rfl, rfl⟩, a1, ht, hxl, hyl⟩ := hP_; refine ⟨_, _, _, aH, rfl, ?_⟩; simp only [cl]) | (refine x_nil (hK _ _ aI ?_); clear hK K)) | (refine v_region (fun K hK => ?_)))
  have o1 := a1.ok hc aO
  have p1 := a1.pos
  obtain ⟨ps, c2, k2, a2, hps⟩ := k_phasesZ c1 o1 aO
  have o2 := a2.ok o1 aO
  have p2 := a2.pos
  obtain ⟨s, c3, k3, a3, h1, h2⟩ := k_startTick c2 o2 aO
  have o3 := a3.ok o2 aO
  have p3 := a3.pos
  obtain ⟨cs, c4, k4, a4, hcs⟩ := k_cutsFor c3 t ps xs ys s o3 aO ht hps hxl hyl
  repeat' (first | (refine pA (k := ?_)) | (refine g_exec ?_; first | (refine g_call ?_; first | (refine x_callL [(io, 0)] (k2) rfl rfl aF rfl rfl aS rfl aH rfl ?_; simp only [cl]) | (refine x_callL [(io, 0)] (k3) rfl rfl aF rfl rfl aS rfl aH rfl ?_; simp only [cl]) | (refine x_callL [(io, 0)] (k4) rfl rfl aF rfl rfl aS rfl aH rfl ?_; simp only [cl])) | (refine x_nil (hK _ _ aI ?_); clear hK K)) | (refine v_region (fun K hK => ?_)))
  refine RetPost.mono (fun r fin h => ⟨⟨t, ps, xs, s⟩, cs, ys, c4, h, (((a1.trans a2).trans a3).trans a4).le aO, ⟨ht, hps, hxl, ⟨h1, h2⟩⟩, hcs, hyl⟩) ?_
  (first | refine ret_TL rfl rfl rfl (by first | exact trivial | (repeat' (first | exact trivial | refine ⟨by assumption, ?_⟩))) (by repeat' (first | exact trivial | refine ⟨by simp, ?_⟩)) (by first | exact trivial | exact ⟨⟨rfl, rfl, fun h => by cases h⟩, trivial⟩) ?_ | refine ret_AL rfl rfl rfl (by first | exact trivial | (repeat' (first | exact trivial | refine ⟨by assumption, ?_⟩))) (by repeat' (first | exact trivial | refine ⟨by simp, ?_⟩)) (by first | exact trivial | exact ⟨⟨rfl, rfl, fun h => by cases h⟩, trivial⟩) ?_); (repeat' (first | exact et_end | exact el_end | refine et_int rfl ?_ ?_ | refine et_bool ?_ ?_ | refine et_str ?_ ?_ | refine et_lst rfl rfl ?_ ?_ | refine et_listA rfl (by rfl) (by decide) rfl rfl ?_ ?_ ?_ | refine et_nil ?_ ?_ | refine et_agg0 ?_ ?_ | refine et_agg ?_ ?_ | refine el_int rfl ?_ ?_ | refine el_bool ?_ ?_ | refine el_str ?_ ?_ | refine el_lst rfl rfl ?_ ?_ | refine el_listA rfl (by rfl) (by decide) rfl rfl ?_ ?_ ?_ | refine el_nil ?_ ?_)) <;> first | rfl | (simp; done) | omega
theorem k_DrawSlacksOf (code : List Int) (hz : CodeOk code) :
    ContractP Try.prog 31 true [.list 1 (bytesP code)] [] (fun r' fin' => ∃ (b : Blz) (cs : List Cut), (r' = .tuple (bzQ b (.list 2 (cs.map Cut.pv))) ∧ fin' = []) ∧ BlzB b ∧ cs.length ≤ 6) := by
  have o0 := cu0_ok hz
  refine contract_of hmix Try.func31 rfl (by kernel_rfl) (by kernel_rfl) (Nat.le_of_ble_eq_true rfl) (fun row h => by cases h) ?_
  have hty_a26 := ty_a26
  have hty_z26 := ty_z26
  have hty_st50 := ty_st50
  have hty_t26 := ty_t26
  repeat' (first | (refine pA (k := ?_)) | (refine g_exec ?_; first | (refine g_call ?_; refine x_callLP [(16, 0)] (k_holding (cu0 code) o0 (by simp)) rfl rfl aF rfl rfl aS rfl (fun r_ fin_ hP_ => ?_); obtain ⟨b, cs, ys, c1, ⟨rfl, rfl⟩, a1, hb, hcs, hys⟩ := hP_; refine ⟨_, _, _, aH, rfl, ?_⟩; simp only [cl]) | (refine x_nil (hK _ _ aI ?_); clear hK K)) | (refine v_region (fun K hK => ?_)))
  refine RetPost.mono (fun r fin h => ⟨b, cs, h, hb, hcs⟩) ?_
  (first | refine ret_TL rfl rfl rfl (by first | exact trivial | (repeat' (first | exact trivial | refine ⟨by assumption, ?_⟩))) (by repeat' (first | exact trivial | refine ⟨by simp, ?_⟩)) (by first | exact trivial | exact ⟨⟨rfl, rfl, fun h => by cases h⟩, trivial⟩) ?_ | refine ret_AL rfl rfl rfl (by first | exact trivial | (repeat' (first | exact trivial | refine ⟨by assumption, ?_⟩))) (by repeat' (first | exact trivial | refine ⟨by simp, ?_⟩)) (by first | exact trivial | exact ⟨⟨rfl, rfl, fun h => by cases h⟩, trivial⟩) ?_); (repeat' (first | exact et_end | exact el_end | refine et_int rfl ?_ ?_ | refine et_bool ?_ ?_ | refine et_str ?_ ?_ | refine et_lst rfl rfl ?_ ?_ | refine et_listA rfl (by rfl) (by decide) rfl rfl ?_ ?_ ?_ | refine et_nil ?_ ?_ | refine et_agg0 ?_ ?_ | refine et_agg ?_ ?_ | refine el_int rfl ?_ ?_ | refine el_bool ?_ ?_ | refine el_str ?_ ?_ | refine el_lst rfl rfl ?_ ?_ | refine el_listA rfl (by rfl) (by decide) rfl rfl ?_ ?_ ?_ | refine el_nil ?_ ?_)) <;> first | rfl | (simp; done) | omega
theorem k_DrawWeakestCut (code : List Int) (hz : CodeOk code) :
    ContractP Try.prog 11 true [.list 1 (bytesP code)] [] (fun r' fin' => ∃ (b : Blz) (cs : List Cut), (r' = .tuple (bzQ b (.list 2 (cs.map Cut.pv))) ∧ fin' = []) ∧ BlzB b ∧ cs.length ≤ 6) := by
  refine contract_of hmix Try.func11 rfl (by kernel_rfl) (by kernel_rfl) (Nat.le_of_ble_eq_true rfl) (fun row h => by cases h) ?_
  have hty_a26 := ty_a26
  have hty_z26 := ty_z26
  have hty_u22 := ty_u22
  have hty_s22 := ty_s22
  have hty_t26 := ty_t26
  repeat' (first | (refine pA (k := ?_)) | (refine g_exec ?_; first | (refine g_call ?_; refine x_callLP [] (k_DrawSlacksOf code hz) rfl rfl aF rfl rfl aS rfl (fun r_ fin_ hP_ => ?_); obtain ⟨b, cs, ⟨rfl, rfl⟩, hb, hcs⟩ := hP_; refine ⟨_, _, _, aH, rfl, ?_⟩; simp only [cl]) | (refine x_nil (hK _ _ aI ?_); clear hK K)) | (refine v_region (fun K hK => ?_)))
  refine RetPost.mono (fun r fin h => ⟨b, cs, h, hb, hcs⟩) ?_
  (first | refine ret_TL rfl rfl rfl (by first | exact trivial | (repeat' (first | exact trivial | refine ⟨by assumption, ?_⟩))) (by repeat' (first | exact trivial | refine ⟨by simp, ?_⟩)) (by first | exact trivial | exact ⟨⟨rfl, rfl, fun h => by cases h⟩, trivial⟩) ?_ | refine ret_AL rfl rfl rfl (by first | exact trivial | (repeat' (first | exact trivial | refine ⟨by assumption, ?_⟩))) (by repeat' (first | exact trivial | refine ⟨by simp, ?_⟩)) (by first | exact trivial | exact ⟨⟨rfl, rfl, fun h => by cases h⟩, trivial⟩) ?_); (repeat' (first | exact et_end | exact el_end | refine et_int rfl ?_ ?_ | refine et_bool ?_ ?_ | refine et_str ?_ ?_ | refine et_lst rfl rfl ?_ ?_ | refine et_listA rfl (by rfl) (by decide) rfl rfl ?_ ?_ ?_ | refine et_nil ?_ ?_ | refine et_agg0 ?_ ?_ | refine et_agg ?_ ?_ | refine el_int rfl ?_ ?_ | refine el_bool ?_ ?_ | refine el_str ?_ ?_ | refine el_lst rfl rfl ?_ ?_ | refine el_listA rfl (by rfl) (by decide) rfl rfl ?_ ?_ ?_ | refine el_nil ?_ ?_)) <;> first | rfl | (simp; done) | omega
theorem k_DrawDelayCuts (code : List Int) (hz : CodeOk code) :
    ContractP Try.prog 16 true [.list 1 (bytesP code)] [] (fun r' fin' => ∃ (t : Terrain) (cs : List Cut) (n : Int), (r' = .tuple [.agg t.pv, .list 2 (cs.map Cut.pv), .int .i64 n] ∧ fin' = []) ∧ TrSz t ∧ cs.length ≤ 6) := by
  have o0 := cu0_ok hz
  refine contract_of hmix Try.func16 rfl (by kernel_rfl) (by kernel_rfl) (Nat.le_of_ble_eq_true rfl) (fun row h => by cases h) ?_
  have hty_a26 := ty_a26
  have hty_z26 := ty_z26
  have hty_st50 := ty_st50
  have hty_t26 := ty_t26
  have hty_s24 := ty_s24
  have hty_u24 := ty_u24
  repeat' (first | (refine pA (k := ?_)) | (refine g_exec ?_; first | (refine g_call ?_; refine x_callLP [(14, 0)] (k_holding (cu0 code) o0 (by simp)) rfl rfl aF rfl rfl aS rfl (fun r_ fin_ hP_ => ?_); obtain ⟨b, cs, ys, c1, ⟨rfl, rfl⟩, a1, hb, hcs, hys⟩ := hP_; refine ⟨_, _, _, aH, rfl, ?_⟩; simp only [cl]) | (refine x_nil (hK _ _ aI ?_); clear hK K)) | (refine v_region (fun K hK => ?_)))
  have o1 := a1.ok o0 (by simp)
  have p1 := a1.pos
  dsimp only [cu0] at p1
  obtain ⟨n, c2, k2, a2, hn⟩ := k_among c1 [0, 1, 5, 100, 9999, 10000, -1, 30] o1 aO (by decide)
  repeat' (first | (refine pA (k := ?_)) | (refine g_exec ?_; first | (refine g_call ?_; refine x_callL [(14, 0)] (k2) rfl rfl aF rfl rfl aS rfl aH rfl ?_; simp only [cl]) | (refine x_nil (hK _ _ aI ?_); clear hK K)) | (refine v_region (fun K hK => ?_)))
  refine RetPost.mono (fun r fin h => ⟨b.t, cs, n, h, hb.t, hcs⟩) ?_
  (first | refine ret_TL rfl rfl rfl (by first | exact trivial | (repeat' (first | exact trivial | refine ⟨by assumption, ?_⟩))) (by repeat' (first | exact trivial | refine ⟨by simp, ?_⟩)) (by first | exact trivial | exact ⟨⟨rfl, rfl, fun h => by cases h⟩, trivial⟩) ?_ | refine ret_AL rfl rfl rfl (by first | exact trivial | (repeat' (first | exact trivial | refine ⟨by assumption, ?_⟩))) (by repeat' (first | exact trivial | refine ⟨by simp, ?_⟩)) (by first | exact trivial | exact ⟨⟨rfl, rfl, fun h => by cases h⟩, trivial⟩) ?_); (repeat' (first | exact et_end | exact el_end | refine et_int rfl ?_ ?_ | refine et_bool ?_ ?_ | refine et_str ?_ ?_ | refine et_lst rfl rfl ?_ ?_ | refine et_listA rfl (by rfl) (by decide) rfl rfl ?_ ?_ ?_ | refine et_nil ?_ ?_ | refine et_agg0 ?_ ?_ | refine et_agg ?_ ?_ | refine el_int rfl ?_ ?_ | refine el_bool ?_ ?_ | refine el_str ?_ ?_ | refine el_lst rfl rfl ?_ ?_ | refine el_listA rfl (by rfl) (by decide) rfl rfl ?_ ?_ ?_ | refine el_nil ?_ ?_)) <;> first | rfl | (simp; done) | omega
theorem k_DrawLatestCutsD (code : List Int) (hz : CodeOk code) :
    ContractP Try.prog 5 true [.list 1 (bytesP code)] [] (fun r' fin' => ∃ (b : Blz) (zs : List Int), ((r' = .tuple (bzQ b (.olist 3 1 (ints zs))) ∧ fin' = []) ∨ (r' = .tuple (bzQ b (.list 1 (ints zs))) ∧ fin' = [])) ∧ BlzB b ∧ zs.length ≤ 26) := by
  have o0 := cu0_ok hz
  refine contract_of hmix Try.func5 rfl (by kernel_rfl) (by kernel_rfl) (Nat.le_of_ble_eq_true rfl) (fun row h => by cases h) ?_
  have hty_a26 := ty_a26
  have hty_z26 := ty_z26
  have hty_st50 := ty_st50
  have hty_t26 := ty_t26
  have hty_s24 := ty_s24
  have hty_f26_2 := ty_f26_2
  have hty_c24 := ty_c24
  have hty_u24 := ty_u24
  have hty_c3 := ty_c3
  repeat' (first | (refine pA (k := ?_)) | (refine g_exec ?_; first | (refine g_call ?_; refine x_callLP [(16, 0)] (k_fire (cu0 code) o0 (by simp)) rfl rfl aF rfl rfl aS rfl (fun r_ fin_ hP_ => ?_); obtain ⟨b, c1, ⟨rfl, rfl⟩, a1, hb⟩ := hP_; refine ⟨_, _, _, aH, rfl, ?_⟩; simp only [cl]) | (refine g_guard ?_; refine x_gsplit rfl rfl (fun h => ?_) (fun h => ?_) <;> (have h' := h; try simp only [sx] at h')) | (refine x_nil (hK _ _ aI ?_); clear hK K)) | (refine v_region (fun K hK => ?_)) | (refine v_condt rfl (fun h => ?_) (fun h => ?_) <;> (have h' := h; try simp only [sx] at h')))
  have o1 := a1.ok o0 (by simp)
  have p1 := a1.pos
  dsimp only [cu0] at p1
  have ht3 := hb.t.2.2
  have hl1 : (ints b.t.burn).length = b.t.burn.length := by simp
  refine v_loopK [2, 7, 8, 9, 10, 11] [(16, 0), (1001, 0)] (fun q : Nat × Cu × List (List PV) × Nat => [(12, .osl (1001, 0) 0 q.2.2.2), (13, .int .i64 q.1)]) (fun q : Nat × Cu × List (List PV) × Nat => [((16, 0), some ⟨50, 3, [q.2.1.pv], true⟩), ((1001, 0), some ⟨3, 1, q.2.2.1, false⟩)]) (fun q : Nat × Cu × List (List PV) × Nat => q.1 ≤ b.t.burn.length ∧ Aft c1 q.2.1 (2 * q.1) ∧ ∃ us : List Int, q.2.2.1 = ints us ∧ us.length = q.2.2.2 ∧ us.length ≤ q.1) (fun q : Nat × Cu × List (List PV) × Nat => b.t.burn.length - q.1) ((0, c1, [], 0)) rfl rfl (fun _ => rfl) (fun _ => rfl) rfl (by refine ⟨?_, ?_, rfl, rfl⟩ <;> (repeat' (first | exact trivial | exact ⟨rfl, rfl⟩ | exact rfl | exact ⟨sub_fn, refs_fn⟩ | refine ⟨⟨rfl, rfl⟩, ?_⟩ | refine ⟨⟨sub_fn, refs_fn⟩, ?_⟩ | refine ⟨⟨rfl, fun h => Bool.noConfusion h⟩, ?_⟩ | refine ⟨⟨rfl, fun h => ?_⟩, ?_⟩ | refine ⟨rfl, ?_⟩ | refine ⟨?_, ?_⟩ | fail))) ⟨by simp, (Aft.refl c1).le (by simp), [], rfl, rfl, by simp⟩ (fun q hq => ?_)
  obtain ⟨i, d, es, m⟩ := q
  obtain ⟨hi, ad, us, hes, hul, hui⟩ := hq
  simp only at hi ad hes hul hui
  dsimp only
  have od := ad.ok o1 aO
  have pd := ad.pos
  have hel : es.length = m := by rw [hes, ints_len, hul]
  have hme := hel.symm
  rcases Nat.lt_or_ge i b.t.burn.length with hlt | hge
  · obtain ⟨x, hx⟩ := get_ex hlt
    have hxb := ints_at hx
    obtain ⟨y, c2, k2, a2⟩ := k_one d 4 od aO aO
    by_cases hgo : 0 < x
    · cases y with
      | false =>
        repeat' (first | (refine pA (k := ?_)) | (refine g_exec ?_; first | (refine g_call ?_; refine x_callL [(16, 0)] (k2) rfl rfl aF rfl rfl aS rfl aH rfl ?_; simp only [cl]) | (refine g_guard ?_; refine x_gsplit rfl rfl (fun h => ?_) (fun h => ?_) <;> (have h' := h; try simp only [sx] at h')) | (refine x_nil (hK _ _ aI ?_); clear hK K)) | (refine v_region (fun K hK => ?_)) | (refine v_condt rfl (fun h => ?_) (fun h => ?_) <;> (have h' := h; try simp only [sx] at h')))
        all_goals first
          | (exfalso; omega)
          | (refine q_next (i + 1, c2, es, m) rfl (by refine ⟨?_, ?_, rfl, rfl⟩ <;> (repeat' (first | exact trivial | exact ⟨rfl, rfl⟩ | exact rfl | exact ⟨sub_fn, refs_fn⟩ | refine ⟨⟨rfl, rfl⟩, ?_⟩ | refine ⟨⟨sub_fn, refs_fn⟩, ?_⟩ | refine ⟨⟨rfl, fun h => Bool.noConfusion h⟩, ?_⟩ | refine ⟨⟨rfl, fun h => ?_⟩, ?_⟩ | refine ⟨rfl, ?_⟩ | refine ⟨?_, ?_⟩ | fail))) ⟨by simp only; omega, (ad.trans a2).le (by simp only; omega), us, hes, hul, by simp only; omega⟩ (by simp only; omega))
      | true =>
        repeat' (first | (refine pA (k := ?_)) | (refine g_exec ?_; first | (refine g_call ?_; refine x_callL [(16, 0)] (k2) rfl rfl aF rfl rfl aS rfl aH rfl ?_; simp only [cl]) | (refine g_guard ?_; refine x_gsplit rfl rfl (fun h => ?_) (fun h => ?_) <;> (have h' := h; try simp only [sx] at h')) | (refine x_nil (hK _ _ aI ?_); clear hK K)) | (refine v_region (fun K hK => ?_)) | (refine v_condt rfl (fun h => ?_) (fun h => ?_) <;> (have h' := h; try simp only [sx] at h')))
        all_goals first
          | (exfalso; omega)
          | (refine q_next (i + 1, c2, es ++ [[.int .i64 (i : Nat)]], m + 1) rfl (by refine ⟨?_, ?_, rfl, rfl⟩ <;> (repeat' (first | exact trivial | exact ⟨rfl, rfl⟩ | exact rfl | exact ⟨sub_fn, refs_fn⟩ | refine ⟨⟨rfl, rfl⟩, ?_⟩ | refine ⟨⟨sub_fn, refs_fn⟩, ?_⟩ | refine ⟨⟨rfl, fun h => Bool.noConfusion h⟩, ?_⟩ | refine ⟨⟨rfl, fun h => ?_⟩, ?_⟩ | refine ⟨rfl, ?_⟩ | refine ⟨?_, ?_⟩ | fail))) ⟨by simp only; omega, (ad.trans a2).le (by simp only; omega), us ++ [(i : Int)], by simp [hes], by simp [hul], by simp; omega⟩ (by simp only; omega))
    · repeat' (first | (refine pA (k := ?_)) | (refine g_exec ?_; first | (refine g_guard ?_; refine x_gsplit rfl rfl (fun h => ?_) (fun h => ?_) <;> (have h' := h; try simp only [sx] at h')) | (refine x_nil (hK _ _ aI ?_); clear hK K)) | (refine v_region (fun K hK => ?_)) | (refine v_condt rfl (fun h => ?_) (fun h => ?_) <;> (have h' := h; try simp only [sx] at h')))
      all_goals first
        | (exfalso; omega)
        | (refine q_next (i + 1, d, es, m) rfl (by refine ⟨?_, ?_, rfl, rfl⟩ <;> (repeat' (first | exact trivial | exact ⟨rfl, rfl⟩ | exact rfl | exact ⟨sub_fn, refs_fn⟩ | refine ⟨⟨rfl, rfl⟩, ?_⟩ | refine ⟨⟨sub_fn, refs_fn⟩, ?_⟩ | refine ⟨⟨rfl, fun h => Bool.noConfusion h⟩, ?_⟩ | refine ⟨⟨rfl, fun h => ?_⟩, ?_⟩ | refine ⟨rfl, ?_⟩ | refine ⟨?_, ?_⟩ | fail))) ⟨by simp only; omega, ad.le (by simp only; omega), us, hes, hul, by simp only; omega⟩ (by simp only; omega))
  · have hib : i = b.t.burn.length := by omega
    subst hib
    obtain ⟨y, c2, k2, a2⟩ := k_one d 8 od aO aO
    have o2 := a2.ok od aO
    have p2 := a2.pos
    cases y with
    | false =>
      repeat' (first | (refine pA (k := ?_)) | (refine g_exec ?_; first | (refine g_call ?_; refine x_callL [(16, 0)] (k2) rfl rfl aF rfl rfl aS rfl aH rfl ?_; simp only [cl]) | (refine g_guard ?_; refine x_gsplit rfl rfl (fun h => ?_) (fun h => ?_) <;> (have h' := h; try simp only [sx] at h')) | (refine x_nil (hK _ _ aI ?_); clear hK K)) | (refine v_region (fun K hK => ?_)) | (refine v_condt rfl (fun h => ?_) (fun h => ?_) <;> (have h' := h; try simp only [sx] at h')))
      all_goals first
        | (exfalso; omega)
        | (refine RetPost.mono (fun r fin h => ⟨b, us, .inl h, hb, by omega⟩) ?_
           (first | refine ret_TL rfl rfl rfl (by first | exact trivial | (repeat' (first | exact trivial | refine ⟨by assumption, ?_⟩))) (by repeat' (first | exact trivial | refine ⟨by simp, ?_⟩)) (by first | exact trivial | exact ⟨⟨rfl, rfl, fun h => by cases h⟩, trivial⟩) ?_ | refine ret_AL rfl rfl rfl (by first | exact trivial | (repeat' (first | exact trivial | refine ⟨by assumption, ?_⟩))) (by repeat' (first | exact trivial | refine ⟨by simp, ?_⟩)) (by first | exact trivial | exact ⟨⟨rfl, rfl, fun h => by cases h⟩, trivial⟩) ?_); (repeat' (first | exact et_end | exact el_end | refine et_int rfl ?_ ?_ | refine et_bool ?_ ?_ | refine et_str ?_ ?_ | refine et_lst rfl rfl ?_ ?_ | refine et_listA rfl (by rfl) (by decide) rfl rfl ?_ ?_ ?_ | refine et_nil ?_ ?_ | refine et_agg0 ?_ ?_ | refine et_agg ?_ ?_ | refine el_int rfl ?_ ?_ | refine el_bool ?_ ?_ | refine el_str ?_ ?_ | refine el_lst rfl rfl ?_ ?_ | refine el_listA rfl (by rfl) (by decide) rfl rfl ?_ ?_ ?_ | refine el_nil ?_ ?_)) <;> first | rfl | assumption | (simp; done) | omega)
    | true =>
      obtain ⟨zs, c3, k3, a3, hzl⟩ := k_cellsOf c2 b.t o2 aO hb.t
      repeat' (first | (refine pA (k := ?_)) | (refine g_exec ?_; first | (refine g_call ?_; first | (refine x_callL [(16, 0)] (k2) rfl rfl aF rfl rfl aS rfl aH rfl ?_; simp only [cl]) | (refine x_callL [(16, 0)] (k3) rfl rfl aF rfl rfl aS rfl aH rfl ?_; simp only [cl])) | (refine g_guard ?_; refine x_gsplit rfl rfl (fun h => ?_) (fun h => ?_) <;> (have h' := h; try simp only [sx] at h')) | (refine x_nil (hK _ _ aI ?_); clear hK K)) | (refine v_region (fun K hK => ?_)) | (refine v_condt rfl (fun h => ?_) (fun h => ?_) <;> (have h' := h; try simp only [sx] at h')))
      all_goals first
        | (exfalso; omega)
        | (refine RetPost.mono (fun r fin h => ⟨b, zs, .inr h, hb, by omega⟩) ?_
           (first | refine ret_TL rfl rfl rfl (by first | exact trivial | (repeat' (first | exact trivial | refine ⟨by assumption, ?_⟩))) (by repeat' (first | exact trivial | refine ⟨by simp, ?_⟩)) (by first | exact trivial | exact ⟨⟨rfl, rfl, fun h => by cases h⟩, trivial⟩) ?_ | refine ret_AL rfl rfl rfl (by first | exact trivial | (repeat' (first | exact trivial | refine ⟨by assumption, ?_⟩))) (by repeat' (first | exact trivial | refine ⟨by simp, ?_⟩)) (by first | exact trivial | exact ⟨⟨rfl, rfl, fun h => by cases h⟩, trivial⟩) ?_); (repeat' (first | exact et_end | exact el_end | refine et_int rfl ?_ ?_ | refine et_bool ?_ ?_ | refine et_str ?_ ?_ | refine et_lst rfl rfl ?_ ?_ | refine et_listA rfl (by rfl) (by decide) rfl rfl ?_ ?_ ?_ | refine et_nil ?_ ?_ | refine et_agg0 ?_ ?_ | refine et_agg ?_ ?_ | refine el_int rfl ?_ ?_ | refine el_bool ?_ ?_ | refine el_str ?_ ?_ | refine el_lst rfl rfl ?_ ?_ | refine el_listA rfl (by rfl) (by decide) rfl rfl ?_ ?_ ?_ | refine el_nil ?_ ?_)) <;> first | rfl | assumption | (simp; done) | omega)
theorem k_DrawLatestCuts (code : List Int) (hz : CodeOk code) :
    ContractP Try.prog 5 true [.list 1 (bytesP code)] [] (fun r' fin' => ∃ (b : Blz) (zs : List Int), (r' = .tuple (bzQ b (.list 1 (ints zs))) ∧ fin' = []) ∧ BlzB b ∧ zs.length ≤ 26) := by
  refine ContractP.mono ?_ (ConL.frzP (k_DrawLatestCutsD code hz) (by rintro r fin ⟨b, zs, ⟨rfl, rfl⟩ | ⟨rfl, rfl⟩, _⟩ <;> rfl) (by intro row h; simp at h))
  rintro r fin ⟨r', rfl, b, zs, ⟨rfl, rfl⟩ | ⟨rfl, rfl⟩, h⟩
  · exact ⟨b, zs, ⟨rfl, rfl⟩, h⟩
  · exact ⟨b, zs, ⟨rfl, rfl⟩, h⟩
end Go.Vs
set_option linter.unusedVariables false
set_option linter.unusedSimpArgs false
set_option maxRecDepth 100000
set_option maxHeartbeats 4000000
namespace Go.Vs
open Go.Proofs
attribute [local irreducible] exec vwp thenQ blkQ loopQ RetPost
noncomputable section
def slF (b : Blz) (c : Cut) : Int := if tv (arr b) c.cell = -1 then 9999 else tv (arr b) c.cell - c.tick
def slL (b : Blz) (cs : List Cut) : List Int := cs.map (slF b)
theorem slL_len (b : Blz) (cs : List Cut) : (slL b cs).length = cs.length := by simp [slL]
theorem slL_succ {b : Blz} {cs : List Cut} {i : Nat} {c : Cut} (h : cs[i]? = some c) : slL b (cs.take (i + 1)) = slL b (cs.take i) ++ [slF b c] := by simp only [slL, map_take_succ _ h]
theorem k_l25Slacks (b : Blz) (cs : List Cut) (hb : GoodB b) (hc : GoodC b.t cs) (hs : b.src.length ≤ 1099511627776) :
    Con Try.prog 32 [.agg b.t.pv, .list 2 (b.ps.map Phase.pv), .list 1 (ints b.src), .int .i64 b.st, .list 2 (cs.map Cut.pv)] (.olist 3 1 (ints (slL b cs))) := by
  intro al
  refine contract_of hmix Try.func32 rfl (by kernel_rfl) (by kernel_rfl) (Nat.le_of_ble_eq_true rfl) (fun row h => by cases h) ?_
  have hty_s24 := ty_s24
  have hty_a26 := ty_a26
  have hty_u27 := ty_u27
  have hty_s27 := ty_s27
  have hty_u24 := ty_u24
  have hty_u30 := ty_u30
  have hty_s30 := ty_s30
  have hty_f38_0 := ty_f38_0
  have hty_c3 := ty_c3
  have hty_f38_1 := ty_f38_1
  have hl1 : (cs.map Cut.pv).length = cs.length := by simp
  have hcl := hc.2.2
  obtain ⟨hM, hA⟩ := arr_ok hb
  have la : (ints (arr b)).length = b.t.burn.length := by rw [ints_len, hM.pre.len]
  repeat' (first | (refine pA (k := ?_)) | (refine g_exec ?_; first | (refine g_call ?_; refine x_callG true (k_l4Arrivals b hb hs) rfl rfl rfl aS rfl aH ?_; simp only [cl]) | (refine x_nil (hK _ _ aI ?_); clear hK K)) | (refine v_region (fun K hK => ?_)) | (refine v_condt rfl (fun h => ?_) (fun h => ?_) <;> (have h' := h; try simp only [sx] at h')))
  refine v_loopK [4, 12] [] (fun q : Nat × List (List PV) => [(11, .osl (1001, 0) 0 q.1), (13, .int .i64 q.1)]) (fun q : Nat × List (List PV) => [((1001, 0), some ⟨3, 1, q.2, false⟩)]) (fun q : Nat × List (List PV) => q.1 ≤ cs.length ∧ q.2 = ints (slL b (cs.take q.1))) (fun q : Nat × List (List PV) => cs.length - q.1) ((0, [])) rfl rfl (fun _ => rfl) (fun _ => rfl) rfl (by refine ⟨?_, ?_, rfl, rfl⟩ <;> (repeat' (first | exact trivial | exact ⟨rfl, rfl⟩ | exact rfl | exact ⟨sub_fn, refs_fn⟩ | refine ⟨⟨rfl, rfl⟩, ?_⟩ | refine ⟨⟨sub_fn, refs_fn⟩, ?_⟩ | refine ⟨⟨rfl, fun h => Bool.noConfusion h⟩, ?_⟩ | refine ⟨⟨rfl, fun h => ?_⟩, ?_⟩ | refine ⟨rfl, ?_⟩ | refine ⟨?_, ?_⟩ | fail))) ⟨by simp, by simp [slL]⟩ (fun q hq => ?_)
  obtain ⟨i, es⟩ := q
  obtain ⟨h1, h2⟩ := hq
  simp only at h1 h2
  have hl : es.length = i := by rw [h2, ints_len, slL_len, List.length_take]; omega
  dsimp only
  rcases Nat.lt_or_ge i cs.length with hlt | hge
  · obtain ⟨c, hgc⟩ := get_ex hlt
    have hx := Cut.at hgc
    have ho := hc.2.one c (get_mem hgc)
    have hcc := ho.1
    unfold IsCell at hcc
    have hat : (ints (arr b))[c.cell.toNat]? = some [.int .i64 (tv (arr b) c.cell)] := tv_int (cell_inT hM.pre.len ho.1)
    have hle := hM.le hb ho.1
    have htk := ho.2.2
    by_cases hne : tv (arr b) c.cell = -1
    · have hsl : slF b c = 9999 := by rw [slF, if_pos hne]
      repeat' (first | (refine pA (k := ?_)) | (refine g_exec ?_; refine x_nil (hK _ _ aI ?_); clear hK K) | (refine v_region (fun K hK => ?_)) | (refine v_condt rfl (fun h => ?_) (fun h => ?_) <;> (have h' := h; try simp only [sx] at h')))
      all_goals first
        | (exfalso; omega)
        | (refine q_next (i + 1, es ++ [[.int .i64 9999]]) rfl (by refine ⟨?_, ?_, rfl, rfl⟩ <;> (repeat' (first | exact trivial | exact ⟨rfl, rfl⟩ | exact rfl | exact ⟨sub_fn, refs_fn⟩ | refine ⟨⟨rfl, rfl⟩, ?_⟩ | refine ⟨⟨sub_fn, refs_fn⟩, ?_⟩ | refine ⟨⟨rfl, fun h => Bool.noConfusion h⟩, ?_⟩ | refine ⟨⟨rfl, fun h => ?_⟩, ?_⟩ | refine ⟨rfl, ?_⟩ | refine ⟨?_, ?_⟩ | fail))) ⟨by simp only; omega, by simp only [slL_succ hgc, hsl, ints_snoc, h2]⟩ (by simp only; omega))
    · have hge2 := (hM.ge hb ho.1 hne).1
      have hsl : slF b c = tv (arr b) c.cell - c.tick := by rw [slF, if_neg hne]
      repeat' (first | (refine pA (k := ?_)) | (refine g_exec ?_; refine x_nil (hK _ _ aI ?_); clear hK K) | (refine v_region (fun K hK => ?_)) | (refine v_condt rfl (fun h => ?_) (fun h => ?_) <;> (have h' := h; try simp only [sx] at h')))
      all_goals first
        | (exfalso; omega)
        | (refine q_next (i + 1, es ++ [[.int .i64 (tv (arr b) c.cell - c.tick)]]) rfl (by refine ⟨?_, ?_, rfl, rfl⟩ <;> (repeat' (first | exact trivial | exact ⟨rfl, rfl⟩ | exact rfl | exact ⟨sub_fn, refs_fn⟩ | refine ⟨⟨rfl, rfl⟩, ?_⟩ | refine ⟨⟨sub_fn, refs_fn⟩, ?_⟩ | refine ⟨⟨rfl, fun h => Bool.noConfusion h⟩, ?_⟩ | refine ⟨⟨rfl, fun h => ?_⟩, ?_⟩ | refine ⟨rfl, ?_⟩ | refine ⟨?_, ?_⟩ | fail))) ⟨by simp only; omega, by simp only [slL_succ hgc, hsl, ints_snoc, h2]⟩ (by simp only; omega))
  · repeat' (first | (refine pA (k := ?_)) | (refine g_exec ?_; refine x_nil (hK _ _ aI ?_); clear hK K) | (refine v_region (fun K hK => ?_)) | (refine v_condt rfl (fun h => ?_) (fun h => ?_) <;> (have h' := h; try simp only [sx] at h')))
    rw [take_all hge] at h2
    exact ret_list rfl (lookE_ok (by rfl)) (by rfl) (by decide) hl.symm (by rw [h2]; exact ints_flat _) h2
theorem k_slacks (b : Blz) (cs : List Cut) (hb : GoodB b) (hc : GoodC b.t cs) (hs : b.src.length ≤ 1099511627776) :
    Con Try.prog 30 [.agg b.t.pv, .list 2 (b.ps.map Phase.pv), .list 1 (ints b.src), .int .i64 b.st, .list 2 (cs.map Cut.pv)] (.olist 3 1 (ints (slL b cs))) := by
  intro al
  refine contract_of hmix Try.func30 rfl (by kernel_rfl) (by kernel_rfl) (Nat.le_of_ble_eq_true rfl) (fun row h => by cases h) ?_
  have hty_a26 := ty_a26
  have hty_u27 := ty_u27
  have hty_s27 := ty_s27
  have hty_u24 := ty_u24
  have hty_s24 := ty_s24
  have hty_u30 := ty_u30
  have hty_s30 := ty_s30
  have hty_a38 := ty_a38
  have hty_z38 := ty_z38
  have hty_t38 := ty_t38
  have hty_f38_0 := ty_f38_0
  have hty_c3 := ty_c3
  have hty_f38_1 := ty_f38_1
  have hl1 : (cs.map Cut.pv).length = cs.length := by simp
  have hcl := hc.2.2
  obtain ⟨hM, hA⟩ := arr_ok hb
  have la : (ints (arr b)).length = b.t.burn.length := by rw [ints_len, hM.pre.len]
  repeat' (first | (refine pA (k := ?_)) | (refine g_exec ?_; first | (refine g_call ?_; refine x_callG true (k_arrivals b hb hs) rfl rfl rfl aS rfl aH ?_; simp only [cl]) | (refine x_nil (hK _ _ aI ?_); clear hK K)) | (refine v_region (fun K hK => ?_)) | (refine v_condt rfl (fun h => ?_) (fun h => ?_) <;> (have h' := h; try simp only [sx] at h')))
  refine v_loopK [11, 21, 22] [] (fun q : Nat × List (List PV) => [(12, .osl (1001, 0) 0 q.1), (23, .int .i64 q.1)]) (fun q : Nat × List (List PV) => [((1001, 0), some ⟨3, 1, q.2, false⟩)]) (fun q : Nat × List (List PV) => q.1 ≤ cs.length ∧ q.2 = ints (slL b (cs.take q.1))) (fun q : Nat × List (List PV) => cs.length - q.1) ((0, [])) rfl rfl (fun _ => rfl) (fun _ => rfl) rfl (by refine ⟨?_, ?_, rfl, rfl⟩ <;> (repeat' (first | exact trivial | exact ⟨rfl, rfl⟩ | exact rfl | exact ⟨sub_fn, refs_fn⟩ | refine ⟨⟨rfl, rfl⟩, ?_⟩ | refine ⟨⟨sub_fn, refs_fn⟩, ?_⟩ | refine ⟨⟨rfl, fun h => Bool.noConfusion h⟩, ?_⟩ | refine ⟨⟨rfl, fun h => ?_⟩, ?_⟩ | refine ⟨rfl, ?_⟩ | refine ⟨?_, ?_⟩ | fail))) ⟨by simp, by simp [slL]⟩ (fun q hq => ?_)
  obtain ⟨i, es⟩ := q
  obtain ⟨h1, h2⟩ := hq
  simp only at h1 h2
  have hl : es.length = i := by rw [h2, ints_len, slL_len, List.length_take]; omega
  dsimp only
  rcases Nat.lt_or_ge i cs.length with hlt | hge
  · obtain ⟨c, hgc⟩ := get_ex hlt
    have hx := Cut.at hgc
    have ho := hc.2.one c (get_mem hgc)
    have hcc := ho.1
    unfold IsCell at hcc
    have hat : (ints (arr b))[c.cell.toNat]? = some [.int .i64 (tv (arr b) c.cell)] := tv_int (cell_inT hM.pre.len ho.1)
    have hle := hM.le hb ho.1
    have htk := ho.2.2
    by_cases hne : tv (arr b) c.cell = -1
    · have hsl : slF b c = 9999 := by rw [slF, if_pos hne]
      repeat' (first | (refine pA (k := ?_)) | (refine g_exec ?_; refine x_nil (hK _ _ aI ?_); clear hK K) | (refine v_region (fun K hK => ?_)) | (refine v_condt rfl (fun h => ?_) (fun h => ?_) <;> (have h' := h; try simp only [sx] at h')))
      all_goals first
        | (exfalso; omega)
        | (refine q_next (i + 1, es ++ [[.int .i64 9999]]) rfl (by refine ⟨?_, ?_, rfl, rfl⟩ <;> (repeat' (first | exact trivial | exact ⟨rfl, rfl⟩ | exact rfl | exact ⟨sub_fn, refs_fn⟩ | refine ⟨⟨rfl, rfl⟩, ?_⟩ | refine ⟨⟨sub_fn, refs_fn⟩, ?_⟩ | refine ⟨⟨rfl, fun h => Bool.noConfusion h⟩, ?_⟩ | refine ⟨⟨rfl, fun h => ?_⟩, ?_⟩ | refine ⟨rfl, ?_⟩ | refine ⟨?_, ?_⟩ | fail))) ⟨by simp only; omega, by simp only [slL_succ hgc, hsl, ints_snoc, h2]⟩ (by simp only; omega))
    · have hge2 := (hM.ge hb ho.1 hne).1
      have hsl : slF b c = tv (arr b) c.cell - c.tick := by rw [slF, if_neg hne]
      repeat' (first | (refine pA (k := ?_)) | (refine g_exec ?_; refine x_nil (hK _ _ aI ?_); clear hK K) | (refine v_region (fun K hK => ?_)) | (refine v_condt rfl (fun h => ?_) (fun h => ?_) <;> (have h' := h; try simp only [sx] at h')))
      all_goals first
        | (exfalso; omega)
        | (refine q_next (i + 1, es ++ [[.int .i64 (tv (arr b) c.cell - c.tick)]]) rfl (by refine ⟨?_, ?_, rfl, rfl⟩ <;> (repeat' (first | exact trivial | exact ⟨rfl, rfl⟩ | exact rfl | exact ⟨sub_fn, refs_fn⟩ | refine ⟨⟨rfl, rfl⟩, ?_⟩ | refine ⟨⟨sub_fn, refs_fn⟩, ?_⟩ | refine ⟨⟨rfl, fun h => Bool.noConfusion h⟩, ?_⟩ | refine ⟨⟨rfl, fun h => ?_⟩, ?_⟩ | refine ⟨rfl, ?_⟩ | refine ⟨?_, ?_⟩ | fail))) ⟨by simp only; omega, by simp only [slL_succ hgc, hsl, ints_snoc, h2]⟩ (by simp only; omega))
  · repeat' (first | (refine pA (k := ?_)) | (refine g_exec ?_; refine x_nil (hK _ _ aI ?_); clear hK K) | (refine v_region (fun K hK => ?_)) | (refine v_condt rfl (fun h => ?_) (fun h => ?_) <;> (have h' := h; try simp only [sx] at h')))
    rw [take_all hge] at h2
    exact ret_list rfl (lookE_ok (by rfl)) (by rfl) (by decide) hl.symm (by rw [h2]; exact ints_flat _) h2
def SoOk (b : Blz) (cs : List Cut) : Prop := GoodB b ∧ GoodC b.t cs
instance (b : Blz) (cs : List Cut) : Decidable (SoOk b cs) := by unfold SoOk; infer_instance
def soL (b : Blz) (cs : List Cut) : List Int := if SoOk b cs then slL b cs else []
theorem soL_len (b : Blz) (cs : List Cut) : (soL b cs).length ≤ cs.length := by unfold soL; split <;> simp [slL_len]
@[reducible] def soRes (b : Blz) (cs : List Cut) : PV := .tuple [.olist 3 1 (ints (soL b cs)), .bool (decide (SoOk b cs))]
theorem k_iSlacks (b : Blz) (cs : List Cut) (z : SzB b) (hm : cs.length ≤ 1099511627776) :
    Con Try.prog 9 [.agg b.t.pv, .list 2 (b.ps.map Phase.pv), .list 1 (ints b.src), .int .i64 b.st, .list 2 (cs.map Cut.pv)] (soRes b cs) := by
  intro al
  refine contract_of hmix Try.func9 rfl (by kernel_rfl) (by kernel_rfl) (Nat.le_of_ble_eq_true rfl) (fun row h => by cases h) ?_
  have hty_a26 := ty_a26
  have hty_u27 := ty_u27
  have hty_s27 := ty_s27
  have hty_u24 := ty_u24
  have hty_s24 := ty_s24
  have hty_u30 := ty_u30
  have hty_s30 := ty_s30
  have k1 := k_isFire b z
  have k2 := k_iAreCuts b.t cs z.hn hm
  by_cases hb : GoodB b
  · rw [decide_eq_true hb] at k1
    by_cases hc : GoodC b.t cs
    · rw [decide_eq_true hc] at k2
      have hok : SoOk b cs := ⟨hb, hc⟩
      rw [soRes, decide_eq_true hok, soL, if_pos hok]
      repeat' (first | (refine pA (k := ?_)) | (refine g_exec ?_; first | (refine g_call ?_; first | (refine x_callG true (k1) rfl rfl rfl aS rfl aH ?_; simp only [cl]) | (refine x_callG true (k2) rfl rfl rfl aS rfl aH ?_; simp only [cl]) | (refine x_callG true (k_slacks b cs hb hc z.hs) rfl rfl rfl aS rfl aH ?_; simp only [cl])) | (refine g_guard ?_; refine x_gsplit rfl rfl (fun h => ?_) (fun h => ?_) <;> (have h' := h; try simp only [sx] at h')) | (refine x_nil (hK _ _ aI ?_); clear hK K)) | (refine v_region (fun K hK => ?_)) | (refine v_condt rfl (fun h => ?_) (fun h => ?_) <;> (have h' := h; try simp only [sx] at h')))
      exact aR
    · rw [decide_eq_false hc] at k2
      have hok : ¬ SoOk b cs := fun h => hc h.2
      rw [soRes, decide_eq_false hok, soL, if_neg hok]
      repeat' (first | (refine pA (k := ?_)) | (refine g_exec ?_; first | (refine g_call ?_; first | (refine x_callG true (k1) rfl rfl rfl aS rfl aH ?_; simp only [cl]) | (refine x_callG true (k2) rfl rfl rfl aS rfl aH ?_; simp only [cl])) | (refine g_guard ?_; refine x_gsplit rfl rfl (fun h => ?_) (fun h => ?_) <;> (have h' := h; try simp only [sx] at h')) | (refine x_nil (hK _ _ aI ?_); clear hK K)) | (refine v_region (fun K hK => ?_)) | (refine v_condt rfl (fun h => ?_) (fun h => ?_) <;> (have h' := h; try simp only [sx] at h')))
      exact aR
  · rw [decide_eq_false hb] at k1
    have hok : ¬ SoOk b cs := fun h => hb h.1
    rw [soRes, decide_eq_false hok, soL, if_neg hok]
    repeat' (first | (refine pA (k := ?_)) | (refine g_exec ?_; first | (refine g_call ?_; first | (refine x_callG true (k1) rfl rfl rfl aS rfl aH ?_; simp only [cl]) | (refine x_callG true (k2) rfl rfl rfl aS rfl aH ?_; simp only [cl])) | (refine g_guard ?_; refine x_gsplit rfl rfl (fun h => ?_) (fun h => ?_) <;> (have h' := h; try simp only [sx] at h')) | (refine x_nil (hK _ _ aI ?_); clear hK K)) | (refine v_region (fun K hK => ?_)) | (refine v_condt rfl (fun h => ?_) (fun h => ?_) <;> (have h' := h; try simp only [sx] at h')))
    exact aR
end
end Go.Vs
set_option linter.unusedVariables false
set_option linter.unusedSimpArgs false
set_option maxRecDepth 100000
set_option maxHeartbeats 4000000
namespace Go.Vs
open Go.Proofs
attribute [local irreducible] exec vwp thenQ blkQ loopQ RetPost
noncomputable section
theorem k_sSlacks (b : Blz) (cs : List Cut) (z : SzB b) (hm : cs.length ≤ 1099511627776) :
    Con Try.prog 14 [.agg b.t.pv, .list 2 (b.ps.map Phase.pv), .list 1 (ints b.src), .int .i64 b.st, .list 2 (cs.map Cut.pv)] (soRes b cs) := by
  intro al
  refine contract_of hmix Try.func14 rfl (by kernel_rfl) (by kernel_rfl) (Nat.le_of_ble_eq_true rfl) (fun row h => by cases h) ?_
  have hty_a26 := ty_a26
  have hty_u27 := ty_u27
  have hty_s27 := ty_s27
  have hty_u24 := ty_u24
  have hty_s24 := ty_s24
  have hty_u30 := ty_u30
  have hty_s30 := ty_s30
  have k1 := k_l4Asked b z
  have k2 := k_l25Good b.t cs z.hn hm
  by_cases hb : GoodB b
  · rw [decide_eq_true hb] at k1
    by_cases hc : GoodC b.t cs
    · rw [decide_eq_true hc] at k2
      have hok : SoOk b cs := ⟨hb, hc⟩
      rw [soRes, decide_eq_true hok, soL, if_pos hok]
      repeat' (first | (refine pA (k := ?_)) | (refine g_exec ?_; first | (refine g_call ?_; first | (refine x_callG true (k1) rfl rfl rfl aS rfl aH ?_; simp only [cl]) | (refine x_callG true (k2) rfl rfl rfl aS rfl aH ?_; simp only [cl]) | (refine x_callG true (k_l25Slacks b cs hb hc z.hs) rfl rfl rfl aS rfl aH ?_; simp only [cl])) | (refine g_guard ?_; refine x_gsplit rfl rfl (fun h => ?_) (fun h => ?_) <;> (have h' := h; try simp only [sx] at h')) | (refine x_nil (hK _ _ aI ?_); clear hK K)) | (refine v_region (fun K hK => ?_)) | (refine v_condt rfl (fun h => ?_) (fun h => ?_) <;> (have h' := h; try simp only [sx] at h')))
      exact aR
    · rw [decide_eq_false hc] at k2
      have hok : ¬ SoOk b cs := fun h => hc h.2
      rw [soRes, decide_eq_false hok, soL, if_neg hok]
      repeat' (first | (refine pA (k := ?_)) | (refine g_exec ?_; first | (refine g_call ?_; first | (refine x_callG true (k1) rfl rfl rfl aS rfl aH ?_; simp only [cl]) | (refine x_callG true (k2) rfl rfl rfl aS rfl aH ?_; simp only [cl])) | (refine g_guard ?_; refine x_gsplit rfl rfl (fun h => ?_) (fun h => ?_) <;> (have h' := h; try simp only [sx] at h')) | (refine x_nil (hK _ _ aI ?_); clear hK K)) | (refine v_region (fun K hK => ?_)) | (refine v_condt rfl (fun h => ?_) (fun h => ?_) <;> (have h' := h; try simp only [sx] at h')))
      exact aR
  · rw [decide_eq_false hb] at k1
    have hok : ¬ SoOk b cs := fun h => hb h.1
    rw [soRes, decide_eq_false hok, soL, if_neg hok]
    repeat' (first | (refine pA (k := ?_)) | (refine g_exec ?_; first | (refine g_call ?_; first | (refine x_callG true (k1) rfl rfl rfl aS rfl aH ?_; simp only [cl]) | (refine x_callG true (k2) rfl rfl rfl aS rfl aH ?_; simp only [cl])) | (refine g_guard ?_; refine x_gsplit rfl rfl (fun h => ?_) (fun h => ?_) <;> (have h' := h; try simp only [sx] at h')) | (refine x_nil (hK _ _ aI ?_); clear hK K)) | (refine v_region (fun K hK => ?_)) | (refine v_condt rfl (fun h => ?_) (fun h => ?_) <;> (have h' := h; try simp only [sx] at h')))
    exact aR
end
end Go.Vs
set_option linter.unusedVariables false
set_option linter.unusedSimpArgs false
set_option maxRecDepth 100000
set_option maxHeartbeats 4000000
namespace Go.Vs
open Go.Proofs
attribute [local irreducible] exec vwp thenQ blkQ loopQ RetPost
noncomputable section
@[reducible] def negAt (L : List Int) (i : Nat) : Int := -(L.getD i 0)
theorem k_l25Weakest (L : List Int) (h0 : 1 ≤ L.length ∧ L.length ≤ 8) : Con Try.prog 33 [.list 1 (ints L)] (.int .i64 (amax (negAt L) L.length : Nat)) := by
  intro al
  refine contract_of hmix Try.func33 rfl (by kernel_rfl) (by kernel_rfl) (Nat.le_of_ble_eq_true rfl) (fun row h => by cases h) ?_
  have hty_u24 := ty_u24
  have hty_s24 := ty_s24
  have hty_c3 := ty_c3
  have hl1 : (ints L).length = L.length := by simp
  repeat' (first | (refine pA (k := ?_)) | (refine g_exec ?_; refine x_nil (hK _ _ aI ?_); clear hK K) | (refine v_region (fun K hK => ?_)) | (refine v_condt rfl (fun h => ?_) (fun h => ?_) <;> (have h' := h; try simp only [sx] at h')))
  refine v_loopK [0] [] (fun q : Nat × Nat => [(3, .int .i64 q.2), (4, .int .i64 q.1)]) (fun q : Nat × Nat => []) (fun q : Nat × Nat => (1 ≤ q.1 ∧ q.1 ≤ L.length) ∧ q.2 = amax (negAt L) q.1) (fun q : Nat × Nat => L.length - q.1) ((1, 0)) rfl rfl (fun _ => rfl) (fun _ => rfl) rfl (by refine ⟨?_, ?_, rfl, rfl⟩ <;> (repeat' (first | exact trivial | exact ⟨rfl, rfl⟩ | exact rfl | exact ⟨sub_fn, refs_fn⟩ | refine ⟨⟨rfl, rfl⟩, ?_⟩ | refine ⟨⟨sub_fn, refs_fn⟩, ?_⟩ | refine ⟨⟨rfl, fun h => Bool.noConfusion h⟩, ?_⟩ | refine ⟨⟨rfl, fun h => ?_⟩, ?_⟩ | refine ⟨rfl, ?_⟩ | refine ⟨?_, ?_⟩ | fail))) ⟨by simp only; omega, (amax_one _).symm⟩ (fun q hq => ?_)
  obtain ⟨i, m⟩ := q
  obtain ⟨hi, hm⟩ := hq
  simp only at hi hm
  dsimp only
  rcases Nat.lt_or_ge i L.length with hlt | hge
  · have hml := amax_lt (negAt L) i aO
    obtain ⟨x, hx⟩ := get_ex hlt
    obtain ⟨y, hy⟩ := get_ex (show m < L.length by omega)
    have hxa := ints_at hx
    have hya := ints_at hy
    have e1 : negAt L i = -x := by rw [negAt, getI hx]
    have e2 : negAt L (amax (negAt L) i) = -y := by rw [← hm, negAt, getI hy]
    have e3 : amax (negAt L) (i + 1) = if -x > -y then i else m := by rw [amax, e1, e2, ← hm]
    by_cases hc : x < y
    · rw [if_pos aO] at e3
      repeat' (first | (refine pA (k := ?_)) | (refine g_exec ?_; refine x_nil (hK _ _ aI ?_); clear hK K) | (refine v_region (fun K hK => ?_)) | (refine v_condt rfl (fun h => ?_) (fun h => ?_) <;> (have h' := h; try simp only [sx] at h')))
      all_goals first
        | (exfalso; omega)
        | (refine q_next (i + 1, i) rfl (by refine ⟨?_, ?_, rfl, rfl⟩ <;> (repeat' (first | exact trivial | exact ⟨rfl, rfl⟩ | exact rfl | exact ⟨sub_fn, refs_fn⟩ | refine ⟨⟨rfl, rfl⟩, ?_⟩ | refine ⟨⟨sub_fn, refs_fn⟩, ?_⟩ | refine ⟨⟨rfl, fun h => Bool.noConfusion h⟩, ?_⟩ | refine ⟨⟨rfl, fun h => ?_⟩, ?_⟩ | refine ⟨rfl, ?_⟩ | refine ⟨?_, ?_⟩ | fail))) ⟨by simp only; omega, by simp only [e3]⟩ (by simp only; omega))
    · rw [if_neg aO] at e3
      repeat' (first | (refine pA (k := ?_)) | (refine g_exec ?_; refine x_nil (hK _ _ aI ?_); clear hK K) | (refine v_region (fun K hK => ?_)) | (refine v_condt rfl (fun h => ?_) (fun h => ?_) <;> (have h' := h; try simp only [sx] at h')))
      all_goals first
        | (exfalso; omega)
        | (refine q_next (i + 1, m) rfl (by refine ⟨?_, ?_, rfl, rfl⟩ <;> (repeat' (first | exact trivial | exact ⟨rfl, rfl⟩ | exact rfl | exact ⟨sub_fn, refs_fn⟩ | refine ⟨⟨rfl, rfl⟩, ?_⟩ | refine ⟨⟨sub_fn, refs_fn⟩, ?_⟩ | refine ⟨⟨rfl, fun h => Bool.noConfusion h⟩, ?_⟩ | refine ⟨⟨rfl, fun h => ?_⟩, ?_⟩ | refine ⟨rfl, ?_⟩ | refine ⟨?_, ?_⟩ | fail))) ⟨by simp only; omega, by simp only [e3]⟩ (by simp only; omega))
  · have : i = L.length := by omega
    subst this
    subst hm
    repeat' (first | (refine pA (k := ?_)) | (refine g_exec ?_; refine x_nil (hK _ _ aI ?_); clear hK K) | (refine v_region (fun K hK => ?_)) | (refine v_condt rfl (fun h => ?_) (fun h => ?_) <;> (have h' := h; try simp only [sx] at h')))
    exact ret_int rfl (lookE_ok rfl) rfl
def WkOk (b : Blz) (cs : List Cut) : Prop := SoOk b cs ∧ 1 ≤ cs.length
instance (b : Blz) (cs : List Cut) : Decidable (WkOk b cs) := by unfold WkOk; infer_instance
@[reducible] def wkI (b : Blz) (cs : List Cut) : Nat := amax (negAt (slL b cs)) (slL b cs).length
@[reducible] def wkRes (b : Blz) (cs : List Cut) : PV := .tuple [.int .i64 (if decide (WkOk b cs) = true then (wkI b cs : Nat) else 0), .int .i64 (if decide (WkOk b cs) = true then (slL b cs).getD (wkI b cs) 0 else 0), .bool (decide (WkOk b cs))]
theorem k_sWeakest (b : Blz) (cs : List Cut) (z : SzB b) (hm : cs.length ≤ 1099511627776) :
    Con Try.prog 13 [.agg b.t.pv, .list 2 (b.ps.map Phase.pv), .list 1 (ints b.src), .int .i64 b.st, .list 2 (cs.map Cut.pv)] (wkRes b cs) := by
  intro al
  refine contract_of hmix Try.func13 rfl (by kernel_rfl) (by kernel_rfl) (Nat.le_of_ble_eq_true rfl) (fun row h => by cases h) ?_
  have hty_a26 := ty_a26
  have hty_u27 := ty_u27
  have hty_s27 := ty_s27
  have hty_u24 := ty_u24
  have hty_s24 := ty_s24
  have hty_u30 := ty_u30
  have hty_s30 := ty_s30
  have hty_c3 := ty_c3
  have hl1 : (cs.map Cut.pv).length = cs.length := by simp
  have k1 := k_l4Asked b z
  have k2 := k_l25Good b.t cs z.hn hm
  by_cases hb : GoodB b
  · rw [decide_eq_true hb] at k1
    by_cases hc : GoodC b.t cs
    · rw [decide_eq_true hc] at k2
      have hcl := hc.2.2
      by_cases h1 : 1 ≤ cs.length
      · have hok : WkOk b cs := ⟨⟨hb, hc⟩, h1⟩
        have hll := slL_len b cs
        have hl2 : (ints (slL b cs)).length = cs.length := by rw [ints_len, hll]
        have hml := amax_lt (negAt (slL b cs)) (slL b cs).length aO
        obtain ⟨y, hy⟩ := get_ex hml
        have hya := ints_at hy
        have ey := getI hy
        have kW := k_l25Weakest (slL b cs) aO
        generalize hw : amax (negAt (slL b cs)) (slL b cs).length = w at *
        rw [wkRes, decide_eq_true hok, wkI, hw, ey]
        repeat' (first | (refine pA (k := ?_)) | (refine g_exec ?_; first | (refine g_call ?_; first | (refine x_callG true (k1) rfl rfl rfl aS rfl aH ?_; simp only [cl]) | (refine x_callG true (k2) rfl rfl rfl aS rfl aH ?_; simp only [cl]) | (refine x_callG true (k_l25Slacks b cs hb hc z.hs) rfl rfl rfl aS rfl aH ?_; simp only [cl]) | (refine x_callG true (kW) rfl rfl rfl aS rfl aH ?_; simp only [cl])) | (refine g_guard ?_; refine x_gsplit rfl rfl (fun h => ?_) (fun h => ?_) <;> (have h' := h; try simp only [sx] at h')) | (refine x_nil (hK _ _ aI ?_); clear hK K)) | (refine v_region (fun K hK => ?_)) | (refine v_condt rfl (fun h => ?_) (fun h => ?_) <;> (have h' := h; try simp only [sx] at h')))
        exact aR
      · have hok : ¬ WkOk b cs := fun h => h1 h.2
        rw [wkRes, decide_eq_false hok]
        repeat' (first | (refine pA (k := ?_)) | (refine g_exec ?_; first | (refine g_call ?_; first | (refine x_callG true (k1) rfl rfl rfl aS rfl aH ?_; simp only [cl]) | (refine x_callG true (k2) rfl rfl rfl aS rfl aH ?_; simp only [cl])) | (refine g_guard ?_; refine x_gsplit rfl rfl (fun h => ?_) (fun h => ?_) <;> (have h' := h; try simp only [sx] at h')) | (refine x_nil (hK _ _ aI ?_); clear hK K)) | (refine v_region (fun K hK => ?_)) | (refine v_condt rfl (fun h => ?_) (fun h => ?_) <;> (have h' := h; try simp only [sx] at h')))
        all_goals first | (exfalso; omega) | exact aR
    · rw [decide_eq_false hc] at k2
      have hok : ¬ WkOk b cs := fun h => hc h.1.2
      rw [wkRes, decide_eq_false hok]
      repeat' (first | (refine pA (k := ?_)) | (refine g_exec ?_; first | (refine g_call ?_; first | (refine x_callG true (k1) rfl rfl rfl aS rfl aH ?_; simp only [cl]) | (refine x_callG true (k2) rfl rfl rfl aS rfl aH ?_; simp only [cl])) | (refine g_guard ?_; refine x_gsplit rfl rfl (fun h => ?_) (fun h => ?_) <;> (have h' := h; try simp only [sx] at h')) | (refine x_nil (hK _ _ aI ?_); clear hK K)) | (refine v_region (fun K hK => ?_)) | (refine v_condt rfl (fun h => ?_) (fun h => ?_) <;> (have h' := h; try simp only [sx] at h')))
      exact aR
  · rw [decide_eq_false hb] at k1
    have hok : ¬ WkOk b cs := fun h => hb h.1.1
    rw [wkRes, decide_eq_false hok]
    repeat' (first | (refine pA (k := ?_)) | (refine g_exec ?_; first | (refine g_call ?_; first | (refine x_callG true (k1) rfl rfl rfl aS rfl aH ?_; simp only [cl]) | (refine x_callG true (k2) rfl rfl rfl aS rfl aH ?_; simp only [cl])) | (refine g_guard ?_; refine x_gsplit rfl rfl (fun h => ?_) (fun h => ?_) <;> (have h' := h; try simp only [sx] at h')) | (refine x_nil (hK _ _ aI ?_); clear hK K)) | (refine v_region (fun K hK => ?_)) | (refine v_condt rfl (fun h => ?_) (fun h => ?_) <;> (have h' := h; try simp only [sx] at h')))
    exact aR
theorem k_iWeakest (b : Blz) (cs : List Cut) (z : SzB b) (hm : cs.length ≤ 1099511627776) :
    Con Try.prog 12 [.agg b.t.pv, .list 2 (b.ps.map Phase.pv), .list 1 (ints b.src), .int .i64 b.st, .list 2 (cs.map Cut.pv)] (wkRes b cs) := by
  intro al
  refine contract_of hmix Try.func12 rfl (by kernel_rfl) (by kernel_rfl) (Nat.le_of_ble_eq_true rfl) (fun row h => by cases h) ?_
  have hty_a26 := ty_a26
  have hty_u27 := ty_u27
  have hty_s27 := ty_s27
  have hty_u24 := ty_u24
  have hty_s24 := ty_s24
  have hty_u30 := ty_u30
  have hty_s30 := ty_s30
  have hty_c3 := ty_c3
  have hl1 : (cs.map Cut.pv).length = cs.length := by simp
  have k1 := k_iSlacks b cs z hm
  by_cases hso : SoOk b cs
  · rw [soRes, decide_eq_true hso, soL, if_pos hso] at k1
    have hcl := hso.2.2.2
    have hll := slL_len b cs
    have hl2 : (ints (slL b cs)).length = cs.length := by rw [ints_len, hll]
    by_cases h1 : 1 ≤ cs.length
    · have hok : WkOk b cs := ⟨hso, h1⟩
      rw [wkRes, decide_eq_true hok, wkI]
      generalize slL b cs = L at *
      repeat' (first | (refine pA (k := ?_)) | (refine g_exec ?_; first | (refine g_call ?_; refine x_callG true (k1) rfl rfl rfl aS rfl aH ?_; simp only [cl]) | (refine g_guard ?_; refine x_gsplit rfl rfl (fun h => ?_) (fun h => ?_) <;> (have h' := h; try simp only [sx] at h')) | (refine x_nil (hK _ _ aI ?_); clear hK K)) | (refine v_region (fun K hK => ?_)) | (refine v_condt rfl (fun h => ?_) (fun h => ?_) <;> (have h' := h; try simp only [sx] at h')))
      all_goals try (exfalso; omega)
      refine v_loopK [13, 34, 35] [] (fun q : Nat × Nat => [(15, .int .i64 q.2), (36, .int .i64 q.1)]) (fun q : Nat × Nat => []) (fun q : Nat × Nat => q.1 ≤ L.length ∧ q.2 = amax (negAt L) q.1) (fun q : Nat × Nat => L.length - q.1) ((0, 0)) rfl rfl (fun _ => rfl) (fun _ => rfl) rfl (by refine ⟨?_, ?_, rfl, rfl⟩ <;> (repeat' (first | exact trivial | exact ⟨rfl, rfl⟩ | exact rfl | exact ⟨sub_fn, refs_fn⟩ | refine ⟨⟨rfl, rfl⟩, ?_⟩ | refine ⟨⟨sub_fn, refs_fn⟩, ?_⟩ | refine ⟨⟨rfl, fun h => Bool.noConfusion h⟩, ?_⟩ | refine ⟨⟨rfl, fun h => ?_⟩, ?_⟩ | refine ⟨rfl, ?_⟩ | refine ⟨?_, ?_⟩ | fail))) ⟨by simp, rfl⟩ (fun q hq => ?_)
      obtain ⟨i, m⟩ := q
      obtain ⟨hi, hm⟩ := hq
      simp only at hi hm
      dsimp only
      have hmL : m < L.length := by
        rcases Nat.eq_zero_or_pos i with h0 | h0
        · subst h0; rw [hm]; unfold amax; omega
        · have := amax_lt (negAt L) i h0; omega
      obtain ⟨y, hy⟩ := get_ex hmL
      have hya := ints_at hy
      rcases Nat.lt_or_ge i L.length with hlt | hge
      · obtain ⟨x, hx⟩ := get_ex hlt
        have hxa := ints_at hx
        have e1 : negAt L i = -x := by rw [negAt, getI hx]
        have e2 : negAt L (amax (negAt L) i) = -y := by rw [← hm, negAt, getI hy]
        have e3 : amax (negAt L) (i + 1) = if -x > -y then i else m := by rw [amax, e1, e2, ← hm]
        by_cases hc : x < y
        · rw [if_pos aO] at e3
          repeat' (first | (refine pA (k := ?_)) | (refine g_exec ?_; first | (refine g_guard ?_; refine x_gsplit rfl rfl (fun h => ?_) (fun h => ?_) <;> (have h' := h; try simp only [sx] at h')) | (refine x_nil (hK _ _ aI ?_); clear hK K)) | (refine v_region (fun K hK => ?_)) | (refine v_condt rfl (fun h => ?_) (fun h => ?_) <;> (have h' := h; try simp only [sx] at h')))
          all_goals first
            | (exfalso; omega)
            | (refine q_next (i + 1, i) rfl (by refine ⟨?_, ?_, rfl, rfl⟩ <;> (repeat' (first | exact trivial | exact ⟨rfl, rfl⟩ | exact rfl | exact ⟨sub_fn, refs_fn⟩ | refine ⟨⟨rfl, rfl⟩, ?_⟩ | refine ⟨⟨sub_fn, refs_fn⟩, ?_⟩ | refine ⟨⟨rfl, fun h => Bool.noConfusion h⟩, ?_⟩ | refine ⟨⟨rfl, fun h => ?_⟩, ?_⟩ | refine ⟨rfl, ?_⟩ | refine ⟨?_, ?_⟩ | fail))) ⟨by simp only; omega, by simp only [e3]⟩ (by simp only; omega))
        · rw [if_neg aO] at e3
          repeat' (first | (refine pA (k := ?_)) | (refine g_exec ?_; first | (refine g_guard ?_; refine x_gsplit rfl rfl (fun h => ?_) (fun h => ?_) <;> (have h' := h; try simp only [sx] at h')) | (refine x_nil (hK _ _ aI ?_); clear hK K)) | (refine v_region (fun K hK => ?_)) | (refine v_condt rfl (fun h => ?_) (fun h => ?_) <;> (have h' := h; try simp only [sx] at h')))
          all_goals first
            | (exfalso; omega)
            | (refine q_next (i + 1, m) rfl (by refine ⟨?_, ?_, rfl, rfl⟩ <;> (repeat' (first | exact trivial | exact ⟨rfl, rfl⟩ | exact rfl | exact ⟨sub_fn, refs_fn⟩ | refine ⟨⟨rfl, rfl⟩, ?_⟩ | refine ⟨⟨sub_fn, refs_fn⟩, ?_⟩ | refine ⟨⟨rfl, fun h => Bool.noConfusion h⟩, ?_⟩ | refine ⟨⟨rfl, fun h => ?_⟩, ?_⟩ | refine ⟨rfl, ?_⟩ | refine ⟨?_, ?_⟩ | fail))) ⟨by simp only; omega, by simp only [e3]⟩ (by simp only; omega))
      · have : i = L.length := by omega
        subst this
        have ey := getI hy
        rw [← hm, ey]
        repeat' (first | (refine pA (k := ?_)) | (refine g_exec ?_; first | (refine g_guard ?_; refine x_gsplit rfl rfl (fun h => ?_) (fun h => ?_) <;> (have h' := h; try simp only [sx] at h')) | (refine x_nil (hK _ _ aI ?_); clear hK K)) | (refine v_region (fun K hK => ?_)) | (refine v_condt rfl (fun h => ?_) (fun h => ?_) <;> (have h' := h; try simp only [sx] at h')))
        exact aR
    · have hok : ¬ WkOk b cs := fun h => h1 h.2
      rw [wkRes, decide_eq_false hok]
      repeat' (first | (refine pA (k := ?_)) | (refine g_exec ?_; first | (refine g_call ?_; refine x_callG true (k1) rfl rfl rfl aS rfl aH ?_; simp only [cl]) | (refine g_guard ?_; refine x_gsplit rfl rfl (fun h => ?_) (fun h => ?_) <;> (have h' := h; try simp only [sx] at h')) | (refine x_nil (hK _ _ aI ?_); clear hK K)) | (refine v_region (fun K hK => ?_)) | (refine v_condt rfl (fun h => ?_) (fun h => ?_) <;> (have h' := h; try simp only [sx] at h')))
      all_goals first | (exfalso; omega) | exact aR
  · rw [soRes, decide_eq_false hso, soL, if_neg hso] at k1
    have hok : ¬ WkOk b cs := fun h => hso h.1
    rw [wkRes, decide_eq_false hok]
    repeat' (first | (refine pA (k := ?_)) | (refine g_exec ?_; first | (refine g_call ?_; refine x_callG true (k1) rfl rfl rfl aS rfl aH ?_; simp only [cl]) | (refine g_guard ?_; refine x_gsplit rfl rfl (fun h => ?_) (fun h => ?_) <;> (have h' := h; try simp only [sx] at h')) | (refine x_nil (hK _ _ aI ?_); clear hK K)) | (refine v_region (fun K hK => ?_)) | (refine v_condt rfl (fun h => ?_) (fun h => ?_) <;> (have h' := h; try simp only [sx] at h')))
    exact aR
end
end Go.Vs
