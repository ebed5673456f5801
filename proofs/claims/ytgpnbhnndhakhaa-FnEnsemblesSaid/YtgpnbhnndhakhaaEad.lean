/- Parts of a proof: what its last text mentions. -/
import Derived.Test.YtgpnbhnndhakhaaEac
set_option linter.unusedVariables false
set_option linter.unusedSimpArgs false
set_option maxRecDepth 100000
set_option maxHeartbeats 4000000
namespace Go.Vs
open Go.Proofs
attribute [local irreducible] exec vwp thenQ blkQ loopQ RetPost
theorem k_tick (c : Cu) (hc : c.Ok) (hp : c.pos + 10 ≤ 1152921504606846976) : ∃ (r : Int) (c' : Cu), Dr 74 [] c (.int .i64 r) c' ∧ Aft c c' 4 ∧ -1 ≤ r ∧ r ≤ 10000 := by
  obtain ⟨y, c1, k1, a1⟩ := k_one c 20 hc aO aO
  have o1 := a1.ok hc aO
  have p1 := a1.pos
  cases y
  · obtain ⟨x, c2, k2, a2, g0, g1, _⟩ := k_pick c1 120 o1 aO aO
    have g1 := g1 aO
    refine ⟨x, c2, ?_, (a1.trans a2).le aO, by omega, by omega⟩
    refine za8 hmix Try.func74 rfl (by kernel_rfl) (by kernel_rfl) (Nat.le_of_ble_eq_true rfl) (fun row h => by (simp only [List.mem_cons, List.not_mem_nil, or_false] at h; first | (subst h; (first | exact .inl rfl | exact .inr (fun e he u hu => by (simp only [List.mem_cons, List.not_mem_nil, or_false] at he; subst he; simp only [List.mem_cons, List.not_mem_nil, or_false] at hu; subst hu; rfl)))) | (rcases h with rfl | rfl <;> (first | exact .inl rfl | exact .inr (fun e he u hu => by (simp only [List.mem_cons, List.not_mem_nil, or_false] at he; subst he; simp only [List.mem_cons, List.not_mem_nil, or_false] at hu; subst hu; rfl)))) | (rcases h with rfl | rfl | rfl <;> (first | exact .inl rfl | exact .inr (fun e he u hu => by (simp only [List.mem_cons, List.not_mem_nil, or_false] at he; subst he; simp only [List.mem_cons, List.not_mem_nil, or_false] at hu; subst hu; rfl)))) | (rcases h with rfl | rfl | rfl | rfl <;> (first | exact .inl rfl | exact .inr (fun e he u hu => by (simp only [List.mem_cons, List.not_mem_nil, or_false] at he; subst he; simp only [List.mem_cons, List.not_mem_nil, or_false] at hu; subst hu; rfl)))))) ?_
    have hty_s24 := ty_s24
    have hty_u24 := ty_u24
    repeat' (first
      | (refine za5 ?_; first | (refine za6 ?_; refine zat _ rfl ?_) | (refine zad ?_; refine zaa _ rfl ?_) | (refine zbd ?_; first | (refine zb9 [(io, 0)] (k1) rfl rfl (by (repeat' (first | exact trivial | refine ⟨⟨_, rfl, ?_⟩, ?_⟩ | exact .inl ⟨rfl, .inl rfl⟩ | exact .inr ⟨rfl, rfl, rfl, rfl, rfl, fun e he u hu => by (simp only [List.mem_cons, List.not_mem_nil, or_false] at he; subst he; simp only [List.mem_cons, List.not_mem_nil, or_false] at hu; subst hu; rfl)⟩ | exact .inl ⟨rfl, .inr (fun e he => by (simp only [List.mem_cons, List.not_mem_nil, or_false] at he; subst he; rfl))⟩ | fail)); first | done | fail) rfl rfl aS rfl aH rfl ?_; simp only [cl]) | (refine zb9 [(io, 0)] (k2) rfl rfl (by (repeat' (first | exact trivial | refine ⟨⟨_, rfl, ?_⟩, ?_⟩ | exact .inl ⟨rfl, .inl rfl⟩ | exact .inr ⟨rfl, rfl, rfl, rfl, rfl, fun e he u hu => by (simp only [List.mem_cons, List.not_mem_nil, or_false] at he; subst he; simp only [List.mem_cons, List.not_mem_nil, or_false] at hu; subst hu; rfl)⟩ | exact .inl ⟨rfl, .inr (fun e he => by (simp only [List.mem_cons, List.not_mem_nil, or_false] at he; subst he; rfl))⟩ | fail)); first | done | fail) rfl rfl aS rfl aH rfl ?_; simp only [cl])) | (refine za7 aA rfl rfl rfl ?_) | (refine zas (hK _ _ (.inl rfl) ?_); clear hK K) | (refine zas (hK _ _ (.inr (by kernel_rfl)) ?_); clear hK K))
      | (refine za3 ?_; first | (refine zbp ?_) | (refine zaj (fun K hK => ?_)) | (refine zan ?_) | (refine za4 ?_) | (refine zbq ?_) | (refine za1 ?_) | (refine zbg ?_; first | (refine zam rfl aD ?_) | (refine zal rfl aD ?_) | (refine zaz rfl (fun h => ?_) (fun h => ?_) <;> (have h' := h; (try simp only [sx] at h')))))
      | (refine za2 ?_) | (refine zai ?_) | (refine zae ?_) | (refine zaq ?_) | (refine zar ?_) | (refine zao ?_) | (refine zap rfl ?_) | (refine zab ?_) | (refine zag ?_) | (refine zbr ?_))
    all_goals exact ret_iL rfl rfl ⟨⟨rfl, rfl, fun h => by cases h⟩, trivial⟩ rfl
  · obtain ⟨x, c2, k2, a2, hx⟩ := k_among c1 [-1, 9999, 10000] o1 aO (by decide)
    refine ⟨x, c2, ?_, (a1.trans a2).le aO, by simp at hx; omega, by simp at hx; omega⟩
    refine za8 hmix Try.func74 rfl (by kernel_rfl) (by kernel_rfl) (Nat.le_of_ble_eq_true rfl) (fun row h => by (simp only [List.mem_cons, List.not_mem_nil, or_false] at h; first | (subst h; (first | exact .inl rfl | exact .inr (fun e he u hu => by (simp only [List.mem_cons, List.not_mem_nil, or_false] at he; subst he; simp only [List.mem_cons, List.not_mem_nil, or_false] at hu; subst hu; rfl)))) | (rcases h with rfl | rfl <;> (first | exact .inl rfl | exact .inr (fun e he u hu => by (simp only [List.mem_cons, List.not_mem_nil, or_false] at he; subst he; simp only [List.mem_cons, List.not_mem_nil, or_false] at hu; subst hu; rfl)))) | (rcases h with rfl | rfl | rfl <;> (first | exact .inl rfl | exact .inr (fun e he u hu => by (simp only [List.mem_cons, List.not_mem_nil, or_false] at he; subst he; simp only [List.mem_cons, List.not_mem_nil, or_false] at hu; subst hu; rfl)))) | (rcases h with rfl | rfl | rfl | rfl <;> (first | exact .inl rfl | exact .inr (fun e he u hu => by (simp only [List.mem_cons, List.not_mem_nil, or_false] at he; subst he; simp only [List.mem_cons, List.not_mem_nil, or_false] at hu; subst hu; rfl)))))) ?_
    have hty_s24 := ty_s24
    have hty_u24 := ty_u24
    repeat' (first
      | (refine za5 ?_; first | (refine za6 ?_; refine zat _ rfl ?_) | (refine zad ?_; refine zaa _ rfl ?_) | (refine zbd ?_; first | (refine zb9 [(io, 0)] (k1) rfl rfl (by (repeat' (first | exact trivial | refine ⟨⟨_, rfl, ?_⟩, ?_⟩ | exact .inl ⟨rfl, .inl rfl⟩ | exact .inr ⟨rfl, rfl, rfl, rfl, rfl, fun e he u hu => by (simp only [List.mem_cons, List.not_mem_nil, or_false] at he; subst he; simp only [List.mem_cons, List.not_mem_nil, or_false] at hu; subst hu; rfl)⟩ | exact .inl ⟨rfl, .inr (fun e he => by (simp only [List.mem_cons, List.not_mem_nil, or_false] at he; subst he; rfl))⟩ | fail)); first | done | fail) rfl rfl aS rfl aH rfl ?_; simp only [cl]) | (refine zb9 [(io, 0)] (k2) rfl rfl (by (repeat' (first | exact trivial | refine ⟨⟨_, rfl, ?_⟩, ?_⟩ | exact .inl ⟨rfl, .inl rfl⟩ | exact .inr ⟨rfl, rfl, rfl, rfl, rfl, fun e he u hu => by (simp only [List.mem_cons, List.not_mem_nil, or_false] at he; subst he; simp only [List.mem_cons, List.not_mem_nil, or_false] at hu; subst hu; rfl)⟩ | exact .inl ⟨rfl, .inr (fun e he => by (simp only [List.mem_cons, List.not_mem_nil, or_false] at he; subst he; rfl))⟩ | fail)); first | done | fail) rfl rfl aS rfl aH rfl ?_; simp only [cl])) | (refine za7 aA rfl rfl rfl ?_) | (refine zas (hK _ _ (.inl rfl) ?_); clear hK K) | (refine zas (hK _ _ (.inr (by kernel_rfl)) ?_); clear hK K))
      | (refine za3 ?_; first | (refine zbp ?_) | (refine zaj (fun K hK => ?_)) | (refine zan ?_) | (refine za4 ?_) | (refine zbq ?_) | (refine za1 ?_) | (refine zbg ?_; first | (refine zam rfl aD ?_) | (refine zal rfl aD ?_) | (refine zaz rfl (fun h => ?_) (fun h => ?_) <;> (have h' := h; (try simp only [sx] at h')))))
      | (refine za2 ?_) | (refine zai ?_) | (refine zae ?_) | (refine zaq ?_) | (refine zar ?_) | (refine zao ?_) | (refine zap rfl ?_) | (refine zab ?_) | (refine zag ?_) | (refine zbr ?_))
    all_goals exact ret_iL rfl rfl ⟨⟨rfl, rfl, fun h => by cases h⟩, trivial⟩ rfl
theorem k_startTick (c : Cu) (hc : c.Ok) (hp : c.pos + 10 ≤ 1152921504606846976) : ∃ (r : Int) (c' : Cu), Dr 119 [] c (.int .i64 r) c' ∧ Aft c c' 4 ∧ -1 ≤ r ∧ r ≤ 1001 := by
  obtain ⟨y, c1, k1, a1⟩ := k_one c 24 hc aO aO
  have o1 := a1.ok hc aO
  have p1 := a1.pos
  cases y
  · obtain ⟨x, c2, k2, a2, hx⟩ := k_among c1 [0, 0, 5, 20, 60] o1 aO (by decide)
    refine ⟨x, c2, ?_, (a1.trans a2).le aO, by simp at hx; omega, by simp at hx; omega⟩
    refine za8 hmix Try.func119 rfl (by kernel_rfl) (by kernel_rfl) (Nat.le_of_ble_eq_true rfl) (fun row h => by (simp only [List.mem_cons, List.not_mem_nil, or_false] at h; first | (subst h; (first | exact .inl rfl | exact .inr (fun e he u hu => by (simp only [List.mem_cons, List.not_mem_nil, or_false] at he; subst he; simp only [List.mem_cons, List.not_mem_nil, or_false] at hu; subst hu; rfl)))) | (rcases h with rfl | rfl <;> (first | exact .inl rfl | exact .inr (fun e he u hu => by (simp only [List.mem_cons, List.not_mem_nil, or_false] at he; subst he; simp only [List.mem_cons, List.not_mem_nil, or_false] at hu; subst hu; rfl)))) | (rcases h with rfl | rfl | rfl <;> (first | exact .inl rfl | exact .inr (fun e he u hu => by (simp only [List.mem_cons, List.not_mem_nil, or_false] at he; subst he; simp only [List.mem_cons, List.not_mem_nil, or_false] at hu; subst hu; rfl)))) | (rcases h with rfl | rfl | rfl | rfl <;> (first | exact .inl rfl | exact .inr (fun e he u hu => by (simp only [List.mem_cons, List.not_mem_nil, or_false] at he; subst he; simp only [List.mem_cons, List.not_mem_nil, or_false] at hu; subst hu; rfl)))))) ?_
    have hty_s24 := ty_s24
    have hty_u24 := ty_u24
    repeat' (first
      | (refine za5 ?_; first | (refine za6 ?_; refine zat _ rfl ?_) | (refine zad ?_; refine zaa _ rfl ?_) | (refine zbd ?_; first | (refine zb9 [(io, 0)] (k1) rfl rfl (by (repeat' (first | exact trivial | refine ⟨⟨_, rfl, ?_⟩, ?_⟩ | exact .inl ⟨rfl, .inl rfl⟩ | exact .inr ⟨rfl, rfl, rfl, rfl, rfl, fun e he u hu => by (simp only [List.mem_cons, List.not_mem_nil, or_false] at he; subst he; simp only [List.mem_cons, List.not_mem_nil, or_false] at hu; subst hu; rfl)⟩ | exact .inl ⟨rfl, .inr (fun e he => by (simp only [List.mem_cons, List.not_mem_nil, or_false] at he; subst he; rfl))⟩ | fail)); first | done | fail) rfl rfl aS rfl aH rfl ?_; simp only [cl]) | (refine zb9 [(io, 0)] (k2) rfl rfl (by (repeat' (first | exact trivial | refine ⟨⟨_, rfl, ?_⟩, ?_⟩ | exact .inl ⟨rfl, .inl rfl⟩ | exact .inr ⟨rfl, rfl, rfl, rfl, rfl, fun e he u hu => by (simp only [List.mem_cons, List.not_mem_nil, or_false] at he; subst he; simp only [List.mem_cons, List.not_mem_nil, or_false] at hu; subst hu; rfl)⟩ | exact .inl ⟨rfl, .inr (fun e he => by (simp only [List.mem_cons, List.not_mem_nil, or_false] at he; subst he; rfl))⟩ | fail)); first | done | fail) rfl rfl aS rfl aH rfl ?_; simp only [cl])) | (refine za7 aA rfl rfl rfl ?_) | (refine zas (hK _ _ (.inl rfl) ?_); clear hK K) | (refine zas (hK _ _ (.inr (by kernel_rfl)) ?_); clear hK K))
      | (refine za3 ?_; first | (refine zbp ?_) | (refine zaj (fun K hK => ?_)) | (refine zan ?_) | (refine za4 ?_) | (refine zbq ?_) | (refine za1 ?_) | (refine zbg ?_; first | (refine zam rfl aD ?_) | (refine zal rfl aD ?_) | (refine zaz rfl (fun h => ?_) (fun h => ?_) <;> (have h' := h; (try simp only [sx] at h')))))
      | (refine za2 ?_) | (refine zai ?_) | (refine zae ?_) | (refine zaq ?_) | (refine zar ?_) | (refine zao ?_) | (refine zap rfl ?_) | (refine zab ?_) | (refine zag ?_) | (refine zbr ?_))
    all_goals exact ret_iL rfl rfl ⟨⟨rfl, rfl, fun h => by cases h⟩, trivial⟩ rfl
  · obtain ⟨x, c2, k2, a2, hx⟩ := k_among c1 [-1, 1000, 1001] o1 aO (by decide)
    refine ⟨x, c2, ?_, (a1.trans a2).le aO, by simp at hx; omega, by simp at hx; omega⟩
    refine za8 hmix Try.func119 rfl (by kernel_rfl) (by kernel_rfl) (Nat.le_of_ble_eq_true rfl) (fun row h => by (simp only [List.mem_cons, List.not_mem_nil, or_false] at h; first | (subst h; (first | exact .inl rfl | exact .inr (fun e he u hu => by (simp only [List.mem_cons, List.not_mem_nil, or_false] at he; subst he; simp only [List.mem_cons, List.not_mem_nil, or_false] at hu; subst hu; rfl)))) | (rcases h with rfl | rfl <;> (first | exact .inl rfl | exact .inr (fun e he u hu => by (simp only [List.mem_cons, List.not_mem_nil, or_false] at he; subst he; simp only [List.mem_cons, List.not_mem_nil, or_false] at hu; subst hu; rfl)))) | (rcases h with rfl | rfl | rfl <;> (first | exact .inl rfl | exact .inr (fun e he u hu => by (simp only [List.mem_cons, List.not_mem_nil, or_false] at he; subst he; simp only [List.mem_cons, List.not_mem_nil, or_false] at hu; subst hu; rfl)))) | (rcases h with rfl | rfl | rfl | rfl <;> (first | exact .inl rfl | exact .inr (fun e he u hu => by (simp only [List.mem_cons, List.not_mem_nil, or_false] at he; subst he; simp only [List.mem_cons, List.not_mem_nil, or_false] at hu; subst hu; rfl)))))) ?_
    have hty_s24 := ty_s24
    have hty_u24 := ty_u24
    repeat' (first
      | (refine za5 ?_; first | (refine za6 ?_; refine zat _ rfl ?_) | (refine zad ?_; refine zaa _ rfl ?_) | (refine zbd ?_; first | (refine zb9 [(io, 0)] (k1) rfl rfl (by (repeat' (first | exact trivial | refine ⟨⟨_, rfl, ?_⟩, ?_⟩ | exact .inl ⟨rfl, .inl rfl⟩ | exact .inr ⟨rfl, rfl, rfl, rfl, rfl, fun e he u hu => by (simp only [List.mem_cons, List.not_mem_nil, or_false] at he; subst he; simp only [List.mem_cons, List.not_mem_nil, or_false] at hu; subst hu; rfl)⟩ | exact .inl ⟨rfl, .inr (fun e he => by (simp only [List.mem_cons, List.not_mem_nil, or_false] at he; subst he; rfl))⟩ | fail)); first | done | fail) rfl rfl aS rfl aH rfl ?_; simp only [cl]) | (refine zb9 [(io, 0)] (k2) rfl rfl (by (repeat' (first | exact trivial | refine ⟨⟨_, rfl, ?_⟩, ?_⟩ | exact .inl ⟨rfl, .inl rfl⟩ | exact .inr ⟨rfl, rfl, rfl, rfl, rfl, fun e he u hu => by (simp only [List.mem_cons, List.not_mem_nil, or_false] at he; subst he; simp only [List.mem_cons, List.not_mem_nil, or_false] at hu; subst hu; rfl)⟩ | exact .inl ⟨rfl, .inr (fun e he => by (simp only [List.mem_cons, List.not_mem_nil, or_false] at he; subst he; rfl))⟩ | fail)); first | done | fail) rfl rfl aS rfl aH rfl ?_; simp only [cl])) | (refine za7 aA rfl rfl rfl ?_) | (refine zas (hK _ _ (.inl rfl) ?_); clear hK K) | (refine zas (hK _ _ (.inr (by kernel_rfl)) ?_); clear hK K))
      | (refine za3 ?_; first | (refine zbp ?_) | (refine zaj (fun K hK => ?_)) | (refine zan ?_) | (refine za4 ?_) | (refine zbq ?_) | (refine za1 ?_) | (refine zbg ?_; first | (refine zam rfl aD ?_) | (refine zal rfl aD ?_) | (refine zaz rfl (fun h => ?_) (fun h => ?_) <;> (have h' := h; (try simp only [sx] at h')))))
      | (refine za2 ?_) | (refine zai ?_) | (refine zae ?_) | (refine zaq ?_) | (refine zar ?_) | (refine zao ?_) | (refine zap rfl ?_) | (refine zab ?_) | (refine zag ?_) | (refine zbr ?_))
    all_goals exact ret_iL rfl rfl ⟨⟨rfl, rfl, fun h => by cases h⟩, trivial⟩ rfl
@[reducible] def PhS : Type := Cu × List Phase × Int
theorem least_ex {P : Nat → Prop} : ∀ (n : Nat), P n → ∃ k, k ≤ n ∧ P k ∧ ∀ j, j < k → ¬ P j := by
  intro n
  induction n using Nat.strongRecOn with
  | ind n ih =>
    intro h
    by_cases hj : ∃ j, j < n ∧ P j
    · obtain ⟨j, hjn, hp⟩ := hj
      obtain ⟨k, h1, h2, h3⟩ := ih j hjn hp
      exact ⟨k, by omega, h2, h3⟩
    · exact ⟨n, Nat.le_refl _, h, fun j hlt hp => hj ⟨j, hlt, hp⟩⟩
theorem k_phasesD (c : Cu) (hc : c.Ok) (hp : c.pos + 100 ≤ 1152921504606846976) : ∃ (ps : List Phase) (c' : Cu), Dr 73 [] c (.olist 75 2 (ps.map Phase.pv)) c' ∧ Aft c c' 100 ∧ ps.length ≤ 7 := by
  obtain ⟨s, c0, k0, a0, s0, s1, _⟩ := k_pick c 9 hc aO aO
  have s1 := s1 aO
  have o0 := a0.ok hc aO
  have p0 := a0.pos
  obtain ⟨n, c1, k1, a1, n0, n1, _⟩ := k_pick c0 4 o0 aO aO
  have n1 := n1 aO
  have o1 := a1.ok o0 aO
  have p1 := a1.pos
  obtain ⟨f, f0, fs⟩ := seq_ex (S := PhS) (Q := fun i s => i ≤ 4 → Aft c1 s.1 (4 * i) ∧ s.2.1.length = i + 1 ∧ (0 ≤ s.2.2 ∧ s.2.2 ≤ 31 * i))
    (R := fun i s s' => i < 4 → ∃ (r2 : Int) (c2 : Cu) (x : Int), Dr 104 [.int .i64 30] s.1 (.int .i64 r2) c2 ∧ (0 ≤ r2 ∧ r2 < 30) ∧ Dr 75 [.list 1 (ints [1, 2, 5, 9])] c2 (.int .i64 x) s'.1 ∧ s'.2.1 = s.2.1 ++ [⟨s.2.2 + 1 + r2, x⟩] ∧ s'.2.2 = s.2.2 + 1 + r2)
    (c1, [⟨0, 1 + s⟩], 0) (fun _ => ⟨(Aft.refl c1).le aO, rfl, by simp⟩) (fun i st hq => by
      by_cases hi : i < 4
      · obtain ⟨ad, hl, hf⟩ := hq aO
        have od := ad.ok o1 aO
        have pd := ad.pos
        obtain ⟨r2, c2, k2, a2, b1, b2, _⟩ := k_pick st.1 30 od aO aO
        have b2 := b2 aO
        have o2 := a2.ok od aO
        have p2 := a2.pos
        obtain ⟨x, c4, k4, a4, _⟩ := k_among c2 [1, 2, 5, 9] o2 aO (by decide)
        exact ⟨(c4, st.2.1 ++ [⟨st.2.2 + 1 + r2, x⟩], st.2.2 + 1 + r2), fun _ => ⟨r2, c2, x, k2, ⟨b1, b2⟩, k4, rfl, rfl⟩, fun _ => ⟨((ad.trans a2).trans a4).le (by first | omega | (simp only; omega)), by simp [hl], by first | omega | (simp only; omega)⟩⟩
      · exact ⟨st, fun h => absurd h hi, fun h => by omega⟩)
  obtain ⟨N, hN⟩ : ∃ N : Nat, n = (N : Int) := ⟨n.toNat, by omega⟩
  subst hN
  obtain ⟨ad, hl, hfr⟩ := (fs N).1 aO
  have od := ad.ok o1 aO
  have pd := ad.pos
  obtain ⟨r, c2, k2, a2, _⟩ := k_pick (f N).1 32 od aO aO
  have o2 := a2.ok od aO
  have p2 := a2.pos
  have aft2 := ((a0.trans a1).trans ad).trans a2
  obtain ⟨x0, c3, k3, a3, _⟩ := k_among c2 [0, 9999, 10000] o2 aO (by decide)
  have o3 := a3.ok o2 aO
  have p3 := a3.pos
  obtain ⟨y0, c4, k4, a4, _⟩ := k_among c3 [0, 9, 10] o3 aO (by decide)
  obtain ⟨x1, c5, k5, a5, _⟩ := k_among c2 [1, 0, -1] o2 aO (by decide)
  obtain ⟨w, hw⟩ := get_ex (show 0 < (f N).2.1.length by omega)
  have hw2 : ((f N).2.1.map Phase.pv)[0]? = some w.pv := Phase.at hw
  have hse : ((f N).2.1.map Phase.pv).set 0 [.int .i64 x1, .int .i64 3] = ((f N).2.1.set 0 ⟨x1, 3⟩).map Phase.pv := by rw [List.map_set]
  obtain ⟨g, g0, gs⟩ := seq_ex (S := PhS) (Q := fun i s => i ≤ 8 → Aft c2 s.1 (2 * i) ∧ s.2.1.length = N + 1 + i)
    (R := fun i s s' => i < 8 → Dr 104 [.int .i64 2] s.1 (.int .i64 s'.2.2) s'.1 ∧ (0 ≤ s'.2.2 ∧ s'.2.2 < 2) ∧ s'.2.1 = s.2.1 ++ [⟨200 + 10 * (s.2.1.length : Int), 2⟩])
    (c2, (f N).2.1, 0) (fun _ => ⟨(Aft.refl c2).le aO, by first | omega | (simp only; omega)⟩) (fun i st hq => by
      by_cases hi : i < 8
      · obtain ⟨ad, hl2⟩ := hq aO
        have od := ad.ok o2 aO
        have pd := ad.pos
        obtain ⟨r5, c5, k5, a5, b5, b6, _⟩ := k_pick st.1 2 od aO aO
        exact ⟨(c5, st.2.1 ++ [⟨200 + 10 * (st.2.1.length : Int), 2⟩], r5), fun _ => ⟨k5, ⟨b5, b6 aO⟩, rfl⟩, fun _ => ⟨(ad.trans a5).le (by first | omega | (simp only; omega)), by simp; omega⟩⟩
      · exact ⟨st, fun h => absurd h hi, fun h => by omega⟩)
  obtain ⟨K, hK7, hK, hKl⟩ := least_ex (P := fun i => ¬ ((N : Int) + 1 + i < 6 + (g (i + 1)).2.2)) 6 (by
    obtain ⟨_, h2, _⟩ := (gs 6).2 aO
    try simp only
    omega)
  obtain ⟨adK, hlK⟩ := (gs K).1 aO
  obtain ⟨kK, bK, _⟩ := (gs K).2 aO
  have hlK7 : (g K).2.1.length ≤ 7 := by
    rw [hlK]
    rcases Nat.eq_zero_or_pos K with h0 | h0
    · omega
    · have h1 := hKl (K - 1) aO
      obtain ⟨_, h2, _⟩ := (gs (K - 1)).2 aO
      try simp only at h1
      omega
  obtain ⟨adK1, _⟩ := (gs (K + 1)).1 aO
  have key : ∃ (ps : List Phase) (c' : Cu), Aft c c' 100 ∧ ps.length ≤ 7 ∧ ((r = 0 ∧ ps = (f N).2.1 ++ [⟨x0, y0⟩] ∧ c' = c4) ∨ (r ≠ 0 ∧ r = 1 ∧ ps = (f N).2.1.set 0 ⟨x1, 3⟩ ∧ c' = c5) ∨ (r ≠ 0 ∧ r ≠ 1 ∧ r = 2 ∧ ps = [] ∧ c' = c2) ∨ (r ≠ 0 ∧ r ≠ 1 ∧ r ≠ 2 ∧ r = 3 ∧ ps = (g K).2.1 ∧ c' = (g (K + 1)).1) ∨ (r ≠ 0 ∧ r ≠ 1 ∧ r ≠ 2 ∧ r ≠ 3 ∧ ps = (f N).2.1 ∧ c' = c2)) := by
    by_cases e0 : r = 0
    · exact ⟨_, c4, ((aft2.trans a3).trans a4).le aO, by simp; omega, Or.inl ⟨e0, rfl, rfl⟩⟩
    · by_cases e1 : r = 1
      · exact ⟨_, c5, (aft2.trans a5).le aO, by simp; omega, Or.inr (Or.inl ⟨e0, e1, rfl, rfl⟩)⟩
      · by_cases e2 : r = 2
        · exact ⟨[], c2, aft2.le aO, by simp, Or.inr (Or.inr (Or.inl ⟨e0, e1, e2, rfl, rfl⟩))⟩
        · by_cases e3 : r = 3
          · exact ⟨_, _, (aft2.trans adK1).le aO, hlK7, Or.inr (Or.inr (Or.inr (Or.inl ⟨e0, e1, e2, e3, rfl, rfl⟩)))⟩
          · exact ⟨_, c2, aft2.le aO, by omega, Or.inr (Or.inr (Or.inr (Or.inr ⟨e0, e1, e2, e3, rfl, rfl⟩)))⟩
  obtain ⟨ps, c', hA, hL, key⟩ := key
  refine ⟨ps, c', ?_, hA, hL⟩
  clear hA hL
  refine za8 hmix Try.func73 rfl (by kernel_rfl) (by kernel_rfl) (Nat.le_of_ble_eq_true rfl) (fun row h => by (simp only [List.mem_cons, List.not_mem_nil, or_false] at h; first | (subst h; (first | exact .inl rfl | exact .inr (fun e he u hu => by (simp only [List.mem_cons, List.not_mem_nil, or_false] at he; subst he; simp only [List.mem_cons, List.not_mem_nil, or_false] at hu; subst hu; rfl)))) | (rcases h with rfl | rfl <;> (first | exact .inl rfl | exact .inr (fun e he u hu => by (simp only [List.mem_cons, List.not_mem_nil, or_false] at he; subst he; simp only [List.mem_cons, List.not_mem_nil, or_false] at hu; subst hu; rfl)))) | (rcases h with rfl | rfl | rfl <;> (first | exact .inl rfl | exact .inr (fun e he u hu => by (simp only [List.mem_cons, List.not_mem_nil, or_false] at he; subst he; simp only [List.mem_cons, List.not_mem_nil, or_false] at hu; subst hu; rfl)))) | (rcases h with rfl | rfl | rfl | rfl <;> (first | exact .inl rfl | exact .inr (fun e he u hu => by (simp only [List.mem_cons, List.not_mem_nil, or_false] at he; subst he; simp only [List.mem_cons, List.not_mem_nil, or_false] at hu; subst hu; rfl)))))) ?_
  have hty_st75 := ty_st75
  have hty_s27 := ty_s27
  have hty_s24 := ty_s24
  have hty_u24 := ty_u24
  have hty_u27 := ty_u27
  have hty_t75 := ty_t75
  have hty_a75 := ty_a75
  repeat' (first
      | (refine za5 ?_; first | (refine za6 ?_; refine zat _ rfl ?_) | (refine zad ?_; refine zaa _ rfl ?_) | (refine zbv ?_; first | (refine zby rfl rfl aO ?_) | (refine zck rfl rfl aO ?_) | (refine zci rfl rfl aO ?_) | (refine zbu _ rfl rfl rfl ?_) | (refine zbt aA rfl rfl ?_) | (refine zaw _ rfl rfl rfl ?_)) | (refine zbe ?_; first | (refine zau _ aA rfl rfl aO aA ?_) | (refine zav _ aA rfl rfl rfl rfl aO aO (by first | (rw [Nat.zero_add, Int.toNat_natCast]) | (rw [Nat.zero_add]) | rfl) ?_)) | (refine zbd ?_; first | (refine zb9 [(io, 0)] (k0) rfl rfl (by (repeat' (first | exact trivial | refine ⟨⟨_, rfl, ?_⟩, ?_⟩ | exact .inl ⟨rfl, .inl rfl⟩ | exact .inr ⟨rfl, rfl, rfl, rfl, rfl, fun e he u hu => by (simp only [List.mem_cons, List.not_mem_nil, or_false] at he; subst he; simp only [List.mem_cons, List.not_mem_nil, or_false] at hu; subst hu; rfl)⟩ | exact .inl ⟨rfl, .inr (fun e he => by (simp only [List.mem_cons, List.not_mem_nil, or_false] at he; subst he; rfl))⟩ | fail)); first | done | fail) rfl rfl aS rfl aH rfl ?_; simp only [cl]) | (refine zb9 [(io, 0)] (k1) rfl rfl (by (repeat' (first | exact trivial | refine ⟨⟨_, rfl, ?_⟩, ?_⟩ | exact .inl ⟨rfl, .inl rfl⟩ | exact .inr ⟨rfl, rfl, rfl, rfl, rfl, fun e he u hu => by (simp only [List.mem_cons, List.not_mem_nil, or_false] at he; subst he; simp only [List.mem_cons, List.not_mem_nil, or_false] at hu; subst hu; rfl)⟩ | exact .inl ⟨rfl, .inr (fun e he => by (simp only [List.mem_cons, List.not_mem_nil, or_false] at he; subst he; rfl))⟩ | fail)); first | done | fail) rfl rfl aS rfl aH rfl ?_; simp only [cl]) | (refine za9 aA rfl ?_) | (refine zbc aA rfl rfl ?_) | (refine zba aA rfl ?_) | (refine zbb aA (evO_ok rfl) ?_) | (refine zb4 _ _ aA rfl (lookM (by rfl)) rfl (lookM (by rfl)) rfl aN ⟨rfl, rfl, by decide, by decide⟩ (by first | rfl | omega | (simp; done) | (simp; omega) | fail) ⟨by first | (simp only [List.length_cons, List.length_nil]; omega) | omega | fail, by decide⟩ rfl (by first | (first | (simp only [lx, Nat.reduceAdd]; first | done | rfl) | fail) | rfl) aP ?_) | (refine zb3 _ _ aA rfl rfl (lookM (by rfl)) ⟨rfl, by decide⟩ aN (by first | exact Nat.succ_pos _ | omega | (simp; done)) ⟨by first | (simp only [List.length_cons, List.length_nil]; omega) | omega | fail, by decide⟩ rfl rfl aP ?_) | (refine zb5 _ aA rfl rfl (lookM (by rfl)) ⟨rfl, by decide⟩ aN ⟨by first | (simp only [List.length_cons, List.length_nil]; omega) | omega | fail, by decide⟩ rfl aP ?_) | (refine zb0 _ aA rfl rfl rfl ⟨rfl, rfl, rfl, by decide, by decide⟩ (by first | rfl | (simp; done) | fail) ⟨by omega, by decide⟩ rfl aL (by first | (rw [Nat.zero_add]) | rfl) ?_)) | (refine za7 aA rfl rfl rfl ?_) | (refine zcg _ _ aA rfl rfl (by simp [buildPV, PV.cells]; first | done | rfl) ?_) | (refine zbo _ _ _ rfl rfl aE (by first | assumption | (exact TAgg.size aA)) rfl rfl rfl aZ rfl aL (by first | (first | (simp only [lx, Nat.reduceAdd]; first | done | rfl) | fail) | rfl) ?_) | (refine zas (hK _ _ (.inl rfl) ?_); clear hK K) | (refine zas (hK _ _ (.inr (by kernel_rfl)) ?_); clear hK K))
      | (refine za3 ?_; first | (refine zbp ?_) | (refine zaj (fun K hK => ?_)) | (refine zan ?_) | (refine za4 ?_) | (refine zbq ?_) | (refine za1 ?_) | (refine zbg ?_; first | (refine zam rfl aD ?_) | (refine zal rfl aD ?_) | (refine zaz rfl (fun h => ?_) (fun h => ?_) <;> (have h' := h; (try simp only [sx] at h')))))
      | (refine za2 ?_) | (refine zai ?_) | (refine zae ?_) | (refine zaq ?_) | (refine zar ?_) | (refine zao ?_) | (refine zap rfl ?_) | (refine zab ?_) | (refine zag ?_) | (refine zbr ?_))
  all_goals try (exfalso; omega)
  refine zcd [0] [(io, 0), (1001, 0)] (fun q : Nat × Cu × List (List PV) × Int × Int => [(3, .osl (1001, 0) 0 (q.1 + 1)), (4, .int .i64 q.2.2.2.1), (5, .int .i64 q.2.2.2.2)]) (fun q : Nat × Cu × List (List PV) × Int × Int => [((io, 0), some (cuRow q.2.1)), ((1001, 0), some ⟨75, 2, q.2.2.1, false⟩)]) (fun q : Nat × Cu × List (List PV) × Int × Int => q.2.1 = (f q.1).1 ∧ q.2.2.1 = (f q.1).2.1.map Phase.pv ∧ q.2.2.2.1 = (f q.1).2.2 ∧ q.2.2.2.2 = (N : Int) - q.1 ∧ q.1 ≤ N) (fun q : Nat × Cu × List (List PV) × Int × Int => N - q.1) ((0, c1, [[.int .i64 0, .int .i64 (1 + s)]], 0, N)) rfl rfl (fun _ => rfl) (fun _ => rfl) rfl aW ⟨by rw [f0], by rw [f0]; rfl, by rw [f0], by simp, by first | omega | (simp only; omega)⟩ (fun q hq => ?_)
  obtain ⟨m, d, es, fr, v⟩ := q
  obtain ⟨hd, hes, hfr2, hv, hmN⟩ := hq
  try simp only at hd hes hfr2 hv hmN
  dsimp only
  obtain ⟨ad, hl2, hf2⟩ := (fs m).1 aO
  have hel : es.length = m + 1 := by rw [hes, List.length_map, hl2]
  have hme := hel.symm
  by_cases hlt : m < N
  · obtain ⟨r2, cc, x, kp, br2, ka, e1, e2⟩ := (fs m).2 aO
    rw [← hd] at kp
    repeat' (first
      | (refine za5 ?_; first | (refine za6 ?_; refine zat _ rfl ?_) | (refine zad ?_; refine zaa _ rfl ?_) | (refine zbv ?_; first | (refine zby rfl rfl aO ?_) | (refine zck rfl rfl aO ?_) | (refine zci rfl rfl aO ?_) | (refine zbu _ rfl rfl rfl ?_) | (refine zbt aA rfl rfl ?_) | (refine zaw _ rfl rfl rfl ?_)) | (refine zbe ?_; first | (refine zau _ aA rfl rfl aO aA ?_) | (refine zav _ aA rfl rfl rfl rfl aO aO (by first | (rw [Nat.zero_add, Int.toNat_natCast]) | (rw [Nat.zero_add]) | rfl) ?_)) | (refine zbd ?_; first | (refine zb9 [(io, 0)] (kp) rfl rfl (by (repeat' (first | exact trivial | refine ⟨⟨_, rfl, ?_⟩, ?_⟩ | exact .inl ⟨rfl, .inl rfl⟩ | exact .inr ⟨rfl, rfl, rfl, rfl, rfl, fun e he u hu => by (simp only [List.mem_cons, List.not_mem_nil, or_false] at he; subst he; simp only [List.mem_cons, List.not_mem_nil, or_false] at hu; subst hu; rfl)⟩ | exact .inl ⟨rfl, .inr (fun e he => by (simp only [List.mem_cons, List.not_mem_nil, or_false] at he; subst he; rfl))⟩ | fail)); first | done | fail) rfl rfl aS rfl aH rfl ?_; simp only [cl]) | (refine zb9 [(io, 0)] (ka) rfl rfl (by (repeat' (first | exact trivial | refine ⟨⟨_, rfl, ?_⟩, ?_⟩ | exact .inl ⟨rfl, .inl rfl⟩ | exact .inr ⟨rfl, rfl, rfl, rfl, rfl, fun e he u hu => by (simp only [List.mem_cons, List.not_mem_nil, or_false] at he; subst he; simp only [List.mem_cons, List.not_mem_nil, or_false] at hu; subst hu; rfl)⟩ | exact .inl ⟨rfl, .inr (fun e he => by (simp only [List.mem_cons, List.not_mem_nil, or_false] at he; subst he; rfl))⟩ | fail)); first | done | fail) rfl rfl aS rfl aH rfl ?_; simp only [cl]) | (refine za9 aA rfl ?_) | (refine zbc aA rfl rfl ?_) | (refine zba aA rfl ?_) | (refine zbb aA (evO_ok rfl) ?_) | (refine zb4 _ _ aA rfl (lookM (by rfl)) rfl (lookM (by rfl)) rfl aN ⟨rfl, rfl, by decide, by decide⟩ (by first | rfl | omega | (simp; done) | (simp; omega) | fail) ⟨by first | (simp only [List.length_cons, List.length_nil]; omega) | omega | fail, by decide⟩ rfl (by first | (first | (simp only [lx, Nat.reduceAdd]; first | done | rfl) | fail) | rfl) aP ?_) | (refine zb3 _ _ aA rfl rfl (lookM (by rfl)) ⟨rfl, by decide⟩ aN (by first | exact Nat.succ_pos _ | omega | (simp; done)) ⟨by first | (simp only [List.length_cons, List.length_nil]; omega) | omega | fail, by decide⟩ rfl rfl aP ?_) | (refine zb5 _ aA rfl rfl (lookM (by rfl)) ⟨rfl, by decide⟩ aN ⟨by first | (simp only [List.length_cons, List.length_nil]; omega) | omega | fail, by decide⟩ rfl aP ?_) | (refine zb0 _ aA rfl rfl rfl ⟨rfl, rfl, rfl, by decide, by decide⟩ (by first | rfl | (simp; done) | fail) ⟨by omega, by decide⟩ rfl aL (by first | (rw [Nat.zero_add]) | rfl) ?_)) | (refine za7 aA rfl rfl rfl ?_) | (refine zcg _ _ aA rfl rfl (by simp [buildPV, PV.cells]; first | done | rfl) ?_) | (refine zbo _ _ _ rfl rfl aE (by first | assumption | (exact TAgg.size aA)) rfl rfl rfl aZ rfl aL (by first | (first | (simp only [lx, Nat.reduceAdd]; first | done | rfl) | fail) | rfl) ?_) | (refine zas (hK _ _ (.inl rfl) ?_); clear hK K) | (refine zas (hK _ _ (.inr (by kernel_rfl)) ?_); clear hK K))
      | (refine za3 ?_; first | (refine zbp ?_) | (refine zaj (fun K hK => ?_)) | (refine zan ?_) | (refine za4 ?_) | (refine zbq ?_) | (refine za1 ?_) | (refine zbg ?_; first | (refine zam rfl aD ?_) | (refine zal rfl aD ?_) | (refine zaz rfl (fun h => ?_) (fun h => ?_) <;> (have h' := h; (try simp only [sx] at h')))))
      | (refine za2 ?_) | (refine zai ?_) | (refine zae ?_) | (refine zaq ?_) | (refine zar ?_) | (refine zao ?_) | (refine zap rfl ?_) | (refine zab ?_) | (refine zag ?_) | (refine zbr ?_))
    all_goals try (exfalso; omega)
    all_goals (refine zcb (m + 1, (f (m + 1)).1, es ++ [[.int .i64 (fr + 1 + r2), .int .i64 x]], fr + 1 + r2, v - 1) rfl aW ⟨rfl, by simp [hes, e1, hfr2, Phase.pv], by simp only; rw [e2, hfr2], by first | omega | (simp only; omega), by first | omega | (simp only; omega)⟩ (by first | omega | (simp only; omega)))
  · have hmN2 : m = N := by omega
    subst hmN2
    rw [← hd] at k2
    rw [← hes] at hw2 hse
    rcases key with ⟨e0, rfl, rfl⟩ | ⟨e0, e1, rfl, rfl⟩ | ⟨e0, e1, e2, rfl, rfl⟩ | ⟨e0, e1, e2, e3, rfl, rfl⟩ | ⟨e0, e1, e2, e3, rfl, rfl⟩
    · repeat' (first
      | (refine za5 ?_; first | (refine za6 ?_; refine zat _ rfl ?_) | (refine zad ?_; refine zaa _ rfl ?_) | (refine zbv ?_; first | (refine zby rfl rfl aO ?_) | (refine zck rfl rfl aO ?_) | (refine zci rfl rfl aO ?_) | (refine zbu _ rfl rfl rfl ?_) | (refine zbt aA rfl rfl ?_) | (refine zaw _ rfl rfl rfl ?_)) | (refine zbe ?_; first | (refine zau _ aA rfl rfl aO aA ?_) | (refine zav _ aA rfl rfl rfl rfl aO aO (by first | (rw [Nat.zero_add, Int.toNat_natCast]) | (rw [Nat.zero_add]) | rfl) ?_)) | (refine zbd ?_; first | (refine zb9 [(io, 0)] (k2) rfl rfl (by (repeat' (first | exact trivial | refine ⟨⟨_, rfl, ?_⟩, ?_⟩ | exact .inl ⟨rfl, .inl rfl⟩ | exact .inr ⟨rfl, rfl, rfl, rfl, rfl, fun e he u hu => by (simp only [List.mem_cons, List.not_mem_nil, or_false] at he; subst he; simp only [List.mem_cons, List.not_mem_nil, or_false] at hu; subst hu; rfl)⟩ | exact .inl ⟨rfl, .inr (fun e he => by (simp only [List.mem_cons, List.not_mem_nil, or_false] at he; subst he; rfl))⟩ | fail)); first | done | fail) rfl rfl aS rfl aH rfl ?_; simp only [cl]) | (refine zb9 [(io, 0)] (k3) rfl rfl (by (repeat' (first | exact trivial | refine ⟨⟨_, rfl, ?_⟩, ?_⟩ | exact .inl ⟨rfl, .inl rfl⟩ | exact .inr ⟨rfl, rfl, rfl, rfl, rfl, fun e he u hu => by (simp only [List.mem_cons, List.not_mem_nil, or_false] at he; subst he; simp only [List.mem_cons, List.not_mem_nil, or_false] at hu; subst hu; rfl)⟩ | exact .inl ⟨rfl, .inr (fun e he => by (simp only [List.mem_cons, List.not_mem_nil, or_false] at he; subst he; rfl))⟩ | fail)); first | done | fail) rfl rfl aS rfl aH rfl ?_; simp only [cl]) | (refine zb9 [(io, 0)] (k4) rfl rfl (by (repeat' (first | exact trivial | refine ⟨⟨_, rfl, ?_⟩, ?_⟩ | exact .inl ⟨rfl, .inl rfl⟩ | exact .inr ⟨rfl, rfl, rfl, rfl, rfl, fun e he u hu => by (simp only [List.mem_cons, List.not_mem_nil, or_false] at he; subst he; simp only [List.mem_cons, List.not_mem_nil, or_false] at hu; subst hu; rfl)⟩ | exact .inl ⟨rfl, .inr (fun e he => by (simp only [List.mem_cons, List.not_mem_nil, or_false] at he; subst he; rfl))⟩ | fail)); first | done | fail) rfl rfl aS rfl aH rfl ?_; simp only [cl]) | (refine za9 aA rfl ?_) | (refine zbc aA rfl rfl ?_) | (refine zba aA rfl ?_) | (refine zbb aA (evO_ok rfl) ?_) | (refine zb4 _ _ aA rfl (lookM (by rfl)) rfl (lookM (by rfl)) rfl aN ⟨rfl, rfl, by decide, by decide⟩ (by first | rfl | omega | (simp; done) | (simp; omega) | fail) ⟨by first | (simp only [List.length_cons, List.length_nil]; omega) | omega | fail, by decide⟩ rfl (by first | (first | (simp only [lx, Nat.reduceAdd]; first | done | rfl) | fail) | rfl) aP ?_) | (refine zb3 _ _ aA rfl rfl (lookM (by rfl)) ⟨rfl, by decide⟩ aN (by first | exact Nat.succ_pos _ | omega | (simp; done)) ⟨by first | (simp only [List.length_cons, List.length_nil]; omega) | omega | fail, by decide⟩ rfl rfl aP ?_) | (refine zb5 _ aA rfl rfl (lookM (by rfl)) ⟨rfl, by decide⟩ aN ⟨by first | (simp only [List.length_cons, List.length_nil]; omega) | omega | fail, by decide⟩ rfl aP ?_) | (refine zb0 _ aA rfl rfl rfl ⟨rfl, rfl, rfl, by decide, by decide⟩ (by first | rfl | (simp; done) | fail) ⟨by omega, by decide⟩ rfl aL (by first | (rw [Nat.zero_add]) | rfl) ?_)) | (refine za7 aA rfl rfl rfl ?_) | (refine zcg _ _ aA rfl rfl (by simp [buildPV, PV.cells]; first | done | rfl) ?_) | (refine zbo _ _ _ rfl rfl aE (by first | assumption | (exact TAgg.size aA)) rfl rfl rfl aZ rfl aL (by first | (first | (simp only [lx, Nat.reduceAdd]; first | done | rfl) | fail) | rfl) ?_) | (refine zas (hK _ _ (.inl rfl) ?_); clear hK K) | (refine zas (hK _ _ (.inr (by kernel_rfl)) ?_); clear hK K))
      | (refine za3 ?_; first | (refine zbp ?_) | (refine zaj (fun K hK => ?_)) | (refine zan ?_) | (refine za4 ?_) | (refine zbq ?_) | (refine za1 ?_) | (refine zbg ?_; first | (refine zam rfl aD ?_) | (refine zal rfl aD ?_) | (refine zaz rfl (fun h => ?_) (fun h => ?_) <;> (have h' := h; (try simp only [sx] at h')))))
      | (refine za2 ?_) | (refine zai ?_) | (refine zae ?_) | (refine zaq ?_) | (refine zar ?_) | (refine zao ?_) | (refine zap rfl ?_) | (refine zab ?_) | (refine zag ?_) | (refine zbr ?_))
      all_goals first
        | (exfalso; omega)
        | exact ret_lL rfl rfl rfl (by decide) ⟨⟨rfl, rfl, fun h => by cases h⟩, trivial⟩ rfl rfl (by simp [hel]) (by simp [hes, Phase.pv])
    · repeat' (first
      | (refine za5 ?_; first | (refine za6 ?_; refine zat _ rfl ?_) | (refine zad ?_; refine zaa _ rfl ?_) | (refine zbv ?_; first | (refine zby rfl rfl aO ?_) | (refine zck rfl rfl aO ?_) | (refine zci rfl rfl aO ?_) | (refine zbu _ rfl rfl rfl ?_) | (refine zbt aA rfl rfl ?_) | (refine zaw _ rfl rfl rfl ?_)) | (refine zbe ?_; first | (refine zau _ aA rfl rfl aO aA ?_) | (refine zav _ aA rfl rfl rfl rfl aO aO (by first | (rw [Nat.zero_add, Int.toNat_natCast]) | (rw [Nat.zero_add]) | rfl) ?_)) | (refine zbd ?_; first | (refine zb9 [(io, 0)] (k2) rfl rfl (by (repeat' (first | exact trivial | refine ⟨⟨_, rfl, ?_⟩, ?_⟩ | exact .inl ⟨rfl, .inl rfl⟩ | exact .inr ⟨rfl, rfl, rfl, rfl, rfl, fun e he u hu => by (simp only [List.mem_cons, List.not_mem_nil, or_false] at he; subst he; simp only [List.mem_cons, List.not_mem_nil, or_false] at hu; subst hu; rfl)⟩ | exact .inl ⟨rfl, .inr (fun e he => by (simp only [List.mem_cons, List.not_mem_nil, or_false] at he; subst he; rfl))⟩ | fail)); first | done | fail) rfl rfl aS rfl aH rfl ?_; simp only [cl]) | (refine zb9 [(io, 0)] (k5) rfl rfl (by (repeat' (first | exact trivial | refine ⟨⟨_, rfl, ?_⟩, ?_⟩ | exact .inl ⟨rfl, .inl rfl⟩ | exact .inr ⟨rfl, rfl, rfl, rfl, rfl, fun e he u hu => by (simp only [List.mem_cons, List.not_mem_nil, or_false] at he; subst he; simp only [List.mem_cons, List.not_mem_nil, or_false] at hu; subst hu; rfl)⟩ | exact .inl ⟨rfl, .inr (fun e he => by (simp only [List.mem_cons, List.not_mem_nil, or_false] at he; subst he; rfl))⟩ | fail)); first | done | fail) rfl rfl aS rfl aH rfl ?_; simp only [cl]) | (refine za9 aA rfl ?_) | (refine zbc aA rfl rfl ?_) | (refine zba aA rfl ?_) | (refine zbb aA (evO_ok rfl) ?_) | (refine zb4 _ _ aA rfl (lookM (by rfl)) rfl (lookM (by rfl)) rfl aN ⟨rfl, rfl, by decide, by decide⟩ (by first | rfl | omega | (simp; done) | (simp; omega) | fail) ⟨by first | (simp only [List.length_cons, List.length_nil]; omega) | omega | fail, by decide⟩ rfl (by first | (first | (simp only [lx, Nat.reduceAdd]; first | done | rfl) | fail) | rfl) aP ?_) | (refine zb3 _ _ aA rfl rfl (lookM (by rfl)) ⟨rfl, by decide⟩ aN (by first | exact Nat.succ_pos _ | omega | (simp; done)) ⟨by first | (simp only [List.length_cons, List.length_nil]; omega) | omega | fail, by decide⟩ rfl rfl aP ?_) | (refine zb5 _ aA rfl rfl (lookM (by rfl)) ⟨rfl, by decide⟩ aN ⟨by first | (simp only [List.length_cons, List.length_nil]; omega) | omega | fail, by decide⟩ rfl aP ?_) | (refine zb0 _ aA rfl rfl rfl ⟨rfl, rfl, rfl, by decide, by decide⟩ (by first | rfl | (simp; done) | fail) ⟨by omega, by decide⟩ rfl aL (by first | (rw [Nat.zero_add]) | rfl) ?_)) | (refine za7 aA rfl rfl rfl ?_) | (refine zcg _ _ aA rfl rfl (by simp [buildPV, PV.cells]; first | done | rfl) ?_) | (refine zbo _ _ _ rfl rfl aE (by first | assumption | (exact TAgg.size aA)) rfl rfl rfl aZ rfl aL (by first | (first | (simp only [lx, Nat.reduceAdd]; first | done | rfl) | fail) | rfl) ?_) | (refine zas (hK _ _ (.inl rfl) ?_); clear hK K) | (refine zas (hK _ _ (.inr (by kernel_rfl)) ?_); clear hK K))
      | (refine za3 ?_; first | (refine zbp ?_) | (refine zaj (fun K hK => ?_)) | (refine zan ?_) | (refine za4 ?_) | (refine zbq ?_) | (refine za1 ?_) | (refine zbg ?_; first | (refine zam rfl aD ?_) | (refine zal rfl aD ?_) | (refine zaz rfl (fun h => ?_) (fun h => ?_) <;> (have h' := h; (try simp only [sx] at h')))))
      | (refine za2 ?_) | (refine zai ?_) | (refine zae ?_) | (refine zaq ?_) | (refine zar ?_) | (refine zao ?_) | (refine zap rfl ?_) | (refine zab ?_) | (refine zag ?_) | (refine zbr ?_))
      all_goals first
        | (exfalso; omega)
        | exact ret_lL rfl rfl rfl (by decide) ⟨⟨rfl, rfl, fun h => by cases h⟩, trivial⟩ rfl rfl (by simp [hel]) hse
    · repeat' (first
      | (refine za5 ?_; first | (refine za6 ?_; refine zat _ rfl ?_) | (refine zad ?_; refine zaa _ rfl ?_) | (refine zbv ?_; first | (refine zby rfl rfl aO ?_) | (refine zck rfl rfl aO ?_) | (refine zci rfl rfl aO ?_) | (refine zbu _ rfl rfl rfl ?_) | (refine zbt aA rfl rfl ?_) | (refine zaw _ rfl rfl rfl ?_)) | (refine zbe ?_; first | (refine zau _ aA rfl rfl aO aA ?_) | (refine zav _ aA rfl rfl rfl rfl aO aO (by first | (rw [Nat.zero_add, Int.toNat_natCast]) | (rw [Nat.zero_add]) | rfl) ?_)) | (refine zbd ?_; first | (refine zb9 [(io, 0)] (k2) rfl rfl (by (repeat' (first | exact trivial | refine ⟨⟨_, rfl, ?_⟩, ?_⟩ | exact .inl ⟨rfl, .inl rfl⟩ | exact .inr ⟨rfl, rfl, rfl, rfl, rfl, fun e he u hu => by (simp only [List.mem_cons, List.not_mem_nil, or_false] at he; subst he; simp only [List.mem_cons, List.not_mem_nil, or_false] at hu; subst hu; rfl)⟩ | exact .inl ⟨rfl, .inr (fun e he => by (simp only [List.mem_cons, List.not_mem_nil, or_false] at he; subst he; rfl))⟩ | fail)); first | done | fail) rfl rfl aS rfl aH rfl ?_; simp only [cl]) | (refine za9 aA rfl ?_) | (refine zbc aA rfl rfl ?_) | (refine zba aA rfl ?_) | (refine zbb aA (evO_ok rfl) ?_) | (refine zb4 _ _ aA rfl (lookM (by rfl)) rfl (lookM (by rfl)) rfl aN ⟨rfl, rfl, by decide, by decide⟩ (by first | rfl | omega | (simp; done) | (simp; omega) | fail) ⟨by first | (simp only [List.length_cons, List.length_nil]; omega) | omega | fail, by decide⟩ rfl (by first | (first | (simp only [lx, Nat.reduceAdd]; first | done | rfl) | fail) | rfl) aP ?_) | (refine zb3 _ _ aA rfl rfl (lookM (by rfl)) ⟨rfl, by decide⟩ aN (by first | exact Nat.succ_pos _ | omega | (simp; done)) ⟨by first | (simp only [List.length_cons, List.length_nil]; omega) | omega | fail, by decide⟩ rfl rfl aP ?_) | (refine zb5 _ aA rfl rfl (lookM (by rfl)) ⟨rfl, by decide⟩ aN ⟨by first | (simp only [List.length_cons, List.length_nil]; omega) | omega | fail, by decide⟩ rfl aP ?_) | (refine zb0 _ aA rfl rfl rfl ⟨rfl, rfl, rfl, by decide, by decide⟩ (by first | rfl | (simp; done) | fail) ⟨by omega, by decide⟩ rfl aL (by first | (rw [Nat.zero_add]) | rfl) ?_)) | (refine za7 aA rfl rfl rfl ?_) | (refine zcg _ _ aA rfl rfl (by simp [buildPV, PV.cells]; first | done | rfl) ?_) | (refine zbo _ _ _ rfl rfl aE (by first | assumption | (exact TAgg.size aA)) rfl rfl rfl aZ rfl aL (by first | (first | (simp only [lx, Nat.reduceAdd]; first | done | rfl) | fail) | rfl) ?_) | (refine zas (hK _ _ (.inl rfl) ?_); clear hK K) | (refine zas (hK _ _ (.inr (by kernel_rfl)) ?_); clear hK K))
      | (refine za3 ?_; first | (refine zbp ?_) | (refine zaj (fun K hK => ?_)) | (refine zan ?_) | (refine za4 ?_) | (refine zbq ?_) | (refine za1 ?_) | (refine zbg ?_; first | (refine zam rfl aD ?_) | (refine zal rfl aD ?_) | (refine zaz rfl (fun h => ?_) (fun h => ?_) <;> (have h' := h; (try simp only [sx] at h')))))
      | (refine za2 ?_) | (refine zai ?_) | (refine zae ?_) | (refine zaq ?_) | (refine zar ?_) | (refine zao ?_) | (refine zap rfl ?_) | (refine zab ?_) | (refine zag ?_) | (refine zbr ?_))
      all_goals first
        | (exfalso; omega)
        | exact ret_lL rfl rfl rfl (by decide) ⟨⟨rfl, rfl, fun h => by cases h⟩, trivial⟩ rfl rfl rfl rfl
    · repeat' (first
      | (refine za5 ?_; first | (refine za6 ?_; refine zat _ rfl ?_) | (refine zad ?_; refine zaa _ rfl ?_) | (refine zbv ?_; first | (refine zby rfl rfl aO ?_) | (refine zck rfl rfl aO ?_) | (refine zci rfl rfl aO ?_) | (refine zbu _ rfl rfl rfl ?_) | (refine zbt aA rfl rfl ?_) | (refine zaw _ rfl rfl rfl ?_)) | (refine zbe ?_; first | (refine zau _ aA rfl rfl aO aA ?_) | (refine zav _ aA rfl rfl rfl rfl aO aO (by first | (rw [Nat.zero_add, Int.toNat_natCast]) | (rw [Nat.zero_add]) | rfl) ?_)) | (refine zbd ?_; first | (refine zb9 [(io, 0)] (k2) rfl rfl (by (repeat' (first | exact trivial | refine ⟨⟨_, rfl, ?_⟩, ?_⟩ | exact .inl ⟨rfl, .inl rfl⟩ | exact .inr ⟨rfl, rfl, rfl, rfl, rfl, fun e he u hu => by (simp only [List.mem_cons, List.not_mem_nil, or_false] at he; subst he; simp only [List.mem_cons, List.not_mem_nil, or_false] at hu; subst hu; rfl)⟩ | exact .inl ⟨rfl, .inr (fun e he => by (simp only [List.mem_cons, List.not_mem_nil, or_false] at he; subst he; rfl))⟩ | fail)); first | done | fail) rfl rfl aS rfl aH rfl ?_; simp only [cl]) | (refine za9 aA rfl ?_) | (refine zbc aA rfl rfl ?_) | (refine zba aA rfl ?_) | (refine zbb aA (evO_ok rfl) ?_) | (refine zb4 _ _ aA rfl (lookM (by rfl)) rfl (lookM (by rfl)) rfl aN ⟨rfl, rfl, by decide, by decide⟩ (by first | rfl | omega | (simp; done) | (simp; omega) | fail) ⟨by first | (simp only [List.length_cons, List.length_nil]; omega) | omega | fail, by decide⟩ rfl (by first | (first | (simp only [lx, Nat.reduceAdd]; first | done | rfl) | fail) | rfl) aP ?_) | (refine zb3 _ _ aA rfl rfl (lookM (by rfl)) ⟨rfl, by decide⟩ aN (by first | exact Nat.succ_pos _ | omega | (simp; done)) ⟨by first | (simp only [List.length_cons, List.length_nil]; omega) | omega | fail, by decide⟩ rfl rfl aP ?_) | (refine zb5 _ aA rfl rfl (lookM (by rfl)) ⟨rfl, by decide⟩ aN ⟨by first | (simp only [List.length_cons, List.length_nil]; omega) | omega | fail, by decide⟩ rfl aP ?_) | (refine zb0 _ aA rfl rfl rfl ⟨rfl, rfl, rfl, by decide, by decide⟩ (by first | rfl | (simp; done) | fail) ⟨by omega, by decide⟩ rfl aL (by first | (rw [Nat.zero_add]) | rfl) ?_)) | (refine za7 aA rfl rfl rfl ?_) | (refine zcg _ _ aA rfl rfl (by simp [buildPV, PV.cells]; first | done | rfl) ?_) | (refine zbo _ _ _ rfl rfl aE (by first | assumption | (exact TAgg.size aA)) rfl rfl rfl aZ rfl aL (by first | (first | (simp only [lx, Nat.reduceAdd]; first | done | rfl) | fail) | rfl) ?_) | (refine zas (hK _ _ (.inl rfl) ?_); clear hK K) | (refine zas (hK _ _ (.inr (by kernel_rfl)) ?_); clear hK K))
      | (refine za3 ?_; first | (refine zbp ?_) | (refine zaj (fun K hK => ?_)) | (refine zan ?_) | (refine za4 ?_) | (refine zbq ?_) | (refine za1 ?_) | (refine zbg ?_; first | (refine zam rfl aD ?_) | (refine zal rfl aD ?_) | (refine zaz rfl (fun h => ?_) (fun h => ?_) <;> (have h' := h; (try simp only [sx] at h')))))
      | (refine za2 ?_) | (refine zai ?_) | (refine zae ?_) | (refine zaq ?_) | (refine zar ?_) | (refine zao ?_) | (refine zap rfl ?_) | (refine zab ?_) | (refine zag ?_) | (refine zbr ?_))
      all_goals try (exfalso; omega)
      refine zcd [0] [(io, 0), (1001, 0)] (fun q : Nat × Cu × List (List PV) => [(3, .osl (1001, 0) 0 (m + 1 + q.1))]) (fun q : Nat × Cu × List (List PV) => [((io, 0), some (cuRow q.2.1)), ((1001, 0), some ⟨75, 2, q.2.2, false⟩)]) (fun q : Nat × Cu × List (List PV) => q.2.1 = (g q.1).1 ∧ q.2.2 = (g q.1).2.1.map Phase.pv ∧ q.1 ≤ K) (fun q : Nat × Cu × List (List PV) => K - q.1) ((0, c2, es)) rfl rfl (fun _ => rfl) (fun _ => rfl) rfl aW ⟨by rw [g0], by rw [g0, hes], by simp⟩ (fun q hq => ?_)
      obtain ⟨j, d2, fs2⟩ := q
      obtain ⟨hd2, hfs2, hjK⟩ := hq
      try simp only at hd2 hfs2 hjK
      dsimp only
      obtain ⟨adj, hlj⟩ := (gs j).1 aO
      obtain ⟨kj, bj, ej⟩ := (gs j).2 aO
      have hel2 : fs2.length = m + 1 + j := by rw [hfs2, List.length_map, hlj]
      have hme2 := hel2.symm
      rw [← hd2] at kj
      by_cases hjlt : j < K
      · have hgo := hKl j hjlt
        simp only [Classical.not_not] at hgo
        repeat' (first
      | (refine za5 ?_; first | (refine za6 ?_; refine zat _ rfl ?_) | (refine zad ?_; refine zaa _ rfl ?_) | (refine zbv ?_; first | (refine zby rfl rfl aO ?_) | (refine zck rfl rfl aO ?_) | (refine zci rfl rfl aO ?_) | (refine zbu _ rfl rfl rfl ?_) | (refine zbt aA rfl rfl ?_) | (refine zaw _ rfl rfl rfl ?_)) | (refine zbe ?_; first | (refine zau _ aA rfl rfl aO aA ?_) | (refine zav _ aA rfl rfl rfl rfl aO aO (by first | (rw [Nat.zero_add, Int.toNat_natCast]) | (rw [Nat.zero_add]) | rfl) ?_)) | (refine zbd ?_; first | (refine zb9 [(io, 0)] (kj) rfl rfl (by (repeat' (first | exact trivial | refine ⟨⟨_, rfl, ?_⟩, ?_⟩ | exact .inl ⟨rfl, .inl rfl⟩ | exact .inr ⟨rfl, rfl, rfl, rfl, rfl, fun e he u hu => by (simp only [List.mem_cons, List.not_mem_nil, or_false] at he; subst he; simp only [List.mem_cons, List.not_mem_nil, or_false] at hu; subst hu; rfl)⟩ | exact .inl ⟨rfl, .inr (fun e he => by (simp only [List.mem_cons, List.not_mem_nil, or_false] at he; subst he; rfl))⟩ | fail)); first | done | fail) rfl rfl aS rfl aH rfl ?_; simp only [cl]) | (refine za9 aA rfl ?_) | (refine zbc aA rfl rfl ?_) | (refine zba aA rfl ?_) | (refine zbb aA (evO_ok rfl) ?_) | (refine zb4 _ _ aA rfl (lookM (by rfl)) rfl (lookM (by rfl)) rfl aN ⟨rfl, rfl, by decide, by decide⟩ (by first | rfl | omega | (simp; done) | (simp; omega) | fail) ⟨by first | (simp only [List.length_cons, List.length_nil]; omega) | omega | fail, by decide⟩ rfl (by first | (first | (simp only [lx, Nat.reduceAdd]; first | done | rfl) | fail) | rfl) aP ?_) | (refine zb3 _ _ aA rfl rfl (lookM (by rfl)) ⟨rfl, by decide⟩ aN (by first | exact Nat.succ_pos _ | omega | (simp; done)) ⟨by first | (simp only [List.length_cons, List.length_nil]; omega) | omega | fail, by decide⟩ rfl rfl aP ?_) | (refine zb5 _ aA rfl rfl (lookM (by rfl)) ⟨rfl, by decide⟩ aN ⟨by first | (simp only [List.length_cons, List.length_nil]; omega) | omega | fail, by decide⟩ rfl aP ?_) | (refine zb0 _ aA rfl rfl rfl ⟨rfl, rfl, rfl, by decide, by decide⟩ (by first | rfl | (simp; done) | fail) ⟨by omega, by decide⟩ rfl aL (by first | (rw [Nat.zero_add]) | rfl) ?_)) | (refine za7 aA rfl rfl rfl ?_) | (refine zcg _ _ aA rfl rfl (by simp [buildPV, PV.cells]; first | done | rfl) ?_) | (refine zbo _ _ _ rfl rfl aE (by first | assumption | (exact TAgg.size aA)) rfl rfl rfl aZ rfl aL (by first | (first | (simp only [lx, Nat.reduceAdd]; first | done | rfl) | fail) | rfl) ?_) | (refine zas (hK _ _ (.inl rfl) ?_); clear hK K) | (refine zas (hK _ _ (.inr (by kernel_rfl)) ?_); clear hK K))
      | (refine za3 ?_; first | (refine zbp ?_) | (refine zaj (fun K hK => ?_)) | (refine zan ?_) | (refine za4 ?_) | (refine zbq ?_) | (refine za1 ?_) | (refine zbg ?_; first | (refine zam rfl aD ?_) | (refine zal rfl aD ?_) | (refine zaz rfl (fun h => ?_) (fun h => ?_) <;> (have h' := h; (try simp only [sx] at h')))))
      | (refine za2 ?_) | (refine zai ?_) | (refine zae ?_) | (refine zaq ?_) | (refine zar ?_) | (refine zao ?_) | (refine zap rfl ?_) | (refine zab ?_) | (refine zag ?_) | (refine zbr ?_))
        all_goals try (exfalso; omega)
        all_goals (refine zcb (j + 1, (g (j + 1)).1, fs2 ++ [[.int .i64 (200 + 10 * ((m + 1 + j : Nat) : Int)), .int .i64 2]]) rfl aW ⟨rfl, by simp [hfs2, ej, Phase.pv, hlj], by first | omega | (simp only; omega)⟩ (by first | omega | (simp only; omega)))
      · have hjK2 : j = K := by omega
        subst hjK2
        try simp only at hK
        repeat' (first
      | (refine za5 ?_; first | (refine za6 ?_; refine zat _ rfl ?_) | (refine zad ?_; refine zaa _ rfl ?_) | (refine zbv ?_; first | (refine zby rfl rfl aO ?_) | (refine zck rfl rfl aO ?_) | (refine zci rfl rfl aO ?_) | (refine zbu _ rfl rfl rfl ?_) | (refine zbt aA rfl rfl ?_) | (refine zaw _ rfl rfl rfl ?_)) | (refine zbe ?_; first | (refine zau _ aA rfl rfl aO aA ?_) | (refine zav _ aA rfl rfl rfl rfl aO aO (by first | (rw [Nat.zero_add, Int.toNat_natCast]) | (rw [Nat.zero_add]) | rfl) ?_)) | (refine zbd ?_; first | (refine zb9 [(io, 0)] (kj) rfl rfl (by (repeat' (first | exact trivial | refine ⟨⟨_, rfl, ?_⟩, ?_⟩ | exact .inl ⟨rfl, .inl rfl⟩ | exact .inr ⟨rfl, rfl, rfl, rfl, rfl, fun e he u hu => by (simp only [List.mem_cons, List.not_mem_nil, or_false] at he; subst he; simp only [List.mem_cons, List.not_mem_nil, or_false] at hu; subst hu; rfl)⟩ | exact .inl ⟨rfl, .inr (fun e he => by (simp only [List.mem_cons, List.not_mem_nil, or_false] at he; subst he; rfl))⟩ | fail)); first | done | fail) rfl rfl aS rfl aH rfl ?_; simp only [cl]) | (refine za9 aA rfl ?_) | (refine zbc aA rfl rfl ?_) | (refine zba aA rfl ?_) | (refine zbb aA (evO_ok rfl) ?_) | (refine zb4 _ _ aA rfl (lookM (by rfl)) rfl (lookM (by rfl)) rfl aN ⟨rfl, rfl, by decide, by decide⟩ (by first | rfl | omega | (simp; done) | (simp; omega) | fail) ⟨by first | (simp only [List.length_cons, List.length_nil]; omega) | omega | fail, by decide⟩ rfl (by first | (first | (simp only [lx, Nat.reduceAdd]; first | done | rfl) | fail) | rfl) aP ?_) | (refine zb3 _ _ aA rfl rfl (lookM (by rfl)) ⟨rfl, by decide⟩ aN (by first | exact Nat.succ_pos _ | omega | (simp; done)) ⟨by first | (simp only [List.length_cons, List.length_nil]; omega) | omega | fail, by decide⟩ rfl rfl aP ?_) | (refine zb5 _ aA rfl rfl (lookM (by rfl)) ⟨rfl, by decide⟩ aN ⟨by first | (simp only [List.length_cons, List.length_nil]; omega) | omega | fail, by decide⟩ rfl aP ?_) | (refine zb0 _ aA rfl rfl rfl ⟨rfl, rfl, rfl, by decide, by decide⟩ (by first | rfl | (simp; done) | fail) ⟨by omega, by decide⟩ rfl aL (by first | (rw [Nat.zero_add]) | rfl) ?_)) | (refine za7 aA rfl rfl rfl ?_) | (refine zcg _ _ aA rfl rfl (by simp [buildPV, PV.cells]; first | done | rfl) ?_) | (refine zbo _ _ _ rfl rfl aE (by first | assumption | (exact TAgg.size aA)) rfl rfl rfl aZ rfl aL (by first | (first | (simp only [lx, Nat.reduceAdd]; first | done | rfl) | fail) | rfl) ?_) | (refine zas (hK _ _ (.inl rfl) ?_); clear hK K) | (refine zas (hK _ _ (.inr (by kernel_rfl)) ?_); clear hK K))
      | (refine za3 ?_; first | (refine zbp ?_) | (refine zaj (fun K hK => ?_)) | (refine zan ?_) | (refine za4 ?_) | (refine zbq ?_) | (refine za1 ?_) | (refine zbg ?_; first | (refine zam rfl aD ?_) | (refine zal rfl aD ?_) | (refine zaz rfl (fun h => ?_) (fun h => ?_) <;> (have h' := h; (try simp only [sx] at h')))))
      | (refine za2 ?_) | (refine zai ?_) | (refine zae ?_) | (refine zaq ?_) | (refine zar ?_) | (refine zao ?_) | (refine zap rfl ?_) | (refine zab ?_) | (refine zag ?_) | (refine zbr ?_))
        all_goals first
          | (exfalso; omega)
          | exact ret_lL rfl rfl rfl (by decide) ⟨⟨rfl, rfl, fun h => by cases h⟩, trivial⟩ rfl rfl hme2 hfs2
    · repeat' (first
      | (refine za5 ?_; first | (refine za6 ?_; refine zat _ rfl ?_) | (refine zad ?_; refine zaa _ rfl ?_) | (refine zbv ?_; first | (refine zby rfl rfl aO ?_) | (refine zck rfl rfl aO ?_) | (refine zci rfl rfl aO ?_) | (refine zbu _ rfl rfl rfl ?_) | (refine zbt aA rfl rfl ?_) | (refine zaw _ rfl rfl rfl ?_)) | (refine zbe ?_; first | (refine zau _ aA rfl rfl aO aA ?_) | (refine zav _ aA rfl rfl rfl rfl aO aO (by first | (rw [Nat.zero_add, Int.toNat_natCast]) | (rw [Nat.zero_add]) | rfl) ?_)) | (refine zbd ?_; first | (refine zb9 [(io, 0)] (k2) rfl rfl (by (repeat' (first | exact trivial | refine ⟨⟨_, rfl, ?_⟩, ?_⟩ | exact .inl ⟨rfl, .inl rfl⟩ | exact .inr ⟨rfl, rfl, rfl, rfl, rfl, fun e he u hu => by (simp only [List.mem_cons, List.not_mem_nil, or_false] at he; subst he; simp only [List.mem_cons, List.not_mem_nil, or_false] at hu; subst hu; rfl)⟩ | exact .inl ⟨rfl, .inr (fun e he => by (simp only [List.mem_cons, List.not_mem_nil, or_false] at he; subst he; rfl))⟩ | fail)); first | done | fail) rfl rfl aS rfl aH rfl ?_; simp only [cl]) | (refine za9 aA rfl ?_) | (refine zbc aA rfl rfl ?_) | (refine zba aA rfl ?_) | (refine zbb aA (evO_ok rfl) ?_) | (refine zb4 _ _ aA rfl (lookM (by rfl)) rfl (lookM (by rfl)) rfl aN ⟨rfl, rfl, by decide, by decide⟩ (by first | rfl | omega | (simp; done) | (simp; omega) | fail) ⟨by first | (simp only [List.length_cons, List.length_nil]; omega) | omega | fail, by decide⟩ rfl (by first | (first | (simp only [lx, Nat.reduceAdd]; first | done | rfl) | fail) | rfl) aP ?_) | (refine zb3 _ _ aA rfl rfl (lookM (by rfl)) ⟨rfl, by decide⟩ aN (by first | exact Nat.succ_pos _ | omega | (simp; done)) ⟨by first | (simp only [List.length_cons, List.length_nil]; omega) | omega | fail, by decide⟩ rfl rfl aP ?_) | (refine zb5 _ aA rfl rfl (lookM (by rfl)) ⟨rfl, by decide⟩ aN ⟨by first | (simp only [List.length_cons, List.length_nil]; omega) | omega | fail, by decide⟩ rfl aP ?_) | (refine zb0 _ aA rfl rfl rfl ⟨rfl, rfl, rfl, by decide, by decide⟩ (by first | rfl | (simp; done) | fail) ⟨by omega, by decide⟩ rfl aL (by first | (rw [Nat.zero_add]) | rfl) ?_)) | (refine za7 aA rfl rfl rfl ?_) | (refine zcg _ _ aA rfl rfl (by simp [buildPV, PV.cells]; first | done | rfl) ?_) | (refine zbo _ _ _ rfl rfl aE (by first | assumption | (exact TAgg.size aA)) rfl rfl rfl aZ rfl aL (by first | (first | (simp only [lx, Nat.reduceAdd]; first | done | rfl) | fail) | rfl) ?_) | (refine zas (hK _ _ (.inl rfl) ?_); clear hK K) | (refine zas (hK _ _ (.inr (by kernel_rfl)) ?_); clear hK K))
      | (refine za3 ?_; first | (refine zbp ?_) | (refine zaj (fun K hK => ?_)) | (refine zan ?_) | (refine za4 ?_) | (refine zbq ?_) | (refine za1 ?_) | (refine zbg ?_; first | (refine zam rfl aD ?_) | (refine zal rfl aD ?_) | (refine zaz rfl (fun h => ?_) (fun h => ?_) <;> (have h' := h; (try simp only [sx] at h')))))
      | (refine za2 ?_) | (refine zai ?_) | (refine zae ?_) | (refine zaq ?_) | (refine zar ?_) | (refine zao ?_) | (refine zap rfl ?_) | (refine zab ?_) | (refine zag ?_) | (refine zbr ?_))
      all_goals first
        | (exfalso; omega)
        | exact ret_lL rfl rfl rfl (by decide) ⟨⟨rfl, rfl, fun h => by cases h⟩, trivial⟩ rfl rfl hme hes
theorem k_phasesZ (c : Cu) (hc : c.Ok) (hp : c.pos + 100 ≤ 1152921504606846976) : ∃ (ps : List Phase) (c' : Cu), Dr 73 [] c (.list 2 (ps.map Phase.pv)) c' ∧ Aft c c' 100 ∧ ps.length ≤ 7 := by
  obtain ⟨ps, c', k, h⟩ := k_phasesD c hc hp
  exact ⟨ps, c', ConL.frz k rfl (by intro row h; simp at h; subst h; rfl), h⟩
theorem k_cellsOfD (c : Cu) (t : Terrain) (hc : c.Ok) (hp : c.pos + 100 ≤ 1152921504606846976) (ht : TrSz t) : ∃ (xs : List Int) (c' : Cu), Dr 91 [.agg t.pv] c (.olist 3 1 (ints xs)) c' ∧ Aft c c' 100 ∧ xs.length ≤ 5 := by
  obtain ⟨n, c1, k1, a1, n0, n1, _⟩ := k_pick c 5 hc aO aO
  have n1 := n1 aO
  have o1 := a1.ok hc aO
  have p1 := a1.pos
  have hl1 : (ints t.burn).length = t.burn.length := by simp
  have ht3 := ht.2.2
  obtain ⟨N, hN⟩ : ∃ N : Nat, n = (N : Int) := ⟨n.toNat, by omega⟩
  subst hN
  obtain ⟨f, f0, fs⟩ := seq_ex (S := Cu × List Int) (Q := fun i s => i ≤ 5 → Aft c1 s.1 (2 * i) ∧ s.2.length ≤ i)
    (R := fun i s s' => i < 5 → ∃ (x : Int), Dr 104 [.int .i64 ((ints t.burn).length : Int)] s.1 (.int .i64 x) s'.1 ∧ s'.2 = put s.2 x)
    (c1, []) (fun _ => ⟨(Aft.refl c1).le aO, by simp⟩) (fun i st hq => by
      by_cases hi : i < 5
      · obtain ⟨ad, hl2⟩ := hq aO
        have od := ad.ok o1 aO
        have pd := ad.pos
        obtain ⟨x, c2, k2, a2, _⟩ := k_pick st.1 t.burn.length od aO aO
        rw [← hl1] at k2
        have hpl := put_len st.2 x
        exact ⟨(c2, put st.2 x), fun _ => ⟨x, k2, rfl⟩, fun _ => ⟨(ad.trans a2).le (by first | omega | (simp only; omega)), by first | omega | (simp only; omega)⟩⟩
      · exact ⟨st, fun h => absurd h hi, fun h => by omega⟩)
  obtain ⟨ad, hl⟩ := (fs N).1 aO
  have od := ad.ok o1 aO
  have pd := ad.pos
  obtain ⟨y, c2, k2, a2⟩ := k_one (f N).1 24 od aO aO
  have o2 := a2.ok od aO
  have p2 := a2.pos
  obtain ⟨x3, c3, k3, a3, _⟩ := k_among c2 [0, -1, (t.burn.length : Int)] o2 aO (by simp)
  rw [← hl1] at k3
  have key : ∃ (xs : List Int) (c' : Cu), Aft c c' 100 ∧ xs.length ≤ 5 ∧ ((y = false ∧ xs = (f N).2 ∧ c' = c2) ∨ (y = true ∧ xs = (f N).2 ++ [x3] ∧ c' = c3)) := by
    cases y
    · exact ⟨_, c2, ((a1.trans ad).trans a2).le aO, by omega, Or.inl ⟨rfl, rfl, rfl⟩⟩
    · exact ⟨_, c3, (((a1.trans ad).trans a2).trans a3).le aO, by simp; omega, Or.inr ⟨rfl, rfl, rfl⟩⟩
  obtain ⟨xs, c', hA, hL, key⟩ := key
  refine ⟨xs, c', ?_, hA, hL⟩
  clear hA hL
  refine za8 hmix Try.func91 rfl (by kernel_rfl) (by kernel_rfl) (Nat.le_of_ble_eq_true rfl) (fun row h => by (simp only [List.mem_cons, List.not_mem_nil, or_false] at h; first | (subst h; (first | exact .inl rfl | exact .inr (fun e he u hu => by (simp only [List.mem_cons, List.not_mem_nil, or_false] at he; subst he; simp only [List.mem_cons, List.not_mem_nil, or_false] at hu; subst hu; rfl)))) | (rcases h with rfl | rfl <;> (first | exact .inl rfl | exact .inr (fun e he u hu => by (simp only [List.mem_cons, List.not_mem_nil, or_false] at he; subst he; simp only [List.mem_cons, List.not_mem_nil, or_false] at hu; subst hu; rfl)))) | (rcases h with rfl | rfl | rfl <;> (first | exact .inl rfl | exact .inr (fun e he u hu => by (simp only [List.mem_cons, List.not_mem_nil, or_false] at he; subst he; simp only [List.mem_cons, List.not_mem_nil, or_false] at hu; subst hu; rfl)))) | (rcases h with rfl | rfl | rfl | rfl <;> (first | exact .inl rfl | exact .inr (fun e he u hu => by (simp only [List.mem_cons, List.not_mem_nil, or_false] at he; subst he; simp only [List.mem_cons, List.not_mem_nil, or_false] at hu; subst hu; rfl)))))) ?_
  have hty_s24 := ty_s24
  have hty_f26_2 := ty_f26_2
  have hty_c24 := ty_c24
  have hty_u24 := ty_u24
  repeat' (first
      | (refine za5 ?_; first | (refine za6 ?_; refine zat _ rfl ?_) | (refine zad ?_; refine zaa _ rfl ?_) | (refine zbv ?_; first | (refine zck rfl rfl aO ?_) | (refine zbu _ rfl rfl rfl ?_)) | (refine zbf ?_; first | (refine zac aA rfl ?_) | (refine zah _ aA rfl rfl aE rfl ?_) | (refine zaf _ aA rfl aZ aL ?_) | (refine zak _ aA rfl rfl aE aZ aL ?_)) | (refine zbm ?_; first | (refine zay _ aA rfl aL ?_) | (refine zax _ aA rfl rfl (by simp only [lx, Nat.reduceAdd]; first | done | rfl) ?_)) | (refine zbd ?_; first | (refine zb9 [(io, 0)] (k1) rfl rfl (by (repeat' (first | exact trivial | refine ⟨⟨_, rfl, ?_⟩, ?_⟩ | exact .inl ⟨rfl, .inl rfl⟩ | exact .inr ⟨rfl, rfl, rfl, rfl, rfl, fun e he u hu => by (simp only [List.mem_cons, List.not_mem_nil, or_false] at he; subst he; simp only [List.mem_cons, List.not_mem_nil, or_false] at hu; subst hu; rfl)⟩ | exact .inl ⟨rfl, .inr (fun e he => by (simp only [List.mem_cons, List.not_mem_nil, or_false] at he; subst he; rfl))⟩ | fail)); first | done | fail) rfl rfl aS rfl aH rfl ?_; simp only [cl]) | (refine za9 aA rfl ?_) | (refine zbc aA rfl rfl ?_) | (refine zba aA rfl ?_) | (refine zbb aA (evO_ok rfl) ?_) | (refine zb4 _ _ aA rfl (lookM (by rfl)) rfl (lookM (by rfl)) rfl aN ⟨rfl, rfl, by decide, by decide⟩ (by first | rfl | omega | (simp; done) | (simp; omega) | fail) ⟨by first | (simp only [List.length_cons, List.length_nil]; omega) | omega | fail, by decide⟩ rfl (by first | (first | (simp only [lx, Nat.reduceAdd]; first | done | rfl) | fail) | rfl) aP ?_) | (refine zb3 _ _ aA rfl rfl (lookM (by rfl)) ⟨rfl, by decide⟩ aN (by first | exact Nat.succ_pos _ | omega | (simp; done)) ⟨by first | (simp only [List.length_cons, List.length_nil]; omega) | omega | fail, by decide⟩ rfl rfl aP ?_) | (refine zb5 _ aA rfl rfl (lookM (by rfl)) ⟨rfl, by decide⟩ aN ⟨by first | (simp only [List.length_cons, List.length_nil]; omega) | omega | fail, by decide⟩ rfl aP ?_) | (refine zb0 _ aA rfl rfl rfl ⟨rfl, rfl, rfl, by decide, by decide⟩ (by first | rfl | (simp; done) | fail) ⟨by omega, by decide⟩ rfl aL (by first | (rw [Nat.zero_add]) | rfl) ?_)) | (refine za7 aA rfl rfl rfl ?_) | (refine zbz _ _ rfl rfl rfl rfl ?_) | (refine zas (hK _ _ (.inl rfl) ?_); clear hK K) | (refine zas (hK _ _ (.inr (by kernel_rfl)) ?_); clear hK K))
      | (refine za3 ?_; first | (refine zbp ?_) | (refine zaj (fun K hK => ?_)) | (refine zan ?_) | (refine za4 ?_) | (refine zbq ?_) | (refine za1 ?_) | (refine zbg ?_; first | (refine zam rfl aD ?_) | (refine zal rfl aD ?_) | (refine zaz rfl (fun h => ?_) (fun h => ?_) <;> (have h' := h; (try simp only [sx] at h')))))
      | (refine za2 ?_) | (refine zai ?_) | (refine zae ?_) | (refine zaq ?_) | (refine zar ?_) | (refine zao ?_) | (refine zap rfl ?_) | (refine zab ?_) | (refine zag ?_) | (refine zbr ?_))
  all_goals try (exfalso; omega)
  refine zcd [0, 3] [(io, 0), (1001, 0)] (fun q : Nat × Cu × List Int × Nat × Int => [(5, .osl (1001, 0) 0 q.2.2.2.1), (6, .int .i64 q.2.2.2.2)]) (fun q : Nat × Cu × List Int × Nat × Int => [((io, 0), some (cuRow q.2.1)), ((1001, 0), some ⟨3, 1, ints q.2.2.1, false⟩)]) (fun q : Nat × Cu × List Int × Nat × Int => q.2.1 = (f q.1).1 ∧ q.2.2.1 = (f q.1).2 ∧ q.2.2.2.2 = (N : Int) - q.1 ∧ q.1 ≤ N ∧ (ints q.2.2.1).length = q.2.2.2.1) (fun q : Nat × Cu × List Int × Nat × Int => N - q.1) ((0, c1, [], 0, N)) rfl rfl (fun _ => rfl) (fun _ => rfl) rfl aW ⟨by rw [f0], by rw [f0], by simp, by simp, rfl⟩ (fun q hq => ?_)
  obtain ⟨m, d, us, ul, v⟩ := q
  obtain ⟨hd, hus, hv, hmN, hul⟩ := hq
  simp only at hd hus hv hmN hul
  dsimp only
  have hul2 : us.length = ul := by rw [← hul]; simp
  have hlu := hul.symm
  obtain ⟨adm, hlm⟩ := (fs m).1 aO
  by_cases hlt : m < N
  · obtain ⟨x, kp, ep⟩ := (fs m).2 aO
    rw [← hd] at kp
    rw [← hus] at hlm ep
    by_cases hin : us[kPut us x]? = some x
    · have kP := k_l1PutS us x ul hul2 aO hin
      have eP : put us x = us := by unfold put; rw [if_pos hin]
      repeat' (first
      | (refine za5 ?_; first | (refine za6 ?_; refine zat _ rfl ?_) | (refine zad ?_; refine zaa _ rfl ?_) | (refine zbv ?_; first | (refine zck rfl rfl aO ?_) | (refine zbu _ rfl rfl rfl ?_)) | (refine zbf ?_; first | (refine zac aA rfl ?_) | (refine zah _ aA rfl rfl aE rfl ?_) | (refine zaf _ aA rfl aZ aL ?_) | (refine zak _ aA rfl rfl aE aZ aL ?_)) | (refine zbm ?_; first | (refine zay _ aA rfl aL ?_) | (refine zax _ aA rfl rfl (by simp only [lx, Nat.reduceAdd]; first | done | rfl) ?_)) | (refine zbd ?_; first | (refine zb9 [(io, 0)] (kp) rfl rfl (by (repeat' (first | exact trivial | refine ⟨⟨_, rfl, ?_⟩, ?_⟩ | exact .inl ⟨rfl, .inl rfl⟩ | exact .inr ⟨rfl, rfl, rfl, rfl, rfl, fun e he u hu => by (simp only [List.mem_cons, List.not_mem_nil, or_false] at he; subst he; simp only [List.mem_cons, List.not_mem_nil, or_false] at hu; subst hu; rfl)⟩ | exact .inl ⟨rfl, .inr (fun e he => by (simp only [List.mem_cons, List.not_mem_nil, or_false] at he; subst he; rfl))⟩ | fail)); first | done | fail) rfl rfl aS rfl aH rfl ?_; simp only [cl]) | (refine x_callMr [(1001, 0)] [] (kP) rfl rfl (by (repeat' (first | exact trivial | exact ⟨⟨_, rfl, rfl⟩, rfl⟩ | exact ⟨rfl, rfl⟩ | refine ⟨⟨⟨_, rfl, rfl⟩, rfl⟩, ?_⟩ | refine ⟨⟨rfl, rfl⟩, ?_⟩)); first | done | fail) (by (repeat' (first | exact trivial | exact ⟨⟨_, rfl, rfl⟩, rfl⟩ | exact ⟨rfl, rfl⟩ | refine ⟨⟨⟨_, rfl, rfl⟩, rfl⟩, ?_⟩ | refine ⟨⟨rfl, rfl⟩, ?_⟩)); first | done | fail) rfl rfl aS rfl (by (repeat' (first | exact trivial | refine ⟨⟨rfl, rfl, (by first | rfl | (simp; done) | omega), rfl, rfl⟩, ?_⟩)); first | done | fail) rfl rfl rfl rfl ?_; simp only [cl]) | (refine za9 aA rfl ?_) | (refine zbc aA rfl rfl ?_) | (refine zba aA rfl ?_) | (refine zbb aA (evO_ok rfl) ?_) | (refine zb4 _ _ aA rfl (lookM (by rfl)) rfl (lookM (by rfl)) rfl aN ⟨rfl, rfl, by decide, by decide⟩ (by first | rfl | omega | (simp; done) | (simp; omega) | fail) ⟨by first | (simp only [List.length_cons, List.length_nil]; omega) | omega | fail, by decide⟩ rfl (by first | (first | (simp only [lx, Nat.reduceAdd]; first | done | rfl) | fail) | rfl) aP ?_) | (refine zb3 _ _ aA rfl rfl (lookM (by rfl)) ⟨rfl, by decide⟩ aN (by first | exact Nat.succ_pos _ | omega | (simp; done)) ⟨by first | (simp only [List.length_cons, List.length_nil]; omega) | omega | fail, by decide⟩ rfl rfl aP ?_) | (refine zb5 _ aA rfl rfl (lookM (by rfl)) ⟨rfl, by decide⟩ aN ⟨by first | (simp only [List.length_cons, List.length_nil]; omega) | omega | fail, by decide⟩ rfl aP ?_) | (refine zb0 _ aA rfl rfl rfl ⟨rfl, rfl, rfl, by decide, by decide⟩ (by first | rfl | (simp; done) | fail) ⟨by omega, by decide⟩ rfl aL (by first | (rw [Nat.zero_add]) | rfl) ?_)) | (refine za7 aA rfl rfl rfl ?_) | (refine zbz _ _ rfl rfl rfl rfl ?_) | (refine zas (hK _ _ (.inl rfl) ?_); clear hK K) | (refine zas (hK _ _ (.inr (by kernel_rfl)) ?_); clear hK K))
      | (refine za3 ?_; first | (refine zbp ?_) | (refine zaj (fun K hK => ?_)) | (refine zan ?_) | (refine za4 ?_) | (refine zbq ?_) | (refine za1 ?_) | (refine zbg ?_; first | (refine zam rfl aD ?_) | (refine zal rfl aD ?_) | (refine zaz rfl (fun h => ?_) (fun h => ?_) <;> (have h' := h; (try simp only [sx] at h')))))
      | (refine za2 ?_) | (refine zai ?_) | (refine zae ?_) | (refine zaq ?_) | (refine zar ?_) | (refine zao ?_) | (refine zap rfl ?_) | (refine zab ?_) | (refine zag ?_) | (refine zbr ?_))
      all_goals try (exfalso; omega)
      all_goals (refine zcb (m + 1, (f (m + 1)).1, us, ul, v - 1) rfl aW ⟨rfl, by simp only; rw [ep, eP], by first | omega | (simp only; omega), by first | omega | (simp only; omega), hul⟩ (by first | omega | (simp only; omega)))
    · have kP := k_l1PutN us x aO hin
      repeat' (first
      | (refine za5 ?_; first | (refine za6 ?_; refine zat _ rfl ?_) | (refine zad ?_; refine zaa _ rfl ?_) | (refine zbv ?_; first | (refine zck rfl rfl aO ?_) | (refine zbu _ rfl rfl rfl ?_)) | (refine zbf ?_; first | (refine zac aA rfl ?_) | (refine zah _ aA rfl rfl aE rfl ?_) | (refine zaf _ aA rfl aZ aL ?_) | (refine zak _ aA rfl rfl aE aZ aL ?_)) | (refine zbm ?_; first | (refine zay _ aA rfl aL ?_) | (refine zax _ aA rfl rfl (by simp only [lx, Nat.reduceAdd]; first | done | rfl) ?_)) | (refine zbd ?_; first | (refine zb9 [(io, 0)] (kp) rfl rfl (by (repeat' (first | exact trivial | refine ⟨⟨_, rfl, ?_⟩, ?_⟩ | exact .inl ⟨rfl, .inl rfl⟩ | exact .inr ⟨rfl, rfl, rfl, rfl, rfl, fun e he u hu => by (simp only [List.mem_cons, List.not_mem_nil, or_false] at he; subst he; simp only [List.mem_cons, List.not_mem_nil, or_false] at hu; subst hu; rfl)⟩ | exact .inl ⟨rfl, .inr (fun e he => by (simp only [List.mem_cons, List.not_mem_nil, or_false] at he; subst he; rfl))⟩ | fail)); first | done | fail) rfl rfl aS rfl aH rfl ?_; simp only [cl]) | (refine za0 true (kP) rfl rfl rfl aS rfl aH ?_; simp only [cl]) | (refine za9 aA rfl ?_) | (refine zbc aA rfl rfl ?_) | (refine zba aA rfl ?_) | (refine zbb aA (evO_ok rfl) ?_) | (refine zb4 _ _ aA rfl (lookM (by rfl)) rfl (lookM (by rfl)) rfl aN ⟨rfl, rfl, by decide, by decide⟩ (by first | rfl | omega | (simp; done) | (simp; omega) | fail) ⟨by first | (simp only [List.length_cons, List.length_nil]; omega) | omega | fail, by decide⟩ rfl (by first | (first | (simp only [lx, Nat.reduceAdd]; first | done | rfl) | fail) | rfl) aP ?_) | (refine zb3 _ _ aA rfl rfl (lookM (by rfl)) ⟨rfl, by decide⟩ aN (by first | exact Nat.succ_pos _ | omega | (simp; done)) ⟨by first | (simp only [List.length_cons, List.length_nil]; omega) | omega | fail, by decide⟩ rfl rfl aP ?_) | (refine zb5 _ aA rfl rfl (lookM (by rfl)) ⟨rfl, by decide⟩ aN ⟨by first | (simp only [List.length_cons, List.length_nil]; omega) | omega | fail, by decide⟩ rfl aP ?_) | (refine zb0 _ aA rfl rfl rfl ⟨rfl, rfl, rfl, by decide, by decide⟩ (by first | rfl | (simp; done) | fail) ⟨by omega, by decide⟩ rfl aL (by first | (rw [Nat.zero_add]) | rfl) ?_)) | (refine za7 aA rfl rfl rfl ?_) | (refine zbz _ _ rfl rfl rfl rfl ?_) | (refine zas (hK _ _ (.inl rfl) ?_); clear hK K) | (refine zas (hK _ _ (.inr (by kernel_rfl)) ?_); clear hK K))
      | (refine za3 ?_; first | (refine zbp ?_) | (refine zaj (fun K hK => ?_)) | (refine zan ?_) | (refine za4 ?_) | (refine zbq ?_) | (refine za1 ?_) | (refine zbg ?_; first | (refine zam rfl aD ?_) | (refine zal rfl aD ?_) | (refine zaz rfl (fun h => ?_) (fun h => ?_) <;> (have h' := h; (try simp only [sx] at h')))))
      | (refine za2 ?_) | (refine zai ?_) | (refine zae ?_) | (refine zaq ?_) | (refine zar ?_) | (refine zao ?_) | (refine zap rfl ?_) | (refine zab ?_) | (refine zag ?_) | (refine zbr ?_))
      all_goals try (exfalso; omega)
      all_goals (refine zcb (m + 1, (f (m + 1)).1, put us x, (ints (put us x)).length, v - 1) rfl aW ⟨rfl, ep.symm, by first | omega | (simp only; omega), by first | omega | (simp only; omega), rfl⟩ (by first | omega | (simp only; omega)))
  · have hmN2 : m = N := by omega
    subst hmN2
    rw [← hd] at k2
    rw [← hus] at key hlm
    rcases key with ⟨rfl, rfl, rfl⟩ | ⟨rfl, rfl, rfl⟩
    · repeat' (first
      | (refine za5 ?_; first | (refine za6 ?_; refine zat _ rfl ?_) | (refine zad ?_; refine zaa _ rfl ?_) | (refine zbv ?_; first | (refine zck rfl rfl aO ?_) | (refine zbu _ rfl rfl rfl ?_)) | (refine zbf ?_; first | (refine zac aA rfl ?_) | (refine zah _ aA rfl rfl aE rfl ?_) | (refine zaf _ aA rfl aZ aL ?_) | (refine zak _ aA rfl rfl aE aZ aL ?_)) | (refine zbm ?_; first | (refine zay _ aA rfl aL ?_) | (refine zax _ aA rfl rfl (by simp only [lx, Nat.reduceAdd]; first | done | rfl) ?_)) | (refine zbd ?_; first | (refine zb9 [(io, 0)] (k2) rfl rfl (by (repeat' (first | exact trivial | refine ⟨⟨_, rfl, ?_⟩, ?_⟩ | exact .inl ⟨rfl, .inl rfl⟩ | exact .inr ⟨rfl, rfl, rfl, rfl, rfl, fun e he u hu => by (simp only [List.mem_cons, List.not_mem_nil, or_false] at he; subst he; simp only [List.mem_cons, List.not_mem_nil, or_false] at hu; subst hu; rfl)⟩ | exact .inl ⟨rfl, .inr (fun e he => by (simp only [List.mem_cons, List.not_mem_nil, or_false] at he; subst he; rfl))⟩ | fail)); first | done | fail) rfl rfl aS rfl aH rfl ?_; simp only [cl]) | (refine za9 aA rfl ?_) | (refine zbc aA rfl rfl ?_) | (refine zba aA rfl ?_) | (refine zbb aA (evO_ok rfl) ?_) | (refine zb4 _ _ aA rfl (lookM (by rfl)) rfl (lookM (by rfl)) rfl aN ⟨rfl, rfl, by decide, by decide⟩ (by first | rfl | omega | (simp; done) | (simp; omega) | fail) ⟨by first | (simp only [List.length_cons, List.length_nil]; omega) | omega | fail, by decide⟩ rfl (by first | (first | (simp only [lx, Nat.reduceAdd]; first | done | rfl) | fail) | rfl) aP ?_) | (refine zb3 _ _ aA rfl rfl (lookM (by rfl)) ⟨rfl, by decide⟩ aN (by first | exact Nat.succ_pos _ | omega | (simp; done)) ⟨by first | (simp only [List.length_cons, List.length_nil]; omega) | omega | fail, by decide⟩ rfl rfl aP ?_) | (refine zb5 _ aA rfl rfl (lookM (by rfl)) ⟨rfl, by decide⟩ aN ⟨by first | (simp only [List.length_cons, List.length_nil]; omega) | omega | fail, by decide⟩ rfl aP ?_) | (refine zb0 _ aA rfl rfl rfl ⟨rfl, rfl, rfl, by decide, by decide⟩ (by first | rfl | (simp; done) | fail) ⟨by omega, by decide⟩ rfl aL (by first | (rw [Nat.zero_add]) | rfl) ?_)) | (refine za7 aA rfl rfl rfl ?_) | (refine zbz _ _ rfl rfl rfl rfl ?_) | (refine zas (hK _ _ (.inl rfl) ?_); clear hK K) | (refine zas (hK _ _ (.inr (by kernel_rfl)) ?_); clear hK K))
      | (refine za3 ?_; first | (refine zbp ?_) | (refine zaj (fun K hK => ?_)) | (refine zan ?_) | (refine za4 ?_) | (refine zbq ?_) | (refine za1 ?_) | (refine zbg ?_; first | (refine zam rfl aD ?_) | (refine zal rfl aD ?_) | (refine zaz rfl (fun h => ?_) (fun h => ?_) <;> (have h' := h; (try simp only [sx] at h')))))
      | (refine za2 ?_) | (refine zai ?_) | (refine zae ?_) | (refine zaq ?_) | (refine zar ?_) | (refine zao ?_) | (refine zap rfl ?_) | (refine zab ?_) | (refine zag ?_) | (refine zbr ?_))
      all_goals first
        | (exfalso; omega)
        | exact ret_lL rfl rfl rfl (by decide) ⟨⟨rfl, rfl, fun h => by cases h⟩, trivial⟩ rfl rfl hlu rfl
    · repeat' (first
      | (refine za5 ?_; first | (refine za6 ?_; refine zat _ rfl ?_) | (refine zad ?_; refine zaa _ rfl ?_) | (refine zbv ?_; first | (refine zck rfl rfl aO ?_) | (refine zbu _ rfl rfl rfl ?_)) | (refine zbf ?_; first | (refine zac aA rfl ?_) | (refine zah _ aA rfl rfl aE rfl ?_) | (refine zaf _ aA rfl aZ aL ?_) | (refine zak _ aA rfl rfl aE aZ aL ?_)) | (refine zbm ?_; first | (refine zay _ aA rfl aL ?_) | (refine zax _ aA rfl rfl (by simp only [lx, Nat.reduceAdd]; first | done | rfl) ?_)) | (refine zbd ?_; first | (refine zb9 [(io, 0)] (k2) rfl rfl (by (repeat' (first | exact trivial | refine ⟨⟨_, rfl, ?_⟩, ?_⟩ | exact .inl ⟨rfl, .inl rfl⟩ | exact .inr ⟨rfl, rfl, rfl, rfl, rfl, fun e he u hu => by (simp only [List.mem_cons, List.not_mem_nil, or_false] at he; subst he; simp only [List.mem_cons, List.not_mem_nil, or_false] at hu; subst hu; rfl)⟩ | exact .inl ⟨rfl, .inr (fun e he => by (simp only [List.mem_cons, List.not_mem_nil, or_false] at he; subst he; rfl))⟩ | fail)); first | done | fail) rfl rfl aS rfl aH rfl ?_; simp only [cl]) | (refine zb9 [(io, 0)] (k3) rfl rfl (by (repeat' (first | exact trivial | refine ⟨⟨_, rfl, ?_⟩, ?_⟩ | exact .inl ⟨rfl, .inl rfl⟩ | exact .inr ⟨rfl, rfl, rfl, rfl, rfl, fun e he u hu => by (simp only [List.mem_cons, List.not_mem_nil, or_false] at he; subst he; simp only [List.mem_cons, List.not_mem_nil, or_false] at hu; subst hu; rfl)⟩ | exact .inl ⟨rfl, .inr (fun e he => by (simp only [List.mem_cons, List.not_mem_nil, or_false] at he; subst he; rfl))⟩ | fail)); first | done | fail) rfl rfl aS rfl aH rfl ?_; simp only [cl]) | (refine za9 aA rfl ?_) | (refine zbc aA rfl rfl ?_) | (refine zba aA rfl ?_) | (refine zbb aA (evO_ok rfl) ?_) | (refine zb4 _ _ aA rfl (lookM (by rfl)) rfl (lookM (by rfl)) rfl aN ⟨rfl, rfl, by decide, by decide⟩ (by first | rfl | omega | (simp; done) | (simp; omega) | fail) ⟨by first | (simp only [List.length_cons, List.length_nil]; omega) | omega | fail, by decide⟩ rfl (by first | (first | (simp only [lx, Nat.reduceAdd]; first | done | rfl) | fail) | rfl) aP ?_) | (refine zb3 _ _ aA rfl rfl (lookM (by rfl)) ⟨rfl, by decide⟩ aN (by first | exact Nat.succ_pos _ | omega | (simp; done)) ⟨by first | (simp only [List.length_cons, List.length_nil]; omega) | omega | fail, by decide⟩ rfl rfl aP ?_) | (refine zb5 _ aA rfl rfl (lookM (by rfl)) ⟨rfl, by decide⟩ aN ⟨by first | (simp only [List.length_cons, List.length_nil]; omega) | omega | fail, by decide⟩ rfl aP ?_) | (refine zb0 _ aA rfl rfl rfl ⟨rfl, rfl, rfl, by decide, by decide⟩ (by first | rfl | (simp; done) | fail) ⟨by omega, by decide⟩ rfl aL (by first | (rw [Nat.zero_add]) | rfl) ?_)) | (refine za7 aA rfl rfl rfl ?_) | (refine zbz _ _ rfl rfl rfl rfl ?_) | (refine zas (hK _ _ (.inl rfl) ?_); clear hK K) | (refine zas (hK _ _ (.inr (by kernel_rfl)) ?_); clear hK K))
      | (refine za3 ?_; first | (refine zbp ?_) | (refine zaj (fun K hK => ?_)) | (refine zan ?_) | (refine za4 ?_) | (refine zbq ?_) | (refine za1 ?_) | (refine zbg ?_; first | (refine zam rfl aD ?_) | (refine zal rfl aD ?_) | (refine zaz rfl (fun h => ?_) (fun h => ?_) <;> (have h' := h; (try simp only [sx] at h')))))
      | (refine za2 ?_) | (refine zai ?_) | (refine zae ?_) | (refine zaq ?_) | (refine zar ?_) | (refine zao ?_) | (refine zap rfl ?_) | (refine zab ?_) | (refine zag ?_) | (refine zbr ?_))
      all_goals first
        | (exfalso; omega)
        | exact ret_lL rfl rfl rfl (by decide) ⟨⟨rfl, rfl, fun h => by cases h⟩, trivial⟩ rfl rfl (by simp [hul2]) (by simp)
theorem k_cellsOf (c : Cu) (t : Terrain) (hc : c.Ok) (hp : c.pos + 100 ≤ 1152921504606846976) (ht : TrSz t) : ∃ (xs : List Int) (c' : Cu), Dr 91 [.agg t.pv] c (.list 1 (ints xs)) c' ∧ Aft c c' 100 ∧ xs.length ≤ 5 := by
  obtain ⟨ps, c', k, h⟩ := k_cellsOfD c t hc hp ht
  exact ⟨ps, c', ConL.frz k rfl (by intro row h; simp at h; subst h; rfl), h⟩
theorem k_cellOf (c : Cu) (t : Terrain) (hc : c.Ok) (hp : c.pos + 10 ≤ 1152921504606846976) (ht : TrSz t) : ∃ (r : Int) (c' : Cu), Dr 81 [.agg t.pv] c (.int .i64 r) c' ∧ Aft c c' 4 ∧ -1 ≤ r ∧ r ≤ 26 := by
  obtain ⟨y, c1, k1, a1⟩ := k_one c 16 hc aO aO
  have o1 := a1.ok hc aO
  have p1 := a1.pos
  have hl1 : (ints t.burn).length = t.burn.length := by simp
  have ht3 := ht.2.2
  cases y
  · obtain ⟨x, c2, k2, a2, g0, g1, _⟩ := k_pick c1 t.burn.length o1 aO aO
    have g1 := g1 aO
    rw [← hl1] at k2
    refine ⟨x, c2, ?_, (a1.trans a2).le aO, by omega, by omega⟩
    refine za8 hmix Try.func81 rfl (by kernel_rfl) (by kernel_rfl) (Nat.le_of_ble_eq_true rfl) (fun row h => by (simp only [List.mem_cons, List.not_mem_nil, or_false] at h; first | (subst h; (first | exact .inl rfl | exact .inr (fun e he u hu => by (simp only [List.mem_cons, List.not_mem_nil, or_false] at he; subst he; simp only [List.mem_cons, List.not_mem_nil, or_false] at hu; subst hu; rfl)))) | (rcases h with rfl | rfl <;> (first | exact .inl rfl | exact .inr (fun e he u hu => by (simp only [List.mem_cons, List.not_mem_nil, or_false] at he; subst he; simp only [List.mem_cons, List.not_mem_nil, or_false] at hu; subst hu; rfl)))) | (rcases h with rfl | rfl | rfl <;> (first | exact .inl rfl | exact .inr (fun e he u hu => by (simp only [List.mem_cons, List.not_mem_nil, or_false] at he; subst he; simp only [List.mem_cons, List.not_mem_nil, or_false] at hu; subst hu; rfl)))) | (rcases h with rfl | rfl | rfl | rfl <;> (first | exact .inl rfl | exact .inr (fun e he u hu => by (simp only [List.mem_cons, List.not_mem_nil, or_false] at he; subst he; simp only [List.mem_cons, List.not_mem_nil, or_false] at hu; subst hu; rfl)))))) ?_
    have hty_f26_2 := ty_f26_2
    have hty_c24 := ty_c24
    have hty_u24 := ty_u24
    have hty_s24 := ty_s24
    repeat' (first
      | (refine za5 ?_; first | (refine za6 ?_; refine zat _ rfl ?_) | (refine zad ?_; refine zaa _ rfl ?_) | (refine zbf ?_; first | (refine zac aA rfl ?_) | (refine zah _ aA rfl rfl aE rfl ?_) | (refine zaf _ aA rfl aZ aL ?_) | (refine zak _ aA rfl rfl aE aZ aL ?_)) | (refine zbm ?_; first | (refine zay _ aA rfl aL ?_) | (refine zax _ aA rfl rfl (by simp only [lx, Nat.reduceAdd]; first | done | rfl) ?_)) | (refine zbd ?_; first | (refine zb9 [(io, 0)] (k1) rfl rfl (by (repeat' (first | exact trivial | refine ⟨⟨_, rfl, ?_⟩, ?_⟩ | exact .inl ⟨rfl, .inl rfl⟩ | exact .inr ⟨rfl, rfl, rfl, rfl, rfl, fun e he u hu => by (simp only [List.mem_cons, List.not_mem_nil, or_false] at he; subst he; simp only [List.mem_cons, List.not_mem_nil, or_false] at hu; subst hu; rfl)⟩ | exact .inl ⟨rfl, .inr (fun e he => by (simp only [List.mem_cons, List.not_mem_nil, or_false] at he; subst he; rfl))⟩ | fail)); first | done | fail) rfl rfl aS rfl aH rfl ?_; simp only [cl]) | (refine zb9 [(io, 0)] (k2) rfl rfl (by (repeat' (first | exact trivial | refine ⟨⟨_, rfl, ?_⟩, ?_⟩ | exact .inl ⟨rfl, .inl rfl⟩ | exact .inr ⟨rfl, rfl, rfl, rfl, rfl, fun e he u hu => by (simp only [List.mem_cons, List.not_mem_nil, or_false] at he; subst he; simp only [List.mem_cons, List.not_mem_nil, or_false] at hu; subst hu; rfl)⟩ | exact .inl ⟨rfl, .inr (fun e he => by (simp only [List.mem_cons, List.not_mem_nil, or_false] at he; subst he; rfl))⟩ | fail)); first | done | fail) rfl rfl aS rfl aH rfl ?_; simp only [cl]) | (refine za9 aA rfl ?_) | (refine zbc aA rfl rfl ?_) | (refine zba aA rfl ?_) | (refine zbb aA (evO_ok rfl) ?_)) | (refine za7 aA rfl rfl rfl ?_) | (refine zbz _ _ rfl rfl rfl rfl ?_) | (refine zas (hK _ _ (.inl rfl) ?_); clear hK K) | (refine zas (hK _ _ (.inr (by kernel_rfl)) ?_); clear hK K))
      | (refine za3 ?_; first | (refine zbp ?_) | (refine zaj (fun K hK => ?_)) | (refine zan ?_) | (refine za4 ?_) | (refine zbq ?_) | (refine za1 ?_) | (refine zbg ?_; first | (refine zam rfl aD ?_) | (refine zal rfl aD ?_) | (refine zaz rfl (fun h => ?_) (fun h => ?_) <;> (have h' := h; (try simp only [sx] at h')))))
      | (refine za2 ?_) | (refine zai ?_) | (refine zae ?_) | (refine zaq ?_) | (refine zar ?_) | (refine zao ?_) | (refine zap rfl ?_) | (refine zab ?_) | (refine zag ?_) | (refine zbr ?_))
    all_goals exact ret_iL rfl rfl ⟨⟨rfl, rfl, fun h => by cases h⟩, trivial⟩ rfl
  · obtain ⟨x, c2, k2, a2, hx⟩ := k_among c1 [-1, (t.burn.length : Int)] o1 aO (by simp)
    rw [← hl1] at k2
    refine ⟨x, c2, ?_, (a1.trans a2).le aO, by simp at hx; omega, by simp at hx; omega⟩
    refine za8 hmix Try.func81 rfl (by kernel_rfl) (by kernel_rfl) (Nat.le_of_ble_eq_true rfl) (fun row h => by (simp only [List.mem_cons, List.not_mem_nil, or_false] at h; first | (subst h; (first | exact .inl rfl | exact .inr (fun e he u hu => by (simp only [List.mem_cons, List.not_mem_nil, or_false] at he; subst he; simp only [List.mem_cons, List.not_mem_nil, or_false] at hu; subst hu; rfl)))) | (rcases h with rfl | rfl <;> (first | exact .inl rfl | exact .inr (fun e he u hu => by (simp only [List.mem_cons, List.not_mem_nil, or_false] at he; subst he; simp only [List.mem_cons, List.not_mem_nil, or_false] at hu; subst hu; rfl)))) | (rcases h with rfl | rfl | rfl <;> (first | exact .inl rfl | exact .inr (fun e he u hu => by (simp only [List.mem_cons, List.not_mem_nil, or_false] at he; subst he; simp only [List.mem_cons, List.not_mem_nil, or_false] at hu; subst hu; rfl)))) | (rcases h with rfl | rfl | rfl | rfl <;> (first | exact .inl rfl | exact .inr (fun e he u hu => by (simp only [List.mem_cons, List.not_mem_nil, or_false] at he; subst he; simp only [List.mem_cons, List.not_mem_nil, or_false] at hu; subst hu; rfl)))))) ?_
    have hty_f26_2 := ty_f26_2
    have hty_c24 := ty_c24
    have hty_u24 := ty_u24
    have hty_s24 := ty_s24
    repeat' (first
      | (refine za5 ?_; first | (refine za6 ?_; refine zat _ rfl ?_) | (refine zad ?_; refine zaa _ rfl ?_) | (refine zbf ?_; first | (refine zac aA rfl ?_) | (refine zah _ aA rfl rfl aE rfl ?_) | (refine zaf _ aA rfl aZ aL ?_) | (refine zak _ aA rfl rfl aE aZ aL ?_)) | (refine zbm ?_; first | (refine zay _ aA rfl aL ?_) | (refine zax _ aA rfl rfl (by simp only [lx, Nat.reduceAdd]; first | done | rfl) ?_)) | (refine zbd ?_; first | (refine zb9 [(io, 0)] (k1) rfl rfl (by (repeat' (first | exact trivial | refine ⟨⟨_, rfl, ?_⟩, ?_⟩ | exact .inl ⟨rfl, .inl rfl⟩ | exact .inr ⟨rfl, rfl, rfl, rfl, rfl, fun e he u hu => by (simp only [List.mem_cons, List.not_mem_nil, or_false] at he; subst he; simp only [List.mem_cons, List.not_mem_nil, or_false] at hu; subst hu; rfl)⟩ | exact .inl ⟨rfl, .inr (fun e he => by (simp only [List.mem_cons, List.not_mem_nil, or_false] at he; subst he; rfl))⟩ | fail)); first | done | fail) rfl rfl aS rfl aH rfl ?_; simp only [cl]) | (refine zb9 [(io, 0)] (k2) rfl rfl (by (repeat' (first | exact trivial | refine ⟨⟨_, rfl, ?_⟩, ?_⟩ | exact .inl ⟨rfl, .inl rfl⟩ | exact .inr ⟨rfl, rfl, rfl, rfl, rfl, fun e he u hu => by (simp only [List.mem_cons, List.not_mem_nil, or_false] at he; subst he; simp only [List.mem_cons, List.not_mem_nil, or_false] at hu; subst hu; rfl)⟩ | exact .inl ⟨rfl, .inr (fun e he => by (simp only [List.mem_cons, List.not_mem_nil, or_false] at he; subst he; rfl))⟩ | fail)); first | done | fail) rfl rfl aS rfl aH rfl ?_; simp only [cl]) | (refine za9 aA rfl ?_) | (refine zbc aA rfl rfl ?_) | (refine zba aA rfl ?_) | (refine zbb aA (evO_ok rfl) ?_)) | (refine za7 aA rfl rfl rfl ?_) | (refine zbz _ _ rfl rfl rfl rfl ?_) | (refine zas (hK _ _ (.inl rfl) ?_); clear hK K) | (refine zas (hK _ _ (.inr (by kernel_rfl)) ?_); clear hK K))
      | (refine za3 ?_; first | (refine zbp ?_) | (refine zaj (fun K hK => ?_)) | (refine zan ?_) | (refine za4 ?_) | (refine zbq ?_) | (refine za1 ?_) | (refine zbg ?_; first | (refine zam rfl aD ?_) | (refine zal rfl aD ?_) | (refine zaz rfl (fun h => ?_) (fun h => ?_) <;> (have h' := h; (try simp only [sx] at h')))))
      | (refine za2 ?_) | (refine zai ?_) | (refine zae ?_) | (refine zaq ?_) | (refine zar ?_) | (refine zao ?_) | (refine zap rfl ?_) | (refine zab ?_) | (refine zag ?_) | (refine zbr ?_))
    all_goals exact ret_iL rfl rfl ⟨⟨rfl, rfl, fun h => by cases h⟩, trivial⟩ rfl
end Go.Vs
set_option linter.unusedVariables false
set_option linter.unusedSimpArgs false
set_option maxRecDepth 100000
set_option maxHeartbeats 4000000
namespace Go.Vs
open Go.Proofs
attribute [local irreducible] exec vwp thenQ blkQ loopQ RetPost
def Dims (t : Terrain) : Prop := (1 ≤ t.width ∧ t.width ≤ 5) ∧ (1 ≤ t.height ∧ t.height ≤ 5)
instance (t : Terrain) : Decidable (Dims t) := by unfold Dims; infer_instance
def GoodT (t : Terrain) : Prop := Dims t ∧ (t.burn.length : Int) = t.width * t.height ∧ ∀ b ∈ t.burn, 0 ≤ b ∧ b ≤ 20
instance (t : Terrain) : Decidable (GoodT t) := by unfold GoodT; infer_instance
theorem dims_area {t : Terrain} (h : Dims t) : 1 ≤ t.width * t.height ∧ t.width * t.height ≤ 25 := by
  have h1 : 1 * 1 ≤ t.width * t.height := Int.mul_le_mul h.1.1 h.2.1 aO (by have := h.1; omega)
  have h2 : t.width * t.height ≤ 5 * 5 := Int.mul_le_mul h.1.2 h.2.2 (by have := h.2; omega) aO
  omega
theorem goodT_len {t : Terrain} (h : GoodT t) : 1 ≤ t.burn.length ∧ t.burn.length ≤ 25 := by
  have := dims_area h.1
  have := h.2.1
  omega
theorem k_l2Good (t : Terrain) (hn : t.burn.length ≤ 1099511627776) : Con Try.prog 134 [.agg t.pv] (.bool (decide (GoodT t))) := by
  intro al
  refine za8 hmix Try.func134 rfl (by kernel_rfl) (by kernel_rfl) (Nat.le_of_ble_eq_true rfl) (fun row h => by cases h) ?_
  have hty_f26_0 := ty_f26_0
  have hty_c3 := ty_c3
  have hty_f26_1 := ty_f26_1
  have hty_f26_2 := ty_f26_2
  have hty_c24 := ty_c24
  have hty_u24 := ty_u24
  have hty_s24 := ty_s24
  have hl : (ints t.burn).length = t.burn.length := by simp
  by_cases hd : Dims t
  · have ha := dims_area hd
    have hd' := hd
    unfold Dims at hd'
    by_cases hs : (t.burn.length : Int) = t.width * t.height
    · repeat' (first
      | (refine za5 ?_; first | (refine za6 ?_; refine zat _ rfl ?_) | (refine zad ?_; refine zaa _ rfl ?_) | (refine zbv ?_; first | (refine zby rfl rfl aO ?_) | (refine zci rfl rfl aO ?_) | (refine zbu _ rfl rfl rfl ?_) | (refine zb6 aA rfl rfl ?_) | (refine zaw _ rfl rfl rfl ?_)) | (refine g_un ?_; first | (refine zce rfl ?_) | (refine zcf rfl aO ?_)) | (refine zbf ?_; first | (refine zac aA rfl ?_) | (refine zah _ aA rfl rfl aE rfl ?_) | (refine zaf _ aA rfl aZ aL ?_) | (refine zak _ aA rfl rfl aE aZ aL ?_)) | (refine zbm ?_; first | (refine zay _ aA rfl aL ?_) | (refine zax _ aA rfl rfl (by simp only [lx, Nat.reduceAdd]; first | done | rfl) ?_)) | (refine zbe ?_; first | (refine zau _ aA rfl rfl aO aA ?_) | (refine zav _ aA rfl rfl rfl rfl aO aO (by first | (rw [Nat.zero_add, Int.toNat_natCast]) | (rw [Nat.zero_add]) | rfl) ?_)) | (refine zbw ?_; first | (refine zbl rfl aD rfl ?_) | (refine zbi rfl aD ?_) | (refine zbj rfl aD ?_) | (refine zbk rfl aD rfl ?_)) | (refine zbs ?_; first | (refine zbx rfl rfl aD ?_) | (refine zb8 rfl rfl aD ?_) | (refine zb7 rfl rfl ?_) | (refine zbh rfl rfl (fun h => ?_) (fun h => ?_) <;> (have h' := h; (try simp only [sx] at h')))) | (refine zbd ?_; first | (refine za0 true (k_l1In _ _ _) rfl rfl rfl aS rfl aH ?_; simp only [cl]) | (refine za9 aA rfl ?_) | (refine zbc aA rfl rfl ?_) | (refine zba aA rfl ?_) | (refine zbb aA (evO_ok rfl) ?_)) | (refine zbz _ _ rfl rfl rfl rfl ?_) | (refine zas (hK _ _ (.inl rfl) ?_); clear hK K) | (refine zas (hK _ _ (.inr (by kernel_rfl)) ?_); clear hK K))
      | (refine za3 ?_; first | (refine zbp ?_) | (refine zaj (fun K hK => ?_)) | (refine zan ?_) | (refine za4 ?_) | (refine zbq ?_) | (refine za1 ?_) | (refine zbg ?_; first | (refine zam rfl aD ?_) | (refine zal rfl aD ?_) | (refine zaz rfl (fun h => ?_) (fun h => ?_) <;> (have h' := h; (try simp only [sx] at h')))))
      | (refine za2 ?_) | (refine zai ?_) | (refine zae ?_) | (refine zaq ?_) | (refine zar ?_) | (refine zao ?_) | (refine zap rfl ?_) | (refine zab ?_) | (refine zag ?_) | (refine zbr ?_))
      refine zcd [1] [] (fun i : Nat => [(3, .int .i64 i)]) (fun i : Nat => []) (fun i : Nat => i ≤ t.burn.length ∧ ∀ b ∈ t.burn.take i, 0 ≤ b ∧ b ≤ 20) (fun i : Nat => t.burn.length - i) (0) rfl rfl (fun _ => rfl) (fun _ => rfl) rfl aW ⟨by omega, fun b hb => by simp at hb⟩ (fun i hi => ?_)
      obtain ⟨h1, h2⟩ := hi
      rcases Nat.lt_or_ge i t.burn.length with hlt | hge
      · obtain ⟨a, hga⟩ := get_ex hlt
        have hx := ints_at hga
        repeat' (first
      | (refine za5 ?_; first | (refine za6 ?_; refine zat _ rfl ?_) | (refine zad ?_; refine zaa _ rfl ?_) | (refine zbv ?_; first | (refine zby rfl rfl aO ?_) | (refine zci rfl rfl aO ?_) | (refine zbu _ rfl rfl rfl ?_) | (refine zb6 aA rfl rfl ?_) | (refine zaw _ rfl rfl rfl ?_)) | (refine g_un ?_; first | (refine zce rfl ?_) | (refine zcf rfl aO ?_)) | (refine zbf ?_; first | (refine zac aA rfl ?_) | (refine zah _ aA rfl rfl aE rfl ?_) | (refine zaf _ aA rfl aZ aL ?_) | (refine zak _ aA rfl rfl aE aZ aL ?_)) | (refine zbm ?_; first | (refine zay _ aA rfl aL ?_) | (refine zax _ aA rfl rfl (by simp only [lx, Nat.reduceAdd]; first | done | rfl) ?_)) | (refine zbe ?_; first | (refine zau _ aA rfl rfl aO aA ?_) | (refine zav _ aA rfl rfl rfl rfl aO aO (by first | (rw [Nat.zero_add, Int.toNat_natCast]) | (rw [Nat.zero_add]) | rfl) ?_)) | (refine zbw ?_; first | (refine zbl rfl aD rfl ?_) | (refine zbi rfl aD ?_) | (refine zbj rfl aD ?_) | (refine zbk rfl aD rfl ?_)) | (refine zbs ?_; first | (refine zbx rfl rfl aD ?_) | (refine zb8 rfl rfl aD ?_) | (refine zb7 rfl rfl ?_) | (refine zbh rfl rfl (fun h => ?_) (fun h => ?_) <;> (have h' := h; (try simp only [sx] at h')))) | (refine zbd ?_; first | (refine za0 true (k_l1In _ _ _) rfl rfl rfl aS rfl aH ?_; simp only [cl]) | (refine za9 aA rfl ?_) | (refine zbc aA rfl rfl ?_) | (refine zba aA rfl ?_) | (refine zbb aA (evO_ok rfl) ?_)) | (refine zbz _ _ rfl rfl rfl rfl ?_) | (refine zas (hK _ _ (.inl rfl) ?_); clear hK K) | (refine zas (hK _ _ (.inr (by kernel_rfl)) ?_); clear hK K))
      | (refine za3 ?_; first | (refine zbp ?_) | (refine zaj (fun K hK => ?_)) | (refine zan ?_) | (refine za4 ?_) | (refine zbq ?_) | (refine za1 ?_) | (refine zbg ?_; first | (refine zam rfl aD ?_) | (refine zal rfl aD ?_) | (refine zaz rfl (fun h => ?_) (fun h => ?_) <;> (have h' := h; (try simp only [sx] at h')))))
      | (refine za2 ?_) | (refine zai ?_) | (refine zae ?_) | (refine zaq ?_) | (refine zar ?_) | (refine zao ?_) | (refine zap rfl ?_) | (refine zab ?_) | (refine zag ?_) | (refine zbr ?_))
        all_goals first
          | (refine zcb (i + 1) rfl aW ⟨by omega, all_take_succ hga h2 aO⟩ aO)
          | (refine zb1 rfl (zbn rfl) ?_
             have : ¬ GoodT t := fun h => by have := h.2.2 a (get_mem hga); omega
             simp [this])
      · repeat' (first
      | (refine za5 ?_; first | (refine za6 ?_; refine zat _ rfl ?_) | (refine zad ?_; refine zaa _ rfl ?_) | (refine zbv ?_; first | (refine zby rfl rfl aO ?_) | (refine zci rfl rfl aO ?_) | (refine zbu _ rfl rfl rfl ?_) | (refine zb6 aA rfl rfl ?_) | (refine zaw _ rfl rfl rfl ?_)) | (refine g_un ?_; first | (refine zce rfl ?_) | (refine zcf rfl aO ?_)) | (refine zbf ?_; first | (refine zac aA rfl ?_) | (refine zah _ aA rfl rfl aE rfl ?_) | (refine zaf _ aA rfl aZ aL ?_) | (refine zak _ aA rfl rfl aE aZ aL ?_)) | (refine zbm ?_; first | (refine zay _ aA rfl aL ?_) | (refine zax _ aA rfl rfl (by simp only [lx, Nat.reduceAdd]; first | done | rfl) ?_)) | (refine zbe ?_; first | (refine zau _ aA rfl rfl aO aA ?_) | (refine zav _ aA rfl rfl rfl rfl aO aO (by first | (rw [Nat.zero_add, Int.toNat_natCast]) | (rw [Nat.zero_add]) | rfl) ?_)) | (refine zbw ?_; first | (refine zbl rfl aD rfl ?_) | (refine zbi rfl aD ?_) | (refine zbj rfl aD ?_) | (refine zbk rfl aD rfl ?_)) | (refine zbs ?_; first | (refine zbx rfl rfl aD ?_) | (refine zb8 rfl rfl aD ?_) | (refine zb7 rfl rfl ?_) | (refine zbh rfl rfl (fun h => ?_) (fun h => ?_) <;> (have h' := h; (try simp only [sx] at h')))) | (refine zbd ?_; first | (refine za9 aA rfl ?_) | (refine zbc aA rfl rfl ?_) | (refine zba aA rfl ?_) | (refine zbb aA (evO_ok rfl) ?_)) | (refine zbz _ _ rfl rfl rfl rfl ?_) | (refine zas (hK _ _ (.inl rfl) ?_); clear hK K) | (refine zas (hK _ _ (.inr (by kernel_rfl)) ?_); clear hK K))
      | (refine za3 ?_; first | (refine zbp ?_) | (refine zaj (fun K hK => ?_)) | (refine zan ?_) | (refine za4 ?_) | (refine zbq ?_) | (refine za1 ?_) | (refine zbg ?_; first | (refine zam rfl aD ?_) | (refine zal rfl aD ?_) | (refine zaz rfl (fun h => ?_) (fun h => ?_) <;> (have h' := h; (try simp only [sx] at h')))))
      | (refine za2 ?_) | (refine zai ?_) | (refine zae ?_) | (refine zaq ?_) | (refine zar ?_) | (refine zao ?_) | (refine zap rfl ?_) | (refine zab ?_) | (refine zag ?_) | (refine zbr ?_))
        refine zb1 rfl (zbn rfl) ?_
        have : GoodT t := ⟨hd, hs, by rw [take_all aO] at h2; exact h2⟩
        simp [this]
    · repeat' (first
      | (refine za5 ?_; first | (refine za6 ?_; refine zat _ rfl ?_) | (refine zad ?_; refine zaa _ rfl ?_) | (refine zbv ?_; first | (refine zby rfl rfl aO ?_) | (refine zci rfl rfl aO ?_) | (refine zbu _ rfl rfl rfl ?_) | (refine zb6 aA rfl rfl ?_) | (refine zaw _ rfl rfl rfl ?_)) | (refine g_un ?_; first | (refine zce rfl ?_) | (refine zcf rfl aO ?_)) | (refine zbf ?_; first | (refine zac aA rfl ?_) | (refine zah _ aA rfl rfl aE rfl ?_) | (refine zaf _ aA rfl aZ aL ?_) | (refine zak _ aA rfl rfl aE aZ aL ?_)) | (refine zbm ?_; first | (refine zay _ aA rfl aL ?_) | (refine zax _ aA rfl rfl (by simp only [lx, Nat.reduceAdd]; first | done | rfl) ?_)) | (refine zbe ?_; first | (refine zau _ aA rfl rfl aO aA ?_) | (refine zav _ aA rfl rfl rfl rfl aO aO (by first | (rw [Nat.zero_add, Int.toNat_natCast]) | (rw [Nat.zero_add]) | rfl) ?_)) | (refine zbw ?_; first | (refine zbl rfl aD rfl ?_) | (refine zbi rfl aD ?_) | (refine zbj rfl aD ?_) | (refine zbk rfl aD rfl ?_)) | (refine zbs ?_; first | (refine zbx rfl rfl aD ?_) | (refine zb8 rfl rfl aD ?_) | (refine zb7 rfl rfl ?_) | (refine zbh rfl rfl (fun h => ?_) (fun h => ?_) <;> (have h' := h; (try simp only [sx] at h')))) | (refine zbd ?_; first | (refine za0 true (k_l1In _ _ _) rfl rfl rfl aS rfl aH ?_; simp only [cl]) | (refine za9 aA rfl ?_) | (refine zbc aA rfl rfl ?_) | (refine zba aA rfl ?_) | (refine zbb aA (evO_ok rfl) ?_)) | (refine zbz _ _ rfl rfl rfl rfl ?_) | (refine zas (hK _ _ (.inl rfl) ?_); clear hK K) | (refine zas (hK _ _ (.inr (by kernel_rfl)) ?_); clear hK K))
      | (refine za3 ?_; first | (refine zbp ?_) | (refine zaj (fun K hK => ?_)) | (refine zan ?_) | (refine za4 ?_) | (refine zbq ?_) | (refine za1 ?_) | (refine zbg ?_; first | (refine zam rfl aD ?_) | (refine zal rfl aD ?_) | (refine zaz rfl (fun h => ?_) (fun h => ?_) <;> (have h' := h; (try simp only [sx] at h')))))
      | (refine za2 ?_) | (refine zai ?_) | (refine zae ?_) | (refine zaq ?_) | (refine zar ?_) | (refine zao ?_) | (refine zap rfl ?_) | (refine zab ?_) | (refine zag ?_) | (refine zbr ?_))
      refine zb1 rfl (zbn rfl) ?_
      have : ¬ GoodT t := fun h => hs h.2.1
      simp [this]
  · have hng : ¬ GoodT t := fun h => hd h.1
    rw [show decide (GoodT t) = false from by simp [hng]]
    unfold Dims at hd
    repeat' (first
      | (refine za5 ?_; first | (refine za6 ?_; refine zat _ rfl ?_) | (refine zad ?_; refine zaa _ rfl ?_) | (refine zbv ?_; first | (refine zby rfl rfl aO ?_) | (refine zci rfl rfl aO ?_) | (refine zbu _ rfl rfl rfl ?_) | (refine zb6 aA rfl rfl ?_) | (refine zaw _ rfl rfl rfl ?_)) | (refine g_un ?_; first | (refine zce rfl ?_) | (refine zcf rfl aO ?_)) | (refine zbf ?_; first | (refine zac aA rfl ?_) | (refine zah _ aA rfl rfl aE rfl ?_) | (refine zaf _ aA rfl aZ aL ?_) | (refine zak _ aA rfl rfl aE aZ aL ?_)) | (refine zbm ?_; first | (refine zay _ aA rfl aL ?_) | (refine zax _ aA rfl rfl (by simp only [lx, Nat.reduceAdd]; first | done | rfl) ?_)) | (refine zbe ?_; first | (refine zau _ aA rfl rfl aO aA ?_) | (refine zav _ aA rfl rfl rfl rfl aO aO (by first | (rw [Nat.zero_add, Int.toNat_natCast]) | (rw [Nat.zero_add]) | rfl) ?_)) | (refine zbw ?_; first | (refine zbl rfl aD rfl ?_) | (refine zbi rfl aD ?_) | (refine zbj rfl aD ?_) | (refine zbk rfl aD rfl ?_)) | (refine zbs ?_; first | (refine zbx rfl rfl aD ?_) | (refine zb8 rfl rfl aD ?_) | (refine zb7 rfl rfl ?_) | (refine zbh rfl rfl (fun h => ?_) (fun h => ?_) <;> (have h' := h; (try simp only [sx] at h')))) | (refine zbd ?_; first | (refine za0 true (k_l1In _ _ _) rfl rfl rfl aS rfl aH ?_; simp only [cl]) | (refine za9 aA rfl ?_) | (refine zbc aA rfl rfl ?_) | (refine zba aA rfl ?_) | (refine zbb aA (evO_ok rfl) ?_)) | (refine zbz _ _ rfl rfl rfl rfl ?_) | (refine zas (hK _ _ (.inl rfl) ?_); clear hK K) | (refine zas (hK _ _ (.inr (by kernel_rfl)) ?_); clear hK K))
      | (refine za3 ?_; first | (refine zbp ?_) | (refine zaj (fun K hK => ?_)) | (refine zan ?_) | (refine za4 ?_) | (refine zbq ?_) | (refine za1 ?_) | (refine zbg ?_; first | (refine zam rfl aD ?_) | (refine zal rfl aD ?_) | (refine zaz rfl (fun h => ?_) (fun h => ?_) <;> (have h' := h; (try simp only [sx] at h')))))
      | (refine za2 ?_) | (refine zai ?_) | (refine zae ?_) | (refine zaq ?_) | (refine zar ?_) | (refine zao ?_) | (refine zap rfl ?_) | (refine zab ?_) | (refine zag ?_) | (refine zbr ?_))
    all_goals first
      | (exfalso; omega)
      | exact zb1 rfl (zbn rfl) rfl
theorem k_IsTerrain1 (b : Int) : Con Try.prog 124 [.int .i64 b] (.bool (decide (0 ≤ b) && decide (b ≤ 20))) := by
  intro al
  refine za8 hmix Try.func124 rfl (by kernel_rfl) (by kernel_rfl) (Nat.le_of_ble_eq_true rfl) (fun row h => by cases h) ?_
  repeat' (first
      | (refine za5 ?_; first | (refine za6 ?_; refine zat _ rfl ?_) | (refine zad ?_; refine zaa _ rfl ?_) | (refine zbd ?_; refine za0 true (k_in _ _ _) rfl rfl rfl aS rfl aH ?_; simp only [cl]) | (refine zas (hK _ _ (.inl rfl) ?_); clear hK K) | (refine zas (hK _ _ (.inr (by kernel_rfl)) ?_); clear hK K))
      | (refine za3 ?_; first | (refine zbp ?_) | (refine zaj (fun K hK => ?_)) | (refine zan ?_) | (refine za4 ?_) | (refine zbq ?_) | (refine za1 ?_))
      | (refine za2 ?_) | (refine zai ?_) | (refine zae ?_) | (refine zaq ?_) | (refine zar ?_) | (refine zao ?_) | (refine zap rfl ?_) | (refine zab ?_) | (refine zag ?_) | (refine zbr ?_))
  exact zb1 rfl (zbn rfl) rfl
theorem k_IsTerrain (t : Terrain) (hn : t.burn.length ≤ 1099511627776) : Con Try.prog 67 [.agg t.pv] (.bool (decide (GoodT t))) := by
  intro al
  refine za8 hmix Try.func67 rfl (by kernel_rfl) (by kernel_rfl) (Nat.le_of_ble_eq_true rfl) (fun row h => by cases h) ?_
  have hty_f26_0 := ty_f26_0
  have hty_c3 := ty_c3
  have hty_f26_1 := ty_f26_1
  have hty_f26_2 := ty_f26_2
  have hty_c24 := ty_c24
  have hty_u24 := ty_u24
  have hty_s24 := ty_s24
  have hl : (ints t.burn).length = t.burn.length := by simp
  have kA := k_allInt t.burn 124 [] (fun b => decide (0 ≤ b) && decide (b ≤ 20)) (fun b _ => k_IsTerrain1 b) hn
  have h5 : (t.burn.all fun b => decide (0 ≤ b) && decide (b ≤ 20)) = true ↔ ∀ b ∈ t.burn, 0 ≤ b ∧ b ≤ 20 := by simp
  by_cases hd : Dims t
  · have ha := dims_area hd
    have hd' := hd
    unfold Dims at hd'
    by_cases hs : (t.burn.length : Int) = t.width * t.height
    · repeat' (first
      | (refine za5 ?_; first | (refine za6 ?_; refine zat _ rfl ?_) | (refine zad ?_; refine zaa _ rfl ?_) | (refine zbv ?_; first | (refine zci rfl rfl aO ?_) | (refine zbu _ rfl rfl rfl ?_) | (refine zbt aA rfl rfl ?_) | (refine zaw _ rfl rfl rfl ?_)) | (refine zbf ?_; first | (refine zac aA rfl ?_) | (refine zah _ aA rfl rfl aE rfl ?_) | (refine zaf _ aA rfl aZ aL ?_) | (refine zak _ aA rfl rfl aE aZ aL ?_)) | (refine zbm ?_; first | (refine zay _ aA rfl aL ?_) | (refine zax _ aA rfl rfl (by simp only [lx, Nat.reduceAdd]; first | done | rfl) ?_)) | (refine zbw ?_; first | (refine zbl rfl aD rfl ?_) | (refine zbi rfl aD ?_) | (refine zbj rfl aD ?_) | (refine zbk rfl aD rfl ?_)) | (refine zbs ?_; first | (refine zbx rfl rfl aD ?_) | (refine zb8 rfl rfl aD ?_) | (refine zb7 rfl rfl ?_) | (refine zbh rfl rfl (fun h => ?_) (fun h => ?_) <;> (have h' := h; (try simp only [sx] at h')))) | (refine zbd ?_; first | (refine za0 true (k_in _ _ _) rfl rfl rfl aS rfl aH ?_; simp only [cl]) | (refine za0 true (kA) rfl rfl rfl aS rfl aH ?_; simp only [cl]) | (refine za9 aA rfl ?_) | (refine zbc aA rfl rfl ?_) | (refine zba aA rfl ?_) | (refine zbb aA (evO_ok rfl) ?_)) | (refine zbz _ _ rfl rfl rfl rfl ?_) | (refine zas (hK _ _ (.inl rfl) ?_); clear hK K) | (refine zas (hK _ _ (.inr (by kernel_rfl)) ?_); clear hK K))
      | (refine za3 ?_; first | (refine zbp ?_) | (refine zaj (fun K hK => ?_)) | (refine zan ?_) | (refine za4 ?_) | (refine zbq ?_) | (refine za1 ?_))
      | (refine za2 ?_) | (refine zai ?_) | (refine zae ?_) | (refine zaq ?_) | (refine zar ?_) | (refine zao ?_) | (refine zap rfl ?_) | (refine zab ?_) | (refine zag ?_) | (refine zbr ?_))
      refine zb1 rfl (zbn rfl) ?_
      rw [Bool.eq_iff_iff, h5]
      simp only [decide_eq_true_eq]
      exact ⟨fun h => ⟨hd, hs, h⟩, fun h => h.2.2⟩
    · repeat' (first
      | (refine za5 ?_; first | (refine za6 ?_; refine zat _ rfl ?_) | (refine zad ?_; refine zaa _ rfl ?_) | (refine zbv ?_; first | (refine zci rfl rfl aO ?_) | (refine zbu _ rfl rfl rfl ?_) | (refine zbt aA rfl rfl ?_) | (refine zaw _ rfl rfl rfl ?_)) | (refine zbf ?_; first | (refine zac aA rfl ?_) | (refine zah _ aA rfl rfl aE rfl ?_) | (refine zaf _ aA rfl aZ aL ?_) | (refine zak _ aA rfl rfl aE aZ aL ?_)) | (refine zbm ?_; first | (refine zay _ aA rfl aL ?_) | (refine zax _ aA rfl rfl (by simp only [lx, Nat.reduceAdd]; first | done | rfl) ?_)) | (refine zbw ?_; first | (refine zbl rfl aD rfl ?_) | (refine zbi rfl aD ?_) | (refine zbj rfl aD ?_) | (refine zbk rfl aD rfl ?_)) | (refine zbs ?_; first | (refine zbx rfl rfl aD ?_) | (refine zb8 rfl rfl aD ?_) | (refine zb7 rfl rfl ?_) | (refine zbh rfl rfl (fun h => ?_) (fun h => ?_) <;> (have h' := h; (try simp only [sx] at h')))) | (refine zbd ?_; first | (refine za0 true (k_in _ _ _) rfl rfl rfl aS rfl aH ?_; simp only [cl]) | (refine za0 true (kA) rfl rfl rfl aS rfl aH ?_; simp only [cl]) | (refine za9 aA rfl ?_) | (refine zbc aA rfl rfl ?_) | (refine zba aA rfl ?_) | (refine zbb aA (evO_ok rfl) ?_)) | (refine zbz _ _ rfl rfl rfl rfl ?_) | (refine zas (hK _ _ (.inl rfl) ?_); clear hK K) | (refine zas (hK _ _ (.inr (by kernel_rfl)) ?_); clear hK K))
      | (refine za3 ?_; first | (refine zbp ?_) | (refine zaj (fun K hK => ?_)) | (refine zan ?_) | (refine za4 ?_) | (refine zbq ?_) | (refine za1 ?_))
      | (refine za2 ?_) | (refine zai ?_) | (refine zae ?_) | (refine zaq ?_) | (refine zar ?_) | (refine zao ?_) | (refine zap rfl ?_) | (refine zab ?_) | (refine zag ?_) | (refine zbr ?_))
      refine zb1 rfl (zbn rfl) ?_
      have : ¬ GoodT t := fun h => hs h.2.1
      simp [this]
      try omega
  · have hng : ¬ GoodT t := fun h => hd h.1
    rw [show decide (GoodT t) = false from by simp [hng]]
    unfold Dims at hd
    repeat' (first
      | (refine za5 ?_; first | (refine za6 ?_; refine zat _ rfl ?_) | (refine zad ?_; refine zaa _ rfl ?_) | (refine zbv ?_; first | (refine zci rfl rfl aO ?_) | (refine zbu _ rfl rfl rfl ?_) | (refine zbt aA rfl rfl ?_) | (refine zaw _ rfl rfl rfl ?_)) | (refine zbf ?_; first | (refine zac aA rfl ?_) | (refine zah _ aA rfl rfl aE rfl ?_) | (refine zaf _ aA rfl aZ aL ?_) | (refine zak _ aA rfl rfl aE aZ aL ?_)) | (refine zbm ?_; first | (refine zay _ aA rfl aL ?_) | (refine zax _ aA rfl rfl (by simp only [lx, Nat.reduceAdd]; first | done | rfl) ?_)) | (refine zbw ?_; first | (refine zbl rfl aD rfl ?_) | (refine zbi rfl aD ?_) | (refine zbj rfl aD ?_) | (refine zbk rfl aD rfl ?_)) | (refine zbs ?_; first | (refine zbx rfl rfl aD ?_) | (refine zb8 rfl rfl aD ?_) | (refine zb7 rfl rfl ?_) | (refine zbh rfl rfl (fun h => ?_) (fun h => ?_) <;> (have h' := h; (try simp only [sx] at h')))) | (refine zbd ?_; first | (refine za0 true (k_in _ _ _) rfl rfl rfl aS rfl aH ?_; simp only [cl]) | (refine za0 true (kA) rfl rfl rfl aS rfl aH ?_; simp only [cl]) | (refine za9 aA rfl ?_) | (refine zbc aA rfl rfl ?_) | (refine zba aA rfl ?_) | (refine zbb aA (evO_ok rfl) ?_)) | (refine zbz _ _ rfl rfl rfl rfl ?_) | (refine zas (hK _ _ (.inl rfl) ?_); clear hK K) | (refine zas (hK _ _ (.inr (by kernel_rfl)) ?_); clear hK K))
      | (refine za3 ?_; first | (refine zbp ?_) | (refine zaj (fun K hK => ?_)) | (refine zan ?_) | (refine za4 ?_) | (refine zbq ?_) | (refine za1 ?_))
      | (refine za2 ?_) | (refine zai ?_) | (refine zae ?_) | (refine zaq ?_) | (refine zar ?_) | (refine zao ?_) | (refine zap rfl ?_) | (refine zab ?_) | (refine zag ?_) | (refine zbr ?_))
    all_goals first
      | (exfalso; omega)
      | exact zb1 rfl (zbn rfl) rfl
      | (refine zb1 rfl (zbn rfl) ?_; simp; omega)
theorem k_isCell (t : Terrain) (c : Int) (hn : t.burn.length ≤ 1099511627776) : Con Try.prog 70 [.agg t.pv, .int .i64 c] (.bool (decide (0 ≤ c ∧ c < t.burn.length))) := by
  intro al
  refine za8 hmix Try.func70 rfl (by kernel_rfl) (by kernel_rfl) (Nat.le_of_ble_eq_true rfl) (fun row h => by cases h) ?_
  have hty_f26_2 := ty_f26_2
  have hty_c24 := ty_c24
  have hty_u24 := ty_u24
  have hty_s24 := ty_s24
  have hl1 : (ints t.burn).length = t.burn.length := by simp
  repeat' (first
      | (refine za5 ?_; first | (refine za6 ?_; refine zat _ rfl ?_) | (refine zad ?_; refine zaa _ rfl ?_) | (refine zbv ?_; first | (refine zck rfl rfl aO ?_) | (refine zbu _ rfl rfl rfl ?_)) | (refine zbf ?_; first | (refine zac aA rfl ?_) | (refine zah _ aA rfl rfl aE rfl ?_) | (refine zaf _ aA rfl aZ aL ?_) | (refine zak _ aA rfl rfl aE aZ aL ?_)) | (refine zbm ?_; first | (refine zay _ aA rfl aL ?_) | (refine zax _ aA rfl rfl (by simp only [lx, Nat.reduceAdd]; first | done | rfl) ?_)) | (refine zbd ?_; first | (refine za0 true (k_in _ _ _) rfl rfl rfl aS rfl aH ?_; simp only [cl]) | (refine za9 aA rfl ?_) | (refine zbc aA rfl rfl ?_) | (refine zba aA rfl ?_) | (refine zbb aA (evO_ok rfl) ?_)) | (refine zbz _ _ rfl rfl rfl rfl ?_) | (refine zas (hK _ _ (.inl rfl) ?_); clear hK K) | (refine zas (hK _ _ (.inr (by kernel_rfl)) ?_); clear hK K))
      | (refine za3 ?_; first | (refine zbp ?_) | (refine zaj (fun K hK => ?_)) | (refine zan ?_) | (refine za4 ?_) | (refine zbq ?_) | (refine za1 ?_))
      | (refine za2 ?_) | (refine zai ?_) | (refine zae ?_) | (refine zaq ?_) | (refine zar ?_) | (refine zao ?_) | (refine zap rfl ?_) | (refine zab ?_) | (refine zag ?_) | (refine zbr ?_))
  refine zb1 rfl (zbn rfl) ?_
  rw [Bool.eq_iff_iff]
  simp only [sx]
  omega
theorem k_all1IntT (a : Int) (g : FuncId) (t : Terrain) (b : Bool) (hg : Con Try.prog g [.agg t.pv, .int .i64 a] (.bool b)) :
    Con Try.prog 147 [.int .i64 a, .ptr [.fn g [.agg t.pv] []]] (.bool (!b)) := by
  intro al
  refine za8 hmix Try.func147 rfl (by kernel_rfl) (by kernel_rfl) (Nat.le_of_ble_eq_true rfl) (fun row h => by cases h) ?_
  have hty_c76 := ty_c76
  repeat' (first
      | (refine za5 ?_; first | (refine za6 ?_; refine zat _ rfl ?_) | (refine zad ?_; refine zaa _ rfl ?_) | (refine g_un ?_; first | (refine zce rfl ?_) | (refine zcf rfl aO ?_)) | (refine zbf ?_; first | (refine zac aA rfl ?_) | (refine zah _ aA rfl rfl aE rfl ?_) | (refine zaf _ aA rfl aZ aL ?_) | (refine zak _ aA rfl rfl aE aZ aL ?_)) | (refine zbd ?_; refine za0 true (hg) rfl rfl rfl aS rfl aH ?_; simp only [cl]) | (refine zas (hK _ _ (.inl rfl) ?_); clear hK K) | (refine zas (hK _ _ (.inr (by kernel_rfl)) ?_); clear hK K))
      | (refine za3 ?_; first | (refine zbp ?_) | (refine zaj (fun K hK => ?_)) | (refine zan ?_) | (refine za4 ?_) | (refine zbq ?_) | (refine za1 ?_))
      | (refine za2 ?_) | (refine zai ?_) | (refine zae ?_) | (refine zaq ?_) | (refine zar ?_) | (refine zao ?_) | (refine zap rfl ?_) | (refine zab ?_) | (refine zag ?_) | (refine zbr ?_))
  exact zb1 rfl (zbn rfl) rfl
theorem k_allIntT (xs : List Int) (g : FuncId) (t : Terrain) (p : Int → Bool) (hg : ∀ a ∈ xs, Con Try.prog g [.agg t.pv, .int .i64 a] (.bool (p a))) (hn : xs.length ≤ 1099511627776) :
    Con Try.prog 123 [.list 1 (ints xs), .fn g [.agg t.pv] []] (.bool (xs.all p)) := by
  intro al
  refine za8 hmix Try.func123 rfl (by kernel_rfl) (by kernel_rfl) (Nat.le_of_ble_eq_true rfl) (fun row h => by cases h) ?_
  have hty_u24 := ty_u24
  have hty_s24 := ty_s24
  repeat' (first
      | (refine za5 ?_; first | (refine za6 ?_; refine zat _ rfl ?_) | (refine zad ?_; refine zaa _ rfl ?_) | (refine g_un ?_; first | (refine zce rfl ?_) | (refine zcf rfl aO ?_)) | (refine zbd ?_; refine za0 true (k_ContainsFuncInt xs 147 [[.fn g [.agg t.pv] []]] (fun a => !p a) (fun a ha => k_all1IntT a g t (p a) (hg a ha)) hn) rfl rfl rfl aS rfl aH ?_; simp only [cl]) | (refine zbz _ _ rfl rfl rfl rfl ?_) | (refine zch _ _ rfl rfl ?_) | (refine zas (hK _ _ (.inl rfl) ?_); clear hK K) | (refine zas (hK _ _ (.inr (by kernel_rfl)) ?_); clear hK K))
      | (refine za3 ?_; first | (refine zbp ?_) | (refine zaj (fun K hK => ?_)) | (refine zan ?_) | (refine za4 ?_) | (refine zbq ?_) | (refine za1 ?_))
      | (refine za2 ?_) | (refine zai ?_) | (refine zae ?_) | (refine zaq ?_) | (refine zar ?_) | (refine zao ?_) | (refine zap rfl ?_) | (refine zab ?_) | (refine zag ?_) | (refine zbr ?_))
  refine zb1 rfl (zbn rfl) ?_
  rw [List.all_eq_not_any_not]
theorem k_column (t : Terrain) (c : Int) (hw : 1 ≤ t.width) (hc : 0 ≤ c ∧ c ≤ 1000) : Con Try.prog 132 [.agg t.pv, .int .i64 c] (.int .i64 (c % t.width)) := by
  intro al
  refine za8 hmix Try.func132 rfl (by kernel_rfl) (by kernel_rfl) (Nat.le_of_ble_eq_true rfl) (fun row h => by cases h) ?_
  have hty_f26_0 := ty_f26_0
  have hty_c3 := ty_c3
  repeat' (first
      | (refine za5 ?_; first | (refine za6 ?_; refine zat _ rfl ?_) | (refine zad ?_; refine zaa _ rfl ?_) | (refine zbv ?_; first | (refine zcp rfl rfl aO ?_) | (refine zcm rfl rfl aO ?_) | (refine zbu _ rfl rfl rfl ?_)) | (refine zbf ?_; first | (refine zac aA rfl ?_) | (refine zah _ aA rfl rfl aE rfl ?_) | (refine zaf _ aA rfl aZ aL ?_) | (refine zak _ aA rfl rfl aE aZ aL ?_)) | (refine zbm ?_; first | (refine zay _ aA rfl aL ?_) | (refine zax _ aA rfl rfl (by simp only [lx, Nat.reduceAdd]; first | done | rfl) ?_)) | (refine zbz _ _ rfl rfl rfl rfl ?_) | (refine zas (hK _ _ (.inl rfl) ?_); clear hK K) | (refine zas (hK _ _ (.inr (by kernel_rfl)) ?_); clear hK K))
      | (refine za3 ?_; first | (refine zbp ?_) | (refine zaj (fun K hK => ?_)) | (refine zan ?_) | (refine za4 ?_) | (refine zbq ?_) | (refine za1 ?_))
      | (refine za2 ?_) | (refine zai ?_) | (refine zae ?_) | (refine zaq ?_) | (refine zar ?_) | (refine zao ?_) | (refine zap rfl ?_) | (refine zab ?_) | (refine zag ?_) | (refine zbr ?_))
  exact zcj rfl (zbn rfl) rfl
theorem k_row (t : Terrain) (c : Int) (hw : 1 ≤ t.width) (hc : 0 ≤ c ∧ c ≤ 1000) : Con Try.prog 133 [.agg t.pv, .int .i64 c] (.int .i64 (c / t.width)) := by
  intro al
  refine za8 hmix Try.func133 rfl (by kernel_rfl) (by kernel_rfl) (Nat.le_of_ble_eq_true rfl) (fun row h => by cases h) ?_
  have hty_f26_0 := ty_f26_0
  have hty_c3 := ty_c3
  repeat' (first
      | (refine za5 ?_; first | (refine za6 ?_; refine zat _ rfl ?_) | (refine zad ?_; refine zaa _ rfl ?_) | (refine zbv ?_; first | (refine x_quo rfl rfl aO ?_) | (refine zco rfl rfl aO ?_) | (refine zbu _ rfl rfl rfl ?_)) | (refine zbf ?_; first | (refine zac aA rfl ?_) | (refine zah _ aA rfl rfl aE rfl ?_) | (refine zaf _ aA rfl aZ aL ?_) | (refine zak _ aA rfl rfl aE aZ aL ?_)) | (refine zbm ?_; first | (refine zay _ aA rfl aL ?_) | (refine zax _ aA rfl rfl (by simp only [lx, Nat.reduceAdd]; first | done | rfl) ?_)) | (refine zbz _ _ rfl rfl rfl rfl ?_) | (refine zas (hK _ _ (.inl rfl) ?_); clear hK K) | (refine zas (hK _ _ (.inr (by kernel_rfl)) ?_); clear hK K))
      | (refine za3 ?_; first | (refine zbp ?_) | (refine zaj (fun K hK => ?_)) | (refine zan ?_) | (refine za4 ?_) | (refine zbq ?_) | (refine za1 ?_))
      | (refine za2 ?_) | (refine zai ?_) | (refine zae ?_) | (refine zaq ?_) | (refine zar ?_) | (refine zao ?_) | (refine zap rfl ?_) | (refine zab ?_) | (refine zag ?_) | (refine zbr ?_))
  exact zcj rfl (zbn rfl) rfl
theorem k_l2Set (t : Terrain) (xs : List Int) (hn : t.burn.length ≤ 1099511627776) (hm : xs.length ≤ 1099511627776) : Con Try.prog 92 [.agg t.pv, .list 1 (ints xs)] (.bool (decide (GoodT t ∧ (∀ y ∈ xs, 0 ≤ y ∧ y < t.burn.length) ∧ Rising xs))) := by
  intro al
  refine za8 hmix Try.func92 rfl (by kernel_rfl) (by kernel_rfl) (Nat.le_of_ble_eq_true rfl) (fun row h => by cases h) ?_
  have hty_a26 := ty_a26
  have hty_f26_2 := ty_f26_2
  have hty_c24 := ty_c24
  have hty_u24 := ty_u24
  have hty_s24 := ty_s24
  have hl1 : (ints t.burn).length = t.burn.length := by simp
  have e : (∀ y ∈ xs, 0 ≤ y ∧ y ≤ ((ints t.burn).length : Int) - 1) ↔ ∀ y ∈ xs, 0 ≤ y ∧ y < t.burn.length := by
    rw [hl1]
    constructor <;> intro h y hy <;> have := h y hy <;> omega
  repeat' (first
      | (refine za5 ?_; first | (refine za6 ?_; refine zat _ rfl ?_) | (refine zad ?_; refine zaa _ rfl ?_) | (refine zbv ?_; first | (refine zck rfl rfl aO ?_) | (refine zbu _ rfl rfl rfl ?_)) | (refine zbf ?_; first | (refine zac aA rfl ?_) | (refine zah _ aA rfl rfl aE rfl ?_) | (refine zaf _ aA rfl aZ aL ?_) | (refine zak _ aA rfl rfl aE aZ aL ?_)) | (refine zbm ?_; first | (refine zay _ aA rfl aL ?_) | (refine zax _ aA rfl rfl (by simp only [lx, Nat.reduceAdd]; first | done | rfl) ?_)) | (refine zbw ?_; first | (refine zbl rfl aD rfl ?_) | (refine zbi rfl aD ?_) | (refine zbj rfl aD ?_) | (refine zbk rfl aD rfl ?_)) | (refine zbs ?_; first | (refine zbx rfl rfl aD ?_) | (refine zb8 rfl rfl aD ?_) | (refine zb7 rfl rfl ?_) | (refine zbh rfl rfl (fun h => ?_) (fun h => ?_) <;> (have h' := h; (try simp only [sx] at h')))) | (refine zbd ?_; first | (refine za0 true (k_l2Good t hn) rfl rfl rfl aS rfl aH ?_; simp only [cl]) | (refine za0 true (k_l1Rising xs 0 (((ints t.burn).length : Int) - 1) hm) rfl rfl rfl aS rfl aH ?_; simp only [cl]) | (refine za9 aA rfl ?_) | (refine zbc aA rfl rfl ?_) | (refine zba aA rfl ?_) | (refine zbb aA (evO_ok rfl) ?_)) | (refine zbz _ _ rfl rfl rfl rfl ?_) | (refine zas (hK _ _ (.inl rfl) ?_); clear hK K) | (refine zas (hK _ _ (.inr (by kernel_rfl)) ?_); clear hK K))
      | (refine za3 ?_; first | (refine zbp ?_) | (refine zaj (fun K hK => ?_)) | (refine zan ?_) | (refine za4 ?_) | (refine zbq ?_) | (refine za1 ?_))
      | (refine za2 ?_) | (refine zai ?_) | (refine zae ?_) | (refine zaq ?_) | (refine zar ?_) | (refine zao ?_) | (refine zap rfl ?_) | (refine zab ?_) | (refine zag ?_) | (refine zbr ?_))
  all_goals
    (refine zb1 rfl (zbn rfl) ?_; rw [Bool.eq_iff_iff]; try simp only [sx] at *)
    first
      | (rw [e]; constructor
         · intro hq; exact ⟨by assumption, hq⟩
         · intro hq; exact hq.2)
      | (constructor <;> intro hq <;> first | contradiction | exact absurd hq.1 aA)
def cellsL (n : Nat) (p : Nat → Bool) : List Int := ((List.range n).filter p).map fun c : Nat => (c : Int)
theorem cellsL_len (n : Nat) (p : Nat → Bool) : (cellsL n p).length ≤ n := by
  simp only [cellsL, List.length_map]
  have := List.length_filter_le p (List.range n)
  simpa using this
theorem cellsL_mem {n : Nat} {p : Nat → Bool} {c : Int} : c ∈ cellsL n p ↔ ∃ i : Nat, i < n ∧ p i = true ∧ c = i := by
  simp only [cellsL, List.mem_map, List.mem_filter, List.mem_range]
  constructor
  · rintro ⟨i, ⟨h1, h2⟩, rfl⟩; exact ⟨i, h1, h2, rfl⟩
  · rintro ⟨i, h1, h2, rfl⟩; exact ⟨i, ⟨h1, h2⟩, rfl⟩
theorem cellsL_succ (n : Nat) (p : Nat → Bool) : cellsL (n + 1) p = cellsL n p ++ (if p n = true then [(n : Int)] else []) := by
  simp only [cellsL, List.range_succ, List.filter_append, List.map_append]
  by_cases h : p n = true <;> simp [h]
theorem cellsL_t {n : Nat} {p : Nat → Bool} (h : p n = true) : cellsL (n + 1) p = cellsL n p ++ [(n : Int)] := by rw [cellsL_succ, if_pos h]
theorem cellsL_f {n : Nat} {p : Nat → Bool} (h : p n = false) : cellsL (n + 1) p = cellsL n p := by rw [cellsL_succ, if_neg (by simp [h]), List.append_nil]
theorem cellsL_congr {n : Nat} {p q : Nat → Bool} (h : ∀ i, i < n → p i = q i) : cellsL n p = cellsL n q := by
  simp only [cellsL]
  congr 1
  exact List.filter_congr fun i hi => h i (List.mem_range.1 hi)
theorem k_cellsThat (t : Terrain) (g : FuncId) (ca : List (List PV)) (p : Nat → Bool) (hg : ∀ c : Nat, c < t.burn.length → Con Try.prog g (.int .i64 c :: ca.map PV.ptr) (.bool (p c))) (hn : t.burn.length ≤ 1099511627776) :
    Con Try.prog 112 [.agg t.pv, .fn g [] (ca.map PV.ptr)] (.olist 3 1 (ints (cellsL t.burn.length p))) := by
  intro al
  refine za8 hmix Try.func112 rfl (by kernel_rfl) (by kernel_rfl) (Nat.le_of_ble_eq_true rfl) (fun row h => by cases h) ?_
  have hty_s24 := ty_s24
  have hty_f26_2 := ty_f26_2
  have hty_c24 := ty_c24
  have hty_u24 := ty_u24
  have hl1 : (ints t.burn).length = t.burn.length := by simp
  repeat' (first
      | (refine za5 ?_; first | (refine za6 ?_; refine zat _ rfl ?_) | (refine zad ?_; refine zaa _ rfl ?_) | (refine zbv ?_; first | (refine zby rfl rfl aO ?_) | (refine zbu _ rfl rfl rfl ?_) | (refine zaw _ rfl rfl rfl ?_)) | (refine zbf ?_; first | (refine zac aA rfl ?_) | (refine zah _ aA rfl rfl aE rfl ?_) | (refine zaf _ aA rfl aZ aL ?_) | (refine zak _ aA rfl rfl aE aZ aL ?_)) | (refine zbm ?_; first | (refine zay _ aA rfl aL ?_) | (refine zax _ aA rfl rfl (by simp only [lx, Nat.reduceAdd]; first | done | rfl) ?_)) | (refine zbd ?_; first | (refine za9 aA rfl ?_) | (refine zbc aA rfl rfl ?_) | (refine zba aA rfl ?_) | (refine zbb aA (evO_ok rfl) ?_) | (refine zb4 _ _ aA rfl (lookM (by rfl)) rfl (lookM (by rfl)) rfl aN ⟨rfl, rfl, by decide, by decide⟩ (by first | rfl | omega | (simp; done) | (simp; omega) | fail) ⟨by first | (simp only [List.length_cons, List.length_nil]; omega) | omega | fail, by decide⟩ rfl (by first | (first | (simp only [lx, Nat.reduceAdd]; first | done | rfl) | fail) | rfl) aP ?_) | (refine zb3 _ _ aA rfl rfl (lookM (by rfl)) ⟨rfl, by decide⟩ aN (by first | exact Nat.succ_pos _ | omega | (simp; done)) ⟨by first | (simp only [List.length_cons, List.length_nil]; omega) | omega | fail, by decide⟩ rfl rfl aP ?_) | (refine zb5 _ aA rfl rfl (lookM (by rfl)) ⟨rfl, by decide⟩ aN ⟨by first | (simp only [List.length_cons, List.length_nil]; omega) | omega | fail, by decide⟩ rfl aP ?_) | (refine zb0 _ aA rfl rfl rfl ⟨rfl, rfl, rfl, by decide, by decide⟩ (by first | rfl | (simp; done) | fail) ⟨by omega, by decide⟩ rfl aL (by first | (rw [Nat.zero_add]) | rfl) ?_)) | (refine za7 aA rfl rfl rfl ?_) | (refine zbz _ _ rfl rfl rfl rfl ?_) | (refine zas (hK _ _ (.inl rfl) ?_); clear hK K) | (refine zas (hK _ _ (.inr (by kernel_rfl)) ?_); clear hK K))
      | (refine za3 ?_; first | (refine zbp ?_) | (refine zaj (fun K hK => ?_)) | (refine zan ?_) | (refine za4 ?_) | (refine zbq ?_) | (refine za1 ?_) | (refine zbg ?_; first | (refine zam rfl aD ?_) | (refine zal rfl aD ?_) | (refine zaz rfl (fun h => ?_) (fun h => ?_) <;> (have h' := h; (try simp only [sx] at h')))))
      | (refine za2 ?_) | (refine zai ?_) | (refine zae ?_) | (refine zaq ?_) | (refine zar ?_) | (refine zao ?_) | (refine zap rfl ?_) | (refine zab ?_) | (refine zag ?_) | (refine zbr ?_))
  refine zcd [1, 10] [] (fun q : Nat × Nat × List (List PV) => [(5, .osl (1001, 0) 0 q.2.1), (11, .int .i64 q.1)]) (fun q : Nat × Nat × List (List PV) => [((1001, 0), some ⟨3, 1, q.2.2, false⟩)]) (fun q : Nat × Nat × List (List PV) => q.1 ≤ t.burn.length ∧ q.2.2 = ints (cellsL q.1 p) ∧ q.2.2.length = q.2.1) (fun q : Nat × Nat × List (List PV) => t.burn.length - q.1) ((0, 0, [])) rfl rfl (fun _ => rfl) (fun _ => rfl) rfl aW ⟨by simp, by simp [cellsL], rfl⟩ (fun q hq => ?_)
  obtain ⟨i, m, es⟩ := q
  obtain ⟨hi1, hi2, hl⟩ := hq
  simp only at hi1 hi2 hl
  have hle : es.length ≤ i := by rw [hi2, ints_len]; exact cellsL_len i p
  dsimp only
  rcases Nat.lt_or_ge i t.burn.length with hlt | hge
  · have kg := hg i hlt
    repeat' (first
      | (refine za5 ?_; first | (refine za6 ?_; refine zat _ rfl ?_) | (refine zad ?_; refine zaa _ rfl ?_) | (refine zbv ?_; first | (refine zby rfl rfl aO ?_) | (refine zbu _ rfl rfl rfl ?_) | (refine zaw _ rfl rfl rfl ?_)) | (refine zbf ?_; first | (refine zac aA rfl ?_) | (refine zah _ aA rfl rfl aE rfl ?_) | (refine zaf _ aA rfl aZ aL ?_) | (refine zak _ aA rfl rfl aE aZ aL ?_)) | (refine zbm ?_; first | (refine zay _ aA rfl aL ?_) | (refine zax _ aA rfl rfl (by simp only [lx, Nat.reduceAdd]; first | done | rfl) ?_)) | (refine zbd ?_; first | (refine za0 true (kg) rfl rfl rfl aS rfl aH ?_; simp only [cl]) | (refine x_call [] _ (kg) rfl rfl aS rfl aH ?_; simp only [cl]) | (refine za9 aA rfl ?_) | (refine zbc aA rfl rfl ?_) | (refine zba aA rfl ?_) | (refine zbb aA (evO_ok rfl) ?_) | (refine zb4 _ _ aA rfl (lookM (by rfl)) rfl (lookM (by rfl)) rfl aN ⟨rfl, rfl, by decide, by decide⟩ (by first | rfl | omega | (simp; done) | (simp; omega) | fail) ⟨by first | (simp only [List.length_cons, List.length_nil]; omega) | omega | fail, by decide⟩ rfl (by first | (first | (simp only [lx, Nat.reduceAdd]; first | done | rfl) | fail) | rfl) aP ?_) | (refine zb3 _ _ aA rfl rfl (lookM (by rfl)) ⟨rfl, by decide⟩ aN (by first | exact Nat.succ_pos _ | omega | (simp; done)) ⟨by first | (simp only [List.length_cons, List.length_nil]; omega) | omega | fail, by decide⟩ rfl rfl aP ?_) | (refine zb5 _ aA rfl rfl (lookM (by rfl)) ⟨rfl, by decide⟩ aN ⟨by first | (simp only [List.length_cons, List.length_nil]; omega) | omega | fail, by decide⟩ rfl aP ?_) | (refine zb0 _ aA rfl rfl rfl ⟨rfl, rfl, rfl, by decide, by decide⟩ (by first | rfl | (simp; done) | fail) ⟨by omega, by decide⟩ rfl aL (by first | (rw [Nat.zero_add]) | rfl) ?_)) | (refine za7 aA rfl rfl rfl ?_) | (refine zbz _ _ rfl rfl rfl rfl ?_) | (refine zas (hK _ _ (.inl rfl) ?_); clear hK K) | (refine zas (hK _ _ (.inr (by kernel_rfl)) ?_); clear hK K))
      | (refine za3 ?_; first | (refine zbp ?_) | (refine zaj (fun K hK => ?_)) | (refine zan ?_) | (refine za4 ?_) | (refine zbq ?_) | (refine za1 ?_) | (refine zbg ?_; first | (refine zam rfl aD ?_) | (refine zal rfl aD ?_) | (refine zaz rfl (fun h => ?_) (fun h => ?_) <;> (have h' := h; (try simp only [sx] at h')))))
      | (refine za2 ?_) | (refine zai ?_) | (refine zae ?_) | (refine zaq ?_) | (refine zar ?_) | (refine zao ?_) | (refine zap rfl ?_) | (refine zab ?_) | (refine zag ?_) | (refine zbr ?_))
    · refine zcb (i + 1, m + 1, es ++ [[.int .i64 i]]) rfl aW ⟨by simp only; omega, ?_, by simp [hl]⟩ (by simp only; omega)
      simp only [cellsL_t (show p i = true by assumption), ints_snoc, hi2]
    · refine zcb (i + 1, m, es) rfl aW ⟨by simp only; omega, ?_, hl⟩ (by simp only; omega)
      simp only [cellsL_f (show p i = false by assumption), hi2]
  · have : i = t.burn.length := by omega
    subst this
    repeat' (first
      | (refine za5 ?_; first | (refine za6 ?_; refine zat _ rfl ?_) | (refine zad ?_; refine zaa _ rfl ?_) | (refine zbv ?_; first | (refine zby rfl rfl aO ?_) | (refine zbu _ rfl rfl rfl ?_) | (refine zaw _ rfl rfl rfl ?_)) | (refine zbf ?_; first | (refine zac aA rfl ?_) | (refine zah _ aA rfl rfl aE rfl ?_) | (refine zaf _ aA rfl aZ aL ?_) | (refine zak _ aA rfl rfl aE aZ aL ?_)) | (refine zbm ?_; first | (refine zay _ aA rfl aL ?_) | (refine zax _ aA rfl rfl (by simp only [lx, Nat.reduceAdd]; first | done | rfl) ?_)) | (refine zbd ?_; first | (refine za9 aA rfl ?_) | (refine zbc aA rfl rfl ?_) | (refine zba aA rfl ?_) | (refine zbb aA (evO_ok rfl) ?_) | (refine zb4 _ _ aA rfl (lookM (by rfl)) rfl (lookM (by rfl)) rfl aN ⟨rfl, rfl, by decide, by decide⟩ (by first | rfl | omega | (simp; done) | (simp; omega) | fail) ⟨by first | (simp only [List.length_cons, List.length_nil]; omega) | omega | fail, by decide⟩ rfl (by first | (first | (simp only [lx, Nat.reduceAdd]; first | done | rfl) | fail) | rfl) aP ?_) | (refine zb3 _ _ aA rfl rfl (lookM (by rfl)) ⟨rfl, by decide⟩ aN (by first | exact Nat.succ_pos _ | omega | (simp; done)) ⟨by first | (simp only [List.length_cons, List.length_nil]; omega) | omega | fail, by decide⟩ rfl rfl aP ?_) | (refine zb5 _ aA rfl rfl (lookM (by rfl)) ⟨rfl, by decide⟩ aN ⟨by first | (simp only [List.length_cons, List.length_nil]; omega) | omega | fail, by decide⟩ rfl aP ?_) | (refine zb0 _ aA rfl rfl rfl ⟨rfl, rfl, rfl, by decide, by decide⟩ (by first | rfl | (simp; done) | fail) ⟨by omega, by decide⟩ rfl aL (by first | (rw [Nat.zero_add]) | rfl) ?_)) | (refine za7 aA rfl rfl rfl ?_) | (refine zbz _ _ rfl rfl rfl rfl ?_) | (refine zas (hK _ _ (.inl rfl) ?_); clear hK K) | (refine zas (hK _ _ (.inr (by kernel_rfl)) ?_); clear hK K))
      | (refine za3 ?_; first | (refine zbp ?_) | (refine zaj (fun K hK => ?_)) | (refine zan ?_) | (refine za4 ?_) | (refine zbq ?_) | (refine za1 ?_) | (refine zbg ?_; first | (refine zam rfl aD ?_) | (refine zal rfl aD ?_) | (refine zaz rfl (fun h => ?_) (fun h => ?_) <;> (have h' := h; (try simp only [sx] at h')))))
      | (refine za2 ?_) | (refine zai ?_) | (refine zae ?_) | (refine zaq ?_) | (refine zar ?_) | (refine zao ?_) | (refine zap rfl ?_) | (refine zab ?_) | (refine zag ?_) | (refine zbr ?_))
    exact zcn rfl (zbn (by rfl)) (by rfl) (by decide) hl.symm (by rw [hi2]; exact ints_flat _) hi2
end Go.Vs
set_option linter.unusedVariables false
set_option linter.unusedSimpArgs false
set_option maxRecDepth 100000
set_option maxHeartbeats 4000000
namespace Go.Vs
open Go.Proofs
attribute [local irreducible] exec vwp thenQ blkQ loopQ RetPost
theorem k_l4Tick (x : Int) : Con Try.prog 76 [.int .i64 x] (.bool (decide (0 ≤ x) && decide (x ≤ 9999))) := by
  intro al
  refine za8 hmix Try.func76 rfl (by kernel_rfl) (by kernel_rfl) (Nat.le_of_ble_eq_true rfl) (fun row h => by cases h) ?_
  repeat' (first
      | (refine za5 ?_; first | (refine za6 ?_; refine zat _ rfl ?_) | (refine zad ?_; refine zaa _ rfl ?_) | (refine zbd ?_; refine za0 true (k_l1In _ _ _) rfl rfl rfl aS rfl aH ?_; simp only [cl]) | (refine zas (hK _ _ (.inl rfl) ?_); clear hK K) | (refine zas (hK _ _ (.inr (by kernel_rfl)) ?_); clear hK K))
      | (refine za3 ?_; first | (refine zbp ?_) | (refine zaj (fun K hK => ?_)) | (refine zan ?_) | (refine za4 ?_) | (refine zbq ?_) | (refine za1 ?_))
      | (refine za2 ?_) | (refine zai ?_) | (refine zae ?_) | (refine zaq ?_) | (refine zar ?_) | (refine zao ?_) | (refine zap rfl ?_) | (refine zab ?_) | (refine zag ?_) | (refine zbr ?_))
  exact zb1 rfl (zbn rfl) rfl
theorem k_isTick (x : Int) : Con Try.prog 64 [.int .i64 x] (.bool (decide (0 ≤ x) && decide (x ≤ 9999))) := by
  intro al
  refine za8 hmix Try.func64 rfl (by kernel_rfl) (by kernel_rfl) (Nat.le_of_ble_eq_true rfl) (fun row h => by cases h) ?_
  repeat' (first
      | (refine za5 ?_; first | (refine za6 ?_; refine zat _ rfl ?_) | (refine zad ?_; refine zaa _ rfl ?_) | (refine zbd ?_; refine za0 true (k_in _ _ _) rfl rfl rfl aS rfl aH ?_; simp only [cl]) | (refine zas (hK _ _ (.inl rfl) ?_); clear hK K) | (refine zas (hK _ _ (.inr (by kernel_rfl)) ?_); clear hK K))
      | (refine za3 ?_; first | (refine zbp ?_) | (refine zaj (fun K hK => ?_)) | (refine zan ?_) | (refine za4 ?_) | (refine zbq ?_) | (refine za1 ?_))
      | (refine za2 ?_) | (refine zai ?_) | (refine zae ?_) | (refine zaq ?_) | (refine zar ?_) | (refine zao ?_) | (refine zap rfl ?_) | (refine zab ?_) | (refine zag ?_) | (refine zbr ?_))
  exact zb1 rfl (zbn rfl) rfl
def IsCell (t : Terrain) (c : Int) : Prop := 0 ≤ c ∧ c < t.burn.length
instance (t : Terrain) (c : Int) : Decidable (IsCell t c) := by unfold IsCell; infer_instance
@[reducible] def colOf (t : Terrain) (c : Int) : Int := c % t.width
@[reducible] def rowOf (t : Terrain) (c : Int) : Int := c / t.width
theorem cell_place {t : Terrain} (hg : GoodT t) {c : Int} (hc : IsCell t c) : (0 ≤ colOf t c ∧ colOf t c < t.width) ∧ (0 ≤ rowOf t c ∧ rowOf t c < t.height) ∧ rowOf t c * t.width + colOf t c = c := by
  have hw := hg.1.1
  have ha := hg.2.1
  have h1 := hc.2
  refine ⟨⟨Int.emod_nonneg _ aO, Int.emod_lt_of_pos _ aO⟩, ⟨Int.ediv_nonneg hc.1 aO, Int.ediv_lt_of_lt_mul aO ?_⟩, ?_⟩
  · rw [Int.mul_comm]; omega
  · show c / t.width * t.width + c % t.width = c
    rw [Int.emod_def, Int.mul_comm]; omega
@[reducible] def absI (x : Int) : Int := max x (-x)
@[reducible] def apart (t : Terrain) (a b : Int) : Int := max (absI (colOf t a - colOf t b)) (absI (rowOf t a - rowOf t b))
theorem apart_comm (t : Terrain) (a b : Int) : apart t a b = apart t b a := by simp only [apart, absI]; omega
@[reducible] def burnAt (t : Terrain) (c : Int) : Int := t.burn.getD c.toNat 0
theorem burn_at {t : Terrain} {c : Int} (hc : IsCell t c) : t.burn[c.toNat]? = some (burnAt t c) := by
  obtain ⟨a, ha⟩ := get_ex (show c.toNat < t.burn.length by have := hc; unfold IsCell at this; omega)
  rw [ha, burnAt, getI ha]
theorem burn_bound {t : Terrain} (hg : GoodT t) {c : Int} (hc : IsCell t c) : 0 ≤ burnAt t c ∧ burnAt t c ≤ 20 := hg.2.2 _ (get_mem (burn_at hc))
@[reducible] def nearP (t : Terrain) (c : Int) (i : Nat) : Bool := decide (apart t c i = 1)
def nears (t : Terrain) (c : Int) : List Int := cellsL t.burn.length (nearP t c)
theorem nears_mem {t : Terrain} {c x : Int} : x ∈ nears t c ↔ IsCell t x ∧ apart t c x = 1 := by
  rw [nears, cellsL_mem]
  constructor
  · rintro ⟨i, h1, h2, rfl⟩
    exact ⟨⟨by omega, by omega⟩, by simpa [nearP] using h2⟩
  · rintro ⟨⟨h1, h2⟩, h3⟩
    refine ⟨x.toNat, by omega, ?_, by omega⟩
    have : ((x.toNat : Nat) : Int) = x := by omega
    simp only [nearP, this, h3, decide_true]
theorem nears_len (t : Terrain) (c : Int) : (nears t c).length ≤ t.burn.length := cellsL_len _ _
theorem k_l2Apart (t : Terrain) (a b : Int) (hg : GoodT t) (ha : IsCell t a) (hb : IsCell t b) : Con Try.prog 145 [.agg t.pv, .int .i64 a, .int .i64 b] (.int .i64 (apart t a b)) := by
  intro al
  refine za8 hmix Try.func145 rfl (by kernel_rfl) (by kernel_rfl) (Nat.le_of_ble_eq_true rfl) (fun row h => by cases h) ?_
  have hty_f26_0 := ty_f26_0
  have hty_c3 := ty_c3
  have hd := hg.1
  unfold Dims at hd
  have p1 := cell_place hg ha
  have p2 := cell_place hg hb
  dsimp only [colOf, rowOf] at p1 p2
  have hca := ha
  have hcb := hb
  unfold IsCell at hca hcb
  have hl := goodT_len hg
  repeat' (first
      | (refine za5 ?_; first | (refine za6 ?_; refine zat _ rfl ?_) | (refine zad ?_; refine zaa _ rfl ?_) | (refine zbv ?_; first | (refine zck rfl rfl aO ?_) | (refine x_quo rfl rfl aO ?_) | (refine zcp rfl rfl aO ?_) | (refine zco rfl rfl aO ?_) | (refine zcm rfl rfl aO ?_) | (refine zbu _ rfl rfl rfl ?_)) | (refine g_un ?_; first | (refine zce rfl ?_) | (refine zcf rfl aO ?_)) | (refine zbf ?_; first | (refine zac aA rfl ?_) | (refine zah _ aA rfl rfl aE rfl ?_) | (refine zaf _ aA rfl aZ aL ?_) | (refine zak _ aA rfl rfl aE aZ aL ?_)) | (refine zbm ?_; first | (refine zay _ aA rfl aL ?_) | (refine zax _ aA rfl rfl (by simp only [lx, Nat.reduceAdd]; first | done | rfl) ?_)) | (refine zbd ?_; refine za0 true (k_l1Most _ _) rfl rfl rfl aS rfl aH ?_; simp only [cl]) | (refine zbz _ _ rfl rfl rfl rfl ?_) | (refine zas (hK _ _ (.inl rfl) ?_); clear hK K) | (refine zas (hK _ _ (.inr (by kernel_rfl)) ?_); clear hK K))
      | (refine za3 ?_; first | (refine zbp ?_) | (refine zaj (fun K hK => ?_)) | (refine zan ?_) | (refine za4 ?_) | (refine zbq ?_) | (refine za1 ?_))
      | (refine za2 ?_) | (refine zai ?_) | (refine zae ?_) | (refine zaq ?_) | (refine zar ?_) | (refine zao ?_) | (refine zap rfl ?_) | (refine zab ?_) | (refine zag ?_) | (refine zbr ?_))
  exact zcj rfl (zbn rfl) rfl
theorem k_l2Near (t : Terrain) (c : Int) (hg : GoodT t) (hc : IsCell t c) : Con Try.prog 121 [.agg t.pv, .int .i64 c] (.olist 3 1 (ints (nears t c))) := by
  intro al
  refine za8 hmix Try.func121 rfl (by kernel_rfl) (by kernel_rfl) (Nat.le_of_ble_eq_true rfl) (fun row h => by cases h) ?_
  have hty_s24 := ty_s24
  have hty_f26_2 := ty_f26_2
  have hty_c24 := ty_c24
  have hty_u24 := ty_u24
  have hty_a26 := ty_a26
  have hl1 : (ints t.burn).length = t.burn.length := by simp
  have hlen := goodT_len hg
  repeat' (first
      | (refine za5 ?_; first | (refine za6 ?_; refine zat _ rfl ?_) | (refine zad ?_; refine zaa _ rfl ?_) | (refine zbv ?_; first | (refine zby rfl rfl aO ?_) | (refine zbu _ rfl rfl rfl ?_) | (refine zbt aA rfl rfl ?_) | (refine zaw _ rfl rfl rfl ?_)) | (refine zbf ?_; first | (refine zac aA rfl ?_) | (refine zah _ aA rfl rfl aE rfl ?_) | (refine zaf _ aA rfl aZ aL ?_) | (refine zak _ aA rfl rfl aE aZ aL ?_)) | (refine zbm ?_; first | (refine zay _ aA rfl aL ?_) | (refine zax _ aA rfl rfl (by simp only [lx, Nat.reduceAdd]; first | done | rfl) ?_)) | (refine zbd ?_; first | (refine za9 aA rfl ?_) | (refine zbc aA rfl rfl ?_) | (refine zba aA rfl ?_) | (refine zbb aA (evO_ok rfl) ?_) | (refine zb4 _ _ aA rfl (lookM (by rfl)) rfl (lookM (by rfl)) rfl aN ⟨rfl, rfl, by decide, by decide⟩ (by first | rfl | omega | (simp; done) | (simp; omega) | fail) ⟨by first | (simp only [List.length_cons, List.length_nil]; omega) | omega | fail, by decide⟩ rfl (by first | (first | (simp only [lx, Nat.reduceAdd]; first | done | rfl) | fail) | rfl) aP ?_) | (refine zb3 _ _ aA rfl rfl (lookM (by rfl)) ⟨rfl, by decide⟩ aN (by first | exact Nat.succ_pos _ | omega | (simp; done)) ⟨by first | (simp only [List.length_cons, List.length_nil]; omega) | omega | fail, by decide⟩ rfl rfl aP ?_) | (refine zb5 _ aA rfl rfl (lookM (by rfl)) ⟨rfl, by decide⟩ aN ⟨by first | (simp only [List.length_cons, List.length_nil]; omega) | omega | fail, by decide⟩ rfl aP ?_) | (refine zb0 _ aA rfl rfl rfl ⟨rfl, rfl, rfl, by decide, by decide⟩ (by first | rfl | (simp; done) | fail) ⟨by omega, by decide⟩ rfl aL (by first | (rw [Nat.zero_add]) | rfl) ?_)) | (refine za7 aA rfl rfl rfl ?_) | (refine zbz _ _ rfl rfl rfl rfl ?_) | (refine zas (hK _ _ (.inl rfl) ?_); clear hK K) | (refine zas (hK _ _ (.inr (by kernel_rfl)) ?_); clear hK K))
      | (refine za3 ?_; first | (refine zbp ?_) | (refine zaj (fun K hK => ?_)) | (refine zan ?_) | (refine za4 ?_) | (refine zbq ?_) | (refine za1 ?_) | (refine zbg ?_; first | (refine zam rfl aD ?_) | (refine zal rfl aD ?_) | (refine zaz rfl (fun h => ?_) (fun h => ?_) <;> (have h' := h; (try simp only [sx] at h')))))
      | (refine za2 ?_) | (refine zai ?_) | (refine zae ?_) | (refine zaq ?_) | (refine zar ?_) | (refine zao ?_) | (refine zap rfl ?_) | (refine zab ?_) | (refine zag ?_) | (refine zbr ?_))
  refine zcd [1, 2] [] (fun q : Nat × Nat × List (List PV) => [(5, .osl (1001, 0) 0 q.2.1), (6, .int .i64 q.1)]) (fun q : Nat × Nat × List (List PV) => [((1001, 0), some ⟨3, 1, q.2.2, false⟩)]) (fun q : Nat × Nat × List (List PV) => q.1 ≤ t.burn.length ∧ q.2.2 = ints (cellsL q.1 (nearP t c)) ∧ q.2.2.length = q.2.1) (fun q : Nat × Nat × List (List PV) => t.burn.length - q.1) ((0, 0, [])) rfl rfl (fun _ => rfl) (fun _ => rfl) rfl aW ⟨by simp, by simp [cellsL], rfl⟩ (fun q hq => ?_)
  obtain ⟨i, m, es⟩ := q
  obtain ⟨hi1, hi2, hl⟩ := hq
  simp only at hi1 hi2 hl
  have hle : es.length ≤ i := by rw [hi2, ints_len]; exact cellsL_len i _
  dsimp only
  rcases Nat.lt_or_ge i t.burn.length with hlt | hge
  · have kA := k_l2Apart t c i hg hc ⟨by omega, by omega⟩
    repeat' (first
      | (refine za5 ?_; first | (refine za6 ?_; refine zat _ rfl ?_) | (refine zad ?_; refine zaa _ rfl ?_) | (refine zbv ?_; first | (refine zby rfl rfl aO ?_) | (refine zbu _ rfl rfl rfl ?_) | (refine zbt aA rfl rfl ?_) | (refine zaw _ rfl rfl rfl ?_)) | (refine zbf ?_; first | (refine zac aA rfl ?_) | (refine zah _ aA rfl rfl aE rfl ?_) | (refine zaf _ aA rfl aZ aL ?_) | (refine zak _ aA rfl rfl aE aZ aL ?_)) | (refine zbm ?_; first | (refine zay _ aA rfl aL ?_) | (refine zax _ aA rfl rfl (by simp only [lx, Nat.reduceAdd]; first | done | rfl) ?_)) | (refine zbd ?_; first | (refine za0 true (kA) rfl rfl rfl aS rfl aH ?_; simp only [cl]) | (refine za9 aA rfl ?_) | (refine zbc aA rfl rfl ?_) | (refine zba aA rfl ?_) | (refine zbb aA (evO_ok rfl) ?_) | (refine zb4 _ _ aA rfl (lookM (by rfl)) rfl (lookM (by rfl)) rfl aN ⟨rfl, rfl, by decide, by decide⟩ (by first | rfl | omega | (simp; done) | (simp; omega) | fail) ⟨by first | (simp only [List.length_cons, List.length_nil]; omega) | omega | fail, by decide⟩ rfl (by first | (first | (simp only [lx, Nat.reduceAdd]; first | done | rfl) | fail) | rfl) aP ?_) | (refine zb3 _ _ aA rfl rfl (lookM (by rfl)) ⟨rfl, by decide⟩ aN (by first | exact Nat.succ_pos _ | omega | (simp; done)) ⟨by first | (simp only [List.length_cons, List.length_nil]; omega) | omega | fail, by decide⟩ rfl rfl aP ?_) | (refine zb5 _ aA rfl rfl (lookM (by rfl)) ⟨rfl, by decide⟩ aN ⟨by first | (simp only [List.length_cons, List.length_nil]; omega) | omega | fail, by decide⟩ rfl aP ?_) | (refine zb0 _ aA rfl rfl rfl ⟨rfl, rfl, rfl, by decide, by decide⟩ (by first | rfl | (simp; done) | fail) ⟨by omega, by decide⟩ rfl aL (by first | (rw [Nat.zero_add]) | rfl) ?_)) | (refine za7 aA rfl rfl rfl ?_) | (refine zbz _ _ rfl rfl rfl rfl ?_) | (refine zas (hK _ _ (.inl rfl) ?_); clear hK K) | (refine zas (hK _ _ (.inr (by kernel_rfl)) ?_); clear hK K))
      | (refine za3 ?_; first | (refine zbp ?_) | (refine zaj (fun K hK => ?_)) | (refine zan ?_) | (refine za4 ?_) | (refine zbq ?_) | (refine za1 ?_) | (refine zbg ?_; first | (refine zam rfl aD ?_) | (refine zal rfl aD ?_) | (refine zaz rfl (fun h => ?_) (fun h => ?_) <;> (have h' := h; (try simp only [sx] at h')))))
      | (refine za2 ?_) | (refine zai ?_) | (refine zae ?_) | (refine zaq ?_) | (refine zar ?_) | (refine zao ?_) | (refine zap rfl ?_) | (refine zab ?_) | (refine zag ?_) | (refine zbr ?_))
    · refine zcb (i + 1, m + 1, es ++ [[.int .i64 i]]) rfl aW ⟨by simp only; omega, ?_, by simp [hl]⟩ (by simp only; omega)
      simp only [cellsL_t (show nearP t c i = true by assumption), ints_snoc, hi2]
    · refine zcb (i + 1, m, es) rfl aW ⟨by simp only; omega, ?_, hl⟩ (by simp only; omega)
      simp only [cellsL_f (show nearP t c i = false by assumption), hi2]
  · have : i = t.burn.length := by omega
    subst this
    repeat' (first
      | (refine za5 ?_; first | (refine za6 ?_; refine zat _ rfl ?_) | (refine zad ?_; refine zaa _ rfl ?_) | (refine zbv ?_; first | (refine zby rfl rfl aO ?_) | (refine zbu _ rfl rfl rfl ?_) | (refine zbt aA rfl rfl ?_) | (refine zaw _ rfl rfl rfl ?_)) | (refine zbf ?_; first | (refine zac aA rfl ?_) | (refine zah _ aA rfl rfl aE rfl ?_) | (refine zaf _ aA rfl aZ aL ?_) | (refine zak _ aA rfl rfl aE aZ aL ?_)) | (refine zbm ?_; first | (refine zay _ aA rfl aL ?_) | (refine zax _ aA rfl rfl (by simp only [lx, Nat.reduceAdd]; first | done | rfl) ?_)) | (refine zbd ?_; first | (refine za9 aA rfl ?_) | (refine zbc aA rfl rfl ?_) | (refine zba aA rfl ?_) | (refine zbb aA (evO_ok rfl) ?_) | (refine zb4 _ _ aA rfl (lookM (by rfl)) rfl (lookM (by rfl)) rfl aN ⟨rfl, rfl, by decide, by decide⟩ (by first | rfl | omega | (simp; done) | (simp; omega) | fail) ⟨by first | (simp only [List.length_cons, List.length_nil]; omega) | omega | fail, by decide⟩ rfl (by first | (first | (simp only [lx, Nat.reduceAdd]; first | done | rfl) | fail) | rfl) aP ?_) | (refine zb3 _ _ aA rfl rfl (lookM (by rfl)) ⟨rfl, by decide⟩ aN (by first | exact Nat.succ_pos _ | omega | (simp; done)) ⟨by first | (simp only [List.length_cons, List.length_nil]; omega) | omega | fail, by decide⟩ rfl rfl aP ?_) | (refine zb5 _ aA rfl rfl (lookM (by rfl)) ⟨rfl, by decide⟩ aN ⟨by first | (simp only [List.length_cons, List.length_nil]; omega) | omega | fail, by decide⟩ rfl aP ?_) | (refine zb0 _ aA rfl rfl rfl ⟨rfl, rfl, rfl, by decide, by decide⟩ (by first | rfl | (simp; done) | fail) ⟨by omega, by decide⟩ rfl aL (by first | (rw [Nat.zero_add]) | rfl) ?_)) | (refine za7 aA rfl rfl rfl ?_) | (refine zbz _ _ rfl rfl rfl rfl ?_) | (refine zas (hK _ _ (.inl rfl) ?_); clear hK K) | (refine zas (hK _ _ (.inr (by kernel_rfl)) ?_); clear hK K))
      | (refine za3 ?_; first | (refine zbp ?_) | (refine zaj (fun K hK => ?_)) | (refine zan ?_) | (refine za4 ?_) | (refine zbq ?_) | (refine za1 ?_) | (refine zbg ?_; first | (refine zam rfl aD ?_) | (refine zal rfl aD ?_) | (refine zaz rfl (fun h => ?_) (fun h => ?_) <;> (have h' := h; (try simp only [sx] at h')))))
      | (refine za2 ?_) | (refine zai ?_) | (refine zae ?_) | (refine zaq ?_) | (refine zar ?_) | (refine zao ?_) | (refine zap rfl ?_) | (refine zab ?_) | (refine zag ?_) | (refine zbr ?_))
    exact zcn rfl (zbn (by rfl)) (by rfl) (by decide) hl.symm (by rw [hi2]; exact ints_flat _) hi2
theorem k_distance (a b : Int) (ha : -1000 ≤ a ∧ a ≤ 1000) (hb : -1000 ≤ b ∧ b ≤ 1000) : Con Try.prog 150 [.int .i64 a, .int .i64 b] (.int .i64 (absI (a - b))) := by
  intro al
  refine za8 hmix Try.func150 rfl (by kernel_rfl) (by kernel_rfl) (Nat.le_of_ble_eq_true rfl) (fun row h => by cases h) ?_
  repeat' (first
      | (refine za5 ?_; first | (refine za6 ?_; refine zat _ rfl ?_) | (refine zad ?_; refine zaa _ rfl ?_) | (refine zbv ?_; first | (refine zck rfl rfl aO ?_) | (refine zbu _ rfl rfl rfl ?_)) | (refine zbd ?_; refine x_max rfl rfl ?_) | (refine zas (hK _ _ (.inl rfl) ?_); clear hK K) | (refine zas (hK _ _ (.inr (by kernel_rfl)) ?_); clear hK K))
      | (refine za3 ?_; first | (refine zbp ?_) | (refine zaj (fun K hK => ?_)) | (refine zan ?_) | (refine za4 ?_) | (refine zbq ?_) | (refine za1 ?_))
      | (refine za2 ?_) | (refine zai ?_) | (refine zae ?_) | (refine zaq ?_) | (refine zar ?_) | (refine zao ?_) | (refine zap rfl ?_) | (refine zab ?_) | (refine zag ?_) | (refine zbr ?_))
  exact zcj rfl (zbn rfl) (by simp only [absI]; omega)
theorem k_apart (t : Terrain) (a b : Int) (hg : GoodT t) (ha : IsCell t a) (hb : IsCell t b) : Con Try.prog 128 [.agg t.pv, .int .i64 a, .int .i64 b] (.int .i64 (apart t a b)) := by
  intro al
  refine za8 hmix Try.func128 rfl (by kernel_rfl) (by kernel_rfl) (Nat.le_of_ble_eq_true rfl) (fun row h => by cases h) ?_
  have hty_a26 := ty_a26
  have hd := hg.1
  unfold Dims at hd
  have p1 := cell_place hg ha
  have p2 := cell_place hg hb
  dsimp only [colOf, rowOf] at p1 p2
  have hca := ha
  have hcb := hb
  unfold IsCell at hca hcb
  have hl := goodT_len hg
  repeat' (first
      | (refine za5 ?_; first | (refine za6 ?_; refine zat _ rfl ?_) | (refine zad ?_; refine zaa _ rfl ?_) | (refine zbf ?_; first | (refine zac aA rfl ?_) | (refine zah _ aA rfl rfl aE rfl ?_) | (refine zaf _ aA rfl aZ aL ?_) | (refine zak _ aA rfl rfl aE aZ aL ?_)) | (refine zbd ?_; first | (refine za0 true (k_column t a hd.1.1 aO) rfl rfl rfl aS rfl aH ?_; simp only [cl]) | (refine za0 true (k_column t b hd.1.1 aO) rfl rfl rfl aS rfl aH ?_; simp only [cl]) | (refine za0 true (k_row t a hd.1.1 aO) rfl rfl rfl aS rfl aH ?_; simp only [cl]) | (refine za0 true (k_row t b hd.1.1 aO) rfl rfl rfl aS rfl aH ?_; simp only [cl]) | (refine za0 true (k_distance (a % t.width) (b % t.width) aO aO) rfl rfl rfl aS rfl aH ?_; simp only [cl]) | (refine za0 true (k_distance (a / t.width) (b / t.width) aO aO) rfl rfl rfl aS rfl aH ?_; simp only [cl]) | (refine x_max rfl rfl ?_)) | (refine zbz _ _ rfl rfl rfl rfl ?_) | (refine zas (hK _ _ (.inl rfl) ?_); clear hK K) | (refine zas (hK _ _ (.inr (by kernel_rfl)) ?_); clear hK K))
      | (refine za3 ?_; first | (refine zbp ?_) | (refine zaj (fun K hK => ?_)) | (refine zan ?_) | (refine za4 ?_) | (refine zbq ?_) | (refine za1 ?_))
      | (refine za2 ?_) | (refine zai ?_) | (refine zae ?_) | (refine zaq ?_) | (refine zar ?_) | (refine zao ?_) | (refine zap rfl ?_) | (refine zab ?_) | (refine zag ?_) | (refine zbr ?_))
  exact zcj rfl (zbn rfl) rfl
theorem k_neighbors1 (t : Terrain) (c x : Int) (hg : GoodT t) (hc : IsCell t c) (hx : IsCell t x) : Con Try.prog 129 [.int .i64 x, .ptr t.pv, .ptr [.int .i64 c]] (.bool (decide (apart t c x = 1))) := by
  intro al
  refine za8 hmix Try.func129 rfl (by kernel_rfl) (by kernel_rfl) (Nat.le_of_ble_eq_true rfl) (fun row h => by cases h) ?_
  have hty_a26 := ty_a26
  have hty_c3 := ty_c3
  have k := k_apart t x c hg hx hc
  rw [apart_comm] at k
  repeat' (first
      | (refine za5 ?_; first | (refine za6 ?_; refine zat _ rfl ?_) | (refine zad ?_; refine zaa _ rfl ?_) | (refine zbv ?_; first | (refine zbu _ rfl rfl rfl ?_) | (refine zbt aA rfl rfl ?_) | (refine zaw _ rfl rfl rfl ?_)) | (refine zbf ?_; first | (refine zac aA rfl ?_) | (refine zah _ aA rfl rfl aE rfl ?_) | (refine zaf _ aA rfl aZ aL ?_) | (refine zak _ aA rfl rfl aE aZ aL ?_)) | (refine zbd ?_; refine za0 true (k) rfl rfl rfl aS rfl aH ?_; simp only [cl]) | (refine zas (hK _ _ (.inl rfl) ?_); clear hK K) | (refine zas (hK _ _ (.inr (by kernel_rfl)) ?_); clear hK K))
      | (refine za3 ?_; first | (refine zbp ?_) | (refine zaj (fun K hK => ?_)) | (refine zan ?_) | (refine za4 ?_) | (refine zbq ?_) | (refine za1 ?_))
      | (refine za2 ?_) | (refine zai ?_) | (refine zae ?_) | (refine zaq ?_) | (refine zar ?_) | (refine zao ?_) | (refine zap rfl ?_) | (refine zab ?_) | (refine zag ?_) | (refine zbr ?_))
  exact zb1 rfl (zbn rfl) rfl
theorem k_neighbors (t : Terrain) (c : Int) (hg : GoodT t) (hc : IsCell t c) : Con Try.prog 71 [.agg t.pv, .int .i64 c] (.olist 3 1 (ints (nears t c))) := by
  intro al
  refine za8 hmix Try.func71 rfl (by kernel_rfl) (by kernel_rfl) (Nat.le_of_ble_eq_true rfl) (fun row h => by cases h) ?_
  have hty_a26 := ty_a26
  have hlen := goodT_len hg
  repeat' (first
      | (refine za5 ?_; first | (refine zad ?_; refine zaa _ rfl ?_) | (refine zbf ?_; first | (refine zac aA rfl ?_) | (refine zah _ aA rfl rfl aE rfl ?_) | (refine zaf _ aA rfl aZ aL ?_) | (refine zak _ aA rfl rfl aE aZ aL ?_)) | (refine zbd ?_; refine za0 true (k_cellsThat t 129 [t.pv, [.int .i64 c]] (nearP t c) (fun x h => k_neighbors1 t c x hg hc ⟨by omega, by omega⟩) aO) rfl rfl rfl aS rfl aH ?_; simp only [cl]) | (refine zbz _ _ rfl rfl rfl rfl ?_) | (refine zch _ _ rfl rfl ?_) | (refine zas (hK _ _ (.inl rfl) ?_); clear hK K) | (refine zas (hK _ _ (.inr (by kernel_rfl)) ?_); clear hK K))
      | (refine za3 ?_; first | (refine zbp ?_) | (refine zaj (fun K hK => ?_)) | (refine zan ?_) | (refine za4 ?_) | (refine zbq ?_) | (refine za1 ?_))
      | (refine za2 ?_) | (refine zai ?_) | (refine zae ?_) | (refine zaq ?_) | (refine zar ?_) | (refine zao ?_) | (refine zap rfl ?_) | (refine zab ?_) | (refine zag ?_) | (refine zbr ?_))
  exact zcn rfl (zbn (by rfl)) (by rfl) (by decide) rfl (ints_flat _) rfl
theorem k_burns (t : Terrain) (c : Int) (hg : GoodT t) (hc : IsCell t c) : Con Try.prog 83 [.agg t.pv, .int .i64 c] (.bool (decide (0 < burnAt t c))) := by
  intro al
  refine za8 hmix Try.func83 rfl (by kernel_rfl) (by kernel_rfl) (Nat.le_of_ble_eq_true rfl) (fun row h => by cases h) ?_
  have hty_f26_2 := ty_f26_2
  have hty_c24 := ty_c24
  have hty_s24 := ty_s24
  have hty_c3 := ty_c3
  have hl1 : (ints t.burn).length = t.burn.length := by simp
  have hx := ints_at (burn_at hc)
  have hcc := hc
  unfold IsCell at hcc
  repeat' (first
      | (refine za5 ?_; first | (refine za6 ?_; refine zat _ rfl ?_) | (refine zad ?_; refine zaa _ rfl ?_) | (refine zbv ?_; refine zbu _ rfl rfl rfl ?_) | (refine zbf ?_; first | (refine zac aA rfl ?_) | (refine zah _ aA rfl rfl aE rfl ?_) | (refine zaf _ aA rfl aZ aL ?_) | (refine zak _ aA rfl rfl aE aZ aL ?_)) | (refine zbm ?_; first | (refine zay _ aA rfl aL ?_) | (refine zax _ aA rfl rfl (by simp only [lx, Nat.reduceAdd]; first | done | rfl) ?_)) | (refine zbe ?_; first | (refine zau _ aA rfl rfl aO aA ?_) | (refine zav _ aA rfl rfl rfl rfl aO aO (by first | (rw [Nat.zero_add, Int.toNat_natCast]) | (rw [Nat.zero_add]) | rfl) ?_)) | (refine zbz _ _ rfl rfl rfl rfl ?_) | (refine zas (hK _ _ (.inl rfl) ?_); clear hK K) | (refine zas (hK _ _ (.inr (by kernel_rfl)) ?_); clear hK K))
      | (refine za3 ?_; first | (refine zbp ?_) | (refine zaj (fun K hK => ?_)) | (refine zan ?_) | (refine za4 ?_) | (refine zbq ?_) | (refine za1 ?_))
      | (refine za2 ?_) | (refine zai ?_) | (refine zae ?_) | (refine zaq ?_) | (refine zar ?_) | (refine zao ?_) | (refine zap rfl ?_) | (refine zab ?_) | (refine zag ?_) | (refine zbr ?_))
  exact zb1 rfl (zbn rfl) rfl
end Go.Vs
set_option linter.unusedVariables false
set_option linter.unusedSimpArgs false
set_option maxRecDepth 100000
set_option maxHeartbeats 4000000
namespace Go.Vs
open Go.Proofs
attribute [local irreducible] exec vwp thenQ blkQ loopQ RetPost
def p0 : Phase := ⟨0, 0⟩
def OkP (ps : List Phase) (j : Nat) : Prop := (0 ≤ (ps.getD j p0).frm ∧ (ps.getD j p0).frm ≤ 9999) ∧ (1 ≤ (ps.getD j p0).speed ∧ (ps.getD j p0).speed ≤ 9) ∧ (j = 0 → (ps.getD j p0).frm = 0) ∧ (0 < j → (ps.getD (j - 1) p0).frm < (ps.getD j p0).frm)
instance (ps : List Phase) (j : Nat) : Decidable (OkP ps j) := by unfold OkP; infer_instance
def GoodP (ps : List Phase) : Prop := (∀ j, j < ps.length → OkP ps j) ∧ 1 ≤ ps.length ∧ ps.length ≤ 6
instance (ps : List Phase) : Decidable (GoodP ps) := by unfold GoodP; infer_instance
theorem getP {ps : List Phase} {i : Nat} {a : Phase} (h : ps[i]? = some a) : ps.getD i p0 = a := by simp [List.getD_eq_getElem?_getD, h]
theorem not_goodP {ps : List Phase} {i : Nat} (hi : i < ps.length) (h : ¬ OkP ps i) : ¬ GoodP ps := fun hg => h (hg.1 i hi)
theorem okP_step {ps : List Phase} {i : Nat} (h : ∀ j, j < i → OkP ps j) (hi : OkP ps i) : ∀ j, j < i + 1 → OkP ps j := fun j hj => by
  rcases Nat.lt_or_ge j i with h1 | h1
  · exact h j h1
  · have : j = i := by omega
    rw [this]; exact hi
theorem k_l4Phases (ps : List Phase) (hn : ps.length ≤ 1099511627776) : Con Try.prog 66 [.list 2 (ps.map Phase.pv)] (.bool (decide (GoodP ps))) := by
  intro al
  refine za8 hmix Try.func66 rfl (by kernel_rfl) (by kernel_rfl) (Nat.le_of_ble_eq_true rfl) (fun row h => by cases h) ?_
  have hty_u27 := ty_u27
  have hty_s27 := ty_s27
  have hty_f75_0 := ty_f75_0
  have hty_c3 := ty_c3
  have hty_f75_1 := ty_f75_1
  have hl1 : (ps.map Phase.pv).length = ps.length := by simp
  by_cases hlen : 1 ≤ ps.length ∧ ps.length ≤ 6
  · obtain ⟨f, hgf⟩ := get_ex (show 0 < ps.length by omega)
    have hf := Phase.at hgf
    have hdf := getP hgf
    by_cases hf0 : f.frm = 0
    · repeat' (first
      | (refine za5 ?_; first | (refine za6 ?_; refine zat _ rfl ?_) | (refine zad ?_; refine zaa _ rfl ?_) | (refine zbv ?_; first | (refine zby rfl rfl aO ?_) | (refine zck rfl rfl aO ?_) | (refine zbu _ rfl rfl rfl ?_) | (refine zb6 aA rfl rfl ?_) | (refine zaw _ rfl rfl rfl ?_)) | (refine g_un ?_; first | (refine zce rfl ?_) | (refine zcf rfl aO ?_)) | (refine zbf ?_; first | (refine zac aA rfl ?_) | (refine zah _ aA rfl rfl aE rfl ?_) | (refine zaf _ aA rfl aZ aL ?_) | (refine zak _ aA rfl rfl aE aZ aL ?_)) | (refine zbm ?_; first | (refine zay _ aA rfl aL ?_) | (refine zax _ aA rfl rfl (by simp only [lx, Nat.reduceAdd]; first | done | rfl) ?_)) | (refine zbe ?_; first | (refine zau _ aA rfl rfl aO aA ?_) | (refine zav _ aA rfl rfl rfl rfl aO aO (by first | (rw [Nat.zero_add, Int.toNat_natCast]) | (rw [Nat.zero_add]) | rfl) ?_)) | (refine zbw ?_; first | (refine zbl rfl aD rfl ?_) | (refine zbi rfl aD ?_) | (refine zbj rfl aD ?_) | (refine zbk rfl aD rfl ?_)) | (refine zbs ?_; first | (refine zbx rfl rfl aD ?_) | (refine zb8 rfl rfl aD ?_) | (refine zb7 rfl rfl ?_) | (refine zbh rfl rfl (fun h => ?_) (fun h => ?_) <;> (have h' := h; (try simp only [sx] at h')))) | (refine zbd ?_; first | (refine za0 true (k_l1In _ _ _) rfl rfl rfl aS rfl aH ?_; simp only [cl]) | (refine za9 aA rfl ?_) | (refine zbc aA rfl rfl ?_) | (refine zba aA rfl ?_) | (refine zbb aA (evO_ok rfl) ?_)) | (refine zas (hK _ _ (.inl rfl) ?_); clear hK K) | (refine zas (hK _ _ (.inr (by kernel_rfl)) ?_); clear hK K))
      | (refine za3 ?_; first | (refine zbp ?_) | (refine zaj (fun K hK => ?_)) | (refine zan ?_) | (refine za4 ?_) | (refine zbq ?_) | (refine za1 ?_) | (refine zbg ?_; first | (refine zam rfl aD ?_) | (refine zal rfl aD ?_) | (refine zaz rfl (fun h => ?_) (fun h => ?_) <;> (have h' := h; (try simp only [sx] at h')))))
      | (refine za2 ?_) | (refine zai ?_) | (refine zae ?_) | (refine zaq ?_) | (refine zar ?_) | (refine zao ?_) | (refine zap rfl ?_) | (refine zab ?_) | (refine zag ?_) | (refine zbr ?_))
      all_goals try (exfalso; omega)
      refine zcd [0] [] (fun i : Nat => [(3, .int .i64 i)]) (fun i : Nat => []) (fun i : Nat => i ≤ ps.length ∧ ∀ j, j < i → OkP ps j) (fun i : Nat => ps.length - i) (0) rfl rfl (fun _ => rfl) (fun _ => rfl) rfl aW ⟨by omega, fun j hj => by omega⟩ (fun i hi => ?_)
      obtain ⟨hi1, hi2⟩ := hi
      rcases Nat.lt_or_ge i ps.length with hlt | hge
      · obtain ⟨a, hga⟩ := get_ex hlt
        have hx := Phase.at hga
        have hd := getP hga
        by_cases hi0 : 0 < i
        · obtain ⟨b, hgb⟩ := get_ex (show i - 1 < ps.length by omega)
          have hy := Phase.at hgb
          have hd' := getP hgb
          have e1 : ((i : Int) - 1).toNat = i - 1 := by omega
          rw [← e1] at hy
          repeat' (first
      | (refine za5 ?_; first | (refine za6 ?_; refine zat _ rfl ?_) | (refine zad ?_; refine zaa _ rfl ?_) | (refine zbv ?_; first | (refine zby rfl rfl aO ?_) | (refine zck rfl rfl aO ?_) | (refine zbu _ rfl rfl rfl ?_) | (refine zb6 aA rfl rfl ?_) | (refine zaw _ rfl rfl rfl ?_)) | (refine g_un ?_; first | (refine zce rfl ?_) | (refine zcf rfl aO ?_)) | (refine zbf ?_; first | (refine zac aA rfl ?_) | (refine zah _ aA rfl rfl aE rfl ?_) | (refine zaf _ aA rfl aZ aL ?_) | (refine zak _ aA rfl rfl aE aZ aL ?_)) | (refine zbm ?_; first | (refine zay _ aA rfl aL ?_) | (refine zax _ aA rfl rfl (by simp only [lx, Nat.reduceAdd]; first | done | rfl) ?_)) | (refine zbe ?_; first | (refine zau _ aA rfl rfl aO aA ?_) | (refine zav _ aA rfl rfl rfl rfl aO aO (by first | (rw [Nat.zero_add, Int.toNat_natCast]) | (rw [Nat.zero_add]) | rfl) ?_)) | (refine zbw ?_; first | (refine zbl rfl aD rfl ?_) | (refine zbi rfl aD ?_) | (refine zbj rfl aD ?_) | (refine zbk rfl aD rfl ?_)) | (refine zbs ?_; first | (refine zbx rfl rfl aD ?_) | (refine zb8 rfl rfl aD ?_) | (refine zb7 rfl rfl ?_) | (refine zbh rfl rfl (fun h => ?_) (fun h => ?_) <;> (have h' := h; (try simp only [sx] at h')))) | (refine zbd ?_; first | (refine za0 true (k_l4Tick _) rfl rfl rfl aS rfl aH ?_; simp only [cl]) | (refine za0 true (k_l1In _ _ _) rfl rfl rfl aS rfl aH ?_; simp only [cl]) | (refine za9 aA rfl ?_) | (refine zbc aA rfl rfl ?_) | (refine zba aA rfl ?_) | (refine zbb aA (evO_ok rfl) ?_)) | (refine zas (hK _ _ (.inl rfl) ?_); clear hK K) | (refine zas (hK _ _ (.inr (by kernel_rfl)) ?_); clear hK K))
      | (refine za3 ?_; first | (refine zbp ?_) | (refine zaj (fun K hK => ?_)) | (refine zan ?_) | (refine za4 ?_) | (refine zbq ?_) | (refine za1 ?_) | (refine zbg ?_; first | (refine zam rfl aD ?_) | (refine zal rfl aD ?_) | (refine zaz rfl (fun h => ?_) (fun h => ?_) <;> (have h' := h; (try simp only [sx] at h')))))
      | (refine za2 ?_) | (refine zai ?_) | (refine zae ?_) | (refine zaq ?_) | (refine zar ?_) | (refine zao ?_) | (refine zap rfl ?_) | (refine zab ?_) | (refine zag ?_) | (refine zbr ?_))
          all_goals first
            | (refine zcb (i + 1) rfl aW ⟨by omega, okP_step hi2 ?_⟩ aO; unfold OkP; rw [hd, hd']; exact ⟨by omega, by omega, by omega, by omega⟩)
            | (refine zb1 rfl (zbn rfl) ?_
               have : ¬ GoodP ps := not_goodP hlt (fun hk => by
                 unfold OkP at hk
                 rw [hd, hd'] at hk
                 omega)
               simp [this])
        · have hi00 : i = 0 := by omega
          have : a = f := by subst hi00; rw [hga] at hgf; exact Option.some.inj hgf
          subst this
          repeat' (first
      | (refine za5 ?_; first | (refine za6 ?_; refine zat _ rfl ?_) | (refine zad ?_; refine zaa _ rfl ?_) | (refine zbv ?_; first | (refine zby rfl rfl aO ?_) | (refine zck rfl rfl aO ?_) | (refine zbu _ rfl rfl rfl ?_) | (refine zb6 aA rfl rfl ?_) | (refine zaw _ rfl rfl rfl ?_)) | (refine g_un ?_; first | (refine zce rfl ?_) | (refine zcf rfl aO ?_)) | (refine zbf ?_; first | (refine zac aA rfl ?_) | (refine zah _ aA rfl rfl aE rfl ?_) | (refine zaf _ aA rfl aZ aL ?_) | (refine zak _ aA rfl rfl aE aZ aL ?_)) | (refine zbm ?_; first | (refine zay _ aA rfl aL ?_) | (refine zax _ aA rfl rfl (by simp only [lx, Nat.reduceAdd]; first | done | rfl) ?_)) | (refine zbe ?_; first | (refine zau _ aA rfl rfl aO aA ?_) | (refine zav _ aA rfl rfl rfl rfl aO aO (by first | (rw [Nat.zero_add, Int.toNat_natCast]) | (rw [Nat.zero_add]) | rfl) ?_)) | (refine zbw ?_; first | (refine zbl rfl aD rfl ?_) | (refine zbi rfl aD ?_) | (refine zbj rfl aD ?_) | (refine zbk rfl aD rfl ?_)) | (refine zbs ?_; first | (refine zbx rfl rfl aD ?_) | (refine zb8 rfl rfl aD ?_) | (refine zb7 rfl rfl ?_) | (refine zbh rfl rfl (fun h => ?_) (fun h => ?_) <;> (have h' := h; (try simp only [sx] at h')))) | (refine zbd ?_; first | (refine za0 true (k_l4Tick _) rfl rfl rfl aS rfl aH ?_; simp only [cl]) | (refine za0 true (k_l1In _ _ _) rfl rfl rfl aS rfl aH ?_; simp only [cl]) | (refine za9 aA rfl ?_) | (refine zbc aA rfl rfl ?_) | (refine zba aA rfl ?_) | (refine zbb aA (evO_ok rfl) ?_)) | (refine zas (hK _ _ (.inl rfl) ?_); clear hK K) | (refine zas (hK _ _ (.inr (by kernel_rfl)) ?_); clear hK K))
      | (refine za3 ?_; first | (refine zbp ?_) | (refine zaj (fun K hK => ?_)) | (refine zan ?_) | (refine za4 ?_) | (refine zbq ?_) | (refine za1 ?_) | (refine zbg ?_; first | (refine zam rfl aD ?_) | (refine zal rfl aD ?_) | (refine zaz rfl (fun h => ?_) (fun h => ?_) <;> (have h' := h; (try simp only [sx] at h')))))
      | (refine za2 ?_) | (refine zai ?_) | (refine zae ?_) | (refine zaq ?_) | (refine zar ?_) | (refine zao ?_) | (refine zap rfl ?_) | (refine zab ?_) | (refine zag ?_) | (refine zbr ?_))
          all_goals first
            | (refine zcb (i + 1) rfl aW ⟨by omega, okP_step hi2 ?_⟩ aO; unfold OkP; rw [hd]; exact ⟨by omega, by omega, by omega, fun h0 => absurd h0 hi0⟩)
            | (refine zb1 rfl (zbn rfl) ?_
               have : ¬ GoodP ps := not_goodP hlt (fun hk => by
                 unfold OkP at hk
                 rw [hd] at hk
                 omega)
               simp [this])
      · repeat' (first
      | (refine za5 ?_; first | (refine za6 ?_; refine zat _ rfl ?_) | (refine zad ?_; refine zaa _ rfl ?_) | (refine zbv ?_; first | (refine zby rfl rfl aO ?_) | (refine zck rfl rfl aO ?_) | (refine zbu _ rfl rfl rfl ?_) | (refine zb6 aA rfl rfl ?_) | (refine zaw _ rfl rfl rfl ?_)) | (refine g_un ?_; first | (refine zce rfl ?_) | (refine zcf rfl aO ?_)) | (refine zbf ?_; first | (refine zac aA rfl ?_) | (refine zah _ aA rfl rfl aE rfl ?_) | (refine zaf _ aA rfl aZ aL ?_) | (refine zak _ aA rfl rfl aE aZ aL ?_)) | (refine zbm ?_; first | (refine zay _ aA rfl aL ?_) | (refine zax _ aA rfl rfl (by simp only [lx, Nat.reduceAdd]; first | done | rfl) ?_)) | (refine zbe ?_; first | (refine zau _ aA rfl rfl aO aA ?_) | (refine zav _ aA rfl rfl rfl rfl aO aO (by first | (rw [Nat.zero_add, Int.toNat_natCast]) | (rw [Nat.zero_add]) | rfl) ?_)) | (refine zbw ?_; first | (refine zbl rfl aD rfl ?_) | (refine zbi rfl aD ?_) | (refine zbj rfl aD ?_) | (refine zbk rfl aD rfl ?_)) | (refine zbs ?_; first | (refine zbx rfl rfl aD ?_) | (refine zb8 rfl rfl aD ?_) | (refine zb7 rfl rfl ?_) | (refine zbh rfl rfl (fun h => ?_) (fun h => ?_) <;> (have h' := h; (try simp only [sx] at h')))) | (refine zbd ?_; first | (refine za9 aA rfl ?_) | (refine zbc aA rfl rfl ?_) | (refine zba aA rfl ?_) | (refine zbb aA (evO_ok rfl) ?_)) | (refine zas (hK _ _ (.inl rfl) ?_); clear hK K) | (refine zas (hK _ _ (.inr (by kernel_rfl)) ?_); clear hK K))
      | (refine za3 ?_; first | (refine zbp ?_) | (refine zaj (fun K hK => ?_)) | (refine zan ?_) | (refine za4 ?_) | (refine zbq ?_) | (refine za1 ?_) | (refine zbg ?_; first | (refine zam rfl aD ?_) | (refine zal rfl aD ?_) | (refine zaz rfl (fun h => ?_) (fun h => ?_) <;> (have h' := h; (try simp only [sx] at h')))))
      | (refine za2 ?_) | (refine zai ?_) | (refine zae ?_) | (refine zaq ?_) | (refine zar ?_) | (refine zao ?_) | (refine zap rfl ?_) | (refine zab ?_) | (refine zag ?_) | (refine zbr ?_))
        refine zb1 rfl (zbn rfl) ?_
        have : GoodP ps := ⟨fun j hj => hi2 j aO, hlen⟩
        simp [this]
    · have hng : ¬ GoodP ps := not_goodP (i := 0) aO (fun hk => by
        unfold OkP at hk
        rw [hdf] at hk
        exact hf0 (hk.2.2.1 rfl))
      repeat' (first
      | (refine za5 ?_; first | (refine za6 ?_; refine zat _ rfl ?_) | (refine zad ?_; refine zaa _ rfl ?_) | (refine zbv ?_; first | (refine zby rfl rfl aO ?_) | (refine zck rfl rfl aO ?_) | (refine zbu _ rfl rfl rfl ?_) | (refine zb6 aA rfl rfl ?_) | (refine zaw _ rfl rfl rfl ?_)) | (refine g_un ?_; first | (refine zce rfl ?_) | (refine zcf rfl aO ?_)) | (refine zbf ?_; first | (refine zac aA rfl ?_) | (refine zah _ aA rfl rfl aE rfl ?_) | (refine zaf _ aA rfl aZ aL ?_) | (refine zak _ aA rfl rfl aE aZ aL ?_)) | (refine zbm ?_; first | (refine zay _ aA rfl aL ?_) | (refine zax _ aA rfl rfl (by simp only [lx, Nat.reduceAdd]; first | done | rfl) ?_)) | (refine zbe ?_; first | (refine zau _ aA rfl rfl aO aA ?_) | (refine zav _ aA rfl rfl rfl rfl aO aO (by first | (rw [Nat.zero_add, Int.toNat_natCast]) | (rw [Nat.zero_add]) | rfl) ?_)) | (refine zbw ?_; first | (refine zbl rfl aD rfl ?_) | (refine zbi rfl aD ?_) | (refine zbj rfl aD ?_) | (refine zbk rfl aD rfl ?_)) | (refine zbs ?_; first | (refine zbx rfl rfl aD ?_) | (refine zb8 rfl rfl aD ?_) | (refine zb7 rfl rfl ?_) | (refine zbh rfl rfl (fun h => ?_) (fun h => ?_) <;> (have h' := h; (try simp only [sx] at h')))) | (refine zbd ?_; first | (refine za0 true (k_l1In _ _ _) rfl rfl rfl aS rfl aH ?_; simp only [cl]) | (refine za9 aA rfl ?_) | (refine zbc aA rfl rfl ?_) | (refine zba aA rfl ?_) | (refine zbb aA (evO_ok rfl) ?_)) | (refine zas (hK _ _ (.inl rfl) ?_); clear hK K) | (refine zas (hK _ _ (.inr (by kernel_rfl)) ?_); clear hK K))
      | (refine za3 ?_; first | (refine zbp ?_) | (refine zaj (fun K hK => ?_)) | (refine zan ?_) | (refine za4 ?_) | (refine zbq ?_) | (refine za1 ?_) | (refine zbg ?_; first | (refine zam rfl aD ?_) | (refine zal rfl aD ?_) | (refine zaz rfl (fun h => ?_) (fun h => ?_) <;> (have h' := h; (try simp only [sx] at h')))))
      | (refine za2 ?_) | (refine zai ?_) | (refine zae ?_) | (refine zaq ?_) | (refine zar ?_) | (refine zao ?_) | (refine zap rfl ?_) | (refine zab ?_) | (refine zag ?_) | (refine zbr ?_))
      all_goals first
        | exact zb1 rfl (zbn rfl) (by simp [hng])
        | (exfalso; omega)
  · have hng : ¬ GoodP ps := fun h => hlen h.2
    repeat' (first
      | (refine za5 ?_; first | (refine za6 ?_; refine zat _ rfl ?_) | (refine zad ?_; refine zaa _ rfl ?_) | (refine zbv ?_; first | (refine zby rfl rfl aO ?_) | (refine zck rfl rfl aO ?_) | (refine zbu _ rfl rfl rfl ?_) | (refine zb6 aA rfl rfl ?_) | (refine zaw _ rfl rfl rfl ?_)) | (refine g_un ?_; first | (refine zce rfl ?_) | (refine zcf rfl aO ?_)) | (refine zbf ?_; first | (refine zac aA rfl ?_) | (refine zah _ aA rfl rfl aE rfl ?_) | (refine zaf _ aA rfl aZ aL ?_) | (refine zak _ aA rfl rfl aE aZ aL ?_)) | (refine zbm ?_; first | (refine zay _ aA rfl aL ?_) | (refine zax _ aA rfl rfl (by simp only [lx, Nat.reduceAdd]; first | done | rfl) ?_)) | (refine zbe ?_; first | (refine zau _ aA rfl rfl aO aA ?_) | (refine zav _ aA rfl rfl rfl rfl aO aO (by first | (rw [Nat.zero_add, Int.toNat_natCast]) | (rw [Nat.zero_add]) | rfl) ?_)) | (refine zbw ?_; first | (refine zbl rfl aD rfl ?_) | (refine zbi rfl aD ?_) | (refine zbj rfl aD ?_) | (refine zbk rfl aD rfl ?_)) | (refine zbs ?_; first | (refine zbx rfl rfl aD ?_) | (refine zb8 rfl rfl aD ?_) | (refine zb7 rfl rfl ?_) | (refine zbh rfl rfl (fun h => ?_) (fun h => ?_) <;> (have h' := h; (try simp only [sx] at h')))) | (refine zbd ?_; first | (refine za0 true (k_l1In _ _ _) rfl rfl rfl aS rfl aH ?_; simp only [cl]) | (refine za9 aA rfl ?_) | (refine zbc aA rfl rfl ?_) | (refine zba aA rfl ?_) | (refine zbb aA (evO_ok rfl) ?_)) | (refine zas (hK _ _ (.inl rfl) ?_); clear hK K) | (refine zas (hK _ _ (.inr (by kernel_rfl)) ?_); clear hK K))
      | (refine za3 ?_; first | (refine zbp ?_) | (refine zaj (fun K hK => ?_)) | (refine zan ?_) | (refine za4 ?_) | (refine zbq ?_) | (refine za1 ?_) | (refine zbg ?_; first | (refine zam rfl aD ?_) | (refine zal rfl aD ?_) | (refine zaz rfl (fun h => ?_) (fun h => ?_) <;> (have h' := h; (try simp only [sx] at h')))))
      | (refine za2 ?_) | (refine zai ?_) | (refine zae ?_) | (refine zaq ?_) | (refine zar ?_) | (refine zao ?_) | (refine zap rfl ?_) | (refine zab ?_) | (refine zag ?_) | (refine zbr ?_))
    all_goals first
      | exact zb1 rfl (zbn rfl) (by simp [hng])
      | (exfalso; omega)
theorem k_ArePhases (ps : List Phase) (hn : ps.length ≤ 1099511627776) : Con Try.prog 12 [.list 2 (ps.map Phase.pv)] (.bool (decide (GoodP ps))) := by
  intro al
  refine za8 hmix Try.func12 rfl (by kernel_rfl) (by kernel_rfl) (Nat.le_of_ble_eq_true rfl) (fun row h => by cases h) ?_
  have hty_u27 := ty_u27
  have hty_s27 := ty_s27
  have hty_a75 := ty_a75
  have hty_z75 := ty_z75
  have hty_t75 := ty_t75
  have hty_f75_0 := ty_f75_0
  have hty_c3 := ty_c3
  have hty_f75_1 := ty_f75_1
  have hl1 : (ps.map Phase.pv).length = ps.length := by simp
  repeat' (first
      | (refine za5 ?_; first | (refine za6 ?_; refine zat _ rfl ?_) | (refine zad ?_; refine zaa _ rfl ?_) | (refine zbv ?_; first | (refine zby rfl rfl aO ?_) | (refine zck rfl rfl aO ?_) | (refine zbu _ rfl rfl rfl ?_) | (refine zbt aA rfl rfl ?_) | (refine zb6 aA rfl rfl ?_) | (refine zaw _ rfl rfl rfl ?_)) | (refine g_un ?_; first | (refine zce rfl ?_) | (refine zcf rfl aO ?_)) | (refine zbf ?_; first | (refine zac aA rfl ?_) | (refine zah _ aA rfl rfl aE rfl ?_) | (refine zaf _ aA rfl aZ aL ?_) | (refine zak _ aA rfl rfl aE aZ aL ?_)) | (refine zbm ?_; first | (refine zay _ aA rfl aL ?_) | (refine zax _ aA rfl rfl (by simp only [lx, Nat.reduceAdd]; first | done | rfl) ?_)) | (refine zbe ?_; first | (refine zau _ aA rfl rfl aO aA ?_) | (refine zav _ aA rfl rfl rfl rfl aO aO (by first | (rw [Nat.zero_add, Int.toNat_natCast]) | (rw [Nat.zero_add]) | rfl) ?_)) | (refine zbw ?_; first | (refine zbl rfl aD rfl ?_) | (refine zbi rfl aD ?_) | (refine zbj rfl aD ?_) | (refine zbk rfl aD rfl ?_)) | (refine zbs ?_; first | (refine zbx rfl rfl aD ?_) | (refine zb8 rfl rfl aD ?_) | (refine zb7 rfl rfl ?_) | (refine zbh rfl rfl (fun h => ?_) (fun h => ?_) <;> (have h' := h; (try simp only [sx] at h')))) | (refine zbd ?_; first | (refine za9 aA rfl ?_) | (refine zbc aA rfl rfl ?_) | (refine zba aA rfl ?_) | (refine zbb aA (evO_ok rfl) ?_)) | (refine zcc _ aA rfl ?_) | (refine zb2 aA rfl ?_) | (refine zbo _ _ _ rfl rfl aE (by first | assumption | (exact TAgg.size aA)) rfl rfl rfl aZ rfl aL (by first | (first | (simp only [lx, Nat.reduceAdd]; first | done | rfl) | fail) | rfl) ?_) | (refine zas (hK _ _ (.inl rfl) ?_); clear hK K) | (refine zas (hK _ _ (.inr (by kernel_rfl)) ?_); clear hK K))
      | (refine za3 ?_; first | (refine zbp ?_) | (refine zaj (fun K hK => ?_)) | (refine zan ?_) | (refine za4 ?_) | (refine zbq ?_) | (refine za1 ?_) | (refine zbg ?_; first | (refine zam rfl aD ?_) | (refine zal rfl aD ?_) | (refine zaz rfl (fun h => ?_) (fun h => ?_) <;> (have h' := h; (try simp only [sx] at h')))))
      | (refine za2 ?_) | (refine zai ?_) | (refine zae ?_) | (refine zaq ?_) | (refine zar ?_) | (refine zao ?_) | (refine zap rfl ?_) | (refine zab ?_) | (refine zag ?_) | (refine zbr ?_))
  refine zcd [0, 5, 6] [] (fun i : Nat => [(7, .int .i64 i)]) (fun i : Nat => []) (fun i : Nat => i ≤ ps.length ∧ ∀ j, j < i → OkP ps j) (fun i : Nat => ps.length - i) (0) rfl rfl (fun _ => rfl) (fun _ => rfl) rfl aW ⟨by omega, fun j hj => by omega⟩ (fun i hi => ?_)
  obtain ⟨hi1, hi2⟩ := hi
  rcases Nat.lt_or_ge i ps.length with hlt | hge
  · obtain ⟨a, hga⟩ := get_ex hlt
    have hx := Phase.at hga
    have hd := getP hga
    by_cases hi0 : 0 < i
    · obtain ⟨b, hgb⟩ := get_ex (show i - 1 < ps.length by omega)
      have hy := Phase.at hgb
      have hd' := getP hgb
      have e1 : ((i : Int) - 1).toNat = i - 1 := by omega
      rw [← e1] at hy
      repeat' (first
      | (refine za5 ?_; first | (refine za6 ?_; refine zat _ rfl ?_) | (refine zad ?_; refine zaa _ rfl ?_) | (refine zbv ?_; first | (refine zby rfl rfl aO ?_) | (refine zck rfl rfl aO ?_) | (refine zbu _ rfl rfl rfl ?_) | (refine zbt aA rfl rfl ?_) | (refine zb6 aA rfl rfl ?_) | (refine zaw _ rfl rfl rfl ?_)) | (refine g_un ?_; first | (refine zce rfl ?_) | (refine zcf rfl aO ?_)) | (refine zbf ?_; first | (refine zac aA rfl ?_) | (refine zah _ aA rfl rfl aE rfl ?_) | (refine zaf _ aA rfl aZ aL ?_) | (refine zak _ aA rfl rfl aE aZ aL ?_)) | (refine zbm ?_; first | (refine zay _ aA rfl aL ?_) | (refine zax _ aA rfl rfl (by simp only [lx, Nat.reduceAdd]; first | done | rfl) ?_)) | (refine zbe ?_; first | (refine zau _ aA rfl rfl aO aA ?_) | (refine zav _ aA rfl rfl rfl rfl aO aO (by first | (rw [Nat.zero_add, Int.toNat_natCast]) | (rw [Nat.zero_add]) | rfl) ?_)) | (refine zbw ?_; first | (refine zbl rfl aD rfl ?_) | (refine zbi rfl aD ?_) | (refine zbj rfl aD ?_) | (refine zbk rfl aD rfl ?_)) | (refine zbs ?_; first | (refine zbx rfl rfl aD ?_) | (refine zb8 rfl rfl aD ?_) | (refine zb7 rfl rfl ?_) | (refine zbh rfl rfl (fun h => ?_) (fun h => ?_) <;> (have h' := h; (try simp only [sx] at h')))) | (refine zbd ?_; first | (refine za0 true (k_isTick _) rfl rfl rfl aS rfl aH ?_; simp only [cl]) | (refine za0 true (k_in _ _ _) rfl rfl rfl aS rfl aH ?_; simp only [cl]) | (refine za9 aA rfl ?_) | (refine zbc aA rfl rfl ?_) | (refine zba aA rfl ?_) | (refine zbb aA (evO_ok rfl) ?_)) | (refine zcc _ aA rfl ?_) | (refine zb2 aA rfl ?_) | (refine zbo _ _ _ rfl rfl aE (by first | assumption | (exact TAgg.size aA)) rfl rfl rfl aZ rfl aL (by first | (first | (simp only [lx, Nat.reduceAdd]; first | done | rfl) | fail) | rfl) ?_) | (refine zas (hK _ _ (.inl rfl) ?_); clear hK K) | (refine zas (hK _ _ (.inr (by kernel_rfl)) ?_); clear hK K))
      | (refine za3 ?_; first | (refine zbp ?_) | (refine zaj (fun K hK => ?_)) | (refine zan ?_) | (refine za4 ?_) | (refine zbq ?_) | (refine za1 ?_) | (refine zbg ?_; first | (refine zam rfl aD ?_) | (refine zal rfl aD ?_) | (refine zaz rfl (fun h => ?_) (fun h => ?_) <;> (have h' := h; (try simp only [sx] at h')))))
      | (refine za2 ?_) | (refine zai ?_) | (refine zae ?_) | (refine zaq ?_) | (refine zar ?_) | (refine zao ?_) | (refine zap rfl ?_) | (refine zab ?_) | (refine zag ?_) | (refine zbr ?_))
      all_goals first
        | (refine zcb (i + 1) rfl aW ⟨by omega, okP_step hi2 ?_⟩ aO; unfold OkP; rw [hd, hd']; exact ⟨by omega, by omega, by omega, by omega⟩)
        | (refine zb1 rfl (zbn rfl) ?_
           have : ¬ GoodP ps := not_goodP hlt (fun hk => by
             unfold OkP at hk
             rw [hd, hd'] at hk
             omega)
           simp [this])
        | (exfalso; omega)
    · repeat' (first
      | (refine za5 ?_; first | (refine za6 ?_; refine zat _ rfl ?_) | (refine zad ?_; refine zaa _ rfl ?_) | (refine zbv ?_; first | (refine zby rfl rfl aO ?_) | (refine zck rfl rfl aO ?_) | (refine zbu _ rfl rfl rfl ?_) | (refine zbt aA rfl rfl ?_) | (refine zb6 aA rfl rfl ?_) | (refine zaw _ rfl rfl rfl ?_)) | (refine g_un ?_; first | (refine zce rfl ?_) | (refine zcf rfl aO ?_)) | (refine zbf ?_; first | (refine zac aA rfl ?_) | (refine zah _ aA rfl rfl aE rfl ?_) | (refine zaf _ aA rfl aZ aL ?_) | (refine zak _ aA rfl rfl aE aZ aL ?_)) | (refine zbm ?_; first | (refine zay _ aA rfl aL ?_) | (refine zax _ aA rfl rfl (by simp only [lx, Nat.reduceAdd]; first | done | rfl) ?_)) | (refine zbe ?_; first | (refine zau _ aA rfl rfl aO aA ?_) | (refine zav _ aA rfl rfl rfl rfl aO aO (by first | (rw [Nat.zero_add, Int.toNat_natCast]) | (rw [Nat.zero_add]) | rfl) ?_)) | (refine zbw ?_; first | (refine zbl rfl aD rfl ?_) | (refine zbi rfl aD ?_) | (refine zbj rfl aD ?_) | (refine zbk rfl aD rfl ?_)) | (refine zbs ?_; first | (refine zbx rfl rfl aD ?_) | (refine zb8 rfl rfl aD ?_) | (refine zb7 rfl rfl ?_) | (refine zbh rfl rfl (fun h => ?_) (fun h => ?_) <;> (have h' := h; (try simp only [sx] at h')))) | (refine zbd ?_; first | (refine za0 true (k_isTick _) rfl rfl rfl aS rfl aH ?_; simp only [cl]) | (refine za0 true (k_in _ _ _) rfl rfl rfl aS rfl aH ?_; simp only [cl]) | (refine za9 aA rfl ?_) | (refine zbc aA rfl rfl ?_) | (refine zba aA rfl ?_) | (refine zbb aA (evO_ok rfl) ?_)) | (refine zcc _ aA rfl ?_) | (refine zb2 aA rfl ?_) | (refine zbo _ _ _ rfl rfl aE (by first | assumption | (exact TAgg.size aA)) rfl rfl rfl aZ rfl aL (by first | (first | (simp only [lx, Nat.reduceAdd]; first | done | rfl) | fail) | rfl) ?_) | (refine zas (hK _ _ (.inl rfl) ?_); clear hK K) | (refine zas (hK _ _ (.inr (by kernel_rfl)) ?_); clear hK K))
      | (refine za3 ?_; first | (refine zbp ?_) | (refine zaj (fun K hK => ?_)) | (refine zan ?_) | (refine za4 ?_) | (refine zbq ?_) | (refine za1 ?_) | (refine zbg ?_; first | (refine zam rfl aD ?_) | (refine zal rfl aD ?_) | (refine zaz rfl (fun h => ?_) (fun h => ?_) <;> (have h' := h; (try simp only [sx] at h')))))
      | (refine za2 ?_) | (refine zai ?_) | (refine zae ?_) | (refine zaq ?_) | (refine zar ?_) | (refine zao ?_) | (refine zap rfl ?_) | (refine zab ?_) | (refine zag ?_) | (refine zbr ?_))
      all_goals first
        | (refine zcb (i + 1) rfl aW ⟨by omega, okP_step hi2 ?_⟩ aO; unfold OkP; rw [hd]; exact ⟨by omega, by omega, by omega, fun h0 => absurd h0 hi0⟩)
        | (refine zb1 rfl (zbn rfl) ?_
           have : ¬ GoodP ps := not_goodP hlt (fun hk => by
             unfold OkP at hk
             rw [hd] at hk
             omega)
           simp [this])
        | (exfalso; omega)
  · repeat' (first
      | (refine za5 ?_; first | (refine za6 ?_; refine zat _ rfl ?_) | (refine zad ?_; refine zaa _ rfl ?_) | (refine zbv ?_; first | (refine zby rfl rfl aO ?_) | (refine zck rfl rfl aO ?_) | (refine zbu _ rfl rfl rfl ?_) | (refine zbt aA rfl rfl ?_) | (refine zb6 aA rfl rfl ?_) | (refine zaw _ rfl rfl rfl ?_)) | (refine g_un ?_; first | (refine zce rfl ?_) | (refine zcf rfl aO ?_)) | (refine zbf ?_; first | (refine zac aA rfl ?_) | (refine zah _ aA rfl rfl aE rfl ?_) | (refine zaf _ aA rfl aZ aL ?_) | (refine zak _ aA rfl rfl aE aZ aL ?_)) | (refine zbm ?_; first | (refine zay _ aA rfl aL ?_) | (refine zax _ aA rfl rfl (by simp only [lx, Nat.reduceAdd]; first | done | rfl) ?_)) | (refine zbe ?_; first | (refine zau _ aA rfl rfl aO aA ?_) | (refine zav _ aA rfl rfl rfl rfl aO aO (by first | (rw [Nat.zero_add, Int.toNat_natCast]) | (rw [Nat.zero_add]) | rfl) ?_)) | (refine zbw ?_; first | (refine zbl rfl aD rfl ?_) | (refine zbi rfl aD ?_) | (refine zbj rfl aD ?_) | (refine zbk rfl aD rfl ?_)) | (refine zbs ?_; first | (refine zbx rfl rfl aD ?_) | (refine zb8 rfl rfl aD ?_) | (refine zb7 rfl rfl ?_) | (refine zbh rfl rfl (fun h => ?_) (fun h => ?_) <;> (have h' := h; (try simp only [sx] at h')))) | (refine zbd ?_; first | (refine za0 true (k_in _ _ _) rfl rfl rfl aS rfl aH ?_; simp only [cl]) | (refine za9 aA rfl ?_) | (refine zbc aA rfl rfl ?_) | (refine zba aA rfl ?_) | (refine zbb aA (evO_ok rfl) ?_)) | (refine zcc _ aA rfl ?_) | (refine zb2 aA rfl ?_) | (refine zbo _ _ _ rfl rfl aE (by first | assumption | (exact TAgg.size aA)) rfl rfl rfl aZ rfl aL (by first | (first | (simp only [lx, Nat.reduceAdd]; first | done | rfl) | fail) | rfl) ?_) | (refine zas (hK _ _ (.inl rfl) ?_); clear hK K) | (refine zas (hK _ _ (.inr (by kernel_rfl)) ?_); clear hK K))
      | (refine za3 ?_; first | (refine zbp ?_) | (refine zaj (fun K hK => ?_)) | (refine zan ?_) | (refine za4 ?_) | (refine zbq ?_) | (refine za1 ?_) | (refine zbg ?_; first | (refine zam rfl aD ?_) | (refine zal rfl aD ?_) | (refine zaz rfl (fun h => ?_) (fun h => ?_) <;> (have h' := h; (try simp only [sx] at h')))))
      | (refine za2 ?_) | (refine zai ?_) | (refine zae ?_) | (refine zaq ?_) | (refine zar ?_) | (refine zao ?_) | (refine zap rfl ?_) | (refine zab ?_) | (refine zag ?_) | (refine zbr ?_))
    (refine zb1 rfl (zbn rfl) ?_; rw [Bool.eq_iff_iff]; try simp only [sx] at *)
    unfold GoodP
    constructor
    · intro h
      exact ⟨fun j hj => hi2 j aO, by omega⟩
    · intro h
      have := h.2
      omega
@[reducible] def spStep (t : Int) (o : Int) (p : Phase) : Int := if p.frm ≤ t then p.speed else o
def spF (ps : List Phase) (t : Int) : Int := ps.foldl (spStep t) 0
theorem spF_take_succ {ps : List Phase} {i : Nat} {a : Phase} (t : Int) (h : ps[i]? = some a) : spF (ps.take (i + 1)) t = if a.frm ≤ t then a.speed else spF (ps.take i) t := by
  rw [take_succ h, spF, List.foldl_append]; rfl
theorem GoodP.at {ps : List Phase} (hg : GoodP ps) {i : Nat} {a : Phase} (h : ps[i]? = some a) : (0 ≤ a.frm ∧ a.frm ≤ 9999) ∧ (1 ≤ a.speed ∧ a.speed ≤ 9) ∧ (i = 0 → a.frm = 0) := by
  have := hg.1 i (get_lt h)
  unfold OkP at this
  rw [getP h] at this
  exact ⟨this.1, this.2.1, this.2.2.1⟩
theorem GoodP.lt {ps : List Phase} (hg : GoodP ps) {i : Nat} {a b : Phase} (ha : ps[i]? = some a) (hb : ps[i + 1]? = some b) : a.frm < b.frm := by
  have := hg.1 (i + 1) (get_lt hb)
  unfold OkP at this
  rw [getP hb, Nat.add_sub_cancel, getP ha] at this
  exact this.2.2.2 aO
theorem sp_range {ps : List Phase} (hg : GoodP ps) {t : Int} (ht : 0 ≤ t) : ∀ i, 0 < i → i ≤ ps.length → 1 ≤ spF (ps.take i) t ∧ spF (ps.take i) t ≤ 9
  | 0, h, _ => by omega
  | 1, _, h => by
    obtain ⟨a, ha⟩ := get_ex (show 0 < ps.length by omega)
    have := hg.at ha
    rw [spF_take_succ t ha, if_pos aO]
    exact this.2.1
  | i + 2, _, h => by
    obtain ⟨a, ha⟩ := get_ex (show i + 1 < ps.length by omega)
    have := hg.at ha
    rw [spF_take_succ t ha]
    split
    · exact this.2.1
    · exact sp_range hg ht (i + 1) aO aO
theorem sp_bounds {ps : List Phase} (hg : GoodP ps) {t : Int} (ht : 0 ≤ t) : 1 ≤ spF ps t ∧ spF ps t ≤ 9 := by
  have := sp_range hg ht ps.length (by have := hg.2; omega) (Nat.le_refl _)
  rwa [List.take_length] at this
theorem sp_min {ps : List Phase} (hg : GoodP ps) (t : Int) : spF ps (min t 9999) = spF ps t := by
  have key : ∀ i, i ≤ ps.length → spF (ps.take i) (min t 9999) = spF (ps.take i) t := by
    intro i
    induction i with
    | zero => intro _; rfl
    | succ i ih =>
      intro h
      obtain ⟨a, ha⟩ := get_ex (show i < ps.length by omega)
      have := (hg.at ha).1
      rw [spF_take_succ _ ha, spF_take_succ _ ha, ih aO]
      by_cases hc : a.frm ≤ t
      · rw [if_pos aO, if_pos hc]
      · rw [if_neg aO, if_neg hc]
  have := key ps.length (Nat.le_refl _)
  rwa [List.take_length] at this
theorem sp_at {ps : List Phase} (hg : GoodP ps) {t : Int} {i : Nat} {a : Phase} (ha : ps[i]? = some a) (h1 : a.frm ≤ t) (h2 : ∀ b, ps[i + 1]? = some b → t < b.frm) : spF ps t = a.speed := by
  have key : ∀ d, i + 1 + d ≤ ps.length → spF (ps.take (i + 1 + d)) t = a.speed ∧ ∀ b, ps[i + 1 + d]? = some b → t < b.frm := by
    intro d
    induction d with
    | zero =>
      intro _
      rw [Nat.add_zero, spF_take_succ t ha, if_pos h1]
      exact ⟨rfl, h2⟩
    | succ d ih =>
      intro h
      obtain ⟨g1, g2⟩ := ih aO
      obtain ⟨b, hb⟩ := get_ex (show i + 1 + d < ps.length by omega)
      have := g2 b hb
      refine ⟨?_, fun c hc => ?_⟩
      · rw [show i + 1 + (d + 1) = i + 1 + d + 1 by omega, spF_take_succ t hb, if_neg aO, g1]
      · have := hg.lt hb (by rw [← hc]; rfl)
        omega
  have := (key (ps.length - (i + 1)) (by have := get_lt ha; omega)).1
  rwa [show i + 1 + (ps.length - (i + 1)) = ps.length by have := get_lt ha; omega, List.take_length] at this
theorem k_speedAt (ps : List Phase) (t : Int) (hn : ps.length ≤ 1099511627776) : Con Try.prog 79 [.list 2 (ps.map Phase.pv), .int .i64 t] (.int .i64 (spF ps t)) := by
  intro al
  refine za8 hmix Try.func79 rfl (by kernel_rfl) (by kernel_rfl) (Nat.le_of_ble_eq_true rfl) (fun row h => by cases h) ?_
  have hty_u27 := ty_u27
  have hty_s27 := ty_s27
  have hty_a75 := ty_a75
  have hty_z75 := ty_z75
  have hty_t75 := ty_t75
  have hty_f75_0 := ty_f75_0
  have hty_c3 := ty_c3
  have hty_f75_1 := ty_f75_1
  have hl1 : (ps.map Phase.pv).length = ps.length := by simp
  repeat' (first
      | (refine za5 ?_; first | (refine za6 ?_; refine zat _ rfl ?_) | (refine zad ?_; refine zaa _ rfl ?_) | (refine zbv ?_; first | (refine zby rfl rfl aO ?_) | (refine zbu _ rfl rfl rfl ?_) | (refine zaw _ rfl rfl rfl ?_)) | (refine zbf ?_; first | (refine zac aA rfl ?_) | (refine zah _ aA rfl rfl aE rfl ?_) | (refine zaf _ aA rfl aZ aL ?_) | (refine zak _ aA rfl rfl aE aZ aL ?_)) | (refine zbm ?_; first | (refine zay _ aA rfl aL ?_) | (refine zax _ aA rfl rfl (by simp only [lx, Nat.reduceAdd]; first | done | rfl) ?_)) | (refine zbe ?_; first | (refine zau _ aA rfl rfl aO aA ?_) | (refine zav _ aA rfl rfl rfl rfl aO aO (by first | (rw [Nat.zero_add, Int.toNat_natCast]) | (rw [Nat.zero_add]) | rfl) ?_)) | (refine zbd ?_; first | (refine za9 aA rfl ?_) | (refine zbc aA rfl rfl ?_) | (refine zba aA rfl ?_) | (refine zbb aA (evO_ok rfl) ?_)) | (refine zcc _ aA rfl ?_) | (refine zb2 aA rfl ?_) | (refine zbo _ _ _ rfl rfl aE (by first | assumption | (exact TAgg.size aA)) rfl rfl rfl aZ rfl aL (by first | (first | (simp only [lx, Nat.reduceAdd]; first | done | rfl) | fail) | rfl) ?_) | (refine zas (hK _ _ (.inl rfl) ?_); clear hK K) | (refine zas (hK _ _ (.inr (by kernel_rfl)) ?_); clear hK K))
      | (refine za3 ?_; first | (refine zbp ?_) | (refine zaj (fun K hK => ?_)) | (refine zan ?_) | (refine za4 ?_) | (refine zbq ?_) | (refine za1 ?_) | (refine zbg ?_; first | (refine zam rfl aD ?_) | (refine zal rfl aD ?_) | (refine zaz rfl (fun h => ?_) (fun h => ?_) <;> (have h' := h; (try simp only [sx] at h')))))
      | (refine za2 ?_) | (refine zai ?_) | (refine zae ?_) | (refine zaq ?_) | (refine zar ?_) | (refine zao ?_) | (refine zap rfl ?_) | (refine zab ?_) | (refine zag ?_) | (refine zbr ?_))
  refine zcd [1, 8, 9] [] (fun q : Nat × Int => [(5, .int .i64 q.2), (10, .int .i64 q.1)]) (fun q : Nat × Int => []) (fun q : Nat × Int => q.1 ≤ ps.length ∧ q.2 = spF (ps.take q.1) t) (fun q : Nat × Int => ps.length - q.1) ((0, 0)) rfl rfl (fun _ => rfl) (fun _ => rfl) rfl aW ⟨by simp, rfl⟩ (fun q hq => ?_)
  obtain ⟨i, o⟩ := q
  obtain ⟨h1, h2⟩ := hq
  simp only at h1 h2
  dsimp only
  rcases Nat.lt_or_ge i ps.length with hlt | hge
  · obtain ⟨a, hga⟩ := get_ex hlt
    have hx := Phase.at hga
    have hs := spF_take_succ t hga
    repeat' (first
      | (refine za5 ?_; first | (refine za6 ?_; refine zat _ rfl ?_) | (refine zad ?_; refine zaa _ rfl ?_) | (refine zbv ?_; first | (refine zby rfl rfl aO ?_) | (refine zbu _ rfl rfl rfl ?_) | (refine zaw _ rfl rfl rfl ?_)) | (refine zbf ?_; first | (refine zac aA rfl ?_) | (refine zah _ aA rfl rfl aE rfl ?_) | (refine zaf _ aA rfl aZ aL ?_) | (refine zak _ aA rfl rfl aE aZ aL ?_)) | (refine zbm ?_; first | (refine zay _ aA rfl aL ?_) | (refine zax _ aA rfl rfl (by simp only [lx, Nat.reduceAdd]; first | done | rfl) ?_)) | (refine zbe ?_; first | (refine zau _ aA rfl rfl aO aA ?_) | (refine zav _ aA rfl rfl rfl rfl aO aO (by first | (rw [Nat.zero_add, Int.toNat_natCast]) | (rw [Nat.zero_add]) | rfl) ?_)) | (refine zbd ?_; first | (refine za9 aA rfl ?_) | (refine zbc aA rfl rfl ?_) | (refine zba aA rfl ?_) | (refine zbb aA (evO_ok rfl) ?_)) | (refine zcc _ aA rfl ?_) | (refine zb2 aA rfl ?_) | (refine zbo _ _ _ rfl rfl aE (by first | assumption | (exact TAgg.size aA)) rfl rfl rfl aZ rfl aL (by first | (first | (simp only [lx, Nat.reduceAdd]; first | done | rfl) | fail) | rfl) ?_) | (refine zas (hK _ _ (.inl rfl) ?_); clear hK K) | (refine zas (hK _ _ (.inr (by kernel_rfl)) ?_); clear hK K))
      | (refine za3 ?_; first | (refine zbp ?_) | (refine zaj (fun K hK => ?_)) | (refine zan ?_) | (refine za4 ?_) | (refine zbq ?_) | (refine za1 ?_) | (refine zbg ?_; first | (refine zam rfl aD ?_) | (refine zal rfl aD ?_) | (refine zaz rfl (fun h => ?_) (fun h => ?_) <;> (have h' := h; (try simp only [sx] at h')))))
      | (refine za2 ?_) | (refine zai ?_) | (refine zae ?_) | (refine zaq ?_) | (refine zar ?_) | (refine zao ?_) | (refine zap rfl ?_) | (refine zab ?_) | (refine zag ?_) | (refine zbr ?_))
    · refine zcb (i + 1, a.speed) rfl aW ⟨by simp only; omega, by simp only [hs]; rw [if_pos aA]⟩ (by simp only; omega)
    · refine zcb (i + 1, o) rfl aW ⟨by simp only; omega, by simp only [hs]; rw [if_neg aA]; exact h2⟩ (by simp only; omega)
  · repeat' (first
      | (refine za5 ?_; first | (refine za6 ?_; refine zat _ rfl ?_) | (refine zad ?_; refine zaa _ rfl ?_) | (refine zbv ?_; first | (refine zby rfl rfl aO ?_) | (refine zbu _ rfl rfl rfl ?_) | (refine zaw _ rfl rfl rfl ?_)) | (refine zbf ?_; first | (refine zac aA rfl ?_) | (refine zah _ aA rfl rfl aE rfl ?_) | (refine zaf _ aA rfl aZ aL ?_) | (refine zak _ aA rfl rfl aE aZ aL ?_)) | (refine zbm ?_; first | (refine zay _ aA rfl aL ?_) | (refine zax _ aA rfl rfl (by simp only [lx, Nat.reduceAdd]; first | done | rfl) ?_)) | (refine zbe ?_; first | (refine zau _ aA rfl rfl aO aA ?_) | (refine zav _ aA rfl rfl rfl rfl aO aO (by first | (rw [Nat.zero_add, Int.toNat_natCast]) | (rw [Nat.zero_add]) | rfl) ?_)) | (refine zbd ?_; first | (refine za9 aA rfl ?_) | (refine zbc aA rfl rfl ?_) | (refine zba aA rfl ?_) | (refine zbb aA (evO_ok rfl) ?_)) | (refine zcc _ aA rfl ?_) | (refine zb2 aA rfl ?_) | (refine zbo _ _ _ rfl rfl aE (by first | assumption | (exact TAgg.size aA)) rfl rfl rfl aZ rfl aL (by first | (first | (simp only [lx, Nat.reduceAdd]; first | done | rfl) | fail) | rfl) ?_) | (refine zas (hK _ _ (.inl rfl) ?_); clear hK K) | (refine zas (hK _ _ (.inr (by kernel_rfl)) ?_); clear hK K))
      | (refine za3 ?_; first | (refine zbp ?_) | (refine zaj (fun K hK => ?_)) | (refine zan ?_) | (refine za4 ?_) | (refine zbq ?_) | (refine za1 ?_) | (refine zbg ?_; first | (refine zam rfl aD ?_) | (refine zal rfl aD ?_) | (refine zaz rfl (fun h => ?_) (fun h => ?_) <;> (have h' := h; (try simp only [sx] at h')))))
      | (refine za2 ?_) | (refine zai ?_) | (refine zae ?_) | (refine zaq ?_) | (refine zar ?_) | (refine zao ?_) | (refine zap rfl ?_) | (refine zab ?_) | (refine zag ?_) | (refine zbr ?_))
    rw [take_all hge] at h2
    exact zcj rfl (zbn rfl) h2
theorem k_l4Speed (ps : List Phase) (t : Int) (hg : GoodP ps) (ht : 0 ≤ t) : Con Try.prog 80 [.list 2 (ps.map Phase.pv), .int .i64 t] (.int .i64 (spF ps t)) := by
  intro al
  refine za8 hmix Try.func80 rfl (by kernel_rfl) (by kernel_rfl) (Nat.le_of_ble_eq_true rfl) (fun row h => by cases h) ?_
  have hty_u27 := ty_u27
  have hty_s27 := ty_s27
  have hty_f75_0 := ty_f75_0
  have hty_c3 := ty_c3
  have hty_f75_1 := ty_f75_1
  have hl1 : (ps.map Phase.pv).length = ps.length := by simp
  have hlen := hg.2
  have hini : (ps.getD 0 p0).frm ≤ t := by
    obtain ⟨a, ha⟩ := get_ex (show 0 < ps.length by omega)
    rw [getP ha, (hg.at ha).2.2 rfl]; exact ht
  repeat' (first
      | (refine za5 ?_; first | (refine za6 ?_; refine zat _ rfl ?_) | (refine zad ?_; refine zaa _ rfl ?_) | (refine zbv ?_; first | (refine zby rfl rfl aO ?_) | (refine zbu _ rfl rfl rfl ?_) | (refine zaw _ rfl rfl rfl ?_)) | (refine zbf ?_; first | (refine zac aA rfl ?_) | (refine zah _ aA rfl rfl aE rfl ?_) | (refine zaf _ aA rfl aZ aL ?_) | (refine zak _ aA rfl rfl aE aZ aL ?_)) | (refine zbm ?_; first | (refine zay _ aA rfl aL ?_) | (refine zax _ aA rfl rfl (by simp only [lx, Nat.reduceAdd]; first | done | rfl) ?_)) | (refine zbe ?_; first | (refine zau _ aA rfl rfl aO aA ?_) | (refine zav _ aA rfl rfl rfl rfl aO aO (by first | (rw [Nat.zero_add, Int.toNat_natCast]) | (rw [Nat.zero_add]) | rfl) ?_)) | (refine zbw ?_; first | (refine zbl rfl aD rfl ?_) | (refine zbi rfl aD ?_) | (refine zbj rfl aD ?_) | (refine zbk rfl aD rfl ?_)) | (refine zbs ?_; first | (refine zbx rfl rfl aD ?_) | (refine zb8 rfl rfl aD ?_) | (refine zb7 rfl rfl ?_) | (refine zbh rfl rfl (fun h => ?_) (fun h => ?_) <;> (have h' := h; (try simp only [sx] at h')))) | (refine zbd ?_; first | (refine za9 aA rfl ?_) | (refine zbc aA rfl rfl ?_) | (refine zba aA rfl ?_) | (refine zbb aA (evO_ok rfl) ?_)) | (refine zas (hK _ _ (.inl rfl) ?_); clear hK K) | (refine zas (hK _ _ (.inr (by kernel_rfl)) ?_); clear hK K))
      | (refine za3 ?_; first | (refine zbp ?_) | (refine zaj (fun K hK => ?_)) | (refine zan ?_) | (refine za4 ?_) | (refine zbq ?_) | (refine za1 ?_) | (refine zbg ?_; first | (refine zam rfl aD ?_) | (refine zal rfl aD ?_) | (refine zaz rfl (fun h => ?_) (fun h => ?_) <;> (have h' := h; (try simp only [sx] at h')))))
      | (refine za2 ?_) | (refine zai ?_) | (refine zae ?_) | (refine zaq ?_) | (refine zar ?_) | (refine zao ?_) | (refine zap rfl ?_) | (refine zab ?_) | (refine zag ?_) | (refine zbr ?_))
  refine zcd [0, 1] [] (fun i : Nat => [(5, .int .i64 i)]) (fun i : Nat => []) (fun i : Nat => i < ps.length ∧ (ps.getD i p0).frm ≤ t) (fun i : Nat => ps.length - i) (0) rfl rfl (fun _ => rfl) (fun _ => rfl) rfl aW ⟨by omega, hini⟩ (fun i hi => ?_)
  obtain ⟨h1, h2⟩ := hi
  obtain ⟨a, hga⟩ := get_ex h1
  have hx := Phase.at hga
  rw [getP hga] at h2
  rcases Nat.lt_or_ge (i + 1) ps.length with hlt | hge
  · obtain ⟨b, hgb⟩ := get_ex hlt
    have hy := Phase.at hgb
    have e1 : ((i : Int) + 1).toNat = i + 1 := by omega
    rw [← e1] at hy
    by_cases hc : b.frm ≤ t
    · repeat' (first
      | (refine za5 ?_; first | (refine za6 ?_; refine zat _ rfl ?_) | (refine zad ?_; refine zaa _ rfl ?_) | (refine zbv ?_; first | (refine zby rfl rfl aO ?_) | (refine zbu _ rfl rfl rfl ?_) | (refine zaw _ rfl rfl rfl ?_)) | (refine zbf ?_; first | (refine zac aA rfl ?_) | (refine zah _ aA rfl rfl aE rfl ?_) | (refine zaf _ aA rfl aZ aL ?_) | (refine zak _ aA rfl rfl aE aZ aL ?_)) | (refine zbm ?_; first | (refine zay _ aA rfl aL ?_) | (refine zax _ aA rfl rfl (by simp only [lx, Nat.reduceAdd]; first | done | rfl) ?_)) | (refine zbe ?_; first | (refine zau _ aA rfl rfl aO aA ?_) | (refine zav _ aA rfl rfl rfl rfl aO aO (by first | (rw [Nat.zero_add, Int.toNat_natCast]) | (rw [Nat.zero_add]) | rfl) ?_)) | (refine zbw ?_; first | (refine zbl rfl aD rfl ?_) | (refine zbi rfl aD ?_) | (refine zbj rfl aD ?_) | (refine zbk rfl aD rfl ?_)) | (refine zbs ?_; first | (refine zbx rfl rfl aD ?_) | (refine zb8 rfl rfl aD ?_) | (refine zb7 rfl rfl ?_) | (refine zbh rfl rfl (fun h => ?_) (fun h => ?_) <;> (have h' := h; (try simp only [sx] at h')))) | (refine zbd ?_; first | (refine za9 aA rfl ?_) | (refine zbc aA rfl rfl ?_) | (refine zba aA rfl ?_) | (refine zbb aA (evO_ok rfl) ?_)) | (refine zas (hK _ _ (.inl rfl) ?_); clear hK K) | (refine zas (hK _ _ (.inr (by kernel_rfl)) ?_); clear hK K))
      | (refine za3 ?_; first | (refine zbp ?_) | (refine zaj (fun K hK => ?_)) | (refine zan ?_) | (refine za4 ?_) | (refine zbq ?_) | (refine za1 ?_) | (refine zbg ?_; first | (refine zam rfl aD ?_) | (refine zal rfl aD ?_) | (refine zaz rfl (fun h => ?_) (fun h => ?_) <;> (have h' := h; (try simp only [sx] at h')))))
      | (refine za2 ?_) | (refine zai ?_) | (refine zae ?_) | (refine zaq ?_) | (refine zar ?_) | (refine zao ?_) | (refine zap rfl ?_) | (refine zab ?_) | (refine zag ?_) | (refine zbr ?_))
      all_goals first
        | (refine zcb (i + 1) rfl aW ⟨hlt, by rw [getP hgb]; exact hc⟩ aO)
        | (exfalso; omega)
    · repeat' (first
      | (refine za5 ?_; first | (refine za6 ?_; refine zat _ rfl ?_) | (refine zad ?_; refine zaa _ rfl ?_) | (refine zbv ?_; first | (refine zby rfl rfl aO ?_) | (refine zbu _ rfl rfl rfl ?_) | (refine zaw _ rfl rfl rfl ?_)) | (refine zbf ?_; first | (refine zac aA rfl ?_) | (refine zah _ aA rfl rfl aE rfl ?_) | (refine zaf _ aA rfl aZ aL ?_) | (refine zak _ aA rfl rfl aE aZ aL ?_)) | (refine zbm ?_; first | (refine zay _ aA rfl aL ?_) | (refine zax _ aA rfl rfl (by simp only [lx, Nat.reduceAdd]; first | done | rfl) ?_)) | (refine zbe ?_; first | (refine zau _ aA rfl rfl aO aA ?_) | (refine zav _ aA rfl rfl rfl rfl aO aO (by first | (rw [Nat.zero_add, Int.toNat_natCast]) | (rw [Nat.zero_add]) | rfl) ?_)) | (refine zbw ?_; first | (refine zbl rfl aD rfl ?_) | (refine zbi rfl aD ?_) | (refine zbj rfl aD ?_) | (refine zbk rfl aD rfl ?_)) | (refine zbs ?_; first | (refine zbx rfl rfl aD ?_) | (refine zb8 rfl rfl aD ?_) | (refine zb7 rfl rfl ?_) | (refine zbh rfl rfl (fun h => ?_) (fun h => ?_) <;> (have h' := h; (try simp only [sx] at h')))) | (refine zbd ?_; first | (refine za9 aA rfl ?_) | (refine zbc aA rfl rfl ?_) | (refine zba aA rfl ?_) | (refine zbb aA (evO_ok rfl) ?_)) | (refine zas (hK _ _ (.inl rfl) ?_); clear hK K) | (refine zas (hK _ _ (.inr (by kernel_rfl)) ?_); clear hK K))
      | (refine za3 ?_; first | (refine zbp ?_) | (refine zaj (fun K hK => ?_)) | (refine zan ?_) | (refine za4 ?_) | (refine zbq ?_) | (refine za1 ?_) | (refine zbg ?_; first | (refine zam rfl aD ?_) | (refine zal rfl aD ?_) | (refine zaz rfl (fun h => ?_) (fun h => ?_) <;> (have h' := h; (try simp only [sx] at h')))))
      | (refine za2 ?_) | (refine zai ?_) | (refine zae ?_) | (refine zaq ?_) | (refine zar ?_) | (refine zao ?_) | (refine zap rfl ?_) | (refine zab ?_) | (refine zag ?_) | (refine zbr ?_))
      all_goals first
        | exact zcj rfl (zbn rfl) (sp_at hg hga h2 (fun c hcc => by rw [hgb] at hcc; cases hcc; omega)).symm
        | (exfalso; omega)
  · repeat' (first
      | (refine za5 ?_; first | (refine za6 ?_; refine zat _ rfl ?_) | (refine zad ?_; refine zaa _ rfl ?_) | (refine zbv ?_; first | (refine zby rfl rfl aO ?_) | (refine zbu _ rfl rfl rfl ?_) | (refine zaw _ rfl rfl rfl ?_)) | (refine zbf ?_; first | (refine zac aA rfl ?_) | (refine zah _ aA rfl rfl aE rfl ?_) | (refine zaf _ aA rfl aZ aL ?_) | (refine zak _ aA rfl rfl aE aZ aL ?_)) | (refine zbm ?_; first | (refine zay _ aA rfl aL ?_) | (refine zax _ aA rfl rfl (by simp only [lx, Nat.reduceAdd]; first | done | rfl) ?_)) | (refine zbe ?_; first | (refine zau _ aA rfl rfl aO aA ?_) | (refine zav _ aA rfl rfl rfl rfl aO aO (by first | (rw [Nat.zero_add, Int.toNat_natCast]) | (rw [Nat.zero_add]) | rfl) ?_)) | (refine zbw ?_; first | (refine zbl rfl aD rfl ?_) | (refine zbi rfl aD ?_) | (refine zbj rfl aD ?_) | (refine zbk rfl aD rfl ?_)) | (refine zbs ?_; first | (refine zbx rfl rfl aD ?_) | (refine zb8 rfl rfl aD ?_) | (refine zb7 rfl rfl ?_) | (refine zbh rfl rfl (fun h => ?_) (fun h => ?_) <;> (have h' := h; (try simp only [sx] at h')))) | (refine zbd ?_; first | (refine za9 aA rfl ?_) | (refine zbc aA rfl rfl ?_) | (refine zba aA rfl ?_) | (refine zbb aA (evO_ok rfl) ?_)) | (refine zas (hK _ _ (.inl rfl) ?_); clear hK K) | (refine zas (hK _ _ (.inr (by kernel_rfl)) ?_); clear hK K))
      | (refine za3 ?_; first | (refine zbp ?_) | (refine zaj (fun K hK => ?_)) | (refine zan ?_) | (refine za4 ?_) | (refine zbq ?_) | (refine za1 ?_) | (refine zbg ?_; first | (refine zam rfl aD ?_) | (refine zal rfl aD ?_) | (refine zaz rfl (fun h => ?_) (fun h => ?_) <;> (have h' := h; (try simp only [sx] at h')))))
      | (refine za2 ?_) | (refine zai ?_) | (refine zae ?_) | (refine zaq ?_) | (refine zar ?_) | (refine zao ?_) | (refine zap rfl ?_) | (refine zab ?_) | (refine zag ?_) | (refine zbr ?_))
    all_goals first
      | exact zcj rfl (zbn rfl) (sp_at hg hga h2 (fun c hcc => by have := get_lt hcc; omega)).symm
      | (exfalso; omega)
def dnF (sp : Int → Int) : Nat → Int → Int → Int
  | 0, t, _ => t
  | n + 1, t, w => if 0 < w then dnF sp n (t + 1) (w - sp t) else t
def dn (sp : Int → Int) (t w : Int) : Int := dnF sp w.toNat t w
section
variable {sp : Int → Int} (hsp : ∀ t, 0 ≤ t → 1 ≤ sp t)
include hsp
theorem dnF_any : ∀ (n m : Nat) (t w : Int), 0 ≤ t → w.toNat ≤ n → w.toNat ≤ m → dnF sp n t w = dnF sp m t w
  | 0, 0, _, _, _, _, _ => rfl
  | 0, m + 1, t, w, _, h1, _ => by rw [dnF, dnF, if_neg aO]
  | n + 1, 0, t, w, _, _, h2 => by rw [dnF, dnF, if_neg aO]
  | n + 1, m + 1, t, w, ht, h1, h2 => by
    rw [dnF, dnF]
    split
    · have := hsp t ht
      exact dnF_any n m (t + 1) (w - sp t) aO aO aO
    · rfl
theorem dn_pos {t w : Int} (ht : 0 ≤ t) (hw : 0 < w) : dn sp t w = dn sp (t + 1) (w - sp t) := by
  have := hsp t ht
  obtain ⟨n, hn⟩ : ∃ n, w.toNat = n + 1 := ⟨w.toNat - 1, by omega⟩
  rw [dn, hn, dnF, if_pos hw]
  exact dnF_any hsp n _ _ _ aO aO (Nat.le_refl _)
omit hsp in
theorem dn_zero {t w : Int} (hw : ¬ 0 < w) : dn sp t w = t := by
  rw [dn]
  cases hn : w.toNat with
  | zero => rfl
  | succ n => rw [dnF, if_neg hw]
theorem dn_ge : ∀ (n : Nat) (t w : Int), w.toNat = n → 0 ≤ t → t ≤ dn sp t w ∧ dn sp t w ≤ t + n ∧ (0 < w → t < dn sp t w) := by
  intro n
  induction n using Nat.strongRecOn with
  | _ n ih =>
    intro t w hn ht
    by_cases hw : 0 < w
    · have h1 := hsp t ht
      have := ih (w - sp t).toNat aO (t + 1) (w - sp t) rfl aO
      rw [dn_pos hsp ht hw]
      omega
    · rw [dn_zero hw]
      omega
theorem dn_mono_w : ∀ (n : Nat) (t w w' : Int), w'.toNat = n → 0 ≤ t → w ≤ w' → dn sp t w ≤ dn sp t w' := by
  intro n
  induction n using Nat.strongRecOn with
  | _ n ih =>
    intro t w w' hn ht hww
    by_cases hw : 0 < w
    · have h1 := hsp t ht
      rw [dn_pos hsp ht hw, dn_pos hsp ht (show 0 < w' by omega)]
      exact ih (w' - sp t).toNat aO (t + 1) (w - sp t) (w' - sp t) rfl aO aO
    · rw [dn_zero hw]
      exact (dn_ge hsp _ t w' rfl ht).1
theorem dn_mono_1 {t w : Int} (ht : 0 ≤ t) : dn sp t w ≤ dn sp (t + 1) w := by
  by_cases hw : 0 < w
  · have h1 := hsp t ht
    rw [dn_pos hsp ht hw]
    exact dn_mono_w hsp _ (t + 1) (w - sp t) w rfl aO aO
  · rw [dn_zero hw, dn_zero hw]; omega
theorem dn_mono {t t' w : Int} (ht : 0 ≤ t) (htt : t ≤ t') : dn sp t w ≤ dn sp t' w := by
  obtain ⟨k, hk⟩ : ∃ k : Nat, t' = t + k := ⟨(t' - t).toNat, by omega⟩
  subst hk
  clear htt
  induction k with
  | zero => simp
  | succ k ih =>
    have := dn_mono_1 hsp (t := t + k) (w := w) aO
    rw [show t + ((k + 1 : Nat) : Int) = t + k + 1 by omega]
    omega
end
theorem k_done (ps : List Phase) (t w : Int) (hg : GoodP ps) (ht : 0 ≤ t ∧ t ≤ 100000) (hw : 0 ≤ w ∧ w ≤ 1000) : Con Try.prog 72 [.list 2 (ps.map Phase.pv), .int .i64 t, .int .i64 w] (.int .i64 (dn (spF ps) t w)) := by
  intro al
  refine za8 hmix Try.func72 rfl (by kernel_rfl) (by kernel_rfl) (Nat.le_of_ble_eq_true rfl) (fun row h => by cases h) ?_
  have hty_u27 := ty_u27
  have hty_s27 := ty_s27
  have hlen := hg.2
  have hsp : ∀ t, 0 ≤ t → 1 ≤ spF ps t := fun t h => (sp_bounds hg h).1
  repeat' (first
      | (refine za5 ?_; first | (refine za6 ?_; refine zat _ rfl ?_) | (refine zad ?_; refine zaa _ rfl ?_) | (refine zbv ?_; first | (refine zby rfl rfl aO ?_) | (refine zck rfl rfl aO ?_) | (refine zbu _ rfl rfl rfl ?_) | (refine zaw _ rfl rfl rfl ?_)) | (refine zbd ?_; refine x_min rfl rfl ?_) | (refine zas (hK _ _ (.inl rfl) ?_); clear hK K) | (refine zas (hK _ _ (.inr (by kernel_rfl)) ?_); clear hK K))
      | (refine za3 ?_; first | (refine zbp ?_) | (refine zaj (fun K hK => ?_)) | (refine zan ?_) | (refine za4 ?_) | (refine zbq ?_) | (refine za1 ?_) | (refine zbg ?_; first | (refine zam rfl aD ?_) | (refine zal rfl aD ?_) | (refine zaz rfl (fun h => ?_) (fun h => ?_) <;> (have h' := h; (try simp only [sx] at h')))))
      | (refine za2 ?_) | (refine zai ?_) | (refine zae ?_) | (refine zaq ?_) | (refine zar ?_) | (refine zao ?_) | (refine zap rfl ?_) | (refine zab ?_) | (refine zag ?_) | (refine zbr ?_))
  refine zcd [0] [] (fun q : Int × Int => [(1, .int .i64 q.1), (2, .int .i64 q.2)]) (fun q : Int × Int => []) (fun q : Int × Int => dn (spF ps) q.1 q.2 = dn (spF ps) t w ∧ 0 ≤ q.1 ∧ -9 ≤ q.2 ∧ q.2 ≤ 1000 ∧ q.1 + q.2 ≤ 101000) (fun q : Int × Int => q.2.toNat) ((t, w)) rfl rfl (fun _ => rfl) (fun _ => rfl) rfl aW ⟨rfl, by simp only; omega, by simp only; omega, by simp only; omega, by simp only; omega⟩ (fun q hq => ?_)
  obtain ⟨x, y⟩ := q
  obtain ⟨h1, h2, h3, h4, h5⟩ := hq
  simp only at h1 h2 h3 h4 h5
  dsimp only
  by_cases hy : 0 < y
  · have hb := sp_bounds hg h2
    have hm := sp_min hg x
    have hd := dn_pos hsp h2 hy
    have kS := k_speedAt ps (min x 9999) aO
    rw [hm] at kS
    repeat' (first
      | (refine za5 ?_; first | (refine za6 ?_; refine zat _ rfl ?_) | (refine zad ?_; refine zaa _ rfl ?_) | (refine zbv ?_; first | (refine zby rfl rfl aO ?_) | (refine zck rfl rfl aO ?_) | (refine zbu _ rfl rfl rfl ?_) | (refine zaw _ rfl rfl rfl ?_)) | (refine zbd ?_; first | (refine za0 true (kS) rfl rfl rfl aS rfl aH ?_; simp only [cl]) | (refine x_min rfl rfl ?_)) | (refine zas (hK _ _ (.inl rfl) ?_); clear hK K) | (refine zas (hK _ _ (.inr (by kernel_rfl)) ?_); clear hK K))
      | (refine za3 ?_; first | (refine zbp ?_) | (refine zaj (fun K hK => ?_)) | (refine zan ?_) | (refine za4 ?_) | (refine zbq ?_) | (refine za1 ?_) | (refine zbg ?_; first | (refine zam rfl aD ?_) | (refine zal rfl aD ?_) | (refine zaz rfl (fun h => ?_) (fun h => ?_) <;> (have h' := h; (try simp only [sx] at h')))))
      | (refine za2 ?_) | (refine zai ?_) | (refine zae ?_) | (refine zaq ?_) | (refine zar ?_) | (refine zao ?_) | (refine zap rfl ?_) | (refine zab ?_) | (refine zag ?_) | (refine zbr ?_))
    refine zcb (x + 1, y - spF ps x) rfl aW ⟨by simp only; rw [← hd]; exact h1, by simp only; omega, by simp only; omega, by simp only; omega, by simp only; omega⟩ (by simp only; omega)
  · repeat' (first
      | (refine za5 ?_; first | (refine za6 ?_; refine zat _ rfl ?_) | (refine zad ?_; refine zaa _ rfl ?_) | (refine zbv ?_; first | (refine zby rfl rfl aO ?_) | (refine zck rfl rfl aO ?_) | (refine zbu _ rfl rfl rfl ?_) | (refine zaw _ rfl rfl rfl ?_)) | (refine zbd ?_; refine x_min rfl rfl ?_) | (refine zas (hK _ _ (.inl rfl) ?_); clear hK K) | (refine zas (hK _ _ (.inr (by kernel_rfl)) ?_); clear hK K))
      | (refine za3 ?_; first | (refine zbp ?_) | (refine zaj (fun K hK => ?_)) | (refine zan ?_) | (refine za4 ?_) | (refine zbq ?_) | (refine za1 ?_) | (refine zbg ?_; first | (refine zam rfl aD ?_) | (refine zal rfl aD ?_) | (refine zaz rfl (fun h => ?_) (fun h => ?_) <;> (have h' := h; (try simp only [sx] at h')))))
      | (refine za2 ?_) | (refine zai ?_) | (refine zae ?_) | (refine zaq ?_) | (refine zar ?_) | (refine zao ?_) | (refine zap rfl ?_) | (refine zab ?_) | (refine zag ?_) | (refine zbr ?_))
    exact zcj rfl (zbn rfl) (by rw [← h1, dn_zero hy])
theorem k_l4Done (ps : List Phase) (t w : Int) (hg : GoodP ps) (ht : 0 ≤ t ∧ t ≤ 100000) (hw : 0 ≤ w ∧ w ≤ 1000) : Con Try.prog 78 [.list 2 (ps.map Phase.pv), .int .i64 t, .int .i64 w] (.int .i64 (dn (spF ps) t w)) := by
  intro al
  refine za8 hmix Try.func78 rfl (by kernel_rfl) (by kernel_rfl) (Nat.le_of_ble_eq_true rfl) (fun row h => by cases h) ?_
  have hty_u27 := ty_u27
  have hty_s27 := ty_s27
  have hlen := hg.2
  have hsp : ∀ t, 0 ≤ t → 1 ≤ spF ps t := fun t h => (sp_bounds hg h).1
  repeat' (first
      | (refine za5 ?_; first | (refine za6 ?_; refine zat _ rfl ?_) | (refine zad ?_; refine zaa _ rfl ?_) | (refine zbv ?_; first | (refine zby rfl rfl aO ?_) | (refine zck rfl rfl aO ?_) | (refine zbu _ rfl rfl rfl ?_) | (refine zaw _ rfl rfl rfl ?_)) | (refine zas (hK _ _ (.inl rfl) ?_); clear hK K) | (refine zas (hK _ _ (.inr (by kernel_rfl)) ?_); clear hK K))
      | (refine za3 ?_; first | (refine zbp ?_) | (refine zaj (fun K hK => ?_)) | (refine zan ?_) | (refine za4 ?_) | (refine zbq ?_) | (refine za1 ?_) | (refine zbg ?_; first | (refine zam rfl aD ?_) | (refine zal rfl aD ?_) | (refine zaz rfl (fun h => ?_) (fun h => ?_) <;> (have h' := h; (try simp only [sx] at h')))))
      | (refine za2 ?_) | (refine zai ?_) | (refine zae ?_) | (refine zaq ?_) | (refine zar ?_) | (refine zao ?_) | (refine zap rfl ?_) | (refine zab ?_) | (refine zag ?_) | (refine zbr ?_))
  refine zcd [0] [] (fun q : Int × Int => [(1, .int .i64 q.1), (2, .int .i64 q.2)]) (fun q : Int × Int => []) (fun q : Int × Int => dn (spF ps) q.1 q.2 = dn (spF ps) t w ∧ 0 ≤ q.1 ∧ -9 ≤ q.2 ∧ q.2 ≤ 1000 ∧ q.1 + q.2 ≤ 101000) (fun q : Int × Int => q.2.toNat) ((t, w)) rfl rfl (fun _ => rfl) (fun _ => rfl) rfl aW ⟨rfl, by simp only; omega, by simp only; omega, by simp only; omega, by simp only; omega⟩ (fun q hq => ?_)
  obtain ⟨x, y⟩ := q
  obtain ⟨h1, h2, h3, h4, h5⟩ := hq
  simp only at h1 h2 h3 h4 h5
  dsimp only
  by_cases hy : 0 < y
  · have hb := sp_bounds hg h2
    have hd := dn_pos hsp h2 hy
    have kS := k_l4Speed ps x hg h2
    repeat' (first
      | (refine za5 ?_; first | (refine za6 ?_; refine zat _ rfl ?_) | (refine zad ?_; refine zaa _ rfl ?_) | (refine zbv ?_; first | (refine zby rfl rfl aO ?_) | (refine zck rfl rfl aO ?_) | (refine zbu _ rfl rfl rfl ?_) | (refine zaw _ rfl rfl rfl ?_)) | (refine zbd ?_; refine za0 true (kS) rfl rfl rfl aS rfl aH ?_; simp only [cl]) | (refine zas (hK _ _ (.inl rfl) ?_); clear hK K) | (refine zas (hK _ _ (.inr (by kernel_rfl)) ?_); clear hK K))
      | (refine za3 ?_; first | (refine zbp ?_) | (refine zaj (fun K hK => ?_)) | (refine zan ?_) | (refine za4 ?_) | (refine zbq ?_) | (refine za1 ?_) | (refine zbg ?_; first | (refine zam rfl aD ?_) | (refine zal rfl aD ?_) | (refine zaz rfl (fun h => ?_) (fun h => ?_) <;> (have h' := h; (try simp only [sx] at h')))))
      | (refine za2 ?_) | (refine zai ?_) | (refine zae ?_) | (refine zaq ?_) | (refine zar ?_) | (refine zao ?_) | (refine zap rfl ?_) | (refine zab ?_) | (refine zag ?_) | (refine zbr ?_))
    refine zcb (x + 1, y - spF ps x) rfl aW ⟨by simp only; rw [← hd]; exact h1, by simp only; omega, by simp only; omega, by simp only; omega, by simp only; omega⟩ (by simp only; omega)
  · repeat' (first
      | (refine za5 ?_; first | (refine za6 ?_; refine zat _ rfl ?_) | (refine zad ?_; refine zaa _ rfl ?_) | (refine zbv ?_; first | (refine zby rfl rfl aO ?_) | (refine zck rfl rfl aO ?_) | (refine zbu _ rfl rfl rfl ?_) | (refine zaw _ rfl rfl rfl ?_)) | (refine zas (hK _ _ (.inl rfl) ?_); clear hK K) | (refine zas (hK _ _ (.inr (by kernel_rfl)) ?_); clear hK K))
      | (refine za3 ?_; first | (refine zbp ?_) | (refine zaj (fun K hK => ?_)) | (refine zan ?_) | (refine za4 ?_) | (refine zbq ?_) | (refine za1 ?_) | (refine zbg ?_; first | (refine zam rfl aD ?_) | (refine zal rfl aD ?_) | (refine zaz rfl (fun h => ?_) (fun h => ?_) <;> (have h' := h; (try simp only [sx] at h')))))
      | (refine za2 ?_) | (refine zai ?_) | (refine zae ?_) | (refine zaq ?_) | (refine zar ?_) | (refine zao ?_) | (refine zap rfl ?_) | (refine zab ?_) | (refine zag ?_) | (refine zbr ?_))
    exact zcj rfl (zbn rfl) (by rw [← h1, dn_zero hy])
@[reducible] def wkF (t : Terrain) (a b : Int) : Int := (if colOf t a = colOf t b ∨ rowOf t a = rowOf t b then 2 else 3) * (burnAt t a + burnAt t b)
end Go.Vs
set_option linter.unusedVariables false
set_option linter.unusedSimpArgs false
set_option maxRecDepth 100000
set_option maxHeartbeats 4000000
namespace Go.Vs
open Go.Proofs
structure Blz where
  (t : Terrain)
  (ps : List Phase)
  (src : List Int)
  (st : Int)
def GoodB (b : Blz) : Prop := (GoodT b.t ∧ (∀ s ∈ b.src, IsCell b.t s) ∧ Rising b.src) ∧ GoodP b.ps ∧ 0 ≤ b.st ∧ b.st ≤ 1000
instance (b : Blz) : Decidable (GoodB b) := by unfold GoodB; infer_instance
def hop (b : Blz) (a c v : Int) : Int := dn (spF b.ps) v (wkF b.t a c)
def Edge (b : Blz) (a c : Int) : Prop := IsCell b.t a ∧ IsCell b.t c ∧ apart b.t a c = 1 ∧ 0 < burnAt b.t c
def Lit (b : Blz) (s : Int) : Prop := IsCell b.t s ∧ 0 < burnAt b.t s ∧ s ∈ b.src
inductive Rch (b : Blz) : Int → Int → Prop
  | lit {s : Int} : Lit b s → Rch b s b.st
  | hop {a c v : Int} : Rch b a v → Edge b a c → Rch b c (hop b a c v)
structure Pre (b : Blz) (T : List Int) : Prop where
  len : T.length = b.t.burn.length
  lit : ∀ s, Lit b s → tv T s ≠ -1 ∧ tv T s ≤ b.st
  att : ∀ c, IsCell b.t c → tv T c ≠ -1 → Rch b c (tv T c)
def Clsd (b : Blz) (T : List Int) (a : Int) : Prop := tv T a ≠ -1 → ∀ c, Edge b a c → tv T c ≠ -1 ∧ tv T c ≤ hop b a c (tv T a)
structure IsArr (b : Blz) (T : List Int) : Prop where
  pre : Pre b T
  clo : ∀ a, IsCell b.t a → Clsd b T a
section
variable {b : Blz}
theorem GoodB.sp (h : GoodB b) : ∀ t, 0 ≤ t → 1 ≤ spF b.ps t := fun t ht => (sp_bounds h.2.1 ht).1
theorem wk_bnd (h : GoodB b) {a c : Int} (ha : IsCell b.t a) (hc : IsCell b.t c) : 0 ≤ wkF b.t a c ∧ wkF b.t a c ≤ 120 ∧ (0 < burnAt b.t a → 4 ≤ wkF b.t a c ∨ burnAt b.t c = 0) := by
  have h1 := burn_bound h.1.1 ha
  have h2 := burn_bound h.1.1 hc
  simp only [wkF]
  split <;> omega
theorem rch_facts (h : GoodB b) {c v : Int} (hr : Rch b c v) : b.st ≤ v ∧ 0 < burnAt b.t c ∧ IsCell b.t c := by
  induction hr with
  | lit hs => exact ⟨Int.le_refl _, hs.2.1, hs.1⟩
  | @hop a c v hr he ih =>
    have hst := h.2.2
    have := dn_ge h.sp _ v (wkF b.t a c) rfl aO
    exact ⟨by unfold hop; omega, he.2.2.2, he.2.1⟩
theorem hop_bnd (h : GoodB b) {a c v : Int} (hv : 0 ≤ v) (he : Edge b a c) (ha : 0 < burnAt b.t a) : v < hop b a c v ∧ hop b a c v ≤ v + 120 := by
  have hw := wk_bnd h he.1 he.2.1
  have := dn_ge h.sp _ v (wkF b.t a c) rfl hv
  have hb := he.2.2.2
  unfold hop
  rcases hw.2.2 ha with h1 | h1 <;> omega
theorem hop_mono (h : GoodB b) {a c v v' : Int} (hv : 0 ≤ v) (hvv : v ≤ v') : hop b a c v ≤ hop b a c v' := dn_mono h.sp hv hvv
theorem arr_le (h : GoodB b) {T : List Int} (hT : IsArr b T) {c v : Int} (hr : Rch b c v) : tv T c ≠ -1 ∧ tv T c ≤ v := by
  have hst := h.2.2
  induction hr with
  | lit hs => exact hT.pre.lit _ hs
  | @hop a c v hr he ih =>
    have h1 := hT.clo a he.1 ih.1 c he
    have h2 := rch_facts h (hT.pre.att a he.1 ih.1)
    have := hop_mono h (a := a) (c := c) (show 0 ≤ tv T a by omega) ih.2
    exact ⟨h1.1, by omega⟩
theorem arr_unique (h : GoodB b) {T T' : List Int} (hT : IsArr b T) (hT' : IsArr b T') : T = T' := by
  have key : ∀ {T T' : List Int}, IsArr b T → IsArr b T' → ∀ c, IsCell b.t c → tv T c ≠ -1 → tv T' c ≠ -1 ∧ tv T' c ≤ tv T c := fun h1 h2 c hc hne => arr_le h h2 (h1.pre.att c hc hne)
  refine List.ext_getElem? fun j => ?_
  by_cases hj : j < b.t.burn.length
  · have hc : IsCell b.t (j : Int) := ⟨by omega, by omega⟩
    have e1 := tv_at (T := T) (c := (j : Int)) (by rw [Int.toNat_natCast, hT.pre.len]; exact hj)
    have e2 := tv_at (T := T') (c := (j : Int)) (by rw [Int.toNat_natCast, hT'.pre.len]; exact hj)
    rw [Int.toNat_natCast] at e1 e2
    rw [e1, e2]
    congr 1
    by_cases h1 : tv T j = -1
    · by_cases h2 : tv T' j = -1
      · rw [h1, h2]
      · exact absurd h1 (key hT' hT j hc h2).1
    · have g1 := key hT hT' j hc h1
      have g2 := key hT' hT j hc g1.1
      omega
  · rw [List.getElem?_eq_none (by rw [hT.pre.len]; omega), List.getElem?_eq_none (by rw [hT'.pre.len]; omega)]
end
noncomputable def arr (b : Blz) : List Int := Classical.epsilon fun T => IsArr b T
theorem arr_is {b : Blz} {T : List Int} (h : IsArr b T) : IsArr b (arr b) := Classical.epsilon_spec (p := fun T => IsArr b T) ⟨T, h⟩
theorem arr_eq {b : Blz} (hb : GoodB b) {T : List Int} (h : IsArr b T) : T = arr b := arr_unique hb h (arr_is h)
@[reducible] def gfin (v : Int) : Int := if v = -1 then 0 else 1
@[reducible] def gval (v : Int) : Int := if v = -1 then 9000 else v
def cntF (T : List Int) : Int := sumBy gfin T
def valF (T : List Int) : Int := sumBy gval T
theorem cntF_bnd (T : List Int) : 0 ≤ cntF T ∧ cntF T ≤ T.length := by
  have := sumBy_bound gfin 1 T fun y _ => by simp only [gfin]; split <;> omega
  unfold cntF; omega
structure Mid (b : Blz) (T : List Int) : Prop where
  pre : Pre b T
  bnd : ∀ c, IsCell b.t c → tv T c ≤ b.st + 120 * cntF T
section
variable {b : Blz} {T : List Int}
theorem Mid.le (h : Mid b T) (hb : GoodB b) {c : Int} (hc : IsCell b.t c) : tv T c ≤ 4000 := by
  have h1 := h.bnd c hc
  have h2 := (cntF_bnd T).2
  have h3 := goodT_len hb.1.1
  have h4 := h.pre.len
  have h5 := hb.2.2
  omega
theorem Mid.ge (h : Mid b T) (hb : GoodB b) {c : Int} (hc : IsCell b.t c) (hne : tv T c ≠ -1) : 0 ≤ tv T c ∧ 0 < burnAt b.t c := by
  have h1 := rch_facts hb (h.pre.att c hc hne)
  have h5 := hb.2.2
  exact ⟨by omega, h1.2.1⟩
theorem cell_inT {c : Int} (h : T.length = b.t.burn.length) (hc : IsCell b.t c) : c.toNat < T.length := by
  have := hc; unfold IsCell at this; omega
theorem Mid.val (h : Mid b T) (hb : GoodB b) : 0 ≤ valF T := by
  have h5 := hb.2.2
  unfold valF
  have := sumBy_take_le gval T (fun y hy => by
    obtain ⟨i, hi⟩ := List.getElem?_of_mem hy
    have hlt := get_lt hi
    have hlen := h.pre.len
    have hc : IsCell b.t (i : Int) := ⟨by omega, by omega⟩
    have e := tv_at (T := T) (c := (i : Int)) (by rw [Int.toNat_natCast]; exact hlt)
    rw [Int.toNat_natCast, hi] at e
    injection e with e
    simp only [gval]
    split
    · omega
    · rename_i hne
      rw [e] at hne ⊢
      exact (h.ge hb hc hne).1) T.length
  rw [List.take_length] at this
  omega
theorem Mid.relax (h : Mid b T) (hb : GoodB b) {a c : Int} (he : Edge b a c) (ha : tv T a ≠ -1) (hx : tv T c = -1 ∨ hop b a c (tv T a) < tv T c) :
    Mid b (T.set c.toNat (hop b a c (tv T a))) ∧ valF (T.set c.toNat (hop b a c (tv T a))) < valF T := by
  have g1 := h.ge hb he.1 ha
  have g2 := hop_bnd hb g1.1 he g1.2
  have g3 := h.le hb he.1
  have hcl := cell_inT h.pre.len he.2.1
  have hst := hb.2.2
  have hat := tv_at hcl
  have hcnt : cntF (T.set c.toNat (hop b a c (tv T a))) = cntF T - gfin (tv T c) + 1 := by
    rw [cntF, sumBy_set gfin _ hat, cntF]
    simp only [gfin]
    rw [if_neg (show ¬ hop b a c (tv T a) = -1 by omega)]
  have hset := tv_set (hop b a c (tv T a)) hcl
  have hcell : ∀ y, IsCell b.t y → (y.toNat = c.toNat ↔ y = c) := fun y hy => by
    have h1 := hy.1
    have h2 := he.2.1.1
    omega
  refine ⟨⟨⟨by rw [List.length_set]; exact h.pre.len, fun s hs => ?_, fun y hy hne => ?_⟩, fun y hy => ?_⟩, ?_⟩
  · rw [hset]
    have hl := h.pre.lit s hs
    split
    · rename_i e
      have := (hcell s hs.1).1 e
      subst this
      rcases hx with hx | hx
      · exact absurd hx hl.1
      · omega
    · exact hl
  · rw [hset] at hne ⊢
    split
    · rename_i e
      have := (hcell y hy).1 e
      subst this
      exact .hop (h.pre.att a he.1 ha) he
    · rename_i e
      rw [if_neg e] at hne
      exact h.pre.att y hy hne
  · rw [hset, hcnt]
    have hbc := h.bnd c he.2.1
    have hba := h.bnd a he.1
    have hby := h.bnd y hy
    simp only [gfin]
    split
    · split
      · omega
      · rename_i hne
        rcases hx with hx | hx
        · exact absurd hx hne
        · omega
    · split <;> omega
  · rw [valF, sumBy_set gval _ hat, valF]
    simp only [gval]
    rw [if_neg (show ¬ hop b a c (tv T a) = -1 by omega)]
    split
    · omega
    · rename_i hne
      rcases hx with hx | hx
      · exact absurd hx hne
      · omega
@[reducible] def iniV (b : Blz) (i : Nat) : Int := if 0 < burnAt b.t i ∧ (i : Int) ∈ b.src then b.st else -1
def iniL (b : Blz) : List Int := (List.range b.t.burn.length).map (iniV b)
theorem iniL_len (b : Blz) : (iniL b).length = b.t.burn.length := by simp [iniL]
theorem ini_tv {c : Int} (hc : IsCell b.t c) : tv (iniL b) c = if 0 < burnAt b.t c ∧ c ∈ b.src then b.st else -1 := by
  have h1 := hc; unfold IsCell at h1
  have e : ((c.toNat : Nat) : Int) = c := by omega
  have h2 : c.toNat < b.t.burn.length := by omega
  unfold tv iniL
  rw [List.getD_eq_getElem?_getD, List.getElem?_map, List.getElem?_range h2]
  simp only [Option.map_some, Option.getD_some, iniV, e]
theorem ini_mid (hb : GoodB b) : Mid b (iniL b) := by
  have hst := hb.2.2
  refine ⟨⟨iniL_len b, fun s hs => ?_, fun c hc hne => ?_⟩, fun c hc => ?_⟩
  · rw [ini_tv hs.1, if_pos ⟨hs.2.1, hs.2.2⟩]; omega
  · rw [ini_tv hc] at hne ⊢
    split
    · rename_i h; exact .lit ⟨hc, h.1, h.2⟩
    · rename_i h; rw [if_neg h] at hne; exact absurd rfl hne
  · have := cntF_bnd (iniL b)
    rw [ini_tv hc]
    split <;> omega
end
end Go.Vs
