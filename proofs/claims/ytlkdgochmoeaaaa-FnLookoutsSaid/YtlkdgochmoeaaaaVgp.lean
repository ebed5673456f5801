/- HEIGHTS: plain laws of sights and of lookouts. -/
import Derived.Test.YtlkdgochmoeaaaaVau
import Derived.Test.YtlkdgochmoeaaaaVg9
import Derived.Test.YtlkdgochmoeaaaaVg10
set_option linter.unusedVariables false
set_option linter.unusedSimpArgs false
set_option maxRecDepth 100000
set_option maxHeartbeats 4000000
namespace Go.Vs
open Go.Proofs

theorem sees_up {hh : Heights} {a b t : Int} (h : seesM hh a b t = true) : seesM hh a b (t + 1) = true := by
  unfold seesM at *
  rw [List.all_eq_true] at *
  intro j hj
  have h1 := h j hj
  rw [List.mem_range] at hj
  rw [decide_eq_true_eq] at *
  have e : (mAt hh a + (t + 1)) * ((nn hh a b : Int) - ((j : Int) + 1)) = (mAt hh a + t) * ((nn hh a b : Int) - ((j : Int) + 1)) + ((nn hh a b : Int) - ((j : Int) + 1)) := by
    rw [show mAt hh a + (t + 1) = (mAt hh a + t) + 1 by omega, Int.add_mul, Int.one_mul]
  rw [e]
  omega
theorem does_up {hh : Heights} {a b t : Int} (h1 : decide (DOk hh a b t) = true) (h2 : decide (DOk hh a b (t + 1)) = true) (h3 : doesSee hh a b t = true) : doesSee hh a b (t + 1) = true := by
  unfold doesSee at *
  rw [h1, Bool.true_and] at h3
  rw [h2, Bool.true_and]
  exact sees_up h3
theorem between_none {hh : Heights} {a b t : Int} (hp : Pair hh a b) (h : (btL hh a b).length = 0) : seesM hh a b t = true := by
  unfold seesM
  rw [List.all_eq_true]
  intro j hj
  rw [List.mem_range] at hj
  exfalso
  have hc := cell_ok hp.1 hp.2.1 hp.2.2 (k := (j : Int) + 1) aO aO aO
  have hm : cellK hh a b ((j : Int) + 1) ∈ cells hh a b := get_mem (cells_at hj)
  have hin : cellK hh a b ((j : Int) + 1) ∈ btL hh a b := by
    rw [btL, if_pos hp, cellsL_mem]
    refine ⟨(cellK hh a b ((j : Int) + 1)).toNat, ?_, ?_, ?_⟩
    · have := hc.1; have := hc.2; omega
    · rw [btP, decide_eq_true_eq, Int.toNat_of_nonneg hc.1]; exact hm
    · rw [Int.toNat_of_nonneg hc.1]
  rw [List.length_eq_zero_iff.1 h] at hin
  cases hin
theorem btw_law {hh : Heights} {a b t : Int} (h1 : decide (DOk hh a b t) = true) : decide (Pair hh a b) = true ∧ ((btL hh a b).length = 0 → doesSee hh a b t = true) := by
  have h2 := of_decide_eq_true h1
  have hp : Pair hh a b := ⟨h2.1, h2.2.1, h2.2.2.1⟩
  refine ⟨decide_eq_true hp, fun h => ?_⟩
  rw [doesSee, h1, Bool.true_and]
  exact between_none hp h
theorem idx_before {α : Type} {p : α → Bool} {xs : List α} {i : Nat} (h : idx p xs = (i : Int)) {j : Nat} (hj : j < i) {c : α} (hc : xs[j]? = some c) : p c = false := by
  unfold idx at h
  cases hf : xs.findIdx? p with
  | none => rw [hf] at h; simp only at h; omega
  | some k =>
    rw [hf] at h
    simp only at h
    have hk : k = i := by omega
    subst hk
    rw [List.findIdx?_eq_some_iff_getElem] at hf
    obtain ⟨h1, h2, h3⟩ := hf
    have h4 := h3 j hj
    have hjl := get_lt hc
    rw [List.getElem?_eq_getElem hjl] at hc
    injection hc with hc
    rw [hc] at h4
    simpa using h4
theorem lt_law (hh : Heights) (a b : Int) : ∃ (v : Int) (o : Bool), ltRes (decide (Pair hh a b)) hh a b = .tuple [.int .i64 v, .bool o] ∧ (0 ≤ v ∧ v ≤ 50) ∧ (o = true → doesSee hh a b v = true ∧ decide (DOk hh a b v) = true ∧ (decide (DOk hh a b (v - 1)) && doesSee hh a b (v - 1)) = false) := by
  have hr := idx_range (seeT hh a b) (List.range 51)
  have hl : (List.range 51).length = 51 := List.length_range ..
  rw [hl] at hr
  have hr2 : -1 ≤ lowI hh a b ∧ lowI hh a b < 51 := hr
  refine ⟨_, _, rfl, ?_, fun h => ?_⟩
  · split <;> omega
  · rw [Bool.and_eq_true] at h
    obtain ⟨h1, h2⟩ := h
    have hp := of_decide_eq_true h1
    have h2 := of_decide_eq_true h2
    rw [if_pos h1, show max (lowI hh a b) 0 = lowI hh a b by omega]
    obtain ⟨i, c, e1, e2, e3⟩ := idx_at h2
    have hi := get_lt e2
    rw [hl] at hi
    rw [range51 hi] at e2
    injection e2 with e2
    subst e2
    have e1 : lowI hh a b = (i : Int) := e1
    rw [e1]
    have hd : DOk hh a b i := ⟨hp.1, hp.2.1, hp.2.2, by omega, by omega⟩
    refine ⟨by rw [doesSee, decide_eq_true hd, Bool.true_and]; exact e3, decide_eq_true hd, ?_⟩
    cases i with
    | zero =>
      have hn : ¬ DOk hh a b (((0 : Nat) : Int) - 1) := fun h => by have := h.2.2.2.1; omega
      rw [decide_eq_false hn]
      rfl
    | succ i =>
      have hf := idx_before (p := seeT hh a b) e1 (j := i) aO (range51 aO)
      have e4 : (((i + 1 : Nat) : Int) - 1) = (i : Int) := by omega
      rw [e4, doesSee]
      have hf : seesM hh a b (i : Int) = false := hf
      rw [hf, Bool.and_false, Bool.and_false]
/- Lookouts. -/
theorem split_len (q : Nat → Bool) : ∀ n : Nat, (cellsL n fun c => !q c).length + (cellsL n q).length = n := by
  intro n
  induction n with
  | zero => simp [cellsL]
  | succ n ih =>
    rw [cellsL_succ, cellsL_succ]
    cases q n <;> simp <;> omega
theorem hid_one (hh : Heights) (a t : Int) (c : Nat) : hidP hh [a] t c = !seesM hh a c t := by simp [hidP]
theorem seen_split (hh : Heights) (a t : Int) : (seenL hh a t).length + (cellsL hh.metres.length (hidP hh [a] t)).length = hh.metres.length := by
  have := split_len (hidP hh [a] t) hh.metres.length
  rw [seenL, cellsL_congr (q := fun c => !hidP hh [a] t c) fun i _ => by rw [hid_one, Bool.not_not]]
  exact this
theorem seesM_self (hh : Heights) (a t : Int) : seesM hh a a t = true := by
  unfold seesM
  have : nn hh a a = 0 := by simp [nn, xd, yd]
  rw [this]
  rfl
theorem seen_self {hh : Heights} {a t : Int} (ha : CellOk hh a) : a ∈ seenL hh a t := by
  rw [seenL, cellsL_mem]
  refine ⟨a.toNat, by have := ha.1; have := ha.2; omega, ?_, (Int.toNat_of_nonneg ha.1).symm⟩
  rw [seenP, Int.toNat_of_nonneg ha.1]
  exact seesM_self hh a t
theorem seen_apart {hh : Heights} {a t x : Int} (h : x ∈ seenL hh a t) : x ∉ cellsL hh.metres.length (hidP hh [a] t) := fun h2 => by
  rw [seenL, cellsL_mem] at h
  rw [cellsL_mem] at h2
  obtain ⟨i, _, h1, rfl⟩ := h
  obtain ⟨j, _, h3, e⟩ := h2
  have : i = j := by omega
  subst this
  rw [hid_one] at h3
  rw [seenP] at h1
  rw [h1] at h3
  cases h3
theorem ub_one {hh : Heights} {a t : Int} (h : SfOk hh a t) : UbOk hh [a] t := ⟨h.1, fun c hc => by simp at hc; subst hc; exact h.2.1, rising_of_pair (by simp), h.2.2⟩
theorem amax_geH (f : Nat → Int) : ∀ (n i : Nat), i < n → f i ≤ f (amax f n) := by
  intro n
  induction n with
  | zero => intro i h; omega
  | succ n ih =>
    intro i h
    rcases Nat.lt_or_ge i n with h1 | h1
    · have := ih i h1
      rw [amax]
      split <;> omega
    · have : i = n := by omega
      subst this
      rw [amax]
      split <;> omega
theorem best_ok {hh : Heights} {t : Int} (h : BlOk hh t) : SfOk hh (amax (cnt hh t) hh.metres.length : Nat) t := by
  have := amax_lt (cnt hh t) hh.metres.length (goodH_pos h.1).1
  exact ⟨h.1, ⟨by omega, by omega⟩, h.2⟩
theorem fsome_at {α : Type} {f : Nat → Option α} {x : α} : ∀ {c i : Nat}, fsome f i c = some x → ∃ j, i ≤ j ∧ j < i + c ∧ f j = some x
  | 0, i, h => by cases h
  | c + 1, i, h => by
    cases hf : f i with
    | none =>
      rw [fsome_none hf] at h
      obtain ⟨j, h1, h2, h3⟩ := fsome_at h
      exact ⟨j, by omega, by omega, h3⟩
    | some y =>
      rw [fsome_some hf] at h
      cases h
      exact ⟨i, by omega, by omega, hf⟩
theorem fsome_not {α : Type} {f : Nat → Option α} : ∀ {c i : Nat}, fsome f i c = none → ∀ j, i ≤ j → j < i + c → f j = none
  | 0, i, _, j, h1, h2 => by omega
  | c + 1, i, h, j, h1, h2 => by
    cases hf : f i with
    | none =>
      rw [fsome_none hf] at h
      rcases Nat.lt_or_ge i j with h3 | h3
      · exact fsome_not h j aO aO
      · have : j = i := by omega
        rw [this]; exact hf
    | some y => rw [fsome_some hf] at h; cases h
theorem few_ok {hh : Heights} {t : Int} : ∀ (k : Nat) (set : List Int) (fr : Nat) {L : List Int}, few hh t k set fr = some L → allSeen hh t L = true ∧ ∃ tail : List Int, L = set ++ tail ∧ (∀ x ∈ tail, (fr : Int) ≤ x ∧ x < hh.metres.length) ∧ tail.Pairwise (· < ·)
  | 0, set, fr, L, h => by
    unfold few at h
    split at h
    · cases h
      rename_i hs
      exact ⟨hs, [], by simp, by simp, by simp⟩
    · cases h
  | k + 1, set, fr, L, h => by
    unfold few at h
    obtain ⟨j, h1, h2, h3⟩ := fsome_at h
    obtain ⟨h4, tail, h5, h6, h7⟩ := few_ok k _ _ h3
    refine ⟨h4, (j : Int) :: tail, by rw [h5]; simp, fun x hx => ?_, ?_⟩
    · rcases List.mem_cons.1 hx with rfl | hx
      · omega
      · have := h6 x hx; omega
    · rw [List.pairwise_cons]
      exact ⟨fun x hx => by have := h6 x hx; omega, h7⟩
theorem all_one {hh : Heights} {t : Int} {a : Nat} : allSeen hh t [(a : Int)] = true ↔ cnt hh t a = hh.metres.length := by
  have := seen_split hh a t
  unfold allSeen cnt
  rw [decide_eq_true_eq]
  constructor
  · intro h
    rw [h] at this
    simp at this
    omega
  · intro h
    exact List.length_eq_zero_iff.1 aO
theorem fw_law {hh : Heights} {t : Int} {L : List Int} (h : fwO hh t = some L) : UbOk hh L t ∧ ubL hh L t = [] ∧ (L.length = 1 ↔ cnt hh t (amax (cnt hh t) hh.metres.length) = hh.metres.length) := by
  unfold fwO at h
  split at h
  case isFalse => cases h
  rename_i hb
  have h0 := h
  unfold fewest at h
  obtain ⟨s, h1, h2, h3⟩ := fsome_at h
  obtain ⟨h4, tail, h5, h6, h7⟩ := few_ok s [] 0 h3
  have h5 : L = tail := by simpa using h5
  rw [← h5] at h6 h7
  have hub : UbOk hh L t := ⟨hb.1, fun c hc => by have := h6 c hc; exact ⟨by omega, this.2⟩, rising_of_pair h7, hb.2⟩
  refine ⟨hub, ?_, ?_⟩
  · rw [ubL, if_pos hub]
    exact of_decide_eq_true h4
  · have hlen := few_len s [] 0 h3
    simp only [List.length_nil, Nat.zero_add] at hlen
    constructor
    · intro hl
      obtain ⟨a, e⟩ : ∃ a, L = [a] := by
        match L, hl with
        | [a], _ => exact ⟨a, rfl⟩
      subst e
      have ha := h6 a (by simp)
      have e : ((a.toNat : Nat) : Int) = a := Int.toNat_of_nonneg aO
      have hc := (all_one (a := a.toNat)).1 (by rw [e]; exact h4)
      have hge := amax_geH (cnt hh t) hh.metres.length a.toNat aO
      have hle := seen_split hh ((amax (cnt hh t) hh.metres.length : Nat) : Int) t
      have hcd : cnt hh t (amax (cnt hh t) hh.metres.length) = (seenL hh ((amax (cnt hh t) hh.metres.length : Nat) : Int) t).length := rfl
      omega
    · intro hc
      have hlt := amax_lt (cnt hh t) hh.metres.length (goodH_pos hb.1).1
      have hall := all_one.2 hc
      cases hf : few hh t 1 [] 0 with
      | none =>
        exfalso
        unfold few at hf
        have := fsome_not hf (amax (cnt hh t) hh.metres.length) aO aO
        simp only [few, List.nil_append] at this
        rw [if_pos hall] at this
        cases this
      | some M =>
        unfold fewest at h0
        rw [fsome_some (f := fun s => few hh t s [] 0) hf] at h0
        cases h0
        have := few_len 1 [] 0 hf
        simpa using this
end Go.Vs
