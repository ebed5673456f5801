/- CAMPS: plain laws of shared rations and of the truck that is needed. -/
import Derived.Test.YtegkgkafiffgkaaVau
import Derived.Test.YtegkgkafiffgkaaVk5
import Derived.Test.YtegkgkafiffgkaaVk7
import Derived.Test.YtegkgkafiffgkaaVrr
import Derived.Test.YtegkgkafiffgkaaVd2
set_option linter.unusedVariables false
set_option linter.unusedSimpArgs false
set_option maxRecDepth 100000
set_option maxHeartbeats 4000000
namespace Go.Vs
open Go.Proofs

theorem idx_beforeC {α : Type} {p : α → Bool} {xs : List α} {i : Nat} (h : idx p xs = (i : Int)) {j : Nat} (hj : j < i) {c : α} (hc : xs[j]? = some c) : p c = false := by
  unfold idx at h
  cases hf : xs.findIdx? p with
  | none => rw [hf] at h; simp only at h; omega
  | some k =>
    rw [hf] at h
    simp only at h
    have hk : k = i := by omega
    subst hk
    rw [List.findIdx?_eq_some_iff_getElem] at hf
    obtain ⟨h1, h2, h3⟩ := hf
    have h4 := h3 j hj
    have hjl := get_lt hc
    rw [List.getElem?_eq_getElem hjl] at hc
    injection hc with hc
    rw [hc] at h4
    simpa using h4
/- Shared rations. -/
theorem need_zeroP {xs : List Camp} (hg : Good xs) : need xs 0 = 0 := by
  unfold need
  have : sumBy (lack 0) xs = sumBy (fun _ => 0) xs := sumBy_congr fun c hc => by
    have := (good_all hg c hc).2.2
    unfold lack
    rw [Int.zero_mul]
    omega
  rw [this]
  have h0 : ∀ l : List Camp, sumBy (fun _ : Camp => (0 : Int)) l = 0 := fun l => by induction l with
    | nil => rfl
    | cons a l ih => rw [sumBy_cons, ih]; rfl
  exact h0 xs
theorem shDays_ok {xs : List Camp} {r : Int} (h : ShOk xs r) : ∃ d : Nat, shDays xs r = (d : Int) ∧ d ≤ 15000 ∧ need xs d ≤ r ∧ r < need xs ((d : Int) + 1) := by
  obtain ⟨hg, hs, h0, h1⟩ := h
  have hs := some_iff.1 hs
  have hlast : dayP xs r 15000 = true := by
    have := need_low hg hs (d := ((15000 : Nat) : Int) + 1) aO aO
    simp only [dayP, decide_eq_true_eq]
    omega
  have hpos : 0 ≤ shDays xs r := by
    have : decide (0 ≤ shDays xs r) = true := by
      unfold shDays
      rw [idx_any]
      exact List.any_eq_true.2 ⟨15000, by simp, hlast⟩
    exact of_decide_eq_true this
  obtain ⟨i, c, e1, e2, e3⟩ := idx_at hpos
  have hi := get_lt e2
  rw [List.length_range] at hi
  rw [List.getElem?_range hi] at e2
  injection e2 with e2
  subst e2
  have e1 : shDays xs r = (i : Int) := e1
  refine ⟨i, e1, by omega, ?_, by simpa [dayP] using e3⟩
  cases i with
  | zero => rw [show (((0 : Nat) : Int)) = 0 from rfl, need_zeroP hg]; exact h0
  | succ i =>
    have hf := idx_beforeC (p := dayP xs r) e1 (j := i) aO (List.getElem?_range aO)
    have hf : ¬ r < need xs ((i : Int) + 1) := by simpa [dayP] using hf
    rw [show (((i + 1 : Nat)) : Int) = (i : Int) + 1 by omega]
    omega
@[reducible] def gapD (d : Int) (c : Camp) : Int := lack (d + 1) c - lack d c
theorem sh_rest {xs : List Camp} {d r : Int} (hg : Good xs) (h : need xs d ≤ r) : ∀ i, i ≤ xs.length → (shStep xs d r i).2 = max 0 (r - need xs d - sumBy (gapD d) (xs.take i))
  | 0, _ => by simp only [shStep, List.take_zero, sumBy]; simp; omega
  | i + 1, hi => by
    have ih := sh_rest hg h i aO
    obtain ⟨a, ha⟩ := get_ex (show i < xs.length by omega)
    have hm := (lack_mono (good_all hg a (get_mem ha)) d).1
    have hs := sumBy_take_succ (gapD d) ha
    have hgd : gapD d a = lack (d + 1) a - lack d a := rfl
    simp only [shStep, getD_of ha]
    omega
theorem sh_sum {xs : List Camp} {d r : Int} (hg : Good xs) (h : need xs d ≤ r) : ∀ i, i ≤ xs.length → sumBy idI (shStep xs d r i).1 + (shStep xs d r i).2 = r ∧ ((0 ≤ d ∧ d ≤ 20000) → ∀ v ∈ (shStep xs d r i).1, 0 ≤ v)
  | 0, _ => by
    simp only [shStep]
    have e : ∀ l : List Camp, sumBy idI (l.map (lack d)) = sumBy (lack d) l := fun l => by induction l with
      | nil => rfl
      | cons a l ih => rw [List.map_cons, sumBy_cons, sumBy_cons, ih]
    rw [e]
    refine ⟨by unfold need; omega, fun hd v hv => ?_⟩
    obtain ⟨c, hc, rfl⟩ := List.mem_map.1 hv
    exact (lack_bound (good_all hg c hc) hd.1 hd.2).1
  | i + 1, hi => by
    obtain ⟨h1, h2⟩ := sh_sum hg h i aO
    obtain ⟨a, ha⟩ := get_ex (show i < xs.length by omega)
    have hat := shStep_at (d := d) (r := r) ha i (Nat.le_refl _)
    have hr := (shStep_rest hg h i aO).1
    have hm := (lack_mono (good_all hg a (get_mem ha)) d).1
    simp only [shStep, getD_of ha]
    refine ⟨?_, fun hd v hv => ?_⟩
    · rw [sumBy_set idI _ hat]
      simp only [idI]
      omega
    · rcases List.mem_or_eq_of_mem_set hv with hv | rfl
      · exact h2 hd v hv
      · have := (lack_bound (good_all hg a (get_mem ha)) hd.1 hd.2).1
        omega
theorem sh_law {xs : List Camp} {r : Int} : (∀ v ∈ shares xs r, 0 ≤ v) ∧ (ShOk xs r → sumBy idI (shares xs r) = r) := by
  by_cases h : ShOk xs r
  · obtain ⟨d, e1, e2, e3, e4⟩ := shDays_ok h
    have hg := h.1
    rw [shares, if_pos h, e1]
    obtain ⟨h1, h2⟩ := sh_sum hg e3 xs.length (Nat.le_refl _)
    have h3 := sh_rest hg e3 xs.length (Nat.le_refl _)
    rw [List.take_length] at h3
    have h4 : sumBy (gapD d) xs = need xs ((d : Int) + 1) - need xs d := by
      unfold need gapD
      have : ∀ l : List Camp, sumBy (fun c => lack ((d : Int) + 1) c - lack d c) l = sumBy (lack ((d : Int) + 1)) l - sumBy (lack d) l := fun l => by
        induction l with
        | nil => simp [sumBy]
        | cons a l ih => rw [sumBy_cons, sumBy_cons, sumBy_cons, ih]; omega
      exact this xs
    exact ⟨h2 ⟨by omega, by omega⟩, fun _ => by omega⟩
  · rw [shares, if_neg h]
    exact ⟨fun v hv => (by cases hv), fun h2 => absurd h2 h⟩
/- The truck that is needed. -/
theorem need_law {xs : List Camp} {ts : List Truck} {k : Int} (h : NOk xs ts k) (hl : ts.length < 12) : LOk xs ts k ∧ lastsOf xs ts k = needDay xs ts k ∧
    LOk xs (ts ++ [⟨k, needDay xs ts k, needLoad xs ts k⟩]) k ∧ lastsOf xs (ts ++ [⟨k, needDay xs ts k, needLoad xs ts k⟩]) k = 14 ∧
    (LOk xs (ts ++ [⟨k, needDay xs ts k, needLoad xs ts k - 1⟩]) k → lastsOf xs (ts ++ [⟨k, needDay xs ts k, needLoad xs ts k - 1⟩]) k ≠ 14) ∧ (0 ≤ needDay xs ts k ∧ needDay xs ts k ≤ 13) ∧ (1 ≤ needLoad xs ts k ∧ needLoad xs ts k ≤ 2000) := by
  obtain ⟨h1, h2, h3⟩ := h
  have hn : NOk xs ts k := ⟨h1, h2, h3⟩
  obtain ⟨i, c, e1, e2, e3⟩ := idx_at h3
  have hi := get_lt e2
  rw [List.length_range] at hi
  rw [List.getElem?_range hi] at e2
  injection e2 with e2
  subst e2
  have e1 : loadI (campOf xs k) ts k = (i : Int) := e1
  have hle := lst_le (campOf xs k) ts
  rw [lastsOf, if_pos h1, needDay, needLoad, if_pos hn, if_pos hn, e1]
  have hfair : ∀ l : Int, (1 ≤ l ∧ l ≤ 2000) → LOk xs (ts ++ [⟨k, lst (campOf xs k) ts, l⟩]) k := fun l hlb => by
    refine ⟨⟨fun t ht => ?_, h1.1.2.1, by simp; omega⟩, h1.2⟩
    rcases List.mem_append.1 ht with ht | ht
    · exact h1.1.1 t ht
    · rw [List.mem_singleton.1 ht]
      exact ⟨h1.2, by simp only; omega, hlb⟩
  refine ⟨h1, rfl, hfair _ aO, ?_, fun hk => ?_, by omega, by omega⟩
  · rw [lastsOf, if_pos (hfair _ aO)]
    have : loadP (campOf xs k) ts k i = true := e3
    unfold loadP at this
    have := beq_iff_eq.1 this
    omega
  · rw [lastsOf, if_pos hk]
    have hload := (hk.1.1 ⟨k, lst (campOf xs k) ts, (i : Int) + 1 - 1⟩ (by simp)).2.2
    simp only at hload
    cases i with
    | zero => omega
    | succ j =>
      have hf := idx_beforeC (p := loadP (campOf xs k) ts k) e1 (j := j) aO (List.getElem?_range aO)
      unfold loadP at hf
      have hf := beq_eq_false_iff_ne.1 hf
      rw [show (((j + 1 : Nat) : Int) + 1 - 1) = (j : Int) + 1 by omega]
      omega
end Go.Vs
