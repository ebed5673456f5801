/- RISK: plain laws: fractions in lowest terms, the expected loss asset by asset, the worst scene. -/
import Derived.Test.YtfgdajmcgincoaaVau
import Derived.Test.YtfgdajmcgincoaaVm3
set_option linter.unusedVariables false
set_option linter.unusedSimpArgs false
set_option maxRecDepth 100000
set_option maxHeartbeats 4000000
set_option pp.deepTerms false
set_option pp.deepTerms.threshold 4
set_option format.width 220
namespace Go.Vs
open Go.Proofs

@[reducible] def strs (l : List ByteArray) : List (List PV) := l.map fun s => [PV.str s]
theorem strs_at {l : List ByteArray} {i : Nat} {s : ByteArray} (h : l[i]? = some s) : (strs l)[i]? = some [PV.str s] := by simp [strs, h]
theorem frac {p q : Int} (hq : 1 ≤ q) : (1 : Int) ≤ (Int.gcd p q : Int) ∧ p / (Int.gcd p q : Int) * (Int.gcd p q : Int) = p ∧ q / (Int.gcd p q : Int) * (Int.gcd p q : Int) = q ∧ 1 ≤ q / (Int.gcd p q : Int) := by
  have hg : 0 < Int.gcd p q := Nat.pos_of_ne_zero fun h => by
    have := (Int.gcd_eq_zero_iff.1 h).2
    omega
  have h1 := Int.ediv_mul_cancel (Int.gcd_dvd_left p q)
  have h2 := Int.ediv_mul_cancel (Int.gcd_dvd_right p q)
  refine ⟨by omega, h1, h2, ?_⟩
  have h3 : 0 < q / (Int.gcd p q : Int) * (Int.gcd p q : Int) := by rw [h2]; omega
  have : 0 < q / (Int.gcd p q : Int) := by
    rcases Int.lt_or_le 0 (q / (Int.gcd p q : Int)) with h | h
    · exact h
    · have := Int.mul_nonpos_of_nonpos_of_nonneg h (show (0 : Int) ≤ (Int.gcd p q : Int) by omega)
      omega
  omega
/-- Of a chance in lowest terms, the weight again. -/
theorem frac_back {p q : Int} (hq : 1 ≤ q) : q % (q / (Int.gcd p q : Int)) = 0 ∧ q / (q / (Int.gcd p q : Int)) = (Int.gcd p q : Int) ∧ p / (Int.gcd p q : Int) * (q / (q / (Int.gcd p q : Int))) = p := by
  obtain ⟨h1, h2, h3, h4⟩ := frac (p := p) hq
  generalize (Int.gcd p q : Int) = g at *
  generalize hy : q / g = y at *
  have e : q / y = g := by rw [← h3, Int.mul_ediv_cancel_left _ aO]
  refine ⟨?_, e, by rw [e]; exact h2⟩
  rw [← h3]
  exact Int.mul_emod_right y g
theorem mul_sumBy {α : Type} (k : Int) (f : α → Int) (l : List α) : k * sumBy f l = sumBy (fun a => k * f a) l := by
  induction l with
  | nil => simp [sumBy]
  | cons a l ih => rw [sumBy_cons, sumBy_cons, Int.mul_add, ih]
theorem sumBy_add {α : Type} (f g : α → Int) (l : List α) : sumBy f l + sumBy g l = sumBy (fun a => f a + g a) l := by
  induction l with
  | nil => rfl
  | cons a l ih => rw [sumBy_cons, sumBy_cons, sumBy_cons, ← ih]; omega
@[reducible] def partA (ys : List Scene) (a : Asset) : Int := sumBy (wIf (bIn a.id)) ys * a.worth * a.loss
theorem part_bnd {xs : List Asset} {ys : List Scene} (hw : WtOk ys) (hg : GoodA xs) {a : Asset} (ha : a ∈ xs) : (0 ≤ sumBy (wIf (bIn a.id)) ys * a.worth ∧ sumBy (wIf (bIn a.id)) ys * a.worth ≤ 12000000) ∧ 0 ≤ partA ys a ∧ partA ys a ≤ 1200000000 := by
  have h1 := wIf_all hw (bIn a.id)
  have h2 := hg.one a ha
  unfold OneA at h2
  have h3 : 0 ≤ sumBy (wIf (bIn a.id)) ys * a.worth ∧ sumBy (wIf (bIn a.id)) ys * a.worth ≤ 1200 * 10000 := ⟨Int.mul_nonneg h1.1 h2.2.2.1.1, Int.mul_le_mul h1.2 h2.2.2.1.2 h2.2.2.1.1 aO⟩
  have h4 : 0 ≤ partA ys a ∧ partA ys a ≤ 12000000 * 100 := ⟨Int.mul_nonneg h3.1 h2.2.2.2.1, Int.mul_le_mul aO h2.2.2.2.2 h2.2.2.2.1 aO⟩
  omega
theorem part_bnds {xs : List Asset} {ys : List Scene} (hw : WtOk ys) (hg : GoodA xs) (i : Nat) : 0 ≤ sumBy (partA ys) (xs.take i) ∧ sumBy (partA ys) (xs.take i) ≤ 12000000000 :=
  sum_bnd (partA ys) 1200000000 12000000000 (fun a h => (part_bnd hw hg h).2) (by have := hg.2; omega) i
theorem exch (xs : List Asset) : ∀ ys : List Scene, sumBy (expA xs) ys = sumBy (partA ys) xs
  | [] => by
    have : ∀ l : List Asset, sumBy (partA []) l = 0 := fun l => by
      induction l with
      | nil => rfl
      | cons a l ih => rw [sumBy_cons, ih]; simp [partA, sumBy]
    rw [this]
    rfl
  | s :: ys => by
    rw [sumBy_cons, exch xs ys]
    have e1 : expA xs s = sumBy (fun a => s.weight * lossA s a) xs := by
      unfold expA lossOf
      exact mul_sumBy _ _ _
    rw [e1, sumBy_add]
    refine sumBy_congr fun a _ => ?_
    unfold partA lossA
    rw [sumBy_cons]
    unfold wIf bIn
    by_cases h : a.id ∈ s.burned
    · simp only [h, if_true, decide_true]
      simp only [Int.add_mul, Int.mul_assoc]
    · simp only [h, if_false, decide_false, Bool.false_eq_true, Int.mul_zero, Int.zero_add]
/-- Two fractions in lowest terms of one denominator compare as their numerators. -/
theorem frac_le {a b d : Int} (hd : 1 ≤ d) (h0 : 0 ≤ a) (h : a ≤ b) : a / (Int.gcd a d : Int) * (d / (Int.gcd b d : Int)) ≤ b / (Int.gcd b d : Int) * (d / (Int.gcd a d : Int)) := by
  obtain ⟨h1, h2, h3, h4⟩ := frac (p := a) hd
  obtain ⟨k1, k2, k3, k4⟩ := frac (p := b) hd
  generalize (Int.gcd a d : Int) = g at *
  generalize (Int.gcd b d : Int) = k at *
  generalize a / g = x at *
  generalize d / g = y at *
  generalize b / k = u at *
  generalize d / k = v at *
  -- x g = a, y g = d, u k = b, v k = d: x v (g k) = a d, u y (g k) = b d
  have e1 : x * v * (g * k) = a * d := by rw [← h2, ← k3]; simp only [Int.mul_assoc, Int.mul_comm, Int.mul_left_comm]
  have e2 : u * y * (g * k) = b * d := by rw [← k2, ← h3]; simp only [Int.mul_assoc, Int.mul_comm, Int.mul_left_comm]
  have hle : a * d ≤ b * d := Int.mul_le_mul_of_nonneg_right h aO
  have hgk : 0 < g * k := Int.mul_pos aO aO
  rw [← e1, ← e2] at hle
  exact Int.le_of_mul_le_mul_right hle hgk
theorem amax_ge (f : Nat → Int) : ∀ (n i : Nat), i < n → f i ≤ f (amax f n) := by
  intro n
  induction n with
  | zero => intro i h; omega
  | succ n ih =>
    intro i h
    rcases Nat.lt_or_ge i n with h1 | h1
    · have := ih i h1
      rw [amax]
      split <;> omega
    · have : i = n := by omega
      subst this
      rw [amax]
      split <;> omega
end Go.Vs
