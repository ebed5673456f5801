/- LISTS OF NUMBERS: is a number in a list, is a list rising; greatest common divisors, fractions. -/
import Derived.Test.YtnmkdilnblfdnaaGreatDoorVau
import Derived.Test.YtnmkdilnblfdnaaGreatDoorVsC
import Derived.Test.YtnmkdilnblfdnaaGreatDoorVhInt
import Derived.Laws.Strings
set_option linter.unusedVariables false
set_option linter.unusedSimpArgs false
set_option maxRecDepth 100000
set_option maxHeartbeats 4000000
namespace Go.Vs
open Go.Proofs
attribute [local irreducible] exec vwp thenQ blkQ loopQ RetPost

theorem str_iff (a b : ByteArray) : (a.toList = b.toList) = (a = b) := by
  rw [ByteArray.toList_eq, ByteArray.toList_eq]
  refine propext ⟨fun h => ?_, fun h => by rw [h]⟩
  cases a; cases b
  simp only [ByteArray.mk.injEq]
  exact Array.ext' h
theorem not_mem_of {xs : List Int} {n : Int} (h : ∀ y ∈ xs, y ≠ n) : n ∉ xs := fun hm => h n hm rfl
/-- The first i numbers rise. -/
def Up (l : List Int) (i : Nat) : Prop := ∀ j, j < i - 1 → l.getD j 0 < l.getD (j + 1) 0
def Rising (l : List Int) : Prop := Up l l.length
instance (l : List Int) (i : Nat) : Decidable (Up l i) := by unfold Up; infer_instance
instance (l : List Int) : Decidable (Rising l) := by unfold Rising; infer_instance
theorem getI {l : List Int} {i : Nat} {a : Int} (h : l[i]? = some a) : l.getD i 0 = a := by simp [List.getD_eq_getElem?_getD, h]
theorem up_step {l : List Int} {i : Nat} {a b : Int} (h : Up l i) (ha : l[i - 1]? = some a) (hb : l[i]? = some b) (hab : a < b) : Up l (i + 1) := fun j hj => by
  by_cases he : j + 1 = i
  · rw [he, getI hb, show j = i - 1 by omega, getI ha]; exact hab
  · exact h j aO
theorem not_rising {l : List Int} {i : Nat} {a b : Int} (h0 : 0 < i) (ha : l[i - 1]? = some a) (hb : l[i]? = some b) (hab : b ≤ a) : ¬ Rising l := fun h => by
  have := h (i - 1) (by have := get_lt hb; omega)
  rw [getI ha, show i - 1 + 1 = i by omega, getI hb] at this
  omega
theorem Rising.pair {l : List Int} (h : Rising l) : l.Pairwise (· < ·) := pair_of_adj (r := fun a b : Int => a < b) (fun a b c h1 h2 => Int.lt_trans h1 h2) l fun j a b ha hb => by
  have := h j (by have := get_lt hb; omega)
  rw [getI ha, getI hb] at this
  exact this
theorem rising_of_pair {l : List Int} (h : l.Pairwise (· < ·)) : Rising l := fun j hj => by
  rw [List.pairwise_iff_getElem] at h
  have := h j (j + 1) aO aO aO
  rw [getI (List.getElem?_eq_getElem aO), getI (List.getElem?_eq_getElem (show j + 1 < l.length by omega))]
  exact this
theorem mul_bnd {p q A B : Int} (h0 : 0 ≤ p) (h1 : p ≤ A) (h2 : 0 ≤ q) (h3 : q ≤ B) : 0 ≤ p * q ∧ p * q ≤ A * B := ⟨Int.mul_nonneg h0 h2, Int.mul_le_mul h1 h3 h2 aO⟩
theorem sum_bnd {α : Type} (f : α → Int) (B C : Int) {l : List α} (h : ∀ y ∈ l, 0 ≤ f y ∧ f y ≤ B) (hC : B * (l.length : Int) ≤ C) (i : Nat) : 0 ≤ sumBy f (l.take i) ∧ sumBy f (l.take i) ≤ C := by
  have h1 := sumBy_take_le f l (fun y hy => (h y hy).1) i
  have h2 := sumBy_bound f B l h
  omega
/-- The first place with the greatest value. -/
def amax (f : Nat → Int) : Nat → Nat
  | 0 => 0
  | n + 1 => if f n > f (amax f n) then n else amax f n
theorem amax_lt (f : Nat → Int) : ∀ n, 0 < n → amax f n < n
  | 0, h => by omega
  | 1, _ => by unfold amax; unfold amax; split <;> omega
  | n + 2, _ => by
    have := amax_lt f (n + 1) aO
    rw [amax]
    split <;> omega
theorem amax_one (f : Nat → Int) : amax f 1 = 0 := by unfold amax; unfold amax; split <;> rfl
/- Greatest common divisors. -/
theorem gcd_step (a b : Int) : Int.gcd b (a.tmod b) = Int.gcd a b := by
  simp only [Int.gcd, Int.natAbs_tmod]
  rw [Nat.gcd_comm b.natAbs, ← Nat.gcd_rec, Nat.gcd_comm]
theorem gcd_emod {a b : Int} (ha : 0 ≤ a) (hb : 0 < b) : Int.gcd b (a % b) = Int.gcd a b := by
  have h := gcd_step a b
  rwa [Int.tmod_eq_emod_of_nonneg ha] at h
theorem gcd_pos {a b : Int} (hb : 1 ≤ b) : 1 ≤ (Int.gcd a b : Int) := by
  have : Int.gcd a b ≠ 0 := fun h => by
    have := (Int.gcd_eq_zero_iff.1 h).2
    omega
  omega
end Go.Vs
