/- HEIGHTS: the cells between two cells. -/
import Derived.Test.YtlkdgochmoeaaaaVau
import Derived.Test.YtlkdgochmoeaaaaVg2
set_option linter.unusedVariables false
set_option linter.unusedSimpArgs false
set_option maxRecDepth 100000
set_option maxHeartbeats 4000000
namespace Go.Vs
open Go.Proofs
attribute [local irreducible] exec vwp thenQ blkQ loopQ RetPost

@[reducible] def xd (hh : Heights) (a b : Int) : Int := b % hh.terrain.width - a % hh.terrain.width
@[reducible] def yd (hh : Heights) (a b : Int) : Int := b / hh.terrain.width - a / hh.terrain.width
@[reducible] def nn (hh : Heights) (a b : Int) : Nat := Int.gcd (xd hh a b) (yd hh a b)
@[reducible] def sp (hh : Heights) (a b : Int) : Int := (yd hh a b).tdiv (nn hh a b) * hh.terrain.width + (xd hh a b).tdiv (nn hh a b)
def CellOk (hh : Heights) (c : Int) : Prop := 0 ≤ c ∧ c < hh.metres.length
instance (hh : Heights) (c : Int) : Decidable (CellOk hh c) := by unfold CellOk; infer_instance
theorem goodH_area {hh : Heights} (hg : GoodH hh) : (hh.metres.length : Int) = hh.terrain.width * hh.terrain.height := by rw [hg.2.1]; exact hg.1.2.1
theorem place {hh : Heights} (hg : GoodH hh) {c : Int} (hc : CellOk hh c) : (0 ≤ c % hh.terrain.width ∧ c % hh.terrain.width < hh.terrain.width) ∧ (0 ≤ c / hh.terrain.width ∧ c / hh.terrain.width < hh.terrain.height) ∧
    c / hh.terrain.width * hh.terrain.width + c % hh.terrain.width = c := by
  have hw := hg.1.1.1
  have ha := goodH_area hg
  refine ⟨⟨Int.emod_nonneg _ aO, Int.emod_lt_of_pos _ aO⟩, ⟨Int.ediv_nonneg hc.1 aO, Int.ediv_lt_of_lt_mul aO ?_⟩, ?_⟩
  · rw [Int.mul_comm]; have := hc.2; omega
  · rw [Int.emod_def, Int.mul_comm]; omega
theorem diffs {hh : Heights} (hg : GoodH hh) {a b : Int} (ha : CellOk hh a) (hb : CellOk hh b) : (-4 ≤ xd hh a b ∧ xd hh a b ≤ 4) ∧ (-4 ≤ yd hh a b ∧ yd hh a b ≤ 4) := by
  have h1 := place hg ha
  have h2 := place hg hb
  have hd := hg.1.1
  unfold Dims at hd
  unfold xd yd
  omega
theorem nn_le {hh : Heights} (hg : GoodH hh) {a b : Int} (ha : CellOk hh a) (hb : CellOk hh b) : nn hh a b ≤ 4 := by
  have h := diffs hg ha hb
  by_cases hx : xd hh a b = 0
  · by_cases hy : yd hh a b = 0
    · have : nn hh a b = 0 := by rw [nn, hx, hy]; rfl
      omega
    · have : nn hh a b ≤ (yd hh a b).natAbs := Nat.le_of_dvd aO (Int.ofNat_dvd_left.1 (Int.gcd_dvd_right (xd hh a b) (yd hh a b)))
      omega
  · have : nn hh a b ≤ (xd hh a b).natAbs := Nat.le_of_dvd aO (Int.ofNat_dvd_left.1 (Int.gcd_dvd_left (xd hh a b) (yd hh a b)))
    omega
theorem x_exact (hh : Heights) (a b : Int) : (xd hh a b).tdiv (nn hh a b) * (nn hh a b) = xd hh a b := Int.tdiv_mul_cancel (Int.gcd_dvd_left _ _)
theorem y_exact (hh : Heights) (a b : Int) : (yd hh a b).tdiv (nn hh a b) * (nn hh a b) = yd hh a b := Int.tdiv_mul_cancel (Int.gcd_dvd_right _ _)
theorem mid {n k d x : Int} (hx : d * n = x) (hn : 0 < n) (h0 : 0 ≤ k) (h1 : k ≤ n) : (0 ≤ x → 0 ≤ d * k ∧ d * k ≤ x) ∧ (x ≤ 0 → x ≤ d * k ∧ d * k ≤ 0) := by
  constructor
  · intro hp
    have hd : 0 ≤ d := Int.not_lt.1 fun h => by
      have : d * n < 0 := Int.mul_neg_of_neg_of_pos h hn
      omega
    exact ⟨Int.mul_nonneg hd h0, by rw [← hx]; exact Int.mul_le_mul_of_nonneg_left h1 hd⟩
  · intro hp
    have hd : d ≤ 0 := Int.not_lt.1 fun h => by
      have : 0 < d * n := Int.mul_pos h hn
      omega
    refine ⟨?_, Int.mul_nonpos_of_nonpos_of_nonneg hd h0⟩
    have := Int.mul_le_mul_of_nonpos_left hd h1
    rw [← hx]; exact this
/-- The k-th cell on the line. -/
@[reducible] def cellK (hh : Heights) (a b : Int) (k : Int) : Int := a + k * sp hh a b
theorem cell_form {hh : Heights} (hg : GoodH hh) {a : Int} (ha : CellOk hh a) (b k : Int) :
    (a / hh.terrain.width + (yd hh a b).tdiv (nn hh a b) * k) * hh.terrain.width + a % hh.terrain.width + (xd hh a b).tdiv (nn hh a b) * k = cellK hh a b k := by
  have h := (place hg ha).2.2
  have e : k * ((yd hh a b).tdiv (nn hh a b) * hh.terrain.width + (xd hh a b).tdiv (nn hh a b)) = (yd hh a b).tdiv (nn hh a b) * k * hh.terrain.width + (xd hh a b).tdiv (nn hh a b) * k := by
    rw [Int.mul_add, Int.mul_comm k ((xd hh a b).tdiv (nn hh a b)), ← Int.mul_assoc, Int.mul_comm k]
  rw [cellK, sp, e, Int.add_mul]
  omega
theorem cell_ok {hh : Heights} (hg : GoodH hh) {a b : Int} (ha : CellOk hh a) (hb : CellOk hh b) {k : Int} (h0 : 0 ≤ k) (h1 : k ≤ nn hh a b) (hn : 0 < nn hh a b) : CellOk hh (cellK hh a b k) := by
  rw [← cell_form hg ha b k]
  have p1 := place hg ha
  have p2 := place hg hb
  have m1 := mid (x_exact hh a b) aO h0 h1
  have m2 := mid (y_exact hh a b) aO h0 h1
  have har := goodH_area hg
  have hw := hg.1.1.1
  generalize hq : (xd hh a b).tdiv (nn hh a b) * k = q at *
  generalize hr : (yd hh a b).tdiv (nn hh a b) * k = r at *
  have hc : 0 ≤ a % hh.terrain.width + q ∧ a % hh.terrain.width + q < hh.terrain.width := by
    rcases Int.le_total 0 (xd hh a b) with h | h
    · have := m1.1 h; unfold xd at *; omega
    · have := m1.2 h; unfold xd at *; omega
  have hrw : 0 ≤ a / hh.terrain.width + r ∧ a / hh.terrain.width + r < hh.terrain.height := by
    rcases Int.le_total 0 (yd hh a b) with h | h
    · have := m2.1 h; unfold yd at *; omega
    · have := m2.2 h; unfold yd at *; omega
  have h3 : 0 ≤ (a / hh.terrain.width + r) * hh.terrain.width := Int.mul_nonneg hrw.1 aO
  have h4 : (a / hh.terrain.width + r + 1) * hh.terrain.width ≤ hh.terrain.height * hh.terrain.width := Int.mul_le_mul_of_nonneg_right aO aO
  rw [Int.add_mul, Int.one_mul] at h4
  rw [Int.mul_comm] at har
  unfold CellOk
  omega
end Go.Vs
