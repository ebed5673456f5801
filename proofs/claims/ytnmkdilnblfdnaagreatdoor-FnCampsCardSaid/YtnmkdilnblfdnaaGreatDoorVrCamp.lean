/- RECORD Camp: what a law asks of lists of it. -/
import Derived.Test.YtnmkdilnblfdnaaGreatDoorVau
import Derived.Test.YtnmkdilnblfdnaaGreatDoorVe1
set_option linter.unusedVariables false
set_option linter.unusedSimpArgs false
set_option maxRecDepth 100000
set_option maxHeartbeats 4000000
namespace Go.Vs
open Go.Proofs
attribute [local irreducible] exec vwp thenQ blkQ loopQ RetPost

structure Camp where
  (id : Int)
  (people : Int)
  (stock : Int)
  deriving DecidableEq
@[reducible] def Camp.pv (c : Camp) : List PV := [.int .i64 c.id, .int .i64 c.people, .int .i64 c.stock]
theorem Camp.at {xs : List Camp} {i : Nat} {a : Camp} (h : xs[i]? = some a) : (xs.map Camp.pv)[i]? = some [.int .i64 a.id, .int .i64 a.people, .int .i64 a.stock] := by simp [h]
theorem Camp.flat (xs : List Camp) : ∀ e ∈ xs.map Camp.pv, ∀ c ∈ e, c.flat = true := by
  intro e he c hc
  obtain ⟨a, _, rfl⟩ := List.mem_map.1 he
  simp only [Camp.pv, List.mem_cons, List.not_mem_nil, or_false] at hc
  rcases hc with rfl | rfl | rfl <;> rfl
def markCamp (k : Int) (n : Nat) : List Camp := (List.range n).map fun i : Nat => ⟨k + 3 * (i : Int), k + 3 * (i : Int) + 1, k + 3 * (i : Int) + 2⟩
theorem markCamp_len (k : Int) (n : Nat) : (markCamp k n).length = n := by simp [markCamp]
theorem markCamp_at {k : Int} {n i : Nat} (h : i < n) : (markCamp k n)[i]? = some ⟨k + 3 * i, k + 3 * i + 1, k + 3 * i + 2⟩ := by simp [markCamp, h]
end Go.Vs
