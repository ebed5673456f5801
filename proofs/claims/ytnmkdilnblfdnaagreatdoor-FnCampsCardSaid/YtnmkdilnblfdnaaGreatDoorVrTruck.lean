/- RECORD Truck: what a law asks of lists of it. -/
import Derived.Test.YtnmkdilnblfdnaaGreatDoorVau
import Derived.Test.YtnmkdilnblfdnaaGreatDoorVe1
set_option linter.unusedVariables false
set_option linter.unusedSimpArgs false
set_option maxRecDepth 100000
set_option maxHeartbeats 4000000
namespace Go.Vs
open Go.Proofs
attribute [local irreducible] exec vwp thenQ blkQ loopQ RetPost

structure Truck where
  (camp : Int)
  (day : Int)
  (load : Int)
  deriving DecidableEq
@[reducible] def Truck.pv (c : Truck) : List PV := [.int .i64 c.camp, .int .i64 c.day, .int .i64 c.load]
theorem Truck.at {xs : List Truck} {i : Nat} {a : Truck} (h : xs[i]? = some a) : (xs.map Truck.pv)[i]? = some [.int .i64 a.camp, .int .i64 a.day, .int .i64 a.load] := by simp [h]
theorem Truck.flat (xs : List Truck) : ∀ e ∈ xs.map Truck.pv, ∀ c ∈ e, c.flat = true := by
  intro e he c hc
  obtain ⟨a, _, rfl⟩ := List.mem_map.1 he
  simp only [Truck.pv, List.mem_cons, List.not_mem_nil, or_false] at hc
  rcases hc with rfl | rfl | rfl <;> rfl
def markTruck (k : Int) (n : Nat) : List Truck := (List.range n).map fun i : Nat => ⟨k + 3 * (i : Int), k + 3 * (i : Int) + 1, k + 3 * (i : Int) + 2⟩
theorem markTruck_len (k : Int) (n : Nat) : (markTruck k n).length = n := by simp [markTruck]
theorem markTruck_at {k : Int} {n i : Nat} (h : i < n) : (markTruck k n)[i]? = some ⟨k + 3 * i, k + 3 * i + 1, k + 3 * i + 2⟩ := by simp [markTruck, h]
end Go.Vs
