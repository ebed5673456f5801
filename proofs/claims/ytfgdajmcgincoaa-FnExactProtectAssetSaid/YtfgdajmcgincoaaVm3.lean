/- RISK: the chance that an asset burns, the loss in a scene, the expected loss, the worst scene, the chance of a loss. -/
import Derived.Test.YtfgdajmcgincoaaVau
import Derived.Test.YtfgdajmcgincoaaVm2
set_option linter.unusedVariables false
set_option linter.unusedSimpArgs false
set_option maxRecDepth 100000
set_option maxHeartbeats 4000000
set_option pp.deepTerms false
set_option pp.deepTerms.threshold 4
set_option format.width 220
namespace Go.Vs
open Go.Proofs
attribute [local irreducible] exec vwp thenQ blkQ loopQ RetPost

/-- What the functions of this chapter are called with. -/
structure Sz (xs : List Asset) (ys : List Scene) : Prop where
  (hn : xs.length ≤ 1099511627776) (hs : ∀ a ∈ xs, a.name.size ≤ 1099511627776) (hm : ys.length ≤ 1099511627776) (hb : ∀ s ∈ ys, s.burned.length ≤ 1099511627776)
theorem ask_s {xs : List Asset} {ys : List Scene} (z : Sz xs ys) : Con Try.prog 29 [.list 4 (xs.map Asset.pv), .list 2 (ys.map Scene.pv)] (.bool (decide (AskA xs ys))) := k_l24Asked xs ys z.hn z.hs z.hm z.hb
theorem ask_i {xs : List Asset} {ys : List Scene} (z : Sz xs ys) : Con Try.prog 33 [.list 4 (xs.map Asset.pv), .list 2 (ys.map Scene.pv)] (.bool (decide (AskA xs ys))) := k_iAreScenes xs ys z.hn z.hs z.hm z.hb
theorem ask_st {xs : List Asset} {ys : List Scene} (z : Sz xs ys) (h : AskA xs ys) : Con Try.prog 29 [.list 4 (xs.map Asset.pv), .list 2 (ys.map Scene.pv)] (.bool true) := by have := ask_s z; rwa [decide_eq_true h] at this
theorem ask_it {xs : List Asset} {ys : List Scene} (z : Sz xs ys) (h : AskA xs ys) : Con Try.prog 33 [.list 4 (xs.map Asset.pv), .list 2 (ys.map Scene.pv)] (.bool true) := by have := ask_i z; rwa [decide_eq_true h] at this
theorem ask_sf {xs : List Asset} {ys : List Scene} (z : Sz xs ys) (h : ¬ AskA xs ys) : Con Try.prog 29 [.list 4 (xs.map Asset.pv), .list 2 (ys.map Scene.pv)] (.bool false) := by have := ask_s z; rwa [decide_eq_false h] at this
theorem ask_if {xs : List Asset} {ys : List Scene} (z : Sz xs ys) (h : ¬ AskA xs ys) : Con Try.prog 33 [.list 4 (xs.map Asset.pv), .list 2 (ys.map Scene.pv)] (.bool false) := by have := ask_i z; rwa [decide_eq_false h] at this

@[reducible] def fr1 (b : Bool) (p q : Int) : Int := if b = true then p / Int.gcd p q else 0
@[reducible] def fr2 (b : Bool) (p q : Int) : Int := if b = true then q / Int.gcd p q else 0
/- The chance that an asset burns. -/
def ChOk (xs : List Asset) (ys : List Scene) (n : Int) : Prop := AskA xs ys ∧ 0 ≤ fndA xs n
instance (xs : List Asset) (ys : List Scene) (n : Int) : Decidable (ChOk xs ys n) := by unfold ChOk; infer_instance
/- The loss in a scene. -/
def SlOk (xs : List Asset) (s : Scene) : Prop := GoodA xs ∧ SceneS xs s
instance (xs : List Asset) (s : Scene) : Decidable (SlOk xs s) := by unfold SlOk; infer_instance
/- The expected loss. -/
@[reducible] def expA (xs : List Asset) (s : Scene) : Int := s.weight * lossOf xs s
theorem exp_one {xs : List Asset} {ys : List Scene} (h : AskA xs ys) : ∀ s ∈ ys, 0 ≤ expA xs s ∧ expA xs s ≤ 1000000000 := fun s hs => by
  have h1 := h.wt.1 s hs
  have h2 := loss_all h.2.1 s
  have := mul_bnd (p := s.weight) (q := lossOf xs s) (A := 100) (B := 10000000) aO aO h2.1 h2.2
  simp only [expA]
  omega
theorem exp_bnd {xs : List Asset} {ys : List Scene} (h : AskA xs ys) (i : Nat) : 0 ≤ sumBy (expA xs) (ys.take i) ∧ sumBy (expA xs) (ys.take i) ≤ 12000000000 :=
  sum_bnd (expA xs) 1000000000 12000000000 (exp_one h) (by have := h.2.2.2; omega) i
theorem exp_all {xs : List Asset} {ys : List Scene} (h : AskA xs ys) : 0 ≤ sumBy (expA xs) ys ∧ sumBy (expA xs) ys ≤ 12000000000 := by
  have := exp_bnd h ys.length
  rwa [List.take_length] at this
@[reducible] def elRes (xs : List Asset) (ys : List Scene) : PV := .tuple [.int .i64 (fr1 (decide (AskA xs ys)) (sumBy (expA xs) ys) (100 * sumBy wt ys)), .int .i64 (fr2 (decide (AskA xs ys)) (sumBy (expA xs) ys) (100 * sumBy wt ys)), .bool (decide (AskA xs ys))]
/- The worst scene. -/
def s0 : Scene := ⟨0, []⟩
theorem getS {ys : List Scene} {i : Nat} {a : Scene} (h : ys[i]? = some a) : ys.getD i s0 = a := by simp [List.getD_eq_getElem?_getD, h]
@[reducible] def lossAt (xs : List Asset) (ys : List Scene) (i : Nat) : Int := lossOf xs (ys.getD i s0)
@[reducible] def wsRes (xs : List Asset) (ys : List Scene) : PV := .tuple [.int .i64 (if decide (AskA xs ys) = true then (amax (lossAt xs ys) ys.length : Nat) else 0), .bool (decide (AskA xs ys))]
/- The chance of a loss. -/
def LlOk (xs : List Asset) (ys : List Scene) (n : Int) : Prop := AskA xs ys ∧ 0 ≤ n ∧ n ≤ 100000
instance (xs : List Asset) (ys : List Scene) (n : Int) : Decidable (LlOk xs ys n) := by unfold LlOk; infer_instance
@[reducible] def isLoss (xs : List Asset) (n : Int) (s : Scene) : Bool := decide (lossOf xs s ≥ 100 * n)
@[reducible] def llRes (xs : List Asset) (ys : List Scene) (n : Int) : PV := .tuple [.int .i64 (fr1 (decide (LlOk xs ys n)) (sumBy (wIf (isLoss xs n)) ys) (sumBy wt ys)), .int .i64 (fr2 (decide (LlOk xs ys n)) (sumBy (wIf (isLoss xs n)) ys) (sumBy wt ys)), .bool (decide (LlOk xs ys n))]
end Go.Vs
