/- PROVED: the given statement FnExactAreCamps: whatever the argument, the law returns true and the argument reads as it did; no condition. -/
import Derived.Test.YtmlhmapibagmgaaVc5
import Derived.Test.YtmlhmapibagmgaaVs25
import Derived.WalkKit
import Derived.ProofKit
import Derived.OpenShut
import Derived.ShutString
import Derived.ChangeOld
set_option linter.unusedVariables false
namespace Go.Vs
theorem camps_of {rows : List (List Int)} (h : ∀ r ∈ rows, r.length = 3) : ∃ xs : List Camp, xs.map Camp.pv = rows.map (fun r => r.map (PV.int .i64)) ∧ xs.length = rows.length := by
  refine ⟨rows.map fun r => ⟨r.getD 0 0, r.getD 1 0, r.getD 2 0⟩, ?_, by simp⟩
  rw [List.map_map]
  refine List.map_congr_left fun r hr => ?_
  match r, h r hr with
  | [a, b, c], _ => rfl
end Go.Vs
namespace Go.Proofs.Ytmlhmapibagmgaa.AreCampsDone
open Go.ChangeShapes Go.WideShapes Go.ChangeAt Go.RowKit
open Go.Vs

theorem own : ownKnob Try.prog.godebug = none := by kernel_rfl
theorem laidOut : laidOutB Try.prog = true := by kernel_rfl

set_option maxRecDepth 100000 in
theorem lifted (os : Os) (started : os.Started) (H : Type) (enc : TypeId × Value → H) :
    ReturnsInHanded {} Try.checked os 3 .any (Rows.fnExactAreCampsSpec.pre6 enc Try.prog Try.f3 Rows.fnExactAreCampsRow.domain false) (Rows.fnExactAreCampsSpec.post enc Try.prog Try.f3 false true false false) := by
  refine returnsInHanded_of_change (C := Try.checked) own started (by kernel_rfl) Try.func3
    (ChangeSpec.witness6 (enc := enc) (C := Try.checked) false ⟨#[], #[.slice none 0 0], []⟩ 8 (by kernel_rfl) (by kernel_rfl) (by kernel_rfl) (by kernel_rfl)) ?_
  intro W base args ds gs before hval0 hW hcnd _
  have hval : ∀ (j : Nat) t v, Try.f3.params[j]? = some t → args[j]? = some v → Value.okWide Try.prog W .any base t v := hval0
  have hW' := hW
  obtain ⟨p, q, hA0, hV, rfl, hfz, hnd⟩ := hW
  have hA : DataW.TrodAll enc Try.prog W 0 (fun _ => true) true Try.f3.params.toList args.toList ds p := hA0
  rw [Try.params3] at hA hval
  obtain ⟨v0, vs0, d0, ds0, p0, q0, hargs, rfl, rfl, h0, r0⟩ := trodAll_cons hA
  obtain ⟨rfl, rfl, rfl⟩ := trodAll_nil r0
  obtain rfl : args = #[v0] := by cases args; simp_all
  obtain ⟨rfl, rfl⟩ := trodVars_none hV
  obtain ⟨a0, len0, cap0, rfl⟩ := okWide_slice Try.underlying22 (hval 0 22 v0 rfl rfl)
  have k0 := h0
  have lt0 : ∀ x ∈ p0, x.block < W.heap.size := by obtain ⟨m, hm⟩ := k0; exact DataW.trod_lt m _ _ _ hm
  obtain ⟨rows, hlen, hrow, hrep⟩ : ∃ rows : List (List Int), rows.length ≤ Go.maxLen ∧ (∀ r ∈ rows, r.length = 3 ∧ ∀ n ∈ r, -9223372036854775808 ≤ n ∧ n ≤ 9223372036854775807) ∧
      ∀ ρ, Rep ρ W (fun b => b < W.heap.size) noMem (.slice a0 len0 cap0) (.list 3 (rows.map fun r => r.map (PV.int .i64))) := by
    obtain ⟨fuel, hf⟩ := h0
    exact open_int_rows Try.underlying22 Try.underlying65 (intFields_ok (by kernel_rfl)) (by kernel_rfl) (by decide) (by simpa [Value.cells] using hf)
  clear hA0 hval0
  obtain ⟨xs, hxs, hxl⟩ := camps_of fun r hr => (hrow r hr).1
  have hcomp : Comps (fun _ => none) W (fun b => b < W.heap.size) noMem #[.slice a0 len0 cap0] [.list 3 (xs.map Camp.pv)] := by
    refine ⟨rfl, fun j u hu => ?_⟩
    match j, hu with
    | 0, hu =>
      simp only [List.getElem?_cons_zero, Option.some.injEq] at hu
      subst hu
      exact ⟨_, rfl, by rw [hxs]; exact hrep _⟩
  have hn : xs.length ≤ 9223372036854775807 := by rw [hxl]; simpa [Go.maxLen] using hlen
  refine (calls_below (con3 xs hn) hcomp).mono fun e W' ⟨he, bel⟩ => ?_
  subst he
  exact ⟨_, rfl, _, _, _, [], _, [], hW', trodAll_mk1 (shut_bool Try.underlying4 _), (trodAll_cons_mk (Below.trod laidOut (by kernel_rfl) (of_decide_eq_true (by kernel_rfl)) k0 bel lt0) trodAll_mk0), rfl, bel.frame _, fun h => by cases h⟩

theorem over : Rows.fnExactAreCampsRow.holds Try.pinned (OpenSpec.ofChange Rows.fnExactAreCampsSpec) :=
  OpenClaim.holds_of_wide 3 Try.f3 rfl rfl rfl rfl rfl rfl rfl ⟨rfl, rfl, rfl, rfl, rfl⟩ rfl rfl rfl rfl rfl (by kernel_rfl) Try.func3 (by kernel_rfl)
    (of_decide_eq_true (by kernel_rfl)) (by unfold Func.isWrapper; first | (rw [if_pos (by decide +kernel)]; kernel_rfl) | (rw [if_neg (by decide +kernel)]; exact ⟨rfl, rfl⟩))
    (fun os started H enc _ => lifted os started H enc)

theorem proved : Rows.FnExactAreCampsSaid := over
end Go.Proofs.Ytmlhmapibagmgaa.AreCampsDone
