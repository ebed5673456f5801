/- PROVED: the given statement FnExactFewestLookouts: whatever the arguments, the law returns true and the arguments read as they did; no condition. -/
import Derived.Test.YtaidllndmhgnhaaVau
import Derived.Test.YtaidllndmhgnhaaVqFewest
import Derived.Test.YtaidllndmhgnhaaVsD
import Derived.WalkKit
import Derived.ProofKit
import Derived.OpenShut
import Derived.ShutString
import Derived.ChangeOld
set_option linter.unusedVariables false
set_option linter.unusedSimpArgs false
namespace Go.Proofs.Ytaidllndmhgnhaa.FnExactFewestLookoutsDone
open Go.ChangeShapes Go.WideShapes Go.ChangeAt Go.RowKit
open Go.Vs

theorem own : ownKnob Try.prog.godebug = none := by kernel_rfl
theorem laidOut : laidOutB Try.prog = true := by kernel_rfl

theorem one_cell {d : Nat} {sh : Sh} {us : List PV} (hl : us.length = 1) (h : ∀ (j : Nat) sh' u, [sh][j]? = some sh' → us[j]? = some u → CellIs d sh' u) : ∃ u, us = [u] ∧ CellIs d sh u := by
  match us, hl with
  | [u], _ => exact ⟨u, rfl, h 0 sh u rfl rfl⟩
theorem of_Heights {d : Nat} {el : List PV} (hl : el.length = 4) (h : ∀ (j : Nat) sh' u', ([.int, .int, .slice [.int], .slice [.int]] : List Sh)[j]? = some sh' → el[j]? = some u' → CellIs (d + 2) sh' u') : ∃ a : Go.Vs.Heights, el = a.pv ∧ a.terrain.burn.length ≤ Go.maxLen ∧ a.metres.length ≤ Go.maxLen := by
  match el, hl with
  | [u0, u1, u2, u3], _ =>
    obtain ⟨n0, rfl, _⟩ := cell_int (h 0 _ _ rfl rfl)
    obtain ⟨n1, rfl, _⟩ := cell_int (h 1 _ _ rfl rfl)
    obtain ⟨n2, rfl, b2⟩ := cell_list (fun n : Int => [PV.int .i64 n]) (h 2 _ _ rfl rfl) (fun el hl h => by match el, hl with | [u], _ => obtain ⟨m, rfl, _⟩ := cell_int (h 0 _ _ rfl rfl); exact ⟨m, rfl⟩)
    obtain ⟨n3, rfl, b3⟩ := cell_list (fun n : Int => [PV.int .i64 n]) (h 3 _ _ rfl rfl) (fun el hl h => by match el, hl with | [u], _ => obtain ⟨m, rfl, _⟩ := cell_int (h 0 _ _ rfl rfl); exact ⟨m, rfl⟩)
    exact ⟨⟨⟨n0, n1, n2⟩, n3⟩, rfl, b2, b3⟩
set_option maxRecDepth 100000 in
theorem lifted (os : Os) (started : os.Started) (H : Type) (enc : TypeId × Value → H) :
    ReturnsInHanded {} Try.checked os 4 .any (Rows.fnExactFewestLookoutsSpec.pre6 enc Try.prog Try.f4 Rows.fnExactFewestLookoutsRow.domain false) (Rows.fnExactFewestLookoutsSpec.post enc Try.prog Try.f4 false true false false) := by
  refine returnsInHanded_of_change (C := Try.checked) own started (by kernel_rfl) Try.func4
    (ChangeSpec.witness6 (enc := enc) (C := Try.checked) false ⟨#[], #[.agg #[.int .i64 0, .int .i64 0, .slice none 0 0, .slice none 0 0], .int .i64 0], []⟩ 8 (by kernel_rfl) (by kernel_rfl) (by kernel_rfl) (by kernel_rfl)) ?_
  intro W base args ds gs before hval0 hW hcnd _
  have hval : ∀ (j : Nat) t v, Try.f4.params[j]? = some t → args[j]? = some v → Value.okWide Try.prog W .any base t v := hval0
  have hW' := hW
  obtain ⟨p, q, hA0, hV, rfl, hfz, hnd⟩ := hW
  have hA : DataW.TrodAll enc Try.prog W 0 (fun _ => true) true Try.f4.params.toList args.toList ds p := hA0
  rw [Try.params4] at hA hval
  obtain ⟨v0, vs0, d0, ds0, p0, q0, hargs, rfl, rfl, h0, r0⟩ := trodAll_cons hA
  obtain ⟨v1, vs1, d1, ds1, p1, q1, rfl, rfl, rfl, h1, r1⟩ := trodAll_cons r0
  obtain ⟨rfl, rfl, rfl⟩ := trodAll_nil r1
  obtain rfl : args = #[v0, v1] := by cases args; simp_all
  obtain ⟨rfl, rfl⟩ := trodVars_none hV
  obtain ⟨z0, rfl, _⟩ := okWide_struct Try.underlying26 (hval 0 26 v0 rfl rfl)
  obtain ⟨z1, rfl⟩ := okWide_int Try.underlying3 (hval 1 3 v1 rfl rfl)
  have k0 := h0
  have lt0 : ∀ x ∈ p0, x.block < W.heap.size := by obtain ⟨m, hm⟩ := k0; exact DataW.trod_lt m _ _ _ hm
  obtain ⟨us0, ul0, uc0, ur0⟩ : ∃ us : List PV, us.length = ([.int, .int, .slice [.int], .slice [.int]] : List Sh).length ∧ (∀ (j : Nat) sh u, ([.int, .int, .slice [.int], .slice [.int]] : List Sh)[j]? = some sh → us[j]? = some u → CellIs 4 sh u) ∧ ∀ ρ, Comps ρ W (fun b => b < W.heap.size) noMem z0 us := by
    obtain ⟨fuel, hf⟩ := h0
    exact open_all (d := 4) (T := 26) (by kernel_rfl) (by simpa [Value.cells] using hf)
  have k1 := h1
  have lt1 : ∀ x ∈ p1, x.block < W.heap.size := by obtain ⟨m, hm⟩ := k1; exact DataW.trod_lt m _ _ _ hm
  obtain ⟨us1, ul1, uc1, ur1⟩ : ∃ us : List PV, us.length = ([.int] : List Sh).length ∧ (∀ (j : Nat) sh u, ([.int] : List Sh)[j]? = some sh → us[j]? = some u → CellIs 4 sh u) ∧ ∀ ρ, Comps ρ W (fun b => b < W.heap.size) noMem #[.int .i64 z1] us := by
    obtain ⟨fuel, hf⟩ := h1
    exact open_all (d := 4) (T := 3) (by kernel_rfl) (by simpa [Value.cells] using hf)
  obtain ⟨h, rfl, b0_0, b0_1⟩ := of_Heights (d := 2) ul0 uc0
  obtain ⟨u1, rfl, c1⟩ := one_cell ul1 uc1
  obtain ⟨t, rfl, lo1, hi1⟩ := cell_int c1
  clear hA0 hval0
  have hcomp : Comps (fun _ => none) W (fun b => b < W.heap.size) noMem #[.agg z0, .int .i64 z1] [.agg h.pv, .int .i64 t] := by
    refine ⟨rfl, fun j u hu => ?_⟩
    match j, hu with
    | 0, hu =>
      simp only [List.getElem?_cons_zero, Option.some.injEq] at hu
      subst hu
      exact ⟨_, rfl, rep_agg.2 ⟨_, rfl, by simpa using ur0 (fun _ => none)⟩⟩
    | 1, hu =>
      simp only [List.getElem?_cons_succ, List.getElem?_cons_zero, Option.some.injEq] at hu
      subst hu
      obtain ⟨c, hc, hr⟩ := (ur1 (fun _ => none)).2 0 _ rfl
      simp only [List.getElem?_toArray, List.getElem?_cons_zero, Option.some.injEq] at hc
      subst hc
      exact ⟨_, rfl, hr⟩
  refine (calls_below (law_FnExactFewestLookouts h t (by simpa [Go.maxLen] using b0_0) (by simpa [Go.maxLen] using b0_1)) hcomp).mono fun e W' ⟨he, bel⟩ => ?_
  subst he
  exact ⟨_, rfl, _, _, _, [], _, [], hW', trodAll_mk1 (shut_bool Try.underlying4 _), (trodAll_cons_mk (Below.trod laidOut (by kernel_rfl) (of_decide_eq_true (by kernel_rfl)) k0 bel lt0) (trodAll_cons_mk (Below.trod laidOut (by kernel_rfl) (of_decide_eq_true (by kernel_rfl)) k1 bel lt1) trodAll_mk0)), rfl, bel.frame _, fun h => by cases h⟩

theorem over : Rows.fnExactFewestLookoutsRow.holds Try.pinned (OpenSpec.ofChange Rows.fnExactFewestLookoutsSpec) :=
  OpenClaim.holds_of_wide 4 Try.f4 rfl rfl rfl rfl rfl rfl rfl ⟨rfl, rfl, rfl, rfl, rfl⟩ rfl rfl rfl rfl rfl (by kernel_rfl) Try.func4 (by kernel_rfl)
    (of_decide_eq_true (by kernel_rfl)) (by unfold Func.isWrapper; first | (rw [if_pos (by decide +kernel)]; kernel_rfl) | (rw [if_neg (by decide +kernel)]; exact ⟨rfl, rfl⟩))
    (fun os started H enc _ => lifted os started H enc)

theorem proved : Rows.FnExactFewestLookoutsSaid := over
end Go.Proofs.Ytaidllndmhgnhaa.FnExactFewestLookoutsDone
