/- PROVED: the given statement FnExactBestEvacuation: whatever the arguments, the law returns true and the arguments read as they did; no condition. -/
import Derived.Test.YthjlolbooehhcaaVau
import Derived.Test.YthjlolbooehhcaaVqBestE
import Derived.Test.YthjlolbooehhcaaVsD
import Derived.WalkKit
import Derived.ProofKit
import Derived.OpenShut
import Derived.ShutString
import Derived.ChangeOld
set_option linter.unusedVariables false
set_option linter.unusedSimpArgs false
namespace Go.Proofs.Ythjlolbooehhcaa.FnExactBestEvacuationDone
open Go.ChangeShapes Go.WideShapes Go.ChangeAt Go.RowKit
open Go.Vs

theorem own : ownKnob Try.prog.godebug = none := by kernel_rfl
theorem laidOut : laidOutB Try.prog = true := by kernel_rfl

theorem one_cell {d : Nat} {sh : Sh} {us : List PV} (hl : us.length = 1) (h : ∀ (j : Nat) sh' u, [sh][j]? = some sh' → us[j]? = some u → CellIs d sh' u) : ∃ u, us = [u] ∧ CellIs d sh u := by
  match us, hl with
  | [u], _ => exact ⟨u, rfl, h 0 sh u rfl rfl⟩
theorem of_Road {d : Nat} {el : List PV} (hl : el.length = 4) (h : ∀ (j : Nat) sh' u', ([.int, .int, .int, .int] : List Sh)[j]? = some sh' → el[j]? = some u' → CellIs (d + 2) sh' u') : ∃ a : Go.Vs.Road, el = a.pv := by
  match el, hl with
  | [u0, u1, u2, u3], _ =>
    obtain ⟨n0, rfl, _⟩ := cell_int (h 0 _ _ rfl rfl)
    obtain ⟨n1, rfl, _⟩ := cell_int (h 1 _ _ rfl rfl)
    obtain ⟨n2, rfl, _⟩ := cell_int (h 2 _ _ rfl rfl)
    obtain ⟨n3, rfl, _⟩ := cell_int (h 3 _ _ rfl rfl)
    exact ⟨⟨n0, n1, n2, n3⟩, rfl⟩
theorem of_Group {d : Nat} {el : List PV} (hl : el.length = 3) (h : ∀ (j : Nat) sh' u', ([.int, .int, .int] : List Sh)[j]? = some sh' → el[j]? = some u' → CellIs (d + 2) sh' u') : ∃ a : Go.Vs.Group, el = a.pv := by
  match el, hl with
  | [u0, u1, u2], _ =>
    obtain ⟨n0, rfl, _⟩ := cell_int (h 0 _ _ rfl rfl)
    obtain ⟨n1, rfl, _⟩ := cell_int (h 1 _ _ rfl rfl)
    obtain ⟨n2, rfl, _⟩ := cell_int (h 2 _ _ rfl rfl)
    exact ⟨⟨n0, n1, n2⟩, rfl⟩
theorem of_Shelter {d : Nat} {el : List PV} (hl : el.length = 2) (h : ∀ (j : Nat) sh' u', ([.int, .int] : List Sh)[j]? = some sh' → el[j]? = some u' → CellIs (d + 2) sh' u') : ∃ a : Go.Vs.Shelter, el = a.pv := by
  match el, hl with
  | [u0, u1], _ =>
    obtain ⟨n0, rfl, _⟩ := cell_int (h 0 _ _ rfl rfl)
    obtain ⟨n1, rfl, _⟩ := cell_int (h 1 _ _ rfl rfl)
    exact ⟨⟨n0, n1⟩, rfl⟩
set_option maxRecDepth 100000 in
theorem lifted (os : Os) (started : os.Started) (H : Type) (enc : TypeId × Value → H) :
    ReturnsInHanded {} Try.checked os 9 .any (Rows.fnExactBestEvacuationSpec.pre6 enc Try.prog Try.f9 Rows.fnExactBestEvacuationRow.domain false) (Rows.fnExactBestEvacuationSpec.post enc Try.prog Try.f9 false true false false) := by
  refine returnsInHanded_of_change (C := Try.checked) own started (by kernel_rfl) Try.func9
    (ChangeSpec.witness6 (enc := enc) (C := Try.checked) false ⟨#[], #[.int .i64 0, .slice none 0 0, .slice none 0 0, .slice none 0 0, .int .i64 0], []⟩ 8 (by kernel_rfl) (by kernel_rfl) (by kernel_rfl) (by kernel_rfl)) ?_
  intro W base args ds gs before hval0 hW hcnd _
  have hval : ∀ (j : Nat) t v, Try.f9.params[j]? = some t → args[j]? = some v → Value.okWide Try.prog W .any base t v := hval0
  have hW' := hW
  obtain ⟨p, q, hA0, hV, rfl, hfz, hnd⟩ := hW
  have hA : DataW.TrodAll enc Try.prog W 0 (fun _ => true) true Try.f9.params.toList args.toList ds p := hA0
  rw [Try.params9] at hA hval
  obtain ⟨v0, vs0, d0, ds0, p0, q0, hargs, rfl, rfl, h0, r0⟩ := trodAll_cons hA
  obtain ⟨v1, vs1, d1, ds1, p1, q1, rfl, rfl, rfl, h1, r1⟩ := trodAll_cons r0
  obtain ⟨v2, vs2, d2, ds2, p2, q2, rfl, rfl, rfl, h2, r2⟩ := trodAll_cons r1
  obtain ⟨v3, vs3, d3, ds3, p3, q3, rfl, rfl, rfl, h3, r3⟩ := trodAll_cons r2
  obtain ⟨v4, vs4, d4, ds4, p4, q4, rfl, rfl, rfl, h4, r4⟩ := trodAll_cons r3
  obtain ⟨rfl, rfl, rfl⟩ := trodAll_nil r4
  obtain rfl : args = #[v0, v1, v2, v3, v4] := by cases args; simp_all
  obtain ⟨rfl, rfl⟩ := trodVars_none hV
  obtain ⟨z0, rfl⟩ := okWide_int Try.underlying3 (hval 0 3 v0 rfl rfl)
  obtain ⟨a1, len1, cap1, rfl⟩ := okWide_slice Try.underlying34 (hval 1 34 v1 rfl rfl)
  obtain ⟨a2, len2, cap2, rfl⟩ := okWide_slice Try.underlying35 (hval 2 35 v2 rfl rfl)
  obtain ⟨a3, len3, cap3, rfl⟩ := okWide_slice Try.underlying36 (hval 3 36 v3 rfl rfl)
  obtain ⟨z4, rfl⟩ := okWide_int Try.underlying3 (hval 4 3 v4 rfl rfl)
  have k0 := h0
  have lt0 : ∀ x ∈ p0, x.block < W.heap.size := by obtain ⟨m, hm⟩ := k0; exact DataW.trod_lt m _ _ _ hm
  obtain ⟨us0, ul0, uc0, ur0⟩ : ∃ us : List PV, us.length = ([.int] : List Sh).length ∧ (∀ (j : Nat) sh u, ([.int] : List Sh)[j]? = some sh → us[j]? = some u → CellIs 4 sh u) ∧ ∀ ρ, Comps ρ W (fun b => b < W.heap.size) noMem #[.int .i64 z0] us := by
    obtain ⟨fuel, hf⟩ := h0
    exact open_all (d := 4) (T := 3) (by kernel_rfl) (by simpa [Value.cells] using hf)
  have k1 := h1
  have lt1 : ∀ x ∈ p1, x.block < W.heap.size := by obtain ⟨m, hm⟩ := k1; exact DataW.trod_lt m _ _ _ hm
  obtain ⟨us1, ul1, uc1, ur1⟩ : ∃ us : List PV, us.length = ([.slice [.int, .int, .int, .int]] : List Sh).length ∧ (∀ (j : Nat) sh u, ([.slice [.int, .int, .int, .int]] : List Sh)[j]? = some sh → us[j]? = some u → CellIs 4 sh u) ∧ ∀ ρ, Comps ρ W (fun b => b < W.heap.size) noMem #[.slice a1 len1 cap1] us := by
    obtain ⟨fuel, hf⟩ := h1
    exact open_all (d := 4) (T := 34) (by kernel_rfl) (by simpa [Value.cells] using hf)
  have k2 := h2
  have lt2 : ∀ x ∈ p2, x.block < W.heap.size := by obtain ⟨m, hm⟩ := k2; exact DataW.trod_lt m _ _ _ hm
  obtain ⟨us2, ul2, uc2, ur2⟩ : ∃ us : List PV, us.length = ([.slice [.int, .int, .int]] : List Sh).length ∧ (∀ (j : Nat) sh u, ([.slice [.int, .int, .int]] : List Sh)[j]? = some sh → us[j]? = some u → CellIs 4 sh u) ∧ ∀ ρ, Comps ρ W (fun b => b < W.heap.size) noMem #[.slice a2 len2 cap2] us := by
    obtain ⟨fuel, hf⟩ := h2
    exact open_all (d := 4) (T := 35) (by kernel_rfl) (by simpa [Value.cells] using hf)
  have k3 := h3
  have lt3 : ∀ x ∈ p3, x.block < W.heap.size := by obtain ⟨m, hm⟩ := k3; exact DataW.trod_lt m _ _ _ hm
  obtain ⟨us3, ul3, uc3, ur3⟩ : ∃ us : List PV, us.length = ([.slice [.int, .int]] : List Sh).length ∧ (∀ (j : Nat) sh u, ([.slice [.int, .int]] : List Sh)[j]? = some sh → us[j]? = some u → CellIs 4 sh u) ∧ ∀ ρ, Comps ρ W (fun b => b < W.heap.size) noMem #[.slice a3 len3 cap3] us := by
    obtain ⟨fuel, hf⟩ := h3
    exact open_all (d := 4) (T := 36) (by kernel_rfl) (by simpa [Value.cells] using hf)
  have k4 := h4
  have lt4 : ∀ x ∈ p4, x.block < W.heap.size := by obtain ⟨m, hm⟩ := k4; exact DataW.trod_lt m _ _ _ hm
  obtain ⟨us4, ul4, uc4, ur4⟩ : ∃ us : List PV, us.length = ([.int] : List Sh).length ∧ (∀ (j : Nat) sh u, ([.int] : List Sh)[j]? = some sh → us[j]? = some u → CellIs 4 sh u) ∧ ∀ ρ, Comps ρ W (fun b => b < W.heap.size) noMem #[.int .i64 z4] us := by
    obtain ⟨fuel, hf⟩ := h4
    exact open_all (d := 4) (T := 3) (by kernel_rfl) (by simpa [Value.cells] using hf)
  obtain ⟨u0, rfl, c0⟩ := one_cell ul0 uc0
  obtain ⟨n, rfl, lo0, hi0⟩ := cell_int c0
  obtain ⟨u1, rfl, c1⟩ := one_cell ul1 uc1
  obtain ⟨rs, rfl, b1⟩ := cell_list Go.Vs.Road.pv c1 (fun el hl h => of_Road (d := 1) hl h)
  obtain ⟨u2, rfl, c2⟩ := one_cell ul2 uc2
  obtain ⟨gs, rfl, b2⟩ := cell_list Go.Vs.Group.pv c2 (fun el hl h => of_Group (d := 1) hl h)
  obtain ⟨u3, rfl, c3⟩ := one_cell ul3 uc3
  obtain ⟨ss, rfl, b3⟩ := cell_list Go.Vs.Shelter.pv c3 (fun el hl h => of_Shelter (d := 1) hl h)
  obtain ⟨u4, rfl, c4⟩ := one_cell ul4 uc4
  obtain ⟨m, rfl, lo4, hi4⟩ := cell_int c4
  clear hA0 hval0
  have hcomp : Comps (fun _ => none) W (fun b => b < W.heap.size) noMem #[.int .i64 z0, .slice a1 len1 cap1, .slice a2 len2 cap2, .slice a3 len3 cap3, .int .i64 z4] [.int .i64 n, .list 4 (rs.map Go.Vs.Road.pv), .list 3 (gs.map Go.Vs.Group.pv), .list 2 (ss.map Go.Vs.Shelter.pv), .int .i64 m] := by
    refine ⟨rfl, fun j u hu => ?_⟩
    match j, hu with
    | 0, hu =>
      simp only [List.getElem?_cons_zero, Option.some.injEq] at hu
      subst hu
      obtain ⟨c, hc, hr⟩ := (ur0 (fun _ => none)).2 0 _ rfl
      simp only [List.getElem?_toArray, List.getElem?_cons_zero, Option.some.injEq] at hc
      subst hc
      exact ⟨_, rfl, hr⟩
    | 1, hu =>
      simp only [List.getElem?_cons_succ, List.getElem?_cons_zero, Option.some.injEq] at hu
      subst hu
      obtain ⟨c, hc, hr⟩ := (ur1 (fun _ => none)).2 0 _ rfl
      simp only [List.getElem?_toArray, List.getElem?_cons_zero, Option.some.injEq] at hc
      subst hc
      exact ⟨_, rfl, hr⟩
    | 2, hu =>
      simp only [List.getElem?_cons_succ, List.getElem?_cons_zero, Option.some.injEq] at hu
      subst hu
      obtain ⟨c, hc, hr⟩ := (ur2 (fun _ => none)).2 0 _ rfl
      simp only [List.getElem?_toArray, List.getElem?_cons_zero, Option.some.injEq] at hc
      subst hc
      exact ⟨_, rfl, hr⟩
    | 3, hu =>
      simp only [List.getElem?_cons_succ, List.getElem?_cons_zero, Option.some.injEq] at hu
      subst hu
      obtain ⟨c, hc, hr⟩ := (ur3 (fun _ => none)).2 0 _ rfl
      simp only [List.getElem?_toArray, List.getElem?_cons_zero, Option.some.injEq] at hc
      subst hc
      exact ⟨_, rfl, hr⟩
    | 4, hu =>
      simp only [List.getElem?_cons_succ, List.getElem?_cons_zero, Option.some.injEq] at hu
      subst hu
      obtain ⟨c, hc, hr⟩ := (ur4 (fun _ => none)).2 0 _ rfl
      simp only [List.getElem?_toArray, List.getElem?_cons_zero, Option.some.injEq] at hc
      subst hc
      exact ⟨_, rfl, hr⟩
  refine (calls_below (law_FnExactBestEvacuation n rs gs ss m ⟨lo0, hi0⟩ (by simpa [Go.maxLen] using b1) (by simpa [Go.maxLen] using b2) (by simpa [Go.maxLen] using b3) ⟨lo4, hi4⟩) hcomp).mono fun e W' ⟨he, bel⟩ => ?_
  subst he
  exact ⟨_, rfl, _, _, _, [], _, [], hW', trodAll_mk1 (shut_bool Try.underlying4 _), (trodAll_cons_mk (Below.trod laidOut (by kernel_rfl) (of_decide_eq_true (by kernel_rfl)) k0 bel lt0) (trodAll_cons_mk (Below.trod laidOut (by kernel_rfl) (of_decide_eq_true (by kernel_rfl)) k1 bel lt1) (trodAll_cons_mk (Below.trod laidOut (by kernel_rfl) (of_decide_eq_true (by kernel_rfl)) k2 bel lt2) (trodAll_cons_mk (Below.trod laidOut (by kernel_rfl) (of_decide_eq_true (by kernel_rfl)) k3 bel lt3) (trodAll_cons_mk (Below.trod laidOut (by kernel_rfl) (of_decide_eq_true (by kernel_rfl)) k4 bel lt4) trodAll_mk0))))), rfl, bel.frame _, fun h => by cases h⟩

theorem over : Rows.fnExactBestEvacuationRow.holds Try.pinned (OpenSpec.ofChange Rows.fnExactBestEvacuationSpec) :=
  OpenClaim.holds_of_wide 9 Try.f9 rfl rfl rfl rfl rfl rfl rfl ⟨rfl, rfl, rfl, rfl, rfl⟩ rfl rfl rfl rfl rfl (by kernel_rfl) Try.func9 (by kernel_rfl)
    (of_decide_eq_true (by kernel_rfl)) (by unfold Func.isWrapper; first | (rw [if_pos (by decide +kernel)]; kernel_rfl) | (rw [if_neg (by decide +kernel)]; exact ⟨rfl, rfl⟩))
    (fun os started H enc _ => lifted os started H enc)

theorem proved : Rows.FnExactBestEvacuationSaid := over
end Go.Proofs.Ythjlolbooehhcaa.FnExactBestEvacuationDone
