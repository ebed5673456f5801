/- PROVED: the given statement FnExactProtectAsset: whatever the arguments, the law returns true and the arguments read as they did; no condition. -/
import Derived.Test.YtfgdajmcgincoaaVau
import Derived.Test.YtfgdajmcgincoaaVqProtA
import Derived.Test.YtfgdajmcgincoaaVsD
import Derived.WalkKit
import Derived.ProofKit
import Derived.OpenShut
import Derived.ShutString
import Derived.ChangeOld
set_option linter.unusedVariables false
set_option linter.unusedSimpArgs false
namespace Go.Proofs.Ytfgdajmcgincoaa.FnExactProtectAssetDone
open Go.ChangeShapes Go.WideShapes Go.ChangeAt Go.RowKit
open Go.Vs

theorem own : ownKnob Try.prog.godebug = none := by kernel_rfl
theorem laidOut : laidOutB Try.prog = true := by kernel_rfl

theorem one_cell {d : Nat} {sh : Sh} {us : List PV} (hl : us.length = 1) (h : ∀ (j : Nat) sh' u, [sh][j]? = some sh' → us[j]? = some u → CellIs d sh' u) : ∃ u, us = [u] ∧ CellIs d sh u := by
  match us, hl with
  | [u], _ => exact ⟨u, rfl, h 0 sh u rfl rfl⟩
theorem of_Asset {d : Nat} {el : List PV} (hl : el.length = 4) (h : ∀ (j : Nat) sh' u', ([.int, .str, .int, .int] : List Sh)[j]? = some sh' → el[j]? = some u' → CellIs (d + 2) sh' u') : ∃ a : Go.Vs.Asset, el = a.pv ∧ a.name.size ≤ Go.maxLen := by
  match el, hl with
  | [u0, u1, u2, u3], _ =>
    obtain ⟨n0, rfl, _⟩ := cell_int (h 0 _ _ rfl rfl)
    obtain ⟨n1, rfl, b1⟩ := cell_str (h 1 _ _ rfl rfl)
    obtain ⟨n2, rfl, _⟩ := cell_int (h 2 _ _ rfl rfl)
    obtain ⟨n3, rfl, _⟩ := cell_int (h 3 _ _ rfl rfl)
    exact ⟨⟨n0, n1, n2, n3⟩, rfl, b1⟩
theorem of_Scene {d : Nat} {el : List PV} (hl : el.length = 2) (h : ∀ (j : Nat) sh' u', ([.int, .slice [.int]] : List Sh)[j]? = some sh' → el[j]? = some u' → CellIs (d + 2) sh' u') : ∃ a : Go.Vs.Scene, el = a.pv ∧ a.burned.length ≤ Go.maxLen := by
  match el, hl with
  | [u0, u1], _ =>
    obtain ⟨n0, rfl, _⟩ := cell_int (h 0 _ _ rfl rfl)
    obtain ⟨n1, rfl, b1⟩ := cell_list (fun n : Int => [PV.int .i64 n]) (h 1 _ _ rfl rfl) (fun el hl h => by match el, hl with | [u], _ => obtain ⟨m, rfl, _⟩ := cell_int (h 0 _ _ rfl rfl); exact ⟨m, rfl⟩)
    exact ⟨⟨n0, n1⟩, rfl, b1⟩
set_option maxRecDepth 100000 in
theorem lifted (os : Os) (started : os.Started) (H : Type) (enc : TypeId × Value → H) :
    ReturnsInHanded {} Try.checked os 5 .any (Rows.fnExactProtectAssetSpec.pre6 enc Try.prog Try.f5 Rows.fnExactProtectAssetRow.domain false) (Rows.fnExactProtectAssetSpec.post enc Try.prog Try.f5 false true false false) := by
  refine returnsInHanded_of_change (C := Try.checked) own started (by kernel_rfl) Try.func5
    (ChangeSpec.witness6 (enc := enc) (C := Try.checked) false ⟨#[], #[.slice none 0 0, .slice none 0 0, .int .i64 0], []⟩ 8 (by kernel_rfl) (by kernel_rfl) (by kernel_rfl) (by kernel_rfl)) ?_
  intro W base args ds gs before hval0 hW hcnd _
  have hval : ∀ (j : Nat) t v, Try.f5.params[j]? = some t → args[j]? = some v → Value.okWide Try.prog W .any base t v := hval0
  have hW' := hW
  obtain ⟨p, q, hA0, hV, rfl, hfz, hnd⟩ := hW
  have hA : DataW.TrodAll enc Try.prog W 0 (fun _ => true) true Try.f5.params.toList args.toList ds p := hA0
  rw [Try.params5] at hA hval
  obtain ⟨v0, vs0, d0, ds0, p0, q0, hargs, rfl, rfl, h0, r0⟩ := trodAll_cons hA
  obtain ⟨v1, vs1, d1, ds1, p1, q1, rfl, rfl, rfl, h1, r1⟩ := trodAll_cons r0
  obtain ⟨v2, vs2, d2, ds2, p2, q2, rfl, rfl, rfl, h2, r2⟩ := trodAll_cons r1
  obtain ⟨rfl, rfl, rfl⟩ := trodAll_nil r2
  obtain rfl : args = #[v0, v1, v2] := by cases args; simp_all
  obtain ⟨rfl, rfl⟩ := trodVars_none hV
  obtain ⟨a0, len0, cap0, rfl⟩ := okWide_slice Try.underlying22 (hval 0 22 v0 rfl rfl)
  obtain ⟨a1, len1, cap1, rfl⟩ := okWide_slice Try.underlying23 (hval 1 23 v1 rfl rfl)
  obtain ⟨z2, rfl⟩ := okWide_int Try.underlying3 (hval 2 3 v2 rfl rfl)
  have k0 := h0
  have lt0 : ∀ x ∈ p0, x.block < W.heap.size := by obtain ⟨m, hm⟩ := k0; exact DataW.trod_lt m _ _ _ hm
  obtain ⟨us0, ul0, uc0, ur0⟩ : ∃ us : List PV, us.length = ([.slice [.int, .str, .int, .int]] : List Sh).length ∧ (∀ (j : Nat) sh u, ([.slice [.int, .str, .int, .int]] : List Sh)[j]? = some sh → us[j]? = some u → CellIs 4 sh u) ∧ ∀ ρ, Comps ρ W (fun b => b < W.heap.size) noMem #[.slice a0 len0 cap0] us := by
    obtain ⟨fuel, hf⟩ := h0
    exact open_all (d := 4) (T := 22) (by kernel_rfl) (by simpa [Value.cells] using hf)
  have k1 := h1
  have lt1 : ∀ x ∈ p1, x.block < W.heap.size := by obtain ⟨m, hm⟩ := k1; exact DataW.trod_lt m _ _ _ hm
  obtain ⟨us1, ul1, uc1, ur1⟩ : ∃ us : List PV, us.length = ([.slice [.int, .slice [.int]]] : List Sh).length ∧ (∀ (j : Nat) sh u, ([.slice [.int, .slice [.int]]] : List Sh)[j]? = some sh → us[j]? = some u → CellIs 4 sh u) ∧ ∀ ρ, Comps ρ W (fun b => b < W.heap.size) noMem #[.slice a1 len1 cap1] us := by
    obtain ⟨fuel, hf⟩ := h1
    exact open_all (d := 4) (T := 23) (by kernel_rfl) (by simpa [Value.cells] using hf)
  have k2 := h2
  have lt2 : ∀ x ∈ p2, x.block < W.heap.size := by obtain ⟨m, hm⟩ := k2; exact DataW.trod_lt m _ _ _ hm
  obtain ⟨us2, ul2, uc2, ur2⟩ : ∃ us : List PV, us.length = ([.int] : List Sh).length ∧ (∀ (j : Nat) sh u, ([.int] : List Sh)[j]? = some sh → us[j]? = some u → CellIs 4 sh u) ∧ ∀ ρ, Comps ρ W (fun b => b < W.heap.size) noMem #[.int .i64 z2] us := by
    obtain ⟨fuel, hf⟩ := h2
    exact open_all (d := 4) (T := 3) (by kernel_rfl) (by simpa [Value.cells] using hf)
  obtain ⟨u0, rfl, c0⟩ := one_cell ul0 uc0
  obtain ⟨xs', rfl, b0⟩ := cell_list (fun a : {a : Asset // a.name.size ≤ Go.maxLen} => a.1.pv) c0 (fun el hl h => by obtain ⟨a, e, hb⟩ := of_Asset (d := 1) hl h; exact ⟨⟨a, hb⟩, e⟩)
  obtain ⟨xs, e0, l0, b0'⟩ : ∃ xs : List Asset, xs'.map (fun a : {a : Asset // a.name.size ≤ Go.maxLen} => a.1.pv) = xs.map Asset.pv ∧ xs.length = xs'.length ∧ ∀ a ∈ xs, a.name.size ≤ Go.maxLen := ⟨xs'.map (·.1), by simp [Function.comp_def], by simp, fun a ha => by obtain ⟨q, _, rfl⟩ := List.mem_map.1 ha; exact q.2⟩
  rw [e0] at ur0
  rw [← l0] at b0
  obtain ⟨u1, rfl, c1⟩ := one_cell ul1 uc1
  obtain ⟨ys', rfl, b1⟩ := cell_list (fun a : {a : Scene // a.burned.length ≤ Go.maxLen} => a.1.pv) c1 (fun el hl h => by obtain ⟨a, e, hb⟩ := of_Scene (d := 1) hl h; exact ⟨⟨a, hb⟩, e⟩)
  obtain ⟨ys, e1, l1, b1'⟩ : ∃ ys : List Scene, ys'.map (fun a : {a : Scene // a.burned.length ≤ Go.maxLen} => a.1.pv) = ys.map Scene.pv ∧ ys.length = ys'.length ∧ ∀ a ∈ ys, a.burned.length ≤ Go.maxLen := ⟨ys'.map (·.1), by simp [Function.comp_def], by simp, fun a ha => by obtain ⟨q, _, rfl⟩ := List.mem_map.1 ha; exact q.2⟩
  rw [e1] at ur1
  rw [← l1] at b1
  obtain ⟨u2, rfl, c2⟩ := one_cell ul2 uc2
  obtain ⟨n, rfl, lo2, hi2⟩ := cell_int c2
  clear hA0 hval0
  have hcomp : Comps (fun _ => none) W (fun b => b < W.heap.size) noMem #[.slice a0 len0 cap0, .slice a1 len1 cap1, .int .i64 z2] [.list 4 (xs.map Asset.pv), .list 2 (ys.map Scene.pv), .int .i64 n] := by
    refine ⟨rfl, fun j u hu => ?_⟩
    match j, hu with
    | 0, hu =>
      simp only [List.getElem?_cons_zero, Option.some.injEq] at hu
      subst hu
      obtain ⟨c, hc, hr⟩ := (ur0 (fun _ => none)).2 0 _ rfl
      simp only [List.getElem?_toArray, List.getElem?_cons_zero, Option.some.injEq] at hc
      subst hc
      exact ⟨_, rfl, hr⟩
    | 1, hu =>
      simp only [List.getElem?_cons_succ, List.getElem?_cons_zero, Option.some.injEq] at hu
      subst hu
      obtain ⟨c, hc, hr⟩ := (ur1 (fun _ => none)).2 0 _ rfl
      simp only [List.getElem?_toArray, List.getElem?_cons_zero, Option.some.injEq] at hc
      subst hc
      exact ⟨_, rfl, hr⟩
    | 2, hu =>
      simp only [List.getElem?_cons_succ, List.getElem?_cons_zero, Option.some.injEq] at hu
      subst hu
      obtain ⟨c, hc, hr⟩ := (ur2 (fun _ => none)).2 0 _ rfl
      simp only [List.getElem?_toArray, List.getElem?_cons_zero, Option.some.injEq] at hc
      subst hc
      exact ⟨_, rfl, hr⟩
  refine (calls_below (law_FnExactProtectAsset xs ys n (by simpa [Go.maxLen] using b0) (fun a h => by simpa [Go.maxLen] using b0' a h) (by simpa [Go.maxLen] using b1) (fun a h => by simpa [Go.maxLen] using b1' a h)) hcomp).mono fun e W' ⟨he, bel⟩ => ?_
  subst he
  exact ⟨_, rfl, _, _, _, [], _, [], hW', trodAll_mk1 (shut_bool Try.underlying4 _), (trodAll_cons_mk (Below.trod laidOut (by kernel_rfl) (of_decide_eq_true (by kernel_rfl)) k0 bel lt0) (trodAll_cons_mk (Below.trod laidOut (by kernel_rfl) (of_decide_eq_true (by kernel_rfl)) k1 bel lt1) (trodAll_cons_mk (Below.trod laidOut (by kernel_rfl) (of_decide_eq_true (by kernel_rfl)) k2 bel lt2) trodAll_mk0))), rfl, bel.frame _, fun h => by cases h⟩

theorem over : Rows.fnExactProtectAssetRow.holds Try.pinned (OpenSpec.ofChange Rows.fnExactProtectAssetSpec) :=
  OpenClaim.holds_of_wide 5 Try.f5 rfl rfl rfl rfl rfl rfl rfl ⟨rfl, rfl, rfl, rfl, rfl⟩ rfl rfl rfl rfl rfl (by kernel_rfl) Try.func5 (by kernel_rfl)
    (of_decide_eq_true (by kernel_rfl)) (by unfold Func.isWrapper; first | (rw [if_pos (by decide +kernel)]; kernel_rfl) | (rw [if_neg (by decide +kernel)]; exact ⟨rfl, rfl⟩))
    (fun os started H enc _ => lifted os started H enc)

theorem proved : Rows.FnExactProtectAssetSaid := over
end Go.Proofs.Ytfgdajmcgincoaa.FnExactProtectAssetDone
