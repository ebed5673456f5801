/- PROVED: the given statement FnExactCampText: whatever the arguments, the law returns true and the arguments read as they did; no condition. -/
import Derived.Test.YtnmkdilnblfdnaaDoorVau
import Derived.Test.YtnmkdilnblfdnaaDoorCt3
import Derived.Test.YtnmkdilnblfdnaaDoorVsD
import Derived.WalkKit
import Derived.ProofKit
import Derived.OpenShut
import Derived.ShutString
import Derived.ChangeOld
import Derived.LaidMore
import Derived.Stop.Joined
import Derived.Stop.LaidErr
import Derived.Lib.LaidTab
import Derived.Test.YtnmkdilnblfdnaaDoorRows
set_option linter.unusedVariables false
set_option linter.unusedSimpArgs false
namespace Go.Proofs.YtnmkdilnblfdnaaDoor.FnExactCampTextDone
open Go.ChangeShapes Go.WideShapes Go.ChangeAt Go.RowKit
open Go.Vs

theorem own : ownKnob Tryd.prog.godebug = none := by kernel_rfl
theorem laidOut : laidOutB Tryd.prog = true := by kernel_rfl

theorem one_cell {d : Nat} {sh : Sh} {us : List PV} (hl : us.length = 1) (h : ∀ (j : Nat) sh' u, [sh][j]? = some sh' → us[j]? = some u → CellIs d sh' u) : ∃ u, us = [u] ∧ CellIs d sh u := by
  match us, hl with
  | [u], _ => exact ⟨u, rfl, h 0 sh u rfl rfl⟩
theorem of_Camp {d : Nat} {el : List PV} (hl : el.length = 3) (h : ∀ (j : Nat) sh' u', ([.int, .int, .int] : List Sh)[j]? = some sh' → el[j]? = some u' → CellIs (d + 2) sh' u') : ∃ a : Go.Vs.Camp, el = a.pv := by
  match el, hl with
  | [u0, u1, u2], _ =>
    obtain ⟨n0, rfl, _⟩ := cell_int (h 0 _ _ rfl rfl)
    obtain ⟨n1, rfl, _⟩ := cell_int (h 1 _ _ rfl rfl)
    obtain ⟨n2, rfl, _⟩ := cell_int (h 2 _ _ rfl rfl)
    exact ⟨⟨n0, n1, n2⟩, rfl⟩
theorem of_laid {W : World} (h : laidMetH Tryd.prog Rows.fnExactCampTextRow.laid W) : TabsAt W := by
  rw [MakeChecks.laidMetH_plain _ _ _ (by kernel_rfl)] at h
  have h2 := laidMet.tail (laidMet.tail h)
  have ht : Lib.TabIs Tryd.prog W "internal/strconv.uint64pow10" .u64 Lib.pow10Tab := Lib.tabIs_of_head (g := 3) (t := 90) (e := 69) (n := 20) (by kernel_rfl) (by kernel_rfl) (by kernel_rfl) (by kernel_rfl) (by kernel_rfl) (by kernel_rfl) h2
  have hg : Tryd.prog.globalNamed "internal/strconv.uint64pow10" = some 3 := by kernel_rfl
  unfold Lib.TabIs World.var? at ht
  rw [hg] at ht
  simp only [Option.bind_some] at ht
  refine ⟨fun g => W.heap[g]?, ?_, fun g hg => ?_⟩
  · cases hc : W.heap[3]? with
    | none => rw [hc] at ht; cases ht
    | some o =>
      rw [hc] at ht
      cases o <;> simp only [Option.some.injEq] at ht <;> first | (cases ht; done) | skip
      subst ht
      exact ⟨_, _, hc⟩
  · simp only [tabG, List.mem_singleton] at hg
    subst hg
    refine ⟨?_, rfl⟩
    cases hc : W.heap[3]? with
    | none => rw [hc] at ht; cases ht
    | some o => exact (Array.getElem?_eq_some_iff.1 hc).1
theorem door_met (os : Os) (args : Array Value) : laidMetH Tryd.prog Rows.fnExactCampTextRow.laid ((World.doorLaid Tryd.prog 400 os).forCall (fun _ _ => 0) ⟨#[], args, []⟩).memory :=
  laidMetH_of_parts3 (fuel := 8) (laidMet_of_run' 8 (by kernel_rfl) (by kernel_rfl)) (by kernel_rfl) (by kernel_rfl)
set_option maxRecDepth 100000 in
theorem lifted (os : Os) (started : os.Started) (H : Type) (enc : TypeId × Value → H) :
    ReturnsInHanded {} Tryd.checked os 3 .any (fun w args => (Rows.fnExactCampTextSpec.pre enc Tryd.prog Tryd.f3 [] false w args ∧ laidMetH Tryd.prog Rows.fnExactCampTextRow.laid w) ∧ sizedMet enc Tryd.prog Tryd.f3 (OpenSpec.ofChange Rows.fnExactCampTextSpec) false w args)
      (Rows.fnExactCampTextSpec.post enc Tryd.prog Tryd.f3 false true false false) := by
  refine returnsInHanded_of_change_and (C := Tryd.checked) (X := fun w _ => laidMetH Tryd.prog Rows.fnExactCampTextRow.laid w) (fun _ _ _ hh h => h.of_heap hh) own started (by kernel_rfl) Tryd.func3
    (ChangeSpec.witness_shaped (enc := enc) (C := Tryd.checked) (os := os) (X := fun w _ => laidMetH Tryd.prog Rows.fnExactCampTextRow.laid w) false (World.doorLaid Tryd.prog 400 os) #[.agg #[.int .i64 0, .int .i64 0, .int .i64 0]] 8 rfl (World.shaped_of_RefB (by kernel_rfl) (by kernel_rfl)) (by kernel_rfl) (by kernel_rfl) (by kernel_rfl) (door_met os _)) ?_
  intro W base args ds gs before hval0 hW _ _ hL _
  have hval : ∀ (j : Nat) t v, Tryd.f3.params[j]? = some t → args[j]? = some v → Value.okWide Tryd.prog W .any base t v := hval0
  have hW' := hW
  obtain ⟨p, q, hA0, hV, rfl, hfz, hnd⟩ := hW
  have hA : DataW.TrodAll enc Tryd.prog W 0 (fun _ => true) true Tryd.f3.params.toList args.toList ds p := hA0
  rw [Tryd.params3] at hA hval
  obtain ⟨v0, vs0, d0, ds0, p0, q0, hargs, rfl, rfl, h0, r0⟩ := trodAll_cons hA
  obtain ⟨rfl, rfl, rfl⟩ := trodAll_nil r0
  obtain rfl : args = #[v0] := by cases args; simp_all
  obtain ⟨rfl, rfl⟩ := trodVars_none hV
  obtain ⟨z0, rfl, _⟩ := okWide_struct Tryd.underlying23 (hval 0 23 v0 rfl rfl)
  have k0 := h0
  have lt0 : ∀ x ∈ p0, x.block < W.heap.size := by obtain ⟨m, hm⟩ := k0; exact DataW.trod_lt m _ _ _ hm
  obtain ⟨us0, ul0, uc0, ur0⟩ : ∃ us : List PV, us.length = ([.int, .int, .int] : List Sh).length ∧ (∀ (j : Nat) sh u, ([.int, .int, .int] : List Sh)[j]? = some sh → us[j]? = some u → CellIs 4 sh u) ∧ ∀ ρ, Comps ρ W (fun b => b < W.heap.size) noMem z0 us := by
    obtain ⟨fuel, hf⟩ := h0
    exact open_all (d := 4) (T := 23) (by kernel_rfl) (by simpa [Value.cells] using hf)
  obtain ⟨c, rfl⟩ := of_Camp (d := 2) ul0 uc0
  clear hA0 hval0
  have hcomp : Comps (fun _ => none) W (fun b => b < W.heap.size) noMem #[.agg z0] [.agg c.pv] := by
    refine ⟨rfl, fun j u hu => ?_⟩
    match j, hu with
    | 0, hu =>
      simp only [List.getElem?_cons_zero, Option.some.injEq] at hu
      subst hu
      exact ⟨_, rfl, rep_agg.2 ⟨_, rfl, by simpa using ur0 (fun _ => none)⟩⟩
  refine (calls_below (law_CampText c) hcomp (of_laid hL)).mono fun e W' ⟨he, bel⟩ => ?_
  subst he
  exact ⟨_, rfl, _, _, _, [], _, [], hW', trodAll_mk1 (shut_bool Tryd.underlying4 _), (trodAll_cons_mk (Below.trod laidOut (by kernel_rfl) (of_decide_eq_true (by kernel_rfl)) k0 bel lt0) trodAll_mk0), rfl, bel.frame _, fun h => by cases h⟩

theorem over : Rows.fnExactCampTextRow.holds Tryd.pinned (OpenSpec.ofChange Rows.fnExactCampTextSpec) :=
  OpenClaim.holds_of_wide 3 Tryd.f3 rfl rfl rfl rfl rfl rfl rfl ⟨rfl, rfl, rfl, rfl, rfl⟩ rfl rfl rfl rfl rfl (by kernel_rfl) Tryd.func3 (by kernel_rfl)
    (of_decide_eq_true (by kernel_rfl)) (by unfold Func.isWrapper; first | (rw [if_pos (by decide +kernel)]; kernel_rfl) | (rw [if_neg (by decide +kernel)]; exact ⟨rfl, rfl⟩))
    (fun os started H enc _ => lifted os started H enc)

theorem proved : Rows.FnExactCampTextSaid := over
end Go.Proofs.YtnmkdilnblfdnaaDoor.FnExactCampTextDone
