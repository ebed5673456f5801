/- PROVED: the given statement FnCamps: whatever the arguments, the law returns true and the arguments read as they did; no condition. -/
import Derived.Test.YtnmkdilnblfdnaaGreatDoorVau
import Derived.Test.YtnmkdilnblfdnaaGreatDoorVwu
import Derived.Test.YtnmkdilnblfdnaaGreatDoorVsD
import Derived.WalkKit
import Derived.ProofKit
import Derived.OpenShut
import Derived.ShutString
import Derived.ChangeOld
import Derived.LaidMore
import Derived.Stop.Joined
import Derived.Stop.LaidErr
import Derived.Lib.LaidTab
import Derived.HandedShaped
import Derived.Lay
import Derived.Shelf.Vars
import Derived.Test.YtnmkdilnblfdnaaGreatDoorRows
set_option linter.unusedVariables false
set_option linter.unusedSimpArgs false
namespace Go.Proofs.YtnmkdilnblfdnaaGreatDoor.FnCampsDone
open Go.ChangeShapes Go.WideShapes Go.ChangeAt Go.RowKit
open Go.Vs

theorem own : ownKnob Tryz.prog.godebug = none := by kernel_rfl
theorem laidOut : laidOutB Tryz.prog = true := by kernel_rfl

theorem one_cell {d : Nat} {sh : Sh} {us : List PV} (hl : us.length = 1) (h : ∀ (j : Nat) sh' u, [sh][j]? = some sh' → us[j]? = some u → CellIs d sh' u) : ∃ u, us = [u] ∧ CellIs d sh u := by
  match us, hl with
  | [u], _ => exact ⟨u, rfl, h 0 sh u rfl rfl⟩
theorem gErrType : (Tryz.prog.globals[gErr]?).map (·.type) = some 91 := by kernel_rfl
theorem star : "*" ++ "errors.errorString" = "*errors.errorString" := by decide
theorem rowE (u : TypeId) (h : Tryz.prog.typeName? 3 u = some "*errors.errorString") : u = 143 :=
  typeName_ptr_named (nm := "errors.errorString") (by rw [star]; kernel_rfl) (by kernel_rfl) (by decide) u (by rw [star]; exact h)
theorem block_of_var {W : World} {n : String} {g : Nat} {cs : Array Value} (hg : Tryz.prog.globalNamed n = some g) (h : W.var? Tryz.prog n = some cs) : ∃ t fr, W.heap[g]? = some (.cells cs t fr) := by
  unfold World.var? at h
  rw [hg] at h
  simp only [Option.bind_some] at h
  cases hc : W.heap[g]? with
  | none => rw [hc] at h; cases h
  | some o =>
    rw [hc] at h
    cases o <;> simp only [Option.some.injEq] at h <;> first | (cases h; done) | skip
    subst h
    exact ⟨_, _, rfl⟩
theorem block_lt {W : World} {g : Nat} {o : Obj} (h : W.heap[g]? = some o) : g < W.heap.size := (Array.getElem?_eq_some_iff.1 h).1
theorem of_laid {W : World} (h : laidMetH Tryz.prog Rows.fnCampsRow.laid W) (hs : W.ShapedOpen Tryz.prog) : TabsAt W := by
  rw [MakeChecks.laidMetH_plain _ _ _ (by kernel_rfl)] at h
  have h2 := laidMet.tail (laidMet.tail h)
  have h5 := laidMet.tail (laidMet.tail (laidMet.tail h2))
  have ht : Lib.TabIs Tryz.prog W "internal/strconv.uint64pow10" .u64 Lib.pow10Tab := Lib.tabIs_of_head (g := gPow) (t := 128) (e := 53) (n := 20) (by kernel_rfl) (by kernel_rfl) (by kernel_rfl) (by kernel_rfl) (by kernel_rfl) (by kernel_rfl) h2
  obtain ⟨t1, fr1, e1⟩ := block_of_var (g := gPow) (by kernel_rfl) ht
  obtain ⟨a0, s0, hv0, -, -, -⟩ := laid_sentinel h5 (g := gErr) (by kernel_rfl) gErrType Tryz.underlying91 rowE Tryz.underlying143 Tryz.underlying145 rfl rfl Tryz.underlying9 (by kernel_rfl) (by kernel_rfl)
  obtain ⟨t2, fr2, e2⟩ := block_of_var (g := gErr) (by kernel_rfl) hv0
  obtain ⟨m, hm⟩ := cell_of_shapedOpen_int (P := Tryz.prog) (g := gMax) (t := 3) (zero := #[.int .i64 0]) (k := .i64) hs (of_decide_eq_true (by kernel_rfl)) (by kernel_rfl) rfl (by kernel_rfl) (by kernel_rfl) Tryz.underlying3
  obtain ⟨zero, hz⟩ : ∃ zero, ((begin Tryz.prog (fun _ _ => 0) default).world.heap[gMax]?).bind Obj.row? = some (zero, 3) := ⟨#[.int .i64 0], by kernel_rfl⟩
  obtain ⟨cs3, hh3, hs3, _⟩ := hs.1 gMax #[.int .i64 0] 3 (of_decide_eq_true (by kernel_rfl)) (by kernel_rfl)
  have e3 : ∃ t3 fr3, W.heap[gMax]? = some (.cells #[.int .i64 m] t3 fr3) := by
    have hc3 : cs3 = #[.int .i64 m] := by
      have h1 : W.cell? ⟨gMax, 0, none⟩ = cs3[0]? := by simp [World.cell?, hh3]
      rw [hm] at h1
      apply Array.ext
      · simpa using hs3
      · intro i hi1 hi2
        have hi : i = 0 := by simp at hi2; omega
        subst hi
        obtain ⟨_, e⟩ := Array.getElem?_eq_some_iff.1 h1.symm
        simpa using e
    rw [hc3] at hh3
    exact ⟨_, _, hh3⟩
  obtain ⟨t3, fr3, e3⟩ := e3
  refine ⟨fun g => W.heap[g]?, ⟨⟨_, _, e1⟩, ⟨_, _, _, _, e2⟩, ⟨_, _, _, e3⟩⟩, fun g hg => ?_⟩
  simp only [tabG, List.mem_cons, List.not_mem_nil, or_false] at hg
  rcases hg with rfl | rfl | rfl
  · exact ⟨block_lt e1, rfl⟩
  · exact ⟨block_lt e2, rfl⟩
  · exact ⟨block_lt e3, rfl⟩
theorem handed {H : Type} {enc : TypeId × Value → H} {a : Assume} {C : Checked} {os : Os} {f : FuncId} {fn : Func} {s : ChangeSpec} {conds : List PathCond} {apart fresh handsOn again : Bool} {X : World → Array Value → Prop}
    (hX : ∀ (w w' : World) (args : Array Value), w.heap = w'.heap → X w args → X w' args)
    (own : ownKnob C.prog.godebug = none) (started : os.Started) (noInit : C.prog.inits.idxOf? f = none) (hfn : C.prog.funcs[f]? = some fn)
    (witness : ∃ (w : World) (tape : Tape) (i : Input), w.os = os ∧ (w.forCall tape i).Shaped C.prog ∧ i.vars = [] ∧ Input.okWide C.prog (w.forCall tape i) .any w.heap.size f i ∧
      ((s.pre enc C.prog fn conds apart (w.forCall tape i).memory i.args ∧ X (w.forCall tape i).memory i.args) ∧ sizedMet enc C.prog fn (OpenSpec.ofChange s) apart (w.forCall tape i).memory i.args) ∧ a.holds C.prog (lone (Frame.enter C.prog f i.args .normal) [] (w.forCall tape i)))
    (contract : ∀ (W : World) (base : Nat) (args : Array Value) (ds gs : List (DataW H)) (before : List MemPlace),
      (∀ (j : Nat) t v, fn.params[j]? = some t → args[j]? = some v → Value.okWide C.prog W .any base t v) →
      DataW.Whole enc C.prog fn.params.toList s.vars apart W args.toList ds gs before →
      X W args → W.ShapedOpen C.prog →
      Calls C.prog f args W fun e W' => ∃ v, e = .returned v ∧ s.post enc C.prog fn apart fresh handsOn again W args v W') :
    ReturnsInHanded a C os f .any (fun w args => (s.pre enc C.prog fn conds apart w args ∧ X w args) ∧ sizedMet enc C.prog fn (OpenSpec.ofChange s) apart w args) (s.post enc C.prog fn apart fresh handsOn again) := by
  refine returnsInHanded_of_calls own started noInit witness ?_
  intro w tape i _ hsh _ hok hpre hholds
  obtain ⟨_, _, _, fn', hfn', _, _, _, _, hval⟩ := hok
  have e : fn' = fn := Option.some.inj (hfn'.symm.trans hfn)
  subst e
  obtain ⟨⟨⟨ds, gs, before, hw, hc⟩, hx⟩, hz⟩ := hpre
  have hw' := DataW.Whole.of_heap (w' := w.forCall tape i) (by rfl) hw
  refine (contract (w.forCall tape i) w.heap.size i.args ds gs before hval hw' (hX _ _ _ (by rfl) hx) hsh).mono fun e W' ⟨v, he, hp⟩ => ?_
  subst he
  exact ChangeSpec.post_blind hp
theorem door_met (os : Os) (args : Array Value) : laidMetH Tryz.prog Rows.fnCampsRow.laid ((World.laidAll Tryz.prog os Rows.fnCampsRow.laid).forCall (fun _ _ => 0) ⟨#[], args, []⟩).memory := by
  rw [MakeChecks.laidMetH_plain _ _ _ (by kernel_rfl)]
  exact laidMet_laidAll _ (by kernel_rfl) (by kernel_rfl)
set_option maxRecDepth 100000 in
theorem lifted (os : Os) (started : os.Started) (H : Type) (enc : TypeId × Value → H) :
    ReturnsInHanded {} Tryz.checked os 3 .any (fun w args => (Rows.fnCampsSpec.pre enc Tryz.prog Tryz.f3 [] false w args ∧ laidMetH Tryz.prog Rows.fnCampsRow.laid w) ∧ sizedMet enc Tryz.prog Tryz.f3 (OpenSpec.ofChange Rows.fnCampsSpec) false w args)
      (Rows.fnCampsSpec.post enc Tryz.prog Tryz.f3 false true false false) := by
  refine handed (C := Tryz.checked) (X := fun w _ => laidMetH Tryz.prog Rows.fnCampsRow.laid w) (fun _ _ _ hh h => h.of_heap hh) own started (by kernel_rfl) Tryz.func3
    (ChangeSpec.witness_shaped (enc := enc) (C := Tryz.checked) (os := os) (X := fun w _ => laidMetH Tryz.prog Rows.fnCampsRow.laid w) false (World.laidAll Tryz.prog os Rows.fnCampsRow.laid) #[.slice none 0 0] 8 (World.laidAll_os _ _ _) (World.shaped_of_ZipB (by kernel_rfl) (by kernel_rfl)) (by kernel_rfl) (by kernel_rfl) (by kernel_rfl) (door_met os _)) ?_
  intro W base args ds gs before hval0 hW hL hSh
  have hval : ∀ (j : Nat) t v, Tryz.f3.params[j]? = some t → args[j]? = some v → Value.okWide Tryz.prog W .any base t v := hval0
  have hW' := hW
  obtain ⟨p, q, hA0, hV, rfl, hfz, hnd⟩ := hW
  have hA : DataW.TrodAll enc Tryz.prog W 0 (fun _ => true) true Tryz.f3.params.toList args.toList ds p := hA0
  rw [Tryz.params3] at hA hval
  obtain ⟨v0, vs0, d0, ds0, p0, q0, hargs, rfl, rfl, h0, r0⟩ := trodAll_cons hA
  obtain ⟨rfl, rfl, rfl⟩ := trodAll_nil r0
  obtain rfl : args = #[v0] := by cases args; simp_all
  obtain ⟨rfl, rfl⟩ := trodVars_none hV
  obtain ⟨a0, len0, cap0, rfl⟩ := okWide_slice Tryz.underlying22 (hval 0 22 v0 rfl rfl)
  have k0 := h0
  have lt0 : ∀ x ∈ p0, x.block < W.heap.size := by obtain ⟨m, hm⟩ := k0; exact DataW.trod_lt m _ _ _ hm
  obtain ⟨us0, ul0, uc0, ur0⟩ : ∃ us : List PV, us.length = ([.slice [.byte]] : List Sh).length ∧ (∀ (j : Nat) sh u, ([.slice [.byte]] : List Sh)[j]? = some sh → us[j]? = some u → CellIs 4 sh u) ∧ ∀ ρ, Comps ρ W (fun b => b < W.heap.size) noMem #[.slice a0 len0 cap0] us := by
    obtain ⟨fuel, hf⟩ := h0
    exact open_all (d := 4) (T := 22) (by kernel_rfl) (by simpa [Value.cells] using hf)
  obtain ⟨u0, rfl, c0⟩ := one_cell ul0 uc0
  obtain ⟨code', rfl, b0⟩ := cell_list (fun b : {b : Int // 0 ≤ b ∧ b ≤ 255} => [PV.int .u8 b.1]) c0 (fun el hl h => by match el, hl with | [u], _ => obtain ⟨m, rfl, hm⟩ := cell_byte (h 0 _ _ rfl rfl); exact ⟨⟨m, hm⟩, rfl⟩)
  obtain ⟨code, e0, l0, b0'⟩ : ∃ code : List Int, code'.map (fun b : {b : Int // 0 ≤ b ∧ b ≤ 255} => [PV.int .u8 b.1]) = bytesP code ∧ code.length = code'.length ∧ ∀ b ∈ code, 0 ≤ b ∧ b ≤ 255 := ⟨code'.map (·.1), by simp [bytesP, Function.comp_def], by simp, fun a ha => by obtain ⟨q, _, rfl⟩ := List.mem_map.1 ha; exact q.2⟩
  rw [e0] at ur0
  rw [← l0] at b0
  clear hA0 hval0
  have hcomp : Comps (fun _ => none) W (fun b => b < W.heap.size) noMem #[.slice a0 len0 cap0] [.list 1 (bytesP code)] := by
    refine ⟨rfl, fun j u hu => ?_⟩
    match j, hu with
    | 0, hu =>
      simp only [List.getElem?_cons_zero, Option.some.injEq] at hu
      subst hu
      obtain ⟨c, hc, hr⟩ := (ur0 (fun _ => none)).2 0 _ rfl
      simp only [List.getElem?_toArray, List.getElem?_cons_zero, Option.some.injEq] at hc
      subst hc
      exact ⟨_, rfl, hr⟩
  refine (calls_below (law_FnCamps code (by simpa [Go.maxLen] using b0) b0') hcomp (of_laid hL hSh)).mono fun e W' ⟨he, bel⟩ => ?_
  subst he
  exact ⟨_, rfl, _, _, _, [], _, [], hW', trodAll_mk1 (shut_bool Tryz.underlying4 _), (trodAll_cons_mk (Below.trod laidOut (by kernel_rfl) (of_decide_eq_true (by kernel_rfl)) k0 bel lt0) trodAll_mk0), rfl, bel.frame _, fun h => by cases h⟩

theorem over : Rows.fnCampsRow.holds Tryz.pinned (OpenSpec.ofChange Rows.fnCampsSpec) :=
  OpenClaim.holds_of_wide 3 Tryz.f3 rfl rfl rfl rfl rfl rfl rfl ⟨rfl, rfl, rfl, rfl, rfl⟩ rfl rfl rfl rfl rfl (by kernel_rfl) Tryz.func3 (by kernel_rfl)
    (of_decide_eq_true (by kernel_rfl)) (by unfold Func.isWrapper; first | (rw [if_pos (by decide +kernel)]; kernel_rfl) | (rw [if_neg (by decide +kernel)]; exact ⟨rfl, rfl⟩))
    (fun os started H enc _ => lifted os started H enc)

theorem proved : Rows.FnCampsSaid := over
end Go.Proofs.YtnmkdilnblfdnaaGreatDoor.FnCampsDone
