/- VALUE SEMANTICS, 25: from a contract to what a law's walk asks; slices of structs of integers that came in. -/
import Derived.Test.YthjlolbooehhcaaVs24
import Derived.Below
import Derived.ChangeArms
import Derived.Deep.Slices
set_option linter.unusedVariables false
set_option linter.unusedSimpArgs false
namespace Go.Vs
open Go.RowKit Go.Deep

theorem ioMem_nil : ioMem [] = noMem := by funext id; simp [ioMem, noMem]
theorem calls_below {P : Program} {f : FuncId} {args : List PV} {cargs : Array Value} {w : World} {b : Bool} (hC : Con P f args (.bool b)) (ha : Comps (fun _ => none) w (fun b => b < w.heap.size) noMem cargs args) :
    Calls P f cargs w fun e w' => e = .returned (.bool b) ∧ Below w.heap.size w w' := by
  have hM := ioMem_nil
  have hno : ∀ id (r : Row), ioMem [] id ≠ some (some r) := fun id r h => by rw [hM] at h; cases h
  have hW : WRel (fun _ => True) (fun _ => none) w [] (ioMem []) w :=
    ⟨fun _ _ r _ _ _ _ h => absurd h (hno _ r), fun _ r h => absurd h (hno _ r), fun _ r h => absurd h (hno _ r), ⟨rfl, rfl, rfl, Nat.le_refl _, fun _ _ _ => rfl, fun b cur ty fr h => ⟨cur, h, rfl⟩⟩, fun _ _ => trivial⟩
  have hS : (Stab (fun _ => True) (fun _ => none) (ioMem []) w) = (fun b => b < w.heap.size) := by
    funext x
    apply propext
    exact ⟨fun h => h.1, fun h => ⟨h, fun id r z hm => absurd hm (hno _ r), trivial⟩⟩
  refine (((hC false).2 (fun _ => True) w [] (fun _ => none) cargs hW rfl ?_).mono) ?_
  · rw [hS, hM]; exact ha
  · rintro e w' ⟨v, r, fin, rfl, ⟨rfl, rfl⟩, _, _, hr⟩
    obtain ⟨ρ', hr⟩ := hr 0 (by unfold io; omega)
    have hv := rep_bool.1 hr.val
    subst hv
    have hk := hr.rel.keep
    exact ⟨rfl, hk.os, hk.tape, hk.output, hk.size, fun k hk' => hk.block k hk' (fun z h => by cases h)⟩

def intFields (P : Program) (fs : Array Field) : Bool := (List.range fs.size).all fun j => match fs[j]? with
  | some f => Nat.beq f.offset j && Nat.beq (P.cellsOf f.type) 1 && (match P.underlying f.type with | some (.int .i64) => true | _ => false)
  | none => false
theorem intFields_ok {P : Program} {fs : Array Field} (h : intFields P fs = true) (j : Nat) (f : Field) (hf : fs[j]? = some f) : f.offset = j ∧ P.cellsOf f.type = 1 ∧ P.underlying f.type = some (.int .i64) := by
  have hj : j < fs.size := (Array.getElem?_eq_some_iff.1 hf).1
  have := List.all_eq_true.1 h j (List.mem_range.2 hj)
  simp only [hf, Bool.and_eq_true] at this
  refine ⟨Nat.eq_of_beq_eq_true this.1.1, Nat.eq_of_beq_eq_true this.1.2, ?_⟩
  have h2 := this.2
  split at h2 <;> first | assumption | cases h2
section
variable {H : Type} {enc : TypeId × Value → H} {P : Program} {w : World} {base : Nat} {spare : Nat → Bool} {held : Bool}
theorem lit_bounds {n : Int} (h : (Lit.int .i64 n).wf = true) : -9223372036854775808 ≤ n ∧ n ≤ 9223372036854775807 := by
  simp only [Lit.wf, Bool.and_eq_true, decide_eq_true_eq] at h
  exact h
theorem cell_lt {a : Addr} {c : Value} (h : w.cell? a = some c) : a.block < w.heap.size := by
  rcases Nat.lt_or_ge a.block w.heap.size with h1 | h1
  · exact h1
  · rw [World.cell?, Array.getElem?_eq_none h1] at h
    cases h
/-- A slice of structs of 64-bit integers. -/
theorem open_int_rows {t e : TypeId} {fs : Array Field} {fuel : Nat} {v : Value} {x : DataW H × List MemPlace} (ht : P.underlying t = some (.slice e)) (he : P.underlying e = some (.struct fs))
    (hint : ∀ (j : Nat) f, fs[j]? = some f → f.offset = j ∧ P.cellsOf f.type = 1 ∧ P.underlying f.type = some (.int .i64)) (hC : P.cellsOf e = fs.size) (hp : 0 < fs.size)
    (h : DataW.trod enc P w base spare held fuel t [v] = some x) :
    ∃ rows : List (List Int), rows.length ≤ Go.maxLen ∧ (∀ r ∈ rows, r.length = fs.size ∧ ∀ n ∈ r, -9223372036854775808 ≤ n ∧ n ≤ 9223372036854775807) ∧
      ∀ ρ, Rep ρ w (fun b => b < w.heap.size) noMem v (.list fs.size (rows.map fun r => r.map (PV.int .i64))) := by
  rcases open_slice ht h with ⟨h0, _⟩ | ⟨a, len, cap, m, n, D, Pl, hcs, hb, hl, hm, hmm, hx, hi⟩
  · injection h0 with h0 _
    subst h0
    exact ⟨[], by simp, fun r hr => by simp at hr, fun ρ => rep_list.2 ⟨none, 0, rfl, Nat.le_refl _, fun h => absurd rfl h⟩⟩
  · injection hcs with hcs _
    subst hcs
    have hlm : len ≤ m := by rw [hmm]; split <;> omega
    have key : ∀ i, i < len → ∃ r : List Int, r.length = fs.size ∧ (∀ n ∈ r, -9223372036854775808 ≤ n ∧ n ≤ 9223372036854775807) ∧ ∀ (j : Nat) k, r[j]? = some k → w.cell? (a.add (i * fs.size + j)) = some (.int .i64 k) := by
      intro i hil
      obtain ⟨cs', hc, ht'⟩ := hi i (by omega)
      rw [hC] at hc
      obtain ⟨ys, n', hn', hy, hlen, hyl, hf⟩ := DataW.trod_struct he ht'
      obtain ⟨_, hcl, hat⟩ := World.cells?_some hc
      have each : ∀ j, j < fs.size → ∃ k : Int, cs'[j]? = some (.int .i64 k) ∧ (Lit.int .i64 k).wf = true := by
        intro j hj
        obtain ⟨f, hfj⟩ : ∃ f, fs[j]? = some f := ⟨fs[j], Array.getElem?_eq_getElem hj⟩
        obtain ⟨ho, hk, hu⟩ := hint j f hfj
        have h1 := hf j f hfj
        rw [ho, hk] at h1
        have hone' : (cs'.drop j).take 1 = [cs'[j]'(by omega)] := by
          rw [List.drop_eq_getElem_cons (by omega)]
          rfl
        have hys : ys[j]? = some (ys[j]'(by omega)) := List.getElem?_eq_getElem (by omega)
        rw [hone', hys] at h1
        obtain ⟨k, hk1, _, hk2⟩ := DataW.trod_int hu h1
        injection hk1 with hk1 _
        exact ⟨k, by rw [List.getElem?_eq_getElem (by omega), hk1], hk2⟩
      refine ⟨(List.range fs.size).map fun j => ((cs'[j]?).map intOf).getD 0, by simp, fun n hn => ?_, fun j k hjk => ?_⟩
      · obtain ⟨j, hj, rfl⟩ := List.mem_map.1 hn
        obtain ⟨k, hk1, hk2⟩ := each j (List.mem_range.1 hj)
        rw [hk1]
        exact lit_bounds hk2
      · have hj : j < fs.size := by
          have := (List.getElem?_eq_some_iff.1 hjk).1
          simpa using this
        obtain ⟨k', hk1, hk2⟩ := each j hj
        rw [List.getElem?_map, List.getElem?_range hj] at hjk
        simp only [Option.map_some, hk1, Option.getD_some, intOf, Option.some.injEq] at hjk
        subst hjk
        rw [← Go.Deep.add_add, hat j hj, hk1]
    have hall : ∃ rows : List (List Int), rows.length = len ∧ ∀ i r, rows[i]? = some r → r.length = fs.size ∧ (∀ n ∈ r, -9223372036854775808 ≤ n ∧ n ≤ 9223372036854775807) ∧ ∀ (j : Nat) k, r[j]? = some k → w.cell? (a.add (i * fs.size + j)) = some (.int .i64 k) := by
      classical
      refine ⟨(List.range len).map fun i => if h : i < len then Classical.choose (key i h) else [], by simp, fun i r hr => ?_⟩
      have hi' : i < len := by
        have := (List.getElem?_eq_some_iff.1 hr).1
        simpa using this
      rw [List.getElem?_map, List.getElem?_range hi'] at hr
      simp only [Option.map_some, Option.some.injEq, dif_pos hi'] at hr
      subst hr
      exact Classical.choose_spec (key i hi')
    obtain ⟨rows, hlen, hrows⟩ := hall
    refine ⟨rows, by omega, fun r hr => ?_, fun ρ => rep_list.2 ⟨some a, cap, by simp [hlen], by simp; omega, fun hne => ⟨a, rfl, ?_, fun i e hie => ?_⟩⟩⟩
    · obtain ⟨i, hir⟩ := List.getElem?_of_mem hr
      exact ⟨(hrows i r hir).1, (hrows i r hir).2.1⟩
    · obtain ⟨r, hr⟩ : ∃ r, rows[0]? = some r := by
        cases rows with
        | nil => exact absurd rfl hne
        | cons r _ => exact ⟨r, rfl⟩
      obtain ⟨h1, _, h2⟩ := hrows 0 r hr
      have := h2 0 (r[0]'(by omega)) (List.getElem?_eq_getElem (by omega))
      have h3 := cell_lt this
      have h4 : (a.add (0 * fs.size + 0)).block = a.block := by simp only [Addr.add]; split <;> rfl
      rw [h4] at h3
      exact h3
    · rw [List.getElem?_map] at hie
      cases hr : rows[i]? with
      | none => rw [hr] at hie; cases hie
      | some r =>
        rw [hr] at hie
        simp only [Option.map_some, Option.some.injEq] at hie
        subst hie
        obtain ⟨h1, _, h2⟩ := hrows i r hr
        refine ⟨by simp [h1], fun j u hu => ?_⟩
        rw [List.getElem?_map] at hu
        cases hk : r[j]? with
        | none => rw [hk] at hu; cases hu
        | some k =>
          rw [hk] at hu
          simp only [Option.map_some, Option.some.injEq] at hu
          subst hu
          have := h2 j k hk
          refine ⟨_, ?_, rfl, rep_int.2 rfl⟩
          rw [Go.Deep.add_add]
          exact this
end
end Go.Vs
