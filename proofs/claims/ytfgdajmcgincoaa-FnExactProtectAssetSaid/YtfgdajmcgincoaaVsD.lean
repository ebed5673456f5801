/- VALUE SEMANTICS: Go values as pure values; what the operations, calls and loops of the model do to them. Nothing here names a program. -/
import Derived.Test.YtfgdajmcgincoaaVsC
import Derived.Below
import Derived.ChangeArms
import Derived.Deep.Slices
/- VALUE SEMANTICS, 25: from a contract to what a law's walk asks; slices of structs of integers that came in. -/
set_option linter.unusedVariables false
set_option linter.unusedSimpArgs false
namespace Go.Vs
open Go.RowKit Go.Deep

theorem ioMem_nil : ioMem [] = noMem := by funext id; simp [ioMem, noMem]
theorem calls_below {P : Program} {f : FuncId} {args : List PV} {cargs : Array Value} {w : World} {b : Bool} (hC : Con P f args (.bool b)) (ha : Comps (fun _ => none) w (fun b => b < w.heap.size) noMem cargs args) (hT : TabsAt w := by exact tabs0 _) :
    Calls P f cargs w fun e w' => e = .returned (.bool b) ∧ Below w.heap.size w w' := by
  have hM := ioMem_nil
  have hno : ∀ id (r : Row), ioMem [] id ≠ some (some r) := fun id r h => by rw [hM] at h; cases h
  have hW : WRel (fun _ => True) (fun _ => none) w [] (ioMem []) w :=
    ⟨fun _ _ r _ _ _ _ h => absurd h (hno _ r), fun _ r h => absurd h (hno _ r), fun _ r h => absurd h (hno _ r), ⟨rfl, rfl, rfl, Nat.le_refl _, fun _ _ _ => rfl, fun b cur ty fr h => ⟨cur, h, rfl⟩⟩, fun _ _ => trivial, let ⟨hp, h1, h2⟩ := hT; ⟨hp, h1, fun g hg => ⟨⟨(h2 g hg).1, fun id r z h => absurd h (hno id r), trivial⟩, (h2 g hg).2⟩⟩⟩
  have hS : (Stab (fun _ => True) (fun _ => none) (ioMem []) w) = (fun b => b < w.heap.size) := by
    funext x
    apply propext
    exact ⟨fun h => h.1, fun h => ⟨h, fun id r z hm => absurd hm (hno _ r), trivial⟩⟩
  refine (((hC false).2 (fun _ => True) w [] (fun _ => none) cargs hW rfl ?_).mono) ?_
  · rw [hS, hM]; exact ha
  · rintro e w' ⟨v, r, fin, rfl, ⟨rfl, rfl⟩, _, _, hr⟩
    obtain ⟨ρ', hr⟩ := hr 0 (by unfold io; omega)
    have hv := rep_bool.1 hr.val
    subst hv
    have hk := hr.rel.keep
    exact ⟨rfl, hk.os, hk.tape, hk.output, hk.size, fun k hk' => hk.block k hk' (fun z h => by cases h)⟩

def intFields (P : Program) (fs : Array Field) : Bool := (List.range fs.size).all fun j => match fs[j]? with
  | some f => Nat.beq f.offset j && Nat.beq (P.cellsOf f.type) 1 && (match P.underlying f.type with | some (.int .i64) => true | _ => false)
  | none => false
theorem intFields_ok {P : Program} {fs : Array Field} (h : intFields P fs = true) (j : Nat) (f : Field) (hf : fs[j]? = some f) : f.offset = j ∧ P.cellsOf f.type = 1 ∧ P.underlying f.type = some (.int .i64) := by
  have hj : j < fs.size := (Array.getElem?_eq_some_iff.1 hf).1
  have := List.all_eq_true.1 h j (List.mem_range.2 hj)
  simp only [hf, Bool.and_eq_true] at this
  refine ⟨Nat.eq_of_beq_eq_true this.1.1, Nat.eq_of_beq_eq_true this.1.2, ?_⟩
  have h2 := this.2
  split at h2 <;> first | assumption | cases h2
section
variable {H : Type} {enc : TypeId × Value → H} {P : Program} {w : World} {base : Nat} {spare : Nat → Bool} {held : Bool}
theorem lit_bounds {n : Int} (h : (Lit.int .i64 n).wf = true) : -9223372036854775808 ≤ n ∧ n ≤ 9223372036854775807 := by
  simp only [Lit.wf, Bool.and_eq_true, decide_eq_true_eq] at h
  exact h
theorem cell_lt {a : Addr} {c : Value} (h : w.cell? a = some c) : a.block < w.heap.size := by
  rcases Nat.lt_or_ge a.block w.heap.size with h1 | h1
  · exact h1
  · rw [World.cell?, Array.getElem?_eq_none h1] at h
    cases h
/-- A slice of structs of 64-bit integers. -/
theorem open_int_rows {t e : TypeId} {fs : Array Field} {fuel : Nat} {v : Value} {x : DataW H × List MemPlace} (ht : P.underlying t = some (.slice e)) (he : P.underlying e = some (.struct fs))
    (hint : ∀ (j : Nat) f, fs[j]? = some f → f.offset = j ∧ P.cellsOf f.type = 1 ∧ P.underlying f.type = some (.int .i64)) (hC : P.cellsOf e = fs.size) (hp : 0 < fs.size)
    (h : DataW.trod enc P w base spare held fuel t [v] = some x) :
    ∃ rows : List (List Int), rows.length ≤ Go.maxLen ∧ (∀ r ∈ rows, r.length = fs.size ∧ ∀ n ∈ r, -9223372036854775808 ≤ n ∧ n ≤ 9223372036854775807) ∧
      ∀ ρ, Rep ρ w (fun b => b < w.heap.size) noMem v (.list fs.size (rows.map fun r => r.map (PV.int .i64))) := by
  rcases open_slice ht h with ⟨h0, _⟩ | ⟨a, len, cap, m, n, D, Pl, hcs, hb, hl, hm, hmm, hx, hi⟩
  · injection h0 with h0 _
    subst h0
    exact ⟨[], by simp, fun r hr => by simp at hr, fun ρ => rep_list.2 ⟨none, 0, rfl, Nat.le_refl _, fun h => absurd rfl h⟩⟩
  · injection hcs with hcs _
    subst hcs
    have hlm : len ≤ m := by rw [hmm]; split <;> omega
    have key : ∀ i, i < len → ∃ r : List Int, r.length = fs.size ∧ (∀ n ∈ r, -9223372036854775808 ≤ n ∧ n ≤ 9223372036854775807) ∧ ∀ (j : Nat) k, r[j]? = some k → w.cell? (a.add (i * fs.size + j)) = some (.int .i64 k) := by
      intro i hil
      obtain ⟨cs', hc, ht'⟩ := hi i (by omega)
      rw [hC] at hc
      obtain ⟨ys, n', hn', hy, hlen, hyl, hf⟩ := DataW.trod_struct he ht'
      obtain ⟨_, hcl, hat⟩ := World.cells?_some hc
      have each : ∀ j, j < fs.size → ∃ k : Int, cs'[j]? = some (.int .i64 k) ∧ (Lit.int .i64 k).wf = true := by
        intro j hj
        obtain ⟨f, hfj⟩ : ∃ f, fs[j]? = some f := ⟨fs[j], Array.getElem?_eq_getElem hj⟩
        obtain ⟨ho, hk, hu⟩ := hint j f hfj
        have h1 := hf j f hfj
        rw [ho, hk] at h1
        have hone' : (cs'.drop j).take 1 = [cs'[j]'(by omega)] := by
          rw [List.drop_eq_getElem_cons (by omega)]
          rfl
        have hys : ys[j]? = some (ys[j]'(by omega)) := List.getElem?_eq_getElem (by omega)
        rw [hone', hys] at h1
        obtain ⟨k, hk1, _, hk2⟩ := DataW.trod_int hu h1
        injection hk1 with hk1 _
        exact ⟨k, by rw [List.getElem?_eq_getElem (by omega), hk1], hk2⟩
      refine ⟨(List.range fs.size).map fun j => ((cs'[j]?).map intOf).getD 0, by simp, fun n hn => ?_, fun j k hjk => ?_⟩
      · obtain ⟨j, hj, rfl⟩ := List.mem_map.1 hn
        obtain ⟨k, hk1, hk2⟩ := each j (List.mem_range.1 hj)
        rw [hk1]
        exact lit_bounds hk2
      · have hj : j < fs.size := by
          have := (List.getElem?_eq_some_iff.1 hjk).1
          simpa using this
        obtain ⟨k', hk1, hk2⟩ := each j hj
        rw [List.getElem?_map, List.getElem?_range hj] at hjk
        simp only [Option.map_some, hk1, Option.getD_some, intOf, Option.some.injEq] at hjk
        subst hjk
        rw [← Go.Deep.add_add, hat j hj, hk1]
    have hall : ∃ rows : List (List Int), rows.length = len ∧ ∀ i r, rows[i]? = some r → r.length = fs.size ∧ (∀ n ∈ r, -9223372036854775808 ≤ n ∧ n ≤ 9223372036854775807) ∧ ∀ (j : Nat) k, r[j]? = some k → w.cell? (a.add (i * fs.size + j)) = some (.int .i64 k) := by
      classical
      refine ⟨(List.range len).map fun i => if h : i < len then Classical.choose (key i h) else [], by simp, fun i r hr => ?_⟩
      have hi' : i < len := by
        have := (List.getElem?_eq_some_iff.1 hr).1
        simpa using this
      rw [List.getElem?_map, List.getElem?_range hi'] at hr
      simp only [Option.map_some, Option.some.injEq, dif_pos hi'] at hr
      subst hr
      exact Classical.choose_spec (key i hi')
    obtain ⟨rows, hlen, hrows⟩ := hall
    refine ⟨rows, by omega, fun r hr => ?_, fun ρ => rep_list.2 ⟨some a, cap, by simp [hlen], by simp; omega, fun hne => ⟨a, rfl, ?_, fun i e hie => ?_⟩⟩⟩
    · obtain ⟨i, hir⟩ := List.getElem?_of_mem hr
      exact ⟨(hrows i r hir).1, (hrows i r hir).2.1⟩
    · obtain ⟨r, hr⟩ : ∃ r, rows[0]? = some r := by
        cases rows with
        | nil => exact absurd rfl hne
        | cons r _ => exact ⟨r, rfl⟩
      obtain ⟨h1, _, h2⟩ := hrows 0 r hr
      have := h2 0 (r[0]'(by omega)) (List.getElem?_eq_getElem (by omega))
      have h3 := cell_lt this
      have h4 : (a.add (0 * fs.size + 0)).block = a.block := by simp only [Addr.add]; split <;> rfl
      rw [h4] at h3
      exact h3
    · rw [List.getElem?_map] at hie
      cases hr : rows[i]? with
      | none => rw [hr] at hie; cases hie
      | some r =>
        rw [hr] at hie
        simp only [Option.map_some, Option.some.injEq] at hie
        subst hie
        obtain ⟨h1, _, h2⟩ := hrows i r hr
        refine ⟨by simp [h1], fun j u hu => ?_⟩
        rw [List.getElem?_map] at hu
        cases hk : r[j]? with
        | none => rw [hk] at hu; cases hu
        | some k =>
          rw [hk] at hu
          simp only [Option.map_some, Option.some.injEq] at hu
          subst hu
          have := h2 j k hk
          refine ⟨_, ?_, rfl, rep_int.2 rfl⟩
          rw [Go.Deep.add_add]
          exact this
end
end Go.Vs

/- VALUE SEMANTICS, 30: arguments of any shape that came in: numbers, strings, structs and slices of them, nested. -/
set_option linter.unusedVariables false
set_option linter.unusedSimpArgs false
namespace Go.Vs
open Go.RowKit Go.Deep

inductive Sh where
  | int
  | str
  | bool
  | byte
  | slice (e : List Sh)

def CellIs : Nat → Sh → PV → Prop
  | 0, _, _ => False
  | d + 1, sh, u => match sh with
    | .int => ∃ n : Int, u = .int .i64 n ∧ -9223372036854775808 ≤ n ∧ n ≤ 9223372036854775807
    | .str => ∃ s, u = .str s ∧ s.size ≤ Go.maxLen
    | .bool => ∃ b, u = .bool b
    | .byte => ∃ n : Int, u = .int .u8 n ∧ 0 ≤ n ∧ n ≤ 255
    | .slice es => ∃ els : List (List PV), u = .list es.length els ∧ els.length ≤ Go.maxLen ∧ ∀ el ∈ els, el.length = es.length ∧ ∀ (j : Nat) sh' u', es[j]? = some sh' → el[j]? = some u' → CellIs d sh' u'
def fieldsOk (P : Program) (ok : TypeId → List Sh → Bool) : List Field → Nat → List Sh → Bool
  | [], _, shs => shs.isEmpty
  | f :: fs, off, shs => Nat.beq f.offset off && (Nat.ble (P.cellsOf f.type) shs.length && (ok f.type (shs.take (P.cellsOf f.type)) && fieldsOk P ok fs (off + P.cellsOf f.type) (shs.drop (P.cellsOf f.type))))
def shOk (P : Program) : Nat → TypeId → List Sh → Bool
  | 0, _, _ => false
  | d + 1, T, shs => match P.underlying T with
    | some (.int .i64) => match shs with | [.int] => true | _ => false
    | some .string => match shs with | [.str] => true | _ => false
    | some .bool => match shs with | [.bool] => true | _ => false
    | some (.int .u8) => match shs with | [.byte] => true | _ => false
    | some (.slice e) => match shs with | [.slice es] => Nat.beq (P.cellsOf e) es.length && (Nat.blt 0 es.length && shOk P d e es) | _ => false
    | some (.struct fs) => Nat.beq (P.cellsOf T) shs.length && fieldsOk P (shOk P d) fs.toList 0 shs
    | _ => false
theorem lit_bytes {n : Int} (h : (Lit.int .u8 n).wf = true) : 0 ≤ n ∧ n ≤ 255 := by
  simp only [Lit.wf, Bool.and_eq_true, decide_eq_true_eq] at h
  exact h
section
variable {H : Type} {enc : TypeId × Value → H} {P : Program} {w : World} {base : Nat} {spare : Nat → Bool} {held : Bool}
def OpenAt (w : World) (d : Nat) (sh : Sh) (oc : Option Value) : Prop := ∃ c u, oc = some c ∧ c.oneCell' = true ∧ CellIs d sh u ∧ ∀ ρ, Rep ρ w (fun b => b < w.heap.size) noMem c u
theorem fields_open {d n : Nat} {cs : List Value} (ih : ∀ T shs fuel cs x, shOk P d T shs = true → DataW.trod enc P w base spare held fuel T cs = some x → cs.length = shs.length ∧ ∀ (j : Nat) sh, shs[j]? = some sh → OpenAt w d sh cs[j]?) :
    ∀ (l : List Field) (off : Nat) (shs : List Sh), fieldsOk P (shOk P d) l off shs = true → (∀ f ∈ l, ∃ x, DataW.trod enc P w base spare held n f.type ((cs.drop f.offset).take (P.cellsOf f.type)) = some x) →
      ∀ (j : Nat) sh, shs[j]? = some sh → OpenAt w d sh cs[off + j]?
  | [], off, shs, h, _, j, sh, hj => by
    cases shs with
    | nil => simp at hj
    | cons a r => cases h
  | f :: fs, off, shs, h, hf, j, sh, hj => by
    simp only [fieldsOk, Bool.and_eq_true] at h
    obtain ⟨h1, h2, h3, h4⟩ := h
    have h1 := Nat.eq_of_beq_eq_true h1
    have h2 := Nat.le_of_ble_eq_true h2
    obtain ⟨x, hx⟩ := hf f List.mem_cons_self
    obtain ⟨g1, g2⟩ := ih _ _ _ _ _ h3 hx
    rcases Nat.lt_or_ge j (P.cellsOf f.type) with hlt | hge
    · have := g2 j sh (by rw [List.getElem?_take, if_pos hlt]; exact hj)
      rw [List.getElem?_take, if_pos hlt, List.getElem?_drop, h1] at this
      exact this
    · have := fields_open ih fs (off + P.cellsOf f.type) _ h4 (fun g hg => hf g (List.mem_cons_of_mem _ hg)) (j - P.cellsOf f.type) sh (by rw [List.getElem?_drop]; rw [show P.cellsOf f.type + (j - P.cellsOf f.type) = j by omega]; exact hj)
      rw [show off + P.cellsOf f.type + (j - P.cellsOf f.type) = off + j by omega] at this
      exact this
theorem open_cells : ∀ (d : Nat) (T : TypeId) (shs : List Sh) (fuel : Nat) (cs : List Value) (x : DataW H × List MemPlace), shOk P d T shs = true → DataW.trod enc P w base spare held fuel T cs = some x →
    cs.length = shs.length ∧ ∀ (j : Nat) sh, shs[j]? = some sh → OpenAt w d sh cs[j]?
  | 0, _, _, _, _, _, h, _ => by cases h
  | d + 1, T, shs, fuel, cs, x, h, hx => by
    have ih := fun T shs fuel cs x => open_cells d T shs fuel cs x
    have single : ∀ {sh : Sh} {c : Value} {u : PV}, c.oneCell' = true → CellIs (d + 1) sh u → (∀ ρ, Rep ρ w (fun b => b < w.heap.size) noMem c u) → [c].length = [sh].length ∧ ∀ (j : Nat) sh', [sh][j]? = some sh' → OpenAt w (d + 1) sh' [c][j]? := by
      intro sh c u h1 h2 h3
      refine ⟨rfl, fun j sh' hj => ?_⟩
      cases j with
      | zero => simp at hj; subst hj; exact ⟨c, u, rfl, h1, h2, h3⟩
      | succ j => simp at hj
    simp only [shOk] at h
    split at h
    · rename_i hu
      split at h
      · obtain ⟨n, rfl, _, hwf⟩ := DataW.trod_int hu hx
        exact single (u := .int .i64 n) rfl ⟨n, rfl, lit_bounds hwf⟩ fun ρ => rep_int.2 rfl
      · cases h
    · rename_i hu
      split at h
      · obtain ⟨s, rfl, _, hs⟩ := DataW.trod_string hu hx
        exact single (u := .str s) rfl ⟨s, rfl, hs⟩ fun ρ => rep_str.2 rfl
      · cases h
    · rename_i hu
      split at h
      · obtain ⟨b, rfl, _⟩ := DataW.trod_bool hu hx
        exact single (u := .bool b) rfl ⟨b, rfl⟩ fun ρ => rep_bool.2 rfl
      · cases h
    · rename_i hu
      split at h
      · obtain ⟨n, rfl, _, hwf⟩ := DataW.trod_int hu hx
        exact single (u := .int .u8 n) rfl ⟨n, rfl, lit_bytes hwf⟩ fun ρ => rep_int.2 rfl
      · cases h
    · rename_i e hu
      split at h
      · rename_i es
        simp only [Bool.and_eq_true] at h
        obtain ⟨h1, h2, h3⟩ := h
        have h1 := Nat.eq_of_beq_eq_true h1
        have h2 : 0 < es.length := by simpa using h2
        rcases open_slice hu hx with ⟨rfl, _⟩ | ⟨a, len, cap, m, n, D, Pl, rfl, hb, hl, hm, hmm, _, hi⟩
        · exact single (u := .list es.length []) rfl ⟨[], rfl, by simp, fun el hel => by simp at hel⟩ fun ρ => rep_list.2 ⟨none, 0, rfl, Nat.le_refl _, fun h => absurd rfl h⟩
        · have hlm : len ≤ m := by rw [hmm]; split <;> omega
          have key : ∀ i, i < len → ∃ el : List PV, el.length = es.length ∧ ∀ (j : Nat) u, el[j]? = some u → ∃ c, w.cell? (a.add (i * es.length + j)) = some c ∧ c.oneCell' = true ∧ (∀ sh', es[j]? = some sh' → CellIs d sh' u) ∧
              ∀ ρ, Rep ρ w (fun b => b < w.heap.size) noMem c u := by
            intro i hil
            obtain ⟨cs', hc, ht'⟩ := hi i (by omega)
            obtain ⟨g1, g2⟩ := ih _ _ _ _ _ h3 ht'
            rw [h1] at hc
            obtain ⟨_, hcl, hat⟩ := World.cells?_some hc
            classical
            refine ⟨(List.range es.length).map fun j => if hj : j < es.length then Classical.choose (Classical.choose_spec (g2 j es[j] (List.getElem?_eq_getElem hj))) else .any, by simp, fun j u hu => ?_⟩
            have hj : j < es.length := by
              have := (List.getElem?_eq_some_iff.1 hu).1
              simpa using this
            rw [List.getElem?_map, List.getElem?_range hj] at hu
            simp only [Option.map_some, Option.some.injEq, dif_pos hj] at hu
            have hsp := Classical.choose_spec (Classical.choose_spec (g2 j es[j] (List.getElem?_eq_getElem hj)))
            rw [hu] at hsp
            refine ⟨_, ?_, hsp.2.1, fun sh' hs' => ?_, hsp.2.2.2⟩
            · rw [← Go.Deep.add_add, hat j (by omega)]
              exact hsp.1
            · rw [List.getElem?_eq_getElem hj] at hs'
              injection hs' with hs'
              rw [← hs']
              exact hsp.2.2.1
          have hall : ∃ els : List (List PV), els.length = len ∧ ∀ i el, els[i]? = some el → el.length = es.length ∧ ∀ (j : Nat) u, el[j]? = some u → ∃ c, w.cell? (a.add (i * es.length + j)) = some c ∧ c.oneCell' = true ∧ (∀ sh', es[j]? = some sh' → CellIs d sh' u) ∧
              ∀ ρ, Rep ρ w (fun b => b < w.heap.size) noMem c u := by
            classical
            refine ⟨(List.range len).map fun i => if h : i < len then Classical.choose (key i h) else [], by simp, fun i r hr => ?_⟩
            have hi' : i < len := by
              have := (List.getElem?_eq_some_iff.1 hr).1
              simpa using this
            rw [List.getElem?_map, List.getElem?_range hi'] at hr
            simp only [Option.map_some, Option.some.injEq, dif_pos hi'] at hr
            subst hr
            exact Classical.choose_spec (key i hi')
          obtain ⟨els, hlen, hels⟩ := hall
          refine single (u := .list es.length els) rfl ⟨els, rfl, by omega, fun el hel => ?_⟩ fun ρ => rep_list.2 ⟨some a, cap, by rw [hlen], by omega, fun hne => ⟨a, rfl, ?_, fun i el hi => ⟨(hels i el hi).1, fun j u hu => ?_⟩⟩⟩
          · obtain ⟨i, hi⟩ := List.getElem?_of_mem hel
            refine ⟨(hels i el hi).1, fun j sh' u' hs hu => ?_⟩
            obtain ⟨c, _, _, h5, _⟩ := (hels i el hi).2 j u' hu
            exact h5 sh' hs
          · obtain ⟨el, hel⟩ : ∃ el, els[0]? = some el := by
              cases els with
              | nil => exact absurd rfl hne
              | cons r _ => exact ⟨r, rfl⟩
            obtain ⟨g1, g2⟩ := hels 0 el hel
            obtain ⟨c, k1, _⟩ := g2 0 (el[0]'(by omega)) (List.getElem?_eq_getElem (by omega))
            have h3 := cell_lt k1
            have h4 : (a.add (0 * es.length + 0)).block = a.block := by simp only [Addr.add]; split <;> rfl
            rw [h4] at h3
            exact h3
          · obtain ⟨c, k1, k2, _, k4⟩ := (hels i el hi).2 j u hu
            refine ⟨c, ?_, k2, k4 ρ⟩
            rw [Go.Deep.add_add]
            exact k1
      · cases h
    · rename_i fs hu
      rw [Bool.and_eq_true] at h
      obtain ⟨ys, n, _, _, hlen, hyl, hf⟩ := DataW.trod_struct hu hx
      have hc := Nat.eq_of_beq_eq_true h.1
      refine ⟨by rw [hlen, hc], fun j sh hj => ?_⟩
      have := fields_open (cs := cs) (n := n) ih fs.toList 0 shs h.2 (fun f hfm => ?_) j sh hj
      · rw [Nat.zero_add] at this
        obtain ⟨c, u, k1, k2, k3, k4⟩ := this
        refine ⟨c, u, k1, k2, ?_, k4⟩
        have mono : ∀ (d : Nat) (sh : Sh) (u : PV), CellIs d sh u → CellIs (d + 1) sh u := by
          intro d
          induction d with
          | zero => intro sh u h; exact h.elim
          | succ d ihd =>
            intro sh u h
            cases sh with
            | int => exact h
            | str => exact h
            | bool => exact h
            | byte => exact h
            | slice es =>
              obtain ⟨els, h1, h2, h3⟩ := h
              exact ⟨els, h1, h2, fun el hel => ⟨(h3 el hel).1, fun j sh' u' hs hu => ihd _ _ ((h3 el hel).2 j sh' u' hs hu)⟩⟩
        exact mono d sh u k3
      · obtain ⟨i, hi⟩ := List.getElem?_of_mem hfm
        rw [Array.getElem?_toList] at hi
        have hil : i < ys.length := by rw [hyl]; exact (Array.getElem?_eq_some_iff.1 hi).1
        exact ⟨ys[i], by rw [hf i f hi, List.getElem?_eq_getElem hil]⟩
    · cases h
/-- The cells of a value of a type: pure values that have the type's shape. -/
theorem open_all {d : Nat} {T : TypeId} {shs : List Sh} {fuel : Nat} {cs : List Value} {x : DataW H × List MemPlace} (h : shOk P d T shs = true) (hx : DataW.trod enc P w base spare held fuel T cs = some x) :
    ∃ us : List PV, us.length = shs.length ∧ (∀ (j : Nat) sh u, shs[j]? = some sh → us[j]? = some u → CellIs d sh u) ∧ ∀ ρ, Comps ρ w (fun b => b < w.heap.size) noMem cs.toArray us := by
  obtain ⟨h1, h2⟩ := open_cells d T shs fuel cs x h hx
  classical
  refine ⟨(List.range shs.length).map fun j => if hj : j < shs.length then Classical.choose (Classical.choose_spec (h2 j shs[j] (List.getElem?_eq_getElem hj))) else .any, by simp, fun j sh u hs hu => ?_, fun ρ => ⟨by simp [h1], fun j u hu => ?_⟩⟩
  · have hj : j < shs.length := (List.getElem?_eq_some_iff.1 hs).1
    rw [List.getElem?_map, List.getElem?_range hj] at hu
    simp only [Option.map_some, Option.some.injEq, dif_pos hj] at hu
    have hsp := Classical.choose_spec (Classical.choose_spec (h2 j shs[j] (List.getElem?_eq_getElem hj)))
    rw [hu] at hsp
    rw [List.getElem?_eq_getElem hj] at hs
    injection hs with hs
    rw [← hs]
    exact hsp.2.2.1
  · have hj : j < shs.length := by
      have := (List.getElem?_eq_some_iff.1 hu).1
      simpa using this
    rw [List.getElem?_map, List.getElem?_range hj] at hu
    simp only [Option.map_some, Option.some.injEq, dif_pos hj] at hu
    have hsp := Classical.choose_spec (Classical.choose_spec (h2 j shs[j] (List.getElem?_eq_getElem hj)))
    rw [hu] at hsp
    refine ⟨_, ?_, hsp.2.2.2 ρ⟩
    rw [List.getElem?_toArray]
    exact hsp.1
end
/- Out of shapes: numbers, lists. -/
theorem cell_int {d : Nat} {u : PV} (h : CellIs (d + 1) .int u) : ∃ n : Int, u = .int .i64 n ∧ -9223372036854775808 ≤ n ∧ n ≤ 9223372036854775807 := h
theorem cell_byte {d : Nat} {u : PV} (h : CellIs (d + 1) .byte u) : ∃ n : Int, u = .int .u8 n ∧ 0 ≤ n ∧ n ≤ 255 := h
theorem cell_str {d : Nat} {u : PV} (h : CellIs (d + 1) .str u) : ∃ s, u = .str s ∧ s.size ≤ Go.maxLen := h
/-- A list whose elements are of a shape that can be read. -/
theorem cell_list {α : Type} {d : Nat} {es : List Sh} {u : PV} (f : α → List PV) (h : CellIs (d + 1) (.slice es) u)
    (hf : ∀ el : List PV, el.length = es.length → (∀ (j : Nat) sh' u', es[j]? = some sh' → el[j]? = some u' → CellIs d sh' u') → ∃ a, el = f a) : ∃ xs : List α, u = .list es.length (xs.map f) ∧ xs.length ≤ Go.maxLen := by
  obtain ⟨els, rfl, h2, h3⟩ := h
  have : ∃ xs : List α, els = xs.map f := by
    clear h2
    induction els with
    | nil => exact ⟨[], rfl⟩
    | cons el r ih =>
      obtain ⟨xs, hx⟩ := ih fun el' hel => h3 el' (List.mem_cons_of_mem _ hel)
      obtain ⟨a, ha⟩ := hf el (h3 el List.mem_cons_self).1 (h3 el List.mem_cons_self).2
      exact ⟨a :: xs, by rw [List.map_cons, ← hx, ← ha]⟩
  obtain ⟨xs, rfl⟩ := this
  exact ⟨xs, rfl, by simpa using h2⟩
end Go.Vs
