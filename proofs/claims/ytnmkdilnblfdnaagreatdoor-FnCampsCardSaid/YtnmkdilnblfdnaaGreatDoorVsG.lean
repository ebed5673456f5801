/- VALUE SEMANTICS: Go values as pure values; what the operations, calls and loops of the model do to them. Nothing here names a program. -/
import Derived.Test.YtnmkdilnblfdnaaGreatDoorVsC
import Derived.Below
/- VALUE SEMANTICS, 41: functions of the library, met by the kit's contracts, as contracts of values. -/
set_option linter.unusedVariables false
set_option linter.unusedSimpArgs false
namespace Go.Vs
open Go.RowKit

theorem Tabs.at {G : Nat → Prop} {ρ : Id → Option (Nat × Nat)} {M : Mem} {w : World} (h : Tabs G ρ M w) : TabsAt w :=
  let ⟨hp, h1, h2⟩ := h
  ⟨hp, h1, fun g hg => ⟨(h2 g hg).1.1, (h2 g hg).2⟩⟩
theorem wrel_below {G : Nat → Prop} {ρ : Id → Option (Nat × Nat)} {X : List (Option (Nat × Nat))} {w w' : World} (hW : WRel G ρ w X (ioMem []) w) (hb : Below w.heap.size w w') : WRel G ρ w X noMem w' := by
  have lt : ∀ {b : Nat} {o : Obj}, w.heap[b]? = some o → b < w.heap.size := fun h => (Array.getElem?_eq_some_iff.1 h).1
  refine ⟨fun id id' r r' b z z' h => by simp [noMem] at h, fun id r h => by simp [noMem] at h, fun id r h => by simp [noMem] at h,
    ⟨hb.os, hb.tape, hb.output, hb.size, fun b hlt _ => hb.block b hlt, fun b cur ty fr h => ⟨cur, (hb.block b (lt h)).trans h, rfl⟩⟩, hW.good, hW.tab.mono fun b hs => ⟨⟨Nat.lt_of_lt_of_le hs.1 hb.size, fun id r z h => by simp [noMem] at h, hs.2.2⟩, hb.block b hs.1⟩⟩

/-- A function whose result holds no memory. -/
theorem con_lib {P : Program} {f : FuncId} {args : List PV} {vs : Array Value} {r : PV} (hcall : Callable P f)
    (hargs : ∀ {ρ w S M} {cargs : Array Value}, Comps ρ w S M cargs args → cargs = vs) (hth : ∀ t, (thaw t r).2 = [] ∧ (thaw t r).1 = r)
    (h : ∀ w, TabsAt w → Calls P f vs w fun e w' => ∃ v, e = .returned v ∧ (∀ ρ S M, Rep ρ w' S M v r) ∧ Below w.heap.size w w') : Con P f args r := by
  intro al
  refine ⟨hcall, fun G w X ρ cargs hW hX ha => ?_⟩
  have hc := hargs ha
  subst hc
  refine (h w hW.tab.at).mono ?_
  rintro e w' ⟨v, rfl, hv, hb⟩
  refine ⟨v, r, [], rfl, ⟨rfl, rfl⟩, rfl, fun k row f h => by simp at h, fun t ht => ⟨ρ, ?_⟩⟩
  have hio : ioMem (withEs [] ([] : List (List (List PV)))) = noMem := by funext id; simp [ioMem, noMem, withEs]
  refine ⟨?_, ?_, ?_⟩
  · rw [hio, (hth t).1]; exact wrel_below hW hb
  · intro id row b z h
    rw [(hth t).1] at h
    simp [Mem.upds, noMem] at h
  · rw [(hth t).2]; exact hv _ _ _

/-- A function that hands out a new list of strings. -/
theorem con_libS {P : Program} {f : FuncId} {args : List PV} {vs : Array Value} {ty : TypeId} {ss : List ByteArray} (hcall : Callable P f)
    (hargs : ∀ {ρ w S M} {cargs : Array Value}, Comps ρ w S M cargs args → cargs = vs) (hlen : ss.length ≤ maxLen) (hpos : ss ≠ [])
    (h : ∀ w, TabsAt w → Calls P f vs w fun e w' => e = .returned (.slice (some ⟨w.heap.size, 0, none⟩) ss.length ss.length) ∧ w' = w.alloc (.cells (ss.map Value.string).toArray ty)) :
    Con P f args (.olist ty 1 (ss.map fun s => [.str s])) := by
  intro al
  refine ⟨hcall, fun G w X ρ cargs hW hX ha => ?_⟩
  have hc := hargs ha
  subst hc
  refine (h w hW.tab.at).mono ?_
  rintro e w' ⟨rfl, rfl⟩
  refine ⟨_, .olist ty 1 (ss.map fun s => [.str s]), [], rfl, ⟨rfl, rfl⟩, rfl, fun k row f h => by simp at h, fun t ht => ?_⟩
  have hio : ioMem (withEs [] ([] : List (List (List PV)))) = noMem := by funext id; simp [ioMem, noMem, withEs]
  have hcell : ∀ (i : Nat) e, (ss.map fun s => [PV.str s])[i]? = some e → e.length = 1 ∧ ∀ (j : Nat) u, e[j]? = some u → ∃ s, (ss.map Value.string).toArray[i * 1 + j]? = some (.string s) ∧ u = .str s := by
    intro i e hi
    rw [List.getElem?_map] at hi
    obtain ⟨s, hs, rfl⟩ := Option.map_eq_some_iff.1 hi
    refine ⟨rfl, fun j u hu => ?_⟩
    cases j with
    | zero =>
      simp at hu
      subst hu
      exact ⟨s, by simp [hs], rfl⟩
    | succ j => simp at hu
  have W0 : WRel G ρ w X noMem w := wrel_below hW (Below.refl _ _)
  obtain ⟨T, W⟩ := W0.newRow (id := (t, 0)) rfl ht ⟨ty, 1, ss.map fun s => [.str s], false⟩ (w.alloc (.cells (ss.map Value.string).toArray ty)) (ss.map Value.string).toArray ss.length rfl rfl rfl rfl (by simp) hlen (by simp) Nat.one_pos
    (fun i e hi => ⟨(hcell i e hi).1, fun j u hu => let ⟨s, h1, h2⟩ := (hcell i e hi).2 j u hu; ⟨_, h1, rfl, by rw [h2]; exact rep_str.2 rfl⟩⟩)
  have hnew : (w.alloc (.cells (ss.map Value.string).toArray ty)).heap[w.heap.size]? = some (.cells (ss.map Value.string).toArray ty (0, 0)) := Array.getElem?_push_size
  refine ⟨setAt ρ (t, 0) (some (w.heap.size, 0)), ?_, ?_, ?_⟩
  · rw [hio]; exact W
  · intro id row b z hM hρ
    simp only [thaw, thaw1, Mem.upds, Mem.set] at hM
    split at hM
    · rename_i hid
      injection hM with hM
      injection hM with hM
      subst hM hid
      simp only [setAt, if_true, Option.some.injEq, Prod.mk.injEq] at hρ
      obtain ⟨rfl, rfl⟩ := hρ
      refine ⟨rfl, (ss.map Value.string).toArray, hnew, fun i e hi j u hu => ?_⟩
      obtain ⟨s, h1, h2⟩ := (hcell i e hi).2 j u hu
      exact ⟨.string s, by rw [Nat.zero_add]; exact h1, by rw [h2]; exact rep_str.2 rfl⟩
    · simp [noMem] at hM
  · simp only [thaw, thaw1]
    refine (rep_osl (r := ⟨ty, 1, ss.map fun s => [.str s], false⟩) (by simp [Mem.upds, Mem.set])).2 ?_
    have hs0 : setAt ρ (t, 0) (some (w.heap.size, 0)) (t, 0) = some (w.heap.size, 0) := by simp [setAt]
    rw [hs0]
    have hl : (ss.map fun s => [PV.str s]).length = ss.length := by simp
    rw [hl]
    refine ⟨⟨w.heap.size, 0, none⟩, ss.length, rfl, ?_, Nat.le_refl _, hlen, fun _ => ⟨?_, (ss.map Value.string).toArray, hnew, ?_⟩⟩
    · rw [hl]; exact Nat.le_of_eq (Nat.zero_add _)
    · simp
    · simp
end Go.Vs
