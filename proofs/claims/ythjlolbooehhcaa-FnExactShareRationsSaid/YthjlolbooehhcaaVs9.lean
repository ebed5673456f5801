/- VALUE SEMANTICS, 9: composite literals, make, the builtins; every step is sound. -/
import Derived.Test.YthjlolbooehhcaaVs8
set_option linter.unusedVariables false
set_option linter.unusedSimpArgs false
namespace Go.Vs
section
variable {P : Program} {a : Act} {o : Oper} {G : Nat → Prop} {ρ : Id → Option (Nat × Nat)} {w0 : World} {X : List (Option (Nat × Nat))} {M : Mem} {w : World} {V : Nat → PV} {f : Eff}

theorem Comps.append {S : Nat → Prop} {xs ys : Array Value} {us vs : List PV} (h : Comps ρ w S M xs us) (g : Comps ρ w S M ys vs) : Comps ρ w S M (xs ++ ys) (us ++ vs) := by
  refine ⟨by simp [h.1, g.1], fun j u hu => ?_⟩
  rw [list_two_at] at hu
  split at hu
  · obtain ⟨c, h1, h2⟩ := h.2 j u hu
    exact ⟨c, by rw [Array.getElem?_append_left (Array.getElem?_eq_some_iff.1 h1).1]; exact h1, h2⟩
  · obtain ⟨c, h1, h2⟩ := g.2 _ u hu
    exact ⟨c, by rw [Array.getElem?_append_right (by rw [h.1]; omega), h.1]; exact h1, h2⟩
theorem Comps.take {S : Nat → Prop} {xs : Array Value} {us : List PV} (h : Comps ρ w S M xs us) (n : Nat) : Comps ρ w S M (xs.toList.take n).toArray (us.take n) := by
  refine ⟨by simp [h.1], fun j u hu => ?_⟩
  rw [List.getElem?_take] at hu
  split at hu
  · rename_i hj
    obtain ⟨c, h1, h2⟩ := h.2 j u hu
    exact ⟨c, by rw [List.getElem?_toArray, List.getElem?_take, if_pos hj, Array.getElem?_toList]; exact h1, h2⟩
  · cases hu
theorem Comps.drop {S : Nat → Prop} {xs : Array Value} {us : List PV} (h : Comps ρ w S M xs us) (n : Nat) : Comps ρ w S M (xs.toList.drop n).toArray (us.drop n) := by
  refine ⟨by simp [h.1], fun j u hu => ?_⟩
  rw [List.getElem?_drop] at hu
  obtain ⟨c, h1, h2⟩ := h.2 _ u hu
  exact ⟨c, by rw [List.getElem?_toArray, List.getElem?_drop, Array.getElem?_toList]; exact h1, h2⟩

/-- Cells set one after the other from an offset on. -/
theorem foldl_set (vs : List Value) : ∀ (k off : Nat) (cs : Array Value), off + k + vs.length ≤ cs.size →
    (((vs.zipIdx k).foldl (fun cs (p : Value × Nat) => cs.setIfInBounds (off + p.2) p.1) cs)).toList = cs.toList.take (off + k) ++ vs ++ cs.toList.drop (off + k + vs.length) := by
  induction vs with
  | nil => intro k off cs h; simp
  | cons v vs ih =>
    intro k off cs h
    simp only [List.length_cons] at h
    simp only [List.zipIdx_cons, List.foldl_cons]
    rw [show k + 1 = k + 1 from rfl, ih (k + 1) off _ (by simp; omega)]
    have hlt : off + k < cs.toList.length := by simp; omega
    have e1 : (cs.setIfInBounds (off + k) v).toList = cs.toList.set (off + k) v := by simp
    rw [e1, ← Nat.add_assoc, List.take_set, List.drop_set_of_lt (by omega)]
    rw [List.take_succ_eq_append_getElem hlt, List.set_append_right _ _ (by simp; omega)]
    have hm : off + k - (List.take (off + k) cs.toList).length = 0 := by simp; omega
    rw [hm]
    simp [Nat.add_comm, Nat.add_left_comm]

theorem fill_sound (hV : ∀ t, Rep ρ w (Stab G ρ M w) M (a.tmps.getD t undef) (V t)) (places : List (Nat × Nat)) (place : Nat → Option (Nat × Nat)) (hp : ∀ i q, places[i]? = some q → place i = some q) :
    ∀ (parts : List (Nat × Operand)) (cells : Array Value) (us out : List PV), Comps ρ w (Stab G ρ M w) M cells us → (∀ p ∈ parts, (a.eval p.2).cells.size = (ev V p.2).cells.length ∧ Comps ρ w (Stab G ρ M w) M (a.eval p.2).cells (ev V p.2).cells) →
      buildPV places us (parts.map fun p => (p.1, ev V p.2)) = some out →
      ∃ cells', Instr.fill place cells (parts.map fun p => (p.1, a.eval p.2)) = some cells' ∧ Comps ρ w (Stab G ρ M w) M cells' out := by
  intro parts
  induction parts with
  | nil =>
    intro cells us out hc _ h
    simp only [List.map_nil, buildPV] at h
    injection h with h
    subst h
    exact ⟨cells, by simp [Instr.fill], hc⟩
  | cons p rest ih =>
    intro cells us out hc hps h
    simp only [List.map_cons, buildPV] at h
    split at h
    · cases h
    · rename_i off size hpl
      split at h
      · cases h
      · rename_i hcond
        obtain ⟨h1, h2⟩ := hps p (by simp)
        have hsz : (a.eval p.2).cells.size = size := by rw [h1]; omega
        have hfit : off + (a.eval p.2).cells.size ≤ cells.size := by rw [hc.1, h1]; omega
        have hfold := foldl_set (a.eval p.2).cells.toList 0 off cells (by simpa using hfit)
        obtain ⟨cells', g1, g2⟩ := ih ((a.eval p.2).cells.zipIdx.foldl (fun cs (c, j) => cs.setIfInBounds (off + j) c) cells) _ out (by
            have : ((a.eval p.2).cells.zipIdx.foldl (fun cs (c, j) => cs.setIfInBounds (off + j) c) cells) = ((cells.toList.take off).toArray ++ (a.eval p.2).cells ++ (cells.toList.drop (off + size)).toArray) := by
              apply Array.ext'
              rw [← Array.foldl_toList, Array.toList_zipIdx]
              refine Eq.trans hfold ?_
              simp [hsz]
            rw [this]
            exact ((hc.take off).append h2).append (hc.drop (off + size))) (fun q hq => hps q (by simp [hq])) h
        refine ⟨cells', ?_, g2⟩
        simp only [List.map_cons, Instr.fill, hp _ _ hpl]
        rw [if_neg (by simp [hsz]; omega)]
        exact g1

theorem rep_cells_size {v : Value} {x : PV} (h : Rep ρ w (Stab G ρ M w) M v x) (ho : x.cells.all PV.one = true) (hl : ∀ u ∈ x.cells, live M u) : v.cells.size = x.cells.length ∧ Comps ρ w (Stab G ρ M w) M v.cells x.cells :=
  let ⟨h1, _⟩ := rep_cells h ho (fun u hu => live_rep (hl u hu))
  ⟨h1.1, h1⟩

theorem step_build (hW : WRel G ρ w0 X M w) (hV : ∀ t, Rep ρ w (Stab G ρ M w) M (a.tmps.getD t undef) (V t)) {T : TypeId} {parts : Array (Nat × Operand)} (ho : o.op = .build T parts)
    (h : OpStep P o.dst (.build T parts) V M f) : OpRes P a o G ρ w0 X M w f := by
  obtain ⟨places, zs, cs, hone, hT, hb, rfl⟩ := h
  obtain ⟨fs, ht, hpl, hf, i, z, hi, hz, rfl⟩ := hT
  have hzc : Comps ρ w (Stab G ρ M w) M z.cells (z.cells.toList.map ofConst) := by simpa using comps_const (ρ := ρ) (w := w) (M := M) z.cells.toList
  obtain ⟨cells', g1, g2⟩ := fill_sound hV places (fun j => places[j]?) (fun _ _ h => h) parts.toList z.cells _ cs hzc
    (fun p hp => rep_cells_size (rep_ev hV p.2) (hone p hp).1 (hone p hp).2) hb
  refine OpRes.quiet hW (v := .agg cells') ?_ (rep_agg.2 ⟨_, rfl, g2⟩)
  have hmap : (fs.mapM fun (fd : Field) => (do let k ← sizeOf fd.type; Pure.pure (fd.offset, k) : Sem (Nat × Nat))).run P w = .ok places.toArray w := by
    rw [Array.mapM_eq_mapM_toList]
    have : ∀ (l : List Field) (q : List (Nat × Nat)), q.length = l.length → (∀ (j : Nat) fd, l[j]? = some fd → ∃ k, q[j]? = some (fd.offset, k) ∧ TSize P fd.type k) →
        (l.mapM fun (fd : Field) => (do let k ← sizeOf fd.type; Pure.pure (fd.offset, k) : Sem (Nat × Nat))).run P w = .ok q w := by
      intro l
      induction l with
      | nil => intro q hq _; cases q with | nil => rfl | cons _ _ => simp at hq
      | cons fd l ih =>
        intro q hq hq2
        cases q with
        | nil => simp at hq
        | cons p q =>
          obtain ⟨k, h1, h2⟩ := hq2 0 fd rfl
          simp at h1
          subst h1
          have := ih q (by simpa using hq) (fun j fd' hj => by simpa using hq2 (j + 1) fd' (by simpa using hj))
          simp only [List.mapM_cons, Sem.run_bind, run_size h2, Sem.run_pure, Result.andThen_ok, this]
    simp only [Sem.run_map, this fs.toList places (by simpa using hpl) (fun j fd hj => hf j fd (by simpa using hj)), Result.andThen_ok]
  have g1' : Instr.fill (fun x => places[x]?) z.cells (parts.toList.map fun p => (p.1, a.eval p.2)) = some cells' := g1
  have hparts : (parts.map fun (i, x) => (i, a.eval x)).toList = parts.toList.map fun p => (p.1, a.eval p.2) := by simp
  simp only [execOp, ho, Instr.build, Sem.run_bind, zeroValue, typeInfo, run_program, hi, hz, Sem.run_pure, Result.andThen_ok, run_underlying ht, hmap, hparts]
  have g3 : Instr.fill (fun x => places.toArray[x]?) z.cells (parts.toList.map fun p => (p.1, a.eval p.2)) = some cells' := by simpa using g1'
  simp only [g3, Sem.run_pure, Result.andThen_ok]
end
end Go.Vs
