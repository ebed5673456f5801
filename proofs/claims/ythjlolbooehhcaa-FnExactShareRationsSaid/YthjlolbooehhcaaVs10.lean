/- VALUE SEMANTICS, 10: slices made at once; the builtins; every step is sound. -/
import Derived.Test.YthjlolbooehhcaaVs9
set_option linter.unusedVariables false
set_option linter.unusedSimpArgs false
namespace Go.Vs
section
variable {P : Program} {a : Act} {o : Oper} {G : Nat → Prop} {ρ : Id → Option (Nat × Nat)} {w0 : World} {X : List (Option (Nat × Nat))} {M : Mem} {w : World} {V : Nat → PV} {f : Eff}

theorem buildPV_seq (places : List (Nat × Nat)) (sz n : Nat) (hp : ∀ i, i < n → places[i]? = some (i * sz, sz)) : ∀ (xs : List PV) (k : Nat) (us : List PV), (∀ x ∈ xs, x.cells.length = sz) → us.length = n * sz → k + xs.length ≤ n →
    ∃ out, buildPV places us ((List.range' k xs.length).zip xs) = some out ∧ out.length = us.length ∧ (∀ p, p < k * sz → out[p]? = us[p]?) ∧
      ∀ (i : Nat) x, xs[i]? = some x → ∀ j, j < sz → out[(k + i) * sz + j]? = x.cells[j]? := by
  intro xs
  induction xs with
  | nil => intro k us _ hu _; exact ⟨us, by simp [buildPV], rfl, fun _ _ => rfl, fun i x hx => by simp at hx⟩
  | cons x xs ih =>
    intro k us hxs hu hk
    simp only [List.length_cons] at hk
    have hx := hxs x (by simp)
    have hle : (k + 1) * sz ≤ n * sz := Nat.mul_le_mul_right _ (by omega)
    rw [Nat.add_mul] at hle
    have hl : (us.take (k * sz) ++ x.cells ++ us.drop (k * sz + sz)).length = n * sz := by simp [hx]; omega
    obtain ⟨out, h1, h2, h3, h4⟩ := ih (k + 1) _ (fun y hy => hxs y (by simp [hy])) hl (by omega)
    have htl : (us.take (k * sz)).length = k * sz := by simp; omega
    refine ⟨out, ?_, h2.trans (hl.trans hu.symm), fun p hp' => ?_, fun i y hy j hj => ?_⟩
    · simp only [List.length_cons, List.range'_succ, List.zip_cons_cons, buildPV, hp k (by omega)]
      rw [if_neg (by simp [hx]; omega)]
      exact h1
    · rw [h3 p (by rw [Nat.add_mul]; omega), List.append_assoc, List.getElem?_append_left (by omega), List.getElem?_take, if_pos hp']
    · cases i with
      | zero =>
        simp at hy
        subst hy
        rw [Nat.add_zero, h3 _ (by rw [Nat.add_mul]; omega), List.append_assoc, List.getElem?_append_right (by omega), htl, List.getElem?_append_left (by omega)]
        congr 1; omega
      | succ i =>
        have := h4 i y (by simpa using hy) j hj
        rw [show k + (i + 1) = k + 1 + i from by omega]
        exact this

theorem step_buildSlice (hW : WRel G ρ w0 X M w) (hV : ∀ t, Rep ρ w (Stab G ρ M w) M (a.tmps.getD t undef) (V t)) {T : TypeId} {n : Nat} {parts : Array (Nat × Operand)} (ho : o.op = .buildSlice T n parts)
    (h : OpStep P o.dst (.buildSlice T n parts) V M f) : OpRes P a o G ρ w0 X M w f := by
  obtain ⟨t, e, sz, by_, _, hio, hid, hT, hsz, hmax, hfst, hps, rfl⟩ := h
  obtain ⟨ht, i, hi, hs, _, z, hz, hzs⟩ := hT
  have hpl : parts.toList.length = n := by have := congrArg List.length hfst; simpa using this
  have hzip : (parts.toList.map fun p => (p.1, ev V p.2)) = (List.range' 0 (parts.toList.map fun p => ev V p.2).length).zip (parts.toList.map fun p => ev V p.2) := by
    rw [List.length_map, hpl, ← List.range_eq_range', ← hfst]
    clear hfst hpl hps ho
    induction parts.toList with
    | nil => rfl
    | cons p l ih => simp [ih]
  obtain ⟨out, h1, h2, _, h4⟩ := buildPV_seq ((List.range n).map fun i => (i * sz, sz)) sz n (fun i hi => by simp [hi]) (parts.toList.map fun p => ev V p.2) 0 (List.replicate (n * sz) .any)
    (fun x hx => by obtain ⟨p, hp, rfl⟩ := List.mem_map.1 hx; exact (hps p hp).1) (by simp) (by simp [hpl])
  rw [← hzip] at h1
  obtain ⟨zc, hzc0, hzc1⟩ : ∃ zc : Array Value, (n * sz = 0 → zc = #[]) ∧ (n * sz ≠ 0 → zc = z.cells) := by
    by_cases h0 : n * sz = 0
    · exact ⟨#[], fun _ => rfl, fun h => absurd h0 h⟩
    · exact ⟨z.cells, fun h => absurd h h0, fun _ => rfl⟩
  have hcomp : Comps ρ w (Stab G ρ M w) M ((Array.range (n * sz)).map fun k => zc[k % zc.size]!) (List.replicate (n * sz) .any) := by
    refine ⟨by simp, fun j u hu => ?_⟩
    rw [List.getElem?_replicate] at hu
    split at hu
    · rename_i hj
      injection hu with hu
      subst hu
      exact ⟨zc[j % zc.size]!, by simp [hj], rep_any⟩
    · cases hu
  obtain ⟨cells', g1, g2⟩ := fill_sound hV ((List.range n).map fun i => (i * sz, sz)) (fun i => some (i * sz, sz)) (fun i q hq => by
      rw [List.getElem?_map, Option.map_eq_some_iff] at hq
      obtain ⟨k, hk, rfl⟩ := hq
      rw [List.getElem?_range] at hk
      · injection hk with hk; rw [hk]
      · have := (List.getElem?_eq_some_iff.1 hk).1; simpa using this) parts.toList _ _ out hcomp
    (fun p hp => rep_cells_size (rep_ev hV p.2) (List.all_eq_true.2 fun u hu => pure1_one (List.all_eq_true.1 (hps p hp).2 u hu)) (fun u hu => by
      have := List.all_eq_true.1 (hps p hp).2 u hu
      cases u <;> first | trivial | simp [PV.pure1] at this)) h1
  have hcs : cells'.size = n * sz := by rw [g2.1, h2]; simp
  obtain ⟨T1, W1⟩ := hW.newRow (id := (t, 0)) hid hio ⟨e, sz, parts.toList.map fun p => (ev V p.2).cells, false⟩ (w.alloc (.cells cells' e)) cells' n rfl rfl rfl rfl hcs
    (by have : n * 1 ≤ n * sz := Nat.mul_le_mul_left _ hsz; unfold maxLen; omega) (by simp at hpl ⊢; omega) hsz (fun i el hi => by
      simp only [List.getElem?_map, Option.map_eq_some_iff] at hi
      obtain ⟨p, hp, rfl⟩ := hi
      obtain ⟨m1, m2⟩ := hps p (List.mem_of_getElem? hp)
      refine ⟨m1, fun j u hu => ?_⟩
      have hj : j < sz := by rw [← m1]; exact (List.getElem?_eq_some_iff.1 hu).1
      have h5 := h4 i (ev V p.2) (by simp only [List.getElem?_map, hp, Option.map_some]) j hj
      rw [Nat.zero_add, hu] at h5
      obtain ⟨c, k1, k2⟩ := g2.2 _ u h5
      have hpu := List.all_eq_true.1 m2 u (List.mem_of_getElem? hu)
      exact ⟨c, k1, rep_one k2 (pure1_one hpu) (by rintro _ _ _ rfl; simp [PV.pure1] at hpu) (by rintro _ _ _ rfl; simp [PV.pure1] at hpu), by simpa using rep_pure k2 hpu⟩)
  refine ⟨_, _, .slice (some ⟨w.heap.size, 0, none⟩) n n, .inl ?_, T1, W1, (rep_osl (r := ⟨e, sz, parts.toList.map fun p => (ev V p.2).cells, false⟩) (by simp [Mem.upds, Mem.set])).2 ?_⟩
  · have hmax' : ¬ (n * sz > 2 ^ 24) := by omega
    have hparts : (parts.map fun (i, x) => (i, a.eval x)).toList = parts.toList.map fun p => (p.1, a.eval p.2) := by simp
    simp only [execOp, ho, Instr.buildSlice, Sem.run_bind, run_underlying ht, Result.andThen_ok, sizeOf, typeInfo, run_program, hi, hs, Sem.run_pure, hmax', if_false, hparts]
    by_cases h0 : n * sz = 0
    · rw [hzc0 h0] at g1
      simp only [h0, if_true, Sem.run_bind, Sem.run_pure, Result.andThen_ok] at g1 ⊢
      simp only [g1, newRow, Sem.run_bind, run_newObj, Sem.run_pure, Result.andThen_ok]
      rfl
    · rw [hzc1 h0] at g1
      simp only [h0, if_false, Sem.run_bind, Sem.run_pure, Result.andThen_ok, zeroValue, typeInfo, run_program, hi, hz]
      simp only [g1, newRow, Sem.run_bind, run_newObj, Sem.run_pure, Result.andThen_ok]
      rfl
  · simp only [setAt, if_true]
    refine ⟨_, n, rfl, by simp at hpl ⊢; omega, Nat.le_refl _, by have : n * 1 ≤ n * sz := Nat.mul_le_mul_left _ hsz; unfold maxLen; omega, fun _ => ⟨by simp, cells', heap_alloc_new w _, ?_⟩⟩
    simp [hcs]
end
end Go.Vs
