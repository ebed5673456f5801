/- VALUE SEMANTICS, 7: the remaining operations, and all of them together. -/
import Derived.Test.YthjlolbooehhcaaVs6
set_option linter.unusedVariables false
set_option linter.unusedSimpArgs false
namespace Go.Vs
section
variable {P : Program} {a : Act} {o : Oper} {G : Nat → Prop} {ρ : Id → Option (Nat × Nat)} {w0 : World} {X : List (Option (Nat × Nat))} {M : Mem} {w : World} {V : Nat → PV} {f : Eff}

theorem add_off {b k : Nat} (j : Nat) : (⟨b, k, none⟩ : Addr).add j = ⟨b, k + j, none⟩ := by
  unfold Addr.add; split <;> simp_all

theorem step_load (hW : WRel G ρ w0 X M w) (hV : ∀ t, Rep ρ w (Stab G ρ M w) M (a.tmps.getD t undef) (V t)) {T : TypeId} {x : Operand} (ho : o.op = .load T x)
    (h : OpStep P o.dst (.load T x) V M f) : OpRes P a o G ρ w0 X M w f := by
  have hx := rep_ev hV x
  rcases h with ⟨hT, ⟨u, us, e, rfl⟩ | ⟨id, i, off, r, el, u, e, hM, he, hu, rfl⟩⟩ | ⟨k, hT, ⟨us, e, hk, rfl⟩ | ⟨id, i, off, r, el, e, hM, he, hk, rfl⟩⟩
  · rw [e] at hx
    obtain ⟨ad, ex, hS, hc⟩ := rep_ptr.1 hx
    obtain ⟨c, h1, h2, h3⟩ := hc 0 u rfl
    have h1' : w.cell? ad = some c := by simpa [Addr.add] using h1
    refine OpRes.quiet hW (v := c) ?_ (h3.pureMono fun b hb => ⟨hb, rfl⟩)
    simp [execOp, ho, ex, Instr.loadAt, Instr.sureAddr, run_loadVar_cell hT h1']
  · rw [e] at hx
    obtain ⟨b, z, cur, hρ, ex, g1, g2, g3, g4, g5, _⟩ := own_cells hW hM he hx
    obtain ⟨c, k1, k2, k3⟩ := g5 off u hu
    have h1' : w.cell? ⟨b, z + i * r.sz + off, none⟩ = some c := by rw [cell_of_row w b _ cur r.ty (0, 0) g1]; exact k1
    refine OpRes.quiet hW (v := c) ?_ (repB_M k3)
    simp [execOp, ho, ex, Instr.loadAt, Instr.sureAddr, run_loadVar_cell hT h1']
  · rw [e] at hx
    obtain ⟨ad, ex, hS, hc⟩ := rep_ptr.1 hx
    obtain ⟨cs, c1, c2, c3⟩ := cells_take (ρ := ρ) (M := M) hc k hk
    refine OpRes.quiet hW (v := .agg cs.toArray) ?_ (rep_agg.2 ⟨_, rfl, c3⟩)
    simp [execOp, ho, ex, Instr.loadAt, Instr.sureAddr, run_loadVar_agg hT cs c1 c2]
  · rw [e] at hx
    obtain ⟨b, z, cur, hρ, ex, g1, g2, g3, g4, g5, _⟩ := own_cells hW hM he hx
    obtain ⟨l, hl, hn⟩ := exists_cells (fun j => cur[z + i * r.sz + (off + j)]?) k (fun j hj => by
      obtain ⟨c, h1, _⟩ := g5 (off + j) el[off + j] (List.getElem?_eq_getElem (by omega))
      exact ⟨c, h1⟩)
    have c2 : ∀ (j : Nat) v, l[j]? = some v → w.cell? ((⟨b, z + i * r.sz + off, none⟩ : Addr).add j) = some v := fun j v hj => by
      have : j < k := by rw [← hl]; exact (List.getElem?_eq_some_iff.1 hj).1
      rw [add_off, cell_of_row w b _ cur r.ty (0, 0) g1, ← hj, ← hn j this, Nat.add_assoc]
    refine OpRes.quiet hW (v := .agg l.toArray) ?_ (rep_agg.2 ⟨_, rfl, by simp [hl]; omega, fun j u hu => ?_⟩)
    · simp [execOp, ho, ex, Instr.loadAt, Instr.sureAddr, run_loadVar_agg hT l hl c2]
    · rw [List.getElem?_take] at hu
      split at hu
      · rename_i hj
        rw [List.getElem?_drop] at hu
        obtain ⟨c, k1, k2, k3⟩ := g5 (off + j) u hu
        exact ⟨c, by rw [List.getElem?_toArray, ← hn j hj]; exact k1, repB_M k3⟩
      · cases hu

theorem live_rep {u : PV} (h : live M u) : (∀ id i off, u = .own id i off → ∃ r, M id = some (some r)) ∧ (∀ id o n, u = .osl id o n → ∃ r, M id = some (some r)) := by
  constructor
  · rintro id i off rfl; exact h
  · rintro id i off rfl; exact h

theorem step_store (hW : WRel G ρ w0 X M w) (hV : ∀ t, Rep ρ w (Stab G ρ M w) M (a.tmps.getD t undef) (V t)) {T : TypeId} {x y : Operand} (ho : o.op = .store T x y)
    (h : OpStep P o.dst (.store T x y) V M f) : OpRes P a o G ρ w0 X M w f := by
  obtain ⟨id, i, off, r, e, k, ex, hM, he, hT, hy, hfit, hone, hlive, hbx, rfl⟩ := h
  have hx := rep_ev hV x
  rw [ex] at hx
  obtain ⟨b, z, cur, hρ, exv, g1, g2, g3, g4, g5, g6⟩ := own_cells hW hM he hx
  have hyv := rep_ev hV y
  obtain ⟨hc, hco⟩ := rep_cells hyv hone (fun u hu => live_rep (hlive u hu))
  have hsz : (a.eval y).cells.size = k := by rw [hc.1, hy]
  have hrun := run_storeVar_at (P := P) (w := w) hT hsz b (z + i * r.sz + off) r.ty cur g1 (by omega) hco
  have hlen : ((cur.toList.take (z + i * r.sz + off) ++ (a.eval y).cells.toList ++ cur.toList.drop (z + i * r.sz + off + (a.eval y).cells.size)).toArray).size = cur.size := by
    simp only [List.size_toArray, List.length_append, List.length_take, List.length_drop, Array.length_toList]
    omega
  have hil : i < r.es.length := (List.getElem?_eq_some_iff.1 he).1
  have key : ∀ (i' : Nat) e', (r.es.set i (e.take off ++ (ev V y).cells ++ e.drop (off + k)))[i']? = some e' → e'.length = r.sz ∧ ∀ (j : Nat) u, e'[j]? = some u →
      ∃ c, (cur.toList.take (z + i * r.sz + off) ++ (a.eval y).cells.toList ++ cur.toList.drop (z + i * r.sz + off + (a.eval y).cells.size)).toArray[z + i' * r.sz + j]? = some c ∧ c.oneCell' = true ∧
        Rep ρ w (Stab G ρ M w) (if r.bx then M else noMem) c u := by
    have same : ∀ p, (p < z + i * r.sz + off ∨ z + i * r.sz + off + k ≤ p) → ∀ c, cur[p]? = some c →
        (cur.toList.take (z + i * r.sz + off) ++ (a.eval y).cells.toList ++ cur.toList.drop (z + i * r.sz + off + (a.eval y).cells.size)).toArray[p]? = some c := by
      intro p hp c hcp
      have hps := (Array.getElem?_eq_some_iff.1 hcp).1
      rw [List.getElem?_toArray, List.append_assoc, list_two_at]
      have htl : (List.take (z + i * r.sz + off) cur.toList).length = z + i * r.sz + off := by simp; omega
      rw [htl]
      rcases hp with hp | hp
      · rw [if_pos hp, List.getElem?_take, if_pos hp, Array.getElem?_toList]; exact hcp
      · rw [if_neg (by omega), list_two_at, Array.length_toList, hsz, if_neg (by omega), List.getElem?_drop, Array.getElem?_toList, ← hcp]
        congr 1; omega
    intro i' e' hi'
    by_cases hie : i' = i
    · subst hie
      rw [List.getElem?_set_self hil] at hi'
      injection hi' with hi'
      subst hi'
      refine ⟨by simp [hy]; omega, fun j u hu => ?_⟩
      have hto : (e.take off).length = off := by simp; omega
      rw [List.append_assoc, list_two_at, hto] at hu
      split at hu
      · rename_i hj
        rw [List.getElem?_take, if_pos hj] at hu
        obtain ⟨c, k1, k2, k3⟩ := g5 j u hu
        exact ⟨c, same _ (.inl (by omega)) c k1, k2, k3⟩
      · rename_i hj
        rw [list_two_at, hy] at hu
        split at hu
        · rename_i hj2
          obtain ⟨c, k1, k2⟩ := hc.2 _ u hu
          refine ⟨c, ?_, hco c (by rw [← Array.getElem?_toList] at k1; exact List.mem_of_getElem? k1), ?_⟩
          · have htl : (List.take (z + i' * r.sz + off) cur.toList).length = z + i' * r.sz + off := by simp; omega
            rw [List.getElem?_toArray, List.append_assoc, List.getElem?_append_right (by rw [htl]; omega), htl, List.getElem?_append_left (by rw [Array.length_toList, hsz]; omega), Array.getElem?_toList, ← k1]
            congr 1; omega
          · rcases hbx with hbx | hbx
            · rw [hbx]; exact k2
            · exact rep_pure k2 (List.all_eq_true.1 hbx u (List.mem_of_getElem? hu))
        · rename_i hj2
          rw [List.getElem?_drop] at hu
          have : off + k + (j - off - k) = j := by omega
          rw [this] at hu
          obtain ⟨c, k1, k2, k3⟩ := g5 j u hu
          exact ⟨c, same _ (.inr (by omega)) c k1, k2, k3⟩
    · rw [List.getElem?_set_ne (by omega)] at hi'
      obtain ⟨m1, m2⟩ := g6 i' e' hi'
      refine ⟨m1, fun j u hu => ?_⟩
      obtain ⟨c, k1, k2, k3⟩ := m2 j u hu
      refine ⟨c, same _ ?_ c k1, k2, k3⟩
      have hj : j < r.sz := by rw [← m1]; exact (List.getElem?_eq_some_iff.1 hu).1
      rcases Nat.lt_or_ge i' i with hlt | hge
      · left
        have : (i' + 1) * r.sz ≤ i * r.sz := Nat.mul_le_mul_right _ hlt
        rw [Nat.add_mul] at this; omega
      · right
        have : (i + 1) * r.sz ≤ i' * r.sz := Nat.mul_le_mul_right _ (by omega)
        rw [Nat.add_mul] at this; omega
  obtain ⟨T1, W1⟩ := hW.store hM hρ (w.setRow b (cur.toList.take (z + i * r.sz + off) ++ (a.eval y).cells.toList ++ cur.toList.drop (z + i * r.sz + off + (a.eval y).cells.size)).toArray) cur _
    (r.es.set i (e.take off ++ (ev V y).cells ++ e.drop (off + k))) g1 (setRow_heap w b cur _ r.ty _ g1) hlen (by simp) (fun k' hk => setRow_other w b k' _ hk) rfl rfl rfl (by simp) key
  refine ⟨ρ, _, undef, .inr ⟨?_, rfl⟩, T1, W1, rep_any⟩
  simp only [execOp, ho, Instr.storeAt, exv, Instr.sureAddr, Sem.run_bind, Sem.run_pure, Result.andThen_ok, hrun]

theorem newBox (hW : WRel G ρ w0 X M w) {t : Nat} (hid : M (t, 0) = none) (hio : t ≠ io) (T : TypeId) {v : Value} {cs : List PV} (hc : Comps ρ w (Stab G ρ M w) M v.cells cs) (hone : ∀ c ∈ v.cells.toList, c.oneCell' = true)
    (hne : cs ≠ []) (hmax : cs.length ≤ maxLen) :
    ∃ ρ', Trans G ρ M w ρ' (M.upds [((t, 0), some ⟨T, cs.length, [cs], true⟩)]) (w.alloc (.cells v.cells T)) ∧ WRel G ρ' w0 X (M.upds [((t, 0), some ⟨T, cs.length, [cs], true⟩)]) (w.alloc (.cells v.cells T)) ∧
      Rep ρ' (w.alloc (.cells v.cells T)) (Stab G ρ' (M.upds [((t, 0), some ⟨T, cs.length, [cs], true⟩)]) (w.alloc (.cells v.cells T))) (M.upds [((t, 0), some ⟨T, cs.length, [cs], true⟩)]) (.pointer (some ⟨w.heap.size, 0, none⟩)) (.own (t, 0) 0 0) := by
  obtain ⟨T1, W1⟩ := hW.newRow (id := (t, 0)) hid hio ⟨T, cs.length, [cs], true⟩ (w.alloc (.cells v.cells T)) v.cells 1 rfl rfl rfl rfl (by simp [hc.1]) (by unfold maxLen; omega) (by simp)
    (by cases cs with | nil => exact absurd rfl hne | cons x r => simp)
    (fun i e hi => by
      cases i with
      | zero =>
        simp at hi
        subst hi
        refine ⟨rfl, fun j u hu => ?_⟩
        obtain ⟨c, h1, h2⟩ := hc.2 j u hu
        exact ⟨c, by simpa using h1, hone c (by rw [← Array.getElem?_toList] at h1; exact List.mem_of_getElem? h1), by simpa using h2⟩
      | succ i => simp at hi)
  refine ⟨_, T1, W1, (rep_own (r := ⟨T, cs.length, [cs], true⟩) (by simp [Mem.upds, Mem.set])).2 ?_⟩
  simp [setAt, OwnOk]

theorem step_box (hW : WRel G ρ w0 X M w) (hV : ∀ t, Rep ρ w (Stab G ρ M w) M (a.tmps.getD t undef) (V t)) {T : TypeId} {x : Operand} (ho : o.op = .box T x)
    (h : OpStep P o.dst (.box T x) V M f) : OpRes P a o G ρ w0 X M w f := by
  obtain ⟨t, _, hio, hid, hne, hmax, hone, hlive, rfl⟩ := h
  obtain ⟨hc, hco⟩ := rep_cells (rep_ev hV x) hone (fun u hu => live_rep (hlive u hu))
  obtain ⟨ρ', h1, h2, h3⟩ := newBox hW hid hio T hc hco hne hmax
  refine ⟨ρ', _, _, .inl ?_, h1, h2, h3⟩
  simp [execOp, ho, Instr.box, newVar, newRow]

theorem comps_const (cs : List Value) : Comps ρ w (Stab G ρ M w) M cs.toArray (cs.map ofConst) := by
  refine ⟨by simp, fun j u hu => ?_⟩
  rw [List.getElem?_map, Option.map_eq_some_iff] at hu
  obtain ⟨x, hx, rfl⟩ := hu
  exact ⟨x, by simpa using hx, rep_ofConst⟩
theorem ofConst_one {v : Value} (h : (ofConst v).pure1 = true) : v.oneCell' = true := by
  cases v <;> first | rfl | (simp [ofConst, PV.pure1] at h)

theorem step_alloc (hW : WRel G ρ w0 X M w) {T : TypeId} (ho : o.op = .alloc T) (h : OpStep P o.dst (.alloc T) V M f) : OpRes P a o G ρ w0 X M w f := by
  obtain ⟨t, cs, _, hio, hid, ⟨i, z, hi, hz, rfl⟩, hne, hmax, hone, rfl⟩ := h
  have hc : Comps ρ w (Stab G ρ M w) M z.cells (z.cells.toList.map ofConst) := by simpa using comps_const (ρ := ρ) (w := w) (M := M) z.cells.toList
  obtain ⟨ρ', h1, h2, h3⟩ := newBox hW hid hio T hc (fun c hcm => ofConst_one (List.all_eq_true.1 hone _ (List.mem_map_of_mem hcm))) hne hmax
  refine ⟨ρ', _, _, .inl ?_, h1, h2, h3⟩
  simp [execOp, ho, Instr.alloc, zeroValue, typeInfo, hi, hz, newVar, newRow]
end
end Go.Vs
