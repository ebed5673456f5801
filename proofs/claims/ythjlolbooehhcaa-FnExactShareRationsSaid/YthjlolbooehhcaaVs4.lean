/- VALUE SEMANTICS, 4: append. -/
import Derived.Test.YthjlolbooehhcaaVs3
set_option linter.unusedVariables false
set_option linter.unusedSimpArgs false
namespace Go.Vs
section
variable {G : Nat → Prop} {ρ ρ' ρ'' : Id → Option (Nat × Nat)} {w0 w w' w'' : World} {X : List (Option (Nat × Nat))} {M M' M'' : Mem}

theorem MLe.trans (h : MLe ρ w M ρ' w' M') (g : MLe ρ' w' M' ρ'' w'' M'') : MLe ρ w M ρ'' w'' M'' := by
  intro id
  have h1 := h id
  have g1 := g id
  cases hM : M id with
  | none => trivial
  | some o =>
    cases o with
    | none => simp only [hM] at h1; simp only [h1] at g1; exact g1
    | some r =>
      simp only [hM] at h1
      rcases h1 with h1 | ⟨r', h1, a1, a2, a3, a4, a5⟩
      · simp only [h1] at g1; exact .inl g1
      · simp only [h1] at g1
        rcases g1 with g1 | ⟨r'', g1, b1, b2, b3, b4, b5⟩
        · exact .inl g1
        · refine .inr ⟨r'', g1, b1.trans a1, b2.trans a2, Nat.le_trans a3 b3, b4.trans a4, fun b z hb cur hc => ?_⟩
          obtain ⟨c1, k1, k2⟩ := a5 b z hb cur hc
          obtain ⟨c2, k3, k4⟩ := b5 b z (a4.trans hb) c1 (by rw [a2]; exact k1)
          exact ⟨c2, by rw [← a2]; exact k3, k4.trans k2⟩
theorem Trans.trans (h : Trans G ρ M w ρ' M' w') (g : Trans G ρ' M' w' ρ'' M'' w'') : Trans G ρ M w ρ'' M'' w'' :=
  ⟨fun b hb => ⟨(g.stab b (h.stab b hb).1).1, (g.stab b (h.stab b hb).1).2.trans (h.stab b hb).2⟩, h.mle.trans g.mle⟩

theorem WRel.virt (h : WRel G ρ w0 X M w) {id : Id} (hid : M id = none) (hio : id.1 ≠ io) (ty : TypeId) (sz : Nat) :
    Trans G ρ M w (setAt ρ id none) (M.set id (some ⟨ty, sz, [], false⟩)) w ∧ WRel G (setAt ρ id none) w0 X (M.set id (some ⟨ty, sz, [], false⟩)) w := by
  have ne : ∀ {i1 x}, M i1 = some x → i1 ≠ id := fun h e => by rw [e, hid] at h; cases h
  have T : Trans G ρ M w (setAt ρ id none) (M.set id (some ⟨ty, sz, [], false⟩)) w := by
    refine ⟨fun b hb => ⟨⟨hb.1, fun id' r' z hM' => ?_, hb.2.2⟩, rfl⟩, fun id' => ?_⟩
    · by_cases he : id' = id
      · simp [setAt, he]
      · simp only [Mem.set, he, if_false] at hM'
        simp only [setAt, he, if_false]
        exact hb.2.1 id' r' z hM'
    · cases hMi : M id' with
      | none => trivial
      | some o =>
        have he := ne hMi
        cases o with
        | none => simp [Mem.set, he, hMi]
        | some r' => exact .inr ⟨r', by simp [Mem.set, he, hMi], rfl, rfl, Nat.le_refl _, by simp [setAt, he], fun b z hρ cur' hc => ⟨cur', hc, rfl⟩⟩
  refine ⟨T, ⟨?_, ?_, ?_, h.keep, h.good⟩⟩
  · intro i1 i2 r1 r2 b z1 z2 hM1 hM2 hρ1 hρ2
    by_cases e1 : i1 = id
    · simp [setAt, e1] at hρ1
    · by_cases e2 : i2 = id
      · simp [setAt, e2] at hρ2
      · simp only [setAt, e1, e2, if_false] at hρ1 hρ2
        simp only [Mem.set, e1, e2, if_false] at hM1 hM2
        exact h.inj i1 i2 r1 r2 b z1 z2 hM1 hM2 hρ1 hρ2
  · intro i1 r1 hM1
    by_cases e1 : i1 = id
    · simp only [Mem.set, e1, if_true, Option.some.injEq] at hM1
      subst hM1
      simp [setAt, e1, RowOk]
    · simp only [Mem.set, e1, if_false] at hM1
      simp only [setAt, e1, if_false]
      exact (h.row i1 r1 hM1).mono T fun b z hb => rfl
  · intro i1 r1 hM1
    by_cases e1 : i1 = id
    · rw [e1, if_neg hio]
      intro b z hρ1
      simp [setAt] at hρ1
    · simp only [Mem.set, e1, if_false] at hM1
      simp only [setAt, e1, if_false]
      exact h.new i1 r1 hM1

theorem WRel.move (h : WRel G ρ w0 X M w) {id id' : Id} {r : Row} (hM : M id = some (some r)) {b z : Nat} (hρ : ρ id = some (b, z)) (hio : id.1 ≠ io) (hid' : M id' = none) (hio' : id'.1 ≠ io)
    (r' : Row) (hty : r'.ty = r.ty) (hbx : r'.bx = false) (z' C' : Nat) (w' : World) (cur cur' : Array Value)
    (hcur : w.heap[b]? = some (.cells cur r.ty (0, 0))) (hnew : w'.heap[b]? = some (.cells cur' r.ty (0, 0))) (hsize : w'.heap.size = w.heap.size)
    (hold : ∀ k, k ≠ b → w'.heap[k]? = w.heap[k]?) (hos : w'.os = w.os) (htape : w'.tape = w.tape) (hout : w'.output = w.output) (hsame : cur'.size = cur.size)
    (hs : cur'.size = z' + C' * r'.sz) (hC : C' ≤ maxLen) (hl : r'.es.length ≤ C') (hz : 0 < r'.sz)
    (hcells : ∀ (i : Nat) e, r'.es[i]? = some e → e.length = r'.sz ∧ ∀ (j : Nat) u, e[j]? = some u →
        ∃ c, cur'[z' + i * r'.sz + j]? = some c ∧ c.oneCell' = true ∧ Rep ρ w (Stab G ρ M w) noMem c u) :
    Trans G ρ M w (setAt ρ id' (some (b, z'))) ((M.set id none).set id' (some r')) w' ∧ WRel G (setAt ρ id' (some (b, z'))) w0 X ((M.set id none).set id' (some r')) w' := by
  have hne : id ≠ id' := fun e => by rw [e, hid'] at hM; cases hM
  have far : ∀ i1 r1 b1 z1, i1 ≠ id → M i1 = some (some r1) → ρ i1 = some (b1, z1) → b1 ≠ b := by
    intro i1 r1 b1 z1 hne h1 h2 he
    rw [he] at h2
    exact hne (h.inj i1 id r1 r b z1 z h1 hM h2 hρ)
  have live : ∀ i1 r1, i1 ≠ id' → ((M.set id none).set id' (some r')) i1 = some (some r1) → i1 ≠ id ∧ M i1 = some (some r1) := by
    intro i1 r1 hn h1
    by_cases he : i1 = id
    · rw [he] at hn h1
      simp [Mem.set, hn] at h1
    · exact ⟨he, by simpa [Mem.set, he, hn] using h1⟩
  have T : Trans G ρ M w (setAt ρ id' (some (b, z'))) ((M.set id none).set id' (some r')) w' := by
    refine ⟨fun k hk => ⟨⟨by rw [hsize]; exact hk.1, fun i1 r1 z1 hM1 => ?_, hk.2.2⟩, hold k (fun e => hk.2.1 id r z hM (by rw [hρ, e]))⟩, fun i1 => ?_⟩
    · by_cases he : i1 = id'
      · simp only [setAt, he, if_true]
        intro hh
        injection hh with hh
        injection hh with hh
        exact hk.2.1 id r z hM (by rw [hρ, hh])
      · obtain ⟨_, h2⟩ := live _ _ he hM1
        simp only [setAt, he, if_false]
        exact hk.2.1 i1 r1 z1 h2
    · by_cases he : i1 = id
      · rw [he, hM]
        exact .inl (by simp [Mem.set, hne])
      · cases hMi : M i1 with
        | none => trivial
        | some o =>
          have he' : i1 ≠ id' := fun e => by rw [e, hid'] at hMi; cases hMi
          cases o with
          | none => simp [Mem.set, he, he', hMi]
          | some r1 =>
            refine .inr ⟨r1, by simp [Mem.set, he, he', hMi], rfl, rfl, Nat.le_refl _, by simp [setAt, he'], fun b1 z1 h1 cur1 hc => ⟨cur1, ?_, rfl⟩⟩
            rw [hold b1 (far i1 r1 b1 z1 he hMi h1)]
            exact hc
  refine ⟨T, ⟨?_, ?_, ?_, ?_, h.good⟩⟩
  · intro i1 i2 r1 r2 b1 z1 z2 hM1 hM2 hρ1 hρ2
    by_cases e1 : i1 = id' <;> by_cases e2 : i2 = id'
    · rw [e1, e2]
    · exfalso
      obtain ⟨g1, g2⟩ := live _ _ e2 hM2
      simp only [setAt, e1, e2, if_true, if_false] at hρ1 hρ2
      injection hρ1 with hh
      injection hh with hh
      exact far i2 r2 b1 z2 g1 g2 hρ2 hh.symm
    · exfalso
      obtain ⟨g1, g2⟩ := live _ _ e1 hM1
      simp only [setAt, e1, e2, if_true, if_false] at hρ1 hρ2
      injection hρ2 with hh
      injection hh with hh
      exact far i1 r1 b1 z1 g1 g2 hρ1 hh.symm
    · obtain ⟨_, g1⟩ := live _ _ e1 hM1
      obtain ⟨_, g2⟩ := live _ _ e2 hM2
      simp only [setAt, e1, e2, if_false] at hρ1 hρ2
      exact h.inj i1 i2 r1 r2 b1 z1 z2 g1 g2 hρ1 hρ2
  · intro i1 r1 hM1
    by_cases he : i1 = id'
    · simp only [Mem.set, he, if_true, Option.some.injEq] at hM1
      subst hM1
      simp only [setAt, he, if_true]
      refine ⟨cur', C', by rw [hty]; exact hnew, hs, hC, hl, hz, fun i e hi => ⟨(hcells i e hi).1, fun j u hu => ?_⟩⟩
      obtain ⟨c, k1, k2, k3⟩ := (hcells i e hi).2 j u hu
      refine ⟨c, k1, k2, ?_⟩
      rw [hbx]
      exact T.repB (b := false) k3
    · obtain ⟨g1, g2⟩ := live _ _ he hM1
      simp only [setAt, he, if_false]
      exact (h.row i1 r1 g2).mono T fun b1 z1 hb => hold b1 (far i1 r1 b1 z1 g1 g2 hb)
  · intro i1 r1 hM1
    have hn := h.new id r hM
    rw [if_neg hio] at hn
    have hn := hn b z hρ
    by_cases he : i1 = id'
    · rw [he, if_neg hio']
      intro b1 z1 hρ1
      simp only [setAt, if_true] at hρ1
      injection hρ1 with hh
      injection hh with hh
      rw [← hh]
      exact hn
    · obtain ⟨_, g2⟩ := live _ _ he hM1
      simp only [setAt, he, if_false]
      exact h.new i1 r1 g2
  · refine ⟨hos.trans h.keep.os, htape.trans h.keep.tape, hout.trans h.keep.output, by rw [hsize]; exact h.keep.size, fun k hk hX => ?_, fun k c0 ty fr hb => ?_⟩
    · by_cases he : k = b
      · have hn := h.new id r hM
        rw [if_neg hio] at hn
        have hn := hn b z hρ
        omega
      · exact (hold k he).trans (h.keep.block k hk hX)
    · obtain ⟨c1, k1, k2⟩ := h.keep.shape k c0 ty fr hb
      by_cases he : k = b
      · subst he
        rw [hcur] at k1
        injection k1 with k1
        injection k1 with q1 q2 q3
        subst q1 q2 q3
        exact ⟨cur', hnew, hsame.trans k2⟩
      · exact ⟨c1, (hold k he).trans k1, k2⟩

theorem Src.mono {S S' : Nat → Prop} {v : Value} {sz : Nat} {es : List (List PV)} (h : Src ρ w S v sz es) (hS : ∀ b, S b → S' b) : Src ρ' w S' v sz es := by
  obtain ⟨a, c, news, h1, h2, h3, h4, h5, h6⟩ := h
  exact ⟨a, c, news, h1, h2, h3, h4, h5, fun i e hi => ⟨(h6 i e hi).1, fun j u hu => let ⟨c, g1, g2⟩ := (h6 i e hi).2 j u hu; ⟨c, g1, g2.pureMono fun b hb => ⟨hS b hb, rfl⟩⟩⟩⟩
end

section
variable {P : Program} {G : Nat → Prop} {ρ : Id → Option (Nat × Nat)} {w0 w : World} {X : List (Option (Nat × Nat))} {M : Mem}

theorem list_two_at {α : Type} (xs ys : List α) (k : Nat) : (xs ++ ys)[k]? = if k < xs.length then xs[k]? else ys[k - xs.length]? := by
  split
  · rw [List.getElem?_append_left (by assumption)]
  · rw [List.getElem?_append_right (by omega)]

/-- append to nil -/
theorem append_nil {T e : TypeId} {sz by_ : Nat} (hT : TSlice P T e sz by_) (hsz : 0 < sz) (hW : WRel G ρ w0 X M w) {xv : Value} {news : List (List PV)} (hx : Src ρ w (Stab G ρ M w) xv sz news)
    {id' : Id} (hid' : M id' = none) (hio' : id'.1 ≠ io) (ty : TypeId) (h63 : news.length ≤ maxLen) (hby : news.length * by_ ≤ 140737488355328) :
    ∃ ρ' w' v', (Builtin.append_ #[T, T] ty #[.slice none 0 0, xv]).run P w = .ok v' w' ∧ Trans G ρ M w ρ' (M.set id' (some ⟨e, sz, news, false⟩)) w' ∧
      WRel G ρ' w0 X (M.set id' (some ⟨e, sz, news, false⟩)) w' ∧ Rep ρ' w' (Stab G ρ' (M.set id' (some ⟨e, sz, news, false⟩)) w') (M.set id' (some ⟨e, sz, news, false⟩)) v' (.osl id' 0 news.length) := by
  obtain ⟨ht, i, hi, hsize, hbytes, zv, hz, hzs⟩ := hT
  obtain ⟨a, c, cells, rfl, hc, hl, hcell, hone, hrep⟩ := hx
  by_cases h0 : news.length = 0
  · have hn : news = [] := List.eq_nil_of_length_eq_zero h0
    subst hn
    obtain ⟨T, W⟩ := hW.virt hid' hio' e sz
    refine ⟨_, w, .slice none 0 0, ?_, T, W, (rep_osl (r := ⟨e, sz, [], false⟩) (by simp [Mem.set])).2 (by simp [setAt, OslOk])⟩
    cases a with
    | none => simp [Builtin.append_, run_underlying ht, sizeOf, typeInfo, hi, Builtin.lenOf, Builtin.firstCells]
    | some a => simp [Builtin.append_, run_underlying ht, sizeOf, typeInfo, hi, Builtin.lenOf, Builtin.firstCells, loadCells, loadCellsFrom]
  · have hpos : 0 < news.length := Nat.pos_of_ne_zero h0
    have hcp : 0 < cells.length := by rw [hl]; exact Nat.mul_pos hpos hsz
    obtain ⟨ad, rfl, _⟩ := hcell 0 cells[0] (List.getElem?_eq_getElem hcp)
    have hcell' : ∀ (j : Nat) u, cells[j]? = some u → w.cell? (ad.add j) = some u := fun j u hu => by
      obtain ⟨ad', e1, e2⟩ := hcell j u hu
      injection e1 with e1
      subst e1
      exact e2
    have hm : (news.length : Int) ≤ 9223372036854775807 := by unfold maxLen at h63; omega
    have hrun := run_append_nil (P := P) w T ty e i zv ht hi hz ad news.length c cells (by rw [hl, hsize]) hcell' hpos hm (by rw [hbytes]; omega)
    have hge := grownCap_ge w news.length 0 e
    have hmx := grownCap_le_maxLen w news.length 0 e h63
    obtain ⟨T, W⟩ := hW.newRow hid' hio' ⟨e, sz, news, false⟩ (cur := cells.toArray ++ Builtin.zeroCells zv.cells (grownCap w news.length 0 e - news.length)) (C := grownCap w news.length 0 e)
      (w' := w.drew.alloc (.cells (cells.toArray ++ Builtin.zeroCells zv.cells (grownCap w news.length 0 e - news.length)) e)) rfl rfl rfl rfl
      (by simp only [Array.size_append, List.size_toArray, size_zeroCells, hzs, hl, ← Nat.add_mul]; congr 1; omega) hmx hge hsz
      (fun i el hi => ⟨(hrep i el hi).1, fun j u hu => by
        obtain ⟨cv, g1, g2⟩ := (hrep i el hi).2 j u hu
        have hlt := (List.getElem?_eq_some_iff.1 g1).1
        refine ⟨cv, ?_, hone _ (List.mem_of_getElem? g1), by simpa using g2⟩
        rw [Array.getElem?_append_left (by simpa using hlt)]
        simpa using g1⟩)
    refine ⟨_, _, _, hrun, T, W, (rep_osl (r := ⟨e, sz, news, false⟩) (by simp [Mem.set])).2 ?_⟩
    simp only [setAt, if_true]
    refine ⟨_, _, rfl, by simp, hge, hmx, fun _ => ⟨by simp, _, heap_alloc_new w.drew _, ?_⟩⟩
    simp only [Array.size_append, List.size_toArray, size_zeroCells, hzs, hl, ← Nat.add_mul, Nat.zero_add]
    congr 1
    omega

/-- append to an own row -/
theorem append_own {T : TypeId} {by_ : Nat} (hW : WRel G ρ w0 X M w) {id id' : Id} {r : Row} (hM : M id = some (some r)) (hbx : r.bx = false) (hT : TSlice P T r.ty r.sz by_) (hsz : 0 < r.sz) (hio : id.1 ≠ io)
    {sv xv : Value} {o n : Nat} (hs : Rep ρ w (Stab G ρ M w) M sv (.osl id o n)) (hon : r.es.length = o + n) {news : List (List PV)} (hx : Src ρ w (Stab G ρ M w) xv r.sz news)
    (hid' : M id' = none) (hio' : id'.1 ≠ io) (ty : TypeId) (h63 : n + news.length ≤ maxLen) (hby : (n + news.length) * by_ ≤ 140737488355328) :
    ∃ ρ' w' v', (Builtin.append_ #[T, T] ty #[sv, xv]).run P w = .ok v' w' ∧ Trans G ρ M w ρ' ((M.set id none).set id' (some ⟨r.ty, r.sz, r.es.drop o ++ news, false⟩)) w' ∧
      WRel G ρ' w0 X ((M.set id none).set id' (some ⟨r.ty, r.sz, r.es.drop o ++ news, false⟩)) w' ∧
      Rep ρ' w' (Stab G ρ' ((M.set id none).set id' (some ⟨r.ty, r.sz, r.es.drop o ++ news, false⟩)) w') ((M.set id none).set id' (some ⟨r.ty, r.sz, r.es.drop o ++ news, false⟩)) v' (.osl id' 0 (n + news.length)) := by
  have hne : id ≠ id' := fun e => by rw [e, hid'] at hM; cases hM
  have h1 := (rep_osl hM).1 hs
  have hrow := hW.row id r hM
  have hdl : (r.es.drop o).length = n := by rw [List.length_drop]; omega
  have htk : (r.es.drop o).take n = r.es.drop o := List.take_of_length_le (by omega)
  obtain ⟨hsrc, _⟩ := src_osl hW hM hbx hsz hs
  rw [htk] at hsrc
  cases hρ : ρ id with
  | none =>
    simp only [OslOk, hρ] at h1
    obtain ⟨rfl, rfl, rfl⟩ := h1
    simp only [RowOk, hρ] at hrow
    obtain ⟨T1, W1⟩ := hW.dead hM
    obtain ⟨ρ2, w2, v2, e1, e2, e3, e4⟩ := append_nil hT hsz W1 (hx.mono fun b hb => (T1.stab b hb).1) (id' := id') (by simp [Mem.set, Ne.symm hne, hid']) hio' ty (by simpa using h63) (by simpa using hby)
    rw [hrow.1, List.drop_nil, List.nil_append, Nat.zero_add]
    exact ⟨ρ2, w2, v2, e1, T1.trans e2, e3, e4⟩
  | some bz =>
    obtain ⟨b, z⟩ := bz
    simp only [OslOk, hρ] at h1
    obtain ⟨ad, cap, rfl, g1, g2, g3, g4⟩ := h1
    rw [hρ] at hrow
    obtain ⟨cur, C, k1, k2, k3, k4, k5, k6⟩ := hrow
    obtain ⟨ht, i, hi, hsize, hbytes, zv, hz, hzs⟩ := hT
    obtain ⟨a, c, cells, rfl, hc, hl, hcell, hone, hrep⟩ := hx
    have hcells0 : ∀ (i : Nat) e, (r.es.drop o)[i]? = some e → e.length = r.sz ∧ ∀ (j : Nat) u, e[j]? = some u →
        ∃ c, cur[z + o * r.sz + i * r.sz + j]? = some c ∧ c.oneCell' = true ∧ Rep ρ w (Stab G ρ M w) noMem c u := by
      intro i e hi
      rw [List.getElem?_drop] at hi
      obtain ⟨m1, m2⟩ := k6 _ _ hi
      refine ⟨m1, fun j u hu => ?_⟩
      obtain ⟨c, n1, n2, n3⟩ := m2 j u hu
      refine ⟨c, ?_, n2, by simpa [hbx] using n3⟩
      rw [← n1]; congr 1; rw [Nat.add_mul]; omega
    by_cases h0 : news.length = 0
    · -- nothing is added
      have hn : news = [] := List.eq_nil_of_length_eq_zero h0
      subst hn
      have hoC : o ≤ C := by omega
      have hCo : cur.size = (z + o * r.sz) + (C - o) * r.sz := by
        have hsub : (C - o) * r.sz = C * r.sz - o * r.sz := Nat.sub_mul _ _ _
        have hle : o * r.sz ≤ C * r.sz := Nat.mul_le_mul_right _ hoC
        omega
      obtain ⟨T, W⟩ := hW.move hM hρ hio hid' hio' ⟨r.ty, r.sz, r.es.drop o ++ [], false⟩ rfl rfl (z + o * r.sz) (C - o) w cur cur k1 k1 rfl (fun _ _ => rfl) rfl rfl rfl rfl hCo (by omega)
        (by simp; omega) k5 (fun i e hi => hcells0 i e (by simpa using hi))
      refine ⟨_, w, .slice (some ad) n cap, ?_, T, W, (rep_osl (r := ⟨r.ty, r.sz, r.es.drop o ++ [], false⟩) (by simp [Mem.set])).2 ?_⟩
      · cases a with
        | none => simp [Builtin.append_, run_underlying ht, sizeOf, typeInfo, hi, Builtin.lenOf, Builtin.firstCells, g2, storeCells]
        | some a => simp [Builtin.append_, run_underlying ht, sizeOf, typeInfo, hi, Builtin.lenOf, Builtin.firstCells, loadCells, loadCellsFrom, g2, storeCells]
      · simp only [setAt, if_true]
        refine ⟨ad, cap, by simp, by simp; omega, by simpa using g2, g3, fun hp => ?_⟩
        obtain ⟨rfl, cur2, q1, q2⟩ := g4 hp
        refine ⟨by simp, cur2, q1, ?_⟩
        show cur2.size = z + o * r.sz + (0 + cap) * r.sz
        rw [q2, Nat.add_mul, Nat.zero_add]
        omega
    · have hpos : 0 < news.length := Nat.pos_of_ne_zero h0
      have hcp : 0 < cells.length := by rw [hl]; exact Nat.mul_pos hpos hsz
      obtain ⟨xa, rfl, _⟩ := hcell 0 cells[0] (List.getElem?_eq_getElem hcp)
      have hcell' : ∀ (j : Nat) u, cells[j]? = some u → w.cell? (xa.add j) = some u := fun j u hu => by
        obtain ⟨ad', e1, e2⟩ := hcell j u hu
        injection e1 with e1
        subst e1
        exact e2
      by_cases hroom : n + news.length ≤ cap
      · -- in place
        obtain ⟨rfl, cur2, q1, q2⟩ := g4 (by omega)
        rw [k1] at q1
        injection q1 with q1
        injection q1 with q1
        subst q1
        have hCcap : C = o + cap := by
          have : C * r.sz = (o + cap) * r.sz := by omega
          exact Nat.eq_of_mul_eq_mul_right hsz this
        have hfit : z + o * r.sz + n * r.sz + cells.length ≤ cur.size := by
          rw [hl, q2, Nat.add_mul]
          have : (n + news.length) * r.sz ≤ cap * r.sz := Nat.mul_le_mul_right _ hroom
          rw [Nat.add_mul] at this
          omega
        have hf := run_firstCells_some (P := P) w r.sz news.length xa news.length c cells hl hcell'
        have hst := run_storeCells_at P b (z + o * r.sz + n * r.sz) r.ty cells 0 cur w k1 (by simpa using hfit) hone
        simp only [Nat.add_zero] at hst
        have hadd : (⟨b, z + o * r.sz, none⟩ : Addr).add (n * r.sz) = ⟨b, z + o * r.sz + n * r.sz, none⟩ := by
          unfold Addr.add; split <;> simp_all
        have hrun : (Builtin.append_ #[T, T] ty #[.slice (some ⟨b, z + o * r.sz, none⟩) n cap, .slice (some xa) news.length c]).run P w =
            .ok (.slice (some ⟨b, z + o * r.sz, none⟩) (n + news.length) cap) (w.setRow b (cur.toList.take (z + o * r.sz + n * r.sz) ++ cells ++ cur.toList.drop (z + o * r.sz + n * r.sz + cells.length)).toArray) := by
          simp [Builtin.append_, run_underlying ht, sizeOf, typeInfo, hi, hsize, Builtin.lenOf, hroom, hf, hadd, hst]
        have hsz' : (cur.toList.take (z + o * r.sz + n * r.sz) ++ cells ++ cur.toList.drop (z + o * r.sz + n * r.sz + cells.length)).toArray.size = cur.size := by
          simp only [List.size_toArray, List.length_append, List.length_take, List.length_drop, Array.length_toList]
          omega
        have key : ∀ (i : Nat) e, (r.es.drop o ++ news)[i]? = some e → e.length = r.sz ∧ ∀ (j : Nat) u, e[j]? = some u →
            ∃ c, (cur.toList.take (z + o * r.sz + n * r.sz) ++ cells ++ cur.toList.drop (z + o * r.sz + n * r.sz + cells.length)).toArray[z + o * r.sz + i * r.sz + j]? = some c ∧ c.oneCell' = true ∧ Rep ρ w (Stab G ρ M w) noMem c u := by
          intro i e hi
          rw [list_two_at, hdl] at hi
          split at hi
          · rename_i hin
            obtain ⟨m1, m2⟩ := hcells0 i e hi
            refine ⟨m1, fun j u hu => ?_⟩
            obtain ⟨cv, n1, n2, n3⟩ := m2 j u hu
            refine ⟨cv, ?_, n2, n3⟩
            have hj : j < r.sz := by rw [← m1]; exact (List.getElem?_eq_some_iff.1 hu).1
            have hij : i * r.sz + j < n * r.sz := by
              have : (i + 1) * r.sz ≤ n * r.sz := Nat.mul_le_mul_right _ hin
              rw [Nat.add_mul] at this; omega
            have hlt := (Array.getElem?_eq_some_iff.1 n1).1
            rw [List.getElem?_toArray, List.append_assoc, List.getElem?_append_left (by simp; omega), List.getElem?_take, if_pos (by omega), Array.getElem?_toList]
            exact n1
          · rename_i hin
            obtain ⟨m1, m2⟩ := hrep _ _ hi
            refine ⟨m1, fun j u hu => ?_⟩
            obtain ⟨cv, n1, n3⟩ := m2 j u hu
            refine ⟨cv, ?_, hone _ (List.mem_of_getElem? n1), n3⟩
            have hlt := (List.getElem?_eq_some_iff.1 n1).1
            have hsplit : i * r.sz = n * r.sz + (i - n) * r.sz := by rw [← Nat.add_mul]; congr 1; omega
            have htl : (List.take (z + o * r.sz + n * r.sz) cur.toList).length = z + o * r.sz + n * r.sz := by simp; omega
            rw [List.getElem?_toArray, List.append_assoc, List.getElem?_append_right (by rw [htl]; omega), htl, List.getElem?_append_left (by omega), ← n1]
            congr 1
            omega
        obtain ⟨T, W⟩ := hW.move hM hρ hio hid' hio' ⟨r.ty, r.sz, r.es.drop o ++ news, false⟩ rfl rfl (z + o * r.sz) (C - o)
          (w.setRow b (cur.toList.take (z + o * r.sz + n * r.sz) ++ cells ++ cur.toList.drop (z + o * r.sz + n * r.sz + cells.length)).toArray) cur _ k1 (setRow_heap w b cur _ r.ty _ k1) (by simp)
          (fun k hk => setRow_other w b k _ hk) rfl rfl rfl hsz'
          (by rw [hsz', q2, hCcap]; show _ = z + o * r.sz + (o + cap - o) * r.sz; rw [Nat.add_mul, Nat.add_sub_cancel_left]; omega) (by omega) (by simp; omega) k5 key
        refine ⟨_, _, _, hrun, T, W, (rep_osl (r := ⟨r.ty, r.sz, r.es.drop o ++ news, false⟩) (by simp [Mem.set])).2 ?_⟩
        simp only [setAt, if_true]
        refine ⟨_, _, rfl, by simp; omega, hroom, g3, fun hp => ⟨by simp, _, setRow_heap w b cur _ r.ty _ k1, ?_⟩⟩
        rw [hsz']
        show cur.size = z + o * r.sz + (0 + cap) * r.sz
        rw [q2, Nat.add_mul, Nat.zero_add]
        omega
      · -- a new block
        obtain ⟨sa, sc, olds, he, hsc, hol, hocell, hoone, horep⟩ := hsrc
        rw [hdl] at he hol
        injection he with he1 he2 he3
        subst he1
        have hocell' : ∀ (j : Nat) u, olds[j]? = some u → w.cell? (ad.add j) = some u := fun j u hu => by
          obtain ⟨ad', e1, e2⟩ := hocell j u hu
          injection e1 with e1
          subst e1
          exact e2
        have hm : ((n + news.length : Nat) : Int) ≤ 9223372036854775807 := by unfold maxLen at h63; omega
        have hrun := run_append_grow (P := P) w T ty r.ty i zv ht hi hz ad n cap olds (by rw [hol, hsize]) hocell' xa news.length c cells (by rw [hl, hsize]) hcell' (by omega) hm
          (growslice_fits (by omega) (by rw [hbytes]; exact hby))
        have hge := grownCap_ge w (n + news.length) cap r.ty
        have hmx := grownCap_le_maxLen w (n + news.length) cap r.ty h63
        have hol' : (olds ++ cells).length = (n + news.length) * r.sz := by rw [List.length_append, hol, hl, Nat.add_mul]
        obtain ⟨T1, W1⟩ := hW.dead hM
        have hcsz : (olds.toArray ++ cells.toArray ++ Builtin.zeroCells zv.cells (grownCap w (n + news.length) cap r.ty - (n + news.length))).size = grownCap w (n + news.length) cap r.ty * r.sz := by
          simp only [Array.size_append, List.size_toArray, size_zeroCells, hzs, hol, hl, ← Nat.add_mul]; congr 1; omega
        have key : ∀ (i : Nat) e, (r.es.drop o ++ news)[i]? = some e → e.length = r.sz ∧ ∀ (j : Nat) u, e[j]? = some u →
            ∃ c, (olds.toArray ++ cells.toArray ++ Builtin.zeroCells zv.cells (grownCap w (n + news.length) cap r.ty - (n + news.length)))[i * r.sz + j]? = some c ∧ c.oneCell' = true ∧
              Rep ρ w (Stab G ρ (M.set id none) w) (if false = true then M.set id none else noMem) c u := by
          intro i e hi
          rw [list_two_at, hdl] at hi
          have hall : ∀ (k : Nat) cv, (olds ++ cells)[k]? = some cv → (olds.toArray ++ cells.toArray ++ Builtin.zeroCells zv.cells (grownCap w (n + news.length) cap r.ty - (n + news.length)))[k]? = some cv := by
            intro k cv hk
            have hlt := (List.getElem?_eq_some_iff.1 hk).1
            rw [Array.getElem?_append_left (by simpa using hlt)]
            simpa using hk
          split at hi
          · rename_i hin
            obtain ⟨m1, m2⟩ := horep i e hi
            refine ⟨m1, fun j u hu => ?_⟩
            obtain ⟨cv, n1, n3⟩ := m2 j u hu
            have hlt := (List.getElem?_eq_some_iff.1 n1).1
            exact ⟨cv, hall _ _ (by rw [List.getElem?_append_left hlt]; exact n1), hoone _ (List.mem_of_getElem? n1), by simpa using n3.pureMono (fun b hb => ⟨(T1.stab b hb).1, rfl⟩)⟩
          · rename_i hin
            obtain ⟨m1, m2⟩ := hrep _ _ hi
            refine ⟨m1, fun j u hu => ?_⟩
            obtain ⟨cv, n1, n3⟩ := m2 j u hu
            have hsplit : i * r.sz = n * r.sz + (i - n) * r.sz := by rw [← Nat.add_mul]; congr 1; omega
            refine ⟨cv, hall _ _ ?_, hone _ (List.mem_of_getElem? n1), by simpa using n3.pureMono (fun b hb => ⟨(T1.stab b hb).1, rfl⟩)⟩
            rw [List.getElem?_append_right (by omega), ← n1]
            congr 1
            omega
        obtain ⟨T, W⟩ := W1.newRow (id := id') (by simp [Mem.set, Ne.symm hne, hid']) hio' ⟨r.ty, r.sz, r.es.drop o ++ news, false⟩
          (cur := olds.toArray ++ cells.toArray ++ Builtin.zeroCells zv.cells (grownCap w (n + news.length) cap r.ty - (n + news.length))) (C := grownCap w (n + news.length) cap r.ty)
          (w' := w.drew.alloc (.cells (olds.toArray ++ cells.toArray ++ Builtin.zeroCells zv.cells (grownCap w (n + news.length) cap r.ty - (n + news.length))) r.ty)) rfl rfl rfl rfl
          hcsz hmx (by simp; omega) hsz key
        refine ⟨_, _, _, hrun, T1.trans T, W, (rep_osl (r := ⟨r.ty, r.sz, r.es.drop o ++ news, false⟩) (by simp [Mem.set])).2 ?_⟩
        simp only [setAt, if_true]
        refine ⟨_, _, rfl, by simp; omega, hge, hmx, fun _ => ⟨by simp, _, heap_alloc_new w.drew _, ?_⟩⟩
        rw [hcsz]
        simp
end
end Go.Vs
