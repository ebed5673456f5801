/- VALUE SEMANTICS, 2: the relation between an abstract state and a world; new rows, dead rows, stores. -/
import Derived.Test.YthjlolbooehhcaaVs1
set_option linter.unusedVariables false
set_option linter.unusedSimpArgs false
namespace Go.Vs

/-- The tag of rows that the caller lends for the call. -/
def io : Nat := 1000000

def Stab (G : Nat → Prop) (ρ : Id → Option (Nat × Nat)) (M : Mem) (w : World) (b : Nat) : Prop := b < w.heap.size ∧ (∀ id r z, M id = some (some r) → ρ id ≠ some (b, z)) ∧ G b

structure Keep (w0 : World) (X : List (Option (Nat × Nat))) (w : World) : Prop where
  os : w.os = w0.os
  tape : w.tape = w0.tape
  output : w.output = w0.output
  size : w0.heap.size ≤ w.heap.size
  block : ∀ b, b < w0.heap.size → (∀ z, some (b, z) ∉ X) → w.heap[b]? = w0.heap[b]?
  shape : ∀ (b : Nat) (cur : Array Value) ty fr, w0.heap[b]? = some (.cells cur ty fr) → ∃ cur' : Array Value, w.heap[b]? = some (.cells cur' ty fr) ∧ cur'.size = cur.size

def RowOk (G : Nat → Prop) (ρ : Id → Option (Nat × Nat)) (w : World) (M : Mem) (r : Row) : Option (Nat × Nat) → Prop
  | none => r.es = [] ∧ r.bx = false
  | some (b, z) => ∃ (cur : Array Value) (C : Nat), w.heap[b]? = some (.cells cur r.ty (0, 0)) ∧ cur.size = z + C * r.sz ∧ C ≤ maxLen ∧ r.es.length ≤ C ∧ 0 < r.sz ∧
      ∀ (i : Nat) e, r.es[i]? = some e → e.length = r.sz ∧ ∀ (j : Nat) u, e[j]? = some u →
        ∃ c, cur[z + i * r.sz + j]? = some c ∧ c.oneCell' = true ∧ Rep ρ w (Stab G ρ M w) (if r.bx then M else noMem) c u

structure WRel (G : Nat → Prop) (ρ : Id → Option (Nat × Nat)) (w0 : World) (X : List (Option (Nat × Nat))) (M : Mem) (w : World) : Prop where
  inj : ∀ id id' r r' b z z', M id = some (some r) → M id' = some (some r') → ρ id = some (b, z) → ρ id' = some (b, z') → id = id'
  row : ∀ id r, M id = some (some r) → RowOk G ρ w M r (ρ id)
  new : ∀ id r, M id = some (some r) → if id.1 = io then X[id.2]? = some (ρ id) else ∀ b z, ρ id = some (b, z) → w0.heap.size ≤ b
  keep : Keep w0 X w
  good : ∀ b, w0.heap.size ≤ b → G b

structure Trans (G : Nat → Prop) (ρ : Id → Option (Nat × Nat)) (M : Mem) (w : World) (ρ' : Id → Option (Nat × Nat)) (M' : Mem) (w' : World) : Prop where
  stab : ∀ b, Stab G ρ M w b → Stab G ρ' M' w' b ∧ w'.heap[b]? = w.heap[b]?
  mle : MLe ρ w M ρ' w' M'

def Mem.set (M : Mem) (id : Id) (x : Option Row) : Mem := fun id' => if id' = id then some x else M id'
def setAt {α : Type} (ρ : Id → α) (id : Id) (x : α) : Id → α := fun id' => if id' = id then x else ρ id'
def Mem.upds (M : Mem) : List (Id × Option Row) → Mem
  | [] => M
  | p :: r => (M.upds r).set p.1 p.2

section
variable {G : Nat → Prop} {ρ ρ' : Id → Option (Nat × Nat)} {w0 w w' : World} {X : List (Option (Nat × Nat))} {M M' : Mem}

theorem Trans.refl (G : Nat → Prop) (ρ : Id → Option (Nat × Nat)) (M : Mem) (w : World) : Trans G ρ M w ρ M w := ⟨fun _ h => ⟨h, rfl⟩, MLe.refl _ _ _⟩
theorem Trans.rep (T : Trans G ρ M w ρ' M' w') {v : Value} {x : PV} (h : Rep ρ w (Stab G ρ M w) M v x) : Rep ρ' w' (Stab G ρ' M' w') M' v x := h.mono T.stab T.mle
theorem Trans.repB (T : Trans G ρ M w ρ' M' w') {v : Value} {x : PV} {b : Bool} (h : Rep ρ w (Stab G ρ M w) (if b then M else noMem) v x) : Rep ρ' w' (Stab G ρ' M' w') (if b then M' else noMem) v x := by
  cases b
  · exact h.mono T.stab MLe.noMem
  · exact h.mono T.stab T.mle
theorem Trans.comps (T : Trans G ρ M w ρ' M' w') {cs : Array Value} {xs : List PV} (h : Comps ρ w (Stab G ρ M w) M cs xs) : Comps ρ' w' (Stab G ρ' M' w') M' cs xs := h.mono T.stab T.mle

theorem RowOk.mono {r : Row} {ob : Option (Nat × Nat)} (T : Trans G ρ M w ρ' M' w') (h : RowOk G ρ w M r ob) (hb : ∀ b z, ob = some (b, z) → w'.heap[b]? = w.heap[b]?) : RowOk G ρ' w' M' r ob := by
  cases ob with
  | none => exact h
  | some bz =>
    obtain ⟨b, z⟩ := bz
    obtain ⟨cur, C, h1, h2, h3, h4, h5, h6⟩ := h
    refine ⟨cur, C, by rw [hb b z rfl]; exact h1, h2, h3, h4, h5, fun i e hi => ⟨(h6 i e hi).1, fun j u hu => ?_⟩⟩
    obtain ⟨c, g1, g2, g3⟩ := (h6 i e hi).2 j u hu
    exact ⟨c, g1, g2, T.repB g3⟩

theorem RowOk.lt {r : Row} {b z : Nat} (h : RowOk G ρ w M r (some (b, z))) : b < w.heap.size := by
  obtain ⟨cur, C, h1, _⟩ := h
  exact (Array.getElem?_eq_some_iff.1 h1).1
theorem WRel.lt (h : WRel G ρ w0 X M w) {id : Id} {r : Row} {b z : Nat} (hM : M id = some (some r)) (hρ : ρ id = some (b, z)) : b < w.heap.size := by
  have := h.row id r hM
  rw [hρ] at this
  exact this.lt

theorem WRel.newRow (h : WRel G ρ w0 X M w) {id : Id} (hid : M id = none) (hio : id.1 ≠ io) (r : Row) (w' : World) (cur : Array Value) (C : Nat)
    (hheap : w'.heap = w.heap.push (.cells cur r.ty)) (hos : w'.os = w.os) (htape : w'.tape = w.tape) (hout : w'.output = w.output)
    (hs : cur.size = C * r.sz) (hC : C ≤ maxLen) (hl : r.es.length ≤ C) (hz : 0 < r.sz)
    (hcells : ∀ (i : Nat) e, r.es[i]? = some e → e.length = r.sz ∧ ∀ (j : Nat) u, e[j]? = some u →
        ∃ c, cur[i * r.sz + j]? = some c ∧ c.oneCell' = true ∧ Rep ρ w (Stab G ρ M w) (if r.bx then M else noMem) c u) :
    Trans G ρ M w (setAt ρ id (some (w.heap.size, 0))) (M.set id (some r)) w' ∧ WRel G (setAt ρ id (some (w.heap.size, 0))) w0 X (M.set id (some r)) w' := by
  have hold : ∀ b, b < w.heap.size → w'.heap[b]? = w.heap[b]? := fun b hb => by rw [hheap, Array.getElem?_push, if_neg (by omega)]
  have hnew : w'.heap[w.heap.size]? = some (.cells cur r.ty (0, 0)) := by rw [hheap]; simp
  have hsize : w'.heap.size = w.heap.size + 1 := by rw [hheap]; simp
  have T : Trans G ρ M w (setAt ρ id (some (w.heap.size, 0))) (M.set id (some r)) w' := by
    refine ⟨fun b hb => ⟨⟨by have := hb.1; omega, fun id' r' z hM' => ?_, hb.2.2⟩, hold b hb.1⟩, fun id' => ?_⟩
    · by_cases he : id' = id
      · simp only [setAt, he, if_true]
        intro hh
        injection hh with hh
        injection hh with hh
        have := hb.1
        omega
      · simp only [Mem.set, he, if_false] at hM'
        simp only [setAt, he, if_false]
        exact hb.2.1 id' r' z hM'
    · cases hMi : M id' with
      | none => trivial
      | some o =>
        have he : id' ≠ id := fun e => by rw [e, hid] at hMi; cases hMi
        cases o with
        | none => simp [Mem.set, he, hMi]
        | some r' =>
          refine .inr ⟨r', by simp [Mem.set, he, hMi], rfl, rfl, Nat.le_refl _, by simp [setAt, he], fun b z hρ cur' hc => ⟨cur', ?_, rfl⟩⟩
          rw [hold b (h.lt hMi hρ)]
          exact hc
  refine ⟨T, ⟨?_, ?_, ?_, ?_, h.good⟩⟩
  · intro i1 i2 r1 r2 b z1 z2 hM1 hM2 hρ1 hρ2
    by_cases e1 : i1 = id <;> by_cases e2 : i2 = id
    · rw [e1, e2]
    · simp only [setAt, e1, e2, if_true, if_false] at hρ1 hρ2
      simp only [Mem.set, e2, if_false] at hM2
      have := h.lt hM2 hρ2
      injection hρ1 with hh
      injection hh with hh
      omega
    · simp only [setAt, e1, e2, if_true, if_false] at hρ1 hρ2
      simp only [Mem.set, e1, if_false] at hM1
      have := h.lt hM1 hρ1
      injection hρ2 with hh
      injection hh with hh
      omega
    · simp only [setAt, e1, e2, if_false] at hρ1 hρ2
      simp only [Mem.set, e1, e2, if_false] at hM1 hM2
      exact h.inj i1 i2 r1 r2 b z1 z2 hM1 hM2 hρ1 hρ2
  · intro i1 r1 hM1
    by_cases e1 : i1 = id
    · simp only [Mem.set, e1, if_true, Option.some.injEq] at hM1
      subst hM1
      simp only [setAt, e1, if_true]
      refine ⟨cur, C, hnew, by simpa using hs, hC, hl, hz, fun i e hi => ⟨(hcells i e hi).1, fun j u hu => ?_⟩⟩
      obtain ⟨c, g1, g2, g3⟩ := (hcells i e hi).2 j u hu
      exact ⟨c, by simpa using g1, g2, T.repB g3⟩
    · simp only [Mem.set, e1, if_false] at hM1
      simp only [setAt, e1, if_false]
      exact (h.row i1 r1 hM1).mono T fun b z hb => hold b (h.lt hM1 hb)
  · intro i1 r1 hM1
    by_cases e1 : i1 = id
    · rw [e1, if_neg hio]
      intro b z hρ1
      simp only [setAt, if_true] at hρ1
      injection hρ1 with hh
      injection hh with hh
      rw [← hh]
      exact h.keep.size
    · simp only [Mem.set, e1, if_false] at hM1
      simp only [setAt, e1, if_false]
      exact h.new i1 r1 hM1
  · refine ⟨hos.trans h.keep.os, htape.trans h.keep.tape, hout.trans h.keep.output, by have := h.keep.size; omega,
      fun b hb hX => (hold b (by have := h.keep.size; omega)).trans (h.keep.block b hb hX), fun b c0 ty fr hb => ?_⟩
    obtain ⟨c1, k1, k2⟩ := h.keep.shape b c0 ty fr hb
    exact ⟨c1, by rw [hold b (Array.getElem?_eq_some_iff.1 k1).1]; exact k1, k2⟩

theorem WRel.dead (h : WRel G ρ w0 X M w) {id : Id} {r : Row} (hM : M id = some (some r)) : Trans G ρ M w ρ (M.set id none) w ∧ WRel G ρ w0 X (M.set id none) w := by
  have T : Trans G ρ M w ρ (M.set id none) w := by
    refine ⟨fun b hb => ⟨⟨hb.1, fun id' r' z hM' => ?_, hb.2.2⟩, rfl⟩, fun id' => ?_⟩
    · by_cases he : id' = id
      · simp [Mem.set, he] at hM'
      · simp only [Mem.set, he, if_false] at hM'
        exact hb.2.1 id' r' z hM'
    · by_cases he : id' = id
      · rw [he, hM]
        exact .inl (by simp [Mem.set])
      · cases hMi : M id' with
        | none => trivial
        | some o =>
          cases o with
          | none => simp [Mem.set, he, hMi]
          | some r' => exact .inr ⟨r', by simp [Mem.set, he, hMi], rfl, rfl, Nat.le_refl _, rfl, fun b z hρ cur' hc => ⟨cur', hc, rfl⟩⟩
  have live : ∀ i1 r1, (M.set id none) i1 = some (some r1) → M i1 = some (some r1) := by
    intro i1 r1 h1
    by_cases he : i1 = id
    · simp [Mem.set, he] at h1
    · simpa [Mem.set, he] using h1
  exact ⟨T, ⟨fun i1 i2 r1 r2 b z1 z2 h1 h2 => h.inj i1 i2 r1 r2 b z1 z2 (live _ _ h1) (live _ _ h2), fun i1 r1 h1 => (h.row i1 r1 (live _ _ h1)).mono T fun _ _ _ => rfl,
    fun i1 r1 h1 => h.new i1 r1 (live _ _ h1), h.keep, h.good⟩⟩

theorem WRel.store (h : WRel G ρ w0 X M w) {id : Id} {r : Row} (hM : M id = some (some r)) {b z : Nat} (hρ : ρ id = some (b, z)) (w' : World) (cur cur' : Array Value) (es' : List (List PV))
    (hcur : w.heap[b]? = some (.cells cur r.ty (0, 0))) (hnew : w'.heap[b]? = some (.cells cur' r.ty (0, 0))) (hsz : cur'.size = cur.size) (hsize : w'.heap.size = w.heap.size)
    (hold : ∀ k, k ≠ b → w'.heap[k]? = w.heap[k]?) (hos : w'.os = w.os) (htape : w'.tape = w.tape) (hout : w'.output = w.output) (hlen : es'.length = r.es.length)
    (hcells : ∀ (i : Nat) e, es'[i]? = some e → e.length = r.sz ∧ ∀ (j : Nat) u, e[j]? = some u →
        ∃ c, cur'[z + i * r.sz + j]? = some c ∧ c.oneCell' = true ∧ Rep ρ w (Stab G ρ M w) (if r.bx then M else noMem) c u) :
    Trans G ρ M w ρ (M.set id (some { r with es := es' })) w' ∧ WRel G ρ w0 X (M.set id (some { r with es := es' })) w' := by
  have far : ∀ i1 r1 b1 z1, i1 ≠ id → M i1 = some (some r1) → ρ i1 = some (b1, z1) → b1 ≠ b := by
    intro i1 r1 b1 z1 hne h1 h2 he
    rw [he] at h2
    exact hne (h.inj i1 id r1 r b z1 z h1 hM h2 hρ)
  have live : ∀ i1 r1, (M.set id (some { r with es := es' })) i1 = some (some r1) → ∃ r2, M i1 = some (some r2) := by
    intro i1 r1 h1
    by_cases he : i1 = id
    · exact ⟨r, by rw [he]; exact hM⟩
    · exact ⟨r1, by simpa [Mem.set, he] using h1⟩
  have T : Trans G ρ M w ρ (M.set id (some { r with es := es' })) w' := by
    refine ⟨fun k hk => ⟨⟨by rw [hsize]; exact hk.1, fun id' r' z' hM' => ?_, hk.2.2⟩, hold k (fun e => hk.2.1 id r z hM (by rw [hρ, e]))⟩, fun id' => ?_⟩
    · obtain ⟨r2, h2⟩ := live _ _ hM'
      exact hk.2.1 id' r2 z' h2
    · by_cases he : id' = id
      · rw [he, hM]
        refine .inr ⟨{ r with es := es' }, by simp [Mem.set], rfl, rfl, Nat.le_of_eq hlen.symm, rfl, fun b1 z1 h1 c1 hc1 => ?_⟩
        rw [hρ] at h1
        injection h1 with h1
        injection h1 with h1 _
        subst h1
        rw [hcur] at hc1
        injection hc1 with hc1
        injection hc1 with hc1
        subst hc1
        exact ⟨cur', hnew, hsz⟩
      · cases hMi : M id' with
        | none => trivial
        | some o =>
          cases o with
          | none => simp [Mem.set, he, hMi]
          | some r' =>
            refine .inr ⟨r', by simp [Mem.set, he, hMi], rfl, rfl, Nat.le_refl _, rfl, fun b1 z1 h1 cur1 hc => ⟨cur1, ?_, rfl⟩⟩
            rw [hold b1 (far id' r' b1 z1 he hMi h1)]
            exact hc
  refine ⟨T, ⟨?_, ?_, ?_, ?_, h.good⟩⟩
  · intro i1 i2 r1 r2 b1 z1 z2 h1 h2
    obtain ⟨s1, g1⟩ := live _ _ h1
    obtain ⟨s2, g2⟩ := live _ _ h2
    exact h.inj i1 i2 s1 s2 b1 z1 z2 g1 g2
  · intro i1 r1 h1
    by_cases he : i1 = id
    · simp only [Mem.set, he, if_true, Option.some.injEq] at h1
      subst h1
      have hr := h.row id r hM
      rw [hρ] at hr
      obtain ⟨c0, C, g1, g2, g3, g4, g5, _⟩ := hr
      rw [hcur] at g1
      injection g1 with g1
      injection g1 with g1
      subst g1
      rw [he, hρ]
      refine ⟨cur', C, hnew, by rw [hsz]; exact g2, g3, by simpa [hlen] using g4, g5, fun i e hi => ⟨(hcells i e hi).1, fun j u hu => ?_⟩⟩
      obtain ⟨c, k1, k2, k3⟩ := (hcells i e hi).2 j u hu
      exact ⟨c, k1, k2, T.repB k3⟩
    · simp only [Mem.set, he, if_false] at h1
      exact (h.row i1 r1 h1).mono T fun b1 z1 hb => hold b1 (far i1 r1 b1 z1 he h1 hb)
  · intro i1 r1 h1
    obtain ⟨s1, g1⟩ := live _ _ h1
    exact h.new i1 s1 g1
  · refine ⟨hos.trans h.keep.os, htape.trans h.keep.tape, hout.trans h.keep.output, by rw [hsize]; exact h.keep.size, fun k hk hX => ?_, fun k c0 ty fr hb => ?_⟩
    · by_cases he : k = b
      · have hn := h.new id r hM
        split at hn
        · exfalso
          apply hX z
          rw [he, ← hρ]
          exact List.mem_of_getElem? hn
        · have := hn b z hρ
          omega
      · exact (hold k he).trans (h.keep.block k hk hX)
    · obtain ⟨c1, k1, k2⟩ := h.keep.shape k c0 ty fr hb
      by_cases he : k = b
      · subst he
        rw [hcur] at k1
        injection k1 with k1
        injection k1 with q1 q2 q3
        subst q1 q2 q3
        exact ⟨cur', hnew, hsz.trans k2⟩
      · exact ⟨c1, (hold k he).trans k1, k2⟩
end
end Go.Vs
