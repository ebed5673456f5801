/- VALUE SEMANTICS, 23: facts on types by evaluation. -/
import Derived.Test.YthjlolbooehhcaaVs22
import Derived.KernelRfl
set_option linter.unusedVariables false
set_option linter.unusedSimpArgs false
namespace Go.Vs
variable {P : Program} {T : TypeId}

def tCell (P : Program) (T : TypeId) : Bool := match P.underlying T with | some (.struct _) => false | some (.array _ _) => false | some _ => true | none => false
theorem tcell (h : tCell P T = true) : TCell P T := by
  unfold tCell at h
  cases hu : P.underlying T with
  | none => rw [hu] at h; cases h
  | some ds => exact ⟨ds, hu, (fun fs e => by subst e; rw [hu] at h; cases h), (fun n e e' => by subst e'; rw [hu] at h; cases h)⟩
def tSize (P : Program) (T : TypeId) (k : Nat) : Bool := match P.info? T with | some i => Nat.beq i.size k | none => false
theorem tsize {k : Nat} (h : tSize P T k = true) : TSize P T k := by
  unfold tSize at h
  cases hu : P.info? T with
  | none => rw [hu] at h; cases h
  | some i => rw [hu] at h; exact ⟨i, hu, Nat.eq_of_beq_eq_true h⟩
def tAgg (P : Program) (T : TypeId) (k : Nat) : Bool := (match P.underlying T with | some (.struct _) => true | _ => false) && tSize P T k
theorem tagg {k : Nat} (h : tAgg P T k = true) : TAgg P T k := by
  unfold tAgg at h
  rw [Bool.and_eq_true] at h
  refine ⟨?_, tsize h.2⟩
  cases hu : P.underlying T with
  | none => rw [hu] at h; exact absurd h.1 (by simp)
  | some ds => cases ds <;> first | exact ⟨_, rfl⟩ | (rw [hu] at h; exact absurd h.1 (by simp))
def tSlice (P : Program) (T e : TypeId) (sz by_ : Nat) : Bool :=
  (match P.underlying T with | some (.slice e') => Nat.beq e' e | _ => false) && (match P.info? e with | some i => Nat.beq i.size sz && Nat.beq i.bytes by_ && (match i.zero with | some z => Nat.beq z.cells.size sz | none => false) | none => false)
theorem tslice {e : TypeId} {sz by_ : Nat} (h : tSlice P T e sz by_ = true) : TSlice P T e sz by_ := by
  unfold tSlice at h
  rw [Bool.and_eq_true] at h
  refine ⟨?_, ?_⟩
  · cases hu : P.underlying T with
    | none => rw [hu] at h; exact absurd h.1 (by simp)
    | some ds => cases ds <;> first | (rw [hu] at h; rw [Nat.eq_of_beq_eq_true h.1]; done) | (rw [hu] at h; exact absurd h.1 (by simp))
  · cases hi : P.info? e with
    | none => rw [hi] at h; exact absurd h.2 (by simp)
    | some i =>
      rw [hi] at h
      have h2 := h.2
      simp only [Bool.and_eq_true] at h2
      refine ⟨i, rfl, Nat.eq_of_beq_eq_true h2.1.1, Nat.eq_of_beq_eq_true h2.1.2, ?_⟩
      cases hz : i.zero with
      | none => rw [hz] at h2; exact absurd h2.2 (by simp)
      | some z => rw [hz] at h2; exact ⟨z, rfl, Nat.eq_of_beq_eq_true h2.2⟩
def tField (P : Program) (T : TypeId) (f off : Nat) : Bool :=
  match P.underlying T with | some (.struct fs) => (match fs[f]? with | some fd => Nat.beq fd.offset off && (match P.info? fd.type with | some i => !Nat.beq i.size 0 | none => false) | none => false) | _ => false
theorem tfield {f off : Nat} (h : tField P T f off = true) : TField P T f off := by
  unfold tField at h
  cases hu : P.underlying T with
  | none => rw [hu] at h; cases h
  | some ds =>
    cases ds <;> try (rw [hu] at h; cases h; done)
    rename_i fs
    rw [hu] at h
    cases hf : fs[f]? with
    | none => simp only [hf] at h; cases h
    | some fd =>
      simp only [hf, Bool.and_eq_true] at h
      cases hi : P.info? fd.type with
      | none => rw [hi] at h; exact absurd h.2 (by simp)
      | some i =>
        rw [hi] at h
        refine ⟨fs, fd, i, hu, hf, Nat.eq_of_beq_eq_true h.1, hi, fun e => ?_⟩
        have h2 := h.2
        simp only [e] at h2
        exact absurd h2 (by decide)
def tZero (P : Program) (T : TypeId) (cs : List PV) : Prop := ∃ z, (P.info? T).bind (·.zero) = some z ∧ z.cells.toList.map ofConst = cs
theorem tzero {cs : List PV} (z : Value) (h : (P.info? T).bind (·.zero) = some z) (hz : z.cells.toList.map ofConst = cs) : TZero P T cs := by
  cases hi : P.info? T with
  | none => rw [hi] at h; cases h
  | some i => rw [hi] at h; exact ⟨i, z, hi, h, hz.symm⟩
theorem tunder {ds : TypeDesc} (h : P.underlying T = some ds) : P.underlying T = some ds := h
def tStruct (P : Program) (T : TypeId) (places : List (Nat × Nat)) : Bool :=
  match P.underlying T with
  | some (.struct fs) => Nat.beq places.length fs.size && (List.range fs.size).all fun j => match fs[j]?, places[j]? with
    | some fd, some (off, k) => Nat.beq fd.offset off && tSize P fd.type k
    | _, _ => false
  | _ => false
theorem tstruct {places : List (Nat × Nat)} {zs : List PV} (h : tStruct P T places = true) (hz : TZero P T zs) : TStruct P T places zs := by
  unfold tStruct at h
  cases hu : P.underlying T with
  | none => rw [hu] at h; cases h
  | some ds =>
    cases ds <;> try (rw [hu] at h; cases h; done)
    rename_i fs
    rw [hu] at h
    simp only [Bool.and_eq_true] at h
    refine ⟨fs, hu, Nat.eq_of_beq_eq_true h.1, fun j fd hj => ?_, hz⟩
    have hlt : j < fs.size := by
      rcases Nat.lt_or_ge j fs.size with h' | h'
      · exact h'
      · rw [Array.getElem?_eq_none h'] at hj; cases hj
    have := List.all_eq_true.1 h.2 j (List.mem_range.2 hlt)
    rw [hj] at this
    cases hp : places[j]? with
    | none => rw [hp] at this; cases this
    | some p =>
      obtain ⟨off, k⟩ := p
      rw [hp] at this
      simp only [Bool.and_eq_true] at this
      exact ⟨k, by rw [Nat.eq_of_beq_eq_true this.1], tsize this.2⟩
end Go.Vs
