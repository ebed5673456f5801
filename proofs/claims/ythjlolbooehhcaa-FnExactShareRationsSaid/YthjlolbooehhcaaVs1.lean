/- VALUE SEMANTICS, 1: pure values, what a Value of the model represents, and what keeps it. Nothing here names a program. -/
import Derived.WalkKit
import Derived.Orders
import Derived.Laws.MakeOwn
set_option linter.unusedVariables false
set_option linter.unusedSimpArgs false
namespace Go.Vs

abbrev Id := Nat × Nat

inductive PV where
  | any
  | int (k : IntKind) (n : Int)
  | bool (b : Bool)
  | str (s : ByteArray)
  | nil
  | agg (cs : List PV)
  | tuple (vs : List PV)
  | fn (f : FuncId) (fi ca : List PV)
  | list (sz : Nat) (es : List (List PV))
  | ptr (cs : List PV)
  | own (id : Id) (i off : Nat)
  | osl (id : Id) (o n : Nat)
  | olist (ty : TypeId) (sz : Nat) (es : List (List PV))

structure Row where
  ty : TypeId
  sz : Nat
  es : List (List PV)
  bx : Bool

abbrev Mem := Id → Option (Option Row)
def noMem : Mem := fun _ => none

/-- An own slice: nil, or within the row of block b. -/
def OslOk (w : World) (r : Row) (v : Value) (o n : Nat) : Option (Nat × Nat) → Prop
  | none => v = .slice none 0 0 ∧ o = 0 ∧ n = 0
  | some (b, z) => ∃ (ad : Addr) (cap : Nat), v = .slice (some ad) n cap ∧ o + n ≤ r.es.length ∧ n ≤ cap ∧ cap ≤ maxLen ∧
      (0 < cap → ad = ⟨b, z + o * r.sz, none⟩ ∧ ∃ cur : Array Value, w.heap[b]? = some (.cells cur r.ty (0, 0)) ∧ cur.size = z + (o + cap) * r.sz)

def OwnOk (r : Row) (v : Value) (i off : Nat) : Option (Nat × Nat) → Prop
  | none => False
  | some (b, z) => v = .pointer (some ⟨b, z + i * r.sz + off, none⟩)

def RepD (ρ : Id → Option (Nat × Nat)) (w : World) (S : Nat → Prop) : Nat → Mem → Value → PV → Prop
  | 0, _, _, _ => True
  | d + 1, M, v, x =>
    match x with
    | .any => True
    | .int k n => v = .int k n
    | .bool b => v = .bool b
    | .str s => v = .string s
    | .nil => v = .slice none 0 0
    | .agg xs => ∃ cs : Array Value, v = .agg cs ∧ cs.size = xs.length ∧ ∀ (j : Nat) u, xs[j]? = some u → ∃ c, cs[j]? = some c ∧ RepD ρ w S d M c u
    | .tuple xs => ∃ cs : Array Value, v = .tuple cs ∧ cs.size = xs.length ∧ ∀ (j : Nat) u, xs[j]? = some u → ∃ c, cs[j]? = some c ∧ RepD ρ w S d M c u
    | .fn f fi ca => ∃ a b : Array Value, v = .func (.func f) a b ∧ (a.size = fi.length ∧ ∀ (j : Nat) u, fi[j]? = some u → ∃ c, a[j]? = some c ∧ RepD ρ w S d M c u) ∧
        (b.size = ca.length ∧ ∀ (j : Nat) u, ca[j]? = some u → ∃ c, b[j]? = some c ∧ RepD ρ w S d M c u)
    | .list sz es => ∃ (a : Option Addr) (cap : Nat), v = .slice a es.length cap ∧ es.length ≤ cap ∧
        (es ≠ [] → ∃ ad, a = some ad ∧ S ad.block ∧ ∀ (i : Nat) e, es[i]? = some e → e.length = sz ∧
          ∀ (j : Nat) u, e[j]? = some u → ∃ c, w.cell? (ad.add (i * sz + j)) = some c ∧ c.oneCell' = true ∧ RepD ρ w S d noMem c u)
    | .ptr cs => ∃ ad : Addr, v = .pointer (some ad) ∧ S ad.block ∧ ∀ (j : Nat) u, cs[j]? = some u → ∃ c, w.cell? (ad.add j) = some c ∧ c.oneCell' = true ∧ RepD ρ w S d noMem c u
    | .own id i off => match M id with
        | some (some r) => OwnOk r v i off (ρ id)
        | some none => True
        | none => False
    | .osl id o n => match M id with
        | some (some r) => OslOk w r v o n (ρ id)
        | some none => True
        | none => False
    | .olist _ _ _ => False

def Rep (ρ : Id → Option (Nat × Nat)) (w : World) (S : Nat → Prop) (M : Mem) (v : Value) (x : PV) : Prop := ∀ d, RepD ρ w S d M v x

/-- Components one by one. -/
def Comps (ρ : Id → Option (Nat × Nat)) (w : World) (S : Nat → Prop) (M : Mem) (cs : Array Value) (xs : List PV) : Prop :=
  cs.size = xs.length ∧ ∀ (j : Nat) u, xs[j]? = some u → ∃ c, cs[j]? = some c ∧ Rep ρ w S M c u

section
variable {ρ : Id → Option (Nat × Nat)} {w : World} {S : Nat → Prop} {M : Mem} {v : Value}

theorem rep_any : Rep ρ w S M v .any := fun d => by cases d <;> trivial
theorem rep_int {k n} : Rep ρ w S M v (.int k n) ↔ v = .int k n := ⟨fun h => h 1, fun h d => by cases d <;> first | trivial | exact h⟩
theorem rep_bool {b} : Rep ρ w S M v (.bool b) ↔ v = .bool b := ⟨fun h => h 1, fun h d => by cases d <;> first | trivial | exact h⟩
theorem rep_str {s} : Rep ρ w S M v (.str s) ↔ v = .string s := ⟨fun h => h 1, fun h d => by cases d <;> first | trivial | exact h⟩
theorem rep_nil : Rep ρ w S M v .nil ↔ v = .slice none 0 0 := ⟨fun h => h 1, fun h d => by cases d <;> first | trivial | exact h⟩
theorem rep_olist {t z es} : ¬ Rep ρ w S M v (.olist t z es) := fun h => h 1

theorem comps_of {cs : Array Value} {xs : List PV} (hs : cs.size = xs.length) (h : ∀ d, ∀ (j : Nat) u, xs[j]? = some u → ∃ c, cs[j]? = some c ∧ RepD ρ w S d M c u) : Comps ρ w S M cs xs := by
  refine ⟨hs, fun j u hu => ?_⟩
  have hj : j < cs.size := by rw [hs]; exact (List.getElem?_eq_some_iff.1 hu).1
  refine ⟨cs[j], Array.getElem?_eq_getElem hj, fun d => ?_⟩
  obtain ⟨c, hc1, hc2⟩ := h d j u hu
  rw [Array.getElem?_eq_getElem hj] at hc1
  cases hc1
  exact hc2
theorem Comps.d {cs : Array Value} {xs : List PV} (h : Comps ρ w S M cs xs) (d : Nat) : ∀ (j : Nat) u, xs[j]? = some u → ∃ c, cs[j]? = some c ∧ RepD ρ w S d M c u :=
  fun j u hu => let ⟨c, h1, h2⟩ := h.2 j u hu; ⟨c, h1, h2 d⟩

theorem rep_agg {xs} : Rep ρ w S M v (.agg xs) ↔ ∃ cs : Array Value, v = .agg cs ∧ Comps ρ w S M cs xs := by
  constructor
  · intro h
    obtain ⟨cs, rfl, hs, _⟩ := h 1
    refine ⟨cs, rfl, comps_of hs fun d => ?_⟩
    obtain ⟨cs', he, _, hc⟩ := h (d + 1)
    cases he
    exact hc
  · rintro ⟨cs, rfl, hc⟩ d
    cases d with
    | zero => trivial
    | succ d => exact ⟨cs, rfl, hc.1, hc.d d⟩
theorem rep_tuple {xs} : Rep ρ w S M v (.tuple xs) ↔ ∃ cs : Array Value, v = .tuple cs ∧ Comps ρ w S M cs xs := by
  constructor
  · intro h
    obtain ⟨cs, rfl, hs, _⟩ := h 1
    refine ⟨cs, rfl, comps_of hs fun d => ?_⟩
    obtain ⟨cs', he, _, hc⟩ := h (d + 1)
    cases he
    exact hc
  · rintro ⟨cs, rfl, hc⟩ d
    cases d with
    | zero => trivial
    | succ d => exact ⟨cs, rfl, hc.1, hc.d d⟩
theorem rep_fn {f fi ca} : Rep ρ w S M v (.fn f fi ca) ↔ ∃ a b : Array Value, v = .func (.func f) a b ∧ Comps ρ w S M a fi ∧ Comps ρ w S M b ca := by
  constructor
  · intro h
    obtain ⟨a, b, rfl, ⟨h1, _⟩, ⟨h2, _⟩⟩ := h 1
    refine ⟨a, b, rfl, comps_of h1 fun d => ?_, comps_of h2 fun d => ?_⟩
    · obtain ⟨a', b', he, ⟨_, hc⟩, _⟩ := h (d + 1)
      cases he
      exact hc
    · obtain ⟨a', b', he, _, ⟨_, hc⟩⟩ := h (d + 1)
      cases he
      exact hc
  · rintro ⟨a, b, rfl, h1, h2⟩ d
    cases d with
    | zero => trivial
    | succ d => exact ⟨a, b, rfl, ⟨h1.1, h1.d d⟩, ⟨h2.1, h2.d d⟩⟩

/-- Cells from an address on. -/
def Cells (ρ : Id → Option (Nat × Nat)) (w : World) (S : Nat → Prop) (ad : Addr) (xs : List PV) : Prop :=
  ∀ (j : Nat) u, xs[j]? = some u → ∃ c, w.cell? (ad.add j) = some c ∧ c.oneCell' = true ∧ Rep ρ w S noMem c u

theorem rep_ptr {cs} : Rep ρ w S M v (.ptr cs) ↔ ∃ ad : Addr, v = .pointer (some ad) ∧ S ad.block ∧ Cells ρ w S ad cs := by
  constructor
  · intro h
    obtain ⟨ad, rfl, hS, h1⟩ := h 1
    refine ⟨ad, rfl, hS, fun j u hu => ?_⟩
    obtain ⟨c, hc, ho, _⟩ := h1 j u hu
    refine ⟨c, hc, ho, fun d => ?_⟩
    obtain ⟨ad', he, _, h2⟩ := h (d + 1)
    cases he
    obtain ⟨c', hc', _, hr⟩ := h2 j u hu
    rw [hc] at hc'
    cases hc'
    exact hr
  · rintro ⟨ad, rfl, hS, hc⟩ d
    cases d with
    | zero => trivial
    | succ d => exact ⟨ad, rfl, hS, fun j u hu => let ⟨c, h1, ho, h2⟩ := hc j u hu; ⟨c, h1, ho, h2 d⟩⟩

theorem add_add (a : Addr) (i j : Nat) : (a.add i).add j = a.add (i + j) := by
  unfold Addr.add
  by_cases hi : i = 0 <;> by_cases hj : j = 0 <;> simp [hi, hj, Nat.add_assoc]
theorem add_block (a : Addr) (i : Nat) : (a.add i).block = a.block := by unfold Addr.add; split <;> rfl

theorem rep_list {sz es} : Rep ρ w S M v (.list sz es) ↔ ∃ (a : Option Addr) (cap : Nat), v = .slice a es.length cap ∧ es.length ≤ cap ∧
    (es ≠ [] → ∃ ad, a = some ad ∧ S ad.block ∧ ∀ (i : Nat) e, es[i]? = some e → e.length = sz ∧ Cells ρ w S (ad.add (i * sz)) e) := by
  constructor
  · intro h
    obtain ⟨a, cap, rfl, hcap, h1⟩ := h 1
    refine ⟨a, cap, rfl, hcap, fun hne => ?_⟩
    obtain ⟨ad, rfl, hS, h2⟩ := h1 hne
    refine ⟨ad, rfl, hS, fun i e hi => ⟨(h2 i e hi).1, fun j u hu => ?_⟩⟩
    obtain ⟨c, hc, ho, _⟩ := (h2 i e hi).2 j u hu
    rw [add_add]
    refine ⟨c, hc, ho, fun d => ?_⟩
    obtain ⟨a', cap', he, _, h3⟩ := h (d + 1)
    cases he
    obtain ⟨ad', he', _, h4⟩ := h3 hne
    cases he'
    obtain ⟨c', hc', _, hr⟩ := (h4 i e hi).2 j u hu
    rw [hc] at hc'
    cases hc'
    exact hr
  · rintro ⟨a, cap, rfl, hcap, hc⟩ d
    cases d with
    | zero => trivial
    | succ d =>
      refine ⟨a, cap, rfl, hcap, fun hne => ?_⟩
      obtain ⟨ad, rfl, hS, h2⟩ := hc hne
      refine ⟨ad, rfl, hS, fun i e hi => ⟨(h2 i e hi).1, fun j u hu => ?_⟩⟩
      obtain ⟨c, h1, ho, h3⟩ := (h2 i e hi).2 j u hu
      rw [add_add] at h1
      exact ⟨c, h1, ho, h3 d⟩
theorem rep_own {id i off} {r : Row} (hM : M id = some (some r)) : Rep ρ w S M v (.own id i off) ↔ OwnOk r v i off (ρ id) :=
  ⟨fun h => by have := h 1; simpa [RepD, hM] using this, fun h d => by cases d with | zero => trivial | succ d => simpa [RepD, hM] using h⟩
theorem rep_osl {id o n} {r : Row} (hM : M id = some (some r)) : Rep ρ w S M v (.osl id o n) ↔ OslOk w r v o n (ρ id) :=
  ⟨fun h => by have := h 1; simpa [RepD, hM] using this, fun h d => by cases d with | zero => trivial | succ d => simpa [RepD, hM] using h⟩
theorem rep_own_live {id i off} (h : Rep ρ w S M v (.own id i off)) : ∃ x, M id = some x := by
  have := h 1
  cases hM : M id with
  | none => simp [RepD, hM] at this
  | some x => exact ⟨x, rfl⟩
end

/-- What may become of the own rows between two states so that own references keep their meaning. -/
def MLe (ρ : Id → Option (Nat × Nat)) (w : World) (M : Mem) (ρ' : Id → Option (Nat × Nat)) (w' : World) (M' : Mem) : Prop :=
  ∀ id, match M id with
    | none => True
    | some none => M' id = some none
    | some (some r) => M' id = some none ∨ ∃ r', M' id = some (some r') ∧ r'.sz = r.sz ∧ r'.ty = r.ty ∧ r.es.length ≤ r'.es.length ∧ ρ' id = ρ id ∧
        ∀ b z, ρ id = some (b, z) → ∀ cur : Array Value, w.heap[b]? = some (.cells cur r.ty (0, 0)) → ∃ cur' : Array Value, w'.heap[b]? = some (.cells cur' r.ty (0, 0)) ∧ cur'.size = cur.size

theorem MLe.refl (ρ : Id → Option (Nat × Nat)) (w : World) (M : Mem) : MLe ρ w M ρ w M := by
  intro id
  split
  · trivial
  · assumption
  · rename_i r h
    exact .inr ⟨r, h, rfl, rfl, Nat.le_refl _, rfl, fun b _ _ cur hc => ⟨cur, hc, rfl⟩⟩
theorem MLe.noMem {ρ ρ' : Id → Option (Nat × Nat)} {w w' : World} {M' : Mem} : MLe ρ w noMem ρ' w' M' := fun _ => trivial

theorem RepD.mono {ρ ρ' : Id → Option (Nat × Nat)} {w w' : World} {S S' : Nat → Prop} (hS : ∀ b, S b → S' b ∧ w'.heap[b]? = w.heap[b]?) :
    ∀ (d : Nat) {M M' : Mem}, MLe ρ w M ρ' w' M' → ∀ v x, RepD ρ w S d M v x → RepD ρ' w' S' d M' v x
  | 0, _, _, _, _, _, _ => trivial
  | d + 1, M, M', hM, v, x, h => by
    have ih := fun v x => RepD.mono hS d hM v x
    have ihN := fun v x => RepD.mono (ρ := ρ) (ρ' := ρ') hS d (MLe.noMem (M' := noMem)) v x
    have hcell : ∀ a : Addr, S a.block → ∀ j, w'.cell? (a.add j) = w.cell? (a.add j) := fun a ha j =>
      World.cell?_of_block (by rw [add_block]; exact (hS _ ha).2)
    cases x with
    | any => trivial
    | int k n => exact h
    | bool b => exact h
    | str s => exact h
    | nil => exact h
    | olist _ _ _ => exact h
    | agg xs => obtain ⟨cs, e, hs, hc⟩ := h; exact ⟨cs, e, hs, fun j u hu => let ⟨c, h1, h2⟩ := hc j u hu; ⟨c, h1, ih _ _ h2⟩⟩
    | tuple xs => obtain ⟨cs, e, hs, hc⟩ := h; exact ⟨cs, e, hs, fun j u hu => let ⟨c, h1, h2⟩ := hc j u hu; ⟨c, h1, ih _ _ h2⟩⟩
    | fn f fi ca =>
      obtain ⟨a, b, e, ⟨h1, h2⟩, ⟨h3, h4⟩⟩ := h
      exact ⟨a, b, e, ⟨h1, fun j u hu => let ⟨c, g1, g2⟩ := h2 j u hu; ⟨c, g1, ih _ _ g2⟩⟩, ⟨h3, fun j u hu => let ⟨c, g1, g2⟩ := h4 j u hu; ⟨c, g1, ih _ _ g2⟩⟩⟩
    | list sz es =>
      obtain ⟨a, cap, e, hcap, hc⟩ := h
      refine ⟨a, cap, e, hcap, fun hne => ?_⟩
      obtain ⟨ad, ha, hs, h2⟩ := hc hne
      refine ⟨ad, ha, (hS _ hs).1, fun i el hi => ⟨(h2 i el hi).1, fun j u hu => ?_⟩⟩
      obtain ⟨c, g1, ho, g2⟩ := (h2 i el hi).2 j u hu
      exact ⟨c, by rw [hcell ad hs]; exact g1, ho, ihN _ _ g2⟩
    | ptr cs =>
      obtain ⟨ad, e, hs, hc⟩ := h
      refine ⟨ad, e, (hS _ hs).1, fun j u hu => ?_⟩
      obtain ⟨c, g1, ho, g2⟩ := hc j u hu
      exact ⟨c, by rw [hcell ad hs]; exact g1, ho, ihN _ _ g2⟩
    | own id i off =>
      have hm := hM id
      simp only [RepD] at h ⊢
      cases hMi : M id with
      | none => simp [hMi] at h
      | some o =>
        cases o with
        | none => simp [hMi] at hm; simp [hm]
        | some r =>
          simp only [hMi] at h hm
          rcases hm with hm | ⟨r', hm, hz, hty, hl, hρ, _⟩
          · simp [hm]
          · simp only [hm, hρ]
            cases hb : ρ id with
            | none => simp [OwnOk, hb] at h
            | some b => obtain ⟨b, z⟩ := b; simpa [OwnOk, hb, hz] using h
    | osl id o n =>
      have hm := hM id
      simp only [RepD] at h ⊢
      cases hMi : M id with
      | none => simp [hMi] at h
      | some ob =>
        cases ob with
        | none => simp [hMi] at hm; simp [hm]
        | some r =>
          simp only [hMi] at h hm
          rcases hm with hm | ⟨r', hm, hz, hty, hl, hρ, hb'⟩
          · simp [hm]
          · simp only [hm, hρ]
            cases hb : ρ id with
            | none => simpa [OslOk, hb] using h
            | some bz =>
              obtain ⟨b, z⟩ := bz
              simp only [OslOk, hb] at h ⊢
              obtain ⟨ad, cap, e, h1, h2, h3, h4⟩ := h
              refine ⟨ad, cap, e, Nat.le_trans h1 hl, h2, h3, fun hp => ?_⟩
              obtain ⟨g1, cur, g2, g3⟩ := h4 hp
              obtain ⟨cur', g4, g5⟩ := hb' b z hb cur g2
              exact ⟨by rw [hz]; exact g1, cur', by rw [hty]; exact g4, by rw [g5, hz]; exact g3⟩

theorem Rep.mono {ρ ρ' : Id → Option (Nat × Nat)} {w w' : World} {S S' : Nat → Prop} {M M' : Mem} {v : Value} {x : PV} (h : Rep ρ w S M v x)
    (hS : ∀ b, S b → S' b ∧ w'.heap[b]? = w.heap[b]?) (hM : MLe ρ w M ρ' w' M') : Rep ρ' w' S' M' v x := fun d => RepD.mono hS d hM v x (h d)
theorem Rep.pureMono {ρ ρ' : Id → Option (Nat × Nat)} {w w' : World} {S S' : Nat → Prop} {M' : Mem} {v : Value} {x : PV} (h : Rep ρ w S noMem v x)
    (hS : ∀ b, S b → S' b ∧ w'.heap[b]? = w.heap[b]?) : Rep ρ' w' S' M' v x := h.mono hS MLe.noMem
theorem Cells.mono {ρ ρ' : Id → Option (Nat × Nat)} {w w' : World} {S S' : Nat → Prop} {ad : Addr} {xs : List PV} (h : Cells ρ w S ad xs) (ha : S ad.block)
    (hS : ∀ b, S b → S' b ∧ w'.heap[b]? = w.heap[b]?) : Cells ρ' w' S' ad xs := fun j u hu => by
  obtain ⟨c, h1, ho, h2⟩ := h j u hu
  exact ⟨c, by rw [World.cell?_of_block (w := w) (by rw [add_block]; exact (hS _ ha).2)]; exact h1, ho, h2.pureMono hS⟩
theorem Comps.mono {ρ ρ' : Id → Option (Nat × Nat)} {w w' : World} {S S' : Nat → Prop} {M M' : Mem} {cs : Array Value} {xs : List PV} (h : Comps ρ w S M cs xs)
    (hS : ∀ b, S b → S' b ∧ w'.heap[b]? = w.heap[b]?) (hM : MLe ρ w M ρ' w' M') : Comps ρ' w' S' M' cs xs :=
  ⟨h.1, fun j u hu => let ⟨c, h1, h2⟩ := h.2 j u hu; ⟨c, h1, h2.mono hS hM⟩⟩

end Go.Vs
