/- Parts of a proof: what its last text mentions. -/
import Derived.WalkKit
import Derived.Orders
import Derived.Laws.MakeOwn
import Derived.Laws.BytesString
import Derived.KernelRfl
import Derived.Below
import Derived.ChangeArms
import Derived.Deep.Slices
import Derived.Test.YtaoadjbjpagdoaaRows
import Derived.Laws.Strings
import Derived.Laws.StructEq
import Derived.ChangeKeysEq
import Derived.ProofKit
import Derived.OpenShut
import Derived.ShutString
import Derived.ChangeOld
namespace Go.Vs
def tabG : List Nat := []
def TabOk (_hp : Nat → Option Obj) : Prop := True
def TabsAt (w : World) : Prop := ∃ hp, TabOk hp ∧ ∀ g ∈ tabG, g < w.heap.size ∧ w.heap[g]? = hp g
theorem tabs0 (w : World) : TabsAt w := ⟨fun _ => none, trivial, fun g hg => by simp [tabG] at hg⟩
end Go.Vs
set_option linter.unusedVariables false
set_option linter.unusedSimpArgs false
namespace Go.Vs
abbrev Id := Nat × Nat
inductive PV where
  | any
  | int (k : IntKind) (n : Int)
  | bool (b : Bool)
  | str (s : ByteArray)
  | nil
  | agg (cs : List PV)
  | tuple (vs : List PV)
  | fn (f : FuncId) (fi ca : List PV)
  | list (sz : Nat) (es : List (List PV))
  | ptr (cs : List PV)
  | own (id : Id) (i off : Nat)
  | osl (id : Id) (o n : Nat)
  | olist (ty : TypeId) (sz : Nat) (es : List (List PV))
  | clist (sz : Nat) (es : List (List PV))
  | sem (p : (Nat → Prop) → World → Value → Prop)
structure Row where
  ty : TypeId
  sz : Nat
  es : List (List PV)
  bx : Bool
abbrev Mem := Id → Option (Option Row)
def noMem : Mem := fun _ => none
def OslOk (w : World) (r : Row) (v : Value) (o n : Nat) : Option (Nat × Nat) → Prop
  | none => v = .slice none 0 0 ∧ o = 0 ∧ n = 0
  | some (b, z) => ∃ (ad : Addr) (cap : Nat), v = .slice (some ad) n cap ∧ o + n ≤ r.es.length ∧ n ≤ cap ∧ cap ≤ maxLen ∧
      (0 < cap → ad = ⟨b, z + o * r.sz, none⟩ ∧ ∃ cur : Array Value, w.heap[b]? = some (.cells cur r.ty (0, 0)) ∧ cur.size = z + (o + cap) * r.sz)
def OwnOk (r : Row) (v : Value) (i off : Nat) : Option (Nat × Nat) → Prop
  | none => False
  | some (b, z) => v = .pointer (some ⟨b, z + i * r.sz + off, none⟩)
def RepD (ρ : Id → Option (Nat × Nat)) (w : World) (S : Nat → Prop) : Nat → Mem → Value → PV → Prop
  | 0, _, _, _ => True
  | d + 1, M, v, x =>
    match x with
    | .any => True
    | .int k n => v = .int k n
    | .bool b => v = .bool b
    | .str s => v = .string s
    | .nil => v = .slice none 0 0
    | .agg xs => ∃ cs : Array Value, v = .agg cs ∧ cs.size = xs.length ∧ ∀ (j : Nat) u, xs[j]? = some u → ∃ c, cs[j]? = some c ∧ RepD ρ w S d M c u
    | .tuple xs => ∃ cs : Array Value, v = .tuple cs ∧ cs.size = xs.length ∧ ∀ (j : Nat) u, xs[j]? = some u → ∃ c, cs[j]? = some c ∧ RepD ρ w S d M c u
    | .fn f fi ca => ∃ a b : Array Value, v = .func (.func f) a b ∧ (a.size = fi.length ∧ ∀ (j : Nat) u, fi[j]? = some u → ∃ c, a[j]? = some c ∧ RepD ρ w S d M c u) ∧
        (b.size = ca.length ∧ ∀ (j : Nat) u, ca[j]? = some u → ∃ c, b[j]? = some c ∧ RepD ρ w S d M c u)
    | .list sz es => ∃ (a : Option Addr) (cap : Nat), v = .slice a es.length cap ∧ es.length ≤ cap ∧
        (es ≠ [] → ∃ ad, a = some ad ∧ S ad.block ∧ ∀ (i : Nat) e, es[i]? = some e → e.length = sz ∧
          ∀ (j : Nat) u, e[j]? = some u → ∃ c, w.cell? (ad.add (i * sz + j)) = some c ∧ c.oneCell' = true ∧ RepD ρ w S d noMem c u)
    | .ptr cs => ∃ ad : Addr, v = .pointer (some ad) ∧ S ad.block ∧ ∀ (j : Nat) u, cs[j]? = some u → ∃ c, w.cell? (ad.add j) = some c ∧ c.oneCell' = true ∧ RepD ρ w S d noMem c u
    | .own id i off => match M id with
        | some (some r) => OwnOk r v i off (ρ id)
        | some none => True
        | none => False
    | .osl id o n => match M id with
        | some (some r) => OslOk w r v o n (ρ id)
        | some none => True
        | none => False
    | .olist _ _ _ => False
    | .clist sz es => ∃ (a : Option Addr), v = .slice a es.length es.length ∧
        (es ≠ [] → ∃ ad, a = some ad ∧ S ad.block ∧ ∀ (i : Nat) e, es[i]? = some e → e.length = sz ∧
          ∀ (j : Nat) u, e[j]? = some u → ∃ c, w.cell? (ad.add (i * sz + j)) = some c ∧ c.oneCell' = true ∧ RepD ρ w S d noMem c u)
    | .sem p => v.oneCell' = true ∧ ∃ B : Nat → Prop, (∀ b, B b → S b) ∧ ∀ w' : World, (∀ b, B b → w'.heap[b]? = w.heap[b]?) → p B w' v
def Rep (ρ : Id → Option (Nat × Nat)) (w : World) (S : Nat → Prop) (M : Mem) (v : Value) (x : PV) : Prop := ∀ d, RepD ρ w S d M v x
def Comps (ρ : Id → Option (Nat × Nat)) (w : World) (S : Nat → Prop) (M : Mem) (cs : Array Value) (xs : List PV) : Prop :=
  cs.size = xs.length ∧ ∀ (j : Nat) u, xs[j]? = some u → ∃ c, cs[j]? = some c ∧ Rep ρ w S M c u
section
variable {ρ : Id → Option (Nat × Nat)} {w : World} {S : Nat → Prop} {M : Mem} {v : Value}
theorem rep_any : Rep ρ w S M v .any := fun d => by cases d <;> trivial
theorem rep_int {k n} : Rep ρ w S M v (.int k n) ↔ v = .int k n := ⟨fun h => h 1, fun h d => by cases d <;> first | trivial | exact h⟩
theorem rep_bool {b} : Rep ρ w S M v (.bool b) ↔ v = .bool b := ⟨fun h => h 1, fun h d => by cases d <;> first | trivial | exact h⟩
theorem rep_str {s} : Rep ρ w S M v (.str s) ↔ v = .string s := ⟨fun h => h 1, fun h d => by cases d <;> first | trivial | exact h⟩
theorem rep_nil : Rep ρ w S M v .nil ↔ v = .slice none 0 0 := ⟨fun h => h 1, fun h d => by cases d <;> first | trivial | exact h⟩
theorem rep_olist {t z es} : ¬ Rep ρ w S M v (.olist t z es) := fun h => h 1
theorem comps_of {cs : Array Value} {xs : List PV} (hs : cs.size = xs.length) (h : ∀ d, ∀ (j : Nat) u, xs[j]? = some u → ∃ c, cs[j]? = some c ∧ RepD ρ w S d M c u) : Comps ρ w S M cs xs := by
  refine ⟨hs, fun j u hu => ?_⟩
  have hj : j < cs.size := by rw [hs]; exact (List.getElem?_eq_some_iff.1 hu).1
  refine ⟨cs[j], Array.getElem?_eq_getElem hj, fun d => ?_⟩
  obtain ⟨c, hc1, hc2⟩ := h d j u hu
  rw [Array.getElem?_eq_getElem hj] at hc1
  cases hc1
  exact hc2
theorem Comps.d {cs : Array Value} {xs : List PV} (h : Comps ρ w S M cs xs) (d : Nat) : ∀ (j : Nat) u, xs[j]? = some u → ∃ c, cs[j]? = some c ∧ RepD ρ w S d M c u :=
  fun j u hu => let ⟨c, h1, h2⟩ := h.2 j u hu; ⟨c, h1, h2 d⟩
theorem rep_agg {xs} : Rep ρ w S M v (.agg xs) ↔ ∃ cs : Array Value, v = .agg cs ∧ Comps ρ w S M cs xs := by
  constructor
  · intro h
    obtain ⟨cs, rfl, hs, _⟩ := h 1
    refine ⟨cs, rfl, comps_of hs fun d => ?_⟩
    obtain ⟨cs', he, _, hc⟩ := h (d + 1)
    cases he
    exact hc
  · rintro ⟨cs, rfl, hc⟩ d
    cases d with
    | zero => trivial
    | succ d => exact ⟨cs, rfl, hc.1, hc.d d⟩
theorem rep_tuple {xs} : Rep ρ w S M v (.tuple xs) ↔ ∃ cs : Array Value, v = .tuple cs ∧ Comps ρ w S M cs xs := by
  constructor
  · intro h
    obtain ⟨cs, rfl, hs, _⟩ := h 1
    refine ⟨cs, rfl, comps_of hs fun d => ?_⟩
    obtain ⟨cs', he, _, hc⟩ := h (d + 1)
    cases he
    exact hc
  · rintro ⟨cs, rfl, hc⟩ d
    cases d with
    | zero => trivial
    | succ d => exact ⟨cs, rfl, hc.1, hc.d d⟩
theorem rep_fn {f fi ca} : Rep ρ w S M v (.fn f fi ca) ↔ ∃ a b : Array Value, v = .func (.func f) a b ∧ Comps ρ w S M a fi ∧ Comps ρ w S M b ca := by
  constructor
  · intro h
    obtain ⟨a, b, rfl, ⟨h1, _⟩, ⟨h2, _⟩⟩ := h 1
    refine ⟨a, b, rfl, comps_of h1 fun d => ?_, comps_of h2 fun d => ?_⟩
    · obtain ⟨a', b', he, ⟨_, hc⟩, _⟩ := h (d + 1)
      cases he
      exact hc
    · obtain ⟨a', b', he, _, ⟨_, hc⟩⟩ := h (d + 1)
      cases he
      exact hc
  · rintro ⟨a, b, rfl, h1, h2⟩ d
    cases d with
    | zero => trivial
    | succ d => exact ⟨a, b, rfl, ⟨h1.1, h1.d d⟩, ⟨h2.1, h2.d d⟩⟩
def Cells (ρ : Id → Option (Nat × Nat)) (w : World) (S : Nat → Prop) (ad : Addr) (xs : List PV) : Prop :=
  ∀ (j : Nat) u, xs[j]? = some u → ∃ c, w.cell? (ad.add j) = some c ∧ c.oneCell' = true ∧ Rep ρ w S noMem c u
theorem rep_ptr {cs} : Rep ρ w S M v (.ptr cs) ↔ ∃ ad : Addr, v = .pointer (some ad) ∧ S ad.block ∧ Cells ρ w S ad cs := by
  constructor
  · intro h
    obtain ⟨ad, rfl, hS, h1⟩ := h 1
    refine ⟨ad, rfl, hS, fun j u hu => ?_⟩
    obtain ⟨c, hc, ho, _⟩ := h1 j u hu
    refine ⟨c, hc, ho, fun d => ?_⟩
    obtain ⟨ad', he, _, h2⟩ := h (d + 1)
    cases he
    obtain ⟨c', hc', _, hr⟩ := h2 j u hu
    rw [hc] at hc'
    cases hc'
    exact hr
  · rintro ⟨ad, rfl, hS, hc⟩ d
    cases d with
    | zero => trivial
    | succ d => exact ⟨ad, rfl, hS, fun j u hu => let ⟨c, h1, ho, h2⟩ := hc j u hu; ⟨c, h1, ho, h2 d⟩⟩
theorem add_add (a : Addr) (i j : Nat) : (a.add i).add j = a.add (i + j) := by
  unfold Addr.add
  by_cases hi : i = 0 <;> by_cases hj : j = 0 <;> simp [hi, hj, Nat.add_assoc]
theorem add_block (a : Addr) (i : Nat) : (a.add i).block = a.block := by unfold Addr.add; split <;> rfl
theorem rep_list {sz es} : Rep ρ w S M v (.list sz es) ↔ ∃ (a : Option Addr) (cap : Nat), v = .slice a es.length cap ∧ es.length ≤ cap ∧
    (es ≠ [] → ∃ ad, a = some ad ∧ S ad.block ∧ ∀ (i : Nat) e, es[i]? = some e → e.length = sz ∧ Cells ρ w S (ad.add (i * sz)) e) := by
  constructor
  · intro h
    obtain ⟨a, cap, rfl, hcap, h1⟩ := h 1
    refine ⟨a, cap, rfl, hcap, fun hne => ?_⟩
    obtain ⟨ad, rfl, hS, h2⟩ := h1 hne
    refine ⟨ad, rfl, hS, fun i e hi => ⟨(h2 i e hi).1, fun j u hu => ?_⟩⟩
    obtain ⟨c, hc, ho, _⟩ := (h2 i e hi).2 j u hu
    rw [add_add]
    refine ⟨c, hc, ho, fun d => ?_⟩
    obtain ⟨a', cap', he, _, h3⟩ := h (d + 1)
    cases he
    obtain ⟨ad', he', _, h4⟩ := h3 hne
    cases he'
    obtain ⟨c', hc', _, hr⟩ := (h4 i e hi).2 j u hu
    rw [hc] at hc'
    cases hc'
    exact hr
  · rintro ⟨a, cap, rfl, hcap, hc⟩ d
    cases d with
    | zero => trivial
    | succ d =>
      refine ⟨a, cap, rfl, hcap, fun hne => ?_⟩
      obtain ⟨ad, rfl, hS, h2⟩ := hc hne
      refine ⟨ad, rfl, hS, fun i e hi => ⟨(h2 i e hi).1, fun j u hu => ?_⟩⟩
      obtain ⟨c, h1, ho, h3⟩ := (h2 i e hi).2 j u hu
      rw [add_add] at h1
      exact ⟨c, h1, ho, h3 d⟩
theorem rep_clist {sz es} : Rep ρ w S M v (.clist sz es) ↔ (∃ a, v = .slice a es.length es.length) ∧ Rep ρ w S M v (.list sz es) := by
  constructor
  · intro h
    obtain ⟨a, rfl, _⟩ := h 1
    refine ⟨⟨a, rfl⟩, fun d => ?_⟩
    cases d with
    | zero => trivial
    | succ d =>
      obtain ⟨a', e, h2⟩ := h (d + 1)
      cases e
      exact ⟨a, es.length, rfl, Nat.le_refl _, h2⟩
  · rintro ⟨⟨a, rfl⟩, h⟩ d
    cases d with
    | zero => trivial
    | succ d =>
      obtain ⟨a', cap, e, _, h2⟩ := h (d + 1)
      cases e
      exact ⟨a, rfl, h2⟩
theorem rep_sem {p} : Rep ρ w S M v (.sem p) ↔ v.oneCell' = true ∧ ∃ B : Nat → Prop, (∀ b, B b → S b) ∧ ∀ w' : World, (∀ b, B b → w'.heap[b]? = w.heap[b]?) → p B w' v :=
  ⟨fun h => h 1, fun h d => by cases d with | zero => trivial | succ d => exact h⟩
theorem rep_own {id i off} {r : Row} (hM : M id = some (some r)) : Rep ρ w S M v (.own id i off) ↔ OwnOk r v i off (ρ id) :=
  ⟨fun h => by have := h 1; simpa [RepD, hM] using this, fun h d => by cases d with | zero => trivial | succ d => simpa [RepD, hM] using h⟩
theorem rep_osl {id o n} {r : Row} (hM : M id = some (some r)) : Rep ρ w S M v (.osl id o n) ↔ OslOk w r v o n (ρ id) :=
  ⟨fun h => by have := h 1; simpa [RepD, hM] using this, fun h d => by cases d with | zero => trivial | succ d => simpa [RepD, hM] using h⟩
end
def MLe (ρ : Id → Option (Nat × Nat)) (w : World) (M : Mem) (ρ' : Id → Option (Nat × Nat)) (w' : World) (M' : Mem) : Prop :=
  ∀ id, match M id with
    | none => True
    | some none => M' id = some none
    | some (some r) => M' id = some none ∨ ∃ r', M' id = some (some r') ∧ r'.sz = r.sz ∧ r'.ty = r.ty ∧ r.es.length ≤ r'.es.length ∧ ρ' id = ρ id ∧
        ∀ b z, ρ id = some (b, z) → ∀ cur : Array Value, w.heap[b]? = some (.cells cur r.ty (0, 0)) → ∃ cur' : Array Value, w'.heap[b]? = some (.cells cur' r.ty (0, 0)) ∧ cur'.size = cur.size
theorem MLe.refl (ρ : Id → Option (Nat × Nat)) (w : World) (M : Mem) : MLe ρ w M ρ w M := by
  intro id
  split
  · trivial
  · assumption
  · rename_i r h
    exact .inr ⟨r, h, rfl, rfl, Nat.le_refl _, rfl, fun b _ _ cur hc => ⟨cur, hc, rfl⟩⟩
theorem MLe.noMem {ρ ρ' : Id → Option (Nat × Nat)} {w w' : World} {M' : Mem} : MLe ρ w noMem ρ' w' M' := fun _ => trivial
theorem RepD.mono {ρ ρ' : Id → Option (Nat × Nat)} {w w' : World} {S S' : Nat → Prop} (hS : ∀ b, S b → S' b ∧ w'.heap[b]? = w.heap[b]?) :
    ∀ (d : Nat) {M M' : Mem}, MLe ρ w M ρ' w' M' → ∀ v x, RepD ρ w S d M v x → RepD ρ' w' S' d M' v x
  | 0, _, _, _, _, _, _ => trivial
  | d + 1, M, M', hM, v, x, h => by
    have ih := fun v x => RepD.mono hS d hM v x
    have ihN := fun v x => RepD.mono (ρ := ρ) (ρ' := ρ') hS d (MLe.noMem (M' := noMem)) v x
    have hcell : ∀ a : Addr, S a.block → ∀ j, w'.cell? (a.add j) = w.cell? (a.add j) := fun a ha j =>
      World.cell?_of_block (by rw [add_block]; exact (hS _ ha).2)
    cases x with
    | any => trivial
    | int k n => exact h
    | bool b => exact h
    | str s => exact h
    | nil => exact h
    | olist _ _ _ => exact h
    | sem p => obtain ⟨h0, B, h1, h2⟩ := h; exact ⟨h0, B, fun b hb => (hS b (h1 b hb)).1, fun w2 hw2 => h2 w2 fun b hb => (hw2 b hb).trans (hS b (h1 b hb)).2⟩
    | clist sz es =>
      obtain ⟨a, e, hc⟩ := h
      refine ⟨a, e, fun hne => ?_⟩
      obtain ⟨ad, ha, hs, h2⟩ := hc hne
      refine ⟨ad, ha, (hS _ hs).1, fun i el hi => ⟨(h2 i el hi).1, fun j u hu => ?_⟩⟩
      obtain ⟨c, g1, ho, g2⟩ := (h2 i el hi).2 j u hu
      exact ⟨c, by rw [hcell ad hs]; exact g1, ho, ihN _ _ g2⟩
    | agg xs => obtain ⟨cs, e, hs, hc⟩ := h; exact ⟨cs, e, hs, fun j u hu => let ⟨c, h1, h2⟩ := hc j u hu; ⟨c, h1, ih _ _ h2⟩⟩
    | tuple xs => obtain ⟨cs, e, hs, hc⟩ := h; exact ⟨cs, e, hs, fun j u hu => let ⟨c, h1, h2⟩ := hc j u hu; ⟨c, h1, ih _ _ h2⟩⟩
    | fn f fi ca =>
      obtain ⟨a, b, e, ⟨h1, h2⟩, ⟨h3, h4⟩⟩ := h
      exact ⟨a, b, e, ⟨h1, fun j u hu => let ⟨c, g1, g2⟩ := h2 j u hu; ⟨c, g1, ih _ _ g2⟩⟩, ⟨h3, fun j u hu => let ⟨c, g1, g2⟩ := h4 j u hu; ⟨c, g1, ih _ _ g2⟩⟩⟩
    | list sz es =>
      obtain ⟨a, cap, e, hcap, hc⟩ := h
      refine ⟨a, cap, e, hcap, fun hne => ?_⟩
      obtain ⟨ad, ha, hs, h2⟩ := hc hne
      refine ⟨ad, ha, (hS _ hs).1, fun i el hi => ⟨(h2 i el hi).1, fun j u hu => ?_⟩⟩
      obtain ⟨c, g1, ho, g2⟩ := (h2 i el hi).2 j u hu
      exact ⟨c, by rw [hcell ad hs]; exact g1, ho, ihN _ _ g2⟩
    | ptr cs =>
      obtain ⟨ad, e, hs, hc⟩ := h
      refine ⟨ad, e, (hS _ hs).1, fun j u hu => ?_⟩
      obtain ⟨c, g1, ho, g2⟩ := hc j u hu
      exact ⟨c, by rw [hcell ad hs]; exact g1, ho, ihN _ _ g2⟩
    | own id i off =>
      have hm := hM id
      simp only [RepD] at h ⊢
      cases hMi : M id with
      | none => simp [hMi] at h
      | some o =>
        cases o with
        | none => simp [hMi] at hm; simp [hm]
        | some r =>
          simp only [hMi] at h hm
          rcases hm with hm | ⟨r', hm, hz, hty, hl, hρ, _⟩
          · simp [hm]
          · simp only [hm, hρ]
            cases hb : ρ id with
            | none => simp [OwnOk, hb] at h
            | some b => obtain ⟨b, z⟩ := b; simpa [OwnOk, hb, hz] using h
    | osl id o n =>
      have hm := hM id
      simp only [RepD] at h ⊢
      cases hMi : M id with
      | none => simp [hMi] at h
      | some ob =>
        cases ob with
        | none => simp [hMi] at hm; simp [hm]
        | some r =>
          simp only [hMi] at h hm
          rcases hm with hm | ⟨r', hm, hz, hty, hl, hρ, hb'⟩
          · simp [hm]
          · simp only [hm, hρ]
            cases hb : ρ id with
            | none => simpa [OslOk, hb] using h
            | some bz =>
              obtain ⟨b, z⟩ := bz
              simp only [OslOk, hb] at h ⊢
              obtain ⟨ad, cap, e, h1, h2, h3, h4⟩ := h
              refine ⟨ad, cap, e, Nat.le_trans h1 hl, h2, h3, fun hp => ?_⟩
              obtain ⟨g1, cur, g2, g3⟩ := h4 hp
              obtain ⟨cur', g4, g5⟩ := hb' b z hb cur g2
              exact ⟨by rw [hz]; exact g1, cur', by rw [hty]; exact g4, by rw [g5, hz]; exact g3⟩
theorem Rep.mono {ρ ρ' : Id → Option (Nat × Nat)} {w w' : World} {S S' : Nat → Prop} {M M' : Mem} {v : Value} {x : PV} (h : Rep ρ w S M v x)
    (hS : ∀ b, S b → S' b ∧ w'.heap[b]? = w.heap[b]?) (hM : MLe ρ w M ρ' w' M') : Rep ρ' w' S' M' v x := fun d => RepD.mono hS d hM v x (h d)
theorem Rep.pureMono {ρ ρ' : Id → Option (Nat × Nat)} {w w' : World} {S S' : Nat → Prop} {M' : Mem} {v : Value} {x : PV} (h : Rep ρ w S noMem v x)
    (hS : ∀ b, S b → S' b ∧ w'.heap[b]? = w.heap[b]?) : Rep ρ' w' S' M' v x := h.mono hS MLe.noMem
theorem Cells.mono {ρ ρ' : Id → Option (Nat × Nat)} {w w' : World} {S S' : Nat → Prop} {ad : Addr} {xs : List PV} (h : Cells ρ w S ad xs) (ha : S ad.block)
    (hS : ∀ b, S b → S' b ∧ w'.heap[b]? = w.heap[b]?) : Cells ρ' w' S' ad xs := fun j u hu => by
  obtain ⟨c, h1, ho, h2⟩ := h j u hu
  exact ⟨c, by rw [World.cell?_of_block (w := w) (by rw [add_block]; exact (hS _ ha).2)]; exact h1, ho, h2.pureMono hS⟩
theorem Comps.mono {ρ ρ' : Id → Option (Nat × Nat)} {w w' : World} {S S' : Nat → Prop} {M M' : Mem} {cs : Array Value} {xs : List PV} (h : Comps ρ w S M cs xs)
    (hS : ∀ b, S b → S' b ∧ w'.heap[b]? = w.heap[b]?) (hM : MLe ρ w M ρ' w' M') : Comps ρ' w' S' M' cs xs :=
  ⟨h.1, fun j u hu => let ⟨c, h1, h2⟩ := h.2 j u hu; ⟨c, h1, h2.mono hS hM⟩⟩
end Go.Vs
set_option linter.unusedVariables false
set_option linter.unusedSimpArgs false
namespace Go.Vs
def io : Nat := 1000000
def Stab (G : Nat → Prop) (ρ : Id → Option (Nat × Nat)) (M : Mem) (w : World) (b : Nat) : Prop := b < w.heap.size ∧ (∀ id r z, M id = some (some r) → ρ id ≠ some (b, z)) ∧ G b
def Tabs (G : Nat → Prop) (ρ : Id → Option (Nat × Nat)) (M : Mem) (w : World) : Prop := ∃ hp, TabOk hp ∧ ∀ g ∈ tabG, Stab G ρ M w g ∧ w.heap[g]? = hp g
theorem Tabs.mono {G G' : Nat → Prop} {ρ ρ' : Id → Option (Nat × Nat)} {M M' : Mem} {w w' : World} (h : Tabs G ρ M w) (hS : ∀ b, Stab G ρ M w b → Stab G' ρ' M' w' b ∧ w'.heap[b]? = w.heap[b]?) : Tabs G' ρ' M' w' :=
  let ⟨hp, h1, h2⟩ := h
  ⟨hp, h1, fun g hg => ⟨(hS g (h2 g hg).1).1, (hS g (h2 g hg).1).2.trans (h2 g hg).2⟩⟩
theorem Tabs.noMem {G : Nat → Prop} {ρ : Id → Option (Nat × Nat)} {M : Mem} {w : World} (h : Tabs G ρ M w) : Tabs G ρ noMem w :=
  h.mono fun b hb => ⟨⟨hb.1, fun id r z h => by simp [Go.Vs.noMem] at h, hb.2.2⟩, rfl⟩
structure Keep (w0 : World) (X : List (Option (Nat × Nat))) (w : World) : Prop where
  os : w.os = w0.os
  tape : w.tape = w0.tape
  output : w.output = w0.output
  size : w0.heap.size ≤ w.heap.size
  block : ∀ b, b < w0.heap.size → (∀ z, some (b, z) ∉ X) → w.heap[b]? = w0.heap[b]?
  shape : ∀ (b : Nat) (cur : Array Value) ty fr, w0.heap[b]? = some (.cells cur ty fr) → ∃ cur' : Array Value, w.heap[b]? = some (.cells cur' ty fr) ∧ cur'.size = cur.size
def RowOk (G : Nat → Prop) (ρ : Id → Option (Nat × Nat)) (w : World) (M : Mem) (r : Row) : Option (Nat × Nat) → Prop
  | none => r.es = [] ∧ r.bx = false
  | some (b, z) => ∃ (cur : Array Value) (C : Nat), w.heap[b]? = some (.cells cur r.ty (0, 0)) ∧ cur.size = z + C * r.sz ∧ C ≤ maxLen ∧ r.es.length ≤ C ∧ 0 < r.sz ∧
      ∀ (i : Nat) e, r.es[i]? = some e → e.length = r.sz ∧ ∀ (j : Nat) u, e[j]? = some u →
        ∃ c, cur[z + i * r.sz + j]? = some c ∧ c.oneCell' = true ∧ Rep ρ w (Stab G ρ M w) (if r.bx then M else noMem) c u
structure WRel (G : Nat → Prop) (ρ : Id → Option (Nat × Nat)) (w0 : World) (X : List (Option (Nat × Nat))) (M : Mem) (w : World) : Prop where
  inj : ∀ id id' r r' b z z', M id = some (some r) → M id' = some (some r') → ρ id = some (b, z) → ρ id' = some (b, z') → id = id'
  row : ∀ id r, M id = some (some r) → RowOk G ρ w M r (ρ id)
  new : ∀ id r, M id = some (some r) → if id.1 = io then X[id.2]? = some (ρ id) else ∀ b z, ρ id = some (b, z) → w0.heap.size ≤ b ∨ ∃ z', some (b, z') ∈ X
  keep : Keep w0 X w
  good : ∀ b, (w0.heap.size ≤ b ∨ ∃ z, some (b, z) ∈ X) → G b
  tab : Tabs G ρ M w
structure Trans (G : Nat → Prop) (ρ : Id → Option (Nat × Nat)) (M : Mem) (w : World) (ρ' : Id → Option (Nat × Nat)) (M' : Mem) (w' : World) : Prop where
  stab : ∀ b, Stab G ρ M w b → Stab G ρ' M' w' b ∧ w'.heap[b]? = w.heap[b]?
  mle : MLe ρ w M ρ' w' M'
def Mem.set (M : Mem) (id : Id) (x : Option Row) : Mem := fun id' => if id' = id then some x else M id'
def setAt {α : Type} (ρ : Id → α) (id : Id) (x : α) : Id → α := fun id' => if id' = id then x else ρ id'
def Mem.upds (M : Mem) : List (Id × Option Row) → Mem
  | [] => M
  | p :: r => (M.upds r).set p.1 p.2
section
variable {G : Nat → Prop} {ρ ρ' : Id → Option (Nat × Nat)} {w0 w w' : World} {X : List (Option (Nat × Nat))} {M M' : Mem}
theorem Trans.refl (G : Nat → Prop) (ρ : Id → Option (Nat × Nat)) (M : Mem) (w : World) : Trans G ρ M w ρ M w := ⟨fun _ h => ⟨h, rfl⟩, MLe.refl _ _ _⟩
theorem Trans.rep (T : Trans G ρ M w ρ' M' w') {v : Value} {x : PV} (h : Rep ρ w (Stab G ρ M w) M v x) : Rep ρ' w' (Stab G ρ' M' w') M' v x := h.mono T.stab T.mle
theorem Trans.repB (T : Trans G ρ M w ρ' M' w') {v : Value} {x : PV} {b : Bool} (h : Rep ρ w (Stab G ρ M w) (if b then M else noMem) v x) : Rep ρ' w' (Stab G ρ' M' w') (if b then M' else noMem) v x := by
  cases b
  · exact h.mono T.stab MLe.noMem
  · exact h.mono T.stab T.mle
theorem Trans.comps (T : Trans G ρ M w ρ' M' w') {cs : Array Value} {xs : List PV} (h : Comps ρ w (Stab G ρ M w) M cs xs) : Comps ρ' w' (Stab G ρ' M' w') M' cs xs := h.mono T.stab T.mle
theorem RowOk.mono {r : Row} {ob : Option (Nat × Nat)} (T : Trans G ρ M w ρ' M' w') (h : RowOk G ρ w M r ob) (hb : ∀ b z, ob = some (b, z) → w'.heap[b]? = w.heap[b]?) : RowOk G ρ' w' M' r ob := by
  cases ob with
  | none => exact h
  | some bz =>
    obtain ⟨b, z⟩ := bz
    obtain ⟨cur, C, h1, h2, h3, h4, h5, h6⟩ := h
    refine ⟨cur, C, by rw [hb b z rfl]; exact h1, h2, h3, h4, h5, fun i e hi => ⟨(h6 i e hi).1, fun j u hu => ?_⟩⟩
    obtain ⟨c, g1, g2, g3⟩ := (h6 i e hi).2 j u hu
    exact ⟨c, g1, g2, T.repB g3⟩
theorem RowOk.lt {r : Row} {b z : Nat} (h : RowOk G ρ w M r (some (b, z))) : b < w.heap.size := by
  obtain ⟨cur, C, h1, _⟩ := h
  exact (Array.getElem?_eq_some_iff.1 h1).1
theorem WRel.lt (h : WRel G ρ w0 X M w) {id : Id} {r : Row} {b z : Nat} (hM : M id = some (some r)) (hρ : ρ id = some (b, z)) : b < w.heap.size := by
  have := h.row id r hM
  rw [hρ] at this
  exact this.lt
theorem WRel.newRow (h : WRel G ρ w0 X M w) {id : Id} (hid : M id = none) (hio : id.1 ≠ io) (r : Row) (w' : World) (cur : Array Value) (C : Nat)
    (hheap : w'.heap = w.heap.push (.cells cur r.ty)) (hos : w'.os = w.os) (htape : w'.tape = w.tape) (hout : w'.output = w.output)
    (hs : cur.size = C * r.sz) (hC : C ≤ maxLen) (hl : r.es.length ≤ C) (hz : 0 < r.sz)
    (hcells : ∀ (i : Nat) e, r.es[i]? = some e → e.length = r.sz ∧ ∀ (j : Nat) u, e[j]? = some u →
        ∃ c, cur[i * r.sz + j]? = some c ∧ c.oneCell' = true ∧ Rep ρ w (Stab G ρ M w) (if r.bx then M else noMem) c u) :
    Trans G ρ M w (setAt ρ id (some (w.heap.size, 0))) (M.set id (some r)) w' ∧ WRel G (setAt ρ id (some (w.heap.size, 0))) w0 X (M.set id (some r)) w' := by
  have hold : ∀ b, b < w.heap.size → w'.heap[b]? = w.heap[b]? := fun b hb => by rw [hheap, Array.getElem?_push, if_neg (by omega)]
  have hnew : w'.heap[w.heap.size]? = some (.cells cur r.ty (0, 0)) := by rw [hheap]; simp
  have hsize : w'.heap.size = w.heap.size + 1 := by rw [hheap]; simp
  have T : Trans G ρ M w (setAt ρ id (some (w.heap.size, 0))) (M.set id (some r)) w' := by
    refine ⟨fun b hb => ⟨⟨by have := hb.1; omega, fun id' r' z hM' => ?_, hb.2.2⟩, hold b hb.1⟩, fun id' => ?_⟩
    · by_cases he : id' = id
      · simp only [setAt, he, if_true]
        intro hh
        injection hh with hh
        injection hh with hh
        have := hb.1
        omega
      · simp only [Mem.set, he, if_false] at hM'
        simp only [setAt, he, if_false]
        exact hb.2.1 id' r' z hM'
    · cases hMi : M id' with
      | none => trivial
      | some o =>
        have he : id' ≠ id := fun e => by rw [e, hid] at hMi; cases hMi
        cases o with
        | none => simp [Mem.set, he, hMi]
        | some r' =>
          refine .inr ⟨r', by simp [Mem.set, he, hMi], rfl, rfl, Nat.le_refl _, by simp [setAt, he], fun b z hρ cur' hc => ⟨cur', ?_, rfl⟩⟩
          rw [hold b (h.lt hMi hρ)]
          exact hc
  refine ⟨T, ⟨?_, ?_, ?_, ?_, h.good, h.tab.mono T.stab⟩⟩
  · intro i1 i2 r1 r2 b z1 z2 hM1 hM2 hρ1 hρ2
    by_cases e1 : i1 = id <;> by_cases e2 : i2 = id
    · rw [e1, e2]
    · simp only [setAt, e1, e2, if_true, if_false] at hρ1 hρ2
      simp only [Mem.set, e2, if_false] at hM2
      have := h.lt hM2 hρ2
      injection hρ1 with hh
      injection hh with hh
      omega
    · simp only [setAt, e1, e2, if_true, if_false] at hρ1 hρ2
      simp only [Mem.set, e1, if_false] at hM1
      have := h.lt hM1 hρ1
      injection hρ2 with hh
      injection hh with hh
      omega
    · simp only [setAt, e1, e2, if_false] at hρ1 hρ2
      simp only [Mem.set, e1, e2, if_false] at hM1 hM2
      exact h.inj i1 i2 r1 r2 b z1 z2 hM1 hM2 hρ1 hρ2
  · intro i1 r1 hM1
    by_cases e1 : i1 = id
    · simp only [Mem.set, e1, if_true, Option.some.injEq] at hM1
      subst hM1
      simp only [setAt, e1, if_true]
      refine ⟨cur, C, hnew, by simpa using hs, hC, hl, hz, fun i e hi => ⟨(hcells i e hi).1, fun j u hu => ?_⟩⟩
      obtain ⟨c, g1, g2, g3⟩ := (hcells i e hi).2 j u hu
      exact ⟨c, by simpa using g1, g2, T.repB g3⟩
    · simp only [Mem.set, e1, if_false] at hM1
      simp only [setAt, e1, if_false]
      exact (h.row i1 r1 hM1).mono T fun b z hb => hold b (h.lt hM1 hb)
  · intro i1 r1 hM1
    by_cases e1 : i1 = id
    · rw [e1, if_neg hio]
      intro b z hρ1
      simp only [setAt, if_true] at hρ1
      injection hρ1 with hh
      injection hh with hh
      rw [← hh]
      exact .inl h.keep.size
    · simp only [Mem.set, e1, if_false] at hM1
      simp only [setAt, e1, if_false]
      exact h.new i1 r1 hM1
  · refine ⟨hos.trans h.keep.os, htape.trans h.keep.tape, hout.trans h.keep.output, by have := h.keep.size; omega,
      fun b hb hX => (hold b (by have := h.keep.size; omega)).trans (h.keep.block b hb hX), fun b c0 ty fr hb => ?_⟩
    obtain ⟨c1, k1, k2⟩ := h.keep.shape b c0 ty fr hb
    exact ⟨c1, by rw [hold b (Array.getElem?_eq_some_iff.1 k1).1]; exact k1, k2⟩
theorem WRel.dead (h : WRel G ρ w0 X M w) {id : Id} {r : Row} (hM : M id = some (some r)) : Trans G ρ M w ρ (M.set id none) w ∧ WRel G ρ w0 X (M.set id none) w := by
  have T : Trans G ρ M w ρ (M.set id none) w := by
    refine ⟨fun b hb => ⟨⟨hb.1, fun id' r' z hM' => ?_, hb.2.2⟩, rfl⟩, fun id' => ?_⟩
    · by_cases he : id' = id
      · simp [Mem.set, he] at hM'
      · simp only [Mem.set, he, if_false] at hM'
        exact hb.2.1 id' r' z hM'
    · by_cases he : id' = id
      · rw [he, hM]
        exact .inl (by simp [Mem.set])
      · cases hMi : M id' with
        | none => trivial
        | some o =>
          cases o with
          | none => simp [Mem.set, he, hMi]
          | some r' => exact .inr ⟨r', by simp [Mem.set, he, hMi], rfl, rfl, Nat.le_refl _, rfl, fun b z hρ cur' hc => ⟨cur', hc, rfl⟩⟩
  have live : ∀ i1 r1, (M.set id none) i1 = some (some r1) → M i1 = some (some r1) := by
    intro i1 r1 h1
    by_cases he : i1 = id
    · simp [Mem.set, he] at h1
    · simpa [Mem.set, he] using h1
  exact ⟨T, ⟨fun i1 i2 r1 r2 b z1 z2 h1 h2 => h.inj i1 i2 r1 r2 b z1 z2 (live _ _ h1) (live _ _ h2), fun i1 r1 h1 => (h.row i1 r1 (live _ _ h1)).mono T fun _ _ _ => rfl,
    fun i1 r1 h1 => h.new i1 r1 (live _ _ h1), h.keep, h.good, h.tab.mono T.stab⟩⟩
theorem WRel.store (h : WRel G ρ w0 X M w) {id : Id} {r : Row} (hM : M id = some (some r)) {b z : Nat} (hρ : ρ id = some (b, z)) (w' : World) (cur cur' : Array Value) (es' : List (List PV))
    (hcur : w.heap[b]? = some (.cells cur r.ty (0, 0))) (hnew : w'.heap[b]? = some (.cells cur' r.ty (0, 0))) (hsz : cur'.size = cur.size) (hsize : w'.heap.size = w.heap.size)
    (hold : ∀ k, k ≠ b → w'.heap[k]? = w.heap[k]?) (hos : w'.os = w.os) (htape : w'.tape = w.tape) (hout : w'.output = w.output) (hlen : es'.length = r.es.length)
    (hcells : ∀ (i : Nat) e, es'[i]? = some e → e.length = r.sz ∧ ∀ (j : Nat) u, e[j]? = some u →
        ∃ c, cur'[z + i * r.sz + j]? = some c ∧ c.oneCell' = true ∧ Rep ρ w (Stab G ρ M w) (if r.bx then M else noMem) c u) :
    Trans G ρ M w ρ (M.set id (some { r with es := es' })) w' ∧ WRel G ρ w0 X (M.set id (some { r with es := es' })) w' := by
  have far : ∀ i1 r1 b1 z1, i1 ≠ id → M i1 = some (some r1) → ρ i1 = some (b1, z1) → b1 ≠ b := by
    intro i1 r1 b1 z1 hne h1 h2 he
    rw [he] at h2
    exact hne (h.inj i1 id r1 r b z1 z h1 hM h2 hρ)
  have live : ∀ i1 r1, (M.set id (some { r with es := es' })) i1 = some (some r1) → ∃ r2, M i1 = some (some r2) := by
    intro i1 r1 h1
    by_cases he : i1 = id
    · exact ⟨r, by rw [he]; exact hM⟩
    · exact ⟨r1, by simpa [Mem.set, he] using h1⟩
  have T : Trans G ρ M w ρ (M.set id (some { r with es := es' })) w' := by
    refine ⟨fun k hk => ⟨⟨by rw [hsize]; exact hk.1, fun id' r' z' hM' => ?_, hk.2.2⟩, hold k (fun e => hk.2.1 id r z hM (by rw [hρ, e]))⟩, fun id' => ?_⟩
    · obtain ⟨r2, h2⟩ := live _ _ hM'
      exact hk.2.1 id' r2 z' h2
    · by_cases he : id' = id
      · rw [he, hM]
        refine .inr ⟨{ r with es := es' }, by simp [Mem.set], rfl, rfl, Nat.le_of_eq hlen.symm, rfl, fun b1 z1 h1 c1 hc1 => ?_⟩
        rw [hρ] at h1
        injection h1 with h1
        injection h1 with h1 _
        subst h1
        rw [hcur] at hc1
        injection hc1 with hc1
        injection hc1 with hc1
        subst hc1
        exact ⟨cur', hnew, hsz⟩
      · cases hMi : M id' with
        | none => trivial
        | some o =>
          cases o with
          | none => simp [Mem.set, he, hMi]
          | some r' =>
            refine .inr ⟨r', by simp [Mem.set, he, hMi], rfl, rfl, Nat.le_refl _, rfl, fun b1 z1 h1 cur1 hc => ⟨cur1, ?_, rfl⟩⟩
            rw [hold b1 (far id' r' b1 z1 he hMi h1)]
            exact hc
  refine ⟨T, ⟨?_, ?_, ?_, ?_, h.good, h.tab.mono T.stab⟩⟩
  · intro i1 i2 r1 r2 b1 z1 z2 h1 h2
    obtain ⟨s1, g1⟩ := live _ _ h1
    obtain ⟨s2, g2⟩ := live _ _ h2
    exact h.inj i1 i2 s1 s2 b1 z1 z2 g1 g2
  · intro i1 r1 h1
    by_cases he : i1 = id
    · simp only [Mem.set, he, if_true, Option.some.injEq] at h1
      subst h1
      have hr := h.row id r hM
      rw [hρ] at hr
      obtain ⟨c0, C, g1, g2, g3, g4, g5, _⟩ := hr
      rw [hcur] at g1
      injection g1 with g1
      injection g1 with g1
      subst g1
      rw [he, hρ]
      refine ⟨cur', C, hnew, by rw [hsz]; exact g2, g3, by simpa [hlen] using g4, g5, fun i e hi => ⟨(hcells i e hi).1, fun j u hu => ?_⟩⟩
      obtain ⟨c, k1, k2, k3⟩ := (hcells i e hi).2 j u hu
      exact ⟨c, k1, k2, T.repB k3⟩
    · simp only [Mem.set, he, if_false] at h1
      exact (h.row i1 r1 h1).mono T fun b1 z1 hb => hold b1 (far i1 r1 b1 z1 he h1 hb)
  · intro i1 r1 h1
    obtain ⟨s1, g1⟩ := live _ _ h1
    exact h.new i1 s1 g1
  · refine ⟨hos.trans h.keep.os, htape.trans h.keep.tape, hout.trans h.keep.output, by rw [hsize]; exact h.keep.size, fun k hk hX => ?_, fun k c0 ty fr hb => ?_⟩
    · by_cases he : k = b
      · have hn := h.new id r hM
        split at hn
        · exfalso
          apply hX z
          rw [he, ← hρ]
          exact List.mem_of_getElem? hn
        · rcases hn b z hρ with h1 | ⟨z', h1⟩
          · omega
          · exact absurd (by rw [he]; exact h1) (hX z')
      · exact (hold k he).trans (h.keep.block k hk hX)
    · obtain ⟨c1, k1, k2⟩ := h.keep.shape k c0 ty fr hb
      by_cases he : k = b
      · subst he
        rw [hcur] at k1
        injection k1 with k1
        injection k1 with q1 q2 q3
        subst q1 q2 q3
        exact ⟨cur', hnew, hsz.trans k2⟩
      · exact ⟨c1, (hold k he).trans k1, k2⟩
end
end Go.Vs
set_option linter.unusedVariables false
set_option linter.unusedSimpArgs false
namespace Go.Vs
def TCell (P : Program) (T : TypeId) : Prop := ∃ ds, P.underlying T = some ds ∧ (∀ fs, ds ≠ .struct fs) ∧ (∀ n e, ds ≠ .array n e)
def TAgg (P : Program) (T : TypeId) (k : Nat) : Prop := (∃ fs, P.underlying T = some (.struct fs)) ∧ ∃ i, P.info? T = some i ∧ i.size = k
def TSlice (P : Program) (T e : TypeId) (sz by_ : Nat) : Prop := P.underlying T = some (.slice e) ∧ ∃ i, P.info? e = some i ∧ i.size = sz ∧ i.bytes = by_ ∧ ∃ z, i.zero = some z ∧ z.cells.size = sz
def TField (P : Program) (T : TypeId) (f off : Nat) : Prop := ∃ fs fd i, P.underlying T = some (.struct fs) ∧ fs[f]? = some fd ∧ fd.offset = off ∧ P.info? fd.type = some i ∧ i.size ≠ 0
def TSize (P : Program) (T : TypeId) (k : Nat) : Prop := ∃ i, P.info? T = some i ∧ i.size = k
def ofConst : Value → PV
  | .int k n => .int k n
  | .bool b => .bool b
  | .string s => .str s
  | .slice none 0 0 => .nil
  | _ => .any
def TZero (P : Program) (T : TypeId) (cs : List PV) : Prop := ∃ i z, P.info? T = some i ∧ i.zero = some z ∧ cs = z.cells.toList.map ofConst
def PV.cells : PV → List PV
  | .agg cs => cs
  | x => [x]
def PV.one : PV → Bool
  | .int _ _ | .bool _ | .str _ | .nil | .fn _ _ _ | .list _ _ | .ptr _ | .own _ _ _ | .osl _ _ _ | .sem _ => true
  | _ => false
def PV.pure1 : PV → Bool
  | .int _ _ | .bool _ | .str _ | .nil | .list _ _ | .ptr _ | .sem _ => true
  | _ => false
section
variable {P : Program} {w : World}
theorem run_isAgg_cell {T : TypeId} (h : TCell P T) : (isAgg T).run P w = .ok false w := by
  obtain ⟨ds, h1, h2, h3⟩ := h
  simp only [isAgg, Sem.run_bind, run_underlying h1, Result.andThen_ok]
  cases ds <;> first | rfl | exact absurd rfl (h2 _) | exact absurd rfl (h3 _ _)
theorem run_isAgg_agg {T : TypeId} {k : Nat} (h : TAgg P T k) : (isAgg T).run P w = .ok true w := by
  obtain ⟨⟨fs, h1⟩, _⟩ := h
  simp [isAgg, run_underlying h1]
theorem run_size {T : TypeId} {k : Nat} (h : TSize P T k) : (sizeOf T).run P w = .ok k w := by
  obtain ⟨i, h1, h2⟩ := h
  simp [sizeOf, typeInfo, h1, h2]
theorem TAgg.size {T : TypeId} {k : Nat} (h : TAgg P T k) : TSize P T k := h.2
theorem TSlice.size {T e : TypeId} {sz b : Nat} (h : TSlice P T e sz b) : TSize P e sz := let ⟨_, i, h1, h2, _⟩ := h; ⟨i, h1, h2⟩
theorem run_loadVar_cell {T : TypeId} (h : TCell P T) {a : Addr} {c : Value} (hc : w.cell? a = some c) : (loadVar T a).run P w = .ok c w := by
  simp [loadVar, run_isAgg_cell h, hc]
theorem run_loadVar_agg {T : TypeId} {k : Nat} (h : TAgg P T k) {a : Addr} (cs : List Value) (hl : cs.length = k) (hc : ∀ (j : Nat) v, cs[j]? = some v → w.cell? (a.add j) = some v) :
    (loadVar T a).run P w = .ok (.agg cs.toArray) w := by
  have := run_loadCells_list (P := P) w a cs hc
  rw [hl] at this
  simp [loadVar, run_isAgg_agg h, run_size h.size, this]
theorem run_storeVar_at {T : TypeId} {v : Value} {k : Nat} (h : TSize P T k) (hk : v.cells.size = k) (g o : Nat) (t : TypeId) (cur : Array Value)
    (hg : w.heap[g]? = some (.cells cur t (0, 0))) (hfit : o + v.cells.size ≤ cur.size) (h1 : ∀ c ∈ v.cells.toList, c.oneCell' = true) :
    (storeVar T ⟨g, o, none⟩ v).run P w = .ok () (w.setRow g (cur.toList.take o ++ v.cells.toList ++ cur.toList.drop (o + v.cells.size)).toArray) := by
  have := run_storeCells_at P g o t v.cells.toList 0 cur w hg (by simpa using hfit) h1
  simp only [Nat.add_zero, Array.length_toList] at this
  simp [storeVar, run_size h, hk, this]
theorem exists_cells (f : Nat → Option Value) (n : Nat) (h : ∀ k, k < n → ∃ c, f k = some c) : ∃ l : List Value, l.length = n ∧ ∀ k, k < n → f k = l[k]? := by
  refine ⟨(List.range n).map fun k => (f k).getD undef, by simp, fun k hk => ?_⟩
  obtain ⟨c, hc⟩ := h k hk
  simp [hk, hc]
end
section
variable {G : Nat → Prop} {ρ : Id → Option (Nat × Nat)} {w : World} {S : Nat → Prop} {M : Mem} {v : Value}
theorem rep_ofConst : Rep ρ w S M v (ofConst v) := by
  unfold ofConst
  split
  · exact rep_int.2 rfl
  · exact rep_bool.2 rfl
  · exact rep_str.2 rfl
  · exact rep_nil.2 rfl
  · exact rep_any
theorem rep_one {x : PV} (h : Rep ρ w S M v x) (ho : x.one = true) (hd : ∀ id i off, x = .own id i off → ∃ r, M id = some (some r)) (he : ∀ id o n, x = .osl id o n → ∃ r, M id = some (some r)) : v.oneCell' = true := by
  cases x <;> simp [PV.one] at ho
  case int => rw [rep_int.1 h]; rfl
  case bool => rw [rep_bool.1 h]; rfl
  case str => rw [rep_str.1 h]; rfl
  case nil => rw [rep_nil.1 h]; rfl
  case sem => exact (rep_sem.1 h).1
  case fn => obtain ⟨a, b, rfl, _⟩ := rep_fn.1 h; rfl
  case list => obtain ⟨a, c, rfl, _⟩ := rep_list.1 h; rfl
  case ptr => obtain ⟨a, rfl, _⟩ := rep_ptr.1 h; rfl
  case own id i off =>
    obtain ⟨r, hr⟩ := hd _ _ _ rfl
    have := (rep_own hr).1 h
    cases hρ : ρ id with
    | none => simp [OwnOk, hρ] at this
    | some bz => obtain ⟨b, z⟩ := bz; simp only [OwnOk, hρ] at this; rw [this]; rfl
  case osl id o n =>
    obtain ⟨r, hr⟩ := he _ _ _ rfl
    have := (rep_osl hr).1 h
    cases hρ : ρ id with
    | none => simp only [OslOk, hρ] at this; rw [this.1]; rfl
    | some bz => obtain ⟨b, z⟩ := bz; simp only [OslOk, hρ] at this; obtain ⟨ad, cap, rfl, _⟩ := this; rfl
theorem rep_pure {ρ' : Id → Option (Nat × Nat)} {M' : Mem} {x : PV} (h : Rep ρ w S M v x) (ho : x.pure1 = true) : Rep ρ' w S M' v x := by
  cases x <;> simp [PV.pure1] at ho
  case int => exact rep_int.2 (rep_int.1 h)
  case bool => exact rep_bool.2 (rep_bool.1 h)
  case str => exact rep_str.2 (rep_str.1 h)
  case nil => exact rep_nil.2 (rep_nil.1 h)
  case sem => exact rep_sem.2 (rep_sem.1 h)
  case list =>
    obtain ⟨a, cap, e, hc, hh⟩ := rep_list.1 h
    exact rep_list.2 ⟨a, cap, e, hc, fun hne => let ⟨ad, h1, h2, h3⟩ := hh hne; ⟨ad, h1, h2, fun i el hi => ⟨(h3 i el hi).1, fun j u hu => let ⟨c, g1, g2, g3⟩ := (h3 i el hi).2 j u hu; ⟨c, g1, g2, g3.pureMono fun b hb => ⟨hb, rfl⟩⟩⟩⟩⟩
  case ptr =>
    obtain ⟨ad, e, hS, hc⟩ := rep_ptr.1 h
    exact rep_ptr.2 ⟨ad, e, hS, fun j u hu => let ⟨c, g1, g2, g3⟩ := hc j u hu; ⟨c, g1, g2, g3.pureMono fun b hb => ⟨hb, rfl⟩⟩⟩
theorem pure1_one {x : PV} (h : x.pure1 = true) : x.one = true := by cases x <;> simp [PV.pure1] at h <;> rfl
theorem rep_cells {x : PV} (h : Rep ρ w S M v x) (ho : x.cells.all PV.one = true) (hd : ∀ u ∈ x.cells, (∀ id i off, u = .own id i off → ∃ r, M id = some (some r)) ∧ (∀ id o n, u = .osl id o n → ∃ r, M id = some (some r))) :
    Comps ρ w S M v.cells x.cells ∧ ∀ c ∈ v.cells.toList, c.oneCell' = true := by
  have key : ∀ (cs : Array Value) (xs : List PV), Comps ρ w S M cs xs → xs.all PV.one = true → (∀ u ∈ xs, (∀ id i off, u = .own id i off → ∃ r, M id = some (some r)) ∧ (∀ id o n, u = .osl id o n → ∃ r, M id = some (some r))) →
      ∀ c ∈ cs.toList, c.oneCell' = true := by
    intro cs xs hc hall hdd c hm
    obtain ⟨j, hj⟩ := List.getElem?_of_mem hm
    have hjl : j < xs.length := by
      have := (List.getElem?_eq_some_iff.1 hj).1
      rw [← hc.1]; simpa using this
    obtain ⟨c', h1, h2⟩ := hc.2 j xs[j] (List.getElem?_eq_getElem hjl)
    have : c' = c := by
      rw [Array.getElem?_toList] at hj
      rw [hj] at h1
      injection h1 with h1
      exact h1.symm
    subst this
    have hmem : xs[j] ∈ xs := List.getElem_mem hjl
    exact rep_one h2 (List.all_eq_true.1 hall _ hmem) (hdd _ hmem).1 (hdd _ hmem).2
  have single : ∀ {x : PV} {v : Value}, Rep ρ w S M v x → Comps ρ w S M #[v] [x] := by
    intro x v h
    refine ⟨rfl, fun j u hu => ?_⟩
    cases j with
    | zero => simp at hu; subst hu; exact ⟨v, rfl, h⟩
    | succ j => simp at hu
  cases x
  case agg xs =>
    obtain ⟨cs, rfl, hc⟩ := rep_agg.1 h
    exact ⟨hc, key cs xs hc ho hd⟩
  all_goals
    simp only [PV.cells] at ho hd ⊢
    have h1 := rep_one h (by simpa using ho) (hd _ (by simp)).1 (hd _ (by simp)).2
    have hv : v.cells = #[v] := by cases v <;> first | rfl | simp [Value.oneCell'] at h1
    rw [hv]
    exact ⟨single h, key _ _ (single h) ho hd⟩
def Src (ρ : Id → Option (Nat × Nat)) (w : World) (S : Nat → Prop) (v : Value) (sz : Nat) (es : List (List PV)) : Prop :=
  ∃ (a : Option Addr) (c : Nat) (news : List Value), v = .slice a es.length c ∧ es.length ≤ c ∧ news.length = es.length * sz ∧ (∀ (j : Nat) u, news[j]? = some u → ∃ ad, a = some ad ∧ w.cell? (ad.add j) = some u) ∧
    (∀ u ∈ news, u.oneCell' = true) ∧ ∀ (i : Nat) e, es[i]? = some e → e.length = sz ∧ ∀ (j : Nat) u, e[j]? = some u → ∃ c, news[i * sz + j]? = some c ∧ Rep ρ w S noMem c u
theorem src_of {sz : Nat} {es : List (List PV)} {a : Option Addr} {cap : Nat} (hcap : es.length ≤ cap) (hsz : 0 < sz)
    (h : es ≠ [] → ∃ ad, a = some ad ∧ ∀ (i : Nat) e, es[i]? = some e → e.length = sz ∧ Cells ρ w S (ad.add (i * sz)) e) : Src ρ w S (.slice a es.length cap) sz es := by
  by_cases hne : es = []
  · subst hne
    exact ⟨a, cap, [], rfl, hcap, by simp, by simp, by simp, by simp⟩
  · obtain ⟨ad, rfl, h1⟩ := h hne
    have hex : ∀ k, k < es.length * sz → ∃ e u c, es[k / sz]? = some e ∧ e[k % sz]? = some u ∧ w.cell? (ad.add k) = some c ∧ c.oneCell' = true ∧ Rep ρ w S noMem c u := by
      intro k hk
      have hi : k / sz < es.length := Nat.div_lt_of_lt_mul (by rw [Nat.mul_comm]; exact hk)
      have hg := List.getElem?_eq_getElem hi
      obtain ⟨g1, g2⟩ := h1 _ _ hg
      have hj : k % sz < (es[k / sz]).length := by rw [g1]; exact Nat.mod_lt _ hsz
      obtain ⟨c, c1, c2, c3⟩ := g2 _ _ (List.getElem?_eq_getElem hj)
      rw [add_add, Nat.mul_comm, Nat.div_add_mod] at c1
      exact ⟨_, _, c, hg, List.getElem?_eq_getElem hj, c1, c2, c3⟩
    obtain ⟨news, hl, hn⟩ := exists_cells (fun k => w.cell? (ad.add k)) (es.length * sz) (fun k hk => let ⟨_, _, c, _, _, h, _⟩ := hex k hk; ⟨c, h⟩)
    refine ⟨some ad, cap, news, rfl, hcap, hl, fun j u hu => ⟨ad, rfl, ?_⟩, fun u hu => ?_, fun i e hi => ⟨(h1 i e hi).1, fun j u hu => ?_⟩⟩
    · have hj : j < es.length * sz := by rw [← hl]; exact (List.getElem?_eq_some_iff.1 hu).1
      rw [hn j hj]; exact hu
    · obtain ⟨j, hj⟩ := List.getElem?_of_mem hu
      have hjl : j < es.length * sz := by rw [← hl]; exact (List.getElem?_eq_some_iff.1 hj).1
      obtain ⟨_, _, c, _, _, c1, c2, _⟩ := hex j hjl
      have := hn j hjl
      rw [c1, hj] at this
      injection this with this
      rw [← this]; exact c2
    · obtain ⟨c, c1, c2, c3⟩ := (h1 i e hi).2 j u hu
      refine ⟨c, ?_, c3⟩
      have hil : i < es.length := (List.getElem?_eq_some_iff.1 hi).1
      have hjl : j < sz := by rw [← (h1 i e hi).1]; exact (List.getElem?_eq_some_iff.1 hu).1
      have hk : i * sz + j < es.length * sz := by
        have : (i + 1) * sz ≤ es.length * sz := Nat.mul_le_mul_right _ hil
        rw [Nat.add_mul] at this; omega
      rw [← hn _ hk, ← add_add]; exact c1
theorem src_list {sz : Nat} {es : List (List PV)} (hsz : 0 < sz) (h : Rep ρ w S M v (.list sz es)) : Src ρ w S v sz es := by
  obtain ⟨a, cap, rfl, hcap, h1⟩ := rep_list.1 h
  exact src_of hcap hsz fun hne => let ⟨ad, e1, _, e3⟩ := h1 hne; ⟨ad, e1, e3⟩
theorem src_nil {sz : Nat} (h : Rep ρ w S M v .nil) : Src ρ w S v sz [] := by
  rw [rep_nil.1 h]
  exact ⟨none, 0, [], rfl, Nat.le_refl _, by simp, by simp, by simp, by simp⟩
end
section
variable {G : Nat → Prop} {ρ : Id → Option (Nat × Nat)} {w0 w : World} {X : List (Option (Nat × Nat))} {M : Mem} {v : Value}
theorem osl_cells (hW : WRel G ρ w0 X M w) {id : Id} {r : Row} {o n : Nat} (hM : M id = some (some r)) (hb : r.bx = false) (h : Rep ρ w (Stab G ρ M w) M v (.osl id o n)) :
    ∃ (a : Option Addr) (cap : Nat), v = .slice a n cap ∧ n ≤ cap ∧ o + n ≤ r.es.length ∧ (0 < n → ∃ b z, ρ id = some (b, z) ∧ a = some ⟨b, z + o * r.sz, none⟩ ∧
      ∀ (i : Nat) e, ((r.es.drop o).take n)[i]? = some e → e.length = r.sz ∧ Cells ρ w (Stab G ρ M w) ((⟨b, z + o * r.sz, none⟩ : Addr).add (i * r.sz)) e) := by
  have h1 := (rep_osl hM).1 h
  cases hρ : ρ id with
  | none =>
    simp only [OslOk, hρ] at h1
    obtain ⟨rfl, rfl, rfl⟩ := h1
    exact ⟨none, 0, rfl, Nat.le_refl _, by omega, fun h => absurd h (by omega)⟩
  | some bz =>
    obtain ⟨b, z⟩ := bz
    simp only [OslOk, hρ] at h1
    obtain ⟨ad, cap, rfl, h2, h3, h4, h5⟩ := h1
    refine ⟨some ad, cap, rfl, h3, h2, fun hn => ?_⟩
    obtain ⟨rfl, cur, hc, hcs⟩ := h5 (by omega)
    refine ⟨b, z, rfl, rfl, fun i e hi => ?_⟩
    have hr := hW.row id r hM
    rw [hρ] at hr
    obtain ⟨cur', C, g1, g2, g3, g4, g5, g6⟩ := hr
    rw [List.getElem?_take] at hi
    split at hi
    · rename_i hin
      rw [List.getElem?_drop] at hi
      obtain ⟨k1, k2⟩ := g6 _ _ hi
      refine ⟨k1, fun j u hu => ?_⟩
      obtain ⟨c, m1, m2, m3⟩ := k2 j u hu
      have hadd : ((⟨b, z + o * r.sz, none⟩ : Addr).add (i * r.sz)).add j = ⟨b, z + (o + i) * r.sz + j, none⟩ := by
        rw [add_add]
        unfold Addr.add
        split
        · rename_i h0
          have : i * r.sz = 0 := by omega
          have : j = 0 := by omega
          simp [Nat.add_mul, *]
        · simp [Nat.add_mul]; omega
      rw [hadd]
      refine ⟨c, ?_, m2, by simpa [hb] using m3⟩
      rw [cell_of_row w b _ cur' r.ty (0, 0) g1]
      exact m1
    · cases hi
theorem src_osl (hW : WRel G ρ w0 X M w) {id : Id} {r : Row} {o n : Nat} (hM : M id = some (some r)) (hb : r.bx = false) (hsz : 0 < r.sz) (h : Rep ρ w (Stab G ρ M w) M v (.osl id o n)) :
    Src ρ w (Stab G ρ M w) v r.sz ((r.es.drop o).take n) ∧ ((r.es.drop o).take n).length = n := by
  obtain ⟨a, cap, rfl, h1, h2, h3⟩ := osl_cells hW hM hb h
  have hl : ((r.es.drop o).take n).length = n := by simp; omega
  refine ⟨?_, hl⟩
  have := src_of (ρ := ρ) (w := w) (S := Stab G ρ M w) (sz := r.sz) (es := (r.es.drop o).take n) (a := a) (cap := cap) (by omega) hsz fun hne => by
    have : 0 < n := by
      rcases Nat.eq_zero_or_pos n with h0 | h0
      · subst h0; simp at hne
      · exact h0
    obtain ⟨b, z, _, rfl, g⟩ := h3 this
    exact ⟨_, rfl, g⟩
  rw [hl] at this
  exact this
end
end Go.Vs
set_option linter.unusedVariables false
set_option linter.unusedSimpArgs false
namespace Go.Vs
section
variable {G : Nat → Prop} {ρ ρ' ρ'' : Id → Option (Nat × Nat)} {w0 w w' w'' : World} {X : List (Option (Nat × Nat))} {M M' M'' : Mem}
theorem MLe.trans (h : MLe ρ w M ρ' w' M') (g : MLe ρ' w' M' ρ'' w'' M'') : MLe ρ w M ρ'' w'' M'' := by
  intro id
  have h1 := h id
  have g1 := g id
  cases hM : M id with
  | none => trivial
  | some o =>
    cases o with
    | none => simp only [hM] at h1; simp only [h1] at g1; exact g1
    | some r =>
      simp only [hM] at h1
      rcases h1 with h1 | ⟨r', h1, a1, a2, a3, a4, a5⟩
      · simp only [h1] at g1; exact .inl g1
      · simp only [h1] at g1
        rcases g1 with g1 | ⟨r'', g1, b1, b2, b3, b4, b5⟩
        · exact .inl g1
        · refine .inr ⟨r'', g1, b1.trans a1, b2.trans a2, Nat.le_trans a3 b3, b4.trans a4, fun b z hb cur hc => ?_⟩
          obtain ⟨c1, k1, k2⟩ := a5 b z hb cur hc
          obtain ⟨c2, k3, k4⟩ := b5 b z (a4.trans hb) c1 (by rw [a2]; exact k1)
          exact ⟨c2, by rw [← a2]; exact k3, k4.trans k2⟩
theorem Trans.trans (h : Trans G ρ M w ρ' M' w') (g : Trans G ρ' M' w' ρ'' M'' w'') : Trans G ρ M w ρ'' M'' w'' :=
  ⟨fun b hb => ⟨(g.stab b (h.stab b hb).1).1, (g.stab b (h.stab b hb).1).2.trans (h.stab b hb).2⟩, h.mle.trans g.mle⟩
theorem WRel.virt (h : WRel G ρ w0 X M w) {id : Id} (hid : M id = none) (hio : id.1 ≠ io) (ty : TypeId) (sz : Nat) :
    Trans G ρ M w (setAt ρ id none) (M.set id (some ⟨ty, sz, [], false⟩)) w ∧ WRel G (setAt ρ id none) w0 X (M.set id (some ⟨ty, sz, [], false⟩)) w := by
  have ne : ∀ {i1 x}, M i1 = some x → i1 ≠ id := fun h e => by rw [e, hid] at h; cases h
  have T : Trans G ρ M w (setAt ρ id none) (M.set id (some ⟨ty, sz, [], false⟩)) w := by
    refine ⟨fun b hb => ⟨⟨hb.1, fun id' r' z hM' => ?_, hb.2.2⟩, rfl⟩, fun id' => ?_⟩
    · by_cases he : id' = id
      · simp [setAt, he]
      · simp only [Mem.set, he, if_false] at hM'
        simp only [setAt, he, if_false]
        exact hb.2.1 id' r' z hM'
    · cases hMi : M id' with
      | none => trivial
      | some o =>
        have he := ne hMi
        cases o with
        | none => simp [Mem.set, he, hMi]
        | some r' => exact .inr ⟨r', by simp [Mem.set, he, hMi], rfl, rfl, Nat.le_refl _, by simp [setAt, he], fun b z hρ cur' hc => ⟨cur', hc, rfl⟩⟩
  refine ⟨T, ⟨?_, ?_, ?_, h.keep, h.good, h.tab.mono T.stab⟩⟩
  · intro i1 i2 r1 r2 b z1 z2 hM1 hM2 hρ1 hρ2
    by_cases e1 : i1 = id
    · simp [setAt, e1] at hρ1
    · by_cases e2 : i2 = id
      · simp [setAt, e2] at hρ2
      · simp only [setAt, e1, e2, if_false] at hρ1 hρ2
        simp only [Mem.set, e1, e2, if_false] at hM1 hM2
        exact h.inj i1 i2 r1 r2 b z1 z2 hM1 hM2 hρ1 hρ2
  · intro i1 r1 hM1
    by_cases e1 : i1 = id
    · simp only [Mem.set, e1, if_true, Option.some.injEq] at hM1
      subst hM1
      simp [setAt, e1, RowOk]
    · simp only [Mem.set, e1, if_false] at hM1
      simp only [setAt, e1, if_false]
      exact (h.row i1 r1 hM1).mono T fun b z hb => rfl
  · intro i1 r1 hM1
    by_cases e1 : i1 = id
    · rw [e1, if_neg hio]
      intro b z hρ1
      simp [setAt] at hρ1
    · simp only [Mem.set, e1, if_false] at hM1
      simp only [setAt, e1, if_false]
      exact h.new i1 r1 hM1
theorem WRel.move (h : WRel G ρ w0 X M w) {id id' : Id} {r : Row} (hM : M id = some (some r)) {b z : Nat} (hρ : ρ id = some (b, z)) (hio : id.1 ≠ io) (hid' : M id' = none) (hio' : id'.1 ≠ io)
    (r' : Row) (hty : r'.ty = r.ty) (hbx : r'.bx = false) (z' C' : Nat) (w' : World) (cur cur' : Array Value)
    (hcur : w.heap[b]? = some (.cells cur r.ty (0, 0))) (hnew : w'.heap[b]? = some (.cells cur' r.ty (0, 0))) (hsize : w'.heap.size = w.heap.size)
    (hold : ∀ k, k ≠ b → w'.heap[k]? = w.heap[k]?) (hos : w'.os = w.os) (htape : w'.tape = w.tape) (hout : w'.output = w.output) (hsame : cur'.size = cur.size)
    (hs : cur'.size = z' + C' * r'.sz) (hC : C' ≤ maxLen) (hl : r'.es.length ≤ C') (hz : 0 < r'.sz)
    (hcells : ∀ (i : Nat) e, r'.es[i]? = some e → e.length = r'.sz ∧ ∀ (j : Nat) u, e[j]? = some u →
        ∃ c, cur'[z' + i * r'.sz + j]? = some c ∧ c.oneCell' = true ∧ Rep ρ w (Stab G ρ M w) noMem c u) :
    Trans G ρ M w (setAt ρ id' (some (b, z'))) ((M.set id none).set id' (some r')) w' ∧ WRel G (setAt ρ id' (some (b, z'))) w0 X ((M.set id none).set id' (some r')) w' := by
  have hne : id ≠ id' := fun e => by rw [e, hid'] at hM; cases hM
  have far : ∀ i1 r1 b1 z1, i1 ≠ id → M i1 = some (some r1) → ρ i1 = some (b1, z1) → b1 ≠ b := by
    intro i1 r1 b1 z1 hne h1 h2 he
    rw [he] at h2
    exact hne (h.inj i1 id r1 r b z1 z h1 hM h2 hρ)
  have live : ∀ i1 r1, i1 ≠ id' → ((M.set id none).set id' (some r')) i1 = some (some r1) → i1 ≠ id ∧ M i1 = some (some r1) := by
    intro i1 r1 hn h1
    by_cases he : i1 = id
    · rw [he] at hn h1
      simp [Mem.set, hn] at h1
    · exact ⟨he, by simpa [Mem.set, he, hn] using h1⟩
  have T : Trans G ρ M w (setAt ρ id' (some (b, z'))) ((M.set id none).set id' (some r')) w' := by
    refine ⟨fun k hk => ⟨⟨by rw [hsize]; exact hk.1, fun i1 r1 z1 hM1 => ?_, hk.2.2⟩, hold k (fun e => hk.2.1 id r z hM (by rw [hρ, e]))⟩, fun i1 => ?_⟩
    · by_cases he : i1 = id'
      · simp only [setAt, he, if_true]
        intro hh
        injection hh with hh
        injection hh with hh
        exact hk.2.1 id r z hM (by rw [hρ, hh])
      · obtain ⟨_, h2⟩ := live _ _ he hM1
        simp only [setAt, he, if_false]
        exact hk.2.1 i1 r1 z1 h2
    · by_cases he : i1 = id
      · rw [he, hM]
        exact .inl (by simp [Mem.set, hne])
      · cases hMi : M i1 with
        | none => trivial
        | some o =>
          have he' : i1 ≠ id' := fun e => by rw [e, hid'] at hMi; cases hMi
          cases o with
          | none => simp [Mem.set, he, he', hMi]
          | some r1 =>
            refine .inr ⟨r1, by simp [Mem.set, he, he', hMi], rfl, rfl, Nat.le_refl _, by simp [setAt, he'], fun b1 z1 h1 cur1 hc => ⟨cur1, ?_, rfl⟩⟩
            rw [hold b1 (far i1 r1 b1 z1 he hMi h1)]
            exact hc
  refine ⟨T, ⟨?_, ?_, ?_, ?_, h.good, h.tab.mono T.stab⟩⟩
  · intro i1 i2 r1 r2 b1 z1 z2 hM1 hM2 hρ1 hρ2
    by_cases e1 : i1 = id' <;> by_cases e2 : i2 = id'
    · rw [e1, e2]
    · exfalso
      obtain ⟨g1, g2⟩ := live _ _ e2 hM2
      simp only [setAt, e1, e2, if_true, if_false] at hρ1 hρ2
      injection hρ1 with hh
      injection hh with hh
      exact far i2 r2 b1 z2 g1 g2 hρ2 hh.symm
    · exfalso
      obtain ⟨g1, g2⟩ := live _ _ e1 hM1
      simp only [setAt, e1, e2, if_true, if_false] at hρ1 hρ2
      injection hρ2 with hh
      injection hh with hh
      exact far i1 r1 b1 z1 g1 g2 hρ1 hh.symm
    · obtain ⟨_, g1⟩ := live _ _ e1 hM1
      obtain ⟨_, g2⟩ := live _ _ e2 hM2
      simp only [setAt, e1, e2, if_false] at hρ1 hρ2
      exact h.inj i1 i2 r1 r2 b1 z1 z2 g1 g2 hρ1 hρ2
  · intro i1 r1 hM1
    by_cases he : i1 = id'
    · simp only [Mem.set, he, if_true, Option.some.injEq] at hM1
      subst hM1
      simp only [setAt, he, if_true]
      refine ⟨cur', C', by rw [hty]; exact hnew, hs, hC, hl, hz, fun i e hi => ⟨(hcells i e hi).1, fun j u hu => ?_⟩⟩
      obtain ⟨c, k1, k2, k3⟩ := (hcells i e hi).2 j u hu
      refine ⟨c, k1, k2, ?_⟩
      rw [hbx]
      exact T.repB (b := false) k3
    · obtain ⟨g1, g2⟩ := live _ _ he hM1
      simp only [setAt, he, if_false]
      exact (h.row i1 r1 g2).mono T fun b1 z1 hb => hold b1 (far i1 r1 b1 z1 g1 g2 hb)
  · intro i1 r1 hM1
    have hn := h.new id r hM
    rw [if_neg hio] at hn
    have hn := hn b z hρ
    by_cases he : i1 = id'
    · rw [he, if_neg hio']
      intro b1 z1 hρ1
      simp only [setAt, if_true] at hρ1
      injection hρ1 with hh
      injection hh with hh
      rw [← hh]
      exact hn
    · obtain ⟨_, g2⟩ := live _ _ he hM1
      simp only [setAt, he, if_false]
      exact h.new i1 r1 g2
  · refine ⟨hos.trans h.keep.os, htape.trans h.keep.tape, hout.trans h.keep.output, by rw [hsize]; exact h.keep.size, fun k hk hX => ?_, fun k c0 ty fr hb => ?_⟩
    · by_cases he : k = b
      · have hn := h.new id r hM
        rw [if_neg hio] at hn
        rcases hn b z hρ with h1 | ⟨z', h1⟩
        · omega
        · exact absurd (by rw [he]; exact h1) (hX z')
      · exact (hold k he).trans (h.keep.block k hk hX)
    · obtain ⟨c1, k1, k2⟩ := h.keep.shape k c0 ty fr hb
      by_cases he : k = b
      · subst he
        rw [hcur] at k1
        injection k1 with k1
        injection k1 with q1 q2 q3
        subst q1 q2 q3
        exact ⟨cur', hnew, hsame.trans k2⟩
      · exact ⟨c1, (hold k he).trans k1, k2⟩
theorem Src.mono {S S' : Nat → Prop} {v : Value} {sz : Nat} {es : List (List PV)} (h : Src ρ w S v sz es) (hS : ∀ b, S b → S' b) : Src ρ' w S' v sz es := by
  obtain ⟨a, c, news, h1, h2, h3, h4, h5, h6⟩ := h
  exact ⟨a, c, news, h1, h2, h3, h4, h5, fun i e hi => ⟨(h6 i e hi).1, fun j u hu => let ⟨c, g1, g2⟩ := (h6 i e hi).2 j u hu; ⟨c, g1, g2.pureMono fun b hb => ⟨hS b hb, rfl⟩⟩⟩⟩
end
section
variable {P : Program} {G : Nat → Prop} {ρ : Id → Option (Nat × Nat)} {w0 w : World} {X : List (Option (Nat × Nat))} {M : Mem}
theorem list_two_at {α : Type} (xs ys : List α) (k : Nat) : (xs ++ ys)[k]? = if k < xs.length then xs[k]? else ys[k - xs.length]? := by
  split
  · rw [List.getElem?_append_left (by assumption)]
  · rw [List.getElem?_append_right (by omega)]
theorem append_nil {T e : TypeId} {sz by_ : Nat} (hT : TSlice P T e sz by_) (hsz : 0 < sz) (hW : WRel G ρ w0 X M w) {xv : Value} {news : List (List PV)} (hx : Src ρ w (Stab G ρ M w) xv sz news)
    {id' : Id} (hid' : M id' = none) (hio' : id'.1 ≠ io) (ty : TypeId) (h63 : news.length ≤ maxLen) (hby : news.length * by_ ≤ 140737488355328) :
    ∃ ρ' w' v', (Builtin.append_ #[T, T] ty #[.slice none 0 0, xv]).run P w = .ok v' w' ∧ Trans G ρ M w ρ' (M.set id' (some ⟨e, sz, news, false⟩)) w' ∧
      WRel G ρ' w0 X (M.set id' (some ⟨e, sz, news, false⟩)) w' ∧ Rep ρ' w' (Stab G ρ' (M.set id' (some ⟨e, sz, news, false⟩)) w') (M.set id' (some ⟨e, sz, news, false⟩)) v' (.osl id' 0 news.length) := by
  obtain ⟨ht, i, hi, hsize, hbytes, zv, hz, hzs⟩ := hT
  obtain ⟨a, c, cells, rfl, hc, hl, hcell, hone, hrep⟩ := hx
  by_cases h0 : news.length = 0
  · have hn : news = [] := List.eq_nil_of_length_eq_zero h0
    subst hn
    obtain ⟨T, W⟩ := hW.virt hid' hio' e sz
    refine ⟨_, w, .slice none 0 0, ?_, T, W, (rep_osl (r := ⟨e, sz, [], false⟩) (by simp [Mem.set])).2 (by simp [setAt, OslOk])⟩
    cases a with
    | none => simp [Builtin.append_, run_underlying ht, sizeOf, typeInfo, hi, Builtin.lenOf, Builtin.firstCells]
    | some a => simp [Builtin.append_, run_underlying ht, sizeOf, typeInfo, hi, Builtin.lenOf, Builtin.firstCells, loadCells, loadCellsFrom]
  · have hpos : 0 < news.length := Nat.pos_of_ne_zero h0
    have hcp : 0 < cells.length := by rw [hl]; exact Nat.mul_pos hpos hsz
    obtain ⟨ad, rfl, _⟩ := hcell 0 cells[0] (List.getElem?_eq_getElem hcp)
    have hcell' : ∀ (j : Nat) u, cells[j]? = some u → w.cell? (ad.add j) = some u := fun j u hu => by
      obtain ⟨ad', e1, e2⟩ := hcell j u hu
      injection e1 with e1
      subst e1
      exact e2
    have hm : (news.length : Int) ≤ 9223372036854775807 := by unfold maxLen at h63; omega
    have hrun := run_append_nil (P := P) w T ty e i zv ht hi hz ad news.length c cells (by rw [hl, hsize]) hcell' hpos hm (by rw [hbytes]; omega)
    have hge := grownCap_ge w news.length 0 e
    have hmx := grownCap_le_maxLen w news.length 0 e h63
    obtain ⟨T, W⟩ := hW.newRow hid' hio' ⟨e, sz, news, false⟩ (cur := cells.toArray ++ Builtin.zeroCells zv.cells (grownCap w news.length 0 e - news.length)) (C := grownCap w news.length 0 e)
      (w' := w.drew.alloc (.cells (cells.toArray ++ Builtin.zeroCells zv.cells (grownCap w news.length 0 e - news.length)) e)) rfl rfl rfl rfl
      (by simp only [Array.size_append, List.size_toArray, size_zeroCells, hzs, hl, ← Nat.add_mul]; congr 1; omega) hmx hge hsz
      (fun i el hi => ⟨(hrep i el hi).1, fun j u hu => by
        obtain ⟨cv, g1, g2⟩ := (hrep i el hi).2 j u hu
        have hlt := (List.getElem?_eq_some_iff.1 g1).1
        refine ⟨cv, ?_, hone _ (List.mem_of_getElem? g1), by simpa using g2⟩
        rw [Array.getElem?_append_left (by simpa using hlt)]
        simpa using g1⟩)
    refine ⟨_, _, _, hrun, T, W, (rep_osl (r := ⟨e, sz, news, false⟩) (by simp [Mem.set])).2 ?_⟩
    simp only [setAt, if_true]
    refine ⟨_, _, rfl, by simp, hge, hmx, fun _ => ⟨by simp, _, heap_alloc_new w.drew _, ?_⟩⟩
    simp only [Array.size_append, List.size_toArray, size_zeroCells, hzs, hl, ← Nat.add_mul, Nat.zero_add]
    congr 1
    omega
theorem append_own {T : TypeId} {by_ : Nat} (hW : WRel G ρ w0 X M w) {id id' : Id} {r : Row} (hM : M id = some (some r)) (hbx : r.bx = false) (hT : TSlice P T r.ty r.sz by_) (hsz : 0 < r.sz) (hio : id.1 ≠ io)
    {sv xv : Value} {o n : Nat} (hs : Rep ρ w (Stab G ρ M w) M sv (.osl id o n)) (hon : r.es.length = o + n) {news : List (List PV)} (hx : Src ρ w (Stab G ρ M w) xv r.sz news)
    (hid' : M id' = none) (hio' : id'.1 ≠ io) (ty : TypeId) (h63 : n + news.length ≤ maxLen) (hby : (n + news.length) * by_ ≤ 140737488355328) :
    ∃ ρ' w' v', (Builtin.append_ #[T, T] ty #[sv, xv]).run P w = .ok v' w' ∧ Trans G ρ M w ρ' ((M.set id none).set id' (some ⟨r.ty, r.sz, r.es.drop o ++ news, false⟩)) w' ∧
      WRel G ρ' w0 X ((M.set id none).set id' (some ⟨r.ty, r.sz, r.es.drop o ++ news, false⟩)) w' ∧
      Rep ρ' w' (Stab G ρ' ((M.set id none).set id' (some ⟨r.ty, r.sz, r.es.drop o ++ news, false⟩)) w') ((M.set id none).set id' (some ⟨r.ty, r.sz, r.es.drop o ++ news, false⟩)) v' (.osl id' 0 (n + news.length)) := by
  have hne : id ≠ id' := fun e => by rw [e, hid'] at hM; cases hM
  have h1 := (rep_osl hM).1 hs
  have hrow := hW.row id r hM
  have hdl : (r.es.drop o).length = n := by rw [List.length_drop]; omega
  have htk : (r.es.drop o).take n = r.es.drop o := List.take_of_length_le (by omega)
  obtain ⟨hsrc, _⟩ := src_osl hW hM hbx hsz hs
  rw [htk] at hsrc
  cases hρ : ρ id with
  | none =>
    simp only [OslOk, hρ] at h1
    obtain ⟨rfl, rfl, rfl⟩ := h1
    simp only [RowOk, hρ] at hrow
    obtain ⟨T1, W1⟩ := hW.dead hM
    obtain ⟨ρ2, w2, v2, e1, e2, e3, e4⟩ := append_nil hT hsz W1 (hx.mono fun b hb => (T1.stab b hb).1) (id' := id') (by simp [Mem.set, Ne.symm hne, hid']) hio' ty (by simpa using h63) (by simpa using hby)
    rw [hrow.1, List.drop_nil, List.nil_append, Nat.zero_add]
    exact ⟨ρ2, w2, v2, e1, T1.trans e2, e3, e4⟩
  | some bz =>
    obtain ⟨b, z⟩ := bz
    simp only [OslOk, hρ] at h1
    obtain ⟨ad, cap, rfl, g1, g2, g3, g4⟩ := h1
    rw [hρ] at hrow
    obtain ⟨cur, C, k1, k2, k3, k4, k5, k6⟩ := hrow
    obtain ⟨ht, i, hi, hsize, hbytes, zv, hz, hzs⟩ := hT
    obtain ⟨a, c, cells, rfl, hc, hl, hcell, hone, hrep⟩ := hx
    have hcells0 : ∀ (i : Nat) e, (r.es.drop o)[i]? = some e → e.length = r.sz ∧ ∀ (j : Nat) u, e[j]? = some u →
        ∃ c, cur[z + o * r.sz + i * r.sz + j]? = some c ∧ c.oneCell' = true ∧ Rep ρ w (Stab G ρ M w) noMem c u := by
      intro i e hi
      rw [List.getElem?_drop] at hi
      obtain ⟨m1, m2⟩ := k6 _ _ hi
      refine ⟨m1, fun j u hu => ?_⟩
      obtain ⟨c, n1, n2, n3⟩ := m2 j u hu
      refine ⟨c, ?_, n2, by simpa [hbx] using n3⟩
      rw [← n1]; congr 1; rw [Nat.add_mul]; omega
    by_cases h0 : news.length = 0
    · 
      have hn : news = [] := List.eq_nil_of_length_eq_zero h0
      subst hn
      have hoC : o ≤ C := by omega
      have hCo : cur.size = (z + o * r.sz) + (C - o) * r.sz := by
        have hsub : (C - o) * r.sz = C * r.sz - o * r.sz := Nat.sub_mul _ _ _
        have hle : o * r.sz ≤ C * r.sz := Nat.mul_le_mul_right _ hoC
        omega
      obtain ⟨T, W⟩ := hW.move hM hρ hio hid' hio' ⟨r.ty, r.sz, r.es.drop o ++ [], false⟩ rfl rfl (z + o * r.sz) (C - o) w cur cur k1 k1 rfl (fun _ _ => rfl) rfl rfl rfl rfl hCo (by omega)
        (by simp; omega) k5 (fun i e hi => hcells0 i e (by simpa using hi))
      refine ⟨_, w, .slice (some ad) n cap, ?_, T, W, (rep_osl (r := ⟨r.ty, r.sz, r.es.drop o ++ [], false⟩) (by simp [Mem.set])).2 ?_⟩
      · cases a with
        | none => simp [Builtin.append_, run_underlying ht, sizeOf, typeInfo, hi, Builtin.lenOf, Builtin.firstCells, g2, storeCells]
        | some a => simp [Builtin.append_, run_underlying ht, sizeOf, typeInfo, hi, Builtin.lenOf, Builtin.firstCells, loadCells, loadCellsFrom, g2, storeCells]
      · simp only [setAt, if_true]
        refine ⟨ad, cap, by simp, by simp; omega, by simpa using g2, g3, fun hp => ?_⟩
        obtain ⟨rfl, cur2, q1, q2⟩ := g4 hp
        refine ⟨by simp, cur2, q1, ?_⟩
        show cur2.size = z + o * r.sz + (0 + cap) * r.sz
        rw [q2, Nat.add_mul, Nat.zero_add]
        omega
    · have hpos : 0 < news.length := Nat.pos_of_ne_zero h0
      have hcp : 0 < cells.length := by rw [hl]; exact Nat.mul_pos hpos hsz
      obtain ⟨xa, rfl, _⟩ := hcell 0 cells[0] (List.getElem?_eq_getElem hcp)
      have hcell' : ∀ (j : Nat) u, cells[j]? = some u → w.cell? (xa.add j) = some u := fun j u hu => by
        obtain ⟨ad', e1, e2⟩ := hcell j u hu
        injection e1 with e1
        subst e1
        exact e2
      by_cases hroom : n + news.length ≤ cap
      · 
        obtain ⟨rfl, cur2, q1, q2⟩ := g4 (by omega)
        rw [k1] at q1
        injection q1 with q1
        injection q1 with q1
        subst q1
        have hCcap : C = o + cap := by
          have : C * r.sz = (o + cap) * r.sz := by omega
          exact Nat.eq_of_mul_eq_mul_right hsz this
        have hfit : z + o * r.sz + n * r.sz + cells.length ≤ cur.size := by
          rw [hl, q2, Nat.add_mul]
          have : (n + news.length) * r.sz ≤ cap * r.sz := Nat.mul_le_mul_right _ hroom
          rw [Nat.add_mul] at this
          omega
        have hf := run_firstCells_some (P := P) w r.sz news.length xa news.length c cells hl hcell'
        have hst := run_storeCells_at P b (z + o * r.sz + n * r.sz) r.ty cells 0 cur w k1 (by simpa using hfit) hone
        simp only [Nat.add_zero] at hst
        have hadd : (⟨b, z + o * r.sz, none⟩ : Addr).add (n * r.sz) = ⟨b, z + o * r.sz + n * r.sz, none⟩ := by
          unfold Addr.add; split <;> simp_all
        have hrun : (Builtin.append_ #[T, T] ty #[.slice (some ⟨b, z + o * r.sz, none⟩) n cap, .slice (some xa) news.length c]).run P w =
            .ok (.slice (some ⟨b, z + o * r.sz, none⟩) (n + news.length) cap) (w.setRow b (cur.toList.take (z + o * r.sz + n * r.sz) ++ cells ++ cur.toList.drop (z + o * r.sz + n * r.sz + cells.length)).toArray) := by
          simp [Builtin.append_, run_underlying ht, sizeOf, typeInfo, hi, hsize, Builtin.lenOf, hroom, hf, hadd, hst]
        have hsz' : (cur.toList.take (z + o * r.sz + n * r.sz) ++ cells ++ cur.toList.drop (z + o * r.sz + n * r.sz + cells.length)).toArray.size = cur.size := by
          simp only [List.size_toArray, List.length_append, List.length_take, List.length_drop, Array.length_toList]
          omega
        have key : ∀ (i : Nat) e, (r.es.drop o ++ news)[i]? = some e → e.length = r.sz ∧ ∀ (j : Nat) u, e[j]? = some u →
            ∃ c, (cur.toList.take (z + o * r.sz + n * r.sz) ++ cells ++ cur.toList.drop (z + o * r.sz + n * r.sz + cells.length)).toArray[z + o * r.sz + i * r.sz + j]? = some c ∧ c.oneCell' = true ∧ Rep ρ w (Stab G ρ M w) noMem c u := by
          intro i e hi
          rw [list_two_at, hdl] at hi
          split at hi
          · rename_i hin
            obtain ⟨m1, m2⟩ := hcells0 i e hi
            refine ⟨m1, fun j u hu => ?_⟩
            obtain ⟨cv, n1, n2, n3⟩ := m2 j u hu
            refine ⟨cv, ?_, n2, n3⟩
            have hj : j < r.sz := by rw [← m1]; exact (List.getElem?_eq_some_iff.1 hu).1
            have hij : i * r.sz + j < n * r.sz := by
              have : (i + 1) * r.sz ≤ n * r.sz := Nat.mul_le_mul_right _ hin
              rw [Nat.add_mul] at this; omega
            have hlt := (Array.getElem?_eq_some_iff.1 n1).1
            rw [List.getElem?_toArray, List.append_assoc, List.getElem?_append_left (by simp; omega), List.getElem?_take, if_pos (by omega), Array.getElem?_toList]
            exact n1
          · rename_i hin
            obtain ⟨m1, m2⟩ := hrep _ _ hi
            refine ⟨m1, fun j u hu => ?_⟩
            obtain ⟨cv, n1, n3⟩ := m2 j u hu
            refine ⟨cv, ?_, hone _ (List.mem_of_getElem? n1), n3⟩
            have hlt := (List.getElem?_eq_some_iff.1 n1).1
            have hsplit : i * r.sz = n * r.sz + (i - n) * r.sz := by rw [← Nat.add_mul]; congr 1; omega
            have htl : (List.take (z + o * r.sz + n * r.sz) cur.toList).length = z + o * r.sz + n * r.sz := by simp; omega
            rw [List.getElem?_toArray, List.append_assoc, List.getElem?_append_right (by rw [htl]; omega), htl, List.getElem?_append_left (by omega), ← n1]
            congr 1
            omega
        obtain ⟨T, W⟩ := hW.move hM hρ hio hid' hio' ⟨r.ty, r.sz, r.es.drop o ++ news, false⟩ rfl rfl (z + o * r.sz) (C - o)
          (w.setRow b (cur.toList.take (z + o * r.sz + n * r.sz) ++ cells ++ cur.toList.drop (z + o * r.sz + n * r.sz + cells.length)).toArray) cur _ k1 (setRow_heap w b cur _ r.ty _ k1) (by simp)
          (fun k hk => setRow_other w b k _ hk) rfl rfl rfl hsz'
          (by rw [hsz', q2, hCcap]; show _ = z + o * r.sz + (o + cap - o) * r.sz; rw [Nat.add_mul, Nat.add_sub_cancel_left]; omega) (by omega) (by simp; omega) k5 key
        refine ⟨_, _, _, hrun, T, W, (rep_osl (r := ⟨r.ty, r.sz, r.es.drop o ++ news, false⟩) (by simp [Mem.set])).2 ?_⟩
        simp only [setAt, if_true]
        refine ⟨_, _, rfl, by simp; omega, hroom, g3, fun hp => ⟨by simp, _, setRow_heap w b cur _ r.ty _ k1, ?_⟩⟩
        rw [hsz']
        show cur.size = z + o * r.sz + (0 + cap) * r.sz
        rw [q2, Nat.add_mul, Nat.zero_add]
        omega
      · 
        obtain ⟨sa, sc, olds, he, hsc, hol, hocell, hoone, horep⟩ := hsrc
        rw [hdl] at he hol
        injection he with he1 he2 he3
        subst he1
        have hocell' : ∀ (j : Nat) u, olds[j]? = some u → w.cell? (ad.add j) = some u := fun j u hu => by
          obtain ⟨ad', e1, e2⟩ := hocell j u hu
          injection e1 with e1
          subst e1
          exact e2
        have hm : ((n + news.length : Nat) : Int) ≤ 9223372036854775807 := by unfold maxLen at h63; omega
        have hrun := run_append_grow (P := P) w T ty r.ty i zv ht hi hz ad n cap olds (by rw [hol, hsize]) hocell' xa news.length c cells (by rw [hl, hsize]) hcell' (by omega) hm
          (growslice_fits (by omega) (by rw [hbytes]; exact hby))
        have hge := grownCap_ge w (n + news.length) cap r.ty
        have hmx := grownCap_le_maxLen w (n + news.length) cap r.ty h63
        have hol' : (olds ++ cells).length = (n + news.length) * r.sz := by rw [List.length_append, hol, hl, Nat.add_mul]
        obtain ⟨T1, W1⟩ := hW.dead hM
        have hcsz : (olds.toArray ++ cells.toArray ++ Builtin.zeroCells zv.cells (grownCap w (n + news.length) cap r.ty - (n + news.length))).size = grownCap w (n + news.length) cap r.ty * r.sz := by
          simp only [Array.size_append, List.size_toArray, size_zeroCells, hzs, hol, hl, ← Nat.add_mul]; congr 1; omega
        have key : ∀ (i : Nat) e, (r.es.drop o ++ news)[i]? = some e → e.length = r.sz ∧ ∀ (j : Nat) u, e[j]? = some u →
            ∃ c, (olds.toArray ++ cells.toArray ++ Builtin.zeroCells zv.cells (grownCap w (n + news.length) cap r.ty - (n + news.length)))[i * r.sz + j]? = some c ∧ c.oneCell' = true ∧
              Rep ρ w (Stab G ρ (M.set id none) w) (if false = true then M.set id none else noMem) c u := by
          intro i e hi
          rw [list_two_at, hdl] at hi
          have hall : ∀ (k : Nat) cv, (olds ++ cells)[k]? = some cv → (olds.toArray ++ cells.toArray ++ Builtin.zeroCells zv.cells (grownCap w (n + news.length) cap r.ty - (n + news.length)))[k]? = some cv := by
            intro k cv hk
            have hlt := (List.getElem?_eq_some_iff.1 hk).1
            rw [Array.getElem?_append_left (by simpa using hlt)]
            simpa using hk
          split at hi
          · rename_i hin
            obtain ⟨m1, m2⟩ := horep i e hi
            refine ⟨m1, fun j u hu => ?_⟩
            obtain ⟨cv, n1, n3⟩ := m2 j u hu
            have hlt := (List.getElem?_eq_some_iff.1 n1).1
            exact ⟨cv, hall _ _ (by rw [List.getElem?_append_left hlt]; exact n1), hoone _ (List.mem_of_getElem? n1), by simpa using n3.pureMono (fun b hb => ⟨(T1.stab b hb).1, rfl⟩)⟩
          · rename_i hin
            obtain ⟨m1, m2⟩ := hrep _ _ hi
            refine ⟨m1, fun j u hu => ?_⟩
            obtain ⟨cv, n1, n3⟩ := m2 j u hu
            have hsplit : i * r.sz = n * r.sz + (i - n) * r.sz := by rw [← Nat.add_mul]; congr 1; omega
            refine ⟨cv, hall _ _ ?_, hone _ (List.mem_of_getElem? n1), by simpa using n3.pureMono (fun b hb => ⟨(T1.stab b hb).1, rfl⟩)⟩
            rw [List.getElem?_append_right (by omega), ← n1]
            congr 1
            omega
        obtain ⟨T, W⟩ := W1.newRow (id := id') (by simp [Mem.set, Ne.symm hne, hid']) hio' ⟨r.ty, r.sz, r.es.drop o ++ news, false⟩
          (cur := olds.toArray ++ cells.toArray ++ Builtin.zeroCells zv.cells (grownCap w (n + news.length) cap r.ty - (n + news.length))) (C := grownCap w (n + news.length) cap r.ty)
          (w' := w.drew.alloc (.cells (olds.toArray ++ cells.toArray ++ Builtin.zeroCells zv.cells (grownCap w (n + news.length) cap r.ty - (n + news.length))) r.ty)) rfl rfl rfl rfl
          hcsz hmx (by simp; omega) hsz key
        refine ⟨_, _, _, hrun, T1.trans T, W, (rep_osl (r := ⟨r.ty, r.sz, r.es.drop o ++ news, false⟩) (by simp [Mem.set])).2 ?_⟩
        simp only [setAt, if_true]
        refine ⟨_, _, rfl, by simp; omega, hge, hmx, fun _ => ⟨by simp, _, heap_alloc_new w.drew _, ?_⟩⟩
        rw [hcsz]
        simp
end
end Go.Vs
set_option linter.unusedVariables false
set_option linter.unusedSimpArgs false
namespace Go.Vs
structure Eff where
  x : PV
  ups : List (Id × Option Row)
  rd : List Id
def ev (V : Nat → PV) : Operand → PV
  | .tmp t => V t
  | .const v => ofConst v
  | .func f => .fn f [] []
  | .global _ => .any
def intBin : BinOp → IntKind → Int → Int → Option PV
  | .add, k, a, b => some (.int k (k.wrap (a + b)))
  | .sub, k, a, b => some (.int k (k.wrap (a - b)))
  | .mul, k, a, b => some (.int k (k.wrap (a * b)))
  | .quo, k, a, b => if b = 0 then none else some (.int k (k.wrap (a.tdiv b)))
  | .rem, k, a, b => if b = 0 then none else some (.int k (a.tmod b))
  | .eql, _, a, b => some (.bool (a == b))
  | .neq, _, a, b => some (.bool (a != b))
  | .lss, _, a, b => some (.bool (decide (a < b)))
  | .leq, _, a, b => some (.bool (decide (a ≤ b)))
  | .gtr, _, a, b => some (.bool (decide (a > b)))
  | .geq, _, a, b => some (.bool (decide (a ≥ b)))
  | .and, k, a, b => some (.int k (k.wrap (BitVec.ofInt k.bits a &&& BitVec.ofInt k.bits b).toNat))
  | .shr, k, a, b => if b < 0 then none else some (.int k (a.fdiv (2 ^ min b.toNat k.bits)))
  | _, _, _, _ => none
def strBin : BinOp → ByteArray → ByteArray → Option PV
  | .eql, a, b => some (.bool (a.toList == b.toList))
  | .neq, a, b => some (.bool (!(a.toList == b.toList)))
  | .lss, a, b => some (.bool (Op.bytesLess a.toList b.toList))
  | .add, a, b => if a.size + b.size ≤ 9223372036854775807 then some (.str (a ++ b)) else none
  | _, _, _ => none
def BinOk (P : Program) (T : TypeId) (op : BinOp) (x y r : PV) : Prop :=
  match x, y with
  | .int k a, .int k' b => (k = k' ∨ op = .shr) ∧ intBin op k a b = some r
  | .bool a, .bool b => P.underlying T = some .bool ∧ ((op = .eql ∧ r = .bool (a == b)) ∨ (op = .neq ∧ r = .bool (!(a == b))))
  | .str a, .str b => strBin op a b = some r
  | _, _ => False
def live (M : Mem) : PV → Prop
  | .own id _ _ => ∃ r, M id = some (some r)
  | .osl id _ _ => ∃ r, M id = some (some r)
  | _ => True
def rids : List PV → List Id
  | [] => []
  | .own id _ _ :: r => id :: rids r
  | .osl id _ _ :: r => id :: rids r
  | _ :: r => rids r
def TStruct (P : Program) (T : TypeId) (places : List (Nat × Nat)) (zs : List PV) : Prop :=
  ∃ fs, P.underlying T = some (.struct fs) ∧ places.length = fs.size ∧ (∀ (j : Nat) fd, fs[j]? = some fd → ∃ k, places[j]? = some (fd.offset, k) ∧ TSize P fd.type k) ∧ TZero P T zs
def buildPV (places : List (Nat × Nat)) : List PV → List (Nat × PV) → Option (List PV)
  | cells, [] => some cells
  | cells, (i, x) :: rest => match places[i]? with
    | none => none
    | some (off, size) => if x.cells.length ≠ size ∨ off + size > cells.length then none else buildPV places (cells.take off ++ x.cells ++ cells.drop (off + size)) rest
def SrcStep (M : Mem) (x : PV) (sz : Nat) (news : List (List PV)) (rd : List Id) : Prop :=
  (x = .list sz news ∧ rd = []) ∨ (∃ id o n r, x = .osl id o n ∧ M id = some (some r) ∧ r.bx = false ∧ r.sz = sz ∧ news = (r.es.drop o).take n ∧ rd = [id]) ∨ (x = .nil ∧ news = [] ∧ rd = [])
def bound (V : Nat → PV) (o : Option Operand) (dflt : Nat) (n : Nat) : Prop :=
  match o with
  | none => n = dflt
  | some x => ∃ k, ev V x = .int k (n : Int)
def CallStep (P : Program) (dst : Option Tmp) (c : Call) (V : Nat → PV) (M : Mem) (f : Eff) : Prop :=
  match c.callee with
  | .builtin .len => ∃ x T n rd, c.args = #[x] ∧ c.argTypes = #[T] ∧ f = ⟨.int .i64 (n : Nat), [], rd⟩ ∧
      ((∃ e, P.underlying T = some (.slice e) ∧ ((∃ sz es, ev V x = .list sz es ∧ n = es.length) ∨ (∃ id o r, ev V x = .osl id o n ∧ M id = some (some r) ∧ rd = [id]) ∨ (ev V x = .nil ∧ n = 0))) ∨
       (P.underlying T = some .string ∧ ∃ s, ev V x = .str s ∧ n = s.size))
  | .builtin .append => ∃ s x T t e sz by_ news rd, c.args = #[s, x] ∧ c.argTypes = #[T, T] ∧ dst = some t ∧ t ≠ io ∧ M (t, 0) = none ∧ TSlice P T e sz by_ ∧ 0 < sz ∧ SrcStep M (ev V x) sz news rd ∧
      ((ev V s = .nil ∧ news.length ≤ maxLen ∧ news.length * by_ ≤ 140737488355328 ∧ f = ⟨.osl (t, 0) 0 news.length, [((t, 0), some ⟨e, sz, news, false⟩)], rd⟩) ∨
       (∃ id o n r, ev V s = .osl id o n ∧ M id = some (some r) ∧ r.bx = false ∧ r.ty = e ∧ r.sz = sz ∧ id.1 ≠ io ∧ r.es.length = o + n ∧ n + news.length ≤ maxLen ∧ (n + news.length) * by_ ≤ 140737488355328 ∧
          f = ⟨.osl (t, 0) 0 (n + news.length), [((t, 0), some ⟨e, sz, r.es.drop o ++ news, false⟩), (id, none)], id :: rd⟩))
  | .builtin .max => ∃ x y k a b, c.args = #[x, y] ∧ ev V x = .int k a ∧ ev V y = .int k b ∧ f = ⟨.int k (if b > a then b else a), [], []⟩
  | .builtin .min => ∃ x y k a b, c.args = #[x, y] ∧ ev V x = .int k a ∧ ev V y = .int k b ∧ f = ⟨.int k (if b < a then b else a), [], []⟩
  | _ => False
def bytesL (bs : List Int) : List (List PV) := bs.map fun b => [PV.int .u8 b]
def strB (bs : List Int) : ByteArray := bs.foldl (fun r n => r.push (UInt8.ofNat n.toNat)) ByteArray.empty
def OpStep (P : Program) (dst : Option Tmp) (op : Op) (V : Nat → PV) (M : Mem) (f : Eff) : Prop :=
  match op with
  | .move x => f = ⟨ev V x, [], []⟩
  | .assign x => f = ⟨ev V x, [], []⟩
  | .pick c a b => ∃ t, ev V c = .bool t ∧ f = ⟨if t then ev V a else ev V b, [], []⟩
  | .nilCheck x => (∃ us, ev V x = .ptr us ∧ f = ⟨.ptr us, [], []⟩) ∨ (∃ id i off r, ev V x = .own id i off ∧ M id = some (some r) ∧ f = ⟨.own id i off, [], [id]⟩) ∨
      (∃ g a b, ev V x = .fn g a b ∧ f = ⟨.fn g a b, [], []⟩)
  | .extract x i => ∃ vs u, ev V x = .tuple vs ∧ vs[i]? = some u ∧ f = ⟨u, [], []⟩
  | .binOp o T x y _ => ∃ r, BinOk P T o (ev V x) (ev V y) r ∧ f = ⟨r, [], []⟩
  | .unOp u _ x => (∃ b, u = .not ∧ ev V x = .bool b ∧ f = ⟨.bool (!b), [], []⟩) ∨ (∃ k n, u = .neg ∧ ev V x = .int k n ∧ f = ⟨.int k (k.wrap (0 - n)), [], []⟩)
  | .convert s d x => (∃ k k' n ds, P.underlying s = some ds ∧ P.underlying d = some (.int k) ∧ ev V x = .int k' n ∧ f = ⟨.int k (k.wrap n), [], []⟩) ∨
      (∃ id o n r bs e, P.underlying s = some (.slice e) ∧ P.underlying e = some (.int .u8) ∧ P.underlying d = some .string ∧ ev V x = .osl id o n ∧ M id = some (some r) ∧ r.bx = false ∧ r.sz = 1 ∧ 0 < n ∧
        (r.es.drop o).take n = bytesL bs ∧ f = ⟨.str (strB bs), [], [id]⟩)
  | .box T x => ∃ t, dst = some t ∧ t ≠ io ∧ M (t, 0) = none ∧ (ev V x).cells ≠ [] ∧ (ev V x).cells.length ≤ maxLen ∧ (ev V x).cells.all PV.one = true ∧ (∀ u ∈ (ev V x).cells, live M u) ∧
      f = ⟨.own (t, 0) 0 0, [((t, 0), some ⟨T, (ev V x).cells.length, [(ev V x).cells], true⟩)], rids (ev V x).cells⟩
  | .alloc T => ∃ t cs, dst = some t ∧ t ≠ io ∧ M (t, 0) = none ∧ TZero P T cs ∧ cs ≠ [] ∧ cs.length ≤ maxLen ∧ cs.all PV.pure1 = true ∧
      f = ⟨.own (t, 0) 0 0, [((t, 0), some ⟨T, cs.length, [cs], true⟩)], []⟩
  | .build T parts => ∃ places zs cs, (∀ p ∈ parts.toList, (ev V p.2).cells.all PV.one = true ∧ ∀ u ∈ (ev V p.2).cells, live M u) ∧ TStruct P T places zs ∧ buildPV places zs (parts.toList.map fun p => (p.1, ev V p.2)) = some cs ∧ f = ⟨.agg cs, [], rids (parts.toList.flatMap fun p => (ev V p.2).cells)⟩
  | .buildSlice T n parts => ∃ t e sz by_, dst = some t ∧ t ≠ io ∧ M (t, 0) = none ∧ TSlice P T e sz by_ ∧ 0 < sz ∧ n * sz ≤ 16777216 ∧ parts.toList.map (·.1) = List.range n ∧
      (∀ p ∈ parts.toList, (ev V p.2).cells.length = sz ∧ (ev V p.2).cells.all PV.pure1 = true) ∧
      (f = ⟨.osl (t, 0) 0 n, [((t, 0), some ⟨e, sz, parts.toList.map fun p => (ev V p.2).cells, false⟩)], []⟩ ∨ f = ⟨.list sz (parts.toList.map fun p => (ev V p.2).cells), [((t, 0), none)], []⟩)
  | .load T x => (TCell P T ∧ ((∃ u us, ev V x = .ptr (u :: us) ∧ f = ⟨u, [], []⟩) ∨
        (∃ id i off r e u, ev V x = .own id i off ∧ M id = some (some r) ∧ r.es[i]? = some e ∧ e[off]? = some u ∧ f = ⟨u, [], [id]⟩))) ∨
      (∃ k, TAgg P T k ∧ ((∃ us, ev V x = .ptr us ∧ k ≤ us.length ∧ f = ⟨.agg (us.take k), [], []⟩) ∨
        (∃ id i off r e, ev V x = .own id i off ∧ M id = some (some r) ∧ r.es[i]? = some e ∧ off + k ≤ e.length ∧ f = ⟨.agg ((e.drop off).take k), [], [id]⟩)))
  | .store T x y => ∃ id i off r e k, ev V x = .own id i off ∧ M id = some (some r) ∧ r.es[i]? = some e ∧ TSize P T k ∧ (ev V y).cells.length = k ∧ off + k ≤ e.length ∧ (ev V y).cells.all PV.one = true ∧
      (∀ u ∈ (ev V y).cells, live M u) ∧ (r.bx = true ∨ (ev V y).cells.all PV.pure1 = true) ∧
      f = ⟨.any, [(id, some { r with es := r.es.set i (e.take off ++ (ev V y).cells ++ e.drop (off + k)) })], id :: rids (ev V y).cells⟩
  | .fieldAddr T x i => ∃ off, TField P T i off ∧ ((∃ us, ev V x = .ptr us ∧ f = ⟨.ptr (us.drop off), [], []⟩) ∨
      (∃ id k o r, ev V x = .own id k o ∧ M id = some (some r) ∧ f = ⟨.own id k (o + off), [], [id]⟩))
  | .indexAddr T x ix => ∃ e sz by_ k n, TSlice P T e sz by_ ∧ ev V ix = .int k n ∧ 0 ≤ n ∧ ((∃ es el, ev V x = .list sz es ∧ es[n.toNat]? = some el ∧ f = ⟨.ptr el, [], []⟩) ∨
      (∃ id o m r, ev V x = .osl id o m ∧ M id = some (some r) ∧ r.sz = sz ∧ n.toNat < m ∧ f = ⟨.own id (o + n.toNat) 0, [], [id]⟩))
  | .index T x ix => P.underlying T = some .string ∧ ∃ s k n b, ev V x = .str s ∧ ev V ix = .int k n ∧ 0 ≤ n ∧ s[n.toNat]? = some b ∧ f = ⟨.int .u8 b.toNat, [], []⟩
  | .slice T x lo hi mx => mx = none ∧ ∃ l h, bound V lo 0 l ∧ l ≤ h ∧
      ((∃ e sz by_ es, TSlice P T e sz by_ ∧ ev V x = .list sz es ∧ bound V hi es.length h ∧ h ≤ es.length ∧ f = ⟨.list sz ((es.take h).drop l), [], []⟩) ∨
       (∃ e sz by_ id o n r, TSlice P T e sz by_ ∧ ev V x = .osl id o n ∧ M id = some (some r) ∧ r.sz = sz ∧ bound V hi n h ∧ h ≤ n ∧ f = ⟨.osl id (o + l) (h - l), [], [id]⟩) ∨
       (P.underlying T = some .string ∧ ∃ s, ev V x = .str s ∧ bound V hi s.size h ∧ h ≤ s.size ∧ f = ⟨.str (s.extract l h), [], []⟩))
  | .makeFunc fn fi ca => ∃ g, fn = .func g ∧ f = ⟨.fn g (fi.toList.map (ev V)) (ca.toList.map (ev V)), [], []⟩
  | .makeSlice T l c => ∃ t e sz by_ zs k k' n, dst = some t ∧ t ≠ io ∧ M (t, 0) = none ∧ TSlice P T e sz by_ ∧ TZero P e zs ∧ zs.all PV.pure1 = true ∧ 0 < sz ∧ ev V l = .int k (n : Nat) ∧ ev V c = .int k' (n : Nat) ∧
      by_ * n ≤ 281474976710656 ∧ n ≤ maxLen ∧ f = ⟨.osl (t, 0) 0 n, [((t, 0), some ⟨e, sz, List.replicate n zs, false⟩)], []⟩
  | .call c => CallStep P dst c V M f
  | _ => False
def OpRes (P : Program) (a : Act) (o : Oper) (G : Nat → Prop) (ρ : Id → Option (Nat × Nat)) (w0 : World) (X : List (Option (Nat × Nat))) (M : Mem) (w : World) (f : Eff) : Prop :=
  ∃ ρ' w' v, ((execOp a.eval o).run P w = .ok (.value v) w' ∨ ((execOp a.eval o).run P w = .ok .skip w' ∧ v = undef)) ∧ Trans G ρ M w ρ' (M.upds f.ups) w' ∧ WRel G ρ' w0 X (M.upds f.ups) w' ∧
    Rep ρ' w' (Stab G ρ' (M.upds f.ups) w') (M.upds f.ups) v f.x
end Go.Vs
set_option linter.unusedVariables false
set_option linter.unusedSimpArgs false
namespace Go.Vs
section
variable {P : Program} {a : Act} {o : Oper} {G : Nat → Prop} {ρ : Id → Option (Nat × Nat)} {w0 : World} {X : List (Option (Nat × Nat))} {M : Mem} {w : World} {V : Nat → PV}
theorem OpRes.quiet (hW : WRel G ρ w0 X M w) {x : PV} {rd : List Id} {v : Value} (hrun : (execOp a.eval o).run P w = .ok (.value v) w) (hr : Rep ρ w (Stab G ρ M w) M v x) : OpRes P a o G ρ w0 X M w ⟨x, [], rd⟩ :=
  ⟨ρ, w, v, .inl hrun, Trans.refl _ _ _ _, hW, hr⟩
theorem rep_ev (hV : ∀ t, Rep ρ w (Stab G ρ M w) M (a.tmps.getD t undef) (V t)) (x : Operand) : Rep ρ w (Stab G ρ M w) M (a.eval x) (ev V x) := by
  cases x with
  | tmp t => exact hV t
  | const v => exact rep_ofConst
  | func f => exact rep_fn.2 ⟨#[], #[], rfl, ⟨rfl, fun j u hu => by simp at hu⟩, ⟨rfl, fun j u hu => by simp at hu⟩⟩
  | global g => exact rep_any
theorem comps_map (hV : ∀ t, Rep ρ w (Stab G ρ M w) M (a.tmps.getD t undef) (V t)) (xs : Array Operand) : Comps ρ w (Stab G ρ M w) M (xs.map a.eval) (xs.toList.map (ev V)) := by
  refine ⟨by simp, fun j u hu => ?_⟩
  rw [List.getElem?_map, Option.map_eq_some_iff] at hu
  obtain ⟨x, hx, rfl⟩ := hu
  exact ⟨a.eval x, by rw [Array.getElem?_map]; rw [Array.getElem?_toList] at hx; simp [hx], rep_ev hV x⟩
theorem cells_take {ad : Addr} {S : Nat → Prop} {us : List PV} (hc : Cells ρ w S ad us) (k : Nat) (hk : k ≤ us.length) :
    ∃ cs : List Value, cs.length = k ∧ (∀ (j : Nat) v, cs[j]? = some v → w.cell? (ad.add j) = some v) ∧ Comps ρ w S M cs.toArray (us.take k) := by
  obtain ⟨l, hl, hn⟩ := exists_cells (fun j => w.cell? (ad.add j)) k (fun j hj => by
    obtain ⟨c, h1, _⟩ := hc j us[j] (List.getElem?_eq_getElem (by omega))
    exact ⟨c, h1⟩)
  refine ⟨l, hl, fun j v hj => ?_, ⟨by simp [hl, hk], fun j u hu => ?_⟩⟩
  · have : j < k := by rw [← hl]; exact (List.getElem?_eq_some_iff.1 hj).1
    exact (hn j this).trans hj
  · rw [List.getElem?_take] at hu
    split at hu
    · rename_i hj
      obtain ⟨c, h1, h2, h3⟩ := hc j u hu
      refine ⟨c, ?_, h3.pureMono fun b hb => ⟨hb, rfl⟩⟩
      rw [List.getElem?_toArray, ← hn j hj]
      exact h1
    · cases hu
theorem own_cells (hW : WRel G ρ w0 X M w) {id : Id} {i off : Nat} {r : Row} {e : List PV} {v : Value} (hM : M id = some (some r)) (he : r.es[i]? = some e) (h : Rep ρ w (Stab G ρ M w) M v (.own id i off)) :
    ∃ b z cur, ρ id = some (b, z) ∧ v = .pointer (some ⟨b, z + i * r.sz + off, none⟩) ∧ w.heap[b]? = some (.cells cur r.ty (0, 0)) ∧ e.length = r.sz ∧ z + i * r.sz + r.sz ≤ cur.size ∧ 0 < r.sz ∧
      (∀ (j : Nat) u, e[j]? = some u → ∃ c, cur[z + i * r.sz + j]? = some c ∧ c.oneCell' = true ∧ Rep ρ w (Stab G ρ M w) (if r.bx then M else noMem) c u) ∧
      (∀ (i' : Nat) e', r.es[i']? = some e' → e'.length = r.sz ∧ ∀ (j : Nat) u, e'[j]? = some u → ∃ c, cur[z + i' * r.sz + j]? = some c ∧ c.oneCell' = true ∧ Rep ρ w (Stab G ρ M w) (if r.bx then M else noMem) c u) := by
  have h1 := (rep_own hM).1 h
  have hr := hW.row id r hM
  cases hρ : ρ id with
  | none => simp [OwnOk, hρ] at h1
  | some bz =>
    obtain ⟨b, z⟩ := bz
    simp only [OwnOk, hρ] at h1
    rw [hρ] at hr
    obtain ⟨cur, C, g1, g2, g3, g4, g5, g6⟩ := hr
    have hi : i < r.es.length := (List.getElem?_eq_some_iff.1 he).1
    have hle : (i + 1) * r.sz ≤ C * r.sz := Nat.mul_le_mul_right _ (by omega)
    rw [Nat.add_mul] at hle
    exact ⟨b, z, cur, rfl, h1, g1, (g6 i e he).1, by omega, g5, (g6 i e he).2, g6⟩
theorem repB_M {v : Value} {x : PV} {b : Bool} (h : Rep ρ w (Stab G ρ M w) (if b then M else noMem) v x) : Rep ρ w (Stab G ρ M w) M v x := by
  cases b
  · exact h.pureMono fun b hb => ⟨hb, rfl⟩
  · exact h
theorem run_eql_bool {T : TypeId} (hT : P.underlying T = some .bool) (b c : Bool) : (binOp .eql T (.bool b) (.bool c)).run P w = .ok (.bool (b == c)) w := by
  simp only [binOp, Sem.run_bind, run_equal_bool w T b c hT, Result.andThen_ok, Sem.run_pure]
theorem run_neq_bool {T : TypeId} (hT : P.underlying T = some .bool) (b c : Bool) : (binOp .neq T (.bool b) (.bool c)).run P w = .ok (.bool (!(b == c))) w := by
  simp only [binOp, Sem.run_bind, run_equal_bool w T b c hT, Result.andThen_ok, Sem.run_pure]
theorem step_bin (hW : WRel G ρ w0 X M w) (hV : ∀ t, Rep ρ w (Stab G ρ M w) M (a.tmps.getD t undef) (V t)) {op : BinOp} {T yT : TypeId} {x y : Operand} (ho : o.op = .binOp op T x y yT) {r : PV}
    (h : BinOk P T op (ev V x) (ev V y) r) : OpRes P a o G ρ w0 X M w ⟨r, [], []⟩ := by
  have hx := rep_ev hV x
  have hy := rep_ev hV y
  revert h hx hy
  cases ev V x <;> cases ev V y <;> intro h hx hy <;> simp only [BinOk] at h <;> try exact h.elim
  case int.int k m k' n =>
    have ex := rep_int.1 hx
    have ey := rep_int.1 hy
    obtain ⟨hk, hr⟩ := h
    by_cases hsh : op = .shr
    · subst hsh
      simp only [intBin] at hr
      split at hr
      · cases hr
      · rename_i hn
        injection hr with hr
        subst hr
        refine OpRes.quiet hW (v := .int k (m.fdiv (2 ^ min n.toNat k.bits))) ?_ (rep_int.2 rfl)
        simp [execOp, ho, ex, ey, eqGuard_at_int, binOp, Op.shift, hn]
    · have hkk : k = k' := by rcases hk with hk | hk; exact hk; exact absurd hk hsh
      subst hkk
      cases op <;> simp only [intBin] at hr <;> (try cases hr) <;> (try (exact absurd rfl hsh)) <;>
        first
          | (refine OpRes.quiet hW (v := .int k _) ?_ (rep_int.2 rfl); simp [execOp, ho, ex, ey, eqGuard_at_int, binOp, Op.intArith, Op.intBits]; done)
          | (refine OpRes.quiet hW (v := .bool _) ?_ (rep_bool.2 rfl); simp [execOp, ho, ex, ey, eqGuard_at_int, binOp, Op.intCmp]; done)
          | (split at hr
             · cases hr
             · rename_i hn
               injection hr with hr
               subst hr
               refine OpRes.quiet hW (v := .int k _) ?_ (rep_int.2 rfl)
               simp [execOp, ho, ex, ey, eqGuard_at_int, binOp, Op.intDiv, hn])
  case bool.bool b c =>
    have ex := rep_bool.1 hx
    have ey := rep_bool.1 hy
    obtain ⟨hT, ⟨rfl, rfl⟩ | ⟨rfl, rfl⟩⟩ := h
    · refine OpRes.quiet hW (v := .bool (b == c)) ?_ (rep_bool.2 rfl)
      simp only [execOp, ho, ex, ey, eqGuard_at_bool, Sem.run_bind, Sem.run_pure, Result.andThen_ok, run_eql_bool hT]
    · refine OpRes.quiet hW (v := .bool (!(b == c))) ?_ (rep_bool.2 rfl)
      simp only [execOp, ho, ex, ey, eqGuard_at_bool, Sem.run_bind, Sem.run_pure, Result.andThen_ok, run_neq_bool hT]
  case str.str s t =>
    have ex := rep_str.1 hx
    have ey := rep_str.1 hy
    cases op <;> simp only [strBin] at h <;> (try cases h)
    case add =>
      split at h
      · rename_i hs
        injection h with h
        subst h
        refine OpRes.quiet hW (v := .string (s ++ t)) ?_ (rep_str.2 rfl)
        have : ¬ ((9223372036854775807 : Int) < (s.size : Int) + (t.size : Int)) := by omega
        simp [execOp, ho, ex, ey, eqGuard_at_string, binOp, Op.stringOp, this]
      · cases h
    all_goals
      refine OpRes.quiet hW (v := .bool _) ?_ (rep_bool.2 rfl)
      simp [execOp, ho, ex, ey, eqGuard_at_string, binOp, Op.stringOp]
theorem run_indexAt {T e : TypeId} {sz by_ : Nat} (hT : TSlice P T e sz by_) (ad : Addr) (len cap : Nat) (k : IntKind) (n : Int) (h0 : 0 ≤ n) (hn : n < len) :
    (Instr.indexAt T (.slice (some ad) len cap) (.int k n)).run P w = .ok (.pointer (some (ad.add (n.toNat * sz)))) w := by
  obtain ⟨ht, i, hi, hs, _⟩ := hT
  simp [Instr.indexAt, asIntOf, run_underlying ht, h0, hn, sizeOf, typeInfo, hi, hs]
theorem run_fieldAt {T : TypeId} {f off : Nat} (hT : TField P T f off) (ad : Addr) : (Instr.fieldAt T (.pointer (some ad)) f).run P w = .ok (.pointer (some (ad.add off))) w := by
  obtain ⟨fs, fd, i, ht, hf, ho, hi, hs⟩ := hT
  simp [Instr.fieldAt, run_underlying ht, hf, Instr.sureAddr, fieldPlace, sizeOf, typeInfo, hi, hs, ho]
end
end Go.Vs
set_option linter.unusedVariables false
set_option linter.unusedSimpArgs false
namespace Go.Vs
section
variable {P : Program} {a : Act} {o : Oper} {G : Nat → Prop} {ρ : Id → Option (Nat × Nat)} {w0 : World} {X : List (Option (Nat × Nat))} {M : Mem} {w : World} {V : Nat → PV} {f : Eff}
theorem add_off {b k : Nat} (j : Nat) : (⟨b, k, none⟩ : Addr).add j = ⟨b, k + j, none⟩ := by
  unfold Addr.add; split <;> simp_all
theorem step_load (hW : WRel G ρ w0 X M w) (hV : ∀ t, Rep ρ w (Stab G ρ M w) M (a.tmps.getD t undef) (V t)) {T : TypeId} {x : Operand} (ho : o.op = .load T x)
    (h : OpStep P o.dst (.load T x) V M f) : OpRes P a o G ρ w0 X M w f := by
  have hx := rep_ev hV x
  rcases h with ⟨hT, ⟨u, us, e, rfl⟩ | ⟨id, i, off, r, el, u, e, hM, he, hu, rfl⟩⟩ | ⟨k, hT, ⟨us, e, hk, rfl⟩ | ⟨id, i, off, r, el, e, hM, he, hk, rfl⟩⟩
  · rw [e] at hx
    obtain ⟨ad, ex, hS, hc⟩ := rep_ptr.1 hx
    obtain ⟨c, h1, h2, h3⟩ := hc 0 u rfl
    have h1' : w.cell? ad = some c := by simpa [Addr.add] using h1
    refine OpRes.quiet hW (v := c) ?_ (h3.pureMono fun b hb => ⟨hb, rfl⟩)
    simp [execOp, ho, ex, Instr.loadAt, Instr.sureAddr, run_loadVar_cell hT h1']
  · rw [e] at hx
    obtain ⟨b, z, cur, hρ, ex, g1, g2, g3, g4, g5, _⟩ := own_cells hW hM he hx
    obtain ⟨c, k1, k2, k3⟩ := g5 off u hu
    have h1' : w.cell? ⟨b, z + i * r.sz + off, none⟩ = some c := by rw [cell_of_row w b _ cur r.ty (0, 0) g1]; exact k1
    refine OpRes.quiet hW (v := c) ?_ (repB_M k3)
    simp [execOp, ho, ex, Instr.loadAt, Instr.sureAddr, run_loadVar_cell hT h1']
  · rw [e] at hx
    obtain ⟨ad, ex, hS, hc⟩ := rep_ptr.1 hx
    obtain ⟨cs, c1, c2, c3⟩ := cells_take (ρ := ρ) (M := M) hc k hk
    refine OpRes.quiet hW (v := .agg cs.toArray) ?_ (rep_agg.2 ⟨_, rfl, c3⟩)
    simp [execOp, ho, ex, Instr.loadAt, Instr.sureAddr, run_loadVar_agg hT cs c1 c2]
  · rw [e] at hx
    obtain ⟨b, z, cur, hρ, ex, g1, g2, g3, g4, g5, _⟩ := own_cells hW hM he hx
    obtain ⟨l, hl, hn⟩ := exists_cells (fun j => cur[z + i * r.sz + (off + j)]?) k (fun j hj => by
      obtain ⟨c, h1, _⟩ := g5 (off + j) el[off + j] (List.getElem?_eq_getElem (by omega))
      exact ⟨c, h1⟩)
    have c2 : ∀ (j : Nat) v, l[j]? = some v → w.cell? ((⟨b, z + i * r.sz + off, none⟩ : Addr).add j) = some v := fun j v hj => by
      have : j < k := by rw [← hl]; exact (List.getElem?_eq_some_iff.1 hj).1
      rw [add_off, cell_of_row w b _ cur r.ty (0, 0) g1, ← hj, ← hn j this, Nat.add_assoc]
    refine OpRes.quiet hW (v := .agg l.toArray) ?_ (rep_agg.2 ⟨_, rfl, by simp [hl]; omega, fun j u hu => ?_⟩)
    · simp [execOp, ho, ex, Instr.loadAt, Instr.sureAddr, run_loadVar_agg hT l hl c2]
    · rw [List.getElem?_take] at hu
      split at hu
      · rename_i hj
        rw [List.getElem?_drop] at hu
        obtain ⟨c, k1, k2, k3⟩ := g5 (off + j) u hu
        exact ⟨c, by rw [List.getElem?_toArray, ← hn j hj]; exact k1, repB_M k3⟩
      · cases hu
theorem live_rep {u : PV} (h : live M u) : (∀ id i off, u = .own id i off → ∃ r, M id = some (some r)) ∧ (∀ id o n, u = .osl id o n → ∃ r, M id = some (some r)) := by
  constructor
  · rintro id i off rfl; exact h
  · rintro id i off rfl; exact h
theorem step_store (hW : WRel G ρ w0 X M w) (hV : ∀ t, Rep ρ w (Stab G ρ M w) M (a.tmps.getD t undef) (V t)) {T : TypeId} {x y : Operand} (ho : o.op = .store T x y)
    (h : OpStep P o.dst (.store T x y) V M f) : OpRes P a o G ρ w0 X M w f := by
  obtain ⟨id, i, off, r, e, k, ex, hM, he, hT, hy, hfit, hone, hlive, hbx, rfl⟩ := h
  have hx := rep_ev hV x
  rw [ex] at hx
  obtain ⟨b, z, cur, hρ, exv, g1, g2, g3, g4, g5, g6⟩ := own_cells hW hM he hx
  have hyv := rep_ev hV y
  obtain ⟨hc, hco⟩ := rep_cells hyv hone (fun u hu => live_rep (hlive u hu))
  have hsz : (a.eval y).cells.size = k := by rw [hc.1, hy]
  have hrun := run_storeVar_at (P := P) (w := w) hT hsz b (z + i * r.sz + off) r.ty cur g1 (by omega) hco
  have hlen : ((cur.toList.take (z + i * r.sz + off) ++ (a.eval y).cells.toList ++ cur.toList.drop (z + i * r.sz + off + (a.eval y).cells.size)).toArray).size = cur.size := by
    simp only [List.size_toArray, List.length_append, List.length_take, List.length_drop, Array.length_toList]
    omega
  have hil : i < r.es.length := (List.getElem?_eq_some_iff.1 he).1
  have key : ∀ (i' : Nat) e', (r.es.set i (e.take off ++ (ev V y).cells ++ e.drop (off + k)))[i']? = some e' → e'.length = r.sz ∧ ∀ (j : Nat) u, e'[j]? = some u →
      ∃ c, (cur.toList.take (z + i * r.sz + off) ++ (a.eval y).cells.toList ++ cur.toList.drop (z + i * r.sz + off + (a.eval y).cells.size)).toArray[z + i' * r.sz + j]? = some c ∧ c.oneCell' = true ∧
        Rep ρ w (Stab G ρ M w) (if r.bx then M else noMem) c u := by
    have same : ∀ p, (p < z + i * r.sz + off ∨ z + i * r.sz + off + k ≤ p) → ∀ c, cur[p]? = some c →
        (cur.toList.take (z + i * r.sz + off) ++ (a.eval y).cells.toList ++ cur.toList.drop (z + i * r.sz + off + (a.eval y).cells.size)).toArray[p]? = some c := by
      intro p hp c hcp
      have hps := (Array.getElem?_eq_some_iff.1 hcp).1
      rw [List.getElem?_toArray, List.append_assoc, list_two_at]
      have htl : (List.take (z + i * r.sz + off) cur.toList).length = z + i * r.sz + off := by simp; omega
      rw [htl]
      rcases hp with hp | hp
      · rw [if_pos hp, List.getElem?_take, if_pos hp, Array.getElem?_toList]; exact hcp
      · rw [if_neg (by omega), list_two_at, Array.length_toList, hsz, if_neg (by omega), List.getElem?_drop, Array.getElem?_toList, ← hcp]
        congr 1; omega
    intro i' e' hi'
    by_cases hie : i' = i
    · subst hie
      rw [List.getElem?_set_self hil] at hi'
      injection hi' with hi'
      subst hi'
      refine ⟨by simp [hy]; omega, fun j u hu => ?_⟩
      have hto : (e.take off).length = off := by simp; omega
      rw [List.append_assoc, list_two_at, hto] at hu
      split at hu
      · rename_i hj
        rw [List.getElem?_take, if_pos hj] at hu
        obtain ⟨c, k1, k2, k3⟩ := g5 j u hu
        exact ⟨c, same _ (.inl (by omega)) c k1, k2, k3⟩
      · rename_i hj
        rw [list_two_at, hy] at hu
        split at hu
        · rename_i hj2
          obtain ⟨c, k1, k2⟩ := hc.2 _ u hu
          refine ⟨c, ?_, hco c (by rw [← Array.getElem?_toList] at k1; exact List.mem_of_getElem? k1), ?_⟩
          · have htl : (List.take (z + i' * r.sz + off) cur.toList).length = z + i' * r.sz + off := by simp; omega
            rw [List.getElem?_toArray, List.append_assoc, List.getElem?_append_right (by rw [htl]; omega), htl, List.getElem?_append_left (by rw [Array.length_toList, hsz]; omega), Array.getElem?_toList, ← k1]
            congr 1; omega
          · rcases hbx with hbx | hbx
            · rw [hbx]; exact k2
            · exact rep_pure k2 (List.all_eq_true.1 hbx u (List.mem_of_getElem? hu))
        · rename_i hj2
          rw [List.getElem?_drop] at hu
          have : off + k + (j - off - k) = j := by omega
          rw [this] at hu
          obtain ⟨c, k1, k2, k3⟩ := g5 j u hu
          exact ⟨c, same _ (.inr (by omega)) c k1, k2, k3⟩
    · rw [List.getElem?_set_ne (by omega)] at hi'
      obtain ⟨m1, m2⟩ := g6 i' e' hi'
      refine ⟨m1, fun j u hu => ?_⟩
      obtain ⟨c, k1, k2, k3⟩ := m2 j u hu
      refine ⟨c, same _ ?_ c k1, k2, k3⟩
      have hj : j < r.sz := by rw [← m1]; exact (List.getElem?_eq_some_iff.1 hu).1
      rcases Nat.lt_or_ge i' i with hlt | hge
      · left
        have : (i' + 1) * r.sz ≤ i * r.sz := Nat.mul_le_mul_right _ hlt
        rw [Nat.add_mul] at this; omega
      · right
        have : (i + 1) * r.sz ≤ i' * r.sz := Nat.mul_le_mul_right _ (by omega)
        rw [Nat.add_mul] at this; omega
  obtain ⟨T1, W1⟩ := hW.store hM hρ (w.setRow b (cur.toList.take (z + i * r.sz + off) ++ (a.eval y).cells.toList ++ cur.toList.drop (z + i * r.sz + off + (a.eval y).cells.size)).toArray) cur _
    (r.es.set i (e.take off ++ (ev V y).cells ++ e.drop (off + k))) g1 (setRow_heap w b cur _ r.ty _ g1) hlen (by simp) (fun k' hk => setRow_other w b k' _ hk) rfl rfl rfl (by simp) key
  refine ⟨ρ, _, undef, .inr ⟨?_, rfl⟩, T1, W1, rep_any⟩
  simp only [execOp, ho, Instr.storeAt, exv, Instr.sureAddr, Sem.run_bind, Sem.run_pure, Result.andThen_ok, hrun]
theorem newBox (hW : WRel G ρ w0 X M w) {t : Nat} (hid : M (t, 0) = none) (hio : t ≠ io) (T : TypeId) {v : Value} {cs : List PV} (hc : Comps ρ w (Stab G ρ M w) M v.cells cs) (hone : ∀ c ∈ v.cells.toList, c.oneCell' = true)
    (hne : cs ≠ []) (hmax : cs.length ≤ maxLen) :
    ∃ ρ', Trans G ρ M w ρ' (M.upds [((t, 0), some ⟨T, cs.length, [cs], true⟩)]) (w.alloc (.cells v.cells T)) ∧ WRel G ρ' w0 X (M.upds [((t, 0), some ⟨T, cs.length, [cs], true⟩)]) (w.alloc (.cells v.cells T)) ∧
      Rep ρ' (w.alloc (.cells v.cells T)) (Stab G ρ' (M.upds [((t, 0), some ⟨T, cs.length, [cs], true⟩)]) (w.alloc (.cells v.cells T))) (M.upds [((t, 0), some ⟨T, cs.length, [cs], true⟩)]) (.pointer (some ⟨w.heap.size, 0, none⟩)) (.own (t, 0) 0 0) := by
  obtain ⟨T1, W1⟩ := hW.newRow (id := (t, 0)) hid hio ⟨T, cs.length, [cs], true⟩ (w.alloc (.cells v.cells T)) v.cells 1 rfl rfl rfl rfl (by simp [hc.1]) (by unfold maxLen; omega) (by simp)
    (by cases cs with | nil => exact absurd rfl hne | cons x r => simp)
    (fun i e hi => by
      cases i with
      | zero =>
        simp at hi
        subst hi
        refine ⟨rfl, fun j u hu => ?_⟩
        obtain ⟨c, h1, h2⟩ := hc.2 j u hu
        exact ⟨c, by simpa using h1, hone c (by rw [← Array.getElem?_toList] at h1; exact List.mem_of_getElem? h1), by simpa using h2⟩
      | succ i => simp at hi)
  refine ⟨_, T1, W1, (rep_own (r := ⟨T, cs.length, [cs], true⟩) (by simp [Mem.upds, Mem.set])).2 ?_⟩
  simp [setAt, OwnOk]
theorem step_box (hW : WRel G ρ w0 X M w) (hV : ∀ t, Rep ρ w (Stab G ρ M w) M (a.tmps.getD t undef) (V t)) {T : TypeId} {x : Operand} (ho : o.op = .box T x)
    (h : OpStep P o.dst (.box T x) V M f) : OpRes P a o G ρ w0 X M w f := by
  obtain ⟨t, _, hio, hid, hne, hmax, hone, hlive, rfl⟩ := h
  obtain ⟨hc, hco⟩ := rep_cells (rep_ev hV x) hone (fun u hu => live_rep (hlive u hu))
  obtain ⟨ρ', h1, h2, h3⟩ := newBox hW hid hio T hc hco hne hmax
  refine ⟨ρ', _, _, .inl ?_, h1, h2, h3⟩
  simp [execOp, ho, Instr.box, newVar, newRow]
theorem comps_const (cs : List Value) : Comps ρ w (Stab G ρ M w) M cs.toArray (cs.map ofConst) := by
  refine ⟨by simp, fun j u hu => ?_⟩
  rw [List.getElem?_map, Option.map_eq_some_iff] at hu
  obtain ⟨x, hx, rfl⟩ := hu
  exact ⟨x, by simpa using hx, rep_ofConst⟩
theorem ofConst_one {v : Value} (h : (ofConst v).pure1 = true) : v.oneCell' = true := by
  cases v <;> first | rfl | (simp [ofConst, PV.pure1] at h)
theorem step_alloc (hW : WRel G ρ w0 X M w) {T : TypeId} (ho : o.op = .alloc T) (h : OpStep P o.dst (.alloc T) V M f) : OpRes P a o G ρ w0 X M w f := by
  obtain ⟨t, cs, _, hio, hid, ⟨i, z, hi, hz, rfl⟩, hne, hmax, hone, rfl⟩ := h
  have hc : Comps ρ w (Stab G ρ M w) M z.cells (z.cells.toList.map ofConst) := by simpa using comps_const (ρ := ρ) (w := w) (M := M) z.cells.toList
  obtain ⟨ρ', h1, h2, h3⟩ := newBox hW hid hio T hc (fun c hcm => ofConst_one (List.all_eq_true.1 hone _ (List.mem_map_of_mem hcm))) hne hmax
  refine ⟨ρ', _, _, .inl ?_, h1, h2, h3⟩
  simp [execOp, ho, Instr.alloc, zeroValue, typeInfo, hi, hz, newVar, newRow]
end
end Go.Vs
set_option linter.unusedVariables false
set_option linter.unusedSimpArgs false
namespace Go.Vs
section
variable {P : Program} {a : Act} {o : Oper} {G : Nat → Prop} {ρ : Id → Option (Nat × Nat)} {w0 : World} {X : List (Option (Nat × Nat))} {M : Mem} {w : World} {V : Nat → PV} {f : Eff}
theorem step_fieldAddr (hW : WRel G ρ w0 X M w) (hV : ∀ t, Rep ρ w (Stab G ρ M w) M (a.tmps.getD t undef) (V t)) {T : TypeId} {x : Operand} {i : Nat} (ho : o.op = .fieldAddr T x i)
    (h : OpStep P o.dst (.fieldAddr T x i) V M f) : OpRes P a o G ρ w0 X M w f := by
  have hx := rep_ev hV x
  obtain ⟨off, hT, ⟨us, e, rfl⟩ | ⟨id, k, off0, r, e, hM, rfl⟩⟩ := h
  · rw [e] at hx
    obtain ⟨ad, ex, hS, hc⟩ := rep_ptr.1 hx
    refine OpRes.quiet hW (v := .pointer (some (ad.add off))) ?_ (rep_ptr.2 ⟨_, rfl, by rw [add_block]; exact hS, fun j u hu => ?_⟩)
    · simp only [execOp, ho, ex, Sem.run_bind, Sem.run_pure, run_fieldAt hT ad, Result.andThen_ok]
    · rw [List.getElem?_drop] at hu
      rw [add_add]
      exact hc _ u hu
  · rw [e] at hx
    have h1 := (rep_own hM).1 hx
    cases hρ : ρ id with
    | none => simp [OwnOk, hρ] at h1
    | some bz =>
      obtain ⟨b, z⟩ := bz
      simp only [OwnOk, hρ] at h1
      refine OpRes.quiet hW (v := .pointer (some ((⟨b, z + k * r.sz + off0, none⟩ : Addr).add off))) ?_ ((rep_own hM).2 ?_)
      · simp only [execOp, ho, h1, Sem.run_bind, Sem.run_pure, run_fieldAt hT, Result.andThen_ok]
      · simp only [OwnOk, hρ, add_off, Nat.add_assoc]
theorem step_indexAddr (hW : WRel G ρ w0 X M w) (hV : ∀ t, Rep ρ w (Stab G ρ M w) M (a.tmps.getD t undef) (V t)) {T : TypeId} {x ix : Operand} (ho : o.op = .indexAddr T x ix)
    (h : OpStep P o.dst (.indexAddr T x ix) V M f) : OpRes P a o G ρ w0 X M w f := by
  have hx := rep_ev hV x
  have hix := rep_ev hV ix
  obtain ⟨e, sz, by_, k, n, hT, eix, h0, ⟨es, el, ex, hel, rfl⟩ | ⟨id, off, m, r, ex, hM, hsz, hlt, rfl⟩⟩ := h
  · rw [ex] at hx
    rw [eix] at hix
    have hix := rep_int.1 hix
    obtain ⟨ad0, cap, hxv, hcap, hh⟩ := rep_list.1 hx
    have hlt := (List.getElem?_eq_some_iff.1 hel).1
    obtain ⟨ad, rfl, hS, hc⟩ := hh (fun e => by rw [e] at hlt; simp at hlt)
    refine OpRes.quiet hW (v := .pointer (some (ad.add (n.toNat * sz)))) ?_ (rep_ptr.2 ⟨_, rfl, by rw [add_block]; exact hS, (hc _ _ hel).2⟩)
    simp only [execOp, ho, hxv, hix, Sem.run_bind, Sem.run_pure, run_indexAt hT ad es.length cap k n h0 (by omega), Result.andThen_ok]
  · rw [ex] at hx
    rw [eix] at hix
    have hix := rep_int.1 hix
    have h1 := (rep_osl hM).1 hx
    cases hρ : ρ id with
    | none => simp only [OslOk, hρ] at h1; omega
    | some bz =>
      obtain ⟨b, z⟩ := bz
      simp only [OslOk, hρ] at h1
      obtain ⟨ad, cap, hxv, g1, g2, g3, g4⟩ := h1
      obtain ⟨rfl, _⟩ := g4 (by omega)
      refine OpRes.quiet hW (v := .pointer (some ((⟨b, z + off * r.sz, none⟩ : Addr).add (n.toNat * sz)))) ?_ ((rep_own hM).2 ?_)
      · simp only [execOp, ho, hxv, hix, Sem.run_bind, Sem.run_pure, run_indexAt hT _ m cap k n h0 (by omega), Result.andThen_ok]
      · simp only [OwnOk, hρ, add_off, hsz, Nat.add_mul, Nat.add_zero, Nat.add_assoc]
theorem step_index (hW : WRel G ρ w0 X M w) (hV : ∀ t, Rep ρ w (Stab G ρ M w) M (a.tmps.getD t undef) (V t)) {T : TypeId} {x ix : Operand} (ho : o.op = .index T x ix)
    (h : OpStep P o.dst (.index T x ix) V M f) : OpRes P a o G ρ w0 X M w f := by
  have hx := rep_ev hV x
  have hix := rep_ev hV ix
  obtain ⟨hT, s, k, n, b, ex, eix, h0, hb, rfl⟩ := h
  rw [ex] at hx
  rw [eix] at hix
  refine OpRes.quiet hW (v := .int .u8 b.toNat) ?_ (rep_int.2 rfl)
  simp [execOp, ho, rep_str.1 hx, rep_int.1 hix, Instr.index, asIntOf, run_underlying hT, h0, hb]
theorem run_bounds (isS : Bool) (hV : ∀ t, Rep ρ w (Stab G ρ M w) M (a.tmps.getD t undef) (V t)) (len cap : Nat) (lo hi : Option Operand) (l h : Nat) (hl : bound V lo 0 l) (hh : bound V hi len h) (hlh : l ≤ h) (hc : h ≤ cap) :
    (Instr.sliceBounds isS len cap (lo.map a.eval) (hi.map a.eval) none).run P w = .ok (l, h, cap) w := by
  have hb : ∀ (x : Operand) (y n : Nat) (code : BoundsCode), (∃ k, ev V x = .int k (n : Int)) → n ≤ y → (Instr.sliceBound (a.eval x) y code).run P w = .ok n w := by
    intro x y n code ⟨k, ex⟩ hn
    have hx := rep_ev hV x
    rw [ex] at hx
    simp [Instr.sliceBound, rep_int.1 hx, asIntOf, hn]
  cases lo with
  | none =>
    simp only [bound] at hl
    subst hl
    cases hi with
    | none => simp only [bound] at hh; subst hh; simp [Instr.sliceBounds]
    | some y => simp [Instr.sliceBounds, hb y cap h _ hh hc]
  | some x =>
    cases hi with
    | none => simp only [bound] at hh; subst hh; simp [Instr.sliceBounds, hb x _ l _ hl hlh]
    | some y => simp [Instr.sliceBounds, hb y cap h _ hh hc, hb x _ l _ hl hlh]
theorem step_slice (hW : WRel G ρ w0 X M w) (hV : ∀ t, Rep ρ w (Stab G ρ M w) M (a.tmps.getD t undef) (V t)) {T : TypeId} {x : Operand} {lo hi mx : Option Operand} (ho : o.op = .slice T x lo hi mx)
    (h : OpStep P o.dst (.slice T x lo hi mx) V M f) : OpRes P a o G ρ w0 X M w f := by
  have hx := rep_ev hV x
  obtain ⟨rfl, l, h, hl, hlh, ⟨e, sz, by_, es, hT, ex, hh, hle, rfl⟩ | ⟨e, sz, by_, id, off, n, r, hT, ex, hM, hsz, hh, hle, rfl⟩ | ⟨hT, s, ex, hh, hle, rfl⟩⟩ := h
  · rw [ex] at hx
    obtain ⟨ad0, cap, hxv, hcap, hc⟩ := rep_list.1 hx
    obtain ⟨ht, i, hi', hs, _⟩ := hT
    have hb := run_bounds (P := P) true hV es.length cap lo hi l h hl hh hlh (by omega)
    have hlen : ((es.take h).drop l).length = h - l := by simp; omega
    refine OpRes.quiet hW (v := .slice (if cap = l then ad0 else ad0.map (·.add (l * sz))) (h - l) (cap - l)) ?_ (rep_list.2 ⟨_, cap - l, by rw [hlen], by omega, fun hne => ?_⟩)
    · simp only [execOp, ho, hxv, Instr.sliceAt, Instr.slice, Sem.run_bind, run_underlying ht, Result.andThen_ok, hb, sizeOf, typeInfo, run_program, hi', hs, Sem.run_pure, Option.map_none]
    · have hlt : l < h := by
        rcases Nat.lt_or_ge l h with h' | h'
        · exact h'
        · exact absurd (List.eq_nil_of_length_eq_zero (by rw [hlen]; omega)) hne
      obtain ⟨ad, rfl, hS, hcc⟩ := hc (fun e => by rw [e] at hle; simp at hle; omega)
      rw [if_neg (by omega)]
      refine ⟨_, rfl, by rw [add_block]; exact hS, fun i e hi => ?_⟩
      rw [List.getElem?_drop, List.getElem?_take] at hi
      split at hi
      · obtain ⟨m1, m2⟩ := hcc _ _ hi
        rw [add_add, ← Nat.add_mul]
        exact ⟨m1, m2⟩
      · cases hi
  · rw [ex] at hx
    obtain ⟨ht, i, hi', hs, _⟩ := hT
    have h1 := (rep_osl hM).1 hx
    cases hρ : ρ id with
    | none =>
      simp only [OslOk, hρ] at h1
      obtain ⟨hxv, rfl, rfl⟩ := h1
      have hb := run_bounds (P := P) true hV 0 0 lo hi l h hl hh hlh (by omega)
      have : l = 0 := by omega
      subst this
      have : h = 0 := by omega
      subst this
      refine OpRes.quiet hW (v := .slice none 0 0) ?_ ((rep_osl hM).2 (by simp [OslOk, hρ]))
      simp only [execOp, ho, hxv, Instr.sliceAt, Instr.slice, Sem.run_bind, run_underlying ht, Result.andThen_ok, hb, sizeOf, typeInfo, run_program, hi', hs, Sem.run_pure, Option.map_none]
      rfl
    | some bz =>
      obtain ⟨b, z⟩ := bz
      simp only [OslOk, hρ] at h1
      obtain ⟨ad, cap, hxv, g1, g2, g3, g4⟩ := h1
      have hb := run_bounds (P := P) true hV n cap lo hi l h hl hh hlh (by omega)
      refine OpRes.quiet hW (v := .slice (if cap = l then some ad else (some ad).map (·.add (l * sz))) (h - l) (cap - l)) ?_ ((rep_osl hM).2 ?_)
      · simp only [execOp, ho, hxv, Instr.sliceAt, Instr.slice, Sem.run_bind, run_underlying ht, Result.andThen_ok, hb, sizeOf, typeInfo, run_program, hi', hs, Sem.run_pure, Option.map_none]
      · simp only [OslOk, hρ]
        by_cases hcl : cap = l
        · rw [if_pos hcl]
          exact ⟨ad, cap - l, rfl, by omega, by omega, by omega, fun hp => absurd hp (by omega)⟩
        · rw [if_neg hcl]
          obtain ⟨rfl, cur, q1, q2⟩ := g4 (by omega)
          refine ⟨_, cap - l, rfl, by omega, by omega, by omega, fun _ => ⟨by show (⟨b, z + off * r.sz, none⟩ : Addr).add (l * sz) = _; rw [add_off, hsz, Nat.add_mul, Nat.add_assoc], cur, q1, ?_⟩⟩
          rw [q2]
          congr 2
          omega
  · rw [ex] at hx
    have hb := run_bounds (P := P) false hV s.size s.size lo hi l h hl hh hlh (by omega)
    refine OpRes.quiet hW (v := .string (s.extract l h)) ?_ (rep_str.2 rfl)
    simp only [execOp, ho, rep_str.1 hx, Instr.sliceAt, Instr.slice, Sem.run_bind, run_underlying hT, Result.andThen_ok, hb, Sem.run_pure, Option.map_none, Option.isSome_none]
    simp [hb]
end
end Go.Vs
set_option linter.unusedVariables false
set_option linter.unusedSimpArgs false
namespace Go.Vs
section
variable {P : Program} {a : Act} {o : Oper} {G : Nat → Prop} {ρ : Id → Option (Nat × Nat)} {w0 : World} {X : List (Option (Nat × Nat))} {M : Mem} {w : World} {V : Nat → PV} {f : Eff}
theorem Comps.append {S : Nat → Prop} {xs ys : Array Value} {us vs : List PV} (h : Comps ρ w S M xs us) (g : Comps ρ w S M ys vs) : Comps ρ w S M (xs ++ ys) (us ++ vs) := by
  refine ⟨by simp [h.1, g.1], fun j u hu => ?_⟩
  rw [list_two_at] at hu
  split at hu
  · obtain ⟨c, h1, h2⟩ := h.2 j u hu
    exact ⟨c, by rw [Array.getElem?_append_left (Array.getElem?_eq_some_iff.1 h1).1]; exact h1, h2⟩
  · obtain ⟨c, h1, h2⟩ := g.2 _ u hu
    exact ⟨c, by rw [Array.getElem?_append_right (by rw [h.1]; omega), h.1]; exact h1, h2⟩
theorem Comps.take {S : Nat → Prop} {xs : Array Value} {us : List PV} (h : Comps ρ w S M xs us) (n : Nat) : Comps ρ w S M (xs.toList.take n).toArray (us.take n) := by
  refine ⟨by simp [h.1], fun j u hu => ?_⟩
  rw [List.getElem?_take] at hu
  split at hu
  · rename_i hj
    obtain ⟨c, h1, h2⟩ := h.2 j u hu
    exact ⟨c, by rw [List.getElem?_toArray, List.getElem?_take, if_pos hj, Array.getElem?_toList]; exact h1, h2⟩
  · cases hu
theorem Comps.drop {S : Nat → Prop} {xs : Array Value} {us : List PV} (h : Comps ρ w S M xs us) (n : Nat) : Comps ρ w S M (xs.toList.drop n).toArray (us.drop n) := by
  refine ⟨by simp [h.1], fun j u hu => ?_⟩
  rw [List.getElem?_drop] at hu
  obtain ⟨c, h1, h2⟩ := h.2 _ u hu
  exact ⟨c, by rw [List.getElem?_toArray, List.getElem?_drop, Array.getElem?_toList]; exact h1, h2⟩
theorem foldl_set (vs : List Value) : ∀ (k off : Nat) (cs : Array Value), off + k + vs.length ≤ cs.size →
    (((vs.zipIdx k).foldl (fun cs (p : Value × Nat) => cs.setIfInBounds (off + p.2) p.1) cs)).toList = cs.toList.take (off + k) ++ vs ++ cs.toList.drop (off + k + vs.length) := by
  induction vs with
  | nil => intro k off cs h; simp
  | cons v vs ih =>
    intro k off cs h
    simp only [List.length_cons] at h
    simp only [List.zipIdx_cons, List.foldl_cons]
    rw [show k + 1 = k + 1 from rfl, ih (k + 1) off _ (by simp; omega)]
    have hlt : off + k < cs.toList.length := by simp; omega
    have e1 : (cs.setIfInBounds (off + k) v).toList = cs.toList.set (off + k) v := by simp
    rw [e1, ← Nat.add_assoc, List.take_set, List.drop_set_of_lt (by omega)]
    rw [List.take_succ_eq_append_getElem hlt, List.set_append_right _ _ (by simp; omega)]
    have hm : off + k - (List.take (off + k) cs.toList).length = 0 := by simp; omega
    rw [hm]
    simp [Nat.add_comm, Nat.add_left_comm]
theorem fill_sound (hV : ∀ t, Rep ρ w (Stab G ρ M w) M (a.tmps.getD t undef) (V t)) (places : List (Nat × Nat)) (place : Nat → Option (Nat × Nat)) (hp : ∀ i q, places[i]? = some q → place i = some q) :
    ∀ (parts : List (Nat × Operand)) (cells : Array Value) (us out : List PV), Comps ρ w (Stab G ρ M w) M cells us → (∀ p ∈ parts, (a.eval p.2).cells.size = (ev V p.2).cells.length ∧ Comps ρ w (Stab G ρ M w) M (a.eval p.2).cells (ev V p.2).cells) →
      buildPV places us (parts.map fun p => (p.1, ev V p.2)) = some out →
      ∃ cells', Instr.fill place cells (parts.map fun p => (p.1, a.eval p.2)) = some cells' ∧ Comps ρ w (Stab G ρ M w) M cells' out := by
  intro parts
  induction parts with
  | nil =>
    intro cells us out hc _ h
    simp only [List.map_nil, buildPV] at h
    injection h with h
    subst h
    exact ⟨cells, by simp [Instr.fill], hc⟩
  | cons p rest ih =>
    intro cells us out hc hps h
    simp only [List.map_cons, buildPV] at h
    split at h
    · cases h
    · rename_i off size hpl
      split at h
      · cases h
      · rename_i hcond
        obtain ⟨h1, h2⟩ := hps p (by simp)
        have hsz : (a.eval p.2).cells.size = size := by rw [h1]; omega
        have hfit : off + (a.eval p.2).cells.size ≤ cells.size := by rw [hc.1, h1]; omega
        have hfold := foldl_set (a.eval p.2).cells.toList 0 off cells (by simpa using hfit)
        obtain ⟨cells', g1, g2⟩ := ih ((a.eval p.2).cells.zipIdx.foldl (fun cs (c, j) => cs.setIfInBounds (off + j) c) cells) _ out (by
            have : ((a.eval p.2).cells.zipIdx.foldl (fun cs (c, j) => cs.setIfInBounds (off + j) c) cells) = ((cells.toList.take off).toArray ++ (a.eval p.2).cells ++ (cells.toList.drop (off + size)).toArray) := by
              apply Array.ext'
              rw [← Array.foldl_toList, Array.toList_zipIdx]
              refine Eq.trans hfold ?_
              simp [hsz]
            rw [this]
            exact ((hc.take off).append h2).append (hc.drop (off + size))) (fun q hq => hps q (by simp [hq])) h
        refine ⟨cells', ?_, g2⟩
        simp only [List.map_cons, Instr.fill, hp _ _ hpl]
        rw [if_neg (by simp [hsz]; omega)]
        exact g1
theorem rep_cells_size {v : Value} {x : PV} (h : Rep ρ w (Stab G ρ M w) M v x) (ho : x.cells.all PV.one = true) (hl : ∀ u ∈ x.cells, live M u) : v.cells.size = x.cells.length ∧ Comps ρ w (Stab G ρ M w) M v.cells x.cells :=
  let ⟨h1, _⟩ := rep_cells h ho (fun u hu => live_rep (hl u hu))
  ⟨h1.1, h1⟩
theorem step_build (hW : WRel G ρ w0 X M w) (hV : ∀ t, Rep ρ w (Stab G ρ M w) M (a.tmps.getD t undef) (V t)) {T : TypeId} {parts : Array (Nat × Operand)} (ho : o.op = .build T parts)
    (h : OpStep P o.dst (.build T parts) V M f) : OpRes P a o G ρ w0 X M w f := by
  obtain ⟨places, zs, cs, hone, hT, hb, rfl⟩ := h
  obtain ⟨fs, ht, hpl, hf, i, z, hi, hz, rfl⟩ := hT
  have hzc : Comps ρ w (Stab G ρ M w) M z.cells (z.cells.toList.map ofConst) := by simpa using comps_const (ρ := ρ) (w := w) (M := M) z.cells.toList
  obtain ⟨cells', g1, g2⟩ := fill_sound hV places (fun j => places[j]?) (fun _ _ h => h) parts.toList z.cells _ cs hzc
    (fun p hp => rep_cells_size (rep_ev hV p.2) (hone p hp).1 (hone p hp).2) hb
  refine OpRes.quiet hW (v := .agg cells') ?_ (rep_agg.2 ⟨_, rfl, g2⟩)
  have hmap : (fs.mapM fun (fd : Field) => (do let k ← sizeOf fd.type; Pure.pure (fd.offset, k) : Sem (Nat × Nat))).run P w = .ok places.toArray w := by
    rw [Array.mapM_eq_mapM_toList]
    have : ∀ (l : List Field) (q : List (Nat × Nat)), q.length = l.length → (∀ (j : Nat) fd, l[j]? = some fd → ∃ k, q[j]? = some (fd.offset, k) ∧ TSize P fd.type k) →
        (l.mapM fun (fd : Field) => (do let k ← sizeOf fd.type; Pure.pure (fd.offset, k) : Sem (Nat × Nat))).run P w = .ok q w := by
      intro l
      induction l with
      | nil => intro q hq _; cases q with | nil => rfl | cons _ _ => simp at hq
      | cons fd l ih =>
        intro q hq hq2
        cases q with
        | nil => simp at hq
        | cons p q =>
          obtain ⟨k, h1, h2⟩ := hq2 0 fd rfl
          simp at h1
          subst h1
          have := ih q (by simpa using hq) (fun j fd' hj => by simpa using hq2 (j + 1) fd' (by simpa using hj))
          simp only [List.mapM_cons, Sem.run_bind, run_size h2, Sem.run_pure, Result.andThen_ok, this]
    simp only [Sem.run_map, this fs.toList places (by simpa using hpl) (fun j fd hj => hf j fd (by simpa using hj)), Result.andThen_ok]
  have g1' : Instr.fill (fun x => places[x]?) z.cells (parts.toList.map fun p => (p.1, a.eval p.2)) = some cells' := g1
  have hparts : (parts.map fun (i, x) => (i, a.eval x)).toList = parts.toList.map fun p => (p.1, a.eval p.2) := by simp
  simp only [execOp, ho, Instr.build, Sem.run_bind, zeroValue, typeInfo, run_program, hi, hz, Sem.run_pure, Result.andThen_ok, run_underlying ht, hmap, hparts]
  have g3 : Instr.fill (fun x => places.toArray[x]?) z.cells (parts.toList.map fun p => (p.1, a.eval p.2)) = some cells' := by simpa using g1'
  simp only [g3, Sem.run_pure, Result.andThen_ok]
end
end Go.Vs
set_option linter.unusedVariables false
set_option linter.unusedSimpArgs false
namespace Go.Vs
section
variable {P : Program} {a : Act} {o : Oper} {G : Nat → Prop} {ρ : Id → Option (Nat × Nat)} {w0 : World} {X : List (Option (Nat × Nat))} {M : Mem} {w : World} {V : Nat → PV} {f : Eff}
theorem buildPV_seq (places : List (Nat × Nat)) (sz n : Nat) (hp : ∀ i, i < n → places[i]? = some (i * sz, sz)) : ∀ (xs : List PV) (k : Nat) (us : List PV), (∀ x ∈ xs, x.cells.length = sz) → us.length = n * sz → k + xs.length ≤ n →
    ∃ out, buildPV places us ((List.range' k xs.length).zip xs) = some out ∧ out.length = us.length ∧ (∀ p, p < k * sz → out[p]? = us[p]?) ∧
      ∀ (i : Nat) x, xs[i]? = some x → ∀ j, j < sz → out[(k + i) * sz + j]? = x.cells[j]? := by
  intro xs
  induction xs with
  | nil => intro k us _ hu _; exact ⟨us, by simp [buildPV], rfl, fun _ _ => rfl, fun i x hx => by simp at hx⟩
  | cons x xs ih =>
    intro k us hxs hu hk
    simp only [List.length_cons] at hk
    have hx := hxs x (by simp)
    have hle : (k + 1) * sz ≤ n * sz := Nat.mul_le_mul_right _ (by omega)
    rw [Nat.add_mul] at hle
    have hl : (us.take (k * sz) ++ x.cells ++ us.drop (k * sz + sz)).length = n * sz := by simp [hx]; omega
    obtain ⟨out, h1, h2, h3, h4⟩ := ih (k + 1) _ (fun y hy => hxs y (by simp [hy])) hl (by omega)
    have htl : (us.take (k * sz)).length = k * sz := by simp; omega
    refine ⟨out, ?_, h2.trans (hl.trans hu.symm), fun p hp' => ?_, fun i y hy j hj => ?_⟩
    · simp only [List.length_cons, List.range'_succ, List.zip_cons_cons, buildPV, hp k (by omega)]
      rw [if_neg (by simp [hx]; omega)]
      exact h1
    · rw [h3 p (by rw [Nat.add_mul]; omega), List.append_assoc, List.getElem?_append_left (by omega), List.getElem?_take, if_pos hp']
    · cases i with
      | zero =>
        simp at hy
        subst hy
        rw [Nat.add_zero, h3 _ (by rw [Nat.add_mul]; omega), List.append_assoc, List.getElem?_append_right (by omega), htl, List.getElem?_append_left (by omega)]
        congr 1; omega
      | succ i =>
        have := h4 i y (by simpa using hy) j hj
        rw [show k + (i + 1) = k + 1 + i from by omega]
        exact this
theorem step_buildSliceO (hW : WRel G ρ w0 X M w) (hV : ∀ t, Rep ρ w (Stab G ρ M w) M (a.tmps.getD t undef) (V t)) {T : TypeId} {n : Nat} {parts : Array (Nat × Operand)} (ho : o.op = .buildSlice T n parts)
    {t : Nat} {e sz by_ : Nat} (hio : t ≠ io) (hid : M (t, 0) = none) (hT : TSlice P T e sz by_) (hsz : 0 < sz) (hmax : n * sz ≤ 16777216) (hfst : parts.toList.map (·.1) = List.range n)
    (hps : ∀ p ∈ parts.toList, (ev V p.2).cells.length = sz ∧ (ev V p.2).cells.all PV.pure1 = true) :
    OpRes P a o G ρ w0 X M w ⟨.osl (t, 0) 0 n, [((t, 0), some ⟨e, sz, parts.toList.map fun p => (ev V p.2).cells, false⟩)], []⟩ := by
  obtain ⟨ht, i, hi, hs, _, z, hz, hzs⟩ := hT
  have hpl : parts.toList.length = n := by have := congrArg List.length hfst; simpa using this
  have hzip : (parts.toList.map fun p => (p.1, ev V p.2)) = (List.range' 0 (parts.toList.map fun p => ev V p.2).length).zip (parts.toList.map fun p => ev V p.2) := by
    rw [List.length_map, hpl, ← List.range_eq_range', ← hfst]
    clear hfst hpl hps ho
    induction parts.toList with
    | nil => rfl
    | cons p l ih => simp [ih]
  obtain ⟨out, h1, h2, _, h4⟩ := buildPV_seq ((List.range n).map fun i => (i * sz, sz)) sz n (fun i hi => by simp [hi]) (parts.toList.map fun p => ev V p.2) 0 (List.replicate (n * sz) .any)
    (fun x hx => by obtain ⟨p, hp, rfl⟩ := List.mem_map.1 hx; exact (hps p hp).1) (by simp) (by simp [hpl])
  rw [← hzip] at h1
  obtain ⟨zc, hzc0, hzc1⟩ : ∃ zc : Array Value, (n * sz = 0 → zc = #[]) ∧ (n * sz ≠ 0 → zc = z.cells) := by
    by_cases h0 : n * sz = 0
    · exact ⟨#[], fun _ => rfl, fun h => absurd h0 h⟩
    · exact ⟨z.cells, fun h => absurd h h0, fun _ => rfl⟩
  have hcomp : Comps ρ w (Stab G ρ M w) M ((Array.range (n * sz)).map fun k => zc[k % zc.size]!) (List.replicate (n * sz) .any) := by
    refine ⟨by simp, fun j u hu => ?_⟩
    rw [List.getElem?_replicate] at hu
    split at hu
    · rename_i hj
      injection hu with hu
      subst hu
      exact ⟨zc[j % zc.size]!, by simp [hj], rep_any⟩
    · cases hu
  obtain ⟨cells', g1, g2⟩ := fill_sound hV ((List.range n).map fun i => (i * sz, sz)) (fun i => some (i * sz, sz)) (fun i q hq => by
      rw [List.getElem?_map, Option.map_eq_some_iff] at hq
      obtain ⟨k, hk, rfl⟩ := hq
      rw [List.getElem?_range] at hk
      · injection hk with hk; rw [hk]
      · have := (List.getElem?_eq_some_iff.1 hk).1; simpa using this) parts.toList _ _ out hcomp
    (fun p hp => rep_cells_size (rep_ev hV p.2) (List.all_eq_true.2 fun u hu => pure1_one (List.all_eq_true.1 (hps p hp).2 u hu)) (fun u hu => by
      have := List.all_eq_true.1 (hps p hp).2 u hu
      cases u <;> first | trivial | simp [PV.pure1] at this)) h1
  have hcs : cells'.size = n * sz := by rw [g2.1, h2]; simp
  obtain ⟨T1, W1⟩ := hW.newRow (id := (t, 0)) hid hio ⟨e, sz, parts.toList.map fun p => (ev V p.2).cells, false⟩ (w.alloc (.cells cells' e)) cells' n rfl rfl rfl rfl hcs
    (by have : n * 1 ≤ n * sz := Nat.mul_le_mul_left _ hsz; unfold maxLen; omega) (by simp at hpl ⊢; omega) hsz (fun i el hi => by
      simp only [List.getElem?_map, Option.map_eq_some_iff] at hi
      obtain ⟨p, hp, rfl⟩ := hi
      obtain ⟨m1, m2⟩ := hps p (List.mem_of_getElem? hp)
      refine ⟨m1, fun j u hu => ?_⟩
      have hj : j < sz := by rw [← m1]; exact (List.getElem?_eq_some_iff.1 hu).1
      have h5 := h4 i (ev V p.2) (by simp only [List.getElem?_map, hp, Option.map_some]) j hj
      rw [Nat.zero_add, hu] at h5
      obtain ⟨c, k1, k2⟩ := g2.2 _ u h5
      have hpu := List.all_eq_true.1 m2 u (List.mem_of_getElem? hu)
      exact ⟨c, k1, rep_one k2 (pure1_one hpu) (by rintro _ _ _ rfl; simp [PV.pure1] at hpu) (by rintro _ _ _ rfl; simp [PV.pure1] at hpu), by simpa using rep_pure k2 hpu⟩)
  refine ⟨_, _, .slice (some ⟨w.heap.size, 0, none⟩) n n, .inl ?_, T1, W1, (rep_osl (r := ⟨e, sz, parts.toList.map fun p => (ev V p.2).cells, false⟩) (by simp [Mem.upds, Mem.set])).2 ?_⟩
  · have hmax' : ¬ (n * sz > 2 ^ 24) := by omega
    have hparts : (parts.map fun (i, x) => (i, a.eval x)).toList = parts.toList.map fun p => (p.1, a.eval p.2) := by simp
    simp only [execOp, ho, Instr.buildSlice, Sem.run_bind, run_underlying ht, Result.andThen_ok, sizeOf, typeInfo, run_program, hi, hs, Sem.run_pure, hmax', if_false, hparts]
    by_cases h0 : n * sz = 0
    · rw [hzc0 h0] at g1
      simp only [h0, if_true, Sem.run_bind, Sem.run_pure, Result.andThen_ok] at g1 ⊢
      simp only [g1, newRow, Sem.run_bind, run_newObj, Sem.run_pure, Result.andThen_ok]
      rfl
    · rw [hzc1 h0] at g1
      simp only [h0, if_false, Sem.run_bind, Sem.run_pure, Result.andThen_ok, zeroValue, typeInfo, run_program, hi, hz]
      simp only [g1, newRow, Sem.run_bind, run_newObj, Sem.run_pure, Result.andThen_ok]
      rfl
  · simp only [setAt, if_true]
    refine ⟨_, n, rfl, by simp at hpl ⊢; omega, Nat.le_refl _, by have : n * 1 ≤ n * sz := Nat.mul_le_mul_left _ hsz; unfold maxLen; omega, fun _ => ⟨by simp, cells', heap_alloc_new w _, ?_⟩⟩
    simp [hcs]
end
end Go.Vs
set_option linter.unusedVariables false
set_option linter.unusedSimpArgs false
namespace Go.Vs
section
variable {P : Program} {a : Act} {o : Oper} {G : Nat → Prop} {ρ : Id → Option (Nat × Nat)} {w0 : World} {X : List (Option (Nat × Nat))} {M : Mem} {w : World} {V : Nat → PV} {f : Eff}
theorem step_makeSlice (hW : WRel G ρ w0 X M w) (hV : ∀ t, Rep ρ w (Stab G ρ M w) M (a.tmps.getD t undef) (V t)) {T : TypeId} {l c : Operand} (ho : o.op = .makeSlice T l c)
    (h : OpStep P o.dst (.makeSlice T l c) V M f) : OpRes P a o G ρ w0 X M w f := by
  obtain ⟨t, e, sz, by_, zs, k, k', n, _, hio, hid, hT, hZ, hpure, hsz, el, ec, hby, hmax, rfl⟩ := h
  obtain ⟨ht, i, hi, hs, hb, z, hz, hzs⟩ := hT
  obtain ⟨i', z', hi', hz', rfl⟩ := hZ
  rw [hi] at hi'
  injection hi' with hi'
  subst hi'
  rw [hz] at hz'
  injection hz' with hz'
  subst hz'
  have hl := rep_ev hV l
  have hc := rep_ev hV c
  rw [el] at hl
  rw [ec] at hc
  have hmx : (n : Int) ≤ 9223372036854775807 := by unfold maxLen at hmax; omega
  have hby' : (i.bytes : Int) * (n : Int) ≤ 281474976710656 := by
    have : ((by_ * n : Nat) : Int) ≤ 281474976710656 := by omega
    rw [hb]; rwa [Int.natCast_mul] at this
  have hrun := run_make (P := P) w T e i z ht hi hz k k' n n (by omega) (Int.le_refl _) hby' hmx
  simp only [Int.toNat_natCast, hs] at hrun
  obtain ⟨T1, W1⟩ := hW.newRow (id := (t, 0)) hid hio ⟨e, sz, List.replicate n (z.cells.toList.map ofConst), false⟩ (w.alloc (.cells (madeCells z.cells (n * sz)) e)) (madeCells z.cells (n * sz)) n rfl rfl rfl rfl
    (size_madeCells _ _) hmax (by simp) hsz (fun i' el' hi' => by
      rw [List.getElem?_replicate] at hi'
      split at hi'
      · rename_i hin
        injection hi' with hi'
        subst hi'
        refine ⟨by simp [hzs], fun j u hu => ?_⟩
        have hj : j < sz := by have := (List.getElem?_eq_some_iff.1 hu).1; simpa [hzs] using this
        rw [List.getElem?_map, Option.map_eq_some_iff] at hu
        obtain ⟨v, hv, rfl⟩ := hu
        have hvm := List.all_eq_true.1 hpure _ (List.mem_map_of_mem (List.mem_of_getElem? hv))
        have hlt : i' * sz + j < n * sz := by
          have : (i' + 1) * sz ≤ n * sz := Nat.mul_le_mul_right _ hin
          rw [Nat.add_mul] at this; omega
        refine ⟨v, ?_, ofConst_one hvm, rep_pure (ρ := ρ) (M := M) rep_ofConst hvm⟩
        rw [Array.getElem?_toList] at hv
        have hmod : (i' * sz + j) % z.cells.size = j := by rw [hzs, Nat.mul_comm, Nat.mul_add_mod, Nat.mod_eq_of_lt hj]
        have hrg : (Array.range (n * sz))[i' * sz + j]? = some (i' * sz + j) := by simp [hlt]
        have hbang : z.cells[j]! = v := by rw [getElem!_def, hv]
        simp only [madeCells, Nat.zero_add, Array.getElem?_map, hrg, Option.map_some, hmod, hbang]
      · cases hi')
  refine ⟨_, _, .slice (some ⟨w.heap.size, 0, none⟩) n n, .inl ?_, T1, W1, (rep_osl (r := ⟨e, sz, List.replicate n (z.cells.toList.map ofConst), false⟩) (by simp [Mem.upds, Mem.set])).2 ?_⟩
  · simp only [execOp, ho, rep_int.1 hl, rep_int.1 hc, Sem.run_bind, hrun, Result.andThen_ok, Sem.run_pure]
  · simp only [setAt, if_true]
    exact ⟨_, n, rfl, by simp, Nat.le_refl _, hmax, fun _ => ⟨by simp, _, heap_alloc_new w _, by simp [size_madeCells]⟩⟩
theorem step_makeFunc (hW : WRel G ρ w0 X M w) (hV : ∀ t, Rep ρ w (Stab G ρ M w) M (a.tmps.getD t undef) (V t)) {fn : Fn} {fi ca : Array Operand} (ho : o.op = .makeFunc fn fi ca)
    (h : OpStep P o.dst (.makeFunc fn fi ca) V M f) : OpRes P a o G ρ w0 X M w f := by
  obtain ⟨g, rfl, rfl⟩ := h
  refine OpRes.quiet hW (v := .func (.func g) (fi.map a.eval) (ca.map a.eval)) ?_ (rep_fn.2 ⟨_, _, rfl, comps_map hV fi, comps_map hV ca⟩)
  simp [execOp, ho, Instr.makeFunc]
theorem src_step (hW : WRel G ρ w0 X M w) {v : Value} {x : PV} {sz : Nat} {news : List (List PV)} {rd : List Id} (hsz : 0 < sz) (h : SrcStep M x sz news rd) (hx : Rep ρ w (Stab G ρ M w) M v x) : Src ρ w (Stab G ρ M w) v sz news := by
  rcases h with ⟨rfl, _⟩ | ⟨id, o, n, r, rfl, hM, hb, rfl, rfl, _⟩ | ⟨rfl, rfl, _⟩
  · exact src_list hsz hx
  · exact (src_osl hW hM hb hsz hx).1
  · exact src_nil hx
theorem osl_given0 {v : Value} {M' : Mem} (hW : WRel G ρ w0 X M w) {id : Id} {ty : TypeId} {sz : Nat} {es : List (List PV)} (hM : M id = some (some ⟨ty, sz, es, false⟩)) (hio : id.1 ≠ io)
    (hsub : ∀ b, Stab G ρ M w b → Stab G ρ M' w b) (hoff : ∀ id' r, M' id' = some (some r) → M id' = some (some r) ∧ id' ≠ id) {N : Mem}
    (h : Rep ρ w (Stab G ρ M w) M v (.osl id 0 es.length)) : Rep ρ w (Stab G ρ M' w) N v (.list sz es) := by
  obtain ⟨a, cap, rfl, h1, h2, h3⟩ := osl_cells hW hM rfl h
  refine rep_list.2 ⟨a, cap, rfl, h1, fun hne => ?_⟩
  obtain ⟨b, z, hρ, rfl, g⟩ := h3 (List.length_pos_iff.2 hne)
  refine ⟨_, rfl, ⟨hW.lt hM hρ, fun id' r z' hM' hρ' => ?_, ?_⟩, fun i e hi => ?_⟩
  · obtain ⟨g1, g2⟩ := hoff id' r hM'
    exact g2 (hW.inj _ _ _ _ _ _ _ g1 hM hρ' hρ)
  · have := hW.new id _ hM
    rw [if_neg hio] at this
    exact hW.good b (this b z hρ)
  · have hi' : ((es.drop 0).take es.length)[i]? = some e := by rw [List.drop_zero, List.take_length]; exact hi
    obtain ⟨k1, k2⟩ := g i e hi'
    refine ⟨k1, fun j u hu => ?_⟩
    obtain ⟨c, m1, m2, m3⟩ := k2 j u hu
    exact ⟨c, m1, m2, m3.pureMono fun b hb => ⟨hsub b hb, rfl⟩⟩
theorem step_buildSlice (hW : WRel G ρ w0 X M w) (hV : ∀ t, Rep ρ w (Stab G ρ M w) M (a.tmps.getD t undef) (V t)) {T : TypeId} {n : Nat} {parts : Array (Nat × Operand)} (ho : o.op = .buildSlice T n parts)
    (h : OpStep P o.dst (.buildSlice T n parts) V M f) : OpRes P a o G ρ w0 X M w f := by
  obtain ⟨t, e, sz, by_, _, hio, hid, hT, hsz, hmax, hfst, hps, rfl | rfl⟩ := h
  · exact step_buildSliceO hW hV ho hio hid hT hsz hmax hfst hps
  · obtain ⟨ρ', w', v, hx, T1, W1, R1⟩ := step_buildSliceO hW hV ho hio hid hT hsz hmax hfst hps
    have hl : (M.upds [((t, 0), some ⟨e, sz, parts.toList.map fun p => (ev V p.2).cells, false⟩)]) (t, 0) = some (some ⟨e, sz, parts.toList.map fun p => (ev V p.2).cells, false⟩) := by simp [Mem.upds, Mem.set]
    obtain ⟨T2, W2⟩ := W1.dead hl
    have hM : (M.upds [((t, 0), some ⟨e, sz, parts.toList.map fun p => (ev V p.2).cells, false⟩)]).set (t, 0) none = M.upds [((t, 0), none)] := by
      funext id
      simp only [Mem.upds, Mem.set]
      split <;> rfl
    rw [hM] at T2 W2
    have hpl : n = (parts.toList.map fun p => (ev V p.2).cells).length := by have := congrArg List.length hfst; simpa using this.symm
    refine ⟨ρ', w', v, hx, T1.trans T2, W2, ?_⟩
    have R2 : Rep ρ' w' (Stab G ρ' (M.upds [((t, 0), some ⟨e, sz, parts.toList.map fun p => (ev V p.2).cells, false⟩)]) w') (M.upds [((t, 0), some ⟨e, sz, parts.toList.map fun p => (ev V p.2).cells, false⟩)]) v (.osl (t, 0) 0 (parts.toList.map fun p => (ev V p.2).cells).length) := by rw [← hpl]; exact R1
    exact osl_given0 W1 hl hio (fun b hb => (T2.stab b hb).1) (fun id' r hr => by
      simp only [Mem.upds, Mem.set] at hr ⊢
      split at hr
      · cases hr
      · rename_i hne
        rw [if_neg hne]
        exact ⟨hr, hne⟩) R2
theorem step_call (hW : WRel G ρ w0 X M w) (hV : ∀ t, Rep ρ w (Stab G ρ M w) M (a.tmps.getD t undef) (V t)) {c : Call} (ho : o.op = .call c)
    (h : CallStep P o.dst c V M f) : OpRes P a o G ρ w0 X M w f := by
  have hres : ∀ (b : Builtin) (v : Value) (w' : World), c.callee = .builtin b → (builtin b c.argTypes o.type (c.args.map fun | .const _ => true | _ => false) (c.args.map a.eval)).run P w = .ok (.value v) w' →
      (execOp a.eval o).run P w = .ok (.value v) w' := by
    intro b v w' hb hrun
    simp only [execOp, ho, resolve, hb, Sem.run_bind, Sem.run_pure, Result.andThen_ok, invoke]
    exact hrun
  unfold CallStep at h
  split at h
  · rename_i hb
    obtain ⟨x, T, n, rd, ea, eT, rfl, ⟨e, hT, hh⟩ | ⟨hT, s, ex, hn⟩⟩ := h
    · have hx := rep_ev hV x
      have : ∃ b cc, a.eval x = .slice b n cc := by
        rcases hh with ⟨sz, es, ex, rfl⟩ | ⟨id, of, r, ex, hM, _⟩ | ⟨ex, rfl⟩
        · rw [ex] at hx
          obtain ⟨b, cc, h1, _⟩ := rep_list.1 hx
          exact ⟨b, cc, h1⟩
        · rw [ex] at hx
          have h1 := (rep_osl hM).1 hx
          cases hρ : ρ id with
          | none => simp only [OslOk, hρ] at h1; exact ⟨none, 0, by rw [h1.1, h1.2.2]⟩
          | some bz =>
            obtain ⟨b, z⟩ := bz
            simp only [OslOk, hρ] at h1
            obtain ⟨ad, cap, h2, _⟩ := h1
            exact ⟨some ad, cap, h2⟩
        · rw [ex] at hx
          exact ⟨none, 0, rep_nil.1 hx⟩
      obtain ⟨b, cc, hv⟩ := this
      refine OpRes.quiet hW (v := .int .i64 n) (hres _ _ _ hb ?_) (rep_int.2 rfl)
      simp [builtin, Builtin.len_, ea, eT, hv, run_underlying hT, goInt]
    · have hx := rep_ev hV x
      rw [ex] at hx
      refine OpRes.quiet hW (v := .int .i64 n) (hres _ _ _ hb ?_) (rep_int.2 rfl)
      simp [builtin, Builtin.len_, ea, eT, rep_str.1 hx, run_underlying hT, goInt, hn]
  · rename_i hb
    obtain ⟨s, x, T, t, e, sz, by_, news, rd, ea, eT, _, hio, hid, hT, hsz, hsrc, hh⟩ := h
    have hs := rep_ev hV s
    have hx := src_step hW hsz hsrc (rep_ev hV x)
    rcases hh with ⟨es, h63, hby, rfl⟩ | ⟨id, of, n, r, es, hM, hbx, rfl, rfl, hidio, hon, h63, hby, rfl⟩
    · rw [es] at hs
      obtain ⟨ρ', w', v', e1, e2, e3, e4⟩ := append_nil hT hsz hW hx (id' := (t, 0)) hid hio o.type h63 hby
      refine ⟨ρ', w', v', .inl (hres _ _ _ hb ?_), e2, e3, e4⟩
      simp only [builtin, ea, eT, List.map_toArray, List.map_cons, List.map_nil, rep_nil.1 hs, Sem.run_bind, e1, Result.andThen_ok, Sem.run_pure]
    · rw [es] at hs
      obtain ⟨ρ', w', v', e1, e2, e3, e4⟩ := append_own hW hM hbx hT hsz hidio hs hon hx (id' := (t, 0)) hid hio o.type h63 hby
      refine ⟨ρ', w', v', .inl (hres _ _ _ hb ?_), e2, e3, e4⟩
      simp only [builtin, ea, eT, List.map_toArray, List.map_cons, List.map_nil, Sem.run_bind, e1, Result.andThen_ok, Sem.run_pure]
  · rename_i hb
    obtain ⟨x, y, k, m, n, ea, ex, ey, rfl⟩ := h
    have hx := rep_ev hV x
    have hy := rep_ev hV y
    rw [ex] at hx
    rw [ey] at hy
    refine OpRes.quiet hW (v := .int k _) (hres _ _ _ hb ?_) (rep_int.2 rfl)
    simp only [builtin, ea, List.map_toArray, List.map_cons, List.map_nil, rep_int.1 hx, rep_int.1 hy, Sem.run_bind, run_max_int2, Result.andThen_ok, Sem.run_pure]
  · rename_i hb
    obtain ⟨x, y, k, m, n, ea, ex, ey, rfl⟩ := h
    have hx := rep_ev hV x
    have hy := rep_ev hV y
    rw [ex] at hx
    rw [ey] at hy
    refine OpRes.quiet hW (v := .int k _) (hres _ _ _ hb ?_) (rep_int.2 rfl)
    simp only [builtin, ea, List.map_toArray, List.map_cons, List.map_nil, rep_int.1 hx, rep_int.1 hy, Sem.run_bind, run_min_int2, Result.andThen_ok, Sem.run_pure]
  · exact h.elim
theorem op_sound (hW : WRel G ρ w0 X M w) (hV : ∀ t, Rep ρ w (Stab G ρ M w) M (a.tmps.getD t undef) (V t)) (h : OpStep P o.dst o.op V M f) : OpRes P a o G ρ w0 X M w f := by
  cases ho : o.op <;> rw [ho] at h
  case move x => subst h; exact OpRes.quiet hW (by simp [execOp, ho]) (rep_ev hV x)
  case assign x => subst h; exact OpRes.quiet hW (by simp [execOp, ho]) (rep_ev hV x)
  case pick c x y =>
    obtain ⟨t, ec, rfl⟩ := h
    have hc := rep_ev hV c
    rw [ec] at hc
    refine OpRes.quiet hW (v := if t then a.eval x else a.eval y) (by simp [execOp, ho, rep_bool.1 hc, asBool]) ?_
    cases t
    · exact rep_ev hV y
    · exact rep_ev hV x
  case nilCheck x =>
    have hx := rep_ev hV x
    rcases h with ⟨us, e, rfl⟩ | ⟨id, i, off, r, e, hM, rfl⟩ | ⟨g, p, q, e, rfl⟩
    · rw [e] at hx
      obtain ⟨ad, ex, _⟩ := rep_ptr.1 hx
      exact OpRes.quiet hW (v := a.eval x) (by simp [execOp, ho, ex]) hx
    · rw [e] at hx
      have h1 := (rep_own hM).1 hx
      cases hρ : ρ id with
      | none => simp [OwnOk, hρ] at h1
      | some bz =>
        obtain ⟨b, z⟩ := bz
        simp only [OwnOk, hρ] at h1
        exact OpRes.quiet hW (v := a.eval x) (by simp [execOp, ho, h1]) hx
    · rw [e] at hx
      obtain ⟨p', q', ex, _⟩ := rep_fn.1 hx
      exact OpRes.quiet hW (v := a.eval x) (by simp [execOp, ho, ex]) hx
  case extract x i =>
    obtain ⟨vs, u, e, hu, rfl⟩ := h
    have hx := rep_ev hV x
    rw [e] at hx
    obtain ⟨cs, ex, hc⟩ := rep_tuple.1 hx
    obtain ⟨c, h1, h2⟩ := hc.2 i u hu
    exact OpRes.quiet hW (v := c) (by simp [execOp, ho, ex, Instr.extract, h1]) h2
  case binOp op T x y yT => obtain ⟨r, hr, rfl⟩ := h; exact step_bin hW hV ho hr
  case unOp u T x =>
    have hx := rep_ev hV x
    rcases h with ⟨b, rfl, e, rfl⟩ | ⟨k, n, rfl, e, rfl⟩
    · rw [e] at hx
      exact OpRes.quiet hW (v := .bool (!b)) (by simp [execOp, ho, rep_bool.1 hx, Op.unary]) (rep_bool.2 rfl)
    · rw [e] at hx
      exact OpRes.quiet hW (v := .int k (k.wrap (0 - n))) (by simp [execOp, ho, rep_int.1 hx, Op.unary, Op.intArith]) (rep_int.2 rfl)
  case convert s d x =>
    have hx := rep_ev hV x
    rcases h with ⟨k, k', n, ds, hs, hd, e, rfl⟩ | ⟨id, of, n, r, bs, el, hs, he, hd, e, hM, hbx, hsz, hn, hes, rfl⟩
    · rw [e] at hx
      exact OpRes.quiet hW (v := .int k (k.wrap n)) (by simp [execOp, ho, rep_int.1 hx, convert, run_underlying hs, run_underlying hd, Conv.intToInt]) (rep_int.2 rfl)
    · rw [e] at hx
      obtain ⟨ad, cap, hv, h1, h2, h3⟩ := osl_cells hW hM hbx hx
      obtain ⟨b, z, hρ, rfl, g⟩ := h3 hn
      have hbl : bs.length = n := by
        have := congrArg List.length hes
        rw [List.length_take, List.length_drop, bytesL, List.length_map] at this
        omega
      have hl : (loadCells ⟨b, z + of * r.sz, none⟩ n).run P w = .ok ((bs.map (Value.int .u8)).toArray) w := by
        have := run_loadCells_list (P := P) w ⟨b, z + of * r.sz, none⟩ (bs.map (Value.int .u8)) (fun j v hj => by
          rw [List.getElem?_map] at hj
          cases hb : bs[j]? with
          | none => rw [hb] at hj; cases hj
          | some m =>
            rw [hb] at hj
            injection hj with hj
            subst hj
            obtain ⟨_, hc⟩ := g j [PV.int .u8 m] (by rw [hes, bytesL, List.getElem?_map, hb]; rfl)
            obtain ⟨c, c1, _, c3⟩ := hc 0 (PV.int .u8 m) rfl
            rw [rep_int.1 c3, hsz] at c1
            simpa [Addr.add, hsz] using c1)
        rwa [List.length_map, hbl] at this
      refine OpRes.quiet hW (v := .string (strB bs)) ?_ (rep_str.2 rfl)
      have hrun := run_convert_bytes_string (P := P) w s d el (some ⟨b, z + of * r.sz, none⟩) n cap hs he hd
      rw [run_bytesToString w _ n cap bs hl] at hrun
      simp only [execOp, ho, hv, Sem.run_bind, hrun, Result.andThen_ok, Sem.run_pure, strB]
  case box T x => exact step_box hW hV ho h
  case alloc T => exact step_alloc hW ho h
  case build T ps => exact step_build hW hV ho h
  case buildSlice T n ps => exact step_buildSlice hW hV ho h
  case load T x => exact step_load hW hV ho h
  case store T x y => exact step_store hW hV ho h
  case fieldAddr T x i => exact step_fieldAddr hW hV ho h
  case indexAddr T x i => exact step_indexAddr hW hV ho h
  case index T x i => exact step_index hW hV ho h
  case slice T x lo hi mx => exact step_slice hW hV ho h
  case makeFunc fn fi ca => exact step_makeFunc hW hV ho h
  case makeSlice T l c => exact step_makeSlice hW hV ho h
  case call c => exact step_call hW hV ho h
  all_goals exact h.elim
end
end Go.Vs
set_option linter.unusedVariables false
set_option linter.unusedSimpArgs false
namespace Go.Vs
def ioMem (ios : List Row) : Mem := fun id => if id.1 = io then (ios[id.2]?).map some else none
def refsD : Nat → List Id → PV → Bool
  | 0, _, _ => false
  | d + 1, ids, x => match x with
    | .own id _ _ => ids.any fun k => Nat.beq k.1 id.1 && Nat.beq k.2 id.2
    | .osl id _ _ => ids.any fun k => Nat.beq k.1 id.1 && Nat.beq k.2 id.2
    | .agg xs => xs.all (refsD d ids)
    | .tuple xs => xs.all (refsD d ids)
    | .fn _ a b => a.all (refsD d ids) && b.all (refsD d ids)
    | _ => true
def subD : Nat → (Id → Id) → PV → PV
  | 0, _, x => x
  | d + 1, f, x => match x with
    | .own id i off => .own (f id) i off
    | .osl id o n => .osl (f id) o n
    | .agg xs => .agg (xs.map (subD d f))
    | .tuple xs => .tuple (xs.map (subD d f))
    | .fn g a b => .fn g (a.map (subD d f)) (b.map (subD d f))
    | x => x
def AllR (R : PV → PV → Prop) : List PV → List PV → Prop
  | [], [] => True
  | x :: xs, y :: ys => R x y ∧ AllR R xs ys
  | _, _ => False
def SemTo (p : (Nat → Prop) → World → Value → Prop) (y : PV) : Prop := ∀ (w : World) (B : Nat → Prop) (v : Value), v.oneCell' = true → (∀ w' : World, (∀ b, B b → w'.heap[b]? = w.heap[b]?) → p B w' v) → Rep (fun _ => none) w B noMem v y
def SnapD : Nat → Mem → List Id → List Id → PV → PV → Prop
  | 0, _, _, _, _, _ => False
  | d + 1, M, ids, rd, x, y => match x, y with
    | .sem p, y => SemTo p y
    | .any, .any => True
    | .int k n, .int k' n' => k = k' ∧ n = n'
    | .bool b, .bool b' => b = b'
    | .str s, .str s' => s = s'
    | .nil, .nil => True
    | .nil, .list _ es => es = []
    | .list sz es, .list sz' es' => es = es' ∧ (sz = sz' ∨ es = [])
    | .ptr cs, .ptr cs' => cs = cs'
    | .agg xs, .agg ys => AllR (SnapD d M ids rd) xs ys
    | .fn f a b, .fn f' a' b' => f = f' ∧ AllR (SnapD d M ids rd) a a' ∧ AllR (SnapD d M ids rd) b b'
    | .osl id o n, .list sz es => id ∈ rd ∧ ∃ r, M id = some (some r) ∧ r.bx = false ∧ r.sz = sz ∧ es = (r.es.drop o).take n
    | .own id i off, .ptr cs => id ∈ rd ∧ ∃ r e, M id = some (some r) ∧ r.es[i]? = some e ∧ AllR (SnapD d M [] rd) (e.drop off) cs
    | .osl id o n, .osl id' o' n' => id'.1 = io ∧ ids[id'.2]? = some id ∧ o = o' ∧ n = n'
    | .own id i off, .own id' i' off' => id'.1 = io ∧ ids[id'.2]? = some id ∧ i = i' ∧ off = off'
    | _, _ => False
section
variable {P : Program} {G : Nat → Prop} {ρ ρ' : Id → Option (Nat × Nat)} {w0 w : World} {X : List (Option (Nat × Nat))} {M M' : Mem} {S' : Nat → Prop}
theorem allR_comps {R : PV → PV → Prop} {S : Nat → Prop} (hR : ∀ x y v, R x y → Rep ρ w S M v x → Rep ρ' w S' M' v y) : ∀ (xs ys : List PV), AllR R xs ys → xs.length = ys.length ∧
    ∀ (j : Nat) y, ys[j]? = some y → ∃ x, xs[j]? = some x ∧ R x y
  | [], [], _ => ⟨rfl, fun j y h => by simp at h⟩
  | x :: xs, y :: ys, h => by
    obtain ⟨h1, h2⟩ := allR_comps hR xs ys h.2
    refine ⟨by simp [h1], fun j z hz => ?_⟩
    cases j with
    | zero => simp at hz; subst hz; exact ⟨x, rfl, h.1⟩
    | succ j => exact h2 j z (by simpa using hz)
  | [], _ :: _, h => h.elim
  | _ :: _, [], h => h.elim
theorem comps_snap {R : PV → PV → Prop} {S : Nat → Prop} (hR : ∀ x y v, R x y → Rep ρ w S M v x → Rep ρ' w S' M' v y) {xs ys : List PV} (h : AllR R xs ys) {cs : Array Value} (hc : Comps ρ w S M cs xs) : Comps ρ' w S' M' cs ys := by
  obtain ⟨h1, h2⟩ := allR_comps hR xs ys h
  refine ⟨hc.1.trans h1, fun j y hy => ?_⟩
  obtain ⟨x, hx, hr⟩ := h2 j y hy
  obtain ⟨c, k1, k2⟩ := hc.2 j x hx
  exact ⟨c, k1, hR _ _ _ hr k2⟩
theorem snap_sound (hW : WRel G ρ w0 X M w) (hS : ∀ b, Stab G ρ M w b → S' b) {rd : List Id} (hId : ∀ id ∈ rd, ∀ r b z, M id = some (some r) → ρ id = some (b, z) → S' b) :
    ∀ (d : Nat) (ids : List Id) (M' : Mem) (ρ' : Id → Option (Nat × Nat)), (∀ k id, ids[k]? = some id → ∃ r r', M id = some (some r) ∧ M' (io, k) = some (some r') ∧ r'.sz = r.sz ∧ r'.ty = r.ty ∧ r'.es.length = r.es.length ∧ ρ' (io, k) = ρ id) →
      ∀ x y v, SnapD d M ids rd x y → Rep ρ w (Stab G ρ M w) M v x → Rep ρ' w S' M' v y := by
  intro d
  induction d with
  | zero => intro _ _ _ _ x y v h; exact h.elim
  | succ d ih =>
    intro ids M' ρ' hio x y v h hx
    have hpure : ∀ {v x}, Rep ρ w (Stab G ρ M w) noMem v x → Rep ρ' w S' M' v x := fun h => h.pureMono fun b hb => ⟨hS b hb, rfl⟩
    by_cases hin : ∃ p, x = .sem p
    · obtain ⟨p, rfl⟩ := hin
      simp only [SnapD] at h
      obtain ⟨h0, B, h1, h2⟩ := rep_sem.1 hx
      exact (h w B v h0 h2).pureMono fun b hb => ⟨hS b (h1 b hb), rfl⟩
    have hni : ∀ p, x ≠ .sem p := fun p e => hin ⟨p, e⟩
    cases x <;> cases y <;> (try exact absurd rfl (hni _)) <;> simp only [SnapD] at h
    case any.any => exact rep_any
    case int.int => obtain ⟨rfl, rfl⟩ := h; exact rep_int.2 (rep_int.1 hx)
    case bool.bool => subst h; exact rep_bool.2 (rep_bool.1 hx)
    case str.str => subst h; exact rep_str.2 (rep_str.1 hx)
    case nil.nil => exact rep_nil.2 (rep_nil.1 hx)
    case nil.list =>
      subst h
      exact rep_list.2 ⟨none, 0, by simpa using rep_nil.1 hx, Nat.le_refl _, fun h => absurd rfl h⟩
    case agg.agg xs ys =>
      obtain ⟨cs, rfl, hc⟩ := rep_agg.1 hx
      exact rep_agg.2 ⟨cs, rfl, comps_snap (ih ids M' ρ' hio) h hc⟩
    case fn.fn =>
      obtain ⟨rfl, h1, h2⟩ := h
      obtain ⟨a, b, rfl, c1, c2⟩ := rep_fn.1 hx
      exact rep_fn.2 ⟨a, b, rfl, comps_snap (ih ids M' ρ' hio) h1 c1, comps_snap (ih ids M' ρ' hio) h2 c2⟩
    case list.list sz es sz' es' =>
      obtain ⟨rfl, h⟩ := h
      obtain ⟨a, cap, e, hcap, hc⟩ := rep_list.1 hx
      refine rep_list.2 ⟨a, cap, e, hcap, fun hne => ?_⟩
      rcases h with rfl | h
      · obtain ⟨ad, e1, e2, e3⟩ := hc hne
        exact ⟨ad, e1, hS _ e2, fun i el hi => ⟨(e3 i el hi).1, (e3 i el hi).2.mono (by rw [add_block]; exact e2) fun b hb => ⟨hS b hb, rfl⟩⟩⟩
      · exact absurd h hne
    case ptr.ptr =>
      subst h
      obtain ⟨ad, e, e2, e3⟩ := rep_ptr.1 hx
      exact rep_ptr.2 ⟨ad, e, hS _ e2, e3.mono e2 fun b hb => ⟨hS b hb, rfl⟩⟩
    case osl.list id o n sz es =>
      obtain ⟨hrd, r, hM, hb, rfl, rfl⟩ := h
      obtain ⟨a, cap, rfl, h1, h2, h3⟩ := osl_cells hW hM hb hx
      have hl : ((r.es.drop o).take n).length = n := by simp; omega
      refine rep_list.2 ⟨a, cap, by rw [hl], by omega, fun hne => ?_⟩
      have hn : 0 < n := by
        rcases Nat.eq_zero_or_pos n with h0 | h0
        · subst h0; simp at hne
        · exact h0
      obtain ⟨b, z, hρ, rfl, g⟩ := h3 hn
      have hSb := hId id hrd r b z hM hρ
      refine ⟨_, rfl, hSb, fun i el hi => ⟨(g i el hi).1, fun j u hu => ?_⟩⟩
      obtain ⟨c, k1, k2, k3⟩ := (g i el hi).2 j u hu
      exact ⟨c, k1, k2, k3.pureMono fun b hb => ⟨hS b hb, rfl⟩⟩
    case own.ptr id i off cs =>
      obtain ⟨hrd, r, e, hM, he, hall⟩ := h
      obtain ⟨b, z, cur, hρ, rfl, g1, g2, g3, g4, g5, _⟩ := own_cells hW hM he hx
      refine rep_ptr.2 ⟨_, rfl, hId id hrd r b z hM hρ, fun j u hu => ?_⟩
      obtain ⟨_, h2⟩ := allR_comps (ρ := ρ) (ρ' := ρ') (w := w) (M := M) (M' := noMem) (S := Stab G ρ M w) (S' := S') (ih [] noMem ρ' (fun k id hk => by simp at hk)) _ _ hall
      obtain ⟨x, hxj, hr⟩ := h2 j u hu
      rw [List.getElem?_drop] at hxj
      obtain ⟨c, k1, k2, k3⟩ := g5 _ x hxj
      refine ⟨c, ?_, k2, (ih [] noMem ρ (fun k id hk => by simp at hk) x u c hr (repB_M k3)).pureMono fun b hb => ⟨hb, rfl⟩⟩
      rw [add_off, cell_of_row w b _ cur r.ty (0, 0) g1, ← k1]
      congr 1; omega
    case osl.osl id o n id' o' n' =>
      obtain ⟨hid, hk, rfl, rfl⟩ := h
      obtain ⟨r, r', hM, hM', hsz, hty, hlen, hρ⟩ := hio _ _ hk
      have hid' : id' = (io, id'.2) := by rw [← hid]
      rw [hid']
      have h1 := (rep_osl hM).1 hx
      refine (rep_osl hM').2 ?_
      rw [hρ]
      cases hb : ρ id with
      | none => simpa [OslOk, hb] using h1
      | some bz =>
        obtain ⟨b, z⟩ := bz
        simp only [OslOk, hb] at h1 ⊢
        rw [hlen, hsz, hty]
        exact h1
    case own.own id i off id' i' off' =>
      obtain ⟨hid, hk, rfl, rfl⟩ := h
      obtain ⟨r, r', hM, hM', hsz, hty, hlen, hρ⟩ := hio _ _ hk
      have hid' : id' = (io, id'.2) := by rw [← hid]
      rw [hid']
      have h1 := (rep_own hM).1 hx
      refine (rep_own hM').2 ?_
      rw [hρ]
      cases hb : ρ id with
      | none => simp [OwnOk, hb] at h1
      | some bz =>
        obtain ⟨b, z⟩ := bz
        simp only [OwnOk, hb] at h1 ⊢
        rw [hsz]
        exact h1
end
def thawL (t : Nat) : Nat → List PV → Nat × List PV × List (Id × Option Row)
  | k, [] => (k, [], [])
  | k, .olist ty sz es :: r => let q := thawL t (k + 1) r; (q.1, .osl (t, k) 0 es.length :: q.2.1, ((t, k), some ⟨ty, sz, es, false⟩) :: q.2.2)
  | k, x :: r => let q := thawL t k r; (q.1, x :: q.2.1, q.2.2)
def thaw1 (t k : Nat) : PV → Nat × PV × List (Id × Option Row)
  | .olist ty sz es => (k + 1, .osl (t, k) 0 es.length, [((t, k), some ⟨ty, sz, es, false⟩)])
  | .agg cs => let q := thawL t k cs; (q.1, .agg q.2.1, q.2.2)
  | x => (k, x, [])
def thawT (t : Nat) : Nat → List PV → Nat × List PV × List (Id × Option Row)
  | k, [] => (k, [], [])
  | k, x :: r => let p := thaw1 t k x; let q := thawT t p.1 r; (q.1, p.2.1 :: q.2.1, p.2.2 ++ q.2.2)
def thaw (t : Nat) : PV → PV × List (Id × Option Row)
  | .tuple vs => let q := thawT t 0 vs; (.tuple q.2.1, q.2.2)
  | x => let q := thaw1 t 0 x; (q.2.1, q.2.2)
def withEs : List Row → List (List (List PV)) → List Row
  | r :: rs, e :: es => { r with es := e } :: withEs rs es
  | _, _ => []
def RetS (G : Nat → Prop) (al : Bool) (ρ : Id → Option (Nat × Nat)) (w0 : World) (M : Mem) (w' : World) (b : Nat) : Prop := Stab G ρ M w' b ∧ (al = false → w0.heap.size ≤ b)
structure RetOk (G : Nat → Prop) (al : Bool) (w0 : World) (X : List (Option (Nat × Nat))) (w' : World) (v : Value) (r : PV) (ios : List Row) (fin : List (List (List PV))) (t : Nat) (ρ : Id → Option (Nat × Nat)) : Prop where
  rel : WRel G ρ w0 X ((ioMem (withEs ios fin)).upds (thaw t r).2) w'
  rows : ∀ id row b z, noMem.upds (thaw t r).2 id = some (some row) → ρ id = some (b, z) → row.bx = false ∧ ∃ cur : Array Value, w'.heap[b]? = some (.cells cur row.ty (0, 0)) ∧
    ∀ (i : Nat) e, row.es[i]? = some e → ∀ (j : Nat) u, e[j]? = some u → ∃ c, cur[z + i * row.sz + j]? = some c ∧ Rep ρ w' (RetS G al ρ w0 ((ioMem (withEs ios fin)).upds (thaw t r).2) w') noMem c u
  val : Rep ρ w' (RetS G al ρ w0 ((ioMem (withEs ios fin)).upds (thaw t r).2) w') (noMem.upds (thaw t r).2) v (thaw t r).1
def Callable (P : Program) (f : FuncId) : Prop := ∃ fn, P.funcs[f]? = some fn ∧ (fn.name == "runtime.NumGoroutine") = false ∧ fn.body.isNone = false
def ContractP (P : Program) (f : FuncId) (al : Bool) (args : List PV) (ios : List Row) (Post : PV → List (List (List PV)) → Prop) : Prop :=
  Callable P f ∧ ∀ (G : Nat → Prop) (w : World) (X : List (Option (Nat × Nat))) (ρ : Id → Option (Nat × Nat)) (cargs : Array Value),
    WRel G ρ w X (ioMem ios) w → X.length = ios.length → Comps ρ w (Stab G ρ (ioMem ios) w) (ioMem ios) cargs args →
    Calls P f cargs w fun e w' => ∃ v r fin, e = .returned v ∧ Post r fin ∧ fin.length = ios.length ∧ (∀ (k : Nat) row f, ios[k]? = some row → fin[k]? = some f → f.length = row.es.length ∧ (row.bx = true → f = row.es)) ∧
      ∀ t, t ≠ io → ∃ ρ', RetOk G al w X w' v r ios fin t ρ'
end Go.Vs
set_option linter.unusedVariables false
set_option linter.unusedSimpArgs false
namespace Go.Vs
def ioUps (M : Mem) : List Id → List (List (List PV)) → List (Id × Option Row)
  | id :: ids, e :: es => (match M id with | some (some r) => [(id, some { r with es := e })] | _ => []) ++ ioUps M ids es
  | _, _ => []
def frzUps (fz : Bool) (rd : List Id) : List (Id × Option Row) := if fz then rd.map fun id => (id, none) else []
def callUps (M : Mem) (t : Nat) (ids rd : List Id) (fz : Bool) (r : PV) (fin : List (List (List PV))) : List (Id × Option Row) :=
  (thaw t r).2 ++ (ioUps M ids fin ++ frzUps fz rd)
def toIds (ids : List Id) : Id → Id := fun id => if id.1 = io then (ids[id.2]?).getD id else id
def ioIds (n : Nat) : List Id := (List.range n).map fun k => (io, k)
def Lend (ids : List Id) (r row : Row) : Prop :=
  (row = { r with bx := false } ∧ (r.bx = false ∨ ∀ e ∈ r.es, e.all PV.pure1 = true)) ∨
  (r.bx = true ∧ row.bx = true ∧ row.ty = r.ty ∧ row.sz = r.sz ∧ r.es = row.es.map (fun e => e.map (subD 5 (toIds ids))) ∧ ∀ e ∈ row.es, ∀ u ∈ e, refsD 5 (ioIds ids.length) u = true)
theorem Lend.facts {ids : List Id} {r row : Row} (h : Lend ids r row) : row.sz = r.sz ∧ row.ty = r.ty ∧ row.es.length = r.es.length := by
  rcases h with ⟨rfl, _⟩ | ⟨_, _, h1, h2, h3, _⟩
  · exact ⟨rfl, rfl, rfl⟩
  · exact ⟨h2, h1, by rw [h3, List.length_map]⟩
def backF (M : Mem) : List Id → List Row → List (List (List PV)) → List (List (List PV))
  | id :: ids, row :: rs, f :: fs => (cond row.bx (match M id with | some (some r) => r.es | _ => f) f) :: backF M ids rs fs
  | _, _, _ => []
theorem backF_at (M : Mem) : ∀ (ids : List Id) (ios : List Row) (fin : List (List (List PV))) (k : Nat) id row e, ids[k]? = some id → ios[k]? = some row → fin[k]? = some e →
    (backF M ids ios fin)[k]? = some (cond row.bx (match M id with | some (some r) => r.es | _ => e) e)
  | i :: ids, r :: rs, f :: fs, k, id, row, e, h1, h2, h3 => by
    cases k with
    | zero =>
      simp only [List.getElem?_cons_zero, Option.some.injEq] at h1 h2 h3
      subst h1; subst h2; subst h3
      rfl
    | succ k =>
      simp only [List.getElem?_cons_succ] at h1 h2 h3
      exact backF_at M ids rs fs k id row e h1 h2 h3
  | [], _, _, k, _, _, _, h1, _, _ => by simp at h1
  | _ :: _, [], _, k, _, _, _, _, h2, _ => by simp at h2
  | _ :: _, _ :: _, [], k, _, _, _, _, _, h3 => by simp at h3
theorem backF_flat (M N : Mem) : ∀ (ids : List Id) (ios : List Row) (fin : List (List (List PV))), ids.length = ios.length → (∀ row ∈ ios, row.bx = false) → ioUps N ids (backF M ids ios fin) = ioUps N ids fin
  | i :: ids, r :: rs, f :: fs, hl, h => by
    simp only [backF, ioUps]
    rw [backF_flat M N ids rs fs (by simpa using hl) (fun row hr => h row (by simp [hr])), h r (by simp)]
    rfl
  | [], [], _, _, _ => by simp [ioUps]
  | [], _ :: _, _, hl, _ => by simp at hl
  | _ :: _, [], _, hl, _ => by simp at hl
  | _ :: _, _ :: _, [], _, _ => by simp [ioUps, backF]
theorem ioIds_any {n : Nat} {id : Id} (h : ((ioIds n).any fun k => Nat.beq k.1 id.1 && Nat.beq k.2 id.2) = true) : id = (io, id.2) ∧ id.2 < n := by
  obtain ⟨k, hk, he⟩ := List.any_eq_true.1 h
  obtain ⟨j, hj, rfl⟩ := List.mem_map.1 hk
  rw [Bool.and_eq_true] at he
  have h1 := Nat.eq_of_beq_eq_true he.1
  have h2 := Nat.eq_of_beq_eq_true he.2
  simp only at h1 h2
  subst h2
  exact ⟨Prod.ext h1.symm rfl, List.mem_range.1 hj⟩
theorem ownOk_same {r r' : Row} {v : Value} {i off : Nat} {ob : Option (Nat × Nat)} (h : r'.sz = r.sz) : OwnOk r v i off ob ↔ OwnOk r' v i off ob := by
  cases ob with
  | none => exact Iff.rfl
  | some bz => obtain ⟨b, z⟩ := bz; simp only [OwnOk, h]
theorem oslOk_same {w : World} {r r' : Row} {v : Value} {o n : Nat} {ob : Option (Nat × Nat)} (h1 : r'.sz = r.sz) (h2 : r'.ty = r.ty) (h3 : r'.es.length = r.es.length) : OslOk w r v o n ob ↔ OslOk w r' v o n ob := by
  cases ob with
  | none => exact Iff.rfl
  | some bz => obtain ⟨b, z⟩ := bz; simp only [OslOk, h1, h2, h3]
theorem rep_ren {f : Id → Id} {ρ ρ' : Id → Option (Nat × Nat)} {w : World} {S S' : Nat → Prop} {M M' : Mem} (ids : List Id)
    (hM : ∀ id, (ids.any fun k => Nat.beq k.1 id.1 && Nat.beq k.2 id.2) = true → ∃ r r', M (f id) = some (some r) ∧ M' id = some (some r') ∧ r'.sz = r.sz ∧ r'.ty = r.ty ∧ r'.es.length = r.es.length ∧ ρ' id = ρ (f id)) :
    ∀ (d : Nat) (x : PV) (v : Value), refsD d ids x = true → ((∀ b, S b → S' b) → Rep ρ w S M v (subD d f x) → Rep ρ' w S' M' v x) ∧ ((∀ b, S' b → S b) → Rep ρ' w S' M' v x → Rep ρ w S M v (subD d f x))
  | 0, _, _, h => by cases h
  | d + 1, x, v, h => by
    have comps : ∀ (xs : List PV) (cs : Array Value), xs.all (refsD d ids) = true → ((∀ b, S b → S' b) → Comps ρ w S M cs (xs.map (subD d f)) → Comps ρ' w S' M' cs xs) ∧ ((∀ b, S' b → S b) → Comps ρ' w S' M' cs xs → Comps ρ w S M cs (xs.map (subD d f))) := fun xs cs ha =>
      ⟨fun hS hc => ⟨by rw [hc.1, List.length_map], fun j u hu => by
        obtain ⟨c, h1, h2⟩ := hc.2 j (subD d f u) (by rw [List.getElem?_map, hu]; rfl)
        exact ⟨c, h1, (rep_ren ids hM d u c (List.all_eq_true.1 ha u (List.mem_of_getElem? hu))).1 hS h2⟩⟩,
       fun hS hc => ⟨by rw [hc.1, List.length_map], fun j u hu => by
        rw [List.getElem?_map] at hu
        obtain ⟨u', hu', rfl⟩ := Option.map_eq_some_iff.1 hu
        obtain ⟨c, h1, h2⟩ := hc.2 j u' hu'
        exact ⟨c, h1, (rep_ren ids hM d u' c (List.all_eq_true.1 ha u' (List.mem_of_getElem? hu'))).2 hS h2⟩⟩⟩
    cases x <;> simp only [refsD] at h <;> simp only [subD]
    case any => exact ⟨fun _ _ => rep_any, fun _ _ => rep_any⟩
    case int => exact ⟨fun _ hx => rep_int.2 (rep_int.1 hx), fun _ hx => rep_int.2 (rep_int.1 hx)⟩
    case bool => exact ⟨fun _ hx => rep_bool.2 (rep_bool.1 hx), fun _ hx => rep_bool.2 (rep_bool.1 hx)⟩
    case str => exact ⟨fun _ hx => rep_str.2 (rep_str.1 hx), fun _ hx => rep_str.2 (rep_str.1 hx)⟩
    case nil => exact ⟨fun _ hx => rep_nil.2 (rep_nil.1 hx), fun _ hx => rep_nil.2 (rep_nil.1 hx)⟩
    case olist => exact ⟨fun _ hx => absurd hx rep_olist, fun _ hx => absurd hx rep_olist⟩
    case sem p => exact ⟨fun hS hx => let ⟨h0, B, h1, h2⟩ := rep_sem.1 hx; rep_sem.2 ⟨h0, B, fun b hb => hS b (h1 b hb), h2⟩, fun hS hx => let ⟨h0, B, h1, h2⟩ := rep_sem.1 hx; rep_sem.2 ⟨h0, B, fun b hb => hS b (h1 b hb), h2⟩⟩
    case clist sz es =>
      have key : ∀ {ρ ρ' : Id → Option (Nat × Nat)} {S S' : Nat → Prop} {M M' : Mem}, (∀ b, S b → S' b) → Rep ρ w S M v (.clist sz es) → Rep ρ' w S' M' v (.clist sz es) := fun {ρ ρ' S S' M M'} hS hx => by
        obtain ⟨hcap, hx⟩ := rep_clist.1 hx
        obtain ⟨a, cap, e, hc, hh⟩ := rep_list.1 hx
        exact rep_clist.2 ⟨hcap, rep_list.2 ⟨a, cap, e, hc, fun hne => let ⟨ad, h1, h2, h3⟩ := hh hne; ⟨ad, h1, hS _ h2, fun i el hi => ⟨(h3 i el hi).1, fun j u hu => let ⟨c, g1, g2, g3⟩ := (h3 i el hi).2 j u hu; ⟨c, g1, g2, g3.pureMono fun b hb => ⟨hS b hb, rfl⟩⟩⟩⟩⟩⟩
      exact ⟨fun hS hx => key hS hx, fun hS hx => key hS hx⟩
    case agg xs =>
      refine ⟨fun hS hx => ?_, fun hS hx => ?_⟩
      · obtain ⟨cs, rfl, hc⟩ := rep_agg.1 hx; exact rep_agg.2 ⟨cs, rfl, (comps xs cs h).1 hS hc⟩
      · obtain ⟨cs, rfl, hc⟩ := rep_agg.1 hx; exact rep_agg.2 ⟨cs, rfl, (comps xs cs h).2 hS hc⟩
    case tuple xs =>
      refine ⟨fun hS hx => ?_, fun hS hx => ?_⟩
      · obtain ⟨cs, rfl, hc⟩ := rep_tuple.1 hx; exact rep_tuple.2 ⟨cs, rfl, (comps xs cs h).1 hS hc⟩
      · obtain ⟨cs, rfl, hc⟩ := rep_tuple.1 hx; exact rep_tuple.2 ⟨cs, rfl, (comps xs cs h).2 hS hc⟩
    case fn g a b =>
      rw [Bool.and_eq_true] at h
      refine ⟨fun hS hx => ?_, fun hS hx => ?_⟩
      · obtain ⟨p, q, rfl, h1, h2⟩ := rep_fn.1 hx; exact rep_fn.2 ⟨p, q, rfl, (comps _ _ h.1).1 hS h1, (comps _ _ h.2).1 hS h2⟩
      · obtain ⟨p, q, rfl, h1, h2⟩ := rep_fn.1 hx; exact rep_fn.2 ⟨p, q, rfl, (comps _ _ h.1).2 hS h1, (comps _ _ h.2).2 hS h2⟩
    case list sz es =>
      have key : ∀ {ρ ρ' : Id → Option (Nat × Nat)} {S S' : Nat → Prop} {M M' : Mem}, (∀ b, S b → S' b) → Rep ρ w S M v (.list sz es) → Rep ρ' w S' M' v (.list sz es) := fun {ρ ρ' S S' M M'} hS hx => by
        obtain ⟨a, cap, e, hc, hh⟩ := rep_list.1 hx
        exact rep_list.2 ⟨a, cap, e, hc, fun hne => let ⟨ad, h1, h2, h3⟩ := hh hne; ⟨ad, h1, hS _ h2, fun i el hi => ⟨(h3 i el hi).1, fun j u hu => let ⟨c, g1, g2, g3⟩ := (h3 i el hi).2 j u hu; ⟨c, g1, g2, g3.pureMono fun b hb => ⟨hS b hb, rfl⟩⟩⟩⟩⟩
      exact ⟨fun hS hx => key hS hx, fun hS hx => key hS hx⟩
    case ptr cs =>
      have key : ∀ {ρ ρ' : Id → Option (Nat × Nat)} {S S' : Nat → Prop} {M M' : Mem}, (∀ b, S b → S' b) → Rep ρ w S M v (.ptr cs) → Rep ρ' w S' M' v (.ptr cs) := fun {ρ ρ' S S' M M'} hS hx => by
        obtain ⟨ad, e, h1, hc⟩ := rep_ptr.1 hx
        exact rep_ptr.2 ⟨ad, e, hS _ h1, fun j u hu => let ⟨c, g1, g2, g3⟩ := hc j u hu; ⟨c, g1, g2, g3.pureMono fun b hb => ⟨hS b hb, rfl⟩⟩⟩
      exact ⟨fun hS hx => key hS hx, fun hS hx => key hS hx⟩
    case own id i off =>
      obtain ⟨r, r', h1, h2, h3, h4, h5, h6⟩ := hM id h
      exact ⟨fun _ hx => (rep_own h2).2 (by rw [h6]; exact (ownOk_same h3).1 ((rep_own h1).1 hx)), fun _ hx => (rep_own h1).2 (by rw [← h6]; exact (ownOk_same h3).2 ((rep_own h2).1 hx))⟩
    case osl id o n =>
      obtain ⟨r, r', h1, h2, h3, h4, h5, h6⟩ := hM id h
      exact ⟨fun _ hx => (rep_osl h2).2 (by rw [h6]; exact (oslOk_same h3 h4 h5).1 ((rep_osl h1).1 hx)), fun _ hx => (rep_osl h1).2 (by rw [← h6]; exact (oslOk_same h3 h4 h5).2 ((rep_osl h2).1 hx))⟩
structure CallOk (M : Mem) (t : Nat) (xs : List PV) (al fz : Bool) (ys : List PV) (ids rd : List Id) (ios : List Row) : Prop where
  tio : t ≠ io
  free : ∀ k, M (t, k) = none
  snap : AllR (SnapD 6 M ids rd) xs ys
  len : ids.length = ios.length
  nodup : ids.Nodup
  lent : ∀ (k : Nat) id row, ids[k]? = some id → ios[k]? = some row → ∃ r, M id = some (some r) ∧ Lend ids r row
  apart : ∀ id ∈ rd, id ∉ ids
  mode : (fz = true ∧ (∀ id ∈ rd, id.1 ≠ io ∧ ∃ r, M id = some (some r)) ∧ rd.Nodup) ∨ (fz = false ∧ al = false ∧ ids = [])
theorem upds_append (M : Mem) (a b : List (Id × Option Row)) : M.upds (a ++ b) = (M.upds b).upds a := by
  induction a with
  | nil => rfl
  | cons p r ih => simp only [List.cons_append, Mem.upds, ih]
theorem upds_other (M : Mem) : ∀ (l : List (Id × Option Row)) (id : Id), (∀ p ∈ l, p.1 ≠ id) → M.upds l id = M id
  | [], _, _ => rfl
  | p :: l, id, h => by
    simp only [Mem.upds, Mem.set]
    rw [if_neg (fun e => h p (by simp) e.symm)]
    exact upds_other M l id fun q hq => h q (by simp [hq])
theorem upds_some {M : Mem} : ∀ (l : List (Id × Option Row)) (id : Id), (∃ p ∈ l, p.1 = id) → M.upds l id = noMem.upds l id ∧ ∃ x, noMem.upds l id = some x
  | [], _, h => by simp at h
  | p :: l, id, h => by
    simp only [Mem.upds, Mem.set]
    by_cases he : id = p.1
    · simp [he]
    · rw [if_neg he, if_neg he]
      exact upds_some l id (by
        obtain ⟨q, hq, e⟩ := h
        rcases List.mem_cons.1 hq with rfl | hq
        · exact absurd e.symm he
        · exact ⟨q, hq, e⟩)
theorem upds_or (M : Mem) (l : List (Id × Option Row)) (id : Id) : (M.upds l id = noMem.upds l id ∧ ∃ x, noMem.upds l id = some x) ∨ (M.upds l id = M id ∧ noMem.upds l id = none) := by
  by_cases h : ∃ p ∈ l, p.1 = id
  · exact .inl (upds_some l id h)
  · have h' : ∀ p ∈ l, p.1 ≠ id := fun p hp e => h ⟨p, hp, e⟩
    exact .inr ⟨upds_other M l id h', upds_other noMem l id h'⟩
theorem thawL_fst (t : Nat) : ∀ (xs : List PV) (k : Nat), ∀ p ∈ (thawL t k xs).2.2, p.1.1 = t
  | [], k, p, h => by simp [thawL] at h
  | x :: r, k, p, h => by
    cases x <;> simp only [thawL] at h <;> first
      | exact thawL_fst t r _ p h
      | (rcases List.mem_cons.1 h with rfl | h
         · rfl
         · exact thawL_fst t r _ p h)
theorem thaw1_fst (t k : Nat) (x : PV) : ∀ p ∈ (thaw1 t k x).2.2, p.1.1 = t := by
  intro p h
  cases x <;> simp only [thaw1] at h <;> first
    | (simp at h; done)
    | exact thawL_fst t _ _ p h
    | (simp at h; subst h; rfl)
theorem thawT_fst (t : Nat) : ∀ (xs : List PV) (k : Nat), ∀ p ∈ (thawT t k xs).2.2, p.1.1 = t
  | [], k, p, h => by simp [thawT] at h
  | x :: r, k, p, h => by
    simp only [thawT] at h
    rcases List.mem_append.1 h with h | h
    · exact thaw1_fst t k x p h
    · exact thawT_fst t r _ p h
theorem thaw_fst (t : Nat) (x : PV) : ∀ p ∈ (thaw t x).2, p.1.1 = t := by
  intro p h
  cases x <;> simp only [thaw] at h <;> first
    | exact thawT_fst t _ _ p h
    | exact thaw1_fst t 0 _ p h
theorem thaw_none {t : Nat} {x : PV} {id : Id} (h : id.1 ≠ t) : noMem.upds (thaw t x).2 id = none :=
  upds_other noMem _ _ fun p hp e => h (by rw [← e]; exact thaw_fst t x p hp)
theorem ioUps_fst (M : Mem) : ∀ (ids : List Id) (fin : List (List (List PV))), ∀ p ∈ ioUps M ids fin, p.1 ∈ ids
  | [], fin, p, h => by simp [ioUps] at h
  | id :: ids, [], p, h => by simp [ioUps] at h
  | id :: ids, e :: es, p, h => by
    simp only [ioUps] at h
    rcases List.mem_append.1 h with h | h
    · split at h
      · simp at h; subst h; simp
      · simp at h
    · exact List.mem_cons_of_mem _ (ioUps_fst M ids es p h)
theorem ioUps_at (N M : Mem) : ∀ (ids : List Id) (fin : List (List (List PV))) (k : Nat) id r e, ids.Nodup → ids[k]? = some id → M id = some (some r) → fin[k]? = some e → N.upds (ioUps M ids fin) id = some (some { r with es := e })
  | [], fin, k, id, r, e, _, h, _, _ => by simp at h
  | i :: ids, [], k, id, r, e, _, _, _, h => by simp at h
  | i :: ids, f :: fin, k, id, r, e, hn, h, hM, hf => by
    simp only [ioUps]
    rw [upds_append]
    cases k with
    | zero =>
      simp at h hf
      subst h hf
      rw [hM]
      simp [Mem.upds, Mem.set]
    | succ k =>
      simp at h hf
      have hne : id ≠ i := fun he => (List.nodup_cons.1 hn).1 (by rw [← he]; exact List.mem_of_getElem? h)
      rw [upds_other _ _ id (by
        intro p hp
        split at hp
        · simp at hp; subst hp; exact fun e => hne e.symm
        · simp at hp)]
      exact ioUps_at N M ids fin k id r e (List.nodup_cons.1 hn).2 h hM hf
theorem withEs_at : ∀ (ios : List Row) (fin : List (List (List PV))) (k : Nat), fin.length = ios.length → (withEs ios fin)[k]? = (ios[k]?).bind fun row => (fin[k]?).map fun e => { row with es := e }
  | [], [], k, _ => by simp [withEs]
  | r :: rs, e :: es, k, h => by
    cases k with
    | zero => simp [withEs]
    | succ k => simpa [withEs] using withEs_at rs es k (by simpa using h)
  | [], _ :: _, k, h => by simp at h
  | _ :: _, [], k, h => by simp at h
theorem nodup_inj : ∀ (l : List Id) (i j : Nat) (x : Id), l.Nodup → l[i]? = some x → l[j]? = some x → i = j
  | [], i, j, x, _, h, _ => by simp at h
  | y :: l, i, j, x, hn, h1, h2 => by
    have hn' := List.nodup_cons.1 hn
    cases i with
    | zero =>
      cases j with
      | zero => rfl
      | succ j =>
        simp at h1 h2
        exact absurd (List.mem_of_getElem? h2) (by rw [← h1]; exact hn'.1)
    | succ i =>
      cases j with
      | zero =>
        simp at h1 h2
        exact absurd (List.mem_of_getElem? h1) (by rw [← h2]; exact hn'.1)
      | succ j => rw [nodup_inj l i j x hn'.2 (by simpa using h1) (by simpa using h2)]
section
variable {P : Program} {G : Nat → Prop} {ρ : Id → Option (Nat × Nat)} {w0 w : World} {X : List (Option (Nat × Nat))} {M : Mem}
theorem freeze_all (hW : WRel G ρ w0 X M w) : ∀ (rd : List Id), (∀ id ∈ rd, ∃ r, M id = some (some r)) → rd.Nodup → Trans G ρ M w ρ (M.upds (rd.map fun id => (id, none))) w ∧ WRel G ρ w0 X (M.upds (rd.map fun id => (id, none))) w
  | [], _, _ => ⟨Trans.refl _ _ _ _, hW⟩
  | id :: rd, h, hn => by
    obtain ⟨T, W⟩ := freeze_all hW rd (fun i hi => h i (by simp [hi])) (List.nodup_cons.1 hn).2
    obtain ⟨r, hr⟩ := h id (by simp)
    have hlive : M.upds (rd.map fun id => (id, none)) id = some (some r) := by
      rw [upds_other _ _ id (by
        intro p hp
        obtain ⟨i, hi, rfl⟩ := List.mem_map.1 hp
        exact fun e => (List.nodup_cons.1 hn).1 (by rw [← e]; exact hi))]
      exact hr
    obtain ⟨T2, W2⟩ := W.dead hlive
    exact ⟨T.trans T2, W2⟩
theorem call_sound (hW : WRel G ρ w0 X M w) {f : FuncId} {cargs : Array Value} {xs ys : List PV} {t : Nat} {al fz : Bool} {ids rd : List Id} {ios : List Row} {Post : PV → List (List (List PV)) → Prop}
    (hc : Comps ρ w (Stab G ρ M w) M cargs xs) (ok : CallOk M t xs al fz ys ids rd ios) (hC : ContractP P f al ys ios Post) :
    Calls P f cargs w fun e w' => ∃ v r fin ρ2, e = .returned v ∧ Post r fin ∧ fin.length = ios.length ∧ Trans G ρ M w ρ2 (M.upds (callUps M t ids rd fz r (backF M ids ios fin))) w' ∧
      WRel G ρ2 w0 X (M.upds (callUps M t ids rd fz r (backF M ids ios fin))) w' ∧ Rep ρ2 w' (Stab G ρ2 (M.upds (callUps M t ids rd fz r (backF M ids ios fin))) w') (M.upds (callUps M t ids rd fz r (backF M ids ios fin))) v (thaw t r).1 := by
  have hidl : ∀ (k : Nat) id, ids[k]? = some id → ∃ r row, M id = some (some r) ∧ ios[k]? = some row ∧ Lend ids r row := by
    intro k id hk
    have hlt : k < ios.length := by rw [← ok.len]; exact (List.getElem?_eq_some_iff.1 hk).1
    obtain ⟨r, h1, h2⟩ := ok.lent k id ios[k] hk (List.getElem?_eq_getElem hlt)
    exact ⟨r, _, h1, List.getElem?_eq_getElem hlt, h2⟩
  have hrdl : ∀ id ∈ rd, fz = true → id.1 ≠ io ∧ ∃ r, M id = some (some r) := by
    intro id hid hfz
    rcases ok.mode with ⟨_, h, _⟩ | ⟨h, _⟩
    · exact h id hid
    · rw [hfz] at h; cases h
  obtain ⟨T1, W1⟩ : Trans G ρ M w ρ (M.upds (frzUps fz rd)) w ∧ WRel G ρ w0 X (M.upds (frzUps fz rd)) w := by
    rcases ok.mode with ⟨rfl, h, hn⟩ | ⟨rfl, _⟩
    · exact freeze_all hW rd (fun id hid => (h id hid).2) hn
    · exact ⟨Trans.refl _ _ _ _, hW⟩
  have hM1 : ∀ id, M.upds (frzUps fz rd) id = (if fz = true ∧ id ∈ rd then some none else M id) := by
    intro id
    cases fz with
    | false => simp [frzUps, Mem.upds]
    | true =>
      simp only [frzUps, if_true, true_and]
      by_cases hid : id ∈ rd
      · rw [if_pos hid]
        have : ∀ l : List Id, id ∈ l → M.upds (l.map fun id => (id, none)) id = some none := by
          intro l
          induction l with
          | nil => intro h; simp at h
          | cons i l ih =>
            intro h
            simp only [List.map_cons, Mem.upds, Mem.set]
            by_cases he : id = i
            · simp [he]
            · rw [if_neg he]
              exact ih (by rcases List.mem_cons.1 h with h | h; exact absurd h he; exact h)
        exact this rd hid
      · rw [if_neg hid]
        exact upds_other _ _ id fun p hp e => hid (by obtain ⟨i, hi, rfl⟩ := List.mem_map.1 hp; rw [← e]; exact hi)
  let ρio : Id → Option (Nat × Nat) := fun id => if id.1 = io then (ids[id.2]?).bind ρ else none
  let G' : Nat → Prop := fun b => fz = false ∨ Stab G ρ (M.upds (frzUps fz rd)) w b ∨ w.heap.size ≤ b ∨ ∃ z, some (b, z) ∈ ids.map ρ
  have hρio : ∀ (k : Nat) id, ids[k]? = some id → ρio (io, k) = ρ id := fun k id hk => by simp [ρio, hk]
  have hiolive : ∀ id row, ioMem ios id = some (some row) → ∃ id' r, id = (io, id.2) ∧ ids[id.2]? = some id' ∧ M id' = some (some r) ∧ Lend ids r row ∧ ρio id = ρ id' := by
    intro id row h
    simp only [ioMem] at h
    split at h
    · rename_i hid
      obtain ⟨row', h1, h2⟩ := Option.map_eq_some_iff.1 h
      injection h2 with h2
      subst h2
      have hlt : id.2 < ids.length := by rw [ok.len]; exact (List.getElem?_eq_some_iff.1 h1).1
      obtain ⟨r, g1, g2⟩ := ok.lent id.2 ids[id.2] row' (List.getElem?_eq_getElem hlt) h1
      have hid' : id = (io, id.2) := by rw [← hid]
      exact ⟨_, r, hid', List.getElem?_eq_getElem hlt, g1, g2, (congrArg ρio hid').trans (hρio _ _ (List.getElem?_eq_getElem hlt))⟩
    · cases h
  have hS : ∀ b, Stab G ρ M w b → Stab G' ρio (ioMem ios) w b := by
    intro b hb
    refine ⟨hb.1, fun id row z hl => ?_, .inr (.inl (T1.stab b hb).1)⟩
    obtain ⟨id', r, _, _, g1, _, g2⟩ := hiolive id row hl
    rw [g2]
    exact hb.2.1 id' r z g1
  have hId : ∀ id ∈ rd, ∀ r b z, M id = some (some r) → ρ id = some (b, z) → Stab G' ρio (ioMem ios) w b := by
    intro id hid r b z hM hρ
    refine ⟨hW.lt hM hρ, fun id2 row z2 hl hh => ?_, ?_⟩
    · obtain ⟨id', r', _, hk, g1, _, g2⟩ := hiolive id2 row hl
      rw [g2] at hh
      have := hW.inj id id' r r' b z z2 hM g1 hρ hh
      exact ok.apart id hid (by rw [this]; exact List.mem_of_getElem? hk)
    · by_cases hfz : fz = true
      · refine .inr (.inl ⟨hW.lt hM hρ, fun id2 r2 z2 hl hh => ?_, ?_⟩)
        · rw [hM1] at hl
          split at hl
          · cases hl
          · rename_i hne
            have := hW.inj id id2 r r2 b z z2 hM hl hρ hh
            exact hne ⟨hfz, by rw [← this]; exact hid⟩
        · have := hW.new id r hM
          rw [if_neg (hrdl id hid hfz).1] at this
          exact hW.good b (this b z hρ)
      · exact .inl (by simpa using hfz)
  have hto : ∀ (k : Nat) id, ids[k]? = some id → toIds ids (io, k) = id := fun k id hk => by simp [toIds, hk]
  have hMio : ∀ id, ((ioIds ids.length).any fun k => Nat.beq k.1 id.1 && Nat.beq k.2 id.2) = true → ∃ r r', M (toIds ids id) = some (some r) ∧ ioMem ios id = some (some r') ∧ r'.sz = r.sz ∧ r'.ty = r.ty ∧ r'.es.length = r.es.length ∧ ρio id = ρ (toIds ids id) := by
    intro id hid
    obtain ⟨h1, h2⟩ := ioIds_any hid
    have hk := List.getElem?_eq_getElem h2
    obtain ⟨r, row, m1, m2, m3⟩ := hidl id.2 _ hk
    have hf := m3.facts
    rw [h1]
    refine ⟨r, row, by rw [hto _ _ hk]; exact m1, by simp [ioMem, m2], hf.1, hf.2.1, hf.2.2, by rw [hto _ _ hk]; exact hρio _ _ hk⟩
  have hentry : WRel G' ρio w (ids.map ρ) (ioMem ios) w := by
    refine ⟨?_, ?_, ?_, ⟨rfl, rfl, rfl, Nat.le_refl _, fun _ _ _ => rfl, fun b cur ty fr h => ⟨cur, h, rfl⟩⟩, fun b hb => .inr (.inr hb), hW.tab.mono fun b hb => ⟨hS b hb, rfl⟩⟩
    · intro i1 i2 r1 r2 b z1 z2 h1 h2 k1 k2
      obtain ⟨j1, q1, e1, l1, m1, _, p1⟩ := hiolive i1 r1 h1
      obtain ⟨j2, q2, e2, l2, m2, _, p2⟩ := hiolive i2 r2 h2
      rw [p1] at k1
      rw [p2] at k2
      have := hW.inj j1 j2 q1 q2 b z1 z2 m1 m2 k1 k2
      subst this
      have h12 : i1.2 = i2.2 := by
        exact nodup_inj ids _ _ _ ok.nodup l1 l2
      rw [e1, e2, h12]
    · intro id row hl
      obtain ⟨id', r, e1, l1, m1, hLd, p1⟩ := hiolive id row hl
      rw [p1]
      have hr := hW.row id' r m1
      rcases hLd with ⟨rfl, hp⟩ | ⟨hb1, hb2, hb3, hb4, hb5, hb6⟩
      · cases hb : ρ id' with
        | none => rw [hb] at hr; exact ⟨hr.1, rfl⟩
        | some bz =>
          obtain ⟨b, z⟩ := bz
          rw [hb] at hr
          obtain ⟨cur, C, g1, g2, g3, g4, g5, g6⟩ := hr
          refine ⟨cur, C, g1, g2, g3, g4, g5, fun i e hi => ⟨(g6 i e hi).1, fun j u hu => ?_⟩⟩
          obtain ⟨c, k1, k2, k3⟩ := (g6 i e hi).2 j u hu
          refine ⟨c, k1, k2, ?_⟩
          have : Rep ρ w (Stab G ρ M w) noMem c u := by
            rcases hp with hp | hp
            · rw [hp] at k3; exact k3
            · exact rep_pure (repB_M k3) (List.all_eq_true.1 (hp e (List.mem_of_getElem? hi)) u (List.mem_of_getElem? hu))
          exact this.pureMono fun b hb => ⟨hS b hb, rfl⟩
      · cases hb : ρ id' with
        | none => rw [hb] at hr; rw [hr.2] at hb1; cases hb1
        | some bz =>
          obtain ⟨b, z⟩ := bz
          rw [hb] at hr
          obtain ⟨cur, C, g1, g2, g3, g4, g5, g6⟩ := hr
          refine ⟨cur, C, by rw [hb3]; exact g1, by rw [hb4]; exact g2, g3, by rw [hb5, List.length_map] at g4; exact g4, by rw [hb4]; exact g5, fun i e hi => ?_⟩
          obtain ⟨q1, q2⟩ := g6 i (e.map (subD 5 (toIds ids))) (by rw [hb5, List.getElem?_map, hi]; rfl)
          refine ⟨by rw [List.length_map] at q1; rw [hb4]; exact q1, fun j u hu => ?_⟩
          obtain ⟨c, k1, k2, k3⟩ := q2 j (subD 5 (toIds ids) u) (by rw [List.getElem?_map, hu]; rfl)
          rw [hb1] at k3
          refine ⟨c, by rw [hb4]; exact k1, k2, ?_⟩
          rw [hb2]
          exact (rep_ren (ioIds ids.length) hMio 5 u c (hb6 e (List.mem_of_getElem? hi) u (List.mem_of_getElem? hu))).1 hS k3
    · intro id row hl
      obtain ⟨id', r, e1, l1, m1, _, p1⟩ := hiolive id row hl
      rw [if_pos (by rw [e1])]
      rw [List.getElem?_map, l1, p1]
      rfl
  have hargs : Comps ρio w (Stab G' ρio (ioMem ios) w) (ioMem ios) cargs ys :=
    comps_snap (snap_sound hW hS hId 6 ids (ioMem ios) ρio (fun k id hk => by
      obtain ⟨r, row, h1, h2, h3⟩ := hidl k id hk
      have hf := h3.facts
      exact ⟨r, row, h1, by simp [ioMem, h2], hf.1, hf.2.1, hf.2.2, hρio k id hk⟩)) ok.snap hc
  refine (hC.2 G' w (ids.map ρ) ρio cargs hentry (by simp [ok.len]) hargs).mono ?_
  rintro e w' ⟨v, r, fin, rfl, hPost, hfl, hfel, hret⟩
  obtain ⟨ρ', hR⟩ := hret t ok.tio
  have hkeep := hR.rel.keep
  let ρ2 : Id → Option (Nat × Nat) := fun id => if id.1 = t then ρ' id else ρ id
  have hM2 : M.upds (callUps M t ids rd fz r (backF M ids ios fin)) = ((M.upds (frzUps fz rd)).upds (ioUps M ids (backF M ids ios fin))).upds (thaw t r).2 := by
    simp only [callUps, upds_append]
  have m2t : ∀ id, id.1 = t → M.upds (callUps M t ids rd fz r (backF M ids ios fin)) id = noMem.upds (thaw t r).2 id := by
    intro id hid
    rw [hM2]
    rcases upds_or ((M.upds (frzUps fz rd)).upds (ioUps M ids (backF M ids ios fin))) (thaw t r).2 id with ⟨h, _⟩ | ⟨h, h2⟩
    · exact h
    · rw [h, h2, upds_other _ _ id, hM1, if_neg, show id = (t, id.2) from by rw [← hid]]
      · exact ok.free _
      · rintro ⟨hfz, hm⟩
        obtain ⟨_, r0, h0⟩ := hrdl id hm hfz
        rw [show id = (t, id.2) from by rw [← hid], ok.free] at h0
        cases h0
      · intro p hp he
        have := ioUps_fst M ids (backF M ids ios fin) p hp
        rw [he] at this
        obtain ⟨k, hk⟩ := List.getElem?_of_mem this
        obtain ⟨r0, _, h0, _⟩ := hidl k id hk
        rw [show id = (t, id.2) from by rw [← hid], ok.free] at h0
        cases h0
  have m2io : ∀ (k : Nat) id, ids[k]? = some id → ∃ r0 row e e2, M id = some (some r0) ∧ ios[k]? = some row ∧ Lend ids r0 row ∧ e.length = row.es.length ∧ e2.length = r0.es.length ∧ id.1 ≠ t ∧
      M.upds (callUps M t ids rd fz r (backF M ids ios fin)) id = some (some { r0 with es := e2 }) ∧
      (ioMem (withEs ios fin)).upds (thaw t r).2 (io, k) = some (some { row with es := e }) ∧ (row.bx = false → e2 = e) ∧ (row.bx = true → e = row.es ∧ e2 = r0.es) := by
    intro k id hk
    obtain ⟨r0, row, h1, h2, h3⟩ := hidl k id hk
    have hlt : k < fin.length := by rw [hfl]; exact (List.getElem?_eq_some_iff.1 h2).1
    have hf : fin[k]? = some fin[k] := List.getElem?_eq_getElem hlt
    have hit : id.1 ≠ t := by
      intro he
      rw [show id = (t, id.2) from by rw [← he], ok.free] at h1
      cases h1
    obtain ⟨hel, hbxr⟩ := hfel k row fin[k] h2 hf
    have hback := backF_at M ids ios fin k id row fin[k] hk h2 hf
    rw [h1] at hback
    simp only at hback
    refine ⟨r0, row, fin[k], cond row.bx r0.es fin[k], h1, h2, h3, hel, ?_, hit, ?_, ?_, fun h => by rw [h]; rfl, fun h => ⟨hbxr h, by rw [h]; rfl⟩⟩
    · cases hb : row.bx
      · simp only [cond_false]; rw [hel, h3.facts.2.2]
      · rfl
    · rw [hM2, upds_other _ (thaw t r).2 id (fun p hp he => hit (by rw [← he]; exact thaw_fst t r p hp))]
      exact ioUps_at _ M ids (backF M ids ios fin) k id r0 _ ok.nodup hk h1 hback
    · rw [upds_other _ (thaw t r).2 _ (fun p hp he => ok.tio (by rw [← thaw_fst t r p hp, he]))]
      simp [ioMem, withEs_at ios fin k hfl, h2, hf]
  have m2old : ∀ id, id.1 ≠ t → id ∉ ids → M.upds (callUps M t ids rd fz r (backF M ids ios fin)) id = (if fz = true ∧ id ∈ rd then some none else M id) := by
    intro id hit hni
    rw [hM2, upds_other _ (thaw t r).2 id (fun p hp he => hit (by rw [← he]; exact thaw_fst t r p hp)), upds_other _ _ id (fun p hp he => hni (by rw [← he]; exact ioUps_fst M ids (backF M ids ios fin) p hp)), hM1]
  have old : ∀ id r2, id.1 ≠ t → M.upds (callUps M t ids rd fz r (backF M ids ios fin)) id = some (some r2) → ∃ r0, M id = some (some r0) ∧ (id ∉ ids → r2 = r0 ∧ (M.upds (frzUps fz rd)) id = some (some r0)) := by
    intro id r2 hit h
    by_cases hi : id ∈ ids
    · obtain ⟨k, hk⟩ := List.getElem?_of_mem hi
      obtain ⟨r0, _, h0, _⟩ := hidl k id hk
      exact ⟨r0, h0, fun hn => absurd hi hn⟩
    · rw [m2old id hit hi] at h
      split at h
      · cases h
      · rename_i hne
        exact ⟨r2, h, fun _ => ⟨rfl, by rw [hM1, if_neg hne]; exact h⟩⟩
  have retT : ∀ id row, id.1 = t → noMem.upds (thaw t r).2 id = some (some row) → (ioMem (withEs ios fin)).upds (thaw t r).2 id = some (some row) := by
    intro id row hid h
    rcases upds_or (ioMem (withEs ios fin)) (thaw t r).2 id with ⟨h1, _⟩ | ⟨_, h2⟩
    · rw [h1]; exact h
    · rw [h2] at h; cases h
  have hXc : ∀ b, (∀ id ∈ ids, ∀ z, ρ id ≠ some (b, z)) → ∀ z, some (b, z) ∉ ids.map ρ := by
    intro b h z hm
    obtain ⟨id, hid, he⟩ := List.mem_map.1 hm
    exact h id hid z he
  have same : ∀ b, b < w.heap.size → (∀ id ∈ ids, ∀ z, ρ id ≠ some (b, z)) → w'.heap[b]? = w.heap[b]? := fun b hb h => hkeep.block b hb (hXc b h)
  have ρio' : ∀ (k : Nat) id, ids[k]? = some id → ρ' (io, k) = ρ id := by
    intro k id hk
    obtain ⟨r0, row, e, e2, _, _, _, _, _, _, _, h7, _⟩ := m2io k id hk
    have := hR.rel.new (io, k) _ h7
    rw [if_pos rfl, List.getElem?_map, hk] at this
    injection this with this
    exact this.symm
  have newT : ∀ id row b z, id.1 = t → noMem.upds (thaw t r).2 id = some (some row) → ρ' id = some (b, z) → w.heap.size ≤ b := by
    intro id row b z hid h hb
    have := hR.rel.new id row (retT id row hid h)
    rw [if_neg (by rw [hid]; exact ok.tio)] at this
    rcases this b z hb with h1 | ⟨z', h1⟩
    · exact h1
    · exfalso
      obtain ⟨id', hid', he⟩ := List.mem_map.1 h1
      obtain ⟨k, hk⟩ := List.getElem?_of_mem hid'
      obtain ⟨r0, row', e, e2, _, _, _, _, _, _, _, h7, _⟩ := m2io k id' hk
      have := hR.rel.inj id (io, k) _ _ b z z' (retT id row hid h) h7 hb (by rw [ρio' k id' hk]; exact he)
      exact ok.tio (by rw [← hid, this])
  have stab2 : ∀ b, Stab G' ρ' ((ioMem (withEs ios fin)).upds (thaw t r).2) w' b → (fz = true ∨ w.heap.size ≤ b) → Stab G ρ2 (M.upds (callUps M t ids rd fz r (backF M ids ios fin))) w' b := by
    intro b hb hmode
    have hG : Stab G ρ (M.upds (frzUps fz rd)) w b ∨ w.heap.size ≤ b := by
      rcases hmode with hm | hm
      · rcases hb.2.2 with h | h | h | ⟨z, h⟩
        · rw [hm] at h; cases h
        · exact .inl h
        · exact .inr h
        · exfalso
          obtain ⟨id', hid', he⟩ := List.mem_map.1 h
          obtain ⟨k, hk⟩ := List.getElem?_of_mem hid'
          obtain ⟨r0, row', e, e2, _, _, _, _, _, _, _, h7, _⟩ := m2io k id' hk
          exact hb.2.1 (io, k) _ z h7 (by rw [ρio' k id' hk]; exact he)
      · exact .inr hm
    refine ⟨hb.1, fun id r2 z hl hh => ?_, ?_⟩
    · by_cases hit : id.1 = t
      · simp only [ρ2, hit, if_true] at hh
        rw [m2t id hit] at hl
        exact hb.2.1 id r2 z (retT id r2 hit hl) hh
      · simp only [ρ2, hit, if_false] at hh
        by_cases hi : id ∈ ids
        · obtain ⟨k, hk⟩ := List.getElem?_of_mem hi
          obtain ⟨r0, row, e, e2, _, _, _, _, _, _, _, h7, _⟩ := m2io k id hk
          exact hb.2.1 (io, k) _ z h7 (by rw [ρio' k id hk]; exact hh)
        · obtain ⟨r0, h0, h1⟩ := old id r2 hit hl
          rcases hG with hG | hG
          · exact hG.2.1 id r0 z (h1 hi).2 hh
          · have := hW.lt h0 hh
            omega
    · rcases hG with hG | hG
      · exact hG.2.2
      · exact hW.good b (.inl (Nat.le_trans hW.keep.size hG))
  have stab1 : ∀ b, Stab G ρ M w b → Stab G ρ2 (M.upds (callUps M t ids rd fz r (backF M ids ios fin))) w' b ∧ w'.heap[b]? = w.heap[b]? := by
    intro b hb
    have hids : ∀ id ∈ ids, ∀ z, ρ id ≠ some (b, z) := fun id hid z => by
      obtain ⟨k, hk⟩ := List.getElem?_of_mem hid
      obtain ⟨r0, _, h0, _⟩ := hidl k id hk
      exact hb.2.1 id r0 z h0
    refine ⟨⟨Nat.lt_of_lt_of_le hb.1 hkeep.size, fun id r2 z hl hh => ?_, hb.2.2⟩, same b hb.1 hids⟩
    by_cases hit : id.1 = t
    · simp only [ρ2, hit, if_true] at hh
      rw [m2t id hit] at hl
      have := newT id r2 b z hit hl hh
      have := hb.1
      omega
    · simp only [ρ2, hit, if_false] at hh
      obtain ⟨r0, h0, _⟩ := old id r2 hit hl
      exact hb.2.1 id r0 z h0 hh
  have T2 : Trans G ρ M w ρ2 (M.upds (callUps M t ids rd fz r (backF M ids ios fin))) w' := by
    refine ⟨stab1, fun id => ?_⟩
    cases hMi : M id with
    | none => trivial
    | some o =>
      have hit : id.1 ≠ t := by
        intro he
        rw [show id = (t, id.2) from by rw [← he], ok.free] at hMi
        cases hMi
      by_cases hi : id ∈ ids
      · obtain ⟨k, hk⟩ := List.getElem?_of_mem hi
        obtain ⟨r0, row, _, e, h0, _, _, _, h2, _, h5, _⟩ := m2io k id hk
        rw [h0] at hMi
        injection hMi with hMi
        subst hMi
        refine .inr ⟨{ r0 with es := e }, h5, rfl, rfl, Nat.le_of_eq h2.symm, by simp [ρ2, hit], fun b z hb cur hcur => ?_⟩
        exact hkeep.shape b cur r0.ty (0, 0) hcur
      · cases o with
        | none =>
          show M.upds (callUps M t ids rd fz r (backF M ids ios fin)) id = some none
          rw [m2old id hit hi, hMi]
          simp
        | some r0 =>
          show M.upds (callUps M t ids rd fz r (backF M ids ios fin)) id = some none ∨ _
          rw [m2old id hit hi, hMi]
          split
          · exact .inl rfl
          · exact .inr ⟨r0, rfl, rfl, rfl, Nat.le_refl _, by simp [ρ2, hit], fun b z hb cur hcur => hkeep.shape b cur r0.ty (0, 0) hcur⟩
  have hmodeR : ∀ b, RetS G' al ρ' w ((ioMem (withEs ios fin)).upds (thaw t r).2) w' b → Stab G ρ2 (M.upds (callUps M t ids rd fz r (backF M ids ios fin))) w' b := by
    intro b hb
    refine stab2 b hb.1 ?_
    rcases ok.mode with ⟨h, _⟩ | ⟨_, h, _⟩
    · exact .inl h
    · exact .inr (hb.2 h)
  refine ⟨v, r, fin, ρ2, rfl, hPost, hfl, T2, ⟨?_, ?_, ?_, ?_, hW.good, hW.tab.mono T2.stab⟩, ?_⟩
  · intro i1 i2 r1 r2 b z1 z2 h1 h2 k1 k2
    by_cases e1 : i1.1 = t <;> by_cases e2 : i2.1 = t
    · simp only [ρ2, e1, e2, if_true] at k1 k2
      rw [m2t _ e1] at h1
      rw [m2t _ e2] at h2
      exact hR.rel.inj i1 i2 r1 r2 b z1 z2 (retT _ _ e1 h1) (retT _ _ e2 h2) k1 k2
    · exfalso
      simp only [ρ2, e1, e2, if_true, if_false] at k1 k2
      rw [m2t _ e1] at h1
      obtain ⟨r0, h0, _⟩ := old i2 r2 e2 h2
      have := newT i1 r1 b z1 e1 h1 k1
      have := hW.lt h0 k2
      omega
    · exfalso
      simp only [ρ2, e1, e2, if_true, if_false] at k1 k2
      rw [m2t _ e2] at h2
      obtain ⟨r0, h0, _⟩ := old i1 r1 e1 h1
      have := newT i2 r2 b z2 e2 h2 k2
      have := hW.lt h0 k1
      omega
    · simp only [ρ2, e1, e2, if_false] at k1 k2
      obtain ⟨q1, h3, _⟩ := old i1 r1 e1 h1
      obtain ⟨q2, h4, _⟩ := old i2 r2 e2 h2
      exact hW.inj i1 i2 q1 q2 b z1 z2 h3 h4 k1 k2
  · intro id r2 hl
    by_cases hit : id.1 = t
    · rw [m2t id hit] at hl
      simp only [ρ2, hit, if_true]
      have hrow := hR.rel.row id r2 (retT id r2 hit hl)
      cases hb : ρ' id with
      | none => rw [hb] at hrow; exact hrow
      | some bz =>
        obtain ⟨b, z⟩ := bz
        rw [hb] at hrow
        obtain ⟨cur, C, g1, g2, g3, g4, g5, g6⟩ := hrow
        obtain ⟨hbx, cur2, q1, q2⟩ := hR.rows id r2 b z hl hb
        rw [g1] at q1
        injection q1 with q1
        injection q1 with q1
        subst q1
        refine ⟨cur, C, g1, g2, g3, g4, g5, fun i e hi => ⟨(g6 i e hi).1, fun j u hu => ?_⟩⟩
        obtain ⟨c, k1, k2, _⟩ := (g6 i e hi).2 j u hu
        obtain ⟨c', k3, k4⟩ := q2 i e hi j u hu
        rw [k1] at k3
        injection k3 with k3
        subst k3
        refine ⟨c, k1, k2, ?_⟩
        rw [hbx]
        exact k4.pureMono fun b hb => ⟨hmodeR b hb, rfl⟩
    · simp only [ρ2, hit, if_false]
      by_cases hi : id ∈ ids
      · obtain ⟨k, hk⟩ := List.getElem?_of_mem hi
        obtain ⟨r0, row, e, e2, h0, h1, hLd, hel, he2, _, h5, h6, hbf, hbt⟩ := m2io k id hk
        rw [h5] at hl
        injection hl with hl
        injection hl with hl
        subst hl
        have hrow := hR.rel.row (io, k) _ h6
        rw [ρio' k id hk] at hrow
        have hfz : fz = true := by
          rcases ok.mode with ⟨h, _⟩ | ⟨_, _, h⟩
          · exact h
          · rw [h] at hi; cases hi
        rcases hLd with ⟨hrw, hp⟩ | ⟨hb1, hb2, hb3, hb4, hb5, hb6⟩
        · have hb0 : row.bx = false := by rw [hrw]
          have := hbf hb0
          subst this
          cases hb : ρ id with
          | none =>
            rw [hb] at hrow
            have hr0 := hW.row id r0 h0
            rw [hb] at hr0
            exact ⟨hrow.1, hr0.2⟩
          | some bz =>
            obtain ⟨b, z⟩ := bz
            rw [hb] at hrow
            obtain ⟨cur, C, g1, g2, g3, g4, g5, g6⟩ := hrow
            rw [hrw] at g1 g2 g5 g6
            refine ⟨cur, C, g1, g2, g3, g4, g5, fun i e' hi' => ⟨(g6 i e' hi').1, fun j u hu => ?_⟩⟩
            obtain ⟨c, k1, k2, k3⟩ := (g6 i e' hi').2 j u hu
            refine ⟨c, k1, k2, ?_⟩
            have k4 : Rep ρ' w' (Stab G' ρ' ((ioMem (withEs ios fin)).upds (thaw t r).2) w') noMem c u := k3
            have k5 : Rep ρ2 w' (Stab G ρ2 (M.upds (callUps M t ids rd fz r (backF M ids ios fin))) w') noMem c u := k4.pureMono fun b hb => ⟨stab2 b hb (.inl hfz), rfl⟩
            cases r0.bx
            · exact k5
            · exact k5.pureMono fun b hb => ⟨hb, rfl⟩
        · obtain ⟨hee, hee2⟩ := hbt hb2
          subst hee
          subst hee2
          have hMx : ∀ id, ((ioIds ids.length).any fun k => Nat.beq k.1 id.1 && Nat.beq k.2 id.2) = true → ∃ r1 r1', (M.upds (callUps M t ids rd fz r (backF M ids ios fin))) (toIds ids id) = some (some r1) ∧
              ((ioMem (withEs ios fin)).upds (thaw t r).2) id = some (some r1') ∧ r1'.sz = r1.sz ∧ r1'.ty = r1.ty ∧ r1'.es.length = r1.es.length ∧ ρ' id = ρ2 (toIds ids id) := by
            intro id1 hid1
            obtain ⟨g1, g2⟩ := ioIds_any hid1
            have hk1 := List.getElem?_eq_getElem g2
            obtain ⟨q0, qr, qe, qe2, n0, n1, nL, n2, n3, nt, n4, n5, _⟩ := m2io id1.2 _ hk1
            have hf := nL.facts
            rw [g1]
            refine ⟨{ q0 with es := qe2 }, { qr with es := qe }, by rw [hto _ _ hk1]; exact n4, n5, hf.1, hf.2.1, by rw [n2, n3]; exact hf.2.2, ?_⟩
            rw [hto _ _ hk1, ρio' _ _ hk1]
            simp only [ρ2, nt, if_false]
          cases hb : ρ id with
          | none =>
            have hr0 := hW.row id r0 h0
            rw [hb] at hr0
            rw [hr0.2] at hb1
            cases hb1
          | some bz =>
            obtain ⟨b, z⟩ := bz
            rw [hb] at hrow
            obtain ⟨cur, C, g1, g2, g3, g4, g5, g6⟩ := hrow
            simp only at g1 g2 g4 g5 g6
            rw [hb3] at g1
            rw [hb4] at g2 g5
            refine ⟨cur, C, g1, g2, g3, by rw [hb5, List.length_map]; exact g4, g5, fun i e' hi' => ?_⟩
            simp only at hi' ⊢
            rw [hb5, List.getElem?_map] at hi'
            obtain ⟨e0, he0, rfl⟩ := Option.map_eq_some_iff.1 hi'
            obtain ⟨q1, q2⟩ := g6 i e0 he0
            refine ⟨by rw [List.length_map, q1, hb4], fun j u hu => ?_⟩
            rw [List.getElem?_map] at hu
            obtain ⟨u0, hu0, rfl⟩ := Option.map_eq_some_iff.1 hu
            obtain ⟨c, k1, k2, k3⟩ := q2 j u0 hu0
            rw [hb4] at k1
            rw [hb2] at k3
            refine ⟨c, k1, k2, ?_⟩
            rw [hb1]
            exact (rep_ren (ioIds ids.length) hMx 5 u0 c (hb6 e0 (List.mem_of_getElem? he0) u0 (List.mem_of_getElem? hu0))).2 (fun b hb => stab2 b hb (.inl hfz)) k3
      · obtain ⟨r0, h0, h1⟩ := old id r2 hit hl
        obtain ⟨rfl, _⟩ := h1 hi
        refine (hW.row id r2 h0).mono T2 fun b z hb => ?_
        refine same b (hW.lt h0 hb) fun id2 hid2 z2 hh => ?_
        obtain ⟨k, hk⟩ := List.getElem?_of_mem hid2
        obtain ⟨r3, _, h3, _⟩ := hidl k id2 hk
        exact hi (by rw [hW.inj id id2 r2 r3 b z z2 h0 h3 hb hh]; exact hid2)
  · intro id r2 hl
    by_cases hit : id.1 = t
    · rw [if_neg (by rw [hit]; exact ok.tio)]
      intro b z hb
      simp only [ρ2, hit, if_true] at hb
      rw [m2t id hit] at hl
      exact .inl (Nat.le_trans hW.keep.size (newT id r2 b z hit hl hb))
    · obtain ⟨r0, h0, _⟩ := old id r2 hit hl
      simp only [ρ2, hit, if_false]
      exact hW.new id r0 h0
  · refine ⟨hkeep.os.trans hW.keep.os, hkeep.tape.trans hW.keep.tape, hkeep.output.trans hW.keep.output, Nat.le_trans hW.keep.size hkeep.size, fun b hb hX => ?_, fun b cur ty fr hb => ?_⟩
    · refine (same b (Nat.lt_of_lt_of_le hb hW.keep.size) fun id hid z hh => ?_).trans (hW.keep.block b hb hX)
      obtain ⟨k, hk⟩ := List.getElem?_of_mem hid
      obtain ⟨r3, _, h3, _⟩ := hidl k id hk
      have := hW.new id r3 h3
      split at this
      · exact hX z (by rw [← hh]; exact List.mem_of_getElem? this)
      · rcases this b z hh with h1 | ⟨z', h1⟩
        · omega
        · exact hX z' h1
    · obtain ⟨c1, k1, k2⟩ := hW.keep.shape b cur ty fr hb
      obtain ⟨c2, k3, k4⟩ := hkeep.shape b c1 ty fr k1
      exact ⟨c2, k3, k4.trans k2⟩
  · refine hR.val.mono (fun b hb => ⟨hmodeR b hb, rfl⟩) fun id => ?_
    cases hMi : noMem.upds (thaw t r).2 id with
    | none => trivial
    | some o =>
      have hit : id.1 = t := by
        by_cases h : id.1 = t
        · exact h
        · rw [thaw_none h] at hMi; cases hMi
      cases o with
      | none => show M.upds (callUps M t ids rd fz r (backF M ids ios fin)) id = some none; rw [m2t id hit, hMi]
      | some row => exact .inr ⟨row, by rw [m2t id hit, hMi], rfl, rfl, Nat.le_refl _, by simp [ρ2, hit], fun b z hb cur hcur => ⟨cur, hcur, rfl⟩⟩
end
end Go.Vs
