/- PLAIN LEMMAS on lists, for the loops: prefixes, sums, filters. No program in sight. -/
import Derived.Test.YtfgdajmcgincoaaVsC
set_option linter.unusedVariables false
set_option linter.unusedSimpArgs false
namespace Go.Vs
section
variable {α β : Type} {xs : List α} {x : α} {i : Nat}
theorem get_ex (h : i < xs.length) : ∃ a, xs[i]? = some a := ⟨xs[i], List.getElem?_eq_getElem h⟩
theorem get_lt (h : xs[i]? = some x) : i < xs.length := (List.getElem?_eq_some_iff.1 h).1
theorem get_mem (h : xs[i]? = some x) : x ∈ xs := List.mem_of_getElem? h
theorem take_succ (h : xs[i]? = some x) : xs.take (i + 1) = xs.take i ++ [x] := by rw [List.take_add_one, h]; rfl
theorem take_all (h : xs.length ≤ i) : xs.take i = xs := List.take_of_length_le h
theorem map_take_succ (f : α → β) (h : xs[i]? = some x) : (xs.take (i + 1)).map f = (xs.take i).map f ++ [f x] := by rw [take_succ h]; simp
theorem filter_take_succ (p : α → Bool) (h : xs[i]? = some x) : (xs.take (i + 1)).filter p = (xs.take i).filter p ++ (if p x then [x] else []) := by
  rw [take_succ h, List.filter_append]
  cases hp : p x <;> simp [hp]
theorem filter_take_t {p : α → Bool} (h : xs[i]? = some x) (hp : p x = true) : (xs.take (i + 1)).filter p = (xs.take i).filter p ++ [x] := by rw [filter_take_succ p h, if_pos hp]
theorem filter_take_f {p : α → Bool} (h : xs[i]? = some x) (hp : p x = false) : (xs.take (i + 1)).filter p = (xs.take i).filter p := by rw [filter_take_succ p h, hp]; simp
theorem all_take_succ {p : α → Prop} (h : xs[i]? = some x) (ha : ∀ y ∈ xs.take i, p y) (hx : p x) : ∀ y ∈ xs.take (i + 1), p y := fun y hy => by
  rw [take_succ h] at hy
  rcases List.mem_append.1 hy with h1 | h1
  · exact ha y h1
  · rw [List.mem_singleton.1 h1]; exact hx
def sumBy (f : α → Int) (l : List α) : Int := (l.map f).sum
theorem sumBy_nil (f : α → Int) : sumBy f [] = 0 := rfl
theorem sumBy_cons (f : α → Int) (a : α) (l : List α) : sumBy f (a :: l) = f a + sumBy f l := by simp [sumBy]
theorem sumBy_app (f : α → Int) (a b : List α) : sumBy f (a ++ b) = sumBy f a + sumBy f b := by simp [sumBy]
theorem sumBy_take_succ (f : α → Int) (h : xs[i]? = some x) : sumBy f (xs.take (i + 1)) = sumBy f (xs.take i) + f x := by rw [take_succ h, sumBy_app]; simp [sumBy]
theorem sumBy_bound (f : α → Int) (B : Int) : ∀ (l : List α), (∀ y ∈ l, 0 ≤ f y ∧ f y ≤ B) → 0 ≤ sumBy f l ∧ sumBy f l ≤ B * l.length
  | [], _ => by simp [sumBy]
  | a :: l, h => by
    obtain ⟨h1, h2⟩ := sumBy_bound f B l fun y hy => h y (List.mem_cons_of_mem _ hy)
    obtain ⟨h3, h4⟩ := h a List.mem_cons_self
    rw [sumBy_cons, List.length_cons]
    constructor
    · omega
    · rw [Int.natCast_add, Int.mul_add]; omega
theorem sumBy_take_le (f : α → Int) (l : List α) (h : ∀ y ∈ l, 0 ≤ f y) (i : Nat) : sumBy f (l.take i) ≤ sumBy f l ∧ 0 ≤ sumBy f (l.take i) := by
  have h0 : ∀ l : List α, (∀ y ∈ l, 0 ≤ f y) → 0 ≤ sumBy f l := by
    intro l
    induction l with
    | nil => intro _; simp [sumBy]
    | cons a l ih => intro hl; rw [sumBy_cons]; have := hl a List.mem_cons_self; have := ih fun y hy => hl y (List.mem_cons_of_mem _ hy); omega
  have h1 := h0 (l.take i) fun y hy => h y (List.mem_of_mem_take hy)
  have h2 := h0 (l.drop i) fun y hy => h y (List.mem_of_mem_drop hy)
  have h3 : sumBy f l = sumBy f (l.take i) + sumBy f (l.drop i) := by rw [← sumBy_app, List.take_append_drop]
  omega
theorem sumBy_congr {f g : α → Int} {l : List α} (h : ∀ y ∈ l, f y = g y) : sumBy f l = sumBy g l := by
  unfold sumBy
  rw [List.map_congr_left h]
/-- Numbers as the cells of a row. -/
@[reducible] def ints (l : List Int) : List (List PV) := l.map fun n => [PV.int .i64 n]
theorem ints_at {l : List Int} {i : Nat} {n : Int} (h : l[i]? = some n) : (ints l)[i]? = some [PV.int .i64 n] := by simp [ints, h]
theorem ints_flat (l : List Int) : ∀ e ∈ ints l, ∀ c ∈ e, c.flat = true := by
  intro e he c hc
  obtain ⟨a, _, rfl⟩ := List.mem_map.1 he
  simp only [List.mem_cons, List.not_mem_nil, or_false] at hc
  rw [hc]
  rfl
theorem ints_len (l : List Int) : (ints l).length = l.length := by simp [ints]
theorem ints_snoc (l : List Int) (n : Int) : ints (l ++ [n]) = ints l ++ [[PV.int .i64 n]] := by simp [ints]
end
end Go.Vs
namespace Go.Vs
/-- The index of the first element of which a condition holds, or -1. -/
def idx {α : Type} (p : α → Bool) (xs : List α) : Int := match xs.findIdx? p with | some i => (i : Int) | none => -1
section
variable {α : Type} {xs : List α} {p : α → Bool} {i : Nat} {a : α}
theorem idx_some (h : ∀ j, j < i → ∀ c, xs[j]? = some c → p c = false) (ha : xs[i]? = some a) (he : p a = true) : idx p xs = i := by
  have : xs.findIdx? p = some i := by
    rw [List.findIdx?_eq_some_iff_getElem]
    obtain ⟨hi, hx⟩ := List.getElem?_eq_some_iff.1 ha
    refine ⟨hi, by rw [hx, he], fun j hj => ?_⟩
    have := h j hj _ (List.getElem?_eq_getElem (by omega))
    simpa using this
  rw [idx, this]
theorem idx_none (h : ∀ j, j < xs.length → ∀ c, xs[j]? = some c → p c = false) : idx p xs = -1 := by
  have : xs.findIdx? p = none := by
    rw [List.findIdx?_eq_none_iff]
    intro c hc
    obtain ⟨j, hj⟩ := List.getElem?_of_mem hc
    exact h j (List.getElem?_eq_some_iff.1 hj).1 c hj
  rw [idx, this]
theorem idx_step (h : ∀ j, j < i → ∀ c, xs[j]? = some c → p c = false) (ha : xs[i]? = some a) (he : p a = false) : ∀ j, j < i + 1 → ∀ c, xs[j]? = some c → p c = false := fun j hj c hc => by
  rcases Nat.lt_or_ge j i with h1 | h1
  · exact h j h1 c hc
  · have : j = i := by omega
    rw [this, ha] at hc
    injection hc with hc
    rw [← hc]; exact he
theorem idx_at (h : 0 ≤ idx p xs) : ∃ (i : Nat) (a : α), idx p xs = i ∧ xs[i]? = some a ∧ p a = true := by
  unfold idx at h ⊢
  cases hf : xs.findIdx? p with
  | none => rw [hf] at h; simp at h
  | some i =>
    obtain ⟨hi, h1, _⟩ := List.findIdx?_eq_some_iff_getElem.1 hf
    exact ⟨i, xs[i], rfl, List.getElem?_eq_getElem hi, h1⟩
theorem idx_range (p : α → Bool) (xs : List α) : -1 ≤ idx p xs ∧ idx p xs < xs.length := by
  unfold idx
  cases hf : xs.findIdx? p with
  | none => simp; omega
  | some i =>
    obtain ⟨hi, h1, _⟩ := List.findIdx?_eq_some_iff_getElem.1 hf
    simp only
    omega
theorem idx_any : decide (0 ≤ idx p xs) = xs.any p := by
  rw [Bool.eq_iff_iff, decide_eq_true_iff]
  constructor
  · intro h
    obtain ⟨i, a, _, h1, h2⟩ := idx_at h
    exact List.any_eq_true.2 ⟨a, List.mem_of_getElem? h1, h2⟩
  · intro h
    obtain ⟨a, ha, hp⟩ := List.any_eq_true.1 h
    rcases Int.lt_or_le (idx p xs) 0 with hlt | hle
    · exfalso
      unfold idx at hlt
      cases hf : xs.findIdx? p with
      | none =>
        rw [List.findIdx?_eq_none_iff] at hf
        rw [hf a ha] at hp
        cases hp
      | some i => rw [hf] at hlt; simp only at hlt; omega
    · exact hle
end
theorem allR_ptrs {d : Nat} {M : Mem} {ids rd : List Id} : ∀ (l : List (List PV)), AllR (SnapD (d + 1) M ids rd) (l.map PV.ptr) (l.map PV.ptr)
  | [] => trivial
  | _ :: l => ⟨rfl, allR_ptrs l⟩
end Go.Vs
namespace Go.Vs
section
variable {α : Type} {xs : List α} {x : α} {i : Nat}
/-- A sum that wraps around. -/
def wsum (f : α → Int) (l : List α) : Int := l.foldl (fun s y => IntKind.i64.wrap (s + f y)) 0
theorem wsum_take_succ (f : α → Int) (h : xs[i]? = some x) : wsum f (xs.take (i + 1)) = IntKind.i64.wrap (wsum f (xs.take i) + f x) := by
  rw [take_succ h, wsum, List.foldl_append]
  rfl
theorem wsum_eq {f : α → Int} {B : Int} (h : ∀ y ∈ xs, 0 ≤ f y ∧ f y ≤ B) (hB : B * xs.length ≤ 9223372036854775807) : wsum f xs = sumBy f xs := by
  have key : ∀ i, i ≤ xs.length → wsum f (xs.take i) = sumBy f (xs.take i) := by
    intro i
    induction i with
    | zero => intro _; simp [wsum, sumBy]
    | succ i ih =>
      intro hi
      obtain ⟨a, ha⟩ := get_ex (show i < xs.length by omega)
      have h1 := sumBy_take_le f xs (fun y hy => (h y hy).1) (i + 1)
      have h2 := sumBy_bound f B xs h
      rw [wsum_take_succ f ha, ih (by omega), ← sumBy_take_succ f ha, wrap_in (by omega)]
  have := key xs.length (Nat.le_refl _)
  rwa [List.take_length] at this
theorem pair_of_adj {r : α → α → Prop} (ht : ∀ a b c, r a b → r b c → r a c) : ∀ (l : List α), (∀ (j : Nat) a b, l[j]? = some a → l[j + 1]? = some b → r a b) → l.Pairwise r
  | [], _ => List.Pairwise.nil
  | a :: l, h => by
    have ih := pair_of_adj ht l fun j x y hx hy => h (j + 1) x y (by simpa using hx) (by simpa using hy)
    refine List.pairwise_cons.2 ⟨fun b hb => ?_, ih⟩
    cases l with
    | nil => cases hb
    | cons c l =>
      have h0 := h 0 a c rfl rfl
      rcases List.mem_cons.1 hb with rfl | hb
      · exact h0
      · exact ht _ _ _ h0 ((List.pairwise_cons.1 ih).1 b hb)
end
end Go.Vs
