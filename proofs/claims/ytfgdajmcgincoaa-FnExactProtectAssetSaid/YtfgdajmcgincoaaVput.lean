/- LISTS OF NUMBERS: putting a number to its place, once. -/
import Derived.Test.YtfgdajmcgincoaaVau
import Derived.Test.YtfgdajmcgincoaaVd1
import Derived.Test.YtfgdajmcgincoaaVsE
set_option linter.unusedVariables false
set_option linter.unusedSimpArgs false
set_option maxRecDepth 100000
set_option maxHeartbeats 4000000
set_option pp.deepTerms false
set_option pp.deepTerms.threshold 4
set_option format.width 220
namespace Go.Vs
open Go.Proofs
attribute [local irreducible] exec vwp thenQ blkQ loopQ RetPost

/-- How many numbers at the begin are less. -/
def kPut (l : List Int) (n : Int) : Nat := (l.takeWhile fun x => decide (x < n)).length
def put (l : List Int) (n : Int) : List Int := if l[kPut l n]? = some n then l else l.take (kPut l n) ++ (n :: l.drop (kPut l n))
theorem kPut_is : ∀ {l : List Int} {n : Int} {k : Nat}, k ≤ l.length → (∀ (j : Nat) x, j < k → l[j]? = some x → x < n) → (∀ x, l[k]? = some x → ¬ x < n) → kPut l n = k
  | [], n, k, hk, _, _ => by simp at hk; subst hk; rfl
  | a :: l, n, k, hk, h1, h2 => by
    unfold kPut
    cases k with
    | zero =>
      have := h2 a rfl
      rw [List.takeWhile_cons_of_neg (by simpa using this)]
      rfl
    | succ k =>
      have h0 := h1 0 a aO rfl
      rw [List.takeWhile_cons_of_pos (by simpa using h0), List.length_cons]
      have := kPut_is (l := l) (n := n) (k := k) (by simpa using hk) (fun j x hj hx => h1 (j + 1) x aO (by simpa using hx)) (fun x hx => h2 x (by simpa using hx))
      unfold kPut at this
      rw [this]
theorem kPut_le (l : List Int) (n : Int) : kPut l n ≤ l.length := (List.takeWhile_prefix _).length_le
theorem kPut_lt : ∀ (l : List Int) (n : Int) (j : Nat) x, j < kPut l n → l[j]? = some x → x < n
  | [], n, j, x, h, _ => by simp [kPut] at h
  | a :: l, n, j, x, h, hx => by
    unfold kPut at h
    by_cases h0 : a < n
    · rw [List.takeWhile_cons_of_pos (by simpa using h0), List.length_cons] at h
      cases j with
      | zero => simp at hx; omega
      | succ j => exact kPut_lt l n j x (by unfold kPut; omega) (by simpa using hx)
    · rw [List.takeWhile_cons_of_neg (by simpa using h0)] at h
      simp at h
theorem kPut_ge : ∀ (l : List Int) (n : Int) x, l[kPut l n]? = some x → n ≤ x
  | [], n, x, h => by simp at h
  | a :: l, n, x, h => by
    unfold kPut at h
    by_cases h0 : a < n
    · rw [List.takeWhile_cons_of_pos (by simpa using h0), List.length_cons, List.getElem?_cons_succ] at h
      exact kPut_ge l n x h
    · rw [List.takeWhile_cons_of_neg (by simpa using h0)] at h
      simp at h
      omega
theorem put_len (l : List Int) (n : Int) : (put l n).length ≤ l.length + 1 := by
  have := kPut_le l n
  unfold put
  split
  · omega
  · simp; omega
theorem put_mem {l : List Int} {n y : Int} : y ∈ put l n ↔ y ∈ l ∨ y = n := by
  unfold put
  split
  · rename_i h
    exact ⟨.inl, fun h2 => by rcases h2 with h2 | rfl; exact h2; exact get_mem h⟩
  · have : y ∈ l ↔ y ∈ l.take (kPut l n) ∨ y ∈ l.drop (kPut l n) := by rw [← List.mem_append, List.take_append_drop]
    simp only [List.mem_append, List.mem_cons, this]
    constructor
    · rintro (h | h | h)
      · exact .inl (.inl h)
      · exact .inr h
      · exact .inl (.inr h)
    · rintro ((h | h) | h)
      · exact .inl h
      · exact .inr (.inr h)
      · exact .inr (.inl h)
theorem put_pair {l : List Int} {n : Int} (h : l.Pairwise (· < ·)) : (put l n).Pairwise (· < ·) := by
  unfold put
  split
  · exact h
  · rename_i hne
    have ht : ∀ x ∈ l.take (kPut l n), x < n := fun x hx => by
      obtain ⟨j, hj⟩ := List.getElem?_of_mem hx
      rw [List.getElem?_take] at hj
      split at hj
      · exact kPut_lt l n j x aA hj
      · cases hj
    have hsplit : (l.take (kPut l n) ++ l.drop (kPut l n)).Pairwise (· < ·) := by rw [List.take_append_drop]; exact h
    rw [List.pairwise_append] at hsplit
    have hd : ∀ x ∈ l.drop (kPut l n), n < x := by
      intro x hx
      cases hc : l.drop (kPut l n) with
      | nil => rw [hc] at hx; cases hx
      | cons a r =>
        have ha : l[kPut l n]? = some a := by
          have : (l.drop (kPut l n))[0]? = some a := by rw [hc]; rfl
          rw [List.getElem?_drop] at this
          simpa using this
        have h1 := kPut_ge l n a ha
        have h2 : a ≠ n := fun e => hne (by rw [← e]; rw [e] at ha ⊢; exact ha)
        rw [hc] at hx
        rcases List.mem_cons.1 hx with rfl | hx
        · omega
        · have := hsplit.2.1
          rw [hc] at this
          have := (List.pairwise_cons.1 this).1 x hx
          omega
    rw [List.pairwise_append]
    refine ⟨hsplit.1, ?_, ?_⟩
    · rw [List.pairwise_cons]
      exact ⟨hd, hsplit.2.1⟩
    · intro a ha b hb
      rcases List.mem_cons.1 hb with rfl | hb
      · exact ht a ha
      · have := ht a ha; have := hd b hb; omega
/-- Two rising lists with the same members. -/
theorem rise_ext : ∀ {a b : List Int}, a.Pairwise (· < ·) → b.Pairwise (· < ·) → (∀ x, x ∈ a ↔ x ∈ b) → a = b
  | [], [], _, _, _ => rfl
  | [], y :: b, _, _, h => by have := (h y).2 (by simp); cases this
  | x :: a, [], _, _, h => by have := (h x).1 (by simp); cases this
  | x :: a, y :: b, ha, hb, h => by
    rw [List.pairwise_cons] at ha hb
    have hxy : x = y := by
      have h1 := (h x).1 (by simp)
      have h2 := (h y).2 (by simp)
      rcases List.mem_cons.1 h1 with h1 | h1
      · exact h1
      · rcases List.mem_cons.1 h2 with h2 | h2
        · exact h2.symm
        · have := hb.1 x h1; have := ha.1 y h2; omega
    subst hxy
    rw [rise_ext ha.2 hb.2 fun z => ?_]
    have hz := h z
    simp only [List.mem_cons] at hz
    constructor
    · intro hm
      rcases hz.1 (.inr hm) with rfl | h2
      · have := ha.1 z hm; omega
      · exact h2
    · intro hm
      rcases hz.2 (.inr hm) with rfl | h2
      · have := hb.1 z hm; omega
      · exact h2
def puts (l : List Int) (xs : List Int) : List Int := xs.foldl put l
theorem puts_mem {y : Int} : ∀ (xs l : List Int), y ∈ puts l xs ↔ y ∈ l ∨ y ∈ xs
  | [], l => by simp [puts]
  | x :: xs, l => by
    have := puts_mem (y := y) xs (put l x)
    simp only [puts, List.foldl_cons] at this ⊢
    rw [this, put_mem, List.mem_cons]
    constructor
    · rintro ((h | h) | h)
      · exact .inl h
      · exact .inr (.inl h)
      · exact .inr (.inr h)
    · rintro (h | h | h)
      · exact .inl (.inl h)
      · exact .inl (.inr h)
      · exact .inr h
theorem puts_pair : ∀ (xs l : List Int), l.Pairwise (· < ·) → (puts l xs).Pairwise (· < ·)
  | [], l, h => h
  | x :: xs, l, h => puts_pair xs (put l x) (put_pair h)
theorem puts_len : ∀ (xs l : List Int), (puts l xs).length ≤ l.length + xs.length
  | [], l => by simp [puts]
  | x :: xs, l => by
    have h1 := puts_len xs (put l x)
    have h2 := put_len l x
    simp only [puts, List.foldl_cons, List.length_cons] at h1 ⊢
    omega
theorem puts_snoc (l xs : List Int) (x : Int) : puts l (xs ++ [x]) = put (puts l xs) x := by simp [puts]
theorem ret_lst {st : St} {fn : Func} {t sz : Nat} {es es' : List (List PV)} (hr : fn.results = #[.tmp t]) (h1 : getE st.env t = .list sz es) (he : es = es') : RetPost Try.prog fn true [] (Ret (.list sz es')) .ret st := by
  subst he
  exact ret_of [.list sz es] [] (by rw [hr]; exact ⟨h1, trivial⟩) ⟨rfl, rfl, rfl, rfl⟩ trivial
theorem ret_lstb {st : St} {fn : Func} {t1 t2 sz : Nat} {es es' : List (List PV)} {b b' : Bool} (hr : fn.results = #[.tmp t1, .tmp t2]) (h1 : getE st.env t1 = .list sz es) (h2 : getE st.env t2 = .bool b) (he : es = es') (hb : b = b') :
    RetPost Try.prog fn true [] (Ret (.tuple [.list sz es', .bool b'])) .ret st := by
  subst he
  subst hb
  exact ret_of [.list sz es, .bool b] [] (by rw [hr]; exact ⟨h1, h2, trivial⟩) ⟨[], [], ⟨rfl, rfl, rfl, rfl⟩, ⟨[], [], ⟨rfl, rfl⟩, rfl, rfl⟩, rfl⟩ trivial
end Go.Vs
