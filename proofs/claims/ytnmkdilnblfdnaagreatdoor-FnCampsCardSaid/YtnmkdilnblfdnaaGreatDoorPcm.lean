/- CAMPS OUT OF TEXTS: the plain law (no program, no model): the reference's and the program's readings are the same. -/
import Derived.Test.YtnmkdilnblfdnaaGreatDoorVau
import Derived.Test.YtnmkdilnblfdnaaGreatDoorCmp
import Derived.Lib.Replace
import Derived.Lib.Atoi
set_option linter.unusedVariables false
set_option linter.unusedSimpArgs false
namespace Go.Vs

/-- Pieces with a byte between them. -/
def joinC (c : UInt8) : List UInt8 → List (List UInt8) → List UInt8
  | a, [] => a
  | a, b :: r => a ++ c :: joinC c b r
/-- The pieces of a text between bytes. -/
def spl (c : UInt8) : List UInt8 → List (List UInt8)
  | [] => [[]]
  | b :: l => if b = c then [] :: spl c l else match spl c l with
    | p :: ps => (b :: p) :: ps
    | [] => []
theorem spl_none (c : UInt8) : ∀ a : List UInt8, c ∉ a → spl c a = [a]
  | [], _ => rfl
  | b :: a, h => by
    have h1 : b ≠ c := fun e => h (by simp [e])
    rw [spl, if_neg h1, spl_none c a (fun hm => h (List.mem_cons_of_mem _ hm))]
theorem spl_hit (c : UInt8) : ∀ (a b : List UInt8), c ∉ a → spl c (a ++ c :: b) = a :: spl c b
  | [], b, _ => by rw [List.nil_append, spl, if_pos rfl]
  | x :: a, b, h => by
    have h1 : x ≠ c := fun e => h (by simp [e])
    rw [List.cons_append, spl, if_neg h1, spl_hit c a b (fun hm => h (List.mem_cons_of_mem _ hm))]
theorem spl_join (c : UInt8) : ∀ (a : List UInt8) (r : List (List UInt8)), (∀ x ∈ a :: r, c ∉ x) → spl c (joinC c a r) = a :: r
  | a, [], h => spl_none c a (h a (by simp))
  | a, b :: r, h => by
    rw [joinC, spl_hit c a _ (h a (by simp)), spl_join c b r fun x hx => h x (List.mem_cons_of_mem _ hx)]
theorem spl_len (c : UInt8) : ∀ l : List UInt8, (spl c l).length ≤ l.length + 1
  | [] => by simp [spl]
  | b :: l => by
    have h := spl_len c l
    rw [spl]
    split
    · simp; omega
    · split
      · rename_i e; rw [e] at h; simp at h ⊢; omega
      · simp
theorem index_at (c : UInt8) : ∀ (a b : List UInt8), c ∉ a → Lib.index (a ++ c :: b) [c] = ((a.length : Nat) : Int)
  | [], b, _ => by rw [List.nil_append, Lib.index]; simp [List.isPrefixOf]
  | x :: a, b, h => by
    have h1 : x ≠ c := fun e => h (by simp [e])
    have ih := index_at c a b (fun hm => h (List.mem_cons_of_mem _ hm))
    have hp : ([c] : List UInt8).isPrefixOf (x :: (a ++ c :: b)) = false := by simp [List.isPrefixOf, Ne.symm h1]
    rw [List.cons_append, Lib.index, hp]
    simp only [ih]
    have : ¬ (((a.length : Nat) : Int) == -1) = true := fun e => by have := beq_iff_eq.1 e; omega
    simp [this]
theorem splitK_join (c : UInt8) : ∀ (r : List (List UInt8)) (a : List UInt8), (∀ x ∈ a :: r, c ∉ x) → Lib.splitK [c] 0 r.length (joinC c a r) = a :: r
  | [], a, _ => rfl
  | b :: r, a, h => by
    have hi := index_at c a (joinC c b r) (h a (by simp))
    rw [List.length_cons, joinC, Lib.splitK, hi]
    have h1 : ¬ (((a.length : Nat) : Int) == -1) = true := fun e => by have := beq_iff_eq.1 e; omega
    rw [if_neg h1]
    have e : ((a.length : Nat) : Int).toNat = a.length := by omega
    rw [e, Nat.add_zero, List.take_left']
    · have e2 : (a ++ c :: joinC c b r).drop (a.length + [c].length) = joinC c b r := by
        rw [show a.length + [c].length = a.length + 1 from rfl, ← List.drop_drop, List.drop_left']
        · rfl
        · rfl
      rw [e2, splitK_join c r b fun x hx => h x (List.mem_cons_of_mem _ hx)]
    · rfl
theorem count_join (c : UInt8) : ∀ (r : List (List UInt8)) (a : List UInt8), (∀ x ∈ a :: r, c ∉ x) → (joinC c a r).count c = r.length
  | [], a, h => List.count_eq_zero.2 (h a (by simp))
  | b :: r, a, h => by
    rw [joinC, List.count_append, List.count_cons_self, count_join c r b fun x hx => h x (List.mem_cons_of_mem _ hx), List.count_eq_zero.2 (h a (by simp))]
    simp
theorem split_join (c : UInt8) (a : List UInt8) (r : List (List UInt8)) (h : ∀ x ∈ a :: r, c ∉ x) : Lib.split (joinC c a r) [c] = a :: r := by
  rw [Lib.split, Lib.count_one, count_join c r a h, splitK_join c r a h]
theorem replace_one (c : UInt8) (a b : List UInt8) (ha : c ∉ a) (hb : c ∉ b) : Lib.replaceAll (a ++ c :: b) [c] [] = a ++ b := by
  have hc : Lib.count (a ++ c :: b) [c] = 1 := by
    rw [Lib.count_one, List.count_append, List.count_cons_self, List.count_eq_zero.2 ha, List.count_eq_zero.2 hb]
  have hn : Lib.replaceNum (a ++ c :: b) [c] (-1) = 1 := by
    unfold Lib.replaceNum
    rw [if_pos (Or.inl (by decide)), hc]
  have he : ([c] == ([] : List UInt8)) = false := rfl
  unfold Lib.replaceAll Lib.replace
  rw [he, hn, Lib.replaceK_hit [c] [] 0 _ a.length (index_at c a b ha)]
  simp only [Bool.false_eq_true, if_false, List.append_nil, Lib.replaceK]
  rw [List.take_left' rfl, show a.length + [c].length = a.length + 1 from rfl, ← List.drop_drop, List.drop_left' rfl]
  rfl

/- numbers -/
theorem digit_ok (d : Nat) (h : d < 10) : Lib.digitVal (UInt8.ofNat (48 + d)) = some d ∧ 48 ≤ (UInt8.ofNat (48 + d)).toNat ∧ (UInt8.ofNat (48 + d)).toNat ≤ 57 := by
  have : ∀ d : Fin 10, Lib.digitVal (UInt8.ofNat (48 + d.val)) = some d.val ∧ 48 ≤ (UInt8.ofNat (48 + d.val)).toNat ∧ (UInt8.ofNat (48 + d.val)).toNat ≤ 57 := by decide
  exact this ⟨d, h⟩
theorem dec_digits (n : Nat) : ∀ b ∈ Lib.decDigits n, 48 ≤ b.toNat ∧ b.toNat ≤ 57 := by
  induction n using Nat.strongRecOn with
  | _ n ih =>
    intro b hb
    rw [Lib.decDigits] at hb
    split at hb
    · rename_i h
      simp only [List.mem_singleton] at hb
      subst hb
      exact (digit_ok n h).2
    · rename_i h
      rcases List.mem_append.1 hb with hb | hb
      · exact ih (n / 10) aO b hb
      · simp only [List.mem_singleton] at hb
        subst hb
        exact (digit_ok (n % 10) (Nat.mod_lt _ (by decide))).2
theorem dec_not (n : Nat) (b : UInt8) (h : b.toNat < 48 ∨ 57 < b.toNat) : b ∉ Lib.decDigits n := fun hm => by
  have := dec_digits n b hm
  omega
theorem dec_ne (n : Nat) : Lib.decDigits n ≠ [] := by
  rw [Lib.decDigits]
  split <;> simp
theorem decFrom_app : ∀ (l m : List UInt8) (acc : Nat), Lib.decFrom acc (l ++ m) = (Lib.decFrom acc l).bind fun k => Lib.decFrom k m
  | [], m, acc => rfl
  | b :: l, m, acc => by
    simp only [List.cons_append, Lib.decFrom]
    cases Lib.digitVal b with
    | none => rfl
    | some d => exact decFrom_app l m _
theorem decFrom_dec (n : Nat) : Lib.decFrom 0 (Lib.decDigits n) = some n := by
  induction n using Nat.strongRecOn with
  | _ n ih =>
    rw [Lib.decDigits]
    split
    · rename_i h
      simp only [Lib.decFrom, (digit_ok n h).1]
      congr 1; omega
    · rename_i h
      rw [decFrom_app, ih (n / 10) aO]
      simp only [Option.bind_some, Lib.decFrom, (digit_ok (n % 10) (Nat.mod_lt _ (by decide))).1]
      congr 1; omega
theorem atoi_dec (n : Nat) : Lib.atoi (Lib.decDigits n) = some (n : Int) := by
  have hd := decFrom_dec n
  have hg := dec_digits n
  cases hl : Lib.decDigits n with
  | nil => exact absurd hl (dec_ne n)
  | cons b r =>
    rw [hl] at hd hg
    have h1 := hg b (by simp)
    have n1 : (b == 45) = false := beq_eq_false_iff_ne.2 fun e => by subst e; simp at h1
    have n2 : (b == 43) = false := beq_eq_false_iff_ne.2 fun e => by subst e; simp at h1
    simp only [Lib.atoi, n1, n2, Bool.false_eq_true, if_false, Lib.decNat, List.isEmpty_cons, hd, Option.map]
/-- What the program reads out of a word. -/
def piV (s : ByteArray) : Option Int := match Lib.atoi s.data.toList with
  | some n => if s.size ≤ 7 ∧ (-999999 ≤ n ∧ n ≤ 999999) ∧ Lib.itoa n = s.data.toList then some n else none
  | none => none
theorem itoa_nat (n : Nat) : Lib.itoa (n : Int) = Lib.decDigits n := by
  unfold Lib.itoa
  rw [if_neg aO]
  rfl
theorem digits_len6 (n : Nat) (h : n ≤ 999999) : (Lib.decDigits n).length ≤ 6 := digits_len 5 n aO
theorem piV_dec (n : Nat) (h : n ≤ 999999) : piV (bs (Lib.decDigits n)) = some (n : Int) := by
  have e : (bs (Lib.decDigits n)).data.toList = Lib.decDigits n := by simp [bs]
  have hs := digits_len6 n h
  unfold piV
  rw [e, atoi_dec]
  simp only
  rw [if_pos ⟨by rw [bs_size]; omega, by omega, itoa_nat n⟩]
/-- What the reference reads out of a word. -/
def rdT (s : List UInt8) : List UInt8 := match s with
  | 45 :: b :: r => b :: r
  | s => s
def rdV (s : ByteArray) : Option Int :=
  let t := rdT s.data.toList
  if 1 ≤ t.length ∧ t.length ≤ 6 then match Lib.decFrom 0 t with
    | some n => let m : Int := if t.length < s.size then -(n : Int) else n
      if Lib.itoa m = s.data.toList then some m else none
    | none => none
  else none
theorem rdT_dec (n : Nat) : rdT (Lib.decDigits n) = Lib.decDigits n := by
  have hg := dec_digits n
  unfold rdT
  split
  · rename_i b r e
    rw [e] at hg
    have := (hg 45 (by simp)).1
    exact absurd this (by decide)
  · rfl
theorem rdV_dec (n : Nat) (h : n ≤ 999999) : rdV (bs (Lib.decDigits n)) = some (n : Int) := by
  have e : (bs (Lib.decDigits n)).data.toList = Lib.decDigits n := by simp [bs]
  have hs := digits_len6 n h
  have hp : 1 ≤ (Lib.decDigits n).length := List.length_pos_iff.2 (dec_ne n)
  unfold rdV
  rw [e, rdT_dec, if_pos ⟨hp, hs⟩, decFrom_dec, bs_size]
  simp only [Nat.lt_irrefl, if_false]
  rw [if_pos (itoa_nat n)]

/- the text's words -/
def w3 (p : Nat) : List UInt8 := if p = 1 then [112, 101, 114, 115, 111, 110, 44] else [112, 101, 111, 112, 108, 101, 44]
def w5 (s : Nat) : List UInt8 := if s = 1 then [114, 97, 116, 105, 111, 110] else [114, 97, 116, 105, 111, 110, 115]
theorem campS_join (i p s : Nat) : campS i p s = bs (joinC 32 [99, 97, 109, 112] [Lib.decDigits i ++ [58], Lib.decDigits p, w3 p, Lib.decDigits s, w5 s]) := by
  have h1 : Lib.decDigits 1 = [49] := by rw [Lib.decDigits, dif_pos (by decide)]; rfl
  unfold campS w3 w5
  by_cases hp : p = 1 <;> by_cases hs : s = 1 <;> simp only [hp, hs, if_true, if_false, numT, bs_app, joinC, h1] <;> simp
theorem words_in (i p s : Nat) : ∀ x ∈ [99, 97, 109, 112] :: [Lib.decDigits i ++ [58], Lib.decDigits p, w3 p, Lib.decDigits s, w5 s], (32 : UInt8) ∉ x := by
  intro x hx
  simp only [List.mem_cons, List.not_mem_nil, or_false] at hx
  rcases hx with rfl | rfl | rfl | rfl | rfl | rfl
  · decide
  · intro h
    rcases List.mem_append.1 h with h | h
    · exact dec_not i 32 (by decide) h
    · exact absurd h (by decide)
  · exact dec_not p 32 (by decide)
  · unfold w3; split <;> decide
  · exact dec_not s 32 (by decide)
  · unfold w5; split <;> decide
theorem words_in2 (i p s : Nat) : ∀ x ∈ [99, 97, 109, 112] :: [Lib.decDigits i, Lib.decDigits p, w3 p, Lib.decDigits s, w5 s], (32 : UInt8) ∉ x := by
  intro x hx
  simp only [List.mem_cons, List.not_mem_nil, or_false] at hx
  rcases hx with rfl | rfl | rfl | rfl | rfl | rfl
  · decide
  · exact dec_not i 32 (by decide)
  · exact dec_not p 32 (by decide)
  · unfold w3; split <;> decide
  · exact dec_not s 32 (by decide)
  · unfold w5; split <;> decide
theorem camp_replace (i p s : Nat) : Lib.replaceAll (campS i p s).data.toList [58] [] = joinC 32 [99, 97, 109, 112] [Lib.decDigits i, Lib.decDigits p, w3 p, Lib.decDigits s, w5 s] := by
  have e : (campS i p s).data.toList = ([99, 97, 109, 112, 32] ++ Lib.decDigits i) ++ 58 :: ([32] ++ joinC 32 (Lib.decDigits p) [w3 p, Lib.decDigits s, w5 s]) := by
    rw [campS_join]
    simp [bs, joinC]
  rw [e, replace_one]
  · simp [joinC]
  · intro h
    rcases List.mem_append.1 h with h | h
    · exact absurd h (by decide)
    · exact dec_not i 58 (by decide) h
  · simp only [joinC, List.mem_append, List.mem_cons, List.not_mem_nil, or_false, not_or]
    refine ⟨by decide, dec_not p 58 (by decide), by decide, ?_, by decide, dec_not s 58 (by decide), by decide, ?_⟩
    · unfold w3; split <;> decide
    · unfold w5; split <;> decide
theorem camp_words (i p s : Nat) : Lib.split (Lib.replaceAll (campS i p s).data.toList [58] []) [32] = [[99, 97, 109, 112], Lib.decDigits i, Lib.decDigits p, w3 p, Lib.decDigits s, w5 s] := by
  rw [camp_replace, split_join _ _ _ (words_in2 i p s)]
theorem camp_spl (i p s : Nat) : spl 32 (campS i p s).data.toList = [[99, 97, 109, 112], Lib.decDigits i ++ [58], Lib.decDigits p, w3 p, Lib.decDigits s, w5 s] := by
  have e : (campS i p s).data.toList = joinC 32 [99, 97, 109, 112] [Lib.decDigits i ++ [58], Lib.decDigits p, w3 p, Lib.decDigits s, w5 s] := by rw [campS_join]
  rw [e, spl_join _ _ _ (words_in i p s)]
theorem camp_size (i p s : Nat) (hi : i ≤ 99) (hp : p ≤ 500) (hs : s ≤ 5000) : (campS i p s).size ≤ 50 := by
  have h1 := digits_len 1 i aO
  have h2 := digits_len 2 p aO
  have h3 := digits_len 3 s aO
  have g1 : (w3 p).length ≤ 7 := by unfold w3; split <;> decide
  have g2 : (w5 s).length ≤ 7 := by unfold w5; split <;> decide
  rw [campS_join, bs_size]
  simp only [joinC, List.length_append, List.length_cons, List.length_nil]
  omega
end Go.Vs
