/- CAMPS: plain laws of stocks and of moved rations. -/
import Derived.Test.YtnmkdilnblfdnaaGreatDoorVau
import Derived.Test.YtnmkdilnblfdnaaGreatDoorVk4
import Derived.Test.YtnmkdilnblfdnaaGreatDoorVk6
import Derived.Test.YtnmkdilnblfdnaaGreatDoorVrr
set_option linter.unusedVariables false
set_option linter.unusedSimpArgs false
set_option maxRecDepth 100000
set_option maxHeartbeats 4000000
namespace Go.Vs
open Go.Proofs

def sumN (f : Nat → Int) : Nat → Int
  | 0 => 0
  | n + 1 => sumN f n + f n
theorem sumN_congr {f g : Nat → Int} {n : Nat} (h : ∀ i, i < n → f i = g i) : sumN f n = sumN g n := by
  induction n with
  | zero => rfl
  | succ n ih => rw [sumN, sumN, ih fun i hi => h i aO, h n aO]
theorem stk_law (c : Camp) (ts : List Truck) : ∀ d : Nat, stk c ts d = c.stock + sumN (fun e => sumBy (brings c.id e) ts) d - (d : Int) * c.people + sumN (wo c ts) d
  | 0 => by simp [stk, sumN]
  | d + 1 => by
    have ih := stk_law c ts d
    have e : (((d + 1 : Nat)) : Int) * c.people = (d : Int) * c.people + c.people := by rw [show (((d + 1 : Nat)) : Int) = (d : Int) + 1 by omega, Int.add_mul, Int.one_mul]
    rw [stk, sumN, sumN, e]
    have hw : wo c ts d = max 0 (c.people - (stk c ts d + sumBy (brings c.id d) ts)) := rfl
    omega
theorem sumBy_addC {α : Type} (f g : α → Int) (l : List α) : sumBy (fun a => f a + g a) l = sumBy f l + sumBy g l := by
  induction l with
  | nil => rfl
  | cons a l ih => rw [sumBy_cons, sumBy_cons, sumBy_cons, ih]; omega
theorem sumBy_negC {α : Type} (f : α → Int) (l : List α) : sumBy (fun a => - f a) l = - sumBy f l := by
  induction l with
  | nil => rfl
  | cons a l ih => rw [sumBy_cons, sumBy_cons, ih]; omega
theorem sumBy_zeroC {α : Type} (l : List α) : sumBy (fun _ : α => (0 : Int)) l = 0 := by
  induction l with
  | nil => rfl
  | cons a l ih => rw [sumBy_cons, ih]; rfl
theorem sumBy_sumN {α : Type} (f : α → Nat → Int) (l : List α) : ∀ n, sumBy (fun a => sumN (f a) n) l = sumN (fun e => sumBy (fun a => f a e) l) n
  | 0 => sumBy_zeroC l
  | n + 1 => by
    simp only [sumN]
    rw [sumBy_addC, sumBy_sumN f l n]
theorem sumBy_swap {α β : Type} (f : α → β → Int) (l : List α) (m : List β) : sumBy (fun a => sumBy (f a) m) l = sumBy (fun b => sumBy (fun a => f a b) l) m := by
  induction l with
  | nil => exact (sumBy_zeroC m).symm
  | cons a l ih =>
    rw [sumBy_cons, ih, ← sumBy_addC]
    exact sumBy_congr fun b _ => by rw [sumBy_cons]
theorem good_ltC {xs : List Camp} (h : Good xs) : xs.Pairwise fun a b => a.id < b.id := pair_of_adj (r := fun a b : Camp => a.id < b.id) (fun a b c h1 h2 => Int.lt_trans h1 h2) xs fun j a b ha hb => by
  have h1 := (h.1 (j + 1) (get_lt hb)).2 aO
  rw [getD_of hb, show j + 1 - 1 = j by omega, getD_of ha] at h1
  exact h1
theorem one_id (k v : Int) : ∀ {xs : List Camp}, (xs.Pairwise fun a b => a.id < b.id) → (∃ c ∈ xs, c.id = k) → sumBy (fun c : Camp => if k = c.id then v else 0) xs = v
  | [], _, ⟨_, h, _⟩ => by cases h
  | x :: xs, hp, ⟨c, hc, e⟩ => by
    rw [List.pairwise_cons] at hp
    rw [sumBy_cons]
    by_cases h : k = x.id
    · rw [if_pos h]
      have : sumBy (fun c : Camp => if k = c.id then v else 0) xs = sumBy (fun _ => 0) xs := sumBy_congr fun y hy => by
        have := hp.1 y hy
        rw [if_neg aO]
      rw [this, sumBy_zeroC]
      omega
    · rw [if_neg h]
      have hc2 : c ∈ xs := by
        rcases List.mem_cons.1 hc with rfl | h2
        · exact absurd e.symm h
        · exact h2
      rw [one_id k v hp.2 ⟨c, hc2, e⟩]
      omega
@[reducible] def arr (d : Int) (t : Truck) : Int := if t.day < d then t.load else 0
theorem sum_day (t : Truck) (h : 0 ≤ t.day) : ∀ d : Nat, sumN (fun e => if t.day = (e : Int) then t.load else 0) d = arr d t
  | 0 => by rw [sumN, arr, if_neg aO]
  | d + 1 => by
    rw [sumN, sum_day t h d]
    unfold arr
    split <;> split <;> split <;> omega
theorem arr_all {xs : List Camp} {ts : List Truck} (h : Asked xs ts) (d : Nat) : sumBy (fun c : Camp => sumN (fun e => sumBy (brings c.id e) ts) d) xs = sumBy (arr d) ts := by
  rw [sumBy_sumN (fun (c : Camp) (e : Nat) => sumBy (brings c.id e) ts)]
  have h1 : ∀ e : Nat, sumBy (fun c : Camp => sumBy (brings c.id e) ts) xs = sumBy (fun t : Truck => if t.day = (e : Int) then t.load else 0) ts := fun e => by
    rw [sumBy_swap (fun (c : Camp) (t : Truck) => brings c.id e t)]
    refine sumBy_congr fun t ht => ?_
    by_cases hd : t.day = (e : Int)
    · rw [if_pos hd]
      have ht1 := h.1 t ht
      obtain ⟨i, a, _, e2, e3⟩ := fnd_at ht1.1
      have : (fun c : Camp => brings c.id e t) = fun c : Camp => if t.camp = c.id then t.load else 0 := by
        funext c
        unfold brings
        by_cases hc : t.camp = c.id
        · rw [if_pos ⟨hc, hd⟩, if_pos hc]
        · rw [if_neg (fun h => hc h.1), if_neg hc]
      rw [this]
      exact one_id t.camp t.load (good_ltC h.2.1) ⟨a, get_mem e2, e3⟩
    · rw [if_neg hd]
      have : (fun c : Camp => brings c.id e t) = fun _ => 0 := by
        funext c
        unfold brings
        rw [if_neg (fun h => hd h.2)]
      rw [this]
      exact sumBy_zeroC xs
  have h2 : sumN (fun e => sumBy (fun c : Camp => sumBy (brings c.id e) ts) xs) d = sumN (fun e => sumBy (fun t : Truck => if t.day = (e : Int) then t.load else 0) ts) d := sumN_congr fun e _ => h1 e
  rw [h2, ← sumBy_sumN (fun (t : Truck) (e : Nat) => if t.day = (e : Int) then t.load else 0)]
  exact sumBy_congr fun t ht => sum_day t (h.1 t ht).2.1.1 d
/-- What is left: what was there and came, less what was needed, and what was lacking. -/
theorem stocks_law {xs : List Camp} {ts : List Truck} {d : Nat} (h : SOk xs ts d) : sumBy idI (stocks xs ts d) = sumBy (fun c : Camp => c.stock) xs + sumBy (arr d) ts - sumBy (fun c : Camp => (d : Int) * c.people) xs + sumN (fun e => withs xs ts e) d := by
  rw [stocks, if_pos h]
  have e1 : ∀ l : List Camp, sumBy idI (l.map fun c => stk c ts (d : Int).toNat) = sumBy (fun c => stk c ts d) l := fun l => by
    induction l with
    | nil => rfl
    | cons a l ih => rw [List.map_cons, sumBy_cons, sumBy_cons, ih, Int.toNat_natCast]
  rw [e1]
  have e2 : sumBy (fun c => stk c ts d) xs = sumBy (fun c : Camp => (c.stock + sumN (fun e => sumBy (brings c.id e) ts) d) + (-((d : Int) * c.people) + sumN (wo c ts) d)) xs := sumBy_congr fun c _ => by rw [stk_law]; omega
  rw [e2, sumBy_addC, sumBy_addC, sumBy_addC, sumBy_negC, arr_all h.1, sumBy_sumN (fun (c : Camp) (e : Nat) => wo c ts e)]
  have e3 : sumN (fun e => sumBy (fun c : Camp => wo c ts e) xs) d = sumN (fun e => withs xs ts e) d := sumN_congr fun e he => by
    have hw : WOk xs ts e := ⟨h.1, by omega, by have := h.2.2; omega⟩
    rw [withs, if_pos hw, Int.toNat_natCast]
  rw [e3]
  have eS : sumBy (fun c : Camp => c.stock) xs = sumBy Camp.stock xs := rfl
  omega
/- Moved rations. -/
theorem idx_map {α β : Type} (f : α → β) (p : β → Bool) : ∀ l : List α, idx p (l.map f) = idx (fun a => p (f a)) l := fun l => by
  unfold idx
  rw [List.findIdx?_map]
  rfl
theorem fnd_ids {xs ys : List Camp} (h : xs.map (·.id) = ys.map (·.id)) (n : Int) : fnd xs n = fnd ys n := by
  have e : ∀ l : List Camp, fnd l n = idx (fun x : Int => x == n) (l.map (·.id)) := fun l => (idx_map (·.id) (fun x : Int => x == n) l).symm
  rw [e, e, h]
theorem moved_eq {xs : List Camp} {f t r : Int} {i k : Nat} {a b : Camp} (e1 : fnd xs f = i) (e2 : xs[i]? = some a) (e4 : fnd xs t = k) (e5 : xs[k]? = some b) :
    moved xs f t r = (xs.set i ⟨f, a.people, a.stock - r⟩).set k ⟨t, b.people, b.stock + r⟩ := by
  unfold moved
  rw [e1, e4, Int.toNat_natCast, Int.toNat_natCast]
  dsimp only
  rw [getD_of e2, getD_of e5]
theorem move_back {xs : List Camp} {f t r : Int} (h : Mv xs f t r) : Mv (mvL xs f t r) t f r ∧ mvL (mvL xs f t r) t f r = xs ∧ Good (mvL xs f t r) := by
  rw [mvL, if_pos h]
  obtain ⟨hm, hg2⟩ := h
  obtain ⟨hg, hf, ht, hne, hr⟩ := hm
  obtain ⟨i, a, e1, e2, e3⟩ := fnd_at hf
  obtain ⟨k, b, e4, e5, e6⟩ := fnd_at ht
  have hik : i ≠ k := fun e => hne (by rw [e1, e4, e])
  have hM : moved xs f t r = (xs.set i ⟨f, a.people, a.stock - r⟩).set k ⟨t, b.people, b.stock + r⟩ := moved_eq e1 e2 e4 e5
  have hids : (moved xs f t r).map (·.id) = xs.map (·.id) := by
    rw [hM, List.map_set, List.map_set]
    refine List.ext_getElem? fun j => ?_
    rw [List.getElem?_set, List.getElem?_set, List.length_set]
    have hi := get_lt e2
    have hk := get_lt e5
    by_cases h1 : k = j
    · subst h1
      rw [if_pos rfl, if_pos (by rw [List.length_map]; exact hk), List.getElem?_map, e5]
      simp [e6]
    · rw [if_neg h1]
      by_cases h2 : i = j
      · subst h2
        rw [if_pos rfl, if_pos (by rw [List.length_map]; exact hi), List.getElem?_map, e2]
        simp [e3]
      · rw [if_neg h2]
  have hat1 : (moved xs f t r)[k]? = some ⟨t, b.people, b.stock + r⟩ := by
    rw [hM, List.getElem?_set_self (by rw [List.length_set]; exact get_lt e5)]
  have hat2 : (moved xs f t r)[i]? = some ⟨f, a.people, a.stock - r⟩ := by
    rw [hM, List.getElem?_set_ne (Ne.symm hik), List.getElem?_set_self (get_lt e2)]
  have hback : moved (moved xs f t r) t f r = xs := by
    have hb : moved (moved xs f t r) t f r = ((moved xs f t r).set k ⟨t, b.people, b.stock + r - r⟩).set i ⟨f, a.people, a.stock - r + r⟩ := moved_eq (by rw [fnd_ids hids]; exact e4) hat1 (by rw [fnd_ids hids]; exact e1) hat2
    have ea : (⟨f, a.people, a.stock - r + r⟩ : Camp) = a := by cases a; simp only at e3 ⊢; subst e3; congr 1; omega
    have eb : (⟨t, b.people, b.stock + r - r⟩ : Camp) = b := by cases b; simp only at e6 ⊢; subst e6; congr 1; omega
    rw [hb, ea, eb, hM]
    refine List.ext_getElem? fun j => ?_
    have hi := get_lt e2
    have hk := get_lt e5
    by_cases h2 : i = j
    · subst h2
      rw [List.getElem?_set_self (by simp; exact hi), e2]
    · rw [List.getElem?_set_ne h2]
      by_cases h1 : k = j
      · subst h1
        rw [List.getElem?_set_self (by simp; exact hk), e5]
      · rw [List.getElem?_set_ne h1, List.getElem?_set_ne h1, List.getElem?_set_ne h2]
  have hmv : Mv (moved xs f t r) t f r := ⟨⟨hg2, by rw [fnd_ids hids]; exact ht, by rw [fnd_ids hids]; exact hf, by rw [fnd_ids hids, fnd_ids hids]; exact Ne.symm hne, hr⟩, by rw [hback]; exact hg⟩
  exact ⟨hmv, by rw [mvL, if_pos hmv, hback], hg2⟩
end Go.Vs
