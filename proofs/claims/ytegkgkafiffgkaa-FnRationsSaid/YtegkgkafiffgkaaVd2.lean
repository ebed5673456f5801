/- Lists of numbers as tables: read at a number, set, sums. -/
import Derived.Test.YtegkgkafiffgkaaVl
set_option linter.unusedVariables false
set_option linter.unusedSimpArgs false
set_option maxRecDepth 100000
set_option maxHeartbeats 4000000
namespace Go.Vs
def tv (T : List Int) (c : Int) : Int := T.getD c.toNat (-1)
theorem tv_at {T : List Int} {c : Int} (h : c.toNat < T.length) : T[c.toNat]? = some (tv T c) := by
  obtain ⟨a, ha⟩ := get_ex h
  rw [ha, tv]
  simp [List.getD_eq_getElem?_getD, ha]
theorem tv_set {T : List Int} {i : Nat} (x : Int) (h : i < T.length) (c : Int) : tv (T.set i x) c = if c.toNat = i then x else tv T c := by
  unfold tv
  rw [List.getD_eq_getElem?_getD, List.getD_eq_getElem?_getD, List.getElem?_set]
  by_cases he : i = c.toNat
  · simp [he, he ▸ h]
  · simp [he, Ne.symm he]
theorem sumBy_set {α : Type} (g : α → Int) {l : List α} : ∀ {i : Nat} {a : α} (x : α), l[i]? = some a → sumBy g (l.set i x) = sumBy g l - g a + g x := by
  induction l with
  | nil => intro i a x h; simp at h
  | cons y l ih =>
    intro i a x h
    cases i with
    | zero =>
      simp only [List.getElem?_cons_zero, Option.some.injEq] at h
      subst h
      rw [List.set_cons_zero, sumBy_cons, sumBy_cons]
      omega
    | succ i =>
      rw [List.set_cons_succ, sumBy_cons, sumBy_cons, ih x (by simpa using h)]
      omega
theorem ints_set (T : List Int) (i : Nat) (x : Int) : ints (T.set i x) = (ints T).set i [PV.int .i64 x] := by simp [ints, List.map_set]
theorem tv_nat {T : List Int} {i : Nat} (h : i < T.length) : (ints T)[i]? = some [PV.int .i64 (tv T i)] := by
  have := tv_at (T := T) (c := (i : Int)) (by rw [Int.toNat_natCast]; exact h)
  rw [Int.toNat_natCast] at this
  exact ints_at this
theorem tv_int {T : List Int} {c : Int} (h : c.toNat < T.length) : (ints T)[c.toNat]? = some [PV.int .i64 (tv T c)] := ints_at (tv_at h)
theorem tv_ext {n : Int} {T U : List Int} (h1 : T.length = n.toNat) (h2 : U.length = n.toNat) (h : ∀ p : Int, 0 ≤ p → p < n → tv T p = tv U p) : T = U := by
  refine List.ext_getElem? fun j => ?_
  by_cases hj : j < n.toNat
  · have e1 := tv_at (T := T) (c := (j : Int)) (by rw [Int.toNat_natCast, h1]; exact hj)
    have e2 := tv_at (T := U) (c := (j : Int)) (by rw [Int.toNat_natCast, h2]; exact hj)
    rw [Int.toNat_natCast] at e1 e2
    rw [e1, e2, h j (by omega) (by omega)]
  · rw [List.getElem?_eq_none (by rw [h1]; omega), List.getElem?_eq_none (by rw [h2]; omega)]
theorem count_lt {α : Type} {P Q : α → Bool} {y : α} : ∀ {l : List α}, (∀ x, P x = true → Q x = true) → y ∈ l → Q y = true → P y = false → l.countP P < l.countP Q
  | [], _, h, _, _ => by simp at h
  | x :: l, hpq, h, hq, hp => by
    have hle : l.countP P ≤ l.countP Q := List.countP_mono_left fun x _ => hpq x
    rw [List.countP_cons, List.countP_cons]
    rcases List.mem_cons.1 h with rfl | h
    · rw [hq, hp]; simp; omega
    · have := count_lt hpq h hq hp
      cases e1 : P x
      · cases e2 : Q x <;> simp <;> omega
      · rw [hpq x e1]; simp; omega
end Go.Vs
