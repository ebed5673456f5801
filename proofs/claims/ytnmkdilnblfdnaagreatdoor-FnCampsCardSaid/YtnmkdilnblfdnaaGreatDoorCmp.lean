/- CAMPS AS TEXT: the plain law (no program, no model). -/
import Derived.Test.YtnmkdilnblfdnaaGreatDoorVau
import Derived.Lib.ItoaNum
set_option linter.unusedVariables false
set_option linter.unusedSimpArgs false
namespace Go.Vs

abbrev bs (l : List UInt8) : ByteArray := ⟨l.toArray⟩
theorem bs_app (l m : List UInt8) : bs l ++ bs m = bs (l ++ m) := by
  apply ByteArray.ext
  simp [bs]
theorem bs_size (l : List UInt8) : (bs l).size = l.length := by simp [bs, ByteArray.size]
/-- A number in decimal. -/
def numT (n : Nat) : ByteArray := bs (Lib.decDigits n)
def tenT : ByteArray := bs [48, 49, 50, 51, 52, 53, 54, 55, 56, 57]
theorem tenT_at : ∀ d : Fin 10, tenT.extract d.val (d.val + 1) = bs [UInt8.ofNat (48 + d.val)] := by decide +kernel
theorem numT_small (n : Nat) (h : n < 10) : numT n = tenT.extract n (n + 1) := by
  rw [tenT_at ⟨n, h⟩, numT, Lib.decDigits, dif_pos h]
theorem numT_big (n : Nat) (h : ¬ n < 10) : numT n = numT (n / 10) ++ tenT.extract (n % 10) (n % 10 + 1) := by
  rw [tenT_at ⟨n % 10, Nat.mod_lt _ (by decide)⟩, numT, numT, bs_app, Lib.decDigits, dif_neg h]
theorem digits_len (k : Nat) : ∀ n, n < 10 ^ (k + 1) → (Lib.decDigits n).length ≤ k + 1 := by
  induction k with
  | zero => intro n h; rw [Lib.decDigits, dif_pos (by simpa using h)]; simp
  | succ k ih =>
    intro n h
    by_cases h9 : n < 10
    · rw [Lib.decDigits, dif_pos h9]; simp
    · rw [Lib.decDigits, dif_neg h9, List.length_append]
      have := ih (n / 10) (by rw [Nat.div_lt_iff_lt_mul (by decide)]; rw [Nat.pow_succ] at h; exact h)
      simp
      omega
theorem numT_size (n : Nat) (h : n < 10 ^ 19) : (numT n).size ≤ 19 := by rw [numT, bs_size]; exact digits_len 18 n h

/-- The reference's text. -/
def campS (i p s : Nat) : ByteArray :=
  let t := if p = 1 then bs [99, 97, 109, 112, 32] ++ numT i ++ bs [58, 32, 49, 32, 112, 101, 114, 115, 111, 110, 44, 32] ++ numT s ++ bs [32, 114, 97, 116, 105, 111, 110]
    else bs [99, 97, 109, 112, 32] ++ numT i ++ bs [58, 32] ++ numT p ++ bs [32, 112, 101, 111, 112, 108, 101, 44, 32] ++ numT s ++ bs [32, 114, 97, 116, 105, 111, 110]
  if s = 1 then t else t ++ bs [115]
/-- The program's. -/
def cntT (n : Nat) (one others : ByteArray) : ByteArray := if n = 1 then bs [49, 32] ++ one else numT n ++ bs [32] ++ others
def campI (i p s : Nat) : ByteArray :=
  bs [99, 97, 109, 112, 32] ++ numT i ++ bs [58, 32] ++ cntT p (bs [112, 101, 114, 115, 111, 110]) (bs [112, 101, 111, 112, 108, 101]) ++ bs [44, 32] ++ cntT s (bs [114, 97, 116, 105, 111, 110]) (bs [114, 97, 116, 105, 111, 110, 115])
theorem campIS (i p s : Nat) : campI i p s = campS i p s := by
  have h1 : numT 1 = bs [49] := by rw [numT, Lib.decDigits, dif_pos (by decide)]; rfl
  unfold campI campS cntT
  by_cases hp : p = 1 <;> by_cases hs : s = 1 <;> simp only [hp, hs, if_true, if_false, h1]
  all_goals
    simp only [numT, bs_app]
    simp only [List.append_assoc, List.cons_append, List.nil_append]
end Go.Vs
