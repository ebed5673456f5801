/- PROVED: the given statement FnFirePaths: whatever the arguments, the law returns true and the arguments read as they did; no condition. -/
import Derived.Test.YtgpnbhnndhakhaaPbf
import Derived.WalkKit
import Derived.Orders
import Derived.Laws.MakeOwn
import Derived.KernelRfl
import Derived.Test.YtgpnbhnndhakhaaRows
import Derived.Laws.Strings
import Derived.Below
import Derived.ChangeArms
import Derived.Deep.Slices
import Derived.ProofKit
import Derived.OpenShut
import Derived.ShutString
import Derived.ChangeOld
set_option linter.unusedVariables false
set_option linter.unusedSimpArgs false
set_option maxRecDepth 100000
set_option maxHeartbeats 4000000
namespace Go.Vs
open Go.Proofs
attribute [local irreducible] exec vwp thenQ blkQ loopQ RetPost
theorem within_nil {l : List Int} {P : Int → Prop} : ∀ x ∈ l.take 0, P x := fun x hx => by simp at hx
theorem within_step {l : List Int} {i : Nat} {a : Int} {P : Int → Prop} (h : ∀ x ∈ l.take i, P x) (ha : l[i]? = some a) (hp : P a) : ∀ x ∈ l.take (i + 1), P x := fun x hx => by
  rw [take_succ ha] at hx
  rcases List.mem_append.1 hx with hx | hx
  · exact h x hx
  · simp at hx; subst hx; exact hp
theorem k_vBig (code : List Int) (g : code.length ≤ 9223372036854775807) : Con Try.prog 7 [.list 1 (bytesP code)] (.bool (decide (65536 < code.length))) := by
  intro al
  refine za7 hmix Try.func7 rfl (by kernel_rfl) (by kernel_rfl) (Nat.le_of_ble_eq_true rfl) (fun row h => by cases h) ?_
  have hty_u22 := ty_u22
  have hty_s22 := ty_s22
  have hl1 : (bytesP code).length = code.length := by simp
  repeat' (first
      | (refine za2 ?_; first | (refine za4 ?_; refine zav _ rfl ?_) | (refine zaf ?_; refine zaa _ rfl ?_) | (refine zbu ?_; refine zbt _ rfl rfl rfl ?_) | (refine za6 ?_; first | (refine zbb aA rfl ?_) | (refine za8 aA rfl rfl ?_) | (refine za9 aA rfl ?_) | (refine zba aA (evO_ok rfl) ?_)) | (refine zau (hK _ _ (.inl rfl) ?_); clear hK K) | (refine zau (hK _ _ (.inr (by kernel_rfl)) ?_); clear hK K))
      | (refine za0 ?_; first | (refine zbq ?_) | (refine zah (fun K hK => ?_)) | (refine zas ?_) | (refine zaz ?_) | (refine zbo ?_) | (refine za3 ?_))
      | (refine za1 ?_) | (refine zak ?_) | (refine zai ?_) | (refine zat ?_) | (refine zap ?_) | (refine zaq ?_) | (refine zar rfl ?_) | (refine zaj ?_) | (refine zag ?_) | (refine zbp ?_))
  all_goals (refine zb8 rfl (zbr rfl) ?_; first | rfl | (simp; omega))
theorem k_vIntsS (xs : List Int) (hn : xs.length ≤ 1099511627776) : Con Try.prog 11 [.list 1 (ints xs), .list 1 (ints xs)] (.bool true) := by
  intro al
  refine za7 hmix Try.func11 rfl (by kernel_rfl) (by kernel_rfl) (Nat.le_of_ble_eq_true rfl) (fun row h => by cases h) ?_
  have hty_u24 := ty_u24
  have hty_s24 := ty_s24
  have hty_c3 := ty_c3
  have hl1 : (ints xs).length = xs.length := by simp
  repeat' (first
      | (refine za2 ?_; first | (refine za4 ?_; refine zav _ rfl ?_) | (refine zaf ?_; refine zaa _ rfl ?_) | (refine zbu ?_; first | (refine zb0 rfl rfl aO ?_) | (refine zbt _ rfl rfl rfl ?_) | (refine zby aA rfl rfl ?_) | (refine zaw _ rfl rfl rfl ?_)) | (refine zbj ?_; first | (refine zae aA rfl ?_) | (refine zab _ aA rfl rfl aE rfl ?_) | (refine zac _ aA rfl aZ aL ?_) | (refine zad _ aA rfl rfl aE aZ aL ?_)) | (refine zbh ?_; first | (refine zao _ aA rfl rfl aO aA ?_) | (refine zan _ aA rfl rfl rfl rfl aO aO (by first | (rw [Nat.zero_add, Int.toNat_natCast]) | (rw [Nat.zero_add]) | rfl) ?_)) | (refine za6 ?_; first | (refine zbb aA rfl ?_) | (refine za8 aA rfl rfl ?_) | (refine za9 aA rfl ?_) | (refine zba aA (evO_ok rfl) ?_)) | (refine zau (hK _ _ (.inl rfl) ?_); clear hK K) | (refine zau (hK _ _ (.inr (by kernel_rfl)) ?_); clear hK K))
      | (refine za0 ?_; first | (refine zbq ?_) | (refine zah (fun K hK => ?_)) | (refine zas ?_) | (refine zaz ?_) | (refine zbo ?_) | (refine za3 ?_) | (refine zbk ?_; first | (refine zal rfl aD ?_) | (refine zam rfl aD ?_) | (refine zay rfl (fun h => ?_) (fun h => ?_) <;> (have h' := h; (try simp only [sx] at h')))))
      | (refine za1 ?_) | (refine zak ?_) | (refine zai ?_) | (refine zat ?_) | (refine zap ?_) | (refine zaq ?_) | (refine zar rfl ?_) | (refine zaj ?_) | (refine zag ?_) | (refine zbp ?_))
  all_goals try (exfalso; omega)
  refine zce [0, 1] [] (fun i : Nat => [(5, .int .i64 i)]) (fun i : Nat => []) (fun i : Nat => i ≤ xs.length) (fun i : Nat => xs.length - i) (0) rfl rfl (fun _ => rfl) (fun _ => rfl) rfl aW aO (fun i hi => ?_)
  rcases Nat.lt_or_ge i xs.length with hlt | hge
  · obtain ⟨a, ha⟩ := get_ex hlt
    have hx := ints_at ha
    repeat' (first
      | (refine za2 ?_; first | (refine za4 ?_; refine zav _ rfl ?_) | (refine zaf ?_; refine zaa _ rfl ?_) | (refine zbu ?_; first | (refine zb0 rfl rfl aO ?_) | (refine zbt _ rfl rfl rfl ?_) | (refine zby aA rfl rfl ?_) | (refine zaw _ rfl rfl rfl ?_)) | (refine zbj ?_; first | (refine zae aA rfl ?_) | (refine zab _ aA rfl rfl aE rfl ?_) | (refine zac _ aA rfl aZ aL ?_) | (refine zad _ aA rfl rfl aE aZ aL ?_)) | (refine zbh ?_; first | (refine zao _ aA rfl rfl aO aA ?_) | (refine zan _ aA rfl rfl rfl rfl aO aO (by first | (rw [Nat.zero_add, Int.toNat_natCast]) | (rw [Nat.zero_add]) | rfl) ?_)) | (refine za6 ?_; first | (refine zbb aA rfl ?_) | (refine za8 aA rfl rfl ?_) | (refine za9 aA rfl ?_) | (refine zba aA (evO_ok rfl) ?_)) | (refine zau (hK _ _ (.inl rfl) ?_); clear hK K) | (refine zau (hK _ _ (.inr (by kernel_rfl)) ?_); clear hK K))
      | (refine za0 ?_; first | (refine zbq ?_) | (refine zah (fun K hK => ?_)) | (refine zas ?_) | (refine zaz ?_) | (refine zbo ?_) | (refine za3 ?_) | (refine zbk ?_; first | (refine zal rfl aD ?_) | (refine zam rfl aD ?_) | (refine zay rfl (fun h => ?_) (fun h => ?_) <;> (have h' := h; (try simp only [sx] at h')))))
      | (refine za1 ?_) | (refine zak ?_) | (refine zai ?_) | (refine zat ?_) | (refine zap ?_) | (refine zaq ?_) | (refine zar rfl ?_) | (refine zaj ?_) | (refine zag ?_) | (refine zbp ?_))
    all_goals first
      | (exfalso; omega)
      | (refine zcb (i + 1) rfl aW aO aO)
      | (exfalso; simp at *; done)
  · repeat' (first
      | (refine za2 ?_; first | (refine za4 ?_; refine zav _ rfl ?_) | (refine zaf ?_; refine zaa _ rfl ?_) | (refine zbu ?_; first | (refine zb0 rfl rfl aO ?_) | (refine zbt _ rfl rfl rfl ?_) | (refine zby aA rfl rfl ?_) | (refine zaw _ rfl rfl rfl ?_)) | (refine zbj ?_; first | (refine zae aA rfl ?_) | (refine zab _ aA rfl rfl aE rfl ?_) | (refine zac _ aA rfl aZ aL ?_) | (refine zad _ aA rfl rfl aE aZ aL ?_)) | (refine zbh ?_; first | (refine zao _ aA rfl rfl aO aA ?_) | (refine zan _ aA rfl rfl rfl rfl aO aO (by first | (rw [Nat.zero_add, Int.toNat_natCast]) | (rw [Nat.zero_add]) | rfl) ?_)) | (refine za6 ?_; first | (refine zbb aA rfl ?_) | (refine za8 aA rfl rfl ?_) | (refine za9 aA rfl ?_) | (refine zba aA (evO_ok rfl) ?_)) | (refine zau (hK _ _ (.inl rfl) ?_); clear hK K) | (refine zau (hK _ _ (.inr (by kernel_rfl)) ?_); clear hK K))
      | (refine za0 ?_; first | (refine zbq ?_) | (refine zah (fun K hK => ?_)) | (refine zas ?_) | (refine zaz ?_) | (refine zbo ?_) | (refine za3 ?_) | (refine zbk ?_; first | (refine zal rfl aD ?_) | (refine zam rfl aD ?_) | (refine zay rfl (fun h => ?_) (fun h => ?_) <;> (have h' := h; (try simp only [sx] at h')))))
      | (refine za1 ?_) | (refine zak ?_) | (refine zai ?_) | (refine zat ?_) | (refine zap ?_) | (refine zaq ?_) | (refine zar rfl ?_) | (refine zaj ?_) | (refine zag ?_) | (refine zbp ?_))
    all_goals first
      | (exfalso; omega)
      | exact zb8 rfl (zbr rfl) rfl
theorem k_vHas (xs : List Int) (n : Int) (hn : xs.length ≤ 1099511627776) : Con Try.prog 15 [.list 1 (ints xs), .int .i64 n] (.bool (decide (n ∈ xs))) := by
  intro al
  refine za7 hmix Try.func15 rfl (by kernel_rfl) (by kernel_rfl) (Nat.le_of_ble_eq_true rfl) (fun row h => by cases h) ?_
  have hty_u24 := ty_u24
  have hty_s24 := ty_s24
  have hty_c3 := ty_c3
  have hl1 : (ints xs).length = xs.length := by simp
  repeat' (first
      | (refine za2 ?_; first | (refine za4 ?_; refine zav _ rfl ?_) | (refine zaf ?_; refine zaa _ rfl ?_) | (refine zbu ?_; first | (refine zb0 rfl rfl aO ?_) | (refine zbt _ rfl rfl rfl ?_) | (refine zbi aA rfl rfl ?_) | (refine zaw _ rfl rfl rfl ?_)) | (refine zbj ?_; first | (refine zae aA rfl ?_) | (refine zab _ aA rfl rfl aE rfl ?_) | (refine zac _ aA rfl aZ aL ?_) | (refine zad _ aA rfl rfl aE aZ aL ?_)) | (refine zbh ?_; first | (refine zao _ aA rfl rfl aO aA ?_) | (refine zan _ aA rfl rfl rfl rfl aO aO (by first | (rw [Nat.zero_add, Int.toNat_natCast]) | (rw [Nat.zero_add]) | rfl) ?_)) | (refine za6 ?_; first | (refine zbb aA rfl ?_) | (refine za8 aA rfl rfl ?_) | (refine za9 aA rfl ?_) | (refine zba aA (evO_ok rfl) ?_)) | (refine zau (hK _ _ (.inl rfl) ?_); clear hK K) | (refine zau (hK _ _ (.inr (by kernel_rfl)) ?_); clear hK K))
      | (refine za0 ?_; first | (refine zbq ?_) | (refine zah (fun K hK => ?_)) | (refine zas ?_) | (refine zaz ?_) | (refine zbo ?_) | (refine za3 ?_) | (refine zbk ?_; first | (refine zal rfl aD ?_) | (refine zam rfl aD ?_) | (refine zay rfl (fun h => ?_) (fun h => ?_) <;> (have h' := h; (try simp only [sx] at h')))))
      | (refine za1 ?_) | (refine zak ?_) | (refine zai ?_) | (refine zat ?_) | (refine zap ?_) | (refine zaq ?_) | (refine zar rfl ?_) | (refine zaj ?_) | (refine zag ?_) | (refine zbp ?_))
  refine zce [0, 1] [] (fun i : Nat => [(5, .int .i64 i)]) (fun i : Nat => []) (fun i : Nat => i ≤ xs.length ∧ ∀ x ∈ xs.take i, x ≠ n) (fun i : Nat => xs.length - i) (0) rfl rfl (fun _ => rfl) (fun _ => rfl) rfl aW ⟨by omega, within_nil⟩ (fun i hi => ?_)
  obtain ⟨hi1, hi2⟩ := hi
  rcases Nat.lt_or_ge i xs.length with hlt | hge
  · obtain ⟨a, hga⟩ := get_ex hlt
    have hx := ints_at hga
    by_cases he : a = n
    · have hm : n ∈ xs := by rw [← he]; exact get_mem hga
      repeat' (first
      | (refine za2 ?_; first | (refine za4 ?_; refine zav _ rfl ?_) | (refine zaf ?_; refine zaa _ rfl ?_) | (refine zbu ?_; first | (refine zb0 rfl rfl aO ?_) | (refine zbt _ rfl rfl rfl ?_) | (refine zbi aA rfl rfl ?_) | (refine zaw _ rfl rfl rfl ?_)) | (refine zbj ?_; first | (refine zae aA rfl ?_) | (refine zab _ aA rfl rfl aE rfl ?_) | (refine zac _ aA rfl aZ aL ?_) | (refine zad _ aA rfl rfl aE aZ aL ?_)) | (refine zbh ?_; first | (refine zao _ aA rfl rfl aO aA ?_) | (refine zan _ aA rfl rfl rfl rfl aO aO (by first | (rw [Nat.zero_add, Int.toNat_natCast]) | (rw [Nat.zero_add]) | rfl) ?_)) | (refine za6 ?_; first | (refine zbb aA rfl ?_) | (refine za8 aA rfl rfl ?_) | (refine za9 aA rfl ?_) | (refine zba aA (evO_ok rfl) ?_)) | (refine zau (hK _ _ (.inl rfl) ?_); clear hK K) | (refine zau (hK _ _ (.inr (by kernel_rfl)) ?_); clear hK K))
      | (refine za0 ?_; first | (refine zbq ?_) | (refine zah (fun K hK => ?_)) | (refine zas ?_) | (refine zaz ?_) | (refine zbo ?_) | (refine za3 ?_) | (refine zbk ?_; first | (refine zal rfl aD ?_) | (refine zam rfl aD ?_) | (refine zay rfl (fun h => ?_) (fun h => ?_) <;> (have h' := h; (try simp only [sx] at h')))))
      | (refine za1 ?_) | (refine zak ?_) | (refine zai ?_) | (refine zat ?_) | (refine zap ?_) | (refine zaq ?_) | (refine zar rfl ?_) | (refine zaj ?_) | (refine zag ?_) | (refine zbp ?_))
      all_goals first
        | (exfalso; omega)
        | exact zb8 rfl (zbr rfl) (by simp [hm])
    · repeat' (first
      | (refine za2 ?_; first | (refine za4 ?_; refine zav _ rfl ?_) | (refine zaf ?_; refine zaa _ rfl ?_) | (refine zbu ?_; first | (refine zb0 rfl rfl aO ?_) | (refine zbt _ rfl rfl rfl ?_) | (refine zbi aA rfl rfl ?_) | (refine zaw _ rfl rfl rfl ?_)) | (refine zbj ?_; first | (refine zae aA rfl ?_) | (refine zab _ aA rfl rfl aE rfl ?_) | (refine zac _ aA rfl aZ aL ?_) | (refine zad _ aA rfl rfl aE aZ aL ?_)) | (refine zbh ?_; first | (refine zao _ aA rfl rfl aO aA ?_) | (refine zan _ aA rfl rfl rfl rfl aO aO (by first | (rw [Nat.zero_add, Int.toNat_natCast]) | (rw [Nat.zero_add]) | rfl) ?_)) | (refine za6 ?_; first | (refine zbb aA rfl ?_) | (refine za8 aA rfl rfl ?_) | (refine za9 aA rfl ?_) | (refine zba aA (evO_ok rfl) ?_)) | (refine zau (hK _ _ (.inl rfl) ?_); clear hK K) | (refine zau (hK _ _ (.inr (by kernel_rfl)) ?_); clear hK K))
      | (refine za0 ?_; first | (refine zbq ?_) | (refine zah (fun K hK => ?_)) | (refine zas ?_) | (refine zaz ?_) | (refine zbo ?_) | (refine za3 ?_) | (refine zbk ?_; first | (refine zal rfl aD ?_) | (refine zam rfl aD ?_) | (refine zay rfl (fun h => ?_) (fun h => ?_) <;> (have h' := h; (try simp only [sx] at h')))))
      | (refine za1 ?_) | (refine zak ?_) | (refine zai ?_) | (refine zat ?_) | (refine zap ?_) | (refine zaq ?_) | (refine zar rfl ?_) | (refine zaj ?_) | (refine zag ?_) | (refine zbp ?_))
      all_goals first
        | (exfalso; omega)
        | (refine zcb (i + 1) rfl aW ⟨by omega, within_step hi2 hga he⟩ aO)
  · rw [take_all hge] at hi2
    have hm : n ∉ xs := fun h => hi2 n h rfl
    repeat' (first
      | (refine za2 ?_; first | (refine za4 ?_; refine zav _ rfl ?_) | (refine zaf ?_; refine zaa _ rfl ?_) | (refine zbu ?_; first | (refine zb0 rfl rfl aO ?_) | (refine zbt _ rfl rfl rfl ?_) | (refine zbi aA rfl rfl ?_) | (refine zaw _ rfl rfl rfl ?_)) | (refine zbj ?_; first | (refine zae aA rfl ?_) | (refine zab _ aA rfl rfl aE rfl ?_) | (refine zac _ aA rfl aZ aL ?_) | (refine zad _ aA rfl rfl aE aZ aL ?_)) | (refine zbh ?_; first | (refine zao _ aA rfl rfl aO aA ?_) | (refine zan _ aA rfl rfl rfl rfl aO aO (by first | (rw [Nat.zero_add, Int.toNat_natCast]) | (rw [Nat.zero_add]) | rfl) ?_)) | (refine za6 ?_; first | (refine zbb aA rfl ?_) | (refine za8 aA rfl rfl ?_) | (refine za9 aA rfl ?_) | (refine zba aA (evO_ok rfl) ?_)) | (refine zau (hK _ _ (.inl rfl) ?_); clear hK K) | (refine zau (hK _ _ (.inr (by kernel_rfl)) ?_); clear hK K))
      | (refine za0 ?_; first | (refine zbq ?_) | (refine zah (fun K hK => ?_)) | (refine zas ?_) | (refine zaz ?_) | (refine zbo ?_) | (refine za3 ?_) | (refine zbk ?_; first | (refine zal rfl aD ?_) | (refine zam rfl aD ?_) | (refine zay rfl (fun h => ?_) (fun h => ?_) <;> (have h' := h; (try simp only [sx] at h')))))
      | (refine za1 ?_) | (refine zak ?_) | (refine zai ?_) | (refine zat ?_) | (refine zap ?_) | (refine zaq ?_) | (refine zar rfl ?_) | (refine zaj ?_) | (refine zag ?_) | (refine zbp ?_))
    all_goals first
      | (exfalso; omega)
      | exact zb8 rfl (zbr rfl) (by simp [hm])
theorem k_vWithin (xs ys : List Int) (hn : xs.length ≤ 1099511627776) (hm : ys.length ≤ 1099511627776) : Con Try.prog 29 [.list 1 (ints xs), .list 1 (ints ys)] (.bool (decide (∀ x ∈ xs, x ∈ ys))) := by
  intro al
  refine za7 hmix Try.func29 rfl (by kernel_rfl) (by kernel_rfl) (Nat.le_of_ble_eq_true rfl) (fun row h => by cases h) ?_
  have hty_u24 := ty_u24
  have hty_s24 := ty_s24
  have hty_c3 := ty_c3
  have hl1 : (ints xs).length = xs.length := by simp
  repeat' (first
      | (refine za2 ?_; first | (refine za4 ?_; refine zav _ rfl ?_) | (refine zaf ?_; refine zaa _ rfl ?_) | (refine zbu ?_; first | (refine zb0 rfl rfl aO ?_) | (refine zbt _ rfl rfl rfl ?_) | (refine zaw _ rfl rfl rfl ?_)) | (refine g_un ?_; first | (refine zca rfl ?_) | (refine zb9 rfl aO ?_)) | (refine zbj ?_; first | (refine zae aA rfl ?_) | (refine zab _ aA rfl rfl aE rfl ?_) | (refine zac _ aA rfl aZ aL ?_) | (refine zad _ aA rfl rfl aE aZ aL ?_)) | (refine zbh ?_; first | (refine zao _ aA rfl rfl aO aA ?_) | (refine zan _ aA rfl rfl rfl rfl aO aO (by first | (rw [Nat.zero_add, Int.toNat_natCast]) | (rw [Nat.zero_add]) | rfl) ?_)) | (refine za6 ?_; first | (refine zbb aA rfl ?_) | (refine za8 aA rfl rfl ?_) | (refine za9 aA rfl ?_) | (refine zba aA (evO_ok rfl) ?_)) | (refine zau (hK _ _ (.inl rfl) ?_); clear hK K) | (refine zau (hK _ _ (.inr (by kernel_rfl)) ?_); clear hK K))
      | (refine za0 ?_; first | (refine zbq ?_) | (refine zah (fun K hK => ?_)) | (refine zas ?_) | (refine zaz ?_) | (refine zbo ?_) | (refine za3 ?_) | (refine zbk ?_; first | (refine zal rfl aD ?_) | (refine zam rfl aD ?_) | (refine zay rfl (fun h => ?_) (fun h => ?_) <;> (have h' := h; (try simp only [sx] at h')))))
      | (refine za1 ?_) | (refine zak ?_) | (refine zai ?_) | (refine zat ?_) | (refine zap ?_) | (refine zaq ?_) | (refine zar rfl ?_) | (refine zaj ?_) | (refine zag ?_) | (refine zbp ?_))
  refine zce [0, 1] [] (fun i : Nat => [(5, .int .i64 i)]) (fun i : Nat => []) (fun i : Nat => i ≤ xs.length ∧ ∀ x ∈ xs.take i, x ∈ ys) (fun i : Nat => xs.length - i) (0) rfl rfl (fun _ => rfl) (fun _ => rfl) rfl aW ⟨by omega, within_nil⟩ (fun i hi => ?_)
  obtain ⟨hi1, hi2⟩ := hi
  rcases Nat.lt_or_ge i xs.length with hlt | hge
  · obtain ⟨a, hga⟩ := get_ex hlt
    have hx := ints_at hga
    have kH := k_vHas ys a hm
    by_cases he : a ∈ ys
    · rw [decide_eq_true he] at kH
      repeat' (first
      | (refine za2 ?_; first | (refine za4 ?_; refine zav _ rfl ?_) | (refine zaf ?_; refine zaa _ rfl ?_) | (refine zbu ?_; first | (refine zb0 rfl rfl aO ?_) | (refine zbt _ rfl rfl rfl ?_) | (refine zaw _ rfl rfl rfl ?_)) | (refine g_un ?_; first | (refine zca rfl ?_) | (refine zb9 rfl aO ?_)) | (refine zbj ?_; first | (refine zae aA rfl ?_) | (refine zab _ aA rfl rfl aE rfl ?_) | (refine zac _ aA rfl aZ aL ?_) | (refine zad _ aA rfl rfl aE aZ aL ?_)) | (refine zbh ?_; first | (refine zao _ aA rfl rfl aO aA ?_) | (refine zan _ aA rfl rfl rfl rfl aO aO (by first | (rw [Nat.zero_add, Int.toNat_natCast]) | (rw [Nat.zero_add]) | rfl) ?_)) | (refine za6 ?_; first | (refine za5 true (kH) rfl rfl rfl aS rfl aH ?_; simp only [cl]) | (refine zbb aA rfl ?_) | (refine za8 aA rfl rfl ?_) | (refine za9 aA rfl ?_) | (refine zba aA (evO_ok rfl) ?_)) | (refine zau (hK _ _ (.inl rfl) ?_); clear hK K) | (refine zau (hK _ _ (.inr (by kernel_rfl)) ?_); clear hK K))
      | (refine za0 ?_; first | (refine zbq ?_) | (refine zah (fun K hK => ?_)) | (refine zas ?_) | (refine zaz ?_) | (refine zbo ?_) | (refine za3 ?_) | (refine zbk ?_; first | (refine zal rfl aD ?_) | (refine zam rfl aD ?_) | (refine zay rfl (fun h => ?_) (fun h => ?_) <;> (have h' := h; (try simp only [sx] at h')))))
      | (refine za1 ?_) | (refine zak ?_) | (refine zai ?_) | (refine zat ?_) | (refine zap ?_) | (refine zaq ?_) | (refine zar rfl ?_) | (refine zaj ?_) | (refine zag ?_) | (refine zbp ?_))
      all_goals first
        | (exfalso; omega)
        | (refine zcb (i + 1) rfl aW ⟨by omega, within_step hi2 hga he⟩ aO)
    · have hno : ¬ ∀ x ∈ xs, x ∈ ys := fun h => he (h a (get_mem hga))
      rw [decide_eq_false he] at kH
      repeat' (first
      | (refine za2 ?_; first | (refine za4 ?_; refine zav _ rfl ?_) | (refine zaf ?_; refine zaa _ rfl ?_) | (refine zbu ?_; first | (refine zb0 rfl rfl aO ?_) | (refine zbt _ rfl rfl rfl ?_) | (refine zaw _ rfl rfl rfl ?_)) | (refine g_un ?_; first | (refine zca rfl ?_) | (refine zb9 rfl aO ?_)) | (refine zbj ?_; first | (refine zae aA rfl ?_) | (refine zab _ aA rfl rfl aE rfl ?_) | (refine zac _ aA rfl aZ aL ?_) | (refine zad _ aA rfl rfl aE aZ aL ?_)) | (refine zbh ?_; first | (refine zao _ aA rfl rfl aO aA ?_) | (refine zan _ aA rfl rfl rfl rfl aO aO (by first | (rw [Nat.zero_add, Int.toNat_natCast]) | (rw [Nat.zero_add]) | rfl) ?_)) | (refine za6 ?_; first | (refine za5 true (kH) rfl rfl rfl aS rfl aH ?_; simp only [cl]) | (refine zbb aA rfl ?_) | (refine za8 aA rfl rfl ?_) | (refine za9 aA rfl ?_) | (refine zba aA (evO_ok rfl) ?_)) | (refine zau (hK _ _ (.inl rfl) ?_); clear hK K) | (refine zau (hK _ _ (.inr (by kernel_rfl)) ?_); clear hK K))
      | (refine za0 ?_; first | (refine zbq ?_) | (refine zah (fun K hK => ?_)) | (refine zas ?_) | (refine zaz ?_) | (refine zbo ?_) | (refine za3 ?_) | (refine zbk ?_; first | (refine zal rfl aD ?_) | (refine zam rfl aD ?_) | (refine zay rfl (fun h => ?_) (fun h => ?_) <;> (have h' := h; (try simp only [sx] at h')))))
      | (refine za1 ?_) | (refine zak ?_) | (refine zai ?_) | (refine zat ?_) | (refine zap ?_) | (refine zaq ?_) | (refine zar rfl ?_) | (refine zaj ?_) | (refine zag ?_) | (refine zbp ?_))
      all_goals first
        | (exfalso; omega)
        | exact zb8 rfl (zbr rfl) (by simp only [decide_eq_false hno])
  · rw [take_all hge] at hi2
    repeat' (first
      | (refine za2 ?_; first | (refine za4 ?_; refine zav _ rfl ?_) | (refine zaf ?_; refine zaa _ rfl ?_) | (refine zbu ?_; first | (refine zb0 rfl rfl aO ?_) | (refine zbt _ rfl rfl rfl ?_) | (refine zaw _ rfl rfl rfl ?_)) | (refine g_un ?_; first | (refine zca rfl ?_) | (refine zb9 rfl aO ?_)) | (refine zbj ?_; first | (refine zae aA rfl ?_) | (refine zab _ aA rfl rfl aE rfl ?_) | (refine zac _ aA rfl aZ aL ?_) | (refine zad _ aA rfl rfl aE aZ aL ?_)) | (refine zbh ?_; first | (refine zao _ aA rfl rfl aO aA ?_) | (refine zan _ aA rfl rfl rfl rfl aO aO (by first | (rw [Nat.zero_add, Int.toNat_natCast]) | (rw [Nat.zero_add]) | rfl) ?_)) | (refine za6 ?_; first | (refine zbb aA rfl ?_) | (refine za8 aA rfl rfl ?_) | (refine za9 aA rfl ?_) | (refine zba aA (evO_ok rfl) ?_)) | (refine zau (hK _ _ (.inl rfl) ?_); clear hK K) | (refine zau (hK _ _ (.inr (by kernel_rfl)) ?_); clear hK K))
      | (refine za0 ?_; first | (refine zbq ?_) | (refine zah (fun K hK => ?_)) | (refine zas ?_) | (refine zaz ?_) | (refine zbo ?_) | (refine za3 ?_) | (refine zbk ?_; first | (refine zal rfl aD ?_) | (refine zam rfl aD ?_) | (refine zay rfl (fun h => ?_) (fun h => ?_) <;> (have h' := h; (try simp only [sx] at h')))))
      | (refine za1 ?_) | (refine zak ?_) | (refine zai ?_) | (refine zat ?_) | (refine zap ?_) | (refine zaq ?_) | (refine zar rfl ?_) | (refine zaj ?_) | (refine zag ?_) | (refine zbp ?_))
    all_goals first
      | (exfalso; omega)
      | exact zb8 rfl (zbr rfl) (by simp only [decide_eq_true hi2])
end Go.Vs
set_option linter.unusedVariables false
set_option linter.unusedSimpArgs false
namespace Go.Vs
theorem vwp_mono {P : Program} : ∀ (c : Code) (s : St) (Q1 Q2 : Exit → St → Prop), (∀ e s, Q1 e s → Q2 e s) → vwp P c s Q1 → vwp P c s Q2 := by
  have emono : ∀ (ops : Array Oper) (draw : Bool) (l : List Oper) (s : St) (tr : List (List Id × List Id)) (K1 K2 : St → List (List Id × List Id) → Prop), (∀ s tr, K1 s tr → K2 s tr) → exec P ops draw l s tr K1 → exec P ops draw l s tr K2 := by
    intro ops draw l
    induction l with
    | nil => intro s tr K1 K2 hK h; exact hK _ _ h
    | cons o l ih =>
      intro s tr K1 K2 hK h
      rcases h with ⟨hw, h⟩ | ⟨hw, ⟨f, hs, h⟩ | ⟨t, al, fz, ids, rd, ios, Post, hc, ⟨hd, h⟩ | ⟨r, fin, hu, h⟩⟩⟩
      · exact .inl ⟨hw, ih _ _ _ _ hK h⟩
      · exact .inr ⟨hw, .inl ⟨f, hs, ih _ _ _ _ hK h⟩⟩
      · exact .inr ⟨hw, .inr ⟨t, al, fz, ids, rd, ios, Post, hc, .inl ⟨hd, fun r fin hp hl => ih _ _ _ _ hK (h r fin hp hl)⟩⟩⟩
      · exact .inr ⟨hw, .inr ⟨t, al, fz, ids, rd, ios, Post, hc, .inr ⟨r, fin, hu, ih _ _ _ _ hK h⟩⟩⟩
  intro c
  induction c with
  | skip => intro s Q1 Q2 hQ h; exact hQ _ _ h
  | ret => intro s Q1 Q2 hQ h; exact hQ _ _ h
  | exit id => intro s Q1 Q2 hQ h; exact hQ _ _ h
  | region id ops draw => intro s Q1 Q2 hQ h; exact emono ops draw _ _ _ _ _ (fun s tr h => ⟨h.1, hQ _ _ h.2⟩) h
  | seq x y ihx ihy =>
    intro s Q1 Q2 hQ h
    refine ihx s _ _ ?_ h
    intro e s he
    cases e with
    | normal => obtain ⟨s2, hs2, he⟩ := he; exact ⟨s2, hs2, ihy s2 _ _ hQ he⟩
    | _ => exact hQ _ _ he
  | cond c x y ihx ihy => intro s Q1 Q2 hQ h; obtain ⟨b, h0, h1, h2⟩ := h; exact ⟨b, h0, fun hb => ihx s _ _ hQ (h1 hb), fun hb => ihy s _ _ hQ (h2 hb)⟩
  | block id x ihx =>
    intro s Q1 Q2 hQ h
    refine ihx s _ _ ?_ h
    intro e s he
    cases e with
    | exit id' =>
      simp only at he ⊢
      split
      · rename_i hid; rw [if_pos hid] at he; exact hQ _ _ he
      · rename_i hid; rw [if_neg hid] at he; exact hQ _ _ he
    | _ => exact hQ _ _ he
  | loop x ihx =>
    intro s Q1 Q2 hQ h
    obtain ⟨I, m, s0, h0, h1, h2⟩ := h
    refine ⟨I, m, s0, h0, h1, fun s' hs' => ihx s' _ _ ?_ (h2 s' hs')⟩
    intro e s he
    cases e with
    | normal => exact he
    | _ => exact hQ _ _ he
  | _ => intro s Q1 Q2 hQ h; exact h.elim
def ckey : Code → Nat
  | .region id _ _ => id
  | .cond (.tmp t) _ _ => 1000000 + t
  | .block id _ => 2000000 + id
  | .seq x _ => 3000000 + ckey x
  | _ => 9000000
section
variable {P : Program} {st : St} {Q : Exit → St → Prop} {x y z : Code}
theorem v_seqN (d : Nat) (hd : Nat.beq (ckey x) d = false) (h : vwp P x st (thenQ P y Q)) : vwp P (.seq x y) st Q := zbq h
theorem v_cutK {α : Type} (live : List Nat) (no : List Id) (var : α → List (Nat × PV)) (memv : α → List (Id × Option Row)) (R : α → Prop)
    {kept : List (Nat × PV)} {keptM : List (Id × Option Row)} {full : α → List (Nat × PV)} {fullM : α → List (Id × Option Row)}
    (hk : keepO st.env live = some kept) (hkm : keepM st.mem no kept = some keptM) (hf : ∀ a, appO (var a) kept = some (full a)) (hfm : ∀ a, appO (memv a) keptM = some (fullM a))
    (hx : vwp P x st (loopQ (fun s => ∃ a', s = ⟨full a', fullM a'⟩ ∧ R a' ∧ (fun _ : α => 0) a' < 1) (fun _ => 0) 1 Q))
    (hy : ∀ a, R a → vwp P y ⟨full a, fullM a⟩ Q) : vwp P (.seq x y) st Q := by
  refine zbq (vwp_mono x st _ _ ?_ hx)
  intro e s he
  cases e with
  | normal =>
    obtain ⟨s3, h1, ⟨a, rfl, h2, _⟩, _⟩ := he
    exact ⟨_, h1, hy a h2⟩
  | _ => exact he
end
end Go.Vs
set_option linter.unusedVariables false
set_option linter.unusedSimpArgs false
set_option maxRecDepth 100000
set_option maxHeartbeats 4000000
namespace Go.Vs
open Go.Proofs
attribute [local irreducible] exec vwp thenQ blkQ loopQ RetPost
theorem BlzB.zz {b : Blz} (h : BlzB b) : SzB b ∧ b.src.length ≤ 1000000 := by
  have h1 := h.t.2.2
  have h2 := h.ps
  have h3 := h.src
  refine ⟨?_, by omega⟩
  constructor <;> omega
theorem law_FnFirePaths (code : List Int) (g : code.length ≤ 9223372036854775807) (hb : ∀ b ∈ code, 0 ≤ b ∧ b ≤ 255) : Con Try.prog 4 [.list 1 (bytesP code)] (.bool true) := by
  intro al
  refine za7 hmix Try.func4 rfl (by kernel_rfl) (by kernel_rfl) (Nat.le_of_ble_eq_true rfl) (fun row h => by cases h) ?_
  have hty_u22 := ty_u22
  have hty_s22 := ty_s22
  have hty_z26 := ty_z26
  have hty_t26 := ty_t26
  have hty_a26 := ty_a26
  have hty_u27 := ty_u27
  have hty_s27 := ty_s27
  have hty_u24 := ty_u24
  have hty_s24 := ty_s24
  have hty_u4 := ty_u4
  have hty_c3 := ty_c3
  have kb := k_vBig code g
  by_cases hbig : 65536 < code.length
  · rw [decide_eq_true hbig] at kb
    repeat' (first
      | (refine za2 ?_; first | (refine za4 ?_; refine zav _ rfl ?_) | (refine zaf ?_; refine zaa _ rfl ?_) | (refine zbu ?_; first | (refine zb0 rfl rfl aO ?_) | (refine zcg rfl rfl aO ?_) | (refine zbt _ rfl rfl rfl ?_) | (refine zbi aA rfl rfl ?_) | (refine zby aA rfl rfl ?_) | (refine zaw _ rfl rfl rfl ?_)) | (refine g_un ?_; first | (refine zca rfl ?_) | (refine zb9 rfl aO ?_)) | (refine zbj ?_; first | (refine zae aA rfl ?_) | (refine zab _ aA rfl rfl aE rfl ?_) | (refine zac _ aA rfl aZ aL ?_) | (refine zad _ aA rfl rfl aE aZ aL ?_)) | (refine zbh ?_; first | (refine zao _ aA rfl rfl aO aA ?_) | (refine zan _ aA rfl rfl rfl rfl aO aO (by first | (rw [Nat.zero_add, Int.toNat_natCast]) | (rw [Nat.zero_add]) | rfl) ?_)) | (refine zbw ?_; first | (refine zbc rfl aD rfl ?_) | (refine zbd rfl aD ?_) | (refine zbf rfl aD ?_) | (refine zbg rfl aD rfl ?_)) | (refine zbl ?_; first | (refine zbv rfl rfl aD ?_) | (refine zb5 rfl rfl aD ?_) | (refine zb6 rfl rfl ?_) | (refine zbe rfl rfl (fun h => ?_) (fun h => ?_) <;> (have h' := h; (try simp only [sx] at h')))) | (refine za6 ?_; first | (refine za5 true (kb) rfl rfl rfl aS rfl aH ?_; simp only [cl]) | (refine zbb aA rfl ?_) | (refine za8 aA rfl rfl ?_) | (refine za9 aA rfl ?_) | (refine zba aA (evO_ok rfl) ?_)) | (refine zcc _ aA rfl ?_) | (refine zb7 aA rfl ?_) | (refine zbs _ _ _ rfl rfl aE (by first | assumption | (exact TAgg.size aA)) rfl rfl rfl aZ rfl aL (by first | (first | (simp only [lx, Nat.reduceAdd]; first | done | rfl) | fail) | rfl) ?_) | (refine zcf _ rfl rfl ?_) | (refine zau (hK _ _ (.inl rfl) ?_); clear hK K) | (refine zau (hK _ _ (.inr (by kernel_rfl)) ?_); clear hK K))
      | (refine za0 ?_; first | (refine zbq ?_) | (refine zah (fun K hK => ?_)) | (refine zas ?_) | (refine zaz ?_) | (refine zbo ?_) | (refine za3 ?_) | (refine zbk ?_; first | (refine zal rfl aD ?_) | (refine zam rfl aD ?_) | (refine zay rfl (fun h => ?_) (fun h => ?_) <;> (have h' := h; (try simp only [sx] at h')))))
      | (refine za1 ?_) | (refine zak ?_) | (refine zai ?_) | (refine zat ?_) | (refine zap ?_) | (refine zaq ?_) | (refine zar rfl ?_) | (refine zaj ?_) | (refine zag ?_) | (refine zbp ?_))
    exact zb8 rfl (zbr rfl) rfl
  · rw [decide_eq_false hbig] at kb
    have hz : CodeOk code := ⟨by omega, hb⟩
    repeat' (first
      | (refine za2 ?_; first | (refine za4 ?_; refine zav _ rfl ?_) | (refine zaf ?_; refine zaa _ rfl ?_) | (refine zbu ?_; first | (refine zb0 rfl rfl aO ?_) | (refine zcg rfl rfl aO ?_) | (refine zbt _ rfl rfl rfl ?_) | (refine zbi aA rfl rfl ?_) | (refine zby aA rfl rfl ?_) | (refine zaw _ rfl rfl rfl ?_)) | (refine g_un ?_; first | (refine zca rfl ?_) | (refine zb9 rfl aO ?_)) | (refine zbj ?_; first | (refine zae aA rfl ?_) | (refine zab _ aA rfl rfl aE rfl ?_) | (refine zac _ aA rfl aZ aL ?_) | (refine zad _ aA rfl rfl aE aZ aL ?_)) | (refine zbh ?_; first | (refine zao _ aA rfl rfl aO aA ?_) | (refine zan _ aA rfl rfl rfl rfl aO aO (by first | (rw [Nat.zero_add, Int.toNat_natCast]) | (rw [Nat.zero_add]) | rfl) ?_)) | (refine zbw ?_; first | (refine zbc rfl aD rfl ?_) | (refine zbd rfl aD ?_) | (refine zbf rfl aD ?_) | (refine zbg rfl aD rfl ?_)) | (refine zbl ?_; first | (refine zbv rfl rfl aD ?_) | (refine zb5 rfl rfl aD ?_) | (refine zb6 rfl rfl ?_) | (refine zbe rfl rfl (fun h => ?_) (fun h => ?_) <;> (have h' := h; (try simp only [sx] at h')))) | (refine za6 ?_; first | (refine za5 true (kb) rfl rfl rfl aS rfl aH ?_; simp only [cl]) | (refine x_callLP [] (k_DrawFirePath code hz) rfl rfl (by (repeat' (first | exact trivial | refine ⟨⟨_, rfl, ?_⟩, ?_⟩ | exact .inl ⟨rfl, .inl rfl⟩ | exact .inr ⟨rfl, rfl, rfl, rfl, rfl, fun e he u hu => by (simp only [List.mem_cons, List.not_mem_nil, or_false] at he; subst he; simp only [List.mem_cons, List.not_mem_nil, or_false] at hu; subst hu; rfl)⟩ | exact .inl ⟨rfl, .inr (fun e he => by (simp only [List.mem_cons, List.not_mem_nil, or_false] at he; subst he; rfl))⟩ | fail)); first | done | fail) rfl rfl aS rfl (fun r_ fin_ hP_ => ?_); obtain ⟨b, c, ⟨rfl, rfl⟩, hB, hc⟩ := hP_; refine ⟨_, _, _, aH, rfl, ?_⟩; simp only [cl]) | (refine zbb aA rfl ?_) | (refine za8 aA rfl rfl ?_) | (refine za9 aA rfl ?_) | (refine zba aA (evO_ok rfl) ?_)) | (refine zcc _ aA rfl ?_) | (refine zb7 aA rfl ?_) | (refine zbs _ _ _ rfl rfl aE (by first | assumption | (exact TAgg.size aA)) rfl rfl rfl aZ rfl aL (by first | (first | (simp only [lx, Nat.reduceAdd]; first | done | rfl) | fail) | rfl) ?_) | (refine zcf _ rfl rfl ?_) | (refine zau (hK _ _ (.inl rfl) ?_); clear hK K) | (refine zau (hK _ _ (.inr (by kernel_rfl)) ?_); clear hK K))
      | (refine za0 ?_; first | (refine zbq ?_) | (refine zah (fun K hK => ?_)) | (refine zas ?_) | (refine zaz ?_) | (refine zbo ?_) | (refine za3 ?_) | (refine zbk ?_; first | (refine zal rfl aD ?_) | (refine zam rfl aD ?_) | (refine zay rfl (fun h => ?_) (fun h => ?_) <;> (have h' := h; (try simp only [sx] at h')))))
      | (refine za1 ?_) | (refine zak ?_) | (refine zai ?_) | (refine zat ?_) | (refine zap ?_) | (refine zaq ?_) | (refine zar rfl ?_) | (refine zaj ?_) | (refine zag ?_) | (refine zbp ?_))
    obtain ⟨z, hsl⟩ := hB.zz
    have hB1 := hB.t.2.2
    have kP1 := (Con.a (k_iFirePath b c z hsl)).frz rfl
    have kP2 := (Con.a (k_sFirePath b c z hsl)).frz rfl
    simp only [frz, frz2, List.map_cons, List.map_nil] at kP1 kP2
    have hpl := paL_len (b := b) (c := c)
    have kI := k_vIntsS (paL b c) aO
    have hpo := paO_of (b := b) (c := c)
    have hpi := paL_is (b := b) (c := c)
    generalize paL b c = P at *
    generalize paO b c = o at *
    repeat' (first
      | (refine za2 ?_; first | (refine za4 ?_; refine zav _ rfl ?_) | (refine zaf ?_; refine zaa _ rfl ?_) | (refine zbu ?_; first | (refine zb0 rfl rfl aO ?_) | (refine zcg rfl rfl aO ?_) | (refine zbt _ rfl rfl rfl ?_) | (refine zbi aA rfl rfl ?_) | (refine zby aA rfl rfl ?_) | (refine zaw _ rfl rfl rfl ?_)) | (refine g_un ?_; first | (refine zca rfl ?_) | (refine zb9 rfl aO ?_)) | (refine zbj ?_; first | (refine zae aA rfl ?_) | (refine zab _ aA rfl rfl aE rfl ?_) | (refine zac _ aA rfl aZ aL ?_) | (refine zad _ aA rfl rfl aE aZ aL ?_)) | (refine zbh ?_; first | (refine zao _ aA rfl rfl aO aA ?_) | (refine zan _ aA rfl rfl rfl rfl aO aO (by first | (rw [Nat.zero_add, Int.toNat_natCast]) | (rw [Nat.zero_add]) | rfl) ?_)) | (refine zbw ?_; first | (refine zbc rfl aD rfl ?_) | (refine zbd rfl aD ?_) | (refine zbf rfl aD ?_) | (refine zbg rfl aD rfl ?_)) | (refine zbl ?_; first | (refine zbv rfl rfl aD ?_) | (refine zb5 rfl rfl aD ?_) | (refine zb6 rfl rfl ?_) | (refine zbe rfl rfl (fun h => ?_) (fun h => ?_) <;> (have h' := h; (try simp only [sx] at h')))) | (refine za6 ?_; first | (refine zcp true (kP1) rfl rfl rfl rfl rfl aS rfl aH ?_; simp only [cl]) | (refine zcp true (kP2) rfl rfl rfl rfl rfl aS rfl aH ?_; simp only [cl]) | (refine za5 true (kI) rfl rfl rfl aS rfl aH ?_; simp only [cl]) | (refine zbb aA rfl ?_) | (refine za8 aA rfl rfl ?_) | (refine za9 aA rfl ?_) | (refine zba aA (evO_ok rfl) ?_)) | (refine zcc _ aA rfl ?_) | (refine zb7 aA rfl ?_) | (refine zbs _ _ _ rfl rfl aE (by first | assumption | (exact TAgg.size aA)) rfl rfl rfl aZ rfl aL (by first | (first | (simp only [lx, Nat.reduceAdd]; first | done | rfl) | fail) | rfl) ?_) | (refine zcf _ rfl rfl ?_) | (refine zau (hK _ _ (.inl rfl) ?_); clear hK K) | (refine zau (hK _ _ (.inr (by kernel_rfl)) ?_); clear hK K))
      | (refine za0 ?_; first | (refine v_seqN 3000008 rfl ?_) | (refine zah (fun K hK => ?_)) | (refine zas ?_) | (refine zaz ?_) | (refine zbo ?_) | (refine za3 ?_) | (refine zbk ?_; first | (refine zal rfl aD ?_) | (refine zam rfl aD ?_) | (refine zay rfl (fun h => ?_) (fun h => ?_) <;> (have h' := h; (try simp only [sx] at h')))))
      | (refine za1 ?_) | (refine zak ?_) | (refine zai ?_) | (refine zat ?_) | (refine zap ?_) | (refine zaq ?_) | (refine zar rfl ?_) | (refine zaj ?_) | (refine zag ?_) | (refine zbp ?_))
    all_goals try (exfalso; simp at *; done)
    refine v_cutK [0] [] (fun u_ : Unit => []) (fun u_ : Unit => []) (fun u_ : Unit => True) rfl rfl (fun _ => rfl) (fun _ => rfl) ?_ (fun u_ hu_ => ?_)
    · cases o
      · repeat' (first
      | (refine za2 ?_; first | (refine za4 ?_; refine zav _ rfl ?_) | (refine zaf ?_; refine zaa _ rfl ?_) | (refine zbu ?_; first | (refine zb0 rfl rfl aO ?_) | (refine zcg rfl rfl aO ?_) | (refine zbt _ rfl rfl rfl ?_) | (refine zbi aA rfl rfl ?_) | (refine zby aA rfl rfl ?_) | (refine zaw _ rfl rfl rfl ?_)) | (refine g_un ?_; first | (refine zca rfl ?_) | (refine zb9 rfl aO ?_)) | (refine zbj ?_; first | (refine zae aA rfl ?_) | (refine zab _ aA rfl rfl aE rfl ?_) | (refine zac _ aA rfl aZ aL ?_) | (refine zad _ aA rfl rfl aE aZ aL ?_)) | (refine zbh ?_; first | (refine zao _ aA rfl rfl aO aA ?_) | (refine zan _ aA rfl rfl rfl rfl aO aO (by first | (rw [Nat.zero_add, Int.toNat_natCast]) | (rw [Nat.zero_add]) | rfl) ?_)) | (refine zbw ?_; first | (refine zbc rfl aD rfl ?_) | (refine zbd rfl aD ?_) | (refine zbf rfl aD ?_) | (refine zbg rfl aD rfl ?_)) | (refine zbl ?_; first | (refine zbv rfl rfl aD ?_) | (refine zb5 rfl rfl aD ?_) | (refine zb6 rfl rfl ?_) | (refine zbe rfl rfl (fun h => ?_) (fun h => ?_) <;> (have h' := h; (try simp only [sx] at h')))) | (refine za6 ?_; first | (refine zbb aA rfl ?_) | (refine za8 aA rfl rfl ?_) | (refine za9 aA rfl ?_) | (refine zba aA (evO_ok rfl) ?_)) | (refine zcc _ aA rfl ?_) | (refine zb7 aA rfl ?_) | (refine zbs _ _ _ rfl rfl aE (by first | assumption | (exact TAgg.size aA)) rfl rfl rfl aZ rfl aL (by first | (first | (simp only [lx, Nat.reduceAdd]; first | done | rfl) | fail) | rfl) ?_) | (refine zcf _ rfl rfl ?_) | (refine zau (hK _ _ (.inl rfl) ?_); clear hK K) | (refine zau (hK _ _ (.inr (by kernel_rfl)) ?_); clear hK K))
      | (refine za0 ?_; first | (refine zbq ?_) | (refine zah (fun K hK => ?_)) | (refine zas ?_) | (refine zaz ?_) | (refine zbo ?_) | (refine za3 ?_) | (refine zbk ?_; first | (refine zal rfl aD ?_) | (refine zam rfl aD ?_) | (refine zay rfl (fun h => ?_) (fun h => ?_) <;> (have h' := h; (try simp only [sx] at h')))))
      | (refine za1 ?_) | (refine zak ?_) | (refine zai ?_) | (refine zat ?_) | (refine zap ?_) | (refine zaq ?_) | (refine zar rfl ?_) | (refine zaj ?_) | (refine zag ?_) | (refine zbp ?_))
        all_goals (refine zcb () rfl aW trivial (by decide))
      have hok := hpo rfl
      have hG := hok.1
      have hO := (hpi hok).1.ok hG hok.2.1 hok.2.2
      have kA := (Con.a (k_sArr b z)).frz rfl
      simp only [frz, frz2, List.map_cons, List.map_nil] at kA
      rw [show arL b = arr b by unfold arL; rw [if_pos hG], decide_eq_true hG] at kA
      have hal := arr_len hG
      have hl1 : (ints P).length = P.length := by simp
      have hl2 : (ints (arr b)).length = (arr b).length := by simp
      obtain ⟨s0, hs0, hsm⟩ := hO.beg
      have hx0 := ints_at hs0
      have hpos := hO.pos
      have hfin := ints_at hO.fin
      have e1 : (((ints P).length : Int) - 1).toNat = P.length - 1 := by rw [hl1]; omega
      rw [← e1] at hfin
      have kH0 := k_vHas b.src s0 aO
      rw [decide_eq_true hsm] at kH0
      repeat' (first
      | (refine za2 ?_; first | (refine za4 ?_; refine zav _ rfl ?_) | (refine zaf ?_; refine zaa _ rfl ?_) | (refine zbu ?_; first | (refine zb0 rfl rfl aO ?_) | (refine zcg rfl rfl aO ?_) | (refine zbt _ rfl rfl rfl ?_) | (refine zbi aA rfl rfl ?_) | (refine zby aA rfl rfl ?_) | (refine zaw _ rfl rfl rfl ?_)) | (refine g_un ?_; first | (refine zca rfl ?_) | (refine zb9 rfl aO ?_)) | (refine zbj ?_; first | (refine zae aA rfl ?_) | (refine zab _ aA rfl rfl aE rfl ?_) | (refine zac _ aA rfl aZ aL ?_) | (refine zad _ aA rfl rfl aE aZ aL ?_)) | (refine zbh ?_; first | (refine zao _ aA rfl rfl aO aA ?_) | (refine zan _ aA rfl rfl rfl rfl aO aO (by first | (rw [Nat.zero_add, Int.toNat_natCast]) | (rw [Nat.zero_add]) | rfl) ?_)) | (refine zbw ?_; first | (refine zbc rfl aD rfl ?_) | (refine zbd rfl aD ?_) | (refine zbf rfl aD ?_) | (refine zbg rfl aD rfl ?_)) | (refine zbl ?_; first | (refine zbv rfl rfl aD ?_) | (refine zb5 rfl rfl aD ?_) | (refine zb6 rfl rfl ?_) | (refine zbe rfl rfl (fun h => ?_) (fun h => ?_) <;> (have h' := h; (try simp only [sx] at h')))) | (refine za6 ?_; first | (refine zcp true (kA) rfl rfl rfl rfl rfl aS rfl aH ?_; simp only [cl]) | (refine za5 true (kH0) rfl rfl rfl aS rfl aH ?_; simp only [cl]) | (refine zbb aA rfl ?_) | (refine za8 aA rfl rfl ?_) | (refine za9 aA rfl ?_) | (refine zba aA (evO_ok rfl) ?_)) | (refine zcc _ aA rfl ?_) | (refine zb7 aA rfl ?_) | (refine zbs _ _ _ rfl rfl aE (by first | assumption | (exact TAgg.size aA)) rfl rfl rfl aZ rfl aL (by first | (first | (simp only [lx, Nat.reduceAdd]; first | done | rfl) | fail) | rfl) ?_) | (refine zcf _ rfl rfl ?_) | (refine zau (hK _ _ (.inl rfl) ?_); clear hK K) | (refine zau (hK _ _ (.inr (by kernel_rfl)) ?_); clear hK K))
      | (refine za0 ?_; first | (refine zbq ?_) | (refine zah (fun K hK => ?_)) | (refine zas ?_) | (refine zaz ?_) | (refine zbo ?_) | (refine za3 ?_) | (refine zbk ?_; first | (refine zal rfl aD ?_) | (refine zam rfl aD ?_) | (refine zay rfl (fun h => ?_) (fun h => ?_) <;> (have h' := h; (try simp only [sx] at h')))))
      | (refine za1 ?_) | (refine zak ?_) | (refine zai ?_) | (refine zat ?_) | (refine zap ?_) | (refine zaq ?_) | (refine zar rfl ?_) | (refine zaj ?_) | (refine zag ?_) | (refine zbp ?_))
      all_goals try (exfalso; omega)
      all_goals try (exfalso; simp at *; done)
      refine zce [0, 3, 5, 8, 12] [] (fun i : Nat => [(14, .int .i64 i)]) (fun i : Nat => []) (fun i : Nat => 1 ≤ i ∧ i ≤ P.length) (fun i : Nat => P.length - i) (1) rfl rfl (fun _ => rfl) (fun _ => rfl) rfl aW ⟨by omega, hpos⟩ (fun i hi => ?_)
      rcases Nat.lt_or_ge i P.length with hlt | hge
      · obtain ⟨y, hy⟩ := get_ex hlt
        obtain ⟨x, hx⟩ := get_ex (show i - 1 < P.length by omega)
        have hyy := ints_at hy
        have hxx := ints_at hx
        have e2 : ((i : Int) - 1).toNat = i - 1 := by omega
        rw [← e2] at hxx
        obtain ⟨g1, g2, g3⟩ := hO.stp (i - 1) x y hx (by rw [show i - 1 + 1 = i by omega]; exact hy)
        have cy := hO.cel y (get_mem hy)
        have cx := hO.cel x (get_mem hx)
        have cy' := cy.1
        have cx' := cx.1
        unfold IsCell at cy' cx'
        have hty := tv_int (T := arr b) (c := y) aO
        have htx := tv_int (T := arr b) (c := x) aO
        have kN := (Con.a (k_iNeighbors b.t y aO)).frz rfl
        simp only [frz, frz2, List.map_cons, List.map_nil] at kN
        have hNb : NbOk b.t y := ⟨hG.1.1, cy.1⟩
        rw [decide_eq_true hNb, show nbL b.t y = nears b.t y by rw [nbL, if_pos hNb]] at kN
        have hNl := nears_len b.t y
        have kH1 := k_vHas (nears b.t y) x aO
        rw [decide_eq_true g1] at kH1
        have kH2 := k_vHas b.src y aO
        rw [decide_eq_false g3] at kH2
        repeat' (first
      | (refine za2 ?_; first | (refine za4 ?_; refine zav _ rfl ?_) | (refine zaf ?_; refine zaa _ rfl ?_) | (refine zbu ?_; first | (refine zb0 rfl rfl aO ?_) | (refine zcg rfl rfl aO ?_) | (refine zbt _ rfl rfl rfl ?_) | (refine zbi aA rfl rfl ?_) | (refine zby aA rfl rfl ?_) | (refine zaw _ rfl rfl rfl ?_)) | (refine g_un ?_; first | (refine zca rfl ?_) | (refine zb9 rfl aO ?_)) | (refine zbj ?_; first | (refine zae aA rfl ?_) | (refine zab _ aA rfl rfl aE rfl ?_) | (refine zac _ aA rfl aZ aL ?_) | (refine zad _ aA rfl rfl aE aZ aL ?_)) | (refine zbh ?_; first | (refine zao _ aA rfl rfl aO aA ?_) | (refine zan _ aA rfl rfl rfl rfl aO aO (by first | (rw [Nat.zero_add, Int.toNat_natCast]) | (rw [Nat.zero_add]) | rfl) ?_)) | (refine zbw ?_; first | (refine zbc rfl aD rfl ?_) | (refine zbd rfl aD ?_) | (refine zbf rfl aD ?_) | (refine zbg rfl aD rfl ?_)) | (refine zbl ?_; first | (refine zbv rfl rfl aD ?_) | (refine zb5 rfl rfl aD ?_) | (refine zb6 rfl rfl ?_) | (refine zbe rfl rfl (fun h => ?_) (fun h => ?_) <;> (have h' := h; (try simp only [sx] at h')))) | (refine za6 ?_; first | (refine zcp true (kN) rfl rfl rfl rfl rfl aS rfl aH ?_; simp only [cl]) | (refine za5 true (kH1) rfl rfl rfl aS rfl aH ?_; simp only [cl]) | (refine za5 true (kH2) rfl rfl rfl aS rfl aH ?_; simp only [cl]) | (refine zbb aA rfl ?_) | (refine za8 aA rfl rfl ?_) | (refine za9 aA rfl ?_) | (refine zba aA (evO_ok rfl) ?_)) | (refine zcc _ aA rfl ?_) | (refine zb7 aA rfl ?_) | (refine zbs _ _ _ rfl rfl aE (by first | assumption | (exact TAgg.size aA)) rfl rfl rfl aZ rfl aL (by first | (first | (simp only [lx, Nat.reduceAdd]; first | done | rfl) | fail) | rfl) ?_) | (refine zcf _ rfl rfl ?_) | (refine zau (hK _ _ (.inl rfl) ?_); clear hK K) | (refine zau (hK _ _ (.inr (by kernel_rfl)) ?_); clear hK K))
      | (refine za0 ?_; first | (refine zbq ?_) | (refine zah (fun K hK => ?_)) | (refine zas ?_) | (refine zaz ?_) | (refine zbo ?_) | (refine za3 ?_) | (refine zbk ?_; first | (refine zal rfl aD ?_) | (refine zam rfl aD ?_) | (refine zay rfl (fun h => ?_) (fun h => ?_) <;> (have h' := h; (try simp only [sx] at h')))))
      | (refine za1 ?_) | (refine zak ?_) | (refine zai ?_) | (refine zat ?_) | (refine zap ?_) | (refine zaq ?_) | (refine zar rfl ?_) | (refine zaj ?_) | (refine zag ?_) | (refine zbp ?_))
        all_goals first
          | (exfalso; omega)
          | (exfalso; simp at *; done)
          | (refine zcb (i + 1) rfl aW ⟨by omega, by omega⟩ aO)
      · repeat' (first
      | (refine za2 ?_; first | (refine za4 ?_; refine zav _ rfl ?_) | (refine zaf ?_; refine zaa _ rfl ?_) | (refine zbu ?_; first | (refine zb0 rfl rfl aO ?_) | (refine zcg rfl rfl aO ?_) | (refine zbt _ rfl rfl rfl ?_) | (refine zbi aA rfl rfl ?_) | (refine zby aA rfl rfl ?_) | (refine zaw _ rfl rfl rfl ?_)) | (refine g_un ?_; first | (refine zca rfl ?_) | (refine zb9 rfl aO ?_)) | (refine zbj ?_; first | (refine zae aA rfl ?_) | (refine zab _ aA rfl rfl aE rfl ?_) | (refine zac _ aA rfl aZ aL ?_) | (refine zad _ aA rfl rfl aE aZ aL ?_)) | (refine zbh ?_; first | (refine zao _ aA rfl rfl aO aA ?_) | (refine zan _ aA rfl rfl rfl rfl aO aO (by first | (rw [Nat.zero_add, Int.toNat_natCast]) | (rw [Nat.zero_add]) | rfl) ?_)) | (refine zbw ?_; first | (refine zbc rfl aD rfl ?_) | (refine zbd rfl aD ?_) | (refine zbf rfl aD ?_) | (refine zbg rfl aD rfl ?_)) | (refine zbl ?_; first | (refine zbv rfl rfl aD ?_) | (refine zb5 rfl rfl aD ?_) | (refine zb6 rfl rfl ?_) | (refine zbe rfl rfl (fun h => ?_) (fun h => ?_) <;> (have h' := h; (try simp only [sx] at h')))) | (refine za6 ?_; first | (refine zbb aA rfl ?_) | (refine za8 aA rfl rfl ?_) | (refine za9 aA rfl ?_) | (refine zba aA (evO_ok rfl) ?_)) | (refine zcc _ aA rfl ?_) | (refine zb7 aA rfl ?_) | (refine zbs _ _ _ rfl rfl aE (by first | assumption | (exact TAgg.size aA)) rfl rfl rfl aZ rfl aL (by first | (first | (simp only [lx, Nat.reduceAdd]; first | done | rfl) | fail) | rfl) ?_) | (refine zcf _ rfl rfl ?_) | (refine zau (hK _ _ (.inl rfl) ?_); clear hK K) | (refine zau (hK _ _ (.inr (by kernel_rfl)) ?_); clear hK K))
      | (refine za0 ?_; first | (refine zbq ?_) | (refine zah (fun K hK => ?_)) | (refine zas ?_) | (refine zaz ?_) | (refine zbo ?_) | (refine za3 ?_) | (refine zbk ?_; first | (refine zal rfl aD ?_) | (refine zam rfl aD ?_) | (refine zay rfl (fun h => ?_) (fun h => ?_) <;> (have h' := h; (try simp only [sx] at h')))))
      | (refine za1 ?_) | (refine zak ?_) | (refine zai ?_) | (refine zat ?_) | (refine zap ?_) | (refine zaq ?_) | (refine zar rfl ?_) | (refine zaj ?_) | (refine zag ?_) | (refine zbp ?_))
        all_goals first
          | (exfalso; omega)
          | (refine zcb () rfl aW trivial (by decide))
    clear kP1 kP2 kI hpl hpo hpi
    repeat' (first
      | (refine za2 ?_; first | (refine za4 ?_; refine zav _ rfl ?_) | (refine zaf ?_; refine zaa _ rfl ?_) | (refine zbu ?_; first | (refine zb0 rfl rfl aO ?_) | (refine zcg rfl rfl aO ?_) | (refine zbt _ rfl rfl rfl ?_) | (refine zbi aA rfl rfl ?_) | (refine zby aA rfl rfl ?_) | (refine zaw _ rfl rfl rfl ?_)) | (refine g_un ?_; first | (refine zca rfl ?_) | (refine zb9 rfl aO ?_)) | (refine zbj ?_; first | (refine zae aA rfl ?_) | (refine zab _ aA rfl rfl aE rfl ?_) | (refine zac _ aA rfl aZ aL ?_) | (refine zad _ aA rfl rfl aE aZ aL ?_)) | (refine zbh ?_; first | (refine zao _ aA rfl rfl aO aA ?_) | (refine zan _ aA rfl rfl rfl rfl aO aO (by first | (rw [Nat.zero_add, Int.toNat_natCast]) | (rw [Nat.zero_add]) | rfl) ?_)) | (refine zbw ?_; first | (refine zbc rfl aD rfl ?_) | (refine zbd rfl aD ?_) | (refine zbf rfl aD ?_) | (refine zbg rfl aD rfl ?_)) | (refine zbl ?_; first | (refine zbv rfl rfl aD ?_) | (refine zb5 rfl rfl aD ?_) | (refine zb6 rfl rfl ?_) | (refine zbe rfl rfl (fun h => ?_) (fun h => ?_) <;> (have h' := h; (try simp only [sx] at h')))) | (refine za6 ?_; first | (refine x_callLP [] (k_DrawBurnedBy code hz) rfl rfl (by (repeat' (first | exact trivial | refine ⟨⟨_, rfl, ?_⟩, ?_⟩ | exact .inl ⟨rfl, .inl rfl⟩ | exact .inr ⟨rfl, rfl, rfl, rfl, rfl, fun e he u hu => by (simp only [List.mem_cons, List.not_mem_nil, or_false] at he; subst he; simp only [List.mem_cons, List.not_mem_nil, or_false] at hu; subst hu; rfl)⟩ | exact .inl ⟨rfl, .inr (fun e he => by (simp only [List.mem_cons, List.not_mem_nil, or_false] at he; subst he; rfl))⟩ | fail)); first | done | fail) rfl rfl aS rfl (fun r_ fin_ hP_ => ?_); obtain ⟨d, k, ⟨rfl, rfl⟩, hD, hk⟩ := hP_; refine ⟨_, _, _, aH, rfl, ?_⟩; simp only [cl]) | (refine zbb aA rfl ?_) | (refine za8 aA rfl rfl ?_) | (refine za9 aA rfl ?_) | (refine zba aA (evO_ok rfl) ?_)) | (refine zcc _ aA rfl ?_) | (refine zb7 aA rfl ?_) | (refine zbs _ _ _ rfl rfl aE (by first | assumption | (exact TAgg.size aA)) rfl rfl rfl aZ rfl aL (by first | (first | (simp only [lx, Nat.reduceAdd]; first | done | rfl) | fail) | rfl) ?_) | (refine zcf _ rfl rfl ?_) | (refine zau (hK _ _ (.inl rfl) ?_); clear hK K) | (refine zau (hK _ _ (.inr (by kernel_rfl)) ?_); clear hK K))
      | (refine za0 ?_; first | (refine zbq ?_) | (refine zah (fun K hK => ?_)) | (refine zas ?_) | (refine zaz ?_) | (refine zbo ?_) | (refine za3 ?_) | (refine zbk ?_; first | (refine zal rfl aD ?_) | (refine zam rfl aD ?_) | (refine zay rfl (fun h => ?_) (fun h => ?_) <;> (have h' := h; (try simp only [sx] at h')))))
      | (refine za1 ?_) | (refine zak ?_) | (refine zai ?_) | (refine zat ?_) | (refine zap ?_) | (refine zaq ?_) | (refine zar rfl ?_) | (refine zaj ?_) | (refine zag ?_) | (refine zbp ?_))
    obtain ⟨zd, hsd⟩ := hD.zz
    have hD1 := hD.t.2.2
    have kB1 := (Con.a (k_iBurnedBy d zd k)).frz rfl
    have kB2 := (Con.a (k_sBurnedBy d zd k)).frz rfl
    have kB3 := (Con.a (k_iBurnedBy d zd (k + 1))).frz rfl
    simp only [frz, frz2, List.map_cons, List.map_nil] at kB1 kB2 kB3
    have hl1 := buL_len (b := d) (k := k)
    have hl2 := buL_len (b := d) (k := k + 1)
    have kI := k_vIntsS (buL d k) aO
    have kW := k_vWithin (buL d k) (buL d (k + 1)) aO aO
    have hW : decide (BuOk d k) = true → decide (BuOk d (k + 1)) = true → decide (∀ x ∈ buL d k, x ∈ buL d (k + 1)) = true := fun h1 h2 => by
      have h1 := of_decide_eq_true h1
      have h2 := of_decide_eq_true h2
      refine decide_eq_true ?_
      unfold buL
      rw [if_pos h1, if_pos h2]
      exact burL_mono aO
    generalize decide (∀ x ∈ buL d k, x ∈ buL d (k + 1)) = w at *
    generalize buL d k = L1 at *
    generalize buL d (k + 1) = L2 at *
    generalize decide (BuOk d k) = o1 at *
    generalize decide (BuOk d (k + 1)) = o2 at *
    repeat' (first
      | (refine za2 ?_; first | (refine za4 ?_; refine zav _ rfl ?_) | (refine zaf ?_; refine zaa _ rfl ?_) | (refine zbu ?_; first | (refine zb0 rfl rfl aO ?_) | (refine zcg rfl rfl aO ?_) | (refine zbt _ rfl rfl rfl ?_) | (refine zbi aA rfl rfl ?_) | (refine zby aA rfl rfl ?_) | (refine zaw _ rfl rfl rfl ?_)) | (refine g_un ?_; first | (refine zca rfl ?_) | (refine zb9 rfl aO ?_)) | (refine zbj ?_; first | (refine zae aA rfl ?_) | (refine zab _ aA rfl rfl aE rfl ?_) | (refine zac _ aA rfl aZ aL ?_) | (refine zad _ aA rfl rfl aE aZ aL ?_)) | (refine zbh ?_; first | (refine zao _ aA rfl rfl aO aA ?_) | (refine zan _ aA rfl rfl rfl rfl aO aO (by first | (rw [Nat.zero_add, Int.toNat_natCast]) | (rw [Nat.zero_add]) | rfl) ?_)) | (refine zbw ?_; first | (refine zbc rfl aD rfl ?_) | (refine zbd rfl aD ?_) | (refine zbf rfl aD ?_) | (refine zbg rfl aD rfl ?_)) | (refine zbl ?_; first | (refine zbv rfl rfl aD ?_) | (refine zb5 rfl rfl aD ?_) | (refine zb6 rfl rfl ?_) | (refine zbe rfl rfl (fun h => ?_) (fun h => ?_) <;> (have h' := h; (try simp only [sx] at h')))) | (refine za6 ?_; first | (refine zcp true (kB1) rfl rfl rfl rfl rfl aS rfl aH ?_; simp only [cl]) | (refine zcp true (kB2) rfl rfl rfl rfl rfl aS rfl aH ?_; simp only [cl]) | (refine za5 true (kI) rfl rfl rfl aS rfl aH ?_; simp only [cl]) | (refine zbb aA rfl ?_) | (refine za8 aA rfl rfl ?_) | (refine za9 aA rfl ?_) | (refine zba aA (evO_ok rfl) ?_)) | (refine zcc _ aA rfl ?_) | (refine zb7 aA rfl ?_) | (refine zbs _ _ _ rfl rfl aE (by first | assumption | (exact TAgg.size aA)) rfl rfl rfl aZ rfl aL (by first | (first | (simp only [lx, Nat.reduceAdd]; first | done | rfl) | fail) | rfl) ?_) | (refine zcf _ rfl rfl ?_) | (refine zau (hK _ _ (.inl rfl) ?_); clear hK K) | (refine zau (hK _ _ (.inr (by kernel_rfl)) ?_); clear hK K))
      | (refine za0 ?_; first | (refine v_seqN 3000023 rfl ?_) | (refine zah (fun K hK => ?_)) | (refine zas ?_) | (refine zaz ?_) | (refine zbo ?_) | (refine za3 ?_) | (refine zbk ?_; first | (refine zal rfl aD ?_) | (refine zam rfl aD ?_) | (refine zay rfl (fun h => ?_) (fun h => ?_) <;> (have h' := h; (try simp only [sx] at h')))))
      | (refine za1 ?_) | (refine zak ?_) | (refine zai ?_) | (refine zat ?_) | (refine zap ?_) | (refine zaq ?_) | (refine zar rfl ?_) | (refine zaj ?_) | (refine zag ?_) | (refine zbp ?_))
    all_goals try (exfalso; simp at *; done)
    refine v_cutK [0] [] (fun u_ : Unit => []) (fun u_ : Unit => []) (fun u_ : Unit => True) rfl rfl (fun _ => rfl) (fun _ => rfl) ?_ (fun u_ hu_ => ?_)
    · cases o1
      · repeat' (first
      | (refine za2 ?_; first | (refine za4 ?_; refine zav _ rfl ?_) | (refine zaf ?_; refine zaa _ rfl ?_) | (refine zbu ?_; first | (refine zb0 rfl rfl aO ?_) | (refine zcg rfl rfl aO ?_) | (refine zbt _ rfl rfl rfl ?_) | (refine zbi aA rfl rfl ?_) | (refine zby aA rfl rfl ?_) | (refine zaw _ rfl rfl rfl ?_)) | (refine g_un ?_; first | (refine zca rfl ?_) | (refine zb9 rfl aO ?_)) | (refine zbj ?_; first | (refine zae aA rfl ?_) | (refine zab _ aA rfl rfl aE rfl ?_) | (refine zac _ aA rfl aZ aL ?_) | (refine zad _ aA rfl rfl aE aZ aL ?_)) | (refine zbh ?_; first | (refine zao _ aA rfl rfl aO aA ?_) | (refine zan _ aA rfl rfl rfl rfl aO aO (by first | (rw [Nat.zero_add, Int.toNat_natCast]) | (rw [Nat.zero_add]) | rfl) ?_)) | (refine zbw ?_; first | (refine zbc rfl aD rfl ?_) | (refine zbd rfl aD ?_) | (refine zbf rfl aD ?_) | (refine zbg rfl aD rfl ?_)) | (refine zbl ?_; first | (refine zbv rfl rfl aD ?_) | (refine zb5 rfl rfl aD ?_) | (refine zb6 rfl rfl ?_) | (refine zbe rfl rfl (fun h => ?_) (fun h => ?_) <;> (have h' := h; (try simp only [sx] at h')))) | (refine za6 ?_; first | (refine zcp true (kB3) rfl rfl rfl rfl rfl aS rfl aH ?_; simp only [cl]) | (refine zbb aA rfl ?_) | (refine za8 aA rfl rfl ?_) | (refine za9 aA rfl ?_) | (refine zba aA (evO_ok rfl) ?_)) | (refine zcc _ aA rfl ?_) | (refine zb7 aA rfl ?_) | (refine zbs _ _ _ rfl rfl aE (by first | assumption | (exact TAgg.size aA)) rfl rfl rfl aZ rfl aL (by first | (first | (simp only [lx, Nat.reduceAdd]; first | done | rfl) | fail) | rfl) ?_) | (refine zcf _ rfl rfl ?_) | (refine zau (hK _ _ (.inl rfl) ?_); clear hK K) | (refine zau (hK _ _ (.inr (by kernel_rfl)) ?_); clear hK K))
      | (refine za0 ?_; first | (refine zbq ?_) | (refine zah (fun K hK => ?_)) | (refine zas ?_) | (refine zaz ?_) | (refine zbo ?_) | (refine za3 ?_) | (refine zbk ?_; first | (refine zal rfl aD ?_) | (refine zam rfl aD ?_) | (refine zay rfl (fun h => ?_) (fun h => ?_) <;> (have h' := h; (try simp only [sx] at h')))))
      | (refine za1 ?_) | (refine zak ?_) | (refine zai ?_) | (refine zat ?_) | (refine zap ?_) | (refine zaq ?_) | (refine zar rfl ?_) | (refine zaj ?_) | (refine zag ?_) | (refine zbp ?_))
        all_goals first
          | (exfalso; simp at *; done)
          | (refine zcb () rfl aW trivial (by decide))
      · cases o2
        · repeat' (first
      | (refine za2 ?_; first | (refine za4 ?_; refine zav _ rfl ?_) | (refine zaf ?_; refine zaa _ rfl ?_) | (refine zbu ?_; first | (refine zb0 rfl rfl aO ?_) | (refine zcg rfl rfl aO ?_) | (refine zbt _ rfl rfl rfl ?_) | (refine zbi aA rfl rfl ?_) | (refine zby aA rfl rfl ?_) | (refine zaw _ rfl rfl rfl ?_)) | (refine g_un ?_; first | (refine zca rfl ?_) | (refine zb9 rfl aO ?_)) | (refine zbj ?_; first | (refine zae aA rfl ?_) | (refine zab _ aA rfl rfl aE rfl ?_) | (refine zac _ aA rfl aZ aL ?_) | (refine zad _ aA rfl rfl aE aZ aL ?_)) | (refine zbh ?_; first | (refine zao _ aA rfl rfl aO aA ?_) | (refine zan _ aA rfl rfl rfl rfl aO aO (by first | (rw [Nat.zero_add, Int.toNat_natCast]) | (rw [Nat.zero_add]) | rfl) ?_)) | (refine zbw ?_; first | (refine zbc rfl aD rfl ?_) | (refine zbd rfl aD ?_) | (refine zbf rfl aD ?_) | (refine zbg rfl aD rfl ?_)) | (refine zbl ?_; first | (refine zbv rfl rfl aD ?_) | (refine zb5 rfl rfl aD ?_) | (refine zb6 rfl rfl ?_) | (refine zbe rfl rfl (fun h => ?_) (fun h => ?_) <;> (have h' := h; (try simp only [sx] at h')))) | (refine za6 ?_; first | (refine zcp true (kB3) rfl rfl rfl rfl rfl aS rfl aH ?_; simp only [cl]) | (refine zbb aA rfl ?_) | (refine za8 aA rfl rfl ?_) | (refine za9 aA rfl ?_) | (refine zba aA (evO_ok rfl) ?_)) | (refine zcc _ aA rfl ?_) | (refine zb7 aA rfl ?_) | (refine zbs _ _ _ rfl rfl aE (by first | assumption | (exact TAgg.size aA)) rfl rfl rfl aZ rfl aL (by first | (first | (simp only [lx, Nat.reduceAdd]; first | done | rfl) | fail) | rfl) ?_) | (refine zcf _ rfl rfl ?_) | (refine zau (hK _ _ (.inl rfl) ?_); clear hK K) | (refine zau (hK _ _ (.inr (by kernel_rfl)) ?_); clear hK K))
      | (refine za0 ?_; first | (refine zbq ?_) | (refine zah (fun K hK => ?_)) | (refine zas ?_) | (refine zaz ?_) | (refine zbo ?_) | (refine za3 ?_) | (refine zbk ?_; first | (refine zal rfl aD ?_) | (refine zam rfl aD ?_) | (refine zay rfl (fun h => ?_) (fun h => ?_) <;> (have h' := h; (try simp only [sx] at h')))))
      | (refine za1 ?_) | (refine zak ?_) | (refine zai ?_) | (refine zat ?_) | (refine zap ?_) | (refine zaq ?_) | (refine zar rfl ?_) | (refine zaj ?_) | (refine zag ?_) | (refine zbp ?_))
          all_goals first
            | (exfalso; simp at *; done)
            | (refine zcb () rfl aW trivial (by decide))
        · rw [hW rfl rfl] at kW
          repeat' (first
      | (refine za2 ?_; first | (refine za4 ?_; refine zav _ rfl ?_) | (refine zaf ?_; refine zaa _ rfl ?_) | (refine zbu ?_; first | (refine zb0 rfl rfl aO ?_) | (refine zcg rfl rfl aO ?_) | (refine zbt _ rfl rfl rfl ?_) | (refine zbi aA rfl rfl ?_) | (refine zby aA rfl rfl ?_) | (refine zaw _ rfl rfl rfl ?_)) | (refine g_un ?_; first | (refine zca rfl ?_) | (refine zb9 rfl aO ?_)) | (refine zbj ?_; first | (refine zae aA rfl ?_) | (refine zab _ aA rfl rfl aE rfl ?_) | (refine zac _ aA rfl aZ aL ?_) | (refine zad _ aA rfl rfl aE aZ aL ?_)) | (refine zbh ?_; first | (refine zao _ aA rfl rfl aO aA ?_) | (refine zan _ aA rfl rfl rfl rfl aO aO (by first | (rw [Nat.zero_add, Int.toNat_natCast]) | (rw [Nat.zero_add]) | rfl) ?_)) | (refine zbw ?_; first | (refine zbc rfl aD rfl ?_) | (refine zbd rfl aD ?_) | (refine zbf rfl aD ?_) | (refine zbg rfl aD rfl ?_)) | (refine zbl ?_; first | (refine zbv rfl rfl aD ?_) | (refine zb5 rfl rfl aD ?_) | (refine zb6 rfl rfl ?_) | (refine zbe rfl rfl (fun h => ?_) (fun h => ?_) <;> (have h' := h; (try simp only [sx] at h')))) | (refine za6 ?_; first | (refine zcp true (kB3) rfl rfl rfl rfl rfl aS rfl aH ?_; simp only [cl]) | (refine za5 true (kW) rfl rfl rfl aS rfl aH ?_; simp only [cl]) | (refine zbb aA rfl ?_) | (refine za8 aA rfl rfl ?_) | (refine za9 aA rfl ?_) | (refine zba aA (evO_ok rfl) ?_)) | (refine zcc _ aA rfl ?_) | (refine zb7 aA rfl ?_) | (refine zbs _ _ _ rfl rfl aE (by first | assumption | (exact TAgg.size aA)) rfl rfl rfl aZ rfl aL (by first | (first | (simp only [lx, Nat.reduceAdd]; first | done | rfl) | fail) | rfl) ?_) | (refine zcf _ rfl rfl ?_) | (refine zau (hK _ _ (.inl rfl) ?_); clear hK K) | (refine zau (hK _ _ (.inr (by kernel_rfl)) ?_); clear hK K))
      | (refine za0 ?_; first | (refine zbq ?_) | (refine zah (fun K hK => ?_)) | (refine zas ?_) | (refine zaz ?_) | (refine zbo ?_) | (refine za3 ?_) | (refine zbk ?_; first | (refine zal rfl aD ?_) | (refine zam rfl aD ?_) | (refine zay rfl (fun h => ?_) (fun h => ?_) <;> (have h' := h; (try simp only [sx] at h')))))
      | (refine za1 ?_) | (refine zak ?_) | (refine zai ?_) | (refine zat ?_) | (refine zap ?_) | (refine zaq ?_) | (refine zar rfl ?_) | (refine zaj ?_) | (refine zag ?_) | (refine zbp ?_))
          all_goals first
            | (exfalso; simp at *; done)
            | (refine zcb () rfl aW trivial (by decide))
    clear kB1 kB2 kB3 kI kW hW hl1 hl2
    repeat' (first
      | (refine za2 ?_; first | (refine za4 ?_; refine zav _ rfl ?_) | (refine zaf ?_; refine zaa _ rfl ?_) | (refine zbu ?_; first | (refine zb0 rfl rfl aO ?_) | (refine zcg rfl rfl aO ?_) | (refine zbt _ rfl rfl rfl ?_) | (refine zbi aA rfl rfl ?_) | (refine zby aA rfl rfl ?_) | (refine zaw _ rfl rfl rfl ?_)) | (refine g_un ?_; first | (refine zca rfl ?_) | (refine zb9 rfl aO ?_)) | (refine zbj ?_; first | (refine zae aA rfl ?_) | (refine zab _ aA rfl rfl aE rfl ?_) | (refine zac _ aA rfl aZ aL ?_) | (refine zad _ aA rfl rfl aE aZ aL ?_)) | (refine zbh ?_; first | (refine zao _ aA rfl rfl aO aA ?_) | (refine zan _ aA rfl rfl rfl rfl aO aO (by first | (rw [Nat.zero_add, Int.toNat_natCast]) | (rw [Nat.zero_add]) | rfl) ?_)) | (refine zbw ?_; first | (refine zbc rfl aD rfl ?_) | (refine zbd rfl aD ?_) | (refine zbf rfl aD ?_) | (refine zbg rfl aD rfl ?_)) | (refine zbl ?_; first | (refine zbv rfl rfl aD ?_) | (refine zb5 rfl rfl aD ?_) | (refine zb6 rfl rfl ?_) | (refine zbe rfl rfl (fun h => ?_) (fun h => ?_) <;> (have h' := h; (try simp only [sx] at h')))) | (refine za6 ?_; first | (refine x_callLP [] (k_DrawLastArrival code hz) rfl rfl (by (repeat' (first | exact trivial | refine ⟨⟨_, rfl, ?_⟩, ?_⟩ | exact .inl ⟨rfl, .inl rfl⟩ | exact .inr ⟨rfl, rfl, rfl, rfl, rfl, fun e he u hu => by (simp only [List.mem_cons, List.not_mem_nil, or_false] at he; subst he; simp only [List.mem_cons, List.not_mem_nil, or_false] at hu; subst hu; rfl)⟩ | exact .inl ⟨rfl, .inr (fun e he => by (simp only [List.mem_cons, List.not_mem_nil, or_false] at he; subst he; rfl))⟩ | fail)); first | done | fail) rfl rfl aS rfl (fun r_ fin_ hP_ => ?_); obtain ⟨f, ⟨rfl, rfl⟩, hF⟩ := hP_; refine ⟨_, _, _, aH, rfl, ?_⟩; simp only [cl]) | (refine zbb aA rfl ?_) | (refine za8 aA rfl rfl ?_) | (refine za9 aA rfl ?_) | (refine zba aA (evO_ok rfl) ?_)) | (refine zcc _ aA rfl ?_) | (refine zb7 aA rfl ?_) | (refine zbs _ _ _ rfl rfl aE (by first | assumption | (exact TAgg.size aA)) rfl rfl rfl aZ rfl aL (by first | (first | (simp only [lx, Nat.reduceAdd]; first | done | rfl) | fail) | rfl) ?_) | (refine zcf _ rfl rfl ?_) | (refine zau (hK _ _ (.inl rfl) ?_); clear hK K) | (refine zau (hK _ _ (.inr (by kernel_rfl)) ?_); clear hK K))
      | (refine za0 ?_; first | (refine zbq ?_) | (refine zah (fun K hK => ?_)) | (refine zas ?_) | (refine zaz ?_) | (refine zbo ?_) | (refine za3 ?_) | (refine zbk ?_; first | (refine zal rfl aD ?_) | (refine zam rfl aD ?_) | (refine zay rfl (fun h => ?_) (fun h => ?_) <;> (have h' := h; (try simp only [sx] at h')))))
      | (refine za1 ?_) | (refine zak ?_) | (refine zai ?_) | (refine zat ?_) | (refine zap ?_) | (refine zaq ?_) | (refine zar rfl ?_) | (refine zaj ?_) | (refine zag ?_) | (refine zbp ?_))
    obtain ⟨zf, hsf⟩ := hF.zz
    have hF1 := hF.t.2.2
    have kL1 := k_iLast f zf
    have kL2 := k_sLast f zf
    have hla := laO_of (b := f)
    unfold laRes at kL1 kL2
    have hlv : laO f = true → laV f = mxL (arr f) := fun h => by unfold laV; rw [if_pos h]
    generalize laV f = v at *
    generalize laO f = o3 at *
    repeat' (first
      | (refine za2 ?_; first | (refine za4 ?_; refine zav _ rfl ?_) | (refine zaf ?_; refine zaa _ rfl ?_) | (refine zbu ?_; first | (refine zb0 rfl rfl aO ?_) | (refine zcg rfl rfl aO ?_) | (refine zbt _ rfl rfl rfl ?_) | (refine zbi aA rfl rfl ?_) | (refine zby aA rfl rfl ?_) | (refine zaw _ rfl rfl rfl ?_)) | (refine g_un ?_; first | (refine zca rfl ?_) | (refine zb9 rfl aO ?_)) | (refine zbj ?_; first | (refine zae aA rfl ?_) | (refine zab _ aA rfl rfl aE rfl ?_) | (refine zac _ aA rfl aZ aL ?_) | (refine zad _ aA rfl rfl aE aZ aL ?_)) | (refine zbh ?_; first | (refine zao _ aA rfl rfl aO aA ?_) | (refine zan _ aA rfl rfl rfl rfl aO aO (by first | (rw [Nat.zero_add, Int.toNat_natCast]) | (rw [Nat.zero_add]) | rfl) ?_)) | (refine zbw ?_; first | (refine zbc rfl aD rfl ?_) | (refine zbd rfl aD ?_) | (refine zbf rfl aD ?_) | (refine zbg rfl aD rfl ?_)) | (refine zbl ?_; first | (refine zbv rfl rfl aD ?_) | (refine zb5 rfl rfl aD ?_) | (refine zb6 rfl rfl ?_) | (refine zbe rfl rfl (fun h => ?_) (fun h => ?_) <;> (have h' := h; (try simp only [sx] at h')))) | (refine za6 ?_; first | (refine za5 true (kL1) rfl rfl rfl aS rfl aH ?_; simp only [cl]) | (refine za5 true (kL2) rfl rfl rfl aS rfl aH ?_; simp only [cl]) | (refine zbb aA rfl ?_) | (refine za8 aA rfl rfl ?_) | (refine za9 aA rfl ?_) | (refine zba aA (evO_ok rfl) ?_)) | (refine zcc _ aA rfl ?_) | (refine zb7 aA rfl ?_) | (refine zbs _ _ _ rfl rfl aE (by first | assumption | (exact TAgg.size aA)) rfl rfl rfl aZ rfl aL (by first | (first | (simp only [lx, Nat.reduceAdd]; first | done | rfl) | fail) | rfl) ?_) | (refine zcf _ rfl rfl ?_) | (refine zau (hK _ _ (.inl rfl) ?_); clear hK K) | (refine zau (hK _ _ (.inr (by kernel_rfl)) ?_); clear hK K))
      | (refine za0 ?_; first | (refine v_seqN 3000031 rfl ?_) | (refine zah (fun K hK => ?_)) | (refine zas ?_) | (refine zaz ?_) | (refine zbo ?_) | (refine za3 ?_) | (refine zbk ?_; first | (refine zal rfl aD ?_) | (refine zam rfl aD ?_) | (refine zay rfl (fun h => ?_) (fun h => ?_) <;> (have h' := h; (try simp only [sx] at h')))))
      | (refine za1 ?_) | (refine zak ?_) | (refine zai ?_) | (refine zat ?_) | (refine zap ?_) | (refine zaq ?_) | (refine zar rfl ?_) | (refine zaj ?_) | (refine zag ?_) | (refine zbp ?_))
    all_goals try (exfalso; omega)
    all_goals try (exfalso; simp at *; done)
    refine v_cutK [0] [] (fun u_ : Unit => []) (fun u_ : Unit => []) (fun u_ : Unit => True) rfl rfl (fun _ => rfl) (fun _ => rfl) ?_ (fun u_ hu_ => ?_)
    · cases o3
      · repeat' (first
      | (refine za2 ?_; first | (refine za4 ?_; refine zav _ rfl ?_) | (refine zaf ?_; refine zaa _ rfl ?_) | (refine zbu ?_; first | (refine zb0 rfl rfl aO ?_) | (refine zcg rfl rfl aO ?_) | (refine zbt _ rfl rfl rfl ?_) | (refine zbi aA rfl rfl ?_) | (refine zby aA rfl rfl ?_) | (refine zaw _ rfl rfl rfl ?_)) | (refine g_un ?_; first | (refine zca rfl ?_) | (refine zb9 rfl aO ?_)) | (refine zbj ?_; first | (refine zae aA rfl ?_) | (refine zab _ aA rfl rfl aE rfl ?_) | (refine zac _ aA rfl aZ aL ?_) | (refine zad _ aA rfl rfl aE aZ aL ?_)) | (refine zbh ?_; first | (refine zao _ aA rfl rfl aO aA ?_) | (refine zan _ aA rfl rfl rfl rfl aO aO (by first | (rw [Nat.zero_add, Int.toNat_natCast]) | (rw [Nat.zero_add]) | rfl) ?_)) | (refine zbw ?_; first | (refine zbc rfl aD rfl ?_) | (refine zbd rfl aD ?_) | (refine zbf rfl aD ?_) | (refine zbg rfl aD rfl ?_)) | (refine zbl ?_; first | (refine zbv rfl rfl aD ?_) | (refine zb5 rfl rfl aD ?_) | (refine zb6 rfl rfl ?_) | (refine zbe rfl rfl (fun h => ?_) (fun h => ?_) <;> (have h' := h; (try simp only [sx] at h')))) | (refine za6 ?_; first | (refine zbb aA rfl ?_) | (refine za8 aA rfl rfl ?_) | (refine za9 aA rfl ?_) | (refine zba aA (evO_ok rfl) ?_)) | (refine zcc _ aA rfl ?_) | (refine zb7 aA rfl ?_) | (refine zbs _ _ _ rfl rfl aE (by first | assumption | (exact TAgg.size aA)) rfl rfl rfl aZ rfl aL (by first | (first | (simp only [lx, Nat.reduceAdd]; first | done | rfl) | fail) | rfl) ?_) | (refine zcf _ rfl rfl ?_) | (refine zau (hK _ _ (.inl rfl) ?_); clear hK K) | (refine zau (hK _ _ (.inr (by kernel_rfl)) ?_); clear hK K))
      | (refine za0 ?_; first | (refine zbq ?_) | (refine zah (fun K hK => ?_)) | (refine zas ?_) | (refine zaz ?_) | (refine zbo ?_) | (refine za3 ?_) | (refine zbk ?_; first | (refine zal rfl aD ?_) | (refine zam rfl aD ?_) | (refine zay rfl (fun h => ?_) (fun h => ?_) <;> (have h' := h; (try simp only [sx] at h')))))
      | (refine za1 ?_) | (refine zak ?_) | (refine zai ?_) | (refine zat ?_) | (refine zap ?_) | (refine zaq ?_) | (refine zar rfl ?_) | (refine zaj ?_) | (refine zag ?_) | (refine zbp ?_))
        all_goals (refine zcb () rfl aW trivial (by decide))
      have hok := hla rfl
      have hG := hok.1
      have hv := hlv rfl
      subst hv
      have hmx := mx_some hG hok.2
      have kB := (Con.a (k_iBurnedBy f zf (mxL (arr f)))).frz rfl
      have kR := (Con.a (k_iReachable f.t f.src aO aO)).frz rfl
      simp only [frz, frz2, List.map_cons, List.map_nil] at kB kR
      have hbu : BuOk f (mxL (arr f)) := ⟨hG, by omega, by omega⟩
      have hso : SetOk f.t f.src := hG.1
      rw [decide_eq_true hbu, show buL f (mxL (arr f)) = rcL f.t f.src by unfold buL; rw [if_pos hbu]; exact bur_all hG] at kB
      rw [decide_eq_true hso, show reL f.t f.src = rcL f.t f.src by unfold reL; rw [if_pos hso]] at kR
      have hrl : (rcL f.t f.src).length ≤ f.t.burn.length := rcL_len
      have kI := k_vIntsS (rcL f.t f.src) aO
      generalize rcL f.t f.src = R at *
      repeat' (first
      | (refine za2 ?_; first | (refine za4 ?_; refine zav _ rfl ?_) | (refine zaf ?_; refine zaa _ rfl ?_) | (refine zbu ?_; first | (refine zb0 rfl rfl aO ?_) | (refine zcg rfl rfl aO ?_) | (refine zbt _ rfl rfl rfl ?_) | (refine zbi aA rfl rfl ?_) | (refine zby aA rfl rfl ?_) | (refine zaw _ rfl rfl rfl ?_)) | (refine g_un ?_; first | (refine zca rfl ?_) | (refine zb9 rfl aO ?_)) | (refine zbj ?_; first | (refine zae aA rfl ?_) | (refine zab _ aA rfl rfl aE rfl ?_) | (refine zac _ aA rfl aZ aL ?_) | (refine zad _ aA rfl rfl aE aZ aL ?_)) | (refine zbh ?_; first | (refine zao _ aA rfl rfl aO aA ?_) | (refine zan _ aA rfl rfl rfl rfl aO aO (by first | (rw [Nat.zero_add, Int.toNat_natCast]) | (rw [Nat.zero_add]) | rfl) ?_)) | (refine zbw ?_; first | (refine zbc rfl aD rfl ?_) | (refine zbd rfl aD ?_) | (refine zbf rfl aD ?_) | (refine zbg rfl aD rfl ?_)) | (refine zbl ?_; first | (refine zbv rfl rfl aD ?_) | (refine zb5 rfl rfl aD ?_) | (refine zb6 rfl rfl ?_) | (refine zbe rfl rfl (fun h => ?_) (fun h => ?_) <;> (have h' := h; (try simp only [sx] at h')))) | (refine za6 ?_; first | (refine zcp true (kB) rfl rfl rfl rfl rfl aS rfl aH ?_; simp only [cl]) | (refine zcp true (kR) rfl rfl rfl rfl rfl aS rfl aH ?_; simp only [cl]) | (refine za5 true (kI) rfl rfl rfl aS rfl aH ?_; simp only [cl]) | (refine zbb aA rfl ?_) | (refine za8 aA rfl rfl ?_) | (refine za9 aA rfl ?_) | (refine zba aA (evO_ok rfl) ?_)) | (refine zcc _ aA rfl ?_) | (refine zb7 aA rfl ?_) | (refine zbs _ _ _ rfl rfl aE (by first | assumption | (exact TAgg.size aA)) rfl rfl rfl aZ rfl aL (by first | (first | (simp only [lx, Nat.reduceAdd]; first | done | rfl) | fail) | rfl) ?_) | (refine zcf _ rfl rfl ?_) | (refine zau (hK _ _ (.inl rfl) ?_); clear hK K) | (refine zau (hK _ _ (.inr (by kernel_rfl)) ?_); clear hK K))
      | (refine za0 ?_; first | (refine zbq ?_) | (refine zah (fun K hK => ?_)) | (refine zas ?_) | (refine zaz ?_) | (refine zbo ?_) | (refine za3 ?_) | (refine zbk ?_; first | (refine zal rfl aD ?_) | (refine zam rfl aD ?_) | (refine zay rfl (fun h => ?_) (fun h => ?_) <;> (have h' := h; (try simp only [sx] at h')))))
      | (refine za1 ?_) | (refine zak ?_) | (refine zai ?_) | (refine zat ?_) | (refine zap ?_) | (refine zaq ?_) | (refine zar rfl ?_) | (refine zaj ?_) | (refine zag ?_) | (refine zbp ?_))
      all_goals first
        | (exfalso; omega)
        | (exfalso; simp at *; done)
        | (refine zcb () rfl aW trivial (by decide))
    clear kL1 kL2 hla hlv
    repeat' (first
      | (refine za2 ?_; first | (refine za4 ?_; refine zav _ rfl ?_) | (refine zaf ?_; refine zaa _ rfl ?_) | (refine zbu ?_; first | (refine zb0 rfl rfl aO ?_) | (refine zcg rfl rfl aO ?_) | (refine zbt _ rfl rfl rfl ?_) | (refine zbi aA rfl rfl ?_) | (refine zby aA rfl rfl ?_) | (refine zaw _ rfl rfl rfl ?_)) | (refine g_un ?_; first | (refine zca rfl ?_) | (refine zb9 rfl aO ?_)) | (refine zbj ?_; first | (refine zae aA rfl ?_) | (refine zab _ aA rfl rfl aE rfl ?_) | (refine zac _ aA rfl aZ aL ?_) | (refine zad _ aA rfl rfl aE aZ aL ?_)) | (refine zbh ?_; first | (refine zao _ aA rfl rfl aO aA ?_) | (refine zan _ aA rfl rfl rfl rfl aO aO (by first | (rw [Nat.zero_add, Int.toNat_natCast]) | (rw [Nat.zero_add]) | rfl) ?_)) | (refine zbw ?_; first | (refine zbc rfl aD rfl ?_) | (refine zbd rfl aD ?_) | (refine zbf rfl aD ?_) | (refine zbg rfl aD rfl ?_)) | (refine zbl ?_; first | (refine zbv rfl rfl aD ?_) | (refine zb5 rfl rfl aD ?_) | (refine zb6 rfl rfl ?_) | (refine zbe rfl rfl (fun h => ?_) (fun h => ?_) <;> (have h' := h; (try simp only [sx] at h')))) | (refine za6 ?_; first | (refine x_callLP [] (k_DrawMinutesAhead code hz) rfl rfl (by (repeat' (first | exact trivial | refine ⟨⟨_, rfl, ?_⟩, ?_⟩ | exact .inl ⟨rfl, .inl rfl⟩ | exact .inr ⟨rfl, rfl, rfl, rfl, rfl, fun e he u hu => by (simp only [List.mem_cons, List.not_mem_nil, or_false] at he; subst he; simp only [List.mem_cons, List.not_mem_nil, or_false] at hu; subst hu; rfl)⟩ | exact .inl ⟨rfl, .inr (fun e he => by (simp only [List.mem_cons, List.not_mem_nil, or_false] at he; subst he; rfl))⟩ | fail)); first | done | fail) rfl rfl aS rfl (fun r_ fin_ hP_ => ?_); obtain ⟨h, cs, ⟨rfl, rfl⟩, hH, hcs⟩ := hP_; refine ⟨_, _, _, aH, rfl, ?_⟩; simp only [cl]) | (refine zbb aA rfl ?_) | (refine za8 aA rfl rfl ?_) | (refine za9 aA rfl ?_) | (refine zba aA (evO_ok rfl) ?_)) | (refine zcc _ aA rfl ?_) | (refine zb7 aA rfl ?_) | (refine zbs _ _ _ rfl rfl aE (by first | assumption | (exact TAgg.size aA)) rfl rfl rfl aZ rfl aL (by first | (first | (simp only [lx, Nat.reduceAdd]; first | done | rfl) | fail) | rfl) ?_) | (refine zcf _ rfl rfl ?_) | (refine zau (hK _ _ (.inl rfl) ?_); clear hK K) | (refine zau (hK _ _ (.inr (by kernel_rfl)) ?_); clear hK K))
      | (refine za0 ?_; first | (refine zbq ?_) | (refine zah (fun K hK => ?_)) | (refine zas ?_) | (refine zaz ?_) | (refine zbo ?_) | (refine za3 ?_) | (refine zbk ?_; first | (refine zal rfl aD ?_) | (refine zam rfl aD ?_) | (refine zay rfl (fun h => ?_) (fun h => ?_) <;> (have h' := h; (try simp only [sx] at h')))))
      | (refine za1 ?_) | (refine zak ?_) | (refine zai ?_) | (refine zat ?_) | (refine zap ?_) | (refine zaq ?_) | (refine zar rfl ?_) | (refine zaj ?_) | (refine zag ?_) | (refine zbp ?_))
    obtain ⟨zh, hsh⟩ := hH.zz
    have kM1 := k_iMinutes h cs zh aO
    have kM2 := k_sMinutes h cs zh aO
    have hnn := miV_nn h cs
    unfold miRes at kM1 kM2
    generalize miV h cs = v2 at *
    generalize miO h cs = o4 at *
    repeat' (first
      | (refine za2 ?_; first | (refine za4 ?_; refine zav _ rfl ?_) | (refine zaf ?_; refine zaa _ rfl ?_) | (refine zbu ?_; first | (refine zb0 rfl rfl aO ?_) | (refine zcg rfl rfl aO ?_) | (refine zbt _ rfl rfl rfl ?_) | (refine zbi aA rfl rfl ?_) | (refine zby aA rfl rfl ?_) | (refine zaw _ rfl rfl rfl ?_)) | (refine g_un ?_; first | (refine zca rfl ?_) | (refine zb9 rfl aO ?_)) | (refine zbj ?_; first | (refine zae aA rfl ?_) | (refine zab _ aA rfl rfl aE rfl ?_) | (refine zac _ aA rfl aZ aL ?_) | (refine zad _ aA rfl rfl aE aZ aL ?_)) | (refine zbh ?_; first | (refine zao _ aA rfl rfl aO aA ?_) | (refine zan _ aA rfl rfl rfl rfl aO aO (by first | (rw [Nat.zero_add, Int.toNat_natCast]) | (rw [Nat.zero_add]) | rfl) ?_)) | (refine zbw ?_; first | (refine zbc rfl aD rfl ?_) | (refine zbd rfl aD ?_) | (refine zbf rfl aD ?_) | (refine zbg rfl aD rfl ?_)) | (refine zbl ?_; first | (refine zbv rfl rfl aD ?_) | (refine zb5 rfl rfl aD ?_) | (refine zb6 rfl rfl ?_) | (refine zbe rfl rfl (fun h => ?_) (fun h => ?_) <;> (have h' := h; (try simp only [sx] at h')))) | (refine za6 ?_; first | (refine za5 true (kM1) rfl rfl rfl aS rfl aH ?_; simp only [cl]) | (refine za5 true (kM2) rfl rfl rfl aS rfl aH ?_; simp only [cl]) | (refine zbb aA rfl ?_) | (refine za8 aA rfl rfl ?_) | (refine za9 aA rfl ?_) | (refine zba aA (evO_ok rfl) ?_)) | (refine zcc _ aA rfl ?_) | (refine zb7 aA rfl ?_) | (refine zbs _ _ _ rfl rfl aE (by first | assumption | (exact TAgg.size aA)) rfl rfl rfl aZ rfl aL (by first | (first | (simp only [lx, Nat.reduceAdd]; first | done | rfl) | fail) | rfl) ?_) | (refine zcf _ rfl rfl ?_) | (refine zau (hK _ _ (.inl rfl) ?_); clear hK K) | (refine zau (hK _ _ (.inr (by kernel_rfl)) ?_); clear hK K))
      | (refine za0 ?_; first | (refine zbq ?_) | (refine zah (fun K hK => ?_)) | (refine zas ?_) | (refine zaz ?_) | (refine zbo ?_) | (refine za3 ?_) | (refine zbk ?_; first | (refine zal rfl aD ?_) | (refine zam rfl aD ?_) | (refine zay rfl (fun h => ?_) (fun h => ?_) <;> (have h' := h; (try simp only [sx] at h')))))
      | (refine za1 ?_) | (refine zak ?_) | (refine zai ?_) | (refine zat ?_) | (refine zap ?_) | (refine zaq ?_) | (refine zar rfl ?_) | (refine zaj ?_) | (refine zag ?_) | (refine zbp ?_))
    all_goals first
      | (exfalso; omega)
      | exact zb8 rfl (zbr rfl) (by simp [hnn])
end Go.Vs
set_option linter.unusedVariables false
set_option linter.unusedSimpArgs false
namespace Go.Vs
open Go.RowKit Go.Deep
theorem ioMem_nil : ioMem [] = noMem := by funext id; simp [ioMem, noMem]
theorem calls_below {P : Program} {f : FuncId} {args : List PV} {cargs : Array Value} {w : World} {b : Bool} (hC : Con P f args (.bool b)) (ha : Comps (fun _ => none) w (fun b => b < w.heap.size) noMem cargs args) :
    Calls P f cargs w fun e w' => e = .returned (.bool b) ∧ Below w.heap.size w w' := by
  have hM := ioMem_nil
  have hno : ∀ id (r : Row), ioMem [] id ≠ some (some r) := fun id r h => by rw [hM] at h; cases h
  have hW : WRel (fun _ => True) (fun _ => none) w [] (ioMem []) w :=
    ⟨fun _ _ r _ _ _ _ h => absurd h (hno _ r), fun _ r h => absurd h (hno _ r), fun _ r h => absurd h (hno _ r), ⟨rfl, rfl, rfl, Nat.le_refl _, fun _ _ _ => rfl, fun b cur ty fr h => ⟨cur, h, rfl⟩⟩, fun _ _ => trivial⟩
  have hS : (Stab (fun _ => True) (fun _ => none) (ioMem []) w) = (fun b => b < w.heap.size) := by
    funext x
    apply propext
    exact ⟨fun h => h.1, fun h => ⟨h, fun id r z hm => absurd hm (hno _ r), trivial⟩⟩
  refine (((hC false).2 (fun _ => True) w [] (fun _ => none) cargs hW rfl ?_).mono) ?_
  · rw [hS, hM]; exact ha
  · rintro e w' ⟨v, r, fin, rfl, ⟨rfl, rfl⟩, _, _, hr⟩
    obtain ⟨ρ', hr⟩ := hr 0 (by unfold io; omega)
    have hv := rep_bool.1 hr.val
    subst hv
    have hk := hr.rel.keep
    exact ⟨rfl, hk.os, hk.tape, hk.output, hk.size, fun k hk' => hk.block k hk' (fun z h => by cases h)⟩
section
variable {H : Type} {enc : TypeId × Value → H} {P : Program} {w : World} {base : Nat} {spare : Nat → Bool} {held : Bool}
theorem lit_bounds {n : Int} (h : (Lit.int .i64 n).wf = true) : -9223372036854775808 ≤ n ∧ n ≤ 9223372036854775807 := by
  simp only [Lit.wf, Bool.and_eq_true, decide_eq_true_eq] at h
  exact h
theorem cell_lt {a : Addr} {c : Value} (h : w.cell? a = some c) : a.block < w.heap.size := by
  rcases Nat.lt_or_ge a.block w.heap.size with h1 | h1
  · exact h1
  · rw [World.cell?, Array.getElem?_eq_none h1] at h
    cases h
end
end Go.Vs
set_option linter.unusedVariables false
set_option linter.unusedSimpArgs false
namespace Go.Vs
open Go.RowKit Go.Deep
inductive Sh where
  | int
  | str
  | bool
  | byte
  | slice (e : List Sh)
def CellIs : Nat → Sh → PV → Prop
  | 0, _, _ => False
  | d + 1, sh, u => match sh with
    | .int => ∃ n : Int, u = .int .i64 n ∧ -9223372036854775808 ≤ n ∧ n ≤ 9223372036854775807
    | .str => ∃ s, u = .str s ∧ s.size ≤ Go.maxLen
    | .bool => ∃ b, u = .bool b
    | .byte => ∃ n : Int, u = .int .u8 n ∧ 0 ≤ n ∧ n ≤ 255
    | .slice es => ∃ els : List (List PV), u = .list es.length els ∧ els.length ≤ Go.maxLen ∧ ∀ el ∈ els, el.length = es.length ∧ ∀ (j : Nat) sh' u', es[j]? = some sh' → el[j]? = some u' → CellIs d sh' u'
def fieldsOk (P : Program) (ok : TypeId → List Sh → Bool) : List Field → Nat → List Sh → Bool
  | [], _, shs => shs.isEmpty
  | f :: fs, off, shs => Nat.beq f.offset off && (Nat.ble (P.cellsOf f.type) shs.length && (ok f.type (shs.take (P.cellsOf f.type)) && fieldsOk P ok fs (off + P.cellsOf f.type) (shs.drop (P.cellsOf f.type))))
def shOk (P : Program) : Nat → TypeId → List Sh → Bool
  | 0, _, _ => false
  | d + 1, T, shs => match P.underlying T with
    | some (.int .i64) => match shs with | [.int] => true | _ => false
    | some .string => match shs with | [.str] => true | _ => false
    | some .bool => match shs with | [.bool] => true | _ => false
    | some (.int .u8) => match shs with | [.byte] => true | _ => false
    | some (.slice e) => match shs with | [.slice es] => Nat.beq (P.cellsOf e) es.length && (Nat.blt 0 es.length && shOk P d e es) | _ => false
    | some (.struct fs) => Nat.beq (P.cellsOf T) shs.length && fieldsOk P (shOk P d) fs.toList 0 shs
    | _ => false
theorem lit_bytes {n : Int} (h : (Lit.int .u8 n).wf = true) : 0 ≤ n ∧ n ≤ 255 := by
  simp only [Lit.wf, Bool.and_eq_true, decide_eq_true_eq] at h
  exact h
section
variable {H : Type} {enc : TypeId × Value → H} {P : Program} {w : World} {base : Nat} {spare : Nat → Bool} {held : Bool}
def OpenAt (w : World) (d : Nat) (sh : Sh) (oc : Option Value) : Prop := ∃ c u, oc = some c ∧ c.oneCell' = true ∧ CellIs d sh u ∧ ∀ ρ, Rep ρ w (fun b => b < w.heap.size) noMem c u
theorem fields_open {d n : Nat} {cs : List Value} (ih : ∀ T shs fuel cs x, shOk P d T shs = true → DataW.trod enc P w base spare held fuel T cs = some x → cs.length = shs.length ∧ ∀ (j : Nat) sh, shs[j]? = some sh → OpenAt w d sh cs[j]?) :
    ∀ (l : List Field) (off : Nat) (shs : List Sh), fieldsOk P (shOk P d) l off shs = true → (∀ f ∈ l, ∃ x, DataW.trod enc P w base spare held n f.type ((cs.drop f.offset).take (P.cellsOf f.type)) = some x) →
      ∀ (j : Nat) sh, shs[j]? = some sh → OpenAt w d sh cs[off + j]?
  | [], off, shs, h, _, j, sh, hj => by
    cases shs with
    | nil => simp at hj
    | cons a r => cases h
  | f :: fs, off, shs, h, hf, j, sh, hj => by
    simp only [fieldsOk, Bool.and_eq_true] at h
    obtain ⟨h1, h2, h3, h4⟩ := h
    have h1 := Nat.eq_of_beq_eq_true h1
    have h2 := Nat.le_of_ble_eq_true h2
    obtain ⟨x, hx⟩ := hf f List.mem_cons_self
    obtain ⟨g1, g2⟩ := ih _ _ _ _ _ h3 hx
    rcases Nat.lt_or_ge j (P.cellsOf f.type) with hlt | hge
    · have := g2 j sh (by rw [List.getElem?_take, if_pos hlt]; exact hj)
      rw [List.getElem?_take, if_pos hlt, List.getElem?_drop, h1] at this
      exact this
    · have := fields_open ih fs (off + P.cellsOf f.type) _ h4 (fun g hg => hf g (List.mem_cons_of_mem _ hg)) (j - P.cellsOf f.type) sh (by rw [List.getElem?_drop]; rw [show P.cellsOf f.type + (j - P.cellsOf f.type) = j by omega]; exact hj)
      rw [show off + P.cellsOf f.type + (j - P.cellsOf f.type) = off + j by omega] at this
      exact this
theorem open_cells : ∀ (d : Nat) (T : TypeId) (shs : List Sh) (fuel : Nat) (cs : List Value) (x : DataW H × List MemPlace), shOk P d T shs = true → DataW.trod enc P w base spare held fuel T cs = some x →
    cs.length = shs.length ∧ ∀ (j : Nat) sh, shs[j]? = some sh → OpenAt w d sh cs[j]?
  | 0, _, _, _, _, _, h, _ => by cases h
  | d + 1, T, shs, fuel, cs, x, h, hx => by
    have ih := fun T shs fuel cs x => open_cells d T shs fuel cs x
    have single : ∀ {sh : Sh} {c : Value} {u : PV}, c.oneCell' = true → CellIs (d + 1) sh u → (∀ ρ, Rep ρ w (fun b => b < w.heap.size) noMem c u) → [c].length = [sh].length ∧ ∀ (j : Nat) sh', [sh][j]? = some sh' → OpenAt w (d + 1) sh' [c][j]? := by
      intro sh c u h1 h2 h3
      refine ⟨rfl, fun j sh' hj => ?_⟩
      cases j with
      | zero => simp at hj; subst hj; exact ⟨c, u, rfl, h1, h2, h3⟩
      | succ j => simp at hj
    simp only [shOk] at h
    split at h
    · rename_i hu
      split at h
      · obtain ⟨n, rfl, _, hwf⟩ := DataW.trod_int hu hx
        exact single (u := .int .i64 n) rfl ⟨n, rfl, lit_bounds hwf⟩ fun ρ => rep_int.2 rfl
      · cases h
    · rename_i hu
      split at h
      · obtain ⟨s, rfl, _, hs⟩ := DataW.trod_string hu hx
        exact single (u := .str s) rfl ⟨s, rfl, hs⟩ fun ρ => rep_str.2 rfl
      · cases h
    · rename_i hu
      split at h
      · obtain ⟨b, rfl, _⟩ := DataW.trod_bool hu hx
        exact single (u := .bool b) rfl ⟨b, rfl⟩ fun ρ => rep_bool.2 rfl
      · cases h
    · rename_i hu
      split at h
      · obtain ⟨n, rfl, _, hwf⟩ := DataW.trod_int hu hx
        exact single (u := .int .u8 n) rfl ⟨n, rfl, lit_bytes hwf⟩ fun ρ => rep_int.2 rfl
      · cases h
    · rename_i e hu
      split at h
      · rename_i es
        simp only [Bool.and_eq_true] at h
        obtain ⟨h1, h2, h3⟩ := h
        have h1 := Nat.eq_of_beq_eq_true h1
        have h2 : 0 < es.length := by simpa using h2
        rcases open_slice hu hx with ⟨rfl, _⟩ | ⟨a, len, cap, m, n, D, Pl, rfl, hb, hl, hm, hmm, _, hi⟩
        · exact single (u := .list es.length []) rfl ⟨[], rfl, by simp, fun el hel => by simp at hel⟩ fun ρ => rep_list.2 ⟨none, 0, rfl, Nat.le_refl _, fun h => absurd rfl h⟩
        · have hlm : len ≤ m := by rw [hmm]; split <;> omega
          have key : ∀ i, i < len → ∃ el : List PV, el.length = es.length ∧ ∀ (j : Nat) u, el[j]? = some u → ∃ c, w.cell? (a.add (i * es.length + j)) = some c ∧ c.oneCell' = true ∧ (∀ sh', es[j]? = some sh' → CellIs d sh' u) ∧
              ∀ ρ, Rep ρ w (fun b => b < w.heap.size) noMem c u := by
            intro i hil
            obtain ⟨cs', hc, ht'⟩ := hi i (by omega)
            obtain ⟨g1, g2⟩ := ih _ _ _ _ _ h3 ht'
            rw [h1] at hc
            obtain ⟨_, hcl, hat⟩ := World.cells?_some hc
            classical
            refine ⟨(List.range es.length).map fun j => if hj : j < es.length then Classical.choose (Classical.choose_spec (g2 j es[j] (List.getElem?_eq_getElem hj))) else .any, by simp, fun j u hu => ?_⟩
            have hj : j < es.length := by
              have := (List.getElem?_eq_some_iff.1 hu).1
              simpa using this
            rw [List.getElem?_map, List.getElem?_range hj] at hu
            simp only [Option.map_some, Option.some.injEq, dif_pos hj] at hu
            have hsp := Classical.choose_spec (Classical.choose_spec (g2 j es[j] (List.getElem?_eq_getElem hj)))
            rw [hu] at hsp
            refine ⟨_, ?_, hsp.2.1, fun sh' hs' => ?_, hsp.2.2.2⟩
            · rw [← Go.Deep.add_add, hat j (by omega)]
              exact hsp.1
            · rw [List.getElem?_eq_getElem hj] at hs'
              injection hs' with hs'
              rw [← hs']
              exact hsp.2.2.1
          have hall : ∃ els : List (List PV), els.length = len ∧ ∀ i el, els[i]? = some el → el.length = es.length ∧ ∀ (j : Nat) u, el[j]? = some u → ∃ c, w.cell? (a.add (i * es.length + j)) = some c ∧ c.oneCell' = true ∧ (∀ sh', es[j]? = some sh' → CellIs d sh' u) ∧
              ∀ ρ, Rep ρ w (fun b => b < w.heap.size) noMem c u := by
            classical
            refine ⟨(List.range len).map fun i => if h : i < len then Classical.choose (key i h) else [], by simp, fun i r hr => ?_⟩
            have hi' : i < len := by
              have := (List.getElem?_eq_some_iff.1 hr).1
              simpa using this
            rw [List.getElem?_map, List.getElem?_range hi'] at hr
            simp only [Option.map_some, Option.some.injEq, dif_pos hi'] at hr
            subst hr
            exact Classical.choose_spec (key i hi')
          obtain ⟨els, hlen, hels⟩ := hall
          refine single (u := .list es.length els) rfl ⟨els, rfl, by omega, fun el hel => ?_⟩ fun ρ => rep_list.2 ⟨some a, cap, by rw [hlen], by omega, fun hne => ⟨a, rfl, ?_, fun i el hi => ⟨(hels i el hi).1, fun j u hu => ?_⟩⟩⟩
          · obtain ⟨i, hi⟩ := List.getElem?_of_mem hel
            refine ⟨(hels i el hi).1, fun j sh' u' hs hu => ?_⟩
            obtain ⟨c, _, _, h5, _⟩ := (hels i el hi).2 j u' hu
            exact h5 sh' hs
          · obtain ⟨el, hel⟩ : ∃ el, els[0]? = some el := by
              cases els with
              | nil => exact absurd rfl hne
              | cons r _ => exact ⟨r, rfl⟩
            obtain ⟨g1, g2⟩ := hels 0 el hel
            obtain ⟨c, k1, _⟩ := g2 0 (el[0]'(by omega)) (List.getElem?_eq_getElem (by omega))
            have h3 := cell_lt k1
            have h4 : (a.add (0 * es.length + 0)).block = a.block := by simp only [Addr.add]; split <;> rfl
            rw [h4] at h3
            exact h3
          · obtain ⟨c, k1, k2, _, k4⟩ := (hels i el hi).2 j u hu
            refine ⟨c, ?_, k2, k4 ρ⟩
            rw [Go.Deep.add_add]
            exact k1
      · cases h
    · rename_i fs hu
      rw [Bool.and_eq_true] at h
      obtain ⟨ys, n, _, _, hlen, hyl, hf⟩ := DataW.trod_struct hu hx
      have hc := Nat.eq_of_beq_eq_true h.1
      refine ⟨by rw [hlen, hc], fun j sh hj => ?_⟩
      have := fields_open (cs := cs) (n := n) ih fs.toList 0 shs h.2 (fun f hfm => ?_) j sh hj
      · rw [Nat.zero_add] at this
        obtain ⟨c, u, k1, k2, k3, k4⟩ := this
        refine ⟨c, u, k1, k2, ?_, k4⟩
        have mono : ∀ (d : Nat) (sh : Sh) (u : PV), CellIs d sh u → CellIs (d + 1) sh u := by
          intro d
          induction d with
          | zero => intro sh u h; exact h.elim
          | succ d ihd =>
            intro sh u h
            cases sh with
            | int => exact h
            | str => exact h
            | bool => exact h
            | byte => exact h
            | slice es =>
              obtain ⟨els, h1, h2, h3⟩ := h
              exact ⟨els, h1, h2, fun el hel => ⟨(h3 el hel).1, fun j sh' u' hs hu => ihd _ _ ((h3 el hel).2 j sh' u' hs hu)⟩⟩
        exact mono d sh u k3
      · obtain ⟨i, hi⟩ := List.getElem?_of_mem hfm
        rw [Array.getElem?_toList] at hi
        have hil : i < ys.length := by rw [hyl]; exact (Array.getElem?_eq_some_iff.1 hi).1
        exact ⟨ys[i], by rw [hf i f hi, List.getElem?_eq_getElem hil]⟩
    · cases h
theorem open_all {d : Nat} {T : TypeId} {shs : List Sh} {fuel : Nat} {cs : List Value} {x : DataW H × List MemPlace} (h : shOk P d T shs = true) (hx : DataW.trod enc P w base spare held fuel T cs = some x) :
    ∃ us : List PV, us.length = shs.length ∧ (∀ (j : Nat) sh u, shs[j]? = some sh → us[j]? = some u → CellIs d sh u) ∧ ∀ ρ, Comps ρ w (fun b => b < w.heap.size) noMem cs.toArray us := by
  obtain ⟨h1, h2⟩ := open_cells d T shs fuel cs x h hx
  classical
  refine ⟨(List.range shs.length).map fun j => if hj : j < shs.length then Classical.choose (Classical.choose_spec (h2 j shs[j] (List.getElem?_eq_getElem hj))) else .any, by simp, fun j sh u hs hu => ?_, fun ρ => ⟨by simp [h1], fun j u hu => ?_⟩⟩
  · have hj : j < shs.length := (List.getElem?_eq_some_iff.1 hs).1
    rw [List.getElem?_map, List.getElem?_range hj] at hu
    simp only [Option.map_some, Option.some.injEq, dif_pos hj] at hu
    have hsp := Classical.choose_spec (Classical.choose_spec (h2 j shs[j] (List.getElem?_eq_getElem hj)))
    rw [hu] at hsp
    rw [List.getElem?_eq_getElem hj] at hs
    injection hs with hs
    rw [← hs]
    exact hsp.2.2.1
  · have hj : j < shs.length := by
      have := (List.getElem?_eq_some_iff.1 hu).1
      simpa using this
    rw [List.getElem?_map, List.getElem?_range hj] at hu
    simp only [Option.map_some, Option.some.injEq, dif_pos hj] at hu
    have hsp := Classical.choose_spec (Classical.choose_spec (h2 j shs[j] (List.getElem?_eq_getElem hj)))
    rw [hu] at hsp
    refine ⟨_, ?_, hsp.2.2.2 ρ⟩
    rw [List.getElem?_toArray]
    exact hsp.1
end
theorem cell_byte {d : Nat} {u : PV} (h : CellIs (d + 1) .byte u) : ∃ n : Int, u = .int .u8 n ∧ 0 ≤ n ∧ n ≤ 255 := h
theorem cell_list {α : Type} {d : Nat} {es : List Sh} {u : PV} (f : α → List PV) (h : CellIs (d + 1) (.slice es) u)
    (hf : ∀ el : List PV, el.length = es.length → (∀ (j : Nat) sh' u', es[j]? = some sh' → el[j]? = some u' → CellIs d sh' u') → ∃ a, el = f a) : ∃ xs : List α, u = .list es.length (xs.map f) ∧ xs.length ≤ Go.maxLen := by
  obtain ⟨els, rfl, h2, h3⟩ := h
  have : ∃ xs : List α, els = xs.map f := by
    clear h2
    induction els with
    | nil => exact ⟨[], rfl⟩
    | cons el r ih =>
      obtain ⟨xs, hx⟩ := ih fun el' hel => h3 el' (List.mem_cons_of_mem _ hel)
      obtain ⟨a, ha⟩ := hf el (h3 el List.mem_cons_self).1 (h3 el List.mem_cons_self).2
      exact ⟨a :: xs, by rw [List.map_cons, ← hx, ← ha]⟩
  obtain ⟨xs, rfl⟩ := this
  exact ⟨xs, rfl, by simpa using h2⟩
end Go.Vs
set_option linter.unusedVariables false
set_option linter.unusedSimpArgs false
namespace Go.Proofs.Ytgpnbhnndhakhaa.FnFirePathsDone
open Go.ChangeShapes Go.WideShapes Go.ChangeAt Go.RowKit
open Go.Vs
theorem own : ownKnob Try.prog.godebug = none := by kernel_rfl
theorem laidOut : laidOutB Try.prog = true := by kernel_rfl
theorem one_cell {d : Nat} {sh : Sh} {us : List PV} (hl : us.length = 1) (h : ∀ (j : Nat) sh' u, [sh][j]? = some sh' → us[j]? = some u → CellIs d sh' u) : ∃ u, us = [u] ∧ CellIs d sh u := by
  match us, hl with
  | [u], _ => exact ⟨u, rfl, h 0 sh u rfl rfl⟩
set_option maxRecDepth 100000 in
theorem lifted (os : Os) (started : os.Started) (H : Type) (enc : TypeId × Value → H) :
    ReturnsInHanded {} Try.checked os 4 .any (Rows.fnFirePathsSpec.pre6 enc Try.prog Try.f4 Rows.fnFirePathsRow.domain false) (Rows.fnFirePathsSpec.post enc Try.prog Try.f4 false true false false) := by
  refine returnsInHanded_of_change (C := Try.checked) own started (by kernel_rfl) Try.func4
    (ChangeSpec.witness6 (enc := enc) (C := Try.checked) false ⟨#[], #[.slice none 0 0], []⟩ 8 (by kernel_rfl) (by kernel_rfl) (by kernel_rfl) (by kernel_rfl)) ?_
  intro W base args ds gs before hval0 hW hcnd _
  have hval : ∀ (j : Nat) t v, Try.f4.params[j]? = some t → args[j]? = some v → Value.okWide Try.prog W .any base t v := hval0
  have hW' := hW
  obtain ⟨p, q, hA0, hV, rfl, hfz, hnd⟩ := hW
  have hA : DataW.TrodAll enc Try.prog W 0 (fun _ => true) true Try.f4.params.toList args.toList ds p := hA0
  rw [Try.params4] at hA hval
  obtain ⟨v0, vs0, d0, ds0, p0, q0, hargs, rfl, rfl, h0, r0⟩ := trodAll_cons hA
  obtain ⟨rfl, rfl, rfl⟩ := trodAll_nil r0
  obtain rfl : args = #[v0] := by cases args; simp_all
  obtain ⟨rfl, rfl⟩ := trodVars_none hV
  obtain ⟨a0, len0, cap0, rfl⟩ := okWide_slice Try.underlying22 (hval 0 22 v0 rfl rfl)
  have k0 := h0
  have lt0 : ∀ x ∈ p0, x.block < W.heap.size := by obtain ⟨m, hm⟩ := k0; exact DataW.trod_lt m _ _ _ hm
  obtain ⟨us0, ul0, uc0, ur0⟩ : ∃ us : List PV, us.length = ([.slice [.byte]] : List Sh).length ∧ (∀ (j : Nat) sh u, ([.slice [.byte]] : List Sh)[j]? = some sh → us[j]? = some u → CellIs 4 sh u) ∧ ∀ ρ, Comps ρ W (fun b => b < W.heap.size) noMem #[.slice a0 len0 cap0] us := by
    obtain ⟨fuel, hf⟩ := h0
    exact open_all (d := 4) (T := 22) (by kernel_rfl) (by simpa [Value.cells] using hf)
  obtain ⟨u0, rfl, c0⟩ := one_cell ul0 uc0
  obtain ⟨code', rfl, b0⟩ := cell_list (fun b : {b : Int // 0 ≤ b ∧ b ≤ 255} => [PV.int .u8 b.1]) c0 (fun el hl h => by match el, hl with | [u], _ => obtain ⟨m, rfl, hm⟩ := cell_byte (h 0 _ _ rfl rfl); exact ⟨⟨m, hm⟩, rfl⟩)
  obtain ⟨code, e0, l0, b0'⟩ : ∃ code : List Int, code'.map (fun b : {b : Int // 0 ≤ b ∧ b ≤ 255} => [PV.int .u8 b.1]) = bytesP code ∧ code.length = code'.length ∧ ∀ b ∈ code, 0 ≤ b ∧ b ≤ 255 := ⟨code'.map (·.1), by simp [bytesP, Function.comp_def], by simp, fun a ha => by obtain ⟨q, _, rfl⟩ := List.mem_map.1 ha; exact q.2⟩
  rw [e0] at ur0
  rw [← l0] at b0
  clear hA0 hval0
  have hcomp : Comps (fun _ => none) W (fun b => b < W.heap.size) noMem #[.slice a0 len0 cap0] [.list 1 (bytesP code)] := by
    refine ⟨rfl, fun j u hu => ?_⟩
    match j, hu with
    | 0, hu =>
      simp only [List.getElem?_cons_zero, Option.some.injEq] at hu
      subst hu
      obtain ⟨c, hc, hr⟩ := (ur0 (fun _ => none)).2 0 _ rfl
      simp only [List.getElem?_toArray, List.getElem?_cons_zero, Option.some.injEq] at hc
      subst hc
      exact ⟨_, rfl, hr⟩
  refine (calls_below (law_FnFirePaths code (by simpa [Go.maxLen] using b0) b0') hcomp).mono fun e W' ⟨he, bel⟩ => ?_
  subst he
  exact ⟨_, rfl, _, _, _, [], _, [], hW', trodAll_mk1 (shut_bool Try.underlying4 _), (trodAll_cons_mk (Below.trod laidOut (by kernel_rfl) (of_decide_eq_true (by kernel_rfl)) k0 bel lt0) trodAll_mk0), rfl, bel.frame _, fun h => by cases h⟩
theorem over : Rows.fnFirePathsRow.holds Try.pinned (OpenSpec.ofChange Rows.fnFirePathsSpec) :=
  OpenClaim.holds_of_wide 4 Try.f4 rfl rfl rfl rfl rfl rfl rfl ⟨rfl, rfl, rfl, rfl, rfl⟩ rfl rfl rfl rfl rfl (by kernel_rfl) Try.func4 (by kernel_rfl)
    (of_decide_eq_true (by kernel_rfl)) (by unfold Func.isWrapper; first | (rw [if_pos (by decide +kernel)]; kernel_rfl) | (rw [if_neg (by decide +kernel)]; exact ⟨rfl, rfl⟩))
    (fun os started H enc _ => lifted os started H enc)
theorem proved : Rows.FnFirePathsSaid := over
end Go.Proofs.Ytgpnbhnndhakhaa.FnFirePathsDone
