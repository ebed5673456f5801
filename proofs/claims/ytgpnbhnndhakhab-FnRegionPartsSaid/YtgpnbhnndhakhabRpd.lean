/- Parts of a proof: what its last text mentions. -/
import Derived.Test.YtgpnbhnndhakhabRpc
set_option linter.unusedVariables false
set_option linter.unusedSimpArgs false
set_option maxRecDepth 100000
set_option maxHeartbeats 4000000
namespace Go.Vs
open Go.Proofs
attribute [local irreducible] exec vwp thenQ blkQ loopQ RetPost
@[reducible] def rowR (r : List Int) : List PV := [PV.list 1 (ints r)]
def tabR (L : List (List Int)) : List (List PV) := L.map rowR
theorem tabR_len (L : List (List Int)) : (tabR L).length = L.length := by simp [tabR]
theorem tabR_at {L : List (List Int)} {i : Nat} {r : List Int} (h : L[i]? = some r) : (tabR L)[i]? = some [PV.list 1 (ints r)] := by simp [tabR, h]
theorem tabR_snoc (L : List (List Int)) (r : List Int) : tabR (L ++ [r]) = tabR L ++ [[PV.list 1 (ints r)]] := by simp [tabR]
theorem k_isSet (t : Terrain) (xs : List Int) (hn : t.burn.length ≤ 1099511627776) (hm : xs.length ≤ 1099511627776) : Con Try.prog 112 [.agg t.pv, .list 1 (ints xs)] (.bool (decide ((∀ s ∈ xs, IsCell t s) ∧ Rising xs))) := by
  intro al
  refine zba hmix Try.func112 rfl (by kernel_rfl) (by kernel_rfl) (Nat.le_of_ble_eq_true rfl) (fun row h => by cases h) ?_
  have hty_u24 := ty_u24
  have hty_s24 := ty_s24
  have hty_a26 := ty_a26
  have hall : (xs.all fun c => decide (0 ≤ c ∧ c < t.burn.length)) = true ↔ ∀ s ∈ xs, IsCell t s := by simp [IsCell]
  repeat' (first
      | (refine zaz ?_; first | (refine za4 ?_; refine zas _ rfl ?_) | (refine zak ?_; refine zaa _ rfl ?_) | (refine zbb ?_; first | (refine zab aA rfl ?_) | (refine zae _ aA rfl rfl aE rfl ?_) | (refine zac _ aA rfl aZ aL ?_) | (refine zad _ aA rfl rfl aE aZ aL ?_)) | (refine zb3 ?_; first | (refine zbn rfl aD rfl ?_) | (refine zbp rfl aD ?_) | (refine zbm rfl aD ?_) | (refine zbq rfl aD rfl ?_)) | (refine zby ?_; first | (refine zb4 rfl rfl aD ?_) | (refine zcc rfl rfl aD ?_) | (refine zcb rfl rfl ?_) | (refine zbo rfl rfl (fun h => ?_) (fun h => ?_) <;> (have h' := h; (try simp only [sx] at h')))) | (refine za9 ?_; first | (refine zbc true (k_isRising xs hm) rfl rfl rfl aS rfl aH ?_; simp only [cl]) | (refine zbc true (k_allIntT xs 153 t (fun c => decide (0 ≤ c ∧ c < t.burn.length)) (fun c _ => k_isCell t c hn) hm) rfl rfl rfl aS rfl aH ?_; simp only [cl])) | (refine zbt _ _ rfl rfl rfl rfl ?_) | (refine zcm _ _ rfl rfl ?_) | (refine zar (hK _ _ (.inl rfl) ?_); clear hK K) | (refine zar (hK _ _ (.inr (by kernel_rfl)) ?_); clear hK K))
      | (refine za3 ?_; first | (refine zbk ?_) | (refine zaf (fun K hK => ?_)) | (refine zap ?_) | (refine za0 ?_) | (refine zbj ?_) | (refine za1 ?_))
      | (refine za2 ?_) | (refine zag ?_) | (refine zaj ?_) | (refine zao ?_) | (refine zam ?_) | (refine zan ?_) | (refine zaq rfl ?_) | (refine zah ?_) | (refine zai ?_) | (refine zbi ?_))
  all_goals
    (refine zb2 rfl (zbh rfl) ?_; rw [Bool.eq_iff_iff]; try simp only [sx] at *)
    first
      | (constructor
         · intro hq; exact ⟨hall.1 hq, by assumption⟩
         · intro hq; exact hall.2 hq.1)
      | (constructor <;> intro hq <;> first | contradiction | (exact absurd hq.2 aA))
@[reducible] def SetG (t : Terrain) (r : List Int) : Prop := (∀ s ∈ r, IsCell t s) ∧ Rising r
theorem k_all1R (t : Terrain) (r : List Int) (b : Bool) (hg : Con Try.prog 112 [.agg t.pv, .list 1 (ints r)] (.bool b)) :
    Con Try.prog 151 [.list 1 (ints r), .ptr [.fn 112 [.agg t.pv] []]] (.bool (!b)) := by
  intro al
  refine zba hmix Try.func151 rfl (by kernel_rfl) (by kernel_rfl) (Nat.le_of_ble_eq_true rfl) (fun row h => by cases h) ?_
  have hty_c108 := ty_c108
  have hty_u24 := ty_u24
  have hty_s24 := ty_s24
  repeat' (first
      | (refine zaz ?_; first | (refine za4 ?_; refine zas _ rfl ?_) | (refine zak ?_; refine zaa _ rfl ?_) | (refine g_un ?_; first | (refine zb7 rfl ?_) | (refine zb8 rfl aO ?_)) | (refine zbb ?_; first | (refine zab aA rfl ?_) | (refine zae _ aA rfl rfl aE rfl ?_) | (refine zac _ aA rfl aZ aL ?_) | (refine zad _ aA rfl rfl aE aZ aL ?_)) | (refine za9 ?_; refine zbc true (hg) rfl rfl rfl aS rfl aH ?_; simp only [cl]) | (refine zar (hK _ _ (.inl rfl) ?_); clear hK K) | (refine zar (hK _ _ (.inr (by kernel_rfl)) ?_); clear hK K))
      | (refine za3 ?_; first | (refine zbk ?_) | (refine zaf (fun K hK => ?_)) | (refine zap ?_) | (refine za0 ?_) | (refine zbj ?_) | (refine za1 ?_))
      | (refine za2 ?_) | (refine zag ?_) | (refine zaj ?_) | (refine zao ?_) | (refine zam ?_) | (refine zan ?_) | (refine zaq rfl ?_) | (refine zah ?_) | (refine zai ?_) | (refine zbi ?_))
  exact zb2 rfl (zbh rfl) rfl
theorem k_IndexFuncR (xs : List (List Int)) (g : FuncId) (ca : List (List PV)) (p : List Int → Bool) (hg : ∀ a ∈ xs, Con Try.prog g (.list 1 (ints a) :: ca.map PV.ptr) (.bool (p a))) (hn : xs.length ≤ 1099511627776) :
    Con Try.prog 166 [.list 1 (tabR xs), .fn g [] (ca.map PV.ptr)] (.int .i64 (idx p xs)) := by
  intro al
  refine zba hmix Try.func166 rfl (by kernel_rfl) (by kernel_rfl) (Nat.le_of_ble_eq_true rfl) (fun row h => by cases h) ?_
  have hty_u35 := ty_u35
  have hty_s35 := ty_s35
  have hty_c24 := ty_c24
  have hty_u24 := ty_u24
  have hty_s24 := ty_s24
  have hl1 := tabR_len xs
  repeat' (first
      | (refine zaz ?_; first | (refine za4 ?_; refine zas _ rfl ?_) | (refine zak ?_; refine zaa _ rfl ?_) | (refine zbu ?_; first | (refine zb0 rfl rfl aO ?_) | (refine zbs _ rfl rfl rfl ?_) | (refine zav _ rfl rfl rfl ?_)) | (refine zbb ?_; first | (refine zab aA rfl ?_) | (refine zae _ aA rfl rfl aE rfl ?_) | (refine zac _ aA rfl aZ aL ?_) | (refine zad _ aA rfl rfl aE aZ aL ?_)) | (refine zbd ?_; first | (refine zax _ aA rfl rfl aO aA ?_) | (refine zaw _ aA rfl rfl rfl rfl aO aO (by first | (rw [Nat.zero_add, Int.toNat_natCast]) | (rw [Nat.zero_add]) | rfl) ?_)) | (refine za9 ?_; first | (refine za8 aA rfl ?_) | (refine za6 aA rfl rfl ?_) | (refine za5 aA rfl ?_) | (refine za7 aA (evO_ok rfl) ?_)) | (refine zar (hK _ _ (.inl rfl) ?_); clear hK K) | (refine zar (hK _ _ (.inr (by kernel_rfl)) ?_); clear hK K))
      | (refine za3 ?_; first | (refine zbk ?_) | (refine zaf (fun K hK => ?_)) | (refine zap ?_) | (refine za0 ?_) | (refine zbj ?_) | (refine za1 ?_) | (refine zbe ?_; first | (refine zat rfl aD ?_) | (refine zau rfl aD ?_) | (refine zay rfl (fun h => ?_) (fun h => ?_) <;> (have h' := h; (try simp only [sx] at h')))))
      | (refine za2 ?_) | (refine zag ?_) | (refine zaj ?_) | (refine zao ?_) | (refine zam ?_) | (refine zan ?_) | (refine zaq rfl ?_) | (refine zah ?_) | (refine zai ?_) | (refine zbi ?_))
  refine zcd [0, 1, 7] [] (fun i : Nat => [(8, .int .i64 i)]) (fun i : Nat => []) (fun i : Nat => i ≤ xs.length ∧ ∀ j, j < i → ∀ c, xs[j]? = some c → p c = false) (fun i : Nat => xs.length - i) (0) rfl rfl (fun _ => rfl) (fun _ => rfl) rfl aW ⟨by omega, fun j hj => by omega⟩ (fun i hi => ?_)
  obtain ⟨hi1, hi2⟩ := hi
  rcases Nat.lt_or_ge i xs.length with hlt | hge
  · obtain ⟨a, hga⟩ := get_ex hlt
    have hx := tabR_at hga
    have kg := hg a (get_mem hga)
    repeat' (first
      | (refine zaz ?_; first | (refine za4 ?_; refine zas _ rfl ?_) | (refine zak ?_; refine zaa _ rfl ?_) | (refine zbu ?_; first | (refine zb0 rfl rfl aO ?_) | (refine zbs _ rfl rfl rfl ?_) | (refine zav _ rfl rfl rfl ?_)) | (refine zbb ?_; first | (refine zab aA rfl ?_) | (refine zae _ aA rfl rfl aE rfl ?_) | (refine zac _ aA rfl aZ aL ?_) | (refine zad _ aA rfl rfl aE aZ aL ?_)) | (refine zbd ?_; first | (refine zax _ aA rfl rfl aO aA ?_) | (refine zaw _ aA rfl rfl rfl rfl aO aO (by first | (rw [Nat.zero_add, Int.toNat_natCast]) | (rw [Nat.zero_add]) | rfl) ?_)) | (refine za9 ?_; first | (refine zbc true (kg) rfl rfl rfl aS rfl aH ?_; simp only [cl]) | (refine x_call [] _ (kg) rfl rfl aS rfl aH ?_; simp only [cl]) | (refine za8 aA rfl ?_) | (refine za6 aA rfl rfl ?_) | (refine za5 aA rfl ?_) | (refine za7 aA (evO_ok rfl) ?_)) | (refine zar (hK _ _ (.inl rfl) ?_); clear hK K) | (refine zar (hK _ _ (.inr (by kernel_rfl)) ?_); clear hK K))
      | (refine za3 ?_; first | (refine zbk ?_) | (refine zaf (fun K hK => ?_)) | (refine zap ?_) | (refine za0 ?_) | (refine zbj ?_) | (refine za1 ?_) | (refine zbe ?_; first | (refine zat rfl aD ?_) | (refine zau rfl aD ?_) | (refine zay rfl (fun h => ?_) (fun h => ?_) <;> (have h' := h; (try simp only [sx] at h')))))
      | (refine za2 ?_) | (refine zag ?_) | (refine zaj ?_) | (refine zao ?_) | (refine zam ?_) | (refine zan ?_) | (refine zaq rfl ?_) | (refine zah ?_) | (refine zai ?_) | (refine zbi ?_))
    · exact ret_int rfl (zbh rfl) (idx_some hi2 hga aA).symm
    · refine zb6 (i + 1) rfl aW ⟨by omega, idx_step hi2 hga (by simpa using h)⟩ aO
  · repeat' (first
      | (refine zaz ?_; first | (refine za4 ?_; refine zas _ rfl ?_) | (refine zak ?_; refine zaa _ rfl ?_) | (refine zbu ?_; first | (refine zb0 rfl rfl aO ?_) | (refine zbs _ rfl rfl rfl ?_) | (refine zav _ rfl rfl rfl ?_)) | (refine zbb ?_; first | (refine zab aA rfl ?_) | (refine zae _ aA rfl rfl aE rfl ?_) | (refine zac _ aA rfl aZ aL ?_) | (refine zad _ aA rfl rfl aE aZ aL ?_)) | (refine zbd ?_; first | (refine zax _ aA rfl rfl aO aA ?_) | (refine zaw _ aA rfl rfl rfl rfl aO aO (by first | (rw [Nat.zero_add, Int.toNat_natCast]) | (rw [Nat.zero_add]) | rfl) ?_)) | (refine za9 ?_; first | (refine za8 aA rfl ?_) | (refine za6 aA rfl rfl ?_) | (refine za5 aA rfl ?_) | (refine za7 aA (evO_ok rfl) ?_)) | (refine zar (hK _ _ (.inl rfl) ?_); clear hK K) | (refine zar (hK _ _ (.inr (by kernel_rfl)) ?_); clear hK K))
      | (refine za3 ?_; first | (refine zbk ?_) | (refine zaf (fun K hK => ?_)) | (refine zap ?_) | (refine za0 ?_) | (refine zbj ?_) | (refine za1 ?_) | (refine zbe ?_; first | (refine zat rfl aD ?_) | (refine zau rfl aD ?_) | (refine zay rfl (fun h => ?_) (fun h => ?_) <;> (have h' := h; (try simp only [sx] at h')))))
      | (refine za2 ?_) | (refine zag ?_) | (refine zaj ?_) | (refine zao ?_) | (refine zam ?_) | (refine zan ?_) | (refine zaq rfl ?_) | (refine zah ?_) | (refine zai ?_) | (refine zbi ?_))
    exact ret_int rfl (zbh rfl) (idx_none fun j hj => hi2 j aO).symm
theorem k_ContainsFuncR (xs : List (List Int)) (g : FuncId) (ca : List (List PV)) (p : List Int → Bool) (hg : ∀ a ∈ xs, Con Try.prog g (.list 1 (ints a) :: ca.map PV.ptr) (.bool (p a))) (hn : xs.length ≤ 1099511627776) :
    Con Try.prog 150 [.list 1 (tabR xs), .fn g [] (ca.map PV.ptr)] (.bool (xs.any p)) := by
  intro al
  refine zba hmix Try.func150 rfl (by kernel_rfl) (by kernel_rfl) (Nat.le_of_ble_eq_true rfl) (fun row h => by cases h) ?_
  have hty_u35 := ty_u35
  have hty_s35 := ty_s35
  repeat' (first
      | (refine zaz ?_; first | (refine za4 ?_; refine zas _ rfl ?_) | (refine zak ?_; refine zaa _ rfl ?_) | (refine zbu ?_; refine zbs _ rfl rfl rfl ?_) | (refine za9 ?_; refine zbc false (k_IndexFuncR xs g ca p hg hn) rfl rfl rfl aS rfl aH ?_; simp only [cl]) | (refine zar (hK _ _ (.inl rfl) ?_); clear hK K) | (refine zar (hK _ _ (.inr (by kernel_rfl)) ?_); clear hK K))
      | (refine za3 ?_; first | (refine zbk ?_) | (refine zaf (fun K hK => ?_)) | (refine zap ?_) | (refine za0 ?_) | (refine zbj ?_) | (refine za1 ?_))
      | (refine za2 ?_) | (refine zag ?_) | (refine zaj ?_) | (refine zao ?_) | (refine zam ?_) | (refine zan ?_) | (refine zaq rfl ?_) | (refine zah ?_) | (refine zai ?_) | (refine zbi ?_))
  refine zb2 rfl (zbh rfl) ?_
  rw [← idx_any]
theorem k_allR (t : Terrain) (xs : List (List Int)) (p : List Int → Bool) (hg : ∀ a ∈ xs, Con Try.prog 112 [.agg t.pv, .list 1 (ints a)] (.bool (p a))) (hn : xs.length ≤ 1099511627776) :
    Con Try.prog 111 [.list 1 (tabR xs), .fn 112 [.agg t.pv] []] (.bool (xs.all p)) := by
  intro al
  refine zba hmix Try.func111 rfl (by kernel_rfl) (by kernel_rfl) (Nat.le_of_ble_eq_true rfl) (fun row h => by cases h) ?_
  have hty_u35 := ty_u35
  have hty_s35 := ty_s35
  repeat' (first
      | (refine zaz ?_; first | (refine za4 ?_; refine zas _ rfl ?_) | (refine zak ?_; refine zaa _ rfl ?_) | (refine g_un ?_; first | (refine zb7 rfl ?_) | (refine zb8 rfl aO ?_)) | (refine za9 ?_; refine zbc true (k_ContainsFuncR xs 151 [[.fn 112 [.agg t.pv] []]] (fun a => !p a) (fun a ha => k_all1R t a (p a) (hg a ha)) hn) rfl rfl rfl aS rfl aH ?_; simp only [cl]) | (refine zbt _ _ rfl rfl rfl rfl ?_) | (refine zcm _ _ rfl rfl ?_) | (refine zar (hK _ _ (.inl rfl) ?_); clear hK K) | (refine zar (hK _ _ (.inr (by kernel_rfl)) ?_); clear hK K))
      | (refine za3 ?_; first | (refine zbk ?_) | (refine zaf (fun K hK => ?_)) | (refine zap ?_) | (refine za0 ?_) | (refine zbj ?_) | (refine za1 ?_))
      | (refine za2 ?_) | (refine zag ?_) | (refine zaj ?_) | (refine zao ?_) | (refine zam ?_) | (refine zan ?_) | (refine zaq rfl ?_) | (refine zah ?_) | (refine zai ?_) | (refine zbi ?_))
  refine zb2 rfl (zbh rfl) ?_
  rw [List.all_eq_not_any_not]
@[reducible] def rgB (t : Terrain) (xs : List (List Int)) : Bool := decide (GoodT t) && xs.all fun r => decide (SetG t r)
theorem k_isRegion (t : Terrain) (xs : List (List Int)) (hn : t.burn.length ≤ 1000000) (hm : xs.length ≤ 1000000) (hs : ∀ r ∈ xs, r.length ≤ 1000000) :
    Con Try.prog 55 [.agg t.pv, .list 1 (tabR xs)] (.bool (rgB t xs)) := by
  intro al
  refine zba hmix Try.func55 rfl (by kernel_rfl) (by kernel_rfl) (Nat.le_of_ble_eq_true rfl) (fun row h => by cases h) ?_
  have hty_a26 := ty_a26
  have hty_u35 := ty_u35
  have hty_s35 := ty_s35
  have k1 := k_IsTerrain t aO
  have k2 := k_allR t xs (fun r => decide (SetG t r)) (fun r h => k_isSet t r aO (by have := hs r h; omega)) aO
  unfold rgB
  generalize decide (GoodT t) = x at *
  generalize (xs.all fun r => decide (SetG t r)) = y at *
  cases x
  · repeat' (first
      | (refine zaz ?_; first | (refine za4 ?_; refine zas _ rfl ?_) | (refine zak ?_; refine zaa _ rfl ?_) | (refine zbb ?_; first | (refine zab aA rfl ?_) | (refine zae _ aA rfl rfl aE rfl ?_) | (refine zac _ aA rfl aZ aL ?_) | (refine zad _ aA rfl rfl aE aZ aL ?_)) | (refine zb3 ?_; first | (refine zbn rfl aD rfl ?_) | (refine zbp rfl aD ?_) | (refine zbm rfl aD ?_) | (refine zbq rfl aD rfl ?_)) | (refine zby ?_; first | (refine zb4 rfl rfl aD ?_) | (refine zcc rfl rfl aD ?_) | (refine zcb rfl rfl ?_) | (refine zbo rfl rfl (fun h => ?_) (fun h => ?_) <;> (have h' := h; (try simp only [sx] at h')))) | (refine za9 ?_; first | (refine zbc true (k1) rfl rfl rfl aS rfl aH ?_; simp only [cl]) | (refine zbc true (k2) rfl rfl rfl aS rfl aH ?_; simp only [cl])) | (refine zbt _ _ rfl rfl rfl rfl ?_) | (refine zcm _ _ rfl rfl ?_) | (refine zar (hK _ _ (.inl rfl) ?_); clear hK K) | (refine zar (hK _ _ (.inr (by kernel_rfl)) ?_); clear hK K))
      | (refine za3 ?_; first | (refine zbk ?_) | (refine zaf (fun K hK => ?_)) | (refine zap ?_) | (refine za0 ?_) | (refine zbj ?_) | (refine za1 ?_))
      | (refine za2 ?_) | (refine zag ?_) | (refine zaj ?_) | (refine zao ?_) | (refine zam ?_) | (refine zan ?_) | (refine zaq rfl ?_) | (refine zah ?_) | (refine zai ?_) | (refine zbi ?_))
    all_goals exact zb2 rfl (zbh rfl) rfl
  · repeat' (first
      | (refine zaz ?_; first | (refine za4 ?_; refine zas _ rfl ?_) | (refine zak ?_; refine zaa _ rfl ?_) | (refine zbb ?_; first | (refine zab aA rfl ?_) | (refine zae _ aA rfl rfl aE rfl ?_) | (refine zac _ aA rfl aZ aL ?_) | (refine zad _ aA rfl rfl aE aZ aL ?_)) | (refine zb3 ?_; first | (refine zbn rfl aD rfl ?_) | (refine zbp rfl aD ?_) | (refine zbm rfl aD ?_) | (refine zbq rfl aD rfl ?_)) | (refine zby ?_; first | (refine zb4 rfl rfl aD ?_) | (refine zcc rfl rfl aD ?_) | (refine zcb rfl rfl ?_) | (refine zbo rfl rfl (fun h => ?_) (fun h => ?_) <;> (have h' := h; (try simp only [sx] at h')))) | (refine za9 ?_; first | (refine zbc true (k1) rfl rfl rfl aS rfl aH ?_; simp only [cl]) | (refine zbc true (k2) rfl rfl rfl aS rfl aH ?_; simp only [cl])) | (refine zbt _ _ rfl rfl rfl rfl ?_) | (refine zcm _ _ rfl rfl ?_) | (refine zar (hK _ _ (.inl rfl) ?_); clear hK K) | (refine zar (hK _ _ (.inr (by kernel_rfl)) ?_); clear hK K))
      | (refine za3 ?_; first | (refine zbk ?_) | (refine zaf (fun K hK => ?_)) | (refine zap ?_) | (refine za0 ?_) | (refine zbj ?_) | (refine za1 ?_))
      | (refine za2 ?_) | (refine zag ?_) | (refine zaj ?_) | (refine zao ?_) | (refine zam ?_) | (refine zan ?_) | (refine zaq rfl ?_) | (refine zah ?_) | (refine zai ?_) | (refine zbi ?_))
    all_goals exact zb2 rfl (zbh rfl) (by simp)
theorem k_beside (t : Terrain) (a c : Int) (hg : GoodT t) (ha : IsCell t a) (hc : IsCell t c) : Con Try.prog 90 [.agg t.pv, .int .i64 a, .int .i64 c] (.bool (besB t a c)) := by
  intro al
  refine zba hmix Try.func90 rfl (by kernel_rfl) (by kernel_rfl) (Nat.le_of_ble_eq_true rfl) (fun row h => by cases h) ?_
  have hty_a26 := ty_a26
  have hd := hg.1
  unfold Dims at hd
  have hca := ha
  have hcb := hc
  unfold IsCell at hca hcb
  have hl := goodT_len hg
  have kA := k_apart t a c hg ha hc
  have k1 := k_column t a hd.1.1 aO
  have k2 := k_column t c hd.1.1 aO
  have k3 := k_row t a hd.1.1 aO
  have k4 := k_row t c hd.1.1 aO
  unfold besB colOf rowOf
  generalize apart t a c = d at *
  generalize a % t.width = u1 at *
  generalize c % t.width = u2 at *
  generalize a / t.width = v1 at *
  generalize c / t.width = v2 at *
  by_cases h1 : d = 1
  · by_cases h2 : u1 = u2
    · repeat' (first
      | (refine zaz ?_; first | (refine za4 ?_; refine zas _ rfl ?_) | (refine zak ?_; refine zaa _ rfl ?_) | (refine zbu ?_; first | (refine zbs _ rfl rfl rfl ?_) | (refine zbr aA rfl rfl ?_) | (refine zav _ rfl rfl rfl ?_)) | (refine zbb ?_; first | (refine zab aA rfl ?_) | (refine zae _ aA rfl rfl aE rfl ?_) | (refine zac _ aA rfl aZ aL ?_) | (refine zad _ aA rfl rfl aE aZ aL ?_)) | (refine zb3 ?_; first | (refine zbn rfl aD rfl ?_) | (refine zbp rfl aD ?_) | (refine zbm rfl aD ?_) | (refine zbq rfl aD rfl ?_)) | (refine zby ?_; first | (refine zb4 rfl rfl aD ?_) | (refine zcc rfl rfl aD ?_) | (refine zcb rfl rfl ?_) | (refine zbo rfl rfl (fun h => ?_) (fun h => ?_) <;> (have h' := h; (try simp only [sx] at h')))) | (refine za9 ?_; first | (refine zbc true (kA) rfl rfl rfl aS rfl aH ?_; simp only [cl]) | (refine zbc true (k1) rfl rfl rfl aS rfl aH ?_; simp only [cl]) | (refine zbc true (k2) rfl rfl rfl aS rfl aH ?_; simp only [cl]) | (refine zbc true (k3) rfl rfl rfl aS rfl aH ?_; simp only [cl]) | (refine zbc true (k4) rfl rfl rfl aS rfl aH ?_; simp only [cl])) | (refine zbt _ _ rfl rfl rfl rfl ?_) | (refine zar (hK _ _ (.inl rfl) ?_); clear hK K) | (refine zar (hK _ _ (.inr (by kernel_rfl)) ?_); clear hK K))
      | (refine za3 ?_; first | (refine zbk ?_) | (refine zaf (fun K hK => ?_)) | (refine zap ?_) | (refine za0 ?_) | (refine zbj ?_) | (refine za1 ?_))
      | (refine za2 ?_) | (refine zag ?_) | (refine zaj ?_) | (refine zao ?_) | (refine zam ?_) | (refine zan ?_) | (refine zaq rfl ?_) | (refine zah ?_) | (refine zai ?_) | (refine zbi ?_))
      all_goals first
        | (exfalso; omega)
        | exact zb2 rfl (zbh rfl) (by rw [Bool.eq_iff_iff]; simp [h1, h2])
    · repeat' (first
      | (refine zaz ?_; first | (refine za4 ?_; refine zas _ rfl ?_) | (refine zak ?_; refine zaa _ rfl ?_) | (refine zbu ?_; first | (refine zbs _ rfl rfl rfl ?_) | (refine zbr aA rfl rfl ?_) | (refine zav _ rfl rfl rfl ?_)) | (refine zbb ?_; first | (refine zab aA rfl ?_) | (refine zae _ aA rfl rfl aE rfl ?_) | (refine zac _ aA rfl aZ aL ?_) | (refine zad _ aA rfl rfl aE aZ aL ?_)) | (refine zb3 ?_; first | (refine zbn rfl aD rfl ?_) | (refine zbp rfl aD ?_) | (refine zbm rfl aD ?_) | (refine zbq rfl aD rfl ?_)) | (refine zby ?_; first | (refine zb4 rfl rfl aD ?_) | (refine zcc rfl rfl aD ?_) | (refine zcb rfl rfl ?_) | (refine zbo rfl rfl (fun h => ?_) (fun h => ?_) <;> (have h' := h; (try simp only [sx] at h')))) | (refine za9 ?_; first | (refine zbc true (kA) rfl rfl rfl aS rfl aH ?_; simp only [cl]) | (refine zbc true (k1) rfl rfl rfl aS rfl aH ?_; simp only [cl]) | (refine zbc true (k2) rfl rfl rfl aS rfl aH ?_; simp only [cl]) | (refine zbc true (k3) rfl rfl rfl aS rfl aH ?_; simp only [cl]) | (refine zbc true (k4) rfl rfl rfl aS rfl aH ?_; simp only [cl])) | (refine zbt _ _ rfl rfl rfl rfl ?_) | (refine zar (hK _ _ (.inl rfl) ?_); clear hK K) | (refine zar (hK _ _ (.inr (by kernel_rfl)) ?_); clear hK K))
      | (refine za3 ?_; first | (refine zbk ?_) | (refine zaf (fun K hK => ?_)) | (refine zap ?_) | (refine za0 ?_) | (refine zbj ?_) | (refine za1 ?_))
      | (refine za2 ?_) | (refine zag ?_) | (refine zaj ?_) | (refine zao ?_) | (refine zam ?_) | (refine zan ?_) | (refine zaq rfl ?_) | (refine zah ?_) | (refine zai ?_) | (refine zbi ?_))
      all_goals first
        | (exfalso; omega)
        | exact zb2 rfl (zbh rfl) (by rw [Bool.eq_iff_iff]; simp [h1, h2])
  · repeat' (first
      | (refine zaz ?_; first | (refine za4 ?_; refine zas _ rfl ?_) | (refine zak ?_; refine zaa _ rfl ?_) | (refine zbu ?_; first | (refine zbs _ rfl rfl rfl ?_) | (refine zbr aA rfl rfl ?_) | (refine zav _ rfl rfl rfl ?_)) | (refine zbb ?_; first | (refine zab aA rfl ?_) | (refine zae _ aA rfl rfl aE rfl ?_) | (refine zac _ aA rfl aZ aL ?_) | (refine zad _ aA rfl rfl aE aZ aL ?_)) | (refine zb3 ?_; first | (refine zbn rfl aD rfl ?_) | (refine zbp rfl aD ?_) | (refine zbm rfl aD ?_) | (refine zbq rfl aD rfl ?_)) | (refine zby ?_; first | (refine zb4 rfl rfl aD ?_) | (refine zcc rfl rfl aD ?_) | (refine zcb rfl rfl ?_) | (refine zbo rfl rfl (fun h => ?_) (fun h => ?_) <;> (have h' := h; (try simp only [sx] at h')))) | (refine za9 ?_; first | (refine zbc true (kA) rfl rfl rfl aS rfl aH ?_; simp only [cl]) | (refine zbc true (k1) rfl rfl rfl aS rfl aH ?_; simp only [cl]) | (refine zbc true (k2) rfl rfl rfl aS rfl aH ?_; simp only [cl]) | (refine zbc true (k3) rfl rfl rfl aS rfl aH ?_; simp only [cl]) | (refine zbc true (k4) rfl rfl rfl aS rfl aH ?_; simp only [cl])) | (refine zbt _ _ rfl rfl rfl rfl ?_) | (refine zar (hK _ _ (.inl rfl) ?_); clear hK K) | (refine zar (hK _ _ (.inr (by kernel_rfl)) ?_); clear hK K))
      | (refine za3 ?_; first | (refine zbk ?_) | (refine zaf (fun K hK => ?_)) | (refine zap ?_) | (refine za0 ?_) | (refine zbj ?_) | (refine za1 ?_))
      | (refine za2 ?_) | (refine zag ?_) | (refine zaj ?_) | (refine zao ?_) | (refine zam ?_) | (refine zan ?_) | (refine zaq rfl ?_) | (refine zah ?_) | (refine zai ?_) | (refine zbi ?_))
    all_goals first
      | (exfalso; omega)
      | exact zb2 rfl (zbh rfl) (by simp [h1])
theorem k_isBorder (t : Terrain) (c : Int) (hg : GoodT t) (hc : IsCell t c) : Con Try.prog 132 [.agg t.pv, .int .i64 c] (.bool (bordB t c)) := by
  intro al
  refine zba hmix Try.func132 rfl (by kernel_rfl) (by kernel_rfl) (Nat.le_of_ble_eq_true rfl) (fun row h => by cases h) ?_
  have hty_a26 := ty_a26
  have hty_f26_0 := ty_f26_0
  have hty_c3 := ty_c3
  have hty_f26_1 := ty_f26_1
  have hd := hg.1
  unfold Dims at hd
  have hcb := hc
  unfold IsCell at hcb
  have hl := goodT_len hg
  have k2 := k_column t c hd.1.1 aO
  have k4 := k_row t c hd.1.1 aO
  unfold bordB colOf rowOf
  generalize c % t.width = u at *
  generalize c / t.width = v at *
  by_cases h1 : u = 0
  · repeat' (first
      | (refine zaz ?_; first | (refine za4 ?_; refine zas _ rfl ?_) | (refine zak ?_; refine zaa _ rfl ?_) | (refine zbu ?_; first | (refine zch rfl rfl aO ?_) | (refine zbs _ rfl rfl rfl ?_) | (refine zbr aA rfl rfl ?_) | (refine zav _ rfl rfl rfl ?_)) | (refine zbb ?_; first | (refine zab aA rfl ?_) | (refine zae _ aA rfl rfl aE rfl ?_) | (refine zac _ aA rfl aZ aL ?_) | (refine zad _ aA rfl rfl aE aZ aL ?_)) | (refine zbz ?_; first | (refine zbf _ aA rfl aL ?_) | (refine zbg _ aA rfl rfl (by simp only [lx, Nat.reduceAdd]; first | done | rfl) ?_)) | (refine zb3 ?_; first | (refine zbn rfl aD rfl ?_) | (refine zbp rfl aD ?_) | (refine zbm rfl aD ?_) | (refine zbq rfl aD rfl ?_)) | (refine zby ?_; first | (refine zb4 rfl rfl aD ?_) | (refine zcc rfl rfl aD ?_) | (refine zcb rfl rfl ?_) | (refine zbo rfl rfl (fun h => ?_) (fun h => ?_) <;> (have h' := h; (try simp only [sx] at h')))) | (refine za9 ?_; first | (refine zbc true (k2) rfl rfl rfl aS rfl aH ?_; simp only [cl]) | (refine zbc true (k4) rfl rfl rfl aS rfl aH ?_; simp only [cl])) | (refine zbt _ _ rfl rfl rfl rfl ?_) | (refine zar (hK _ _ (.inl rfl) ?_); clear hK K) | (refine zar (hK _ _ (.inr (by kernel_rfl)) ?_); clear hK K))
      | (refine za3 ?_; first | (refine zbk ?_) | (refine zaf (fun K hK => ?_)) | (refine zap ?_) | (refine za0 ?_) | (refine zbj ?_) | (refine za1 ?_))
      | (refine za2 ?_) | (refine zag ?_) | (refine zaj ?_) | (refine zao ?_) | (refine zam ?_) | (refine zan ?_) | (refine zaq rfl ?_) | (refine zah ?_) | (refine zai ?_) | (refine zbi ?_))
    all_goals first
      | (exfalso; omega)
      | exact zb2 rfl (zbh rfl) (by simp [h1])
  · by_cases h2 : v = 0
    · repeat' (first
      | (refine zaz ?_; first | (refine za4 ?_; refine zas _ rfl ?_) | (refine zak ?_; refine zaa _ rfl ?_) | (refine zbu ?_; first | (refine zch rfl rfl aO ?_) | (refine zbs _ rfl rfl rfl ?_) | (refine zbr aA rfl rfl ?_) | (refine zav _ rfl rfl rfl ?_)) | (refine zbb ?_; first | (refine zab aA rfl ?_) | (refine zae _ aA rfl rfl aE rfl ?_) | (refine zac _ aA rfl aZ aL ?_) | (refine zad _ aA rfl rfl aE aZ aL ?_)) | (refine zbz ?_; first | (refine zbf _ aA rfl aL ?_) | (refine zbg _ aA rfl rfl (by simp only [lx, Nat.reduceAdd]; first | done | rfl) ?_)) | (refine zb3 ?_; first | (refine zbn rfl aD rfl ?_) | (refine zbp rfl aD ?_) | (refine zbm rfl aD ?_) | (refine zbq rfl aD rfl ?_)) | (refine zby ?_; first | (refine zb4 rfl rfl aD ?_) | (refine zcc rfl rfl aD ?_) | (refine zcb rfl rfl ?_) | (refine zbo rfl rfl (fun h => ?_) (fun h => ?_) <;> (have h' := h; (try simp only [sx] at h')))) | (refine za9 ?_; first | (refine zbc true (k2) rfl rfl rfl aS rfl aH ?_; simp only [cl]) | (refine zbc true (k4) rfl rfl rfl aS rfl aH ?_; simp only [cl])) | (refine zbt _ _ rfl rfl rfl rfl ?_) | (refine zar (hK _ _ (.inl rfl) ?_); clear hK K) | (refine zar (hK _ _ (.inr (by kernel_rfl)) ?_); clear hK K))
      | (refine za3 ?_; first | (refine zbk ?_) | (refine zaf (fun K hK => ?_)) | (refine zap ?_) | (refine za0 ?_) | (refine zbj ?_) | (refine za1 ?_))
      | (refine za2 ?_) | (refine zag ?_) | (refine zaj ?_) | (refine zao ?_) | (refine zam ?_) | (refine zan ?_) | (refine zaq rfl ?_) | (refine zah ?_) | (refine zai ?_) | (refine zbi ?_))
      all_goals first
        | (exfalso; omega)
        | exact zb2 rfl (zbh rfl) (by rw [Bool.eq_iff_iff]; simp [h1, h2])
    · by_cases h3 : u = t.width - 1
      · repeat' (first
      | (refine zaz ?_; first | (refine za4 ?_; refine zas _ rfl ?_) | (refine zak ?_; refine zaa _ rfl ?_) | (refine zbu ?_; first | (refine zch rfl rfl aO ?_) | (refine zbs _ rfl rfl rfl ?_) | (refine zbr aA rfl rfl ?_) | (refine zav _ rfl rfl rfl ?_)) | (refine zbb ?_; first | (refine zab aA rfl ?_) | (refine zae _ aA rfl rfl aE rfl ?_) | (refine zac _ aA rfl aZ aL ?_) | (refine zad _ aA rfl rfl aE aZ aL ?_)) | (refine zbz ?_; first | (refine zbf _ aA rfl aL ?_) | (refine zbg _ aA rfl rfl (by simp only [lx, Nat.reduceAdd]; first | done | rfl) ?_)) | (refine zb3 ?_; first | (refine zbn rfl aD rfl ?_) | (refine zbp rfl aD ?_) | (refine zbm rfl aD ?_) | (refine zbq rfl aD rfl ?_)) | (refine zby ?_; first | (refine zb4 rfl rfl aD ?_) | (refine zcc rfl rfl aD ?_) | (refine zcb rfl rfl ?_) | (refine zbo rfl rfl (fun h => ?_) (fun h => ?_) <;> (have h' := h; (try simp only [sx] at h')))) | (refine za9 ?_; first | (refine zbc true (k2) rfl rfl rfl aS rfl aH ?_; simp only [cl]) | (refine zbc true (k4) rfl rfl rfl aS rfl aH ?_; simp only [cl])) | (refine zbt _ _ rfl rfl rfl rfl ?_) | (refine zar (hK _ _ (.inl rfl) ?_); clear hK K) | (refine zar (hK _ _ (.inr (by kernel_rfl)) ?_); clear hK K))
      | (refine za3 ?_; first | (refine zbk ?_) | (refine zaf (fun K hK => ?_)) | (refine zap ?_) | (refine za0 ?_) | (refine zbj ?_) | (refine za1 ?_))
      | (refine za2 ?_) | (refine zag ?_) | (refine zaj ?_) | (refine zao ?_) | (refine zam ?_) | (refine zan ?_) | (refine zaq rfl ?_) | (refine zah ?_) | (refine zai ?_) | (refine zbi ?_))
        all_goals first
          | (exfalso; omega)
          | exact zb2 rfl (zbh rfl) (by rw [Bool.eq_iff_iff]; simp [h1, h2, h3])
      · repeat' (first
      | (refine zaz ?_; first | (refine za4 ?_; refine zas _ rfl ?_) | (refine zak ?_; refine zaa _ rfl ?_) | (refine zbu ?_; first | (refine zch rfl rfl aO ?_) | (refine zbs _ rfl rfl rfl ?_) | (refine zbr aA rfl rfl ?_) | (refine zav _ rfl rfl rfl ?_)) | (refine zbb ?_; first | (refine zab aA rfl ?_) | (refine zae _ aA rfl rfl aE rfl ?_) | (refine zac _ aA rfl aZ aL ?_) | (refine zad _ aA rfl rfl aE aZ aL ?_)) | (refine zbz ?_; first | (refine zbf _ aA rfl aL ?_) | (refine zbg _ aA rfl rfl (by simp only [lx, Nat.reduceAdd]; first | done | rfl) ?_)) | (refine zb3 ?_; first | (refine zbn rfl aD rfl ?_) | (refine zbp rfl aD ?_) | (refine zbm rfl aD ?_) | (refine zbq rfl aD rfl ?_)) | (refine zby ?_; first | (refine zb4 rfl rfl aD ?_) | (refine zcc rfl rfl aD ?_) | (refine zcb rfl rfl ?_) | (refine zbo rfl rfl (fun h => ?_) (fun h => ?_) <;> (have h' := h; (try simp only [sx] at h')))) | (refine za9 ?_; first | (refine zbc true (k2) rfl rfl rfl aS rfl aH ?_; simp only [cl]) | (refine zbc true (k4) rfl rfl rfl aS rfl aH ?_; simp only [cl])) | (refine zbt _ _ rfl rfl rfl rfl ?_) | (refine zar (hK _ _ (.inl rfl) ?_); clear hK K) | (refine zar (hK _ _ (.inr (by kernel_rfl)) ?_); clear hK K))
      | (refine za3 ?_; first | (refine zbk ?_) | (refine zaf (fun K hK => ?_)) | (refine zap ?_) | (refine za0 ?_) | (refine zbj ?_) | (refine za1 ?_))
      | (refine za2 ?_) | (refine zag ?_) | (refine zaj ?_) | (refine zao ?_) | (refine zam ?_) | (refine zan ?_) | (refine zaq rfl ?_) | (refine zah ?_) | (refine zai ?_) | (refine zbi ?_))
        all_goals first
          | (exfalso; omega)
          | exact zb2 rfl (zbh rfl) (by rw [Bool.eq_iff_iff]; simp [h1, h2, h3])
end Go.Vs
set_option linter.unusedVariables false
set_option linter.unusedSimpArgs false
namespace Go.Vs
def ContractR (P : Program) (f : FuncId) (args : List PV) (ios mvs : List Row) (r : PV) (ios' mvs' : List Row) : Prop :=
  Callable P f ∧ ∀ (G : Nat → Prop) (w : World) (X : List (Option (Nat × Nat))) (ρ : Id → Option (Nat × Nat)) (cargs : Array Value),
    WRel G ρ w X (memS ios mvs) w → Comps ρ w (Stab G ρ (memS ios mvs) w) (memS ios mvs) cargs args →
    Calls P f cargs w fun e w' => ∃ v ρ', e = .returned v ∧ WRel G ρ' w X (memS ios' mvs') w' ∧ Rep ρ' w' (Stab G ρ' (memS ios' mvs') w') (memS ios' mvs') v r
section
variable {P : Program} {G G' : Nat → Prop} {ρ ρ' : Id → Option (Nat × Nat)} {w0 w : World} {X : List (Option (Nat × Nat))} {M M' : Mem}
theorem callR_sound (hW : WRel G ρ w0 X M w) {f : FuncId} {cargs : Array Value} {xs ys : List PV} {d : Nat} {ids mids rd : List Id} {ios mvs ios' mvs' : List Row} {r : PV}
    (hc : Comps ρ w (Stab G ρ M w) M cargs xs) (ok : CallOkS M d xs ys ids mids rd ios mvs ios' mvs') (hC : ContractR P f ys ios mvs r ios' mvs') (hrr : refsD 5 (namesS ios.length mvs.length) r = true) :
    Calls P f cargs w fun e w' => ∃ v ρ2, e = .returned v ∧ Trans G ρ M w ρ2 (M.upds (upsS d ids mids rd ios' mvs')) w' ∧
      WRel G ρ2 w0 X (M.upds (upsS d ids mids rd ios' mvs')) w' ∧ Rep ρ2 w' (Stab G ρ2 (M.upds (upsS d ids mids rd ios' mvs')) w') (M.upds (upsS d ids mids rd ios' mvs')) v (subD 5 (outS ids d) r) := by
  have hnd := List.nodup_append.1 ok.nodup
  have hdis : ∀ id, id ∈ ids → id ∉ mids := fun id h1 h2 => hnd.2.2 id h1 id h2 rfl
  have liveI : ∀ (k : Nat) id, ids[k]? = some id → ∃ row, ios[k]? = some row ∧ M id = some (some (sbr (inS ids mids) row)) ∧ refsR (namesS ios.length mvs.length) row := fun k id hk => by
    have hlt : k < ios.length := by rw [← ok.len]; exact (List.getElem?_eq_some_iff.1 hk).1
    exact ⟨_, List.getElem?_eq_getElem hlt, ok.lent k id _ hk (List.getElem?_eq_getElem hlt)⟩
  have liveM : ∀ (k : Nat) id, mids[k]? = some id → ∃ row, mvs[k]? = some row ∧ M id = some (some (sbr (inS ids mids) row)) ∧ row.bx = false ∧ id.1 ≠ io := fun k id hk => by
    have hlt : k < mvs.length := by rw [← ok.lem]; exact (List.getElem?_eq_some_iff.1 hk).1
    exact ⟨_, List.getElem?_eq_getElem hlt, ok.lemt k id _ hk (List.getElem?_eq_getElem hlt)⟩
  have liveA : ∀ id, id ∈ ids ∨ id ∈ mids → ∃ r0, M id = some (some r0) := by
    rintro id (h | h)
    · obtain ⟨k, hk⟩ := List.getElem?_of_mem h
      obtain ⟨row, _, h2, _⟩ := liveI k id hk
      exact ⟨_, h2⟩
    · obtain ⟨k, hk⟩ := List.getElem?_of_mem h
      obtain ⟨row, _, h2, _⟩ := liveM k id hk
      exact ⟨_, h2⟩
  have nd : ∀ id x, M id = some x → id.1 ≠ d := fun id x h e => by
    rw [show id = (d, id.2) from by rw [← e], ok.free] at h
    cases h
  have hin1 : ∀ (k : Nat) id, ids[k]? = some id → inS ids mids (io, k) = id := fun k id hk => by simp [inS, hk]
  have hin2 : ∀ (k : Nat) id, mids[k]? = some id → inS ids mids (mv, k) = id := fun k id hk => by simp [inS, hk, mv_io]
  have hout1 : ∀ (k : Nat) id, ids[k]? = some id → outS ids d (io, k) = id := fun k id hk => by simp [outS, hk]
  have hout2 : ∀ k : Nat, outS ids d (mv, k) = (d, k) := fun k => by simp [outS, mv_io]
  obtain ⟨T1, W1⟩ : Trans G ρ M w ρ (M.upds (deadS rd)) w ∧ WRel G ρ w0 X (M.upds (deadS rd)) w := freeze_all hW rd (fun id hid => (ok.given id hid).2) ok.rnodup
  let ρc : Id → Option (Nat × Nat) := fun id => if id.1 = io ∨ id.1 = mv then ρ (inS ids mids id) else none
  let Xc : List (Option (Nat × Nat)) := ids.map ρ ++ mids.map ρ
  let Gc : Nat → Prop := fun b => Stab G ρ (M.upds (deadS rd)) w b ∨ w.heap.size ≤ b ∨ ∃ z, some (b, z) ∈ Xc
  have hρ1 : ∀ (k : Nat) id, ids[k]? = some id → ρc (io, k) = ρ id := fun k id hk => by simp only [ρc, true_or, if_true, hin1 k id hk]
  have hρ2 : ∀ (k : Nat) id, mids[k]? = some id → ρc (mv, k) = ρ id := fun k id hk => by simp only [ρc, or_true, if_true, hin2 k id hk]
  have hmem : ∀ id row, memS ios mvs id = some (some row) → (id = (io, id.2) ∧ ios[id.2]? = some row ∧ ∃ id', ids[id.2]? = some id') ∨ (id = (mv, id.2) ∧ mvs[id.2]? = some row ∧ ∃ id', mids[id.2]? = some id') := by
    intro id row h
    simp only [memS] at h
    split at h
    · rename_i h1
      obtain ⟨row', g1, g2⟩ := Option.map_eq_some_iff.1 h
      injection g2 with g2
      subst g2
      have hlt : id.2 < ids.length := by rw [ok.len]; exact (List.getElem?_eq_some_iff.1 g1).1
      exact .inl ⟨by rw [← h1], g1, _, List.getElem?_eq_getElem hlt⟩
    · split at h
      · rename_i h1
        obtain ⟨row', g1, g2⟩ := Option.map_eq_some_iff.1 h
        injection g2 with g2
        subst g2
        have hlt : id.2 < mids.length := by rw [ok.lem]; exact (List.getElem?_eq_some_iff.1 g1).1
        exact .inr ⟨by rw [← h1], g1, _, List.getElem?_eq_getElem hlt⟩
      · cases h
  have hlive : ∀ id row, memS ios mvs id = some (some row) → ∃ id', inS ids mids id = id' ∧ M id' = some (some (sbr (inS ids mids) row)) ∧ ρc id = ρ id' ∧ (id' ∈ ids ∨ id' ∈ mids) ∧ refsR (namesS ios.length mvs.length) row := by
    intro id row h
    rcases hmem id row h with ⟨e, h1, id', h2⟩ | ⟨e, h1, id', h2⟩
    · obtain ⟨g1, g2⟩ := ok.lent id.2 id' row h2 h1
      exact ⟨id', by rw [e]; exact hin1 _ _ h2, g1, by rw [e]; exact hρ1 _ _ h2, .inl (List.mem_of_getElem? h2), g2⟩
    · obtain ⟨g1, g2, g3⟩ := ok.lemt id.2 id' row h2 h1
      exact ⟨id', by rw [e]; exact hin2 _ _ h2, g1, by rw [e]; exact hρ2 _ _ h2, .inr (List.mem_of_getElem? h2), fun hb => by rw [g2] at hb; cases hb⟩
  have hinj : ∀ i1 r1 i2 r2, memS ios mvs i1 = some (some r1) → memS ios mvs i2 = some (some r2) → inS ids mids i1 = inS ids mids i2 → i1 = i2 := by
    intro i1 r1 i2 r2 h1 h2 he
    rcases hmem i1 r1 h1 with ⟨e1, _, j1, k1⟩ | ⟨e1, _, j1, k1⟩ <;> rcases hmem i2 r2 h2 with ⟨e2, _, j2, k2⟩ | ⟨e2, _, j2, k2⟩ <;> rw [e1, e2] at he
    · rw [hin1 _ _ k1, hin1 _ _ k2] at he
      subst he
      rw [e1, e2, nodup_inj ids _ _ _ hnd.1 k1 k2]
    · rw [hin1 _ _ k1, hin2 _ _ k2] at he
      subst he
      exact absurd (List.mem_of_getElem? k2) (hdis _ (List.mem_of_getElem? k1))
    · rw [hin2 _ _ k1, hin1 _ _ k2] at he
      subst he
      exact absurd (List.mem_of_getElem? k1) (hdis _ (List.mem_of_getElem? k2))
    · rw [hin2 _ _ k1, hin2 _ _ k2] at he
      subst he
      rw [e1, e2, nodup_inj mids _ _ _ hnd.2.1 k1 k2]
  have hXc : ∀ b z, some (b, z) ∈ Xc → ∃ id, (id ∈ ids ∨ id ∈ mids) ∧ ρ id = some (b, z) := by
    intro b z h
    rcases List.mem_append.1 h with h | h
    · obtain ⟨id, h1, h2⟩ := List.mem_map.1 h; exact ⟨id, .inl h1, h2⟩
    · obtain ⟨id, h1, h2⟩ := List.mem_map.1 h; exact ⟨id, .inr h1, h2⟩
  have hS : ∀ b, Stab G ρ M w b → Stab Gc ρc (memS ios mvs) w b := by
    intro b hb
    refine ⟨hb.1, fun id row z hl => ?_, .inl (T1.stab b hb).1⟩
    obtain ⟨id', _, g1, g2, _⟩ := hlive id row hl
    rw [g2]
    exact hb.2.1 id' _ z g1
  have hId : ∀ id ∈ rd, ∀ r b z, M id = some (some r) → ρ id = some (b, z) → Stab Gc ρc (memS ios mvs) w b := by
    intro id hid r b z hM hρ
    refine ⟨hW.lt hM hρ, fun id2 row z2 hl hh => ?_, .inl ⟨hW.lt hM hρ, fun id2 r2 z2 hl hh => ?_, ?_⟩⟩
    · obtain ⟨id', _, g1, g2, g3, _⟩ := hlive id2 row hl
      rw [g2] at hh
      have := hW.inj id id' r _ b z z2 hM g1 hρ hh
      subst this
      rcases g3 with g3 | g3
      · exact (ok.apart id hid).1 g3
      · exact (ok.apart id hid).2 g3
    · by_cases hin : id2 ∈ rd
      · rw [deadS_at M hin] at hl; cases hl
      · rw [deadS_other M hin] at hl
        have := hW.inj id id2 r r2 b z z2 hM hl hρ hh
        exact hin (by rw [← this]; exact hid)
    · have := hW.new id r hM
      rw [if_neg (ok.given id hid).1] at this
      exact hW.good b (this b z hρ)
  have hMin : ∀ id, ((namesS ios.length mvs.length).any fun k => Nat.beq k.1 id.1 && Nat.beq k.2 id.2) = true → ∃ r r', M (inS ids mids id) = some (some r) ∧ memS ios mvs id = some (some r') ∧ r'.sz = r.sz ∧ r'.ty = r.ty ∧ r'.es.length = r.es.length ∧ ρc id = ρ (inS ids mids id) := by
    intro id hid
    have hx : ∃ row, memS ios mvs id = some (some row) := by
      rcases namesS_any hid with ⟨h1, h2⟩ | ⟨h1, h2⟩
      · rw [h1]; exact ⟨ios[id.2], by simp only [memS, if_true, List.getElem?_eq_getElem h2, Option.map_some]⟩
      · rw [h1]; exact ⟨mvs[id.2], by simp only [memS, mv_io, if_false, if_true, List.getElem?_eq_getElem h2, Option.map_some]⟩
    obtain ⟨row, hrow⟩ := hx
    obtain ⟨id', g0, g1, g2, _⟩ := hlive id row hrow
    exact ⟨sbr (inS ids mids) row, row, by rw [g0]; exact g1, hrow, rfl, rfl, (sbr_len _ _).symm, by rw [g0]; exact g2⟩
  have hentry : WRel Gc ρc w Xc (memS ios mvs) w := by
    refine ⟨?_, ?_, ?_, ⟨rfl, rfl, rfl, Nat.le_refl _, fun _ _ _ => rfl, fun b cur ty fr h => ⟨cur, h, rfl⟩⟩, fun b hb => .inr hb⟩
    · intro i1 i2 r1 r2 b z1 z2 h1 h2 k1 k2
      obtain ⟨j1, e1, m1, p1, _⟩ := hlive i1 r1 h1
      obtain ⟨j2, e2, m2, p2, _⟩ := hlive i2 r2 h2
      rw [p1] at k1
      rw [p2] at k2
      have := hW.inj j1 j2 _ _ b z1 z2 m1 m2 k1 k2
      exact hinj i1 r1 i2 r2 h1 h2 (by rw [e1, e2, this])
    · intro id row hl
      obtain ⟨id', e1, m1, p1, _, href⟩ := hlive id row hl
      rw [p1]
      exact (rowOk_ren (namesS ios.length mvs.length) hMin href).1 hS (hW.row id' _ m1)
    · intro id row hl
      rcases hmem id row hl with ⟨e, h1, id', h2⟩ | ⟨e, h1, id', h2⟩
      · rw [e, if_pos rfl]
        have hlt : id.2 < (ids.map ρ).length := by rw [List.length_map]; exact (List.getElem?_eq_some_iff.1 h2).1
        show (ids.map ρ ++ mids.map ρ)[id.2]? = _
        rw [List.getElem?_append_left hlt, List.getElem?_map, h2, hρ1 _ _ h2]
        rfl
      · rw [e, if_neg mv_io]
        intro b z hb
        rw [hρ2 _ _ h2] at hb
        exact .inr ⟨z, List.mem_append_right _ (List.mem_map.2 ⟨id', List.mem_of_getElem? h2, hb⟩)⟩
  have hargs : Comps ρc w (Stab Gc ρc (memS ios mvs) w) (memS ios mvs) cargs ys :=
    comps_snap (snap_sound hW hS hId 6 ids (memS ios mvs) ρc (fun k id hk => by
      obtain ⟨row, h1, h2, h3⟩ := liveI k id hk
      exact ⟨_, row, h2, by simp only [memS, if_true, h1, Option.map_some], rfl, rfl, (sbr_len _ _).symm, hρ1 k id hk⟩)) ok.snap hc
  refine (hC.2 Gc w Xc ρc cargs hentry hargs).mono ?_
  rintro e w' ⟨v, ρ', rfl, hR, hv⟩
  have hkeep := hR.keep
  let ρ2 : Id → Option (Nat × Nat) := fun id => if id.1 = d then ρ' (mv, id.2) else ρ id
  let M2 : Mem := M.upds (upsS d ids mids rd ios' mvs')
  show ∃ v_1 ρ2, Ending.returned v = Ending.returned v_1 ∧ Trans G ρ M w ρ2 M2 w' ∧ WRel G ρ2 w0 X M2 w' ∧ Rep ρ2 w' (Stab G ρ2 M2 w') M2 v_1 (subD 5 (outS ids d) r)
  have hM2 : M2 = ((((M.upds (deadS rd)).upds (deadS mids)).upds (backS (outS ids d) ids ios')).upds (newS d (outS ids d) 0 mvs')) := by simp only [M2, upsS, upds_append]
  have m2d : ∀ k : Nat, M2 (d, k) = (mvs'[k]?).map fun row => some (sbr (outS ids d) row) := by
    intro k
    rw [hM2, newS_at _ mvs' 0 k, if_pos (Nat.zero_le _), Nat.sub_zero]
    cases mvs'[k]? with
    | some row => rfl
    | none =>
      show (((M.upds (deadS rd)).upds (deadS mids)).upds (backS (outS ids d) ids ios')) (d, k) = none
      have no : ∀ id, id ∈ ids ∨ id ∈ mids ∨ id ∈ rd → id ≠ (d, k) := fun id h e => by
        subst e
        have : ∃ r0, M (d, k) = some (some r0) := by
          rcases h with h | h | h
          · exact liveA _ (.inl h)
          · exact liveA _ (.inr h)
          · exact (ok.given _ h).2
        obtain ⟨r0, h0⟩ := this
        rw [ok.free] at h0; cases h0
      rw [upds_other _ _ _ (fun p hp e => no _ (.inl (backS_fst p hp)) e), deadS_other _ (fun h => no _ (.inr (.inl h)) rfl), deadS_other _ (fun h => no _ (.inr (.inr h)) rfl)]
      exact ok.free k
  have m2n : ∀ id, id.1 ≠ d → M2 id = (((M.upds (deadS rd)).upds (deadS mids)).upds (backS (outS ids d) ids ios')) id := fun id h => by
    rw [hM2, upds_other _ _ id (fun p hp e => h (by rw [← e]; exact newS_fst p hp))]
  have m2i : ∀ (k : Nat) id, ids[k]? = some id → ∃ row', ios'[k]? = some row' ∧ M2 id = some (some (sbr (outS ids d) row')) ∧ id.1 ≠ d := by
    intro k id hk
    have hlt : k < ios'.length := by rw [ok.len', ← ok.len]; exact (List.getElem?_eq_some_iff.1 hk).1
    obtain ⟨row, _, h2, _⟩ := liveI k id hk
    have hne := nd id _ h2
    refine ⟨_, List.getElem?_eq_getElem hlt, ?_, hne⟩
    rw [m2n id hne]
    exact backS_at _ ids ios' k id _ hnd.1 hk (List.getElem?_eq_getElem hlt)
  have m2m : ∀ id, id ∈ mids → M2 id = some none := by
    intro id h
    obtain ⟨r0, h0⟩ := liveA id (.inr h)
    rw [m2n id (nd id _ h0), upds_other _ _ _ (fun p hp e => hdis id (by rw [← e]; exact backS_fst p hp) h)]
    exact deadS_at _ h
  have m2r : ∀ id, id ∈ rd → M2 id = some none := by
    intro id h
    obtain ⟨r0, h0⟩ := (ok.given id h).2
    rw [m2n id (nd id _ h0), upds_other _ _ _ (fun p hp e => (ok.apart id h).1 (by rw [← e]; exact backS_fst p hp)), deadS_other _ (ok.apart id h).2]
    exact deadS_at _ h
  have m2o : ∀ id, id.1 ≠ d → id ∉ ids → id ∉ mids → id ∉ rd → M2 id = M id := by
    intro id h1 h2 h3 h4
    rw [m2n id h1, upds_other _ _ _ (fun p hp e => h2 (by rw [← e]; exact backS_fst p hp)), deadS_other _ h3, deadS_other _ h4]
  have old : ∀ id r2, id.1 ≠ d → M2 id = some (some r2) → id ∉ mids ∧ id ∉ rd ∧ (∃ r0, M id = some (some r0)) ∧ (id ∉ ids → M id = some (some r2)) := by
    intro id r2 h1 h2
    have n1 : id ∉ mids := fun h => by rw [m2m id h] at h2; cases h2
    have n2 : id ∉ rd := fun h => by rw [m2r id h] at h2; cases h2
    refine ⟨n1, n2, ?_, fun h => by rw [m2o id h1 h n1 n2] at h2; exact h2⟩
    by_cases h : id ∈ ids
    · exact liveA id (.inl h)
    · rw [m2o id h1 h n1 n2] at h2; exact ⟨_, h2⟩
  have outI : ∀ (k : Nat) row, ios'[k]? = some row → memS ios' mvs' (io, k) = some (some row) := fun k row h => by simp only [memS, if_true, h, Option.map_some]
  have outM : ∀ (k : Nat) row, mvs'[k]? = some row → memS ios' mvs' (mv, k) = some (some row) := fun k row h => by simp only [memS, mv_io, if_false, if_true, h, Option.map_some]
  have ρio : ∀ (k : Nat) id, ids[k]? = some id → ρ' (io, k) = ρ id := by
    intro k id hk
    obtain ⟨row', h1, _⟩ := m2i k id hk
    have := hR.new (io, k) _ (outI k row' h1)
    rw [if_pos rfl] at this
    have hlt : k < (ids.map ρ).length := by rw [List.length_map]; exact (List.getElem?_eq_some_iff.1 hk).1
    rw [show Xc[k]? = some (ρ id) from by show (ids.map ρ ++ mids.map ρ)[k]? = _; rw [List.getElem?_append_left hlt, List.getElem?_map, hk]; rfl] at this
    injection this with this
    exact this.symm
  have newM : ∀ (k : Nat) row b z, mvs'[k]? = some row → ρ' (mv, k) = some (b, z) → w.heap.size ≤ b ∨ ∃ id ∈ mids, ∃ z', ρ id = some (b, z') := by
    intro k row b z h1 hb
    have := hR.new (mv, k) _ (outM k row h1)
    rw [if_neg mv_io] at this
    rcases this b z hb with h2 | ⟨z', h2⟩
    · exact .inl h2
    · obtain ⟨id, hid | hid, he⟩ := hXc b z' h2
      · exfalso
        obtain ⟨k2, hk2⟩ := List.getElem?_of_mem hid
        obtain ⟨row', g1, _⟩ := m2i k2 id hk2
        have := hR.inj (mv, k) (io, k2) _ _ b z z' (outM k row h1) (outI k2 row' g1) hb (by rw [ρio k2 id hk2]; exact he)
        exact mv_io (congrArg Prod.fst this)
      · exact .inr ⟨id, hid, z', he⟩
  have same : ∀ b, b < w.heap.size → (∀ id, id ∈ ids ∨ id ∈ mids → ∀ z, ρ id ≠ some (b, z)) → w'.heap[b]? = w.heap[b]? := fun b hb h =>
    hkeep.block b hb fun z hm => by
      obtain ⟨id, h1, h2⟩ := hXc b z hm
      exact h id h1 z h2
  have ρ2o : ∀ id, id.1 ≠ d → ρ2 id = ρ id := fun id h => by simp only [ρ2, h, if_false]
  have ρ2d : ∀ k : Nat, ρ2 (d, k) = ρ' (mv, k) := fun k => by simp only [ρ2, if_true]
  have dcase : ∀ id r2, id.1 = d → M2 id = some (some r2) → ∃ row, mvs'[id.2]? = some row ∧ r2 = sbr (outS ids d) row := by
    intro id r2 h1 h2
    rw [show id = (d, id.2) from by rw [← h1], m2d] at h2
    obtain ⟨row, g1, g2⟩ := Option.map_eq_some_iff.1 h2
    injection g2 with g2
    exact ⟨row, g1, g2.symm⟩
  have stab2 : ∀ b, Stab Gc ρ' (memS ios' mvs') w' b → Stab G ρ2 M2 w' b := by
    intro b hb
    refine ⟨hb.1, fun id r2 z hl hh => ?_, ?_⟩
    · by_cases hit : id.1 = d
      · obtain ⟨row, h1, _⟩ := dcase id r2 hit hl
        rw [show id = (d, id.2) from by rw [← hit], ρ2d] at hh
        exact hb.2.1 (mv, id.2) row z (outM _ _ h1) hh
      · rw [ρ2o id hit] at hh
        obtain ⟨n1, n2, ⟨r0, h0⟩, n3⟩ := old id r2 hit hl
        by_cases hi : id ∈ ids
        · obtain ⟨k, hk⟩ := List.getElem?_of_mem hi
          obtain ⟨row', g1, _⟩ := m2i k id hk
          exact hb.2.1 (io, k) _ z (outI k row' g1) (by rw [ρio k id hk]; exact hh)
        · rcases hb.2.2 with hG | hG | ⟨z', hG⟩
          · exact hG.2.1 id r2 z (by rw [deadS_other M n2]; exact n3 hi) hh
          · have := hW.lt h0 hh; omega
          · obtain ⟨id', h1, h2⟩ := hXc b z' hG
            obtain ⟨r1, h3⟩ := liveA id' h1
            have := hW.inj id id' r0 r1 b z z' h0 h3 hh h2
            subst this
            rcases h1 with h1 | h1
            · exact hi h1
            · exact n1 h1
    · rcases hb.2.2 with hG | hG | ⟨z, hG⟩
      · exact hG.2.2
      · exact hW.good b (.inl (Nat.le_trans hW.keep.size hG))
      · obtain ⟨id', h1, h2⟩ := hXc b z hG
        obtain ⟨r1, h3⟩ := liveA id' h1
        have := hW.new id' r1 h3
        split at this
        · exact hW.good b (.inr ⟨z, by rw [← h2]; exact List.mem_of_getElem? this⟩)
        · exact hW.good b (this b z h2)
  have stab1 : ∀ b, Stab G ρ M w b → Stab G ρ2 M2 w' b ∧ w'.heap[b]? = w.heap[b]? := by
    intro b hb
    refine ⟨⟨Nat.lt_of_lt_of_le hb.1 hkeep.size, fun id r2 z hl hh => ?_, hb.2.2⟩, same b hb.1 fun id hid z => ?_⟩
    · by_cases hit : id.1 = d
      · obtain ⟨row, h1, _⟩ := dcase id r2 hit hl
        rw [show id = (d, id.2) from by rw [← hit], ρ2d] at hh
        rcases newM _ _ _ _ h1 hh with h2 | ⟨id', h2, z', h3⟩
        · have := hb.1; omega
        · obtain ⟨r1, h4⟩ := liveA id' (.inr h2)
          exact hb.2.1 id' r1 z' h4 h3
      · rw [ρ2o id hit] at hh
        obtain ⟨_, _, ⟨r0, h0⟩, _⟩ := old id r2 hit hl
        exact hb.2.1 id r0 z h0 hh
    · obtain ⟨r1, h4⟩ := liveA id hid
      exact hb.2.1 id r1 z h4
  have T2 : Trans G ρ M w ρ2 M2 w' := by
    refine ⟨stab1, fun id => ?_⟩
    cases hMi : M id with
    | none => trivial
    | some o =>
      have hit := nd id _ hMi
      by_cases hi : id ∈ ids
      · obtain ⟨k, hk⟩ := List.getElem?_of_mem hi
        obtain ⟨row, g1, g2, _⟩ := liveI k id hk
        obtain ⟨row', g3, g4, _⟩ := m2i k id hk
        obtain ⟨s1, s2, s3, s4, s5⟩ := ok.shape k row row' g1 g3
        rw [hMi] at g2
        injection g2 with g2
        subst g2
        refine .inr ⟨sbr (outS ids d) row', g4, s1, s2, by rw [sbr_len, sbr_len, s3]; exact Nat.le_refl _, ρ2o id hit, fun b z hb cur hcur => ?_⟩
        exact hkeep.shape b cur _ (0, 0) hcur
      · cases o with
        | none =>
          show M2 id = some none
          by_cases h1 : id ∈ mids
          · exact m2m id h1
          · by_cases h2 : id ∈ rd
            · exact m2r id h2
            · rw [m2o id hit hi h1 h2]; exact hMi
        | some r0 =>
          show M2 id = some none ∨ _
          by_cases h1 : id ∈ mids
          · exact .inl (m2m id h1)
          · by_cases h2 : id ∈ rd
            · exact .inl (m2r id h2)
            · refine .inr ⟨r0, by rw [m2o id hit hi h1 h2]; exact hMi, rfl, rfl, Nat.le_refl _, ρ2o id hit, fun b z hb cur hcur => hkeep.shape b cur _ (0, 0) hcur⟩
  have hMout : ∀ id, ((namesS ios.length mvs.length).any fun k => Nat.beq k.1 id.1 && Nat.beq k.2 id.2) = true → ∃ r r', M2 (outS ids d id) = some (some r) ∧ memS ios' mvs' id = some (some r') ∧ r'.sz = r.sz ∧ r'.ty = r.ty ∧ r'.es.length = r.es.length ∧ ρ' id = ρ2 (outS ids d id) := by
    intro id hid
    rcases namesS_any hid with ⟨h1, h2⟩ | ⟨h1, h2⟩
    · have hlt : id.2 < ids.length := by rw [ok.len]; exact h2
      have hk := List.getElem?_eq_getElem hlt
      obtain ⟨row', g1, g2, g3⟩ := m2i _ _ hk
      rw [h1]
      exact ⟨sbr (outS ids d) row', row', by rw [hout1 _ _ hk]; exact g2, outI _ _ g1, rfl, rfl, (sbr_len _ _).symm, by rw [hout1 _ _ hk, ρ2o _ g3]; exact ρio _ _ hk⟩
    · have hlt : id.2 < mvs'.length := by rw [ok.lem']; exact h2
      have hk := List.getElem?_eq_getElem hlt
      rw [h1]
      exact ⟨sbr (outS ids d) mvs'[id.2], mvs'[id.2], by rw [hout2, m2d, hk]; rfl, outM _ _ hk, rfl, rfl, (sbr_len _ _).symm, by rw [hout2, ρ2d]⟩
  refine ⟨v, ρ2, rfl, T2, ⟨?_, ?_, ?_, ?_, hW.good⟩, ?_⟩
  · intro i1 i2 r1 r2 b z1 z2 h1 h2 k1 k2
    have cross : ∀ i1 i2 r1 r2 z1 z2, i1.1 = d → i2.1 ≠ d → M2 i1 = some (some r1) → M2 i2 = some (some r2) → ρ2 i1 = some (b, z1) → ρ2 i2 = some (b, z2) → False := by
      intro i1 i2 r1 r2 z1 z2 e1 e2 h1 h2 k1 k2
      obtain ⟨row, g1, _⟩ := dcase i1 r1 e1 h1
      rw [show i1 = (d, i1.2) from by rw [← e1], ρ2d] at k1
      rw [ρ2o i2 e2] at k2
      obtain ⟨n1, _, ⟨r0, h0⟩, _⟩ := old i2 r2 e2 h2
      rcases newM _ _ _ _ g1 k1 with h3 | ⟨id', h3, z', h4⟩
      · have := hW.lt h0 k2; omega
      · obtain ⟨r3, h5⟩ := liveA id' (.inr h3)
        have := hW.inj i2 id' r0 r3 b z2 z' h0 h5 k2 h4
        exact n1 (by rw [this]; exact h3)
    by_cases e1 : i1.1 = d <;> by_cases e2 : i2.1 = d
    · obtain ⟨row1, g1, _⟩ := dcase i1 r1 e1 h1
      obtain ⟨row2, g2, _⟩ := dcase i2 r2 e2 h2
      rw [show i1 = (d, i1.2) from by rw [← e1], ρ2d] at k1
      rw [show i2 = (d, i2.2) from by rw [← e2], ρ2d] at k2
      have := hR.inj (mv, i1.2) (mv, i2.2) _ _ b z1 z2 (outM _ _ g1) (outM _ _ g2) k1 k2
      exact Prod.ext (e1.trans e2.symm) (Prod.mk.inj this).2
    · exact (cross i1 i2 r1 r2 z1 z2 e1 e2 h1 h2 k1 k2).elim
    · exact (cross i2 i1 r2 r1 z2 z1 e2 e1 h2 h1 k2 k1).elim
    · rw [ρ2o _ e1] at k1
      rw [ρ2o _ e2] at k2
      obtain ⟨_, _, ⟨q1, h3⟩, _⟩ := old i1 r1 e1 h1
      obtain ⟨_, _, ⟨q2, h4⟩, _⟩ := old i2 r2 e2 h2
      exact hW.inj i1 i2 q1 q2 b z1 z2 h3 h4 k1 k2
  · intro id r2 hl
    by_cases hit : id.1 = d
    · obtain ⟨row, h1, rfl⟩ := dcase id r2 hit hl
      rw [show id = (d, id.2) from by rw [← hit], ρ2d]
      have hb := ok.shapm row (List.mem_of_getElem? h1)
      exact (rowOk_ren (namesS ios.length mvs.length) hMout (fun h => by rw [hb] at h; cases h)).2 stab2 (hR.row (mv, id.2) row (outM _ _ h1))
    · rw [ρ2o id hit]
      by_cases hi : id ∈ ids
      · obtain ⟨k, hk⟩ := List.getElem?_of_mem hi
        obtain ⟨row, g1, g2, _⟩ := liveI k id hk
        obtain ⟨row', g3, g4, _⟩ := m2i k id hk
        rw [hl] at g4
        injection g4 with g4
        injection g4 with g4
        subst g4
        have := hR.row (io, k) row' (outI k row' g3)
        rw [ρio k id hk] at this
        exact (rowOk_ren (namesS ios.length mvs.length) hMout (ok.shape k row row' g1 g3).2.2.2.2).2 stab2 this
      · obtain ⟨n1, n2, ⟨r0, h0⟩, n3⟩ := old id r2 hit hl
        refine (hW.row id r2 (n3 hi)).mono T2 fun b z hb => ?_
        refine same b (hW.lt h0 hb) fun id2 hid2 z2 hh => ?_
        obtain ⟨r3, h3⟩ := liveA id2 hid2
        have := hW.inj id id2 r0 r3 b z z2 h0 h3 hb hh
        subst this
        rcases hid2 with h | h
        · exact hi h
        · exact n1 h
  · intro id r2 hl
    by_cases hit : id.1 = d
    · rw [if_neg (by rw [hit]; exact ok.dio)]
      intro b z hb
      obtain ⟨row, h1, _⟩ := dcase id r2 hit hl
      rw [show id = (d, id.2) from by rw [← hit], ρ2d] at hb
      rcases newM _ _ _ _ h1 hb with h2 | ⟨id', h2, z', h3⟩
      · exact .inl (Nat.le_trans hW.keep.size h2)
      · obtain ⟨k, hk⟩ := List.getElem?_of_mem h2
        obtain ⟨row0, _, h4, _, h5⟩ := liveM k id' hk
        have := hW.new id' _ h4
        rw [if_neg h5] at this
        exact this b z' h3
    · obtain ⟨_, _, ⟨r0, h0⟩, _⟩ := old id r2 hit hl
      rw [ρ2o id hit]
      exact hW.new id r0 h0
  · refine ⟨hkeep.os.trans hW.keep.os, hkeep.tape.trans hW.keep.tape, hkeep.output.trans hW.keep.output, Nat.le_trans hW.keep.size hkeep.size, fun b hb hX => ?_, fun b cur ty fr hb => ?_⟩
    · refine (same b (Nat.lt_of_lt_of_le hb hW.keep.size) fun id hid z hh => ?_).trans (hW.keep.block b hb hX)
      obtain ⟨r3, h3⟩ := liveA id hid
      have := hW.new id r3 h3
      split at this
      · exact hX z (by rw [← hh]; exact List.mem_of_getElem? this)
      · rcases this b z hh with h1 | ⟨z', h1⟩
        · omega
        · exact hX z' h1
    · obtain ⟨c1, k1, k2⟩ := hW.keep.shape b cur ty fr hb
      obtain ⟨c2, k3, k4⟩ := hkeep.shape b c1 ty fr k1
      exact ⟨c2, k3, k4.trans k2⟩
  · exact (rep_ren (namesS ios.length mvs.length) hMout 5 r v hrr).2 stab2 hv
end
section
variable {P : Program} {draw : Bool} {ops : Array Oper} {rest : List Oper} {env : List (Nat × PV)} {mem : List (Id × Option Row)} {tr : List (List Id × List Id)} {K : St → List (List Id × List Id) → Prop}
  {d : Nat} {ty : TypeId} {pos : String} {af : Array Edge}
theorem sem_callR {o : Oper} {V : Nat → PV} {M : Mem} {c : Call} {f : Operand} {g : FuncId} {fi ca ys : List PV} {r : PV} {ids mids rd : List Id} {ios mvs ios' mvs' : List Row} (ho : o.op = .call c) (hd : o.dst = some d) (hcal : c.callee = .value f) (hev : ev V f = .fn g fi ca)
    (hC : ContractR P g ys ios mvs r ios' mvs') (hrr : refsD 5 (namesS ios.length mvs.length) r = true) (hok : CallOkS M d (fi ++ c.args.toList.map (ev V) ++ ca) ys ids mids rd ios mvs ios' mvs') :
    SemStep P o V M ⟨subD 5 (outS ids d) r, upsS d ids mids rd ios' mvs', (d, 0) :: (ids ++ (mids ++ rd))⟩ := by
  intro V' M' hV' hM' G w0 X N a w K Q hdN hR hK
  obtain ⟨ρ, hW, hdef, hs, hV⟩ := hR
  have hop : o.op.operands = c.operands := by rw [ho]; rfl
  have hev' : ev V' f = .fn g fi ca := by rw [hV' f (by rw [hop]; simp [Call.operands, hcal])]; exact hev
  have hargsE : c.args.toList.map (ev V') = c.args.toList.map (ev V) := List.map_congr_left fun y hy => hV' y (by rw [hop]; simp [Call.operands]; exact .inr (Array.mem_toList_iff.1 hy))
  have hok' : CallOkS M' d (fi ++ c.args.toList.map (ev V') ++ ca) ys ids mids rd ios mvs ios' mvs' := by
    rw [hargsE]
    refine hok.congr fun id hid => hM' id (List.mem_map.2 ?_)
    rcases hid with h | h | h | h
    · exact ⟨(d, 0), by simp, h.symm⟩
    · exact ⟨id, List.mem_append_left _ (List.mem_cons_of_mem _ (List.mem_append_left _ h)), rfl⟩
    · exact ⟨id, List.mem_append_left _ (List.mem_cons_of_mem _ (List.mem_append_right _ (List.mem_append_left _ h))), rfl⟩
    · exact ⟨id, List.mem_append_left _ (List.mem_cons_of_mem _ (List.mem_append_right _ (List.mem_append_right _ h))), rfl⟩
  have hf := rep_ev hV f
  rw [hev'] at hf
  obtain ⟨vfi, vca, hfv, c1, c2⟩ := rep_fn.1 hf
  have hargs := (c1.append (comps_map hV c.args)).append c2
  obtain ⟨fn, hfn, hname, hbody⟩ := hC.1
  have hrun : (execOp a.eval o).run P w = .ok (.enter g (vfi ++ c.args.map a.eval ++ vca)) w := by
    simp only [execOp, ho, resolve, hcal, hfv, Deferred.ofValue, Sem.run_bind, Sem.run_pure, Result.andThen_ok, invoke, callFunc, run_program, hfn, hname, hbody, Bool.false_eq_true, if_false]
  unfold Oper.wp
  rw [hrun]
  show Calls P g _ w _
  refine (callR_sound hW hargs hok' hC hrr).mono ?_
  rintro e w' ⟨v, ρ2, rfl, T, W, hx⟩
  exact hK _ _ (put_rel hdN hdef hs hV T W hx)
theorem x_callMr {f : Operand} {args : List Operand} {ats : Array TypeId} {g : FuncId} {fi ca xs ys : List PV} {r v : PV} (ids mids : List Id) {rd : List Id} {ios mvs ios' mvs' : List Row} {up : List (Id × Option Row)}
    (hC : ContractR P g ys ios mvs r ios' mvs') (hf : ev (getE env) f = .fn g fi ca)
    (hxs : fi ++ args.map (ev (getE env)) ++ ca = xs) (hlent : lentS mem (inB ids mids) (namesS ios.length mvs.length) ids ios) (hlemt : lentM mem (inB ids mids) mids mvs) (hrd : rdL (rdO true 6 mem) xs ys [] = some rd)
    (hnd : (nodupB (ids ++ mids) && nodupB rd && rd.all (fun id => !(hasId ids id) && !(hasId mids id) && !Nat.beq id.1 io && (match getM mem id with | some (some _) => true | _ => false))) = true)
    (hsnap : AllR (SnapD 6 (getM mem) ids rd) xs ys) (hfree : freeB mem d = true) (hshape : shapeS (namesS ios.length mvs.length) ios ios') (hlen : Nat.beq mvs'.length mvs.length = true) (hup : upsO d ids mids rd ios' mvs' = some up) (hrr : refsD 5 (namesS ios.length mvs.length) r = true) (hv : subO 5 (outB ids d) r = some v)
    (hk : exec P ops draw rest ⟨(d, v) :: env, up ++ mem⟩ (((d, 0) :: (ids ++ (mids ++ rd)), up.map (·.1)) :: tr) K) :
    exec P ops draw (⟨some d, .call ⟨.value f, args.toArray, ats⟩, ty, pos, af, none⟩ :: rest) ⟨env, mem⟩ tr K := by
  obtain ⟨hu1, hu2⟩ := upsO_ok hup
  obtain ⟨l1, l2⟩ := lentS_ok hlent
  obtain ⟨m1, m2⟩ := lentM_ok hlemt
  obtain ⟨s1, s2⟩ := shapeS_ok hshape
  rw [inB_eq] at l2 m2
  simp only [Bool.and_eq_true] at hnd
  obtain ⟨⟨hn1, hn2⟩, hn3⟩ := hnd
  have hn3 := List.all_eq_true.1 hn3
  obtain ⟨f1, f2⟩ := freeB_ok hfree
  subst hxs
  refine x_sem ⟨v, up, (d, 0) :: (ids ++ (mids ++ rd))⟩ rfl ?_ hk
  rw [← hu1]
  rw [outB_eq] at hv
  rw [← subO_ok 5 _ _ _ hv]
  refine sem_callR (c := ⟨.value f, args.toArray, ats⟩) rfl rfl rfl hf hC hrr ⟨f1, f2, by simpa using hsnap, l1, m1, s1, Nat.eq_of_beq_eq_true hlen, nodupB_ok hn1, l2, m2, fun id hid => ⟨fun hm => ?_, fun hm => ?_⟩, fun id hid => ⟨fun e => ?_, ?_⟩, nodupB_ok hn2, s2, hu2⟩
  · have := hn3 id hid
    simp only [Bool.and_eq_true, Bool.not_eq_true'] at this
    rw [hasId_iff.2 hm] at this
    exact absurd this.1.1.1 (by simp)
  · have := hn3 id hid
    simp only [Bool.and_eq_true, Bool.not_eq_true'] at this
    rw [hasId_iff.2 hm] at this
    exact absurd this.1.1.2 (by simp)
  · have := hn3 id hid
    simp only [Bool.and_eq_true, Bool.not_eq_true'] at this
    have h2 := this.1.2
    rw [e] at h2
    simp at h2
  · have := hn3 id hid
    simp only [Bool.and_eq_true, Bool.not_eq_true'] at this
    have h2 := this.2
    split at h2
    · exact ⟨_, by assumption⟩
    · cases h2
end
def RetPostR (P : Program) (fn : Func) (r : PV) (ios' mvs' : List Row) (e : Exit) (st : St) : Prop :=
  (e = .ret ∨ e = .normal) ∧ ∃ t, fn.results = #[.tmp t] ∧ Ent st ⟨[(t, r)], ioEnv 0 ios' ++ mvEnv 0 mvs'⟩
theorem getE_one (t : Nat) (r : PV) : getE [(t, r)] t = r := by
  show cond (Nat.beq t t) r _ = r
  rw [Nat.beq_refl]
  rfl
theorem contract_ofR {P : Program} {f : FuncId} {fn : Func} {c : Code} {args : List PV} {ios mvs ios' mvs' : List Row} {r : PV} (hm : P.follows .mixedOrders = true) (hf : P.funcs[f]? = some fn) (hb : fn.body = some c)
    (hname : (fn.name == "runtime.NumGoroutine") = false) (hok : codeOk fn.ntmps c = true) (hargs : args.length ≤ fn.ntmps)
    (h : vwp P c ⟨argsEnv 0 args, ioEnv 0 ios ++ mvEnv 0 mvs⟩ (RetPostR P fn r ios' mvs')) : ContractR P f args ios mvs r ios' mvs' := by
  refine ⟨⟨fn, hf, hname, by rw [hb]; rfl⟩, fun G w X ρ cargs hW hC => ?_⟩
  refine calls_of_wp hf hb ?_
  have hM : (⟨argsEnv 0 args, ioEnv 0 ios ++ mvEnv 0 mvs⟩ : St).M = memS ios mvs := memS_eq ios mvs
  have hR : RelF G w X fn.ntmps (⟨argsEnv 0 args, ioEnv 0 ios ++ mvEnv 0 mvs⟩ : St).V (⟨argsEnv 0 args, ioEnv 0 ios ++ mvEnv 0 mvs⟩ : St).M { tmps := cargs ++ Array.replicate (fn.ntmps - cargs.size) undef, defers := [] } w := by
    rw [hM]
    refine ⟨ρ, hW, rfl, by simp [hC.1]; omega, fun t => ?_⟩
    show Rep ρ w _ _ _ (getE (argsEnv 0 args) t)
    rw [getE_args, if_pos (Nat.zero_le _), Nat.sub_zero]
    cases ht : args[t]? with
    | none => exact rep_any
    | some x =>
      obtain ⟨v, h1, h2⟩ := hC.2 t x ht
      have hlt := (Array.getElem?_eq_some_iff.1 h1).1
      have : (cargs ++ Array.replicate (fn.ntmps - cargs.size) undef).getD t undef = v := by
        rw [Array.getD_eq_getD_getElem?, Array.getElem?_append_left hlt, h1]
        rfl
      rw [this]
      exact h2
  refine wp_mono (vwp_sound hm c _ _ _ w hok h hR) ?_
  rintro e a' w' ⟨st', ⟨he, t, hres, hent⟩, hR'⟩
  obtain ⟨ρ1, hW1, hdef, hs, hV⟩ := hR'
  obtain ⟨ρ2, hW2, _, _, hV2⟩ := hent G w X _ a' w' ⟨ρ1, hW1, hdef, hs, hV⟩
  have hM2 : (⟨[(t, r)], ioEnv 0 ios' ++ mvEnv 0 mvs'⟩ : St).M = memS ios' mvs' := memS_eq ios' mvs'
  obtain ⟨v, hrun, hv⟩ := res_sound (st := ⟨[(t, r)], ioEnv 0 ios' ++ mvEnv 0 mvs'⟩) hW2 hV2 (xs := [r]) (by rw [hres]; exact ⟨getE_one t r, trivial⟩)
  rw [hM2] at hW2 hv
  have goal : ∃ v', (results fn a'.tmps).run P w' = .ok v' w' ∧ ∃ v ρ', Ending.returned v' = .returned v ∧ WRel G ρ' w X (memS ios' mvs') w' ∧ Rep ρ' w' (Stab G ρ' (memS ios' mvs') w') (memS ios' mvs') v r :=
    ⟨v, hrun, v, ρ2, rfl, hW2, hv⟩
  rcases he with rfl | rfl
  · exact ⟨hdef, goal⟩
  · exact ⟨hdef, goal⟩
theorem ret_R {P : Program} {st : St} {fn : Func} {r : PV} {ios' mvs' : List Row} {e : Exit} {ren : List (Id × Id)} {t : Nat} (he : e = .ret ∨ e = .normal) (hr : fn.results = #[.tmp t]) (hren : renA st [(t, r)] (ioEnv 0 ios' ++ mvEnv 0 mvs') = some ren) (hw : WeakerR (oldOf ren) st ⟨[(t, r)], ioEnv 0 ios' ++ mvEnv 0 mvs'⟩) :
    RetPostR P fn r ios' mvs' e st := ⟨he, t, hr, hw.ent⟩
end Go.Vs
set_option linter.unusedVariables false
set_option linter.unusedSimpArgs false
set_option maxRecDepth 100000
set_option maxHeartbeats 4000000
namespace Go.Vs
open Go.Proofs
attribute [local irreducible] exec vwp thenQ blkQ loopQ RetPost RetPostR
theorem k_l1PutS (l : List Int) (n : Int) (m : Nat) (hm : l.length = m) (hn : m ≤ 1000000) (h : l[kPut l n]? = some n) : ContractR Try.prog 64 [.osl (io, 0) 0 m, .int .i64 n] [⟨3, 1, ints l, false⟩] [] (.osl (io, 0) 0 m) [⟨3, 1, ints l, false⟩] [] := by
  refine contract_ofR hmix Try.func64 rfl (by kernel_rfl) (by kernel_rfl) (Nat.le_of_ble_eq_true rfl) ?_
  have hty_u24 := ty_u24
  have hty_s24 := ty_s24
  have hty_c3 := ty_c3
  have hl1 : (ints l).length = l.length := by simp
  repeat' (first
      | (refine zaz ?_; first | (refine za4 ?_; refine zas _ rfl ?_) | (refine zak ?_; refine zaa _ rfl ?_) | (refine zbu ?_; first | (refine zb0 rfl rfl aO ?_) | (refine zbs _ rfl rfl rfl ?_) | (refine zbr aA rfl rfl ?_) | (refine zav _ rfl rfl rfl ?_)) | (refine zbb ?_; first | (refine zab aA rfl ?_) | (refine zae _ aA rfl rfl aE rfl ?_) | (refine zac _ aA rfl aZ aL ?_) | (refine zad _ aA rfl rfl aE aZ aL ?_)) | (refine zbd ?_; first | (refine zax _ aA rfl rfl aO aA ?_) | (refine zaw _ aA rfl rfl rfl rfl aO aO (by first | (rw [Nat.zero_add, Int.toNat_natCast]) | (rw [Nat.zero_add]) | rfl) ?_)) | (refine zb3 ?_; first | (refine zbn rfl aD rfl ?_) | (refine zbp rfl aD ?_) | (refine zbm rfl aD ?_) | (refine zbq rfl aD rfl ?_)) | (refine zby ?_; first | (refine zb4 rfl rfl aD ?_) | (refine zcc rfl rfl aD ?_) | (refine zcb rfl rfl ?_) | (refine zbo rfl rfl (fun h => ?_) (fun h => ?_) <;> (have h' := h; (try simp only [sx] at h')))) | (refine za9 ?_; first | (refine za8 aA rfl ?_) | (refine za6 aA rfl rfl ?_) | (refine za5 aA rfl ?_) | (refine za7 aA (evO_ok rfl) ?_) | (refine zbx _ _ aA rfl (lookM (by rfl)) rfl (lookM (by rfl)) rfl aN ⟨rfl, rfl, by decide, by decide⟩ (by first | rfl | omega | (simp; done) | (simp; omega) | fail) ⟨by first | (simp only [List.length_cons, List.length_nil]; omega) | omega | fail, by decide⟩ rfl (by first | (first | (simp only [lx, Nat.reduceAdd]; first | done | rfl) | fail) | rfl) aP ?_) | (refine zbw _ _ aA rfl rfl (lookM (by rfl)) ⟨rfl, by decide⟩ aN (by first | exact Nat.succ_pos _ | omega | (simp; done)) ⟨by first | (simp only [List.length_cons, List.length_nil]; omega) | omega | fail, by decide⟩ rfl rfl aP ?_) | (refine zbv _ aA rfl rfl (lookM (by rfl)) ⟨rfl, by decide⟩ aN ⟨by first | (simp only [List.length_cons, List.length_nil]; omega) | omega | fail, by decide⟩ rfl aP ?_) | (refine zbl _ aA rfl rfl rfl ⟨rfl, rfl, rfl, by decide, by decide⟩ (by first | rfl | (simp; done) | fail) ⟨by omega, by decide⟩ rfl aL (by first | (rw [Nat.zero_add]) | rfl) ?_)) | (refine zcn ?_; first | (refine zcj _ aA rfl rfl rfl aO (by first | assumption | rfl) ?_) | (refine zci _ _ aA rfl (lookM (by rfl)) rfl rfl rfl aO (by first | (simp only [Nat.zero_add, Int.toNat_natCast]; exact rfl) | rfl) (by first | (simp only [Nat.sub_zero, Int.toNat_natCast]; exact rfl) | rfl) ?_) | (refine zcl aA rfl rfl rfl aO rfl ?_)) | (refine zck _ aA rfl rfl rfl aO (by first | exact List.take_of_length_le aO | rfl) ?_) | (refine zal aA rfl rfl rfl ?_) | (refine zar (hK _ _ (.inl rfl) ?_); clear hK K) | (refine zar (hK _ _ (.inr (by kernel_rfl)) ?_); clear hK K))
      | (refine za3 ?_; first | (refine zbk ?_) | (refine zaf (fun K hK => ?_)) | (refine zap ?_) | (refine za0 ?_) | (refine zbj ?_) | (refine za1 ?_) | (refine zbe ?_; first | (refine zat rfl aD ?_) | (refine zau rfl aD ?_) | (refine zay rfl (fun h => ?_) (fun h => ?_) <;> (have h' := h; (try simp only [sx] at h')))))
      | (refine za2 ?_) | (refine zag ?_) | (refine zaj ?_) | (refine zao ?_) | (refine zam ?_) | (refine zan ?_) | (refine zaq rfl ?_) | (refine zah ?_) | (refine zai ?_) | (refine zbi ?_))
  refine zcd [0, 1] [] (fun k : Nat => [(5, .int .i64 k)]) (fun k : Nat => []) (fun k : Nat => k ≤ l.length ∧ ∀ (j : Nat) x, j < k → l[j]? = some x → x < n) (fun k : Nat => l.length - k) (0) rfl rfl (fun _ => rfl) (fun _ => rfl) rfl aW ⟨by omega, fun j x hj => by omega⟩ (fun k hk => ?_)
  obtain ⟨hk1, hk2⟩ := hk
  rcases Nat.lt_or_ge k l.length with hlt | hge
  · obtain ⟨a, ha⟩ := get_ex hlt
    have hx := ints_at ha
    by_cases hb : a < n
    · repeat' (first
      | (refine zaz ?_; first | (refine za4 ?_; refine zas _ rfl ?_) | (refine zak ?_; refine zaa _ rfl ?_) | (refine zbu ?_; first | (refine zb0 rfl rfl aO ?_) | (refine zbs _ rfl rfl rfl ?_) | (refine zbr aA rfl rfl ?_) | (refine zav _ rfl rfl rfl ?_)) | (refine zbb ?_; first | (refine zab aA rfl ?_) | (refine zae _ aA rfl rfl aE rfl ?_) | (refine zac _ aA rfl aZ aL ?_) | (refine zad _ aA rfl rfl aE aZ aL ?_)) | (refine zbd ?_; first | (refine zax _ aA rfl rfl aO aA ?_) | (refine zaw _ aA rfl rfl rfl rfl aO aO (by first | (rw [Nat.zero_add, Int.toNat_natCast]) | (rw [Nat.zero_add]) | rfl) ?_)) | (refine zb3 ?_; first | (refine zbn rfl aD rfl ?_) | (refine zbp rfl aD ?_) | (refine zbm rfl aD ?_) | (refine zbq rfl aD rfl ?_)) | (refine zby ?_; first | (refine zb4 rfl rfl aD ?_) | (refine zcc rfl rfl aD ?_) | (refine zcb rfl rfl ?_) | (refine zbo rfl rfl (fun h => ?_) (fun h => ?_) <;> (have h' := h; (try simp only [sx] at h')))) | (refine za9 ?_; first | (refine za8 aA rfl ?_) | (refine za6 aA rfl rfl ?_) | (refine za5 aA rfl ?_) | (refine za7 aA (evO_ok rfl) ?_) | (refine zbx _ _ aA rfl (lookM (by rfl)) rfl (lookM (by rfl)) rfl aN ⟨rfl, rfl, by decide, by decide⟩ (by first | rfl | omega | (simp; done) | (simp; omega) | fail) ⟨by first | (simp only [List.length_cons, List.length_nil]; omega) | omega | fail, by decide⟩ rfl (by first | (first | (simp only [lx, Nat.reduceAdd]; first | done | rfl) | fail) | rfl) aP ?_) | (refine zbw _ _ aA rfl rfl (lookM (by rfl)) ⟨rfl, by decide⟩ aN (by first | exact Nat.succ_pos _ | omega | (simp; done)) ⟨by first | (simp only [List.length_cons, List.length_nil]; omega) | omega | fail, by decide⟩ rfl rfl aP ?_) | (refine zbv _ aA rfl rfl (lookM (by rfl)) ⟨rfl, by decide⟩ aN ⟨by first | (simp only [List.length_cons, List.length_nil]; omega) | omega | fail, by decide⟩ rfl aP ?_) | (refine zbl _ aA rfl rfl rfl ⟨rfl, rfl, rfl, by decide, by decide⟩ (by first | rfl | (simp; done) | fail) ⟨by omega, by decide⟩ rfl aL (by first | (rw [Nat.zero_add]) | rfl) ?_)) | (refine zcn ?_; first | (refine zcj _ aA rfl rfl rfl aO (by first | assumption | rfl) ?_) | (refine zci _ _ aA rfl (lookM (by rfl)) rfl rfl rfl aO (by first | (simp only [Nat.zero_add, Int.toNat_natCast]; exact rfl) | rfl) (by first | (simp only [Nat.sub_zero, Int.toNat_natCast]; exact rfl) | rfl) ?_) | (refine zcl aA rfl rfl rfl aO rfl ?_)) | (refine zck _ aA rfl rfl rfl aO (by first | exact List.take_of_length_le aO | rfl) ?_) | (refine zal aA rfl rfl rfl ?_) | (refine zar (hK _ _ (.inl rfl) ?_); clear hK K) | (refine zar (hK _ _ (.inr (by kernel_rfl)) ?_); clear hK K))
      | (refine za3 ?_; first | (refine zbk ?_) | (refine zaf (fun K hK => ?_)) | (refine zap ?_) | (refine za0 ?_) | (refine zbj ?_) | (refine za1 ?_) | (refine zbe ?_; first | (refine zat rfl aD ?_) | (refine zau rfl aD ?_) | (refine zay rfl (fun h => ?_) (fun h => ?_) <;> (have h' := h; (try simp only [sx] at h')))))
      | (refine za2 ?_) | (refine zag ?_) | (refine zaj ?_) | (refine zao ?_) | (refine zam ?_) | (refine zan ?_) | (refine zaq rfl ?_) | (refine zah ?_) | (refine zai ?_) | (refine zbi ?_))
      all_goals try (exfalso; omega)
      refine zb6 (k + 1) rfl aW ⟨by omega, fun j x hj hxx => ?_⟩ aO
      rcases Nat.lt_or_ge j k with h1 | h1
      · exact hk2 j x h1 hxx
      · have : j = k := by omega
        subst this
        rw [ha] at hxx
        injection hxx with hxx
        omega
    · have e : kPut l n = k := kPut_is hk1 hk2 fun x hx => by rw [ha] at hx; injection hx with hx; omega
      rw [e, ha] at h
      injection h with heq
      repeat' (first
      | (refine zaz ?_; first | (refine za4 ?_; refine zas _ rfl ?_) | (refine zak ?_; refine zaa _ rfl ?_) | (refine zbu ?_; first | (refine zb0 rfl rfl aO ?_) | (refine zbs _ rfl rfl rfl ?_) | (refine zbr aA rfl rfl ?_) | (refine zav _ rfl rfl rfl ?_)) | (refine zbb ?_; first | (refine zab aA rfl ?_) | (refine zae _ aA rfl rfl aE rfl ?_) | (refine zac _ aA rfl aZ aL ?_) | (refine zad _ aA rfl rfl aE aZ aL ?_)) | (refine zbd ?_; first | (refine zax _ aA rfl rfl aO aA ?_) | (refine zaw _ aA rfl rfl rfl rfl aO aO (by first | (rw [Nat.zero_add, Int.toNat_natCast]) | (rw [Nat.zero_add]) | rfl) ?_)) | (refine zb3 ?_; first | (refine zbn rfl aD rfl ?_) | (refine zbp rfl aD ?_) | (refine zbm rfl aD ?_) | (refine zbq rfl aD rfl ?_)) | (refine zby ?_; first | (refine zb4 rfl rfl aD ?_) | (refine zcc rfl rfl aD ?_) | (refine zcb rfl rfl ?_) | (refine zbo rfl rfl (fun h => ?_) (fun h => ?_) <;> (have h' := h; (try simp only [sx] at h')))) | (refine za9 ?_; first | (refine za8 aA rfl ?_) | (refine za6 aA rfl rfl ?_) | (refine za5 aA rfl ?_) | (refine za7 aA (evO_ok rfl) ?_) | (refine zbx _ _ aA rfl (lookM (by rfl)) rfl (lookM (by rfl)) rfl aN ⟨rfl, rfl, by decide, by decide⟩ (by first | rfl | omega | (simp; done) | (simp; omega) | fail) ⟨by first | (simp only [List.length_cons, List.length_nil]; omega) | omega | fail, by decide⟩ rfl (by first | (first | (simp only [lx, Nat.reduceAdd]; first | done | rfl) | fail) | rfl) aP ?_) | (refine zbw _ _ aA rfl rfl (lookM (by rfl)) ⟨rfl, by decide⟩ aN (by first | exact Nat.succ_pos _ | omega | (simp; done)) ⟨by first | (simp only [List.length_cons, List.length_nil]; omega) | omega | fail, by decide⟩ rfl rfl aP ?_) | (refine zbv _ aA rfl rfl (lookM (by rfl)) ⟨rfl, by decide⟩ aN ⟨by first | (simp only [List.length_cons, List.length_nil]; omega) | omega | fail, by decide⟩ rfl aP ?_) | (refine zbl _ aA rfl rfl rfl ⟨rfl, rfl, rfl, by decide, by decide⟩ (by first | rfl | (simp; done) | fail) ⟨by omega, by decide⟩ rfl aL (by first | (rw [Nat.zero_add]) | rfl) ?_)) | (refine zcn ?_; first | (refine zcj _ aA rfl rfl rfl aO (by first | assumption | rfl) ?_) | (refine zci _ _ aA rfl (lookM (by rfl)) rfl rfl rfl aO (by first | (simp only [Nat.zero_add, Int.toNat_natCast]; exact rfl) | rfl) (by first | (simp only [Nat.sub_zero, Int.toNat_natCast]; exact rfl) | rfl) ?_) | (refine zcl aA rfl rfl rfl aO rfl ?_)) | (refine zck _ aA rfl rfl rfl aO (by first | exact List.take_of_length_le aO | rfl) ?_) | (refine zal aA rfl rfl rfl ?_) | (refine zar (hK _ _ (.inl rfl) ?_); clear hK K) | (refine zar (hK _ _ (.inr (by kernel_rfl)) ?_); clear hK K))
      | (refine za3 ?_; first | (refine zbk ?_) | (refine zaf (fun K hK => ?_)) | (refine zap ?_) | (refine za0 ?_) | (refine zbj ?_) | (refine za1 ?_) | (refine zbe ?_; first | (refine zat rfl aD ?_) | (refine zau rfl aD ?_) | (refine zay rfl (fun h => ?_) (fun h => ?_) <;> (have h' := h; (try simp only [sx] at h')))))
      | (refine za2 ?_) | (refine zag ?_) | (refine zaj ?_) | (refine zao ?_) | (refine zam ?_) | (refine zan ?_) | (refine zaq rfl ?_) | (refine zah ?_) | (refine zai ?_) | (refine zbi ?_))
      all_goals first
        | (exfalso; omega)
        | refine ret_R (by first | exact .inl rfl | exact .inr rfl) rfl rfl (by refine ⟨?_, ?_⟩ <;> (repeat' (first | exact trivial | exact ⟨rfl, rfl⟩ | exact rfl | exact ⟨sub_fn, refs_fn⟩ | refine ⟨⟨rfl, rfl⟩, ?_⟩ | refine ⟨⟨sub_fn, refs_fn⟩, ?_⟩ | refine ⟨⟨rfl, fun h => Bool.noConfusion h⟩, ?_⟩ | refine ⟨⟨rfl, fun h => ?_⟩, ?_⟩ | refine ⟨rfl, ?_⟩ | refine ⟨?_, ?_⟩ | fail)))
  · have : k = l.length := by omega
    subst this
    have e : kPut l n = l.length := kPut_is hk1 hk2 fun x hx => by have := get_lt hx; omega
    rw [e] at h
    have := get_lt h
    omega
theorem k_l1PutN (l : List Int) (n : Int) (hn : l.length ≤ 1000000) (h : l[kPut l n]? ≠ some n) : Con Try.prog 64 [.list 1 (ints l), .int .i64 n] (.olist 3 1 (ints (put l n))) := by
  intro al
  refine zba hmix Try.func64 rfl (by kernel_rfl) (by kernel_rfl) (Nat.le_of_ble_eq_true rfl) (fun row h => by cases h) ?_
  have hty_u24 := ty_u24
  have hty_s24 := ty_s24
  have hty_c3 := ty_c3
  have hl1 : (ints l).length = l.length := by simp
  repeat' (first
      | (refine zaz ?_; first | (refine za4 ?_; refine zas _ rfl ?_) | (refine zak ?_; refine zaa _ rfl ?_) | (refine zbu ?_; first | (refine zb0 rfl rfl aO ?_) | (refine zbs _ rfl rfl rfl ?_) | (refine zbr aA rfl rfl ?_) | (refine zav _ rfl rfl rfl ?_)) | (refine zbb ?_; first | (refine zab aA rfl ?_) | (refine zae _ aA rfl rfl aE rfl ?_) | (refine zac _ aA rfl aZ aL ?_) | (refine zad _ aA rfl rfl aE aZ aL ?_)) | (refine zbd ?_; first | (refine zax _ aA rfl rfl aO aA ?_) | (refine zaw _ aA rfl rfl rfl rfl aO aO (by first | (rw [Nat.zero_add, Int.toNat_natCast]) | (rw [Nat.zero_add]) | rfl) ?_)) | (refine zb3 ?_; first | (refine zbn rfl aD rfl ?_) | (refine zbp rfl aD ?_) | (refine zbm rfl aD ?_) | (refine zbq rfl aD rfl ?_)) | (refine zby ?_; first | (refine zb4 rfl rfl aD ?_) | (refine zcc rfl rfl aD ?_) | (refine zcb rfl rfl ?_) | (refine zbo rfl rfl (fun h => ?_) (fun h => ?_) <;> (have h' := h; (try simp only [sx] at h')))) | (refine za9 ?_; first | (refine za8 aA rfl ?_) | (refine za6 aA rfl rfl ?_) | (refine za5 aA rfl ?_) | (refine za7 aA (evO_ok rfl) ?_) | (refine zbx _ _ aA rfl (lookM (by rfl)) rfl (lookM (by rfl)) rfl aN ⟨rfl, rfl, by decide, by decide⟩ (by first | rfl | omega | (simp; done) | (simp; omega) | fail) ⟨by first | (simp only [List.length_cons, List.length_nil]; omega) | omega | fail, by decide⟩ rfl (by first | (first | (simp only [lx, Nat.reduceAdd]; first | done | rfl) | fail) | rfl) aP ?_) | (refine zbw _ _ aA rfl rfl (lookM (by rfl)) ⟨rfl, by decide⟩ aN (by first | exact Nat.succ_pos _ | omega | (simp; done)) ⟨by first | (simp only [List.length_cons, List.length_nil]; omega) | omega | fail, by decide⟩ rfl rfl aP ?_) | (refine zbv _ aA rfl rfl (lookM (by rfl)) ⟨rfl, by decide⟩ aN ⟨by first | (simp only [List.length_cons, List.length_nil]; omega) | omega | fail, by decide⟩ rfl aP ?_) | (refine zbl _ aA rfl rfl rfl ⟨rfl, rfl, rfl, by decide, by decide⟩ (by first | rfl | (simp; done) | fail) ⟨by omega, by decide⟩ rfl aL (by first | (rw [Nat.zero_add]) | rfl) ?_)) | (refine zcn ?_; first | (refine zcj _ aA rfl rfl rfl aO (by first | assumption | rfl) ?_) | (refine zci _ _ aA rfl (lookM (by rfl)) rfl rfl rfl aO (by first | (simp only [Nat.zero_add, Int.toNat_natCast]; exact rfl) | rfl) (by first | (simp only [Nat.sub_zero, Int.toNat_natCast]; exact rfl) | rfl) ?_) | (refine zcl aA rfl rfl rfl aO rfl ?_)) | (refine zck _ aA rfl rfl rfl aO (by first | exact List.take_of_length_le aO | rfl) ?_) | (refine zal aA rfl rfl rfl ?_) | (refine zar (hK _ _ (.inl rfl) ?_); clear hK K) | (refine zar (hK _ _ (.inr (by kernel_rfl)) ?_); clear hK K))
      | (refine za3 ?_; first | (refine zbk ?_) | (refine zaf (fun K hK => ?_)) | (refine zap ?_) | (refine za0 ?_) | (refine zbj ?_) | (refine za1 ?_) | (refine zbe ?_; first | (refine zat rfl aD ?_) | (refine zau rfl aD ?_) | (refine zay rfl (fun h => ?_) (fun h => ?_) <;> (have h' := h; (try simp only [sx] at h')))))
      | (refine za2 ?_) | (refine zag ?_) | (refine zaj ?_) | (refine zao ?_) | (refine zam ?_) | (refine zan ?_) | (refine zaq rfl ?_) | (refine zah ?_) | (refine zai ?_) | (refine zbi ?_))
  refine zcd [0, 1] [] (fun k : Nat => [(5, .int .i64 k)]) (fun k : Nat => []) (fun k : Nat => k ≤ l.length ∧ ∀ (j : Nat) x, j < k → l[j]? = some x → x < n) (fun k : Nat => l.length - k) (0) rfl rfl (fun _ => rfl) (fun _ => rfl) rfl aW ⟨by omega, fun j x hj => by omega⟩ (fun k hk => ?_)
  obtain ⟨hk1, hk2⟩ := hk
  have hs1 : ((ints l).take ((k : Nat) : Int).toNat).drop (((0 : Nat) : Int)).toNat = (ints l).take k := by simp
  have hs2 : ((ints l).take (((ints l).length : Nat) : Int).toNat).drop ((k : Nat) : Int).toNat = (ints l).drop k := by rw [Int.toNat_natCast, Int.toNat_natCast, List.take_length]
  have hs3 : ((ints l).take k).length = k := by rw [List.length_take]; omega
  have hs4 : ((ints l).drop k).length = l.length - k := by rw [List.length_drop]; omega
  rcases Nat.lt_or_ge k l.length with hlt | hge
  · obtain ⟨a, ha⟩ := get_ex hlt
    have hx := ints_at ha
    by_cases hb : a < n
    · repeat' (first
      | (refine zaz ?_; first | (refine za4 ?_; refine zas _ rfl ?_) | (refine zak ?_; refine zaa _ rfl ?_) | (refine zbu ?_; first | (refine zb0 rfl rfl aO ?_) | (refine zbs _ rfl rfl rfl ?_) | (refine zbr aA rfl rfl ?_) | (refine zav _ rfl rfl rfl ?_)) | (refine zbb ?_; first | (refine zab aA rfl ?_) | (refine zae _ aA rfl rfl aE rfl ?_) | (refine zac _ aA rfl aZ aL ?_) | (refine zad _ aA rfl rfl aE aZ aL ?_)) | (refine zbd ?_; first | (refine zax _ aA rfl rfl aO aA ?_) | (refine zaw _ aA rfl rfl rfl rfl aO aO (by first | (rw [Nat.zero_add, Int.toNat_natCast]) | (rw [Nat.zero_add]) | rfl) ?_)) | (refine zb3 ?_; first | (refine zbn rfl aD rfl ?_) | (refine zbp rfl aD ?_) | (refine zbm rfl aD ?_) | (refine zbq rfl aD rfl ?_)) | (refine zby ?_; first | (refine zb4 rfl rfl aD ?_) | (refine zcc rfl rfl aD ?_) | (refine zcb rfl rfl ?_) | (refine zbo rfl rfl (fun h => ?_) (fun h => ?_) <;> (have h' := h; (try simp only [sx] at h')))) | (refine za9 ?_; first | (refine za8 aA rfl ?_) | (refine za6 aA rfl rfl ?_) | (refine za5 aA rfl ?_) | (refine za7 aA (evO_ok rfl) ?_) | (refine zbx _ _ aA rfl (lookM (by rfl)) rfl (lookM (by rfl)) rfl aN ⟨rfl, rfl, by decide, by decide⟩ (by first | rfl | omega | (simp; done) | (simp; omega) | fail) ⟨by first | (simp only [List.length_cons, List.length_nil]; omega) | omega | fail, by decide⟩ rfl (by first | (first | (simp only [lx, Nat.reduceAdd]; first | done | rfl) | fail) | rfl) aP ?_) | (refine zbw _ _ aA rfl rfl (lookM (by rfl)) ⟨rfl, by decide⟩ aN (by first | exact Nat.succ_pos _ | omega | (simp; done)) ⟨by first | (simp only [List.length_cons, List.length_nil]; omega) | omega | fail, by decide⟩ rfl rfl aP ?_) | (refine zbv _ aA rfl rfl (lookM (by rfl)) ⟨rfl, by decide⟩ aN ⟨by first | (simp only [List.length_cons, List.length_nil]; omega) | omega | fail, by decide⟩ rfl aP ?_) | (refine zbl _ aA rfl rfl rfl ⟨rfl, rfl, rfl, by decide, by decide⟩ (by first | rfl | (simp; done) | fail) ⟨by omega, by decide⟩ rfl aL (by first | (rw [Nat.zero_add]) | rfl) ?_)) | (refine zcn ?_; first | (refine zcj _ aA rfl rfl rfl aO (by first | assumption | rfl) ?_) | (refine zci _ _ aA rfl (lookM (by rfl)) rfl rfl rfl aO (by first | (simp only [Nat.zero_add, Int.toNat_natCast]; exact rfl) | rfl) (by first | (simp only [Nat.sub_zero, Int.toNat_natCast]; exact rfl) | rfl) ?_) | (refine zcl aA rfl rfl rfl aO rfl ?_)) | (refine zck _ aA rfl rfl rfl aO (by first | exact List.take_of_length_le aO | rfl) ?_) | (refine zal aA rfl rfl rfl ?_) | (refine zar (hK _ _ (.inl rfl) ?_); clear hK K) | (refine zar (hK _ _ (.inr (by kernel_rfl)) ?_); clear hK K))
      | (refine za3 ?_; first | (refine zbk ?_) | (refine zaf (fun K hK => ?_)) | (refine zap ?_) | (refine za0 ?_) | (refine zbj ?_) | (refine za1 ?_) | (refine zbe ?_; first | (refine zat rfl aD ?_) | (refine zau rfl aD ?_) | (refine zay rfl (fun h => ?_) (fun h => ?_) <;> (have h' := h; (try simp only [sx] at h')))))
      | (refine za2 ?_) | (refine zag ?_) | (refine zaj ?_) | (refine zao ?_) | (refine zam ?_) | (refine zan ?_) | (refine zaq rfl ?_) | (refine zah ?_) | (refine zai ?_) | (refine zbi ?_))
      all_goals try (exfalso; omega)
      refine zb6 (k + 1) rfl aW ⟨by omega, fun j x hj hxx => ?_⟩ aO
      rcases Nat.lt_or_ge j k with h1 | h1
      · exact hk2 j x h1 hxx
      · have : j = k := by omega
        subst this
        rw [ha] at hxx
        injection hxx with hxx
        omega
    · have e : kPut l n = k := kPut_is hk1 hk2 fun x hx => by rw [ha] at hx; injection hx with hx; omega
      have heq : a ≠ n := fun hh => h (by rw [e, ha, hh])
      have e2 : put l n = l.take k ++ (n :: l.drop k) := by unfold put; rw [e, if_neg (by rw [ha]; intro h; injection h with h; exact heq h)]
      have e3 : ints (put l n) = ((ints l).take k ++ [[.int .i64 n]]) ++ (ints l).drop k := by rw [e2]; simp [ints, List.map_take, List.map_drop]
      have hfl : ∀ e ∈ ((ints l).take k ++ [[.int .i64 n]]) ++ (ints l).drop k, ∀ c ∈ e, c.flat = true := by rw [← e3]; exact ints_flat _
      rw [e3]
      repeat' (first
      | (refine zaz ?_; first | (refine za4 ?_; refine zas _ rfl ?_) | (refine zak ?_; refine zaa _ rfl ?_) | (refine zbu ?_; first | (refine zb0 rfl rfl aO ?_) | (refine zbs _ rfl rfl rfl ?_) | (refine zbr aA rfl rfl ?_) | (refine zav _ rfl rfl rfl ?_)) | (refine zbb ?_; first | (refine zab aA rfl ?_) | (refine zae _ aA rfl rfl aE rfl ?_) | (refine zac _ aA rfl aZ aL ?_) | (refine zad _ aA rfl rfl aE aZ aL ?_)) | (refine zbd ?_; first | (refine zax _ aA rfl rfl aO aA ?_) | (refine zaw _ aA rfl rfl rfl rfl aO aO (by first | (rw [Nat.zero_add, Int.toNat_natCast]) | (rw [Nat.zero_add]) | rfl) ?_)) | (refine zb3 ?_; first | (refine zbn rfl aD rfl ?_) | (refine zbp rfl aD ?_) | (refine zbm rfl aD ?_) | (refine zbq rfl aD rfl ?_)) | (refine zby ?_; first | (refine zb4 rfl rfl aD ?_) | (refine zcc rfl rfl aD ?_) | (refine zcb rfl rfl ?_) | (refine zbo rfl rfl (fun h => ?_) (fun h => ?_) <;> (have h' := h; (try simp only [sx] at h')))) | (refine za9 ?_; first | (refine za8 aA rfl ?_) | (refine za6 aA rfl rfl ?_) | (refine za5 aA rfl ?_) | (refine za7 aA (evO_ok rfl) ?_) | (refine zbx _ _ aA rfl (lookM (by rfl)) rfl (lookM (by rfl)) rfl aN ⟨rfl, rfl, by decide, by decide⟩ (by first | rfl | omega | (simp; done) | (simp; omega) | fail) ⟨by first | (simp only [List.length_cons, List.length_nil]; omega) | omega | fail, by decide⟩ rfl (by first | (first | (simp only [lx, Nat.reduceAdd]; first | done | rfl) | fail) | rfl) aP ?_) | (refine zbw _ _ aA rfl rfl (lookM (by rfl)) ⟨rfl, by decide⟩ aN (by first | exact Nat.succ_pos _ | omega | (simp; done)) ⟨by first | (simp only [List.length_cons, List.length_nil]; omega) | omega | fail, by decide⟩ rfl rfl aP ?_) | (refine zbv _ aA rfl rfl (lookM (by rfl)) ⟨rfl, by decide⟩ aN ⟨by first | (simp only [List.length_cons, List.length_nil]; omega) | omega | fail, by decide⟩ rfl aP ?_) | (refine zbl _ aA rfl rfl rfl ⟨rfl, rfl, rfl, by decide, by decide⟩ (by first | rfl | (simp; done) | fail) ⟨by omega, by decide⟩ rfl aL (by first | (rw [Nat.zero_add]) | rfl) ?_)) | (refine zcn ?_; first | (refine zcj _ aA rfl rfl rfl aO (by first | assumption | rfl) ?_) | (refine zci _ _ aA rfl (lookM (by rfl)) rfl rfl rfl aO (by first | (simp only [Nat.zero_add, Int.toNat_natCast]; exact rfl) | rfl) (by first | (simp only [Nat.sub_zero, Int.toNat_natCast]; exact rfl) | rfl) ?_) | (refine zcl aA rfl rfl rfl aO rfl ?_)) | (refine zck _ aA rfl rfl rfl aO (by first | exact List.take_of_length_le aO | rfl) ?_) | (refine zal aA rfl rfl rfl ?_) | (refine zar (hK _ _ (.inl rfl) ?_); clear hK K) | (refine zar (hK _ _ (.inr (by kernel_rfl)) ?_); clear hK K))
      | (refine za3 ?_; first | (refine zbk ?_) | (refine zaf (fun K hK => ?_)) | (refine zap ?_) | (refine za0 ?_) | (refine zbj ?_) | (refine za1 ?_) | (refine zbe ?_; first | (refine zat rfl aD ?_) | (refine zau rfl aD ?_) | (refine zay rfl (fun h => ?_) (fun h => ?_) <;> (have h' := h; (try simp only [sx] at h')))))
      | (refine za2 ?_) | (refine zag ?_) | (refine zaj ?_) | (refine zao ?_) | (refine zam ?_) | (refine zan ?_) | (refine zaq rfl ?_) | (refine zah ?_) | (refine zai ?_) | (refine zbi ?_))
      all_goals first
        | (exfalso; omega)
        | (refine ret_list rfl (zbh rfl) rfl ?_ ?_ hfl rfl <;> first | decide | (simp; done) | (simp; omega))
  · have e : kPut l n = l.length := by
      have : k = l.length := by omega
      subst this
      exact kPut_is hk1 hk2 fun x hx => by have := get_lt hx; omega
    have e2 : put l n = l.take l.length ++ (n :: l.drop l.length) := by unfold put; rw [e, if_neg (by rw [List.getElem?_eq_none (Nat.le_refl _)]; intro h; cases h)]
    have e3 : ints (put l n) = ((ints l).take l.length ++ [[.int .i64 n]]) ++ (ints l).drop l.length := by rw [e2]; simp only [ints, List.map_append, List.map_cons, List.map_take, List.map_drop, List.append_assoc, List.cons_append, List.nil_append]
    have hk3 : k = l.length := by omega
    subst hk3
    have hfl : ∀ e ∈ ((ints l).take l.length ++ [[.int .i64 n]]) ++ (ints l).drop l.length, ∀ c ∈ e, c.flat = true := by rw [← e3]; exact ints_flat _
    rw [e3]
    repeat' (first
      | (refine zaz ?_; first | (refine za4 ?_; refine zas _ rfl ?_) | (refine zak ?_; refine zaa _ rfl ?_) | (refine zbu ?_; first | (refine zb0 rfl rfl aO ?_) | (refine zbs _ rfl rfl rfl ?_) | (refine zbr aA rfl rfl ?_) | (refine zav _ rfl rfl rfl ?_)) | (refine zbb ?_; first | (refine zab aA rfl ?_) | (refine zae _ aA rfl rfl aE rfl ?_) | (refine zac _ aA rfl aZ aL ?_) | (refine zad _ aA rfl rfl aE aZ aL ?_)) | (refine zbd ?_; first | (refine zax _ aA rfl rfl aO aA ?_) | (refine zaw _ aA rfl rfl rfl rfl aO aO (by first | (rw [Nat.zero_add, Int.toNat_natCast]) | (rw [Nat.zero_add]) | rfl) ?_)) | (refine zb3 ?_; first | (refine zbn rfl aD rfl ?_) | (refine zbp rfl aD ?_) | (refine zbm rfl aD ?_) | (refine zbq rfl aD rfl ?_)) | (refine zby ?_; first | (refine zb4 rfl rfl aD ?_) | (refine zcc rfl rfl aD ?_) | (refine zcb rfl rfl ?_) | (refine zbo rfl rfl (fun h => ?_) (fun h => ?_) <;> (have h' := h; (try simp only [sx] at h')))) | (refine za9 ?_; first | (refine za8 aA rfl ?_) | (refine za6 aA rfl rfl ?_) | (refine za5 aA rfl ?_) | (refine za7 aA (evO_ok rfl) ?_) | (refine zbx _ _ aA rfl (lookM (by rfl)) rfl (lookM (by rfl)) rfl aN ⟨rfl, rfl, by decide, by decide⟩ (by first | rfl | omega | (simp; done) | (simp; omega) | fail) ⟨by first | (simp only [List.length_cons, List.length_nil]; omega) | omega | fail, by decide⟩ rfl (by first | (first | (simp only [lx, Nat.reduceAdd]; first | done | rfl) | fail) | rfl) aP ?_) | (refine zbw _ _ aA rfl rfl (lookM (by rfl)) ⟨rfl, by decide⟩ aN (by first | exact Nat.succ_pos _ | omega | (simp; done)) ⟨by first | (simp only [List.length_cons, List.length_nil]; omega) | omega | fail, by decide⟩ rfl rfl aP ?_) | (refine zbv _ aA rfl rfl (lookM (by rfl)) ⟨rfl, by decide⟩ aN ⟨by first | (simp only [List.length_cons, List.length_nil]; omega) | omega | fail, by decide⟩ rfl aP ?_) | (refine zbl _ aA rfl rfl rfl ⟨rfl, rfl, rfl, by decide, by decide⟩ (by first | rfl | (simp; done) | fail) ⟨by omega, by decide⟩ rfl aL (by first | (rw [Nat.zero_add]) | rfl) ?_)) | (refine zcn ?_; first | (refine zcj _ aA rfl rfl rfl aO (by first | assumption | rfl) ?_) | (refine zci _ _ aA rfl (lookM (by rfl)) rfl rfl rfl aO (by first | (simp only [Nat.zero_add, Int.toNat_natCast]; exact rfl) | rfl) (by first | (simp only [Nat.sub_zero, Int.toNat_natCast]; exact rfl) | rfl) ?_) | (refine zcl aA rfl rfl rfl aO rfl ?_)) | (refine zck _ aA rfl rfl rfl aO (by first | exact List.take_of_length_le aO | rfl) ?_) | (refine zal aA rfl rfl rfl ?_) | (refine zar (hK _ _ (.inl rfl) ?_); clear hK K) | (refine zar (hK _ _ (.inr (by kernel_rfl)) ?_); clear hK K))
      | (refine za3 ?_; first | (refine zbk ?_) | (refine zaf (fun K hK => ?_)) | (refine zap ?_) | (refine za0 ?_) | (refine zbj ?_) | (refine za1 ?_) | (refine zbe ?_; first | (refine zat rfl aD ?_) | (refine zau rfl aD ?_) | (refine zay rfl (fun h => ?_) (fun h => ?_) <;> (have h' := h; (try simp only [sx] at h')))))
      | (refine za2 ?_) | (refine zag ?_) | (refine zaj ?_) | (refine zao ?_) | (refine zam ?_) | (refine zan ?_) | (refine zaq rfl ?_) | (refine zah ?_) | (refine zai ?_) | (refine zbi ?_))
    all_goals first
      | (exfalso; omega)
      | (refine ret_list rfl (zbh rfl) rfl ?_ ?_ hfl rfl <;> first | decide | (simp; done) | (simp; omega))
end Go.Vs
set_option linter.unusedVariables false
set_option linter.unusedSimpArgs false
namespace Go.Vs
theorem ConF.frz {P : Program} {g : FuncId} {ys : List PV} {ty : TypeId} {sz : Nat} {es : List (List PV)} (h : ContractP P g false ys [] (Ret (.olist ty sz es))) (hfl : ∀ e ∈ es, ∀ c ∈ e, c.flat = true) : ContractP P g false ys [] (Ret (.list sz es)) := by
  refine ⟨h.1, fun G w X ρ cargs hW hX hC => ?_⟩
  obtain ⟨cb, h2⟩ := h
  refine (h2 G w X ρ cargs hW hX hC).mono fun e w' => ?_
  rintro ⟨v, r', fin, rfl, ⟨rfl, rfl⟩, hl, hf, hR⟩
  refine ⟨v, .list sz es, [], rfl, ⟨rfl, rfl⟩, hl, hf, fun t ht => ?_⟩
  obtain ⟨ρ', hR⟩ := hR t ht
  refine ⟨ρ', ?_⟩
  have hio : ioMem (withEs [] ([] : List (List (List PV)))) = noMem := by funext id; simp [ioMem, noMem, withEs]
  have hX0 : X = [] := List.length_eq_zero_iff.1 hX
  have hrel := hR.rel
  rw [hio] at hrel
  have hval := hR.val
  rw [hio] at hval
  have hM : (noMem.upds (thaw t (.olist ty sz es)).2) (t, 0) = some (some ⟨ty, sz, es, false⟩) := looks_upds _ (thaw1_keys t 0 (.olist ty sz es)).2.2 ((t, 0), some ⟨ty, sz, es, false⟩) (by simp [thaw1])
  have hv : Rep ρ' w' (Stab G ρ' (noMem.upds (thaw t (.olist ty sz es)).2) w') (noMem.upds (thaw t (.olist ty sz es)).2) v (.osl (t, 0) 0 es.length) := hval.mono (fun b hb => ⟨hb.1, rfl⟩) (MLe.refl _ _ _)
  have hnew : WRel G ρ' w X noMem w' := ⟨fun id id' r r' b z z' h => by simp [noMem] at h, fun id r h => by simp [noMem] at h, fun id r h => by simp [noMem] at h, hrel.keep, hrel.good⟩
  have key : Rep ρ' w' (RetS G false ρ' w noMem w') noMem v (.list sz es) := by
    obtain ⟨a, cap, rfl, h1, h2, h3⟩ := osl_cells hrel hM rfl hv
    refine rep_list.2 ⟨a, cap, rfl, h1, fun hne => ?_⟩
    obtain ⟨b, z, hρ, rfl, g⟩ := h3 (List.length_pos_iff.2 hne)
    have hb := hrel.new (t, 0) _ hM
    rw [if_neg ht] at hb
    have hb2 := hb b z hρ
    have hfresh : w.heap.size ≤ b := by
      rcases hb2 with h | ⟨z', h⟩
      · exact h
      · rw [hX0] at h; cases h
    refine ⟨_, rfl, ⟨⟨hrel.lt hM hρ, fun id' r z' hM' => by simp [noMem] at hM', hrel.good b hb2⟩, fun _ => hfresh⟩, fun i e hi => ?_⟩
    have hi' : ((es.drop 0).take es.length)[i]? = some e := by rw [List.drop_zero, List.take_length]; exact hi
    obtain ⟨k1, k2⟩ := g i e hi'
    refine ⟨k1, fun j u hu => ?_⟩
    obtain ⟨c, m1, m2, m3⟩ := k2 j u hu
    exact ⟨c, m1, m2, rep_flat (hfl e (List.mem_of_getElem? hi) u (List.mem_of_getElem? hu)) m3⟩
  refine ⟨?_, ?_, ?_⟩
  · rw [hio]; exact hnew
  · intro id row b z h1
    cases h1
  · rw [hio]; exact key
theorem Con.frzF {P : Program} {g : FuncId} {ys : List PV} {ty : TypeId} {sz : Nat} {es : List (List PV)} (h : Con P g ys (.olist ty sz es)) (hfl : ∀ e ∈ es, ∀ c ∈ e, c.flat = true) : Con P g ys (.list sz es) := by
  intro al
  cases al
  · exact ConF.frz (h false) hfl
  · exact ConA.frz (h true) rfl
end Go.Vs
set_option linter.unusedVariables false
set_option linter.unusedSimpArgs false
set_option maxRecDepth 100000
set_option maxHeartbeats 4000000
namespace Go.Vs
open Go.Proofs
attribute [local irreducible] exec vwp thenQ blkQ loopQ RetPost
@[reducible] def RgOk (t : Terrain) (r : List Int) : Prop := GoodT t ∧ SetG t r
theorem k_isRegion1 (t : Terrain) (r : List Int) (hn : t.burn.length ≤ 1000000) (hm : r.length ≤ 1000000) : Con Try.prog 55 [.agg t.pv, .list 1 [[.list 1 (ints r)]]] (.bool (decide (RgOk t r))) := by
  have h := k_isRegion t [r] hn (by simp) (fun x hx => by rw [List.mem_singleton] at hx; subst hx; exact hm)
  have e : rgB t [r] = decide (RgOk t r) := by unfold rgB; rw [Bool.eq_iff_iff]; simp
  rw [e] at h
  exact h
theorem k_set1 (t : Terrain) (r : List Int) (hn : t.burn.length ≤ 1000000) (hm : r.length ≤ 1000000) : Con Try.prog 61 [.agg t.pv, .list 1 (ints r)] (.bool (decide (RgOk t r))) := by
  have h := k_l2Set t r aO aO
  have e : decide (GoodT t ∧ (∀ y ∈ r, 0 ≤ y ∧ y < t.burn.length) ∧ Rising r) = decide (RgOk t r) := by rw [Bool.eq_iff_iff, decide_eq_true_eq, decide_eq_true_eq]; exact Iff.rfl
  rw [e] at h
  exact h
theorem RgOk.cel {t : Terrain} {r : List Int} (h : RgOk t r) : ∀ c ∈ r, IsCell t c := h.2.1
theorem RgOk.up {t : Terrain} {r : List Int} (h : RgOk t r) : r.Pairwise (· < ·) := h.2.2.pair
theorem RgOk.len {t : Terrain} {r : List Int} (h : RgOk t r) : r.length ≤ 25 := by
  have h1 := goodT_len h.1
  have := nodup_sub (rise_nodup h.up) (m := cellsL t.burn.length fun _ => true) fun x hx => by
    rw [cells_mem (p := fun _ => true)]
    exact ⟨h.cel x hx, rfl⟩
  have h2 := cellsL_len t.burn.length fun _ => true
  omega
theorem k_l1Own (l : List Int) (hn : l.length ≤ 1000000) : Con Try.prog 62 [.list 1 (ints l)] (.olist 3 1 (ints l)) := by
  intro al
  refine zba hmix Try.func62 rfl (by kernel_rfl) (by kernel_rfl) (Nat.le_of_ble_eq_true rfl) (fun row h => by cases h) ?_
  have hty_s24 := ty_s24
  have hty_u24 := ty_u24
  have hl1 : (ints l).length = l.length := by simp
  repeat' (first
      | (refine zaz ?_; first | (refine za4 ?_; refine zas _ rfl ?_) | (refine zak ?_; refine zaa _ rfl ?_) | (refine za9 ?_; first | (refine zbx _ _ aA rfl (lookM (by rfl)) rfl (lookM (by rfl)) rfl aN ⟨rfl, rfl, by decide, by decide⟩ (by first | rfl | omega | (simp; done) | (simp; omega) | fail) ⟨by first | (simp only [List.length_cons, List.length_nil]; omega) | omega | fail, by decide⟩ rfl (by first | (first | (simp only [lx, Nat.reduceAdd]; first | done | rfl) | fail) | rfl) aP ?_) | (refine zbw _ _ aA rfl rfl (lookM (by rfl)) ⟨rfl, by decide⟩ aN (by first | exact Nat.succ_pos _ | omega | (simp; done)) ⟨by first | (simp only [List.length_cons, List.length_nil]; omega) | omega | fail, by decide⟩ rfl rfl aP ?_) | (refine zbv _ aA rfl rfl (lookM (by rfl)) ⟨rfl, by decide⟩ aN ⟨by first | (simp only [List.length_cons, List.length_nil]; omega) | omega | fail, by decide⟩ rfl aP ?_) | (refine zbl _ aA rfl rfl rfl ⟨rfl, rfl, rfl, by decide, by decide⟩ (by first | rfl | (simp; done) | fail) ⟨by omega, by decide⟩ rfl aL (by first | (rw [Nat.zero_add]) | rfl) ?_)) | (refine zal aA rfl rfl rfl ?_) | (refine zar (hK _ _ (.inl rfl) ?_); clear hK K) | (refine zar (hK _ _ (.inr (by kernel_rfl)) ?_); clear hK K))
      | (refine za3 ?_; first | (refine zbk ?_) | (refine zaf (fun K hK => ?_)) | (refine zap ?_) | (refine za0 ?_) | (refine zbj ?_) | (refine za1 ?_))
      | (refine za2 ?_) | (refine zag ?_) | (refine zaj ?_) | (refine zao ?_) | (refine zam ?_) | (refine zan ?_) | (refine zaq rfl ?_) | (refine zah ?_) | (refine zai ?_) | (refine zbi ?_))
  all_goals first
    | (exfalso; omega)
    | (refine ret_list rfl (zbh (by rfl)) (by rfl) (by decide) ?_ (ints_flat _) ?_ <;> first | rfl | simp)
end Go.Vs
set_option linter.unusedVariables false
set_option linter.unusedSimpArgs false
set_option maxRecDepth 100000
set_option maxHeartbeats 4000000
namespace Go.Vs
open Go.Proofs
attribute [local irreducible] exec vwp thenQ blkQ loopQ RetPost
theorem k_pieces1P (t : Terrain) (cells : List Int) (g : FuncId) (st : Int → Int → Bool) (a c : Int) (hn : cells.length ≤ 1000000) (hg : Con Try.prog g [.int .i64 a, .int .i64 c, .ptr t.pv] (.bool (st a c))) :
    Con Try.prog 127 [.int .i64 a, .int .i64 c, .ptr [.list 1 (ints cells)], .ptr [.fn g [] [.ptr t.pv]]] (.bool (inP cells st a c)) := by
  intro al
  refine zba hmix Try.func127 rfl (by kernel_rfl) (by kernel_rfl) (Nat.le_of_ble_eq_true rfl) (fun row h => by cases h) ?_
  have hty_c24 := ty_c24
  have hty_u24 := ty_u24
  have hty_s24 := ty_s24
  have hty_c83 := ty_c83
  have kH := k_hasInt cells c aO
  have e : inP cells st a c = (decide (c ∈ cells) && st a c) := rfl
  rw [e]
  generalize decide (c ∈ cells) = x at *
  generalize st a c = y at *
  cases x
  · repeat' (first
      | (refine zaz ?_; first | (refine za4 ?_; refine zas _ rfl ?_) | (refine zak ?_; refine zaa _ rfl ?_) | (refine zbb ?_; first | (refine zab aA rfl ?_) | (refine zae _ aA rfl rfl aE rfl ?_) | (refine zac _ aA rfl aZ aL ?_) | (refine zad _ aA rfl rfl aE aZ aL ?_)) | (refine zb3 ?_; first | (refine zbn rfl aD rfl ?_) | (refine zbp rfl aD ?_) | (refine zbm rfl aD ?_) | (refine zbq rfl aD rfl ?_)) | (refine zby ?_; first | (refine zb4 rfl rfl aD ?_) | (refine zcc rfl rfl aD ?_) | (refine zcb rfl rfl ?_) | (refine zbo rfl rfl (fun h => ?_) (fun h => ?_) <;> (have h' := h; (try simp only [sx] at h')))) | (refine za9 ?_; first | (refine zbc true (kH) rfl rfl rfl aS rfl aH ?_; simp only [cl]) | (refine zbc true (hg) rfl rfl rfl aS rfl aH ?_; simp only [cl])) | (refine zar (hK _ _ (.inl rfl) ?_); clear hK K) | (refine zar (hK _ _ (.inr (by kernel_rfl)) ?_); clear hK K))
      | (refine za3 ?_; first | (refine zbk ?_) | (refine zaf (fun K hK => ?_)) | (refine zap ?_) | (refine za0 ?_) | (refine zbj ?_) | (refine za1 ?_))
      | (refine za2 ?_) | (refine zag ?_) | (refine zaj ?_) | (refine zao ?_) | (refine zam ?_) | (refine zan ?_) | (refine zaq rfl ?_) | (refine zah ?_) | (refine zai ?_) | (refine zbi ?_))
    all_goals exact zb2 rfl (zbh rfl) rfl
  · repeat' (first
      | (refine zaz ?_; first | (refine za4 ?_; refine zas _ rfl ?_) | (refine zak ?_; refine zaa _ rfl ?_) | (refine zbb ?_; first | (refine zab aA rfl ?_) | (refine zae _ aA rfl rfl aE rfl ?_) | (refine zac _ aA rfl aZ aL ?_) | (refine zad _ aA rfl rfl aE aZ aL ?_)) | (refine zb3 ?_; first | (refine zbn rfl aD rfl ?_) | (refine zbp rfl aD ?_) | (refine zbm rfl aD ?_) | (refine zbq rfl aD rfl ?_)) | (refine zby ?_; first | (refine zb4 rfl rfl aD ?_) | (refine zcc rfl rfl aD ?_) | (refine zcb rfl rfl ?_) | (refine zbo rfl rfl (fun h => ?_) (fun h => ?_) <;> (have h' := h; (try simp only [sx] at h')))) | (refine za9 ?_; first | (refine zbc true (kH) rfl rfl rfl aS rfl aH ?_; simp only [cl]) | (refine zbc true (hg) rfl rfl rfl aS rfl aH ?_; simp only [cl])) | (refine zar (hK _ _ (.inl rfl) ?_); clear hK K) | (refine zar (hK _ _ (.inr (by kernel_rfl)) ?_); clear hK K))
      | (refine za3 ?_; first | (refine zbk ?_) | (refine zaf (fun K hK => ?_)) | (refine zap ?_) | (refine za0 ?_) | (refine zbj ?_) | (refine za1 ?_))
      | (refine za2 ?_) | (refine zag ?_) | (refine zaj ?_) | (refine zao ?_) | (refine zam ?_) | (refine zan ?_) | (refine zaq rfl ?_) | (refine zah ?_) | (refine zai ?_) | (refine zbi ?_))
    all_goals exact zb2 rfl (zbh rfl) (by simp)
theorem k_piecesP (t : Terrain) (cells : List Int) (g : FuncId) (st : Int → Int → Bool) (hS : Set1 t cells st) (hr : cells.Pairwise (· < ·)) (hn : t.burn.length ≤ 1000000) (hm : cells.length ≤ 1000000)
    (hg : ∀ a c, IsCell t a → IsCell t c → Con Try.prog g [.int .i64 a, .int .i64 c, .ptr t.pv] (.bool (st a c))) :
    ConA Try.prog 82 [.agg t.pv, .list 1 (ints cells), .fn g [] [.ptr t.pv]] (.olist 24 1 (tabR (ptL t cells st))) := by
  refine zba hmix Try.func82 rfl (by kernel_rfl) (by kernel_rfl) (Nat.le_of_ble_eq_true rfl) (fun row h => by cases h) ?_
  have hty_s35 := ty_s35
  have hty_f26_2 := ty_f26_2
  have hty_c24 := ty_c24
  have hty_u24 := ty_u24
  have hty_s24 := ty_s24
  have hty_s113 := ty_s113
  have hty_z4 := ty_z4
  have hty_c3 := ty_c3
  have hty_c4 := ty_c4
  have hty_a26 := ty_a26
  have hty_t4 := ty_t4
  have hty_u35 := ty_u35
  have hl1 : (ints t.burn).length = t.burn.length := by simp
  have hl2 : (ints cells).length = cells.length := by simp
  repeat' (first
      | (refine zaz ?_; first | (refine za4 ?_; refine zas _ rfl ?_) | (refine zak ?_; refine zaa _ rfl ?_) | (refine zbu ?_; first | (refine zb0 rfl rfl aO ?_) | (refine zbs _ rfl rfl rfl ?_) | (refine zav _ rfl rfl rfl ?_)) | (refine zbb ?_; first | (refine zab aA rfl ?_) | (refine zae _ aA rfl rfl aE rfl ?_) | (refine zac _ aA rfl aZ aL ?_) | (refine zad _ aA rfl rfl aE aZ aL ?_)) | (refine zbz ?_; first | (refine zbf _ aA rfl aL ?_) | (refine zbg _ aA rfl rfl (by simp only [lx, Nat.reduceAdd]; first | done | rfl) ?_)) | (refine zbd ?_; first | (refine zax _ aA rfl rfl aO aA ?_) | (refine zaw _ aA rfl rfl rfl rfl aO aO (by first | (rw [Nat.zero_add, Int.toNat_natCast]) | (rw [Nat.zero_add]) | rfl) ?_)) | (refine za9 ?_; first | (refine za8 aA rfl ?_) | (refine za6 aA rfl rfl ?_) | (refine za5 aA rfl ?_) | (refine za7 aA (evO_ok rfl) ?_) | (refine zbx _ _ aA rfl (lookM (by rfl)) rfl (lookM (by rfl)) rfl aN ⟨rfl, rfl, by decide, by decide⟩ (by first | rfl | omega | (simp; done) | (simp; omega) | fail) ⟨by first | (simp only [List.length_cons, List.length_nil]; omega) | omega | fail, by decide⟩ rfl (by first | (first | (simp only [lx, Nat.reduceAdd]; first | done | rfl) | fail) | rfl) aP ?_) | (refine zbw _ _ aA rfl rfl (lookM (by rfl)) ⟨rfl, by decide⟩ aN (by first | exact Nat.succ_pos _ | omega | (simp; done)) ⟨by first | (simp only [List.length_cons, List.length_nil]; omega) | omega | fail, by decide⟩ rfl rfl aP ?_) | (refine zbv _ aA rfl rfl (lookM (by rfl)) ⟨rfl, by decide⟩ aN ⟨by first | (simp only [List.length_cons, List.length_nil]; omega) | omega | fail, by decide⟩ rfl aP ?_) | (refine zbl _ aA rfl rfl rfl ⟨rfl, rfl, rfl, by decide, by decide⟩ (by first | rfl | (simp; done) | fail) ⟨by omega, by decide⟩ rfl aL (by first | (rw [Nat.zero_add]) | rfl) ?_)) | (refine zal aA rfl rfl rfl ?_) | (refine zbt _ _ rfl rfl rfl rfl ?_) | (refine zcm _ _ rfl rfl ?_) | (refine zb1 _ _ _ rfl rfl aE (by first | assumption | (exact TAgg.size aA)) rfl rfl rfl aZ rfl aL (by first | (first | (simp only [lx, Nat.reduceAdd]; first | done | rfl) | fail) | rfl) ?_) | (refine x_make aA aA rfl rfl rfl aO rfl ?_) | (refine zar (hK _ _ (.inl rfl) ?_); clear hK K) | (refine zar (hK _ _ (.inr (by kernel_rfl)) ?_); clear hK K))
      | (refine za3 ?_; first | (refine zbk ?_) | (refine zaf (fun K hK => ?_)) | (refine zap ?_) | (refine za0 ?_) | (refine zbj ?_) | (refine za1 ?_) | (refine zbe ?_; first | (refine zat rfl aD ?_) | (refine zau rfl aD ?_) | (refine zay rfl (fun h => ?_) (fun h => ?_) <;> (have h' := h; (try simp only [sx] at h')))))
      | (refine za2 ?_) | (refine zag ?_) | (refine zaj ?_) | (refine zao ?_) | (refine zam ?_) | (refine zan ?_) | (refine zaq rfl ?_) | (refine zah ?_) | (refine zai ?_) | (refine zbi ?_))
  all_goals try (exfalso; omega)
  refine zcd [3, 4, 5, 19, 20] [] (fun q : Nat × List (List Int) × List (List PV) × List Bool × List (List PV) × Nat => [(8, .osl (1002, 0) 0 (ints t.burn).length), (7, .osl (1001, 0) 0 q.2.2.2.2.2), (21, .int .i64 q.1)]) (fun q : Nat × List (List Int) × List (List PV) × List Bool × List (List PV) × Nat => [((1001, 0), some ⟨24, 1, q.2.2.2.2.1, false⟩), ((1002, 0), some ⟨4, 1, q.2.2.1, false⟩)]) (fun q : Nat × List (List Int) × List (List PV) × List Bool × List (List PV) × Nat => q.1 ≤ cells.length ∧ q.2.1 = ((cells.take q.1).filter (hdB t cells st)).map (cmp t cells st) ∧ (q.2.2.1 = bools q.2.2.2.1 ∧ q.2.2.2.1.length = t.burn.length) ∧ (∀ x, IsCell t x → (fv q.2.2.2.1 x = true ↔ ∃ d ∈ cells.take q.1, x ∈ cmp t cells st d)) ∧ q.2.2.2.2.1 = tabR q.2.1 ∧ q.2.2.2.2.1.length = q.2.2.2.2.2) (fun q : Nat × List (List Int) × List (List PV) × List Bool × List (List PV) × Nat => cells.length - q.1) ((0, [], List.replicate (ints t.burn).length [.bool false], List.replicate t.burn.length false, [], 0)) rfl rfl (fun _ => rfl) (fun _ => rfl) rfl aW ⟨by simp, by simp, ⟨by simp [bools], by simp⟩, fun x hx => by (simp [fv, List.getD_eq_getElem?_getD, List.getElem?_replicate]; try (split <;> rfl)), rfl, rfl⟩ (fun q hq => ?_)
  obtain ⟨i, L, es, F, ts, tn⟩ := q
  obtain ⟨hi, hL, ⟨hes, hF⟩, hf, hts, htn⟩ := hq
  simp only at hi hL hes hF hf hts htn
  dsimp only
  have hbl : es.length = t.burn.length := by rw [hes, List.length_map, hF]
  have htl : ts.length = L.length := by rw [hts, tabR_len]
  have hLl : L.length ≤ i := by rw [hL, List.length_map]; exact Nat.le_trans (List.length_filter_le _ _) (by rw [List.length_take]; omega)
  rcases Nat.lt_or_ge i cells.length with hlt | hge
  · obtain ⟨c, hgc⟩ := get_ex hlt
    have hx := ints_at hgc
    have hcm := get_mem hgc
    have hcc := hS.cel c hcm
    have hcc' := hcc
    unfold IsCell at hcc'
    have hfx := fv_at (F := F) (c := c) aO
    rw [← hes] at hfx
    have hsn := seen_iff hS hr hgc
    have hfc := hf c hcc
    cases hfb : fv F c with
    | true =>
      rw [hfb] at hfx
      have hhd : hdB t cells st c = false := hsn.1 (hfc.1 hfb)
      repeat' (first
      | (refine zaz ?_; first | (refine za4 ?_; refine zas _ rfl ?_) | (refine zak ?_; refine zaa _ rfl ?_) | (refine zbu ?_; first | (refine zb0 rfl rfl aO ?_) | (refine zbs _ rfl rfl rfl ?_) | (refine zav _ rfl rfl rfl ?_)) | (refine zbb ?_; first | (refine zab aA rfl ?_) | (refine zae _ aA rfl rfl aE rfl ?_) | (refine zac _ aA rfl aZ aL ?_) | (refine zad _ aA rfl rfl aE aZ aL ?_)) | (refine zbz ?_; first | (refine zbf _ aA rfl aL ?_) | (refine zbg _ aA rfl rfl (by simp only [lx, Nat.reduceAdd]; first | done | rfl) ?_)) | (refine zbd ?_; first | (refine zax _ aA rfl rfl aO aA ?_) | (refine zaw _ aA rfl rfl rfl rfl aO aO (by first | (rw [Nat.zero_add, Int.toNat_natCast]) | (rw [Nat.zero_add]) | rfl) ?_)) | (refine za9 ?_; first | (refine za8 aA rfl ?_) | (refine za6 aA rfl rfl ?_) | (refine za5 aA rfl ?_) | (refine za7 aA (evO_ok rfl) ?_) | (refine zbx _ _ aA rfl (lookM (by rfl)) rfl (lookM (by rfl)) rfl aN ⟨rfl, rfl, by decide, by decide⟩ (by first | rfl | omega | (simp; done) | (simp; omega) | fail) ⟨by first | (simp only [List.length_cons, List.length_nil]; omega) | omega | fail, by decide⟩ rfl (by first | (first | (simp only [lx, Nat.reduceAdd]; first | done | rfl) | fail) | rfl) aP ?_) | (refine zbw _ _ aA rfl rfl (lookM (by rfl)) ⟨rfl, by decide⟩ aN (by first | exact Nat.succ_pos _ | omega | (simp; done)) ⟨by first | (simp only [List.length_cons, List.length_nil]; omega) | omega | fail, by decide⟩ rfl rfl aP ?_) | (refine zbv _ aA rfl rfl (lookM (by rfl)) ⟨rfl, by decide⟩ aN ⟨by first | (simp only [List.length_cons, List.length_nil]; omega) | omega | fail, by decide⟩ rfl aP ?_) | (refine zbl _ aA rfl rfl rfl ⟨rfl, rfl, rfl, by decide, by decide⟩ (by first | rfl | (simp; done) | fail) ⟨by omega, by decide⟩ rfl aL (by first | (rw [Nat.zero_add]) | rfl) ?_)) | (refine zal aA rfl rfl rfl ?_) | (refine zbt _ _ rfl rfl rfl rfl ?_) | (refine zcm _ _ rfl rfl ?_) | (refine zb1 _ _ _ rfl rfl aE (by first | assumption | (exact TAgg.size aA)) rfl rfl rfl aZ rfl aL (by first | (first | (simp only [lx, Nat.reduceAdd]; first | done | rfl) | fail) | rfl) ?_) | (refine x_make aA aA rfl rfl rfl aO rfl ?_) | (refine zar (hK _ _ (.inl rfl) ?_); clear hK K) | (refine zar (hK _ _ (.inr (by kernel_rfl)) ?_); clear hK K))
      | (refine za3 ?_; first | (refine zbk ?_) | (refine zaf (fun K hK => ?_)) | (refine zap ?_) | (refine za0 ?_) | (refine zbj ?_) | (refine za1 ?_) | (refine zbe ?_; first | (refine zat rfl aD ?_) | (refine zau rfl aD ?_) | (refine zay rfl (fun h => ?_) (fun h => ?_) <;> (have h' := h; (try simp only [sx] at h')))))
      | (refine za2 ?_) | (refine zag ?_) | (refine zaj ?_) | (refine zao ?_) | (refine zam ?_) | (refine zan ?_) | (refine zaq rfl ?_) | (refine zah ?_) | (refine zai ?_) | (refine zbi ?_))
      all_goals first
        | (exfalso; omega)
        | (refine zb6 (i + 1, L, es, F, ts, tn) rfl aW ⟨by simp only; omega, by simp only [filter_take_f hgc hhd, hL], ⟨hes, hF⟩, fun x hxc => ?_, hts, htn⟩ (by simp only; omega))
      all_goals
        simp only
        rw [hf x hxc, take_succ hgc]
        constructor
        · rintro ⟨d, h1, h2⟩
          exact ⟨d, List.mem_append_left _ h1, h2⟩
        · rintro ⟨d, h1, h2⟩
          rcases List.mem_append.1 h1 with h1 | h1
          · exact ⟨d, h1, h2⟩
          · rw [List.mem_singleton] at h1
            subst h1
            obtain ⟨z, hz1, hz2⟩ := hfc.1 hfb
            have hzm := List.mem_of_mem_take hz1
            exact ⟨z, hz1, by rw [← cmp_eq hS hzm hz2]; exact h2⟩
    | false =>
      rw [hfb] at hfx
      have hhd : hdB t cells st c = true := by
        cases h0 : hdB t cells st c with
        | true => rfl
        | false => rw [hfc.2 (hsn.2 h0)] at hfb; cases hfb
      have kF := k_flood t [c] 127 [[.list 1 (ints cells)], [.fn g [] [.ptr t.pv]]] (inP cells st) (fun s hs => by rw [List.mem_singleton] at hs; subst hs; exact hcc) (by simp) hn (fun a b ha hb => k_pieces1P t cells g st a b hm (hg a b ha hb))
      have kF := kF.frzF (ints_flat _)
      have hpl := cmp_len (t := t) (cells := cells) (st := st) (c := c)
      have hpm := fun x => cmp_mem (x := x) hS hcm
      have hpc : ∀ x ∈ cmp t cells st c, IsCell t x := fun x h => hS.cel x (cmp_sub hS hcm h)
      have e : flL t (inP cells st) [c] = cmp t cells st c := rfl
      rw [e] at kF
      have hmp : ((cells.take (i + 1)).filter (hdB t cells st)).map (cmp t cells st) = L ++ [cmp t cells st c] := by rw [filter_take_t hgc hhd, List.map_append, ← hL]; rfl
      have hhe : (∃ d ∈ cells.take (i + 1), c ∈ cmp t cells st d) := ⟨c, by rw [take_succ hgc]; simp, cmp_self hS hcm⟩
      have hstep : ∀ x, (∃ d ∈ cells.take (i + 1), x ∈ cmp t cells st d) ↔ x ∈ cmp t cells st c ∨ ∃ d ∈ cells.take i, x ∈ cmp t cells st d := fun x => by
        rw [take_succ hgc]
        constructor
        · rintro ⟨d, h1, h2⟩
          rcases List.mem_append.1 h1 with h1 | h1
          · exact .inr ⟨d, h1, h2⟩
          · rw [List.mem_singleton] at h1; subst h1; exact .inl h2
        · rintro (h | ⟨d, h1, h2⟩)
          · exact ⟨c, by simp, h⟩
          · exact ⟨d, List.mem_append_left _ h1, h2⟩
      generalize cmp t cells st c = R at *
      have hl3 : (ints R).length = R.length := by simp
      repeat' (first
      | (refine zaz ?_; first | (refine za4 ?_; refine zas _ rfl ?_) | (refine zak ?_; refine zaa _ rfl ?_) | (refine zbu ?_; first | (refine zb0 rfl rfl aO ?_) | (refine zbs _ rfl rfl rfl ?_) | (refine zav _ rfl rfl rfl ?_)) | (refine zbb ?_; first | (refine zab aA rfl ?_) | (refine zae _ aA rfl rfl aE rfl ?_) | (refine zac _ aA rfl aZ aL ?_) | (refine zad _ aA rfl rfl aE aZ aL ?_)) | (refine zbz ?_; first | (refine zbf _ aA rfl aL ?_) | (refine zbg _ aA rfl rfl (by simp only [lx, Nat.reduceAdd]; first | done | rfl) ?_)) | (refine zbd ?_; first | (refine zax _ aA rfl rfl aO aA ?_) | (refine zaw _ aA rfl rfl rfl rfl aO aO (by first | (rw [Nat.zero_add, Int.toNat_natCast]) | (rw [Nat.zero_add]) | rfl) ?_)) | (refine za9 ?_; first | (refine zbc true (kF) rfl rfl rfl aS rfl aH ?_; simp only [cl]) | (refine za8 aA rfl ?_) | (refine za6 aA rfl rfl ?_) | (refine za5 aA rfl ?_) | (refine za7 aA (evO_ok rfl) ?_) | (refine zbx _ _ aA rfl (lookM (by rfl)) rfl (lookM (by rfl)) rfl aN ⟨rfl, rfl, by decide, by decide⟩ (by first | rfl | omega | (simp; done) | (simp; omega) | fail) ⟨by first | (simp only [List.length_cons, List.length_nil]; omega) | omega | fail, by decide⟩ rfl (by first | (first | (simp only [lx, Nat.reduceAdd]; first | done | rfl) | fail) | rfl) aP ?_) | (refine zbw _ _ aA rfl rfl (lookM (by rfl)) ⟨rfl, by decide⟩ aN (by first | exact Nat.succ_pos _ | omega | (simp; done)) ⟨by first | (simp only [List.length_cons, List.length_nil]; omega) | omega | fail, by decide⟩ rfl rfl aP ?_) | (refine zbv _ aA rfl rfl (lookM (by rfl)) ⟨rfl, by decide⟩ aN ⟨by first | (simp only [List.length_cons, List.length_nil]; omega) | omega | fail, by decide⟩ rfl aP ?_) | (refine zbl _ aA rfl rfl rfl ⟨rfl, rfl, rfl, by decide, by decide⟩ (by first | rfl | (simp; done) | fail) ⟨by omega, by decide⟩ rfl aL (by first | (rw [Nat.zero_add]) | rfl) ?_)) | (refine zal aA rfl rfl rfl ?_) | (refine zbt _ _ rfl rfl rfl rfl ?_) | (refine zcm _ _ rfl rfl ?_) | (refine zb1 _ _ _ rfl rfl aE (by first | assumption | (exact TAgg.size aA)) rfl rfl rfl aZ rfl aL (by first | (first | (simp only [lx, Nat.reduceAdd]; first | done | rfl) | fail) | rfl) ?_) | (refine x_make aA aA rfl rfl rfl aO rfl ?_) | (refine zar (hK _ _ (.inl rfl) ?_); clear hK K) | (refine zar (hK _ _ (.inr (by kernel_rfl)) ?_); clear hK K))
      | (refine za3 ?_; first | (refine zbk ?_) | (refine zaf (fun K hK => ?_)) | (refine zap ?_) | (refine za0 ?_) | (refine zbj ?_) | (refine za1 ?_) | (refine zbe ?_; first | (refine zat rfl aD ?_) | (refine zau rfl aD ?_) | (refine zay rfl (fun h => ?_) (fun h => ?_) <;> (have h' := h; (try simp only [sx] at h')))))
      | (refine za2 ?_) | (refine zag ?_) | (refine zaj ?_) | (refine zao ?_) | (refine zam ?_) | (refine zan ?_) | (refine zaq rfl ?_) | (refine zah ?_) | (refine zai ?_) | (refine zbi ?_))
      all_goals try (exfalso; omega)
      refine zcd [3, 4, 5, 7, 11, 19, 20, 21, 34, 35] [] (fun w : Nat × List (List PV) × List Bool => [(8, .osl (1002, 0) 0 (ints t.burn).length), (36, .int .i64 w.1)]) (fun w : Nat × List (List PV) × List Bool => [((1002, 0), some ⟨4, 1, w.2.1, false⟩)]) (fun w : Nat × List (List PV) × List Bool => w.1 ≤ R.length ∧ (w.2.1 = bools w.2.2 ∧ w.2.2.length = t.burn.length) ∧ ∀ x, IsCell t x → (fv w.2.2 x = true ↔ x ∈ R.take w.1 ∨ fv F x = true)) (fun w : Nat × List (List PV) × List Bool => R.length - w.1) ((0, es, F)) rfl rfl (fun _ => rfl) (fun _ => rfl) rfl aW ⟨by simp, ⟨hes, hF⟩, fun x hx => by simp⟩ (fun w hw => ?_)
      obtain ⟨j, fs, G⟩ := w
      obtain ⟨hj, ⟨hfs, hG⟩, hgj⟩ := hw
      simp only at hj hfs hG hgj
      dsimp only
      have hfl : fs.length = t.burn.length := by rw [hfs, List.length_map, hG]
      rcases Nat.lt_or_ge j R.length with hlt2 | hge2
      · obtain ⟨y, hgy⟩ := get_ex hlt2
        have hy := ints_at hgy
        have hyc := hpc y (get_mem hgy)
        have hyc' := hyc
        unfold IsCell at hyc'
        have hfy := fv_at (F := G) (c := y) aO
        rw [← hfs] at hfy
        repeat' (first
      | (refine zaz ?_; first | (refine za4 ?_; refine zas _ rfl ?_) | (refine zak ?_; refine zaa _ rfl ?_) | (refine zbu ?_; first | (refine zb0 rfl rfl aO ?_) | (refine zbs _ rfl rfl rfl ?_) | (refine zav _ rfl rfl rfl ?_)) | (refine zbb ?_; first | (refine zab aA rfl ?_) | (refine zae _ aA rfl rfl aE rfl ?_) | (refine zac _ aA rfl aZ aL ?_) | (refine zad _ aA rfl rfl aE aZ aL ?_)) | (refine zbz ?_; first | (refine zbf _ aA rfl aL ?_) | (refine zbg _ aA rfl rfl (by simp only [lx, Nat.reduceAdd]; first | done | rfl) ?_)) | (refine zbd ?_; first | (refine zax _ aA rfl rfl aO aA ?_) | (refine zaw _ aA rfl rfl rfl rfl aO aO (by first | (rw [Nat.zero_add, Int.toNat_natCast]) | (rw [Nat.zero_add]) | rfl) ?_)) | (refine za9 ?_; first | (refine za8 aA rfl ?_) | (refine za6 aA rfl rfl ?_) | (refine za5 aA rfl ?_) | (refine za7 aA (evO_ok rfl) ?_) | (refine zbx _ _ aA rfl (lookM (by rfl)) rfl (lookM (by rfl)) rfl aN ⟨rfl, rfl, by decide, by decide⟩ (by first | rfl | omega | (simp; done) | (simp; omega) | fail) ⟨by first | (simp only [List.length_cons, List.length_nil]; omega) | omega | fail, by decide⟩ rfl (by first | (first | (simp only [lx, Nat.reduceAdd]; first | done | rfl) | fail) | rfl) aP ?_) | (refine zbw _ _ aA rfl rfl (lookM (by rfl)) ⟨rfl, by decide⟩ aN (by first | exact Nat.succ_pos _ | omega | (simp; done)) ⟨by first | (simp only [List.length_cons, List.length_nil]; omega) | omega | fail, by decide⟩ rfl rfl aP ?_) | (refine zbv _ aA rfl rfl (lookM (by rfl)) ⟨rfl, by decide⟩ aN ⟨by first | (simp only [List.length_cons, List.length_nil]; omega) | omega | fail, by decide⟩ rfl aP ?_) | (refine zbl _ aA rfl rfl rfl ⟨rfl, rfl, rfl, by decide, by decide⟩ (by first | rfl | (simp; done) | fail) ⟨by omega, by decide⟩ rfl aL (by first | (rw [Nat.zero_add]) | rfl) ?_)) | (refine zal aA rfl rfl rfl ?_) | (refine zbt _ _ rfl rfl rfl rfl ?_) | (refine zcm _ _ rfl rfl ?_) | (refine zb1 _ _ _ rfl rfl aE (by first | assumption | (exact TAgg.size aA)) rfl rfl rfl aZ rfl aL (by first | (first | (simp only [lx, Nat.reduceAdd]; first | done | rfl) | fail) | rfl) ?_) | (refine x_make aA aA rfl rfl rfl aO rfl ?_) | (refine zar (hK _ _ (.inl rfl) ?_); clear hK K) | (refine zar (hK _ _ (.inr (by kernel_rfl)) ?_); clear hK K))
      | (refine za3 ?_; first | (refine zbk ?_) | (refine zaf (fun K hK => ?_)) | (refine zap ?_) | (refine za0 ?_) | (refine zbj ?_) | (refine za1 ?_) | (refine zbe ?_; first | (refine zat rfl aD ?_) | (refine zau rfl aD ?_) | (refine zay rfl (fun h => ?_) (fun h => ?_) <;> (have h' := h; (try simp only [sx] at h')))))
      | (refine za2 ?_) | (refine zag ?_) | (refine zaj ?_) | (refine zao ?_) | (refine zam ?_) | (refine zan ?_) | (refine zaq rfl ?_) | (refine zah ?_) | (refine zai ?_) | (refine zbi ?_))
        all_goals try (exfalso; omega)
        all_goals (refine zb6 (j + 1, fs.set y.toNat [.bool true], G.set y.toNat true) rfl aW ⟨by simp only; omega, ⟨by simp only [bools_set, hfs], by simp [hG]⟩, fun x hxc => ?_⟩ (by simp only; omega))
        all_goals
          simp only
          rw [fv_set2 aO x hxc.1, hgj x hxc, take_succ hgy, List.mem_append, List.mem_singleton]
          constructor
          · rintro (h | h | h)
            · exact .inl (.inr aO)
            · exact .inl (.inl h)
            · exact .inr h
          · rintro ((h | h) | h)
            · exact .inr (.inl h)
            · exact .inl aO
            · exact .inr (.inr h)
      · have hjn : R.take j = R := take_all hge2
        rw [hjn] at hgj
        repeat' (first
      | (refine zaz ?_; first | (refine za4 ?_; refine zas _ rfl ?_) | (refine zak ?_; refine zaa _ rfl ?_) | (refine zbu ?_; first | (refine zb0 rfl rfl aO ?_) | (refine zbs _ rfl rfl rfl ?_) | (refine zav _ rfl rfl rfl ?_)) | (refine zbb ?_; first | (refine zab aA rfl ?_) | (refine zae _ aA rfl rfl aE rfl ?_) | (refine zac _ aA rfl aZ aL ?_) | (refine zad _ aA rfl rfl aE aZ aL ?_)) | (refine zbz ?_; first | (refine zbf _ aA rfl aL ?_) | (refine zbg _ aA rfl rfl (by simp only [lx, Nat.reduceAdd]; first | done | rfl) ?_)) | (refine zbd ?_; first | (refine zax _ aA rfl rfl aO aA ?_) | (refine zaw _ aA rfl rfl rfl rfl aO aO (by first | (rw [Nat.zero_add, Int.toNat_natCast]) | (rw [Nat.zero_add]) | rfl) ?_)) | (refine za9 ?_; first | (refine za8 aA rfl ?_) | (refine za6 aA rfl rfl ?_) | (refine za5 aA rfl ?_) | (refine za7 aA (evO_ok rfl) ?_) | (refine zbx _ _ aA rfl (lookM (by rfl)) rfl (lookM (by rfl)) rfl aN ⟨rfl, rfl, by decide, by decide⟩ (by first | rfl | omega | (simp; done) | (simp; omega) | fail) ⟨by first | (simp only [List.length_cons, List.length_nil]; omega) | omega | fail, by decide⟩ rfl (by first | (first | (simp only [lx, Nat.reduceAdd]; first | done | rfl) | fail) | rfl) aP ?_) | (refine zbw _ _ aA rfl rfl (lookM (by rfl)) ⟨rfl, by decide⟩ aN (by first | exact Nat.succ_pos _ | omega | (simp; done)) ⟨by first | (simp only [List.length_cons, List.length_nil]; omega) | omega | fail, by decide⟩ rfl rfl aP ?_) | (refine zbv _ aA rfl rfl (lookM (by rfl)) ⟨rfl, by decide⟩ aN ⟨by first | (simp only [List.length_cons, List.length_nil]; omega) | omega | fail, by decide⟩ rfl aP ?_) | (refine zbl _ aA rfl rfl rfl ⟨rfl, rfl, rfl, by decide, by decide⟩ (by first | rfl | (simp; done) | fail) ⟨by omega, by decide⟩ rfl aL (by first | (rw [Nat.zero_add]) | rfl) ?_)) | (refine zal aA rfl rfl rfl ?_) | (refine zbt _ _ rfl rfl rfl rfl ?_) | (refine zcm _ _ rfl rfl ?_) | (refine zb1 _ _ _ rfl rfl aE (by first | assumption | (exact TAgg.size aA)) rfl rfl rfl aZ rfl aL (by first | (first | (simp only [lx, Nat.reduceAdd]; first | done | rfl) | fail) | rfl) ?_) | (refine x_make aA aA rfl rfl rfl aO rfl ?_) | (refine zar (hK _ _ (.inl rfl) ?_); clear hK K) | (refine zar (hK _ _ (.inr (by kernel_rfl)) ?_); clear hK K))
      | (refine za3 ?_; first | (refine zbk ?_) | (refine zaf (fun K hK => ?_)) | (refine zap ?_) | (refine za0 ?_) | (refine zbj ?_) | (refine za1 ?_) | (refine zbe ?_; first | (refine zat rfl aD ?_) | (refine zau rfl aD ?_) | (refine zay rfl (fun h => ?_) (fun h => ?_) <;> (have h' := h; (try simp only [sx] at h')))))
      | (refine za2 ?_) | (refine zag ?_) | (refine zaj ?_) | (refine zao ?_) | (refine zam ?_) | (refine zan ?_) | (refine zaq rfl ?_) | (refine zah ?_) | (refine zai ?_) | (refine zbi ?_))
        all_goals first
          | (exfalso; omega)
          | (refine zb6 (i + 1, L ++ [R], fs, G, ts ++ [[.list 1 (ints R)]], tn + 1) rfl aW ⟨by simp only; omega, hmp.symm, ⟨hfs, hG⟩, fun x hxc => ?_, by simp only [tabR_snoc, hts], by simp [htn]⟩ (by simp only; omega))
        all_goals
          simp only
          rw [hgj x hxc, hf x hxc, hstep x]
  · have hi3 : cells.take i = cells := take_all hge
    rw [hi3] at hL
    have e : ptL t cells st = L := hL.symm
    rw [e]
    repeat' (first
      | (refine zaz ?_; first | (refine za4 ?_; refine zas _ rfl ?_) | (refine zak ?_; refine zaa _ rfl ?_) | (refine zbu ?_; first | (refine zb0 rfl rfl aO ?_) | (refine zbs _ rfl rfl rfl ?_) | (refine zav _ rfl rfl rfl ?_)) | (refine zbb ?_; first | (refine zab aA rfl ?_) | (refine zae _ aA rfl rfl aE rfl ?_) | (refine zac _ aA rfl aZ aL ?_) | (refine zad _ aA rfl rfl aE aZ aL ?_)) | (refine zbz ?_; first | (refine zbf _ aA rfl aL ?_) | (refine zbg _ aA rfl rfl (by simp only [lx, Nat.reduceAdd]; first | done | rfl) ?_)) | (refine zbd ?_; first | (refine zax _ aA rfl rfl aO aA ?_) | (refine zaw _ aA rfl rfl rfl rfl aO aO (by first | (rw [Nat.zero_add, Int.toNat_natCast]) | (rw [Nat.zero_add]) | rfl) ?_)) | (refine za9 ?_; first | (refine za8 aA rfl ?_) | (refine za6 aA rfl rfl ?_) | (refine za5 aA rfl ?_) | (refine za7 aA (evO_ok rfl) ?_) | (refine zbx _ _ aA rfl (lookM (by rfl)) rfl (lookM (by rfl)) rfl aN ⟨rfl, rfl, by decide, by decide⟩ (by first | rfl | omega | (simp; done) | (simp; omega) | fail) ⟨by first | (simp only [List.length_cons, List.length_nil]; omega) | omega | fail, by decide⟩ rfl (by first | (first | (simp only [lx, Nat.reduceAdd]; first | done | rfl) | fail) | rfl) aP ?_) | (refine zbw _ _ aA rfl rfl (lookM (by rfl)) ⟨rfl, by decide⟩ aN (by first | exact Nat.succ_pos _ | omega | (simp; done)) ⟨by first | (simp only [List.length_cons, List.length_nil]; omega) | omega | fail, by decide⟩ rfl rfl aP ?_) | (refine zbv _ aA rfl rfl (lookM (by rfl)) ⟨rfl, by decide⟩ aN ⟨by first | (simp only [List.length_cons, List.length_nil]; omega) | omega | fail, by decide⟩ rfl aP ?_) | (refine zbl _ aA rfl rfl rfl ⟨rfl, rfl, rfl, by decide, by decide⟩ (by first | rfl | (simp; done) | fail) ⟨by omega, by decide⟩ rfl aL (by first | (rw [Nat.zero_add]) | rfl) ?_)) | (refine zal aA rfl rfl rfl ?_) | (refine zbt _ _ rfl rfl rfl rfl ?_) | (refine zcm _ _ rfl rfl ?_) | (refine zb1 _ _ _ rfl rfl aE (by first | assumption | (exact TAgg.size aA)) rfl rfl rfl aZ rfl aL (by first | (first | (simp only [lx, Nat.reduceAdd]; first | done | rfl) | fail) | rfl) ?_) | (refine x_make aA aA rfl rfl rfl aO rfl ?_) | (refine zar (hK _ _ (.inl rfl) ?_); clear hK K) | (refine zar (hK _ _ (.inr (by kernel_rfl)) ?_); clear hK K))
      | (refine za3 ?_; first | (refine zbk ?_) | (refine zaf (fun K hK => ?_)) | (refine zap ?_) | (refine za0 ?_) | (refine zbj ?_) | (refine za1 ?_) | (refine zbe ?_; first | (refine zat rfl aD ?_) | (refine zau rfl aD ?_) | (refine zay rfl (fun h => ?_) (fun h => ?_) <;> (have h' := h; (try simp only [sx] at h')))))
      | (refine za2 ?_) | (refine zag ?_) | (refine zaj ?_) | (refine zao ?_) | (refine zam ?_) | (refine zan ?_) | (refine zaq rfl ?_) | (refine zah ?_) | (refine zai ?_) | (refine zbi ?_))
    all_goals try (exfalso; omega)
    exact ret_listA rfl (zbh (by rfl)) (by rfl) (by decide) htn.symm hts
theorem k_pieces1H (t : Terrain) (cells : List Int) (g : FuncId) (st : Int → Int → Bool) (a c : Int) (hn : cells.length ≤ 1000000) (hg : Con Try.prog g [.agg t.pv, .int .i64 a, .int .i64 c] (.bool (st a c))) :
    Con Try.prog 127 [.int .i64 a, .int .i64 c, .ptr [.list 1 (ints cells)], .ptr [.fn g [.agg t.pv] []]] (.bool (inP cells st a c)) := by
  intro al
  refine zba hmix Try.func127 rfl (by kernel_rfl) (by kernel_rfl) (Nat.le_of_ble_eq_true rfl) (fun row h => by cases h) ?_
  have hty_c24 := ty_c24
  have hty_u24 := ty_u24
  have hty_s24 := ty_s24
  have hty_c83 := ty_c83
  have kH := k_hasInt cells c aO
  have e : inP cells st a c = (decide (c ∈ cells) && st a c) := rfl
  rw [e]
  generalize decide (c ∈ cells) = x at *
  generalize st a c = y at *
  cases x
  · repeat' (first
      | (refine zaz ?_; first | (refine za4 ?_; refine zas _ rfl ?_) | (refine zak ?_; refine zaa _ rfl ?_) | (refine zbb ?_; first | (refine zab aA rfl ?_) | (refine zae _ aA rfl rfl aE rfl ?_) | (refine zac _ aA rfl aZ aL ?_) | (refine zad _ aA rfl rfl aE aZ aL ?_)) | (refine zb3 ?_; first | (refine zbn rfl aD rfl ?_) | (refine zbp rfl aD ?_) | (refine zbm rfl aD ?_) | (refine zbq rfl aD rfl ?_)) | (refine zby ?_; first | (refine zb4 rfl rfl aD ?_) | (refine zcc rfl rfl aD ?_) | (refine zcb rfl rfl ?_) | (refine zbo rfl rfl (fun h => ?_) (fun h => ?_) <;> (have h' := h; (try simp only [sx] at h')))) | (refine za9 ?_; first | (refine zbc true (kH) rfl rfl rfl aS rfl aH ?_; simp only [cl]) | (refine zbc true (hg) rfl rfl rfl aS rfl aH ?_; simp only [cl])) | (refine zar (hK _ _ (.inl rfl) ?_); clear hK K) | (refine zar (hK _ _ (.inr (by kernel_rfl)) ?_); clear hK K))
      | (refine za3 ?_; first | (refine zbk ?_) | (refine zaf (fun K hK => ?_)) | (refine zap ?_) | (refine za0 ?_) | (refine zbj ?_) | (refine za1 ?_))
      | (refine za2 ?_) | (refine zag ?_) | (refine zaj ?_) | (refine zao ?_) | (refine zam ?_) | (refine zan ?_) | (refine zaq rfl ?_) | (refine zah ?_) | (refine zai ?_) | (refine zbi ?_))
    all_goals exact zb2 rfl (zbh rfl) rfl
  · repeat' (first
      | (refine zaz ?_; first | (refine za4 ?_; refine zas _ rfl ?_) | (refine zak ?_; refine zaa _ rfl ?_) | (refine zbb ?_; first | (refine zab aA rfl ?_) | (refine zae _ aA rfl rfl aE rfl ?_) | (refine zac _ aA rfl aZ aL ?_) | (refine zad _ aA rfl rfl aE aZ aL ?_)) | (refine zb3 ?_; first | (refine zbn rfl aD rfl ?_) | (refine zbp rfl aD ?_) | (refine zbm rfl aD ?_) | (refine zbq rfl aD rfl ?_)) | (refine zby ?_; first | (refine zb4 rfl rfl aD ?_) | (refine zcc rfl rfl aD ?_) | (refine zcb rfl rfl ?_) | (refine zbo rfl rfl (fun h => ?_) (fun h => ?_) <;> (have h' := h; (try simp only [sx] at h')))) | (refine za9 ?_; first | (refine zbc true (kH) rfl rfl rfl aS rfl aH ?_; simp only [cl]) | (refine zbc true (hg) rfl rfl rfl aS rfl aH ?_; simp only [cl])) | (refine zar (hK _ _ (.inl rfl) ?_); clear hK K) | (refine zar (hK _ _ (.inr (by kernel_rfl)) ?_); clear hK K))
      | (refine za3 ?_; first | (refine zbk ?_) | (refine zaf (fun K hK => ?_)) | (refine zap ?_) | (refine za0 ?_) | (refine zbj ?_) | (refine za1 ?_))
      | (refine za2 ?_) | (refine zag ?_) | (refine zaj ?_) | (refine zao ?_) | (refine zam ?_) | (refine zan ?_) | (refine zaq rfl ?_) | (refine zah ?_) | (refine zai ?_) | (refine zbi ?_))
    all_goals exact zb2 rfl (zbh rfl) (by simp)
theorem k_piecesH (t : Terrain) (cells : List Int) (g : FuncId) (st : Int → Int → Bool) (hS : Set1 t cells st) (hr : cells.Pairwise (· < ·)) (hn : t.burn.length ≤ 1000000) (hm : cells.length ≤ 1000000)
    (hg : ∀ a c, IsCell t a → IsCell t c → Con Try.prog g [.agg t.pv, .int .i64 a, .int .i64 c] (.bool (st a c))) :
    ConA Try.prog 82 [.agg t.pv, .list 1 (ints cells), .fn g [.agg t.pv] []] (.olist 24 1 (tabR (ptL t cells st))) := by
  refine zba hmix Try.func82 rfl (by kernel_rfl) (by kernel_rfl) (Nat.le_of_ble_eq_true rfl) (fun row h => by cases h) ?_
  have hty_s35 := ty_s35
  have hty_f26_2 := ty_f26_2
  have hty_c24 := ty_c24
  have hty_u24 := ty_u24
  have hty_s24 := ty_s24
  have hty_s113 := ty_s113
  have hty_z4 := ty_z4
  have hty_c3 := ty_c3
  have hty_c4 := ty_c4
  have hty_a26 := ty_a26
  have hty_t4 := ty_t4
  have hty_u35 := ty_u35
  have hl1 : (ints t.burn).length = t.burn.length := by simp
  have hl2 : (ints cells).length = cells.length := by simp
  repeat' (first
      | (refine zaz ?_; first | (refine za4 ?_; refine zas _ rfl ?_) | (refine zak ?_; refine zaa _ rfl ?_) | (refine zbu ?_; first | (refine zb0 rfl rfl aO ?_) | (refine zbs _ rfl rfl rfl ?_) | (refine zav _ rfl rfl rfl ?_)) | (refine zbb ?_; first | (refine zab aA rfl ?_) | (refine zae _ aA rfl rfl aE rfl ?_) | (refine zac _ aA rfl aZ aL ?_) | (refine zad _ aA rfl rfl aE aZ aL ?_)) | (refine zbz ?_; first | (refine zbf _ aA rfl aL ?_) | (refine zbg _ aA rfl rfl (by simp only [lx, Nat.reduceAdd]; first | done | rfl) ?_)) | (refine zbd ?_; first | (refine zax _ aA rfl rfl aO aA ?_) | (refine zaw _ aA rfl rfl rfl rfl aO aO (by first | (rw [Nat.zero_add, Int.toNat_natCast]) | (rw [Nat.zero_add]) | rfl) ?_)) | (refine za9 ?_; first | (refine za8 aA rfl ?_) | (refine za6 aA rfl rfl ?_) | (refine za5 aA rfl ?_) | (refine za7 aA (evO_ok rfl) ?_) | (refine zbx _ _ aA rfl (lookM (by rfl)) rfl (lookM (by rfl)) rfl aN ⟨rfl, rfl, by decide, by decide⟩ (by first | rfl | omega | (simp; done) | (simp; omega) | fail) ⟨by first | (simp only [List.length_cons, List.length_nil]; omega) | omega | fail, by decide⟩ rfl (by first | (first | (simp only [lx, Nat.reduceAdd]; first | done | rfl) | fail) | rfl) aP ?_) | (refine zbw _ _ aA rfl rfl (lookM (by rfl)) ⟨rfl, by decide⟩ aN (by first | exact Nat.succ_pos _ | omega | (simp; done)) ⟨by first | (simp only [List.length_cons, List.length_nil]; omega) | omega | fail, by decide⟩ rfl rfl aP ?_) | (refine zbv _ aA rfl rfl (lookM (by rfl)) ⟨rfl, by decide⟩ aN ⟨by first | (simp only [List.length_cons, List.length_nil]; omega) | omega | fail, by decide⟩ rfl aP ?_) | (refine zbl _ aA rfl rfl rfl ⟨rfl, rfl, rfl, by decide, by decide⟩ (by first | rfl | (simp; done) | fail) ⟨by omega, by decide⟩ rfl aL (by first | (rw [Nat.zero_add]) | rfl) ?_)) | (refine zal aA rfl rfl rfl ?_) | (refine zbt _ _ rfl rfl rfl rfl ?_) | (refine zcm _ _ rfl rfl ?_) | (refine zb1 _ _ _ rfl rfl aE (by first | assumption | (exact TAgg.size aA)) rfl rfl rfl aZ rfl aL (by first | (first | (simp only [lx, Nat.reduceAdd]; first | done | rfl) | fail) | rfl) ?_) | (refine x_make aA aA rfl rfl rfl aO rfl ?_) | (refine zar (hK _ _ (.inl rfl) ?_); clear hK K) | (refine zar (hK _ _ (.inr (by kernel_rfl)) ?_); clear hK K))
      | (refine za3 ?_; first | (refine zbk ?_) | (refine zaf (fun K hK => ?_)) | (refine zap ?_) | (refine za0 ?_) | (refine zbj ?_) | (refine za1 ?_) | (refine zbe ?_; first | (refine zat rfl aD ?_) | (refine zau rfl aD ?_) | (refine zay rfl (fun h => ?_) (fun h => ?_) <;> (have h' := h; (try simp only [sx] at h')))))
      | (refine za2 ?_) | (refine zag ?_) | (refine zaj ?_) | (refine zao ?_) | (refine zam ?_) | (refine zan ?_) | (refine zaq rfl ?_) | (refine zah ?_) | (refine zai ?_) | (refine zbi ?_))
  all_goals try (exfalso; omega)
  refine zcd [3, 4, 5, 19, 20] [] (fun q : Nat × List (List Int) × List (List PV) × List Bool × List (List PV) × Nat => [(8, .osl (1002, 0) 0 (ints t.burn).length), (7, .osl (1001, 0) 0 q.2.2.2.2.2), (21, .int .i64 q.1)]) (fun q : Nat × List (List Int) × List (List PV) × List Bool × List (List PV) × Nat => [((1001, 0), some ⟨24, 1, q.2.2.2.2.1, false⟩), ((1002, 0), some ⟨4, 1, q.2.2.1, false⟩)]) (fun q : Nat × List (List Int) × List (List PV) × List Bool × List (List PV) × Nat => q.1 ≤ cells.length ∧ q.2.1 = ((cells.take q.1).filter (hdB t cells st)).map (cmp t cells st) ∧ (q.2.2.1 = bools q.2.2.2.1 ∧ q.2.2.2.1.length = t.burn.length) ∧ (∀ x, IsCell t x → (fv q.2.2.2.1 x = true ↔ ∃ d ∈ cells.take q.1, x ∈ cmp t cells st d)) ∧ q.2.2.2.2.1 = tabR q.2.1 ∧ q.2.2.2.2.1.length = q.2.2.2.2.2) (fun q : Nat × List (List Int) × List (List PV) × List Bool × List (List PV) × Nat => cells.length - q.1) ((0, [], List.replicate (ints t.burn).length [.bool false], List.replicate t.burn.length false, [], 0)) rfl rfl (fun _ => rfl) (fun _ => rfl) rfl aW ⟨by simp, by simp, ⟨by simp [bools], by simp⟩, fun x hx => by (simp [fv, List.getD_eq_getElem?_getD, List.getElem?_replicate]; try (split <;> rfl)), rfl, rfl⟩ (fun q hq => ?_)
  obtain ⟨i, L, es, F, ts, tn⟩ := q
  obtain ⟨hi, hL, ⟨hes, hF⟩, hf, hts, htn⟩ := hq
  simp only at hi hL hes hF hf hts htn
  dsimp only
  have hbl : es.length = t.burn.length := by rw [hes, List.length_map, hF]
  have htl : ts.length = L.length := by rw [hts, tabR_len]
  have hLl : L.length ≤ i := by rw [hL, List.length_map]; exact Nat.le_trans (List.length_filter_le _ _) (by rw [List.length_take]; omega)
  rcases Nat.lt_or_ge i cells.length with hlt | hge
  · obtain ⟨c, hgc⟩ := get_ex hlt
    have hx := ints_at hgc
    have hcm := get_mem hgc
    have hcc := hS.cel c hcm
    have hcc' := hcc
    unfold IsCell at hcc'
    have hfx := fv_at (F := F) (c := c) aO
    rw [← hes] at hfx
    have hsn := seen_iff hS hr hgc
    have hfc := hf c hcc
    cases hfb : fv F c with
    | true =>
      rw [hfb] at hfx
      have hhd : hdB t cells st c = false := hsn.1 (hfc.1 hfb)
      repeat' (first
      | (refine zaz ?_; first | (refine za4 ?_; refine zas _ rfl ?_) | (refine zak ?_; refine zaa _ rfl ?_) | (refine zbu ?_; first | (refine zb0 rfl rfl aO ?_) | (refine zbs _ rfl rfl rfl ?_) | (refine zav _ rfl rfl rfl ?_)) | (refine zbb ?_; first | (refine zab aA rfl ?_) | (refine zae _ aA rfl rfl aE rfl ?_) | (refine zac _ aA rfl aZ aL ?_) | (refine zad _ aA rfl rfl aE aZ aL ?_)) | (refine zbz ?_; first | (refine zbf _ aA rfl aL ?_) | (refine zbg _ aA rfl rfl (by simp only [lx, Nat.reduceAdd]; first | done | rfl) ?_)) | (refine zbd ?_; first | (refine zax _ aA rfl rfl aO aA ?_) | (refine zaw _ aA rfl rfl rfl rfl aO aO (by first | (rw [Nat.zero_add, Int.toNat_natCast]) | (rw [Nat.zero_add]) | rfl) ?_)) | (refine za9 ?_; first | (refine za8 aA rfl ?_) | (refine za6 aA rfl rfl ?_) | (refine za5 aA rfl ?_) | (refine za7 aA (evO_ok rfl) ?_) | (refine zbx _ _ aA rfl (lookM (by rfl)) rfl (lookM (by rfl)) rfl aN ⟨rfl, rfl, by decide, by decide⟩ (by first | rfl | omega | (simp; done) | (simp; omega) | fail) ⟨by first | (simp only [List.length_cons, List.length_nil]; omega) | omega | fail, by decide⟩ rfl (by first | (first | (simp only [lx, Nat.reduceAdd]; first | done | rfl) | fail) | rfl) aP ?_) | (refine zbw _ _ aA rfl rfl (lookM (by rfl)) ⟨rfl, by decide⟩ aN (by first | exact Nat.succ_pos _ | omega | (simp; done)) ⟨by first | (simp only [List.length_cons, List.length_nil]; omega) | omega | fail, by decide⟩ rfl rfl aP ?_) | (refine zbv _ aA rfl rfl (lookM (by rfl)) ⟨rfl, by decide⟩ aN ⟨by first | (simp only [List.length_cons, List.length_nil]; omega) | omega | fail, by decide⟩ rfl aP ?_) | (refine zbl _ aA rfl rfl rfl ⟨rfl, rfl, rfl, by decide, by decide⟩ (by first | rfl | (simp; done) | fail) ⟨by omega, by decide⟩ rfl aL (by first | (rw [Nat.zero_add]) | rfl) ?_)) | (refine zal aA rfl rfl rfl ?_) | (refine zbt _ _ rfl rfl rfl rfl ?_) | (refine zcm _ _ rfl rfl ?_) | (refine zb1 _ _ _ rfl rfl aE (by first | assumption | (exact TAgg.size aA)) rfl rfl rfl aZ rfl aL (by first | (first | (simp only [lx, Nat.reduceAdd]; first | done | rfl) | fail) | rfl) ?_) | (refine x_make aA aA rfl rfl rfl aO rfl ?_) | (refine zar (hK _ _ (.inl rfl) ?_); clear hK K) | (refine zar (hK _ _ (.inr (by kernel_rfl)) ?_); clear hK K))
      | (refine za3 ?_; first | (refine zbk ?_) | (refine zaf (fun K hK => ?_)) | (refine zap ?_) | (refine za0 ?_) | (refine zbj ?_) | (refine za1 ?_) | (refine zbe ?_; first | (refine zat rfl aD ?_) | (refine zau rfl aD ?_) | (refine zay rfl (fun h => ?_) (fun h => ?_) <;> (have h' := h; (try simp only [sx] at h')))))
      | (refine za2 ?_) | (refine zag ?_) | (refine zaj ?_) | (refine zao ?_) | (refine zam ?_) | (refine zan ?_) | (refine zaq rfl ?_) | (refine zah ?_) | (refine zai ?_) | (refine zbi ?_))
      all_goals first
        | (exfalso; omega)
        | (refine zb6 (i + 1, L, es, F, ts, tn) rfl aW ⟨by simp only; omega, by simp only [filter_take_f hgc hhd, hL], ⟨hes, hF⟩, fun x hxc => ?_, hts, htn⟩ (by simp only; omega))
      all_goals
        simp only
        rw [hf x hxc, take_succ hgc]
        constructor
        · rintro ⟨d, h1, h2⟩
          exact ⟨d, List.mem_append_left _ h1, h2⟩
        · rintro ⟨d, h1, h2⟩
          rcases List.mem_append.1 h1 with h1 | h1
          · exact ⟨d, h1, h2⟩
          · rw [List.mem_singleton] at h1
            subst h1
            obtain ⟨z, hz1, hz2⟩ := hfc.1 hfb
            have hzm := List.mem_of_mem_take hz1
            exact ⟨z, hz1, by rw [← cmp_eq hS hzm hz2]; exact h2⟩
    | false =>
      rw [hfb] at hfx
      have hhd : hdB t cells st c = true := by
        cases h0 : hdB t cells st c with
        | true => rfl
        | false => rw [hfc.2 (hsn.2 h0)] at hfb; cases hfb
      have kF := k_flood t [c] 127 [[.list 1 (ints cells)], [.fn g [.agg t.pv] []]] (inP cells st) (fun s hs => by rw [List.mem_singleton] at hs; subst hs; exact hcc) (by simp) hn (fun a b ha hb => k_pieces1H t cells g st a b hm (hg a b ha hb))
      have kF := kF.frzF (ints_flat _)
      have hpl := cmp_len (t := t) (cells := cells) (st := st) (c := c)
      have hpm := fun x => cmp_mem (x := x) hS hcm
      have hpc : ∀ x ∈ cmp t cells st c, IsCell t x := fun x h => hS.cel x (cmp_sub hS hcm h)
      have e : flL t (inP cells st) [c] = cmp t cells st c := rfl
      rw [e] at kF
      have hmp : ((cells.take (i + 1)).filter (hdB t cells st)).map (cmp t cells st) = L ++ [cmp t cells st c] := by rw [filter_take_t hgc hhd, List.map_append, ← hL]; rfl
      have hhe : (∃ d ∈ cells.take (i + 1), c ∈ cmp t cells st d) := ⟨c, by rw [take_succ hgc]; simp, cmp_self hS hcm⟩
      have hstep : ∀ x, (∃ d ∈ cells.take (i + 1), x ∈ cmp t cells st d) ↔ x ∈ cmp t cells st c ∨ ∃ d ∈ cells.take i, x ∈ cmp t cells st d := fun x => by
        rw [take_succ hgc]
        constructor
        · rintro ⟨d, h1, h2⟩
          rcases List.mem_append.1 h1 with h1 | h1
          · exact .inr ⟨d, h1, h2⟩
          · rw [List.mem_singleton] at h1; subst h1; exact .inl h2
        · rintro (h | ⟨d, h1, h2⟩)
          · exact ⟨c, by simp, h⟩
          · exact ⟨d, List.mem_append_left _ h1, h2⟩
      generalize cmp t cells st c = R at *
      have hl3 : (ints R).length = R.length := by simp
      repeat' (first
      | (refine zaz ?_; first | (refine za4 ?_; refine zas _ rfl ?_) | (refine zak ?_; refine zaa _ rfl ?_) | (refine zbu ?_; first | (refine zb0 rfl rfl aO ?_) | (refine zbs _ rfl rfl rfl ?_) | (refine zav _ rfl rfl rfl ?_)) | (refine zbb ?_; first | (refine zab aA rfl ?_) | (refine zae _ aA rfl rfl aE rfl ?_) | (refine zac _ aA rfl aZ aL ?_) | (refine zad _ aA rfl rfl aE aZ aL ?_)) | (refine zbz ?_; first | (refine zbf _ aA rfl aL ?_) | (refine zbg _ aA rfl rfl (by simp only [lx, Nat.reduceAdd]; first | done | rfl) ?_)) | (refine zbd ?_; first | (refine zax _ aA rfl rfl aO aA ?_) | (refine zaw _ aA rfl rfl rfl rfl aO aO (by first | (rw [Nat.zero_add, Int.toNat_natCast]) | (rw [Nat.zero_add]) | rfl) ?_)) | (refine za9 ?_; first | (refine zbc true (kF) rfl rfl rfl aS rfl aH ?_; simp only [cl]) | (refine za8 aA rfl ?_) | (refine za6 aA rfl rfl ?_) | (refine za5 aA rfl ?_) | (refine za7 aA (evO_ok rfl) ?_) | (refine zbx _ _ aA rfl (lookM (by rfl)) rfl (lookM (by rfl)) rfl aN ⟨rfl, rfl, by decide, by decide⟩ (by first | rfl | omega | (simp; done) | (simp; omega) | fail) ⟨by first | (simp only [List.length_cons, List.length_nil]; omega) | omega | fail, by decide⟩ rfl (by first | (first | (simp only [lx, Nat.reduceAdd]; first | done | rfl) | fail) | rfl) aP ?_) | (refine zbw _ _ aA rfl rfl (lookM (by rfl)) ⟨rfl, by decide⟩ aN (by first | exact Nat.succ_pos _ | omega | (simp; done)) ⟨by first | (simp only [List.length_cons, List.length_nil]; omega) | omega | fail, by decide⟩ rfl rfl aP ?_) | (refine zbv _ aA rfl rfl (lookM (by rfl)) ⟨rfl, by decide⟩ aN ⟨by first | (simp only [List.length_cons, List.length_nil]; omega) | omega | fail, by decide⟩ rfl aP ?_) | (refine zbl _ aA rfl rfl rfl ⟨rfl, rfl, rfl, by decide, by decide⟩ (by first | rfl | (simp; done) | fail) ⟨by omega, by decide⟩ rfl aL (by first | (rw [Nat.zero_add]) | rfl) ?_)) | (refine zal aA rfl rfl rfl ?_) | (refine zbt _ _ rfl rfl rfl rfl ?_) | (refine zcm _ _ rfl rfl ?_) | (refine zb1 _ _ _ rfl rfl aE (by first | assumption | (exact TAgg.size aA)) rfl rfl rfl aZ rfl aL (by first | (first | (simp only [lx, Nat.reduceAdd]; first | done | rfl) | fail) | rfl) ?_) | (refine x_make aA aA rfl rfl rfl aO rfl ?_) | (refine zar (hK _ _ (.inl rfl) ?_); clear hK K) | (refine zar (hK _ _ (.inr (by kernel_rfl)) ?_); clear hK K))
      | (refine za3 ?_; first | (refine zbk ?_) | (refine zaf (fun K hK => ?_)) | (refine zap ?_) | (refine za0 ?_) | (refine zbj ?_) | (refine za1 ?_) | (refine zbe ?_; first | (refine zat rfl aD ?_) | (refine zau rfl aD ?_) | (refine zay rfl (fun h => ?_) (fun h => ?_) <;> (have h' := h; (try simp only [sx] at h')))))
      | (refine za2 ?_) | (refine zag ?_) | (refine zaj ?_) | (refine zao ?_) | (refine zam ?_) | (refine zan ?_) | (refine zaq rfl ?_) | (refine zah ?_) | (refine zai ?_) | (refine zbi ?_))
      all_goals try (exfalso; omega)
      refine zcd [3, 4, 5, 7, 11, 19, 20, 21, 34, 35] [] (fun w : Nat × List (List PV) × List Bool => [(8, .osl (1002, 0) 0 (ints t.burn).length), (36, .int .i64 w.1)]) (fun w : Nat × List (List PV) × List Bool => [((1002, 0), some ⟨4, 1, w.2.1, false⟩)]) (fun w : Nat × List (List PV) × List Bool => w.1 ≤ R.length ∧ (w.2.1 = bools w.2.2 ∧ w.2.2.length = t.burn.length) ∧ ∀ x, IsCell t x → (fv w.2.2 x = true ↔ x ∈ R.take w.1 ∨ fv F x = true)) (fun w : Nat × List (List PV) × List Bool => R.length - w.1) ((0, es, F)) rfl rfl (fun _ => rfl) (fun _ => rfl) rfl aW ⟨by simp, ⟨hes, hF⟩, fun x hx => by simp⟩ (fun w hw => ?_)
      obtain ⟨j, fs, G⟩ := w
      obtain ⟨hj, ⟨hfs, hG⟩, hgj⟩ := hw
      simp only at hj hfs hG hgj
      dsimp only
      have hfl : fs.length = t.burn.length := by rw [hfs, List.length_map, hG]
      rcases Nat.lt_or_ge j R.length with hlt2 | hge2
      · obtain ⟨y, hgy⟩ := get_ex hlt2
        have hy := ints_at hgy
        have hyc := hpc y (get_mem hgy)
        have hyc' := hyc
        unfold IsCell at hyc'
        have hfy := fv_at (F := G) (c := y) aO
        rw [← hfs] at hfy
        repeat' (first
      | (refine zaz ?_; first | (refine za4 ?_; refine zas _ rfl ?_) | (refine zak ?_; refine zaa _ rfl ?_) | (refine zbu ?_; first | (refine zb0 rfl rfl aO ?_) | (refine zbs _ rfl rfl rfl ?_) | (refine zav _ rfl rfl rfl ?_)) | (refine zbb ?_; first | (refine zab aA rfl ?_) | (refine zae _ aA rfl rfl aE rfl ?_) | (refine zac _ aA rfl aZ aL ?_) | (refine zad _ aA rfl rfl aE aZ aL ?_)) | (refine zbz ?_; first | (refine zbf _ aA rfl aL ?_) | (refine zbg _ aA rfl rfl (by simp only [lx, Nat.reduceAdd]; first | done | rfl) ?_)) | (refine zbd ?_; first | (refine zax _ aA rfl rfl aO aA ?_) | (refine zaw _ aA rfl rfl rfl rfl aO aO (by first | (rw [Nat.zero_add, Int.toNat_natCast]) | (rw [Nat.zero_add]) | rfl) ?_)) | (refine za9 ?_; first | (refine za8 aA rfl ?_) | (refine za6 aA rfl rfl ?_) | (refine za5 aA rfl ?_) | (refine za7 aA (evO_ok rfl) ?_) | (refine zbx _ _ aA rfl (lookM (by rfl)) rfl (lookM (by rfl)) rfl aN ⟨rfl, rfl, by decide, by decide⟩ (by first | rfl | omega | (simp; done) | (simp; omega) | fail) ⟨by first | (simp only [List.length_cons, List.length_nil]; omega) | omega | fail, by decide⟩ rfl (by first | (first | (simp only [lx, Nat.reduceAdd]; first | done | rfl) | fail) | rfl) aP ?_) | (refine zbw _ _ aA rfl rfl (lookM (by rfl)) ⟨rfl, by decide⟩ aN (by first | exact Nat.succ_pos _ | omega | (simp; done)) ⟨by first | (simp only [List.length_cons, List.length_nil]; omega) | omega | fail, by decide⟩ rfl rfl aP ?_) | (refine zbv _ aA rfl rfl (lookM (by rfl)) ⟨rfl, by decide⟩ aN ⟨by first | (simp only [List.length_cons, List.length_nil]; omega) | omega | fail, by decide⟩ rfl aP ?_) | (refine zbl _ aA rfl rfl rfl ⟨rfl, rfl, rfl, by decide, by decide⟩ (by first | rfl | (simp; done) | fail) ⟨by omega, by decide⟩ rfl aL (by first | (rw [Nat.zero_add]) | rfl) ?_)) | (refine zal aA rfl rfl rfl ?_) | (refine zbt _ _ rfl rfl rfl rfl ?_) | (refine zcm _ _ rfl rfl ?_) | (refine zb1 _ _ _ rfl rfl aE (by first | assumption | (exact TAgg.size aA)) rfl rfl rfl aZ rfl aL (by first | (first | (simp only [lx, Nat.reduceAdd]; first | done | rfl) | fail) | rfl) ?_) | (refine x_make aA aA rfl rfl rfl aO rfl ?_) | (refine zar (hK _ _ (.inl rfl) ?_); clear hK K) | (refine zar (hK _ _ (.inr (by kernel_rfl)) ?_); clear hK K))
      | (refine za3 ?_; first | (refine zbk ?_) | (refine zaf (fun K hK => ?_)) | (refine zap ?_) | (refine za0 ?_) | (refine zbj ?_) | (refine za1 ?_) | (refine zbe ?_; first | (refine zat rfl aD ?_) | (refine zau rfl aD ?_) | (refine zay rfl (fun h => ?_) (fun h => ?_) <;> (have h' := h; (try simp only [sx] at h')))))
      | (refine za2 ?_) | (refine zag ?_) | (refine zaj ?_) | (refine zao ?_) | (refine zam ?_) | (refine zan ?_) | (refine zaq rfl ?_) | (refine zah ?_) | (refine zai ?_) | (refine zbi ?_))
        all_goals try (exfalso; omega)
        all_goals (refine zb6 (j + 1, fs.set y.toNat [.bool true], G.set y.toNat true) rfl aW ⟨by simp only; omega, ⟨by simp only [bools_set, hfs], by simp [hG]⟩, fun x hxc => ?_⟩ (by simp only; omega))
        all_goals
          simp only
          rw [fv_set2 aO x hxc.1, hgj x hxc, take_succ hgy, List.mem_append, List.mem_singleton]
          constructor
          · rintro (h | h | h)
            · exact .inl (.inr aO)
            · exact .inl (.inl h)
            · exact .inr h
          · rintro ((h | h) | h)
            · exact .inr (.inl h)
            · exact .inl aO
            · exact .inr (.inr h)
      · have hjn : R.take j = R := take_all hge2
        rw [hjn] at hgj
        repeat' (first
      | (refine zaz ?_; first | (refine za4 ?_; refine zas _ rfl ?_) | (refine zak ?_; refine zaa _ rfl ?_) | (refine zbu ?_; first | (refine zb0 rfl rfl aO ?_) | (refine zbs _ rfl rfl rfl ?_) | (refine zav _ rfl rfl rfl ?_)) | (refine zbb ?_; first | (refine zab aA rfl ?_) | (refine zae _ aA rfl rfl aE rfl ?_) | (refine zac _ aA rfl aZ aL ?_) | (refine zad _ aA rfl rfl aE aZ aL ?_)) | (refine zbz ?_; first | (refine zbf _ aA rfl aL ?_) | (refine zbg _ aA rfl rfl (by simp only [lx, Nat.reduceAdd]; first | done | rfl) ?_)) | (refine zbd ?_; first | (refine zax _ aA rfl rfl aO aA ?_) | (refine zaw _ aA rfl rfl rfl rfl aO aO (by first | (rw [Nat.zero_add, Int.toNat_natCast]) | (rw [Nat.zero_add]) | rfl) ?_)) | (refine za9 ?_; first | (refine za8 aA rfl ?_) | (refine za6 aA rfl rfl ?_) | (refine za5 aA rfl ?_) | (refine za7 aA (evO_ok rfl) ?_) | (refine zbx _ _ aA rfl (lookM (by rfl)) rfl (lookM (by rfl)) rfl aN ⟨rfl, rfl, by decide, by decide⟩ (by first | rfl | omega | (simp; done) | (simp; omega) | fail) ⟨by first | (simp only [List.length_cons, List.length_nil]; omega) | omega | fail, by decide⟩ rfl (by first | (first | (simp only [lx, Nat.reduceAdd]; first | done | rfl) | fail) | rfl) aP ?_) | (refine zbw _ _ aA rfl rfl (lookM (by rfl)) ⟨rfl, by decide⟩ aN (by first | exact Nat.succ_pos _ | omega | (simp; done)) ⟨by first | (simp only [List.length_cons, List.length_nil]; omega) | omega | fail, by decide⟩ rfl rfl aP ?_) | (refine zbv _ aA rfl rfl (lookM (by rfl)) ⟨rfl, by decide⟩ aN ⟨by first | (simp only [List.length_cons, List.length_nil]; omega) | omega | fail, by decide⟩ rfl aP ?_) | (refine zbl _ aA rfl rfl rfl ⟨rfl, rfl, rfl, by decide, by decide⟩ (by first | rfl | (simp; done) | fail) ⟨by omega, by decide⟩ rfl aL (by first | (rw [Nat.zero_add]) | rfl) ?_)) | (refine zal aA rfl rfl rfl ?_) | (refine zbt _ _ rfl rfl rfl rfl ?_) | (refine zcm _ _ rfl rfl ?_) | (refine zb1 _ _ _ rfl rfl aE (by first | assumption | (exact TAgg.size aA)) rfl rfl rfl aZ rfl aL (by first | (first | (simp only [lx, Nat.reduceAdd]; first | done | rfl) | fail) | rfl) ?_) | (refine x_make aA aA rfl rfl rfl aO rfl ?_) | (refine zar (hK _ _ (.inl rfl) ?_); clear hK K) | (refine zar (hK _ _ (.inr (by kernel_rfl)) ?_); clear hK K))
      | (refine za3 ?_; first | (refine zbk ?_) | (refine zaf (fun K hK => ?_)) | (refine zap ?_) | (refine za0 ?_) | (refine zbj ?_) | (refine za1 ?_) | (refine zbe ?_; first | (refine zat rfl aD ?_) | (refine zau rfl aD ?_) | (refine zay rfl (fun h => ?_) (fun h => ?_) <;> (have h' := h; (try simp only [sx] at h')))))
      | (refine za2 ?_) | (refine zag ?_) | (refine zaj ?_) | (refine zao ?_) | (refine zam ?_) | (refine zan ?_) | (refine zaq rfl ?_) | (refine zah ?_) | (refine zai ?_) | (refine zbi ?_))
        all_goals first
          | (exfalso; omega)
          | (refine zb6 (i + 1, L ++ [R], fs, G, ts ++ [[.list 1 (ints R)]], tn + 1) rfl aW ⟨by simp only; omega, hmp.symm, ⟨hfs, hG⟩, fun x hxc => ?_, by simp only [tabR_snoc, hts], by simp [htn]⟩ (by simp only; omega))
        all_goals
          simp only
          rw [hgj x hxc, hf x hxc, hstep x]
  · have hi3 : cells.take i = cells := take_all hge
    rw [hi3] at hL
    have e : ptL t cells st = L := hL.symm
    rw [e]
    repeat' (first
      | (refine zaz ?_; first | (refine za4 ?_; refine zas _ rfl ?_) | (refine zak ?_; refine zaa _ rfl ?_) | (refine zbu ?_; first | (refine zb0 rfl rfl aO ?_) | (refine zbs _ rfl rfl rfl ?_) | (refine zav _ rfl rfl rfl ?_)) | (refine zbb ?_; first | (refine zab aA rfl ?_) | (refine zae _ aA rfl rfl aE rfl ?_) | (refine zac _ aA rfl aZ aL ?_) | (refine zad _ aA rfl rfl aE aZ aL ?_)) | (refine zbz ?_; first | (refine zbf _ aA rfl aL ?_) | (refine zbg _ aA rfl rfl (by simp only [lx, Nat.reduceAdd]; first | done | rfl) ?_)) | (refine zbd ?_; first | (refine zax _ aA rfl rfl aO aA ?_) | (refine zaw _ aA rfl rfl rfl rfl aO aO (by first | (rw [Nat.zero_add, Int.toNat_natCast]) | (rw [Nat.zero_add]) | rfl) ?_)) | (refine za9 ?_; first | (refine za8 aA rfl ?_) | (refine za6 aA rfl rfl ?_) | (refine za5 aA rfl ?_) | (refine za7 aA (evO_ok rfl) ?_) | (refine zbx _ _ aA rfl (lookM (by rfl)) rfl (lookM (by rfl)) rfl aN ⟨rfl, rfl, by decide, by decide⟩ (by first | rfl | omega | (simp; done) | (simp; omega) | fail) ⟨by first | (simp only [List.length_cons, List.length_nil]; omega) | omega | fail, by decide⟩ rfl (by first | (first | (simp only [lx, Nat.reduceAdd]; first | done | rfl) | fail) | rfl) aP ?_) | (refine zbw _ _ aA rfl rfl (lookM (by rfl)) ⟨rfl, by decide⟩ aN (by first | exact Nat.succ_pos _ | omega | (simp; done)) ⟨by first | (simp only [List.length_cons, List.length_nil]; omega) | omega | fail, by decide⟩ rfl rfl aP ?_) | (refine zbv _ aA rfl rfl (lookM (by rfl)) ⟨rfl, by decide⟩ aN ⟨by first | (simp only [List.length_cons, List.length_nil]; omega) | omega | fail, by decide⟩ rfl aP ?_) | (refine zbl _ aA rfl rfl rfl ⟨rfl, rfl, rfl, by decide, by decide⟩ (by first | rfl | (simp; done) | fail) ⟨by omega, by decide⟩ rfl aL (by first | (rw [Nat.zero_add]) | rfl) ?_)) | (refine zal aA rfl rfl rfl ?_) | (refine zbt _ _ rfl rfl rfl rfl ?_) | (refine zcm _ _ rfl rfl ?_) | (refine zb1 _ _ _ rfl rfl aE (by first | assumption | (exact TAgg.size aA)) rfl rfl rfl aZ rfl aL (by first | (first | (simp only [lx, Nat.reduceAdd]; first | done | rfl) | fail) | rfl) ?_) | (refine x_make aA aA rfl rfl rfl aO rfl ?_) | (refine zar (hK _ _ (.inl rfl) ?_); clear hK K) | (refine zar (hK _ _ (.inr (by kernel_rfl)) ?_); clear hK K))
      | (refine za3 ?_; first | (refine zbk ?_) | (refine zaf (fun K hK => ?_)) | (refine zap ?_) | (refine za0 ?_) | (refine zbj ?_) | (refine za1 ?_) | (refine zbe ?_; first | (refine zat rfl aD ?_) | (refine zau rfl aD ?_) | (refine zay rfl (fun h => ?_) (fun h => ?_) <;> (have h' := h; (try simp only [sx] at h')))))
      | (refine za2 ?_) | (refine zag ?_) | (refine zaj ?_) | (refine zao ?_) | (refine zam ?_) | (refine zan ?_) | (refine zaq rfl ?_) | (refine zah ?_) | (refine zai ?_) | (refine zbi ?_))
    all_goals try (exfalso; omega)
    exact ret_listA rfl (zbh (by rfl)) (by rfl) (by decide) htn.symm hts
end Go.Vs
set_option linter.unusedVariables false
set_option linter.unusedSimpArgs false
set_option maxRecDepth 100000
set_option maxHeartbeats 4000000
namespace Go.Vs
open Go.Proofs
attribute [local irreducible] exec vwp thenQ blkQ loopQ RetPost
theorem put_new {l : List Int} {n : Int} (h : n ∉ l) : (put l n).length = l.length + 1 ∧ l[kPut l n]? ≠ some n := by
  have h1 : l[kPut l n]? ≠ some n := fun e => h (get_mem e)
  have h2 := kPut_le l n
  refine ⟨?_, h1⟩
  unfold put
  rw [if_neg h1]
  simp
  omega
structure SpI (t : Terrain) (P : Int → Int → Bool) (S : Int → Bool) (c : Int) (O W : List Int) : Prop where
  up : O.Pairwise (· < ·)
  rch : ∀ x ∈ O, IsCell t x ∧ Fl t (fun a b => P a b = true) [c] x
  que : ∀ x ∈ W, IsCell t x ∧ (S x = true → Fl t (fun a b => P a b = true) [c] x)
  clo : ∀ a ∈ O, ∀ b, IsCell t b → P a b = true → b ∈ O ∨ b ∈ W
  beg : c ∈ O ∨ c ∈ W
section
variable {t : Terrain} {P stp : Int → Int → Bool} {S : Int → Bool} {c x : Int} {O W N : List Int}
theorem SpI.len (h : SpI t P S c O W) : O.length ≤ t.burn.length := by
  refine Nat.le_trans (nodup_sub (rise_nodup h.up) (m := cellsL t.burn.length fun _ => true) fun x hx => ?_) (cellsL_len _ _)
  rw [cells_mem (p := fun _ => true)]
  exact ⟨(h.rch x hx).1, rfl⟩
theorem SpI.skip (h : SpI t P S c O (x :: W)) (hP : ∀ a b, IsCell t b → P a b = (S b && stp a b)) (hSc : S c = true) (hx : S x = false ∨ x ∈ O) : SpI t P S c O W := by
  refine ⟨h.up, h.rch, fun y hy => h.que y (List.mem_cons_of_mem _ hy), fun a ha b hb hp => ?_, ?_⟩
  · rcases h.clo a ha b hb hp with h1 | h1
    · exact .inl h1
    · rcases List.mem_cons.1 h1 with rfl | h1
      · rcases hx with hx | hx
        · rw [hP a b hb, hx] at hp; cases hp
        · exact .inl hx
      · exact .inr h1
  · rcases h.beg with h1 | h1
    · exact .inl h1
    · rcases List.mem_cons.1 h1 with rfl | h1
      · rcases hx with hx | hx
        · rw [hSc] at hx; cases hx
        · exact .inl hx
      · exact .inr h1
theorem SpI.push (h : SpI t P S c O (x :: W)) (hP : ∀ a b, IsCell t b → P a b = (S b && stp a b)) (hN : ∀ y, y ∈ N ↔ IsCell t y ∧ stp x y = true) (hx : S x = true) : SpI t P S c (put O x) (W ++ N) := by
  have hq := h.que x (by simp)
  refine ⟨put_pair h.up, fun y hy => ?_, fun y hy => ?_, fun a ha b hb hp => ?_, ?_⟩
  · rcases put_mem.1 hy with h1 | rfl
    · exact h.rch y h1
    · exact ⟨hq.1, hq.2 hx⟩
  · rcases List.mem_append.1 hy with h1 | h1
    · exact h.que y (List.mem_cons_of_mem _ h1)
    · obtain ⟨h2, h3⟩ := (hN y).1 h1
      exact ⟨h2, fun hs => .step (hq.2 hx) h2 (by rw [hP x y h2, hs, h3]; rfl)⟩
  · rcases put_mem.1 ha with h1 | rfl
    · rcases h.clo a h1 b hb hp with h2 | h2
      · exact .inl (put_mem.2 (.inl h2))
      · rcases List.mem_cons.1 h2 with h3 | h3
        · exact .inl (put_mem.2 (.inr h3))
        · exact .inr (List.mem_append_left _ h3)
    · rw [hP a b hb, Bool.and_eq_true] at hp
      exact .inr (List.mem_append_right _ ((hN b).2 ⟨hb, hp.2⟩))
  · rcases h.beg with h1 | h1
    · exact .inl (put_mem.2 (.inl h1))
    · rcases List.mem_cons.1 h1 with rfl | h1
      · exact .inl (put_mem.2 (.inr rfl))
      · exact .inr (List.mem_append_left _ h1)
theorem SpI.done (h : SpI t P S c O []) : O = flL t P [c] := by
  refine rise_ext h.up (by unfold flL; exact cells_rise _ _) fun y => ?_
  rw [flL_mem]
  refine ⟨fun hy => h.rch y hy, fun hy2 => ?_⟩
  have hy := hy2.2
  clear hy2
  induction hy with
  | src hm =>
    rw [List.mem_singleton] at hm
    subst hm
    exact h.beg.elim id fun h => by cases h
  | step _ h2 h3 ih => exact (h.clo _ ih _ h2 h3).elim id fun h => by cases h
end
@[reducible] def sdP (t : Terrain) (c x : Int) : Bool := decide (colOf t x = colOf t c) || decide (rowOf t x = rowOf t c)
def sdL (t : Terrain) (c : Int) : List Int := (nears t c).filter (sdP t c)
theorem sdL_mem {t : Terrain} {c x : Int} : x ∈ sdL t c ↔ IsCell t x ∧ besB t c x = true := by
  unfold sdL
  rw [List.mem_filter, nears_mem]
  simp only [sdP, besB, Bool.or_eq_true, Bool.and_eq_true, decide_eq_true_eq, eq_comm (a := colOf t x), eq_comm (a := rowOf t x)]
  exact ⟨fun ⟨⟨h1, h2⟩, h3⟩ => ⟨h1, h2, h3⟩, fun ⟨h1, h2, h3⟩ => ⟨⟨h1, h2⟩, h3⟩⟩
theorem sdL_len (t : Terrain) (c : Int) : (sdL t c).length ≤ t.burn.length := Nat.le_trans (List.length_filter_le _ _) (nears_len t c)
theorem ap_mem {t : Terrain} {c x : Int} : x ∈ nears t c ↔ IsCell t x ∧ apB t c x = true := by rw [nears_mem, decide_eq_true_eq]
theorem k_l6Sides (t : Terrain) (c : Int) (hg : GoodT t) (hc : IsCell t c) : Con Try.prog 91 [.agg t.pv, .int .i64 c] (.olist 3 1 (ints (sdL t c))) := by
  intro al
  refine zba hmix Try.func91 rfl (by kernel_rfl) (by kernel_rfl) (Nat.le_of_ble_eq_true rfl) (fun row h => by cases h) ?_
  have hty_s24 := ty_s24
  have hty_a26 := ty_a26
  have hty_u24 := ty_u24
  have hty_c3 := ty_c3
  have hty_f26_0 := ty_f26_0
  have hd := hg.1
  unfold Dims at hd
  have hlen := goodT_len hg
  have hcb := hc
  unfold IsCell at hcb
  have kN := (k_l2Near t c hg hc).frzF (ints_flat _)
  have hnl := nears_len t c
  have hnm : ∀ x ∈ nears t c, IsCell t x := fun x h => (nears_mem.1 h).1
  unfold sdL
  generalize nears t c = N at *
  have hl1 : (ints N).length = N.length := by simp
  repeat' (first
      | (refine zaz ?_; first | (refine za4 ?_; refine zas _ rfl ?_) | (refine zak ?_; refine zaa _ rfl ?_) | (refine zbu ?_; first | (refine zb0 rfl rfl aO ?_) | (refine x_quo rfl rfl aO ?_) | (refine zcq rfl rfl aO ?_) | (refine x_quoT rfl rfl aO ?_) | (refine zce rfl rfl aO ?_) | (refine zbs _ rfl rfl rfl ?_) | (refine zbr aA rfl rfl ?_) | (refine zav _ rfl rfl rfl ?_)) | (refine zbb ?_; first | (refine zab aA rfl ?_) | (refine zae _ aA rfl rfl aE rfl ?_) | (refine zac _ aA rfl aZ aL ?_) | (refine zad _ aA rfl rfl aE aZ aL ?_)) | (refine zbz ?_; first | (refine zbf _ aA rfl aL ?_) | (refine zbg _ aA rfl rfl (by simp only [lx, Nat.reduceAdd]; first | done | rfl) ?_)) | (refine zbd ?_; first | (refine zax _ aA rfl rfl aO aA ?_) | (refine zaw _ aA rfl rfl rfl rfl aO aO (by first | (rw [Nat.zero_add, Int.toNat_natCast]) | (rw [Nat.zero_add]) | rfl) ?_)) | (refine zb3 ?_; first | (refine zbn rfl aD rfl ?_) | (refine zbp rfl aD ?_) | (refine zbm rfl aD ?_) | (refine zbq rfl aD rfl ?_)) | (refine zby ?_; first | (refine zb4 rfl rfl aD ?_) | (refine zcc rfl rfl aD ?_) | (refine zcb rfl rfl ?_) | (refine zbo rfl rfl (fun h => ?_) (fun h => ?_) <;> (have h' := h; (try simp only [sx] at h')))) | (refine za9 ?_; first | (refine zbc true (kN) rfl rfl rfl aS rfl aH ?_; simp only [cl]) | (refine za8 aA rfl ?_) | (refine za6 aA rfl rfl ?_) | (refine za5 aA rfl ?_) | (refine za7 aA (evO_ok rfl) ?_) | (refine zbx _ _ aA rfl (lookM (by rfl)) rfl (lookM (by rfl)) rfl aN ⟨rfl, rfl, by decide, by decide⟩ (by first | rfl | omega | (simp; done) | (simp; omega) | fail) ⟨by first | (simp only [List.length_cons, List.length_nil]; omega) | omega | fail, by decide⟩ rfl (by first | (first | (simp only [lx, Nat.reduceAdd]; first | done | rfl) | fail) | rfl) aP ?_) | (refine zbw _ _ aA rfl rfl (lookM (by rfl)) ⟨rfl, by decide⟩ aN (by first | exact Nat.succ_pos _ | omega | (simp; done)) ⟨by first | (simp only [List.length_cons, List.length_nil]; omega) | omega | fail, by decide⟩ rfl rfl aP ?_) | (refine zbv _ aA rfl rfl (lookM (by rfl)) ⟨rfl, by decide⟩ aN ⟨by first | (simp only [List.length_cons, List.length_nil]; omega) | omega | fail, by decide⟩ rfl aP ?_) | (refine zbl _ aA rfl rfl rfl ⟨rfl, rfl, rfl, by decide, by decide⟩ (by first | rfl | (simp; done) | fail) ⟨by omega, by decide⟩ rfl aL (by first | (rw [Nat.zero_add]) | rfl) ?_)) | (refine zal aA rfl rfl rfl ?_) | (refine zbt _ _ rfl rfl rfl rfl ?_) | (refine zar (hK _ _ (.inl rfl) ?_); clear hK K) | (refine zar (hK _ _ (.inr (by kernel_rfl)) ?_); clear hK K))
      | (refine za3 ?_; first | (refine zbk ?_) | (refine zaf (fun K hK => ?_)) | (refine zap ?_) | (refine za0 ?_) | (refine zbj ?_) | (refine za1 ?_) | (refine zbe ?_; first | (refine zat rfl aD ?_) | (refine zau rfl aD ?_) | (refine zay rfl (fun h => ?_) (fun h => ?_) <;> (have h' := h; (try simp only [sx] at h')))))
      | (refine za2 ?_) | (refine zag ?_) | (refine zaj ?_) | (refine zao ?_) | (refine zam ?_) | (refine zan ?_) | (refine zaq rfl ?_) | (refine zah ?_) | (refine zai ?_) | (refine zbi ?_))
  all_goals try (exfalso; omega)
  refine zcd [1, 2, 6] [] (fun q : Nat × Nat × List (List PV) => [(5, .osl (1001, 0) 0 q.2.1), (7, .int .i64 q.1)]) (fun q : Nat × Nat × List (List PV) => [((1001, 0), some ⟨3, 1, q.2.2, false⟩)]) (fun q : Nat × Nat × List (List PV) => q.1 ≤ N.length ∧ q.2.2 = ints ((N.take q.1).filter (sdP t c)) ∧ q.2.2.length = q.2.1) (fun q : Nat × Nat × List (List PV) => N.length - q.1) ((0, 0, [])) rfl rfl (fun _ => rfl) (fun _ => rfl) rfl aW ⟨by simp, by simp, rfl⟩ (fun q hq => ?_)
  obtain ⟨i, m, es⟩ := q
  obtain ⟨hi1, hi2, hl⟩ := hq
  simp only at hi1 hi2 hl
  have hle : es.length ≤ i := by rw [hi2, ints_len]; exact Nat.le_trans (List.length_filter_le _ _) (by rw [List.length_take]; omega)
  dsimp only
  rcases Nat.lt_or_ge i N.length with hlt | hge
  · obtain ⟨x, hgx⟩ := get_ex hlt
    have hx := ints_at hgx
    have hcx := hnm x (get_mem hgx)
    unfold IsCell at hcx
    by_cases h1 : x % t.width = c % t.width ∨ x / t.width = c / t.width
    · have hp : sdP t c x = true := by simp only [sdP, Bool.or_eq_true, decide_eq_true_eq]; exact h1
      repeat' (first
      | (refine zaz ?_; first | (refine za4 ?_; refine zas _ rfl ?_) | (refine zak ?_; refine zaa _ rfl ?_) | (refine zbu ?_; first | (refine zb0 rfl rfl aO ?_) | (refine x_quo rfl rfl aO ?_) | (refine zcq rfl rfl aO ?_) | (refine x_quoT rfl rfl aO ?_) | (refine zce rfl rfl aO ?_) | (refine zbs _ rfl rfl rfl ?_) | (refine zbr aA rfl rfl ?_) | (refine zav _ rfl rfl rfl ?_)) | (refine zbb ?_; first | (refine zab aA rfl ?_) | (refine zae _ aA rfl rfl aE rfl ?_) | (refine zac _ aA rfl aZ aL ?_) | (refine zad _ aA rfl rfl aE aZ aL ?_)) | (refine zbz ?_; first | (refine zbf _ aA rfl aL ?_) | (refine zbg _ aA rfl rfl (by simp only [lx, Nat.reduceAdd]; first | done | rfl) ?_)) | (refine zbd ?_; first | (refine zax _ aA rfl rfl aO aA ?_) | (refine zaw _ aA rfl rfl rfl rfl aO aO (by first | (rw [Nat.zero_add, Int.toNat_natCast]) | (rw [Nat.zero_add]) | rfl) ?_)) | (refine zb3 ?_; first | (refine zbn rfl aD rfl ?_) | (refine zbp rfl aD ?_) | (refine zbm rfl aD ?_) | (refine zbq rfl aD rfl ?_)) | (refine zby ?_; first | (refine zb4 rfl rfl aD ?_) | (refine zcc rfl rfl aD ?_) | (refine zcb rfl rfl ?_) | (refine zbo rfl rfl (fun h => ?_) (fun h => ?_) <;> (have h' := h; (try simp only [sx] at h')))) | (refine za9 ?_; first | (refine za8 aA rfl ?_) | (refine za6 aA rfl rfl ?_) | (refine za5 aA rfl ?_) | (refine za7 aA (evO_ok rfl) ?_) | (refine zbx _ _ aA rfl (lookM (by rfl)) rfl (lookM (by rfl)) rfl aN ⟨rfl, rfl, by decide, by decide⟩ (by first | rfl | omega | (simp; done) | (simp; omega) | fail) ⟨by first | (simp only [List.length_cons, List.length_nil]; omega) | omega | fail, by decide⟩ rfl (by first | (first | (simp only [lx, Nat.reduceAdd]; first | done | rfl) | fail) | rfl) aP ?_) | (refine zbw _ _ aA rfl rfl (lookM (by rfl)) ⟨rfl, by decide⟩ aN (by first | exact Nat.succ_pos _ | omega | (simp; done)) ⟨by first | (simp only [List.length_cons, List.length_nil]; omega) | omega | fail, by decide⟩ rfl rfl aP ?_) | (refine zbv _ aA rfl rfl (lookM (by rfl)) ⟨rfl, by decide⟩ aN ⟨by first | (simp only [List.length_cons, List.length_nil]; omega) | omega | fail, by decide⟩ rfl aP ?_) | (refine zbl _ aA rfl rfl rfl ⟨rfl, rfl, rfl, by decide, by decide⟩ (by first | rfl | (simp; done) | fail) ⟨by omega, by decide⟩ rfl aL (by first | (rw [Nat.zero_add]) | rfl) ?_)) | (refine zal aA rfl rfl rfl ?_) | (refine zbt _ _ rfl rfl rfl rfl ?_) | (refine zar (hK _ _ (.inl rfl) ?_); clear hK K) | (refine zar (hK _ _ (.inr (by kernel_rfl)) ?_); clear hK K))
      | (refine za3 ?_; first | (refine zbk ?_) | (refine zaf (fun K hK => ?_)) | (refine zap ?_) | (refine za0 ?_) | (refine zbj ?_) | (refine za1 ?_) | (refine zbe ?_; first | (refine zat rfl aD ?_) | (refine zau rfl aD ?_) | (refine zay rfl (fun h => ?_) (fun h => ?_) <;> (have h' := h; (try simp only [sx] at h')))))
      | (refine za2 ?_) | (refine zag ?_) | (refine zaj ?_) | (refine zao ?_) | (refine zam ?_) | (refine zan ?_) | (refine zaq rfl ?_) | (refine zah ?_) | (refine zai ?_) | (refine zbi ?_))
      all_goals first
        | (exfalso; omega)
        | (refine zb6 (i + 1, m + 1, es ++ [[.int .i64 x]]) rfl aW ⟨by simp only; omega, by simp only [filter_take_t hgx hp, ints_snoc, hi2], by simp [hl]⟩ (by simp only; omega))
    · have hp : sdP t c x = false := by
        rw [← Bool.not_eq_true]
        simp only [sdP, Bool.or_eq_true, decide_eq_true_eq]
        exact h1
      repeat' (first
      | (refine zaz ?_; first | (refine za4 ?_; refine zas _ rfl ?_) | (refine zak ?_; refine zaa _ rfl ?_) | (refine zbu ?_; first | (refine zb0 rfl rfl aO ?_) | (refine x_quo rfl rfl aO ?_) | (refine zcq rfl rfl aO ?_) | (refine x_quoT rfl rfl aO ?_) | (refine zce rfl rfl aO ?_) | (refine zbs _ rfl rfl rfl ?_) | (refine zbr aA rfl rfl ?_) | (refine zav _ rfl rfl rfl ?_)) | (refine zbb ?_; first | (refine zab aA rfl ?_) | (refine zae _ aA rfl rfl aE rfl ?_) | (refine zac _ aA rfl aZ aL ?_) | (refine zad _ aA rfl rfl aE aZ aL ?_)) | (refine zbz ?_; first | (refine zbf _ aA rfl aL ?_) | (refine zbg _ aA rfl rfl (by simp only [lx, Nat.reduceAdd]; first | done | rfl) ?_)) | (refine zbd ?_; first | (refine zax _ aA rfl rfl aO aA ?_) | (refine zaw _ aA rfl rfl rfl rfl aO aO (by first | (rw [Nat.zero_add, Int.toNat_natCast]) | (rw [Nat.zero_add]) | rfl) ?_)) | (refine zb3 ?_; first | (refine zbn rfl aD rfl ?_) | (refine zbp rfl aD ?_) | (refine zbm rfl aD ?_) | (refine zbq rfl aD rfl ?_)) | (refine zby ?_; first | (refine zb4 rfl rfl aD ?_) | (refine zcc rfl rfl aD ?_) | (refine zcb rfl rfl ?_) | (refine zbo rfl rfl (fun h => ?_) (fun h => ?_) <;> (have h' := h; (try simp only [sx] at h')))) | (refine za9 ?_; first | (refine za8 aA rfl ?_) | (refine za6 aA rfl rfl ?_) | (refine za5 aA rfl ?_) | (refine za7 aA (evO_ok rfl) ?_) | (refine zbx _ _ aA rfl (lookM (by rfl)) rfl (lookM (by rfl)) rfl aN ⟨rfl, rfl, by decide, by decide⟩ (by first | rfl | omega | (simp; done) | (simp; omega) | fail) ⟨by first | (simp only [List.length_cons, List.length_nil]; omega) | omega | fail, by decide⟩ rfl (by first | (first | (simp only [lx, Nat.reduceAdd]; first | done | rfl) | fail) | rfl) aP ?_) | (refine zbw _ _ aA rfl rfl (lookM (by rfl)) ⟨rfl, by decide⟩ aN (by first | exact Nat.succ_pos _ | omega | (simp; done)) ⟨by first | (simp only [List.length_cons, List.length_nil]; omega) | omega | fail, by decide⟩ rfl rfl aP ?_) | (refine zbv _ aA rfl rfl (lookM (by rfl)) ⟨rfl, by decide⟩ aN ⟨by first | (simp only [List.length_cons, List.length_nil]; omega) | omega | fail, by decide⟩ rfl aP ?_) | (refine zbl _ aA rfl rfl rfl ⟨rfl, rfl, rfl, by decide, by decide⟩ (by first | rfl | (simp; done) | fail) ⟨by omega, by decide⟩ rfl aL (by first | (rw [Nat.zero_add]) | rfl) ?_)) | (refine zal aA rfl rfl rfl ?_) | (refine zbt _ _ rfl rfl rfl rfl ?_) | (refine zar (hK _ _ (.inl rfl) ?_); clear hK K) | (refine zar (hK _ _ (.inr (by kernel_rfl)) ?_); clear hK K))
      | (refine za3 ?_; first | (refine zbk ?_) | (refine zaf (fun K hK => ?_)) | (refine zap ?_) | (refine za0 ?_) | (refine zbj ?_) | (refine za1 ?_) | (refine zbe ?_; first | (refine zat rfl aD ?_) | (refine zau rfl aD ?_) | (refine zay rfl (fun h => ?_) (fun h => ?_) <;> (have h' := h; (try simp only [sx] at h')))))
      | (refine za2 ?_) | (refine zag ?_) | (refine zaj ?_) | (refine zao ?_) | (refine zam ?_) | (refine zan ?_) | (refine zaq rfl ?_) | (refine zah ?_) | (refine zai ?_) | (refine zbi ?_))
      all_goals first
        | (exfalso; omega)
        | (refine zb6 (i + 1, m, es) rfl aW ⟨by simp only; omega, by simp only [filter_take_f hgx hp, hi2], hl⟩ (by simp only; omega))
  · rw [take_all hge] at hi2
    repeat' (first
      | (refine zaz ?_; first | (refine za4 ?_; refine zas _ rfl ?_) | (refine zak ?_; refine zaa _ rfl ?_) | (refine zbu ?_; first | (refine zb0 rfl rfl aO ?_) | (refine x_quo rfl rfl aO ?_) | (refine zcq rfl rfl aO ?_) | (refine x_quoT rfl rfl aO ?_) | (refine zce rfl rfl aO ?_) | (refine zbs _ rfl rfl rfl ?_) | (refine zbr aA rfl rfl ?_) | (refine zav _ rfl rfl rfl ?_)) | (refine zbb ?_; first | (refine zab aA rfl ?_) | (refine zae _ aA rfl rfl aE rfl ?_) | (refine zac _ aA rfl aZ aL ?_) | (refine zad _ aA rfl rfl aE aZ aL ?_)) | (refine zbz ?_; first | (refine zbf _ aA rfl aL ?_) | (refine zbg _ aA rfl rfl (by simp only [lx, Nat.reduceAdd]; first | done | rfl) ?_)) | (refine zbd ?_; first | (refine zax _ aA rfl rfl aO aA ?_) | (refine zaw _ aA rfl rfl rfl rfl aO aO (by first | (rw [Nat.zero_add, Int.toNat_natCast]) | (rw [Nat.zero_add]) | rfl) ?_)) | (refine zb3 ?_; first | (refine zbn rfl aD rfl ?_) | (refine zbp rfl aD ?_) | (refine zbm rfl aD ?_) | (refine zbq rfl aD rfl ?_)) | (refine zby ?_; first | (refine zb4 rfl rfl aD ?_) | (refine zcc rfl rfl aD ?_) | (refine zcb rfl rfl ?_) | (refine zbo rfl rfl (fun h => ?_) (fun h => ?_) <;> (have h' := h; (try simp only [sx] at h')))) | (refine za9 ?_; first | (refine za8 aA rfl ?_) | (refine za6 aA rfl rfl ?_) | (refine za5 aA rfl ?_) | (refine za7 aA (evO_ok rfl) ?_) | (refine zbx _ _ aA rfl (lookM (by rfl)) rfl (lookM (by rfl)) rfl aN ⟨rfl, rfl, by decide, by decide⟩ (by first | rfl | omega | (simp; done) | (simp; omega) | fail) ⟨by first | (simp only [List.length_cons, List.length_nil]; omega) | omega | fail, by decide⟩ rfl (by first | (first | (simp only [lx, Nat.reduceAdd]; first | done | rfl) | fail) | rfl) aP ?_) | (refine zbw _ _ aA rfl rfl (lookM (by rfl)) ⟨rfl, by decide⟩ aN (by first | exact Nat.succ_pos _ | omega | (simp; done)) ⟨by first | (simp only [List.length_cons, List.length_nil]; omega) | omega | fail, by decide⟩ rfl rfl aP ?_) | (refine zbv _ aA rfl rfl (lookM (by rfl)) ⟨rfl, by decide⟩ aN ⟨by first | (simp only [List.length_cons, List.length_nil]; omega) | omega | fail, by decide⟩ rfl aP ?_) | (refine zbl _ aA rfl rfl rfl ⟨rfl, rfl, rfl, by decide, by decide⟩ (by first | rfl | (simp; done) | fail) ⟨by omega, by decide⟩ rfl aL (by first | (rw [Nat.zero_add]) | rfl) ?_)) | (refine zal aA rfl rfl rfl ?_) | (refine zbt _ _ rfl rfl rfl rfl ?_) | (refine zar (hK _ _ (.inl rfl) ?_); clear hK K) | (refine zar (hK _ _ (.inr (by kernel_rfl)) ?_); clear hK K))
      | (refine za3 ?_; first | (refine zbk ?_) | (refine zaf (fun K hK => ?_)) | (refine zap ?_) | (refine za0 ?_) | (refine zbj ?_) | (refine za1 ?_) | (refine zbe ?_; first | (refine zat rfl aD ?_) | (refine zau rfl aD ?_) | (refine zay rfl (fun h => ?_) (fun h => ?_) <;> (have h' := h; (try simp only [sx] at h')))))
      | (refine za2 ?_) | (refine zag ?_) | (refine zaj ?_) | (refine zao ?_) | (refine zam ?_) | (refine zan ?_) | (refine zaq rfl ?_) | (refine zah ?_) | (refine zai ?_) | (refine zbi ?_))
    all_goals first
      | (exfalso; omega)
      | exact ret_list rfl (zbh (by rfl)) (by rfl) (by decide) hl.symm (by rw [hi2]; exact ints_flat _) hi2
theorem k_l6SpreadI (t : Terrain) (region : List Int) (c : Int) (hg : GoodT t) (hc : IsCell t c) (hr : region.length ≤ 1000000) (hSc : (fun x => decide (x ∈ region)) c = true) :
    Con Try.prog 84 [.agg t.pv, .list 1 (ints region), .int .i64 c, .bool true] (.olist 3 1 (ints (flL t (inP region (apB t)) [c]))) := by
  intro al
  refine zba hmix Try.func84 rfl (by kernel_rfl) (by kernel_rfl) (Nat.le_of_ble_eq_true rfl) (fun row h => by cases h) ?_
  have hty_s24 := ty_s24
  have hty_u24 := ty_u24
  have hty_c3 := ty_c3
  have hty_u4 := ty_u4
  have hty_a26 := ty_a26
  have hlen := goodT_len hg
  have hP : ∀ a b, IsCell t b → (inP region (apB t)) a b = ((fun x => decide (x ∈ region)) b && (apB t) a b) := fun a b _ => rfl
  have hI0 : SpI t (inP region (apB t)) (fun x => decide (x ∈ region)) c [] [c] := ⟨by simp, fun x h => (by cases h), fun x h => (by rw [List.mem_singleton] at h; subst h; exact ⟨hc, fun _ => .src (by simp)⟩), fun a h => (by cases h), .inr (by simp)⟩
  repeat' (first
      | (refine zaz ?_; first | (refine za4 ?_; refine zas _ rfl ?_) | (refine zak ?_; refine zaa _ rfl ?_) | (refine zbu ?_; first | (refine zbs _ rfl rfl rfl ?_) | (refine zca aA rfl rfl ?_) | (refine zav _ rfl rfl rfl ?_)) | (refine zbb ?_; first | (refine zab aA rfl ?_) | (refine zae _ aA rfl rfl aE rfl ?_) | (refine zac _ aA rfl aZ aL ?_) | (refine zad _ aA rfl rfl aE aZ aL ?_)) | (refine zbd ?_; first | (refine zax _ aA rfl rfl aO aA ?_) | (refine zaw _ aA rfl rfl rfl rfl aO aO (by first | (rw [Nat.zero_add, Int.toNat_natCast]) | (rw [Nat.zero_add]) | rfl) ?_)) | (refine zb3 ?_; first | (refine zbn rfl aD rfl ?_) | (refine zbp rfl aD ?_) | (refine zbm rfl aD ?_) | (refine zbq rfl aD rfl ?_)) | (refine zby ?_; first | (refine zb4 rfl rfl aD ?_) | (refine zcc rfl rfl aD ?_) | (refine zcb rfl rfl ?_) | (refine zbo rfl rfl (fun h => ?_) (fun h => ?_) <;> (have h' := h; (try simp only [sx] at h')))) | (refine za9 ?_; first | (refine za8 aA rfl ?_) | (refine za6 aA rfl rfl ?_) | (refine za5 aA rfl ?_) | (refine za7 aA (evO_ok rfl) ?_) | (refine zbx _ _ aA rfl (lookM (by rfl)) rfl (lookM (by rfl)) rfl aN ⟨rfl, rfl, by decide, by decide⟩ (by first | rfl | omega | (simp; done) | (simp; omega) | fail) ⟨by first | (simp only [List.length_cons, List.length_nil]; omega) | omega | fail, by decide⟩ rfl (by first | (first | (simp only [lx, Nat.reduceAdd]; first | done | rfl) | fail) | rfl) aP ?_) | (refine zbw _ _ aA rfl rfl (lookM (by rfl)) ⟨rfl, by decide⟩ aN (by first | exact Nat.succ_pos _ | omega | (simp; done)) ⟨by first | (simp only [List.length_cons, List.length_nil]; omega) | omega | fail, by decide⟩ rfl rfl aP ?_) | (refine zbv _ aA rfl rfl (lookM (by rfl)) ⟨rfl, by decide⟩ aN ⟨by first | (simp only [List.length_cons, List.length_nil]; omega) | omega | fail, by decide⟩ rfl aP ?_) | (refine zbl _ aA rfl rfl rfl ⟨rfl, rfl, rfl, by decide, by decide⟩ (by first | rfl | (simp; done) | fail) ⟨by omega, by decide⟩ rfl aL (by first | (rw [Nat.zero_add]) | rfl) ?_)) | (refine zcn ?_; first | (refine zcj _ aA rfl rfl rfl aO (by first | assumption | rfl) ?_) | (refine zci _ _ aA rfl (lookM (by rfl)) rfl rfl rfl aO (by first | (simp only [Nat.zero_add, Int.toNat_natCast]; exact rfl) | rfl) (by first | (simp only [Nat.sub_zero, Int.toNat_natCast]; exact rfl) | rfl) ?_) | (refine zcl aA rfl rfl rfl aO rfl ?_)) | (refine zck _ aA rfl rfl rfl aO (by first | exact List.take_of_length_le aO | rfl) ?_) | (refine zal aA rfl rfl rfl ?_) | (refine zbt _ _ rfl rfl rfl rfl ?_) | (refine zar (hK _ _ (.inl rfl) ?_); clear hK K) | (refine zar (hK _ _ (.inr (by kernel_rfl)) ?_); clear hK K))
      | (refine za3 ?_; first | (refine zbk ?_) | (refine zaf (fun K hK => ?_)) | (refine zap ?_) | (refine za0 ?_) | (refine zbj ?_) | (refine za1 ?_) | (refine zbe ?_; first | (refine zat rfl aD ?_) | (refine zau rfl aD ?_) | (refine zay rfl (fun h => ?_) (fun h => ?_) <;> (have h' := h; (try simp only [sx] at h')))))
      | (refine za2 ?_) | (refine zag ?_) | (refine zaj ?_) | (refine zao ?_) | (refine zam ?_) | (refine zan ?_) | (refine zaq rfl ?_) | (refine zah ?_) | (refine zai ?_) | (refine zbi ?_))
  all_goals try (exfalso; omega)
  refine zcd [1, 3, 4] [] (fun q : List (List PV) × List Int × Nat × Nat × List Int × List Int × List (List PV) × Nat => [(9, .osl (1002, 0) 0 q.2.2.2.2.2.2.2), (10, .osl (1001, 0) q.2.2.1 q.2.2.2.1)]) (fun q : List (List PV) × List Int × Nat × Nat × List Int × List Int × List (List PV) × Nat => [((1001, 0), some ⟨3, 1, q.1, false⟩), ((1002, 0), some ⟨3, 1, q.2.2.2.2.2.2.1, false⟩)]) (fun q : List (List PV) × List Int × Nat × Nat × List Int × List Int × List (List PV) × Nat => (q.1 = ints (q.2.2.2.2.1 ++ q.2.1) ∧ q.2.2.2.2.1.length = q.2.2.1 ∧ q.2.1.length = q.2.2.2.1) ∧ (q.2.2.2.2.2.2.1 = ints q.2.2.2.2.2.1 ∧ q.2.2.2.2.2.2.1.length = q.2.2.2.2.2.2.2) ∧ SpI t (inP region (apB t)) (fun x => decide (x ∈ region)) c q.2.2.2.2.2.1 q.2.1 ∧ 26 * (25 - q.2.2.2.2.2.1.length) + q.2.1.length ≤ 700) (fun q : List (List PV) × List Int × Nat × Nat × List Int × List Int × List (List PV) × Nat => 26 * (25 - q.2.2.2.2.2.1.length) + q.2.1.length) (([[.int .i64 c]], [c], 0, 1, [], [], [], 0)) rfl rfl (fun _ => rfl) (fun _ => rfl) rfl aW ⟨⟨rfl, rfl, rfl⟩, ⟨rfl, rfl⟩, hI0, by simp⟩ (fun q hq => ?_)
  obtain ⟨rs, W, o, n, pre, O, es, m⟩ := q
  obtain ⟨⟨hrs, hpre, hWn⟩, ⟨hes, hem⟩, hI, hN⟩ := hq
  simp only at hrs hpre hWn hes hem hI hN
  dsimp only
  have hOl := hI.len
  have hme := hem.symm
  have hemO : O.length = m := by rw [← hem, hes, ints_len]
  cases W with
  | nil =>
    have hn0 : n = 0 := by simpa using hWn.symm
    subst hn0
    have e := hI.done
    repeat' (first
      | (refine zaz ?_; first | (refine za4 ?_; refine zas _ rfl ?_) | (refine zak ?_; refine zaa _ rfl ?_) | (refine zbu ?_; first | (refine zbs _ rfl rfl rfl ?_) | (refine zca aA rfl rfl ?_) | (refine zav _ rfl rfl rfl ?_)) | (refine zbb ?_; first | (refine zab aA rfl ?_) | (refine zae _ aA rfl rfl aE rfl ?_) | (refine zac _ aA rfl aZ aL ?_) | (refine zad _ aA rfl rfl aE aZ aL ?_)) | (refine zbd ?_; first | (refine zax _ aA rfl rfl aO aA ?_) | (refine zaw _ aA rfl rfl rfl rfl aO aO (by first | (rw [Nat.zero_add, Int.toNat_natCast]) | (rw [Nat.zero_add]) | rfl) ?_)) | (refine zb3 ?_; first | (refine zbn rfl aD rfl ?_) | (refine zbp rfl aD ?_) | (refine zbm rfl aD ?_) | (refine zbq rfl aD rfl ?_)) | (refine zby ?_; first | (refine zb4 rfl rfl aD ?_) | (refine zcc rfl rfl aD ?_) | (refine zcb rfl rfl ?_) | (refine zbo rfl rfl (fun h => ?_) (fun h => ?_) <;> (have h' := h; (try simp only [sx] at h')))) | (refine za9 ?_; first | (refine za8 aA rfl ?_) | (refine za6 aA rfl rfl ?_) | (refine za5 aA rfl ?_) | (refine za7 aA (evO_ok rfl) ?_) | (refine zbx _ _ aA rfl (lookM (by rfl)) rfl (lookM (by rfl)) rfl aN ⟨rfl, rfl, by decide, by decide⟩ (by first | rfl | omega | (simp; done) | (simp; omega) | fail) ⟨by first | (simp only [List.length_cons, List.length_nil]; omega) | omega | fail, by decide⟩ rfl (by first | (first | (simp only [lx, Nat.reduceAdd]; first | done | rfl) | fail) | rfl) aP ?_) | (refine zbw _ _ aA rfl rfl (lookM (by rfl)) ⟨rfl, by decide⟩ aN (by first | exact Nat.succ_pos _ | omega | (simp; done)) ⟨by first | (simp only [List.length_cons, List.length_nil]; omega) | omega | fail, by decide⟩ rfl rfl aP ?_) | (refine zbv _ aA rfl rfl (lookM (by rfl)) ⟨rfl, by decide⟩ aN ⟨by first | (simp only [List.length_cons, List.length_nil]; omega) | omega | fail, by decide⟩ rfl aP ?_) | (refine zbl _ aA rfl rfl rfl ⟨rfl, rfl, rfl, by decide, by decide⟩ (by first | rfl | (simp; done) | fail) ⟨by omega, by decide⟩ rfl aL (by first | (rw [Nat.zero_add]) | rfl) ?_)) | (refine zcn ?_; first | (refine zcj _ aA rfl rfl rfl aO (by first | assumption | rfl) ?_) | (refine zci _ _ aA rfl (lookM (by rfl)) rfl rfl rfl aO (by first | (simp only [Nat.zero_add, Int.toNat_natCast]; exact rfl) | rfl) (by first | (simp only [Nat.sub_zero, Int.toNat_natCast]; exact rfl) | rfl) ?_) | (refine zcl aA rfl rfl rfl aO rfl ?_)) | (refine zck _ aA rfl rfl rfl aO (by first | exact List.take_of_length_le aO | rfl) ?_) | (refine zal aA rfl rfl rfl ?_) | (refine zbt _ _ rfl rfl rfl rfl ?_) | (refine zar (hK _ _ (.inl rfl) ?_); clear hK K) | (refine zar (hK _ _ (.inr (by kernel_rfl)) ?_); clear hK K))
      | (refine za3 ?_; first | (refine zbk ?_) | (refine zaf (fun K hK => ?_)) | (refine zap ?_) | (refine za0 ?_) | (refine zbj ?_) | (refine za1 ?_) | (refine zbe ?_; first | (refine zat rfl aD ?_) | (refine zau rfl aD ?_) | (refine zay rfl (fun h => ?_) (fun h => ?_) <;> (have h' := h; (try simp only [sx] at h')))))
      | (refine za2 ?_) | (refine zag ?_) | (refine zaj ?_) | (refine zao ?_) | (refine zam ?_) | (refine zan ?_) | (refine zaq rfl ?_) | (refine zah ?_) | (refine zai ?_) | (refine zbi ?_))
    all_goals first
      | (exfalso; omega)
      | exact ret_list rfl (zbh (by rfl)) (by rfl) (by decide) hme (by rw [hes]; exact ints_flat _) (by rw [hes, e])
  | cons x W =>
    have hn1 : n = W.length + 1 := by simpa using hWn.symm
    rw [List.length_cons] at hN
    have hcx := (hI.que x (by simp)).1
    have hcx' := hcx
    unfold IsCell at hcx'
    have hgx : rs[o]? = some [.int .i64 x] := by
      rw [hrs]
      refine ints_at ?_
      rw [List.getElem?_append_right aO, hpre, Nat.sub_self]
      rfl
    have hrl : rs.length = o + n := by rw [hrs, ints_len, List.length_append, hpre, hWn]
    have hl2 : (ints O).length = O.length := by simp
    have hdr : rs.drop (o + 1) = ints W := by rw [hrs, show pre ++ x :: W = (pre ++ [x]) ++ W by simp, ints, List.map_append, List.drop_left' (by simp [hpre])]
    have kH1 := k_l1Has region x aO
    have kH2 := k_l1Has O x aO
    subst hes
    by_cases hx : (fun x => decide (x ∈ region)) x = true
    · have hxr : decide (x ∈ region) = true := by simpa using hx
      rw [hxr] at kH1
      by_cases hxo : x ∈ O
      · rw [decide_eq_true hxo] at kH2
        repeat' (first
      | (refine zaz ?_; first | (refine za4 ?_; refine zas _ rfl ?_) | (refine zak ?_; refine zaa _ rfl ?_) | (refine zbu ?_; first | (refine zbs _ rfl rfl rfl ?_) | (refine zca aA rfl rfl ?_) | (refine zav _ rfl rfl rfl ?_)) | (refine zbb ?_; first | (refine zab aA rfl ?_) | (refine zae _ aA rfl rfl aE rfl ?_) | (refine zac _ aA rfl aZ aL ?_) | (refine zad _ aA rfl rfl aE aZ aL ?_)) | (refine zbd ?_; first | (refine zax _ aA rfl rfl aO aA ?_) | (refine zaw _ aA rfl rfl rfl rfl aO aO (by first | (rw [Nat.zero_add, Int.toNat_natCast]) | (rw [Nat.zero_add]) | rfl) ?_)) | (refine zb3 ?_; first | (refine zbn rfl aD rfl ?_) | (refine zbp rfl aD ?_) | (refine zbm rfl aD ?_) | (refine zbq rfl aD rfl ?_)) | (refine zby ?_; first | (refine zb4 rfl rfl aD ?_) | (refine zcc rfl rfl aD ?_) | (refine zcb rfl rfl ?_) | (refine zbo rfl rfl (fun h => ?_) (fun h => ?_) <;> (have h' := h; (try simp only [sx] at h')))) | (refine za9 ?_; first | (refine zbc true (kH1) rfl rfl rfl aS rfl aH ?_; simp only [cl]) | (refine zbc true (kH2) rfl rfl rfl aS rfl aH ?_; simp only [cl]) | (refine za8 aA rfl ?_) | (refine za6 aA rfl rfl ?_) | (refine za5 aA rfl ?_) | (refine za7 aA (evO_ok rfl) ?_) | (refine zbx _ _ aA rfl (lookM (by rfl)) rfl (lookM (by rfl)) rfl aN ⟨rfl, rfl, by decide, by decide⟩ (by first | rfl | omega | (simp; done) | (simp; omega) | fail) ⟨by first | (simp only [List.length_cons, List.length_nil]; omega) | omega | fail, by decide⟩ rfl (by first | (first | (simp only [lx, Nat.reduceAdd]; first | done | rfl) | fail) | rfl) aP ?_) | (refine zbw _ _ aA rfl rfl (lookM (by rfl)) ⟨rfl, by decide⟩ aN (by first | exact Nat.succ_pos _ | omega | (simp; done)) ⟨by first | (simp only [List.length_cons, List.length_nil]; omega) | omega | fail, by decide⟩ rfl rfl aP ?_) | (refine zbv _ aA rfl rfl (lookM (by rfl)) ⟨rfl, by decide⟩ aN ⟨by first | (simp only [List.length_cons, List.length_nil]; omega) | omega | fail, by decide⟩ rfl aP ?_) | (refine zbl _ aA rfl rfl rfl ⟨rfl, rfl, rfl, by decide, by decide⟩ (by first | rfl | (simp; done) | fail) ⟨by omega, by decide⟩ rfl aL (by first | (rw [Nat.zero_add]) | rfl) ?_)) | (refine zcn ?_; first | (refine zcj _ aA rfl rfl rfl aO (by first | assumption | rfl) ?_) | (refine zci _ _ aA rfl (lookM (by rfl)) rfl rfl rfl aO (by first | (simp only [Nat.zero_add, Int.toNat_natCast]; exact rfl) | rfl) (by first | (simp only [Nat.sub_zero, Int.toNat_natCast]; exact rfl) | rfl) ?_) | (refine zcl aA rfl rfl rfl aO rfl ?_)) | (refine zck _ aA rfl rfl rfl aO (by first | exact List.take_of_length_le aO | rfl) ?_) | (refine zal aA rfl rfl rfl ?_) | (refine zbt _ _ rfl rfl rfl rfl ?_) | (refine zar (hK _ _ (.inl rfl) ?_); clear hK K) | (refine zar (hK _ _ (.inr (by kernel_rfl)) ?_); clear hK K))
      | (refine za3 ?_; first | (refine zbk ?_) | (refine zaf (fun K hK => ?_)) | (refine zap ?_) | (refine za0 ?_) | (refine zbj ?_) | (refine za1 ?_) | (refine zbe ?_; first | (refine zat rfl aD ?_) | (refine zau rfl aD ?_) | (refine zay rfl (fun h => ?_) (fun h => ?_) <;> (have h' := h; (try simp only [sx] at h')))))
      | (refine za2 ?_) | (refine zag ?_) | (refine zaj ?_) | (refine zao ?_) | (refine zam ?_) | (refine zan ?_) | (refine zaq rfl ?_) | (refine zah ?_) | (refine zai ?_) | (refine zbi ?_))
        all_goals first
          | (exfalso; omega)
          | (exfalso; simp at *; done)
          | (refine zb6 (rs, W, o + 1, n - 1, pre ++ [x], O, ints O, m) rfl aW ⟨⟨by simp [hrs], by simp [hpre], by simp only; omega⟩, ⟨rfl, hem⟩, hI.skip hP hSc (.inr hxo), by simp only; omega⟩ (by simp only [List.length_cons]; omega))
      · rw [decide_eq_false hxo] at kH2
        obtain ⟨hpl, hpn⟩ := put_new hxo
        have kP := k_l1PutN O x aO hpn
        have kN := k_l2Near t x hg hcx
        have hnl := nears_len t x
        have hpush := hI.push hP (fun y => ap_mem (t := t) (c := x) (x := y)) hx
        have hpl2 := hpush.len
        rw [hpl] at hpl2
        generalize nears t x = N at *
        have hl3 : (ints N).length = N.length := by simp
        repeat' (first
      | (refine zaz ?_; first | (refine za4 ?_; refine zas _ rfl ?_) | (refine zak ?_; refine zaa _ rfl ?_) | (refine zbu ?_; first | (refine zbs _ rfl rfl rfl ?_) | (refine zca aA rfl rfl ?_) | (refine zav _ rfl rfl rfl ?_)) | (refine zbb ?_; first | (refine zab aA rfl ?_) | (refine zae _ aA rfl rfl aE rfl ?_) | (refine zac _ aA rfl aZ aL ?_) | (refine zad _ aA rfl rfl aE aZ aL ?_)) | (refine zbd ?_; first | (refine zax _ aA rfl rfl aO aA ?_) | (refine zaw _ aA rfl rfl rfl rfl aO aO (by first | (rw [Nat.zero_add, Int.toNat_natCast]) | (rw [Nat.zero_add]) | rfl) ?_)) | (refine zb3 ?_; first | (refine zbn rfl aD rfl ?_) | (refine zbp rfl aD ?_) | (refine zbm rfl aD ?_) | (refine zbq rfl aD rfl ?_)) | (refine zby ?_; first | (refine zb4 rfl rfl aD ?_) | (refine zcc rfl rfl aD ?_) | (refine zcb rfl rfl ?_) | (refine zbo rfl rfl (fun h => ?_) (fun h => ?_) <;> (have h' := h; (try simp only [sx] at h')))) | (refine za9 ?_; first | (refine zbc true (kH1) rfl rfl rfl aS rfl aH ?_; simp only [cl]) | (refine zbc true (kH2) rfl rfl rfl aS rfl aH ?_; simp only [cl]) | (refine zbc true (kP) rfl rfl rfl aS rfl aH ?_; simp only [cl]) | (refine zbc true (kN) rfl rfl rfl aS rfl aH ?_; simp only [cl]) | (refine za8 aA rfl ?_) | (refine za6 aA rfl rfl ?_) | (refine za5 aA rfl ?_) | (refine za7 aA (evO_ok rfl) ?_) | (refine zbx _ _ aA rfl (lookM (by rfl)) rfl (lookM (by rfl)) rfl aN ⟨rfl, rfl, by decide, by decide⟩ (by first | rfl | omega | (simp; done) | (simp; omega) | fail) ⟨by first | (simp only [List.length_cons, List.length_nil]; omega) | omega | fail, by decide⟩ rfl (by first | (first | (simp only [lx, Nat.reduceAdd]; first | done | rfl) | fail) | rfl) aP ?_) | (refine zbw _ _ aA rfl rfl (lookM (by rfl)) ⟨rfl, by decide⟩ aN (by first | exact Nat.succ_pos _ | omega | (simp; done)) ⟨by first | (simp only [List.length_cons, List.length_nil]; omega) | omega | fail, by decide⟩ rfl rfl aP ?_) | (refine zbv _ aA rfl rfl (lookM (by rfl)) ⟨rfl, by decide⟩ aN ⟨by first | (simp only [List.length_cons, List.length_nil]; omega) | omega | fail, by decide⟩ rfl aP ?_) | (refine zbl _ aA rfl rfl rfl ⟨rfl, rfl, rfl, by decide, by decide⟩ (by first | rfl | (simp; done) | fail) ⟨by omega, by decide⟩ rfl aL (by first | (rw [Nat.zero_add]) | rfl) ?_)) | (refine zcn ?_; first | (refine zcj _ aA rfl rfl rfl aO (by first | assumption | rfl) ?_) | (refine zci _ _ aA rfl (lookM (by rfl)) rfl rfl rfl aO (by first | (simp only [Nat.zero_add, Int.toNat_natCast]; exact rfl) | rfl) (by first | (simp only [Nat.sub_zero, Int.toNat_natCast]; exact rfl) | rfl) ?_) | (refine zcl aA rfl rfl rfl aO rfl ?_)) | (refine zck _ aA rfl rfl rfl aO (by first | exact List.take_of_length_le aO | rfl) ?_) | (refine zal aA rfl rfl rfl ?_) | (refine zbt _ _ rfl rfl rfl rfl ?_) | (refine zar (hK _ _ (.inl rfl) ?_); clear hK K) | (refine zar (hK _ _ (.inr (by kernel_rfl)) ?_); clear hK K))
      | (refine za3 ?_; first | (refine zbk ?_) | (refine zaf (fun K hK => ?_)) | (refine zap ?_) | (refine za0 ?_) | (refine zbj ?_) | (refine za1 ?_) | (refine zbe ?_; first | (refine zat rfl aD ?_) | (refine zau rfl aD ?_) | (refine zay rfl (fun h => ?_) (fun h => ?_) <;> (have h' := h; (try simp only [sx] at h')))))
      | (refine za2 ?_) | (refine zag ?_) | (refine zaj ?_) | (refine zao ?_) | (refine zam ?_) | (refine zan ?_) | (refine zaq rfl ?_) | (refine zah ?_) | (refine zai ?_) | (refine zbi ?_))
        all_goals try (exfalso; omega)
        all_goals try (exfalso; simp at *; done)
        all_goals (refine zb6 (rs.drop (o + 1) ++ ints N, W ++ N, 0, n - 1 + (ints N).length, [], put O x, ints (put O x), (ints (put O x)).length) rfl aW ⟨⟨?_, rfl, by simp only [List.length_append, hl3]; omega⟩, ⟨rfl, rfl⟩, hpush, by simp only [hpl, List.length_append]; omega⟩ (by simp only [hpl, List.length_append, List.length_cons]; omega))
        all_goals (simp only; rw [hdr]; simp [ints])
    · have hx : (fun x => decide (x ∈ region)) x = false := by simpa using hx
      have hxr : decide (x ∈ region) = !true := by simpa using hx
      simp only [Bool.not_true, Bool.not_false] at hxr
      rw [hxr] at kH1
      repeat' (first
      | (refine zaz ?_; first | (refine za4 ?_; refine zas _ rfl ?_) | (refine zak ?_; refine zaa _ rfl ?_) | (refine zbu ?_; first | (refine zbs _ rfl rfl rfl ?_) | (refine zca aA rfl rfl ?_) | (refine zav _ rfl rfl rfl ?_)) | (refine zbb ?_; first | (refine zab aA rfl ?_) | (refine zae _ aA rfl rfl aE rfl ?_) | (refine zac _ aA rfl aZ aL ?_) | (refine zad _ aA rfl rfl aE aZ aL ?_)) | (refine zbd ?_; first | (refine zax _ aA rfl rfl aO aA ?_) | (refine zaw _ aA rfl rfl rfl rfl aO aO (by first | (rw [Nat.zero_add, Int.toNat_natCast]) | (rw [Nat.zero_add]) | rfl) ?_)) | (refine zb3 ?_; first | (refine zbn rfl aD rfl ?_) | (refine zbp rfl aD ?_) | (refine zbm rfl aD ?_) | (refine zbq rfl aD rfl ?_)) | (refine zby ?_; first | (refine zb4 rfl rfl aD ?_) | (refine zcc rfl rfl aD ?_) | (refine zcb rfl rfl ?_) | (refine zbo rfl rfl (fun h => ?_) (fun h => ?_) <;> (have h' := h; (try simp only [sx] at h')))) | (refine za9 ?_; first | (refine zbc true (kH1) rfl rfl rfl aS rfl aH ?_; simp only [cl]) | (refine zbc true (kH2) rfl rfl rfl aS rfl aH ?_; simp only [cl]) | (refine za8 aA rfl ?_) | (refine za6 aA rfl rfl ?_) | (refine za5 aA rfl ?_) | (refine za7 aA (evO_ok rfl) ?_) | (refine zbx _ _ aA rfl (lookM (by rfl)) rfl (lookM (by rfl)) rfl aN ⟨rfl, rfl, by decide, by decide⟩ (by first | rfl | omega | (simp; done) | (simp; omega) | fail) ⟨by first | (simp only [List.length_cons, List.length_nil]; omega) | omega | fail, by decide⟩ rfl (by first | (first | (simp only [lx, Nat.reduceAdd]; first | done | rfl) | fail) | rfl) aP ?_) | (refine zbw _ _ aA rfl rfl (lookM (by rfl)) ⟨rfl, by decide⟩ aN (by first | exact Nat.succ_pos _ | omega | (simp; done)) ⟨by first | (simp only [List.length_cons, List.length_nil]; omega) | omega | fail, by decide⟩ rfl rfl aP ?_) | (refine zbv _ aA rfl rfl (lookM (by rfl)) ⟨rfl, by decide⟩ aN ⟨by first | (simp only [List.length_cons, List.length_nil]; omega) | omega | fail, by decide⟩ rfl aP ?_) | (refine zbl _ aA rfl rfl rfl ⟨rfl, rfl, rfl, by decide, by decide⟩ (by first | rfl | (simp; done) | fail) ⟨by omega, by decide⟩ rfl aL (by first | (rw [Nat.zero_add]) | rfl) ?_)) | (refine zcn ?_; first | (refine zcj _ aA rfl rfl rfl aO (by first | assumption | rfl) ?_) | (refine zci _ _ aA rfl (lookM (by rfl)) rfl rfl rfl aO (by first | (simp only [Nat.zero_add, Int.toNat_natCast]; exact rfl) | rfl) (by first | (simp only [Nat.sub_zero, Int.toNat_natCast]; exact rfl) | rfl) ?_) | (refine zcl aA rfl rfl rfl aO rfl ?_)) | (refine zck _ aA rfl rfl rfl aO (by first | exact List.take_of_length_le aO | rfl) ?_) | (refine zal aA rfl rfl rfl ?_) | (refine zbt _ _ rfl rfl rfl rfl ?_) | (refine zar (hK _ _ (.inl rfl) ?_); clear hK K) | (refine zar (hK _ _ (.inr (by kernel_rfl)) ?_); clear hK K))
      | (refine za3 ?_; first | (refine zbk ?_) | (refine zaf (fun K hK => ?_)) | (refine zap ?_) | (refine za0 ?_) | (refine zbj ?_) | (refine za1 ?_) | (refine zbe ?_; first | (refine zat rfl aD ?_) | (refine zau rfl aD ?_) | (refine zay rfl (fun h => ?_) (fun h => ?_) <;> (have h' := h; (try simp only [sx] at h')))))
      | (refine za2 ?_) | (refine zag ?_) | (refine zaj ?_) | (refine zao ?_) | (refine zam ?_) | (refine zan ?_) | (refine zaq rfl ?_) | (refine zah ?_) | (refine zai ?_) | (refine zbi ?_))
      all_goals first
        | (exfalso; omega)
        | (exfalso; simp at *; done)
        | (refine zb6 (rs, W, o + 1, n - 1, pre ++ [x], O, ints O, m) rfl aW ⟨⟨by simp [hrs], by simp [hpre], by simp only; omega⟩, ⟨rfl, hem⟩, hI.skip hP hSc (.inl hx), by simp only; omega⟩ (by simp only [List.length_cons]; omega))
theorem k_l6SpreadO (t : Terrain) (region : List Int) (c : Int) (hg : GoodT t) (hc : IsCell t c) (hr : region.length ≤ 1000000) (hSc : (fun x => !decide (x ∈ region)) c = true) :
    Con Try.prog 84 [.agg t.pv, .list 1 (ints region), .int .i64 c, .bool false] (.olist 3 1 (ints (flL t (inP (outR t region) (besB t)) [c]))) := by
  intro al
  refine zba hmix Try.func84 rfl (by kernel_rfl) (by kernel_rfl) (Nat.le_of_ble_eq_true rfl) (fun row h => by cases h) ?_
  have hty_s24 := ty_s24
  have hty_u24 := ty_u24
  have hty_c3 := ty_c3
  have hty_u4 := ty_u4
  have hty_a26 := ty_a26
  have hlen := goodT_len hg
  have hP : ∀ a b, IsCell t b → (inP (outR t region) (besB t)) a b = ((fun x => !decide (x ∈ region)) b && (besB t) a b) := fun a b hb => by simp only [inP]; congr 1; rw [Bool.eq_iff_iff, decide_eq_true_eq, outR_mem]; simp [hb]
  have hI0 : SpI t (inP (outR t region) (besB t)) (fun x => !decide (x ∈ region)) c [] [c] := ⟨by simp, fun x h => (by cases h), fun x h => (by rw [List.mem_singleton] at h; subst h; exact ⟨hc, fun _ => .src (by simp)⟩), fun a h => (by cases h), .inr (by simp)⟩
  repeat' (first
      | (refine zaz ?_; first | (refine za4 ?_; refine zas _ rfl ?_) | (refine zak ?_; refine zaa _ rfl ?_) | (refine zbu ?_; first | (refine zbs _ rfl rfl rfl ?_) | (refine zca aA rfl rfl ?_) | (refine zav _ rfl rfl rfl ?_)) | (refine zbb ?_; first | (refine zab aA rfl ?_) | (refine zae _ aA rfl rfl aE rfl ?_) | (refine zac _ aA rfl aZ aL ?_) | (refine zad _ aA rfl rfl aE aZ aL ?_)) | (refine zbd ?_; first | (refine zax _ aA rfl rfl aO aA ?_) | (refine zaw _ aA rfl rfl rfl rfl aO aO (by first | (rw [Nat.zero_add, Int.toNat_natCast]) | (rw [Nat.zero_add]) | rfl) ?_)) | (refine zb3 ?_; first | (refine zbn rfl aD rfl ?_) | (refine zbp rfl aD ?_) | (refine zbm rfl aD ?_) | (refine zbq rfl aD rfl ?_)) | (refine zby ?_; first | (refine zb4 rfl rfl aD ?_) | (refine zcc rfl rfl aD ?_) | (refine zcb rfl rfl ?_) | (refine zbo rfl rfl (fun h => ?_) (fun h => ?_) <;> (have h' := h; (try simp only [sx] at h')))) | (refine za9 ?_; first | (refine za8 aA rfl ?_) | (refine za6 aA rfl rfl ?_) | (refine za5 aA rfl ?_) | (refine za7 aA (evO_ok rfl) ?_) | (refine zbx _ _ aA rfl (lookM (by rfl)) rfl (lookM (by rfl)) rfl aN ⟨rfl, rfl, by decide, by decide⟩ (by first | rfl | omega | (simp; done) | (simp; omega) | fail) ⟨by first | (simp only [List.length_cons, List.length_nil]; omega) | omega | fail, by decide⟩ rfl (by first | (first | (simp only [lx, Nat.reduceAdd]; first | done | rfl) | fail) | rfl) aP ?_) | (refine zbw _ _ aA rfl rfl (lookM (by rfl)) ⟨rfl, by decide⟩ aN (by first | exact Nat.succ_pos _ | omega | (simp; done)) ⟨by first | (simp only [List.length_cons, List.length_nil]; omega) | omega | fail, by decide⟩ rfl rfl aP ?_) | (refine zbv _ aA rfl rfl (lookM (by rfl)) ⟨rfl, by decide⟩ aN ⟨by first | (simp only [List.length_cons, List.length_nil]; omega) | omega | fail, by decide⟩ rfl aP ?_) | (refine zbl _ aA rfl rfl rfl ⟨rfl, rfl, rfl, by decide, by decide⟩ (by first | rfl | (simp; done) | fail) ⟨by omega, by decide⟩ rfl aL (by first | (rw [Nat.zero_add]) | rfl) ?_)) | (refine zcn ?_; first | (refine zcj _ aA rfl rfl rfl aO (by first | assumption | rfl) ?_) | (refine zci _ _ aA rfl (lookM (by rfl)) rfl rfl rfl aO (by first | (simp only [Nat.zero_add, Int.toNat_natCast]; exact rfl) | rfl) (by first | (simp only [Nat.sub_zero, Int.toNat_natCast]; exact rfl) | rfl) ?_) | (refine zcl aA rfl rfl rfl aO rfl ?_)) | (refine zck _ aA rfl rfl rfl aO (by first | exact List.take_of_length_le aO | rfl) ?_) | (refine zal aA rfl rfl rfl ?_) | (refine zbt _ _ rfl rfl rfl rfl ?_) | (refine zar (hK _ _ (.inl rfl) ?_); clear hK K) | (refine zar (hK _ _ (.inr (by kernel_rfl)) ?_); clear hK K))
      | (refine za3 ?_; first | (refine zbk ?_) | (refine zaf (fun K hK => ?_)) | (refine zap ?_) | (refine za0 ?_) | (refine zbj ?_) | (refine za1 ?_) | (refine zbe ?_; first | (refine zat rfl aD ?_) | (refine zau rfl aD ?_) | (refine zay rfl (fun h => ?_) (fun h => ?_) <;> (have h' := h; (try simp only [sx] at h')))))
      | (refine za2 ?_) | (refine zag ?_) | (refine zaj ?_) | (refine zao ?_) | (refine zam ?_) | (refine zan ?_) | (refine zaq rfl ?_) | (refine zah ?_) | (refine zai ?_) | (refine zbi ?_))
  all_goals try (exfalso; omega)
  refine zcd [1, 3, 4] [] (fun q : List (List PV) × List Int × Nat × Nat × List Int × List Int × List (List PV) × Nat => [(9, .osl (1002, 0) 0 q.2.2.2.2.2.2.2), (10, .osl (1001, 0) q.2.2.1 q.2.2.2.1)]) (fun q : List (List PV) × List Int × Nat × Nat × List Int × List Int × List (List PV) × Nat => [((1001, 0), some ⟨3, 1, q.1, false⟩), ((1002, 0), some ⟨3, 1, q.2.2.2.2.2.2.1, false⟩)]) (fun q : List (List PV) × List Int × Nat × Nat × List Int × List Int × List (List PV) × Nat => (q.1 = ints (q.2.2.2.2.1 ++ q.2.1) ∧ q.2.2.2.2.1.length = q.2.2.1 ∧ q.2.1.length = q.2.2.2.1) ∧ (q.2.2.2.2.2.2.1 = ints q.2.2.2.2.2.1 ∧ q.2.2.2.2.2.2.1.length = q.2.2.2.2.2.2.2) ∧ SpI t (inP (outR t region) (besB t)) (fun x => !decide (x ∈ region)) c q.2.2.2.2.2.1 q.2.1 ∧ 26 * (25 - q.2.2.2.2.2.1.length) + q.2.1.length ≤ 700) (fun q : List (List PV) × List Int × Nat × Nat × List Int × List Int × List (List PV) × Nat => 26 * (25 - q.2.2.2.2.2.1.length) + q.2.1.length) (([[.int .i64 c]], [c], 0, 1, [], [], [], 0)) rfl rfl (fun _ => rfl) (fun _ => rfl) rfl aW ⟨⟨rfl, rfl, rfl⟩, ⟨rfl, rfl⟩, hI0, by simp⟩ (fun q hq => ?_)
  obtain ⟨rs, W, o, n, pre, O, es, m⟩ := q
  obtain ⟨⟨hrs, hpre, hWn⟩, ⟨hes, hem⟩, hI, hN⟩ := hq
  simp only at hrs hpre hWn hes hem hI hN
  dsimp only
  have hOl := hI.len
  have hme := hem.symm
  have hemO : O.length = m := by rw [← hem, hes, ints_len]
  cases W with
  | nil =>
    have hn0 : n = 0 := by simpa using hWn.symm
    subst hn0
    have e := hI.done
    repeat' (first
      | (refine zaz ?_; first | (refine za4 ?_; refine zas _ rfl ?_) | (refine zak ?_; refine zaa _ rfl ?_) | (refine zbu ?_; first | (refine zbs _ rfl rfl rfl ?_) | (refine zca aA rfl rfl ?_) | (refine zav _ rfl rfl rfl ?_)) | (refine zbb ?_; first | (refine zab aA rfl ?_) | (refine zae _ aA rfl rfl aE rfl ?_) | (refine zac _ aA rfl aZ aL ?_) | (refine zad _ aA rfl rfl aE aZ aL ?_)) | (refine zbd ?_; first | (refine zax _ aA rfl rfl aO aA ?_) | (refine zaw _ aA rfl rfl rfl rfl aO aO (by first | (rw [Nat.zero_add, Int.toNat_natCast]) | (rw [Nat.zero_add]) | rfl) ?_)) | (refine zb3 ?_; first | (refine zbn rfl aD rfl ?_) | (refine zbp rfl aD ?_) | (refine zbm rfl aD ?_) | (refine zbq rfl aD rfl ?_)) | (refine zby ?_; first | (refine zb4 rfl rfl aD ?_) | (refine zcc rfl rfl aD ?_) | (refine zcb rfl rfl ?_) | (refine zbo rfl rfl (fun h => ?_) (fun h => ?_) <;> (have h' := h; (try simp only [sx] at h')))) | (refine za9 ?_; first | (refine za8 aA rfl ?_) | (refine za6 aA rfl rfl ?_) | (refine za5 aA rfl ?_) | (refine za7 aA (evO_ok rfl) ?_) | (refine zbx _ _ aA rfl (lookM (by rfl)) rfl (lookM (by rfl)) rfl aN ⟨rfl, rfl, by decide, by decide⟩ (by first | rfl | omega | (simp; done) | (simp; omega) | fail) ⟨by first | (simp only [List.length_cons, List.length_nil]; omega) | omega | fail, by decide⟩ rfl (by first | (first | (simp only [lx, Nat.reduceAdd]; first | done | rfl) | fail) | rfl) aP ?_) | (refine zbw _ _ aA rfl rfl (lookM (by rfl)) ⟨rfl, by decide⟩ aN (by first | exact Nat.succ_pos _ | omega | (simp; done)) ⟨by first | (simp only [List.length_cons, List.length_nil]; omega) | omega | fail, by decide⟩ rfl rfl aP ?_) | (refine zbv _ aA rfl rfl (lookM (by rfl)) ⟨rfl, by decide⟩ aN ⟨by first | (simp only [List.length_cons, List.length_nil]; omega) | omega | fail, by decide⟩ rfl aP ?_) | (refine zbl _ aA rfl rfl rfl ⟨rfl, rfl, rfl, by decide, by decide⟩ (by first | rfl | (simp; done) | fail) ⟨by omega, by decide⟩ rfl aL (by first | (rw [Nat.zero_add]) | rfl) ?_)) | (refine zcn ?_; first | (refine zcj _ aA rfl rfl rfl aO (by first | assumption | rfl) ?_) | (refine zci _ _ aA rfl (lookM (by rfl)) rfl rfl rfl aO (by first | (simp only [Nat.zero_add, Int.toNat_natCast]; exact rfl) | rfl) (by first | (simp only [Nat.sub_zero, Int.toNat_natCast]; exact rfl) | rfl) ?_) | (refine zcl aA rfl rfl rfl aO rfl ?_)) | (refine zck _ aA rfl rfl rfl aO (by first | exact List.take_of_length_le aO | rfl) ?_) | (refine zal aA rfl rfl rfl ?_) | (refine zbt _ _ rfl rfl rfl rfl ?_) | (refine zar (hK _ _ (.inl rfl) ?_); clear hK K) | (refine zar (hK _ _ (.inr (by kernel_rfl)) ?_); clear hK K))
      | (refine za3 ?_; first | (refine zbk ?_) | (refine zaf (fun K hK => ?_)) | (refine zap ?_) | (refine za0 ?_) | (refine zbj ?_) | (refine za1 ?_) | (refine zbe ?_; first | (refine zat rfl aD ?_) | (refine zau rfl aD ?_) | (refine zay rfl (fun h => ?_) (fun h => ?_) <;> (have h' := h; (try simp only [sx] at h')))))
      | (refine za2 ?_) | (refine zag ?_) | (refine zaj ?_) | (refine zao ?_) | (refine zam ?_) | (refine zan ?_) | (refine zaq rfl ?_) | (refine zah ?_) | (refine zai ?_) | (refine zbi ?_))
    all_goals first
      | (exfalso; omega)
      | exact ret_list rfl (zbh (by rfl)) (by rfl) (by decide) hme (by rw [hes]; exact ints_flat _) (by rw [hes, e])
  | cons x W =>
    have hn1 : n = W.length + 1 := by simpa using hWn.symm
    rw [List.length_cons] at hN
    have hcx := (hI.que x (by simp)).1
    have hcx' := hcx
    unfold IsCell at hcx'
    have hgx : rs[o]? = some [.int .i64 x] := by
      rw [hrs]
      refine ints_at ?_
      rw [List.getElem?_append_right aO, hpre, Nat.sub_self]
      rfl
    have hrl : rs.length = o + n := by rw [hrs, ints_len, List.length_append, hpre, hWn]
    have hl2 : (ints O).length = O.length := by simp
    have hdr : rs.drop (o + 1) = ints W := by rw [hrs, show pre ++ x :: W = (pre ++ [x]) ++ W by simp, ints, List.map_append, List.drop_left' (by simp [hpre])]
    have kH1 := k_l1Has region x aO
    have kH2 := k_l1Has O x aO
    subst hes
    by_cases hx : (fun x => !decide (x ∈ region)) x = true
    · have hxr : decide (x ∈ region) = false := by simpa using hx
      rw [hxr] at kH1
      by_cases hxo : x ∈ O
      · rw [decide_eq_true hxo] at kH2
        repeat' (first
      | (refine zaz ?_; first | (refine za4 ?_; refine zas _ rfl ?_) | (refine zak ?_; refine zaa _ rfl ?_) | (refine zbu ?_; first | (refine zbs _ rfl rfl rfl ?_) | (refine zca aA rfl rfl ?_) | (refine zav _ rfl rfl rfl ?_)) | (refine zbb ?_; first | (refine zab aA rfl ?_) | (refine zae _ aA rfl rfl aE rfl ?_) | (refine zac _ aA rfl aZ aL ?_) | (refine zad _ aA rfl rfl aE aZ aL ?_)) | (refine zbd ?_; first | (refine zax _ aA rfl rfl aO aA ?_) | (refine zaw _ aA rfl rfl rfl rfl aO aO (by first | (rw [Nat.zero_add, Int.toNat_natCast]) | (rw [Nat.zero_add]) | rfl) ?_)) | (refine zb3 ?_; first | (refine zbn rfl aD rfl ?_) | (refine zbp rfl aD ?_) | (refine zbm rfl aD ?_) | (refine zbq rfl aD rfl ?_)) | (refine zby ?_; first | (refine zb4 rfl rfl aD ?_) | (refine zcc rfl rfl aD ?_) | (refine zcb rfl rfl ?_) | (refine zbo rfl rfl (fun h => ?_) (fun h => ?_) <;> (have h' := h; (try simp only [sx] at h')))) | (refine za9 ?_; first | (refine zbc true (kH1) rfl rfl rfl aS rfl aH ?_; simp only [cl]) | (refine zbc true (kH2) rfl rfl rfl aS rfl aH ?_; simp only [cl]) | (refine za8 aA rfl ?_) | (refine za6 aA rfl rfl ?_) | (refine za5 aA rfl ?_) | (refine za7 aA (evO_ok rfl) ?_) | (refine zbx _ _ aA rfl (lookM (by rfl)) rfl (lookM (by rfl)) rfl aN ⟨rfl, rfl, by decide, by decide⟩ (by first | rfl | omega | (simp; done) | (simp; omega) | fail) ⟨by first | (simp only [List.length_cons, List.length_nil]; omega) | omega | fail, by decide⟩ rfl (by first | (first | (simp only [lx, Nat.reduceAdd]; first | done | rfl) | fail) | rfl) aP ?_) | (refine zbw _ _ aA rfl rfl (lookM (by rfl)) ⟨rfl, by decide⟩ aN (by first | exact Nat.succ_pos _ | omega | (simp; done)) ⟨by first | (simp only [List.length_cons, List.length_nil]; omega) | omega | fail, by decide⟩ rfl rfl aP ?_) | (refine zbv _ aA rfl rfl (lookM (by rfl)) ⟨rfl, by decide⟩ aN ⟨by first | (simp only [List.length_cons, List.length_nil]; omega) | omega | fail, by decide⟩ rfl aP ?_) | (refine zbl _ aA rfl rfl rfl ⟨rfl, rfl, rfl, by decide, by decide⟩ (by first | rfl | (simp; done) | fail) ⟨by omega, by decide⟩ rfl aL (by first | (rw [Nat.zero_add]) | rfl) ?_)) | (refine zcn ?_; first | (refine zcj _ aA rfl rfl rfl aO (by first | assumption | rfl) ?_) | (refine zci _ _ aA rfl (lookM (by rfl)) rfl rfl rfl aO (by first | (simp only [Nat.zero_add, Int.toNat_natCast]; exact rfl) | rfl) (by first | (simp only [Nat.sub_zero, Int.toNat_natCast]; exact rfl) | rfl) ?_) | (refine zcl aA rfl rfl rfl aO rfl ?_)) | (refine zck _ aA rfl rfl rfl aO (by first | exact List.take_of_length_le aO | rfl) ?_) | (refine zal aA rfl rfl rfl ?_) | (refine zbt _ _ rfl rfl rfl rfl ?_) | (refine zar (hK _ _ (.inl rfl) ?_); clear hK K) | (refine zar (hK _ _ (.inr (by kernel_rfl)) ?_); clear hK K))
      | (refine za3 ?_; first | (refine zbk ?_) | (refine zaf (fun K hK => ?_)) | (refine zap ?_) | (refine za0 ?_) | (refine zbj ?_) | (refine za1 ?_) | (refine zbe ?_; first | (refine zat rfl aD ?_) | (refine zau rfl aD ?_) | (refine zay rfl (fun h => ?_) (fun h => ?_) <;> (have h' := h; (try simp only [sx] at h')))))
      | (refine za2 ?_) | (refine zag ?_) | (refine zaj ?_) | (refine zao ?_) | (refine zam ?_) | (refine zan ?_) | (refine zaq rfl ?_) | (refine zah ?_) | (refine zai ?_) | (refine zbi ?_))
        all_goals first
          | (exfalso; omega)
          | (exfalso; simp at *; done)
          | (refine zb6 (rs, W, o + 1, n - 1, pre ++ [x], O, ints O, m) rfl aW ⟨⟨by simp [hrs], by simp [hpre], by simp only; omega⟩, ⟨rfl, hem⟩, hI.skip hP hSc (.inr hxo), by simp only; omega⟩ (by simp only [List.length_cons]; omega))
      · rw [decide_eq_false hxo] at kH2
        obtain ⟨hpl, hpn⟩ := put_new hxo
        have kP := k_l1PutN O x aO hpn
        have kN := k_l6Sides t x hg hcx
        have hnl := sdL_len t x
        have hpush := hI.push hP (fun y => sdL_mem (t := t) (c := x) (x := y)) hx
        have hpl2 := hpush.len
        rw [hpl] at hpl2
        generalize sdL t x = N at *
        have hl3 : (ints N).length = N.length := by simp
        repeat' (first
      | (refine zaz ?_; first | (refine za4 ?_; refine zas _ rfl ?_) | (refine zak ?_; refine zaa _ rfl ?_) | (refine zbu ?_; first | (refine zbs _ rfl rfl rfl ?_) | (refine zca aA rfl rfl ?_) | (refine zav _ rfl rfl rfl ?_)) | (refine zbb ?_; first | (refine zab aA rfl ?_) | (refine zae _ aA rfl rfl aE rfl ?_) | (refine zac _ aA rfl aZ aL ?_) | (refine zad _ aA rfl rfl aE aZ aL ?_)) | (refine zbd ?_; first | (refine zax _ aA rfl rfl aO aA ?_) | (refine zaw _ aA rfl rfl rfl rfl aO aO (by first | (rw [Nat.zero_add, Int.toNat_natCast]) | (rw [Nat.zero_add]) | rfl) ?_)) | (refine zb3 ?_; first | (refine zbn rfl aD rfl ?_) | (refine zbp rfl aD ?_) | (refine zbm rfl aD ?_) | (refine zbq rfl aD rfl ?_)) | (refine zby ?_; first | (refine zb4 rfl rfl aD ?_) | (refine zcc rfl rfl aD ?_) | (refine zcb rfl rfl ?_) | (refine zbo rfl rfl (fun h => ?_) (fun h => ?_) <;> (have h' := h; (try simp only [sx] at h')))) | (refine za9 ?_; first | (refine zbc true (kH1) rfl rfl rfl aS rfl aH ?_; simp only [cl]) | (refine zbc true (kH2) rfl rfl rfl aS rfl aH ?_; simp only [cl]) | (refine zbc true (kP) rfl rfl rfl aS rfl aH ?_; simp only [cl]) | (refine zbc true (kN) rfl rfl rfl aS rfl aH ?_; simp only [cl]) | (refine za8 aA rfl ?_) | (refine za6 aA rfl rfl ?_) | (refine za5 aA rfl ?_) | (refine za7 aA (evO_ok rfl) ?_) | (refine zbx _ _ aA rfl (lookM (by rfl)) rfl (lookM (by rfl)) rfl aN ⟨rfl, rfl, by decide, by decide⟩ (by first | rfl | omega | (simp; done) | (simp; omega) | fail) ⟨by first | (simp only [List.length_cons, List.length_nil]; omega) | omega | fail, by decide⟩ rfl (by first | (first | (simp only [lx, Nat.reduceAdd]; first | done | rfl) | fail) | rfl) aP ?_) | (refine zbw _ _ aA rfl rfl (lookM (by rfl)) ⟨rfl, by decide⟩ aN (by first | exact Nat.succ_pos _ | omega | (simp; done)) ⟨by first | (simp only [List.length_cons, List.length_nil]; omega) | omega | fail, by decide⟩ rfl rfl aP ?_) | (refine zbv _ aA rfl rfl (lookM (by rfl)) ⟨rfl, by decide⟩ aN ⟨by first | (simp only [List.length_cons, List.length_nil]; omega) | omega | fail, by decide⟩ rfl aP ?_) | (refine zbl _ aA rfl rfl rfl ⟨rfl, rfl, rfl, by decide, by decide⟩ (by first | rfl | (simp; done) | fail) ⟨by omega, by decide⟩ rfl aL (by first | (rw [Nat.zero_add]) | rfl) ?_)) | (refine zcn ?_; first | (refine zcj _ aA rfl rfl rfl aO (by first | assumption | rfl) ?_) | (refine zci _ _ aA rfl (lookM (by rfl)) rfl rfl rfl aO (by first | (simp only [Nat.zero_add, Int.toNat_natCast]; exact rfl) | rfl) (by first | (simp only [Nat.sub_zero, Int.toNat_natCast]; exact rfl) | rfl) ?_) | (refine zcl aA rfl rfl rfl aO rfl ?_)) | (refine zck _ aA rfl rfl rfl aO (by first | exact List.take_of_length_le aO | rfl) ?_) | (refine zal aA rfl rfl rfl ?_) | (refine zbt _ _ rfl rfl rfl rfl ?_) | (refine zar (hK _ _ (.inl rfl) ?_); clear hK K) | (refine zar (hK _ _ (.inr (by kernel_rfl)) ?_); clear hK K))
      | (refine za3 ?_; first | (refine zbk ?_) | (refine zaf (fun K hK => ?_)) | (refine zap ?_) | (refine za0 ?_) | (refine zbj ?_) | (refine za1 ?_) | (refine zbe ?_; first | (refine zat rfl aD ?_) | (refine zau rfl aD ?_) | (refine zay rfl (fun h => ?_) (fun h => ?_) <;> (have h' := h; (try simp only [sx] at h')))))
      | (refine za2 ?_) | (refine zag ?_) | (refine zaj ?_) | (refine zao ?_) | (refine zam ?_) | (refine zan ?_) | (refine zaq rfl ?_) | (refine zah ?_) | (refine zai ?_) | (refine zbi ?_))
        all_goals try (exfalso; omega)
        all_goals try (exfalso; simp at *; done)
        all_goals (refine zb6 (rs.drop (o + 1) ++ ints N, W ++ N, 0, n - 1 + (ints N).length, [], put O x, ints (put O x), (ints (put O x)).length) rfl aW ⟨⟨?_, rfl, by simp only [List.length_append, hl3]; omega⟩, ⟨rfl, rfl⟩, hpush, by simp only [hpl, List.length_append]; omega⟩ (by simp only [hpl, List.length_append, List.length_cons]; omega))
        all_goals (simp only; rw [hdr]; simp [ints])
    · have hx : (fun x => !decide (x ∈ region)) x = false := by simpa using hx
      have hxr : decide (x ∈ region) = !false := by simpa using hx
      simp only [Bool.not_true, Bool.not_false] at hxr
      rw [hxr] at kH1
      repeat' (first
      | (refine zaz ?_; first | (refine za4 ?_; refine zas _ rfl ?_) | (refine zak ?_; refine zaa _ rfl ?_) | (refine zbu ?_; first | (refine zbs _ rfl rfl rfl ?_) | (refine zca aA rfl rfl ?_) | (refine zav _ rfl rfl rfl ?_)) | (refine zbb ?_; first | (refine zab aA rfl ?_) | (refine zae _ aA rfl rfl aE rfl ?_) | (refine zac _ aA rfl aZ aL ?_) | (refine zad _ aA rfl rfl aE aZ aL ?_)) | (refine zbd ?_; first | (refine zax _ aA rfl rfl aO aA ?_) | (refine zaw _ aA rfl rfl rfl rfl aO aO (by first | (rw [Nat.zero_add, Int.toNat_natCast]) | (rw [Nat.zero_add]) | rfl) ?_)) | (refine zb3 ?_; first | (refine zbn rfl aD rfl ?_) | (refine zbp rfl aD ?_) | (refine zbm rfl aD ?_) | (refine zbq rfl aD rfl ?_)) | (refine zby ?_; first | (refine zb4 rfl rfl aD ?_) | (refine zcc rfl rfl aD ?_) | (refine zcb rfl rfl ?_) | (refine zbo rfl rfl (fun h => ?_) (fun h => ?_) <;> (have h' := h; (try simp only [sx] at h')))) | (refine za9 ?_; first | (refine zbc true (kH1) rfl rfl rfl aS rfl aH ?_; simp only [cl]) | (refine zbc true (kH2) rfl rfl rfl aS rfl aH ?_; simp only [cl]) | (refine za8 aA rfl ?_) | (refine za6 aA rfl rfl ?_) | (refine za5 aA rfl ?_) | (refine za7 aA (evO_ok rfl) ?_) | (refine zbx _ _ aA rfl (lookM (by rfl)) rfl (lookM (by rfl)) rfl aN ⟨rfl, rfl, by decide, by decide⟩ (by first | rfl | omega | (simp; done) | (simp; omega) | fail) ⟨by first | (simp only [List.length_cons, List.length_nil]; omega) | omega | fail, by decide⟩ rfl (by first | (first | (simp only [lx, Nat.reduceAdd]; first | done | rfl) | fail) | rfl) aP ?_) | (refine zbw _ _ aA rfl rfl (lookM (by rfl)) ⟨rfl, by decide⟩ aN (by first | exact Nat.succ_pos _ | omega | (simp; done)) ⟨by first | (simp only [List.length_cons, List.length_nil]; omega) | omega | fail, by decide⟩ rfl rfl aP ?_) | (refine zbv _ aA rfl rfl (lookM (by rfl)) ⟨rfl, by decide⟩ aN ⟨by first | (simp only [List.length_cons, List.length_nil]; omega) | omega | fail, by decide⟩ rfl aP ?_) | (refine zbl _ aA rfl rfl rfl ⟨rfl, rfl, rfl, by decide, by decide⟩ (by first | rfl | (simp; done) | fail) ⟨by omega, by decide⟩ rfl aL (by first | (rw [Nat.zero_add]) | rfl) ?_)) | (refine zcn ?_; first | (refine zcj _ aA rfl rfl rfl aO (by first | assumption | rfl) ?_) | (refine zci _ _ aA rfl (lookM (by rfl)) rfl rfl rfl aO (by first | (simp only [Nat.zero_add, Int.toNat_natCast]; exact rfl) | rfl) (by first | (simp only [Nat.sub_zero, Int.toNat_natCast]; exact rfl) | rfl) ?_) | (refine zcl aA rfl rfl rfl aO rfl ?_)) | (refine zck _ aA rfl rfl rfl aO (by first | exact List.take_of_length_le aO | rfl) ?_) | (refine zal aA rfl rfl rfl ?_) | (refine zbt _ _ rfl rfl rfl rfl ?_) | (refine zar (hK _ _ (.inl rfl) ?_); clear hK K) | (refine zar (hK _ _ (.inr (by kernel_rfl)) ?_); clear hK K))
      | (refine za3 ?_; first | (refine zbk ?_) | (refine zaf (fun K hK => ?_)) | (refine zap ?_) | (refine za0 ?_) | (refine zbj ?_) | (refine za1 ?_) | (refine zbe ?_; first | (refine zat rfl aD ?_) | (refine zau rfl aD ?_) | (refine zay rfl (fun h => ?_) (fun h => ?_) <;> (have h' := h; (try simp only [sx] at h')))))
      | (refine za2 ?_) | (refine zag ?_) | (refine zaj ?_) | (refine zao ?_) | (refine zam ?_) | (refine zan ?_) | (refine zaq rfl ?_) | (refine zah ?_) | (refine zai ?_) | (refine zbi ?_))
      all_goals first
        | (exfalso; omega)
        | (exfalso; simp at *; done)
        | (refine zb6 (rs, W, o + 1, n - 1, pre ++ [x], O, ints O, m) rfl aW ⟨⟨by simp [hrs], by simp [hpre], by simp only; omega⟩, ⟨rfl, hem⟩, hI.skip hP hSc (.inl hx), by simp only; omega⟩ (by simp only [List.length_cons]; omega))
end Go.Vs
