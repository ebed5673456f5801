/- Parts of a proof: what its last text mentions. -/
import Derived.Test.YtgpnbhnndhakhaaEad
set_option linter.unusedVariables false
set_option linter.unusedSimpArgs false
set_option maxRecDepth 100000
set_option maxHeartbeats 4000000
namespace Go.Vs
open Go.Proofs
attribute [local irreducible] exec vwp thenQ blkQ loopQ RetPost
theorem k_l4Work (t : Terrain) (a c : Int) (hg : GoodT t) (ha : IsCell t a) (hc : IsCell t c) : Con Try.prog 122 [.agg t.pv, .int .i64 a, .int .i64 c] (.int .i64 (wkF t a c)) := by
  intro al
  refine za8 hmix Try.func122 rfl (by kernel_rfl) (by kernel_rfl) (Nat.le_of_ble_eq_true rfl) (fun row h => by cases h) ?_
  have hty_f26_2 := ty_f26_2
  have hty_c24 := ty_c24
  have hty_s24 := ty_s24
  have hty_c3 := ty_c3
  have hty_f26_0 := ty_f26_0
  have hl1 : (ints t.burn).length = t.burn.length := by simp
  have hw := hg.1.1
  have hx := ints_at (burn_at ha)
  have hy := ints_at (burn_at hc)
  have b1 := burn_bound hg ha
  have b2 := burn_bound hg hc
  have hca := ha
  have hcc := hc
  unfold IsCell at hca hcc
  have hlen := goodT_len hg
  by_cases h1 : a % t.width = c % t.width
  · repeat' (first
      | (refine za5 ?_; first | (refine za6 ?_; refine zat _ rfl ?_) | (refine zad ?_; refine zaa _ rfl ?_) | (refine zbv ?_; first | (refine zby rfl rfl aO ?_) | (refine zci rfl rfl aO ?_) | (refine x_quo rfl rfl aO ?_) | (refine zcp rfl rfl aO ?_) | (refine zco rfl rfl aO ?_) | (refine zcm rfl rfl aO ?_) | (refine zbu _ rfl rfl rfl ?_) | (refine zbt aA rfl rfl ?_) | (refine zaw _ rfl rfl rfl ?_)) | (refine zbf ?_; first | (refine zac aA rfl ?_) | (refine zah _ aA rfl rfl aE rfl ?_) | (refine zaf _ aA rfl aZ aL ?_) | (refine zak _ aA rfl rfl aE aZ aL ?_)) | (refine zbm ?_; first | (refine zay _ aA rfl aL ?_) | (refine zax _ aA rfl rfl (by simp only [lx, Nat.reduceAdd]; first | done | rfl) ?_)) | (refine zbe ?_; first | (refine zau _ aA rfl rfl aO aA ?_) | (refine zav _ aA rfl rfl rfl rfl aO aO (by first | (rw [Nat.zero_add, Int.toNat_natCast]) | (rw [Nat.zero_add]) | rfl) ?_)) | (refine zbw ?_; first | (refine zbl rfl aD rfl ?_) | (refine zbi rfl aD ?_) | (refine zbj rfl aD ?_) | (refine zbk rfl aD rfl ?_)) | (refine zbs ?_; first | (refine zbx rfl rfl aD ?_) | (refine zb8 rfl rfl aD ?_) | (refine zb7 rfl rfl ?_) | (refine zbh rfl rfl (fun h => ?_) (fun h => ?_) <;> (have h' := h; (try simp only [sx] at h')))) | (refine zbz _ _ rfl rfl rfl rfl ?_) | (refine zas (hK _ _ (.inl rfl) ?_); clear hK K) | (refine zas (hK _ _ (.inr (by kernel_rfl)) ?_); clear hK K))
      | (refine za3 ?_; first | (refine zbp ?_) | (refine zaj (fun K hK => ?_)) | (refine zan ?_) | (refine za4 ?_) | (refine zbq ?_) | (refine za1 ?_) | (refine zbg ?_; first | (refine zam rfl aD ?_) | (refine zal rfl aD ?_) | (refine zaz rfl (fun h => ?_) (fun h => ?_) <;> (have h' := h; (try simp only [sx] at h')))))
      | (refine za2 ?_) | (refine zai ?_) | (refine zae ?_) | (refine zaq ?_) | (refine zar ?_) | (refine zao ?_) | (refine zap rfl ?_) | (refine zab ?_) | (refine zag ?_) | (refine zbr ?_))
    all_goals first
      | (exfalso; omega)
      | (refine zcj rfl (zbn rfl) ?_
         simp only [wkF, colOf, rowOf]
         rw [if_pos (.inl h1)])
  · by_cases h2 : a / t.width = c / t.width
    · repeat' (first
      | (refine za5 ?_; first | (refine za6 ?_; refine zat _ rfl ?_) | (refine zad ?_; refine zaa _ rfl ?_) | (refine zbv ?_; first | (refine zby rfl rfl aO ?_) | (refine zci rfl rfl aO ?_) | (refine x_quo rfl rfl aO ?_) | (refine zcp rfl rfl aO ?_) | (refine zco rfl rfl aO ?_) | (refine zcm rfl rfl aO ?_) | (refine zbu _ rfl rfl rfl ?_) | (refine zbt aA rfl rfl ?_) | (refine zaw _ rfl rfl rfl ?_)) | (refine zbf ?_; first | (refine zac aA rfl ?_) | (refine zah _ aA rfl rfl aE rfl ?_) | (refine zaf _ aA rfl aZ aL ?_) | (refine zak _ aA rfl rfl aE aZ aL ?_)) | (refine zbm ?_; first | (refine zay _ aA rfl aL ?_) | (refine zax _ aA rfl rfl (by simp only [lx, Nat.reduceAdd]; first | done | rfl) ?_)) | (refine zbe ?_; first | (refine zau _ aA rfl rfl aO aA ?_) | (refine zav _ aA rfl rfl rfl rfl aO aO (by first | (rw [Nat.zero_add, Int.toNat_natCast]) | (rw [Nat.zero_add]) | rfl) ?_)) | (refine zbw ?_; first | (refine zbl rfl aD rfl ?_) | (refine zbi rfl aD ?_) | (refine zbj rfl aD ?_) | (refine zbk rfl aD rfl ?_)) | (refine zbs ?_; first | (refine zbx rfl rfl aD ?_) | (refine zb8 rfl rfl aD ?_) | (refine zb7 rfl rfl ?_) | (refine zbh rfl rfl (fun h => ?_) (fun h => ?_) <;> (have h' := h; (try simp only [sx] at h')))) | (refine zbz _ _ rfl rfl rfl rfl ?_) | (refine zas (hK _ _ (.inl rfl) ?_); clear hK K) | (refine zas (hK _ _ (.inr (by kernel_rfl)) ?_); clear hK K))
      | (refine za3 ?_; first | (refine zbp ?_) | (refine zaj (fun K hK => ?_)) | (refine zan ?_) | (refine za4 ?_) | (refine zbq ?_) | (refine za1 ?_) | (refine zbg ?_; first | (refine zam rfl aD ?_) | (refine zal rfl aD ?_) | (refine zaz rfl (fun h => ?_) (fun h => ?_) <;> (have h' := h; (try simp only [sx] at h')))))
      | (refine za2 ?_) | (refine zai ?_) | (refine zae ?_) | (refine zaq ?_) | (refine zar ?_) | (refine zao ?_) | (refine zap rfl ?_) | (refine zab ?_) | (refine zag ?_) | (refine zbr ?_))
      all_goals first
        | (exfalso; omega)
        | (refine zcj rfl (zbn rfl) ?_
           simp only [wkF, colOf, rowOf]
           rw [if_pos (.inr h2)])
    · repeat' (first
      | (refine za5 ?_; first | (refine za6 ?_; refine zat _ rfl ?_) | (refine zad ?_; refine zaa _ rfl ?_) | (refine zbv ?_; first | (refine zby rfl rfl aO ?_) | (refine zci rfl rfl aO ?_) | (refine x_quo rfl rfl aO ?_) | (refine zcp rfl rfl aO ?_) | (refine zco rfl rfl aO ?_) | (refine zcm rfl rfl aO ?_) | (refine zbu _ rfl rfl rfl ?_) | (refine zbt aA rfl rfl ?_) | (refine zaw _ rfl rfl rfl ?_)) | (refine zbf ?_; first | (refine zac aA rfl ?_) | (refine zah _ aA rfl rfl aE rfl ?_) | (refine zaf _ aA rfl aZ aL ?_) | (refine zak _ aA rfl rfl aE aZ aL ?_)) | (refine zbm ?_; first | (refine zay _ aA rfl aL ?_) | (refine zax _ aA rfl rfl (by simp only [lx, Nat.reduceAdd]; first | done | rfl) ?_)) | (refine zbe ?_; first | (refine zau _ aA rfl rfl aO aA ?_) | (refine zav _ aA rfl rfl rfl rfl aO aO (by first | (rw [Nat.zero_add, Int.toNat_natCast]) | (rw [Nat.zero_add]) | rfl) ?_)) | (refine zbw ?_; first | (refine zbl rfl aD rfl ?_) | (refine zbi rfl aD ?_) | (refine zbj rfl aD ?_) | (refine zbk rfl aD rfl ?_)) | (refine zbs ?_; first | (refine zbx rfl rfl aD ?_) | (refine zb8 rfl rfl aD ?_) | (refine zb7 rfl rfl ?_) | (refine zbh rfl rfl (fun h => ?_) (fun h => ?_) <;> (have h' := h; (try simp only [sx] at h')))) | (refine zbz _ _ rfl rfl rfl rfl ?_) | (refine zas (hK _ _ (.inl rfl) ?_); clear hK K) | (refine zas (hK _ _ (.inr (by kernel_rfl)) ?_); clear hK K))
      | (refine za3 ?_; first | (refine zbp ?_) | (refine zaj (fun K hK => ?_)) | (refine zan ?_) | (refine za4 ?_) | (refine zbq ?_) | (refine za1 ?_) | (refine zbg ?_; first | (refine zam rfl aD ?_) | (refine zal rfl aD ?_) | (refine zaz rfl (fun h => ?_) (fun h => ?_) <;> (have h' := h; (try simp only [sx] at h')))))
      | (refine za2 ?_) | (refine zai ?_) | (refine zae ?_) | (refine zaq ?_) | (refine zar ?_) | (refine zao ?_) | (refine zap rfl ?_) | (refine zab ?_) | (refine zag ?_) | (refine zbr ?_))
      all_goals first
        | (exfalso; omega)
        | (refine zcj rfl (zbn rfl) ?_
           simp only [wkF, colOf, rowOf]
           rw [if_neg aO])
theorem k_l4Arrivals (b : Blz) (hb : GoodB b) (hs : b.src.length ≤ 1099511627776) :
    Con Try.prog 63 [.agg b.t.pv, .list 2 (b.ps.map Phase.pv), .list 1 (ints b.src), .int .i64 b.st] (.olist 3 1 (ints (arr b))) := by
  intro al
  refine za8 hmix Try.func63 rfl (by kernel_rfl) (by kernel_rfl) (Nat.le_of_ble_eq_true rfl) (fun row h => by cases h) ?_
  have hty_s24 := ty_s24
  have hty_f26_2 := ty_f26_2
  have hty_c24 := ty_c24
  have hty_u24 := ty_u24
  have hty_c3 := ty_c3
  have hty_a26 := ty_a26
  have hty_u27 := ty_u27
  have hty_s27 := ty_s27
  have hty_t3 := ty_t3
  have hl1 : (ints b.t.burn).length = b.t.burn.length := by simp
  have hg := hb.1.1
  have hlen := goodT_len hg
  have hst := hb.2.2
  repeat' (first
      | (refine za5 ?_; first | (refine za6 ?_; refine zat _ rfl ?_) | (refine zad ?_; refine zaa _ rfl ?_) | (refine zbv ?_; first | (refine zby rfl rfl aO ?_) | (refine zbu _ rfl rfl rfl ?_) | (refine zbt aA rfl rfl ?_) | (refine zaw _ rfl rfl rfl ?_)) | (refine zbf ?_; first | (refine zac aA rfl ?_) | (refine zah _ aA rfl rfl aE rfl ?_) | (refine zaf _ aA rfl aZ aL ?_) | (refine zak _ aA rfl rfl aE aZ aL ?_)) | (refine zbm ?_; first | (refine zay _ aA rfl aL ?_) | (refine zax _ aA rfl rfl (by simp only [lx, Nat.reduceAdd]; first | done | rfl) ?_)) | (refine zbe ?_; first | (refine zau _ aA rfl rfl aO aA ?_) | (refine zav _ aA rfl rfl rfl rfl aO aO (by first | (rw [Nat.zero_add, Int.toNat_natCast]) | (rw [Nat.zero_add]) | rfl) ?_)) | (refine zbw ?_; first | (refine zbl rfl aD rfl ?_) | (refine zbi rfl aD ?_) | (refine zbj rfl aD ?_) | (refine zbk rfl aD rfl ?_)) | (refine zbs ?_; first | (refine zbx rfl rfl aD ?_) | (refine zb8 rfl rfl aD ?_) | (refine zb7 rfl rfl ?_) | (refine zbh rfl rfl (fun h => ?_) (fun h => ?_) <;> (have h' := h; (try simp only [sx] at h')))) | (refine zbd ?_; first | (refine za9 aA rfl ?_) | (refine zbc aA rfl rfl ?_) | (refine zba aA rfl ?_) | (refine zbb aA (evO_ok rfl) ?_) | (refine zb4 _ _ aA rfl (lookM (by rfl)) rfl (lookM (by rfl)) rfl aN ⟨rfl, rfl, by decide, by decide⟩ (by first | rfl | omega | (simp; done) | (simp; omega) | fail) ⟨by first | (simp only [List.length_cons, List.length_nil]; omega) | omega | fail, by decide⟩ rfl (by first | (first | (simp only [lx, Nat.reduceAdd]; first | done | rfl) | fail) | rfl) aP ?_) | (refine zb3 _ _ aA rfl rfl (lookM (by rfl)) ⟨rfl, by decide⟩ aN (by first | exact Nat.succ_pos _ | omega | (simp; done)) ⟨by first | (simp only [List.length_cons, List.length_nil]; omega) | omega | fail, by decide⟩ rfl rfl aP ?_) | (refine zb5 _ aA rfl rfl (lookM (by rfl)) ⟨rfl, by decide⟩ aN ⟨by first | (simp only [List.length_cons, List.length_nil]; omega) | omega | fail, by decide⟩ rfl aP ?_) | (refine zb0 _ aA rfl rfl rfl ⟨rfl, rfl, rfl, by decide, by decide⟩ (by first | rfl | (simp; done) | fail) ⟨by omega, by decide⟩ rfl aL (by first | (rw [Nat.zero_add]) | rfl) ?_)) | (refine za7 aA rfl rfl rfl ?_) | (refine zbz _ _ rfl rfl rfl rfl ?_) | (refine zbo _ _ _ rfl rfl aE (by first | assumption | (exact TAgg.size aA)) rfl rfl rfl aZ rfl aL (by first | (first | (simp only [lx, Nat.reduceAdd]; first | done | rfl) | fail) | rfl) ?_) | (refine zas (hK _ _ (.inl rfl) ?_); clear hK K) | (refine zas (hK _ _ (.inr (by kernel_rfl)) ?_); clear hK K))
      | (refine za3 ?_; first | (refine zbp ?_) | (refine zaj (fun K hK => ?_)) | (refine zan ?_) | (refine za4 ?_) | (refine zbq ?_) | (refine za1 ?_) | (refine zbg ?_; first | (refine zam rfl aD ?_) | (refine zal rfl aD ?_) | (refine zaz rfl (fun h => ?_) (fun h => ?_) <;> (have h' := h; (try simp only [sx] at h')))))
      | (refine za2 ?_) | (refine zai ?_) | (refine zae ?_) | (refine zaq ?_) | (refine zar ?_) | (refine zao ?_) | (refine zap rfl ?_) | (refine zab ?_) | (refine zag ?_) | (refine zbr ?_))
  refine zcd [1, 2, 3, 4] [] (fun q : Nat × List (List PV) => [(9, .osl (1001, 0) 0 q.1), (10, .int .i64 q.1)]) (fun q : Nat × List (List PV) => [((1001, 0), some ⟨3, 1, q.2, false⟩)]) (fun q : Nat × List (List PV) => q.1 ≤ b.t.burn.length ∧ q.2 = ints ((iniL b).take q.1)) (fun q : Nat × List (List PV) => b.t.burn.length - q.1) ((0, [])) rfl rfl (fun _ => rfl) (fun _ => rfl) rfl aW ⟨by simp, by simp⟩ (fun q hq => ?_)
  obtain ⟨i, es⟩ := q
  obtain ⟨hi1, hi2⟩ := hq
  simp only at hi1 hi2
  have hl : es.length = i := by rw [hi2, ints_len, List.length_take, iniL_len]; omega
  dsimp only
  rcases Nat.lt_or_ge i b.t.burn.length with hlt | hge
  · have hci : IsCell b.t (i : Int) := ⟨by omega, by omega⟩
    have hx := ints_at (burn_at hci)
    have hat : (iniL b)[i]? = some (iniV b i) := by simp [iniL, hlt]
    by_cases hc : 0 < burnAt b.t i ∧ (i : Int) ∈ b.src
    · obtain ⟨hc1, hc2⟩ := hc
      have eV : iniV b i = b.st := by rw [iniV, if_pos ⟨hc1, hc2⟩]
      repeat' (first
      | (refine za5 ?_; first | (refine za6 ?_; refine zat _ rfl ?_) | (refine zad ?_; refine zaa _ rfl ?_) | (refine zbv ?_; first | (refine zby rfl rfl aO ?_) | (refine zbu _ rfl rfl rfl ?_) | (refine zbt aA rfl rfl ?_) | (refine zaw _ rfl rfl rfl ?_)) | (refine zbf ?_; first | (refine zac aA rfl ?_) | (refine zah _ aA rfl rfl aE rfl ?_) | (refine zaf _ aA rfl aZ aL ?_) | (refine zak _ aA rfl rfl aE aZ aL ?_)) | (refine zbm ?_; first | (refine zay _ aA rfl aL ?_) | (refine zax _ aA rfl rfl (by simp only [lx, Nat.reduceAdd]; first | done | rfl) ?_)) | (refine zbe ?_; first | (refine zau _ aA rfl rfl aO aA ?_) | (refine zav _ aA rfl rfl rfl rfl aO aO (by first | (rw [Nat.zero_add, Int.toNat_natCast]) | (rw [Nat.zero_add]) | rfl) ?_)) | (refine zbw ?_; first | (refine zbl rfl aD rfl ?_) | (refine zbi rfl aD ?_) | (refine zbj rfl aD ?_) | (refine zbk rfl aD rfl ?_)) | (refine zbs ?_; first | (refine zbx rfl rfl aD ?_) | (refine zb8 rfl rfl aD ?_) | (refine zb7 rfl rfl ?_) | (refine zbh rfl rfl (fun h => ?_) (fun h => ?_) <;> (have h' := h; (try simp only [sx] at h')))) | (refine zbd ?_; first | (refine za0 true (k_l1Has b.src i hs) rfl rfl rfl aS rfl aH ?_; simp only [cl]) | (refine za9 aA rfl ?_) | (refine zbc aA rfl rfl ?_) | (refine zba aA rfl ?_) | (refine zbb aA (evO_ok rfl) ?_) | (refine zb4 _ _ aA rfl (lookM (by rfl)) rfl (lookM (by rfl)) rfl aN ⟨rfl, rfl, by decide, by decide⟩ (by first | rfl | omega | (simp; done) | (simp; omega) | fail) ⟨by first | (simp only [List.length_cons, List.length_nil]; omega) | omega | fail, by decide⟩ rfl (by first | (first | (simp only [lx, Nat.reduceAdd]; first | done | rfl) | fail) | rfl) aP ?_) | (refine zb3 _ _ aA rfl rfl (lookM (by rfl)) ⟨rfl, by decide⟩ aN (by first | exact Nat.succ_pos _ | omega | (simp; done)) ⟨by first | (simp only [List.length_cons, List.length_nil]; omega) | omega | fail, by decide⟩ rfl rfl aP ?_) | (refine zb5 _ aA rfl rfl (lookM (by rfl)) ⟨rfl, by decide⟩ aN ⟨by first | (simp only [List.length_cons, List.length_nil]; omega) | omega | fail, by decide⟩ rfl aP ?_) | (refine zb0 _ aA rfl rfl rfl ⟨rfl, rfl, rfl, by decide, by decide⟩ (by first | rfl | (simp; done) | fail) ⟨by omega, by decide⟩ rfl aL (by first | (rw [Nat.zero_add]) | rfl) ?_)) | (refine za7 aA rfl rfl rfl ?_) | (refine zbz _ _ rfl rfl rfl rfl ?_) | (refine zbo _ _ _ rfl rfl aE (by first | assumption | (exact TAgg.size aA)) rfl rfl rfl aZ rfl aL (by first | (first | (simp only [lx, Nat.reduceAdd]; first | done | rfl) | fail) | rfl) ?_) | (refine zas (hK _ _ (.inl rfl) ?_); clear hK K) | (refine zas (hK _ _ (.inr (by kernel_rfl)) ?_); clear hK K))
      | (refine za3 ?_; first | (refine zbp ?_) | (refine zaj (fun K hK => ?_)) | (refine zan ?_) | (refine za4 ?_) | (refine zbq ?_) | (refine za1 ?_) | (refine zbg ?_; first | (refine zam rfl aD ?_) | (refine zal rfl aD ?_) | (refine zaz rfl (fun h => ?_) (fun h => ?_) <;> (have h' := h; (try simp only [sx] at h')))))
      | (refine za2 ?_) | (refine zai ?_) | (refine zae ?_) | (refine zaq ?_) | (refine zar ?_) | (refine zao ?_) | (refine zap rfl ?_) | (refine zab ?_) | (refine zag ?_) | (refine zbr ?_))
      all_goals first
        | (exfalso; first | omega | exact absurd hc2 aA)
        | (refine zcb (i + 1, es ++ [[.int .i64 b.st]]) rfl aW ⟨by simp only; omega, ?_⟩ (by simp only; omega)
           simp only [take_succ hat, ints_snoc, hi2, eV])
    · have eV : iniV b i = -1 := by rw [iniV, if_neg hc]
      repeat' (first
      | (refine za5 ?_; first | (refine za6 ?_; refine zat _ rfl ?_) | (refine zad ?_; refine zaa _ rfl ?_) | (refine zbv ?_; first | (refine zby rfl rfl aO ?_) | (refine zbu _ rfl rfl rfl ?_) | (refine zbt aA rfl rfl ?_) | (refine zaw _ rfl rfl rfl ?_)) | (refine zbf ?_; first | (refine zac aA rfl ?_) | (refine zah _ aA rfl rfl aE rfl ?_) | (refine zaf _ aA rfl aZ aL ?_) | (refine zak _ aA rfl rfl aE aZ aL ?_)) | (refine zbm ?_; first | (refine zay _ aA rfl aL ?_) | (refine zax _ aA rfl rfl (by simp only [lx, Nat.reduceAdd]; first | done | rfl) ?_)) | (refine zbe ?_; first | (refine zau _ aA rfl rfl aO aA ?_) | (refine zav _ aA rfl rfl rfl rfl aO aO (by first | (rw [Nat.zero_add, Int.toNat_natCast]) | (rw [Nat.zero_add]) | rfl) ?_)) | (refine zbw ?_; first | (refine zbl rfl aD rfl ?_) | (refine zbi rfl aD ?_) | (refine zbj rfl aD ?_) | (refine zbk rfl aD rfl ?_)) | (refine zbs ?_; first | (refine zbx rfl rfl aD ?_) | (refine zb8 rfl rfl aD ?_) | (refine zb7 rfl rfl ?_) | (refine zbh rfl rfl (fun h => ?_) (fun h => ?_) <;> (have h' := h; (try simp only [sx] at h')))) | (refine zbd ?_; first | (refine za0 true (k_l1Has b.src i hs) rfl rfl rfl aS rfl aH ?_; simp only [cl]) | (refine za9 aA rfl ?_) | (refine zbc aA rfl rfl ?_) | (refine zba aA rfl ?_) | (refine zbb aA (evO_ok rfl) ?_) | (refine zb4 _ _ aA rfl (lookM (by rfl)) rfl (lookM (by rfl)) rfl aN ⟨rfl, rfl, by decide, by decide⟩ (by first | rfl | omega | (simp; done) | (simp; omega) | fail) ⟨by first | (simp only [List.length_cons, List.length_nil]; omega) | omega | fail, by decide⟩ rfl (by first | (first | (simp only [lx, Nat.reduceAdd]; first | done | rfl) | fail) | rfl) aP ?_) | (refine zb3 _ _ aA rfl rfl (lookM (by rfl)) ⟨rfl, by decide⟩ aN (by first | exact Nat.succ_pos _ | omega | (simp; done)) ⟨by first | (simp only [List.length_cons, List.length_nil]; omega) | omega | fail, by decide⟩ rfl rfl aP ?_) | (refine zb5 _ aA rfl rfl (lookM (by rfl)) ⟨rfl, by decide⟩ aN ⟨by first | (simp only [List.length_cons, List.length_nil]; omega) | omega | fail, by decide⟩ rfl aP ?_) | (refine zb0 _ aA rfl rfl rfl ⟨rfl, rfl, rfl, by decide, by decide⟩ (by first | rfl | (simp; done) | fail) ⟨by omega, by decide⟩ rfl aL (by first | (rw [Nat.zero_add]) | rfl) ?_)) | (refine za7 aA rfl rfl rfl ?_) | (refine zbz _ _ rfl rfl rfl rfl ?_) | (refine zbo _ _ _ rfl rfl aE (by first | assumption | (exact TAgg.size aA)) rfl rfl rfl aZ rfl aL (by first | (first | (simp only [lx, Nat.reduceAdd]; first | done | rfl) | fail) | rfl) ?_) | (refine zas (hK _ _ (.inl rfl) ?_); clear hK K) | (refine zas (hK _ _ (.inr (by kernel_rfl)) ?_); clear hK K))
      | (refine za3 ?_; first | (refine zbp ?_) | (refine zaj (fun K hK => ?_)) | (refine zan ?_) | (refine za4 ?_) | (refine zbq ?_) | (refine za1 ?_) | (refine zbg ?_; first | (refine zam rfl aD ?_) | (refine zal rfl aD ?_) | (refine zaz rfl (fun h => ?_) (fun h => ?_) <;> (have h' := h; (try simp only [sx] at h')))))
      | (refine za2 ?_) | (refine zai ?_) | (refine zae ?_) | (refine zaq ?_) | (refine zar ?_) | (refine zao ?_) | (refine zap rfl ?_) | (refine zab ?_) | (refine zag ?_) | (refine zbr ?_))
      all_goals first
        | (exfalso; exact hc ⟨by assumption, by assumption⟩)
        | (refine zcb (i + 1, es ++ [[.int .i64 (-1)]]) rfl aW ⟨by simp only; omega, ?_⟩ (by simp only; omega)
           simp only [take_succ hat, ints_snoc, hi2, eV])
  have hi3 : i = b.t.burn.length := by omega
  subst hi3
  rw [take_all (by rw [iniL_len]; exact Nat.le_refl _)] at hi2
  subst hi2
  repeat' (first
      | (refine za5 ?_; first | (refine za6 ?_; refine zat _ rfl ?_) | (refine zad ?_; refine zaa _ rfl ?_) | (refine zbv ?_; first | (refine zby rfl rfl aO ?_) | (refine zbu _ rfl rfl rfl ?_) | (refine zbt aA rfl rfl ?_) | (refine zaw _ rfl rfl rfl ?_)) | (refine zbf ?_; first | (refine zac aA rfl ?_) | (refine zah _ aA rfl rfl aE rfl ?_) | (refine zaf _ aA rfl aZ aL ?_) | (refine zak _ aA rfl rfl aE aZ aL ?_)) | (refine zbm ?_; first | (refine zay _ aA rfl aL ?_) | (refine zax _ aA rfl rfl (by simp only [lx, Nat.reduceAdd]; first | done | rfl) ?_)) | (refine zbe ?_; first | (refine zau _ aA rfl rfl aO aA ?_) | (refine zav _ aA rfl rfl rfl rfl aO aO (by first | (rw [Nat.zero_add, Int.toNat_natCast]) | (rw [Nat.zero_add]) | rfl) ?_)) | (refine zbw ?_; first | (refine zbl rfl aD rfl ?_) | (refine zbi rfl aD ?_) | (refine zbj rfl aD ?_) | (refine zbk rfl aD rfl ?_)) | (refine zbs ?_; first | (refine zbx rfl rfl aD ?_) | (refine zb8 rfl rfl aD ?_) | (refine zb7 rfl rfl ?_) | (refine zbh rfl rfl (fun h => ?_) (fun h => ?_) <;> (have h' := h; (try simp only [sx] at h')))) | (refine zbd ?_; first | (refine za9 aA rfl ?_) | (refine zbc aA rfl rfl ?_) | (refine zba aA rfl ?_) | (refine zbb aA (evO_ok rfl) ?_) | (refine zb4 _ _ aA rfl (lookM (by rfl)) rfl (lookM (by rfl)) rfl aN ⟨rfl, rfl, by decide, by decide⟩ (by first | rfl | omega | (simp; done) | (simp; omega) | fail) ⟨by first | (simp only [List.length_cons, List.length_nil]; omega) | omega | fail, by decide⟩ rfl (by first | (first | (simp only [lx, Nat.reduceAdd]; first | done | rfl) | fail) | rfl) aP ?_) | (refine zb3 _ _ aA rfl rfl (lookM (by rfl)) ⟨rfl, by decide⟩ aN (by first | exact Nat.succ_pos _ | omega | (simp; done)) ⟨by first | (simp only [List.length_cons, List.length_nil]; omega) | omega | fail, by decide⟩ rfl rfl aP ?_) | (refine zb5 _ aA rfl rfl (lookM (by rfl)) ⟨rfl, by decide⟩ aN ⟨by first | (simp only [List.length_cons, List.length_nil]; omega) | omega | fail, by decide⟩ rfl aP ?_) | (refine zb0 _ aA rfl rfl rfl ⟨rfl, rfl, rfl, by decide, by decide⟩ (by first | rfl | (simp; done) | fail) ⟨by omega, by decide⟩ rfl aL (by first | (rw [Nat.zero_add]) | rfl) ?_)) | (refine za7 aA rfl rfl rfl ?_) | (refine zbz _ _ rfl rfl rfl rfl ?_) | (refine zbo _ _ _ rfl rfl aE (by first | assumption | (exact TAgg.size aA)) rfl rfl rfl aZ rfl aL (by first | (first | (simp only [lx, Nat.reduceAdd]; first | done | rfl) | fail) | rfl) ?_) | (refine zas (hK _ _ (.inl rfl) ?_); clear hK K) | (refine zas (hK _ _ (.inr (by kernel_rfl)) ?_); clear hK K))
      | (refine za3 ?_; first | (refine zbp ?_) | (refine zaj (fun K hK => ?_)) | (refine zan ?_) | (refine za4 ?_) | (refine zbq ?_) | (refine za1 ?_) | (refine zbg ?_; first | (refine zam rfl aD ?_) | (refine zal rfl aD ?_) | (refine zaz rfl (fun h => ?_) (fun h => ?_) <;> (have h' := h; (try simp only [sx] at h')))))
      | (refine za2 ?_) | (refine zai ?_) | (refine zae ?_) | (refine zaq ?_) | (refine zar ?_) | (refine zao ?_) | (refine zap rfl ?_) | (refine zab ?_) | (refine zag ?_) | (refine zbr ?_))
  refine zcd [1, 4] [] (fun q : List (List PV) × List Int × Bool => [(9, .osl (1001, 0) 0 b.t.burn.length), (11, .bool q.2.2)]) (fun q : List (List PV) × List Int × Bool => [((1001, 0), some ⟨3, 1, q.1, false⟩)]) (fun q : List (List PV) × List Int × Bool => q.1 = ints q.2.1 ∧ Mid b q.2.1 ∧ (q.2.2 = false → ∀ a, IsCell b.t a → Clsd b q.2.1 a)) (fun q : List (List PV) × List Int × Bool => (if q.2.2 = true then valF q.2.1 + 1 else 0).toNat) ((ints (iniL b), iniL b, true)) rfl rfl (fun _ => rfl) (fun _ => rfl) rfl aW ⟨rfl, ini_mid hb, fun h => by cases h⟩ (fun q hq => ?_)
  obtain ⟨es, T, again⟩ := q
  obtain ⟨hq1, hq2, hq3⟩ := hq
  simp only at hq1 hq2 hq3
  have hle : es.length = b.t.burn.length := by rw [hq1, ints_len, hq2.pre.len]
  dsimp only
  cases again
  · repeat' (first
      | (refine za5 ?_; first | (refine za6 ?_; refine zat _ rfl ?_) | (refine zad ?_; refine zaa _ rfl ?_) | (refine zbv ?_; first | (refine zby rfl rfl aO ?_) | (refine zbu _ rfl rfl rfl ?_) | (refine zbt aA rfl rfl ?_) | (refine zaw _ rfl rfl rfl ?_)) | (refine zbf ?_; first | (refine zac aA rfl ?_) | (refine zah _ aA rfl rfl aE rfl ?_) | (refine zaf _ aA rfl aZ aL ?_) | (refine zak _ aA rfl rfl aE aZ aL ?_)) | (refine zbm ?_; first | (refine zay _ aA rfl aL ?_) | (refine zax _ aA rfl rfl (by simp only [lx, Nat.reduceAdd]; first | done | rfl) ?_)) | (refine zbe ?_; first | (refine zau _ aA rfl rfl aO aA ?_) | (refine zav _ aA rfl rfl rfl rfl aO aO (by first | (rw [Nat.zero_add, Int.toNat_natCast]) | (rw [Nat.zero_add]) | rfl) ?_)) | (refine zbw ?_; first | (refine zbl rfl aD rfl ?_) | (refine zbi rfl aD ?_) | (refine zbj rfl aD ?_) | (refine zbk rfl aD rfl ?_)) | (refine zbs ?_; first | (refine zbx rfl rfl aD ?_) | (refine zb8 rfl rfl aD ?_) | (refine zb7 rfl rfl ?_) | (refine zbh rfl rfl (fun h => ?_) (fun h => ?_) <;> (have h' := h; (try simp only [sx] at h')))) | (refine zbd ?_; first | (refine za9 aA rfl ?_) | (refine zbc aA rfl rfl ?_) | (refine zba aA rfl ?_) | (refine zbb aA (evO_ok rfl) ?_) | (refine zb4 _ _ aA rfl (lookM (by rfl)) rfl (lookM (by rfl)) rfl aN ⟨rfl, rfl, by decide, by decide⟩ (by first | rfl | omega | (simp; done) | (simp; omega) | fail) ⟨by first | (simp only [List.length_cons, List.length_nil]; omega) | omega | fail, by decide⟩ rfl (by first | (first | (simp only [lx, Nat.reduceAdd]; first | done | rfl) | fail) | rfl) aP ?_) | (refine zb3 _ _ aA rfl rfl (lookM (by rfl)) ⟨rfl, by decide⟩ aN (by first | exact Nat.succ_pos _ | omega | (simp; done)) ⟨by first | (simp only [List.length_cons, List.length_nil]; omega) | omega | fail, by decide⟩ rfl rfl aP ?_) | (refine zb5 _ aA rfl rfl (lookM (by rfl)) ⟨rfl, by decide⟩ aN ⟨by first | (simp only [List.length_cons, List.length_nil]; omega) | omega | fail, by decide⟩ rfl aP ?_) | (refine zb0 _ aA rfl rfl rfl ⟨rfl, rfl, rfl, by decide, by decide⟩ (by first | rfl | (simp; done) | fail) ⟨by omega, by decide⟩ rfl aL (by first | (rw [Nat.zero_add]) | rfl) ?_)) | (refine za7 aA rfl rfl rfl ?_) | (refine zbz _ _ rfl rfl rfl rfl ?_) | (refine zbo _ _ _ rfl rfl aE (by first | assumption | (exact TAgg.size aA)) rfl rfl rfl aZ rfl aL (by first | (first | (simp only [lx, Nat.reduceAdd]; first | done | rfl) | fail) | rfl) ?_) | (refine zas (hK _ _ (.inl rfl) ?_); clear hK K) | (refine zas (hK _ _ (.inr (by kernel_rfl)) ?_); clear hK K))
      | (refine za3 ?_; first | (refine zbp ?_) | (refine zaj (fun K hK => ?_)) | (refine zan ?_) | (refine za4 ?_) | (refine zbq ?_) | (refine za1 ?_) | (refine zbg ?_; first | (refine zam rfl aD ?_) | (refine zal rfl aD ?_) | (refine zaz rfl (fun h => ?_) (fun h => ?_) <;> (have h' := h; (try simp only [sx] at h')))))
      | (refine za2 ?_) | (refine zai ?_) | (refine zae ?_) | (refine zaq ?_) | (refine zar ?_) | (refine zao ?_) | (refine zap rfl ?_) | (refine zab ?_) | (refine zag ?_) | (refine zbr ?_))
    have : T = arr b := arr_eq hb ⟨hq2.pre, hq3 rfl⟩
    exact zcn rfl (zbn (by rfl)) (by rfl) (by decide) hle.symm (by rw [hq1]; exact ints_flat _) (by rw [hq1, this])
  · have hvT := hq2.val hb
    repeat' (first
      | (refine za5 ?_; first | (refine za6 ?_; refine zat _ rfl ?_) | (refine zad ?_; refine zaa _ rfl ?_) | (refine zbv ?_; first | (refine zby rfl rfl aO ?_) | (refine zbu _ rfl rfl rfl ?_) | (refine zbt aA rfl rfl ?_) | (refine zaw _ rfl rfl rfl ?_)) | (refine zbf ?_; first | (refine zac aA rfl ?_) | (refine zah _ aA rfl rfl aE rfl ?_) | (refine zaf _ aA rfl aZ aL ?_) | (refine zak _ aA rfl rfl aE aZ aL ?_)) | (refine zbm ?_; first | (refine zay _ aA rfl aL ?_) | (refine zax _ aA rfl rfl (by simp only [lx, Nat.reduceAdd]; first | done | rfl) ?_)) | (refine zbe ?_; first | (refine zau _ aA rfl rfl aO aA ?_) | (refine zav _ aA rfl rfl rfl rfl aO aO (by first | (rw [Nat.zero_add, Int.toNat_natCast]) | (rw [Nat.zero_add]) | rfl) ?_)) | (refine zbw ?_; first | (refine zbl rfl aD rfl ?_) | (refine zbi rfl aD ?_) | (refine zbj rfl aD ?_) | (refine zbk rfl aD rfl ?_)) | (refine zbs ?_; first | (refine zbx rfl rfl aD ?_) | (refine zb8 rfl rfl aD ?_) | (refine zb7 rfl rfl ?_) | (refine zbh rfl rfl (fun h => ?_) (fun h => ?_) <;> (have h' := h; (try simp only [sx] at h')))) | (refine zbd ?_; first | (refine za9 aA rfl ?_) | (refine zbc aA rfl rfl ?_) | (refine zba aA rfl ?_) | (refine zbb aA (evO_ok rfl) ?_) | (refine zb4 _ _ aA rfl (lookM (by rfl)) rfl (lookM (by rfl)) rfl aN ⟨rfl, rfl, by decide, by decide⟩ (by first | rfl | omega | (simp; done) | (simp; omega) | fail) ⟨by first | (simp only [List.length_cons, List.length_nil]; omega) | omega | fail, by decide⟩ rfl (by first | (first | (simp only [lx, Nat.reduceAdd]; first | done | rfl) | fail) | rfl) aP ?_) | (refine zb3 _ _ aA rfl rfl (lookM (by rfl)) ⟨rfl, by decide⟩ aN (by first | exact Nat.succ_pos _ | omega | (simp; done)) ⟨by first | (simp only [List.length_cons, List.length_nil]; omega) | omega | fail, by decide⟩ rfl rfl aP ?_) | (refine zb5 _ aA rfl rfl (lookM (by rfl)) ⟨rfl, by decide⟩ aN ⟨by first | (simp only [List.length_cons, List.length_nil]; omega) | omega | fail, by decide⟩ rfl aP ?_) | (refine zb0 _ aA rfl rfl rfl ⟨rfl, rfl, rfl, by decide, by decide⟩ (by first | rfl | (simp; done) | fail) ⟨by omega, by decide⟩ rfl aL (by first | (rw [Nat.zero_add]) | rfl) ?_)) | (refine za7 aA rfl rfl rfl ?_) | (refine zbz _ _ rfl rfl rfl rfl ?_) | (refine zbo _ _ _ rfl rfl aE (by first | assumption | (exact TAgg.size aA)) rfl rfl rfl aZ rfl aL (by first | (first | (simp only [lx, Nat.reduceAdd]; first | done | rfl) | fail) | rfl) ?_) | (refine zas (hK _ _ (.inl rfl) ?_); clear hK K) | (refine zas (hK _ _ (.inr (by kernel_rfl)) ?_); clear hK K))
      | (refine za3 ?_; first | (refine zbp ?_) | (refine zaj (fun K hK => ?_)) | (refine zan ?_) | (refine za4 ?_) | (refine zbq ?_) | (refine za1 ?_) | (refine zbg ?_; first | (refine zam rfl aD ?_) | (refine zal rfl aD ?_) | (refine zaz rfl (fun h => ?_) (fun h => ?_) <;> (have h' := h; (try simp only [sx] at h')))))
      | (refine za2 ?_) | (refine zai ?_) | (refine zae ?_) | (refine zaq ?_) | (refine zar ?_) | (refine zao ?_) | (refine zap rfl ?_) | (refine zab ?_) | (refine zag ?_) | (refine zbr ?_))
    refine zcd [1, 4] [] (fun r : Nat × List (List PV) × List Int × Bool => [(9, .osl (1001, 0) 0 b.t.burn.length), (11, .bool r.2.2.2), (12, .int .i64 r.1)]) (fun r : Nat × List (List PV) × List Int × Bool => [((1001, 0), some ⟨3, 1, r.2.1, false⟩)]) (fun r : Nat × List (List PV) × List Int × Bool => r.1 ≤ b.t.burn.length ∧ r.2.1 = ints r.2.2.1 ∧ Mid b r.2.2.1 ∧ (r.2.2.2 = false → r.2.2.1 = T ∧ ∀ a : Nat, a < r.1 → Clsd b T a) ∧ (r.2.2.2 = true → valF r.2.2.1 < valF T)) (fun r : Nat × List (List PV) × List Int × Bool => b.t.burn.length - r.1) ((0, es, T, false)) rfl rfl (fun _ => rfl) (fun _ => rfl) rfl aW ⟨by simp, hq1, hq2, fun _ => ⟨rfl, fun a h => by simp at h⟩, fun h => by cases h⟩ (fun r hr => ?_)
    obtain ⟨a, fs, U, ag⟩ := r
    obtain ⟨hr1, hr2, hr3, hr4, hr5⟩ := hr
    simp only at hr1 hr2 hr3 hr4 hr5
    have hlf : fs.length = b.t.burn.length := by rw [hr2, ints_len, hr3.pre.len]
    dsimp only
    rcases Nat.lt_or_ge a b.t.burn.length with hlt | hge
    · have hca : IsCell b.t (a : Int) := ⟨by omega, by omega⟩
      have hfa : fs[a]? = some [.int .i64 (tv U a)] := by rw [hr2]; exact tv_nat (by rw [hr3.pre.len]; exact hlt)
      by_cases hu : tv U a = -1
      · repeat' (first
      | (refine za5 ?_; first | (refine za6 ?_; refine zat _ rfl ?_) | (refine zad ?_; refine zaa _ rfl ?_) | (refine zbv ?_; first | (refine zby rfl rfl aO ?_) | (refine zbu _ rfl rfl rfl ?_) | (refine zbt aA rfl rfl ?_) | (refine zaw _ rfl rfl rfl ?_)) | (refine zbf ?_; first | (refine zac aA rfl ?_) | (refine zah _ aA rfl rfl aE rfl ?_) | (refine zaf _ aA rfl aZ aL ?_) | (refine zak _ aA rfl rfl aE aZ aL ?_)) | (refine zbm ?_; first | (refine zay _ aA rfl aL ?_) | (refine zax _ aA rfl rfl (by simp only [lx, Nat.reduceAdd]; first | done | rfl) ?_)) | (refine zbe ?_; first | (refine zau _ aA rfl rfl aO aA ?_) | (refine zav _ aA rfl rfl rfl rfl aO aO (by first | (rw [Nat.zero_add, Int.toNat_natCast]) | (rw [Nat.zero_add]) | rfl) ?_)) | (refine zbw ?_; first | (refine zbl rfl aD rfl ?_) | (refine zbi rfl aD ?_) | (refine zbj rfl aD ?_) | (refine zbk rfl aD rfl ?_)) | (refine zbs ?_; first | (refine zbx rfl rfl aD ?_) | (refine zb8 rfl rfl aD ?_) | (refine zb7 rfl rfl ?_) | (refine zbh rfl rfl (fun h => ?_) (fun h => ?_) <;> (have h' := h; (try simp only [sx] at h')))) | (refine zbd ?_; first | (refine za9 aA rfl ?_) | (refine zbc aA rfl rfl ?_) | (refine zba aA rfl ?_) | (refine zbb aA (evO_ok rfl) ?_) | (refine zb4 _ _ aA rfl (lookM (by rfl)) rfl (lookM (by rfl)) rfl aN ⟨rfl, rfl, by decide, by decide⟩ (by first | rfl | omega | (simp; done) | (simp; omega) | fail) ⟨by first | (simp only [List.length_cons, List.length_nil]; omega) | omega | fail, by decide⟩ rfl (by first | (first | (simp only [lx, Nat.reduceAdd]; first | done | rfl) | fail) | rfl) aP ?_) | (refine zb3 _ _ aA rfl rfl (lookM (by rfl)) ⟨rfl, by decide⟩ aN (by first | exact Nat.succ_pos _ | omega | (simp; done)) ⟨by first | (simp only [List.length_cons, List.length_nil]; omega) | omega | fail, by decide⟩ rfl rfl aP ?_) | (refine zb5 _ aA rfl rfl (lookM (by rfl)) ⟨rfl, by decide⟩ aN ⟨by first | (simp only [List.length_cons, List.length_nil]; omega) | omega | fail, by decide⟩ rfl aP ?_) | (refine zb0 _ aA rfl rfl rfl ⟨rfl, rfl, rfl, by decide, by decide⟩ (by first | rfl | (simp; done) | fail) ⟨by omega, by decide⟩ rfl aL (by first | (rw [Nat.zero_add]) | rfl) ?_)) | (refine za7 aA rfl rfl rfl ?_) | (refine zbz _ _ rfl rfl rfl rfl ?_) | (refine zbo _ _ _ rfl rfl aE (by first | assumption | (exact TAgg.size aA)) rfl rfl rfl aZ rfl aL (by first | (first | (simp only [lx, Nat.reduceAdd]; first | done | rfl) | fail) | rfl) ?_) | (refine zas (hK _ _ (.inl rfl) ?_); clear hK K) | (refine zas (hK _ _ (.inr (by kernel_rfl)) ?_); clear hK K))
      | (refine za3 ?_; first | (refine zbp ?_) | (refine zaj (fun K hK => ?_)) | (refine zan ?_) | (refine za4 ?_) | (refine zbq ?_) | (refine za1 ?_) | (refine zbg ?_; first | (refine zam rfl aD ?_) | (refine zal rfl aD ?_) | (refine zaz rfl (fun h => ?_) (fun h => ?_) <;> (have h' := h; (try simp only [sx] at h')))))
      | (refine za2 ?_) | (refine zai ?_) | (refine zae ?_) | (refine zaq ?_) | (refine zar ?_) | (refine zao ?_) | (refine zap rfl ?_) | (refine zab ?_) | (refine zag ?_) | (refine zbr ?_))
        all_goals try (exfalso; omega)
        refine zcb (a + 1, fs, U, ag) rfl aW ⟨by simp only; omega, hr2, hr3, fun h => ⟨(hr4 h).1, fun a' ha' => ?_⟩, hr5⟩ (by simp only; omega)
        simp only at ha'
        rcases Nat.lt_or_ge a' a with h1 | h1
        · exact (hr4 h).2 a' h1
        · have : a' = a := by omega
          subst this
          intro hne
          rw [← (hr4 h).1] at hne
          exact absurd hu hne
      · have ln : (ints (nears b.t a)).length = (nears b.t a).length := by simp
        have hnl := nears_len b.t a
        repeat' (first
      | (refine za5 ?_; first | (refine za6 ?_; refine zat _ rfl ?_) | (refine zad ?_; refine zaa _ rfl ?_) | (refine zbv ?_; first | (refine zby rfl rfl aO ?_) | (refine zbu _ rfl rfl rfl ?_) | (refine zbt aA rfl rfl ?_) | (refine zaw _ rfl rfl rfl ?_)) | (refine zbf ?_; first | (refine zac aA rfl ?_) | (refine zah _ aA rfl rfl aE rfl ?_) | (refine zaf _ aA rfl aZ aL ?_) | (refine zak _ aA rfl rfl aE aZ aL ?_)) | (refine zbm ?_; first | (refine zay _ aA rfl aL ?_) | (refine zax _ aA rfl rfl (by simp only [lx, Nat.reduceAdd]; first | done | rfl) ?_)) | (refine zbe ?_; first | (refine zau _ aA rfl rfl aO aA ?_) | (refine zav _ aA rfl rfl rfl rfl aO aO (by first | (rw [Nat.zero_add, Int.toNat_natCast]) | (rw [Nat.zero_add]) | rfl) ?_)) | (refine zbw ?_; first | (refine zbl rfl aD rfl ?_) | (refine zbi rfl aD ?_) | (refine zbj rfl aD ?_) | (refine zbk rfl aD rfl ?_)) | (refine zbs ?_; first | (refine zbx rfl rfl aD ?_) | (refine zb8 rfl rfl aD ?_) | (refine zb7 rfl rfl ?_) | (refine zbh rfl rfl (fun h => ?_) (fun h => ?_) <;> (have h' := h; (try simp only [sx] at h')))) | (refine zbd ?_; first | (refine za0 true (k_l2Near b.t a hg hca) rfl rfl rfl aS rfl aH ?_; simp only [cl]) | (refine za9 aA rfl ?_) | (refine zbc aA rfl rfl ?_) | (refine zba aA rfl ?_) | (refine zbb aA (evO_ok rfl) ?_) | (refine zb4 _ _ aA rfl (lookM (by rfl)) rfl (lookM (by rfl)) rfl aN ⟨rfl, rfl, by decide, by decide⟩ (by first | rfl | omega | (simp; done) | (simp; omega) | fail) ⟨by first | (simp only [List.length_cons, List.length_nil]; omega) | omega | fail, by decide⟩ rfl (by first | (first | (simp only [lx, Nat.reduceAdd]; first | done | rfl) | fail) | rfl) aP ?_) | (refine zb3 _ _ aA rfl rfl (lookM (by rfl)) ⟨rfl, by decide⟩ aN (by first | exact Nat.succ_pos _ | omega | (simp; done)) ⟨by first | (simp only [List.length_cons, List.length_nil]; omega) | omega | fail, by decide⟩ rfl rfl aP ?_) | (refine zb5 _ aA rfl rfl (lookM (by rfl)) ⟨rfl, by decide⟩ aN ⟨by first | (simp only [List.length_cons, List.length_nil]; omega) | omega | fail, by decide⟩ rfl aP ?_) | (refine zb0 _ aA rfl rfl rfl ⟨rfl, rfl, rfl, by decide, by decide⟩ (by first | rfl | (simp; done) | fail) ⟨by omega, by decide⟩ rfl aL (by first | (rw [Nat.zero_add]) | rfl) ?_)) | (refine za7 aA rfl rfl rfl ?_) | (refine zbz _ _ rfl rfl rfl rfl ?_) | (refine zbo _ _ _ rfl rfl aE (by first | assumption | (exact TAgg.size aA)) rfl rfl rfl aZ rfl aL (by first | (first | (simp only [lx, Nat.reduceAdd]; first | done | rfl) | fail) | rfl) ?_) | (refine zas (hK _ _ (.inl rfl) ?_); clear hK K) | (refine zas (hK _ _ (.inr (by kernel_rfl)) ?_); clear hK K))
      | (refine za3 ?_; first | (refine zbp ?_) | (refine zaj (fun K hK => ?_)) | (refine zan ?_) | (refine za4 ?_) | (refine zbq ?_) | (refine za1 ?_) | (refine zbg ?_; first | (refine zam rfl aD ?_) | (refine zal rfl aD ?_) | (refine zaz rfl (fun h => ?_) (fun h => ?_) <;> (have h' := h; (try simp only [sx] at h')))))
      | (refine za2 ?_) | (refine zai ?_) | (refine zae ?_) | (refine zaq ?_) | (refine zar ?_) | (refine zao ?_) | (refine zap rfl ?_) | (refine zab ?_) | (refine zag ?_) | (refine zbr ?_))
        all_goals try (exfalso; omega)
        refine zcd [1, 4, 12, 13] [] (fun s : Nat × List (List PV) × List Int × Bool => [(9, .osl (1001, 0) 0 b.t.burn.length), (11, .bool s.2.2.2), (14, .int .i64 s.1)]) (fun s : Nat × List (List PV) × List Int × Bool => [((1001, 0), some ⟨3, 1, s.2.1, false⟩)]) (fun s : Nat × List (List PV) × List Int × Bool => s.1 ≤ (nears b.t a).length ∧ s.2.1 = ints s.2.2.1 ∧ Mid b s.2.2.1 ∧ tv s.2.2.1 a ≠ -1 ∧ (s.2.2.2 = false → s.2.2.1 = T ∧ (∀ a' : Nat, a' < a → Clsd b T a') ∧ ∀ j, j < s.1 → ∀ c, (nears b.t a)[j]? = some c → 0 < burnAt b.t c → tv T c ≠ -1 ∧ tv T c ≤ hop b a c (tv T a)) ∧ (s.2.2.2 = true → valF s.2.2.1 < valF T)) (fun s : Nat × List (List PV) × List Int × Bool => (nears b.t a).length - s.1) ((0, fs, U, ag)) rfl rfl (fun _ => rfl) (fun _ => rfl) rfl aW ⟨by simp, hr2, hr3, hu, fun h => ⟨(hr4 h).1, (hr4 h).2, fun j hj => by simp at hj⟩, hr5⟩ (fun s hs => ?_)
        obtain ⟨k, gs, V, bg⟩ := s
        obtain ⟨hs1, hs2, hs3, hs4, hs5, hs6⟩ := hs
        simp only at hs1 hs2 hs3 hs4 hs5 hs6
        have hlg : gs.length = b.t.burn.length := by rw [hs2, ints_len, hs3.pre.len]
        have hga : gs[a]? = some [.int .i64 (tv V a)] := by rw [hs2]; exact tv_nat (by rw [hs3.pre.len]; exact hlt)
        dsimp only
        rcases Nat.lt_or_ge k (nears b.t a).length with hkt | hkg
        · obtain ⟨c, hc⟩ := get_ex hkt
          have hxc := ints_at hc
          have hnc := nears_mem.1 (get_mem hc)
          have hcc := hnc.1
          unfold IsCell at hcc
          have hbc := ints_at (burn_at hnc.1)
          have hbb := burn_bound hg hnc.1
          have hgc : gs[c.toNat]? = some [.int .i64 (tv V c)] := by rw [hs2]; exact tv_int (cell_inT hs3.pre.len hnc.1)
          by_cases hb0 : burnAt b.t c = 0
          · repeat' (first
      | (refine za5 ?_; first | (refine za6 ?_; refine zat _ rfl ?_) | (refine zad ?_; refine zaa _ rfl ?_) | (refine zbv ?_; first | (refine zby rfl rfl aO ?_) | (refine zbu _ rfl rfl rfl ?_) | (refine zbt aA rfl rfl ?_) | (refine zaw _ rfl rfl rfl ?_)) | (refine zbf ?_; first | (refine zac aA rfl ?_) | (refine zah _ aA rfl rfl aE rfl ?_) | (refine zaf _ aA rfl aZ aL ?_) | (refine zak _ aA rfl rfl aE aZ aL ?_)) | (refine zbm ?_; first | (refine zay _ aA rfl aL ?_) | (refine zax _ aA rfl rfl (by simp only [lx, Nat.reduceAdd]; first | done | rfl) ?_)) | (refine zbe ?_; first | (refine zau _ aA rfl rfl aO aA ?_) | (refine zav _ aA rfl rfl rfl rfl aO aO (by first | (rw [Nat.zero_add, Int.toNat_natCast]) | (rw [Nat.zero_add]) | rfl) ?_)) | (refine zbw ?_; first | (refine zbl rfl aD rfl ?_) | (refine zbi rfl aD ?_) | (refine zbj rfl aD ?_) | (refine zbk rfl aD rfl ?_)) | (refine zbs ?_; first | (refine zbx rfl rfl aD ?_) | (refine zb8 rfl rfl aD ?_) | (refine zb7 rfl rfl ?_) | (refine zbh rfl rfl (fun h => ?_) (fun h => ?_) <;> (have h' := h; (try simp only [sx] at h')))) | (refine zbd ?_; first | (refine za9 aA rfl ?_) | (refine zbc aA rfl rfl ?_) | (refine zba aA rfl ?_) | (refine zbb aA (evO_ok rfl) ?_) | (refine zb4 _ _ aA rfl (lookM (by rfl)) rfl (lookM (by rfl)) rfl aN ⟨rfl, rfl, by decide, by decide⟩ (by first | rfl | omega | (simp; done) | (simp; omega) | fail) ⟨by first | (simp only [List.length_cons, List.length_nil]; omega) | omega | fail, by decide⟩ rfl (by first | (first | (simp only [lx, Nat.reduceAdd]; first | done | rfl) | fail) | rfl) aP ?_) | (refine zb3 _ _ aA rfl rfl (lookM (by rfl)) ⟨rfl, by decide⟩ aN (by first | exact Nat.succ_pos _ | omega | (simp; done)) ⟨by first | (simp only [List.length_cons, List.length_nil]; omega) | omega | fail, by decide⟩ rfl rfl aP ?_) | (refine zb5 _ aA rfl rfl (lookM (by rfl)) ⟨rfl, by decide⟩ aN ⟨by first | (simp only [List.length_cons, List.length_nil]; omega) | omega | fail, by decide⟩ rfl aP ?_) | (refine zb0 _ aA rfl rfl rfl ⟨rfl, rfl, rfl, by decide, by decide⟩ (by first | rfl | (simp; done) | fail) ⟨by omega, by decide⟩ rfl aL (by first | (rw [Nat.zero_add]) | rfl) ?_)) | (refine za7 aA rfl rfl rfl ?_) | (refine zbz _ _ rfl rfl rfl rfl ?_) | (refine zbo _ _ _ rfl rfl aE (by first | assumption | (exact TAgg.size aA)) rfl rfl rfl aZ rfl aL (by first | (first | (simp only [lx, Nat.reduceAdd]; first | done | rfl) | fail) | rfl) ?_) | (refine zas (hK _ _ (.inl rfl) ?_); clear hK K) | (refine zas (hK _ _ (.inr (by kernel_rfl)) ?_); clear hK K))
      | (refine za3 ?_; first | (refine zbp ?_) | (refine zaj (fun K hK => ?_)) | (refine zan ?_) | (refine za4 ?_) | (refine zbq ?_) | (refine za1 ?_) | (refine zbg ?_; first | (refine zam rfl aD ?_) | (refine zal rfl aD ?_) | (refine zaz rfl (fun h => ?_) (fun h => ?_) <;> (have h' := h; (try simp only [sx] at h')))))
      | (refine za2 ?_) | (refine zai ?_) | (refine zae ?_) | (refine zaq ?_) | (refine zar ?_) | (refine zao ?_) | (refine zap rfl ?_) | (refine zab ?_) | (refine zag ?_) | (refine zbr ?_))
            all_goals try (exfalso; omega)
            refine zcb (k + 1, gs, V, bg) rfl aW ⟨by simp only; omega, hs2, hs3, hs4, fun h => ⟨(hs5 h).1, (hs5 h).2.1, fun j hj c' hc' hb' => ?_⟩, hs6⟩ (by simp only; omega)
            simp only at hj
            rcases Nat.lt_or_ge j k with h1 | h1
            · exact (hs5 h).2.2 j h1 c' hc' hb'
            · have : j = k := by omega
              subst this
              rw [hc] at hc'
              injection hc' with hc'
              subst hc'
              omega
          · have he : Edge b a c := ⟨hca, hnc.1, hnc.2, by omega⟩
            have hva := hs3.ge hb hca hs4
            have hval := hs3.le hb hca
            have hwk := wk_bnd hb hca hnc.1
            have hop1 := hop_bnd hb hva.1 he hva.2
            have hvc := hs3.le hb hnc.1
            have kW := k_l4Work b.t a c hg hca hnc.1
            have kD : Con Try.prog 78 [.list 2 (b.ps.map Phase.pv), .int .i64 (tv V a), .int .i64 (wkF b.t a c)] (.int .i64 (hop b a c (tv V a))) := k_l4Done b.ps (tv V a) (wkF b.t a c) hb.2.1 aO aO
            generalize hxx : hop b a c (tv V a) = x at *
            generalize hww : wkF b.t a c = wk at *
            by_cases hx : tv V c = -1 ∨ x < tv V c
            · have hrel := hs3.relax hb he hs4 (by rw [hxx]; exact hx)
              rw [hxx] at hrel
              repeat' (first
      | (refine za5 ?_; first | (refine za6 ?_; refine zat _ rfl ?_) | (refine zad ?_; refine zaa _ rfl ?_) | (refine zbv ?_; first | (refine zby rfl rfl aO ?_) | (refine zbu _ rfl rfl rfl ?_) | (refine zbt aA rfl rfl ?_) | (refine zaw _ rfl rfl rfl ?_)) | (refine zbf ?_; first | (refine zac aA rfl ?_) | (refine zah _ aA rfl rfl aE rfl ?_) | (refine zaf _ aA rfl aZ aL ?_) | (refine zak _ aA rfl rfl aE aZ aL ?_)) | (refine zbm ?_; first | (refine zay _ aA rfl aL ?_) | (refine zax _ aA rfl rfl (by simp only [lx, Nat.reduceAdd]; first | done | rfl) ?_)) | (refine zbe ?_; first | (refine zau _ aA rfl rfl aO aA ?_) | (refine zav _ aA rfl rfl rfl rfl aO aO (by first | (rw [Nat.zero_add, Int.toNat_natCast]) | (rw [Nat.zero_add]) | rfl) ?_)) | (refine zbw ?_; first | (refine zbl rfl aD rfl ?_) | (refine zbi rfl aD ?_) | (refine zbj rfl aD ?_) | (refine zbk rfl aD rfl ?_)) | (refine zbs ?_; first | (refine zbx rfl rfl aD ?_) | (refine zb8 rfl rfl aD ?_) | (refine zb7 rfl rfl ?_) | (refine zbh rfl rfl (fun h => ?_) (fun h => ?_) <;> (have h' := h; (try simp only [sx] at h')))) | (refine zbd ?_; first | (refine za0 true (kW) rfl rfl rfl aS rfl aH ?_; simp only [cl]) | (refine za0 true (kD) rfl rfl rfl aS rfl aH ?_; simp only [cl]) | (refine za9 aA rfl ?_) | (refine zbc aA rfl rfl ?_) | (refine zba aA rfl ?_) | (refine zbb aA (evO_ok rfl) ?_) | (refine zb4 _ _ aA rfl (lookM (by rfl)) rfl (lookM (by rfl)) rfl aN ⟨rfl, rfl, by decide, by decide⟩ (by first | rfl | omega | (simp; done) | (simp; omega) | fail) ⟨by first | (simp only [List.length_cons, List.length_nil]; omega) | omega | fail, by decide⟩ rfl (by first | (first | (simp only [lx, Nat.reduceAdd]; first | done | rfl) | fail) | rfl) aP ?_) | (refine zb3 _ _ aA rfl rfl (lookM (by rfl)) ⟨rfl, by decide⟩ aN (by first | exact Nat.succ_pos _ | omega | (simp; done)) ⟨by first | (simp only [List.length_cons, List.length_nil]; omega) | omega | fail, by decide⟩ rfl rfl aP ?_) | (refine zb5 _ aA rfl rfl (lookM (by rfl)) ⟨rfl, by decide⟩ aN ⟨by first | (simp only [List.length_cons, List.length_nil]; omega) | omega | fail, by decide⟩ rfl aP ?_) | (refine zb0 _ aA rfl rfl rfl ⟨rfl, rfl, rfl, by decide, by decide⟩ (by first | rfl | (simp; done) | fail) ⟨by omega, by decide⟩ rfl aL (by first | (rw [Nat.zero_add]) | rfl) ?_)) | (refine za7 aA rfl rfl rfl ?_) | (refine zbz _ _ rfl rfl rfl rfl ?_) | (refine zbo _ _ _ rfl rfl aE (by first | assumption | (exact TAgg.size aA)) rfl rfl rfl aZ rfl aL (by first | (first | (simp only [lx, Nat.reduceAdd]; first | done | rfl) | fail) | rfl) ?_) | (refine zas (hK _ _ (.inl rfl) ?_); clear hK K) | (refine zas (hK _ _ (.inr (by kernel_rfl)) ?_); clear hK K))
      | (refine za3 ?_; first | (refine zbp ?_) | (refine zaj (fun K hK => ?_)) | (refine zan ?_) | (refine za4 ?_) | (refine zbq ?_) | (refine za1 ?_) | (refine zbg ?_; first | (refine zam rfl aD ?_) | (refine zal rfl aD ?_) | (refine zaz rfl (fun h => ?_) (fun h => ?_) <;> (have h' := h; (try simp only [sx] at h')))))
      | (refine za2 ?_) | (refine zai ?_) | (refine zae ?_) | (refine zaq ?_) | (refine zar ?_) | (refine zao ?_) | (refine zap rfl ?_) | (refine zab ?_) | (refine zag ?_) | (refine zbr ?_))
              all_goals first
                | (exfalso; omega)
                | (refine zcb (k + 1, gs.set c.toNat [.int .i64 x], V.set c.toNat x, true) rfl aW ⟨by simp only; omega, by simp only [ints_set, hs2], hrel.1, ?_, fun h => (by cases h), fun _ => ?_⟩ (by simp only; omega)
                   · simp only [tv_set x (cell_inT hs3.pre.len hnc.1)]
                     split
                     · omega
                     · exact hs4
                   · have h2 := hrel.2
                     cases bg
                     · have := (hs5 rfl).1; subst this; exact h2
                     · have := hs6 rfl; simp only; omega)
            · repeat' (first
      | (refine za5 ?_; first | (refine za6 ?_; refine zat _ rfl ?_) | (refine zad ?_; refine zaa _ rfl ?_) | (refine zbv ?_; first | (refine zby rfl rfl aO ?_) | (refine zbu _ rfl rfl rfl ?_) | (refine zbt aA rfl rfl ?_) | (refine zaw _ rfl rfl rfl ?_)) | (refine zbf ?_; first | (refine zac aA rfl ?_) | (refine zah _ aA rfl rfl aE rfl ?_) | (refine zaf _ aA rfl aZ aL ?_) | (refine zak _ aA rfl rfl aE aZ aL ?_)) | (refine zbm ?_; first | (refine zay _ aA rfl aL ?_) | (refine zax _ aA rfl rfl (by simp only [lx, Nat.reduceAdd]; first | done | rfl) ?_)) | (refine zbe ?_; first | (refine zau _ aA rfl rfl aO aA ?_) | (refine zav _ aA rfl rfl rfl rfl aO aO (by first | (rw [Nat.zero_add, Int.toNat_natCast]) | (rw [Nat.zero_add]) | rfl) ?_)) | (refine zbw ?_; first | (refine zbl rfl aD rfl ?_) | (refine zbi rfl aD ?_) | (refine zbj rfl aD ?_) | (refine zbk rfl aD rfl ?_)) | (refine zbs ?_; first | (refine zbx rfl rfl aD ?_) | (refine zb8 rfl rfl aD ?_) | (refine zb7 rfl rfl ?_) | (refine zbh rfl rfl (fun h => ?_) (fun h => ?_) <;> (have h' := h; (try simp only [sx] at h')))) | (refine zbd ?_; first | (refine za0 true (kW) rfl rfl rfl aS rfl aH ?_; simp only [cl]) | (refine za0 true (kD) rfl rfl rfl aS rfl aH ?_; simp only [cl]) | (refine za9 aA rfl ?_) | (refine zbc aA rfl rfl ?_) | (refine zba aA rfl ?_) | (refine zbb aA (evO_ok rfl) ?_) | (refine zb4 _ _ aA rfl (lookM (by rfl)) rfl (lookM (by rfl)) rfl aN ⟨rfl, rfl, by decide, by decide⟩ (by first | rfl | omega | (simp; done) | (simp; omega) | fail) ⟨by first | (simp only [List.length_cons, List.length_nil]; omega) | omega | fail, by decide⟩ rfl (by first | (first | (simp only [lx, Nat.reduceAdd]; first | done | rfl) | fail) | rfl) aP ?_) | (refine zb3 _ _ aA rfl rfl (lookM (by rfl)) ⟨rfl, by decide⟩ aN (by first | exact Nat.succ_pos _ | omega | (simp; done)) ⟨by first | (simp only [List.length_cons, List.length_nil]; omega) | omega | fail, by decide⟩ rfl rfl aP ?_) | (refine zb5 _ aA rfl rfl (lookM (by rfl)) ⟨rfl, by decide⟩ aN ⟨by first | (simp only [List.length_cons, List.length_nil]; omega) | omega | fail, by decide⟩ rfl aP ?_) | (refine zb0 _ aA rfl rfl rfl ⟨rfl, rfl, rfl, by decide, by decide⟩ (by first | rfl | (simp; done) | fail) ⟨by omega, by decide⟩ rfl aL (by first | (rw [Nat.zero_add]) | rfl) ?_)) | (refine za7 aA rfl rfl rfl ?_) | (refine zbz _ _ rfl rfl rfl rfl ?_) | (refine zbo _ _ _ rfl rfl aE (by first | assumption | (exact TAgg.size aA)) rfl rfl rfl aZ rfl aL (by first | (first | (simp only [lx, Nat.reduceAdd]; first | done | rfl) | fail) | rfl) ?_) | (refine zas (hK _ _ (.inl rfl) ?_); clear hK K) | (refine zas (hK _ _ (.inr (by kernel_rfl)) ?_); clear hK K))
      | (refine za3 ?_; first | (refine zbp ?_) | (refine zaj (fun K hK => ?_)) | (refine zan ?_) | (refine za4 ?_) | (refine zbq ?_) | (refine za1 ?_) | (refine zbg ?_; first | (refine zam rfl aD ?_) | (refine zal rfl aD ?_) | (refine zaz rfl (fun h => ?_) (fun h => ?_) <;> (have h' := h; (try simp only [sx] at h')))))
      | (refine za2 ?_) | (refine zai ?_) | (refine zae ?_) | (refine zaq ?_) | (refine zar ?_) | (refine zao ?_) | (refine zap rfl ?_) | (refine zab ?_) | (refine zag ?_) | (refine zbr ?_))
              all_goals first
                | (exfalso; omega)
                | (refine zcb (k + 1, gs, V, bg) rfl aW ⟨by simp only; omega, hs2, hs3, hs4, fun h => ⟨(hs5 h).1, (hs5 h).2.1, fun j hj c' hc' hb' => ?_⟩, hs6⟩ (by simp only; omega)
                   simp only at hj
                   rcases Nat.lt_or_ge j k with h1 | h1
                   · exact (hs5 h).2.2 j h1 c' hc' hb'
                   · have : j = k := by omega
                     subst this
                     rw [hc] at hc'
                     injection hc' with hc'
                     subst hc'
                     have hVT := (hs5 h).1
                     subst hVT
                     rw [hxx]
                     omega)
        · repeat' (first
      | (refine za5 ?_; first | (refine za6 ?_; refine zat _ rfl ?_) | (refine zad ?_; refine zaa _ rfl ?_) | (refine zbv ?_; first | (refine zby rfl rfl aO ?_) | (refine zbu _ rfl rfl rfl ?_) | (refine zbt aA rfl rfl ?_) | (refine zaw _ rfl rfl rfl ?_)) | (refine zbf ?_; first | (refine zac aA rfl ?_) | (refine zah _ aA rfl rfl aE rfl ?_) | (refine zaf _ aA rfl aZ aL ?_) | (refine zak _ aA rfl rfl aE aZ aL ?_)) | (refine zbm ?_; first | (refine zay _ aA rfl aL ?_) | (refine zax _ aA rfl rfl (by simp only [lx, Nat.reduceAdd]; first | done | rfl) ?_)) | (refine zbe ?_; first | (refine zau _ aA rfl rfl aO aA ?_) | (refine zav _ aA rfl rfl rfl rfl aO aO (by first | (rw [Nat.zero_add, Int.toNat_natCast]) | (rw [Nat.zero_add]) | rfl) ?_)) | (refine zbw ?_; first | (refine zbl rfl aD rfl ?_) | (refine zbi rfl aD ?_) | (refine zbj rfl aD ?_) | (refine zbk rfl aD rfl ?_)) | (refine zbs ?_; first | (refine zbx rfl rfl aD ?_) | (refine zb8 rfl rfl aD ?_) | (refine zb7 rfl rfl ?_) | (refine zbh rfl rfl (fun h => ?_) (fun h => ?_) <;> (have h' := h; (try simp only [sx] at h')))) | (refine zbd ?_; first | (refine za9 aA rfl ?_) | (refine zbc aA rfl rfl ?_) | (refine zba aA rfl ?_) | (refine zbb aA (evO_ok rfl) ?_) | (refine zb4 _ _ aA rfl (lookM (by rfl)) rfl (lookM (by rfl)) rfl aN ⟨rfl, rfl, by decide, by decide⟩ (by first | rfl | omega | (simp; done) | (simp; omega) | fail) ⟨by first | (simp only [List.length_cons, List.length_nil]; omega) | omega | fail, by decide⟩ rfl (by first | (first | (simp only [lx, Nat.reduceAdd]; first | done | rfl) | fail) | rfl) aP ?_) | (refine zb3 _ _ aA rfl rfl (lookM (by rfl)) ⟨rfl, by decide⟩ aN (by first | exact Nat.succ_pos _ | omega | (simp; done)) ⟨by first | (simp only [List.length_cons, List.length_nil]; omega) | omega | fail, by decide⟩ rfl rfl aP ?_) | (refine zb5 _ aA rfl rfl (lookM (by rfl)) ⟨rfl, by decide⟩ aN ⟨by first | (simp only [List.length_cons, List.length_nil]; omega) | omega | fail, by decide⟩ rfl aP ?_) | (refine zb0 _ aA rfl rfl rfl ⟨rfl, rfl, rfl, by decide, by decide⟩ (by first | rfl | (simp; done) | fail) ⟨by omega, by decide⟩ rfl aL (by first | (rw [Nat.zero_add]) | rfl) ?_)) | (refine za7 aA rfl rfl rfl ?_) | (refine zbz _ _ rfl rfl rfl rfl ?_) | (refine zbo _ _ _ rfl rfl aE (by first | assumption | (exact TAgg.size aA)) rfl rfl rfl aZ rfl aL (by first | (first | (simp only [lx, Nat.reduceAdd]; first | done | rfl) | fail) | rfl) ?_) | (refine zas (hK _ _ (.inl rfl) ?_); clear hK K) | (refine zas (hK _ _ (.inr (by kernel_rfl)) ?_); clear hK K))
      | (refine za3 ?_; first | (refine zbp ?_) | (refine zaj (fun K hK => ?_)) | (refine zan ?_) | (refine za4 ?_) | (refine zbq ?_) | (refine za1 ?_) | (refine zbg ?_; first | (refine zam rfl aD ?_) | (refine zal rfl aD ?_) | (refine zaz rfl (fun h => ?_) (fun h => ?_) <;> (have h' := h; (try simp only [sx] at h')))))
      | (refine za2 ?_) | (refine zai ?_) | (refine zae ?_) | (refine zaq ?_) | (refine zar ?_) | (refine zao ?_) | (refine zap rfl ?_) | (refine zab ?_) | (refine zag ?_) | (refine zbr ?_))
          refine zcb (a + 1, gs, V, bg) rfl aW ⟨by simp only; omega, hs2, hs3, fun h => ⟨(hs5 h).1, fun a' ha' => ?_⟩, hs6⟩ (by simp only; omega)
          simp only at ha'
          rcases Nat.lt_or_ge a' a with h1 | h1
          · exact (hs5 h).2.1 a' h1
          · have : a' = a := by omega
            subst this
            intro hne c he
            obtain ⟨j, hj⟩ := List.getElem?_of_mem (nears_mem.2 ⟨he.2.1, he.2.2.1⟩)
            exact (hs5 h).2.2 j (by have := get_lt hj; omega) c hj he.2.2.2
    · repeat' (first
      | (refine za5 ?_; first | (refine za6 ?_; refine zat _ rfl ?_) | (refine zad ?_; refine zaa _ rfl ?_) | (refine zbv ?_; first | (refine zby rfl rfl aO ?_) | (refine zbu _ rfl rfl rfl ?_) | (refine zbt aA rfl rfl ?_) | (refine zaw _ rfl rfl rfl ?_)) | (refine zbf ?_; first | (refine zac aA rfl ?_) | (refine zah _ aA rfl rfl aE rfl ?_) | (refine zaf _ aA rfl aZ aL ?_) | (refine zak _ aA rfl rfl aE aZ aL ?_)) | (refine zbm ?_; first | (refine zay _ aA rfl aL ?_) | (refine zax _ aA rfl rfl (by simp only [lx, Nat.reduceAdd]; first | done | rfl) ?_)) | (refine zbe ?_; first | (refine zau _ aA rfl rfl aO aA ?_) | (refine zav _ aA rfl rfl rfl rfl aO aO (by first | (rw [Nat.zero_add, Int.toNat_natCast]) | (rw [Nat.zero_add]) | rfl) ?_)) | (refine zbw ?_; first | (refine zbl rfl aD rfl ?_) | (refine zbi rfl aD ?_) | (refine zbj rfl aD ?_) | (refine zbk rfl aD rfl ?_)) | (refine zbs ?_; first | (refine zbx rfl rfl aD ?_) | (refine zb8 rfl rfl aD ?_) | (refine zb7 rfl rfl ?_) | (refine zbh rfl rfl (fun h => ?_) (fun h => ?_) <;> (have h' := h; (try simp only [sx] at h')))) | (refine zbd ?_; first | (refine za9 aA rfl ?_) | (refine zbc aA rfl rfl ?_) | (refine zba aA rfl ?_) | (refine zbb aA (evO_ok rfl) ?_) | (refine zb4 _ _ aA rfl (lookM (by rfl)) rfl (lookM (by rfl)) rfl aN ⟨rfl, rfl, by decide, by decide⟩ (by first | rfl | omega | (simp; done) | (simp; omega) | fail) ⟨by first | (simp only [List.length_cons, List.length_nil]; omega) | omega | fail, by decide⟩ rfl (by first | (first | (simp only [lx, Nat.reduceAdd]; first | done | rfl) | fail) | rfl) aP ?_) | (refine zb3 _ _ aA rfl rfl (lookM (by rfl)) ⟨rfl, by decide⟩ aN (by first | exact Nat.succ_pos _ | omega | (simp; done)) ⟨by first | (simp only [List.length_cons, List.length_nil]; omega) | omega | fail, by decide⟩ rfl rfl aP ?_) | (refine zb5 _ aA rfl rfl (lookM (by rfl)) ⟨rfl, by decide⟩ aN ⟨by first | (simp only [List.length_cons, List.length_nil]; omega) | omega | fail, by decide⟩ rfl aP ?_) | (refine zb0 _ aA rfl rfl rfl ⟨rfl, rfl, rfl, by decide, by decide⟩ (by first | rfl | (simp; done) | fail) ⟨by omega, by decide⟩ rfl aL (by first | (rw [Nat.zero_add]) | rfl) ?_)) | (refine za7 aA rfl rfl rfl ?_) | (refine zbz _ _ rfl rfl rfl rfl ?_) | (refine zbo _ _ _ rfl rfl aE (by first | assumption | (exact TAgg.size aA)) rfl rfl rfl aZ rfl aL (by first | (first | (simp only [lx, Nat.reduceAdd]; first | done | rfl) | fail) | rfl) ?_) | (refine zas (hK _ _ (.inl rfl) ?_); clear hK K) | (refine zas (hK _ _ (.inr (by kernel_rfl)) ?_); clear hK K))
      | (refine za3 ?_; first | (refine zbp ?_) | (refine zaj (fun K hK => ?_)) | (refine zan ?_) | (refine za4 ?_) | (refine zbq ?_) | (refine za1 ?_) | (refine zbg ?_; first | (refine zam rfl aD ?_) | (refine zal rfl aD ?_) | (refine zaz rfl (fun h => ?_) (fun h => ?_) <;> (have h' := h; (try simp only [sx] at h')))))
      | (refine za2 ?_) | (refine zai ?_) | (refine zae ?_) | (refine zaq ?_) | (refine zar ?_) | (refine zao ?_) | (refine zap rfl ?_) | (refine zab ?_) | (refine zag ?_) | (refine zbr ?_))
      refine zcb (fs, U, ag) rfl aW ⟨hr2, hr3, fun h a ha => ?_⟩ ?_
      · simp only at h ⊢
        have h4 := hr4 h
        rw [h4.1]
        have h5 := ha; unfold IsCell at h5
        have := h4.2 a.toNat aO
        rwa [show ((a.toNat : Nat) : Int) = a by omega] at this
      · have hvU := hr3.val hb
        simp only [if_true]
        cases ag
        · simp; omega
        · have := hr5 rfl
          simp only [if_true]
          omega
end Go.Vs
set_option linter.unusedVariables false
set_option linter.unusedSimpArgs false
set_option maxRecDepth 100000
set_option maxHeartbeats 4000000
namespace Go.Vs
open Go.Proofs
attribute [local irreducible] exec vwp thenQ blkQ loopQ RetPost
theorem k_work (t : Terrain) (a c : Int) (hg : GoodT t) (ha : IsCell t a) (hc : IsCell t c) : Con Try.prog 84 [.agg t.pv, .int .i64 a, .int .i64 c] (.int .i64 (wkF t a c)) := by
  intro al
  refine za8 hmix Try.func84 rfl (by kernel_rfl) (by kernel_rfl) (Nat.le_of_ble_eq_true rfl) (fun row h => by cases h) ?_
  have hty_f26_2 := ty_f26_2
  have hty_c24 := ty_c24
  have hty_s24 := ty_s24
  have hty_c3 := ty_c3
  have hty_a26 := ty_a26
  have hl1 : (ints t.burn).length = t.burn.length := by simp
  have hw := hg.1.1
  have hx := ints_at (burn_at ha)
  have hy := ints_at (burn_at hc)
  have b1 := burn_bound hg ha
  have b2 := burn_bound hg hc
  have hca := ha
  have hcc := hc
  unfold IsCell at hca hcc
  have hlen := goodT_len hg
  by_cases h1 : a % t.width = c % t.width
  · repeat' (first
      | (refine za5 ?_; first | (refine za6 ?_; refine zat _ rfl ?_) | (refine zad ?_; refine zaa _ rfl ?_) | (refine zbv ?_; first | (refine zby rfl rfl aO ?_) | (refine zci rfl rfl aO ?_) | (refine zbu _ rfl rfl rfl ?_) | (refine zbt aA rfl rfl ?_) | (refine zaw _ rfl rfl rfl ?_)) | (refine zbf ?_; first | (refine zac aA rfl ?_) | (refine zah _ aA rfl rfl aE rfl ?_) | (refine zaf _ aA rfl aZ aL ?_) | (refine zak _ aA rfl rfl aE aZ aL ?_)) | (refine zbm ?_; first | (refine zay _ aA rfl aL ?_) | (refine zax _ aA rfl rfl (by simp only [lx, Nat.reduceAdd]; first | done | rfl) ?_)) | (refine zbe ?_; first | (refine zau _ aA rfl rfl aO aA ?_) | (refine zav _ aA rfl rfl rfl rfl aO aO (by first | (rw [Nat.zero_add, Int.toNat_natCast]) | (rw [Nat.zero_add]) | rfl) ?_)) | (refine zbw ?_; first | (refine zbl rfl aD rfl ?_) | (refine zbi rfl aD ?_) | (refine zbj rfl aD ?_) | (refine zbk rfl aD rfl ?_)) | (refine zbs ?_; first | (refine zbx rfl rfl aD ?_) | (refine zb8 rfl rfl aD ?_) | (refine zb7 rfl rfl ?_) | (refine zbh rfl rfl (fun h => ?_) (fun h => ?_) <;> (have h' := h; (try simp only [sx] at h')))) | (refine zbd ?_; first | (refine za0 true (k_column t a hw.1 aO) rfl rfl rfl aS rfl aH ?_; simp only [cl]) | (refine za0 true (k_column t c hw.1 aO) rfl rfl rfl aS rfl aH ?_; simp only [cl]) | (refine za0 true (k_row t a hw.1 aO) rfl rfl rfl aS rfl aH ?_; simp only [cl]) | (refine za0 true (k_row t c hw.1 aO) rfl rfl rfl aS rfl aH ?_; simp only [cl])) | (refine zbz _ _ rfl rfl rfl rfl ?_) | (refine zas (hK _ _ (.inl rfl) ?_); clear hK K) | (refine zas (hK _ _ (.inr (by kernel_rfl)) ?_); clear hK K))
      | (refine za3 ?_; first | (refine zbp ?_) | (refine zaj (fun K hK => ?_)) | (refine zan ?_) | (refine za4 ?_) | (refine zbq ?_) | (refine za1 ?_) | (refine zbg ?_; first | (refine zam rfl aD ?_) | (refine zal rfl aD ?_) | (refine zaz rfl (fun h => ?_) (fun h => ?_) <;> (have h' := h; (try simp only [sx] at h')))))
      | (refine za2 ?_) | (refine zai ?_) | (refine zae ?_) | (refine zaq ?_) | (refine zar ?_) | (refine zao ?_) | (refine zap rfl ?_) | (refine zab ?_) | (refine zag ?_) | (refine zbr ?_))
    all_goals first
      | (exfalso; omega)
      | (refine zcj rfl (zbn rfl) ?_
         simp only [wkF, colOf, rowOf]
         rw [if_pos (.inl h1)])
  · by_cases h2 : a / t.width = c / t.width
    · repeat' (first
      | (refine za5 ?_; first | (refine za6 ?_; refine zat _ rfl ?_) | (refine zad ?_; refine zaa _ rfl ?_) | (refine zbv ?_; first | (refine zby rfl rfl aO ?_) | (refine zci rfl rfl aO ?_) | (refine zbu _ rfl rfl rfl ?_) | (refine zbt aA rfl rfl ?_) | (refine zaw _ rfl rfl rfl ?_)) | (refine zbf ?_; first | (refine zac aA rfl ?_) | (refine zah _ aA rfl rfl aE rfl ?_) | (refine zaf _ aA rfl aZ aL ?_) | (refine zak _ aA rfl rfl aE aZ aL ?_)) | (refine zbm ?_; first | (refine zay _ aA rfl aL ?_) | (refine zax _ aA rfl rfl (by simp only [lx, Nat.reduceAdd]; first | done | rfl) ?_)) | (refine zbe ?_; first | (refine zau _ aA rfl rfl aO aA ?_) | (refine zav _ aA rfl rfl rfl rfl aO aO (by first | (rw [Nat.zero_add, Int.toNat_natCast]) | (rw [Nat.zero_add]) | rfl) ?_)) | (refine zbw ?_; first | (refine zbl rfl aD rfl ?_) | (refine zbi rfl aD ?_) | (refine zbj rfl aD ?_) | (refine zbk rfl aD rfl ?_)) | (refine zbs ?_; first | (refine zbx rfl rfl aD ?_) | (refine zb8 rfl rfl aD ?_) | (refine zb7 rfl rfl ?_) | (refine zbh rfl rfl (fun h => ?_) (fun h => ?_) <;> (have h' := h; (try simp only [sx] at h')))) | (refine zbd ?_; first | (refine za0 true (k_column t a hw.1 aO) rfl rfl rfl aS rfl aH ?_; simp only [cl]) | (refine za0 true (k_column t c hw.1 aO) rfl rfl rfl aS rfl aH ?_; simp only [cl]) | (refine za0 true (k_row t a hw.1 aO) rfl rfl rfl aS rfl aH ?_; simp only [cl]) | (refine za0 true (k_row t c hw.1 aO) rfl rfl rfl aS rfl aH ?_; simp only [cl])) | (refine zbz _ _ rfl rfl rfl rfl ?_) | (refine zas (hK _ _ (.inl rfl) ?_); clear hK K) | (refine zas (hK _ _ (.inr (by kernel_rfl)) ?_); clear hK K))
      | (refine za3 ?_; first | (refine zbp ?_) | (refine zaj (fun K hK => ?_)) | (refine zan ?_) | (refine za4 ?_) | (refine zbq ?_) | (refine za1 ?_) | (refine zbg ?_; first | (refine zam rfl aD ?_) | (refine zal rfl aD ?_) | (refine zaz rfl (fun h => ?_) (fun h => ?_) <;> (have h' := h; (try simp only [sx] at h')))))
      | (refine za2 ?_) | (refine zai ?_) | (refine zae ?_) | (refine zaq ?_) | (refine zar ?_) | (refine zao ?_) | (refine zap rfl ?_) | (refine zab ?_) | (refine zag ?_) | (refine zbr ?_))
      all_goals first
        | (exfalso; omega)
        | (refine zcj rfl (zbn rfl) ?_
           simp only [wkF, colOf, rowOf]
           rw [if_pos (.inr h2)])
    · repeat' (first
      | (refine za5 ?_; first | (refine za6 ?_; refine zat _ rfl ?_) | (refine zad ?_; refine zaa _ rfl ?_) | (refine zbv ?_; first | (refine zby rfl rfl aO ?_) | (refine zci rfl rfl aO ?_) | (refine zbu _ rfl rfl rfl ?_) | (refine zbt aA rfl rfl ?_) | (refine zaw _ rfl rfl rfl ?_)) | (refine zbf ?_; first | (refine zac aA rfl ?_) | (refine zah _ aA rfl rfl aE rfl ?_) | (refine zaf _ aA rfl aZ aL ?_) | (refine zak _ aA rfl rfl aE aZ aL ?_)) | (refine zbm ?_; first | (refine zay _ aA rfl aL ?_) | (refine zax _ aA rfl rfl (by simp only [lx, Nat.reduceAdd]; first | done | rfl) ?_)) | (refine zbe ?_; first | (refine zau _ aA rfl rfl aO aA ?_) | (refine zav _ aA rfl rfl rfl rfl aO aO (by first | (rw [Nat.zero_add, Int.toNat_natCast]) | (rw [Nat.zero_add]) | rfl) ?_)) | (refine zbw ?_; first | (refine zbl rfl aD rfl ?_) | (refine zbi rfl aD ?_) | (refine zbj rfl aD ?_) | (refine zbk rfl aD rfl ?_)) | (refine zbs ?_; first | (refine zbx rfl rfl aD ?_) | (refine zb8 rfl rfl aD ?_) | (refine zb7 rfl rfl ?_) | (refine zbh rfl rfl (fun h => ?_) (fun h => ?_) <;> (have h' := h; (try simp only [sx] at h')))) | (refine zbd ?_; first | (refine za0 true (k_column t a hw.1 aO) rfl rfl rfl aS rfl aH ?_; simp only [cl]) | (refine za0 true (k_column t c hw.1 aO) rfl rfl rfl aS rfl aH ?_; simp only [cl]) | (refine za0 true (k_row t a hw.1 aO) rfl rfl rfl aS rfl aH ?_; simp only [cl]) | (refine za0 true (k_row t c hw.1 aO) rfl rfl rfl aS rfl aH ?_; simp only [cl])) | (refine zbz _ _ rfl rfl rfl rfl ?_) | (refine zas (hK _ _ (.inl rfl) ?_); clear hK K) | (refine zas (hK _ _ (.inr (by kernel_rfl)) ?_); clear hK K))
      | (refine za3 ?_; first | (refine zbp ?_) | (refine zaj (fun K hK => ?_)) | (refine zan ?_) | (refine za4 ?_) | (refine zbq ?_) | (refine za1 ?_) | (refine zbg ?_; first | (refine zam rfl aD ?_) | (refine zal rfl aD ?_) | (refine zaz rfl (fun h => ?_) (fun h => ?_) <;> (have h' := h; (try simp only [sx] at h')))))
      | (refine za2 ?_) | (refine zai ?_) | (refine zae ?_) | (refine zaq ?_) | (refine zar ?_) | (refine zao ?_) | (refine zap rfl ?_) | (refine zab ?_) | (refine zag ?_) | (refine zbr ?_))
      all_goals first
        | (exfalso; omega)
        | (refine zcj rfl (zbn rfl) ?_
           simp only [wkF, colOf, rowOf]
           rw [if_neg aO])
theorem k_filterIntT (xs : List Int) (g : FuncId) (t : Terrain) (p : Int → Bool) (hg : ∀ a ∈ xs, Con Try.prog g [.agg t.pv, .int .i64 a] (.bool (p a))) (hn : xs.length ≤ 1099511627776) :
    Con Try.prog 120 [.list 1 (ints xs), .fn g [.agg t.pv] []] (.olist 3 1 (ints (xs.filter p))) := by
  intro al
  refine za8 hmix Try.func120 rfl (by kernel_rfl) (by kernel_rfl) (Nat.le_of_ble_eq_true rfl) (fun row h => by cases h) ?_
  have hty_s24 := ty_s24
  have hty_u24 := ty_u24
  have hty_c3 := ty_c3
  have hl1 : (ints xs).length = xs.length := by simp
  repeat' (first
      | (refine za5 ?_; first | (refine za6 ?_; refine zat _ rfl ?_) | (refine zad ?_; refine zaa _ rfl ?_) | (refine zbv ?_; first | (refine zby rfl rfl aO ?_) | (refine zbu _ rfl rfl rfl ?_) | (refine zaw _ rfl rfl rfl ?_)) | (refine zbf ?_; first | (refine zac aA rfl ?_) | (refine zah _ aA rfl rfl aE rfl ?_) | (refine zaf _ aA rfl aZ aL ?_) | (refine zak _ aA rfl rfl aE aZ aL ?_)) | (refine zbe ?_; first | (refine zau _ aA rfl rfl aO aA ?_) | (refine zav _ aA rfl rfl rfl rfl aO aO (by first | (rw [Nat.zero_add, Int.toNat_natCast]) | (rw [Nat.zero_add]) | rfl) ?_)) | (refine zbd ?_; first | (refine za9 aA rfl ?_) | (refine zbc aA rfl rfl ?_) | (refine zba aA rfl ?_) | (refine zbb aA (evO_ok rfl) ?_) | (refine zb4 _ _ aA rfl (lookM (by rfl)) rfl (lookM (by rfl)) rfl aN ⟨rfl, rfl, by decide, by decide⟩ (by first | rfl | omega | (simp; done) | (simp; omega) | fail) ⟨by first | (simp only [List.length_cons, List.length_nil]; omega) | omega | fail, by decide⟩ rfl (by first | (first | (simp only [lx, Nat.reduceAdd]; first | done | rfl) | fail) | rfl) aP ?_) | (refine zb3 _ _ aA rfl rfl (lookM (by rfl)) ⟨rfl, by decide⟩ aN (by first | exact Nat.succ_pos _ | omega | (simp; done)) ⟨by first | (simp only [List.length_cons, List.length_nil]; omega) | omega | fail, by decide⟩ rfl rfl aP ?_) | (refine zb5 _ aA rfl rfl (lookM (by rfl)) ⟨rfl, by decide⟩ aN ⟨by first | (simp only [List.length_cons, List.length_nil]; omega) | omega | fail, by decide⟩ rfl aP ?_) | (refine zb0 _ aA rfl rfl rfl ⟨rfl, rfl, rfl, by decide, by decide⟩ (by first | rfl | (simp; done) | fail) ⟨by omega, by decide⟩ rfl aL (by first | (rw [Nat.zero_add]) | rfl) ?_)) | (refine za7 aA rfl rfl rfl ?_) | (refine zas (hK _ _ (.inl rfl) ?_); clear hK K) | (refine zas (hK _ _ (.inr (by kernel_rfl)) ?_); clear hK K))
      | (refine za3 ?_; first | (refine zbp ?_) | (refine zaj (fun K hK => ?_)) | (refine zan ?_) | (refine za4 ?_) | (refine zbq ?_) | (refine za1 ?_) | (refine zbg ?_; first | (refine zam rfl aD ?_) | (refine zal rfl aD ?_) | (refine zaz rfl (fun h => ?_) (fun h => ?_) <;> (have h' := h; (try simp only [sx] at h')))))
      | (refine za2 ?_) | (refine zai ?_) | (refine zae ?_) | (refine zaq ?_) | (refine zar ?_) | (refine zao ?_) | (refine zap rfl ?_) | (refine zab ?_) | (refine zag ?_) | (refine zbr ?_))
  refine zcd [1, 9, 10] [] (fun q : Nat × Nat × List (List PV) => [(5, .osl (1001, 0) 0 q.2.1), (11, .int .i64 q.1)]) (fun q : Nat × Nat × List (List PV) => [((1001, 0), some ⟨3, 1, q.2.2, false⟩)]) (fun q : Nat × Nat × List (List PV) => q.1 ≤ xs.length ∧ q.2.2 = ints ((xs.take q.1).filter p) ∧ q.2.2.length = q.2.1) (fun q : Nat × Nat × List (List PV) => xs.length - q.1) ((0, 0, [])) rfl rfl (fun _ => rfl) (fun _ => rfl) rfl aW ⟨by simp, by simp, rfl⟩ (fun q hq => ?_)
  obtain ⟨i, m, es⟩ := q
  obtain ⟨hi1, hi2, hl⟩ := hq
  simp only at hi1 hi2 hl
  have hle : es.length ≤ i := by rw [hi2]; simp only [List.length_map]; exact Nat.le_trans (List.length_filter_le _ _) (by rw [List.length_take]; omega)
  rcases Nat.lt_or_ge i xs.length with hlt | hge
  · obtain ⟨a, hga⟩ := get_ex hlt
    have hx := ints_at hga
    have kg := hg a (get_mem hga)
    dsimp only
    repeat' (first
      | (refine za5 ?_; first | (refine za6 ?_; refine zat _ rfl ?_) | (refine zad ?_; refine zaa _ rfl ?_) | (refine zbv ?_; first | (refine zby rfl rfl aO ?_) | (refine zbu _ rfl rfl rfl ?_) | (refine zaw _ rfl rfl rfl ?_)) | (refine zbf ?_; first | (refine zac aA rfl ?_) | (refine zah _ aA rfl rfl aE rfl ?_) | (refine zaf _ aA rfl aZ aL ?_) | (refine zak _ aA rfl rfl aE aZ aL ?_)) | (refine zbe ?_; first | (refine zau _ aA rfl rfl aO aA ?_) | (refine zav _ aA rfl rfl rfl rfl aO aO (by first | (rw [Nat.zero_add, Int.toNat_natCast]) | (rw [Nat.zero_add]) | rfl) ?_)) | (refine zbd ?_; first | (refine za0 true (kg) rfl rfl rfl aS rfl aH ?_; simp only [cl]) | (refine x_call [] _ (kg) rfl rfl aS rfl aH ?_; simp only [cl]) | (refine za9 aA rfl ?_) | (refine zbc aA rfl rfl ?_) | (refine zba aA rfl ?_) | (refine zbb aA (evO_ok rfl) ?_) | (refine zb4 _ _ aA rfl (lookM (by rfl)) rfl (lookM (by rfl)) rfl aN ⟨rfl, rfl, by decide, by decide⟩ (by first | rfl | omega | (simp; done) | (simp; omega) | fail) ⟨by first | (simp only [List.length_cons, List.length_nil]; omega) | omega | fail, by decide⟩ rfl (by first | (first | (simp only [lx, Nat.reduceAdd]; first | done | rfl) | fail) | rfl) aP ?_) | (refine zb3 _ _ aA rfl rfl (lookM (by rfl)) ⟨rfl, by decide⟩ aN (by first | exact Nat.succ_pos _ | omega | (simp; done)) ⟨by first | (simp only [List.length_cons, List.length_nil]; omega) | omega | fail, by decide⟩ rfl rfl aP ?_) | (refine zb5 _ aA rfl rfl (lookM (by rfl)) ⟨rfl, by decide⟩ aN ⟨by first | (simp only [List.length_cons, List.length_nil]; omega) | omega | fail, by decide⟩ rfl aP ?_) | (refine zb0 _ aA rfl rfl rfl ⟨rfl, rfl, rfl, by decide, by decide⟩ (by first | rfl | (simp; done) | fail) ⟨by omega, by decide⟩ rfl aL (by first | (rw [Nat.zero_add]) | rfl) ?_)) | (refine za7 aA rfl rfl rfl ?_) | (refine zas (hK _ _ (.inl rfl) ?_); clear hK K) | (refine zas (hK _ _ (.inr (by kernel_rfl)) ?_); clear hK K))
      | (refine za3 ?_; first | (refine zbp ?_) | (refine zaj (fun K hK => ?_)) | (refine zan ?_) | (refine za4 ?_) | (refine zbq ?_) | (refine za1 ?_) | (refine zbg ?_; first | (refine zam rfl aD ?_) | (refine zal rfl aD ?_) | (refine zaz rfl (fun h => ?_) (fun h => ?_) <;> (have h' := h; (try simp only [sx] at h')))))
      | (refine za2 ?_) | (refine zai ?_) | (refine zae ?_) | (refine zaq ?_) | (refine zar ?_) | (refine zao ?_) | (refine zap rfl ?_) | (refine zab ?_) | (refine zag ?_) | (refine zbr ?_))
    · refine zcb (i + 1, m + 1, es ++ [[.int .i64 a]]) rfl aW ⟨by simp only; omega, ?_, by simp [hl]⟩ (by simp only; omega)
      simp only [filter_take_t hga (show p a = true by assumption), ints_snoc, hi2, List.map_cons, List.map_nil]
    · refine zcb (i + 1, m, es) rfl aW ⟨by simp only; omega, ?_, hl⟩ (by simp only; omega)
      simp only [filter_take_f hga (show p a = false by assumption), hi2]
  · repeat' (first
      | (refine za5 ?_; first | (refine za6 ?_; refine zat _ rfl ?_) | (refine zad ?_; refine zaa _ rfl ?_) | (refine zbv ?_; first | (refine zby rfl rfl aO ?_) | (refine zbu _ rfl rfl rfl ?_) | (refine zaw _ rfl rfl rfl ?_)) | (refine zbf ?_; first | (refine zac aA rfl ?_) | (refine zah _ aA rfl rfl aE rfl ?_) | (refine zaf _ aA rfl aZ aL ?_) | (refine zak _ aA rfl rfl aE aZ aL ?_)) | (refine zbe ?_; first | (refine zau _ aA rfl rfl aO aA ?_) | (refine zav _ aA rfl rfl rfl rfl aO aO (by first | (rw [Nat.zero_add, Int.toNat_natCast]) | (rw [Nat.zero_add]) | rfl) ?_)) | (refine zbd ?_; first | (refine za9 aA rfl ?_) | (refine zbc aA rfl rfl ?_) | (refine zba aA rfl ?_) | (refine zbb aA (evO_ok rfl) ?_) | (refine zb4 _ _ aA rfl (lookM (by rfl)) rfl (lookM (by rfl)) rfl aN ⟨rfl, rfl, by decide, by decide⟩ (by first | rfl | omega | (simp; done) | (simp; omega) | fail) ⟨by first | (simp only [List.length_cons, List.length_nil]; omega) | omega | fail, by decide⟩ rfl (by first | (first | (simp only [lx, Nat.reduceAdd]; first | done | rfl) | fail) | rfl) aP ?_) | (refine zb3 _ _ aA rfl rfl (lookM (by rfl)) ⟨rfl, by decide⟩ aN (by first | exact Nat.succ_pos _ | omega | (simp; done)) ⟨by first | (simp only [List.length_cons, List.length_nil]; omega) | omega | fail, by decide⟩ rfl rfl aP ?_) | (refine zb5 _ aA rfl rfl (lookM (by rfl)) ⟨rfl, by decide⟩ aN ⟨by first | (simp only [List.length_cons, List.length_nil]; omega) | omega | fail, by decide⟩ rfl aP ?_) | (refine zb0 _ aA rfl rfl rfl ⟨rfl, rfl, rfl, by decide, by decide⟩ (by first | rfl | (simp; done) | fail) ⟨by omega, by decide⟩ rfl aL (by first | (rw [Nat.zero_add]) | rfl) ?_)) | (refine za7 aA rfl rfl rfl ?_) | (refine zas (hK _ _ (.inl rfl) ?_); clear hK K) | (refine zas (hK _ _ (.inr (by kernel_rfl)) ?_); clear hK K))
      | (refine za3 ?_; first | (refine zbp ?_) | (refine zaj (fun K hK => ?_)) | (refine zan ?_) | (refine za4 ?_) | (refine zbq ?_) | (refine za1 ?_) | (refine zbg ?_; first | (refine zam rfl aD ?_) | (refine zal rfl aD ?_) | (refine zaz rfl (fun h => ?_) (fun h => ?_) <;> (have h' := h; (try simp only [sx] at h')))))
      | (refine za2 ?_) | (refine zai ?_) | (refine zae ?_) | (refine zaq ?_) | (refine zar ?_) | (refine zao ?_) | (refine zap rfl ?_) | (refine zab ?_) | (refine zag ?_) | (refine zbr ?_))
    have : xs.take i = xs := take_all aO
    rw [this] at hi2
    subst hi2
    exact zcn rfl (zbn (by rfl)) (by rfl) (by decide) hl.symm (ints_flat _) rfl
@[reducible] def bools (F : List Bool) : List (List PV) := F.map fun b => [PV.bool b]
theorem bools_set (F : List Bool) (i : Nat) (x : Bool) : bools (F.set i x) = (bools F).set i [PV.bool x] := by simp [bools, List.map_set]
def fv (F : List Bool) (c : Int) : Bool := F.getD c.toNat false
theorem fv_at {F : List Bool} {c : Int} (h : c.toNat < F.length) : (bools F)[c.toNat]? = some [PV.bool (fv F c)] := by
  obtain ⟨a, ha⟩ := get_ex h
  have : fv F c = a := by simp [fv, List.getD_eq_getElem?_getD, ha]
  simp [bools, ha, this]
theorem fv_set {F : List Bool} {i : Nat} (x : Bool) (h : i < F.length) (c : Int) : fv (F.set i x) c = if c.toNat = i then x else fv F c := by
  unfold fv
  rw [List.getD_eq_getElem?_getD, List.getD_eq_getElem?_getD, List.getElem?_set]
  by_cases he : i = c.toNat
  · simp [he, he ▸ h]
  · simp [he, Ne.symm he]
@[reducible] def gfree (f : Bool) : Int := if f = true then 0 else 1
def freeN (F : List Bool) : Int := sumBy gfree F
theorem freeN_ge (F : List Bool) : 0 ≤ freeN F := by
  have := sumBy_bound gfree 1 F fun y _ => by simp only [gfree]; split <;> omega
  unfold freeN; omega
theorem freeN_set {F : List Bool} {i : Nat} (h : F[i]? = some false) : freeN (F.set i true) = freeN F - 1 := by
  rw [freeN, sumBy_set gfree true h, freeN]
  simp [gfree]
theorem tv_extB {b : Blz} {T U : List Int} (h1 : T.length = b.t.burn.length) (h2 : U.length = b.t.burn.length) (h : ∀ c, IsCell b.t c → tv T c = tv U c) : T = U := List.ext_getElem? fun j => by
  by_cases hj : j < b.t.burn.length
  · have e1 := tv_at (T := T) (c := (j : Int)) (by rw [Int.toNat_natCast, h1]; exact hj)
    have e2 := tv_at (T := U) (c := (j : Int)) (by rw [Int.toNat_natCast, h2]; exact hj)
    rw [Int.toNat_natCast] at e1 e2
    rw [e1, e2, h j ⟨by omega, by omega⟩]
  · rw [List.getElem?_eq_none aO, List.getElem?_eq_none aO]
structure Fix (b : Blz) (T : List Int) (F : List Bool) : Prop where
  len : F.length = b.t.burn.length
  fin : ∀ a, IsCell b.t a → fv F a = true → tv T a ≠ -1 ∧ Clsd b T a
  ord : ∀ a c, IsCell b.t a → IsCell b.t c → fv F a = true → fv F c = false → tv T c ≠ -1 → tv T a ≤ tv T c
def BestOf (T : List Int) (F : List Bool) (i : Nat) (m : Int) : Prop :=
  (m = -1 ∧ ∀ c : Nat, c < i → fv F c = true ∨ tv T c = -1) ∨
  (0 ≤ m ∧ m < i ∧ fv F m = false ∧ tv T m ≠ -1 ∧ ∀ c : Nat, c < i → fv F c = false → tv T c ≠ -1 → tv T m ≤ tv T c)
theorem best_same {T : List Int} {F : List Bool} {i : Nat} {m : Int} (h : BestOf T F i m) (hi : fv F i = true ∨ tv T i = -1 ∨ (0 ≤ m ∧ tv T m ≤ tv T i)) : BestOf T F (i + 1) m := by
  rcases h with ⟨h1, h2⟩ | ⟨h1, h2, h3, h4, h5⟩
  · refine .inl ⟨h1, fun c hc => ?_⟩
    rcases Nat.lt_or_ge c i with h | h
    · exact h2 c h
    · have : c = i := by omega
      subst this
      rcases hi with hi | hi | hi
      · exact .inl hi
      · exact .inr hi
      · omega
  · refine .inr ⟨h1, by omega, h3, h4, fun c hc hf hn => ?_⟩
    rcases Nat.lt_or_ge c i with h | h
    · exact h5 c h hf hn
    · have : c = i := by omega
      subst this
      rcases hi with hi | hi | hi
      · rw [hi] at hf; cases hf
      · exact absurd hi hn
      · exact hi.2
theorem best_new {T : List Int} {F : List Bool} {i : Nat} {m : Int} (h : BestOf T F i m) (h1 : fv F i = false) (h2 : tv T i ≠ -1) (h3 : m < 0 ∨ tv T i < tv T m) : BestOf T F (i + 1) i := by
  refine .inr ⟨by omega, by omega, h1, h2, fun c hc hf hn => ?_⟩
  rcases Nat.lt_or_ge c i with g | g
  · rcases h with ⟨k1, k2⟩ | ⟨k1, k2, k3, k4, k5⟩
    · rcases k2 c g with k | k
      · rw [k] at hf; cases hf
      · exact absurd k hn
    · have := k5 c g hf hn
      omega
  · have : c = i := by omega
    subst this
    exact Int.le_refl _
structure Rnd (b : Blz) (T U : List Int) (F : List Bool) (a : Int) (k : Nat) : Prop where
  mid : Mid b U
  fix : ∀ c, IsCell b.t c → fv F c = true ∨ c = a → tv U c = tv T c
  low : ∀ c, IsCell b.t c → tv T c ≠ -1 → tv U c ≠ -1 ∧ tv U c ≤ tv T c
  hi : ∀ c, IsCell b.t c → fv F c = false → tv U c ≠ -1 → tv T a ≤ tv U c
  told : ∀ j, j < k → ∀ c, (nears b.t a)[j]? = some c → 0 < burnAt b.t c → tv U c ≠ -1 ∧ tv U c ≤ hop b a c (tv T a)
theorem apart_self (t : Terrain) (a : Int) : apart t a a = 0 := by simp only [apart, absI]; omega
theorem rnd_end {b : Blz} (hb : GoodB b) {T U : List Int} {F : List Bool} {a : Int} {k : Nat} (hF : Fix b T F) (hM : Mid b T) (ha : IsCell b.t a) (hf : fv F a = false) (hn : tv T a ≠ -1) (h : Rnd b T U F a k) (hk : (nears b.t a).length ≤ k) :
    Fix b U (F.set a.toNat true) := by
  have hal : a.toNat < F.length := by have := ha; unfold IsCell at this; rw [hF.len]; omega
  have hset := fv_set true hal
  have hcell : ∀ y, IsCell b.t y → (y.toNat = a.toNat ↔ y = a) := fun y hy => by
    have h1 := hy.1
    have h2 := ha.1
    omega
  have eT : tv U a = tv T a := h.fix a ha (.inr rfl)
  refine ⟨by rw [List.length_set]; exact hF.len, fun c hc hcf => ?_, fun c d hc hd hcf hdf hdn => ?_⟩
  · rw [hset] at hcf
    by_cases he : c = a
    · subst he
      rw [Clsd, eT]
      refine ⟨hn, fun _ y hy => ?_⟩
      obtain ⟨j, hj⟩ := List.getElem?_of_mem (nears_mem.2 ⟨hy.2.1, hy.2.2.1⟩)
      exact h.told j (by have := get_lt hj; omega) y hj hy.2.2.2
    · rw [if_neg (fun e => he ((hcell c hc).1 e))] at hcf
      have e := h.fix c hc (.inl hcf)
      obtain ⟨g1, g2⟩ := hF.fin c hc hcf
      rw [Clsd, e]
      refine ⟨g1, fun _ y hy => ?_⟩
      obtain ⟨k1, k2⟩ := g2 g1 y hy
      have k3 := h.low y hy.2.1 k1
      exact ⟨k3.1, by omega⟩
  · rw [hset] at hcf hdf
    have hda : ¬ d.toNat = a.toNat := fun e => by rw [if_pos e] at hdf; cases hdf
    rw [if_neg hda] at hdf
    have h1 := h.hi d hd hdf hdn
    by_cases he : c = a
    · subst he; rw [eT]; exact h1
    · rw [if_neg (fun e => he ((hcell c hc).1 e))] at hcf
      rw [h.fix c hc (.inl hcf)]
      have := hF.ord c a hc ha hcf hf hn
      omega
theorem rnd_skip {b : Blz} {T U : List Int} {F : List Bool} {a : Int} {k : Nat} (h : Rnd b T U F a k)
    (hs : ∀ c, (nears b.t a)[k]? = some c → 0 < burnAt b.t c → tv U c ≠ -1 ∧ tv U c ≤ hop b a c (tv T a)) : Rnd b T U F a (k + 1) :=
  ⟨h.mid, h.fix, h.low, h.hi, fun j hj c hc hb => by
    rcases Nat.lt_or_ge j k with h1 | h1
    · exact h.told j h1 c hc hb
    · have : j = k := by omega
      subst this
      exact hs c hc hb⟩
theorem rnd_set {b : Blz} (hb : GoodB b) {T U : List Int} {F : List Bool} {a c : Int} {k : Nat} (h : Rnd b T U F a k) (hc : (nears b.t a)[k]? = some c) (he : Edge b a c) (hn : tv T a ≠ -1) (hf : fv F c = false)
    (hx : tv U c = -1 ∨ hop b a c (tv T a) < tv U c) : Rnd b T (U.set c.toNat (hop b a c (tv T a))) F a (k + 1) := by
  have eT : tv U a = tv T a := h.fix a he.1 (.inr rfl)
  have hrel := (h.mid.relax hb he (by rw [eT]; exact hn) (by rw [eT]; exact hx)).1
  rw [eT] at hrel
  have hva := h.mid.ge hb he.1 (by rw [eT]; exact hn)
  rw [eT] at hva
  have hop1 := hop_bnd hb hva.1 he hva.2
  have hcl := cell_inT h.mid.pre.len he.2.1
  have hset := tv_set (hop b a c (tv T a)) hcl
  have hcell : ∀ y, IsCell b.t y → (y.toNat = c.toNat ↔ y = c) := fun y hy => by
    have h1 := hy.1
    have h2 := he.2.1.1
    omega
  have hca : c ≠ a := fun e => by
    have h1 := he.2.2.1
    rw [e, apart_self] at h1
    omega
  refine ⟨hrel, fun y hy hyf => ?_, fun y hy hyn => ?_, fun y hy hyf hyn => ?_, fun j hj y hjy hyb => ?_⟩
  · have : ¬ y.toNat = c.toNat := fun e => by
      have := (hcell y hy).1 e
      subst this
      rcases hyf with g | g
      · rw [hf] at g; cases g
      · exact hca g
    rw [hset, if_neg this]
    exact h.fix y hy hyf
  · rw [hset]
    have := h.low y hy hyn
    split
    · rename_i e
      have e2 := (hcell y hy).1 e
      subst e2
      rcases hx with hx | hx
      · exact absurd hx this.1
      · omega
    · exact this
  · rw [hset] at hyn ⊢
    split
    · omega
    · rename_i e
      rw [if_neg e] at hyn
      exact h.hi y hy hyf hyn
  · rw [hset]
    rcases Nat.lt_or_ge j k with h1 | h1
    · have := h.told j h1 y hjy hyb
      have hyc := (nears_mem.1 (get_mem hjy)).1
      split
      · rename_i e
        have e2 := (hcell y hyc).1 e
        subst e2
        exact ⟨by omega, Int.le_refl _⟩
      · exact this
    · have : j = k := by omega
      subst this
      rw [hc] at hjy
      injection hjy with hjy
      subst hjy
      rw [if_pos rfl]
      exact ⟨by omega, Int.le_refl _⟩
theorem fix_ini {b : Blz} {T : List Int} : Fix b T (List.replicate b.t.burn.length false) := by
  have hf : ∀ c, fv (List.replicate b.t.burn.length false) c = false := fun c => by
    unfold fv
    rw [List.getD_eq_getElem?_getD, List.getElem?_replicate]
    split <;> rfl
  exact ⟨by simp, fun a _ h => (by rw [hf] at h; cases h), fun a c _ _ h => (by rw [hf] at h; cases h)⟩
end Go.Vs
set_option linter.unusedVariables false
set_option linter.unusedSimpArgs false
set_option maxRecDepth 100000
set_option maxHeartbeats 4000000
namespace Go.Vs
open Go.Proofs
attribute [local irreducible] exec vwp thenQ blkQ loopQ RetPost
theorem k_arrivals (b : Blz) (hb : GoodB b) (hs : b.src.length ≤ 1099511627776) :
    Con Try.prog 61 [.agg b.t.pv, .list 2 (b.ps.map Phase.pv), .list 1 (ints b.src), .int .i64 b.st] (.olist 3 1 (ints (arr b))) := by
  intro al
  refine za8 hmix Try.func61 rfl (by kernel_rfl) (by kernel_rfl) (Nat.le_of_ble_eq_true rfl) (fun row h => by cases h) ?_
  have hty_f26_2 := ty_f26_2
  have hty_c24 := ty_c24
  have hty_u24 := ty_u24
  have hty_s24 := ty_s24
  have hty_z3 := ty_z3
  have hty_s112 := ty_s112
  have hty_z4 := ty_z4
  have hty_t3 := ty_t3
  have hty_a26 := ty_a26
  have hty_c3 := ty_c3
  have hty_c4 := ty_c4
  have hty_t4 := ty_t4
  have hty_u27 := ty_u27
  have hty_s27 := ty_s27
  have hl1 : (ints b.t.burn).length = b.t.burn.length := by simp
  have hg := hb.1.1
  have hlen := goodT_len hg
  have hst := hb.2.2
  have hfil := List.length_filter_le (fun s => decide (0 < burnAt b.t s)) b.src
  have kF := k_filterIntT b.src 83 b.t (fun s => decide (0 < burnAt b.t s)) (fun s h => k_burns b.t s hg (hb.1.2.1 s h)) hs
  generalize hfl : b.src.filter (fun s => decide (0 < burnAt b.t s)) = fl at kF hfil
  have hl2 : (ints fl).length = fl.length := by simp
  repeat' (first
      | (refine za5 ?_; first | (refine za6 ?_; refine zat _ rfl ?_) | (refine zad ?_; refine zaa _ rfl ?_) | (refine zbv ?_; first | (refine zby rfl rfl aO ?_) | (refine zbu _ rfl rfl rfl ?_) | (refine zbt aA rfl rfl ?_) | (refine zb6 aA rfl rfl ?_) | (refine zaw _ rfl rfl rfl ?_)) | (refine g_un ?_; first | (refine zce rfl ?_) | (refine zcf rfl aO ?_)) | (refine zbf ?_; first | (refine zac aA rfl ?_) | (refine zah _ aA rfl rfl aE rfl ?_) | (refine zaf _ aA rfl aZ aL ?_) | (refine zak _ aA rfl rfl aE aZ aL ?_)) | (refine zbm ?_; first | (refine zay _ aA rfl aL ?_) | (refine zax _ aA rfl rfl (by simp only [lx, Nat.reduceAdd]; first | done | rfl) ?_)) | (refine zbe ?_; first | (refine zau _ aA rfl rfl aO aA ?_) | (refine zav _ aA rfl rfl rfl rfl aO aO (by first | (rw [Nat.zero_add, Int.toNat_natCast]) | (rw [Nat.zero_add]) | rfl) ?_)) | (refine zbw ?_; first | (refine zbl rfl aD rfl ?_) | (refine zbi rfl aD ?_) | (refine zbj rfl aD ?_) | (refine zbk rfl aD rfl ?_)) | (refine zbs ?_; first | (refine zbx rfl rfl aD ?_) | (refine zb8 rfl rfl aD ?_) | (refine zb7 rfl rfl ?_) | (refine zbh rfl rfl (fun h => ?_) (fun h => ?_) <;> (have h' := h; (try simp only [sx] at h')))) | (refine zbd ?_; first | (refine za9 aA rfl ?_) | (refine zbc aA rfl rfl ?_) | (refine zba aA rfl ?_) | (refine zbb aA (evO_ok rfl) ?_)) | (refine zbz _ _ rfl rfl rfl rfl ?_) | (refine zch _ _ rfl rfl ?_) | (refine zbo _ _ _ rfl rfl aE (by first | assumption | (exact TAgg.size aA)) rfl rfl rfl aZ rfl aL (by first | (first | (simp only [lx, Nat.reduceAdd]; first | done | rfl) | fail) | rfl) ?_) | (refine zcl aA aA rfl rfl rfl aO rfl ?_) | (refine zas (hK _ _ (.inl rfl) ?_); clear hK K) | (refine zas (hK _ _ (.inr (by kernel_rfl)) ?_); clear hK K))
      | (refine za3 ?_; first | (refine zbp ?_) | (refine zaj (fun K hK => ?_)) | (refine zan ?_) | (refine za4 ?_) | (refine zbq ?_) | (refine za1 ?_) | (refine zbg ?_; first | (refine zam rfl aD ?_) | (refine zal rfl aD ?_) | (refine zaz rfl (fun h => ?_) (fun h => ?_) <;> (have h' := h; (try simp only [sx] at h')))))
      | (refine za2 ?_) | (refine zai ?_) | (refine zae ?_) | (refine zaq ?_) | (refine zar ?_) | (refine zao ?_) | (refine zap rfl ?_) | (refine zab ?_) | (refine zag ?_) | (refine zbr ?_))
  refine zcd [1, 2, 3, 4, 10, 29] [] (fun q : Nat × List (List PV) => [(9, .osl (1001, 0) 0 (ints b.t.burn).length), (30, .int .i64 q.1)]) (fun q : Nat × List (List PV) => [((1001, 0), some ⟨3, 1, q.2, false⟩)]) (fun q : Nat × List (List PV) => q.1 ≤ b.t.burn.length ∧ q.2.length = b.t.burn.length ∧ (∀ j, j < q.1 → q.2[j]? = some [PV.int .i64 (-1)]) ∧ ∀ e ∈ q.2, e.length = 1) (fun q : Nat × List (List PV) => b.t.burn.length - q.1) ((0, List.replicate (ints b.t.burn).length [.int .i64 0])) rfl rfl (fun _ => rfl) (fun _ => rfl) rfl aW ⟨by simp, by simp, fun j hj => by simp at hj, fun e he => by rw [List.eq_of_mem_replicate he]; rfl⟩ (fun q hq => ?_)
  obtain ⟨i, es⟩ := q
  obtain ⟨hi1, hi2, hi3, hi4⟩ := hq
  simp only at hi1 hi2 hi3 hi4
  dsimp only
  rcases Nat.lt_or_ge i b.t.burn.length with hlt | hge
  · obtain ⟨e, he⟩ := get_ex (show i < es.length by omega)
    obtain ⟨e0, rfl⟩ : ∃ e0, e = [e0] := by
      have := hi4 e (get_mem he)
      match e, this with
      | [a], _ => exact ⟨a, rfl⟩
    repeat' (first
      | (refine za5 ?_; first | (refine za6 ?_; refine zat _ rfl ?_) | (refine zad ?_; refine zaa _ rfl ?_) | (refine zbv ?_; first | (refine zby rfl rfl aO ?_) | (refine zbu _ rfl rfl rfl ?_) | (refine zbt aA rfl rfl ?_) | (refine zb6 aA rfl rfl ?_) | (refine zaw _ rfl rfl rfl ?_)) | (refine g_un ?_; first | (refine zce rfl ?_) | (refine zcf rfl aO ?_)) | (refine zbf ?_; first | (refine zac aA rfl ?_) | (refine zah _ aA rfl rfl aE rfl ?_) | (refine zaf _ aA rfl aZ aL ?_) | (refine zak _ aA rfl rfl aE aZ aL ?_)) | (refine zbm ?_; first | (refine zay _ aA rfl aL ?_) | (refine zax _ aA rfl rfl (by simp only [lx, Nat.reduceAdd]; first | done | rfl) ?_)) | (refine zbe ?_; first | (refine zau _ aA rfl rfl aO aA ?_) | (refine zav _ aA rfl rfl rfl rfl aO aO (by first | (rw [Nat.zero_add, Int.toNat_natCast]) | (rw [Nat.zero_add]) | rfl) ?_)) | (refine zbw ?_; first | (refine zbl rfl aD rfl ?_) | (refine zbi rfl aD ?_) | (refine zbj rfl aD ?_) | (refine zbk rfl aD rfl ?_)) | (refine zbs ?_; first | (refine zbx rfl rfl aD ?_) | (refine zb8 rfl rfl aD ?_) | (refine zb7 rfl rfl ?_) | (refine zbh rfl rfl (fun h => ?_) (fun h => ?_) <;> (have h' := h; (try simp only [sx] at h')))) | (refine zbd ?_; first | (refine za9 aA rfl ?_) | (refine zbc aA rfl rfl ?_) | (refine zba aA rfl ?_) | (refine zbb aA (evO_ok rfl) ?_)) | (refine zbz _ _ rfl rfl rfl rfl ?_) | (refine zch _ _ rfl rfl ?_) | (refine zbo _ _ _ rfl rfl aE (by first | assumption | (exact TAgg.size aA)) rfl rfl rfl aZ rfl aL (by first | (first | (simp only [lx, Nat.reduceAdd]; first | done | rfl) | fail) | rfl) ?_) | (refine zcl aA aA rfl rfl rfl aO rfl ?_) | (refine zas (hK _ _ (.inl rfl) ?_); clear hK K) | (refine zas (hK _ _ (.inr (by kernel_rfl)) ?_); clear hK K))
      | (refine za3 ?_; first | (refine zbp ?_) | (refine zaj (fun K hK => ?_)) | (refine zan ?_) | (refine za4 ?_) | (refine zbq ?_) | (refine za1 ?_) | (refine zbg ?_; first | (refine zam rfl aD ?_) | (refine zal rfl aD ?_) | (refine zaz rfl (fun h => ?_) (fun h => ?_) <;> (have h' := h; (try simp only [sx] at h')))))
      | (refine za2 ?_) | (refine zai ?_) | (refine zae ?_) | (refine zaq ?_) | (refine zar ?_) | (refine zao ?_) | (refine zap rfl ?_) | (refine zab ?_) | (refine zag ?_) | (refine zbr ?_))
    refine zcb (i + 1, es.set i [.int .i64 (-1)]) rfl aW ⟨by simp only; omega, by simp [hi2], fun j hj => ?_, fun e he => ?_⟩ (by simp only; omega)
    · simp only at hj ⊢
      by_cases hji : j = i
      · subst hji
        rw [List.getElem?_set_self aO]
      · rw [List.getElem?_set_ne (fun e => hji e.symm)]
        exact hi3 j aO
    · rcases List.mem_or_eq_of_mem_set he with h1 | h1
      · exact hi4 e h1
      · rw [h1]; rfl
  have hes : es = ints (List.replicate b.t.burn.length (-1)) := List.ext_getElem? fun j => by
    rcases Nat.lt_or_ge j b.t.burn.length with hj | hj
    · rw [hi3 j aO]
      simp [ints, hj]
    · rw [List.getElem?_eq_none aO, List.getElem?_eq_none (by simp; omega)]
  subst hes
  repeat' (first
      | (refine za5 ?_; first | (refine za6 ?_; refine zat _ rfl ?_) | (refine zad ?_; refine zaa _ rfl ?_) | (refine zbv ?_; first | (refine zby rfl rfl aO ?_) | (refine zbu _ rfl rfl rfl ?_) | (refine zbt aA rfl rfl ?_) | (refine zb6 aA rfl rfl ?_) | (refine zaw _ rfl rfl rfl ?_)) | (refine g_un ?_; first | (refine zce rfl ?_) | (refine zcf rfl aO ?_)) | (refine zbf ?_; first | (refine zac aA rfl ?_) | (refine zah _ aA rfl rfl aE rfl ?_) | (refine zaf _ aA rfl aZ aL ?_) | (refine zak _ aA rfl rfl aE aZ aL ?_)) | (refine zbm ?_; first | (refine zay _ aA rfl aL ?_) | (refine zax _ aA rfl rfl (by simp only [lx, Nat.reduceAdd]; first | done | rfl) ?_)) | (refine zbe ?_; first | (refine zau _ aA rfl rfl aO aA ?_) | (refine zav _ aA rfl rfl rfl rfl aO aO (by first | (rw [Nat.zero_add, Int.toNat_natCast]) | (rw [Nat.zero_add]) | rfl) ?_)) | (refine zbw ?_; first | (refine zbl rfl aD rfl ?_) | (refine zbi rfl aD ?_) | (refine zbj rfl aD ?_) | (refine zbk rfl aD rfl ?_)) | (refine zbs ?_; first | (refine zbx rfl rfl aD ?_) | (refine zb8 rfl rfl aD ?_) | (refine zb7 rfl rfl ?_) | (refine zbh rfl rfl (fun h => ?_) (fun h => ?_) <;> (have h' := h; (try simp only [sx] at h')))) | (refine zbd ?_; first | (refine za0 true (kF) rfl rfl rfl aS rfl aH ?_; simp only [cl]) | (refine za9 aA rfl ?_) | (refine zbc aA rfl rfl ?_) | (refine zba aA rfl ?_) | (refine zbb aA (evO_ok rfl) ?_)) | (refine zbz _ _ rfl rfl rfl rfl ?_) | (refine zch _ _ rfl rfl ?_) | (refine zbo _ _ _ rfl rfl aE (by first | assumption | (exact TAgg.size aA)) rfl rfl rfl aZ rfl aL (by first | (first | (simp only [lx, Nat.reduceAdd]; first | done | rfl) | fail) | rfl) ?_) | (refine zcl aA aA rfl rfl rfl aO rfl ?_) | (refine zas (hK _ _ (.inl rfl) ?_); clear hK K) | (refine zas (hK _ _ (.inr (by kernel_rfl)) ?_); clear hK K))
      | (refine za3 ?_; first | (refine zbp ?_) | (refine zaj (fun K hK => ?_)) | (refine zan ?_) | (refine za4 ?_) | (refine zbq ?_) | (refine za1 ?_) | (refine zbg ?_; first | (refine zam rfl aD ?_) | (refine zal rfl aD ?_) | (refine zaz rfl (fun h => ?_) (fun h => ?_) <;> (have h' := h; (try simp only [sx] at h')))))
      | (refine za2 ?_) | (refine zai ?_) | (refine zae ?_) | (refine zaq ?_) | (refine zar ?_) | (refine zao ?_) | (refine zap rfl ?_) | (refine zab ?_) | (refine zag ?_) | (refine zbr ?_))
  refine zcd [1, 3, 4, 10, 40, 41] [] (fun q : Nat × List (List PV) × List Int => [(9, .osl (1001, 0) 0 (ints b.t.burn).length), (42, .int .i64 q.1)]) (fun q : Nat × List (List PV) × List Int => [((1001, 0), some ⟨3, 1, q.2.1, false⟩)]) (fun q : Nat × List (List PV) × List Int => q.1 ≤ fl.length ∧ q.2.1 = ints q.2.2 ∧ q.2.2.length = b.t.burn.length ∧ ∀ c, IsCell b.t c → tv q.2.2 c = if c ∈ fl.take q.1 then b.st else -1) (fun q : Nat × List (List PV) × List Int => fl.length - q.1) ((0, ints (List.replicate b.t.burn.length (-1)), List.replicate b.t.burn.length (-1))) rfl rfl (fun _ => rfl) (fun _ => rfl) rfl aW ⟨by simp, rfl, by simp, fun c hc => by unfold tv; rw [List.getD_eq_getElem?_getD, List.getElem?_replicate]; simp; split <;> rfl⟩ (fun q hq => ?_)
  obtain ⟨j, fs, T⟩ := q
  obtain ⟨hj1, hj2, hj3, hj4⟩ := hq
  simp only at hj1 hj2 hj3 hj4
  have hlf : fs.length = b.t.burn.length := by rw [hj2, ints_len, hj3]
  dsimp only
  rcases Nat.lt_or_ge j fl.length with hlt | hge2
  · obtain ⟨c, hc⟩ := get_ex hlt
    have hxc := ints_at hc
    have hcs : c ∈ b.src ∧ 0 < burnAt b.t c := by
      have := get_mem hc
      rw [← hfl, List.mem_filter] at this
      exact ⟨this.1, by simpa using this.2⟩
    have hcc := hb.1.2.1 c hcs.1
    have hcc' := hcc
    unfold IsCell at hcc'
    have hgc : fs[c.toNat]? = some [.int .i64 (tv T c)] := by rw [hj2]; exact tv_int (cell_inT (b := b) hj3 hcc)
    repeat' (first
      | (refine za5 ?_; first | (refine za6 ?_; refine zat _ rfl ?_) | (refine zad ?_; refine zaa _ rfl ?_) | (refine zbv ?_; first | (refine zby rfl rfl aO ?_) | (refine zbu _ rfl rfl rfl ?_) | (refine zbt aA rfl rfl ?_) | (refine zb6 aA rfl rfl ?_) | (refine zaw _ rfl rfl rfl ?_)) | (refine g_un ?_; first | (refine zce rfl ?_) | (refine zcf rfl aO ?_)) | (refine zbf ?_; first | (refine zac aA rfl ?_) | (refine zah _ aA rfl rfl aE rfl ?_) | (refine zaf _ aA rfl aZ aL ?_) | (refine zak _ aA rfl rfl aE aZ aL ?_)) | (refine zbm ?_; first | (refine zay _ aA rfl aL ?_) | (refine zax _ aA rfl rfl (by simp only [lx, Nat.reduceAdd]; first | done | rfl) ?_)) | (refine zbe ?_; first | (refine zau _ aA rfl rfl aO aA ?_) | (refine zav _ aA rfl rfl rfl rfl aO aO (by first | (rw [Nat.zero_add, Int.toNat_natCast]) | (rw [Nat.zero_add]) | rfl) ?_)) | (refine zbw ?_; first | (refine zbl rfl aD rfl ?_) | (refine zbi rfl aD ?_) | (refine zbj rfl aD ?_) | (refine zbk rfl aD rfl ?_)) | (refine zbs ?_; first | (refine zbx rfl rfl aD ?_) | (refine zb8 rfl rfl aD ?_) | (refine zb7 rfl rfl ?_) | (refine zbh rfl rfl (fun h => ?_) (fun h => ?_) <;> (have h' := h; (try simp only [sx] at h')))) | (refine zbd ?_; first | (refine za9 aA rfl ?_) | (refine zbc aA rfl rfl ?_) | (refine zba aA rfl ?_) | (refine zbb aA (evO_ok rfl) ?_)) | (refine zbz _ _ rfl rfl rfl rfl ?_) | (refine zch _ _ rfl rfl ?_) | (refine zbo _ _ _ rfl rfl aE (by first | assumption | (exact TAgg.size aA)) rfl rfl rfl aZ rfl aL (by first | (first | (simp only [lx, Nat.reduceAdd]; first | done | rfl) | fail) | rfl) ?_) | (refine zcl aA aA rfl rfl rfl aO rfl ?_) | (refine zas (hK _ _ (.inl rfl) ?_); clear hK K) | (refine zas (hK _ _ (.inr (by kernel_rfl)) ?_); clear hK K))
      | (refine za3 ?_; first | (refine zbp ?_) | (refine zaj (fun K hK => ?_)) | (refine zan ?_) | (refine za4 ?_) | (refine zbq ?_) | (refine za1 ?_) | (refine zbg ?_; first | (refine zam rfl aD ?_) | (refine zal rfl aD ?_) | (refine zaz rfl (fun h => ?_) (fun h => ?_) <;> (have h' := h; (try simp only [sx] at h')))))
      | (refine za2 ?_) | (refine zai ?_) | (refine zae ?_) | (refine zaq ?_) | (refine zar ?_) | (refine zao ?_) | (refine zap rfl ?_) | (refine zab ?_) | (refine zag ?_) | (refine zbr ?_))
    refine zcb (j + 1, fs.set c.toNat [.int .i64 b.st], T.set c.toNat b.st) rfl aW ⟨by simp only; omega, by simp only [ints_set, hj2], by simp [hj3], fun y hy => ?_⟩ (by simp only; omega)
    simp only [take_succ hc, List.mem_append, List.mem_singleton]
    rw [tv_set b.st (cell_inT (b := b) hj3 hcc), hj4 y hy]
    have hyc : y.toNat = c.toNat ↔ y = c := by have h1 := hy.1; have h2 := hcc.1; omega
    by_cases he : y = c
    · rw [if_pos (hyc.2 he), if_pos (.inr he)]
    · rw [if_neg (fun h => he (hyc.1 h))]
      by_cases hm : y ∈ fl.take j
      · rw [if_pos hm, if_pos (.inl hm)]
      · rw [if_neg hm, if_neg (fun h => h.elim hm he)]
  have hT : T = iniL b := tv_extB (b := b) hj3 (iniL_len b) fun c hc => by
    rw [hj4 c hc, ini_tv hc, take_all hge2, ← hfl]
    simp only [List.mem_filter, decide_eq_true_eq, and_comm]
  subst hT
  repeat' (first
      | (refine za5 ?_; first | (refine za6 ?_; refine zat _ rfl ?_) | (refine zad ?_; refine zaa _ rfl ?_) | (refine zbv ?_; first | (refine zby rfl rfl aO ?_) | (refine zbu _ rfl rfl rfl ?_) | (refine zbt aA rfl rfl ?_) | (refine zb6 aA rfl rfl ?_) | (refine zaw _ rfl rfl rfl ?_)) | (refine g_un ?_; first | (refine zce rfl ?_) | (refine zcf rfl aO ?_)) | (refine zbf ?_; first | (refine zac aA rfl ?_) | (refine zah _ aA rfl rfl aE rfl ?_) | (refine zaf _ aA rfl aZ aL ?_) | (refine zak _ aA rfl rfl aE aZ aL ?_)) | (refine zbm ?_; first | (refine zay _ aA rfl aL ?_) | (refine zax _ aA rfl rfl (by simp only [lx, Nat.reduceAdd]; first | done | rfl) ?_)) | (refine zbe ?_; first | (refine zau _ aA rfl rfl aO aA ?_) | (refine zav _ aA rfl rfl rfl rfl aO aO (by first | (rw [Nat.zero_add, Int.toNat_natCast]) | (rw [Nat.zero_add]) | rfl) ?_)) | (refine zbw ?_; first | (refine zbl rfl aD rfl ?_) | (refine zbi rfl aD ?_) | (refine zbj rfl aD ?_) | (refine zbk rfl aD rfl ?_)) | (refine zbs ?_; first | (refine zbx rfl rfl aD ?_) | (refine zb8 rfl rfl aD ?_) | (refine zb7 rfl rfl ?_) | (refine zbh rfl rfl (fun h => ?_) (fun h => ?_) <;> (have h' := h; (try simp only [sx] at h')))) | (refine zbd ?_; first | (refine za9 aA rfl ?_) | (refine zbc aA rfl rfl ?_) | (refine zba aA rfl ?_) | (refine zbb aA (evO_ok rfl) ?_)) | (refine zbz _ _ rfl rfl rfl rfl ?_) | (refine zch _ _ rfl rfl ?_) | (refine zbo _ _ _ rfl rfl aE (by first | assumption | (exact TAgg.size aA)) rfl rfl rfl aZ rfl aL (by first | (first | (simp only [lx, Nat.reduceAdd]; first | done | rfl) | fail) | rfl) ?_) | (refine zcl aA aA rfl rfl rfl aO rfl ?_) | (refine zas (hK _ _ (.inl rfl) ?_); clear hK K) | (refine zas (hK _ _ (.inr (by kernel_rfl)) ?_); clear hK K))
      | (refine za3 ?_; first | (refine zbp ?_) | (refine zaj (fun K hK => ?_)) | (refine zan ?_) | (refine za4 ?_) | (refine zbq ?_) | (refine za1 ?_) | (refine zbg ?_; first | (refine zam rfl aD ?_) | (refine zal rfl aD ?_) | (refine zaz rfl (fun h => ?_) (fun h => ?_) <;> (have h' := h; (try simp only [sx] at h')))))
      | (refine za2 ?_) | (refine zai ?_) | (refine zae ?_) | (refine zaq ?_) | (refine zar ?_) | (refine zao ?_) | (refine zap rfl ?_) | (refine zab ?_) | (refine zag ?_) | (refine zbr ?_))
  refine zcd [1, 4] [] (fun q : List (List PV) × List (List PV) × List Int × List Bool => [(9, .osl (1001, 0) 0 (ints b.t.burn).length), (10, .osl (1002, 0) 0 (ints b.t.burn).length)]) (fun q : List (List PV) × List (List PV) × List Int × List Bool => [((1001, 0), some ⟨3, 1, q.1, false⟩), ((1002, 0), some ⟨4, 1, q.2.1, false⟩)]) (fun q : List (List PV) × List (List PV) × List Int × List Bool => q.1 = ints q.2.2.1 ∧ q.2.1 = bools q.2.2.2 ∧ Mid b q.2.2.1 ∧ Fix b q.2.2.1 q.2.2.2) (fun q : List (List PV) × List (List PV) × List Int × List Bool => (freeN q.2.2.2).toNat) ((fs, List.replicate (ints b.t.burn).length [.bool false], iniL b, List.replicate b.t.burn.length false)) rfl rfl (fun _ => rfl) (fun _ => rfl) rfl aW ⟨hj2, by simp [bools], ini_mid hb, fix_ini⟩ (fun q hq => ?_)
  obtain ⟨us, gs, U, F⟩ := q
  obtain ⟨hq1, hq2, hM, hF⟩ := hq
  simp only at hq1 hq2 hM hF
  have hlu : us.length = b.t.burn.length := by rw [hq1, ints_len, hM.pre.len]
  have hlg : gs.length = b.t.burn.length := by rw [hq2, List.length_map, hF.len]
  dsimp only
  repeat' (first
      | (refine za5 ?_; first | (refine za6 ?_; refine zat _ rfl ?_) | (refine zad ?_; refine zaa _ rfl ?_) | (refine zbv ?_; first | (refine zby rfl rfl aO ?_) | (refine zbu _ rfl rfl rfl ?_) | (refine zbt aA rfl rfl ?_) | (refine zb6 aA rfl rfl ?_) | (refine zaw _ rfl rfl rfl ?_)) | (refine g_un ?_; first | (refine zce rfl ?_) | (refine zcf rfl aO ?_)) | (refine zbf ?_; first | (refine zac aA rfl ?_) | (refine zah _ aA rfl rfl aE rfl ?_) | (refine zaf _ aA rfl aZ aL ?_) | (refine zak _ aA rfl rfl aE aZ aL ?_)) | (refine zbm ?_; first | (refine zay _ aA rfl aL ?_) | (refine zax _ aA rfl rfl (by simp only [lx, Nat.reduceAdd]; first | done | rfl) ?_)) | (refine zbe ?_; first | (refine zau _ aA rfl rfl aO aA ?_) | (refine zav _ aA rfl rfl rfl rfl aO aO (by first | (rw [Nat.zero_add, Int.toNat_natCast]) | (rw [Nat.zero_add]) | rfl) ?_)) | (refine zbw ?_; first | (refine zbl rfl aD rfl ?_) | (refine zbi rfl aD ?_) | (refine zbj rfl aD ?_) | (refine zbk rfl aD rfl ?_)) | (refine zbs ?_; first | (refine zbx rfl rfl aD ?_) | (refine zb8 rfl rfl aD ?_) | (refine zb7 rfl rfl ?_) | (refine zbh rfl rfl (fun h => ?_) (fun h => ?_) <;> (have h' := h; (try simp only [sx] at h')))) | (refine zbd ?_; first | (refine za9 aA rfl ?_) | (refine zbc aA rfl rfl ?_) | (refine zba aA rfl ?_) | (refine zbb aA (evO_ok rfl) ?_)) | (refine zbz _ _ rfl rfl rfl rfl ?_) | (refine zch _ _ rfl rfl ?_) | (refine zbo _ _ _ rfl rfl aE (by first | assumption | (exact TAgg.size aA)) rfl rfl rfl aZ rfl aL (by first | (first | (simp only [lx, Nat.reduceAdd]; first | done | rfl) | fail) | rfl) ?_) | (refine zcl aA aA rfl rfl rfl aO rfl ?_) | (refine zas (hK _ _ (.inl rfl) ?_); clear hK K) | (refine zas (hK _ _ (.inr (by kernel_rfl)) ?_); clear hK K))
      | (refine za3 ?_; first | (refine zbp ?_) | (refine zaj (fun K hK => ?_)) | (refine zan ?_) | (refine za4 ?_) | (refine zbq ?_) | (refine za1 ?_) | (refine zbg ?_; first | (refine zam rfl aD ?_) | (refine zal rfl aD ?_) | (refine zaz rfl (fun h => ?_) (fun h => ?_) <;> (have h' := h; (try simp only [sx] at h')))))
      | (refine za2 ?_) | (refine zai ?_) | (refine zae ?_) | (refine zaq ?_) | (refine zar ?_) | (refine zao ?_) | (refine zap rfl ?_) | (refine zab ?_) | (refine zag ?_) | (refine zbr ?_))
  refine zcd [1, 4, 9, 10, 51, 52] [] (fun r : Nat × Int => [(14, .int .i64 r.2), (53, .int .i64 r.1)]) (fun r : Nat × Int => []) (fun r : Nat × Int => r.1 ≤ b.t.burn.length ∧ BestOf U F r.1 r.2) (fun r : Nat × Int => b.t.burn.length - r.1) ((0, -1)) rfl rfl (fun _ => rfl) (fun _ => rfl) rfl aW ⟨by simp, .inl ⟨rfl, fun c hc => by simp at hc⟩⟩ (fun r hr => ?_)
  obtain ⟨n, m⟩ := r
  obtain ⟨hn1, hn2⟩ := hr
  simp only at hn1 hn2
  dsimp only
  rcases Nat.lt_or_ge n b.t.burn.length with hlt3 | hge3
  · have hcn : IsCell b.t (n : Int) := ⟨by omega, by omega⟩
    have hun : us[n]? = some [.int .i64 (tv U n)] := by rw [hq1]; exact tv_nat (by rw [hM.pre.len]; exact hlt3)
    have hgn : gs[n]? = some [.bool (fv F n)] := by
      have := fv_at (F := F) (c := (n : Int)) (by rw [Int.toNat_natCast, hF.len]; exact hlt3)
      rw [Int.toNat_natCast] at this
      rw [hq2]; exact this
    by_cases hm0 : m < 0
    · by_cases hnew : fv F n = false ∧ tv U n ≠ -1
      · obtain ⟨hnew1, hnew2⟩ := hnew
        rw [hnew1] at hgn
        repeat' (first
      | (refine za5 ?_; first | (refine za6 ?_; refine zat _ rfl ?_) | (refine zad ?_; refine zaa _ rfl ?_) | (refine zbv ?_; first | (refine zby rfl rfl aO ?_) | (refine zbu _ rfl rfl rfl ?_) | (refine zbt aA rfl rfl ?_) | (refine zb6 aA rfl rfl ?_) | (refine zaw _ rfl rfl rfl ?_)) | (refine g_un ?_; first | (refine zce rfl ?_) | (refine zcf rfl aO ?_)) | (refine zbf ?_; first | (refine zac aA rfl ?_) | (refine zah _ aA rfl rfl aE rfl ?_) | (refine zaf _ aA rfl aZ aL ?_) | (refine zak _ aA rfl rfl aE aZ aL ?_)) | (refine zbm ?_; first | (refine zay _ aA rfl aL ?_) | (refine zax _ aA rfl rfl (by simp only [lx, Nat.reduceAdd]; first | done | rfl) ?_)) | (refine zbe ?_; first | (refine zau _ aA rfl rfl aO aA ?_) | (refine zav _ aA rfl rfl rfl rfl aO aO (by first | (rw [Nat.zero_add, Int.toNat_natCast]) | (rw [Nat.zero_add]) | rfl) ?_)) | (refine zbw ?_; first | (refine zbl rfl aD rfl ?_) | (refine zbi rfl aD ?_) | (refine zbj rfl aD ?_) | (refine zbk rfl aD rfl ?_)) | (refine zbs ?_; first | (refine zbx rfl rfl aD ?_) | (refine zb8 rfl rfl aD ?_) | (refine zb7 rfl rfl ?_) | (refine zbh rfl rfl (fun h => ?_) (fun h => ?_) <;> (have h' := h; (try simp only [sx] at h')))) | (refine zbd ?_; first | (refine za9 aA rfl ?_) | (refine zbc aA rfl rfl ?_) | (refine zba aA rfl ?_) | (refine zbb aA (evO_ok rfl) ?_)) | (refine zbz _ _ rfl rfl rfl rfl ?_) | (refine zch _ _ rfl rfl ?_) | (refine zbo _ _ _ rfl rfl aE (by first | assumption | (exact TAgg.size aA)) rfl rfl rfl aZ rfl aL (by first | (first | (simp only [lx, Nat.reduceAdd]; first | done | rfl) | fail) | rfl) ?_) | (refine zcl aA aA rfl rfl rfl aO rfl ?_) | (refine zas (hK _ _ (.inl rfl) ?_); clear hK K) | (refine zas (hK _ _ (.inr (by kernel_rfl)) ?_); clear hK K))
      | (refine za3 ?_; first | (refine zbp ?_) | (refine zaj (fun K hK => ?_)) | (refine zan ?_) | (refine za4 ?_) | (refine zbq ?_) | (refine za1 ?_) | (refine zbg ?_; first | (refine zam rfl aD ?_) | (refine zal rfl aD ?_) | (refine zaz rfl (fun h => ?_) (fun h => ?_) <;> (have h' := h; (try simp only [sx] at h')))))
      | (refine za2 ?_) | (refine zai ?_) | (refine zae ?_) | (refine zaq ?_) | (refine zar ?_) | (refine zao ?_) | (refine zap rfl ?_) | (refine zab ?_) | (refine zag ?_) | (refine zbr ?_))
        all_goals first
          | (exfalso; omega)
          | (refine zcb (n + 1, (n : Int)) rfl aW ⟨by simp only; omega, best_new hn2 hnew1 hnew2 (.inl hm0)⟩ (by simp only; omega))
      · have hold : BestOf U F (n + 1) m := best_same hn2 (by
          by_cases h1 : fv F n = true
          · exact .inl h1
          · by_cases h2 : tv U n = -1
            · exact .inr (.inl h2)
            · exact absurd ⟨by simpa using h1, h2⟩ hnew)
        cases hfn : fv F n
        · rw [hfn] at hgn
          have h2 : tv U n = -1 := Decidable.byContradiction fun h => hnew ⟨hfn, h⟩
          rw [h2] at hun
          repeat' (first
      | (refine za5 ?_; first | (refine za6 ?_; refine zat _ rfl ?_) | (refine zad ?_; refine zaa _ rfl ?_) | (refine zbv ?_; first | (refine zby rfl rfl aO ?_) | (refine zbu _ rfl rfl rfl ?_) | (refine zbt aA rfl rfl ?_) | (refine zb6 aA rfl rfl ?_) | (refine zaw _ rfl rfl rfl ?_)) | (refine g_un ?_; first | (refine zce rfl ?_) | (refine zcf rfl aO ?_)) | (refine zbf ?_; first | (refine zac aA rfl ?_) | (refine zah _ aA rfl rfl aE rfl ?_) | (refine zaf _ aA rfl aZ aL ?_) | (refine zak _ aA rfl rfl aE aZ aL ?_)) | (refine zbm ?_; first | (refine zay _ aA rfl aL ?_) | (refine zax _ aA rfl rfl (by simp only [lx, Nat.reduceAdd]; first | done | rfl) ?_)) | (refine zbe ?_; first | (refine zau _ aA rfl rfl aO aA ?_) | (refine zav _ aA rfl rfl rfl rfl aO aO (by first | (rw [Nat.zero_add, Int.toNat_natCast]) | (rw [Nat.zero_add]) | rfl) ?_)) | (refine zbw ?_; first | (refine zbl rfl aD rfl ?_) | (refine zbi rfl aD ?_) | (refine zbj rfl aD ?_) | (refine zbk rfl aD rfl ?_)) | (refine zbs ?_; first | (refine zbx rfl rfl aD ?_) | (refine zb8 rfl rfl aD ?_) | (refine zb7 rfl rfl ?_) | (refine zbh rfl rfl (fun h => ?_) (fun h => ?_) <;> (have h' := h; (try simp only [sx] at h')))) | (refine zbd ?_; first | (refine za9 aA rfl ?_) | (refine zbc aA rfl rfl ?_) | (refine zba aA rfl ?_) | (refine zbb aA (evO_ok rfl) ?_)) | (refine zbz _ _ rfl rfl rfl rfl ?_) | (refine zch _ _ rfl rfl ?_) | (refine zbo _ _ _ rfl rfl aE (by first | assumption | (exact TAgg.size aA)) rfl rfl rfl aZ rfl aL (by first | (first | (simp only [lx, Nat.reduceAdd]; first | done | rfl) | fail) | rfl) ?_) | (refine zcl aA aA rfl rfl rfl aO rfl ?_) | (refine zas (hK _ _ (.inl rfl) ?_); clear hK K) | (refine zas (hK _ _ (.inr (by kernel_rfl)) ?_); clear hK K))
      | (refine za3 ?_; first | (refine zbp ?_) | (refine zaj (fun K hK => ?_)) | (refine zan ?_) | (refine za4 ?_) | (refine zbq ?_) | (refine za1 ?_) | (refine zbg ?_; first | (refine zam rfl aD ?_) | (refine zal rfl aD ?_) | (refine zaz rfl (fun h => ?_) (fun h => ?_) <;> (have h' := h; (try simp only [sx] at h')))))
      | (refine za2 ?_) | (refine zai ?_) | (refine zae ?_) | (refine zaq ?_) | (refine zar ?_) | (refine zao ?_) | (refine zap rfl ?_) | (refine zab ?_) | (refine zag ?_) | (refine zbr ?_))
          all_goals first
            | (exfalso; omega)
            | (refine zcb (n + 1, m) rfl aW ⟨by simp only; omega, hold⟩ (by simp only; omega))
        · rw [hfn] at hgn
          repeat' (first
      | (refine za5 ?_; first | (refine za6 ?_; refine zat _ rfl ?_) | (refine zad ?_; refine zaa _ rfl ?_) | (refine zbv ?_; first | (refine zby rfl rfl aO ?_) | (refine zbu _ rfl rfl rfl ?_) | (refine zbt aA rfl rfl ?_) | (refine zb6 aA rfl rfl ?_) | (refine zaw _ rfl rfl rfl ?_)) | (refine g_un ?_; first | (refine zce rfl ?_) | (refine zcf rfl aO ?_)) | (refine zbf ?_; first | (refine zac aA rfl ?_) | (refine zah _ aA rfl rfl aE rfl ?_) | (refine zaf _ aA rfl aZ aL ?_) | (refine zak _ aA rfl rfl aE aZ aL ?_)) | (refine zbm ?_; first | (refine zay _ aA rfl aL ?_) | (refine zax _ aA rfl rfl (by simp only [lx, Nat.reduceAdd]; first | done | rfl) ?_)) | (refine zbe ?_; first | (refine zau _ aA rfl rfl aO aA ?_) | (refine zav _ aA rfl rfl rfl rfl aO aO (by first | (rw [Nat.zero_add, Int.toNat_natCast]) | (rw [Nat.zero_add]) | rfl) ?_)) | (refine zbw ?_; first | (refine zbl rfl aD rfl ?_) | (refine zbi rfl aD ?_) | (refine zbj rfl aD ?_) | (refine zbk rfl aD rfl ?_)) | (refine zbs ?_; first | (refine zbx rfl rfl aD ?_) | (refine zb8 rfl rfl aD ?_) | (refine zb7 rfl rfl ?_) | (refine zbh rfl rfl (fun h => ?_) (fun h => ?_) <;> (have h' := h; (try simp only [sx] at h')))) | (refine zbd ?_; first | (refine za9 aA rfl ?_) | (refine zbc aA rfl rfl ?_) | (refine zba aA rfl ?_) | (refine zbb aA (evO_ok rfl) ?_)) | (refine zbz _ _ rfl rfl rfl rfl ?_) | (refine zch _ _ rfl rfl ?_) | (refine zbo _ _ _ rfl rfl aE (by first | assumption | (exact TAgg.size aA)) rfl rfl rfl aZ rfl aL (by first | (first | (simp only [lx, Nat.reduceAdd]; first | done | rfl) | fail) | rfl) ?_) | (refine zcl aA aA rfl rfl rfl aO rfl ?_) | (refine zas (hK _ _ (.inl rfl) ?_); clear hK K) | (refine zas (hK _ _ (.inr (by kernel_rfl)) ?_); clear hK K))
      | (refine za3 ?_; first | (refine zbp ?_) | (refine zaj (fun K hK => ?_)) | (refine zan ?_) | (refine za4 ?_) | (refine zbq ?_) | (refine za1 ?_) | (refine zbg ?_; first | (refine zam rfl aD ?_) | (refine zal rfl aD ?_) | (refine zaz rfl (fun h => ?_) (fun h => ?_) <;> (have h' := h; (try simp only [sx] at h')))))
      | (refine za2 ?_) | (refine zai ?_) | (refine zae ?_) | (refine zaq ?_) | (refine zar ?_) | (refine zao ?_) | (refine zap rfl ?_) | (refine zab ?_) | (refine zag ?_) | (refine zbr ?_))
          all_goals first
            | (exfalso; omega)
            | (refine zcb (n + 1, m) rfl aW ⟨by simp only; omega, hold⟩ (by simp only; omega))
    · have hmc : IsCell b.t m := by
        rcases hn2 with ⟨h1, _⟩ | ⟨h1, h2, _⟩
        · omega
        · exact ⟨h1, by omega⟩
      have hmc' := hmc
      unfold IsCell at hmc'
      have hum : us[m.toNat]? = some [.int .i64 (tv U m)] := by rw [hq1]; exact tv_int (cell_inT hM.pre.len hmc)
      by_cases hnew : fv F n = false ∧ tv U n ≠ -1 ∧ tv U n < tv U m
      · obtain ⟨hnew1, hnew2, hnew3⟩ := hnew
        rw [hnew1] at hgn
        repeat' (first
      | (refine za5 ?_; first | (refine za6 ?_; refine zat _ rfl ?_) | (refine zad ?_; refine zaa _ rfl ?_) | (refine zbv ?_; first | (refine zby rfl rfl aO ?_) | (refine zbu _ rfl rfl rfl ?_) | (refine zbt aA rfl rfl ?_) | (refine zb6 aA rfl rfl ?_) | (refine zaw _ rfl rfl rfl ?_)) | (refine g_un ?_; first | (refine zce rfl ?_) | (refine zcf rfl aO ?_)) | (refine zbf ?_; first | (refine zac aA rfl ?_) | (refine zah _ aA rfl rfl aE rfl ?_) | (refine zaf _ aA rfl aZ aL ?_) | (refine zak _ aA rfl rfl aE aZ aL ?_)) | (refine zbm ?_; first | (refine zay _ aA rfl aL ?_) | (refine zax _ aA rfl rfl (by simp only [lx, Nat.reduceAdd]; first | done | rfl) ?_)) | (refine zbe ?_; first | (refine zau _ aA rfl rfl aO aA ?_) | (refine zav _ aA rfl rfl rfl rfl aO aO (by first | (rw [Nat.zero_add, Int.toNat_natCast]) | (rw [Nat.zero_add]) | rfl) ?_)) | (refine zbw ?_; first | (refine zbl rfl aD rfl ?_) | (refine zbi rfl aD ?_) | (refine zbj rfl aD ?_) | (refine zbk rfl aD rfl ?_)) | (refine zbs ?_; first | (refine zbx rfl rfl aD ?_) | (refine zb8 rfl rfl aD ?_) | (refine zb7 rfl rfl ?_) | (refine zbh rfl rfl (fun h => ?_) (fun h => ?_) <;> (have h' := h; (try simp only [sx] at h')))) | (refine zbd ?_; first | (refine za9 aA rfl ?_) | (refine zbc aA rfl rfl ?_) | (refine zba aA rfl ?_) | (refine zbb aA (evO_ok rfl) ?_)) | (refine zbz _ _ rfl rfl rfl rfl ?_) | (refine zch _ _ rfl rfl ?_) | (refine zbo _ _ _ rfl rfl aE (by first | assumption | (exact TAgg.size aA)) rfl rfl rfl aZ rfl aL (by first | (first | (simp only [lx, Nat.reduceAdd]; first | done | rfl) | fail) | rfl) ?_) | (refine zcl aA aA rfl rfl rfl aO rfl ?_) | (refine zas (hK _ _ (.inl rfl) ?_); clear hK K) | (refine zas (hK _ _ (.inr (by kernel_rfl)) ?_); clear hK K))
      | (refine za3 ?_; first | (refine zbp ?_) | (refine zaj (fun K hK => ?_)) | (refine zan ?_) | (refine za4 ?_) | (refine zbq ?_) | (refine za1 ?_) | (refine zbg ?_; first | (refine zam rfl aD ?_) | (refine zal rfl aD ?_) | (refine zaz rfl (fun h => ?_) (fun h => ?_) <;> (have h' := h; (try simp only [sx] at h')))))
      | (refine za2 ?_) | (refine zai ?_) | (refine zae ?_) | (refine zaq ?_) | (refine zar ?_) | (refine zao ?_) | (refine zap rfl ?_) | (refine zab ?_) | (refine zag ?_) | (refine zbr ?_))
        all_goals first
          | (exfalso; omega)
          | (refine zcb (n + 1, (n : Int)) rfl aW ⟨by simp only; omega, best_new hn2 hnew1 hnew2 (.inr hnew3)⟩ (by simp only; omega))
      · have hold : BestOf U F (n + 1) m := best_same hn2 (by
          by_cases h1 : fv F n = true
          · exact .inl h1
          · by_cases h2 : tv U n = -1
            · exact .inr (.inl h2)
            · refine .inr (.inr ⟨by omega, ?_⟩)
              have : ¬ tv U n < tv U m := fun h => hnew ⟨by simpa using h1, h2, h⟩
              omega)
        cases hfn : fv F n
        · rw [hfn] at hgn
          by_cases h2 : tv U n = -1
          · repeat' (first
      | (refine za5 ?_; first | (refine za6 ?_; refine zat _ rfl ?_) | (refine zad ?_; refine zaa _ rfl ?_) | (refine zbv ?_; first | (refine zby rfl rfl aO ?_) | (refine zbu _ rfl rfl rfl ?_) | (refine zbt aA rfl rfl ?_) | (refine zb6 aA rfl rfl ?_) | (refine zaw _ rfl rfl rfl ?_)) | (refine g_un ?_; first | (refine zce rfl ?_) | (refine zcf rfl aO ?_)) | (refine zbf ?_; first | (refine zac aA rfl ?_) | (refine zah _ aA rfl rfl aE rfl ?_) | (refine zaf _ aA rfl aZ aL ?_) | (refine zak _ aA rfl rfl aE aZ aL ?_)) | (refine zbm ?_; first | (refine zay _ aA rfl aL ?_) | (refine zax _ aA rfl rfl (by simp only [lx, Nat.reduceAdd]; first | done | rfl) ?_)) | (refine zbe ?_; first | (refine zau _ aA rfl rfl aO aA ?_) | (refine zav _ aA rfl rfl rfl rfl aO aO (by first | (rw [Nat.zero_add, Int.toNat_natCast]) | (rw [Nat.zero_add]) | rfl) ?_)) | (refine zbw ?_; first | (refine zbl rfl aD rfl ?_) | (refine zbi rfl aD ?_) | (refine zbj rfl aD ?_) | (refine zbk rfl aD rfl ?_)) | (refine zbs ?_; first | (refine zbx rfl rfl aD ?_) | (refine zb8 rfl rfl aD ?_) | (refine zb7 rfl rfl ?_) | (refine zbh rfl rfl (fun h => ?_) (fun h => ?_) <;> (have h' := h; (try simp only [sx] at h')))) | (refine zbd ?_; first | (refine za9 aA rfl ?_) | (refine zbc aA rfl rfl ?_) | (refine zba aA rfl ?_) | (refine zbb aA (evO_ok rfl) ?_)) | (refine zbz _ _ rfl rfl rfl rfl ?_) | (refine zch _ _ rfl rfl ?_) | (refine zbo _ _ _ rfl rfl aE (by first | assumption | (exact TAgg.size aA)) rfl rfl rfl aZ rfl aL (by first | (first | (simp only [lx, Nat.reduceAdd]; first | done | rfl) | fail) | rfl) ?_) | (refine zcl aA aA rfl rfl rfl aO rfl ?_) | (refine zas (hK _ _ (.inl rfl) ?_); clear hK K) | (refine zas (hK _ _ (.inr (by kernel_rfl)) ?_); clear hK K))
      | (refine za3 ?_; first | (refine zbp ?_) | (refine zaj (fun K hK => ?_)) | (refine zan ?_) | (refine za4 ?_) | (refine zbq ?_) | (refine za1 ?_) | (refine zbg ?_; first | (refine zam rfl aD ?_) | (refine zal rfl aD ?_) | (refine zaz rfl (fun h => ?_) (fun h => ?_) <;> (have h' := h; (try simp only [sx] at h')))))
      | (refine za2 ?_) | (refine zai ?_) | (refine zae ?_) | (refine zaq ?_) | (refine zar ?_) | (refine zao ?_) | (refine zap rfl ?_) | (refine zab ?_) | (refine zag ?_) | (refine zbr ?_))
            all_goals first
              | (exfalso; omega)
              | (refine zcb (n + 1, m) rfl aW ⟨by simp only; omega, hold⟩ (by simp only; omega))
          · have h3 : ¬ tv U n < tv U m := fun h => hnew ⟨hfn, h2, h⟩
            repeat' (first
      | (refine za5 ?_; first | (refine za6 ?_; refine zat _ rfl ?_) | (refine zad ?_; refine zaa _ rfl ?_) | (refine zbv ?_; first | (refine zby rfl rfl aO ?_) | (refine zbu _ rfl rfl rfl ?_) | (refine zbt aA rfl rfl ?_) | (refine zb6 aA rfl rfl ?_) | (refine zaw _ rfl rfl rfl ?_)) | (refine g_un ?_; first | (refine zce rfl ?_) | (refine zcf rfl aO ?_)) | (refine zbf ?_; first | (refine zac aA rfl ?_) | (refine zah _ aA rfl rfl aE rfl ?_) | (refine zaf _ aA rfl aZ aL ?_) | (refine zak _ aA rfl rfl aE aZ aL ?_)) | (refine zbm ?_; first | (refine zay _ aA rfl aL ?_) | (refine zax _ aA rfl rfl (by simp only [lx, Nat.reduceAdd]; first | done | rfl) ?_)) | (refine zbe ?_; first | (refine zau _ aA rfl rfl aO aA ?_) | (refine zav _ aA rfl rfl rfl rfl aO aO (by first | (rw [Nat.zero_add, Int.toNat_natCast]) | (rw [Nat.zero_add]) | rfl) ?_)) | (refine zbw ?_; first | (refine zbl rfl aD rfl ?_) | (refine zbi rfl aD ?_) | (refine zbj rfl aD ?_) | (refine zbk rfl aD rfl ?_)) | (refine zbs ?_; first | (refine zbx rfl rfl aD ?_) | (refine zb8 rfl rfl aD ?_) | (refine zb7 rfl rfl ?_) | (refine zbh rfl rfl (fun h => ?_) (fun h => ?_) <;> (have h' := h; (try simp only [sx] at h')))) | (refine zbd ?_; first | (refine za9 aA rfl ?_) | (refine zbc aA rfl rfl ?_) | (refine zba aA rfl ?_) | (refine zbb aA (evO_ok rfl) ?_)) | (refine zbz _ _ rfl rfl rfl rfl ?_) | (refine zch _ _ rfl rfl ?_) | (refine zbo _ _ _ rfl rfl aE (by first | assumption | (exact TAgg.size aA)) rfl rfl rfl aZ rfl aL (by first | (first | (simp only [lx, Nat.reduceAdd]; first | done | rfl) | fail) | rfl) ?_) | (refine zcl aA aA rfl rfl rfl aO rfl ?_) | (refine zas (hK _ _ (.inl rfl) ?_); clear hK K) | (refine zas (hK _ _ (.inr (by kernel_rfl)) ?_); clear hK K))
      | (refine za3 ?_; first | (refine zbp ?_) | (refine zaj (fun K hK => ?_)) | (refine zan ?_) | (refine za4 ?_) | (refine zbq ?_) | (refine za1 ?_) | (refine zbg ?_; first | (refine zam rfl aD ?_) | (refine zal rfl aD ?_) | (refine zaz rfl (fun h => ?_) (fun h => ?_) <;> (have h' := h; (try simp only [sx] at h')))))
      | (refine za2 ?_) | (refine zai ?_) | (refine zae ?_) | (refine zaq ?_) | (refine zar ?_) | (refine zao ?_) | (refine zap rfl ?_) | (refine zab ?_) | (refine zag ?_) | (refine zbr ?_))
            all_goals first
              | (exfalso; omega)
              | (refine zcb (n + 1, m) rfl aW ⟨by simp only; omega, hold⟩ (by simp only; omega))
        · rw [hfn] at hgn
          repeat' (first
      | (refine za5 ?_; first | (refine za6 ?_; refine zat _ rfl ?_) | (refine zad ?_; refine zaa _ rfl ?_) | (refine zbv ?_; first | (refine zby rfl rfl aO ?_) | (refine zbu _ rfl rfl rfl ?_) | (refine zbt aA rfl rfl ?_) | (refine zb6 aA rfl rfl ?_) | (refine zaw _ rfl rfl rfl ?_)) | (refine g_un ?_; first | (refine zce rfl ?_) | (refine zcf rfl aO ?_)) | (refine zbf ?_; first | (refine zac aA rfl ?_) | (refine zah _ aA rfl rfl aE rfl ?_) | (refine zaf _ aA rfl aZ aL ?_) | (refine zak _ aA rfl rfl aE aZ aL ?_)) | (refine zbm ?_; first | (refine zay _ aA rfl aL ?_) | (refine zax _ aA rfl rfl (by simp only [lx, Nat.reduceAdd]; first | done | rfl) ?_)) | (refine zbe ?_; first | (refine zau _ aA rfl rfl aO aA ?_) | (refine zav _ aA rfl rfl rfl rfl aO aO (by first | (rw [Nat.zero_add, Int.toNat_natCast]) | (rw [Nat.zero_add]) | rfl) ?_)) | (refine zbw ?_; first | (refine zbl rfl aD rfl ?_) | (refine zbi rfl aD ?_) | (refine zbj rfl aD ?_) | (refine zbk rfl aD rfl ?_)) | (refine zbs ?_; first | (refine zbx rfl rfl aD ?_) | (refine zb8 rfl rfl aD ?_) | (refine zb7 rfl rfl ?_) | (refine zbh rfl rfl (fun h => ?_) (fun h => ?_) <;> (have h' := h; (try simp only [sx] at h')))) | (refine zbd ?_; first | (refine za9 aA rfl ?_) | (refine zbc aA rfl rfl ?_) | (refine zba aA rfl ?_) | (refine zbb aA (evO_ok rfl) ?_)) | (refine zbz _ _ rfl rfl rfl rfl ?_) | (refine zch _ _ rfl rfl ?_) | (refine zbo _ _ _ rfl rfl aE (by first | assumption | (exact TAgg.size aA)) rfl rfl rfl aZ rfl aL (by first | (first | (simp only [lx, Nat.reduceAdd]; first | done | rfl) | fail) | rfl) ?_) | (refine zcl aA aA rfl rfl rfl aO rfl ?_) | (refine zas (hK _ _ (.inl rfl) ?_); clear hK K) | (refine zas (hK _ _ (.inr (by kernel_rfl)) ?_); clear hK K))
      | (refine za3 ?_; first | (refine zbp ?_) | (refine zaj (fun K hK => ?_)) | (refine zan ?_) | (refine za4 ?_) | (refine zbq ?_) | (refine za1 ?_) | (refine zbg ?_; first | (refine zam rfl aD ?_) | (refine zal rfl aD ?_) | (refine zaz rfl (fun h => ?_) (fun h => ?_) <;> (have h' := h; (try simp only [sx] at h')))))
      | (refine za2 ?_) | (refine zai ?_) | (refine zae ?_) | (refine zaq ?_) | (refine zar ?_) | (refine zao ?_) | (refine zap rfl ?_) | (refine zab ?_) | (refine zag ?_) | (refine zbr ?_))
          all_goals first
            | (exfalso; omega)
            | (refine zcb (n + 1, m) rfl aW ⟨by simp only; omega, hold⟩ (by simp only; omega))
  have hnn : n = b.t.burn.length := by omega
  subst hnn
  rcases hn2 with ⟨hm1, hm2⟩ | ⟨hm1, hm2, hm3, hm4, hm5⟩
  · repeat' (first
      | (refine za5 ?_; first | (refine za6 ?_; refine zat _ rfl ?_) | (refine zad ?_; refine zaa _ rfl ?_) | (refine zbv ?_; first | (refine zby rfl rfl aO ?_) | (refine zbu _ rfl rfl rfl ?_) | (refine zbt aA rfl rfl ?_) | (refine zb6 aA rfl rfl ?_) | (refine zaw _ rfl rfl rfl ?_)) | (refine g_un ?_; first | (refine zce rfl ?_) | (refine zcf rfl aO ?_)) | (refine zbf ?_; first | (refine zac aA rfl ?_) | (refine zah _ aA rfl rfl aE rfl ?_) | (refine zaf _ aA rfl aZ aL ?_) | (refine zak _ aA rfl rfl aE aZ aL ?_)) | (refine zbm ?_; first | (refine zay _ aA rfl aL ?_) | (refine zax _ aA rfl rfl (by simp only [lx, Nat.reduceAdd]; first | done | rfl) ?_)) | (refine zbe ?_; first | (refine zau _ aA rfl rfl aO aA ?_) | (refine zav _ aA rfl rfl rfl rfl aO aO (by first | (rw [Nat.zero_add, Int.toNat_natCast]) | (rw [Nat.zero_add]) | rfl) ?_)) | (refine zbw ?_; first | (refine zbl rfl aD rfl ?_) | (refine zbi rfl aD ?_) | (refine zbj rfl aD ?_) | (refine zbk rfl aD rfl ?_)) | (refine zbs ?_; first | (refine zbx rfl rfl aD ?_) | (refine zb8 rfl rfl aD ?_) | (refine zb7 rfl rfl ?_) | (refine zbh rfl rfl (fun h => ?_) (fun h => ?_) <;> (have h' := h; (try simp only [sx] at h')))) | (refine zbd ?_; first | (refine za9 aA rfl ?_) | (refine zbc aA rfl rfl ?_) | (refine zba aA rfl ?_) | (refine zbb aA (evO_ok rfl) ?_)) | (refine zbz _ _ rfl rfl rfl rfl ?_) | (refine zch _ _ rfl rfl ?_) | (refine zbo _ _ _ rfl rfl aE (by first | assumption | (exact TAgg.size aA)) rfl rfl rfl aZ rfl aL (by first | (first | (simp only [lx, Nat.reduceAdd]; first | done | rfl) | fail) | rfl) ?_) | (refine zcl aA aA rfl rfl rfl aO rfl ?_) | (refine zas (hK _ _ (.inl rfl) ?_); clear hK K) | (refine zas (hK _ _ (.inr (by kernel_rfl)) ?_); clear hK K))
      | (refine za3 ?_; first | (refine zbp ?_) | (refine zaj (fun K hK => ?_)) | (refine zan ?_) | (refine za4 ?_) | (refine zbq ?_) | (refine za1 ?_) | (refine zbg ?_; first | (refine zam rfl aD ?_) | (refine zal rfl aD ?_) | (refine zaz rfl (fun h => ?_) (fun h => ?_) <;> (have h' := h; (try simp only [sx] at h')))))
      | (refine za2 ?_) | (refine zai ?_) | (refine zae ?_) | (refine zaq ?_) | (refine zar ?_) | (refine zao ?_) | (refine zap rfl ?_) | (refine zab ?_) | (refine zag ?_) | (refine zbr ?_))
    all_goals try (exfalso; omega)
    have hA : IsArr b U := ⟨hM.pre, fun a ha => by
      have h5 := ha; unfold IsCell at h5
      have h6 := hm2 a.toNat aO
      rw [show ((a.toNat : Nat) : Int) = a by omega] at h6
      rcases h6 with h6 | h6
      · exact (hF.fin a ha h6).2
      · exact fun h => absurd h6 h⟩
    exact zcn rfl (zbn (by rfl)) (by rfl) (by decide) aO (by rw [hq1]; exact ints_flat _) (by rw [hq1, arr_eq hb hA])
  have hmc : IsCell b.t m := ⟨hm1, by omega⟩
  have hgm : gs[m.toNat]? = some [.bool (fv F m)] := by rw [hq2]; exact fv_at (by rw [hF.len]; omega)
  have hum : us[m.toNat]? = some [.int .i64 (tv U m)] := by rw [hq1]; exact tv_int (cell_inT hM.pre.len hmc)
  have hva := hM.ge hb hmc hm4
  have hvm := hM.le hb hmc
  have hnl := nears_len b.t m
  have ln : (ints (nears b.t m)).length = (nears b.t m).length := by simp
  have hlow : ∀ c, IsCell b.t c → fv F c = false → tv U c ≠ -1 → tv U m ≤ tv U c := fun c hc h1 h2 => by
    have h5 := hc; unfold IsCell at h5
    have := hm5 c.toNat aO
    rw [show ((c.toNat : Nat) : Int) = c by omega] at this
    exact this h1 h2
  repeat' (first
      | (refine za5 ?_; first | (refine za6 ?_; refine zat _ rfl ?_) | (refine zad ?_; refine zaa _ rfl ?_) | (refine zbv ?_; first | (refine zby rfl rfl aO ?_) | (refine zbu _ rfl rfl rfl ?_) | (refine zbt aA rfl rfl ?_) | (refine zb6 aA rfl rfl ?_) | (refine zaw _ rfl rfl rfl ?_)) | (refine g_un ?_; first | (refine zce rfl ?_) | (refine zcf rfl aO ?_)) | (refine zbf ?_; first | (refine zac aA rfl ?_) | (refine zah _ aA rfl rfl aE rfl ?_) | (refine zaf _ aA rfl aZ aL ?_) | (refine zak _ aA rfl rfl aE aZ aL ?_)) | (refine zbm ?_; first | (refine zay _ aA rfl aL ?_) | (refine zax _ aA rfl rfl (by simp only [lx, Nat.reduceAdd]; first | done | rfl) ?_)) | (refine zbe ?_; first | (refine zau _ aA rfl rfl aO aA ?_) | (refine zav _ aA rfl rfl rfl rfl aO aO (by first | (rw [Nat.zero_add, Int.toNat_natCast]) | (rw [Nat.zero_add]) | rfl) ?_)) | (refine zbw ?_; first | (refine zbl rfl aD rfl ?_) | (refine zbi rfl aD ?_) | (refine zbj rfl aD ?_) | (refine zbk rfl aD rfl ?_)) | (refine zbs ?_; first | (refine zbx rfl rfl aD ?_) | (refine zb8 rfl rfl aD ?_) | (refine zb7 rfl rfl ?_) | (refine zbh rfl rfl (fun h => ?_) (fun h => ?_) <;> (have h' := h; (try simp only [sx] at h')))) | (refine zbd ?_; first | (refine za0 true (k_neighbors b.t m hg hmc) rfl rfl rfl aS rfl aH ?_; simp only [cl]) | (refine za9 aA rfl ?_) | (refine zbc aA rfl rfl ?_) | (refine zba aA rfl ?_) | (refine zbb aA (evO_ok rfl) ?_)) | (refine zbz _ _ rfl rfl rfl rfl ?_) | (refine zch _ _ rfl rfl ?_) | (refine zbo _ _ _ rfl rfl aE (by first | assumption | (exact TAgg.size aA)) rfl rfl rfl aZ rfl aL (by first | (first | (simp only [lx, Nat.reduceAdd]; first | done | rfl) | fail) | rfl) ?_) | (refine zcl aA aA rfl rfl rfl aO rfl ?_) | (refine zas (hK _ _ (.inl rfl) ?_); clear hK K) | (refine zas (hK _ _ (.inr (by kernel_rfl)) ?_); clear hK K))
      | (refine za3 ?_; first | (refine zbp ?_) | (refine zaj (fun K hK => ?_)) | (refine zan ?_) | (refine za4 ?_) | (refine zbq ?_) | (refine za1 ?_) | (refine zbg ?_; first | (refine zam rfl aD ?_) | (refine zal rfl aD ?_) | (refine zaz rfl (fun h => ?_) (fun h => ?_) <;> (have h' := h; (try simp only [sx] at h')))))
      | (refine za2 ?_) | (refine zai ?_) | (refine zae ?_) | (refine zaq ?_) | (refine zar ?_) | (refine zao ?_) | (refine zap rfl ?_) | (refine zab ?_) | (refine zag ?_) | (refine zbr ?_))
  all_goals try (exfalso; omega)
  refine zcd [1, 4, 10, 14, 89, 90] [] (fun s : Nat × List (List PV) × List Int => [(9, .osl (1001, 0) 0 (ints b.t.burn).length), (91, .int .i64 s.1)]) (fun s : Nat × List (List PV) × List Int => [((1001, 0), some ⟨3, 1, s.2.1, false⟩)]) (fun s : Nat × List (List PV) × List Int => s.1 ≤ (nears b.t m).length ∧ s.2.1 = ints s.2.2 ∧ Rnd b U s.2.2 F m s.1) (fun s : Nat × List (List PV) × List Int => (nears b.t m).length - s.1) ((0, us, U)) rfl rfl (fun _ => rfl) (fun _ => rfl) rfl aW ⟨by simp, hq1, ⟨hM, fun c _ _ => rfl, fun c _ h => ⟨h, Int.le_refl _⟩, hlow, fun j hj => by simp at hj⟩⟩ (fun s hs => ?_)
  obtain ⟨k, vs, V⟩ := s
  obtain ⟨hs1, hs2, hs3⟩ := hs
  simp only at hs1 hs2 hs3
  have hlv : vs.length = b.t.burn.length := by rw [hs2, ints_len, hs3.mid.pre.len]
  dsimp only
  rcases Nat.lt_or_ge k (nears b.t m).length with hkt | hkg
  · obtain ⟨c, hc⟩ := get_ex hkt
    have hxc := ints_at hc
    have hnc := nears_mem.1 (get_mem hc)
    have hcc := hnc.1
    unfold IsCell at hcc
    have hbb := burn_bound hg hnc.1
    have hca : c ≠ m := fun e => by
      have h1 := hnc.2
      rw [e, apart_self] at h1
      omega
    have hvc : vs[c.toNat]? = some [.int .i64 (tv V c)] := by rw [hs2]; exact tv_int (cell_inT hs3.mid.pre.len hnc.1)
    have eVm : tv V m = tv U m := hs3.fix m hmc (.inr rfl)
    have hvm2 : vs[m.toNat]? = some [.int .i64 (tv U m)] := by rw [← eVm, hs2]; exact tv_int (cell_inT hs3.mid.pre.len hmc)
    have hgc : (gs.set m.toNat [.bool true])[c.toNat]? = some [.bool (fv F c)] := by
      rw [List.getElem?_set_ne aO, hq2]
      exact fv_at (by rw [hF.len]; omega)
    have kB := k_burns b.t c hg hnc.1
    by_cases hb0 : 0 < burnAt b.t c
    · rw [decide_eq_true hb0] at kB
      have he : Edge b m c := ⟨hmc, hnc.1, hnc.2, hb0⟩
      have hwk := wk_bnd hb hmc hnc.1
      have hop1 := hop_bnd hb hva.1 he hva.2
      have hvcb := hs3.mid.le hb hnc.1
      cases hfc : fv F c
      · rw [hfc] at hgc
        have kW := k_work b.t m c hg hmc hnc.1
        have kD : Con Try.prog 72 [.list 2 (b.ps.map Phase.pv), .int .i64 (tv U m), .int .i64 (wkF b.t m c)] (.int .i64 (hop b m c (tv U m))) := k_done b.ps (tv U m) (wkF b.t m c) hb.2.1 aO aO
        by_cases hx : tv V c = -1 ∨ hop b m c (tv U m) < tv V c
        · have hR := rnd_set hb hs3 hc he hm4 hfc hx
          generalize hxx : hop b m c (tv U m) = x at *
          generalize hww : wkF b.t m c = wk at *
          repeat' (first
      | (refine za5 ?_; first | (refine za6 ?_; refine zat _ rfl ?_) | (refine zad ?_; refine zaa _ rfl ?_) | (refine zbv ?_; first | (refine zby rfl rfl aO ?_) | (refine zbu _ rfl rfl rfl ?_) | (refine zbt aA rfl rfl ?_) | (refine zb6 aA rfl rfl ?_) | (refine zaw _ rfl rfl rfl ?_)) | (refine g_un ?_; first | (refine zce rfl ?_) | (refine zcf rfl aO ?_)) | (refine zbf ?_; first | (refine zac aA rfl ?_) | (refine zah _ aA rfl rfl aE rfl ?_) | (refine zaf _ aA rfl aZ aL ?_) | (refine zak _ aA rfl rfl aE aZ aL ?_)) | (refine zbm ?_; first | (refine zay _ aA rfl aL ?_) | (refine zax _ aA rfl rfl (by simp only [lx, Nat.reduceAdd]; first | done | rfl) ?_)) | (refine zbe ?_; first | (refine zau _ aA rfl rfl aO aA ?_) | (refine zav _ aA rfl rfl rfl rfl aO aO (by first | (rw [Nat.zero_add, Int.toNat_natCast]) | (rw [Nat.zero_add]) | rfl) ?_)) | (refine zbw ?_; first | (refine zbl rfl aD rfl ?_) | (refine zbi rfl aD ?_) | (refine zbj rfl aD ?_) | (refine zbk rfl aD rfl ?_)) | (refine zbs ?_; first | (refine zbx rfl rfl aD ?_) | (refine zb8 rfl rfl aD ?_) | (refine zb7 rfl rfl ?_) | (refine zbh rfl rfl (fun h => ?_) (fun h => ?_) <;> (have h' := h; (try simp only [sx] at h')))) | (refine zbd ?_; first | (refine za0 true (kB) rfl rfl rfl aS rfl aH ?_; simp only [cl]) | (refine za0 true (kW) rfl rfl rfl aS rfl aH ?_; simp only [cl]) | (refine za0 true (kD) rfl rfl rfl aS rfl aH ?_; simp only [cl]) | (refine za9 aA rfl ?_) | (refine zbc aA rfl rfl ?_) | (refine zba aA rfl ?_) | (refine zbb aA (evO_ok rfl) ?_)) | (refine zbz _ _ rfl rfl rfl rfl ?_) | (refine zch _ _ rfl rfl ?_) | (refine zbo _ _ _ rfl rfl aE (by first | assumption | (exact TAgg.size aA)) rfl rfl rfl aZ rfl aL (by first | (first | (simp only [lx, Nat.reduceAdd]; first | done | rfl) | fail) | rfl) ?_) | (refine zcl aA aA rfl rfl rfl aO rfl ?_) | (refine zas (hK _ _ (.inl rfl) ?_); clear hK K) | (refine zas (hK _ _ (.inr (by kernel_rfl)) ?_); clear hK K))
      | (refine za3 ?_; first | (refine zbp ?_) | (refine zaj (fun K hK => ?_)) | (refine zan ?_) | (refine za4 ?_) | (refine zbq ?_) | (refine za1 ?_) | (refine zbg ?_; first | (refine zam rfl aD ?_) | (refine zal rfl aD ?_) | (refine zaz rfl (fun h => ?_) (fun h => ?_) <;> (have h' := h; (try simp only [sx] at h')))))
      | (refine za2 ?_) | (refine zai ?_) | (refine zae ?_) | (refine zaq ?_) | (refine zar ?_) | (refine zao ?_) | (refine zap rfl ?_) | (refine zab ?_) | (refine zag ?_) | (refine zbr ?_))
          all_goals first
            | (exfalso; omega)
            | (refine zcb (k + 1, vs.set c.toNat [.int .i64 x], V.set c.toNat x) rfl aW ⟨by simp only; omega, by simp only [ints_set, hs2], hR⟩ (by simp only; omega))
        · have hR := rnd_skip hs3 (fun c' hc' _ => by
            rw [hc] at hc'
            injection hc' with hc'
            subst hc'
            omega)
          generalize hxx : hop b m c (tv U m) = x at *
          generalize hww : wkF b.t m c = wk at *
          repeat' (first
      | (refine za5 ?_; first | (refine za6 ?_; refine zat _ rfl ?_) | (refine zad ?_; refine zaa _ rfl ?_) | (refine zbv ?_; first | (refine zby rfl rfl aO ?_) | (refine zbu _ rfl rfl rfl ?_) | (refine zbt aA rfl rfl ?_) | (refine zb6 aA rfl rfl ?_) | (refine zaw _ rfl rfl rfl ?_)) | (refine g_un ?_; first | (refine zce rfl ?_) | (refine zcf rfl aO ?_)) | (refine zbf ?_; first | (refine zac aA rfl ?_) | (refine zah _ aA rfl rfl aE rfl ?_) | (refine zaf _ aA rfl aZ aL ?_) | (refine zak _ aA rfl rfl aE aZ aL ?_)) | (refine zbm ?_; first | (refine zay _ aA rfl aL ?_) | (refine zax _ aA rfl rfl (by simp only [lx, Nat.reduceAdd]; first | done | rfl) ?_)) | (refine zbe ?_; first | (refine zau _ aA rfl rfl aO aA ?_) | (refine zav _ aA rfl rfl rfl rfl aO aO (by first | (rw [Nat.zero_add, Int.toNat_natCast]) | (rw [Nat.zero_add]) | rfl) ?_)) | (refine zbw ?_; first | (refine zbl rfl aD rfl ?_) | (refine zbi rfl aD ?_) | (refine zbj rfl aD ?_) | (refine zbk rfl aD rfl ?_)) | (refine zbs ?_; first | (refine zbx rfl rfl aD ?_) | (refine zb8 rfl rfl aD ?_) | (refine zb7 rfl rfl ?_) | (refine zbh rfl rfl (fun h => ?_) (fun h => ?_) <;> (have h' := h; (try simp only [sx] at h')))) | (refine zbd ?_; first | (refine za0 true (kB) rfl rfl rfl aS rfl aH ?_; simp only [cl]) | (refine za0 true (kW) rfl rfl rfl aS rfl aH ?_; simp only [cl]) | (refine za0 true (kD) rfl rfl rfl aS rfl aH ?_; simp only [cl]) | (refine za9 aA rfl ?_) | (refine zbc aA rfl rfl ?_) | (refine zba aA rfl ?_) | (refine zbb aA (evO_ok rfl) ?_)) | (refine zbz _ _ rfl rfl rfl rfl ?_) | (refine zch _ _ rfl rfl ?_) | (refine zbo _ _ _ rfl rfl aE (by first | assumption | (exact TAgg.size aA)) rfl rfl rfl aZ rfl aL (by first | (first | (simp only [lx, Nat.reduceAdd]; first | done | rfl) | fail) | rfl) ?_) | (refine zcl aA aA rfl rfl rfl aO rfl ?_) | (refine zas (hK _ _ (.inl rfl) ?_); clear hK K) | (refine zas (hK _ _ (.inr (by kernel_rfl)) ?_); clear hK K))
      | (refine za3 ?_; first | (refine zbp ?_) | (refine zaj (fun K hK => ?_)) | (refine zan ?_) | (refine za4 ?_) | (refine zbq ?_) | (refine za1 ?_) | (refine zbg ?_; first | (refine zam rfl aD ?_) | (refine zal rfl aD ?_) | (refine zaz rfl (fun h => ?_) (fun h => ?_) <;> (have h' := h; (try simp only [sx] at h')))))
      | (refine za2 ?_) | (refine zai ?_) | (refine zae ?_) | (refine zaq ?_) | (refine zar ?_) | (refine zao ?_) | (refine zap rfl ?_) | (refine zab ?_) | (refine zag ?_) | (refine zbr ?_))
          all_goals first
            | (exfalso; omega)
            | (refine zcb (k + 1, vs, V) rfl aW ⟨by simp only; omega, hs2, hR⟩ (by simp only; omega))
      · rw [hfc] at hgc
        have hR := rnd_skip hs3 (fun c' hc' _ => by
          rw [hc] at hc'
          injection hc' with hc'
          subst hc'
          have h1 := hF.fin c hnc.1 hfc
          have h2 := hF.ord c m hnc.1 hmc hfc hm3 hm4
          rw [hs3.fix c hnc.1 (.inl hfc)]
          exact ⟨h1.1, by omega⟩)
        repeat' (first
      | (refine za5 ?_; first | (refine za6 ?_; refine zat _ rfl ?_) | (refine zad ?_; refine zaa _ rfl ?_) | (refine zbv ?_; first | (refine zby rfl rfl aO ?_) | (refine zbu _ rfl rfl rfl ?_) | (refine zbt aA rfl rfl ?_) | (refine zb6 aA rfl rfl ?_) | (refine zaw _ rfl rfl rfl ?_)) | (refine g_un ?_; first | (refine zce rfl ?_) | (refine zcf rfl aO ?_)) | (refine zbf ?_; first | (refine zac aA rfl ?_) | (refine zah _ aA rfl rfl aE rfl ?_) | (refine zaf _ aA rfl aZ aL ?_) | (refine zak _ aA rfl rfl aE aZ aL ?_)) | (refine zbm ?_; first | (refine zay _ aA rfl aL ?_) | (refine zax _ aA rfl rfl (by simp only [lx, Nat.reduceAdd]; first | done | rfl) ?_)) | (refine zbe ?_; first | (refine zau _ aA rfl rfl aO aA ?_) | (refine zav _ aA rfl rfl rfl rfl aO aO (by first | (rw [Nat.zero_add, Int.toNat_natCast]) | (rw [Nat.zero_add]) | rfl) ?_)) | (refine zbw ?_; first | (refine zbl rfl aD rfl ?_) | (refine zbi rfl aD ?_) | (refine zbj rfl aD ?_) | (refine zbk rfl aD rfl ?_)) | (refine zbs ?_; first | (refine zbx rfl rfl aD ?_) | (refine zb8 rfl rfl aD ?_) | (refine zb7 rfl rfl ?_) | (refine zbh rfl rfl (fun h => ?_) (fun h => ?_) <;> (have h' := h; (try simp only [sx] at h')))) | (refine zbd ?_; first | (refine za0 true (kB) rfl rfl rfl aS rfl aH ?_; simp only [cl]) | (refine za9 aA rfl ?_) | (refine zbc aA rfl rfl ?_) | (refine zba aA rfl ?_) | (refine zbb aA (evO_ok rfl) ?_)) | (refine zbz _ _ rfl rfl rfl rfl ?_) | (refine zch _ _ rfl rfl ?_) | (refine zbo _ _ _ rfl rfl aE (by first | assumption | (exact TAgg.size aA)) rfl rfl rfl aZ rfl aL (by first | (first | (simp only [lx, Nat.reduceAdd]; first | done | rfl) | fail) | rfl) ?_) | (refine zcl aA aA rfl rfl rfl aO rfl ?_) | (refine zas (hK _ _ (.inl rfl) ?_); clear hK K) | (refine zas (hK _ _ (.inr (by kernel_rfl)) ?_); clear hK K))
      | (refine za3 ?_; first | (refine zbp ?_) | (refine zaj (fun K hK => ?_)) | (refine zan ?_) | (refine za4 ?_) | (refine zbq ?_) | (refine za1 ?_) | (refine zbg ?_; first | (refine zam rfl aD ?_) | (refine zal rfl aD ?_) | (refine zaz rfl (fun h => ?_) (fun h => ?_) <;> (have h' := h; (try simp only [sx] at h')))))
      | (refine za2 ?_) | (refine zai ?_) | (refine zae ?_) | (refine zaq ?_) | (refine zar ?_) | (refine zao ?_) | (refine zap rfl ?_) | (refine zab ?_) | (refine zag ?_) | (refine zbr ?_))
        all_goals first
          | (exfalso; omega)
          | (refine zcb (k + 1, vs, V) rfl aW ⟨by simp only; omega, hs2, hR⟩ (by simp only; omega))
    · rw [decide_eq_false hb0] at kB
      have hR := rnd_skip hs3 (fun c' hc' hb' => by
        rw [hc] at hc'
        injection hc' with hc'
        subst hc'
        exact absurd hb' hb0)
      repeat' (first
      | (refine za5 ?_; first | (refine za6 ?_; refine zat _ rfl ?_) | (refine zad ?_; refine zaa _ rfl ?_) | (refine zbv ?_; first | (refine zby rfl rfl aO ?_) | (refine zbu _ rfl rfl rfl ?_) | (refine zbt aA rfl rfl ?_) | (refine zb6 aA rfl rfl ?_) | (refine zaw _ rfl rfl rfl ?_)) | (refine g_un ?_; first | (refine zce rfl ?_) | (refine zcf rfl aO ?_)) | (refine zbf ?_; first | (refine zac aA rfl ?_) | (refine zah _ aA rfl rfl aE rfl ?_) | (refine zaf _ aA rfl aZ aL ?_) | (refine zak _ aA rfl rfl aE aZ aL ?_)) | (refine zbm ?_; first | (refine zay _ aA rfl aL ?_) | (refine zax _ aA rfl rfl (by simp only [lx, Nat.reduceAdd]; first | done | rfl) ?_)) | (refine zbe ?_; first | (refine zau _ aA rfl rfl aO aA ?_) | (refine zav _ aA rfl rfl rfl rfl aO aO (by first | (rw [Nat.zero_add, Int.toNat_natCast]) | (rw [Nat.zero_add]) | rfl) ?_)) | (refine zbw ?_; first | (refine zbl rfl aD rfl ?_) | (refine zbi rfl aD ?_) | (refine zbj rfl aD ?_) | (refine zbk rfl aD rfl ?_)) | (refine zbs ?_; first | (refine zbx rfl rfl aD ?_) | (refine zb8 rfl rfl aD ?_) | (refine zb7 rfl rfl ?_) | (refine zbh rfl rfl (fun h => ?_) (fun h => ?_) <;> (have h' := h; (try simp only [sx] at h')))) | (refine zbd ?_; first | (refine za0 true (kB) rfl rfl rfl aS rfl aH ?_; simp only [cl]) | (refine za9 aA rfl ?_) | (refine zbc aA rfl rfl ?_) | (refine zba aA rfl ?_) | (refine zbb aA (evO_ok rfl) ?_)) | (refine zbz _ _ rfl rfl rfl rfl ?_) | (refine zch _ _ rfl rfl ?_) | (refine zbo _ _ _ rfl rfl aE (by first | assumption | (exact TAgg.size aA)) rfl rfl rfl aZ rfl aL (by first | (first | (simp only [lx, Nat.reduceAdd]; first | done | rfl) | fail) | rfl) ?_) | (refine zcl aA aA rfl rfl rfl aO rfl ?_) | (refine zas (hK _ _ (.inl rfl) ?_); clear hK K) | (refine zas (hK _ _ (.inr (by kernel_rfl)) ?_); clear hK K))
      | (refine za3 ?_; first | (refine zbp ?_) | (refine zaj (fun K hK => ?_)) | (refine zan ?_) | (refine za4 ?_) | (refine zbq ?_) | (refine za1 ?_) | (refine zbg ?_; first | (refine zam rfl aD ?_) | (refine zal rfl aD ?_) | (refine zaz rfl (fun h => ?_) (fun h => ?_) <;> (have h' := h; (try simp only [sx] at h')))))
      | (refine za2 ?_) | (refine zai ?_) | (refine zae ?_) | (refine zaq ?_) | (refine zar ?_) | (refine zao ?_) | (refine zap rfl ?_) | (refine zab ?_) | (refine zag ?_) | (refine zbr ?_))
      all_goals first
        | (exfalso; omega)
        | (refine zcb (k + 1, vs, V) rfl aW ⟨by simp only; omega, hs2, hR⟩ (by simp only; omega))
  · have hE := rnd_end hb hF hM hmc hm3 hm4 hs3 hkg
    repeat' (first
      | (refine za5 ?_; first | (refine za6 ?_; refine zat _ rfl ?_) | (refine zad ?_; refine zaa _ rfl ?_) | (refine zbv ?_; first | (refine zby rfl rfl aO ?_) | (refine zbu _ rfl rfl rfl ?_) | (refine zbt aA rfl rfl ?_) | (refine zb6 aA rfl rfl ?_) | (refine zaw _ rfl rfl rfl ?_)) | (refine g_un ?_; first | (refine zce rfl ?_) | (refine zcf rfl aO ?_)) | (refine zbf ?_; first | (refine zac aA rfl ?_) | (refine zah _ aA rfl rfl aE rfl ?_) | (refine zaf _ aA rfl aZ aL ?_) | (refine zak _ aA rfl rfl aE aZ aL ?_)) | (refine zbm ?_; first | (refine zay _ aA rfl aL ?_) | (refine zax _ aA rfl rfl (by simp only [lx, Nat.reduceAdd]; first | done | rfl) ?_)) | (refine zbe ?_; first | (refine zau _ aA rfl rfl aO aA ?_) | (refine zav _ aA rfl rfl rfl rfl aO aO (by first | (rw [Nat.zero_add, Int.toNat_natCast]) | (rw [Nat.zero_add]) | rfl) ?_)) | (refine zbw ?_; first | (refine zbl rfl aD rfl ?_) | (refine zbi rfl aD ?_) | (refine zbj rfl aD ?_) | (refine zbk rfl aD rfl ?_)) | (refine zbs ?_; first | (refine zbx rfl rfl aD ?_) | (refine zb8 rfl rfl aD ?_) | (refine zb7 rfl rfl ?_) | (refine zbh rfl rfl (fun h => ?_) (fun h => ?_) <;> (have h' := h; (try simp only [sx] at h')))) | (refine zbd ?_; first | (refine za9 aA rfl ?_) | (refine zbc aA rfl rfl ?_) | (refine zba aA rfl ?_) | (refine zbb aA (evO_ok rfl) ?_)) | (refine zbz _ _ rfl rfl rfl rfl ?_) | (refine zch _ _ rfl rfl ?_) | (refine zbo _ _ _ rfl rfl aE (by first | assumption | (exact TAgg.size aA)) rfl rfl rfl aZ rfl aL (by first | (first | (simp only [lx, Nat.reduceAdd]; first | done | rfl) | fail) | rfl) ?_) | (refine zcl aA aA rfl rfl rfl aO rfl ?_) | (refine zas (hK _ _ (.inl rfl) ?_); clear hK K) | (refine zas (hK _ _ (.inr (by kernel_rfl)) ?_); clear hK K))
      | (refine za3 ?_; first | (refine zbp ?_) | (refine zaj (fun K hK => ?_)) | (refine zan ?_) | (refine za4 ?_) | (refine zbq ?_) | (refine za1 ?_) | (refine zbg ?_; first | (refine zam rfl aD ?_) | (refine zal rfl aD ?_) | (refine zaz rfl (fun h => ?_) (fun h => ?_) <;> (have h' := h; (try simp only [sx] at h')))))
      | (refine za2 ?_) | (refine zai ?_) | (refine zae ?_) | (refine zaq ?_) | (refine zar ?_) | (refine zao ?_) | (refine zap rfl ?_) | (refine zab ?_) | (refine zag ?_) | (refine zbr ?_))
    refine zcb (vs, gs.set m.toNat [.bool true], V, F.set m.toNat true) rfl aW ⟨hs2, by simp only [bools_set, hq2], hs3.mid, hE⟩ ?_
    simp only
    have hfm : F[m.toNat]? = some false := by
      obtain ⟨x, hx⟩ := get_ex (show m.toNat < F.length by rw [hF.len]; omega)
      have : fv F m = x := by simp [fv, List.getD_eq_getElem?_getD, hx]
      rw [hx, ← this, hm3]
    have h1 := freeN_set hfm
    have h2 := freeN_ge (F.set m.toNat true)
    omega
end Go.Vs
set_option linter.unusedVariables false
set_option linter.unusedSimpArgs false
set_option maxRecDepth 100000
set_option maxHeartbeats 4000000
namespace Go.Vs
open Go.Proofs
attribute [local irreducible] exec vwp thenQ blkQ loopQ RetPost
theorem k_l2Cell (t : Terrain) (c : Int) (hn : t.burn.length ≤ 1099511627776) : Con Try.prog 85 [.agg t.pv, .int .i64 c] (.bool (decide (GoodT t ∧ IsCell t c))) := by
  intro al
  refine za8 hmix Try.func85 rfl (by kernel_rfl) (by kernel_rfl) (Nat.le_of_ble_eq_true rfl) (fun row h => by cases h) ?_
  have hty_a26 := ty_a26
  have hty_f26_2 := ty_f26_2
  have hty_c24 := ty_c24
  have hty_u24 := ty_u24
  have hty_s24 := ty_s24
  have hl1 : (ints t.burn).length = t.burn.length := by simp
  repeat' (first
      | (refine za5 ?_; first | (refine za6 ?_; refine zat _ rfl ?_) | (refine zad ?_; refine zaa _ rfl ?_) | (refine zbv ?_; first | (refine zck rfl rfl aO ?_) | (refine zbu _ rfl rfl rfl ?_)) | (refine zbf ?_; first | (refine zac aA rfl ?_) | (refine zah _ aA rfl rfl aE rfl ?_) | (refine zaf _ aA rfl aZ aL ?_) | (refine zak _ aA rfl rfl aE aZ aL ?_)) | (refine zbm ?_; first | (refine zay _ aA rfl aL ?_) | (refine zax _ aA rfl rfl (by simp only [lx, Nat.reduceAdd]; first | done | rfl) ?_)) | (refine zbw ?_; first | (refine zbl rfl aD rfl ?_) | (refine zbi rfl aD ?_) | (refine zbj rfl aD ?_) | (refine zbk rfl aD rfl ?_)) | (refine zbs ?_; first | (refine zbx rfl rfl aD ?_) | (refine zb8 rfl rfl aD ?_) | (refine zb7 rfl rfl ?_) | (refine zbh rfl rfl (fun h => ?_) (fun h => ?_) <;> (have h' := h; (try simp only [sx] at h')))) | (refine zbd ?_; first | (refine za0 true (k_l2Good t hn) rfl rfl rfl aS rfl aH ?_; simp only [cl]) | (refine za0 true (k_l1In _ _ _) rfl rfl rfl aS rfl aH ?_; simp only [cl]) | (refine za9 aA rfl ?_) | (refine zbc aA rfl rfl ?_) | (refine zba aA rfl ?_) | (refine zbb aA (evO_ok rfl) ?_)) | (refine zbz _ _ rfl rfl rfl rfl ?_) | (refine zas (hK _ _ (.inl rfl) ?_); clear hK K) | (refine zas (hK _ _ (.inr (by kernel_rfl)) ?_); clear hK K))
      | (refine za3 ?_; first | (refine zbp ?_) | (refine zaj (fun K hK => ?_)) | (refine zan ?_) | (refine za4 ?_) | (refine zbq ?_) | (refine za1 ?_))
      | (refine za2 ?_) | (refine zai ?_) | (refine zae ?_) | (refine zaq ?_) | (refine zar ?_) | (refine zao ?_) | (refine zap rfl ?_) | (refine zab ?_) | (refine zag ?_) | (refine zbr ?_))
  all_goals ((refine zb1 rfl (zbn rfl) ?_; rw [Bool.eq_iff_iff]; try simp only [sx] at *); simp only [IsCell]; constructor <;> intro hq <;> first | contradiction | (exact ⟨by assumption, by omega⟩) | omega | (exact absurd hq.1 aA))
end Go.Vs
set_option linter.unusedVariables false
set_option linter.unusedSimpArgs false
set_option maxRecDepth 100000
set_option maxHeartbeats 4000000
namespace Go.Vs
open Go.Proofs
attribute [local irreducible] exec vwp thenQ blkQ loopQ RetPost
noncomputable section
theorem arr_ok {b : Blz} (hb : GoodB b) : Mid b (arr b) ∧ IsArr b (arr b) := by
  obtain ⟨n, ⟨T, hT, hn⟩, hmin⟩ := exists_least (fun n => ∃ T, Mid b T ∧ (valF T).toNat = n) ⟨_, _, ini_mid hb, rfl⟩
  have hA : IsArr b T := by
    refine ⟨hT.pre, fun a ha hne c he => ?_⟩
    refine Decidable.byContradiction fun hc => ?_
    have hr := hT.relax hb he hne aO
    have h1 := hmin (valF (T.set c.toNat (hop b a c (tv T a)))).toNat (show ∃ T', Mid b T' ∧ (valF T').toNat = (valF (T.set c.toNat (hop b a c (tv T a)))).toNat from ⟨_, hr.1, rfl⟩)
    have h2 := hr.1.val hb
    have h3 := hr.2
    omega
  have := arr_eq hb hA
  subst this
  exact ⟨hT, hA⟩
structure SzB (b : Blz) : Prop where
  (hn : b.t.burn.length ≤ 1099511627776) (hp : b.ps.length ≤ 1099511627776) (hs : b.src.length ≤ 1099511627776)
theorem k_isSet (t : Terrain) (xs : List Int) (hn : t.burn.length ≤ 1099511627776) (hm : xs.length ≤ 1099511627776) : Con Try.prog 68 [.agg t.pv, .list 1 (ints xs)] (.bool (decide ((∀ s ∈ xs, IsCell t s) ∧ Rising xs))) := by
  intro al
  refine za8 hmix Try.func68 rfl (by kernel_rfl) (by kernel_rfl) (Nat.le_of_ble_eq_true rfl) (fun row h => by cases h) ?_
  have hty_u24 := ty_u24
  have hty_s24 := ty_s24
  have hty_a26 := ty_a26
  have hall : (xs.all fun c => decide (0 ≤ c ∧ c < t.burn.length)) = true ↔ ∀ s ∈ xs, IsCell t s := by simp [IsCell]
  repeat' (first
      | (refine za5 ?_; first | (refine za6 ?_; refine zat _ rfl ?_) | (refine zad ?_; refine zaa _ rfl ?_) | (refine zbf ?_; first | (refine zac aA rfl ?_) | (refine zah _ aA rfl rfl aE rfl ?_) | (refine zaf _ aA rfl aZ aL ?_) | (refine zak _ aA rfl rfl aE aZ aL ?_)) | (refine zbw ?_; first | (refine zbl rfl aD rfl ?_) | (refine zbi rfl aD ?_) | (refine zbj rfl aD ?_) | (refine zbk rfl aD rfl ?_)) | (refine zbs ?_; first | (refine zbx rfl rfl aD ?_) | (refine zb8 rfl rfl aD ?_) | (refine zb7 rfl rfl ?_) | (refine zbh rfl rfl (fun h => ?_) (fun h => ?_) <;> (have h' := h; (try simp only [sx] at h')))) | (refine zbd ?_; first | (refine za0 true (k_isRising xs hm) rfl rfl rfl aS rfl aH ?_; simp only [cl]) | (refine za0 true (k_allIntT xs 70 t (fun c => decide (0 ≤ c ∧ c < t.burn.length)) (fun c _ => k_isCell t c hn) hm) rfl rfl rfl aS rfl aH ?_; simp only [cl])) | (refine zbz _ _ rfl rfl rfl rfl ?_) | (refine zch _ _ rfl rfl ?_) | (refine zas (hK _ _ (.inl rfl) ?_); clear hK K) | (refine zas (hK _ _ (.inr (by kernel_rfl)) ?_); clear hK K))
      | (refine za3 ?_; first | (refine zbp ?_) | (refine zaj (fun K hK => ?_)) | (refine zan ?_) | (refine za4 ?_) | (refine zbq ?_) | (refine za1 ?_))
      | (refine za2 ?_) | (refine zai ?_) | (refine zae ?_) | (refine zaq ?_) | (refine zar ?_) | (refine zao ?_) | (refine zap rfl ?_) | (refine zab ?_) | (refine zag ?_) | (refine zbr ?_))
  all_goals
    (refine zb1 rfl (zbn rfl) ?_; rw [Bool.eq_iff_iff]; try simp only [sx] at *)
    first
      | (constructor
         · intro hq; exact ⟨hall.1 hq, by assumption⟩
         · intro hq; exact hall.2 hq.1)
      | (constructor <;> intro hq <;> first | contradiction | (exact absurd hq.2 aA))
end
end Go.Vs
set_option linter.unusedVariables false
set_option linter.unusedSimpArgs false
set_option maxRecDepth 100000
set_option maxHeartbeats 4000000
namespace Go.Vs
open Go.Proofs
inductive Fl (t : Terrain) (P : Int → Int → Prop) (src : List Int) : Int → Prop
  | src {s : Int} : s ∈ src → Fl t P src s
  | step {a c : Int} : Fl t P src a → IsCell t c → P a c → Fl t P src c
theorem arr_start {b : Blz} (hb : GoodB b) {c : Int} (hc : IsCell b.t c) (h : tv (arr b) c ≠ -1) : b.st ≤ tv (arr b) c ∧ 0 < burnAt b.t c ∧ tv (arr b) c ≤ 4000 := by
  have hA := arr_ok hb
  have h1 := rch_facts hb (hA.2.pre.att c hc h)
  exact ⟨h1.1, h1.2.1, hA.1.le hb hc⟩
theorem arr_len {b : Blz} (hb : GoodB b) : (arr b).length = b.t.burn.length := (arr_ok hb).2.pre.len
end Go.Vs
set_option linter.unusedVariables false
set_option linter.unusedSimpArgs false
set_option maxRecDepth 100000
set_option maxHeartbeats 4000000
namespace Go.Vs
open Go.Proofs
attribute [local irreducible] exec vwp thenQ blkQ loopQ RetPost
structure FlI (t : Terrain) (P : Int → Int → Bool) (src W : List Int) (F : List Bool) : Prop where
  len : F.length = t.burn.length
  snd : ∀ a, IsCell t a → fv F a = true → Fl t (fun a c => P a c = true) src a
  que : ∀ a ∈ W, IsCell t a ∧ fv F a = true
  src : ∀ s ∈ src, fv F s = true
def Clo (t : Terrain) (P : Int → Int → Bool) (W : List Int) (F : List Bool) : Prop := ∀ a c, IsCell t a → IsCell t c → fv F a = true → a ∉ W → P a c = true → fv F c = true
def CloX (t : Terrain) (P : Int → Int → Bool) (W : List Int) (F : List Bool) (x : Int) (i : Nat) : Prop := ∀ a c, IsCell t a → IsCell t c → fv F a = true → a ∉ W → (a = x → c < i) → P a c = true → fv F c = true
section
variable {t : Terrain} {P : Int → Int → Bool} {src W : List Int} {F : List Bool} {x : Int} {i : Nat}
theorem CloX.done (h : CloX t P W F x t.burn.length) : Clo t P W F := fun a c ha hc hf hw hp => h a c ha hc hf hw (fun _ => hc.2) hp
theorem CloX.skip (h : CloX t P W F x i) (hi : fv F i = true ∨ P x i = false) : CloX t P W F x (i + 1) := fun a c ha hc hf hw hx hp => by
  by_cases e : a = x ∧ c = i
  · obtain ⟨rfl, rfl⟩ := e
    rcases hi with hi | hi
    · exact hi
    · rw [hp] at hi; cases hi
  · exact h a c ha hc hf hw (fun h2 => by have := hx h2; have : c ≠ i := fun h3 => e ⟨h2, h3⟩; omega) hp
theorem fv_set2 (h : i < F.length) (c : Int) (hc : 0 ≤ c) : fv (F.set i true) c = true ↔ c = i ∨ fv F c = true := by
  rw [fv_set true h]
  split
  · exact ⟨fun _ => .inl aO, fun _ => rfl⟩
  · exact ⟨.inr, fun h => h.elim (fun h => by omega) id⟩
theorem FlI.push (h : FlI t P src W F) (hi : i < t.burn.length) (hx : IsCell t x) (hfx : fv F x = true) (hp : P x i = true) (hsrc : ∀ s ∈ src, IsCell t s) : FlI t P src (W ++ [(i : Int)]) (F.set i true) := by
  have hiF : i < F.length := by rw [h.len]; exact hi
  have hci : IsCell t (i : Int) := ⟨by omega, by omega⟩
  refine ⟨by simp [h.len], fun a ha hf => ?_, fun a ha => ?_, fun s hs => ?_⟩
  · rcases (fv_set2 hiF a ha.1).1 hf with e | e
    · subst e
      exact .step (h.snd x hx hfx) hci hp
    · exact h.snd a ha e
  · rcases List.mem_append.1 ha with h1 | h1
    · exact ⟨(h.que a h1).1, (fv_set2 hiF a (h.que a h1).1.1).2 (.inr (h.que a h1).2)⟩
    · rw [List.mem_singleton] at h1
      subst h1
      exact ⟨hci, (fv_set2 hiF _ aO).2 (.inl rfl)⟩
  · exact (fv_set2 hiF s (hsrc s hs).1).2 (.inr (h.src s hs))
theorem CloX.push (h : CloX t P W F x i) (hi : i < F.length) : CloX t P (W ++ [(i : Int)]) (F.set i true) x (i + 1) := fun a c ha hc hf hw hx hp => by
  by_cases e : c = i
  · exact (fv_set2 hi c hc.1).2 (.inl e)
  · have hai : a ≠ i := fun e2 => hw (by rw [e2]; simp)
    have hfa : fv F a = true := by
      rcases (fv_set2 hi a ha.1).1 hf with h1 | h1
      · exact absurd h1 hai
      · exact h1
    exact (fv_set2 hi c hc.1).2 (.inr (h a c ha hc hfa (fun hm => hw (List.mem_append_left _ hm)) (fun h2 => by have := hx h2; omega) hp))
theorem FlI.done (h : FlI t P src [] F) (hc : Clo t P [] F) (a : Int) (ha : IsCell t a) (hs : ∀ s ∈ src, IsCell t s) : fv F a = true ↔ Fl t (fun a c => P a c = true) src a := by
  refine ⟨h.snd a ha, fun hf => ?_⟩
  have key : ∀ a, Fl t (fun a c => P a c = true) src a → IsCell t a ∧ fv F a = true := by
    intro a hf
    induction hf with
    | src hm => exact ⟨hs _ hm, h.src _ hm⟩
    | step _ h2 h3 ih => exact ⟨h2, hc _ _ ih.1 h2 ih.2 (by simp) h3⟩
  exact (key a hf).2
end
def SetOk (t : Terrain) (src : List Int) : Prop := GoodT t ∧ (∀ s ∈ src, IsCell t s) ∧ Rising src
instance (t : Terrain) (src : List Int) : Decidable (SetOk t src) := by unfold SetOk; infer_instance
end Go.Vs
set_option linter.unusedVariables false
set_option linter.unusedSimpArgs false
set_option maxRecDepth 100000
set_option maxHeartbeats 4000000
namespace Go.Vs
open Go.Proofs
@[reducible] def prP (b : Blz) (c n : Int) : Prop := tv (arr b) n ≠ -1 ∧ hop b n c (tv (arr b) n) = tv (arr b) c
structure FirstPr (b : Blz) (c : Int) (k : Nat) (n : Int) : Prop where
  at_ : (nears b.t c)[k]? = some n
  ok : prP b c n
  no : ∀ (j : Nat) m, j < k → (nears b.t c)[j]? = some m → ¬ prP b c m
inductive IsPath (b : Blz) : Int → List Int → Prop
  | src {c : Int} : c ∈ b.src → IsPath b c [c]
  | step {c : Int} {k : Nat} {n : Int} {p : List Int} : c ∉ b.src → FirstPr b c k n → IsPath b n p → IsPath b c (p ++ [c])
theorem FirstPr.facts {b : Blz} (hb : GoodB b) {c n : Int} {k : Nat} (hc : IsCell b.t c) (h : tv (arr b) c ≠ -1) (hf : FirstPr b c k n) : IsCell b.t n ∧ tv (arr b) n ≠ -1 ∧ tv (arr b) n < tv (arr b) c ∧ b.st ≤ tv (arr b) n ∧ n ∈ nears b.t c := by
  have h1 := get_mem hf.at_
  have h2 := nears_mem.1 h1
  have h3 := arr_start hb h2.1 hf.ok.1
  have h4 := arr_start hb hc h
  have h5 := hop_bnd hb (show 0 ≤ tv (arr b) n by have := hb.2.2; omega) (show Edge b n c from ⟨h2.1, hc, by rw [apart_comm]; exact h2.2, h4.2.1⟩) h3.2.1
  have h6 := hf.ok.2
  exact ⟨h2.1, hf.ok.1, by omega, h3.1, h1⟩
structure PathOk (b : Blz) (c : Int) (p : List Int) : Prop where
  pos : 1 ≤ p.length
  beg : ∃ s, p[0]? = some s ∧ s ∈ b.src
  fin : p[p.length - 1]? = some c
  cel : ∀ x ∈ p, IsCell b.t x ∧ tv (arr b) x ≠ -1
  stp : ∀ (i : Nat) x y, p[i]? = some x → p[i + 1]? = some y → x ∈ nears b.t y ∧ tv (arr b) x < tv (arr b) y ∧ y ∉ b.src
theorem IsPath.ok {b : Blz} (hb : GoodB b) {c : Int} {p : List Int} (h : IsPath b c p) (hc : IsCell b.t c) (hne : tv (arr b) c ≠ -1) : PathOk b c p := by
  induction h with
  | @src c hs => exact ⟨by simp, ⟨c, rfl, hs⟩, rfl, fun x hx => by rw [List.mem_singleton] at hx; subst hx; exact ⟨hc, hne⟩, fun i x y h1 h2 => by simp at h2⟩
  | @step c k n p hs hf hp ih =>
    have h2 := hf.facts hb hc hne
    have I := ih h2.1 h2.2.1
    have hpos := I.pos
    refine ⟨by simp, ?_, by simp, fun x hx => ?_, fun i x y h3 h4 => ?_⟩
    · obtain ⟨s, e, hm⟩ := I.beg
      exact ⟨s, by rw [List.getElem?_append_left aO]; exact e, hm⟩
    · rcases List.mem_append.1 hx with h1 | h1
      · exact I.cel x h1
      · rw [List.mem_singleton] at h1; subst h1; exact ⟨hc, hne⟩
    · rcases Nat.lt_or_ge (i + 1) p.length with h5 | h5
      · rw [List.getElem?_append_left aO] at h3 h4
        exact I.stp i x y h3 h4
      · have h6 := get_lt h4
        rw [List.length_append, List.length_singleton] at h6
        have h7 : i = p.length - 1 := by omega
        subst h7
        rw [List.getElem?_append_left aO, I.fin] at h3
        rw [List.getElem?_append_right aO, show p.length - 1 + 1 - p.length = 0 by omega] at h4
        injection h3 with h3
        simp at h4
        subst h3
        subst h4
        exact ⟨h2.2.2.2.2, h2.2.2.1, hs⟩
@[reducible] def buP (T : List Int) (k : Int) (c : Nat) : Bool := decide (0 ≤ tv T c ∧ tv T c ≤ k)
def burL (T : List Int) (k : Int) : List Int := cellsL T.length (buP T k)
theorem burL_len (T : List Int) (k : Int) : (burL T k).length ≤ T.length := cellsL_len _ _
theorem burL_mem {T : List Int} {k c : Int} : c ∈ burL T k ↔ (0 ≤ c ∧ c < T.length) ∧ 0 ≤ tv T c ∧ tv T c ≤ k := by
  rw [burL, cellsL_mem]
  constructor
  · rintro ⟨i, h1, h2, rfl⟩
    exact ⟨by omega, of_decide_eq_true h2⟩
  · rintro ⟨h1, h2⟩
    refine ⟨c.toNat, by omega, ?_, by omega⟩
    rw [buP, show ((c.toNat : Nat) : Int) = c by omega]
    exact decide_eq_true h2
end Go.Vs
set_option linter.unusedVariables false
set_option linter.unusedSimpArgs false
set_option maxRecDepth 100000
set_option maxHeartbeats 4000000
namespace Go.Vs
open Go.Proofs
structure Scen where
  (phases : List Phase)
  (weight : Int)
@[reducible] def Scen.pv (s : Scen) : List PV := [.list 2 (s.phases.map Phase.pv), .int .i64 s.weight]
theorem Scen.at {xs : List Scen} {i : Nat} {a : Scen} (h : xs[i]? = some a) : (xs.map Scen.pv)[i]? = some [.list 2 (a.phases.map Phase.pv), .int .i64 a.weight] := by simp [h]
structure Ens where
  (t : Terrain)
  (L : List Scen)
  (src : List Int)
  (st : Int)
@[reducible] def Ens.bz (e : Ens) (s : Scen) : Blz := ⟨e.t, s.phases, e.src, e.st⟩
def OneSc (s : Scen) : Prop := GoodP s.phases ∧ 1 ≤ s.weight ∧ s.weight ≤ 100
instance (s : Scen) : Decidable (OneSc s) := by unfold OneSc; infer_instance
def GoodL (L : List Scen) : Prop := (∀ s ∈ L, OneSc s) ∧ 1 ≤ L.length ∧ L.length ≤ 4
instance (L : List Scen) : Decidable (GoodL L) := by unfold GoodL; infer_instance
def GoodEn (e : Ens) : Prop := SetOk e.t e.src ∧ GoodL e.L ∧ 0 ≤ e.st ∧ e.st ≤ 1000
instance (e : Ens) : Decidable (GoodEn e) := by unfold GoodEn; infer_instance
theorem GoodEn.b {e : Ens} (h : GoodEn e) {s : Scen} (hs : s ∈ e.L) : GoodB (e.bz s) := ⟨h.1, (h.2.1.1 s hs).1, h.2.2⟩
theorem rise_nodupE {l : List Int} (h : l.Pairwise (· < ·)) : l.Nodup := h.imp fun h => by omega
theorem nodup_subE : ∀ {l m : List Int}, l.Nodup → (∀ x ∈ l, x ∈ m) → l.length ≤ m.length
  | [], _, _, _ => by simp
  | a :: l, m, hn, hs => by
    obtain ⟨h1, h2⟩ := List.nodup_cons.1 hn
    have ha := hs a (by simp)
    have h3 := nodup_subE (l := l) (m := m.erase a) h2 fun x hx => (List.mem_erase_of_ne (fun e => h1 (by rw [← e]; exact hx))).2 (hs x (List.mem_cons_of_mem _ hx))
    rw [List.length_erase_of_mem ha] at h3
    have := List.length_pos_of_mem ha
    rw [List.length_cons]
    omega
theorem cells_riseE (n : Nat) (p : Nat → Bool) : (cellsL n p).Pairwise (· < ·) := by
  induction n with
  | zero => simp [cellsL]
  | succ n ih =>
    cases h : p n with
    | false => rw [cellsL_f h]; exact ih
    | true =>
      rw [cellsL_t h, List.pairwise_append]
      refine ⟨ih, by simp, fun a ha b hb => ?_⟩
      obtain ⟨i, h1, _, rfl⟩ := cellsL_mem.1 ha
      rw [List.mem_singleton] at hb
      subst hb
      omega
theorem cells_memE {n : Nat} {p : Int → Bool} {x : Int} : x ∈ cellsL n (fun i => p (i : Int)) ↔ (0 ≤ x ∧ x < n) ∧ p x = true := by
  rw [cellsL_mem]
  constructor
  · rintro ⟨i, h1, h2, rfl⟩
    exact ⟨by omega, h2⟩
  · rintro ⟨h1, h2⟩
    refine ⟨x.toNat, by omega, ?_, by omega⟩
    rw [show ((x.toNat : Nat) : Int) = x by omega]
    exact h2
noncomputable def buS (e : Ens) (k : Int) (s : Scen) : List Int := burL (arr (e.bz s)) k
@[reducible] def wtS (s : Scen) : Int := s.weight
@[reducible] def wIfS (p : Scen → Bool) (s : Scen) : Int := if p s = true then s.weight else 0
@[reducible] def nIf (p : Scen → Bool) (s : Scen) : Int := if p s = true then 1 else 0
noncomputable def hasS (e : Ens) (k c : Int) (s : Scen) : Bool := decide (c ∈ buS e k s)
noncomputable def cntE (e : Ens) (k c : Int) : Int := sumBy (nIf (hasS e k c)) e.L
noncomputable def sureL (e : Ens) (k : Int) : List Int := cellsL e.t.burn.length fun i => decide (cntE e k (i : Int) = e.L.length)
noncomputable def mayL (e : Ens) (k : Int) : List Int := cellsL e.t.burn.length fun i => decide (0 < cntE e k (i : Int))
def wgtE (e : Ens) : Int := sumBy wtS e.L
noncomputable def sumE (e : Ens) (k c : Int) : Int := sumBy (wIfS (hasS e k c)) e.L
@[reducible] noncomputable def mnS (e : Ens) (k : Int) (s : Scen) : Int := s.weight * ((buS e k s).length : Int)
noncomputable def meanE (e : Ens) (k : Int) : Int := sumBy (mnS e k) e.L
theorem bu_len {e : Ens} (h : GoodEn e) (k : Int) {s : Scen} (hs : s ∈ e.L) : (buS e k s).length ≤ e.t.burn.length := by
  have := burL_len (arr (e.bz s)) k
  rw [arr_len (h.b hs)] at this
  exact this
theorem bu_cell {e : Ens} (h : GoodEn e) {k : Int} {s : Scen} (hs : s ∈ e.L) {c : Int} (hc : c ∈ buS e k s) : IsCell e.t c := by
  have := (burL_mem.1 hc).1
  rw [arr_len (h.b hs)] at this
  exact this
theorem bu_rise (e : Ens) (k : Int) (s : Scen) : (buS e k s).Pairwise (· < ·) := cells_riseE _ _
theorem sum_le {α : Type} {f g : α → Int} : ∀ {l : List α}, (∀ y ∈ l, f y ≤ g y) → sumBy f l ≤ sumBy g l
  | [], _ => by simp [sumBy]
  | a :: l, h => by
    rw [sumBy_cons, sumBy_cons]
    have := h a (by simp)
    have := sum_le (l := l) fun y hy => h y (List.mem_cons_of_mem _ hy)
    omega
theorem sum_lt {α : Type} {f g : α → Int} : ∀ {l : List α}, (∀ y ∈ l, f y ≤ g y) → (∃ y ∈ l, f y < g y) → sumBy f l < sumBy g l
  | [], _, ⟨y, hy, _⟩ => by cases hy
  | a :: l, h, ⟨y, hy, hlt⟩ => by
    rw [sumBy_cons, sumBy_cons]
    have h1 := h a (by simp)
    have h2 := sum_le (l := l) fun y hy => h y (List.mem_cons_of_mem _ hy)
    rcases List.mem_cons.1 hy with rfl | hm
    · omega
    · have := sum_lt (l := l) (fun y hy => h y (List.mem_cons_of_mem _ hy)) ⟨y, hm, hlt⟩
      omega
theorem sum_one {α : Type} (l : List α) : sumBy (fun _ => (1 : Int)) l = l.length := by
  induction l with
  | nil => rfl
  | cons a l ih => rw [sumBy_cons, ih, List.length_cons]; omega
theorem sum_nul {α : Type} (l : List α) : sumBy (fun _ => (0 : Int)) l = 0 := by
  induction l with
  | nil => rfl
  | cons a l ih => rw [sumBy_cons, ih]; rfl
theorem cnt_all (p : Scen → Bool) (L : List Scen) : sumBy (nIf p) L = L.length ↔ ∀ s ∈ L, p s = true := by
  constructor
  · intro h s hs
    cases hp : p s with
    | true => rfl
    | false =>
      have := sum_lt (f := nIf p) (g := fun _ => 1) (l := L) (fun y _ => by unfold nIf; split <;> omega) ⟨s, hs, by unfold nIf; rw [if_neg (by rw [hp]; simp)]; omega⟩
      rw [sum_one] at this
      omega
  · intro h
    rw [← sum_one]
    exact sumBy_congr fun s hs => by unfold nIf; rw [if_pos (h s hs)]
theorem cnt_pos (p : Scen → Bool) (L : List Scen) : 0 < sumBy (nIf p) L ↔ ∃ s ∈ L, p s = true := by
  constructor
  · intro h
    refine Classical.byContradiction fun hn => ?_
    have : sumBy (nIf p) L = sumBy (fun _ => 0) L := sumBy_congr fun s hs => by unfold nIf; rw [if_neg fun hp => hn ⟨s, hs, hp⟩]
    rw [sum_nul] at this
    omega
  · rintro ⟨s, hs, hp⟩
    have := sum_lt (f := fun _ => (0 : Int)) (g := nIf p) (l := L) (fun y _ => by unfold nIf; split <;> omega) ⟨s, hs, by unfold nIf; rw [if_pos hp]; omega⟩
    rw [sum_nul] at this
    exact this
theorem wt_allS {L : List Scen} (hL : GoodL L) (p : Scen → Bool) : sumBy (wIfS p) L = sumBy wtS L ↔ ∀ s ∈ L, p s = true := by
  constructor
  · intro h s hs
    cases hp : p s with
    | true => rfl
    | false =>
      have := sum_lt (f := wIfS p) (g := wtS) (l := L) (fun y hy => by have := (hL.1 y hy).2; unfold wIfS wtS; split <;> omega) ⟨s, hs, by have := (hL.1 s hs).2; unfold wIfS wtS; rw [if_neg (by rw [hp]; simp)]; omega⟩
      omega
  · intro h
    exact sumBy_congr fun s hs => by unfold wIfS; rw [if_pos (h s hs)]
theorem wt_posS {L : List Scen} (hL : GoodL L) (p : Scen → Bool) : 0 < sumBy (wIfS p) L ↔ ∃ s ∈ L, p s = true := by
  constructor
  · intro h
    refine Classical.byContradiction fun hn => ?_
    have : sumBy (wIfS p) L = sumBy (fun _ => 0) L := sumBy_congr fun s hs => by unfold wIfS; rw [if_neg fun hp => hn ⟨s, hs, hp⟩]
    rw [sum_nul] at this
    omega
  · rintro ⟨s, hs, hp⟩
    have := sum_lt (f := fun _ => (0 : Int)) (g := wIfS p) (l := L) (fun y hy => by have := (hL.1 y hy).2; unfold wIfS; split <;> omega) ⟨s, hs, by have := (hL.1 s hs).2; unfold wIfS; rw [if_pos hp]; omega⟩
    rw [sum_nul] at this
    exact this
theorem wtS_bnd {L : List Scen} (hL : GoodL L) (i : Nat) : 0 ≤ sumBy wtS (L.take i) ∧ sumBy wtS (L.take i) ≤ 400 := by
  have h := sumBy_bound wtS 100 (L.take i) fun y hy => by have := (hL.1 y (List.mem_of_mem_take hy)).2; unfold wtS; omega
  have h2 := hL.2.2
  have h3 := List.length_take_le i L
  have h4 : (L.take i).length ≤ L.length := by rw [List.length_take]; omega
  omega
theorem wIfS_bnd {L : List Scen} (hL : GoodL L) (p : Scen → Bool) (i : Nat) : 0 ≤ sumBy (wIfS p) (L.take i) ∧ sumBy (wIfS p) (L.take i) ≤ 400 := by
  have h := sumBy_bound (wIfS p) 100 (L.take i) fun y hy => by have := (hL.1 y (List.mem_of_mem_take hy)).2; unfold wIfS; split <;> omega
  have h2 := hL.2.2
  have h4 : (L.take i).length ≤ L.length := by rw [List.length_take]; omega
  omega
theorem wE_bnd {e : Ens} (h : GoodEn e) : 1 ≤ wgtE e ∧ wgtE e ≤ 400 := by
  have h1 := wtS_bnd h.2.1 e.L.length
  rw [List.take_length] at h1
  have h2 := (wt_posS h.2.1 fun _ => true).2
  obtain ⟨s, hs⟩ := get_ex (show 0 < e.L.length by have := h.2.1.2; omega)
  have h3 := h2 ⟨s, get_mem hs, rfl⟩
  have h4 : sumBy (wIfS fun _ => true) e.L = wgtE e := sumBy_congr fun s _ => rfl
  unfold wgtE at *
  omega
theorem sE_bnd {e : Ens} (h : GoodEn e) (k c : Int) : 0 ≤ sumE e k c ∧ sumE e k c ≤ 400 := by
  have h1 := wIfS_bnd h.2.1 (hasS e k c) e.L.length
  rw [List.take_length] at h1
  exact h1
theorem mE_take {e : Ens} (h : GoodEn e) (k : Int) (i : Nat) : 0 ≤ sumBy (mnS e k) (e.L.take i) ∧ sumBy (mnS e k) (e.L.take i) ≤ 10000 := by
  have h0 := goodT_len h.1.1
  have h := sumBy_bound (mnS e k) 2500 (e.L.take i) fun y hy => by
    have hy := List.mem_of_mem_take hy
    have h1 := (h.2.1.1 y hy).2
    have h2 := bu_len h k hy
    unfold mnS
    have h3 : y.weight * ((buS e k y).length : Int) ≤ 100 * 25 := Int.mul_le_mul h1.2 aO aO aO
    have h4 : 0 ≤ y.weight * ((buS e k y).length : Int) := Int.mul_nonneg aO aO
    omega
  have h2 : (e.L.take i).length ≤ 4 := by rw [List.length_take]; rename_i hh; have := hh.2.1.2.2; omega
  omega
theorem sure_mem {e : Ens} {k c : Int} : c ∈ sureL e k ↔ IsCell e.t c ∧ ∀ s ∈ e.L, c ∈ buS e k s := by
  unfold sureL
  rw [cells_memE (p := fun i => decide (cntE e k i = e.L.length)), decide_eq_true_eq, cntE, cnt_all]
  refine and_congr Iff.rfl ?_
  simp only [hasS, decide_eq_true_eq]
theorem may_mem {e : Ens} {k c : Int} : c ∈ mayL e k ↔ IsCell e.t c ∧ ∃ s ∈ e.L, c ∈ buS e k s := by
  unfold mayL
  rw [cells_memE (p := fun i => decide (0 < cntE e k i)), decide_eq_true_eq, cntE, cnt_pos]
  refine and_congr Iff.rfl ?_
  simp only [hasS, decide_eq_true_eq]
theorem sure_iff {e : Ens} (h : GoodEn e) {k c : Int} (hc : IsCell e.t c) : c ∈ sureL e k ↔ sumE e k c = wgtE e := by
  unfold sumE wgtE
  rw [sure_mem, wt_allS h.2.1]
  simp only [hasS, decide_eq_true_eq]
  exact ⟨fun h => h.2, fun h => ⟨hc, h⟩⟩
theorem may_iff {e : Ens} (h : GoodEn e) {k c : Int} (hc : IsCell e.t c) : c ∈ mayL e k ↔ 0 < sumE e k c := by
  unfold sumE
  rw [may_mem, wt_posS h.2.1]
  simp only [hasS, decide_eq_true_eq]
  exact ⟨fun h => h.2, fun h => ⟨hc, h⟩⟩
theorem sure_may {e : Ens} (h : GoodEn e) (k : Int) : ∀ x ∈ sureL e k, x ∈ mayL e k := fun x hx => by
  obtain ⟨h1, h2⟩ := sure_mem.1 hx
  obtain ⟨s, hs⟩ := get_ex (show 0 < e.L.length by have := h.2.1.2; omega)
  exact may_mem.2 ⟨h1, s, get_mem hs, h2 s (get_mem hs)⟩
theorem mul_sumE {α : Type} (k : Int) (f : α → Int) (l : List α) : k * sumBy f l = sumBy (fun a => f a * k) l := by
  induction l with
  | nil => simp [sumBy]
  | cons a l ih => rw [sumBy_cons, sumBy_cons, Int.mul_add, ih, Int.mul_comm]
theorem mean_ge {e : Ens} (h : GoodEn e) (k : Int) : ((sureL e k).length : Int) * wgtE e ≤ meanE e k ∧ meanE e k ≤ ((mayL e k).length : Int) * wgtE e := by
  unfold wgtE meanE
  rw [mul_sumE, mul_sumE]
  constructor
  · refine sum_le fun s hs => Int.mul_le_mul_of_nonneg_left ?_ (by have := (h.2.1.1 s hs).2; show 0 ≤ s.weight; omega)
    have := nodup_subE (rise_nodupE (cells_riseE e.t.burn.length fun i => decide (cntE e k (i : Int) = e.L.length))) (m := buS e k s) fun x hx => (sure_mem.1 hx).2 s hs
    unfold sureL
    omega
  · refine sum_le fun s hs => Int.mul_le_mul_of_nonneg_left ?_ (by have := (h.2.1.1 s hs).2; show 0 ≤ s.weight; omega)
    have := nodup_subE (rise_nodupE (bu_rise e k s)) (m := mayL e k) fun x hx => may_mem.2 ⟨bu_cell h hs hx, s, hs, hx⟩
    omega
def sumC (f : Nat → Int) : Nat → Int
  | 0 => 0
  | n + 1 => sumC f n + f n
theorem sumC_zero (n : Nat) : sumC (fun _ => 0) n = 0 := by
  induction n with
  | zero => rfl
  | succ n ih => rw [sumC, ih]; rfl
theorem sumC_add (f g : Nat → Int) (n : Nat) : sumC (fun i => f i + g i) n = sumC f n + sumC g n := by
  induction n with
  | zero => rfl
  | succ n ih => rw [sumC, sumC, sumC, ih]; omega
theorem sumC_mul (k : Int) (f : Nat → Int) (n : Nat) : sumC (fun i => k * f i) n = k * sumC f n := by
  induction n with
  | zero => simp [sumC]
  | succ n ih => rw [sumC, sumC, ih, Int.mul_add]
theorem sumC_congr {f g : Nat → Int} {n : Nat} (h : ∀ i, i < n → f i = g i) : sumC f n = sumC g n := by
  induction n with
  | zero => rfl
  | succ n ih => rw [sumC, sumC, ih fun i hi => h i aO, h n aO]
theorem sumC_cells (p : Nat → Bool) (n : Nat) : sumC (fun i => if p i = true then 1 else 0) n = ((cellsL n p).length : Int) := by
  induction n with
  | zero => rfl
  | succ n ih =>
    rw [sumC, ih]
    cases hp : p n with
    | true => rw [cellsL_t hp, List.length_append]; simp
    | false => rw [cellsL_f hp]; simp
theorem bu_cells {e : Ens} (h : GoodEn e) (k : Int) {s : Scen} (hs : s ∈ e.L) : ((buS e k s).length : Int) = sumC (fun i => if hasS e k (i : Int) s = true then 1 else 0) e.t.burn.length := by
  rw [sumC_cells (fun i => hasS e k (i : Int) s)]
  have : buS e k s = cellsL e.t.burn.length fun i => hasS e k (i : Int) s := by
    refine rise_ext (bu_rise e k s) (cells_riseE _ _) fun x => ?_
    rw [cells_memE (p := fun i => hasS e k i s), hasS, decide_eq_true_eq]
    exact ⟨fun hx => ⟨bu_cell h hs hx, hx⟩, fun hx => hx.2⟩
  rw [← this]
theorem sum_cells {e : Ens} (h : GoodEn e) (k : Int) : sumC (fun i => sumE e k (i : Int)) e.t.burn.length = meanE e k := by
  unfold meanE
  have h1 : sumBy (mnS e k) e.L = sumBy (fun s => sumC (fun i => wIfS (hasS e k (i : Int)) s) e.t.burn.length) e.L := by
    refine sumBy_congr fun s hs => ?_
    unfold mnS
    rw [bu_cells h k hs, ← sumC_mul]
    exact sumC_congr fun i _ => by unfold wIfS; split <;> omega
  rw [h1]
  have h2 : ∀ (L : List Scen) (n : Nat), sumBy (fun s => sumC (fun i => wIfS (hasS e k (i : Int)) s) n) L = sumC (fun i => sumBy (wIfS (hasS e k (i : Int))) L) n := by
    intro L
    induction L with
    | nil => intro n; rw [show (fun i : Nat => sumBy (wIfS (hasS e k (i : Int))) []) = fun _ => 0 from rfl, sumC_zero]; rfl
    | cons a L ih =>
      intro n
      rw [sumBy_cons, ih, ← sumC_add]
      exact sumC_congr fun i _ => by rw [sumBy_cons]
  rw [h2]
  rfl
theorem sumC_bnd {f : Nat → Int} {B : Int} (n : Nat) (h : ∀ i, i < n → 0 ≤ f i ∧ f i ≤ B) : 0 ≤ sumC f n ∧ sumC f n ≤ B * n := by
  induction n with
  | zero => simp [sumC]
  | succ n ih =>
    have h1 := ih fun i hi => h i aO
    have h2 := h n aO
    rw [sumC, show B * ((n + 1 : Nat) : Int) = B * n + B by rw [show ((n + 1 : Nat) : Int) = (n : Int) + 1 by omega, Int.mul_add, Int.mul_one]]
    omega
theorem fracE {p q : Int} (hq : 1 ≤ q) : (1 : Int) ≤ (Int.gcd p q : Int) ∧ p / (Int.gcd p q : Int) * (Int.gcd p q : Int) = p ∧ q / (Int.gcd p q : Int) * (Int.gcd p q : Int) = q ∧ 1 ≤ q / (Int.gcd p q : Int) := by
  have hg : 0 < Int.gcd p q := Nat.pos_of_ne_zero fun h => by
    have := (Int.gcd_eq_zero_iff.1 h).2
    omega
  have h1 := Int.ediv_mul_cancel (Int.gcd_dvd_left p q)
  have h2 := Int.ediv_mul_cancel (Int.gcd_dvd_right p q)
  refine ⟨by omega, h1, h2, ?_⟩
  have h3 : 0 < q / (Int.gcd p q : Int) * (Int.gcd p q : Int) := by rw [h2]; omega
  have : 0 < q / (Int.gcd p q : Int) := by
    rcases Int.lt_or_le 0 (q / (Int.gcd p q : Int)) with h | h
    · exact h
    · have := Int.mul_nonpos_of_nonpos_of_nonneg h (show (0 : Int) ≤ (Int.gcd p q : Int) by omega)
      omega
  omega
theorem fracE_back {p q : Int} (hq : 1 ≤ q) : q % (q / (Int.gcd p q : Int)) = 0 ∧ q / (q / (Int.gcd p q : Int)) = (Int.gcd p q : Int) ∧ p / (Int.gcd p q : Int) * (q / (q / (Int.gcd p q : Int))) = p := by
  obtain ⟨h1, h2, h3, h4⟩ := fracE (p := p) hq
  generalize (Int.gcd p q : Int) = g at *
  generalize hy : q / g = y at *
  have e : q / y = g := by rw [← h3, Int.mul_ediv_cancel_left _ aO]
  refine ⟨?_, e, by rw [e]; exact h2⟩
  rw [← h3]
  exact Int.mul_emod_right y g
theorem fracE_all {p q : Int} (hq : 1 ≤ q) (hp : 0 ≤ p) : (p / (Int.gcd p q : Int) = q / (Int.gcd p q : Int) ↔ p = q) ∧ (0 < p / (Int.gcd p q : Int) ↔ 0 < p) ∧ 0 ≤ p / (Int.gcd p q : Int) ∧ p / (Int.gcd p q : Int) ≤ p ∧ q / (Int.gcd p q : Int) ≤ q := by
  obtain ⟨h1, h2, h3, h4⟩ := fracE (p := p) hq
  generalize (Int.gcd p q : Int) = g at *
  have h5 : 0 ≤ p / g := Int.ediv_nonneg hp aO
  generalize p / g = x at *
  generalize q / g = y at *
  have h6 : x * 1 ≤ x * g := Int.mul_le_mul_of_nonneg_left h1 h5
  have h7 : y * 1 ≤ y * g := Int.mul_le_mul_of_nonneg_left h1 aO
  refine ⟨⟨fun h => by rw [← h2, ← h3, h], fun h => ?_⟩, ⟨fun h => by omega, fun h => ?_⟩, h5, by omega, by omega⟩
  · rw [← h2, ← h3] at h
    exact Int.eq_of_mul_eq_mul_right aO h
  · rcases Int.lt_or_le 0 x with h8 | h8
    · exact h8
    · have : x = 0 := by omega
      subst this
      omega
theorem fracE_le {p q n : Int} (hq : 1 ≤ q) : (n * q ≤ p → n * (q / (Int.gcd p q : Int)) ≤ p / (Int.gcd p q : Int)) ∧ (p ≤ n * q → p / (Int.gcd p q : Int) ≤ n * (q / (Int.gcd p q : Int))) := by
  obtain ⟨h1, h2, h3, h4⟩ := fracE (p := p) hq
  generalize (Int.gcd p q : Int) = g at *
  generalize p / g = x at *
  generalize q / g = y at *
  have e : n * q = n * y * g := by rw [← h3, Int.mul_assoc]
  rw [e, ← h2]
  exact ⟨fun h => Int.le_of_mul_le_mul_right h aO, fun h => Int.le_of_mul_le_mul_right h aO⟩
structure Worst (e : Ens) (k : Int) (i : Nat) (best most : Int) : Prop where
  neg : i = 0 → best = 0 ∧ most = -1
  at_ : 0 < i → ∃ (j : Nat) (s : Scen), j < i ∧ best = (j : Int) ∧ e.L[j]? = some s ∧ most = ((buS e k s).length : Int)
  ge : ∀ (j : Nat) (s : Scen), j < i → e.L[j]? = some s → ((buS e k s).length : Int) ≤ most
  lo : -1 ≤ most
  fst : ∀ (j : Nat) (s : Scen), (j : Int) < best → e.L[j]? = some s → ((buS e k s).length : Int) < most
end Go.Vs
set_option linter.unusedVariables false
set_option linter.unusedSimpArgs false
set_option maxRecDepth 100000
set_option maxHeartbeats 4000000
namespace Go.Vs
open Go.Proofs
attribute [local irreducible] exec vwp thenQ blkQ loopQ RetPost
@[reducible] def EnS : Type := Cu × List Scen × Int
def PhB (L : List Scen) : Prop := ∀ x ∈ L, x.phases.length ≤ 7
theorem phB_snoc {L : List Scen} {x : Scen} (h : PhB L) (hx : x.phases.length ≤ 7) : PhB (L ++ [x]) := fun y hy => by
  rcases List.mem_append.1 hy with h1 | h1
  · exact h y h1
  · rw [List.mem_singleton] at h1; subst h1; exact hx
@[reducible] def oneSc : Scen := ⟨[⟨0, 5⟩], 1⟩
theorem k_ensembleD (c : Cu) (hc : c.Ok) (hp : c.pos + 600 ≤ 1152921504606846976) : ∃ (L : List Scen) (c' : Cu), Dr 138 [] c (.olist 56 2 (L.map Scen.pv)) c' ∧ Aft c c' 500 ∧ L.length ≤ 5 ∧ PhB L := by
  obtain ⟨n0, c1, k1, a1, n1, n2, _⟩ := k_pick c 3 hc aO aO
  have n2 := n2 aO
  have o1 := a1.ok hc aO
  have p1 := a1.pos
  obtain ⟨f, f0, fs⟩ := seq_ex (S := EnS) (Q := fun i s => i ≤ 3 → Aft c1 s.1 (102 * i) ∧ s.2.1.length = i ∧ PhB s.2.1)
    (R := fun i s s' => i < 3 → ∃ (ps : List Phase) (c2 : Cu) (w : Int), Dr 73 [] s.1 (.list 2 (ps.map Phase.pv)) c2 ∧ Dr 75 [.list 1 (ints [1, 1, 2, 5, 100])] c2 (.int .i64 w) s'.1 ∧ s'.2.1 = s.2.1 ++ [⟨ps, w⟩])
    (c1, [], 0) (fun _ => ⟨(Aft.refl c1).le aO, rfl, fun x hx => (by cases hx)⟩) (fun i st hq => by
      by_cases hi : i < 3
      · obtain ⟨ad, hl, hb⟩ := hq aO
        have od := ad.ok o1 aO
        have pd := ad.pos
        obtain ⟨ps, c2, k2, a2, hps⟩ := k_phasesZ st.1 od aO
        have o2 := a2.ok od aO
        have p2 := a2.pos
        obtain ⟨w, c3, k3, a3, _⟩ := k_among c2 [1, 1, 2, 5, 100] o2 aO (by decide)
        exact ⟨(c3, st.2.1 ++ [⟨ps, w⟩], 0), fun _ => ⟨ps, c2, w, k2, k3, rfl⟩, fun _ => ⟨((ad.trans a2).trans a3).le (by first | omega | (simp only; omega)), by simp [hl], phB_snoc hb hps⟩⟩
      · exact ⟨st, fun h => absurd h hi, fun h => by omega⟩)
  obtain ⟨N, hN⟩ : ∃ N : Nat, 1 + n0 = (N : Int) := ⟨(1 + n0).toNat, by omega⟩
  obtain ⟨ad, hl, hb⟩ := (fs N).1 aO
  have od := ad.ok o1 aO
  have pd := ad.pos
  obtain ⟨r, c2, k2, a2, _⟩ := k_pick (f N).1 32 od aO aO
  have o2 := a2.ok od aO
  have p2 := a2.pos
  have aft2 := (a1.trans ad).trans a2
  obtain ⟨x0, c3, k3, a3, _⟩ := k_among c2 [0, 101] o2 aO (by decide)
  obtain ⟨w, hw⟩ := get_ex (show 0 < (f N).2.1.length by omega)
  have hw2 : ((f N).2.1.map Scen.pv)[0]? = some w.pv := Scen.at hw
  have hse : ((f N).2.1.map Scen.pv).set 0 [.list 2 (w.phases.map Phase.pv), .int .i64 x0] = ((f N).2.1.set 0 ⟨w.phases, x0⟩).map Scen.pv := by rw [List.map_set]
  have hsb : PhB ((f N).2.1.set 0 ⟨w.phases, x0⟩) := fun y hy => by
    rcases List.mem_or_eq_of_mem_set hy with h1 | h1
    · exact hb y h1
    · rw [h1]; exact hb w (get_mem hw)
  obtain ⟨g, g0, gs⟩ := seq_ex (S := EnS) (Q := fun i s => i ≤ 6 → Aft c2 s.1 (2 * i) ∧ s.2.1.length = N + i ∧ PhB s.2.1)
    (R := fun i s s' => i < 6 → Dr 104 [.int .i64 2] s.1 (.int .i64 s'.2.2) s'.1 ∧ (0 ≤ s'.2.2 ∧ s'.2.2 < 2) ∧ s'.2.1 = s.2.1 ++ [oneSc])
    (c2, (f N).2.1, 0) (fun _ => ⟨(Aft.refl c2).le aO, by first | omega | (simp only; omega), hb⟩) (fun i st hq => by
      by_cases hi : i < 6
      · obtain ⟨ad, hl2, hb2⟩ := hq aO
        have od := ad.ok o2 aO
        have pd := ad.pos
        obtain ⟨r5, c5, k5, a5, b5, b6, _⟩ := k_pick st.1 2 od aO aO
        exact ⟨(c5, st.2.1 ++ [oneSc], r5), fun _ => ⟨k5, ⟨b5, b6 aO⟩, rfl⟩, fun _ => ⟨(ad.trans a5).le (by first | omega | (simp only; omega)), by simp; omega, phB_snoc hb2 (by simp)⟩⟩
      · exact ⟨st, fun h => absurd h hi, fun h => by omega⟩)
  obtain ⟨K, hK7, hK, hKl⟩ := least_ex (P := fun i => ¬ ((N : Int) + i < 4 + (g (i + 1)).2.2)) 5 (by
    obtain ⟨_, h2, _⟩ := (gs 5).2 aO
    try simp only
    omega)
  obtain ⟨adK, hlK, hbK⟩ := (gs K).1 aO
  obtain ⟨kK, bK, _⟩ := (gs K).2 aO
  have hlK7 : (g K).2.1.length ≤ 5 := by
    rw [hlK]
    rcases Nat.eq_zero_or_pos K with h0 | h0
    · omega
    · have h1 := hKl (K - 1) aO
      obtain ⟨_, h2, _⟩ := (gs (K - 1)).2 aO
      try simp only at h1
      omega
  obtain ⟨adK1, _⟩ := (gs (K + 1)).1 aO
  have key : ∃ (L : List Scen) (c' : Cu), Aft c c' 500 ∧ (L.length ≤ 5 ∧ PhB L) ∧ ((r = 0 ∧ L = [] ∧ c' = c2) ∨ (r ≠ 0 ∧ r = 1 ∧ L = (f N).2.1.set 0 ⟨w.phases, x0⟩ ∧ c' = c3) ∨ (r ≠ 0 ∧ r ≠ 1 ∧ r = 2 ∧ L = (g K).2.1 ∧ c' = (g (K + 1)).1) ∨ (r ≠ 0 ∧ r ≠ 1 ∧ r ≠ 2 ∧ L = (f N).2.1 ∧ c' = c2)) := by
    by_cases e0 : r = 0
    · exact ⟨[], c2, aft2.le aO, ⟨by simp, fun x hx => (by cases hx)⟩, Or.inl ⟨e0, rfl, rfl⟩⟩
    · by_cases e1 : r = 1
      · exact ⟨_, c3, (aft2.trans a3).le aO, ⟨by rw [List.length_set]; omega, hsb⟩, Or.inr (Or.inl ⟨e0, e1, rfl, rfl⟩)⟩
      · by_cases e2 : r = 2
        · exact ⟨_, _, (aft2.trans adK1).le aO, ⟨hlK7, hbK⟩, Or.inr (Or.inr (Or.inl ⟨e0, e1, e2, rfl, rfl⟩))⟩
        · exact ⟨_, c2, aft2.le aO, ⟨by omega, hb⟩, Or.inr (Or.inr (Or.inr ⟨e0, e1, e2, rfl, rfl⟩))⟩
  obtain ⟨L, c', hA, hL, key⟩ := key
  refine ⟨L, c', ?_, hA, hL.1, hL.2⟩
  clear hA hL
  refine za8 hmix Try.func138 rfl (by kernel_rfl) (by kernel_rfl) (Nat.le_of_ble_eq_true rfl) (fun row h => by (simp only [List.mem_cons, List.not_mem_nil, or_false] at h; first | (subst h; (first | exact .inl rfl | exact .inr (fun e he u hu => by (simp only [List.mem_cons, List.not_mem_nil, or_false] at he; subst he; simp only [List.mem_cons, List.not_mem_nil, or_false] at hu; subst hu; rfl)))) | (rcases h with rfl | rfl <;> (first | exact .inl rfl | exact .inr (fun e he u hu => by (simp only [List.mem_cons, List.not_mem_nil, or_false] at he; subst he; simp only [List.mem_cons, List.not_mem_nil, or_false] at hu; subst hu; rfl)))) | (rcases h with rfl | rfl | rfl <;> (first | exact .inl rfl | exact .inr (fun e he u hu => by (simp only [List.mem_cons, List.not_mem_nil, or_false] at he; subst he; simp only [List.mem_cons, List.not_mem_nil, or_false] at hu; subst hu; rfl)))) | (rcases h with rfl | rfl | rfl | rfl <;> (first | exact .inl rfl | exact .inr (fun e he u hu => by (simp only [List.mem_cons, List.not_mem_nil, or_false] at he; subst he; simp only [List.mem_cons, List.not_mem_nil, or_false] at hu; subst hu; rfl)))))) ?_
  have hty_s51 := ty_s51
  have hty_s24 := ty_s24
  have hty_u24 := ty_u24
  have hty_st56 := ty_st56
  have hty_u51 := ty_u51
  have hty_f56_0 := ty_f56_0
  have hty_c27 := ty_c27
  have hty_t56 := ty_t56
  have hty_a56 := ty_a56
  have hty_st75 := ty_st75
  have hty_s27 := ty_s27
  repeat' (first
      | (refine za5 ?_; first | (refine za6 ?_; refine zat _ rfl ?_) | (refine zad ?_; refine zaa _ rfl ?_) | (refine zbv ?_; first | (refine zby rfl rfl aO ?_) | (refine zck rfl rfl aO ?_) | (refine zbu _ rfl rfl rfl ?_) | (refine zbt aA rfl rfl ?_) | (refine zaw _ rfl rfl rfl ?_)) | (refine zbf ?_; first | (refine zac aA rfl ?_) | (refine zah _ aA rfl rfl aE rfl ?_) | (refine zaf _ aA rfl aZ aL ?_) | (refine zak _ aA rfl rfl aE aZ aL ?_)) | (refine zbm ?_; first | (refine zay _ aA rfl aL ?_) | (refine zax _ aA rfl rfl (by simp only [lx, Nat.reduceAdd]; first | done | rfl) ?_)) | (refine zbe ?_; first | (refine zau _ aA rfl rfl aO aA ?_) | (refine zav _ aA rfl rfl rfl rfl aO aO (by first | (rw [Nat.zero_add, Int.toNat_natCast]) | (rw [Nat.zero_add]) | rfl) ?_)) | (refine zbd ?_; first | (refine zb9 [(io, 0)] (k1) rfl rfl (by (repeat' (first | exact trivial | refine ⟨⟨_, rfl, ?_⟩, ?_⟩ | exact .inl ⟨rfl, .inl rfl⟩ | exact .inr ⟨rfl, rfl, rfl, rfl, rfl, fun e he u hu => by (simp only [List.mem_cons, List.not_mem_nil, or_false] at he; subst he; simp only [List.mem_cons, List.not_mem_nil, or_false] at hu; subst hu; rfl)⟩ | exact .inl ⟨rfl, .inr (fun e he => by (simp only [List.mem_cons, List.not_mem_nil, or_false] at he; subst he; rfl))⟩ | fail)); first | done | fail) rfl rfl aS rfl aH rfl ?_; simp only [cl]) | (refine za9 aA rfl ?_) | (refine zbc aA rfl rfl ?_) | (refine zba aA rfl ?_) | (refine zbb aA (evO_ok rfl) ?_) | (refine zb4 _ _ aA rfl (lookM (by rfl)) rfl (lookM (by rfl)) rfl aN ⟨rfl, rfl, by decide, by decide⟩ (by first | rfl | omega | (simp; done) | (simp; omega) | fail) ⟨by first | (simp only [List.length_cons, List.length_nil]; omega) | omega | fail, by decide⟩ rfl (by first | (first | (simp only [lx, Nat.reduceAdd]; first | done | rfl) | fail) | rfl) aP ?_) | (refine zb3 _ _ aA rfl rfl (lookM (by rfl)) ⟨rfl, by decide⟩ aN (by first | exact Nat.succ_pos _ | omega | (simp; done)) ⟨by first | (simp only [List.length_cons, List.length_nil]; omega) | omega | fail, by decide⟩ rfl rfl aP ?_) | (refine zb5 _ aA rfl rfl (lookM (by rfl)) ⟨rfl, by decide⟩ aN ⟨by first | (simp only [List.length_cons, List.length_nil]; omega) | omega | fail, by decide⟩ rfl aP ?_) | (refine zb0 _ aA rfl rfl rfl ⟨rfl, rfl, rfl, by decide, by decide⟩ (by first | rfl | (simp; done) | fail) ⟨by omega, by decide⟩ rfl aL (by first | (rw [Nat.zero_add]) | rfl) ?_)) | (first | refine x_buildSliceL (d := 49) aA rfl rfl rfl ?_ | refine za7 aA rfl rfl rfl ?_) | (refine zcg _ _ aA rfl rfl (by simp [buildPV, PV.cells]; first | done | rfl) ?_) | (refine zbo _ _ _ rfl rfl aE (by first | assumption | (exact TAgg.size aA)) rfl rfl rfl aZ rfl aL (by first | (first | (simp only [lx, Nat.reduceAdd]; first | done | rfl) | fail) | rfl) ?_) | (refine zas (hK _ _ (.inl rfl) ?_); clear hK K) | (refine zas (hK _ _ (.inr (by kernel_rfl)) ?_); clear hK K))
      | (refine za3 ?_; first | (refine zbp ?_) | (refine zaj (fun K hK => ?_)) | (refine zan ?_) | (refine za4 ?_) | (refine zbq ?_) | (refine za1 ?_) | (refine zbg ?_; first | (refine zam rfl aD ?_) | (refine zal rfl aD ?_) | (refine zaz rfl (fun h => ?_) (fun h => ?_) <;> (have h' := h; (try simp only [sx] at h')))))
      | (refine za2 ?_) | (refine zai ?_) | (refine zae ?_) | (refine zaq ?_) | (refine zar ?_) | (refine zao ?_) | (refine zap rfl ?_) | (refine zab ?_) | (refine zag ?_) | (refine zbr ?_))
  all_goals try (exfalso; omega)
  refine zcd [0] [(io, 0), (1001, 0)] (fun q : Nat × Cu × List (List PV) × Int × Nat => [(3, .osl (1001, 0) 0 q.2.2.2.2), (4, .int .i64 q.2.2.2.1)]) (fun q : Nat × Cu × List (List PV) × Int × Nat => [((io, 0), some (cuRow q.2.1)), ((1001, 0), some ⟨56, 2, q.2.2.1, false⟩)]) (fun q : Nat × Cu × List (List PV) × Int × Nat => q.2.1 = (f q.1).1 ∧ q.2.2.1 = (f q.1).2.1.map Scen.pv ∧ q.2.2.2.1 = (N : Int) - q.1 ∧ q.1 ≤ N ∧ q.2.2.1.length = q.2.2.2.2) (fun q : Nat × Cu × List (List PV) × Int × Nat => N - q.1) ((0, c1, [], 1 + n0, 0)) rfl rfl (fun _ => rfl) (fun _ => rfl) rfl aW ⟨by rw [f0], by rw [f0]; rfl, by simp only; omega, by simp, rfl⟩ (fun q hq => ?_)
  obtain ⟨m, d, es, v, en⟩ := q
  obtain ⟨hd, hes, hv, hmN, hen⟩ := hq
  try simp only at hd hes hv hmN hen
  dsimp only
  obtain ⟨ad, hl2, hb2⟩ := (fs m).1 aO
  have hel : es.length = m := by rw [hes, List.length_map, hl2]
  have hne := hen.symm
  by_cases hlt : m < N
  · obtain ⟨ps, cc, x, kp, ka, e1⟩ := (fs m).2 aO
    rw [← hd] at kp
    repeat' (first
      | (refine za5 ?_; first | (refine za6 ?_; refine zat _ rfl ?_) | (refine zad ?_; refine zaa _ rfl ?_) | (refine zbv ?_; first | (refine zby rfl rfl aO ?_) | (refine zck rfl rfl aO ?_) | (refine zbu _ rfl rfl rfl ?_) | (refine zbt aA rfl rfl ?_) | (refine zaw _ rfl rfl rfl ?_)) | (refine zbf ?_; first | (refine zac aA rfl ?_) | (refine zah _ aA rfl rfl aE rfl ?_) | (refine zaf _ aA rfl aZ aL ?_) | (refine zak _ aA rfl rfl aE aZ aL ?_)) | (refine zbm ?_; first | (refine zay _ aA rfl aL ?_) | (refine zax _ aA rfl rfl (by simp only [lx, Nat.reduceAdd]; first | done | rfl) ?_)) | (refine zbe ?_; first | (refine zau _ aA rfl rfl aO aA ?_) | (refine zav _ aA rfl rfl rfl rfl aO aO (by first | (rw [Nat.zero_add, Int.toNat_natCast]) | (rw [Nat.zero_add]) | rfl) ?_)) | (refine zbd ?_; first | (refine zb9 [(io, 0)] (kp) rfl rfl (by (repeat' (first | exact trivial | refine ⟨⟨_, rfl, ?_⟩, ?_⟩ | exact .inl ⟨rfl, .inl rfl⟩ | exact .inr ⟨rfl, rfl, rfl, rfl, rfl, fun e he u hu => by (simp only [List.mem_cons, List.not_mem_nil, or_false] at he; subst he; simp only [List.mem_cons, List.not_mem_nil, or_false] at hu; subst hu; rfl)⟩ | exact .inl ⟨rfl, .inr (fun e he => by (simp only [List.mem_cons, List.not_mem_nil, or_false] at he; subst he; rfl))⟩ | fail)); first | done | fail) rfl rfl aS rfl aH rfl ?_; simp only [cl]) | (refine zb9 [(io, 0)] (ka) rfl rfl (by (repeat' (first | exact trivial | refine ⟨⟨_, rfl, ?_⟩, ?_⟩ | exact .inl ⟨rfl, .inl rfl⟩ | exact .inr ⟨rfl, rfl, rfl, rfl, rfl, fun e he u hu => by (simp only [List.mem_cons, List.not_mem_nil, or_false] at he; subst he; simp only [List.mem_cons, List.not_mem_nil, or_false] at hu; subst hu; rfl)⟩ | exact .inl ⟨rfl, .inr (fun e he => by (simp only [List.mem_cons, List.not_mem_nil, or_false] at he; subst he; rfl))⟩ | fail)); first | done | fail) rfl rfl aS rfl aH rfl ?_; simp only [cl]) | (refine za9 aA rfl ?_) | (refine zbc aA rfl rfl ?_) | (refine zba aA rfl ?_) | (refine zbb aA (evO_ok rfl) ?_) | (refine zb4 _ _ aA rfl (lookM (by rfl)) rfl (lookM (by rfl)) rfl aN ⟨rfl, rfl, by decide, by decide⟩ (by first | rfl | omega | (simp; done) | (simp; omega) | fail) ⟨by first | (simp only [List.length_cons, List.length_nil]; omega) | omega | fail, by decide⟩ rfl (by first | (first | (simp only [lx, Nat.reduceAdd]; first | done | rfl) | fail) | rfl) aP ?_) | (refine zb3 _ _ aA rfl rfl (lookM (by rfl)) ⟨rfl, by decide⟩ aN (by first | exact Nat.succ_pos _ | omega | (simp; done)) ⟨by first | (simp only [List.length_cons, List.length_nil]; omega) | omega | fail, by decide⟩ rfl rfl aP ?_) | (refine zb5 _ aA rfl rfl (lookM (by rfl)) ⟨rfl, by decide⟩ aN ⟨by first | (simp only [List.length_cons, List.length_nil]; omega) | omega | fail, by decide⟩ rfl aP ?_) | (refine zb0 _ aA rfl rfl rfl ⟨rfl, rfl, rfl, by decide, by decide⟩ (by first | rfl | (simp; done) | fail) ⟨by omega, by decide⟩ rfl aL (by first | (rw [Nat.zero_add]) | rfl) ?_)) | (first | refine x_buildSliceL (d := 49) aA rfl rfl rfl ?_ | refine za7 aA rfl rfl rfl ?_) | (refine zcg _ _ aA rfl rfl (by simp [buildPV, PV.cells]; first | done | rfl) ?_) | (refine zbo _ _ _ rfl rfl aE (by first | assumption | (exact TAgg.size aA)) rfl rfl rfl aZ rfl aL (by first | (first | (simp only [lx, Nat.reduceAdd]; first | done | rfl) | fail) | rfl) ?_) | (refine zas (hK _ _ (.inl rfl) ?_); clear hK K) | (refine zas (hK _ _ (.inr (by kernel_rfl)) ?_); clear hK K))
      | (refine za3 ?_; first | (refine zbp ?_) | (refine zaj (fun K hK => ?_)) | (refine zan ?_) | (refine za4 ?_) | (refine zbq ?_) | (refine za1 ?_) | (refine zbg ?_; first | (refine zam rfl aD ?_) | (refine zal rfl aD ?_) | (refine zaz rfl (fun h => ?_) (fun h => ?_) <;> (have h' := h; (try simp only [sx] at h')))))
      | (refine za2 ?_) | (refine zai ?_) | (refine zae ?_) | (refine zaq ?_) | (refine zar ?_) | (refine zao ?_) | (refine zap rfl ?_) | (refine zab ?_) | (refine zag ?_) | (refine zbr ?_))
    all_goals try (exfalso; omega)
    all_goals (refine zcb (m + 1, (f (m + 1)).1, es ++ [[.list 2 (ps.map Phase.pv), .int .i64 x]], v - 1, en + 1) rfl aW ⟨rfl, by simp [hes, e1], by first | omega | (simp only; omega), by first | omega | (simp only; omega), by simp [hen]⟩ (by first | omega | (simp only; omega)))
  · have hmN2 : m = N := by omega
    subst hmN2
    rw [← hd] at k2
    rw [← hes] at hw2 hse
    rcases key with ⟨e0, rfl, rfl⟩ | ⟨e0, e1, rfl, rfl⟩ | ⟨e0, e1, e2, rfl, rfl⟩ | ⟨e0, e1, e2, rfl, rfl⟩
    · repeat' (first
      | (refine za5 ?_; first | (refine za6 ?_; refine zat _ rfl ?_) | (refine zad ?_; refine zaa _ rfl ?_) | (refine zbv ?_; first | (refine zby rfl rfl aO ?_) | (refine zck rfl rfl aO ?_) | (refine zbu _ rfl rfl rfl ?_) | (refine zbt aA rfl rfl ?_) | (refine zaw _ rfl rfl rfl ?_)) | (refine zbf ?_; first | (refine zac aA rfl ?_) | (refine zah _ aA rfl rfl aE rfl ?_) | (refine zaf _ aA rfl aZ aL ?_) | (refine zak _ aA rfl rfl aE aZ aL ?_)) | (refine zbm ?_; first | (refine zay _ aA rfl aL ?_) | (refine zax _ aA rfl rfl (by simp only [lx, Nat.reduceAdd]; first | done | rfl) ?_)) | (refine zbe ?_; first | (refine zau _ aA rfl rfl aO aA ?_) | (refine zav _ aA rfl rfl rfl rfl aO aO (by first | (rw [Nat.zero_add, Int.toNat_natCast]) | (rw [Nat.zero_add]) | rfl) ?_)) | (refine zbd ?_; first | (refine zb9 [(io, 0)] (k2) rfl rfl (by (repeat' (first | exact trivial | refine ⟨⟨_, rfl, ?_⟩, ?_⟩ | exact .inl ⟨rfl, .inl rfl⟩ | exact .inr ⟨rfl, rfl, rfl, rfl, rfl, fun e he u hu => by (simp only [List.mem_cons, List.not_mem_nil, or_false] at he; subst he; simp only [List.mem_cons, List.not_mem_nil, or_false] at hu; subst hu; rfl)⟩ | exact .inl ⟨rfl, .inr (fun e he => by (simp only [List.mem_cons, List.not_mem_nil, or_false] at he; subst he; rfl))⟩ | fail)); first | done | fail) rfl rfl aS rfl aH rfl ?_; simp only [cl]) | (refine za9 aA rfl ?_) | (refine zbc aA rfl rfl ?_) | (refine zba aA rfl ?_) | (refine zbb aA (evO_ok rfl) ?_) | (refine zb4 _ _ aA rfl (lookM (by rfl)) rfl (lookM (by rfl)) rfl aN ⟨rfl, rfl, by decide, by decide⟩ (by first | rfl | omega | (simp; done) | (simp; omega) | fail) ⟨by first | (simp only [List.length_cons, List.length_nil]; omega) | omega | fail, by decide⟩ rfl (by first | (first | (simp only [lx, Nat.reduceAdd]; first | done | rfl) | fail) | rfl) aP ?_) | (refine zb3 _ _ aA rfl rfl (lookM (by rfl)) ⟨rfl, by decide⟩ aN (by first | exact Nat.succ_pos _ | omega | (simp; done)) ⟨by first | (simp only [List.length_cons, List.length_nil]; omega) | omega | fail, by decide⟩ rfl rfl aP ?_) | (refine zb5 _ aA rfl rfl (lookM (by rfl)) ⟨rfl, by decide⟩ aN ⟨by first | (simp only [List.length_cons, List.length_nil]; omega) | omega | fail, by decide⟩ rfl aP ?_) | (refine zb0 _ aA rfl rfl rfl ⟨rfl, rfl, rfl, by decide, by decide⟩ (by first | rfl | (simp; done) | fail) ⟨by omega, by decide⟩ rfl aL (by first | (rw [Nat.zero_add]) | rfl) ?_)) | (first | refine x_buildSliceL (d := 49) aA rfl rfl rfl ?_ | refine za7 aA rfl rfl rfl ?_) | (refine zcg _ _ aA rfl rfl (by simp [buildPV, PV.cells]; first | done | rfl) ?_) | (refine zbo _ _ _ rfl rfl aE (by first | assumption | (exact TAgg.size aA)) rfl rfl rfl aZ rfl aL (by first | (first | (simp only [lx, Nat.reduceAdd]; first | done | rfl) | fail) | rfl) ?_) | (refine zas (hK _ _ (.inl rfl) ?_); clear hK K) | (refine zas (hK _ _ (.inr (by kernel_rfl)) ?_); clear hK K))
      | (refine za3 ?_; first | (refine zbp ?_) | (refine zaj (fun K hK => ?_)) | (refine zan ?_) | (refine za4 ?_) | (refine zbq ?_) | (refine za1 ?_) | (refine zbg ?_; first | (refine zam rfl aD ?_) | (refine zal rfl aD ?_) | (refine zaz rfl (fun h => ?_) (fun h => ?_) <;> (have h' := h; (try simp only [sx] at h')))))
      | (refine za2 ?_) | (refine zai ?_) | (refine zae ?_) | (refine zaq ?_) | (refine zar ?_) | (refine zao ?_) | (refine zap rfl ?_) | (refine zab ?_) | (refine zag ?_) | (refine zbr ?_))
      all_goals first
        | (exfalso; omega)
        | exact ret_lL rfl rfl rfl (by decide) ⟨⟨rfl, rfl, fun h => by cases h⟩, trivial⟩ rfl rfl rfl rfl
    · repeat' (first
      | (refine za5 ?_; first | (refine za6 ?_; refine zat _ rfl ?_) | (refine zad ?_; refine zaa _ rfl ?_) | (refine zbv ?_; first | (refine zby rfl rfl aO ?_) | (refine zck rfl rfl aO ?_) | (refine zbu _ rfl rfl rfl ?_) | (refine zbt aA rfl rfl ?_) | (refine zaw _ rfl rfl rfl ?_)) | (refine zbf ?_; first | (refine zac aA rfl ?_) | (refine zah _ aA rfl rfl aE rfl ?_) | (refine zaf _ aA rfl aZ aL ?_) | (refine zak _ aA rfl rfl aE aZ aL ?_)) | (refine zbm ?_; first | (refine zay _ aA rfl aL ?_) | (refine zax _ aA rfl rfl (by simp only [lx, Nat.reduceAdd]; first | done | rfl) ?_)) | (refine zbe ?_; first | (refine zau _ aA rfl rfl aO aA ?_) | (refine zav _ aA rfl rfl rfl rfl aO aO (by first | (rw [Nat.zero_add, Int.toNat_natCast]) | (rw [Nat.zero_add]) | rfl) ?_)) | (refine zbd ?_; first | (refine zb9 [(io, 0)] (k2) rfl rfl (by (repeat' (first | exact trivial | refine ⟨⟨_, rfl, ?_⟩, ?_⟩ | exact .inl ⟨rfl, .inl rfl⟩ | exact .inr ⟨rfl, rfl, rfl, rfl, rfl, fun e he u hu => by (simp only [List.mem_cons, List.not_mem_nil, or_false] at he; subst he; simp only [List.mem_cons, List.not_mem_nil, or_false] at hu; subst hu; rfl)⟩ | exact .inl ⟨rfl, .inr (fun e he => by (simp only [List.mem_cons, List.not_mem_nil, or_false] at he; subst he; rfl))⟩ | fail)); first | done | fail) rfl rfl aS rfl aH rfl ?_; simp only [cl]) | (refine zb9 [(io, 0)] (k3) rfl rfl (by (repeat' (first | exact trivial | refine ⟨⟨_, rfl, ?_⟩, ?_⟩ | exact .inl ⟨rfl, .inl rfl⟩ | exact .inr ⟨rfl, rfl, rfl, rfl, rfl, fun e he u hu => by (simp only [List.mem_cons, List.not_mem_nil, or_false] at he; subst he; simp only [List.mem_cons, List.not_mem_nil, or_false] at hu; subst hu; rfl)⟩ | exact .inl ⟨rfl, .inr (fun e he => by (simp only [List.mem_cons, List.not_mem_nil, or_false] at he; subst he; rfl))⟩ | fail)); first | done | fail) rfl rfl aS rfl aH rfl ?_; simp only [cl]) | (refine za9 aA rfl ?_) | (refine zbc aA rfl rfl ?_) | (refine zba aA rfl ?_) | (refine zbb aA (evO_ok rfl) ?_) | (refine zb4 _ _ aA rfl (lookM (by rfl)) rfl (lookM (by rfl)) rfl aN ⟨rfl, rfl, by decide, by decide⟩ (by first | rfl | omega | (simp; done) | (simp; omega) | fail) ⟨by first | (simp only [List.length_cons, List.length_nil]; omega) | omega | fail, by decide⟩ rfl (by first | (first | (simp only [lx, Nat.reduceAdd]; first | done | rfl) | fail) | rfl) aP ?_) | (refine zb3 _ _ aA rfl rfl (lookM (by rfl)) ⟨rfl, by decide⟩ aN (by first | exact Nat.succ_pos _ | omega | (simp; done)) ⟨by first | (simp only [List.length_cons, List.length_nil]; omega) | omega | fail, by decide⟩ rfl rfl aP ?_) | (refine zb5 _ aA rfl rfl (lookM (by rfl)) ⟨rfl, by decide⟩ aN ⟨by first | (simp only [List.length_cons, List.length_nil]; omega) | omega | fail, by decide⟩ rfl aP ?_) | (refine zb0 _ aA rfl rfl rfl ⟨rfl, rfl, rfl, by decide, by decide⟩ (by first | rfl | (simp; done) | fail) ⟨by omega, by decide⟩ rfl aL (by first | (rw [Nat.zero_add]) | rfl) ?_)) | (first | refine x_buildSliceL (d := 49) aA rfl rfl rfl ?_ | refine za7 aA rfl rfl rfl ?_) | (refine zcg _ _ aA rfl rfl (by simp [buildPV, PV.cells]; first | done | rfl) ?_) | (refine zbo _ _ _ rfl rfl aE (by first | assumption | (exact TAgg.size aA)) rfl rfl rfl aZ rfl aL (by first | (first | (simp only [lx, Nat.reduceAdd]; first | done | rfl) | fail) | rfl) ?_) | (refine zas (hK _ _ (.inl rfl) ?_); clear hK K) | (refine zas (hK _ _ (.inr (by kernel_rfl)) ?_); clear hK K))
      | (refine za3 ?_; first | (refine zbp ?_) | (refine zaj (fun K hK => ?_)) | (refine zan ?_) | (refine za4 ?_) | (refine zbq ?_) | (refine za1 ?_) | (refine zbg ?_; first | (refine zam rfl aD ?_) | (refine zal rfl aD ?_) | (refine zaz rfl (fun h => ?_) (fun h => ?_) <;> (have h' := h; (try simp only [sx] at h')))))
      | (refine za2 ?_) | (refine zai ?_) | (refine zae ?_) | (refine zaq ?_) | (refine zar ?_) | (refine zao ?_) | (refine zap rfl ?_) | (refine zab ?_) | (refine zag ?_) | (refine zbr ?_))
      all_goals first
        | (exfalso; omega)
        | exact ret_lL rfl rfl rfl (by decide) ⟨⟨rfl, rfl, fun h => by cases h⟩, trivial⟩ rfl rfl (by simp [hel, hen]; try omega) hse
    · repeat' (first
      | (refine za5 ?_; first | (refine za6 ?_; refine zat _ rfl ?_) | (refine zad ?_; refine zaa _ rfl ?_) | (refine zbv ?_; first | (refine zby rfl rfl aO ?_) | (refine zck rfl rfl aO ?_) | (refine zbu _ rfl rfl rfl ?_) | (refine zbt aA rfl rfl ?_) | (refine zaw _ rfl rfl rfl ?_)) | (refine zbf ?_; first | (refine zac aA rfl ?_) | (refine zah _ aA rfl rfl aE rfl ?_) | (refine zaf _ aA rfl aZ aL ?_) | (refine zak _ aA rfl rfl aE aZ aL ?_)) | (refine zbm ?_; first | (refine zay _ aA rfl aL ?_) | (refine zax _ aA rfl rfl (by simp only [lx, Nat.reduceAdd]; first | done | rfl) ?_)) | (refine zbe ?_; first | (refine zau _ aA rfl rfl aO aA ?_) | (refine zav _ aA rfl rfl rfl rfl aO aO (by first | (rw [Nat.zero_add, Int.toNat_natCast]) | (rw [Nat.zero_add]) | rfl) ?_)) | (refine zbd ?_; first | (refine zb9 [(io, 0)] (k2) rfl rfl (by (repeat' (first | exact trivial | refine ⟨⟨_, rfl, ?_⟩, ?_⟩ | exact .inl ⟨rfl, .inl rfl⟩ | exact .inr ⟨rfl, rfl, rfl, rfl, rfl, fun e he u hu => by (simp only [List.mem_cons, List.not_mem_nil, or_false] at he; subst he; simp only [List.mem_cons, List.not_mem_nil, or_false] at hu; subst hu; rfl)⟩ | exact .inl ⟨rfl, .inr (fun e he => by (simp only [List.mem_cons, List.not_mem_nil, or_false] at he; subst he; rfl))⟩ | fail)); first | done | fail) rfl rfl aS rfl aH rfl ?_; simp only [cl]) | (refine za9 aA rfl ?_) | (refine zbc aA rfl rfl ?_) | (refine zba aA rfl ?_) | (refine zbb aA (evO_ok rfl) ?_) | (refine zb4 _ _ aA rfl (lookM (by rfl)) rfl (lookM (by rfl)) rfl aN ⟨rfl, rfl, by decide, by decide⟩ (by first | rfl | omega | (simp; done) | (simp; omega) | fail) ⟨by first | (simp only [List.length_cons, List.length_nil]; omega) | omega | fail, by decide⟩ rfl (by first | (first | (simp only [lx, Nat.reduceAdd]; first | done | rfl) | fail) | rfl) aP ?_) | (refine zb3 _ _ aA rfl rfl (lookM (by rfl)) ⟨rfl, by decide⟩ aN (by first | exact Nat.succ_pos _ | omega | (simp; done)) ⟨by first | (simp only [List.length_cons, List.length_nil]; omega) | omega | fail, by decide⟩ rfl rfl aP ?_) | (refine zb5 _ aA rfl rfl (lookM (by rfl)) ⟨rfl, by decide⟩ aN ⟨by first | (simp only [List.length_cons, List.length_nil]; omega) | omega | fail, by decide⟩ rfl aP ?_) | (refine zb0 _ aA rfl rfl rfl ⟨rfl, rfl, rfl, by decide, by decide⟩ (by first | rfl | (simp; done) | fail) ⟨by omega, by decide⟩ rfl aL (by first | (rw [Nat.zero_add]) | rfl) ?_)) | (first | refine x_buildSliceL (d := 49) aA rfl rfl rfl ?_ | refine za7 aA rfl rfl rfl ?_) | (refine zcg _ _ aA rfl rfl (by simp [buildPV, PV.cells]; first | done | rfl) ?_) | (refine zbo _ _ _ rfl rfl aE (by first | assumption | (exact TAgg.size aA)) rfl rfl rfl aZ rfl aL (by first | (first | (simp only [lx, Nat.reduceAdd]; first | done | rfl) | fail) | rfl) ?_) | (refine zas (hK _ _ (.inl rfl) ?_); clear hK K) | (refine zas (hK _ _ (.inr (by kernel_rfl)) ?_); clear hK K))
      | (refine za3 ?_; first | (refine zbp ?_) | (refine zaj (fun K hK => ?_)) | (refine zan ?_) | (refine za4 ?_) | (refine zbq ?_) | (refine za1 ?_) | (refine zbg ?_; first | (refine zam rfl aD ?_) | (refine zal rfl aD ?_) | (refine zaz rfl (fun h => ?_) (fun h => ?_) <;> (have h' := h; (try simp only [sx] at h')))))
      | (refine za2 ?_) | (refine zai ?_) | (refine zae ?_) | (refine zaq ?_) | (refine zar ?_) | (refine zao ?_) | (refine zap rfl ?_) | (refine zab ?_) | (refine zag ?_) | (refine zbr ?_))
      all_goals try (exfalso; omega)
      refine zcd [0] [(io, 0), (1001, 0)] (fun q : Nat × Cu × List (List PV) × Nat => [(3, .osl (1001, 0) 0 q.2.2.2)]) (fun q : Nat × Cu × List (List PV) × Nat => [((io, 0), some (cuRow q.2.1)), ((1001, 0), some ⟨56, 2, q.2.2.1, false⟩)]) (fun q : Nat × Cu × List (List PV) × Nat => q.2.1 = (g q.1).1 ∧ q.2.2.1 = (g q.1).2.1.map Scen.pv ∧ q.1 ≤ K ∧ q.2.2.1.length = q.2.2.2) (fun q : Nat × Cu × List (List PV) × Nat => K - q.1) ((0, c2, es, en)) rfl rfl (fun _ => rfl) (fun _ => rfl) rfl aW ⟨by rw [g0], by rw [g0, hes], by simp, hen⟩ (fun q hq => ?_)
      obtain ⟨j, d2, fs2, fn2⟩ := q
      obtain ⟨hd2, hfs2, hjK, hfn⟩ := hq
      try simp only at hd2 hfs2 hjK hfn
      dsimp only
      obtain ⟨adj, hlj, _⟩ := (gs j).1 aO
      obtain ⟨kj, bj, ej⟩ := (gs j).2 aO
      have hel2 : fs2.length = m + j := by rw [hfs2, List.length_map, hlj]
      have hnf := hfn.symm
      rw [← hd2] at kj
      by_cases hjlt : j < K
      · have hgo := hKl j hjlt
        simp only [Classical.not_not] at hgo
        repeat' (first
      | (refine za5 ?_; first | (refine za6 ?_; refine zat _ rfl ?_) | (refine zad ?_; refine zaa _ rfl ?_) | (refine zbv ?_; first | (refine zby rfl rfl aO ?_) | (refine zck rfl rfl aO ?_) | (refine zbu _ rfl rfl rfl ?_) | (refine zbt aA rfl rfl ?_) | (refine zaw _ rfl rfl rfl ?_)) | (refine zbf ?_; first | (refine zac aA rfl ?_) | (refine zah _ aA rfl rfl aE rfl ?_) | (refine zaf _ aA rfl aZ aL ?_) | (refine zak _ aA rfl rfl aE aZ aL ?_)) | (refine zbm ?_; first | (refine zay _ aA rfl aL ?_) | (refine zax _ aA rfl rfl (by simp only [lx, Nat.reduceAdd]; first | done | rfl) ?_)) | (refine zbe ?_; first | (refine zau _ aA rfl rfl aO aA ?_) | (refine zav _ aA rfl rfl rfl rfl aO aO (by first | (rw [Nat.zero_add, Int.toNat_natCast]) | (rw [Nat.zero_add]) | rfl) ?_)) | (refine zbd ?_; first | (refine zb9 [(io, 0)] (kj) rfl rfl (by (repeat' (first | exact trivial | refine ⟨⟨_, rfl, ?_⟩, ?_⟩ | exact .inl ⟨rfl, .inl rfl⟩ | exact .inr ⟨rfl, rfl, rfl, rfl, rfl, fun e he u hu => by (simp only [List.mem_cons, List.not_mem_nil, or_false] at he; subst he; simp only [List.mem_cons, List.not_mem_nil, or_false] at hu; subst hu; rfl)⟩ | exact .inl ⟨rfl, .inr (fun e he => by (simp only [List.mem_cons, List.not_mem_nil, or_false] at he; subst he; rfl))⟩ | fail)); first | done | fail) rfl rfl aS rfl aH rfl ?_; simp only [cl]) | (refine za9 aA rfl ?_) | (refine zbc aA rfl rfl ?_) | (refine zba aA rfl ?_) | (refine zbb aA (evO_ok rfl) ?_) | (refine zb4 _ _ aA rfl (lookM (by rfl)) rfl (lookM (by rfl)) rfl aN ⟨rfl, rfl, by decide, by decide⟩ (by first | rfl | omega | (simp; done) | (simp; omega) | fail) ⟨by first | (simp only [List.length_cons, List.length_nil]; omega) | omega | fail, by decide⟩ rfl (by first | (first | (simp only [lx, Nat.reduceAdd]; first | done | rfl) | fail) | rfl) aP ?_) | (refine zb3 _ _ aA rfl rfl (lookM (by rfl)) ⟨rfl, by decide⟩ aN (by first | exact Nat.succ_pos _ | omega | (simp; done)) ⟨by first | (simp only [List.length_cons, List.length_nil]; omega) | omega | fail, by decide⟩ rfl rfl aP ?_) | (refine zb5 _ aA rfl rfl (lookM (by rfl)) ⟨rfl, by decide⟩ aN ⟨by first | (simp only [List.length_cons, List.length_nil]; omega) | omega | fail, by decide⟩ rfl aP ?_) | (refine zb0 _ aA rfl rfl rfl ⟨rfl, rfl, rfl, by decide, by decide⟩ (by first | rfl | (simp; done) | fail) ⟨by omega, by decide⟩ rfl aL (by first | (rw [Nat.zero_add]) | rfl) ?_)) | (first | refine x_buildSliceL (d := 49) aA rfl rfl rfl ?_ | refine za7 aA rfl rfl rfl ?_) | (refine zcg _ _ aA rfl rfl (by simp [buildPV, PV.cells]; first | done | rfl) ?_) | (refine zbo _ _ _ rfl rfl aE (by first | assumption | (exact TAgg.size aA)) rfl rfl rfl aZ rfl aL (by first | (first | (simp only [lx, Nat.reduceAdd]; first | done | rfl) | fail) | rfl) ?_) | (refine zas (hK _ _ (.inl rfl) ?_); clear hK K) | (refine zas (hK _ _ (.inr (by kernel_rfl)) ?_); clear hK K))
      | (refine za3 ?_; first | (refine zbp ?_) | (refine zaj (fun K hK => ?_)) | (refine zan ?_) | (refine za4 ?_) | (refine zbq ?_) | (refine za1 ?_) | (refine zbg ?_; first | (refine zam rfl aD ?_) | (refine zal rfl aD ?_) | (refine zaz rfl (fun h => ?_) (fun h => ?_) <;> (have h' := h; (try simp only [sx] at h')))))
      | (refine za2 ?_) | (refine zai ?_) | (refine zae ?_) | (refine zaq ?_) | (refine zar ?_) | (refine zao ?_) | (refine zap rfl ?_) | (refine zab ?_) | (refine zag ?_) | (refine zbr ?_))
        all_goals try (exfalso; omega)
        all_goals (refine zcb (j + 1, (g (j + 1)).1, fs2 ++ [[.list 2 [[.int .i64 0, .int .i64 5]], .int .i64 1]], fn2 + 1) rfl aW ⟨rfl, by simp [hfs2, ej, Phase.pv], by first | omega | (simp only; omega), by simp [hfn]⟩ (by first | omega | (simp only; omega)))
      · have hjK2 : j = K := by omega
        subst hjK2
        try simp only at hK
        repeat' (first
      | (refine za5 ?_; first | (refine za6 ?_; refine zat _ rfl ?_) | (refine zad ?_; refine zaa _ rfl ?_) | (refine zbv ?_; first | (refine zby rfl rfl aO ?_) | (refine zck rfl rfl aO ?_) | (refine zbu _ rfl rfl rfl ?_) | (refine zbt aA rfl rfl ?_) | (refine zaw _ rfl rfl rfl ?_)) | (refine zbf ?_; first | (refine zac aA rfl ?_) | (refine zah _ aA rfl rfl aE rfl ?_) | (refine zaf _ aA rfl aZ aL ?_) | (refine zak _ aA rfl rfl aE aZ aL ?_)) | (refine zbm ?_; first | (refine zay _ aA rfl aL ?_) | (refine zax _ aA rfl rfl (by simp only [lx, Nat.reduceAdd]; first | done | rfl) ?_)) | (refine zbe ?_; first | (refine zau _ aA rfl rfl aO aA ?_) | (refine zav _ aA rfl rfl rfl rfl aO aO (by first | (rw [Nat.zero_add, Int.toNat_natCast]) | (rw [Nat.zero_add]) | rfl) ?_)) | (refine zbd ?_; first | (refine zb9 [(io, 0)] (kj) rfl rfl (by (repeat' (first | exact trivial | refine ⟨⟨_, rfl, ?_⟩, ?_⟩ | exact .inl ⟨rfl, .inl rfl⟩ | exact .inr ⟨rfl, rfl, rfl, rfl, rfl, fun e he u hu => by (simp only [List.mem_cons, List.not_mem_nil, or_false] at he; subst he; simp only [List.mem_cons, List.not_mem_nil, or_false] at hu; subst hu; rfl)⟩ | exact .inl ⟨rfl, .inr (fun e he => by (simp only [List.mem_cons, List.not_mem_nil, or_false] at he; subst he; rfl))⟩ | fail)); first | done | fail) rfl rfl aS rfl aH rfl ?_; simp only [cl]) | (refine za9 aA rfl ?_) | (refine zbc aA rfl rfl ?_) | (refine zba aA rfl ?_) | (refine zbb aA (evO_ok rfl) ?_) | (refine zb4 _ _ aA rfl (lookM (by rfl)) rfl (lookM (by rfl)) rfl aN ⟨rfl, rfl, by decide, by decide⟩ (by first | rfl | omega | (simp; done) | (simp; omega) | fail) ⟨by first | (simp only [List.length_cons, List.length_nil]; omega) | omega | fail, by decide⟩ rfl (by first | (first | (simp only [lx, Nat.reduceAdd]; first | done | rfl) | fail) | rfl) aP ?_) | (refine zb3 _ _ aA rfl rfl (lookM (by rfl)) ⟨rfl, by decide⟩ aN (by first | exact Nat.succ_pos _ | omega | (simp; done)) ⟨by first | (simp only [List.length_cons, List.length_nil]; omega) | omega | fail, by decide⟩ rfl rfl aP ?_) | (refine zb5 _ aA rfl rfl (lookM (by rfl)) ⟨rfl, by decide⟩ aN ⟨by first | (simp only [List.length_cons, List.length_nil]; omega) | omega | fail, by decide⟩ rfl aP ?_) | (refine zb0 _ aA rfl rfl rfl ⟨rfl, rfl, rfl, by decide, by decide⟩ (by first | rfl | (simp; done) | fail) ⟨by omega, by decide⟩ rfl aL (by first | (rw [Nat.zero_add]) | rfl) ?_)) | (first | refine x_buildSliceL (d := 49) aA rfl rfl rfl ?_ | refine za7 aA rfl rfl rfl ?_) | (refine zcg _ _ aA rfl rfl (by simp [buildPV, PV.cells]; first | done | rfl) ?_) | (refine zbo _ _ _ rfl rfl aE (by first | assumption | (exact TAgg.size aA)) rfl rfl rfl aZ rfl aL (by first | (first | (simp only [lx, Nat.reduceAdd]; first | done | rfl) | fail) | rfl) ?_) | (refine zas (hK _ _ (.inl rfl) ?_); clear hK K) | (refine zas (hK _ _ (.inr (by kernel_rfl)) ?_); clear hK K))
      | (refine za3 ?_; first | (refine zbp ?_) | (refine zaj (fun K hK => ?_)) | (refine zan ?_) | (refine za4 ?_) | (refine zbq ?_) | (refine za1 ?_) | (refine zbg ?_; first | (refine zam rfl aD ?_) | (refine zal rfl aD ?_) | (refine zaz rfl (fun h => ?_) (fun h => ?_) <;> (have h' := h; (try simp only [sx] at h')))))
      | (refine za2 ?_) | (refine zai ?_) | (refine zae ?_) | (refine zaq ?_) | (refine zar ?_) | (refine zao ?_) | (refine zap rfl ?_) | (refine zab ?_) | (refine zag ?_) | (refine zbr ?_))
        all_goals first
          | (exfalso; omega)
          | exact ret_lL rfl rfl rfl (by decide) ⟨⟨rfl, rfl, fun h => by cases h⟩, trivial⟩ rfl rfl hnf hfs2
    · repeat' (first
      | (refine za5 ?_; first | (refine za6 ?_; refine zat _ rfl ?_) | (refine zad ?_; refine zaa _ rfl ?_) | (refine zbv ?_; first | (refine zby rfl rfl aO ?_) | (refine zck rfl rfl aO ?_) | (refine zbu _ rfl rfl rfl ?_) | (refine zbt aA rfl rfl ?_) | (refine zaw _ rfl rfl rfl ?_)) | (refine zbf ?_; first | (refine zac aA rfl ?_) | (refine zah _ aA rfl rfl aE rfl ?_) | (refine zaf _ aA rfl aZ aL ?_) | (refine zak _ aA rfl rfl aE aZ aL ?_)) | (refine zbm ?_; first | (refine zay _ aA rfl aL ?_) | (refine zax _ aA rfl rfl (by simp only [lx, Nat.reduceAdd]; first | done | rfl) ?_)) | (refine zbe ?_; first | (refine zau _ aA rfl rfl aO aA ?_) | (refine zav _ aA rfl rfl rfl rfl aO aO (by first | (rw [Nat.zero_add, Int.toNat_natCast]) | (rw [Nat.zero_add]) | rfl) ?_)) | (refine zbd ?_; first | (refine zb9 [(io, 0)] (k2) rfl rfl (by (repeat' (first | exact trivial | refine ⟨⟨_, rfl, ?_⟩, ?_⟩ | exact .inl ⟨rfl, .inl rfl⟩ | exact .inr ⟨rfl, rfl, rfl, rfl, rfl, fun e he u hu => by (simp only [List.mem_cons, List.not_mem_nil, or_false] at he; subst he; simp only [List.mem_cons, List.not_mem_nil, or_false] at hu; subst hu; rfl)⟩ | exact .inl ⟨rfl, .inr (fun e he => by (simp only [List.mem_cons, List.not_mem_nil, or_false] at he; subst he; rfl))⟩ | fail)); first | done | fail) rfl rfl aS rfl aH rfl ?_; simp only [cl]) | (refine za9 aA rfl ?_) | (refine zbc aA rfl rfl ?_) | (refine zba aA rfl ?_) | (refine zbb aA (evO_ok rfl) ?_) | (refine zb4 _ _ aA rfl (lookM (by rfl)) rfl (lookM (by rfl)) rfl aN ⟨rfl, rfl, by decide, by decide⟩ (by first | rfl | omega | (simp; done) | (simp; omega) | fail) ⟨by first | (simp only [List.length_cons, List.length_nil]; omega) | omega | fail, by decide⟩ rfl (by first | (first | (simp only [lx, Nat.reduceAdd]; first | done | rfl) | fail) | rfl) aP ?_) | (refine zb3 _ _ aA rfl rfl (lookM (by rfl)) ⟨rfl, by decide⟩ aN (by first | exact Nat.succ_pos _ | omega | (simp; done)) ⟨by first | (simp only [List.length_cons, List.length_nil]; omega) | omega | fail, by decide⟩ rfl rfl aP ?_) | (refine zb5 _ aA rfl rfl (lookM (by rfl)) ⟨rfl, by decide⟩ aN ⟨by first | (simp only [List.length_cons, List.length_nil]; omega) | omega | fail, by decide⟩ rfl aP ?_) | (refine zb0 _ aA rfl rfl rfl ⟨rfl, rfl, rfl, by decide, by decide⟩ (by first | rfl | (simp; done) | fail) ⟨by omega, by decide⟩ rfl aL (by first | (rw [Nat.zero_add]) | rfl) ?_)) | (first | refine x_buildSliceL (d := 49) aA rfl rfl rfl ?_ | refine za7 aA rfl rfl rfl ?_) | (refine zcg _ _ aA rfl rfl (by simp [buildPV, PV.cells]; first | done | rfl) ?_) | (refine zbo _ _ _ rfl rfl aE (by first | assumption | (exact TAgg.size aA)) rfl rfl rfl aZ rfl aL (by first | (first | (simp only [lx, Nat.reduceAdd]; first | done | rfl) | fail) | rfl) ?_) | (refine zas (hK _ _ (.inl rfl) ?_); clear hK K) | (refine zas (hK _ _ (.inr (by kernel_rfl)) ?_); clear hK K))
      | (refine za3 ?_; first | (refine zbp ?_) | (refine zaj (fun K hK => ?_)) | (refine zan ?_) | (refine za4 ?_) | (refine zbq ?_) | (refine za1 ?_) | (refine zbg ?_; first | (refine zam rfl aD ?_) | (refine zal rfl aD ?_) | (refine zaz rfl (fun h => ?_) (fun h => ?_) <;> (have h' := h; (try simp only [sx] at h')))))
      | (refine za2 ?_) | (refine zai ?_) | (refine zae ?_) | (refine zaq ?_) | (refine zar ?_) | (refine zao ?_) | (refine zap rfl ?_) | (refine zab ?_) | (refine zag ?_) | (refine zbr ?_))
      all_goals first
        | (exfalso; omega)
        | exact ret_lL rfl rfl rfl (by decide) ⟨⟨rfl, rfl, fun h => by cases h⟩, trivial⟩ rfl rfl hne hes
theorem k_ensembleZ (c : Cu) (hc : c.Ok) (hp : c.pos + 600 ≤ 1152921504606846976) : ∃ (L : List Scen) (c' : Cu), Dr 138 [] c (.list 2 (L.map Scen.pv)) c' ∧ Aft c c' 500 ∧ L.length ≤ 5 ∧ PhB L := by
  obtain ⟨L, c', k, h⟩ := k_ensembleD c hc hp
  exact ⟨L, c', ConL.frz k rfl (by intro row h; simp at h; subst h; rfl), h⟩
structure EnsB (e : Ens) : Prop where
  t : TrSz e.t
  len : e.L.length ≤ 5
  ph : PhB e.L
  src : e.src.length ≤ 5
  st : -1 ≤ e.st ∧ e.st ≤ 1001
@[reducible] def enP0 (e : Ens) : List PV := [.agg e.t.pv, .list 2 (e.L.map Scen.pv), .list 1 (ints e.src), .int .i64 e.st]
@[reducible] def enP1 (e : Ens) (x : Int) : List PV := [.agg e.t.pv, .list 2 (e.L.map Scen.pv), .list 1 (ints e.src), .int .i64 e.st, .int .i64 x]
@[reducible] def enP2 (e : Ens) (x y : Int) : List PV := [.agg e.t.pv, .list 2 (e.L.map Scen.pv), .list 1 (ints e.src), .int .i64 e.st, .int .i64 x, .int .i64 y]
theorem k_blaze (c : Cu) (hc : c.Ok) (hp : c.pos + 2000 ≤ 1152921504606846976) :
    ContractP Try.prog 93 true [.own (io, 0) 0 0] [cuRow c] (fun r' fin' => ∃ (e : Ens) (c' : Cu), (r' = .tuple (enP0 e) ∧ fin' = [[c'.pv]]) ∧ Aft c c' 1400 ∧ EnsB e) := by
  refine za8 hmix Try.func93 rfl (by kernel_rfl) (by kernel_rfl) (Nat.le_of_ble_eq_true rfl) (fun row h => by (simp only [List.mem_cons, List.not_mem_nil, or_false] at h; first | (subst h; (first | exact .inl rfl | exact .inr (fun e he u hu => by (simp only [List.mem_cons, List.not_mem_nil, or_false] at he; subst he; simp only [List.mem_cons, List.not_mem_nil, or_false] at hu; subst hu; rfl)))) | (rcases h with rfl | rfl <;> (first | exact .inl rfl | exact .inr (fun e he u hu => by (simp only [List.mem_cons, List.not_mem_nil, or_false] at he; subst he; simp only [List.mem_cons, List.not_mem_nil, or_false] at hu; subst hu; rfl)))) | (rcases h with rfl | rfl | rfl <;> (first | exact .inl rfl | exact .inr (fun e he u hu => by (simp only [List.mem_cons, List.not_mem_nil, or_false] at he; subst he; simp only [List.mem_cons, List.not_mem_nil, or_false] at hu; subst hu; rfl)))) | (rcases h with rfl | rfl | rfl | rfl <;> (first | exact .inl rfl | exact .inr (fun e he u hu => by (simp only [List.mem_cons, List.not_mem_nil, or_false] at he; subst he; simp only [List.mem_cons, List.not_mem_nil, or_false] at hu; subst hu; rfl)))))) ?_
  have hty_a26 := ty_a26
  have hty_z26 := ty_z26
  have hty_t26 := ty_t26
  have hty_u24 := ty_u24
  have hty_s24 := ty_s24
  repeat' (first
      | (refine za5 ?_; first | (refine za6 ?_; refine zat _ rfl ?_) | (refine zad ?_; refine zaa _ rfl ?_) | (refine zbv ?_; first | (refine zby rfl rfl aO ?_) | (refine zbu _ rfl rfl rfl ?_) | (refine zbt aA rfl rfl ?_) | (refine zaw _ rfl rfl rfl ?_)) | (refine zbf ?_; first | (refine zac aA rfl ?_) | (refine zah _ aA rfl rfl aE rfl ?_) | (refine zaf _ aA rfl aZ aL ?_) | (refine zak _ aA rfl rfl aE aZ aL ?_)) | (refine zbw ?_; first | (refine zbl rfl aD rfl ?_) | (refine zbi rfl aD ?_) | (refine zbj rfl aD ?_) | (refine zbk rfl aD rfl ?_)) | (refine zbs ?_; first | (refine zbx rfl rfl aD ?_) | (refine zb8 rfl rfl aD ?_) | (refine zb7 rfl rfl ?_) | (refine zbh rfl rfl (fun h => ?_) (fun h => ?_) <;> (have h' := h; (try simp only [sx] at h')))) | (refine zbd ?_; first | (refine x_callLP [(io, 0)] (k_anyTerrainZ c hc aO) rfl rfl (by (repeat' (first | exact trivial | refine ⟨⟨_, rfl, ?_⟩, ?_⟩ | exact .inl ⟨rfl, .inl rfl⟩ | exact .inr ⟨rfl, rfl, rfl, rfl, rfl, fun e he u hu => by (simp only [List.mem_cons, List.not_mem_nil, or_false] at he; subst he; simp only [List.mem_cons, List.not_mem_nil, or_false] at hu; subst hu; rfl)⟩ | exact .inl ⟨rfl, .inr (fun e he => by (simp only [List.mem_cons, List.not_mem_nil, or_false] at he; subst he; rfl))⟩ | fail)); first | done | fail) rfl rfl aS rfl (fun r_ fin_ hP_ => ?_); obtain ⟨t, c1, ⟨rfl, rfl⟩, a1, ht⟩ := hP_; refine ⟨_, _, _, aH, rfl, ?_⟩; simp only [cl]) | (refine za9 aA rfl ?_) | (refine zbc aA rfl rfl ?_) | (refine zba aA rfl ?_) | (refine zbb aA (evO_ok rfl) ?_)) | (refine zcc _ aA rfl ?_) | (refine zb2 aA rfl ?_) | (refine zbo _ _ _ rfl rfl aE (by first | assumption | (exact TAgg.size aA)) rfl rfl rfl aZ rfl aL (by first | (first | (simp only [lx, Nat.reduceAdd]; first | done | rfl) | fail) | rfl) ?_) | (refine zas (hK _ _ (.inl rfl) ?_); clear hK K) | (refine zas (hK _ _ (.inr (by kernel_rfl)) ?_); clear hK K))
      | (refine za3 ?_; first | (refine zbp ?_) | (refine zaj (fun K hK => ?_)) | (refine zan ?_) | (refine za4 ?_) | (refine zbq ?_) | (refine za1 ?_) | (refine zbg ?_; first | (refine zam rfl aD ?_) | (refine zal rfl aD ?_) | (refine zaz rfl (fun h => ?_) (fun h => ?_) <;> (have h' := h; (try simp only [sx] at h')))))
      | (refine za2 ?_) | (refine zai ?_) | (refine zae ?_) | (refine zaq ?_) | (refine zar ?_) | (refine zao ?_) | (refine zap rfl ?_) | (refine zab ?_) | (refine zag ?_) | (refine zbr ?_))
  have o1 := a1.ok hc aO
  have p1 := a1.pos
  obtain ⟨L, c2, k2, a2, hL, hph⟩ := k_ensembleZ c1 o1 aO
  have o2 := a2.ok o1 aO
  have p2 := a2.pos
  obtain ⟨xs, c3, k3, a3, hxs⟩ := k_cellsOf c2 t o2 aO ht
  have o3 := a3.ok o2 aO
  have p3 := a3.pos
  have aft3 := (a1.trans a2).trans a3
  repeat' (first
      | (refine za5 ?_; first | (refine za6 ?_; refine zat _ rfl ?_) | (refine zad ?_; refine zaa _ rfl ?_) | (refine zbv ?_; first | (refine zby rfl rfl aO ?_) | (refine zbu _ rfl rfl rfl ?_) | (refine zbt aA rfl rfl ?_) | (refine zaw _ rfl rfl rfl ?_)) | (refine zbf ?_; first | (refine zac aA rfl ?_) | (refine zah _ aA rfl rfl aE rfl ?_) | (refine zaf _ aA rfl aZ aL ?_) | (refine zak _ aA rfl rfl aE aZ aL ?_)) | (refine zbw ?_; first | (refine zbl rfl aD rfl ?_) | (refine zbi rfl aD ?_) | (refine zbj rfl aD ?_) | (refine zbk rfl aD rfl ?_)) | (refine zbs ?_; first | (refine zbx rfl rfl aD ?_) | (refine zb8 rfl rfl aD ?_) | (refine zb7 rfl rfl ?_) | (refine zbh rfl rfl (fun h => ?_) (fun h => ?_) <;> (have h' := h; (try simp only [sx] at h')))) | (refine zbd ?_; first | (refine zb9 [(io, 0)] (k2) rfl rfl (by (repeat' (first | exact trivial | refine ⟨⟨_, rfl, ?_⟩, ?_⟩ | exact .inl ⟨rfl, .inl rfl⟩ | exact .inr ⟨rfl, rfl, rfl, rfl, rfl, fun e he u hu => by (simp only [List.mem_cons, List.not_mem_nil, or_false] at he; subst he; simp only [List.mem_cons, List.not_mem_nil, or_false] at hu; subst hu; rfl)⟩ | exact .inl ⟨rfl, .inr (fun e he => by (simp only [List.mem_cons, List.not_mem_nil, or_false] at he; subst he; rfl))⟩ | fail)); first | done | fail) rfl rfl aS rfl aH rfl ?_; simp only [cl]) | (refine zb9 [(io, 0)] (k3) rfl rfl (by (repeat' (first | exact trivial | refine ⟨⟨_, rfl, ?_⟩, ?_⟩ | exact .inl ⟨rfl, .inl rfl⟩ | exact .inr ⟨rfl, rfl, rfl, rfl, rfl, fun e he u hu => by (simp only [List.mem_cons, List.not_mem_nil, or_false] at he; subst he; simp only [List.mem_cons, List.not_mem_nil, or_false] at hu; subst hu; rfl)⟩ | exact .inl ⟨rfl, .inr (fun e he => by (simp only [List.mem_cons, List.not_mem_nil, or_false] at he; subst he; rfl))⟩ | fail)); first | done | fail) rfl rfl aS rfl aH rfl ?_; simp only [cl]) | (refine za9 aA rfl ?_) | (refine zbc aA rfl rfl ?_) | (refine zba aA rfl ?_) | (refine zbb aA (evO_ok rfl) ?_)) | (refine zcc _ aA rfl ?_) | (refine zb2 aA rfl ?_) | (refine zbo _ _ _ rfl rfl aE (by first | assumption | (exact TAgg.size aA)) rfl rfl rfl aZ rfl aL (by first | (first | (simp only [lx, Nat.reduceAdd]; first | done | rfl) | fail) | rfl) ?_) | (refine zas (hK _ _ (.inl rfl) ?_); clear hK K) | (refine zas (hK _ _ (.inr (by kernel_rfl)) ?_); clear hK K))
      | (refine za3 ?_; first | (refine zbp ?_) | (refine zaj (fun K hK => ?_)) | (refine zan ?_) | (refine za4 ?_) | (refine zbq ?_) | (refine za1 ?_) | (refine zbg ?_; first | (refine zam rfl aD ?_) | (refine zal rfl aD ?_) | (refine zaz rfl (fun h => ?_) (fun h => ?_) <;> (have h' := h; (try simp only [sx] at h')))))
      | (refine za2 ?_) | (refine zai ?_) | (refine zae ?_) | (refine zaq ?_) | (refine zar ?_) | (refine zao ?_) | (refine zap rfl ?_) | (refine zab ?_) | (refine zag ?_) | (refine zbr ?_))
  refine zcd [0, 2, 6, 7] [(io, 0)] (fun q : Cu × List Int × Nat => [(8, .list 1 (ints q.2.1)), (9, .int .i64 q.2.2)]) (fun q : Cu × List Int × Nat => [((io, 0), some (cuRow q.1))]) (fun q : Cu × List Int × Nat => Aft c3 q.1 (100 * q.2.2) ∧ q.2.1.length ≤ 5 ∧ q.2.2 ≤ 3) (fun q : Cu × List Int × Nat => 3 - q.2.2) ((c3, xs, 0)) rfl rfl (fun _ => rfl) (fun _ => rfl) rfl aW ⟨(Aft.refl c3).le (by simp only; omega), hxs, by simp only; omega⟩ (fun q hq => ?_)
  obtain ⟨d, us, i⟩ := q
  obtain ⟨ad, hus, hi⟩ := hq
  simp only at ad hus hi
  dsimp only
  have od := ad.ok o3 aO
  have pd := ad.pos
  have hl1 : (ints us).length = us.length := by simp
  by_cases hgo : i < 3 ∧ us.length = 0
  · obtain ⟨ys, c4, k4, a4, hys⟩ := k_cellsOf d t od aO ht
    repeat' (first
      | (refine za5 ?_; first | (refine za6 ?_; refine zat _ rfl ?_) | (refine zad ?_; refine zaa _ rfl ?_) | (refine zbv ?_; first | (refine zby rfl rfl aO ?_) | (refine zbu _ rfl rfl rfl ?_) | (refine zbt aA rfl rfl ?_) | (refine zaw _ rfl rfl rfl ?_)) | (refine zbf ?_; first | (refine zac aA rfl ?_) | (refine zah _ aA rfl rfl aE rfl ?_) | (refine zaf _ aA rfl aZ aL ?_) | (refine zak _ aA rfl rfl aE aZ aL ?_)) | (refine zbw ?_; first | (refine zbl rfl aD rfl ?_) | (refine zbi rfl aD ?_) | (refine zbj rfl aD ?_) | (refine zbk rfl aD rfl ?_)) | (refine zbs ?_; first | (refine zbx rfl rfl aD ?_) | (refine zb8 rfl rfl aD ?_) | (refine zb7 rfl rfl ?_) | (refine zbh rfl rfl (fun h => ?_) (fun h => ?_) <;> (have h' := h; (try simp only [sx] at h')))) | (refine zbd ?_; first | (refine zb9 [(io, 0)] (k4) rfl rfl (by (repeat' (first | exact trivial | refine ⟨⟨_, rfl, ?_⟩, ?_⟩ | exact .inl ⟨rfl, .inl rfl⟩ | exact .inr ⟨rfl, rfl, rfl, rfl, rfl, fun e he u hu => by (simp only [List.mem_cons, List.not_mem_nil, or_false] at he; subst he; simp only [List.mem_cons, List.not_mem_nil, or_false] at hu; subst hu; rfl)⟩ | exact .inl ⟨rfl, .inr (fun e he => by (simp only [List.mem_cons, List.not_mem_nil, or_false] at he; subst he; rfl))⟩ | fail)); first | done | fail) rfl rfl aS rfl aH rfl ?_; simp only [cl]) | (refine za9 aA rfl ?_) | (refine zbc aA rfl rfl ?_) | (refine zba aA rfl ?_) | (refine zbb aA (evO_ok rfl) ?_)) | (refine zcc _ aA rfl ?_) | (refine zb2 aA rfl ?_) | (refine zbo _ _ _ rfl rfl aE (by first | assumption | (exact TAgg.size aA)) rfl rfl rfl aZ rfl aL (by first | (first | (simp only [lx, Nat.reduceAdd]; first | done | rfl) | fail) | rfl) ?_) | (refine zas (hK _ _ (.inl rfl) ?_); clear hK K) | (refine zas (hK _ _ (.inr (by kernel_rfl)) ?_); clear hK K))
      | (refine za3 ?_; first | (refine zbp ?_) | (refine zaj (fun K hK => ?_)) | (refine zan ?_) | (refine za4 ?_) | (refine zbq ?_) | (refine za1 ?_) | (refine zbg ?_; first | (refine zam rfl aD ?_) | (refine zal rfl aD ?_) | (refine zaz rfl (fun h => ?_) (fun h => ?_) <;> (have h' := h; (try simp only [sx] at h')))))
      | (refine za2 ?_) | (refine zai ?_) | (refine zae ?_) | (refine zaq ?_) | (refine zar ?_) | (refine zao ?_) | (refine zap rfl ?_) | (refine zab ?_) | (refine zag ?_) | (refine zbr ?_))
    all_goals try (exfalso; omega)
    all_goals (refine zcb (c4, ys, i + 1) rfl aW ⟨(ad.trans a4).le (by simp only; omega), hys, by simp only; omega⟩ (by simp only; omega))
  · obtain ⟨s, c4, k4, a4, h1, h2⟩ := k_startTick d od aO
    repeat' (first
      | (refine za5 ?_; first | (refine za6 ?_; refine zat _ rfl ?_) | (refine zad ?_; refine zaa _ rfl ?_) | (refine zbv ?_; first | (refine zby rfl rfl aO ?_) | (refine zbu _ rfl rfl rfl ?_) | (refine zbt aA rfl rfl ?_) | (refine zaw _ rfl rfl rfl ?_)) | (refine zbf ?_; first | (refine zac aA rfl ?_) | (refine zah _ aA rfl rfl aE rfl ?_) | (refine zaf _ aA rfl aZ aL ?_) | (refine zak _ aA rfl rfl aE aZ aL ?_)) | (refine zbw ?_; first | (refine zbl rfl aD rfl ?_) | (refine zbi rfl aD ?_) | (refine zbj rfl aD ?_) | (refine zbk rfl aD rfl ?_)) | (refine zbs ?_; first | (refine zbx rfl rfl aD ?_) | (refine zb8 rfl rfl aD ?_) | (refine zb7 rfl rfl ?_) | (refine zbh rfl rfl (fun h => ?_) (fun h => ?_) <;> (have h' := h; (try simp only [sx] at h')))) | (refine zbd ?_; first | (refine zb9 [(io, 0)] (k4) rfl rfl (by (repeat' (first | exact trivial | refine ⟨⟨_, rfl, ?_⟩, ?_⟩ | exact .inl ⟨rfl, .inl rfl⟩ | exact .inr ⟨rfl, rfl, rfl, rfl, rfl, fun e he u hu => by (simp only [List.mem_cons, List.not_mem_nil, or_false] at he; subst he; simp only [List.mem_cons, List.not_mem_nil, or_false] at hu; subst hu; rfl)⟩ | exact .inl ⟨rfl, .inr (fun e he => by (simp only [List.mem_cons, List.not_mem_nil, or_false] at he; subst he; rfl))⟩ | fail)); first | done | fail) rfl rfl aS rfl aH rfl ?_; simp only [cl]) | (refine za9 aA rfl ?_) | (refine zbc aA rfl rfl ?_) | (refine zba aA rfl ?_) | (refine zbb aA (evO_ok rfl) ?_)) | (refine zcc _ aA rfl ?_) | (refine zb2 aA rfl ?_) | (refine zbo _ _ _ rfl rfl aE (by first | assumption | (exact TAgg.size aA)) rfl rfl rfl aZ rfl aL (by first | (first | (simp only [lx, Nat.reduceAdd]; first | done | rfl) | fail) | rfl) ?_) | (refine zas (hK _ _ (.inl rfl) ?_); clear hK K) | (refine zas (hK _ _ (.inr (by kernel_rfl)) ?_); clear hK K))
      | (refine za3 ?_; first | (refine zbp ?_) | (refine zaj (fun K hK => ?_)) | (refine zan ?_) | (refine za4 ?_) | (refine zbq ?_) | (refine za1 ?_) | (refine zbg ?_; first | (refine zam rfl aD ?_) | (refine zal rfl aD ?_) | (refine zaz rfl (fun h => ?_) (fun h => ?_) <;> (have h' := h; (try simp only [sx] at h')))))
      | (refine za2 ?_) | (refine zai ?_) | (refine zae ?_) | (refine zaq ?_) | (refine zar ?_) | (refine zao ?_) | (refine zap rfl ?_) | (refine zab ?_) | (refine zag ?_) | (refine zbr ?_))
    all_goals first
      | (exfalso; omega)
      | (refine RetPost.mono (fun r fin h => ⟨⟨t, L, us, s⟩, c4, h, ((aft3.trans ad).trans a4).le aO, ⟨ht, hL, hph, hus, ⟨h1, h2⟩⟩⟩) ?_
         (first | refine ret_TL rfl rfl rfl (by first | exact trivial | (repeat' (first | exact trivial | refine ⟨by assumption, ?_⟩))) (by repeat' (first | exact trivial | refine ⟨by simp, ?_⟩)) (by first | exact trivial | exact ⟨⟨rfl, rfl, fun h => by cases h⟩, trivial⟩) ?_ | refine ret_AL rfl rfl rfl (by first | exact trivial | (repeat' (first | exact trivial | refine ⟨by assumption, ?_⟩))) (by repeat' (first | exact trivial | refine ⟨by simp, ?_⟩)) (by first | exact trivial | exact ⟨⟨rfl, rfl, fun h => by cases h⟩, trivial⟩) ?_); (repeat' (first | exact et_end | exact el_end | refine et_int rfl ?_ ?_ | refine et_bool ?_ ?_ | refine et_str ?_ ?_ | refine et_lst rfl rfl ?_ ?_ | refine et_listA rfl (by rfl) (by decide) rfl rfl ?_ ?_ ?_ | refine et_nil ?_ ?_ | refine et_agg0 ?_ ?_ | refine et_agg ?_ ?_ | refine el_int rfl ?_ ?_ | refine el_bool ?_ ?_ | refine el_str ?_ ?_ | refine el_lst rfl rfl ?_ ?_ | refine el_listA rfl (by rfl) (by decide) rfl rfl ?_ ?_ ?_ | refine el_nil ?_ ?_)) <;> first | rfl | (simp; done) | omega)
theorem k_DrawSure (code : List Int) (hz : CodeOk code) :
    ContractP Try.prog 100 true [.list 1 (bytesP code)] [] (fun r' fin' => ∃ (e : Ens) (x : Int), (r' = .tuple (enP1 e x) ∧ fin' = []) ∧ EnsB e ∧ (-1 ≤ x ∧ x ≤ 10000)) := by
  have o0 := cu0_ok hz
  refine za8 hmix Try.func100 rfl (by kernel_rfl) (by kernel_rfl) (Nat.le_of_ble_eq_true rfl) (fun row h => by cases h) ?_
  have hty_a26 := ty_a26
  have hty_z26 := ty_z26
  have hty_st69 := ty_st69
  have hty_t26 := ty_t26
  repeat' (first
      | (refine za5 ?_; first | (refine za6 ?_; refine zat _ rfl ?_) | (refine zad ?_; refine zaa _ rfl ?_) | (refine zbf ?_; first | (refine zac aA rfl ?_) | (refine zah _ aA rfl rfl aE rfl ?_) | (refine zaf _ aA rfl aZ aL ?_) | (refine zak _ aA rfl rfl aE aZ aL ?_)) | (refine zbd ?_; refine x_callLP [(14, 0)] (k_blaze (cu0 code) o0 (by simp)) rfl rfl (by (repeat' (first | exact trivial | refine ⟨⟨_, rfl, ?_⟩, ?_⟩ | exact .inl ⟨rfl, .inl rfl⟩ | exact .inr ⟨rfl, rfl, rfl, rfl, rfl, fun e he u hu => by (simp only [List.mem_cons, List.not_mem_nil, or_false] at he; subst he; simp only [List.mem_cons, List.not_mem_nil, or_false] at hu; subst hu; rfl)⟩ | exact .inl ⟨rfl, .inr (fun e he => by (simp only [List.mem_cons, List.not_mem_nil, or_false] at he; subst he; rfl))⟩ | fail)); first | done | fail) rfl rfl aS rfl (fun r_ fin_ hP_ => ?_); obtain ⟨e, c1, ⟨rfl, rfl⟩, a1, hb⟩ := hP_; refine ⟨_, _, _, aH, rfl, ?_⟩; simp only [cl]) | (refine zcg _ _ aA rfl rfl (by simp [buildPV, PV.cells]; first | done | rfl) ?_) | (refine zbz _ _ rfl rfl rfl rfl ?_) | (refine zcc _ aA rfl ?_) | (refine zb2 aA rfl ?_) | (refine zbo _ _ _ rfl rfl aE (by first | assumption | (exact TAgg.size aA)) rfl rfl rfl aZ rfl aL (by first | (first | (simp only [lx, Nat.reduceAdd]; first | done | rfl) | fail) | rfl) ?_) | (refine zca _ rfl rfl ?_) | (refine zas (hK _ _ (.inl rfl) ?_); clear hK K) | (refine zas (hK _ _ (.inr (by kernel_rfl)) ?_); clear hK K))
      | (refine za3 ?_; first | (refine zbp ?_) | (refine zaj (fun K hK => ?_)) | (refine zan ?_) | (refine za4 ?_) | (refine zbq ?_) | (refine za1 ?_))
      | (refine za2 ?_) | (refine zai ?_) | (refine zae ?_) | (refine zaq ?_) | (refine zar ?_) | (refine zao ?_) | (refine zap rfl ?_) | (refine zab ?_) | (refine zag ?_) | (refine zbr ?_))
  have o1 := a1.ok o0 (by simp)
  have p1 := a1.pos
  dsimp only [cu0] at p1
  obtain ⟨x, c2, k2, a2, h1, h2⟩ := k_tick c1 o1 aO
  repeat' (first
      | (refine za5 ?_; first | (refine za6 ?_; refine zat _ rfl ?_) | (refine zad ?_; refine zaa _ rfl ?_) | (refine zbf ?_; first | (refine zac aA rfl ?_) | (refine zah _ aA rfl rfl aE rfl ?_) | (refine zaf _ aA rfl aZ aL ?_) | (refine zak _ aA rfl rfl aE aZ aL ?_)) | (refine zbd ?_; refine zb9 [(14, 0)] (k2) rfl rfl (by (repeat' (first | exact trivial | refine ⟨⟨_, rfl, ?_⟩, ?_⟩ | exact .inl ⟨rfl, .inl rfl⟩ | exact .inr ⟨rfl, rfl, rfl, rfl, rfl, fun e he u hu => by (simp only [List.mem_cons, List.not_mem_nil, or_false] at he; subst he; simp only [List.mem_cons, List.not_mem_nil, or_false] at hu; subst hu; rfl)⟩ | exact .inl ⟨rfl, .inr (fun e he => by (simp only [List.mem_cons, List.not_mem_nil, or_false] at he; subst he; rfl))⟩ | fail)); first | done | fail) rfl rfl aS rfl aH rfl ?_; simp only [cl]) | (refine zcg _ _ aA rfl rfl (by simp [buildPV, PV.cells]; first | done | rfl) ?_) | (refine zbz _ _ rfl rfl rfl rfl ?_) | (refine zcc _ aA rfl ?_) | (refine zb2 aA rfl ?_) | (refine zbo _ _ _ rfl rfl aE (by first | assumption | (exact TAgg.size aA)) rfl rfl rfl aZ rfl aL (by first | (first | (simp only [lx, Nat.reduceAdd]; first | done | rfl) | fail) | rfl) ?_) | (refine zca _ rfl rfl ?_) | (refine zas (hK _ _ (.inl rfl) ?_); clear hK K) | (refine zas (hK _ _ (.inr (by kernel_rfl)) ?_); clear hK K))
      | (refine za3 ?_; first | (refine zbp ?_) | (refine zaj (fun K hK => ?_)) | (refine zan ?_) | (refine za4 ?_) | (refine zbq ?_) | (refine za1 ?_))
      | (refine za2 ?_) | (refine zai ?_) | (refine zae ?_) | (refine zaq ?_) | (refine zar ?_) | (refine zao ?_) | (refine zap rfl ?_) | (refine zab ?_) | (refine zag ?_) | (refine zbr ?_))
  refine RetPost.mono (fun r fin h => ⟨e, x, h, hb, ⟨h1, h2⟩⟩) ?_
  (first | refine ret_TL rfl rfl rfl (by first | exact trivial | (repeat' (first | exact trivial | refine ⟨by assumption, ?_⟩))) (by repeat' (first | exact trivial | refine ⟨by simp, ?_⟩)) (by first | exact trivial | exact ⟨⟨rfl, rfl, fun h => by cases h⟩, trivial⟩) ?_ | refine ret_AL rfl rfl rfl (by first | exact trivial | (repeat' (first | exact trivial | refine ⟨by assumption, ?_⟩))) (by repeat' (first | exact trivial | refine ⟨by simp, ?_⟩)) (by first | exact trivial | exact ⟨⟨rfl, rfl, fun h => by cases h⟩, trivial⟩) ?_); (repeat' (first | exact et_end | exact el_end | refine et_int rfl ?_ ?_ | refine et_bool ?_ ?_ | refine et_str ?_ ?_ | refine et_lst rfl rfl ?_ ?_ | refine et_listA rfl (by rfl) (by decide) rfl rfl ?_ ?_ ?_ | refine et_nil ?_ ?_ | refine et_agg0 ?_ ?_ | refine et_agg ?_ ?_ | refine el_int rfl ?_ ?_ | refine el_bool ?_ ?_ | refine el_str ?_ ?_ | refine el_lst rfl rfl ?_ ?_ | refine el_listA rfl (by rfl) (by decide) rfl rfl ?_ ?_ ?_ | refine el_nil ?_ ?_)) <;> first | rfl | (simp; done) | omega
theorem k_DrawMean (code : List Int) (hz : CodeOk code) :
    ContractP Try.prog 47 true [.list 1 (bytesP code)] [] (fun r' fin' => ∃ (e : Ens) (x : Int), (r' = .tuple (enP1 e x) ∧ fin' = []) ∧ EnsB e ∧ (-1 ≤ x ∧ x ≤ 10000)) := by
  refine za8 hmix Try.func47 rfl (by kernel_rfl) (by kernel_rfl) (Nat.le_of_ble_eq_true rfl) (fun row h => by cases h) ?_
  have hty_a26 := ty_a26
  have hty_z26 := ty_z26
  have hty_u22 := ty_u22
  have hty_s22 := ty_s22
  have hty_t26 := ty_t26
  repeat' (first
      | (refine za5 ?_; first | (refine za6 ?_; refine zat _ rfl ?_) | (refine zad ?_; refine zaa _ rfl ?_) | (refine zbd ?_; refine x_callLP [] (k_DrawSure code hz) rfl rfl (by (repeat' (first | exact trivial | refine ⟨⟨_, rfl, ?_⟩, ?_⟩ | exact .inl ⟨rfl, .inl rfl⟩ | exact .inr ⟨rfl, rfl, rfl, rfl, rfl, fun e he u hu => by (simp only [List.mem_cons, List.not_mem_nil, or_false] at he; subst he; simp only [List.mem_cons, List.not_mem_nil, or_false] at hu; subst hu; rfl)⟩ | exact .inl ⟨rfl, .inr (fun e he => by (simp only [List.mem_cons, List.not_mem_nil, or_false] at he; subst he; rfl))⟩ | fail)); first | done | fail) rfl rfl aS rfl (fun r_ fin_ hP_ => ?_); obtain ⟨e, x, ⟨rfl, rfl⟩, hb, hx⟩ := hP_; refine ⟨_, _, _, aH, rfl, ?_⟩; simp only [cl]) | (refine zcc _ aA rfl ?_) | (refine zb2 aA rfl ?_) | (refine zbo _ _ _ rfl rfl aE (by first | assumption | (exact TAgg.size aA)) rfl rfl rfl aZ rfl aL (by first | (first | (simp only [lx, Nat.reduceAdd]; first | done | rfl) | fail) | rfl) ?_) | (refine zca _ rfl rfl ?_) | (refine zas (hK _ _ (.inl rfl) ?_); clear hK K) | (refine zas (hK _ _ (.inr (by kernel_rfl)) ?_); clear hK K))
      | (refine za3 ?_; first | (refine zbp ?_) | (refine zaj (fun K hK => ?_)) | (refine zan ?_) | (refine za4 ?_) | (refine zbq ?_) | (refine za1 ?_))
      | (refine za2 ?_) | (refine zai ?_) | (refine zae ?_) | (refine zaq ?_) | (refine zar ?_) | (refine zao ?_) | (refine zap rfl ?_) | (refine zab ?_) | (refine zag ?_) | (refine zbr ?_))
  refine RetPost.mono (fun r fin h => ⟨e, x, h, hb, hx⟩) ?_
  (first | refine ret_TL rfl rfl rfl (by first | exact trivial | (repeat' (first | exact trivial | refine ⟨by assumption, ?_⟩))) (by repeat' (first | exact trivial | refine ⟨by simp, ?_⟩)) (by first | exact trivial | exact ⟨⟨rfl, rfl, fun h => by cases h⟩, trivial⟩) ?_ | refine ret_AL rfl rfl rfl (by first | exact trivial | (repeat' (first | exact trivial | refine ⟨by assumption, ?_⟩))) (by repeat' (first | exact trivial | refine ⟨by simp, ?_⟩)) (by first | exact trivial | exact ⟨⟨rfl, rfl, fun h => by cases h⟩, trivial⟩) ?_); (repeat' (first | exact et_end | exact el_end | refine et_int rfl ?_ ?_ | refine et_bool ?_ ?_ | refine et_str ?_ ?_ | refine et_lst rfl rfl ?_ ?_ | refine et_listA rfl (by rfl) (by decide) rfl rfl ?_ ?_ ?_ | refine et_nil ?_ ?_ | refine et_agg0 ?_ ?_ | refine et_agg ?_ ?_ | refine el_int rfl ?_ ?_ | refine el_bool ?_ ?_ | refine el_str ?_ ?_ | refine el_lst rfl rfl ?_ ?_ | refine el_listA rfl (by rfl) (by decide) rfl rfl ?_ ?_ ?_ | refine el_nil ?_ ?_)) <;> first | rfl | (simp; done) | omega
theorem k_DrawBurnChance (code : List Int) (hz : CodeOk code) :
    ContractP Try.prog 57 true [.list 1 (bytesP code)] [] (fun r' fin' => ∃ (e : Ens) (x y : Int), (r' = .tuple (enP2 e x y) ∧ fin' = []) ∧ EnsB e ∧ (-1 ≤ x ∧ x ≤ 10000) ∧ (-1 ≤ y ∧ y ≤ 26)) := by
  have o0 := cu0_ok hz
  refine za8 hmix Try.func57 rfl (by kernel_rfl) (by kernel_rfl) (Nat.le_of_ble_eq_true rfl) (fun row h => by cases h) ?_
  have hty_a26 := ty_a26
  have hty_z26 := ty_z26
  have hty_st69 := ty_st69
  have hty_t26 := ty_t26
  repeat' (first
      | (refine za5 ?_; first | (refine za6 ?_; refine zat _ rfl ?_) | (refine zad ?_; refine zaa _ rfl ?_) | (refine zbf ?_; first | (refine zac aA rfl ?_) | (refine zah _ aA rfl rfl aE rfl ?_) | (refine zaf _ aA rfl aZ aL ?_) | (refine zak _ aA rfl rfl aE aZ aL ?_)) | (refine zbd ?_; refine x_callLP [(15, 0)] (k_blaze (cu0 code) o0 (by simp)) rfl rfl (by (repeat' (first | exact trivial | refine ⟨⟨_, rfl, ?_⟩, ?_⟩ | exact .inl ⟨rfl, .inl rfl⟩ | exact .inr ⟨rfl, rfl, rfl, rfl, rfl, fun e he u hu => by (simp only [List.mem_cons, List.not_mem_nil, or_false] at he; subst he; simp only [List.mem_cons, List.not_mem_nil, or_false] at hu; subst hu; rfl)⟩ | exact .inl ⟨rfl, .inr (fun e he => by (simp only [List.mem_cons, List.not_mem_nil, or_false] at he; subst he; rfl))⟩ | fail)); first | done | fail) rfl rfl aS rfl (fun r_ fin_ hP_ => ?_); obtain ⟨e, c1, ⟨rfl, rfl⟩, a1, hb⟩ := hP_; refine ⟨_, _, _, aH, rfl, ?_⟩; simp only [cl]) | (refine zcg _ _ aA rfl rfl (by simp [buildPV, PV.cells]; first | done | rfl) ?_) | (refine zbz _ _ rfl rfl rfl rfl ?_) | (refine zcc _ aA rfl ?_) | (refine zb2 aA rfl ?_) | (refine zbo _ _ _ rfl rfl aE (by first | assumption | (exact TAgg.size aA)) rfl rfl rfl aZ rfl aL (by first | (first | (simp only [lx, Nat.reduceAdd]; first | done | rfl) | fail) | rfl) ?_) | (refine zca _ rfl rfl ?_) | (refine zas (hK _ _ (.inl rfl) ?_); clear hK K) | (refine zas (hK _ _ (.inr (by kernel_rfl)) ?_); clear hK K))
      | (refine za3 ?_; first | (refine zbp ?_) | (refine zaj (fun K hK => ?_)) | (refine zan ?_) | (refine za4 ?_) | (refine zbq ?_) | (refine za1 ?_))
      | (refine za2 ?_) | (refine zai ?_) | (refine zae ?_) | (refine zaq ?_) | (refine zar ?_) | (refine zao ?_) | (refine zap rfl ?_) | (refine zab ?_) | (refine zag ?_) | (refine zbr ?_))
  have o1 := a1.ok o0 (by simp)
  have p1 := a1.pos
  dsimp only [cu0] at p1
  obtain ⟨x, c2, k2, a2, h1, h2⟩ := k_tick c1 o1 aO
  have o2 := a2.ok o1 aO
  have p2 := a2.pos
  obtain ⟨y, c3, k3, a3, h3, h4⟩ := k_cellOf c2 e.t o2 aO hb.t
  repeat' (first
      | (refine za5 ?_; first | (refine za6 ?_; refine zat _ rfl ?_) | (refine zad ?_; refine zaa _ rfl ?_) | (refine zbf ?_; first | (refine zac aA rfl ?_) | (refine zah _ aA rfl rfl aE rfl ?_) | (refine zaf _ aA rfl aZ aL ?_) | (refine zak _ aA rfl rfl aE aZ aL ?_)) | (refine zbd ?_; first | (refine zb9 [(15, 0)] (k2) rfl rfl (by (repeat' (first | exact trivial | refine ⟨⟨_, rfl, ?_⟩, ?_⟩ | exact .inl ⟨rfl, .inl rfl⟩ | exact .inr ⟨rfl, rfl, rfl, rfl, rfl, fun e he u hu => by (simp only [List.mem_cons, List.not_mem_nil, or_false] at he; subst he; simp only [List.mem_cons, List.not_mem_nil, or_false] at hu; subst hu; rfl)⟩ | exact .inl ⟨rfl, .inr (fun e he => by (simp only [List.mem_cons, List.not_mem_nil, or_false] at he; subst he; rfl))⟩ | fail)); first | done | fail) rfl rfl aS rfl aH rfl ?_; simp only [cl]) | (refine zb9 [(15, 0)] (k3) rfl rfl (by (repeat' (first | exact trivial | refine ⟨⟨_, rfl, ?_⟩, ?_⟩ | exact .inl ⟨rfl, .inl rfl⟩ | exact .inr ⟨rfl, rfl, rfl, rfl, rfl, fun e he u hu => by (simp only [List.mem_cons, List.not_mem_nil, or_false] at he; subst he; simp only [List.mem_cons, List.not_mem_nil, or_false] at hu; subst hu; rfl)⟩ | exact .inl ⟨rfl, .inr (fun e he => by (simp only [List.mem_cons, List.not_mem_nil, or_false] at he; subst he; rfl))⟩ | fail)); first | done | fail) rfl rfl aS rfl aH rfl ?_; simp only [cl])) | (refine zcg _ _ aA rfl rfl (by simp [buildPV, PV.cells]; first | done | rfl) ?_) | (refine zbz _ _ rfl rfl rfl rfl ?_) | (refine zcc _ aA rfl ?_) | (refine zb2 aA rfl ?_) | (refine zbo _ _ _ rfl rfl aE (by first | assumption | (exact TAgg.size aA)) rfl rfl rfl aZ rfl aL (by first | (first | (simp only [lx, Nat.reduceAdd]; first | done | rfl) | fail) | rfl) ?_) | (refine zca _ rfl rfl ?_) | (refine zas (hK _ _ (.inl rfl) ?_); clear hK K) | (refine zas (hK _ _ (.inr (by kernel_rfl)) ?_); clear hK K))
      | (refine za3 ?_; first | (refine zbp ?_) | (refine zaj (fun K hK => ?_)) | (refine zan ?_) | (refine za4 ?_) | (refine zbq ?_) | (refine za1 ?_))
      | (refine za2 ?_) | (refine zai ?_) | (refine zae ?_) | (refine zaq ?_) | (refine zar ?_) | (refine zao ?_) | (refine zap rfl ?_) | (refine zab ?_) | (refine zag ?_) | (refine zbr ?_))
  refine RetPost.mono (fun r fin h => ⟨e, x, y, h, hb, ⟨h1, h2⟩, ⟨h3, h4⟩⟩) ?_
  (first | refine ret_TL rfl rfl rfl (by first | exact trivial | (repeat' (first | exact trivial | refine ⟨by assumption, ?_⟩))) (by repeat' (first | exact trivial | refine ⟨by simp, ?_⟩)) (by first | exact trivial | exact ⟨⟨rfl, rfl, fun h => by cases h⟩, trivial⟩) ?_ | refine ret_AL rfl rfl rfl (by first | exact trivial | (repeat' (first | exact trivial | refine ⟨by assumption, ?_⟩))) (by repeat' (first | exact trivial | refine ⟨by simp, ?_⟩)) (by first | exact trivial | exact ⟨⟨rfl, rfl, fun h => by cases h⟩, trivial⟩) ?_); (repeat' (first | exact et_end | exact el_end | refine et_int rfl ?_ ?_ | refine et_bool ?_ ?_ | refine et_str ?_ ?_ | refine et_lst rfl rfl ?_ ?_ | refine et_listA rfl (by rfl) (by decide) rfl rfl ?_ ?_ ?_ | refine et_nil ?_ ?_ | refine et_agg0 ?_ ?_ | refine et_agg ?_ ?_ | refine el_int rfl ?_ ?_ | refine el_bool ?_ ?_ | refine el_str ?_ ?_ | refine el_lst rfl rfl ?_ ?_ | refine el_listA rfl (by rfl) (by decide) rfl rfl ?_ ?_ ?_ | refine el_nil ?_ ?_)) <;> first | rfl | (simp; done) | omega
end Go.Vs
