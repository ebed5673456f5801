/- PROVED: the given statement FnEnsembles: whatever the arguments, the law returns true and the arguments read as they did; no condition. -/
import Derived.Test.YtgpnbhnndhakhaaEaf
import Derived.WalkKit
import Derived.Orders
import Derived.Laws.MakeOwn
import Derived.Laws.BytesString
import Derived.KernelRfl
import Derived.Test.YtgpnbhnndhakhaaRows
import Derived.Laws.Strings
import Derived.Below
import Derived.ChangeArms
import Derived.Deep.Slices
import Derived.ProofKit
import Derived.OpenShut
import Derived.ShutString
import Derived.ChangeOld
set_option linter.unusedVariables false
set_option linter.unusedSimpArgs false
set_option maxRecDepth 100000
set_option maxHeartbeats 4000000
namespace Go.Vs
open Go.Proofs
attribute [local irreducible] exec vwp thenQ blkQ loopQ RetPost
theorem k_sIsEnsemble (L : List Scen) (hL : L.length ≤ 1000000) (hp : ∀ s ∈ L, s.phases.length ≤ 1000000) : Con Try.prog 51 [.list 2 (L.map Scen.pv)] (.bool (decide (GoodL L))) := by
  intro al
  refine za8 hmix Try.func51 rfl (by kernel_rfl) (by kernel_rfl) (Nat.le_of_ble_eq_true rfl) (fun row h => by cases h) ?_
  have hty_u51 := ty_u51
  have hty_s51 := ty_s51
  have k1 := k_l8Good L hL hp
  repeat' (first
      | (refine za5 ?_; first | (refine za6 ?_; refine zat _ rfl ?_) | (refine zad ?_; refine zaa _ rfl ?_) | (refine zbd ?_; refine za0 true (k1) rfl rfl rfl aS rfl aH ?_; simp only [cl]) | (refine zas (hK _ _ (.inl rfl) ?_); clear hK K) | (refine zas (hK _ _ (.inr (by kernel_rfl)) ?_); clear hK K))
      | (refine za3 ?_; first | (refine zbp ?_) | (refine zaj (fun K hK => ?_)) | (refine zan ?_) | (refine za4 ?_) | (refine zbq ?_) | (refine za1 ?_))
      | (refine za2 ?_) | (refine zai ?_) | (refine zae ?_) | (refine zaq ?_) | (refine zar ?_) | (refine zao ?_) | (refine zap rfl ?_) | (refine zab ?_) | (refine zag ?_) | (refine zbr ?_))
  all_goals exact zb1 rfl (zbn rfl) rfl
theorem EnsB.z {e : Ens} (h : EnsB e) : SzE e := by
  have h1 := h.t.2.2
  have h2 := h.len
  have h3 := h.src
  exact ⟨by omega, by omega, fun s hs => by have := h.ph s hs; omega, by omega⟩
structure EnF (e : Ens) (k W M num den : Int) (su ma : List Int) : Prop where
  w : 1 ≤ W ∧ W ≤ 400
  m : 0 ≤ M ∧ M ≤ 10000
  d : 1 ≤ den ∧ den ≤ 400
  n : 0 ≤ num ∧ num ≤ 10000
  wd : W % den = 0
  nd : num * (W / den) = M
  sl : (su.length : Int) * den ≤ num
  ml : num ≤ (ma.length : Int) * den
  sm : ∀ x ∈ su, x ∈ ma
  sum : sumC (fun i => sumE e k (i : Int)) e.t.burn.length = M
theorem enF_all {e : Ens} {k : Int} (h : EkOk e k) : EnF e k (wgtE e) (meanE e k) (frN (meanE e k) (wgtE e)) (frD (meanE e k) (wgtE e)) (suR e k) (maR e k) := by
  have hE := h.1
  have hw := wE_bnd hE
  have hm := mE_take hE k e.L.length
  rw [List.take_length] at hm
  have hm : 0 ≤ meanE e k ∧ meanE e k ≤ 10000 := hm
  have f1 := fracE (p := meanE e k) hw.1
  have f2 := fracE_back (p := meanE e k) hw.1
  have f3 := fracE_all (p := meanE e k) hw.1 hm.1
  have f4 := mean_ge hE k
  rw [suR_t h, maR_t h]
  exact ⟨hw, hm, ⟨f1.2.2.2, by have := f3.2.2.2.2; simp only [frD]; omega⟩, ⟨f3.2.2.1, by have := f3.2.2.2.1; simp only [frN]; omega⟩, f2.1, f2.2.2, (fracE_le hw.1).1 f4.1, (fracE_le hw.1).2 f4.2, sure_may hE k, sum_cells hE k⟩
structure EnC (e : Ens) (k W : Int) (c : Int) (su ma : List Int) (a b : Int) : Prop where
  fb : 1 ≤ b ∧ b ≤ 400
  fa : 0 ≤ a ∧ a ≤ 400
  wb : W % b = 0
  ab : a * (W / b) = sumE e k c
  s : 0 ≤ sumE e k c ∧ sumE e k c ≤ 400
  fsu : c ∈ su ↔ a = b
  fma : c ∈ ma ↔ 0 < a
theorem enC_all {e : Ens} {k c : Int} (h : EkOk e k) (hc : IsCell e.t c) : EnC e k (wgtE e) c (suR e k) (maR e k) (frN (sumE e k c) (wgtE e)) (frD (sumE e k c) (wgtE e)) := by
  have hE := h.1
  have hw := wE_bnd hE
  have hs := sE_bnd hE k c
  have f1 := fracE (p := sumE e k c) hw.1
  have f2 := fracE_back (p := sumE e k c) hw.1
  have f3 := fracE_all (p := sumE e k c) hw.1 hs.1
  rw [suR_t h, maR_t h]
  exact ⟨⟨f1.2.2.2, by have := f3.2.2.2.2; simp only [frD]; omega⟩, ⟨f3.2.2.1, by have := f3.2.2.2.1; simp only [frN]; omega⟩, f2.1, f2.2.2, hs, (sure_iff hE hc).trans f3.1.symm, (may_iff hE hc).trans f3.2.1.symm⟩
theorem law_FnEnsembles (code : List Int) (g : code.length ≤ 9223372036854775807) (hb : ∀ b ∈ code, 0 ≤ b ∧ b ≤ 255) : Con Try.prog 6 [.list 1 (bytesP code)] (.bool true) := by
  intro al
  refine za8 hmix Try.func6 rfl (by kernel_rfl) (by kernel_rfl) (Nat.le_of_ble_eq_true rfl) (fun row h => by cases h) ?_
  have hty_u22 := ty_u22
  have hty_s22 := ty_s22
  have hty_z26 := ty_z26
  have hty_t26 := ty_t26
  have hty_a26 := ty_a26
  have hty_u51 := ty_u51
  have hty_s51 := ty_s51
  have hty_u24 := ty_u24
  have hty_s24 := ty_s24
  have hty_u4 := ty_u4
  have hty_f56_1 := ty_f56_1
  have hty_c3 := ty_c3
  have hty_f26_2 := ty_f26_2
  have hty_c24 := ty_c24
  have kb := k_vBig code g
  by_cases hbig : 65536 < code.length
  · rw [decide_eq_true hbig] at kb
    repeat' (first
      | (refine za5 ?_; first | (refine za6 ?_; refine zat _ rfl ?_) | (refine zad ?_; refine zaa _ rfl ?_) | (refine zbv ?_; first | (refine zby rfl rfl aO ?_) | (refine zci rfl rfl aO ?_) | (refine x_quo rfl rfl aO ?_) | (refine zcp rfl rfl aO ?_) | (refine zco rfl rfl aO ?_) | (refine zcm rfl rfl aO ?_) | (refine zbu _ rfl rfl rfl ?_) | (refine zbt aA rfl rfl ?_) | (refine zb6 aA rfl rfl ?_) | (refine zaw _ rfl rfl rfl ?_)) | (refine g_un ?_; first | (refine zce rfl ?_) | (refine zcf rfl aO ?_)) | (refine zbf ?_; first | (refine zac aA rfl ?_) | (refine zah _ aA rfl rfl aE rfl ?_) | (refine zaf _ aA rfl aZ aL ?_) | (refine zak _ aA rfl rfl aE aZ aL ?_)) | (refine zbm ?_; first | (refine zay _ aA rfl aL ?_) | (refine zax _ aA rfl rfl (by simp only [lx, Nat.reduceAdd]; first | done | rfl) ?_)) | (refine zbe ?_; first | (refine zau _ aA rfl rfl aO aA ?_) | (refine zav _ aA rfl rfl rfl rfl aO aO (by first | (rw [Nat.zero_add, Int.toNat_natCast]) | (rw [Nat.zero_add]) | rfl) ?_)) | (refine zbw ?_; first | (refine zbl rfl aD rfl ?_) | (refine zbi rfl aD ?_) | (refine zbj rfl aD ?_) | (refine zbk rfl aD rfl ?_)) | (refine zbs ?_; first | (refine zbx rfl rfl aD ?_) | (refine zb8 rfl rfl aD ?_) | (refine zb7 rfl rfl ?_) | (refine zbh rfl rfl (fun h => ?_) (fun h => ?_) <;> (have h' := h; (try simp only [sx] at h')))) | (refine zbd ?_; first | (refine za0 true (kb) rfl rfl rfl aS rfl aH ?_; simp only [cl]) | (refine za9 aA rfl ?_) | (refine zbc aA rfl rfl ?_) | (refine zba aA rfl ?_) | (refine zbb aA (evO_ok rfl) ?_)) | (refine zcc _ aA rfl ?_) | (refine zb2 aA rfl ?_) | (refine zbo _ _ _ rfl rfl aE (by first | assumption | (exact TAgg.size aA)) rfl rfl rfl aZ rfl aL (by first | (first | (simp only [lx, Nat.reduceAdd]; first | done | rfl) | fail) | rfl) ?_) | (refine zca _ rfl rfl ?_) | (refine zas (hK _ _ (.inl rfl) ?_); clear hK K) | (refine zas (hK _ _ (.inr (by kernel_rfl)) ?_); clear hK K))
      | (refine za3 ?_; first | (refine zbp ?_) | (refine zaj (fun K hK => ?_)) | (refine zan ?_) | (refine za4 ?_) | (refine zbq ?_) | (refine za1 ?_) | (refine zbg ?_; first | (refine zam rfl aD ?_) | (refine zal rfl aD ?_) | (refine zaz rfl (fun h => ?_) (fun h => ?_) <;> (have h' := h; (try simp only [sx] at h')))))
      | (refine za2 ?_) | (refine zai ?_) | (refine zae ?_) | (refine zaq ?_) | (refine zar ?_) | (refine zao ?_) | (refine zap rfl ?_) | (refine zab ?_) | (refine zag ?_) | (refine zbr ?_))
    exact zb1 rfl (zbn rfl) rfl
  · rw [decide_eq_false hbig] at kb
    have hz : CodeOk code := ⟨by omega, hb⟩
    repeat' (first
      | (refine za5 ?_; first | (refine za6 ?_; refine zat _ rfl ?_) | (refine zad ?_; refine zaa _ rfl ?_) | (refine zbv ?_; first | (refine zby rfl rfl aO ?_) | (refine zci rfl rfl aO ?_) | (refine x_quo rfl rfl aO ?_) | (refine zcp rfl rfl aO ?_) | (refine zco rfl rfl aO ?_) | (refine zcm rfl rfl aO ?_) | (refine zbu _ rfl rfl rfl ?_) | (refine zbt aA rfl rfl ?_) | (refine zb6 aA rfl rfl ?_) | (refine zaw _ rfl rfl rfl ?_)) | (refine g_un ?_; first | (refine zce rfl ?_) | (refine zcf rfl aO ?_)) | (refine zbf ?_; first | (refine zac aA rfl ?_) | (refine zah _ aA rfl rfl aE rfl ?_) | (refine zaf _ aA rfl aZ aL ?_) | (refine zak _ aA rfl rfl aE aZ aL ?_)) | (refine zbm ?_; first | (refine zay _ aA rfl aL ?_) | (refine zax _ aA rfl rfl (by simp only [lx, Nat.reduceAdd]; first | done | rfl) ?_)) | (refine zbe ?_; first | (refine zau _ aA rfl rfl aO aA ?_) | (refine zav _ aA rfl rfl rfl rfl aO aO (by first | (rw [Nat.zero_add, Int.toNat_natCast]) | (rw [Nat.zero_add]) | rfl) ?_)) | (refine zbw ?_; first | (refine zbl rfl aD rfl ?_) | (refine zbi rfl aD ?_) | (refine zbj rfl aD ?_) | (refine zbk rfl aD rfl ?_)) | (refine zbs ?_; first | (refine zbx rfl rfl aD ?_) | (refine zb8 rfl rfl aD ?_) | (refine zb7 rfl rfl ?_) | (refine zbh rfl rfl (fun h => ?_) (fun h => ?_) <;> (have h' := h; (try simp only [sx] at h')))) | (refine zbd ?_; first | (refine za0 true (kb) rfl rfl rfl aS rfl aH ?_; simp only [cl]) | (refine x_callLP [] (k_DrawMean code hz) rfl rfl (by (repeat' (first | exact trivial | refine ⟨⟨_, rfl, ?_⟩, ?_⟩ | exact .inl ⟨rfl, .inl rfl⟩ | exact .inr ⟨rfl, rfl, rfl, rfl, rfl, fun e he u hu => by (simp only [List.mem_cons, List.not_mem_nil, or_false] at he; subst he; simp only [List.mem_cons, List.not_mem_nil, or_false] at hu; subst hu; rfl)⟩ | exact .inl ⟨rfl, .inr (fun e he => by (simp only [List.mem_cons, List.not_mem_nil, or_false] at he; subst he; rfl))⟩ | fail)); first | done | fail) rfl rfl aS rfl (fun r_ fin_ hP_ => ?_); obtain ⟨e, k, ⟨rfl, rfl⟩, hB, hk⟩ := hP_; refine ⟨_, _, _, aH, rfl, ?_⟩; simp only [cl]) | (refine za9 aA rfl ?_) | (refine zbc aA rfl rfl ?_) | (refine zba aA rfl ?_) | (refine zbb aA (evO_ok rfl) ?_)) | (refine zcc _ aA rfl ?_) | (refine zb2 aA rfl ?_) | (refine zbo _ _ _ rfl rfl aE (by first | assumption | (exact TAgg.size aA)) rfl rfl rfl aZ rfl aL (by first | (first | (simp only [lx, Nat.reduceAdd]; first | done | rfl) | fail) | rfl) ?_) | (refine zca _ rfl rfl ?_) | (refine zas (hK _ _ (.inl rfl) ?_); clear hK K) | (refine zas (hK _ _ (.inr (by kernel_rfl)) ?_); clear hK K))
      | (refine za3 ?_; first | (refine zbp ?_) | (refine zaj (fun K hK => ?_)) | (refine zan ?_) | (refine za4 ?_) | (refine zbq ?_) | (refine za1 ?_) | (refine zbg ?_; first | (refine zam rfl aD ?_) | (refine zal rfl aD ?_) | (refine zaz rfl (fun h => ?_) (fun h => ?_) <;> (have h' := h; (try simp only [sx] at h')))))
      | (refine za2 ?_) | (refine zai ?_) | (refine zae ?_) | (refine zaq ?_) | (refine zar ?_) | (refine zao ?_) | (refine zap rfl ?_) | (refine zab ?_) | (refine zag ?_) | (refine zbr ?_))
    have z := hB.z
    have hB1 := hB.t.2.2
    have hB2 := hB.len
    have kM1 := k_iMean e z k
    have kM2 := k_sMean e z k
    have kE1 := k_IsEnsemble e.L z.hL z.hp
    have kE2 := k_sIsEnsemble e.L z.hL z.hp
    have kS1 := (Con.a (k_iSureCells e z k)).frz rfl
    have kS2 := (Con.a (k_sSureCells e z k)).frz rfl
    have kP1 := (Con.a (k_iPossibleCells e z k)).frz rfl
    have kP2 := (Con.a (k_sPossibleCells e z k)).frz rfl
    simp only [frz, frz2, List.map_cons, List.map_nil] at kS1 kS2 kP1 kP2
    have hsl := suR_len e k
    have hml := maR_len e k
    have kI1 := k_vIntsS (suR e k) aO
    have kI2 := k_vIntsS (maR e k) aO
    have hok := opB_of (p := EkOk e k)
    have hF := fun h : opB (EkOk e k) = true => enF_all (hok h)
    have hC := fun (h : opB (EkOk e k) = true) (c : Int) (hc : IsCell e.t c) => enC_all (c := c) (hok h) hc
    unfold fr3 at kM1 kM2
    have hn1 : opB (EkOk e k) = true → (if opB (EkOk e k) = true then frN (meanE e k) (wgtE e) else 0) = frN (meanE e k) (wgtE e) := fun h => if_pos h
    have hd1 : opB (EkOk e k) = true → (if opB (EkOk e k) = true then frD (meanE e k) (wgtE e) else 0) = frD (meanE e k) (wgtE e) := fun h => if_pos h
    generalize (if opB (EkOk e k) = true then frN (meanE e k) (wgtE e) else 0) = num at *
    generalize (if opB (EkOk e k) = true then frD (meanE e k) (wgtE e) else 0) = den at *
    generalize suR e k = su at *
    generalize maR e k = ma at *
    generalize decide (GoodL e.L) = gl at *
    generalize hoo : opB (EkOk e k) = o at *
    repeat' (first
      | (refine za5 ?_; first | (refine za6 ?_; refine zat _ rfl ?_) | (refine zad ?_; refine zaa _ rfl ?_) | (refine zbv ?_; first | (refine zby rfl rfl aO ?_) | (refine zci rfl rfl aO ?_) | (refine x_quo rfl rfl aO ?_) | (refine zcp rfl rfl aO ?_) | (refine zco rfl rfl aO ?_) | (refine zcm rfl rfl aO ?_) | (refine zbu _ rfl rfl rfl ?_) | (refine zbt aA rfl rfl ?_) | (refine zb6 aA rfl rfl ?_) | (refine zaw _ rfl rfl rfl ?_)) | (refine g_un ?_; first | (refine zce rfl ?_) | (refine zcf rfl aO ?_)) | (refine zbf ?_; first | (refine zac aA rfl ?_) | (refine zah _ aA rfl rfl aE rfl ?_) | (refine zaf _ aA rfl aZ aL ?_) | (refine zak _ aA rfl rfl aE aZ aL ?_)) | (refine zbm ?_; first | (refine zay _ aA rfl aL ?_) | (refine zax _ aA rfl rfl (by simp only [lx, Nat.reduceAdd]; first | done | rfl) ?_)) | (refine zbe ?_; first | (refine zau _ aA rfl rfl aO aA ?_) | (refine zav _ aA rfl rfl rfl rfl aO aO (by first | (rw [Nat.zero_add, Int.toNat_natCast]) | (rw [Nat.zero_add]) | rfl) ?_)) | (refine zbw ?_; first | (refine zbl rfl aD rfl ?_) | (refine zbi rfl aD ?_) | (refine zbj rfl aD ?_) | (refine zbk rfl aD rfl ?_)) | (refine zbs ?_; first | (refine zbx rfl rfl aD ?_) | (refine zb8 rfl rfl aD ?_) | (refine zb7 rfl rfl ?_) | (refine zbh rfl rfl (fun h => ?_) (fun h => ?_) <;> (have h' := h; (try simp only [sx] at h')))) | (refine zbd ?_; first | (refine za0 true (kM1) rfl rfl rfl aS rfl aH ?_; simp only [cl]) | (refine za0 true (kM2) rfl rfl rfl aS rfl aH ?_; simp only [cl]) | (refine za0 true (kE1) rfl rfl rfl aS rfl aH ?_; simp only [cl]) | (refine za0 true (kE2) rfl rfl rfl aS rfl aH ?_; simp only [cl]) | (refine x_callA true (kS1) rfl rfl rfl rfl rfl aS rfl aH ?_; simp only [cl]) | (refine x_callA true (kS2) rfl rfl rfl rfl rfl aS rfl aH ?_; simp only [cl]) | (refine x_callA true (kP1) rfl rfl rfl rfl rfl aS rfl aH ?_; simp only [cl]) | (refine x_callA true (kP2) rfl rfl rfl rfl rfl aS rfl aH ?_; simp only [cl]) | (refine za0 true (kI1) rfl rfl rfl aS rfl aH ?_; simp only [cl]) | (refine za0 true (kI2) rfl rfl rfl aS rfl aH ?_; simp only [cl]) | (refine za9 aA rfl ?_) | (refine zbc aA rfl rfl ?_) | (refine zba aA rfl ?_) | (refine zbb aA (evO_ok rfl) ?_)) | (refine zcc _ aA rfl ?_) | (refine zb2 aA rfl ?_) | (refine zbo _ _ _ rfl rfl aE (by first | assumption | (exact TAgg.size aA)) rfl rfl rfl aZ rfl aL (by first | (first | (simp only [lx, Nat.reduceAdd]; first | done | rfl) | fail) | rfl) ?_) | (refine zca _ rfl rfl ?_) | (refine zas (hK _ _ (.inl rfl) ?_); clear hK K) | (refine zas (hK _ _ (.inr (by kernel_rfl)) ?_); clear hK K))
      | (refine za3 ?_; first | (refine v_seqN 3000016 rfl ?_) | (refine zaj (fun K hK => ?_)) | (refine zan ?_) | (refine za4 ?_) | (refine zbq ?_) | (refine za1 ?_) | (refine zbg ?_; first | (refine zam rfl aD ?_) | (refine zal rfl aD ?_) | (refine zaz rfl (fun h => ?_) (fun h => ?_) <;> (have h' := h; (try simp only [sx] at h')))))
      | (refine za2 ?_) | (refine zai ?_) | (refine zae ?_) | (refine zaq ?_) | (refine zar ?_) | (refine zao ?_) | (refine zap rfl ?_) | (refine zab ?_) | (refine zag ?_) | (refine zbr ?_))
    all_goals try (exfalso; omega)
    all_goals try (exfalso; simp at *; done)
    refine v_cutK [0] [] (fun u_ : Unit => []) (fun u_ : Unit => []) (fun u_ : Unit => True) rfl rfl (fun _ => rfl) (fun _ => rfl) ?_ (fun u_ hu_ => ?_)
    · cases o
      · repeat' (first
      | (refine za5 ?_; first | (refine za6 ?_; refine zat _ rfl ?_) | (refine zad ?_; refine zaa _ rfl ?_) | (refine zbv ?_; first | (refine zby rfl rfl aO ?_) | (refine zci rfl rfl aO ?_) | (refine x_quo rfl rfl aO ?_) | (refine zcp rfl rfl aO ?_) | (refine zco rfl rfl aO ?_) | (refine zcm rfl rfl aO ?_) | (refine zbu _ rfl rfl rfl ?_) | (refine zbt aA rfl rfl ?_) | (refine zb6 aA rfl rfl ?_) | (refine zaw _ rfl rfl rfl ?_)) | (refine g_un ?_; first | (refine zce rfl ?_) | (refine zcf rfl aO ?_)) | (refine zbf ?_; first | (refine zac aA rfl ?_) | (refine zah _ aA rfl rfl aE rfl ?_) | (refine zaf _ aA rfl aZ aL ?_) | (refine zak _ aA rfl rfl aE aZ aL ?_)) | (refine zbm ?_; first | (refine zay _ aA rfl aL ?_) | (refine zax _ aA rfl rfl (by simp only [lx, Nat.reduceAdd]; first | done | rfl) ?_)) | (refine zbe ?_; first | (refine zau _ aA rfl rfl aO aA ?_) | (refine zav _ aA rfl rfl rfl rfl aO aO (by first | (rw [Nat.zero_add, Int.toNat_natCast]) | (rw [Nat.zero_add]) | rfl) ?_)) | (refine zbw ?_; first | (refine zbl rfl aD rfl ?_) | (refine zbi rfl aD ?_) | (refine zbj rfl aD ?_) | (refine zbk rfl aD rfl ?_)) | (refine zbs ?_; first | (refine zbx rfl rfl aD ?_) | (refine zb8 rfl rfl aD ?_) | (refine zb7 rfl rfl ?_) | (refine zbh rfl rfl (fun h => ?_) (fun h => ?_) <;> (have h' := h; (try simp only [sx] at h')))) | (refine zbd ?_; first | (refine za9 aA rfl ?_) | (refine zbc aA rfl rfl ?_) | (refine zba aA rfl ?_) | (refine zbb aA (evO_ok rfl) ?_)) | (refine zcc _ aA rfl ?_) | (refine zb2 aA rfl ?_) | (refine zbo _ _ _ rfl rfl aE (by first | assumption | (exact TAgg.size aA)) rfl rfl rfl aZ rfl aL (by first | (first | (simp only [lx, Nat.reduceAdd]; first | done | rfl) | fail) | rfl) ?_) | (refine zca _ rfl rfl ?_) | (refine zas (hK _ _ (.inl rfl) ?_); clear hK K) | (refine zas (hK _ _ (.inr (by kernel_rfl)) ?_); clear hK K))
      | (refine za3 ?_; first | (refine zbp ?_) | (refine zaj (fun K hK => ?_)) | (refine zan ?_) | (refine za4 ?_) | (refine zbq ?_) | (refine za1 ?_) | (refine zbg ?_; first | (refine zam rfl aD ?_) | (refine zal rfl aD ?_) | (refine zaz rfl (fun h => ?_) (fun h => ?_) <;> (have h' := h; (try simp only [sx] at h')))))
      | (refine za2 ?_) | (refine zai ?_) | (refine zae ?_) | (refine zaq ?_) | (refine zar ?_) | (refine zao ?_) | (refine zap rfl ?_) | (refine zab ?_) | (refine zag ?_) | (refine zbr ?_))
        all_goals (refine zcb () rfl aW trivial (by decide))
      have hE := (hok rfl).1
      have hF := hF rfl
      have hC := hC rfl
      rw [← hn1 rfl, ← hd1 rfl] at hF
      clear hn1 hd1 kM1 kM2 kE1 kE2 kS1 kS2 kP1 kP2
      have hL := hE.2.1
      have hl4 := hL.2
      have hlen := goodT_len hE.1.1
      have hW : sumBy wtS e.L = wgtE e := rfl
      have hl1 : (e.L.map Scen.pv).length = e.L.length := by simp
      have hl2 : (ints e.t.burn).length = e.t.burn.length := by simp
      have hl3 : (ints su).length = su.length := by simp
      have hl5 : (ints ma).length = ma.length := by simp
      have hcb := fun c => sE_bnd hE k c
      have kCh := fun c => k_iBurnChance e z k c
      have hk9 := (hok rfl).2
      generalize wgtE e = W at *
      generalize hMM : meanE e k = M at *
      have g1 := hF.w
      have g2 := hF.m
      have g3 := hF.d
      have g4 := hF.n
      have g5 := hF.wd
      have g6 := hF.nd
      have g7 := hF.sl
      have g8 := hF.ml
      have g9 := hF.sm
      have g10 := hF.sum
      repeat' (first
      | (refine za5 ?_; first | (refine za6 ?_; refine zat _ rfl ?_) | (refine zad ?_; refine zaa _ rfl ?_) | (refine zbv ?_; first | (refine zby rfl rfl aO ?_) | (refine zci rfl rfl aO ?_) | (refine x_quo rfl rfl aO ?_) | (refine zcp rfl rfl aO ?_) | (refine zco rfl rfl aO ?_) | (refine zcm rfl rfl aO ?_) | (refine zbu _ rfl rfl rfl ?_) | (refine zbt aA rfl rfl ?_) | (refine zb6 aA rfl rfl ?_) | (refine zaw _ rfl rfl rfl ?_)) | (refine g_un ?_; first | (refine zce rfl ?_) | (refine zcf rfl aO ?_)) | (refine zbf ?_; first | (refine zac aA rfl ?_) | (refine zah _ aA rfl rfl aE rfl ?_) | (refine zaf _ aA rfl aZ aL ?_) | (refine zak _ aA rfl rfl aE aZ aL ?_)) | (refine zbm ?_; first | (refine zay _ aA rfl aL ?_) | (refine zax _ aA rfl rfl (by simp only [lx, Nat.reduceAdd]; first | done | rfl) ?_)) | (refine zbe ?_; first | (refine zau _ aA rfl rfl aO aA ?_) | (refine zav _ aA rfl rfl rfl rfl aO aO (by first | (rw [Nat.zero_add, Int.toNat_natCast]) | (rw [Nat.zero_add]) | rfl) ?_)) | (refine zbw ?_; first | (refine zbl rfl aD rfl ?_) | (refine zbi rfl aD ?_) | (refine zbj rfl aD ?_) | (refine zbk rfl aD rfl ?_)) | (refine zbs ?_; first | (refine zbx rfl rfl aD ?_) | (refine zb8 rfl rfl aD ?_) | (refine zb7 rfl rfl ?_) | (refine zbh rfl rfl (fun h => ?_) (fun h => ?_) <;> (have h' := h; (try simp only [sx] at h')))) | (refine zbd ?_; first | (refine za9 aA rfl ?_) | (refine zbc aA rfl rfl ?_) | (refine zba aA rfl ?_) | (refine zbb aA (evO_ok rfl) ?_)) | (refine zcc _ aA rfl ?_) | (refine zb2 aA rfl ?_) | (refine zbo _ _ _ rfl rfl aE (by first | assumption | (exact TAgg.size aA)) rfl rfl rfl aZ rfl aL (by first | (first | (simp only [lx, Nat.reduceAdd]; first | done | rfl) | fail) | rfl) ?_) | (refine zca _ rfl rfl ?_) | (refine zas (hK _ _ (.inl rfl) ?_); clear hK K) | (refine zas (hK _ _ (.inr (by kernel_rfl)) ?_); clear hK K))
      | (refine za3 ?_; first | (refine zbp ?_) | (refine zaj (fun K hK => ?_)) | (refine zan ?_) | (refine za4 ?_) | (refine zbq ?_) | (refine za1 ?_) | (refine zbg ?_; first | (refine zam rfl aD ?_) | (refine zal rfl aD ?_) | (refine zaz rfl (fun h => ?_) (fun h => ?_) <;> (have h' := h; (try simp only [sx] at h')))))
      | (refine za2 ?_) | (refine zai ?_) | (refine zae ?_) | (refine zaq ?_) | (refine zar ?_) | (refine zao ?_) | (refine zap rfl ?_) | (refine zab ?_) | (refine zag ?_) | (refine zbr ?_))
      all_goals try (exfalso; omega)
      refine zcd [0, 3, 4, 5, 6, 7, 8, 9, 14, 16] [] (fun q : Nat × Int => [(22, .int .i64 q.2), (23, .int .i64 q.1)]) (fun q : Nat × Int => []) (fun q : Nat × Int => q.1 ≤ e.L.length ∧ q.2 = sumBy wtS (e.L.take q.1)) (fun q : Nat × Int => e.L.length - q.1) ((0, 0)) rfl rfl (fun _ => rfl) (fun _ => rfl) rfl aW ⟨by simp, by simp [sumBy]⟩ (fun q hq => ?_)
      obtain ⟨i, s⟩ := q
      obtain ⟨hi, hs⟩ := hq
      simp only at hi hs
      dsimp only
      have hsb := wtS_bnd hL i
      rcases Nat.lt_or_ge i e.L.length with hlt | hge
      · obtain ⟨a, hga⟩ := get_ex hlt
        have hx := Scen.at hga
        have hwa := (hL.1 a (get_mem hga)).2
        have hsum := sumBy_take_succ wtS hga
        repeat' (first
      | (refine za5 ?_; first | (refine za6 ?_; refine zat _ rfl ?_) | (refine zad ?_; refine zaa _ rfl ?_) | (refine zbv ?_; first | (refine zby rfl rfl aO ?_) | (refine zci rfl rfl aO ?_) | (refine x_quo rfl rfl aO ?_) | (refine zcp rfl rfl aO ?_) | (refine zco rfl rfl aO ?_) | (refine zcm rfl rfl aO ?_) | (refine zbu _ rfl rfl rfl ?_) | (refine zbt aA rfl rfl ?_) | (refine zb6 aA rfl rfl ?_) | (refine zaw _ rfl rfl rfl ?_)) | (refine g_un ?_; first | (refine zce rfl ?_) | (refine zcf rfl aO ?_)) | (refine zbf ?_; first | (refine zac aA rfl ?_) | (refine zah _ aA rfl rfl aE rfl ?_) | (refine zaf _ aA rfl aZ aL ?_) | (refine zak _ aA rfl rfl aE aZ aL ?_)) | (refine zbm ?_; first | (refine zay _ aA rfl aL ?_) | (refine zax _ aA rfl rfl (by simp only [lx, Nat.reduceAdd]; first | done | rfl) ?_)) | (refine zbe ?_; first | (refine zau _ aA rfl rfl aO aA ?_) | (refine zav _ aA rfl rfl rfl rfl aO aO (by first | (rw [Nat.zero_add, Int.toNat_natCast]) | (rw [Nat.zero_add]) | rfl) ?_)) | (refine zbw ?_; first | (refine zbl rfl aD rfl ?_) | (refine zbi rfl aD ?_) | (refine zbj rfl aD ?_) | (refine zbk rfl aD rfl ?_)) | (refine zbs ?_; first | (refine zbx rfl rfl aD ?_) | (refine zb8 rfl rfl aD ?_) | (refine zb7 rfl rfl ?_) | (refine zbh rfl rfl (fun h => ?_) (fun h => ?_) <;> (have h' := h; (try simp only [sx] at h')))) | (refine zbd ?_; first | (refine za9 aA rfl ?_) | (refine zbc aA rfl rfl ?_) | (refine zba aA rfl ?_) | (refine zbb aA (evO_ok rfl) ?_)) | (refine zcc _ aA rfl ?_) | (refine zb2 aA rfl ?_) | (refine zbo _ _ _ rfl rfl aE (by first | assumption | (exact TAgg.size aA)) rfl rfl rfl aZ rfl aL (by first | (first | (simp only [lx, Nat.reduceAdd]; first | done | rfl) | fail) | rfl) ?_) | (refine zca _ rfl rfl ?_) | (refine zas (hK _ _ (.inl rfl) ?_); clear hK K) | (refine zas (hK _ _ (.inr (by kernel_rfl)) ?_); clear hK K))
      | (refine za3 ?_; first | (refine zbp ?_) | (refine zaj (fun K hK => ?_)) | (refine zan ?_) | (refine za4 ?_) | (refine zbq ?_) | (refine za1 ?_) | (refine zbg ?_; first | (refine zam rfl aD ?_) | (refine zal rfl aD ?_) | (refine zaz rfl (fun h => ?_) (fun h => ?_) <;> (have h' := h; (try simp only [sx] at h')))))
      | (refine za2 ?_) | (refine zai ?_) | (refine zae ?_) | (refine zaq ?_) | (refine zar ?_) | (refine zao ?_) | (refine zap rfl ?_) | (refine zab ?_) | (refine zag ?_) | (refine zbr ?_))
        all_goals first
          | (exfalso; omega)
          | (refine zcb (i + 1, s + a.weight) rfl aW ⟨by simp only; omega, by simp only [hsum, hs]⟩ (by simp only; omega))
      · rw [take_all hge, hW] at hs
        subst hs
        repeat' (first
      | (refine za5 ?_; first | (refine za6 ?_; refine zat _ rfl ?_) | (refine zad ?_; refine zaa _ rfl ?_) | (refine zbv ?_; first | (refine zby rfl rfl aO ?_) | (refine zci rfl rfl aO ?_) | (refine x_quo rfl rfl aO ?_) | (refine zcp rfl rfl aO ?_) | (refine zco rfl rfl aO ?_) | (refine zcm rfl rfl aO ?_) | (refine zbu _ rfl rfl rfl ?_) | (refine zbt aA rfl rfl ?_) | (refine zb6 aA rfl rfl ?_) | (refine zaw _ rfl rfl rfl ?_)) | (refine g_un ?_; first | (refine zce rfl ?_) | (refine zcf rfl aO ?_)) | (refine zbf ?_; first | (refine zac aA rfl ?_) | (refine zah _ aA rfl rfl aE rfl ?_) | (refine zaf _ aA rfl aZ aL ?_) | (refine zak _ aA rfl rfl aE aZ aL ?_)) | (refine zbm ?_; first | (refine zay _ aA rfl aL ?_) | (refine zax _ aA rfl rfl (by simp only [lx, Nat.reduceAdd]; first | done | rfl) ?_)) | (refine zbe ?_; first | (refine zau _ aA rfl rfl aO aA ?_) | (refine zav _ aA rfl rfl rfl rfl aO aO (by first | (rw [Nat.zero_add, Int.toNat_natCast]) | (rw [Nat.zero_add]) | rfl) ?_)) | (refine zbw ?_; first | (refine zbl rfl aD rfl ?_) | (refine zbi rfl aD ?_) | (refine zbj rfl aD ?_) | (refine zbk rfl aD rfl ?_)) | (refine zbs ?_; first | (refine zbx rfl rfl aD ?_) | (refine zb8 rfl rfl aD ?_) | (refine zb7 rfl rfl ?_) | (refine zbh rfl rfl (fun h => ?_) (fun h => ?_) <;> (have h' := h; (try simp only [sx] at h')))) | (refine zbd ?_; first | (refine za9 aA rfl ?_) | (refine zbc aA rfl rfl ?_) | (refine zba aA rfl ?_) | (refine zbb aA (evO_ok rfl) ?_)) | (refine zcc _ aA rfl ?_) | (refine zb2 aA rfl ?_) | (refine zbo _ _ _ rfl rfl aE (by first | assumption | (exact TAgg.size aA)) rfl rfl rfl aZ rfl aL (by first | (first | (simp only [lx, Nat.reduceAdd]; first | done | rfl) | fail) | rfl) ?_) | (refine zca _ rfl rfl ?_) | (refine zas (hK _ _ (.inl rfl) ?_); clear hK K) | (refine zas (hK _ _ (.inr (by kernel_rfl)) ?_); clear hK K))
      | (refine za3 ?_; first | (refine zbp ?_) | (refine zaj (fun K hK => ?_)) | (refine zan ?_) | (refine za4 ?_) | (refine zbq ?_) | (refine za1 ?_) | (refine zbg ?_; first | (refine zam rfl aD ?_) | (refine zal rfl aD ?_) | (refine zaz rfl (fun h => ?_) (fun h => ?_) <;> (have h' := h; (try simp only [sx] at h')))))
      | (refine za2 ?_) | (refine zai ?_) | (refine zae ?_) | (refine zaq ?_) | (refine zar ?_) | (refine zao ?_) | (refine zap rfl ?_) | (refine zab ?_) | (refine zag ?_) | (refine zbr ?_))
        all_goals try (exfalso; omega)
        refine zcd [0, 3, 4, 5, 6, 7, 8, 9, 14, 16, 22] [] (fun w : Nat × Int => [(24, .int .i64 w.2), (25, .int .i64 w.1)]) (fun w : Nat × Int => []) (fun w : Nat × Int => w.1 ≤ e.t.burn.length ∧ w.2 = sumC (fun i => sumE e k (i : Int)) w.1) (fun w : Nat × Int => e.t.burn.length - w.1) ((0, 0)) rfl rfl (fun _ => rfl) (fun _ => rfl) rfl aW ⟨by simp, rfl⟩ (fun w hw => ?_)
        obtain ⟨j, v⟩ := w
        obtain ⟨hj, hv⟩ := hw
        simp only at hj hv
        dsimp only
        have hvb := sumC_bnd (f := fun i => sumE e k (i : Int)) (B := 400) j fun i _ => hcb i
        rw [← hv] at hvb
        rcases Nat.lt_or_ge j e.t.burn.length with hlt2 | hge2
        · have hjc : IsCell e.t (j : Int) := ⟨by omega, by omega⟩
          have hCj := hC j hjc
          have kC := kCh j
          rw [fr3_t (show EcOk e k j from ⟨hE, hk9, hjc⟩)] at kC
          have hsm : sumC (fun i => sumE e k (i : Int)) (j + 1) = sumC (fun i => sumE e k (i : Int)) j + sumE e k j := rfl
          have kH1 := k_vHas su (j : Int) aO
          have kH2 := k_vHas ma (j : Int) aO
          have c1 := hCj.fb
          have c2 := hCj.fa
          have c3 := hCj.wb
          have c4 := hCj.ab
          have c5 := hCj.s
          have c6 := hCj.fsu
          have c7 := hCj.fma
          generalize sumE e k (j : Int) = S at *
          generalize frN S s = a at *
          generalize frD S s = b at *
          rw [show decide ((j : Int) ∈ su) = decide (a = b) by rw [Bool.eq_iff_iff, decide_eq_true_eq, decide_eq_true_eq]; exact c6] at kH1
          rw [show decide ((j : Int) ∈ ma) = decide (0 < a) by rw [Bool.eq_iff_iff, decide_eq_true_eq, decide_eq_true_eq]; exact c7] at kH2
          by_cases h1 : a = b
          · rw [decide_eq_true h1, decide_eq_true (show 0 < a by omega)] at *
            repeat' (first
      | (refine za5 ?_; first | (refine za6 ?_; refine zat _ rfl ?_) | (refine zad ?_; refine zaa _ rfl ?_) | (refine zbv ?_; first | (refine zby rfl rfl aO ?_) | (refine zci rfl rfl aO ?_) | (refine x_quo rfl rfl aO ?_) | (refine zcp rfl rfl aO ?_) | (refine zco rfl rfl aO ?_) | (refine zcm rfl rfl aO ?_) | (refine zbu _ rfl rfl rfl ?_) | (refine zbt aA rfl rfl ?_) | (refine zb6 aA rfl rfl ?_) | (refine zaw _ rfl rfl rfl ?_)) | (refine g_un ?_; first | (refine zce rfl ?_) | (refine zcf rfl aO ?_)) | (refine zbf ?_; first | (refine zac aA rfl ?_) | (refine zah _ aA rfl rfl aE rfl ?_) | (refine zaf _ aA rfl aZ aL ?_) | (refine zak _ aA rfl rfl aE aZ aL ?_)) | (refine zbm ?_; first | (refine zay _ aA rfl aL ?_) | (refine zax _ aA rfl rfl (by simp only [lx, Nat.reduceAdd]; first | done | rfl) ?_)) | (refine zbe ?_; first | (refine zau _ aA rfl rfl aO aA ?_) | (refine zav _ aA rfl rfl rfl rfl aO aO (by first | (rw [Nat.zero_add, Int.toNat_natCast]) | (rw [Nat.zero_add]) | rfl) ?_)) | (refine zbw ?_; first | (refine zbl rfl aD rfl ?_) | (refine zbi rfl aD ?_) | (refine zbj rfl aD ?_) | (refine zbk rfl aD rfl ?_)) | (refine zbs ?_; first | (refine zbx rfl rfl aD ?_) | (refine zb8 rfl rfl aD ?_) | (refine zb7 rfl rfl ?_) | (refine zbh rfl rfl (fun h => ?_) (fun h => ?_) <;> (have h' := h; (try simp only [sx] at h')))) | (refine zbd ?_; first | (refine za0 true (kC) rfl rfl rfl aS rfl aH ?_; simp only [cl]) | (refine za0 true (kH1) rfl rfl rfl aS rfl aH ?_; simp only [cl]) | (refine za0 true (kH2) rfl rfl rfl aS rfl aH ?_; simp only [cl]) | (refine za9 aA rfl ?_) | (refine zbc aA rfl rfl ?_) | (refine zba aA rfl ?_) | (refine zbb aA (evO_ok rfl) ?_)) | (refine zcc _ aA rfl ?_) | (refine zb2 aA rfl ?_) | (refine zbo _ _ _ rfl rfl aE (by first | assumption | (exact TAgg.size aA)) rfl rfl rfl aZ rfl aL (by first | (first | (simp only [lx, Nat.reduceAdd]; first | done | rfl) | fail) | rfl) ?_) | (refine zca _ rfl rfl ?_) | (refine zas (hK _ _ (.inl rfl) ?_); clear hK K) | (refine zas (hK _ _ (.inr (by kernel_rfl)) ?_); clear hK K))
      | (refine za3 ?_; first | (refine zbp ?_) | (refine zaj (fun K hK => ?_)) | (refine zan ?_) | (refine za4 ?_) | (refine zbq ?_) | (refine za1 ?_) | (refine zbg ?_; first | (refine zam rfl aD ?_) | (refine zal rfl aD ?_) | (refine zaz rfl (fun h => ?_) (fun h => ?_) <;> (have h' := h; (try simp only [sx] at h')))))
      | (refine za2 ?_) | (refine zai ?_) | (refine zae ?_) | (refine zaq ?_) | (refine zar ?_) | (refine zao ?_) | (refine zap rfl ?_) | (refine zab ?_) | (refine zag ?_) | (refine zbr ?_))
            all_goals first
              | (exfalso; omega)
              | (exfalso; simp at *; omega)
              | (refine zcb (j + 1, v + a * (s / b)) rfl aW ⟨by simp only; omega, by simp only [hsm, hv, c4]⟩ (by simp only; omega))
          · rw [decide_eq_false h1] at kH1
            by_cases h2 : 0 < a
            · rw [decide_eq_true h2] at kH2
              repeat' (first
      | (refine za5 ?_; first | (refine za6 ?_; refine zat _ rfl ?_) | (refine zad ?_; refine zaa _ rfl ?_) | (refine zbv ?_; first | (refine zby rfl rfl aO ?_) | (refine zci rfl rfl aO ?_) | (refine x_quo rfl rfl aO ?_) | (refine zcp rfl rfl aO ?_) | (refine zco rfl rfl aO ?_) | (refine zcm rfl rfl aO ?_) | (refine zbu _ rfl rfl rfl ?_) | (refine zbt aA rfl rfl ?_) | (refine zb6 aA rfl rfl ?_) | (refine zaw _ rfl rfl rfl ?_)) | (refine g_un ?_; first | (refine zce rfl ?_) | (refine zcf rfl aO ?_)) | (refine zbf ?_; first | (refine zac aA rfl ?_) | (refine zah _ aA rfl rfl aE rfl ?_) | (refine zaf _ aA rfl aZ aL ?_) | (refine zak _ aA rfl rfl aE aZ aL ?_)) | (refine zbm ?_; first | (refine zay _ aA rfl aL ?_) | (refine zax _ aA rfl rfl (by simp only [lx, Nat.reduceAdd]; first | done | rfl) ?_)) | (refine zbe ?_; first | (refine zau _ aA rfl rfl aO aA ?_) | (refine zav _ aA rfl rfl rfl rfl aO aO (by first | (rw [Nat.zero_add, Int.toNat_natCast]) | (rw [Nat.zero_add]) | rfl) ?_)) | (refine zbw ?_; first | (refine zbl rfl aD rfl ?_) | (refine zbi rfl aD ?_) | (refine zbj rfl aD ?_) | (refine zbk rfl aD rfl ?_)) | (refine zbs ?_; first | (refine zbx rfl rfl aD ?_) | (refine zb8 rfl rfl aD ?_) | (refine zb7 rfl rfl ?_) | (refine zbh rfl rfl (fun h => ?_) (fun h => ?_) <;> (have h' := h; (try simp only [sx] at h')))) | (refine zbd ?_; first | (refine za0 true (kC) rfl rfl rfl aS rfl aH ?_; simp only [cl]) | (refine za0 true (kH1) rfl rfl rfl aS rfl aH ?_; simp only [cl]) | (refine za0 true (kH2) rfl rfl rfl aS rfl aH ?_; simp only [cl]) | (refine za9 aA rfl ?_) | (refine zbc aA rfl rfl ?_) | (refine zba aA rfl ?_) | (refine zbb aA (evO_ok rfl) ?_)) | (refine zcc _ aA rfl ?_) | (refine zb2 aA rfl ?_) | (refine zbo _ _ _ rfl rfl aE (by first | assumption | (exact TAgg.size aA)) rfl rfl rfl aZ rfl aL (by first | (first | (simp only [lx, Nat.reduceAdd]; first | done | rfl) | fail) | rfl) ?_) | (refine zca _ rfl rfl ?_) | (refine zas (hK _ _ (.inl rfl) ?_); clear hK K) | (refine zas (hK _ _ (.inr (by kernel_rfl)) ?_); clear hK K))
      | (refine za3 ?_; first | (refine zbp ?_) | (refine zaj (fun K hK => ?_)) | (refine zan ?_) | (refine za4 ?_) | (refine zbq ?_) | (refine za1 ?_) | (refine zbg ?_; first | (refine zam rfl aD ?_) | (refine zal rfl aD ?_) | (refine zaz rfl (fun h => ?_) (fun h => ?_) <;> (have h' := h; (try simp only [sx] at h')))))
      | (refine za2 ?_) | (refine zai ?_) | (refine zae ?_) | (refine zaq ?_) | (refine zar ?_) | (refine zao ?_) | (refine zap rfl ?_) | (refine zab ?_) | (refine zag ?_) | (refine zbr ?_))
              all_goals first
                | (exfalso; omega)
                | (exfalso; simp at *; omega)
                | (refine zcb (j + 1, v + a * (s / b)) rfl aW ⟨by simp only; omega, by simp only [hsm, hv, c4]⟩ (by simp only; omega))
            · rw [decide_eq_false h2] at kH2
              repeat' (first
      | (refine za5 ?_; first | (refine za6 ?_; refine zat _ rfl ?_) | (refine zad ?_; refine zaa _ rfl ?_) | (refine zbv ?_; first | (refine zby rfl rfl aO ?_) | (refine zci rfl rfl aO ?_) | (refine x_quo rfl rfl aO ?_) | (refine zcp rfl rfl aO ?_) | (refine zco rfl rfl aO ?_) | (refine zcm rfl rfl aO ?_) | (refine zbu _ rfl rfl rfl ?_) | (refine zbt aA rfl rfl ?_) | (refine zb6 aA rfl rfl ?_) | (refine zaw _ rfl rfl rfl ?_)) | (refine g_un ?_; first | (refine zce rfl ?_) | (refine zcf rfl aO ?_)) | (refine zbf ?_; first | (refine zac aA rfl ?_) | (refine zah _ aA rfl rfl aE rfl ?_) | (refine zaf _ aA rfl aZ aL ?_) | (refine zak _ aA rfl rfl aE aZ aL ?_)) | (refine zbm ?_; first | (refine zay _ aA rfl aL ?_) | (refine zax _ aA rfl rfl (by simp only [lx, Nat.reduceAdd]; first | done | rfl) ?_)) | (refine zbe ?_; first | (refine zau _ aA rfl rfl aO aA ?_) | (refine zav _ aA rfl rfl rfl rfl aO aO (by first | (rw [Nat.zero_add, Int.toNat_natCast]) | (rw [Nat.zero_add]) | rfl) ?_)) | (refine zbw ?_; first | (refine zbl rfl aD rfl ?_) | (refine zbi rfl aD ?_) | (refine zbj rfl aD ?_) | (refine zbk rfl aD rfl ?_)) | (refine zbs ?_; first | (refine zbx rfl rfl aD ?_) | (refine zb8 rfl rfl aD ?_) | (refine zb7 rfl rfl ?_) | (refine zbh rfl rfl (fun h => ?_) (fun h => ?_) <;> (have h' := h; (try simp only [sx] at h')))) | (refine zbd ?_; first | (refine za0 true (kC) rfl rfl rfl aS rfl aH ?_; simp only [cl]) | (refine za0 true (kH1) rfl rfl rfl aS rfl aH ?_; simp only [cl]) | (refine za0 true (kH2) rfl rfl rfl aS rfl aH ?_; simp only [cl]) | (refine za9 aA rfl ?_) | (refine zbc aA rfl rfl ?_) | (refine zba aA rfl ?_) | (refine zbb aA (evO_ok rfl) ?_)) | (refine zcc _ aA rfl ?_) | (refine zb2 aA rfl ?_) | (refine zbo _ _ _ rfl rfl aE (by first | assumption | (exact TAgg.size aA)) rfl rfl rfl aZ rfl aL (by first | (first | (simp only [lx, Nat.reduceAdd]; first | done | rfl) | fail) | rfl) ?_) | (refine zca _ rfl rfl ?_) | (refine zas (hK _ _ (.inl rfl) ?_); clear hK K) | (refine zas (hK _ _ (.inr (by kernel_rfl)) ?_); clear hK K))
      | (refine za3 ?_; first | (refine zbp ?_) | (refine zaj (fun K hK => ?_)) | (refine zan ?_) | (refine za4 ?_) | (refine zbq ?_) | (refine za1 ?_) | (refine zbg ?_; first | (refine zam rfl aD ?_) | (refine zal rfl aD ?_) | (refine zaz rfl (fun h => ?_) (fun h => ?_) <;> (have h' := h; (try simp only [sx] at h')))))
      | (refine za2 ?_) | (refine zai ?_) | (refine zae ?_) | (refine zaq ?_) | (refine zar ?_) | (refine zao ?_) | (refine zap rfl ?_) | (refine zab ?_) | (refine zag ?_) | (refine zbr ?_))
              all_goals first
                | (exfalso; omega)
                | (exfalso; simp at *; omega)
                | (refine zcb (j + 1, v + a * (s / b)) rfl aW ⟨by simp only; omega, by simp only [hsm, hv, c4]⟩ (by simp only; omega))
        · have hjn : j = e.t.burn.length := by omega
          subst hjn
          rw [g10] at hv
          have kW := k_vWithin su ma aO aO
          rw [decide_eq_true g9] at kW
          rw [← hl3] at g7
          rw [← hl5] at g8
          have b1 : 0 ≤ ((ints su).length : Int) * den ∧ ((ints su).length : Int) * den ≤ 30 * 400 := ⟨Int.mul_nonneg aO aO, Int.mul_le_mul aO aO aO aO⟩
          have b2 : 0 ≤ ((ints ma).length : Int) * den ∧ ((ints ma).length : Int) * den ≤ 30 * 400 := ⟨Int.mul_nonneg aO aO, Int.mul_le_mul aO aO aO aO⟩
          repeat' (first
      | (refine za5 ?_; first | (refine za6 ?_; refine zat _ rfl ?_) | (refine zad ?_; refine zaa _ rfl ?_) | (refine zbv ?_; first | (refine zby rfl rfl aO ?_) | (refine zci rfl rfl aO ?_) | (refine x_quo rfl rfl aO ?_) | (refine zcp rfl rfl aO ?_) | (refine zco rfl rfl aO ?_) | (refine zcm rfl rfl aO ?_) | (refine zbu _ rfl rfl rfl ?_) | (refine zbt aA rfl rfl ?_) | (refine zb6 aA rfl rfl ?_) | (refine zaw _ rfl rfl rfl ?_)) | (refine g_un ?_; first | (refine zce rfl ?_) | (refine zcf rfl aO ?_)) | (refine zbf ?_; first | (refine zac aA rfl ?_) | (refine zah _ aA rfl rfl aE rfl ?_) | (refine zaf _ aA rfl aZ aL ?_) | (refine zak _ aA rfl rfl aE aZ aL ?_)) | (refine zbm ?_; first | (refine zay _ aA rfl aL ?_) | (refine zax _ aA rfl rfl (by simp only [lx, Nat.reduceAdd]; first | done | rfl) ?_)) | (refine zbe ?_; first | (refine zau _ aA rfl rfl aO aA ?_) | (refine zav _ aA rfl rfl rfl rfl aO aO (by first | (rw [Nat.zero_add, Int.toNat_natCast]) | (rw [Nat.zero_add]) | rfl) ?_)) | (refine zbw ?_; first | (refine zbl rfl aD rfl ?_) | (refine zbi rfl aD ?_) | (refine zbj rfl aD ?_) | (refine zbk rfl aD rfl ?_)) | (refine zbs ?_; first | (refine zbx rfl rfl aD ?_) | (refine zb8 rfl rfl aD ?_) | (refine zb7 rfl rfl ?_) | (refine zbh rfl rfl (fun h => ?_) (fun h => ?_) <;> (have h' := h; (try simp only [sx] at h')))) | (refine zbd ?_; first | (refine za0 true (kW) rfl rfl rfl aS rfl aH ?_; simp only [cl]) | (refine za9 aA rfl ?_) | (refine zbc aA rfl rfl ?_) | (refine zba aA rfl ?_) | (refine zbb aA (evO_ok rfl) ?_)) | (refine zcc _ aA rfl ?_) | (refine zb2 aA rfl ?_) | (refine zbo _ _ _ rfl rfl aE (by first | assumption | (exact TAgg.size aA)) rfl rfl rfl aZ rfl aL (by first | (first | (simp only [lx, Nat.reduceAdd]; first | done | rfl) | fail) | rfl) ?_) | (refine zca _ rfl rfl ?_) | (refine zas (hK _ _ (.inl rfl) ?_); clear hK K) | (refine zas (hK _ _ (.inr (by kernel_rfl)) ?_); clear hK K))
      | (refine za3 ?_; first | (refine zbp ?_) | (refine zaj (fun K hK => ?_)) | (refine zan ?_) | (refine za4 ?_) | (refine zbq ?_) | (refine za1 ?_) | (refine zbg ?_; first | (refine zam rfl aD ?_) | (refine zal rfl aD ?_) | (refine zaz rfl (fun h => ?_) (fun h => ?_) <;> (have h' := h; (try simp only [sx] at h')))))
      | (refine za2 ?_) | (refine zai ?_) | (refine zae ?_) | (refine zaq ?_) | (refine zar ?_) | (refine zao ?_) | (refine zap rfl ?_) | (refine zab ?_) | (refine zag ?_) | (refine zbr ?_))
          all_goals first
            | (exfalso; omega)
            | (exfalso; simp at *; omega)
            | (refine zcb () rfl aW trivial (by decide))
    clear kM1 kM2 kE1 kE2 kS1 kS2 kP1 kP2 kI1 kI2 hF hC hn1 hd1 hok
    repeat' (first
      | (refine za5 ?_; first | (refine za6 ?_; refine zat _ rfl ?_) | (refine zad ?_; refine zaa _ rfl ?_) | (refine zbv ?_; first | (refine zby rfl rfl aO ?_) | (refine zci rfl rfl aO ?_) | (refine x_quo rfl rfl aO ?_) | (refine zcp rfl rfl aO ?_) | (refine zco rfl rfl aO ?_) | (refine zcm rfl rfl aO ?_) | (refine zbu _ rfl rfl rfl ?_) | (refine zbt aA rfl rfl ?_) | (refine zb6 aA rfl rfl ?_) | (refine zaw _ rfl rfl rfl ?_)) | (refine g_un ?_; first | (refine zce rfl ?_) | (refine zcf rfl aO ?_)) | (refine zbf ?_; first | (refine zac aA rfl ?_) | (refine zah _ aA rfl rfl aE rfl ?_) | (refine zaf _ aA rfl aZ aL ?_) | (refine zak _ aA rfl rfl aE aZ aL ?_)) | (refine zbm ?_; first | (refine zay _ aA rfl aL ?_) | (refine zax _ aA rfl rfl (by simp only [lx, Nat.reduceAdd]; first | done | rfl) ?_)) | (refine zbe ?_; first | (refine zau _ aA rfl rfl aO aA ?_) | (refine zav _ aA rfl rfl rfl rfl aO aO (by first | (rw [Nat.zero_add, Int.toNat_natCast]) | (rw [Nat.zero_add]) | rfl) ?_)) | (refine zbw ?_; first | (refine zbl rfl aD rfl ?_) | (refine zbi rfl aD ?_) | (refine zbj rfl aD ?_) | (refine zbk rfl aD rfl ?_)) | (refine zbs ?_; first | (refine zbx rfl rfl aD ?_) | (refine zb8 rfl rfl aD ?_) | (refine zb7 rfl rfl ?_) | (refine zbh rfl rfl (fun h => ?_) (fun h => ?_) <;> (have h' := h; (try simp only [sx] at h')))) | (refine zbd ?_; first | (refine x_callLP [] (k_DrawBurnChance code hz) rfl rfl (by (repeat' (first | exact trivial | refine ⟨⟨_, rfl, ?_⟩, ?_⟩ | exact .inl ⟨rfl, .inl rfl⟩ | exact .inr ⟨rfl, rfl, rfl, rfl, rfl, fun e he u hu => by (simp only [List.mem_cons, List.not_mem_nil, or_false] at he; subst he; simp only [List.mem_cons, List.not_mem_nil, or_false] at hu; subst hu; rfl)⟩ | exact .inl ⟨rfl, .inr (fun e he => by (simp only [List.mem_cons, List.not_mem_nil, or_false] at he; subst he; rfl))⟩ | fail)); first | done | fail) rfl rfl aS rfl (fun r_ fin_ hP_ => ?_); obtain ⟨x, t, c, ⟨rfl, rfl⟩, hX, ht, hc⟩ := hP_; refine ⟨_, _, _, aH, rfl, ?_⟩; simp only [cl]) | (refine za9 aA rfl ?_) | (refine zbc aA rfl rfl ?_) | (refine zba aA rfl ?_) | (refine zbb aA (evO_ok rfl) ?_)) | (refine zcc _ aA rfl ?_) | (refine zb2 aA rfl ?_) | (refine zbo _ _ _ rfl rfl aE (by first | assumption | (exact TAgg.size aA)) rfl rfl rfl aZ rfl aL (by first | (first | (simp only [lx, Nat.reduceAdd]; first | done | rfl) | fail) | rfl) ?_) | (refine zca _ rfl rfl ?_) | (refine zas (hK _ _ (.inl rfl) ?_); clear hK K) | (refine zas (hK _ _ (.inr (by kernel_rfl)) ?_); clear hK K))
      | (refine za3 ?_; first | (refine zbp ?_) | (refine zaj (fun K hK => ?_)) | (refine zan ?_) | (refine za4 ?_) | (refine zbq ?_) | (refine za1 ?_) | (refine zbg ?_; first | (refine zam rfl aD ?_) | (refine zal rfl aD ?_) | (refine zaz rfl (fun h => ?_) (fun h => ?_) <;> (have h' := h; (try simp only [sx] at h')))))
      | (refine za2 ?_) | (refine zai ?_) | (refine zae ?_) | (refine zaq ?_) | (refine zar ?_) | (refine zao ?_) | (refine zap rfl ?_) | (refine zab ?_) | (refine zag ?_) | (refine zbr ?_))
    have zx := hX.z
    have kB1 := k_iBurnChance x zx t c
    have kB2 := k_sBurnChance x zx t c
    unfold fr3 at kB1 kB2
    generalize (if opB (EcOk x t c) = true then frN (sumE x t c) (wgtE x) else 0) = u1 at *
    generalize (if opB (EcOk x t c) = true then frD (sumE x t c) (wgtE x) else 0) = u2 at *
    generalize opB (EcOk x t c) = u3 at *
    repeat' (first
      | (refine za5 ?_; first | (refine za6 ?_; refine zat _ rfl ?_) | (refine zad ?_; refine zaa _ rfl ?_) | (refine zbv ?_; first | (refine zby rfl rfl aO ?_) | (refine zci rfl rfl aO ?_) | (refine x_quo rfl rfl aO ?_) | (refine zcp rfl rfl aO ?_) | (refine zco rfl rfl aO ?_) | (refine zcm rfl rfl aO ?_) | (refine zbu _ rfl rfl rfl ?_) | (refine zbt aA rfl rfl ?_) | (refine zb6 aA rfl rfl ?_) | (refine zaw _ rfl rfl rfl ?_)) | (refine g_un ?_; first | (refine zce rfl ?_) | (refine zcf rfl aO ?_)) | (refine zbf ?_; first | (refine zac aA rfl ?_) | (refine zah _ aA rfl rfl aE rfl ?_) | (refine zaf _ aA rfl aZ aL ?_) | (refine zak _ aA rfl rfl aE aZ aL ?_)) | (refine zbm ?_; first | (refine zay _ aA rfl aL ?_) | (refine zax _ aA rfl rfl (by simp only [lx, Nat.reduceAdd]; first | done | rfl) ?_)) | (refine zbe ?_; first | (refine zau _ aA rfl rfl aO aA ?_) | (refine zav _ aA rfl rfl rfl rfl aO aO (by first | (rw [Nat.zero_add, Int.toNat_natCast]) | (rw [Nat.zero_add]) | rfl) ?_)) | (refine zbw ?_; first | (refine zbl rfl aD rfl ?_) | (refine zbi rfl aD ?_) | (refine zbj rfl aD ?_) | (refine zbk rfl aD rfl ?_)) | (refine zbs ?_; first | (refine zbx rfl rfl aD ?_) | (refine zb8 rfl rfl aD ?_) | (refine zb7 rfl rfl ?_) | (refine zbh rfl rfl (fun h => ?_) (fun h => ?_) <;> (have h' := h; (try simp only [sx] at h')))) | (refine zbd ?_; first | (refine za0 true (kB1) rfl rfl rfl aS rfl aH ?_; simp only [cl]) | (refine za0 true (kB2) rfl rfl rfl aS rfl aH ?_; simp only [cl]) | (refine za9 aA rfl ?_) | (refine zbc aA rfl rfl ?_) | (refine zba aA rfl ?_) | (refine zbb aA (evO_ok rfl) ?_)) | (refine zcc _ aA rfl ?_) | (refine zb2 aA rfl ?_) | (refine zbo _ _ _ rfl rfl aE (by first | assumption | (exact TAgg.size aA)) rfl rfl rfl aZ rfl aL (by first | (first | (simp only [lx, Nat.reduceAdd]; first | done | rfl) | fail) | rfl) ?_) | (refine zca _ rfl rfl ?_) | (refine zas (hK _ _ (.inl rfl) ?_); clear hK K) | (refine zas (hK _ _ (.inr (by kernel_rfl)) ?_); clear hK K))
      | (refine za3 ?_; first | (refine zbp ?_) | (refine zaj (fun K hK => ?_)) | (refine zan ?_) | (refine za4 ?_) | (refine zbq ?_) | (refine za1 ?_) | (refine zbg ?_; first | (refine zam rfl aD ?_) | (refine zal rfl aD ?_) | (refine zaz rfl (fun h => ?_) (fun h => ?_) <;> (have h' := h; (try simp only [sx] at h')))))
      | (refine za2 ?_) | (refine zai ?_) | (refine zae ?_) | (refine zaq ?_) | (refine zar ?_) | (refine zao ?_) | (refine zap rfl ?_) | (refine zab ?_) | (refine zag ?_) | (refine zbr ?_))
    all_goals first
      | (exfalso; omega)
      | exact zb1 rfl (zbn rfl) (by simp)
end Go.Vs
set_option linter.unusedVariables false
set_option linter.unusedSimpArgs false
namespace Go.Vs
open Go.RowKit Go.Deep
theorem ioMem_nil : ioMem [] = noMem := by funext id; simp [ioMem, noMem]
theorem calls_below {P : Program} {f : FuncId} {args : List PV} {cargs : Array Value} {w : World} {b : Bool} (hC : Con P f args (.bool b)) (ha : Comps (fun _ => none) w (fun b => b < w.heap.size) noMem cargs args) :
    Calls P f cargs w fun e w' => e = .returned (.bool b) ∧ Below w.heap.size w w' := by
  have hM := ioMem_nil
  have hno : ∀ id (r : Row), ioMem [] id ≠ some (some r) := fun id r h => by rw [hM] at h; cases h
  have hW : WRel (fun _ => True) (fun _ => none) w [] (ioMem []) w :=
    ⟨fun _ _ r _ _ _ _ h => absurd h (hno _ r), fun _ r h => absurd h (hno _ r), fun _ r h => absurd h (hno _ r), ⟨rfl, rfl, rfl, Nat.le_refl _, fun _ _ _ => rfl, fun b cur ty fr h => ⟨cur, h, rfl⟩⟩, fun _ _ => trivial⟩
  have hS : (Stab (fun _ => True) (fun _ => none) (ioMem []) w) = (fun b => b < w.heap.size) := by
    funext x
    apply propext
    exact ⟨fun h => h.1, fun h => ⟨h, fun id r z hm => absurd hm (hno _ r), trivial⟩⟩
  refine (((hC false).2 (fun _ => True) w [] (fun _ => none) cargs hW rfl ?_).mono) ?_
  · rw [hS, hM]; exact ha
  · rintro e w' ⟨v, r, fin, rfl, ⟨rfl, rfl⟩, _, _, hr⟩
    obtain ⟨ρ', hr⟩ := hr 0 (by unfold io; omega)
    have hv := rep_bool.1 hr.val
    subst hv
    have hk := hr.rel.keep
    exact ⟨rfl, hk.os, hk.tape, hk.output, hk.size, fun k hk' => hk.block k hk' (fun z h => by cases h)⟩
section
variable {H : Type} {enc : TypeId × Value → H} {P : Program} {w : World} {base : Nat} {spare : Nat → Bool} {held : Bool}
theorem lit_bounds {n : Int} (h : (Lit.int .i64 n).wf = true) : -9223372036854775808 ≤ n ∧ n ≤ 9223372036854775807 := by
  simp only [Lit.wf, Bool.and_eq_true, decide_eq_true_eq] at h
  exact h
theorem cell_lt {a : Addr} {c : Value} (h : w.cell? a = some c) : a.block < w.heap.size := by
  rcases Nat.lt_or_ge a.block w.heap.size with h1 | h1
  · exact h1
  · rw [World.cell?, Array.getElem?_eq_none h1] at h
    cases h
end
end Go.Vs
set_option linter.unusedVariables false
set_option linter.unusedSimpArgs false
namespace Go.Vs
open Go.RowKit Go.Deep
inductive Sh where
  | int
  | str
  | bool
  | byte
  | slice (e : List Sh)
def CellIs : Nat → Sh → PV → Prop
  | 0, _, _ => False
  | d + 1, sh, u => match sh with
    | .int => ∃ n : Int, u = .int .i64 n ∧ -9223372036854775808 ≤ n ∧ n ≤ 9223372036854775807
    | .str => ∃ s, u = .str s ∧ s.size ≤ Go.maxLen
    | .bool => ∃ b, u = .bool b
    | .byte => ∃ n : Int, u = .int .u8 n ∧ 0 ≤ n ∧ n ≤ 255
    | .slice es => ∃ els : List (List PV), u = .list es.length els ∧ els.length ≤ Go.maxLen ∧ ∀ el ∈ els, el.length = es.length ∧ ∀ (j : Nat) sh' u', es[j]? = some sh' → el[j]? = some u' → CellIs d sh' u'
def fieldsOk (P : Program) (ok : TypeId → List Sh → Bool) : List Field → Nat → List Sh → Bool
  | [], _, shs => shs.isEmpty
  | f :: fs, off, shs => Nat.beq f.offset off && (Nat.ble (P.cellsOf f.type) shs.length && (ok f.type (shs.take (P.cellsOf f.type)) && fieldsOk P ok fs (off + P.cellsOf f.type) (shs.drop (P.cellsOf f.type))))
def shOk (P : Program) : Nat → TypeId → List Sh → Bool
  | 0, _, _ => false
  | d + 1, T, shs => match P.underlying T with
    | some (.int .i64) => match shs with | [.int] => true | _ => false
    | some .string => match shs with | [.str] => true | _ => false
    | some .bool => match shs with | [.bool] => true | _ => false
    | some (.int .u8) => match shs with | [.byte] => true | _ => false
    | some (.slice e) => match shs with | [.slice es] => Nat.beq (P.cellsOf e) es.length && (Nat.blt 0 es.length && shOk P d e es) | _ => false
    | some (.struct fs) => Nat.beq (P.cellsOf T) shs.length && fieldsOk P (shOk P d) fs.toList 0 shs
    | _ => false
theorem lit_bytes {n : Int} (h : (Lit.int .u8 n).wf = true) : 0 ≤ n ∧ n ≤ 255 := by
  simp only [Lit.wf, Bool.and_eq_true, decide_eq_true_eq] at h
  exact h
section
variable {H : Type} {enc : TypeId × Value → H} {P : Program} {w : World} {base : Nat} {spare : Nat → Bool} {held : Bool}
def OpenAt (w : World) (d : Nat) (sh : Sh) (oc : Option Value) : Prop := ∃ c u, oc = some c ∧ c.oneCell' = true ∧ CellIs d sh u ∧ ∀ ρ, Rep ρ w (fun b => b < w.heap.size) noMem c u
theorem fields_open {d n : Nat} {cs : List Value} (ih : ∀ T shs fuel cs x, shOk P d T shs = true → DataW.trod enc P w base spare held fuel T cs = some x → cs.length = shs.length ∧ ∀ (j : Nat) sh, shs[j]? = some sh → OpenAt w d sh cs[j]?) :
    ∀ (l : List Field) (off : Nat) (shs : List Sh), fieldsOk P (shOk P d) l off shs = true → (∀ f ∈ l, ∃ x, DataW.trod enc P w base spare held n f.type ((cs.drop f.offset).take (P.cellsOf f.type)) = some x) →
      ∀ (j : Nat) sh, shs[j]? = some sh → OpenAt w d sh cs[off + j]?
  | [], off, shs, h, _, j, sh, hj => by
    cases shs with
    | nil => simp at hj
    | cons a r => cases h
  | f :: fs, off, shs, h, hf, j, sh, hj => by
    simp only [fieldsOk, Bool.and_eq_true] at h
    obtain ⟨h1, h2, h3, h4⟩ := h
    have h1 := Nat.eq_of_beq_eq_true h1
    have h2 := Nat.le_of_ble_eq_true h2
    obtain ⟨x, hx⟩ := hf f List.mem_cons_self
    obtain ⟨g1, g2⟩ := ih _ _ _ _ _ h3 hx
    rcases Nat.lt_or_ge j (P.cellsOf f.type) with hlt | hge
    · have := g2 j sh (by rw [List.getElem?_take, if_pos hlt]; exact hj)
      rw [List.getElem?_take, if_pos hlt, List.getElem?_drop, h1] at this
      exact this
    · have := fields_open ih fs (off + P.cellsOf f.type) _ h4 (fun g hg => hf g (List.mem_cons_of_mem _ hg)) (j - P.cellsOf f.type) sh (by rw [List.getElem?_drop]; rw [show P.cellsOf f.type + (j - P.cellsOf f.type) = j by omega]; exact hj)
      rw [show off + P.cellsOf f.type + (j - P.cellsOf f.type) = off + j by omega] at this
      exact this
theorem open_cells : ∀ (d : Nat) (T : TypeId) (shs : List Sh) (fuel : Nat) (cs : List Value) (x : DataW H × List MemPlace), shOk P d T shs = true → DataW.trod enc P w base spare held fuel T cs = some x →
    cs.length = shs.length ∧ ∀ (j : Nat) sh, shs[j]? = some sh → OpenAt w d sh cs[j]?
  | 0, _, _, _, _, _, h, _ => by cases h
  | d + 1, T, shs, fuel, cs, x, h, hx => by
    have ih := fun T shs fuel cs x => open_cells d T shs fuel cs x
    have single : ∀ {sh : Sh} {c : Value} {u : PV}, c.oneCell' = true → CellIs (d + 1) sh u → (∀ ρ, Rep ρ w (fun b => b < w.heap.size) noMem c u) → [c].length = [sh].length ∧ ∀ (j : Nat) sh', [sh][j]? = some sh' → OpenAt w (d + 1) sh' [c][j]? := by
      intro sh c u h1 h2 h3
      refine ⟨rfl, fun j sh' hj => ?_⟩
      cases j with
      | zero => simp at hj; subst hj; exact ⟨c, u, rfl, h1, h2, h3⟩
      | succ j => simp at hj
    simp only [shOk] at h
    split at h
    · rename_i hu
      split at h
      · obtain ⟨n, rfl, _, hwf⟩ := DataW.trod_int hu hx
        exact single (u := .int .i64 n) rfl ⟨n, rfl, lit_bounds hwf⟩ fun ρ => rep_int.2 rfl
      · cases h
    · rename_i hu
      split at h
      · obtain ⟨s, rfl, _, hs⟩ := DataW.trod_string hu hx
        exact single (u := .str s) rfl ⟨s, rfl, hs⟩ fun ρ => rep_str.2 rfl
      · cases h
    · rename_i hu
      split at h
      · obtain ⟨b, rfl, _⟩ := DataW.trod_bool hu hx
        exact single (u := .bool b) rfl ⟨b, rfl⟩ fun ρ => rep_bool.2 rfl
      · cases h
    · rename_i hu
      split at h
      · obtain ⟨n, rfl, _, hwf⟩ := DataW.trod_int hu hx
        exact single (u := .int .u8 n) rfl ⟨n, rfl, lit_bytes hwf⟩ fun ρ => rep_int.2 rfl
      · cases h
    · rename_i e hu
      split at h
      · rename_i es
        simp only [Bool.and_eq_true] at h
        obtain ⟨h1, h2, h3⟩ := h
        have h1 := Nat.eq_of_beq_eq_true h1
        have h2 : 0 < es.length := by simpa using h2
        rcases open_slice hu hx with ⟨rfl, _⟩ | ⟨a, len, cap, m, n, D, Pl, rfl, hb, hl, hm, hmm, _, hi⟩
        · exact single (u := .list es.length []) rfl ⟨[], rfl, by simp, fun el hel => by simp at hel⟩ fun ρ => rep_list.2 ⟨none, 0, rfl, Nat.le_refl _, fun h => absurd rfl h⟩
        · have hlm : len ≤ m := by rw [hmm]; split <;> omega
          have key : ∀ i, i < len → ∃ el : List PV, el.length = es.length ∧ ∀ (j : Nat) u, el[j]? = some u → ∃ c, w.cell? (a.add (i * es.length + j)) = some c ∧ c.oneCell' = true ∧ (∀ sh', es[j]? = some sh' → CellIs d sh' u) ∧
              ∀ ρ, Rep ρ w (fun b => b < w.heap.size) noMem c u := by
            intro i hil
            obtain ⟨cs', hc, ht'⟩ := hi i (by omega)
            obtain ⟨g1, g2⟩ := ih _ _ _ _ _ h3 ht'
            rw [h1] at hc
            obtain ⟨_, hcl, hat⟩ := World.cells?_some hc
            classical
            refine ⟨(List.range es.length).map fun j => if hj : j < es.length then Classical.choose (Classical.choose_spec (g2 j es[j] (List.getElem?_eq_getElem hj))) else .any, by simp, fun j u hu => ?_⟩
            have hj : j < es.length := by
              have := (List.getElem?_eq_some_iff.1 hu).1
              simpa using this
            rw [List.getElem?_map, List.getElem?_range hj] at hu
            simp only [Option.map_some, Option.some.injEq, dif_pos hj] at hu
            have hsp := Classical.choose_spec (Classical.choose_spec (g2 j es[j] (List.getElem?_eq_getElem hj)))
            rw [hu] at hsp
            refine ⟨_, ?_, hsp.2.1, fun sh' hs' => ?_, hsp.2.2.2⟩
            · rw [← Go.Deep.add_add, hat j (by omega)]
              exact hsp.1
            · rw [List.getElem?_eq_getElem hj] at hs'
              injection hs' with hs'
              rw [← hs']
              exact hsp.2.2.1
          have hall : ∃ els : List (List PV), els.length = len ∧ ∀ i el, els[i]? = some el → el.length = es.length ∧ ∀ (j : Nat) u, el[j]? = some u → ∃ c, w.cell? (a.add (i * es.length + j)) = some c ∧ c.oneCell' = true ∧ (∀ sh', es[j]? = some sh' → CellIs d sh' u) ∧
              ∀ ρ, Rep ρ w (fun b => b < w.heap.size) noMem c u := by
            classical
            refine ⟨(List.range len).map fun i => if h : i < len then Classical.choose (key i h) else [], by simp, fun i r hr => ?_⟩
            have hi' : i < len := by
              have := (List.getElem?_eq_some_iff.1 hr).1
              simpa using this
            rw [List.getElem?_map, List.getElem?_range hi'] at hr
            simp only [Option.map_some, Option.some.injEq, dif_pos hi'] at hr
            subst hr
            exact Classical.choose_spec (key i hi')
          obtain ⟨els, hlen, hels⟩ := hall
          refine single (u := .list es.length els) rfl ⟨els, rfl, by omega, fun el hel => ?_⟩ fun ρ => rep_list.2 ⟨some a, cap, by rw [hlen], by omega, fun hne => ⟨a, rfl, ?_, fun i el hi => ⟨(hels i el hi).1, fun j u hu => ?_⟩⟩⟩
          · obtain ⟨i, hi⟩ := List.getElem?_of_mem hel
            refine ⟨(hels i el hi).1, fun j sh' u' hs hu => ?_⟩
            obtain ⟨c, _, _, h5, _⟩ := (hels i el hi).2 j u' hu
            exact h5 sh' hs
          · obtain ⟨el, hel⟩ : ∃ el, els[0]? = some el := by
              cases els with
              | nil => exact absurd rfl hne
              | cons r _ => exact ⟨r, rfl⟩
            obtain ⟨g1, g2⟩ := hels 0 el hel
            obtain ⟨c, k1, _⟩ := g2 0 (el[0]'(by omega)) (List.getElem?_eq_getElem (by omega))
            have h3 := cell_lt k1
            have h4 : (a.add (0 * es.length + 0)).block = a.block := by simp only [Addr.add]; split <;> rfl
            rw [h4] at h3
            exact h3
          · obtain ⟨c, k1, k2, _, k4⟩ := (hels i el hi).2 j u hu
            refine ⟨c, ?_, k2, k4 ρ⟩
            rw [Go.Deep.add_add]
            exact k1
      · cases h
    · rename_i fs hu
      rw [Bool.and_eq_true] at h
      obtain ⟨ys, n, _, _, hlen, hyl, hf⟩ := DataW.trod_struct hu hx
      have hc := Nat.eq_of_beq_eq_true h.1
      refine ⟨by rw [hlen, hc], fun j sh hj => ?_⟩
      have := fields_open (cs := cs) (n := n) ih fs.toList 0 shs h.2 (fun f hfm => ?_) j sh hj
      · rw [Nat.zero_add] at this
        obtain ⟨c, u, k1, k2, k3, k4⟩ := this
        refine ⟨c, u, k1, k2, ?_, k4⟩
        have mono : ∀ (d : Nat) (sh : Sh) (u : PV), CellIs d sh u → CellIs (d + 1) sh u := by
          intro d
          induction d with
          | zero => intro sh u h; exact h.elim
          | succ d ihd =>
            intro sh u h
            cases sh with
            | int => exact h
            | str => exact h
            | bool => exact h
            | byte => exact h
            | slice es =>
              obtain ⟨els, h1, h2, h3⟩ := h
              exact ⟨els, h1, h2, fun el hel => ⟨(h3 el hel).1, fun j sh' u' hs hu => ihd _ _ ((h3 el hel).2 j sh' u' hs hu)⟩⟩
        exact mono d sh u k3
      · obtain ⟨i, hi⟩ := List.getElem?_of_mem hfm
        rw [Array.getElem?_toList] at hi
        have hil : i < ys.length := by rw [hyl]; exact (Array.getElem?_eq_some_iff.1 hi).1
        exact ⟨ys[i], by rw [hf i f hi, List.getElem?_eq_getElem hil]⟩
    · cases h
theorem open_all {d : Nat} {T : TypeId} {shs : List Sh} {fuel : Nat} {cs : List Value} {x : DataW H × List MemPlace} (h : shOk P d T shs = true) (hx : DataW.trod enc P w base spare held fuel T cs = some x) :
    ∃ us : List PV, us.length = shs.length ∧ (∀ (j : Nat) sh u, shs[j]? = some sh → us[j]? = some u → CellIs d sh u) ∧ ∀ ρ, Comps ρ w (fun b => b < w.heap.size) noMem cs.toArray us := by
  obtain ⟨h1, h2⟩ := open_cells d T shs fuel cs x h hx
  classical
  refine ⟨(List.range shs.length).map fun j => if hj : j < shs.length then Classical.choose (Classical.choose_spec (h2 j shs[j] (List.getElem?_eq_getElem hj))) else .any, by simp, fun j sh u hs hu => ?_, fun ρ => ⟨by simp [h1], fun j u hu => ?_⟩⟩
  · have hj : j < shs.length := (List.getElem?_eq_some_iff.1 hs).1
    rw [List.getElem?_map, List.getElem?_range hj] at hu
    simp only [Option.map_some, Option.some.injEq, dif_pos hj] at hu
    have hsp := Classical.choose_spec (Classical.choose_spec (h2 j shs[j] (List.getElem?_eq_getElem hj)))
    rw [hu] at hsp
    rw [List.getElem?_eq_getElem hj] at hs
    injection hs with hs
    rw [← hs]
    exact hsp.2.2.1
  · have hj : j < shs.length := by
      have := (List.getElem?_eq_some_iff.1 hu).1
      simpa using this
    rw [List.getElem?_map, List.getElem?_range hj] at hu
    simp only [Option.map_some, Option.some.injEq, dif_pos hj] at hu
    have hsp := Classical.choose_spec (Classical.choose_spec (h2 j shs[j] (List.getElem?_eq_getElem hj)))
    rw [hu] at hsp
    refine ⟨_, ?_, hsp.2.2.2 ρ⟩
    rw [List.getElem?_toArray]
    exact hsp.1
end
theorem cell_byte {d : Nat} {u : PV} (h : CellIs (d + 1) .byte u) : ∃ n : Int, u = .int .u8 n ∧ 0 ≤ n ∧ n ≤ 255 := h
theorem cell_list {α : Type} {d : Nat} {es : List Sh} {u : PV} (f : α → List PV) (h : CellIs (d + 1) (.slice es) u)
    (hf : ∀ el : List PV, el.length = es.length → (∀ (j : Nat) sh' u', es[j]? = some sh' → el[j]? = some u' → CellIs d sh' u') → ∃ a, el = f a) : ∃ xs : List α, u = .list es.length (xs.map f) ∧ xs.length ≤ Go.maxLen := by
  obtain ⟨els, rfl, h2, h3⟩ := h
  have : ∃ xs : List α, els = xs.map f := by
    clear h2
    induction els with
    | nil => exact ⟨[], rfl⟩
    | cons el r ih =>
      obtain ⟨xs, hx⟩ := ih fun el' hel => h3 el' (List.mem_cons_of_mem _ hel)
      obtain ⟨a, ha⟩ := hf el (h3 el List.mem_cons_self).1 (h3 el List.mem_cons_self).2
      exact ⟨a :: xs, by rw [List.map_cons, ← hx, ← ha]⟩
  obtain ⟨xs, rfl⟩ := this
  exact ⟨xs, rfl, by simpa using h2⟩
end Go.Vs
set_option linter.unusedVariables false
set_option linter.unusedSimpArgs false
namespace Go.Proofs.Ytgpnbhnndhakhaa.FnEnsemblesDone
open Go.ChangeShapes Go.WideShapes Go.ChangeAt Go.RowKit
open Go.Vs
theorem own : ownKnob Try.prog.godebug = none := by kernel_rfl
theorem laidOut : laidOutB Try.prog = true := by kernel_rfl
theorem one_cell {d : Nat} {sh : Sh} {us : List PV} (hl : us.length = 1) (h : ∀ (j : Nat) sh' u, [sh][j]? = some sh' → us[j]? = some u → CellIs d sh' u) : ∃ u, us = [u] ∧ CellIs d sh u := by
  match us, hl with
  | [u], _ => exact ⟨u, rfl, h 0 sh u rfl rfl⟩
set_option maxRecDepth 100000 in
theorem lifted (os : Os) (started : os.Started) (H : Type) (enc : TypeId × Value → H) :
    ReturnsInHanded {} Try.checked os 6 .any (Rows.fnEnsemblesSpec.pre6 enc Try.prog Try.f6 Rows.fnEnsemblesRow.domain false) (Rows.fnEnsemblesSpec.post enc Try.prog Try.f6 false true false false) := by
  refine returnsInHanded_of_change (C := Try.checked) own started (by kernel_rfl) Try.func6
    (ChangeSpec.witness6 (enc := enc) (C := Try.checked) false ⟨#[], #[.slice none 0 0], []⟩ 8 (by kernel_rfl) (by kernel_rfl) (by kernel_rfl) (by kernel_rfl)) ?_
  intro W base args ds gs before hval0 hW hcnd _
  have hval : ∀ (j : Nat) t v, Try.f6.params[j]? = some t → args[j]? = some v → Value.okWide Try.prog W .any base t v := hval0
  have hW' := hW
  obtain ⟨p, q, hA0, hV, rfl, hfz, hnd⟩ := hW
  have hA : DataW.TrodAll enc Try.prog W 0 (fun _ => true) true Try.f6.params.toList args.toList ds p := hA0
  rw [Try.params6] at hA hval
  obtain ⟨v0, vs0, d0, ds0, p0, q0, hargs, rfl, rfl, h0, r0⟩ := trodAll_cons hA
  obtain ⟨rfl, rfl, rfl⟩ := trodAll_nil r0
  obtain rfl : args = #[v0] := by cases args; simp_all
  obtain ⟨rfl, rfl⟩ := trodVars_none hV
  obtain ⟨a0, len0, cap0, rfl⟩ := okWide_slice Try.underlying22 (hval 0 22 v0 rfl rfl)
  have k0 := h0
  have lt0 : ∀ x ∈ p0, x.block < W.heap.size := by obtain ⟨m, hm⟩ := k0; exact DataW.trod_lt m _ _ _ hm
  obtain ⟨us0, ul0, uc0, ur0⟩ : ∃ us : List PV, us.length = ([.slice [.byte]] : List Sh).length ∧ (∀ (j : Nat) sh u, ([.slice [.byte]] : List Sh)[j]? = some sh → us[j]? = some u → CellIs 4 sh u) ∧ ∀ ρ, Comps ρ W (fun b => b < W.heap.size) noMem #[.slice a0 len0 cap0] us := by
    obtain ⟨fuel, hf⟩ := h0
    exact open_all (d := 4) (T := 22) (by kernel_rfl) (by simpa [Value.cells] using hf)
  obtain ⟨u0, rfl, c0⟩ := one_cell ul0 uc0
  obtain ⟨code', rfl, b0⟩ := cell_list (fun b : {b : Int // 0 ≤ b ∧ b ≤ 255} => [PV.int .u8 b.1]) c0 (fun el hl h => by match el, hl with | [u], _ => obtain ⟨m, rfl, hm⟩ := cell_byte (h 0 _ _ rfl rfl); exact ⟨⟨m, hm⟩, rfl⟩)
  obtain ⟨code, e0, l0, b0'⟩ : ∃ code : List Int, code'.map (fun b : {b : Int // 0 ≤ b ∧ b ≤ 255} => [PV.int .u8 b.1]) = bytesP code ∧ code.length = code'.length ∧ ∀ b ∈ code, 0 ≤ b ∧ b ≤ 255 := ⟨code'.map (·.1), by simp [bytesP, Function.comp_def], by simp, fun a ha => by obtain ⟨q, _, rfl⟩ := List.mem_map.1 ha; exact q.2⟩
  rw [e0] at ur0
  rw [← l0] at b0
  clear hA0 hval0
  have hcomp : Comps (fun _ => none) W (fun b => b < W.heap.size) noMem #[.slice a0 len0 cap0] [.list 1 (bytesP code)] := by
    refine ⟨rfl, fun j u hu => ?_⟩
    match j, hu with
    | 0, hu =>
      simp only [List.getElem?_cons_zero, Option.some.injEq] at hu
      subst hu
      obtain ⟨c, hc, hr⟩ := (ur0 (fun _ => none)).2 0 _ rfl
      simp only [List.getElem?_toArray, List.getElem?_cons_zero, Option.some.injEq] at hc
      subst hc
      exact ⟨_, rfl, hr⟩
  refine (calls_below (law_FnEnsembles code (by simpa [Go.maxLen] using b0) b0') hcomp).mono fun e W' ⟨he, bel⟩ => ?_
  subst he
  exact ⟨_, rfl, _, _, _, [], _, [], hW', trodAll_mk1 (shut_bool Try.underlying4 _), (trodAll_cons_mk (Below.trod laidOut (by kernel_rfl) (of_decide_eq_true (by kernel_rfl)) k0 bel lt0) trodAll_mk0), rfl, bel.frame _, fun h => by cases h⟩
theorem over : Rows.fnEnsemblesRow.holds Try.pinned (OpenSpec.ofChange Rows.fnEnsemblesSpec) :=
  OpenClaim.holds_of_wide 6 Try.f6 rfl rfl rfl rfl rfl rfl rfl ⟨rfl, rfl, rfl, rfl, rfl⟩ rfl rfl rfl rfl rfl (by kernel_rfl) Try.func6 (by kernel_rfl)
    (of_decide_eq_true (by kernel_rfl)) (by unfold Func.isWrapper; first | (rw [if_pos (by decide +kernel)]; kernel_rfl) | (rw [if_neg (by decide +kernel)]; exact ⟨rfl, rfl⟩))
    (fun os started H enc _ => lifted os started H enc)
theorem proved : Rows.FnEnsemblesSaid := over
end Go.Proofs.Ytgpnbhnndhakhaa.FnEnsemblesDone
