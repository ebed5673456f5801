/- PROVED: the given statement FnScenarios: whatever the arguments, the law returns true and the arguments read as they did; no condition. -/
import Derived.Test.YtgpnbhnndhakhaaSbf
import Derived.WalkKit
import Derived.Orders
import Derived.Laws.MakeOwn
import Derived.Laws.BytesString
import Derived.KernelRfl
import Derived.Test.YtgpnbhnndhakhaaRows
import Derived.Laws.Strings
import Derived.Below
import Derived.ChangeArms
import Derived.Deep.Slices
import Derived.ProofKit
import Derived.OpenShut
import Derived.ShutString
import Derived.ChangeOld
set_option linter.unusedVariables false
set_option linter.unusedSimpArgs false
set_option maxRecDepth 100000
set_option maxHeartbeats 4000000
namespace Go.Vs
open Go.Proofs
attribute [local irreducible] exec vwp thenQ blkQ loopQ RetPost
noncomputable section
noncomputable def exR (b : Bool) (e : Ens) : List Int := if opB (GoodEn e) = true then exL b e e.L.length else []
theorem exR_t {b : Bool} {e : Ens} (h : GoodEn e) : exR b e = exL b e e.L.length := by unfold exR; rw [opB_t h, if_pos rfl]
theorem exR_f {b : Bool} {e : Ens} (h : ¬ GoodEn e) : exR b e = [] := by unfold exR; rw [opB_f h, if_neg (by simp)]
theorem exR_len (b : Bool) (e : Ens) : (exR b e).length ≤ e.t.burn.length := by
  unfold exR
  split
  · rw [exL_len]; exact Nat.le_refl _
  · simp
theorem k_iArrS (e : Ens) (h : GoodEn e) (z : SzE e) {s : Scen} (hs : s ∈ e.L) : Con Try.prog 61 [.agg e.t.pv, .list 2 (s.phases.map Phase.pv), .list 1 (ints e.src), .int .i64 e.st] (.list 1 (ints (arr (e.bz s)))) := by
  have hs3 := z.hs
  exact (k_arrivals (e.bz s) (h.b hs) (by show e.src.length ≤ _; omega)).frzF (ints_flat _)
theorem k_sArrS (e : Ens) (h : GoodEn e) (z : SzE e) {s : Scen} (hs : s ∈ e.L) : Con Try.prog 63 [.agg e.t.pv, .list 2 (s.phases.map Phase.pv), .list 1 (ints e.src), .int .i64 e.st] (.olist 3 1 (ints (arr (e.bz s)))) := by
  have hs3 := z.hs
  exact k_l4Arrivals (e.bz s) (h.b hs) (by show e.src.length ≤ _; omega)
theorem k_extremes (e : Ens) (z : SzE e) (hE : GoodEn e) (b : Bool) (g : FuncId) (hg : ∀ u v : Int, Con Try.prog g [.int .i64 u, .int .i64 v] (.bool (if b = true then decide (u < v) else decide (u > v)))) :
    Con Try.prog 95 [.agg e.t.pv, .list 2 (e.L.map Scen.pv), .list 1 (ints e.src), .int .i64 e.st, .fn g [] []] (.olist 3 1 (ints (exL b e e.L.length))) := by
  intro al
  refine za6 hmix Try.func95 rfl (by kernel_rfl) (by kernel_rfl) (Nat.le_of_ble_eq_true rfl) (fun row h => by cases h) ?_
  have hty_f26_2 := ty_f26_2
  have hty_c24 := ty_c24
  have hty_u24 := ty_u24
  have hty_s24 := ty_s24
  have hty_z3 := ty_z3
  have hty_t3 := ty_t3
  have hty_u51 := ty_u51
  have hty_s51 := ty_s51
  have hty_a56 := ty_a56
  have hty_z56 := ty_z56
  have hty_t56 := ty_t56
  have hty_a26 := ty_a26
  have hty_f56_0 := ty_f56_0
  have hty_c27 := ty_c27
  have hty_u27 := ty_u27
  have hty_s27 := ty_s27
  have hty_c3 := ty_c3
  have hl1 : (e.L.map Scen.pv).length = e.L.length := by simp
  have hl2 : (ints e.t.burn).length = e.t.burn.length := by simp
  have hlen := goodT_len hE.1.1
  have hl4 := hE.2.1.2
  repeat' (first
      | (refine za1 ?_; first | (refine za5 ?_; refine zat _ rfl ?_) | (refine zae ?_; refine zaa _ rfl ?_) | (refine zbv ?_; first | (refine zbz rfl rfl aO ?_) | (refine zbu _ rfl rfl rfl ?_) | (refine zbt aA rfl rfl ?_) | (refine zb0 aA rfl rfl ?_) | (refine zaw _ rfl rfl rfl ?_)) | (refine zbk ?_; first | (refine zaj aA rfl ?_) | (refine zak _ aA rfl rfl aE rfl ?_) | (refine zah _ aA rfl aZ aL ?_) | (refine zai _ aA rfl rfl aE aZ aL ?_)) | (refine zbm ?_; first | (refine zax _ aA rfl aL ?_) | (refine zay _ aA rfl rfl (by simp only [lx, Nat.reduceAdd]; first | done | rfl) ?_)) | (refine zbd ?_; first | (refine zau _ aA rfl rfl aO aA ?_) | (refine zav _ aA rfl rfl rfl rfl aO aO (by first | (rw [Nat.zero_add, Int.toNat_natCast]) | (rw [Nat.zero_add]) | rfl) ?_)) | (refine zbx ?_; first | (refine zbf rfl aD rfl ?_) | (refine zbh rfl aD ?_) | (refine zbi rfl aD ?_) | (refine zbg rfl aD rfl ?_)) | (refine zbp ?_; first | (refine zbw rfl rfl aD ?_) | (refine zb4 rfl rfl aD ?_) | (refine zb5 rfl rfl ?_) | (refine zbj rfl rfl (fun h => ?_) (fun h => ?_) <;> (have h' := h; (try simp only [sx] at h')))) | (refine za7 ?_; first | (refine zba aA rfl ?_) | (refine zbb aA rfl rfl ?_) | (refine zbc aA rfl ?_) | (refine za9 aA (evO_ok rfl) ?_)) | (refine zby _ _ rfl rfl rfl rfl ?_) | (refine zca _ aA rfl ?_) | (refine zb2 aA rfl ?_) | (refine zbn _ _ _ rfl rfl aE (by first | assumption | (exact TAgg.size aA)) rfl rfl rfl aZ rfl aL (by first | (first | (simp only [lx, Nat.reduceAdd]; first | done | rfl) | fail) | rfl) ?_) | (refine zcj aA aA rfl rfl rfl aO rfl ?_) | (refine zas (hK _ _ (.inl rfl) ?_); clear hK K) | (refine zas (hK _ _ (.inr (by kernel_rfl)) ?_); clear hK K))
      | (refine za4 ?_; first | (refine zbq ?_) | (refine zad (fun K hK => ?_)) | (refine zao ?_) | (refine za2 ?_) | (refine zbr ?_) | (refine za3 ?_) | (refine zbl ?_; first | (refine zam rfl aD ?_) | (refine zal rfl aD ?_) | (refine zaz rfl (fun h => ?_) (fun h => ?_) <;> (have h' := h; (try simp only [sx] at h')))))
      | (refine za0 ?_) | (refine zab ?_) | (refine zac ?_) | (refine zar ?_) | (refine zap ?_) | (refine zaq ?_) | (refine zan rfl ?_) | (refine zaf ?_) | (refine zag ?_) | (refine zbs ?_))
  all_goals try (exfalso; omega)
  refine zcf [1, 2, 3, 4, 5, 22] [] (fun q : Nat × List (List PV) => [(11, .osl (1001, 0) 0 (ints e.t.burn).length), (23, .int .i64 q.1)]) (fun q : Nat × List (List PV) => [((1001, 0), some ⟨3, 1, q.2, false⟩)]) (fun q : Nat × List (List PV) => q.1 ≤ e.t.burn.length ∧ q.2.length = e.t.burn.length ∧ (∀ j, j < q.1 → q.2[j]? = some [PV.int .i64 (-1)]) ∧ ∀ u ∈ q.2, u.length = 1) (fun q : Nat × List (List PV) => e.t.burn.length - q.1) ((0, List.replicate (ints e.t.burn).length [.int .i64 0])) rfl rfl (fun _ => rfl) (fun _ => rfl) rfl aW ⟨by simp, by simp, fun j hj => by simp at hj, fun u hu => by rw [List.eq_of_mem_replicate hu]; rfl⟩ (fun q hq => ?_)
  obtain ⟨i, es⟩ := q
  obtain ⟨hi1, hi2, hi3, hi4⟩ := hq
  simp only at hi1 hi2 hi3 hi4
  dsimp only
  rcases Nat.lt_or_ge i e.t.burn.length with hlt | hge
  · obtain ⟨u, hu⟩ := get_ex (show i < es.length by omega)
    obtain ⟨u0, rfl⟩ : ∃ u0, u = [u0] := by
      have := hi4 u (get_mem hu)
      match u, this with
      | [a], _ => exact ⟨a, rfl⟩
    repeat' (first
      | (refine za1 ?_; first | (refine za5 ?_; refine zat _ rfl ?_) | (refine zae ?_; refine zaa _ rfl ?_) | (refine zbv ?_; first | (refine zbz rfl rfl aO ?_) | (refine zbu _ rfl rfl rfl ?_) | (refine zbt aA rfl rfl ?_) | (refine zb0 aA rfl rfl ?_) | (refine zaw _ rfl rfl rfl ?_)) | (refine zbk ?_; first | (refine zaj aA rfl ?_) | (refine zak _ aA rfl rfl aE rfl ?_) | (refine zah _ aA rfl aZ aL ?_) | (refine zai _ aA rfl rfl aE aZ aL ?_)) | (refine zbm ?_; first | (refine zax _ aA rfl aL ?_) | (refine zay _ aA rfl rfl (by simp only [lx, Nat.reduceAdd]; first | done | rfl) ?_)) | (refine zbd ?_; first | (refine zau _ aA rfl rfl aO aA ?_) | (refine zav _ aA rfl rfl rfl rfl aO aO (by first | (rw [Nat.zero_add, Int.toNat_natCast]) | (rw [Nat.zero_add]) | rfl) ?_)) | (refine zbx ?_; first | (refine zbf rfl aD rfl ?_) | (refine zbh rfl aD ?_) | (refine zbi rfl aD ?_) | (refine zbg rfl aD rfl ?_)) | (refine zbp ?_; first | (refine zbw rfl rfl aD ?_) | (refine zb4 rfl rfl aD ?_) | (refine zb5 rfl rfl ?_) | (refine zbj rfl rfl (fun h => ?_) (fun h => ?_) <;> (have h' := h; (try simp only [sx] at h')))) | (refine za7 ?_; first | (refine zba aA rfl ?_) | (refine zbb aA rfl rfl ?_) | (refine zbc aA rfl ?_) | (refine za9 aA (evO_ok rfl) ?_)) | (refine zby _ _ rfl rfl rfl rfl ?_) | (refine zca _ aA rfl ?_) | (refine zb2 aA rfl ?_) | (refine zbn _ _ _ rfl rfl aE (by first | assumption | (exact TAgg.size aA)) rfl rfl rfl aZ rfl aL (by first | (first | (simp only [lx, Nat.reduceAdd]; first | done | rfl) | fail) | rfl) ?_) | (refine zcj aA aA rfl rfl rfl aO rfl ?_) | (refine zas (hK _ _ (.inl rfl) ?_); clear hK K) | (refine zas (hK _ _ (.inr (by kernel_rfl)) ?_); clear hK K))
      | (refine za4 ?_; first | (refine zbq ?_) | (refine zad (fun K hK => ?_)) | (refine zao ?_) | (refine za2 ?_) | (refine zbr ?_) | (refine za3 ?_) | (refine zbl ?_; first | (refine zam rfl aD ?_) | (refine zal rfl aD ?_) | (refine zaz rfl (fun h => ?_) (fun h => ?_) <;> (have h' := h; (try simp only [sx] at h')))))
      | (refine za0 ?_) | (refine zab ?_) | (refine zac ?_) | (refine zar ?_) | (refine zap ?_) | (refine zaq ?_) | (refine zan rfl ?_) | (refine zaf ?_) | (refine zag ?_) | (refine zbs ?_))
    all_goals try (exfalso; omega)
    all_goals (refine zb9 (i + 1, es.set i [.int .i64 (-1)]) rfl aW ⟨by simp only; omega, by simp [hi2], fun j hj => ?_, fun v hv => ?_⟩ (by simp only; omega))
    all_goals first
      | (simp only at hj ⊢
         by_cases hji : j = i
         · subst hji
           rw [List.getElem?_set_self aO]
         · rw [List.getElem?_set_ne (fun e => hji e.symm)]
           exact hi3 j aO)
      | (rcases List.mem_or_eq_of_mem_set hv with h1 | h1
         · exact hi4 v h1
         · rw [h1]; rfl)
  have hes : es = ints (exL b e 0) := List.ext_getElem? fun j => by
    rcases Nat.lt_or_ge j e.t.burn.length with hj | hj
    · rw [hi3 j aO]
      simp [ints, exL, hj, exF]
    · rw [List.getElem?_eq_none aO, List.getElem?_eq_none (by rw [ints_len, exL_len]; omega)]
  subst hes
  repeat' (first
      | (refine za1 ?_; first | (refine za5 ?_; refine zat _ rfl ?_) | (refine zae ?_; refine zaa _ rfl ?_) | (refine zbv ?_; first | (refine zbz rfl rfl aO ?_) | (refine zbu _ rfl rfl rfl ?_) | (refine zbt aA rfl rfl ?_) | (refine zb0 aA rfl rfl ?_) | (refine zaw _ rfl rfl rfl ?_)) | (refine zbk ?_; first | (refine zaj aA rfl ?_) | (refine zak _ aA rfl rfl aE rfl ?_) | (refine zah _ aA rfl aZ aL ?_) | (refine zai _ aA rfl rfl aE aZ aL ?_)) | (refine zbm ?_; first | (refine zax _ aA rfl aL ?_) | (refine zay _ aA rfl rfl (by simp only [lx, Nat.reduceAdd]; first | done | rfl) ?_)) | (refine zbd ?_; first | (refine zau _ aA rfl rfl aO aA ?_) | (refine zav _ aA rfl rfl rfl rfl aO aO (by first | (rw [Nat.zero_add, Int.toNat_natCast]) | (rw [Nat.zero_add]) | rfl) ?_)) | (refine zbx ?_; first | (refine zbf rfl aD rfl ?_) | (refine zbh rfl aD ?_) | (refine zbi rfl aD ?_) | (refine zbg rfl aD rfl ?_)) | (refine zbp ?_; first | (refine zbw rfl rfl aD ?_) | (refine zb4 rfl rfl aD ?_) | (refine zb5 rfl rfl ?_) | (refine zbj rfl rfl (fun h => ?_) (fun h => ?_) <;> (have h' := h; (try simp only [sx] at h')))) | (refine za7 ?_; first | (refine zba aA rfl ?_) | (refine zbb aA rfl rfl ?_) | (refine zbc aA rfl ?_) | (refine za9 aA (evO_ok rfl) ?_)) | (refine zby _ _ rfl rfl rfl rfl ?_) | (refine zca _ aA rfl ?_) | (refine zb2 aA rfl ?_) | (refine zbn _ _ _ rfl rfl aE (by first | assumption | (exact TAgg.size aA)) rfl rfl rfl aZ rfl aL (by first | (first | (simp only [lx, Nat.reduceAdd]; first | done | rfl) | fail) | rfl) ?_) | (refine zcj aA aA rfl rfl rfl aO rfl ?_) | (refine zas (hK _ _ (.inl rfl) ?_); clear hK K) | (refine zas (hK _ _ (.inr (by kernel_rfl)) ?_); clear hK K))
      | (refine za4 ?_; first | (refine zbq ?_) | (refine zad (fun K hK => ?_)) | (refine zao ?_) | (refine za2 ?_) | (refine zbr ?_) | (refine za3 ?_) | (refine zbl ?_; first | (refine zam rfl aD ?_) | (refine zal rfl aD ?_) | (refine zaz rfl (fun h => ?_) (fun h => ?_) <;> (have h' := h; (try simp only [sx] at h')))))
      | (refine za0 ?_) | (refine zab ?_) | (refine zac ?_) | (refine zar ?_) | (refine zap ?_) | (refine zaq ?_) | (refine zan rfl ?_) | (refine zaf ?_) | (refine zag ?_) | (refine zbs ?_))
  all_goals try (exfalso; omega)
  refine zcf [2, 3, 4, 5, 30, 31] [(1001, 0)] (fun q : Nat × List (List PV) => [(11, .osl (1001, 0) 0 (ints e.t.burn).length), (32, .int .i64 q.1)]) (fun q : Nat × List (List PV) => [((1001, 0), some ⟨3, 1, q.2, false⟩)]) (fun q : Nat × List (List PV) => q.1 ≤ e.L.length ∧ q.2 = ints (exL b e q.1)) (fun q : Nat × List (List PV) => e.L.length - q.1) ((0, ints (exL b e 0))) rfl rfl (fun _ => rfl) (fun _ => rfl) rfl aW ⟨by simp, rfl⟩ (fun q hq => ?_)
  obtain ⟨i, fs⟩ := q
  obtain ⟨hi, hfs⟩ := hq
  simp only at hi hfs
  dsimp only
  have hfl : fs.length = e.t.burn.length := by rw [hfs, ints_len, exL_len]
  rcases Nat.lt_or_ge i e.L.length with hlt | hge2
  · obtain ⟨a, hga⟩ := get_ex hlt
    have hx := Scen.at hga
    have ham := get_mem hga
    have kA := k_iArrS e hE z ham
    have hal : (arr (e.bz a)).length = e.t.burn.length := arr_len (hE.b ham)
    have hla : (ints (arr (e.bz a))).length = (arr (e.bz a)).length := by simp
    have hex := fun c => exF_succ b e c hga
    have hnn := fun c hc => tv_nn hE ham (c := c) hc
    generalize hTT : arr (e.bz a) = T at *
    repeat' (first
      | (refine za1 ?_; first | (refine za5 ?_; refine zat _ rfl ?_) | (refine zae ?_; refine zaa _ rfl ?_) | (refine zbv ?_; first | (refine zbz rfl rfl aO ?_) | (refine zbu _ rfl rfl rfl ?_) | (refine zbt aA rfl rfl ?_) | (refine zb0 aA rfl rfl ?_) | (refine zaw _ rfl rfl rfl ?_)) | (refine zbk ?_; first | (refine zaj aA rfl ?_) | (refine zak _ aA rfl rfl aE rfl ?_) | (refine zah _ aA rfl aZ aL ?_) | (refine zai _ aA rfl rfl aE aZ aL ?_)) | (refine zbm ?_; first | (refine zax _ aA rfl aL ?_) | (refine zay _ aA rfl rfl (by simp only [lx, Nat.reduceAdd]; first | done | rfl) ?_)) | (refine zbd ?_; first | (refine zau _ aA rfl rfl aO aA ?_) | (refine zav _ aA rfl rfl rfl rfl aO aO (by first | (rw [Nat.zero_add, Int.toNat_natCast]) | (rw [Nat.zero_add]) | rfl) ?_)) | (refine zbx ?_; first | (refine zbf rfl aD rfl ?_) | (refine zbh rfl aD ?_) | (refine zbi rfl aD ?_) | (refine zbg rfl aD rfl ?_)) | (refine zbp ?_; first | (refine zbw rfl rfl aD ?_) | (refine zb4 rfl rfl aD ?_) | (refine zb5 rfl rfl ?_) | (refine zbj rfl rfl (fun h => ?_) (fun h => ?_) <;> (have h' := h; (try simp only [sx] at h')))) | (refine za7 ?_; first | (refine za8 true (kA) rfl rfl rfl aS rfl aH ?_; simp only [cl]) | (refine zba aA rfl ?_) | (refine zbb aA rfl rfl ?_) | (refine zbc aA rfl ?_) | (refine za9 aA (evO_ok rfl) ?_)) | (refine zby _ _ rfl rfl rfl rfl ?_) | (refine zca _ aA rfl ?_) | (refine zb2 aA rfl ?_) | (refine zbn _ _ _ rfl rfl aE (by first | assumption | (exact TAgg.size aA)) rfl rfl rfl aZ rfl aL (by first | (first | (simp only [lx, Nat.reduceAdd]; first | done | rfl) | fail) | rfl) ?_) | (refine zcj aA aA rfl rfl rfl aO rfl ?_) | (refine zas (hK _ _ (.inl rfl) ?_); clear hK K) | (refine zas (hK _ _ (.inr (by kernel_rfl)) ?_); clear hK K))
      | (refine za4 ?_; first | (refine zbq ?_) | (refine zad (fun K hK => ?_)) | (refine zao ?_) | (refine za2 ?_) | (refine zbr ?_) | (refine za3 ?_) | (refine zbl ?_; first | (refine zam rfl aD ?_) | (refine zal rfl aD ?_) | (refine zaz rfl (fun h => ?_) (fun h => ?_) <;> (have h' := h; (try simp only [sx] at h')))))
      | (refine za0 ?_) | (refine zab ?_) | (refine zac ?_) | (refine zar ?_) | (refine zap ?_) | (refine zaq ?_) | (refine zan rfl ?_) | (refine zaf ?_) | (refine zag ?_) | (refine zbs ?_))
    all_goals try (exfalso; omega)
    refine zcf [2, 3, 4, 5, 30, 31, 32, 41, 42] [(1001, 0)] (fun w : Nat × List (List PV) × List Int => [(11, .osl (1001, 0) 0 (ints e.t.burn).length), (43, .int .i64 w.1)]) (fun w : Nat × List (List PV) × List Int => [((1001, 0), some ⟨3, 1, w.2.1, false⟩)]) (fun w : Nat × List (List PV) × List Int => w.1 ≤ T.length ∧ w.2.1 = ints w.2.2 ∧ w.2.2.length = e.t.burn.length ∧ ∀ c, IsCell e.t c → tv w.2.2 c = if c < (w.1 : Int) then exF b e c (e.L.take (i + 1)) else exF b e c (e.L.take i)) (fun w : Nat × List (List PV) × List Int => T.length - w.1) ((0, fs, exL b e i)) rfl rfl (fun _ => rfl) (fun _ => rfl) rfl aW ⟨by simp, hfs, exL_len b e i, fun c hc => by rw [exL_tv hc, if_neg (by have := hc.1; simp only; omega)]⟩ (fun w hw => ?_)
    obtain ⟨j, gs, U⟩ := w
    obtain ⟨hj, hgs, hU, hu⟩ := hw
    simp only at hj hgs hU hu
    dsimp only
    have hgl : gs.length = e.t.burn.length := by rw [hgs, ints_len, hU]
    rcases Nat.lt_or_ge j T.length with hlt2 | hge3
    · have hjc : IsCell e.t (j : Int) := ⟨by omega, by omega⟩
      have hxT : (ints T)[j]? = some [.int .i64 (tv T (j : Int))] := by have := tv_int (T := T) (c := (j : Int)) (by rw [Int.toNat_natCast]; exact hlt2); rwa [Int.toNat_natCast] at this
      have hxU : gs[j]? = some [.int .i64 (tv U (j : Int))] := by rw [hgs]; have := tv_int (T := U) (c := (j : Int)) (by rw [Int.toNat_natCast]; omega); rwa [Int.toNat_natCast] at this
      have huj := hu j hjc
      rw [if_neg aO] at huj
      have hexj := hex j
      rw [← huj] at hexj
      have kg := hg (tv T (j : Int)) (tv U (j : Int))
      have hstep : ∀ (U2 : List Int), U2.length = e.t.burn.length → tv U2 (j : Int) = exF b e j (e.L.take (i + 1)) → (∀ c, IsCell e.t c → c ≠ j → tv U2 c = tv U c) → ∀ c, IsCell e.t c → tv U2 c = if c < ((j + 1 : Nat) : Int) then exF b e c (e.L.take (i + 1)) else exF b e c (e.L.take i) := fun U2 _ h1 h2 c hc => by
        by_cases he : c = j
        · subst he; rw [h1, if_pos aO]
        · rw [h2 c hc he, hu c hc]
          by_cases h3 : c < (j : Int)
          · rw [if_pos h3, if_pos aO]
          · rw [if_neg h3, if_neg aO]
      unfold exV at hexj
      by_cases hgo : tv T (j : Int) ≠ -1 ∧ (tv U (j : Int) = -1 ∨ (if b = true then tv T (j : Int) < tv U (j : Int) else tv T (j : Int) > tv U (j : Int)))
      · rw [if_pos hgo] at hexj
        obtain ⟨hgo1, hgo2⟩ := hgo
        have hnext := hstep (U.set j (tv T (j : Int))) (by simp [hU]) (by
          have := tv_set2 (T := U) (y := (j : Int)) (tv T (j : Int)) (by rw [Int.toNat_natCast]; omega) (j : Int)
          rw [Int.toNat_natCast, if_pos rfl] at this
          rw [this, hexj]) (fun c hc hne => by
          have := tv_set2 (T := U) (y := (j : Int)) (tv T (j : Int)) (by rw [Int.toNat_natCast]; omega) c
          rw [Int.toNat_natCast, if_neg (by have := hc.1; omega)] at this
          exact this)
        by_cases hU1 : tv U (j : Int) = -1
        · repeat' (first
      | (refine za1 ?_; first | (refine za5 ?_; refine zat _ rfl ?_) | (refine zae ?_; refine zaa _ rfl ?_) | (refine zbv ?_; first | (refine zbz rfl rfl aO ?_) | (refine zbu _ rfl rfl rfl ?_) | (refine zbt aA rfl rfl ?_) | (refine zb0 aA rfl rfl ?_) | (refine zaw _ rfl rfl rfl ?_)) | (refine zbk ?_; first | (refine zaj aA rfl ?_) | (refine zak _ aA rfl rfl aE rfl ?_) | (refine zah _ aA rfl aZ aL ?_) | (refine zai _ aA rfl rfl aE aZ aL ?_)) | (refine zbm ?_; first | (refine zax _ aA rfl aL ?_) | (refine zay _ aA rfl rfl (by simp only [lx, Nat.reduceAdd]; first | done | rfl) ?_)) | (refine zbd ?_; first | (refine zau _ aA rfl rfl aO aA ?_) | (refine zav _ aA rfl rfl rfl rfl aO aO (by first | (rw [Nat.zero_add, Int.toNat_natCast]) | (rw [Nat.zero_add]) | rfl) ?_)) | (refine zbx ?_; first | (refine zbf rfl aD rfl ?_) | (refine zbh rfl aD ?_) | (refine zbi rfl aD ?_) | (refine zbg rfl aD rfl ?_)) | (refine zbp ?_; first | (refine zbw rfl rfl aD ?_) | (refine zb4 rfl rfl aD ?_) | (refine zb5 rfl rfl ?_) | (refine zbj rfl rfl (fun h => ?_) (fun h => ?_) <;> (have h' := h; (try simp only [sx] at h')))) | (refine za7 ?_; first | (refine za8 true (kg) rfl rfl rfl aS rfl aH ?_; simp only [cl]) | (refine x_call [] _ (kg) rfl rfl aS rfl aH ?_; simp only [cl]) | (refine zba aA rfl ?_) | (refine zbb aA rfl rfl ?_) | (refine zbc aA rfl ?_) | (refine za9 aA (evO_ok rfl) ?_)) | (refine zby _ _ rfl rfl rfl rfl ?_) | (refine zca _ aA rfl ?_) | (refine zb2 aA rfl ?_) | (refine zbn _ _ _ rfl rfl aE (by first | assumption | (exact TAgg.size aA)) rfl rfl rfl aZ rfl aL (by first | (first | (simp only [lx, Nat.reduceAdd]; first | done | rfl) | fail) | rfl) ?_) | (refine zcj aA aA rfl rfl rfl aO rfl ?_) | (refine zas (hK _ _ (.inl rfl) ?_); clear hK K) | (refine zas (hK _ _ (.inr (by kernel_rfl)) ?_); clear hK K))
      | (refine za4 ?_; first | (refine zbq ?_) | (refine zad (fun K hK => ?_)) | (refine zao ?_) | (refine za2 ?_) | (refine zbr ?_) | (refine za3 ?_) | (refine zbl ?_; first | (refine zam rfl aD ?_) | (refine zal rfl aD ?_) | (refine zaz rfl (fun h => ?_) (fun h => ?_) <;> (have h' := h; (try simp only [sx] at h')))))
      | (refine za0 ?_) | (refine zab ?_) | (refine zac ?_) | (refine zar ?_) | (refine zap ?_) | (refine zaq ?_) | (refine zan rfl ?_) | (refine zaf ?_) | (refine zag ?_) | (refine zbs ?_))
          all_goals first
            | (exfalso; omega)
            | (refine zb9 (j + 1, gs.set j [.int .i64 (tv T (j : Int))], U.set j (tv T (j : Int))) rfl aW ⟨by simp only; omega, by simp only [ints_set, hgs], by simp [hU], hnext⟩ (by simp only; omega))
        · have hb2 : (if b = true then decide (tv T (j : Int) < tv U (j : Int)) else decide (tv T (j : Int) > tv U (j : Int))) = true := by
            have h3 := hgo2.resolve_left hU1
            cases b
            · simpa using h3
            · simpa using h3
          rw [hb2] at kg
          repeat' (first
      | (refine za1 ?_; first | (refine za5 ?_; refine zat _ rfl ?_) | (refine zae ?_; refine zaa _ rfl ?_) | (refine zbv ?_; first | (refine zbz rfl rfl aO ?_) | (refine zbu _ rfl rfl rfl ?_) | (refine zbt aA rfl rfl ?_) | (refine zb0 aA rfl rfl ?_) | (refine zaw _ rfl rfl rfl ?_)) | (refine zbk ?_; first | (refine zaj aA rfl ?_) | (refine zak _ aA rfl rfl aE rfl ?_) | (refine zah _ aA rfl aZ aL ?_) | (refine zai _ aA rfl rfl aE aZ aL ?_)) | (refine zbm ?_; first | (refine zax _ aA rfl aL ?_) | (refine zay _ aA rfl rfl (by simp only [lx, Nat.reduceAdd]; first | done | rfl) ?_)) | (refine zbd ?_; first | (refine zau _ aA rfl rfl aO aA ?_) | (refine zav _ aA rfl rfl rfl rfl aO aO (by first | (rw [Nat.zero_add, Int.toNat_natCast]) | (rw [Nat.zero_add]) | rfl) ?_)) | (refine zbx ?_; first | (refine zbf rfl aD rfl ?_) | (refine zbh rfl aD ?_) | (refine zbi rfl aD ?_) | (refine zbg rfl aD rfl ?_)) | (refine zbp ?_; first | (refine zbw rfl rfl aD ?_) | (refine zb4 rfl rfl aD ?_) | (refine zb5 rfl rfl ?_) | (refine zbj rfl rfl (fun h => ?_) (fun h => ?_) <;> (have h' := h; (try simp only [sx] at h')))) | (refine za7 ?_; first | (refine za8 true (kg) rfl rfl rfl aS rfl aH ?_; simp only [cl]) | (refine x_call [] _ (kg) rfl rfl aS rfl aH ?_; simp only [cl]) | (refine zba aA rfl ?_) | (refine zbb aA rfl rfl ?_) | (refine zbc aA rfl ?_) | (refine za9 aA (evO_ok rfl) ?_)) | (refine zby _ _ rfl rfl rfl rfl ?_) | (refine zca _ aA rfl ?_) | (refine zb2 aA rfl ?_) | (refine zbn _ _ _ rfl rfl aE (by first | assumption | (exact TAgg.size aA)) rfl rfl rfl aZ rfl aL (by first | (first | (simp only [lx, Nat.reduceAdd]; first | done | rfl) | fail) | rfl) ?_) | (refine zcj aA aA rfl rfl rfl aO rfl ?_) | (refine zas (hK _ _ (.inl rfl) ?_); clear hK K) | (refine zas (hK _ _ (.inr (by kernel_rfl)) ?_); clear hK K))
      | (refine za4 ?_; first | (refine zbq ?_) | (refine zad (fun K hK => ?_)) | (refine zao ?_) | (refine za2 ?_) | (refine zbr ?_) | (refine za3 ?_) | (refine zbl ?_; first | (refine zam rfl aD ?_) | (refine zal rfl aD ?_) | (refine zaz rfl (fun h => ?_) (fun h => ?_) <;> (have h' := h; (try simp only [sx] at h')))))
      | (refine za0 ?_) | (refine zab ?_) | (refine zac ?_) | (refine zar ?_) | (refine zap ?_) | (refine zaq ?_) | (refine zan rfl ?_) | (refine zaf ?_) | (refine zag ?_) | (refine zbs ?_))
          all_goals first
            | (exfalso; omega)
            | (refine zb9 (j + 1, gs.set j [.int .i64 (tv T (j : Int))], U.set j (tv T (j : Int))) rfl aW ⟨by simp only; omega, by simp only [ints_set, hgs], by simp [hU], hnext⟩ (by simp only; omega))
      · rw [if_neg hgo] at hexj
        have hnext := hstep U hU hexj.symm (fun c _ _ => rfl)
        by_cases hT1 : tv T (j : Int) = -1
        · repeat' (first
      | (refine za1 ?_; first | (refine za5 ?_; refine zat _ rfl ?_) | (refine zae ?_; refine zaa _ rfl ?_) | (refine zbv ?_; first | (refine zbz rfl rfl aO ?_) | (refine zbu _ rfl rfl rfl ?_) | (refine zbt aA rfl rfl ?_) | (refine zb0 aA rfl rfl ?_) | (refine zaw _ rfl rfl rfl ?_)) | (refine zbk ?_; first | (refine zaj aA rfl ?_) | (refine zak _ aA rfl rfl aE rfl ?_) | (refine zah _ aA rfl aZ aL ?_) | (refine zai _ aA rfl rfl aE aZ aL ?_)) | (refine zbm ?_; first | (refine zax _ aA rfl aL ?_) | (refine zay _ aA rfl rfl (by simp only [lx, Nat.reduceAdd]; first | done | rfl) ?_)) | (refine zbd ?_; first | (refine zau _ aA rfl rfl aO aA ?_) | (refine zav _ aA rfl rfl rfl rfl aO aO (by first | (rw [Nat.zero_add, Int.toNat_natCast]) | (rw [Nat.zero_add]) | rfl) ?_)) | (refine zbx ?_; first | (refine zbf rfl aD rfl ?_) | (refine zbh rfl aD ?_) | (refine zbi rfl aD ?_) | (refine zbg rfl aD rfl ?_)) | (refine zbp ?_; first | (refine zbw rfl rfl aD ?_) | (refine zb4 rfl rfl aD ?_) | (refine zb5 rfl rfl ?_) | (refine zbj rfl rfl (fun h => ?_) (fun h => ?_) <;> (have h' := h; (try simp only [sx] at h')))) | (refine za7 ?_; first | (refine zba aA rfl ?_) | (refine zbb aA rfl rfl ?_) | (refine zbc aA rfl ?_) | (refine za9 aA (evO_ok rfl) ?_)) | (refine zby _ _ rfl rfl rfl rfl ?_) | (refine zca _ aA rfl ?_) | (refine zb2 aA rfl ?_) | (refine zbn _ _ _ rfl rfl aE (by first | assumption | (exact TAgg.size aA)) rfl rfl rfl aZ rfl aL (by first | (first | (simp only [lx, Nat.reduceAdd]; first | done | rfl) | fail) | rfl) ?_) | (refine zcj aA aA rfl rfl rfl aO rfl ?_) | (refine zas (hK _ _ (.inl rfl) ?_); clear hK K) | (refine zas (hK _ _ (.inr (by kernel_rfl)) ?_); clear hK K))
      | (refine za4 ?_; first | (refine zbq ?_) | (refine zad (fun K hK => ?_)) | (refine zao ?_) | (refine za2 ?_) | (refine zbr ?_) | (refine za3 ?_) | (refine zbl ?_; first | (refine zam rfl aD ?_) | (refine zal rfl aD ?_) | (refine zaz rfl (fun h => ?_) (fun h => ?_) <;> (have h' := h; (try simp only [sx] at h')))))
      | (refine za0 ?_) | (refine zab ?_) | (refine zac ?_) | (refine zar ?_) | (refine zap ?_) | (refine zaq ?_) | (refine zan rfl ?_) | (refine zaf ?_) | (refine zag ?_) | (refine zbs ?_))
          all_goals first
            | (exfalso; omega)
            | (refine zb9 (j + 1, gs, U) rfl aW ⟨by simp only; omega, hgs, hU, hnext⟩ (by simp only; omega))
        · have hU1 : tv U (j : Int) ≠ -1 := fun h => hgo ⟨hT1, .inl h⟩
          have hb2 : (if b = true then decide (tv T (j : Int) < tv U (j : Int)) else decide (tv T (j : Int) > tv U (j : Int))) = false := by
            rw [← Bool.not_eq_true]
            intro h3
            refine hgo ⟨hT1, .inr ?_⟩
            cases b
            · simpa using h3
            · simpa using h3
          rw [hb2] at kg
          repeat' (first
      | (refine za1 ?_; first | (refine za5 ?_; refine zat _ rfl ?_) | (refine zae ?_; refine zaa _ rfl ?_) | (refine zbv ?_; first | (refine zbz rfl rfl aO ?_) | (refine zbu _ rfl rfl rfl ?_) | (refine zbt aA rfl rfl ?_) | (refine zb0 aA rfl rfl ?_) | (refine zaw _ rfl rfl rfl ?_)) | (refine zbk ?_; first | (refine zaj aA rfl ?_) | (refine zak _ aA rfl rfl aE rfl ?_) | (refine zah _ aA rfl aZ aL ?_) | (refine zai _ aA rfl rfl aE aZ aL ?_)) | (refine zbm ?_; first | (refine zax _ aA rfl aL ?_) | (refine zay _ aA rfl rfl (by simp only [lx, Nat.reduceAdd]; first | done | rfl) ?_)) | (refine zbd ?_; first | (refine zau _ aA rfl rfl aO aA ?_) | (refine zav _ aA rfl rfl rfl rfl aO aO (by first | (rw [Nat.zero_add, Int.toNat_natCast]) | (rw [Nat.zero_add]) | rfl) ?_)) | (refine zbx ?_; first | (refine zbf rfl aD rfl ?_) | (refine zbh rfl aD ?_) | (refine zbi rfl aD ?_) | (refine zbg rfl aD rfl ?_)) | (refine zbp ?_; first | (refine zbw rfl rfl aD ?_) | (refine zb4 rfl rfl aD ?_) | (refine zb5 rfl rfl ?_) | (refine zbj rfl rfl (fun h => ?_) (fun h => ?_) <;> (have h' := h; (try simp only [sx] at h')))) | (refine za7 ?_; first | (refine za8 true (kg) rfl rfl rfl aS rfl aH ?_; simp only [cl]) | (refine x_call [] _ (kg) rfl rfl aS rfl aH ?_; simp only [cl]) | (refine zba aA rfl ?_) | (refine zbb aA rfl rfl ?_) | (refine zbc aA rfl ?_) | (refine za9 aA (evO_ok rfl) ?_)) | (refine zby _ _ rfl rfl rfl rfl ?_) | (refine zca _ aA rfl ?_) | (refine zb2 aA rfl ?_) | (refine zbn _ _ _ rfl rfl aE (by first | assumption | (exact TAgg.size aA)) rfl rfl rfl aZ rfl aL (by first | (first | (simp only [lx, Nat.reduceAdd]; first | done | rfl) | fail) | rfl) ?_) | (refine zcj aA aA rfl rfl rfl aO rfl ?_) | (refine zas (hK _ _ (.inl rfl) ?_); clear hK K) | (refine zas (hK _ _ (.inr (by kernel_rfl)) ?_); clear hK K))
      | (refine za4 ?_; first | (refine zbq ?_) | (refine zad (fun K hK => ?_)) | (refine zao ?_) | (refine za2 ?_) | (refine zbr ?_) | (refine za3 ?_) | (refine zbl ?_; first | (refine zam rfl aD ?_) | (refine zal rfl aD ?_) | (refine zaz rfl (fun h => ?_) (fun h => ?_) <;> (have h' := h; (try simp only [sx] at h')))))
      | (refine za0 ?_) | (refine zab ?_) | (refine zac ?_) | (refine zar ?_) | (refine zap ?_) | (refine zaq ?_) | (refine zan rfl ?_) | (refine zaf ?_) | (refine zag ?_) | (refine zbs ?_))
          all_goals first
            | (exfalso; omega)
            | (refine zb9 (j + 1, gs, U) rfl aW ⟨by simp only; omega, hgs, hU, hnext⟩ (by simp only; omega))
    · have hUe : U = exL b e (i + 1) := tv_extE hU (exL_len b e (i + 1)) fun c hc => by
        rw [hu c hc, exL_tv hc, if_pos (by have := hc.2; omega)]
      subst hUe
      repeat' (first
      | (refine za1 ?_; first | (refine za5 ?_; refine zat _ rfl ?_) | (refine zae ?_; refine zaa _ rfl ?_) | (refine zbv ?_; first | (refine zbz rfl rfl aO ?_) | (refine zbu _ rfl rfl rfl ?_) | (refine zbt aA rfl rfl ?_) | (refine zb0 aA rfl rfl ?_) | (refine zaw _ rfl rfl rfl ?_)) | (refine zbk ?_; first | (refine zaj aA rfl ?_) | (refine zak _ aA rfl rfl aE rfl ?_) | (refine zah _ aA rfl aZ aL ?_) | (refine zai _ aA rfl rfl aE aZ aL ?_)) | (refine zbm ?_; first | (refine zax _ aA rfl aL ?_) | (refine zay _ aA rfl rfl (by simp only [lx, Nat.reduceAdd]; first | done | rfl) ?_)) | (refine zbd ?_; first | (refine zau _ aA rfl rfl aO aA ?_) | (refine zav _ aA rfl rfl rfl rfl aO aO (by first | (rw [Nat.zero_add, Int.toNat_natCast]) | (rw [Nat.zero_add]) | rfl) ?_)) | (refine zbx ?_; first | (refine zbf rfl aD rfl ?_) | (refine zbh rfl aD ?_) | (refine zbi rfl aD ?_) | (refine zbg rfl aD rfl ?_)) | (refine zbp ?_; first | (refine zbw rfl rfl aD ?_) | (refine zb4 rfl rfl aD ?_) | (refine zb5 rfl rfl ?_) | (refine zbj rfl rfl (fun h => ?_) (fun h => ?_) <;> (have h' := h; (try simp only [sx] at h')))) | (refine za7 ?_; first | (refine zba aA rfl ?_) | (refine zbb aA rfl rfl ?_) | (refine zbc aA rfl ?_) | (refine za9 aA (evO_ok rfl) ?_)) | (refine zby _ _ rfl rfl rfl rfl ?_) | (refine zca _ aA rfl ?_) | (refine zb2 aA rfl ?_) | (refine zbn _ _ _ rfl rfl aE (by first | assumption | (exact TAgg.size aA)) rfl rfl rfl aZ rfl aL (by first | (first | (simp only [lx, Nat.reduceAdd]; first | done | rfl) | fail) | rfl) ?_) | (refine zcj aA aA rfl rfl rfl aO rfl ?_) | (refine zas (hK _ _ (.inl rfl) ?_); clear hK K) | (refine zas (hK _ _ (.inr (by kernel_rfl)) ?_); clear hK K))
      | (refine za4 ?_; first | (refine zbq ?_) | (refine zad (fun K hK => ?_)) | (refine zao ?_) | (refine za2 ?_) | (refine zbr ?_) | (refine za3 ?_) | (refine zbl ?_; first | (refine zam rfl aD ?_) | (refine zal rfl aD ?_) | (refine zaz rfl (fun h => ?_) (fun h => ?_) <;> (have h' := h; (try simp only [sx] at h')))))
      | (refine za0 ?_) | (refine zab ?_) | (refine zac ?_) | (refine zar ?_) | (refine zap ?_) | (refine zaq ?_) | (refine zan rfl ?_) | (refine zaf ?_) | (refine zag ?_) | (refine zbs ?_))
      all_goals first
        | (exfalso; omega)
        | (refine zb9 (i + 1, gs) rfl aW ⟨by simp only; omega, hgs⟩ (by simp only; omega))
  · have hin : i = e.L.length := by omega
    subst hin
    repeat' (first
      | (refine za1 ?_; first | (refine za5 ?_; refine zat _ rfl ?_) | (refine zae ?_; refine zaa _ rfl ?_) | (refine zbv ?_; first | (refine zbz rfl rfl aO ?_) | (refine zbu _ rfl rfl rfl ?_) | (refine zbt aA rfl rfl ?_) | (refine zb0 aA rfl rfl ?_) | (refine zaw _ rfl rfl rfl ?_)) | (refine zbk ?_; first | (refine zaj aA rfl ?_) | (refine zak _ aA rfl rfl aE rfl ?_) | (refine zah _ aA rfl aZ aL ?_) | (refine zai _ aA rfl rfl aE aZ aL ?_)) | (refine zbm ?_; first | (refine zax _ aA rfl aL ?_) | (refine zay _ aA rfl rfl (by simp only [lx, Nat.reduceAdd]; first | done | rfl) ?_)) | (refine zbd ?_; first | (refine zau _ aA rfl rfl aO aA ?_) | (refine zav _ aA rfl rfl rfl rfl aO aO (by first | (rw [Nat.zero_add, Int.toNat_natCast]) | (rw [Nat.zero_add]) | rfl) ?_)) | (refine zbx ?_; first | (refine zbf rfl aD rfl ?_) | (refine zbh rfl aD ?_) | (refine zbi rfl aD ?_) | (refine zbg rfl aD rfl ?_)) | (refine zbp ?_; first | (refine zbw rfl rfl aD ?_) | (refine zb4 rfl rfl aD ?_) | (refine zb5 rfl rfl ?_) | (refine zbj rfl rfl (fun h => ?_) (fun h => ?_) <;> (have h' := h; (try simp only [sx] at h')))) | (refine za7 ?_; first | (refine zba aA rfl ?_) | (refine zbb aA rfl rfl ?_) | (refine zbc aA rfl ?_) | (refine za9 aA (evO_ok rfl) ?_)) | (refine zby _ _ rfl rfl rfl rfl ?_) | (refine zca _ aA rfl ?_) | (refine zb2 aA rfl ?_) | (refine zbn _ _ _ rfl rfl aE (by first | assumption | (exact TAgg.size aA)) rfl rfl rfl aZ rfl aL (by first | (first | (simp only [lx, Nat.reduceAdd]; first | done | rfl) | fail) | rfl) ?_) | (refine zcj aA aA rfl rfl rfl aO rfl ?_) | (refine zas (hK _ _ (.inl rfl) ?_); clear hK K) | (refine zas (hK _ _ (.inr (by kernel_rfl)) ?_); clear hK K))
      | (refine za4 ?_; first | (refine zbq ?_) | (refine zad (fun K hK => ?_)) | (refine zao ?_) | (refine za2 ?_) | (refine zbr ?_) | (refine za3 ?_) | (refine zbl ?_; first | (refine zam rfl aD ?_) | (refine zal rfl aD ?_) | (refine zaz rfl (fun h => ?_) (fun h => ?_) <;> (have h' := h; (try simp only [sx] at h')))))
      | (refine za0 ?_) | (refine zab ?_) | (refine zac ?_) | (refine zar ?_) | (refine zap ?_) | (refine zaq ?_) | (refine zan rfl ?_) | (refine zaf ?_) | (refine zag ?_) | (refine zbs ?_))
    all_goals first
      | (exfalso; omega)
      | exact zcl rfl (zbo (by rfl)) (by rfl) (by decide) (by rw [hfl]; exact hl2) (by rw [hfs]; exact ints_flat _) hfs
theorem k_l8Times (e : Ens) (z : SzE e) (hE : GoodEn e) (b : Bool) : Con Try.prog 99 [.agg e.t.pv, .list 2 (e.L.map Scen.pv), .list 1 (ints e.src), .int .i64 e.st, .bool (!b)] (.olist 3 1 (ints (exL b e e.L.length))) := by
  intro al
  refine za6 hmix Try.func99 rfl (by kernel_rfl) (by kernel_rfl) (Nat.le_of_ble_eq_true rfl) (fun row h => by cases h) ?_
  have hty_a26 := ty_a26
  have hty_s51 := ty_s51
  have hty_f56_0 := ty_f56_0
  have hty_c27 := ty_c27
  have hty_u27 := ty_u27
  have hty_s27 := ty_s27
  have hty_u24 := ty_u24
  have hty_s24 := ty_s24
  have hty_u51 := ty_u51
  have hty_c3 := ty_c3
  have hty_t3 := ty_t3
  have hl1 : (e.L.map Scen.pv).length = e.L.length := by simp
  have hlen := goodT_len hE.1.1
  have hl4 := hE.2.1.2
  obtain ⟨a0, ha0⟩ := get_ex (show 0 < e.L.length by omega)
  have hx0 := Scen.at ha0
  have kA0 := k_sArrS e hE z (get_mem ha0)
  have e0 : arr (e.bz a0) = exL b e 1 := tv_extE (t := e.t) (arr_len (hE.b (get_mem ha0))) (exL_len b e 1) fun c hc => by rw [exL_tv hc, exF_one c b ha0]
  rw [e0] at kA0
  repeat' (first
      | (refine za1 ?_; first | (refine za5 ?_; refine zat _ rfl ?_) | (refine zae ?_; refine zaa _ rfl ?_) | (refine zbv ?_; first | (refine zbz rfl rfl aO ?_) | (refine zbu _ rfl rfl rfl ?_) | (refine zaw _ rfl rfl rfl ?_)) | (refine zbk ?_; first | (refine zaj aA rfl ?_) | (refine zak _ aA rfl rfl aE rfl ?_) | (refine zah _ aA rfl aZ aL ?_) | (refine zai _ aA rfl rfl aE aZ aL ?_)) | (refine zbm ?_; first | (refine zax _ aA rfl aL ?_) | (refine zay _ aA rfl rfl (by simp only [lx, Nat.reduceAdd]; first | done | rfl) ?_)) | (refine zbd ?_; first | (refine zau _ aA rfl rfl aO aA ?_) | (refine zav _ aA rfl rfl rfl rfl aO aO (by first | (rw [Nat.zero_add, Int.toNat_natCast]) | (rw [Nat.zero_add]) | rfl) ?_)) | (refine za7 ?_; first | (refine za8 true (kA0) rfl rfl rfl aS rfl aH ?_; simp only [cl]) | (refine zba aA rfl ?_) | (refine zbb aA rfl rfl ?_) | (refine zbc aA rfl ?_) | (refine za9 aA (evO_ok rfl) ?_)) | (refine zby _ _ rfl rfl rfl rfl ?_) | (refine zbn _ _ _ rfl rfl aE (by first | assumption | (exact TAgg.size aA)) rfl rfl rfl aZ rfl aL (by first | (first | (simp only [lx, Nat.reduceAdd]; first | done | rfl) | fail) | rfl) ?_) | (refine zas (hK _ _ (.inl rfl) ?_); clear hK K) | (refine zas (hK _ _ (.inr (by kernel_rfl)) ?_); clear hK K))
      | (refine za4 ?_; first | (refine zbq ?_) | (refine zad (fun K hK => ?_)) | (refine zao ?_) | (refine za2 ?_) | (refine zbr ?_) | (refine za3 ?_) | (refine zbl ?_; first | (refine zam rfl aD ?_) | (refine zal rfl aD ?_) | (refine zaz rfl (fun h => ?_) (fun h => ?_) <;> (have h' := h; (try simp only [sx] at h')))))
      | (refine za0 ?_) | (refine zab ?_) | (refine zac ?_) | (refine zar ?_) | (refine zap ?_) | (refine zaq ?_) | (refine zan rfl ?_) | (refine zaf ?_) | (refine zag ?_) | (refine zbs ?_))
  all_goals try (exfalso; omega)
  refine zcf [1, 2, 3, 4, 5] [(1001, 0)] (fun q : Nat × List (List PV) => [(11, .osl (1001, 0) 0 (ints (exL b e 1)).length), (12, .int .i64 q.1)]) (fun q : Nat × List (List PV) => [((1001, 0), some ⟨3, 1, q.2, false⟩)]) (fun q : Nat × List (List PV) => (1 ≤ q.1 ∧ q.1 ≤ e.L.length) ∧ q.2 = ints (exL b e q.1)) (fun q : Nat × List (List PV) => e.L.length - q.1) ((1, ints (exL b e 1))) rfl rfl (fun _ => rfl) (fun _ => rfl) rfl aW ⟨by simp only; omega, rfl⟩ (fun q hq => ?_)
  obtain ⟨i, fs⟩ := q
  obtain ⟨hi, hfs⟩ := hq
  simp only at hi hfs
  dsimp only
  have hfl : fs.length = e.t.burn.length := by rw [hfs, ints_len, exL_len]
  have hfl2 : (ints (exL b e 1)).length = e.t.burn.length := by rw [ints_len, exL_len]
  rcases Nat.lt_or_ge i e.L.length with hlt | hge2
  · obtain ⟨a, hga⟩ := get_ex hlt
    have hx := Scen.at hga
    have ham := get_mem hga
    have kA := (k_sArrS e hE z ham).frzF (ints_flat _)
    have hal : (arr (e.bz a)).length = e.t.burn.length := arr_len (hE.b ham)
    have hla : (ints (arr (e.bz a))).length = (arr (e.bz a)).length := by simp
    have href := fun c hc => exF_ref hE (c := c) hc b (show 0 < i by omega) hga
    generalize hTT : arr (e.bz a) = T at *
    repeat' (first
      | (refine za1 ?_; first | (refine za5 ?_; refine zat _ rfl ?_) | (refine zae ?_; refine zaa _ rfl ?_) | (refine zbv ?_; first | (refine zbz rfl rfl aO ?_) | (refine zbu _ rfl rfl rfl ?_) | (refine zaw _ rfl rfl rfl ?_)) | (refine zbk ?_; first | (refine zaj aA rfl ?_) | (refine zak _ aA rfl rfl aE rfl ?_) | (refine zah _ aA rfl aZ aL ?_) | (refine zai _ aA rfl rfl aE aZ aL ?_)) | (refine zbm ?_; first | (refine zax _ aA rfl aL ?_) | (refine zay _ aA rfl rfl (by simp only [lx, Nat.reduceAdd]; first | done | rfl) ?_)) | (refine zbd ?_; first | (refine zau _ aA rfl rfl aO aA ?_) | (refine zav _ aA rfl rfl rfl rfl aO aO (by first | (rw [Nat.zero_add, Int.toNat_natCast]) | (rw [Nat.zero_add]) | rfl) ?_)) | (refine za7 ?_; first | (refine za8 true (kA) rfl rfl rfl aS rfl aH ?_; simp only [cl]) | (refine zba aA rfl ?_) | (refine zbb aA rfl rfl ?_) | (refine zbc aA rfl ?_) | (refine za9 aA (evO_ok rfl) ?_)) | (refine zby _ _ rfl rfl rfl rfl ?_) | (refine zbn _ _ _ rfl rfl aE (by first | assumption | (exact TAgg.size aA)) rfl rfl rfl aZ rfl aL (by first | (first | (simp only [lx, Nat.reduceAdd]; first | done | rfl) | fail) | rfl) ?_) | (refine zas (hK _ _ (.inl rfl) ?_); clear hK K) | (refine zas (hK _ _ (.inr (by kernel_rfl)) ?_); clear hK K))
      | (refine za4 ?_; first | (refine zbq ?_) | (refine zad (fun K hK => ?_)) | (refine zao ?_) | (refine za2 ?_) | (refine zbr ?_) | (refine za3 ?_) | (refine zbl ?_; first | (refine zam rfl aD ?_) | (refine zal rfl aD ?_) | (refine zaz rfl (fun h => ?_) (fun h => ?_) <;> (have h' := h; (try simp only [sx] at h')))))
      | (refine za0 ?_) | (refine zab ?_) | (refine zac ?_) | (refine zar ?_) | (refine zap ?_) | (refine zaq ?_) | (refine zan rfl ?_) | (refine zaf ?_) | (refine zag ?_) | (refine zbs ?_))
    all_goals try (exfalso; omega)
    refine zcf [1, 2, 3, 4, 5, 12, 13] [(1001, 0)] (fun w : Nat × List (List PV) × List Int => [(11, .osl (1001, 0) 0 (ints (exL b e 1)).length), (14, .int .i64 w.1)]) (fun w : Nat × List (List PV) × List Int => [((1001, 0), some ⟨3, 1, w.2.1, false⟩)]) (fun w : Nat × List (List PV) × List Int => w.1 ≤ T.length ∧ w.2.1 = ints w.2.2 ∧ w.2.2.length = e.t.burn.length ∧ ∀ c, IsCell e.t c → tv w.2.2 c = if c < (w.1 : Int) then exF b e c (e.L.take (i + 1)) else exF b e c (e.L.take i)) (fun w : Nat × List (List PV) × List Int => T.length - w.1) ((0, fs, exL b e i)) rfl rfl (fun _ => rfl) (fun _ => rfl) rfl aW ⟨by simp, hfs, exL_len b e i, fun c hc => by rw [exL_tv hc, if_neg (by have := hc.1; simp only; omega)]⟩ (fun w hw => ?_)
    obtain ⟨j, gs, U⟩ := w
    obtain ⟨hj, hgs, hU, hu⟩ := hw
    simp only at hj hgs hU hu
    dsimp only
    have hgl : gs.length = e.t.burn.length := by rw [hgs, ints_len, hU]
    rcases Nat.lt_or_ge j T.length with hlt2 | hge3
    · have hjc : IsCell e.t (j : Int) := ⟨by omega, by omega⟩
      have hxT : (ints T)[j]? = some [.int .i64 (tv T (j : Int))] := by have := tv_int (T := T) (c := (j : Int)) (by rw [Int.toNat_natCast]; exact hlt2); rwa [Int.toNat_natCast] at this
      have hxU : gs[j]? = some [.int .i64 (tv U (j : Int))] := by rw [hgs]; have := tv_int (T := U) (c := (j : Int)) (by rw [Int.toNat_natCast]; omega); rwa [Int.toNat_natCast] at this
      have huj := hu j hjc
      rw [if_neg aO] at huj
      have hrj := href j hjc
      rw [← huj] at hrj
      have hset : ∀ v : Int, v = exF b e j (e.L.take (i + 1)) → ∀ c, IsCell e.t c → tv (U.set j v) c = if c < ((j + 1 : Nat) : Int) then exF b e c (e.L.take (i + 1)) else exF b e c (e.L.take i) := fun v hv c hc => by
        have := tv_set2 (T := U) (y := (j : Int)) v (by rw [Int.toNat_natCast]; omega) c
        rw [Int.toNat_natCast] at this
        rw [this]
        by_cases he : c = j
        · subst he; rw [if_pos aO, if_pos aO, hv]
        · rw [if_neg (by have := hc.1; omega), hu c hc]
          by_cases h3 : c < (j : Int)
          · rw [if_pos h3, if_pos aO]
          · rw [if_neg h3, if_neg aO]
      cases b
      · rw [if_neg (by simp)] at hrj
        repeat' (first
      | (refine za1 ?_; first | (refine za5 ?_; refine zat _ rfl ?_) | (refine zae ?_; refine zaa _ rfl ?_) | (refine zbv ?_; first | (refine zbz rfl rfl aO ?_) | (refine zbu _ rfl rfl rfl ?_) | (refine zaw _ rfl rfl rfl ?_)) | (refine zbk ?_; first | (refine zaj aA rfl ?_) | (refine zak _ aA rfl rfl aE rfl ?_) | (refine zah _ aA rfl aZ aL ?_) | (refine zai _ aA rfl rfl aE aZ aL ?_)) | (refine zbm ?_; first | (refine zax _ aA rfl aL ?_) | (refine zay _ aA rfl rfl (by simp only [lx, Nat.reduceAdd]; first | done | rfl) ?_)) | (refine zbd ?_; first | (refine zau _ aA rfl rfl aO aA ?_) | (refine zav _ aA rfl rfl rfl rfl aO aO (by first | (rw [Nat.zero_add, Int.toNat_natCast]) | (rw [Nat.zero_add]) | rfl) ?_)) | (refine za7 ?_; first | (refine za8 true (k_l1Most (tv U (j : Int)) (tv T (j : Int))) rfl rfl rfl aS rfl aH ?_; simp only [cl]) | (refine zba aA rfl ?_) | (refine zbb aA rfl rfl ?_) | (refine zbc aA rfl ?_) | (refine za9 aA (evO_ok rfl) ?_)) | (refine zby _ _ rfl rfl rfl rfl ?_) | (refine zbn _ _ _ rfl rfl aE (by first | assumption | (exact TAgg.size aA)) rfl rfl rfl aZ rfl aL (by first | (first | (simp only [lx, Nat.reduceAdd]; first | done | rfl) | fail) | rfl) ?_) | (refine zas (hK _ _ (.inl rfl) ?_); clear hK K) | (refine zas (hK _ _ (.inr (by kernel_rfl)) ?_); clear hK K))
      | (refine za4 ?_; first | (refine zbq ?_) | (refine zad (fun K hK => ?_)) | (refine zao ?_) | (refine za2 ?_) | (refine zbr ?_) | (refine za3 ?_) | (refine zbl ?_; first | (refine zam rfl aD ?_) | (refine zal rfl aD ?_) | (refine zaz rfl (fun h => ?_) (fun h => ?_) <;> (have h' := h; (try simp only [sx] at h')))))
      | (refine za0 ?_) | (refine zab ?_) | (refine zac ?_) | (refine zar ?_) | (refine zap ?_) | (refine zaq ?_) | (refine zan rfl ?_) | (refine zaf ?_) | (refine zag ?_) | (refine zbs ?_))
        all_goals first
          | (exfalso; omega)
          | (exfalso; simp at *; done)
          | (refine zb9 (j + 1, gs.set j [.int .i64 (max (tv U (j : Int)) (tv T (j : Int)))], U.set j (max (tv U (j : Int)) (tv T (j : Int)))) rfl aW ⟨by simp only; omega, by simp only [ints_set, hgs], by simp [hU], hset _ hrj.symm⟩ (by simp only; omega))
      · rw [if_pos rfl] at hrj
        repeat' (first
      | (refine za1 ?_; first | (refine za5 ?_; refine zat _ rfl ?_) | (refine zae ?_; refine zaa _ rfl ?_) | (refine zbv ?_; first | (refine zbz rfl rfl aO ?_) | (refine zbu _ rfl rfl rfl ?_) | (refine zaw _ rfl rfl rfl ?_)) | (refine zbk ?_; first | (refine zaj aA rfl ?_) | (refine zak _ aA rfl rfl aE rfl ?_) | (refine zah _ aA rfl aZ aL ?_) | (refine zai _ aA rfl rfl aE aZ aL ?_)) | (refine zbm ?_; first | (refine zax _ aA rfl aL ?_) | (refine zay _ aA rfl rfl (by simp only [lx, Nat.reduceAdd]; first | done | rfl) ?_)) | (refine zbd ?_; first | (refine zau _ aA rfl rfl aO aA ?_) | (refine zav _ aA rfl rfl rfl rfl aO aO (by first | (rw [Nat.zero_add, Int.toNat_natCast]) | (rw [Nat.zero_add]) | rfl) ?_)) | (refine za7 ?_; first | (refine za8 true (k_l1Least (tv U (j : Int)) (tv T (j : Int))) rfl rfl rfl aS rfl aH ?_; simp only [cl]) | (refine zba aA rfl ?_) | (refine zbb aA rfl rfl ?_) | (refine zbc aA rfl ?_) | (refine za9 aA (evO_ok rfl) ?_)) | (refine zby _ _ rfl rfl rfl rfl ?_) | (refine zbn _ _ _ rfl rfl aE (by first | assumption | (exact TAgg.size aA)) rfl rfl rfl aZ rfl aL (by first | (first | (simp only [lx, Nat.reduceAdd]; first | done | rfl) | fail) | rfl) ?_) | (refine zas (hK _ _ (.inl rfl) ?_); clear hK K) | (refine zas (hK _ _ (.inr (by kernel_rfl)) ?_); clear hK K))
      | (refine za4 ?_; first | (refine zbq ?_) | (refine zad (fun K hK => ?_)) | (refine zao ?_) | (refine za2 ?_) | (refine zbr ?_) | (refine za3 ?_) | (refine zbl ?_; first | (refine zam rfl aD ?_) | (refine zal rfl aD ?_) | (refine zaz rfl (fun h => ?_) (fun h => ?_) <;> (have h' := h; (try simp only [sx] at h')))))
      | (refine za0 ?_) | (refine zab ?_) | (refine zac ?_) | (refine zar ?_) | (refine zap ?_) | (refine zaq ?_) | (refine zan rfl ?_) | (refine zaf ?_) | (refine zag ?_) | (refine zbs ?_))
        all_goals first
          | (exfalso; omega)
          | (exfalso; simp at *; done)
          | (refine zb9 (j + 1, gs.set j [.int .i64 (min (tv U (j : Int)) (tv T (j : Int)))], U.set j (min (tv U (j : Int)) (tv T (j : Int)))) rfl aW ⟨by simp only; omega, by simp only [ints_set, hgs], by simp [hU], hset _ hrj.symm⟩ (by simp only; omega))
    · have hUe : U = exL b e (i + 1) := tv_extE hU (exL_len b e (i + 1)) fun c hc => by
        rw [hu c hc, exL_tv hc, if_pos (by have := hc.2; omega)]
      subst hUe
      repeat' (first
      | (refine za1 ?_; first | (refine za5 ?_; refine zat _ rfl ?_) | (refine zae ?_; refine zaa _ rfl ?_) | (refine zbv ?_; first | (refine zbz rfl rfl aO ?_) | (refine zbu _ rfl rfl rfl ?_) | (refine zaw _ rfl rfl rfl ?_)) | (refine zbk ?_; first | (refine zaj aA rfl ?_) | (refine zak _ aA rfl rfl aE rfl ?_) | (refine zah _ aA rfl aZ aL ?_) | (refine zai _ aA rfl rfl aE aZ aL ?_)) | (refine zbm ?_; first | (refine zax _ aA rfl aL ?_) | (refine zay _ aA rfl rfl (by simp only [lx, Nat.reduceAdd]; first | done | rfl) ?_)) | (refine zbd ?_; first | (refine zau _ aA rfl rfl aO aA ?_) | (refine zav _ aA rfl rfl rfl rfl aO aO (by first | (rw [Nat.zero_add, Int.toNat_natCast]) | (rw [Nat.zero_add]) | rfl) ?_)) | (refine za7 ?_; first | (refine zba aA rfl ?_) | (refine zbb aA rfl rfl ?_) | (refine zbc aA rfl ?_) | (refine za9 aA (evO_ok rfl) ?_)) | (refine zby _ _ rfl rfl rfl rfl ?_) | (refine zbn _ _ _ rfl rfl aE (by first | assumption | (exact TAgg.size aA)) rfl rfl rfl aZ rfl aL (by first | (first | (simp only [lx, Nat.reduceAdd]; first | done | rfl) | fail) | rfl) ?_) | (refine zas (hK _ _ (.inl rfl) ?_); clear hK K) | (refine zas (hK _ _ (.inr (by kernel_rfl)) ?_); clear hK K))
      | (refine za4 ?_; first | (refine zbq ?_) | (refine zad (fun K hK => ?_)) | (refine zao ?_) | (refine za2 ?_) | (refine zbr ?_) | (refine za3 ?_) | (refine zbl ?_; first | (refine zam rfl aD ?_) | (refine zal rfl aD ?_) | (refine zaz rfl (fun h => ?_) (fun h => ?_) <;> (have h' := h; (try simp only [sx] at h')))))
      | (refine za0 ?_) | (refine zab ?_) | (refine zac ?_) | (refine zar ?_) | (refine zap ?_) | (refine zaq ?_) | (refine zan rfl ?_) | (refine zaf ?_) | (refine zag ?_) | (refine zbs ?_))
      all_goals first
        | (exfalso; omega)
        | (refine zb9 (i + 1, gs) rfl aW ⟨by simp only; omega, hgs⟩ (by simp only; omega))
  · have hin : i = e.L.length := by omega
    subst hin
    repeat' (first
      | (refine za1 ?_; first | (refine za5 ?_; refine zat _ rfl ?_) | (refine zae ?_; refine zaa _ rfl ?_) | (refine zbv ?_; first | (refine zbz rfl rfl aO ?_) | (refine zbu _ rfl rfl rfl ?_) | (refine zaw _ rfl rfl rfl ?_)) | (refine zbk ?_; first | (refine zaj aA rfl ?_) | (refine zak _ aA rfl rfl aE rfl ?_) | (refine zah _ aA rfl aZ aL ?_) | (refine zai _ aA rfl rfl aE aZ aL ?_)) | (refine zbm ?_; first | (refine zax _ aA rfl aL ?_) | (refine zay _ aA rfl rfl (by simp only [lx, Nat.reduceAdd]; first | done | rfl) ?_)) | (refine zbd ?_; first | (refine zau _ aA rfl rfl aO aA ?_) | (refine zav _ aA rfl rfl rfl rfl aO aO (by first | (rw [Nat.zero_add, Int.toNat_natCast]) | (rw [Nat.zero_add]) | rfl) ?_)) | (refine za7 ?_; first | (refine zba aA rfl ?_) | (refine zbb aA rfl rfl ?_) | (refine zbc aA rfl ?_) | (refine za9 aA (evO_ok rfl) ?_)) | (refine zby _ _ rfl rfl rfl rfl ?_) | (refine zbn _ _ _ rfl rfl aE (by first | assumption | (exact TAgg.size aA)) rfl rfl rfl aZ rfl aL (by first | (first | (simp only [lx, Nat.reduceAdd]; first | done | rfl) | fail) | rfl) ?_) | (refine zas (hK _ _ (.inl rfl) ?_); clear hK K) | (refine zas (hK _ _ (.inr (by kernel_rfl)) ?_); clear hK K))
      | (refine za4 ?_; first | (refine zbq ?_) | (refine zad (fun K hK => ?_)) | (refine zao ?_) | (refine za2 ?_) | (refine zbr ?_) | (refine za3 ?_) | (refine zbl ?_; first | (refine zam rfl aD ?_) | (refine zal rfl aD ?_) | (refine zaz rfl (fun h => ?_) (fun h => ?_) <;> (have h' := h; (try simp only [sx] at h')))))
      | (refine za0 ?_) | (refine zab ?_) | (refine zac ?_) | (refine zar ?_) | (refine zap ?_) | (refine zaq ?_) | (refine zan rfl ?_) | (refine zaf ?_) | (refine zag ?_) | (refine zbs ?_))
    all_goals first
      | (exfalso; omega)
      | exact zcl rfl (zbo (by rfl)) (by rfl) (by decide) (by rw [hfl, hfl2]) (by rw [hfs]; exact ints_flat _) hfs
theorem k_EarliestTimes1 (u v : Int) : Con Try.prog 96 [.int .i64 u, .int .i64 v] (.bool (if true = true then decide (u < v) else decide (u > v))) := by
  intro al
  refine za6 hmix Try.func96 rfl (by kernel_rfl) (by kernel_rfl) (Nat.le_of_ble_eq_true rfl) (fun row h => by cases h) ?_
  repeat' (first
      | (refine za1 ?_; first | (refine za5 ?_; refine zat _ rfl ?_) | (refine zae ?_; refine zaa _ rfl ?_) | (refine zbv ?_; first | (refine zbu _ rfl rfl rfl ?_) | (refine zaw _ rfl rfl rfl ?_)) | (refine zas (hK _ _ (.inl rfl) ?_); clear hK K) | (refine zas (hK _ _ (.inr (by kernel_rfl)) ?_); clear hK K))
      | (refine za4 ?_; first | (refine zbq ?_) | (refine zad (fun K hK => ?_)) | (refine zao ?_) | (refine za2 ?_) | (refine zbr ?_) | (refine za3 ?_))
      | (refine za0 ?_) | (refine zab ?_) | (refine zac ?_) | (refine zar ?_) | (refine zap ?_) | (refine zaq ?_) | (refine zan rfl ?_) | (refine zaf ?_) | (refine zag ?_) | (refine zbs ?_))
  all_goals exact zb3 rfl (zbo rfl) (by simp)
theorem k_iEarliestTimes (e : Ens) (z : SzE e) : Con Try.prog 37 [.agg e.t.pv, .list 2 (e.L.map Scen.pv), .list 1 (ints e.src), .int .i64 e.st] (.tuple [.olist 3 1 (ints (exR true e)), .bool (opB (GoodEn e))]) := by
  intro al
  refine za6 hmix Try.func37 rfl (by kernel_rfl) (by kernel_rfl) (Nat.le_of_ble_eq_true rfl) (fun row h => by cases h) ?_
  have hty_a26 := ty_a26
  have hty_u51 := ty_u51
  have hty_s51 := ty_s51
  have hty_u24 := ty_u24
  have hty_s24 := ty_s24
  have hzn := z.hn
  have k1 := k_isBlaze e z
  by_cases hE : GoodEn e
  · rw [decide_eq_true hE] at k1
    rw [exR_t hE, opB_t hE]
    have kC := k_extremes e z hE true 96 k_EarliestTimes1
    repeat' (first
      | (refine za1 ?_; first | (refine za5 ?_; refine zat _ rfl ?_) | (refine zae ?_; refine zaa _ rfl ?_) | (refine g_un ?_; first | (refine zce rfl ?_) | (refine zcd rfl aO ?_)) | (refine zbk ?_; first | (refine zaj aA rfl ?_) | (refine zak _ aA rfl rfl aE rfl ?_) | (refine zah _ aA rfl aZ aL ?_) | (refine zai _ aA rfl rfl aE aZ aL ?_)) | (refine za7 ?_; first | (refine za8 true (k1) rfl rfl rfl aS rfl aH ?_; simp only [cl]) | (refine za8 true (kC) rfl rfl rfl aS rfl aH ?_; simp only [cl])) | (refine zby _ _ rfl rfl rfl rfl ?_) | (refine zas (hK _ _ (.inl rfl) ?_); clear hK K) | (refine zas (hK _ _ (.inr (by kernel_rfl)) ?_); clear hK K))
      | (refine za4 ?_; first | (refine zbq ?_) | (refine zad (fun K hK => ?_)) | (refine zao ?_) | (refine za2 ?_) | (refine zbr ?_) | (refine za3 ?_) | (refine zbl ?_; first | (refine zam rfl aD ?_) | (refine zal rfl aD ?_) | (refine zaz rfl (fun h => ?_) (fun h => ?_) <;> (have h' := h; (try simp only [sx] at h')))))
      | (refine za0 ?_) | (refine zab ?_) | (refine zac ?_) | (refine zar ?_) | (refine zap ?_) | (refine zaq ?_) | (refine zan rfl ?_) | (refine zaf ?_) | (refine zag ?_) | (refine zbs ?_))
    all_goals first
      | (exfalso; omega)
      | exact aR
  · rw [decide_eq_false hE] at k1
    rw [exR_f hE, opB_f hE]
    repeat' (first
      | (refine za1 ?_; first | (refine za5 ?_; refine zat _ rfl ?_) | (refine zae ?_; refine zaa _ rfl ?_) | (refine g_un ?_; first | (refine zce rfl ?_) | (refine zcd rfl aO ?_)) | (refine zbk ?_; first | (refine zaj aA rfl ?_) | (refine zak _ aA rfl rfl aE rfl ?_) | (refine zah _ aA rfl aZ aL ?_) | (refine zai _ aA rfl rfl aE aZ aL ?_)) | (refine za7 ?_; refine za8 true (k1) rfl rfl rfl aS rfl aH ?_; simp only [cl]) | (refine zby _ _ rfl rfl rfl rfl ?_) | (refine zas (hK _ _ (.inl rfl) ?_); clear hK K) | (refine zas (hK _ _ (.inr (by kernel_rfl)) ?_); clear hK K))
      | (refine za4 ?_; first | (refine zbq ?_) | (refine zad (fun K hK => ?_)) | (refine zao ?_) | (refine za2 ?_) | (refine zbr ?_) | (refine za3 ?_) | (refine zbl ?_; first | (refine zam rfl aD ?_) | (refine zal rfl aD ?_) | (refine zaz rfl (fun h => ?_) (fun h => ?_) <;> (have h' := h; (try simp only [sx] at h')))))
      | (refine za0 ?_) | (refine zab ?_) | (refine zac ?_) | (refine zar ?_) | (refine zap ?_) | (refine zaq ?_) | (refine zan rfl ?_) | (refine zaf ?_) | (refine zag ?_) | (refine zbs ?_))
    all_goals first
      | (exfalso; omega)
      | exact aR
theorem k_sEarliestTimes (e : Ens) (z : SzE e) : Con Try.prog 39 [.agg e.t.pv, .list 2 (e.L.map Scen.pv), .list 1 (ints e.src), .int .i64 e.st] (.tuple [.olist 3 1 (ints (exR true e)), .bool (opB (GoodEn e))]) := by
  intro al
  refine za6 hmix Try.func39 rfl (by kernel_rfl) (by kernel_rfl) (Nat.le_of_ble_eq_true rfl) (fun row h => by cases h) ?_
  have hty_a26 := ty_a26
  have hty_u51 := ty_u51
  have hty_s51 := ty_s51
  have hty_u24 := ty_u24
  have hty_s24 := ty_s24
  have hzn := z.hn
  have k1 := k_l8Asked e z
  by_cases hE : GoodEn e
  · rw [decide_eq_true hE] at k1
    rw [exR_t hE, opB_t hE]
    have kC := k_l8Times e z hE true
    repeat' (first
      | (refine za1 ?_; first | (refine za5 ?_; refine zat _ rfl ?_) | (refine zae ?_; refine zaa _ rfl ?_) | (refine g_un ?_; first | (refine zce rfl ?_) | (refine zcd rfl aO ?_)) | (refine zbk ?_; first | (refine zaj aA rfl ?_) | (refine zak _ aA rfl rfl aE rfl ?_) | (refine zah _ aA rfl aZ aL ?_) | (refine zai _ aA rfl rfl aE aZ aL ?_)) | (refine za7 ?_; first | (refine za8 true (k1) rfl rfl rfl aS rfl aH ?_; simp only [cl]) | (refine za8 true (kC) rfl rfl rfl aS rfl aH ?_; simp only [cl])) | (refine zbe aA rfl rfl rfl ?_) | (refine zby _ _ rfl rfl rfl rfl ?_) | (refine zas (hK _ _ (.inl rfl) ?_); clear hK K) | (refine zas (hK _ _ (.inr (by kernel_rfl)) ?_); clear hK K))
      | (refine za4 ?_; first | (refine zbq ?_) | (refine zad (fun K hK => ?_)) | (refine zao ?_) | (refine za2 ?_) | (refine zbr ?_) | (refine za3 ?_) | (refine zbl ?_; first | (refine zam rfl aD ?_) | (refine zal rfl aD ?_) | (refine zaz rfl (fun h => ?_) (fun h => ?_) <;> (have h' := h; (try simp only [sx] at h')))))
      | (refine za0 ?_) | (refine zab ?_) | (refine zac ?_) | (refine zar ?_) | (refine zap ?_) | (refine zaq ?_) | (refine zan rfl ?_) | (refine zaf ?_) | (refine zag ?_) | (refine zbs ?_))
    all_goals first
      | (exfalso; omega)
      | exact aR
  · rw [decide_eq_false hE] at k1
    rw [exR_f hE, opB_f hE]
    repeat' (first
      | (refine za1 ?_; first | (refine za5 ?_; refine zat _ rfl ?_) | (refine zae ?_; refine zaa _ rfl ?_) | (refine g_un ?_; first | (refine zce rfl ?_) | (refine zcd rfl aO ?_)) | (refine zbk ?_; first | (refine zaj aA rfl ?_) | (refine zak _ aA rfl rfl aE rfl ?_) | (refine zah _ aA rfl aZ aL ?_) | (refine zai _ aA rfl rfl aE aZ aL ?_)) | (refine za7 ?_; refine za8 true (k1) rfl rfl rfl aS rfl aH ?_; simp only [cl]) | (refine zbe aA rfl rfl rfl ?_) | (refine zby _ _ rfl rfl rfl rfl ?_) | (refine zas (hK _ _ (.inl rfl) ?_); clear hK K) | (refine zas (hK _ _ (.inr (by kernel_rfl)) ?_); clear hK K))
      | (refine za4 ?_; first | (refine zbq ?_) | (refine zad (fun K hK => ?_)) | (refine zao ?_) | (refine za2 ?_) | (refine zbr ?_) | (refine za3 ?_) | (refine zbl ?_; first | (refine zam rfl aD ?_) | (refine zal rfl aD ?_) | (refine zaz rfl (fun h => ?_) (fun h => ?_) <;> (have h' := h; (try simp only [sx] at h')))))
      | (refine za0 ?_) | (refine zab ?_) | (refine zac ?_) | (refine zar ?_) | (refine zap ?_) | (refine zaq ?_) | (refine zan rfl ?_) | (refine zaf ?_) | (refine zag ?_) | (refine zbs ?_))
    all_goals first
      | (exfalso; omega)
      | exact aR
theorem k_LatestTimes1 (u v : Int) : Con Try.prog 97 [.int .i64 u, .int .i64 v] (.bool (if false = true then decide (u < v) else decide (u > v))) := by
  intro al
  refine za6 hmix Try.func97 rfl (by kernel_rfl) (by kernel_rfl) (Nat.le_of_ble_eq_true rfl) (fun row h => by cases h) ?_
  repeat' (first
      | (refine za1 ?_; first | (refine za5 ?_; refine zat _ rfl ?_) | (refine zae ?_; refine zaa _ rfl ?_) | (refine zbv ?_; refine zbu _ rfl rfl rfl ?_) | (refine zas (hK _ _ (.inl rfl) ?_); clear hK K) | (refine zas (hK _ _ (.inr (by kernel_rfl)) ?_); clear hK K))
      | (refine za4 ?_; first | (refine zbq ?_) | (refine zad (fun K hK => ?_)) | (refine zao ?_) | (refine za2 ?_) | (refine zbr ?_) | (refine za3 ?_))
      | (refine za0 ?_) | (refine zab ?_) | (refine zac ?_) | (refine zar ?_) | (refine zap ?_) | (refine zaq ?_) | (refine zan rfl ?_) | (refine zaf ?_) | (refine zag ?_) | (refine zbs ?_))
  all_goals exact zb3 rfl (zbo rfl) (by simp)
theorem k_iLatestTimes (e : Ens) (z : SzE e) : Con Try.prog 38 [.agg e.t.pv, .list 2 (e.L.map Scen.pv), .list 1 (ints e.src), .int .i64 e.st] (.tuple [.olist 3 1 (ints (exR false e)), .bool (opB (GoodEn e))]) := by
  intro al
  refine za6 hmix Try.func38 rfl (by kernel_rfl) (by kernel_rfl) (Nat.le_of_ble_eq_true rfl) (fun row h => by cases h) ?_
  have hty_a26 := ty_a26
  have hty_u51 := ty_u51
  have hty_s51 := ty_s51
  have hty_u24 := ty_u24
  have hty_s24 := ty_s24
  have hzn := z.hn
  have k1 := k_isBlaze e z
  by_cases hE : GoodEn e
  · rw [decide_eq_true hE] at k1
    rw [exR_t hE, opB_t hE]
    have kC := k_extremes e z hE false 97 k_LatestTimes1
    repeat' (first
      | (refine za1 ?_; first | (refine za5 ?_; refine zat _ rfl ?_) | (refine zae ?_; refine zaa _ rfl ?_) | (refine g_un ?_; first | (refine zce rfl ?_) | (refine zcd rfl aO ?_)) | (refine zbk ?_; first | (refine zaj aA rfl ?_) | (refine zak _ aA rfl rfl aE rfl ?_) | (refine zah _ aA rfl aZ aL ?_) | (refine zai _ aA rfl rfl aE aZ aL ?_)) | (refine za7 ?_; first | (refine za8 true (k1) rfl rfl rfl aS rfl aH ?_; simp only [cl]) | (refine za8 true (kC) rfl rfl rfl aS rfl aH ?_; simp only [cl])) | (refine zby _ _ rfl rfl rfl rfl ?_) | (refine zas (hK _ _ (.inl rfl) ?_); clear hK K) | (refine zas (hK _ _ (.inr (by kernel_rfl)) ?_); clear hK K))
      | (refine za4 ?_; first | (refine zbq ?_) | (refine zad (fun K hK => ?_)) | (refine zao ?_) | (refine za2 ?_) | (refine zbr ?_) | (refine za3 ?_) | (refine zbl ?_; first | (refine zam rfl aD ?_) | (refine zal rfl aD ?_) | (refine zaz rfl (fun h => ?_) (fun h => ?_) <;> (have h' := h; (try simp only [sx] at h')))))
      | (refine za0 ?_) | (refine zab ?_) | (refine zac ?_) | (refine zar ?_) | (refine zap ?_) | (refine zaq ?_) | (refine zan rfl ?_) | (refine zaf ?_) | (refine zag ?_) | (refine zbs ?_))
    all_goals first
      | (exfalso; omega)
      | exact aR
  · rw [decide_eq_false hE] at k1
    rw [exR_f hE, opB_f hE]
    repeat' (first
      | (refine za1 ?_; first | (refine za5 ?_; refine zat _ rfl ?_) | (refine zae ?_; refine zaa _ rfl ?_) | (refine g_un ?_; first | (refine zce rfl ?_) | (refine zcd rfl aO ?_)) | (refine zbk ?_; first | (refine zaj aA rfl ?_) | (refine zak _ aA rfl rfl aE rfl ?_) | (refine zah _ aA rfl aZ aL ?_) | (refine zai _ aA rfl rfl aE aZ aL ?_)) | (refine za7 ?_; refine za8 true (k1) rfl rfl rfl aS rfl aH ?_; simp only [cl]) | (refine zby _ _ rfl rfl rfl rfl ?_) | (refine zas (hK _ _ (.inl rfl) ?_); clear hK K) | (refine zas (hK _ _ (.inr (by kernel_rfl)) ?_); clear hK K))
      | (refine za4 ?_; first | (refine zbq ?_) | (refine zad (fun K hK => ?_)) | (refine zao ?_) | (refine za2 ?_) | (refine zbr ?_) | (refine za3 ?_) | (refine zbl ?_; first | (refine zam rfl aD ?_) | (refine zal rfl aD ?_) | (refine zaz rfl (fun h => ?_) (fun h => ?_) <;> (have h' := h; (try simp only [sx] at h')))))
      | (refine za0 ?_) | (refine zab ?_) | (refine zac ?_) | (refine zar ?_) | (refine zap ?_) | (refine zaq ?_) | (refine zan rfl ?_) | (refine zaf ?_) | (refine zag ?_) | (refine zbs ?_))
    all_goals first
      | (exfalso; omega)
      | exact aR
theorem k_sLatestTimes (e : Ens) (z : SzE e) : Con Try.prog 40 [.agg e.t.pv, .list 2 (e.L.map Scen.pv), .list 1 (ints e.src), .int .i64 e.st] (.tuple [.olist 3 1 (ints (exR false e)), .bool (opB (GoodEn e))]) := by
  intro al
  refine za6 hmix Try.func40 rfl (by kernel_rfl) (by kernel_rfl) (Nat.le_of_ble_eq_true rfl) (fun row h => by cases h) ?_
  have hty_a26 := ty_a26
  have hty_u51 := ty_u51
  have hty_s51 := ty_s51
  have hty_u24 := ty_u24
  have hty_s24 := ty_s24
  have hzn := z.hn
  have k1 := k_l8Asked e z
  by_cases hE : GoodEn e
  · rw [decide_eq_true hE] at k1
    rw [exR_t hE, opB_t hE]
    have kC := k_l8Times e z hE false
    repeat' (first
      | (refine za1 ?_; first | (refine za5 ?_; refine zat _ rfl ?_) | (refine zae ?_; refine zaa _ rfl ?_) | (refine g_un ?_; first | (refine zce rfl ?_) | (refine zcd rfl aO ?_)) | (refine zbk ?_; first | (refine zaj aA rfl ?_) | (refine zak _ aA rfl rfl aE rfl ?_) | (refine zah _ aA rfl aZ aL ?_) | (refine zai _ aA rfl rfl aE aZ aL ?_)) | (refine za7 ?_; first | (refine za8 true (k1) rfl rfl rfl aS rfl aH ?_; simp only [cl]) | (refine za8 true (kC) rfl rfl rfl aS rfl aH ?_; simp only [cl])) | (refine zbe aA rfl rfl rfl ?_) | (refine zby _ _ rfl rfl rfl rfl ?_) | (refine zas (hK _ _ (.inl rfl) ?_); clear hK K) | (refine zas (hK _ _ (.inr (by kernel_rfl)) ?_); clear hK K))
      | (refine za4 ?_; first | (refine zbq ?_) | (refine zad (fun K hK => ?_)) | (refine zao ?_) | (refine za2 ?_) | (refine zbr ?_) | (refine za3 ?_) | (refine zbl ?_; first | (refine zam rfl aD ?_) | (refine zal rfl aD ?_) | (refine zaz rfl (fun h => ?_) (fun h => ?_) <;> (have h' := h; (try simp only [sx] at h')))))
      | (refine za0 ?_) | (refine zab ?_) | (refine zac ?_) | (refine zar ?_) | (refine zap ?_) | (refine zaq ?_) | (refine zan rfl ?_) | (refine zaf ?_) | (refine zag ?_) | (refine zbs ?_))
    all_goals first
      | (exfalso; omega)
      | exact aR
  · rw [decide_eq_false hE] at k1
    rw [exR_f hE, opB_f hE]
    repeat' (first
      | (refine za1 ?_; first | (refine za5 ?_; refine zat _ rfl ?_) | (refine zae ?_; refine zaa _ rfl ?_) | (refine g_un ?_; first | (refine zce rfl ?_) | (refine zcd rfl aO ?_)) | (refine zbk ?_; first | (refine zaj aA rfl ?_) | (refine zak _ aA rfl rfl aE rfl ?_) | (refine zah _ aA rfl aZ aL ?_) | (refine zai _ aA rfl rfl aE aZ aL ?_)) | (refine za7 ?_; refine za8 true (k1) rfl rfl rfl aS rfl aH ?_; simp only [cl]) | (refine zbe aA rfl rfl rfl ?_) | (refine zby _ _ rfl rfl rfl rfl ?_) | (refine zas (hK _ _ (.inl rfl) ?_); clear hK K) | (refine zas (hK _ _ (.inr (by kernel_rfl)) ?_); clear hK K))
      | (refine za4 ?_; first | (refine zbq ?_) | (refine zad (fun K hK => ?_)) | (refine zao ?_) | (refine za2 ?_) | (refine zbr ?_) | (refine za3 ?_) | (refine zbl ?_; first | (refine zam rfl aD ?_) | (refine zal rfl aD ?_) | (refine zaz rfl (fun h => ?_) (fun h => ?_) <;> (have h' := h; (try simp only [sx] at h')))))
      | (refine za0 ?_) | (refine zab ?_) | (refine zac ?_) | (refine zar ?_) | (refine zap ?_) | (refine zaq ?_) | (refine zan rfl ?_) | (refine zaf ?_) | (refine zag ?_) | (refine zbs ?_))
    all_goals first
      | (exfalso; omega)
      | exact aR
end
end Go.Vs
set_option linter.unusedVariables false
set_option linter.unusedSimpArgs false
set_option maxRecDepth 100000
set_option maxHeartbeats 4000000
namespace Go.Vs
open Go.Proofs
attribute [local irreducible] exec vwp thenQ blkQ loopQ RetPost
theorem k_vBig (code : List Int) (g : code.length ≤ 9223372036854775807) : Con Try.prog 7 [.list 1 (bytesP code)] (.bool (decide (65536 < code.length))) := by
  intro al
  refine za6 hmix Try.func7 rfl (by kernel_rfl) (by kernel_rfl) (Nat.le_of_ble_eq_true rfl) (fun row h => by cases h) ?_
  have hty_u22 := ty_u22
  have hty_s22 := ty_s22
  have hl1 : (bytesP code).length = code.length := by simp
  repeat' (first
      | (refine za1 ?_; first | (refine za5 ?_; refine zat _ rfl ?_) | (refine zae ?_; refine zaa _ rfl ?_) | (refine zbv ?_; refine zbu _ rfl rfl rfl ?_) | (refine za7 ?_; first | (refine zba aA rfl ?_) | (refine zbb aA rfl rfl ?_) | (refine zbc aA rfl ?_) | (refine za9 aA (evO_ok rfl) ?_)) | (refine zas (hK _ _ (.inl rfl) ?_); clear hK K) | (refine zas (hK _ _ (.inr (by kernel_rfl)) ?_); clear hK K))
      | (refine za4 ?_; first | (refine zbq ?_) | (refine zad (fun K hK => ?_)) | (refine zao ?_) | (refine za2 ?_) | (refine zbr ?_) | (refine za3 ?_))
      | (refine za0 ?_) | (refine zab ?_) | (refine zac ?_) | (refine zar ?_) | (refine zap ?_) | (refine zaq ?_) | (refine zan rfl ?_) | (refine zaf ?_) | (refine zag ?_) | (refine zbs ?_))
  all_goals (refine zb3 rfl (zbo rfl) ?_; first | rfl | (simp; omega))
theorem k_vIntsS (xs : List Int) (hn : xs.length ≤ 1099511627776) : Con Try.prog 11 [.list 1 (ints xs), .list 1 (ints xs)] (.bool true) := by
  intro al
  refine za6 hmix Try.func11 rfl (by kernel_rfl) (by kernel_rfl) (Nat.le_of_ble_eq_true rfl) (fun row h => by cases h) ?_
  have hty_u24 := ty_u24
  have hty_s24 := ty_s24
  have hty_c3 := ty_c3
  have hl1 : (ints xs).length = xs.length := by simp
  repeat' (first
      | (refine za1 ?_; first | (refine za5 ?_; refine zat _ rfl ?_) | (refine zae ?_; refine zaa _ rfl ?_) | (refine zbv ?_; first | (refine zbz rfl rfl aO ?_) | (refine zbu _ rfl rfl rfl ?_) | (refine zb0 aA rfl rfl ?_) | (refine zaw _ rfl rfl rfl ?_)) | (refine zbk ?_; first | (refine zaj aA rfl ?_) | (refine zak _ aA rfl rfl aE rfl ?_) | (refine zah _ aA rfl aZ aL ?_) | (refine zai _ aA rfl rfl aE aZ aL ?_)) | (refine zbd ?_; first | (refine zau _ aA rfl rfl aO aA ?_) | (refine zav _ aA rfl rfl rfl rfl aO aO (by first | (rw [Nat.zero_add, Int.toNat_natCast]) | (rw [Nat.zero_add]) | rfl) ?_)) | (refine za7 ?_; first | (refine zba aA rfl ?_) | (refine zbb aA rfl rfl ?_) | (refine zbc aA rfl ?_) | (refine za9 aA (evO_ok rfl) ?_)) | (refine zas (hK _ _ (.inl rfl) ?_); clear hK K) | (refine zas (hK _ _ (.inr (by kernel_rfl)) ?_); clear hK K))
      | (refine za4 ?_; first | (refine zbq ?_) | (refine zad (fun K hK => ?_)) | (refine zao ?_) | (refine za2 ?_) | (refine zbr ?_) | (refine za3 ?_) | (refine zbl ?_; first | (refine zam rfl aD ?_) | (refine zal rfl aD ?_) | (refine zaz rfl (fun h => ?_) (fun h => ?_) <;> (have h' := h; (try simp only [sx] at h')))))
      | (refine za0 ?_) | (refine zab ?_) | (refine zac ?_) | (refine zar ?_) | (refine zap ?_) | (refine zaq ?_) | (refine zan rfl ?_) | (refine zaf ?_) | (refine zag ?_) | (refine zbs ?_))
  all_goals try (exfalso; omega)
  refine zcf [0, 1] [] (fun i : Nat => [(5, .int .i64 i)]) (fun i : Nat => []) (fun i : Nat => i ≤ xs.length) (fun i : Nat => xs.length - i) (0) rfl rfl (fun _ => rfl) (fun _ => rfl) rfl aW aO (fun i hi => ?_)
  rcases Nat.lt_or_ge i xs.length with hlt | hge
  · obtain ⟨a, ha⟩ := get_ex hlt
    have hx := ints_at ha
    repeat' (first
      | (refine za1 ?_; first | (refine za5 ?_; refine zat _ rfl ?_) | (refine zae ?_; refine zaa _ rfl ?_) | (refine zbv ?_; first | (refine zbz rfl rfl aO ?_) | (refine zbu _ rfl rfl rfl ?_) | (refine zb0 aA rfl rfl ?_) | (refine zaw _ rfl rfl rfl ?_)) | (refine zbk ?_; first | (refine zaj aA rfl ?_) | (refine zak _ aA rfl rfl aE rfl ?_) | (refine zah _ aA rfl aZ aL ?_) | (refine zai _ aA rfl rfl aE aZ aL ?_)) | (refine zbd ?_; first | (refine zau _ aA rfl rfl aO aA ?_) | (refine zav _ aA rfl rfl rfl rfl aO aO (by first | (rw [Nat.zero_add, Int.toNat_natCast]) | (rw [Nat.zero_add]) | rfl) ?_)) | (refine za7 ?_; first | (refine zba aA rfl ?_) | (refine zbb aA rfl rfl ?_) | (refine zbc aA rfl ?_) | (refine za9 aA (evO_ok rfl) ?_)) | (refine zas (hK _ _ (.inl rfl) ?_); clear hK K) | (refine zas (hK _ _ (.inr (by kernel_rfl)) ?_); clear hK K))
      | (refine za4 ?_; first | (refine zbq ?_) | (refine zad (fun K hK => ?_)) | (refine zao ?_) | (refine za2 ?_) | (refine zbr ?_) | (refine za3 ?_) | (refine zbl ?_; first | (refine zam rfl aD ?_) | (refine zal rfl aD ?_) | (refine zaz rfl (fun h => ?_) (fun h => ?_) <;> (have h' := h; (try simp only [sx] at h')))))
      | (refine za0 ?_) | (refine zab ?_) | (refine zac ?_) | (refine zar ?_) | (refine zap ?_) | (refine zaq ?_) | (refine zan rfl ?_) | (refine zaf ?_) | (refine zag ?_) | (refine zbs ?_))
    all_goals first
      | (exfalso; omega)
      | (refine zb9 (i + 1) rfl aW aO aO)
      | (exfalso; simp at *; done)
  · repeat' (first
      | (refine za1 ?_; first | (refine za5 ?_; refine zat _ rfl ?_) | (refine zae ?_; refine zaa _ rfl ?_) | (refine zbv ?_; first | (refine zbz rfl rfl aO ?_) | (refine zbu _ rfl rfl rfl ?_) | (refine zb0 aA rfl rfl ?_) | (refine zaw _ rfl rfl rfl ?_)) | (refine zbk ?_; first | (refine zaj aA rfl ?_) | (refine zak _ aA rfl rfl aE rfl ?_) | (refine zah _ aA rfl aZ aL ?_) | (refine zai _ aA rfl rfl aE aZ aL ?_)) | (refine zbd ?_; first | (refine zau _ aA rfl rfl aO aA ?_) | (refine zav _ aA rfl rfl rfl rfl aO aO (by first | (rw [Nat.zero_add, Int.toNat_natCast]) | (rw [Nat.zero_add]) | rfl) ?_)) | (refine za7 ?_; first | (refine zba aA rfl ?_) | (refine zbb aA rfl rfl ?_) | (refine zbc aA rfl ?_) | (refine za9 aA (evO_ok rfl) ?_)) | (refine zas (hK _ _ (.inl rfl) ?_); clear hK K) | (refine zas (hK _ _ (.inr (by kernel_rfl)) ?_); clear hK K))
      | (refine za4 ?_; first | (refine zbq ?_) | (refine zad (fun K hK => ?_)) | (refine zao ?_) | (refine za2 ?_) | (refine zbr ?_) | (refine za3 ?_) | (refine zbl ?_; first | (refine zam rfl aD ?_) | (refine zal rfl aD ?_) | (refine zaz rfl (fun h => ?_) (fun h => ?_) <;> (have h' := h; (try simp only [sx] at h')))))
      | (refine za0 ?_) | (refine zab ?_) | (refine zac ?_) | (refine zar ?_) | (refine zap ?_) | (refine zaq ?_) | (refine zan rfl ?_) | (refine zaf ?_) | (refine zag ?_) | (refine zbs ?_))
    all_goals first
      | (exfalso; omega)
      | exact zb3 rfl (zbo rfl) rfl
end Go.Vs
set_option linter.unusedVariables false
set_option linter.unusedSimpArgs false
namespace Go.Vs
theorem vwp_mono {P : Program} : ∀ (c : Code) (s : St) (Q1 Q2 : Exit → St → Prop), (∀ e s, Q1 e s → Q2 e s) → vwp P c s Q1 → vwp P c s Q2 := by
  have emono : ∀ (ops : Array Oper) (draw : Bool) (l : List Oper) (s : St) (tr : List (List Id × List Id)) (K1 K2 : St → List (List Id × List Id) → Prop), (∀ s tr, K1 s tr → K2 s tr) → exec P ops draw l s tr K1 → exec P ops draw l s tr K2 := by
    intro ops draw l
    induction l with
    | nil => intro s tr K1 K2 hK h; exact hK _ _ h
    | cons o l ih =>
      intro s tr K1 K2 hK h
      rcases h with ⟨hw, h⟩ | ⟨hw, ⟨f, hs, h⟩ | ⟨t, al, fz, ids, rd, ios, Post, hc, ⟨hd, h⟩ | ⟨r, fin, hu, h⟩⟩⟩
      · exact .inl ⟨hw, ih _ _ _ _ hK h⟩
      · exact .inr ⟨hw, .inl ⟨f, hs, ih _ _ _ _ hK h⟩⟩
      · exact .inr ⟨hw, .inr ⟨t, al, fz, ids, rd, ios, Post, hc, .inl ⟨hd, fun r fin hp hl => ih _ _ _ _ hK (h r fin hp hl)⟩⟩⟩
      · exact .inr ⟨hw, .inr ⟨t, al, fz, ids, rd, ios, Post, hc, .inr ⟨r, fin, hu, ih _ _ _ _ hK h⟩⟩⟩
  intro c
  induction c with
  | skip => intro s Q1 Q2 hQ h; exact hQ _ _ h
  | ret => intro s Q1 Q2 hQ h; exact hQ _ _ h
  | exit id => intro s Q1 Q2 hQ h; exact hQ _ _ h
  | region id ops draw => intro s Q1 Q2 hQ h; exact emono ops draw _ _ _ _ _ (fun s tr h => ⟨h.1, hQ _ _ h.2⟩) h
  | seq x y ihx ihy =>
    intro s Q1 Q2 hQ h
    refine ihx s _ _ ?_ h
    intro e s he
    cases e with
    | normal => obtain ⟨s2, hs2, he⟩ := he; exact ⟨s2, hs2, ihy s2 _ _ hQ he⟩
    | _ => exact hQ _ _ he
  | cond c x y ihx ihy => intro s Q1 Q2 hQ h; obtain ⟨b, h0, h1, h2⟩ := h; exact ⟨b, h0, fun hb => ihx s _ _ hQ (h1 hb), fun hb => ihy s _ _ hQ (h2 hb)⟩
  | block id x ihx =>
    intro s Q1 Q2 hQ h
    refine ihx s _ _ ?_ h
    intro e s he
    cases e with
    | exit id' =>
      simp only at he ⊢
      split
      · rename_i hid; rw [if_pos hid] at he; exact hQ _ _ he
      · rename_i hid; rw [if_neg hid] at he; exact hQ _ _ he
    | _ => exact hQ _ _ he
  | loop x ihx =>
    intro s Q1 Q2 hQ h
    obtain ⟨I, m, s0, h0, h1, h2⟩ := h
    refine ⟨I, m, s0, h0, h1, fun s' hs' => ihx s' _ _ ?_ (h2 s' hs')⟩
    intro e s he
    cases e with
    | normal => exact he
    | _ => exact hQ _ _ he
  | _ => intro s Q1 Q2 hQ h; exact h.elim
def ckey : Code → Nat
  | .region id _ _ => id
  | .cond (.tmp t) _ _ => 1000000 + t
  | .block id _ => 2000000 + id
  | .seq x _ => 3000000 + ckey x
  | _ => 9000000
section
variable {P : Program} {st : St} {Q : Exit → St → Prop} {x y z : Code}
theorem v_seqN (d : Nat) (hd : Nat.beq (ckey x) d = false) (h : vwp P x st (thenQ P y Q)) : vwp P (.seq x y) st Q := zbq h
theorem v_cutK {α : Type} (live : List Nat) (no : List Id) (var : α → List (Nat × PV)) (memv : α → List (Id × Option Row)) (R : α → Prop)
    {kept : List (Nat × PV)} {keptM : List (Id × Option Row)} {full : α → List (Nat × PV)} {fullM : α → List (Id × Option Row)}
    (hk : keepO st.env live = some kept) (hkm : keepM st.mem no kept = some keptM) (hf : ∀ a, appO (var a) kept = some (full a)) (hfm : ∀ a, appO (memv a) keptM = some (fullM a))
    (hx : vwp P x st (loopQ (fun s => ∃ a', s = ⟨full a', fullM a'⟩ ∧ R a' ∧ (fun _ : α => 0) a' < 1) (fun _ => 0) 1 Q))
    (hy : ∀ a, R a → vwp P y ⟨full a, fullM a⟩ Q) : vwp P (.seq x y) st Q := by
  refine zbq (vwp_mono x st _ _ ?_ hx)
  intro e s he
  cases e with
  | normal =>
    obtain ⟨s3, h1, ⟨a, rfl, h2, _⟩, _⟩ := he
    exact ⟨_, h1, hy a h2⟩
  | _ => exact he
end
end Go.Vs
set_option linter.unusedVariables false
set_option linter.unusedSimpArgs false
set_option maxRecDepth 100000
set_option maxHeartbeats 4000000
namespace Go.Vs
open Go.Proofs
attribute [local irreducible] exec vwp thenQ blkQ loopQ RetPost
theorem EnsB.zz {e : Ens} (h : EnsB e) : SzE e := by
  have h1 := h.t.2.2
  have h2 := h.len
  have h3 := h.src
  exact ⟨by omega, by omega, fun s hs => by have := h.ph s hs; omega, by omega⟩
theorem fr_le {p q : Int} (hq : 1 ≤ q) (h : p ≤ q) : frN p q ≤ frD p q := by
  have := (fracE_le (p := p) (q := q) (n := 1) hq).2 aO
  simp only [frN, frD]
  omega
theorem fr_zero {q : Int} : frN 0 q = 0 := by simp [frN]
theorem fr_pos {p q : Int} (hq : 1 ≤ q) (hp : 0 < p) : 0 < frN p q := (fracE_all (p := p) hq aO).2.1.2 hp
theorem above_le {e : Ens} (h : GoodEn e) (p : Scen → Bool) : sumBy (wIfS p) e.L ≤ wgtE e := sum_le fun s hs => by
  have := (h.2.1.1 s hs).2
  unfold wIfS wtS
  split <;> omega
theorem law_FnScenarios (code : List Int) (g : code.length ≤ 9223372036854775807) (hb : ∀ b ∈ code, 0 ≤ b ∧ b ≤ 255) : Con Try.prog 5 [.list 1 (bytesP code)] (.bool true) := by
  intro al
  refine za6 hmix Try.func5 rfl (by kernel_rfl) (by kernel_rfl) (Nat.le_of_ble_eq_true rfl) (fun row h => by cases h) ?_
  have hty_u22 := ty_u22
  have hty_s22 := ty_s22
  have hty_z26 := ty_z26
  have hty_t26 := ty_t26
  have hty_a26 := ty_a26
  have hty_u51 := ty_u51
  have hty_s51 := ty_s51
  have hty_u24 := ty_u24
  have hty_s24 := ty_s24
  have hty_u4 := ty_u4
  have hty_f56_0 := ty_f56_0
  have hty_c27 := ty_c27
  have hty_u27 := ty_u27
  have hty_s27 := ty_s27
  have hty_c3 := ty_c3
  have kb := k_vBig code g
  by_cases hbig : 65536 < code.length
  · rw [decide_eq_true hbig] at kb
    repeat' (first
      | (refine za1 ?_; first | (refine za5 ?_; refine zat _ rfl ?_) | (refine zae ?_; refine zaa _ rfl ?_) | (refine zbv ?_; first | (refine zbz rfl rfl aO ?_) | (refine zcg rfl rfl aO ?_) | (refine zbu _ rfl rfl rfl ?_) | (refine zbt aA rfl rfl ?_) | (refine zb0 aA rfl rfl ?_) | (refine zaw _ rfl rfl rfl ?_)) | (refine g_un ?_; first | (refine zce rfl ?_) | (refine zcd rfl aO ?_)) | (refine zbk ?_; first | (refine zaj aA rfl ?_) | (refine zak _ aA rfl rfl aE rfl ?_) | (refine zah _ aA rfl aZ aL ?_) | (refine zai _ aA rfl rfl aE aZ aL ?_)) | (refine zbm ?_; first | (refine zax _ aA rfl aL ?_) | (refine zay _ aA rfl rfl (by simp only [lx, Nat.reduceAdd]; first | done | rfl) ?_)) | (refine zbd ?_; first | (refine zau _ aA rfl rfl aO aA ?_) | (refine zav _ aA rfl rfl rfl rfl aO aO (by first | (rw [Nat.zero_add, Int.toNat_natCast]) | (rw [Nat.zero_add]) | rfl) ?_)) | (refine zbx ?_; first | (refine zbf rfl aD rfl ?_) | (refine zbh rfl aD ?_) | (refine zbi rfl aD ?_) | (refine zbg rfl aD rfl ?_)) | (refine zbp ?_; first | (refine zbw rfl rfl aD ?_) | (refine zb4 rfl rfl aD ?_) | (refine zb5 rfl rfl ?_) | (refine zbj rfl rfl (fun h => ?_) (fun h => ?_) <;> (have h' := h; (try simp only [sx] at h')))) | (refine za7 ?_; first | (refine za8 true (kb) rfl rfl rfl aS rfl aH ?_; simp only [cl]) | (refine zba aA rfl ?_) | (refine zbb aA rfl rfl ?_) | (refine zbc aA rfl ?_) | (refine za9 aA (evO_ok rfl) ?_)) | (refine zca _ aA rfl ?_) | (refine zb2 aA rfl ?_) | (refine zbn _ _ _ rfl rfl aE (by first | assumption | (exact TAgg.size aA)) rfl rfl rfl aZ rfl aL (by first | (first | (simp only [lx, Nat.reduceAdd]; first | done | rfl) | fail) | rfl) ?_) | (refine zcc _ rfl rfl ?_) | (refine zas (hK _ _ (.inl rfl) ?_); clear hK K) | (refine zas (hK _ _ (.inr (by kernel_rfl)) ?_); clear hK K))
      | (refine za4 ?_; first | (refine zbq ?_) | (refine zad (fun K hK => ?_)) | (refine zao ?_) | (refine za2 ?_) | (refine zbr ?_) | (refine za3 ?_) | (refine zbl ?_; first | (refine zam rfl aD ?_) | (refine zal rfl aD ?_) | (refine zaz rfl (fun h => ?_) (fun h => ?_) <;> (have h' := h; (try simp only [sx] at h')))))
      | (refine za0 ?_) | (refine zab ?_) | (refine zac ?_) | (refine zar ?_) | (refine zap ?_) | (refine zaq ?_) | (refine zan rfl ?_) | (refine zaf ?_) | (refine zag ?_) | (refine zbs ?_))
    exact zb3 rfl (zbo rfl) rfl
  · rw [decide_eq_false hbig] at kb
    have hz : CodeOk code := ⟨by omega, hb⟩
    repeat' (first
      | (refine za1 ?_; first | (refine za5 ?_; refine zat _ rfl ?_) | (refine zae ?_; refine zaa _ rfl ?_) | (refine zbv ?_; first | (refine zbz rfl rfl aO ?_) | (refine zcg rfl rfl aO ?_) | (refine zbu _ rfl rfl rfl ?_) | (refine zbt aA rfl rfl ?_) | (refine zb0 aA rfl rfl ?_) | (refine zaw _ rfl rfl rfl ?_)) | (refine g_un ?_; first | (refine zce rfl ?_) | (refine zcd rfl aO ?_)) | (refine zbk ?_; first | (refine zaj aA rfl ?_) | (refine zak _ aA rfl rfl aE rfl ?_) | (refine zah _ aA rfl aZ aL ?_) | (refine zai _ aA rfl rfl aE aZ aL ?_)) | (refine zbm ?_; first | (refine zax _ aA rfl aL ?_) | (refine zay _ aA rfl rfl (by simp only [lx, Nat.reduceAdd]; first | done | rfl) ?_)) | (refine zbd ?_; first | (refine zau _ aA rfl rfl aO aA ?_) | (refine zav _ aA rfl rfl rfl rfl aO aO (by first | (rw [Nat.zero_add, Int.toNat_natCast]) | (rw [Nat.zero_add]) | rfl) ?_)) | (refine zbx ?_; first | (refine zbf rfl aD rfl ?_) | (refine zbh rfl aD ?_) | (refine zbi rfl aD ?_) | (refine zbg rfl aD rfl ?_)) | (refine zbp ?_; first | (refine zbw rfl rfl aD ?_) | (refine zb4 rfl rfl aD ?_) | (refine zb5 rfl rfl ?_) | (refine zbj rfl rfl (fun h => ?_) (fun h => ?_) <;> (have h' := h; (try simp only [sx] at h')))) | (refine za7 ?_; first | (refine za8 true (kb) rfl rfl rfl aS rfl aH ?_; simp only [cl]) | (refine x_callLP [] (k_DrawEarliest code hz) rfl rfl (by (repeat' (first | exact trivial | refine ⟨⟨_, rfl, ?_⟩, ?_⟩ | exact .inl ⟨rfl, .inl rfl⟩ | exact .inr ⟨rfl, rfl, rfl, rfl, rfl, fun e he u hu => by (simp only [List.mem_cons, List.not_mem_nil, or_false] at he; subst he; simp only [List.mem_cons, List.not_mem_nil, or_false] at hu; subst hu; rfl)⟩ | exact .inl ⟨rfl, .inr (fun e he => by (simp only [List.mem_cons, List.not_mem_nil, or_false] at he; subst he; rfl))⟩ | fail)); first | done | fail) rfl rfl aS rfl (fun r_ fin_ hP_ => ?_); obtain ⟨e, ⟨rfl, rfl⟩, hB⟩ := hP_; refine ⟨_, _, _, aH, rfl, ?_⟩; simp only [cl]) | (refine zba aA rfl ?_) | (refine zbb aA rfl rfl ?_) | (refine zbc aA rfl ?_) | (refine za9 aA (evO_ok rfl) ?_)) | (refine zca _ aA rfl ?_) | (refine zb2 aA rfl ?_) | (refine zbn _ _ _ rfl rfl aE (by first | assumption | (exact TAgg.size aA)) rfl rfl rfl aZ rfl aL (by first | (first | (simp only [lx, Nat.reduceAdd]; first | done | rfl) | fail) | rfl) ?_) | (refine zcc _ rfl rfl ?_) | (refine zas (hK _ _ (.inl rfl) ?_); clear hK K) | (refine zas (hK _ _ (.inr (by kernel_rfl)) ?_); clear hK K))
      | (refine za4 ?_; first | (refine zbq ?_) | (refine zad (fun K hK => ?_)) | (refine zao ?_) | (refine za2 ?_) | (refine zbr ?_) | (refine za3 ?_) | (refine zbl ?_; first | (refine zam rfl aD ?_) | (refine zal rfl aD ?_) | (refine zaz rfl (fun h => ?_) (fun h => ?_) <;> (have h' := h; (try simp only [sx] at h')))))
      | (refine za0 ?_) | (refine zab ?_) | (refine zac ?_) | (refine zar ?_) | (refine zap ?_) | (refine zaq ?_) | (refine zan rfl ?_) | (refine zaf ?_) | (refine zag ?_) | (refine zbs ?_))
    have z := hB.zz
    have hB1 := hB.t.2.2
    have hB2 := hB.len
    have kE1 := (Con.a (k_iEarliestTimes e z)).frz rfl
    have kE2 := (Con.a (k_sEarliestTimes e z)).frz rfl
    have kL1 := (Con.a (k_iLatestTimes e z)).frz rfl
    have kL2 := (Con.a (k_sLatestTimes e z)).frz rfl
    simp only [frz, frz2, List.map_cons, List.map_nil] at kE1 kE2 kL1 kL2
    have hel := exR_len true e
    have hll := exR_len false e
    have kI1 := k_vIntsS (exR true e) aO
    have kI2 := k_vIntsS (exR false e) aO
    have hok := opB_of (p := GoodEn e)
    have hX : opB (GoodEn e) = true → exR true e = exL true e e.L.length ∧ exR false e = exL false e e.L.length := fun h => ⟨exR_t (opB_of h), exR_t (opB_of h)⟩
    generalize hEE : exR true e = E at *
    generalize hLL : exR false e = La at *
    generalize opB (GoodEn e) = o at *
    repeat' (first
      | (refine za1 ?_; first | (refine za5 ?_; refine zat _ rfl ?_) | (refine zae ?_; refine zaa _ rfl ?_) | (refine zbv ?_; first | (refine zbz rfl rfl aO ?_) | (refine zcg rfl rfl aO ?_) | (refine zbu _ rfl rfl rfl ?_) | (refine zbt aA rfl rfl ?_) | (refine zb0 aA rfl rfl ?_) | (refine zaw _ rfl rfl rfl ?_)) | (refine g_un ?_; first | (refine zce rfl ?_) | (refine zcd rfl aO ?_)) | (refine zbk ?_; first | (refine zaj aA rfl ?_) | (refine zak _ aA rfl rfl aE rfl ?_) | (refine zah _ aA rfl aZ aL ?_) | (refine zai _ aA rfl rfl aE aZ aL ?_)) | (refine zbm ?_; first | (refine zax _ aA rfl aL ?_) | (refine zay _ aA rfl rfl (by simp only [lx, Nat.reduceAdd]; first | done | rfl) ?_)) | (refine zbd ?_; first | (refine zau _ aA rfl rfl aO aA ?_) | (refine zav _ aA rfl rfl rfl rfl aO aO (by first | (rw [Nat.zero_add, Int.toNat_natCast]) | (rw [Nat.zero_add]) | rfl) ?_)) | (refine zbx ?_; first | (refine zbf rfl aD rfl ?_) | (refine zbh rfl aD ?_) | (refine zbi rfl aD ?_) | (refine zbg rfl aD rfl ?_)) | (refine zbp ?_; first | (refine zbw rfl rfl aD ?_) | (refine zb4 rfl rfl aD ?_) | (refine zb5 rfl rfl ?_) | (refine zbj rfl rfl (fun h => ?_) (fun h => ?_) <;> (have h' := h; (try simp only [sx] at h')))) | (refine za7 ?_; first | (refine x_callA true (kE1) rfl rfl rfl rfl rfl aS rfl aH ?_; simp only [cl]) | (refine x_callA true (kE2) rfl rfl rfl rfl rfl aS rfl aH ?_; simp only [cl]) | (refine x_callA true (kL1) rfl rfl rfl rfl rfl aS rfl aH ?_; simp only [cl]) | (refine x_callA true (kL2) rfl rfl rfl rfl rfl aS rfl aH ?_; simp only [cl]) | (refine za8 true (kI1) rfl rfl rfl aS rfl aH ?_; simp only [cl]) | (refine za8 true (kI2) rfl rfl rfl aS rfl aH ?_; simp only [cl]) | (refine zba aA rfl ?_) | (refine zbb aA rfl rfl ?_) | (refine zbc aA rfl ?_) | (refine za9 aA (evO_ok rfl) ?_)) | (refine zca _ aA rfl ?_) | (refine zb2 aA rfl ?_) | (refine zbn _ _ _ rfl rfl aE (by first | assumption | (exact TAgg.size aA)) rfl rfl rfl aZ rfl aL (by first | (first | (simp only [lx, Nat.reduceAdd]; first | done | rfl) | fail) | rfl) ?_) | (refine zcc _ rfl rfl ?_) | (refine zas (hK _ _ (.inl rfl) ?_); clear hK K) | (refine zas (hK _ _ (.inr (by kernel_rfl)) ?_); clear hK K))
      | (refine za4 ?_; first | (refine v_seqN 3000012 rfl ?_) | (refine zad (fun K hK => ?_)) | (refine zao ?_) | (refine za2 ?_) | (refine zbr ?_) | (refine za3 ?_) | (refine zbl ?_; first | (refine zam rfl aD ?_) | (refine zal rfl aD ?_) | (refine zaz rfl (fun h => ?_) (fun h => ?_) <;> (have h' := h; (try simp only [sx] at h')))))
      | (refine za0 ?_) | (refine zab ?_) | (refine zac ?_) | (refine zar ?_) | (refine zap ?_) | (refine zaq ?_) | (refine zan rfl ?_) | (refine zaf ?_) | (refine zag ?_) | (refine zbs ?_))
    all_goals try (exfalso; simp at *; done)
    refine v_cutK [0] [] (fun u_ : Unit => []) (fun u_ : Unit => []) (fun u_ : Unit => True) rfl rfl (fun _ => rfl) (fun _ => rfl) ?_ (fun u_ hu_ => ?_)
    · cases o
      · repeat' (first
      | (refine za1 ?_; first | (refine za5 ?_; refine zat _ rfl ?_) | (refine zae ?_; refine zaa _ rfl ?_) | (refine zbv ?_; first | (refine zbz rfl rfl aO ?_) | (refine zcg rfl rfl aO ?_) | (refine zbu _ rfl rfl rfl ?_) | (refine zbt aA rfl rfl ?_) | (refine zb0 aA rfl rfl ?_) | (refine zaw _ rfl rfl rfl ?_)) | (refine g_un ?_; first | (refine zce rfl ?_) | (refine zcd rfl aO ?_)) | (refine zbk ?_; first | (refine zaj aA rfl ?_) | (refine zak _ aA rfl rfl aE rfl ?_) | (refine zah _ aA rfl aZ aL ?_) | (refine zai _ aA rfl rfl aE aZ aL ?_)) | (refine zbm ?_; first | (refine zax _ aA rfl aL ?_) | (refine zay _ aA rfl rfl (by simp only [lx, Nat.reduceAdd]; first | done | rfl) ?_)) | (refine zbd ?_; first | (refine zau _ aA rfl rfl aO aA ?_) | (refine zav _ aA rfl rfl rfl rfl aO aO (by first | (rw [Nat.zero_add, Int.toNat_natCast]) | (rw [Nat.zero_add]) | rfl) ?_)) | (refine zbx ?_; first | (refine zbf rfl aD rfl ?_) | (refine zbh rfl aD ?_) | (refine zbi rfl aD ?_) | (refine zbg rfl aD rfl ?_)) | (refine zbp ?_; first | (refine zbw rfl rfl aD ?_) | (refine zb4 rfl rfl aD ?_) | (refine zb5 rfl rfl ?_) | (refine zbj rfl rfl (fun h => ?_) (fun h => ?_) <;> (have h' := h; (try simp only [sx] at h')))) | (refine za7 ?_; first | (refine zba aA rfl ?_) | (refine zbb aA rfl rfl ?_) | (refine zbc aA rfl ?_) | (refine za9 aA (evO_ok rfl) ?_)) | (refine zca _ aA rfl ?_) | (refine zb2 aA rfl ?_) | (refine zbn _ _ _ rfl rfl aE (by first | assumption | (exact TAgg.size aA)) rfl rfl rfl aZ rfl aL (by first | (first | (simp only [lx, Nat.reduceAdd]; first | done | rfl) | fail) | rfl) ?_) | (refine zcc _ rfl rfl ?_) | (refine zas (hK _ _ (.inl rfl) ?_); clear hK K) | (refine zas (hK _ _ (.inr (by kernel_rfl)) ?_); clear hK K))
      | (refine za4 ?_; first | (refine zbq ?_) | (refine zad (fun K hK => ?_)) | (refine zao ?_) | (refine za2 ?_) | (refine zbr ?_) | (refine za3 ?_) | (refine zbl ?_; first | (refine zam rfl aD ?_) | (refine zal rfl aD ?_) | (refine zaz rfl (fun h => ?_) (fun h => ?_) <;> (have h' := h; (try simp only [sx] at h')))))
      | (refine za0 ?_) | (refine zab ?_) | (refine zac ?_) | (refine zar ?_) | (refine zap ?_) | (refine zaq ?_) | (refine zan rfl ?_) | (refine zaf ?_) | (refine zag ?_) | (refine zbs ?_))
        all_goals (refine zb9 () rfl aW trivial (by decide))
      have hE := hok rfl
      obtain ⟨rfl, rfl⟩ := hX rfl
      clear kE1 kE2 kL1 kL2 kI1 kI2 hX hok hEE hLL
      have hlen := goodT_len hE.1.1
      have hl1 : (e.L.map Scen.pv).length = e.L.length := by simp
      have hx1 := exL_len true e e.L.length
      have hx2 := exL_len false e e.L.length
      have hlx1 : (ints (exL true e e.L.length)).length = e.t.burn.length := by rw [ints_len, hx1]
      have hlx2 : (ints (exL false e e.L.length)).length = e.t.burn.length := by rw [ints_len, hx2]
      repeat' (first
      | (refine za1 ?_; first | (refine za5 ?_; refine zat _ rfl ?_) | (refine zae ?_; refine zaa _ rfl ?_) | (refine zbv ?_; first | (refine zbz rfl rfl aO ?_) | (refine zcg rfl rfl aO ?_) | (refine zbu _ rfl rfl rfl ?_) | (refine zbt aA rfl rfl ?_) | (refine zb0 aA rfl rfl ?_) | (refine zaw _ rfl rfl rfl ?_)) | (refine g_un ?_; first | (refine zce rfl ?_) | (refine zcd rfl aO ?_)) | (refine zbk ?_; first | (refine zaj aA rfl ?_) | (refine zak _ aA rfl rfl aE rfl ?_) | (refine zah _ aA rfl aZ aL ?_) | (refine zai _ aA rfl rfl aE aZ aL ?_)) | (refine zbm ?_; first | (refine zax _ aA rfl aL ?_) | (refine zay _ aA rfl rfl (by simp only [lx, Nat.reduceAdd]; first | done | rfl) ?_)) | (refine zbd ?_; first | (refine zau _ aA rfl rfl aO aA ?_) | (refine zav _ aA rfl rfl rfl rfl aO aO (by first | (rw [Nat.zero_add, Int.toNat_natCast]) | (rw [Nat.zero_add]) | rfl) ?_)) | (refine zbx ?_; first | (refine zbf rfl aD rfl ?_) | (refine zbh rfl aD ?_) | (refine zbi rfl aD ?_) | (refine zbg rfl aD rfl ?_)) | (refine zbp ?_; first | (refine zbw rfl rfl aD ?_) | (refine zb4 rfl rfl aD ?_) | (refine zb5 rfl rfl ?_) | (refine zbj rfl rfl (fun h => ?_) (fun h => ?_) <;> (have h' := h; (try simp only [sx] at h')))) | (refine za7 ?_; first | (refine zba aA rfl ?_) | (refine zbb aA rfl rfl ?_) | (refine zbc aA rfl ?_) | (refine za9 aA (evO_ok rfl) ?_)) | (refine zca _ aA rfl ?_) | (refine zb2 aA rfl ?_) | (refine zbn _ _ _ rfl rfl aE (by first | assumption | (exact TAgg.size aA)) rfl rfl rfl aZ rfl aL (by first | (first | (simp only [lx, Nat.reduceAdd]; first | done | rfl) | fail) | rfl) ?_) | (refine zcc _ rfl rfl ?_) | (refine zas (hK _ _ (.inl rfl) ?_); clear hK K) | (refine zas (hK _ _ (.inr (by kernel_rfl)) ?_); clear hK K))
      | (refine za4 ?_; first | (refine zbq ?_) | (refine zad (fun K hK => ?_)) | (refine zao ?_) | (refine za2 ?_) | (refine zbr ?_) | (refine za3 ?_) | (refine zbl ?_; first | (refine zam rfl aD ?_) | (refine zal rfl aD ?_) | (refine zaz rfl (fun h => ?_) (fun h => ?_) <;> (have h' := h; (try simp only [sx] at h')))))
      | (refine za0 ?_) | (refine zab ?_) | (refine zac ?_) | (refine zar ?_) | (refine zap ?_) | (refine zaq ?_) | (refine zan rfl ?_) | (refine zaf ?_) | (refine zag ?_) | (refine zbs ?_))
      all_goals try (exfalso; omega)
      refine zcf [0, 3, 4, 5, 6, 7, 9] [] (fun i : Nat => [(15, .int .i64 i)]) (fun i : Nat => []) (fun i : Nat => i ≤ e.L.length) (fun i : Nat => e.L.length - i) (0) rfl rfl (fun _ => rfl) (fun _ => rfl) rfl aW aO (fun i hi => ?_)
      rcases Nat.lt_or_ge i e.L.length with hlt | hge
      · obtain ⟨a, hga⟩ := get_ex hlt
        have hx := Scen.at hga
        have ham := get_mem hga
        have hGa := hE.b ham
        have zb : SzB (e.bz a) := ⟨by show e.t.burn.length ≤ _; omega, by have := hB.ph a ham; show a.phases.length ≤ _; omega, by have := hB.src; show e.src.length ≤ _; omega⟩
        have kA : ConA Try.prog 9 [.agg e.t.pv, .list 2 (a.phases.map Phase.pv), .list 1 (ints e.src), .int .i64 e.st] (.tuple [.list 1 (ints (arL (e.bz a))), .bool (decide (GoodB (e.bz a)))]) := (Con.a (k_iArr (e.bz a) zb)).frz rfl
        rw [decide_eq_true hGa, show arL (e.bz a) = arr (e.bz a) by unfold arL; rw [if_pos hGa]] at kA
        have hal : (arr (e.bz a)).length = e.t.burn.length := arr_len hGa
        have hla : (ints (arr (e.bz a))).length = e.t.burn.length := by rw [ints_len, hal]
        repeat' (first
      | (refine za1 ?_; first | (refine za5 ?_; refine zat _ rfl ?_) | (refine zae ?_; refine zaa _ rfl ?_) | (refine zbv ?_; first | (refine zbz rfl rfl aO ?_) | (refine zcg rfl rfl aO ?_) | (refine zbu _ rfl rfl rfl ?_) | (refine zbt aA rfl rfl ?_) | (refine zb0 aA rfl rfl ?_) | (refine zaw _ rfl rfl rfl ?_)) | (refine g_un ?_; first | (refine zce rfl ?_) | (refine zcd rfl aO ?_)) | (refine zbk ?_; first | (refine zaj aA rfl ?_) | (refine zak _ aA rfl rfl aE rfl ?_) | (refine zah _ aA rfl aZ aL ?_) | (refine zai _ aA rfl rfl aE aZ aL ?_)) | (refine zbm ?_; first | (refine zax _ aA rfl aL ?_) | (refine zay _ aA rfl rfl (by simp only [lx, Nat.reduceAdd]; first | done | rfl) ?_)) | (refine zbd ?_; first | (refine zau _ aA rfl rfl aO aA ?_) | (refine zav _ aA rfl rfl rfl rfl aO aO (by first | (rw [Nat.zero_add, Int.toNat_natCast]) | (rw [Nat.zero_add]) | rfl) ?_)) | (refine zbx ?_; first | (refine zbf rfl aD rfl ?_) | (refine zbh rfl aD ?_) | (refine zbi rfl aD ?_) | (refine zbg rfl aD rfl ?_)) | (refine zbp ?_; first | (refine zbw rfl rfl aD ?_) | (refine zb4 rfl rfl aD ?_) | (refine zb5 rfl rfl ?_) | (refine zbj rfl rfl (fun h => ?_) (fun h => ?_) <;> (have h' := h; (try simp only [sx] at h')))) | (refine za7 ?_; first | (refine x_callA true (kA) rfl rfl rfl rfl rfl aS rfl aH ?_; simp only [cl]) | (refine zba aA rfl ?_) | (refine zbb aA rfl rfl ?_) | (refine zbc aA rfl ?_) | (refine za9 aA (evO_ok rfl) ?_)) | (refine zca _ aA rfl ?_) | (refine zb2 aA rfl ?_) | (refine zbn _ _ _ rfl rfl aE (by first | assumption | (exact TAgg.size aA)) rfl rfl rfl aZ rfl aL (by first | (first | (simp only [lx, Nat.reduceAdd]; first | done | rfl) | fail) | rfl) ?_) | (refine zcc _ rfl rfl ?_) | (refine zas (hK _ _ (.inl rfl) ?_); clear hK K) | (refine zas (hK _ _ (.inr (by kernel_rfl)) ?_); clear hK K))
      | (refine za4 ?_; first | (refine zbq ?_) | (refine zad (fun K hK => ?_)) | (refine zao ?_) | (refine za2 ?_) | (refine zbr ?_) | (refine za3 ?_) | (refine zbl ?_; first | (refine zam rfl aD ?_) | (refine zal rfl aD ?_) | (refine zaz rfl (fun h => ?_) (fun h => ?_) <;> (have h' := h; (try simp only [sx] at h')))))
      | (refine za0 ?_) | (refine zab ?_) | (refine zac ?_) | (refine zar ?_) | (refine zap ?_) | (refine zaq ?_) | (refine zan rfl ?_) | (refine zaf ?_) | (refine zag ?_) | (refine zbs ?_))
        all_goals try (exfalso; omega)
        all_goals try (exfalso; simp at *; done)
        refine zcf [0, 3, 4, 5, 6, 7, 9, 15, 16] [] (fun j : Nat => [(18, .int .i64 j)]) (fun j : Nat => []) (fun j : Nat => j ≤ e.t.burn.length) (fun j : Nat => e.t.burn.length - j) (0) rfl rfl (fun _ => rfl) (fun _ => rfl) rfl aW aO (fun j hj => ?_)
        rcases Nat.lt_or_ge j e.t.burn.length with hlt2 | hge2
        · have hjc : IsCell e.t (j : Int) := ⟨by omega, by omega⟩
          have hxT : (ints (arr (e.bz a)))[j]? = some [.int .i64 (tv (arr (e.bz a)) (j : Int))] := by have := tv_int (T := arr (e.bz a)) (c := (j : Int)) (by rw [Int.toNat_natCast]; omega); rwa [Int.toNat_natCast] at this
          have hxE : (ints (exL true e e.L.length))[j]? = some [.int .i64 (tv (exL true e e.L.length) (j : Int))] := by have := tv_int (T := exL true e e.L.length) (c := (j : Int)) (by rw [Int.toNat_natCast]; omega); rwa [Int.toNat_natCast] at this
          have hxL : (ints (exL false e e.L.length))[j]? = some [.int .i64 (tv (exL false e e.L.length) (j : Int))] := by have := tv_int (T := exL false e e.L.length) (c := (j : Int)) (by rw [Int.toNat_natCast]; omega); rwa [Int.toNat_natCast] at this
          have g1 := ((exF_take hE hjc true e.L.length (Nat.le_refl _)).2 i a hlt hga).2
          have g2 := ((exF_take hE hjc false e.L.length (Nat.le_refl _)).2 i a hlt hga).2
          rw [if_pos rfl, ← exL_tv hjc] at g1
          rw [if_neg (by simp), ← exL_tv hjc] at g2
          generalize tv (arr (e.bz a)) (j : Int) = v1 at *
          generalize tv (exL true e e.L.length) (j : Int) = v2 at *
          generalize tv (exL false e e.L.length) (j : Int) = v3 at *
          repeat' (first
      | (refine za1 ?_; first | (refine za5 ?_; refine zat _ rfl ?_) | (refine zae ?_; refine zaa _ rfl ?_) | (refine zbv ?_; first | (refine zbz rfl rfl aO ?_) | (refine zcg rfl rfl aO ?_) | (refine zbu _ rfl rfl rfl ?_) | (refine zbt aA rfl rfl ?_) | (refine zb0 aA rfl rfl ?_) | (refine zaw _ rfl rfl rfl ?_)) | (refine g_un ?_; first | (refine zce rfl ?_) | (refine zcd rfl aO ?_)) | (refine zbk ?_; first | (refine zaj aA rfl ?_) | (refine zak _ aA rfl rfl aE rfl ?_) | (refine zah _ aA rfl aZ aL ?_) | (refine zai _ aA rfl rfl aE aZ aL ?_)) | (refine zbm ?_; first | (refine zax _ aA rfl aL ?_) | (refine zay _ aA rfl rfl (by simp only [lx, Nat.reduceAdd]; first | done | rfl) ?_)) | (refine zbd ?_; first | (refine zau _ aA rfl rfl aO aA ?_) | (refine zav _ aA rfl rfl rfl rfl aO aO (by first | (rw [Nat.zero_add, Int.toNat_natCast]) | (rw [Nat.zero_add]) | rfl) ?_)) | (refine zbx ?_; first | (refine zbf rfl aD rfl ?_) | (refine zbh rfl aD ?_) | (refine zbi rfl aD ?_) | (refine zbg rfl aD rfl ?_)) | (refine zbp ?_; first | (refine zbw rfl rfl aD ?_) | (refine zb4 rfl rfl aD ?_) | (refine zb5 rfl rfl ?_) | (refine zbj rfl rfl (fun h => ?_) (fun h => ?_) <;> (have h' := h; (try simp only [sx] at h')))) | (refine za7 ?_; first | (refine zba aA rfl ?_) | (refine zbb aA rfl rfl ?_) | (refine zbc aA rfl ?_) | (refine za9 aA (evO_ok rfl) ?_)) | (refine zca _ aA rfl ?_) | (refine zb2 aA rfl ?_) | (refine zbn _ _ _ rfl rfl aE (by first | assumption | (exact TAgg.size aA)) rfl rfl rfl aZ rfl aL (by first | (first | (simp only [lx, Nat.reduceAdd]; first | done | rfl) | fail) | rfl) ?_) | (refine zcc _ rfl rfl ?_) | (refine zas (hK _ _ (.inl rfl) ?_); clear hK K) | (refine zas (hK _ _ (.inr (by kernel_rfl)) ?_); clear hK K))
      | (refine za4 ?_; first | (refine zbq ?_) | (refine zad (fun K hK => ?_)) | (refine zao ?_) | (refine za2 ?_) | (refine zbr ?_) | (refine za3 ?_) | (refine zbl ?_; first | (refine zam rfl aD ?_) | (refine zal rfl aD ?_) | (refine zaz rfl (fun h => ?_) (fun h => ?_) <;> (have h' := h; (try simp only [sx] at h')))))
      | (refine za0 ?_) | (refine zab ?_) | (refine zac ?_) | (refine zar ?_) | (refine zap ?_) | (refine zaq ?_) | (refine zan rfl ?_) | (refine zaf ?_) | (refine zag ?_) | (refine zbs ?_))
          all_goals first
            | (exfalso; omega)
            | (refine zb9 (j + 1) rfl aW aO aO)
        · repeat' (first
      | (refine za1 ?_; first | (refine za5 ?_; refine zat _ rfl ?_) | (refine zae ?_; refine zaa _ rfl ?_) | (refine zbv ?_; first | (refine zbz rfl rfl aO ?_) | (refine zcg rfl rfl aO ?_) | (refine zbu _ rfl rfl rfl ?_) | (refine zbt aA rfl rfl ?_) | (refine zb0 aA rfl rfl ?_) | (refine zaw _ rfl rfl rfl ?_)) | (refine g_un ?_; first | (refine zce rfl ?_) | (refine zcd rfl aO ?_)) | (refine zbk ?_; first | (refine zaj aA rfl ?_) | (refine zak _ aA rfl rfl aE rfl ?_) | (refine zah _ aA rfl aZ aL ?_) | (refine zai _ aA rfl rfl aE aZ aL ?_)) | (refine zbm ?_; first | (refine zax _ aA rfl aL ?_) | (refine zay _ aA rfl rfl (by simp only [lx, Nat.reduceAdd]; first | done | rfl) ?_)) | (refine zbd ?_; first | (refine zau _ aA rfl rfl aO aA ?_) | (refine zav _ aA rfl rfl rfl rfl aO aO (by first | (rw [Nat.zero_add, Int.toNat_natCast]) | (rw [Nat.zero_add]) | rfl) ?_)) | (refine zbx ?_; first | (refine zbf rfl aD rfl ?_) | (refine zbh rfl aD ?_) | (refine zbi rfl aD ?_) | (refine zbg rfl aD rfl ?_)) | (refine zbp ?_; first | (refine zbw rfl rfl aD ?_) | (refine zb4 rfl rfl aD ?_) | (refine zb5 rfl rfl ?_) | (refine zbj rfl rfl (fun h => ?_) (fun h => ?_) <;> (have h' := h; (try simp only [sx] at h')))) | (refine za7 ?_; first | (refine zba aA rfl ?_) | (refine zbb aA rfl rfl ?_) | (refine zbc aA rfl ?_) | (refine za9 aA (evO_ok rfl) ?_)) | (refine zca _ aA rfl ?_) | (refine zb2 aA rfl ?_) | (refine zbn _ _ _ rfl rfl aE (by first | assumption | (exact TAgg.size aA)) rfl rfl rfl aZ rfl aL (by first | (first | (simp only [lx, Nat.reduceAdd]; first | done | rfl) | fail) | rfl) ?_) | (refine zcc _ rfl rfl ?_) | (refine zas (hK _ _ (.inl rfl) ?_); clear hK K) | (refine zas (hK _ _ (.inr (by kernel_rfl)) ?_); clear hK K))
      | (refine za4 ?_; first | (refine zbq ?_) | (refine zad (fun K hK => ?_)) | (refine zao ?_) | (refine za2 ?_) | (refine zbr ?_) | (refine za3 ?_) | (refine zbl ?_; first | (refine zam rfl aD ?_) | (refine zal rfl aD ?_) | (refine zaz rfl (fun h => ?_) (fun h => ?_) <;> (have h' := h; (try simp only [sx] at h')))))
      | (refine za0 ?_) | (refine zab ?_) | (refine zac ?_) | (refine zar ?_) | (refine zap ?_) | (refine zaq ?_) | (refine zan rfl ?_) | (refine zaf ?_) | (refine zag ?_) | (refine zbs ?_))
          all_goals first
            | (exfalso; omega)
            | (refine zb9 (i + 1) rfl aW aO aO)
      · repeat' (first
      | (refine za1 ?_; first | (refine za5 ?_; refine zat _ rfl ?_) | (refine zae ?_; refine zaa _ rfl ?_) | (refine zbv ?_; first | (refine zbz rfl rfl aO ?_) | (refine zcg rfl rfl aO ?_) | (refine zbu _ rfl rfl rfl ?_) | (refine zbt aA rfl rfl ?_) | (refine zb0 aA rfl rfl ?_) | (refine zaw _ rfl rfl rfl ?_)) | (refine g_un ?_; first | (refine zce rfl ?_) | (refine zcd rfl aO ?_)) | (refine zbk ?_; first | (refine zaj aA rfl ?_) | (refine zak _ aA rfl rfl aE rfl ?_) | (refine zah _ aA rfl aZ aL ?_) | (refine zai _ aA rfl rfl aE aZ aL ?_)) | (refine zbm ?_; first | (refine zax _ aA rfl aL ?_) | (refine zay _ aA rfl rfl (by simp only [lx, Nat.reduceAdd]; first | done | rfl) ?_)) | (refine zbd ?_; first | (refine zau _ aA rfl rfl aO aA ?_) | (refine zav _ aA rfl rfl rfl rfl aO aO (by first | (rw [Nat.zero_add, Int.toNat_natCast]) | (rw [Nat.zero_add]) | rfl) ?_)) | (refine zbx ?_; first | (refine zbf rfl aD rfl ?_) | (refine zbh rfl aD ?_) | (refine zbi rfl aD ?_) | (refine zbg rfl aD rfl ?_)) | (refine zbp ?_; first | (refine zbw rfl rfl aD ?_) | (refine zb4 rfl rfl aD ?_) | (refine zb5 rfl rfl ?_) | (refine zbj rfl rfl (fun h => ?_) (fun h => ?_) <;> (have h' := h; (try simp only [sx] at h')))) | (refine za7 ?_; first | (refine zba aA rfl ?_) | (refine zbb aA rfl rfl ?_) | (refine zbc aA rfl ?_) | (refine za9 aA (evO_ok rfl) ?_)) | (refine zca _ aA rfl ?_) | (refine zb2 aA rfl ?_) | (refine zbn _ _ _ rfl rfl aE (by first | assumption | (exact TAgg.size aA)) rfl rfl rfl aZ rfl aL (by first | (first | (simp only [lx, Nat.reduceAdd]; first | done | rfl) | fail) | rfl) ?_) | (refine zcc _ rfl rfl ?_) | (refine zas (hK _ _ (.inl rfl) ?_); clear hK K) | (refine zas (hK _ _ (.inr (by kernel_rfl)) ?_); clear hK K))
      | (refine za4 ?_; first | (refine zbq ?_) | (refine zad (fun K hK => ?_)) | (refine zao ?_) | (refine za2 ?_) | (refine zbr ?_) | (refine za3 ?_) | (refine zbl ?_; first | (refine zam rfl aD ?_) | (refine zal rfl aD ?_) | (refine zaz rfl (fun h => ?_) (fun h => ?_) <;> (have h' := h; (try simp only [sx] at h')))))
      | (refine za0 ?_) | (refine zab ?_) | (refine zac ?_) | (refine zar ?_) | (refine zap ?_) | (refine zaq ?_) | (refine zan rfl ?_) | (refine zaf ?_) | (refine zag ?_) | (refine zbs ?_))
        all_goals first
          | (exfalso; omega)
          | (refine zb9 () rfl aW trivial (by decide))
    clear kE1 kE2 kL1 kL2 kI1 kI2 hX hok
    repeat' (first
      | (refine za1 ?_; first | (refine za5 ?_; refine zat _ rfl ?_) | (refine zae ?_; refine zaa _ rfl ?_) | (refine zbv ?_; first | (refine zbz rfl rfl aO ?_) | (refine zcg rfl rfl aO ?_) | (refine zbu _ rfl rfl rfl ?_) | (refine zbt aA rfl rfl ?_) | (refine zb0 aA rfl rfl ?_) | (refine zaw _ rfl rfl rfl ?_)) | (refine g_un ?_; first | (refine zce rfl ?_) | (refine zcd rfl aO ?_)) | (refine zbk ?_; first | (refine zaj aA rfl ?_) | (refine zak _ aA rfl rfl aE rfl ?_) | (refine zah _ aA rfl aZ aL ?_) | (refine zai _ aA rfl rfl aE aZ aL ?_)) | (refine zbm ?_; first | (refine zax _ aA rfl aL ?_) | (refine zay _ aA rfl rfl (by simp only [lx, Nat.reduceAdd]; first | done | rfl) ?_)) | (refine zbd ?_; first | (refine zau _ aA rfl rfl aO aA ?_) | (refine zav _ aA rfl rfl rfl rfl aO aO (by first | (rw [Nat.zero_add, Int.toNat_natCast]) | (rw [Nat.zero_add]) | rfl) ?_)) | (refine zbx ?_; first | (refine zbf rfl aD rfl ?_) | (refine zbh rfl aD ?_) | (refine zbi rfl aD ?_) | (refine zbg rfl aD rfl ?_)) | (refine zbp ?_; first | (refine zbw rfl rfl aD ?_) | (refine zb4 rfl rfl aD ?_) | (refine zb5 rfl rfl ?_) | (refine zbj rfl rfl (fun h => ?_) (fun h => ?_) <;> (have h' := h; (try simp only [sx] at h')))) | (refine za7 ?_; first | (refine x_callLP [] (k_DrawWorst code hz) rfl rfl (by (repeat' (first | exact trivial | refine ⟨⟨_, rfl, ?_⟩, ?_⟩ | exact .inl ⟨rfl, .inl rfl⟩ | exact .inr ⟨rfl, rfl, rfl, rfl, rfl, fun e he u hu => by (simp only [List.mem_cons, List.not_mem_nil, or_false] at he; subst he; simp only [List.mem_cons, List.not_mem_nil, or_false] at hu; subst hu; rfl)⟩ | exact .inl ⟨rfl, .inr (fun e he => by (simp only [List.mem_cons, List.not_mem_nil, or_false] at he; subst he; rfl))⟩ | fail)); first | done | fail) rfl rfl aS rfl (fun r_ fin_ hP_ => ?_); obtain ⟨x, k, ⟨rfl, rfl⟩, hX, hk⟩ := hP_; refine ⟨_, _, _, aH, rfl, ?_⟩; simp only [cl]) | (refine zba aA rfl ?_) | (refine zbb aA rfl rfl ?_) | (refine zbc aA rfl ?_) | (refine za9 aA (evO_ok rfl) ?_)) | (refine zca _ aA rfl ?_) | (refine zb2 aA rfl ?_) | (refine zbn _ _ _ rfl rfl aE (by first | assumption | (exact TAgg.size aA)) rfl rfl rfl aZ rfl aL (by first | (first | (simp only [lx, Nat.reduceAdd]; first | done | rfl) | fail) | rfl) ?_) | (refine zcc _ rfl rfl ?_) | (refine zas (hK _ _ (.inl rfl) ?_); clear hK K) | (refine zas (hK _ _ (.inr (by kernel_rfl)) ?_); clear hK K))
      | (refine za4 ?_; first | (refine zbq ?_) | (refine zad (fun K hK => ?_)) | (refine zao ?_) | (refine za2 ?_) | (refine zbr ?_) | (refine za3 ?_) | (refine zbl ?_; first | (refine zam rfl aD ?_) | (refine zal rfl aD ?_) | (refine zaz rfl (fun h => ?_) (fun h => ?_) <;> (have h' := h; (try simp only [sx] at h')))))
      | (refine za0 ?_) | (refine zab ?_) | (refine zac ?_) | (refine zar ?_) | (refine zap ?_) | (refine zaq ?_) | (refine zan rfl ?_) | (refine zaf ?_) | (refine zag ?_) | (refine zbs ?_))
    have zx := hX.zz
    have hX1 := hX.t.2.2
    have hX2 := hX.len
    have kW1 := k_iWorst x zx k
    have kW2 := k_sWorst x zx k
    have hok := opB_of (p := EkOk x k)
    unfold wsRes at kW1 kW2
    have hb1 : opB (EkOk x k) = true → (if opB (EkOk x k) = true then wsB x k else 0) = wsB x k := fun h => if_pos h
    have hm1 : opB (EkOk x k) = true → (if opB (EkOk x k) = true then wsM x k else 0) = wsM x k := fun h => if_pos h
    generalize (if opB (EkOk x k) = true then wsB x k else 0) = wb at *
    generalize (if opB (EkOk x k) = true then wsM x k else 0) = wm at *
    generalize opB (EkOk x k) = o2 at *
    repeat' (first
      | (refine za1 ?_; first | (refine za5 ?_; refine zat _ rfl ?_) | (refine zae ?_; refine zaa _ rfl ?_) | (refine zbv ?_; first | (refine zbz rfl rfl aO ?_) | (refine zcg rfl rfl aO ?_) | (refine zbu _ rfl rfl rfl ?_) | (refine zbt aA rfl rfl ?_) | (refine zb0 aA rfl rfl ?_) | (refine zaw _ rfl rfl rfl ?_)) | (refine g_un ?_; first | (refine zce rfl ?_) | (refine zcd rfl aO ?_)) | (refine zbk ?_; first | (refine zaj aA rfl ?_) | (refine zak _ aA rfl rfl aE rfl ?_) | (refine zah _ aA rfl aZ aL ?_) | (refine zai _ aA rfl rfl aE aZ aL ?_)) | (refine zbm ?_; first | (refine zax _ aA rfl aL ?_) | (refine zay _ aA rfl rfl (by simp only [lx, Nat.reduceAdd]; first | done | rfl) ?_)) | (refine zbd ?_; first | (refine zau _ aA rfl rfl aO aA ?_) | (refine zav _ aA rfl rfl rfl rfl aO aO (by first | (rw [Nat.zero_add, Int.toNat_natCast]) | (rw [Nat.zero_add]) | rfl) ?_)) | (refine zbx ?_; first | (refine zbf rfl aD rfl ?_) | (refine zbh rfl aD ?_) | (refine zbi rfl aD ?_) | (refine zbg rfl aD rfl ?_)) | (refine zbp ?_; first | (refine zbw rfl rfl aD ?_) | (refine zb4 rfl rfl aD ?_) | (refine zb5 rfl rfl ?_) | (refine zbj rfl rfl (fun h => ?_) (fun h => ?_) <;> (have h' := h; (try simp only [sx] at h')))) | (refine za7 ?_; first | (refine za8 true (kW1) rfl rfl rfl aS rfl aH ?_; simp only [cl]) | (refine za8 true (kW2) rfl rfl rfl aS rfl aH ?_; simp only [cl]) | (refine zba aA rfl ?_) | (refine zbb aA rfl rfl ?_) | (refine zbc aA rfl ?_) | (refine za9 aA (evO_ok rfl) ?_)) | (refine zca _ aA rfl ?_) | (refine zb2 aA rfl ?_) | (refine zbn _ _ _ rfl rfl aE (by first | assumption | (exact TAgg.size aA)) rfl rfl rfl aZ rfl aL (by first | (first | (simp only [lx, Nat.reduceAdd]; first | done | rfl) | fail) | rfl) ?_) | (refine zcc _ rfl rfl ?_) | (refine zas (hK _ _ (.inl rfl) ?_); clear hK K) | (refine zas (hK _ _ (.inr (by kernel_rfl)) ?_); clear hK K))
      | (refine za4 ?_; first | (refine v_seqN 3000029 rfl ?_) | (refine zad (fun K hK => ?_)) | (refine zao ?_) | (refine za2 ?_) | (refine zbr ?_) | (refine za3 ?_) | (refine zbl ?_; first | (refine zam rfl aD ?_) | (refine zal rfl aD ?_) | (refine zaz rfl (fun h => ?_) (fun h => ?_) <;> (have h' := h; (try simp only [sx] at h')))))
      | (refine za0 ?_) | (refine zab ?_) | (refine zac ?_) | (refine zar ?_) | (refine zap ?_) | (refine zaq ?_) | (refine zan rfl ?_) | (refine zaf ?_) | (refine zag ?_) | (refine zbs ?_))
    all_goals try (exfalso; omega)
    all_goals try (exfalso; simp at *; done)
    refine v_cutK [0] [] (fun u_ : Unit => []) (fun u_ : Unit => []) (fun u_ : Unit => True) rfl rfl (fun _ => rfl) (fun _ => rfl) ?_ (fun u_ hu_ => ?_)
    · cases o2
      · repeat' (first
      | (refine za1 ?_; first | (refine za5 ?_; refine zat _ rfl ?_) | (refine zae ?_; refine zaa _ rfl ?_) | (refine zbv ?_; first | (refine zbz rfl rfl aO ?_) | (refine zcg rfl rfl aO ?_) | (refine zbu _ rfl rfl rfl ?_) | (refine zbt aA rfl rfl ?_) | (refine zb0 aA rfl rfl ?_) | (refine zaw _ rfl rfl rfl ?_)) | (refine g_un ?_; first | (refine zce rfl ?_) | (refine zcd rfl aO ?_)) | (refine zbk ?_; first | (refine zaj aA rfl ?_) | (refine zak _ aA rfl rfl aE rfl ?_) | (refine zah _ aA rfl aZ aL ?_) | (refine zai _ aA rfl rfl aE aZ aL ?_)) | (refine zbm ?_; first | (refine zax _ aA rfl aL ?_) | (refine zay _ aA rfl rfl (by simp only [lx, Nat.reduceAdd]; first | done | rfl) ?_)) | (refine zbd ?_; first | (refine zau _ aA rfl rfl aO aA ?_) | (refine zav _ aA rfl rfl rfl rfl aO aO (by first | (rw [Nat.zero_add, Int.toNat_natCast]) | (rw [Nat.zero_add]) | rfl) ?_)) | (refine zbx ?_; first | (refine zbf rfl aD rfl ?_) | (refine zbh rfl aD ?_) | (refine zbi rfl aD ?_) | (refine zbg rfl aD rfl ?_)) | (refine zbp ?_; first | (refine zbw rfl rfl aD ?_) | (refine zb4 rfl rfl aD ?_) | (refine zb5 rfl rfl ?_) | (refine zbj rfl rfl (fun h => ?_) (fun h => ?_) <;> (have h' := h; (try simp only [sx] at h')))) | (refine za7 ?_; first | (refine zba aA rfl ?_) | (refine zbb aA rfl rfl ?_) | (refine zbc aA rfl ?_) | (refine za9 aA (evO_ok rfl) ?_)) | (refine zca _ aA rfl ?_) | (refine zb2 aA rfl ?_) | (refine zbn _ _ _ rfl rfl aE (by first | assumption | (exact TAgg.size aA)) rfl rfl rfl aZ rfl aL (by first | (first | (simp only [lx, Nat.reduceAdd]; first | done | rfl) | fail) | rfl) ?_) | (refine zcc _ rfl rfl ?_) | (refine zas (hK _ _ (.inl rfl) ?_); clear hK K) | (refine zas (hK _ _ (.inr (by kernel_rfl)) ?_); clear hK K))
      | (refine za4 ?_; first | (refine zbq ?_) | (refine zad (fun K hK => ?_)) | (refine zao ?_) | (refine za2 ?_) | (refine zbr ?_) | (refine za3 ?_) | (refine zbl ?_; first | (refine zam rfl aD ?_) | (refine zal rfl aD ?_) | (refine zaz rfl (fun h => ?_) (fun h => ?_) <;> (have h' := h; (try simp only [sx] at h')))))
      | (refine za0 ?_) | (refine zab ?_) | (refine zac ?_) | (refine zar ?_) | (refine zap ?_) | (refine zaq ?_) | (refine zan rfl ?_) | (refine zaf ?_) | (refine zag ?_) | (refine zbs ?_))
        all_goals (refine zb9 () rfl aW trivial (by decide))
      have hEk := hok rfl
      have hE := hEk.1
      have hWs := ws_is x k
      rw [← hb1 rfl, ← hm1 rfl] at hWs
      clear kW1 kW2 hb1 hm1 hok
      have hlen := goodT_len hE.1.1
      have hl4 := hE.2.1.2
      have hl1 : (x.L.map Scen.pv).length = x.L.length := by simp
      obtain ⟨j, a, hj1, hj2, hga, hj4⟩ := hWs.at_ aO
      subst hj2
      have hx := Scen.at hga
      have ham := get_mem hga
      have hGa := hE.b ham
      have zb : SzB (x.bz a) := ⟨by show x.t.burn.length ≤ _; omega, by have := hX.ph a ham; show a.phases.length ≤ _; omega, by have := hX.src; show x.src.length ≤ _; omega⟩
      have hbu : BuOk (x.bz a) k := ⟨hGa, hEk.2⟩
      have kB : ConA Try.prog 27 [.agg x.t.pv, .list 2 (a.phases.map Phase.pv), .list 1 (ints x.src), .int .i64 x.st, .int .i64 k] (.tuple [.list 1 (ints (buL (x.bz a) k)), .bool (decide (BuOk (x.bz a) k))]) := (Con.a (k_iBurnedBy (x.bz a) zb k)).frz rfl
      rw [decide_eq_true hbu, show buL (x.bz a) k = buS x k a by unfold buL; rw [if_pos hbu]; rfl] at kB
      have hbl := bu_len hE k ham
      have hlb : (ints (buS x k a)).length = (buS x k a).length := by simp
      have kC1 := k_iAbove x zx k wm
      rw [fr3_t (show EaOk x k wm from ⟨hE, hEk.2, by omega⟩), above_none hE hWs, fr_zero] at kC1
      generalize frD 0 (wgtE x) = d1 at *
      by_cases hn : 0 < wm
      · have kC2 := k_iAbove x zx k (wm - 1)
        rw [fr3_t (show EaOk x k (wm - 1) from ⟨hE, hEk.2, by omega⟩)] at kC2
        have hpos := fr_pos (q := wgtE x) (wE_bnd hE).1 (above_some hE hWs)
        generalize frN (sumBy (wIfS (abP x k (wm - 1))) x.L) (wgtE x) = n2 at *
        generalize frD (sumBy (wIfS (abP x k (wm - 1))) x.L) (wgtE x) = d2 at *
        generalize buS x k a = B at *
        repeat' (first
      | (refine za1 ?_; first | (refine za5 ?_; refine zat _ rfl ?_) | (refine zae ?_; refine zaa _ rfl ?_) | (refine zbv ?_; first | (refine zbz rfl rfl aO ?_) | (refine zcg rfl rfl aO ?_) | (refine zbu _ rfl rfl rfl ?_) | (refine zbt aA rfl rfl ?_) | (refine zb0 aA rfl rfl ?_) | (refine zaw _ rfl rfl rfl ?_)) | (refine g_un ?_; first | (refine zce rfl ?_) | (refine zcd rfl aO ?_)) | (refine zbk ?_; first | (refine zaj aA rfl ?_) | (refine zak _ aA rfl rfl aE rfl ?_) | (refine zah _ aA rfl aZ aL ?_) | (refine zai _ aA rfl rfl aE aZ aL ?_)) | (refine zbm ?_; first | (refine zax _ aA rfl aL ?_) | (refine zay _ aA rfl rfl (by simp only [lx, Nat.reduceAdd]; first | done | rfl) ?_)) | (refine zbd ?_; first | (refine zau _ aA rfl rfl aO aA ?_) | (refine zav _ aA rfl rfl rfl rfl aO aO (by first | (rw [Nat.zero_add, Int.toNat_natCast]) | (rw [Nat.zero_add]) | rfl) ?_)) | (refine zbx ?_; first | (refine zbf rfl aD rfl ?_) | (refine zbh rfl aD ?_) | (refine zbi rfl aD ?_) | (refine zbg rfl aD rfl ?_)) | (refine zbp ?_; first | (refine zbw rfl rfl aD ?_) | (refine zb4 rfl rfl aD ?_) | (refine zb5 rfl rfl ?_) | (refine zbj rfl rfl (fun h => ?_) (fun h => ?_) <;> (have h' := h; (try simp only [sx] at h')))) | (refine za7 ?_; first | (refine x_callA true (kB) rfl rfl rfl rfl rfl aS rfl aH ?_; simp only [cl]) | (refine za8 true (kC1) rfl rfl rfl aS rfl aH ?_; simp only [cl]) | (refine za8 true (kC2) rfl rfl rfl aS rfl aH ?_; simp only [cl]) | (refine zba aA rfl ?_) | (refine zbb aA rfl rfl ?_) | (refine zbc aA rfl ?_) | (refine za9 aA (evO_ok rfl) ?_)) | (refine zca _ aA rfl ?_) | (refine zb2 aA rfl ?_) | (refine zbn _ _ _ rfl rfl aE (by first | assumption | (exact TAgg.size aA)) rfl rfl rfl aZ rfl aL (by first | (first | (simp only [lx, Nat.reduceAdd]; first | done | rfl) | fail) | rfl) ?_) | (refine zcc _ rfl rfl ?_) | (refine zas (hK _ _ (.inl rfl) ?_); clear hK K) | (refine zas (hK _ _ (.inr (by kernel_rfl)) ?_); clear hK K))
      | (refine za4 ?_; first | (refine zbq ?_) | (refine zad (fun K hK => ?_)) | (refine zao ?_) | (refine za2 ?_) | (refine zbr ?_) | (refine za3 ?_) | (refine zbl ?_; first | (refine zam rfl aD ?_) | (refine zal rfl aD ?_) | (refine zaz rfl (fun h => ?_) (fun h => ?_) <;> (have h' := h; (try simp only [sx] at h')))))
      | (refine za0 ?_) | (refine zab ?_) | (refine zac ?_) | (refine zar ?_) | (refine zap ?_) | (refine zaq ?_) | (refine zan rfl ?_) | (refine zaf ?_) | (refine zag ?_) | (refine zbs ?_))
        all_goals first
          | (exfalso; omega)
          | (exfalso; simp at *; done)
          | (refine zb9 () rfl aW trivial (by decide))
      · generalize buS x k a = B at *
        repeat' (first
      | (refine za1 ?_; first | (refine za5 ?_; refine zat _ rfl ?_) | (refine zae ?_; refine zaa _ rfl ?_) | (refine zbv ?_; first | (refine zbz rfl rfl aO ?_) | (refine zcg rfl rfl aO ?_) | (refine zbu _ rfl rfl rfl ?_) | (refine zbt aA rfl rfl ?_) | (refine zb0 aA rfl rfl ?_) | (refine zaw _ rfl rfl rfl ?_)) | (refine g_un ?_; first | (refine zce rfl ?_) | (refine zcd rfl aO ?_)) | (refine zbk ?_; first | (refine zaj aA rfl ?_) | (refine zak _ aA rfl rfl aE rfl ?_) | (refine zah _ aA rfl aZ aL ?_) | (refine zai _ aA rfl rfl aE aZ aL ?_)) | (refine zbm ?_; first | (refine zax _ aA rfl aL ?_) | (refine zay _ aA rfl rfl (by simp only [lx, Nat.reduceAdd]; first | done | rfl) ?_)) | (refine zbd ?_; first | (refine zau _ aA rfl rfl aO aA ?_) | (refine zav _ aA rfl rfl rfl rfl aO aO (by first | (rw [Nat.zero_add, Int.toNat_natCast]) | (rw [Nat.zero_add]) | rfl) ?_)) | (refine zbx ?_; first | (refine zbf rfl aD rfl ?_) | (refine zbh rfl aD ?_) | (refine zbi rfl aD ?_) | (refine zbg rfl aD rfl ?_)) | (refine zbp ?_; first | (refine zbw rfl rfl aD ?_) | (refine zb4 rfl rfl aD ?_) | (refine zb5 rfl rfl ?_) | (refine zbj rfl rfl (fun h => ?_) (fun h => ?_) <;> (have h' := h; (try simp only [sx] at h')))) | (refine za7 ?_; first | (refine x_callA true (kB) rfl rfl rfl rfl rfl aS rfl aH ?_; simp only [cl]) | (refine za8 true (kC1) rfl rfl rfl aS rfl aH ?_; simp only [cl]) | (refine zba aA rfl ?_) | (refine zbb aA rfl rfl ?_) | (refine zbc aA rfl ?_) | (refine za9 aA (evO_ok rfl) ?_)) | (refine zca _ aA rfl ?_) | (refine zb2 aA rfl ?_) | (refine zbn _ _ _ rfl rfl aE (by first | assumption | (exact TAgg.size aA)) rfl rfl rfl aZ rfl aL (by first | (first | (simp only [lx, Nat.reduceAdd]; first | done | rfl) | fail) | rfl) ?_) | (refine zcc _ rfl rfl ?_) | (refine zas (hK _ _ (.inl rfl) ?_); clear hK K) | (refine zas (hK _ _ (.inr (by kernel_rfl)) ?_); clear hK K))
      | (refine za4 ?_; first | (refine zbq ?_) | (refine zad (fun K hK => ?_)) | (refine zao ?_) | (refine za2 ?_) | (refine zbr ?_) | (refine za3 ?_) | (refine zbl ?_; first | (refine zam rfl aD ?_) | (refine zal rfl aD ?_) | (refine zaz rfl (fun h => ?_) (fun h => ?_) <;> (have h' := h; (try simp only [sx] at h')))))
      | (refine za0 ?_) | (refine zab ?_) | (refine zac ?_) | (refine zar ?_) | (refine zap ?_) | (refine zaq ?_) | (refine zan rfl ?_) | (refine zaf ?_) | (refine zag ?_) | (refine zbs ?_))
        all_goals first
          | (exfalso; omega)
          | (exfalso; simp at *; done)
          | (refine zb9 () rfl aW trivial (by decide))
    clear kW1 kW2 hb1 hm1 hok
    repeat' (first
      | (refine za1 ?_; first | (refine za5 ?_; refine zat _ rfl ?_) | (refine zae ?_; refine zaa _ rfl ?_) | (refine zbv ?_; first | (refine zbz rfl rfl aO ?_) | (refine zcg rfl rfl aO ?_) | (refine zbu _ rfl rfl rfl ?_) | (refine zbt aA rfl rfl ?_) | (refine zb0 aA rfl rfl ?_) | (refine zaw _ rfl rfl rfl ?_)) | (refine g_un ?_; first | (refine zce rfl ?_) | (refine zcd rfl aO ?_)) | (refine zbk ?_; first | (refine zaj aA rfl ?_) | (refine zak _ aA rfl rfl aE rfl ?_) | (refine zah _ aA rfl aZ aL ?_) | (refine zai _ aA rfl rfl aE aZ aL ?_)) | (refine zbm ?_; first | (refine zax _ aA rfl aL ?_) | (refine zay _ aA rfl rfl (by simp only [lx, Nat.reduceAdd]; first | done | rfl) ?_)) | (refine zbd ?_; first | (refine zau _ aA rfl rfl aO aA ?_) | (refine zav _ aA rfl rfl rfl rfl aO aO (by first | (rw [Nat.zero_add, Int.toNat_natCast]) | (rw [Nat.zero_add]) | rfl) ?_)) | (refine zbx ?_; first | (refine zbf rfl aD rfl ?_) | (refine zbh rfl aD ?_) | (refine zbi rfl aD ?_) | (refine zbg rfl aD rfl ?_)) | (refine zbp ?_; first | (refine zbw rfl rfl aD ?_) | (refine zb4 rfl rfl aD ?_) | (refine zb5 rfl rfl ?_) | (refine zbj rfl rfl (fun h => ?_) (fun h => ?_) <;> (have h' := h; (try simp only [sx] at h')))) | (refine za7 ?_; first | (refine x_callLP [] (k_DrawAbove code hz) rfl rfl (by (repeat' (first | exact trivial | refine ⟨⟨_, rfl, ?_⟩, ?_⟩ | exact .inl ⟨rfl, .inl rfl⟩ | exact .inr ⟨rfl, rfl, rfl, rfl, rfl, fun e he u hu => by (simp only [List.mem_cons, List.not_mem_nil, or_false] at he; subst he; simp only [List.mem_cons, List.not_mem_nil, or_false] at hu; subst hu; rfl)⟩ | exact .inl ⟨rfl, .inr (fun e he => by (simp only [List.mem_cons, List.not_mem_nil, or_false] at he; subst he; rfl))⟩ | fail)); first | done | fail) rfl rfl aS rfl (fun r_ fin_ hP_ => ?_); obtain ⟨y, t, c, ⟨rfl, rfl⟩, hY, ht, hc⟩ := hP_; refine ⟨_, _, _, aH, rfl, ?_⟩; simp only [cl]) | (refine zba aA rfl ?_) | (refine zbb aA rfl rfl ?_) | (refine zbc aA rfl ?_) | (refine za9 aA (evO_ok rfl) ?_)) | (refine zca _ aA rfl ?_) | (refine zb2 aA rfl ?_) | (refine zbn _ _ _ rfl rfl aE (by first | assumption | (exact TAgg.size aA)) rfl rfl rfl aZ rfl aL (by first | (first | (simp only [lx, Nat.reduceAdd]; first | done | rfl) | fail) | rfl) ?_) | (refine zcc _ rfl rfl ?_) | (refine zas (hK _ _ (.inl rfl) ?_); clear hK K) | (refine zas (hK _ _ (.inr (by kernel_rfl)) ?_); clear hK K))
      | (refine za4 ?_; first | (refine zbq ?_) | (refine zad (fun K hK => ?_)) | (refine zao ?_) | (refine za2 ?_) | (refine zbr ?_) | (refine za3 ?_) | (refine zbl ?_; first | (refine zam rfl aD ?_) | (refine zal rfl aD ?_) | (refine zaz rfl (fun h => ?_) (fun h => ?_) <;> (have h' := h; (try simp only [sx] at h')))))
      | (refine za0 ?_) | (refine zab ?_) | (refine zac ?_) | (refine zar ?_) | (refine zap ?_) | (refine zaq ?_) | (refine zan rfl ?_) | (refine zaf ?_) | (refine zag ?_) | (refine zbs ?_))
    have zy := hY.zz
    have kB1 := k_iAbove y zy t c
    have kB2 := k_sAbove y zy t c
    have hle : (if opB (EaOk y t c) = true then frN (sumBy (wIfS (abP y t c)) y.L) (wgtE y) else 0) ≤ (if opB (EaOk y t c) = true then frD (sumBy (wIfS (abP y t c)) y.L) (wgtE y) else 0) := by
      split
      · rename_i h
        have h := opB_of h
        exact fr_le (wE_bnd h.1).1 (above_le h.1 _)
      · omega
    unfold fr3 at kB1 kB2
    generalize (if opB (EaOk y t c) = true then frN (sumBy (wIfS (abP y t c)) y.L) (wgtE y) else 0) = u1 at *
    generalize (if opB (EaOk y t c) = true then frD (sumBy (wIfS (abP y t c)) y.L) (wgtE y) else 0) = u2 at *
    generalize opB (EaOk y t c) = u3 at *
    repeat' (first
      | (refine za1 ?_; first | (refine za5 ?_; refine zat _ rfl ?_) | (refine zae ?_; refine zaa _ rfl ?_) | (refine zbv ?_; first | (refine zbz rfl rfl aO ?_) | (refine zcg rfl rfl aO ?_) | (refine zbu _ rfl rfl rfl ?_) | (refine zbt aA rfl rfl ?_) | (refine zb0 aA rfl rfl ?_) | (refine zaw _ rfl rfl rfl ?_)) | (refine g_un ?_; first | (refine zce rfl ?_) | (refine zcd rfl aO ?_)) | (refine zbk ?_; first | (refine zaj aA rfl ?_) | (refine zak _ aA rfl rfl aE rfl ?_) | (refine zah _ aA rfl aZ aL ?_) | (refine zai _ aA rfl rfl aE aZ aL ?_)) | (refine zbm ?_; first | (refine zax _ aA rfl aL ?_) | (refine zay _ aA rfl rfl (by simp only [lx, Nat.reduceAdd]; first | done | rfl) ?_)) | (refine zbd ?_; first | (refine zau _ aA rfl rfl aO aA ?_) | (refine zav _ aA rfl rfl rfl rfl aO aO (by first | (rw [Nat.zero_add, Int.toNat_natCast]) | (rw [Nat.zero_add]) | rfl) ?_)) | (refine zbx ?_; first | (refine zbf rfl aD rfl ?_) | (refine zbh rfl aD ?_) | (refine zbi rfl aD ?_) | (refine zbg rfl aD rfl ?_)) | (refine zbp ?_; first | (refine zbw rfl rfl aD ?_) | (refine zb4 rfl rfl aD ?_) | (refine zb5 rfl rfl ?_) | (refine zbj rfl rfl (fun h => ?_) (fun h => ?_) <;> (have h' := h; (try simp only [sx] at h')))) | (refine za7 ?_; first | (refine za8 true (kB1) rfl rfl rfl aS rfl aH ?_; simp only [cl]) | (refine za8 true (kB2) rfl rfl rfl aS rfl aH ?_; simp only [cl]) | (refine zba aA rfl ?_) | (refine zbb aA rfl rfl ?_) | (refine zbc aA rfl ?_) | (refine za9 aA (evO_ok rfl) ?_)) | (refine zca _ aA rfl ?_) | (refine zb2 aA rfl ?_) | (refine zbn _ _ _ rfl rfl aE (by first | assumption | (exact TAgg.size aA)) rfl rfl rfl aZ rfl aL (by first | (first | (simp only [lx, Nat.reduceAdd]; first | done | rfl) | fail) | rfl) ?_) | (refine zcc _ rfl rfl ?_) | (refine zas (hK _ _ (.inl rfl) ?_); clear hK K) | (refine zas (hK _ _ (.inr (by kernel_rfl)) ?_); clear hK K))
      | (refine za4 ?_; first | (refine zbq ?_) | (refine zad (fun K hK => ?_)) | (refine zao ?_) | (refine za2 ?_) | (refine zbr ?_) | (refine za3 ?_) | (refine zbl ?_; first | (refine zam rfl aD ?_) | (refine zal rfl aD ?_) | (refine zaz rfl (fun h => ?_) (fun h => ?_) <;> (have h' := h; (try simp only [sx] at h')))))
      | (refine za0 ?_) | (refine zab ?_) | (refine zac ?_) | (refine zar ?_) | (refine zap ?_) | (refine zaq ?_) | (refine zan rfl ?_) | (refine zaf ?_) | (refine zag ?_) | (refine zbs ?_))
    all_goals first
      | (exfalso; omega)
      | exact zb3 rfl (zbo rfl) (by simp [hle])
end Go.Vs
set_option linter.unusedVariables false
set_option linter.unusedSimpArgs false
namespace Go.Vs
open Go.RowKit Go.Deep
theorem ioMem_nil : ioMem [] = noMem := by funext id; simp [ioMem, noMem]
theorem calls_below {P : Program} {f : FuncId} {args : List PV} {cargs : Array Value} {w : World} {b : Bool} (hC : Con P f args (.bool b)) (ha : Comps (fun _ => none) w (fun b => b < w.heap.size) noMem cargs args) :
    Calls P f cargs w fun e w' => e = .returned (.bool b) ∧ Below w.heap.size w w' := by
  have hM := ioMem_nil
  have hno : ∀ id (r : Row), ioMem [] id ≠ some (some r) := fun id r h => by rw [hM] at h; cases h
  have hW : WRel (fun _ => True) (fun _ => none) w [] (ioMem []) w :=
    ⟨fun _ _ r _ _ _ _ h => absurd h (hno _ r), fun _ r h => absurd h (hno _ r), fun _ r h => absurd h (hno _ r), ⟨rfl, rfl, rfl, Nat.le_refl _, fun _ _ _ => rfl, fun b cur ty fr h => ⟨cur, h, rfl⟩⟩, fun _ _ => trivial⟩
  have hS : (Stab (fun _ => True) (fun _ => none) (ioMem []) w) = (fun b => b < w.heap.size) := by
    funext x
    apply propext
    exact ⟨fun h => h.1, fun h => ⟨h, fun id r z hm => absurd hm (hno _ r), trivial⟩⟩
  refine (((hC false).2 (fun _ => True) w [] (fun _ => none) cargs hW rfl ?_).mono) ?_
  · rw [hS, hM]; exact ha
  · rintro e w' ⟨v, r, fin, rfl, ⟨rfl, rfl⟩, _, _, hr⟩
    obtain ⟨ρ', hr⟩ := hr 0 (by unfold io; omega)
    have hv := rep_bool.1 hr.val
    subst hv
    have hk := hr.rel.keep
    exact ⟨rfl, hk.os, hk.tape, hk.output, hk.size, fun k hk' => hk.block k hk' (fun z h => by cases h)⟩
section
variable {H : Type} {enc : TypeId × Value → H} {P : Program} {w : World} {base : Nat} {spare : Nat → Bool} {held : Bool}
theorem lit_bounds {n : Int} (h : (Lit.int .i64 n).wf = true) : -9223372036854775808 ≤ n ∧ n ≤ 9223372036854775807 := by
  simp only [Lit.wf, Bool.and_eq_true, decide_eq_true_eq] at h
  exact h
theorem cell_lt {a : Addr} {c : Value} (h : w.cell? a = some c) : a.block < w.heap.size := by
  rcases Nat.lt_or_ge a.block w.heap.size with h1 | h1
  · exact h1
  · rw [World.cell?, Array.getElem?_eq_none h1] at h
    cases h
end
end Go.Vs
set_option linter.unusedVariables false
set_option linter.unusedSimpArgs false
namespace Go.Vs
open Go.RowKit Go.Deep
inductive Sh where
  | int
  | str
  | bool
  | byte
  | slice (e : List Sh)
def CellIs : Nat → Sh → PV → Prop
  | 0, _, _ => False
  | d + 1, sh, u => match sh with
    | .int => ∃ n : Int, u = .int .i64 n ∧ -9223372036854775808 ≤ n ∧ n ≤ 9223372036854775807
    | .str => ∃ s, u = .str s ∧ s.size ≤ Go.maxLen
    | .bool => ∃ b, u = .bool b
    | .byte => ∃ n : Int, u = .int .u8 n ∧ 0 ≤ n ∧ n ≤ 255
    | .slice es => ∃ els : List (List PV), u = .list es.length els ∧ els.length ≤ Go.maxLen ∧ ∀ el ∈ els, el.length = es.length ∧ ∀ (j : Nat) sh' u', es[j]? = some sh' → el[j]? = some u' → CellIs d sh' u'
def fieldsOk (P : Program) (ok : TypeId → List Sh → Bool) : List Field → Nat → List Sh → Bool
  | [], _, shs => shs.isEmpty
  | f :: fs, off, shs => Nat.beq f.offset off && (Nat.ble (P.cellsOf f.type) shs.length && (ok f.type (shs.take (P.cellsOf f.type)) && fieldsOk P ok fs (off + P.cellsOf f.type) (shs.drop (P.cellsOf f.type))))
def shOk (P : Program) : Nat → TypeId → List Sh → Bool
  | 0, _, _ => false
  | d + 1, T, shs => match P.underlying T with
    | some (.int .i64) => match shs with | [.int] => true | _ => false
    | some .string => match shs with | [.str] => true | _ => false
    | some .bool => match shs with | [.bool] => true | _ => false
    | some (.int .u8) => match shs with | [.byte] => true | _ => false
    | some (.slice e) => match shs with | [.slice es] => Nat.beq (P.cellsOf e) es.length && (Nat.blt 0 es.length && shOk P d e es) | _ => false
    | some (.struct fs) => Nat.beq (P.cellsOf T) shs.length && fieldsOk P (shOk P d) fs.toList 0 shs
    | _ => false
theorem lit_bytes {n : Int} (h : (Lit.int .u8 n).wf = true) : 0 ≤ n ∧ n ≤ 255 := by
  simp only [Lit.wf, Bool.and_eq_true, decide_eq_true_eq] at h
  exact h
section
variable {H : Type} {enc : TypeId × Value → H} {P : Program} {w : World} {base : Nat} {spare : Nat → Bool} {held : Bool}
def OpenAt (w : World) (d : Nat) (sh : Sh) (oc : Option Value) : Prop := ∃ c u, oc = some c ∧ c.oneCell' = true ∧ CellIs d sh u ∧ ∀ ρ, Rep ρ w (fun b => b < w.heap.size) noMem c u
theorem fields_open {d n : Nat} {cs : List Value} (ih : ∀ T shs fuel cs x, shOk P d T shs = true → DataW.trod enc P w base spare held fuel T cs = some x → cs.length = shs.length ∧ ∀ (j : Nat) sh, shs[j]? = some sh → OpenAt w d sh cs[j]?) :
    ∀ (l : List Field) (off : Nat) (shs : List Sh), fieldsOk P (shOk P d) l off shs = true → (∀ f ∈ l, ∃ x, DataW.trod enc P w base spare held n f.type ((cs.drop f.offset).take (P.cellsOf f.type)) = some x) →
      ∀ (j : Nat) sh, shs[j]? = some sh → OpenAt w d sh cs[off + j]?
  | [], off, shs, h, _, j, sh, hj => by
    cases shs with
    | nil => simp at hj
    | cons a r => cases h
  | f :: fs, off, shs, h, hf, j, sh, hj => by
    simp only [fieldsOk, Bool.and_eq_true] at h
    obtain ⟨h1, h2, h3, h4⟩ := h
    have h1 := Nat.eq_of_beq_eq_true h1
    have h2 := Nat.le_of_ble_eq_true h2
    obtain ⟨x, hx⟩ := hf f List.mem_cons_self
    obtain ⟨g1, g2⟩ := ih _ _ _ _ _ h3 hx
    rcases Nat.lt_or_ge j (P.cellsOf f.type) with hlt | hge
    · have := g2 j sh (by rw [List.getElem?_take, if_pos hlt]; exact hj)
      rw [List.getElem?_take, if_pos hlt, List.getElem?_drop, h1] at this
      exact this
    · have := fields_open ih fs (off + P.cellsOf f.type) _ h4 (fun g hg => hf g (List.mem_cons_of_mem _ hg)) (j - P.cellsOf f.type) sh (by rw [List.getElem?_drop]; rw [show P.cellsOf f.type + (j - P.cellsOf f.type) = j by omega]; exact hj)
      rw [show off + P.cellsOf f.type + (j - P.cellsOf f.type) = off + j by omega] at this
      exact this
theorem open_cells : ∀ (d : Nat) (T : TypeId) (shs : List Sh) (fuel : Nat) (cs : List Value) (x : DataW H × List MemPlace), shOk P d T shs = true → DataW.trod enc P w base spare held fuel T cs = some x →
    cs.length = shs.length ∧ ∀ (j : Nat) sh, shs[j]? = some sh → OpenAt w d sh cs[j]?
  | 0, _, _, _, _, _, h, _ => by cases h
  | d + 1, T, shs, fuel, cs, x, h, hx => by
    have ih := fun T shs fuel cs x => open_cells d T shs fuel cs x
    have single : ∀ {sh : Sh} {c : Value} {u : PV}, c.oneCell' = true → CellIs (d + 1) sh u → (∀ ρ, Rep ρ w (fun b => b < w.heap.size) noMem c u) → [c].length = [sh].length ∧ ∀ (j : Nat) sh', [sh][j]? = some sh' → OpenAt w (d + 1) sh' [c][j]? := by
      intro sh c u h1 h2 h3
      refine ⟨rfl, fun j sh' hj => ?_⟩
      cases j with
      | zero => simp at hj; subst hj; exact ⟨c, u, rfl, h1, h2, h3⟩
      | succ j => simp at hj
    simp only [shOk] at h
    split at h
    · rename_i hu
      split at h
      · obtain ⟨n, rfl, _, hwf⟩ := DataW.trod_int hu hx
        exact single (u := .int .i64 n) rfl ⟨n, rfl, lit_bounds hwf⟩ fun ρ => rep_int.2 rfl
      · cases h
    · rename_i hu
      split at h
      · obtain ⟨s, rfl, _, hs⟩ := DataW.trod_string hu hx
        exact single (u := .str s) rfl ⟨s, rfl, hs⟩ fun ρ => rep_str.2 rfl
      · cases h
    · rename_i hu
      split at h
      · obtain ⟨b, rfl, _⟩ := DataW.trod_bool hu hx
        exact single (u := .bool b) rfl ⟨b, rfl⟩ fun ρ => rep_bool.2 rfl
      · cases h
    · rename_i hu
      split at h
      · obtain ⟨n, rfl, _, hwf⟩ := DataW.trod_int hu hx
        exact single (u := .int .u8 n) rfl ⟨n, rfl, lit_bytes hwf⟩ fun ρ => rep_int.2 rfl
      · cases h
    · rename_i e hu
      split at h
      · rename_i es
        simp only [Bool.and_eq_true] at h
        obtain ⟨h1, h2, h3⟩ := h
        have h1 := Nat.eq_of_beq_eq_true h1
        have h2 : 0 < es.length := by simpa using h2
        rcases open_slice hu hx with ⟨rfl, _⟩ | ⟨a, len, cap, m, n, D, Pl, rfl, hb, hl, hm, hmm, _, hi⟩
        · exact single (u := .list es.length []) rfl ⟨[], rfl, by simp, fun el hel => by simp at hel⟩ fun ρ => rep_list.2 ⟨none, 0, rfl, Nat.le_refl _, fun h => absurd rfl h⟩
        · have hlm : len ≤ m := by rw [hmm]; split <;> omega
          have key : ∀ i, i < len → ∃ el : List PV, el.length = es.length ∧ ∀ (j : Nat) u, el[j]? = some u → ∃ c, w.cell? (a.add (i * es.length + j)) = some c ∧ c.oneCell' = true ∧ (∀ sh', es[j]? = some sh' → CellIs d sh' u) ∧
              ∀ ρ, Rep ρ w (fun b => b < w.heap.size) noMem c u := by
            intro i hil
            obtain ⟨cs', hc, ht'⟩ := hi i (by omega)
            obtain ⟨g1, g2⟩ := ih _ _ _ _ _ h3 ht'
            rw [h1] at hc
            obtain ⟨_, hcl, hat⟩ := World.cells?_some hc
            classical
            refine ⟨(List.range es.length).map fun j => if hj : j < es.length then Classical.choose (Classical.choose_spec (g2 j es[j] (List.getElem?_eq_getElem hj))) else .any, by simp, fun j u hu => ?_⟩
            have hj : j < es.length := by
              have := (List.getElem?_eq_some_iff.1 hu).1
              simpa using this
            rw [List.getElem?_map, List.getElem?_range hj] at hu
            simp only [Option.map_some, Option.some.injEq, dif_pos hj] at hu
            have hsp := Classical.choose_spec (Classical.choose_spec (g2 j es[j] (List.getElem?_eq_getElem hj)))
            rw [hu] at hsp
            refine ⟨_, ?_, hsp.2.1, fun sh' hs' => ?_, hsp.2.2.2⟩
            · rw [← Go.Deep.add_add, hat j (by omega)]
              exact hsp.1
            · rw [List.getElem?_eq_getElem hj] at hs'
              injection hs' with hs'
              rw [← hs']
              exact hsp.2.2.1
          have hall : ∃ els : List (List PV), els.length = len ∧ ∀ i el, els[i]? = some el → el.length = es.length ∧ ∀ (j : Nat) u, el[j]? = some u → ∃ c, w.cell? (a.add (i * es.length + j)) = some c ∧ c.oneCell' = true ∧ (∀ sh', es[j]? = some sh' → CellIs d sh' u) ∧
              ∀ ρ, Rep ρ w (fun b => b < w.heap.size) noMem c u := by
            classical
            refine ⟨(List.range len).map fun i => if h : i < len then Classical.choose (key i h) else [], by simp, fun i r hr => ?_⟩
            have hi' : i < len := by
              have := (List.getElem?_eq_some_iff.1 hr).1
              simpa using this
            rw [List.getElem?_map, List.getElem?_range hi'] at hr
            simp only [Option.map_some, Option.some.injEq, dif_pos hi'] at hr
            subst hr
            exact Classical.choose_spec (key i hi')
          obtain ⟨els, hlen, hels⟩ := hall
          refine single (u := .list es.length els) rfl ⟨els, rfl, by omega, fun el hel => ?_⟩ fun ρ => rep_list.2 ⟨some a, cap, by rw [hlen], by omega, fun hne => ⟨a, rfl, ?_, fun i el hi => ⟨(hels i el hi).1, fun j u hu => ?_⟩⟩⟩
          · obtain ⟨i, hi⟩ := List.getElem?_of_mem hel
            refine ⟨(hels i el hi).1, fun j sh' u' hs hu => ?_⟩
            obtain ⟨c, _, _, h5, _⟩ := (hels i el hi).2 j u' hu
            exact h5 sh' hs
          · obtain ⟨el, hel⟩ : ∃ el, els[0]? = some el := by
              cases els with
              | nil => exact absurd rfl hne
              | cons r _ => exact ⟨r, rfl⟩
            obtain ⟨g1, g2⟩ := hels 0 el hel
            obtain ⟨c, k1, _⟩ := g2 0 (el[0]'(by omega)) (List.getElem?_eq_getElem (by omega))
            have h3 := cell_lt k1
            have h4 : (a.add (0 * es.length + 0)).block = a.block := by simp only [Addr.add]; split <;> rfl
            rw [h4] at h3
            exact h3
          · obtain ⟨c, k1, k2, _, k4⟩ := (hels i el hi).2 j u hu
            refine ⟨c, ?_, k2, k4 ρ⟩
            rw [Go.Deep.add_add]
            exact k1
      · cases h
    · rename_i fs hu
      rw [Bool.and_eq_true] at h
      obtain ⟨ys, n, _, _, hlen, hyl, hf⟩ := DataW.trod_struct hu hx
      have hc := Nat.eq_of_beq_eq_true h.1
      refine ⟨by rw [hlen, hc], fun j sh hj => ?_⟩
      have := fields_open (cs := cs) (n := n) ih fs.toList 0 shs h.2 (fun f hfm => ?_) j sh hj
      · rw [Nat.zero_add] at this
        obtain ⟨c, u, k1, k2, k3, k4⟩ := this
        refine ⟨c, u, k1, k2, ?_, k4⟩
        have mono : ∀ (d : Nat) (sh : Sh) (u : PV), CellIs d sh u → CellIs (d + 1) sh u := by
          intro d
          induction d with
          | zero => intro sh u h; exact h.elim
          | succ d ihd =>
            intro sh u h
            cases sh with
            | int => exact h
            | str => exact h
            | bool => exact h
            | byte => exact h
            | slice es =>
              obtain ⟨els, h1, h2, h3⟩ := h
              exact ⟨els, h1, h2, fun el hel => ⟨(h3 el hel).1, fun j sh' u' hs hu => ihd _ _ ((h3 el hel).2 j sh' u' hs hu)⟩⟩
        exact mono d sh u k3
      · obtain ⟨i, hi⟩ := List.getElem?_of_mem hfm
        rw [Array.getElem?_toList] at hi
        have hil : i < ys.length := by rw [hyl]; exact (Array.getElem?_eq_some_iff.1 hi).1
        exact ⟨ys[i], by rw [hf i f hi, List.getElem?_eq_getElem hil]⟩
    · cases h
theorem open_all {d : Nat} {T : TypeId} {shs : List Sh} {fuel : Nat} {cs : List Value} {x : DataW H × List MemPlace} (h : shOk P d T shs = true) (hx : DataW.trod enc P w base spare held fuel T cs = some x) :
    ∃ us : List PV, us.length = shs.length ∧ (∀ (j : Nat) sh u, shs[j]? = some sh → us[j]? = some u → CellIs d sh u) ∧ ∀ ρ, Comps ρ w (fun b => b < w.heap.size) noMem cs.toArray us := by
  obtain ⟨h1, h2⟩ := open_cells d T shs fuel cs x h hx
  classical
  refine ⟨(List.range shs.length).map fun j => if hj : j < shs.length then Classical.choose (Classical.choose_spec (h2 j shs[j] (List.getElem?_eq_getElem hj))) else .any, by simp, fun j sh u hs hu => ?_, fun ρ => ⟨by simp [h1], fun j u hu => ?_⟩⟩
  · have hj : j < shs.length := (List.getElem?_eq_some_iff.1 hs).1
    rw [List.getElem?_map, List.getElem?_range hj] at hu
    simp only [Option.map_some, Option.some.injEq, dif_pos hj] at hu
    have hsp := Classical.choose_spec (Classical.choose_spec (h2 j shs[j] (List.getElem?_eq_getElem hj)))
    rw [hu] at hsp
    rw [List.getElem?_eq_getElem hj] at hs
    injection hs with hs
    rw [← hs]
    exact hsp.2.2.1
  · have hj : j < shs.length := by
      have := (List.getElem?_eq_some_iff.1 hu).1
      simpa using this
    rw [List.getElem?_map, List.getElem?_range hj] at hu
    simp only [Option.map_some, Option.some.injEq, dif_pos hj] at hu
    have hsp := Classical.choose_spec (Classical.choose_spec (h2 j shs[j] (List.getElem?_eq_getElem hj)))
    rw [hu] at hsp
    refine ⟨_, ?_, hsp.2.2.2 ρ⟩
    rw [List.getElem?_toArray]
    exact hsp.1
end
theorem cell_byte {d : Nat} {u : PV} (h : CellIs (d + 1) .byte u) : ∃ n : Int, u = .int .u8 n ∧ 0 ≤ n ∧ n ≤ 255 := h
theorem cell_list {α : Type} {d : Nat} {es : List Sh} {u : PV} (f : α → List PV) (h : CellIs (d + 1) (.slice es) u)
    (hf : ∀ el : List PV, el.length = es.length → (∀ (j : Nat) sh' u', es[j]? = some sh' → el[j]? = some u' → CellIs d sh' u') → ∃ a, el = f a) : ∃ xs : List α, u = .list es.length (xs.map f) ∧ xs.length ≤ Go.maxLen := by
  obtain ⟨els, rfl, h2, h3⟩ := h
  have : ∃ xs : List α, els = xs.map f := by
    clear h2
    induction els with
    | nil => exact ⟨[], rfl⟩
    | cons el r ih =>
      obtain ⟨xs, hx⟩ := ih fun el' hel => h3 el' (List.mem_cons_of_mem _ hel)
      obtain ⟨a, ha⟩ := hf el (h3 el List.mem_cons_self).1 (h3 el List.mem_cons_self).2
      exact ⟨a :: xs, by rw [List.map_cons, ← hx, ← ha]⟩
  obtain ⟨xs, rfl⟩ := this
  exact ⟨xs, rfl, by simpa using h2⟩
end Go.Vs
set_option linter.unusedVariables false
set_option linter.unusedSimpArgs false
namespace Go.Proofs.Ytgpnbhnndhakhaa.FnScenariosDone
open Go.ChangeShapes Go.WideShapes Go.ChangeAt Go.RowKit
open Go.Vs
theorem own : ownKnob Try.prog.godebug = none := by kernel_rfl
theorem laidOut : laidOutB Try.prog = true := by kernel_rfl
theorem one_cell {d : Nat} {sh : Sh} {us : List PV} (hl : us.length = 1) (h : ∀ (j : Nat) sh' u, [sh][j]? = some sh' → us[j]? = some u → CellIs d sh' u) : ∃ u, us = [u] ∧ CellIs d sh u := by
  match us, hl with
  | [u], _ => exact ⟨u, rfl, h 0 sh u rfl rfl⟩
set_option maxRecDepth 100000 in
theorem lifted (os : Os) (started : os.Started) (H : Type) (enc : TypeId × Value → H) :
    ReturnsInHanded {} Try.checked os 5 .any (Rows.fnScenariosSpec.pre6 enc Try.prog Try.f5 Rows.fnScenariosRow.domain false) (Rows.fnScenariosSpec.post enc Try.prog Try.f5 false true false false) := by
  refine returnsInHanded_of_change (C := Try.checked) own started (by kernel_rfl) Try.func5
    (ChangeSpec.witness6 (enc := enc) (C := Try.checked) false ⟨#[], #[.slice none 0 0], []⟩ 8 (by kernel_rfl) (by kernel_rfl) (by kernel_rfl) (by kernel_rfl)) ?_
  intro W base args ds gs before hval0 hW hcnd _
  have hval : ∀ (j : Nat) t v, Try.f5.params[j]? = some t → args[j]? = some v → Value.okWide Try.prog W .any base t v := hval0
  have hW' := hW
  obtain ⟨p, q, hA0, hV, rfl, hfz, hnd⟩ := hW
  have hA : DataW.TrodAll enc Try.prog W 0 (fun _ => true) true Try.f5.params.toList args.toList ds p := hA0
  rw [Try.params5] at hA hval
  obtain ⟨v0, vs0, d0, ds0, p0, q0, hargs, rfl, rfl, h0, r0⟩ := trodAll_cons hA
  obtain ⟨rfl, rfl, rfl⟩ := trodAll_nil r0
  obtain rfl : args = #[v0] := by cases args; simp_all
  obtain ⟨rfl, rfl⟩ := trodVars_none hV
  obtain ⟨a0, len0, cap0, rfl⟩ := okWide_slice Try.underlying22 (hval 0 22 v0 rfl rfl)
  have k0 := h0
  have lt0 : ∀ x ∈ p0, x.block < W.heap.size := by obtain ⟨m, hm⟩ := k0; exact DataW.trod_lt m _ _ _ hm
  obtain ⟨us0, ul0, uc0, ur0⟩ : ∃ us : List PV, us.length = ([.slice [.byte]] : List Sh).length ∧ (∀ (j : Nat) sh u, ([.slice [.byte]] : List Sh)[j]? = some sh → us[j]? = some u → CellIs 4 sh u) ∧ ∀ ρ, Comps ρ W (fun b => b < W.heap.size) noMem #[.slice a0 len0 cap0] us := by
    obtain ⟨fuel, hf⟩ := h0
    exact open_all (d := 4) (T := 22) (by kernel_rfl) (by simpa [Value.cells] using hf)
  obtain ⟨u0, rfl, c0⟩ := one_cell ul0 uc0
  obtain ⟨code', rfl, b0⟩ := cell_list (fun b : {b : Int // 0 ≤ b ∧ b ≤ 255} => [PV.int .u8 b.1]) c0 (fun el hl h => by match el, hl with | [u], _ => obtain ⟨m, rfl, hm⟩ := cell_byte (h 0 _ _ rfl rfl); exact ⟨⟨m, hm⟩, rfl⟩)
  obtain ⟨code, e0, l0, b0'⟩ : ∃ code : List Int, code'.map (fun b : {b : Int // 0 ≤ b ∧ b ≤ 255} => [PV.int .u8 b.1]) = bytesP code ∧ code.length = code'.length ∧ ∀ b ∈ code, 0 ≤ b ∧ b ≤ 255 := ⟨code'.map (·.1), by simp [bytesP, Function.comp_def], by simp, fun a ha => by obtain ⟨q, _, rfl⟩ := List.mem_map.1 ha; exact q.2⟩
  rw [e0] at ur0
  rw [← l0] at b0
  clear hA0 hval0
  have hcomp : Comps (fun _ => none) W (fun b => b < W.heap.size) noMem #[.slice a0 len0 cap0] [.list 1 (bytesP code)] := by
    refine ⟨rfl, fun j u hu => ?_⟩
    match j, hu with
    | 0, hu =>
      simp only [List.getElem?_cons_zero, Option.some.injEq] at hu
      subst hu
      obtain ⟨c, hc, hr⟩ := (ur0 (fun _ => none)).2 0 _ rfl
      simp only [List.getElem?_toArray, List.getElem?_cons_zero, Option.some.injEq] at hc
      subst hc
      exact ⟨_, rfl, hr⟩
  refine (calls_below (law_FnScenarios code (by simpa [Go.maxLen] using b0) b0') hcomp).mono fun e W' ⟨he, bel⟩ => ?_
  subst he
  exact ⟨_, rfl, _, _, _, [], _, [], hW', trodAll_mk1 (shut_bool Try.underlying4 _), (trodAll_cons_mk (Below.trod laidOut (by kernel_rfl) (of_decide_eq_true (by kernel_rfl)) k0 bel lt0) trodAll_mk0), rfl, bel.frame _, fun h => by cases h⟩
theorem over : Rows.fnScenariosRow.holds Try.pinned (OpenSpec.ofChange Rows.fnScenariosSpec) :=
  OpenClaim.holds_of_wide 5 Try.f5 rfl rfl rfl rfl rfl rfl rfl ⟨rfl, rfl, rfl, rfl, rfl⟩ rfl rfl rfl rfl rfl (by kernel_rfl) Try.func5 (by kernel_rfl)
    (of_decide_eq_true (by kernel_rfl)) (by unfold Func.isWrapper; first | (rw [if_pos (by decide +kernel)]; kernel_rfl) | (rw [if_neg (by decide +kernel)]; exact ⟨rfl, rfl⟩))
    (fun os started H enc _ => lifted os started H enc)
theorem proved : Rows.FnScenariosSaid := over
end Go.Proofs.Ytgpnbhnndhakhaa.FnScenariosDone
