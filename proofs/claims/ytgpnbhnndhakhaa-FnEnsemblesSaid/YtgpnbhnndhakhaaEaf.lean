/- Parts of a proof: what its last text mentions. -/
import Derived.Test.YtgpnbhnndhakhaaEae
set_option linter.unusedVariables false
set_option linter.unusedSimpArgs false
set_option maxRecDepth 100000
set_option maxHeartbeats 4000000
namespace Go.Vs
open Go.Proofs
attribute [local irreducible] exec vwp thenQ blkQ loopQ RetPost
theorem k_IndexFuncScen (xs : List Scen) (g : FuncId) (ca : List (List PV)) (p : Scen → Bool) (hg : ∀ a ∈ xs, Con Try.prog g (.agg a.pv :: ca.map PV.ptr) (.bool (p a))) (hn : xs.length ≤ 1099511627776) :
    Con Try.prog 152 [.list 2 (xs.map Scen.pv), .fn g [] (ca.map PV.ptr)] (.int .i64 (idx p xs)) := by
  intro al
  refine za8 hmix Try.func152 rfl (by kernel_rfl) (by kernel_rfl) (Nat.le_of_ble_eq_true rfl) (fun row h => by cases h) ?_
  have hty_u51 := ty_u51
  have hty_s51 := ty_s51
  have hty_a56 := ty_a56
  have hl1 : (xs.map Scen.pv).length = xs.length := by simp
  repeat' (first
      | (refine za5 ?_; first | (refine za6 ?_; refine zat _ rfl ?_) | (refine zad ?_; refine zaa _ rfl ?_) | (refine zbv ?_; first | (refine zby rfl rfl aO ?_) | (refine zbu _ rfl rfl rfl ?_) | (refine zaw _ rfl rfl rfl ?_)) | (refine zbf ?_; first | (refine zac aA rfl ?_) | (refine zah _ aA rfl rfl aE rfl ?_) | (refine zaf _ aA rfl aZ aL ?_) | (refine zak _ aA rfl rfl aE aZ aL ?_)) | (refine zbe ?_; first | (refine zau _ aA rfl rfl aO aA ?_) | (refine zav _ aA rfl rfl rfl rfl aO aO (by first | (rw [Nat.zero_add, Int.toNat_natCast]) | (rw [Nat.zero_add]) | rfl) ?_)) | (refine zbd ?_; first | (refine za9 aA rfl ?_) | (refine zbc aA rfl rfl ?_) | (refine zba aA rfl ?_) | (refine zbb aA (evO_ok rfl) ?_)) | (refine zas (hK _ _ (.inl rfl) ?_); clear hK K) | (refine zas (hK _ _ (.inr (by kernel_rfl)) ?_); clear hK K))
      | (refine za3 ?_; first | (refine zbp ?_) | (refine zaj (fun K hK => ?_)) | (refine zan ?_) | (refine za4 ?_) | (refine zbq ?_) | (refine za1 ?_) | (refine zbg ?_; first | (refine zam rfl aD ?_) | (refine zal rfl aD ?_) | (refine zaz rfl (fun h => ?_) (fun h => ?_) <;> (have h' := h; (try simp only [sx] at h')))))
      | (refine za2 ?_) | (refine zai ?_) | (refine zae ?_) | (refine zaq ?_) | (refine zar ?_) | (refine zao ?_) | (refine zap rfl ?_) | (refine zab ?_) | (refine zag ?_) | (refine zbr ?_))
  refine zcd [0, 1, 7] [] (fun i : Nat => [(8, .int .i64 i)]) (fun i : Nat => []) (fun i : Nat => i ≤ xs.length ∧ ∀ j, j < i → ∀ c, xs[j]? = some c → p c = false) (fun i : Nat => xs.length - i) (0) rfl rfl (fun _ => rfl) (fun _ => rfl) rfl aW ⟨by omega, fun j hj => by omega⟩ (fun i hi => ?_)
  obtain ⟨hi1, hi2⟩ := hi
  rcases Nat.lt_or_ge i xs.length with hlt | hge
  · obtain ⟨a, hga⟩ := get_ex hlt
    have hx := Scen.at hga
    have kg := hg a (get_mem hga)
    repeat' (first
      | (refine za5 ?_; first | (refine za6 ?_; refine zat _ rfl ?_) | (refine zad ?_; refine zaa _ rfl ?_) | (refine zbv ?_; first | (refine zby rfl rfl aO ?_) | (refine zbu _ rfl rfl rfl ?_) | (refine zaw _ rfl rfl rfl ?_)) | (refine zbf ?_; first | (refine zac aA rfl ?_) | (refine zah _ aA rfl rfl aE rfl ?_) | (refine zaf _ aA rfl aZ aL ?_) | (refine zak _ aA rfl rfl aE aZ aL ?_)) | (refine zbe ?_; first | (refine zau _ aA rfl rfl aO aA ?_) | (refine zav _ aA rfl rfl rfl rfl aO aO (by first | (rw [Nat.zero_add, Int.toNat_natCast]) | (rw [Nat.zero_add]) | rfl) ?_)) | (refine zbd ?_; first | (refine za0 true (kg) rfl rfl rfl aS rfl aH ?_; simp only [cl]) | (refine x_call [] _ (kg) rfl rfl aS rfl aH ?_; simp only [cl]) | (refine za9 aA rfl ?_) | (refine zbc aA rfl rfl ?_) | (refine zba aA rfl ?_) | (refine zbb aA (evO_ok rfl) ?_)) | (refine zas (hK _ _ (.inl rfl) ?_); clear hK K) | (refine zas (hK _ _ (.inr (by kernel_rfl)) ?_); clear hK K))
      | (refine za3 ?_; first | (refine zbp ?_) | (refine zaj (fun K hK => ?_)) | (refine zan ?_) | (refine za4 ?_) | (refine zbq ?_) | (refine za1 ?_) | (refine zbg ?_; first | (refine zam rfl aD ?_) | (refine zal rfl aD ?_) | (refine zaz rfl (fun h => ?_) (fun h => ?_) <;> (have h' := h; (try simp only [sx] at h')))))
      | (refine za2 ?_) | (refine zai ?_) | (refine zae ?_) | (refine zaq ?_) | (refine zar ?_) | (refine zao ?_) | (refine zap rfl ?_) | (refine zab ?_) | (refine zag ?_) | (refine zbr ?_))
    · exact zcj rfl (zbn rfl) (idx_some hi2 hga aA).symm
    · refine zcb (i + 1) rfl aW ⟨by omega, idx_step hi2 hga (by simpa using h)⟩ aO
  · repeat' (first
      | (refine za5 ?_; first | (refine za6 ?_; refine zat _ rfl ?_) | (refine zad ?_; refine zaa _ rfl ?_) | (refine zbv ?_; first | (refine zby rfl rfl aO ?_) | (refine zbu _ rfl rfl rfl ?_) | (refine zaw _ rfl rfl rfl ?_)) | (refine zbf ?_; first | (refine zac aA rfl ?_) | (refine zah _ aA rfl rfl aE rfl ?_) | (refine zaf _ aA rfl aZ aL ?_) | (refine zak _ aA rfl rfl aE aZ aL ?_)) | (refine zbe ?_; first | (refine zau _ aA rfl rfl aO aA ?_) | (refine zav _ aA rfl rfl rfl rfl aO aO (by first | (rw [Nat.zero_add, Int.toNat_natCast]) | (rw [Nat.zero_add]) | rfl) ?_)) | (refine zbd ?_; first | (refine za9 aA rfl ?_) | (refine zbc aA rfl rfl ?_) | (refine zba aA rfl ?_) | (refine zbb aA (evO_ok rfl) ?_)) | (refine zas (hK _ _ (.inl rfl) ?_); clear hK K) | (refine zas (hK _ _ (.inr (by kernel_rfl)) ?_); clear hK K))
      | (refine za3 ?_; first | (refine zbp ?_) | (refine zaj (fun K hK => ?_)) | (refine zan ?_) | (refine za4 ?_) | (refine zbq ?_) | (refine za1 ?_) | (refine zbg ?_; first | (refine zam rfl aD ?_) | (refine zal rfl aD ?_) | (refine zaz rfl (fun h => ?_) (fun h => ?_) <;> (have h' := h; (try simp only [sx] at h')))))
      | (refine za2 ?_) | (refine zai ?_) | (refine zae ?_) | (refine zaq ?_) | (refine zar ?_) | (refine zao ?_) | (refine zap rfl ?_) | (refine zab ?_) | (refine zag ?_) | (refine zbr ?_))
    exact zcj rfl (zbn rfl) (idx_none fun j hj => hi2 j aO).symm
theorem k_ContainsFuncScen (xs : List Scen) (g : FuncId) (ca : List (List PV)) (p : Scen → Bool) (hg : ∀ a ∈ xs, Con Try.prog g (.agg a.pv :: ca.map PV.ptr) (.bool (p a))) (hn : xs.length ≤ 1099511627776) :
    Con Try.prog 142 [.list 2 (xs.map Scen.pv), .fn g [] (ca.map PV.ptr)] (.bool (xs.any p)) := by
  intro al
  refine za8 hmix Try.func142 rfl (by kernel_rfl) (by kernel_rfl) (Nat.le_of_ble_eq_true rfl) (fun row h => by cases h) ?_
  have hty_u51 := ty_u51
  have hty_s51 := ty_s51
  repeat' (first
      | (refine za5 ?_; first | (refine za6 ?_; refine zat _ rfl ?_) | (refine zad ?_; refine zaa _ rfl ?_) | (refine zbv ?_; refine zbu _ rfl rfl rfl ?_) | (refine zbd ?_; refine za0 false (k_IndexFuncScen xs g ca p hg hn) rfl rfl rfl aS rfl aH ?_; simp only [cl]) | (refine zas (hK _ _ (.inl rfl) ?_); clear hK K) | (refine zas (hK _ _ (.inr (by kernel_rfl)) ?_); clear hK K))
      | (refine za3 ?_; first | (refine zbp ?_) | (refine zaj (fun K hK => ?_)) | (refine zan ?_) | (refine za4 ?_) | (refine zbq ?_) | (refine za1 ?_))
      | (refine za2 ?_) | (refine zai ?_) | (refine zae ?_) | (refine zaq ?_) | (refine zar ?_) | (refine zao ?_) | (refine zap rfl ?_) | (refine zab ?_) | (refine zag ?_) | (refine zbr ?_))
  refine zb1 rfl (zbn rfl) ?_
  rw [← idx_any]
theorem k_all1Scen (a : Scen) (g : FuncId) (ca : List (List PV)) (b : Bool) (hg : Con Try.prog g (.agg a.pv :: ca.map PV.ptr) (.bool b)) :
    Con Try.prog 143 [.agg a.pv, .ptr [.fn g [] (ca.map PV.ptr)]] (.bool (!b)) := by
  intro al
  refine za8 hmix Try.func143 rfl (by kernel_rfl) (by kernel_rfl) (Nat.le_of_ble_eq_true rfl) (fun row h => by cases h) ?_
  have hty_c103 := ty_c103
  have hty_a56 := ty_a56
  have kg := hg
  repeat' (first
      | (refine za5 ?_; first | (refine zad ?_; refine zaa _ rfl ?_) | (refine g_un ?_; first | (refine zce rfl ?_) | (refine zcf rfl aO ?_)) | (refine zbf ?_; first | (refine zac aA rfl ?_) | (refine zah _ aA rfl rfl aE rfl ?_) | (refine zaf _ aA rfl aZ aL ?_) | (refine zak _ aA rfl rfl aE aZ aL ?_)) | (refine zbd ?_; first | (refine za0 true (kg) rfl rfl rfl aS rfl aH ?_; simp only [cl]) | (refine x_call [] _ (kg) rfl rfl aS rfl aH ?_; simp only [cl])) | (refine zbz _ _ rfl rfl rfl rfl ?_) | (refine zas (hK _ _ (.inl rfl) ?_); clear hK K) | (refine zas (hK _ _ (.inr (by kernel_rfl)) ?_); clear hK K))
      | (refine za3 ?_; first | (refine zbp ?_) | (refine zaj (fun K hK => ?_)) | (refine zan ?_) | (refine za4 ?_) | (refine zbq ?_) | (refine za1 ?_))
      | (refine za2 ?_) | (refine zai ?_) | (refine zae ?_) | (refine zaq ?_) | (refine zar ?_) | (refine zao ?_) | (refine zap rfl ?_) | (refine zab ?_) | (refine zag ?_) | (refine zbr ?_))
  exact zb1 rfl (zbn rfl) rfl
theorem k_allScen (xs : List Scen) (g : FuncId) (ca : List (List PV)) (p : Scen → Bool) (hg : ∀ a ∈ xs, Con Try.prog g (.agg a.pv :: ca.map PV.ptr) (.bool (p a))) (hn : xs.length ≤ 1099511627776) :
    Con Try.prog 108 [.list 2 (xs.map Scen.pv), .fn g [] (ca.map PV.ptr)] (.bool (xs.all p)) := by
  intro al
  refine za8 hmix Try.func108 rfl (by kernel_rfl) (by kernel_rfl) (Nat.le_of_ble_eq_true rfl) (fun row h => by cases h) ?_
  have hty_u51 := ty_u51
  have hty_s51 := ty_s51
  repeat' (first
      | (refine za5 ?_; first | (refine za6 ?_; refine zat _ rfl ?_) | (refine zad ?_; refine zaa _ rfl ?_) | (refine g_un ?_; first | (refine zce rfl ?_) | (refine zcf rfl aO ?_)) | (refine zbd ?_; refine za0 true (k_ContainsFuncScen xs 143 [[.fn g [] (ca.map PV.ptr)]] (fun a => !p a) (fun a ha => k_all1Scen a g ca (p a) (hg a ha)) hn) rfl rfl rfl aS rfl aH ?_; simp only [cl]) | (refine zbz _ _ rfl rfl rfl rfl ?_) | (refine zch _ _ rfl rfl ?_) | (refine zas (hK _ _ (.inl rfl) ?_); clear hK K) | (refine zas (hK _ _ (.inr (by kernel_rfl)) ?_); clear hK K))
      | (refine za3 ?_; first | (refine zbp ?_) | (refine zaj (fun K hK => ?_)) | (refine zan ?_) | (refine za4 ?_) | (refine zbq ?_) | (refine za1 ?_))
      | (refine za2 ?_) | (refine zai ?_) | (refine zae ?_) | (refine zaq ?_) | (refine zar ?_) | (refine zao ?_) | (refine zap rfl ?_) | (refine zab ?_) | (refine zag ?_) | (refine zbr ?_))
  refine zb1 rfl (zbn rfl) ?_
  rw [List.all_eq_not_any_not]
end Go.Vs
set_option linter.unusedVariables false
set_option linter.unusedSimpArgs false
set_option maxRecDepth 100000
set_option maxHeartbeats 4000000
namespace Go.Vs
open Go.Proofs
attribute [local irreducible] exec vwp thenQ blkQ loopQ RetPost
def WdOk (ps : List Phase) (t w : Int) : Prop := GoodP ps ∧ (0 ≤ t ∧ t ≤ 9999) ∧ (0 ≤ w ∧ w ≤ 1000) ∧ dn (spF ps) t w ≤ 9999
instance (ps : List Phase) (t w : Int) : Decidable (WdOk ps t w) := by unfold WdOk; infer_instance
end Go.Vs
set_option linter.unusedVariables false
set_option linter.unusedSimpArgs false
set_option maxRecDepth 100000
set_option maxHeartbeats 4000000
namespace Go.Vs
open Go.Proofs
attribute [local irreducible] exec vwp thenQ blkQ loopQ RetPost
theorem k_burned1 (T : List Int) (k : Int) (c : Nat) (hc : c < T.length) : Con Try.prog 135 [.int .i64 (c : Int), .ptr [.list 1 (ints T)], .ptr [.int .i64 k]] (.bool (buP T k c)) := by
  intro al
  refine za8 hmix Try.func135 rfl (by kernel_rfl) (by kernel_rfl) (Nat.le_of_ble_eq_true rfl) (fun row h => by cases h) ?_
  have hty_c24 := ty_c24
  have hty_s24 := ty_s24
  have hty_c3 := ty_c3
  have hx := tv_int (T := T) (c := (c : Int)) (by simpa using hc)
  have hl : (ints T).length = T.length := by simp
  have kI := k_in (tv T (c : Int)) 0 k
  repeat' (first
      | (refine za5 ?_; first | (refine za6 ?_; refine zat _ rfl ?_) | (refine zad ?_; refine zaa _ rfl ?_) | (refine zbf ?_; first | (refine zac aA rfl ?_) | (refine zah _ aA rfl rfl aE rfl ?_) | (refine zaf _ aA rfl aZ aL ?_) | (refine zak _ aA rfl rfl aE aZ aL ?_)) | (refine zbe ?_; first | (refine zau _ aA rfl rfl aO aA ?_) | (refine zav _ aA rfl rfl rfl rfl aO aO (by first | (rw [Nat.zero_add, Int.toNat_natCast]) | (rw [Nat.zero_add]) | rfl) ?_)) | (refine zbd ?_; refine za0 true (kI) rfl rfl rfl aS rfl aH ?_; simp only [cl]) | (refine zas (hK _ _ (.inl rfl) ?_); clear hK K) | (refine zas (hK _ _ (.inr (by kernel_rfl)) ?_); clear hK K))
      | (refine za3 ?_; first | (refine zbp ?_) | (refine zaj (fun K hK => ?_)) | (refine zan ?_) | (refine za4 ?_) | (refine zbq ?_) | (refine za1 ?_))
      | (refine za2 ?_) | (refine zai ?_) | (refine zae ?_) | (refine zaq ?_) | (refine zar ?_) | (refine zao ?_) | (refine zap rfl ?_) | (refine zab ?_) | (refine zag ?_) | (refine zbr ?_))
  all_goals first
    | (exfalso; omega)
    | exact zb1 rfl (zbn rfl) (by simp [buP])
theorem k_burned (b : Blz) (hb : GoodB b) (hs : b.src.length ≤ 1099511627776) (k : Int) :
    Con Try.prog 87 [.agg b.t.pv, .list 2 (b.ps.map Phase.pv), .list 1 (ints b.src), .int .i64 b.st, .int .i64 k] (.olist 3 1 (ints (burL (arr b) k))) := by
  intro al
  refine za8 hmix Try.func87 rfl (by kernel_rfl) (by kernel_rfl) (Nat.le_of_ble_eq_true rfl) (fun row h => by cases h) ?_
  have hty_a26 := ty_a26
  have hty_u27 := ty_u27
  have hty_s27 := ty_s27
  have hty_u24 := ty_u24
  have hty_s24 := ty_s24
  have hty_z24 := ty_z24
  have hty_t24 := ty_t24
  have hl := arr_len hb
  have hlen := goodT_len hb.1.1
  have kA := k_arrivals b hb hs
  have kC := k_cellsThat b.t 135 [[.list 1 (ints (arr b))], [.int .i64 k]] (buP (arr b) k) (fun c hc => k_burned1 (arr b) k c aO) aO
  unfold burL
  rw [hl]
  repeat' (first
      | (refine za5 ?_; first | (refine za6 ?_; refine zat _ rfl ?_) | (refine zad ?_; refine zaa _ rfl ?_) | (refine zbf ?_; first | (refine zac aA rfl ?_) | (refine zah _ aA rfl rfl aE rfl ?_) | (refine zaf _ aA rfl aZ aL ?_) | (refine zak _ aA rfl rfl aE aZ aL ?_)) | (refine zbd ?_; first | (refine za0 true (kA) rfl rfl rfl aS rfl aH ?_; simp only [cl]) | (refine za0 true (kC) rfl rfl rfl aS rfl aH ?_; simp only [cl])) | (refine zbz _ _ rfl rfl rfl rfl ?_) | (refine zcc _ aA rfl ?_) | (refine zb2 aA rfl ?_) | (refine zch _ _ rfl rfl ?_) | (refine zbo _ _ _ rfl rfl aE (by first | assumption | (exact TAgg.size aA)) rfl rfl rfl aZ rfl aL (by first | (first | (simp only [lx, Nat.reduceAdd]; first | done | rfl) | fail) | rfl) ?_) | (refine zas (hK _ _ (.inl rfl) ?_); clear hK K) | (refine zas (hK _ _ (.inr (by kernel_rfl)) ?_); clear hK K))
      | (refine za3 ?_; first | (refine zbp ?_) | (refine zaj (fun K hK => ?_)) | (refine zan ?_) | (refine za4 ?_) | (refine zbq ?_) | (refine za1 ?_))
      | (refine za2 ?_) | (refine zai ?_) | (refine zae ?_) | (refine zaq ?_) | (refine zar ?_) | (refine zao ?_) | (refine zap rfl ?_) | (refine zab ?_) | (refine zag ?_) | (refine zbr ?_))
  all_goals first
    | (exfalso; omega)
    | exact zcn rfl (zbn (by rfl)) (by rfl) (by decide) rfl (ints_flat _) rfl
theorem k_l4Burned (T : List Int) (k : Int) (hn : T.length ≤ 1000000) : Con Try.prog 88 [.list 1 (ints T), .int .i64 k] (.olist 3 1 (ints (burL T k))) := by
  intro al
  refine za8 hmix Try.func88 rfl (by kernel_rfl) (by kernel_rfl) (Nat.le_of_ble_eq_true rfl) (fun row h => by cases h) ?_
  have hty_s24 := ty_s24
  have hty_u24 := ty_u24
  have hty_c3 := ty_c3
  have hl1 : (ints T).length = T.length := by simp
  repeat' (first
      | (refine za5 ?_; first | (refine za6 ?_; refine zat _ rfl ?_) | (refine zad ?_; refine zaa _ rfl ?_) | (refine zbv ?_; first | (refine zby rfl rfl aO ?_) | (refine zbu _ rfl rfl rfl ?_) | (refine zaw _ rfl rfl rfl ?_)) | (refine zbf ?_; first | (refine zac aA rfl ?_) | (refine zah _ aA rfl rfl aE rfl ?_) | (refine zaf _ aA rfl aZ aL ?_) | (refine zak _ aA rfl rfl aE aZ aL ?_)) | (refine zbe ?_; first | (refine zau _ aA rfl rfl aO aA ?_) | (refine zav _ aA rfl rfl rfl rfl aO aO (by first | (rw [Nat.zero_add, Int.toNat_natCast]) | (rw [Nat.zero_add]) | rfl) ?_)) | (refine zbd ?_; first | (refine za9 aA rfl ?_) | (refine zbc aA rfl rfl ?_) | (refine zba aA rfl ?_) | (refine zbb aA (evO_ok rfl) ?_) | (refine zb4 _ _ aA rfl (lookM (by rfl)) rfl (lookM (by rfl)) rfl aN ⟨rfl, rfl, by decide, by decide⟩ (by first | rfl | omega | (simp; done) | (simp; omega) | fail) ⟨by first | (simp only [List.length_cons, List.length_nil]; omega) | omega | fail, by decide⟩ rfl (by first | (first | (simp only [lx, Nat.reduceAdd]; first | done | rfl) | fail) | rfl) aP ?_) | (refine zb3 _ _ aA rfl rfl (lookM (by rfl)) ⟨rfl, by decide⟩ aN (by first | exact Nat.succ_pos _ | omega | (simp; done)) ⟨by first | (simp only [List.length_cons, List.length_nil]; omega) | omega | fail, by decide⟩ rfl rfl aP ?_) | (refine zb5 _ aA rfl rfl (lookM (by rfl)) ⟨rfl, by decide⟩ aN ⟨by first | (simp only [List.length_cons, List.length_nil]; omega) | omega | fail, by decide⟩ rfl aP ?_) | (refine zb0 _ aA rfl rfl rfl ⟨rfl, rfl, rfl, by decide, by decide⟩ (by first | rfl | (simp; done) | fail) ⟨by omega, by decide⟩ rfl aL (by first | (rw [Nat.zero_add]) | rfl) ?_)) | (refine za7 aA rfl rfl rfl ?_) | (refine zas (hK _ _ (.inl rfl) ?_); clear hK K) | (refine zas (hK _ _ (.inr (by kernel_rfl)) ?_); clear hK K))
      | (refine za3 ?_; first | (refine zbp ?_) | (refine zaj (fun K hK => ?_)) | (refine zan ?_) | (refine za4 ?_) | (refine zbq ?_) | (refine za1 ?_) | (refine zbg ?_; first | (refine zam rfl aD ?_) | (refine zal rfl aD ?_) | (refine zaz rfl (fun h => ?_) (fun h => ?_) <;> (have h' := h; (try simp only [sx] at h')))))
      | (refine za2 ?_) | (refine zai ?_) | (refine zae ?_) | (refine zaq ?_) | (refine zar ?_) | (refine zao ?_) | (refine zap rfl ?_) | (refine zab ?_) | (refine zag ?_) | (refine zbr ?_))
  refine zcd [0, 1] [] (fun q : Nat × Nat × List (List PV) => [(5, .osl (1001, 0) 0 q.2.1), (6, .int .i64 q.1)]) (fun q : Nat × Nat × List (List PV) => [((1001, 0), some ⟨3, 1, q.2.2, false⟩)]) (fun q : Nat × Nat × List (List PV) => q.1 ≤ T.length ∧ q.2.2 = ints (cellsL q.1 (buP T k)) ∧ q.2.2.length = q.2.1) (fun q : Nat × Nat × List (List PV) => T.length - q.1) ((0, 0, [])) rfl rfl (fun _ => rfl) (fun _ => rfl) rfl aW ⟨by simp, by simp [cellsL], rfl⟩ (fun q hq => ?_)
  obtain ⟨i, m, es⟩ := q
  obtain ⟨hi1, hi2, hl⟩ := hq
  simp only at hi1 hi2 hl
  have hle : es.length ≤ i := by rw [hi2, ints_len]; exact cellsL_len i _
  dsimp only
  rcases Nat.lt_or_ge i T.length with hlt | hge
  · have hx := tv_int (T := T) (c := (i : Int)) (by simpa using hlt)
    have kI := k_l1In (tv T (i : Int)) 0 k
    rw [show (decide (0 ≤ tv T (i : Int)) && decide (tv T (i : Int) ≤ k)) = buP T k i by simp [buP]] at kI
    cases hp : buP T k i with
    | true =>
      rw [hp] at kI
      repeat' (first
      | (refine za5 ?_; first | (refine za6 ?_; refine zat _ rfl ?_) | (refine zad ?_; refine zaa _ rfl ?_) | (refine zbv ?_; first | (refine zby rfl rfl aO ?_) | (refine zbu _ rfl rfl rfl ?_) | (refine zaw _ rfl rfl rfl ?_)) | (refine zbf ?_; first | (refine zac aA rfl ?_) | (refine zah _ aA rfl rfl aE rfl ?_) | (refine zaf _ aA rfl aZ aL ?_) | (refine zak _ aA rfl rfl aE aZ aL ?_)) | (refine zbe ?_; first | (refine zau _ aA rfl rfl aO aA ?_) | (refine zav _ aA rfl rfl rfl rfl aO aO (by first | (rw [Nat.zero_add, Int.toNat_natCast]) | (rw [Nat.zero_add]) | rfl) ?_)) | (refine zbd ?_; first | (refine za0 true (kI) rfl rfl rfl aS rfl aH ?_; simp only [cl]) | (refine za9 aA rfl ?_) | (refine zbc aA rfl rfl ?_) | (refine zba aA rfl ?_) | (refine zbb aA (evO_ok rfl) ?_) | (refine zb4 _ _ aA rfl (lookM (by rfl)) rfl (lookM (by rfl)) rfl aN ⟨rfl, rfl, by decide, by decide⟩ (by first | rfl | omega | (simp; done) | (simp; omega) | fail) ⟨by first | (simp only [List.length_cons, List.length_nil]; omega) | omega | fail, by decide⟩ rfl (by first | (first | (simp only [lx, Nat.reduceAdd]; first | done | rfl) | fail) | rfl) aP ?_) | (refine zb3 _ _ aA rfl rfl (lookM (by rfl)) ⟨rfl, by decide⟩ aN (by first | exact Nat.succ_pos _ | omega | (simp; done)) ⟨by first | (simp only [List.length_cons, List.length_nil]; omega) | omega | fail, by decide⟩ rfl rfl aP ?_) | (refine zb5 _ aA rfl rfl (lookM (by rfl)) ⟨rfl, by decide⟩ aN ⟨by first | (simp only [List.length_cons, List.length_nil]; omega) | omega | fail, by decide⟩ rfl aP ?_) | (refine zb0 _ aA rfl rfl rfl ⟨rfl, rfl, rfl, by decide, by decide⟩ (by first | rfl | (simp; done) | fail) ⟨by omega, by decide⟩ rfl aL (by first | (rw [Nat.zero_add]) | rfl) ?_)) | (refine za7 aA rfl rfl rfl ?_) | (refine zas (hK _ _ (.inl rfl) ?_); clear hK K) | (refine zas (hK _ _ (.inr (by kernel_rfl)) ?_); clear hK K))
      | (refine za3 ?_; first | (refine zbp ?_) | (refine zaj (fun K hK => ?_)) | (refine zan ?_) | (refine za4 ?_) | (refine zbq ?_) | (refine za1 ?_) | (refine zbg ?_; first | (refine zam rfl aD ?_) | (refine zal rfl aD ?_) | (refine zaz rfl (fun h => ?_) (fun h => ?_) <;> (have h' := h; (try simp only [sx] at h')))))
      | (refine za2 ?_) | (refine zai ?_) | (refine zae ?_) | (refine zaq ?_) | (refine zar ?_) | (refine zao ?_) | (refine zap rfl ?_) | (refine zab ?_) | (refine zag ?_) | (refine zbr ?_))
      all_goals first
        | (exfalso; omega)
        | (refine zcb (i + 1, m + 1, es ++ [[.int .i64 i]]) rfl aW ⟨by simp only; omega, by simp only [cellsL_t hp, ints_snoc, hi2], by simp [hl]⟩ (by simp only; omega))
    | false =>
      rw [hp] at kI
      repeat' (first
      | (refine za5 ?_; first | (refine za6 ?_; refine zat _ rfl ?_) | (refine zad ?_; refine zaa _ rfl ?_) | (refine zbv ?_; first | (refine zby rfl rfl aO ?_) | (refine zbu _ rfl rfl rfl ?_) | (refine zaw _ rfl rfl rfl ?_)) | (refine zbf ?_; first | (refine zac aA rfl ?_) | (refine zah _ aA rfl rfl aE rfl ?_) | (refine zaf _ aA rfl aZ aL ?_) | (refine zak _ aA rfl rfl aE aZ aL ?_)) | (refine zbe ?_; first | (refine zau _ aA rfl rfl aO aA ?_) | (refine zav _ aA rfl rfl rfl rfl aO aO (by first | (rw [Nat.zero_add, Int.toNat_natCast]) | (rw [Nat.zero_add]) | rfl) ?_)) | (refine zbd ?_; first | (refine za0 true (kI) rfl rfl rfl aS rfl aH ?_; simp only [cl]) | (refine za9 aA rfl ?_) | (refine zbc aA rfl rfl ?_) | (refine zba aA rfl ?_) | (refine zbb aA (evO_ok rfl) ?_) | (refine zb4 _ _ aA rfl (lookM (by rfl)) rfl (lookM (by rfl)) rfl aN ⟨rfl, rfl, by decide, by decide⟩ (by first | rfl | omega | (simp; done) | (simp; omega) | fail) ⟨by first | (simp only [List.length_cons, List.length_nil]; omega) | omega | fail, by decide⟩ rfl (by first | (first | (simp only [lx, Nat.reduceAdd]; first | done | rfl) | fail) | rfl) aP ?_) | (refine zb3 _ _ aA rfl rfl (lookM (by rfl)) ⟨rfl, by decide⟩ aN (by first | exact Nat.succ_pos _ | omega | (simp; done)) ⟨by first | (simp only [List.length_cons, List.length_nil]; omega) | omega | fail, by decide⟩ rfl rfl aP ?_) | (refine zb5 _ aA rfl rfl (lookM (by rfl)) ⟨rfl, by decide⟩ aN ⟨by first | (simp only [List.length_cons, List.length_nil]; omega) | omega | fail, by decide⟩ rfl aP ?_) | (refine zb0 _ aA rfl rfl rfl ⟨rfl, rfl, rfl, by decide, by decide⟩ (by first | rfl | (simp; done) | fail) ⟨by omega, by decide⟩ rfl aL (by first | (rw [Nat.zero_add]) | rfl) ?_)) | (refine za7 aA rfl rfl rfl ?_) | (refine zas (hK _ _ (.inl rfl) ?_); clear hK K) | (refine zas (hK _ _ (.inr (by kernel_rfl)) ?_); clear hK K))
      | (refine za3 ?_; first | (refine zbp ?_) | (refine zaj (fun K hK => ?_)) | (refine zan ?_) | (refine za4 ?_) | (refine zbq ?_) | (refine za1 ?_) | (refine zbg ?_; first | (refine zam rfl aD ?_) | (refine zal rfl aD ?_) | (refine zaz rfl (fun h => ?_) (fun h => ?_) <;> (have h' := h; (try simp only [sx] at h')))))
      | (refine za2 ?_) | (refine zai ?_) | (refine zae ?_) | (refine zaq ?_) | (refine zar ?_) | (refine zao ?_) | (refine zap rfl ?_) | (refine zab ?_) | (refine zag ?_) | (refine zbr ?_))
      all_goals first
        | (exfalso; omega)
        | (refine zcb (i + 1, m, es) rfl aW ⟨by simp only; omega, by simp only [cellsL_f hp, hi2], hl⟩ (by simp only; omega))
  · have : i = T.length := by omega
    subst this
    repeat' (first
      | (refine za5 ?_; first | (refine za6 ?_; refine zat _ rfl ?_) | (refine zad ?_; refine zaa _ rfl ?_) | (refine zbv ?_; first | (refine zby rfl rfl aO ?_) | (refine zbu _ rfl rfl rfl ?_) | (refine zaw _ rfl rfl rfl ?_)) | (refine zbf ?_; first | (refine zac aA rfl ?_) | (refine zah _ aA rfl rfl aE rfl ?_) | (refine zaf _ aA rfl aZ aL ?_) | (refine zak _ aA rfl rfl aE aZ aL ?_)) | (refine zbe ?_; first | (refine zau _ aA rfl rfl aO aA ?_) | (refine zav _ aA rfl rfl rfl rfl aO aO (by first | (rw [Nat.zero_add, Int.toNat_natCast]) | (rw [Nat.zero_add]) | rfl) ?_)) | (refine zbd ?_; first | (refine za9 aA rfl ?_) | (refine zbc aA rfl rfl ?_) | (refine zba aA rfl ?_) | (refine zbb aA (evO_ok rfl) ?_) | (refine zb4 _ _ aA rfl (lookM (by rfl)) rfl (lookM (by rfl)) rfl aN ⟨rfl, rfl, by decide, by decide⟩ (by first | rfl | omega | (simp; done) | (simp; omega) | fail) ⟨by first | (simp only [List.length_cons, List.length_nil]; omega) | omega | fail, by decide⟩ rfl (by first | (first | (simp only [lx, Nat.reduceAdd]; first | done | rfl) | fail) | rfl) aP ?_) | (refine zb3 _ _ aA rfl rfl (lookM (by rfl)) ⟨rfl, by decide⟩ aN (by first | exact Nat.succ_pos _ | omega | (simp; done)) ⟨by first | (simp only [List.length_cons, List.length_nil]; omega) | omega | fail, by decide⟩ rfl rfl aP ?_) | (refine zb5 _ aA rfl rfl (lookM (by rfl)) ⟨rfl, by decide⟩ aN ⟨by first | (simp only [List.length_cons, List.length_nil]; omega) | omega | fail, by decide⟩ rfl aP ?_) | (refine zb0 _ aA rfl rfl rfl ⟨rfl, rfl, rfl, by decide, by decide⟩ (by first | rfl | (simp; done) | fail) ⟨by omega, by decide⟩ rfl aL (by first | (rw [Nat.zero_add]) | rfl) ?_)) | (refine za7 aA rfl rfl rfl ?_) | (refine zas (hK _ _ (.inl rfl) ?_); clear hK K) | (refine zas (hK _ _ (.inr (by kernel_rfl)) ?_); clear hK K))
      | (refine za3 ?_; first | (refine zbp ?_) | (refine zaj (fun K hK => ?_)) | (refine zan ?_) | (refine za4 ?_) | (refine zbq ?_) | (refine za1 ?_) | (refine zbg ?_; first | (refine zam rfl aD ?_) | (refine zal rfl aD ?_) | (refine zaz rfl (fun h => ?_) (fun h => ?_) <;> (have h' := h; (try simp only [sx] at h')))))
      | (refine za2 ?_) | (refine zai ?_) | (refine zae ?_) | (refine zaq ?_) | (refine zar ?_) | (refine zao ?_) | (refine zap rfl ?_) | (refine zab ?_) | (refine zag ?_) | (refine zbr ?_))
    all_goals first
      | (exfalso; omega)
      | exact zcn rfl (zbn (by rfl)) (by rfl) (by decide) hl.symm (by rw [hi2]; exact ints_flat _) hi2
end Go.Vs
set_option linter.unusedVariables false
set_option linter.unusedSimpArgs false
set_option maxRecDepth 100000
set_option maxHeartbeats 4000000
namespace Go.Vs
open Go.Proofs
attribute [local irreducible] exec vwp thenQ blkQ loopQ RetPost
structure SzE (e : Ens) : Prop where
  (hn : e.t.burn.length ≤ 1000000) (hL : e.L.length ≤ 1000000) (hp : ∀ s ∈ e.L, s.phases.length ≤ 1000000) (hs : e.src.length ≤ 1000000)
theorem k_IsEns1 (s : Scen) (hn : s.phases.length ≤ 1000000) : Con Try.prog 109 [.agg s.pv] (.bool (decide (OneSc s))) := by
  intro al
  refine za8 hmix Try.func109 rfl (by kernel_rfl) (by kernel_rfl) (Nat.le_of_ble_eq_true rfl) (fun row h => by cases h) ?_
  have hty_f56_0 := ty_f56_0
  have hty_c27 := ty_c27
  have hty_u27 := ty_u27
  have hty_s27 := ty_s27
  have hty_f56_1 := ty_f56_1
  have hty_c3 := ty_c3
  have k1 := k_ArePhases s.phases aO
  have k2 := k_in s.weight 1 100
  have e : decide (OneSc s) = (decide (GoodP s.phases) && (decide (1 ≤ s.weight) && decide (s.weight ≤ 100))) := by rw [Bool.eq_iff_iff, decide_eq_true_eq]; unfold OneSc; simp
  rw [e]
  generalize decide (GoodP s.phases) = x at *
  cases x
  · repeat' (first
      | (refine za5 ?_; first | (refine za6 ?_; refine zat _ rfl ?_) | (refine zad ?_; refine zaa _ rfl ?_) | (refine zbf ?_; first | (refine zac aA rfl ?_) | (refine zah _ aA rfl rfl aE rfl ?_) | (refine zaf _ aA rfl aZ aL ?_) | (refine zak _ aA rfl rfl aE aZ aL ?_)) | (refine zbm ?_; first | (refine zay _ aA rfl aL ?_) | (refine zax _ aA rfl rfl (by simp only [lx, Nat.reduceAdd]; first | done | rfl) ?_)) | (refine zbw ?_; first | (refine zbl rfl aD rfl ?_) | (refine zbi rfl aD ?_) | (refine zbj rfl aD ?_) | (refine zbk rfl aD rfl ?_)) | (refine zbs ?_; first | (refine zbx rfl rfl aD ?_) | (refine zb8 rfl rfl aD ?_) | (refine zb7 rfl rfl ?_) | (refine zbh rfl rfl (fun h => ?_) (fun h => ?_) <;> (have h' := h; (try simp only [sx] at h')))) | (refine zbd ?_; first | (refine za0 true (k1) rfl rfl rfl aS rfl aH ?_; simp only [cl]) | (refine za0 true (k2) rfl rfl rfl aS rfl aH ?_; simp only [cl])) | (refine zbz _ _ rfl rfl rfl rfl ?_) | (refine zas (hK _ _ (.inl rfl) ?_); clear hK K) | (refine zas (hK _ _ (.inr (by kernel_rfl)) ?_); clear hK K))
      | (refine za3 ?_; first | (refine zbp ?_) | (refine zaj (fun K hK => ?_)) | (refine zan ?_) | (refine za4 ?_) | (refine zbq ?_) | (refine za1 ?_))
      | (refine za2 ?_) | (refine zai ?_) | (refine zae ?_) | (refine zaq ?_) | (refine zar ?_) | (refine zao ?_) | (refine zap rfl ?_) | (refine zab ?_) | (refine zag ?_) | (refine zbr ?_))
    all_goals exact zb1 rfl (zbn rfl) rfl
  · repeat' (first
      | (refine za5 ?_; first | (refine za6 ?_; refine zat _ rfl ?_) | (refine zad ?_; refine zaa _ rfl ?_) | (refine zbf ?_; first | (refine zac aA rfl ?_) | (refine zah _ aA rfl rfl aE rfl ?_) | (refine zaf _ aA rfl aZ aL ?_) | (refine zak _ aA rfl rfl aE aZ aL ?_)) | (refine zbm ?_; first | (refine zay _ aA rfl aL ?_) | (refine zax _ aA rfl rfl (by simp only [lx, Nat.reduceAdd]; first | done | rfl) ?_)) | (refine zbw ?_; first | (refine zbl rfl aD rfl ?_) | (refine zbi rfl aD ?_) | (refine zbj rfl aD ?_) | (refine zbk rfl aD rfl ?_)) | (refine zbs ?_; first | (refine zbx rfl rfl aD ?_) | (refine zb8 rfl rfl aD ?_) | (refine zb7 rfl rfl ?_) | (refine zbh rfl rfl (fun h => ?_) (fun h => ?_) <;> (have h' := h; (try simp only [sx] at h')))) | (refine zbd ?_; first | (refine za0 true (k1) rfl rfl rfl aS rfl aH ?_; simp only [cl]) | (refine za0 true (k2) rfl rfl rfl aS rfl aH ?_; simp only [cl])) | (refine zbz _ _ rfl rfl rfl rfl ?_) | (refine zas (hK _ _ (.inl rfl) ?_); clear hK K) | (refine zas (hK _ _ (.inr (by kernel_rfl)) ?_); clear hK K))
      | (refine za3 ?_; first | (refine zbp ?_) | (refine zaj (fun K hK => ?_)) | (refine zan ?_) | (refine za4 ?_) | (refine zbq ?_) | (refine za1 ?_))
      | (refine za2 ?_) | (refine zai ?_) | (refine zae ?_) | (refine zaq ?_) | (refine zar ?_) | (refine zao ?_) | (refine zap rfl ?_) | (refine zab ?_) | (refine zag ?_) | (refine zbr ?_))
    all_goals exact zb1 rfl (zbn rfl) rfl
theorem k_IsEnsemble (L : List Scen) (hL : L.length ≤ 1000000) (hp : ∀ s ∈ L, s.phases.length ≤ 1000000) : Con Try.prog 50 [.list 2 (L.map Scen.pv)] (.bool (decide (GoodL L))) := by
  intro al
  refine za8 hmix Try.func50 rfl (by kernel_rfl) (by kernel_rfl) (Nat.le_of_ble_eq_true rfl) (fun row h => by cases h) ?_
  have hty_u51 := ty_u51
  have hty_s51 := ty_s51
  have hl1 : (L.map Scen.pv).length = L.length := by simp
  have kA : Con Try.prog 108 [.list 2 (L.map Scen.pv), .fn 109 [] []] (.bool (L.all fun s => decide (OneSc s))) := k_allScen L 109 [] (fun s => decide (OneSc s)) (fun s h => k_IsEns1 s (hp s h)) aO
  have kI := k_in ((L.map Scen.pv).length : Int) 1 4
  have e : decide (GoodL L) = (decide (1 ≤ ((L.map Scen.pv).length : Int)) && decide (((L.map Scen.pv).length : Int) ≤ 4) && L.all fun s => decide (OneSc s)) := by
    rw [Bool.eq_iff_iff, hl1, decide_eq_true_eq]
    unfold GoodL
    simp only [decide_eq_true_eq, Bool.and_eq_true, List.all_eq_true]
    constructor
    · rintro ⟨h1, h2, h3⟩; exact ⟨⟨by omega, by omega⟩, h1⟩
    · rintro ⟨⟨h1, h2⟩, h3⟩; exact ⟨h3, by omega, by omega⟩
  rw [e]
  generalize (decide (1 ≤ ((L.map Scen.pv).length : Int)) && decide (((L.map Scen.pv).length : Int) ≤ 4)) = x at *
  generalize (L.all fun s => decide (OneSc s)) = y at *
  cases x
  · repeat' (first
      | (refine za5 ?_; first | (refine za6 ?_; refine zat _ rfl ?_) | (refine zad ?_; refine zaa _ rfl ?_) | (refine zbw ?_; first | (refine zbl rfl aD rfl ?_) | (refine zbi rfl aD ?_) | (refine zbj rfl aD ?_) | (refine zbk rfl aD rfl ?_)) | (refine zbs ?_; first | (refine zbx rfl rfl aD ?_) | (refine zb8 rfl rfl aD ?_) | (refine zb7 rfl rfl ?_) | (refine zbh rfl rfl (fun h => ?_) (fun h => ?_) <;> (have h' := h; (try simp only [sx] at h')))) | (refine zbd ?_; first | (refine za0 true (kI) rfl rfl rfl aS rfl aH ?_; simp only [cl]) | (refine za0 true (kA) rfl rfl rfl aS rfl aH ?_; simp only [cl]) | (refine za9 aA rfl ?_) | (refine zbc aA rfl rfl ?_) | (refine zba aA rfl ?_) | (refine zbb aA (evO_ok rfl) ?_)) | (refine zas (hK _ _ (.inl rfl) ?_); clear hK K) | (refine zas (hK _ _ (.inr (by kernel_rfl)) ?_); clear hK K))
      | (refine za3 ?_; first | (refine zbp ?_) | (refine zaj (fun K hK => ?_)) | (refine zan ?_) | (refine za4 ?_) | (refine zbq ?_) | (refine za1 ?_))
      | (refine za2 ?_) | (refine zai ?_) | (refine zae ?_) | (refine zaq ?_) | (refine zar ?_) | (refine zao ?_) | (refine zap rfl ?_) | (refine zab ?_) | (refine zag ?_) | (refine zbr ?_))
    all_goals exact zb1 rfl (zbn rfl) rfl
  · repeat' (first
      | (refine za5 ?_; first | (refine za6 ?_; refine zat _ rfl ?_) | (refine zad ?_; refine zaa _ rfl ?_) | (refine zbw ?_; first | (refine zbl rfl aD rfl ?_) | (refine zbi rfl aD ?_) | (refine zbj rfl aD ?_) | (refine zbk rfl aD rfl ?_)) | (refine zbs ?_; first | (refine zbx rfl rfl aD ?_) | (refine zb8 rfl rfl aD ?_) | (refine zb7 rfl rfl ?_) | (refine zbh rfl rfl (fun h => ?_) (fun h => ?_) <;> (have h' := h; (try simp only [sx] at h')))) | (refine zbd ?_; first | (refine za0 true (kI) rfl rfl rfl aS rfl aH ?_; simp only [cl]) | (refine za0 true (kA) rfl rfl rfl aS rfl aH ?_; simp only [cl]) | (refine za9 aA rfl ?_) | (refine zbc aA rfl rfl ?_) | (refine zba aA rfl ?_) | (refine zbb aA (evO_ok rfl) ?_)) | (refine zas (hK _ _ (.inl rfl) ?_); clear hK K) | (refine zas (hK _ _ (.inr (by kernel_rfl)) ?_); clear hK K))
      | (refine za3 ?_; first | (refine zbp ?_) | (refine zaj (fun K hK => ?_)) | (refine zan ?_) | (refine za4 ?_) | (refine zbq ?_) | (refine za1 ?_))
      | (refine za2 ?_) | (refine zai ?_) | (refine zae ?_) | (refine zaq ?_) | (refine zar ?_) | (refine zao ?_) | (refine zap rfl ?_) | (refine zab ?_) | (refine zag ?_) | (refine zbr ?_))
    all_goals exact zb1 rfl (zbn rfl) rfl
theorem k_l8Good (L : List Scen) (hL : L.length ≤ 1000000) (hp : ∀ s ∈ L, s.phases.length ≤ 1000000) : Con Try.prog 110 [.list 2 (L.map Scen.pv)] (.bool (decide (GoodL L))) := by
  intro al
  refine za8 hmix Try.func110 rfl (by kernel_rfl) (by kernel_rfl) (Nat.le_of_ble_eq_true rfl) (fun row h => by cases h) ?_
  have hty_u51 := ty_u51
  have hty_s51 := ty_s51
  have hty_f56_0 := ty_f56_0
  have hty_c27 := ty_c27
  have hty_u27 := ty_u27
  have hty_s27 := ty_s27
  have hty_f56_1 := ty_f56_1
  have hty_c3 := ty_c3
  have hl1 : (L.map Scen.pv).length = L.length := by simp
  repeat' (first
      | (refine za5 ?_; first | (refine za6 ?_; refine zat _ rfl ?_) | (refine zad ?_; refine zaa _ rfl ?_) | (refine zbv ?_; first | (refine zby rfl rfl aO ?_) | (refine zbu _ rfl rfl rfl ?_) | (refine zaw _ rfl rfl rfl ?_)) | (refine g_un ?_; first | (refine zce rfl ?_) | (refine zcf rfl aO ?_)) | (refine zbf ?_; first | (refine zac aA rfl ?_) | (refine zah _ aA rfl rfl aE rfl ?_) | (refine zaf _ aA rfl aZ aL ?_) | (refine zak _ aA rfl rfl aE aZ aL ?_)) | (refine zbm ?_; first | (refine zay _ aA rfl aL ?_) | (refine zax _ aA rfl rfl (by simp only [lx, Nat.reduceAdd]; first | done | rfl) ?_)) | (refine zbe ?_; first | (refine zau _ aA rfl rfl aO aA ?_) | (refine zav _ aA rfl rfl rfl rfl aO aO (by first | (rw [Nat.zero_add, Int.toNat_natCast]) | (rw [Nat.zero_add]) | rfl) ?_)) | (refine zbw ?_; first | (refine zbl rfl aD rfl ?_) | (refine zbi rfl aD ?_) | (refine zbj rfl aD ?_) | (refine zbk rfl aD rfl ?_)) | (refine zbs ?_; first | (refine zbx rfl rfl aD ?_) | (refine zb8 rfl rfl aD ?_) | (refine zb7 rfl rfl ?_) | (refine zbh rfl rfl (fun h => ?_) (fun h => ?_) <;> (have h' := h; (try simp only [sx] at h')))) | (refine zbd ?_; first | (refine za9 aA rfl ?_) | (refine zbc aA rfl rfl ?_) | (refine zba aA rfl ?_) | (refine zbb aA (evO_ok rfl) ?_)) | (refine zas (hK _ _ (.inl rfl) ?_); clear hK K) | (refine zas (hK _ _ (.inr (by kernel_rfl)) ?_); clear hK K))
      | (refine za3 ?_; first | (refine zbp ?_) | (refine zaj (fun K hK => ?_)) | (refine zan ?_) | (refine za4 ?_) | (refine zbq ?_) | (refine za1 ?_) | (refine zbg ?_; first | (refine zam rfl aD ?_) | (refine zal rfl aD ?_) | (refine zaz rfl (fun h => ?_) (fun h => ?_) <;> (have h' := h; (try simp only [sx] at h')))))
      | (refine za2 ?_) | (refine zai ?_) | (refine zae ?_) | (refine zaq ?_) | (refine zar ?_) | (refine zao ?_) | (refine zap rfl ?_) | (refine zab ?_) | (refine zag ?_) | (refine zbr ?_))
  all_goals try (exfalso; omega)
  refine zcd [0] [] (fun i : Nat => [(3, .int .i64 i)]) (fun i : Nat => []) (fun i : Nat => i ≤ L.length ∧ ∀ s ∈ L.take i, OneSc s) (fun i : Nat => L.length - i) (0) rfl rfl (fun _ => rfl) (fun _ => rfl) rfl aW ⟨by omega, fun s hs => by simp at hs⟩ (fun i hi => ?_)
  obtain ⟨hi1, hi2⟩ := hi
  rcases Nat.lt_or_ge i L.length with hlt | hge
  · obtain ⟨a, hga⟩ := get_ex hlt
    have hx := Scen.at hga
    have hap := hp a (get_mem hga)
    have k1 := k_l4Phases a.phases aO
    by_cases h1 : GoodP a.phases
    · rw [decide_eq_true h1] at k1
      by_cases h2 : 1 ≤ a.weight ∧ a.weight ≤ 100
      · repeat' (first
      | (refine za5 ?_; first | (refine za6 ?_; refine zat _ rfl ?_) | (refine zad ?_; refine zaa _ rfl ?_) | (refine zbv ?_; first | (refine zby rfl rfl aO ?_) | (refine zbu _ rfl rfl rfl ?_) | (refine zaw _ rfl rfl rfl ?_)) | (refine g_un ?_; first | (refine zce rfl ?_) | (refine zcf rfl aO ?_)) | (refine zbf ?_; first | (refine zac aA rfl ?_) | (refine zah _ aA rfl rfl aE rfl ?_) | (refine zaf _ aA rfl aZ aL ?_) | (refine zak _ aA rfl rfl aE aZ aL ?_)) | (refine zbm ?_; first | (refine zay _ aA rfl aL ?_) | (refine zax _ aA rfl rfl (by simp only [lx, Nat.reduceAdd]; first | done | rfl) ?_)) | (refine zbe ?_; first | (refine zau _ aA rfl rfl aO aA ?_) | (refine zav _ aA rfl rfl rfl rfl aO aO (by first | (rw [Nat.zero_add, Int.toNat_natCast]) | (rw [Nat.zero_add]) | rfl) ?_)) | (refine zbw ?_; first | (refine zbl rfl aD rfl ?_) | (refine zbi rfl aD ?_) | (refine zbj rfl aD ?_) | (refine zbk rfl aD rfl ?_)) | (refine zbs ?_; first | (refine zbx rfl rfl aD ?_) | (refine zb8 rfl rfl aD ?_) | (refine zb7 rfl rfl ?_) | (refine zbh rfl rfl (fun h => ?_) (fun h => ?_) <;> (have h' := h; (try simp only [sx] at h')))) | (refine zbd ?_; first | (refine za0 true (k1) rfl rfl rfl aS rfl aH ?_; simp only [cl]) | (refine za0 true (k_l1In a.weight 1 100) rfl rfl rfl aS rfl aH ?_; simp only [cl]) | (refine za9 aA rfl ?_) | (refine zbc aA rfl rfl ?_) | (refine zba aA rfl ?_) | (refine zbb aA (evO_ok rfl) ?_)) | (refine zas (hK _ _ (.inl rfl) ?_); clear hK K) | (refine zas (hK _ _ (.inr (by kernel_rfl)) ?_); clear hK K))
      | (refine za3 ?_; first | (refine zbp ?_) | (refine zaj (fun K hK => ?_)) | (refine zan ?_) | (refine za4 ?_) | (refine zbq ?_) | (refine za1 ?_) | (refine zbg ?_; first | (refine zam rfl aD ?_) | (refine zal rfl aD ?_) | (refine zaz rfl (fun h => ?_) (fun h => ?_) <;> (have h' := h; (try simp only [sx] at h')))))
      | (refine za2 ?_) | (refine zai ?_) | (refine zae ?_) | (refine zaq ?_) | (refine zar ?_) | (refine zao ?_) | (refine zap rfl ?_) | (refine zab ?_) | (refine zag ?_) | (refine zbr ?_))
        all_goals first
          | (exfalso; omega)
          | (refine zcb (i + 1) rfl aW ⟨by omega, all_take_succ hga hi2 ⟨h1, h2⟩⟩ aO)
      · have hng : ¬ GoodL L := fun h => h2 (h.1 a (get_mem hga)).2
        rw [decide_eq_false hng]
        repeat' (first
      | (refine za5 ?_; first | (refine za6 ?_; refine zat _ rfl ?_) | (refine zad ?_; refine zaa _ rfl ?_) | (refine zbv ?_; first | (refine zby rfl rfl aO ?_) | (refine zbu _ rfl rfl rfl ?_) | (refine zaw _ rfl rfl rfl ?_)) | (refine g_un ?_; first | (refine zce rfl ?_) | (refine zcf rfl aO ?_)) | (refine zbf ?_; first | (refine zac aA rfl ?_) | (refine zah _ aA rfl rfl aE rfl ?_) | (refine zaf _ aA rfl aZ aL ?_) | (refine zak _ aA rfl rfl aE aZ aL ?_)) | (refine zbm ?_; first | (refine zay _ aA rfl aL ?_) | (refine zax _ aA rfl rfl (by simp only [lx, Nat.reduceAdd]; first | done | rfl) ?_)) | (refine zbe ?_; first | (refine zau _ aA rfl rfl aO aA ?_) | (refine zav _ aA rfl rfl rfl rfl aO aO (by first | (rw [Nat.zero_add, Int.toNat_natCast]) | (rw [Nat.zero_add]) | rfl) ?_)) | (refine zbw ?_; first | (refine zbl rfl aD rfl ?_) | (refine zbi rfl aD ?_) | (refine zbj rfl aD ?_) | (refine zbk rfl aD rfl ?_)) | (refine zbs ?_; first | (refine zbx rfl rfl aD ?_) | (refine zb8 rfl rfl aD ?_) | (refine zb7 rfl rfl ?_) | (refine zbh rfl rfl (fun h => ?_) (fun h => ?_) <;> (have h' := h; (try simp only [sx] at h')))) | (refine zbd ?_; first | (refine za0 true (k1) rfl rfl rfl aS rfl aH ?_; simp only [cl]) | (refine za0 true (k_l1In a.weight 1 100) rfl rfl rfl aS rfl aH ?_; simp only [cl]) | (refine za9 aA rfl ?_) | (refine zbc aA rfl rfl ?_) | (refine zba aA rfl ?_) | (refine zbb aA (evO_ok rfl) ?_)) | (refine zas (hK _ _ (.inl rfl) ?_); clear hK K) | (refine zas (hK _ _ (.inr (by kernel_rfl)) ?_); clear hK K))
      | (refine za3 ?_; first | (refine zbp ?_) | (refine zaj (fun K hK => ?_)) | (refine zan ?_) | (refine za4 ?_) | (refine zbq ?_) | (refine za1 ?_) | (refine zbg ?_; first | (refine zam rfl aD ?_) | (refine zal rfl aD ?_) | (refine zaz rfl (fun h => ?_) (fun h => ?_) <;> (have h' := h; (try simp only [sx] at h')))))
      | (refine za2 ?_) | (refine zai ?_) | (refine zae ?_) | (refine zaq ?_) | (refine zar ?_) | (refine zao ?_) | (refine zap rfl ?_) | (refine zab ?_) | (refine zag ?_) | (refine zbr ?_))
        all_goals first
          | (exfalso; omega)
          | exact zb1 rfl (zbn rfl) rfl
    · rw [decide_eq_false h1] at k1
      have hng : ¬ GoodL L := fun h => h1 (h.1 a (get_mem hga)).1
      rw [decide_eq_false hng]
      repeat' (first
      | (refine za5 ?_; first | (refine za6 ?_; refine zat _ rfl ?_) | (refine zad ?_; refine zaa _ rfl ?_) | (refine zbv ?_; first | (refine zby rfl rfl aO ?_) | (refine zbu _ rfl rfl rfl ?_) | (refine zaw _ rfl rfl rfl ?_)) | (refine g_un ?_; first | (refine zce rfl ?_) | (refine zcf rfl aO ?_)) | (refine zbf ?_; first | (refine zac aA rfl ?_) | (refine zah _ aA rfl rfl aE rfl ?_) | (refine zaf _ aA rfl aZ aL ?_) | (refine zak _ aA rfl rfl aE aZ aL ?_)) | (refine zbm ?_; first | (refine zay _ aA rfl aL ?_) | (refine zax _ aA rfl rfl (by simp only [lx, Nat.reduceAdd]; first | done | rfl) ?_)) | (refine zbe ?_; first | (refine zau _ aA rfl rfl aO aA ?_) | (refine zav _ aA rfl rfl rfl rfl aO aO (by first | (rw [Nat.zero_add, Int.toNat_natCast]) | (rw [Nat.zero_add]) | rfl) ?_)) | (refine zbw ?_; first | (refine zbl rfl aD rfl ?_) | (refine zbi rfl aD ?_) | (refine zbj rfl aD ?_) | (refine zbk rfl aD rfl ?_)) | (refine zbs ?_; first | (refine zbx rfl rfl aD ?_) | (refine zb8 rfl rfl aD ?_) | (refine zb7 rfl rfl ?_) | (refine zbh rfl rfl (fun h => ?_) (fun h => ?_) <;> (have h' := h; (try simp only [sx] at h')))) | (refine zbd ?_; first | (refine za0 true (k1) rfl rfl rfl aS rfl aH ?_; simp only [cl]) | (refine za0 true (k_l1In a.weight 1 100) rfl rfl rfl aS rfl aH ?_; simp only [cl]) | (refine za9 aA rfl ?_) | (refine zbc aA rfl rfl ?_) | (refine zba aA rfl ?_) | (refine zbb aA (evO_ok rfl) ?_)) | (refine zas (hK _ _ (.inl rfl) ?_); clear hK K) | (refine zas (hK _ _ (.inr (by kernel_rfl)) ?_); clear hK K))
      | (refine za3 ?_; first | (refine zbp ?_) | (refine zaj (fun K hK => ?_)) | (refine zan ?_) | (refine za4 ?_) | (refine zbq ?_) | (refine za1 ?_) | (refine zbg ?_; first | (refine zam rfl aD ?_) | (refine zal rfl aD ?_) | (refine zaz rfl (fun h => ?_) (fun h => ?_) <;> (have h' := h; (try simp only [sx] at h')))))
      | (refine za2 ?_) | (refine zai ?_) | (refine zae ?_) | (refine zaq ?_) | (refine zar ?_) | (refine zao ?_) | (refine zap rfl ?_) | (refine zab ?_) | (refine zag ?_) | (refine zbr ?_))
      all_goals first
        | (exfalso; omega)
        | exact zb1 rfl (zbn rfl) rfl
  · rw [take_all hge] at hi2
    repeat' (first
      | (refine za5 ?_; first | (refine za6 ?_; refine zat _ rfl ?_) | (refine zad ?_; refine zaa _ rfl ?_) | (refine zbv ?_; first | (refine zby rfl rfl aO ?_) | (refine zbu _ rfl rfl rfl ?_) | (refine zaw _ rfl rfl rfl ?_)) | (refine g_un ?_; first | (refine zce rfl ?_) | (refine zcf rfl aO ?_)) | (refine zbf ?_; first | (refine zac aA rfl ?_) | (refine zah _ aA rfl rfl aE rfl ?_) | (refine zaf _ aA rfl aZ aL ?_) | (refine zak _ aA rfl rfl aE aZ aL ?_)) | (refine zbm ?_; first | (refine zay _ aA rfl aL ?_) | (refine zax _ aA rfl rfl (by simp only [lx, Nat.reduceAdd]; first | done | rfl) ?_)) | (refine zbe ?_; first | (refine zau _ aA rfl rfl aO aA ?_) | (refine zav _ aA rfl rfl rfl rfl aO aO (by first | (rw [Nat.zero_add, Int.toNat_natCast]) | (rw [Nat.zero_add]) | rfl) ?_)) | (refine zbw ?_; first | (refine zbl rfl aD rfl ?_) | (refine zbi rfl aD ?_) | (refine zbj rfl aD ?_) | (refine zbk rfl aD rfl ?_)) | (refine zbs ?_; first | (refine zbx rfl rfl aD ?_) | (refine zb8 rfl rfl aD ?_) | (refine zb7 rfl rfl ?_) | (refine zbh rfl rfl (fun h => ?_) (fun h => ?_) <;> (have h' := h; (try simp only [sx] at h')))) | (refine zbd ?_; first | (refine za0 true (k_l1In _ _ _) rfl rfl rfl aS rfl aH ?_; simp only [cl]) | (refine za9 aA rfl ?_) | (refine zbc aA rfl rfl ?_) | (refine zba aA rfl ?_) | (refine zbb aA (evO_ok rfl) ?_)) | (refine zas (hK _ _ (.inl rfl) ?_); clear hK K) | (refine zas (hK _ _ (.inr (by kernel_rfl)) ?_); clear hK K))
      | (refine za3 ?_; first | (refine zbp ?_) | (refine zaj (fun K hK => ?_)) | (refine zan ?_) | (refine za4 ?_) | (refine zbq ?_) | (refine za1 ?_) | (refine zbg ?_; first | (refine zam rfl aD ?_) | (refine zal rfl aD ?_) | (refine zaz rfl (fun h => ?_) (fun h => ?_) <;> (have h' := h; (try simp only [sx] at h')))))
      | (refine za2 ?_) | (refine zai ?_) | (refine zae ?_) | (refine zaq ?_) | (refine zar ?_) | (refine zao ?_) | (refine zap rfl ?_) | (refine zab ?_) | (refine zag ?_) | (refine zbr ?_))
    all_goals first
      | (exfalso; omega)
      | (refine zb1 rfl (zbn rfl) ?_
         rw [Bool.eq_iff_iff, decide_eq_true_eq]
         unfold GoodL
         simp only [decide_eq_true_eq, Bool.and_eq_true]
         constructor
         · intro h; exact ⟨hi2, by omega, by omega⟩
         · intro h; exact ⟨by omega, by omega⟩)
theorem goodE_bool (e : Ens) : decide (GoodEn e) = (decide (GoodT e.t) && (decide (GoodL e.L) && (decide ((∀ s ∈ e.src, IsCell e.t s) ∧ Rising e.src) && (decide (0 ≤ e.st) && decide (e.st ≤ 1000))))) := by
  rw [Bool.eq_iff_iff, decide_eq_true_eq]
  unfold GoodEn SetOk
  simp only [decide_eq_true_eq, Bool.and_eq_true]
  exact ⟨fun ⟨⟨h1, h2⟩, h3, h4⟩ => ⟨h1, h3, h2, h4⟩, fun ⟨h1, h3, h2, h4⟩ => ⟨⟨h1, h2⟩, h3, h4⟩⟩
theorem k_isBlaze (e : Ens) (z : SzE e) : Con Try.prog 94 [.agg e.t.pv, .list 2 (e.L.map Scen.pv), .list 1 (ints e.src), .int .i64 e.st] (.bool (decide (GoodEn e))) := by
  intro al
  refine za8 hmix Try.func94 rfl (by kernel_rfl) (by kernel_rfl) (Nat.le_of_ble_eq_true rfl) (fun row h => by cases h) ?_
  have hty_a26 := ty_a26
  have hty_u51 := ty_u51
  have hty_s51 := ty_s51
  have hty_u24 := ty_u24
  have hty_s24 := ty_s24
  have hn := z.hn
  have hs := z.hs
  have k1 := k_IsTerrain e.t aO
  have k2 := k_IsEnsemble e.L z.hL z.hp
  have k3 := k_isSet e.t e.src aO aO
  have k4 := k_in e.st 0 1000
  rw [goodE_bool]
  generalize decide (GoodT e.t) = a at *
  generalize decide (GoodL e.L) = b at *
  generalize decide ((∀ s ∈ e.src, IsCell e.t s) ∧ Rising e.src) = c at *
  cases a <;> cases b <;> cases c
  all_goals
    repeat' (first
      | (refine za5 ?_; first | (refine za6 ?_; refine zat _ rfl ?_) | (refine zad ?_; refine zaa _ rfl ?_) | (refine zbf ?_; first | (refine zac aA rfl ?_) | (refine zah _ aA rfl rfl aE rfl ?_) | (refine zaf _ aA rfl aZ aL ?_) | (refine zak _ aA rfl rfl aE aZ aL ?_)) | (refine zbw ?_; first | (refine zbl rfl aD rfl ?_) | (refine zbi rfl aD ?_) | (refine zbj rfl aD ?_) | (refine zbk rfl aD rfl ?_)) | (refine zbs ?_; first | (refine zbx rfl rfl aD ?_) | (refine zb8 rfl rfl aD ?_) | (refine zb7 rfl rfl ?_) | (refine zbh rfl rfl (fun h => ?_) (fun h => ?_) <;> (have h' := h; (try simp only [sx] at h')))) | (refine zbd ?_; first | (refine za0 true (k1) rfl rfl rfl aS rfl aH ?_; simp only [cl]) | (refine za0 true (k2) rfl rfl rfl aS rfl aH ?_; simp only [cl]) | (refine za0 true (k3) rfl rfl rfl aS rfl aH ?_; simp only [cl]) | (refine za0 true (k4) rfl rfl rfl aS rfl aH ?_; simp only [cl])) | (refine zbz _ _ rfl rfl rfl rfl ?_) | (refine zas (hK _ _ (.inl rfl) ?_); clear hK K) | (refine zas (hK _ _ (.inr (by kernel_rfl)) ?_); clear hK K))
      | (refine za3 ?_; first | (refine zbp ?_) | (refine zaj (fun K hK => ?_)) | (refine zan ?_) | (refine za4 ?_) | (refine zbq ?_) | (refine za1 ?_))
      | (refine za2 ?_) | (refine zai ?_) | (refine zae ?_) | (refine zaq ?_) | (refine zar ?_) | (refine zao ?_) | (refine zap rfl ?_) | (refine zab ?_) | (refine zag ?_) | (refine zbr ?_))
    all_goals exact zb1 rfl (zbn rfl) rfl
theorem k_l8Asked (e : Ens) (z : SzE e) : Con Try.prog 98 [.agg e.t.pv, .list 2 (e.L.map Scen.pv), .list 1 (ints e.src), .int .i64 e.st] (.bool (decide (GoodEn e))) := by
  intro al
  refine za8 hmix Try.func98 rfl (by kernel_rfl) (by kernel_rfl) (Nat.le_of_ble_eq_true rfl) (fun row h => by cases h) ?_
  have hty_a26 := ty_a26
  have hty_u24 := ty_u24
  have hty_s24 := ty_s24
  have hty_u51 := ty_u51
  have hty_s51 := ty_s51
  have hn := z.hn
  have hs := z.hs
  have k2 := k_l8Good e.L z.hL z.hp
  have k3 := k_l2Set e.t e.src aO aO
  have k4 := k_l1In e.st 0 1000
  have e1 : decide (GoodEn e) = (decide (GoodT e.t ∧ (∀ y ∈ e.src, 0 ≤ y ∧ y < e.t.burn.length) ∧ Rising e.src) && (decide (GoodL e.L) && (decide (0 ≤ e.st) && decide (e.st ≤ 1000)))) := by
    rw [Bool.eq_iff_iff, decide_eq_true_eq]
    unfold GoodEn SetOk
    simp only [decide_eq_true_eq, Bool.and_eq_true]
    exact Iff.rfl
  rw [e1]
  generalize decide (GoodT e.t ∧ (∀ y ∈ e.src, 0 ≤ y ∧ y < e.t.burn.length) ∧ Rising e.src) = a at *
  generalize decide (GoodL e.L) = b at *
  cases a <;> cases b
  all_goals
    repeat' (first
      | (refine za5 ?_; first | (refine za6 ?_; refine zat _ rfl ?_) | (refine zad ?_; refine zaa _ rfl ?_) | (refine zbf ?_; first | (refine zac aA rfl ?_) | (refine zah _ aA rfl rfl aE rfl ?_) | (refine zaf _ aA rfl aZ aL ?_) | (refine zak _ aA rfl rfl aE aZ aL ?_)) | (refine zbw ?_; first | (refine zbl rfl aD rfl ?_) | (refine zbi rfl aD ?_) | (refine zbj rfl aD ?_) | (refine zbk rfl aD rfl ?_)) | (refine zbs ?_; first | (refine zbx rfl rfl aD ?_) | (refine zb8 rfl rfl aD ?_) | (refine zb7 rfl rfl ?_) | (refine zbh rfl rfl (fun h => ?_) (fun h => ?_) <;> (have h' := h; (try simp only [sx] at h')))) | (refine zbd ?_; first | (refine za0 true (k3) rfl rfl rfl aS rfl aH ?_; simp only [cl]) | (refine za0 true (k2) rfl rfl rfl aS rfl aH ?_; simp only [cl]) | (refine za0 true (k4) rfl rfl rfl aS rfl aH ?_; simp only [cl])) | (refine zbz _ _ rfl rfl rfl rfl ?_) | (refine zas (hK _ _ (.inl rfl) ?_); clear hK K) | (refine zas (hK _ _ (.inr (by kernel_rfl)) ?_); clear hK K))
      | (refine za3 ?_; first | (refine zbp ?_) | (refine zaj (fun K hK => ?_)) | (refine zan ?_) | (refine za4 ?_) | (refine zbq ?_) | (refine za1 ?_))
      | (refine za2 ?_) | (refine zai ?_) | (refine zae ?_) | (refine zaq ?_) | (refine zar ?_) | (refine zao ?_) | (refine zap rfl ?_) | (refine zab ?_) | (refine zag ?_) | (refine zbr ?_))
    all_goals exact zb1 rfl (zbn rfl) rfl
@[reducible] def frN (p q : Int) : Int := p / (Int.gcd p q : Int)
@[reducible] def frD (p q : Int) : Int := q / (Int.gcd p q : Int)
theorem k_l8Reduce (a b : Int) (ha : 0 ≤ a ∧ a ≤ 1000000000) (hb : 1 ≤ b ∧ b ≤ 1000000000) : Con Try.prog 105 [.int .i64 a, .int .i64 b] (.tuple [.int .i64 (frN a b), .int .i64 (frD a b)]) := by
  intro al
  refine za8 hmix Try.func105 rfl (by kernel_rfl) (by kernel_rfl) (Nat.le_of_ble_eq_true rfl) (fun row h => by cases h) ?_
  have hp := gcd_pos (a := a) hb.1
  repeat' (first
      | (refine za5 ?_; first | (refine za6 ?_; refine zat _ rfl ?_) | (refine zad ?_; refine zaa _ rfl ?_) | (refine zbv ?_; first | (refine x_quo rfl rfl aO ?_) | (refine zcp rfl rfl aO ?_) | (refine zco rfl rfl aO ?_) | (refine zcm rfl rfl aO ?_) | (refine zbu _ rfl rfl rfl ?_) | (refine zb6 aA rfl rfl ?_) | (refine zaw _ rfl rfl rfl ?_)) | (refine zas (hK _ _ (.inl rfl) ?_); clear hK K) | (refine zas (hK _ _ (.inr (by kernel_rfl)) ?_); clear hK K))
      | (refine za3 ?_; first | (refine zbp ?_) | (refine zaj (fun K hK => ?_)) | (refine zan ?_) | (refine za4 ?_) | (refine zbq ?_) | (refine za1 ?_) | (refine zbg ?_; first | (refine zam rfl aD ?_) | (refine zal rfl aD ?_) | (refine zaz rfl (fun h => ?_) (fun h => ?_) <;> (have h' := h; (try simp only [sx] at h')))))
      | (refine za2 ?_) | (refine zai ?_) | (refine zae ?_) | (refine zaq ?_) | (refine zar ?_) | (refine zao ?_) | (refine zap rfl ?_) | (refine zab ?_) | (refine zag ?_) | (refine zbr ?_))
  refine zcd [0, 1] [] (fun q : Int × Int => [(6, .int .i64 q.1), (7, .int .i64 q.2)]) (fun q : Int × Int => []) (fun q : Int × Int => Int.gcd q.1 q.2 = Int.gcd a b ∧ (0 ≤ q.1 ∧ q.1 ≤ 1000000000) ∧ (0 ≤ q.2 ∧ q.2 ≤ 1000000000)) (fun q : Int × Int => q.2.toNat) ((a, b)) rfl rfl (fun _ => rfl) (fun _ => rfl) rfl aW ⟨rfl, ha, by simp only; omega⟩ (fun q hq => ?_)
  obtain ⟨x, y⟩ := q
  obtain ⟨h1, h2, h3⟩ := hq
  simp only at h1 h2 h3
  dsimp only
  by_cases hy : y > 0
  · have e1 := Int.emod_nonneg x (show y ≠ 0 by omega)
    have e2 := Int.emod_lt_of_pos x hy
    repeat' (first
      | (refine za5 ?_; first | (refine za6 ?_; refine zat _ rfl ?_) | (refine zad ?_; refine zaa _ rfl ?_) | (refine zbv ?_; first | (refine x_quo rfl rfl aO ?_) | (refine zcp rfl rfl aO ?_) | (refine zco rfl rfl aO ?_) | (refine zcm rfl rfl aO ?_) | (refine zbu _ rfl rfl rfl ?_) | (refine zb6 aA rfl rfl ?_) | (refine zaw _ rfl rfl rfl ?_)) | (refine zas (hK _ _ (.inl rfl) ?_); clear hK K) | (refine zas (hK _ _ (.inr (by kernel_rfl)) ?_); clear hK K))
      | (refine za3 ?_; first | (refine zbp ?_) | (refine zaj (fun K hK => ?_)) | (refine zan ?_) | (refine za4 ?_) | (refine zbq ?_) | (refine za1 ?_) | (refine zbg ?_; first | (refine zam rfl aD ?_) | (refine zal rfl aD ?_) | (refine zaz rfl (fun h => ?_) (fun h => ?_) <;> (have h' := h; (try simp only [sx] at h')))))
      | (refine za2 ?_) | (refine zai ?_) | (refine zae ?_) | (refine zaq ?_) | (refine zar ?_) | (refine zao ?_) | (refine zap rfl ?_) | (refine zab ?_) | (refine zag ?_) | (refine zbr ?_))
    all_goals first
      | (exfalso; omega)
      | (refine zcb (y, x % y) rfl aW ⟨by simp only; rw [gcd_emod h2.1 hy]; exact h1, by simp only; omega, by simp only; omega⟩ (by simp only; omega))
  · have hy0 : y = 0 := by omega
    subst hy0
    have hx : x = (Int.gcd a b : Int) := by rw [← h1]; simp only [Int.gcd, Int.natAbs_zero, Nat.gcd_zero_right]; omega
    subst hx
    repeat' (first
      | (refine za5 ?_; first | (refine za6 ?_; refine zat _ rfl ?_) | (refine zad ?_; refine zaa _ rfl ?_) | (refine zbv ?_; first | (refine x_quo rfl rfl aO ?_) | (refine zcp rfl rfl aO ?_) | (refine zco rfl rfl aO ?_) | (refine zcm rfl rfl aO ?_) | (refine zbu _ rfl rfl rfl ?_) | (refine zb6 aA rfl rfl ?_) | (refine zaw _ rfl rfl rfl ?_)) | (refine zas (hK _ _ (.inl rfl) ?_); clear hK K) | (refine zas (hK _ _ (.inr (by kernel_rfl)) ?_); clear hK K))
      | (refine za3 ?_; first | (refine zbp ?_) | (refine zaj (fun K hK => ?_)) | (refine zan ?_) | (refine za4 ?_) | (refine zbq ?_) | (refine za1 ?_) | (refine zbg ?_; first | (refine zam rfl aD ?_) | (refine zal rfl aD ?_) | (refine zaz rfl (fun h => ?_) (fun h => ?_) <;> (have h' := h; (try simp only [sx] at h')))))
      | (refine za2 ?_) | (refine zai ?_) | (refine zae ?_) | (refine zaq ?_) | (refine zar ?_) | (refine zao ?_) | (refine zap rfl ?_) | (refine zab ?_) | (refine zag ?_) | (refine zbr ?_))
    all_goals first
      | (exfalso; omega)
      | exact aR
theorem k_l8All (L : List Scen) (hL : GoodL L) : Con Try.prog 106 [.list 2 (L.map Scen.pv)] (.int .i64 (sumBy wtS L)) := by
  intro al
  refine za8 hmix Try.func106 rfl (by kernel_rfl) (by kernel_rfl) (Nat.le_of_ble_eq_true rfl) (fun row h => by cases h) ?_
  have hty_u51 := ty_u51
  have hty_s51 := ty_s51
  have hty_f56_1 := ty_f56_1
  have hty_c3 := ty_c3
  have hl1 : (L.map Scen.pv).length = L.length := by simp
  have hl := hL.2
  repeat' (first
      | (refine za5 ?_; first | (refine za6 ?_; refine zat _ rfl ?_) | (refine zad ?_; refine zaa _ rfl ?_) | (refine zbv ?_; first | (refine zby rfl rfl aO ?_) | (refine zbu _ rfl rfl rfl ?_) | (refine zaw _ rfl rfl rfl ?_)) | (refine zbf ?_; first | (refine zac aA rfl ?_) | (refine zah _ aA rfl rfl aE rfl ?_) | (refine zaf _ aA rfl aZ aL ?_) | (refine zak _ aA rfl rfl aE aZ aL ?_)) | (refine zbm ?_; first | (refine zay _ aA rfl aL ?_) | (refine zax _ aA rfl rfl (by simp only [lx, Nat.reduceAdd]; first | done | rfl) ?_)) | (refine zbe ?_; first | (refine zau _ aA rfl rfl aO aA ?_) | (refine zav _ aA rfl rfl rfl rfl aO aO (by first | (rw [Nat.zero_add, Int.toNat_natCast]) | (rw [Nat.zero_add]) | rfl) ?_)) | (refine zbd ?_; first | (refine za9 aA rfl ?_) | (refine zbc aA rfl rfl ?_) | (refine zba aA rfl ?_) | (refine zbb aA (evO_ok rfl) ?_)) | (refine zas (hK _ _ (.inl rfl) ?_); clear hK K) | (refine zas (hK _ _ (.inr (by kernel_rfl)) ?_); clear hK K))
      | (refine za3 ?_; first | (refine zbp ?_) | (refine zaj (fun K hK => ?_)) | (refine zan ?_) | (refine za4 ?_) | (refine zbq ?_) | (refine za1 ?_) | (refine zbg ?_; first | (refine zam rfl aD ?_) | (refine zal rfl aD ?_) | (refine zaz rfl (fun h => ?_) (fun h => ?_) <;> (have h' := h; (try simp only [sx] at h')))))
      | (refine za2 ?_) | (refine zai ?_) | (refine zae ?_) | (refine zaq ?_) | (refine zar ?_) | (refine zao ?_) | (refine zap rfl ?_) | (refine zab ?_) | (refine zag ?_) | (refine zbr ?_))
  all_goals try (exfalso; omega)
  refine zcd [0] [] (fun q : Nat × Int => [(3, .int .i64 q.2), (4, .int .i64 q.1)]) (fun q : Nat × Int => []) (fun q : Nat × Int => q.1 ≤ L.length ∧ q.2 = sumBy wtS (L.take q.1)) (fun q : Nat × Int => L.length - q.1) ((0, 0)) rfl rfl (fun _ => rfl) (fun _ => rfl) rfl aW ⟨by simp, by simp [sumBy]⟩ (fun q hq => ?_)
  obtain ⟨i, s⟩ := q
  obtain ⟨h1, h2⟩ := hq
  simp only at h1 h2
  have hb := wtS_bnd hL i
  dsimp only
  rcases Nat.lt_or_ge i L.length with hlt | hge
  · obtain ⟨a, hga⟩ := get_ex hlt
    have hx := Scen.at hga
    have hwa := (hL.1 a (get_mem hga)).2
    have hsum := sumBy_take_succ wtS hga
    repeat' (first
      | (refine za5 ?_; first | (refine za6 ?_; refine zat _ rfl ?_) | (refine zad ?_; refine zaa _ rfl ?_) | (refine zbv ?_; first | (refine zby rfl rfl aO ?_) | (refine zbu _ rfl rfl rfl ?_) | (refine zaw _ rfl rfl rfl ?_)) | (refine zbf ?_; first | (refine zac aA rfl ?_) | (refine zah _ aA rfl rfl aE rfl ?_) | (refine zaf _ aA rfl aZ aL ?_) | (refine zak _ aA rfl rfl aE aZ aL ?_)) | (refine zbm ?_; first | (refine zay _ aA rfl aL ?_) | (refine zax _ aA rfl rfl (by simp only [lx, Nat.reduceAdd]; first | done | rfl) ?_)) | (refine zbe ?_; first | (refine zau _ aA rfl rfl aO aA ?_) | (refine zav _ aA rfl rfl rfl rfl aO aO (by first | (rw [Nat.zero_add, Int.toNat_natCast]) | (rw [Nat.zero_add]) | rfl) ?_)) | (refine zbd ?_; first | (refine za9 aA rfl ?_) | (refine zbc aA rfl rfl ?_) | (refine zba aA rfl ?_) | (refine zbb aA (evO_ok rfl) ?_)) | (refine zas (hK _ _ (.inl rfl) ?_); clear hK K) | (refine zas (hK _ _ (.inr (by kernel_rfl)) ?_); clear hK K))
      | (refine za3 ?_; first | (refine zbp ?_) | (refine zaj (fun K hK => ?_)) | (refine zan ?_) | (refine za4 ?_) | (refine zbq ?_) | (refine za1 ?_) | (refine zbg ?_; first | (refine zam rfl aD ?_) | (refine zal rfl aD ?_) | (refine zaz rfl (fun h => ?_) (fun h => ?_) <;> (have h' := h; (try simp only [sx] at h')))))
      | (refine za2 ?_) | (refine zai ?_) | (refine zae ?_) | (refine zaq ?_) | (refine zar ?_) | (refine zao ?_) | (refine zap rfl ?_) | (refine zab ?_) | (refine zag ?_) | (refine zbr ?_))
    all_goals first
      | (exfalso; omega)
      | (refine zcb (i + 1, s + a.weight) rfl aW ⟨by simp only; omega, by simp only [hsum, h2]⟩ (by simp only; omega))
  · rw [take_all hge] at h2
    repeat' (first
      | (refine za5 ?_; first | (refine za6 ?_; refine zat _ rfl ?_) | (refine zad ?_; refine zaa _ rfl ?_) | (refine zbv ?_; first | (refine zby rfl rfl aO ?_) | (refine zbu _ rfl rfl rfl ?_) | (refine zaw _ rfl rfl rfl ?_)) | (refine zbf ?_; first | (refine zac aA rfl ?_) | (refine zah _ aA rfl rfl aE rfl ?_) | (refine zaf _ aA rfl aZ aL ?_) | (refine zak _ aA rfl rfl aE aZ aL ?_)) | (refine zbm ?_; first | (refine zay _ aA rfl aL ?_) | (refine zax _ aA rfl rfl (by simp only [lx, Nat.reduceAdd]; first | done | rfl) ?_)) | (refine zbe ?_; first | (refine zau _ aA rfl rfl aO aA ?_) | (refine zav _ aA rfl rfl rfl rfl aO aO (by first | (rw [Nat.zero_add, Int.toNat_natCast]) | (rw [Nat.zero_add]) | rfl) ?_)) | (refine zbd ?_; first | (refine za9 aA rfl ?_) | (refine zbc aA rfl rfl ?_) | (refine zba aA rfl ?_) | (refine zbb aA (evO_ok rfl) ?_)) | (refine zas (hK _ _ (.inl rfl) ?_); clear hK K) | (refine zas (hK _ _ (.inr (by kernel_rfl)) ?_); clear hK K))
      | (refine za3 ?_; first | (refine zbp ?_) | (refine zaj (fun K hK => ?_)) | (refine zan ?_) | (refine za4 ?_) | (refine zbq ?_) | (refine za1 ?_) | (refine zbg ?_; first | (refine zam rfl aD ?_) | (refine zal rfl aD ?_) | (refine zaz rfl (fun h => ?_) (fun h => ?_) <;> (have h' := h; (try simp only [sx] at h')))))
      | (refine za2 ?_) | (refine zai ?_) | (refine zae ?_) | (refine zaq ?_) | (refine zar ?_) | (refine zao ?_) | (refine zap rfl ?_) | (refine zab ?_) | (refine zag ?_) | (refine zbr ?_))
    all_goals first
      | (exfalso; omega)
      | exact zcj rfl (zbn rfl) h2
theorem wtL_bnd {L : List Scen} (hL : GoodL L) : 1 ≤ sumBy wtS L ∧ sumBy wtS L ≤ 400 := by
  have h1 := wtS_bnd hL L.length
  rw [List.take_length] at h1
  obtain ⟨s, hs⟩ := get_ex (show 0 < L.length by have := hL.2; omega)
  have h3 := (wt_posS hL fun _ => true).2 ⟨s, get_mem hs, rfl⟩
  have h4 : sumBy (wIfS fun _ => true) L = sumBy wtS L := sumBy_congr fun s _ => rfl
  omega
theorem k_chance (L : List Scen) (g : FuncId) (ca : List (List PV)) (p : Scen → Bool) (hg : ∀ s ∈ L, Con Try.prog g (.agg s.pv :: ca.map PV.ptr) (.bool (p s))) (hL : GoodL L) :
    Con Try.prog 102 [.list 2 (L.map Scen.pv), .fn g [] (ca.map PV.ptr)] (.tuple [.int .i64 (frN (sumBy (wIfS p) L) (sumBy wtS L)), .int .i64 (frD (sumBy (wIfS p) L) (sumBy wtS L))]) := by
  intro al
  refine za8 hmix Try.func102 rfl (by kernel_rfl) (by kernel_rfl) (Nat.le_of_ble_eq_true rfl) (fun row h => by cases h) ?_
  have hty_u51 := ty_u51
  have hty_s51 := ty_s51
  have hty_a56 := ty_a56
  have hty_z56 := ty_z56
  have hty_t56 := ty_t56
  have hty_f56_1 := ty_f56_1
  have hty_c3 := ty_c3
  have hl1 : (L.map Scen.pv).length = L.length := by simp
  have hl := hL.2
  have hwb := wtL_bnd hL
  have hib := wIfS_bnd hL p L.length
  rw [List.take_length] at hib
  have kF := k_fraction (sumBy (wIfS p) L) (sumBy wtS L) aO aO
  repeat' (first
      | (refine za5 ?_; first | (refine za6 ?_; refine zat _ rfl ?_) | (refine zad ?_; refine zaa _ rfl ?_) | (refine zbv ?_; first | (refine zby rfl rfl aO ?_) | (refine zbu _ rfl rfl rfl ?_) | (refine zaw _ rfl rfl rfl ?_)) | (refine zbf ?_; first | (refine zac aA rfl ?_) | (refine zah _ aA rfl rfl aE rfl ?_) | (refine zaf _ aA rfl aZ aL ?_) | (refine zak _ aA rfl rfl aE aZ aL ?_)) | (refine zbm ?_; first | (refine zay _ aA rfl aL ?_) | (refine zax _ aA rfl rfl (by simp only [lx, Nat.reduceAdd]; first | done | rfl) ?_)) | (refine zbe ?_; first | (refine zau _ aA rfl rfl aO aA ?_) | (refine zav _ aA rfl rfl rfl rfl aO aO (by first | (rw [Nat.zero_add, Int.toNat_natCast]) | (rw [Nat.zero_add]) | rfl) ?_)) | (refine zbd ?_; first | (refine za9 aA rfl ?_) | (refine zbc aA rfl rfl ?_) | (refine zba aA rfl ?_) | (refine zbb aA (evO_ok rfl) ?_)) | (refine zcc _ aA rfl ?_) | (refine zb2 aA rfl ?_) | (refine zbo _ _ _ rfl rfl aE (by first | assumption | (exact TAgg.size aA)) rfl rfl rfl aZ rfl aL (by first | (first | (simp only [lx, Nat.reduceAdd]; first | done | rfl) | fail) | rfl) ?_) | (refine zca _ rfl rfl ?_) | (refine zas (hK _ _ (.inl rfl) ?_); clear hK K) | (refine zas (hK _ _ (.inr (by kernel_rfl)) ?_); clear hK K))
      | (refine za3 ?_; first | (refine zbp ?_) | (refine zaj (fun K hK => ?_)) | (refine zan ?_) | (refine za4 ?_) | (refine zbq ?_) | (refine za1 ?_) | (refine zbg ?_; first | (refine zam rfl aD ?_) | (refine zal rfl aD ?_) | (refine zaz rfl (fun h => ?_) (fun h => ?_) <;> (have h' := h; (try simp only [sx] at h')))))
      | (refine za2 ?_) | (refine zai ?_) | (refine zae ?_) | (refine zaq ?_) | (refine zar ?_) | (refine zao ?_) | (refine zap rfl ?_) | (refine zab ?_) | (refine zag ?_) | (refine zbr ?_))
  all_goals try (exfalso; omega)
  refine zcd [1, 10, 11] [] (fun q : Nat × Int × Int => [(6, .int .i64 q.2.1), (7, .int .i64 q.2.2), (12, .int .i64 q.1)]) (fun q : Nat × Int × Int => []) (fun q : Nat × Int × Int => q.1 ≤ L.length ∧ q.2.1 = sumBy (wIfS p) (L.take q.1) ∧ q.2.2 = sumBy wtS (L.take q.1)) (fun q : Nat × Int × Int => L.length - q.1) ((0, 0, 0)) rfl rfl (fun _ => rfl) (fun _ => rfl) rfl aW ⟨by simp, by simp [sumBy], by simp [sumBy]⟩ (fun q hq => ?_)
  obtain ⟨i, s, t⟩ := q
  obtain ⟨h1, h2, h3⟩ := hq
  simp only at h1 h2 h3
  have hb := wtS_bnd hL i
  have hb' := wIfS_bnd hL p i
  dsimp only
  rcases Nat.lt_or_ge i L.length with hlt | hge
  · obtain ⟨a, hga⟩ := get_ex hlt
    have hx := Scen.at hga
    have hwa := (hL.1 a (get_mem hga)).2
    have hsum := sumBy_take_succ wtS hga
    have hsum' := sumBy_take_succ (wIfS p) hga
    have kg := hg a (get_mem hga)
    have ew : wIfS p a = if p a = true then a.weight else 0 := rfl
    cases hp : p a with
    | true =>
      rw [hp] at kg ew
      rw [if_pos rfl] at ew
      repeat' (first
      | (refine za5 ?_; first | (refine za6 ?_; refine zat _ rfl ?_) | (refine zad ?_; refine zaa _ rfl ?_) | (refine zbv ?_; first | (refine zby rfl rfl aO ?_) | (refine zbu _ rfl rfl rfl ?_) | (refine zaw _ rfl rfl rfl ?_)) | (refine zbf ?_; first | (refine zac aA rfl ?_) | (refine zah _ aA rfl rfl aE rfl ?_) | (refine zaf _ aA rfl aZ aL ?_) | (refine zak _ aA rfl rfl aE aZ aL ?_)) | (refine zbm ?_; first | (refine zay _ aA rfl aL ?_) | (refine zax _ aA rfl rfl (by simp only [lx, Nat.reduceAdd]; first | done | rfl) ?_)) | (refine zbe ?_; first | (refine zau _ aA rfl rfl aO aA ?_) | (refine zav _ aA rfl rfl rfl rfl aO aO (by first | (rw [Nat.zero_add, Int.toNat_natCast]) | (rw [Nat.zero_add]) | rfl) ?_)) | (refine zbd ?_; first | (refine za0 true (kg) rfl rfl rfl aS rfl aH ?_; simp only [cl]) | (refine x_call [] _ (kg) rfl rfl aS rfl aH ?_; simp only [cl]) | (refine za9 aA rfl ?_) | (refine zbc aA rfl rfl ?_) | (refine zba aA rfl ?_) | (refine zbb aA (evO_ok rfl) ?_)) | (refine zcc _ aA rfl ?_) | (refine zb2 aA rfl ?_) | (refine zbo _ _ _ rfl rfl aE (by first | assumption | (exact TAgg.size aA)) rfl rfl rfl aZ rfl aL (by first | (first | (simp only [lx, Nat.reduceAdd]; first | done | rfl) | fail) | rfl) ?_) | (refine zca _ rfl rfl ?_) | (refine zas (hK _ _ (.inl rfl) ?_); clear hK K) | (refine zas (hK _ _ (.inr (by kernel_rfl)) ?_); clear hK K))
      | (refine za3 ?_; first | (refine zbp ?_) | (refine zaj (fun K hK => ?_)) | (refine zan ?_) | (refine za4 ?_) | (refine zbq ?_) | (refine za1 ?_) | (refine zbg ?_; first | (refine zam rfl aD ?_) | (refine zal rfl aD ?_) | (refine zaz rfl (fun h => ?_) (fun h => ?_) <;> (have h' := h; (try simp only [sx] at h')))))
      | (refine za2 ?_) | (refine zai ?_) | (refine zae ?_) | (refine zaq ?_) | (refine zar ?_) | (refine zao ?_) | (refine zap rfl ?_) | (refine zab ?_) | (refine zag ?_) | (refine zbr ?_))
      all_goals first
        | (exfalso; omega)
        | (refine zcb (i + 1, s + a.weight, t + a.weight) rfl aW ⟨by simp only; omega, by simp only [hsum', h2, ew], by simp only [hsum, h3]⟩ (by simp only; omega))
    | false =>
      rw [hp] at kg ew
      rw [if_neg (by simp)] at ew
      repeat' (first
      | (refine za5 ?_; first | (refine za6 ?_; refine zat _ rfl ?_) | (refine zad ?_; refine zaa _ rfl ?_) | (refine zbv ?_; first | (refine zby rfl rfl aO ?_) | (refine zbu _ rfl rfl rfl ?_) | (refine zaw _ rfl rfl rfl ?_)) | (refine zbf ?_; first | (refine zac aA rfl ?_) | (refine zah _ aA rfl rfl aE rfl ?_) | (refine zaf _ aA rfl aZ aL ?_) | (refine zak _ aA rfl rfl aE aZ aL ?_)) | (refine zbm ?_; first | (refine zay _ aA rfl aL ?_) | (refine zax _ aA rfl rfl (by simp only [lx, Nat.reduceAdd]; first | done | rfl) ?_)) | (refine zbe ?_; first | (refine zau _ aA rfl rfl aO aA ?_) | (refine zav _ aA rfl rfl rfl rfl aO aO (by first | (rw [Nat.zero_add, Int.toNat_natCast]) | (rw [Nat.zero_add]) | rfl) ?_)) | (refine zbd ?_; first | (refine za0 true (kg) rfl rfl rfl aS rfl aH ?_; simp only [cl]) | (refine x_call [] _ (kg) rfl rfl aS rfl aH ?_; simp only [cl]) | (refine za9 aA rfl ?_) | (refine zbc aA rfl rfl ?_) | (refine zba aA rfl ?_) | (refine zbb aA (evO_ok rfl) ?_)) | (refine zcc _ aA rfl ?_) | (refine zb2 aA rfl ?_) | (refine zbo _ _ _ rfl rfl aE (by first | assumption | (exact TAgg.size aA)) rfl rfl rfl aZ rfl aL (by first | (first | (simp only [lx, Nat.reduceAdd]; first | done | rfl) | fail) | rfl) ?_) | (refine zca _ rfl rfl ?_) | (refine zas (hK _ _ (.inl rfl) ?_); clear hK K) | (refine zas (hK _ _ (.inr (by kernel_rfl)) ?_); clear hK K))
      | (refine za3 ?_; first | (refine zbp ?_) | (refine zaj (fun K hK => ?_)) | (refine zan ?_) | (refine za4 ?_) | (refine zbq ?_) | (refine za1 ?_) | (refine zbg ?_; first | (refine zam rfl aD ?_) | (refine zal rfl aD ?_) | (refine zaz rfl (fun h => ?_) (fun h => ?_) <;> (have h' := h; (try simp only [sx] at h')))))
      | (refine za2 ?_) | (refine zai ?_) | (refine zae ?_) | (refine zaq ?_) | (refine zar ?_) | (refine zao ?_) | (refine zap rfl ?_) | (refine zab ?_) | (refine zag ?_) | (refine zbr ?_))
      all_goals first
        | (exfalso; omega)
        | (refine zcb (i + 1, s, t + a.weight) rfl aW ⟨by simp only; omega, by simp only [hsum', h2, ew, Int.add_zero], by simp only [hsum, h3]⟩ (by simp only; omega))
  · rw [take_all hge] at h2 h3
    subst h2
    subst h3
    repeat' (first
      | (refine za5 ?_; first | (refine za6 ?_; refine zat _ rfl ?_) | (refine zad ?_; refine zaa _ rfl ?_) | (refine zbv ?_; first | (refine zby rfl rfl aO ?_) | (refine zbu _ rfl rfl rfl ?_) | (refine zaw _ rfl rfl rfl ?_)) | (refine zbf ?_; first | (refine zac aA rfl ?_) | (refine zah _ aA rfl rfl aE rfl ?_) | (refine zaf _ aA rfl aZ aL ?_) | (refine zak _ aA rfl rfl aE aZ aL ?_)) | (refine zbm ?_; first | (refine zay _ aA rfl aL ?_) | (refine zax _ aA rfl rfl (by simp only [lx, Nat.reduceAdd]; first | done | rfl) ?_)) | (refine zbe ?_; first | (refine zau _ aA rfl rfl aO aA ?_) | (refine zav _ aA rfl rfl rfl rfl aO aO (by first | (rw [Nat.zero_add, Int.toNat_natCast]) | (rw [Nat.zero_add]) | rfl) ?_)) | (refine zbd ?_; first | (refine za0 true (kF) rfl rfl rfl aS rfl aH ?_; simp only [cl]) | (refine za9 aA rfl ?_) | (refine zbc aA rfl rfl ?_) | (refine zba aA rfl ?_) | (refine zbb aA (evO_ok rfl) ?_)) | (refine zcc _ aA rfl ?_) | (refine zb2 aA rfl ?_) | (refine zbo _ _ _ rfl rfl aE (by first | assumption | (exact TAgg.size aA)) rfl rfl rfl aZ rfl aL (by first | (first | (simp only [lx, Nat.reduceAdd]; first | done | rfl) | fail) | rfl) ?_) | (refine zca _ rfl rfl ?_) | (refine zas (hK _ _ (.inl rfl) ?_); clear hK K) | (refine zas (hK _ _ (.inr (by kernel_rfl)) ?_); clear hK K))
      | (refine za3 ?_; first | (refine zbp ?_) | (refine zaj (fun K hK => ?_)) | (refine zan ?_) | (refine za4 ?_) | (refine zbq ?_) | (refine za1 ?_) | (refine zbg ?_; first | (refine zam rfl aD ?_) | (refine zal rfl aD ?_) | (refine zaz rfl (fun h => ?_) (fun h => ?_) <;> (have h' := h; (try simp only [sx] at h')))))
      | (refine za2 ?_) | (refine zai ?_) | (refine zae ?_) | (refine zaq ?_) | (refine zar ?_) | (refine zao ?_) | (refine zap rfl ?_) | (refine zab ?_) | (refine zag ?_) | (refine zbr ?_))
    all_goals first
      | (exfalso; omega)
      | exact aR
theorem k_l8Burned (e : Ens) (h : GoodEn e) (z : SzE e) (k : Int) {s : Scen} (hs : s ∈ e.L) : Con Try.prog 101 [.agg e.t.pv, .agg s.pv, .list 1 (ints e.src), .int .i64 e.st, .int .i64 k] (.olist 3 1 (ints (buS e k s))) := by
  intro al
  refine za8 hmix Try.func101 rfl (by kernel_rfl) (by kernel_rfl) (Nat.le_of_ble_eq_true rfl) (fun row h => by cases h) ?_
  have hty_a26 := ty_a26
  have hty_f56_0 := ty_f56_0
  have hty_c27 := ty_c27
  have hty_u27 := ty_u27
  have hty_s27 := ty_s27
  have hty_u24 := ty_u24
  have hty_s24 := ty_s24
  have hlen := goodT_len h.1.1
  have hal := arr_len (h.b hs)
  have hs3 := z.hs
  have kA : Con Try.prog 63 [.agg e.t.pv, .list 2 (s.phases.map Phase.pv), .list 1 (ints e.src), .int .i64 e.st] (.olist 3 1 (ints (arr (e.bz s)))) := k_l4Arrivals (e.bz s) (h.b hs) (by show e.src.length ≤ _; omega)
  have hal2 : (arr (e.bz s)).length = e.t.burn.length := hal
  have kB := k_l4Burned (arr (e.bz s)) k aO
  unfold buS
  repeat' (first
      | (refine za5 ?_; first | (refine za6 ?_; refine zat _ rfl ?_) | (refine zad ?_; refine zaa _ rfl ?_) | (refine zbf ?_; first | (refine zac aA rfl ?_) | (refine zah _ aA rfl rfl aE rfl ?_) | (refine zaf _ aA rfl aZ aL ?_) | (refine zak _ aA rfl rfl aE aZ aL ?_)) | (refine zbm ?_; first | (refine zay _ aA rfl aL ?_) | (refine zax _ aA rfl rfl (by simp only [lx, Nat.reduceAdd]; first | done | rfl) ?_)) | (refine zbd ?_; first | (refine za0 true (kA) rfl rfl rfl aS rfl aH ?_; simp only [cl]) | (refine za0 true (kB) rfl rfl rfl aS rfl aH ?_; simp only [cl])) | (refine zbz _ _ rfl rfl rfl rfl ?_) | (refine zas (hK _ _ (.inl rfl) ?_); clear hK K) | (refine zas (hK _ _ (.inr (by kernel_rfl)) ?_); clear hK K))
      | (refine za3 ?_; first | (refine zbp ?_) | (refine zaj (fun K hK => ?_)) | (refine zan ?_) | (refine za4 ?_) | (refine zbq ?_) | (refine za1 ?_))
      | (refine za2 ?_) | (refine zai ?_) | (refine zae ?_) | (refine zaq ?_) | (refine zar ?_) | (refine zao ?_) | (refine zap rfl ?_) | (refine zab ?_) | (refine zag ?_) | (refine zbr ?_))
  all_goals first
    | (exfalso; omega)
    | exact zcn rfl (zbn (by rfl)) (by rfl) (by decide) rfl (ints_flat _) rfl
theorem k_iBurnedS (e : Ens) (h : GoodEn e) (z : SzE e) (k : Int) {s : Scen} (hs : s ∈ e.L) : Con Try.prog 87 [.agg e.t.pv, .list 2 (s.phases.map Phase.pv), .list 1 (ints e.src), .int .i64 e.st, .int .i64 k] (.olist 3 1 (ints (buS e k s))) := by
  have hs3 := z.hs
  exact k_burned (e.bz s) (h.b hs) (by show e.src.length ≤ _; omega) k
end Go.Vs
set_option linter.unusedVariables false
set_option linter.unusedSimpArgs false
namespace Go.Vs
theorem ConF.frz {P : Program} {g : FuncId} {ys : List PV} {ty : TypeId} {sz : Nat} {es : List (List PV)} (h : ContractP P g false ys [] (Ret (.olist ty sz es))) (hfl : ∀ e ∈ es, ∀ c ∈ e, c.flat = true) : ContractP P g false ys [] (Ret (.list sz es)) := by
  refine ⟨h.1, fun G w X ρ cargs hW hX hC => ?_⟩
  obtain ⟨cb, h2⟩ := h
  refine (h2 G w X ρ cargs hW hX hC).mono fun e w' => ?_
  rintro ⟨v, r', fin, rfl, ⟨rfl, rfl⟩, hl, hf, hR⟩
  refine ⟨v, .list sz es, [], rfl, ⟨rfl, rfl⟩, hl, hf, fun t ht => ?_⟩
  obtain ⟨ρ', hR⟩ := hR t ht
  refine ⟨ρ', ?_⟩
  have hio : ioMem (withEs [] ([] : List (List (List PV)))) = noMem := by funext id; simp [ioMem, noMem, withEs]
  have hX0 : X = [] := List.length_eq_zero_iff.1 hX
  have hrel := hR.rel
  rw [hio] at hrel
  have hval := hR.val
  rw [hio] at hval
  have hM : (noMem.upds (thaw t (.olist ty sz es)).2) (t, 0) = some (some ⟨ty, sz, es, false⟩) := looks_upds _ (thaw1_keys t 0 (.olist ty sz es)).2.2 ((t, 0), some ⟨ty, sz, es, false⟩) (by simp [thaw1])
  have hv : Rep ρ' w' (Stab G ρ' (noMem.upds (thaw t (.olist ty sz es)).2) w') (noMem.upds (thaw t (.olist ty sz es)).2) v (.osl (t, 0) 0 es.length) := hval.mono (fun b hb => ⟨hb.1, rfl⟩) (MLe.refl _ _ _)
  have hnew : WRel G ρ' w X noMem w' := ⟨fun id id' r r' b z z' h => by simp [noMem] at h, fun id r h => by simp [noMem] at h, fun id r h => by simp [noMem] at h, hrel.keep, hrel.good⟩
  have key : Rep ρ' w' (RetS G false ρ' w noMem w') noMem v (.list sz es) := by
    obtain ⟨a, cap, rfl, h1, h2, h3⟩ := osl_cells hrel hM rfl hv
    refine rep_list.2 ⟨a, cap, rfl, h1, fun hne => ?_⟩
    obtain ⟨b, z, hρ, rfl, g⟩ := h3 (List.length_pos_iff.2 hne)
    have hb := hrel.new (t, 0) _ hM
    rw [if_neg ht] at hb
    have hb2 := hb b z hρ
    have hfresh : w.heap.size ≤ b := by
      rcases hb2 with h | ⟨z', h⟩
      · exact h
      · rw [hX0] at h; cases h
    refine ⟨_, rfl, ⟨⟨hrel.lt hM hρ, fun id' r z' hM' => by simp [noMem] at hM', hrel.good b hb2⟩, fun _ => hfresh⟩, fun i e hi => ?_⟩
    have hi' : ((es.drop 0).take es.length)[i]? = some e := by rw [List.drop_zero, List.take_length]; exact hi
    obtain ⟨k1, k2⟩ := g i e hi'
    refine ⟨k1, fun j u hu => ?_⟩
    obtain ⟨c, m1, m2, m3⟩ := k2 j u hu
    exact ⟨c, m1, m2, rep_flat (hfl e (List.mem_of_getElem? hi) u (List.mem_of_getElem? hu)) m3⟩
  refine ⟨?_, ?_, ?_⟩
  · rw [hio]; exact hnew
  · intro id row b z h1
    cases h1
  · rw [hio]; exact key
theorem Con.frzF {P : Program} {g : FuncId} {ys : List PV} {ty : TypeId} {sz : Nat} {es : List (List PV)} (h : Con P g ys (.olist ty sz es)) (hfl : ∀ e ∈ es, ∀ c ∈ e, c.flat = true) : Con P g ys (.list sz es) := by
  intro al
  cases al
  · exact ConF.frz (h false) hfl
  · exact ConA.frz (h true) rfl
end Go.Vs
set_option linter.unusedVariables false
set_option linter.unusedSimpArgs false
set_option maxRecDepth 100000
set_option maxHeartbeats 4000000
namespace Go.Vs
open Go.Proofs
attribute [local irreducible] exec vwp thenQ blkQ loopQ RetPost
noncomputable section
open Classical in
noncomputable def opB (p : Prop) : Bool := decide p
theorem opB_t {p : Prop} (h : p) : opB p = true := by classical exact decide_eq_true h
theorem opB_f {p : Prop} (h : ¬ p) : opB p = false := by classical exact decide_eq_false h
theorem opB_of {p : Prop} (h : opB p = true) : p := by classical exact of_decide_eq_true h
noncomputable def fr3 (p : Prop) (a b : Int) : PV := .tuple [.int .i64 (if opB p = true then frN a b else 0), .int .i64 (if opB p = true then frD a b else 0), .bool (opB p)]
theorem fr3_t {p : Prop} {a b : Int} (h : p) : fr3 p a b = .tuple [.int .i64 (frN a b), .int .i64 (frD a b), .bool true] := by unfold fr3; rw [opB_t h, if_pos rfl, if_pos rfl]
theorem fr3_f {p : Prop} {a b : Int} (h : ¬ p) : fr3 p a b = .tuple [.int .i64 0, .int .i64 0, .bool false] := by unfold fr3; rw [opB_f h, if_neg (by simp), if_neg (by simp)]
@[reducible] def EkOk (e : Ens) (k : Int) : Prop := GoodEn e ∧ 0 ≤ k ∧ k ≤ 9999
@[reducible] def EcOk (e : Ens) (k c : Int) : Prop := GoodEn e ∧ (0 ≤ k ∧ k ≤ 9999) ∧ IsCell e.t c
theorem k_burnCh1 (e : Ens) (z : SzE e) (k c : Int) (h : GoodEn e) {s : Scen} (hs : s ∈ e.L) : Con Try.prog 116 [.agg s.pv, .ptr e.t.pv, .ptr [.list 1 (ints e.src)], .ptr [.int .i64 e.st], .ptr [.int .i64 k], .ptr [.int .i64 c]] (.bool (hasS e k c s)) := by
  intro al
  refine za8 hmix Try.func116 rfl (by kernel_rfl) (by kernel_rfl) (Nat.le_of_ble_eq_true rfl) (fun row h => by cases h) ?_
  have hty_a26 := ty_a26
  have hty_f56_0 := ty_f56_0
  have hty_c27 := ty_c27
  have hty_c24 := ty_c24
  have hty_c3 := ty_c3
  have hty_u27 := ty_u27
  have hty_s27 := ty_s27
  have hty_u24 := ty_u24
  have hty_s24 := ty_s24
  have hlen := goodT_len h.1.1
  have hbl := bu_len h k hs
  have kB := (k_iBurnedS e h z k hs).frzF (ints_flat _)
  unfold hasS
  generalize buS e k s = B at *
  have kH := k_hasInt B c aO
  repeat' (first
      | (refine za5 ?_; first | (refine zad ?_; refine zaa _ rfl ?_) | (refine zbf ?_; first | (refine zac aA rfl ?_) | (refine zah _ aA rfl rfl aE rfl ?_) | (refine zaf _ aA rfl aZ aL ?_) | (refine zak _ aA rfl rfl aE aZ aL ?_)) | (refine zbm ?_; first | (refine zay _ aA rfl aL ?_) | (refine zax _ aA rfl rfl (by simp only [lx, Nat.reduceAdd]; first | done | rfl) ?_)) | (refine zbd ?_; first | (refine za0 true (kB) rfl rfl rfl aS rfl aH ?_; simp only [cl]) | (refine za0 true (kH) rfl rfl rfl aS rfl aH ?_; simp only [cl])) | (refine zbz _ _ rfl rfl rfl rfl ?_) | (refine zas (hK _ _ (.inl rfl) ?_); clear hK K) | (refine zas (hK _ _ (.inr (by kernel_rfl)) ?_); clear hK K))
      | (refine za3 ?_; first | (refine zbp ?_) | (refine zaj (fun K hK => ?_)) | (refine zan ?_) | (refine za4 ?_) | (refine zbq ?_) | (refine za1 ?_))
      | (refine za2 ?_) | (refine zai ?_) | (refine zae ?_) | (refine zaq ?_) | (refine zar ?_) | (refine zao ?_) | (refine zap rfl ?_) | (refine zab ?_) | (refine zag ?_) | (refine zbr ?_))
  all_goals exact zb1 rfl (zbn rfl) rfl
theorem k_iBurnChance (e : Ens) (z : SzE e) (k c : Int) : Con Try.prog 56 [.agg e.t.pv, .list 2 (e.L.map Scen.pv), .list 1 (ints e.src), .int .i64 e.st, .int .i64 k, .int .i64 c] (fr3 (EcOk e k c) (sumE e k c) (wgtE e)) := by
  intro al
  refine za8 hmix Try.func56 rfl (by kernel_rfl) (by kernel_rfl) (Nat.le_of_ble_eq_true rfl) (fun row h => by cases h) ?_
  have hty_a26 := ty_a26
  have hty_c24 := ty_c24
  have hty_c3 := ty_c3
  have hty_u51 := ty_u51
  have hty_s51 := ty_s51
  have hty_u24 := ty_u24
  have hty_s24 := ty_s24
  have hl1 : (e.L.map Scen.pv).length = e.L.length := by simp
  have hzn := z.hn
  have k1 := k_isBlaze e z
  have k2 := k_isTick k
  have k3 := k_isCell e.t c aO
  by_cases hE : GoodEn e
  · rw [decide_eq_true hE] at k1
    have hlen := goodT_len hE.1.1
    have hL := hE.2.1
    have hl4 := hL.2
    have hwb := wtL_bnd hL
    by_cases hk : 0 ≤ k ∧ k ≤ 9999
    rotate_left
    · have hok : ¬ EcOk e k c := fun h => hk h.2.1
      rw [fr3_f hok]
      repeat' (first
      | (refine za5 ?_; first | (refine za6 ?_; refine zat _ rfl ?_) | (refine zad ?_; refine zaa _ rfl ?_) | (refine g_un ?_; first | (refine zce rfl ?_) | (refine zcf rfl aO ?_)) | (refine zbf ?_; first | (refine zac aA rfl ?_) | (refine zah _ aA rfl rfl aE rfl ?_) | (refine zaf _ aA rfl aZ aL ?_) | (refine zak _ aA rfl rfl aE aZ aL ?_)) | (refine zbw ?_; first | (refine zbl rfl aD rfl ?_) | (refine zbi rfl aD ?_) | (refine zbj rfl aD ?_) | (refine zbk rfl aD rfl ?_)) | (refine zbs ?_; first | (refine zbx rfl rfl aD ?_) | (refine zb8 rfl rfl aD ?_) | (refine zb7 rfl rfl ?_) | (refine zbh rfl rfl (fun h => ?_) (fun h => ?_) <;> (have h' := h; (try simp only [sx] at h')))) | (refine zbd ?_; first | (refine za0 true (k1) rfl rfl rfl aS rfl aH ?_; simp only [cl]) | (refine za0 true (k2) rfl rfl rfl aS rfl aH ?_; simp only [cl]) | (refine za0 true (k3) rfl rfl rfl aS rfl aH ?_; simp only [cl])) | (refine zbz _ _ rfl rfl rfl rfl ?_) | (refine zch _ _ rfl rfl ?_) | (refine zca _ rfl rfl ?_) | (refine zas (hK _ _ (.inl rfl) ?_); clear hK K) | (refine zas (hK _ _ (.inr (by kernel_rfl)) ?_); clear hK K))
      | (refine za3 ?_; first | (refine zbp ?_) | (refine zaj (fun K hK => ?_)) | (refine zan ?_) | (refine za4 ?_) | (refine zbq ?_) | (refine za1 ?_) | (refine zbg ?_; first | (refine zam rfl aD ?_) | (refine zal rfl aD ?_) | (refine zaz rfl (fun h => ?_) (fun h => ?_) <;> (have h' := h; (try simp only [sx] at h')))))
      | (refine za2 ?_) | (refine zai ?_) | (refine zae ?_) | (refine zaq ?_) | (refine zar ?_) | (refine zao ?_) | (refine zap rfl ?_) | (refine zab ?_) | (refine zag ?_) | (refine zbr ?_))
      all_goals first
        | (exfalso; omega)
        | (exfalso; simp at *; done)
        | exact aR
    by_cases hx : IsCell e.t c
    · skip
      rw [decide_eq_true (show 0 ≤ c ∧ c < (e.t.burn.length : Int) from hx)] at k3
      have hok : EcOk e k c := ⟨hE, hk, hx⟩
      rw [fr3_t hok]
      have kC := k_chance e.L 116 [e.t.pv, [.list 1 (ints e.src)], [.int .i64 e.st], [.int .i64 k], [.int .i64 c]] (hasS e k c) (fun s hs => k_burnCh1 e z k c hE hs) hL
      repeat' (first
      | (refine za5 ?_; first | (refine za6 ?_; refine zat _ rfl ?_) | (refine zad ?_; refine zaa _ rfl ?_) | (refine g_un ?_; first | (refine zce rfl ?_) | (refine zcf rfl aO ?_)) | (refine zbf ?_; first | (refine zac aA rfl ?_) | (refine zah _ aA rfl rfl aE rfl ?_) | (refine zaf _ aA rfl aZ aL ?_) | (refine zak _ aA rfl rfl aE aZ aL ?_)) | (refine zbw ?_; first | (refine zbl rfl aD rfl ?_) | (refine zbi rfl aD ?_) | (refine zbj rfl aD ?_) | (refine zbk rfl aD rfl ?_)) | (refine zbs ?_; first | (refine zbx rfl rfl aD ?_) | (refine zb8 rfl rfl aD ?_) | (refine zb7 rfl rfl ?_) | (refine zbh rfl rfl (fun h => ?_) (fun h => ?_) <;> (have h' := h; (try simp only [sx] at h')))) | (refine zbd ?_; first | (refine za0 true (k1) rfl rfl rfl aS rfl aH ?_; simp only [cl]) | (refine za0 true (k2) rfl rfl rfl aS rfl aH ?_; simp only [cl]) | (refine za0 true (k3) rfl rfl rfl aS rfl aH ?_; simp only [cl]) | (refine za0 true (kC) rfl rfl rfl aS rfl aH ?_; simp only [cl])) | (refine zbz _ _ rfl rfl rfl rfl ?_) | (refine zch _ _ rfl rfl ?_) | (refine zca _ rfl rfl ?_) | (refine zas (hK _ _ (.inl rfl) ?_); clear hK K) | (refine zas (hK _ _ (.inr (by kernel_rfl)) ?_); clear hK K))
      | (refine za3 ?_; first | (refine zbp ?_) | (refine zaj (fun K hK => ?_)) | (refine zan ?_) | (refine za4 ?_) | (refine zbq ?_) | (refine za1 ?_) | (refine zbg ?_; first | (refine zam rfl aD ?_) | (refine zal rfl aD ?_) | (refine zaz rfl (fun h => ?_) (fun h => ?_) <;> (have h' := h; (try simp only [sx] at h')))))
      | (refine za2 ?_) | (refine zai ?_) | (refine zae ?_) | (refine zaq ?_) | (refine zar ?_) | (refine zao ?_) | (refine zap rfl ?_) | (refine zab ?_) | (refine zag ?_) | (refine zbr ?_))
      all_goals first
        | (exfalso; omega)
        | (exfalso; simp at *; done)
        | exact aR
    · have hok : ¬ EcOk e k c := fun h => hx h.2.2
      rw [fr3_f hok]
      rw [decide_eq_false (show ¬ (0 ≤ c ∧ c < (e.t.burn.length : Int)) from hx)] at k3
      repeat' (first
      | (refine za5 ?_; first | (refine za6 ?_; refine zat _ rfl ?_) | (refine zad ?_; refine zaa _ rfl ?_) | (refine g_un ?_; first | (refine zce rfl ?_) | (refine zcf rfl aO ?_)) | (refine zbf ?_; first | (refine zac aA rfl ?_) | (refine zah _ aA rfl rfl aE rfl ?_) | (refine zaf _ aA rfl aZ aL ?_) | (refine zak _ aA rfl rfl aE aZ aL ?_)) | (refine zbw ?_; first | (refine zbl rfl aD rfl ?_) | (refine zbi rfl aD ?_) | (refine zbj rfl aD ?_) | (refine zbk rfl aD rfl ?_)) | (refine zbs ?_; first | (refine zbx rfl rfl aD ?_) | (refine zb8 rfl rfl aD ?_) | (refine zb7 rfl rfl ?_) | (refine zbh rfl rfl (fun h => ?_) (fun h => ?_) <;> (have h' := h; (try simp only [sx] at h')))) | (refine zbd ?_; first | (refine za0 true (k1) rfl rfl rfl aS rfl aH ?_; simp only [cl]) | (refine za0 true (k2) rfl rfl rfl aS rfl aH ?_; simp only [cl]) | (refine za0 true (k3) rfl rfl rfl aS rfl aH ?_; simp only [cl])) | (refine zbz _ _ rfl rfl rfl rfl ?_) | (refine zch _ _ rfl rfl ?_) | (refine zca _ rfl rfl ?_) | (refine zas (hK _ _ (.inl rfl) ?_); clear hK K) | (refine zas (hK _ _ (.inr (by kernel_rfl)) ?_); clear hK K))
      | (refine za3 ?_; first | (refine zbp ?_) | (refine zaj (fun K hK => ?_)) | (refine zan ?_) | (refine za4 ?_) | (refine zbq ?_) | (refine za1 ?_) | (refine zbg ?_; first | (refine zam rfl aD ?_) | (refine zal rfl aD ?_) | (refine zaz rfl (fun h => ?_) (fun h => ?_) <;> (have h' := h; (try simp only [sx] at h')))))
      | (refine za2 ?_) | (refine zai ?_) | (refine zae ?_) | (refine zaq ?_) | (refine zar ?_) | (refine zao ?_) | (refine zap rfl ?_) | (refine zab ?_) | (refine zag ?_) | (refine zbr ?_))
      all_goals first
        | (exfalso; omega)
        | (exfalso; simp at *; done)
        | exact aR
  · rw [decide_eq_false hE] at k1
    have hok : ¬ EcOk e k c := fun h => hE h.1
    rw [fr3_f hok]
    repeat' (first
      | (refine za5 ?_; first | (refine za6 ?_; refine zat _ rfl ?_) | (refine zad ?_; refine zaa _ rfl ?_) | (refine g_un ?_; first | (refine zce rfl ?_) | (refine zcf rfl aO ?_)) | (refine zbf ?_; first | (refine zac aA rfl ?_) | (refine zah _ aA rfl rfl aE rfl ?_) | (refine zaf _ aA rfl aZ aL ?_) | (refine zak _ aA rfl rfl aE aZ aL ?_)) | (refine zbw ?_; first | (refine zbl rfl aD rfl ?_) | (refine zbi rfl aD ?_) | (refine zbj rfl aD ?_) | (refine zbk rfl aD rfl ?_)) | (refine zbs ?_; first | (refine zbx rfl rfl aD ?_) | (refine zb8 rfl rfl aD ?_) | (refine zb7 rfl rfl ?_) | (refine zbh rfl rfl (fun h => ?_) (fun h => ?_) <;> (have h' := h; (try simp only [sx] at h')))) | (refine zbd ?_; first | (refine za0 true (k1) rfl rfl rfl aS rfl aH ?_; simp only [cl]) | (refine za0 true (k2) rfl rfl rfl aS rfl aH ?_; simp only [cl]) | (refine za0 true (k3) rfl rfl rfl aS rfl aH ?_; simp only [cl])) | (refine zbz _ _ rfl rfl rfl rfl ?_) | (refine zch _ _ rfl rfl ?_) | (refine zca _ rfl rfl ?_) | (refine zas (hK _ _ (.inl rfl) ?_); clear hK K) | (refine zas (hK _ _ (.inr (by kernel_rfl)) ?_); clear hK K))
      | (refine za3 ?_; first | (refine zbp ?_) | (refine zaj (fun K hK => ?_)) | (refine zan ?_) | (refine za4 ?_) | (refine zbq ?_) | (refine za1 ?_) | (refine zbg ?_; first | (refine zam rfl aD ?_) | (refine zal rfl aD ?_) | (refine zaz rfl (fun h => ?_) (fun h => ?_) <;> (have h' := h; (try simp only [sx] at h')))))
      | (refine za2 ?_) | (refine zai ?_) | (refine zae ?_) | (refine zaq ?_) | (refine zar ?_) | (refine zao ?_) | (refine zap rfl ?_) | (refine zab ?_) | (refine zag ?_) | (refine zbr ?_))
    all_goals first
      | (exfalso; omega)
      | (exfalso; simp at *; done)
      | exact aR
theorem k_sBurnChance (e : Ens) (z : SzE e) (k c : Int) : Con Try.prog 58 [.agg e.t.pv, .list 2 (e.L.map Scen.pv), .list 1 (ints e.src), .int .i64 e.st, .int .i64 k, .int .i64 c] (fr3 (EcOk e k c) (sumE e k c) (wgtE e)) := by
  intro al
  refine za8 hmix Try.func58 rfl (by kernel_rfl) (by kernel_rfl) (Nat.le_of_ble_eq_true rfl) (fun row h => by cases h) ?_
  have hty_a26 := ty_a26
  have hty_u51 := ty_u51
  have hty_s51 := ty_s51
  have hty_u24 := ty_u24
  have hty_s24 := ty_s24
  have hty_a56 := ty_a56
  have hty_f56_1 := ty_f56_1
  have hty_c3 := ty_c3
  have hl1 : (e.L.map Scen.pv).length = e.L.length := by simp
  have hzn := z.hn
  have k1 := k_l8Asked e z
  have k2 := k_l4Tick k
  have k3 := k_l2Cell e.t c aO
  by_cases hE : GoodEn e
  · rw [decide_eq_true hE] at k1
    have hlen := goodT_len hE.1.1
    have hL := hE.2.1
    have hl4 := hL.2
    have hwb := wtL_bnd hL
    by_cases hk : 0 ≤ k ∧ k ≤ 9999
    rotate_left
    · have hok : ¬ EcOk e k c := fun h => hk h.2.1
      rw [fr3_f hok]
      repeat' (first
      | (refine za5 ?_; first | (refine za6 ?_; refine zat _ rfl ?_) | (refine zad ?_; refine zaa _ rfl ?_) | (refine zbv ?_; first | (refine zby rfl rfl aO ?_) | (refine zbu _ rfl rfl rfl ?_) | (refine zaw _ rfl rfl rfl ?_)) | (refine g_un ?_; first | (refine zce rfl ?_) | (refine zcf rfl aO ?_)) | (refine zbf ?_; first | (refine zac aA rfl ?_) | (refine zah _ aA rfl rfl aE rfl ?_) | (refine zaf _ aA rfl aZ aL ?_) | (refine zak _ aA rfl rfl aE aZ aL ?_)) | (refine zbm ?_; first | (refine zay _ aA rfl aL ?_) | (refine zax _ aA rfl rfl (by simp only [lx, Nat.reduceAdd]; first | done | rfl) ?_)) | (refine zbe ?_; first | (refine zau _ aA rfl rfl aO aA ?_) | (refine zav _ aA rfl rfl rfl rfl aO aO (by first | (rw [Nat.zero_add, Int.toNat_natCast]) | (rw [Nat.zero_add]) | rfl) ?_)) | (refine zbw ?_; first | (refine zbl rfl aD rfl ?_) | (refine zbi rfl aD ?_) | (refine zbj rfl aD ?_) | (refine zbk rfl aD rfl ?_)) | (refine zbs ?_; first | (refine zbx rfl rfl aD ?_) | (refine zb8 rfl rfl aD ?_) | (refine zb7 rfl rfl ?_) | (refine zbh rfl rfl (fun h => ?_) (fun h => ?_) <;> (have h' := h; (try simp only [sx] at h')))) | (refine zbd ?_; first | (refine za0 true (k1) rfl rfl rfl aS rfl aH ?_; simp only [cl]) | (refine za0 true (k2) rfl rfl rfl aS rfl aH ?_; simp only [cl]) | (refine za0 true (k3) rfl rfl rfl aS rfl aH ?_; simp only [cl]) | (refine za9 aA rfl ?_) | (refine zbc aA rfl rfl ?_) | (refine zba aA rfl ?_) | (refine zbb aA (evO_ok rfl) ?_)) | (refine zbz _ _ rfl rfl rfl rfl ?_) | (refine zca _ rfl rfl ?_) | (refine zas (hK _ _ (.inl rfl) ?_); clear hK K) | (refine zas (hK _ _ (.inr (by kernel_rfl)) ?_); clear hK K))
      | (refine za3 ?_; first | (refine zbp ?_) | (refine zaj (fun K hK => ?_)) | (refine zan ?_) | (refine za4 ?_) | (refine zbq ?_) | (refine za1 ?_) | (refine zbg ?_; first | (refine zam rfl aD ?_) | (refine zal rfl aD ?_) | (refine zaz rfl (fun h => ?_) (fun h => ?_) <;> (have h' := h; (try simp only [sx] at h')))))
      | (refine za2 ?_) | (refine zai ?_) | (refine zae ?_) | (refine zaq ?_) | (refine zar ?_) | (refine zao ?_) | (refine zap rfl ?_) | (refine zab ?_) | (refine zag ?_) | (refine zbr ?_))
      all_goals first
        | (exfalso; omega)
        | (exfalso; simp at *; done)
        | exact aR
    by_cases hx : IsCell e.t c
    · skip
      rw [decide_eq_true (show GoodT e.t ∧ IsCell e.t c from ⟨hE.1.1, hx⟩)] at k3
      have hok : EcOk e k c := ⟨hE, hk, hx⟩
      rw [fr3_t hok]
      have hib := wIfS_bnd hL (hasS e k c) e.L.length
      rw [List.take_length] at hib
      have kA := k_l8All e.L hL
      have kR := k_l8Reduce (sumBy (wIfS (hasS e k c)) e.L) (sumBy wtS e.L) aO aO
      repeat' (first
      | (refine za5 ?_; first | (refine za6 ?_; refine zat _ rfl ?_) | (refine zad ?_; refine zaa _ rfl ?_) | (refine zbv ?_; first | (refine zby rfl rfl aO ?_) | (refine zbu _ rfl rfl rfl ?_) | (refine zaw _ rfl rfl rfl ?_)) | (refine g_un ?_; first | (refine zce rfl ?_) | (refine zcf rfl aO ?_)) | (refine zbf ?_; first | (refine zac aA rfl ?_) | (refine zah _ aA rfl rfl aE rfl ?_) | (refine zaf _ aA rfl aZ aL ?_) | (refine zak _ aA rfl rfl aE aZ aL ?_)) | (refine zbm ?_; first | (refine zay _ aA rfl aL ?_) | (refine zax _ aA rfl rfl (by simp only [lx, Nat.reduceAdd]; first | done | rfl) ?_)) | (refine zbe ?_; first | (refine zau _ aA rfl rfl aO aA ?_) | (refine zav _ aA rfl rfl rfl rfl aO aO (by first | (rw [Nat.zero_add, Int.toNat_natCast]) | (rw [Nat.zero_add]) | rfl) ?_)) | (refine zbw ?_; first | (refine zbl rfl aD rfl ?_) | (refine zbi rfl aD ?_) | (refine zbj rfl aD ?_) | (refine zbk rfl aD rfl ?_)) | (refine zbs ?_; first | (refine zbx rfl rfl aD ?_) | (refine zb8 rfl rfl aD ?_) | (refine zb7 rfl rfl ?_) | (refine zbh rfl rfl (fun h => ?_) (fun h => ?_) <;> (have h' := h; (try simp only [sx] at h')))) | (refine zbd ?_; first | (refine za0 true (k1) rfl rfl rfl aS rfl aH ?_; simp only [cl]) | (refine za0 true (k2) rfl rfl rfl aS rfl aH ?_; simp only [cl]) | (refine za0 true (k3) rfl rfl rfl aS rfl aH ?_; simp only [cl]) | (refine za9 aA rfl ?_) | (refine zbc aA rfl rfl ?_) | (refine zba aA rfl ?_) | (refine zbb aA (evO_ok rfl) ?_)) | (refine zbz _ _ rfl rfl rfl rfl ?_) | (refine zca _ rfl rfl ?_) | (refine zas (hK _ _ (.inl rfl) ?_); clear hK K) | (refine zas (hK _ _ (.inr (by kernel_rfl)) ?_); clear hK K))
      | (refine za3 ?_; first | (refine zbp ?_) | (refine zaj (fun K hK => ?_)) | (refine zan ?_) | (refine za4 ?_) | (refine zbq ?_) | (refine za1 ?_) | (refine zbg ?_; first | (refine zam rfl aD ?_) | (refine zal rfl aD ?_) | (refine zaz rfl (fun h => ?_) (fun h => ?_) <;> (have h' := h; (try simp only [sx] at h')))))
      | (refine za2 ?_) | (refine zai ?_) | (refine zae ?_) | (refine zaq ?_) | (refine zar ?_) | (refine zao ?_) | (refine zap rfl ?_) | (refine zab ?_) | (refine zag ?_) | (refine zbr ?_))
      all_goals try (exfalso; omega)
      all_goals try (exfalso; simp at *; done)
      refine zcd [1, 2, 3, 4, 5, 6] [] (fun q : Nat × Int => [(15, .int .i64 q.2), (16, .int .i64 q.1)]) (fun q : Nat × Int => []) (fun q : Nat × Int => q.1 ≤ e.L.length ∧ q.2 = sumBy (wIfS (hasS e k c)) (e.L.take q.1)) (fun q : Nat × Int => e.L.length - q.1) ((0, 0)) rfl rfl (fun _ => rfl) (fun _ => rfl) rfl aW ⟨by simp, by simp [sumBy]⟩ (fun q hq => ?_)
      obtain ⟨i, s⟩ := q
      obtain ⟨h1, h2⟩ := hq
      simp only at h1 h2
      dsimp only
      have hb' := wIfS_bnd hL (hasS e k c) i
      rcases Nat.lt_or_ge i e.L.length with hlt | hge
      · obtain ⟨a, hga⟩ := get_ex hlt
        have hx := Scen.at hga
        have hwa := (hL.1 a (get_mem hga)).2
        have hsum := sumBy_take_succ (wIfS (hasS e k c)) hga
        have ew : wIfS (hasS e k c) a = if (hasS e k c) a = true then a.weight else 0 := rfl
        have kB := (k_l8Burned e hE z k (get_mem hga)).frzF (ints_flat _)
        have hbl := bu_len hE k (get_mem hga)
        have kH := k_l1Has (buS e k a) c aO
        have ep : hasS e k c a = decide (c ∈ buS e k a) := rfl
        rw [← ep] at kH
        cases hp : (hasS e k c) a with
        | true =>
          rw [hp, if_pos rfl] at ew
          rw [hp] at ep kH
          skip
          generalize buS e k a = B at *
          repeat' (first
      | (refine za5 ?_; first | (refine za6 ?_; refine zat _ rfl ?_) | (refine zad ?_; refine zaa _ rfl ?_) | (refine zbv ?_; first | (refine zby rfl rfl aO ?_) | (refine zbu _ rfl rfl rfl ?_) | (refine zaw _ rfl rfl rfl ?_)) | (refine g_un ?_; first | (refine zce rfl ?_) | (refine zcf rfl aO ?_)) | (refine zbf ?_; first | (refine zac aA rfl ?_) | (refine zah _ aA rfl rfl aE rfl ?_) | (refine zaf _ aA rfl aZ aL ?_) | (refine zak _ aA rfl rfl aE aZ aL ?_)) | (refine zbm ?_; first | (refine zay _ aA rfl aL ?_) | (refine zax _ aA rfl rfl (by simp only [lx, Nat.reduceAdd]; first | done | rfl) ?_)) | (refine zbe ?_; first | (refine zau _ aA rfl rfl aO aA ?_) | (refine zav _ aA rfl rfl rfl rfl aO aO (by first | (rw [Nat.zero_add, Int.toNat_natCast]) | (rw [Nat.zero_add]) | rfl) ?_)) | (refine zbw ?_; first | (refine zbl rfl aD rfl ?_) | (refine zbi rfl aD ?_) | (refine zbj rfl aD ?_) | (refine zbk rfl aD rfl ?_)) | (refine zbs ?_; first | (refine zbx rfl rfl aD ?_) | (refine zb8 rfl rfl aD ?_) | (refine zb7 rfl rfl ?_) | (refine zbh rfl rfl (fun h => ?_) (fun h => ?_) <;> (have h' := h; (try simp only [sx] at h')))) | (refine zbd ?_; first | (refine za0 true (kB) rfl rfl rfl aS rfl aH ?_; simp only [cl]) | (refine za0 true (kH) rfl rfl rfl aS rfl aH ?_; simp only [cl]) | (refine za9 aA rfl ?_) | (refine zbc aA rfl rfl ?_) | (refine zba aA rfl ?_) | (refine zbb aA (evO_ok rfl) ?_)) | (refine zbz _ _ rfl rfl rfl rfl ?_) | (refine zca _ rfl rfl ?_) | (refine zas (hK _ _ (.inl rfl) ?_); clear hK K) | (refine zas (hK _ _ (.inr (by kernel_rfl)) ?_); clear hK K))
      | (refine za3 ?_; first | (refine zbp ?_) | (refine zaj (fun K hK => ?_)) | (refine zan ?_) | (refine za4 ?_) | (refine zbq ?_) | (refine za1 ?_) | (refine zbg ?_; first | (refine zam rfl aD ?_) | (refine zal rfl aD ?_) | (refine zaz rfl (fun h => ?_) (fun h => ?_) <;> (have h' := h; (try simp only [sx] at h')))))
      | (refine za2 ?_) | (refine zai ?_) | (refine zae ?_) | (refine zaq ?_) | (refine zar ?_) | (refine zao ?_) | (refine zap rfl ?_) | (refine zab ?_) | (refine zag ?_) | (refine zbr ?_))
          all_goals first
            | (exfalso; omega)
            | (refine zcb (i + 1, s + a.weight) rfl aW ⟨by simp only; omega, by simp only [hsum, h2, ew]⟩ (by simp only; omega))
        | false =>
          rw [hp, if_neg (by simp)] at ew
          rw [hp] at ep kH
          skip
          generalize buS e k a = B at *
          repeat' (first
      | (refine za5 ?_; first | (refine za6 ?_; refine zat _ rfl ?_) | (refine zad ?_; refine zaa _ rfl ?_) | (refine zbv ?_; first | (refine zby rfl rfl aO ?_) | (refine zbu _ rfl rfl rfl ?_) | (refine zaw _ rfl rfl rfl ?_)) | (refine g_un ?_; first | (refine zce rfl ?_) | (refine zcf rfl aO ?_)) | (refine zbf ?_; first | (refine zac aA rfl ?_) | (refine zah _ aA rfl rfl aE rfl ?_) | (refine zaf _ aA rfl aZ aL ?_) | (refine zak _ aA rfl rfl aE aZ aL ?_)) | (refine zbm ?_; first | (refine zay _ aA rfl aL ?_) | (refine zax _ aA rfl rfl (by simp only [lx, Nat.reduceAdd]; first | done | rfl) ?_)) | (refine zbe ?_; first | (refine zau _ aA rfl rfl aO aA ?_) | (refine zav _ aA rfl rfl rfl rfl aO aO (by first | (rw [Nat.zero_add, Int.toNat_natCast]) | (rw [Nat.zero_add]) | rfl) ?_)) | (refine zbw ?_; first | (refine zbl rfl aD rfl ?_) | (refine zbi rfl aD ?_) | (refine zbj rfl aD ?_) | (refine zbk rfl aD rfl ?_)) | (refine zbs ?_; first | (refine zbx rfl rfl aD ?_) | (refine zb8 rfl rfl aD ?_) | (refine zb7 rfl rfl ?_) | (refine zbh rfl rfl (fun h => ?_) (fun h => ?_) <;> (have h' := h; (try simp only [sx] at h')))) | (refine zbd ?_; first | (refine za0 true (kB) rfl rfl rfl aS rfl aH ?_; simp only [cl]) | (refine za0 true (kH) rfl rfl rfl aS rfl aH ?_; simp only [cl]) | (refine za9 aA rfl ?_) | (refine zbc aA rfl rfl ?_) | (refine zba aA rfl ?_) | (refine zbb aA (evO_ok rfl) ?_)) | (refine zbz _ _ rfl rfl rfl rfl ?_) | (refine zca _ rfl rfl ?_) | (refine zas (hK _ _ (.inl rfl) ?_); clear hK K) | (refine zas (hK _ _ (.inr (by kernel_rfl)) ?_); clear hK K))
      | (refine za3 ?_; first | (refine zbp ?_) | (refine zaj (fun K hK => ?_)) | (refine zan ?_) | (refine za4 ?_) | (refine zbq ?_) | (refine za1 ?_) | (refine zbg ?_; first | (refine zam rfl aD ?_) | (refine zal rfl aD ?_) | (refine zaz rfl (fun h => ?_) (fun h => ?_) <;> (have h' := h; (try simp only [sx] at h')))))
      | (refine za2 ?_) | (refine zai ?_) | (refine zae ?_) | (refine zaq ?_) | (refine zar ?_) | (refine zao ?_) | (refine zap rfl ?_) | (refine zab ?_) | (refine zag ?_) | (refine zbr ?_))
          all_goals first
            | (exfalso; omega)
            | (refine zcb (i + 1, s) rfl aW ⟨by simp only; omega, by simp only [hsum, h2, ew, Int.add_zero]⟩ (by simp only; omega))
      · rw [take_all hge] at h2
        subst h2
        repeat' (first
      | (refine za5 ?_; first | (refine za6 ?_; refine zat _ rfl ?_) | (refine zad ?_; refine zaa _ rfl ?_) | (refine zbv ?_; first | (refine zby rfl rfl aO ?_) | (refine zbu _ rfl rfl rfl ?_) | (refine zaw _ rfl rfl rfl ?_)) | (refine g_un ?_; first | (refine zce rfl ?_) | (refine zcf rfl aO ?_)) | (refine zbf ?_; first | (refine zac aA rfl ?_) | (refine zah _ aA rfl rfl aE rfl ?_) | (refine zaf _ aA rfl aZ aL ?_) | (refine zak _ aA rfl rfl aE aZ aL ?_)) | (refine zbm ?_; first | (refine zay _ aA rfl aL ?_) | (refine zax _ aA rfl rfl (by simp only [lx, Nat.reduceAdd]; first | done | rfl) ?_)) | (refine zbe ?_; first | (refine zau _ aA rfl rfl aO aA ?_) | (refine zav _ aA rfl rfl rfl rfl aO aO (by first | (rw [Nat.zero_add, Int.toNat_natCast]) | (rw [Nat.zero_add]) | rfl) ?_)) | (refine zbw ?_; first | (refine zbl rfl aD rfl ?_) | (refine zbi rfl aD ?_) | (refine zbj rfl aD ?_) | (refine zbk rfl aD rfl ?_)) | (refine zbs ?_; first | (refine zbx rfl rfl aD ?_) | (refine zb8 rfl rfl aD ?_) | (refine zb7 rfl rfl ?_) | (refine zbh rfl rfl (fun h => ?_) (fun h => ?_) <;> (have h' := h; (try simp only [sx] at h')))) | (refine zbd ?_; first | (refine za0 true (kA) rfl rfl rfl aS rfl aH ?_; simp only [cl]) | (refine za0 true (kR) rfl rfl rfl aS rfl aH ?_; simp only [cl]) | (refine za9 aA rfl ?_) | (refine zbc aA rfl rfl ?_) | (refine zba aA rfl ?_) | (refine zbb aA (evO_ok rfl) ?_)) | (refine zbz _ _ rfl rfl rfl rfl ?_) | (refine zca _ rfl rfl ?_) | (refine zas (hK _ _ (.inl rfl) ?_); clear hK K) | (refine zas (hK _ _ (.inr (by kernel_rfl)) ?_); clear hK K))
      | (refine za3 ?_; first | (refine zbp ?_) | (refine zaj (fun K hK => ?_)) | (refine zan ?_) | (refine za4 ?_) | (refine zbq ?_) | (refine za1 ?_) | (refine zbg ?_; first | (refine zam rfl aD ?_) | (refine zal rfl aD ?_) | (refine zaz rfl (fun h => ?_) (fun h => ?_) <;> (have h' := h; (try simp only [sx] at h')))))
      | (refine za2 ?_) | (refine zai ?_) | (refine zae ?_) | (refine zaq ?_) | (refine zar ?_) | (refine zao ?_) | (refine zap rfl ?_) | (refine zab ?_) | (refine zag ?_) | (refine zbr ?_))
        all_goals first
          | (exfalso; omega)
          | exact aR
    · have hok : ¬ EcOk e k c := fun h => hx h.2.2
      rw [fr3_f hok]
      rw [decide_eq_false (show ¬ (GoodT e.t ∧ IsCell e.t c) from fun h => hx h.2)] at k3
      repeat' (first
      | (refine za5 ?_; first | (refine za6 ?_; refine zat _ rfl ?_) | (refine zad ?_; refine zaa _ rfl ?_) | (refine zbv ?_; first | (refine zby rfl rfl aO ?_) | (refine zbu _ rfl rfl rfl ?_) | (refine zaw _ rfl rfl rfl ?_)) | (refine g_un ?_; first | (refine zce rfl ?_) | (refine zcf rfl aO ?_)) | (refine zbf ?_; first | (refine zac aA rfl ?_) | (refine zah _ aA rfl rfl aE rfl ?_) | (refine zaf _ aA rfl aZ aL ?_) | (refine zak _ aA rfl rfl aE aZ aL ?_)) | (refine zbm ?_; first | (refine zay _ aA rfl aL ?_) | (refine zax _ aA rfl rfl (by simp only [lx, Nat.reduceAdd]; first | done | rfl) ?_)) | (refine zbe ?_; first | (refine zau _ aA rfl rfl aO aA ?_) | (refine zav _ aA rfl rfl rfl rfl aO aO (by first | (rw [Nat.zero_add, Int.toNat_natCast]) | (rw [Nat.zero_add]) | rfl) ?_)) | (refine zbw ?_; first | (refine zbl rfl aD rfl ?_) | (refine zbi rfl aD ?_) | (refine zbj rfl aD ?_) | (refine zbk rfl aD rfl ?_)) | (refine zbs ?_; first | (refine zbx rfl rfl aD ?_) | (refine zb8 rfl rfl aD ?_) | (refine zb7 rfl rfl ?_) | (refine zbh rfl rfl (fun h => ?_) (fun h => ?_) <;> (have h' := h; (try simp only [sx] at h')))) | (refine zbd ?_; first | (refine za0 true (k1) rfl rfl rfl aS rfl aH ?_; simp only [cl]) | (refine za0 true (k2) rfl rfl rfl aS rfl aH ?_; simp only [cl]) | (refine za0 true (k3) rfl rfl rfl aS rfl aH ?_; simp only [cl]) | (refine za9 aA rfl ?_) | (refine zbc aA rfl rfl ?_) | (refine zba aA rfl ?_) | (refine zbb aA (evO_ok rfl) ?_)) | (refine zbz _ _ rfl rfl rfl rfl ?_) | (refine zca _ rfl rfl ?_) | (refine zas (hK _ _ (.inl rfl) ?_); clear hK K) | (refine zas (hK _ _ (.inr (by kernel_rfl)) ?_); clear hK K))
      | (refine za3 ?_; first | (refine zbp ?_) | (refine zaj (fun K hK => ?_)) | (refine zan ?_) | (refine za4 ?_) | (refine zbq ?_) | (refine za1 ?_) | (refine zbg ?_; first | (refine zam rfl aD ?_) | (refine zal rfl aD ?_) | (refine zaz rfl (fun h => ?_) (fun h => ?_) <;> (have h' := h; (try simp only [sx] at h')))))
      | (refine za2 ?_) | (refine zai ?_) | (refine zae ?_) | (refine zaq ?_) | (refine zar ?_) | (refine zao ?_) | (refine zap rfl ?_) | (refine zab ?_) | (refine zag ?_) | (refine zbr ?_))
      all_goals first
        | (exfalso; omega)
        | (exfalso; simp at *; done)
        | exact aR
  · rw [decide_eq_false hE] at k1
    have hok : ¬ EcOk e k c := fun h => hE h.1
    rw [fr3_f hok]
    repeat' (first
      | (refine za5 ?_; first | (refine za6 ?_; refine zat _ rfl ?_) | (refine zad ?_; refine zaa _ rfl ?_) | (refine zbv ?_; first | (refine zby rfl rfl aO ?_) | (refine zbu _ rfl rfl rfl ?_) | (refine zaw _ rfl rfl rfl ?_)) | (refine g_un ?_; first | (refine zce rfl ?_) | (refine zcf rfl aO ?_)) | (refine zbf ?_; first | (refine zac aA rfl ?_) | (refine zah _ aA rfl rfl aE rfl ?_) | (refine zaf _ aA rfl aZ aL ?_) | (refine zak _ aA rfl rfl aE aZ aL ?_)) | (refine zbm ?_; first | (refine zay _ aA rfl aL ?_) | (refine zax _ aA rfl rfl (by simp only [lx, Nat.reduceAdd]; first | done | rfl) ?_)) | (refine zbe ?_; first | (refine zau _ aA rfl rfl aO aA ?_) | (refine zav _ aA rfl rfl rfl rfl aO aO (by first | (rw [Nat.zero_add, Int.toNat_natCast]) | (rw [Nat.zero_add]) | rfl) ?_)) | (refine zbw ?_; first | (refine zbl rfl aD rfl ?_) | (refine zbi rfl aD ?_) | (refine zbj rfl aD ?_) | (refine zbk rfl aD rfl ?_)) | (refine zbs ?_; first | (refine zbx rfl rfl aD ?_) | (refine zb8 rfl rfl aD ?_) | (refine zb7 rfl rfl ?_) | (refine zbh rfl rfl (fun h => ?_) (fun h => ?_) <;> (have h' := h; (try simp only [sx] at h')))) | (refine zbd ?_; first | (refine za0 true (k1) rfl rfl rfl aS rfl aH ?_; simp only [cl]) | (refine za0 true (k2) rfl rfl rfl aS rfl aH ?_; simp only [cl]) | (refine za0 true (k3) rfl rfl rfl aS rfl aH ?_; simp only [cl]) | (refine za9 aA rfl ?_) | (refine zbc aA rfl rfl ?_) | (refine zba aA rfl ?_) | (refine zbb aA (evO_ok rfl) ?_)) | (refine zbz _ _ rfl rfl rfl rfl ?_) | (refine zca _ rfl rfl ?_) | (refine zas (hK _ _ (.inl rfl) ?_); clear hK K) | (refine zas (hK _ _ (.inr (by kernel_rfl)) ?_); clear hK K))
      | (refine za3 ?_; first | (refine zbp ?_) | (refine zaj (fun K hK => ?_)) | (refine zan ?_) | (refine za4 ?_) | (refine zbq ?_) | (refine za1 ?_) | (refine zbg ?_; first | (refine zam rfl aD ?_) | (refine zal rfl aD ?_) | (refine zaz rfl (fun h => ?_) (fun h => ?_) <;> (have h' := h; (try simp only [sx] at h')))))
      | (refine za2 ?_) | (refine zai ?_) | (refine zae ?_) | (refine zaq ?_) | (refine zar ?_) | (refine zao ?_) | (refine zap rfl ?_) | (refine zab ?_) | (refine zag ?_) | (refine zbr ?_))
    all_goals first
      | (exfalso; omega)
      | (exfalso; simp at *; done)
      | exact aR
theorem k_iMean (e : Ens) (z : SzE e) (k : Int) : Con Try.prog 48 [.agg e.t.pv, .list 2 (e.L.map Scen.pv), .list 1 (ints e.src), .int .i64 e.st, .int .i64 k] (fr3 (EkOk e k) (meanE e k) (wgtE e)) := by
  intro al
  refine za8 hmix Try.func48 rfl (by kernel_rfl) (by kernel_rfl) (Nat.le_of_ble_eq_true rfl) (fun row h => by cases h) ?_
  have hty_a26 := ty_a26
  have hty_u51 := ty_u51
  have hty_s51 := ty_s51
  have hty_u24 := ty_u24
  have hty_s24 := ty_s24
  have hty_a56 := ty_a56
  have hty_z56 := ty_z56
  have hty_t56 := ty_t56
  have hty_f56_1 := ty_f56_1
  have hty_c3 := ty_c3
  have hty_f56_0 := ty_f56_0
  have hty_c27 := ty_c27
  have hty_u27 := ty_u27
  have hty_s27 := ty_s27
  have hl1 : (e.L.map Scen.pv).length = e.L.length := by simp
  have hzn := z.hn
  have k1 := k_isBlaze e z
  have k2 := k_isTick k
  by_cases hE : GoodEn e
  · rw [decide_eq_true hE] at k1
    have hlen := goodT_len hE.1.1
    have hL := hE.2.1
    have hl4 := hL.2
    have hwb := wtL_bnd hL
    by_cases hk : 0 ≤ k ∧ k ≤ 9999
    · skip
      have hok : EkOk e k := ⟨hE, hk⟩
      rw [fr3_t hok]
      have hmb := mE_take hE k e.L.length
      rw [List.take_length] at hmb
      have kR := k_fraction (sumBy (mnS e k) e.L) (sumBy wtS e.L) aO aO
      repeat' (first
      | (refine za5 ?_; first | (refine za6 ?_; refine zat _ rfl ?_) | (refine zad ?_; refine zaa _ rfl ?_) | (refine zbv ?_; first | (refine zby rfl rfl aO ?_) | (refine zci rfl rfl aO ?_) | (refine zbu _ rfl rfl rfl ?_) | (refine zaw _ rfl rfl rfl ?_)) | (refine g_un ?_; first | (refine zce rfl ?_) | (refine zcf rfl aO ?_)) | (refine zbf ?_; first | (refine zac aA rfl ?_) | (refine zah _ aA rfl rfl aE rfl ?_) | (refine zaf _ aA rfl aZ aL ?_) | (refine zak _ aA rfl rfl aE aZ aL ?_)) | (refine zbm ?_; first | (refine zay _ aA rfl aL ?_) | (refine zax _ aA rfl rfl (by simp only [lx, Nat.reduceAdd]; first | done | rfl) ?_)) | (refine zbe ?_; first | (refine zau _ aA rfl rfl aO aA ?_) | (refine zav _ aA rfl rfl rfl rfl aO aO (by first | (rw [Nat.zero_add, Int.toNat_natCast]) | (rw [Nat.zero_add]) | rfl) ?_)) | (refine zbw ?_; first | (refine zbl rfl aD rfl ?_) | (refine zbi rfl aD ?_) | (refine zbj rfl aD ?_) | (refine zbk rfl aD rfl ?_)) | (refine zbs ?_; first | (refine zbx rfl rfl aD ?_) | (refine zb8 rfl rfl aD ?_) | (refine zb7 rfl rfl ?_) | (refine zbh rfl rfl (fun h => ?_) (fun h => ?_) <;> (have h' := h; (try simp only [sx] at h')))) | (refine zbd ?_; first | (refine za0 true (k1) rfl rfl rfl aS rfl aH ?_; simp only [cl]) | (refine za0 true (k2) rfl rfl rfl aS rfl aH ?_; simp only [cl]) | (refine za9 aA rfl ?_) | (refine zbc aA rfl rfl ?_) | (refine zba aA rfl ?_) | (refine zbb aA (evO_ok rfl) ?_)) | (refine zbz _ _ rfl rfl rfl rfl ?_) | (refine zcc _ aA rfl ?_) | (refine zb2 aA rfl ?_) | (refine zbo _ _ _ rfl rfl aE (by first | assumption | (exact TAgg.size aA)) rfl rfl rfl aZ rfl aL (by first | (first | (simp only [lx, Nat.reduceAdd]; first | done | rfl) | fail) | rfl) ?_) | (refine zca _ rfl rfl ?_) | (refine zas (hK _ _ (.inl rfl) ?_); clear hK K) | (refine zas (hK _ _ (.inr (by kernel_rfl)) ?_); clear hK K))
      | (refine za3 ?_; first | (refine zbp ?_) | (refine zaj (fun K hK => ?_)) | (refine zan ?_) | (refine za4 ?_) | (refine zbq ?_) | (refine za1 ?_) | (refine zbg ?_; first | (refine zam rfl aD ?_) | (refine zal rfl aD ?_) | (refine zaz rfl (fun h => ?_) (fun h => ?_) <;> (have h' := h; (try simp only [sx] at h')))))
      | (refine za2 ?_) | (refine zai ?_) | (refine zae ?_) | (refine zaq ?_) | (refine zar ?_) | (refine zao ?_) | (refine zap rfl ?_) | (refine zab ?_) | (refine zag ?_) | (refine zbr ?_))
      all_goals try (exfalso; omega)
      all_goals try (exfalso; simp at *; done)
      refine zcd [2, 3, 4, 5, 28, 29] [] (fun q : Nat × Int × Int => [(13, .int .i64 q.2.1), (14, .int .i64 q.2.2), (30, .int .i64 q.1)]) (fun q : Nat × Int × Int => []) (fun q : Nat × Int × Int => q.1 ≤ e.L.length ∧ q.2.1 = sumBy (mnS e k) (e.L.take q.1) ∧ q.2.2 = sumBy wtS (e.L.take q.1)) (fun q : Nat × Int × Int => e.L.length - q.1) ((0, 0, 0)) rfl rfl (fun _ => rfl) (fun _ => rfl) rfl aW ⟨by simp, by simp [sumBy], by simp [sumBy]⟩ (fun q hq => ?_)
      obtain ⟨i, s, t⟩ := q
      obtain ⟨h1, h2, h3⟩ := hq
      simp only at h1 h2 h3
      dsimp only
      have hb' := mE_take hE k i
      have hb2 := wtS_bnd hL i
      rcases Nat.lt_or_ge i e.L.length with hlt | hge
      · obtain ⟨a, hga⟩ := get_ex hlt
        have hx := Scen.at hga
        have hwa := (hL.1 a (get_mem hga)).2
        have hsum := sumBy_take_succ (mnS e k) hga
        have hsum2 := sumBy_take_succ wtS hga
        have ew : mnS e k a = a.weight * ((buS e k a).length : Int) := rfl
        have hb3 := mE_take hE k (i + 1)
        rw [hsum] at hb3
        have kB := (k_iBurnedS e hE z k (get_mem hga)).frzF (ints_flat _)
        have hbl := bu_len hE k (get_mem hga)
        have hbl2 : (ints (buS e k a)).length = (buS e k a).length := by simp
        have hmul : 0 ≤ a.weight * ((ints (buS e k a)).length : Int) := Int.mul_nonneg aO aO
        have ew2 : mnS e k a = a.weight * ((ints (buS e k a)).length : Int) := by rw [ew, hbl2]
        rw [ew2] at hb3
        rw [ew2] at hsum
        clear ew ew2
        generalize buS e k a = B at *
        repeat' (first
      | (refine za5 ?_; first | (refine za6 ?_; refine zat _ rfl ?_) | (refine zad ?_; refine zaa _ rfl ?_) | (refine zbv ?_; first | (refine zby rfl rfl aO ?_) | (refine zci rfl rfl aO ?_) | (refine zbu _ rfl rfl rfl ?_) | (refine zaw _ rfl rfl rfl ?_)) | (refine g_un ?_; first | (refine zce rfl ?_) | (refine zcf rfl aO ?_)) | (refine zbf ?_; first | (refine zac aA rfl ?_) | (refine zah _ aA rfl rfl aE rfl ?_) | (refine zaf _ aA rfl aZ aL ?_) | (refine zak _ aA rfl rfl aE aZ aL ?_)) | (refine zbm ?_; first | (refine zay _ aA rfl aL ?_) | (refine zax _ aA rfl rfl (by simp only [lx, Nat.reduceAdd]; first | done | rfl) ?_)) | (refine zbe ?_; first | (refine zau _ aA rfl rfl aO aA ?_) | (refine zav _ aA rfl rfl rfl rfl aO aO (by first | (rw [Nat.zero_add, Int.toNat_natCast]) | (rw [Nat.zero_add]) | rfl) ?_)) | (refine zbw ?_; first | (refine zbl rfl aD rfl ?_) | (refine zbi rfl aD ?_) | (refine zbj rfl aD ?_) | (refine zbk rfl aD rfl ?_)) | (refine zbs ?_; first | (refine zbx rfl rfl aD ?_) | (refine zb8 rfl rfl aD ?_) | (refine zb7 rfl rfl ?_) | (refine zbh rfl rfl (fun h => ?_) (fun h => ?_) <;> (have h' := h; (try simp only [sx] at h')))) | (refine zbd ?_; first | (refine za0 true (kB) rfl rfl rfl aS rfl aH ?_; simp only [cl]) | (refine za9 aA rfl ?_) | (refine zbc aA rfl rfl ?_) | (refine zba aA rfl ?_) | (refine zbb aA (evO_ok rfl) ?_)) | (refine zbz _ _ rfl rfl rfl rfl ?_) | (refine zcc _ aA rfl ?_) | (refine zb2 aA rfl ?_) | (refine zbo _ _ _ rfl rfl aE (by first | assumption | (exact TAgg.size aA)) rfl rfl rfl aZ rfl aL (by first | (first | (simp only [lx, Nat.reduceAdd]; first | done | rfl) | fail) | rfl) ?_) | (refine zca _ rfl rfl ?_) | (refine zas (hK _ _ (.inl rfl) ?_); clear hK K) | (refine zas (hK _ _ (.inr (by kernel_rfl)) ?_); clear hK K))
      | (refine za3 ?_; first | (refine zbp ?_) | (refine zaj (fun K hK => ?_)) | (refine zan ?_) | (refine za4 ?_) | (refine zbq ?_) | (refine za1 ?_) | (refine zbg ?_; first | (refine zam rfl aD ?_) | (refine zal rfl aD ?_) | (refine zaz rfl (fun h => ?_) (fun h => ?_) <;> (have h' := h; (try simp only [sx] at h')))))
      | (refine za2 ?_) | (refine zai ?_) | (refine zae ?_) | (refine zaq ?_) | (refine zar ?_) | (refine zao ?_) | (refine zap rfl ?_) | (refine zab ?_) | (refine zag ?_) | (refine zbr ?_))
        all_goals first
          | (exfalso; omega)
          | (refine zcb (i + 1, s + a.weight * ((ints B).length : Int), t + a.weight) rfl aW ⟨by simp only; omega, by simp only [hsum, h2], by simp only [hsum2, h3]⟩ (by simp only; omega))
      · rw [take_all hge] at h2 h3
        subst h2
        subst h3
        repeat' (first
      | (refine za5 ?_; first | (refine za6 ?_; refine zat _ rfl ?_) | (refine zad ?_; refine zaa _ rfl ?_) | (refine zbv ?_; first | (refine zby rfl rfl aO ?_) | (refine zci rfl rfl aO ?_) | (refine zbu _ rfl rfl rfl ?_) | (refine zaw _ rfl rfl rfl ?_)) | (refine g_un ?_; first | (refine zce rfl ?_) | (refine zcf rfl aO ?_)) | (refine zbf ?_; first | (refine zac aA rfl ?_) | (refine zah _ aA rfl rfl aE rfl ?_) | (refine zaf _ aA rfl aZ aL ?_) | (refine zak _ aA rfl rfl aE aZ aL ?_)) | (refine zbm ?_; first | (refine zay _ aA rfl aL ?_) | (refine zax _ aA rfl rfl (by simp only [lx, Nat.reduceAdd]; first | done | rfl) ?_)) | (refine zbe ?_; first | (refine zau _ aA rfl rfl aO aA ?_) | (refine zav _ aA rfl rfl rfl rfl aO aO (by first | (rw [Nat.zero_add, Int.toNat_natCast]) | (rw [Nat.zero_add]) | rfl) ?_)) | (refine zbw ?_; first | (refine zbl rfl aD rfl ?_) | (refine zbi rfl aD ?_) | (refine zbj rfl aD ?_) | (refine zbk rfl aD rfl ?_)) | (refine zbs ?_; first | (refine zbx rfl rfl aD ?_) | (refine zb8 rfl rfl aD ?_) | (refine zb7 rfl rfl ?_) | (refine zbh rfl rfl (fun h => ?_) (fun h => ?_) <;> (have h' := h; (try simp only [sx] at h')))) | (refine zbd ?_; first | (refine za0 true (kR) rfl rfl rfl aS rfl aH ?_; simp only [cl]) | (refine za9 aA rfl ?_) | (refine zbc aA rfl rfl ?_) | (refine zba aA rfl ?_) | (refine zbb aA (evO_ok rfl) ?_)) | (refine zbz _ _ rfl rfl rfl rfl ?_) | (refine zcc _ aA rfl ?_) | (refine zb2 aA rfl ?_) | (refine zbo _ _ _ rfl rfl aE (by first | assumption | (exact TAgg.size aA)) rfl rfl rfl aZ rfl aL (by first | (first | (simp only [lx, Nat.reduceAdd]; first | done | rfl) | fail) | rfl) ?_) | (refine zca _ rfl rfl ?_) | (refine zas (hK _ _ (.inl rfl) ?_); clear hK K) | (refine zas (hK _ _ (.inr (by kernel_rfl)) ?_); clear hK K))
      | (refine za3 ?_; first | (refine zbp ?_) | (refine zaj (fun K hK => ?_)) | (refine zan ?_) | (refine za4 ?_) | (refine zbq ?_) | (refine za1 ?_) | (refine zbg ?_; first | (refine zam rfl aD ?_) | (refine zal rfl aD ?_) | (refine zaz rfl (fun h => ?_) (fun h => ?_) <;> (have h' := h; (try simp only [sx] at h')))))
      | (refine za2 ?_) | (refine zai ?_) | (refine zae ?_) | (refine zaq ?_) | (refine zar ?_) | (refine zao ?_) | (refine zap rfl ?_) | (refine zab ?_) | (refine zag ?_) | (refine zbr ?_))
        all_goals first
          | (exfalso; omega)
          | exact aR
    · have hok : ¬ EkOk e k := fun h => hk h.2
      rw [fr3_f hok]
      repeat' (first
      | (refine za5 ?_; first | (refine za6 ?_; refine zat _ rfl ?_) | (refine zad ?_; refine zaa _ rfl ?_) | (refine zbv ?_; first | (refine zby rfl rfl aO ?_) | (refine zci rfl rfl aO ?_) | (refine zbu _ rfl rfl rfl ?_) | (refine zaw _ rfl rfl rfl ?_)) | (refine g_un ?_; first | (refine zce rfl ?_) | (refine zcf rfl aO ?_)) | (refine zbf ?_; first | (refine zac aA rfl ?_) | (refine zah _ aA rfl rfl aE rfl ?_) | (refine zaf _ aA rfl aZ aL ?_) | (refine zak _ aA rfl rfl aE aZ aL ?_)) | (refine zbm ?_; first | (refine zay _ aA rfl aL ?_) | (refine zax _ aA rfl rfl (by simp only [lx, Nat.reduceAdd]; first | done | rfl) ?_)) | (refine zbe ?_; first | (refine zau _ aA rfl rfl aO aA ?_) | (refine zav _ aA rfl rfl rfl rfl aO aO (by first | (rw [Nat.zero_add, Int.toNat_natCast]) | (rw [Nat.zero_add]) | rfl) ?_)) | (refine zbw ?_; first | (refine zbl rfl aD rfl ?_) | (refine zbi rfl aD ?_) | (refine zbj rfl aD ?_) | (refine zbk rfl aD rfl ?_)) | (refine zbs ?_; first | (refine zbx rfl rfl aD ?_) | (refine zb8 rfl rfl aD ?_) | (refine zb7 rfl rfl ?_) | (refine zbh rfl rfl (fun h => ?_) (fun h => ?_) <;> (have h' := h; (try simp only [sx] at h')))) | (refine zbd ?_; first | (refine za0 true (k1) rfl rfl rfl aS rfl aH ?_; simp only [cl]) | (refine za0 true (k2) rfl rfl rfl aS rfl aH ?_; simp only [cl]) | (refine za9 aA rfl ?_) | (refine zbc aA rfl rfl ?_) | (refine zba aA rfl ?_) | (refine zbb aA (evO_ok rfl) ?_)) | (refine zbz _ _ rfl rfl rfl rfl ?_) | (refine zcc _ aA rfl ?_) | (refine zb2 aA rfl ?_) | (refine zbo _ _ _ rfl rfl aE (by first | assumption | (exact TAgg.size aA)) rfl rfl rfl aZ rfl aL (by first | (first | (simp only [lx, Nat.reduceAdd]; first | done | rfl) | fail) | rfl) ?_) | (refine zca _ rfl rfl ?_) | (refine zas (hK _ _ (.inl rfl) ?_); clear hK K) | (refine zas (hK _ _ (.inr (by kernel_rfl)) ?_); clear hK K))
      | (refine za3 ?_; first | (refine zbp ?_) | (refine zaj (fun K hK => ?_)) | (refine zan ?_) | (refine za4 ?_) | (refine zbq ?_) | (refine za1 ?_) | (refine zbg ?_; first | (refine zam rfl aD ?_) | (refine zal rfl aD ?_) | (refine zaz rfl (fun h => ?_) (fun h => ?_) <;> (have h' := h; (try simp only [sx] at h')))))
      | (refine za2 ?_) | (refine zai ?_) | (refine zae ?_) | (refine zaq ?_) | (refine zar ?_) | (refine zao ?_) | (refine zap rfl ?_) | (refine zab ?_) | (refine zag ?_) | (refine zbr ?_))
      all_goals first
        | (exfalso; omega)
        | (exfalso; simp at *; done)
        | exact aR
  · rw [decide_eq_false hE] at k1
    have hok : ¬ EkOk e k := fun h => hE h.1
    rw [fr3_f hok]
    repeat' (first
      | (refine za5 ?_; first | (refine za6 ?_; refine zat _ rfl ?_) | (refine zad ?_; refine zaa _ rfl ?_) | (refine zbv ?_; first | (refine zby rfl rfl aO ?_) | (refine zci rfl rfl aO ?_) | (refine zbu _ rfl rfl rfl ?_) | (refine zaw _ rfl rfl rfl ?_)) | (refine g_un ?_; first | (refine zce rfl ?_) | (refine zcf rfl aO ?_)) | (refine zbf ?_; first | (refine zac aA rfl ?_) | (refine zah _ aA rfl rfl aE rfl ?_) | (refine zaf _ aA rfl aZ aL ?_) | (refine zak _ aA rfl rfl aE aZ aL ?_)) | (refine zbm ?_; first | (refine zay _ aA rfl aL ?_) | (refine zax _ aA rfl rfl (by simp only [lx, Nat.reduceAdd]; first | done | rfl) ?_)) | (refine zbe ?_; first | (refine zau _ aA rfl rfl aO aA ?_) | (refine zav _ aA rfl rfl rfl rfl aO aO (by first | (rw [Nat.zero_add, Int.toNat_natCast]) | (rw [Nat.zero_add]) | rfl) ?_)) | (refine zbw ?_; first | (refine zbl rfl aD rfl ?_) | (refine zbi rfl aD ?_) | (refine zbj rfl aD ?_) | (refine zbk rfl aD rfl ?_)) | (refine zbs ?_; first | (refine zbx rfl rfl aD ?_) | (refine zb8 rfl rfl aD ?_) | (refine zb7 rfl rfl ?_) | (refine zbh rfl rfl (fun h => ?_) (fun h => ?_) <;> (have h' := h; (try simp only [sx] at h')))) | (refine zbd ?_; first | (refine za0 true (k1) rfl rfl rfl aS rfl aH ?_; simp only [cl]) | (refine za0 true (k2) rfl rfl rfl aS rfl aH ?_; simp only [cl]) | (refine za9 aA rfl ?_) | (refine zbc aA rfl rfl ?_) | (refine zba aA rfl ?_) | (refine zbb aA (evO_ok rfl) ?_)) | (refine zbz _ _ rfl rfl rfl rfl ?_) | (refine zcc _ aA rfl ?_) | (refine zb2 aA rfl ?_) | (refine zbo _ _ _ rfl rfl aE (by first | assumption | (exact TAgg.size aA)) rfl rfl rfl aZ rfl aL (by first | (first | (simp only [lx, Nat.reduceAdd]; first | done | rfl) | fail) | rfl) ?_) | (refine zca _ rfl rfl ?_) | (refine zas (hK _ _ (.inl rfl) ?_); clear hK K) | (refine zas (hK _ _ (.inr (by kernel_rfl)) ?_); clear hK K))
      | (refine za3 ?_; first | (refine zbp ?_) | (refine zaj (fun K hK => ?_)) | (refine zan ?_) | (refine za4 ?_) | (refine zbq ?_) | (refine za1 ?_) | (refine zbg ?_; first | (refine zam rfl aD ?_) | (refine zal rfl aD ?_) | (refine zaz rfl (fun h => ?_) (fun h => ?_) <;> (have h' := h; (try simp only [sx] at h')))))
      | (refine za2 ?_) | (refine zai ?_) | (refine zae ?_) | (refine zaq ?_) | (refine zar ?_) | (refine zao ?_) | (refine zap rfl ?_) | (refine zab ?_) | (refine zag ?_) | (refine zbr ?_))
    all_goals first
      | (exfalso; omega)
      | (exfalso; simp at *; done)
      | exact aR
theorem k_sMean (e : Ens) (z : SzE e) (k : Int) : Con Try.prog 49 [.agg e.t.pv, .list 2 (e.L.map Scen.pv), .list 1 (ints e.src), .int .i64 e.st, .int .i64 k] (fr3 (EkOk e k) (meanE e k) (wgtE e)) := by
  intro al
  refine za8 hmix Try.func49 rfl (by kernel_rfl) (by kernel_rfl) (Nat.le_of_ble_eq_true rfl) (fun row h => by cases h) ?_
  have hty_a26 := ty_a26
  have hty_u51 := ty_u51
  have hty_s51 := ty_s51
  have hty_u24 := ty_u24
  have hty_s24 := ty_s24
  have hty_f56_1 := ty_f56_1
  have hty_c3 := ty_c3
  have hty_a56 := ty_a56
  have hl1 : (e.L.map Scen.pv).length = e.L.length := by simp
  have hzn := z.hn
  have k1 := k_l8Asked e z
  have k2 := k_l4Tick k
  by_cases hE : GoodEn e
  · rw [decide_eq_true hE] at k1
    have hlen := goodT_len hE.1.1
    have hL := hE.2.1
    have hl4 := hL.2
    have hwb := wtL_bnd hL
    by_cases hk : 0 ≤ k ∧ k ≤ 9999
    · skip
      have hok : EkOk e k := ⟨hE, hk⟩
      rw [fr3_t hok]
      have hmb := mE_take hE k e.L.length
      rw [List.take_length] at hmb
      have kA := k_l8All e.L hL
      have kR := k_l8Reduce (sumBy (mnS e k) e.L) (sumBy wtS e.L) aO aO
      repeat' (first
      | (refine za5 ?_; first | (refine za6 ?_; refine zat _ rfl ?_) | (refine zad ?_; refine zaa _ rfl ?_) | (refine zbv ?_; first | (refine zby rfl rfl aO ?_) | (refine zci rfl rfl aO ?_) | (refine zbu _ rfl rfl rfl ?_) | (refine zaw _ rfl rfl rfl ?_)) | (refine g_un ?_; first | (refine zce rfl ?_) | (refine zcf rfl aO ?_)) | (refine zbf ?_; first | (refine zac aA rfl ?_) | (refine zah _ aA rfl rfl aE rfl ?_) | (refine zaf _ aA rfl aZ aL ?_) | (refine zak _ aA rfl rfl aE aZ aL ?_)) | (refine zbm ?_; first | (refine zay _ aA rfl aL ?_) | (refine zax _ aA rfl rfl (by simp only [lx, Nat.reduceAdd]; first | done | rfl) ?_)) | (refine zbe ?_; first | (refine zau _ aA rfl rfl aO aA ?_) | (refine zav _ aA rfl rfl rfl rfl aO aO (by first | (rw [Nat.zero_add, Int.toNat_natCast]) | (rw [Nat.zero_add]) | rfl) ?_)) | (refine zbw ?_; first | (refine zbl rfl aD rfl ?_) | (refine zbi rfl aD ?_) | (refine zbj rfl aD ?_) | (refine zbk rfl aD rfl ?_)) | (refine zbs ?_; first | (refine zbx rfl rfl aD ?_) | (refine zb8 rfl rfl aD ?_) | (refine zb7 rfl rfl ?_) | (refine zbh rfl rfl (fun h => ?_) (fun h => ?_) <;> (have h' := h; (try simp only [sx] at h')))) | (refine zbd ?_; first | (refine za0 true (k1) rfl rfl rfl aS rfl aH ?_; simp only [cl]) | (refine za0 true (k2) rfl rfl rfl aS rfl aH ?_; simp only [cl]) | (refine za9 aA rfl ?_) | (refine zbc aA rfl rfl ?_) | (refine zba aA rfl ?_) | (refine zbb aA (evO_ok rfl) ?_)) | (refine zbz _ _ rfl rfl rfl rfl ?_) | (refine zca _ rfl rfl ?_) | (refine zas (hK _ _ (.inl rfl) ?_); clear hK K) | (refine zas (hK _ _ (.inr (by kernel_rfl)) ?_); clear hK K))
      | (refine za3 ?_; first | (refine zbp ?_) | (refine zaj (fun K hK => ?_)) | (refine zan ?_) | (refine za4 ?_) | (refine zbq ?_) | (refine za1 ?_) | (refine zbg ?_; first | (refine zam rfl aD ?_) | (refine zal rfl aD ?_) | (refine zaz rfl (fun h => ?_) (fun h => ?_) <;> (have h' := h; (try simp only [sx] at h')))))
      | (refine za2 ?_) | (refine zai ?_) | (refine zae ?_) | (refine zaq ?_) | (refine zar ?_) | (refine zao ?_) | (refine zap rfl ?_) | (refine zab ?_) | (refine zag ?_) | (refine zbr ?_))
      all_goals try (exfalso; omega)
      all_goals try (exfalso; simp at *; done)
      refine zcd [1, 2, 3, 4, 5] [] (fun q : Nat × Int × Int => [(13, .int .i64 q.2.1), (14, .int .i64 q.1)]) (fun q : Nat × Int × Int => []) (fun q : Nat × Int × Int => q.1 ≤ e.L.length ∧ q.2.1 = sumBy (mnS e k) (e.L.take q.1) ∧ q.2.2 = sumBy wtS (e.L.take q.1)) (fun q : Nat × Int × Int => e.L.length - q.1) ((0, 0, 0)) rfl rfl (fun _ => rfl) (fun _ => rfl) rfl aW ⟨by simp, by simp [sumBy], by simp [sumBy]⟩ (fun q hq => ?_)
      obtain ⟨i, s, t⟩ := q
      obtain ⟨h1, h2, h3⟩ := hq
      simp only at h1 h2 h3
      dsimp only
      have hb' := mE_take hE k i
      have hb2 := wtS_bnd hL i
      rcases Nat.lt_or_ge i e.L.length with hlt | hge
      · obtain ⟨a, hga⟩ := get_ex hlt
        have hx := Scen.at hga
        have hwa := (hL.1 a (get_mem hga)).2
        have hsum := sumBy_take_succ (mnS e k) hga
        have hsum2 := sumBy_take_succ wtS hga
        have ew : mnS e k a = a.weight * ((buS e k a).length : Int) := rfl
        have hb3 := mE_take hE k (i + 1)
        rw [hsum] at hb3
        have kB := (k_l8Burned e hE z k (get_mem hga)).frzF (ints_flat _)
        have hbl := bu_len hE k (get_mem hga)
        have hbl2 : (ints (buS e k a)).length = (buS e k a).length := by simp
        have hmul : 0 ≤ a.weight * ((ints (buS e k a)).length : Int) := Int.mul_nonneg aO aO
        have ew2 : mnS e k a = a.weight * ((ints (buS e k a)).length : Int) := by rw [ew, hbl2]
        rw [ew2] at hb3
        rw [ew2] at hsum
        clear ew ew2
        generalize buS e k a = B at *
        repeat' (first
      | (refine za5 ?_; first | (refine za6 ?_; refine zat _ rfl ?_) | (refine zad ?_; refine zaa _ rfl ?_) | (refine zbv ?_; first | (refine zby rfl rfl aO ?_) | (refine zci rfl rfl aO ?_) | (refine zbu _ rfl rfl rfl ?_) | (refine zaw _ rfl rfl rfl ?_)) | (refine g_un ?_; first | (refine zce rfl ?_) | (refine zcf rfl aO ?_)) | (refine zbf ?_; first | (refine zac aA rfl ?_) | (refine zah _ aA rfl rfl aE rfl ?_) | (refine zaf _ aA rfl aZ aL ?_) | (refine zak _ aA rfl rfl aE aZ aL ?_)) | (refine zbm ?_; first | (refine zay _ aA rfl aL ?_) | (refine zax _ aA rfl rfl (by simp only [lx, Nat.reduceAdd]; first | done | rfl) ?_)) | (refine zbe ?_; first | (refine zau _ aA rfl rfl aO aA ?_) | (refine zav _ aA rfl rfl rfl rfl aO aO (by first | (rw [Nat.zero_add, Int.toNat_natCast]) | (rw [Nat.zero_add]) | rfl) ?_)) | (refine zbw ?_; first | (refine zbl rfl aD rfl ?_) | (refine zbi rfl aD ?_) | (refine zbj rfl aD ?_) | (refine zbk rfl aD rfl ?_)) | (refine zbs ?_; first | (refine zbx rfl rfl aD ?_) | (refine zb8 rfl rfl aD ?_) | (refine zb7 rfl rfl ?_) | (refine zbh rfl rfl (fun h => ?_) (fun h => ?_) <;> (have h' := h; (try simp only [sx] at h')))) | (refine zbd ?_; first | (refine za0 true (kB) rfl rfl rfl aS rfl aH ?_; simp only [cl]) | (refine za9 aA rfl ?_) | (refine zbc aA rfl rfl ?_) | (refine zba aA rfl ?_) | (refine zbb aA (evO_ok rfl) ?_)) | (refine zbz _ _ rfl rfl rfl rfl ?_) | (refine zca _ rfl rfl ?_) | (refine zas (hK _ _ (.inl rfl) ?_); clear hK K) | (refine zas (hK _ _ (.inr (by kernel_rfl)) ?_); clear hK K))
      | (refine za3 ?_; first | (refine zbp ?_) | (refine zaj (fun K hK => ?_)) | (refine zan ?_) | (refine za4 ?_) | (refine zbq ?_) | (refine za1 ?_) | (refine zbg ?_; first | (refine zam rfl aD ?_) | (refine zal rfl aD ?_) | (refine zaz rfl (fun h => ?_) (fun h => ?_) <;> (have h' := h; (try simp only [sx] at h')))))
      | (refine za2 ?_) | (refine zai ?_) | (refine zae ?_) | (refine zaq ?_) | (refine zar ?_) | (refine zao ?_) | (refine zap rfl ?_) | (refine zab ?_) | (refine zag ?_) | (refine zbr ?_))
        all_goals first
          | (exfalso; omega)
          | (refine zcb (i + 1, s + a.weight * ((ints B).length : Int), t + a.weight) rfl aW ⟨by simp only; omega, by simp only [hsum, h2], by simp only [hsum2, h3]⟩ (by simp only; omega))
      · rw [take_all hge] at h2 h3
        subst h2
        subst h3
        repeat' (first
      | (refine za5 ?_; first | (refine za6 ?_; refine zat _ rfl ?_) | (refine zad ?_; refine zaa _ rfl ?_) | (refine zbv ?_; first | (refine zby rfl rfl aO ?_) | (refine zci rfl rfl aO ?_) | (refine zbu _ rfl rfl rfl ?_) | (refine zaw _ rfl rfl rfl ?_)) | (refine g_un ?_; first | (refine zce rfl ?_) | (refine zcf rfl aO ?_)) | (refine zbf ?_; first | (refine zac aA rfl ?_) | (refine zah _ aA rfl rfl aE rfl ?_) | (refine zaf _ aA rfl aZ aL ?_) | (refine zak _ aA rfl rfl aE aZ aL ?_)) | (refine zbm ?_; first | (refine zay _ aA rfl aL ?_) | (refine zax _ aA rfl rfl (by simp only [lx, Nat.reduceAdd]; first | done | rfl) ?_)) | (refine zbe ?_; first | (refine zau _ aA rfl rfl aO aA ?_) | (refine zav _ aA rfl rfl rfl rfl aO aO (by first | (rw [Nat.zero_add, Int.toNat_natCast]) | (rw [Nat.zero_add]) | rfl) ?_)) | (refine zbw ?_; first | (refine zbl rfl aD rfl ?_) | (refine zbi rfl aD ?_) | (refine zbj rfl aD ?_) | (refine zbk rfl aD rfl ?_)) | (refine zbs ?_; first | (refine zbx rfl rfl aD ?_) | (refine zb8 rfl rfl aD ?_) | (refine zb7 rfl rfl ?_) | (refine zbh rfl rfl (fun h => ?_) (fun h => ?_) <;> (have h' := h; (try simp only [sx] at h')))) | (refine zbd ?_; first | (refine za0 true (kA) rfl rfl rfl aS rfl aH ?_; simp only [cl]) | (refine za0 true (kR) rfl rfl rfl aS rfl aH ?_; simp only [cl]) | (refine za9 aA rfl ?_) | (refine zbc aA rfl rfl ?_) | (refine zba aA rfl ?_) | (refine zbb aA (evO_ok rfl) ?_)) | (refine zbz _ _ rfl rfl rfl rfl ?_) | (refine zca _ rfl rfl ?_) | (refine zas (hK _ _ (.inl rfl) ?_); clear hK K) | (refine zas (hK _ _ (.inr (by kernel_rfl)) ?_); clear hK K))
      | (refine za3 ?_; first | (refine zbp ?_) | (refine zaj (fun K hK => ?_)) | (refine zan ?_) | (refine za4 ?_) | (refine zbq ?_) | (refine za1 ?_) | (refine zbg ?_; first | (refine zam rfl aD ?_) | (refine zal rfl aD ?_) | (refine zaz rfl (fun h => ?_) (fun h => ?_) <;> (have h' := h; (try simp only [sx] at h')))))
      | (refine za2 ?_) | (refine zai ?_) | (refine zae ?_) | (refine zaq ?_) | (refine zar ?_) | (refine zao ?_) | (refine zap rfl ?_) | (refine zab ?_) | (refine zag ?_) | (refine zbr ?_))
        all_goals first
          | (exfalso; omega)
          | exact aR
    · have hok : ¬ EkOk e k := fun h => hk h.2
      rw [fr3_f hok]
      repeat' (first
      | (refine za5 ?_; first | (refine za6 ?_; refine zat _ rfl ?_) | (refine zad ?_; refine zaa _ rfl ?_) | (refine zbv ?_; first | (refine zby rfl rfl aO ?_) | (refine zci rfl rfl aO ?_) | (refine zbu _ rfl rfl rfl ?_) | (refine zaw _ rfl rfl rfl ?_)) | (refine g_un ?_; first | (refine zce rfl ?_) | (refine zcf rfl aO ?_)) | (refine zbf ?_; first | (refine zac aA rfl ?_) | (refine zah _ aA rfl rfl aE rfl ?_) | (refine zaf _ aA rfl aZ aL ?_) | (refine zak _ aA rfl rfl aE aZ aL ?_)) | (refine zbm ?_; first | (refine zay _ aA rfl aL ?_) | (refine zax _ aA rfl rfl (by simp only [lx, Nat.reduceAdd]; first | done | rfl) ?_)) | (refine zbe ?_; first | (refine zau _ aA rfl rfl aO aA ?_) | (refine zav _ aA rfl rfl rfl rfl aO aO (by first | (rw [Nat.zero_add, Int.toNat_natCast]) | (rw [Nat.zero_add]) | rfl) ?_)) | (refine zbw ?_; first | (refine zbl rfl aD rfl ?_) | (refine zbi rfl aD ?_) | (refine zbj rfl aD ?_) | (refine zbk rfl aD rfl ?_)) | (refine zbs ?_; first | (refine zbx rfl rfl aD ?_) | (refine zb8 rfl rfl aD ?_) | (refine zb7 rfl rfl ?_) | (refine zbh rfl rfl (fun h => ?_) (fun h => ?_) <;> (have h' := h; (try simp only [sx] at h')))) | (refine zbd ?_; first | (refine za0 true (k1) rfl rfl rfl aS rfl aH ?_; simp only [cl]) | (refine za0 true (k2) rfl rfl rfl aS rfl aH ?_; simp only [cl]) | (refine za9 aA rfl ?_) | (refine zbc aA rfl rfl ?_) | (refine zba aA rfl ?_) | (refine zbb aA (evO_ok rfl) ?_)) | (refine zbz _ _ rfl rfl rfl rfl ?_) | (refine zca _ rfl rfl ?_) | (refine zas (hK _ _ (.inl rfl) ?_); clear hK K) | (refine zas (hK _ _ (.inr (by kernel_rfl)) ?_); clear hK K))
      | (refine za3 ?_; first | (refine zbp ?_) | (refine zaj (fun K hK => ?_)) | (refine zan ?_) | (refine za4 ?_) | (refine zbq ?_) | (refine za1 ?_) | (refine zbg ?_; first | (refine zam rfl aD ?_) | (refine zal rfl aD ?_) | (refine zaz rfl (fun h => ?_) (fun h => ?_) <;> (have h' := h; (try simp only [sx] at h')))))
      | (refine za2 ?_) | (refine zai ?_) | (refine zae ?_) | (refine zaq ?_) | (refine zar ?_) | (refine zao ?_) | (refine zap rfl ?_) | (refine zab ?_) | (refine zag ?_) | (refine zbr ?_))
      all_goals first
        | (exfalso; omega)
        | (exfalso; simp at *; done)
        | exact aR
  · rw [decide_eq_false hE] at k1
    have hok : ¬ EkOk e k := fun h => hE h.1
    rw [fr3_f hok]
    repeat' (first
      | (refine za5 ?_; first | (refine za6 ?_; refine zat _ rfl ?_) | (refine zad ?_; refine zaa _ rfl ?_) | (refine zbv ?_; first | (refine zby rfl rfl aO ?_) | (refine zci rfl rfl aO ?_) | (refine zbu _ rfl rfl rfl ?_) | (refine zaw _ rfl rfl rfl ?_)) | (refine g_un ?_; first | (refine zce rfl ?_) | (refine zcf rfl aO ?_)) | (refine zbf ?_; first | (refine zac aA rfl ?_) | (refine zah _ aA rfl rfl aE rfl ?_) | (refine zaf _ aA rfl aZ aL ?_) | (refine zak _ aA rfl rfl aE aZ aL ?_)) | (refine zbm ?_; first | (refine zay _ aA rfl aL ?_) | (refine zax _ aA rfl rfl (by simp only [lx, Nat.reduceAdd]; first | done | rfl) ?_)) | (refine zbe ?_; first | (refine zau _ aA rfl rfl aO aA ?_) | (refine zav _ aA rfl rfl rfl rfl aO aO (by first | (rw [Nat.zero_add, Int.toNat_natCast]) | (rw [Nat.zero_add]) | rfl) ?_)) | (refine zbw ?_; first | (refine zbl rfl aD rfl ?_) | (refine zbi rfl aD ?_) | (refine zbj rfl aD ?_) | (refine zbk rfl aD rfl ?_)) | (refine zbs ?_; first | (refine zbx rfl rfl aD ?_) | (refine zb8 rfl rfl aD ?_) | (refine zb7 rfl rfl ?_) | (refine zbh rfl rfl (fun h => ?_) (fun h => ?_) <;> (have h' := h; (try simp only [sx] at h')))) | (refine zbd ?_; first | (refine za0 true (k1) rfl rfl rfl aS rfl aH ?_; simp only [cl]) | (refine za0 true (k2) rfl rfl rfl aS rfl aH ?_; simp only [cl]) | (refine za9 aA rfl ?_) | (refine zbc aA rfl rfl ?_) | (refine zba aA rfl ?_) | (refine zbb aA (evO_ok rfl) ?_)) | (refine zbz _ _ rfl rfl rfl rfl ?_) | (refine zca _ rfl rfl ?_) | (refine zas (hK _ _ (.inl rfl) ?_); clear hK K) | (refine zas (hK _ _ (.inr (by kernel_rfl)) ?_); clear hK K))
      | (refine za3 ?_; first | (refine zbp ?_) | (refine zaj (fun K hK => ?_)) | (refine zan ?_) | (refine za4 ?_) | (refine zbq ?_) | (refine za1 ?_) | (refine zbg ?_; first | (refine zam rfl aD ?_) | (refine zal rfl aD ?_) | (refine zaz rfl (fun h => ?_) (fun h => ?_) <;> (have h' := h; (try simp only [sx] at h')))))
      | (refine za2 ?_) | (refine zai ?_) | (refine zae ?_) | (refine zaq ?_) | (refine zar ?_) | (refine zao ?_) | (refine zap rfl ?_) | (refine zab ?_) | (refine zag ?_) | (refine zbr ?_))
    all_goals first
      | (exfalso; omega)
      | (exfalso; simp at *; done)
      | exact aR
end
end Go.Vs
set_option linter.unusedVariables false
set_option linter.unusedSimpArgs false
set_option maxRecDepth 100000
set_option maxHeartbeats 4000000
namespace Go.Vs
open Go.Proofs
attribute [local irreducible] exec vwp thenQ blkQ loopQ RetPost
noncomputable section
theorem tv_set2 {T : List Int} {y : Int} (v : Int) (h : y.toNat < T.length) (c : Int) : tv (T.set y.toNat v) c = if c.toNat = y.toNat then v else tv T c := tv_set v h c
theorem tv_extE {t : Terrain} {T U : List Int} (h1 : T.length = t.burn.length) (h2 : U.length = t.burn.length) (h : ∀ c, IsCell t c → tv T c = tv U c) : T = U := tv_extB (b := ⟨t, [], [], 0⟩) h1 h2 h
noncomputable def cntT (e : Ens) (k : Int) (i : Nat) : List Int := (List.range e.t.burn.length).map fun c : Nat => sumBy (nIf (hasS e k (c : Int))) (e.L.take i)
theorem cntT_len (e : Ens) (k : Int) (i : Nat) : (cntT e k i).length = e.t.burn.length := by simp [cntT]
theorem cntT_tv {e : Ens} {k : Int} {i : Nat} {c : Int} (hc : IsCell e.t c) : tv (cntT e k i) c = sumBy (nIf (hasS e k c)) (e.L.take i) := by
  have h1 := hc.1
  have h2 := hc.2
  unfold tv cntT
  rw [List.getD_eq_getElem?_getD, List.getElem?_map, List.getElem?_range aO]
  simp only [Option.map_some, Option.getD_some]
  rw [show ((c.toNat : Nat) : Int) = c by omega]
theorem cnt_bnd (e : Ens) (k c : Int) (i : Nat) : 0 ≤ sumBy (nIf (hasS e k c)) (e.L.take i) ∧ sumBy (nIf (hasS e k c)) (e.L.take i) ≤ i := by
  have h := sumBy_bound (nIf (hasS e k c)) 1 (e.L.take i) fun y _ => by unfold nIf; split <;> omega
  have h2 := List.length_take_le i e.L
  omega
theorem rep_tv {n : Nat} {c : Int} (h : c.toNat < n) : tv (List.replicate n 0) c = 0 := by
  unfold tv
  rw [List.getD_eq_getElem?_getD, List.getElem?_replicate, if_pos h]
  rfl
theorem rise_lt {l : List Int} (h : l.Pairwise (· < ·)) {j : Nat} {y : Int} (hj : l[j]? = some y) : y ∉ l.take j := fun hm => by
  obtain ⟨i, hi⟩ := List.getElem?_of_mem hm
  rw [List.getElem?_take] at hi
  split at hi
  · rw [List.pairwise_iff_getElem] at h
    have := h i j (get_lt hi) (get_lt hj) aA
    rw [List.getElem?_eq_getElem (get_lt hi)] at hi
    rw [List.getElem?_eq_getElem (get_lt hj)] at hj
    injection hi with hi
    injection hj with hj
    omega
  · cases hi
theorem k_burnedIn (e : Ens) (z : SzE e) (k : Int) (hE : GoodEn e) : Con Try.prog 111 [.agg e.t.pv, .list 2 (e.L.map Scen.pv), .list 1 (ints e.src), .int .i64 e.st, .int .i64 k] (.olist 3 1 (ints (cntT e k e.L.length))) := by
  intro al
  refine za8 hmix Try.func111 rfl (by kernel_rfl) (by kernel_rfl) (Nat.le_of_ble_eq_true rfl) (fun row h => by cases h) ?_
  have hty_f26_2 := ty_f26_2
  have hty_c24 := ty_c24
  have hty_u24 := ty_u24
  have hty_s24 := ty_s24
  have hty_z3 := ty_z3
  have hty_u51 := ty_u51
  have hty_s51 := ty_s51
  have hty_a56 := ty_a56
  have hty_z56 := ty_z56
  have hty_t56 := ty_t56
  have hty_a26 := ty_a26
  have hty_f56_0 := ty_f56_0
  have hty_c27 := ty_c27
  have hty_u27 := ty_u27
  have hty_s27 := ty_s27
  have hty_c3 := ty_c3
  have hty_t3 := ty_t3
  have hl1 : (e.L.map Scen.pv).length = e.L.length := by simp
  have hl2 : (ints e.t.burn).length = e.t.burn.length := by simp
  have hlen := goodT_len hE.1.1
  have hl4 := hE.2.1.2
  repeat' (first
      | (refine za5 ?_; first | (refine za6 ?_; refine zat _ rfl ?_) | (refine zad ?_; refine zaa _ rfl ?_) | (refine zbv ?_; first | (refine zby rfl rfl aO ?_) | (refine zbu _ rfl rfl rfl ?_) | (refine zaw _ rfl rfl rfl ?_)) | (refine zbf ?_; first | (refine zac aA rfl ?_) | (refine zah _ aA rfl rfl aE rfl ?_) | (refine zaf _ aA rfl aZ aL ?_) | (refine zak _ aA rfl rfl aE aZ aL ?_)) | (refine zbm ?_; first | (refine zay _ aA rfl aL ?_) | (refine zax _ aA rfl rfl (by simp only [lx, Nat.reduceAdd]; first | done | rfl) ?_)) | (refine zbe ?_; first | (refine zau _ aA rfl rfl aO aA ?_) | (refine zav _ aA rfl rfl rfl rfl aO aO (by first | (rw [Nat.zero_add, Int.toNat_natCast]) | (rw [Nat.zero_add]) | rfl) ?_)) | (refine zbd ?_; first | (refine za9 aA rfl ?_) | (refine zbc aA rfl rfl ?_) | (refine zba aA rfl ?_) | (refine zbb aA (evO_ok rfl) ?_)) | (refine zbz _ _ rfl rfl rfl rfl ?_) | (refine zcc _ aA rfl ?_) | (refine zb2 aA rfl ?_) | (refine zbo _ _ _ rfl rfl aE (by first | assumption | (exact TAgg.size aA)) rfl rfl rfl aZ rfl aL (by first | (first | (simp only [lx, Nat.reduceAdd]; first | done | rfl) | fail) | rfl) ?_) | (refine zcl aA aA rfl rfl rfl aO rfl ?_) | (refine zas (hK _ _ (.inl rfl) ?_); clear hK K) | (refine zas (hK _ _ (.inr (by kernel_rfl)) ?_); clear hK K))
      | (refine za3 ?_; first | (refine zbp ?_) | (refine zaj (fun K hK => ?_)) | (refine zan ?_) | (refine za4 ?_) | (refine zbq ?_) | (refine za1 ?_) | (refine zbg ?_; first | (refine zam rfl aD ?_) | (refine zal rfl aD ?_) | (refine zaz rfl (fun h => ?_) (fun h => ?_) <;> (have h' := h; (try simp only [sx] at h')))))
      | (refine za2 ?_) | (refine zai ?_) | (refine zae ?_) | (refine zaq ?_) | (refine zar ?_) | (refine zao ?_) | (refine zap rfl ?_) | (refine zab ?_) | (refine zag ?_) | (refine zbr ?_))
  all_goals try (exfalso; omega)
  refine zcd [2, 3, 4, 5, 20, 21] [(1001, 0)] (fun q : Nat × List (List PV) × List Int => [(11, .osl (1001, 0) 0 (ints e.t.burn).length), (22, .int .i64 q.1)]) (fun q : Nat × List (List PV) × List Int => [((1001, 0), some ⟨3, 1, q.2.1, false⟩)]) (fun q : Nat × List (List PV) × List Int => q.1 ≤ e.L.length ∧ q.2.1 = ints q.2.2 ∧ q.2.2.length = e.t.burn.length ∧ ∀ c, IsCell e.t c → tv q.2.2 c = sumBy (nIf (hasS e k c)) (e.L.take q.1)) (fun q : Nat × List (List PV) × List Int => e.L.length - q.1) ((0, List.replicate (ints e.t.burn).length [.int .i64 0], List.replicate e.t.burn.length 0)) rfl rfl (fun _ => rfl) (fun _ => rfl) rfl aW ⟨by simp, by simp [ints], by simp, fun c hc => by simp only; rw [rep_tv (by have := hc.1; have := hc.2; omega)]; rfl⟩ (fun q hq => ?_)
  obtain ⟨i, es, T⟩ := q
  obtain ⟨hi, hes, hT, hv⟩ := hq
  simp only at hi hes hT hv
  dsimp only
  have hel : es.length = e.t.burn.length := by rw [hes, ints_len, hT]
  rcases Nat.lt_or_ge i e.L.length with hlt | hge
  · obtain ⟨a, hga⟩ := get_ex hlt
    have hx := Scen.at hga
    have ham := get_mem hga
    have kB := (k_iBurnedS e hE z k ham).frzF (ints_flat _)
    have hbl := bu_len hE k ham
    have hbc : ∀ x ∈ buS e k a, IsCell e.t x := fun x h => bu_cell hE ham h
    have hbr := bu_rise e k a
    have hcs : ∀ c, hasS e k c a = decide (c ∈ buS e k a) := fun c => rfl
    have hsum := fun c => sumBy_take_succ (nIf (hasS e k c)) hga
    have hcb := fun c => cnt_bnd e k c i
    generalize hBB : buS e k a = B at *
    have hl3 : (ints B).length = B.length := by simp
    repeat' (first
      | (refine za5 ?_; first | (refine za6 ?_; refine zat _ rfl ?_) | (refine zad ?_; refine zaa _ rfl ?_) | (refine zbv ?_; first | (refine zby rfl rfl aO ?_) | (refine zbu _ rfl rfl rfl ?_) | (refine zaw _ rfl rfl rfl ?_)) | (refine zbf ?_; first | (refine zac aA rfl ?_) | (refine zah _ aA rfl rfl aE rfl ?_) | (refine zaf _ aA rfl aZ aL ?_) | (refine zak _ aA rfl rfl aE aZ aL ?_)) | (refine zbm ?_; first | (refine zay _ aA rfl aL ?_) | (refine zax _ aA rfl rfl (by simp only [lx, Nat.reduceAdd]; first | done | rfl) ?_)) | (refine zbe ?_; first | (refine zau _ aA rfl rfl aO aA ?_) | (refine zav _ aA rfl rfl rfl rfl aO aO (by first | (rw [Nat.zero_add, Int.toNat_natCast]) | (rw [Nat.zero_add]) | rfl) ?_)) | (refine zbd ?_; first | (refine za0 true (kB) rfl rfl rfl aS rfl aH ?_; simp only [cl]) | (refine za9 aA rfl ?_) | (refine zbc aA rfl rfl ?_) | (refine zba aA rfl ?_) | (refine zbb aA (evO_ok rfl) ?_)) | (refine zbz _ _ rfl rfl rfl rfl ?_) | (refine zcc _ aA rfl ?_) | (refine zb2 aA rfl ?_) | (refine zbo _ _ _ rfl rfl aE (by first | assumption | (exact TAgg.size aA)) rfl rfl rfl aZ rfl aL (by first | (first | (simp only [lx, Nat.reduceAdd]; first | done | rfl) | fail) | rfl) ?_) | (refine zcl aA aA rfl rfl rfl aO rfl ?_) | (refine zas (hK _ _ (.inl rfl) ?_); clear hK K) | (refine zas (hK _ _ (.inr (by kernel_rfl)) ?_); clear hK K))
      | (refine za3 ?_; first | (refine zbp ?_) | (refine zaj (fun K hK => ?_)) | (refine zan ?_) | (refine za4 ?_) | (refine zbq ?_) | (refine za1 ?_) | (refine zbg ?_; first | (refine zam rfl aD ?_) | (refine zal rfl aD ?_) | (refine zaz rfl (fun h => ?_) (fun h => ?_) <;> (have h' := h; (try simp only [sx] at h')))))
      | (refine za2 ?_) | (refine zai ?_) | (refine zae ?_) | (refine zaq ?_) | (refine zar ?_) | (refine zao ?_) | (refine zap rfl ?_) | (refine zab ?_) | (refine zag ?_) | (refine zbr ?_))
    all_goals try (exfalso; omega)
    refine zcd [2, 3, 4, 5, 20, 21, 22, 32, 33] [(1001, 0)] (fun w : Nat × List (List PV) × List Int => [(11, .osl (1001, 0) 0 (ints e.t.burn).length), (34, .int .i64 w.1)]) (fun w : Nat × List (List PV) × List Int => [((1001, 0), some ⟨3, 1, w.2.1, false⟩)]) (fun w : Nat × List (List PV) × List Int => w.1 ≤ B.length ∧ w.2.1 = ints w.2.2 ∧ w.2.2.length = e.t.burn.length ∧ ∀ c, IsCell e.t c → tv w.2.2 c = tv T c + (if c ∈ B.take w.1 then 1 else 0)) (fun w : Nat × List (List PV) × List Int => B.length - w.1) ((0, es, T)) rfl rfl (fun _ => rfl) (fun _ => rfl) rfl aW ⟨by simp, hes, hT, fun c hc => by simp⟩ (fun w hw => ?_)
    obtain ⟨j, fs, U⟩ := w
    obtain ⟨hj, hfs, hU, hu⟩ := hw
    simp only at hj hfs hU hu
    dsimp only
    have hfl : fs.length = e.t.burn.length := by rw [hfs, ints_len, hU]
    rcases Nat.lt_or_ge j B.length with hlt2 | hge2
    · obtain ⟨y, hgy⟩ := get_ex hlt2
      have hy := ints_at hgy
      have hyc := hbc y (get_mem hgy)
      have hyc' := hyc
      unfold IsCell at hyc'
      have hfy : fs[y.toNat]? = some [.int .i64 (tv U y)] := by rw [hfs]; exact tv_int aO
      have hny := rise_lt hbr hgy
      have hval := hu y hyc
      rw [if_neg hny, hv y hyc] at hval
      have hcby := hcb y
      repeat' (first
      | (refine za5 ?_; first | (refine za6 ?_; refine zat _ rfl ?_) | (refine zad ?_; refine zaa _ rfl ?_) | (refine zbv ?_; first | (refine zby rfl rfl aO ?_) | (refine zbu _ rfl rfl rfl ?_) | (refine zaw _ rfl rfl rfl ?_)) | (refine zbf ?_; first | (refine zac aA rfl ?_) | (refine zah _ aA rfl rfl aE rfl ?_) | (refine zaf _ aA rfl aZ aL ?_) | (refine zak _ aA rfl rfl aE aZ aL ?_)) | (refine zbm ?_; first | (refine zay _ aA rfl aL ?_) | (refine zax _ aA rfl rfl (by simp only [lx, Nat.reduceAdd]; first | done | rfl) ?_)) | (refine zbe ?_; first | (refine zau _ aA rfl rfl aO aA ?_) | (refine zav _ aA rfl rfl rfl rfl aO aO (by first | (rw [Nat.zero_add, Int.toNat_natCast]) | (rw [Nat.zero_add]) | rfl) ?_)) | (refine zbd ?_; first | (refine za9 aA rfl ?_) | (refine zbc aA rfl rfl ?_) | (refine zba aA rfl ?_) | (refine zbb aA (evO_ok rfl) ?_)) | (refine zbz _ _ rfl rfl rfl rfl ?_) | (refine zcc _ aA rfl ?_) | (refine zb2 aA rfl ?_) | (refine zbo _ _ _ rfl rfl aE (by first | assumption | (exact TAgg.size aA)) rfl rfl rfl aZ rfl aL (by first | (first | (simp only [lx, Nat.reduceAdd]; first | done | rfl) | fail) | rfl) ?_) | (refine zcl aA aA rfl rfl rfl aO rfl ?_) | (refine zas (hK _ _ (.inl rfl) ?_); clear hK K) | (refine zas (hK _ _ (.inr (by kernel_rfl)) ?_); clear hK K))
      | (refine za3 ?_; first | (refine zbp ?_) | (refine zaj (fun K hK => ?_)) | (refine zan ?_) | (refine za4 ?_) | (refine zbq ?_) | (refine za1 ?_) | (refine zbg ?_; first | (refine zam rfl aD ?_) | (refine zal rfl aD ?_) | (refine zaz rfl (fun h => ?_) (fun h => ?_) <;> (have h' := h; (try simp only [sx] at h')))))
      | (refine za2 ?_) | (refine zai ?_) | (refine zae ?_) | (refine zaq ?_) | (refine zar ?_) | (refine zao ?_) | (refine zap rfl ?_) | (refine zab ?_) | (refine zag ?_) | (refine zbr ?_))
      all_goals try (exfalso; omega)
      all_goals (refine zcb (j + 1, fs.set y.toNat [.int .i64 (tv U y + 1)], U.set y.toNat (tv U y + 1)) rfl aW ⟨by simp only; omega, by simp only [ints_set, hfs], by simp [hU], fun c hc => ?_⟩ (by simp only; omega))
      all_goals
        simp only
        rw [tv_set2 _ aO c, take_succ hgy]
        have hcn : c.toNat = y.toNat ↔ c = y := by have h1 := hc.1; omega
        by_cases he : c = y
        · subst he
          rw [if_pos rfl, if_pos (by simp), hval, hv c hc]; omega
        · rw [if_neg (fun h => he (hcn.1 h)), hu c hc]
          congr 1
          have hmm : c ∈ B.take j ++ [y] ↔ c ∈ B.take j := by simp [he]
          by_cases hm : c ∈ B.take j
          · rw [if_pos hm, if_pos (hmm.2 hm)]
          · rw [if_neg hm, if_neg (fun h => hm (hmm.1 h))]
    · rw [take_all hge2] at hu
      repeat' (first
      | (refine za5 ?_; first | (refine za6 ?_; refine zat _ rfl ?_) | (refine zad ?_; refine zaa _ rfl ?_) | (refine zbv ?_; first | (refine zby rfl rfl aO ?_) | (refine zbu _ rfl rfl rfl ?_) | (refine zaw _ rfl rfl rfl ?_)) | (refine zbf ?_; first | (refine zac aA rfl ?_) | (refine zah _ aA rfl rfl aE rfl ?_) | (refine zaf _ aA rfl aZ aL ?_) | (refine zak _ aA rfl rfl aE aZ aL ?_)) | (refine zbm ?_; first | (refine zay _ aA rfl aL ?_) | (refine zax _ aA rfl rfl (by simp only [lx, Nat.reduceAdd]; first | done | rfl) ?_)) | (refine zbe ?_; first | (refine zau _ aA rfl rfl aO aA ?_) | (refine zav _ aA rfl rfl rfl rfl aO aO (by first | (rw [Nat.zero_add, Int.toNat_natCast]) | (rw [Nat.zero_add]) | rfl) ?_)) | (refine zbd ?_; first | (refine za9 aA rfl ?_) | (refine zbc aA rfl rfl ?_) | (refine zba aA rfl ?_) | (refine zbb aA (evO_ok rfl) ?_)) | (refine zbz _ _ rfl rfl rfl rfl ?_) | (refine zcc _ aA rfl ?_) | (refine zb2 aA rfl ?_) | (refine zbo _ _ _ rfl rfl aE (by first | assumption | (exact TAgg.size aA)) rfl rfl rfl aZ rfl aL (by first | (first | (simp only [lx, Nat.reduceAdd]; first | done | rfl) | fail) | rfl) ?_) | (refine zcl aA aA rfl rfl rfl aO rfl ?_) | (refine zas (hK _ _ (.inl rfl) ?_); clear hK K) | (refine zas (hK _ _ (.inr (by kernel_rfl)) ?_); clear hK K))
      | (refine za3 ?_; first | (refine zbp ?_) | (refine zaj (fun K hK => ?_)) | (refine zan ?_) | (refine za4 ?_) | (refine zbq ?_) | (refine za1 ?_) | (refine zbg ?_; first | (refine zam rfl aD ?_) | (refine zal rfl aD ?_) | (refine zaz rfl (fun h => ?_) (fun h => ?_) <;> (have h' := h; (try simp only [sx] at h')))))
      | (refine za2 ?_) | (refine zai ?_) | (refine zae ?_) | (refine zaq ?_) | (refine zar ?_) | (refine zao ?_) | (refine zap rfl ?_) | (refine zab ?_) | (refine zag ?_) | (refine zbr ?_))
      all_goals try (exfalso; omega)
      all_goals (refine zcb (i + 1, fs, U) rfl aW ⟨by simp only; omega, hfs, hU, fun c hc => ?_⟩ (by simp only; omega))
      all_goals
        simp only
        rw [hu c hc, hv c hc, hsum c]
        congr 1
        unfold nIf
        rw [hcs c]
        by_cases hm : c ∈ B
        · rw [if_pos hm, decide_eq_true hm, if_pos rfl]
        · rw [if_neg hm, decide_eq_false hm, if_neg (by simp)]
  · have hin : i = e.L.length := by omega
    subst hin
    have e1 : T = cntT e k e.L.length := tv_extE hT (cntT_len e k _) fun c hc => by rw [hv c hc, cntT_tv hc]
    repeat' (first
      | (refine za5 ?_; first | (refine za6 ?_; refine zat _ rfl ?_) | (refine zad ?_; refine zaa _ rfl ?_) | (refine zbv ?_; first | (refine zby rfl rfl aO ?_) | (refine zbu _ rfl rfl rfl ?_) | (refine zaw _ rfl rfl rfl ?_)) | (refine zbf ?_; first | (refine zac aA rfl ?_) | (refine zah _ aA rfl rfl aE rfl ?_) | (refine zaf _ aA rfl aZ aL ?_) | (refine zak _ aA rfl rfl aE aZ aL ?_)) | (refine zbm ?_; first | (refine zay _ aA rfl aL ?_) | (refine zax _ aA rfl rfl (by simp only [lx, Nat.reduceAdd]; first | done | rfl) ?_)) | (refine zbe ?_; first | (refine zau _ aA rfl rfl aO aA ?_) | (refine zav _ aA rfl rfl rfl rfl aO aO (by first | (rw [Nat.zero_add, Int.toNat_natCast]) | (rw [Nat.zero_add]) | rfl) ?_)) | (refine zbd ?_; first | (refine za9 aA rfl ?_) | (refine zbc aA rfl rfl ?_) | (refine zba aA rfl ?_) | (refine zbb aA (evO_ok rfl) ?_)) | (refine zbz _ _ rfl rfl rfl rfl ?_) | (refine zcc _ aA rfl ?_) | (refine zb2 aA rfl ?_) | (refine zbo _ _ _ rfl rfl aE (by first | assumption | (exact TAgg.size aA)) rfl rfl rfl aZ rfl aL (by first | (first | (simp only [lx, Nat.reduceAdd]; first | done | rfl) | fail) | rfl) ?_) | (refine zcl aA aA rfl rfl rfl aO rfl ?_) | (refine zas (hK _ _ (.inl rfl) ?_); clear hK K) | (refine zas (hK _ _ (.inr (by kernel_rfl)) ?_); clear hK K))
      | (refine za3 ?_; first | (refine zbp ?_) | (refine zaj (fun K hK => ?_)) | (refine zan ?_) | (refine za4 ?_) | (refine zbq ?_) | (refine za1 ?_) | (refine zbg ?_; first | (refine zam rfl aD ?_) | (refine zal rfl aD ?_) | (refine zaz rfl (fun h => ?_) (fun h => ?_) <;> (have h' := h; (try simp only [sx] at h')))))
      | (refine za2 ?_) | (refine zai ?_) | (refine zae ?_) | (refine zaq ?_) | (refine zar ?_) | (refine zao ?_) | (refine zap rfl ?_) | (refine zab ?_) | (refine zag ?_) | (refine zbr ?_))
    all_goals first
      | (exfalso; omega)
      | exact zcn rfl (zbn (by rfl)) (by rfl) (by decide) (by rw [hel]; exact hl2) (by rw [hes]; exact ints_flat _) (by rw [hes, e1])
theorem k_l8Cells (e : Ens) (z : SzE e) (k n : Int) (hE : GoodEn e) : Con Try.prog 115 [.agg e.t.pv, .list 2 (e.L.map Scen.pv), .list 1 (ints e.src), .int .i64 e.st, .int .i64 k, .int .i64 n] (.olist 3 1 (ints (cellsL e.t.burn.length fun c => decide (cntE e k (c : Int) ≥ n)))) := by
  intro al
  refine za8 hmix Try.func115 rfl (by kernel_rfl) (by kernel_rfl) (Nat.le_of_ble_eq_true rfl) (fun row h => by cases h) ?_
  have hty_f26_2 := ty_f26_2
  have hty_c24 := ty_c24
  have hty_u24 := ty_u24
  have hty_s24 := ty_s24
  have hty_z3 := ty_z3
  have hty_u51 := ty_u51
  have hty_s51 := ty_s51
  have hty_a26 := ty_a26
  have hty_a56 := ty_a56
  have hty_c3 := ty_c3
  have hty_t3 := ty_t3
  have hl1 : (e.L.map Scen.pv).length = e.L.length := by simp
  have hl2 : (ints e.t.burn).length = e.t.burn.length := by simp
  have hlen := goodT_len hE.1.1
  have hl4 := hE.2.1.2
  repeat' (first
      | (refine za5 ?_; first | (refine za6 ?_; refine zat _ rfl ?_) | (refine zad ?_; refine zaa _ rfl ?_) | (refine zbv ?_; first | (refine zby rfl rfl aO ?_) | (refine zbu _ rfl rfl rfl ?_) | (refine zaw _ rfl rfl rfl ?_)) | (refine zbf ?_; first | (refine zac aA rfl ?_) | (refine zah _ aA rfl rfl aE rfl ?_) | (refine zaf _ aA rfl aZ aL ?_) | (refine zak _ aA rfl rfl aE aZ aL ?_)) | (refine zbm ?_; first | (refine zay _ aA rfl aL ?_) | (refine zax _ aA rfl rfl (by simp only [lx, Nat.reduceAdd]; first | done | rfl) ?_)) | (refine zbe ?_; first | (refine zau _ aA rfl rfl aO aA ?_) | (refine zav _ aA rfl rfl rfl rfl aO aO (by first | (rw [Nat.zero_add, Int.toNat_natCast]) | (rw [Nat.zero_add]) | rfl) ?_)) | (refine zbd ?_; first | (refine za9 aA rfl ?_) | (refine zbc aA rfl rfl ?_) | (refine zba aA rfl ?_) | (refine zbb aA (evO_ok rfl) ?_) | (refine zb4 _ _ aA rfl (lookM (by rfl)) rfl (lookM (by rfl)) rfl aN ⟨rfl, rfl, by decide, by decide⟩ (by first | rfl | omega | (simp; done) | (simp; omega) | fail) ⟨by first | (simp only [List.length_cons, List.length_nil]; omega) | omega | fail, by decide⟩ rfl (by first | (first | (simp only [lx, Nat.reduceAdd]; first | done | rfl) | fail) | rfl) aP ?_) | (refine zb3 _ _ aA rfl rfl (lookM (by rfl)) ⟨rfl, by decide⟩ aN (by first | exact Nat.succ_pos _ | omega | (simp; done)) ⟨by first | (simp only [List.length_cons, List.length_nil]; omega) | omega | fail, by decide⟩ rfl rfl aP ?_) | (refine zb5 _ aA rfl rfl (lookM (by rfl)) ⟨rfl, by decide⟩ aN ⟨by first | (simp only [List.length_cons, List.length_nil]; omega) | omega | fail, by decide⟩ rfl aP ?_) | (refine zb0 _ aA rfl rfl rfl ⟨rfl, rfl, rfl, by decide, by decide⟩ (by first | rfl | (simp; done) | fail) ⟨by omega, by decide⟩ rfl aL (by first | (rw [Nat.zero_add]) | rfl) ?_)) | (refine za7 aA rfl rfl rfl ?_) | (refine zbz _ _ rfl rfl rfl rfl ?_) | (refine zbo _ _ _ rfl rfl aE (by first | assumption | (exact TAgg.size aA)) rfl rfl rfl aZ rfl aL (by first | (first | (simp only [lx, Nat.reduceAdd]; first | done | rfl) | fail) | rfl) ?_) | (refine zcl aA aA rfl rfl rfl aO rfl ?_) | (refine zas (hK _ _ (.inl rfl) ?_); clear hK K) | (refine zas (hK _ _ (.inr (by kernel_rfl)) ?_); clear hK K))
      | (refine za3 ?_; first | (refine zbp ?_) | (refine zaj (fun K hK => ?_)) | (refine zan ?_) | (refine za4 ?_) | (refine zbq ?_) | (refine za1 ?_) | (refine zbg ?_; first | (refine zam rfl aD ?_) | (refine zal rfl aD ?_) | (refine zaz rfl (fun h => ?_) (fun h => ?_) <;> (have h' := h; (try simp only [sx] at h')))))
      | (refine za2 ?_) | (refine zai ?_) | (refine zae ?_) | (refine zaq ?_) | (refine zar ?_) | (refine zao ?_) | (refine zap rfl ?_) | (refine zab ?_) | (refine zag ?_) | (refine zbr ?_))
  all_goals try (exfalso; omega)
  refine zcd [1, 2, 3, 4, 5, 6] [(1001, 0)] (fun q : Nat × List (List PV) × List Int => [(13, .osl (1001, 0) 0 (ints e.t.burn).length), (14, .int .i64 q.1)]) (fun q : Nat × List (List PV) × List Int => [((1001, 0), some ⟨3, 1, q.2.1, false⟩)]) (fun q : Nat × List (List PV) × List Int => q.1 ≤ e.L.length ∧ q.2.1 = ints q.2.2 ∧ q.2.2.length = e.t.burn.length ∧ ∀ c, IsCell e.t c → tv q.2.2 c = sumBy (nIf (hasS e k c)) (e.L.take q.1)) (fun q : Nat × List (List PV) × List Int => e.L.length - q.1) ((0, List.replicate (ints e.t.burn).length [.int .i64 0], List.replicate e.t.burn.length 0)) rfl rfl (fun _ => rfl) (fun _ => rfl) rfl aW ⟨by simp, by simp [ints], by simp, fun c hc => by simp only; rw [rep_tv (by have := hc.1; have := hc.2; omega)]; rfl⟩ (fun q hq => ?_)
  obtain ⟨i, es, T⟩ := q
  obtain ⟨hi, hes, hT, hv⟩ := hq
  simp only at hi hes hT hv
  dsimp only
  have hel : es.length = e.t.burn.length := by rw [hes, ints_len, hT]
  rcases Nat.lt_or_ge i e.L.length with hlt | hge
  · obtain ⟨a, hga⟩ := get_ex hlt
    have hx := Scen.at hga
    have ham := get_mem hga
    have kB := (k_l8Burned e hE z k ham).frzF (ints_flat _)
    have hbl := bu_len hE k ham
    have hbc : ∀ x ∈ buS e k a, IsCell e.t x := fun x h => bu_cell hE ham h
    have hbr := bu_rise e k a
    have hcs : ∀ c, hasS e k c a = decide (c ∈ buS e k a) := fun c => rfl
    have hsum := fun c => sumBy_take_succ (nIf (hasS e k c)) hga
    have hcb := fun c => cnt_bnd e k c i
    generalize hBB : buS e k a = B at *
    have hl3 : (ints B).length = B.length := by simp
    repeat' (first
      | (refine za5 ?_; first | (refine za6 ?_; refine zat _ rfl ?_) | (refine zad ?_; refine zaa _ rfl ?_) | (refine zbv ?_; first | (refine zby rfl rfl aO ?_) | (refine zbu _ rfl rfl rfl ?_) | (refine zaw _ rfl rfl rfl ?_)) | (refine zbf ?_; first | (refine zac aA rfl ?_) | (refine zah _ aA rfl rfl aE rfl ?_) | (refine zaf _ aA rfl aZ aL ?_) | (refine zak _ aA rfl rfl aE aZ aL ?_)) | (refine zbm ?_; first | (refine zay _ aA rfl aL ?_) | (refine zax _ aA rfl rfl (by simp only [lx, Nat.reduceAdd]; first | done | rfl) ?_)) | (refine zbe ?_; first | (refine zau _ aA rfl rfl aO aA ?_) | (refine zav _ aA rfl rfl rfl rfl aO aO (by first | (rw [Nat.zero_add, Int.toNat_natCast]) | (rw [Nat.zero_add]) | rfl) ?_)) | (refine zbd ?_; first | (refine za0 true (kB) rfl rfl rfl aS rfl aH ?_; simp only [cl]) | (refine za9 aA rfl ?_) | (refine zbc aA rfl rfl ?_) | (refine zba aA rfl ?_) | (refine zbb aA (evO_ok rfl) ?_) | (refine zb4 _ _ aA rfl (lookM (by rfl)) rfl (lookM (by rfl)) rfl aN ⟨rfl, rfl, by decide, by decide⟩ (by first | rfl | omega | (simp; done) | (simp; omega) | fail) ⟨by first | (simp only [List.length_cons, List.length_nil]; omega) | omega | fail, by decide⟩ rfl (by first | (first | (simp only [lx, Nat.reduceAdd]; first | done | rfl) | fail) | rfl) aP ?_) | (refine zb3 _ _ aA rfl rfl (lookM (by rfl)) ⟨rfl, by decide⟩ aN (by first | exact Nat.succ_pos _ | omega | (simp; done)) ⟨by first | (simp only [List.length_cons, List.length_nil]; omega) | omega | fail, by decide⟩ rfl rfl aP ?_) | (refine zb5 _ aA rfl rfl (lookM (by rfl)) ⟨rfl, by decide⟩ aN ⟨by first | (simp only [List.length_cons, List.length_nil]; omega) | omega | fail, by decide⟩ rfl aP ?_) | (refine zb0 _ aA rfl rfl rfl ⟨rfl, rfl, rfl, by decide, by decide⟩ (by first | rfl | (simp; done) | fail) ⟨by omega, by decide⟩ rfl aL (by first | (rw [Nat.zero_add]) | rfl) ?_)) | (refine za7 aA rfl rfl rfl ?_) | (refine zbz _ _ rfl rfl rfl rfl ?_) | (refine zbo _ _ _ rfl rfl aE (by first | assumption | (exact TAgg.size aA)) rfl rfl rfl aZ rfl aL (by first | (first | (simp only [lx, Nat.reduceAdd]; first | done | rfl) | fail) | rfl) ?_) | (refine zcl aA aA rfl rfl rfl aO rfl ?_) | (refine zas (hK _ _ (.inl rfl) ?_); clear hK K) | (refine zas (hK _ _ (.inr (by kernel_rfl)) ?_); clear hK K))
      | (refine za3 ?_; first | (refine zbp ?_) | (refine zaj (fun K hK => ?_)) | (refine zan ?_) | (refine za4 ?_) | (refine zbq ?_) | (refine za1 ?_) | (refine zbg ?_; first | (refine zam rfl aD ?_) | (refine zal rfl aD ?_) | (refine zaz rfl (fun h => ?_) (fun h => ?_) <;> (have h' := h; (try simp only [sx] at h')))))
      | (refine za2 ?_) | (refine zai ?_) | (refine zae ?_) | (refine zaq ?_) | (refine zar ?_) | (refine zao ?_) | (refine zap rfl ?_) | (refine zab ?_) | (refine zag ?_) | (refine zbr ?_))
    all_goals try (exfalso; omega)
    refine zcd [1, 2, 3, 4, 5, 6, 14, 15] [(1001, 0)] (fun w : Nat × List (List PV) × List Int => [(13, .osl (1001, 0) 0 (ints e.t.burn).length), (16, .int .i64 w.1)]) (fun w : Nat × List (List PV) × List Int => [((1001, 0), some ⟨3, 1, w.2.1, false⟩)]) (fun w : Nat × List (List PV) × List Int => w.1 ≤ B.length ∧ w.2.1 = ints w.2.2 ∧ w.2.2.length = e.t.burn.length ∧ ∀ c, IsCell e.t c → tv w.2.2 c = tv T c + (if c ∈ B.take w.1 then 1 else 0)) (fun w : Nat × List (List PV) × List Int => B.length - w.1) ((0, es, T)) rfl rfl (fun _ => rfl) (fun _ => rfl) rfl aW ⟨by simp, hes, hT, fun c hc => by simp⟩ (fun w hw => ?_)
    obtain ⟨j, fs, U⟩ := w
    obtain ⟨hj, hfs, hU, hu⟩ := hw
    simp only at hj hfs hU hu
    dsimp only
    have hfl : fs.length = e.t.burn.length := by rw [hfs, ints_len, hU]
    rcases Nat.lt_or_ge j B.length with hlt2 | hge2
    · obtain ⟨y, hgy⟩ := get_ex hlt2
      have hy := ints_at hgy
      have hyc := hbc y (get_mem hgy)
      have hyc' := hyc
      unfold IsCell at hyc'
      have hfy : fs[y.toNat]? = some [.int .i64 (tv U y)] := by rw [hfs]; exact tv_int aO
      have hny := rise_lt hbr hgy
      have hval := hu y hyc
      rw [if_neg hny, hv y hyc] at hval
      have hcby := hcb y
      repeat' (first
      | (refine za5 ?_; first | (refine za6 ?_; refine zat _ rfl ?_) | (refine zad ?_; refine zaa _ rfl ?_) | (refine zbv ?_; first | (refine zby rfl rfl aO ?_) | (refine zbu _ rfl rfl rfl ?_) | (refine zaw _ rfl rfl rfl ?_)) | (refine zbf ?_; first | (refine zac aA rfl ?_) | (refine zah _ aA rfl rfl aE rfl ?_) | (refine zaf _ aA rfl aZ aL ?_) | (refine zak _ aA rfl rfl aE aZ aL ?_)) | (refine zbm ?_; first | (refine zay _ aA rfl aL ?_) | (refine zax _ aA rfl rfl (by simp only [lx, Nat.reduceAdd]; first | done | rfl) ?_)) | (refine zbe ?_; first | (refine zau _ aA rfl rfl aO aA ?_) | (refine zav _ aA rfl rfl rfl rfl aO aO (by first | (rw [Nat.zero_add, Int.toNat_natCast]) | (rw [Nat.zero_add]) | rfl) ?_)) | (refine zbd ?_; first | (refine za9 aA rfl ?_) | (refine zbc aA rfl rfl ?_) | (refine zba aA rfl ?_) | (refine zbb aA (evO_ok rfl) ?_) | (refine zb4 _ _ aA rfl (lookM (by rfl)) rfl (lookM (by rfl)) rfl aN ⟨rfl, rfl, by decide, by decide⟩ (by first | rfl | omega | (simp; done) | (simp; omega) | fail) ⟨by first | (simp only [List.length_cons, List.length_nil]; omega) | omega | fail, by decide⟩ rfl (by first | (first | (simp only [lx, Nat.reduceAdd]; first | done | rfl) | fail) | rfl) aP ?_) | (refine zb3 _ _ aA rfl rfl (lookM (by rfl)) ⟨rfl, by decide⟩ aN (by first | exact Nat.succ_pos _ | omega | (simp; done)) ⟨by first | (simp only [List.length_cons, List.length_nil]; omega) | omega | fail, by decide⟩ rfl rfl aP ?_) | (refine zb5 _ aA rfl rfl (lookM (by rfl)) ⟨rfl, by decide⟩ aN ⟨by first | (simp only [List.length_cons, List.length_nil]; omega) | omega | fail, by decide⟩ rfl aP ?_) | (refine zb0 _ aA rfl rfl rfl ⟨rfl, rfl, rfl, by decide, by decide⟩ (by first | rfl | (simp; done) | fail) ⟨by omega, by decide⟩ rfl aL (by first | (rw [Nat.zero_add]) | rfl) ?_)) | (refine za7 aA rfl rfl rfl ?_) | (refine zbz _ _ rfl rfl rfl rfl ?_) | (refine zbo _ _ _ rfl rfl aE (by first | assumption | (exact TAgg.size aA)) rfl rfl rfl aZ rfl aL (by first | (first | (simp only [lx, Nat.reduceAdd]; first | done | rfl) | fail) | rfl) ?_) | (refine zcl aA aA rfl rfl rfl aO rfl ?_) | (refine zas (hK _ _ (.inl rfl) ?_); clear hK K) | (refine zas (hK _ _ (.inr (by kernel_rfl)) ?_); clear hK K))
      | (refine za3 ?_; first | (refine zbp ?_) | (refine zaj (fun K hK => ?_)) | (refine zan ?_) | (refine za4 ?_) | (refine zbq ?_) | (refine za1 ?_) | (refine zbg ?_; first | (refine zam rfl aD ?_) | (refine zal rfl aD ?_) | (refine zaz rfl (fun h => ?_) (fun h => ?_) <;> (have h' := h; (try simp only [sx] at h')))))
      | (refine za2 ?_) | (refine zai ?_) | (refine zae ?_) | (refine zaq ?_) | (refine zar ?_) | (refine zao ?_) | (refine zap rfl ?_) | (refine zab ?_) | (refine zag ?_) | (refine zbr ?_))
      all_goals try (exfalso; omega)
      all_goals (refine zcb (j + 1, fs.set y.toNat [.int .i64 (tv U y + 1)], U.set y.toNat (tv U y + 1)) rfl aW ⟨by simp only; omega, by simp only [ints_set, hfs], by simp [hU], fun c hc => ?_⟩ (by simp only; omega))
      all_goals
        simp only
        rw [tv_set2 _ aO c, take_succ hgy]
        have hcn : c.toNat = y.toNat ↔ c = y := by have h1 := hc.1; omega
        by_cases he : c = y
        · subst he
          rw [if_pos rfl, if_pos (by simp), hval, hv c hc]; omega
        · rw [if_neg (fun h => he (hcn.1 h)), hu c hc]
          congr 1
          have hmm : c ∈ B.take j ++ [y] ↔ c ∈ B.take j := by simp [he]
          by_cases hm : c ∈ B.take j
          · rw [if_pos hm, if_pos (hmm.2 hm)]
          · rw [if_neg hm, if_neg (fun h => hm (hmm.1 h))]
    · rw [take_all hge2] at hu
      repeat' (first
      | (refine za5 ?_; first | (refine za6 ?_; refine zat _ rfl ?_) | (refine zad ?_; refine zaa _ rfl ?_) | (refine zbv ?_; first | (refine zby rfl rfl aO ?_) | (refine zbu _ rfl rfl rfl ?_) | (refine zaw _ rfl rfl rfl ?_)) | (refine zbf ?_; first | (refine zac aA rfl ?_) | (refine zah _ aA rfl rfl aE rfl ?_) | (refine zaf _ aA rfl aZ aL ?_) | (refine zak _ aA rfl rfl aE aZ aL ?_)) | (refine zbm ?_; first | (refine zay _ aA rfl aL ?_) | (refine zax _ aA rfl rfl (by simp only [lx, Nat.reduceAdd]; first | done | rfl) ?_)) | (refine zbe ?_; first | (refine zau _ aA rfl rfl aO aA ?_) | (refine zav _ aA rfl rfl rfl rfl aO aO (by first | (rw [Nat.zero_add, Int.toNat_natCast]) | (rw [Nat.zero_add]) | rfl) ?_)) | (refine zbd ?_; first | (refine za9 aA rfl ?_) | (refine zbc aA rfl rfl ?_) | (refine zba aA rfl ?_) | (refine zbb aA (evO_ok rfl) ?_) | (refine zb4 _ _ aA rfl (lookM (by rfl)) rfl (lookM (by rfl)) rfl aN ⟨rfl, rfl, by decide, by decide⟩ (by first | rfl | omega | (simp; done) | (simp; omega) | fail) ⟨by first | (simp only [List.length_cons, List.length_nil]; omega) | omega | fail, by decide⟩ rfl (by first | (first | (simp only [lx, Nat.reduceAdd]; first | done | rfl) | fail) | rfl) aP ?_) | (refine zb3 _ _ aA rfl rfl (lookM (by rfl)) ⟨rfl, by decide⟩ aN (by first | exact Nat.succ_pos _ | omega | (simp; done)) ⟨by first | (simp only [List.length_cons, List.length_nil]; omega) | omega | fail, by decide⟩ rfl rfl aP ?_) | (refine zb5 _ aA rfl rfl (lookM (by rfl)) ⟨rfl, by decide⟩ aN ⟨by first | (simp only [List.length_cons, List.length_nil]; omega) | omega | fail, by decide⟩ rfl aP ?_) | (refine zb0 _ aA rfl rfl rfl ⟨rfl, rfl, rfl, by decide, by decide⟩ (by first | rfl | (simp; done) | fail) ⟨by omega, by decide⟩ rfl aL (by first | (rw [Nat.zero_add]) | rfl) ?_)) | (refine za7 aA rfl rfl rfl ?_) | (refine zbz _ _ rfl rfl rfl rfl ?_) | (refine zbo _ _ _ rfl rfl aE (by first | assumption | (exact TAgg.size aA)) rfl rfl rfl aZ rfl aL (by first | (first | (simp only [lx, Nat.reduceAdd]; first | done | rfl) | fail) | rfl) ?_) | (refine zcl aA aA rfl rfl rfl aO rfl ?_) | (refine zas (hK _ _ (.inl rfl) ?_); clear hK K) | (refine zas (hK _ _ (.inr (by kernel_rfl)) ?_); clear hK K))
      | (refine za3 ?_; first | (refine zbp ?_) | (refine zaj (fun K hK => ?_)) | (refine zan ?_) | (refine za4 ?_) | (refine zbq ?_) | (refine za1 ?_) | (refine zbg ?_; first | (refine zam rfl aD ?_) | (refine zal rfl aD ?_) | (refine zaz rfl (fun h => ?_) (fun h => ?_) <;> (have h' := h; (try simp only [sx] at h')))))
      | (refine za2 ?_) | (refine zai ?_) | (refine zae ?_) | (refine zaq ?_) | (refine zar ?_) | (refine zao ?_) | (refine zap rfl ?_) | (refine zab ?_) | (refine zag ?_) | (refine zbr ?_))
      all_goals try (exfalso; omega)
      all_goals (refine zcb (i + 1, fs, U) rfl aW ⟨by simp only; omega, hfs, hU, fun c hc => ?_⟩ (by simp only; omega))
      all_goals
        simp only
        rw [hu c hc, hv c hc, hsum c]
        congr 1
        unfold nIf
        rw [hcs c]
        by_cases hm : c ∈ B
        · rw [if_pos hm, decide_eq_true hm, if_pos rfl]
        · rw [if_neg hm, decide_eq_false hm, if_neg (by simp)]
  · have hin : i = e.L.length := by omega
    subst hin
    have hTl : T.length = e.t.burn.length := hT
    have hvc : ∀ c, IsCell e.t c → tv T c = cntE e k c := fun c hc => by rw [hv c hc, List.take_length]; rfl
    repeat' (first
      | (refine za5 ?_; first | (refine za6 ?_; refine zat _ rfl ?_) | (refine zad ?_; refine zaa _ rfl ?_) | (refine zbv ?_; first | (refine zby rfl rfl aO ?_) | (refine zbu _ rfl rfl rfl ?_) | (refine zaw _ rfl rfl rfl ?_)) | (refine zbf ?_; first | (refine zac aA rfl ?_) | (refine zah _ aA rfl rfl aE rfl ?_) | (refine zaf _ aA rfl aZ aL ?_) | (refine zak _ aA rfl rfl aE aZ aL ?_)) | (refine zbm ?_; first | (refine zay _ aA rfl aL ?_) | (refine zax _ aA rfl rfl (by simp only [lx, Nat.reduceAdd]; first | done | rfl) ?_)) | (refine zbe ?_; first | (refine zau _ aA rfl rfl aO aA ?_) | (refine zav _ aA rfl rfl rfl rfl aO aO (by first | (rw [Nat.zero_add, Int.toNat_natCast]) | (rw [Nat.zero_add]) | rfl) ?_)) | (refine zbd ?_; first | (refine za9 aA rfl ?_) | (refine zbc aA rfl rfl ?_) | (refine zba aA rfl ?_) | (refine zbb aA (evO_ok rfl) ?_) | (refine zb4 _ _ aA rfl (lookM (by rfl)) rfl (lookM (by rfl)) rfl aN ⟨rfl, rfl, by decide, by decide⟩ (by first | rfl | omega | (simp; done) | (simp; omega) | fail) ⟨by first | (simp only [List.length_cons, List.length_nil]; omega) | omega | fail, by decide⟩ rfl (by first | (first | (simp only [lx, Nat.reduceAdd]; first | done | rfl) | fail) | rfl) aP ?_) | (refine zb3 _ _ aA rfl rfl (lookM (by rfl)) ⟨rfl, by decide⟩ aN (by first | exact Nat.succ_pos _ | omega | (simp; done)) ⟨by first | (simp only [List.length_cons, List.length_nil]; omega) | omega | fail, by decide⟩ rfl rfl aP ?_) | (refine zb5 _ aA rfl rfl (lookM (by rfl)) ⟨rfl, by decide⟩ aN ⟨by first | (simp only [List.length_cons, List.length_nil]; omega) | omega | fail, by decide⟩ rfl aP ?_) | (refine zb0 _ aA rfl rfl rfl ⟨rfl, rfl, rfl, by decide, by decide⟩ (by first | rfl | (simp; done) | fail) ⟨by omega, by decide⟩ rfl aL (by first | (rw [Nat.zero_add]) | rfl) ?_)) | (refine za7 aA rfl rfl rfl ?_) | (refine zbz _ _ rfl rfl rfl rfl ?_) | (refine zbo _ _ _ rfl rfl aE (by first | assumption | (exact TAgg.size aA)) rfl rfl rfl aZ rfl aL (by first | (first | (simp only [lx, Nat.reduceAdd]; first | done | rfl) | fail) | rfl) ?_) | (refine zcl aA aA rfl rfl rfl aO rfl ?_) | (refine zas (hK _ _ (.inl rfl) ?_); clear hK K) | (refine zas (hK _ _ (.inr (by kernel_rfl)) ?_); clear hK K))
      | (refine za3 ?_; first | (refine zbp ?_) | (refine zaj (fun K hK => ?_)) | (refine zan ?_) | (refine za4 ?_) | (refine zbq ?_) | (refine za1 ?_) | (refine zbg ?_; first | (refine zam rfl aD ?_) | (refine zal rfl aD ?_) | (refine zaz rfl (fun h => ?_) (fun h => ?_) <;> (have h' := h; (try simp only [sx] at h')))))
      | (refine za2 ?_) | (refine zai ?_) | (refine zae ?_) | (refine zaq ?_) | (refine zar ?_) | (refine zao ?_) | (refine zap rfl ?_) | (refine zab ?_) | (refine zag ?_) | (refine zbr ?_))
    all_goals try (exfalso; omega)
    refine zcd [5, 13] [] (fun q : Nat × Nat × List (List PV) => [(18, .osl (1002, 0) 0 q.2.1), (19, .int .i64 q.1)]) (fun q : Nat × Nat × List (List PV) => [((1002, 0), some ⟨3, 1, q.2.2, false⟩)]) (fun q : Nat × Nat × List (List PV) => q.1 ≤ e.t.burn.length ∧ q.2.2 = ints (cellsL q.1 fun c => decide (cntE e k (c : Int) ≥ n)) ∧ q.2.2.length = q.2.1) (fun q : Nat × Nat × List (List PV) => e.t.burn.length - q.1) ((0, 0, [])) rfl rfl (fun _ => rfl) (fun _ => rfl) rfl aW ⟨by simp, by simp [cellsL], rfl⟩ (fun q hq => ?_)
    obtain ⟨j, m, fs⟩ := q
    obtain ⟨hj1, hj2, hl⟩ := hq
    simp only at hj1 hj2 hl
    have hle : fs.length ≤ j := by rw [hj2, ints_len]; exact cellsL_len j _
    dsimp only
    rcases Nat.lt_or_ge j e.t.burn.length with hlt2 | hge2
    · have hjc : IsCell e.t (j : Int) := ⟨by omega, by omega⟩
      have hxj : es[j]? = some [.int .i64 (tv T (j : Int))] := by rw [hes]; have := tv_int (T := T) (c := (j : Int)) (by rw [Int.toNat_natCast]; omega); rwa [Int.toNat_natCast] at this
      have hcj := hvc j hjc
      by_cases hgo : cntE e k (j : Int) ≥ n
      · have e2 := cellsL_t (n := j) (p := fun c => decide (cntE e k (c : Int) ≥ n)) (by simpa using hgo)
        rw [← hcj] at hgo
        repeat' (first
      | (refine za5 ?_; first | (refine za6 ?_; refine zat _ rfl ?_) | (refine zad ?_; refine zaa _ rfl ?_) | (refine zbv ?_; first | (refine zby rfl rfl aO ?_) | (refine zbu _ rfl rfl rfl ?_) | (refine zaw _ rfl rfl rfl ?_)) | (refine zbf ?_; first | (refine zac aA rfl ?_) | (refine zah _ aA rfl rfl aE rfl ?_) | (refine zaf _ aA rfl aZ aL ?_) | (refine zak _ aA rfl rfl aE aZ aL ?_)) | (refine zbm ?_; first | (refine zay _ aA rfl aL ?_) | (refine zax _ aA rfl rfl (by simp only [lx, Nat.reduceAdd]; first | done | rfl) ?_)) | (refine zbe ?_; first | (refine zau _ aA rfl rfl aO aA ?_) | (refine zav _ aA rfl rfl rfl rfl aO aO (by first | (rw [Nat.zero_add, Int.toNat_natCast]) | (rw [Nat.zero_add]) | rfl) ?_)) | (refine zbd ?_; first | (refine za9 aA rfl ?_) | (refine zbc aA rfl rfl ?_) | (refine zba aA rfl ?_) | (refine zbb aA (evO_ok rfl) ?_) | (refine zb4 _ _ aA rfl (lookM (by rfl)) rfl (lookM (by rfl)) rfl aN ⟨rfl, rfl, by decide, by decide⟩ (by first | rfl | omega | (simp; done) | (simp; omega) | fail) ⟨by first | (simp only [List.length_cons, List.length_nil]; omega) | omega | fail, by decide⟩ rfl (by first | (first | (simp only [lx, Nat.reduceAdd]; first | done | rfl) | fail) | rfl) aP ?_) | (refine zb3 _ _ aA rfl rfl (lookM (by rfl)) ⟨rfl, by decide⟩ aN (by first | exact Nat.succ_pos _ | omega | (simp; done)) ⟨by first | (simp only [List.length_cons, List.length_nil]; omega) | omega | fail, by decide⟩ rfl rfl aP ?_) | (refine zb5 _ aA rfl rfl (lookM (by rfl)) ⟨rfl, by decide⟩ aN ⟨by first | (simp only [List.length_cons, List.length_nil]; omega) | omega | fail, by decide⟩ rfl aP ?_) | (refine zb0 _ aA rfl rfl rfl ⟨rfl, rfl, rfl, by decide, by decide⟩ (by first | rfl | (simp; done) | fail) ⟨by omega, by decide⟩ rfl aL (by first | (rw [Nat.zero_add]) | rfl) ?_)) | (refine za7 aA rfl rfl rfl ?_) | (refine zbz _ _ rfl rfl rfl rfl ?_) | (refine zbo _ _ _ rfl rfl aE (by first | assumption | (exact TAgg.size aA)) rfl rfl rfl aZ rfl aL (by first | (first | (simp only [lx, Nat.reduceAdd]; first | done | rfl) | fail) | rfl) ?_) | (refine zcl aA aA rfl rfl rfl aO rfl ?_) | (refine zas (hK _ _ (.inl rfl) ?_); clear hK K) | (refine zas (hK _ _ (.inr (by kernel_rfl)) ?_); clear hK K))
      | (refine za3 ?_; first | (refine zbp ?_) | (refine zaj (fun K hK => ?_)) | (refine zan ?_) | (refine za4 ?_) | (refine zbq ?_) | (refine za1 ?_) | (refine zbg ?_; first | (refine zam rfl aD ?_) | (refine zal rfl aD ?_) | (refine zaz rfl (fun h => ?_) (fun h => ?_) <;> (have h' := h; (try simp only [sx] at h')))))
      | (refine za2 ?_) | (refine zai ?_) | (refine zae ?_) | (refine zaq ?_) | (refine zar ?_) | (refine zao ?_) | (refine zap rfl ?_) | (refine zab ?_) | (refine zag ?_) | (refine zbr ?_))
        all_goals first
          | (exfalso; omega)
          | (refine zcb (j + 1, m + 1, fs ++ [[.int .i64 j]]) rfl aW ⟨by simp only; omega, by simp only [e2, ints_snoc, hj2], by simp [hl]⟩ (by simp only; omega))
      · have e2 := cellsL_f (n := j) (p := fun c => decide (cntE e k (c : Int) ≥ n)) (by simpa using hgo)
        rw [← hcj] at hgo
        repeat' (first
      | (refine za5 ?_; first | (refine za6 ?_; refine zat _ rfl ?_) | (refine zad ?_; refine zaa _ rfl ?_) | (refine zbv ?_; first | (refine zby rfl rfl aO ?_) | (refine zbu _ rfl rfl rfl ?_) | (refine zaw _ rfl rfl rfl ?_)) | (refine zbf ?_; first | (refine zac aA rfl ?_) | (refine zah _ aA rfl rfl aE rfl ?_) | (refine zaf _ aA rfl aZ aL ?_) | (refine zak _ aA rfl rfl aE aZ aL ?_)) | (refine zbm ?_; first | (refine zay _ aA rfl aL ?_) | (refine zax _ aA rfl rfl (by simp only [lx, Nat.reduceAdd]; first | done | rfl) ?_)) | (refine zbe ?_; first | (refine zau _ aA rfl rfl aO aA ?_) | (refine zav _ aA rfl rfl rfl rfl aO aO (by first | (rw [Nat.zero_add, Int.toNat_natCast]) | (rw [Nat.zero_add]) | rfl) ?_)) | (refine zbd ?_; first | (refine za9 aA rfl ?_) | (refine zbc aA rfl rfl ?_) | (refine zba aA rfl ?_) | (refine zbb aA (evO_ok rfl) ?_) | (refine zb4 _ _ aA rfl (lookM (by rfl)) rfl (lookM (by rfl)) rfl aN ⟨rfl, rfl, by decide, by decide⟩ (by first | rfl | omega | (simp; done) | (simp; omega) | fail) ⟨by first | (simp only [List.length_cons, List.length_nil]; omega) | omega | fail, by decide⟩ rfl (by first | (first | (simp only [lx, Nat.reduceAdd]; first | done | rfl) | fail) | rfl) aP ?_) | (refine zb3 _ _ aA rfl rfl (lookM (by rfl)) ⟨rfl, by decide⟩ aN (by first | exact Nat.succ_pos _ | omega | (simp; done)) ⟨by first | (simp only [List.length_cons, List.length_nil]; omega) | omega | fail, by decide⟩ rfl rfl aP ?_) | (refine zb5 _ aA rfl rfl (lookM (by rfl)) ⟨rfl, by decide⟩ aN ⟨by first | (simp only [List.length_cons, List.length_nil]; omega) | omega | fail, by decide⟩ rfl aP ?_) | (refine zb0 _ aA rfl rfl rfl ⟨rfl, rfl, rfl, by decide, by decide⟩ (by first | rfl | (simp; done) | fail) ⟨by omega, by decide⟩ rfl aL (by first | (rw [Nat.zero_add]) | rfl) ?_)) | (refine za7 aA rfl rfl rfl ?_) | (refine zbz _ _ rfl rfl rfl rfl ?_) | (refine zbo _ _ _ rfl rfl aE (by first | assumption | (exact TAgg.size aA)) rfl rfl rfl aZ rfl aL (by first | (first | (simp only [lx, Nat.reduceAdd]; first | done | rfl) | fail) | rfl) ?_) | (refine zcl aA aA rfl rfl rfl aO rfl ?_) | (refine zas (hK _ _ (.inl rfl) ?_); clear hK K) | (refine zas (hK _ _ (.inr (by kernel_rfl)) ?_); clear hK K))
      | (refine za3 ?_; first | (refine zbp ?_) | (refine zaj (fun K hK => ?_)) | (refine zan ?_) | (refine za4 ?_) | (refine zbq ?_) | (refine za1 ?_) | (refine zbg ?_; first | (refine zam rfl aD ?_) | (refine zal rfl aD ?_) | (refine zaz rfl (fun h => ?_) (fun h => ?_) <;> (have h' := h; (try simp only [sx] at h')))))
      | (refine za2 ?_) | (refine zai ?_) | (refine zae ?_) | (refine zaq ?_) | (refine zar ?_) | (refine zao ?_) | (refine zap rfl ?_) | (refine zab ?_) | (refine zag ?_) | (refine zbr ?_))
        all_goals first
          | (exfalso; omega)
          | (refine zcb (j + 1, m, fs) rfl aW ⟨by simp only; omega, by simp only [e2, hj2], hl⟩ (by simp only; omega))
    · have hjn : j = e.t.burn.length := by omega
      subst hjn
      repeat' (first
      | (refine za5 ?_; first | (refine za6 ?_; refine zat _ rfl ?_) | (refine zad ?_; refine zaa _ rfl ?_) | (refine zbv ?_; first | (refine zby rfl rfl aO ?_) | (refine zbu _ rfl rfl rfl ?_) | (refine zaw _ rfl rfl rfl ?_)) | (refine zbf ?_; first | (refine zac aA rfl ?_) | (refine zah _ aA rfl rfl aE rfl ?_) | (refine zaf _ aA rfl aZ aL ?_) | (refine zak _ aA rfl rfl aE aZ aL ?_)) | (refine zbm ?_; first | (refine zay _ aA rfl aL ?_) | (refine zax _ aA rfl rfl (by simp only [lx, Nat.reduceAdd]; first | done | rfl) ?_)) | (refine zbe ?_; first | (refine zau _ aA rfl rfl aO aA ?_) | (refine zav _ aA rfl rfl rfl rfl aO aO (by first | (rw [Nat.zero_add, Int.toNat_natCast]) | (rw [Nat.zero_add]) | rfl) ?_)) | (refine zbd ?_; first | (refine za9 aA rfl ?_) | (refine zbc aA rfl rfl ?_) | (refine zba aA rfl ?_) | (refine zbb aA (evO_ok rfl) ?_) | (refine zb4 _ _ aA rfl (lookM (by rfl)) rfl (lookM (by rfl)) rfl aN ⟨rfl, rfl, by decide, by decide⟩ (by first | rfl | omega | (simp; done) | (simp; omega) | fail) ⟨by first | (simp only [List.length_cons, List.length_nil]; omega) | omega | fail, by decide⟩ rfl (by first | (first | (simp only [lx, Nat.reduceAdd]; first | done | rfl) | fail) | rfl) aP ?_) | (refine zb3 _ _ aA rfl rfl (lookM (by rfl)) ⟨rfl, by decide⟩ aN (by first | exact Nat.succ_pos _ | omega | (simp; done)) ⟨by first | (simp only [List.length_cons, List.length_nil]; omega) | omega | fail, by decide⟩ rfl rfl aP ?_) | (refine zb5 _ aA rfl rfl (lookM (by rfl)) ⟨rfl, by decide⟩ aN ⟨by first | (simp only [List.length_cons, List.length_nil]; omega) | omega | fail, by decide⟩ rfl aP ?_) | (refine zb0 _ aA rfl rfl rfl ⟨rfl, rfl, rfl, by decide, by decide⟩ (by first | rfl | (simp; done) | fail) ⟨by omega, by decide⟩ rfl aL (by first | (rw [Nat.zero_add]) | rfl) ?_)) | (refine za7 aA rfl rfl rfl ?_) | (refine zbz _ _ rfl rfl rfl rfl ?_) | (refine zbo _ _ _ rfl rfl aE (by first | assumption | (exact TAgg.size aA)) rfl rfl rfl aZ rfl aL (by first | (first | (simp only [lx, Nat.reduceAdd]; first | done | rfl) | fail) | rfl) ?_) | (refine zcl aA aA rfl rfl rfl aO rfl ?_) | (refine zas (hK _ _ (.inl rfl) ?_); clear hK K) | (refine zas (hK _ _ (.inr (by kernel_rfl)) ?_); clear hK K))
      | (refine za3 ?_; first | (refine zbp ?_) | (refine zaj (fun K hK => ?_)) | (refine zan ?_) | (refine za4 ?_) | (refine zbq ?_) | (refine za1 ?_) | (refine zbg ?_; first | (refine zam rfl aD ?_) | (refine zal rfl aD ?_) | (refine zaz rfl (fun h => ?_) (fun h => ?_) <;> (have h' := h; (try simp only [sx] at h')))))
      | (refine za2 ?_) | (refine zai ?_) | (refine zae ?_) | (refine zaq ?_) | (refine zar ?_) | (refine zao ?_) | (refine zap rfl ?_) | (refine zab ?_) | (refine zag ?_) | (refine zbr ?_))
      all_goals first
        | (exfalso; omega)
        | exact zcn rfl (zbn (by rfl)) (by rfl) (by decide) hl.symm (by rw [hj2]; exact ints_flat _) hj2
noncomputable def suR (e : Ens) (k : Int) : List Int := if opB (EkOk e k) = true then sureL e k else []
theorem suR_t {e : Ens} {k : Int} (h : EkOk e k) : suR e k = sureL e k := by unfold suR; rw [opB_t h, if_pos rfl]
theorem suR_f {e : Ens} {k : Int} (h : ¬ EkOk e k) : suR e k = [] := by unfold suR; rw [opB_f h, if_neg (by simp)]
theorem suR_len (e : Ens) (k : Int) : (suR e k).length ≤ e.t.burn.length := by
  unfold suR
  split
  · exact cellsL_len _ _
  · simp
theorem k_sure1 (T : List Int) (L : List Scen) (c : Nat) (hc : c < T.length) : Con Try.prog 113 [.int .i64 (c : Int), .ptr [.list 1 (ints T)], .ptr [.list 2 (L.map Scen.pv)]] (.bool (decide (tv T (c : Int) = L.length))) := by
  intro al
  refine za8 hmix Try.func113 rfl (by kernel_rfl) (by kernel_rfl) (Nat.le_of_ble_eq_true rfl) (fun row h => by cases h) ?_
  have hty_c24 := ty_c24
  have hty_s24 := ty_s24
  have hty_c3 := ty_c3
  have hty_c51 := ty_c51
  have hty_u51 := ty_u51
  have hty_s51 := ty_s51
  have hx := tv_int (T := T) (c := (c : Int)) (by simpa using hc)
  have hl : (ints T).length = T.length := by simp
  have hl1 : (L.map Scen.pv).length = L.length := by simp
  repeat' (first
      | (refine za5 ?_; first | (refine za6 ?_; refine zat _ rfl ?_) | (refine zad ?_; refine zaa _ rfl ?_) | (refine zbv ?_; first | (refine zbu _ rfl rfl rfl ?_) | (refine zbt aA rfl rfl ?_) | (refine zaw _ rfl rfl rfl ?_)) | (refine zbf ?_; first | (refine zac aA rfl ?_) | (refine zah _ aA rfl rfl aE rfl ?_) | (refine zaf _ aA rfl aZ aL ?_) | (refine zak _ aA rfl rfl aE aZ aL ?_)) | (refine zbe ?_; first | (refine zau _ aA rfl rfl aO aA ?_) | (refine zav _ aA rfl rfl rfl rfl aO aO (by first | (rw [Nat.zero_add, Int.toNat_natCast]) | (rw [Nat.zero_add]) | rfl) ?_)) | (refine zbd ?_; first | (refine za9 aA rfl ?_) | (refine zbc aA rfl rfl ?_) | (refine zba aA rfl ?_) | (refine zbb aA (evO_ok rfl) ?_)) | (refine zas (hK _ _ (.inl rfl) ?_); clear hK K) | (refine zas (hK _ _ (.inr (by kernel_rfl)) ?_); clear hK K))
      | (refine za3 ?_; first | (refine zbp ?_) | (refine zaj (fun K hK => ?_)) | (refine zan ?_) | (refine za4 ?_) | (refine zbq ?_) | (refine za1 ?_))
      | (refine za2 ?_) | (refine zai ?_) | (refine zae ?_) | (refine zaq ?_) | (refine zar ?_) | (refine zao ?_) | (refine zap rfl ?_) | (refine zab ?_) | (refine zag ?_) | (refine zbr ?_))
  all_goals first
    | (exfalso; omega)
    | exact zb1 rfl (zbn rfl) (by rw [Bool.eq_iff_iff]; simp)
theorem sure_eq {e : Ens} (k : Int) : (cellsL e.t.burn.length fun c => decide (tv (cntT e k e.L.length) (c : Int) = e.L.length)) = sureL e k := by
  unfold sureL
  refine cellsL_congr fun i hi => ?_
  rw [cntT_tv ⟨by omega, by omega⟩, List.take_length]
  rfl
theorem sure_ge {e : Ens} (k : Int) : (cellsL e.t.burn.length fun c => decide (cntE e k (c : Int) ≥ ((e.L.map Scen.pv).length : Int))) = sureL e k := by
  unfold sureL
  refine cellsL_congr fun i hi => ?_
  have := cnt_bnd e k i e.L.length
  rw [List.take_length] at this
  have hl1 : (e.L.map Scen.pv).length = e.L.length := by simp
  rw [Bool.eq_iff_iff, decide_eq_true_eq, decide_eq_true_eq, hl1]
  unfold cntE
  omega
theorem k_iSureCells (e : Ens) (z : SzE e) (k : Int) : Con Try.prog 52 [.agg e.t.pv, .list 2 (e.L.map Scen.pv), .list 1 (ints e.src), .int .i64 e.st, .int .i64 k] (.tuple [.olist 3 1 (ints (suR e k)), .bool (opB (EkOk e k))]) := by
  intro al
  refine za8 hmix Try.func52 rfl (by kernel_rfl) (by kernel_rfl) (Nat.le_of_ble_eq_true rfl) (fun row h => by cases h) ?_
  have hty_a26 := ty_a26
  have hty_c51 := ty_c51
  have hty_u51 := ty_u51
  have hty_s51 := ty_s51
  have hty_u24 := ty_u24
  have hty_s24 := ty_s24
  have hty_z24 := ty_z24
  have hty_t24 := ty_t24
  have hl1 : (e.L.map Scen.pv).length = e.L.length := by simp
  have hzn := z.hn
  have hzL := z.hL
  have k1 := k_isBlaze e z
  have k2 := k_isTick k
  by_cases hE : GoodEn e
  · rw [decide_eq_true hE] at k1
    by_cases hk : 0 ≤ k ∧ k ≤ 9999
    · have hok : EkOk e k := ⟨hE, hk⟩
      rw [suR_t hok, opB_t hok]
      have kB := k_burnedIn e z k hE
      have kC := k_cellsThat e.t 113 [[.list 1 (ints (cntT e k e.L.length))], [.list 2 (e.L.map Scen.pv)]] (fun c => decide (tv (cntT e k e.L.length) (c : Int) = e.L.length)) (fun c hc => k_sure1 (cntT e k e.L.length) e.L c (by rw [cntT_len]; exact hc)) aO
      rw [sure_eq k] at kC
      generalize cntT e k e.L.length = T at *
      repeat' (first
      | (refine za5 ?_; first | (refine za6 ?_; refine zat _ rfl ?_) | (refine zad ?_; refine zaa _ rfl ?_) | (refine g_un ?_; first | (refine zce rfl ?_) | (refine zcf rfl aO ?_)) | (refine zbf ?_; first | (refine zac aA rfl ?_) | (refine zah _ aA rfl rfl aE rfl ?_) | (refine zaf _ aA rfl aZ aL ?_) | (refine zak _ aA rfl rfl aE aZ aL ?_)) | (refine zbw ?_; first | (refine zbl rfl aD rfl ?_) | (refine zbi rfl aD ?_) | (refine zbj rfl aD ?_) | (refine zbk rfl aD rfl ?_)) | (refine zbs ?_; first | (refine zbx rfl rfl aD ?_) | (refine zb8 rfl rfl aD ?_) | (refine zb7 rfl rfl ?_) | (refine zbh rfl rfl (fun h => ?_) (fun h => ?_) <;> (have h' := h; (try simp only [sx] at h')))) | (refine zbd ?_; first | (refine za0 true (k1) rfl rfl rfl aS rfl aH ?_; simp only [cl]) | (refine za0 true (k2) rfl rfl rfl aS rfl aH ?_; simp only [cl]) | (refine za0 true (kB) rfl rfl rfl aS rfl aH ?_; simp only [cl]) | (refine za0 true (kC) rfl rfl rfl aS rfl aH ?_; simp only [cl])) | (refine zbz _ _ rfl rfl rfl rfl ?_) | (refine zcc _ aA rfl ?_) | (refine zb2 aA rfl ?_) | (refine zch _ _ rfl rfl ?_) | (refine zbo _ _ _ rfl rfl aE (by first | assumption | (exact TAgg.size aA)) rfl rfl rfl aZ rfl aL (by first | (first | (simp only [lx, Nat.reduceAdd]; first | done | rfl) | fail) | rfl) ?_) | (refine zas (hK _ _ (.inl rfl) ?_); clear hK K) | (refine zas (hK _ _ (.inr (by kernel_rfl)) ?_); clear hK K))
      | (refine za3 ?_; first | (refine zbp ?_) | (refine zaj (fun K hK => ?_)) | (refine zan ?_) | (refine za4 ?_) | (refine zbq ?_) | (refine za1 ?_) | (refine zbg ?_; first | (refine zam rfl aD ?_) | (refine zal rfl aD ?_) | (refine zaz rfl (fun h => ?_) (fun h => ?_) <;> (have h' := h; (try simp only [sx] at h')))))
      | (refine za2 ?_) | (refine zai ?_) | (refine zae ?_) | (refine zaq ?_) | (refine zar ?_) | (refine zao ?_) | (refine zap rfl ?_) | (refine zab ?_) | (refine zag ?_) | (refine zbr ?_))
      all_goals first
        | (exfalso; omega)
        | (exfalso; simp at *; done)
        | exact aR
    · have hok : ¬ EkOk e k := fun h => hk h.2
      rw [suR_f hok, opB_f hok]
      repeat' (first
      | (refine za5 ?_; first | (refine za6 ?_; refine zat _ rfl ?_) | (refine zad ?_; refine zaa _ rfl ?_) | (refine g_un ?_; first | (refine zce rfl ?_) | (refine zcf rfl aO ?_)) | (refine zbf ?_; first | (refine zac aA rfl ?_) | (refine zah _ aA rfl rfl aE rfl ?_) | (refine zaf _ aA rfl aZ aL ?_) | (refine zak _ aA rfl rfl aE aZ aL ?_)) | (refine zbw ?_; first | (refine zbl rfl aD rfl ?_) | (refine zbi rfl aD ?_) | (refine zbj rfl aD ?_) | (refine zbk rfl aD rfl ?_)) | (refine zbs ?_; first | (refine zbx rfl rfl aD ?_) | (refine zb8 rfl rfl aD ?_) | (refine zb7 rfl rfl ?_) | (refine zbh rfl rfl (fun h => ?_) (fun h => ?_) <;> (have h' := h; (try simp only [sx] at h')))) | (refine zbd ?_; first | (refine za0 true (k1) rfl rfl rfl aS rfl aH ?_; simp only [cl]) | (refine za0 true (k2) rfl rfl rfl aS rfl aH ?_; simp only [cl])) | (refine zbz _ _ rfl rfl rfl rfl ?_) | (refine zcc _ aA rfl ?_) | (refine zb2 aA rfl ?_) | (refine zch _ _ rfl rfl ?_) | (refine zbo _ _ _ rfl rfl aE (by first | assumption | (exact TAgg.size aA)) rfl rfl rfl aZ rfl aL (by first | (first | (simp only [lx, Nat.reduceAdd]; first | done | rfl) | fail) | rfl) ?_) | (refine zas (hK _ _ (.inl rfl) ?_); clear hK K) | (refine zas (hK _ _ (.inr (by kernel_rfl)) ?_); clear hK K))
      | (refine za3 ?_; first | (refine zbp ?_) | (refine zaj (fun K hK => ?_)) | (refine zan ?_) | (refine za4 ?_) | (refine zbq ?_) | (refine za1 ?_) | (refine zbg ?_; first | (refine zam rfl aD ?_) | (refine zal rfl aD ?_) | (refine zaz rfl (fun h => ?_) (fun h => ?_) <;> (have h' := h; (try simp only [sx] at h')))))
      | (refine za2 ?_) | (refine zai ?_) | (refine zae ?_) | (refine zaq ?_) | (refine zar ?_) | (refine zao ?_) | (refine zap rfl ?_) | (refine zab ?_) | (refine zag ?_) | (refine zbr ?_))
      all_goals first
        | (exfalso; omega)
        | (exfalso; simp at *; done)
        | exact aR
  · rw [decide_eq_false hE] at k1
    have hok : ¬ EkOk e k := fun h => hE h.1
    rw [suR_f hok, opB_f hok]
    repeat' (first
      | (refine za5 ?_; first | (refine za6 ?_; refine zat _ rfl ?_) | (refine zad ?_; refine zaa _ rfl ?_) | (refine g_un ?_; first | (refine zce rfl ?_) | (refine zcf rfl aO ?_)) | (refine zbf ?_; first | (refine zac aA rfl ?_) | (refine zah _ aA rfl rfl aE rfl ?_) | (refine zaf _ aA rfl aZ aL ?_) | (refine zak _ aA rfl rfl aE aZ aL ?_)) | (refine zbw ?_; first | (refine zbl rfl aD rfl ?_) | (refine zbi rfl aD ?_) | (refine zbj rfl aD ?_) | (refine zbk rfl aD rfl ?_)) | (refine zbs ?_; first | (refine zbx rfl rfl aD ?_) | (refine zb8 rfl rfl aD ?_) | (refine zb7 rfl rfl ?_) | (refine zbh rfl rfl (fun h => ?_) (fun h => ?_) <;> (have h' := h; (try simp only [sx] at h')))) | (refine zbd ?_; first | (refine za0 true (k1) rfl rfl rfl aS rfl aH ?_; simp only [cl]) | (refine za0 true (k2) rfl rfl rfl aS rfl aH ?_; simp only [cl])) | (refine zbz _ _ rfl rfl rfl rfl ?_) | (refine zcc _ aA rfl ?_) | (refine zb2 aA rfl ?_) | (refine zch _ _ rfl rfl ?_) | (refine zbo _ _ _ rfl rfl aE (by first | assumption | (exact TAgg.size aA)) rfl rfl rfl aZ rfl aL (by first | (first | (simp only [lx, Nat.reduceAdd]; first | done | rfl) | fail) | rfl) ?_) | (refine zas (hK _ _ (.inl rfl) ?_); clear hK K) | (refine zas (hK _ _ (.inr (by kernel_rfl)) ?_); clear hK K))
      | (refine za3 ?_; first | (refine zbp ?_) | (refine zaj (fun K hK => ?_)) | (refine zan ?_) | (refine za4 ?_) | (refine zbq ?_) | (refine za1 ?_) | (refine zbg ?_; first | (refine zam rfl aD ?_) | (refine zal rfl aD ?_) | (refine zaz rfl (fun h => ?_) (fun h => ?_) <;> (have h' := h; (try simp only [sx] at h')))))
      | (refine za2 ?_) | (refine zai ?_) | (refine zae ?_) | (refine zaq ?_) | (refine zar ?_) | (refine zao ?_) | (refine zap rfl ?_) | (refine zab ?_) | (refine zag ?_) | (refine zbr ?_))
    all_goals first
      | (exfalso; omega)
      | (exfalso; simp at *; done)
      | exact aR
theorem k_sSureCells (e : Ens) (z : SzE e) (k : Int) : Con Try.prog 54 [.agg e.t.pv, .list 2 (e.L.map Scen.pv), .list 1 (ints e.src), .int .i64 e.st, .int .i64 k] (.tuple [.olist 3 1 (ints (suR e k)), .bool (opB (EkOk e k))]) := by
  intro al
  refine za8 hmix Try.func54 rfl (by kernel_rfl) (by kernel_rfl) (Nat.le_of_ble_eq_true rfl) (fun row h => by cases h) ?_
  have hty_a26 := ty_a26
  have hty_u51 := ty_u51
  have hty_s51 := ty_s51
  have hty_u24 := ty_u24
  have hty_s24 := ty_s24
  have hl1 : (e.L.map Scen.pv).length = e.L.length := by simp
  have hzn := z.hn
  have hzL := z.hL
  have k1 := k_l8Asked e z
  have k2 := k_l4Tick k
  by_cases hE : GoodEn e
  · rw [decide_eq_true hE] at k1
    by_cases hk : 0 ≤ k ∧ k ≤ 9999
    · have hok : EkOk e k := ⟨hE, hk⟩
      rw [suR_t hok, opB_t hok]
      have kC := k_l8Cells e z k ((e.L.map Scen.pv).length : Int) hE
      rw [sure_ge k] at kC
      repeat' (first
      | (refine za5 ?_; first | (refine za6 ?_; refine zat _ rfl ?_) | (refine zad ?_; refine zaa _ rfl ?_) | (refine g_un ?_; first | (refine zce rfl ?_) | (refine zcf rfl aO ?_)) | (refine zbf ?_; first | (refine zac aA rfl ?_) | (refine zah _ aA rfl rfl aE rfl ?_) | (refine zaf _ aA rfl aZ aL ?_) | (refine zak _ aA rfl rfl aE aZ aL ?_)) | (refine zbw ?_; first | (refine zbl rfl aD rfl ?_) | (refine zbi rfl aD ?_) | (refine zbj rfl aD ?_) | (refine zbk rfl aD rfl ?_)) | (refine zbs ?_; first | (refine zbx rfl rfl aD ?_) | (refine zb8 rfl rfl aD ?_) | (refine zb7 rfl rfl ?_) | (refine zbh rfl rfl (fun h => ?_) (fun h => ?_) <;> (have h' := h; (try simp only [sx] at h')))) | (refine zbd ?_; first | (refine za0 true (k1) rfl rfl rfl aS rfl aH ?_; simp only [cl]) | (refine za0 true (k2) rfl rfl rfl aS rfl aH ?_; simp only [cl]) | (refine za0 true (kC) rfl rfl rfl aS rfl aH ?_; simp only [cl]) | (refine za9 aA rfl ?_) | (refine zbc aA rfl rfl ?_) | (refine zba aA rfl ?_) | (refine zbb aA (evO_ok rfl) ?_)) | (refine za7 aA rfl rfl rfl ?_) | (refine zbz _ _ rfl rfl rfl rfl ?_) | (refine zas (hK _ _ (.inl rfl) ?_); clear hK K) | (refine zas (hK _ _ (.inr (by kernel_rfl)) ?_); clear hK K))
      | (refine za3 ?_; first | (refine zbp ?_) | (refine zaj (fun K hK => ?_)) | (refine zan ?_) | (refine za4 ?_) | (refine zbq ?_) | (refine za1 ?_) | (refine zbg ?_; first | (refine zam rfl aD ?_) | (refine zal rfl aD ?_) | (refine zaz rfl (fun h => ?_) (fun h => ?_) <;> (have h' := h; (try simp only [sx] at h')))))
      | (refine za2 ?_) | (refine zai ?_) | (refine zae ?_) | (refine zaq ?_) | (refine zar ?_) | (refine zao ?_) | (refine zap rfl ?_) | (refine zab ?_) | (refine zag ?_) | (refine zbr ?_))
      all_goals first
        | (exfalso; omega)
        | (exfalso; simp at *; done)
        | exact aR
    · have hok : ¬ EkOk e k := fun h => hk h.2
      rw [suR_f hok, opB_f hok]
      repeat' (first
      | (refine za5 ?_; first | (refine za6 ?_; refine zat _ rfl ?_) | (refine zad ?_; refine zaa _ rfl ?_) | (refine g_un ?_; first | (refine zce rfl ?_) | (refine zcf rfl aO ?_)) | (refine zbf ?_; first | (refine zac aA rfl ?_) | (refine zah _ aA rfl rfl aE rfl ?_) | (refine zaf _ aA rfl aZ aL ?_) | (refine zak _ aA rfl rfl aE aZ aL ?_)) | (refine zbw ?_; first | (refine zbl rfl aD rfl ?_) | (refine zbi rfl aD ?_) | (refine zbj rfl aD ?_) | (refine zbk rfl aD rfl ?_)) | (refine zbs ?_; first | (refine zbx rfl rfl aD ?_) | (refine zb8 rfl rfl aD ?_) | (refine zb7 rfl rfl ?_) | (refine zbh rfl rfl (fun h => ?_) (fun h => ?_) <;> (have h' := h; (try simp only [sx] at h')))) | (refine zbd ?_; first | (refine za0 true (k1) rfl rfl rfl aS rfl aH ?_; simp only [cl]) | (refine za0 true (k2) rfl rfl rfl aS rfl aH ?_; simp only [cl]) | (refine za9 aA rfl ?_) | (refine zbc aA rfl rfl ?_) | (refine zba aA rfl ?_) | (refine zbb aA (evO_ok rfl) ?_)) | (refine za7 aA rfl rfl rfl ?_) | (refine zbz _ _ rfl rfl rfl rfl ?_) | (refine zas (hK _ _ (.inl rfl) ?_); clear hK K) | (refine zas (hK _ _ (.inr (by kernel_rfl)) ?_); clear hK K))
      | (refine za3 ?_; first | (refine zbp ?_) | (refine zaj (fun K hK => ?_)) | (refine zan ?_) | (refine za4 ?_) | (refine zbq ?_) | (refine za1 ?_) | (refine zbg ?_; first | (refine zam rfl aD ?_) | (refine zal rfl aD ?_) | (refine zaz rfl (fun h => ?_) (fun h => ?_) <;> (have h' := h; (try simp only [sx] at h')))))
      | (refine za2 ?_) | (refine zai ?_) | (refine zae ?_) | (refine zaq ?_) | (refine zar ?_) | (refine zao ?_) | (refine zap rfl ?_) | (refine zab ?_) | (refine zag ?_) | (refine zbr ?_))
      all_goals first
        | (exfalso; omega)
        | (exfalso; simp at *; done)
        | exact aR
  · rw [decide_eq_false hE] at k1
    have hok : ¬ EkOk e k := fun h => hE h.1
    rw [suR_f hok, opB_f hok]
    repeat' (first
      | (refine za5 ?_; first | (refine za6 ?_; refine zat _ rfl ?_) | (refine zad ?_; refine zaa _ rfl ?_) | (refine g_un ?_; first | (refine zce rfl ?_) | (refine zcf rfl aO ?_)) | (refine zbf ?_; first | (refine zac aA rfl ?_) | (refine zah _ aA rfl rfl aE rfl ?_) | (refine zaf _ aA rfl aZ aL ?_) | (refine zak _ aA rfl rfl aE aZ aL ?_)) | (refine zbw ?_; first | (refine zbl rfl aD rfl ?_) | (refine zbi rfl aD ?_) | (refine zbj rfl aD ?_) | (refine zbk rfl aD rfl ?_)) | (refine zbs ?_; first | (refine zbx rfl rfl aD ?_) | (refine zb8 rfl rfl aD ?_) | (refine zb7 rfl rfl ?_) | (refine zbh rfl rfl (fun h => ?_) (fun h => ?_) <;> (have h' := h; (try simp only [sx] at h')))) | (refine zbd ?_; first | (refine za0 true (k1) rfl rfl rfl aS rfl aH ?_; simp only [cl]) | (refine za0 true (k2) rfl rfl rfl aS rfl aH ?_; simp only [cl]) | (refine za9 aA rfl ?_) | (refine zbc aA rfl rfl ?_) | (refine zba aA rfl ?_) | (refine zbb aA (evO_ok rfl) ?_)) | (refine za7 aA rfl rfl rfl ?_) | (refine zbz _ _ rfl rfl rfl rfl ?_) | (refine zas (hK _ _ (.inl rfl) ?_); clear hK K) | (refine zas (hK _ _ (.inr (by kernel_rfl)) ?_); clear hK K))
      | (refine za3 ?_; first | (refine zbp ?_) | (refine zaj (fun K hK => ?_)) | (refine zan ?_) | (refine za4 ?_) | (refine zbq ?_) | (refine za1 ?_) | (refine zbg ?_; first | (refine zam rfl aD ?_) | (refine zal rfl aD ?_) | (refine zaz rfl (fun h => ?_) (fun h => ?_) <;> (have h' := h; (try simp only [sx] at h')))))
      | (refine za2 ?_) | (refine zai ?_) | (refine zae ?_) | (refine zaq ?_) | (refine zar ?_) | (refine zao ?_) | (refine zap rfl ?_) | (refine zab ?_) | (refine zag ?_) | (refine zbr ?_))
    all_goals first
      | (exfalso; omega)
      | (exfalso; simp at *; done)
      | exact aR
noncomputable def maR (e : Ens) (k : Int) : List Int := if opB (EkOk e k) = true then mayL e k else []
theorem maR_t {e : Ens} {k : Int} (h : EkOk e k) : maR e k = mayL e k := by unfold maR; rw [opB_t h, if_pos rfl]
theorem maR_f {e : Ens} {k : Int} (h : ¬ EkOk e k) : maR e k = [] := by unfold maR; rw [opB_f h, if_neg (by simp)]
theorem maR_len (e : Ens) (k : Int) : (maR e k).length ≤ e.t.burn.length := by
  unfold maR
  split
  · exact cellsL_len _ _
  · simp
theorem k_may1 (T : List Int) (c : Nat) (hc : c < T.length) : Con Try.prog 114 [.int .i64 (c : Int), .ptr [.list 1 (ints T)]] (.bool (decide (0 < tv T (c : Int)))) := by
  intro al
  refine za8 hmix Try.func114 rfl (by kernel_rfl) (by kernel_rfl) (Nat.le_of_ble_eq_true rfl) (fun row h => by cases h) ?_
  have hty_c24 := ty_c24
  have hty_s24 := ty_s24
  have hty_c3 := ty_c3
  have hx := tv_int (T := T) (c := (c : Int)) (by simpa using hc)
  have hl : (ints T).length = T.length := by simp
  repeat' (first
      | (refine za5 ?_; first | (refine za6 ?_; refine zat _ rfl ?_) | (refine zad ?_; refine zaa _ rfl ?_) | (refine zbv ?_; refine zbu _ rfl rfl rfl ?_) | (refine zbf ?_; first | (refine zac aA rfl ?_) | (refine zah _ aA rfl rfl aE rfl ?_) | (refine zaf _ aA rfl aZ aL ?_) | (refine zak _ aA rfl rfl aE aZ aL ?_)) | (refine zbe ?_; first | (refine zau _ aA rfl rfl aO aA ?_) | (refine zav _ aA rfl rfl rfl rfl aO aO (by first | (rw [Nat.zero_add, Int.toNat_natCast]) | (rw [Nat.zero_add]) | rfl) ?_)) | (refine zas (hK _ _ (.inl rfl) ?_); clear hK K) | (refine zas (hK _ _ (.inr (by kernel_rfl)) ?_); clear hK K))
      | (refine za3 ?_; first | (refine zbp ?_) | (refine zaj (fun K hK => ?_)) | (refine zan ?_) | (refine za4 ?_) | (refine zbq ?_) | (refine za1 ?_))
      | (refine za2 ?_) | (refine zai ?_) | (refine zae ?_) | (refine zaq ?_) | (refine zar ?_) | (refine zao ?_) | (refine zap rfl ?_) | (refine zab ?_) | (refine zag ?_) | (refine zbr ?_))
  all_goals first
    | (exfalso; omega)
    | exact zb1 rfl (zbn rfl) rfl
theorem may_eq {e : Ens} (k : Int) : (cellsL e.t.burn.length fun c => decide (0 < tv (cntT e k e.L.length) (c : Int))) = mayL e k := by
  unfold mayL
  refine cellsL_congr fun i hi => ?_
  rw [cntT_tv ⟨by omega, by omega⟩, List.take_length]
  rfl
theorem may_ge {e : Ens} (k : Int) : (cellsL e.t.burn.length fun c => decide (cntE e k (c : Int) ≥ 1)) = mayL e k := by
  unfold mayL
  refine cellsL_congr fun i hi => ?_
  rw [Bool.eq_iff_iff, decide_eq_true_eq, decide_eq_true_eq]
  omega
theorem k_iPossibleCells (e : Ens) (z : SzE e) (k : Int) : Con Try.prog 53 [.agg e.t.pv, .list 2 (e.L.map Scen.pv), .list 1 (ints e.src), .int .i64 e.st, .int .i64 k] (.tuple [.olist 3 1 (ints (maR e k)), .bool (opB (EkOk e k))]) := by
  intro al
  refine za8 hmix Try.func53 rfl (by kernel_rfl) (by kernel_rfl) (Nat.le_of_ble_eq_true rfl) (fun row h => by cases h) ?_
  have hty_a26 := ty_a26
  have hty_u51 := ty_u51
  have hty_s51 := ty_s51
  have hty_u24 := ty_u24
  have hty_s24 := ty_s24
  have hty_z24 := ty_z24
  have hty_t24 := ty_t24
  have hl1 : (e.L.map Scen.pv).length = e.L.length := by simp
  have hzn := z.hn
  have hzL := z.hL
  have k1 := k_isBlaze e z
  have k2 := k_isTick k
  by_cases hE : GoodEn e
  · rw [decide_eq_true hE] at k1
    by_cases hk : 0 ≤ k ∧ k ≤ 9999
    · have hok : EkOk e k := ⟨hE, hk⟩
      rw [maR_t hok, opB_t hok]
      have kB := k_burnedIn e z k hE
      have kC := k_cellsThat e.t 114 [[.list 1 (ints (cntT e k e.L.length))]] (fun c => decide (0 < tv (cntT e k e.L.length) (c : Int))) (fun c hc => k_may1 (cntT e k e.L.length) c (by rw [cntT_len]; exact hc)) aO
      rw [may_eq k] at kC
      generalize cntT e k e.L.length = T at *
      repeat' (first
      | (refine za5 ?_; first | (refine za6 ?_; refine zat _ rfl ?_) | (refine zad ?_; refine zaa _ rfl ?_) | (refine g_un ?_; first | (refine zce rfl ?_) | (refine zcf rfl aO ?_)) | (refine zbf ?_; first | (refine zac aA rfl ?_) | (refine zah _ aA rfl rfl aE rfl ?_) | (refine zaf _ aA rfl aZ aL ?_) | (refine zak _ aA rfl rfl aE aZ aL ?_)) | (refine zbw ?_; first | (refine zbl rfl aD rfl ?_) | (refine zbi rfl aD ?_) | (refine zbj rfl aD ?_) | (refine zbk rfl aD rfl ?_)) | (refine zbs ?_; first | (refine zbx rfl rfl aD ?_) | (refine zb8 rfl rfl aD ?_) | (refine zb7 rfl rfl ?_) | (refine zbh rfl rfl (fun h => ?_) (fun h => ?_) <;> (have h' := h; (try simp only [sx] at h')))) | (refine zbd ?_; first | (refine za0 true (k1) rfl rfl rfl aS rfl aH ?_; simp only [cl]) | (refine za0 true (k2) rfl rfl rfl aS rfl aH ?_; simp only [cl]) | (refine za0 true (kB) rfl rfl rfl aS rfl aH ?_; simp only [cl]) | (refine za0 true (kC) rfl rfl rfl aS rfl aH ?_; simp only [cl])) | (refine zbz _ _ rfl rfl rfl rfl ?_) | (refine zcc _ aA rfl ?_) | (refine zb2 aA rfl ?_) | (refine zch _ _ rfl rfl ?_) | (refine zbo _ _ _ rfl rfl aE (by first | assumption | (exact TAgg.size aA)) rfl rfl rfl aZ rfl aL (by first | (first | (simp only [lx, Nat.reduceAdd]; first | done | rfl) | fail) | rfl) ?_) | (refine zas (hK _ _ (.inl rfl) ?_); clear hK K) | (refine zas (hK _ _ (.inr (by kernel_rfl)) ?_); clear hK K))
      | (refine za3 ?_; first | (refine zbp ?_) | (refine zaj (fun K hK => ?_)) | (refine zan ?_) | (refine za4 ?_) | (refine zbq ?_) | (refine za1 ?_) | (refine zbg ?_; first | (refine zam rfl aD ?_) | (refine zal rfl aD ?_) | (refine zaz rfl (fun h => ?_) (fun h => ?_) <;> (have h' := h; (try simp only [sx] at h')))))
      | (refine za2 ?_) | (refine zai ?_) | (refine zae ?_) | (refine zaq ?_) | (refine zar ?_) | (refine zao ?_) | (refine zap rfl ?_) | (refine zab ?_) | (refine zag ?_) | (refine zbr ?_))
      all_goals first
        | (exfalso; omega)
        | (exfalso; simp at *; done)
        | exact aR
    · have hok : ¬ EkOk e k := fun h => hk h.2
      rw [maR_f hok, opB_f hok]
      repeat' (first
      | (refine za5 ?_; first | (refine za6 ?_; refine zat _ rfl ?_) | (refine zad ?_; refine zaa _ rfl ?_) | (refine g_un ?_; first | (refine zce rfl ?_) | (refine zcf rfl aO ?_)) | (refine zbf ?_; first | (refine zac aA rfl ?_) | (refine zah _ aA rfl rfl aE rfl ?_) | (refine zaf _ aA rfl aZ aL ?_) | (refine zak _ aA rfl rfl aE aZ aL ?_)) | (refine zbw ?_; first | (refine zbl rfl aD rfl ?_) | (refine zbi rfl aD ?_) | (refine zbj rfl aD ?_) | (refine zbk rfl aD rfl ?_)) | (refine zbs ?_; first | (refine zbx rfl rfl aD ?_) | (refine zb8 rfl rfl aD ?_) | (refine zb7 rfl rfl ?_) | (refine zbh rfl rfl (fun h => ?_) (fun h => ?_) <;> (have h' := h; (try simp only [sx] at h')))) | (refine zbd ?_; first | (refine za0 true (k1) rfl rfl rfl aS rfl aH ?_; simp only [cl]) | (refine za0 true (k2) rfl rfl rfl aS rfl aH ?_; simp only [cl])) | (refine zbz _ _ rfl rfl rfl rfl ?_) | (refine zcc _ aA rfl ?_) | (refine zb2 aA rfl ?_) | (refine zch _ _ rfl rfl ?_) | (refine zbo _ _ _ rfl rfl aE (by first | assumption | (exact TAgg.size aA)) rfl rfl rfl aZ rfl aL (by first | (first | (simp only [lx, Nat.reduceAdd]; first | done | rfl) | fail) | rfl) ?_) | (refine zas (hK _ _ (.inl rfl) ?_); clear hK K) | (refine zas (hK _ _ (.inr (by kernel_rfl)) ?_); clear hK K))
      | (refine za3 ?_; first | (refine zbp ?_) | (refine zaj (fun K hK => ?_)) | (refine zan ?_) | (refine za4 ?_) | (refine zbq ?_) | (refine za1 ?_) | (refine zbg ?_; first | (refine zam rfl aD ?_) | (refine zal rfl aD ?_) | (refine zaz rfl (fun h => ?_) (fun h => ?_) <;> (have h' := h; (try simp only [sx] at h')))))
      | (refine za2 ?_) | (refine zai ?_) | (refine zae ?_) | (refine zaq ?_) | (refine zar ?_) | (refine zao ?_) | (refine zap rfl ?_) | (refine zab ?_) | (refine zag ?_) | (refine zbr ?_))
      all_goals first
        | (exfalso; omega)
        | (exfalso; simp at *; done)
        | exact aR
  · rw [decide_eq_false hE] at k1
    have hok : ¬ EkOk e k := fun h => hE h.1
    rw [maR_f hok, opB_f hok]
    repeat' (first
      | (refine za5 ?_; first | (refine za6 ?_; refine zat _ rfl ?_) | (refine zad ?_; refine zaa _ rfl ?_) | (refine g_un ?_; first | (refine zce rfl ?_) | (refine zcf rfl aO ?_)) | (refine zbf ?_; first | (refine zac aA rfl ?_) | (refine zah _ aA rfl rfl aE rfl ?_) | (refine zaf _ aA rfl aZ aL ?_) | (refine zak _ aA rfl rfl aE aZ aL ?_)) | (refine zbw ?_; first | (refine zbl rfl aD rfl ?_) | (refine zbi rfl aD ?_) | (refine zbj rfl aD ?_) | (refine zbk rfl aD rfl ?_)) | (refine zbs ?_; first | (refine zbx rfl rfl aD ?_) | (refine zb8 rfl rfl aD ?_) | (refine zb7 rfl rfl ?_) | (refine zbh rfl rfl (fun h => ?_) (fun h => ?_) <;> (have h' := h; (try simp only [sx] at h')))) | (refine zbd ?_; first | (refine za0 true (k1) rfl rfl rfl aS rfl aH ?_; simp only [cl]) | (refine za0 true (k2) rfl rfl rfl aS rfl aH ?_; simp only [cl])) | (refine zbz _ _ rfl rfl rfl rfl ?_) | (refine zcc _ aA rfl ?_) | (refine zb2 aA rfl ?_) | (refine zch _ _ rfl rfl ?_) | (refine zbo _ _ _ rfl rfl aE (by first | assumption | (exact TAgg.size aA)) rfl rfl rfl aZ rfl aL (by first | (first | (simp only [lx, Nat.reduceAdd]; first | done | rfl) | fail) | rfl) ?_) | (refine zas (hK _ _ (.inl rfl) ?_); clear hK K) | (refine zas (hK _ _ (.inr (by kernel_rfl)) ?_); clear hK K))
      | (refine za3 ?_; first | (refine zbp ?_) | (refine zaj (fun K hK => ?_)) | (refine zan ?_) | (refine za4 ?_) | (refine zbq ?_) | (refine za1 ?_) | (refine zbg ?_; first | (refine zam rfl aD ?_) | (refine zal rfl aD ?_) | (refine zaz rfl (fun h => ?_) (fun h => ?_) <;> (have h' := h; (try simp only [sx] at h')))))
      | (refine za2 ?_) | (refine zai ?_) | (refine zae ?_) | (refine zaq ?_) | (refine zar ?_) | (refine zao ?_) | (refine zap rfl ?_) | (refine zab ?_) | (refine zag ?_) | (refine zbr ?_))
    all_goals first
      | (exfalso; omega)
      | (exfalso; simp at *; done)
      | exact aR
theorem k_sPossibleCells (e : Ens) (z : SzE e) (k : Int) : Con Try.prog 55 [.agg e.t.pv, .list 2 (e.L.map Scen.pv), .list 1 (ints e.src), .int .i64 e.st, .int .i64 k] (.tuple [.olist 3 1 (ints (maR e k)), .bool (opB (EkOk e k))]) := by
  intro al
  refine za8 hmix Try.func55 rfl (by kernel_rfl) (by kernel_rfl) (Nat.le_of_ble_eq_true rfl) (fun row h => by cases h) ?_
  have hty_a26 := ty_a26
  have hty_u51 := ty_u51
  have hty_s51 := ty_s51
  have hty_u24 := ty_u24
  have hty_s24 := ty_s24
  have hl1 : (e.L.map Scen.pv).length = e.L.length := by simp
  have hzn := z.hn
  have hzL := z.hL
  have k1 := k_l8Asked e z
  have k2 := k_l4Tick k
  by_cases hE : GoodEn e
  · rw [decide_eq_true hE] at k1
    by_cases hk : 0 ≤ k ∧ k ≤ 9999
    · have hok : EkOk e k := ⟨hE, hk⟩
      rw [maR_t hok, opB_t hok]
      have kC := k_l8Cells e z k 1 hE
      rw [may_ge k] at kC
      repeat' (first
      | (refine za5 ?_; first | (refine za6 ?_; refine zat _ rfl ?_) | (refine zad ?_; refine zaa _ rfl ?_) | (refine g_un ?_; first | (refine zce rfl ?_) | (refine zcf rfl aO ?_)) | (refine zbf ?_; first | (refine zac aA rfl ?_) | (refine zah _ aA rfl rfl aE rfl ?_) | (refine zaf _ aA rfl aZ aL ?_) | (refine zak _ aA rfl rfl aE aZ aL ?_)) | (refine zbw ?_; first | (refine zbl rfl aD rfl ?_) | (refine zbi rfl aD ?_) | (refine zbj rfl aD ?_) | (refine zbk rfl aD rfl ?_)) | (refine zbs ?_; first | (refine zbx rfl rfl aD ?_) | (refine zb8 rfl rfl aD ?_) | (refine zb7 rfl rfl ?_) | (refine zbh rfl rfl (fun h => ?_) (fun h => ?_) <;> (have h' := h; (try simp only [sx] at h')))) | (refine zbd ?_; first | (refine za0 true (k1) rfl rfl rfl aS rfl aH ?_; simp only [cl]) | (refine za0 true (k2) rfl rfl rfl aS rfl aH ?_; simp only [cl]) | (refine za0 true (kC) rfl rfl rfl aS rfl aH ?_; simp only [cl])) | (refine za7 aA rfl rfl rfl ?_) | (refine zbz _ _ rfl rfl rfl rfl ?_) | (refine zas (hK _ _ (.inl rfl) ?_); clear hK K) | (refine zas (hK _ _ (.inr (by kernel_rfl)) ?_); clear hK K))
      | (refine za3 ?_; first | (refine zbp ?_) | (refine zaj (fun K hK => ?_)) | (refine zan ?_) | (refine za4 ?_) | (refine zbq ?_) | (refine za1 ?_) | (refine zbg ?_; first | (refine zam rfl aD ?_) | (refine zal rfl aD ?_) | (refine zaz rfl (fun h => ?_) (fun h => ?_) <;> (have h' := h; (try simp only [sx] at h')))))
      | (refine za2 ?_) | (refine zai ?_) | (refine zae ?_) | (refine zaq ?_) | (refine zar ?_) | (refine zao ?_) | (refine zap rfl ?_) | (refine zab ?_) | (refine zag ?_) | (refine zbr ?_))
      all_goals first
        | (exfalso; omega)
        | (exfalso; simp at *; done)
        | exact aR
    · have hok : ¬ EkOk e k := fun h => hk h.2
      rw [maR_f hok, opB_f hok]
      repeat' (first
      | (refine za5 ?_; first | (refine za6 ?_; refine zat _ rfl ?_) | (refine zad ?_; refine zaa _ rfl ?_) | (refine g_un ?_; first | (refine zce rfl ?_) | (refine zcf rfl aO ?_)) | (refine zbf ?_; first | (refine zac aA rfl ?_) | (refine zah _ aA rfl rfl aE rfl ?_) | (refine zaf _ aA rfl aZ aL ?_) | (refine zak _ aA rfl rfl aE aZ aL ?_)) | (refine zbw ?_; first | (refine zbl rfl aD rfl ?_) | (refine zbi rfl aD ?_) | (refine zbj rfl aD ?_) | (refine zbk rfl aD rfl ?_)) | (refine zbs ?_; first | (refine zbx rfl rfl aD ?_) | (refine zb8 rfl rfl aD ?_) | (refine zb7 rfl rfl ?_) | (refine zbh rfl rfl (fun h => ?_) (fun h => ?_) <;> (have h' := h; (try simp only [sx] at h')))) | (refine zbd ?_; first | (refine za0 true (k1) rfl rfl rfl aS rfl aH ?_; simp only [cl]) | (refine za0 true (k2) rfl rfl rfl aS rfl aH ?_; simp only [cl])) | (refine za7 aA rfl rfl rfl ?_) | (refine zbz _ _ rfl rfl rfl rfl ?_) | (refine zas (hK _ _ (.inl rfl) ?_); clear hK K) | (refine zas (hK _ _ (.inr (by kernel_rfl)) ?_); clear hK K))
      | (refine za3 ?_; first | (refine zbp ?_) | (refine zaj (fun K hK => ?_)) | (refine zan ?_) | (refine za4 ?_) | (refine zbq ?_) | (refine za1 ?_) | (refine zbg ?_; first | (refine zam rfl aD ?_) | (refine zal rfl aD ?_) | (refine zaz rfl (fun h => ?_) (fun h => ?_) <;> (have h' := h; (try simp only [sx] at h')))))
      | (refine za2 ?_) | (refine zai ?_) | (refine zae ?_) | (refine zaq ?_) | (refine zar ?_) | (refine zao ?_) | (refine zap rfl ?_) | (refine zab ?_) | (refine zag ?_) | (refine zbr ?_))
      all_goals first
        | (exfalso; omega)
        | (exfalso; simp at *; done)
        | exact aR
  · rw [decide_eq_false hE] at k1
    have hok : ¬ EkOk e k := fun h => hE h.1
    rw [maR_f hok, opB_f hok]
    repeat' (first
      | (refine za5 ?_; first | (refine za6 ?_; refine zat _ rfl ?_) | (refine zad ?_; refine zaa _ rfl ?_) | (refine g_un ?_; first | (refine zce rfl ?_) | (refine zcf rfl aO ?_)) | (refine zbf ?_; first | (refine zac aA rfl ?_) | (refine zah _ aA rfl rfl aE rfl ?_) | (refine zaf _ aA rfl aZ aL ?_) | (refine zak _ aA rfl rfl aE aZ aL ?_)) | (refine zbw ?_; first | (refine zbl rfl aD rfl ?_) | (refine zbi rfl aD ?_) | (refine zbj rfl aD ?_) | (refine zbk rfl aD rfl ?_)) | (refine zbs ?_; first | (refine zbx rfl rfl aD ?_) | (refine zb8 rfl rfl aD ?_) | (refine zb7 rfl rfl ?_) | (refine zbh rfl rfl (fun h => ?_) (fun h => ?_) <;> (have h' := h; (try simp only [sx] at h')))) | (refine zbd ?_; first | (refine za0 true (k1) rfl rfl rfl aS rfl aH ?_; simp only [cl]) | (refine za0 true (k2) rfl rfl rfl aS rfl aH ?_; simp only [cl])) | (refine za7 aA rfl rfl rfl ?_) | (refine zbz _ _ rfl rfl rfl rfl ?_) | (refine zas (hK _ _ (.inl rfl) ?_); clear hK K) | (refine zas (hK _ _ (.inr (by kernel_rfl)) ?_); clear hK K))
      | (refine za3 ?_; first | (refine zbp ?_) | (refine zaj (fun K hK => ?_)) | (refine zan ?_) | (refine za4 ?_) | (refine zbq ?_) | (refine za1 ?_) | (refine zbg ?_; first | (refine zam rfl aD ?_) | (refine zal rfl aD ?_) | (refine zaz rfl (fun h => ?_) (fun h => ?_) <;> (have h' := h; (try simp only [sx] at h')))))
      | (refine za2 ?_) | (refine zai ?_) | (refine zae ?_) | (refine zaq ?_) | (refine zar ?_) | (refine zao ?_) | (refine zap rfl ?_) | (refine zab ?_) | (refine zag ?_) | (refine zbr ?_))
    all_goals first
      | (exfalso; omega)
      | (exfalso; simp at *; done)
      | exact aR
end
end Go.Vs
set_option linter.unusedVariables false
set_option linter.unusedSimpArgs false
set_option maxRecDepth 100000
set_option maxHeartbeats 4000000
namespace Go.Vs
open Go.Proofs
attribute [local irreducible] exec vwp thenQ blkQ loopQ RetPost
theorem within_nil {l : List Int} {P : Int → Prop} : ∀ x ∈ l.take 0, P x := fun x hx => by simp at hx
theorem within_step {l : List Int} {i : Nat} {a : Int} {P : Int → Prop} (h : ∀ x ∈ l.take i, P x) (ha : l[i]? = some a) (hp : P a) : ∀ x ∈ l.take (i + 1), P x := fun x hx => by
  rw [take_succ ha] at hx
  rcases List.mem_append.1 hx with hx | hx
  · exact h x hx
  · simp at hx; subst hx; exact hp
theorem k_vBig (code : List Int) (g : code.length ≤ 9223372036854775807) : Con Try.prog 7 [.list 1 (bytesP code)] (.bool (decide (65536 < code.length))) := by
  intro al
  refine za8 hmix Try.func7 rfl (by kernel_rfl) (by kernel_rfl) (Nat.le_of_ble_eq_true rfl) (fun row h => by cases h) ?_
  have hty_u22 := ty_u22
  have hty_s22 := ty_s22
  have hl1 : (bytesP code).length = code.length := by simp
  repeat' (first
      | (refine za5 ?_; first | (refine za6 ?_; refine zat _ rfl ?_) | (refine zad ?_; refine zaa _ rfl ?_) | (refine zbv ?_; refine zbu _ rfl rfl rfl ?_) | (refine zbd ?_; first | (refine za9 aA rfl ?_) | (refine zbc aA rfl rfl ?_) | (refine zba aA rfl ?_) | (refine zbb aA (evO_ok rfl) ?_)) | (refine zas (hK _ _ (.inl rfl) ?_); clear hK K) | (refine zas (hK _ _ (.inr (by kernel_rfl)) ?_); clear hK K))
      | (refine za3 ?_; first | (refine zbp ?_) | (refine zaj (fun K hK => ?_)) | (refine zan ?_) | (refine za4 ?_) | (refine zbq ?_) | (refine za1 ?_))
      | (refine za2 ?_) | (refine zai ?_) | (refine zae ?_) | (refine zaq ?_) | (refine zar ?_) | (refine zao ?_) | (refine zap rfl ?_) | (refine zab ?_) | (refine zag ?_) | (refine zbr ?_))
  all_goals (refine zb1 rfl (zbn rfl) ?_; first | rfl | (simp; omega))
theorem k_vIntsS (xs : List Int) (hn : xs.length ≤ 1099511627776) : Con Try.prog 11 [.list 1 (ints xs), .list 1 (ints xs)] (.bool true) := by
  intro al
  refine za8 hmix Try.func11 rfl (by kernel_rfl) (by kernel_rfl) (Nat.le_of_ble_eq_true rfl) (fun row h => by cases h) ?_
  have hty_u24 := ty_u24
  have hty_s24 := ty_s24
  have hty_c3 := ty_c3
  have hl1 : (ints xs).length = xs.length := by simp
  repeat' (first
      | (refine za5 ?_; first | (refine za6 ?_; refine zat _ rfl ?_) | (refine zad ?_; refine zaa _ rfl ?_) | (refine zbv ?_; first | (refine zby rfl rfl aO ?_) | (refine zbu _ rfl rfl rfl ?_) | (refine zb6 aA rfl rfl ?_) | (refine zaw _ rfl rfl rfl ?_)) | (refine zbf ?_; first | (refine zac aA rfl ?_) | (refine zah _ aA rfl rfl aE rfl ?_) | (refine zaf _ aA rfl aZ aL ?_) | (refine zak _ aA rfl rfl aE aZ aL ?_)) | (refine zbe ?_; first | (refine zau _ aA rfl rfl aO aA ?_) | (refine zav _ aA rfl rfl rfl rfl aO aO (by first | (rw [Nat.zero_add, Int.toNat_natCast]) | (rw [Nat.zero_add]) | rfl) ?_)) | (refine zbd ?_; first | (refine za9 aA rfl ?_) | (refine zbc aA rfl rfl ?_) | (refine zba aA rfl ?_) | (refine zbb aA (evO_ok rfl) ?_)) | (refine zas (hK _ _ (.inl rfl) ?_); clear hK K) | (refine zas (hK _ _ (.inr (by kernel_rfl)) ?_); clear hK K))
      | (refine za3 ?_; first | (refine zbp ?_) | (refine zaj (fun K hK => ?_)) | (refine zan ?_) | (refine za4 ?_) | (refine zbq ?_) | (refine za1 ?_) | (refine zbg ?_; first | (refine zam rfl aD ?_) | (refine zal rfl aD ?_) | (refine zaz rfl (fun h => ?_) (fun h => ?_) <;> (have h' := h; (try simp only [sx] at h')))))
      | (refine za2 ?_) | (refine zai ?_) | (refine zae ?_) | (refine zaq ?_) | (refine zar ?_) | (refine zao ?_) | (refine zap rfl ?_) | (refine zab ?_) | (refine zag ?_) | (refine zbr ?_))
  all_goals try (exfalso; omega)
  refine zcd [0, 1] [] (fun i : Nat => [(5, .int .i64 i)]) (fun i : Nat => []) (fun i : Nat => i ≤ xs.length) (fun i : Nat => xs.length - i) (0) rfl rfl (fun _ => rfl) (fun _ => rfl) rfl aW aO (fun i hi => ?_)
  rcases Nat.lt_or_ge i xs.length with hlt | hge
  · obtain ⟨a, ha⟩ := get_ex hlt
    have hx := ints_at ha
    repeat' (first
      | (refine za5 ?_; first | (refine za6 ?_; refine zat _ rfl ?_) | (refine zad ?_; refine zaa _ rfl ?_) | (refine zbv ?_; first | (refine zby rfl rfl aO ?_) | (refine zbu _ rfl rfl rfl ?_) | (refine zb6 aA rfl rfl ?_) | (refine zaw _ rfl rfl rfl ?_)) | (refine zbf ?_; first | (refine zac aA rfl ?_) | (refine zah _ aA rfl rfl aE rfl ?_) | (refine zaf _ aA rfl aZ aL ?_) | (refine zak _ aA rfl rfl aE aZ aL ?_)) | (refine zbe ?_; first | (refine zau _ aA rfl rfl aO aA ?_) | (refine zav _ aA rfl rfl rfl rfl aO aO (by first | (rw [Nat.zero_add, Int.toNat_natCast]) | (rw [Nat.zero_add]) | rfl) ?_)) | (refine zbd ?_; first | (refine za9 aA rfl ?_) | (refine zbc aA rfl rfl ?_) | (refine zba aA rfl ?_) | (refine zbb aA (evO_ok rfl) ?_)) | (refine zas (hK _ _ (.inl rfl) ?_); clear hK K) | (refine zas (hK _ _ (.inr (by kernel_rfl)) ?_); clear hK K))
      | (refine za3 ?_; first | (refine zbp ?_) | (refine zaj (fun K hK => ?_)) | (refine zan ?_) | (refine za4 ?_) | (refine zbq ?_) | (refine za1 ?_) | (refine zbg ?_; first | (refine zam rfl aD ?_) | (refine zal rfl aD ?_) | (refine zaz rfl (fun h => ?_) (fun h => ?_) <;> (have h' := h; (try simp only [sx] at h')))))
      | (refine za2 ?_) | (refine zai ?_) | (refine zae ?_) | (refine zaq ?_) | (refine zar ?_) | (refine zao ?_) | (refine zap rfl ?_) | (refine zab ?_) | (refine zag ?_) | (refine zbr ?_))
    all_goals first
      | (exfalso; omega)
      | (refine zcb (i + 1) rfl aW aO aO)
      | (exfalso; simp at *; done)
  · repeat' (first
      | (refine za5 ?_; first | (refine za6 ?_; refine zat _ rfl ?_) | (refine zad ?_; refine zaa _ rfl ?_) | (refine zbv ?_; first | (refine zby rfl rfl aO ?_) | (refine zbu _ rfl rfl rfl ?_) | (refine zb6 aA rfl rfl ?_) | (refine zaw _ rfl rfl rfl ?_)) | (refine zbf ?_; first | (refine zac aA rfl ?_) | (refine zah _ aA rfl rfl aE rfl ?_) | (refine zaf _ aA rfl aZ aL ?_) | (refine zak _ aA rfl rfl aE aZ aL ?_)) | (refine zbe ?_; first | (refine zau _ aA rfl rfl aO aA ?_) | (refine zav _ aA rfl rfl rfl rfl aO aO (by first | (rw [Nat.zero_add, Int.toNat_natCast]) | (rw [Nat.zero_add]) | rfl) ?_)) | (refine zbd ?_; first | (refine za9 aA rfl ?_) | (refine zbc aA rfl rfl ?_) | (refine zba aA rfl ?_) | (refine zbb aA (evO_ok rfl) ?_)) | (refine zas (hK _ _ (.inl rfl) ?_); clear hK K) | (refine zas (hK _ _ (.inr (by kernel_rfl)) ?_); clear hK K))
      | (refine za3 ?_; first | (refine zbp ?_) | (refine zaj (fun K hK => ?_)) | (refine zan ?_) | (refine za4 ?_) | (refine zbq ?_) | (refine za1 ?_) | (refine zbg ?_; first | (refine zam rfl aD ?_) | (refine zal rfl aD ?_) | (refine zaz rfl (fun h => ?_) (fun h => ?_) <;> (have h' := h; (try simp only [sx] at h')))))
      | (refine za2 ?_) | (refine zai ?_) | (refine zae ?_) | (refine zaq ?_) | (refine zar ?_) | (refine zao ?_) | (refine zap rfl ?_) | (refine zab ?_) | (refine zag ?_) | (refine zbr ?_))
    all_goals first
      | (exfalso; omega)
      | exact zb1 rfl (zbn rfl) rfl
theorem k_vHas (xs : List Int) (n : Int) (hn : xs.length ≤ 1099511627776) : Con Try.prog 15 [.list 1 (ints xs), .int .i64 n] (.bool (decide (n ∈ xs))) := by
  intro al
  refine za8 hmix Try.func15 rfl (by kernel_rfl) (by kernel_rfl) (Nat.le_of_ble_eq_true rfl) (fun row h => by cases h) ?_
  have hty_u24 := ty_u24
  have hty_s24 := ty_s24
  have hty_c3 := ty_c3
  have hl1 : (ints xs).length = xs.length := by simp
  repeat' (first
      | (refine za5 ?_; first | (refine za6 ?_; refine zat _ rfl ?_) | (refine zad ?_; refine zaa _ rfl ?_) | (refine zbv ?_; first | (refine zby rfl rfl aO ?_) | (refine zbu _ rfl rfl rfl ?_) | (refine zbt aA rfl rfl ?_) | (refine zaw _ rfl rfl rfl ?_)) | (refine zbf ?_; first | (refine zac aA rfl ?_) | (refine zah _ aA rfl rfl aE rfl ?_) | (refine zaf _ aA rfl aZ aL ?_) | (refine zak _ aA rfl rfl aE aZ aL ?_)) | (refine zbe ?_; first | (refine zau _ aA rfl rfl aO aA ?_) | (refine zav _ aA rfl rfl rfl rfl aO aO (by first | (rw [Nat.zero_add, Int.toNat_natCast]) | (rw [Nat.zero_add]) | rfl) ?_)) | (refine zbd ?_; first | (refine za9 aA rfl ?_) | (refine zbc aA rfl rfl ?_) | (refine zba aA rfl ?_) | (refine zbb aA (evO_ok rfl) ?_)) | (refine zas (hK _ _ (.inl rfl) ?_); clear hK K) | (refine zas (hK _ _ (.inr (by kernel_rfl)) ?_); clear hK K))
      | (refine za3 ?_; first | (refine zbp ?_) | (refine zaj (fun K hK => ?_)) | (refine zan ?_) | (refine za4 ?_) | (refine zbq ?_) | (refine za1 ?_) | (refine zbg ?_; first | (refine zam rfl aD ?_) | (refine zal rfl aD ?_) | (refine zaz rfl (fun h => ?_) (fun h => ?_) <;> (have h' := h; (try simp only [sx] at h')))))
      | (refine za2 ?_) | (refine zai ?_) | (refine zae ?_) | (refine zaq ?_) | (refine zar ?_) | (refine zao ?_) | (refine zap rfl ?_) | (refine zab ?_) | (refine zag ?_) | (refine zbr ?_))
  refine zcd [0, 1] [] (fun i : Nat => [(5, .int .i64 i)]) (fun i : Nat => []) (fun i : Nat => i ≤ xs.length ∧ ∀ x ∈ xs.take i, x ≠ n) (fun i : Nat => xs.length - i) (0) rfl rfl (fun _ => rfl) (fun _ => rfl) rfl aW ⟨by omega, within_nil⟩ (fun i hi => ?_)
  obtain ⟨hi1, hi2⟩ := hi
  rcases Nat.lt_or_ge i xs.length with hlt | hge
  · obtain ⟨a, hga⟩ := get_ex hlt
    have hx := ints_at hga
    by_cases he : a = n
    · have hm : n ∈ xs := by rw [← he]; exact get_mem hga
      repeat' (first
      | (refine za5 ?_; first | (refine za6 ?_; refine zat _ rfl ?_) | (refine zad ?_; refine zaa _ rfl ?_) | (refine zbv ?_; first | (refine zby rfl rfl aO ?_) | (refine zbu _ rfl rfl rfl ?_) | (refine zbt aA rfl rfl ?_) | (refine zaw _ rfl rfl rfl ?_)) | (refine zbf ?_; first | (refine zac aA rfl ?_) | (refine zah _ aA rfl rfl aE rfl ?_) | (refine zaf _ aA rfl aZ aL ?_) | (refine zak _ aA rfl rfl aE aZ aL ?_)) | (refine zbe ?_; first | (refine zau _ aA rfl rfl aO aA ?_) | (refine zav _ aA rfl rfl rfl rfl aO aO (by first | (rw [Nat.zero_add, Int.toNat_natCast]) | (rw [Nat.zero_add]) | rfl) ?_)) | (refine zbd ?_; first | (refine za9 aA rfl ?_) | (refine zbc aA rfl rfl ?_) | (refine zba aA rfl ?_) | (refine zbb aA (evO_ok rfl) ?_)) | (refine zas (hK _ _ (.inl rfl) ?_); clear hK K) | (refine zas (hK _ _ (.inr (by kernel_rfl)) ?_); clear hK K))
      | (refine za3 ?_; first | (refine zbp ?_) | (refine zaj (fun K hK => ?_)) | (refine zan ?_) | (refine za4 ?_) | (refine zbq ?_) | (refine za1 ?_) | (refine zbg ?_; first | (refine zam rfl aD ?_) | (refine zal rfl aD ?_) | (refine zaz rfl (fun h => ?_) (fun h => ?_) <;> (have h' := h; (try simp only [sx] at h')))))
      | (refine za2 ?_) | (refine zai ?_) | (refine zae ?_) | (refine zaq ?_) | (refine zar ?_) | (refine zao ?_) | (refine zap rfl ?_) | (refine zab ?_) | (refine zag ?_) | (refine zbr ?_))
      all_goals first
        | (exfalso; omega)
        | exact zb1 rfl (zbn rfl) (by simp [hm])
    · repeat' (first
      | (refine za5 ?_; first | (refine za6 ?_; refine zat _ rfl ?_) | (refine zad ?_; refine zaa _ rfl ?_) | (refine zbv ?_; first | (refine zby rfl rfl aO ?_) | (refine zbu _ rfl rfl rfl ?_) | (refine zbt aA rfl rfl ?_) | (refine zaw _ rfl rfl rfl ?_)) | (refine zbf ?_; first | (refine zac aA rfl ?_) | (refine zah _ aA rfl rfl aE rfl ?_) | (refine zaf _ aA rfl aZ aL ?_) | (refine zak _ aA rfl rfl aE aZ aL ?_)) | (refine zbe ?_; first | (refine zau _ aA rfl rfl aO aA ?_) | (refine zav _ aA rfl rfl rfl rfl aO aO (by first | (rw [Nat.zero_add, Int.toNat_natCast]) | (rw [Nat.zero_add]) | rfl) ?_)) | (refine zbd ?_; first | (refine za9 aA rfl ?_) | (refine zbc aA rfl rfl ?_) | (refine zba aA rfl ?_) | (refine zbb aA (evO_ok rfl) ?_)) | (refine zas (hK _ _ (.inl rfl) ?_); clear hK K) | (refine zas (hK _ _ (.inr (by kernel_rfl)) ?_); clear hK K))
      | (refine za3 ?_; first | (refine zbp ?_) | (refine zaj (fun K hK => ?_)) | (refine zan ?_) | (refine za4 ?_) | (refine zbq ?_) | (refine za1 ?_) | (refine zbg ?_; first | (refine zam rfl aD ?_) | (refine zal rfl aD ?_) | (refine zaz rfl (fun h => ?_) (fun h => ?_) <;> (have h' := h; (try simp only [sx] at h')))))
      | (refine za2 ?_) | (refine zai ?_) | (refine zae ?_) | (refine zaq ?_) | (refine zar ?_) | (refine zao ?_) | (refine zap rfl ?_) | (refine zab ?_) | (refine zag ?_) | (refine zbr ?_))
      all_goals first
        | (exfalso; omega)
        | (refine zcb (i + 1) rfl aW ⟨by omega, within_step hi2 hga he⟩ aO)
  · rw [take_all hge] at hi2
    have hm : n ∉ xs := fun h => hi2 n h rfl
    repeat' (first
      | (refine za5 ?_; first | (refine za6 ?_; refine zat _ rfl ?_) | (refine zad ?_; refine zaa _ rfl ?_) | (refine zbv ?_; first | (refine zby rfl rfl aO ?_) | (refine zbu _ rfl rfl rfl ?_) | (refine zbt aA rfl rfl ?_) | (refine zaw _ rfl rfl rfl ?_)) | (refine zbf ?_; first | (refine zac aA rfl ?_) | (refine zah _ aA rfl rfl aE rfl ?_) | (refine zaf _ aA rfl aZ aL ?_) | (refine zak _ aA rfl rfl aE aZ aL ?_)) | (refine zbe ?_; first | (refine zau _ aA rfl rfl aO aA ?_) | (refine zav _ aA rfl rfl rfl rfl aO aO (by first | (rw [Nat.zero_add, Int.toNat_natCast]) | (rw [Nat.zero_add]) | rfl) ?_)) | (refine zbd ?_; first | (refine za9 aA rfl ?_) | (refine zbc aA rfl rfl ?_) | (refine zba aA rfl ?_) | (refine zbb aA (evO_ok rfl) ?_)) | (refine zas (hK _ _ (.inl rfl) ?_); clear hK K) | (refine zas (hK _ _ (.inr (by kernel_rfl)) ?_); clear hK K))
      | (refine za3 ?_; first | (refine zbp ?_) | (refine zaj (fun K hK => ?_)) | (refine zan ?_) | (refine za4 ?_) | (refine zbq ?_) | (refine za1 ?_) | (refine zbg ?_; first | (refine zam rfl aD ?_) | (refine zal rfl aD ?_) | (refine zaz rfl (fun h => ?_) (fun h => ?_) <;> (have h' := h; (try simp only [sx] at h')))))
      | (refine za2 ?_) | (refine zai ?_) | (refine zae ?_) | (refine zaq ?_) | (refine zar ?_) | (refine zao ?_) | (refine zap rfl ?_) | (refine zab ?_) | (refine zag ?_) | (refine zbr ?_))
    all_goals first
      | (exfalso; omega)
      | exact zb1 rfl (zbn rfl) (by simp [hm])
theorem k_vWithin (xs ys : List Int) (hn : xs.length ≤ 1099511627776) (hm : ys.length ≤ 1099511627776) : Con Try.prog 29 [.list 1 (ints xs), .list 1 (ints ys)] (.bool (decide (∀ x ∈ xs, x ∈ ys))) := by
  intro al
  refine za8 hmix Try.func29 rfl (by kernel_rfl) (by kernel_rfl) (Nat.le_of_ble_eq_true rfl) (fun row h => by cases h) ?_
  have hty_u24 := ty_u24
  have hty_s24 := ty_s24
  have hty_c3 := ty_c3
  have hl1 : (ints xs).length = xs.length := by simp
  repeat' (first
      | (refine za5 ?_; first | (refine za6 ?_; refine zat _ rfl ?_) | (refine zad ?_; refine zaa _ rfl ?_) | (refine zbv ?_; first | (refine zby rfl rfl aO ?_) | (refine zbu _ rfl rfl rfl ?_) | (refine zaw _ rfl rfl rfl ?_)) | (refine g_un ?_; first | (refine zce rfl ?_) | (refine zcf rfl aO ?_)) | (refine zbf ?_; first | (refine zac aA rfl ?_) | (refine zah _ aA rfl rfl aE rfl ?_) | (refine zaf _ aA rfl aZ aL ?_) | (refine zak _ aA rfl rfl aE aZ aL ?_)) | (refine zbe ?_; first | (refine zau _ aA rfl rfl aO aA ?_) | (refine zav _ aA rfl rfl rfl rfl aO aO (by first | (rw [Nat.zero_add, Int.toNat_natCast]) | (rw [Nat.zero_add]) | rfl) ?_)) | (refine zbd ?_; first | (refine za9 aA rfl ?_) | (refine zbc aA rfl rfl ?_) | (refine zba aA rfl ?_) | (refine zbb aA (evO_ok rfl) ?_)) | (refine zas (hK _ _ (.inl rfl) ?_); clear hK K) | (refine zas (hK _ _ (.inr (by kernel_rfl)) ?_); clear hK K))
      | (refine za3 ?_; first | (refine zbp ?_) | (refine zaj (fun K hK => ?_)) | (refine zan ?_) | (refine za4 ?_) | (refine zbq ?_) | (refine za1 ?_) | (refine zbg ?_; first | (refine zam rfl aD ?_) | (refine zal rfl aD ?_) | (refine zaz rfl (fun h => ?_) (fun h => ?_) <;> (have h' := h; (try simp only [sx] at h')))))
      | (refine za2 ?_) | (refine zai ?_) | (refine zae ?_) | (refine zaq ?_) | (refine zar ?_) | (refine zao ?_) | (refine zap rfl ?_) | (refine zab ?_) | (refine zag ?_) | (refine zbr ?_))
  refine zcd [0, 1] [] (fun i : Nat => [(5, .int .i64 i)]) (fun i : Nat => []) (fun i : Nat => i ≤ xs.length ∧ ∀ x ∈ xs.take i, x ∈ ys) (fun i : Nat => xs.length - i) (0) rfl rfl (fun _ => rfl) (fun _ => rfl) rfl aW ⟨by omega, within_nil⟩ (fun i hi => ?_)
  obtain ⟨hi1, hi2⟩ := hi
  rcases Nat.lt_or_ge i xs.length with hlt | hge
  · obtain ⟨a, hga⟩ := get_ex hlt
    have hx := ints_at hga
    have kH := k_vHas ys a hm
    by_cases he : a ∈ ys
    · rw [decide_eq_true he] at kH
      repeat' (first
      | (refine za5 ?_; first | (refine za6 ?_; refine zat _ rfl ?_) | (refine zad ?_; refine zaa _ rfl ?_) | (refine zbv ?_; first | (refine zby rfl rfl aO ?_) | (refine zbu _ rfl rfl rfl ?_) | (refine zaw _ rfl rfl rfl ?_)) | (refine g_un ?_; first | (refine zce rfl ?_) | (refine zcf rfl aO ?_)) | (refine zbf ?_; first | (refine zac aA rfl ?_) | (refine zah _ aA rfl rfl aE rfl ?_) | (refine zaf _ aA rfl aZ aL ?_) | (refine zak _ aA rfl rfl aE aZ aL ?_)) | (refine zbe ?_; first | (refine zau _ aA rfl rfl aO aA ?_) | (refine zav _ aA rfl rfl rfl rfl aO aO (by first | (rw [Nat.zero_add, Int.toNat_natCast]) | (rw [Nat.zero_add]) | rfl) ?_)) | (refine zbd ?_; first | (refine za0 true (kH) rfl rfl rfl aS rfl aH ?_; simp only [cl]) | (refine za9 aA rfl ?_) | (refine zbc aA rfl rfl ?_) | (refine zba aA rfl ?_) | (refine zbb aA (evO_ok rfl) ?_)) | (refine zas (hK _ _ (.inl rfl) ?_); clear hK K) | (refine zas (hK _ _ (.inr (by kernel_rfl)) ?_); clear hK K))
      | (refine za3 ?_; first | (refine zbp ?_) | (refine zaj (fun K hK => ?_)) | (refine zan ?_) | (refine za4 ?_) | (refine zbq ?_) | (refine za1 ?_) | (refine zbg ?_; first | (refine zam rfl aD ?_) | (refine zal rfl aD ?_) | (refine zaz rfl (fun h => ?_) (fun h => ?_) <;> (have h' := h; (try simp only [sx] at h')))))
      | (refine za2 ?_) | (refine zai ?_) | (refine zae ?_) | (refine zaq ?_) | (refine zar ?_) | (refine zao ?_) | (refine zap rfl ?_) | (refine zab ?_) | (refine zag ?_) | (refine zbr ?_))
      all_goals first
        | (exfalso; omega)
        | (refine zcb (i + 1) rfl aW ⟨by omega, within_step hi2 hga he⟩ aO)
    · have hno : ¬ ∀ x ∈ xs, x ∈ ys := fun h => he (h a (get_mem hga))
      rw [decide_eq_false he] at kH
      repeat' (first
      | (refine za5 ?_; first | (refine za6 ?_; refine zat _ rfl ?_) | (refine zad ?_; refine zaa _ rfl ?_) | (refine zbv ?_; first | (refine zby rfl rfl aO ?_) | (refine zbu _ rfl rfl rfl ?_) | (refine zaw _ rfl rfl rfl ?_)) | (refine g_un ?_; first | (refine zce rfl ?_) | (refine zcf rfl aO ?_)) | (refine zbf ?_; first | (refine zac aA rfl ?_) | (refine zah _ aA rfl rfl aE rfl ?_) | (refine zaf _ aA rfl aZ aL ?_) | (refine zak _ aA rfl rfl aE aZ aL ?_)) | (refine zbe ?_; first | (refine zau _ aA rfl rfl aO aA ?_) | (refine zav _ aA rfl rfl rfl rfl aO aO (by first | (rw [Nat.zero_add, Int.toNat_natCast]) | (rw [Nat.zero_add]) | rfl) ?_)) | (refine zbd ?_; first | (refine za0 true (kH) rfl rfl rfl aS rfl aH ?_; simp only [cl]) | (refine za9 aA rfl ?_) | (refine zbc aA rfl rfl ?_) | (refine zba aA rfl ?_) | (refine zbb aA (evO_ok rfl) ?_)) | (refine zas (hK _ _ (.inl rfl) ?_); clear hK K) | (refine zas (hK _ _ (.inr (by kernel_rfl)) ?_); clear hK K))
      | (refine za3 ?_; first | (refine zbp ?_) | (refine zaj (fun K hK => ?_)) | (refine zan ?_) | (refine za4 ?_) | (refine zbq ?_) | (refine za1 ?_) | (refine zbg ?_; first | (refine zam rfl aD ?_) | (refine zal rfl aD ?_) | (refine zaz rfl (fun h => ?_) (fun h => ?_) <;> (have h' := h; (try simp only [sx] at h')))))
      | (refine za2 ?_) | (refine zai ?_) | (refine zae ?_) | (refine zaq ?_) | (refine zar ?_) | (refine zao ?_) | (refine zap rfl ?_) | (refine zab ?_) | (refine zag ?_) | (refine zbr ?_))
      all_goals first
        | (exfalso; omega)
        | exact zb1 rfl (zbn rfl) (by simp only [decide_eq_false hno])
  · rw [take_all hge] at hi2
    repeat' (first
      | (refine za5 ?_; first | (refine za6 ?_; refine zat _ rfl ?_) | (refine zad ?_; refine zaa _ rfl ?_) | (refine zbv ?_; first | (refine zby rfl rfl aO ?_) | (refine zbu _ rfl rfl rfl ?_) | (refine zaw _ rfl rfl rfl ?_)) | (refine g_un ?_; first | (refine zce rfl ?_) | (refine zcf rfl aO ?_)) | (refine zbf ?_; first | (refine zac aA rfl ?_) | (refine zah _ aA rfl rfl aE rfl ?_) | (refine zaf _ aA rfl aZ aL ?_) | (refine zak _ aA rfl rfl aE aZ aL ?_)) | (refine zbe ?_; first | (refine zau _ aA rfl rfl aO aA ?_) | (refine zav _ aA rfl rfl rfl rfl aO aO (by first | (rw [Nat.zero_add, Int.toNat_natCast]) | (rw [Nat.zero_add]) | rfl) ?_)) | (refine zbd ?_; first | (refine za9 aA rfl ?_) | (refine zbc aA rfl rfl ?_) | (refine zba aA rfl ?_) | (refine zbb aA (evO_ok rfl) ?_)) | (refine zas (hK _ _ (.inl rfl) ?_); clear hK K) | (refine zas (hK _ _ (.inr (by kernel_rfl)) ?_); clear hK K))
      | (refine za3 ?_; first | (refine zbp ?_) | (refine zaj (fun K hK => ?_)) | (refine zan ?_) | (refine za4 ?_) | (refine zbq ?_) | (refine za1 ?_) | (refine zbg ?_; first | (refine zam rfl aD ?_) | (refine zal rfl aD ?_) | (refine zaz rfl (fun h => ?_) (fun h => ?_) <;> (have h' := h; (try simp only [sx] at h')))))
      | (refine za2 ?_) | (refine zai ?_) | (refine zae ?_) | (refine zaq ?_) | (refine zar ?_) | (refine zao ?_) | (refine zap rfl ?_) | (refine zab ?_) | (refine zag ?_) | (refine zbr ?_))
    all_goals first
      | (exfalso; omega)
      | exact zb1 rfl (zbn rfl) (by simp only [decide_eq_true hi2])
end Go.Vs
set_option linter.unusedVariables false
set_option linter.unusedSimpArgs false
namespace Go.Vs
theorem vwp_mono {P : Program} : ∀ (c : Code) (s : St) (Q1 Q2 : Exit → St → Prop), (∀ e s, Q1 e s → Q2 e s) → vwp P c s Q1 → vwp P c s Q2 := by
  have emono : ∀ (ops : Array Oper) (draw : Bool) (l : List Oper) (s : St) (tr : List (List Id × List Id)) (K1 K2 : St → List (List Id × List Id) → Prop), (∀ s tr, K1 s tr → K2 s tr) → exec P ops draw l s tr K1 → exec P ops draw l s tr K2 := by
    intro ops draw l
    induction l with
    | nil => intro s tr K1 K2 hK h; exact hK _ _ h
    | cons o l ih =>
      intro s tr K1 K2 hK h
      rcases h with ⟨hw, h⟩ | ⟨hw, ⟨f, hs, h⟩ | ⟨t, al, fz, ids, rd, ios, Post, hc, ⟨hd, h⟩ | ⟨r, fin, hu, h⟩⟩⟩
      · exact .inl ⟨hw, ih _ _ _ _ hK h⟩
      · exact .inr ⟨hw, .inl ⟨f, hs, ih _ _ _ _ hK h⟩⟩
      · exact .inr ⟨hw, .inr ⟨t, al, fz, ids, rd, ios, Post, hc, .inl ⟨hd, fun r fin hp hl => ih _ _ _ _ hK (h r fin hp hl)⟩⟩⟩
      · exact .inr ⟨hw, .inr ⟨t, al, fz, ids, rd, ios, Post, hc, .inr ⟨r, fin, hu, ih _ _ _ _ hK h⟩⟩⟩
  intro c
  induction c with
  | skip => intro s Q1 Q2 hQ h; exact hQ _ _ h
  | ret => intro s Q1 Q2 hQ h; exact hQ _ _ h
  | exit id => intro s Q1 Q2 hQ h; exact hQ _ _ h
  | region id ops draw => intro s Q1 Q2 hQ h; exact emono ops draw _ _ _ _ _ (fun s tr h => ⟨h.1, hQ _ _ h.2⟩) h
  | seq x y ihx ihy =>
    intro s Q1 Q2 hQ h
    refine ihx s _ _ ?_ h
    intro e s he
    cases e with
    | normal => obtain ⟨s2, hs2, he⟩ := he; exact ⟨s2, hs2, ihy s2 _ _ hQ he⟩
    | _ => exact hQ _ _ he
  | cond c x y ihx ihy => intro s Q1 Q2 hQ h; obtain ⟨b, h0, h1, h2⟩ := h; exact ⟨b, h0, fun hb => ihx s _ _ hQ (h1 hb), fun hb => ihy s _ _ hQ (h2 hb)⟩
  | block id x ihx =>
    intro s Q1 Q2 hQ h
    refine ihx s _ _ ?_ h
    intro e s he
    cases e with
    | exit id' =>
      simp only at he ⊢
      split
      · rename_i hid; rw [if_pos hid] at he; exact hQ _ _ he
      · rename_i hid; rw [if_neg hid] at he; exact hQ _ _ he
    | _ => exact hQ _ _ he
  | loop x ihx =>
    intro s Q1 Q2 hQ h
    obtain ⟨I, m, s0, h0, h1, h2⟩ := h
    refine ⟨I, m, s0, h0, h1, fun s' hs' => ihx s' _ _ ?_ (h2 s' hs')⟩
    intro e s he
    cases e with
    | normal => exact he
    | _ => exact hQ _ _ he
  | _ => intro s Q1 Q2 hQ h; exact h.elim
def ckey : Code → Nat
  | .region id _ _ => id
  | .cond (.tmp t) _ _ => 1000000 + t
  | .block id _ => 2000000 + id
  | .seq x _ => 3000000 + ckey x
  | _ => 9000000
section
variable {P : Program} {st : St} {Q : Exit → St → Prop} {x y z : Code}
theorem v_seqN (d : Nat) (hd : Nat.beq (ckey x) d = false) (h : vwp P x st (thenQ P y Q)) : vwp P (.seq x y) st Q := zbp h
theorem v_cutK {α : Type} (live : List Nat) (no : List Id) (var : α → List (Nat × PV)) (memv : α → List (Id × Option Row)) (R : α → Prop)
    {kept : List (Nat × PV)} {keptM : List (Id × Option Row)} {full : α → List (Nat × PV)} {fullM : α → List (Id × Option Row)}
    (hk : keepO st.env live = some kept) (hkm : keepM st.mem no kept = some keptM) (hf : ∀ a, appO (var a) kept = some (full a)) (hfm : ∀ a, appO (memv a) keptM = some (fullM a))
    (hx : vwp P x st (loopQ (fun s => ∃ a', s = ⟨full a', fullM a'⟩ ∧ R a' ∧ (fun _ : α => 0) a' < 1) (fun _ => 0) 1 Q))
    (hy : ∀ a, R a → vwp P y ⟨full a, fullM a⟩ Q) : vwp P (.seq x y) st Q := by
  refine zbp (vwp_mono x st _ _ ?_ hx)
  intro e s he
  cases e with
  | normal =>
    obtain ⟨s3, h1, ⟨a, rfl, h2, _⟩, _⟩ := he
    exact ⟨_, h1, hy a h2⟩
  | _ => exact he
end
end Go.Vs
