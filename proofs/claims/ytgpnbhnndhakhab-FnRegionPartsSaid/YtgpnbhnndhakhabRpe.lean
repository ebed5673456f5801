/- Parts of a proof: what its last text mentions. -/
import Derived.Test.YtgpnbhnndhakhabRpd
set_option linter.unusedVariables false
set_option linter.unusedSimpArgs false
set_option maxRecDepth 100000
set_option maxHeartbeats 4000000
namespace Go.Vs
open Go.Proofs
attribute [local irreducible] exec vwp thenQ blkQ loopQ RetPost
noncomputable section
def paR (t : Terrain) (r : List Int) : List (List Int) := if RgOk t r then ptL t r (apB t) else []
def hoR (t : Terrain) (r : List Int) : List (List Int) := if RgOk t r then hlL t r else []
theorem ptL_len (t : Terrain) (cells : List Int) (st : Int → Int → Bool) : (ptL t cells st).length ≤ cells.length := by
  unfold ptL
  rw [List.length_map]
  exact List.length_filter_le _ _
theorem hlL_len (t : Terrain) (r : List Int) : (hlL t r).length ≤ t.burn.length := by
  unfold hlL
  exact Nat.le_trans (List.length_filter_le _ _) (Nat.le_trans (ptL_len _ _ _) (cellsL_len _ _))
theorem k_parts1 (t : Terrain) (a c : Int) (hg : GoodT t) (ha : IsCell t a) (hc : IsCell t c) : Con Try.prog 83 [.int .i64 a, .int .i64 c, .ptr t.pv] (.bool (apB t a c)) := by
  intro al
  refine zba hmix Try.func83 rfl (by kernel_rfl) (by kernel_rfl) (Nat.le_of_ble_eq_true rfl) (fun row h => by cases h) ?_
  have hty_a26 := ty_a26
  have kA := k_apart t a c hg ha hc
  repeat' (first
      | (refine zaz ?_; first | (refine za4 ?_; refine zas _ rfl ?_) | (refine zak ?_; refine zaa _ rfl ?_) | (refine zbu ?_; first | (refine zbs _ rfl rfl rfl ?_) | (refine zbr aA rfl rfl ?_) | (refine zav _ rfl rfl rfl ?_)) | (refine zbb ?_; first | (refine zab aA rfl ?_) | (refine zae _ aA rfl rfl aE rfl ?_) | (refine zac _ aA rfl aZ aL ?_) | (refine zad _ aA rfl rfl aE aZ aL ?_)) | (refine za9 ?_; refine zbc true (kA) rfl rfl rfl aS rfl aH ?_; simp only [cl]) | (refine zar (hK _ _ (.inl rfl) ?_); clear hK K) | (refine zar (hK _ _ (.inr (by kernel_rfl)) ?_); clear hK K))
      | (refine za3 ?_; first | (refine zbk ?_) | (refine zaf (fun K hK => ?_)) | (refine zap ?_) | (refine za0 ?_) | (refine zbj ?_) | (refine za1 ?_))
      | (refine za2 ?_) | (refine zag ?_) | (refine zaj ?_) | (refine zao ?_) | (refine zam ?_) | (refine zan ?_) | (refine zaq rfl ?_) | (refine zah ?_) | (refine zai ?_) | (refine zbi ?_))
  all_goals exact zb2 rfl (zbh rfl) (by rw [Bool.eq_iff_iff]; simp [apB])
theorem k_iPartsO (t : Terrain) (r : List Int) (hn : t.burn.length ≤ 1000000) (hm : r.length ≤ 1000000) : ConA Try.prog 25 [.agg t.pv, .list 1 (ints r)] (.tuple [.olist 24 1 (tabR (paR t r)), .bool (decide (RgOk t r))]) := by
  refine zba hmix Try.func25 rfl (by kernel_rfl) (by kernel_rfl) (Nat.le_of_ble_eq_true rfl) (fun row h => by cases h) ?_
  have hty_a26 := ty_a26
  have hty_s35 := ty_s35
  have hty_u35 := ty_u35
  have hty_u24 := ty_u24
  have hty_s24 := ty_s24
  have k1 := k_isRegion1 t r hn hm
  by_cases hok : RgOk t r
  · rw [decide_eq_true hok] at k1
    rw [paR, if_pos hok, decide_eq_true hok]
    have kP := k_piecesP t r 83 (apB t) (set_ap hok.cel) hok.up hn hm (fun a c ha hc => k_parts1 t a c hok.1 ha hc)
    repeat' (first
      | (refine zaz ?_; first | (refine za4 ?_; refine zas _ rfl ?_) | (refine zak ?_; refine zaa _ rfl ?_) | (refine g_un ?_; first | (refine zb7 rfl ?_) | (refine zb8 rfl aO ?_)) | (refine zbb ?_; first | (refine zab aA rfl ?_) | (refine zae _ aA rfl rfl aE rfl ?_) | (refine zac _ aA rfl aZ aL ?_) | (refine zad _ aA rfl rfl aE aZ aL ?_)) | (refine za9 ?_; first | (refine zbc true (k1) rfl rfl rfl aS rfl aH ?_; simp only [cl]) | (refine x_callA true (kP) rfl rfl rfl rfl rfl aS rfl aH ?_; simp only [cl])) | (refine zal aA rfl rfl rfl ?_) | (refine zbt _ _ rfl rfl rfl rfl ?_) | (refine zcm _ _ rfl rfl ?_) | (refine zar (hK _ _ (.inl rfl) ?_); clear hK K) | (refine zar (hK _ _ (.inr (by kernel_rfl)) ?_); clear hK K))
      | (refine za3 ?_; first | (refine zbk ?_) | (refine zaf (fun K hK => ?_)) | (refine zap ?_) | (refine za0 ?_) | (refine zbj ?_) | (refine za1 ?_) | (refine zbe ?_; first | (refine zat rfl aD ?_) | (refine zau rfl aD ?_) | (refine zay rfl (fun h => ?_) (fun h => ?_) <;> (have h' := h; (try simp only [sx] at h')))))
      | (refine za2 ?_) | (refine zag ?_) | (refine zaj ?_) | (refine zao ?_) | (refine zam ?_) | (refine zan ?_) | (refine zaq rfl ?_) | (refine zah ?_) | (refine zai ?_) | (refine zbi ?_))
    all_goals first
      | (exfalso; omega)
      | ((first | refine ret_TL rfl rfl rfl (by first | exact trivial | (repeat' (first | exact trivial | refine ⟨by assumption, ?_⟩))) (by repeat' (first | exact trivial | refine ⟨by simp, ?_⟩)) (by first | exact trivial | exact ⟨⟨rfl, rfl, fun h => by cases h⟩, trivial⟩) ?_ | refine ret_AL rfl rfl rfl (by first | exact trivial | (repeat' (first | exact trivial | refine ⟨by assumption, ?_⟩))) (by repeat' (first | exact trivial | refine ⟨by simp, ?_⟩)) (by first | exact trivial | exact ⟨⟨rfl, rfl, fun h => by cases h⟩, trivial⟩) ?_); (repeat' (first | exact et_end | exact el_end | refine et_int rfl ?_ ?_ | refine et_bool ?_ ?_ | refine et_str ?_ ?_ | refine et_lst rfl rfl ?_ ?_ | refine zcp rfl (by rfl) (by decide) rfl rfl ?_ ?_ ?_ | refine et_nil ?_ ?_ | refine et_agg0 ?_ ?_ | refine et_agg ?_ ?_ | refine el_int rfl ?_ ?_ | refine el_bool ?_ ?_ | refine el_str ?_ ?_ | refine el_lst rfl rfl ?_ ?_ | refine zco rfl (by rfl) (by decide) rfl rfl ?_ ?_ ?_ | refine el_nil ?_ ?_)) <;> (first | rfl | assumption | (simp; done) | omega))
  · rw [decide_eq_false hok] at k1
    rw [paR, if_neg hok, decide_eq_false hok]
    repeat' (first
      | (refine zaz ?_; first | (refine za4 ?_; refine zas _ rfl ?_) | (refine zak ?_; refine zaa _ rfl ?_) | (refine g_un ?_; first | (refine zb7 rfl ?_) | (refine zb8 rfl aO ?_)) | (refine zbb ?_; first | (refine zab aA rfl ?_) | (refine zae _ aA rfl rfl aE rfl ?_) | (refine zac _ aA rfl aZ aL ?_) | (refine zad _ aA rfl rfl aE aZ aL ?_)) | (refine za9 ?_; refine zbc true (k1) rfl rfl rfl aS rfl aH ?_; simp only [cl]) | (refine zal aA rfl rfl rfl ?_) | (refine zbt _ _ rfl rfl rfl rfl ?_) | (refine zcm _ _ rfl rfl ?_) | (refine zar (hK _ _ (.inl rfl) ?_); clear hK K) | (refine zar (hK _ _ (.inr (by kernel_rfl)) ?_); clear hK K))
      | (refine za3 ?_; first | (refine zbk ?_) | (refine zaf (fun K hK => ?_)) | (refine zap ?_) | (refine za0 ?_) | (refine zbj ?_) | (refine za1 ?_) | (refine zbe ?_; first | (refine zat rfl aD ?_) | (refine zau rfl aD ?_) | (refine zay rfl (fun h => ?_) (fun h => ?_) <;> (have h' := h; (try simp only [sx] at h')))))
      | (refine za2 ?_) | (refine zag ?_) | (refine zaj ?_) | (refine zao ?_) | (refine zam ?_) | (refine zan ?_) | (refine zaq rfl ?_) | (refine zah ?_) | (refine zai ?_) | (refine zbi ?_))
    all_goals first
      | (exfalso; omega)
      | ((first | refine ret_TL rfl rfl rfl (by first | exact trivial | (repeat' (first | exact trivial | refine ⟨by assumption, ?_⟩))) (by repeat' (first | exact trivial | refine ⟨by simp, ?_⟩)) (by first | exact trivial | exact ⟨⟨rfl, rfl, fun h => by cases h⟩, trivial⟩) ?_ | refine ret_AL rfl rfl rfl (by first | exact trivial | (repeat' (first | exact trivial | refine ⟨by assumption, ?_⟩))) (by repeat' (first | exact trivial | refine ⟨by simp, ?_⟩)) (by first | exact trivial | exact ⟨⟨rfl, rfl, fun h => by cases h⟩, trivial⟩) ?_); (repeat' (first | exact et_end | exact el_end | refine et_int rfl ?_ ?_ | refine et_bool ?_ ?_ | refine et_str ?_ ?_ | refine et_lst rfl rfl ?_ ?_ | refine zcp rfl (by rfl) (by decide) rfl rfl ?_ ?_ ?_ | refine et_nil ?_ ?_ | refine et_agg0 ?_ ?_ | refine et_agg ?_ ?_ | refine el_int rfl ?_ ?_ | refine el_bool ?_ ?_ | refine el_str ?_ ?_ | refine el_lst rfl rfl ?_ ?_ | refine zco rfl (by rfl) (by decide) rfl rfl ?_ ?_ ?_ | refine el_nil ?_ ?_)) <;> (first | rfl | assumption | (simp; done) | omega))
theorem k_sPartsO (t : Terrain) (r : List Int) (hn : t.burn.length ≤ 1000000) (hm : r.length ≤ 1000000) : ConA Try.prog 26 [.agg t.pv, .list 1 (ints r)] (.tuple [.olist 24 1 (tabR (paR t r)), .bool (decide (RgOk t r))]) := by
  refine zba hmix Try.func26 rfl (by kernel_rfl) (by kernel_rfl) (Nat.le_of_ble_eq_true rfl) (fun row h => by cases h) ?_
  have hty_s35 := ty_s35
  have hty_a26 := ty_a26
  have hty_u24 := ty_u24
  have hty_s24 := ty_s24
  have hty_c3 := ty_c3
  have hty_u35 := ty_u35
  have k1 := k_set1 t r hn hm
  have hl1 : (ints r).length = r.length := by simp
  by_cases hok : RgOk t r
  · rw [decide_eq_true hok] at k1
    rw [paR, if_pos hok, decide_eq_true hok]
    have hS := set_ap hok.cel
    repeat' (first
      | (refine zaz ?_; first | (refine za4 ?_; refine zas _ rfl ?_) | (refine zak ?_; refine zaa _ rfl ?_) | (refine zbu ?_; first | (refine zb0 rfl rfl aO ?_) | (refine zbs _ rfl rfl rfl ?_) | (refine zbr aA rfl rfl ?_) | (refine zav _ rfl rfl rfl ?_)) | (refine g_un ?_; first | (refine zb7 rfl ?_) | (refine zb8 rfl aO ?_)) | (refine zbb ?_; first | (refine zab aA rfl ?_) | (refine zae _ aA rfl rfl aE rfl ?_) | (refine zac _ aA rfl aZ aL ?_) | (refine zad _ aA rfl rfl aE aZ aL ?_)) | (refine zbd ?_; first | (refine zax _ aA rfl rfl aO aA ?_) | (refine zaw _ aA rfl rfl rfl rfl aO aO (by first | (rw [Nat.zero_add, Int.toNat_natCast]) | (rw [Nat.zero_add]) | rfl) ?_)) | (refine za9 ?_; first | (refine zbc true (k1) rfl rfl rfl aS rfl aH ?_; simp only [cl]) | (refine za8 aA rfl ?_) | (refine za6 aA rfl rfl ?_) | (refine za5 aA rfl ?_) | (refine za7 aA (evO_ok rfl) ?_) | (refine zbx _ _ aA rfl (lookM (by rfl)) rfl (lookM (by rfl)) rfl aN ⟨rfl, rfl, by decide, by decide⟩ (by first | rfl | omega | (simp; done) | (simp; omega) | fail) ⟨by first | (simp only [List.length_cons, List.length_nil]; omega) | omega | fail, by decide⟩ rfl (by first | (first | (simp only [lx, Nat.reduceAdd]; first | done | rfl) | fail) | rfl) aP ?_) | (refine zbw _ _ aA rfl rfl (lookM (by rfl)) ⟨rfl, by decide⟩ aN (by first | exact Nat.succ_pos _ | omega | (simp; done)) ⟨by first | (simp only [List.length_cons, List.length_nil]; omega) | omega | fail, by decide⟩ rfl rfl aP ?_) | (refine zbv _ aA rfl rfl (lookM (by rfl)) ⟨rfl, by decide⟩ aN ⟨by first | (simp only [List.length_cons, List.length_nil]; omega) | omega | fail, by decide⟩ rfl aP ?_) | (refine zbl _ aA rfl rfl rfl ⟨rfl, rfl, rfl, by decide, by decide⟩ (by first | rfl | (simp; done) | fail) ⟨by omega, by decide⟩ rfl aL (by first | (rw [Nat.zero_add]) | rfl) ?_)) | (refine zal aA rfl rfl rfl ?_) | (refine zbt _ _ rfl rfl rfl rfl ?_) | (refine zar (hK _ _ (.inl rfl) ?_); clear hK K) | (refine zar (hK _ _ (.inr (by kernel_rfl)) ?_); clear hK K))
      | (refine za3 ?_; first | (refine zbk ?_) | (refine zaf (fun K hK => ?_)) | (refine zap ?_) | (refine za0 ?_) | (refine zbj ?_) | (refine za1 ?_) | (refine zbe ?_; first | (refine zat rfl aD ?_) | (refine zau rfl aD ?_) | (refine zay rfl (fun h => ?_) (fun h => ?_) <;> (have h' := h; (try simp only [sx] at h')))))
      | (refine za2 ?_) | (refine zag ?_) | (refine zaj ?_) | (refine zao ?_) | (refine zam ?_) | (refine zan ?_) | (refine zaq rfl ?_) | (refine zah ?_) | (refine zai ?_) | (refine zbi ?_))
    all_goals try (exfalso; omega)
    refine zcd [1, 2] [] (fun q : Nat × List (List PV) × Nat => [(6, .osl (1001, 0) 0 q.2.2), (7, .int .i64 q.1)]) (fun q : Nat × List (List PV) × Nat => [((1001, 0), some ⟨24, 1, q.2.1, false⟩)]) (fun q : Nat × List (List PV) × Nat => q.1 ≤ r.length ∧ q.2.1 = tabR (((r.take q.1).filter (hdB t r (apB t))).map (cmp t r (apB t))) ∧ q.2.1.length = q.2.2) (fun q : Nat × List (List PV) × Nat => r.length - q.1) ((0, [], 0)) rfl rfl (fun _ => rfl) (fun _ => rfl) rfl aW ⟨by simp, by simp [tabR], rfl⟩ (fun q hq => ?_)
    obtain ⟨i, es, m⟩ := q
    obtain ⟨hi, hes, hem⟩ := hq
    simp only at hi hes hem
    dsimp only
    have hle : es.length ≤ i := by rw [hes, tabR_len, List.length_map]; exact Nat.le_trans (List.length_filter_le _ _) (by rw [List.length_take]; omega)
    rcases Nat.lt_or_ge i r.length with hlt | hge
    · obtain ⟨c, hgc⟩ := get_ex hlt
      have hx := ints_at hgc
      have hcm := get_mem hgc
      have kS := (k_l6SpreadI t r c hok.1 (hok.cel c hcm) hm (by simpa using hcm)).frzF (ints_flat _)
      rw [show flL t (inP r (apB t)) [c] = cmp t r (apB t) c from rfl] at kS
      obtain ⟨a, h1, h2, h3, h4, h5⟩ := cmp_head hS hcm
      have hhd : hdB t r (apB t) c = decide (a = c) := by
        unfold hdB
        rw [h1, Bool.eq_iff_iff, decide_eq_true_eq, decide_eq_true_eq]
        exact ⟨fun h => Option.some.inj h, fun h => by rw [h]⟩
      have hy := ints_at h1
      have hcl := List.length_pos_of_mem h4
      have hcl2 : (ints (cmp t r (apB t) c)).length = (cmp t r (apB t) c).length := by simp
      have e1 : hdB t r (apB t) c = true → tabR (((r.take (i + 1)).filter (hdB t r (apB t))).map (cmp t r (apB t))) = es ++ [[.list 1 (ints (cmp t r (apB t) c))]] := fun h => by rw [filter_take_t hgc h, List.map_append, hes]; exact tabR_snoc _ _
      have e2 : hdB t r (apB t) c = false → tabR (((r.take (i + 1)).filter (hdB t r (apB t))).map (cmp t r (apB t))) = es := fun h => by rw [filter_take_f hgc h, hes]
      generalize cmp t r (apB t) c = R at *
      by_cases hac : a = c
      · have e1 := e1 (by rw [hhd, decide_eq_true hac])
        repeat' (first
      | (refine zaz ?_; first | (refine za4 ?_; refine zas _ rfl ?_) | (refine zak ?_; refine zaa _ rfl ?_) | (refine zbu ?_; first | (refine zb0 rfl rfl aO ?_) | (refine zbs _ rfl rfl rfl ?_) | (refine zbr aA rfl rfl ?_) | (refine zav _ rfl rfl rfl ?_)) | (refine g_un ?_; first | (refine zb7 rfl ?_) | (refine zb8 rfl aO ?_)) | (refine zbb ?_; first | (refine zab aA rfl ?_) | (refine zae _ aA rfl rfl aE rfl ?_) | (refine zac _ aA rfl aZ aL ?_) | (refine zad _ aA rfl rfl aE aZ aL ?_)) | (refine zbd ?_; first | (refine zax _ aA rfl rfl aO aA ?_) | (refine zaw _ aA rfl rfl rfl rfl aO aO (by first | (rw [Nat.zero_add, Int.toNat_natCast]) | (rw [Nat.zero_add]) | rfl) ?_)) | (refine za9 ?_; first | (refine zbc true (kS) rfl rfl rfl aS rfl aH ?_; simp only [cl]) | (refine za8 aA rfl ?_) | (refine za6 aA rfl rfl ?_) | (refine za5 aA rfl ?_) | (refine za7 aA (evO_ok rfl) ?_) | (refine zbx _ _ aA rfl (lookM (by rfl)) rfl (lookM (by rfl)) rfl aN ⟨rfl, rfl, by decide, by decide⟩ (by first | rfl | omega | (simp; done) | (simp; omega) | fail) ⟨by first | (simp only [List.length_cons, List.length_nil]; omega) | omega | fail, by decide⟩ rfl (by first | (first | (simp only [lx, Nat.reduceAdd]; first | done | rfl) | fail) | rfl) aP ?_) | (refine zbw _ _ aA rfl rfl (lookM (by rfl)) ⟨rfl, by decide⟩ aN (by first | exact Nat.succ_pos _ | omega | (simp; done)) ⟨by first | (simp only [List.length_cons, List.length_nil]; omega) | omega | fail, by decide⟩ rfl rfl aP ?_) | (refine zbv _ aA rfl rfl (lookM (by rfl)) ⟨rfl, by decide⟩ aN ⟨by first | (simp only [List.length_cons, List.length_nil]; omega) | omega | fail, by decide⟩ rfl aP ?_) | (refine zbl _ aA rfl rfl rfl ⟨rfl, rfl, rfl, by decide, by decide⟩ (by first | rfl | (simp; done) | fail) ⟨by omega, by decide⟩ rfl aL (by first | (rw [Nat.zero_add]) | rfl) ?_)) | (refine zal aA rfl rfl rfl ?_) | (refine zbt _ _ rfl rfl rfl rfl ?_) | (refine zar (hK _ _ (.inl rfl) ?_); clear hK K) | (refine zar (hK _ _ (.inr (by kernel_rfl)) ?_); clear hK K))
      | (refine za3 ?_; first | (refine zbk ?_) | (refine zaf (fun K hK => ?_)) | (refine zap ?_) | (refine za0 ?_) | (refine zbj ?_) | (refine za1 ?_) | (refine zbe ?_; first | (refine zat rfl aD ?_) | (refine zau rfl aD ?_) | (refine zay rfl (fun h => ?_) (fun h => ?_) <;> (have h' := h; (try simp only [sx] at h')))))
      | (refine za2 ?_) | (refine zag ?_) | (refine zaj ?_) | (refine zao ?_) | (refine zam ?_) | (refine zan ?_) | (refine zaq rfl ?_) | (refine zah ?_) | (refine zai ?_) | (refine zbi ?_))
        all_goals first
          | (exfalso; omega)
          | (refine zb6 (i + 1, es ++ [[.list 1 (ints R)]], m + 1) rfl aW ⟨by simp only; omega, e1.symm, by simp [hem]⟩ (by simp only; omega))
      · have e2 := e2 (by rw [hhd, decide_eq_false hac])
        repeat' (first
      | (refine zaz ?_; first | (refine za4 ?_; refine zas _ rfl ?_) | (refine zak ?_; refine zaa _ rfl ?_) | (refine zbu ?_; first | (refine zb0 rfl rfl aO ?_) | (refine zbs _ rfl rfl rfl ?_) | (refine zbr aA rfl rfl ?_) | (refine zav _ rfl rfl rfl ?_)) | (refine g_un ?_; first | (refine zb7 rfl ?_) | (refine zb8 rfl aO ?_)) | (refine zbb ?_; first | (refine zab aA rfl ?_) | (refine zae _ aA rfl rfl aE rfl ?_) | (refine zac _ aA rfl aZ aL ?_) | (refine zad _ aA rfl rfl aE aZ aL ?_)) | (refine zbd ?_; first | (refine zax _ aA rfl rfl aO aA ?_) | (refine zaw _ aA rfl rfl rfl rfl aO aO (by first | (rw [Nat.zero_add, Int.toNat_natCast]) | (rw [Nat.zero_add]) | rfl) ?_)) | (refine za9 ?_; first | (refine zbc true (kS) rfl rfl rfl aS rfl aH ?_; simp only [cl]) | (refine za8 aA rfl ?_) | (refine za6 aA rfl rfl ?_) | (refine za5 aA rfl ?_) | (refine za7 aA (evO_ok rfl) ?_) | (refine zbx _ _ aA rfl (lookM (by rfl)) rfl (lookM (by rfl)) rfl aN ⟨rfl, rfl, by decide, by decide⟩ (by first | rfl | omega | (simp; done) | (simp; omega) | fail) ⟨by first | (simp only [List.length_cons, List.length_nil]; omega) | omega | fail, by decide⟩ rfl (by first | (first | (simp only [lx, Nat.reduceAdd]; first | done | rfl) | fail) | rfl) aP ?_) | (refine zbw _ _ aA rfl rfl (lookM (by rfl)) ⟨rfl, by decide⟩ aN (by first | exact Nat.succ_pos _ | omega | (simp; done)) ⟨by first | (simp only [List.length_cons, List.length_nil]; omega) | omega | fail, by decide⟩ rfl rfl aP ?_) | (refine zbv _ aA rfl rfl (lookM (by rfl)) ⟨rfl, by decide⟩ aN ⟨by first | (simp only [List.length_cons, List.length_nil]; omega) | omega | fail, by decide⟩ rfl aP ?_) | (refine zbl _ aA rfl rfl rfl ⟨rfl, rfl, rfl, by decide, by decide⟩ (by first | rfl | (simp; done) | fail) ⟨by omega, by decide⟩ rfl aL (by first | (rw [Nat.zero_add]) | rfl) ?_)) | (refine zal aA rfl rfl rfl ?_) | (refine zbt _ _ rfl rfl rfl rfl ?_) | (refine zar (hK _ _ (.inl rfl) ?_); clear hK K) | (refine zar (hK _ _ (.inr (by kernel_rfl)) ?_); clear hK K))
      | (refine za3 ?_; first | (refine zbk ?_) | (refine zaf (fun K hK => ?_)) | (refine zap ?_) | (refine za0 ?_) | (refine zbj ?_) | (refine za1 ?_) | (refine zbe ?_; first | (refine zat rfl aD ?_) | (refine zau rfl aD ?_) | (refine zay rfl (fun h => ?_) (fun h => ?_) <;> (have h' := h; (try simp only [sx] at h')))))
      | (refine za2 ?_) | (refine zag ?_) | (refine zaj ?_) | (refine zao ?_) | (refine zam ?_) | (refine zan ?_) | (refine zaq rfl ?_) | (refine zah ?_) | (refine zai ?_) | (refine zbi ?_))
        all_goals first
          | (exfalso; omega)
          | (refine zb6 (i + 1, es, m) rfl aW ⟨by simp only; omega, e2.symm, hem⟩ (by simp only; omega))
    · rw [take_all hge] at hes
      have hes : es = tabR (ptL t r (apB t)) := hes
      have hem := hem.symm
      repeat' (first
      | (refine zaz ?_; first | (refine za4 ?_; refine zas _ rfl ?_) | (refine zak ?_; refine zaa _ rfl ?_) | (refine zbu ?_; first | (refine zb0 rfl rfl aO ?_) | (refine zbs _ rfl rfl rfl ?_) | (refine zbr aA rfl rfl ?_) | (refine zav _ rfl rfl rfl ?_)) | (refine g_un ?_; first | (refine zb7 rfl ?_) | (refine zb8 rfl aO ?_)) | (refine zbb ?_; first | (refine zab aA rfl ?_) | (refine zae _ aA rfl rfl aE rfl ?_) | (refine zac _ aA rfl aZ aL ?_) | (refine zad _ aA rfl rfl aE aZ aL ?_)) | (refine zbd ?_; first | (refine zax _ aA rfl rfl aO aA ?_) | (refine zaw _ aA rfl rfl rfl rfl aO aO (by first | (rw [Nat.zero_add, Int.toNat_natCast]) | (rw [Nat.zero_add]) | rfl) ?_)) | (refine za9 ?_; first | (refine za8 aA rfl ?_) | (refine za6 aA rfl rfl ?_) | (refine za5 aA rfl ?_) | (refine za7 aA (evO_ok rfl) ?_) | (refine zbx _ _ aA rfl (lookM (by rfl)) rfl (lookM (by rfl)) rfl aN ⟨rfl, rfl, by decide, by decide⟩ (by first | rfl | omega | (simp; done) | (simp; omega) | fail) ⟨by first | (simp only [List.length_cons, List.length_nil]; omega) | omega | fail, by decide⟩ rfl (by first | (first | (simp only [lx, Nat.reduceAdd]; first | done | rfl) | fail) | rfl) aP ?_) | (refine zbw _ _ aA rfl rfl (lookM (by rfl)) ⟨rfl, by decide⟩ aN (by first | exact Nat.succ_pos _ | omega | (simp; done)) ⟨by first | (simp only [List.length_cons, List.length_nil]; omega) | omega | fail, by decide⟩ rfl rfl aP ?_) | (refine zbv _ aA rfl rfl (lookM (by rfl)) ⟨rfl, by decide⟩ aN ⟨by first | (simp only [List.length_cons, List.length_nil]; omega) | omega | fail, by decide⟩ rfl aP ?_) | (refine zbl _ aA rfl rfl rfl ⟨rfl, rfl, rfl, by decide, by decide⟩ (by first | rfl | (simp; done) | fail) ⟨by omega, by decide⟩ rfl aL (by first | (rw [Nat.zero_add]) | rfl) ?_)) | (refine zal aA rfl rfl rfl ?_) | (refine zbt _ _ rfl rfl rfl rfl ?_) | (refine zar (hK _ _ (.inl rfl) ?_); clear hK K) | (refine zar (hK _ _ (.inr (by kernel_rfl)) ?_); clear hK K))
      | (refine za3 ?_; first | (refine zbk ?_) | (refine zaf (fun K hK => ?_)) | (refine zap ?_) | (refine za0 ?_) | (refine zbj ?_) | (refine za1 ?_) | (refine zbe ?_; first | (refine zat rfl aD ?_) | (refine zau rfl aD ?_) | (refine zay rfl (fun h => ?_) (fun h => ?_) <;> (have h' := h; (try simp only [sx] at h')))))
      | (refine za2 ?_) | (refine zag ?_) | (refine zaj ?_) | (refine zao ?_) | (refine zam ?_) | (refine zan ?_) | (refine zaq rfl ?_) | (refine zah ?_) | (refine zai ?_) | (refine zbi ?_))
      all_goals first
        | (exfalso; omega)
        | ((first | refine ret_TL rfl rfl rfl (by first | exact trivial | (repeat' (first | exact trivial | refine ⟨by assumption, ?_⟩))) (by repeat' (first | exact trivial | refine ⟨by simp, ?_⟩)) (by first | exact trivial | exact ⟨⟨rfl, rfl, fun h => by cases h⟩, trivial⟩) ?_ | refine ret_AL rfl rfl rfl (by first | exact trivial | (repeat' (first | exact trivial | refine ⟨by assumption, ?_⟩))) (by repeat' (first | exact trivial | refine ⟨by simp, ?_⟩)) (by first | exact trivial | exact ⟨⟨rfl, rfl, fun h => by cases h⟩, trivial⟩) ?_); (repeat' (first | exact et_end | exact el_end | refine et_int rfl ?_ ?_ | refine et_bool ?_ ?_ | refine et_str ?_ ?_ | refine et_lst rfl rfl ?_ ?_ | refine zcp rfl (by rfl) (by decide) rfl rfl ?_ ?_ ?_ | refine et_nil ?_ ?_ | refine et_agg0 ?_ ?_ | refine et_agg ?_ ?_ | refine el_int rfl ?_ ?_ | refine el_bool ?_ ?_ | refine el_str ?_ ?_ | refine el_lst rfl rfl ?_ ?_ | refine zco rfl (by rfl) (by decide) rfl rfl ?_ ?_ ?_ | refine el_nil ?_ ?_)) <;> (first | rfl | assumption | (simp; done) | omega))
  · rw [decide_eq_false hok] at k1
    rw [paR, if_neg hok, decide_eq_false hok]
    repeat' (first
      | (refine zaz ?_; first | (refine za4 ?_; refine zas _ rfl ?_) | (refine zak ?_; refine zaa _ rfl ?_) | (refine zbu ?_; first | (refine zb0 rfl rfl aO ?_) | (refine zbs _ rfl rfl rfl ?_) | (refine zbr aA rfl rfl ?_) | (refine zav _ rfl rfl rfl ?_)) | (refine g_un ?_; first | (refine zb7 rfl ?_) | (refine zb8 rfl aO ?_)) | (refine zbb ?_; first | (refine zab aA rfl ?_) | (refine zae _ aA rfl rfl aE rfl ?_) | (refine zac _ aA rfl aZ aL ?_) | (refine zad _ aA rfl rfl aE aZ aL ?_)) | (refine zbd ?_; first | (refine zax _ aA rfl rfl aO aA ?_) | (refine zaw _ aA rfl rfl rfl rfl aO aO (by first | (rw [Nat.zero_add, Int.toNat_natCast]) | (rw [Nat.zero_add]) | rfl) ?_)) | (refine za9 ?_; first | (refine zbc true (k1) rfl rfl rfl aS rfl aH ?_; simp only [cl]) | (refine za8 aA rfl ?_) | (refine za6 aA rfl rfl ?_) | (refine za5 aA rfl ?_) | (refine za7 aA (evO_ok rfl) ?_) | (refine zbx _ _ aA rfl (lookM (by rfl)) rfl (lookM (by rfl)) rfl aN ⟨rfl, rfl, by decide, by decide⟩ (by first | rfl | omega | (simp; done) | (simp; omega) | fail) ⟨by first | (simp only [List.length_cons, List.length_nil]; omega) | omega | fail, by decide⟩ rfl (by first | (first | (simp only [lx, Nat.reduceAdd]; first | done | rfl) | fail) | rfl) aP ?_) | (refine zbw _ _ aA rfl rfl (lookM (by rfl)) ⟨rfl, by decide⟩ aN (by first | exact Nat.succ_pos _ | omega | (simp; done)) ⟨by first | (simp only [List.length_cons, List.length_nil]; omega) | omega | fail, by decide⟩ rfl rfl aP ?_) | (refine zbv _ aA rfl rfl (lookM (by rfl)) ⟨rfl, by decide⟩ aN ⟨by first | (simp only [List.length_cons, List.length_nil]; omega) | omega | fail, by decide⟩ rfl aP ?_) | (refine zbl _ aA rfl rfl rfl ⟨rfl, rfl, rfl, by decide, by decide⟩ (by first | rfl | (simp; done) | fail) ⟨by omega, by decide⟩ rfl aL (by first | (rw [Nat.zero_add]) | rfl) ?_)) | (refine zal aA rfl rfl rfl ?_) | (refine zbt _ _ rfl rfl rfl rfl ?_) | (refine zar (hK _ _ (.inl rfl) ?_); clear hK K) | (refine zar (hK _ _ (.inr (by kernel_rfl)) ?_); clear hK K))
      | (refine za3 ?_; first | (refine zbk ?_) | (refine zaf (fun K hK => ?_)) | (refine zap ?_) | (refine za0 ?_) | (refine zbj ?_) | (refine za1 ?_) | (refine zbe ?_; first | (refine zat rfl aD ?_) | (refine zau rfl aD ?_) | (refine zay rfl (fun h => ?_) (fun h => ?_) <;> (have h' := h; (try simp only [sx] at h')))))
      | (refine za2 ?_) | (refine zag ?_) | (refine zaj ?_) | (refine zao ?_) | (refine zam ?_) | (refine zan ?_) | (refine zaq rfl ?_) | (refine zah ?_) | (refine zai ?_) | (refine zbi ?_))
    all_goals first
      | (exfalso; omega)
      | ((first | refine ret_TL rfl rfl rfl (by first | exact trivial | (repeat' (first | exact trivial | refine ⟨by assumption, ?_⟩))) (by repeat' (first | exact trivial | refine ⟨by simp, ?_⟩)) (by first | exact trivial | exact ⟨⟨rfl, rfl, fun h => by cases h⟩, trivial⟩) ?_ | refine ret_AL rfl rfl rfl (by first | exact trivial | (repeat' (first | exact trivial | refine ⟨by assumption, ?_⟩))) (by repeat' (first | exact trivial | refine ⟨by simp, ?_⟩)) (by first | exact trivial | exact ⟨⟨rfl, rfl, fun h => by cases h⟩, trivial⟩) ?_); (repeat' (first | exact et_end | exact el_end | refine et_int rfl ?_ ?_ | refine et_bool ?_ ?_ | refine et_str ?_ ?_ | refine et_lst rfl rfl ?_ ?_ | refine zcp rfl (by rfl) (by decide) rfl rfl ?_ ?_ ?_ | refine et_nil ?_ ?_ | refine et_agg0 ?_ ?_ | refine et_agg ?_ ?_ | refine el_int rfl ?_ ?_ | refine el_bool ?_ ?_ | refine el_str ?_ ?_ | refine el_lst rfl rfl ?_ ?_ | refine zco rfl (by rfl) (by decide) rfl rfl ?_ ?_ ?_ | refine el_nil ?_ ?_)) <;> (first | rfl | assumption | (simp; done) | omega))
theorem k_holes1 (r : List Int) (c : Nat) (hm : r.length ≤ 1000000) : Con Try.prog 128 [.int .i64 (c : Int), .ptr [.list 1 (ints r)]] (.bool (ouB r c)) := by
  intro al
  refine zba hmix Try.func128 rfl (by kernel_rfl) (by kernel_rfl) (Nat.le_of_ble_eq_true rfl) (fun row h => by cases h) ?_
  have hty_c24 := ty_c24
  have hty_u24 := ty_u24
  have hty_s24 := ty_s24
  have kH := k_hasInt r (c : Int) aO
  repeat' (first
      | (refine zaz ?_; first | (refine za4 ?_; refine zas _ rfl ?_) | (refine zak ?_; refine zaa _ rfl ?_) | (refine g_un ?_; first | (refine zb7 rfl ?_) | (refine zb8 rfl aO ?_)) | (refine zbb ?_; first | (refine zab aA rfl ?_) | (refine zae _ aA rfl rfl aE rfl ?_) | (refine zac _ aA rfl aZ aL ?_) | (refine zad _ aA rfl rfl aE aZ aL ?_)) | (refine za9 ?_; refine zbc true (kH) rfl rfl rfl aS rfl aH ?_; simp only [cl]) | (refine zar (hK _ _ (.inl rfl) ?_); clear hK K) | (refine zar (hK _ _ (.inr (by kernel_rfl)) ?_); clear hK K))
      | (refine za3 ?_; first | (refine zbk ?_) | (refine zaf (fun K hK => ?_)) | (refine zap ?_) | (refine za0 ?_) | (refine zbj ?_) | (refine za1 ?_))
      | (refine za2 ?_) | (refine zag ?_) | (refine zaj ?_) | (refine zao ?_) | (refine zam ?_) | (refine zan ?_) | (refine zaq rfl ?_) | (refine zah ?_) | (refine zai ?_) | (refine zbi ?_))
  all_goals exact zb2 rfl (zbh rfl) (by rw [Bool.eq_iff_iff]; simp [ouB])
theorem k_holes21 (t : Terrain) (c : Int) (hg : GoodT t) (hc : IsCell t c) : Con Try.prog 131 [.int .i64 c, .ptr t.pv] (.bool (!bordB t c)) := by
  intro al
  refine zba hmix Try.func131 rfl (by kernel_rfl) (by kernel_rfl) (Nat.le_of_ble_eq_true rfl) (fun row h => by cases h) ?_
  have hty_a26 := ty_a26
  have kB := k_isBorder t c hg hc
  generalize bordB t c = b at *
  repeat' (first
      | (refine zaz ?_; first | (refine za4 ?_; refine zas _ rfl ?_) | (refine zak ?_; refine zaa _ rfl ?_) | (refine g_un ?_; first | (refine zb7 rfl ?_) | (refine zb8 rfl aO ?_)) | (refine zbb ?_; first | (refine zab aA rfl ?_) | (refine zae _ aA rfl rfl aE rfl ?_) | (refine zac _ aA rfl aZ aL ?_) | (refine zad _ aA rfl rfl aE aZ aL ?_)) | (refine za9 ?_; refine zbc true (kB) rfl rfl rfl aS rfl aH ?_; simp only [cl]) | (refine zar (hK _ _ (.inl rfl) ?_); clear hK K) | (refine zar (hK _ _ (.inr (by kernel_rfl)) ?_); clear hK K))
      | (refine za3 ?_; first | (refine zbk ?_) | (refine zaf (fun K hK => ?_)) | (refine zap ?_) | (refine za0 ?_) | (refine zbj ?_) | (refine za1 ?_))
      | (refine za2 ?_) | (refine zag ?_) | (refine zaj ?_) | (refine zao ?_) | (refine zam ?_) | (refine zan ?_) | (refine zaq rfl ?_) | (refine zah ?_) | (refine zai ?_) | (refine zbi ?_))
  all_goals exact zb2 rfl (zbh rfl) rfl
theorem k_holes2 (t : Terrain) (p : List Int) (hg : GoodT t) (hc : ∀ c ∈ p, IsCell t c) (hm : p.length ≤ 1000000) : Con Try.prog 130 [.list 1 (ints p), .ptr t.pv] (.bool (innB t p)) := by
  intro al
  refine zba hmix Try.func130 rfl (by kernel_rfl) (by kernel_rfl) (Nat.le_of_ble_eq_true rfl) (fun row h => by cases h) ?_
  have hty_u24 := ty_u24
  have hty_s24 := ty_s24
  have kA := k_allInt p 131 [t.pv] (fun c => !bordB t c) (fun c h => k_holes21 t c hg (hc c h)) aO
  repeat' (first
      | (refine zaz ?_; first | (refine za4 ?_; refine zas _ rfl ?_) | (refine zak ?_; refine zaa _ rfl ?_) | (refine za9 ?_; refine zbc true (kA) rfl rfl rfl aS rfl aH ?_; simp only [cl]) | (refine zcm _ _ rfl rfl ?_) | (refine zar (hK _ _ (.inl rfl) ?_); clear hK K) | (refine zar (hK _ _ (.inr (by kernel_rfl)) ?_); clear hK K))
      | (refine za3 ?_; first | (refine zbk ?_) | (refine zaf (fun K hK => ?_)) | (refine zap ?_) | (refine za0 ?_) | (refine zbj ?_) | (refine za1 ?_))
      | (refine za2 ?_) | (refine zag ?_) | (refine zaj ?_) | (refine zao ?_) | (refine zam ?_) | (refine zan ?_) | (refine zaq rfl ?_) | (refine zah ?_) | (refine zai ?_) | (refine zbi ?_))
  all_goals exact zb2 rfl (zbh rfl) rfl
theorem k_filterR (t : Terrain) (xs : List (List Int)) (g : FuncId) (p : List Int → Bool) (hg : ∀ a ∈ xs, Con Try.prog g [.list 1 (ints a), .ptr t.pv] (.bool (p a))) (hn : xs.length ≤ 1000000) :
    ConA Try.prog 129 [.list 1 (tabR xs), .fn g [] [.ptr t.pv]] (.olist 24 1 (tabR (xs.filter p))) := by
  refine zba hmix Try.func129 rfl (by kernel_rfl) (by kernel_rfl) (Nat.le_of_ble_eq_true rfl) (fun row h => by cases h) ?_
  have hty_s35 := ty_s35
  have hty_u35 := ty_u35
  have hty_c24 := ty_c24
  have hty_u24 := ty_u24
  have hty_s24 := ty_s24
  have hl1 := tabR_len xs
  repeat' (first
      | (refine zaz ?_; first | (refine za4 ?_; refine zas _ rfl ?_) | (refine zak ?_; refine zaa _ rfl ?_) | (refine zbu ?_; first | (refine zb0 rfl rfl aO ?_) | (refine zbs _ rfl rfl rfl ?_) | (refine zav _ rfl rfl rfl ?_)) | (refine zbb ?_; first | (refine zab aA rfl ?_) | (refine zae _ aA rfl rfl aE rfl ?_) | (refine zac _ aA rfl aZ aL ?_) | (refine zad _ aA rfl rfl aE aZ aL ?_)) | (refine zbd ?_; first | (refine zax _ aA rfl rfl aO aA ?_) | (refine zaw _ aA rfl rfl rfl rfl aO aO (by first | (rw [Nat.zero_add, Int.toNat_natCast]) | (rw [Nat.zero_add]) | rfl) ?_)) | (refine za9 ?_; first | (refine za8 aA rfl ?_) | (refine za6 aA rfl rfl ?_) | (refine za5 aA rfl ?_) | (refine za7 aA (evO_ok rfl) ?_) | (refine zbx _ _ aA rfl (lookM (by rfl)) rfl (lookM (by rfl)) rfl aN ⟨rfl, rfl, by decide, by decide⟩ (by first | rfl | omega | (simp; done) | (simp; omega) | fail) ⟨by first | (simp only [List.length_cons, List.length_nil]; omega) | omega | fail, by decide⟩ rfl (by first | (first | (simp only [lx, Nat.reduceAdd]; first | done | rfl) | fail) | rfl) aP ?_) | (refine zbw _ _ aA rfl rfl (lookM (by rfl)) ⟨rfl, by decide⟩ aN (by first | exact Nat.succ_pos _ | omega | (simp; done)) ⟨by first | (simp only [List.length_cons, List.length_nil]; omega) | omega | fail, by decide⟩ rfl rfl aP ?_) | (refine zbv _ aA rfl rfl (lookM (by rfl)) ⟨rfl, by decide⟩ aN ⟨by first | (simp only [List.length_cons, List.length_nil]; omega) | omega | fail, by decide⟩ rfl aP ?_) | (refine zbl _ aA rfl rfl rfl ⟨rfl, rfl, rfl, by decide, by decide⟩ (by first | rfl | (simp; done) | fail) ⟨by omega, by decide⟩ rfl aL (by first | (rw [Nat.zero_add]) | rfl) ?_)) | (refine zal aA rfl rfl rfl ?_) | (refine zar (hK _ _ (.inl rfl) ?_); clear hK K) | (refine zar (hK _ _ (.inr (by kernel_rfl)) ?_); clear hK K))
      | (refine za3 ?_; first | (refine zbk ?_) | (refine zaf (fun K hK => ?_)) | (refine zap ?_) | (refine za0 ?_) | (refine zbj ?_) | (refine za1 ?_) | (refine zbe ?_; first | (refine zat rfl aD ?_) | (refine zau rfl aD ?_) | (refine zay rfl (fun h => ?_) (fun h => ?_) <;> (have h' := h; (try simp only [sx] at h')))))
      | (refine za2 ?_) | (refine zag ?_) | (refine zaj ?_) | (refine zao ?_) | (refine zam ?_) | (refine zan ?_) | (refine zaq rfl ?_) | (refine zah ?_) | (refine zai ?_) | (refine zbi ?_))
  all_goals try (exfalso; omega)
  refine zcd [1, 9, 10] [] (fun q : Nat × List (List PV) × Nat => [(5, .osl (1001, 0) 0 q.2.2), (11, .int .i64 q.1)]) (fun q : Nat × List (List PV) × Nat => [((1001, 0), some ⟨24, 1, q.2.1, false⟩)]) (fun q : Nat × List (List PV) × Nat => q.1 ≤ xs.length ∧ q.2.1 = tabR ((xs.take q.1).filter p) ∧ q.2.1.length = q.2.2) (fun q : Nat × List (List PV) × Nat => xs.length - q.1) ((0, [], 0)) rfl rfl (fun _ => rfl) (fun _ => rfl) rfl aW ⟨by simp, by simp [tabR], rfl⟩ (fun q hq => ?_)
  obtain ⟨i, es, m⟩ := q
  obtain ⟨hi, hes, hem⟩ := hq
  simp only at hi hes hem
  dsimp only
  have hle : es.length ≤ i := by rw [hes, tabR_len]; exact Nat.le_trans (List.length_filter_le _ _) (by rw [List.length_take]; omega)
  rcases Nat.lt_or_ge i xs.length with hlt | hge
  · obtain ⟨a, hga⟩ := get_ex hlt
    have hx := tabR_at hga
    have kg := hg a (get_mem hga)
    cases hp : p a with
    | true =>
      rw [hp] at kg
      repeat' (first
      | (refine zaz ?_; first | (refine za4 ?_; refine zas _ rfl ?_) | (refine zak ?_; refine zaa _ rfl ?_) | (refine zbu ?_; first | (refine zb0 rfl rfl aO ?_) | (refine zbs _ rfl rfl rfl ?_) | (refine zav _ rfl rfl rfl ?_)) | (refine zbb ?_; first | (refine zab aA rfl ?_) | (refine zae _ aA rfl rfl aE rfl ?_) | (refine zac _ aA rfl aZ aL ?_) | (refine zad _ aA rfl rfl aE aZ aL ?_)) | (refine zbd ?_; first | (refine zax _ aA rfl rfl aO aA ?_) | (refine zaw _ aA rfl rfl rfl rfl aO aO (by first | (rw [Nat.zero_add, Int.toNat_natCast]) | (rw [Nat.zero_add]) | rfl) ?_)) | (refine za9 ?_; first | (refine zbc true (kg) rfl rfl rfl aS rfl aH ?_; simp only [cl]) | (refine x_call [] _ (kg) rfl rfl aS rfl aH ?_; simp only [cl]) | (refine za8 aA rfl ?_) | (refine za6 aA rfl rfl ?_) | (refine za5 aA rfl ?_) | (refine za7 aA (evO_ok rfl) ?_) | (refine zbx _ _ aA rfl (lookM (by rfl)) rfl (lookM (by rfl)) rfl aN ⟨rfl, rfl, by decide, by decide⟩ (by first | rfl | omega | (simp; done) | (simp; omega) | fail) ⟨by first | (simp only [List.length_cons, List.length_nil]; omega) | omega | fail, by decide⟩ rfl (by first | (first | (simp only [lx, Nat.reduceAdd]; first | done | rfl) | fail) | rfl) aP ?_) | (refine zbw _ _ aA rfl rfl (lookM (by rfl)) ⟨rfl, by decide⟩ aN (by first | exact Nat.succ_pos _ | omega | (simp; done)) ⟨by first | (simp only [List.length_cons, List.length_nil]; omega) | omega | fail, by decide⟩ rfl rfl aP ?_) | (refine zbv _ aA rfl rfl (lookM (by rfl)) ⟨rfl, by decide⟩ aN ⟨by first | (simp only [List.length_cons, List.length_nil]; omega) | omega | fail, by decide⟩ rfl aP ?_) | (refine zbl _ aA rfl rfl rfl ⟨rfl, rfl, rfl, by decide, by decide⟩ (by first | rfl | (simp; done) | fail) ⟨by omega, by decide⟩ rfl aL (by first | (rw [Nat.zero_add]) | rfl) ?_)) | (refine zal aA rfl rfl rfl ?_) | (refine zar (hK _ _ (.inl rfl) ?_); clear hK K) | (refine zar (hK _ _ (.inr (by kernel_rfl)) ?_); clear hK K))
      | (refine za3 ?_; first | (refine zbk ?_) | (refine zaf (fun K hK => ?_)) | (refine zap ?_) | (refine za0 ?_) | (refine zbj ?_) | (refine za1 ?_) | (refine zbe ?_; first | (refine zat rfl aD ?_) | (refine zau rfl aD ?_) | (refine zay rfl (fun h => ?_) (fun h => ?_) <;> (have h' := h; (try simp only [sx] at h')))))
      | (refine za2 ?_) | (refine zag ?_) | (refine zaj ?_) | (refine zao ?_) | (refine zam ?_) | (refine zan ?_) | (refine zaq rfl ?_) | (refine zah ?_) | (refine zai ?_) | (refine zbi ?_))
      all_goals first
        | (exfalso; omega)
        | (refine zb6 (i + 1, es ++ [[.list 1 (ints a)]], m + 1) rfl aW ⟨by simp only; omega, by simp only [filter_take_t hga hp, tabR_snoc, hes], by simp [hem]⟩ (by simp only; omega))
    | false =>
      rw [hp] at kg
      repeat' (first
      | (refine zaz ?_; first | (refine za4 ?_; refine zas _ rfl ?_) | (refine zak ?_; refine zaa _ rfl ?_) | (refine zbu ?_; first | (refine zb0 rfl rfl aO ?_) | (refine zbs _ rfl rfl rfl ?_) | (refine zav _ rfl rfl rfl ?_)) | (refine zbb ?_; first | (refine zab aA rfl ?_) | (refine zae _ aA rfl rfl aE rfl ?_) | (refine zac _ aA rfl aZ aL ?_) | (refine zad _ aA rfl rfl aE aZ aL ?_)) | (refine zbd ?_; first | (refine zax _ aA rfl rfl aO aA ?_) | (refine zaw _ aA rfl rfl rfl rfl aO aO (by first | (rw [Nat.zero_add, Int.toNat_natCast]) | (rw [Nat.zero_add]) | rfl) ?_)) | (refine za9 ?_; first | (refine zbc true (kg) rfl rfl rfl aS rfl aH ?_; simp only [cl]) | (refine x_call [] _ (kg) rfl rfl aS rfl aH ?_; simp only [cl]) | (refine za8 aA rfl ?_) | (refine za6 aA rfl rfl ?_) | (refine za5 aA rfl ?_) | (refine za7 aA (evO_ok rfl) ?_) | (refine zbx _ _ aA rfl (lookM (by rfl)) rfl (lookM (by rfl)) rfl aN ⟨rfl, rfl, by decide, by decide⟩ (by first | rfl | omega | (simp; done) | (simp; omega) | fail) ⟨by first | (simp only [List.length_cons, List.length_nil]; omega) | omega | fail, by decide⟩ rfl (by first | (first | (simp only [lx, Nat.reduceAdd]; first | done | rfl) | fail) | rfl) aP ?_) | (refine zbw _ _ aA rfl rfl (lookM (by rfl)) ⟨rfl, by decide⟩ aN (by first | exact Nat.succ_pos _ | omega | (simp; done)) ⟨by first | (simp only [List.length_cons, List.length_nil]; omega) | omega | fail, by decide⟩ rfl rfl aP ?_) | (refine zbv _ aA rfl rfl (lookM (by rfl)) ⟨rfl, by decide⟩ aN ⟨by first | (simp only [List.length_cons, List.length_nil]; omega) | omega | fail, by decide⟩ rfl aP ?_) | (refine zbl _ aA rfl rfl rfl ⟨rfl, rfl, rfl, by decide, by decide⟩ (by first | rfl | (simp; done) | fail) ⟨by omega, by decide⟩ rfl aL (by first | (rw [Nat.zero_add]) | rfl) ?_)) | (refine zal aA rfl rfl rfl ?_) | (refine zar (hK _ _ (.inl rfl) ?_); clear hK K) | (refine zar (hK _ _ (.inr (by kernel_rfl)) ?_); clear hK K))
      | (refine za3 ?_; first | (refine zbk ?_) | (refine zaf (fun K hK => ?_)) | (refine zap ?_) | (refine za0 ?_) | (refine zbj ?_) | (refine za1 ?_) | (refine zbe ?_; first | (refine zat rfl aD ?_) | (refine zau rfl aD ?_) | (refine zay rfl (fun h => ?_) (fun h => ?_) <;> (have h' := h; (try simp only [sx] at h')))))
      | (refine za2 ?_) | (refine zag ?_) | (refine zaj ?_) | (refine zao ?_) | (refine zam ?_) | (refine zan ?_) | (refine zaq rfl ?_) | (refine zah ?_) | (refine zai ?_) | (refine zbi ?_))
      all_goals first
        | (exfalso; omega)
        | (refine zb6 (i + 1, es, m) rfl aW ⟨by simp only; omega, by simp only [filter_take_f hga hp, hes], hem⟩ (by simp only; omega))
  · rw [take_all hge] at hes
    repeat' (first
      | (refine zaz ?_; first | (refine za4 ?_; refine zas _ rfl ?_) | (refine zak ?_; refine zaa _ rfl ?_) | (refine zbu ?_; first | (refine zb0 rfl rfl aO ?_) | (refine zbs _ rfl rfl rfl ?_) | (refine zav _ rfl rfl rfl ?_)) | (refine zbb ?_; first | (refine zab aA rfl ?_) | (refine zae _ aA rfl rfl aE rfl ?_) | (refine zac _ aA rfl aZ aL ?_) | (refine zad _ aA rfl rfl aE aZ aL ?_)) | (refine zbd ?_; first | (refine zax _ aA rfl rfl aO aA ?_) | (refine zaw _ aA rfl rfl rfl rfl aO aO (by first | (rw [Nat.zero_add, Int.toNat_natCast]) | (rw [Nat.zero_add]) | rfl) ?_)) | (refine za9 ?_; first | (refine za8 aA rfl ?_) | (refine za6 aA rfl rfl ?_) | (refine za5 aA rfl ?_) | (refine za7 aA (evO_ok rfl) ?_) | (refine zbx _ _ aA rfl (lookM (by rfl)) rfl (lookM (by rfl)) rfl aN ⟨rfl, rfl, by decide, by decide⟩ (by first | rfl | omega | (simp; done) | (simp; omega) | fail) ⟨by first | (simp only [List.length_cons, List.length_nil]; omega) | omega | fail, by decide⟩ rfl (by first | (first | (simp only [lx, Nat.reduceAdd]; first | done | rfl) | fail) | rfl) aP ?_) | (refine zbw _ _ aA rfl rfl (lookM (by rfl)) ⟨rfl, by decide⟩ aN (by first | exact Nat.succ_pos _ | omega | (simp; done)) ⟨by first | (simp only [List.length_cons, List.length_nil]; omega) | omega | fail, by decide⟩ rfl rfl aP ?_) | (refine zbv _ aA rfl rfl (lookM (by rfl)) ⟨rfl, by decide⟩ aN ⟨by first | (simp only [List.length_cons, List.length_nil]; omega) | omega | fail, by decide⟩ rfl aP ?_) | (refine zbl _ aA rfl rfl rfl ⟨rfl, rfl, rfl, by decide, by decide⟩ (by first | rfl | (simp; done) | fail) ⟨by omega, by decide⟩ rfl aL (by first | (rw [Nat.zero_add]) | rfl) ?_)) | (refine zal aA rfl rfl rfl ?_) | (refine zar (hK _ _ (.inl rfl) ?_); clear hK K) | (refine zar (hK _ _ (.inr (by kernel_rfl)) ?_); clear hK K))
      | (refine za3 ?_; first | (refine zbk ?_) | (refine zaf (fun K hK => ?_)) | (refine zap ?_) | (refine za0 ?_) | (refine zbj ?_) | (refine za1 ?_) | (refine zbe ?_; first | (refine zat rfl aD ?_) | (refine zau rfl aD ?_) | (refine zay rfl (fun h => ?_) (fun h => ?_) <;> (have h' := h; (try simp only [sx] at h')))))
      | (refine za2 ?_) | (refine zag ?_) | (refine zaj ?_) | (refine zao ?_) | (refine zam ?_) | (refine zan ?_) | (refine zaq rfl ?_) | (refine zah ?_) | (refine zai ?_) | (refine zbi ?_))
    all_goals first
      | (exfalso; omega)
      | exact ret_listA rfl (zbh (by rfl)) (by rfl) (by decide) hem.symm hes
theorem pt_cells {t : Terrain} {cells : List Int} {st : Int → Int → Bool} (hS : Set1 t cells st) {p : List Int} (hp : p ∈ ptL t cells st) : (∀ c ∈ p, IsCell t c) ∧ p.length ≤ t.burn.length := by
  obtain ⟨c, hc, _, rfl⟩ := ptL_mem.1 hp
  exact ⟨fun x hx => hS.cel x (cmp_sub hS hc hx), cmp_len⟩
theorem k_holes (t : Terrain) (r : List Int) (hg : GoodT t) (hm : r.length ≤ 1000000) : ConA Try.prog 86 [.agg t.pv, .list 1 (ints r)] (.olist 24 1 (tabR (hlL t r))) := by
  refine zba hmix Try.func86 rfl (by kernel_rfl) (by kernel_rfl) (Nat.le_of_ble_eq_true rfl) (fun row h => by cases h) ?_
  have hty_a26 := ty_a26
  have hty_u24 := ty_u24
  have hty_s24 := ty_s24
  have hty_u35 := ty_u35
  have hty_s35 := ty_s35
  have hlen := goodT_len hg
  have kC := (k_cellsThat t 128 [[.list 1 (ints r)]] (ouB r) (fun c _ => k_holes1 r c hm) aO).frzF (ints_flat _)
  rw [show cellsL t.burn.length (ouB r) = outR t r from rfl] at kC
  have hol : (outR t r).length ≤ t.burn.length := cellsL_len _ _
  have hS := set_out t r
  have kP := (k_piecesH t (outR t r) 90 (besB t) hS (outR_rise t r) aO aO (fun a c ha hc => k_beside t a c hg ha hc)).frz rfl
  simp only [frz] at kP
  have kF := k_filterR t (ptL t (outR t r) (besB t)) 130 (innB t) (fun a h => k_holes2 t a hg (pt_cells hS h).1 (by have := (pt_cells hS h).2; omega)) (by have := ptL_len t (outR t r) (besB t); omega)
  rw [show (ptL t (outR t r) (besB t)).filter (innB t) = hlL t r from rfl] at kF
  generalize outR t r = out at *
  generalize ptL t out (besB t) = pts at *
  repeat' (first
      | (refine zaz ?_; first | (refine za4 ?_; refine zas _ rfl ?_) | (refine zak ?_; refine zaa _ rfl ?_) | (refine zbb ?_; first | (refine zab aA rfl ?_) | (refine zae _ aA rfl rfl aE rfl ?_) | (refine zac _ aA rfl aZ aL ?_) | (refine zad _ aA rfl rfl aE aZ aL ?_)) | (refine za9 ?_; first | (refine zbc true (kC) rfl rfl rfl aS rfl aH ?_; simp only [cl]) | (refine x_callA true (kP) rfl rfl rfl rfl rfl aS rfl aH ?_; simp only [cl]) | (refine x_callA true (kF) rfl rfl rfl rfl rfl aS rfl aH ?_; simp only [cl])) | (refine zbt _ _ rfl rfl rfl rfl ?_) | (refine zcm _ _ rfl rfl ?_) | (refine zar (hK _ _ (.inl rfl) ?_); clear hK K) | (refine zar (hK _ _ (.inr (by kernel_rfl)) ?_); clear hK K))
      | (refine za3 ?_; first | (refine zbk ?_) | (refine zaf (fun K hK => ?_)) | (refine zap ?_) | (refine za0 ?_) | (refine zbj ?_) | (refine za1 ?_))
      | (refine za2 ?_) | (refine zag ?_) | (refine zaj ?_) | (refine zao ?_) | (refine zam ?_) | (refine zan ?_) | (refine zaq rfl ?_) | (refine zah ?_) | (refine zai ?_) | (refine zbi ?_))
  all_goals first
    | (exfalso; omega)
    | exact ret_listA rfl (zbh (by rfl)) (by rfl) (by decide) rfl rfl
theorem k_l6Border (t : Terrain) (p : List Int) (hg : GoodT t) (hc : ∀ c ∈ p, IsCell t c) (hm : p.length ≤ 1000000) : Con Try.prog 133 [.agg t.pv, .list 1 (ints p)] (.bool (!innB t p)) := by
  intro al
  refine zba hmix Try.func133 rfl (by kernel_rfl) (by kernel_rfl) (Nat.le_of_ble_eq_true rfl) (fun row h => by cases h) ?_
  have hty_u24 := ty_u24
  have hty_s24 := ty_s24
  have hty_c3 := ty_c3
  have hty_f26_0 := ty_f26_0
  have hty_f26_1 := ty_f26_1
  have hd := hg.1
  unfold Dims at hd
  have hlen := goodT_len hg
  have hl1 : (ints p).length = p.length := by simp
  repeat' (first
      | (refine zaz ?_; first | (refine za4 ?_; refine zas _ rfl ?_) | (refine zak ?_; refine zaa _ rfl ?_) | (refine zbu ?_; first | (refine zb0 rfl rfl aO ?_) | (refine zch rfl rfl aO ?_) | (refine x_quo rfl rfl aO ?_) | (refine zcq rfl rfl aO ?_) | (refine x_quoT rfl rfl aO ?_) | (refine zce rfl rfl aO ?_) | (refine zbs _ rfl rfl rfl ?_) | (refine zbr aA rfl rfl ?_) | (refine zav _ rfl rfl rfl ?_)) | (refine zbb ?_; first | (refine zab aA rfl ?_) | (refine zae _ aA rfl rfl aE rfl ?_) | (refine zac _ aA rfl aZ aL ?_) | (refine zad _ aA rfl rfl aE aZ aL ?_)) | (refine zbz ?_; first | (refine zbf _ aA rfl aL ?_) | (refine zbg _ aA rfl rfl (by simp only [lx, Nat.reduceAdd]; first | done | rfl) ?_)) | (refine zbd ?_; first | (refine zax _ aA rfl rfl aO aA ?_) | (refine zaw _ aA rfl rfl rfl rfl aO aO (by first | (rw [Nat.zero_add, Int.toNat_natCast]) | (rw [Nat.zero_add]) | rfl) ?_)) | (refine zb3 ?_; first | (refine zbn rfl aD rfl ?_) | (refine zbp rfl aD ?_) | (refine zbm rfl aD ?_) | (refine zbq rfl aD rfl ?_)) | (refine zby ?_; first | (refine zb4 rfl rfl aD ?_) | (refine zcc rfl rfl aD ?_) | (refine zcb rfl rfl ?_) | (refine zbo rfl rfl (fun h => ?_) (fun h => ?_) <;> (have h' := h; (try simp only [sx] at h')))) | (refine za9 ?_; first | (refine za8 aA rfl ?_) | (refine za6 aA rfl rfl ?_) | (refine za5 aA rfl ?_) | (refine za7 aA (evO_ok rfl) ?_)) | (refine zbt _ _ rfl rfl rfl rfl ?_) | (refine zar (hK _ _ (.inl rfl) ?_); clear hK K) | (refine zar (hK _ _ (.inr (by kernel_rfl)) ?_); clear hK K))
      | (refine za3 ?_; first | (refine zbk ?_) | (refine zaf (fun K hK => ?_)) | (refine zap ?_) | (refine za0 ?_) | (refine zbj ?_) | (refine za1 ?_) | (refine zbe ?_; first | (refine zat rfl aD ?_) | (refine zau rfl aD ?_) | (refine zay rfl (fun h => ?_) (fun h => ?_) <;> (have h' := h; (try simp only [sx] at h')))))
      | (refine za2 ?_) | (refine zag ?_) | (refine zaj ?_) | (refine zao ?_) | (refine zam ?_) | (refine zan ?_) | (refine zaq rfl ?_) | (refine zah ?_) | (refine zai ?_) | (refine zbi ?_))
  all_goals try (exfalso; omega)
  refine zcd [1, 2] [] (fun i : Nat => [(5, .int .i64 i)]) (fun i : Nat => []) (fun i : Nat => i ≤ p.length ∧ ∀ c ∈ p.take i, bordB t c = false) (fun i : Nat => p.length - i) (0) rfl rfl (fun _ => rfl) (fun _ => rfl) rfl aW ⟨by omega, fun c hc => by simp at hc⟩ (fun i hi => ?_)
  obtain ⟨hi1, hi2⟩ := hi
  rcases Nat.lt_or_ge i p.length with hlt | hge
  · obtain ⟨c, hgc⟩ := get_ex hlt
    have hx := ints_at hgc
    have hcc := hc c (get_mem hgc)
    unfold IsCell at hcc
    have hb : bordB t c = true ↔ c % t.width = 0 ∨ c / t.width = 0 ∨ c % t.width = t.width - 1 ∨ c / t.width = t.height - 1 := by simp only [bordB, Bool.or_eq_true, decide_eq_true_eq]
    have hin : bordB t c = true → innB t p = false := fun h => by
      rw [← Bool.not_eq_true]
      intro h2
      unfold innB at h2
      rw [List.all_eq_true] at h2
      have := h2 c (get_mem hgc)
      rw [h] at this
      cases this
    have hnx : bordB t c = false → ∀ x ∈ p.take (i + 1), bordB t x = false := fun h => all_take_succ hgc hi2 h
    by_cases h1 : c % t.width = 0 ∨ c / t.width = 0 ∨ c % t.width = t.width - 1 ∨ c / t.width = t.height - 1
    · rw [hin (hb.2 h1)]
      clear hb hin hnx
      repeat' (first
      | (refine zaz ?_; first | (refine za4 ?_; refine zas _ rfl ?_) | (refine zak ?_; refine zaa _ rfl ?_) | (refine zbu ?_; first | (refine zb0 rfl rfl aO ?_) | (refine zch rfl rfl aO ?_) | (refine x_quo rfl rfl aO ?_) | (refine zcq rfl rfl aO ?_) | (refine x_quoT rfl rfl aO ?_) | (refine zce rfl rfl aO ?_) | (refine zbs _ rfl rfl rfl ?_) | (refine zbr aA rfl rfl ?_) | (refine zav _ rfl rfl rfl ?_)) | (refine zbb ?_; first | (refine zab aA rfl ?_) | (refine zae _ aA rfl rfl aE rfl ?_) | (refine zac _ aA rfl aZ aL ?_) | (refine zad _ aA rfl rfl aE aZ aL ?_)) | (refine zbz ?_; first | (refine zbf _ aA rfl aL ?_) | (refine zbg _ aA rfl rfl (by simp only [lx, Nat.reduceAdd]; first | done | rfl) ?_)) | (refine zbd ?_; first | (refine zax _ aA rfl rfl aO aA ?_) | (refine zaw _ aA rfl rfl rfl rfl aO aO (by first | (rw [Nat.zero_add, Int.toNat_natCast]) | (rw [Nat.zero_add]) | rfl) ?_)) | (refine zb3 ?_; first | (refine zbn rfl aD rfl ?_) | (refine zbp rfl aD ?_) | (refine zbm rfl aD ?_) | (refine zbq rfl aD rfl ?_)) | (refine zby ?_; first | (refine zb4 rfl rfl aD ?_) | (refine zcc rfl rfl aD ?_) | (refine zcb rfl rfl ?_) | (refine zbo rfl rfl (fun h => ?_) (fun h => ?_) <;> (have h' := h; (try simp only [sx] at h')))) | (refine za9 ?_; first | (refine za8 aA rfl ?_) | (refine za6 aA rfl rfl ?_) | (refine za5 aA rfl ?_) | (refine za7 aA (evO_ok rfl) ?_)) | (refine zbt _ _ rfl rfl rfl rfl ?_) | (refine zar (hK _ _ (.inl rfl) ?_); clear hK K) | (refine zar (hK _ _ (.inr (by kernel_rfl)) ?_); clear hK K))
      | (refine za3 ?_; first | (refine zbk ?_) | (refine zaf (fun K hK => ?_)) | (refine zap ?_) | (refine za0 ?_) | (refine zbj ?_) | (refine za1 ?_) | (refine zbe ?_; first | (refine zat rfl aD ?_) | (refine zau rfl aD ?_) | (refine zay rfl (fun h => ?_) (fun h => ?_) <;> (have h' := h; (try simp only [sx] at h')))))
      | (refine za2 ?_) | (refine zag ?_) | (refine zaj ?_) | (refine zao ?_) | (refine zam ?_) | (refine zan ?_) | (refine zaq rfl ?_) | (refine zah ?_) | (refine zai ?_) | (refine zbi ?_))
      all_goals first
        | (exfalso; omega)
        | exact zb2 rfl (zbh rfl) rfl
    · have hnx := hnx (by rw [← Bool.not_eq_true]; exact fun h => h1 (hb.1 h))
      repeat' (first
      | (refine zaz ?_; first | (refine za4 ?_; refine zas _ rfl ?_) | (refine zak ?_; refine zaa _ rfl ?_) | (refine zbu ?_; first | (refine zb0 rfl rfl aO ?_) | (refine zch rfl rfl aO ?_) | (refine x_quo rfl rfl aO ?_) | (refine zcq rfl rfl aO ?_) | (refine x_quoT rfl rfl aO ?_) | (refine zce rfl rfl aO ?_) | (refine zbs _ rfl rfl rfl ?_) | (refine zbr aA rfl rfl ?_) | (refine zav _ rfl rfl rfl ?_)) | (refine zbb ?_; first | (refine zab aA rfl ?_) | (refine zae _ aA rfl rfl aE rfl ?_) | (refine zac _ aA rfl aZ aL ?_) | (refine zad _ aA rfl rfl aE aZ aL ?_)) | (refine zbz ?_; first | (refine zbf _ aA rfl aL ?_) | (refine zbg _ aA rfl rfl (by simp only [lx, Nat.reduceAdd]; first | done | rfl) ?_)) | (refine zbd ?_; first | (refine zax _ aA rfl rfl aO aA ?_) | (refine zaw _ aA rfl rfl rfl rfl aO aO (by first | (rw [Nat.zero_add, Int.toNat_natCast]) | (rw [Nat.zero_add]) | rfl) ?_)) | (refine zb3 ?_; first | (refine zbn rfl aD rfl ?_) | (refine zbp rfl aD ?_) | (refine zbm rfl aD ?_) | (refine zbq rfl aD rfl ?_)) | (refine zby ?_; first | (refine zb4 rfl rfl aD ?_) | (refine zcc rfl rfl aD ?_) | (refine zcb rfl rfl ?_) | (refine zbo rfl rfl (fun h => ?_) (fun h => ?_) <;> (have h' := h; (try simp only [sx] at h')))) | (refine za9 ?_; first | (refine za8 aA rfl ?_) | (refine za6 aA rfl rfl ?_) | (refine za5 aA rfl ?_) | (refine za7 aA (evO_ok rfl) ?_)) | (refine zbt _ _ rfl rfl rfl rfl ?_) | (refine zar (hK _ _ (.inl rfl) ?_); clear hK K) | (refine zar (hK _ _ (.inr (by kernel_rfl)) ?_); clear hK K))
      | (refine za3 ?_; first | (refine zbk ?_) | (refine zaf (fun K hK => ?_)) | (refine zap ?_) | (refine za0 ?_) | (refine zbj ?_) | (refine za1 ?_) | (refine zbe ?_; first | (refine zat rfl aD ?_) | (refine zau rfl aD ?_) | (refine zay rfl (fun h => ?_) (fun h => ?_) <;> (have h' := h; (try simp only [sx] at h')))))
      | (refine za2 ?_) | (refine zag ?_) | (refine zaj ?_) | (refine zao ?_) | (refine zam ?_) | (refine zan ?_) | (refine zaq rfl ?_) | (refine zah ?_) | (refine zai ?_) | (refine zbi ?_))
      all_goals first
        | (exfalso; omega)
        | (refine zb6 (i + 1) rfl aW ⟨by omega, hnx⟩ aO)
  · rw [take_all hge] at hi2
    have : innB t p = true := by
      unfold innB
      rw [List.all_eq_true]
      intro c hc
      rw [hi2 c hc]
      rfl
    rw [this]
    repeat' (first
      | (refine zaz ?_; first | (refine za4 ?_; refine zas _ rfl ?_) | (refine zak ?_; refine zaa _ rfl ?_) | (refine zbu ?_; first | (refine zb0 rfl rfl aO ?_) | (refine zch rfl rfl aO ?_) | (refine x_quo rfl rfl aO ?_) | (refine zcq rfl rfl aO ?_) | (refine x_quoT rfl rfl aO ?_) | (refine zce rfl rfl aO ?_) | (refine zbs _ rfl rfl rfl ?_) | (refine zbr aA rfl rfl ?_) | (refine zav _ rfl rfl rfl ?_)) | (refine zbb ?_; first | (refine zab aA rfl ?_) | (refine zae _ aA rfl rfl aE rfl ?_) | (refine zac _ aA rfl aZ aL ?_) | (refine zad _ aA rfl rfl aE aZ aL ?_)) | (refine zbz ?_; first | (refine zbf _ aA rfl aL ?_) | (refine zbg _ aA rfl rfl (by simp only [lx, Nat.reduceAdd]; first | done | rfl) ?_)) | (refine zbd ?_; first | (refine zax _ aA rfl rfl aO aA ?_) | (refine zaw _ aA rfl rfl rfl rfl aO aO (by first | (rw [Nat.zero_add, Int.toNat_natCast]) | (rw [Nat.zero_add]) | rfl) ?_)) | (refine zb3 ?_; first | (refine zbn rfl aD rfl ?_) | (refine zbp rfl aD ?_) | (refine zbm rfl aD ?_) | (refine zbq rfl aD rfl ?_)) | (refine zby ?_; first | (refine zb4 rfl rfl aD ?_) | (refine zcc rfl rfl aD ?_) | (refine zcb rfl rfl ?_) | (refine zbo rfl rfl (fun h => ?_) (fun h => ?_) <;> (have h' := h; (try simp only [sx] at h')))) | (refine za9 ?_; first | (refine za8 aA rfl ?_) | (refine za6 aA rfl rfl ?_) | (refine za5 aA rfl ?_) | (refine za7 aA (evO_ok rfl) ?_)) | (refine zbt _ _ rfl rfl rfl rfl ?_) | (refine zar (hK _ _ (.inl rfl) ?_); clear hK K) | (refine zar (hK _ _ (.inr (by kernel_rfl)) ?_); clear hK K))
      | (refine za3 ?_; first | (refine zbk ?_) | (refine zaf (fun K hK => ?_)) | (refine zap ?_) | (refine za0 ?_) | (refine zbj ?_) | (refine za1 ?_) | (refine zbe ?_; first | (refine zat rfl aD ?_) | (refine zau rfl aD ?_) | (refine zay rfl (fun h => ?_) (fun h => ?_) <;> (have h' := h; (try simp only [sx] at h')))))
      | (refine za2 ?_) | (refine zag ?_) | (refine zaj ?_) | (refine zao ?_) | (refine zam ?_) | (refine zan ?_) | (refine zaq rfl ?_) | (refine zah ?_) | (refine zai ?_) | (refine zbi ?_))
    all_goals first
      | (exfalso; omega)
      | exact zb2 rfl (zbh rfl) rfl
def hoF (t : Terrain) (r : List Int) (i : Nat) : List (List Int) := (((cellsL i (ouB r)).filter (hdB t (outR t r) (besB t))).map (cmp t (outR t r) (besB t))).filter (innB t)
theorem hoF_in {t : Terrain} {r : List Int} {i : Nat} (h : ouB r i = false) : hoF t r (i + 1) = hoF t r i := by unfold hoF; rw [cellsL_f h]
theorem hoF_no {t : Terrain} {r : List Int} {i : Nat} (h : ouB r i = true) (h2 : hdB t (outR t r) (besB t) (i : Int) = false) : hoF t r (i + 1) = hoF t r i := by
  unfold hoF
  rw [cellsL_t h, List.filter_append, List.filter_cons_of_neg (by rw [h2]; simp), List.filter_nil, List.append_nil]
theorem hoF_yes {t : Terrain} {r : List Int} {i : Nat} (h : ouB r i = true) (h2 : hdB t (outR t r) (besB t) (i : Int) = true) : hoF t r (i + 1) = hoF t r i ++ (if innB t (cmp t (outR t r) (besB t) (i : Int)) = true then [cmp t (outR t r) (besB t) (i : Int)] else []) := by
  unfold hoF
  rw [cellsL_t h, List.filter_append, List.filter_cons_of_pos h2, List.filter_nil, List.map_append, List.filter_append]
  congr 1
  simp only [List.map_cons, List.map_nil]
  split
  · rename_i h3; rw [List.filter_cons_of_pos h3]; rfl
  · rename_i h3; rw [List.filter_cons_of_neg h3]; rfl
theorem hoF_len (t : Terrain) (r : List Int) (i : Nat) : (hoF t r i).length ≤ i := by
  unfold hoF
  refine Nat.le_trans (List.length_filter_le _ _) ?_
  rw [List.length_map]
  exact Nat.le_trans (List.length_filter_le _ _) (cellsL_len _ _)
theorem k_l6Holes (t : Terrain) (r : List Int) (hg : GoodT t) (hm : r.length ≤ 1000000) : ConA Try.prog 88 [.agg t.pv, .list 1 (ints r)] (.olist 24 1 (tabR (hlL t r))) := by
  refine zba hmix Try.func88 rfl (by kernel_rfl) (by kernel_rfl) (Nat.le_of_ble_eq_true rfl) (fun row h => by cases h) ?_
  have hty_s35 := ty_s35
  have hty_f26_2 := ty_f26_2
  have hty_c24 := ty_c24
  have hty_u24 := ty_u24
  have hty_s24 := ty_s24
  have hty_a26 := ty_a26
  have hty_c3 := ty_c3
  have hty_u35 := ty_u35
  have hlen := goodT_len hg
  have hl1 : (ints t.burn).length = t.burn.length := by simp
  have hS := set_out t r
  repeat' (first
      | (refine zaz ?_; first | (refine za4 ?_; refine zas _ rfl ?_) | (refine zak ?_; refine zaa _ rfl ?_) | (refine zbu ?_; first | (refine zb0 rfl rfl aO ?_) | (refine zbs _ rfl rfl rfl ?_) | (refine zbr aA rfl rfl ?_) | (refine zav _ rfl rfl rfl ?_)) | (refine g_un ?_; first | (refine zb7 rfl ?_) | (refine zb8 rfl aO ?_)) | (refine zbb ?_; first | (refine zab aA rfl ?_) | (refine zae _ aA rfl rfl aE rfl ?_) | (refine zac _ aA rfl aZ aL ?_) | (refine zad _ aA rfl rfl aE aZ aL ?_)) | (refine zbz ?_; first | (refine zbf _ aA rfl aL ?_) | (refine zbg _ aA rfl rfl (by simp only [lx, Nat.reduceAdd]; first | done | rfl) ?_)) | (refine zbd ?_; first | (refine zax _ aA rfl rfl aO aA ?_) | (refine zaw _ aA rfl rfl rfl rfl aO aO (by first | (rw [Nat.zero_add, Int.toNat_natCast]) | (rw [Nat.zero_add]) | rfl) ?_)) | (refine zb3 ?_; first | (refine zbn rfl aD rfl ?_) | (refine zbp rfl aD ?_) | (refine zbm rfl aD ?_) | (refine zbq rfl aD rfl ?_)) | (refine zby ?_; first | (refine zb4 rfl rfl aD ?_) | (refine zcc rfl rfl aD ?_) | (refine zcb rfl rfl ?_) | (refine zbo rfl rfl (fun h => ?_) (fun h => ?_) <;> (have h' := h; (try simp only [sx] at h')))) | (refine za9 ?_; first | (refine za8 aA rfl ?_) | (refine za6 aA rfl rfl ?_) | (refine za5 aA rfl ?_) | (refine za7 aA (evO_ok rfl) ?_) | (refine zbx _ _ aA rfl (lookM (by rfl)) rfl (lookM (by rfl)) rfl aN ⟨rfl, rfl, by decide, by decide⟩ (by first | rfl | omega | (simp; done) | (simp; omega) | fail) ⟨by first | (simp only [List.length_cons, List.length_nil]; omega) | omega | fail, by decide⟩ rfl (by first | (first | (simp only [lx, Nat.reduceAdd]; first | done | rfl) | fail) | rfl) aP ?_) | (refine zbw _ _ aA rfl rfl (lookM (by rfl)) ⟨rfl, by decide⟩ aN (by first | exact Nat.succ_pos _ | omega | (simp; done)) ⟨by first | (simp only [List.length_cons, List.length_nil]; omega) | omega | fail, by decide⟩ rfl rfl aP ?_) | (refine zbv _ aA rfl rfl (lookM (by rfl)) ⟨rfl, by decide⟩ aN ⟨by first | (simp only [List.length_cons, List.length_nil]; omega) | omega | fail, by decide⟩ rfl aP ?_) | (refine zbl _ aA rfl rfl rfl ⟨rfl, rfl, rfl, by decide, by decide⟩ (by first | rfl | (simp; done) | fail) ⟨by omega, by decide⟩ rfl aL (by first | (rw [Nat.zero_add]) | rfl) ?_)) | (refine zal aA rfl rfl rfl ?_) | (refine zbt _ _ rfl rfl rfl rfl ?_) | (refine zar (hK _ _ (.inl rfl) ?_); clear hK K) | (refine zar (hK _ _ (.inr (by kernel_rfl)) ?_); clear hK K))
      | (refine za3 ?_; first | (refine zbk ?_) | (refine zaf (fun K hK => ?_)) | (refine zap ?_) | (refine za0 ?_) | (refine zbj ?_) | (refine za1 ?_) | (refine zbe ?_; first | (refine zat rfl aD ?_) | (refine zau rfl aD ?_) | (refine zay rfl (fun h => ?_) (fun h => ?_) <;> (have h' := h; (try simp only [sx] at h')))))
      | (refine za2 ?_) | (refine zag ?_) | (refine zaj ?_) | (refine zao ?_) | (refine zam ?_) | (refine zan ?_) | (refine zaq rfl ?_) | (refine zah ?_) | (refine zai ?_) | (refine zbi ?_))
  all_goals try (exfalso; omega)
  refine zcd [1, 2] [] (fun q : Nat × List (List PV) × Nat => [(5, .osl (1001, 0) 0 q.2.2), (6, .int .i64 q.1)]) (fun q : Nat × List (List PV) × Nat => [((1001, 0), some ⟨24, 1, q.2.1, false⟩)]) (fun q : Nat × List (List PV) × Nat => q.1 ≤ t.burn.length ∧ q.2.1 = tabR (hoF t r q.1) ∧ q.2.1.length = q.2.2) (fun q : Nat × List (List PV) × Nat => t.burn.length - q.1) ((0, [], 0)) rfl rfl (fun _ => rfl) (fun _ => rfl) rfl aW ⟨by simp, by simp [tabR, hoF, cellsL], rfl⟩ (fun q hq => ?_)
  obtain ⟨i, es, m⟩ := q
  obtain ⟨hi, hes, hem⟩ := hq
  simp only at hi hes hem
  dsimp only
  have hle : es.length ≤ i := by rw [hes, tabR_len]; exact hoF_len t r i
  rcases Nat.lt_or_ge i t.burn.length with hlt | hge
  · have hci : IsCell t (i : Int) := ⟨by omega, by omega⟩
    have kH := k_l1Has r (i : Int) aO
    by_cases hin : (i : Int) ∈ r
    · rw [decide_eq_true hin] at kH
      have e := hoF_in (t := t) (r := r) (i := i) (by simp [ouB, hin])
      repeat' (first
      | (refine zaz ?_; first | (refine za4 ?_; refine zas _ rfl ?_) | (refine zak ?_; refine zaa _ rfl ?_) | (refine zbu ?_; first | (refine zb0 rfl rfl aO ?_) | (refine zbs _ rfl rfl rfl ?_) | (refine zbr aA rfl rfl ?_) | (refine zav _ rfl rfl rfl ?_)) | (refine g_un ?_; first | (refine zb7 rfl ?_) | (refine zb8 rfl aO ?_)) | (refine zbb ?_; first | (refine zab aA rfl ?_) | (refine zae _ aA rfl rfl aE rfl ?_) | (refine zac _ aA rfl aZ aL ?_) | (refine zad _ aA rfl rfl aE aZ aL ?_)) | (refine zbz ?_; first | (refine zbf _ aA rfl aL ?_) | (refine zbg _ aA rfl rfl (by simp only [lx, Nat.reduceAdd]; first | done | rfl) ?_)) | (refine zbd ?_; first | (refine zax _ aA rfl rfl aO aA ?_) | (refine zaw _ aA rfl rfl rfl rfl aO aO (by first | (rw [Nat.zero_add, Int.toNat_natCast]) | (rw [Nat.zero_add]) | rfl) ?_)) | (refine zb3 ?_; first | (refine zbn rfl aD rfl ?_) | (refine zbp rfl aD ?_) | (refine zbm rfl aD ?_) | (refine zbq rfl aD rfl ?_)) | (refine zby ?_; first | (refine zb4 rfl rfl aD ?_) | (refine zcc rfl rfl aD ?_) | (refine zcb rfl rfl ?_) | (refine zbo rfl rfl (fun h => ?_) (fun h => ?_) <;> (have h' := h; (try simp only [sx] at h')))) | (refine za9 ?_; first | (refine zbc true (kH) rfl rfl rfl aS rfl aH ?_; simp only [cl]) | (refine za8 aA rfl ?_) | (refine za6 aA rfl rfl ?_) | (refine za5 aA rfl ?_) | (refine za7 aA (evO_ok rfl) ?_) | (refine zbx _ _ aA rfl (lookM (by rfl)) rfl (lookM (by rfl)) rfl aN ⟨rfl, rfl, by decide, by decide⟩ (by first | rfl | omega | (simp; done) | (simp; omega) | fail) ⟨by first | (simp only [List.length_cons, List.length_nil]; omega) | omega | fail, by decide⟩ rfl (by first | (first | (simp only [lx, Nat.reduceAdd]; first | done | rfl) | fail) | rfl) aP ?_) | (refine zbw _ _ aA rfl rfl (lookM (by rfl)) ⟨rfl, by decide⟩ aN (by first | exact Nat.succ_pos _ | omega | (simp; done)) ⟨by first | (simp only [List.length_cons, List.length_nil]; omega) | omega | fail, by decide⟩ rfl rfl aP ?_) | (refine zbv _ aA rfl rfl (lookM (by rfl)) ⟨rfl, by decide⟩ aN ⟨by first | (simp only [List.length_cons, List.length_nil]; omega) | omega | fail, by decide⟩ rfl aP ?_) | (refine zbl _ aA rfl rfl rfl ⟨rfl, rfl, rfl, by decide, by decide⟩ (by first | rfl | (simp; done) | fail) ⟨by omega, by decide⟩ rfl aL (by first | (rw [Nat.zero_add]) | rfl) ?_)) | (refine zal aA rfl rfl rfl ?_) | (refine zbt _ _ rfl rfl rfl rfl ?_) | (refine zar (hK _ _ (.inl rfl) ?_); clear hK K) | (refine zar (hK _ _ (.inr (by kernel_rfl)) ?_); clear hK K))
      | (refine za3 ?_; first | (refine zbk ?_) | (refine zaf (fun K hK => ?_)) | (refine zap ?_) | (refine za0 ?_) | (refine zbj ?_) | (refine za1 ?_) | (refine zbe ?_; first | (refine zat rfl aD ?_) | (refine zau rfl aD ?_) | (refine zay rfl (fun h => ?_) (fun h => ?_) <;> (have h' := h; (try simp only [sx] at h')))))
      | (refine za2 ?_) | (refine zag ?_) | (refine zaj ?_) | (refine zao ?_) | (refine zam ?_) | (refine zan ?_) | (refine zaq rfl ?_) | (refine zah ?_) | (refine zai ?_) | (refine zbi ?_))
      all_goals first
        | (exfalso; omega)
        | (refine zb6 (i + 1, es, m) rfl aW ⟨by simp only; omega, by simp only [e, hes], hem⟩ (by simp only; omega))
    · rw [decide_eq_false hin] at kH
      have hou : ouB r i = true := by simp [ouB, hin]
      have hcm : (i : Int) ∈ outR t r := outR_mem.2 ⟨hci, hin⟩
      have kS := (k_l6SpreadO t r (i : Int) hg hci hm (by simp [hin])).frzF (ints_flat _)
      rw [show flL t (inP (outR t r) (besB t)) [(i : Int)] = cmp t (outR t r) (besB t) i from rfl] at kS
      obtain ⟨a, h1, h2, h3, h4, h5⟩ := cmp_head hS hcm
      have hhd : hdB t (outR t r) (besB t) i = decide (a = i) := by
        unfold hdB
        rw [h1, Bool.eq_iff_iff, decide_eq_true_eq, decide_eq_true_eq]
        exact ⟨fun h => Option.some.inj h, fun h => by rw [h]⟩
      have hy := ints_at h1
      have hcl := List.length_pos_of_mem h4
      have hcl2 : (ints (cmp t (outR t r) (besB t) i)).length = (cmp t (outR t r) (besB t) i).length := by simp
      have hml := cmp_len (t := t) (cells := outR t r) (st := besB t) (c := (i : Int))
      have kB := k_l6Border t (cmp t (outR t r) (besB t) i) hg (fun x hx => hS.cel x (cmp_sub hS hcm hx)) aO
      have e1 := fun h => hoF_yes (t := t) (r := r) (i := i) hou h
      have e2 := fun h => hoF_no (t := t) (r := r) (i := i) hou h
      generalize cmp t (outR t r) (besB t) i = R at *
      by_cases hac : a = i
      · have e1 := e1 (by rw [hhd, decide_eq_true hac])
        cases hinn : innB t R with
        | true =>
          rw [hinn, if_pos rfl] at e1
          rw [hinn] at kB
          repeat' (first
      | (refine zaz ?_; first | (refine za4 ?_; refine zas _ rfl ?_) | (refine zak ?_; refine zaa _ rfl ?_) | (refine zbu ?_; first | (refine zb0 rfl rfl aO ?_) | (refine zbs _ rfl rfl rfl ?_) | (refine zbr aA rfl rfl ?_) | (refine zav _ rfl rfl rfl ?_)) | (refine g_un ?_; first | (refine zb7 rfl ?_) | (refine zb8 rfl aO ?_)) | (refine zbb ?_; first | (refine zab aA rfl ?_) | (refine zae _ aA rfl rfl aE rfl ?_) | (refine zac _ aA rfl aZ aL ?_) | (refine zad _ aA rfl rfl aE aZ aL ?_)) | (refine zbz ?_; first | (refine zbf _ aA rfl aL ?_) | (refine zbg _ aA rfl rfl (by simp only [lx, Nat.reduceAdd]; first | done | rfl) ?_)) | (refine zbd ?_; first | (refine zax _ aA rfl rfl aO aA ?_) | (refine zaw _ aA rfl rfl rfl rfl aO aO (by first | (rw [Nat.zero_add, Int.toNat_natCast]) | (rw [Nat.zero_add]) | rfl) ?_)) | (refine zb3 ?_; first | (refine zbn rfl aD rfl ?_) | (refine zbp rfl aD ?_) | (refine zbm rfl aD ?_) | (refine zbq rfl aD rfl ?_)) | (refine zby ?_; first | (refine zb4 rfl rfl aD ?_) | (refine zcc rfl rfl aD ?_) | (refine zcb rfl rfl ?_) | (refine zbo rfl rfl (fun h => ?_) (fun h => ?_) <;> (have h' := h; (try simp only [sx] at h')))) | (refine za9 ?_; first | (refine zbc true (kH) rfl rfl rfl aS rfl aH ?_; simp only [cl]) | (refine zbc true (kS) rfl rfl rfl aS rfl aH ?_; simp only [cl]) | (refine zbc true (kB) rfl rfl rfl aS rfl aH ?_; simp only [cl]) | (refine za8 aA rfl ?_) | (refine za6 aA rfl rfl ?_) | (refine za5 aA rfl ?_) | (refine za7 aA (evO_ok rfl) ?_) | (refine zbx _ _ aA rfl (lookM (by rfl)) rfl (lookM (by rfl)) rfl aN ⟨rfl, rfl, by decide, by decide⟩ (by first | rfl | omega | (simp; done) | (simp; omega) | fail) ⟨by first | (simp only [List.length_cons, List.length_nil]; omega) | omega | fail, by decide⟩ rfl (by first | (first | (simp only [lx, Nat.reduceAdd]; first | done | rfl) | fail) | rfl) aP ?_) | (refine zbw _ _ aA rfl rfl (lookM (by rfl)) ⟨rfl, by decide⟩ aN (by first | exact Nat.succ_pos _ | omega | (simp; done)) ⟨by first | (simp only [List.length_cons, List.length_nil]; omega) | omega | fail, by decide⟩ rfl rfl aP ?_) | (refine zbv _ aA rfl rfl (lookM (by rfl)) ⟨rfl, by decide⟩ aN ⟨by first | (simp only [List.length_cons, List.length_nil]; omega) | omega | fail, by decide⟩ rfl aP ?_) | (refine zbl _ aA rfl rfl rfl ⟨rfl, rfl, rfl, by decide, by decide⟩ (by first | rfl | (simp; done) | fail) ⟨by omega, by decide⟩ rfl aL (by first | (rw [Nat.zero_add]) | rfl) ?_)) | (refine zal aA rfl rfl rfl ?_) | (refine zbt _ _ rfl rfl rfl rfl ?_) | (refine zar (hK _ _ (.inl rfl) ?_); clear hK K) | (refine zar (hK _ _ (.inr (by kernel_rfl)) ?_); clear hK K))
      | (refine za3 ?_; first | (refine zbk ?_) | (refine zaf (fun K hK => ?_)) | (refine zap ?_) | (refine za0 ?_) | (refine zbj ?_) | (refine za1 ?_) | (refine zbe ?_; first | (refine zat rfl aD ?_) | (refine zau rfl aD ?_) | (refine zay rfl (fun h => ?_) (fun h => ?_) <;> (have h' := h; (try simp only [sx] at h')))))
      | (refine za2 ?_) | (refine zag ?_) | (refine zaj ?_) | (refine zao ?_) | (refine zam ?_) | (refine zan ?_) | (refine zaq rfl ?_) | (refine zah ?_) | (refine zai ?_) | (refine zbi ?_))
          all_goals first
            | (exfalso; omega)
            | (exfalso; simp at *; done)
            | (refine zb6 (i + 1, es ++ [[.list 1 (ints R)]], m + 1) rfl aW ⟨by simp only; omega, by simp only [e1, tabR_snoc, hes], by simp [hem]⟩ (by simp only; omega))
        | false =>
          rw [hinn, if_neg (by simp), List.append_nil] at e1
          rw [hinn] at kB
          repeat' (first
      | (refine zaz ?_; first | (refine za4 ?_; refine zas _ rfl ?_) | (refine zak ?_; refine zaa _ rfl ?_) | (refine zbu ?_; first | (refine zb0 rfl rfl aO ?_) | (refine zbs _ rfl rfl rfl ?_) | (refine zbr aA rfl rfl ?_) | (refine zav _ rfl rfl rfl ?_)) | (refine g_un ?_; first | (refine zb7 rfl ?_) | (refine zb8 rfl aO ?_)) | (refine zbb ?_; first | (refine zab aA rfl ?_) | (refine zae _ aA rfl rfl aE rfl ?_) | (refine zac _ aA rfl aZ aL ?_) | (refine zad _ aA rfl rfl aE aZ aL ?_)) | (refine zbz ?_; first | (refine zbf _ aA rfl aL ?_) | (refine zbg _ aA rfl rfl (by simp only [lx, Nat.reduceAdd]; first | done | rfl) ?_)) | (refine zbd ?_; first | (refine zax _ aA rfl rfl aO aA ?_) | (refine zaw _ aA rfl rfl rfl rfl aO aO (by first | (rw [Nat.zero_add, Int.toNat_natCast]) | (rw [Nat.zero_add]) | rfl) ?_)) | (refine zb3 ?_; first | (refine zbn rfl aD rfl ?_) | (refine zbp rfl aD ?_) | (refine zbm rfl aD ?_) | (refine zbq rfl aD rfl ?_)) | (refine zby ?_; first | (refine zb4 rfl rfl aD ?_) | (refine zcc rfl rfl aD ?_) | (refine zcb rfl rfl ?_) | (refine zbo rfl rfl (fun h => ?_) (fun h => ?_) <;> (have h' := h; (try simp only [sx] at h')))) | (refine za9 ?_; first | (refine zbc true (kH) rfl rfl rfl aS rfl aH ?_; simp only [cl]) | (refine zbc true (kS) rfl rfl rfl aS rfl aH ?_; simp only [cl]) | (refine zbc true (kB) rfl rfl rfl aS rfl aH ?_; simp only [cl]) | (refine za8 aA rfl ?_) | (refine za6 aA rfl rfl ?_) | (refine za5 aA rfl ?_) | (refine za7 aA (evO_ok rfl) ?_) | (refine zbx _ _ aA rfl (lookM (by rfl)) rfl (lookM (by rfl)) rfl aN ⟨rfl, rfl, by decide, by decide⟩ (by first | rfl | omega | (simp; done) | (simp; omega) | fail) ⟨by first | (simp only [List.length_cons, List.length_nil]; omega) | omega | fail, by decide⟩ rfl (by first | (first | (simp only [lx, Nat.reduceAdd]; first | done | rfl) | fail) | rfl) aP ?_) | (refine zbw _ _ aA rfl rfl (lookM (by rfl)) ⟨rfl, by decide⟩ aN (by first | exact Nat.succ_pos _ | omega | (simp; done)) ⟨by first | (simp only [List.length_cons, List.length_nil]; omega) | omega | fail, by decide⟩ rfl rfl aP ?_) | (refine zbv _ aA rfl rfl (lookM (by rfl)) ⟨rfl, by decide⟩ aN ⟨by first | (simp only [List.length_cons, List.length_nil]; omega) | omega | fail, by decide⟩ rfl aP ?_) | (refine zbl _ aA rfl rfl rfl ⟨rfl, rfl, rfl, by decide, by decide⟩ (by first | rfl | (simp; done) | fail) ⟨by omega, by decide⟩ rfl aL (by first | (rw [Nat.zero_add]) | rfl) ?_)) | (refine zal aA rfl rfl rfl ?_) | (refine zbt _ _ rfl rfl rfl rfl ?_) | (refine zar (hK _ _ (.inl rfl) ?_); clear hK K) | (refine zar (hK _ _ (.inr (by kernel_rfl)) ?_); clear hK K))
      | (refine za3 ?_; first | (refine zbk ?_) | (refine zaf (fun K hK => ?_)) | (refine zap ?_) | (refine za0 ?_) | (refine zbj ?_) | (refine za1 ?_) | (refine zbe ?_; first | (refine zat rfl aD ?_) | (refine zau rfl aD ?_) | (refine zay rfl (fun h => ?_) (fun h => ?_) <;> (have h' := h; (try simp only [sx] at h')))))
      | (refine za2 ?_) | (refine zag ?_) | (refine zaj ?_) | (refine zao ?_) | (refine zam ?_) | (refine zan ?_) | (refine zaq rfl ?_) | (refine zah ?_) | (refine zai ?_) | (refine zbi ?_))
          all_goals first
            | (exfalso; omega)
            | (exfalso; simp at *; done)
            | (refine zb6 (i + 1, es, m) rfl aW ⟨by simp only; omega, by simp only [e1, hes], hem⟩ (by simp only; omega))
      · have e2 := e2 (by rw [hhd, decide_eq_false hac])
        repeat' (first
      | (refine zaz ?_; first | (refine za4 ?_; refine zas _ rfl ?_) | (refine zak ?_; refine zaa _ rfl ?_) | (refine zbu ?_; first | (refine zb0 rfl rfl aO ?_) | (refine zbs _ rfl rfl rfl ?_) | (refine zbr aA rfl rfl ?_) | (refine zav _ rfl rfl rfl ?_)) | (refine g_un ?_; first | (refine zb7 rfl ?_) | (refine zb8 rfl aO ?_)) | (refine zbb ?_; first | (refine zab aA rfl ?_) | (refine zae _ aA rfl rfl aE rfl ?_) | (refine zac _ aA rfl aZ aL ?_) | (refine zad _ aA rfl rfl aE aZ aL ?_)) | (refine zbz ?_; first | (refine zbf _ aA rfl aL ?_) | (refine zbg _ aA rfl rfl (by simp only [lx, Nat.reduceAdd]; first | done | rfl) ?_)) | (refine zbd ?_; first | (refine zax _ aA rfl rfl aO aA ?_) | (refine zaw _ aA rfl rfl rfl rfl aO aO (by first | (rw [Nat.zero_add, Int.toNat_natCast]) | (rw [Nat.zero_add]) | rfl) ?_)) | (refine zb3 ?_; first | (refine zbn rfl aD rfl ?_) | (refine zbp rfl aD ?_) | (refine zbm rfl aD ?_) | (refine zbq rfl aD rfl ?_)) | (refine zby ?_; first | (refine zb4 rfl rfl aD ?_) | (refine zcc rfl rfl aD ?_) | (refine zcb rfl rfl ?_) | (refine zbo rfl rfl (fun h => ?_) (fun h => ?_) <;> (have h' := h; (try simp only [sx] at h')))) | (refine za9 ?_; first | (refine zbc true (kH) rfl rfl rfl aS rfl aH ?_; simp only [cl]) | (refine zbc true (kS) rfl rfl rfl aS rfl aH ?_; simp only [cl]) | (refine zbc true (kB) rfl rfl rfl aS rfl aH ?_; simp only [cl]) | (refine za8 aA rfl ?_) | (refine za6 aA rfl rfl ?_) | (refine za5 aA rfl ?_) | (refine za7 aA (evO_ok rfl) ?_) | (refine zbx _ _ aA rfl (lookM (by rfl)) rfl (lookM (by rfl)) rfl aN ⟨rfl, rfl, by decide, by decide⟩ (by first | rfl | omega | (simp; done) | (simp; omega) | fail) ⟨by first | (simp only [List.length_cons, List.length_nil]; omega) | omega | fail, by decide⟩ rfl (by first | (first | (simp only [lx, Nat.reduceAdd]; first | done | rfl) | fail) | rfl) aP ?_) | (refine zbw _ _ aA rfl rfl (lookM (by rfl)) ⟨rfl, by decide⟩ aN (by first | exact Nat.succ_pos _ | omega | (simp; done)) ⟨by first | (simp only [List.length_cons, List.length_nil]; omega) | omega | fail, by decide⟩ rfl rfl aP ?_) | (refine zbv _ aA rfl rfl (lookM (by rfl)) ⟨rfl, by decide⟩ aN ⟨by first | (simp only [List.length_cons, List.length_nil]; omega) | omega | fail, by decide⟩ rfl aP ?_) | (refine zbl _ aA rfl rfl rfl ⟨rfl, rfl, rfl, by decide, by decide⟩ (by first | rfl | (simp; done) | fail) ⟨by omega, by decide⟩ rfl aL (by first | (rw [Nat.zero_add]) | rfl) ?_)) | (refine zal aA rfl rfl rfl ?_) | (refine zbt _ _ rfl rfl rfl rfl ?_) | (refine zar (hK _ _ (.inl rfl) ?_); clear hK K) | (refine zar (hK _ _ (.inr (by kernel_rfl)) ?_); clear hK K))
      | (refine za3 ?_; first | (refine zbk ?_) | (refine zaf (fun K hK => ?_)) | (refine zap ?_) | (refine za0 ?_) | (refine zbj ?_) | (refine za1 ?_) | (refine zbe ?_; first | (refine zat rfl aD ?_) | (refine zau rfl aD ?_) | (refine zay rfl (fun h => ?_) (fun h => ?_) <;> (have h' := h; (try simp only [sx] at h')))))
      | (refine za2 ?_) | (refine zag ?_) | (refine zaj ?_) | (refine zao ?_) | (refine zam ?_) | (refine zan ?_) | (refine zaq rfl ?_) | (refine zah ?_) | (refine zai ?_) | (refine zbi ?_))
        all_goals first
          | (exfalso; omega)
          | (refine zb6 (i + 1, es, m) rfl aW ⟨by simp only; omega, by simp only [e2, hes], hem⟩ (by simp only; omega))
  · have hin : i = t.burn.length := by omega
    subst hin
    have hes : es = tabR (hlL t r) := hes
    repeat' (first
      | (refine zaz ?_; first | (refine za4 ?_; refine zas _ rfl ?_) | (refine zak ?_; refine zaa _ rfl ?_) | (refine zbu ?_; first | (refine zb0 rfl rfl aO ?_) | (refine zbs _ rfl rfl rfl ?_) | (refine zbr aA rfl rfl ?_) | (refine zav _ rfl rfl rfl ?_)) | (refine g_un ?_; first | (refine zb7 rfl ?_) | (refine zb8 rfl aO ?_)) | (refine zbb ?_; first | (refine zab aA rfl ?_) | (refine zae _ aA rfl rfl aE rfl ?_) | (refine zac _ aA rfl aZ aL ?_) | (refine zad _ aA rfl rfl aE aZ aL ?_)) | (refine zbz ?_; first | (refine zbf _ aA rfl aL ?_) | (refine zbg _ aA rfl rfl (by simp only [lx, Nat.reduceAdd]; first | done | rfl) ?_)) | (refine zbd ?_; first | (refine zax _ aA rfl rfl aO aA ?_) | (refine zaw _ aA rfl rfl rfl rfl aO aO (by first | (rw [Nat.zero_add, Int.toNat_natCast]) | (rw [Nat.zero_add]) | rfl) ?_)) | (refine zb3 ?_; first | (refine zbn rfl aD rfl ?_) | (refine zbp rfl aD ?_) | (refine zbm rfl aD ?_) | (refine zbq rfl aD rfl ?_)) | (refine zby ?_; first | (refine zb4 rfl rfl aD ?_) | (refine zcc rfl rfl aD ?_) | (refine zcb rfl rfl ?_) | (refine zbo rfl rfl (fun h => ?_) (fun h => ?_) <;> (have h' := h; (try simp only [sx] at h')))) | (refine za9 ?_; first | (refine za8 aA rfl ?_) | (refine za6 aA rfl rfl ?_) | (refine za5 aA rfl ?_) | (refine za7 aA (evO_ok rfl) ?_) | (refine zbx _ _ aA rfl (lookM (by rfl)) rfl (lookM (by rfl)) rfl aN ⟨rfl, rfl, by decide, by decide⟩ (by first | rfl | omega | (simp; done) | (simp; omega) | fail) ⟨by first | (simp only [List.length_cons, List.length_nil]; omega) | omega | fail, by decide⟩ rfl (by first | (first | (simp only [lx, Nat.reduceAdd]; first | done | rfl) | fail) | rfl) aP ?_) | (refine zbw _ _ aA rfl rfl (lookM (by rfl)) ⟨rfl, by decide⟩ aN (by first | exact Nat.succ_pos _ | omega | (simp; done)) ⟨by first | (simp only [List.length_cons, List.length_nil]; omega) | omega | fail, by decide⟩ rfl rfl aP ?_) | (refine zbv _ aA rfl rfl (lookM (by rfl)) ⟨rfl, by decide⟩ aN ⟨by first | (simp only [List.length_cons, List.length_nil]; omega) | omega | fail, by decide⟩ rfl aP ?_) | (refine zbl _ aA rfl rfl rfl ⟨rfl, rfl, rfl, by decide, by decide⟩ (by first | rfl | (simp; done) | fail) ⟨by omega, by decide⟩ rfl aL (by first | (rw [Nat.zero_add]) | rfl) ?_)) | (refine zal aA rfl rfl rfl ?_) | (refine zbt _ _ rfl rfl rfl rfl ?_) | (refine zar (hK _ _ (.inl rfl) ?_); clear hK K) | (refine zar (hK _ _ (.inr (by kernel_rfl)) ?_); clear hK K))
      | (refine za3 ?_; first | (refine zbk ?_) | (refine zaf (fun K hK => ?_)) | (refine zap ?_) | (refine za0 ?_) | (refine zbj ?_) | (refine za1 ?_) | (refine zbe ?_; first | (refine zat rfl aD ?_) | (refine zau rfl aD ?_) | (refine zay rfl (fun h => ?_) (fun h => ?_) <;> (have h' := h; (try simp only [sx] at h')))))
      | (refine za2 ?_) | (refine zag ?_) | (refine zaj ?_) | (refine zao ?_) | (refine zam ?_) | (refine zan ?_) | (refine zaq rfl ?_) | (refine zah ?_) | (refine zai ?_) | (refine zbi ?_))
    all_goals first
      | (exfalso; omega)
      | exact ret_listA rfl (zbh (by rfl)) (by rfl) (by decide) hem.symm hes
theorem k_iHolesO (t : Terrain) (r : List Int) (hn : t.burn.length ≤ 1000000) (hm : r.length ≤ 1000000) : ConA Try.prog 31 [.agg t.pv, .list 1 (ints r)] (.tuple [.olist 24 1 (tabR (hoR t r)), .bool (decide (RgOk t r))]) := by
  refine zba hmix Try.func31 rfl (by kernel_rfl) (by kernel_rfl) (Nat.le_of_ble_eq_true rfl) (fun row h => by cases h) ?_
  have hty_a26 := ty_a26
  have hty_s35 := ty_s35
  have hty_u35 := ty_u35
  have hty_u24 := ty_u24
  have hty_s24 := ty_s24
  have k1 := k_isRegion1 t r hn hm
  by_cases hok : RgOk t r
  · rw [decide_eq_true hok] at k1
    rw [hoR, if_pos hok, decide_eq_true hok]
    have kP := k_holes t r hok.1 hm
    repeat' (first
      | (refine zaz ?_; first | (refine za4 ?_; refine zas _ rfl ?_) | (refine zak ?_; refine zaa _ rfl ?_) | (refine g_un ?_; first | (refine zb7 rfl ?_) | (refine zb8 rfl aO ?_)) | (refine zbb ?_; first | (refine zab aA rfl ?_) | (refine zae _ aA rfl rfl aE rfl ?_) | (refine zac _ aA rfl aZ aL ?_) | (refine zad _ aA rfl rfl aE aZ aL ?_)) | (refine za9 ?_; first | (refine zbc true (k1) rfl rfl rfl aS rfl aH ?_; simp only [cl]) | (refine x_callA true (kP) rfl rfl rfl rfl rfl aS rfl aH ?_; simp only [cl])) | (refine zal aA rfl rfl rfl ?_) | (refine zbt _ _ rfl rfl rfl rfl ?_) | (refine zar (hK _ _ (.inl rfl) ?_); clear hK K) | (refine zar (hK _ _ (.inr (by kernel_rfl)) ?_); clear hK K))
      | (refine za3 ?_; first | (refine zbk ?_) | (refine zaf (fun K hK => ?_)) | (refine zap ?_) | (refine za0 ?_) | (refine zbj ?_) | (refine za1 ?_) | (refine zbe ?_; first | (refine zat rfl aD ?_) | (refine zau rfl aD ?_) | (refine zay rfl (fun h => ?_) (fun h => ?_) <;> (have h' := h; (try simp only [sx] at h')))))
      | (refine za2 ?_) | (refine zag ?_) | (refine zaj ?_) | (refine zao ?_) | (refine zam ?_) | (refine zan ?_) | (refine zaq rfl ?_) | (refine zah ?_) | (refine zai ?_) | (refine zbi ?_))
    all_goals first
      | (exfalso; omega)
      | ((first | refine ret_TL rfl rfl rfl (by first | exact trivial | (repeat' (first | exact trivial | refine ⟨by assumption, ?_⟩))) (by repeat' (first | exact trivial | refine ⟨by simp, ?_⟩)) (by first | exact trivial | exact ⟨⟨rfl, rfl, fun h => by cases h⟩, trivial⟩) ?_ | refine ret_AL rfl rfl rfl (by first | exact trivial | (repeat' (first | exact trivial | refine ⟨by assumption, ?_⟩))) (by repeat' (first | exact trivial | refine ⟨by simp, ?_⟩)) (by first | exact trivial | exact ⟨⟨rfl, rfl, fun h => by cases h⟩, trivial⟩) ?_); (repeat' (first | exact et_end | exact el_end | refine et_int rfl ?_ ?_ | refine et_bool ?_ ?_ | refine et_str ?_ ?_ | refine et_lst rfl rfl ?_ ?_ | refine zcp rfl (by rfl) (by decide) rfl rfl ?_ ?_ ?_ | refine et_nil ?_ ?_ | refine et_agg0 ?_ ?_ | refine et_agg ?_ ?_ | refine el_int rfl ?_ ?_ | refine el_bool ?_ ?_ | refine el_str ?_ ?_ | refine el_lst rfl rfl ?_ ?_ | refine zco rfl (by rfl) (by decide) rfl rfl ?_ ?_ ?_ | refine el_nil ?_ ?_)) <;> (first | rfl | assumption | (simp; done) | omega))
  · rw [decide_eq_false hok] at k1
    rw [hoR, if_neg hok, decide_eq_false hok]
    repeat' (first
      | (refine zaz ?_; first | (refine za4 ?_; refine zas _ rfl ?_) | (refine zak ?_; refine zaa _ rfl ?_) | (refine g_un ?_; first | (refine zb7 rfl ?_) | (refine zb8 rfl aO ?_)) | (refine zbb ?_; first | (refine zab aA rfl ?_) | (refine zae _ aA rfl rfl aE rfl ?_) | (refine zac _ aA rfl aZ aL ?_) | (refine zad _ aA rfl rfl aE aZ aL ?_)) | (refine za9 ?_; refine zbc true (k1) rfl rfl rfl aS rfl aH ?_; simp only [cl]) | (refine zal aA rfl rfl rfl ?_) | (refine zbt _ _ rfl rfl rfl rfl ?_) | (refine zar (hK _ _ (.inl rfl) ?_); clear hK K) | (refine zar (hK _ _ (.inr (by kernel_rfl)) ?_); clear hK K))
      | (refine za3 ?_; first | (refine zbk ?_) | (refine zaf (fun K hK => ?_)) | (refine zap ?_) | (refine za0 ?_) | (refine zbj ?_) | (refine za1 ?_) | (refine zbe ?_; first | (refine zat rfl aD ?_) | (refine zau rfl aD ?_) | (refine zay rfl (fun h => ?_) (fun h => ?_) <;> (have h' := h; (try simp only [sx] at h')))))
      | (refine za2 ?_) | (refine zag ?_) | (refine zaj ?_) | (refine zao ?_) | (refine zam ?_) | (refine zan ?_) | (refine zaq rfl ?_) | (refine zah ?_) | (refine zai ?_) | (refine zbi ?_))
    all_goals first
      | (exfalso; omega)
      | ((first | refine ret_TL rfl rfl rfl (by first | exact trivial | (repeat' (first | exact trivial | refine ⟨by assumption, ?_⟩))) (by repeat' (first | exact trivial | refine ⟨by simp, ?_⟩)) (by first | exact trivial | exact ⟨⟨rfl, rfl, fun h => by cases h⟩, trivial⟩) ?_ | refine ret_AL rfl rfl rfl (by first | exact trivial | (repeat' (first | exact trivial | refine ⟨by assumption, ?_⟩))) (by repeat' (first | exact trivial | refine ⟨by simp, ?_⟩)) (by first | exact trivial | exact ⟨⟨rfl, rfl, fun h => by cases h⟩, trivial⟩) ?_); (repeat' (first | exact et_end | exact el_end | refine et_int rfl ?_ ?_ | refine et_bool ?_ ?_ | refine et_str ?_ ?_ | refine et_lst rfl rfl ?_ ?_ | refine zcp rfl (by rfl) (by decide) rfl rfl ?_ ?_ ?_ | refine et_nil ?_ ?_ | refine et_agg0 ?_ ?_ | refine et_agg ?_ ?_ | refine el_int rfl ?_ ?_ | refine el_bool ?_ ?_ | refine el_str ?_ ?_ | refine el_lst rfl rfl ?_ ?_ | refine zco rfl (by rfl) (by decide) rfl rfl ?_ ?_ ?_ | refine el_nil ?_ ?_)) <;> (first | rfl | assumption | (simp; done) | omega))
theorem k_sHolesO (t : Terrain) (r : List Int) (hn : t.burn.length ≤ 1000000) (hm : r.length ≤ 1000000) : ConA Try.prog 32 [.agg t.pv, .list 1 (ints r)] (.tuple [.olist 24 1 (tabR (hoR t r)), .bool (decide (RgOk t r))]) := by
  refine zba hmix Try.func32 rfl (by kernel_rfl) (by kernel_rfl) (Nat.le_of_ble_eq_true rfl) (fun row h => by cases h) ?_
  have hty_a26 := ty_a26
  have hty_u24 := ty_u24
  have hty_s24 := ty_s24
  have hty_s35 := ty_s35
  have k1 := k_set1 t r hn hm
  by_cases hok : RgOk t r
  · rw [decide_eq_true hok] at k1
    rw [hoR, if_pos hok, decide_eq_true hok]
    have kP := k_l6Holes t r hok.1 hm
    repeat' (first
      | (refine zaz ?_; first | (refine za4 ?_; refine zas _ rfl ?_) | (refine zak ?_; refine zaa _ rfl ?_) | (refine g_un ?_; first | (refine zb7 rfl ?_) | (refine zb8 rfl aO ?_)) | (refine zbb ?_; first | (refine zab aA rfl ?_) | (refine zae _ aA rfl rfl aE rfl ?_) | (refine zac _ aA rfl aZ aL ?_) | (refine zad _ aA rfl rfl aE aZ aL ?_)) | (refine za9 ?_; first | (refine zbc true (k1) rfl rfl rfl aS rfl aH ?_; simp only [cl]) | (refine x_callA true (kP) rfl rfl rfl rfl rfl aS rfl aH ?_; simp only [cl])) | (refine zal aA rfl rfl rfl ?_) | (refine zbt _ _ rfl rfl rfl rfl ?_) | (refine zar (hK _ _ (.inl rfl) ?_); clear hK K) | (refine zar (hK _ _ (.inr (by kernel_rfl)) ?_); clear hK K))
      | (refine za3 ?_; first | (refine zbk ?_) | (refine zaf (fun K hK => ?_)) | (refine zap ?_) | (refine za0 ?_) | (refine zbj ?_) | (refine za1 ?_) | (refine zbe ?_; first | (refine zat rfl aD ?_) | (refine zau rfl aD ?_) | (refine zay rfl (fun h => ?_) (fun h => ?_) <;> (have h' := h; (try simp only [sx] at h')))))
      | (refine za2 ?_) | (refine zag ?_) | (refine zaj ?_) | (refine zao ?_) | (refine zam ?_) | (refine zan ?_) | (refine zaq rfl ?_) | (refine zah ?_) | (refine zai ?_) | (refine zbi ?_))
    all_goals first
      | (exfalso; omega)
      | ((first | refine ret_TL rfl rfl rfl (by first | exact trivial | (repeat' (first | exact trivial | refine ⟨by assumption, ?_⟩))) (by repeat' (first | exact trivial | refine ⟨by simp, ?_⟩)) (by first | exact trivial | exact ⟨⟨rfl, rfl, fun h => by cases h⟩, trivial⟩) ?_ | refine ret_AL rfl rfl rfl (by first | exact trivial | (repeat' (first | exact trivial | refine ⟨by assumption, ?_⟩))) (by repeat' (first | exact trivial | refine ⟨by simp, ?_⟩)) (by first | exact trivial | exact ⟨⟨rfl, rfl, fun h => by cases h⟩, trivial⟩) ?_); (repeat' (first | exact et_end | exact el_end | refine et_int rfl ?_ ?_ | refine et_bool ?_ ?_ | refine et_str ?_ ?_ | refine et_lst rfl rfl ?_ ?_ | refine zcp rfl (by rfl) (by decide) rfl rfl ?_ ?_ ?_ | refine et_nil ?_ ?_ | refine et_agg0 ?_ ?_ | refine et_agg ?_ ?_ | refine el_int rfl ?_ ?_ | refine el_bool ?_ ?_ | refine el_str ?_ ?_ | refine el_lst rfl rfl ?_ ?_ | refine zco rfl (by rfl) (by decide) rfl rfl ?_ ?_ ?_ | refine el_nil ?_ ?_)) <;> (first | rfl | assumption | (simp; done) | omega))
  · rw [decide_eq_false hok] at k1
    rw [hoR, if_neg hok, decide_eq_false hok]
    repeat' (first
      | (refine zaz ?_; first | (refine za4 ?_; refine zas _ rfl ?_) | (refine zak ?_; refine zaa _ rfl ?_) | (refine g_un ?_; first | (refine zb7 rfl ?_) | (refine zb8 rfl aO ?_)) | (refine zbb ?_; first | (refine zab aA rfl ?_) | (refine zae _ aA rfl rfl aE rfl ?_) | (refine zac _ aA rfl aZ aL ?_) | (refine zad _ aA rfl rfl aE aZ aL ?_)) | (refine za9 ?_; refine zbc true (k1) rfl rfl rfl aS rfl aH ?_; simp only [cl]) | (refine zal aA rfl rfl rfl ?_) | (refine zbt _ _ rfl rfl rfl rfl ?_) | (refine zar (hK _ _ (.inl rfl) ?_); clear hK K) | (refine zar (hK _ _ (.inr (by kernel_rfl)) ?_); clear hK K))
      | (refine za3 ?_; first | (refine zbk ?_) | (refine zaf (fun K hK => ?_)) | (refine zap ?_) | (refine za0 ?_) | (refine zbj ?_) | (refine za1 ?_) | (refine zbe ?_; first | (refine zat rfl aD ?_) | (refine zau rfl aD ?_) | (refine zay rfl (fun h => ?_) (fun h => ?_) <;> (have h' := h; (try simp only [sx] at h')))))
      | (refine za2 ?_) | (refine zag ?_) | (refine zaj ?_) | (refine zao ?_) | (refine zam ?_) | (refine zan ?_) | (refine zaq rfl ?_) | (refine zah ?_) | (refine zai ?_) | (refine zbi ?_))
    all_goals first
      | (exfalso; omega)
      | ((first | refine ret_TL rfl rfl rfl (by first | exact trivial | (repeat' (first | exact trivial | refine ⟨by assumption, ?_⟩))) (by repeat' (first | exact trivial | refine ⟨by simp, ?_⟩)) (by first | exact trivial | exact ⟨⟨rfl, rfl, fun h => by cases h⟩, trivial⟩) ?_ | refine ret_AL rfl rfl rfl (by first | exact trivial | (repeat' (first | exact trivial | refine ⟨by assumption, ?_⟩))) (by repeat' (first | exact trivial | refine ⟨by simp, ?_⟩)) (by first | exact trivial | exact ⟨⟨rfl, rfl, fun h => by cases h⟩, trivial⟩) ?_); (repeat' (first | exact et_end | exact el_end | refine et_int rfl ?_ ?_ | refine et_bool ?_ ?_ | refine et_str ?_ ?_ | refine et_lst rfl rfl ?_ ?_ | refine zcp rfl (by rfl) (by decide) rfl rfl ?_ ?_ ?_ | refine et_nil ?_ ?_ | refine et_agg0 ?_ ?_ | refine et_agg ?_ ?_ | refine el_int rfl ?_ ?_ | refine el_bool ?_ ?_ | refine el_str ?_ ?_ | refine el_lst rfl rfl ?_ ?_ | refine zco rfl (by rfl) (by decide) rfl rfl ?_ ?_ ?_ | refine el_nil ?_ ?_)) <;> (first | rfl | assumption | (simp; done) | omega))
end
end Go.Vs
set_option linter.unusedVariables false
set_option linter.unusedSimpArgs false
set_option maxRecDepth 100000
set_option maxHeartbeats 4000000
namespace Go.Vs
open Go.Proofs
attribute [local irreducible] exec vwp thenQ blkQ loopQ RetPost
noncomputable section
noncomputable def fiR (t : Terrain) (r : List Int) : List Int := if RgOk t r then flF t r else []
noncomputable def edR (t : Terrain) (r : List Int) : Int := if RgOk t r then edgL t r else 0
theorem flF_len (t : Terrain) (r : List Int) : (flF t r).length ≤ t.burn.length := cellsL_len _ _
theorem ho_flat_len {t : Terrain} {r : List Int} : (hlL t r).flatten.length ≤ t.burn.length := by
  refine Nat.le_trans (nodup_sub (hole_flat_nodup t r) (m := outR t r) fun x hx => hole_out hx) (cellsL_len _ _)
theorem flat_take {L : List (List Int)} {i : Nat} {h : List Int} (hg : L[i]? = some h) : (L.take (i + 1)).flatten = (L.take i).flatten ++ h := by rw [take_succ hg, List.flatten_append]; simp
theorem flat_take_len : ∀ (L : List (List Int)) (i : Nat), (L.take i).flatten.length ≤ L.flatten.length
  | [], i => by simp
  | a :: L, 0 => by simp
  | a :: L, i + 1 => by
    rw [List.take_succ_cons, List.flatten_cons, List.flatten_cons, List.length_append, List.length_append]
    have := flat_take_len L i
    omega
theorem k_fill1 (U : List Int) (c : Nat) (hm : U.length ≤ 1000000) : Con Try.prog 87 [.int .i64 (c : Int), .ptr [.list 1 (ints U)]] (.bool (decide ((c : Int) ∈ U))) := by
  intro al
  refine zba hmix Try.func87 rfl (by kernel_rfl) (by kernel_rfl) (Nat.le_of_ble_eq_true rfl) (fun row h => by cases h) ?_
  have hty_c24 := ty_c24
  have hty_u24 := ty_u24
  have hty_s24 := ty_s24
  have kH := k_hasInt U (c : Int) aO
  repeat' (first
      | (refine zaz ?_; first | (refine za4 ?_; refine zas _ rfl ?_) | (refine zak ?_; refine zaa _ rfl ?_) | (refine zbb ?_; first | (refine zab aA rfl ?_) | (refine zae _ aA rfl rfl aE rfl ?_) | (refine zac _ aA rfl aZ aL ?_) | (refine zad _ aA rfl rfl aE aZ aL ?_)) | (refine za9 ?_; refine zbc true (kH) rfl rfl rfl aS rfl aH ?_; simp only [cl]) | (refine zar (hK _ _ (.inl rfl) ?_); clear hK K) | (refine zar (hK _ _ (.inr (by kernel_rfl)) ?_); clear hK K))
      | (refine za3 ?_; first | (refine zbk ?_) | (refine zaf (fun K hK => ?_)) | (refine zap ?_) | (refine za0 ?_) | (refine zbj ?_) | (refine za1 ?_))
      | (refine za2 ?_) | (refine zag ?_) | (refine zaj ?_) | (refine zao ?_) | (refine zam ?_) | (refine zan ?_) | (refine zaq rfl ?_) | (refine zah ?_) | (refine zai ?_) | (refine zbi ?_))
  all_goals exact zb2 rfl (zbh rfl) rfl
theorem k_iFill (t : Terrain) (r : List Int) (hn : t.burn.length ≤ 1000000) (hm : r.length ≤ 1000000) : Con Try.prog 29 [.agg t.pv, .list 1 (ints r)] (.tuple [.olist 3 1 (ints (fiR t r)), .bool (decide (RgOk t r))]) := by
  intro al
  refine zba hmix Try.func29 rfl (by kernel_rfl) (by kernel_rfl) (Nat.le_of_ble_eq_true rfl) (fun row h => by cases h) ?_
  have hty_a26 := ty_a26
  have hty_s35 := ty_s35
  have hty_u35 := ty_u35
  have hty_u24 := ty_u24
  have hty_s24 := ty_s24
  have hty_z24 := ty_z24
  have hty_t24 := ty_t24
  have hty_c24 := ty_c24
  have k1 := k_isRegion1 t r hn hm
  by_cases hok : RgOk t r
  · rw [decide_eq_true hok] at k1
    rw [fiR, if_pos hok, decide_eq_true hok]
    have hlen := goodT_len hok.1
    have kP := (k_holes t r hok.1 hm).frz rfl
    simp only [frz] at kP
    have hrl := hok.len
    have hfl := ho_flat_len (t := t) (r := r)
    have hhl := hlL_len t r
    have kC := k_copyOfInt r aO
    have hfin : cellsL t.burn.length (fun i => decide ((i : Int) ∈ r ++ (hlL t r).flatten)) = flF t r := by
      unfold flF
      refine cellsL_congr fun i _ => ?_
      rw [Bool.eq_iff_iff, decide_eq_true_eq, decide_eq_true_eq, List.mem_append]
    generalize hlL t r = L at *
    have hl2 := tabR_len L
    repeat' (first
      | (refine zaz ?_; first | (refine za4 ?_; refine zas _ rfl ?_) | (refine zak ?_; refine zaa _ rfl ?_) | (refine zbu ?_; first | (refine zb0 rfl rfl aO ?_) | (refine zbs _ rfl rfl rfl ?_) | (refine zav _ rfl rfl rfl ?_)) | (refine g_un ?_; first | (refine zb7 rfl ?_) | (refine zb8 rfl aO ?_)) | (refine zbb ?_; first | (refine zab aA rfl ?_) | (refine zae _ aA rfl rfl aE rfl ?_) | (refine zac _ aA rfl aZ aL ?_) | (refine zad _ aA rfl rfl aE aZ aL ?_)) | (refine zbd ?_; first | (refine zax _ aA rfl rfl aO aA ?_) | (refine zaw _ aA rfl rfl rfl rfl aO aO (by first | (rw [Nat.zero_add, Int.toNat_natCast]) | (rw [Nat.zero_add]) | rfl) ?_)) | (refine za9 ?_; first | (refine zbc true (k1) rfl rfl rfl aS rfl aH ?_; simp only [cl]) | (refine zbc true (kC) rfl rfl rfl aS rfl aH ?_; simp only [cl]) | (refine x_callA true (kP) rfl rfl rfl rfl rfl aS rfl aH ?_; simp only [cl]) | (refine za8 aA rfl ?_) | (refine za6 aA rfl rfl ?_) | (refine za5 aA rfl ?_) | (refine za7 aA (evO_ok rfl) ?_) | (refine zbx _ _ aA rfl (lookM (by rfl)) rfl (lookM (by rfl)) rfl aN ⟨rfl, rfl, by decide, by decide⟩ (by first | rfl | omega | (simp; done) | (simp; omega) | fail) ⟨by first | (simp only [List.length_cons, List.length_nil]; omega) | omega | fail, by decide⟩ rfl (by first | (first | (simp only [lx, Nat.reduceAdd]; first | done | rfl) | fail) | rfl) aP ?_) | (refine zbw _ _ aA rfl rfl (lookM (by rfl)) ⟨rfl, by decide⟩ aN (by first | exact Nat.succ_pos _ | omega | (simp; done)) ⟨by first | (simp only [List.length_cons, List.length_nil]; omega) | omega | fail, by decide⟩ rfl rfl aP ?_) | (refine zbv _ aA rfl rfl (lookM (by rfl)) ⟨rfl, by decide⟩ aN ⟨by first | (simp only [List.length_cons, List.length_nil]; omega) | omega | fail, by decide⟩ rfl aP ?_) | (refine zbl _ aA rfl rfl rfl ⟨rfl, rfl, rfl, by decide, by decide⟩ (by first | rfl | (simp; done) | (dsimp only; omega) | fail) ⟨by omega, by decide⟩ rfl aL (by first | (rw [Nat.zero_add]) | rfl) ?_)) | (refine zal aA rfl rfl rfl ?_) | (refine zbt _ _ rfl rfl rfl rfl ?_) | (refine zb9 _ aA rfl ?_) | (refine zb5 aA rfl ?_) | (refine zcm _ _ rfl rfl ?_) | (refine zb1 _ _ _ rfl rfl aE (by first | assumption | (exact TAgg.size aA)) rfl rfl rfl aZ rfl aL (by first | (first | (simp only [lx, Nat.reduceAdd]; first | done | rfl) | fail) | rfl) ?_) | (refine zar (hK _ _ (.inl rfl) ?_); clear hK K) | (refine zar (hK _ _ (.inr (by kernel_rfl)) ?_); clear hK K))
      | (refine za3 ?_; first | (refine zbk ?_) | (refine zaf (fun K hK => ?_)) | (refine zap ?_) | (refine za0 ?_) | (refine zbj ?_) | (refine za1 ?_) | (refine zbe ?_; first | (refine zat rfl aD ?_) | (refine zau rfl aD ?_) | (refine zay rfl (fun h => ?_) (fun h => ?_) <;> (have h' := h; (try simp only [sx] at h')))))
      | (refine za2 ?_) | (refine zag ?_) | (refine zaj ?_) | (refine zao ?_) | (refine zam ?_) | (refine zan ?_) | (refine zaq rfl ?_) | (refine zah ?_) | (refine zai ?_) | (refine zbi ?_))
    all_goals try (exfalso; omega)
    refine zcd [2, 6, 18, 19] [(6, 0), (1001, 0)] (fun q : Nat × List Int × List (List PV) × Nat => [(20, .int .i64 q.1)]) (fun q : Nat × List Int × List (List PV) × Nat => [((6, 0), some ⟨24, 1, [[.osl (1001, 0) 0 q.2.2.2]], true⟩), ((1001, 0), some ⟨3, 1, q.2.2.1, false⟩)]) (fun q : Nat × List Int × List (List PV) × Nat => q.1 ≤ L.length ∧ q.2.1 = r ++ (L.take q.1).flatten ∧ q.2.2.1 = ints q.2.1 ∧ q.2.2.1.length = q.2.2.2) (fun q : Nat × List Int × List (List PV) × Nat => L.length - q.1) ((0, r, ints r, (ints r).length)) rfl rfl (fun _ => rfl) (fun _ => rfl) rfl aW ⟨by simp, by simp, rfl, rfl⟩ (fun q hq => ?_)
    obtain ⟨i, U, es, m⟩ := q
    obtain ⟨hi, hU, hes, hem⟩ := hq
    simp only at hi hU hes hem
    dsimp only
    have hme := hem.symm
    have hel : es.length = r.length + (L.take i).flatten.length := by rw [hes, ints_len, hU, List.length_append]
    have hft := flat_take_len L i
    rcases Nat.lt_or_ge i L.length with hlt | hge
    · obtain ⟨h, hgh⟩ := get_ex hlt
      have hx := tabR_at hgh
      have e := flat_take hgh
      have hft2 := flat_take_len L (i + 1)
      rw [e, List.length_append] at hft2
      have hl3 : (ints h).length = h.length := by simp
      repeat' (first
      | (refine zaz ?_; first | (refine za4 ?_; refine zas _ rfl ?_) | (refine zak ?_; refine zaa _ rfl ?_) | (refine zbu ?_; first | (refine zb0 rfl rfl aO ?_) | (refine zbs _ rfl rfl rfl ?_) | (refine zav _ rfl rfl rfl ?_)) | (refine g_un ?_; first | (refine zb7 rfl ?_) | (refine zb8 rfl aO ?_)) | (refine zbb ?_; first | (refine zab aA rfl ?_) | (refine zae _ aA rfl rfl aE rfl ?_) | (refine zac _ aA rfl aZ aL ?_) | (refine zad _ aA rfl rfl aE aZ aL ?_)) | (refine zbd ?_; first | (refine zax _ aA rfl rfl aO aA ?_) | (refine zaw _ aA rfl rfl rfl rfl aO aO (by first | (rw [Nat.zero_add, Int.toNat_natCast]) | (rw [Nat.zero_add]) | rfl) ?_)) | (refine za9 ?_; first | (refine za8 aA rfl ?_) | (refine za6 aA rfl rfl ?_) | (refine za5 aA rfl ?_) | (refine za7 aA (evO_ok rfl) ?_) | (refine zbx _ _ aA rfl (lookM (by rfl)) rfl (lookM (by rfl)) rfl aN ⟨rfl, rfl, by decide, by decide⟩ (by first | rfl | omega | (simp; done) | (simp; omega) | fail) ⟨by first | (simp only [List.length_cons, List.length_nil]; omega) | omega | fail, by decide⟩ rfl (by first | (first | (simp only [lx, Nat.reduceAdd]; first | done | rfl) | fail) | rfl) aP ?_) | (refine zbw _ _ aA rfl rfl (lookM (by rfl)) ⟨rfl, by decide⟩ aN (by first | exact Nat.succ_pos _ | omega | (simp; done)) ⟨by first | (simp only [List.length_cons, List.length_nil]; omega) | omega | fail, by decide⟩ rfl rfl aP ?_) | (refine zbv _ aA rfl rfl (lookM (by rfl)) ⟨rfl, by decide⟩ aN ⟨by first | (simp only [List.length_cons, List.length_nil]; omega) | omega | fail, by decide⟩ rfl aP ?_) | (refine zbl _ aA rfl rfl rfl ⟨rfl, rfl, rfl, by decide, by decide⟩ (by first | rfl | (simp; done) | (dsimp only; omega) | fail) ⟨by omega, by decide⟩ rfl aL (by first | (rw [Nat.zero_add]) | rfl) ?_)) | (refine zal aA rfl rfl rfl ?_) | (refine zbt _ _ rfl rfl rfl rfl ?_) | (refine zb9 _ aA rfl ?_) | (refine zb5 aA rfl ?_) | (refine zcm _ _ rfl rfl ?_) | (refine zb1 _ _ _ rfl rfl aE (by first | assumption | (exact TAgg.size aA)) rfl rfl rfl aZ rfl aL (by first | (first | (simp only [lx, Nat.reduceAdd]; first | done | rfl) | fail) | rfl) ?_) | (refine zar (hK _ _ (.inl rfl) ?_); clear hK K) | (refine zar (hK _ _ (.inr (by kernel_rfl)) ?_); clear hK K))
      | (refine za3 ?_; first | (refine zbk ?_) | (refine zaf (fun K hK => ?_)) | (refine zap ?_) | (refine za0 ?_) | (refine zbj ?_) | (refine za1 ?_) | (refine zbe ?_; first | (refine zat rfl aD ?_) | (refine zau rfl aD ?_) | (refine zay rfl (fun h => ?_) (fun h => ?_) <;> (have h' := h; (try simp only [sx] at h')))))
      | (refine za2 ?_) | (refine zag ?_) | (refine zaj ?_) | (refine zao ?_) | (refine zam ?_) | (refine zan ?_) | (refine zaq rfl ?_) | (refine zah ?_) | (refine zai ?_) | (refine zbi ?_))
      all_goals first
        | (exfalso; omega)
        | (refine zb6 (i + 1, U ++ h, es ++ ints h, m + (ints h).length) rfl aW ⟨by simp only; omega, by simp only [e, hU, List.append_assoc], by simp only [hes, ints, List.map_append], by simp only [List.length_append, hem]⟩ (by simp only; omega))
    · rw [take_all hge] at hU
      subst hU
      have kT := k_cellsThat t 87 [[.list 1 (ints (r ++ L.flatten))]] (fun i => decide ((i : Int) ∈ r ++ L.flatten)) (fun c _ => k_fill1 (r ++ L.flatten) c (by rw [List.length_append]; omega)) aO
      rw [hfin] at kT
      subst hes
      repeat' (first
      | (refine zaz ?_; first | (refine za4 ?_; refine zas _ rfl ?_) | (refine zak ?_; refine zaa _ rfl ?_) | (refine zbu ?_; first | (refine zb0 rfl rfl aO ?_) | (refine zbs _ rfl rfl rfl ?_) | (refine zav _ rfl rfl rfl ?_)) | (refine g_un ?_; first | (refine zb7 rfl ?_) | (refine zb8 rfl aO ?_)) | (refine zbb ?_; first | (refine zab aA rfl ?_) | (refine zae _ aA rfl rfl aE rfl ?_) | (refine zac _ aA rfl aZ aL ?_) | (refine zad _ aA rfl rfl aE aZ aL ?_)) | (refine zbd ?_; first | (refine zax _ aA rfl rfl aO aA ?_) | (refine zaw _ aA rfl rfl rfl rfl aO aO (by first | (rw [Nat.zero_add, Int.toNat_natCast]) | (rw [Nat.zero_add]) | rfl) ?_)) | (refine za9 ?_; first | (refine zbc true (kT) rfl rfl rfl aS rfl aH ?_; simp only [cl]) | (refine za8 aA rfl ?_) | (refine za6 aA rfl rfl ?_) | (refine za5 aA rfl ?_) | (refine za7 aA (evO_ok rfl) ?_) | (refine zbx _ _ aA rfl (lookM (by rfl)) rfl (lookM (by rfl)) rfl aN ⟨rfl, rfl, by decide, by decide⟩ (by first | rfl | omega | (simp; done) | (simp; omega) | fail) ⟨by first | (simp only [List.length_cons, List.length_nil]; omega) | omega | fail, by decide⟩ rfl (by first | (first | (simp only [lx, Nat.reduceAdd]; first | done | rfl) | fail) | rfl) aP ?_) | (refine zbw _ _ aA rfl rfl (lookM (by rfl)) ⟨rfl, by decide⟩ aN (by first | exact Nat.succ_pos _ | omega | (simp; done)) ⟨by first | (simp only [List.length_cons, List.length_nil]; omega) | omega | fail, by decide⟩ rfl rfl aP ?_) | (refine zbv _ aA rfl rfl (lookM (by rfl)) ⟨rfl, by decide⟩ aN ⟨by first | (simp only [List.length_cons, List.length_nil]; omega) | omega | fail, by decide⟩ rfl aP ?_) | (refine zbl _ aA rfl rfl rfl ⟨rfl, rfl, rfl, by decide, by decide⟩ (by first | rfl | (simp; done) | (dsimp only; omega) | fail) ⟨by omega, by decide⟩ rfl aL (by first | (rw [Nat.zero_add]) | rfl) ?_)) | (refine zal aA rfl rfl rfl ?_) | (refine zbt _ _ rfl rfl rfl rfl ?_) | (refine zb9 _ aA rfl ?_) | (refine zb5 aA rfl ?_) | (refine zcm _ _ rfl rfl ?_) | (refine zb1 _ _ _ rfl rfl aE (by first | assumption | (exact TAgg.size aA)) rfl rfl rfl aZ rfl aL (by first | (first | (simp only [lx, Nat.reduceAdd]; first | done | rfl) | fail) | rfl) ?_) | (refine zar (hK _ _ (.inl rfl) ?_); clear hK K) | (refine zar (hK _ _ (.inr (by kernel_rfl)) ?_); clear hK K))
      | (refine za3 ?_; first | (refine zbk ?_) | (refine zaf (fun K hK => ?_)) | (refine zap ?_) | (refine za0 ?_) | (refine zbj ?_) | (refine za1 ?_) | (refine zbe ?_; first | (refine zat rfl aD ?_) | (refine zau rfl aD ?_) | (refine zay rfl (fun h => ?_) (fun h => ?_) <;> (have h' := h; (try simp only [sx] at h')))))
      | (refine za2 ?_) | (refine zag ?_) | (refine zaj ?_) | (refine zao ?_) | (refine zam ?_) | (refine zan ?_) | (refine zaq rfl ?_) | (refine zah ?_) | (refine zai ?_) | (refine zbi ?_))
      all_goals first
        | (exfalso; omega)
        | exact aR
  · rw [decide_eq_false hok] at k1
    rw [fiR, if_neg hok, decide_eq_false hok]
    repeat' (first
      | (refine zaz ?_; first | (refine za4 ?_; refine zas _ rfl ?_) | (refine zak ?_; refine zaa _ rfl ?_) | (refine zbu ?_; first | (refine zb0 rfl rfl aO ?_) | (refine zbs _ rfl rfl rfl ?_) | (refine zav _ rfl rfl rfl ?_)) | (refine g_un ?_; first | (refine zb7 rfl ?_) | (refine zb8 rfl aO ?_)) | (refine zbb ?_; first | (refine zab aA rfl ?_) | (refine zae _ aA rfl rfl aE rfl ?_) | (refine zac _ aA rfl aZ aL ?_) | (refine zad _ aA rfl rfl aE aZ aL ?_)) | (refine zbd ?_; first | (refine zax _ aA rfl rfl aO aA ?_) | (refine zaw _ aA rfl rfl rfl rfl aO aO (by first | (rw [Nat.zero_add, Int.toNat_natCast]) | (rw [Nat.zero_add]) | rfl) ?_)) | (refine za9 ?_; first | (refine zbc true (k1) rfl rfl rfl aS rfl aH ?_; simp only [cl]) | (refine za8 aA rfl ?_) | (refine za6 aA rfl rfl ?_) | (refine za5 aA rfl ?_) | (refine za7 aA (evO_ok rfl) ?_) | (refine zbx _ _ aA rfl (lookM (by rfl)) rfl (lookM (by rfl)) rfl aN ⟨rfl, rfl, by decide, by decide⟩ (by first | rfl | omega | (simp; done) | (simp; omega) | fail) ⟨by first | (simp only [List.length_cons, List.length_nil]; omega) | omega | fail, by decide⟩ rfl (by first | (first | (simp only [lx, Nat.reduceAdd]; first | done | rfl) | fail) | rfl) aP ?_) | (refine zbw _ _ aA rfl rfl (lookM (by rfl)) ⟨rfl, by decide⟩ aN (by first | exact Nat.succ_pos _ | omega | (simp; done)) ⟨by first | (simp only [List.length_cons, List.length_nil]; omega) | omega | fail, by decide⟩ rfl rfl aP ?_) | (refine zbv _ aA rfl rfl (lookM (by rfl)) ⟨rfl, by decide⟩ aN ⟨by first | (simp only [List.length_cons, List.length_nil]; omega) | omega | fail, by decide⟩ rfl aP ?_) | (refine zbl _ aA rfl rfl rfl ⟨rfl, rfl, rfl, by decide, by decide⟩ (by first | rfl | (simp; done) | (dsimp only; omega) | fail) ⟨by omega, by decide⟩ rfl aL (by first | (rw [Nat.zero_add]) | rfl) ?_)) | (refine zal aA rfl rfl rfl ?_) | (refine zbt _ _ rfl rfl rfl rfl ?_) | (refine zb9 _ aA rfl ?_) | (refine zb5 aA rfl ?_) | (refine zcm _ _ rfl rfl ?_) | (refine zb1 _ _ _ rfl rfl aE (by first | assumption | (exact TAgg.size aA)) rfl rfl rfl aZ rfl aL (by first | (first | (simp only [lx, Nat.reduceAdd]; first | done | rfl) | fail) | rfl) ?_) | (refine zar (hK _ _ (.inl rfl) ?_); clear hK K) | (refine zar (hK _ _ (.inr (by kernel_rfl)) ?_); clear hK K))
      | (refine za3 ?_; first | (refine zbk ?_) | (refine zaf (fun K hK => ?_)) | (refine zap ?_) | (refine za0 ?_) | (refine zbj ?_) | (refine za1 ?_) | (refine zbe ?_; first | (refine zat rfl aD ?_) | (refine zau rfl aD ?_) | (refine zay rfl (fun h => ?_) (fun h => ?_) <;> (have h' := h; (try simp only [sx] at h')))))
      | (refine za2 ?_) | (refine zag ?_) | (refine zaj ?_) | (refine zao ?_) | (refine zam ?_) | (refine zan ?_) | (refine zaq rfl ?_) | (refine zah ?_) | (refine zai ?_) | (refine zbi ?_))
    all_goals first
      | (exfalso; omega)
      | exact aR
theorem k_sFill (t : Terrain) (r : List Int) (hn : t.burn.length ≤ 1000000) (hm : r.length ≤ 1000000) : Con Try.prog 30 [.agg t.pv, .list 1 (ints r)] (.tuple [.olist 3 1 (ints (fiR t r)), .bool (decide (RgOk t r))]) := by
  intro al
  refine zba hmix Try.func30 rfl (by kernel_rfl) (by kernel_rfl) (Nat.le_of_ble_eq_true rfl) (fun row h => by cases h) ?_
  have hty_a26 := ty_a26
  have hty_u24 := ty_u24
  have hty_s24 := ty_s24
  have hty_u35 := ty_u35
  have hty_s35 := ty_s35
  have hty_c24 := ty_c24
  have hty_c3 := ty_c3
  have k1 := k_set1 t r hn hm
  by_cases hok : RgOk t r
  · rw [decide_eq_true hok] at k1
    rw [fiR, if_pos hok, decide_eq_true hok]
    have hlen := goodT_len hok.1
    have kP := (k_l6Holes t r hok.1 hm).frz rfl
    simp only [frz] at kP
    have hrl := hok.len
    have hhl := hlL_len t r
    have kO := k_l1Own r hm
    have hfm := fun x => flF_mem (x := x) hok.cel
    have hfr := flF_rise t r
    have hhc : ∀ x ∈ (hlL t r).flatten, IsCell t x := fun x hx => (outR_mem.1 (hole_out hx)).1
    have hhp : ∀ p ∈ hlL t r, p.length ≤ t.burn.length := fun p hp => (pt_cells (set_out t r) (hlL_mem.1 hp).1).2
    generalize hlL t r = L at *
    have hl2 := tabR_len L
    have hup := hok.up
    have hrc := hok.cel
    have hcap : ∀ U : List Int, U.Pairwise (· < ·) → (∀ x ∈ U, x ∈ r ∨ x ∈ L.flatten) → U.length ≤ 25 := fun U hu hs => by
      have := nodup_sub (rise_nodup hu) (m := cellsL t.burn.length fun _ => true) fun x hx => by
        rw [cells_mem (p := fun _ => true)]
        exact ⟨(hs x hx).elim (hrc x) (hhc x), rfl⟩
      have h2 := cellsL_len t.burn.length fun _ => true
      omega
    repeat' (first
      | (refine zaz ?_; first | (refine za4 ?_; refine zas _ rfl ?_) | (refine zak ?_; refine zaa _ rfl ?_) | (refine zbu ?_; first | (refine zb0 rfl rfl aO ?_) | (refine zbs _ rfl rfl rfl ?_) | (refine zav _ rfl rfl rfl ?_)) | (refine g_un ?_; first | (refine zb7 rfl ?_) | (refine zb8 rfl aO ?_)) | (refine zbb ?_; first | (refine zab aA rfl ?_) | (refine zae _ aA rfl rfl aE rfl ?_) | (refine zac _ aA rfl aZ aL ?_) | (refine zad _ aA rfl rfl aE aZ aL ?_)) | (refine zbd ?_; first | (refine zax _ aA rfl rfl aO aA ?_) | (refine zaw _ aA rfl rfl rfl rfl aO aO (by first | (rw [Nat.zero_add, Int.toNat_natCast]) | (rw [Nat.zero_add]) | rfl) ?_)) | (refine za9 ?_; first | (refine zbc true (k1) rfl rfl rfl aS rfl aH ?_; simp only [cl]) | (refine zbc true (kO) rfl rfl rfl aS rfl aH ?_; simp only [cl]) | (refine x_callA true (kP) rfl rfl rfl rfl rfl aS rfl aH ?_; simp only [cl]) | (refine za8 aA rfl ?_) | (refine za6 aA rfl rfl ?_) | (refine za5 aA rfl ?_) | (refine za7 aA (evO_ok rfl) ?_)) | (refine zal aA rfl rfl rfl ?_) | (refine zbt _ _ rfl rfl rfl rfl ?_) | (refine zar (hK _ _ (.inl rfl) ?_); clear hK K) | (refine zar (hK _ _ (.inr (by kernel_rfl)) ?_); clear hK K))
      | (refine za3 ?_; first | (refine zbk ?_) | (refine zaf (fun K hK => ?_)) | (refine zap ?_) | (refine za0 ?_) | (refine zbj ?_) | (refine za1 ?_) | (refine zbe ?_; first | (refine zat rfl aD ?_) | (refine zau rfl aD ?_) | (refine zay rfl (fun h => ?_) (fun h => ?_) <;> (have h' := h; (try simp only [sx] at h')))))
      | (refine za2 ?_) | (refine zag ?_) | (refine zaj ?_) | (refine zao ?_) | (refine zam ?_) | (refine zan ?_) | (refine zaq rfl ?_) | (refine zah ?_) | (refine zai ?_) | (refine zbi ?_))
    all_goals try (exfalso; omega)
    refine zcd [7] [(1001, 0)] (fun q : Nat × List Int × Nat => [(6, .osl (1001, 0) 0 q.2.2), (8, .int .i64 q.1)]) (fun q : Nat × List Int × Nat => [((1001, 0), some ⟨3, 1, ints q.2.1, false⟩)]) (fun q : Nat × List Int × Nat => q.1 ≤ L.length ∧ q.2.1.Pairwise (· < ·) ∧ (∀ x, x ∈ q.2.1 ↔ x ∈ r ∨ x ∈ (L.take q.1).flatten) ∧ (ints q.2.1).length = q.2.2) (fun q : Nat × List Int × Nat => L.length - q.1) ((0, r, (ints r).length)) rfl rfl (fun _ => rfl) (fun _ => rfl) rfl aW ⟨by simp, hup, fun x => by simp, rfl⟩ (fun q hq => ?_)
    obtain ⟨i, U, m⟩ := q
    obtain ⟨hi, hu, hU, hem⟩ := hq
    simp only at hi hu hU hem
    dsimp only
    have hme := hem.symm
    rcases Nat.lt_or_ge i L.length with hlt | hge
    · obtain ⟨h, hgh⟩ := get_ex hlt
      have hx := tabR_at hgh
      have e := flat_take hgh
      have hhl2 := hhp h (get_mem hgh)
      have hl3 : (ints h).length = h.length := by simp
      have hsubL : ∀ x, x ∈ (L.take (i + 1)).flatten → x ∈ L.flatten := fun x hx => by
        obtain ⟨p, hp, hxp⟩ := List.mem_flatten.1 hx
        exact List.mem_flatten.2 ⟨p, List.mem_of_mem_take hp, hxp⟩
      rw [e] at hsubL
      repeat' (first
      | (refine zaz ?_; first | (refine za4 ?_; refine zas _ rfl ?_) | (refine zak ?_; refine zaa _ rfl ?_) | (refine zbu ?_; first | (refine zb0 rfl rfl aO ?_) | (refine zbs _ rfl rfl rfl ?_) | (refine zav _ rfl rfl rfl ?_)) | (refine g_un ?_; first | (refine zb7 rfl ?_) | (refine zb8 rfl aO ?_)) | (refine zbb ?_; first | (refine zab aA rfl ?_) | (refine zae _ aA rfl rfl aE rfl ?_) | (refine zac _ aA rfl aZ aL ?_) | (refine zad _ aA rfl rfl aE aZ aL ?_)) | (refine zbd ?_; first | (refine zax _ aA rfl rfl aO aA ?_) | (refine zaw _ aA rfl rfl rfl rfl aO aO (by first | (rw [Nat.zero_add, Int.toNat_natCast]) | (rw [Nat.zero_add]) | rfl) ?_)) | (refine za9 ?_; first | (refine za8 aA rfl ?_) | (refine za6 aA rfl rfl ?_) | (refine za5 aA rfl ?_) | (refine za7 aA (evO_ok rfl) ?_)) | (refine zal aA rfl rfl rfl ?_) | (refine zbt _ _ rfl rfl rfl rfl ?_) | (refine zar (hK _ _ (.inl rfl) ?_); clear hK K) | (refine zar (hK _ _ (.inr (by kernel_rfl)) ?_); clear hK K))
      | (refine za3 ?_; first | (refine zbk ?_) | (refine zaf (fun K hK => ?_)) | (refine zap ?_) | (refine za0 ?_) | (refine zbj ?_) | (refine za1 ?_) | (refine zbe ?_; first | (refine zat rfl aD ?_) | (refine zau rfl aD ?_) | (refine zay rfl (fun h => ?_) (fun h => ?_) <;> (have h' := h; (try simp only [sx] at h')))))
      | (refine za2 ?_) | (refine zag ?_) | (refine zaj ?_) | (refine zao ?_) | (refine zam ?_) | (refine zan ?_) | (refine zaq rfl ?_) | (refine zah ?_) | (refine zai ?_) | (refine zbi ?_))
      all_goals try (exfalso; omega)
      refine zcd [7, 8] [(1001, 0)] (fun w : Nat × List Int × Nat => [(6, .osl (1001, 0) 0 w.2.2), (9, .int .i64 w.1)]) (fun w : Nat × List Int × Nat => [((1001, 0), some ⟨3, 1, ints w.2.1, false⟩)]) (fun w : Nat × List Int × Nat => w.1 ≤ h.length ∧ w.2.1.Pairwise (· < ·) ∧ (∀ x, x ∈ w.2.1 ↔ (x ∈ r ∨ x ∈ (L.take i).flatten) ∨ x ∈ h.take w.1) ∧ (ints w.2.1).length = w.2.2) (fun w : Nat × List Int × Nat => h.length - w.1) ((0, U, m)) rfl rfl (fun _ => rfl) (fun _ => rfl) rfl aW ⟨by simp, hu, fun x => by simp [hU], hem⟩ (fun w hw => ?_)
      obtain ⟨k, V, n⟩ := w
      obtain ⟨hk, hv, hV, hvn⟩ := hw
      simp only at hk hv hV hvn
      dsimp only
      have hnv := hvn.symm
      rcases Nat.lt_or_ge k h.length with hlt2 | hge2
      · obtain ⟨y, hgy⟩ := get_ex hlt2
        have hy := ints_at hgy
        have hVl : V.length ≤ 25 := hcap V hv fun x hx => by
          rcases (hV x).1 hx with (h1 | h1) | h1
          · exact .inl h1
          · exact .inr (hsubL x (List.mem_append_left _ h1))
          · exact .inr (hsubL x (List.mem_append_right _ (List.mem_of_mem_take h1)))
        have hVn : V.length = n := by rw [← hvn]; simp
        by_cases hin : V[kPut V y]? = some y
        · have kS := k_l1PutS V y n hVn aO hin
          have hyV := get_mem hin
          repeat' (first
      | (refine zaz ?_; first | (refine za4 ?_; refine zas _ rfl ?_) | (refine zak ?_; refine zaa _ rfl ?_) | (refine zbu ?_; first | (refine zb0 rfl rfl aO ?_) | (refine zbs _ rfl rfl rfl ?_) | (refine zav _ rfl rfl rfl ?_)) | (refine g_un ?_; first | (refine zb7 rfl ?_) | (refine zb8 rfl aO ?_)) | (refine zbb ?_; first | (refine zab aA rfl ?_) | (refine zae _ aA rfl rfl aE rfl ?_) | (refine zac _ aA rfl aZ aL ?_) | (refine zad _ aA rfl rfl aE aZ aL ?_)) | (refine zbd ?_; first | (refine zax _ aA rfl rfl aO aA ?_) | (refine zaw _ aA rfl rfl rfl rfl aO aO (by first | (rw [Nat.zero_add, Int.toNat_natCast]) | (rw [Nat.zero_add]) | rfl) ?_)) | (refine za9 ?_; first | (refine x_callMr [(1001, 0)] [] (kS) rfl rfl (by (repeat' (first | exact trivial | exact ⟨⟨_, rfl, rfl⟩, rfl⟩ | exact ⟨rfl, rfl⟩ | refine ⟨⟨⟨_, rfl, rfl⟩, rfl⟩, ?_⟩ | refine ⟨⟨rfl, rfl⟩, ?_⟩)); first | done | fail) (by (repeat' (first | exact trivial | exact ⟨⟨_, rfl, rfl⟩, rfl⟩ | exact ⟨rfl, rfl⟩ | refine ⟨⟨⟨_, rfl, rfl⟩, rfl⟩, ?_⟩ | refine ⟨⟨rfl, rfl⟩, ?_⟩)); first | done | fail) rfl rfl aS rfl (by (repeat' (first | exact trivial | refine ⟨⟨rfl, rfl, (by first | rfl | (simp; done) | omega), rfl, rfl⟩, ?_⟩)); first | done | fail) rfl rfl rfl rfl ?_; simp only [cl]) | (refine za8 aA rfl ?_) | (refine za6 aA rfl rfl ?_) | (refine za5 aA rfl ?_) | (refine za7 aA (evO_ok rfl) ?_)) | (refine zal aA rfl rfl rfl ?_) | (refine zbt _ _ rfl rfl rfl rfl ?_) | (refine zar (hK _ _ (.inl rfl) ?_); clear hK K) | (refine zar (hK _ _ (.inr (by kernel_rfl)) ?_); clear hK K))
      | (refine za3 ?_; first | (refine zbk ?_) | (refine zaf (fun K hK => ?_)) | (refine zap ?_) | (refine za0 ?_) | (refine zbj ?_) | (refine za1 ?_) | (refine zbe ?_; first | (refine zat rfl aD ?_) | (refine zau rfl aD ?_) | (refine zay rfl (fun h => ?_) (fun h => ?_) <;> (have h' := h; (try simp only [sx] at h')))))
      | (refine za2 ?_) | (refine zag ?_) | (refine zaj ?_) | (refine zao ?_) | (refine zam ?_) | (refine zan ?_) | (refine zaq rfl ?_) | (refine zah ?_) | (refine zai ?_) | (refine zbi ?_))
          all_goals try (exfalso; omega)
          all_goals (refine zb6 (k + 1, V, n) rfl aW ⟨by simp only; omega, hv, fun x => ?_, hvn⟩ (by simp only; omega))
          all_goals
            simp only
            rw [hV x, take_succ hgy, List.mem_append, List.mem_singleton]
            constructor
            · rintro (h1 | h1)
              · exact .inl h1
              · exact .inr (.inl h1)
            · rintro (h1 | h1 | rfl)
              · exact .inl h1
              · exact .inr h1
              · exact (hV x).1 hyV
        · have kN := k_l1PutN V y aO hin
          repeat' (first
      | (refine zaz ?_; first | (refine za4 ?_; refine zas _ rfl ?_) | (refine zak ?_; refine zaa _ rfl ?_) | (refine zbu ?_; first | (refine zb0 rfl rfl aO ?_) | (refine zbs _ rfl rfl rfl ?_) | (refine zav _ rfl rfl rfl ?_)) | (refine g_un ?_; first | (refine zb7 rfl ?_) | (refine zb8 rfl aO ?_)) | (refine zbb ?_; first | (refine zab aA rfl ?_) | (refine zae _ aA rfl rfl aE rfl ?_) | (refine zac _ aA rfl aZ aL ?_) | (refine zad _ aA rfl rfl aE aZ aL ?_)) | (refine zbd ?_; first | (refine zax _ aA rfl rfl aO aA ?_) | (refine zaw _ aA rfl rfl rfl rfl aO aO (by first | (rw [Nat.zero_add, Int.toNat_natCast]) | (rw [Nat.zero_add]) | rfl) ?_)) | (refine za9 ?_; first | (refine zbc true (kN) rfl rfl rfl aS rfl aH ?_; simp only [cl]) | (refine za8 aA rfl ?_) | (refine za6 aA rfl rfl ?_) | (refine za5 aA rfl ?_) | (refine za7 aA (evO_ok rfl) ?_)) | (refine zal aA rfl rfl rfl ?_) | (refine zbt _ _ rfl rfl rfl rfl ?_) | (refine zar (hK _ _ (.inl rfl) ?_); clear hK K) | (refine zar (hK _ _ (.inr (by kernel_rfl)) ?_); clear hK K))
      | (refine za3 ?_; first | (refine zbk ?_) | (refine zaf (fun K hK => ?_)) | (refine zap ?_) | (refine za0 ?_) | (refine zbj ?_) | (refine za1 ?_) | (refine zbe ?_; first | (refine zat rfl aD ?_) | (refine zau rfl aD ?_) | (refine zay rfl (fun h => ?_) (fun h => ?_) <;> (have h' := h; (try simp only [sx] at h')))))
      | (refine za2 ?_) | (refine zag ?_) | (refine zaj ?_) | (refine zao ?_) | (refine zam ?_) | (refine zan ?_) | (refine zaq rfl ?_) | (refine zah ?_) | (refine zai ?_) | (refine zbi ?_))
          all_goals try (exfalso; omega)
          all_goals (refine zb6 (k + 1, put V y, (ints (put V y)).length) rfl aW ⟨by simp only; omega, put_pair hv, fun x => ?_, rfl⟩ (by simp only; omega))
          all_goals
            simp only
            rw [put_mem, hV x, take_succ hgy, List.mem_append, List.mem_singleton, or_assoc]
      · have hth : h.take k = h := take_all hge2
        rw [hth] at hV
        repeat' (first
      | (refine zaz ?_; first | (refine za4 ?_; refine zas _ rfl ?_) | (refine zak ?_; refine zaa _ rfl ?_) | (refine zbu ?_; first | (refine zb0 rfl rfl aO ?_) | (refine zbs _ rfl rfl rfl ?_) | (refine zav _ rfl rfl rfl ?_)) | (refine g_un ?_; first | (refine zb7 rfl ?_) | (refine zb8 rfl aO ?_)) | (refine zbb ?_; first | (refine zab aA rfl ?_) | (refine zae _ aA rfl rfl aE rfl ?_) | (refine zac _ aA rfl aZ aL ?_) | (refine zad _ aA rfl rfl aE aZ aL ?_)) | (refine zbd ?_; first | (refine zax _ aA rfl rfl aO aA ?_) | (refine zaw _ aA rfl rfl rfl rfl aO aO (by first | (rw [Nat.zero_add, Int.toNat_natCast]) | (rw [Nat.zero_add]) | rfl) ?_)) | (refine za9 ?_; first | (refine za8 aA rfl ?_) | (refine za6 aA rfl rfl ?_) | (refine za5 aA rfl ?_) | (refine za7 aA (evO_ok rfl) ?_)) | (refine zal aA rfl rfl rfl ?_) | (refine zbt _ _ rfl rfl rfl rfl ?_) | (refine zar (hK _ _ (.inl rfl) ?_); clear hK K) | (refine zar (hK _ _ (.inr (by kernel_rfl)) ?_); clear hK K))
      | (refine za3 ?_; first | (refine zbk ?_) | (refine zaf (fun K hK => ?_)) | (refine zap ?_) | (refine za0 ?_) | (refine zbj ?_) | (refine za1 ?_) | (refine zbe ?_; first | (refine zat rfl aD ?_) | (refine zau rfl aD ?_) | (refine zay rfl (fun h => ?_) (fun h => ?_) <;> (have h' := h; (try simp only [sx] at h')))))
      | (refine za2 ?_) | (refine zag ?_) | (refine zaj ?_) | (refine zao ?_) | (refine zam ?_) | (refine zan ?_) | (refine zaq rfl ?_) | (refine zah ?_) | (refine zai ?_) | (refine zbi ?_))
        all_goals try (exfalso; omega)
        all_goals (refine zb6 (i + 1, V, n) rfl aW ⟨by simp only; omega, hv, fun x => ?_, hvn⟩ (by simp only; omega))
        all_goals
          simp only
          rw [hV x, e, List.mem_append, or_assoc]
    · rw [take_all hge] at hU
      have e : U = flF t r := rise_ext hu hfr fun x => by rw [hU x, hfm x]
      subst e
      repeat' (first
      | (refine zaz ?_; first | (refine za4 ?_; refine zas _ rfl ?_) | (refine zak ?_; refine zaa _ rfl ?_) | (refine zbu ?_; first | (refine zb0 rfl rfl aO ?_) | (refine zbs _ rfl rfl rfl ?_) | (refine zav _ rfl rfl rfl ?_)) | (refine g_un ?_; first | (refine zb7 rfl ?_) | (refine zb8 rfl aO ?_)) | (refine zbb ?_; first | (refine zab aA rfl ?_) | (refine zae _ aA rfl rfl aE rfl ?_) | (refine zac _ aA rfl aZ aL ?_) | (refine zad _ aA rfl rfl aE aZ aL ?_)) | (refine zbd ?_; first | (refine zax _ aA rfl rfl aO aA ?_) | (refine zaw _ aA rfl rfl rfl rfl aO aO (by first | (rw [Nat.zero_add, Int.toNat_natCast]) | (rw [Nat.zero_add]) | rfl) ?_)) | (refine za9 ?_; first | (refine za8 aA rfl ?_) | (refine za6 aA rfl rfl ?_) | (refine za5 aA rfl ?_) | (refine za7 aA (evO_ok rfl) ?_)) | (refine zal aA rfl rfl rfl ?_) | (refine zbt _ _ rfl rfl rfl rfl ?_) | (refine zar (hK _ _ (.inl rfl) ?_); clear hK K) | (refine zar (hK _ _ (.inr (by kernel_rfl)) ?_); clear hK K))
      | (refine za3 ?_; first | (refine zbk ?_) | (refine zaf (fun K hK => ?_)) | (refine zap ?_) | (refine za0 ?_) | (refine zbj ?_) | (refine za1 ?_) | (refine zbe ?_; first | (refine zat rfl aD ?_) | (refine zau rfl aD ?_) | (refine zay rfl (fun h => ?_) (fun h => ?_) <;> (have h' := h; (try simp only [sx] at h')))))
      | (refine za2 ?_) | (refine zag ?_) | (refine zaj ?_) | (refine zao ?_) | (refine zam ?_) | (refine zan ?_) | (refine zaq rfl ?_) | (refine zah ?_) | (refine zai ?_) | (refine zbi ?_))
      all_goals first
        | (exfalso; omega)
        | exact aR
  · rw [decide_eq_false hok] at k1
    rw [fiR, if_neg hok, decide_eq_false hok]
    repeat' (first
      | (refine zaz ?_; first | (refine za4 ?_; refine zas _ rfl ?_) | (refine zak ?_; refine zaa _ rfl ?_) | (refine zbu ?_; first | (refine zb0 rfl rfl aO ?_) | (refine zbs _ rfl rfl rfl ?_) | (refine zav _ rfl rfl rfl ?_)) | (refine g_un ?_; first | (refine zb7 rfl ?_) | (refine zb8 rfl aO ?_)) | (refine zbb ?_; first | (refine zab aA rfl ?_) | (refine zae _ aA rfl rfl aE rfl ?_) | (refine zac _ aA rfl aZ aL ?_) | (refine zad _ aA rfl rfl aE aZ aL ?_)) | (refine zbd ?_; first | (refine zax _ aA rfl rfl aO aA ?_) | (refine zaw _ aA rfl rfl rfl rfl aO aO (by first | (rw [Nat.zero_add, Int.toNat_natCast]) | (rw [Nat.zero_add]) | rfl) ?_)) | (refine za9 ?_; first | (refine zbc true (k1) rfl rfl rfl aS rfl aH ?_; simp only [cl]) | (refine za8 aA rfl ?_) | (refine za6 aA rfl rfl ?_) | (refine za5 aA rfl ?_) | (refine za7 aA (evO_ok rfl) ?_)) | (refine zal aA rfl rfl rfl ?_) | (refine zbt _ _ rfl rfl rfl rfl ?_) | (refine zar (hK _ _ (.inl rfl) ?_); clear hK K) | (refine zar (hK _ _ (.inr (by kernel_rfl)) ?_); clear hK K))
      | (refine za3 ?_; first | (refine zbk ?_) | (refine zaf (fun K hK => ?_)) | (refine zap ?_) | (refine za0 ?_) | (refine zbj ?_) | (refine za1 ?_) | (refine zbe ?_; first | (refine zat rfl aD ?_) | (refine zau rfl aD ?_) | (refine zay rfl (fun h => ?_) (fun h => ?_) <;> (have h' := h; (try simp only [sx] at h')))))
      | (refine za2 ?_) | (refine zag ?_) | (refine zaj ?_) | (refine zao ?_) | (refine zam ?_) | (refine zan ?_) | (refine zaq rfl ?_) | (refine zah ?_) | (refine zai ?_) | (refine zbi ?_))
    all_goals first
      | (exfalso; omega)
      | exact aR
theorem k_edge1 (t : Terrain) (x c : Int) (hg : GoodT t) (hc : IsCell t c) (hx : IsCell t x) : Con Try.prog 89 [.int .i64 x, .ptr t.pv, .ptr [.int .i64 c]] (.bool (besB t c x)) := by
  intro al
  refine zba hmix Try.func89 rfl (by kernel_rfl) (by kernel_rfl) (Nat.le_of_ble_eq_true rfl) (fun row h => by cases h) ?_
  have hty_a26 := ty_a26
  have hty_c3 := ty_c3
  have kB := k_beside t c x hg hc hx
  generalize besB t c x = b at *
  repeat' (first
      | (refine zaz ?_; first | (refine za4 ?_; refine zas _ rfl ?_) | (refine zak ?_; refine zaa _ rfl ?_) | (refine zbb ?_; first | (refine zab aA rfl ?_) | (refine zae _ aA rfl rfl aE rfl ?_) | (refine zac _ aA rfl aZ aL ?_) | (refine zad _ aA rfl rfl aE aZ aL ?_)) | (refine za9 ?_; refine zbc true (kB) rfl rfl rfl aS rfl aH ?_; simp only [cl]) | (refine zar (hK _ _ (.inl rfl) ?_); clear hK K) | (refine zar (hK _ _ (.inr (by kernel_rfl)) ?_); clear hK K))
      | (refine za3 ?_; first | (refine zbk ?_) | (refine zaf (fun K hK => ?_)) | (refine zap ?_) | (refine za0 ?_) | (refine zbj ?_) | (refine za1 ?_))
      | (refine za2 ?_) | (refine zag ?_) | (refine zaj ?_) | (refine zao ?_) | (refine zam ?_) | (refine zan ?_) | (refine zaq rfl ?_) | (refine zah ?_) | (refine zai ?_) | (refine zbi ?_))
  all_goals exact zb2 rfl (zbh rfl) rfl
theorem k_iEdge (t : Terrain) (r : List Int) (hn : t.burn.length ≤ 1000000) (hm : r.length ≤ 1000000) : Con Try.prog 34 [.agg t.pv, .list 1 (ints r)] (.tuple [.int .i64 (edR t r), .bool (decide (RgOk t r))]) := by
  intro al
  refine zba hmix Try.func34 rfl (by kernel_rfl) (by kernel_rfl) (Nat.le_of_ble_eq_true rfl) (fun row h => by cases h) ?_
  have hty_a26 := ty_a26
  have hty_s35 := ty_s35
  have hty_u35 := ty_u35
  have hty_u24 := ty_u24
  have hty_s24 := ty_s24
  have hty_c3 := ty_c3
  have hty_z3 := ty_z3
  have hty_t3 := ty_t3
  have k1 := k_isRegion1 t r hn hm
  have hl1 : (ints r).length = r.length := by simp
  by_cases hok : RgOk t r
  · rw [decide_eq_true hok] at k1
    rw [edR, if_pos hok, decide_eq_true hok]
    have hrl := hok.len
    repeat' (first
      | (refine zaz ?_; first | (refine za4 ?_; refine zas _ rfl ?_) | (refine zak ?_; refine zaa _ rfl ?_) | (refine zbu ?_; first | (refine zb0 rfl rfl aO ?_) | (refine zch rfl rfl aO ?_) | (refine zbs _ rfl rfl rfl ?_) | (refine zav _ rfl rfl rfl ?_)) | (refine g_un ?_; first | (refine zb7 rfl ?_) | (refine zb8 rfl aO ?_)) | (refine zbb ?_; first | (refine zab aA rfl ?_) | (refine zae _ aA rfl rfl aE rfl ?_) | (refine zac _ aA rfl aZ aL ?_) | (refine zad _ aA rfl rfl aE aZ aL ?_)) | (refine zbd ?_; first | (refine zax _ aA rfl rfl aO aA ?_) | (refine zaw _ aA rfl rfl rfl rfl aO aO (by first | (rw [Nat.zero_add, Int.toNat_natCast]) | (rw [Nat.zero_add]) | rfl) ?_)) | (refine za9 ?_; first | (refine zbc true (k1) rfl rfl rfl aS rfl aH ?_; simp only [cl]) | (refine za8 aA rfl ?_) | (refine za6 aA rfl rfl ?_) | (refine za5 aA rfl ?_) | (refine za7 aA (evO_ok rfl) ?_)) | (refine zal aA rfl rfl rfl ?_) | (refine zbt _ _ rfl rfl rfl rfl ?_) | (refine zb9 _ aA rfl ?_) | (refine zb5 aA rfl ?_) | (refine zcm _ _ rfl rfl ?_) | (refine zb1 _ _ _ rfl rfl aE (by first | assumption | (exact TAgg.size aA)) rfl rfl rfl aZ rfl aL (by first | (first | (simp only [lx, Nat.reduceAdd]; first | done | rfl) | fail) | rfl) ?_) | (refine zar (hK _ _ (.inl rfl) ?_); clear hK K) | (refine zar (hK _ _ (.inr (by kernel_rfl)) ?_); clear hK K))
      | (refine za3 ?_; first | (refine zbk ?_) | (refine zaf (fun K hK => ?_)) | (refine zap ?_) | (refine za0 ?_) | (refine zbj ?_) | (refine za1 ?_) | (refine zbe ?_; first | (refine zat rfl aD ?_) | (refine zau rfl aD ?_) | (refine zay rfl (fun h => ?_) (fun h => ?_) <;> (have h' := h; (try simp only [sx] at h')))))
      | (refine za2 ?_) | (refine zag ?_) | (refine zaj ?_) | (refine zao ?_) | (refine zam ?_) | (refine zan ?_) | (refine zaq rfl ?_) | (refine zah ?_) | (refine zai ?_) | (refine zbi ?_))
    all_goals try (exfalso; omega)
    refine zcd [1, 2, 14, 15] [] (fun q : Nat × Int => [(6, .int .i64 q.2), (16, .int .i64 q.1)]) (fun q : Nat × Int => []) (fun q : Nat × Int => q.1 ≤ r.length ∧ q.2 = sumBy (sdC t r) (r.take q.1)) (fun q : Nat × Int => r.length - q.1) ((0, 0)) rfl rfl (fun _ => rfl) (fun _ => rfl) rfl aW ⟨by simp, by simp [sumBy]⟩ (fun q hq => ?_)
    obtain ⟨i, s⟩ := q
    obtain ⟨hi, hs⟩ := hq
    simp only at hi hs
    dsimp only
    have hsb : 0 ≤ s ∧ s ≤ 100 := by
      have h := sumBy_bound (sdC t r) 4 (r.take i) fun c hc => by
        have := sd_bnd hok.1 hok.cel hok.up (List.mem_of_mem_take hc)
        omega
      rw [← hs, List.length_take] at h
      omega
    rcases Nat.lt_or_ge i r.length with hlt | hge
    · obtain ⟨c, hgc⟩ := get_ex hlt
      have hx := ints_at hgc
      have hcm := get_mem hgc
      have kF := k_filterInt r 89 [t.pv, [.int .i64 c]] (besB t c) (fun x hx => k_edge1 t x c hok.1 (hok.cel c hcm) (hok.cel x hx)) aO
      have hfl := List.length_filter_le (besB t c) r
      have e := sumBy_take_succ (sdC t r) hgc
      have e2 : sdC t r c = 4 - ((r.filter (besB t c)).length : Int) := rfl
      generalize r.filter (besB t c) = R at *
      have hl3 : (ints R).length = R.length := by simp
      repeat' (first
      | (refine zaz ?_; first | (refine za4 ?_; refine zas _ rfl ?_) | (refine zak ?_; refine zaa _ rfl ?_) | (refine zbu ?_; first | (refine zb0 rfl rfl aO ?_) | (refine zch rfl rfl aO ?_) | (refine zbs _ rfl rfl rfl ?_) | (refine zav _ rfl rfl rfl ?_)) | (refine g_un ?_; first | (refine zb7 rfl ?_) | (refine zb8 rfl aO ?_)) | (refine zbb ?_; first | (refine zab aA rfl ?_) | (refine zae _ aA rfl rfl aE rfl ?_) | (refine zac _ aA rfl aZ aL ?_) | (refine zad _ aA rfl rfl aE aZ aL ?_)) | (refine zbd ?_; first | (refine zax _ aA rfl rfl aO aA ?_) | (refine zaw _ aA rfl rfl rfl rfl aO aO (by first | (rw [Nat.zero_add, Int.toNat_natCast]) | (rw [Nat.zero_add]) | rfl) ?_)) | (refine za9 ?_; first | (refine zbc true (kF) rfl rfl rfl aS rfl aH ?_; simp only [cl]) | (refine za8 aA rfl ?_) | (refine za6 aA rfl rfl ?_) | (refine za5 aA rfl ?_) | (refine za7 aA (evO_ok rfl) ?_)) | (refine zal aA rfl rfl rfl ?_) | (refine zbt _ _ rfl rfl rfl rfl ?_) | (refine zb9 _ aA rfl ?_) | (refine zb5 aA rfl ?_) | (refine zcm _ _ rfl rfl ?_) | (refine zb1 _ _ _ rfl rfl aE (by first | assumption | (exact TAgg.size aA)) rfl rfl rfl aZ rfl aL (by first | (first | (simp only [lx, Nat.reduceAdd]; first | done | rfl) | fail) | rfl) ?_) | (refine zar (hK _ _ (.inl rfl) ?_); clear hK K) | (refine zar (hK _ _ (.inr (by kernel_rfl)) ?_); clear hK K))
      | (refine za3 ?_; first | (refine zbk ?_) | (refine zaf (fun K hK => ?_)) | (refine zap ?_) | (refine za0 ?_) | (refine zbj ?_) | (refine za1 ?_) | (refine zbe ?_; first | (refine zat rfl aD ?_) | (refine zau rfl aD ?_) | (refine zay rfl (fun h => ?_) (fun h => ?_) <;> (have h' := h; (try simp only [sx] at h')))))
      | (refine za2 ?_) | (refine zag ?_) | (refine zaj ?_) | (refine zao ?_) | (refine zam ?_) | (refine zan ?_) | (refine zaq rfl ?_) | (refine zah ?_) | (refine zai ?_) | (refine zbi ?_))
      all_goals first
        | (exfalso; omega)
        | (refine zb6 (i + 1, s + (4 - ((ints R).length : Int))) rfl aW ⟨by simp only; omega, by simp only [e, hs, e2, hl3]⟩ (by simp only; omega))
    · rw [take_all hge] at hs
      have hs : s = edgL t r := hs
      repeat' (first
      | (refine zaz ?_; first | (refine za4 ?_; refine zas _ rfl ?_) | (refine zak ?_; refine zaa _ rfl ?_) | (refine zbu ?_; first | (refine zb0 rfl rfl aO ?_) | (refine zch rfl rfl aO ?_) | (refine zbs _ rfl rfl rfl ?_) | (refine zav _ rfl rfl rfl ?_)) | (refine g_un ?_; first | (refine zb7 rfl ?_) | (refine zb8 rfl aO ?_)) | (refine zbb ?_; first | (refine zab aA rfl ?_) | (refine zae _ aA rfl rfl aE rfl ?_) | (refine zac _ aA rfl aZ aL ?_) | (refine zad _ aA rfl rfl aE aZ aL ?_)) | (refine zbd ?_; first | (refine zax _ aA rfl rfl aO aA ?_) | (refine zaw _ aA rfl rfl rfl rfl aO aO (by first | (rw [Nat.zero_add, Int.toNat_natCast]) | (rw [Nat.zero_add]) | rfl) ?_)) | (refine za9 ?_; first | (refine za8 aA rfl ?_) | (refine za6 aA rfl rfl ?_) | (refine za5 aA rfl ?_) | (refine za7 aA (evO_ok rfl) ?_)) | (refine zal aA rfl rfl rfl ?_) | (refine zbt _ _ rfl rfl rfl rfl ?_) | (refine zb9 _ aA rfl ?_) | (refine zb5 aA rfl ?_) | (refine zcm _ _ rfl rfl ?_) | (refine zb1 _ _ _ rfl rfl aE (by first | assumption | (exact TAgg.size aA)) rfl rfl rfl aZ rfl aL (by first | (first | (simp only [lx, Nat.reduceAdd]; first | done | rfl) | fail) | rfl) ?_) | (refine zar (hK _ _ (.inl rfl) ?_); clear hK K) | (refine zar (hK _ _ (.inr (by kernel_rfl)) ?_); clear hK K))
      | (refine za3 ?_; first | (refine zbk ?_) | (refine zaf (fun K hK => ?_)) | (refine zap ?_) | (refine za0 ?_) | (refine zbj ?_) | (refine za1 ?_) | (refine zbe ?_; first | (refine zat rfl aD ?_) | (refine zau rfl aD ?_) | (refine zay rfl (fun h => ?_) (fun h => ?_) <;> (have h' := h; (try simp only [sx] at h')))))
      | (refine za2 ?_) | (refine zag ?_) | (refine zaj ?_) | (refine zao ?_) | (refine zam ?_) | (refine zan ?_) | (refine zaq rfl ?_) | (refine zah ?_) | (refine zai ?_) | (refine zbi ?_))
      all_goals first
        | (exfalso; omega)
        | exact aR
  · rw [decide_eq_false hok] at k1
    rw [edR, if_neg hok, decide_eq_false hok]
    repeat' (first
      | (refine zaz ?_; first | (refine za4 ?_; refine zas _ rfl ?_) | (refine zak ?_; refine zaa _ rfl ?_) | (refine zbu ?_; first | (refine zb0 rfl rfl aO ?_) | (refine zch rfl rfl aO ?_) | (refine zbs _ rfl rfl rfl ?_) | (refine zav _ rfl rfl rfl ?_)) | (refine g_un ?_; first | (refine zb7 rfl ?_) | (refine zb8 rfl aO ?_)) | (refine zbb ?_; first | (refine zab aA rfl ?_) | (refine zae _ aA rfl rfl aE rfl ?_) | (refine zac _ aA rfl aZ aL ?_) | (refine zad _ aA rfl rfl aE aZ aL ?_)) | (refine zbd ?_; first | (refine zax _ aA rfl rfl aO aA ?_) | (refine zaw _ aA rfl rfl rfl rfl aO aO (by first | (rw [Nat.zero_add, Int.toNat_natCast]) | (rw [Nat.zero_add]) | rfl) ?_)) | (refine za9 ?_; first | (refine zbc true (k1) rfl rfl rfl aS rfl aH ?_; simp only [cl]) | (refine za8 aA rfl ?_) | (refine za6 aA rfl rfl ?_) | (refine za5 aA rfl ?_) | (refine za7 aA (evO_ok rfl) ?_)) | (refine zal aA rfl rfl rfl ?_) | (refine zbt _ _ rfl rfl rfl rfl ?_) | (refine zb9 _ aA rfl ?_) | (refine zb5 aA rfl ?_) | (refine zcm _ _ rfl rfl ?_) | (refine zb1 _ _ _ rfl rfl aE (by first | assumption | (exact TAgg.size aA)) rfl rfl rfl aZ rfl aL (by first | (first | (simp only [lx, Nat.reduceAdd]; first | done | rfl) | fail) | rfl) ?_) | (refine zar (hK _ _ (.inl rfl) ?_); clear hK K) | (refine zar (hK _ _ (.inr (by kernel_rfl)) ?_); clear hK K))
      | (refine za3 ?_; first | (refine zbk ?_) | (refine zaf (fun K hK => ?_)) | (refine zap ?_) | (refine za0 ?_) | (refine zbj ?_) | (refine za1 ?_) | (refine zbe ?_; first | (refine zat rfl aD ?_) | (refine zau rfl aD ?_) | (refine zay rfl (fun h => ?_) (fun h => ?_) <;> (have h' := h; (try simp only [sx] at h')))))
      | (refine za2 ?_) | (refine zag ?_) | (refine zaj ?_) | (refine zao ?_) | (refine zam ?_) | (refine zan ?_) | (refine zaq rfl ?_) | (refine zah ?_) | (refine zai ?_) | (refine zbi ?_))
    all_goals first
      | (exfalso; omega)
      | exact aR
theorem sd_filter {t : Terrain} {r : List Int} {c : Int} (hok : RgOk t r) : (sdL t c).filter (fun x => decide (x ∈ r)) = r.filter (besB t c) := by
  refine rise_ext ?_ (hok.up.filter _) fun x => ?_
  · unfold sdL nears
    exact ((cells_rise _ _).filter _).filter _
  · rw [List.mem_filter, List.mem_filter, sdL_mem, decide_eq_true_eq]
    exact ⟨fun h => ⟨h.2, h.1.2⟩, fun h => ⟨⟨hok.cel x h.1, h.2⟩, h.1⟩⟩
theorem k_sEdge (t : Terrain) (r : List Int) (hn : t.burn.length ≤ 1000000) (hm : r.length ≤ 1000000) : Con Try.prog 35 [.agg t.pv, .list 1 (ints r)] (.tuple [.int .i64 (edR t r), .bool (decide (RgOk t r))]) := by
  intro al
  refine zba hmix Try.func35 rfl (by kernel_rfl) (by kernel_rfl) (Nat.le_of_ble_eq_true rfl) (fun row h => by cases h) ?_
  have hty_a26 := ty_a26
  have hty_u24 := ty_u24
  have hty_s24 := ty_s24
  have hty_c3 := ty_c3
  have k1 := k_set1 t r hn hm
  have hl1 : (ints r).length = r.length := by simp
  by_cases hok : RgOk t r
  · rw [decide_eq_true hok] at k1
    rw [edR, if_pos hok, decide_eq_true hok]
    have hrl := hok.len
    repeat' (first
      | (refine zaz ?_; first | (refine za4 ?_; refine zas _ rfl ?_) | (refine zak ?_; refine zaa _ rfl ?_) | (refine zbu ?_; first | (refine zb0 rfl rfl aO ?_) | (refine zch rfl rfl aO ?_) | (refine zbs _ rfl rfl rfl ?_) | (refine zav _ rfl rfl rfl ?_)) | (refine g_un ?_; first | (refine zb7 rfl ?_) | (refine zb8 rfl aO ?_)) | (refine zbb ?_; first | (refine zab aA rfl ?_) | (refine zae _ aA rfl rfl aE rfl ?_) | (refine zac _ aA rfl aZ aL ?_) | (refine zad _ aA rfl rfl aE aZ aL ?_)) | (refine zbd ?_; first | (refine zax _ aA rfl rfl aO aA ?_) | (refine zaw _ aA rfl rfl rfl rfl aO aO (by first | (rw [Nat.zero_add, Int.toNat_natCast]) | (rw [Nat.zero_add]) | rfl) ?_)) | (refine za9 ?_; first | (refine zbc true (k1) rfl rfl rfl aS rfl aH ?_; simp only [cl]) | (refine za8 aA rfl ?_) | (refine za6 aA rfl rfl ?_) | (refine za5 aA rfl ?_) | (refine za7 aA (evO_ok rfl) ?_)) | (refine zbt _ _ rfl rfl rfl rfl ?_) | (refine zar (hK _ _ (.inl rfl) ?_); clear hK K) | (refine zar (hK _ _ (.inr (by kernel_rfl)) ?_); clear hK K))
      | (refine za3 ?_; first | (refine zbk ?_) | (refine zaf (fun K hK => ?_)) | (refine zap ?_) | (refine za0 ?_) | (refine zbj ?_) | (refine za1 ?_) | (refine zbe ?_; first | (refine zat rfl aD ?_) | (refine zau rfl aD ?_) | (refine zay rfl (fun h => ?_) (fun h => ?_) <;> (have h' := h; (try simp only [sx] at h')))))
      | (refine za2 ?_) | (refine zag ?_) | (refine zaj ?_) | (refine zao ?_) | (refine zam ?_) | (refine zan ?_) | (refine zaq rfl ?_) | (refine zah ?_) | (refine zai ?_) | (refine zbi ?_))
    all_goals try (exfalso; omega)
    refine zcd [1, 2] [] (fun q : Nat × Int => [(6, .int .i64 q.2), (7, .int .i64 q.1)]) (fun q : Nat × Int => []) (fun q : Nat × Int => q.1 ≤ r.length ∧ q.2 = sumBy (sdC t r) (r.take q.1)) (fun q : Nat × Int => r.length - q.1) ((0, 0)) rfl rfl (fun _ => rfl) (fun _ => rfl) rfl aW ⟨by simp, by simp [sumBy]⟩ (fun q hq => ?_)
    obtain ⟨i, s⟩ := q
    obtain ⟨hi, hs⟩ := hq
    simp only at hi hs
    dsimp only
    have hsb : 0 ≤ s ∧ s ≤ 100 := by
      have h := sumBy_bound (sdC t r) 4 (r.take i) fun c hc => by
        have := sd_bnd hok.1 hok.cel hok.up (List.mem_of_mem_take hc)
        omega
      rw [← hs, List.length_take] at h
      omega
    rcases Nat.lt_or_ge i r.length with hlt | hge
    · obtain ⟨c, hgc⟩ := get_ex hlt
      have hx := ints_at hgc
      have hcm := get_mem hgc
      have kS := (k_l6Sides t c hok.1 (hok.cel c hcm)).frzF (ints_flat _)
      have e := sumBy_take_succ (sdC t r) hgc
      have e2 : sdC t r c = 4 - (((sdL t c).filter fun x => decide (x ∈ r)).length : Int) := by rw [sd_filter hok]
      have hdl := sdL_len t c
      have hlen := goodT_len hok.1
      generalize sdL t c = D at *
      have hl3 : (ints D).length = D.length := by simp
      repeat' (first
      | (refine zaz ?_; first | (refine za4 ?_; refine zas _ rfl ?_) | (refine zak ?_; refine zaa _ rfl ?_) | (refine zbu ?_; first | (refine zb0 rfl rfl aO ?_) | (refine zch rfl rfl aO ?_) | (refine zbs _ rfl rfl rfl ?_) | (refine zav _ rfl rfl rfl ?_)) | (refine g_un ?_; first | (refine zb7 rfl ?_) | (refine zb8 rfl aO ?_)) | (refine zbb ?_; first | (refine zab aA rfl ?_) | (refine zae _ aA rfl rfl aE rfl ?_) | (refine zac _ aA rfl aZ aL ?_) | (refine zad _ aA rfl rfl aE aZ aL ?_)) | (refine zbd ?_; first | (refine zax _ aA rfl rfl aO aA ?_) | (refine zaw _ aA rfl rfl rfl rfl aO aO (by first | (rw [Nat.zero_add, Int.toNat_natCast]) | (rw [Nat.zero_add]) | rfl) ?_)) | (refine za9 ?_; first | (refine zbc true (kS) rfl rfl rfl aS rfl aH ?_; simp only [cl]) | (refine za8 aA rfl ?_) | (refine za6 aA rfl rfl ?_) | (refine za5 aA rfl ?_) | (refine za7 aA (evO_ok rfl) ?_)) | (refine zbt _ _ rfl rfl rfl rfl ?_) | (refine zar (hK _ _ (.inl rfl) ?_); clear hK K) | (refine zar (hK _ _ (.inr (by kernel_rfl)) ?_); clear hK K))
      | (refine za3 ?_; first | (refine zbk ?_) | (refine zaf (fun K hK => ?_)) | (refine zap ?_) | (refine za0 ?_) | (refine zbj ?_) | (refine za1 ?_) | (refine zbe ?_; first | (refine zat rfl aD ?_) | (refine zau rfl aD ?_) | (refine zay rfl (fun h => ?_) (fun h => ?_) <;> (have h' := h; (try simp only [sx] at h')))))
      | (refine za2 ?_) | (refine zag ?_) | (refine zaj ?_) | (refine zao ?_) | (refine zam ?_) | (refine zan ?_) | (refine zaq rfl ?_) | (refine zah ?_) | (refine zai ?_) | (refine zbi ?_))
      all_goals try (exfalso; omega)
      refine zcd [1, 2, 7, 8] [] (fun w : Nat × Int => [(6, .int .i64 w.2), (9, .int .i64 w.1)]) (fun w : Nat × Int => []) (fun w : Nat × Int => w.1 ≤ D.length ∧ w.2 = s + 4 - (((D.take w.1).filter fun x => decide (x ∈ r)).length : Int)) (fun w : Nat × Int => D.length - w.1) ((0, s + 4)) rfl rfl (fun _ => rfl) (fun _ => rfl) rfl aW ⟨by simp, by simp⟩ (fun w hw => ?_)
      obtain ⟨k, v⟩ := w
      obtain ⟨hk, hv⟩ := hw
      simp only at hk hv
      dsimp only
      have hfl : ((D.take k).filter fun x => decide (x ∈ r)).length ≤ k := Nat.le_trans (List.length_filter_le _ _) (by rw [List.length_take]; omega)
      rcases Nat.lt_or_ge k D.length with hlt2 | hge2
      · obtain ⟨y, hgy⟩ := get_ex hlt2
        have hy := ints_at hgy
        have kH := k_l1Has r y aO
        by_cases hyr : y ∈ r
        · rw [decide_eq_true hyr] at kH
          have e3 := filter_take_t (p := fun x => decide (x ∈ r)) hgy (by simpa using hyr)
          repeat' (first
      | (refine zaz ?_; first | (refine za4 ?_; refine zas _ rfl ?_) | (refine zak ?_; refine zaa _ rfl ?_) | (refine zbu ?_; first | (refine zb0 rfl rfl aO ?_) | (refine zch rfl rfl aO ?_) | (refine zbs _ rfl rfl rfl ?_) | (refine zav _ rfl rfl rfl ?_)) | (refine g_un ?_; first | (refine zb7 rfl ?_) | (refine zb8 rfl aO ?_)) | (refine zbb ?_; first | (refine zab aA rfl ?_) | (refine zae _ aA rfl rfl aE rfl ?_) | (refine zac _ aA rfl aZ aL ?_) | (refine zad _ aA rfl rfl aE aZ aL ?_)) | (refine zbd ?_; first | (refine zax _ aA rfl rfl aO aA ?_) | (refine zaw _ aA rfl rfl rfl rfl aO aO (by first | (rw [Nat.zero_add, Int.toNat_natCast]) | (rw [Nat.zero_add]) | rfl) ?_)) | (refine za9 ?_; first | (refine zbc true (kH) rfl rfl rfl aS rfl aH ?_; simp only [cl]) | (refine za8 aA rfl ?_) | (refine za6 aA rfl rfl ?_) | (refine za5 aA rfl ?_) | (refine za7 aA (evO_ok rfl) ?_)) | (refine zbt _ _ rfl rfl rfl rfl ?_) | (refine zar (hK _ _ (.inl rfl) ?_); clear hK K) | (refine zar (hK _ _ (.inr (by kernel_rfl)) ?_); clear hK K))
      | (refine za3 ?_; first | (refine zbk ?_) | (refine zaf (fun K hK => ?_)) | (refine zap ?_) | (refine za0 ?_) | (refine zbj ?_) | (refine za1 ?_) | (refine zbe ?_; first | (refine zat rfl aD ?_) | (refine zau rfl aD ?_) | (refine zay rfl (fun h => ?_) (fun h => ?_) <;> (have h' := h; (try simp only [sx] at h')))))
      | (refine za2 ?_) | (refine zag ?_) | (refine zaj ?_) | (refine zao ?_) | (refine zam ?_) | (refine zan ?_) | (refine zaq rfl ?_) | (refine zah ?_) | (refine zai ?_) | (refine zbi ?_))
          all_goals first
            | (exfalso; omega)
            | (refine zb6 (k + 1, v - 1) rfl aW ⟨by simp only; omega, by simp only [e3, List.length_append, List.length_singleton]; omega⟩ (by simp only; omega))
        · rw [decide_eq_false hyr] at kH
          have e3 := filter_take_f (p := fun x => decide (x ∈ r)) hgy (by simpa using hyr)
          repeat' (first
      | (refine zaz ?_; first | (refine za4 ?_; refine zas _ rfl ?_) | (refine zak ?_; refine zaa _ rfl ?_) | (refine zbu ?_; first | (refine zb0 rfl rfl aO ?_) | (refine zch rfl rfl aO ?_) | (refine zbs _ rfl rfl rfl ?_) | (refine zav _ rfl rfl rfl ?_)) | (refine g_un ?_; first | (refine zb7 rfl ?_) | (refine zb8 rfl aO ?_)) | (refine zbb ?_; first | (refine zab aA rfl ?_) | (refine zae _ aA rfl rfl aE rfl ?_) | (refine zac _ aA rfl aZ aL ?_) | (refine zad _ aA rfl rfl aE aZ aL ?_)) | (refine zbd ?_; first | (refine zax _ aA rfl rfl aO aA ?_) | (refine zaw _ aA rfl rfl rfl rfl aO aO (by first | (rw [Nat.zero_add, Int.toNat_natCast]) | (rw [Nat.zero_add]) | rfl) ?_)) | (refine za9 ?_; first | (refine zbc true (kH) rfl rfl rfl aS rfl aH ?_; simp only [cl]) | (refine za8 aA rfl ?_) | (refine za6 aA rfl rfl ?_) | (refine za5 aA rfl ?_) | (refine za7 aA (evO_ok rfl) ?_)) | (refine zbt _ _ rfl rfl rfl rfl ?_) | (refine zar (hK _ _ (.inl rfl) ?_); clear hK K) | (refine zar (hK _ _ (.inr (by kernel_rfl)) ?_); clear hK K))
      | (refine za3 ?_; first | (refine zbk ?_) | (refine zaf (fun K hK => ?_)) | (refine zap ?_) | (refine za0 ?_) | (refine zbj ?_) | (refine za1 ?_) | (refine zbe ?_; first | (refine zat rfl aD ?_) | (refine zau rfl aD ?_) | (refine zay rfl (fun h => ?_) (fun h => ?_) <;> (have h' := h; (try simp only [sx] at h')))))
      | (refine za2 ?_) | (refine zag ?_) | (refine zaj ?_) | (refine zao ?_) | (refine zam ?_) | (refine zan ?_) | (refine zaq rfl ?_) | (refine zah ?_) | (refine zai ?_) | (refine zbi ?_))
          all_goals first
            | (exfalso; omega)
            | (refine zb6 (k + 1, v) rfl aW ⟨by simp only; omega, by simp only [e3, hv]⟩ (by simp only; omega))
      · rw [take_all hge2] at hv
        repeat' (first
      | (refine zaz ?_; first | (refine za4 ?_; refine zas _ rfl ?_) | (refine zak ?_; refine zaa _ rfl ?_) | (refine zbu ?_; first | (refine zb0 rfl rfl aO ?_) | (refine zch rfl rfl aO ?_) | (refine zbs _ rfl rfl rfl ?_) | (refine zav _ rfl rfl rfl ?_)) | (refine g_un ?_; first | (refine zb7 rfl ?_) | (refine zb8 rfl aO ?_)) | (refine zbb ?_; first | (refine zab aA rfl ?_) | (refine zae _ aA rfl rfl aE rfl ?_) | (refine zac _ aA rfl aZ aL ?_) | (refine zad _ aA rfl rfl aE aZ aL ?_)) | (refine zbd ?_; first | (refine zax _ aA rfl rfl aO aA ?_) | (refine zaw _ aA rfl rfl rfl rfl aO aO (by first | (rw [Nat.zero_add, Int.toNat_natCast]) | (rw [Nat.zero_add]) | rfl) ?_)) | (refine za9 ?_; first | (refine za8 aA rfl ?_) | (refine za6 aA rfl rfl ?_) | (refine za5 aA rfl ?_) | (refine za7 aA (evO_ok rfl) ?_)) | (refine zbt _ _ rfl rfl rfl rfl ?_) | (refine zar (hK _ _ (.inl rfl) ?_); clear hK K) | (refine zar (hK _ _ (.inr (by kernel_rfl)) ?_); clear hK K))
      | (refine za3 ?_; first | (refine zbk ?_) | (refine zaf (fun K hK => ?_)) | (refine zap ?_) | (refine za0 ?_) | (refine zbj ?_) | (refine za1 ?_) | (refine zbe ?_; first | (refine zat rfl aD ?_) | (refine zau rfl aD ?_) | (refine zay rfl (fun h => ?_) (fun h => ?_) <;> (have h' := h; (try simp only [sx] at h')))))
      | (refine za2 ?_) | (refine zag ?_) | (refine zaj ?_) | (refine zao ?_) | (refine zam ?_) | (refine zan ?_) | (refine zaq rfl ?_) | (refine zah ?_) | (refine zai ?_) | (refine zbi ?_))
        all_goals first
          | (exfalso; omega)
          | (refine zb6 (i + 1, v) rfl aW ⟨by simp only; omega, by simp only [e, hs, e2]; omega⟩ (by simp only; omega))
    · rw [take_all hge] at hs
      have hs : s = edgL t r := hs
      repeat' (first
      | (refine zaz ?_; first | (refine za4 ?_; refine zas _ rfl ?_) | (refine zak ?_; refine zaa _ rfl ?_) | (refine zbu ?_; first | (refine zb0 rfl rfl aO ?_) | (refine zch rfl rfl aO ?_) | (refine zbs _ rfl rfl rfl ?_) | (refine zav _ rfl rfl rfl ?_)) | (refine g_un ?_; first | (refine zb7 rfl ?_) | (refine zb8 rfl aO ?_)) | (refine zbb ?_; first | (refine zab aA rfl ?_) | (refine zae _ aA rfl rfl aE rfl ?_) | (refine zac _ aA rfl aZ aL ?_) | (refine zad _ aA rfl rfl aE aZ aL ?_)) | (refine zbd ?_; first | (refine zax _ aA rfl rfl aO aA ?_) | (refine zaw _ aA rfl rfl rfl rfl aO aO (by first | (rw [Nat.zero_add, Int.toNat_natCast]) | (rw [Nat.zero_add]) | rfl) ?_)) | (refine za9 ?_; first | (refine za8 aA rfl ?_) | (refine za6 aA rfl rfl ?_) | (refine za5 aA rfl ?_) | (refine za7 aA (evO_ok rfl) ?_)) | (refine zbt _ _ rfl rfl rfl rfl ?_) | (refine zar (hK _ _ (.inl rfl) ?_); clear hK K) | (refine zar (hK _ _ (.inr (by kernel_rfl)) ?_); clear hK K))
      | (refine za3 ?_; first | (refine zbk ?_) | (refine zaf (fun K hK => ?_)) | (refine zap ?_) | (refine za0 ?_) | (refine zbj ?_) | (refine za1 ?_) | (refine zbe ?_; first | (refine zat rfl aD ?_) | (refine zau rfl aD ?_) | (refine zay rfl (fun h => ?_) (fun h => ?_) <;> (have h' := h; (try simp only [sx] at h')))))
      | (refine za2 ?_) | (refine zag ?_) | (refine zaj ?_) | (refine zao ?_) | (refine zam ?_) | (refine zan ?_) | (refine zaq rfl ?_) | (refine zah ?_) | (refine zai ?_) | (refine zbi ?_))
      all_goals first
        | (exfalso; omega)
        | exact aR
  · rw [decide_eq_false hok] at k1
    rw [edR, if_neg hok, decide_eq_false hok]
    repeat' (first
      | (refine zaz ?_; first | (refine za4 ?_; refine zas _ rfl ?_) | (refine zak ?_; refine zaa _ rfl ?_) | (refine zbu ?_; first | (refine zb0 rfl rfl aO ?_) | (refine zch rfl rfl aO ?_) | (refine zbs _ rfl rfl rfl ?_) | (refine zav _ rfl rfl rfl ?_)) | (refine g_un ?_; first | (refine zb7 rfl ?_) | (refine zb8 rfl aO ?_)) | (refine zbb ?_; first | (refine zab aA rfl ?_) | (refine zae _ aA rfl rfl aE rfl ?_) | (refine zac _ aA rfl aZ aL ?_) | (refine zad _ aA rfl rfl aE aZ aL ?_)) | (refine zbd ?_; first | (refine zax _ aA rfl rfl aO aA ?_) | (refine zaw _ aA rfl rfl rfl rfl aO aO (by first | (rw [Nat.zero_add, Int.toNat_natCast]) | (rw [Nat.zero_add]) | rfl) ?_)) | (refine za9 ?_; first | (refine zbc true (k1) rfl rfl rfl aS rfl aH ?_; simp only [cl]) | (refine za8 aA rfl ?_) | (refine za6 aA rfl rfl ?_) | (refine za5 aA rfl ?_) | (refine za7 aA (evO_ok rfl) ?_)) | (refine zbt _ _ rfl rfl rfl rfl ?_) | (refine zar (hK _ _ (.inl rfl) ?_); clear hK K) | (refine zar (hK _ _ (.inr (by kernel_rfl)) ?_); clear hK K))
      | (refine za3 ?_; first | (refine zbk ?_) | (refine zaf (fun K hK => ?_)) | (refine zap ?_) | (refine za0 ?_) | (refine zbj ?_) | (refine za1 ?_) | (refine zbe ?_; first | (refine zat rfl aD ?_) | (refine zau rfl aD ?_) | (refine zay rfl (fun h => ?_) (fun h => ?_) <;> (have h' := h; (try simp only [sx] at h')))))
      | (refine za2 ?_) | (refine zag ?_) | (refine zaj ?_) | (refine zao ?_) | (refine zam ?_) | (refine zan ?_) | (refine zaq rfl ?_) | (refine zah ?_) | (refine zai ?_) | (refine zbi ?_))
    all_goals first
      | (exfalso; omega)
      | exact aR
end
end Go.Vs
set_option linter.unusedVariables false
set_option linter.unusedSimpArgs false
set_option maxRecDepth 100000
set_option maxHeartbeats 4000000
namespace Go.Vs
open Go.Proofs
attribute [local irreducible] exec vwp thenQ blkQ loopQ RetPost
section
variable {P : Program} {ops : Array Oper} {draw : Bool} {env : List (Nat × PV)} {mem : List (Id × Option Row)} {tr : List (List Id × List Id)} {rest : List Oper} {d : Nat} {T yT ty : TypeId} {pos : String} {af : Array Edge} {x y : Operand} {K : St → List (List Id × List Id) → Prop}
theorem x_strAdd {m n : ByteArray} (hx : ev (getE env) x = .str m) (hy : ev (getE env) y = .str n) (hb : m.size + n.size ≤ 9223372036854775807)
    (hk : exec P ops draw rest ⟨(d, .str (m ++ n)) :: env, mem⟩ (([], []) :: tr) K) : exec P ops draw (⟨some d, .binOp .add T x y yT, ty, pos, af, none⟩ :: rest) ⟨env, mem⟩ tr K :=
  zav (.str (m ++ n)) hx hy (by simp only [strBin]; rw [if_pos hb]) hk
end
theorem strB_size (bs : List Int) : (strB bs).size = bs.length := by
  have key : ∀ (bs : List Int) (a : ByteArray), (bs.foldl (fun r n => r.push (UInt8.ofNat n.toNat)) a).size = a.size + bs.length := by
    intro bs
    induction bs with
    | nil => intro a; rfl
    | cons b bs ih => intro a; rw [List.foldl_cons, ih, ByteArray.size_push, List.length_cons]; omega
  have := key bs ByteArray.empty
  simpa [strB] using this
theorem strB_snoc (bs : List Int) (b : Int) : strB (bs ++ [b]) = (strB bs).push (UInt8.ofNat b.toNat) := by simp [strB]
theorem push_app (a : ByteArray) (x : UInt8) : a ++ (⟨#[x]⟩ : ByteArray) = a.push x := by
  apply ByteArray.ext
  simp
@[reducible] def mkC (r : List Int) (c : Int) : Int := if c ∈ r then 35 else 46
def picL (t : Terrain) (r : List Int) : Nat → List Int
  | 0 => []
  | i + 1 => if (i : Int) % t.width = t.width - 1 then (picL t r i ++ [mkC r i]) ++ [10] else picL t r i ++ [mkC r i]
theorem picL_len (t : Terrain) (r : List Int) : ∀ i, (picL t r i).length ≤ 2 * i ∧ (0 < i → 0 < (picL t r i).length)
  | 0 => by simp [picL]
  | i + 1 => by
    have h := picL_len t r i
    rw [picL]
    split <;> simp <;> omega
def piR (t : Terrain) (r : List Int) : ByteArray := if RgOk t r then strB (picL t r t.burn.length) else ⟨#[]⟩
theorem bytesL_snoc (bs : List Int) (b : Int) : bytesL (bs ++ [b]) = bytesL bs ++ [[.int .u8 b]] := by simp [bytesL]
theorem bytesL_len (bs : List Int) : (bytesL bs).length = bs.length := by simp [bytesL]
theorem k_pict1 (r : List Int) (c : Nat) (hm : r.length ≤ 1000000) : Con Try.prog 93 [.int .i64 (c : Int), .ptr [.list 1 (ints r)]] (.int .u8 (mkC r c)) := by
  intro al
  refine zba hmix Try.func93 rfl (by kernel_rfl) (by kernel_rfl) (Nat.le_of_ble_eq_true rfl) (fun row h => by cases h) ?_
  have hty_c24 := ty_c24
  have hty_u24 := ty_u24
  have hty_s24 := ty_s24
  have kH := k_hasInt r (c : Int) aO
  by_cases h1 : (c : Int) ∈ r
  · rw [decide_eq_true h1] at kH
    repeat' (first
      | (refine zaz ?_; first | (refine za4 ?_; refine zas _ rfl ?_) | (refine zak ?_; refine zaa _ rfl ?_) | (refine zbb ?_; first | (refine zab aA rfl ?_) | (refine zae _ aA rfl rfl aE rfl ?_) | (refine zac _ aA rfl aZ aL ?_) | (refine zad _ aA rfl rfl aE aZ aL ?_)) | (refine za9 ?_; refine zbc true (kH) rfl rfl rfl aS rfl aH ?_; simp only [cl]) | (refine zar (hK _ _ (.inl rfl) ?_); clear hK K) | (refine zar (hK _ _ (.inr (by kernel_rfl)) ?_); clear hK K))
      | (refine za3 ?_; first | (refine zbk ?_) | (refine zaf (fun K hK => ?_)) | (refine zap ?_) | (refine za0 ?_) | (refine zbj ?_) | (refine za1 ?_) | (refine zbe ?_; first | (refine zat rfl aD ?_) | (refine zau rfl aD ?_) | (refine zay rfl (fun h => ?_) (fun h => ?_) <;> (have h' := h; (try simp only [sx] at h')))))
      | (refine za2 ?_) | (refine zag ?_) | (refine zaj ?_) | (refine zao ?_) | (refine zam ?_) | (refine zan ?_) | (refine zaq rfl ?_) | (refine zah ?_) | (refine zai ?_) | (refine zbi ?_))
    all_goals exact ret_int rfl (zbh rfl) (by rw [mkC, if_pos h1])
  · rw [decide_eq_false h1] at kH
    repeat' (first
      | (refine zaz ?_; first | (refine za4 ?_; refine zas _ rfl ?_) | (refine zak ?_; refine zaa _ rfl ?_) | (refine zbb ?_; first | (refine zab aA rfl ?_) | (refine zae _ aA rfl rfl aE rfl ?_) | (refine zac _ aA rfl aZ aL ?_) | (refine zad _ aA rfl rfl aE aZ aL ?_)) | (refine za9 ?_; refine zbc true (kH) rfl rfl rfl aS rfl aH ?_; simp only [cl]) | (refine zar (hK _ _ (.inl rfl) ?_); clear hK K) | (refine zar (hK _ _ (.inr (by kernel_rfl)) ?_); clear hK K))
      | (refine za3 ?_; first | (refine zbk ?_) | (refine zaf (fun K hK => ?_)) | (refine zap ?_) | (refine za0 ?_) | (refine zbj ?_) | (refine za1 ?_) | (refine zbe ?_; first | (refine zat rfl aD ?_) | (refine zau rfl aD ?_) | (refine zay rfl (fun h => ?_) (fun h => ?_) <;> (have h' := h; (try simp only [sx] at h')))))
      | (refine za2 ?_) | (refine zag ?_) | (refine zaj ?_) | (refine zao ?_) | (refine zam ?_) | (refine zan ?_) | (refine zaq rfl ?_) | (refine zah ?_) | (refine zai ?_) | (refine zbi ?_))
    all_goals exact ret_int rfl (zbh rfl) (by rw [mkC, if_neg h1])
theorem k_picture (t : Terrain) (r : List Int) (hg : GoodT t) (hm : r.length ≤ 1000000) : Con Try.prog 92 [.agg t.pv, .fn 93 [] [.ptr [.list 1 (ints r)]]] (.str (strB (picL t r t.burn.length))) := by
  intro al
  refine zba hmix Try.func92 rfl (by kernel_rfl) (by kernel_rfl) (Nat.le_of_ble_eq_true rfl) (fun row h => by cases h) ?_
  have hty_s22 := ty_s22
  have hty_f26_2 := ty_f26_2
  have hty_c24 := ty_c24
  have hty_u24 := ty_u24
  have hty_s24 := ty_s24
  have hty_u22 := ty_u22
  have hty_a26 := ty_a26
  have hty_f26_0 := ty_f26_0
  have hty_c3 := ty_c3
  have hty_u9 := ty_u9
  have hl1 : (ints t.burn).length = t.burn.length := by simp
  have hlen := goodT_len hg
  have hd := hg.1
  unfold Dims at hd
  repeat' (first
      | (refine zaz ?_; first | (refine za4 ?_; refine zas _ rfl ?_) | (refine zak ?_; refine zaa _ rfl ?_) | (refine zbu ?_; first | (refine zb0 rfl rfl aO ?_) | (refine zch rfl rfl aO ?_) | (refine zbs _ rfl rfl rfl ?_) | (refine zbr aA rfl rfl ?_) | (refine x_strAdd rfl rfl (by first | (show _ + 1 ≤ _; omega) | fail) ?_) | (refine zav _ rfl rfl rfl ?_)) | (refine zbb ?_; first | (refine zab aA rfl ?_) | (refine zae _ aA rfl rfl aE rfl ?_) | (refine zac _ aA rfl aZ aL ?_) | (refine zad _ aA rfl rfl aE aZ aL ?_)) | (refine zbz ?_; first | (refine zbf _ aA rfl aL ?_) | (refine zbg _ aA rfl rfl (by simp only [lx, Nat.reduceAdd]; first | done | rfl) ?_)) | (refine za9 ?_; first | (refine za8 aA rfl ?_) | (refine za6 aA rfl rfl ?_) | (refine za5 aA rfl ?_) | (refine za7 aA (evO_ok rfl) ?_) | (refine zbx _ _ aA rfl (lookM (by rfl)) rfl (lookM (by rfl)) rfl aN ⟨rfl, rfl, by decide, by decide⟩ (by first | rfl | omega | (simp; done) | (simp; omega) | fail) ⟨by first | (simp only [List.length_cons, List.length_nil]; omega) | omega | fail, by decide⟩ rfl (by first | (first | (simp only [lx, Nat.reduceAdd]; first | done | rfl) | fail) | rfl) aP ?_) | (refine zbw _ _ aA rfl rfl (lookM (by rfl)) ⟨rfl, by decide⟩ aN (by first | exact Nat.succ_pos _ | omega | (simp; done)) ⟨by first | (simp only [List.length_cons, List.length_nil]; omega) | omega | fail, by decide⟩ rfl rfl aP ?_) | (refine zbv _ aA rfl rfl (lookM (by rfl)) ⟨rfl, by decide⟩ aN ⟨by first | (simp only [List.length_cons, List.length_nil]; omega) | omega | fail, by decide⟩ rfl aP ?_) | (refine zbl _ aA rfl rfl rfl ⟨rfl, rfl, rfl, by decide, by decide⟩ (by first | rfl | (simp; done) | fail) ⟨by omega, by decide⟩ rfl aL (by first | (rw [Nat.zero_add]) | rfl) ?_)) | (refine x_convert_i aA aA (evO_ok rfl) aO ?_) | (refine x_convert aA aA (evO_ok rfl) ?_) | (refine zal aA rfl rfl rfl ?_) | (refine zbt _ _ rfl rfl rfl rfl ?_) | (refine zar (hK _ _ (.inl rfl) ?_); clear hK K) | (refine zar (hK _ _ (.inr (by kernel_rfl)) ?_); clear hK K))
      | (refine za3 ?_; first | (refine zbk ?_) | (refine zaf (fun K hK => ?_)) | (refine zap ?_) | (refine za0 ?_) | (refine zbj ?_) | (refine za1 ?_) | (refine zbe ?_; first | (refine zat rfl aD ?_) | (refine zau rfl aD ?_) | (refine zay rfl (fun h => ?_) (fun h => ?_) <;> (have h' := h; (try simp only [sx] at h')))))
      | (refine za2 ?_) | (refine zag ?_) | (refine zaj ?_) | (refine zao ?_) | (refine zam ?_) | (refine zan ?_) | (refine zaq rfl ?_) | (refine zah ?_) | (refine zai ?_) | (refine zbi ?_))
  all_goals try (exfalso; omega)
  refine zcd [1, 2, 10] [] (fun q : Nat × List (List PV) × Nat => [(5, .osl (1001, 0) 0 q.2.2), (11, .int .i64 q.1)]) (fun q : Nat × List (List PV) × Nat => [((1001, 0), some ⟨5, 1, q.2.1, false⟩)]) (fun q : Nat × List (List PV) × Nat => q.1 ≤ t.burn.length ∧ q.2.1 = bytesL (picL t r q.1) ∧ q.2.1.length = q.2.2) (fun q : Nat × List (List PV) × Nat => t.burn.length - q.1) ((0, [], 0)) rfl rfl (fun _ => rfl) (fun _ => rfl) rfl aW ⟨by simp, by simp [bytesL, picL], rfl⟩ (fun q hq => ?_)
  obtain ⟨i, es, m⟩ := q
  obtain ⟨hi, hes, hem⟩ := hq
  simp only at hi hes hem
  dsimp only
  have hpl := picL_len t r i
  have hml : m ≤ 2 * i := by rw [← hem, hes, bytesL_len]; omega
  rcases Nat.lt_or_ge i t.burn.length with hlt | hge
  · have kP := k_pict1 r i hm
    have kC := k_column t (i : Int) hd.1.1 aO
    have e : picL t r (i + 1) = if (i : Int) % t.width = t.width - 1 then (picL t r i ++ [mkC r i]) ++ [10] else picL t r i ++ [mkC r i] := rfl
    generalize mkC r (i : Int) = b at *
    by_cases h1 : (i : Int) % t.width = t.width - 1
    · rw [if_pos h1] at e
      repeat' (first
      | (refine zaz ?_; first | (refine za4 ?_; refine zas _ rfl ?_) | (refine zak ?_; refine zaa _ rfl ?_) | (refine zbu ?_; first | (refine zb0 rfl rfl aO ?_) | (refine zch rfl rfl aO ?_) | (refine zbs _ rfl rfl rfl ?_) | (refine zbr aA rfl rfl ?_) | (refine x_strAdd rfl rfl (by first | (show _ + 1 ≤ _; omega) | fail) ?_) | (refine zav _ rfl rfl rfl ?_)) | (refine zbb ?_; first | (refine zab aA rfl ?_) | (refine zae _ aA rfl rfl aE rfl ?_) | (refine zac _ aA rfl aZ aL ?_) | (refine zad _ aA rfl rfl aE aZ aL ?_)) | (refine zbz ?_; first | (refine zbf _ aA rfl aL ?_) | (refine zbg _ aA rfl rfl (by simp only [lx, Nat.reduceAdd]; first | done | rfl) ?_)) | (refine za9 ?_; first | (refine zbc true (kP) rfl rfl rfl aS rfl aH ?_; simp only [cl]) | (refine zbc true (kC) rfl rfl rfl aS rfl aH ?_; simp only [cl]) | (refine za8 aA rfl ?_) | (refine za6 aA rfl rfl ?_) | (refine za5 aA rfl ?_) | (refine za7 aA (evO_ok rfl) ?_) | (refine zbx _ _ aA rfl (lookM (by rfl)) rfl (lookM (by rfl)) rfl aN ⟨rfl, rfl, by decide, by decide⟩ (by first | rfl | omega | (simp; done) | (simp; omega) | fail) ⟨by first | (simp only [List.length_cons, List.length_nil]; omega) | omega | fail, by decide⟩ rfl (by first | (first | (simp only [lx, Nat.reduceAdd]; first | done | rfl) | fail) | rfl) aP ?_) | (refine zbw _ _ aA rfl rfl (lookM (by rfl)) ⟨rfl, by decide⟩ aN (by first | exact Nat.succ_pos _ | omega | (simp; done)) ⟨by first | (simp only [List.length_cons, List.length_nil]; omega) | omega | fail, by decide⟩ rfl rfl aP ?_) | (refine zbv _ aA rfl rfl (lookM (by rfl)) ⟨rfl, by decide⟩ aN ⟨by first | (simp only [List.length_cons, List.length_nil]; omega) | omega | fail, by decide⟩ rfl aP ?_) | (refine zbl _ aA rfl rfl rfl ⟨rfl, rfl, rfl, by decide, by decide⟩ (by first | rfl | (simp; done) | fail) ⟨by omega, by decide⟩ rfl aL (by first | (rw [Nat.zero_add]) | rfl) ?_)) | (refine x_convert_i aA aA (evO_ok rfl) aO ?_) | (refine x_convert aA aA (evO_ok rfl) ?_) | (refine zal aA rfl rfl rfl ?_) | (refine zbt _ _ rfl rfl rfl rfl ?_) | (refine zar (hK _ _ (.inl rfl) ?_); clear hK K) | (refine zar (hK _ _ (.inr (by kernel_rfl)) ?_); clear hK K))
      | (refine za3 ?_; first | (refine zbk ?_) | (refine zaf (fun K hK => ?_)) | (refine zap ?_) | (refine za0 ?_) | (refine zbj ?_) | (refine za1 ?_) | (refine zbe ?_; first | (refine zat rfl aD ?_) | (refine zau rfl aD ?_) | (refine zay rfl (fun h => ?_) (fun h => ?_) <;> (have h' := h; (try simp only [sx] at h')))))
      | (refine za2 ?_) | (refine zag ?_) | (refine zaj ?_) | (refine zao ?_) | (refine zam ?_) | (refine zan ?_) | (refine zaq rfl ?_) | (refine zah ?_) | (refine zai ?_) | (refine zbi ?_))
      all_goals first
        | (exfalso; omega)
        | (refine zb6 (i + 1, (es ++ [[.int .u8 b]]) ++ [[.int .u8 10]], m + 1 + 1) rfl aW ⟨by simp only; omega, by simp only [e, bytesL_snoc, hes], by simp [hem]⟩ (by simp only; omega))
    · rw [if_neg h1] at e
      repeat' (first
      | (refine zaz ?_; first | (refine za4 ?_; refine zas _ rfl ?_) | (refine zak ?_; refine zaa _ rfl ?_) | (refine zbu ?_; first | (refine zb0 rfl rfl aO ?_) | (refine zch rfl rfl aO ?_) | (refine zbs _ rfl rfl rfl ?_) | (refine zbr aA rfl rfl ?_) | (refine x_strAdd rfl rfl (by first | (show _ + 1 ≤ _; omega) | fail) ?_) | (refine zav _ rfl rfl rfl ?_)) | (refine zbb ?_; first | (refine zab aA rfl ?_) | (refine zae _ aA rfl rfl aE rfl ?_) | (refine zac _ aA rfl aZ aL ?_) | (refine zad _ aA rfl rfl aE aZ aL ?_)) | (refine zbz ?_; first | (refine zbf _ aA rfl aL ?_) | (refine zbg _ aA rfl rfl (by simp only [lx, Nat.reduceAdd]; first | done | rfl) ?_)) | (refine za9 ?_; first | (refine zbc true (kP) rfl rfl rfl aS rfl aH ?_; simp only [cl]) | (refine zbc true (kC) rfl rfl rfl aS rfl aH ?_; simp only [cl]) | (refine za8 aA rfl ?_) | (refine za6 aA rfl rfl ?_) | (refine za5 aA rfl ?_) | (refine za7 aA (evO_ok rfl) ?_) | (refine zbx _ _ aA rfl (lookM (by rfl)) rfl (lookM (by rfl)) rfl aN ⟨rfl, rfl, by decide, by decide⟩ (by first | rfl | omega | (simp; done) | (simp; omega) | fail) ⟨by first | (simp only [List.length_cons, List.length_nil]; omega) | omega | fail, by decide⟩ rfl (by first | (first | (simp only [lx, Nat.reduceAdd]; first | done | rfl) | fail) | rfl) aP ?_) | (refine zbw _ _ aA rfl rfl (lookM (by rfl)) ⟨rfl, by decide⟩ aN (by first | exact Nat.succ_pos _ | omega | (simp; done)) ⟨by first | (simp only [List.length_cons, List.length_nil]; omega) | omega | fail, by decide⟩ rfl rfl aP ?_) | (refine zbv _ aA rfl rfl (lookM (by rfl)) ⟨rfl, by decide⟩ aN ⟨by first | (simp only [List.length_cons, List.length_nil]; omega) | omega | fail, by decide⟩ rfl aP ?_) | (refine zbl _ aA rfl rfl rfl ⟨rfl, rfl, rfl, by decide, by decide⟩ (by first | rfl | (simp; done) | fail) ⟨by omega, by decide⟩ rfl aL (by first | (rw [Nat.zero_add]) | rfl) ?_)) | (refine x_convert_i aA aA (evO_ok rfl) aO ?_) | (refine x_convert aA aA (evO_ok rfl) ?_) | (refine zal aA rfl rfl rfl ?_) | (refine zbt _ _ rfl rfl rfl rfl ?_) | (refine zar (hK _ _ (.inl rfl) ?_); clear hK K) | (refine zar (hK _ _ (.inr (by kernel_rfl)) ?_); clear hK K))
      | (refine za3 ?_; first | (refine zbk ?_) | (refine zaf (fun K hK => ?_)) | (refine zap ?_) | (refine za0 ?_) | (refine zbj ?_) | (refine za1 ?_) | (refine zbe ?_; first | (refine zat rfl aD ?_) | (refine zau rfl aD ?_) | (refine zay rfl (fun h => ?_) (fun h => ?_) <;> (have h' := h; (try simp only [sx] at h')))))
      | (refine za2 ?_) | (refine zag ?_) | (refine zaj ?_) | (refine zao ?_) | (refine zam ?_) | (refine zan ?_) | (refine zaq rfl ?_) | (refine zah ?_) | (refine zai ?_) | (refine zbi ?_))
      all_goals first
        | (exfalso; omega)
        | (refine zb6 (i + 1, es ++ [[.int .u8 b]], m + 1) rfl aW ⟨by simp only; omega, by simp only [e, bytesL_snoc, hes], by simp [hem]⟩ (by simp only; omega))
  · have hin : i = t.burn.length := by omega
    subst hin
    have hm0 : 0 < m := by rw [← hem, hes, bytesL_len]; exact hpl.2 aO
    have hcut : (es.drop 0).take m = bytesL (picL t r t.burn.length) := by rw [List.drop_zero, ← hem, List.take_length, hes]
    repeat' (first
      | (refine zaz ?_; first | (refine za4 ?_; refine zas _ rfl ?_) | (refine zak ?_; refine zaa _ rfl ?_) | (refine zbu ?_; first | (refine zb0 rfl rfl aO ?_) | (refine zch rfl rfl aO ?_) | (refine zbs _ rfl rfl rfl ?_) | (refine zbr aA rfl rfl ?_) | (refine x_strAdd rfl rfl (by first | (show _ + 1 ≤ _; omega) | fail) ?_) | (refine zav _ rfl rfl rfl ?_)) | (refine zbb ?_; first | (refine zab aA rfl ?_) | (refine zae _ aA rfl rfl aE rfl ?_) | (refine zac _ aA rfl aZ aL ?_) | (refine zad _ aA rfl rfl aE aZ aL ?_)) | (refine zbz ?_; first | (refine zbf _ aA rfl aL ?_) | (refine zbg _ aA rfl rfl (by simp only [lx, Nat.reduceAdd]; first | done | rfl) ?_)) | (refine za9 ?_; first | (refine za8 aA rfl ?_) | (refine za6 aA rfl rfl ?_) | (refine za5 aA rfl ?_) | (refine za7 aA (evO_ok rfl) ?_) | (refine zbx _ _ aA rfl (lookM (by rfl)) rfl (lookM (by rfl)) rfl aN ⟨rfl, rfl, by decide, by decide⟩ (by first | rfl | omega | (simp; done) | (simp; omega) | fail) ⟨by first | (simp only [List.length_cons, List.length_nil]; omega) | omega | fail, by decide⟩ rfl (by first | (first | (simp only [lx, Nat.reduceAdd]; first | done | rfl) | fail) | rfl) aP ?_) | (refine zbw _ _ aA rfl rfl (lookM (by rfl)) ⟨rfl, by decide⟩ aN (by first | exact Nat.succ_pos _ | omega | (simp; done)) ⟨by first | (simp only [List.length_cons, List.length_nil]; omega) | omega | fail, by decide⟩ rfl rfl aP ?_) | (refine zbv _ aA rfl rfl (lookM (by rfl)) ⟨rfl, by decide⟩ aN ⟨by first | (simp only [List.length_cons, List.length_nil]; omega) | omega | fail, by decide⟩ rfl aP ?_) | (refine zbl _ aA rfl rfl rfl ⟨rfl, rfl, rfl, by decide, by decide⟩ (by first | rfl | (simp; done) | fail) ⟨by omega, by decide⟩ rfl aL (by first | (rw [Nat.zero_add]) | rfl) ?_)) | (refine x_convert_i aA aA (evO_ok rfl) aO ?_) | (refine x_convert aA aA (evO_ok rfl) ?_) | (refine zal aA rfl rfl rfl ?_) | (refine zbt _ _ rfl rfl rfl rfl ?_) | (refine zar (hK _ _ (.inl rfl) ?_); clear hK K) | (refine zar (hK _ _ (.inr (by kernel_rfl)) ?_); clear hK K))
      | (refine za3 ?_; first | (refine zbk ?_) | (refine zaf (fun K hK => ?_)) | (refine zap ?_) | (refine za0 ?_) | (refine zbj ?_) | (refine za1 ?_) | (refine zbe ?_; first | (refine zat rfl aD ?_) | (refine zau rfl aD ?_) | (refine zay rfl (fun h => ?_) (fun h => ?_) <;> (have h' := h; (try simp only [sx] at h')))))
      | (refine za2 ?_) | (refine zag ?_) | (refine zaj ?_) | (refine zao ?_) | (refine zam ?_) | (refine zan ?_) | (refine zaq rfl ?_) | (refine zah ?_) | (refine zai ?_) | (refine zbi ?_))
    all_goals try (exfalso; omega)
    refine zaz ?_
    refine x_convertB (e := 5) (picL t r t.burn.length) (by kernel_rfl) (by kernel_rfl) (by kernel_rfl) rfl rfl ⟨rfl, rfl, hm0⟩ hcut ?_
    repeat' (first
      | (refine zaz ?_; first | (refine za4 ?_; refine zas _ rfl ?_) | (refine zak ?_; refine zaa _ rfl ?_) | (refine zbu ?_; first | (refine zb0 rfl rfl aO ?_) | (refine zch rfl rfl aO ?_) | (refine zbs _ rfl rfl rfl ?_) | (refine zbr aA rfl rfl ?_) | (refine x_strAdd rfl rfl (by first | (show _ + 1 ≤ _; omega) | fail) ?_) | (refine zav _ rfl rfl rfl ?_)) | (refine zbb ?_; first | (refine zab aA rfl ?_) | (refine zae _ aA rfl rfl aE rfl ?_) | (refine zac _ aA rfl aZ aL ?_) | (refine zad _ aA rfl rfl aE aZ aL ?_)) | (refine zbz ?_; first | (refine zbf _ aA rfl aL ?_) | (refine zbg _ aA rfl rfl (by simp only [lx, Nat.reduceAdd]; first | done | rfl) ?_)) | (refine za9 ?_; first | (refine za8 aA rfl ?_) | (refine za6 aA rfl rfl ?_) | (refine za5 aA rfl ?_) | (refine za7 aA (evO_ok rfl) ?_) | (refine zbx _ _ aA rfl (lookM (by rfl)) rfl (lookM (by rfl)) rfl aN ⟨rfl, rfl, by decide, by decide⟩ (by first | rfl | omega | (simp; done) | (simp; omega) | fail) ⟨by first | (simp only [List.length_cons, List.length_nil]; omega) | omega | fail, by decide⟩ rfl (by first | (first | (simp only [lx, Nat.reduceAdd]; first | done | rfl) | fail) | rfl) aP ?_) | (refine zbw _ _ aA rfl rfl (lookM (by rfl)) ⟨rfl, by decide⟩ aN (by first | exact Nat.succ_pos _ | omega | (simp; done)) ⟨by first | (simp only [List.length_cons, List.length_nil]; omega) | omega | fail, by decide⟩ rfl rfl aP ?_) | (refine zbv _ aA rfl rfl (lookM (by rfl)) ⟨rfl, by decide⟩ aN ⟨by first | (simp only [List.length_cons, List.length_nil]; omega) | omega | fail, by decide⟩ rfl aP ?_) | (refine zbl _ aA rfl rfl rfl ⟨rfl, rfl, rfl, by decide, by decide⟩ (by first | rfl | (simp; done) | fail) ⟨by omega, by decide⟩ rfl aL (by first | (rw [Nat.zero_add]) | rfl) ?_)) | (refine x_convert_i aA aA (evO_ok rfl) aO ?_) | (refine x_convert aA aA (evO_ok rfl) ?_) | (refine zal aA rfl rfl rfl ?_) | (refine zbt _ _ rfl rfl rfl rfl ?_) | (refine zar (hK _ _ (.inl rfl) ?_); clear hK K) | (refine zar (hK _ _ (.inr (by kernel_rfl)) ?_); clear hK K))
      | (refine za3 ?_; first | (refine zbk ?_) | (refine zaf (fun K hK => ?_)) | (refine zap ?_) | (refine za0 ?_) | (refine zbj ?_) | (refine za1 ?_) | (refine zbe ?_; first | (refine zat rfl aD ?_) | (refine zau rfl aD ?_) | (refine zay rfl (fun h => ?_) (fun h => ?_) <;> (have h' := h; (try simp only [sx] at h')))))
      | (refine za2 ?_) | (refine zag ?_) | (refine zaj ?_) | (refine zao ?_) | (refine zam ?_) | (refine zan ?_) | (refine zaq rfl ?_) | (refine zah ?_) | (refine zai ?_) | (refine zbi ?_))
    all_goals exact ret_str rfl (zbh rfl) rfl
theorem k_iPicture (t : Terrain) (r : List Int) (hn : t.burn.length ≤ 1000000) (hm : r.length ≤ 1000000) : Con Try.prog 37 [.agg t.pv, .list 1 (ints r)] (.tuple [.str (piR t r), .bool (decide (RgOk t r))]) := by
  intro al
  refine zba hmix Try.func37 rfl (by kernel_rfl) (by kernel_rfl) (Nat.le_of_ble_eq_true rfl) (fun row h => by cases h) ?_
  have hty_a26 := ty_a26
  have hty_c24 := ty_c24
  have hty_s35 := ty_s35
  have hty_u35 := ty_u35
  have k1 := k_isRegion1 t r hn hm
  by_cases hok : RgOk t r
  · rw [decide_eq_true hok] at k1
    rw [piR, if_pos hok, decide_eq_true hok]
    have kP := k_picture t r hok.1 hm
    repeat' (first
      | (refine zaz ?_; first | (refine zak ?_; refine zaa _ rfl ?_) | (refine g_un ?_; first | (refine zb7 rfl ?_) | (refine zb8 rfl aO ?_)) | (refine zbb ?_; first | (refine zab aA rfl ?_) | (refine zae _ aA rfl rfl aE rfl ?_) | (refine zac _ aA rfl aZ aL ?_) | (refine zad _ aA rfl rfl aE aZ aL ?_)) | (refine za9 ?_; first | (refine zbc true (k1) rfl rfl rfl aS rfl aH ?_; simp only [cl]) | (refine zbc true (kP) rfl rfl rfl aS rfl aH ?_; simp only [cl])) | (refine zal aA rfl rfl rfl ?_) | (refine zbt _ _ rfl rfl rfl rfl ?_) | (refine zcm _ _ rfl rfl ?_) | (refine zar (hK _ _ (.inl rfl) ?_); clear hK K) | (refine zar (hK _ _ (.inr (by kernel_rfl)) ?_); clear hK K))
      | (refine za3 ?_; first | (refine zbk ?_) | (refine zaf (fun K hK => ?_)) | (refine zap ?_) | (refine za0 ?_) | (refine zbj ?_) | (refine za1 ?_) | (refine zbe ?_; first | (refine zat rfl aD ?_) | (refine zau rfl aD ?_) | (refine zay rfl (fun h => ?_) (fun h => ?_) <;> (have h' := h; (try simp only [sx] at h')))))
      | (refine za2 ?_) | (refine zag ?_) | (refine zaj ?_) | (refine zao ?_) | (refine zam ?_) | (refine zan ?_) | (refine zaq rfl ?_) | (refine zah ?_) | (refine zai ?_) | (refine zbi ?_))
    all_goals first
      | (exfalso; omega)
      | exact aR
  · rw [decide_eq_false hok] at k1
    rw [piR, if_neg hok, decide_eq_false hok]
    repeat' (first
      | (refine zaz ?_; first | (refine zak ?_; refine zaa _ rfl ?_) | (refine g_un ?_; first | (refine zb7 rfl ?_) | (refine zb8 rfl aO ?_)) | (refine zbb ?_; first | (refine zab aA rfl ?_) | (refine zae _ aA rfl rfl aE rfl ?_) | (refine zac _ aA rfl aZ aL ?_) | (refine zad _ aA rfl rfl aE aZ aL ?_)) | (refine za9 ?_; refine zbc true (k1) rfl rfl rfl aS rfl aH ?_; simp only [cl]) | (refine zal aA rfl rfl rfl ?_) | (refine zbt _ _ rfl rfl rfl rfl ?_) | (refine zcm _ _ rfl rfl ?_) | (refine zar (hK _ _ (.inl rfl) ?_); clear hK K) | (refine zar (hK _ _ (.inr (by kernel_rfl)) ?_); clear hK K))
      | (refine za3 ?_; first | (refine zbk ?_) | (refine zaf (fun K hK => ?_)) | (refine zap ?_) | (refine za0 ?_) | (refine zbj ?_) | (refine za1 ?_) | (refine zbe ?_; first | (refine zat rfl aD ?_) | (refine zau rfl aD ?_) | (refine zay rfl (fun h => ?_) (fun h => ?_) <;> (have h' := h; (try simp only [sx] at h')))))
      | (refine za2 ?_) | (refine zag ?_) | (refine zaj ?_) | (refine zao ?_) | (refine zam ?_) | (refine zan ?_) | (refine zaq rfl ?_) | (refine zah ?_) | (refine zai ?_) | (refine zbi ?_))
    all_goals first
      | (exfalso; omega)
      | exact aR
theorem k_sPicture (t : Terrain) (r : List Int) (hn : t.burn.length ≤ 1000000) (hm : r.length ≤ 1000000) : Con Try.prog 38 [.agg t.pv, .list 1 (ints r)] (.tuple [.str (piR t r), .bool (decide (RgOk t r))]) := by
  intro al
  refine zba hmix Try.func38 rfl (by kernel_rfl) (by kernel_rfl) (Nat.le_of_ble_eq_true rfl) (fun row h => by cases h) ?_
  have hty_a26 := ty_a26
  have hty_u24 := ty_u24
  have hty_s24 := ty_s24
  have hty_f26_2 := ty_f26_2
  have hty_c24 := ty_c24
  have hty_f26_0 := ty_f26_0
  have hty_c3 := ty_c3
  have k1 := k_set1 t r hn hm
  have hl1 : (ints t.burn).length = t.burn.length := by simp
  by_cases hok : RgOk t r
  · rw [decide_eq_true hok] at k1
    rw [piR, if_pos hok, decide_eq_true hok]
    have hlen := goodT_len hok.1
    have hd := hok.1.1
    unfold Dims at hd
    repeat' (first
      | (refine zaz ?_; first | (refine za4 ?_; refine zas _ rfl ?_) | (refine zak ?_; refine zaa _ rfl ?_) | (refine zbu ?_; first | (refine zb0 rfl rfl aO ?_) | (refine zch rfl rfl aO ?_) | (refine zcq rfl rfl aO ?_) | (refine zce rfl rfl aO ?_) | (refine zbs _ rfl rfl rfl ?_) | (refine zbr aA rfl rfl ?_) | (refine x_strAdd rfl rfl (by first | (show _ + 1 ≤ _; omega) | fail) ?_) | (refine zav _ rfl rfl rfl ?_)) | (refine g_un ?_; first | (refine zb7 rfl ?_) | (refine zb8 rfl aO ?_)) | (refine zbb ?_; first | (refine zab aA rfl ?_) | (refine zae _ aA rfl rfl aE rfl ?_) | (refine zac _ aA rfl aZ aL ?_) | (refine zad _ aA rfl rfl aE aZ aL ?_)) | (refine zbz ?_; first | (refine zbf _ aA rfl aL ?_) | (refine zbg _ aA rfl rfl (by simp only [lx, Nat.reduceAdd]; first | done | rfl) ?_)) | (refine za9 ?_; first | (refine zbc true (k1) rfl rfl rfl aS rfl aH ?_; simp only [cl]) | (refine za8 aA rfl ?_) | (refine za6 aA rfl rfl ?_) | (refine za5 aA rfl ?_) | (refine za7 aA (evO_ok rfl) ?_)) | (refine zbt _ _ rfl rfl rfl rfl ?_) | (refine zar (hK _ _ (.inl rfl) ?_); clear hK K) | (refine zar (hK _ _ (.inr (by kernel_rfl)) ?_); clear hK K))
      | (refine za3 ?_; first | (refine zbk ?_) | (refine zaf (fun K hK => ?_)) | (refine zap ?_) | (refine za0 ?_) | (refine zbj ?_) | (refine za1 ?_) | (refine zbe ?_; first | (refine zat rfl aD ?_) | (refine zau rfl aD ?_) | (refine zay rfl (fun h => ?_) (fun h => ?_) <;> (have h' := h; (try simp only [sx] at h')))))
      | (refine za2 ?_) | (refine zag ?_) | (refine zaj ?_) | (refine zao ?_) | (refine zam ?_) | (refine zan ?_) | (refine zaq rfl ?_) | (refine zah ?_) | (refine zai ?_) | (refine zbi ?_))
    all_goals try (exfalso; omega)
    refine zcd [1, 2] [] (fun q : Nat × ByteArray => [(6, .str q.2), (7, .int .i64 q.1)]) (fun q : Nat × ByteArray => []) (fun q : Nat × ByteArray => q.1 ≤ t.burn.length ∧ q.2 = strB (picL t r q.1)) (fun q : Nat × ByteArray => t.burn.length - q.1) ((0, ⟨#[]⟩)) rfl rfl (fun _ => rfl) (fun _ => rfl) rfl aW ⟨by simp, rfl⟩ (fun q hq => ?_)
    obtain ⟨i, w⟩ := q
    obtain ⟨hi, hw⟩ := hq
    simp only at hi hw
    dsimp only
    have hws : w.size ≤ 2 * i := by rw [hw, strB_size]; exact (picL_len t r i).1
    have hs1 : (w ++ (⟨#[35]⟩ : ByteArray)).size = w.size + 1 := by rw [ByteArray.size_append]; rfl
    have hs2 : (w ++ (⟨#[46]⟩ : ByteArray)).size = w.size + 1 := by rw [ByteArray.size_append]; rfl
    rcases Nat.lt_or_ge i t.burn.length with hlt | hge
    · have kH := k_l1Has r (i : Int) aO
      have e : picL t r (i + 1) = if (i : Int) % t.width = t.width - 1 then (picL t r i ++ [mkC r i]) ++ [10] else picL t r i ++ [mkC r i] := rfl
      by_cases h2 : (i : Int) ∈ r
      · rw [decide_eq_true h2] at kH
        have eb : mkC r (i : Int) = 35 := by rw [mkC, if_pos h2]
        rw [eb] at e
        by_cases h1 : (i : Int) % t.width = t.width - 1
        · rw [if_pos h1] at e
          repeat' (first
      | (refine zaz ?_; first | (refine za4 ?_; refine zas _ rfl ?_) | (refine zak ?_; refine zaa _ rfl ?_) | (refine zbu ?_; first | (refine zb0 rfl rfl aO ?_) | (refine zch rfl rfl aO ?_) | (refine zcq rfl rfl aO ?_) | (refine zce rfl rfl aO ?_) | (refine zbs _ rfl rfl rfl ?_) | (refine zbr aA rfl rfl ?_) | (refine x_strAdd rfl rfl (by first | (show _ + 1 ≤ _; omega) | fail) ?_) | (refine zav _ rfl rfl rfl ?_)) | (refine g_un ?_; first | (refine zb7 rfl ?_) | (refine zb8 rfl aO ?_)) | (refine zbb ?_; first | (refine zab aA rfl ?_) | (refine zae _ aA rfl rfl aE rfl ?_) | (refine zac _ aA rfl aZ aL ?_) | (refine zad _ aA rfl rfl aE aZ aL ?_)) | (refine zbz ?_; first | (refine zbf _ aA rfl aL ?_) | (refine zbg _ aA rfl rfl (by simp only [lx, Nat.reduceAdd]; first | done | rfl) ?_)) | (refine za9 ?_; first | (refine zbc true (kH) rfl rfl rfl aS rfl aH ?_; simp only [cl]) | (refine za8 aA rfl ?_) | (refine za6 aA rfl rfl ?_) | (refine za5 aA rfl ?_) | (refine za7 aA (evO_ok rfl) ?_)) | (refine zbt _ _ rfl rfl rfl rfl ?_) | (refine zar (hK _ _ (.inl rfl) ?_); clear hK K) | (refine zar (hK _ _ (.inr (by kernel_rfl)) ?_); clear hK K))
      | (refine za3 ?_; first | (refine zbk ?_) | (refine zaf (fun K hK => ?_)) | (refine zap ?_) | (refine za0 ?_) | (refine zbj ?_) | (refine za1 ?_) | (refine zbe ?_; first | (refine zat rfl aD ?_) | (refine zau rfl aD ?_) | (refine zay rfl (fun h => ?_) (fun h => ?_) <;> (have h' := h; (try simp only [sx] at h')))))
      | (refine za2 ?_) | (refine zag ?_) | (refine zaj ?_) | (refine zao ?_) | (refine zam ?_) | (refine zan ?_) | (refine zaq rfl ?_) | (refine zah ?_) | (refine zai ?_) | (refine zbi ?_))
          all_goals first
            | (exfalso; omega)
            | (refine zb6 (i + 1, (w ++ ⟨#[35]⟩) ++ ⟨#[10]⟩) rfl aW ⟨by simp only; omega, by simp only [e, strB_snoc, push_app, hw]; rfl⟩ (by simp only; omega))
        · rw [if_neg h1] at e
          repeat' (first
      | (refine zaz ?_; first | (refine za4 ?_; refine zas _ rfl ?_) | (refine zak ?_; refine zaa _ rfl ?_) | (refine zbu ?_; first | (refine zb0 rfl rfl aO ?_) | (refine zch rfl rfl aO ?_) | (refine zcq rfl rfl aO ?_) | (refine zce rfl rfl aO ?_) | (refine zbs _ rfl rfl rfl ?_) | (refine zbr aA rfl rfl ?_) | (refine x_strAdd rfl rfl (by first | (show _ + 1 ≤ _; omega) | fail) ?_) | (refine zav _ rfl rfl rfl ?_)) | (refine g_un ?_; first | (refine zb7 rfl ?_) | (refine zb8 rfl aO ?_)) | (refine zbb ?_; first | (refine zab aA rfl ?_) | (refine zae _ aA rfl rfl aE rfl ?_) | (refine zac _ aA rfl aZ aL ?_) | (refine zad _ aA rfl rfl aE aZ aL ?_)) | (refine zbz ?_; first | (refine zbf _ aA rfl aL ?_) | (refine zbg _ aA rfl rfl (by simp only [lx, Nat.reduceAdd]; first | done | rfl) ?_)) | (refine za9 ?_; first | (refine zbc true (kH) rfl rfl rfl aS rfl aH ?_; simp only [cl]) | (refine za8 aA rfl ?_) | (refine za6 aA rfl rfl ?_) | (refine za5 aA rfl ?_) | (refine za7 aA (evO_ok rfl) ?_)) | (refine zbt _ _ rfl rfl rfl rfl ?_) | (refine zar (hK _ _ (.inl rfl) ?_); clear hK K) | (refine zar (hK _ _ (.inr (by kernel_rfl)) ?_); clear hK K))
      | (refine za3 ?_; first | (refine zbk ?_) | (refine zaf (fun K hK => ?_)) | (refine zap ?_) | (refine za0 ?_) | (refine zbj ?_) | (refine za1 ?_) | (refine zbe ?_; first | (refine zat rfl aD ?_) | (refine zau rfl aD ?_) | (refine zay rfl (fun h => ?_) (fun h => ?_) <;> (have h' := h; (try simp only [sx] at h')))))
      | (refine za2 ?_) | (refine zag ?_) | (refine zaj ?_) | (refine zao ?_) | (refine zam ?_) | (refine zan ?_) | (refine zaq rfl ?_) | (refine zah ?_) | (refine zai ?_) | (refine zbi ?_))
          all_goals first
            | (exfalso; omega)
            | (refine zb6 (i + 1, w ++ ⟨#[35]⟩) rfl aW ⟨by simp only; omega, by simp only [e, strB_snoc, push_app, hw]; rfl⟩ (by simp only; omega))
      · rw [decide_eq_false h2] at kH
        have eb : mkC r (i : Int) = 46 := by rw [mkC, if_neg h2]
        rw [eb] at e
        by_cases h1 : (i : Int) % t.width = t.width - 1
        · rw [if_pos h1] at e
          repeat' (first
      | (refine zaz ?_; first | (refine za4 ?_; refine zas _ rfl ?_) | (refine zak ?_; refine zaa _ rfl ?_) | (refine zbu ?_; first | (refine zb0 rfl rfl aO ?_) | (refine zch rfl rfl aO ?_) | (refine zcq rfl rfl aO ?_) | (refine zce rfl rfl aO ?_) | (refine zbs _ rfl rfl rfl ?_) | (refine zbr aA rfl rfl ?_) | (refine x_strAdd rfl rfl (by first | (show _ + 1 ≤ _; omega) | fail) ?_) | (refine zav _ rfl rfl rfl ?_)) | (refine g_un ?_; first | (refine zb7 rfl ?_) | (refine zb8 rfl aO ?_)) | (refine zbb ?_; first | (refine zab aA rfl ?_) | (refine zae _ aA rfl rfl aE rfl ?_) | (refine zac _ aA rfl aZ aL ?_) | (refine zad _ aA rfl rfl aE aZ aL ?_)) | (refine zbz ?_; first | (refine zbf _ aA rfl aL ?_) | (refine zbg _ aA rfl rfl (by simp only [lx, Nat.reduceAdd]; first | done | rfl) ?_)) | (refine za9 ?_; first | (refine zbc true (kH) rfl rfl rfl aS rfl aH ?_; simp only [cl]) | (refine za8 aA rfl ?_) | (refine za6 aA rfl rfl ?_) | (refine za5 aA rfl ?_) | (refine za7 aA (evO_ok rfl) ?_)) | (refine zbt _ _ rfl rfl rfl rfl ?_) | (refine zar (hK _ _ (.inl rfl) ?_); clear hK K) | (refine zar (hK _ _ (.inr (by kernel_rfl)) ?_); clear hK K))
      | (refine za3 ?_; first | (refine zbk ?_) | (refine zaf (fun K hK => ?_)) | (refine zap ?_) | (refine za0 ?_) | (refine zbj ?_) | (refine za1 ?_) | (refine zbe ?_; first | (refine zat rfl aD ?_) | (refine zau rfl aD ?_) | (refine zay rfl (fun h => ?_) (fun h => ?_) <;> (have h' := h; (try simp only [sx] at h')))))
      | (refine za2 ?_) | (refine zag ?_) | (refine zaj ?_) | (refine zao ?_) | (refine zam ?_) | (refine zan ?_) | (refine zaq rfl ?_) | (refine zah ?_) | (refine zai ?_) | (refine zbi ?_))
          all_goals first
            | (exfalso; omega)
            | (refine zb6 (i + 1, (w ++ ⟨#[46]⟩) ++ ⟨#[10]⟩) rfl aW ⟨by simp only; omega, by simp only [e, strB_snoc, push_app, hw]; rfl⟩ (by simp only; omega))
        · rw [if_neg h1] at e
          repeat' (first
      | (refine zaz ?_; first | (refine za4 ?_; refine zas _ rfl ?_) | (refine zak ?_; refine zaa _ rfl ?_) | (refine zbu ?_; first | (refine zb0 rfl rfl aO ?_) | (refine zch rfl rfl aO ?_) | (refine zcq rfl rfl aO ?_) | (refine zce rfl rfl aO ?_) | (refine zbs _ rfl rfl rfl ?_) | (refine zbr aA rfl rfl ?_) | (refine x_strAdd rfl rfl (by first | (show _ + 1 ≤ _; omega) | fail) ?_) | (refine zav _ rfl rfl rfl ?_)) | (refine g_un ?_; first | (refine zb7 rfl ?_) | (refine zb8 rfl aO ?_)) | (refine zbb ?_; first | (refine zab aA rfl ?_) | (refine zae _ aA rfl rfl aE rfl ?_) | (refine zac _ aA rfl aZ aL ?_) | (refine zad _ aA rfl rfl aE aZ aL ?_)) | (refine zbz ?_; first | (refine zbf _ aA rfl aL ?_) | (refine zbg _ aA rfl rfl (by simp only [lx, Nat.reduceAdd]; first | done | rfl) ?_)) | (refine za9 ?_; first | (refine zbc true (kH) rfl rfl rfl aS rfl aH ?_; simp only [cl]) | (refine za8 aA rfl ?_) | (refine za6 aA rfl rfl ?_) | (refine za5 aA rfl ?_) | (refine za7 aA (evO_ok rfl) ?_)) | (refine zbt _ _ rfl rfl rfl rfl ?_) | (refine zar (hK _ _ (.inl rfl) ?_); clear hK K) | (refine zar (hK _ _ (.inr (by kernel_rfl)) ?_); clear hK K))
      | (refine za3 ?_; first | (refine zbk ?_) | (refine zaf (fun K hK => ?_)) | (refine zap ?_) | (refine za0 ?_) | (refine zbj ?_) | (refine za1 ?_) | (refine zbe ?_; first | (refine zat rfl aD ?_) | (refine zau rfl aD ?_) | (refine zay rfl (fun h => ?_) (fun h => ?_) <;> (have h' := h; (try simp only [sx] at h')))))
      | (refine za2 ?_) | (refine zag ?_) | (refine zaj ?_) | (refine zao ?_) | (refine zam ?_) | (refine zan ?_) | (refine zaq rfl ?_) | (refine zah ?_) | (refine zai ?_) | (refine zbi ?_))
          all_goals first
            | (exfalso; omega)
            | (refine zb6 (i + 1, w ++ ⟨#[46]⟩) rfl aW ⟨by simp only; omega, by simp only [e, strB_snoc, push_app, hw]; rfl⟩ (by simp only; omega))
    · have hin : i = t.burn.length := by omega
      subst hin
      subst hw
      repeat' (first
      | (refine zaz ?_; first | (refine za4 ?_; refine zas _ rfl ?_) | (refine zak ?_; refine zaa _ rfl ?_) | (refine zbu ?_; first | (refine zb0 rfl rfl aO ?_) | (refine zch rfl rfl aO ?_) | (refine zcq rfl rfl aO ?_) | (refine zce rfl rfl aO ?_) | (refine zbs _ rfl rfl rfl ?_) | (refine zbr aA rfl rfl ?_) | (refine x_strAdd rfl rfl (by first | (show _ + 1 ≤ _; omega) | fail) ?_) | (refine zav _ rfl rfl rfl ?_)) | (refine g_un ?_; first | (refine zb7 rfl ?_) | (refine zb8 rfl aO ?_)) | (refine zbb ?_; first | (refine zab aA rfl ?_) | (refine zae _ aA rfl rfl aE rfl ?_) | (refine zac _ aA rfl aZ aL ?_) | (refine zad _ aA rfl rfl aE aZ aL ?_)) | (refine zbz ?_; first | (refine zbf _ aA rfl aL ?_) | (refine zbg _ aA rfl rfl (by simp only [lx, Nat.reduceAdd]; first | done | rfl) ?_)) | (refine za9 ?_; first | (refine za8 aA rfl ?_) | (refine za6 aA rfl rfl ?_) | (refine za5 aA rfl ?_) | (refine za7 aA (evO_ok rfl) ?_)) | (refine zbt _ _ rfl rfl rfl rfl ?_) | (refine zar (hK _ _ (.inl rfl) ?_); clear hK K) | (refine zar (hK _ _ (.inr (by kernel_rfl)) ?_); clear hK K))
      | (refine za3 ?_; first | (refine zbk ?_) | (refine zaf (fun K hK => ?_)) | (refine zap ?_) | (refine za0 ?_) | (refine zbj ?_) | (refine za1 ?_) | (refine zbe ?_; first | (refine zat rfl aD ?_) | (refine zau rfl aD ?_) | (refine zay rfl (fun h => ?_) (fun h => ?_) <;> (have h' := h; (try simp only [sx] at h')))))
      | (refine za2 ?_) | (refine zag ?_) | (refine zaj ?_) | (refine zao ?_) | (refine zam ?_) | (refine zan ?_) | (refine zaq rfl ?_) | (refine zah ?_) | (refine zai ?_) | (refine zbi ?_))
      all_goals first
        | (exfalso; omega)
        | exact aR
  · rw [decide_eq_false hok] at k1
    rw [piR, if_neg hok, decide_eq_false hok]
    repeat' (first
      | (refine zaz ?_; first | (refine za4 ?_; refine zas _ rfl ?_) | (refine zak ?_; refine zaa _ rfl ?_) | (refine zbu ?_; first | (refine zb0 rfl rfl aO ?_) | (refine zch rfl rfl aO ?_) | (refine zcq rfl rfl aO ?_) | (refine zce rfl rfl aO ?_) | (refine zbs _ rfl rfl rfl ?_) | (refine zbr aA rfl rfl ?_) | (refine x_strAdd rfl rfl (by first | (show _ + 1 ≤ _; omega) | fail) ?_) | (refine zav _ rfl rfl rfl ?_)) | (refine g_un ?_; first | (refine zb7 rfl ?_) | (refine zb8 rfl aO ?_)) | (refine zbb ?_; first | (refine zab aA rfl ?_) | (refine zae _ aA rfl rfl aE rfl ?_) | (refine zac _ aA rfl aZ aL ?_) | (refine zad _ aA rfl rfl aE aZ aL ?_)) | (refine zbz ?_; first | (refine zbf _ aA rfl aL ?_) | (refine zbg _ aA rfl rfl (by simp only [lx, Nat.reduceAdd]; first | done | rfl) ?_)) | (refine za9 ?_; first | (refine zbc true (k1) rfl rfl rfl aS rfl aH ?_; simp only [cl]) | (refine za8 aA rfl ?_) | (refine za6 aA rfl rfl ?_) | (refine za5 aA rfl ?_) | (refine za7 aA (evO_ok rfl) ?_)) | (refine zbt _ _ rfl rfl rfl rfl ?_) | (refine zar (hK _ _ (.inl rfl) ?_); clear hK K) | (refine zar (hK _ _ (.inr (by kernel_rfl)) ?_); clear hK K))
      | (refine za3 ?_; first | (refine zbk ?_) | (refine zaf (fun K hK => ?_)) | (refine zap ?_) | (refine za0 ?_) | (refine zbj ?_) | (refine za1 ?_) | (refine zbe ?_; first | (refine zat rfl aD ?_) | (refine zau rfl aD ?_) | (refine zay rfl (fun h => ?_) (fun h => ?_) <;> (have h' := h; (try simp only [sx] at h')))))
      | (refine za2 ?_) | (refine zag ?_) | (refine zaj ?_) | (refine zao ?_) | (refine zam ?_) | (refine zan ?_) | (refine zaq rfl ?_) | (refine zah ?_) | (refine zai ?_) | (refine zbi ?_))
    all_goals first
      | (exfalso; omega)
      | exact aR
end Go.Vs
set_option linter.unusedVariables false
set_option linter.unusedSimpArgs false
set_option maxRecDepth 100000
set_option maxHeartbeats 4000000
namespace Go.Vs
open Go.Proofs
attribute [local irreducible] exec vwp thenQ blkQ loopQ RetPost
theorem et_agg0 {st : St} {al : Bool} {xs ys cs ds : List PV} {u : List (Option Id)} (h : ExpL al st cs ds []) (ht : ExpT al st xs ys u) : ExpT al st (.agg cs :: xs) (.agg ds :: ys) u := ⟨[], u, h, ht, rfl⟩
structure Cu where
  bs : List Int
  pos : Int
  seed : Int
@[reducible] def bytesP (bs : List Int) : List (List PV) := bs.map fun b => [PV.int .u8 b]
theorem bytes_at {bs : List Int} {i : Nat} {b : Int} (h : bs[i]? = some b) : (bytesP bs)[i]? = some [PV.int .u8 b] := by simp [bytesP, h]
@[reducible] def Cu.pv (c : Cu) : List PV := [.list 1 (bytesP c.bs), .int .i64 c.pos, .int .u64 c.seed]
structure Cu.Ok (c : Cu) : Prop where
  byte : ∀ b ∈ c.bs, 0 ≤ b ∧ b ≤ 255
  len : c.bs.length ≤ 1099511627776
  pos : 0 ≤ c.pos ∧ c.pos ≤ 1152921504606846976
structure Aft (c c' : Cu) (k : Int) : Prop where
  bs : c'.bs = c.bs
  pos : c.pos ≤ c'.pos ∧ c'.pos ≤ c.pos + k
theorem Aft.ok {c c' : Cu} {k : Int} (h : Aft c c' k) (hc : c.Ok) (hk : c.pos + k ≤ 1152921504606846976) : c'.Ok := ⟨by rw [h.bs]; exact hc.byte, by rw [h.bs]; exact hc.len, by have := h.pos; have := hc.pos; omega⟩
theorem Aft.trans {c c' c'' : Cu} {k l : Int} (h : Aft c c' k) (g : Aft c' c'' l) : Aft c c'' (k + l) := ⟨g.bs.trans h.bs, by have := h.pos; have := g.pos; omega⟩
theorem Aft.le {c c' : Cu} {k l : Int} (h : Aft c c' k) (hl : k ≤ l) : Aft c c' l := ⟨h.bs, by have := h.pos; omega⟩
theorem Aft.refl (c : Cu) : Aft c c 0 := ⟨rfl, by omega⟩
@[reducible] def cuRow (c : Cu) : Row := ⟨79, 3, [c.pv], false⟩
@[reducible] def Dr (f : FuncId) (args : List PV) (c : Cu) (r : PV) (c' : Cu) : Prop := ContractP Try.prog f true (.own (io, 0) 0 0 :: args) [cuRow c] (fun r' fin' => r' = r ∧ fin' = [[c'.pv]])
def nxS (c : Cu) (b : Int) : Int := IntKind.u64.wrap (IntKind.u64.wrap (IntKind.u64.wrap (c.seed * 6364136223846793005) + IntKind.u64.wrap b) + 917917)
def nxX (s : Int) : Int := IntKind.i64.wrap (IntKind.u64.wrap ((BitVec.ofInt IntKind.u64.bits (s.fdiv (2 ^ min (Int.toNat 40) IntKind.u64.bits)) &&& BitVec.ofInt IntKind.u64.bits 255).toNat : Nat))
theorem wrap_u {n : Int} (h : 0 ≤ n ∧ n < 18446744073709551616) : IntKind.u64.wrap n = n := by
  simp [IntKind.wrap, IntKind.signed, IntKind.bits]
  omega
theorem nxX_bnd (s : Int) : 0 ≤ nxX s ∧ nxX s ≤ 255 := by
  unfold nxX
  have h : (BitVec.ofInt IntKind.u64.bits (s.fdiv (2 ^ min (Int.toNat 40) IntKind.u64.bits)) &&& BitVec.ofInt IntKind.u64.bits 255).toNat ≤ 255 := by
    rw [BitVec.toNat_and]
    exact Nat.le_trans Nat.and_le_right (by decide)
  generalize (BitVec.ofInt IntKind.u64.bits (s.fdiv (2 ^ min (Int.toNat 40) IntKind.u64.bits)) &&& BitVec.ofInt IntKind.u64.bits 255).toNat = m at *
  rw [wrap_u aO, wrap_in aO]
  omega
theorem k_next (c : Cu) (hc : c.Ok) (hp : c.pos + 1 ≤ 1152921504606846976) : ∃ (r : Int) (c' : Cu), Dr 157 [] c (.int .i64 r) c' ∧ Aft c c' 1 ∧ 0 ≤ r ∧ r ≤ 255 := by
  have hpos := hc.pos
  have hlen := hc.len
  have hl1 : (bytesP c.bs).length = c.bs.length := by simp
  by_cases hlt : c.pos < c.bs.length
  · obtain ⟨b, hb⟩ := get_ex (show c.pos.toNat < c.bs.length by omega)
    have hx := bytes_at hb
    have hbb := hc.byte b (get_mem hb)
    refine ⟨b, ⟨c.bs, c.pos + 1, nxS c b⟩, ?_, ⟨rfl, by simp only; omega⟩, hbb⟩
    refine zba hmix Try.func157 rfl (by kernel_rfl) (by kernel_rfl) (Nat.le_of_ble_eq_true rfl) (fun row h => by (simp only [List.mem_cons, List.not_mem_nil, or_false] at h; first | (subst h; (first | exact .inl rfl | exact .inr (fun e he u hu => by (simp only [List.mem_cons, List.not_mem_nil, or_false] at he; subst he; simp only [List.mem_cons, List.not_mem_nil, or_false] at hu; subst hu; rfl)))) | (rcases h with rfl | rfl <;> (first | exact .inl rfl | exact .inr (fun e he u hu => by (simp only [List.mem_cons, List.not_mem_nil, or_false] at he; subst he; simp only [List.mem_cons, List.not_mem_nil, or_false] at hu; subst hu; rfl)))) | (rcases h with rfl | rfl | rfl <;> (first | exact .inl rfl | exact .inr (fun e he u hu => by (simp only [List.mem_cons, List.not_mem_nil, or_false] at he; subst he; simp only [List.mem_cons, List.not_mem_nil, or_false] at hu; subst hu; rfl)))) | (rcases h with rfl | rfl | rfl | rfl <;> (first | exact .inl rfl | exact .inr (fun e he u hu => by (simp only [List.mem_cons, List.not_mem_nil, or_false] at he; subst he; simp only [List.mem_cons, List.not_mem_nil, or_false] at hu; subst hu; rfl)))))) ?_
    have hty_f79_1 := ty_f79_1
    have hty_c3 := ty_c3
    have hty_f79_0 := ty_f79_0
    have hty_c22 := ty_c22
    have hty_u22 := ty_u22
    have hty_s22 := ty_s22
    have hty_c5 := ty_c5
    have hty_u5 := ty_u5
    have hty_u3 := ty_u3
    have hty_t3 := ty_t3
    have hty_f79_2 := ty_f79_2
    have hty_c77 := ty_c77
    have hty_u77 := ty_u77
    have hty_t77 := ty_t77
    repeat' (first
      | (refine zaz ?_; first | (refine za4 ?_; refine zas _ rfl ?_) | (refine zak ?_; refine zaa _ rfl ?_) | (refine zbu ?_; first | (refine zb0 rfl rfl aO ?_) | (refine x_mul rfl rfl aO ?_) | (refine zbs _ rfl rfl rfl ?_) | (refine x_shr _ rfl rfl rfl ?_) | (refine zav _ rfl rfl rfl ?_)) | (refine zbb ?_; first | (refine zab aA rfl ?_) | (refine zae _ aA rfl rfl aE rfl ?_) | (refine zac _ aA rfl aZ aL ?_) | (refine zad _ aA rfl rfl aE aZ aL ?_)) | (refine zbz ?_; first | (refine zbf _ aA rfl aL ?_) | (refine zbg _ aA rfl rfl (by simp only [lx, Nat.reduceAdd]; first | done | rfl) ?_)) | (refine zbd ?_; first | (refine zax _ aA rfl rfl aO aA ?_) | (refine zaw _ aA rfl rfl rfl rfl aO aO (by first | (rw [Nat.zero_add, Int.toNat_natCast]) | (rw [Nat.zero_add]) | rfl) ?_)) | (refine za9 ?_; first | (refine za8 aA rfl ?_) | (refine za6 aA rfl rfl ?_) | (refine za5 aA rfl ?_) | (refine za7 aA (evO_ok rfl) ?_)) | (refine x_convert_i aA aA (evO_ok rfl) aO ?_) | (refine x_convert aA aA (evO_ok rfl) ?_) | (refine zb1 _ _ _ rfl rfl aE (by first | assumption | (exact TAgg.size aA)) rfl rfl rfl aZ rfl aL (by first | (first | (simp only [lx, Nat.reduceAdd]; first | done | rfl) | fail) | rfl) ?_) | (refine x_nil_p rfl ?_) | (refine x_nil_o rfl rfl ?_) | (refine x_nil_f rfl ?_) | (refine zar (hK _ _ (.inl rfl) ?_); clear hK K) | (refine zar (hK _ _ (.inr (by kernel_rfl)) ?_); clear hK K))
      | (refine za3 ?_; first | (refine zbk ?_) | (refine zaf (fun K hK => ?_)) | (refine zap ?_) | (refine za0 ?_) | (refine zbj ?_) | (refine za1 ?_) | (refine zbe ?_; first | (refine zat rfl aD ?_) | (refine zau rfl aD ?_) | (refine zay rfl (fun h => ?_) (fun h => ?_) <;> (have h' := h; (try simp only [sx] at h')))))
      | (refine za2 ?_) | (refine zag ?_) | (refine zaj ?_) | (refine zao ?_) | (refine zam ?_) | (refine zan ?_) | (refine zaq rfl ?_) | (refine zah ?_) | (refine zai ?_) | (refine zbi ?_))
    all_goals first
      | (exfalso; omega)
      | exact ret_iL rfl rfl ⟨⟨rfl, rfl, fun h => by cases h⟩, trivial⟩ rfl
  · refine ⟨nxX (nxS c 0), ⟨c.bs, c.pos + 1, nxS c 0⟩, ?_, ⟨rfl, by simp only; omega⟩, nxX_bnd _⟩
    refine zba hmix Try.func157 rfl (by kernel_rfl) (by kernel_rfl) (Nat.le_of_ble_eq_true rfl) (fun row h => by (simp only [List.mem_cons, List.not_mem_nil, or_false] at h; first | (subst h; (first | exact .inl rfl | exact .inr (fun e he u hu => by (simp only [List.mem_cons, List.not_mem_nil, or_false] at he; subst he; simp only [List.mem_cons, List.not_mem_nil, or_false] at hu; subst hu; rfl)))) | (rcases h with rfl | rfl <;> (first | exact .inl rfl | exact .inr (fun e he u hu => by (simp only [List.mem_cons, List.not_mem_nil, or_false] at he; subst he; simp only [List.mem_cons, List.not_mem_nil, or_false] at hu; subst hu; rfl)))) | (rcases h with rfl | rfl | rfl <;> (first | exact .inl rfl | exact .inr (fun e he u hu => by (simp only [List.mem_cons, List.not_mem_nil, or_false] at he; subst he; simp only [List.mem_cons, List.not_mem_nil, or_false] at hu; subst hu; rfl)))) | (rcases h with rfl | rfl | rfl | rfl <;> (first | exact .inl rfl | exact .inr (fun e he u hu => by (simp only [List.mem_cons, List.not_mem_nil, or_false] at he; subst he; simp only [List.mem_cons, List.not_mem_nil, or_false] at hu; subst hu; rfl)))))) ?_
    have hty_f79_1 := ty_f79_1
    have hty_c3 := ty_c3
    have hty_f79_0 := ty_f79_0
    have hty_c22 := ty_c22
    have hty_u22 := ty_u22
    have hty_s22 := ty_s22
    have hty_c5 := ty_c5
    have hty_u5 := ty_u5
    have hty_u3 := ty_u3
    have hty_t3 := ty_t3
    have hty_f79_2 := ty_f79_2
    have hty_c77 := ty_c77
    have hty_u77 := ty_u77
    have hty_t77 := ty_t77
    repeat' (first
      | (refine zaz ?_; first | (refine za4 ?_; refine zas _ rfl ?_) | (refine zak ?_; refine zaa _ rfl ?_) | (refine zbu ?_; first | (refine zb0 rfl rfl aO ?_) | (refine x_mul rfl rfl aO ?_) | (refine zbs _ rfl rfl rfl ?_) | (refine x_shr _ rfl rfl rfl ?_) | (refine zav _ rfl rfl rfl ?_)) | (refine zbb ?_; first | (refine zab aA rfl ?_) | (refine zae _ aA rfl rfl aE rfl ?_) | (refine zac _ aA rfl aZ aL ?_) | (refine zad _ aA rfl rfl aE aZ aL ?_)) | (refine zbz ?_; first | (refine zbf _ aA rfl aL ?_) | (refine zbg _ aA rfl rfl (by simp only [lx, Nat.reduceAdd]; first | done | rfl) ?_)) | (refine zbd ?_; first | (refine zax _ aA rfl rfl aO aA ?_) | (refine zaw _ aA rfl rfl rfl rfl aO aO (by first | (rw [Nat.zero_add, Int.toNat_natCast]) | (rw [Nat.zero_add]) | rfl) ?_)) | (refine za9 ?_; first | (refine za8 aA rfl ?_) | (refine za6 aA rfl rfl ?_) | (refine za5 aA rfl ?_) | (refine za7 aA (evO_ok rfl) ?_)) | (refine x_convert_i aA aA (evO_ok rfl) aO ?_) | (refine x_convert aA aA (evO_ok rfl) ?_) | (refine zb1 _ _ _ rfl rfl aE (by first | assumption | (exact TAgg.size aA)) rfl rfl rfl aZ rfl aL (by first | (first | (simp only [lx, Nat.reduceAdd]; first | done | rfl) | fail) | rfl) ?_) | (refine x_nil_p rfl ?_) | (refine x_nil_o rfl rfl ?_) | (refine x_nil_f rfl ?_) | (refine zar (hK _ _ (.inl rfl) ?_); clear hK K) | (refine zar (hK _ _ (.inr (by kernel_rfl)) ?_); clear hK K))
      | (refine za3 ?_; first | (refine zbk ?_) | (refine zaf (fun K hK => ?_)) | (refine zap ?_) | (refine za0 ?_) | (refine zbj ?_) | (refine za1 ?_) | (refine zbe ?_; first | (refine zat rfl aD ?_) | (refine zau rfl aD ?_) | (refine zay rfl (fun h => ?_) (fun h => ?_) <;> (have h' := h; (try simp only [sx] at h')))))
      | (refine za2 ?_) | (refine zag ?_) | (refine zaj ?_) | (refine zao ?_) | (refine zam ?_) | (refine zan ?_) | (refine zaq rfl ?_) | (refine zah ?_) | (refine zai ?_) | (refine zbi ?_))
    all_goals first
      | (exfalso; omega)
      | exact ret_iL rfl rfl ⟨⟨rfl, rfl, fun h => by cases h⟩, trivial⟩ rfl
theorem k_pick (c : Cu) (n : Int) (hc : c.Ok) (hp : c.pos + 2 ≤ 1152921504606846976) (hn : n ≤ 1000000000) : ∃ (r : Int) (c' : Cu), Dr 124 [.int .i64 n] c (.int .i64 r) c' ∧ Aft c c' 2 ∧ 0 ≤ r ∧ (1 ≤ n → r < n) ∧ (n ≤ 1 → r = 0) := by
  by_cases h1 : n ≤ 1
  · refine ⟨0, c, ?_, (Aft.refl c).le aO, by omega, by omega, by omega⟩
    refine zba hmix Try.func124 rfl (by kernel_rfl) (by kernel_rfl) (Nat.le_of_ble_eq_true rfl) (fun row h => by (simp only [List.mem_cons, List.not_mem_nil, or_false] at h; first | (subst h; (first | exact .inl rfl | exact .inr (fun e he u hu => by (simp only [List.mem_cons, List.not_mem_nil, or_false] at he; subst he; simp only [List.mem_cons, List.not_mem_nil, or_false] at hu; subst hu; rfl)))) | (rcases h with rfl | rfl <;> (first | exact .inl rfl | exact .inr (fun e he u hu => by (simp only [List.mem_cons, List.not_mem_nil, or_false] at he; subst he; simp only [List.mem_cons, List.not_mem_nil, or_false] at hu; subst hu; rfl)))) | (rcases h with rfl | rfl | rfl <;> (first | exact .inl rfl | exact .inr (fun e he u hu => by (simp only [List.mem_cons, List.not_mem_nil, or_false] at he; subst he; simp only [List.mem_cons, List.not_mem_nil, or_false] at hu; subst hu; rfl)))) | (rcases h with rfl | rfl | rfl | rfl <;> (first | exact .inl rfl | exact .inr (fun e he u hu => by (simp only [List.mem_cons, List.not_mem_nil, or_false] at he; subst he; simp only [List.mem_cons, List.not_mem_nil, or_false] at hu; subst hu; rfl)))))) ?_
    repeat' (first
      | (refine zaz ?_; first | (refine za4 ?_; refine zas _ rfl ?_) | (refine zak ?_; refine zaa _ rfl ?_) | (refine zbu ?_; first | (refine zb0 rfl rfl aO ?_) | (refine x_mul rfl rfl aO ?_) | (refine zcq rfl rfl aO ?_) | (refine zce rfl rfl aO ?_) | (refine zbs _ rfl rfl rfl ?_) | (refine zav _ rfl rfl rfl ?_)) | (refine zar (hK _ _ (.inl rfl) ?_); clear hK K) | (refine zar (hK _ _ (.inr (by kernel_rfl)) ?_); clear hK K))
      | (refine za3 ?_; first | (refine zbk ?_) | (refine zaf (fun K hK => ?_)) | (refine zap ?_) | (refine za0 ?_) | (refine zbj ?_) | (refine za1 ?_) | (refine zbe ?_; first | (refine zat rfl aD ?_) | (refine zau rfl aD ?_) | (refine zay rfl (fun h => ?_) (fun h => ?_) <;> (have h' := h; (try simp only [sx] at h')))))
      | (refine za2 ?_) | (refine zag ?_) | (refine zaj ?_) | (refine zao ?_) | (refine zam ?_) | (refine zan ?_) | (refine zaq rfl ?_) | (refine zah ?_) | (refine zai ?_) | (refine zbi ?_))
    all_goals first
      | (exfalso; omega)
      | exact ret_iL rfl rfl ⟨⟨rfl, rfl, fun h => by cases h⟩, trivial⟩ rfl
  · obtain ⟨r1, c1, k1, a1, b1, b2⟩ := k_next c hc aO
    by_cases h2 : n > 200
    · obtain ⟨r2, c2, k2, a2, b3, b4⟩ := k_next c1 (a1.ok hc aO) (by have := a1.pos; omega)
      refine ⟨(r1 * 256 + r2) % n, c2, ?_, (a1.trans a2).le aO, Int.emod_nonneg _ aO, fun _ => Int.emod_lt_of_pos _ aO, fun h => by omega⟩
      refine zba hmix Try.func124 rfl (by kernel_rfl) (by kernel_rfl) (Nat.le_of_ble_eq_true rfl) (fun row h => by (simp only [List.mem_cons, List.not_mem_nil, or_false] at h; first | (subst h; (first | exact .inl rfl | exact .inr (fun e he u hu => by (simp only [List.mem_cons, List.not_mem_nil, or_false] at he; subst he; simp only [List.mem_cons, List.not_mem_nil, or_false] at hu; subst hu; rfl)))) | (rcases h with rfl | rfl <;> (first | exact .inl rfl | exact .inr (fun e he u hu => by (simp only [List.mem_cons, List.not_mem_nil, or_false] at he; subst he; simp only [List.mem_cons, List.not_mem_nil, or_false] at hu; subst hu; rfl)))) | (rcases h with rfl | rfl | rfl <;> (first | exact .inl rfl | exact .inr (fun e he u hu => by (simp only [List.mem_cons, List.not_mem_nil, or_false] at he; subst he; simp only [List.mem_cons, List.not_mem_nil, or_false] at hu; subst hu; rfl)))) | (rcases h with rfl | rfl | rfl | rfl <;> (first | exact .inl rfl | exact .inr (fun e he u hu => by (simp only [List.mem_cons, List.not_mem_nil, or_false] at he; subst he; simp only [List.mem_cons, List.not_mem_nil, or_false] at hu; subst hu; rfl)))))) ?_
      repeat' (first
      | (refine zaz ?_; first | (refine za4 ?_; refine zas _ rfl ?_) | (refine zak ?_; refine zaa _ rfl ?_) | (refine zbu ?_; first | (refine zb0 rfl rfl aO ?_) | (refine x_mul rfl rfl aO ?_) | (refine zcq rfl rfl aO ?_) | (refine zce rfl rfl aO ?_) | (refine zbs _ rfl rfl rfl ?_) | (refine zav _ rfl rfl rfl ?_)) | (refine za9 ?_; first | (refine zcg [(io, 0)] (k1) rfl rfl (by (repeat' (first | exact trivial | refine ⟨⟨_, rfl, ?_⟩, ?_⟩ | exact .inl ⟨rfl, .inl rfl⟩ | exact .inr ⟨rfl, rfl, rfl, rfl, rfl, fun e he u hu => by (simp only [List.mem_cons, List.not_mem_nil, or_false] at he; subst he; simp only [List.mem_cons, List.not_mem_nil, or_false] at hu; subst hu; rfl)⟩ | exact .inl ⟨rfl, .inr (fun e he => by (simp only [List.mem_cons, List.not_mem_nil, or_false] at he; subst he; rfl))⟩ | fail)); first | done | fail) rfl rfl aS rfl aH rfl ?_; simp only [cl]) | (refine zcg [(io, 0)] (k2) rfl rfl (by (repeat' (first | exact trivial | refine ⟨⟨_, rfl, ?_⟩, ?_⟩ | exact .inl ⟨rfl, .inl rfl⟩ | exact .inr ⟨rfl, rfl, rfl, rfl, rfl, fun e he u hu => by (simp only [List.mem_cons, List.not_mem_nil, or_false] at he; subst he; simp only [List.mem_cons, List.not_mem_nil, or_false] at hu; subst hu; rfl)⟩ | exact .inl ⟨rfl, .inr (fun e he => by (simp only [List.mem_cons, List.not_mem_nil, or_false] at he; subst he; rfl))⟩ | fail)); first | done | fail) rfl rfl aS rfl aH rfl ?_; simp only [cl])) | (refine zar (hK _ _ (.inl rfl) ?_); clear hK K) | (refine zar (hK _ _ (.inr (by kernel_rfl)) ?_); clear hK K))
      | (refine za3 ?_; first | (refine zbk ?_) | (refine zaf (fun K hK => ?_)) | (refine zap ?_) | (refine za0 ?_) | (refine zbj ?_) | (refine za1 ?_) | (refine zbe ?_; first | (refine zat rfl aD ?_) | (refine zau rfl aD ?_) | (refine zay rfl (fun h => ?_) (fun h => ?_) <;> (have h' := h; (try simp only [sx] at h')))))
      | (refine za2 ?_) | (refine zag ?_) | (refine zaj ?_) | (refine zao ?_) | (refine zam ?_) | (refine zan ?_) | (refine zaq rfl ?_) | (refine zah ?_) | (refine zai ?_) | (refine zbi ?_))
      all_goals first
        | (exfalso; omega)
        | exact ret_iL rfl rfl ⟨⟨rfl, rfl, fun h => by cases h⟩, trivial⟩ rfl
    · refine ⟨r1 % n, c1, ?_, a1.le aO, Int.emod_nonneg _ aO, fun _ => Int.emod_lt_of_pos _ aO, fun h => by omega⟩
      refine zba hmix Try.func124 rfl (by kernel_rfl) (by kernel_rfl) (Nat.le_of_ble_eq_true rfl) (fun row h => by (simp only [List.mem_cons, List.not_mem_nil, or_false] at h; first | (subst h; (first | exact .inl rfl | exact .inr (fun e he u hu => by (simp only [List.mem_cons, List.not_mem_nil, or_false] at he; subst he; simp only [List.mem_cons, List.not_mem_nil, or_false] at hu; subst hu; rfl)))) | (rcases h with rfl | rfl <;> (first | exact .inl rfl | exact .inr (fun e he u hu => by (simp only [List.mem_cons, List.not_mem_nil, or_false] at he; subst he; simp only [List.mem_cons, List.not_mem_nil, or_false] at hu; subst hu; rfl)))) | (rcases h with rfl | rfl | rfl <;> (first | exact .inl rfl | exact .inr (fun e he u hu => by (simp only [List.mem_cons, List.not_mem_nil, or_false] at he; subst he; simp only [List.mem_cons, List.not_mem_nil, or_false] at hu; subst hu; rfl)))) | (rcases h with rfl | rfl | rfl | rfl <;> (first | exact .inl rfl | exact .inr (fun e he u hu => by (simp only [List.mem_cons, List.not_mem_nil, or_false] at he; subst he; simp only [List.mem_cons, List.not_mem_nil, or_false] at hu; subst hu; rfl)))))) ?_
      repeat' (first
      | (refine zaz ?_; first | (refine za4 ?_; refine zas _ rfl ?_) | (refine zak ?_; refine zaa _ rfl ?_) | (refine zbu ?_; first | (refine zb0 rfl rfl aO ?_) | (refine x_mul rfl rfl aO ?_) | (refine zcq rfl rfl aO ?_) | (refine zce rfl rfl aO ?_) | (refine zbs _ rfl rfl rfl ?_) | (refine zav _ rfl rfl rfl ?_)) | (refine za9 ?_; refine zcg [(io, 0)] (k1) rfl rfl (by (repeat' (first | exact trivial | refine ⟨⟨_, rfl, ?_⟩, ?_⟩ | exact .inl ⟨rfl, .inl rfl⟩ | exact .inr ⟨rfl, rfl, rfl, rfl, rfl, fun e he u hu => by (simp only [List.mem_cons, List.not_mem_nil, or_false] at he; subst he; simp only [List.mem_cons, List.not_mem_nil, or_false] at hu; subst hu; rfl)⟩ | exact .inl ⟨rfl, .inr (fun e he => by (simp only [List.mem_cons, List.not_mem_nil, or_false] at he; subst he; rfl))⟩ | fail)); first | done | fail) rfl rfl aS rfl aH rfl ?_; simp only [cl]) | (refine zar (hK _ _ (.inl rfl) ?_); clear hK K) | (refine zar (hK _ _ (.inr (by kernel_rfl)) ?_); clear hK K))
      | (refine za3 ?_; first | (refine zbk ?_) | (refine zaf (fun K hK => ?_)) | (refine zap ?_) | (refine za0 ?_) | (refine zbj ?_) | (refine za1 ?_) | (refine zbe ?_; first | (refine zat rfl aD ?_) | (refine zau rfl aD ?_) | (refine zay rfl (fun h => ?_) (fun h => ?_) <;> (have h' := h; (try simp only [sx] at h')))))
      | (refine za2 ?_) | (refine zag ?_) | (refine zaj ?_) | (refine zao ?_) | (refine zam ?_) | (refine zan ?_) | (refine zaq rfl ?_) | (refine zah ?_) | (refine zai ?_) | (refine zbi ?_))
      all_goals first
        | (exfalso; omega)
        | exact ret_iL rfl rfl ⟨⟨rfl, rfl, fun h => by cases h⟩, trivial⟩ rfl
theorem k_one (c : Cu) (n : Int) (hc : c.Ok) (hp : c.pos + 2 ≤ 1152921504606846976) (hn : n ≤ 1000000000) : ∃ (b : Bool) (c' : Cu), Dr 81 [.int .i64 n] c (.bool b) c' ∧ Aft c c' 2 := by
  obtain ⟨r, c1, k1, a1, b1, b2⟩ := k_pick c n hc hp hn
  refine ⟨r == 0, c1, ?_, a1⟩
  refine zba hmix Try.func81 rfl (by kernel_rfl) (by kernel_rfl) (Nat.le_of_ble_eq_true rfl) (fun row h => by (simp only [List.mem_cons, List.not_mem_nil, or_false] at h; first | (subst h; (first | exact .inl rfl | exact .inr (fun e he u hu => by (simp only [List.mem_cons, List.not_mem_nil, or_false] at he; subst he; simp only [List.mem_cons, List.not_mem_nil, or_false] at hu; subst hu; rfl)))) | (rcases h with rfl | rfl <;> (first | exact .inl rfl | exact .inr (fun e he u hu => by (simp only [List.mem_cons, List.not_mem_nil, or_false] at he; subst he; simp only [List.mem_cons, List.not_mem_nil, or_false] at hu; subst hu; rfl)))) | (rcases h with rfl | rfl | rfl <;> (first | exact .inl rfl | exact .inr (fun e he u hu => by (simp only [List.mem_cons, List.not_mem_nil, or_false] at he; subst he; simp only [List.mem_cons, List.not_mem_nil, or_false] at hu; subst hu; rfl)))) | (rcases h with rfl | rfl | rfl | rfl <;> (first | exact .inl rfl | exact .inr (fun e he u hu => by (simp only [List.mem_cons, List.not_mem_nil, or_false] at he; subst he; simp only [List.mem_cons, List.not_mem_nil, or_false] at hu; subst hu; rfl)))))) ?_
  repeat' (first
      | (refine zaz ?_; first | (refine za4 ?_; refine zas _ rfl ?_) | (refine zak ?_; refine zaa _ rfl ?_) | (refine zbu ?_; first | (refine zbs _ rfl rfl rfl ?_) | (refine zbr aA rfl rfl ?_) | (refine zav _ rfl rfl rfl ?_)) | (refine za9 ?_; refine zcg [(io, 0)] (k1) rfl rfl (by (repeat' (first | exact trivial | refine ⟨⟨_, rfl, ?_⟩, ?_⟩ | exact .inl ⟨rfl, .inl rfl⟩ | exact .inr ⟨rfl, rfl, rfl, rfl, rfl, fun e he u hu => by (simp only [List.mem_cons, List.not_mem_nil, or_false] at he; subst he; simp only [List.mem_cons, List.not_mem_nil, or_false] at hu; subst hu; rfl)⟩ | exact .inl ⟨rfl, .inr (fun e he => by (simp only [List.mem_cons, List.not_mem_nil, or_false] at he; subst he; rfl))⟩ | fail)); first | done | fail) rfl rfl aS rfl aH rfl ?_; simp only [cl]) | (refine zar (hK _ _ (.inl rfl) ?_); clear hK K) | (refine zar (hK _ _ (.inr (by kernel_rfl)) ?_); clear hK K))
      | (refine za3 ?_; first | (refine zbk ?_) | (refine zaf (fun K hK => ?_)) | (refine zap ?_) | (refine za0 ?_) | (refine zbj ?_) | (refine za1 ?_))
      | (refine za2 ?_) | (refine zag ?_) | (refine zaj ?_) | (refine zao ?_) | (refine zam ?_) | (refine zan ?_) | (refine zaq rfl ?_) | (refine zah ?_) | (refine zai ?_) | (refine zbi ?_))
  all_goals exact ret_bL rfl rfl ⟨⟨rfl, rfl, fun h => by cases h⟩, trivial⟩ rfl
theorem k_among (c : Cu) (l : List Int) (hc : c.Ok) (hp : c.pos + 2 ≤ 1152921504606846976) (hl : 1 ≤ l.length ∧ l.length ≤ 1000000) : ∃ (x : Int) (c' : Cu), Dr 125 [.list 1 (ints l)] c (.int .i64 x) c' ∧ Aft c c' 2 ∧ x ∈ l := by
  obtain ⟨r, c1, k1, a1, b1, b2, b3⟩ := k_pick c l.length hc hp aO
  have b2 := b2 aO
  obtain ⟨x, hx⟩ := get_ex (show r.toNat < l.length by omega)
  have hy := ints_at hx
  have hl1 : (ints l).length = l.length := by simp
  rw [← hl1] at k1
  refine ⟨x, c1, ?_, a1, get_mem hx⟩
  refine zba hmix Try.func125 rfl (by kernel_rfl) (by kernel_rfl) (Nat.le_of_ble_eq_true rfl) (fun row h => by (simp only [List.mem_cons, List.not_mem_nil, or_false] at h; first | (subst h; (first | exact .inl rfl | exact .inr (fun e he u hu => by (simp only [List.mem_cons, List.not_mem_nil, or_false] at he; subst he; simp only [List.mem_cons, List.not_mem_nil, or_false] at hu; subst hu; rfl)))) | (rcases h with rfl | rfl <;> (first | exact .inl rfl | exact .inr (fun e he u hu => by (simp only [List.mem_cons, List.not_mem_nil, or_false] at he; subst he; simp only [List.mem_cons, List.not_mem_nil, or_false] at hu; subst hu; rfl)))) | (rcases h with rfl | rfl | rfl <;> (first | exact .inl rfl | exact .inr (fun e he u hu => by (simp only [List.mem_cons, List.not_mem_nil, or_false] at he; subst he; simp only [List.mem_cons, List.not_mem_nil, or_false] at hu; subst hu; rfl)))) | (rcases h with rfl | rfl | rfl | rfl <;> (first | exact .inl rfl | exact .inr (fun e he u hu => by (simp only [List.mem_cons, List.not_mem_nil, or_false] at he; subst he; simp only [List.mem_cons, List.not_mem_nil, or_false] at hu; subst hu; rfl)))))) ?_
  have hty_u24 := ty_u24
  have hty_s24 := ty_s24
  have hty_c3 := ty_c3
  repeat' (first
      | (refine zaz ?_; first | (refine za4 ?_; refine zas _ rfl ?_) | (refine zak ?_; refine zaa _ rfl ?_) | (refine zbb ?_; first | (refine zab aA rfl ?_) | (refine zae _ aA rfl rfl aE rfl ?_) | (refine zac _ aA rfl aZ aL ?_) | (refine zad _ aA rfl rfl aE aZ aL ?_)) | (refine zbd ?_; first | (refine zax _ aA rfl rfl aO aA ?_) | (refine zaw _ aA rfl rfl rfl rfl aO aO (by first | (rw [Nat.zero_add, Int.toNat_natCast]) | (rw [Nat.zero_add]) | rfl) ?_)) | (refine za9 ?_; first | (refine zcg [(io, 0)] (k1) rfl rfl (by (repeat' (first | exact trivial | refine ⟨⟨_, rfl, ?_⟩, ?_⟩ | exact .inl ⟨rfl, .inl rfl⟩ | exact .inr ⟨rfl, rfl, rfl, rfl, rfl, fun e he u hu => by (simp only [List.mem_cons, List.not_mem_nil, or_false] at he; subst he; simp only [List.mem_cons, List.not_mem_nil, or_false] at hu; subst hu; rfl)⟩ | exact .inl ⟨rfl, .inr (fun e he => by (simp only [List.mem_cons, List.not_mem_nil, or_false] at he; subst he; rfl))⟩ | fail)); first | done | fail) rfl rfl aS rfl aH rfl ?_; simp only [cl]) | (refine za8 aA rfl ?_) | (refine za6 aA rfl rfl ?_) | (refine za5 aA rfl ?_) | (refine za7 aA (evO_ok rfl) ?_)) | (refine zar (hK _ _ (.inl rfl) ?_); clear hK K) | (refine zar (hK _ _ (.inr (by kernel_rfl)) ?_); clear hK K))
      | (refine za3 ?_; first | (refine zbk ?_) | (refine zaf (fun K hK => ?_)) | (refine zap ?_) | (refine za0 ?_) | (refine zbj ?_) | (refine za1 ?_))
      | (refine za2 ?_) | (refine zag ?_) | (refine zaj ?_) | (refine zao ?_) | (refine zam ?_) | (refine zan ?_) | (refine zaq rfl ?_) | (refine zah ?_) | (refine zai ?_) | (refine zbi ?_))
  all_goals first
    | (exfalso; omega)
    | exact ret_iL rfl rfl ⟨⟨rfl, rfl, fun h => by cases h⟩, trivial⟩ rfl
@[reducible] def cu0 (code : List Int) : Cu := ⟨code, 0, 0⟩
structure CodeOk (code : List Int) : Prop where
  len : code.length ≤ 1099511627776
  byte : ∀ b ∈ code, 0 ≤ b ∧ b ≤ 255
theorem cu0_ok {code : List Int} (h : CodeOk code) : (cu0 code).Ok := ⟨h.byte, h.len, by simp⟩
end Go.Vs
