/- PROVED: the given statement FnRegionParts: whatever the arguments, the law returns true and the arguments read as they did; no condition. -/
import Derived.Test.YtgpnbhnndhakhabRpe
import Derived.WalkKit
import Derived.Orders
import Derived.Laws.MakeOwn
import Derived.Laws.BytesString
import Derived.KernelRfl
import Derived.Test.YtgpnbhnndhakhabRows
import Derived.Laws.Strings
import Derived.Below
import Derived.ChangeArms
import Derived.Deep.Slices
import Derived.ProofKit
import Derived.OpenShut
import Derived.ShutString
import Derived.ChangeOld
set_option linter.unusedVariables false
set_option linter.unusedSimpArgs false
set_option maxRecDepth 100000
set_option maxHeartbeats 4000000
namespace Go.Vs
open Go.Proofs
attribute [local irreducible] exec vwp thenQ blkQ loopQ RetPost
theorem area5 {p q : Int} (hp : 0 ≤ p ∧ p ≤ 4) (hq : 0 ≤ q ∧ q ≤ 4) : 1 ≤ (1 + p) * (1 + q) ∧ (1 + p) * (1 + q) ≤ 25 := by
  have h1 : (1 + p) * (1 + q) ≤ 5 * 5 := Int.mul_le_mul aO aO aO aO
  have h2 : (1 : Int) * 1 ≤ (1 + p) * (1 + q) := Int.mul_le_mul aO aO aO aO
  omega
theorem k_terrain (c : Cu) (hc : c.Ok) (hp : c.pos + 100 ≤ 1152921504606846976) :
    ContractP Try.prog 123 true [.own (io, 0) 0 0] [cuRow c] (fun r' fin' => ∃ (t : Terrain) (c' : Cu), (r' = .agg [.int .i64 t.width, .int .i64 t.height, .olist 3 1 (ints t.burn)] ∧ fin' = [[c'.pv]]) ∧ Aft c c' 100 ∧ (1 ≤ t.width ∧ t.width ≤ 5) ∧ (1 ≤ t.height ∧ t.height ≤ 5) ∧ 1 ≤ t.burn.length ∧ t.burn.length ≤ 25) := by
  obtain ⟨r1, c1, k1, a1, g0, g1, _⟩ := k_pick c 5 hc aO aO
  have g1 := g1 aO
  have o1 := a1.ok hc aO
  have p1 := a1.pos
  obtain ⟨r2, c2, k2, a2, g2, g3, _⟩ := k_pick c1 5 o1 aO aO
  have g3 := g3 aO
  have o2 := a2.ok o1 aO
  have p2 := a2.pos
  have har := area5 (p := r1) (q := r2) aO aO
  refine zba hmix Try.func123 rfl (by kernel_rfl) (by kernel_rfl) (Nat.le_of_ble_eq_true rfl) (fun row h => by (simp only [List.mem_cons, List.not_mem_nil, or_false] at h; first | (subst h; (first | exact .inl rfl | exact .inr (fun e he u hu => by (simp only [List.mem_cons, List.not_mem_nil, or_false] at he; subst he; simp only [List.mem_cons, List.not_mem_nil, or_false] at hu; subst hu; rfl)))) | (rcases h with rfl | rfl <;> (first | exact .inl rfl | exact .inr (fun e he u hu => by (simp only [List.mem_cons, List.not_mem_nil, or_false] at he; subst he; simp only [List.mem_cons, List.not_mem_nil, or_false] at hu; subst hu; rfl)))) | (rcases h with rfl | rfl | rfl <;> (first | exact .inl rfl | exact .inr (fun e he u hu => by (simp only [List.mem_cons, List.not_mem_nil, or_false] at he; subst he; simp only [List.mem_cons, List.not_mem_nil, or_false] at hu; subst hu; rfl)))) | (rcases h with rfl | rfl | rfl | rfl <;> (first | exact .inl rfl | exact .inr (fun e he u hu => by (simp only [List.mem_cons, List.not_mem_nil, or_false] at he; subst he; simp only [List.mem_cons, List.not_mem_nil, or_false] at hu; subst hu; rfl)))))) ?_
  have hty_a26 := ty_a26
  have hty_z26 := ty_z26
  have hty_s24 := ty_s24
  have hty_st26 := ty_st26
  have hty_t26 := ty_t26
  have hty_f26_0 := ty_f26_0
  have hty_c3 := ty_c3
  have hty_f26_1 := ty_f26_1
  have hty_f26_2 := ty_f26_2
  have hty_c24 := ty_c24
  have hty_u24 := ty_u24
  have hty_t24 := ty_t24
  repeat' (first
      | (refine zaz ?_; first | (refine za4 ?_; refine zas _ rfl ?_) | (refine zak ?_; refine zaa _ rfl ?_) | (refine zbu ?_; first | (refine zb0 rfl rfl aO ?_) | (refine x_mul rfl rfl aO ?_) | (refine zbs _ rfl rfl rfl ?_) | (refine zav _ rfl rfl rfl ?_)) | (refine zbb ?_; first | (refine zab aA rfl ?_) | (refine zae _ aA rfl rfl aE rfl ?_) | (refine zac _ aA rfl aZ aL ?_) | (refine zad _ aA rfl rfl aE aZ aL ?_)) | (refine zbz ?_; first | (refine zbf _ aA rfl aL ?_) | (refine zbg _ aA rfl rfl (by simp only [lx, Nat.reduceAdd]; first | done | rfl) ?_)) | (refine za9 ?_; first | (refine zcg [(io, 0)] (k1) rfl rfl (by (repeat' (first | exact trivial | refine ⟨⟨_, rfl, ?_⟩, ?_⟩ | exact .inl ⟨rfl, .inl rfl⟩ | exact .inr ⟨rfl, rfl, rfl, rfl, rfl, fun e he u hu => by (simp only [List.mem_cons, List.not_mem_nil, or_false] at he; subst he; simp only [List.mem_cons, List.not_mem_nil, or_false] at hu; subst hu; rfl)⟩ | exact .inl ⟨rfl, .inr (fun e he => by (simp only [List.mem_cons, List.not_mem_nil, or_false] at he; subst he; rfl))⟩ | fail)); first | done | fail) rfl rfl aS rfl aH rfl ?_; simp only [cl]) | (refine zcg [(io, 0)] (k2) rfl rfl (by (repeat' (first | exact trivial | refine ⟨⟨_, rfl, ?_⟩, ?_⟩ | exact .inl ⟨rfl, .inl rfl⟩ | exact .inr ⟨rfl, rfl, rfl, rfl, rfl, fun e he u hu => by (simp only [List.mem_cons, List.not_mem_nil, or_false] at he; subst he; simp only [List.mem_cons, List.not_mem_nil, or_false] at hu; subst hu; rfl)⟩ | exact .inl ⟨rfl, .inr (fun e he => by (simp only [List.mem_cons, List.not_mem_nil, or_false] at he; subst he; rfl))⟩ | fail)); first | done | fail) rfl rfl aS rfl aH rfl ?_; simp only [cl]) | (refine zbx _ _ aA rfl (lookM (by rfl)) rfl (lookM (by rfl)) rfl aN ⟨rfl, rfl, by decide, by decide⟩ (by first | rfl | omega | (simp; done) | (simp; omega) | fail) ⟨by first | (simp only [List.length_cons, List.length_nil]; omega) | omega | fail, by decide⟩ rfl (by first | (first | (simp only [lx, Nat.reduceAdd]; first | done | rfl) | fail) | rfl) aP ?_) | (refine zbw _ _ aA rfl rfl (lookM (by rfl)) ⟨rfl, by decide⟩ aN (by first | exact Nat.succ_pos _ | omega | (simp; done)) ⟨by first | (simp only [List.length_cons, List.length_nil]; omega) | omega | fail, by decide⟩ rfl rfl aP ?_) | (refine zbv _ aA rfl rfl (lookM (by rfl)) ⟨rfl, by decide⟩ aN ⟨by first | (simp only [List.length_cons, List.length_nil]; omega) | omega | fail, by decide⟩ rfl aP ?_) | (refine zbl _ aA rfl rfl rfl ⟨rfl, rfl, rfl, by decide, by decide⟩ (by first | rfl | (simp; done) | fail) ⟨by omega, by decide⟩ rfl aL (by first | (rw [Nat.zero_add]) | rfl) ?_)) | (refine zal aA rfl rfl rfl ?_) | (refine x_buildO _ _ aA rfl rfl (by simp [buildPV, PV.cells]; first | done | rfl) ?_) | (refine zb9 _ aA rfl ?_) | (refine zb5 aA rfl ?_) | (refine zb1 _ _ _ rfl rfl aE (by first | assumption | (exact TAgg.size aA)) rfl rfl rfl aZ rfl aL (by first | (first | (simp only [lx, Nat.reduceAdd]; first | done | rfl) | fail) | rfl) ?_) | (refine zar (hK _ _ (.inl rfl) ?_); clear hK K) | (refine zar (hK _ _ (.inr (by kernel_rfl)) ?_); clear hK K))
      | (refine za3 ?_; first | (refine zbk ?_) | (refine zaf (fun K hK => ?_)) | (refine zap ?_) | (refine za0 ?_) | (refine zbj ?_) | (refine za1 ?_) | (refine zbe ?_; first | (refine zat rfl aD ?_) | (refine zau rfl aD ?_) | (refine zay rfl (fun h => ?_) (fun h => ?_) <;> (have h' := h; (try simp only [sx] at h')))))
      | (refine za2 ?_) | (refine zag ?_) | (refine zaj ?_) | (refine zao ?_) | (refine zam ?_) | (refine zan ?_) | (refine zaq rfl ?_) | (refine zah ?_) | (refine zai ?_) | (refine zbi ?_))
  all_goals try (exfalso; omega)
  refine zcd [0, 2, 3] [(io, 0), (3, 0), (1001, 0)] (fun q : Cu × List (List PV) × Nat => [(4, .int .i64 q.2.2)]) (fun q : Cu × List (List PV) × Nat => [((io, 0), some (cuRow q.1)), ((3, 0), some ⟨26, 3, [[.int .i64 (1 + r1), .int .i64 (1 + r2), .osl (1001, 0) 0 q.2.2]], true⟩), ((1001, 0), some ⟨3, 1, q.2.1, false⟩)]) (fun q : Cu × List (List PV) × Nat => Aft c2 q.1 (2 * q.2.2) ∧ (q.2.2 : Int) ≤ (1 + r1) * (1 + r2) ∧ ∃ b : List Int, q.2.1 = ints b ∧ b.length = q.2.2) (fun q : Cu × List (List PV) × Nat => ((1 + r1) * (1 + r2) - q.2.2).toNat) ((c2, [], 0)) rfl rfl (fun _ => rfl) (fun _ => rfl) rfl aW ⟨Aft.refl c2, by simp only; omega, [], rfl, rfl⟩ (fun q hq => ?_)
  obtain ⟨d, es, m⟩ := q
  obtain ⟨ad, hm, b, hes, hlen⟩ := hq
  simp only at ad hm hes hlen
  dsimp only
  have hel : es.length = m := by rw [hes, ints_len, hlen]
  have hme := hel.symm
  have od := ad.ok o2 aO
  have pd := ad.pos
  by_cases hlt : (m : Int) < (1 + r1) * (1 + r2)
  · obtain ⟨x, c3, k3, a3, _⟩ := k_among d [0, 0, 1, 1, 2, 3, 5, 9, 20] od aO (by decide)
    repeat' (first
      | (refine zaz ?_; first | (refine za4 ?_; refine zas _ rfl ?_) | (refine zak ?_; refine zaa _ rfl ?_) | (refine zbu ?_; first | (refine zb0 rfl rfl aO ?_) | (refine x_mul rfl rfl aO ?_) | (refine zbs _ rfl rfl rfl ?_) | (refine zav _ rfl rfl rfl ?_)) | (refine zbb ?_; first | (refine zab aA rfl ?_) | (refine zae _ aA rfl rfl aE rfl ?_) | (refine zac _ aA rfl aZ aL ?_) | (refine zad _ aA rfl rfl aE aZ aL ?_)) | (refine zbz ?_; first | (refine zbf _ aA rfl aL ?_) | (refine zbg _ aA rfl rfl (by simp only [lx, Nat.reduceAdd]; first | done | rfl) ?_)) | (refine za9 ?_; first | (refine zcg [(io, 0)] (k3) rfl rfl (by (repeat' (first | exact trivial | refine ⟨⟨_, rfl, ?_⟩, ?_⟩ | exact .inl ⟨rfl, .inl rfl⟩ | exact .inr ⟨rfl, rfl, rfl, rfl, rfl, fun e he u hu => by (simp only [List.mem_cons, List.not_mem_nil, or_false] at he; subst he; simp only [List.mem_cons, List.not_mem_nil, or_false] at hu; subst hu; rfl)⟩ | exact .inl ⟨rfl, .inr (fun e he => by (simp only [List.mem_cons, List.not_mem_nil, or_false] at he; subst he; rfl))⟩ | fail)); first | done | fail) rfl rfl aS rfl aH rfl ?_; simp only [cl]) | (refine zbx _ _ aA rfl (lookM (by rfl)) rfl (lookM (by rfl)) rfl aN ⟨rfl, rfl, by decide, by decide⟩ (by first | rfl | omega | (simp; done) | (simp; omega) | fail) ⟨by first | (simp only [List.length_cons, List.length_nil]; omega) | omega | fail, by decide⟩ rfl (by first | (first | (simp only [lx, Nat.reduceAdd]; first | done | rfl) | fail) | rfl) aP ?_) | (refine zbw _ _ aA rfl rfl (lookM (by rfl)) ⟨rfl, by decide⟩ aN (by first | exact Nat.succ_pos _ | omega | (simp; done)) ⟨by first | (simp only [List.length_cons, List.length_nil]; omega) | omega | fail, by decide⟩ rfl rfl aP ?_) | (refine zbv _ aA rfl rfl (lookM (by rfl)) ⟨rfl, by decide⟩ aN ⟨by first | (simp only [List.length_cons, List.length_nil]; omega) | omega | fail, by decide⟩ rfl aP ?_) | (refine zbl _ aA rfl rfl rfl ⟨rfl, rfl, rfl, by decide, by decide⟩ (by first | rfl | (simp; done) | fail) ⟨by omega, by decide⟩ rfl aL (by first | (rw [Nat.zero_add]) | rfl) ?_)) | (refine zal aA rfl rfl rfl ?_) | (refine x_buildO _ _ aA rfl rfl (by simp [buildPV, PV.cells]; first | done | rfl) ?_) | (refine zb9 _ aA rfl ?_) | (refine zb5 aA rfl ?_) | (refine zb1 _ _ _ rfl rfl aE (by first | assumption | (exact TAgg.size aA)) rfl rfl rfl aZ rfl aL (by first | (first | (simp only [lx, Nat.reduceAdd]; first | done | rfl) | fail) | rfl) ?_) | (refine zar (hK _ _ (.inl rfl) ?_); clear hK K) | (refine zar (hK _ _ (.inr (by kernel_rfl)) ?_); clear hK K))
      | (refine za3 ?_; first | (refine zbk ?_) | (refine zaf (fun K hK => ?_)) | (refine zap ?_) | (refine za0 ?_) | (refine zbj ?_) | (refine za1 ?_) | (refine zbe ?_; first | (refine zat rfl aD ?_) | (refine zau rfl aD ?_) | (refine zay rfl (fun h => ?_) (fun h => ?_) <;> (have h' := h; (try simp only [sx] at h')))))
      | (refine za2 ?_) | (refine zag ?_) | (refine zaj ?_) | (refine zao ?_) | (refine zam ?_) | (refine zan ?_) | (refine zaq rfl ?_) | (refine zah ?_) | (refine zai ?_) | (refine zbi ?_))
    all_goals try (exfalso; omega)
    all_goals (refine zb6 (c3, es ++ [[.int .i64 x]], m + 1) rfl aW ⟨(ad.trans a3).le (by simp only; omega), by simp only; omega, b ++ [x], by simp [hes], by simp [hlen]⟩ (by simp only; omega))
  · repeat' (first
      | (refine zaz ?_; first | (refine za4 ?_; refine zas _ rfl ?_) | (refine zak ?_; refine zaa _ rfl ?_) | (refine zbu ?_; first | (refine zb0 rfl rfl aO ?_) | (refine x_mul rfl rfl aO ?_) | (refine zbs _ rfl rfl rfl ?_) | (refine zav _ rfl rfl rfl ?_)) | (refine zbb ?_; first | (refine zab aA rfl ?_) | (refine zae _ aA rfl rfl aE rfl ?_) | (refine zac _ aA rfl aZ aL ?_) | (refine zad _ aA rfl rfl aE aZ aL ?_)) | (refine zbz ?_; first | (refine zbf _ aA rfl aL ?_) | (refine zbg _ aA rfl rfl (by simp only [lx, Nat.reduceAdd]; first | done | rfl) ?_)) | (refine za9 ?_; first | (refine zbx _ _ aA rfl (lookM (by rfl)) rfl (lookM (by rfl)) rfl aN ⟨rfl, rfl, by decide, by decide⟩ (by first | rfl | omega | (simp; done) | (simp; omega) | fail) ⟨by first | (simp only [List.length_cons, List.length_nil]; omega) | omega | fail, by decide⟩ rfl (by first | (first | (simp only [lx, Nat.reduceAdd]; first | done | rfl) | fail) | rfl) aP ?_) | (refine zbw _ _ aA rfl rfl (lookM (by rfl)) ⟨rfl, by decide⟩ aN (by first | exact Nat.succ_pos _ | omega | (simp; done)) ⟨by first | (simp only [List.length_cons, List.length_nil]; omega) | omega | fail, by decide⟩ rfl rfl aP ?_) | (refine zbv _ aA rfl rfl (lookM (by rfl)) ⟨rfl, by decide⟩ aN ⟨by first | (simp only [List.length_cons, List.length_nil]; omega) | omega | fail, by decide⟩ rfl aP ?_) | (refine zbl _ aA rfl rfl rfl ⟨rfl, rfl, rfl, by decide, by decide⟩ (by first | rfl | (simp; done) | fail) ⟨by omega, by decide⟩ rfl aL (by first | (rw [Nat.zero_add]) | rfl) ?_)) | (refine zal aA rfl rfl rfl ?_) | (refine x_buildO _ _ aA rfl rfl (by simp [buildPV, PV.cells]; first | done | rfl) ?_) | (refine zb9 _ aA rfl ?_) | (refine zb5 aA rfl ?_) | (refine zb1 _ _ _ rfl rfl aE (by first | assumption | (exact TAgg.size aA)) rfl rfl rfl aZ rfl aL (by first | (first | (simp only [lx, Nat.reduceAdd]; first | done | rfl) | fail) | rfl) ?_) | (refine zar (hK _ _ (.inl rfl) ?_); clear hK K) | (refine zar (hK _ _ (.inr (by kernel_rfl)) ?_); clear hK K))
      | (refine za3 ?_; first | (refine zbk ?_) | (refine zaf (fun K hK => ?_)) | (refine zap ?_) | (refine za0 ?_) | (refine zbj ?_) | (refine za1 ?_) | (refine zbe ?_; first | (refine zat rfl aD ?_) | (refine zau rfl aD ?_) | (refine zay rfl (fun h => ?_) (fun h => ?_) <;> (have h' := h; (try simp only [sx] at h')))))
      | (refine za2 ?_) | (refine zag ?_) | (refine zaj ?_) | (refine zao ?_) | (refine zam ?_) | (refine zan ?_) | (refine zaq rfl ?_) | (refine zah ?_) | (refine zai ?_) | (refine zbi ?_))
    all_goals first
      | (exfalso; omega)
      | (refine RetPost.mono (fun r fin h => ⟨⟨1 + r1, 1 + r2, b⟩, d, h, ((a1.trans a2).trans ad).le aO, by simp only; omega, by simp only; omega, by simp only; omega, by simp only; omega⟩) ?_
         ((first | refine ret_TL rfl rfl rfl (by first | exact trivial | (repeat' (first | exact trivial | refine ⟨by assumption, ?_⟩))) (by repeat' (first | exact trivial | refine ⟨by simp, ?_⟩)) (by first | exact trivial | exact ⟨⟨rfl, rfl, fun h => by cases h⟩, trivial⟩) ?_ | refine ret_AL rfl rfl rfl (by first | exact trivial | (repeat' (first | exact trivial | refine ⟨by assumption, ?_⟩))) (by repeat' (first | exact trivial | refine ⟨by simp, ?_⟩)) (by first | exact trivial | exact ⟨⟨rfl, rfl, fun h => by cases h⟩, trivial⟩) ?_); (repeat' (first | exact et_end | exact el_end | refine et_int rfl ?_ ?_ | refine et_bool ?_ ?_ | refine et_str ?_ ?_ | refine et_lst rfl rfl ?_ ?_ | refine zcp rfl (by rfl) (by decide) rfl rfl ?_ ?_ ?_ | refine et_nil ?_ ?_ | refine et_agg0 ?_ ?_ | refine et_agg ?_ ?_ | refine el_int rfl ?_ ?_ | refine el_bool ?_ ?_ | refine el_str ?_ ?_ | refine el_lst rfl rfl ?_ ?_ | refine zco rfl (by rfl) (by decide) rfl rfl ?_ ?_ ?_ | refine el_nil ?_ ?_)) <;> (first | rfl | assumption | (simp; done) | omega)))
def TrSz (t : Terrain) : Prop := (0 ≤ t.width ∧ t.width ≤ 6) ∧ (0 ≤ t.height ∧ t.height ≤ 6) ∧ 1 ≤ t.burn.length ∧ t.burn.length ≤ 26
theorem k_anyTerrain (c : Cu) (hc : c.Ok) (hp : c.pos + 200 ≤ 1152921504606846976) :
    ContractP Try.prog 76 true [.own (io, 0) 0 0] [cuRow c] (fun r' fin' => ∃ (t : Terrain) (c' : Cu), (r' = .agg [.int .i64 t.width, .int .i64 t.height, .olist 3 1 (ints t.burn)] ∧ fin' = [[c'.pv]]) ∧ Aft c c' 200 ∧ TrSz t) := by
  refine zba hmix Try.func76 rfl (by kernel_rfl) (by kernel_rfl) (Nat.le_of_ble_eq_true rfl) (fun row h => by (simp only [List.mem_cons, List.not_mem_nil, or_false] at h; first | (subst h; (first | exact .inl rfl | exact .inr (fun e he u hu => by (simp only [List.mem_cons, List.not_mem_nil, or_false] at he; subst he; simp only [List.mem_cons, List.not_mem_nil, or_false] at hu; subst hu; rfl)))) | (rcases h with rfl | rfl <;> (first | exact .inl rfl | exact .inr (fun e he u hu => by (simp only [List.mem_cons, List.not_mem_nil, or_false] at he; subst he; simp only [List.mem_cons, List.not_mem_nil, or_false] at hu; subst hu; rfl)))) | (rcases h with rfl | rfl | rfl <;> (first | exact .inl rfl | exact .inr (fun e he u hu => by (simp only [List.mem_cons, List.not_mem_nil, or_false] at he; subst he; simp only [List.mem_cons, List.not_mem_nil, or_false] at hu; subst hu; rfl)))) | (rcases h with rfl | rfl | rfl | rfl <;> (first | exact .inl rfl | exact .inr (fun e he u hu => by (simp only [List.mem_cons, List.not_mem_nil, or_false] at he; subst he; simp only [List.mem_cons, List.not_mem_nil, or_false] at hu; subst hu; rfl)))))) ?_
  have hty_a26 := ty_a26
  have hty_z26 := ty_z26
  have hty_t26 := ty_t26
  have hty_f26_0 := ty_f26_0
  have hty_c3 := ty_c3
  have hty_s24 := ty_s24
  have hty_u24 := ty_u24
  have hty_t3 := ty_t3
  have hty_f26_1 := ty_f26_1
  have hty_f26_2 := ty_f26_2
  have hty_c24 := ty_c24
  have hty_t24 := ty_t24
  repeat' (first
      | (refine zaz ?_; first | (refine za4 ?_; refine zas _ rfl ?_) | (refine zak ?_; refine zaa _ rfl ?_) | (refine zbu ?_; first | (refine zb0 rfl rfl aO ?_) | (refine zbs _ rfl rfl rfl ?_) | (refine zbr aA rfl rfl ?_) | (refine zav _ rfl rfl rfl ?_)) | (refine zbb ?_; first | (refine zab aA rfl ?_) | (refine zae _ aA rfl rfl aE rfl ?_) | (refine zac _ aA rfl aZ aL ?_) | (refine zad _ aA rfl rfl aE aZ aL ?_)) | (refine zbz ?_; first | (refine zbf _ aA rfl aL ?_) | (refine zbg _ aA rfl rfl (by simp only [lx, Nat.reduceAdd]; first | done | rfl) ?_)) | (refine zbd ?_; first | (refine zax _ aA rfl rfl aO aA ?_) | (refine zaw _ aA rfl rfl rfl rfl aO aO (by first | (rw [Nat.zero_add, Int.toNat_natCast]) | (rw [Nat.zero_add]) | rfl) ?_)) | (refine za9 ?_; first | (refine x_callLP [(io, 0)] (k_terrain c hc aO) rfl rfl (by (repeat' (first | exact trivial | refine ⟨⟨_, rfl, ?_⟩, ?_⟩ | exact .inl ⟨rfl, .inl rfl⟩ | exact .inr ⟨rfl, rfl, rfl, rfl, rfl, fun e he u hu => by (simp only [List.mem_cons, List.not_mem_nil, or_false] at he; subst he; simp only [List.mem_cons, List.not_mem_nil, or_false] at hu; subst hu; rfl)⟩ | exact .inl ⟨rfl, .inr (fun e he => by (simp only [List.mem_cons, List.not_mem_nil, or_false] at he; subst he; rfl))⟩ | fail)); first | done | fail) rfl rfl aS rfl (fun r_ fin_ hP_ => ?_); obtain ⟨t, c1, ⟨rfl, rfl⟩, a1, hw, hh, hl1, hl2⟩ := hP_; refine ⟨_, _, _, aH, rfl, ?_⟩; simp only [cl]) | (refine za8 aA rfl ?_) | (refine za6 aA rfl rfl ?_) | (refine za5 aA rfl ?_) | (refine za7 aA (evO_ok rfl) ?_) | (refine zbx _ _ aA rfl (lookM (by rfl)) rfl (lookM (by rfl)) rfl aN ⟨rfl, rfl, by decide, by decide⟩ (by first | rfl | omega | (simp; done) | (simp; omega) | fail) ⟨by first | (simp only [List.length_cons, List.length_nil]; omega) | omega | fail, by decide⟩ rfl (by first | (first | (simp only [lx, Nat.reduceAdd]; first | done | rfl) | fail) | rfl) aP ?_) | (refine zbw _ _ aA rfl rfl (lookM (by rfl)) ⟨rfl, by decide⟩ aN (by first | exact Nat.succ_pos _ | omega | (simp; done)) ⟨by first | (simp only [List.length_cons, List.length_nil]; omega) | omega | fail, by decide⟩ rfl rfl aP ?_) | (refine zbv _ aA rfl rfl (lookM (by rfl)) ⟨rfl, by decide⟩ aN ⟨by first | (simp only [List.length_cons, List.length_nil]; omega) | omega | fail, by decide⟩ rfl aP ?_) | (refine zbl _ aA rfl rfl rfl ⟨rfl, rfl, rfl, by decide, by decide⟩ (by first | rfl | (simp; done) | fail) ⟨by omega, by decide⟩ rfl aL (by first | (rw [Nat.zero_add]) | rfl) ?_)) | (refine zal aA rfl rfl rfl ?_) | (refine zb9 _ aA rfl ?_) | (refine zb5 aA rfl ?_) | (refine zb1 _ _ _ rfl rfl aE (by first | assumption | (exact TAgg.size aA)) rfl rfl rfl aZ rfl aL (by first | (first | (simp only [lx, Nat.reduceAdd]; first | done | rfl) | fail) | rfl) ?_) | (refine zar (hK _ _ (.inl rfl) ?_); clear hK K) | (refine zar (hK _ _ (.inr (by kernel_rfl)) ?_); clear hK K))
      | (refine za3 ?_; first | (refine zbk ?_) | (refine zaf (fun K hK => ?_)) | (refine zap ?_) | (refine za0 ?_) | (refine zbj ?_) | (refine za1 ?_) | (refine zbe ?_; first | (refine zat rfl aD ?_) | (refine zau rfl aD ?_) | (refine zay rfl (fun h => ?_) (fun h => ?_) <;> (have h' := h; (try simp only [sx] at h')))))
      | (refine za2 ?_) | (refine zag ?_) | (refine zaj ?_) | (refine zao ?_) | (refine zam ?_) | (refine zan ?_) | (refine zaq rfl ?_) | (refine zah ?_) | (refine zai ?_) | (refine zbi ?_))
  have o1 := a1.ok hc aO
  have p1 := a1.pos
  obtain ⟨r, c2, k2, a2, g0, g1, _⟩ := k_pick c1 32 o1 aO aO
  have o2 := a2.ok o1 aO
  have p2 := a2.pos
  have aft2 := a1.trans a2
  have hil : (ints t.burn).length = t.burn.length := by simp
  by_cases e0 : r = 0
  · obtain ⟨x, c3, k3, a3, hx⟩ := k_among c2 [0, 6, t.width + 1] o2 aO (by simp)
    have hx6 : 0 ≤ x ∧ x ≤ 6 := by simp at hx; omega
    repeat' (first
      | (refine zaz ?_; first | (refine za4 ?_; refine zas _ rfl ?_) | (refine zak ?_; refine zaa _ rfl ?_) | (refine zbu ?_; first | (refine zb0 rfl rfl aO ?_) | (refine zbs _ rfl rfl rfl ?_) | (refine zbr aA rfl rfl ?_) | (refine zav _ rfl rfl rfl ?_)) | (refine zbb ?_; first | (refine zab aA rfl ?_) | (refine zae _ aA rfl rfl aE rfl ?_) | (refine zac _ aA rfl aZ aL ?_) | (refine zad _ aA rfl rfl aE aZ aL ?_)) | (refine zbz ?_; first | (refine zbf _ aA rfl aL ?_) | (refine zbg _ aA rfl rfl (by simp only [lx, Nat.reduceAdd]; first | done | rfl) ?_)) | (refine zbd ?_; first | (refine zax _ aA rfl rfl aO aA ?_) | (refine zaw _ aA rfl rfl rfl rfl aO aO (by first | (rw [Nat.zero_add, Int.toNat_natCast]) | (rw [Nat.zero_add]) | rfl) ?_)) | (refine za9 ?_; first | (refine zcg [(io, 0)] (k2) rfl rfl (by (repeat' (first | exact trivial | refine ⟨⟨_, rfl, ?_⟩, ?_⟩ | exact .inl ⟨rfl, .inl rfl⟩ | exact .inr ⟨rfl, rfl, rfl, rfl, rfl, fun e he u hu => by (simp only [List.mem_cons, List.not_mem_nil, or_false] at he; subst he; simp only [List.mem_cons, List.not_mem_nil, or_false] at hu; subst hu; rfl)⟩ | exact .inl ⟨rfl, .inr (fun e he => by (simp only [List.mem_cons, List.not_mem_nil, or_false] at he; subst he; rfl))⟩ | fail)); first | done | fail) rfl rfl aS rfl aH rfl ?_; simp only [cl]) | (refine zcg [(io, 0)] (k3) rfl rfl (by (repeat' (first | exact trivial | refine ⟨⟨_, rfl, ?_⟩, ?_⟩ | exact .inl ⟨rfl, .inl rfl⟩ | exact .inr ⟨rfl, rfl, rfl, rfl, rfl, fun e he u hu => by (simp only [List.mem_cons, List.not_mem_nil, or_false] at he; subst he; simp only [List.mem_cons, List.not_mem_nil, or_false] at hu; subst hu; rfl)⟩ | exact .inl ⟨rfl, .inr (fun e he => by (simp only [List.mem_cons, List.not_mem_nil, or_false] at he; subst he; rfl))⟩ | fail)); first | done | fail) rfl rfl aS rfl aH rfl ?_; simp only [cl]) | (refine za8 aA rfl ?_) | (refine za6 aA rfl rfl ?_) | (refine za5 aA rfl ?_) | (refine za7 aA (evO_ok rfl) ?_) | (refine zbx _ _ aA rfl (lookM (by rfl)) rfl (lookM (by rfl)) rfl aN ⟨rfl, rfl, by decide, by decide⟩ (by first | rfl | omega | (simp; done) | (simp; omega) | fail) ⟨by first | (simp only [List.length_cons, List.length_nil]; omega) | omega | fail, by decide⟩ rfl (by first | (first | (simp only [lx, Nat.reduceAdd]; first | done | rfl) | fail) | rfl) aP ?_) | (refine zbw _ _ aA rfl rfl (lookM (by rfl)) ⟨rfl, by decide⟩ aN (by first | exact Nat.succ_pos _ | omega | (simp; done)) ⟨by first | (simp only [List.length_cons, List.length_nil]; omega) | omega | fail, by decide⟩ rfl rfl aP ?_) | (refine zbv _ aA rfl rfl (lookM (by rfl)) ⟨rfl, by decide⟩ aN ⟨by first | (simp only [List.length_cons, List.length_nil]; omega) | omega | fail, by decide⟩ rfl aP ?_) | (refine zbl _ aA rfl rfl rfl ⟨rfl, rfl, rfl, by decide, by decide⟩ (by first | rfl | (simp; done) | fail) ⟨by omega, by decide⟩ rfl aL (by first | (rw [Nat.zero_add]) | rfl) ?_)) | (refine zal aA rfl rfl rfl ?_) | (refine zb9 _ aA rfl ?_) | (refine zb5 aA rfl ?_) | (refine zb1 _ _ _ rfl rfl aE (by first | assumption | (exact TAgg.size aA)) rfl rfl rfl aZ rfl aL (by first | (first | (simp only [lx, Nat.reduceAdd]; first | done | rfl) | fail) | rfl) ?_) | (refine zar (hK _ _ (.inl rfl) ?_); clear hK K) | (refine zar (hK _ _ (.inr (by kernel_rfl)) ?_); clear hK K))
      | (refine za3 ?_; first | (refine zbk ?_) | (refine zaf (fun K hK => ?_)) | (refine zap ?_) | (refine za0 ?_) | (refine zbj ?_) | (refine za1 ?_) | (refine zbe ?_; first | (refine zat rfl aD ?_) | (refine zau rfl aD ?_) | (refine zay rfl (fun h => ?_) (fun h => ?_) <;> (have h' := h; (try simp only [sx] at h')))))
      | (refine za2 ?_) | (refine zag ?_) | (refine zaj ?_) | (refine zao ?_) | (refine zam ?_) | (refine zan ?_) | (refine zaq rfl ?_) | (refine zah ?_) | (refine zai ?_) | (refine zbi ?_))
    all_goals first
      | (exfalso; omega)
      | (refine RetPost.mono (fun r fin h => ⟨⟨x, t.height, t.burn⟩, c3, h, (aft2.trans a3).le aO, hx6, by simp only; omega, hl1, by simp only; omega⟩) ?_
         ((first | refine ret_TL rfl rfl rfl (by first | exact trivial | (repeat' (first | exact trivial | refine ⟨by assumption, ?_⟩))) (by repeat' (first | exact trivial | refine ⟨by simp, ?_⟩)) (by first | exact trivial | exact ⟨⟨rfl, rfl, fun h => by cases h⟩, trivial⟩) ?_ | refine ret_AL rfl rfl rfl (by first | exact trivial | (repeat' (first | exact trivial | refine ⟨by assumption, ?_⟩))) (by repeat' (first | exact trivial | refine ⟨by simp, ?_⟩)) (by first | exact trivial | exact ⟨⟨rfl, rfl, fun h => by cases h⟩, trivial⟩) ?_); (repeat' (first | exact et_end | exact el_end | refine et_int rfl ?_ ?_ | refine et_bool ?_ ?_ | refine et_str ?_ ?_ | refine et_lst rfl rfl ?_ ?_ | refine zcp rfl (by rfl) (by decide) rfl rfl ?_ ?_ ?_ | refine et_nil ?_ ?_ | refine et_agg0 ?_ ?_ | refine et_agg ?_ ?_ | refine el_int rfl ?_ ?_ | refine el_bool ?_ ?_ | refine el_str ?_ ?_ | refine el_lst rfl rfl ?_ ?_ | refine zco rfl (by rfl) (by decide) rfl rfl ?_ ?_ ?_ | refine el_nil ?_ ?_)) <;> (first | rfl | assumption | (simp; done) | omega)))
  · by_cases e1 : r = 1
    · obtain ⟨x, c3, k3, a3, hx⟩ := k_among c2 [0, 6, t.height + 1] o2 aO (by simp)
      have hx6 : 0 ≤ x ∧ x ≤ 6 := by simp at hx; omega
      repeat' (first
      | (refine zaz ?_; first | (refine za4 ?_; refine zas _ rfl ?_) | (refine zak ?_; refine zaa _ rfl ?_) | (refine zbu ?_; first | (refine zb0 rfl rfl aO ?_) | (refine zbs _ rfl rfl rfl ?_) | (refine zbr aA rfl rfl ?_) | (refine zav _ rfl rfl rfl ?_)) | (refine zbb ?_; first | (refine zab aA rfl ?_) | (refine zae _ aA rfl rfl aE rfl ?_) | (refine zac _ aA rfl aZ aL ?_) | (refine zad _ aA rfl rfl aE aZ aL ?_)) | (refine zbz ?_; first | (refine zbf _ aA rfl aL ?_) | (refine zbg _ aA rfl rfl (by simp only [lx, Nat.reduceAdd]; first | done | rfl) ?_)) | (refine zbd ?_; first | (refine zax _ aA rfl rfl aO aA ?_) | (refine zaw _ aA rfl rfl rfl rfl aO aO (by first | (rw [Nat.zero_add, Int.toNat_natCast]) | (rw [Nat.zero_add]) | rfl) ?_)) | (refine za9 ?_; first | (refine zcg [(io, 0)] (k2) rfl rfl (by (repeat' (first | exact trivial | refine ⟨⟨_, rfl, ?_⟩, ?_⟩ | exact .inl ⟨rfl, .inl rfl⟩ | exact .inr ⟨rfl, rfl, rfl, rfl, rfl, fun e he u hu => by (simp only [List.mem_cons, List.not_mem_nil, or_false] at he; subst he; simp only [List.mem_cons, List.not_mem_nil, or_false] at hu; subst hu; rfl)⟩ | exact .inl ⟨rfl, .inr (fun e he => by (simp only [List.mem_cons, List.not_mem_nil, or_false] at he; subst he; rfl))⟩ | fail)); first | done | fail) rfl rfl aS rfl aH rfl ?_; simp only [cl]) | (refine zcg [(io, 0)] (k3) rfl rfl (by (repeat' (first | exact trivial | refine ⟨⟨_, rfl, ?_⟩, ?_⟩ | exact .inl ⟨rfl, .inl rfl⟩ | exact .inr ⟨rfl, rfl, rfl, rfl, rfl, fun e he u hu => by (simp only [List.mem_cons, List.not_mem_nil, or_false] at he; subst he; simp only [List.mem_cons, List.not_mem_nil, or_false] at hu; subst hu; rfl)⟩ | exact .inl ⟨rfl, .inr (fun e he => by (simp only [List.mem_cons, List.not_mem_nil, or_false] at he; subst he; rfl))⟩ | fail)); first | done | fail) rfl rfl aS rfl aH rfl ?_; simp only [cl]) | (refine za8 aA rfl ?_) | (refine za6 aA rfl rfl ?_) | (refine za5 aA rfl ?_) | (refine za7 aA (evO_ok rfl) ?_) | (refine zbx _ _ aA rfl (lookM (by rfl)) rfl (lookM (by rfl)) rfl aN ⟨rfl, rfl, by decide, by decide⟩ (by first | rfl | omega | (simp; done) | (simp; omega) | fail) ⟨by first | (simp only [List.length_cons, List.length_nil]; omega) | omega | fail, by decide⟩ rfl (by first | (first | (simp only [lx, Nat.reduceAdd]; first | done | rfl) | fail) | rfl) aP ?_) | (refine zbw _ _ aA rfl rfl (lookM (by rfl)) ⟨rfl, by decide⟩ aN (by first | exact Nat.succ_pos _ | omega | (simp; done)) ⟨by first | (simp only [List.length_cons, List.length_nil]; omega) | omega | fail, by decide⟩ rfl rfl aP ?_) | (refine zbv _ aA rfl rfl (lookM (by rfl)) ⟨rfl, by decide⟩ aN ⟨by first | (simp only [List.length_cons, List.length_nil]; omega) | omega | fail, by decide⟩ rfl aP ?_) | (refine zbl _ aA rfl rfl rfl ⟨rfl, rfl, rfl, by decide, by decide⟩ (by first | rfl | (simp; done) | fail) ⟨by omega, by decide⟩ rfl aL (by first | (rw [Nat.zero_add]) | rfl) ?_)) | (refine zal aA rfl rfl rfl ?_) | (refine zb9 _ aA rfl ?_) | (refine zb5 aA rfl ?_) | (refine zb1 _ _ _ rfl rfl aE (by first | assumption | (exact TAgg.size aA)) rfl rfl rfl aZ rfl aL (by first | (first | (simp only [lx, Nat.reduceAdd]; first | done | rfl) | fail) | rfl) ?_) | (refine zar (hK _ _ (.inl rfl) ?_); clear hK K) | (refine zar (hK _ _ (.inr (by kernel_rfl)) ?_); clear hK K))
      | (refine za3 ?_; first | (refine zbk ?_) | (refine zaf (fun K hK => ?_)) | (refine zap ?_) | (refine za0 ?_) | (refine zbj ?_) | (refine za1 ?_) | (refine zbe ?_; first | (refine zat rfl aD ?_) | (refine zau rfl aD ?_) | (refine zay rfl (fun h => ?_) (fun h => ?_) <;> (have h' := h; (try simp only [sx] at h')))))
      | (refine za2 ?_) | (refine zag ?_) | (refine zaj ?_) | (refine zao ?_) | (refine zam ?_) | (refine zan ?_) | (refine zaq rfl ?_) | (refine zah ?_) | (refine zai ?_) | (refine zbi ?_))
      all_goals first
        | (exfalso; omega)
        | (refine RetPost.mono (fun r fin h => ⟨⟨t.width, x, t.burn⟩, c3, h, (aft2.trans a3).le aO, by simp only; omega, hx6, hl1, by simp only; omega⟩) ?_
           ((first | refine ret_TL rfl rfl rfl (by first | exact trivial | (repeat' (first | exact trivial | refine ⟨by assumption, ?_⟩))) (by repeat' (first | exact trivial | refine ⟨by simp, ?_⟩)) (by first | exact trivial | exact ⟨⟨rfl, rfl, fun h => by cases h⟩, trivial⟩) ?_ | refine ret_AL rfl rfl rfl (by first | exact trivial | (repeat' (first | exact trivial | refine ⟨by assumption, ?_⟩))) (by repeat' (first | exact trivial | refine ⟨by simp, ?_⟩)) (by first | exact trivial | exact ⟨⟨rfl, rfl, fun h => by cases h⟩, trivial⟩) ?_); (repeat' (first | exact et_end | exact el_end | refine et_int rfl ?_ ?_ | refine et_bool ?_ ?_ | refine et_str ?_ ?_ | refine et_lst rfl rfl ?_ ?_ | refine zcp rfl (by rfl) (by decide) rfl rfl ?_ ?_ ?_ | refine et_nil ?_ ?_ | refine et_agg0 ?_ ?_ | refine et_agg ?_ ?_ | refine el_int rfl ?_ ?_ | refine el_bool ?_ ?_ | refine el_str ?_ ?_ | refine el_lst rfl rfl ?_ ?_ | refine zco rfl (by rfl) (by decide) rfl rfl ?_ ?_ ?_ | refine el_nil ?_ ?_)) <;> (first | rfl | assumption | (simp; done) | omega)))
    · by_cases e2 : r = 2
      · obtain ⟨k, c3, k3, a3, g2, g3, _⟩ := k_pick c2 t.burn.length o2 aO aO
        have g3 := g3 aO
        have o3 := a3.ok o2 aO
        have p3 := a3.pos
        obtain ⟨x, c4, k4, a4, _⟩ := k_among c3 [-1, 20, 21] o3 aO (by decide)
        obtain ⟨y, hy⟩ := get_ex (show k.toNat < t.burn.length by omega)
        have hy2 := ints_at hy
        have e := ints_set t.burn k.toNat x
        rw [← hil] at k3
        repeat' (first
      | (refine zaz ?_; first | (refine za4 ?_; refine zas _ rfl ?_) | (refine zak ?_; refine zaa _ rfl ?_) | (refine zbu ?_; first | (refine zb0 rfl rfl aO ?_) | (refine zbs _ rfl rfl rfl ?_) | (refine zbr aA rfl rfl ?_) | (refine zav _ rfl rfl rfl ?_)) | (refine zbb ?_; first | (refine zab aA rfl ?_) | (refine zae _ aA rfl rfl aE rfl ?_) | (refine zac _ aA rfl aZ aL ?_) | (refine zad _ aA rfl rfl aE aZ aL ?_)) | (refine zbz ?_; first | (refine zbf _ aA rfl aL ?_) | (refine zbg _ aA rfl rfl (by simp only [lx, Nat.reduceAdd]; first | done | rfl) ?_)) | (refine zbd ?_; first | (refine zax _ aA rfl rfl aO aA ?_) | (refine zaw _ aA rfl rfl rfl rfl aO aO (by first | (rw [Nat.zero_add, Int.toNat_natCast]) | (rw [Nat.zero_add]) | rfl) ?_)) | (refine za9 ?_; first | (refine zcg [(io, 0)] (k2) rfl rfl (by (repeat' (first | exact trivial | refine ⟨⟨_, rfl, ?_⟩, ?_⟩ | exact .inl ⟨rfl, .inl rfl⟩ | exact .inr ⟨rfl, rfl, rfl, rfl, rfl, fun e he u hu => by (simp only [List.mem_cons, List.not_mem_nil, or_false] at he; subst he; simp only [List.mem_cons, List.not_mem_nil, or_false] at hu; subst hu; rfl)⟩ | exact .inl ⟨rfl, .inr (fun e he => by (simp only [List.mem_cons, List.not_mem_nil, or_false] at he; subst he; rfl))⟩ | fail)); first | done | fail) rfl rfl aS rfl aH rfl ?_; simp only [cl]) | (refine zcg [(io, 0)] (k3) rfl rfl (by (repeat' (first | exact trivial | refine ⟨⟨_, rfl, ?_⟩, ?_⟩ | exact .inl ⟨rfl, .inl rfl⟩ | exact .inr ⟨rfl, rfl, rfl, rfl, rfl, fun e he u hu => by (simp only [List.mem_cons, List.not_mem_nil, or_false] at he; subst he; simp only [List.mem_cons, List.not_mem_nil, or_false] at hu; subst hu; rfl)⟩ | exact .inl ⟨rfl, .inr (fun e he => by (simp only [List.mem_cons, List.not_mem_nil, or_false] at he; subst he; rfl))⟩ | fail)); first | done | fail) rfl rfl aS rfl aH rfl ?_; simp only [cl]) | (refine zcg [(io, 0)] (k4) rfl rfl (by (repeat' (first | exact trivial | refine ⟨⟨_, rfl, ?_⟩, ?_⟩ | exact .inl ⟨rfl, .inl rfl⟩ | exact .inr ⟨rfl, rfl, rfl, rfl, rfl, fun e he u hu => by (simp only [List.mem_cons, List.not_mem_nil, or_false] at he; subst he; simp only [List.mem_cons, List.not_mem_nil, or_false] at hu; subst hu; rfl)⟩ | exact .inl ⟨rfl, .inr (fun e he => by (simp only [List.mem_cons, List.not_mem_nil, or_false] at he; subst he; rfl))⟩ | fail)); first | done | fail) rfl rfl aS rfl aH rfl ?_; simp only [cl]) | (refine za8 aA rfl ?_) | (refine za6 aA rfl rfl ?_) | (refine za5 aA rfl ?_) | (refine za7 aA (evO_ok rfl) ?_) | (refine zbx _ _ aA rfl (lookM (by rfl)) rfl (lookM (by rfl)) rfl aN ⟨rfl, rfl, by decide, by decide⟩ (by first | rfl | omega | (simp; done) | (simp; omega) | fail) ⟨by first | (simp only [List.length_cons, List.length_nil]; omega) | omega | fail, by decide⟩ rfl (by first | (first | (simp only [lx, Nat.reduceAdd]; first | done | rfl) | fail) | rfl) aP ?_) | (refine zbw _ _ aA rfl rfl (lookM (by rfl)) ⟨rfl, by decide⟩ aN (by first | exact Nat.succ_pos _ | omega | (simp; done)) ⟨by first | (simp only [List.length_cons, List.length_nil]; omega) | omega | fail, by decide⟩ rfl rfl aP ?_) | (refine zbv _ aA rfl rfl (lookM (by rfl)) ⟨rfl, by decide⟩ aN ⟨by first | (simp only [List.length_cons, List.length_nil]; omega) | omega | fail, by decide⟩ rfl aP ?_) | (refine zbl _ aA rfl rfl rfl ⟨rfl, rfl, rfl, by decide, by decide⟩ (by first | rfl | (simp; done) | fail) ⟨by omega, by decide⟩ rfl aL (by first | (rw [Nat.zero_add]) | rfl) ?_)) | (refine zal aA rfl rfl rfl ?_) | (refine zb9 _ aA rfl ?_) | (refine zb5 aA rfl ?_) | (refine zb1 _ _ _ rfl rfl aE (by first | assumption | (exact TAgg.size aA)) rfl rfl rfl aZ rfl aL (by first | (first | (simp only [lx, Nat.reduceAdd]; first | done | rfl) | fail) | rfl) ?_) | (refine zar (hK _ _ (.inl rfl) ?_); clear hK K) | (refine zar (hK _ _ (.inr (by kernel_rfl)) ?_); clear hK K))
      | (refine za3 ?_; first | (refine zbk ?_) | (refine zaf (fun K hK => ?_)) | (refine zap ?_) | (refine za0 ?_) | (refine zbj ?_) | (refine za1 ?_) | (refine zbe ?_; first | (refine zat rfl aD ?_) | (refine zau rfl aD ?_) | (refine zay rfl (fun h => ?_) (fun h => ?_) <;> (have h' := h; (try simp only [sx] at h')))))
      | (refine za2 ?_) | (refine zag ?_) | (refine zaj ?_) | (refine zao ?_) | (refine zam ?_) | (refine zan ?_) | (refine zaq rfl ?_) | (refine zah ?_) | (refine zai ?_) | (refine zbi ?_))
        all_goals first
          | (exfalso; omega)
          | (refine RetPost.mono (fun r fin h => ⟨⟨t.width, t.height, t.burn.set k.toNat x⟩, c4, h, ((aft2.trans a3).trans a4).le aO, by simp only; omega, by simp only; omega, by simp only [List.length_set]; omega, by simp only [List.length_set]; omega⟩) ?_
             (first | refine ret_TL rfl rfl rfl (by first | exact trivial | (repeat' (first | exact trivial | refine ⟨by assumption, ?_⟩))) (by repeat' (first | exact trivial | refine ⟨by simp, ?_⟩)) (by first | exact trivial | exact ⟨⟨rfl, rfl, fun h => by cases h⟩, trivial⟩) ?_ | refine ret_AL rfl rfl rfl (by first | exact trivial | (repeat' (first | exact trivial | refine ⟨by assumption, ?_⟩))) (by repeat' (first | exact trivial | refine ⟨by simp, ?_⟩)) (by first | exact trivial | exact ⟨⟨rfl, rfl, fun h => by cases h⟩, trivial⟩) ?_); (repeat' (first | exact et_end | exact el_end | refine et_int rfl ?_ ?_ | refine et_bool ?_ ?_ | refine et_str ?_ ?_ | refine et_lst rfl rfl ?_ ?_ | refine zcp rfl (by rfl) (by decide) rfl rfl ?_ ?_ ?_ | refine et_nil ?_ ?_ | refine et_agg0 ?_ ?_ | refine et_agg ?_ ?_ | refine el_int rfl ?_ ?_ | refine el_bool ?_ ?_ | refine el_str ?_ ?_ | refine el_lst rfl rfl ?_ ?_ | refine zco rfl (by rfl) (by decide) rfl rfl ?_ ?_ ?_ | refine el_nil ?_ ?_)) <;> first | rfl | (simp [e]; done) | (simp; done) | omega)
      · by_cases e3 : r = 3
        · repeat' (first
      | (refine zaz ?_; first | (refine za4 ?_; refine zas _ rfl ?_) | (refine zak ?_; refine zaa _ rfl ?_) | (refine zbu ?_; first | (refine zb0 rfl rfl aO ?_) | (refine zbs _ rfl rfl rfl ?_) | (refine zbr aA rfl rfl ?_) | (refine zav _ rfl rfl rfl ?_)) | (refine zbb ?_; first | (refine zab aA rfl ?_) | (refine zae _ aA rfl rfl aE rfl ?_) | (refine zac _ aA rfl aZ aL ?_) | (refine zad _ aA rfl rfl aE aZ aL ?_)) | (refine zbz ?_; first | (refine zbf _ aA rfl aL ?_) | (refine zbg _ aA rfl rfl (by simp only [lx, Nat.reduceAdd]; first | done | rfl) ?_)) | (refine zbd ?_; first | (refine zax _ aA rfl rfl aO aA ?_) | (refine zaw _ aA rfl rfl rfl rfl aO aO (by first | (rw [Nat.zero_add, Int.toNat_natCast]) | (rw [Nat.zero_add]) | rfl) ?_)) | (refine za9 ?_; first | (refine zcg [(io, 0)] (k2) rfl rfl (by (repeat' (first | exact trivial | refine ⟨⟨_, rfl, ?_⟩, ?_⟩ | exact .inl ⟨rfl, .inl rfl⟩ | exact .inr ⟨rfl, rfl, rfl, rfl, rfl, fun e he u hu => by (simp only [List.mem_cons, List.not_mem_nil, or_false] at he; subst he; simp only [List.mem_cons, List.not_mem_nil, or_false] at hu; subst hu; rfl)⟩ | exact .inl ⟨rfl, .inr (fun e he => by (simp only [List.mem_cons, List.not_mem_nil, or_false] at he; subst he; rfl))⟩ | fail)); first | done | fail) rfl rfl aS rfl aH rfl ?_; simp only [cl]) | (refine za8 aA rfl ?_) | (refine za6 aA rfl rfl ?_) | (refine za5 aA rfl ?_) | (refine za7 aA (evO_ok rfl) ?_) | (refine zbx _ _ aA rfl (lookM (by rfl)) rfl (lookM (by rfl)) rfl aN ⟨rfl, rfl, by decide, by decide⟩ (by first | rfl | omega | (simp; done) | (simp; omega) | fail) ⟨by first | (simp only [List.length_cons, List.length_nil]; omega) | omega | fail, by decide⟩ rfl (by first | (first | (simp only [lx, Nat.reduceAdd]; first | done | rfl) | fail) | rfl) aP ?_) | (refine zbw _ _ aA rfl rfl (lookM (by rfl)) ⟨rfl, by decide⟩ aN (by first | exact Nat.succ_pos _ | omega | (simp; done)) ⟨by first | (simp only [List.length_cons, List.length_nil]; omega) | omega | fail, by decide⟩ rfl rfl aP ?_) | (refine zbv _ aA rfl rfl (lookM (by rfl)) ⟨rfl, by decide⟩ aN ⟨by first | (simp only [List.length_cons, List.length_nil]; omega) | omega | fail, by decide⟩ rfl aP ?_) | (refine zbl _ aA rfl rfl rfl ⟨rfl, rfl, rfl, by decide, by decide⟩ (by first | rfl | (simp; done) | fail) ⟨by omega, by decide⟩ rfl aL (by first | (rw [Nat.zero_add]) | rfl) ?_)) | (refine zal aA rfl rfl rfl ?_) | (refine zb9 _ aA rfl ?_) | (refine zb5 aA rfl ?_) | (refine zb1 _ _ _ rfl rfl aE (by first | assumption | (exact TAgg.size aA)) rfl rfl rfl aZ rfl aL (by first | (first | (simp only [lx, Nat.reduceAdd]; first | done | rfl) | fail) | rfl) ?_) | (refine zar (hK _ _ (.inl rfl) ?_); clear hK K) | (refine zar (hK _ _ (.inr (by kernel_rfl)) ?_); clear hK K))
      | (refine za3 ?_; first | (refine zbk ?_) | (refine zaf (fun K hK => ?_)) | (refine zap ?_) | (refine za0 ?_) | (refine zbj ?_) | (refine za1 ?_) | (refine zbe ?_; first | (refine zat rfl aD ?_) | (refine zau rfl aD ?_) | (refine zay rfl (fun h => ?_) (fun h => ?_) <;> (have h' := h; (try simp only [sx] at h')))))
      | (refine za2 ?_) | (refine zag ?_) | (refine zaj ?_) | (refine zao ?_) | (refine zam ?_) | (refine zan ?_) | (refine zaq rfl ?_) | (refine zah ?_) | (refine zai ?_) | (refine zbi ?_))
          all_goals first
            | (exfalso; omega)
            | (refine RetPost.mono (fun r fin h => ⟨⟨t.width, t.height, t.burn ++ [1]⟩, c2, h, aft2.le aO, by simp only; omega, by simp only; omega, by simp, by simp; omega⟩) ?_
               (first | refine ret_TL rfl rfl rfl (by first | exact trivial | (repeat' (first | exact trivial | refine ⟨by assumption, ?_⟩))) (by repeat' (first | exact trivial | refine ⟨by simp, ?_⟩)) (by first | exact trivial | exact ⟨⟨rfl, rfl, fun h => by cases h⟩, trivial⟩) ?_ | refine ret_AL rfl rfl rfl (by first | exact trivial | (repeat' (first | exact trivial | refine ⟨by assumption, ?_⟩))) (by repeat' (first | exact trivial | refine ⟨by simp, ?_⟩)) (by first | exact trivial | exact ⟨⟨rfl, rfl, fun h => by cases h⟩, trivial⟩) ?_); (repeat' (first | exact et_end | exact el_end | refine et_int rfl ?_ ?_ | refine et_bool ?_ ?_ | refine et_str ?_ ?_ | refine et_lst rfl rfl ?_ ?_ | refine zcp rfl (by rfl) (by decide) rfl rfl ?_ ?_ ?_ | refine et_nil ?_ ?_ | refine et_agg0 ?_ ?_ | refine et_agg ?_ ?_ | refine el_int rfl ?_ ?_ | refine el_bool ?_ ?_ | refine el_str ?_ ?_ | refine el_lst rfl rfl ?_ ?_ | refine zco rfl (by rfl) (by decide) rfl rfl ?_ ?_ ?_ | refine el_nil ?_ ?_)) <;> first | rfl | (simp; done) | omega)
        · repeat' (first
      | (refine zaz ?_; first | (refine za4 ?_; refine zas _ rfl ?_) | (refine zak ?_; refine zaa _ rfl ?_) | (refine zbu ?_; first | (refine zb0 rfl rfl aO ?_) | (refine zbs _ rfl rfl rfl ?_) | (refine zbr aA rfl rfl ?_) | (refine zav _ rfl rfl rfl ?_)) | (refine zbb ?_; first | (refine zab aA rfl ?_) | (refine zae _ aA rfl rfl aE rfl ?_) | (refine zac _ aA rfl aZ aL ?_) | (refine zad _ aA rfl rfl aE aZ aL ?_)) | (refine zbz ?_; first | (refine zbf _ aA rfl aL ?_) | (refine zbg _ aA rfl rfl (by simp only [lx, Nat.reduceAdd]; first | done | rfl) ?_)) | (refine zbd ?_; first | (refine zax _ aA rfl rfl aO aA ?_) | (refine zaw _ aA rfl rfl rfl rfl aO aO (by first | (rw [Nat.zero_add, Int.toNat_natCast]) | (rw [Nat.zero_add]) | rfl) ?_)) | (refine za9 ?_; first | (refine zcg [(io, 0)] (k2) rfl rfl (by (repeat' (first | exact trivial | refine ⟨⟨_, rfl, ?_⟩, ?_⟩ | exact .inl ⟨rfl, .inl rfl⟩ | exact .inr ⟨rfl, rfl, rfl, rfl, rfl, fun e he u hu => by (simp only [List.mem_cons, List.not_mem_nil, or_false] at he; subst he; simp only [List.mem_cons, List.not_mem_nil, or_false] at hu; subst hu; rfl)⟩ | exact .inl ⟨rfl, .inr (fun e he => by (simp only [List.mem_cons, List.not_mem_nil, or_false] at he; subst he; rfl))⟩ | fail)); first | done | fail) rfl rfl aS rfl aH rfl ?_; simp only [cl]) | (refine za8 aA rfl ?_) | (refine za6 aA rfl rfl ?_) | (refine za5 aA rfl ?_) | (refine za7 aA (evO_ok rfl) ?_) | (refine zbx _ _ aA rfl (lookM (by rfl)) rfl (lookM (by rfl)) rfl aN ⟨rfl, rfl, by decide, by decide⟩ (by first | rfl | omega | (simp; done) | (simp; omega) | fail) ⟨by first | (simp only [List.length_cons, List.length_nil]; omega) | omega | fail, by decide⟩ rfl (by first | (first | (simp only [lx, Nat.reduceAdd]; first | done | rfl) | fail) | rfl) aP ?_) | (refine zbw _ _ aA rfl rfl (lookM (by rfl)) ⟨rfl, by decide⟩ aN (by first | exact Nat.succ_pos _ | omega | (simp; done)) ⟨by first | (simp only [List.length_cons, List.length_nil]; omega) | omega | fail, by decide⟩ rfl rfl aP ?_) | (refine zbv _ aA rfl rfl (lookM (by rfl)) ⟨rfl, by decide⟩ aN ⟨by first | (simp only [List.length_cons, List.length_nil]; omega) | omega | fail, by decide⟩ rfl aP ?_) | (refine zbl _ aA rfl rfl rfl ⟨rfl, rfl, rfl, by decide, by decide⟩ (by first | rfl | (simp; done) | fail) ⟨by omega, by decide⟩ rfl aL (by first | (rw [Nat.zero_add]) | rfl) ?_)) | (refine zal aA rfl rfl rfl ?_) | (refine zb9 _ aA rfl ?_) | (refine zb5 aA rfl ?_) | (refine zb1 _ _ _ rfl rfl aE (by first | assumption | (exact TAgg.size aA)) rfl rfl rfl aZ rfl aL (by first | (first | (simp only [lx, Nat.reduceAdd]; first | done | rfl) | fail) | rfl) ?_) | (refine zar (hK _ _ (.inl rfl) ?_); clear hK K) | (refine zar (hK _ _ (.inr (by kernel_rfl)) ?_); clear hK K))
      | (refine za3 ?_; first | (refine zbk ?_) | (refine zaf (fun K hK => ?_)) | (refine zap ?_) | (refine za0 ?_) | (refine zbj ?_) | (refine za1 ?_) | (refine zbe ?_; first | (refine zat rfl aD ?_) | (refine zau rfl aD ?_) | (refine zay rfl (fun h => ?_) (fun h => ?_) <;> (have h' := h; (try simp only [sx] at h')))))
      | (refine za2 ?_) | (refine zag ?_) | (refine zaj ?_) | (refine zao ?_) | (refine zam ?_) | (refine zan ?_) | (refine zaq rfl ?_) | (refine zah ?_) | (refine zai ?_) | (refine zbi ?_))
          all_goals first
            | (exfalso; omega)
            | (refine RetPost.mono (fun r fin h => ⟨t, c2, h, aft2.le aO, by omega, by omega, by omega, by omega⟩) ?_
               (first | refine ret_TL rfl rfl rfl (by first | exact trivial | (repeat' (first | exact trivial | refine ⟨by assumption, ?_⟩))) (by repeat' (first | exact trivial | refine ⟨by simp, ?_⟩)) (by first | exact trivial | exact ⟨⟨rfl, rfl, fun h => by cases h⟩, trivial⟩) ?_ | refine ret_AL rfl rfl rfl (by first | exact trivial | (repeat' (first | exact trivial | refine ⟨by assumption, ?_⟩))) (by repeat' (first | exact trivial | refine ⟨by simp, ?_⟩)) (by first | exact trivial | exact ⟨⟨rfl, rfl, fun h => by cases h⟩, trivial⟩) ?_); (repeat' (first | exact et_end | exact el_end | refine et_int rfl ?_ ?_ | refine et_bool ?_ ?_ | refine et_str ?_ ?_ | refine et_lst rfl rfl ?_ ?_ | refine zcp rfl (by rfl) (by decide) rfl rfl ?_ ?_ ?_ | refine et_nil ?_ ?_ | refine et_agg0 ?_ ?_ | refine et_agg ?_ ?_ | refine el_int rfl ?_ ?_ | refine el_bool ?_ ?_ | refine el_str ?_ ?_ | refine el_lst rfl rfl ?_ ?_ | refine zco rfl (by rfl) (by decide) rfl rfl ?_ ?_ ?_ | refine el_nil ?_ ?_)) <;> first | rfl | (simp; done) | omega)
theorem k_anyTerrainZ (c : Cu) (hc : c.Ok) (hp : c.pos + 200 ≤ 1152921504606846976) :
    ContractP Try.prog 76 true [.own (io, 0) 0 0] [cuRow c] (fun r' fin' => ∃ (t : Terrain) (c' : Cu), (r' = .agg t.pv ∧ fin' = [[c'.pv]]) ∧ Aft c c' 200 ∧ TrSz t) := by
  refine ContractP.mono ?_ (ConL.frzP (k_anyTerrain c hc hp) (by rintro r fin ⟨t, c', ⟨rfl, rfl⟩, _⟩; rfl) (by intro row h; simp at h; subst h; rfl))
  rintro r fin ⟨r', rfl, t, c', ⟨rfl, rfl⟩, h⟩
  exact ⟨t, c', ⟨rfl, rfl⟩, h⟩
end Go.Vs
set_option linter.unusedVariables false
set_option linter.unusedSimpArgs false
set_option maxRecDepth 100000
set_option maxHeartbeats 4000000
namespace Go.Vs
open Go.Proofs
attribute [local irreducible] exec vwp thenQ blkQ loopQ RetPost
theorem k_cellsOfD (c : Cu) (t : Terrain) (hc : c.Ok) (hp : c.pos + 100 ≤ 1152921504606846976) (ht : TrSz t) : ∃ (xs : List Int) (c' : Cu), Dr 77 [.agg t.pv] c (.olist 3 1 (ints xs)) c' ∧ Aft c c' 100 ∧ xs.length ≤ 5 := by
  obtain ⟨n, c1, k1, a1, n0, n1, _⟩ := k_pick c 5 hc aO aO
  have n1 := n1 aO
  have o1 := a1.ok hc aO
  have p1 := a1.pos
  have hl1 : (ints t.burn).length = t.burn.length := by simp
  have ht3 := ht.2.2
  obtain ⟨N, hN⟩ : ∃ N : Nat, n = (N : Int) := ⟨n.toNat, by omega⟩
  subst hN
  obtain ⟨f, f0, fs⟩ := seq_ex (S := Cu × List Int) (Q := fun i s => i ≤ 5 → Aft c1 s.1 (2 * i) ∧ s.2.length ≤ i)
    (R := fun i s s' => i < 5 → ∃ (x : Int), Dr 124 [.int .i64 ((ints t.burn).length : Int)] s.1 (.int .i64 x) s'.1 ∧ s'.2 = put s.2 x)
    (c1, []) (fun _ => ⟨(Aft.refl c1).le aO, by simp⟩) (fun i st hq => by
      by_cases hi : i < 5
      · obtain ⟨ad, hl2⟩ := hq aO
        have od := ad.ok o1 aO
        have pd := ad.pos
        obtain ⟨x, c2, k2, a2, _⟩ := k_pick st.1 t.burn.length od aO aO
        rw [← hl1] at k2
        have hpl := put_len st.2 x
        exact ⟨(c2, put st.2 x), fun _ => ⟨x, k2, rfl⟩, fun _ => ⟨(ad.trans a2).le (by first | omega | (simp only; omega)), by first | omega | (simp only; omega)⟩⟩
      · exact ⟨st, fun h => absurd h hi, fun h => by omega⟩)
  obtain ⟨ad, hl⟩ := (fs N).1 aO
  have od := ad.ok o1 aO
  have pd := ad.pos
  obtain ⟨y, c2, k2, a2⟩ := k_one (f N).1 24 od aO aO
  have o2 := a2.ok od aO
  have p2 := a2.pos
  obtain ⟨x3, c3, k3, a3, _⟩ := k_among c2 [0, -1, (t.burn.length : Int)] o2 aO (by simp)
  rw [← hl1] at k3
  have key : ∃ (xs : List Int) (c' : Cu), Aft c c' 100 ∧ xs.length ≤ 5 ∧ ((y = false ∧ xs = (f N).2 ∧ c' = c2) ∨ (y = true ∧ xs = (f N).2 ++ [x3] ∧ c' = c3)) := by
    cases y
    · exact ⟨_, c2, ((a1.trans ad).trans a2).le aO, by omega, Or.inl ⟨rfl, rfl, rfl⟩⟩
    · exact ⟨_, c3, (((a1.trans ad).trans a2).trans a3).le aO, by simp; omega, Or.inr ⟨rfl, rfl, rfl⟩⟩
  obtain ⟨xs, c', hA, hL, key⟩ := key
  refine ⟨xs, c', ?_, hA, hL⟩
  clear hA hL
  refine zba hmix Try.func77 rfl (by kernel_rfl) (by kernel_rfl) (Nat.le_of_ble_eq_true rfl) (fun row h => by (simp only [List.mem_cons, List.not_mem_nil, or_false] at h; first | (subst h; (first | exact .inl rfl | exact .inr (fun e he u hu => by (simp only [List.mem_cons, List.not_mem_nil, or_false] at he; subst he; simp only [List.mem_cons, List.not_mem_nil, or_false] at hu; subst hu; rfl)))) | (rcases h with rfl | rfl <;> (first | exact .inl rfl | exact .inr (fun e he u hu => by (simp only [List.mem_cons, List.not_mem_nil, or_false] at he; subst he; simp only [List.mem_cons, List.not_mem_nil, or_false] at hu; subst hu; rfl)))) | (rcases h with rfl | rfl | rfl <;> (first | exact .inl rfl | exact .inr (fun e he u hu => by (simp only [List.mem_cons, List.not_mem_nil, or_false] at he; subst he; simp only [List.mem_cons, List.not_mem_nil, or_false] at hu; subst hu; rfl)))) | (rcases h with rfl | rfl | rfl | rfl <;> (first | exact .inl rfl | exact .inr (fun e he u hu => by (simp only [List.mem_cons, List.not_mem_nil, or_false] at he; subst he; simp only [List.mem_cons, List.not_mem_nil, or_false] at hu; subst hu; rfl)))))) ?_
  have hty_s24 := ty_s24
  have hty_f26_2 := ty_f26_2
  have hty_c24 := ty_c24
  have hty_u24 := ty_u24
  repeat' (first
      | (refine zaz ?_; first | (refine za4 ?_; refine zas _ rfl ?_) | (refine zak ?_; refine zaa _ rfl ?_) | (refine zbu ?_; first | (refine zch rfl rfl aO ?_) | (refine zbs _ rfl rfl rfl ?_)) | (refine zbb ?_; first | (refine zab aA rfl ?_) | (refine zae _ aA rfl rfl aE rfl ?_) | (refine zac _ aA rfl aZ aL ?_) | (refine zad _ aA rfl rfl aE aZ aL ?_)) | (refine zbz ?_; first | (refine zbf _ aA rfl aL ?_) | (refine zbg _ aA rfl rfl (by simp only [lx, Nat.reduceAdd]; first | done | rfl) ?_)) | (refine za9 ?_; first | (refine zcg [(io, 0)] (k1) rfl rfl (by (repeat' (first | exact trivial | refine ⟨⟨_, rfl, ?_⟩, ?_⟩ | exact .inl ⟨rfl, .inl rfl⟩ | exact .inr ⟨rfl, rfl, rfl, rfl, rfl, fun e he u hu => by (simp only [List.mem_cons, List.not_mem_nil, or_false] at he; subst he; simp only [List.mem_cons, List.not_mem_nil, or_false] at hu; subst hu; rfl)⟩ | exact .inl ⟨rfl, .inr (fun e he => by (simp only [List.mem_cons, List.not_mem_nil, or_false] at he; subst he; rfl))⟩ | fail)); first | done | fail) rfl rfl aS rfl aH rfl ?_; simp only [cl]) | (refine za8 aA rfl ?_) | (refine za6 aA rfl rfl ?_) | (refine za5 aA rfl ?_) | (refine za7 aA (evO_ok rfl) ?_) | (refine zbx _ _ aA rfl (lookM (by rfl)) rfl (lookM (by rfl)) rfl aN ⟨rfl, rfl, by decide, by decide⟩ (by first | rfl | omega | (simp; done) | (simp; omega) | fail) ⟨by first | (simp only [List.length_cons, List.length_nil]; omega) | omega | fail, by decide⟩ rfl (by first | (first | (simp only [lx, Nat.reduceAdd]; first | done | rfl) | fail) | rfl) aP ?_) | (refine zbw _ _ aA rfl rfl (lookM (by rfl)) ⟨rfl, by decide⟩ aN (by first | exact Nat.succ_pos _ | omega | (simp; done)) ⟨by first | (simp only [List.length_cons, List.length_nil]; omega) | omega | fail, by decide⟩ rfl rfl aP ?_) | (refine zbv _ aA rfl rfl (lookM (by rfl)) ⟨rfl, by decide⟩ aN ⟨by first | (simp only [List.length_cons, List.length_nil]; omega) | omega | fail, by decide⟩ rfl aP ?_) | (refine zbl _ aA rfl rfl rfl ⟨rfl, rfl, rfl, by decide, by decide⟩ (by first | rfl | (simp; done) | fail) ⟨by omega, by decide⟩ rfl aL (by first | (rw [Nat.zero_add]) | rfl) ?_)) | (refine zal aA rfl rfl rfl ?_) | (refine zbt _ _ rfl rfl rfl rfl ?_) | (refine zar (hK _ _ (.inl rfl) ?_); clear hK K) | (refine zar (hK _ _ (.inr (by kernel_rfl)) ?_); clear hK K))
      | (refine za3 ?_; first | (refine zbk ?_) | (refine zaf (fun K hK => ?_)) | (refine zap ?_) | (refine za0 ?_) | (refine zbj ?_) | (refine za1 ?_) | (refine zbe ?_; first | (refine zat rfl aD ?_) | (refine zau rfl aD ?_) | (refine zay rfl (fun h => ?_) (fun h => ?_) <;> (have h' := h; (try simp only [sx] at h')))))
      | (refine za2 ?_) | (refine zag ?_) | (refine zaj ?_) | (refine zao ?_) | (refine zam ?_) | (refine zan ?_) | (refine zaq rfl ?_) | (refine zah ?_) | (refine zai ?_) | (refine zbi ?_))
  all_goals try (exfalso; omega)
  refine zcd [0, 3] [(io, 0), (1001, 0)] (fun q : Nat × Cu × List Int × Nat × Int => [(5, .osl (1001, 0) 0 q.2.2.2.1), (6, .int .i64 q.2.2.2.2)]) (fun q : Nat × Cu × List Int × Nat × Int => [((io, 0), some (cuRow q.2.1)), ((1001, 0), some ⟨3, 1, ints q.2.2.1, false⟩)]) (fun q : Nat × Cu × List Int × Nat × Int => q.2.1 = (f q.1).1 ∧ q.2.2.1 = (f q.1).2 ∧ q.2.2.2.2 = (N : Int) - q.1 ∧ q.1 ≤ N ∧ (ints q.2.2.1).length = q.2.2.2.1) (fun q : Nat × Cu × List Int × Nat × Int => N - q.1) ((0, c1, [], 0, N)) rfl rfl (fun _ => rfl) (fun _ => rfl) rfl aW ⟨by rw [f0], by rw [f0], by simp, by simp, rfl⟩ (fun q hq => ?_)
  obtain ⟨m, d, us, ul, v⟩ := q
  obtain ⟨hd, hus, hv, hmN, hul⟩ := hq
  simp only at hd hus hv hmN hul
  dsimp only
  have hul2 : us.length = ul := by rw [← hul]; simp
  have hlu := hul.symm
  obtain ⟨adm, hlm⟩ := (fs m).1 aO
  by_cases hlt : m < N
  · obtain ⟨x, kp, ep⟩ := (fs m).2 aO
    rw [← hd] at kp
    rw [← hus] at hlm ep
    by_cases hin : us[kPut us x]? = some x
    · have kP := k_l1PutS us x ul hul2 aO hin
      have eP : put us x = us := by unfold put; rw [if_pos hin]
      repeat' (first
      | (refine zaz ?_; first | (refine za4 ?_; refine zas _ rfl ?_) | (refine zak ?_; refine zaa _ rfl ?_) | (refine zbu ?_; first | (refine zch rfl rfl aO ?_) | (refine zbs _ rfl rfl rfl ?_)) | (refine zbb ?_; first | (refine zab aA rfl ?_) | (refine zae _ aA rfl rfl aE rfl ?_) | (refine zac _ aA rfl aZ aL ?_) | (refine zad _ aA rfl rfl aE aZ aL ?_)) | (refine zbz ?_; first | (refine zbf _ aA rfl aL ?_) | (refine zbg _ aA rfl rfl (by simp only [lx, Nat.reduceAdd]; first | done | rfl) ?_)) | (refine za9 ?_; first | (refine zcg [(io, 0)] (kp) rfl rfl (by (repeat' (first | exact trivial | refine ⟨⟨_, rfl, ?_⟩, ?_⟩ | exact .inl ⟨rfl, .inl rfl⟩ | exact .inr ⟨rfl, rfl, rfl, rfl, rfl, fun e he u hu => by (simp only [List.mem_cons, List.not_mem_nil, or_false] at he; subst he; simp only [List.mem_cons, List.not_mem_nil, or_false] at hu; subst hu; rfl)⟩ | exact .inl ⟨rfl, .inr (fun e he => by (simp only [List.mem_cons, List.not_mem_nil, or_false] at he; subst he; rfl))⟩ | fail)); first | done | fail) rfl rfl aS rfl aH rfl ?_; simp only [cl]) | (refine x_callMr [(1001, 0)] [] (kP) rfl rfl (by (repeat' (first | exact trivial | exact ⟨⟨_, rfl, rfl⟩, rfl⟩ | exact ⟨rfl, rfl⟩ | refine ⟨⟨⟨_, rfl, rfl⟩, rfl⟩, ?_⟩ | refine ⟨⟨rfl, rfl⟩, ?_⟩)); first | done | fail) (by (repeat' (first | exact trivial | exact ⟨⟨_, rfl, rfl⟩, rfl⟩ | exact ⟨rfl, rfl⟩ | refine ⟨⟨⟨_, rfl, rfl⟩, rfl⟩, ?_⟩ | refine ⟨⟨rfl, rfl⟩, ?_⟩)); first | done | fail) rfl rfl aS rfl (by (repeat' (first | exact trivial | refine ⟨⟨rfl, rfl, (by first | rfl | (simp; done) | omega), rfl, rfl⟩, ?_⟩)); first | done | fail) rfl rfl rfl rfl ?_; simp only [cl]) | (refine za8 aA rfl ?_) | (refine za6 aA rfl rfl ?_) | (refine za5 aA rfl ?_) | (refine za7 aA (evO_ok rfl) ?_) | (refine zbx _ _ aA rfl (lookM (by rfl)) rfl (lookM (by rfl)) rfl aN ⟨rfl, rfl, by decide, by decide⟩ (by first | rfl | omega | (simp; done) | (simp; omega) | fail) ⟨by first | (simp only [List.length_cons, List.length_nil]; omega) | omega | fail, by decide⟩ rfl (by first | (first | (simp only [lx, Nat.reduceAdd]; first | done | rfl) | fail) | rfl) aP ?_) | (refine zbw _ _ aA rfl rfl (lookM (by rfl)) ⟨rfl, by decide⟩ aN (by first | exact Nat.succ_pos _ | omega | (simp; done)) ⟨by first | (simp only [List.length_cons, List.length_nil]; omega) | omega | fail, by decide⟩ rfl rfl aP ?_) | (refine zbv _ aA rfl rfl (lookM (by rfl)) ⟨rfl, by decide⟩ aN ⟨by first | (simp only [List.length_cons, List.length_nil]; omega) | omega | fail, by decide⟩ rfl aP ?_) | (refine zbl _ aA rfl rfl rfl ⟨rfl, rfl, rfl, by decide, by decide⟩ (by first | rfl | (simp; done) | fail) ⟨by omega, by decide⟩ rfl aL (by first | (rw [Nat.zero_add]) | rfl) ?_)) | (refine zal aA rfl rfl rfl ?_) | (refine zbt _ _ rfl rfl rfl rfl ?_) | (refine zar (hK _ _ (.inl rfl) ?_); clear hK K) | (refine zar (hK _ _ (.inr (by kernel_rfl)) ?_); clear hK K))
      | (refine za3 ?_; first | (refine zbk ?_) | (refine zaf (fun K hK => ?_)) | (refine zap ?_) | (refine za0 ?_) | (refine zbj ?_) | (refine za1 ?_) | (refine zbe ?_; first | (refine zat rfl aD ?_) | (refine zau rfl aD ?_) | (refine zay rfl (fun h => ?_) (fun h => ?_) <;> (have h' := h; (try simp only [sx] at h')))))
      | (refine za2 ?_) | (refine zag ?_) | (refine zaj ?_) | (refine zao ?_) | (refine zam ?_) | (refine zan ?_) | (refine zaq rfl ?_) | (refine zah ?_) | (refine zai ?_) | (refine zbi ?_))
      all_goals try (exfalso; omega)
      all_goals (refine zb6 (m + 1, (f (m + 1)).1, us, ul, v - 1) rfl aW ⟨rfl, by simp only; rw [ep, eP], by first | omega | (simp only; omega), by first | omega | (simp only; omega), hul⟩ (by first | omega | (simp only; omega)))
    · have kP := k_l1PutN us x aO hin
      repeat' (first
      | (refine zaz ?_; first | (refine za4 ?_; refine zas _ rfl ?_) | (refine zak ?_; refine zaa _ rfl ?_) | (refine zbu ?_; first | (refine zch rfl rfl aO ?_) | (refine zbs _ rfl rfl rfl ?_)) | (refine zbb ?_; first | (refine zab aA rfl ?_) | (refine zae _ aA rfl rfl aE rfl ?_) | (refine zac _ aA rfl aZ aL ?_) | (refine zad _ aA rfl rfl aE aZ aL ?_)) | (refine zbz ?_; first | (refine zbf _ aA rfl aL ?_) | (refine zbg _ aA rfl rfl (by simp only [lx, Nat.reduceAdd]; first | done | rfl) ?_)) | (refine za9 ?_; first | (refine zcg [(io, 0)] (kp) rfl rfl (by (repeat' (first | exact trivial | refine ⟨⟨_, rfl, ?_⟩, ?_⟩ | exact .inl ⟨rfl, .inl rfl⟩ | exact .inr ⟨rfl, rfl, rfl, rfl, rfl, fun e he u hu => by (simp only [List.mem_cons, List.not_mem_nil, or_false] at he; subst he; simp only [List.mem_cons, List.not_mem_nil, or_false] at hu; subst hu; rfl)⟩ | exact .inl ⟨rfl, .inr (fun e he => by (simp only [List.mem_cons, List.not_mem_nil, or_false] at he; subst he; rfl))⟩ | fail)); first | done | fail) rfl rfl aS rfl aH rfl ?_; simp only [cl]) | (refine zbc true (kP) rfl rfl rfl aS rfl aH ?_; simp only [cl]) | (refine za8 aA rfl ?_) | (refine za6 aA rfl rfl ?_) | (refine za5 aA rfl ?_) | (refine za7 aA (evO_ok rfl) ?_) | (refine zbx _ _ aA rfl (lookM (by rfl)) rfl (lookM (by rfl)) rfl aN ⟨rfl, rfl, by decide, by decide⟩ (by first | rfl | omega | (simp; done) | (simp; omega) | fail) ⟨by first | (simp only [List.length_cons, List.length_nil]; omega) | omega | fail, by decide⟩ rfl (by first | (first | (simp only [lx, Nat.reduceAdd]; first | done | rfl) | fail) | rfl) aP ?_) | (refine zbw _ _ aA rfl rfl (lookM (by rfl)) ⟨rfl, by decide⟩ aN (by first | exact Nat.succ_pos _ | omega | (simp; done)) ⟨by first | (simp only [List.length_cons, List.length_nil]; omega) | omega | fail, by decide⟩ rfl rfl aP ?_) | (refine zbv _ aA rfl rfl (lookM (by rfl)) ⟨rfl, by decide⟩ aN ⟨by first | (simp only [List.length_cons, List.length_nil]; omega) | omega | fail, by decide⟩ rfl aP ?_) | (refine zbl _ aA rfl rfl rfl ⟨rfl, rfl, rfl, by decide, by decide⟩ (by first | rfl | (simp; done) | fail) ⟨by omega, by decide⟩ rfl aL (by first | (rw [Nat.zero_add]) | rfl) ?_)) | (refine zal aA rfl rfl rfl ?_) | (refine zbt _ _ rfl rfl rfl rfl ?_) | (refine zar (hK _ _ (.inl rfl) ?_); clear hK K) | (refine zar (hK _ _ (.inr (by kernel_rfl)) ?_); clear hK K))
      | (refine za3 ?_; first | (refine zbk ?_) | (refine zaf (fun K hK => ?_)) | (refine zap ?_) | (refine za0 ?_) | (refine zbj ?_) | (refine za1 ?_) | (refine zbe ?_; first | (refine zat rfl aD ?_) | (refine zau rfl aD ?_) | (refine zay rfl (fun h => ?_) (fun h => ?_) <;> (have h' := h; (try simp only [sx] at h')))))
      | (refine za2 ?_) | (refine zag ?_) | (refine zaj ?_) | (refine zao ?_) | (refine zam ?_) | (refine zan ?_) | (refine zaq rfl ?_) | (refine zah ?_) | (refine zai ?_) | (refine zbi ?_))
      all_goals try (exfalso; omega)
      all_goals (refine zb6 (m + 1, (f (m + 1)).1, put us x, (ints (put us x)).length, v - 1) rfl aW ⟨rfl, ep.symm, by first | omega | (simp only; omega), by first | omega | (simp only; omega), rfl⟩ (by first | omega | (simp only; omega)))
  · have hmN2 : m = N := by omega
    subst hmN2
    rw [← hd] at k2
    rw [← hus] at key hlm
    rcases key with ⟨rfl, rfl, rfl⟩ | ⟨rfl, rfl, rfl⟩
    · repeat' (first
      | (refine zaz ?_; first | (refine za4 ?_; refine zas _ rfl ?_) | (refine zak ?_; refine zaa _ rfl ?_) | (refine zbu ?_; first | (refine zch rfl rfl aO ?_) | (refine zbs _ rfl rfl rfl ?_)) | (refine zbb ?_; first | (refine zab aA rfl ?_) | (refine zae _ aA rfl rfl aE rfl ?_) | (refine zac _ aA rfl aZ aL ?_) | (refine zad _ aA rfl rfl aE aZ aL ?_)) | (refine zbz ?_; first | (refine zbf _ aA rfl aL ?_) | (refine zbg _ aA rfl rfl (by simp only [lx, Nat.reduceAdd]; first | done | rfl) ?_)) | (refine za9 ?_; first | (refine zcg [(io, 0)] (k2) rfl rfl (by (repeat' (first | exact trivial | refine ⟨⟨_, rfl, ?_⟩, ?_⟩ | exact .inl ⟨rfl, .inl rfl⟩ | exact .inr ⟨rfl, rfl, rfl, rfl, rfl, fun e he u hu => by (simp only [List.mem_cons, List.not_mem_nil, or_false] at he; subst he; simp only [List.mem_cons, List.not_mem_nil, or_false] at hu; subst hu; rfl)⟩ | exact .inl ⟨rfl, .inr (fun e he => by (simp only [List.mem_cons, List.not_mem_nil, or_false] at he; subst he; rfl))⟩ | fail)); first | done | fail) rfl rfl aS rfl aH rfl ?_; simp only [cl]) | (refine za8 aA rfl ?_) | (refine za6 aA rfl rfl ?_) | (refine za5 aA rfl ?_) | (refine za7 aA (evO_ok rfl) ?_) | (refine zbx _ _ aA rfl (lookM (by rfl)) rfl (lookM (by rfl)) rfl aN ⟨rfl, rfl, by decide, by decide⟩ (by first | rfl | omega | (simp; done) | (simp; omega) | fail) ⟨by first | (simp only [List.length_cons, List.length_nil]; omega) | omega | fail, by decide⟩ rfl (by first | (first | (simp only [lx, Nat.reduceAdd]; first | done | rfl) | fail) | rfl) aP ?_) | (refine zbw _ _ aA rfl rfl (lookM (by rfl)) ⟨rfl, by decide⟩ aN (by first | exact Nat.succ_pos _ | omega | (simp; done)) ⟨by first | (simp only [List.length_cons, List.length_nil]; omega) | omega | fail, by decide⟩ rfl rfl aP ?_) | (refine zbv _ aA rfl rfl (lookM (by rfl)) ⟨rfl, by decide⟩ aN ⟨by first | (simp only [List.length_cons, List.length_nil]; omega) | omega | fail, by decide⟩ rfl aP ?_) | (refine zbl _ aA rfl rfl rfl ⟨rfl, rfl, rfl, by decide, by decide⟩ (by first | rfl | (simp; done) | fail) ⟨by omega, by decide⟩ rfl aL (by first | (rw [Nat.zero_add]) | rfl) ?_)) | (refine zal aA rfl rfl rfl ?_) | (refine zbt _ _ rfl rfl rfl rfl ?_) | (refine zar (hK _ _ (.inl rfl) ?_); clear hK K) | (refine zar (hK _ _ (.inr (by kernel_rfl)) ?_); clear hK K))
      | (refine za3 ?_; first | (refine zbk ?_) | (refine zaf (fun K hK => ?_)) | (refine zap ?_) | (refine za0 ?_) | (refine zbj ?_) | (refine za1 ?_) | (refine zbe ?_; first | (refine zat rfl aD ?_) | (refine zau rfl aD ?_) | (refine zay rfl (fun h => ?_) (fun h => ?_) <;> (have h' := h; (try simp only [sx] at h')))))
      | (refine za2 ?_) | (refine zag ?_) | (refine zaj ?_) | (refine zao ?_) | (refine zam ?_) | (refine zan ?_) | (refine zaq rfl ?_) | (refine zah ?_) | (refine zai ?_) | (refine zbi ?_))
      all_goals first
        | (exfalso; omega)
        | exact ret_lL rfl rfl rfl (by decide) ⟨⟨rfl, rfl, fun h => by cases h⟩, trivial⟩ rfl rfl hlu rfl
    · repeat' (first
      | (refine zaz ?_; first | (refine za4 ?_; refine zas _ rfl ?_) | (refine zak ?_; refine zaa _ rfl ?_) | (refine zbu ?_; first | (refine zch rfl rfl aO ?_) | (refine zbs _ rfl rfl rfl ?_)) | (refine zbb ?_; first | (refine zab aA rfl ?_) | (refine zae _ aA rfl rfl aE rfl ?_) | (refine zac _ aA rfl aZ aL ?_) | (refine zad _ aA rfl rfl aE aZ aL ?_)) | (refine zbz ?_; first | (refine zbf _ aA rfl aL ?_) | (refine zbg _ aA rfl rfl (by simp only [lx, Nat.reduceAdd]; first | done | rfl) ?_)) | (refine za9 ?_; first | (refine zcg [(io, 0)] (k2) rfl rfl (by (repeat' (first | exact trivial | refine ⟨⟨_, rfl, ?_⟩, ?_⟩ | exact .inl ⟨rfl, .inl rfl⟩ | exact .inr ⟨rfl, rfl, rfl, rfl, rfl, fun e he u hu => by (simp only [List.mem_cons, List.not_mem_nil, or_false] at he; subst he; simp only [List.mem_cons, List.not_mem_nil, or_false] at hu; subst hu; rfl)⟩ | exact .inl ⟨rfl, .inr (fun e he => by (simp only [List.mem_cons, List.not_mem_nil, or_false] at he; subst he; rfl))⟩ | fail)); first | done | fail) rfl rfl aS rfl aH rfl ?_; simp only [cl]) | (refine zcg [(io, 0)] (k3) rfl rfl (by (repeat' (first | exact trivial | refine ⟨⟨_, rfl, ?_⟩, ?_⟩ | exact .inl ⟨rfl, .inl rfl⟩ | exact .inr ⟨rfl, rfl, rfl, rfl, rfl, fun e he u hu => by (simp only [List.mem_cons, List.not_mem_nil, or_false] at he; subst he; simp only [List.mem_cons, List.not_mem_nil, or_false] at hu; subst hu; rfl)⟩ | exact .inl ⟨rfl, .inr (fun e he => by (simp only [List.mem_cons, List.not_mem_nil, or_false] at he; subst he; rfl))⟩ | fail)); first | done | fail) rfl rfl aS rfl aH rfl ?_; simp only [cl]) | (refine za8 aA rfl ?_) | (refine za6 aA rfl rfl ?_) | (refine za5 aA rfl ?_) | (refine za7 aA (evO_ok rfl) ?_) | (refine zbx _ _ aA rfl (lookM (by rfl)) rfl (lookM (by rfl)) rfl aN ⟨rfl, rfl, by decide, by decide⟩ (by first | rfl | omega | (simp; done) | (simp; omega) | fail) ⟨by first | (simp only [List.length_cons, List.length_nil]; omega) | omega | fail, by decide⟩ rfl (by first | (first | (simp only [lx, Nat.reduceAdd]; first | done | rfl) | fail) | rfl) aP ?_) | (refine zbw _ _ aA rfl rfl (lookM (by rfl)) ⟨rfl, by decide⟩ aN (by first | exact Nat.succ_pos _ | omega | (simp; done)) ⟨by first | (simp only [List.length_cons, List.length_nil]; omega) | omega | fail, by decide⟩ rfl rfl aP ?_) | (refine zbv _ aA rfl rfl (lookM (by rfl)) ⟨rfl, by decide⟩ aN ⟨by first | (simp only [List.length_cons, List.length_nil]; omega) | omega | fail, by decide⟩ rfl aP ?_) | (refine zbl _ aA rfl rfl rfl ⟨rfl, rfl, rfl, by decide, by decide⟩ (by first | rfl | (simp; done) | fail) ⟨by omega, by decide⟩ rfl aL (by first | (rw [Nat.zero_add]) | rfl) ?_)) | (refine zal aA rfl rfl rfl ?_) | (refine zbt _ _ rfl rfl rfl rfl ?_) | (refine zar (hK _ _ (.inl rfl) ?_); clear hK K) | (refine zar (hK _ _ (.inr (by kernel_rfl)) ?_); clear hK K))
      | (refine za3 ?_; first | (refine zbk ?_) | (refine zaf (fun K hK => ?_)) | (refine zap ?_) | (refine za0 ?_) | (refine zbj ?_) | (refine za1 ?_) | (refine zbe ?_; first | (refine zat rfl aD ?_) | (refine zau rfl aD ?_) | (refine zay rfl (fun h => ?_) (fun h => ?_) <;> (have h' := h; (try simp only [sx] at h')))))
      | (refine za2 ?_) | (refine zag ?_) | (refine zaj ?_) | (refine zao ?_) | (refine zam ?_) | (refine zan ?_) | (refine zaq rfl ?_) | (refine zah ?_) | (refine zai ?_) | (refine zbi ?_))
      all_goals first
        | (exfalso; omega)
        | exact ret_lL rfl rfl rfl (by decide) ⟨⟨rfl, rfl, fun h => by cases h⟩, trivial⟩ rfl rfl (by simp [hul2]) (by simp)
theorem k_cellsOf (c : Cu) (t : Terrain) (hc : c.Ok) (hp : c.pos + 100 ≤ 1152921504606846976) (ht : TrSz t) : ∃ (xs : List Int) (c' : Cu), Dr 77 [.agg t.pv] c (.list 1 (ints xs)) c' ∧ Aft c c' 100 ∧ xs.length ≤ 5 := by
  obtain ⟨ps, c', k, h⟩ := k_cellsOfD c t hc hp ht
  exact ⟨ps, c', ConL.frz k rfl (by intro row h; simp at h; subst h; rfl), h⟩
@[reducible] def stB (t : Terrain) (j : Nat) : Bool := decide ((j : Int) % t.width = 1) || (decide ((j : Int) / t.width = 1) || (decide ((j : Int) % t.width = 3) || decide ((j : Int) / t.width = 3)))
def stL (t : Terrain) : List Int := if 0 < t.width then cellsL t.burn.length (stB t) else []
theorem k_regionD (c : Cu) (t : Terrain) (hc : c.Ok) (hp : c.pos + 200 ≤ 1152921504606846976) (ht : TrSz t) :
    ∃ (xs : List Int) (c' : Cu), Dr 78 [.agg t.pv] c (.olist 3 1 (ints xs)) c' ∧ Aft c c' 150 ∧ xs.length ≤ 30 := by
  have hl1 : (ints t.burn).length = t.burn.length := by simp
  have ht3 := ht.2.2
  have ht1 := ht.1
  obtain ⟨f, f0, fs⟩ := seq_ex (S := Cu × List Int) (Q := fun i s => i ≤ 26 → Aft c s.1 (2 * i) ∧ s.2.length ≤ i)
    (R := fun i s s' => i < 26 → ∃ (y : Bool), Dr 81 [.int .i64 3] s.1 (.bool y) s'.1 ∧ s'.2 = if y = true then s.2 else s.2 ++ [(i : Int)])
    (c, []) (fun _ => ⟨(Aft.refl c).le aO, by simp⟩) (fun i st hq => by
      by_cases hi : i < 26
      · obtain ⟨ad, hl2⟩ := hq aO
        have od := ad.ok hc aO
        have pd := ad.pos
        obtain ⟨y, c2, k2, a2⟩ := k_one st.1 3 od aO aO
        refine ⟨(c2, if y = true then st.2 else st.2 ++ [(i : Int)]), fun _ => ⟨y, k2, rfl⟩, fun _ => ⟨(ad.trans a2).le (by first | omega | (simp only; omega)), ?_⟩⟩
        simp only
        split
        · omega
        · rw [List.length_append, List.length_singleton]; omega
      · exact ⟨st, fun h => absurd h hi, fun h => by omega⟩)
  obtain ⟨N, hN⟩ : ∃ N : Nat, t.burn.length = N := ⟨_, rfl⟩
  obtain ⟨ad, hl⟩ := (fs N).1 aO
  have od := ad.ok hc aO
  have pd := ad.pos
  obtain ⟨r, c2, k2, a2, _⟩ := k_pick (f N).1 24 od aO aO
  have o2 := a2.ok od aO
  have p2 := a2.pos
  have aft2 := ad.trans a2
  obtain ⟨x3, c3, k3, a3, _⟩ := k_among c2 [0, -1, (t.burn.length : Int)] o2 aO (by simp)
  rw [← hl1] at k3
  have hst : (stL t).length ≤ t.burn.length := by
    unfold stL
    split
    · exact cellsL_len _ _
    · simp
  have key : ∃ (xs : List Int) (c' : Cu), Aft c c' 150 ∧ xs.length ≤ 30 ∧ ((r = 0 ∧ xs = (f N).2 ++ [x3] ∧ c' = c3) ∨ (r ≠ 0 ∧ (r = 1 ∨ r = 2 ∨ r = 3) ∧ xs = stL t ∧ c' = c2) ∨ (r ≠ 0 ∧ ¬ (r = 1 ∨ r = 2 ∨ r = 3) ∧ xs = (f N).2 ∧ c' = c2)) := by
    by_cases e0 : r = 0
    · exact ⟨_, c3, (aft2.trans a3).le aO, by simp; omega, .inl ⟨e0, rfl, rfl⟩⟩
    · by_cases e1 : r = 1 ∨ r = 2 ∨ r = 3
      · exact ⟨_, c2, aft2.le aO, by omega, .inr (.inl ⟨e0, e1, rfl, rfl⟩)⟩
      · exact ⟨_, c2, aft2.le aO, by omega, .inr (.inr ⟨e0, e1, rfl, rfl⟩)⟩
  obtain ⟨xs, c', hA, hL, key⟩ := key
  refine ⟨xs, c', ?_, hA, hL⟩
  clear hA hL
  refine zba hmix Try.func78 rfl (by kernel_rfl) (by kernel_rfl) (Nat.le_of_ble_eq_true rfl) (fun row h => by (simp only [List.mem_cons, List.not_mem_nil, or_false] at h; first | (subst h; (first | exact .inl rfl | exact .inr (fun e he u hu => by (simp only [List.mem_cons, List.not_mem_nil, or_false] at he; subst he; simp only [List.mem_cons, List.not_mem_nil, or_false] at hu; subst hu; rfl)))) | (rcases h with rfl | rfl <;> (first | exact .inl rfl | exact .inr (fun e he u hu => by (simp only [List.mem_cons, List.not_mem_nil, or_false] at he; subst he; simp only [List.mem_cons, List.not_mem_nil, or_false] at hu; subst hu; rfl)))) | (rcases h with rfl | rfl | rfl <;> (first | exact .inl rfl | exact .inr (fun e he u hu => by (simp only [List.mem_cons, List.not_mem_nil, or_false] at he; subst he; simp only [List.mem_cons, List.not_mem_nil, or_false] at hu; subst hu; rfl)))) | (rcases h with rfl | rfl | rfl | rfl <;> (first | exact .inl rfl | exact .inr (fun e he u hu => by (simp only [List.mem_cons, List.not_mem_nil, or_false] at he; subst he; simp only [List.mem_cons, List.not_mem_nil, or_false] at hu; subst hu; rfl)))))) ?_
  have hty_s24 := ty_s24
  have hty_f26_2 := ty_f26_2
  have hty_c24 := ty_c24
  have hty_u24 := ty_u24
  have hty_f26_0 := ty_f26_0
  have hty_c3 := ty_c3
  repeat' (first
      | (refine zaz ?_; first | (refine za4 ?_; refine zas _ rfl ?_) | (refine zak ?_; refine zaa _ rfl ?_) | (refine zbu ?_; first | (refine zb0 rfl rfl aO ?_) | (refine x_quo rfl rfl aO ?_) | (refine zcq rfl rfl aO ?_) | (refine x_quoT rfl rfl aO ?_) | (refine zce rfl rfl aO ?_) | (refine zbs _ rfl rfl rfl ?_) | (refine zbr aA rfl rfl ?_) | (refine zav _ rfl rfl rfl ?_)) | (refine g_un ?_; first | (refine zb7 rfl ?_) | (refine zb8 rfl aO ?_)) | (refine zbb ?_; first | (refine zab aA rfl ?_) | (refine zae _ aA rfl rfl aE rfl ?_) | (refine zac _ aA rfl aZ aL ?_) | (refine zad _ aA rfl rfl aE aZ aL ?_)) | (refine zbz ?_; first | (refine zbf _ aA rfl aL ?_) | (refine zbg _ aA rfl rfl (by simp only [lx, Nat.reduceAdd]; first | done | rfl) ?_)) | (refine zb3 ?_; first | (refine zbn rfl aD rfl ?_) | (refine zbp rfl aD ?_) | (refine zbm rfl aD ?_) | (refine zbq rfl aD rfl ?_)) | (refine zby ?_; first | (refine zb4 rfl rfl aD ?_) | (refine zcc rfl rfl aD ?_) | (refine zcb rfl rfl ?_) | (refine zbo rfl rfl (fun h => ?_) (fun h => ?_) <;> (have h' := h; (try simp only [sx] at h')))) | (refine za9 ?_; first | (refine za8 aA rfl ?_) | (refine za6 aA rfl rfl ?_) | (refine za5 aA rfl ?_) | (refine za7 aA (evO_ok rfl) ?_) | (refine zbx _ _ aA rfl (lookM (by rfl)) rfl (lookM (by rfl)) rfl aN ⟨rfl, rfl, by decide, by decide⟩ (by first | rfl | omega | (simp; done) | (simp; omega) | fail) ⟨by first | (simp only [List.length_cons, List.length_nil]; omega) | omega | fail, by decide⟩ rfl (by first | (first | (simp only [lx, Nat.reduceAdd]; first | done | rfl) | fail) | rfl) aP ?_) | (refine zbw _ _ aA rfl rfl (lookM (by rfl)) ⟨rfl, by decide⟩ aN (by first | exact Nat.succ_pos _ | omega | (simp; done)) ⟨by first | (simp only [List.length_cons, List.length_nil]; omega) | omega | fail, by decide⟩ rfl rfl aP ?_) | (refine zbv _ aA rfl rfl (lookM (by rfl)) ⟨rfl, by decide⟩ aN ⟨by first | (simp only [List.length_cons, List.length_nil]; omega) | omega | fail, by decide⟩ rfl aP ?_) | (refine zbl _ aA rfl rfl rfl ⟨rfl, rfl, rfl, by decide, by decide⟩ (by first | rfl | (simp; done) | fail) ⟨by omega, by decide⟩ rfl aL (by first | (rw [Nat.zero_add]) | rfl) ?_)) | (refine zal aA rfl rfl rfl ?_) | (refine zbt _ _ rfl rfl rfl rfl ?_) | (refine zar (hK _ _ (.inl rfl) ?_); clear hK K) | (refine zar (hK _ _ (.inr (by kernel_rfl)) ?_); clear hK K))
      | (refine za3 ?_; first | (refine zbk ?_) | (refine zaf (fun K hK => ?_)) | (refine zap ?_) | (refine za0 ?_) | (refine zbj ?_) | (refine za1 ?_) | (refine zbe ?_; first | (refine zat rfl aD ?_) | (refine zau rfl aD ?_) | (refine zay rfl (fun h => ?_) (fun h => ?_) <;> (have h' := h; (try simp only [sx] at h')))))
      | (refine za2 ?_) | (refine zag ?_) | (refine zaj ?_) | (refine zao ?_) | (refine zam ?_) | (refine zan ?_) | (refine zaq rfl ?_) | (refine zah ?_) | (refine zai ?_) | (refine zbi ?_))
  all_goals try (exfalso; omega)
  refine zcd [0, 3] [(io, 0), (1001, 0)] (fun q : Nat × Cu × List Int × Nat × List (List PV) => [(5, .osl (1001, 0) 0 q.2.2.2.1), (6, .int .i64 q.1)]) (fun q : Nat × Cu × List Int × Nat × List (List PV) => [((io, 0), some (cuRow q.2.1)), ((1001, 0), some ⟨3, 1, q.2.2.2.2, false⟩)]) (fun q : Nat × Cu × List Int × Nat × List (List PV) => q.1 ≤ N ∧ q.2.1 = (f q.1).1 ∧ q.2.2.1 = (f q.1).2 ∧ q.2.2.1.length = q.2.2.2.1 ∧ q.2.2.2.2 = ints q.2.2.1) (fun q : Nat × Cu × List Int × Nat × List (List PV) => N - q.1) ((0, c, [], 0, [])) rfl rfl (fun _ => rfl) (fun _ => rfl) rfl aW ⟨by simp, by rw [f0], by rw [f0], rfl, rfl⟩ (fun q hq => ?_)
  obtain ⟨i, d, us, m, es⟩ := q
  obtain ⟨hi, hd, hus, hul, hes⟩ := hq
  simp only at hi hd hus hul hes
  dsimp only
  have hel : es.length = m := by rw [hes, ints_len, hul]
  have hmu := hel.symm
  obtain ⟨_, hli⟩ := (fs i).1 aO
  rw [← hus] at hli
  rcases Nat.lt_or_ge i N with hlt | hge
  · obtain ⟨y, ky, ey⟩ := (fs i).2 aO
    rw [← hd] at ky
    rw [← hus] at ey
    cases y
    · rw [if_neg (by simp)] at ey
      repeat' (first
      | (refine zaz ?_; first | (refine za4 ?_; refine zas _ rfl ?_) | (refine zak ?_; refine zaa _ rfl ?_) | (refine zbu ?_; first | (refine zb0 rfl rfl aO ?_) | (refine x_quo rfl rfl aO ?_) | (refine zcq rfl rfl aO ?_) | (refine x_quoT rfl rfl aO ?_) | (refine zce rfl rfl aO ?_) | (refine zbs _ rfl rfl rfl ?_) | (refine zbr aA rfl rfl ?_) | (refine zav _ rfl rfl rfl ?_)) | (refine g_un ?_; first | (refine zb7 rfl ?_) | (refine zb8 rfl aO ?_)) | (refine zbb ?_; first | (refine zab aA rfl ?_) | (refine zae _ aA rfl rfl aE rfl ?_) | (refine zac _ aA rfl aZ aL ?_) | (refine zad _ aA rfl rfl aE aZ aL ?_)) | (refine zbz ?_; first | (refine zbf _ aA rfl aL ?_) | (refine zbg _ aA rfl rfl (by simp only [lx, Nat.reduceAdd]; first | done | rfl) ?_)) | (refine zb3 ?_; first | (refine zbn rfl aD rfl ?_) | (refine zbp rfl aD ?_) | (refine zbm rfl aD ?_) | (refine zbq rfl aD rfl ?_)) | (refine zby ?_; first | (refine zb4 rfl rfl aD ?_) | (refine zcc rfl rfl aD ?_) | (refine zcb rfl rfl ?_) | (refine zbo rfl rfl (fun h => ?_) (fun h => ?_) <;> (have h' := h; (try simp only [sx] at h')))) | (refine za9 ?_; first | (refine zcg [(io, 0)] (ky) rfl rfl (by (repeat' (first | exact trivial | refine ⟨⟨_, rfl, ?_⟩, ?_⟩ | exact .inl ⟨rfl, .inl rfl⟩ | exact .inr ⟨rfl, rfl, rfl, rfl, rfl, fun e he u hu => by (simp only [List.mem_cons, List.not_mem_nil, or_false] at he; subst he; simp only [List.mem_cons, List.not_mem_nil, or_false] at hu; subst hu; rfl)⟩ | exact .inl ⟨rfl, .inr (fun e he => by (simp only [List.mem_cons, List.not_mem_nil, or_false] at he; subst he; rfl))⟩ | fail)); first | done | fail) rfl rfl aS rfl aH rfl ?_; simp only [cl]) | (refine za8 aA rfl ?_) | (refine za6 aA rfl rfl ?_) | (refine za5 aA rfl ?_) | (refine za7 aA (evO_ok rfl) ?_) | (refine zbx _ _ aA rfl (lookM (by rfl)) rfl (lookM (by rfl)) rfl aN ⟨rfl, rfl, by decide, by decide⟩ (by first | rfl | omega | (simp; done) | (simp; omega) | fail) ⟨by first | (simp only [List.length_cons, List.length_nil]; omega) | omega | fail, by decide⟩ rfl (by first | (first | (simp only [lx, Nat.reduceAdd]; first | done | rfl) | fail) | rfl) aP ?_) | (refine zbw _ _ aA rfl rfl (lookM (by rfl)) ⟨rfl, by decide⟩ aN (by first | exact Nat.succ_pos _ | omega | (simp; done)) ⟨by first | (simp only [List.length_cons, List.length_nil]; omega) | omega | fail, by decide⟩ rfl rfl aP ?_) | (refine zbv _ aA rfl rfl (lookM (by rfl)) ⟨rfl, by decide⟩ aN ⟨by first | (simp only [List.length_cons, List.length_nil]; omega) | omega | fail, by decide⟩ rfl aP ?_) | (refine zbl _ aA rfl rfl rfl ⟨rfl, rfl, rfl, by decide, by decide⟩ (by first | rfl | (simp; done) | fail) ⟨by omega, by decide⟩ rfl aL (by first | (rw [Nat.zero_add]) | rfl) ?_)) | (refine zal aA rfl rfl rfl ?_) | (refine zbt _ _ rfl rfl rfl rfl ?_) | (refine zar (hK _ _ (.inl rfl) ?_); clear hK K) | (refine zar (hK _ _ (.inr (by kernel_rfl)) ?_); clear hK K))
      | (refine za3 ?_; first | (refine zbk ?_) | (refine zaf (fun K hK => ?_)) | (refine zap ?_) | (refine za0 ?_) | (refine zbj ?_) | (refine za1 ?_) | (refine zbe ?_; first | (refine zat rfl aD ?_) | (refine zau rfl aD ?_) | (refine zay rfl (fun h => ?_) (fun h => ?_) <;> (have h' := h; (try simp only [sx] at h')))))
      | (refine za2 ?_) | (refine zag ?_) | (refine zaj ?_) | (refine zao ?_) | (refine zam ?_) | (refine zan ?_) | (refine zaq rfl ?_) | (refine zah ?_) | (refine zai ?_) | (refine zbi ?_))
      all_goals first
        | (exfalso; omega)
        | (refine zb6 (i + 1, (f (i + 1)).1, us ++ [(i : Int)], m + 1, es ++ [[.int .i64 (i : Int)]]) rfl aW ⟨by simp only; omega, rfl, ey.symm, by simp [hul], by simp only [ints_snoc, hes]⟩ (by simp only; omega))
    · rw [if_pos rfl] at ey
      repeat' (first
      | (refine zaz ?_; first | (refine za4 ?_; refine zas _ rfl ?_) | (refine zak ?_; refine zaa _ rfl ?_) | (refine zbu ?_; first | (refine zb0 rfl rfl aO ?_) | (refine x_quo rfl rfl aO ?_) | (refine zcq rfl rfl aO ?_) | (refine x_quoT rfl rfl aO ?_) | (refine zce rfl rfl aO ?_) | (refine zbs _ rfl rfl rfl ?_) | (refine zbr aA rfl rfl ?_) | (refine zav _ rfl rfl rfl ?_)) | (refine g_un ?_; first | (refine zb7 rfl ?_) | (refine zb8 rfl aO ?_)) | (refine zbb ?_; first | (refine zab aA rfl ?_) | (refine zae _ aA rfl rfl aE rfl ?_) | (refine zac _ aA rfl aZ aL ?_) | (refine zad _ aA rfl rfl aE aZ aL ?_)) | (refine zbz ?_; first | (refine zbf _ aA rfl aL ?_) | (refine zbg _ aA rfl rfl (by simp only [lx, Nat.reduceAdd]; first | done | rfl) ?_)) | (refine zb3 ?_; first | (refine zbn rfl aD rfl ?_) | (refine zbp rfl aD ?_) | (refine zbm rfl aD ?_) | (refine zbq rfl aD rfl ?_)) | (refine zby ?_; first | (refine zb4 rfl rfl aD ?_) | (refine zcc rfl rfl aD ?_) | (refine zcb rfl rfl ?_) | (refine zbo rfl rfl (fun h => ?_) (fun h => ?_) <;> (have h' := h; (try simp only [sx] at h')))) | (refine za9 ?_; first | (refine zcg [(io, 0)] (ky) rfl rfl (by (repeat' (first | exact trivial | refine ⟨⟨_, rfl, ?_⟩, ?_⟩ | exact .inl ⟨rfl, .inl rfl⟩ | exact .inr ⟨rfl, rfl, rfl, rfl, rfl, fun e he u hu => by (simp only [List.mem_cons, List.not_mem_nil, or_false] at he; subst he; simp only [List.mem_cons, List.not_mem_nil, or_false] at hu; subst hu; rfl)⟩ | exact .inl ⟨rfl, .inr (fun e he => by (simp only [List.mem_cons, List.not_mem_nil, or_false] at he; subst he; rfl))⟩ | fail)); first | done | fail) rfl rfl aS rfl aH rfl ?_; simp only [cl]) | (refine za8 aA rfl ?_) | (refine za6 aA rfl rfl ?_) | (refine za5 aA rfl ?_) | (refine za7 aA (evO_ok rfl) ?_) | (refine zbx _ _ aA rfl (lookM (by rfl)) rfl (lookM (by rfl)) rfl aN ⟨rfl, rfl, by decide, by decide⟩ (by first | rfl | omega | (simp; done) | (simp; omega) | fail) ⟨by first | (simp only [List.length_cons, List.length_nil]; omega) | omega | fail, by decide⟩ rfl (by first | (first | (simp only [lx, Nat.reduceAdd]; first | done | rfl) | fail) | rfl) aP ?_) | (refine zbw _ _ aA rfl rfl (lookM (by rfl)) ⟨rfl, by decide⟩ aN (by first | exact Nat.succ_pos _ | omega | (simp; done)) ⟨by first | (simp only [List.length_cons, List.length_nil]; omega) | omega | fail, by decide⟩ rfl rfl aP ?_) | (refine zbv _ aA rfl rfl (lookM (by rfl)) ⟨rfl, by decide⟩ aN ⟨by first | (simp only [List.length_cons, List.length_nil]; omega) | omega | fail, by decide⟩ rfl aP ?_) | (refine zbl _ aA rfl rfl rfl ⟨rfl, rfl, rfl, by decide, by decide⟩ (by first | rfl | (simp; done) | fail) ⟨by omega, by decide⟩ rfl aL (by first | (rw [Nat.zero_add]) | rfl) ?_)) | (refine zal aA rfl rfl rfl ?_) | (refine zbt _ _ rfl rfl rfl rfl ?_) | (refine zar (hK _ _ (.inl rfl) ?_); clear hK K) | (refine zar (hK _ _ (.inr (by kernel_rfl)) ?_); clear hK K))
      | (refine za3 ?_; first | (refine zbk ?_) | (refine zaf (fun K hK => ?_)) | (refine zap ?_) | (refine za0 ?_) | (refine zbj ?_) | (refine za1 ?_) | (refine zbe ?_; first | (refine zat rfl aD ?_) | (refine zau rfl aD ?_) | (refine zay rfl (fun h => ?_) (fun h => ?_) <;> (have h' := h; (try simp only [sx] at h')))))
      | (refine za2 ?_) | (refine zag ?_) | (refine zaj ?_) | (refine zao ?_) | (refine zam ?_) | (refine zan ?_) | (refine zaq rfl ?_) | (refine zah ?_) | (refine zai ?_) | (refine zbi ?_))
      all_goals first
        | (exfalso; omega)
        | (refine zb6 (i + 1, (f (i + 1)).1, us, m, es) rfl aW ⟨by simp only; omega, rfl, ey.symm, hul, hes⟩ (by simp only; omega))
  · have hin : i = N := by omega
    subst hin
    rw [← hd] at k2
    rw [← hus] at key
    rcases key with ⟨e0, rfl, rfl⟩ | ⟨e0, e1, rfl, rfl⟩ | ⟨e0, e1, rfl, rfl⟩
    · repeat' (first
      | (refine zaz ?_; first | (refine za4 ?_; refine zas _ rfl ?_) | (refine zak ?_; refine zaa _ rfl ?_) | (refine zbu ?_; first | (refine zb0 rfl rfl aO ?_) | (refine x_quo rfl rfl aO ?_) | (refine zcq rfl rfl aO ?_) | (refine x_quoT rfl rfl aO ?_) | (refine zce rfl rfl aO ?_) | (refine zbs _ rfl rfl rfl ?_) | (refine zbr aA rfl rfl ?_) | (refine zav _ rfl rfl rfl ?_)) | (refine g_un ?_; first | (refine zb7 rfl ?_) | (refine zb8 rfl aO ?_)) | (refine zbb ?_; first | (refine zab aA rfl ?_) | (refine zae _ aA rfl rfl aE rfl ?_) | (refine zac _ aA rfl aZ aL ?_) | (refine zad _ aA rfl rfl aE aZ aL ?_)) | (refine zbz ?_; first | (refine zbf _ aA rfl aL ?_) | (refine zbg _ aA rfl rfl (by simp only [lx, Nat.reduceAdd]; first | done | rfl) ?_)) | (refine zb3 ?_; first | (refine zbn rfl aD rfl ?_) | (refine zbp rfl aD ?_) | (refine zbm rfl aD ?_) | (refine zbq rfl aD rfl ?_)) | (refine zby ?_; first | (refine zb4 rfl rfl aD ?_) | (refine zcc rfl rfl aD ?_) | (refine zcb rfl rfl ?_) | (refine zbo rfl rfl (fun h => ?_) (fun h => ?_) <;> (have h' := h; (try simp only [sx] at h')))) | (refine za9 ?_; first | (refine zcg [(io, 0)] (k2) rfl rfl (by (repeat' (first | exact trivial | refine ⟨⟨_, rfl, ?_⟩, ?_⟩ | exact .inl ⟨rfl, .inl rfl⟩ | exact .inr ⟨rfl, rfl, rfl, rfl, rfl, fun e he u hu => by (simp only [List.mem_cons, List.not_mem_nil, or_false] at he; subst he; simp only [List.mem_cons, List.not_mem_nil, or_false] at hu; subst hu; rfl)⟩ | exact .inl ⟨rfl, .inr (fun e he => by (simp only [List.mem_cons, List.not_mem_nil, or_false] at he; subst he; rfl))⟩ | fail)); first | done | fail) rfl rfl aS rfl aH rfl ?_; simp only [cl]) | (refine zcg [(io, 0)] (k3) rfl rfl (by (repeat' (first | exact trivial | refine ⟨⟨_, rfl, ?_⟩, ?_⟩ | exact .inl ⟨rfl, .inl rfl⟩ | exact .inr ⟨rfl, rfl, rfl, rfl, rfl, fun e he u hu => by (simp only [List.mem_cons, List.not_mem_nil, or_false] at he; subst he; simp only [List.mem_cons, List.not_mem_nil, or_false] at hu; subst hu; rfl)⟩ | exact .inl ⟨rfl, .inr (fun e he => by (simp only [List.mem_cons, List.not_mem_nil, or_false] at he; subst he; rfl))⟩ | fail)); first | done | fail) rfl rfl aS rfl aH rfl ?_; simp only [cl]) | (refine za8 aA rfl ?_) | (refine za6 aA rfl rfl ?_) | (refine za5 aA rfl ?_) | (refine za7 aA (evO_ok rfl) ?_) | (refine zbx _ _ aA rfl (lookM (by rfl)) rfl (lookM (by rfl)) rfl aN ⟨rfl, rfl, by decide, by decide⟩ (by first | rfl | omega | (simp; done) | (simp; omega) | fail) ⟨by first | (simp only [List.length_cons, List.length_nil]; omega) | omega | fail, by decide⟩ rfl (by first | (first | (simp only [lx, Nat.reduceAdd]; first | done | rfl) | fail) | rfl) aP ?_) | (refine zbw _ _ aA rfl rfl (lookM (by rfl)) ⟨rfl, by decide⟩ aN (by first | exact Nat.succ_pos _ | omega | (simp; done)) ⟨by first | (simp only [List.length_cons, List.length_nil]; omega) | omega | fail, by decide⟩ rfl rfl aP ?_) | (refine zbv _ aA rfl rfl (lookM (by rfl)) ⟨rfl, by decide⟩ aN ⟨by first | (simp only [List.length_cons, List.length_nil]; omega) | omega | fail, by decide⟩ rfl aP ?_) | (refine zbl _ aA rfl rfl rfl ⟨rfl, rfl, rfl, by decide, by decide⟩ (by first | rfl | (simp; done) | fail) ⟨by omega, by decide⟩ rfl aL (by first | (rw [Nat.zero_add]) | rfl) ?_)) | (refine zal aA rfl rfl rfl ?_) | (refine zbt _ _ rfl rfl rfl rfl ?_) | (refine zar (hK _ _ (.inl rfl) ?_); clear hK K) | (refine zar (hK _ _ (.inr (by kernel_rfl)) ?_); clear hK K))
      | (refine za3 ?_; first | (refine zbk ?_) | (refine zaf (fun K hK => ?_)) | (refine zap ?_) | (refine za0 ?_) | (refine zbj ?_) | (refine za1 ?_) | (refine zbe ?_; first | (refine zat rfl aD ?_) | (refine zau rfl aD ?_) | (refine zay rfl (fun h => ?_) (fun h => ?_) <;> (have h' := h; (try simp only [sx] at h')))))
      | (refine za2 ?_) | (refine zag ?_) | (refine zaj ?_) | (refine zao ?_) | (refine zam ?_) | (refine zan ?_) | (refine zaq rfl ?_) | (refine zah ?_) | (refine zai ?_) | (refine zbi ?_))
      all_goals first
        | (exfalso; omega)
        | exact ret_lL rfl rfl rfl (by decide) ⟨⟨rfl, rfl, fun h => by cases h⟩, trivial⟩ rfl rfl (by simp [hel]) (by simp [hes])
    · repeat' (first
      | (refine zaz ?_; first | (refine za4 ?_; refine zas _ rfl ?_) | (refine zak ?_; refine zaa _ rfl ?_) | (refine zbu ?_; first | (refine zb0 rfl rfl aO ?_) | (refine x_quo rfl rfl aO ?_) | (refine zcq rfl rfl aO ?_) | (refine x_quoT rfl rfl aO ?_) | (refine zce rfl rfl aO ?_) | (refine zbs _ rfl rfl rfl ?_) | (refine zbr aA rfl rfl ?_) | (refine zav _ rfl rfl rfl ?_)) | (refine g_un ?_; first | (refine zb7 rfl ?_) | (refine zb8 rfl aO ?_)) | (refine zbb ?_; first | (refine zab aA rfl ?_) | (refine zae _ aA rfl rfl aE rfl ?_) | (refine zac _ aA rfl aZ aL ?_) | (refine zad _ aA rfl rfl aE aZ aL ?_)) | (refine zbz ?_; first | (refine zbf _ aA rfl aL ?_) | (refine zbg _ aA rfl rfl (by simp only [lx, Nat.reduceAdd]; first | done | rfl) ?_)) | (refine zb3 ?_; first | (refine zbn rfl aD rfl ?_) | (refine zbp rfl aD ?_) | (refine zbm rfl aD ?_) | (refine zbq rfl aD rfl ?_)) | (refine zby ?_; first | (refine zb4 rfl rfl aD ?_) | (refine zcc rfl rfl aD ?_) | (refine zcb rfl rfl ?_) | (refine zbo rfl rfl (fun h => ?_) (fun h => ?_) <;> (have h' := h; (try simp only [sx] at h')))) | (refine za9 ?_; first | (refine zcg [(io, 0)] (k2) rfl rfl (by (repeat' (first | exact trivial | refine ⟨⟨_, rfl, ?_⟩, ?_⟩ | exact .inl ⟨rfl, .inl rfl⟩ | exact .inr ⟨rfl, rfl, rfl, rfl, rfl, fun e he u hu => by (simp only [List.mem_cons, List.not_mem_nil, or_false] at he; subst he; simp only [List.mem_cons, List.not_mem_nil, or_false] at hu; subst hu; rfl)⟩ | exact .inl ⟨rfl, .inr (fun e he => by (simp only [List.mem_cons, List.not_mem_nil, or_false] at he; subst he; rfl))⟩ | fail)); first | done | fail) rfl rfl aS rfl aH rfl ?_; simp only [cl]) | (refine za8 aA rfl ?_) | (refine za6 aA rfl rfl ?_) | (refine za5 aA rfl ?_) | (refine za7 aA (evO_ok rfl) ?_) | (refine zbx _ _ aA rfl (lookM (by rfl)) rfl (lookM (by rfl)) rfl aN ⟨rfl, rfl, by decide, by decide⟩ (by first | rfl | omega | (simp; done) | (simp; omega) | fail) ⟨by first | (simp only [List.length_cons, List.length_nil]; omega) | omega | fail, by decide⟩ rfl (by first | (first | (simp only [lx, Nat.reduceAdd]; first | done | rfl) | fail) | rfl) aP ?_) | (refine zbw _ _ aA rfl rfl (lookM (by rfl)) ⟨rfl, by decide⟩ aN (by first | exact Nat.succ_pos _ | omega | (simp; done)) ⟨by first | (simp only [List.length_cons, List.length_nil]; omega) | omega | fail, by decide⟩ rfl rfl aP ?_) | (refine zbv _ aA rfl rfl (lookM (by rfl)) ⟨rfl, by decide⟩ aN ⟨by first | (simp only [List.length_cons, List.length_nil]; omega) | omega | fail, by decide⟩ rfl aP ?_) | (refine zbl _ aA rfl rfl rfl ⟨rfl, rfl, rfl, by decide, by decide⟩ (by first | rfl | (simp; done) | fail) ⟨by omega, by decide⟩ rfl aL (by first | (rw [Nat.zero_add]) | rfl) ?_)) | (refine zal aA rfl rfl rfl ?_) | (refine zbt _ _ rfl rfl rfl rfl ?_) | (refine zar (hK _ _ (.inl rfl) ?_); clear hK K) | (refine zar (hK _ _ (.inr (by kernel_rfl)) ?_); clear hK K))
      | (refine za3 ?_; first | (refine zbk ?_) | (refine zaf (fun K hK => ?_)) | (refine zap ?_) | (refine za0 ?_) | (refine zbj ?_) | (refine za1 ?_) | (refine zbe ?_; first | (refine zat rfl aD ?_) | (refine zau rfl aD ?_) | (refine zay rfl (fun h => ?_) (fun h => ?_) <;> (have h' := h; (try simp only [sx] at h')))))
      | (refine za2 ?_) | (refine zag ?_) | (refine zaj ?_) | (refine zao ?_) | (refine zam ?_) | (refine zan ?_) | (refine zaq rfl ?_) | (refine zah ?_) | (refine zai ?_) | (refine zbi ?_))
      all_goals try (exfalso; omega)
      all_goals
        refine zcd [3] [(io, 0), (1001, 0)] (fun q : List Int × List (List PV) × Nat × Nat => [(5, .osl (1001, 0) 0 q.2.2.1), (7, .int .i64 q.2.2.2)]) (fun q : List Int × List (List PV) × Nat × Nat => [((io, 0), some (cuRow c')), ((1001, 0), some ⟨3, 1, q.2.1, false⟩)]) (fun q : List Int × List (List PV) × Nat × Nat => (q.2.1 = ints q.1 ∧ q.1.length = q.2.2.1 ∧ q.2.2.1 ≤ q.2.2.2) ∧ q.2.2.2 ≤ t.burn.length ∧ (0 < t.width → q.1 = cellsL q.2.2.2 (stB t)) ∧ (¬ 0 < t.width → q.1 = [])) (fun q : List Int × List (List PV) × Nat × Nat => t.burn.length - q.2.2.2) (([], [], 0, 0)) rfl rfl (fun _ => rfl) (fun _ => rfl) rfl aW ⟨⟨rfl, rfl, by simp⟩, by simp, fun _ => rfl, fun _ => rfl⟩ (fun q hq => ?_)
        obtain ⟨vs, gs, n, j⟩ := q
        obtain ⟨⟨hgs, hvn, hnj⟩, hj, hv1, hv2⟩ := hq
        simp only at hgs hvn hnj hj hv1 hv2
        dsimp only
        have hgl : gs.length = n := by rw [hgs, ints_len, hvn]
        have hne := hgl.symm
        by_cases hw : 0 < t.width
        · have hv1 := hv1 hw
          rcases Nat.lt_or_ge j t.burn.length with hlt2 | hge2
          · by_cases hc4 : (j : Int) % t.width = 1 ∨ (j : Int) / t.width = 1 ∨ (j : Int) % t.width = 3 ∨ (j : Int) / t.width = 3
            · have e2 := cellsL_t (n := j) (p := stB t) (by simp only [stB, Bool.or_eq_true, decide_eq_true_eq]; exact hc4)
              repeat' (first
      | (refine zaz ?_; first | (refine za4 ?_; refine zas _ rfl ?_) | (refine zak ?_; refine zaa _ rfl ?_) | (refine zbu ?_; first | (refine zb0 rfl rfl aO ?_) | (refine x_quo rfl rfl aO ?_) | (refine zcq rfl rfl aO ?_) | (refine x_quoT rfl rfl aO ?_) | (refine zce rfl rfl aO ?_) | (refine zbs _ rfl rfl rfl ?_) | (refine zbr aA rfl rfl ?_) | (refine zav _ rfl rfl rfl ?_)) | (refine g_un ?_; first | (refine zb7 rfl ?_) | (refine zb8 rfl aO ?_)) | (refine zbb ?_; first | (refine zab aA rfl ?_) | (refine zae _ aA rfl rfl aE rfl ?_) | (refine zac _ aA rfl aZ aL ?_) | (refine zad _ aA rfl rfl aE aZ aL ?_)) | (refine zbz ?_; first | (refine zbf _ aA rfl aL ?_) | (refine zbg _ aA rfl rfl (by simp only [lx, Nat.reduceAdd]; first | done | rfl) ?_)) | (refine zb3 ?_; first | (refine zbn rfl aD rfl ?_) | (refine zbp rfl aD ?_) | (refine zbm rfl aD ?_) | (refine zbq rfl aD rfl ?_)) | (refine zby ?_; first | (refine zb4 rfl rfl aD ?_) | (refine zcc rfl rfl aD ?_) | (refine zcb rfl rfl ?_) | (refine zbo rfl rfl (fun h => ?_) (fun h => ?_) <;> (have h' := h; (try simp only [sx] at h')))) | (refine za9 ?_; first | (refine za8 aA rfl ?_) | (refine za6 aA rfl rfl ?_) | (refine za5 aA rfl ?_) | (refine za7 aA (evO_ok rfl) ?_) | (refine zbx _ _ aA rfl (lookM (by rfl)) rfl (lookM (by rfl)) rfl aN ⟨rfl, rfl, by decide, by decide⟩ (by first | rfl | omega | (simp; done) | (simp; omega) | fail) ⟨by first | (simp only [List.length_cons, List.length_nil]; omega) | omega | fail, by decide⟩ rfl (by first | (first | (simp only [lx, Nat.reduceAdd]; first | done | rfl) | fail) | rfl) aP ?_) | (refine zbw _ _ aA rfl rfl (lookM (by rfl)) ⟨rfl, by decide⟩ aN (by first | exact Nat.succ_pos _ | omega | (simp; done)) ⟨by first | (simp only [List.length_cons, List.length_nil]; omega) | omega | fail, by decide⟩ rfl rfl aP ?_) | (refine zbv _ aA rfl rfl (lookM (by rfl)) ⟨rfl, by decide⟩ aN ⟨by first | (simp only [List.length_cons, List.length_nil]; omega) | omega | fail, by decide⟩ rfl aP ?_) | (refine zbl _ aA rfl rfl rfl ⟨rfl, rfl, rfl, by decide, by decide⟩ (by first | rfl | (simp; done) | fail) ⟨by omega, by decide⟩ rfl aL (by first | (rw [Nat.zero_add]) | rfl) ?_)) | (refine zal aA rfl rfl rfl ?_) | (refine zbt _ _ rfl rfl rfl rfl ?_) | (refine zar (hK _ _ (.inl rfl) ?_); clear hK K) | (refine zar (hK _ _ (.inr (by kernel_rfl)) ?_); clear hK K))
      | (refine za3 ?_; first | (refine zbk ?_) | (refine zaf (fun K hK => ?_)) | (refine zap ?_) | (refine za0 ?_) | (refine zbj ?_) | (refine za1 ?_) | (refine zbe ?_; first | (refine zat rfl aD ?_) | (refine zau rfl aD ?_) | (refine zay rfl (fun h => ?_) (fun h => ?_) <;> (have h' := h; (try simp only [sx] at h')))))
      | (refine za2 ?_) | (refine zag ?_) | (refine zaj ?_) | (refine zao ?_) | (refine zam ?_) | (refine zan ?_) | (refine zaq rfl ?_) | (refine zah ?_) | (refine zai ?_) | (refine zbi ?_))
              all_goals first
                | (exfalso; omega)
                | (refine zb6 (vs ++ [(j : Int)], gs ++ [[.int .i64 (j : Int)]], n + 1, j + 1) rfl aW ⟨⟨by simp only [ints_snoc, hgs], by simp [hvn], by simp only; omega⟩, by simp only; omega, fun _ => by simp only [e2, hv1], fun h => absurd hw h⟩ (by simp only; omega))
            · have e2 := cellsL_f (n := j) (p := stB t) (by rw [← Bool.not_eq_true]; simp only [stB, Bool.or_eq_true, decide_eq_true_eq]; exact hc4)
              repeat' (first
      | (refine zaz ?_; first | (refine za4 ?_; refine zas _ rfl ?_) | (refine zak ?_; refine zaa _ rfl ?_) | (refine zbu ?_; first | (refine zb0 rfl rfl aO ?_) | (refine x_quo rfl rfl aO ?_) | (refine zcq rfl rfl aO ?_) | (refine x_quoT rfl rfl aO ?_) | (refine zce rfl rfl aO ?_) | (refine zbs _ rfl rfl rfl ?_) | (refine zbr aA rfl rfl ?_) | (refine zav _ rfl rfl rfl ?_)) | (refine g_un ?_; first | (refine zb7 rfl ?_) | (refine zb8 rfl aO ?_)) | (refine zbb ?_; first | (refine zab aA rfl ?_) | (refine zae _ aA rfl rfl aE rfl ?_) | (refine zac _ aA rfl aZ aL ?_) | (refine zad _ aA rfl rfl aE aZ aL ?_)) | (refine zbz ?_; first | (refine zbf _ aA rfl aL ?_) | (refine zbg _ aA rfl rfl (by simp only [lx, Nat.reduceAdd]; first | done | rfl) ?_)) | (refine zb3 ?_; first | (refine zbn rfl aD rfl ?_) | (refine zbp rfl aD ?_) | (refine zbm rfl aD ?_) | (refine zbq rfl aD rfl ?_)) | (refine zby ?_; first | (refine zb4 rfl rfl aD ?_) | (refine zcc rfl rfl aD ?_) | (refine zcb rfl rfl ?_) | (refine zbo rfl rfl (fun h => ?_) (fun h => ?_) <;> (have h' := h; (try simp only [sx] at h')))) | (refine za9 ?_; first | (refine za8 aA rfl ?_) | (refine za6 aA rfl rfl ?_) | (refine za5 aA rfl ?_) | (refine za7 aA (evO_ok rfl) ?_) | (refine zbx _ _ aA rfl (lookM (by rfl)) rfl (lookM (by rfl)) rfl aN ⟨rfl, rfl, by decide, by decide⟩ (by first | rfl | omega | (simp; done) | (simp; omega) | fail) ⟨by first | (simp only [List.length_cons, List.length_nil]; omega) | omega | fail, by decide⟩ rfl (by first | (first | (simp only [lx, Nat.reduceAdd]; first | done | rfl) | fail) | rfl) aP ?_) | (refine zbw _ _ aA rfl rfl (lookM (by rfl)) ⟨rfl, by decide⟩ aN (by first | exact Nat.succ_pos _ | omega | (simp; done)) ⟨by first | (simp only [List.length_cons, List.length_nil]; omega) | omega | fail, by decide⟩ rfl rfl aP ?_) | (refine zbv _ aA rfl rfl (lookM (by rfl)) ⟨rfl, by decide⟩ aN ⟨by first | (simp only [List.length_cons, List.length_nil]; omega) | omega | fail, by decide⟩ rfl aP ?_) | (refine zbl _ aA rfl rfl rfl ⟨rfl, rfl, rfl, by decide, by decide⟩ (by first | rfl | (simp; done) | fail) ⟨by omega, by decide⟩ rfl aL (by first | (rw [Nat.zero_add]) | rfl) ?_)) | (refine zal aA rfl rfl rfl ?_) | (refine zbt _ _ rfl rfl rfl rfl ?_) | (refine zar (hK _ _ (.inl rfl) ?_); clear hK K) | (refine zar (hK _ _ (.inr (by kernel_rfl)) ?_); clear hK K))
      | (refine za3 ?_; first | (refine zbk ?_) | (refine zaf (fun K hK => ?_)) | (refine zap ?_) | (refine za0 ?_) | (refine zbj ?_) | (refine za1 ?_) | (refine zbe ?_; first | (refine zat rfl aD ?_) | (refine zau rfl aD ?_) | (refine zay rfl (fun h => ?_) (fun h => ?_) <;> (have h' := h; (try simp only [sx] at h')))))
      | (refine za2 ?_) | (refine zag ?_) | (refine zaj ?_) | (refine zao ?_) | (refine zam ?_) | (refine zan ?_) | (refine zaq rfl ?_) | (refine zah ?_) | (refine zai ?_) | (refine zbi ?_))
              all_goals first
                | (exfalso; omega)
                | (refine zb6 (vs, gs, n, j + 1) rfl aW ⟨⟨hgs, hvn, by simp only; omega⟩, by simp only; omega, fun _ => by simp only [e2, hv1], fun h => absurd hw h⟩ (by simp only; omega))
          · have hjn : j = t.burn.length := by omega
            have e3 : gs = ints (stL t) := by rw [hgs, hv1, hjn]; unfold stL; rw [if_pos hw]
            repeat' (first
      | (refine zaz ?_; first | (refine za4 ?_; refine zas _ rfl ?_) | (refine zak ?_; refine zaa _ rfl ?_) | (refine zbu ?_; first | (refine zb0 rfl rfl aO ?_) | (refine x_quo rfl rfl aO ?_) | (refine zcq rfl rfl aO ?_) | (refine x_quoT rfl rfl aO ?_) | (refine zce rfl rfl aO ?_) | (refine zbs _ rfl rfl rfl ?_) | (refine zbr aA rfl rfl ?_) | (refine zav _ rfl rfl rfl ?_)) | (refine g_un ?_; first | (refine zb7 rfl ?_) | (refine zb8 rfl aO ?_)) | (refine zbb ?_; first | (refine zab aA rfl ?_) | (refine zae _ aA rfl rfl aE rfl ?_) | (refine zac _ aA rfl aZ aL ?_) | (refine zad _ aA rfl rfl aE aZ aL ?_)) | (refine zbz ?_; first | (refine zbf _ aA rfl aL ?_) | (refine zbg _ aA rfl rfl (by simp only [lx, Nat.reduceAdd]; first | done | rfl) ?_)) | (refine zb3 ?_; first | (refine zbn rfl aD rfl ?_) | (refine zbp rfl aD ?_) | (refine zbm rfl aD ?_) | (refine zbq rfl aD rfl ?_)) | (refine zby ?_; first | (refine zb4 rfl rfl aD ?_) | (refine zcc rfl rfl aD ?_) | (refine zcb rfl rfl ?_) | (refine zbo rfl rfl (fun h => ?_) (fun h => ?_) <;> (have h' := h; (try simp only [sx] at h')))) | (refine za9 ?_; first | (refine za8 aA rfl ?_) | (refine za6 aA rfl rfl ?_) | (refine za5 aA rfl ?_) | (refine za7 aA (evO_ok rfl) ?_) | (refine zbx _ _ aA rfl (lookM (by rfl)) rfl (lookM (by rfl)) rfl aN ⟨rfl, rfl, by decide, by decide⟩ (by first | rfl | omega | (simp; done) | (simp; omega) | fail) ⟨by first | (simp only [List.length_cons, List.length_nil]; omega) | omega | fail, by decide⟩ rfl (by first | (first | (simp only [lx, Nat.reduceAdd]; first | done | rfl) | fail) | rfl) aP ?_) | (refine zbw _ _ aA rfl rfl (lookM (by rfl)) ⟨rfl, by decide⟩ aN (by first | exact Nat.succ_pos _ | omega | (simp; done)) ⟨by first | (simp only [List.length_cons, List.length_nil]; omega) | omega | fail, by decide⟩ rfl rfl aP ?_) | (refine zbv _ aA rfl rfl (lookM (by rfl)) ⟨rfl, by decide⟩ aN ⟨by first | (simp only [List.length_cons, List.length_nil]; omega) | omega | fail, by decide⟩ rfl aP ?_) | (refine zbl _ aA rfl rfl rfl ⟨rfl, rfl, rfl, by decide, by decide⟩ (by first | rfl | (simp; done) | fail) ⟨by omega, by decide⟩ rfl aL (by first | (rw [Nat.zero_add]) | rfl) ?_)) | (refine zal aA rfl rfl rfl ?_) | (refine zbt _ _ rfl rfl rfl rfl ?_) | (refine zar (hK _ _ (.inl rfl) ?_); clear hK K) | (refine zar (hK _ _ (.inr (by kernel_rfl)) ?_); clear hK K))
      | (refine za3 ?_; first | (refine zbk ?_) | (refine zaf (fun K hK => ?_)) | (refine zap ?_) | (refine za0 ?_) | (refine zbj ?_) | (refine za1 ?_) | (refine zbe ?_; first | (refine zat rfl aD ?_) | (refine zau rfl aD ?_) | (refine zay rfl (fun h => ?_) (fun h => ?_) <;> (have h' := h; (try simp only [sx] at h')))))
      | (refine za2 ?_) | (refine zag ?_) | (refine zaj ?_) | (refine zao ?_) | (refine zam ?_) | (refine zan ?_) | (refine zaq rfl ?_) | (refine zah ?_) | (refine zai ?_) | (refine zbi ?_))
            all_goals first
              | (exfalso; omega)
              | exact ret_lL rfl rfl rfl (by decide) ⟨⟨rfl, rfl, fun h => by cases h⟩, trivial⟩ rfl rfl hne e3
        · have hv2 := hv2 hw
          have e3 : gs = ints (stL t) := by rw [hgs, hv2]; unfold stL; rw [if_neg hw]
          repeat' (first
      | (refine zaz ?_; first | (refine za4 ?_; refine zas _ rfl ?_) | (refine zak ?_; refine zaa _ rfl ?_) | (refine zbu ?_; first | (refine zb0 rfl rfl aO ?_) | (refine x_quo rfl rfl aO ?_) | (refine zcq rfl rfl aO ?_) | (refine x_quoT rfl rfl aO ?_) | (refine zce rfl rfl aO ?_) | (refine zbs _ rfl rfl rfl ?_) | (refine zbr aA rfl rfl ?_) | (refine zav _ rfl rfl rfl ?_)) | (refine g_un ?_; first | (refine zb7 rfl ?_) | (refine zb8 rfl aO ?_)) | (refine zbb ?_; first | (refine zab aA rfl ?_) | (refine zae _ aA rfl rfl aE rfl ?_) | (refine zac _ aA rfl aZ aL ?_) | (refine zad _ aA rfl rfl aE aZ aL ?_)) | (refine zbz ?_; first | (refine zbf _ aA rfl aL ?_) | (refine zbg _ aA rfl rfl (by simp only [lx, Nat.reduceAdd]; first | done | rfl) ?_)) | (refine zb3 ?_; first | (refine zbn rfl aD rfl ?_) | (refine zbp rfl aD ?_) | (refine zbm rfl aD ?_) | (refine zbq rfl aD rfl ?_)) | (refine zby ?_; first | (refine zb4 rfl rfl aD ?_) | (refine zcc rfl rfl aD ?_) | (refine zcb rfl rfl ?_) | (refine zbo rfl rfl (fun h => ?_) (fun h => ?_) <;> (have h' := h; (try simp only [sx] at h')))) | (refine za9 ?_; first | (refine za8 aA rfl ?_) | (refine za6 aA rfl rfl ?_) | (refine za5 aA rfl ?_) | (refine za7 aA (evO_ok rfl) ?_) | (refine zbx _ _ aA rfl (lookM (by rfl)) rfl (lookM (by rfl)) rfl aN ⟨rfl, rfl, by decide, by decide⟩ (by first | rfl | omega | (simp; done) | (simp; omega) | fail) ⟨by first | (simp only [List.length_cons, List.length_nil]; omega) | omega | fail, by decide⟩ rfl (by first | (first | (simp only [lx, Nat.reduceAdd]; first | done | rfl) | fail) | rfl) aP ?_) | (refine zbw _ _ aA rfl rfl (lookM (by rfl)) ⟨rfl, by decide⟩ aN (by first | exact Nat.succ_pos _ | omega | (simp; done)) ⟨by first | (simp only [List.length_cons, List.length_nil]; omega) | omega | fail, by decide⟩ rfl rfl aP ?_) | (refine zbv _ aA rfl rfl (lookM (by rfl)) ⟨rfl, by decide⟩ aN ⟨by first | (simp only [List.length_cons, List.length_nil]; omega) | omega | fail, by decide⟩ rfl aP ?_) | (refine zbl _ aA rfl rfl rfl ⟨rfl, rfl, rfl, by decide, by decide⟩ (by first | rfl | (simp; done) | fail) ⟨by omega, by decide⟩ rfl aL (by first | (rw [Nat.zero_add]) | rfl) ?_)) | (refine zal aA rfl rfl rfl ?_) | (refine zbt _ _ rfl rfl rfl rfl ?_) | (refine zar (hK _ _ (.inl rfl) ?_); clear hK K) | (refine zar (hK _ _ (.inr (by kernel_rfl)) ?_); clear hK K))
      | (refine za3 ?_; first | (refine zbk ?_) | (refine zaf (fun K hK => ?_)) | (refine zap ?_) | (refine za0 ?_) | (refine zbj ?_) | (refine za1 ?_) | (refine zbe ?_; first | (refine zat rfl aD ?_) | (refine zau rfl aD ?_) | (refine zay rfl (fun h => ?_) (fun h => ?_) <;> (have h' := h; (try simp only [sx] at h')))))
      | (refine za2 ?_) | (refine zag ?_) | (refine zaj ?_) | (refine zao ?_) | (refine zam ?_) | (refine zan ?_) | (refine zaq rfl ?_) | (refine zah ?_) | (refine zai ?_) | (refine zbi ?_))
          all_goals first
            | (exfalso; omega)
            | exact ret_lL rfl rfl rfl (by decide) ⟨⟨rfl, rfl, fun h => by cases h⟩, trivial⟩ rfl rfl hne e3
    · repeat' (first
      | (refine zaz ?_; first | (refine za4 ?_; refine zas _ rfl ?_) | (refine zak ?_; refine zaa _ rfl ?_) | (refine zbu ?_; first | (refine zb0 rfl rfl aO ?_) | (refine x_quo rfl rfl aO ?_) | (refine zcq rfl rfl aO ?_) | (refine x_quoT rfl rfl aO ?_) | (refine zce rfl rfl aO ?_) | (refine zbs _ rfl rfl rfl ?_) | (refine zbr aA rfl rfl ?_) | (refine zav _ rfl rfl rfl ?_)) | (refine g_un ?_; first | (refine zb7 rfl ?_) | (refine zb8 rfl aO ?_)) | (refine zbb ?_; first | (refine zab aA rfl ?_) | (refine zae _ aA rfl rfl aE rfl ?_) | (refine zac _ aA rfl aZ aL ?_) | (refine zad _ aA rfl rfl aE aZ aL ?_)) | (refine zbz ?_; first | (refine zbf _ aA rfl aL ?_) | (refine zbg _ aA rfl rfl (by simp only [lx, Nat.reduceAdd]; first | done | rfl) ?_)) | (refine zb3 ?_; first | (refine zbn rfl aD rfl ?_) | (refine zbp rfl aD ?_) | (refine zbm rfl aD ?_) | (refine zbq rfl aD rfl ?_)) | (refine zby ?_; first | (refine zb4 rfl rfl aD ?_) | (refine zcc rfl rfl aD ?_) | (refine zcb rfl rfl ?_) | (refine zbo rfl rfl (fun h => ?_) (fun h => ?_) <;> (have h' := h; (try simp only [sx] at h')))) | (refine za9 ?_; first | (refine zcg [(io, 0)] (k2) rfl rfl (by (repeat' (first | exact trivial | refine ⟨⟨_, rfl, ?_⟩, ?_⟩ | exact .inl ⟨rfl, .inl rfl⟩ | exact .inr ⟨rfl, rfl, rfl, rfl, rfl, fun e he u hu => by (simp only [List.mem_cons, List.not_mem_nil, or_false] at he; subst he; simp only [List.mem_cons, List.not_mem_nil, or_false] at hu; subst hu; rfl)⟩ | exact .inl ⟨rfl, .inr (fun e he => by (simp only [List.mem_cons, List.not_mem_nil, or_false] at he; subst he; rfl))⟩ | fail)); first | done | fail) rfl rfl aS rfl aH rfl ?_; simp only [cl]) | (refine za8 aA rfl ?_) | (refine za6 aA rfl rfl ?_) | (refine za5 aA rfl ?_) | (refine za7 aA (evO_ok rfl) ?_) | (refine zbx _ _ aA rfl (lookM (by rfl)) rfl (lookM (by rfl)) rfl aN ⟨rfl, rfl, by decide, by decide⟩ (by first | rfl | omega | (simp; done) | (simp; omega) | fail) ⟨by first | (simp only [List.length_cons, List.length_nil]; omega) | omega | fail, by decide⟩ rfl (by first | (first | (simp only [lx, Nat.reduceAdd]; first | done | rfl) | fail) | rfl) aP ?_) | (refine zbw _ _ aA rfl rfl (lookM (by rfl)) ⟨rfl, by decide⟩ aN (by first | exact Nat.succ_pos _ | omega | (simp; done)) ⟨by first | (simp only [List.length_cons, List.length_nil]; omega) | omega | fail, by decide⟩ rfl rfl aP ?_) | (refine zbv _ aA rfl rfl (lookM (by rfl)) ⟨rfl, by decide⟩ aN ⟨by first | (simp only [List.length_cons, List.length_nil]; omega) | omega | fail, by decide⟩ rfl aP ?_) | (refine zbl _ aA rfl rfl rfl ⟨rfl, rfl, rfl, by decide, by decide⟩ (by first | rfl | (simp; done) | fail) ⟨by omega, by decide⟩ rfl aL (by first | (rw [Nat.zero_add]) | rfl) ?_)) | (refine zal aA rfl rfl rfl ?_) | (refine zbt _ _ rfl rfl rfl rfl ?_) | (refine zar (hK _ _ (.inl rfl) ?_); clear hK K) | (refine zar (hK _ _ (.inr (by kernel_rfl)) ?_); clear hK K))
      | (refine za3 ?_; first | (refine zbk ?_) | (refine zaf (fun K hK => ?_)) | (refine zap ?_) | (refine za0 ?_) | (refine zbj ?_) | (refine za1 ?_) | (refine zbe ?_; first | (refine zat rfl aD ?_) | (refine zau rfl aD ?_) | (refine zay rfl (fun h => ?_) (fun h => ?_) <;> (have h' := h; (try simp only [sx] at h')))))
      | (refine za2 ?_) | (refine zag ?_) | (refine zaj ?_) | (refine zao ?_) | (refine zam ?_) | (refine zan ?_) | (refine zaq rfl ?_) | (refine zah ?_) | (refine zai ?_) | (refine zbi ?_))
      all_goals first
        | (exfalso; omega)
        | exact ret_lL rfl rfl rfl (by decide) ⟨⟨rfl, rfl, fun h => by cases h⟩, trivial⟩ rfl rfl hmu hes
theorem k_regionZ (c : Cu) (t : Terrain) (hc : c.Ok) (hp : c.pos + 200 ≤ 1152921504606846976) (ht : TrSz t) :
    ∃ (xs : List Int) (c' : Cu), Dr 78 [.agg t.pv] c (.list 1 (ints xs)) c' ∧ Aft c c' 150 ∧ xs.length ≤ 30 := by
  obtain ⟨ps, c', k, h⟩ := k_regionD c t hc hp ht
  exact ⟨ps, c', ConL.frz k rfl (by intro row h; simp at h; subst h; rfl), h⟩
@[reducible] def rgP (t : Terrain) (xs : List Int) : List PV := [.agg t.pv, .list 1 (ints xs)]
theorem k_DrawPartsOf (code : List Int) (hz : CodeOk code) :
    ContractP Try.prog 24 true [.list 1 (bytesP code)] [] (fun r' fin' => ∃ (t : Terrain) (xs : List Int), (r' = .tuple (rgP t xs) ∧ fin' = []) ∧ TrSz t ∧ xs.length ≤ 30) := by
  have o0 := cu0_ok hz
  refine zba hmix Try.func24 rfl (by kernel_rfl) (by kernel_rfl) (Nat.le_of_ble_eq_true rfl) (fun row h => by cases h) ?_
  have hty_a26 := ty_a26
  have hty_z26 := ty_z26
  have hty_st79 := ty_st79
  have hty_t26 := ty_t26
  repeat' (first
      | (refine zaz ?_; first | (refine za4 ?_; refine zas _ rfl ?_) | (refine zak ?_; refine zaa _ rfl ?_) | (refine zbb ?_; first | (refine zab aA rfl ?_) | (refine zae _ aA rfl rfl aE rfl ?_) | (refine zac _ aA rfl aZ aL ?_) | (refine zad _ aA rfl rfl aE aZ aL ?_)) | (refine za9 ?_; refine x_callLP [(8, 0)] (k_anyTerrainZ (cu0 code) o0 (by simp)) rfl rfl (by (repeat' (first | exact trivial | refine ⟨⟨_, rfl, ?_⟩, ?_⟩ | exact .inl ⟨rfl, .inl rfl⟩ | exact .inr ⟨rfl, rfl, rfl, rfl, rfl, fun e he u hu => by (simp only [List.mem_cons, List.not_mem_nil, or_false] at he; subst he; simp only [List.mem_cons, List.not_mem_nil, or_false] at hu; subst hu; rfl)⟩ | exact .inl ⟨rfl, .inr (fun e he => by (simp only [List.mem_cons, List.not_mem_nil, or_false] at he; subst he; rfl))⟩ | fail)); first | done | fail) rfl rfl aS rfl (fun r_ fin_ hP_ => ?_); obtain ⟨t, c1, ⟨rfl, rfl⟩, a1, ht⟩ := hP_; refine ⟨_, _, _, aH, rfl, ?_⟩; simp only [cl]) | (refine x_buildO _ _ aA rfl rfl (by simp [buildPV, PV.cells]; first | done | rfl) ?_) | (refine zbt _ _ rfl rfl rfl rfl ?_) | (refine zb9 _ aA rfl ?_) | (refine zb5 aA rfl ?_) | (refine zb1 _ _ _ rfl rfl aE (by first | assumption | (exact TAgg.size aA)) rfl rfl rfl aZ rfl aL (by first | (first | (simp only [lx, Nat.reduceAdd]; first | done | rfl) | fail) | rfl) ?_) | (refine zar (hK _ _ (.inl rfl) ?_); clear hK K) | (refine zar (hK _ _ (.inr (by kernel_rfl)) ?_); clear hK K))
      | (refine za3 ?_; first | (refine zbk ?_) | (refine zaf (fun K hK => ?_)) | (refine zap ?_) | (refine za0 ?_) | (refine zbj ?_) | (refine za1 ?_) | (refine zbe ?_; first | (refine zat rfl aD ?_) | (refine zau rfl aD ?_) | (refine zay rfl (fun h => ?_) (fun h => ?_) <;> (have h' := h; (try simp only [sx] at h')))))
      | (refine za2 ?_) | (refine zag ?_) | (refine zaj ?_) | (refine zao ?_) | (refine zam ?_) | (refine zan ?_) | (refine zaq rfl ?_) | (refine zah ?_) | (refine zai ?_) | (refine zbi ?_))
  have o1 := a1.ok o0 (by simp)
  have p1 := a1.pos
  dsimp only [cu0] at p1
  obtain ⟨y, c2, k2, a2⟩ := k_one c1 2 o1 aO aO
  have o2 := a2.ok o1 aO
  have p2 := a2.pos
  cases y
  · obtain ⟨xs, c3, k3, a3, hxs⟩ := k_regionZ c2 t o2 aO ht
    repeat' (first
      | (refine zaz ?_; first | (refine za4 ?_; refine zas _ rfl ?_) | (refine zak ?_; refine zaa _ rfl ?_) | (refine zbb ?_; first | (refine zab aA rfl ?_) | (refine zae _ aA rfl rfl aE rfl ?_) | (refine zac _ aA rfl aZ aL ?_) | (refine zad _ aA rfl rfl aE aZ aL ?_)) | (refine za9 ?_; first | (refine zcg [(8, 0)] (k2) rfl rfl (by (repeat' (first | exact trivial | refine ⟨⟨_, rfl, ?_⟩, ?_⟩ | exact .inl ⟨rfl, .inl rfl⟩ | exact .inr ⟨rfl, rfl, rfl, rfl, rfl, fun e he u hu => by (simp only [List.mem_cons, List.not_mem_nil, or_false] at he; subst he; simp only [List.mem_cons, List.not_mem_nil, or_false] at hu; subst hu; rfl)⟩ | exact .inl ⟨rfl, .inr (fun e he => by (simp only [List.mem_cons, List.not_mem_nil, or_false] at he; subst he; rfl))⟩ | fail)); first | done | fail) rfl rfl aS rfl aH rfl ?_; simp only [cl]) | (refine zcg [(8, 0)] (k3) rfl rfl (by (repeat' (first | exact trivial | refine ⟨⟨_, rfl, ?_⟩, ?_⟩ | exact .inl ⟨rfl, .inl rfl⟩ | exact .inr ⟨rfl, rfl, rfl, rfl, rfl, fun e he u hu => by (simp only [List.mem_cons, List.not_mem_nil, or_false] at he; subst he; simp only [List.mem_cons, List.not_mem_nil, or_false] at hu; subst hu; rfl)⟩ | exact .inl ⟨rfl, .inr (fun e he => by (simp only [List.mem_cons, List.not_mem_nil, or_false] at he; subst he; rfl))⟩ | fail)); first | done | fail) rfl rfl aS rfl aH rfl ?_; simp only [cl])) | (refine x_buildO _ _ aA rfl rfl (by simp [buildPV, PV.cells]; first | done | rfl) ?_) | (refine zbt _ _ rfl rfl rfl rfl ?_) | (refine zb9 _ aA rfl ?_) | (refine zb5 aA rfl ?_) | (refine zb1 _ _ _ rfl rfl aE (by first | assumption | (exact TAgg.size aA)) rfl rfl rfl aZ rfl aL (by first | (first | (simp only [lx, Nat.reduceAdd]; first | done | rfl) | fail) | rfl) ?_) | (refine zar (hK _ _ (.inl rfl) ?_); clear hK K) | (refine zar (hK _ _ (.inr (by kernel_rfl)) ?_); clear hK K))
      | (refine za3 ?_; first | (refine zbk ?_) | (refine zaf (fun K hK => ?_)) | (refine zap ?_) | (refine za0 ?_) | (refine zbj ?_) | (refine za1 ?_) | (refine zbe ?_; first | (refine zat rfl aD ?_) | (refine zau rfl aD ?_) | (refine zay rfl (fun h => ?_) (fun h => ?_) <;> (have h' := h; (try simp only [sx] at h')))))
      | (refine za2 ?_) | (refine zag ?_) | (refine zaj ?_) | (refine zao ?_) | (refine zam ?_) | (refine zan ?_) | (refine zaq rfl ?_) | (refine zah ?_) | (refine zai ?_) | (refine zbi ?_))
    refine RetPost.mono (fun r fin h => ⟨t, xs, h, ht, by omega⟩) ?_
    (first | refine ret_TL rfl rfl rfl (by first | exact trivial | (repeat' (first | exact trivial | refine ⟨by assumption, ?_⟩))) (by repeat' (first | exact trivial | refine ⟨by simp, ?_⟩)) (by first | exact trivial | exact ⟨⟨rfl, rfl, fun h => by cases h⟩, trivial⟩) ?_ | refine ret_AL rfl rfl rfl (by first | exact trivial | (repeat' (first | exact trivial | refine ⟨by assumption, ?_⟩))) (by repeat' (first | exact trivial | refine ⟨by simp, ?_⟩)) (by first | exact trivial | exact ⟨⟨rfl, rfl, fun h => by cases h⟩, trivial⟩) ?_); (repeat' (first | exact et_end | exact el_end | refine et_int rfl ?_ ?_ | refine et_bool ?_ ?_ | refine et_str ?_ ?_ | refine et_lst rfl rfl ?_ ?_ | refine zcp rfl (by rfl) (by decide) rfl rfl ?_ ?_ ?_ | refine et_nil ?_ ?_ | refine et_agg0 ?_ ?_ | refine et_agg ?_ ?_ | refine el_int rfl ?_ ?_ | refine el_bool ?_ ?_ | refine el_str ?_ ?_ | refine el_lst rfl rfl ?_ ?_ | refine zco rfl (by rfl) (by decide) rfl rfl ?_ ?_ ?_ | refine el_nil ?_ ?_)) <;> first | rfl | (simp; done) | omega
  · obtain ⟨xs, c3, k3, a3, hxs⟩ := k_cellsOf c2 t o2 aO ht
    repeat' (first
      | (refine zaz ?_; first | (refine za4 ?_; refine zas _ rfl ?_) | (refine zak ?_; refine zaa _ rfl ?_) | (refine zbb ?_; first | (refine zab aA rfl ?_) | (refine zae _ aA rfl rfl aE rfl ?_) | (refine zac _ aA rfl aZ aL ?_) | (refine zad _ aA rfl rfl aE aZ aL ?_)) | (refine za9 ?_; first | (refine zcg [(8, 0)] (k2) rfl rfl (by (repeat' (first | exact trivial | refine ⟨⟨_, rfl, ?_⟩, ?_⟩ | exact .inl ⟨rfl, .inl rfl⟩ | exact .inr ⟨rfl, rfl, rfl, rfl, rfl, fun e he u hu => by (simp only [List.mem_cons, List.not_mem_nil, or_false] at he; subst he; simp only [List.mem_cons, List.not_mem_nil, or_false] at hu; subst hu; rfl)⟩ | exact .inl ⟨rfl, .inr (fun e he => by (simp only [List.mem_cons, List.not_mem_nil, or_false] at he; subst he; rfl))⟩ | fail)); first | done | fail) rfl rfl aS rfl aH rfl ?_; simp only [cl]) | (refine zcg [(8, 0)] (k3) rfl rfl (by (repeat' (first | exact trivial | refine ⟨⟨_, rfl, ?_⟩, ?_⟩ | exact .inl ⟨rfl, .inl rfl⟩ | exact .inr ⟨rfl, rfl, rfl, rfl, rfl, fun e he u hu => by (simp only [List.mem_cons, List.not_mem_nil, or_false] at he; subst he; simp only [List.mem_cons, List.not_mem_nil, or_false] at hu; subst hu; rfl)⟩ | exact .inl ⟨rfl, .inr (fun e he => by (simp only [List.mem_cons, List.not_mem_nil, or_false] at he; subst he; rfl))⟩ | fail)); first | done | fail) rfl rfl aS rfl aH rfl ?_; simp only [cl])) | (refine x_buildO _ _ aA rfl rfl (by simp [buildPV, PV.cells]; first | done | rfl) ?_) | (refine zbt _ _ rfl rfl rfl rfl ?_) | (refine zb9 _ aA rfl ?_) | (refine zb5 aA rfl ?_) | (refine zb1 _ _ _ rfl rfl aE (by first | assumption | (exact TAgg.size aA)) rfl rfl rfl aZ rfl aL (by first | (first | (simp only [lx, Nat.reduceAdd]; first | done | rfl) | fail) | rfl) ?_) | (refine zar (hK _ _ (.inl rfl) ?_); clear hK K) | (refine zar (hK _ _ (.inr (by kernel_rfl)) ?_); clear hK K))
      | (refine za3 ?_; first | (refine zbk ?_) | (refine zaf (fun K hK => ?_)) | (refine zap ?_) | (refine za0 ?_) | (refine zbj ?_) | (refine za1 ?_) | (refine zbe ?_; first | (refine zat rfl aD ?_) | (refine zau rfl aD ?_) | (refine zay rfl (fun h => ?_) (fun h => ?_) <;> (have h' := h; (try simp only [sx] at h')))))
      | (refine za2 ?_) | (refine zag ?_) | (refine zaj ?_) | (refine zao ?_) | (refine zam ?_) | (refine zan ?_) | (refine zaq rfl ?_) | (refine zah ?_) | (refine zai ?_) | (refine zbi ?_))
    refine RetPost.mono (fun r fin h => ⟨t, xs, h, ht, by omega⟩) ?_
    (first | refine ret_TL rfl rfl rfl (by first | exact trivial | (repeat' (first | exact trivial | refine ⟨by assumption, ?_⟩))) (by repeat' (first | exact trivial | refine ⟨by simp, ?_⟩)) (by first | exact trivial | exact ⟨⟨rfl, rfl, fun h => by cases h⟩, trivial⟩) ?_ | refine ret_AL rfl rfl rfl (by first | exact trivial | (repeat' (first | exact trivial | refine ⟨by assumption, ?_⟩))) (by repeat' (first | exact trivial | refine ⟨by simp, ?_⟩)) (by first | exact trivial | exact ⟨⟨rfl, rfl, fun h => by cases h⟩, trivial⟩) ?_); (repeat' (first | exact et_end | exact el_end | refine et_int rfl ?_ ?_ | refine et_bool ?_ ?_ | refine et_str ?_ ?_ | refine et_lst rfl rfl ?_ ?_ | refine zcp rfl (by rfl) (by decide) rfl rfl ?_ ?_ ?_ | refine et_nil ?_ ?_ | refine et_agg0 ?_ ?_ | refine et_agg ?_ ?_ | refine el_int rfl ?_ ?_ | refine el_bool ?_ ?_ | refine el_str ?_ ?_ | refine el_lst rfl rfl ?_ ?_ | refine zco rfl (by rfl) (by decide) rfl rfl ?_ ?_ ?_ | refine el_nil ?_ ?_)) <;> first | rfl | (simp; done) | omega
theorem k_DrawHolesOf (code : List Int) (hz : CodeOk code) :
    ContractP Try.prog 74 true [.list 1 (bytesP code)] [] (fun r' fin' => ∃ (t : Terrain) (xs : List Int), (r' = .tuple (rgP t xs) ∧ fin' = []) ∧ TrSz t ∧ xs.length ≤ 30) := by
  have o0 := cu0_ok hz
  refine zba hmix Try.func74 rfl (by kernel_rfl) (by kernel_rfl) (Nat.le_of_ble_eq_true rfl) (fun row h => by cases h) ?_
  have hty_a26 := ty_a26
  have hty_z26 := ty_z26
  have hty_st79 := ty_st79
  have hty_t26 := ty_t26
  repeat' (first
      | (refine zaz ?_; first | (refine za4 ?_; refine zas _ rfl ?_) | (refine zak ?_; refine zaa _ rfl ?_) | (refine zbb ?_; first | (refine zab aA rfl ?_) | (refine zae _ aA rfl rfl aE rfl ?_) | (refine zac _ aA rfl aZ aL ?_) | (refine zad _ aA rfl rfl aE aZ aL ?_)) | (refine za9 ?_; refine x_callLP [(8, 0)] (k_anyTerrainZ (cu0 code) o0 (by simp)) rfl rfl (by (repeat' (first | exact trivial | refine ⟨⟨_, rfl, ?_⟩, ?_⟩ | exact .inl ⟨rfl, .inl rfl⟩ | exact .inr ⟨rfl, rfl, rfl, rfl, rfl, fun e he u hu => by (simp only [List.mem_cons, List.not_mem_nil, or_false] at he; subst he; simp only [List.mem_cons, List.not_mem_nil, or_false] at hu; subst hu; rfl)⟩ | exact .inl ⟨rfl, .inr (fun e he => by (simp only [List.mem_cons, List.not_mem_nil, or_false] at he; subst he; rfl))⟩ | fail)); first | done | fail) rfl rfl aS rfl (fun r_ fin_ hP_ => ?_); obtain ⟨t, c1, ⟨rfl, rfl⟩, a1, ht⟩ := hP_; refine ⟨_, _, _, aH, rfl, ?_⟩; simp only [cl]) | (refine x_buildO _ _ aA rfl rfl (by simp [buildPV, PV.cells]; first | done | rfl) ?_) | (refine zbt _ _ rfl rfl rfl rfl ?_) | (refine zb9 _ aA rfl ?_) | (refine zb5 aA rfl ?_) | (refine zb1 _ _ _ rfl rfl aE (by first | assumption | (exact TAgg.size aA)) rfl rfl rfl aZ rfl aL (by first | (first | (simp only [lx, Nat.reduceAdd]; first | done | rfl) | fail) | rfl) ?_) | (refine zar (hK _ _ (.inl rfl) ?_); clear hK K) | (refine zar (hK _ _ (.inr (by kernel_rfl)) ?_); clear hK K))
      | (refine za3 ?_; first | (refine zbk ?_) | (refine zaf (fun K hK => ?_)) | (refine zap ?_) | (refine za0 ?_) | (refine zbj ?_) | (refine za1 ?_))
      | (refine za2 ?_) | (refine zag ?_) | (refine zaj ?_) | (refine zao ?_) | (refine zam ?_) | (refine zan ?_) | (refine zaq rfl ?_) | (refine zah ?_) | (refine zai ?_) | (refine zbi ?_))
  have o1 := a1.ok o0 (by simp)
  have p1 := a1.pos
  dsimp only [cu0] at p1
  obtain ⟨xs, c3, k3, a3, hxs⟩ := k_regionZ c1 t o1 aO ht
  repeat' (first
      | (refine zaz ?_; first | (refine za4 ?_; refine zas _ rfl ?_) | (refine zak ?_; refine zaa _ rfl ?_) | (refine zbb ?_; first | (refine zab aA rfl ?_) | (refine zae _ aA rfl rfl aE rfl ?_) | (refine zac _ aA rfl aZ aL ?_) | (refine zad _ aA rfl rfl aE aZ aL ?_)) | (refine za9 ?_; refine zcg [(8, 0)] (k3) rfl rfl (by (repeat' (first | exact trivial | refine ⟨⟨_, rfl, ?_⟩, ?_⟩ | exact .inl ⟨rfl, .inl rfl⟩ | exact .inr ⟨rfl, rfl, rfl, rfl, rfl, fun e he u hu => by (simp only [List.mem_cons, List.not_mem_nil, or_false] at he; subst he; simp only [List.mem_cons, List.not_mem_nil, or_false] at hu; subst hu; rfl)⟩ | exact .inl ⟨rfl, .inr (fun e he => by (simp only [List.mem_cons, List.not_mem_nil, or_false] at he; subst he; rfl))⟩ | fail)); first | done | fail) rfl rfl aS rfl aH rfl ?_; simp only [cl]) | (refine x_buildO _ _ aA rfl rfl (by simp [buildPV, PV.cells]; first | done | rfl) ?_) | (refine zbt _ _ rfl rfl rfl rfl ?_) | (refine zb9 _ aA rfl ?_) | (refine zb5 aA rfl ?_) | (refine zb1 _ _ _ rfl rfl aE (by first | assumption | (exact TAgg.size aA)) rfl rfl rfl aZ rfl aL (by first | (first | (simp only [lx, Nat.reduceAdd]; first | done | rfl) | fail) | rfl) ?_) | (refine zar (hK _ _ (.inl rfl) ?_); clear hK K) | (refine zar (hK _ _ (.inr (by kernel_rfl)) ?_); clear hK K))
      | (refine za3 ?_; first | (refine zbk ?_) | (refine zaf (fun K hK => ?_)) | (refine zap ?_) | (refine za0 ?_) | (refine zbj ?_) | (refine za1 ?_))
      | (refine za2 ?_) | (refine zag ?_) | (refine zaj ?_) | (refine zao ?_) | (refine zam ?_) | (refine zan ?_) | (refine zaq rfl ?_) | (refine zah ?_) | (refine zai ?_) | (refine zbi ?_))
  refine RetPost.mono (fun r fin h => ⟨t, xs, h, ht, by omega⟩) ?_
  (first | refine ret_TL rfl rfl rfl (by first | exact trivial | (repeat' (first | exact trivial | refine ⟨by assumption, ?_⟩))) (by repeat' (first | exact trivial | refine ⟨by simp, ?_⟩)) (by first | exact trivial | exact ⟨⟨rfl, rfl, fun h => by cases h⟩, trivial⟩) ?_ | refine ret_AL rfl rfl rfl (by first | exact trivial | (repeat' (first | exact trivial | refine ⟨by assumption, ?_⟩))) (by repeat' (first | exact trivial | refine ⟨by simp, ?_⟩)) (by first | exact trivial | exact ⟨⟨rfl, rfl, fun h => by cases h⟩, trivial⟩) ?_); (repeat' (first | exact et_end | exact el_end | refine et_int rfl ?_ ?_ | refine et_bool ?_ ?_ | refine et_str ?_ ?_ | refine et_lst rfl rfl ?_ ?_ | refine zcp rfl (by rfl) (by decide) rfl rfl ?_ ?_ ?_ | refine et_nil ?_ ?_ | refine et_agg0 ?_ ?_ | refine et_agg ?_ ?_ | refine el_int rfl ?_ ?_ | refine el_bool ?_ ?_ | refine el_str ?_ ?_ | refine el_lst rfl rfl ?_ ?_ | refine zco rfl (by rfl) (by decide) rfl rfl ?_ ?_ ?_ | refine el_nil ?_ ?_)) <;> first | rfl | (simp; done) | omega
theorem k_DrawEdgeLength (code : List Int) (hz : CodeOk code) :
    ContractP Try.prog 33 true [.list 1 (bytesP code)] [] (fun r' fin' => ∃ (t : Terrain) (xs : List Int), (r' = .tuple (rgP t xs) ∧ fin' = []) ∧ TrSz t ∧ xs.length ≤ 30) := by
  refine zba hmix Try.func33 rfl (by kernel_rfl) (by kernel_rfl) (Nat.le_of_ble_eq_true rfl) (fun row h => by cases h) ?_
  have hty_a26 := ty_a26
  have hty_z26 := ty_z26
  have hty_u22 := ty_u22
  have hty_s22 := ty_s22
  have hty_t26 := ty_t26
  repeat' (first
      | (refine zaz ?_; first | (refine za4 ?_; refine zas _ rfl ?_) | (refine zak ?_; refine zaa _ rfl ?_) | (refine za9 ?_; refine x_callLP [] (k_DrawPartsOf code hz) rfl rfl (by (repeat' (first | exact trivial | refine ⟨⟨_, rfl, ?_⟩, ?_⟩ | exact .inl ⟨rfl, .inl rfl⟩ | exact .inr ⟨rfl, rfl, rfl, rfl, rfl, fun e he u hu => by (simp only [List.mem_cons, List.not_mem_nil, or_false] at he; subst he; simp only [List.mem_cons, List.not_mem_nil, or_false] at hu; subst hu; rfl)⟩ | exact .inl ⟨rfl, .inr (fun e he => by (simp only [List.mem_cons, List.not_mem_nil, or_false] at he; subst he; rfl))⟩ | fail)); first | done | fail) rfl rfl aS rfl (fun r_ fin_ hP_ => ?_); obtain ⟨t, xs, ⟨rfl, rfl⟩, ht, hxs⟩ := hP_; refine ⟨_, _, _, aH, rfl, ?_⟩; simp only [cl]) | (refine zb9 _ aA rfl ?_) | (refine zb5 aA rfl ?_) | (refine zb1 _ _ _ rfl rfl aE (by first | assumption | (exact TAgg.size aA)) rfl rfl rfl aZ rfl aL (by first | (first | (simp only [lx, Nat.reduceAdd]; first | done | rfl) | fail) | rfl) ?_) | (refine zcf _ rfl rfl ?_) | (refine zar (hK _ _ (.inl rfl) ?_); clear hK K) | (refine zar (hK _ _ (.inr (by kernel_rfl)) ?_); clear hK K))
      | (refine za3 ?_; first | (refine zbk ?_) | (refine zaf (fun K hK => ?_)) | (refine zap ?_) | (refine za0 ?_) | (refine zbj ?_) | (refine za1 ?_))
      | (refine za2 ?_) | (refine zag ?_) | (refine zaj ?_) | (refine zao ?_) | (refine zam ?_) | (refine zan ?_) | (refine zaq rfl ?_) | (refine zah ?_) | (refine zai ?_) | (refine zbi ?_))
  refine RetPost.mono (fun r fin h => ⟨t, xs, h, ht, hxs⟩) ?_
  (first | refine ret_TL rfl rfl rfl (by first | exact trivial | (repeat' (first | exact trivial | refine ⟨by assumption, ?_⟩))) (by repeat' (first | exact trivial | refine ⟨by simp, ?_⟩)) (by first | exact trivial | exact ⟨⟨rfl, rfl, fun h => by cases h⟩, trivial⟩) ?_ | refine ret_AL rfl rfl rfl (by first | exact trivial | (repeat' (first | exact trivial | refine ⟨by assumption, ?_⟩))) (by repeat' (first | exact trivial | refine ⟨by simp, ?_⟩)) (by first | exact trivial | exact ⟨⟨rfl, rfl, fun h => by cases h⟩, trivial⟩) ?_); (repeat' (first | exact et_end | exact el_end | refine et_int rfl ?_ ?_ | refine et_bool ?_ ?_ | refine et_str ?_ ?_ | refine et_lst rfl rfl ?_ ?_ | refine zcp rfl (by rfl) (by decide) rfl rfl ?_ ?_ ?_ | refine et_nil ?_ ?_ | refine et_agg0 ?_ ?_ | refine et_agg ?_ ?_ | refine el_int rfl ?_ ?_ | refine el_bool ?_ ?_ | refine el_str ?_ ?_ | refine el_lst rfl rfl ?_ ?_ | refine zco rfl (by rfl) (by decide) rfl rfl ?_ ?_ ?_ | refine el_nil ?_ ?_)) <;> first | rfl | (simp; done) | omega
theorem k_DrawFillRegion (code : List Int) (hz : CodeOk code) :
    ContractP Try.prog 28 true [.list 1 (bytesP code)] [] (fun r' fin' => ∃ (t : Terrain) (xs : List Int), (r' = .tuple (rgP t xs) ∧ fin' = []) ∧ TrSz t ∧ xs.length ≤ 30) := by
  refine zba hmix Try.func28 rfl (by kernel_rfl) (by kernel_rfl) (Nat.le_of_ble_eq_true rfl) (fun row h => by cases h) ?_
  have hty_a26 := ty_a26
  have hty_z26 := ty_z26
  have hty_u22 := ty_u22
  have hty_s22 := ty_s22
  have hty_t26 := ty_t26
  repeat' (first
      | (refine zaz ?_; first | (refine za4 ?_; refine zas _ rfl ?_) | (refine zak ?_; refine zaa _ rfl ?_) | (refine za9 ?_; refine x_callLP [] (k_DrawHolesOf code hz) rfl rfl (by (repeat' (first | exact trivial | refine ⟨⟨_, rfl, ?_⟩, ?_⟩ | exact .inl ⟨rfl, .inl rfl⟩ | exact .inr ⟨rfl, rfl, rfl, rfl, rfl, fun e he u hu => by (simp only [List.mem_cons, List.not_mem_nil, or_false] at he; subst he; simp only [List.mem_cons, List.not_mem_nil, or_false] at hu; subst hu; rfl)⟩ | exact .inl ⟨rfl, .inr (fun e he => by (simp only [List.mem_cons, List.not_mem_nil, or_false] at he; subst he; rfl))⟩ | fail)); first | done | fail) rfl rfl aS rfl (fun r_ fin_ hP_ => ?_); obtain ⟨t, xs, ⟨rfl, rfl⟩, ht, hxs⟩ := hP_; refine ⟨_, _, _, aH, rfl, ?_⟩; simp only [cl]) | (refine zb9 _ aA rfl ?_) | (refine zb5 aA rfl ?_) | (refine zb1 _ _ _ rfl rfl aE (by first | assumption | (exact TAgg.size aA)) rfl rfl rfl aZ rfl aL (by first | (first | (simp only [lx, Nat.reduceAdd]; first | done | rfl) | fail) | rfl) ?_) | (refine zcf _ rfl rfl ?_) | (refine zar (hK _ _ (.inl rfl) ?_); clear hK K) | (refine zar (hK _ _ (.inr (by kernel_rfl)) ?_); clear hK K))
      | (refine za3 ?_; first | (refine zbk ?_) | (refine zaf (fun K hK => ?_)) | (refine zap ?_) | (refine za0 ?_) | (refine zbj ?_) | (refine za1 ?_))
      | (refine za2 ?_) | (refine zag ?_) | (refine zaj ?_) | (refine zao ?_) | (refine zam ?_) | (refine zan ?_) | (refine zaq rfl ?_) | (refine zah ?_) | (refine zai ?_) | (refine zbi ?_))
  refine RetPost.mono (fun r fin h => ⟨t, xs, h, ht, hxs⟩) ?_
  (first | refine ret_TL rfl rfl rfl (by first | exact trivial | (repeat' (first | exact trivial | refine ⟨by assumption, ?_⟩))) (by repeat' (first | exact trivial | refine ⟨by simp, ?_⟩)) (by first | exact trivial | exact ⟨⟨rfl, rfl, fun h => by cases h⟩, trivial⟩) ?_ | refine ret_AL rfl rfl rfl (by first | exact trivial | (repeat' (first | exact trivial | refine ⟨by assumption, ?_⟩))) (by repeat' (first | exact trivial | refine ⟨by simp, ?_⟩)) (by first | exact trivial | exact ⟨⟨rfl, rfl, fun h => by cases h⟩, trivial⟩) ?_); (repeat' (first | exact et_end | exact el_end | refine et_int rfl ?_ ?_ | refine et_bool ?_ ?_ | refine et_str ?_ ?_ | refine et_lst rfl rfl ?_ ?_ | refine zcp rfl (by rfl) (by decide) rfl rfl ?_ ?_ ?_ | refine et_nil ?_ ?_ | refine et_agg0 ?_ ?_ | refine et_agg ?_ ?_ | refine el_int rfl ?_ ?_ | refine el_bool ?_ ?_ | refine el_str ?_ ?_ | refine el_lst rfl rfl ?_ ?_ | refine zco rfl (by rfl) (by decide) rfl rfl ?_ ?_ ?_ | refine el_nil ?_ ?_)) <;> first | rfl | (simp; done) | omega
theorem k_DrawRegionPicture (code : List Int) (hz : CodeOk code) :
    ContractP Try.prog 36 true [.list 1 (bytesP code)] [] (fun r' fin' => ∃ (t : Terrain) (xs : List Int), (r' = .tuple (rgP t xs) ∧ fin' = []) ∧ TrSz t ∧ xs.length ≤ 30) := by
  refine zba hmix Try.func36 rfl (by kernel_rfl) (by kernel_rfl) (Nat.le_of_ble_eq_true rfl) (fun row h => by cases h) ?_
  have hty_a26 := ty_a26
  have hty_z26 := ty_z26
  have hty_u22 := ty_u22
  have hty_s22 := ty_s22
  have hty_t26 := ty_t26
  repeat' (first
      | (refine zaz ?_; first | (refine za4 ?_; refine zas _ rfl ?_) | (refine zak ?_; refine zaa _ rfl ?_) | (refine za9 ?_; refine x_callLP [] (k_DrawPartsOf code hz) rfl rfl (by (repeat' (first | exact trivial | refine ⟨⟨_, rfl, ?_⟩, ?_⟩ | exact .inl ⟨rfl, .inl rfl⟩ | exact .inr ⟨rfl, rfl, rfl, rfl, rfl, fun e he u hu => by (simp only [List.mem_cons, List.not_mem_nil, or_false] at he; subst he; simp only [List.mem_cons, List.not_mem_nil, or_false] at hu; subst hu; rfl)⟩ | exact .inl ⟨rfl, .inr (fun e he => by (simp only [List.mem_cons, List.not_mem_nil, or_false] at he; subst he; rfl))⟩ | fail)); first | done | fail) rfl rfl aS rfl (fun r_ fin_ hP_ => ?_); obtain ⟨t, xs, ⟨rfl, rfl⟩, ht, hxs⟩ := hP_; refine ⟨_, _, _, aH, rfl, ?_⟩; simp only [cl]) | (refine zb9 _ aA rfl ?_) | (refine zb5 aA rfl ?_) | (refine zb1 _ _ _ rfl rfl aE (by first | assumption | (exact TAgg.size aA)) rfl rfl rfl aZ rfl aL (by first | (first | (simp only [lx, Nat.reduceAdd]; first | done | rfl) | fail) | rfl) ?_) | (refine zcf _ rfl rfl ?_) | (refine zar (hK _ _ (.inl rfl) ?_); clear hK K) | (refine zar (hK _ _ (.inr (by kernel_rfl)) ?_); clear hK K))
      | (refine za3 ?_; first | (refine zbk ?_) | (refine zaf (fun K hK => ?_)) | (refine zap ?_) | (refine za0 ?_) | (refine zbj ?_) | (refine za1 ?_))
      | (refine za2 ?_) | (refine zag ?_) | (refine zaj ?_) | (refine zao ?_) | (refine zam ?_) | (refine zan ?_) | (refine zaq rfl ?_) | (refine zah ?_) | (refine zai ?_) | (refine zbi ?_))
  refine RetPost.mono (fun r fin h => ⟨t, xs, h, ht, hxs⟩) ?_
  (first | refine ret_TL rfl rfl rfl (by first | exact trivial | (repeat' (first | exact trivial | refine ⟨by assumption, ?_⟩))) (by repeat' (first | exact trivial | refine ⟨by simp, ?_⟩)) (by first | exact trivial | exact ⟨⟨rfl, rfl, fun h => by cases h⟩, trivial⟩) ?_ | refine ret_AL rfl rfl rfl (by first | exact trivial | (repeat' (first | exact trivial | refine ⟨by assumption, ?_⟩))) (by repeat' (first | exact trivial | refine ⟨by simp, ?_⟩)) (by first | exact trivial | exact ⟨⟨rfl, rfl, fun h => by cases h⟩, trivial⟩) ?_); (repeat' (first | exact et_end | exact el_end | refine et_int rfl ?_ ?_ | refine et_bool ?_ ?_ | refine et_str ?_ ?_ | refine et_lst rfl rfl ?_ ?_ | refine zcp rfl (by rfl) (by decide) rfl rfl ?_ ?_ ?_ | refine et_nil ?_ ?_ | refine et_agg0 ?_ ?_ | refine et_agg ?_ ?_ | refine el_int rfl ?_ ?_ | refine el_bool ?_ ?_ | refine el_str ?_ ?_ | refine el_lst rfl rfl ?_ ?_ | refine zco rfl (by rfl) (by decide) rfl rfl ?_ ?_ ?_ | refine el_nil ?_ ?_)) <;> first | rfl | (simp; done) | omega
end Go.Vs
set_option linter.unusedVariables false
set_option linter.unusedSimpArgs false
set_option maxRecDepth 100000
set_option maxHeartbeats 4000000
namespace Go.Vs
open Go.Proofs
attribute [local irreducible] exec vwp thenQ blkQ loopQ RetPost
theorem within_nil {l : List Int} {P : Int → Prop} : ∀ x ∈ l.take 0, P x := fun x hx => by simp at hx
theorem within_step {l : List Int} {i : Nat} {a : Int} {P : Int → Prop} (h : ∀ x ∈ l.take i, P x) (ha : l[i]? = some a) (hp : P a) : ∀ x ∈ l.take (i + 1), P x := fun x hx => by
  rw [take_succ ha] at hx
  rcases List.mem_append.1 hx with hx | hx
  · exact h x hx
  · simp at hx; subst hx; exact hp
theorem k_vBig (code : List Int) (g : code.length ≤ 9223372036854775807) : Con Try.prog 7 [.list 1 (bytesP code)] (.bool (decide (65536 < code.length))) := by
  intro al
  refine zba hmix Try.func7 rfl (by kernel_rfl) (by kernel_rfl) (Nat.le_of_ble_eq_true rfl) (fun row h => by cases h) ?_
  have hty_u22 := ty_u22
  have hty_s22 := ty_s22
  have hl1 : (bytesP code).length = code.length := by simp
  repeat' (first
      | (refine zaz ?_; first | (refine za4 ?_; refine zas _ rfl ?_) | (refine zak ?_; refine zaa _ rfl ?_) | (refine zbu ?_; refine zbs _ rfl rfl rfl ?_) | (refine za9 ?_; first | (refine za8 aA rfl ?_) | (refine za6 aA rfl rfl ?_) | (refine za5 aA rfl ?_) | (refine za7 aA (evO_ok rfl) ?_)) | (refine zar (hK _ _ (.inl rfl) ?_); clear hK K) | (refine zar (hK _ _ (.inr (by kernel_rfl)) ?_); clear hK K))
      | (refine za3 ?_; first | (refine zbk ?_) | (refine zaf (fun K hK => ?_)) | (refine zap ?_) | (refine za0 ?_) | (refine zbj ?_) | (refine za1 ?_))
      | (refine za2 ?_) | (refine zag ?_) | (refine zaj ?_) | (refine zao ?_) | (refine zam ?_) | (refine zan ?_) | (refine zaq rfl ?_) | (refine zah ?_) | (refine zai ?_) | (refine zbi ?_))
  all_goals (refine zb2 rfl (zbh rfl) ?_; first | rfl | (simp; omega))
theorem k_vIntsS (xs : List Int) (hn : xs.length ≤ 1099511627776) : Con Try.prog 11 [.list 1 (ints xs), .list 1 (ints xs)] (.bool true) := by
  intro al
  refine zba hmix Try.func11 rfl (by kernel_rfl) (by kernel_rfl) (Nat.le_of_ble_eq_true rfl) (fun row h => by cases h) ?_
  have hty_u24 := ty_u24
  have hty_s24 := ty_s24
  have hty_c3 := ty_c3
  have hl1 : (ints xs).length = xs.length := by simp
  repeat' (first
      | (refine zaz ?_; first | (refine za4 ?_; refine zas _ rfl ?_) | (refine zak ?_; refine zaa _ rfl ?_) | (refine zbu ?_; first | (refine zb0 rfl rfl aO ?_) | (refine zbs _ rfl rfl rfl ?_) | (refine zca aA rfl rfl ?_) | (refine zav _ rfl rfl rfl ?_)) | (refine zbb ?_; first | (refine zab aA rfl ?_) | (refine zae _ aA rfl rfl aE rfl ?_) | (refine zac _ aA rfl aZ aL ?_) | (refine zad _ aA rfl rfl aE aZ aL ?_)) | (refine zbd ?_; first | (refine zax _ aA rfl rfl aO aA ?_) | (refine zaw _ aA rfl rfl rfl rfl aO aO (by first | (rw [Nat.zero_add, Int.toNat_natCast]) | (rw [Nat.zero_add]) | rfl) ?_)) | (refine za9 ?_; first | (refine za8 aA rfl ?_) | (refine za6 aA rfl rfl ?_) | (refine za5 aA rfl ?_) | (refine za7 aA (evO_ok rfl) ?_)) | (refine zar (hK _ _ (.inl rfl) ?_); clear hK K) | (refine zar (hK _ _ (.inr (by kernel_rfl)) ?_); clear hK K))
      | (refine za3 ?_; first | (refine zbk ?_) | (refine zaf (fun K hK => ?_)) | (refine zap ?_) | (refine za0 ?_) | (refine zbj ?_) | (refine za1 ?_) | (refine zbe ?_; first | (refine zat rfl aD ?_) | (refine zau rfl aD ?_) | (refine zay rfl (fun h => ?_) (fun h => ?_) <;> (have h' := h; (try simp only [sx] at h')))))
      | (refine za2 ?_) | (refine zag ?_) | (refine zaj ?_) | (refine zao ?_) | (refine zam ?_) | (refine zan ?_) | (refine zaq rfl ?_) | (refine zah ?_) | (refine zai ?_) | (refine zbi ?_))
  all_goals try (exfalso; omega)
  refine zcd [0, 1] [] (fun i : Nat => [(5, .int .i64 i)]) (fun i : Nat => []) (fun i : Nat => i ≤ xs.length) (fun i : Nat => xs.length - i) (0) rfl rfl (fun _ => rfl) (fun _ => rfl) rfl aW aO (fun i hi => ?_)
  rcases Nat.lt_or_ge i xs.length with hlt | hge
  · obtain ⟨a, ha⟩ := get_ex hlt
    have hx := ints_at ha
    repeat' (first
      | (refine zaz ?_; first | (refine za4 ?_; refine zas _ rfl ?_) | (refine zak ?_; refine zaa _ rfl ?_) | (refine zbu ?_; first | (refine zb0 rfl rfl aO ?_) | (refine zbs _ rfl rfl rfl ?_) | (refine zca aA rfl rfl ?_) | (refine zav _ rfl rfl rfl ?_)) | (refine zbb ?_; first | (refine zab aA rfl ?_) | (refine zae _ aA rfl rfl aE rfl ?_) | (refine zac _ aA rfl aZ aL ?_) | (refine zad _ aA rfl rfl aE aZ aL ?_)) | (refine zbd ?_; first | (refine zax _ aA rfl rfl aO aA ?_) | (refine zaw _ aA rfl rfl rfl rfl aO aO (by first | (rw [Nat.zero_add, Int.toNat_natCast]) | (rw [Nat.zero_add]) | rfl) ?_)) | (refine za9 ?_; first | (refine za8 aA rfl ?_) | (refine za6 aA rfl rfl ?_) | (refine za5 aA rfl ?_) | (refine za7 aA (evO_ok rfl) ?_)) | (refine zar (hK _ _ (.inl rfl) ?_); clear hK K) | (refine zar (hK _ _ (.inr (by kernel_rfl)) ?_); clear hK K))
      | (refine za3 ?_; first | (refine zbk ?_) | (refine zaf (fun K hK => ?_)) | (refine zap ?_) | (refine za0 ?_) | (refine zbj ?_) | (refine za1 ?_) | (refine zbe ?_; first | (refine zat rfl aD ?_) | (refine zau rfl aD ?_) | (refine zay rfl (fun h => ?_) (fun h => ?_) <;> (have h' := h; (try simp only [sx] at h')))))
      | (refine za2 ?_) | (refine zag ?_) | (refine zaj ?_) | (refine zao ?_) | (refine zam ?_) | (refine zan ?_) | (refine zaq rfl ?_) | (refine zah ?_) | (refine zai ?_) | (refine zbi ?_))
    all_goals first
      | (exfalso; omega)
      | (refine zb6 (i + 1) rfl aW aO aO)
      | (exfalso; simp at *; done)
  · repeat' (first
      | (refine zaz ?_; first | (refine za4 ?_; refine zas _ rfl ?_) | (refine zak ?_; refine zaa _ rfl ?_) | (refine zbu ?_; first | (refine zb0 rfl rfl aO ?_) | (refine zbs _ rfl rfl rfl ?_) | (refine zca aA rfl rfl ?_) | (refine zav _ rfl rfl rfl ?_)) | (refine zbb ?_; first | (refine zab aA rfl ?_) | (refine zae _ aA rfl rfl aE rfl ?_) | (refine zac _ aA rfl aZ aL ?_) | (refine zad _ aA rfl rfl aE aZ aL ?_)) | (refine zbd ?_; first | (refine zax _ aA rfl rfl aO aA ?_) | (refine zaw _ aA rfl rfl rfl rfl aO aO (by first | (rw [Nat.zero_add, Int.toNat_natCast]) | (rw [Nat.zero_add]) | rfl) ?_)) | (refine za9 ?_; first | (refine za8 aA rfl ?_) | (refine za6 aA rfl rfl ?_) | (refine za5 aA rfl ?_) | (refine za7 aA (evO_ok rfl) ?_)) | (refine zar (hK _ _ (.inl rfl) ?_); clear hK K) | (refine zar (hK _ _ (.inr (by kernel_rfl)) ?_); clear hK K))
      | (refine za3 ?_; first | (refine zbk ?_) | (refine zaf (fun K hK => ?_)) | (refine zap ?_) | (refine za0 ?_) | (refine zbj ?_) | (refine za1 ?_) | (refine zbe ?_; first | (refine zat rfl aD ?_) | (refine zau rfl aD ?_) | (refine zay rfl (fun h => ?_) (fun h => ?_) <;> (have h' := h; (try simp only [sx] at h')))))
      | (refine za2 ?_) | (refine zag ?_) | (refine zaj ?_) | (refine zao ?_) | (refine zam ?_) | (refine zan ?_) | (refine zaq rfl ?_) | (refine zah ?_) | (refine zai ?_) | (refine zbi ?_))
    all_goals first
      | (exfalso; omega)
      | exact zb2 rfl (zbh rfl) rfl
theorem k_vHas (xs : List Int) (n : Int) (hn : xs.length ≤ 1099511627776) : Con Try.prog 73 [.list 1 (ints xs), .int .i64 n] (.bool (decide (n ∈ xs))) := by
  intro al
  refine zba hmix Try.func73 rfl (by kernel_rfl) (by kernel_rfl) (Nat.le_of_ble_eq_true rfl) (fun row h => by cases h) ?_
  have hty_u24 := ty_u24
  have hty_s24 := ty_s24
  have hty_c3 := ty_c3
  have hl1 : (ints xs).length = xs.length := by simp
  repeat' (first
      | (refine zaz ?_; first | (refine za4 ?_; refine zas _ rfl ?_) | (refine zak ?_; refine zaa _ rfl ?_) | (refine zbu ?_; first | (refine zb0 rfl rfl aO ?_) | (refine zbs _ rfl rfl rfl ?_) | (refine zbr aA rfl rfl ?_) | (refine zav _ rfl rfl rfl ?_)) | (refine zbb ?_; first | (refine zab aA rfl ?_) | (refine zae _ aA rfl rfl aE rfl ?_) | (refine zac _ aA rfl aZ aL ?_) | (refine zad _ aA rfl rfl aE aZ aL ?_)) | (refine zbd ?_; first | (refine zax _ aA rfl rfl aO aA ?_) | (refine zaw _ aA rfl rfl rfl rfl aO aO (by first | (rw [Nat.zero_add, Int.toNat_natCast]) | (rw [Nat.zero_add]) | rfl) ?_)) | (refine za9 ?_; first | (refine za8 aA rfl ?_) | (refine za6 aA rfl rfl ?_) | (refine za5 aA rfl ?_) | (refine za7 aA (evO_ok rfl) ?_)) | (refine zar (hK _ _ (.inl rfl) ?_); clear hK K) | (refine zar (hK _ _ (.inr (by kernel_rfl)) ?_); clear hK K))
      | (refine za3 ?_; first | (refine zbk ?_) | (refine zaf (fun K hK => ?_)) | (refine zap ?_) | (refine za0 ?_) | (refine zbj ?_) | (refine za1 ?_) | (refine zbe ?_; first | (refine zat rfl aD ?_) | (refine zau rfl aD ?_) | (refine zay rfl (fun h => ?_) (fun h => ?_) <;> (have h' := h; (try simp only [sx] at h')))))
      | (refine za2 ?_) | (refine zag ?_) | (refine zaj ?_) | (refine zao ?_) | (refine zam ?_) | (refine zan ?_) | (refine zaq rfl ?_) | (refine zah ?_) | (refine zai ?_) | (refine zbi ?_))
  refine zcd [0, 1] [] (fun i : Nat => [(5, .int .i64 i)]) (fun i : Nat => []) (fun i : Nat => i ≤ xs.length ∧ ∀ x ∈ xs.take i, x ≠ n) (fun i : Nat => xs.length - i) (0) rfl rfl (fun _ => rfl) (fun _ => rfl) rfl aW ⟨by omega, within_nil⟩ (fun i hi => ?_)
  obtain ⟨hi1, hi2⟩ := hi
  rcases Nat.lt_or_ge i xs.length with hlt | hge
  · obtain ⟨a, hga⟩ := get_ex hlt
    have hx := ints_at hga
    by_cases he : a = n
    · have hm : n ∈ xs := by rw [← he]; exact get_mem hga
      repeat' (first
      | (refine zaz ?_; first | (refine za4 ?_; refine zas _ rfl ?_) | (refine zak ?_; refine zaa _ rfl ?_) | (refine zbu ?_; first | (refine zb0 rfl rfl aO ?_) | (refine zbs _ rfl rfl rfl ?_) | (refine zbr aA rfl rfl ?_) | (refine zav _ rfl rfl rfl ?_)) | (refine zbb ?_; first | (refine zab aA rfl ?_) | (refine zae _ aA rfl rfl aE rfl ?_) | (refine zac _ aA rfl aZ aL ?_) | (refine zad _ aA rfl rfl aE aZ aL ?_)) | (refine zbd ?_; first | (refine zax _ aA rfl rfl aO aA ?_) | (refine zaw _ aA rfl rfl rfl rfl aO aO (by first | (rw [Nat.zero_add, Int.toNat_natCast]) | (rw [Nat.zero_add]) | rfl) ?_)) | (refine za9 ?_; first | (refine za8 aA rfl ?_) | (refine za6 aA rfl rfl ?_) | (refine za5 aA rfl ?_) | (refine za7 aA (evO_ok rfl) ?_)) | (refine zar (hK _ _ (.inl rfl) ?_); clear hK K) | (refine zar (hK _ _ (.inr (by kernel_rfl)) ?_); clear hK K))
      | (refine za3 ?_; first | (refine zbk ?_) | (refine zaf (fun K hK => ?_)) | (refine zap ?_) | (refine za0 ?_) | (refine zbj ?_) | (refine za1 ?_) | (refine zbe ?_; first | (refine zat rfl aD ?_) | (refine zau rfl aD ?_) | (refine zay rfl (fun h => ?_) (fun h => ?_) <;> (have h' := h; (try simp only [sx] at h')))))
      | (refine za2 ?_) | (refine zag ?_) | (refine zaj ?_) | (refine zao ?_) | (refine zam ?_) | (refine zan ?_) | (refine zaq rfl ?_) | (refine zah ?_) | (refine zai ?_) | (refine zbi ?_))
      all_goals first
        | (exfalso; omega)
        | exact zb2 rfl (zbh rfl) (by simp [hm])
    · repeat' (first
      | (refine zaz ?_; first | (refine za4 ?_; refine zas _ rfl ?_) | (refine zak ?_; refine zaa _ rfl ?_) | (refine zbu ?_; first | (refine zb0 rfl rfl aO ?_) | (refine zbs _ rfl rfl rfl ?_) | (refine zbr aA rfl rfl ?_) | (refine zav _ rfl rfl rfl ?_)) | (refine zbb ?_; first | (refine zab aA rfl ?_) | (refine zae _ aA rfl rfl aE rfl ?_) | (refine zac _ aA rfl aZ aL ?_) | (refine zad _ aA rfl rfl aE aZ aL ?_)) | (refine zbd ?_; first | (refine zax _ aA rfl rfl aO aA ?_) | (refine zaw _ aA rfl rfl rfl rfl aO aO (by first | (rw [Nat.zero_add, Int.toNat_natCast]) | (rw [Nat.zero_add]) | rfl) ?_)) | (refine za9 ?_; first | (refine za8 aA rfl ?_) | (refine za6 aA rfl rfl ?_) | (refine za5 aA rfl ?_) | (refine za7 aA (evO_ok rfl) ?_)) | (refine zar (hK _ _ (.inl rfl) ?_); clear hK K) | (refine zar (hK _ _ (.inr (by kernel_rfl)) ?_); clear hK K))
      | (refine za3 ?_; first | (refine zbk ?_) | (refine zaf (fun K hK => ?_)) | (refine zap ?_) | (refine za0 ?_) | (refine zbj ?_) | (refine za1 ?_) | (refine zbe ?_; first | (refine zat rfl aD ?_) | (refine zau rfl aD ?_) | (refine zay rfl (fun h => ?_) (fun h => ?_) <;> (have h' := h; (try simp only [sx] at h')))))
      | (refine za2 ?_) | (refine zag ?_) | (refine zaj ?_) | (refine zao ?_) | (refine zam ?_) | (refine zan ?_) | (refine zaq rfl ?_) | (refine zah ?_) | (refine zai ?_) | (refine zbi ?_))
      all_goals first
        | (exfalso; omega)
        | (refine zb6 (i + 1) rfl aW ⟨by omega, within_step hi2 hga he⟩ aO)
  · rw [take_all hge] at hi2
    have hm : n ∉ xs := fun h => hi2 n h rfl
    repeat' (first
      | (refine zaz ?_; first | (refine za4 ?_; refine zas _ rfl ?_) | (refine zak ?_; refine zaa _ rfl ?_) | (refine zbu ?_; first | (refine zb0 rfl rfl aO ?_) | (refine zbs _ rfl rfl rfl ?_) | (refine zbr aA rfl rfl ?_) | (refine zav _ rfl rfl rfl ?_)) | (refine zbb ?_; first | (refine zab aA rfl ?_) | (refine zae _ aA rfl rfl aE rfl ?_) | (refine zac _ aA rfl aZ aL ?_) | (refine zad _ aA rfl rfl aE aZ aL ?_)) | (refine zbd ?_; first | (refine zax _ aA rfl rfl aO aA ?_) | (refine zaw _ aA rfl rfl rfl rfl aO aO (by first | (rw [Nat.zero_add, Int.toNat_natCast]) | (rw [Nat.zero_add]) | rfl) ?_)) | (refine za9 ?_; first | (refine za8 aA rfl ?_) | (refine za6 aA rfl rfl ?_) | (refine za5 aA rfl ?_) | (refine za7 aA (evO_ok rfl) ?_)) | (refine zar (hK _ _ (.inl rfl) ?_); clear hK K) | (refine zar (hK _ _ (.inr (by kernel_rfl)) ?_); clear hK K))
      | (refine za3 ?_; first | (refine zbk ?_) | (refine zaf (fun K hK => ?_)) | (refine zap ?_) | (refine za0 ?_) | (refine zbj ?_) | (refine za1 ?_) | (refine zbe ?_; first | (refine zat rfl aD ?_) | (refine zau rfl aD ?_) | (refine zay rfl (fun h => ?_) (fun h => ?_) <;> (have h' := h; (try simp only [sx] at h')))))
      | (refine za2 ?_) | (refine zag ?_) | (refine zaj ?_) | (refine zao ?_) | (refine zam ?_) | (refine zan ?_) | (refine zaq rfl ?_) | (refine zah ?_) | (refine zai ?_) | (refine zbi ?_))
    all_goals first
      | (exfalso; omega)
      | exact zb2 rfl (zbh rfl) (by simp [hm])
theorem k_vWithin (xs ys : List Int) (hn : xs.length ≤ 1099511627776) (hm : ys.length ≤ 1099511627776) : Con Try.prog 14 [.list 1 (ints xs), .list 1 (ints ys)] (.bool (decide (∀ x ∈ xs, x ∈ ys))) := by
  intro al
  refine zba hmix Try.func14 rfl (by kernel_rfl) (by kernel_rfl) (Nat.le_of_ble_eq_true rfl) (fun row h => by cases h) ?_
  have hty_u24 := ty_u24
  have hty_s24 := ty_s24
  have hty_c3 := ty_c3
  have hl1 : (ints xs).length = xs.length := by simp
  repeat' (first
      | (refine zaz ?_; first | (refine za4 ?_; refine zas _ rfl ?_) | (refine zak ?_; refine zaa _ rfl ?_) | (refine zbu ?_; first | (refine zb0 rfl rfl aO ?_) | (refine zbs _ rfl rfl rfl ?_) | (refine zav _ rfl rfl rfl ?_)) | (refine g_un ?_; first | (refine zb7 rfl ?_) | (refine zb8 rfl aO ?_)) | (refine zbb ?_; first | (refine zab aA rfl ?_) | (refine zae _ aA rfl rfl aE rfl ?_) | (refine zac _ aA rfl aZ aL ?_) | (refine zad _ aA rfl rfl aE aZ aL ?_)) | (refine zbd ?_; first | (refine zax _ aA rfl rfl aO aA ?_) | (refine zaw _ aA rfl rfl rfl rfl aO aO (by first | (rw [Nat.zero_add, Int.toNat_natCast]) | (rw [Nat.zero_add]) | rfl) ?_)) | (refine za9 ?_; first | (refine za8 aA rfl ?_) | (refine za6 aA rfl rfl ?_) | (refine za5 aA rfl ?_) | (refine za7 aA (evO_ok rfl) ?_)) | (refine zar (hK _ _ (.inl rfl) ?_); clear hK K) | (refine zar (hK _ _ (.inr (by kernel_rfl)) ?_); clear hK K))
      | (refine za3 ?_; first | (refine zbk ?_) | (refine zaf (fun K hK => ?_)) | (refine zap ?_) | (refine za0 ?_) | (refine zbj ?_) | (refine za1 ?_) | (refine zbe ?_; first | (refine zat rfl aD ?_) | (refine zau rfl aD ?_) | (refine zay rfl (fun h => ?_) (fun h => ?_) <;> (have h' := h; (try simp only [sx] at h')))))
      | (refine za2 ?_) | (refine zag ?_) | (refine zaj ?_) | (refine zao ?_) | (refine zam ?_) | (refine zan ?_) | (refine zaq rfl ?_) | (refine zah ?_) | (refine zai ?_) | (refine zbi ?_))
  refine zcd [0, 1] [] (fun i : Nat => [(5, .int .i64 i)]) (fun i : Nat => []) (fun i : Nat => i ≤ xs.length ∧ ∀ x ∈ xs.take i, x ∈ ys) (fun i : Nat => xs.length - i) (0) rfl rfl (fun _ => rfl) (fun _ => rfl) rfl aW ⟨by omega, within_nil⟩ (fun i hi => ?_)
  obtain ⟨hi1, hi2⟩ := hi
  rcases Nat.lt_or_ge i xs.length with hlt | hge
  · obtain ⟨a, hga⟩ := get_ex hlt
    have hx := ints_at hga
    have kH := k_vHas ys a hm
    by_cases he : a ∈ ys
    · rw [decide_eq_true he] at kH
      repeat' (first
      | (refine zaz ?_; first | (refine za4 ?_; refine zas _ rfl ?_) | (refine zak ?_; refine zaa _ rfl ?_) | (refine zbu ?_; first | (refine zb0 rfl rfl aO ?_) | (refine zbs _ rfl rfl rfl ?_) | (refine zav _ rfl rfl rfl ?_)) | (refine g_un ?_; first | (refine zb7 rfl ?_) | (refine zb8 rfl aO ?_)) | (refine zbb ?_; first | (refine zab aA rfl ?_) | (refine zae _ aA rfl rfl aE rfl ?_) | (refine zac _ aA rfl aZ aL ?_) | (refine zad _ aA rfl rfl aE aZ aL ?_)) | (refine zbd ?_; first | (refine zax _ aA rfl rfl aO aA ?_) | (refine zaw _ aA rfl rfl rfl rfl aO aO (by first | (rw [Nat.zero_add, Int.toNat_natCast]) | (rw [Nat.zero_add]) | rfl) ?_)) | (refine za9 ?_; first | (refine zbc true (kH) rfl rfl rfl aS rfl aH ?_; simp only [cl]) | (refine za8 aA rfl ?_) | (refine za6 aA rfl rfl ?_) | (refine za5 aA rfl ?_) | (refine za7 aA (evO_ok rfl) ?_)) | (refine zar (hK _ _ (.inl rfl) ?_); clear hK K) | (refine zar (hK _ _ (.inr (by kernel_rfl)) ?_); clear hK K))
      | (refine za3 ?_; first | (refine zbk ?_) | (refine zaf (fun K hK => ?_)) | (refine zap ?_) | (refine za0 ?_) | (refine zbj ?_) | (refine za1 ?_) | (refine zbe ?_; first | (refine zat rfl aD ?_) | (refine zau rfl aD ?_) | (refine zay rfl (fun h => ?_) (fun h => ?_) <;> (have h' := h; (try simp only [sx] at h')))))
      | (refine za2 ?_) | (refine zag ?_) | (refine zaj ?_) | (refine zao ?_) | (refine zam ?_) | (refine zan ?_) | (refine zaq rfl ?_) | (refine zah ?_) | (refine zai ?_) | (refine zbi ?_))
      all_goals first
        | (exfalso; omega)
        | (refine zb6 (i + 1) rfl aW ⟨by omega, within_step hi2 hga he⟩ aO)
    · have hno : ¬ ∀ x ∈ xs, x ∈ ys := fun h => he (h a (get_mem hga))
      rw [decide_eq_false he] at kH
      repeat' (first
      | (refine zaz ?_; first | (refine za4 ?_; refine zas _ rfl ?_) | (refine zak ?_; refine zaa _ rfl ?_) | (refine zbu ?_; first | (refine zb0 rfl rfl aO ?_) | (refine zbs _ rfl rfl rfl ?_) | (refine zav _ rfl rfl rfl ?_)) | (refine g_un ?_; first | (refine zb7 rfl ?_) | (refine zb8 rfl aO ?_)) | (refine zbb ?_; first | (refine zab aA rfl ?_) | (refine zae _ aA rfl rfl aE rfl ?_) | (refine zac _ aA rfl aZ aL ?_) | (refine zad _ aA rfl rfl aE aZ aL ?_)) | (refine zbd ?_; first | (refine zax _ aA rfl rfl aO aA ?_) | (refine zaw _ aA rfl rfl rfl rfl aO aO (by first | (rw [Nat.zero_add, Int.toNat_natCast]) | (rw [Nat.zero_add]) | rfl) ?_)) | (refine za9 ?_; first | (refine zbc true (kH) rfl rfl rfl aS rfl aH ?_; simp only [cl]) | (refine za8 aA rfl ?_) | (refine za6 aA rfl rfl ?_) | (refine za5 aA rfl ?_) | (refine za7 aA (evO_ok rfl) ?_)) | (refine zar (hK _ _ (.inl rfl) ?_); clear hK K) | (refine zar (hK _ _ (.inr (by kernel_rfl)) ?_); clear hK K))
      | (refine za3 ?_; first | (refine zbk ?_) | (refine zaf (fun K hK => ?_)) | (refine zap ?_) | (refine za0 ?_) | (refine zbj ?_) | (refine za1 ?_) | (refine zbe ?_; first | (refine zat rfl aD ?_) | (refine zau rfl aD ?_) | (refine zay rfl (fun h => ?_) (fun h => ?_) <;> (have h' := h; (try simp only [sx] at h')))))
      | (refine za2 ?_) | (refine zag ?_) | (refine zaj ?_) | (refine zao ?_) | (refine zam ?_) | (refine zan ?_) | (refine zaq rfl ?_) | (refine zah ?_) | (refine zai ?_) | (refine zbi ?_))
      all_goals first
        | (exfalso; omega)
        | exact zb2 rfl (zbh rfl) (by simp only [decide_eq_false hno])
  · rw [take_all hge] at hi2
    repeat' (first
      | (refine zaz ?_; first | (refine za4 ?_; refine zas _ rfl ?_) | (refine zak ?_; refine zaa _ rfl ?_) | (refine zbu ?_; first | (refine zb0 rfl rfl aO ?_) | (refine zbs _ rfl rfl rfl ?_) | (refine zav _ rfl rfl rfl ?_)) | (refine g_un ?_; first | (refine zb7 rfl ?_) | (refine zb8 rfl aO ?_)) | (refine zbb ?_; first | (refine zab aA rfl ?_) | (refine zae _ aA rfl rfl aE rfl ?_) | (refine zac _ aA rfl aZ aL ?_) | (refine zad _ aA rfl rfl aE aZ aL ?_)) | (refine zbd ?_; first | (refine zax _ aA rfl rfl aO aA ?_) | (refine zaw _ aA rfl rfl rfl rfl aO aO (by first | (rw [Nat.zero_add, Int.toNat_natCast]) | (rw [Nat.zero_add]) | rfl) ?_)) | (refine za9 ?_; first | (refine za8 aA rfl ?_) | (refine za6 aA rfl rfl ?_) | (refine za5 aA rfl ?_) | (refine za7 aA (evO_ok rfl) ?_)) | (refine zar (hK _ _ (.inl rfl) ?_); clear hK K) | (refine zar (hK _ _ (.inr (by kernel_rfl)) ?_); clear hK K))
      | (refine za3 ?_; first | (refine zbk ?_) | (refine zaf (fun K hK => ?_)) | (refine zap ?_) | (refine za0 ?_) | (refine zbj ?_) | (refine za1 ?_) | (refine zbe ?_; first | (refine zat rfl aD ?_) | (refine zau rfl aD ?_) | (refine zay rfl (fun h => ?_) (fun h => ?_) <;> (have h' := h; (try simp only [sx] at h')))))
      | (refine za2 ?_) | (refine zag ?_) | (refine zaj ?_) | (refine zao ?_) | (refine zam ?_) | (refine zan ?_) | (refine zaq rfl ?_) | (refine zah ?_) | (refine zai ?_) | (refine zbi ?_))
    all_goals first
      | (exfalso; omega)
      | exact zb2 rfl (zbh rfl) (by simp only [decide_eq_true hi2])
end Go.Vs
set_option linter.unusedVariables false
set_option linter.unusedSimpArgs false
namespace Go.Vs
theorem vwp_mono {P : Program} : ∀ (c : Code) (s : St) (Q1 Q2 : Exit → St → Prop), (∀ e s, Q1 e s → Q2 e s) → vwp P c s Q1 → vwp P c s Q2 := by
  have emono : ∀ (ops : Array Oper) (draw : Bool) (l : List Oper) (s : St) (tr : List (List Id × List Id)) (K1 K2 : St → List (List Id × List Id) → Prop), (∀ s tr, K1 s tr → K2 s tr) → exec P ops draw l s tr K1 → exec P ops draw l s tr K2 := by
    intro ops draw l
    induction l with
    | nil => intro s tr K1 K2 hK h; exact hK _ _ h
    | cons o l ih =>
      intro s tr K1 K2 hK h
      rcases h with ⟨hw, h⟩ | ⟨hw, ⟨f, hs, h⟩ | ⟨t, al, fz, ids, rd, ios, Post, hc, ⟨hd, h⟩ | ⟨r, fin, hu, h⟩⟩⟩
      · exact .inl ⟨hw, ih _ _ _ _ hK h⟩
      · exact .inr ⟨hw, .inl ⟨f, hs, ih _ _ _ _ hK h⟩⟩
      · exact .inr ⟨hw, .inr ⟨t, al, fz, ids, rd, ios, Post, hc, .inl ⟨hd, fun r fin hp hl => ih _ _ _ _ hK (h r fin hp hl)⟩⟩⟩
      · exact .inr ⟨hw, .inr ⟨t, al, fz, ids, rd, ios, Post, hc, .inr ⟨r, fin, hu, ih _ _ _ _ hK h⟩⟩⟩
  intro c
  induction c with
  | skip => intro s Q1 Q2 hQ h; exact hQ _ _ h
  | ret => intro s Q1 Q2 hQ h; exact hQ _ _ h
  | exit id => intro s Q1 Q2 hQ h; exact hQ _ _ h
  | region id ops draw => intro s Q1 Q2 hQ h; exact emono ops draw _ _ _ _ _ (fun s tr h => ⟨h.1, hQ _ _ h.2⟩) h
  | seq x y ihx ihy =>
    intro s Q1 Q2 hQ h
    refine ihx s _ _ ?_ h
    intro e s he
    cases e with
    | normal => obtain ⟨s2, hs2, he⟩ := he; exact ⟨s2, hs2, ihy s2 _ _ hQ he⟩
    | _ => exact hQ _ _ he
  | cond c x y ihx ihy => intro s Q1 Q2 hQ h; obtain ⟨b, h0, h1, h2⟩ := h; exact ⟨b, h0, fun hb => ihx s _ _ hQ (h1 hb), fun hb => ihy s _ _ hQ (h2 hb)⟩
  | block id x ihx =>
    intro s Q1 Q2 hQ h
    refine ihx s _ _ ?_ h
    intro e s he
    cases e with
    | exit id' =>
      simp only at he ⊢
      split
      · rename_i hid; rw [if_pos hid] at he; exact hQ _ _ he
      · rename_i hid; rw [if_neg hid] at he; exact hQ _ _ he
    | _ => exact hQ _ _ he
  | loop x ihx =>
    intro s Q1 Q2 hQ h
    obtain ⟨I, m, s0, h0, h1, h2⟩ := h
    refine ⟨I, m, s0, h0, h1, fun s' hs' => ihx s' _ _ ?_ (h2 s' hs')⟩
    intro e s he
    cases e with
    | normal => exact he
    | _ => exact hQ _ _ he
  | _ => intro s Q1 Q2 hQ h; exact h.elim
def ckey : Code → Nat
  | .region id _ _ => id
  | .cond (.tmp t) _ _ => 1000000 + t
  | .block id _ => 2000000 + id
  | .seq x _ => 3000000 + ckey x
  | _ => 9000000
section
variable {P : Program} {st : St} {Q : Exit → St → Prop} {x y z : Code}
theorem v_seqN (d : Nat) (hd : Nat.beq (ckey x) d = false) (h : vwp P x st (thenQ P y Q)) : vwp P (.seq x y) st Q := zbk h
theorem v_cutK {α : Type} (live : List Nat) (no : List Id) (var : α → List (Nat × PV)) (memv : α → List (Id × Option Row)) (R : α → Prop)
    {kept : List (Nat × PV)} {keptM : List (Id × Option Row)} {full : α → List (Nat × PV)} {fullM : α → List (Id × Option Row)}
    (hk : keepO st.env live = some kept) (hkm : keepM st.mem no kept = some keptM) (hf : ∀ a, appO (var a) kept = some (full a)) (hfm : ∀ a, appO (memv a) keptM = some (fullM a))
    (hx : vwp P x st (loopQ (fun s => ∃ a', s = ⟨full a', fullM a'⟩ ∧ R a' ∧ (fun _ : α => 0) a' < 1) (fun _ => 0) 1 Q))
    (hy : ∀ a, R a → vwp P y ⟨full a, fullM a⟩ Q) : vwp P (.seq x y) st Q := by
  refine zbk (vwp_mono x st _ _ ?_ hx)
  intro e s he
  cases e with
  | normal =>
    obtain ⟨s3, h1, ⟨a, rfl, h2, _⟩, _⟩ := he
    exact ⟨_, h1, hy a h2⟩
  | _ => exact he
end
end Go.Vs
set_option linter.unusedVariables false
set_option linter.unusedSimpArgs false
set_option maxRecDepth 100000
set_option maxHeartbeats 4000000
namespace Go.Vs
open Go.Proofs
attribute [local irreducible] exec vwp thenQ blkQ loopQ RetPost
theorem k_vTableS (L : List (List Int)) (hn : L.length ≤ 1000000) (hm : ∀ l ∈ L, l.length ≤ 1000000) : Con Try.prog 27 [.list 1 (tabR L), .list 1 (tabR L)] (.bool true) := by
  intro al
  refine zba hmix Try.func27 rfl (by kernel_rfl) (by kernel_rfl) (Nat.le_of_ble_eq_true rfl) (fun row h => by cases h) ?_
  have hty_u35 := ty_u35
  have hty_s35 := ty_s35
  have hty_c24 := ty_c24
  have hty_u24 := ty_u24
  have hty_s24 := ty_s24
  have hl1 := tabR_len L
  repeat' (first
      | (refine zaz ?_; first | (refine za4 ?_; refine zas _ rfl ?_) | (refine zak ?_; refine zaa _ rfl ?_) | (refine zbu ?_; first | (refine zb0 rfl rfl aO ?_) | (refine zbs _ rfl rfl rfl ?_) | (refine zca aA rfl rfl ?_) | (refine zav _ rfl rfl rfl ?_)) | (refine g_un ?_; first | (refine zb7 rfl ?_) | (refine zb8 rfl aO ?_)) | (refine zbb ?_; first | (refine zab aA rfl ?_) | (refine zae _ aA rfl rfl aE rfl ?_) | (refine zac _ aA rfl aZ aL ?_) | (refine zad _ aA rfl rfl aE aZ aL ?_)) | (refine zbd ?_; first | (refine zax _ aA rfl rfl aO aA ?_) | (refine zaw _ aA rfl rfl rfl rfl aO aO (by first | (rw [Nat.zero_add, Int.toNat_natCast]) | (rw [Nat.zero_add]) | rfl) ?_)) | (refine za9 ?_; first | (refine za8 aA rfl ?_) | (refine za6 aA rfl rfl ?_) | (refine za5 aA rfl ?_) | (refine za7 aA (evO_ok rfl) ?_)) | (refine zar (hK _ _ (.inl rfl) ?_); clear hK K) | (refine zar (hK _ _ (.inr (by kernel_rfl)) ?_); clear hK K))
      | (refine za3 ?_; first | (refine zbk ?_) | (refine zaf (fun K hK => ?_)) | (refine zap ?_) | (refine za0 ?_) | (refine zbj ?_) | (refine za1 ?_) | (refine zbe ?_; first | (refine zat rfl aD ?_) | (refine zau rfl aD ?_) | (refine zay rfl (fun h => ?_) (fun h => ?_) <;> (have h' := h; (try simp only [sx] at h')))))
      | (refine za2 ?_) | (refine zag ?_) | (refine zaj ?_) | (refine zao ?_) | (refine zam ?_) | (refine zan ?_) | (refine zaq rfl ?_) | (refine zah ?_) | (refine zai ?_) | (refine zbi ?_))
  all_goals try (exfalso; omega)
  refine zcd [0, 1] [] (fun i : Nat => [(5, .int .i64 i)]) (fun i : Nat => []) (fun i : Nat => i ≤ L.length) (fun i : Nat => L.length - i) (0) rfl rfl (fun _ => rfl) (fun _ => rfl) rfl aW aO (fun i hi => ?_)
  rcases Nat.lt_or_ge i L.length with hlt | hge
  · obtain ⟨a, ha⟩ := get_ex hlt
    have hx := tabR_at ha
    have kI := k_vIntsS a (by have := hm a (get_mem ha); omega)
    repeat' (first
      | (refine zaz ?_; first | (refine za4 ?_; refine zas _ rfl ?_) | (refine zak ?_; refine zaa _ rfl ?_) | (refine zbu ?_; first | (refine zb0 rfl rfl aO ?_) | (refine zbs _ rfl rfl rfl ?_) | (refine zca aA rfl rfl ?_) | (refine zav _ rfl rfl rfl ?_)) | (refine g_un ?_; first | (refine zb7 rfl ?_) | (refine zb8 rfl aO ?_)) | (refine zbb ?_; first | (refine zab aA rfl ?_) | (refine zae _ aA rfl rfl aE rfl ?_) | (refine zac _ aA rfl aZ aL ?_) | (refine zad _ aA rfl rfl aE aZ aL ?_)) | (refine zbd ?_; first | (refine zax _ aA rfl rfl aO aA ?_) | (refine zaw _ aA rfl rfl rfl rfl aO aO (by first | (rw [Nat.zero_add, Int.toNat_natCast]) | (rw [Nat.zero_add]) | rfl) ?_)) | (refine za9 ?_; first | (refine zbc true (kI) rfl rfl rfl aS rfl aH ?_; simp only [cl]) | (refine za8 aA rfl ?_) | (refine za6 aA rfl rfl ?_) | (refine za5 aA rfl ?_) | (refine za7 aA (evO_ok rfl) ?_)) | (refine zar (hK _ _ (.inl rfl) ?_); clear hK K) | (refine zar (hK _ _ (.inr (by kernel_rfl)) ?_); clear hK K))
      | (refine za3 ?_; first | (refine zbk ?_) | (refine zaf (fun K hK => ?_)) | (refine zap ?_) | (refine za0 ?_) | (refine zbj ?_) | (refine za1 ?_) | (refine zbe ?_; first | (refine zat rfl aD ?_) | (refine zau rfl aD ?_) | (refine zay rfl (fun h => ?_) (fun h => ?_) <;> (have h' := h; (try simp only [sx] at h')))))
      | (refine za2 ?_) | (refine zag ?_) | (refine zaj ?_) | (refine zao ?_) | (refine zam ?_) | (refine zan ?_) | (refine zaq rfl ?_) | (refine zah ?_) | (refine zai ?_) | (refine zbi ?_))
    all_goals first
      | (exfalso; omega)
      | (refine zb6 (i + 1) rfl aW aO aO)
      | (exfalso; simp at *; done)
  · repeat' (first
      | (refine zaz ?_; first | (refine za4 ?_; refine zas _ rfl ?_) | (refine zak ?_; refine zaa _ rfl ?_) | (refine zbu ?_; first | (refine zb0 rfl rfl aO ?_) | (refine zbs _ rfl rfl rfl ?_) | (refine zca aA rfl rfl ?_) | (refine zav _ rfl rfl rfl ?_)) | (refine g_un ?_; first | (refine zb7 rfl ?_) | (refine zb8 rfl aO ?_)) | (refine zbb ?_; first | (refine zab aA rfl ?_) | (refine zae _ aA rfl rfl aE rfl ?_) | (refine zac _ aA rfl aZ aL ?_) | (refine zad _ aA rfl rfl aE aZ aL ?_)) | (refine zbd ?_; first | (refine zax _ aA rfl rfl aO aA ?_) | (refine zaw _ aA rfl rfl rfl rfl aO aO (by first | (rw [Nat.zero_add, Int.toNat_natCast]) | (rw [Nat.zero_add]) | rfl) ?_)) | (refine za9 ?_; first | (refine za8 aA rfl ?_) | (refine za6 aA rfl rfl ?_) | (refine za5 aA rfl ?_) | (refine za7 aA (evO_ok rfl) ?_)) | (refine zar (hK _ _ (.inl rfl) ?_); clear hK K) | (refine zar (hK _ _ (.inr (by kernel_rfl)) ?_); clear hK K))
      | (refine za3 ?_; first | (refine zbk ?_) | (refine zaf (fun K hK => ?_)) | (refine zap ?_) | (refine za0 ?_) | (refine zbj ?_) | (refine za1 ?_) | (refine zbe ?_; first | (refine zat rfl aD ?_) | (refine zau rfl aD ?_) | (refine zay rfl (fun h => ?_) (fun h => ?_) <;> (have h' := h; (try simp only [sx] at h')))))
      | (refine za2 ?_) | (refine zag ?_) | (refine zaj ?_) | (refine zao ?_) | (refine zam ?_) | (refine zan ?_) | (refine zaq rfl ?_) | (refine zah ?_) | (refine zai ?_) | (refine zbi ?_))
    all_goals first
      | (exfalso; omega)
      | exact zb2 rfl (zbh rfl) rfl
structure PaF (t : Terrain) (r : List Int) (L : List (List Int)) : Prop where
  ok : RgOk t r
  len : L.length ≤ r.length
  sum : sumBy lenI L = r.length
  one : ∀ (i : Nat) p, L[i]? = some p → (1 ≤ p.length ∧ p.length ≤ 25) ∧ (∀ x ∈ p, x ∈ r) ∧ RgOk t p ∧ (paR t p).length = 1
  hds : ∀ (i : Nat) p q a b, L[i]? = some p → L[i + 1]? = some q → p[0]? = some a → q[0]? = some b → a < b
theorem paF_all {t : Terrain} {r : List Int} (hok : RgOk t r) : PaF t r (paR t r) := by
  have hS := set_ap hok.cel
  have hlen := goodT_len hok.1
  rw [paR, if_pos hok]
  refine ⟨hok, ptL_len _ _ _, ptL_sum hS hok.up, fun i p hp => ?_, fun i p q a b h1 h2 h3 h4 => ptL_heads hok.up h1 h2 h3 h4⟩
  obtain ⟨c, hc, h1, rfl, h2, h3⟩ := ptL_at hp
  have hsub : ∀ x ∈ cmp t r (apB t) c, x ∈ r := fun x hx => cmp_sub hS hc hx
  have hcl := cmp_len (t := t) (cells := r) (st := apB t) (c := c)
  have hpo := List.length_pos_of_mem (cmp_self hS hc)
  have hok2 : RgOk t (cmp t r (apB t) c) := ⟨hok.1, fun x hx => hok.cel x (hsub x hx), rising_of_pair cmp_rise⟩
  refine ⟨by omega, hsub, hok2, ?_⟩
  rw [paR, if_pos hok2]
  exact ptL_alone hS hc
theorem law_FnRegionParts (code : List Int) (g : code.length ≤ 9223372036854775807) (hb : ∀ b ∈ code, 0 ≤ b ∧ b ≤ 255) : Con Try.prog 4 [.list 1 (bytesP code)] (.bool true) := by
  intro al
  refine zba hmix Try.func4 rfl (by kernel_rfl) (by kernel_rfl) (Nat.le_of_ble_eq_true rfl) (fun row h => by cases h) ?_
  have hty_u22 := ty_u22
  have hty_s22 := ty_s22
  have hty_z26 := ty_z26
  have hty_t26 := ty_t26
  have hty_a26 := ty_a26
  have hty_u24 := ty_u24
  have hty_s24 := ty_s24
  have hty_u4 := ty_u4
  have hty_u35 := ty_u35
  have hty_s35 := ty_s35
  have hty_c24 := ty_c24
  have hty_c3 := ty_c3
  have kb := k_vBig code g
  by_cases hbig : 65536 < code.length
  · rw [decide_eq_true hbig] at kb
    repeat' (first
      | (refine zaz ?_; first | (refine za4 ?_; refine zas _ rfl ?_) | (refine zak ?_; refine zaa _ rfl ?_) | (refine zbu ?_; first | (refine zb0 rfl rfl aO ?_) | (refine zch rfl rfl aO ?_) | (refine zcq rfl rfl aO ?_) | (refine zce rfl rfl aO ?_) | (refine zbs _ rfl rfl rfl ?_) | (refine zbr aA rfl rfl ?_) | (refine zca aA rfl rfl ?_) | (refine zav _ rfl rfl rfl ?_)) | (refine g_un ?_; first | (refine zb7 rfl ?_) | (refine zb8 rfl aO ?_)) | (refine zbb ?_; first | (refine zab aA rfl ?_) | (refine zae _ aA rfl rfl aE rfl ?_) | (refine zac _ aA rfl aZ aL ?_) | (refine zad _ aA rfl rfl aE aZ aL ?_)) | (refine zbd ?_; first | (refine zax _ aA rfl rfl aO aA ?_) | (refine zaw _ aA rfl rfl rfl rfl aO aO (by first | (rw [Nat.zero_add, Int.toNat_natCast]) | (rw [Nat.zero_add]) | rfl) ?_)) | (refine zb3 ?_; first | (refine zbn rfl aD rfl ?_) | (refine zbp rfl aD ?_) | (refine zbm rfl aD ?_) | (refine zbq rfl aD rfl ?_)) | (refine zby ?_; first | (refine zb4 rfl rfl aD ?_) | (refine zcc rfl rfl aD ?_) | (refine zcb rfl rfl ?_) | (refine zbo rfl rfl (fun h => ?_) (fun h => ?_) <;> (have h' := h; (try simp only [sx] at h')))) | (refine za9 ?_; first | (refine zbc true (kb) rfl rfl rfl aS rfl aH ?_; simp only [cl]) | (refine za8 aA rfl ?_) | (refine za6 aA rfl rfl ?_) | (refine za5 aA rfl ?_) | (refine za7 aA (evO_ok rfl) ?_)) | (refine zb9 _ aA rfl ?_) | (refine zb5 aA rfl ?_) | (refine zb1 _ _ _ rfl rfl aE (by first | assumption | (exact TAgg.size aA)) rfl rfl rfl aZ rfl aL (by first | (first | (simp only [lx, Nat.reduceAdd]; first | done | rfl) | fail) | rfl) ?_) | (refine zcf _ rfl rfl ?_) | (refine zar (hK _ _ (.inl rfl) ?_); clear hK K) | (refine zar (hK _ _ (.inr (by kernel_rfl)) ?_); clear hK K))
      | (refine za3 ?_; first | (refine zbk ?_) | (refine zaf (fun K hK => ?_)) | (refine zap ?_) | (refine za0 ?_) | (refine zbj ?_) | (refine za1 ?_) | (refine zbe ?_; first | (refine zat rfl aD ?_) | (refine zau rfl aD ?_) | (refine zay rfl (fun h => ?_) (fun h => ?_) <;> (have h' := h; (try simp only [sx] at h')))))
      | (refine za2 ?_) | (refine zag ?_) | (refine zaj ?_) | (refine zao ?_) | (refine zam ?_) | (refine zan ?_) | (refine zaq rfl ?_) | (refine zah ?_) | (refine zai ?_) | (refine zbi ?_))
    exact zb2 rfl (zbh rfl) rfl
  · rw [decide_eq_false hbig] at kb
    have hz : CodeOk code := ⟨by omega, hb⟩
    repeat' (first
      | (refine zaz ?_; first | (refine za4 ?_; refine zas _ rfl ?_) | (refine zak ?_; refine zaa _ rfl ?_) | (refine zbu ?_; first | (refine zb0 rfl rfl aO ?_) | (refine zch rfl rfl aO ?_) | (refine zcq rfl rfl aO ?_) | (refine zce rfl rfl aO ?_) | (refine zbs _ rfl rfl rfl ?_) | (refine zbr aA rfl rfl ?_) | (refine zca aA rfl rfl ?_) | (refine zav _ rfl rfl rfl ?_)) | (refine g_un ?_; first | (refine zb7 rfl ?_) | (refine zb8 rfl aO ?_)) | (refine zbb ?_; first | (refine zab aA rfl ?_) | (refine zae _ aA rfl rfl aE rfl ?_) | (refine zac _ aA rfl aZ aL ?_) | (refine zad _ aA rfl rfl aE aZ aL ?_)) | (refine zbd ?_; first | (refine zax _ aA rfl rfl aO aA ?_) | (refine zaw _ aA rfl rfl rfl rfl aO aO (by first | (rw [Nat.zero_add, Int.toNat_natCast]) | (rw [Nat.zero_add]) | rfl) ?_)) | (refine zb3 ?_; first | (refine zbn rfl aD rfl ?_) | (refine zbp rfl aD ?_) | (refine zbm rfl aD ?_) | (refine zbq rfl aD rfl ?_)) | (refine zby ?_; first | (refine zb4 rfl rfl aD ?_) | (refine zcc rfl rfl aD ?_) | (refine zcb rfl rfl ?_) | (refine zbo rfl rfl (fun h => ?_) (fun h => ?_) <;> (have h' := h; (try simp only [sx] at h')))) | (refine za9 ?_; first | (refine zbc true (kb) rfl rfl rfl aS rfl aH ?_; simp only [cl]) | (refine x_callLP [] (k_DrawPartsOf code hz) rfl rfl (by (repeat' (first | exact trivial | refine ⟨⟨_, rfl, ?_⟩, ?_⟩ | exact .inl ⟨rfl, .inl rfl⟩ | exact .inr ⟨rfl, rfl, rfl, rfl, rfl, fun e he u hu => by (simp only [List.mem_cons, List.not_mem_nil, or_false] at he; subst he; simp only [List.mem_cons, List.not_mem_nil, or_false] at hu; subst hu; rfl)⟩ | exact .inl ⟨rfl, .inr (fun e he => by (simp only [List.mem_cons, List.not_mem_nil, or_false] at he; subst he; rfl))⟩ | fail)); first | done | fail) rfl rfl aS rfl (fun r_ fin_ hP_ => ?_); obtain ⟨t, r, ⟨rfl, rfl⟩, ht, hr⟩ := hP_; refine ⟨_, _, _, aH, rfl, ?_⟩; simp only [cl]) | (refine za8 aA rfl ?_) | (refine za6 aA rfl rfl ?_) | (refine za5 aA rfl ?_) | (refine za7 aA (evO_ok rfl) ?_)) | (refine zb9 _ aA rfl ?_) | (refine zb5 aA rfl ?_) | (refine zb1 _ _ _ rfl rfl aE (by first | assumption | (exact TAgg.size aA)) rfl rfl rfl aZ rfl aL (by first | (first | (simp only [lx, Nat.reduceAdd]; first | done | rfl) | fail) | rfl) ?_) | (refine zcf _ rfl rfl ?_) | (refine zar (hK _ _ (.inl rfl) ?_); clear hK K) | (refine zar (hK _ _ (.inr (by kernel_rfl)) ?_); clear hK K))
      | (refine za3 ?_; first | (refine zbk ?_) | (refine zaf (fun K hK => ?_)) | (refine zap ?_) | (refine za0 ?_) | (refine zbj ?_) | (refine za1 ?_) | (refine zbe ?_; first | (refine zat rfl aD ?_) | (refine zau rfl aD ?_) | (refine zay rfl (fun h => ?_) (fun h => ?_) <;> (have h' := h; (try simp only [sx] at h')))))
      | (refine za2 ?_) | (refine zag ?_) | (refine zaj ?_) | (refine zao ?_) | (refine zam ?_) | (refine zan ?_) | (refine zaq rfl ?_) | (refine zah ?_) | (refine zai ?_) | (refine zbi ?_))
    have ht3 := ht.2.2
    have kP1 := (k_iPartsO t r aO aO).frz rfl
    have kP2 := (k_sPartsO t r aO aO).frz rfl
    simp only [frz, frz2, List.map_cons, List.map_nil] at kP1 kP2
    have hF : decide (RgOk t r) = true → PaF t r (paR t r) := fun h => paF_all (of_decide_eq_true h)
    have hpl : (paR t r).length ≤ 30 ∧ ∀ l ∈ paR t r, l.length ≤ 30 := by
      unfold paR
      split
      · rename_i hok
        refine ⟨Nat.le_trans (ptL_len _ _ _) hr, fun l hl => ?_⟩
        have := (pt_cells (set_ap hok.cel) hl).2
        omega
      · simp
    have kT := k_vTableS (paR t r) aO (fun l hl => by have := hpl.2 l hl; omega)
    generalize paR t r = L at *
    generalize decide (RgOk t r) = o at *
    have hl1 := tabR_len L
    repeat' (first
      | (refine zaz ?_; first | (refine za4 ?_; refine zas _ rfl ?_) | (refine zak ?_; refine zaa _ rfl ?_) | (refine zbu ?_; first | (refine zb0 rfl rfl aO ?_) | (refine zch rfl rfl aO ?_) | (refine zcq rfl rfl aO ?_) | (refine zce rfl rfl aO ?_) | (refine zbs _ rfl rfl rfl ?_) | (refine zbr aA rfl rfl ?_) | (refine zca aA rfl rfl ?_) | (refine zav _ rfl rfl rfl ?_)) | (refine g_un ?_; first | (refine zb7 rfl ?_) | (refine zb8 rfl aO ?_)) | (refine zbb ?_; first | (refine zab aA rfl ?_) | (refine zae _ aA rfl rfl aE rfl ?_) | (refine zac _ aA rfl aZ aL ?_) | (refine zad _ aA rfl rfl aE aZ aL ?_)) | (refine zbd ?_; first | (refine zax _ aA rfl rfl aO aA ?_) | (refine zaw _ aA rfl rfl rfl rfl aO aO (by first | (rw [Nat.zero_add, Int.toNat_natCast]) | (rw [Nat.zero_add]) | rfl) ?_)) | (refine zb3 ?_; first | (refine zbn rfl aD rfl ?_) | (refine zbp rfl aD ?_) | (refine zbm rfl aD ?_) | (refine zbq rfl aD rfl ?_)) | (refine zby ?_; first | (refine zb4 rfl rfl aD ?_) | (refine zcc rfl rfl aD ?_) | (refine zcb rfl rfl ?_) | (refine zbo rfl rfl (fun h => ?_) (fun h => ?_) <;> (have h' := h; (try simp only [sx] at h')))) | (refine za9 ?_; first | (refine x_callA true (kP1) rfl rfl rfl rfl rfl aS rfl aH ?_; simp only [cl]) | (refine x_callA true (kP2) rfl rfl rfl rfl rfl aS rfl aH ?_; simp only [cl]) | (refine zbc true (kT) rfl rfl rfl aS rfl aH ?_; simp only [cl]) | (refine za8 aA rfl ?_) | (refine za6 aA rfl rfl ?_) | (refine za5 aA rfl ?_) | (refine za7 aA (evO_ok rfl) ?_)) | (refine zb9 _ aA rfl ?_) | (refine zb5 aA rfl ?_) | (refine zb1 _ _ _ rfl rfl aE (by first | assumption | (exact TAgg.size aA)) rfl rfl rfl aZ rfl aL (by first | (first | (simp only [lx, Nat.reduceAdd]; first | done | rfl) | fail) | rfl) ?_) | (refine zcf _ rfl rfl ?_) | (refine zar (hK _ _ (.inl rfl) ?_); clear hK K) | (refine zar (hK _ _ (.inr (by kernel_rfl)) ?_); clear hK K))
      | (refine za3 ?_; first | (refine v_seqN 3000008 rfl ?_) | (refine zaf (fun K hK => ?_)) | (refine zap ?_) | (refine za0 ?_) | (refine zbj ?_) | (refine za1 ?_) | (refine zbe ?_; first | (refine zat rfl aD ?_) | (refine zau rfl aD ?_) | (refine zay rfl (fun h => ?_) (fun h => ?_) <;> (have h' := h; (try simp only [sx] at h')))))
      | (refine za2 ?_) | (refine zag ?_) | (refine zaj ?_) | (refine zao ?_) | (refine zam ?_) | (refine zan ?_) | (refine zaq rfl ?_) | (refine zah ?_) | (refine zai ?_) | (refine zbi ?_))
    all_goals try (exfalso; simp at *; done)
    refine v_cutK [0] [] (fun u_ : Unit => []) (fun u_ : Unit => []) (fun u_ : Unit => True) rfl rfl (fun _ => rfl) (fun _ => rfl) ?_ (fun u_ hu_ => ?_)
    · cases o
      · repeat' (first
      | (refine zaz ?_; first | (refine za4 ?_; refine zas _ rfl ?_) | (refine zak ?_; refine zaa _ rfl ?_) | (refine zbu ?_; first | (refine zb0 rfl rfl aO ?_) | (refine zch rfl rfl aO ?_) | (refine zcq rfl rfl aO ?_) | (refine zce rfl rfl aO ?_) | (refine zbs _ rfl rfl rfl ?_) | (refine zbr aA rfl rfl ?_) | (refine zca aA rfl rfl ?_) | (refine zav _ rfl rfl rfl ?_)) | (refine g_un ?_; first | (refine zb7 rfl ?_) | (refine zb8 rfl aO ?_)) | (refine zbb ?_; first | (refine zab aA rfl ?_) | (refine zae _ aA rfl rfl aE rfl ?_) | (refine zac _ aA rfl aZ aL ?_) | (refine zad _ aA rfl rfl aE aZ aL ?_)) | (refine zbd ?_; first | (refine zax _ aA rfl rfl aO aA ?_) | (refine zaw _ aA rfl rfl rfl rfl aO aO (by first | (rw [Nat.zero_add, Int.toNat_natCast]) | (rw [Nat.zero_add]) | rfl) ?_)) | (refine zb3 ?_; first | (refine zbn rfl aD rfl ?_) | (refine zbp rfl aD ?_) | (refine zbm rfl aD ?_) | (refine zbq rfl aD rfl ?_)) | (refine zby ?_; first | (refine zb4 rfl rfl aD ?_) | (refine zcc rfl rfl aD ?_) | (refine zcb rfl rfl ?_) | (refine zbo rfl rfl (fun h => ?_) (fun h => ?_) <;> (have h' := h; (try simp only [sx] at h')))) | (refine za9 ?_; first | (refine za8 aA rfl ?_) | (refine za6 aA rfl rfl ?_) | (refine za5 aA rfl ?_) | (refine za7 aA (evO_ok rfl) ?_)) | (refine zb9 _ aA rfl ?_) | (refine zb5 aA rfl ?_) | (refine zb1 _ _ _ rfl rfl aE (by first | assumption | (exact TAgg.size aA)) rfl rfl rfl aZ rfl aL (by first | (first | (simp only [lx, Nat.reduceAdd]; first | done | rfl) | fail) | rfl) ?_) | (refine zcf _ rfl rfl ?_) | (refine zar (hK _ _ (.inl rfl) ?_); clear hK K) | (refine zar (hK _ _ (.inr (by kernel_rfl)) ?_); clear hK K))
      | (refine za3 ?_; first | (refine zbk ?_) | (refine zaf (fun K hK => ?_)) | (refine zap ?_) | (refine za0 ?_) | (refine zbj ?_) | (refine za1 ?_) | (refine zbe ?_; first | (refine zat rfl aD ?_) | (refine zau rfl aD ?_) | (refine zay rfl (fun h => ?_) (fun h => ?_) <;> (have h' := h; (try simp only [sx] at h')))))
      | (refine za2 ?_) | (refine zag ?_) | (refine zaj ?_) | (refine zao ?_) | (refine zam ?_) | (refine zan ?_) | (refine zaq rfl ?_) | (refine zah ?_) | (refine zai ?_) | (refine zbi ?_))
        all_goals (refine zb6 () rfl aW trivial (by decide))
      have hF := hF rfl
      have hrl := hF.ok.len
      have hLl := hF.len
      have hLs := hF.sum
      have hlr : (ints r).length = r.length := by simp
      repeat' (first
      | (refine zaz ?_; first | (refine za4 ?_; refine zas _ rfl ?_) | (refine zak ?_; refine zaa _ rfl ?_) | (refine zbu ?_; first | (refine zb0 rfl rfl aO ?_) | (refine zch rfl rfl aO ?_) | (refine zcq rfl rfl aO ?_) | (refine zce rfl rfl aO ?_) | (refine zbs _ rfl rfl rfl ?_) | (refine zbr aA rfl rfl ?_) | (refine zca aA rfl rfl ?_) | (refine zav _ rfl rfl rfl ?_)) | (refine g_un ?_; first | (refine zb7 rfl ?_) | (refine zb8 rfl aO ?_)) | (refine zbb ?_; first | (refine zab aA rfl ?_) | (refine zae _ aA rfl rfl aE rfl ?_) | (refine zac _ aA rfl aZ aL ?_) | (refine zad _ aA rfl rfl aE aZ aL ?_)) | (refine zbd ?_; first | (refine zax _ aA rfl rfl aO aA ?_) | (refine zaw _ aA rfl rfl rfl rfl aO aO (by first | (rw [Nat.zero_add, Int.toNat_natCast]) | (rw [Nat.zero_add]) | rfl) ?_)) | (refine zb3 ?_; first | (refine zbn rfl aD rfl ?_) | (refine zbp rfl aD ?_) | (refine zbm rfl aD ?_) | (refine zbq rfl aD rfl ?_)) | (refine zby ?_; first | (refine zb4 rfl rfl aD ?_) | (refine zcc rfl rfl aD ?_) | (refine zcb rfl rfl ?_) | (refine zbo rfl rfl (fun h => ?_) (fun h => ?_) <;> (have h' := h; (try simp only [sx] at h')))) | (refine za9 ?_; first | (refine za8 aA rfl ?_) | (refine za6 aA rfl rfl ?_) | (refine za5 aA rfl ?_) | (refine za7 aA (evO_ok rfl) ?_)) | (refine zb9 _ aA rfl ?_) | (refine zb5 aA rfl ?_) | (refine zb1 _ _ _ rfl rfl aE (by first | assumption | (exact TAgg.size aA)) rfl rfl rfl aZ rfl aL (by first | (first | (simp only [lx, Nat.reduceAdd]; first | done | rfl) | fail) | rfl) ?_) | (refine zcf _ rfl rfl ?_) | (refine zar (hK _ _ (.inl rfl) ?_); clear hK K) | (refine zar (hK _ _ (.inr (by kernel_rfl)) ?_); clear hK K))
      | (refine za3 ?_; first | (refine zbk ?_) | (refine zaf (fun K hK => ?_)) | (refine zap ?_) | (refine za0 ?_) | (refine zbj ?_) | (refine za1 ?_) | (refine zbe ?_; first | (refine zat rfl aD ?_) | (refine zau rfl aD ?_) | (refine zay rfl (fun h => ?_) (fun h => ?_) <;> (have h' := h; (try simp only [sx] at h')))))
      | (refine za2 ?_) | (refine zag ?_) | (refine zaj ?_) | (refine zao ?_) | (refine zam ?_) | (refine zan ?_) | (refine zaq rfl ?_) | (refine zah ?_) | (refine zai ?_) | (refine zbi ?_))
      all_goals try (exfalso; omega)
      refine zcd [0, 3, 4, 5] [] (fun q : Nat × Int => [(9, .int .i64 q.2), (10, .int .i64 q.1)]) (fun q : Nat × Int => []) (fun q : Nat × Int => q.1 ≤ L.length ∧ q.2 = sumBy lenI (L.take q.1)) (fun q : Nat × Int => L.length - q.1) ((0, 0)) rfl rfl (fun _ => rfl) (fun _ => rfl) rfl aW ⟨by simp, by simp [sumBy]⟩ (fun q hq => ?_)
      obtain ⟨i, s⟩ := q
      obtain ⟨hi, hs⟩ := hq
      simp only at hi hs
      dsimp only
      have hsb := sumBy_take_le lenI L (fun y _ => by unfold lenI; omega) i
      rw [← hs, hLs] at hsb
      rcases Nat.lt_or_ge i L.length with hlt | hge
      · obtain ⟨p, hp⟩ := get_ex hlt
        have hx := tabR_at hp
        obtain ⟨hp1, hp2, hp3, hp4⟩ := hF.one i p hp
        have kW := k_vWithin p r aO aO
        rw [decide_eq_true hp2] at kW
        have kA := (k_iPartsO t p aO aO).frz rfl
        simp only [frz, frz2, List.map_cons, List.map_nil] at kA
        rw [decide_eq_true hp3] at kA
        have hal := tabR_len (paR t p)
        rw [hp4] at hal
        have hlp : (ints p).length = p.length := by simp
        have e := sumBy_take_succ lenI hp
        have e2 : lenI p = (p.length : Int) := rfl
        obtain ⟨a, ha⟩ := get_ex (show 0 < p.length by omega)
        have hxa := ints_at ha
        by_cases hi0 : 0 < i
        · obtain ⟨z, hz0⟩ := get_ex (show i - 1 < L.length by omega)
          have hy := tabR_at hz0
          have e1 : ((i : Int) - 1).toNat = i - 1 := by omega
          rw [← e1] at hy
          obtain ⟨hz1, hz2, _⟩ := hF.one (i - 1) z hz0
          obtain ⟨b, hb0⟩ := get_ex (show 0 < z.length by omega)
          have hxb := ints_at hb0
          have hlz : (ints z).length = z.length := by simp
          have hab := hF.hds (i - 1) z p b a hz0 (by rw [show i - 1 + 1 = i by omega]; exact hp) hb0 ha
          repeat' (first
      | (refine zaz ?_; first | (refine za4 ?_; refine zas _ rfl ?_) | (refine zak ?_; refine zaa _ rfl ?_) | (refine zbu ?_; first | (refine zb0 rfl rfl aO ?_) | (refine zch rfl rfl aO ?_) | (refine zcq rfl rfl aO ?_) | (refine zce rfl rfl aO ?_) | (refine zbs _ rfl rfl rfl ?_) | (refine zbr aA rfl rfl ?_) | (refine zca aA rfl rfl ?_) | (refine zav _ rfl rfl rfl ?_)) | (refine g_un ?_; first | (refine zb7 rfl ?_) | (refine zb8 rfl aO ?_)) | (refine zbb ?_; first | (refine zab aA rfl ?_) | (refine zae _ aA rfl rfl aE rfl ?_) | (refine zac _ aA rfl aZ aL ?_) | (refine zad _ aA rfl rfl aE aZ aL ?_)) | (refine zbd ?_; first | (refine zax _ aA rfl rfl aO aA ?_) | (refine zaw _ aA rfl rfl rfl rfl aO aO (by first | (rw [Nat.zero_add, Int.toNat_natCast]) | (rw [Nat.zero_add]) | rfl) ?_)) | (refine zb3 ?_; first | (refine zbn rfl aD rfl ?_) | (refine zbp rfl aD ?_) | (refine zbm rfl aD ?_) | (refine zbq rfl aD rfl ?_)) | (refine zby ?_; first | (refine zb4 rfl rfl aD ?_) | (refine zcc rfl rfl aD ?_) | (refine zcb rfl rfl ?_) | (refine zbo rfl rfl (fun h => ?_) (fun h => ?_) <;> (have h' := h; (try simp only [sx] at h')))) | (refine za9 ?_; first | (refine x_callA true (kA) rfl rfl rfl rfl rfl aS rfl aH ?_; simp only [cl]) | (refine zbc true (kW) rfl rfl rfl aS rfl aH ?_; simp only [cl]) | (refine za8 aA rfl ?_) | (refine za6 aA rfl rfl ?_) | (refine za5 aA rfl ?_) | (refine za7 aA (evO_ok rfl) ?_)) | (refine zb9 _ aA rfl ?_) | (refine zb5 aA rfl ?_) | (refine zb1 _ _ _ rfl rfl aE (by first | assumption | (exact TAgg.size aA)) rfl rfl rfl aZ rfl aL (by first | (first | (simp only [lx, Nat.reduceAdd]; first | done | rfl) | fail) | rfl) ?_) | (refine zcf _ rfl rfl ?_) | (refine zar (hK _ _ (.inl rfl) ?_); clear hK K) | (refine zar (hK _ _ (.inr (by kernel_rfl)) ?_); clear hK K))
      | (refine za3 ?_; first | (refine zbk ?_) | (refine zaf (fun K hK => ?_)) | (refine zap ?_) | (refine za0 ?_) | (refine zbj ?_) | (refine za1 ?_) | (refine zbe ?_; first | (refine zat rfl aD ?_) | (refine zau rfl aD ?_) | (refine zay rfl (fun h => ?_) (fun h => ?_) <;> (have h' := h; (try simp only [sx] at h')))))
      | (refine za2 ?_) | (refine zag ?_) | (refine zaj ?_) | (refine zao ?_) | (refine zam ?_) | (refine zan ?_) | (refine zaq rfl ?_) | (refine zah ?_) | (refine zai ?_) | (refine zbi ?_))
          all_goals first
            | (exfalso; omega)
            | (exfalso; simp at *; done)
            | (refine zb6 (i + 1, s + ((ints p).length : Int)) rfl aW ⟨by simp only; omega, by simp only [e, hs, e2, hlp]⟩ (by simp only; omega))
        · repeat' (first
      | (refine zaz ?_; first | (refine za4 ?_; refine zas _ rfl ?_) | (refine zak ?_; refine zaa _ rfl ?_) | (refine zbu ?_; first | (refine zb0 rfl rfl aO ?_) | (refine zch rfl rfl aO ?_) | (refine zcq rfl rfl aO ?_) | (refine zce rfl rfl aO ?_) | (refine zbs _ rfl rfl rfl ?_) | (refine zbr aA rfl rfl ?_) | (refine zca aA rfl rfl ?_) | (refine zav _ rfl rfl rfl ?_)) | (refine g_un ?_; first | (refine zb7 rfl ?_) | (refine zb8 rfl aO ?_)) | (refine zbb ?_; first | (refine zab aA rfl ?_) | (refine zae _ aA rfl rfl aE rfl ?_) | (refine zac _ aA rfl aZ aL ?_) | (refine zad _ aA rfl rfl aE aZ aL ?_)) | (refine zbd ?_; first | (refine zax _ aA rfl rfl aO aA ?_) | (refine zaw _ aA rfl rfl rfl rfl aO aO (by first | (rw [Nat.zero_add, Int.toNat_natCast]) | (rw [Nat.zero_add]) | rfl) ?_)) | (refine zb3 ?_; first | (refine zbn rfl aD rfl ?_) | (refine zbp rfl aD ?_) | (refine zbm rfl aD ?_) | (refine zbq rfl aD rfl ?_)) | (refine zby ?_; first | (refine zb4 rfl rfl aD ?_) | (refine zcc rfl rfl aD ?_) | (refine zcb rfl rfl ?_) | (refine zbo rfl rfl (fun h => ?_) (fun h => ?_) <;> (have h' := h; (try simp only [sx] at h')))) | (refine za9 ?_; first | (refine x_callA true (kA) rfl rfl rfl rfl rfl aS rfl aH ?_; simp only [cl]) | (refine zbc true (kW) rfl rfl rfl aS rfl aH ?_; simp only [cl]) | (refine za8 aA rfl ?_) | (refine za6 aA rfl rfl ?_) | (refine za5 aA rfl ?_) | (refine za7 aA (evO_ok rfl) ?_)) | (refine zb9 _ aA rfl ?_) | (refine zb5 aA rfl ?_) | (refine zb1 _ _ _ rfl rfl aE (by first | assumption | (exact TAgg.size aA)) rfl rfl rfl aZ rfl aL (by first | (first | (simp only [lx, Nat.reduceAdd]; first | done | rfl) | fail) | rfl) ?_) | (refine zcf _ rfl rfl ?_) | (refine zar (hK _ _ (.inl rfl) ?_); clear hK K) | (refine zar (hK _ _ (.inr (by kernel_rfl)) ?_); clear hK K))
      | (refine za3 ?_; first | (refine zbk ?_) | (refine zaf (fun K hK => ?_)) | (refine zap ?_) | (refine za0 ?_) | (refine zbj ?_) | (refine za1 ?_) | (refine zbe ?_; first | (refine zat rfl aD ?_) | (refine zau rfl aD ?_) | (refine zay rfl (fun h => ?_) (fun h => ?_) <;> (have h' := h; (try simp only [sx] at h')))))
      | (refine za2 ?_) | (refine zag ?_) | (refine zaj ?_) | (refine zao ?_) | (refine zam ?_) | (refine zan ?_) | (refine zaq rfl ?_) | (refine zah ?_) | (refine zai ?_) | (refine zbi ?_))
          all_goals first
            | (exfalso; omega)
            | (exfalso; simp at *; done)
            | (refine zb6 (i + 1, s + ((ints p).length : Int)) rfl aW ⟨by simp only; omega, by simp only [e, hs, e2, hlp]⟩ (by simp only; omega))
      · rw [take_all hge, hLs] at hs
        repeat' (first
      | (refine zaz ?_; first | (refine za4 ?_; refine zas _ rfl ?_) | (refine zak ?_; refine zaa _ rfl ?_) | (refine zbu ?_; first | (refine zb0 rfl rfl aO ?_) | (refine zch rfl rfl aO ?_) | (refine zcq rfl rfl aO ?_) | (refine zce rfl rfl aO ?_) | (refine zbs _ rfl rfl rfl ?_) | (refine zbr aA rfl rfl ?_) | (refine zca aA rfl rfl ?_) | (refine zav _ rfl rfl rfl ?_)) | (refine g_un ?_; first | (refine zb7 rfl ?_) | (refine zb8 rfl aO ?_)) | (refine zbb ?_; first | (refine zab aA rfl ?_) | (refine zae _ aA rfl rfl aE rfl ?_) | (refine zac _ aA rfl aZ aL ?_) | (refine zad _ aA rfl rfl aE aZ aL ?_)) | (refine zbd ?_; first | (refine zax _ aA rfl rfl aO aA ?_) | (refine zaw _ aA rfl rfl rfl rfl aO aO (by first | (rw [Nat.zero_add, Int.toNat_natCast]) | (rw [Nat.zero_add]) | rfl) ?_)) | (refine zb3 ?_; first | (refine zbn rfl aD rfl ?_) | (refine zbp rfl aD ?_) | (refine zbm rfl aD ?_) | (refine zbq rfl aD rfl ?_)) | (refine zby ?_; first | (refine zb4 rfl rfl aD ?_) | (refine zcc rfl rfl aD ?_) | (refine zcb rfl rfl ?_) | (refine zbo rfl rfl (fun h => ?_) (fun h => ?_) <;> (have h' := h; (try simp only [sx] at h')))) | (refine za9 ?_; first | (refine za8 aA rfl ?_) | (refine za6 aA rfl rfl ?_) | (refine za5 aA rfl ?_) | (refine za7 aA (evO_ok rfl) ?_)) | (refine zb9 _ aA rfl ?_) | (refine zb5 aA rfl ?_) | (refine zb1 _ _ _ rfl rfl aE (by first | assumption | (exact TAgg.size aA)) rfl rfl rfl aZ rfl aL (by first | (first | (simp only [lx, Nat.reduceAdd]; first | done | rfl) | fail) | rfl) ?_) | (refine zcf _ rfl rfl ?_) | (refine zar (hK _ _ (.inl rfl) ?_); clear hK K) | (refine zar (hK _ _ (.inr (by kernel_rfl)) ?_); clear hK K))
      | (refine za3 ?_; first | (refine zbk ?_) | (refine zaf (fun K hK => ?_)) | (refine zap ?_) | (refine za0 ?_) | (refine zbj ?_) | (refine za1 ?_) | (refine zbe ?_; first | (refine zat rfl aD ?_) | (refine zau rfl aD ?_) | (refine zay rfl (fun h => ?_) (fun h => ?_) <;> (have h' := h; (try simp only [sx] at h')))))
      | (refine za2 ?_) | (refine zag ?_) | (refine zaj ?_) | (refine zao ?_) | (refine zam ?_) | (refine zan ?_) | (refine zaq rfl ?_) | (refine zah ?_) | (refine zai ?_) | (refine zbi ?_))
        all_goals first
          | (exfalso; omega)
          | (refine zb6 () rfl aW trivial (by decide))
    clear kP1 kP2 kT hF hpl hl1
    repeat' (first
      | (refine zaz ?_; first | (refine za4 ?_; refine zas _ rfl ?_) | (refine zak ?_; refine zaa _ rfl ?_) | (refine zbu ?_; first | (refine zb0 rfl rfl aO ?_) | (refine zch rfl rfl aO ?_) | (refine zcq rfl rfl aO ?_) | (refine zce rfl rfl aO ?_) | (refine zbs _ rfl rfl rfl ?_) | (refine zbr aA rfl rfl ?_) | (refine zca aA rfl rfl ?_) | (refine zav _ rfl rfl rfl ?_)) | (refine g_un ?_; first | (refine zb7 rfl ?_) | (refine zb8 rfl aO ?_)) | (refine zbb ?_; first | (refine zab aA rfl ?_) | (refine zae _ aA rfl rfl aE rfl ?_) | (refine zac _ aA rfl aZ aL ?_) | (refine zad _ aA rfl rfl aE aZ aL ?_)) | (refine zbd ?_; first | (refine zax _ aA rfl rfl aO aA ?_) | (refine zaw _ aA rfl rfl rfl rfl aO aO (by first | (rw [Nat.zero_add, Int.toNat_natCast]) | (rw [Nat.zero_add]) | rfl) ?_)) | (refine zb3 ?_; first | (refine zbn rfl aD rfl ?_) | (refine zbp rfl aD ?_) | (refine zbm rfl aD ?_) | (refine zbq rfl aD rfl ?_)) | (refine zby ?_; first | (refine zb4 rfl rfl aD ?_) | (refine zcc rfl rfl aD ?_) | (refine zcb rfl rfl ?_) | (refine zbo rfl rfl (fun h => ?_) (fun h => ?_) <;> (have h' := h; (try simp only [sx] at h')))) | (refine za9 ?_; first | (refine x_callLP [] (k_DrawFillRegion code hz) rfl rfl (by (repeat' (first | exact trivial | refine ⟨⟨_, rfl, ?_⟩, ?_⟩ | exact .inl ⟨rfl, .inl rfl⟩ | exact .inr ⟨rfl, rfl, rfl, rfl, rfl, fun e he u hu => by (simp only [List.mem_cons, List.not_mem_nil, or_false] at he; subst he; simp only [List.mem_cons, List.not_mem_nil, or_false] at hu; subst hu; rfl)⟩ | exact .inl ⟨rfl, .inr (fun e he => by (simp only [List.mem_cons, List.not_mem_nil, or_false] at he; subst he; rfl))⟩ | fail)); first | done | fail) rfl rfl aS rfl (fun r_ fin_ hP_ => ?_); obtain ⟨x, ar, ⟨rfl, rfl⟩, hx, har⟩ := hP_; refine ⟨_, _, _, aH, rfl, ?_⟩; simp only [cl]) | (refine za8 aA rfl ?_) | (refine za6 aA rfl rfl ?_) | (refine za5 aA rfl ?_) | (refine za7 aA (evO_ok rfl) ?_)) | (refine zb9 _ aA rfl ?_) | (refine zb5 aA rfl ?_) | (refine zb1 _ _ _ rfl rfl aE (by first | assumption | (exact TAgg.size aA)) rfl rfl rfl aZ rfl aL (by first | (first | (simp only [lx, Nat.reduceAdd]; first | done | rfl) | fail) | rfl) ?_) | (refine zcf _ rfl rfl ?_) | (refine zar (hK _ _ (.inl rfl) ?_); clear hK K) | (refine zar (hK _ _ (.inr (by kernel_rfl)) ?_); clear hK K))
      | (refine za3 ?_; first | (refine zbk ?_) | (refine zaf (fun K hK => ?_)) | (refine zap ?_) | (refine za0 ?_) | (refine zbj ?_) | (refine za1 ?_) | (refine zbe ?_; first | (refine zat rfl aD ?_) | (refine zau rfl aD ?_) | (refine zay rfl (fun h => ?_) (fun h => ?_) <;> (have h' := h; (try simp only [sx] at h')))))
      | (refine za2 ?_) | (refine zag ?_) | (refine zaj ?_) | (refine zao ?_) | (refine zam ?_) | (refine zan ?_) | (refine zaq rfl ?_) | (refine zah ?_) | (refine zai ?_) | (refine zbi ?_))
    have hx3 := hx.2.2
    have kF1 := (Con.a (k_iFill x ar aO aO)).frz rfl
    have kF2 := (Con.a (k_sFill x ar aO aO)).frz rfl
    have kH1 := (k_iHolesO x ar aO aO).frz rfl
    have kH2 := (k_sHolesO x ar aO aO).frz rfl
    simp only [frz, frz2, List.map_cons, List.map_nil] at kF1 kF2 kH1 kH2
    have hfl : (fiR x ar).length ≤ 30 := by
      unfold fiR
      split
      · have := flF_len x ar; omega
      · simp
    have hhl : (hoR x ar).length ≤ 30 ∧ ∀ l ∈ hoR x ar, l.length ≤ 30 := by
      unfold hoR
      split
      · refine ⟨by have := hlL_len x ar; omega, fun l hl => ?_⟩
        have := (pt_cells (set_out x ar) (hlL_mem.1 hl).1).2
        omega
      · simp
    have kI := k_vIntsS (fiR x ar) aO
    have kT := k_vTableS (hoR x ar) aO (fun l hl => by have := hhl.2 l hl; omega)
    have hG : decide (RgOk x ar) = true → RgOk x ar := of_decide_eq_true
    have hfe : decide (RgOk x ar) = true → fiR x ar = flF x ar ∧ hoR x ar = hlL x ar := fun h => by have := of_decide_eq_true h; exact ⟨by unfold fiR; rw [if_pos this], by unfold hoR; rw [if_pos this]⟩
    generalize fiR x ar = F at *
    generalize hoR x ar = H at *
    generalize decide (RgOk x ar) = o2 at *
    have hl1 := tabR_len H
    repeat' (first
      | (refine zaz ?_; first | (refine za4 ?_; refine zas _ rfl ?_) | (refine zak ?_; refine zaa _ rfl ?_) | (refine zbu ?_; first | (refine zb0 rfl rfl aO ?_) | (refine zch rfl rfl aO ?_) | (refine zcq rfl rfl aO ?_) | (refine zce rfl rfl aO ?_) | (refine zbs _ rfl rfl rfl ?_) | (refine zbr aA rfl rfl ?_) | (refine zca aA rfl rfl ?_) | (refine zav _ rfl rfl rfl ?_)) | (refine g_un ?_; first | (refine zb7 rfl ?_) | (refine zb8 rfl aO ?_)) | (refine zbb ?_; first | (refine zab aA rfl ?_) | (refine zae _ aA rfl rfl aE rfl ?_) | (refine zac _ aA rfl aZ aL ?_) | (refine zad _ aA rfl rfl aE aZ aL ?_)) | (refine zbd ?_; first | (refine zax _ aA rfl rfl aO aA ?_) | (refine zaw _ aA rfl rfl rfl rfl aO aO (by first | (rw [Nat.zero_add, Int.toNat_natCast]) | (rw [Nat.zero_add]) | rfl) ?_)) | (refine zb3 ?_; first | (refine zbn rfl aD rfl ?_) | (refine zbp rfl aD ?_) | (refine zbm rfl aD ?_) | (refine zbq rfl aD rfl ?_)) | (refine zby ?_; first | (refine zb4 rfl rfl aD ?_) | (refine zcc rfl rfl aD ?_) | (refine zcb rfl rfl ?_) | (refine zbo rfl rfl (fun h => ?_) (fun h => ?_) <;> (have h' := h; (try simp only [sx] at h')))) | (refine za9 ?_; first | (refine x_callA true (kF1) rfl rfl rfl rfl rfl aS rfl aH ?_; simp only [cl]) | (refine x_callA true (kF2) rfl rfl rfl rfl rfl aS rfl aH ?_; simp only [cl]) | (refine zbc true (kI) rfl rfl rfl aS rfl aH ?_; simp only [cl]) | (refine x_callA true (kH1) rfl rfl rfl rfl rfl aS rfl aH ?_; simp only [cl]) | (refine x_callA true (kH2) rfl rfl rfl rfl rfl aS rfl aH ?_; simp only [cl]) | (refine zbc true (kT) rfl rfl rfl aS rfl aH ?_; simp only [cl]) | (refine za8 aA rfl ?_) | (refine za6 aA rfl rfl ?_) | (refine za5 aA rfl ?_) | (refine za7 aA (evO_ok rfl) ?_)) | (refine zb9 _ aA rfl ?_) | (refine zb5 aA rfl ?_) | (refine zb1 _ _ _ rfl rfl aE (by first | assumption | (exact TAgg.size aA)) rfl rfl rfl aZ rfl aL (by first | (first | (simp only [lx, Nat.reduceAdd]; first | done | rfl) | fail) | rfl) ?_) | (refine zcf _ rfl rfl ?_) | (refine zar (hK _ _ (.inl rfl) ?_); clear hK K) | (refine zar (hK _ _ (.inr (by kernel_rfl)) ?_); clear hK K))
      | (refine za3 ?_; first | (refine v_seqN 3000028 rfl ?_) | (refine zaf (fun K hK => ?_)) | (refine zap ?_) | (refine za0 ?_) | (refine zbj ?_) | (refine za1 ?_) | (refine zbe ?_; first | (refine zat rfl aD ?_) | (refine zau rfl aD ?_) | (refine zay rfl (fun h => ?_) (fun h => ?_) <;> (have h' := h; (try simp only [sx] at h')))))
      | (refine za2 ?_) | (refine zag ?_) | (refine zaj ?_) | (refine zao ?_) | (refine zam ?_) | (refine zan ?_) | (refine zaq rfl ?_) | (refine zah ?_) | (refine zai ?_) | (refine zbi ?_))
    all_goals try (exfalso; simp at *; done)
    refine v_cutK [0] [] (fun u_ : Unit => []) (fun u_ : Unit => []) (fun u_ : Unit => True) rfl rfl (fun _ => rfl) (fun _ => rfl) ?_ (fun u_ hu_ => ?_)
    · cases o2
      · repeat' (first
      | (refine zaz ?_; first | (refine za4 ?_; refine zas _ rfl ?_) | (refine zak ?_; refine zaa _ rfl ?_) | (refine zbu ?_; first | (refine zb0 rfl rfl aO ?_) | (refine zch rfl rfl aO ?_) | (refine zcq rfl rfl aO ?_) | (refine zce rfl rfl aO ?_) | (refine zbs _ rfl rfl rfl ?_) | (refine zbr aA rfl rfl ?_) | (refine zca aA rfl rfl ?_) | (refine zav _ rfl rfl rfl ?_)) | (refine g_un ?_; first | (refine zb7 rfl ?_) | (refine zb8 rfl aO ?_)) | (refine zbb ?_; first | (refine zab aA rfl ?_) | (refine zae _ aA rfl rfl aE rfl ?_) | (refine zac _ aA rfl aZ aL ?_) | (refine zad _ aA rfl rfl aE aZ aL ?_)) | (refine zbd ?_; first | (refine zax _ aA rfl rfl aO aA ?_) | (refine zaw _ aA rfl rfl rfl rfl aO aO (by first | (rw [Nat.zero_add, Int.toNat_natCast]) | (rw [Nat.zero_add]) | rfl) ?_)) | (refine zb3 ?_; first | (refine zbn rfl aD rfl ?_) | (refine zbp rfl aD ?_) | (refine zbm rfl aD ?_) | (refine zbq rfl aD rfl ?_)) | (refine zby ?_; first | (refine zb4 rfl rfl aD ?_) | (refine zcc rfl rfl aD ?_) | (refine zcb rfl rfl ?_) | (refine zbo rfl rfl (fun h => ?_) (fun h => ?_) <;> (have h' := h; (try simp only [sx] at h')))) | (refine za9 ?_; first | (refine za8 aA rfl ?_) | (refine za6 aA rfl rfl ?_) | (refine za5 aA rfl ?_) | (refine za7 aA (evO_ok rfl) ?_)) | (refine zb9 _ aA rfl ?_) | (refine zb5 aA rfl ?_) | (refine zb1 _ _ _ rfl rfl aE (by first | assumption | (exact TAgg.size aA)) rfl rfl rfl aZ rfl aL (by first | (first | (simp only [lx, Nat.reduceAdd]; first | done | rfl) | fail) | rfl) ?_) | (refine zcf _ rfl rfl ?_) | (refine zar (hK _ _ (.inl rfl) ?_); clear hK K) | (refine zar (hK _ _ (.inr (by kernel_rfl)) ?_); clear hK K))
      | (refine za3 ?_; first | (refine zbk ?_) | (refine zaf (fun K hK => ?_)) | (refine zap ?_) | (refine za0 ?_) | (refine zbj ?_) | (refine za1 ?_) | (refine zbe ?_; first | (refine zat rfl aD ?_) | (refine zau rfl aD ?_) | (refine zay rfl (fun h => ?_) (fun h => ?_) <;> (have h' := h; (try simp only [sx] at h')))))
      | (refine za2 ?_) | (refine zag ?_) | (refine zaj ?_) | (refine zao ?_) | (refine zam ?_) | (refine zan ?_) | (refine zaq rfl ?_) | (refine zah ?_) | (refine zai ?_) | (refine zbi ?_))
        all_goals (refine zb6 () rfl aW trivial (by decide))
      have hok := hG rfl
      obtain ⟨rfl, rfl⟩ := hfe rfl
      have hok2 : RgOk x (flF x ar) := ⟨hok.1, fun c hc => flF_cell hc, rising_of_pair (flF_rise x ar)⟩
      have hsum := fill_len hok.cel hok.up
      have e1 : hoR x (flF x ar) = [] := by unfold hoR; rw [if_pos hok2, holes_full hok.cel]
      have e2 : fiR x (flF x ar) = flF x ar := by unfold fiR; rw [if_pos hok2, fill_full hok.cel]
      have kN := (k_iHolesO x (flF x ar) aO aO).frz rfl
      have kA := (Con.a (k_iFill x (flF x ar) aO aO)).frz rfl
      simp only [frz, frz2, List.map_cons, List.map_nil] at kN kA
      rw [e1, decide_eq_true hok2] at kN
      rw [e2, decide_eq_true hok2] at kA
      have hl0 : (tabR []).length = 0 := rfl
      have hlF : (ints (flF x ar)).length = (flF x ar).length := by simp
      have hla : (ints ar).length = ar.length := by simp
      generalize flF x ar = F at *
      generalize hlL x ar = H at *
      repeat' (first
      | (refine zaz ?_; first | (refine za4 ?_; refine zas _ rfl ?_) | (refine zak ?_; refine zaa _ rfl ?_) | (refine zbu ?_; first | (refine zb0 rfl rfl aO ?_) | (refine zch rfl rfl aO ?_) | (refine zcq rfl rfl aO ?_) | (refine zce rfl rfl aO ?_) | (refine zbs _ rfl rfl rfl ?_) | (refine zbr aA rfl rfl ?_) | (refine zca aA rfl rfl ?_) | (refine zav _ rfl rfl rfl ?_)) | (refine g_un ?_; first | (refine zb7 rfl ?_) | (refine zb8 rfl aO ?_)) | (refine zbb ?_; first | (refine zab aA rfl ?_) | (refine zae _ aA rfl rfl aE rfl ?_) | (refine zac _ aA rfl aZ aL ?_) | (refine zad _ aA rfl rfl aE aZ aL ?_)) | (refine zbd ?_; first | (refine zax _ aA rfl rfl aO aA ?_) | (refine zaw _ aA rfl rfl rfl rfl aO aO (by first | (rw [Nat.zero_add, Int.toNat_natCast]) | (rw [Nat.zero_add]) | rfl) ?_)) | (refine zb3 ?_; first | (refine zbn rfl aD rfl ?_) | (refine zbp rfl aD ?_) | (refine zbm rfl aD ?_) | (refine zbq rfl aD rfl ?_)) | (refine zby ?_; first | (refine zb4 rfl rfl aD ?_) | (refine zcc rfl rfl aD ?_) | (refine zcb rfl rfl ?_) | (refine zbo rfl rfl (fun h => ?_) (fun h => ?_) <;> (have h' := h; (try simp only [sx] at h')))) | (refine za9 ?_; first | (refine za8 aA rfl ?_) | (refine za6 aA rfl rfl ?_) | (refine za5 aA rfl ?_) | (refine za7 aA (evO_ok rfl) ?_)) | (refine zb9 _ aA rfl ?_) | (refine zb5 aA rfl ?_) | (refine zb1 _ _ _ rfl rfl aE (by first | assumption | (exact TAgg.size aA)) rfl rfl rfl aZ rfl aL (by first | (first | (simp only [lx, Nat.reduceAdd]; first | done | rfl) | fail) | rfl) ?_) | (refine zcf _ rfl rfl ?_) | (refine zar (hK _ _ (.inl rfl) ?_); clear hK K) | (refine zar (hK _ _ (.inr (by kernel_rfl)) ?_); clear hK K))
      | (refine za3 ?_; first | (refine zbk ?_) | (refine zaf (fun K hK => ?_)) | (refine zap ?_) | (refine za0 ?_) | (refine zbj ?_) | (refine za1 ?_) | (refine zbe ?_; first | (refine zat rfl aD ?_) | (refine zau rfl aD ?_) | (refine zay rfl (fun h => ?_) (fun h => ?_) <;> (have h' := h; (try simp only [sx] at h')))))
      | (refine za2 ?_) | (refine zag ?_) | (refine zaj ?_) | (refine zao ?_) | (refine zam ?_) | (refine zan ?_) | (refine zaq rfl ?_) | (refine zah ?_) | (refine zai ?_) | (refine zbi ?_))
      all_goals try (exfalso; omega)
      refine zcd [0, 13, 14, 15, 19] [] (fun q : Nat × Int => [(23, .int .i64 q.2), (24, .int .i64 q.1)]) (fun q : Nat × Int => []) (fun q : Nat × Int => q.1 ≤ H.length ∧ q.2 = sumBy lenI (H.take q.1)) (fun q : Nat × Int => H.length - q.1) ((0, 0)) rfl rfl (fun _ => rfl) (fun _ => rfl) rfl aW ⟨by simp, by simp [sumBy]⟩ (fun q hq => ?_)
      obtain ⟨i, s⟩ := q
      obtain ⟨hi, hs⟩ := hq
      simp only at hi hs
      dsimp only
      have hsb := sumBy_take_le lenI H (fun y _ => by unfold lenI; omega) i
      rw [← hs] at hsb
      rcases Nat.lt_or_ge i H.length with hlt | hge
      · obtain ⟨p, hp⟩ := get_ex hlt
        have hx2 := tabR_at hp
        have hpl := hhl.2 p (get_mem hp)
        have hlp : (ints p).length = p.length := by simp
        have e := sumBy_take_succ lenI hp
        have e3 : lenI p = (p.length : Int) := rfl
        repeat' (first
      | (refine zaz ?_; first | (refine za4 ?_; refine zas _ rfl ?_) | (refine zak ?_; refine zaa _ rfl ?_) | (refine zbu ?_; first | (refine zb0 rfl rfl aO ?_) | (refine zch rfl rfl aO ?_) | (refine zcq rfl rfl aO ?_) | (refine zce rfl rfl aO ?_) | (refine zbs _ rfl rfl rfl ?_) | (refine zbr aA rfl rfl ?_) | (refine zca aA rfl rfl ?_) | (refine zav _ rfl rfl rfl ?_)) | (refine g_un ?_; first | (refine zb7 rfl ?_) | (refine zb8 rfl aO ?_)) | (refine zbb ?_; first | (refine zab aA rfl ?_) | (refine zae _ aA rfl rfl aE rfl ?_) | (refine zac _ aA rfl aZ aL ?_) | (refine zad _ aA rfl rfl aE aZ aL ?_)) | (refine zbd ?_; first | (refine zax _ aA rfl rfl aO aA ?_) | (refine zaw _ aA rfl rfl rfl rfl aO aO (by first | (rw [Nat.zero_add, Int.toNat_natCast]) | (rw [Nat.zero_add]) | rfl) ?_)) | (refine zb3 ?_; first | (refine zbn rfl aD rfl ?_) | (refine zbp rfl aD ?_) | (refine zbm rfl aD ?_) | (refine zbq rfl aD rfl ?_)) | (refine zby ?_; first | (refine zb4 rfl rfl aD ?_) | (refine zcc rfl rfl aD ?_) | (refine zcb rfl rfl ?_) | (refine zbo rfl rfl (fun h => ?_) (fun h => ?_) <;> (have h' := h; (try simp only [sx] at h')))) | (refine za9 ?_; first | (refine za8 aA rfl ?_) | (refine za6 aA rfl rfl ?_) | (refine za5 aA rfl ?_) | (refine za7 aA (evO_ok rfl) ?_)) | (refine zb9 _ aA rfl ?_) | (refine zb5 aA rfl ?_) | (refine zb1 _ _ _ rfl rfl aE (by first | assumption | (exact TAgg.size aA)) rfl rfl rfl aZ rfl aL (by first | (first | (simp only [lx, Nat.reduceAdd]; first | done | rfl) | fail) | rfl) ?_) | (refine zcf _ rfl rfl ?_) | (refine zar (hK _ _ (.inl rfl) ?_); clear hK K) | (refine zar (hK _ _ (.inr (by kernel_rfl)) ?_); clear hK K))
      | (refine za3 ?_; first | (refine zbk ?_) | (refine zaf (fun K hK => ?_)) | (refine zap ?_) | (refine za0 ?_) | (refine zbj ?_) | (refine za1 ?_) | (refine zbe ?_; first | (refine zat rfl aD ?_) | (refine zau rfl aD ?_) | (refine zay rfl (fun h => ?_) (fun h => ?_) <;> (have h' := h; (try simp only [sx] at h')))))
      | (refine za2 ?_) | (refine zag ?_) | (refine zaj ?_) | (refine zao ?_) | (refine zam ?_) | (refine zan ?_) | (refine zaq rfl ?_) | (refine zah ?_) | (refine zai ?_) | (refine zbi ?_))
        all_goals first
          | (exfalso; omega)
          | (refine zb6 (i + 1, s + ((ints p).length : Int)) rfl aW ⟨by simp only; omega, by simp only [e, hs, e3, hlp]⟩ (by simp only; omega))
      · rw [take_all hge] at hs
        repeat' (first
      | (refine zaz ?_; first | (refine za4 ?_; refine zas _ rfl ?_) | (refine zak ?_; refine zaa _ rfl ?_) | (refine zbu ?_; first | (refine zb0 rfl rfl aO ?_) | (refine zch rfl rfl aO ?_) | (refine zcq rfl rfl aO ?_) | (refine zce rfl rfl aO ?_) | (refine zbs _ rfl rfl rfl ?_) | (refine zbr aA rfl rfl ?_) | (refine zca aA rfl rfl ?_) | (refine zav _ rfl rfl rfl ?_)) | (refine g_un ?_; first | (refine zb7 rfl ?_) | (refine zb8 rfl aO ?_)) | (refine zbb ?_; first | (refine zab aA rfl ?_) | (refine zae _ aA rfl rfl aE rfl ?_) | (refine zac _ aA rfl aZ aL ?_) | (refine zad _ aA rfl rfl aE aZ aL ?_)) | (refine zbd ?_; first | (refine zax _ aA rfl rfl aO aA ?_) | (refine zaw _ aA rfl rfl rfl rfl aO aO (by first | (rw [Nat.zero_add, Int.toNat_natCast]) | (rw [Nat.zero_add]) | rfl) ?_)) | (refine zb3 ?_; first | (refine zbn rfl aD rfl ?_) | (refine zbp rfl aD ?_) | (refine zbm rfl aD ?_) | (refine zbq rfl aD rfl ?_)) | (refine zby ?_; first | (refine zb4 rfl rfl aD ?_) | (refine zcc rfl rfl aD ?_) | (refine zcb rfl rfl ?_) | (refine zbo rfl rfl (fun h => ?_) (fun h => ?_) <;> (have h' := h; (try simp only [sx] at h')))) | (refine za9 ?_; first | (refine x_callA true (kN) rfl rfl rfl rfl rfl aS rfl aH ?_; simp only [cl]) | (refine x_callA true (kA) rfl rfl rfl rfl rfl aS rfl aH ?_; simp only [cl]) | (refine zbc true (kI) rfl rfl rfl aS rfl aH ?_; simp only [cl]) | (refine za8 aA rfl ?_) | (refine za6 aA rfl rfl ?_) | (refine za5 aA rfl ?_) | (refine za7 aA (evO_ok rfl) ?_)) | (refine zb9 _ aA rfl ?_) | (refine zb5 aA rfl ?_) | (refine zb1 _ _ _ rfl rfl aE (by first | assumption | (exact TAgg.size aA)) rfl rfl rfl aZ rfl aL (by first | (first | (simp only [lx, Nat.reduceAdd]; first | done | rfl) | fail) | rfl) ?_) | (refine zcf _ rfl rfl ?_) | (refine zar (hK _ _ (.inl rfl) ?_); clear hK K) | (refine zar (hK _ _ (.inr (by kernel_rfl)) ?_); clear hK K))
      | (refine za3 ?_; first | (refine zbk ?_) | (refine zaf (fun K hK => ?_)) | (refine zap ?_) | (refine za0 ?_) | (refine zbj ?_) | (refine za1 ?_) | (refine zbe ?_; first | (refine zat rfl aD ?_) | (refine zau rfl aD ?_) | (refine zay rfl (fun h => ?_) (fun h => ?_) <;> (have h' := h; (try simp only [sx] at h')))))
      | (refine za2 ?_) | (refine zag ?_) | (refine zaj ?_) | (refine zao ?_) | (refine zam ?_) | (refine zan ?_) | (refine zaq rfl ?_) | (refine zah ?_) | (refine zai ?_) | (refine zbi ?_))
        all_goals first
          | (exfalso; omega)
          | (exfalso; simp at *; done)
          | (refine zb6 () rfl aW trivial (by decide))
    clear kF1 kF2 kH1 kH2 kI kT hG hfe hl1
    repeat' (first
      | (refine zaz ?_; first | (refine za4 ?_; refine zas _ rfl ?_) | (refine zak ?_; refine zaa _ rfl ?_) | (refine zbu ?_; first | (refine zb0 rfl rfl aO ?_) | (refine zch rfl rfl aO ?_) | (refine zcq rfl rfl aO ?_) | (refine zce rfl rfl aO ?_) | (refine zbs _ rfl rfl rfl ?_) | (refine zbr aA rfl rfl ?_) | (refine zca aA rfl rfl ?_) | (refine zav _ rfl rfl rfl ?_)) | (refine g_un ?_; first | (refine zb7 rfl ?_) | (refine zb8 rfl aO ?_)) | (refine zbb ?_; first | (refine zab aA rfl ?_) | (refine zae _ aA rfl rfl aE rfl ?_) | (refine zac _ aA rfl aZ aL ?_) | (refine zad _ aA rfl rfl aE aZ aL ?_)) | (refine zbd ?_; first | (refine zax _ aA rfl rfl aO aA ?_) | (refine zaw _ aA rfl rfl rfl rfl aO aO (by first | (rw [Nat.zero_add, Int.toNat_natCast]) | (rw [Nat.zero_add]) | rfl) ?_)) | (refine zb3 ?_; first | (refine zbn rfl aD rfl ?_) | (refine zbp rfl aD ?_) | (refine zbm rfl aD ?_) | (refine zbq rfl aD rfl ?_)) | (refine zby ?_; first | (refine zb4 rfl rfl aD ?_) | (refine zcc rfl rfl aD ?_) | (refine zcb rfl rfl ?_) | (refine zbo rfl rfl (fun h => ?_) (fun h => ?_) <;> (have h' := h; (try simp only [sx] at h')))) | (refine za9 ?_; first | (refine x_callLP [] (k_DrawEdgeLength code hz) rfl rfl (by (repeat' (first | exact trivial | refine ⟨⟨_, rfl, ?_⟩, ?_⟩ | exact .inl ⟨rfl, .inl rfl⟩ | exact .inr ⟨rfl, rfl, rfl, rfl, rfl, fun e he u hu => by (simp only [List.mem_cons, List.not_mem_nil, or_false] at he; subst he; simp only [List.mem_cons, List.not_mem_nil, or_false] at hu; subst hu; rfl)⟩ | exact .inl ⟨rfl, .inr (fun e he => by (simp only [List.mem_cons, List.not_mem_nil, or_false] at he; subst he; rfl))⟩ | fail)); first | done | fail) rfl rfl aS rfl (fun r_ fin_ hP_ => ?_); obtain ⟨y, so, ⟨rfl, rfl⟩, hy, hso⟩ := hP_; refine ⟨_, _, _, aH, rfl, ?_⟩; simp only [cl]) | (refine za8 aA rfl ?_) | (refine za6 aA rfl rfl ?_) | (refine za5 aA rfl ?_) | (refine za7 aA (evO_ok rfl) ?_)) | (refine zb9 _ aA rfl ?_) | (refine zb5 aA rfl ?_) | (refine zb1 _ _ _ rfl rfl aE (by first | assumption | (exact TAgg.size aA)) rfl rfl rfl aZ rfl aL (by first | (first | (simp only [lx, Nat.reduceAdd]; first | done | rfl) | fail) | rfl) ?_) | (refine zcf _ rfl rfl ?_) | (refine zar (hK _ _ (.inl rfl) ?_); clear hK K) | (refine zar (hK _ _ (.inr (by kernel_rfl)) ?_); clear hK K))
      | (refine za3 ?_; first | (refine zbk ?_) | (refine zaf (fun K hK => ?_)) | (refine zap ?_) | (refine za0 ?_) | (refine zbj ?_) | (refine za1 ?_) | (refine zbe ?_; first | (refine zat rfl aD ?_) | (refine zau rfl aD ?_) | (refine zay rfl (fun h => ?_) (fun h => ?_) <;> (have h' := h; (try simp only [sx] at h')))))
      | (refine za2 ?_) | (refine zag ?_) | (refine zaj ?_) | (refine zao ?_) | (refine zam ?_) | (refine zan ?_) | (refine zaq rfl ?_) | (refine zah ?_) | (refine zai ?_) | (refine zbi ?_))
    have hy3 := hy.2.2
    have kE1 := k_iEdge y so aO aO
    have kE2 := k_sEdge y so aO aO
    have hls : (ints so).length = so.length := by simp
    have hed : decide (RgOk y so) = true → (∃ k : Int, edR y so = 2 * k) ∧ (0 ≤ edR y so ∧ edR y so ≤ 100) ∧ (edR y so = 0 ↔ so.length = 0) := fun h => by
      have hok := of_decide_eq_true h
      have h1 := edg_pos hok.1 hok.cel hok.up
      have h2 := hok.len
      unfold edR
      rw [if_pos hok]
      exact ⟨edg_even so, ⟨h1.1, by omega⟩, h1.2.2⟩
    generalize edR y so = v at *
    generalize decide (RgOk y so) = o3 at *
    repeat' (first
      | (refine zaz ?_; first | (refine za4 ?_; refine zas _ rfl ?_) | (refine zak ?_; refine zaa _ rfl ?_) | (refine zbu ?_; first | (refine zb0 rfl rfl aO ?_) | (refine zch rfl rfl aO ?_) | (refine zcq rfl rfl aO ?_) | (refine zce rfl rfl aO ?_) | (refine zbs _ rfl rfl rfl ?_) | (refine zbr aA rfl rfl ?_) | (refine zca aA rfl rfl ?_) | (refine zav _ rfl rfl rfl ?_)) | (refine g_un ?_; first | (refine zb7 rfl ?_) | (refine zb8 rfl aO ?_)) | (refine zbb ?_; first | (refine zab aA rfl ?_) | (refine zae _ aA rfl rfl aE rfl ?_) | (refine zac _ aA rfl aZ aL ?_) | (refine zad _ aA rfl rfl aE aZ aL ?_)) | (refine zbd ?_; first | (refine zax _ aA rfl rfl aO aA ?_) | (refine zaw _ aA rfl rfl rfl rfl aO aO (by first | (rw [Nat.zero_add, Int.toNat_natCast]) | (rw [Nat.zero_add]) | rfl) ?_)) | (refine zb3 ?_; first | (refine zbn rfl aD rfl ?_) | (refine zbp rfl aD ?_) | (refine zbm rfl aD ?_) | (refine zbq rfl aD rfl ?_)) | (refine zby ?_; first | (refine zb4 rfl rfl aD ?_) | (refine zcc rfl rfl aD ?_) | (refine zcb rfl rfl ?_) | (refine zbo rfl rfl (fun h => ?_) (fun h => ?_) <;> (have h' := h; (try simp only [sx] at h')))) | (refine za9 ?_; first | (refine zbc true (kE1) rfl rfl rfl aS rfl aH ?_; simp only [cl]) | (refine za8 aA rfl ?_) | (refine za6 aA rfl rfl ?_) | (refine za5 aA rfl ?_) | (refine za7 aA (evO_ok rfl) ?_)) | (refine zb9 _ aA rfl ?_) | (refine zb5 aA rfl ?_) | (refine zb1 _ _ _ rfl rfl aE (by first | assumption | (exact TAgg.size aA)) rfl rfl rfl aZ rfl aL (by first | (first | (simp only [lx, Nat.reduceAdd]; first | done | rfl) | fail) | rfl) ?_) | (refine zcf _ rfl rfl ?_) | (refine zar (hK _ _ (.inl rfl) ?_); clear hK K) | (refine zar (hK _ _ (.inr (by kernel_rfl)) ?_); clear hK K))
      | (refine za3 ?_; first | (refine v_seqN 3000040 rfl ?_) | (refine zaf (fun K hK => ?_)) | (refine zap ?_) | (refine za0 ?_) | (refine zbj ?_) | (refine za1 ?_) | (refine zbe ?_; first | (refine zat rfl aD ?_) | (refine zau rfl aD ?_) | (refine zay rfl (fun h => ?_) (fun h => ?_) <;> (have h' := h; (try simp only [sx] at h')))))
      | (refine za2 ?_) | (refine zag ?_) | (refine zaj ?_) | (refine zao ?_) | (refine zam ?_) | (refine zan ?_) | (refine zaq rfl ?_) | (refine zah ?_) | (refine zai ?_) | (refine zbi ?_))
    all_goals try (exfalso; omega)
    all_goals try (exfalso; simp at *; done)
    refine v_cutK [0] [] (fun u_ : Unit => []) (fun u_ : Unit => []) (fun u_ : Unit => True) rfl rfl (fun _ => rfl) (fun _ => rfl) ?_ (fun u_ hu_ => ?_)
    · cases o3
      · repeat' (first
      | (refine zaz ?_; first | (refine za4 ?_; refine zas _ rfl ?_) | (refine zak ?_; refine zaa _ rfl ?_) | (refine zbu ?_; first | (refine zb0 rfl rfl aO ?_) | (refine zch rfl rfl aO ?_) | (refine zcq rfl rfl aO ?_) | (refine zce rfl rfl aO ?_) | (refine zbs _ rfl rfl rfl ?_) | (refine zbr aA rfl rfl ?_) | (refine zca aA rfl rfl ?_) | (refine zav _ rfl rfl rfl ?_)) | (refine g_un ?_; first | (refine zb7 rfl ?_) | (refine zb8 rfl aO ?_)) | (refine zbb ?_; first | (refine zab aA rfl ?_) | (refine zae _ aA rfl rfl aE rfl ?_) | (refine zac _ aA rfl aZ aL ?_) | (refine zad _ aA rfl rfl aE aZ aL ?_)) | (refine zbd ?_; first | (refine zax _ aA rfl rfl aO aA ?_) | (refine zaw _ aA rfl rfl rfl rfl aO aO (by first | (rw [Nat.zero_add, Int.toNat_natCast]) | (rw [Nat.zero_add]) | rfl) ?_)) | (refine zb3 ?_; first | (refine zbn rfl aD rfl ?_) | (refine zbp rfl aD ?_) | (refine zbm rfl aD ?_) | (refine zbq rfl aD rfl ?_)) | (refine zby ?_; first | (refine zb4 rfl rfl aD ?_) | (refine zcc rfl rfl aD ?_) | (refine zcb rfl rfl ?_) | (refine zbo rfl rfl (fun h => ?_) (fun h => ?_) <;> (have h' := h; (try simp only [sx] at h')))) | (refine za9 ?_; first | (refine zbc true (kE2) rfl rfl rfl aS rfl aH ?_; simp only [cl]) | (refine za8 aA rfl ?_) | (refine za6 aA rfl rfl ?_) | (refine za5 aA rfl ?_) | (refine za7 aA (evO_ok rfl) ?_)) | (refine zb9 _ aA rfl ?_) | (refine zb5 aA rfl ?_) | (refine zb1 _ _ _ rfl rfl aE (by first | assumption | (exact TAgg.size aA)) rfl rfl rfl aZ rfl aL (by first | (first | (simp only [lx, Nat.reduceAdd]; first | done | rfl) | fail) | rfl) ?_) | (refine zcf _ rfl rfl ?_) | (refine zar (hK _ _ (.inl rfl) ?_); clear hK K) | (refine zar (hK _ _ (.inr (by kernel_rfl)) ?_); clear hK K))
      | (refine za3 ?_; first | (refine zbk ?_) | (refine zaf (fun K hK => ?_)) | (refine zap ?_) | (refine za0 ?_) | (refine zbj ?_) | (refine za1 ?_) | (refine zbe ?_; first | (refine zat rfl aD ?_) | (refine zau rfl aD ?_) | (refine zay rfl (fun h => ?_) (fun h => ?_) <;> (have h' := h; (try simp only [sx] at h')))))
      | (refine za2 ?_) | (refine zag ?_) | (refine zaj ?_) | (refine zao ?_) | (refine zam ?_) | (refine zan ?_) | (refine zaq rfl ?_) | (refine zah ?_) | (refine zai ?_) | (refine zbi ?_))
        all_goals first
          | (exfalso; omega)
          | (exfalso; simp at *; done)
          | (refine zb6 () rfl aW trivial (by decide))
      · obtain ⟨⟨k, hk⟩, hv, hz2⟩ := hed rfl
        by_cases hv0 : v = 0
        · have hs0 := hz2.1 hv0
          repeat' (first
      | (refine zaz ?_; first | (refine za4 ?_; refine zas _ rfl ?_) | (refine zak ?_; refine zaa _ rfl ?_) | (refine zbu ?_; first | (refine zb0 rfl rfl aO ?_) | (refine zch rfl rfl aO ?_) | (refine zcq rfl rfl aO ?_) | (refine zce rfl rfl aO ?_) | (refine zbs _ rfl rfl rfl ?_) | (refine zbr aA rfl rfl ?_) | (refine zca aA rfl rfl ?_) | (refine zav _ rfl rfl rfl ?_)) | (refine g_un ?_; first | (refine zb7 rfl ?_) | (refine zb8 rfl aO ?_)) | (refine zbb ?_; first | (refine zab aA rfl ?_) | (refine zae _ aA rfl rfl aE rfl ?_) | (refine zac _ aA rfl aZ aL ?_) | (refine zad _ aA rfl rfl aE aZ aL ?_)) | (refine zbd ?_; first | (refine zax _ aA rfl rfl aO aA ?_) | (refine zaw _ aA rfl rfl rfl rfl aO aO (by first | (rw [Nat.zero_add, Int.toNat_natCast]) | (rw [Nat.zero_add]) | rfl) ?_)) | (refine zb3 ?_; first | (refine zbn rfl aD rfl ?_) | (refine zbp rfl aD ?_) | (refine zbm rfl aD ?_) | (refine zbq rfl aD rfl ?_)) | (refine zby ?_; first | (refine zb4 rfl rfl aD ?_) | (refine zcc rfl rfl aD ?_) | (refine zcb rfl rfl ?_) | (refine zbo rfl rfl (fun h => ?_) (fun h => ?_) <;> (have h' := h; (try simp only [sx] at h')))) | (refine za9 ?_; first | (refine zbc true (kE2) rfl rfl rfl aS rfl aH ?_; simp only [cl]) | (refine za8 aA rfl ?_) | (refine za6 aA rfl rfl ?_) | (refine za5 aA rfl ?_) | (refine za7 aA (evO_ok rfl) ?_)) | (refine zb9 _ aA rfl ?_) | (refine zb5 aA rfl ?_) | (refine zb1 _ _ _ rfl rfl aE (by first | assumption | (exact TAgg.size aA)) rfl rfl rfl aZ rfl aL (by first | (first | (simp only [lx, Nat.reduceAdd]; first | done | rfl) | fail) | rfl) ?_) | (refine zcf _ rfl rfl ?_) | (refine zar (hK _ _ (.inl rfl) ?_); clear hK K) | (refine zar (hK _ _ (.inr (by kernel_rfl)) ?_); clear hK K))
      | (refine za3 ?_; first | (refine zbk ?_) | (refine zaf (fun K hK => ?_)) | (refine zap ?_) | (refine za0 ?_) | (refine zbj ?_) | (refine za1 ?_) | (refine zbe ?_; first | (refine zat rfl aD ?_) | (refine zau rfl aD ?_) | (refine zay rfl (fun h => ?_) (fun h => ?_) <;> (have h' := h; (try simp only [sx] at h')))))
      | (refine za2 ?_) | (refine zag ?_) | (refine zaj ?_) | (refine zao ?_) | (refine zam ?_) | (refine zan ?_) | (refine zaq rfl ?_) | (refine zah ?_) | (refine zai ?_) | (refine zbi ?_))
          all_goals first
            | (exfalso; omega)
            | (exfalso; simp [hv0, hs0] at h; done)
            | (exfalso; simp [hv0, hs0] at h'; done)
            | (exfalso; simp at *; omega)
            | (refine zb6 () rfl aW trivial (by decide))
        · have hs0 : so.length ≠ 0 := fun h => hv0 (hz2.2 h)
          have hs1 : so ≠ [] := fun h => hs0 (by rw [h]; rfl)
          have hs2 : decide (((ints so).length : Int) = 0) = false := decide_eq_false aO
          have hs3 : (v == 0) = false := by simp [hv0]
          have hs4 : (((ints so).length : Int) == 0) = false := by simp [hs1]
          repeat' (first
      | (refine zaz ?_; first | (refine za4 ?_; refine zas _ rfl ?_) | (refine zak ?_; refine zaa _ rfl ?_) | (refine zbu ?_; first | (refine zb0 rfl rfl aO ?_) | (refine zch rfl rfl aO ?_) | (refine zcq rfl rfl aO ?_) | (refine zce rfl rfl aO ?_) | (refine zbs _ rfl rfl rfl ?_) | (refine zbr aA rfl rfl ?_) | (refine zca aA rfl rfl ?_) | (refine zav _ rfl rfl rfl ?_)) | (refine g_un ?_; first | (refine zb7 rfl ?_) | (refine zb8 rfl aO ?_)) | (refine zbb ?_; first | (refine zab aA rfl ?_) | (refine zae _ aA rfl rfl aE rfl ?_) | (refine zac _ aA rfl aZ aL ?_) | (refine zad _ aA rfl rfl aE aZ aL ?_)) | (refine zbd ?_; first | (refine zax _ aA rfl rfl aO aA ?_) | (refine zaw _ aA rfl rfl rfl rfl aO aO (by first | (rw [Nat.zero_add, Int.toNat_natCast]) | (rw [Nat.zero_add]) | rfl) ?_)) | (refine zb3 ?_; first | (refine zbn rfl aD rfl ?_) | (refine zbp rfl aD ?_) | (refine zbm rfl aD ?_) | (refine zbq rfl aD rfl ?_)) | (refine zby ?_; first | (refine zb4 rfl rfl aD ?_) | (refine zcc rfl rfl aD ?_) | (refine zcb rfl rfl ?_) | (refine zbo rfl rfl (fun h => ?_) (fun h => ?_) <;> (have h' := h; (try simp only [sx] at h')))) | (refine za9 ?_; first | (refine zbc true (kE2) rfl rfl rfl aS rfl aH ?_; simp only [cl]) | (refine za8 aA rfl ?_) | (refine za6 aA rfl rfl ?_) | (refine za5 aA rfl ?_) | (refine za7 aA (evO_ok rfl) ?_)) | (refine zb9 _ aA rfl ?_) | (refine zb5 aA rfl ?_) | (refine zb1 _ _ _ rfl rfl aE (by first | assumption | (exact TAgg.size aA)) rfl rfl rfl aZ rfl aL (by first | (first | (simp only [lx, Nat.reduceAdd]; first | done | rfl) | fail) | rfl) ?_) | (refine zcf _ rfl rfl ?_) | (refine zar (hK _ _ (.inl rfl) ?_); clear hK K) | (refine zar (hK _ _ (.inr (by kernel_rfl)) ?_); clear hK K))
      | (refine za3 ?_; first | (refine zbk ?_) | (refine zaf (fun K hK => ?_)) | (refine zap ?_) | (refine za0 ?_) | (refine zbj ?_) | (refine za1 ?_) | (refine zbe ?_; first | (refine zat rfl aD ?_) | (refine zau rfl aD ?_) | (refine zay rfl (fun h => ?_) (fun h => ?_) <;> (have h' := h; (try simp only [sx] at h')))))
      | (refine za2 ?_) | (refine zag ?_) | (refine zaj ?_) | (refine zao ?_) | (refine zam ?_) | (refine zan ?_) | (refine zaq rfl ?_) | (refine zah ?_) | (refine zai ?_) | (refine zbi ?_))
          all_goals first
            | (exfalso; omega)
            | (exfalso; exact h' (hs3.trans hs4.symm))
            | (exfalso; simp [hv0, hs1] at h'; done)
            | (exfalso; simp at *; omega)
            | (refine zb6 () rfl aW trivial (by decide))
    clear kE1 kE2 hed
    repeat' (first
      | (refine zaz ?_; first | (refine za4 ?_; refine zas _ rfl ?_) | (refine zak ?_; refine zaa _ rfl ?_) | (refine zbu ?_; first | (refine zb0 rfl rfl aO ?_) | (refine zch rfl rfl aO ?_) | (refine zcq rfl rfl aO ?_) | (refine zce rfl rfl aO ?_) | (refine zbs _ rfl rfl rfl ?_) | (refine zbr aA rfl rfl ?_) | (refine zca aA rfl rfl ?_) | (refine zav _ rfl rfl rfl ?_)) | (refine g_un ?_; first | (refine zb7 rfl ?_) | (refine zb8 rfl aO ?_)) | (refine zbb ?_; first | (refine zab aA rfl ?_) | (refine zae _ aA rfl rfl aE rfl ?_) | (refine zac _ aA rfl aZ aL ?_) | (refine zad _ aA rfl rfl aE aZ aL ?_)) | (refine zbd ?_; first | (refine zax _ aA rfl rfl aO aA ?_) | (refine zaw _ aA rfl rfl rfl rfl aO aO (by first | (rw [Nat.zero_add, Int.toNat_natCast]) | (rw [Nat.zero_add]) | rfl) ?_)) | (refine zb3 ?_; first | (refine zbn rfl aD rfl ?_) | (refine zbp rfl aD ?_) | (refine zbm rfl aD ?_) | (refine zbq rfl aD rfl ?_)) | (refine zby ?_; first | (refine zb4 rfl rfl aD ?_) | (refine zcc rfl rfl aD ?_) | (refine zcb rfl rfl ?_) | (refine zbo rfl rfl (fun h => ?_) (fun h => ?_) <;> (have h' := h; (try simp only [sx] at h')))) | (refine za9 ?_; first | (refine x_callLP [] (k_DrawRegionPicture code hz) rfl rfl (by (repeat' (first | exact trivial | refine ⟨⟨_, rfl, ?_⟩, ?_⟩ | exact .inl ⟨rfl, .inl rfl⟩ | exact .inr ⟨rfl, rfl, rfl, rfl, rfl, fun e he u hu => by (simp only [List.mem_cons, List.not_mem_nil, or_false] at he; subst he; simp only [List.mem_cons, List.not_mem_nil, or_false] at hu; subst hu; rfl)⟩ | exact .inl ⟨rfl, .inr (fun e he => by (simp only [List.mem_cons, List.not_mem_nil, or_false] at he; subst he; rfl))⟩ | fail)); first | done | fail) rfl rfl aS rfl (fun r_ fin_ hP_ => ?_); obtain ⟨p, sp, ⟨rfl, rfl⟩, hp, hsp⟩ := hP_; refine ⟨_, _, _, aH, rfl, ?_⟩; simp only [cl]) | (refine za8 aA rfl ?_) | (refine za6 aA rfl rfl ?_) | (refine za5 aA rfl ?_) | (refine za7 aA (evO_ok rfl) ?_)) | (refine zb9 _ aA rfl ?_) | (refine zb5 aA rfl ?_) | (refine zb1 _ _ _ rfl rfl aE (by first | assumption | (exact TAgg.size aA)) rfl rfl rfl aZ rfl aL (by first | (first | (simp only [lx, Nat.reduceAdd]; first | done | rfl) | fail) | rfl) ?_) | (refine zcf _ rfl rfl ?_) | (refine zar (hK _ _ (.inl rfl) ?_); clear hK K) | (refine zar (hK _ _ (.inr (by kernel_rfl)) ?_); clear hK K))
      | (refine za3 ?_; first | (refine zbk ?_) | (refine zaf (fun K hK => ?_)) | (refine zap ?_) | (refine za0 ?_) | (refine zbj ?_) | (refine za1 ?_) | (refine zbe ?_; first | (refine zat rfl aD ?_) | (refine zau rfl aD ?_) | (refine zay rfl (fun h => ?_) (fun h => ?_) <;> (have h' := h; (try simp only [sx] at h')))))
      | (refine za2 ?_) | (refine zag ?_) | (refine zaj ?_) | (refine zao ?_) | (refine zam ?_) | (refine zan ?_) | (refine zaq rfl ?_) | (refine zah ?_) | (refine zai ?_) | (refine zbi ?_))
    have hp3 := hp.2.2
    have kR1 := k_iPicture p sp aO aO
    have kR2 := k_sPicture p sp aO aO
    generalize piR p sp = w at *
    generalize decide (RgOk p sp) = o4 at *
    repeat' (first
      | (refine zaz ?_; first | (refine za4 ?_; refine zas _ rfl ?_) | (refine zak ?_; refine zaa _ rfl ?_) | (refine zbu ?_; first | (refine zb0 rfl rfl aO ?_) | (refine zch rfl rfl aO ?_) | (refine zcq rfl rfl aO ?_) | (refine zce rfl rfl aO ?_) | (refine zbs _ rfl rfl rfl ?_) | (refine zbr aA rfl rfl ?_) | (refine zca aA rfl rfl ?_) | (refine zav _ rfl rfl rfl ?_)) | (refine g_un ?_; first | (refine zb7 rfl ?_) | (refine zb8 rfl aO ?_)) | (refine zbb ?_; first | (refine zab aA rfl ?_) | (refine zae _ aA rfl rfl aE rfl ?_) | (refine zac _ aA rfl aZ aL ?_) | (refine zad _ aA rfl rfl aE aZ aL ?_)) | (refine zbd ?_; first | (refine zax _ aA rfl rfl aO aA ?_) | (refine zaw _ aA rfl rfl rfl rfl aO aO (by first | (rw [Nat.zero_add, Int.toNat_natCast]) | (rw [Nat.zero_add]) | rfl) ?_)) | (refine zb3 ?_; first | (refine zbn rfl aD rfl ?_) | (refine zbp rfl aD ?_) | (refine zbm rfl aD ?_) | (refine zbq rfl aD rfl ?_)) | (refine zby ?_; first | (refine zb4 rfl rfl aD ?_) | (refine zcc rfl rfl aD ?_) | (refine zcb rfl rfl ?_) | (refine zbo rfl rfl (fun h => ?_) (fun h => ?_) <;> (have h' := h; (try simp only [sx] at h')))) | (refine za9 ?_; first | (refine zbc true (kR1) rfl rfl rfl aS rfl aH ?_; simp only [cl]) | (refine zbc true (kR2) rfl rfl rfl aS rfl aH ?_; simp only [cl]) | (refine za8 aA rfl ?_) | (refine za6 aA rfl rfl ?_) | (refine za5 aA rfl ?_) | (refine za7 aA (evO_ok rfl) ?_)) | (refine zb9 _ aA rfl ?_) | (refine zb5 aA rfl ?_) | (refine zb1 _ _ _ rfl rfl aE (by first | assumption | (exact TAgg.size aA)) rfl rfl rfl aZ rfl aL (by first | (first | (simp only [lx, Nat.reduceAdd]; first | done | rfl) | fail) | rfl) ?_) | (refine zcf _ rfl rfl ?_) | (refine zar (hK _ _ (.inl rfl) ?_); clear hK K) | (refine zar (hK _ _ (.inr (by kernel_rfl)) ?_); clear hK K))
      | (refine za3 ?_; first | (refine zbk ?_) | (refine zaf (fun K hK => ?_)) | (refine zap ?_) | (refine za0 ?_) | (refine zbj ?_) | (refine za1 ?_) | (refine zbe ?_; first | (refine zat rfl aD ?_) | (refine zau rfl aD ?_) | (refine zay rfl (fun h => ?_) (fun h => ?_) <;> (have h' := h; (try simp only [sx] at h')))))
      | (refine za2 ?_) | (refine zag ?_) | (refine zaj ?_) | (refine zao ?_) | (refine zam ?_) | (refine zan ?_) | (refine zaq rfl ?_) | (refine zah ?_) | (refine zai ?_) | (refine zbi ?_))
    all_goals first
      | (exfalso; omega)
      | exact zb2 rfl (zbh rfl) (by simp)
end Go.Vs
set_option linter.unusedVariables false
set_option linter.unusedSimpArgs false
namespace Go.Vs
open Go.RowKit Go.Deep
theorem ioMem_nil : ioMem [] = noMem := by funext id; simp [ioMem, noMem]
theorem calls_below {P : Program} {f : FuncId} {args : List PV} {cargs : Array Value} {w : World} {b : Bool} (hC : Con P f args (.bool b)) (ha : Comps (fun _ => none) w (fun b => b < w.heap.size) noMem cargs args) :
    Calls P f cargs w fun e w' => e = .returned (.bool b) ∧ Below w.heap.size w w' := by
  have hM := ioMem_nil
  have hno : ∀ id (r : Row), ioMem [] id ≠ some (some r) := fun id r h => by rw [hM] at h; cases h
  have hW : WRel (fun _ => True) (fun _ => none) w [] (ioMem []) w :=
    ⟨fun _ _ r _ _ _ _ h => absurd h (hno _ r), fun _ r h => absurd h (hno _ r), fun _ r h => absurd h (hno _ r), ⟨rfl, rfl, rfl, Nat.le_refl _, fun _ _ _ => rfl, fun b cur ty fr h => ⟨cur, h, rfl⟩⟩, fun _ _ => trivial⟩
  have hS : (Stab (fun _ => True) (fun _ => none) (ioMem []) w) = (fun b => b < w.heap.size) := by
    funext x
    apply propext
    exact ⟨fun h => h.1, fun h => ⟨h, fun id r z hm => absurd hm (hno _ r), trivial⟩⟩
  refine (((hC false).2 (fun _ => True) w [] (fun _ => none) cargs hW rfl ?_).mono) ?_
  · rw [hS, hM]; exact ha
  · rintro e w' ⟨v, r, fin, rfl, ⟨rfl, rfl⟩, _, _, hr⟩
    obtain ⟨ρ', hr⟩ := hr 0 (by unfold io; omega)
    have hv := rep_bool.1 hr.val
    subst hv
    have hk := hr.rel.keep
    exact ⟨rfl, hk.os, hk.tape, hk.output, hk.size, fun k hk' => hk.block k hk' (fun z h => by cases h)⟩
section
variable {H : Type} {enc : TypeId × Value → H} {P : Program} {w : World} {base : Nat} {spare : Nat → Bool} {held : Bool}
theorem lit_bounds {n : Int} (h : (Lit.int .i64 n).wf = true) : -9223372036854775808 ≤ n ∧ n ≤ 9223372036854775807 := by
  simp only [Lit.wf, Bool.and_eq_true, decide_eq_true_eq] at h
  exact h
theorem cell_lt {a : Addr} {c : Value} (h : w.cell? a = some c) : a.block < w.heap.size := by
  rcases Nat.lt_or_ge a.block w.heap.size with h1 | h1
  · exact h1
  · rw [World.cell?, Array.getElem?_eq_none h1] at h
    cases h
end
end Go.Vs
set_option linter.unusedVariables false
set_option linter.unusedSimpArgs false
namespace Go.Vs
open Go.RowKit Go.Deep
inductive Sh where
  | int
  | str
  | bool
  | byte
  | slice (e : List Sh)
def CellIs : Nat → Sh → PV → Prop
  | 0, _, _ => False
  | d + 1, sh, u => match sh with
    | .int => ∃ n : Int, u = .int .i64 n ∧ -9223372036854775808 ≤ n ∧ n ≤ 9223372036854775807
    | .str => ∃ s, u = .str s ∧ s.size ≤ Go.maxLen
    | .bool => ∃ b, u = .bool b
    | .byte => ∃ n : Int, u = .int .u8 n ∧ 0 ≤ n ∧ n ≤ 255
    | .slice es => ∃ els : List (List PV), u = .list es.length els ∧ els.length ≤ Go.maxLen ∧ ∀ el ∈ els, el.length = es.length ∧ ∀ (j : Nat) sh' u', es[j]? = some sh' → el[j]? = some u' → CellIs d sh' u'
def fieldsOk (P : Program) (ok : TypeId → List Sh → Bool) : List Field → Nat → List Sh → Bool
  | [], _, shs => shs.isEmpty
  | f :: fs, off, shs => Nat.beq f.offset off && (Nat.ble (P.cellsOf f.type) shs.length && (ok f.type (shs.take (P.cellsOf f.type)) && fieldsOk P ok fs (off + P.cellsOf f.type) (shs.drop (P.cellsOf f.type))))
def shOk (P : Program) : Nat → TypeId → List Sh → Bool
  | 0, _, _ => false
  | d + 1, T, shs => match P.underlying T with
    | some (.int .i64) => match shs with | [.int] => true | _ => false
    | some .string => match shs with | [.str] => true | _ => false
    | some .bool => match shs with | [.bool] => true | _ => false
    | some (.int .u8) => match shs with | [.byte] => true | _ => false
    | some (.slice e) => match shs with | [.slice es] => Nat.beq (P.cellsOf e) es.length && (Nat.blt 0 es.length && shOk P d e es) | _ => false
    | some (.struct fs) => Nat.beq (P.cellsOf T) shs.length && fieldsOk P (shOk P d) fs.toList 0 shs
    | _ => false
theorem lit_bytes {n : Int} (h : (Lit.int .u8 n).wf = true) : 0 ≤ n ∧ n ≤ 255 := by
  simp only [Lit.wf, Bool.and_eq_true, decide_eq_true_eq] at h
  exact h
section
variable {H : Type} {enc : TypeId × Value → H} {P : Program} {w : World} {base : Nat} {spare : Nat → Bool} {held : Bool}
def OpenAt (w : World) (d : Nat) (sh : Sh) (oc : Option Value) : Prop := ∃ c u, oc = some c ∧ c.oneCell' = true ∧ CellIs d sh u ∧ ∀ ρ, Rep ρ w (fun b => b < w.heap.size) noMem c u
theorem fields_open {d n : Nat} {cs : List Value} (ih : ∀ T shs fuel cs x, shOk P d T shs = true → DataW.trod enc P w base spare held fuel T cs = some x → cs.length = shs.length ∧ ∀ (j : Nat) sh, shs[j]? = some sh → OpenAt w d sh cs[j]?) :
    ∀ (l : List Field) (off : Nat) (shs : List Sh), fieldsOk P (shOk P d) l off shs = true → (∀ f ∈ l, ∃ x, DataW.trod enc P w base spare held n f.type ((cs.drop f.offset).take (P.cellsOf f.type)) = some x) →
      ∀ (j : Nat) sh, shs[j]? = some sh → OpenAt w d sh cs[off + j]?
  | [], off, shs, h, _, j, sh, hj => by
    cases shs with
    | nil => simp at hj
    | cons a r => cases h
  | f :: fs, off, shs, h, hf, j, sh, hj => by
    simp only [fieldsOk, Bool.and_eq_true] at h
    obtain ⟨h1, h2, h3, h4⟩ := h
    have h1 := Nat.eq_of_beq_eq_true h1
    have h2 := Nat.le_of_ble_eq_true h2
    obtain ⟨x, hx⟩ := hf f List.mem_cons_self
    obtain ⟨g1, g2⟩ := ih _ _ _ _ _ h3 hx
    rcases Nat.lt_or_ge j (P.cellsOf f.type) with hlt | hge
    · have := g2 j sh (by rw [List.getElem?_take, if_pos hlt]; exact hj)
      rw [List.getElem?_take, if_pos hlt, List.getElem?_drop, h1] at this
      exact this
    · have := fields_open ih fs (off + P.cellsOf f.type) _ h4 (fun g hg => hf g (List.mem_cons_of_mem _ hg)) (j - P.cellsOf f.type) sh (by rw [List.getElem?_drop]; rw [show P.cellsOf f.type + (j - P.cellsOf f.type) = j by omega]; exact hj)
      rw [show off + P.cellsOf f.type + (j - P.cellsOf f.type) = off + j by omega] at this
      exact this
theorem open_cells : ∀ (d : Nat) (T : TypeId) (shs : List Sh) (fuel : Nat) (cs : List Value) (x : DataW H × List MemPlace), shOk P d T shs = true → DataW.trod enc P w base spare held fuel T cs = some x →
    cs.length = shs.length ∧ ∀ (j : Nat) sh, shs[j]? = some sh → OpenAt w d sh cs[j]?
  | 0, _, _, _, _, _, h, _ => by cases h
  | d + 1, T, shs, fuel, cs, x, h, hx => by
    have ih := fun T shs fuel cs x => open_cells d T shs fuel cs x
    have single : ∀ {sh : Sh} {c : Value} {u : PV}, c.oneCell' = true → CellIs (d + 1) sh u → (∀ ρ, Rep ρ w (fun b => b < w.heap.size) noMem c u) → [c].length = [sh].length ∧ ∀ (j : Nat) sh', [sh][j]? = some sh' → OpenAt w (d + 1) sh' [c][j]? := by
      intro sh c u h1 h2 h3
      refine ⟨rfl, fun j sh' hj => ?_⟩
      cases j with
      | zero => simp at hj; subst hj; exact ⟨c, u, rfl, h1, h2, h3⟩
      | succ j => simp at hj
    simp only [shOk] at h
    split at h
    · rename_i hu
      split at h
      · obtain ⟨n, rfl, _, hwf⟩ := DataW.trod_int hu hx
        exact single (u := .int .i64 n) rfl ⟨n, rfl, lit_bounds hwf⟩ fun ρ => rep_int.2 rfl
      · cases h
    · rename_i hu
      split at h
      · obtain ⟨s, rfl, _, hs⟩ := DataW.trod_string hu hx
        exact single (u := .str s) rfl ⟨s, rfl, hs⟩ fun ρ => rep_str.2 rfl
      · cases h
    · rename_i hu
      split at h
      · obtain ⟨b, rfl, _⟩ := DataW.trod_bool hu hx
        exact single (u := .bool b) rfl ⟨b, rfl⟩ fun ρ => rep_bool.2 rfl
      · cases h
    · rename_i hu
      split at h
      · obtain ⟨n, rfl, _, hwf⟩ := DataW.trod_int hu hx
        exact single (u := .int .u8 n) rfl ⟨n, rfl, lit_bytes hwf⟩ fun ρ => rep_int.2 rfl
      · cases h
    · rename_i e hu
      split at h
      · rename_i es
        simp only [Bool.and_eq_true] at h
        obtain ⟨h1, h2, h3⟩ := h
        have h1 := Nat.eq_of_beq_eq_true h1
        have h2 : 0 < es.length := by simpa using h2
        rcases open_slice hu hx with ⟨rfl, _⟩ | ⟨a, len, cap, m, n, D, Pl, rfl, hb, hl, hm, hmm, _, hi⟩
        · exact single (u := .list es.length []) rfl ⟨[], rfl, by simp, fun el hel => by simp at hel⟩ fun ρ => rep_list.2 ⟨none, 0, rfl, Nat.le_refl _, fun h => absurd rfl h⟩
        · have hlm : len ≤ m := by rw [hmm]; split <;> omega
          have key : ∀ i, i < len → ∃ el : List PV, el.length = es.length ∧ ∀ (j : Nat) u, el[j]? = some u → ∃ c, w.cell? (a.add (i * es.length + j)) = some c ∧ c.oneCell' = true ∧ (∀ sh', es[j]? = some sh' → CellIs d sh' u) ∧
              ∀ ρ, Rep ρ w (fun b => b < w.heap.size) noMem c u := by
            intro i hil
            obtain ⟨cs', hc, ht'⟩ := hi i (by omega)
            obtain ⟨g1, g2⟩ := ih _ _ _ _ _ h3 ht'
            rw [h1] at hc
            obtain ⟨_, hcl, hat⟩ := World.cells?_some hc
            classical
            refine ⟨(List.range es.length).map fun j => if hj : j < es.length then Classical.choose (Classical.choose_spec (g2 j es[j] (List.getElem?_eq_getElem hj))) else .any, by simp, fun j u hu => ?_⟩
            have hj : j < es.length := by
              have := (List.getElem?_eq_some_iff.1 hu).1
              simpa using this
            rw [List.getElem?_map, List.getElem?_range hj] at hu
            simp only [Option.map_some, Option.some.injEq, dif_pos hj] at hu
            have hsp := Classical.choose_spec (Classical.choose_spec (g2 j es[j] (List.getElem?_eq_getElem hj)))
            rw [hu] at hsp
            refine ⟨_, ?_, hsp.2.1, fun sh' hs' => ?_, hsp.2.2.2⟩
            · rw [← Go.Deep.add_add, hat j (by omega)]
              exact hsp.1
            · rw [List.getElem?_eq_getElem hj] at hs'
              injection hs' with hs'
              rw [← hs']
              exact hsp.2.2.1
          have hall : ∃ els : List (List PV), els.length = len ∧ ∀ i el, els[i]? = some el → el.length = es.length ∧ ∀ (j : Nat) u, el[j]? = some u → ∃ c, w.cell? (a.add (i * es.length + j)) = some c ∧ c.oneCell' = true ∧ (∀ sh', es[j]? = some sh' → CellIs d sh' u) ∧
              ∀ ρ, Rep ρ w (fun b => b < w.heap.size) noMem c u := by
            classical
            refine ⟨(List.range len).map fun i => if h : i < len then Classical.choose (key i h) else [], by simp, fun i r hr => ?_⟩
            have hi' : i < len := by
              have := (List.getElem?_eq_some_iff.1 hr).1
              simpa using this
            rw [List.getElem?_map, List.getElem?_range hi'] at hr
            simp only [Option.map_some, Option.some.injEq, dif_pos hi'] at hr
            subst hr
            exact Classical.choose_spec (key i hi')
          obtain ⟨els, hlen, hels⟩ := hall
          refine single (u := .list es.length els) rfl ⟨els, rfl, by omega, fun el hel => ?_⟩ fun ρ => rep_list.2 ⟨some a, cap, by rw [hlen], by omega, fun hne => ⟨a, rfl, ?_, fun i el hi => ⟨(hels i el hi).1, fun j u hu => ?_⟩⟩⟩
          · obtain ⟨i, hi⟩ := List.getElem?_of_mem hel
            refine ⟨(hels i el hi).1, fun j sh' u' hs hu => ?_⟩
            obtain ⟨c, _, _, h5, _⟩ := (hels i el hi).2 j u' hu
            exact h5 sh' hs
          · obtain ⟨el, hel⟩ : ∃ el, els[0]? = some el := by
              cases els with
              | nil => exact absurd rfl hne
              | cons r _ => exact ⟨r, rfl⟩
            obtain ⟨g1, g2⟩ := hels 0 el hel
            obtain ⟨c, k1, _⟩ := g2 0 (el[0]'(by omega)) (List.getElem?_eq_getElem (by omega))
            have h3 := cell_lt k1
            have h4 : (a.add (0 * es.length + 0)).block = a.block := by simp only [Addr.add]; split <;> rfl
            rw [h4] at h3
            exact h3
          · obtain ⟨c, k1, k2, _, k4⟩ := (hels i el hi).2 j u hu
            refine ⟨c, ?_, k2, k4 ρ⟩
            rw [Go.Deep.add_add]
            exact k1
      · cases h
    · rename_i fs hu
      rw [Bool.and_eq_true] at h
      obtain ⟨ys, n, _, _, hlen, hyl, hf⟩ := DataW.trod_struct hu hx
      have hc := Nat.eq_of_beq_eq_true h.1
      refine ⟨by rw [hlen, hc], fun j sh hj => ?_⟩
      have := fields_open (cs := cs) (n := n) ih fs.toList 0 shs h.2 (fun f hfm => ?_) j sh hj
      · rw [Nat.zero_add] at this
        obtain ⟨c, u, k1, k2, k3, k4⟩ := this
        refine ⟨c, u, k1, k2, ?_, k4⟩
        have mono : ∀ (d : Nat) (sh : Sh) (u : PV), CellIs d sh u → CellIs (d + 1) sh u := by
          intro d
          induction d with
          | zero => intro sh u h; exact h.elim
          | succ d ihd =>
            intro sh u h
            cases sh with
            | int => exact h
            | str => exact h
            | bool => exact h
            | byte => exact h
            | slice es =>
              obtain ⟨els, h1, h2, h3⟩ := h
              exact ⟨els, h1, h2, fun el hel => ⟨(h3 el hel).1, fun j sh' u' hs hu => ihd _ _ ((h3 el hel).2 j sh' u' hs hu)⟩⟩
        exact mono d sh u k3
      · obtain ⟨i, hi⟩ := List.getElem?_of_mem hfm
        rw [Array.getElem?_toList] at hi
        have hil : i < ys.length := by rw [hyl]; exact (Array.getElem?_eq_some_iff.1 hi).1
        exact ⟨ys[i], by rw [hf i f hi, List.getElem?_eq_getElem hil]⟩
    · cases h
theorem open_all {d : Nat} {T : TypeId} {shs : List Sh} {fuel : Nat} {cs : List Value} {x : DataW H × List MemPlace} (h : shOk P d T shs = true) (hx : DataW.trod enc P w base spare held fuel T cs = some x) :
    ∃ us : List PV, us.length = shs.length ∧ (∀ (j : Nat) sh u, shs[j]? = some sh → us[j]? = some u → CellIs d sh u) ∧ ∀ ρ, Comps ρ w (fun b => b < w.heap.size) noMem cs.toArray us := by
  obtain ⟨h1, h2⟩ := open_cells d T shs fuel cs x h hx
  classical
  refine ⟨(List.range shs.length).map fun j => if hj : j < shs.length then Classical.choose (Classical.choose_spec (h2 j shs[j] (List.getElem?_eq_getElem hj))) else .any, by simp, fun j sh u hs hu => ?_, fun ρ => ⟨by simp [h1], fun j u hu => ?_⟩⟩
  · have hj : j < shs.length := (List.getElem?_eq_some_iff.1 hs).1
    rw [List.getElem?_map, List.getElem?_range hj] at hu
    simp only [Option.map_some, Option.some.injEq, dif_pos hj] at hu
    have hsp := Classical.choose_spec (Classical.choose_spec (h2 j shs[j] (List.getElem?_eq_getElem hj)))
    rw [hu] at hsp
    rw [List.getElem?_eq_getElem hj] at hs
    injection hs with hs
    rw [← hs]
    exact hsp.2.2.1
  · have hj : j < shs.length := by
      have := (List.getElem?_eq_some_iff.1 hu).1
      simpa using this
    rw [List.getElem?_map, List.getElem?_range hj] at hu
    simp only [Option.map_some, Option.some.injEq, dif_pos hj] at hu
    have hsp := Classical.choose_spec (Classical.choose_spec (h2 j shs[j] (List.getElem?_eq_getElem hj)))
    rw [hu] at hsp
    refine ⟨_, ?_, hsp.2.2.2 ρ⟩
    rw [List.getElem?_toArray]
    exact hsp.1
end
theorem cell_byte {d : Nat} {u : PV} (h : CellIs (d + 1) .byte u) : ∃ n : Int, u = .int .u8 n ∧ 0 ≤ n ∧ n ≤ 255 := h
theorem cell_list {α : Type} {d : Nat} {es : List Sh} {u : PV} (f : α → List PV) (h : CellIs (d + 1) (.slice es) u)
    (hf : ∀ el : List PV, el.length = es.length → (∀ (j : Nat) sh' u', es[j]? = some sh' → el[j]? = some u' → CellIs d sh' u') → ∃ a, el = f a) : ∃ xs : List α, u = .list es.length (xs.map f) ∧ xs.length ≤ Go.maxLen := by
  obtain ⟨els, rfl, h2, h3⟩ := h
  have : ∃ xs : List α, els = xs.map f := by
    clear h2
    induction els with
    | nil => exact ⟨[], rfl⟩
    | cons el r ih =>
      obtain ⟨xs, hx⟩ := ih fun el' hel => h3 el' (List.mem_cons_of_mem _ hel)
      obtain ⟨a, ha⟩ := hf el (h3 el List.mem_cons_self).1 (h3 el List.mem_cons_self).2
      exact ⟨a :: xs, by rw [List.map_cons, ← hx, ← ha]⟩
  obtain ⟨xs, rfl⟩ := this
  exact ⟨xs, rfl, by simpa using h2⟩
end Go.Vs
set_option linter.unusedVariables false
set_option linter.unusedSimpArgs false
namespace Go.Proofs.Ytgpnbhnndhakhab.FnRegionPartsDone
open Go.ChangeShapes Go.WideShapes Go.ChangeAt Go.RowKit
open Go.Vs
theorem own : ownKnob Try.prog.godebug = none := by kernel_rfl
theorem laidOut : laidOutB Try.prog = true := by kernel_rfl
theorem one_cell {d : Nat} {sh : Sh} {us : List PV} (hl : us.length = 1) (h : ∀ (j : Nat) sh' u, [sh][j]? = some sh' → us[j]? = some u → CellIs d sh' u) : ∃ u, us = [u] ∧ CellIs d sh u := by
  match us, hl with
  | [u], _ => exact ⟨u, rfl, h 0 sh u rfl rfl⟩
set_option maxRecDepth 100000 in
theorem lifted (os : Os) (started : os.Started) (H : Type) (enc : TypeId × Value → H) :
    ReturnsInHanded {} Try.checked os 4 .any (Rows.fnRegionPartsSpec.pre6 enc Try.prog Try.f4 Rows.fnRegionPartsRow.domain false) (Rows.fnRegionPartsSpec.post enc Try.prog Try.f4 false true false false) := by
  refine returnsInHanded_of_change (C := Try.checked) own started (by kernel_rfl) Try.func4
    (ChangeSpec.witness6 (enc := enc) (C := Try.checked) false ⟨#[], #[.slice none 0 0], []⟩ 8 (by kernel_rfl) (by kernel_rfl) (by kernel_rfl) (by kernel_rfl)) ?_
  intro W base args ds gs before hval0 hW hcnd _
  have hval : ∀ (j : Nat) t v, Try.f4.params[j]? = some t → args[j]? = some v → Value.okWide Try.prog W .any base t v := hval0
  have hW' := hW
  obtain ⟨p, q, hA0, hV, rfl, hfz, hnd⟩ := hW
  have hA : DataW.TrodAll enc Try.prog W 0 (fun _ => true) true Try.f4.params.toList args.toList ds p := hA0
  rw [Try.params4] at hA hval
  obtain ⟨v0, vs0, d0, ds0, p0, q0, hargs, rfl, rfl, h0, r0⟩ := trodAll_cons hA
  obtain ⟨rfl, rfl, rfl⟩ := trodAll_nil r0
  obtain rfl : args = #[v0] := by cases args; simp_all
  obtain ⟨rfl, rfl⟩ := trodVars_none hV
  obtain ⟨a0, len0, cap0, rfl⟩ := okWide_slice Try.underlying22 (hval 0 22 v0 rfl rfl)
  have k0 := h0
  have lt0 : ∀ x ∈ p0, x.block < W.heap.size := by obtain ⟨m, hm⟩ := k0; exact DataW.trod_lt m _ _ _ hm
  obtain ⟨us0, ul0, uc0, ur0⟩ : ∃ us : List PV, us.length = ([.slice [.byte]] : List Sh).length ∧ (∀ (j : Nat) sh u, ([.slice [.byte]] : List Sh)[j]? = some sh → us[j]? = some u → CellIs 4 sh u) ∧ ∀ ρ, Comps ρ W (fun b => b < W.heap.size) noMem #[.slice a0 len0 cap0] us := by
    obtain ⟨fuel, hf⟩ := h0
    exact open_all (d := 4) (T := 22) (by kernel_rfl) (by simpa [Value.cells] using hf)
  obtain ⟨u0, rfl, c0⟩ := one_cell ul0 uc0
  obtain ⟨code', rfl, b0⟩ := cell_list (fun b : {b : Int // 0 ≤ b ∧ b ≤ 255} => [PV.int .u8 b.1]) c0 (fun el hl h => by match el, hl with | [u], _ => obtain ⟨m, rfl, hm⟩ := cell_byte (h 0 _ _ rfl rfl); exact ⟨⟨m, hm⟩, rfl⟩)
  obtain ⟨code, e0, l0, b0'⟩ : ∃ code : List Int, code'.map (fun b : {b : Int // 0 ≤ b ∧ b ≤ 255} => [PV.int .u8 b.1]) = bytesP code ∧ code.length = code'.length ∧ ∀ b ∈ code, 0 ≤ b ∧ b ≤ 255 := ⟨code'.map (·.1), by simp [bytesP, Function.comp_def], by simp, fun a ha => by obtain ⟨q, _, rfl⟩ := List.mem_map.1 ha; exact q.2⟩
  rw [e0] at ur0
  rw [← l0] at b0
  clear hA0 hval0
  have hcomp : Comps (fun _ => none) W (fun b => b < W.heap.size) noMem #[.slice a0 len0 cap0] [.list 1 (bytesP code)] := by
    refine ⟨rfl, fun j u hu => ?_⟩
    match j, hu with
    | 0, hu =>
      simp only [List.getElem?_cons_zero, Option.some.injEq] at hu
      subst hu
      obtain ⟨c, hc, hr⟩ := (ur0 (fun _ => none)).2 0 _ rfl
      simp only [List.getElem?_toArray, List.getElem?_cons_zero, Option.some.injEq] at hc
      subst hc
      exact ⟨_, rfl, hr⟩
  refine (calls_below (law_FnRegionParts code (by simpa [Go.maxLen] using b0) b0') hcomp).mono fun e W' ⟨he, bel⟩ => ?_
  subst he
  exact ⟨_, rfl, _, _, _, [], _, [], hW', trodAll_mk1 (shut_bool Try.underlying4 _), (trodAll_cons_mk (Below.trod laidOut (by kernel_rfl) (of_decide_eq_true (by kernel_rfl)) k0 bel lt0) trodAll_mk0), rfl, bel.frame _, fun h => by cases h⟩
theorem over : Rows.fnRegionPartsRow.holds Try.pinned (OpenSpec.ofChange Rows.fnRegionPartsSpec) :=
  OpenClaim.holds_of_wide 4 Try.f4 rfl rfl rfl rfl rfl rfl rfl ⟨rfl, rfl, rfl, rfl, rfl⟩ rfl rfl rfl rfl rfl (by kernel_rfl) Try.func4 (by kernel_rfl)
    (of_decide_eq_true (by kernel_rfl)) (by unfold Func.isWrapper; first | (rw [if_pos (by decide +kernel)]; kernel_rfl) | (rw [if_neg (by decide +kernel)]; exact ⟨rfl, rfl⟩))
    (fun os started H enc _ => lifted os started H enc)
theorem proved : Rows.FnRegionPartsSaid := over
end Go.Proofs.Ytgpnbhnndhakhab.FnRegionPartsDone
