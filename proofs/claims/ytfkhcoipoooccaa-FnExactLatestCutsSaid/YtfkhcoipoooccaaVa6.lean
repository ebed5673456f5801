/- HOLDING: what was asked. -/
import Derived.Test.YtfkhcoipoooccaaVau
import Derived.Test.YtfkhcoipoooccaaVa5
import Derived.Test.YtfkhcoipoooccaaVn1
set_option linter.unusedVariables false
set_option linter.unusedSimpArgs false
set_option maxRecDepth 100000
set_option maxHeartbeats 4000000
namespace Go.Vs
open Go.Proofs
attribute [local irreducible] exec vwp thenQ blkQ loopQ RetPost
noncomputable section

theorem arr_ok {b : Blz} (hb : GoodB b) : Mid b (arr b) ∧ IsArr b (arr b) := by
  obtain ⟨n, ⟨T, hT, hn⟩, hmin⟩ := exists_least (fun n => ∃ T, Mid b T ∧ (valF T).toNat = n) ⟨_, _, ini_mid hb, rfl⟩
  have hA : IsArr b T := by
    refine ⟨hT.pre, fun a ha hne c he => ?_⟩
    refine Decidable.byContradiction fun hc => ?_
    have hr := hT.relax hb he hne aO
    have h1 := hmin (valF (T.set c.toNat (hop b a c (tv T a)))).toNat (show ∃ T', Mid b T' ∧ (valF T').toNat = (valF (T.set c.toNat (hop b a c (tv T a)))).toNat from ⟨_, hr.1, rfl⟩)
    have h2 := hr.1.val hb
    have h3 := hr.2
    omega
  have := arr_eq hb hA
  subst this
  exact ⟨hT, hA⟩
structure SzB (b : Blz) : Prop where
  (hn : b.t.burn.length ≤ 1099511627776) (hp : b.ps.length ≤ 1099511627776) (hs : b.src.length ≤ 1099511627776)
theorem k_l4Asked (b : Blz) (z : SzB b) : Con Try.prog 62 [.agg b.t.pv, .list 2 (b.ps.map Phase.pv), .list 1 (ints b.src), .int .i64 b.st] (.bool (decide (GoodB b))) := by
  intro al
  refine contract_of hmix Try.func62 rfl (by kernel_rfl) (by kernel_rfl) (Nat.le_of_ble_eq_true rfl) (fun row h => by cases h) ?_
  have hty_a29 := ty_a29
  have hty_u22 := ty_u22
  have hty_s22 := ty_s22
  have hty_u44 := ty_u44
  have hty_s44 := ty_s44
  have kS : Con Try.prog 63 [.agg b.t.pv, .list 1 (ints b.src)] (.bool (decide (GoodT b.t ∧ (∀ s ∈ b.src, IsCell b.t s) ∧ Rising b.src))) := k_l2Set b.t b.src z.hn z.hs
  repeat' (first
      | (refine g_exec ?_; first | (refine g_move ?_; refine x_moveO _ rfl ?_) | (refine g_assign ?_; refine x_assignO _ rfl ?_) | (refine g_load ?_; first | (refine x_load_pc aA rfl ?_) | (refine x_load_oc _ aA rfl rfl aE rfl ?_) | (refine x_load_pa _ aA rfl aZ aL ?_) | (refine x_load_oa _ aA rfl rfl aE aZ aL ?_)) | (refine g_pick ?_; first | (refine x_pick_b rfl aD rfl ?_) | (refine x_pick_c rfl aD ?_) | (refine x_pick_a rfl aD ?_) | (refine x_pick_d rfl aD rfl ?_)) | (refine g_guard ?_; first | (refine x_gyes rfl rfl aD ?_) | (refine x_gno rfl rfl aD ?_) | (refine x_gun rfl rfl ?_) | (refine x_gsplit rfl rfl (fun h => ?_) (fun h => ?_) <;> (have h' := h; (try simp only [sx] at h')))) | (refine g_call ?_; first | (refine x_callG true (kS) rfl rfl rfl aS rfl aH ?_; simp only [cl]) | (refine x_callG true (k_l4Phases b.ps z.hp) rfl rfl rfl aS rfl aH ?_; simp only [cl]) | (refine x_callG true (k_l1In _ _ _) rfl rfl rfl aS rfl aH ?_; simp only [cl])) | (refine x_boxO _ _ rfl rfl rfl rfl ?_) | (refine x_nil (hK _ _ (.inl rfl) ?_); clear hK K) | (refine x_nil (hK _ _ (.inr (by kernel_rfl)) ?_); clear hK K))
      | (refine g_code ?_; first | (refine v_seq ?_) | (refine v_region (fun K hK => ?_)) | (refine v_block ?_) | (refine v_skip ?_) | (refine v_ret ?_) | (refine v_exit ?_))
      | (refine q_then ?_) | (refine q_then_r ?_) | (refine q_then_e ?_) | (refine q_blk_n ?_) | (refine q_blk_r ?_) | (refine q_blk_e ?_) | (refine q_blk_o rfl ?_) | (refine q_loop_r ?_) | (refine q_loop_e ?_) | (refine ret_n ?_))
  all_goals ((refine ret_bool rfl (lookE_ok rfl) ?_; rw [Bool.eq_iff_iff]; try simp only [sx] at *); unfold GoodB; constructor <;> intro hq <;> first | contradiction | (exact ⟨by assumption, by assumption, by omega⟩) | (exact absurd hq.1 aA) | (exact absurd hq.2.1 aA) | (have := hq.2.2; omega))
theorem k_isSet (t : Terrain) (xs : List Int) (hn : t.burn.length ≤ 1099511627776) (hm : xs.length ≤ 1099511627776) : Con Try.prog 67 [.agg t.pv, .list 1 (ints xs)] (.bool (decide ((∀ s ∈ xs, IsCell t s) ∧ Rising xs))) := by
  intro al
  refine contract_of hmix Try.func67 rfl (by kernel_rfl) (by kernel_rfl) (Nat.le_of_ble_eq_true rfl) (fun row h => by cases h) ?_
  have hty_u22 := ty_u22
  have hty_s22 := ty_s22
  have hty_a29 := ty_a29
  have hall : (xs.all fun c => decide (0 ≤ c ∧ c < t.burn.length)) = true ↔ ∀ s ∈ xs, IsCell t s := by simp [IsCell]
  repeat' (first
      | (refine g_exec ?_; first | (refine g_move ?_; refine x_moveO _ rfl ?_) | (refine g_assign ?_; refine x_assignO _ rfl ?_) | (refine g_load ?_; first | (refine x_load_pc aA rfl ?_) | (refine x_load_oc _ aA rfl rfl aE rfl ?_) | (refine x_load_pa _ aA rfl aZ aL ?_) | (refine x_load_oa _ aA rfl rfl aE aZ aL ?_)) | (refine g_pick ?_; first | (refine x_pick_b rfl aD rfl ?_) | (refine x_pick_c rfl aD ?_) | (refine x_pick_a rfl aD ?_) | (refine x_pick_d rfl aD rfl ?_)) | (refine g_guard ?_; first | (refine x_gyes rfl rfl aD ?_) | (refine x_gno rfl rfl aD ?_) | (refine x_gun rfl rfl ?_) | (refine x_gsplit rfl rfl (fun h => ?_) (fun h => ?_) <;> (have h' := h; (try simp only [sx] at h')))) | (refine g_call ?_; first | (refine x_callG true (k_isRising xs hm) rfl rfl rfl aS rfl aH ?_; simp only [cl]) | (refine x_callG true (k_allIntT xs 52 t (fun c => decide (0 ≤ c ∧ c < t.burn.length)) (fun c _ => k_isCell t c hn) hm) rfl rfl rfl aS rfl aH ?_; simp only [cl])) | (refine x_boxO _ _ rfl rfl rfl rfl ?_) | (refine x_mkfn _ _ rfl rfl ?_) | (refine x_nil (hK _ _ (.inl rfl) ?_); clear hK K) | (refine x_nil (hK _ _ (.inr (by kernel_rfl)) ?_); clear hK K))
      | (refine g_code ?_; first | (refine v_seq ?_) | (refine v_region (fun K hK => ?_)) | (refine v_block ?_) | (refine v_skip ?_) | (refine v_ret ?_) | (refine v_exit ?_))
      | (refine q_then ?_) | (refine q_then_r ?_) | (refine q_then_e ?_) | (refine q_blk_n ?_) | (refine q_blk_r ?_) | (refine q_blk_e ?_) | (refine q_blk_o rfl ?_) | (refine q_loop_r ?_) | (refine q_loop_e ?_) | (refine ret_n ?_))
  all_goals
    (refine ret_bool rfl (lookE_ok rfl) ?_; rw [Bool.eq_iff_iff]; try simp only [sx] at *)
    first
      | (constructor
         · intro hq; exact ⟨hall.1 hq, by assumption⟩
         · intro hq; exact hall.2 hq.1)
      | (constructor <;> intro hq <;> first | contradiction | (exact absurd hq.2 aA))
theorem k_isFire (b : Blz) (z : SzB b) : Con Try.prog 66 [.agg b.t.pv, .list 2 (b.ps.map Phase.pv), .list 1 (ints b.src), .int .i64 b.st] (.bool (decide (GoodB b))) := by
  intro al
  refine contract_of hmix Try.func66 rfl (by kernel_rfl) (by kernel_rfl) (Nat.le_of_ble_eq_true rfl) (fun row h => by cases h) ?_
  have hty_a29 := ty_a29
  have hty_u44 := ty_u44
  have hty_s44 := ty_s44
  have hty_u22 := ty_u22
  have hty_s22 := ty_s22
  repeat' (first
      | (refine g_exec ?_; first | (refine g_move ?_; refine x_moveO _ rfl ?_) | (refine g_assign ?_; refine x_assignO _ rfl ?_) | (refine g_load ?_; first | (refine x_load_pc aA rfl ?_) | (refine x_load_oc _ aA rfl rfl aE rfl ?_) | (refine x_load_pa _ aA rfl aZ aL ?_) | (refine x_load_oa _ aA rfl rfl aE aZ aL ?_)) | (refine g_pick ?_; first | (refine x_pick_b rfl aD rfl ?_) | (refine x_pick_c rfl aD ?_) | (refine x_pick_a rfl aD ?_) | (refine x_pick_d rfl aD rfl ?_)) | (refine g_guard ?_; first | (refine x_gyes rfl rfl aD ?_) | (refine x_gno rfl rfl aD ?_) | (refine x_gun rfl rfl ?_) | (refine x_gsplit rfl rfl (fun h => ?_) (fun h => ?_) <;> (have h' := h; (try simp only [sx] at h')))) | (refine g_call ?_; first | (refine x_callG true (k_IsTerrain b.t z.hn) rfl rfl rfl aS rfl aH ?_; simp only [cl]) | (refine x_callG true (k_ArePhases b.ps z.hp) rfl rfl rfl aS rfl aH ?_; simp only [cl]) | (refine x_callG true (k_isSet b.t b.src z.hn z.hs) rfl rfl rfl aS rfl aH ?_; simp only [cl]) | (refine x_callG true (k_in _ _ _) rfl rfl rfl aS rfl aH ?_; simp only [cl])) | (refine x_boxO _ _ rfl rfl rfl rfl ?_) | (refine x_nil (hK _ _ (.inl rfl) ?_); clear hK K) | (refine x_nil (hK _ _ (.inr (by kernel_rfl)) ?_); clear hK K))
      | (refine g_code ?_; first | (refine v_seq ?_) | (refine v_region (fun K hK => ?_)) | (refine v_block ?_) | (refine v_skip ?_) | (refine v_ret ?_) | (refine v_exit ?_))
      | (refine q_then ?_) | (refine q_then_r ?_) | (refine q_then_e ?_) | (refine q_blk_n ?_) | (refine q_blk_r ?_) | (refine q_blk_e ?_) | (refine q_blk_o rfl ?_) | (refine q_loop_r ?_) | (refine q_loop_e ?_) | (refine ret_n ?_))
  all_goals
    (refine ret_bool rfl (lookE_ok rfl) ?_; rw [Bool.eq_iff_iff]; try simp only [sx] at *)
    unfold GoodB
    constructor
    · intro hq
      first
        | contradiction
        | (have hS : (∀ s ∈ b.src, IsCell b.t s) ∧ Rising b.src := by assumption
           exact ⟨⟨by assumption, hS.1, hS.2⟩, by assumption, by omega⟩)
    · intro hq
      first
        | (exact absurd hq.1.1 aA)
        | (exact absurd hq.2.1 aA)
        | (exact absurd (show (∀ s ∈ b.src, IsCell b.t s) ∧ Rising b.src from ⟨hq.1.2.1, hq.1.2.2⟩) aA)
        | (have := hq.2.2; omega)
end
end Go.Vs
