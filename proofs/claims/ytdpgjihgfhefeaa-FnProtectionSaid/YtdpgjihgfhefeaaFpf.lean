/- PROVED: the given statement FnProtection: whatever the arguments, the law returns true and the arguments read as they did; no condition. -/
import Derived.Test.YtdpgjihgfhefeaaFpe
import Derived.WalkKit
import Derived.Orders
import Derived.Laws.MakeOwn
import Derived.KernelRfl
import Derived.Test.YtdpgjihgfhefeaaRows
import Derived.Laws.Strings
import Derived.Below
import Derived.ChangeArms
import Derived.Deep.Slices
import Derived.ProofKit
import Derived.OpenShut
import Derived.ShutString
import Derived.ChangeOld
set_option linter.unusedVariables false
set_option linter.unusedSimpArgs false
set_option maxRecDepth 100000
set_option maxHeartbeats 4000000
namespace Go.Vs
open Go.Proofs
attribute [local irreducible] exec vwp thenQ blkQ loopQ RetPost
@[reducible] def chRes (xs : List Asset) (ys : List Scene) (n : Int) : PV := .tuple [.int .i64 (fr1 (decide (ChOk xs ys n)) (sumBy (wIf (bIn n)) ys) (sumBy wt ys)), .int .i64 (fr2 (decide (ChOk xs ys n)) (sumBy (wIf (bIn n)) ys) (sumBy wt ys)), .bool (decide (ChOk xs ys n))]
theorem ch_le {xs : List Asset} {ys : List Scene} (n : Int) : ∃ (p q : Int) (b : Bool), chRes xs ys n = .tuple [.int .i64 p, .int .i64 q, .bool b] ∧ p ≤ q := by
  by_cases h : ChOk xs ys n
  · exact ⟨_, _, _, rfl, fr_le ⟨(wIf_all h.1.wt _).1, wIf_le h.1.wt _⟩ _⟩
  · refine ⟨_, _, _, rfl, ?_⟩
    have e := decide_eq_false h
    simp only [fr1, fr2, e]
    simp
theorem ch_safe {xs : List Asset} {ys : List Scene} (hA : AskA xs ys) {a : Asset} (ha : a ∈ xs) : ∃ (p q : Int), chRes xs ys a.id = .tuple [.int .i64 p, .int .i64 q, .bool true] ∧ (p = 0 → a.name ∈ saL xs ys) := by
  have hok : ChOk xs ys a.id := ⟨hA, fnd_in ha⟩
  refine ⟨_, _, by rw [chRes, decide_eq_true hok], fun h => ?_⟩
  have b3 := wt_pos hA.wt hA.2.2.1
  have h2 := (frac (p := sumBy (wIf (bIn a.id)) ys) (q := sumBy wt ys) aO).2.1
  simp only [fr1, if_true] at h
  rw [h, Int.zero_mul] at h2
  rw [saL, if_pos hA, List.mem_map]
  exact ⟨a, List.mem_filter.2 ⟨ha, decide_eq_true h2.symm⟩, rfl⟩
theorem ch_zero {xs : List Asset} {ys : List Scene} {n : Int} (h : ChOk xs ys n) : ∃ q : Int, chRes xs (prL xs ys n) n = .tuple [.int .i64 0, .int .i64 q, .bool true] := by
  have hok : ChOk xs (prL xs ys n) n := by rw [prL, if_pos h]; exact ⟨pr_ask n h.1, h.2⟩
  refine ⟨fr2 true 0 (sumBy wt (ys.map (prS n))), ?_⟩
  rw [chRes, decide_eq_true hok, prL, if_pos h, pr_burn]
  simp only [fr1, if_true, Int.zero_ediv]
theorem k_iChR (xs : List Asset) (ys : List Scene) (n : Int) (z : Sz xs ys) : Con Try.prog 16 [.list 4 (xs.map Asset.pv), .list 2 (ys.map Scene.pv), .int .i64 n] (chRes xs ys n) := k_iChance xs ys n z
theorem k_sChR (xs : List Asset) (ys : List Scene) (n : Int) (z : Sz xs ys) : Con Try.prog 56 [.list 4 (xs.map Asset.pv), .list 2 (ys.map Scene.pv), .int .i64 n] (chRes xs ys n) := k_sChance xs ys n z
theorem prL_sz {xs : List Asset} {ys : List Scene} (n : Int) (z : Sz xs ys) : Sz xs (prL xs ys n) := by
  unfold prL
  split
  · exact pr_szv n z
  · exact ⟨z.hn, z.hs, by simp, by simp⟩
theorem bp_true {xs : List Asset} {ys : List Scene} (h : BpOk xs ys) : ∃ a b c d num den : Int,
    elRes xs ys = .tuple [.int .i64 a, .int .i64 b, .bool true] ∧ elRes xs (prL xs ys (bpA xs ys).id) = .tuple [.int .i64 c, .int .i64 d, .bool true] ∧ bpRes xs ys = .tuple [.int .i64 (bpA xs ys).id, .int .i64 num, .int .i64 den, .bool true] ∧
    IntKind.i64.wrap (IntKind.i64.wrap (IntKind.i64.wrap (a * d) - IntKind.i64.wrap (c * b)) * den) = IntKind.i64.wrap (IntKind.i64.wrap (num * b) * d) := by
  have hin := bp_in ys h.2
  have hch : ChOk xs ys (bpA xs ys).id := ⟨h.1, fnd_in hin⟩
  have hask := pr_ask (bpA xs ys).id h.1
  refine ⟨_, _, _, _, _, _, by rw [elRes, decide_eq_true h.1], by rw [prL, if_pos hch, elRes, decide_eq_true hask], by rw [bpRes, decide_eq_true h, if_pos rfl], ?_⟩
  rw [wrap_subW, wrap_mulL, wrap_mulL]
  congr 1
  have b3 := wt_pos h.1.wt h.1.2.2.1
  rw [pr_wt]
  simp only [fr1, fr2, if_true]
  exact prot_eq aO (pr_exp h.1.2.1 hin)
theorem law_FnProtection (code : List Int) (g : code.length ≤ 9223372036854775807) (hb : ∀ b ∈ code, 0 ≤ b ∧ b ≤ 255) : Con Try.prog 8 [.list 1 (bytesP code)] (.bool true) := by
  intro al
  refine contract_of hmix Try.func8 rfl (by kernel_rfl) (by kernel_rfl) (Nat.le_of_ble_eq_true rfl) (fun row h => by cases h) ?_
  have hty_u22 := ty_u22
  have hty_s22 := ty_s22
  have hty_u24 := ty_u24
  have hty_s24 := ty_s24
  have hty_u25 := ty_u25
  have hty_s25 := ty_s25
  have hty_u4 := ty_u4
  have hty_u33 := ty_u33
  have hty_s33 := ty_s33
  have hty_c3 := ty_c3
  have hty_u64 := ty_u64
  have hty_s64 := ty_s64
  have hty_f38_0 := ty_f38_0
  have hty_f38_1 := ty_f38_1
  have hty_c9 := ty_c9
  have hty_u9 := ty_u9
  have kb := k_rBig code g
  by_cases hbig : 65536 < code.length
  · rw [decide_eq_true hbig] at kb
    repeat' (first
      | (refine g_exec ?_; first | (refine g_move ?_; refine x_moveO _ rfl ?_) | (refine g_assign ?_; refine x_assignO _ rfl ?_) | (refine g_bin ?_; first | (refine x_add rfl rfl aO ?_) | (refine x_sub rfl rfl aO ?_) | (refine x_mul rfl rfl aO ?_) | (refine x_bin _ rfl rfl rfl ?_) | (refine x_boolEq aA rfl rfl ?_) | (refine x_boolNe aA rfl rfl ?_) | (refine x_strBin _ rfl rfl rfl ?_)) | (refine g_un ?_; first | (refine x_not rfl ?_) | (refine x_neg rfl aO ?_)) | (refine g_load ?_; first | (refine x_load_pc aA rfl ?_) | (refine x_load_oc _ aA rfl rfl aE rfl ?_) | (refine x_load_pa _ aA rfl aZ aL ?_) | (refine x_load_oa _ aA rfl rfl aE aZ aL ?_)) | (refine g_field ?_; first | (refine x_field_p _ aA rfl aL ?_) | (refine x_field_o _ aA rfl rfl (by simp only [lx, Nat.reduceAdd]; first | done | rfl) ?_)) | (refine g_index ?_; first | (refine x_index_l _ aA rfl rfl aO aA ?_) | (refine x_index_o _ aA rfl rfl rfl rfl aO aO (by first | (rw [Nat.zero_add, Int.toNat_natCast]) | (rw [Nat.zero_add]) | rfl) ?_)) | (refine g_pick ?_; first | (refine x_pick_b rfl aD rfl ?_) | (refine x_pick_c rfl aD ?_) | (refine x_pick_a rfl aD ?_) | (refine x_pick_d rfl aD rfl ?_)) | (refine g_guard ?_; first | (refine x_gyes rfl rfl aD ?_) | (refine x_gno rfl rfl aD ?_) | (refine x_gun rfl rfl ?_) | (refine x_gsplit rfl rfl (fun h => ?_) (fun h => ?_) <;> (have h' := h; (try simp only [sx] at h')))) | (refine g_call ?_; first | (refine x_callG true (kb) rfl rfl rfl aS rfl aH ?_; simp only [cl]) | (refine x_len_l aA rfl ?_) | (refine x_len_o aA rfl rfl ?_) | (refine x_len_n aA rfl ?_) | (refine x_len_s aA (evO_ok rfl) ?_)) | (refine x_extract _ rfl rfl ?_) | (refine x_nil (hK _ _ (.inl rfl) ?_); clear hK K) | (refine x_nil (hK _ _ (.inr (by kernel_rfl)) ?_); clear hK K))
      | (refine g_code ?_; first | (refine v_seq ?_) | (refine v_region (fun K hK => ?_)) | (refine v_block ?_) | (refine v_skip ?_) | (refine v_ret ?_) | (refine v_exit ?_) | (refine g_cond ?_; first | (refine v_cond_y rfl aD ?_) | (refine v_cond_n rfl aD ?_) | (refine v_condt rfl (fun h => ?_) (fun h => ?_) <;> (have h' := h; (try simp only [sx] at h')))))
      | (refine q_then ?_) | (refine q_then_r ?_) | (refine q_then_e ?_) | (refine q_blk_n ?_) | (refine q_blk_r ?_) | (refine q_blk_e ?_) | (refine q_blk_o rfl ?_) | (refine q_loop_r ?_) | (refine q_loop_e ?_) | (refine ret_n ?_))
    exact ret_bool rfl (lookE_ok rfl) rfl
  · rw [decide_eq_false hbig] at kb
    have hz : CodeOk code := ⟨by omega, hb⟩
    repeat' (first
      | (refine g_exec ?_; first | (refine g_move ?_; refine x_moveO _ rfl ?_) | (refine g_assign ?_; refine x_assignO _ rfl ?_) | (refine g_bin ?_; first | (refine x_add rfl rfl aO ?_) | (refine x_sub rfl rfl aO ?_) | (refine x_mul rfl rfl aO ?_) | (refine x_bin _ rfl rfl rfl ?_) | (refine x_boolEq aA rfl rfl ?_) | (refine x_boolNe aA rfl rfl ?_) | (refine x_strBin _ rfl rfl rfl ?_)) | (refine g_un ?_; first | (refine x_not rfl ?_) | (refine x_neg rfl aO ?_)) | (refine g_load ?_; first | (refine x_load_pc aA rfl ?_) | (refine x_load_oc _ aA rfl rfl aE rfl ?_) | (refine x_load_pa _ aA rfl aZ aL ?_) | (refine x_load_oa _ aA rfl rfl aE aZ aL ?_)) | (refine g_field ?_; first | (refine x_field_p _ aA rfl aL ?_) | (refine x_field_o _ aA rfl rfl (by simp only [lx, Nat.reduceAdd]; first | done | rfl) ?_)) | (refine g_index ?_; first | (refine x_index_l _ aA rfl rfl aO aA ?_) | (refine x_index_o _ aA rfl rfl rfl rfl aO aO (by first | (rw [Nat.zero_add, Int.toNat_natCast]) | (rw [Nat.zero_add]) | rfl) ?_)) | (refine g_pick ?_; first | (refine x_pick_b rfl aD rfl ?_) | (refine x_pick_c rfl aD ?_) | (refine x_pick_a rfl aD ?_) | (refine x_pick_d rfl aD rfl ?_)) | (refine g_guard ?_; first | (refine x_gyes rfl rfl aD ?_) | (refine x_gno rfl rfl aD ?_) | (refine x_gun rfl rfl ?_) | (refine x_gsplit rfl rfl (fun h => ?_) (fun h => ?_) <;> (have h' := h; (try simp only [sx] at h')))) | (refine g_call ?_; first | (refine x_callG true (kb) rfl rfl rfl aS rfl aH ?_; simp only [cl]) | (refine x_callLP [] (k_DrawProtectAsset code hz) rfl rfl (by (repeat' (first | exact trivial | refine ⟨⟨_, rfl, ?_⟩, ?_⟩ | exact .inl ⟨rfl, .inl rfl⟩ | exact .inr ⟨rfl, rfl, rfl, rfl, rfl, fun e he u hu => by (simp only [List.mem_cons, List.not_mem_nil, or_false] at he; subst he; simp only [List.mem_cons, List.not_mem_nil, or_false] at hu; subst hu; rfl)⟩ | exact .inl ⟨rfl, .inr (fun e he => by (simp only [List.mem_cons, List.not_mem_nil, or_false] at he; subst he; rfl))⟩ | fail)); first | done | fail) rfl rfl aS rfl (fun r_ fin_ hP_ => ?_); obtain ⟨xs, ys, n, ⟨rfl, rfl⟩, hx, hy⟩ := hP_; refine ⟨_, _, _, aH, rfl, ?_⟩; simp only [cl]) | (refine x_len_l aA rfl ?_) | (refine x_len_o aA rfl rfl ?_) | (refine x_len_n aA rfl ?_) | (refine x_len_s aA (evO_ok rfl) ?_)) | (refine x_extract _ rfl rfl ?_) | (refine x_nil (hK _ _ (.inl rfl) ?_); clear hK K) | (refine x_nil (hK _ _ (.inr (by kernel_rfl)) ?_); clear hK K))
      | (refine g_code ?_; first | (refine v_seq ?_) | (refine v_region (fun K hK => ?_)) | (refine v_block ?_) | (refine v_skip ?_) | (refine v_ret ?_) | (refine v_exit ?_) | (refine g_cond ?_; first | (refine v_cond_y rfl aD ?_) | (refine v_cond_n rfl aD ?_) | (refine v_condt rfl (fun h => ?_) (fun h => ?_) <;> (have h' := h; (try simp only [sx] at h')))))
      | (refine q_then ?_) | (refine q_then_r ?_) | (refine q_then_e ?_) | (refine q_blk_n ?_) | (refine q_blk_r ?_) | (refine q_blk_e ?_) | (refine q_blk_o rfl ?_) | (refine q_loop_r ?_) | (refine q_loop_e ?_) | (refine ret_n ?_))
    have z := risk_sz hx hy
    have kP1 := k_iProtect xs ys n z
    have kP2 := k_sProtect xs ys n z
    have zp := prL_sz n z
    have kR := k_rScenesS (prL xs ys n) zp.hm zp.hb
    have kC := k_iChR xs (prL xs ys n) n zp
    have hlen : ChOk xs ys n → (prL xs ys n).length = ys.length := fun h => by rw [prL, if_pos h]; simp
    have hl1 : ((prL xs ys n).map Scene.pv).length = (prL xs ys n).length := by simp
    have hl2 : (ys.map Scene.pv).length = ys.length := by simp
    by_cases hok : ChOk xs ys n
    case' pos =>
      have hlen := hlen hok
      obtain ⟨q, eC⟩ := ch_zero hok
      rw [eC] at kC
      rw [decide_eq_true hok] at kP1 kP2
      generalize prL xs ys n = ws at *
      repeat' (first
      | (refine g_exec ?_; first | (refine g_move ?_; refine x_moveO _ rfl ?_) | (refine g_assign ?_; refine x_assignO _ rfl ?_) | (refine g_bin ?_; first | (refine x_add rfl rfl aO ?_) | (refine x_sub rfl rfl aO ?_) | (refine x_mul rfl rfl aO ?_) | (refine x_bin _ rfl rfl rfl ?_) | (refine x_boolEq aA rfl rfl ?_) | (refine x_boolNe aA rfl rfl ?_) | (refine x_strBin _ rfl rfl rfl ?_)) | (refine g_un ?_; first | (refine x_not rfl ?_) | (refine x_neg rfl aO ?_)) | (refine g_load ?_; first | (refine x_load_pc aA rfl ?_) | (refine x_load_oc _ aA rfl rfl aE rfl ?_) | (refine x_load_pa _ aA rfl aZ aL ?_) | (refine x_load_oa _ aA rfl rfl aE aZ aL ?_)) | (refine g_field ?_; first | (refine x_field_p _ aA rfl aL ?_) | (refine x_field_o _ aA rfl rfl (by simp only [lx, Nat.reduceAdd]; first | done | rfl) ?_)) | (refine g_index ?_; first | (refine x_index_l _ aA rfl rfl aO aA ?_) | (refine x_index_o _ aA rfl rfl rfl rfl aO aO (by first | (rw [Nat.zero_add, Int.toNat_natCast]) | (rw [Nat.zero_add]) | rfl) ?_)) | (refine g_pick ?_; first | (refine x_pick_b rfl aD rfl ?_) | (refine x_pick_c rfl aD ?_) | (refine x_pick_a rfl aD ?_) | (refine x_pick_d rfl aD rfl ?_)) | (refine g_guard ?_; first | (refine x_gyes rfl rfl aD ?_) | (refine x_gno rfl rfl aD ?_) | (refine x_gun rfl rfl ?_) | (refine x_gsplit rfl rfl (fun h => ?_) (fun h => ?_) <;> (have h' := h; (try simp only [sx] at h')))) | (refine g_call ?_; first | (refine x_callA true (kP1) rfl rfl rfl rfl rfl aS rfl aH ?_; simp only [cl]) | (refine x_callA true (kP2) rfl rfl rfl rfl rfl aS rfl aH ?_; simp only [cl]) | (refine x_callG true (kR) rfl rfl rfl aS rfl aH ?_; simp only [cl]) | (refine x_callG true (kC) rfl rfl rfl aS rfl aH ?_; simp only [cl]) | (refine x_len_l aA rfl ?_) | (refine x_len_o aA rfl rfl ?_) | (refine x_len_n aA rfl ?_) | (refine x_len_s aA (evO_ok rfl) ?_)) | (refine x_extract _ rfl rfl ?_) | (refine x_nil (hK _ _ (.inl rfl) ?_); clear hK K) | (refine x_nil (hK _ _ (.inr (by kernel_rfl)) ?_); clear hK K))
      | (refine g_code ?_; first | (refine v_seq ?_) | (refine v_region (fun K hK => ?_)) | (refine v_block ?_) | (refine v_skip ?_) | (refine v_ret ?_) | (refine v_exit ?_) | (refine g_cond ?_; first | (refine v_cond_y rfl aD ?_) | (refine v_cond_n rfl aD ?_) | (refine v_condt rfl (fun h => ?_) (fun h => ?_) <;> (have h' := h; (try simp only [sx] at h')))))
      | (refine q_then ?_) | (refine q_then_r ?_) | (refine q_then_e ?_) | (refine q_blk_n ?_) | (refine q_blk_r ?_) | (refine q_blk_e ?_) | (refine q_blk_o rfl ?_) | (refine q_loop_r ?_) | (refine q_loop_e ?_) | (refine ret_n ?_))
      all_goals try (exfalso; omega)
    case' neg =>
      rw [decide_eq_false hok] at kP1 kP2
      generalize prL xs ys n = ws at *
      repeat' (first
      | (refine g_exec ?_; first | (refine g_move ?_; refine x_moveO _ rfl ?_) | (refine g_assign ?_; refine x_assignO _ rfl ?_) | (refine g_bin ?_; first | (refine x_add rfl rfl aO ?_) | (refine x_sub rfl rfl aO ?_) | (refine x_mul rfl rfl aO ?_) | (refine x_bin _ rfl rfl rfl ?_) | (refine x_boolEq aA rfl rfl ?_) | (refine x_boolNe aA rfl rfl ?_) | (refine x_strBin _ rfl rfl rfl ?_)) | (refine g_un ?_; first | (refine x_not rfl ?_) | (refine x_neg rfl aO ?_)) | (refine g_load ?_; first | (refine x_load_pc aA rfl ?_) | (refine x_load_oc _ aA rfl rfl aE rfl ?_) | (refine x_load_pa _ aA rfl aZ aL ?_) | (refine x_load_oa _ aA rfl rfl aE aZ aL ?_)) | (refine g_field ?_; first | (refine x_field_p _ aA rfl aL ?_) | (refine x_field_o _ aA rfl rfl (by simp only [lx, Nat.reduceAdd]; first | done | rfl) ?_)) | (refine g_index ?_; first | (refine x_index_l _ aA rfl rfl aO aA ?_) | (refine x_index_o _ aA rfl rfl rfl rfl aO aO (by first | (rw [Nat.zero_add, Int.toNat_natCast]) | (rw [Nat.zero_add]) | rfl) ?_)) | (refine g_pick ?_; first | (refine x_pick_b rfl aD rfl ?_) | (refine x_pick_c rfl aD ?_) | (refine x_pick_a rfl aD ?_) | (refine x_pick_d rfl aD rfl ?_)) | (refine g_guard ?_; first | (refine x_gyes rfl rfl aD ?_) | (refine x_gno rfl rfl aD ?_) | (refine x_gun rfl rfl ?_) | (refine x_gsplit rfl rfl (fun h => ?_) (fun h => ?_) <;> (have h' := h; (try simp only [sx] at h')))) | (refine g_call ?_; first | (refine x_callA true (kP1) rfl rfl rfl rfl rfl aS rfl aH ?_; simp only [cl]) | (refine x_callA true (kP2) rfl rfl rfl rfl rfl aS rfl aH ?_; simp only [cl]) | (refine x_callG true (kR) rfl rfl rfl aS rfl aH ?_; simp only [cl]) | (refine x_len_l aA rfl ?_) | (refine x_len_o aA rfl rfl ?_) | (refine x_len_n aA rfl ?_) | (refine x_len_s aA (evO_ok rfl) ?_)) | (refine x_extract _ rfl rfl ?_) | (refine x_nil (hK _ _ (.inl rfl) ?_); clear hK K) | (refine x_nil (hK _ _ (.inr (by kernel_rfl)) ?_); clear hK K))
      | (refine g_code ?_; first | (refine v_seq ?_) | (refine v_region (fun K hK => ?_)) | (refine v_block ?_) | (refine v_skip ?_) | (refine v_ret ?_) | (refine v_exit ?_) | (refine g_cond ?_; first | (refine v_cond_y rfl aD ?_) | (refine v_cond_n rfl aD ?_) | (refine v_condt rfl (fun h => ?_) (fun h => ?_) <;> (have h' := h; (try simp only [sx] at h')))))
      | (refine q_then ?_) | (refine q_then_r ?_) | (refine q_then_e ?_) | (refine q_blk_n ?_) | (refine q_blk_r ?_) | (refine q_blk_e ?_) | (refine q_blk_o rfl ?_) | (refine q_loop_r ?_) | (refine q_loop_e ?_) | (refine ret_n ?_))
      all_goals try (exfalso; omega)
    all_goals
      repeat' (first
      | (refine g_exec ?_; first | (refine g_move ?_; refine x_moveO _ rfl ?_) | (refine g_assign ?_; refine x_assignO _ rfl ?_) | (refine g_bin ?_; first | (refine x_add rfl rfl aO ?_) | (refine x_sub rfl rfl aO ?_) | (refine x_mul rfl rfl aO ?_) | (refine x_bin _ rfl rfl rfl ?_) | (refine x_boolEq aA rfl rfl ?_) | (refine x_boolNe aA rfl rfl ?_) | (refine x_strBin _ rfl rfl rfl ?_)) | (refine g_un ?_; first | (refine x_not rfl ?_) | (refine x_neg rfl aO ?_)) | (refine g_load ?_; first | (refine x_load_pc aA rfl ?_) | (refine x_load_oc _ aA rfl rfl aE rfl ?_) | (refine x_load_pa _ aA rfl aZ aL ?_) | (refine x_load_oa _ aA rfl rfl aE aZ aL ?_)) | (refine g_field ?_; first | (refine x_field_p _ aA rfl aL ?_) | (refine x_field_o _ aA rfl rfl (by simp only [lx, Nat.reduceAdd]; first | done | rfl) ?_)) | (refine g_index ?_; first | (refine x_index_l _ aA rfl rfl aO aA ?_) | (refine x_index_o _ aA rfl rfl rfl rfl aO aO (by first | (rw [Nat.zero_add, Int.toNat_natCast]) | (rw [Nat.zero_add]) | rfl) ?_)) | (refine g_pick ?_; first | (refine x_pick_b rfl aD rfl ?_) | (refine x_pick_c rfl aD ?_) | (refine x_pick_a rfl aD ?_) | (refine x_pick_d rfl aD rfl ?_)) | (refine g_guard ?_; first | (refine x_gyes rfl rfl aD ?_) | (refine x_gno rfl rfl aD ?_) | (refine x_gun rfl rfl ?_) | (refine x_gsplit rfl rfl (fun h => ?_) (fun h => ?_) <;> (have h' := h; (try simp only [sx] at h')))) | (refine g_call ?_; first | (refine x_callLP [] (k_DrawBestProtection code hz) rfl rfl (by (repeat' (first | exact trivial | refine ⟨⟨_, rfl, ?_⟩, ?_⟩ | exact .inl ⟨rfl, .inl rfl⟩ | exact .inr ⟨rfl, rfl, rfl, rfl, rfl, fun e he u hu => by (simp only [List.mem_cons, List.not_mem_nil, or_false] at he; subst he; simp only [List.mem_cons, List.not_mem_nil, or_false] at hu; subst hu; rfl)⟩ | exact .inl ⟨rfl, .inr (fun e he => by (simp only [List.mem_cons, List.not_mem_nil, or_false] at he; subst he; rfl))⟩ | fail)); first | done | fail) rfl rfl aS rfl (fun r_ fin_ hP_ => ?_); obtain ⟨us, ss, ⟨rfl, rfl⟩, hx2, hy2⟩ := hP_; refine ⟨_, _, _, aH, rfl, ?_⟩; simp only [cl]) | (refine x_len_l aA rfl ?_) | (refine x_len_o aA rfl rfl ?_) | (refine x_len_n aA rfl ?_) | (refine x_len_s aA (evO_ok rfl) ?_)) | (refine x_extract _ rfl rfl ?_) | (refine x_nil (hK _ _ (.inl rfl) ?_); clear hK K) | (refine x_nil (hK _ _ (.inr (by kernel_rfl)) ?_); clear hK K))
      | (refine g_code ?_; first | (refine v_seq ?_) | (refine v_region (fun K hK => ?_)) | (refine v_block ?_) | (refine v_skip ?_) | (refine v_ret ?_) | (refine v_exit ?_) | (refine g_cond ?_; first | (refine v_cond_y rfl aD ?_) | (refine v_cond_n rfl aD ?_) | (refine v_condt rfl (fun h => ?_) (fun h => ?_) <;> (have h' := h; (try simp only [sx] at h')))))
      | (refine q_then ?_) | (refine q_then_r ?_) | (refine q_then_e ?_) | (refine q_blk_n ?_) | (refine q_blk_r ?_) | (refine q_blk_e ?_) | (refine q_blk_o rfl ?_) | (refine q_loop_r ?_) | (refine q_loop_e ?_) | (refine ret_n ?_))
      have z2 := risk_sz hx2 hy2
      have kB1 := k_iBestP us ss z2
      have kB2 := k_sBestP us ss z2
      have kR1 := (Con.a (k_iRank us ss z2)).frz rfl
      have kR2 := k_sRank us ss z2
      have kS1 := (Con.a (k_iSafeA us ss z2)).frz rfl
      have kS2 := (Con.a (k_sSafeA us ss z2)).frz rfl
      have kRI := k_rIntsS (rkL us ss) (by have := rkL_len us ss; have := z2.hn; omega)
      have kST := k_rTextsS (saL us ss) (by have := saL_len us ss; have := z2.hn; omega)
      have hl3 : (us.map Asset.pv).length = us.length := by simp
      have hl4 : (ints (rkL us ss)).length = (rkL us ss).length := by simp
      simp only [frz, frz2, List.map_cons, List.map_nil] at kR1 kS1 kS2
      by_cases hA : AskA us ss
      case' pos =>
        rw [decide_eq_true hA] at kR1 kR2 kS1 kS2
        have hl5 : (rkL us ss).length = us.length := by rw [rkL, if_pos hA]; simp [srtR_len]
        by_cases hbp : BpOk us ss
        case' pos =>
          have hin := bp_in ss hbp.2
          have hch : ChOk us ss (bpA us ss).id := ⟨hA, fnd_in hin⟩
          obtain ⟨a, b, c, d, num, den, e1, e2, e3, e4⟩ := bp_true hbp
          have kE1 := k_iExpected us ss z2
          have kE2 := k_iExpected us (prL us ss (bpA us ss).id) (prL_sz _ z2)
          have kPr := k_iProtect us ss (bpA us ss).id z2
          rw [decide_eq_true hch] at kPr
          rw [e1] at kE1
          rw [e2] at kE2
          rw [e3] at kB1 kB2
          have hh := ints_at (rk_head hbp)
          generalize prL us ss (bpA us ss).id = ps at *
          generalize (bpA us ss).id = bid at *
          repeat' (first
      | (refine g_exec ?_; first | (refine g_move ?_; refine x_moveO _ rfl ?_) | (refine g_assign ?_; refine x_assignO _ rfl ?_) | (refine g_bin ?_; first | (refine x_add rfl rfl aO ?_) | (refine x_sub rfl rfl aO ?_) | (refine x_mul rfl rfl aO ?_) | (refine x_bin _ rfl rfl rfl ?_) | (refine x_boolEq aA rfl rfl ?_) | (refine x_boolNe aA rfl rfl ?_) | (refine x_strBin _ rfl rfl rfl ?_)) | (refine g_un ?_; first | (refine x_not rfl ?_) | (refine x_neg rfl aO ?_)) | (refine g_load ?_; first | (refine x_load_pc aA rfl ?_) | (refine x_load_oc _ aA rfl rfl aE rfl ?_) | (refine x_load_pa _ aA rfl aZ aL ?_) | (refine x_load_oa _ aA rfl rfl aE aZ aL ?_)) | (refine g_field ?_; first | (refine x_field_p _ aA rfl aL ?_) | (refine x_field_o _ aA rfl rfl (by simp only [lx, Nat.reduceAdd]; first | done | rfl) ?_)) | (refine g_index ?_; first | (refine x_index_l _ aA rfl rfl aO aA ?_) | (refine x_index_o _ aA rfl rfl rfl rfl aO aO (by first | (rw [Nat.zero_add, Int.toNat_natCast]) | (rw [Nat.zero_add]) | rfl) ?_)) | (refine g_pick ?_; first | (refine x_pick_b rfl aD rfl ?_) | (refine x_pick_c rfl aD ?_) | (refine x_pick_a rfl aD ?_) | (refine x_pick_d rfl aD rfl ?_)) | (refine g_guard ?_; first | (refine x_gyes rfl rfl aD ?_) | (refine x_gno rfl rfl aD ?_) | (refine x_gun rfl rfl ?_) | (refine x_gsplit rfl rfl (fun h => ?_) (fun h => ?_) <;> (have h' := h; (try simp only [sx] at h')))) | (refine g_call ?_; first | (refine x_callG true (kB1) rfl rfl rfl aS rfl aH ?_; simp only [cl]) | (refine x_callG true (kB2) rfl rfl rfl aS rfl aH ?_; simp only [cl]) | (refine x_callA true (kPr) rfl rfl rfl rfl rfl aS rfl aH ?_; simp only [cl]) | (refine x_callG true (kE1) rfl rfl rfl aS rfl aH ?_; simp only [cl]) | (refine x_callG true (kE2) rfl rfl rfl aS rfl aH ?_; simp only [cl]) | (refine x_callA true (kR1) rfl rfl rfl rfl rfl aS rfl aH ?_; simp only [cl]) | (refine x_callA true (kR2) rfl rfl rfl rfl rfl aS rfl aH ?_; simp only [cl]) | (refine x_callG true (kRI) rfl rfl rfl aS rfl aH ?_; simp only [cl]) | (refine x_callA true (kS1) rfl rfl rfl rfl rfl aS rfl aH ?_; simp only [cl]) | (refine x_callA true (kS2) rfl rfl rfl rfl rfl aS rfl aH ?_; simp only [cl]) | (refine x_callG true (kST) rfl rfl rfl aS rfl aH ?_; simp only [cl]) | (refine x_len_l aA rfl ?_) | (refine x_len_o aA rfl rfl ?_) | (refine x_len_n aA rfl ?_) | (refine x_len_s aA (evO_ok rfl) ?_)) | (refine x_extract _ rfl rfl ?_) | (refine x_nil (hK _ _ (.inl rfl) ?_); clear hK K) | (refine x_nil (hK _ _ (.inr (by kernel_rfl)) ?_); clear hK K))
      | (refine g_code ?_; first | (refine v_seq ?_) | (refine v_region (fun K hK => ?_)) | (refine v_block ?_) | (refine v_skip ?_) | (refine v_ret ?_) | (refine v_exit ?_) | (refine g_cond ?_; first | (refine v_cond_y rfl aD ?_) | (refine v_cond_n rfl aD ?_) | (refine v_condt rfl (fun h => ?_) (fun h => ?_) <;> (have h' := h; (try simp only [sx] at h')))))
      | (refine q_then ?_) | (refine q_then_r ?_) | (refine q_then_e ?_) | (refine q_blk_n ?_) | (refine q_blk_r ?_) | (refine q_blk_e ?_) | (refine q_blk_o rfl ?_) | (refine q_loop_r ?_) | (refine q_loop_e ?_) | (refine ret_n ?_))
          all_goals try (exfalso; omega)
        case' neg =>
          rw [bpRes, decide_eq_false hbp] at kB1 kB2
          repeat' (first
      | (refine g_exec ?_; first | (refine g_move ?_; refine x_moveO _ rfl ?_) | (refine g_assign ?_; refine x_assignO _ rfl ?_) | (refine g_bin ?_; first | (refine x_add rfl rfl aO ?_) | (refine x_sub rfl rfl aO ?_) | (refine x_mul rfl rfl aO ?_) | (refine x_bin _ rfl rfl rfl ?_) | (refine x_boolEq aA rfl rfl ?_) | (refine x_boolNe aA rfl rfl ?_) | (refine x_strBin _ rfl rfl rfl ?_)) | (refine g_un ?_; first | (refine x_not rfl ?_) | (refine x_neg rfl aO ?_)) | (refine g_load ?_; first | (refine x_load_pc aA rfl ?_) | (refine x_load_oc _ aA rfl rfl aE rfl ?_) | (refine x_load_pa _ aA rfl aZ aL ?_) | (refine x_load_oa _ aA rfl rfl aE aZ aL ?_)) | (refine g_field ?_; first | (refine x_field_p _ aA rfl aL ?_) | (refine x_field_o _ aA rfl rfl (by simp only [lx, Nat.reduceAdd]; first | done | rfl) ?_)) | (refine g_index ?_; first | (refine x_index_l _ aA rfl rfl aO aA ?_) | (refine x_index_o _ aA rfl rfl rfl rfl aO aO (by first | (rw [Nat.zero_add, Int.toNat_natCast]) | (rw [Nat.zero_add]) | rfl) ?_)) | (refine g_pick ?_; first | (refine x_pick_b rfl aD rfl ?_) | (refine x_pick_c rfl aD ?_) | (refine x_pick_a rfl aD ?_) | (refine x_pick_d rfl aD rfl ?_)) | (refine g_guard ?_; first | (refine x_gyes rfl rfl aD ?_) | (refine x_gno rfl rfl aD ?_) | (refine x_gun rfl rfl ?_) | (refine x_gsplit rfl rfl (fun h => ?_) (fun h => ?_) <;> (have h' := h; (try simp only [sx] at h')))) | (refine g_call ?_; first | (refine x_callG true (kB1) rfl rfl rfl aS rfl aH ?_; simp only [cl]) | (refine x_callG true (kB2) rfl rfl rfl aS rfl aH ?_; simp only [cl]) | (refine x_callA true (kR1) rfl rfl rfl rfl rfl aS rfl aH ?_; simp only [cl]) | (refine x_callA true (kR2) rfl rfl rfl rfl rfl aS rfl aH ?_; simp only [cl]) | (refine x_callG true (kRI) rfl rfl rfl aS rfl aH ?_; simp only [cl]) | (refine x_callA true (kS1) rfl rfl rfl rfl rfl aS rfl aH ?_; simp only [cl]) | (refine x_callA true (kS2) rfl rfl rfl rfl rfl aS rfl aH ?_; simp only [cl]) | (refine x_callG true (kST) rfl rfl rfl aS rfl aH ?_; simp only [cl]) | (refine x_len_l aA rfl ?_) | (refine x_len_o aA rfl rfl ?_) | (refine x_len_n aA rfl ?_) | (refine x_len_s aA (evO_ok rfl) ?_)) | (refine x_extract _ rfl rfl ?_) | (refine x_nil (hK _ _ (.inl rfl) ?_); clear hK K) | (refine x_nil (hK _ _ (.inr (by kernel_rfl)) ?_); clear hK K))
      | (refine g_code ?_; first | (refine v_seq ?_) | (refine v_region (fun K hK => ?_)) | (refine v_block ?_) | (refine v_skip ?_) | (refine v_ret ?_) | (refine v_exit ?_) | (refine g_cond ?_; first | (refine v_cond_y rfl aD ?_) | (refine v_cond_n rfl aD ?_) | (refine v_condt rfl (fun h => ?_) (fun h => ?_) <;> (have h' := h; (try simp only [sx] at h')))))
      | (refine q_then ?_) | (refine q_then_r ?_) | (refine q_then_e ?_) | (refine q_blk_n ?_) | (refine q_blk_r ?_) | (refine q_blk_e ?_) | (refine q_blk_o rfl ?_) | (refine q_loop_r ?_) | (refine q_loop_e ?_) | (refine ret_n ?_))
          all_goals try (exfalso; omega)
        all_goals
          refine v_loopK [0, 13, 14, 35, 36] [] (fun i : Nat => [(39, .int .i64 i)]) (fun i : Nat => []) (fun i : Nat => i ≤ us.length) (fun i : Nat => us.length - i) (0) rfl rfl (fun _ => rfl) (fun _ => rfl) rfl (by refine ⟨?_, ?_, rfl, rfl⟩ <;> (repeat' (first | exact trivial | exact ⟨rfl, rfl⟩ | exact rfl | exact ⟨sub_fn, refs_fn⟩ | refine ⟨⟨rfl, rfl⟩, ?_⟩ | refine ⟨⟨sub_fn, refs_fn⟩, ?_⟩ | refine ⟨⟨rfl, fun h => Bool.noConfusion h⟩, ?_⟩ | refine ⟨⟨rfl, fun h => ?_⟩, ?_⟩ | refine ⟨rfl, ?_⟩ | refine ⟨?_, ?_⟩ | fail))) aO (fun i hi => ?_)
          rcases Nat.lt_or_ge i us.length with hlt | hge
          case' inl =>
            obtain ⟨a, hga⟩ := get_ex hlt
            have hxa := Asset.at hga
            have kC2 := k_iChR us ss a.id z2
            obtain ⟨p, q, eC2, hp⟩ := ch_safe hA (get_mem hga)
            rw [eC2] at kC2
            have hu12 := hx2.1
            by_cases h0 : p = 0
            · have kH := k_rHasText (saL us ss) a.name (hp h0) (by have := saL_len us ss; have := z2.hn; omega)
              repeat' (first
      | (refine g_exec ?_; first | (refine g_move ?_; refine x_moveO _ rfl ?_) | (refine g_assign ?_; refine x_assignO _ rfl ?_) | (refine g_bin ?_; first | (refine x_add rfl rfl aO ?_) | (refine x_sub rfl rfl aO ?_) | (refine x_mul rfl rfl aO ?_) | (refine x_bin _ rfl rfl rfl ?_) | (refine x_boolEq aA rfl rfl ?_) | (refine x_boolNe aA rfl rfl ?_) | (refine x_strBin _ rfl rfl rfl ?_)) | (refine g_un ?_; first | (refine x_not rfl ?_) | (refine x_neg rfl aO ?_)) | (refine g_load ?_; first | (refine x_load_pc aA rfl ?_) | (refine x_load_oc _ aA rfl rfl aE rfl ?_) | (refine x_load_pa _ aA rfl aZ aL ?_) | (refine x_load_oa _ aA rfl rfl aE aZ aL ?_)) | (refine g_field ?_; first | (refine x_field_p _ aA rfl aL ?_) | (refine x_field_o _ aA rfl rfl (by simp only [lx, Nat.reduceAdd]; first | done | rfl) ?_)) | (refine g_index ?_; first | (refine x_index_l _ aA rfl rfl aO aA ?_) | (refine x_index_o _ aA rfl rfl rfl rfl aO aO (by first | (rw [Nat.zero_add, Int.toNat_natCast]) | (rw [Nat.zero_add]) | rfl) ?_)) | (refine g_pick ?_; first | (refine x_pick_b rfl aD rfl ?_) | (refine x_pick_c rfl aD ?_) | (refine x_pick_a rfl aD ?_) | (refine x_pick_d rfl aD rfl ?_)) | (refine g_guard ?_; first | (refine x_gyes rfl rfl aD ?_) | (refine x_gno rfl rfl aD ?_) | (refine x_gun rfl rfl ?_) | (refine x_gsplit rfl rfl (fun h => ?_) (fun h => ?_) <;> (have h' := h; (try simp only [sx] at h')))) | (refine g_call ?_; first | (refine x_callG true (kC2) rfl rfl rfl aS rfl aH ?_; simp only [cl]) | (refine x_callG true (kH) rfl rfl rfl aS rfl aH ?_; simp only [cl]) | (refine x_len_l aA rfl ?_) | (refine x_len_o aA rfl rfl ?_) | (refine x_len_n aA rfl ?_) | (refine x_len_s aA (evO_ok rfl) ?_)) | (refine x_extract _ rfl rfl ?_) | (refine x_nil (hK _ _ (.inl rfl) ?_); clear hK K) | (refine x_nil (hK _ _ (.inr (by kernel_rfl)) ?_); clear hK K))
      | (refine g_code ?_; first | (refine v_seq ?_) | (refine v_region (fun K hK => ?_)) | (refine v_block ?_) | (refine v_skip ?_) | (refine v_ret ?_) | (refine v_exit ?_) | (refine g_cond ?_; first | (refine v_cond_y rfl aD ?_) | (refine v_cond_n rfl aD ?_) | (refine v_condt rfl (fun h => ?_) (fun h => ?_) <;> (have h' := h; (try simp only [sx] at h')))))
      | (refine q_then ?_) | (refine q_then_r ?_) | (refine q_then_e ?_) | (refine q_blk_n ?_) | (refine q_blk_r ?_) | (refine q_blk_e ?_) | (refine q_blk_o rfl ?_) | (refine q_loop_r ?_) | (refine q_loop_e ?_) | (refine ret_n ?_))
              all_goals first
                | (exfalso; omega)
                | (refine q_next (i + 1) rfl (by refine ⟨?_, ?_, rfl, rfl⟩ <;> (repeat' (first | exact trivial | exact ⟨rfl, rfl⟩ | exact rfl | exact ⟨sub_fn, refs_fn⟩ | refine ⟨⟨rfl, rfl⟩, ?_⟩ | refine ⟨⟨sub_fn, refs_fn⟩, ?_⟩ | refine ⟨⟨rfl, fun h => Bool.noConfusion h⟩, ?_⟩ | refine ⟨⟨rfl, fun h => ?_⟩, ?_⟩ | refine ⟨rfl, ?_⟩ | refine ⟨?_, ?_⟩ | fail))) aO aO)
            · repeat' (first
      | (refine g_exec ?_; first | (refine g_move ?_; refine x_moveO _ rfl ?_) | (refine g_assign ?_; refine x_assignO _ rfl ?_) | (refine g_bin ?_; first | (refine x_add rfl rfl aO ?_) | (refine x_sub rfl rfl aO ?_) | (refine x_mul rfl rfl aO ?_) | (refine x_bin _ rfl rfl rfl ?_) | (refine x_boolEq aA rfl rfl ?_) | (refine x_boolNe aA rfl rfl ?_) | (refine x_strBin _ rfl rfl rfl ?_)) | (refine g_un ?_; first | (refine x_not rfl ?_) | (refine x_neg rfl aO ?_)) | (refine g_load ?_; first | (refine x_load_pc aA rfl ?_) | (refine x_load_oc _ aA rfl rfl aE rfl ?_) | (refine x_load_pa _ aA rfl aZ aL ?_) | (refine x_load_oa _ aA rfl rfl aE aZ aL ?_)) | (refine g_field ?_; first | (refine x_field_p _ aA rfl aL ?_) | (refine x_field_o _ aA rfl rfl (by simp only [lx, Nat.reduceAdd]; first | done | rfl) ?_)) | (refine g_index ?_; first | (refine x_index_l _ aA rfl rfl aO aA ?_) | (refine x_index_o _ aA rfl rfl rfl rfl aO aO (by first | (rw [Nat.zero_add, Int.toNat_natCast]) | (rw [Nat.zero_add]) | rfl) ?_)) | (refine g_pick ?_; first | (refine x_pick_b rfl aD rfl ?_) | (refine x_pick_c rfl aD ?_) | (refine x_pick_a rfl aD ?_) | (refine x_pick_d rfl aD rfl ?_)) | (refine g_guard ?_; first | (refine x_gyes rfl rfl aD ?_) | (refine x_gno rfl rfl aD ?_) | (refine x_gun rfl rfl ?_) | (refine x_gsplit rfl rfl (fun h => ?_) (fun h => ?_) <;> (have h' := h; (try simp only [sx] at h')))) | (refine g_call ?_; first | (refine x_callG true (kC2) rfl rfl rfl aS rfl aH ?_; simp only [cl]) | (refine x_len_l aA rfl ?_) | (refine x_len_o aA rfl rfl ?_) | (refine x_len_n aA rfl ?_) | (refine x_len_s aA (evO_ok rfl) ?_)) | (refine x_extract _ rfl rfl ?_) | (refine x_nil (hK _ _ (.inl rfl) ?_); clear hK K) | (refine x_nil (hK _ _ (.inr (by kernel_rfl)) ?_); clear hK K))
      | (refine g_code ?_; first | (refine v_seq ?_) | (refine v_region (fun K hK => ?_)) | (refine v_block ?_) | (refine v_skip ?_) | (refine v_ret ?_) | (refine v_exit ?_) | (refine g_cond ?_; first | (refine v_cond_y rfl aD ?_) | (refine v_cond_n rfl aD ?_) | (refine v_condt rfl (fun h => ?_) (fun h => ?_) <;> (have h' := h; (try simp only [sx] at h')))))
      | (refine q_then ?_) | (refine q_then_r ?_) | (refine q_then_e ?_) | (refine q_blk_n ?_) | (refine q_blk_r ?_) | (refine q_blk_e ?_) | (refine q_blk_o rfl ?_) | (refine q_loop_r ?_) | (refine q_loop_e ?_) | (refine ret_n ?_))
              all_goals first
                | (exfalso; omega)
                | (refine q_next (i + 1) rfl (by refine ⟨?_, ?_, rfl, rfl⟩ <;> (repeat' (first | exact trivial | exact ⟨rfl, rfl⟩ | exact rfl | exact ⟨sub_fn, refs_fn⟩ | refine ⟨⟨rfl, rfl⟩, ?_⟩ | refine ⟨⟨sub_fn, refs_fn⟩, ?_⟩ | refine ⟨⟨rfl, fun h => Bool.noConfusion h⟩, ?_⟩ | refine ⟨⟨rfl, fun h => ?_⟩, ?_⟩ | refine ⟨rfl, ?_⟩ | refine ⟨?_, ?_⟩ | fail))) aO aO)
          case' inr =>
            repeat' (first
      | (refine g_exec ?_; first | (refine g_move ?_; refine x_moveO _ rfl ?_) | (refine g_assign ?_; refine x_assignO _ rfl ?_) | (refine g_bin ?_; first | (refine x_add rfl rfl aO ?_) | (refine x_sub rfl rfl aO ?_) | (refine x_mul rfl rfl aO ?_) | (refine x_bin _ rfl rfl rfl ?_) | (refine x_boolEq aA rfl rfl ?_) | (refine x_boolNe aA rfl rfl ?_) | (refine x_strBin _ rfl rfl rfl ?_)) | (refine g_un ?_; first | (refine x_not rfl ?_) | (refine x_neg rfl aO ?_)) | (refine g_load ?_; first | (refine x_load_pc aA rfl ?_) | (refine x_load_oc _ aA rfl rfl aE rfl ?_) | (refine x_load_pa _ aA rfl aZ aL ?_) | (refine x_load_oa _ aA rfl rfl aE aZ aL ?_)) | (refine g_field ?_; first | (refine x_field_p _ aA rfl aL ?_) | (refine x_field_o _ aA rfl rfl (by simp only [lx, Nat.reduceAdd]; first | done | rfl) ?_)) | (refine g_index ?_; first | (refine x_index_l _ aA rfl rfl aO aA ?_) | (refine x_index_o _ aA rfl rfl rfl rfl aO aO (by first | (rw [Nat.zero_add, Int.toNat_natCast]) | (rw [Nat.zero_add]) | rfl) ?_)) | (refine g_pick ?_; first | (refine x_pick_b rfl aD rfl ?_) | (refine x_pick_c rfl aD ?_) | (refine x_pick_a rfl aD ?_) | (refine x_pick_d rfl aD rfl ?_)) | (refine g_guard ?_; first | (refine x_gyes rfl rfl aD ?_) | (refine x_gno rfl rfl aD ?_) | (refine x_gun rfl rfl ?_) | (refine x_gsplit rfl rfl (fun h => ?_) (fun h => ?_) <;> (have h' := h; (try simp only [sx] at h')))) | (refine g_call ?_; first | (refine x_len_l aA rfl ?_) | (refine x_len_o aA rfl rfl ?_) | (refine x_len_n aA rfl ?_) | (refine x_len_s aA (evO_ok rfl) ?_)) | (refine x_extract _ rfl rfl ?_) | (refine x_nil (hK _ _ (.inl rfl) ?_); clear hK K) | (refine x_nil (hK _ _ (.inr (by kernel_rfl)) ?_); clear hK K))
      | (refine g_code ?_; first | (refine v_seq ?_) | (refine v_region (fun K hK => ?_)) | (refine v_block ?_) | (refine v_skip ?_) | (refine v_ret ?_) | (refine v_exit ?_) | (refine g_cond ?_; first | (refine v_cond_y rfl aD ?_) | (refine v_cond_n rfl aD ?_) | (refine v_condt rfl (fun h => ?_) (fun h => ?_) <;> (have h' := h; (try simp only [sx] at h')))))
      | (refine q_then ?_) | (refine q_then_r ?_) | (refine q_then_e ?_) | (refine q_blk_n ?_) | (refine q_blk_r ?_) | (refine q_blk_e ?_) | (refine q_blk_o rfl ?_) | (refine q_loop_r ?_) | (refine q_loop_e ?_) | (refine ret_n ?_))
            all_goals try (exfalso; omega)
      case' neg =>
        have hbp : ¬ BpOk us ss := fun h => hA h.1
        rw [decide_eq_false hA] at kR1 kR2 kS1 kS2
        rw [bpRes, decide_eq_false hbp] at kB1 kB2
        repeat' (first
      | (refine g_exec ?_; first | (refine g_move ?_; refine x_moveO _ rfl ?_) | (refine g_assign ?_; refine x_assignO _ rfl ?_) | (refine g_bin ?_; first | (refine x_add rfl rfl aO ?_) | (refine x_sub rfl rfl aO ?_) | (refine x_mul rfl rfl aO ?_) | (refine x_bin _ rfl rfl rfl ?_) | (refine x_boolEq aA rfl rfl ?_) | (refine x_boolNe aA rfl rfl ?_) | (refine x_strBin _ rfl rfl rfl ?_)) | (refine g_un ?_; first | (refine x_not rfl ?_) | (refine x_neg rfl aO ?_)) | (refine g_load ?_; first | (refine x_load_pc aA rfl ?_) | (refine x_load_oc _ aA rfl rfl aE rfl ?_) | (refine x_load_pa _ aA rfl aZ aL ?_) | (refine x_load_oa _ aA rfl rfl aE aZ aL ?_)) | (refine g_field ?_; first | (refine x_field_p _ aA rfl aL ?_) | (refine x_field_o _ aA rfl rfl (by simp only [lx, Nat.reduceAdd]; first | done | rfl) ?_)) | (refine g_index ?_; first | (refine x_index_l _ aA rfl rfl aO aA ?_) | (refine x_index_o _ aA rfl rfl rfl rfl aO aO (by first | (rw [Nat.zero_add, Int.toNat_natCast]) | (rw [Nat.zero_add]) | rfl) ?_)) | (refine g_pick ?_; first | (refine x_pick_b rfl aD rfl ?_) | (refine x_pick_c rfl aD ?_) | (refine x_pick_a rfl aD ?_) | (refine x_pick_d rfl aD rfl ?_)) | (refine g_guard ?_; first | (refine x_gyes rfl rfl aD ?_) | (refine x_gno rfl rfl aD ?_) | (refine x_gun rfl rfl ?_) | (refine x_gsplit rfl rfl (fun h => ?_) (fun h => ?_) <;> (have h' := h; (try simp only [sx] at h')))) | (refine g_call ?_; first | (refine x_callG true (kB1) rfl rfl rfl aS rfl aH ?_; simp only [cl]) | (refine x_callG true (kB2) rfl rfl rfl aS rfl aH ?_; simp only [cl]) | (refine x_callA true (kR1) rfl rfl rfl rfl rfl aS rfl aH ?_; simp only [cl]) | (refine x_callA true (kR2) rfl rfl rfl rfl rfl aS rfl aH ?_; simp only [cl]) | (refine x_callG true (kRI) rfl rfl rfl aS rfl aH ?_; simp only [cl]) | (refine x_callA true (kS1) rfl rfl rfl rfl rfl aS rfl aH ?_; simp only [cl]) | (refine x_callA true (kS2) rfl rfl rfl rfl rfl aS rfl aH ?_; simp only [cl]) | (refine x_callG true (kST) rfl rfl rfl aS rfl aH ?_; simp only [cl]) | (refine x_len_l aA rfl ?_) | (refine x_len_o aA rfl rfl ?_) | (refine x_len_n aA rfl ?_) | (refine x_len_s aA (evO_ok rfl) ?_)) | (refine x_extract _ rfl rfl ?_) | (refine x_nil (hK _ _ (.inl rfl) ?_); clear hK K) | (refine x_nil (hK _ _ (.inr (by kernel_rfl)) ?_); clear hK K))
      | (refine g_code ?_; first | (refine v_seq ?_) | (refine v_region (fun K hK => ?_)) | (refine v_block ?_) | (refine v_skip ?_) | (refine v_ret ?_) | (refine v_exit ?_) | (refine g_cond ?_; first | (refine v_cond_y rfl aD ?_) | (refine v_cond_n rfl aD ?_) | (refine v_condt rfl (fun h => ?_) (fun h => ?_) <;> (have h' := h; (try simp only [sx] at h')))))
      | (refine q_then ?_) | (refine q_then_r ?_) | (refine q_then_e ?_) | (refine q_blk_n ?_) | (refine q_blk_r ?_) | (refine q_blk_e ?_) | (refine q_blk_o rfl ?_) | (refine q_loop_r ?_) | (refine q_loop_e ?_) | (refine ret_n ?_))
        all_goals try (exfalso; omega)
        refine v_loopK [0, 13, 14, 35, 36] [] (fun i : Nat => [(39, .int .i64 i)]) (fun i : Nat => []) (fun i : Nat => i ≤ us.length) (fun i : Nat => us.length - i) (0) rfl rfl (fun _ => rfl) (fun _ => rfl) rfl (by refine ⟨?_, ?_, rfl, rfl⟩ <;> (repeat' (first | exact trivial | exact ⟨rfl, rfl⟩ | exact rfl | exact ⟨sub_fn, refs_fn⟩ | refine ⟨⟨rfl, rfl⟩, ?_⟩ | refine ⟨⟨sub_fn, refs_fn⟩, ?_⟩ | refine ⟨⟨rfl, fun h => Bool.noConfusion h⟩, ?_⟩ | refine ⟨⟨rfl, fun h => ?_⟩, ?_⟩ | refine ⟨rfl, ?_⟩ | refine ⟨?_, ?_⟩ | fail))) aO (fun i hi => ?_)
        repeat' (first
      | (refine g_exec ?_; first | (refine g_move ?_; refine x_moveO _ rfl ?_) | (refine g_assign ?_; refine x_assignO _ rfl ?_) | (refine g_bin ?_; first | (refine x_add rfl rfl aO ?_) | (refine x_sub rfl rfl aO ?_) | (refine x_mul rfl rfl aO ?_) | (refine x_bin _ rfl rfl rfl ?_) | (refine x_boolEq aA rfl rfl ?_) | (refine x_boolNe aA rfl rfl ?_) | (refine x_strBin _ rfl rfl rfl ?_)) | (refine g_un ?_; first | (refine x_not rfl ?_) | (refine x_neg rfl aO ?_)) | (refine g_load ?_; first | (refine x_load_pc aA rfl ?_) | (refine x_load_oc _ aA rfl rfl aE rfl ?_) | (refine x_load_pa _ aA rfl aZ aL ?_) | (refine x_load_oa _ aA rfl rfl aE aZ aL ?_)) | (refine g_field ?_; first | (refine x_field_p _ aA rfl aL ?_) | (refine x_field_o _ aA rfl rfl (by simp only [lx, Nat.reduceAdd]; first | done | rfl) ?_)) | (refine g_index ?_; first | (refine x_index_l _ aA rfl rfl aO aA ?_) | (refine x_index_o _ aA rfl rfl rfl rfl aO aO (by first | (rw [Nat.zero_add, Int.toNat_natCast]) | (rw [Nat.zero_add]) | rfl) ?_)) | (refine g_pick ?_; first | (refine x_pick_b rfl aD rfl ?_) | (refine x_pick_c rfl aD ?_) | (refine x_pick_a rfl aD ?_) | (refine x_pick_d rfl aD rfl ?_)) | (refine g_guard ?_; first | (refine x_gyes rfl rfl aD ?_) | (refine x_gno rfl rfl aD ?_) | (refine x_gun rfl rfl ?_) | (refine x_gsplit rfl rfl (fun h => ?_) (fun h => ?_) <;> (have h' := h; (try simp only [sx] at h')))) | (refine g_call ?_; first | (refine x_len_l aA rfl ?_) | (refine x_len_o aA rfl rfl ?_) | (refine x_len_n aA rfl ?_) | (refine x_len_s aA (evO_ok rfl) ?_)) | (refine x_extract _ rfl rfl ?_) | (refine x_nil (hK _ _ (.inl rfl) ?_); clear hK K) | (refine x_nil (hK _ _ (.inr (by kernel_rfl)) ?_); clear hK K))
      | (refine g_code ?_; first | (refine v_seq ?_) | (refine v_region (fun K hK => ?_)) | (refine v_block ?_) | (refine v_skip ?_) | (refine v_ret ?_) | (refine v_exit ?_) | (refine g_cond ?_; first | (refine v_cond_y rfl aD ?_) | (refine v_cond_n rfl aD ?_) | (refine v_condt rfl (fun h => ?_) (fun h => ?_) <;> (have h' := h; (try simp only [sx] at h')))))
      | (refine q_then ?_) | (refine q_then_r ?_) | (refine q_then_e ?_) | (refine q_blk_n ?_) | (refine q_blk_r ?_) | (refine q_blk_e ?_) | (refine q_blk_o rfl ?_) | (refine q_loop_r ?_) | (refine q_loop_e ?_) | (refine ret_n ?_))
        all_goals try (exfalso; omega)
      all_goals
        repeat' (first
      | (refine g_exec ?_; first | (refine g_move ?_; refine x_moveO _ rfl ?_) | (refine g_assign ?_; refine x_assignO _ rfl ?_) | (refine g_bin ?_; first | (refine x_add rfl rfl aO ?_) | (refine x_sub rfl rfl aO ?_) | (refine x_mul rfl rfl aO ?_) | (refine x_bin _ rfl rfl rfl ?_) | (refine x_boolEq aA rfl rfl ?_) | (refine x_boolNe aA rfl rfl ?_) | (refine x_strBin _ rfl rfl rfl ?_)) | (refine g_un ?_; first | (refine x_not rfl ?_) | (refine x_neg rfl aO ?_)) | (refine g_load ?_; first | (refine x_load_pc aA rfl ?_) | (refine x_load_oc _ aA rfl rfl aE rfl ?_) | (refine x_load_pa _ aA rfl aZ aL ?_) | (refine x_load_oa _ aA rfl rfl aE aZ aL ?_)) | (refine g_field ?_; first | (refine x_field_p _ aA rfl aL ?_) | (refine x_field_o _ aA rfl rfl (by simp only [lx, Nat.reduceAdd]; first | done | rfl) ?_)) | (refine g_index ?_; first | (refine x_index_l _ aA rfl rfl aO aA ?_) | (refine x_index_o _ aA rfl rfl rfl rfl aO aO (by first | (rw [Nat.zero_add, Int.toNat_natCast]) | (rw [Nat.zero_add]) | rfl) ?_)) | (refine g_pick ?_; first | (refine x_pick_b rfl aD rfl ?_) | (refine x_pick_c rfl aD ?_) | (refine x_pick_a rfl aD ?_) | (refine x_pick_d rfl aD rfl ?_)) | (refine g_guard ?_; first | (refine x_gyes rfl rfl aD ?_) | (refine x_gno rfl rfl aD ?_) | (refine x_gun rfl rfl ?_) | (refine x_gsplit rfl rfl (fun h => ?_) (fun h => ?_) <;> (have h' := h; (try simp only [sx] at h')))) | (refine g_call ?_; first | (refine x_callLP [] (k_DrawAreAssets code hz) rfl rfl (by (repeat' (first | exact trivial | refine ⟨⟨_, rfl, ?_⟩, ?_⟩ | exact .inl ⟨rfl, .inl rfl⟩ | exact .inr ⟨rfl, rfl, rfl, rfl, rfl, fun e he u hu => by (simp only [List.mem_cons, List.not_mem_nil, or_false] at he; subst he; simp only [List.mem_cons, List.not_mem_nil, or_false] at hu; subst hu; rfl)⟩ | exact .inl ⟨rfl, .inr (fun e he => by (simp only [List.mem_cons, List.not_mem_nil, or_false] at he; subst he; rfl))⟩ | fail)); first | done | fail) rfl rfl aS rfl (fun r_ fin_ hP_ => ?_); obtain ⟨vs, ⟨rfl, rfl⟩, hx3⟩ := hP_; refine ⟨_, _, _, aH, rfl, ?_⟩; simp only [cl]) | (refine x_len_l aA rfl ?_) | (refine x_len_o aA rfl rfl ?_) | (refine x_len_n aA rfl ?_) | (refine x_len_s aA (evO_ok rfl) ?_)) | (refine x_extract _ rfl rfl ?_) | (refine x_nil (hK _ _ (.inl rfl) ?_); clear hK K) | (refine x_nil (hK _ _ (.inr (by kernel_rfl)) ?_); clear hK K))
      | (refine g_code ?_; first | (refine v_seq ?_) | (refine v_region (fun K hK => ?_)) | (refine v_block ?_) | (refine v_skip ?_) | (refine v_ret ?_) | (refine v_exit ?_) | (refine g_cond ?_; first | (refine v_cond_y rfl aD ?_) | (refine v_cond_n rfl aD ?_) | (refine v_condt rfl (fun h => ?_) (fun h => ?_) <;> (have h' := h; (try simp only [sx] at h')))))
      | (refine q_then ?_) | (refine q_then_r ?_) | (refine q_then_e ?_) | (refine q_blk_n ?_) | (refine q_blk_r ?_) | (refine q_blk_e ?_) | (refine q_blk_o rfl ?_) | (refine q_loop_r ?_) | (refine q_loop_e ?_) | (refine ret_n ?_))
        have kA1 := k_iAreAssets vs (by have := hx3.1; omega) (fun a h => by have := hx3.2 a h; omega)
        have kA2 := k_sAreAssets vs (by have := hx3.1; omega) (fun a h => by have := hx3.2 a h; omega)
        repeat' (first
      | (refine g_exec ?_; first | (refine g_move ?_; refine x_moveO _ rfl ?_) | (refine g_assign ?_; refine x_assignO _ rfl ?_) | (refine g_bin ?_; first | (refine x_add rfl rfl aO ?_) | (refine x_sub rfl rfl aO ?_) | (refine x_mul rfl rfl aO ?_) | (refine x_bin _ rfl rfl rfl ?_) | (refine x_boolEq aA rfl rfl ?_) | (refine x_boolNe aA rfl rfl ?_) | (refine x_strBin _ rfl rfl rfl ?_)) | (refine g_un ?_; first | (refine x_not rfl ?_) | (refine x_neg rfl aO ?_)) | (refine g_load ?_; first | (refine x_load_pc aA rfl ?_) | (refine x_load_oc _ aA rfl rfl aE rfl ?_) | (refine x_load_pa _ aA rfl aZ aL ?_) | (refine x_load_oa _ aA rfl rfl aE aZ aL ?_)) | (refine g_field ?_; first | (refine x_field_p _ aA rfl aL ?_) | (refine x_field_o _ aA rfl rfl (by simp only [lx, Nat.reduceAdd]; first | done | rfl) ?_)) | (refine g_index ?_; first | (refine x_index_l _ aA rfl rfl aO aA ?_) | (refine x_index_o _ aA rfl rfl rfl rfl aO aO (by first | (rw [Nat.zero_add, Int.toNat_natCast]) | (rw [Nat.zero_add]) | rfl) ?_)) | (refine g_pick ?_; first | (refine x_pick_b rfl aD rfl ?_) | (refine x_pick_c rfl aD ?_) | (refine x_pick_a rfl aD ?_) | (refine x_pick_d rfl aD rfl ?_)) | (refine g_guard ?_; first | (refine x_gyes rfl rfl aD ?_) | (refine x_gno rfl rfl aD ?_) | (refine x_gun rfl rfl ?_) | (refine x_gsplit rfl rfl (fun h => ?_) (fun h => ?_) <;> (have h' := h; (try simp only [sx] at h')))) | (refine g_call ?_; first | (refine x_callG true (kA1) rfl rfl rfl aS rfl aH ?_; simp only [cl]) | (refine x_callG true (kA2) rfl rfl rfl aS rfl aH ?_; simp only [cl]) | (refine x_callLP [] (k_DrawChanceToBurn code hz) rfl rfl (by (repeat' (first | exact trivial | refine ⟨⟨_, rfl, ?_⟩, ?_⟩ | exact .inl ⟨rfl, .inl rfl⟩ | exact .inr ⟨rfl, rfl, rfl, rfl, rfl, fun e he u hu => by (simp only [List.mem_cons, List.not_mem_nil, or_false] at he; subst he; simp only [List.mem_cons, List.not_mem_nil, or_false] at hu; subst hu; rfl)⟩ | exact .inl ⟨rfl, .inr (fun e he => by (simp only [List.mem_cons, List.not_mem_nil, or_false] at he; subst he; rfl))⟩ | fail)); first | done | fail) rfl rfl aS rfl (fun r_ fin_ hP_ => ?_); obtain ⟨ws, ts, m, ⟨rfl, rfl⟩, hx4, hy4⟩ := hP_; refine ⟨_, _, _, aH, rfl, ?_⟩; simp only [cl]) | (refine x_len_l aA rfl ?_) | (refine x_len_o aA rfl rfl ?_) | (refine x_len_n aA rfl ?_) | (refine x_len_s aA (evO_ok rfl) ?_)) | (refine x_extract _ rfl rfl ?_) | (refine x_nil (hK _ _ (.inl rfl) ?_); clear hK K) | (refine x_nil (hK _ _ (.inr (by kernel_rfl)) ?_); clear hK K))
      | (refine g_code ?_; first | (refine v_seq ?_) | (refine v_region (fun K hK => ?_)) | (refine v_block ?_) | (refine v_skip ?_) | (refine v_ret ?_) | (refine v_exit ?_) | (refine g_cond ?_; first | (refine v_cond_y rfl aD ?_) | (refine v_cond_n rfl aD ?_) | (refine v_condt rfl (fun h => ?_) (fun h => ?_) <;> (have h' := h; (try simp only [sx] at h')))))
      | (refine q_then ?_) | (refine q_then_r ?_) | (refine q_then_e ?_) | (refine q_blk_n ?_) | (refine q_blk_r ?_) | (refine q_blk_e ?_) | (refine q_blk_o rfl ?_) | (refine q_loop_r ?_) | (refine q_loop_e ?_) | (refine ret_n ?_))
        all_goals try (exfalso; omega)
        have z4 := risk_sz hx4 hy4
        have kC3 := k_iChR ws ts m z4
        have kC4 := k_sChR ws ts m z4
        obtain ⟨p4, q4, b4, e4, hle⟩ := ch_le (xs := ws) (ys := ts) m
        rw [e4] at kC3 kC4
        repeat' (first
      | (refine g_exec ?_; first | (refine g_move ?_; refine x_moveO _ rfl ?_) | (refine g_assign ?_; refine x_assignO _ rfl ?_) | (refine g_bin ?_; first | (refine x_add rfl rfl aO ?_) | (refine x_sub rfl rfl aO ?_) | (refine x_mul rfl rfl aO ?_) | (refine x_bin _ rfl rfl rfl ?_) | (refine x_boolEq aA rfl rfl ?_) | (refine x_boolNe aA rfl rfl ?_) | (refine x_strBin _ rfl rfl rfl ?_)) | (refine g_un ?_; first | (refine x_not rfl ?_) | (refine x_neg rfl aO ?_)) | (refine g_load ?_; first | (refine x_load_pc aA rfl ?_) | (refine x_load_oc _ aA rfl rfl aE rfl ?_) | (refine x_load_pa _ aA rfl aZ aL ?_) | (refine x_load_oa _ aA rfl rfl aE aZ aL ?_)) | (refine g_field ?_; first | (refine x_field_p _ aA rfl aL ?_) | (refine x_field_o _ aA rfl rfl (by simp only [lx, Nat.reduceAdd]; first | done | rfl) ?_)) | (refine g_index ?_; first | (refine x_index_l _ aA rfl rfl aO aA ?_) | (refine x_index_o _ aA rfl rfl rfl rfl aO aO (by first | (rw [Nat.zero_add, Int.toNat_natCast]) | (rw [Nat.zero_add]) | rfl) ?_)) | (refine g_pick ?_; first | (refine x_pick_b rfl aD rfl ?_) | (refine x_pick_c rfl aD ?_) | (refine x_pick_a rfl aD ?_) | (refine x_pick_d rfl aD rfl ?_)) | (refine g_guard ?_; first | (refine x_gyes rfl rfl aD ?_) | (refine x_gno rfl rfl aD ?_) | (refine x_gun rfl rfl ?_) | (refine x_gsplit rfl rfl (fun h => ?_) (fun h => ?_) <;> (have h' := h; (try simp only [sx] at h')))) | (refine g_call ?_; first | (refine x_callG true (kC3) rfl rfl rfl aS rfl aH ?_; simp only [cl]) | (refine x_callG true (kC4) rfl rfl rfl aS rfl aH ?_; simp only [cl]) | (refine x_len_l aA rfl ?_) | (refine x_len_o aA rfl rfl ?_) | (refine x_len_n aA rfl ?_) | (refine x_len_s aA (evO_ok rfl) ?_)) | (refine x_extract _ rfl rfl ?_) | (refine x_nil (hK _ _ (.inl rfl) ?_); clear hK K) | (refine x_nil (hK _ _ (.inr (by kernel_rfl)) ?_); clear hK K))
      | (refine g_code ?_; first | (refine v_seq ?_) | (refine v_region (fun K hK => ?_)) | (refine v_block ?_) | (refine v_skip ?_) | (refine v_ret ?_) | (refine v_exit ?_) | (refine g_cond ?_; first | (refine v_cond_y rfl aD ?_) | (refine v_cond_n rfl aD ?_) | (refine v_condt rfl (fun h => ?_) (fun h => ?_) <;> (have h' := h; (try simp only [sx] at h')))))
      | (refine q_then ?_) | (refine q_then_r ?_) | (refine q_then_e ?_) | (refine q_blk_n ?_) | (refine q_blk_r ?_) | (refine q_blk_e ?_) | (refine q_blk_o rfl ?_) | (refine q_loop_r ?_) | (refine q_loop_e ?_) | (refine ret_n ?_))
        all_goals first
          | (exfalso; omega)
          | exact ret_bool rfl (lookE_ok rfl) (by simp [hle])
end Go.Vs
set_option linter.unusedVariables false
set_option linter.unusedSimpArgs false
namespace Go.Vs
open Go.RowKit Go.Deep
theorem ioMem_nil : ioMem [] = noMem := by funext id; simp [ioMem, noMem]
theorem calls_below {P : Program} {f : FuncId} {args : List PV} {cargs : Array Value} {w : World} {b : Bool} (hC : Con P f args (.bool b)) (ha : Comps (fun _ => none) w (fun b => b < w.heap.size) noMem cargs args) :
    Calls P f cargs w fun e w' => e = .returned (.bool b) ∧ Below w.heap.size w w' := by
  have hM := ioMem_nil
  have hno : ∀ id (r : Row), ioMem [] id ≠ some (some r) := fun id r h => by rw [hM] at h; cases h
  have hW : WRel (fun _ => True) (fun _ => none) w [] (ioMem []) w :=
    ⟨fun _ _ r _ _ _ _ h => absurd h (hno _ r), fun _ r h => absurd h (hno _ r), fun _ r h => absurd h (hno _ r), ⟨rfl, rfl, rfl, Nat.le_refl _, fun _ _ _ => rfl, fun b cur ty fr h => ⟨cur, h, rfl⟩⟩, fun _ _ => trivial⟩
  have hS : (Stab (fun _ => True) (fun _ => none) (ioMem []) w) = (fun b => b < w.heap.size) := by
    funext x
    apply propext
    exact ⟨fun h => h.1, fun h => ⟨h, fun id r z hm => absurd hm (hno _ r), trivial⟩⟩
  refine (((hC false).2 (fun _ => True) w [] (fun _ => none) cargs hW rfl ?_).mono) ?_
  · rw [hS, hM]; exact ha
  · rintro e w' ⟨v, r, fin, rfl, ⟨rfl, rfl⟩, _, _, hr⟩
    obtain ⟨ρ', hr⟩ := hr 0 (by unfold io; omega)
    have hv := rep_bool.1 hr.val
    subst hv
    have hk := hr.rel.keep
    exact ⟨rfl, hk.os, hk.tape, hk.output, hk.size, fun k hk' => hk.block k hk' (fun z h => by cases h)⟩
section
variable {H : Type} {enc : TypeId × Value → H} {P : Program} {w : World} {base : Nat} {spare : Nat → Bool} {held : Bool}
theorem lit_bounds {n : Int} (h : (Lit.int .i64 n).wf = true) : -9223372036854775808 ≤ n ∧ n ≤ 9223372036854775807 := by
  simp only [Lit.wf, Bool.and_eq_true, decide_eq_true_eq] at h
  exact h
theorem cell_lt {a : Addr} {c : Value} (h : w.cell? a = some c) : a.block < w.heap.size := by
  rcases Nat.lt_or_ge a.block w.heap.size with h1 | h1
  · exact h1
  · rw [World.cell?, Array.getElem?_eq_none h1] at h
    cases h
end
end Go.Vs
set_option linter.unusedVariables false
set_option linter.unusedSimpArgs false
namespace Go.Vs
open Go.RowKit Go.Deep
inductive Sh where
  | int
  | str
  | bool
  | byte
  | slice (e : List Sh)
def CellIs : Nat → Sh → PV → Prop
  | 0, _, _ => False
  | d + 1, sh, u => match sh with
    | .int => ∃ n : Int, u = .int .i64 n ∧ -9223372036854775808 ≤ n ∧ n ≤ 9223372036854775807
    | .str => ∃ s, u = .str s ∧ s.size ≤ Go.maxLen
    | .bool => ∃ b, u = .bool b
    | .byte => ∃ n : Int, u = .int .u8 n ∧ 0 ≤ n ∧ n ≤ 255
    | .slice es => ∃ els : List (List PV), u = .list es.length els ∧ els.length ≤ Go.maxLen ∧ ∀ el ∈ els, el.length = es.length ∧ ∀ (j : Nat) sh' u', es[j]? = some sh' → el[j]? = some u' → CellIs d sh' u'
def fieldsOk (P : Program) (ok : TypeId → List Sh → Bool) : List Field → Nat → List Sh → Bool
  | [], _, shs => shs.isEmpty
  | f :: fs, off, shs => Nat.beq f.offset off && (Nat.ble (P.cellsOf f.type) shs.length && (ok f.type (shs.take (P.cellsOf f.type)) && fieldsOk P ok fs (off + P.cellsOf f.type) (shs.drop (P.cellsOf f.type))))
def shOk (P : Program) : Nat → TypeId → List Sh → Bool
  | 0, _, _ => false
  | d + 1, T, shs => match P.underlying T with
    | some (.int .i64) => match shs with | [.int] => true | _ => false
    | some .string => match shs with | [.str] => true | _ => false
    | some .bool => match shs with | [.bool] => true | _ => false
    | some (.int .u8) => match shs with | [.byte] => true | _ => false
    | some (.slice e) => match shs with | [.slice es] => Nat.beq (P.cellsOf e) es.length && (Nat.blt 0 es.length && shOk P d e es) | _ => false
    | some (.struct fs) => Nat.beq (P.cellsOf T) shs.length && fieldsOk P (shOk P d) fs.toList 0 shs
    | _ => false
theorem lit_bytes {n : Int} (h : (Lit.int .u8 n).wf = true) : 0 ≤ n ∧ n ≤ 255 := by
  simp only [Lit.wf, Bool.and_eq_true, decide_eq_true_eq] at h
  exact h
section
variable {H : Type} {enc : TypeId × Value → H} {P : Program} {w : World} {base : Nat} {spare : Nat → Bool} {held : Bool}
def OpenAt (w : World) (d : Nat) (sh : Sh) (oc : Option Value) : Prop := ∃ c u, oc = some c ∧ c.oneCell' = true ∧ CellIs d sh u ∧ ∀ ρ, Rep ρ w (fun b => b < w.heap.size) noMem c u
theorem fields_open {d n : Nat} {cs : List Value} (ih : ∀ T shs fuel cs x, shOk P d T shs = true → DataW.trod enc P w base spare held fuel T cs = some x → cs.length = shs.length ∧ ∀ (j : Nat) sh, shs[j]? = some sh → OpenAt w d sh cs[j]?) :
    ∀ (l : List Field) (off : Nat) (shs : List Sh), fieldsOk P (shOk P d) l off shs = true → (∀ f ∈ l, ∃ x, DataW.trod enc P w base spare held n f.type ((cs.drop f.offset).take (P.cellsOf f.type)) = some x) →
      ∀ (j : Nat) sh, shs[j]? = some sh → OpenAt w d sh cs[off + j]?
  | [], off, shs, h, _, j, sh, hj => by
    cases shs with
    | nil => simp at hj
    | cons a r => cases h
  | f :: fs, off, shs, h, hf, j, sh, hj => by
    simp only [fieldsOk, Bool.and_eq_true] at h
    obtain ⟨h1, h2, h3, h4⟩ := h
    have h1 := Nat.eq_of_beq_eq_true h1
    have h2 := Nat.le_of_ble_eq_true h2
    obtain ⟨x, hx⟩ := hf f List.mem_cons_self
    obtain ⟨g1, g2⟩ := ih _ _ _ _ _ h3 hx
    rcases Nat.lt_or_ge j (P.cellsOf f.type) with hlt | hge
    · have := g2 j sh (by rw [List.getElem?_take, if_pos hlt]; exact hj)
      rw [List.getElem?_take, if_pos hlt, List.getElem?_drop, h1] at this
      exact this
    · have := fields_open ih fs (off + P.cellsOf f.type) _ h4 (fun g hg => hf g (List.mem_cons_of_mem _ hg)) (j - P.cellsOf f.type) sh (by rw [List.getElem?_drop]; rw [show P.cellsOf f.type + (j - P.cellsOf f.type) = j by omega]; exact hj)
      rw [show off + P.cellsOf f.type + (j - P.cellsOf f.type) = off + j by omega] at this
      exact this
theorem open_cells : ∀ (d : Nat) (T : TypeId) (shs : List Sh) (fuel : Nat) (cs : List Value) (x : DataW H × List MemPlace), shOk P d T shs = true → DataW.trod enc P w base spare held fuel T cs = some x →
    cs.length = shs.length ∧ ∀ (j : Nat) sh, shs[j]? = some sh → OpenAt w d sh cs[j]?
  | 0, _, _, _, _, _, h, _ => by cases h
  | d + 1, T, shs, fuel, cs, x, h, hx => by
    have ih := fun T shs fuel cs x => open_cells d T shs fuel cs x
    have single : ∀ {sh : Sh} {c : Value} {u : PV}, c.oneCell' = true → CellIs (d + 1) sh u → (∀ ρ, Rep ρ w (fun b => b < w.heap.size) noMem c u) → [c].length = [sh].length ∧ ∀ (j : Nat) sh', [sh][j]? = some sh' → OpenAt w (d + 1) sh' [c][j]? := by
      intro sh c u h1 h2 h3
      refine ⟨rfl, fun j sh' hj => ?_⟩
      cases j with
      | zero => simp at hj; subst hj; exact ⟨c, u, rfl, h1, h2, h3⟩
      | succ j => simp at hj
    simp only [shOk] at h
    split at h
    · rename_i hu
      split at h
      · obtain ⟨n, rfl, _, hwf⟩ := DataW.trod_int hu hx
        exact single (u := .int .i64 n) rfl ⟨n, rfl, lit_bounds hwf⟩ fun ρ => rep_int.2 rfl
      · cases h
    · rename_i hu
      split at h
      · obtain ⟨s, rfl, _, hs⟩ := DataW.trod_string hu hx
        exact single (u := .str s) rfl ⟨s, rfl, hs⟩ fun ρ => rep_str.2 rfl
      · cases h
    · rename_i hu
      split at h
      · obtain ⟨b, rfl, _⟩ := DataW.trod_bool hu hx
        exact single (u := .bool b) rfl ⟨b, rfl⟩ fun ρ => rep_bool.2 rfl
      · cases h
    · rename_i hu
      split at h
      · obtain ⟨n, rfl, _, hwf⟩ := DataW.trod_int hu hx
        exact single (u := .int .u8 n) rfl ⟨n, rfl, lit_bytes hwf⟩ fun ρ => rep_int.2 rfl
      · cases h
    · rename_i e hu
      split at h
      · rename_i es
        simp only [Bool.and_eq_true] at h
        obtain ⟨h1, h2, h3⟩ := h
        have h1 := Nat.eq_of_beq_eq_true h1
        have h2 : 0 < es.length := by simpa using h2
        rcases open_slice hu hx with ⟨rfl, _⟩ | ⟨a, len, cap, m, n, D, Pl, rfl, hb, hl, hm, hmm, _, hi⟩
        · exact single (u := .list es.length []) rfl ⟨[], rfl, by simp, fun el hel => by simp at hel⟩ fun ρ => rep_list.2 ⟨none, 0, rfl, Nat.le_refl _, fun h => absurd rfl h⟩
        · have hlm : len ≤ m := by rw [hmm]; split <;> omega
          have key : ∀ i, i < len → ∃ el : List PV, el.length = es.length ∧ ∀ (j : Nat) u, el[j]? = some u → ∃ c, w.cell? (a.add (i * es.length + j)) = some c ∧ c.oneCell' = true ∧ (∀ sh', es[j]? = some sh' → CellIs d sh' u) ∧
              ∀ ρ, Rep ρ w (fun b => b < w.heap.size) noMem c u := by
            intro i hil
            obtain ⟨cs', hc, ht'⟩ := hi i (by omega)
            obtain ⟨g1, g2⟩ := ih _ _ _ _ _ h3 ht'
            rw [h1] at hc
            obtain ⟨_, hcl, hat⟩ := World.cells?_some hc
            classical
            refine ⟨(List.range es.length).map fun j => if hj : j < es.length then Classical.choose (Classical.choose_spec (g2 j es[j] (List.getElem?_eq_getElem hj))) else .any, by simp, fun j u hu => ?_⟩
            have hj : j < es.length := by
              have := (List.getElem?_eq_some_iff.1 hu).1
              simpa using this
            rw [List.getElem?_map, List.getElem?_range hj] at hu
            simp only [Option.map_some, Option.some.injEq, dif_pos hj] at hu
            have hsp := Classical.choose_spec (Classical.choose_spec (g2 j es[j] (List.getElem?_eq_getElem hj)))
            rw [hu] at hsp
            refine ⟨_, ?_, hsp.2.1, fun sh' hs' => ?_, hsp.2.2.2⟩
            · rw [← Go.Deep.add_add, hat j (by omega)]
              exact hsp.1
            · rw [List.getElem?_eq_getElem hj] at hs'
              injection hs' with hs'
              rw [← hs']
              exact hsp.2.2.1
          have hall : ∃ els : List (List PV), els.length = len ∧ ∀ i el, els[i]? = some el → el.length = es.length ∧ ∀ (j : Nat) u, el[j]? = some u → ∃ c, w.cell? (a.add (i * es.length + j)) = some c ∧ c.oneCell' = true ∧ (∀ sh', es[j]? = some sh' → CellIs d sh' u) ∧
              ∀ ρ, Rep ρ w (fun b => b < w.heap.size) noMem c u := by
            classical
            refine ⟨(List.range len).map fun i => if h : i < len then Classical.choose (key i h) else [], by simp, fun i r hr => ?_⟩
            have hi' : i < len := by
              have := (List.getElem?_eq_some_iff.1 hr).1
              simpa using this
            rw [List.getElem?_map, List.getElem?_range hi'] at hr
            simp only [Option.map_some, Option.some.injEq, dif_pos hi'] at hr
            subst hr
            exact Classical.choose_spec (key i hi')
          obtain ⟨els, hlen, hels⟩ := hall
          refine single (u := .list es.length els) rfl ⟨els, rfl, by omega, fun el hel => ?_⟩ fun ρ => rep_list.2 ⟨some a, cap, by rw [hlen], by omega, fun hne => ⟨a, rfl, ?_, fun i el hi => ⟨(hels i el hi).1, fun j u hu => ?_⟩⟩⟩
          · obtain ⟨i, hi⟩ := List.getElem?_of_mem hel
            refine ⟨(hels i el hi).1, fun j sh' u' hs hu => ?_⟩
            obtain ⟨c, _, _, h5, _⟩ := (hels i el hi).2 j u' hu
            exact h5 sh' hs
          · obtain ⟨el, hel⟩ : ∃ el, els[0]? = some el := by
              cases els with
              | nil => exact absurd rfl hne
              | cons r _ => exact ⟨r, rfl⟩
            obtain ⟨g1, g2⟩ := hels 0 el hel
            obtain ⟨c, k1, _⟩ := g2 0 (el[0]'(by omega)) (List.getElem?_eq_getElem (by omega))
            have h3 := cell_lt k1
            have h4 : (a.add (0 * es.length + 0)).block = a.block := by simp only [Addr.add]; split <;> rfl
            rw [h4] at h3
            exact h3
          · obtain ⟨c, k1, k2, _, k4⟩ := (hels i el hi).2 j u hu
            refine ⟨c, ?_, k2, k4 ρ⟩
            rw [Go.Deep.add_add]
            exact k1
      · cases h
    · rename_i fs hu
      rw [Bool.and_eq_true] at h
      obtain ⟨ys, n, _, _, hlen, hyl, hf⟩ := DataW.trod_struct hu hx
      have hc := Nat.eq_of_beq_eq_true h.1
      refine ⟨by rw [hlen, hc], fun j sh hj => ?_⟩
      have := fields_open (cs := cs) (n := n) ih fs.toList 0 shs h.2 (fun f hfm => ?_) j sh hj
      · rw [Nat.zero_add] at this
        obtain ⟨c, u, k1, k2, k3, k4⟩ := this
        refine ⟨c, u, k1, k2, ?_, k4⟩
        have mono : ∀ (d : Nat) (sh : Sh) (u : PV), CellIs d sh u → CellIs (d + 1) sh u := by
          intro d
          induction d with
          | zero => intro sh u h; exact h.elim
          | succ d ihd =>
            intro sh u h
            cases sh with
            | int => exact h
            | str => exact h
            | bool => exact h
            | byte => exact h
            | slice es =>
              obtain ⟨els, h1, h2, h3⟩ := h
              exact ⟨els, h1, h2, fun el hel => ⟨(h3 el hel).1, fun j sh' u' hs hu => ihd _ _ ((h3 el hel).2 j sh' u' hs hu)⟩⟩
        exact mono d sh u k3
      · obtain ⟨i, hi⟩ := List.getElem?_of_mem hfm
        rw [Array.getElem?_toList] at hi
        have hil : i < ys.length := by rw [hyl]; exact (Array.getElem?_eq_some_iff.1 hi).1
        exact ⟨ys[i], by rw [hf i f hi, List.getElem?_eq_getElem hil]⟩
    · cases h
theorem open_all {d : Nat} {T : TypeId} {shs : List Sh} {fuel : Nat} {cs : List Value} {x : DataW H × List MemPlace} (h : shOk P d T shs = true) (hx : DataW.trod enc P w base spare held fuel T cs = some x) :
    ∃ us : List PV, us.length = shs.length ∧ (∀ (j : Nat) sh u, shs[j]? = some sh → us[j]? = some u → CellIs d sh u) ∧ ∀ ρ, Comps ρ w (fun b => b < w.heap.size) noMem cs.toArray us := by
  obtain ⟨h1, h2⟩ := open_cells d T shs fuel cs x h hx
  classical
  refine ⟨(List.range shs.length).map fun j => if hj : j < shs.length then Classical.choose (Classical.choose_spec (h2 j shs[j] (List.getElem?_eq_getElem hj))) else .any, by simp, fun j sh u hs hu => ?_, fun ρ => ⟨by simp [h1], fun j u hu => ?_⟩⟩
  · have hj : j < shs.length := (List.getElem?_eq_some_iff.1 hs).1
    rw [List.getElem?_map, List.getElem?_range hj] at hu
    simp only [Option.map_some, Option.some.injEq, dif_pos hj] at hu
    have hsp := Classical.choose_spec (Classical.choose_spec (h2 j shs[j] (List.getElem?_eq_getElem hj)))
    rw [hu] at hsp
    rw [List.getElem?_eq_getElem hj] at hs
    injection hs with hs
    rw [← hs]
    exact hsp.2.2.1
  · have hj : j < shs.length := by
      have := (List.getElem?_eq_some_iff.1 hu).1
      simpa using this
    rw [List.getElem?_map, List.getElem?_range hj] at hu
    simp only [Option.map_some, Option.some.injEq, dif_pos hj] at hu
    have hsp := Classical.choose_spec (Classical.choose_spec (h2 j shs[j] (List.getElem?_eq_getElem hj)))
    rw [hu] at hsp
    refine ⟨_, ?_, hsp.2.2.2 ρ⟩
    rw [List.getElem?_toArray]
    exact hsp.1
end
theorem cell_byte {d : Nat} {u : PV} (h : CellIs (d + 1) .byte u) : ∃ n : Int, u = .int .u8 n ∧ 0 ≤ n ∧ n ≤ 255 := h
theorem cell_list {α : Type} {d : Nat} {es : List Sh} {u : PV} (f : α → List PV) (h : CellIs (d + 1) (.slice es) u)
    (hf : ∀ el : List PV, el.length = es.length → (∀ (j : Nat) sh' u', es[j]? = some sh' → el[j]? = some u' → CellIs d sh' u') → ∃ a, el = f a) : ∃ xs : List α, u = .list es.length (xs.map f) ∧ xs.length ≤ Go.maxLen := by
  obtain ⟨els, rfl, h2, h3⟩ := h
  have : ∃ xs : List α, els = xs.map f := by
    clear h2
    induction els with
    | nil => exact ⟨[], rfl⟩
    | cons el r ih =>
      obtain ⟨xs, hx⟩ := ih fun el' hel => h3 el' (List.mem_cons_of_mem _ hel)
      obtain ⟨a, ha⟩ := hf el (h3 el List.mem_cons_self).1 (h3 el List.mem_cons_self).2
      exact ⟨a :: xs, by rw [List.map_cons, ← hx, ← ha]⟩
  obtain ⟨xs, rfl⟩ := this
  exact ⟨xs, rfl, by simpa using h2⟩
end Go.Vs
set_option linter.unusedVariables false
set_option linter.unusedSimpArgs false
namespace Go.Proofs.Ytdpgjihgfhefeaa.FnProtectionDone
open Go.ChangeShapes Go.WideShapes Go.ChangeAt Go.RowKit
open Go.Vs
theorem own : ownKnob Try.prog.godebug = none := by kernel_rfl
theorem laidOut : laidOutB Try.prog = true := by kernel_rfl
theorem one_cell {d : Nat} {sh : Sh} {us : List PV} (hl : us.length = 1) (h : ∀ (j : Nat) sh' u, [sh][j]? = some sh' → us[j]? = some u → CellIs d sh' u) : ∃ u, us = [u] ∧ CellIs d sh u := by
  match us, hl with
  | [u], _ => exact ⟨u, rfl, h 0 sh u rfl rfl⟩
set_option maxRecDepth 100000 in
theorem lifted (os : Os) (started : os.Started) (H : Type) (enc : TypeId × Value → H) :
    ReturnsInHanded {} Try.checked os 8 .any (Rows.fnProtectionSpec.pre6 enc Try.prog Try.f8 Rows.fnProtectionRow.domain false) (Rows.fnProtectionSpec.post enc Try.prog Try.f8 false true false false) := by
  refine returnsInHanded_of_change (C := Try.checked) own started (by kernel_rfl) Try.func8
    (ChangeSpec.witness6 (enc := enc) (C := Try.checked) false ⟨#[], #[.slice none 0 0], []⟩ 8 (by kernel_rfl) (by kernel_rfl) (by kernel_rfl) (by kernel_rfl)) ?_
  intro W base args ds gs before hval0 hW hcnd _
  have hval : ∀ (j : Nat) t v, Try.f8.params[j]? = some t → args[j]? = some v → Value.okWide Try.prog W .any base t v := hval0
  have hW' := hW
  obtain ⟨p, q, hA0, hV, rfl, hfz, hnd⟩ := hW
  have hA : DataW.TrodAll enc Try.prog W 0 (fun _ => true) true Try.f8.params.toList args.toList ds p := hA0
  rw [Try.params8] at hA hval
  obtain ⟨v0, vs0, d0, ds0, p0, q0, hargs, rfl, rfl, h0, r0⟩ := trodAll_cons hA
  obtain ⟨rfl, rfl, rfl⟩ := trodAll_nil r0
  obtain rfl : args = #[v0] := by cases args; simp_all
  obtain ⟨rfl, rfl⟩ := trodVars_none hV
  obtain ⟨a0, len0, cap0, rfl⟩ := okWide_slice Try.underlying22 (hval 0 22 v0 rfl rfl)
  have k0 := h0
  have lt0 : ∀ x ∈ p0, x.block < W.heap.size := by obtain ⟨m, hm⟩ := k0; exact DataW.trod_lt m _ _ _ hm
  obtain ⟨us0, ul0, uc0, ur0⟩ : ∃ us : List PV, us.length = ([.slice [.byte]] : List Sh).length ∧ (∀ (j : Nat) sh u, ([.slice [.byte]] : List Sh)[j]? = some sh → us[j]? = some u → CellIs 4 sh u) ∧ ∀ ρ, Comps ρ W (fun b => b < W.heap.size) noMem #[.slice a0 len0 cap0] us := by
    obtain ⟨fuel, hf⟩ := h0
    exact open_all (d := 4) (T := 22) (by kernel_rfl) (by simpa [Value.cells] using hf)
  obtain ⟨u0, rfl, c0⟩ := one_cell ul0 uc0
  obtain ⟨code', rfl, b0⟩ := cell_list (fun b : {b : Int // 0 ≤ b ∧ b ≤ 255} => [PV.int .u8 b.1]) c0 (fun el hl h => by match el, hl with | [u], _ => obtain ⟨m, rfl, hm⟩ := cell_byte (h 0 _ _ rfl rfl); exact ⟨⟨m, hm⟩, rfl⟩)
  obtain ⟨code, e0, l0, b0'⟩ : ∃ code : List Int, code'.map (fun b : {b : Int // 0 ≤ b ∧ b ≤ 255} => [PV.int .u8 b.1]) = bytesP code ∧ code.length = code'.length ∧ ∀ b ∈ code, 0 ≤ b ∧ b ≤ 255 := ⟨code'.map (·.1), by simp [bytesP, Function.comp_def], by simp, fun a ha => by obtain ⟨q, _, rfl⟩ := List.mem_map.1 ha; exact q.2⟩
  rw [e0] at ur0
  rw [← l0] at b0
  clear hA0 hval0
  have hcomp : Comps (fun _ => none) W (fun b => b < W.heap.size) noMem #[.slice a0 len0 cap0] [.list 1 (bytesP code)] := by
    refine ⟨rfl, fun j u hu => ?_⟩
    match j, hu with
    | 0, hu =>
      simp only [List.getElem?_cons_zero, Option.some.injEq] at hu
      subst hu
      obtain ⟨c, hc, hr⟩ := (ur0 (fun _ => none)).2 0 _ rfl
      simp only [List.getElem?_toArray, List.getElem?_cons_zero, Option.some.injEq] at hc
      subst hc
      exact ⟨_, rfl, hr⟩
  refine (calls_below (law_FnProtection code (by simpa [Go.maxLen] using b0) b0') hcomp).mono fun e W' ⟨he, bel⟩ => ?_
  subst he
  exact ⟨_, rfl, _, _, _, [], _, [], hW', trodAll_mk1 (shut_bool Try.underlying4 _), (trodAll_cons_mk (Below.trod laidOut (by kernel_rfl) (of_decide_eq_true (by kernel_rfl)) k0 bel lt0) trodAll_mk0), rfl, bel.frame _, fun h => by cases h⟩
theorem over : Rows.fnProtectionRow.holds Try.pinned (OpenSpec.ofChange Rows.fnProtectionSpec) :=
  OpenClaim.holds_of_wide 8 Try.f8 rfl rfl rfl rfl rfl rfl rfl ⟨rfl, rfl, rfl, rfl, rfl⟩ rfl rfl rfl rfl rfl (by kernel_rfl) Try.func8 (by kernel_rfl)
    (of_decide_eq_true (by kernel_rfl)) (by unfold Func.isWrapper; first | (rw [if_pos (by decide +kernel)]; kernel_rfl) | (rw [if_neg (by decide +kernel)]; exact ⟨rfl, rfl⟩))
    (fun os started H enc _ => lifted os started H enc)
theorem proved : Rows.FnProtectionSaid := over
end Go.Proofs.Ytdpgjihgfhefeaa.FnProtectionDone
