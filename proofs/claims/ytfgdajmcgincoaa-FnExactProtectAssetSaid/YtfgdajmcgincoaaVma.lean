/- RISK: what a law writes into a list of assets. -/
import Derived.Test.YtfgdajmcgincoaaVau
import Derived.Test.YtfgdajmcgincoaaVrAsset
import Derived.Test.YtfgdajmcgincoaaVrScene
set_option linter.unusedVariables false
set_option linter.unusedSimpArgs false
set_option linter.unusedSectionVars false
set_option maxRecDepth 100000
set_option maxHeartbeats 4000000
-- SADD
namespace Go.Vs
open Go.Proofs
attribute [local irreducible] exec vwp thenQ blkQ loopQ RetPost

section
variable [fl : Inhabited FlrT] {P : Program} {ops : Array Oper} {draw : Bool} {env : List (Nat × PV)} {mem : List (Id × Option Row)} {tr : List (List Id × List Id)} {rest : List Oper} {d : Nat} {T yT ty : TypeId} {pos : String} {af : Array Edge} {x y : Operand} {K : St → List (List Id × List Id) → Prop}
theorem x_strAdd {m n : ByteArray} (hx : ev (getE env) x = .str m) (hy : ev (getE env) y = .str n) (hb : m.size + n.size ≤ 9223372036854775807)
    (hk : exec P ops draw rest ⟨(d, .str (m ++ n)) :: env, mem⟩ (([], []) :: tr) K) : exec P ops draw (⟨some d, .binOp .add T x y yT, ty, pos, af, none⟩ :: rest) ⟨env, mem⟩ tr K :=
  x_strBin (.str (m ++ n)) hx hy (by simp only [strBin]; rw [if_pos hb]) hk
end
theorem bs_lit (l : List UInt8) : (⟨l.toArray⟩ : ByteArray).size = l.length := by simp [ByteArray.size]
theorem app_size (a b : ByteArray) : (a ++ b).size = a.size + b.size := ByteArray.size_append
theorem bs_lit2 (l : List UInt8) : (⟨⟨l⟩⟩ : ByteArray).size = l.length := rfl
theorem strB1 (n : Int) : (strB [n]).size = 1 := by simp [strB, ByteArray.size]
/-- Digits put ahead of a text. -/
def mtL : Nat → Int → ByteArray → ByteArray
  | 0, _, s => s
  | f + 1, k, s => if 0 < k then mtL f (k / 10) (strB [IntKind.wrap .u8 (48 + k % 10)] ++ s) else s
theorem mtL_zero (f : Nat) (s : ByteArray) : mtL f 0 s = s := by cases f <;> simp [mtL]
def mtx (k : Int) : ByteArray := ⟨#[109]⟩ ++ mtL 13 k ⟨#[]⟩
theorem con_markText (k : Int) (hk : 0 < k ∧ k ≤ 1099511627776) : Con Try.prog 37 [.int .i64 k] (.str (mtx k)) := by
  intro al
  refine contract_of hmix Try.func37 rfl (by kernel_rfl) (by kernel_rfl) (Nat.le_of_ble_eq_true rfl) (fun row h => by cases h) ?_
  have hty_u3 := ty_u3
  have hty_u5 := ty_u5
  have hty_s80 := ty_s80
  have hty_u80 := ty_u80
  have hty_u9 := ty_u9
  repeat' (first
      | (refine g_exec ?_; first | (refine g_move ?_; refine x_moveO _ rfl ?_) | (refine g_assign ?_; refine x_assignO _ rfl ?_) | (refine g_bin ?_; first | (refine x_add rfl rfl aO ?_) | (refine x_quo rfl rfl aO ?_) | (refine x_rem rfl rfl aO ?_) | (refine x_quoT rfl rfl aO ?_) | (refine x_remT rfl rfl aO ?_) | (refine x_bin _ rfl rfl rfl ?_) | (refine x_strAdd rfl rfl (by first | omega | (simp only [app_size, bs_lit, bs_lit2, List.length_cons, List.length_nil]; omega) | fail) ?_) | (refine x_strBin _ rfl rfl rfl ?_)) | (refine x_convert_i aA aA (evO_ok rfl) aO ?_) | (refine x_convert aA aA (evO_ok rfl) ?_) | (refine x_buildSliceO aA rfl rfl rfl ?_) | (refine x_nil (hK _ _ (.inl rfl) ?_); clear hK K) | (refine x_nil (hK _ _ (.inr (by kernel_rfl)) ?_); clear hK K))
      | (refine g_code ?_; first | (refine v_seq ?_) | (refine v_region (fun K hK => ?_)) | (refine v_block ?_) | (refine v_skip ?_) | (refine v_ret ?_) | (refine v_exit ?_) | (refine g_cond ?_; first | (refine v_cond_y rfl aD ?_) | (refine v_cond_n rfl aD ?_) | (refine v_condt rfl (fun h => ?_) (fun h => ?_) <;> (have h' := h; (try simp only [sx] at h')))))
      | (refine q_then ?_) | (refine q_then_r ?_) | (refine q_then_e ?_) | (refine q_blk_n ?_) | (refine q_blk_r ?_) | (refine q_blk_e ?_) | (refine q_blk_o rfl ?_) | (refine q_loop_r ?_) | (refine q_loop_e ?_) | (refine ret_n ?_))
  all_goals try (exfalso; omega)
  refine v_loopK [] [] (fun p : Nat × Int × ByteArray => [(0, .int .i64 p.2.1), (3, .str p.2.2)]) (fun p : Nat × Int × ByteArray => []) (fun p : Nat × Int × ByteArray => p.2.1 < 10 ^ p.1 ∧ (0 ≤ p.2.1 ∧ p.2.1 ≤ 1099511627776) ∧ mtL p.1 p.2.1 p.2.2 = mtL 13 k ⟨#[]⟩ ∧ p.2.2.size + p.1 ≤ 20) (fun p : Nat × Int × ByteArray => p.2.1.toNat) ((13, k, ⟨#[]⟩)) rfl rfl (fun _ => rfl) (fun _ => rfl) rfl (by refine ⟨?_, ?_, rfl, rfl⟩ <;> (repeat' (first | exact trivial | exact ⟨rfl, rfl⟩ | exact rfl | exact ⟨sub_fn, refs_fn⟩ | refine ⟨⟨rfl, rfl⟩, ?_⟩ | refine ⟨⟨sub_fn, refs_fn⟩, ?_⟩ | refine ⟨⟨rfl, fun h => Bool.noConfusion h⟩, ?_⟩ | refine ⟨⟨rfl, fun h => ?_⟩, ?_⟩ | refine ⟨rfl, ?_⟩ | refine ⟨?_, ?_⟩ | fail))) ⟨by simp only; omega, by simp only; omega, rfl, Nat.le_of_ble_eq_true rfl⟩ (fun p hp => ?_)
  obtain ⟨f, n, s⟩ := p
  obtain ⟨h1, h2, h3, h4⟩ := hp
  simp only at h1 h2 h3 h4
  by_cases h0 : 0 < n
  · dsimp only
    repeat' (first
      | (refine g_exec ?_; first | (refine g_move ?_; refine x_moveO _ rfl ?_) | (refine g_assign ?_; refine x_assignO _ rfl ?_) | (refine g_bin ?_; first | (refine x_add rfl rfl aO ?_) | (refine x_quo rfl rfl aO ?_) | (refine x_rem rfl rfl aO ?_) | (refine x_quoT rfl rfl aO ?_) | (refine x_remT rfl rfl aO ?_) | (refine x_bin _ rfl rfl rfl ?_) | (refine x_strAdd rfl rfl (by first | omega | (simp only [app_size, bs_lit, bs_lit2, List.length_cons, List.length_nil]; omega) | fail) ?_) | (refine x_strBin _ rfl rfl rfl ?_)) | (refine x_convert_i aA aA (evO_ok rfl) aO ?_) | (refine x_convert aA aA (evO_ok rfl) ?_) | (refine x_buildSliceO aA rfl rfl rfl ?_) | (refine x_nil (hK _ _ (.inl rfl) ?_); clear hK K) | (refine x_nil (hK _ _ (.inr (by kernel_rfl)) ?_); clear hK K))
      | (refine g_code ?_; first | (refine v_seq ?_) | (refine v_region (fun K hK => ?_)) | (refine v_block ?_) | (refine v_skip ?_) | (refine v_ret ?_) | (refine v_exit ?_) | (refine g_cond ?_; first | (refine v_cond_y rfl aD ?_) | (refine v_cond_n rfl aD ?_) | (refine v_condt rfl (fun h => ?_) (fun h => ?_) <;> (have h' := h; (try simp only [sx] at h')))))
      | (refine q_then ?_) | (refine q_then_r ?_) | (refine q_then_e ?_) | (refine q_blk_n ?_) | (refine q_blk_r ?_) | (refine q_blk_e ?_) | (refine q_blk_o rfl ?_) | (refine q_loop_r ?_) | (refine q_loop_e ?_) | (refine ret_n ?_))
    refine g_exec ?_
    refine x_convertB [IntKind.wrap .u8 (48 + n % 10)] aA aA aA rfl rfl ⟨rfl, rfl, by decide⟩ rfl ?_
    have hz := strB1 (IntKind.wrap .u8 (48 + n % 10))
    repeat' (first
      | (refine g_exec ?_; first | (refine g_move ?_; refine x_moveO _ rfl ?_) | (refine g_assign ?_; refine x_assignO _ rfl ?_) | (refine g_bin ?_; first | (refine x_add rfl rfl aO ?_) | (refine x_quo rfl rfl aO ?_) | (refine x_rem rfl rfl aO ?_) | (refine x_quoT rfl rfl aO ?_) | (refine x_remT rfl rfl aO ?_) | (refine x_bin _ rfl rfl rfl ?_) | (refine x_strAdd rfl rfl (by first | omega | (simp only [app_size, bs_lit, bs_lit2, List.length_cons, List.length_nil]; omega) | fail) ?_) | (refine x_strBin _ rfl rfl rfl ?_)) | (refine x_convert_i aA aA (evO_ok rfl) aO ?_) | (refine x_convert aA aA (evO_ok rfl) ?_) | (refine x_buildSliceO aA rfl rfl rfl ?_) | (refine x_nil (hK _ _ (.inl rfl) ?_); clear hK K) | (refine x_nil (hK _ _ (.inr (by kernel_rfl)) ?_); clear hK K))
      | (refine g_code ?_; first | (refine v_seq ?_) | (refine v_region (fun K hK => ?_)) | (refine v_block ?_) | (refine v_skip ?_) | (refine v_ret ?_) | (refine v_exit ?_) | (refine g_cond ?_; first | (refine v_cond_y rfl aD ?_) | (refine v_cond_n rfl aD ?_) | (refine v_condt rfl (fun h => ?_) (fun h => ?_) <;> (have h' := h; (try simp only [sx] at h')))))
      | (refine q_then ?_) | (refine q_then_r ?_) | (refine q_then_e ?_) | (refine q_blk_n ?_) | (refine q_blk_r ?_) | (refine q_blk_e ?_) | (refine q_blk_o rfl ?_) | (refine q_loop_r ?_) | (refine q_loop_e ?_) | (refine ret_n ?_))
    obtain ⟨f, rfl⟩ : ∃ g, f = g + 1 := by
      cases f with
      | zero => simp at h1; omega
      | succ g => exact ⟨g, rfl⟩
    have hp10 : (10 : Int) ^ (f + 1) = 10 * 10 ^ f := by rw [Int.pow_succ]; omega
    refine q_next (f, n / 10, strB [IntKind.wrap .u8 (48 + n % 10)] ++ s) rfl (by refine ⟨?_, ?_, rfl, rfl⟩ <;> (repeat' (first | exact trivial | exact ⟨rfl, rfl⟩ | exact rfl | exact ⟨sub_fn, refs_fn⟩ | refine ⟨⟨rfl, rfl⟩, ?_⟩ | refine ⟨⟨sub_fn, refs_fn⟩, ?_⟩ | refine ⟨⟨rfl, fun h => Bool.noConfusion h⟩, ?_⟩ | refine ⟨⟨rfl, fun h => ?_⟩, ?_⟩ | refine ⟨rfl, ?_⟩ | refine ⟨?_, ?_⟩ | fail))) ⟨by simp only; omega, by simp only; omega, by simp only; rw [← h3]; simp only [mtL]; rw [if_pos h0], by simp only [app_size, strB1]; omega⟩ (by simp only; omega)
  · dsimp only
    have hn : n = 0 := by omega
    subst hn
    rw [mtL_zero] at h3
    subst h3
    repeat' (first
      | (refine g_exec ?_; first | (refine g_move ?_; refine x_moveO _ rfl ?_) | (refine g_assign ?_; refine x_assignO _ rfl ?_) | (refine g_bin ?_; first | (refine x_add rfl rfl aO ?_) | (refine x_quo rfl rfl aO ?_) | (refine x_rem rfl rfl aO ?_) | (refine x_quoT rfl rfl aO ?_) | (refine x_remT rfl rfl aO ?_) | (refine x_bin _ rfl rfl rfl ?_) | (refine x_strAdd rfl rfl (by first | omega | (simp only [app_size, bs_lit, bs_lit2, List.length_cons, List.length_nil]; omega) | fail) ?_) | (refine x_strBin _ rfl rfl rfl ?_)) | (refine x_convert_i aA aA (evO_ok rfl) aO ?_) | (refine x_convert aA aA (evO_ok rfl) ?_) | (refine x_buildSliceO aA rfl rfl rfl ?_) | (refine x_nil (hK _ _ (.inl rfl) ?_); clear hK K) | (refine x_nil (hK _ _ (.inr (by kernel_rfl)) ?_); clear hK K))
      | (refine g_code ?_; first | (refine v_seq ?_) | (refine v_region (fun K hK => ?_)) | (refine v_block ?_) | (refine v_skip ?_) | (refine v_ret ?_) | (refine v_exit ?_) | (refine g_cond ?_; first | (refine v_cond_y rfl aD ?_) | (refine v_cond_n rfl aD ?_) | (refine v_condt rfl (fun h => ?_) (fun h => ?_) <;> (have h' := h; (try simp only [sx] at h')))))
      | (refine q_then ?_) | (refine q_then_r ?_) | (refine q_then_e ?_) | (refine q_blk_n ?_) | (refine q_blk_r ?_) | (refine q_blk_e ?_) | (refine q_blk_o rfl ?_) | (refine q_loop_r ?_) | (refine q_loop_e ?_) | (refine ret_n ?_))
    exact ret_str rfl (lookE_ok rfl) rfl
theorem con_markAssetS (xs : List Asset) (k : Int) (hn : xs.length ≤ 1099511627776) (hk : 0 < k ∧ k + 4 * xs.length ≤ 1099511627776) : ∃ fin, (∀ e ∈ fin, ∀ c ∈ e, c.flat = true) ∧ fin.length = xs.length ∧ ContractP Try.prog 15 true [.osl (io, 0) 0 xs.length, .int .i64 k] [⟨55, 4, xs.map Asset.pv, false⟩] (fun r' fin' => r' = .int .i64 (k + 4 * xs.length) ∧ fin' = [fin]) := by
  refine ⟨(List.range xs.length).map fun i : Nat => [.int .i64 (k + 4 * i), .str (mtx (k + 4 * i + 1)), .int .i64 (k + 4 * i + 2), .int .i64 (k + 4 * i + 3)], ?_, by simp, ?_⟩
  · intro e he c hc
    obtain ⟨i, _, rfl⟩ := List.mem_map.1 he
    simp only [List.mem_cons, List.not_mem_nil, or_false] at hc
    rcases hc with rfl | rfl | rfl | rfl <;> rfl
  generalize hfin : ((List.range xs.length).map fun i : Nat => [PV.int .i64 (k + 4 * i), .str (mtx (k + 4 * i + 1)), .int .i64 (k + 4 * i + 2), .int .i64 (k + 4 * i + 3)]) = fin
  have hfl : fin.length = xs.length := by rw [← hfin]; simp
  have hat : ∀ i : Nat, i < xs.length → fin[i]? = some [.int .i64 (k + 4 * i), .str (mtx (k + 4 * i + 1)), .int .i64 (k + 4 * i + 2), .int .i64 (k + 4 * i + 3)] := by
    intro i hi
    rw [← hfin]
    simp [hi]
  refine contract_of hmix Try.func15 rfl (by kernel_rfl) (by kernel_rfl) (Nat.le_of_ble_eq_true rfl) (fun row h => by simp at h; subst h; exact .inl rfl) ?_
  have hty_u29 := ty_u29
  have hty_s29 := ty_s29
  have hty_f55_0 := ty_f55_0
  have hty_t3 := ty_t3
  have hty_f55_1 := ty_f55_1
  have hty_t9 := ty_t9
  have hty_f55_2 := ty_f55_2
  have hty_f55_3 := ty_f55_3
  have hl1 : (xs.map Asset.pv).length = xs.length := by simp
  repeat' (first
      | (refine g_exec ?_; first | (refine g_move ?_; refine x_moveO _ rfl ?_) | (refine g_assign ?_; refine x_assignO _ rfl ?_) | (refine g_bin ?_; first | (refine x_add rfl rfl aO ?_) | (refine x_bin _ rfl rfl rfl ?_) | (refine x_strAdd rfl rfl (by first | omega | (simp only [app_size, bs_lit, bs_lit2, List.length_cons, List.length_nil]; omega) | fail) ?_) | (refine x_strBin _ rfl rfl rfl ?_)) | (refine g_field ?_; first | (refine x_field_p _ aA rfl aL ?_) | (refine x_field_o _ aA rfl rfl (by simp only [lx, Nat.reduceAdd]; first | done | rfl) ?_)) | (refine g_index ?_; first | (refine x_index_l _ aA rfl rfl aO aA ?_) | (refine x_index_o _ aA rfl rfl rfl rfl aO aO (by first | (rw [Nat.zero_add, Int.toNat_natCast]) | (rw [Nat.zero_add]) | rfl) ?_)) | (refine g_call ?_; first | (refine x_len_l aA rfl ?_) | (refine x_len_o aA rfl rfl ?_) | (refine x_len_n aA rfl ?_) | (refine x_len_s aA (evO_ok rfl) ?_)) | (refine x_storeO _ _ _ rfl rfl aE (by first | assumption | (exact TAgg.size aA)) rfl rfl rfl aZ rfl aL (by first | (first | (simp only [lx, Nat.reduceAdd]; first | done | rfl) | fail) | rfl) ?_) | (refine x_nil (hK _ _ (.inl rfl) ?_); clear hK K) | (refine x_nil (hK _ _ (.inr (by kernel_rfl)) ?_); clear hK K))
      | (refine g_code ?_; first | (refine v_seq ?_) | (refine v_region (fun K hK => ?_)) | (refine v_block ?_) | (refine v_skip ?_) | (refine v_ret ?_) | (refine v_exit ?_) | (refine g_cond ?_; first | (refine v_cond_y rfl aD ?_) | (refine v_cond_n rfl aD ?_) | (refine v_condt rfl (fun h => ?_) (fun h => ?_) <;> (have h' := h; (try simp only [sx] at h')))))
      | (refine q_then ?_) | (refine q_then_r ?_) | (refine q_then_e ?_) | (refine q_blk_n ?_) | (refine q_blk_r ?_) | (refine q_blk_e ?_) | (refine q_blk_o rfl ?_) | (refine q_loop_r ?_) | (refine q_loop_e ?_) | (refine ret_n ?_))
  refine v_loopK [] [] (fun p : Nat × Int × List (List PV) => [(0, .osl (io, 0) 0 xs.length), (1, .int .i64 p.2.1), (5, .int .i64 p.1)]) (fun p : Nat × Int × List (List PV) => [((io, 0), some ⟨55, 4, p.2.2, false⟩)]) (fun p : Nat × Int × List (List PV) => p.1 ≤ xs.length ∧ p.2.1 = k + 4 * p.1 ∧ p.2.2.length = xs.length ∧ (∀ j, j < p.1 → p.2.2[j]? = fin[j]?) ∧ ∀ e ∈ p.2.2, ∃ a b c d, e = [.int .i64 a, .str b, .int .i64 c, .int .i64 d]) (fun p : Nat × Int × List (List PV) => xs.length - p.1) ((0, k, xs.map Asset.pv)) rfl rfl (fun _ => rfl) (fun _ => rfl) rfl (by refine ⟨?_, ?_, rfl, rfl⟩ <;> (repeat' (first | exact trivial | exact ⟨rfl, rfl⟩ | exact rfl | exact ⟨sub_fn, refs_fn⟩ | refine ⟨⟨rfl, rfl⟩, ?_⟩ | refine ⟨⟨sub_fn, refs_fn⟩, ?_⟩ | refine ⟨⟨rfl, fun h => Bool.noConfusion h⟩, ?_⟩ | refine ⟨⟨rfl, fun h => ?_⟩, ?_⟩ | refine ⟨rfl, ?_⟩ | refine ⟨?_, ?_⟩ | fail))) ⟨by simp, by simp, by simp, fun j hj => by simp at hj, fun e he => by obtain ⟨a, _, rfl⟩ := List.mem_map.1 he; exact ⟨_, _, _, _, rfl⟩⟩ (fun p hp => ?_)
  obtain ⟨i, q, es⟩ := p
  obtain ⟨hi1, hi2, hi3, hi4, hi5⟩ := hp
  simp only at hi1 hi2 hi3 hi4 hi5
  rcases Nat.lt_or_ge i xs.length with hlt | hge
  · obtain ⟨e, he⟩ := get_ex (show i < es.length by omega)
    obtain ⟨e0, e1, e2, e3, rfl⟩ := hi5 e (get_mem he)
    dsimp only
    have hcon := con_markText (q + 1) aO
    repeat' (first
      | (refine g_exec ?_; first | (refine g_move ?_; refine x_moveO _ rfl ?_) | (refine g_assign ?_; refine x_assignO _ rfl ?_) | (refine g_bin ?_; first | (refine x_add rfl rfl aO ?_) | (refine x_bin _ rfl rfl rfl ?_) | (refine x_strAdd rfl rfl (by first | omega | (simp only [app_size, bs_lit, bs_lit2, List.length_cons, List.length_nil]; omega) | fail) ?_) | (refine x_strBin _ rfl rfl rfl ?_)) | (refine g_field ?_; first | (refine x_field_p _ aA rfl aL ?_) | (refine x_field_o _ aA rfl rfl (by simp only [lx, Nat.reduceAdd]; first | done | rfl) ?_)) | (refine g_index ?_; first | (refine x_index_l _ aA rfl rfl aO aA ?_) | (refine x_index_o _ aA rfl rfl rfl rfl aO aO (by first | (rw [Nat.zero_add, Int.toNat_natCast]) | (rw [Nat.zero_add]) | rfl) ?_)) | (refine g_call ?_; first | (refine x_callG true (hcon) rfl rfl rfl aS rfl aH ?_; simp only [cl]) | (refine x_len_l aA rfl ?_) | (refine x_len_o aA rfl rfl ?_) | (refine x_len_n aA rfl ?_) | (refine x_len_s aA (evO_ok rfl) ?_)) | (refine x_storeO _ _ _ rfl rfl aE (by first | assumption | (exact TAgg.size aA)) rfl rfl rfl aZ rfl aL (by first | (first | (simp only [lx, Nat.reduceAdd]; first | done | rfl) | fail) | rfl) ?_) | (refine x_nil (hK _ _ (.inl rfl) ?_); clear hK K) | (refine x_nil (hK _ _ (.inr (by kernel_rfl)) ?_); clear hK K))
      | (refine g_code ?_; first | (refine v_seq ?_) | (refine v_region (fun K hK => ?_)) | (refine v_block ?_) | (refine v_skip ?_) | (refine v_ret ?_) | (refine v_exit ?_) | (refine g_cond ?_; first | (refine v_cond_y rfl aD ?_) | (refine v_cond_n rfl aD ?_) | (refine v_condt rfl (fun h => ?_) (fun h => ?_) <;> (have h' := h; (try simp only [sx] at h')))))
      | (refine q_then ?_) | (refine q_then_r ?_) | (refine q_then_e ?_) | (refine q_blk_n ?_) | (refine q_blk_r ?_) | (refine q_blk_e ?_) | (refine q_blk_o rfl ?_) | (refine q_loop_r ?_) | (refine q_loop_e ?_) | (refine ret_n ?_))
    refine q_next (i + 1, q + 1 + 1 + 1 + 1, es.set i [.int .i64 q, .str (mtx (q + 1)), .int .i64 (q + 1 + 1), .int .i64 (q + 1 + 1 + 1)]) rfl (by refine ⟨?_, ?_, rfl, rfl⟩ <;> (repeat' (first | exact trivial | exact ⟨rfl, rfl⟩ | exact rfl | exact ⟨sub_fn, refs_fn⟩ | refine ⟨⟨rfl, rfl⟩, ?_⟩ | refine ⟨⟨sub_fn, refs_fn⟩, ?_⟩ | refine ⟨⟨rfl, fun h => Bool.noConfusion h⟩, ?_⟩ | refine ⟨⟨rfl, fun h => ?_⟩, ?_⟩ | refine ⟨rfl, ?_⟩ | refine ⟨?_, ?_⟩ | fail))) ⟨by simp only; omega, by simp only; omega, by simp [hi3], fun j hj => ?_, fun e he => ?_⟩ (by simp only; omega)
    · simp only at hj ⊢
      by_cases hji : j = i
      · subst hji
        rw [List.getElem?_set_self aO, hat j hlt, ← hi2]
        simp only [Option.some.injEq, List.cons.injEq, PV.int.injEq, true_and, and_true]
        exact ⟨by omega, by omega⟩
      · rw [List.getElem?_set_ne (fun e => hji e.symm)]
        exact hi4 j aO
    · rcases List.mem_or_eq_of_mem_set he with h1 | h1
      · exact hi5 e h1
      · exact ⟨_, _, _, _, h1⟩
  · dsimp only
    repeat' (first
      | (refine g_exec ?_; first | (refine g_move ?_; refine x_moveO _ rfl ?_) | (refine g_assign ?_; refine x_assignO _ rfl ?_) | (refine g_bin ?_; first | (refine x_add rfl rfl aO ?_) | (refine x_bin _ rfl rfl rfl ?_) | (refine x_strAdd rfl rfl (by first | omega | (simp only [app_size, bs_lit, bs_lit2, List.length_cons, List.length_nil]; omega) | fail) ?_) | (refine x_strBin _ rfl rfl rfl ?_)) | (refine g_field ?_; first | (refine x_field_p _ aA rfl aL ?_) | (refine x_field_o _ aA rfl rfl (by simp only [lx, Nat.reduceAdd]; first | done | rfl) ?_)) | (refine g_index ?_; first | (refine x_index_l _ aA rfl rfl aO aA ?_) | (refine x_index_o _ aA rfl rfl rfl rfl aO aO (by first | (rw [Nat.zero_add, Int.toNat_natCast]) | (rw [Nat.zero_add]) | rfl) ?_)) | (refine g_call ?_; first | (refine x_len_l aA rfl ?_) | (refine x_len_o aA rfl rfl ?_) | (refine x_len_n aA rfl ?_) | (refine x_len_s aA (evO_ok rfl) ?_)) | (refine x_storeO _ _ _ rfl rfl aE (by first | assumption | (exact TAgg.size aA)) rfl rfl rfl aZ rfl aL (by first | (first | (simp only [lx, Nat.reduceAdd]; first | done | rfl) | fail) | rfl) ?_) | (refine x_nil (hK _ _ (.inl rfl) ?_); clear hK K) | (refine x_nil (hK _ _ (.inr (by kernel_rfl)) ?_); clear hK K))
      | (refine g_code ?_; first | (refine v_seq ?_) | (refine v_region (fun K hK => ?_)) | (refine v_block ?_) | (refine v_skip ?_) | (refine v_ret ?_) | (refine v_exit ?_) | (refine g_cond ?_; first | (refine v_cond_y rfl aD ?_) | (refine v_cond_n rfl aD ?_) | (refine v_condt rfl (fun h => ?_) (fun h => ?_) <;> (have h' := h; (try simp only [sx] at h')))))
      | (refine q_then ?_) | (refine q_then_r ?_) | (refine q_then_e ?_) | (refine q_blk_n ?_) | (refine q_blk_r ?_) | (refine q_blk_e ?_) | (refine q_blk_o rfl ?_) | (refine q_loop_r ?_) | (refine q_loop_e ?_) | (refine ret_n ?_))
    have hes : es = fin := List.ext_getElem? fun j => by
      rcases Nat.lt_or_ge j i with hj | hj
      · exact hi4 j hj
      · rw [List.getElem?_eq_none aO, List.getElem?_eq_none aO]
    subst hes
    exact ret_io rfl (lookE_ok rfl) (by show q = _; omega) (by simp; omega) (by rfl)
end Go.Vs
