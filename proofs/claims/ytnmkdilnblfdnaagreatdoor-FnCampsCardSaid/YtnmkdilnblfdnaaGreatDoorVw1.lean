/- DRAWS: the cursor that draws read choices with. Each contract says: there is a result, and a cursor behind it, that do not depend on the world. -/
import Derived.Test.YtnmkdilnblfdnaaGreatDoorVau
import Derived.Test.YtnmkdilnblfdnaaGreatDoorVd1
import Derived.Test.YtnmkdilnblfdnaaGreatDoorVsE
set_option linter.unusedVariables false
set_option linter.unusedSimpArgs false
set_option maxRecDepth 100000
set_option maxHeartbeats 4000000
namespace Go.Vs
open Go.Proofs
attribute [local irreducible] exec vwp thenQ blkQ loopQ RetPost

theorem et_agg0 {st : St} {al : Bool} {xs ys cs ds : List PV} {u : List (Option Id)} (h : ExpL al st cs ds []) (ht : ExpT al st xs ys u) : ExpT al st (.agg cs :: xs) (.agg ds :: ys) u := ⟨[], u, h, ht, rfl⟩
theorem ret_lstL {P : Program} {fn : Func} {st : St} {t sz sz' : Nat} {rows : List Row} {fin : List (List (List PV))} {es es' : List (List PV)} (hr : fn.results = #[.tmp t]) (hv : lookE st.env t = some (.list sz es)) (hf : finsL st.mem 0 rows fin) (hz : sz = sz') (hes : es = es') :
    RetPost P fn true rows (fun r' fin' => r' = .list sz' es' ∧ fin' = fin) .ret st := by
  subst hz hes
  exact ret_ofL (.inl rfl) [.list sz es] [] (by rw [hr]; exact ⟨lookE_ok hv, trivial⟩) ⟨rfl, rfl, rfl, rfl⟩ trivial hf
structure Cu where
  bs : List Int
  pos : Int
  seed : Int
@[reducible] def bytesP (bs : List Int) : List (List PV) := bs.map fun b => [PV.int .u8 b]
theorem bytes_at {bs : List Int} {i : Nat} {b : Int} (h : bs[i]? = some b) : (bytesP bs)[i]? = some [PV.int .u8 b] := by simp [bytesP, h]
@[reducible] def Cu.pv (c : Cu) : List PV := [.list 1 (bytesP c.bs), .int .i64 c.pos, .int .u64 c.seed]
structure Cu.Ok (c : Cu) : Prop where
  byte : ∀ b ∈ c.bs, 0 ≤ b ∧ b ≤ 255
  len : c.bs.length ≤ 1099511627776
  pos : 0 ≤ c.pos ∧ c.pos ≤ 1152921504606846976
/-- Behind a draw of at most k choices. -/
structure Aft (c c' : Cu) (k : Int) : Prop where
  bs : c'.bs = c.bs
  pos : c.pos ≤ c'.pos ∧ c'.pos ≤ c.pos + k
theorem Aft.ok {c c' : Cu} {k : Int} (h : Aft c c' k) (hc : c.Ok) (hk : c.pos + k ≤ 1152921504606846976) : c'.Ok := ⟨by rw [h.bs]; exact hc.byte, by rw [h.bs]; exact hc.len, by have := h.pos; have := hc.pos; omega⟩
theorem Aft.trans {c c' c'' : Cu} {k l : Int} (h : Aft c c' k) (g : Aft c' c'' l) : Aft c c'' (k + l) := ⟨g.bs.trans h.bs, by have := h.pos; have := g.pos; omega⟩
theorem Aft.le {c c' : Cu} {k l : Int} (h : Aft c c' k) (hl : k ≤ l) : Aft c c' l := ⟨h.bs, by have := h.pos; omega⟩
theorem Aft.refl (c : Cu) : Aft c c 0 := ⟨rfl, by omega⟩
@[reducible] def cuRow (c : Cu) : Row := ⟨55, 3, [c.pv], false⟩
@[reducible] def Dr (f : FuncId) (args : List PV) (c : Cu) (r : PV) (c' : Cu) : Prop := ContractP Tryz.prog f true (.own (io, 0) 0 0 :: args) [cuRow c] (fun r' fin' => r' = r ∧ fin' = [[c'.pv]])

def nxB (c : Cu) : Int := c.bs.getD c.pos.toNat 0
def nxS (c : Cu) (b : Int) : Int := IntKind.u64.wrap (IntKind.u64.wrap (IntKind.u64.wrap (c.seed * 6364136223846793005) + IntKind.u64.wrap b) + 917917)
def nxX (s : Int) : Int := IntKind.i64.wrap (IntKind.u64.wrap ((BitVec.ofInt IntKind.u64.bits (s.fdiv (2 ^ min (Int.toNat 40) IntKind.u64.bits)) &&& BitVec.ofInt IntKind.u64.bits 255).toNat : Nat))
theorem wrap_u {n : Int} (h : 0 ≤ n ∧ n < 18446744073709551616) : IntKind.u64.wrap n = n := by
  simp [IntKind.wrap, IntKind.signed, IntKind.bits]
  omega
theorem nxX_bnd (s : Int) : 0 ≤ nxX s ∧ nxX s ≤ 255 := by
  unfold nxX
  have h : (BitVec.ofInt IntKind.u64.bits (s.fdiv (2 ^ min (Int.toNat 40) IntKind.u64.bits)) &&& BitVec.ofInt IntKind.u64.bits 255).toNat ≤ 255 := by
    rw [BitVec.toNat_and]
    exact Nat.le_trans Nat.and_le_right (by decide)
  generalize (BitVec.ofInt IntKind.u64.bits (s.fdiv (2 ^ min (Int.toNat 40) IntKind.u64.bits)) &&& BitVec.ofInt IntKind.u64.bits 255).toNat = m at *
  rw [wrap_u aO, wrap_in aO]
  omega
theorem k_next (c : Cu) (hc : c.Ok) (hp : c.pos + 1 ≤ 1152921504606846976) : ∃ (r : Int) (c' : Cu), Dr 54 [] c (.int .i64 r) c' ∧ Aft c c' 1 ∧ 0 ≤ r ∧ r ≤ 255 := by
  have hpos := hc.pos
  have hlen := hc.len
  have hl1 : (bytesP c.bs).length = c.bs.length := by simp
  by_cases hlt : c.pos < c.bs.length
  · obtain ⟨b, hb⟩ := get_ex (show c.pos.toNat < c.bs.length by omega)
    have hx := bytes_at hb
    have hbb := hc.byte b (get_mem hb)
    refine ⟨b, ⟨c.bs, c.pos + 1, nxS c b⟩, ?_, ⟨rfl, by simp only; omega⟩, hbb⟩
    refine contract_of hmix Tryz.func54 rfl (by kernel_rfl) (by kernel_rfl) (Nat.le_of_ble_eq_true rfl) (fun row h => by (simp only [List.mem_cons, List.not_mem_nil, or_false] at h; first | (subst h; (first | exact .inl rfl | exact .inr (fun e he u hu => by (simp only [List.mem_cons, List.not_mem_nil, or_false] at he; subst he; simp only [List.mem_cons, List.not_mem_nil, or_false] at hu; subst hu; rfl)))) | (rcases h with rfl | rfl <;> (first | exact .inl rfl | exact .inr (fun e he u hu => by (simp only [List.mem_cons, List.not_mem_nil, or_false] at he; subst he; simp only [List.mem_cons, List.not_mem_nil, or_false] at hu; subst hu; rfl)))) | (rcases h with rfl | rfl | rfl <;> (first | exact .inl rfl | exact .inr (fun e he u hu => by (simp only [List.mem_cons, List.not_mem_nil, or_false] at he; subst he; simp only [List.mem_cons, List.not_mem_nil, or_false] at hu; subst hu; rfl)))) | (rcases h with rfl | rfl | rfl | rfl <;> (first | exact .inl rfl | exact .inr (fun e he u hu => by (simp only [List.mem_cons, List.not_mem_nil, or_false] at he; subst he; simp only [List.mem_cons, List.not_mem_nil, or_false] at hu; subst hu; rfl)))))) ?_
    have hty_f55_1 := ty_f55_1
    have hty_c3 := ty_c3
    have hty_f55_0 := ty_f55_0
    have hty_c22 := ty_c22
    have hty_u22 := ty_u22
    have hty_s22 := ty_s22
    have hty_c5 := ty_c5
    have hty_u5 := ty_u5
    have hty_u3 := ty_u3
    have hty_t3 := ty_t3
    have hty_f55_2 := ty_f55_2
    have hty_c53 := ty_c53
    have hty_u53 := ty_u53
    have hty_t53 := ty_t53
    repeat' (first
      | (refine g_exec ?_; first | (refine g_move ?_; refine x_moveO _ rfl ?_) | (refine g_assign ?_; refine x_assignO _ rfl ?_) | (refine g_bin ?_; first | (refine x_add rfl rfl aO ?_) | (refine x_mul rfl rfl aO ?_) | (refine x_bin _ rfl rfl rfl ?_) | (refine x_shr _ rfl rfl rfl ?_) | (refine x_strBin _ rfl rfl rfl ?_)) | (refine g_load ?_; first | (refine x_load_pc aA rfl ?_) | (refine x_load_oc _ aA rfl rfl aE rfl ?_) | (refine x_load_pa _ aA rfl aZ aL ?_) | (refine x_load_oa _ aA rfl rfl aE aZ aL ?_)) | (refine g_field ?_; first | (refine x_field_p _ aA rfl aL ?_) | (refine x_field_o _ aA rfl rfl (by simp only [lx, Nat.reduceAdd]; first | done | rfl) ?_)) | (refine g_index ?_; first | (refine x_index_l _ aA rfl rfl aO aA ?_) | (refine x_index_o _ aA rfl rfl rfl rfl aO aO (by first | (rw [Nat.zero_add, Int.toNat_natCast]) | (rw [Nat.zero_add]) | rfl) ?_)) | (refine g_call ?_; first | (refine x_len_l aA rfl ?_) | (refine x_len_o aA rfl rfl ?_) | (refine x_len_n aA rfl ?_) | (refine x_len_s aA (evO_ok rfl) ?_)) | (refine x_convert_i aA aA (evO_ok rfl) aO ?_) | (refine x_convert aA aA (evO_ok rfl) ?_) | (refine x_storeO _ _ _ rfl rfl aE (by first | assumption | (exact TAgg.size aA)) rfl rfl rfl aZ rfl aL (by first | (first | (simp only [lx, Nat.reduceAdd]; first | done | rfl) | fail) | rfl) ?_) | (refine x_nil_p rfl ?_) | (refine x_nil_o rfl rfl ?_) | (refine x_nil_f rfl ?_) | (refine x_nil (hK _ _ (.inl rfl) ?_); clear hK K) | (refine x_nil (hK _ _ (.inr (by kernel_rfl)) ?_); clear hK K))
      | (refine g_code ?_; first | (refine v_seq ?_) | (refine v_region (fun K hK => ?_)) | (refine v_block ?_) | (refine v_skip ?_) | (refine v_ret ?_) | (refine v_exit ?_) | (refine g_cond ?_; first | (refine v_cond_y rfl aD ?_) | (refine v_cond_n rfl aD ?_) | (refine v_condt rfl (fun h => ?_) (fun h => ?_) <;> (have h' := h; (try simp only [sx] at h')))))
      | (refine q_then ?_) | (refine q_then_r ?_) | (refine q_then_e ?_) | (refine q_blk_n ?_) | (refine q_blk_r ?_) | (refine q_blk_e ?_) | (refine q_blk_o rfl ?_) | (refine q_loop_r ?_) | (refine q_loop_e ?_) | (refine ret_n ?_))
    all_goals first
      | (exfalso; omega)
      | exact ret_iL rfl rfl ⟨⟨rfl, rfl, fun h => by cases h⟩, trivial⟩ rfl
  · refine ⟨nxX (nxS c 0), ⟨c.bs, c.pos + 1, nxS c 0⟩, ?_, ⟨rfl, by simp only; omega⟩, nxX_bnd _⟩
    refine contract_of hmix Tryz.func54 rfl (by kernel_rfl) (by kernel_rfl) (Nat.le_of_ble_eq_true rfl) (fun row h => by (simp only [List.mem_cons, List.not_mem_nil, or_false] at h; first | (subst h; (first | exact .inl rfl | exact .inr (fun e he u hu => by (simp only [List.mem_cons, List.not_mem_nil, or_false] at he; subst he; simp only [List.mem_cons, List.not_mem_nil, or_false] at hu; subst hu; rfl)))) | (rcases h with rfl | rfl <;> (first | exact .inl rfl | exact .inr (fun e he u hu => by (simp only [List.mem_cons, List.not_mem_nil, or_false] at he; subst he; simp only [List.mem_cons, List.not_mem_nil, or_false] at hu; subst hu; rfl)))) | (rcases h with rfl | rfl | rfl <;> (first | exact .inl rfl | exact .inr (fun e he u hu => by (simp only [List.mem_cons, List.not_mem_nil, or_false] at he; subst he; simp only [List.mem_cons, List.not_mem_nil, or_false] at hu; subst hu; rfl)))) | (rcases h with rfl | rfl | rfl | rfl <;> (first | exact .inl rfl | exact .inr (fun e he u hu => by (simp only [List.mem_cons, List.not_mem_nil, or_false] at he; subst he; simp only [List.mem_cons, List.not_mem_nil, or_false] at hu; subst hu; rfl)))))) ?_
    have hty_f55_1 := ty_f55_1
    have hty_c3 := ty_c3
    have hty_f55_0 := ty_f55_0
    have hty_c22 := ty_c22
    have hty_u22 := ty_u22
    have hty_s22 := ty_s22
    have hty_c5 := ty_c5
    have hty_u5 := ty_u5
    have hty_u3 := ty_u3
    have hty_t3 := ty_t3
    have hty_f55_2 := ty_f55_2
    have hty_c53 := ty_c53
    have hty_u53 := ty_u53
    have hty_t53 := ty_t53
    repeat' (first
      | (refine g_exec ?_; first | (refine g_move ?_; refine x_moveO _ rfl ?_) | (refine g_assign ?_; refine x_assignO _ rfl ?_) | (refine g_bin ?_; first | (refine x_add rfl rfl aO ?_) | (refine x_mul rfl rfl aO ?_) | (refine x_bin _ rfl rfl rfl ?_) | (refine x_shr _ rfl rfl rfl ?_) | (refine x_strBin _ rfl rfl rfl ?_)) | (refine g_load ?_; first | (refine x_load_pc aA rfl ?_) | (refine x_load_oc _ aA rfl rfl aE rfl ?_) | (refine x_load_pa _ aA rfl aZ aL ?_) | (refine x_load_oa _ aA rfl rfl aE aZ aL ?_)) | (refine g_field ?_; first | (refine x_field_p _ aA rfl aL ?_) | (refine x_field_o _ aA rfl rfl (by simp only [lx, Nat.reduceAdd]; first | done | rfl) ?_)) | (refine g_index ?_; first | (refine x_index_l _ aA rfl rfl aO aA ?_) | (refine x_index_o _ aA rfl rfl rfl rfl aO aO (by first | (rw [Nat.zero_add, Int.toNat_natCast]) | (rw [Nat.zero_add]) | rfl) ?_)) | (refine g_call ?_; first | (refine x_len_l aA rfl ?_) | (refine x_len_o aA rfl rfl ?_) | (refine x_len_n aA rfl ?_) | (refine x_len_s aA (evO_ok rfl) ?_)) | (refine x_convert_i aA aA (evO_ok rfl) aO ?_) | (refine x_convert aA aA (evO_ok rfl) ?_) | (refine x_storeO _ _ _ rfl rfl aE (by first | assumption | (exact TAgg.size aA)) rfl rfl rfl aZ rfl aL (by first | (first | (simp only [lx, Nat.reduceAdd]; first | done | rfl) | fail) | rfl) ?_) | (refine x_nil_p rfl ?_) | (refine x_nil_o rfl rfl ?_) | (refine x_nil_f rfl ?_) | (refine x_nil (hK _ _ (.inl rfl) ?_); clear hK K) | (refine x_nil (hK _ _ (.inr (by kernel_rfl)) ?_); clear hK K))
      | (refine g_code ?_; first | (refine v_seq ?_) | (refine v_region (fun K hK => ?_)) | (refine v_block ?_) | (refine v_skip ?_) | (refine v_ret ?_) | (refine v_exit ?_) | (refine g_cond ?_; first | (refine v_cond_y rfl aD ?_) | (refine v_cond_n rfl aD ?_) | (refine v_condt rfl (fun h => ?_) (fun h => ?_) <;> (have h' := h; (try simp only [sx] at h')))))
      | (refine q_then ?_) | (refine q_then_r ?_) | (refine q_then_e ?_) | (refine q_blk_n ?_) | (refine q_blk_r ?_) | (refine q_blk_e ?_) | (refine q_blk_o rfl ?_) | (refine q_loop_r ?_) | (refine q_loop_e ?_) | (refine ret_n ?_))
    all_goals first
      | (exfalso; omega)
      | exact ret_iL rfl rfl ⟨⟨rfl, rfl, fun h => by cases h⟩, trivial⟩ rfl
theorem k_pick (c : Cu) (n : Int) (hc : c.Ok) (hp : c.pos + 2 ≤ 1152921504606846976) (hn : n ≤ 1000000000) : ∃ (r : Int) (c' : Cu), Dr 27 [.int .i64 n] c (.int .i64 r) c' ∧ Aft c c' 2 ∧ 0 ≤ r ∧ (1 ≤ n → r < n) ∧ (n ≤ 1 → r = 0) := by
  by_cases h1 : n ≤ 1
  · refine ⟨0, c, ?_, (Aft.refl c).le aO, by omega, by omega, by omega⟩
    refine contract_of hmix Tryz.func27 rfl (by kernel_rfl) (by kernel_rfl) (Nat.le_of_ble_eq_true rfl) (fun row h => by (simp only [List.mem_cons, List.not_mem_nil, or_false] at h; first | (subst h; (first | exact .inl rfl | exact .inr (fun e he u hu => by (simp only [List.mem_cons, List.not_mem_nil, or_false] at he; subst he; simp only [List.mem_cons, List.not_mem_nil, or_false] at hu; subst hu; rfl)))) | (rcases h with rfl | rfl <;> (first | exact .inl rfl | exact .inr (fun e he u hu => by (simp only [List.mem_cons, List.not_mem_nil, or_false] at he; subst he; simp only [List.mem_cons, List.not_mem_nil, or_false] at hu; subst hu; rfl)))) | (rcases h with rfl | rfl | rfl <;> (first | exact .inl rfl | exact .inr (fun e he u hu => by (simp only [List.mem_cons, List.not_mem_nil, or_false] at he; subst he; simp only [List.mem_cons, List.not_mem_nil, or_false] at hu; subst hu; rfl)))) | (rcases h with rfl | rfl | rfl | rfl <;> (first | exact .inl rfl | exact .inr (fun e he u hu => by (simp only [List.mem_cons, List.not_mem_nil, or_false] at he; subst he; simp only [List.mem_cons, List.not_mem_nil, or_false] at hu; subst hu; rfl)))))) ?_
    repeat' (first
      | (refine g_exec ?_; first | (refine g_move ?_; refine x_moveO _ rfl ?_) | (refine g_assign ?_; refine x_assignO _ rfl ?_) | (refine g_bin ?_; first | (refine x_add rfl rfl aO ?_) | (refine x_mul rfl rfl aO ?_) | (refine x_rem rfl rfl aO ?_) | (refine x_remT rfl rfl aO ?_) | (refine x_bin _ rfl rfl rfl ?_) | (refine x_strBin _ rfl rfl rfl ?_)) | (refine x_nil (hK _ _ (.inl rfl) ?_); clear hK K) | (refine x_nil (hK _ _ (.inr (by kernel_rfl)) ?_); clear hK K))
      | (refine g_code ?_; first | (refine v_seq ?_) | (refine v_region (fun K hK => ?_)) | (refine v_block ?_) | (refine v_skip ?_) | (refine v_ret ?_) | (refine v_exit ?_) | (refine g_cond ?_; first | (refine v_cond_y rfl aD ?_) | (refine v_cond_n rfl aD ?_) | (refine v_condt rfl (fun h => ?_) (fun h => ?_) <;> (have h' := h; (try simp only [sx] at h')))))
      | (refine q_then ?_) | (refine q_then_r ?_) | (refine q_then_e ?_) | (refine q_blk_n ?_) | (refine q_blk_r ?_) | (refine q_blk_e ?_) | (refine q_blk_o rfl ?_) | (refine q_loop_r ?_) | (refine q_loop_e ?_) | (refine ret_n ?_))
    all_goals first
      | (exfalso; omega)
      | exact ret_iL rfl rfl ⟨⟨rfl, rfl, fun h => by cases h⟩, trivial⟩ rfl
  · obtain ⟨r1, c1, k1, a1, b1, b2⟩ := k_next c hc aO
    by_cases h2 : n > 200
    · obtain ⟨r2, c2, k2, a2, b3, b4⟩ := k_next c1 (a1.ok hc aO) (by have := a1.pos; omega)
      refine ⟨(r1 * 256 + r2) % n, c2, ?_, (a1.trans a2).le aO, Int.emod_nonneg _ aO, fun _ => Int.emod_lt_of_pos _ aO, fun h => by omega⟩
      refine contract_of hmix Tryz.func27 rfl (by kernel_rfl) (by kernel_rfl) (Nat.le_of_ble_eq_true rfl) (fun row h => by (simp only [List.mem_cons, List.not_mem_nil, or_false] at h; first | (subst h; (first | exact .inl rfl | exact .inr (fun e he u hu => by (simp only [List.mem_cons, List.not_mem_nil, or_false] at he; subst he; simp only [List.mem_cons, List.not_mem_nil, or_false] at hu; subst hu; rfl)))) | (rcases h with rfl | rfl <;> (first | exact .inl rfl | exact .inr (fun e he u hu => by (simp only [List.mem_cons, List.not_mem_nil, or_false] at he; subst he; simp only [List.mem_cons, List.not_mem_nil, or_false] at hu; subst hu; rfl)))) | (rcases h with rfl | rfl | rfl <;> (first | exact .inl rfl | exact .inr (fun e he u hu => by (simp only [List.mem_cons, List.not_mem_nil, or_false] at he; subst he; simp only [List.mem_cons, List.not_mem_nil, or_false] at hu; subst hu; rfl)))) | (rcases h with rfl | rfl | rfl | rfl <;> (first | exact .inl rfl | exact .inr (fun e he u hu => by (simp only [List.mem_cons, List.not_mem_nil, or_false] at he; subst he; simp only [List.mem_cons, List.not_mem_nil, or_false] at hu; subst hu; rfl)))))) ?_
      repeat' (first
      | (refine g_exec ?_; first | (refine g_move ?_; refine x_moveO _ rfl ?_) | (refine g_assign ?_; refine x_assignO _ rfl ?_) | (refine g_bin ?_; first | (refine x_add rfl rfl aO ?_) | (refine x_mul rfl rfl aO ?_) | (refine x_rem rfl rfl aO ?_) | (refine x_remT rfl rfl aO ?_) | (refine x_bin _ rfl rfl rfl ?_) | (refine x_strBin _ rfl rfl rfl ?_)) | (refine g_call ?_; first | (refine x_callL [(io, 0)] (k1) rfl rfl (by (repeat' (first | exact trivial | refine ⟨⟨_, rfl, ?_⟩, ?_⟩ | exact .inl ⟨rfl, .inl rfl⟩ | exact .inr ⟨rfl, rfl, rfl, rfl, rfl, fun e he u hu => by (simp only [List.mem_cons, List.not_mem_nil, or_false] at he; subst he; simp only [List.mem_cons, List.not_mem_nil, or_false] at hu; subst hu; rfl)⟩ | exact .inl ⟨rfl, .inr (fun e he => by (simp only [List.mem_cons, List.not_mem_nil, or_false] at he; subst he; rfl))⟩ | fail)); first | done | fail) rfl rfl aS rfl aH rfl ?_; simp only [cl]) | (refine x_callL [(io, 0)] (k2) rfl rfl (by (repeat' (first | exact trivial | refine ⟨⟨_, rfl, ?_⟩, ?_⟩ | exact .inl ⟨rfl, .inl rfl⟩ | exact .inr ⟨rfl, rfl, rfl, rfl, rfl, fun e he u hu => by (simp only [List.mem_cons, List.not_mem_nil, or_false] at he; subst he; simp only [List.mem_cons, List.not_mem_nil, or_false] at hu; subst hu; rfl)⟩ | exact .inl ⟨rfl, .inr (fun e he => by (simp only [List.mem_cons, List.not_mem_nil, or_false] at he; subst he; rfl))⟩ | fail)); first | done | fail) rfl rfl aS rfl aH rfl ?_; simp only [cl])) | (refine x_nil (hK _ _ (.inl rfl) ?_); clear hK K) | (refine x_nil (hK _ _ (.inr (by kernel_rfl)) ?_); clear hK K))
      | (refine g_code ?_; first | (refine v_seq ?_) | (refine v_region (fun K hK => ?_)) | (refine v_block ?_) | (refine v_skip ?_) | (refine v_ret ?_) | (refine v_exit ?_) | (refine g_cond ?_; first | (refine v_cond_y rfl aD ?_) | (refine v_cond_n rfl aD ?_) | (refine v_condt rfl (fun h => ?_) (fun h => ?_) <;> (have h' := h; (try simp only [sx] at h')))))
      | (refine q_then ?_) | (refine q_then_r ?_) | (refine q_then_e ?_) | (refine q_blk_n ?_) | (refine q_blk_r ?_) | (refine q_blk_e ?_) | (refine q_blk_o rfl ?_) | (refine q_loop_r ?_) | (refine q_loop_e ?_) | (refine ret_n ?_))
      all_goals first
        | (exfalso; omega)
        | exact ret_iL rfl rfl ⟨⟨rfl, rfl, fun h => by cases h⟩, trivial⟩ rfl
    · refine ⟨r1 % n, c1, ?_, a1.le aO, Int.emod_nonneg _ aO, fun _ => Int.emod_lt_of_pos _ aO, fun h => by omega⟩
      refine contract_of hmix Tryz.func27 rfl (by kernel_rfl) (by kernel_rfl) (Nat.le_of_ble_eq_true rfl) (fun row h => by (simp only [List.mem_cons, List.not_mem_nil, or_false] at h; first | (subst h; (first | exact .inl rfl | exact .inr (fun e he u hu => by (simp only [List.mem_cons, List.not_mem_nil, or_false] at he; subst he; simp only [List.mem_cons, List.not_mem_nil, or_false] at hu; subst hu; rfl)))) | (rcases h with rfl | rfl <;> (first | exact .inl rfl | exact .inr (fun e he u hu => by (simp only [List.mem_cons, List.not_mem_nil, or_false] at he; subst he; simp only [List.mem_cons, List.not_mem_nil, or_false] at hu; subst hu; rfl)))) | (rcases h with rfl | rfl | rfl <;> (first | exact .inl rfl | exact .inr (fun e he u hu => by (simp only [List.mem_cons, List.not_mem_nil, or_false] at he; subst he; simp only [List.mem_cons, List.not_mem_nil, or_false] at hu; subst hu; rfl)))) | (rcases h with rfl | rfl | rfl | rfl <;> (first | exact .inl rfl | exact .inr (fun e he u hu => by (simp only [List.mem_cons, List.not_mem_nil, or_false] at he; subst he; simp only [List.mem_cons, List.not_mem_nil, or_false] at hu; subst hu; rfl)))))) ?_
      repeat' (first
      | (refine g_exec ?_; first | (refine g_move ?_; refine x_moveO _ rfl ?_) | (refine g_assign ?_; refine x_assignO _ rfl ?_) | (refine g_bin ?_; first | (refine x_add rfl rfl aO ?_) | (refine x_mul rfl rfl aO ?_) | (refine x_rem rfl rfl aO ?_) | (refine x_remT rfl rfl aO ?_) | (refine x_bin _ rfl rfl rfl ?_) | (refine x_strBin _ rfl rfl rfl ?_)) | (refine g_call ?_; refine x_callL [(io, 0)] (k1) rfl rfl (by (repeat' (first | exact trivial | refine ⟨⟨_, rfl, ?_⟩, ?_⟩ | exact .inl ⟨rfl, .inl rfl⟩ | exact .inr ⟨rfl, rfl, rfl, rfl, rfl, fun e he u hu => by (simp only [List.mem_cons, List.not_mem_nil, or_false] at he; subst he; simp only [List.mem_cons, List.not_mem_nil, or_false] at hu; subst hu; rfl)⟩ | exact .inl ⟨rfl, .inr (fun e he => by (simp only [List.mem_cons, List.not_mem_nil, or_false] at he; subst he; rfl))⟩ | fail)); first | done | fail) rfl rfl aS rfl aH rfl ?_; simp only [cl]) | (refine x_nil (hK _ _ (.inl rfl) ?_); clear hK K) | (refine x_nil (hK _ _ (.inr (by kernel_rfl)) ?_); clear hK K))
      | (refine g_code ?_; first | (refine v_seq ?_) | (refine v_region (fun K hK => ?_)) | (refine v_block ?_) | (refine v_skip ?_) | (refine v_ret ?_) | (refine v_exit ?_) | (refine g_cond ?_; first | (refine v_cond_y rfl aD ?_) | (refine v_cond_n rfl aD ?_) | (refine v_condt rfl (fun h => ?_) (fun h => ?_) <;> (have h' := h; (try simp only [sx] at h')))))
      | (refine q_then ?_) | (refine q_then_r ?_) | (refine q_then_e ?_) | (refine q_blk_n ?_) | (refine q_blk_r ?_) | (refine q_blk_e ?_) | (refine q_blk_o rfl ?_) | (refine q_loop_r ?_) | (refine q_loop_e ?_) | (refine ret_n ?_))
      all_goals first
        | (exfalso; omega)
        | exact ret_iL rfl rfl ⟨⟨rfl, rfl, fun h => by cases h⟩, trivial⟩ rfl
theorem k_one (c : Cu) (n : Int) (hc : c.Ok) (hp : c.pos + 2 ≤ 1152921504606846976) (hn : n ≤ 1000000000) : ∃ (b : Bool) (c' : Cu), Dr 44 [.int .i64 n] c (.bool b) c' ∧ Aft c c' 2 := by
  obtain ⟨r, c1, k1, a1, b1, b2⟩ := k_pick c n hc hp hn
  refine ⟨r == 0, c1, ?_, a1⟩
  refine contract_of hmix Tryz.func44 rfl (by kernel_rfl) (by kernel_rfl) (Nat.le_of_ble_eq_true rfl) (fun row h => by (simp only [List.mem_cons, List.not_mem_nil, or_false] at h; first | (subst h; (first | exact .inl rfl | exact .inr (fun e he u hu => by (simp only [List.mem_cons, List.not_mem_nil, or_false] at he; subst he; simp only [List.mem_cons, List.not_mem_nil, or_false] at hu; subst hu; rfl)))) | (rcases h with rfl | rfl <;> (first | exact .inl rfl | exact .inr (fun e he u hu => by (simp only [List.mem_cons, List.not_mem_nil, or_false] at he; subst he; simp only [List.mem_cons, List.not_mem_nil, or_false] at hu; subst hu; rfl)))) | (rcases h with rfl | rfl | rfl <;> (first | exact .inl rfl | exact .inr (fun e he u hu => by (simp only [List.mem_cons, List.not_mem_nil, or_false] at he; subst he; simp only [List.mem_cons, List.not_mem_nil, or_false] at hu; subst hu; rfl)))) | (rcases h with rfl | rfl | rfl | rfl <;> (first | exact .inl rfl | exact .inr (fun e he u hu => by (simp only [List.mem_cons, List.not_mem_nil, or_false] at he; subst he; simp only [List.mem_cons, List.not_mem_nil, or_false] at hu; subst hu; rfl)))))) ?_
  repeat' (first
      | (refine g_exec ?_; first | (refine g_move ?_; refine x_moveO _ rfl ?_) | (refine g_assign ?_; refine x_assignO _ rfl ?_) | (refine g_bin ?_; first | (refine x_bin _ rfl rfl rfl ?_) | (refine x_boolEq aA rfl rfl ?_) | (refine x_strBin _ rfl rfl rfl ?_)) | (refine g_call ?_; refine x_callL [(io, 0)] (k1) rfl rfl (by (repeat' (first | exact trivial | refine ⟨⟨_, rfl, ?_⟩, ?_⟩ | exact .inl ⟨rfl, .inl rfl⟩ | exact .inr ⟨rfl, rfl, rfl, rfl, rfl, fun e he u hu => by (simp only [List.mem_cons, List.not_mem_nil, or_false] at he; subst he; simp only [List.mem_cons, List.not_mem_nil, or_false] at hu; subst hu; rfl)⟩ | exact .inl ⟨rfl, .inr (fun e he => by (simp only [List.mem_cons, List.not_mem_nil, or_false] at he; subst he; rfl))⟩ | fail)); first | done | fail) rfl rfl aS rfl aH rfl ?_; simp only [cl]) | (refine x_nil (hK _ _ (.inl rfl) ?_); clear hK K) | (refine x_nil (hK _ _ (.inr (by kernel_rfl)) ?_); clear hK K))
      | (refine g_code ?_; first | (refine v_seq ?_) | (refine v_region (fun K hK => ?_)) | (refine v_block ?_) | (refine v_skip ?_) | (refine v_ret ?_) | (refine v_exit ?_))
      | (refine q_then ?_) | (refine q_then_r ?_) | (refine q_then_e ?_) | (refine q_blk_n ?_) | (refine q_blk_r ?_) | (refine q_blk_e ?_) | (refine q_blk_o rfl ?_) | (refine q_loop_r ?_) | (refine q_loop_e ?_) | (refine ret_n ?_))
  all_goals exact ret_bL rfl rfl ⟨⟨rfl, rfl, fun h => by cases h⟩, trivial⟩ rfl
theorem k_among (c : Cu) (l : List Int) (hc : c.Ok) (hp : c.pos + 2 ≤ 1152921504606846976) (hl : 1 ≤ l.length ∧ l.length ≤ 1000000) : ∃ (x : Int) (c' : Cu), Dr 26 [.list 1 (ints l)] c (.int .i64 x) c' ∧ Aft c c' 2 ∧ x ∈ l := by
  obtain ⟨r, c1, k1, a1, b1, b2, b3⟩ := k_pick c l.length hc hp aO
  have b2 := b2 aO
  obtain ⟨x, hx⟩ := get_ex (show r.toNat < l.length by omega)
  have hy := ints_at hx
  have hl1 : (ints l).length = l.length := by simp
  rw [← hl1] at k1
  refine ⟨x, c1, ?_, a1, get_mem hx⟩
  refine contract_of hmix Tryz.func26 rfl (by kernel_rfl) (by kernel_rfl) (Nat.le_of_ble_eq_true rfl) (fun row h => by (simp only [List.mem_cons, List.not_mem_nil, or_false] at h; first | (subst h; (first | exact .inl rfl | exact .inr (fun e he u hu => by (simp only [List.mem_cons, List.not_mem_nil, or_false] at he; subst he; simp only [List.mem_cons, List.not_mem_nil, or_false] at hu; subst hu; rfl)))) | (rcases h with rfl | rfl <;> (first | exact .inl rfl | exact .inr (fun e he u hu => by (simp only [List.mem_cons, List.not_mem_nil, or_false] at he; subst he; simp only [List.mem_cons, List.not_mem_nil, or_false] at hu; subst hu; rfl)))) | (rcases h with rfl | rfl | rfl <;> (first | exact .inl rfl | exact .inr (fun e he u hu => by (simp only [List.mem_cons, List.not_mem_nil, or_false] at he; subst he; simp only [List.mem_cons, List.not_mem_nil, or_false] at hu; subst hu; rfl)))) | (rcases h with rfl | rfl | rfl | rfl <;> (first | exact .inl rfl | exact .inr (fun e he u hu => by (simp only [List.mem_cons, List.not_mem_nil, or_false] at he; subst he; simp only [List.mem_cons, List.not_mem_nil, or_false] at hu; subst hu; rfl)))))) ?_
  have hty_u28 := ty_u28
  have hty_s28 := ty_s28
  have hty_c3 := ty_c3
  repeat' (first
      | (refine g_exec ?_; first | (refine g_move ?_; refine x_moveO _ rfl ?_) | (refine g_assign ?_; refine x_assignO _ rfl ?_) | (refine g_load ?_; first | (refine x_load_pc aA rfl ?_) | (refine x_load_oc _ aA rfl rfl aE rfl ?_) | (refine x_load_pa _ aA rfl aZ aL ?_) | (refine x_load_oa _ aA rfl rfl aE aZ aL ?_)) | (refine g_index ?_; first | (refine x_index_l _ aA rfl rfl aO aA ?_) | (refine x_index_o _ aA rfl rfl rfl rfl aO aO (by first | (rw [Nat.zero_add, Int.toNat_natCast]) | (rw [Nat.zero_add]) | rfl) ?_)) | (refine g_call ?_; first | (refine x_callL [(io, 0)] (k1) rfl rfl (by (repeat' (first | exact trivial | refine ⟨⟨_, rfl, ?_⟩, ?_⟩ | exact .inl ⟨rfl, .inl rfl⟩ | exact .inr ⟨rfl, rfl, rfl, rfl, rfl, fun e he u hu => by (simp only [List.mem_cons, List.not_mem_nil, or_false] at he; subst he; simp only [List.mem_cons, List.not_mem_nil, or_false] at hu; subst hu; rfl)⟩ | exact .inl ⟨rfl, .inr (fun e he => by (simp only [List.mem_cons, List.not_mem_nil, or_false] at he; subst he; rfl))⟩ | fail)); first | done | fail) rfl rfl aS rfl aH rfl ?_; simp only [cl]) | (refine x_len_l aA rfl ?_) | (refine x_len_o aA rfl rfl ?_) | (refine x_len_n aA rfl ?_) | (refine x_len_s aA (evO_ok rfl) ?_)) | (refine x_nil (hK _ _ (.inl rfl) ?_); clear hK K) | (refine x_nil (hK _ _ (.inr (by kernel_rfl)) ?_); clear hK K))
      | (refine g_code ?_; first | (refine v_seq ?_) | (refine v_region (fun K hK => ?_)) | (refine v_block ?_) | (refine v_skip ?_) | (refine v_ret ?_) | (refine v_exit ?_))
      | (refine q_then ?_) | (refine q_then_r ?_) | (refine q_then_e ?_) | (refine q_blk_n ?_) | (refine q_blk_r ?_) | (refine q_blk_e ?_) | (refine q_blk_o rfl ?_) | (refine q_loop_r ?_) | (refine q_loop_e ?_) | (refine ret_n ?_))
  all_goals first
    | (exfalso; omega)
    | exact ret_iL rfl rfl ⟨⟨rfl, rfl, fun h => by cases h⟩, trivial⟩ rfl
/-- The cursor at the start of a draw. -/
@[reducible] def cu0 (code : List Int) : Cu := ⟨code, 0, 0⟩
structure CodeOk (code : List Int) : Prop where
  len : code.length ≤ 1099511627776
  byte : ∀ b ∈ code, 0 ≤ b ∧ b ≤ 255
theorem cu0_ok {code : List Int} (h : CodeOk code) : (cu0 code).Ok := ⟨h.byte, h.len, by simp⟩
end Go.Vs
