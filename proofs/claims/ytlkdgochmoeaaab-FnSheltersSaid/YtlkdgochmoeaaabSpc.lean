/- Parts of a proof: what its last text mentions. -/
import Derived.Test.YtlkdgochmoeaaabSpb
set_option linter.unusedVariables false
set_option linter.unusedSimpArgs false
set_option maxRecDepth 100000
set_option maxHeartbeats 4000000
namespace Go.Vs
open Go.Proofs
attribute [local irreducible] exec vwp thenQ blkQ loopQ RetPost
theorem k_IndexInt (xs : List Int) (n : Int) (hn : xs.length ≤ 1099511627776) : Con Try.prog 77 [.list 1 (ints xs), .int .i64 n] (.int .i64 (idx (fun a => decide (n = a)) xs)) := by
  intro al
  refine contract_of hmix Try.func77 rfl (by kernel_rfl) (by kernel_rfl) (Nat.le_of_ble_eq_true rfl) (fun row h => by cases h) ?_
  have hty_u27 := ty_u27
  have hty_s27 := ty_s27
  have hty_c3 := ty_c3
  have hl1 : (ints xs).length = xs.length := by simp
  repeat' (first
      | (refine g_exec ?_; first | (refine g_move ?_; refine x_moveO _ rfl ?_) | (refine g_assign ?_; refine x_assignO _ rfl ?_) | (refine g_bin ?_; first | (refine x_add rfl rfl aO ?_) | (refine x_bin _ rfl rfl rfl ?_) | (refine x_boolEq aA rfl rfl ?_) | (refine x_strBin _ rfl rfl rfl ?_)) | (refine g_load ?_; first | (refine x_load_pc aA rfl ?_) | (refine x_load_oc _ aA rfl rfl aE rfl ?_) | (refine x_load_pa _ aA rfl aZ aL ?_) | (refine x_load_oa _ aA rfl rfl aE aZ aL ?_)) | (refine g_index ?_; first | (refine x_index_l _ aA rfl rfl aO aA ?_) | (refine x_index_o _ aA rfl rfl rfl rfl aO aO (by first | (rw [Nat.zero_add, Int.toNat_natCast]) | (rw [Nat.zero_add]) | rfl) ?_)) | (refine g_call ?_; first | (refine x_len_l aA rfl ?_) | (refine x_len_o aA rfl rfl ?_) | (refine x_len_n aA rfl ?_) | (refine x_len_s aA (evO_ok rfl) ?_)) | (refine x_nil (hK _ _ (.inl rfl) ?_); clear hK K) | (refine x_nil (hK _ _ (.inr (by kernel_rfl)) ?_); clear hK K))
      | (refine g_code ?_; first | (refine v_seq ?_) | (refine v_region (fun K hK => ?_)) | (refine v_block ?_) | (refine v_skip ?_) | (refine v_ret ?_) | (refine v_exit ?_) | (refine g_cond ?_; first | (refine v_cond_y rfl aD ?_) | (refine v_cond_n rfl aD ?_) | (refine v_condt rfl (fun h => ?_) (fun h => ?_) <;> (have h' := h; (try simp only [sx] at h')))))
      | (refine q_then ?_) | (refine q_then_r ?_) | (refine q_then_e ?_) | (refine q_blk_n ?_) | (refine q_blk_r ?_) | (refine q_blk_e ?_) | (refine q_blk_o rfl ?_) | (refine q_loop_r ?_) | (refine q_loop_e ?_) | (refine ret_n ?_))
  refine v_loopK [0, 1, 7] [] (fun i : Nat => [(8, .int .i64 i)]) (fun i : Nat => []) (fun i : Nat => i ≤ xs.length ∧ ∀ j, j < i → ∀ c, xs[j]? = some c → decide (n = c) = false) (fun i : Nat => xs.length - i) (0) rfl rfl (fun _ => rfl) (fun _ => rfl) rfl (by refine ⟨?_, ?_, rfl, rfl⟩ <;> (repeat' (first | exact trivial | exact ⟨rfl, rfl⟩ | exact rfl | exact ⟨sub_fn, refs_fn⟩ | refine ⟨⟨rfl, rfl⟩, ?_⟩ | refine ⟨⟨sub_fn, refs_fn⟩, ?_⟩ | refine ⟨⟨rfl, fun h => Bool.noConfusion h⟩, ?_⟩ | refine ⟨⟨rfl, fun h => ?_⟩, ?_⟩ | refine ⟨rfl, ?_⟩ | refine ⟨?_, ?_⟩ | fail))) ⟨by omega, fun j hj => by omega⟩ (fun i hi => ?_)
  obtain ⟨hi1, hi2⟩ := hi
  rcases Nat.lt_or_ge i xs.length with hlt | hge
  · obtain ⟨a, hga⟩ := get_ex hlt
    have hx := ints_at hga
    repeat' (first
      | (refine g_exec ?_; first | (refine g_move ?_; refine x_moveO _ rfl ?_) | (refine g_assign ?_; refine x_assignO _ rfl ?_) | (refine g_bin ?_; first | (refine x_add rfl rfl aO ?_) | (refine x_bin _ rfl rfl rfl ?_) | (refine x_boolEq aA rfl rfl ?_) | (refine x_strBin _ rfl rfl rfl ?_)) | (refine g_load ?_; first | (refine x_load_pc aA rfl ?_) | (refine x_load_oc _ aA rfl rfl aE rfl ?_) | (refine x_load_pa _ aA rfl aZ aL ?_) | (refine x_load_oa _ aA rfl rfl aE aZ aL ?_)) | (refine g_index ?_; first | (refine x_index_l _ aA rfl rfl aO aA ?_) | (refine x_index_o _ aA rfl rfl rfl rfl aO aO (by first | (rw [Nat.zero_add, Int.toNat_natCast]) | (rw [Nat.zero_add]) | rfl) ?_)) | (refine g_call ?_; first | (refine x_len_l aA rfl ?_) | (refine x_len_o aA rfl rfl ?_) | (refine x_len_n aA rfl ?_) | (refine x_len_s aA (evO_ok rfl) ?_)) | (refine x_nil (hK _ _ (.inl rfl) ?_); clear hK K) | (refine x_nil (hK _ _ (.inr (by kernel_rfl)) ?_); clear hK K))
      | (refine g_code ?_; first | (refine v_seq ?_) | (refine v_region (fun K hK => ?_)) | (refine v_block ?_) | (refine v_skip ?_) | (refine v_ret ?_) | (refine v_exit ?_) | (refine g_cond ?_; first | (refine v_cond_y rfl aD ?_) | (refine v_cond_n rfl aD ?_) | (refine v_condt rfl (fun h => ?_) (fun h => ?_) <;> (have h' := h; (try simp only [sx] at h')))))
      | (refine q_then ?_) | (refine q_then_r ?_) | (refine q_then_e ?_) | (refine q_blk_n ?_) | (refine q_blk_r ?_) | (refine q_blk_e ?_) | (refine q_blk_o rfl ?_) | (refine q_loop_r ?_) | (refine q_loop_e ?_) | (refine ret_n ?_))
    · exact ret_int rfl (lookE_ok rfl) (idx_some (p := fun a => decide (n = a)) hi2 hga (by simpa using h')).symm
    · refine q_next (i + 1) rfl (by refine ⟨?_, ?_, rfl, rfl⟩ <;> (repeat' (first | exact trivial | exact ⟨rfl, rfl⟩ | exact rfl | exact ⟨sub_fn, refs_fn⟩ | refine ⟨⟨rfl, rfl⟩, ?_⟩ | refine ⟨⟨sub_fn, refs_fn⟩, ?_⟩ | refine ⟨⟨rfl, fun h => Bool.noConfusion h⟩, ?_⟩ | refine ⟨⟨rfl, fun h => ?_⟩, ?_⟩ | refine ⟨rfl, ?_⟩ | refine ⟨?_, ?_⟩ | fail))) ⟨by omega, idx_step (p := fun a => decide (n = a)) hi2 hga (by simpa using h')⟩ aO
  · repeat' (first
      | (refine g_exec ?_; first | (refine g_move ?_; refine x_moveO _ rfl ?_) | (refine g_assign ?_; refine x_assignO _ rfl ?_) | (refine g_bin ?_; first | (refine x_add rfl rfl aO ?_) | (refine x_bin _ rfl rfl rfl ?_) | (refine x_boolEq aA rfl rfl ?_) | (refine x_strBin _ rfl rfl rfl ?_)) | (refine g_load ?_; first | (refine x_load_pc aA rfl ?_) | (refine x_load_oc _ aA rfl rfl aE rfl ?_) | (refine x_load_pa _ aA rfl aZ aL ?_) | (refine x_load_oa _ aA rfl rfl aE aZ aL ?_)) | (refine g_index ?_; first | (refine x_index_l _ aA rfl rfl aO aA ?_) | (refine x_index_o _ aA rfl rfl rfl rfl aO aO (by first | (rw [Nat.zero_add, Int.toNat_natCast]) | (rw [Nat.zero_add]) | rfl) ?_)) | (refine g_call ?_; first | (refine x_len_l aA rfl ?_) | (refine x_len_o aA rfl rfl ?_) | (refine x_len_n aA rfl ?_) | (refine x_len_s aA (evO_ok rfl) ?_)) | (refine x_nil (hK _ _ (.inl rfl) ?_); clear hK K) | (refine x_nil (hK _ _ (.inr (by kernel_rfl)) ?_); clear hK K))
      | (refine g_code ?_; first | (refine v_seq ?_) | (refine v_region (fun K hK => ?_)) | (refine v_block ?_) | (refine v_skip ?_) | (refine v_ret ?_) | (refine v_exit ?_) | (refine g_cond ?_; first | (refine v_cond_y rfl aD ?_) | (refine v_cond_n rfl aD ?_) | (refine v_condt rfl (fun h => ?_) (fun h => ?_) <;> (have h' := h; (try simp only [sx] at h')))))
      | (refine q_then ?_) | (refine q_then_r ?_) | (refine q_then_e ?_) | (refine q_blk_n ?_) | (refine q_blk_r ?_) | (refine q_blk_e ?_) | (refine q_blk_o rfl ?_) | (refine q_loop_r ?_) | (refine q_loop_e ?_) | (refine ret_n ?_))
    exact ret_int rfl (lookE_ok rfl) (idx_none (p := fun a => decide (n = a)) fun j hj => hi2 j aO).symm
theorem k_ContainsInt (xs : List Int) (n : Int) (hn : xs.length ≤ 1099511627776) : Con Try.prog 69 [.list 1 (ints xs), .int .i64 n] (.bool (decide (n ∈ xs))) := by
  intro al
  refine contract_of hmix Try.func69 rfl (by kernel_rfl) (by kernel_rfl) (Nat.le_of_ble_eq_true rfl) (fun row h => by cases h) ?_
  have hty_u27 := ty_u27
  have hty_s27 := ty_s27
  repeat' (first
      | (refine g_exec ?_; first | (refine g_move ?_; refine x_moveO _ rfl ?_) | (refine g_assign ?_; refine x_assignO _ rfl ?_) | (refine g_bin ?_; refine x_bin _ rfl rfl rfl ?_) | (refine g_call ?_; refine x_callG true (k_IndexInt xs n hn) rfl rfl rfl aS rfl aH ?_; simp only [cl]) | (refine x_nil (hK _ _ (.inl rfl) ?_); clear hK K) | (refine x_nil (hK _ _ (.inr (by kernel_rfl)) ?_); clear hK K))
      | (refine g_code ?_; first | (refine v_seq ?_) | (refine v_region (fun K hK => ?_)) | (refine v_block ?_) | (refine v_skip ?_) | (refine v_ret ?_) | (refine v_exit ?_))
      | (refine q_then ?_) | (refine q_then_r ?_) | (refine q_then_e ?_) | (refine q_blk_n ?_) | (refine q_blk_r ?_) | (refine q_blk_e ?_) | (refine q_blk_o rfl ?_) | (refine q_loop_r ?_) | (refine q_loop_e ?_) | (refine ret_n ?_))
  refine ret_bool rfl (lookE_ok rfl) ?_
  rw [show (decide (idx (fun a => decide (n = a)) xs ≥ 0)) = xs.any (fun a => decide (n = a)) from idx_any]
  rw [Bool.eq_iff_iff]
  simp
theorem k_hasInt (xs : List Int) (n : Int) (hn : xs.length ≤ 1099511627776) : Con Try.prog 55 [.list 1 (ints xs), .int .i64 n] (.bool (decide (n ∈ xs))) := by
  intro al
  refine contract_of hmix Try.func55 rfl (by kernel_rfl) (by kernel_rfl) (Nat.le_of_ble_eq_true rfl) (fun row h => by cases h) ?_
  have hty_u27 := ty_u27
  have hty_s27 := ty_s27
  repeat' (first
      | (refine g_exec ?_; first | (refine g_move ?_; refine x_moveO _ rfl ?_) | (refine g_assign ?_; refine x_assignO _ rfl ?_) | (refine g_call ?_; refine x_callG true (k_ContainsInt xs n hn) rfl rfl rfl aS rfl aH ?_; simp only [cl]) | (refine x_nil (hK _ _ (.inl rfl) ?_); clear hK K) | (refine x_nil (hK _ _ (.inr (by kernel_rfl)) ?_); clear hK K))
      | (refine g_code ?_; first | (refine v_seq ?_) | (refine v_region (fun K hK => ?_)) | (refine v_block ?_) | (refine v_skip ?_) | (refine v_ret ?_) | (refine v_exit ?_))
      | (refine q_then ?_) | (refine q_then_r ?_) | (refine q_then_e ?_) | (refine q_blk_n ?_) | (refine q_blk_r ?_) | (refine q_blk_e ?_) | (refine q_blk_o rfl ?_) | (refine q_loop_r ?_) | (refine q_loop_e ?_) | (refine ret_n ?_))
  exact ret_bool rfl (lookE_ok rfl) rfl
def Up (l : List Int) (i : Nat) : Prop := ∀ j, j < i - 1 → l.getD j 0 < l.getD (j + 1) 0
def Rising (l : List Int) : Prop := Up l l.length
instance (l : List Int) (i : Nat) : Decidable (Up l i) := by unfold Up; infer_instance
instance (l : List Int) : Decidable (Rising l) := by unfold Rising; infer_instance
theorem getI {l : List Int} {i : Nat} {a : Int} (h : l[i]? = some a) : l.getD i 0 = a := by simp [List.getD_eq_getElem?_getD, h]
end Go.Vs
set_option linter.unusedVariables false
set_option linter.unusedSimpArgs false
namespace Go.Vs
section
variable {P : Program} {G : Nat → Prop} {ρ : Id → Option (Nat × Nat)} {w0 w : World} {X : List (Option (Nat × Nat))} {M N : Mem} {v : Value}
theorem frzL_repN {t : Nat} {xs : List PV} {k : Nat} (hW : WRel G ρ w0 X M w) (hM : ∀ p ∈ (thawL t k xs).2.2, M p.1 = some p.2) (ht : t ≠ io) (hc : xs.all clean1 = true)
    (hsub : ∀ b, Stab G ρ M w b → Stab G ρ N w b) (hoff : ∀ id r, N id = some (some r) → M id = some (some r) ∧ id.1 ≠ t) {cs : Array Value} (h : Comps ρ w (Stab G ρ M w) M cs (thawL t k xs).2.1) : Comps ρ w (Stab G ρ N w) noMem cs (xs.map frz1) := by
  obtain ⟨hl, hat⟩ := thawL_at t xs k
  refine ⟨by rw [h.1, hl, List.length_map], fun j u hu => ?_⟩
  rw [List.getElem?_map] at hu
  cases hx : xs[j]? with
  | none => rw [hx] at hu; cases hu
  | some x =>
    rw [hx] at hu
    injection hu with hu
    subst hu
    obtain ⟨y, h1, h2⟩ := hat j x hx
    obtain ⟨c, h3, h4⟩ := h.2 j y h1
    refine ⟨c, h3, ?_⟩
    rcases h2 with ⟨ty, sz, es, k', rfl, rfl, hm⟩ | ⟨rfl, he⟩
    · exact osl_given hW (hM _ hm) ht hsub (fun id r h => ⟨(hoff id r h).1, fun e => (hoff id r h).2 (by rw [e])⟩) h4
    · rw [he]
      exact rep_clean1 hsub (List.all_eq_true.1 hc _ (List.mem_of_getElem? hx)) he h4
theorem frz2_repN {t : Nat} {x : PV} {k : Nat} (hW : WRel G ρ w0 X M w) (hM : ∀ p ∈ (thaw1 t k x).2.2, M p.1 = some p.2) (ht : t ≠ io) (hc : clean2 x = true)
    (hsub : ∀ b, Stab G ρ M w b → Stab G ρ N w b) (hoff : ∀ id r, N id = some (some r) → M id = some (some r) ∧ id.1 ≠ t) (h : Rep ρ w (Stab G ρ M w) M v (thaw1 t k x).2.1) : Rep ρ w (Stab G ρ N w) noMem v (frz2 x) := by
  cases x with
  | agg cs =>
    simp only [thaw1] at h hM
    obtain ⟨a, rfl, hcs⟩ := rep_agg.1 h
    exact rep_agg.2 ⟨a, rfl, frzL_repN hW hM ht hc hsub hoff hcs⟩
  | olist ty sz es => exact osl_given hW (hM ((t, k), some ⟨ty, sz, es, false⟩) (by simp [thaw1])) ht hsub (fun id r h => ⟨(hoff id r h).1, fun e => (hoff id r h).2 (by rw [e])⟩) h
  | any => exact rep_any
  | int _ _ => exact rep_clean1 hsub rfl rfl h
  | bool _ => exact rep_clean1 hsub rfl rfl h
  | str _ => exact rep_clean1 hsub rfl rfl h
  | nil => exact rep_clean1 hsub rfl rfl h
  | list _ _ => exact rep_clean1 hsub rfl rfl h
  | ptr _ => exact rep_clean1 hsub rfl rfl h
  | own _ _ _ => cases hc
  | clist _ _ => cases hc
  | osl _ _ _ => cases hc
  | tuple _ => cases hc
  | fn _ _ _ => cases hc
theorem ConL.frz {g : FuncId} {ys : List PV} {ios : List Row} {r : PV} {fin : List (List (List PV))} (h : ContractP P g true ys ios fun r' fin' => r' = r ∧ fin' = fin) (hc : clean r = true) (hbx : ∀ row ∈ ios, row.bx = false) :
    ContractP P g true ys ios fun r' fin' => r' = Go.Vs.frz r ∧ fin' = fin := by
  refine ⟨h.1, fun G w X ρ cargs hW hX hC => ?_⟩
  obtain ⟨cb, h2⟩ := h
  refine (h2 G w X ρ cargs hW hX hC).mono fun e w' => ?_
  rintro ⟨v, r', fin', rfl, ⟨rfl, rfl⟩, hl, hf, hR⟩
  refine ⟨v, Go.Vs.frz r', fin', rfl, ⟨rfl, rfl⟩, hl, hf, fun t ht => ?_⟩
  obtain ⟨ρ', hR⟩ := hR t ht
  refine ⟨ρ', ?_⟩
  have hrel := hR.rel
  have hval := hR.val
  have hN : ∀ id r, ioMem (withEs ios fin') id = some (some r) → ((ioMem (withEs ios fin')).upds (thaw t r').2) id = some (some r) ∧ id.1 ≠ t := by
    intro id r h
    have hio : id.1 = io := by
      simp only [ioMem] at h
      split at h
      · assumption
      · cases h
    have hne : id.1 ≠ t := by rw [hio]; exact fun e => ht e.symm
    exact ⟨by rw [upds_other _ _ id fun p hp e => hne (by rw [← e]; exact thaw_fst t r' p hp)]; exact h, hne⟩
  have hsub : ∀ b, Stab G ρ' ((ioMem (withEs ios fin')).upds (thaw t r').2) w' b → Stab G ρ' (ioMem (withEs ios fin')) w' b := fun b hb => ⟨hb.1, fun id r z h => hb.2.1 id r z (hN id r h).1, hb.2.2⟩
  have hkeys : ∀ p ∈ (thaw t r').2, noMem.upds (thaw t r').2 p.1 = some p.2 := fun p hp => by
    refine looks_upds _ ?_ p hp
    cases r' with
    | tuple vs => exact (thawT_keys t vs 0).2.2
    | _ => exact (thaw1_keys t 0 _).2.2
  have hat : ∀ p ∈ (thaw t r').2, ((ioMem (withEs ios fin')).upds (thaw t r').2) p.1 = some p.2 := fun p hp => by
    rcases upds_or (ioMem (withEs ios fin')) (thaw t r').2 p.1 with ⟨h1, _⟩ | ⟨_, h2⟩
    · rw [h1]; exact hkeys p hp
    · rw [hkeys p hp] at h2; cases h2
  have hmle : MLe ρ' w' (noMem.upds (thaw t r').2) ρ' w' ((ioMem (withEs ios fin')).upds (thaw t r').2) := fun id => by
    cases hMi : noMem.upds (thaw t r').2 id with
    | none => trivial
    | some o =>
      have e := hat (id, o) (upds_find hMi)
      cases o with
      | none => exact e
      | some row => exact .inr ⟨row, e, rfl, rfl, Nat.le_refl _, rfl, fun b z hb cur hcur => ⟨cur, hcur, rfl⟩⟩
  have hv : Rep ρ' w' (Stab G ρ' ((ioMem (withEs ios fin')).upds (thaw t r').2) w') ((ioMem (withEs ios fin')).upds (thaw t r').2) v (thaw t r').1 := hval.mono (fun b hb => ⟨hb.1, rfl⟩) hmle
  have key : Rep ρ' w' (Stab G ρ' (ioMem (withEs ios fin')) w') noMem v (Go.Vs.frz r') := by
    have one : ∀ x : PV, (∀ p ∈ (thaw1 t 0 x).2.2, ((ioMem (withEs ios fin')).upds (thaw t r').2) p.1 = some p.2) → clean2 x = true → Rep ρ' w' (Stab G ρ' ((ioMem (withEs ios fin')).upds (thaw t r').2) w') ((ioMem (withEs ios fin')).upds (thaw t r').2) v (thaw1 t 0 x).2.1 → Rep ρ' w' (Stab G ρ' (ioMem (withEs ios fin')) w') noMem v (frz2 x) :=
      fun x h1 h2 h3 => frz2_repN hrel h1 ht h2 hsub hN h3
    cases r' with
    | tuple vs =>
      simp only [thaw] at hv hrel hsub hN hat
      obtain ⟨a, rfl, hcs⟩ := rep_tuple.1 hv
      obtain ⟨k1, k2⟩ := thawT_at t vs 0
      refine rep_tuple.2 ⟨a, rfl, by rw [hcs.1, k1, List.length_map], fun j u hu => ?_⟩
      rw [List.getElem?_map] at hu
      cases hx : vs[j]? with
      | none => rw [hx] at hu; cases hu
      | some x =>
        rw [hx] at hu
        injection hu with hu
        subst hu
        obtain ⟨k', g1, g2⟩ := k2 j x hx
        obtain ⟨c, m1, m2⟩ := hcs.2 j _ g1
        exact ⟨c, m1, frz2_repN hrel (fun p hp => hat p (g2 p hp)) ht (List.all_eq_true.1 hc _ (List.mem_of_getElem? hx)) hsub hN m2⟩
    | agg cs => exact one (.agg cs) hat hc hv
    | olist ty sz es => exact one (.olist ty sz es) hat hc hv
    | any => exact rep_any
    | int _ _ => exact rep_clean1 hsub rfl rfl hv
    | bool _ => exact rep_clean1 hsub rfl rfl hv
    | str _ => exact rep_clean1 hsub rfl rfl hv
    | nil => exact rep_clean1 hsub rfl rfl hv
    | list _ _ => exact rep_clean1 hsub rfl rfl hv
    | ptr _ => exact rep_clean1 hsub rfl rfl hv
    | own _ _ _ => cases hc
    | clist _ _ => cases hc
    | osl _ _ _ => cases hc
    | fn _ _ _ => cases hc
  have hbx' : ∀ id r, ioMem (withEs ios fin') id = some (some r) → r.bx = false := by
    intro id r h
    simp only [ioMem] at h
    split at h
    · rw [withEs_at ios fin' _ hl] at h
      cases hk : ios[id.2]? with
      | none => rw [hk] at h; simp at h
      | some row0 =>
        cases hk2 : fin'[id.2]? with
        | none => rw [hk, hk2] at h; simp at h
        | some es =>
          rw [hk, hk2] at h
          simp at h
          rw [← h]
          exact hbx row0 (List.mem_of_getElem? hk)
    · cases h
  have hnew : WRel G ρ' w X (ioMem (withEs ios fin')) w' := by
    refine ⟨fun id id' r r' b z z' h1 h2 => hrel.inj id id' r r' b z z' (hN id r h1).1 (hN id' r' h2).1, fun id r h => ?_, fun id r h => hrel.new id r (hN id r h).1, hrel.keep, hrel.good⟩
    have hr := hrel.row id r (hN id r h).1
    have hb := hbx' id r h
    cases hρ : ρ' id with
    | none => rw [hρ] at hr; exact hr
    | some bz =>
      obtain ⟨b, z⟩ := bz
      rw [hρ] at hr
      obtain ⟨cur, C, g1, g2, g3, g4, g5, g6⟩ := hr
      refine ⟨cur, C, g1, g2, g3, g4, g5, fun i e hi => ⟨(g6 i e hi).1, fun j u hu => ?_⟩⟩
      obtain ⟨c, k1, k2, k3⟩ := (g6 i e hi).2 j u hu
      rw [hb] at k3 ⊢
      exact ⟨c, k1, k2, k3.pureMono fun b hb => ⟨hsub b hb, rfl⟩⟩
  refine ⟨?_, ?_, ?_⟩
  · rw [thaw_frz]; exact hnew
  · intro id row b z h1
    rw [thaw_frz] at h1
    cases h1
  · rw [thaw_frz]
    exact key.mono (fun b hb => ⟨⟨hb, fun h => by cases h⟩, rfl⟩) (MLe.refl _ _ _)
end
section
variable {P : Program} {st : St} {al : Bool} {xs ys : List PV} {u u1 : List (Option Id)}
theorem et_lst {sz sz' : Nat} {es es' : List (List PV)} (ha : al = true) (hz : sz = sz') (h : es = es') (ht : ExpT al st xs ys u) : ExpT al st (.list sz es :: xs) (.list sz' es' :: ys) u := ⟨[], u, ⟨ha, hz, h, rfl⟩, ht, rfl⟩
theorem el_lst {sz sz' : Nat} {es es' : List (List PV)} (ha : al = true) (hz : sz = sz') (h : es = es') (ht : ExpL al st xs ys u) : ExpL al st (.list sz es :: xs) (.list sz' es' :: ys) u := ⟨[], u, ⟨ha, hz, h, rfl⟩, ht, rfl⟩
theorem et_listA {id : Id} {T T' sz sz' n : Nat} {es es' : List (List PV)} (ha : al = true) (hm : getM st.mem id = some (some ⟨T, sz, es, false⟩)) (hio : id.1 ≠ io) (hT : T = T') (hz : sz = sz') (hn : n = es.length) (hes : es = es')
    (ht : ExpT al st xs ys u) : ExpT al st (.osl id 0 n :: xs) (.olist T' sz' es' :: ys) (some id :: u) := by
  subst hT hz hes hn
  exact ⟨[some id], u, ⟨rfl, hio, rfl, .inl ha, hm, rfl⟩, ht, rfl⟩
theorem el_listA {id : Id} {T T' sz sz' n : Nat} {es es' : List (List PV)} (ha : al = true) (hm : getM st.mem id = some (some ⟨T, sz, es, false⟩)) (hio : id.1 ≠ io) (hT : T = T') (hz : sz = sz') (hn : n = es.length) (hes : es = es')
    (ht : ExpL al st xs ys u) : ExpL al st (.osl id 0 n :: xs) (.olist T' sz' es' :: ys) (some id :: u) := by
  subst hT hz hes hn
  exact ⟨[some id], u, ⟨rfl, hio, rfl, .inl ha, hm, rfl⟩, ht, rfl⟩
variable {rows : List Row} {fin : List (List (List PV))} {e : Exit}
theorem ret_TL {fn : Func} {x y : PV} {rs : List ResultVar} (hrs : fn.results.toList = rs) (hr : resO st rs = some (x :: y :: xs)) (hu : uT (x :: y :: xs) = some u) (hc : cellsT P rs (x :: y :: xs)) (ha : apartIds u) (hf : finsL st.mem 0 rows fin) (he : ExpT al st (x :: y :: xs) ys u) :
    RetPost P fn al rows (fun r' fin' => r' = .tuple ys ∧ fin' = fin) .ret st := ret_ofL (.inl rfl) (x :: y :: xs) u (by rw [hrs]; exact resO_ok hr hc) he ha hf
theorem ret_AL {fn : Func} {cs ds : List PV} {rs : List ResultVar} (hrs : fn.results.toList = rs) (hr : resO st rs = some [.agg cs]) (hu : uO cs = some u) (hc : cellsT P rs [.agg cs]) (ha : apartIds u) (hf : finsL st.mem 0 rows fin) (he : ExpL al st cs ds u) :
    RetPost P fn al rows (fun r' fin' => r' = .agg ds ∧ fin' = fin) .ret st := ret_ofL (.inl rfl) [.agg cs] u (by rw [hrs]; exact resO_ok hr hc) he ha hf
theorem ret_lL {fn : Func} {t T T' sz sz' n : Nat} {id : Id} {es es' : List (List PV)} (hr : fn.results = #[.tmp t]) (hv : lookE st.env t = some (.osl id 0 n)) (hm : getM st.mem id = some (some ⟨T, sz, es, false⟩)) (hio : id.1 ≠ io) (hf : finsL st.mem 0 rows fin) (hT : T = T') (hz : sz = sz') (hn : n = es.length) (hes : es = es') :
    RetPost P fn true rows (fun r' fin' => r' = .olist T' sz' es' ∧ fin' = fin) .ret st := by
  subst hT hz hes hn
  exact ret_ofL (.inl rfl) [.osl id 0 es.length] [some id] (by rw [hr]; exact ⟨lookE_ok hv, trivial⟩) ⟨rfl, hio, rfl, .inl rfl, hm, rfl⟩ ⟨by simp, trivial⟩ hf
theorem ret_iL {fn : Func} {t : Nat} {k : IntKind} {n n' : Int} (hr : fn.results = #[.tmp t]) (hv : lookE st.env t = some (.int k n)) (hf : finsL st.mem 0 rows fin) (hn : n = n') : RetPost P fn al rows (fun r' fin' => r' = .int k n' ∧ fin' = fin) .ret st := by
  subst hn
  exact ret_ofL (.inl rfl) [.int k n] [] (by rw [hr]; exact ⟨lookE_ok hv, trivial⟩) ⟨rfl, rfl, rfl⟩ trivial hf
theorem ret_bL {fn : Func} {t : Nat} {n n' : Bool} (hr : fn.results = #[.tmp t]) (hv : lookE st.env t = some (.bool n)) (hf : finsL st.mem 0 rows fin) (hn : n = n') : RetPost P fn al rows (fun r' fin' => r' = .bool n' ∧ fin' = fin) .ret st := by
  subst hn
  exact ret_ofL (.inl rfl) [.bool n] [] (by rw [hr]; exact ⟨lookE_ok hv, trivial⟩) ⟨rfl, rfl⟩ trivial hf
end
section
variable {P : Program}
end
end Go.Vs
set_option linter.unusedVariables false
set_option linter.unusedSimpArgs false
namespace Go.Vs
section
variable {P : Program} {ops : Array Oper} {rest : List Oper} {env : List (Nat × PV)} {mem : List (Id × Option Row)} {tr : List (List Id × List Id)} {K : St → List (List Id × List Id) → Prop}
  {d : Nat} {ty : TypeId} {pos : String} {af : Array Edge}
theorem x_callLP {f : Operand} {args : List Operand} {ats : Array TypeId} {g : FuncId} {fi ca xs ys : List PV} {Post : PV → List (List (List PV)) → Prop} (ids : List Id) {rd : List Id} {ios : List Row}
    (hC : ContractP P g true ys ios Post) (hf : ev (getE env) f = .fn g fi ca)
    (hxs : fi ++ args.map (ev (getE env)) ++ ca = xs) (hlend : lendR mem ids ids ios) (hrd : rdL (rdO true 6 mem) xs ys [] = some rd)
    (hnd : (nodupB ids && nodupB rd && rd.all (fun id => !(hasId ids id) && !Nat.beq id.1 io && (match getM mem id with | some (some _) => true | _ => false))) = true)
    (hsnap : AllR (SnapD 6 (getM mem) ids rd) xs ys) (hfree : freeB mem d = true)
    (hk : ∀ r fin, Post r fin → ∃ v up mem', thaw d r = (v, up) ∧ rowsNewL mem ids ios fin = some mem' ∧
      exec P ops false rest ⟨(d, v) :: env, (up ++ (mem' ++ (rd.map fun id : Id => (id, (none : Option Row))))) ++ mem⟩ (([], []) :: tr) K) :
    exec P ops false (⟨some d, .call ⟨.value f, args.toArray, ats⟩, ty, pos, af, none⟩ :: rest) ⟨env, mem⟩ tr K := by
  obtain ⟨hl, hr⟩ := lendR_ok hlend
  simp only [Bool.and_eq_true] at hnd
  obtain ⟨⟨hn1, hn2⟩, hn3⟩ := hnd
  have hn3 := List.all_eq_true.1 hn3
  obtain ⟨h1, h2⟩ := freeB_ok hfree
  subst hxs
  refine .inr ⟨by simp [wantedPV], .inr ⟨d, true, true, ids, rd, ios, Post, ⟨⟨.value f, args.toArray, ats⟩, f, g, fi, ca, ys, rfl, rfl, hf, fun t ht => by injection ht with ht; exact ht.symm, hC,
    ⟨h1, h2, by simpa using hsnap, hl, nodupB_ok hn1, hr, fun id hid hm => ?_, .inl ⟨rfl, fun id hid => ?_, nodupB_ok hn2⟩⟩⟩, .inl ⟨rfl, fun r fin hp _ => ?_⟩⟩⟩
  · have := hn3 id hid
    simp only [Bool.and_eq_true, Bool.not_eq_true'] at this
    rw [hasId_iff.2 hm] at this
    exact absurd this.1.1 (by simp)
  · have := hn3 id hid
    simp only [Bool.and_eq_true, Bool.not_eq_true'] at this
    refine ⟨fun e => by have h2 := this.1.2; rw [e] at h2; simp at h2, ?_⟩
    have h2 := this.2
    split at h2
    · exact ⟨_, by assumption⟩
    · cases h2
  · obtain ⟨v, up, mem', hth, hnew, hk⟩ := hk r fin hp
    have hups : callUps (St.M ⟨env, mem⟩) d ids rd true r (backF (St.M ⟨env, mem⟩) ids ios fin) = up ++ (mem' ++ rd.map fun id => (id, none)) := by
      show callUps (getM mem) d ids rd true r (backF (getM mem) ids ios fin) = _
      simp only [callUps, hth, frzUps, rowsNewL_ok hnew]
      simp
    rw [hups, show (thaw d r).1 = v by rw [hth]]
    exact hk
end
theorem RetPost.mono {P : Program} {fn : Func} {al : Bool} {ios : List Row} {Post Post' : PV → List (List (List PV)) → Prop} {e : Exit} {st : St} (hp : ∀ r fin, Post r fin → Post' r fin) (h : RetPost P fn al ios Post e st) : RetPost P fn al ios Post' e st := by
  obtain ⟨h0, xs, r, u, fin, h1, h2, h3, h4, h5⟩ := h
  exact ⟨h0, xs, r, u, fin, h1, h2, h3, hp _ _ h4, h5⟩
theorem ContractP.mono {P : Program} {g : FuncId} {al : Bool} {ys : List PV} {ios : List Row} {Post Post' : PV → List (List (List PV)) → Prop} (hp : ∀ r fin, Post r fin → Post' r fin) (h : ContractP P g al ys ios Post) : ContractP P g al ys ios Post' := by
  refine ⟨h.1, fun G w X ρ cargs hW hX hC => (h.2 G w X ρ cargs hW hX hC).mono fun e w' => ?_⟩
  rintro ⟨v, r', fin', rfl, hP, hl, hf, hR⟩
  exact ⟨v, r', fin', rfl, hp _ _ hP, hl, hf, hR⟩
section
variable {P : Program} {G : Nat → Prop} {ρ : Id → Option (Nat × Nat)} {w0 w : World} {X : List (Option (Nat × Nat))} {M N : Mem} {v : Value}
theorem ConL.frzP {g : FuncId} {ys : List PV} {ios : List Row} {Post : PV → List (List (List PV)) → Prop} (h : ContractP P g true ys ios Post) (hcl : ∀ r fin, Post r fin → clean r = true) (hbx : ∀ row ∈ ios, row.bx = false) :
    ContractP P g true ys ios fun r' fin' => ∃ r, r' = Go.Vs.frz r ∧ Post r fin' := by
  refine ⟨h.1, fun G w X ρ cargs hW hX hC => ?_⟩
  obtain ⟨cb, h2⟩ := h
  refine (h2 G w X ρ cargs hW hX hC).mono fun e w' => ?_
  rintro ⟨v, r', fin', rfl, hP0, hl, hf, hR⟩
  have hc := hcl _ _ hP0
  refine ⟨v, Go.Vs.frz r', fin', rfl, ⟨r', rfl, hP0⟩, hl, hf, fun t ht => ?_⟩
  obtain ⟨ρ', hR⟩ := hR t ht
  refine ⟨ρ', ?_⟩
  have hrel := hR.rel
  have hval := hR.val
  have hN : ∀ id r, ioMem (withEs ios fin') id = some (some r) → ((ioMem (withEs ios fin')).upds (thaw t r').2) id = some (some r) ∧ id.1 ≠ t := by
    intro id r h
    have hio : id.1 = io := by
      simp only [ioMem] at h
      split at h
      · assumption
      · cases h
    have hne : id.1 ≠ t := by rw [hio]; exact fun e => ht e.symm
    exact ⟨by rw [upds_other _ _ id fun p hp e => hne (by rw [← e]; exact thaw_fst t r' p hp)]; exact h, hne⟩
  have hsub : ∀ b, Stab G ρ' ((ioMem (withEs ios fin')).upds (thaw t r').2) w' b → Stab G ρ' (ioMem (withEs ios fin')) w' b := fun b hb => ⟨hb.1, fun id r z h => hb.2.1 id r z (hN id r h).1, hb.2.2⟩
  have hkeys : ∀ p ∈ (thaw t r').2, noMem.upds (thaw t r').2 p.1 = some p.2 := fun p hp => by
    refine looks_upds _ ?_ p hp
    cases r' with
    | tuple vs => exact (thawT_keys t vs 0).2.2
    | _ => exact (thaw1_keys t 0 _).2.2
  have hat : ∀ p ∈ (thaw t r').2, ((ioMem (withEs ios fin')).upds (thaw t r').2) p.1 = some p.2 := fun p hp => by
    rcases upds_or (ioMem (withEs ios fin')) (thaw t r').2 p.1 with ⟨h1, _⟩ | ⟨_, h2⟩
    · rw [h1]; exact hkeys p hp
    · rw [hkeys p hp] at h2; cases h2
  have hmle : MLe ρ' w' (noMem.upds (thaw t r').2) ρ' w' ((ioMem (withEs ios fin')).upds (thaw t r').2) := fun id => by
    cases hMi : noMem.upds (thaw t r').2 id with
    | none => trivial
    | some o =>
      have e := hat (id, o) (upds_find hMi)
      cases o with
      | none => exact e
      | some row => exact .inr ⟨row, e, rfl, rfl, Nat.le_refl _, rfl, fun b z hb cur hcur => ⟨cur, hcur, rfl⟩⟩
  have hv : Rep ρ' w' (Stab G ρ' ((ioMem (withEs ios fin')).upds (thaw t r').2) w') ((ioMem (withEs ios fin')).upds (thaw t r').2) v (thaw t r').1 := hval.mono (fun b hb => ⟨hb.1, rfl⟩) hmle
  have key : Rep ρ' w' (Stab G ρ' (ioMem (withEs ios fin')) w') noMem v (Go.Vs.frz r') := by
    have one : ∀ x : PV, (∀ p ∈ (thaw1 t 0 x).2.2, ((ioMem (withEs ios fin')).upds (thaw t r').2) p.1 = some p.2) → clean2 x = true → Rep ρ' w' (Stab G ρ' ((ioMem (withEs ios fin')).upds (thaw t r').2) w') ((ioMem (withEs ios fin')).upds (thaw t r').2) v (thaw1 t 0 x).2.1 → Rep ρ' w' (Stab G ρ' (ioMem (withEs ios fin')) w') noMem v (frz2 x) :=
      fun x h1 h2 h3 => frz2_repN hrel h1 ht h2 hsub hN h3
    cases r' with
    | tuple vs =>
      simp only [thaw] at hv hrel hsub hN hat
      obtain ⟨a, rfl, hcs⟩ := rep_tuple.1 hv
      obtain ⟨k1, k2⟩ := thawT_at t vs 0
      refine rep_tuple.2 ⟨a, rfl, by rw [hcs.1, k1, List.length_map], fun j u hu => ?_⟩
      rw [List.getElem?_map] at hu
      cases hx : vs[j]? with
      | none => rw [hx] at hu; cases hu
      | some x =>
        rw [hx] at hu
        injection hu with hu
        subst hu
        obtain ⟨k', g1, g2⟩ := k2 j x hx
        obtain ⟨c, m1, m2⟩ := hcs.2 j _ g1
        exact ⟨c, m1, frz2_repN hrel (fun p hp => hat p (g2 p hp)) ht (List.all_eq_true.1 hc _ (List.mem_of_getElem? hx)) hsub hN m2⟩
    | agg cs => exact one (.agg cs) hat hc hv
    | olist ty sz es => exact one (.olist ty sz es) hat hc hv
    | any => exact rep_any
    | int _ _ => exact rep_clean1 hsub rfl rfl hv
    | bool _ => exact rep_clean1 hsub rfl rfl hv
    | str _ => exact rep_clean1 hsub rfl rfl hv
    | nil => exact rep_clean1 hsub rfl rfl hv
    | list _ _ => exact rep_clean1 hsub rfl rfl hv
    | ptr _ => exact rep_clean1 hsub rfl rfl hv
    | own _ _ _ => cases hc
    | clist _ _ => cases hc
    | osl _ _ _ => cases hc
    | fn _ _ _ => cases hc
  have hbx' : ∀ id r, ioMem (withEs ios fin') id = some (some r) → r.bx = false := by
    intro id r h
    simp only [ioMem] at h
    split at h
    · rw [withEs_at ios fin' _ hl] at h
      cases hk : ios[id.2]? with
      | none => rw [hk] at h; simp at h
      | some row0 =>
        cases hk2 : fin'[id.2]? with
        | none => rw [hk, hk2] at h; simp at h
        | some es =>
          rw [hk, hk2] at h
          simp at h
          rw [← h]
          exact hbx row0 (List.mem_of_getElem? hk)
    · cases h
  have hnew : WRel G ρ' w X (ioMem (withEs ios fin')) w' := by
    refine ⟨fun id id' r r' b z z' h1 h2 => hrel.inj id id' r r' b z z' (hN id r h1).1 (hN id' r' h2).1, fun id r h => ?_, fun id r h => hrel.new id r (hN id r h).1, hrel.keep, hrel.good⟩
    have hr := hrel.row id r (hN id r h).1
    have hb := hbx' id r h
    cases hρ : ρ' id with
    | none => rw [hρ] at hr; exact hr
    | some bz =>
      obtain ⟨b, z⟩ := bz
      rw [hρ] at hr
      obtain ⟨cur, C, g1, g2, g3, g4, g5, g6⟩ := hr
      refine ⟨cur, C, g1, g2, g3, g4, g5, fun i e hi => ⟨(g6 i e hi).1, fun j u hu => ?_⟩⟩
      obtain ⟨c, k1, k2, k3⟩ := (g6 i e hi).2 j u hu
      rw [hb] at k3 ⊢
      exact ⟨c, k1, k2, k3.pureMono fun b hb => ⟨hsub b hb, rfl⟩⟩
  refine ⟨?_, ?_, ?_⟩
  · rw [thaw_frz]; exact hnew
  · intro id row b z h1
    rw [thaw_frz] at h1
    cases h1
  · rw [thaw_frz]
    exact key.mono (fun b hb => ⟨⟨hb, fun h => by cases h⟩, rfl⟩) (MLe.refl _ _ _)
end
end Go.Vs
set_option linter.unusedVariables false
set_option linter.unusedSimpArgs false
set_option maxRecDepth 100000
set_option maxHeartbeats 4000000
namespace Go.Vs
open Go.Proofs
attribute [local irreducible] exec vwp thenQ blkQ loopQ RetPost
theorem et_agg0 {st : St} {al : Bool} {xs ys cs ds : List PV} {u : List (Option Id)} (h : ExpL al st cs ds []) (ht : ExpT al st xs ys u) : ExpT al st (.agg cs :: xs) (.agg ds :: ys) u := ⟨[], u, h, ht, rfl⟩
structure Cu where
  bs : List Int
  pos : Int
  seed : Int
@[reducible] def bytesP (bs : List Int) : List (List PV) := bs.map fun b => [PV.int .u8 b]
theorem bytes_at {bs : List Int} {i : Nat} {b : Int} (h : bs[i]? = some b) : (bytesP bs)[i]? = some [PV.int .u8 b] := by simp [bytesP, h]
@[reducible] def Cu.pv (c : Cu) : List PV := [.list 1 (bytesP c.bs), .int .i64 c.pos, .int .u64 c.seed]
structure Cu.Ok (c : Cu) : Prop where
  byte : ∀ b ∈ c.bs, 0 ≤ b ∧ b ≤ 255
  len : c.bs.length ≤ 1099511627776
  pos : 0 ≤ c.pos ∧ c.pos ≤ 1152921504606846976
structure Aft (c c' : Cu) (k : Int) : Prop where
  bs : c'.bs = c.bs
  pos : c.pos ≤ c'.pos ∧ c'.pos ≤ c.pos + k
theorem Aft.ok {c c' : Cu} {k : Int} (h : Aft c c' k) (hc : c.Ok) (hk : c.pos + k ≤ 1152921504606846976) : c'.Ok := ⟨by rw [h.bs]; exact hc.byte, by rw [h.bs]; exact hc.len, by have := h.pos; have := hc.pos; omega⟩
theorem Aft.trans {c c' c'' : Cu} {k l : Int} (h : Aft c c' k) (g : Aft c' c'' l) : Aft c c'' (k + l) := ⟨g.bs.trans h.bs, by have := h.pos; have := g.pos; omega⟩
theorem Aft.le {c c' : Cu} {k l : Int} (h : Aft c c' k) (hl : k ≤ l) : Aft c c' l := ⟨h.bs, by have := h.pos; omega⟩
theorem Aft.refl (c : Cu) : Aft c c 0 := ⟨rfl, by omega⟩
@[reducible] def cuRow (c : Cu) : Row := ⟨63, 3, [c.pv], false⟩
@[reducible] def Dr (f : FuncId) (args : List PV) (c : Cu) (r : PV) (c' : Cu) : Prop := ContractP Try.prog f true (.own (io, 0) 0 0 :: args) [cuRow c] (fun r' fin' => r' = r ∧ fin' = [[c'.pv]])
def nxS (c : Cu) (b : Int) : Int := IntKind.u64.wrap (IntKind.u64.wrap (IntKind.u64.wrap (c.seed * 6364136223846793005) + IntKind.u64.wrap b) + 917917)
def nxX (s : Int) : Int := IntKind.i64.wrap (IntKind.u64.wrap ((BitVec.ofInt IntKind.u64.bits (s.fdiv (2 ^ min (Int.toNat 40) IntKind.u64.bits)) &&& BitVec.ofInt IntKind.u64.bits 255).toNat : Nat))
theorem wrap_u {n : Int} (h : 0 ≤ n ∧ n < 18446744073709551616) : IntKind.u64.wrap n = n := by
  simp [IntKind.wrap, IntKind.signed, IntKind.bits]
  omega
theorem nxX_bnd (s : Int) : 0 ≤ nxX s ∧ nxX s ≤ 255 := by
  unfold nxX
  have h : (BitVec.ofInt IntKind.u64.bits (s.fdiv (2 ^ min (Int.toNat 40) IntKind.u64.bits)) &&& BitVec.ofInt IntKind.u64.bits 255).toNat ≤ 255 := by
    rw [BitVec.toNat_and]
    exact Nat.le_trans Nat.and_le_right (by decide)
  generalize (BitVec.ofInt IntKind.u64.bits (s.fdiv (2 ^ min (Int.toNat 40) IntKind.u64.bits)) &&& BitVec.ofInt IntKind.u64.bits 255).toNat = m at *
  rw [wrap_u aO, wrap_in aO]
  omega
theorem k_next (c : Cu) (hc : c.Ok) (hp : c.pos + 1 ≤ 1152921504606846976) : ∃ (r : Int) (c' : Cu), Dr 63 [] c (.int .i64 r) c' ∧ Aft c c' 1 ∧ 0 ≤ r ∧ r ≤ 255 := by
  have hpos := hc.pos
  have hlen := hc.len
  have hl1 : (bytesP c.bs).length = c.bs.length := by simp
  by_cases hlt : c.pos < c.bs.length
  · obtain ⟨b, hb⟩ := get_ex (show c.pos.toNat < c.bs.length by omega)
    have hx := bytes_at hb
    have hbb := hc.byte b (get_mem hb)
    refine ⟨b, ⟨c.bs, c.pos + 1, nxS c b⟩, ?_, ⟨rfl, by simp only; omega⟩, hbb⟩
    refine contract_of hmix Try.func63 rfl (by kernel_rfl) (by kernel_rfl) (Nat.le_of_ble_eq_true rfl) (fun row h => by (simp only [List.mem_cons, List.not_mem_nil, or_false] at h; first | (subst h; (first | exact .inl rfl | exact .inr (fun e he u hu => by (simp only [List.mem_cons, List.not_mem_nil, or_false] at he; subst he; simp only [List.mem_cons, List.not_mem_nil, or_false] at hu; subst hu; rfl)))) | (rcases h with rfl | rfl <;> (first | exact .inl rfl | exact .inr (fun e he u hu => by (simp only [List.mem_cons, List.not_mem_nil, or_false] at he; subst he; simp only [List.mem_cons, List.not_mem_nil, or_false] at hu; subst hu; rfl)))) | (rcases h with rfl | rfl | rfl <;> (first | exact .inl rfl | exact .inr (fun e he u hu => by (simp only [List.mem_cons, List.not_mem_nil, or_false] at he; subst he; simp only [List.mem_cons, List.not_mem_nil, or_false] at hu; subst hu; rfl)))) | (rcases h with rfl | rfl | rfl | rfl <;> (first | exact .inl rfl | exact .inr (fun e he u hu => by (simp only [List.mem_cons, List.not_mem_nil, or_false] at he; subst he; simp only [List.mem_cons, List.not_mem_nil, or_false] at hu; subst hu; rfl)))))) ?_
    have hty_f63_1 := ty_f63_1
    have hty_c3 := ty_c3
    have hty_f63_0 := ty_f63_0
    have hty_c22 := ty_c22
    have hty_u22 := ty_u22
    have hty_s22 := ty_s22
    have hty_c5 := ty_c5
    have hty_u5 := ty_u5
    have hty_u3 := ty_u3
    have hty_t3 := ty_t3
    have hty_f63_2 := ty_f63_2
    have hty_c61 := ty_c61
    have hty_u61 := ty_u61
    have hty_t61 := ty_t61
    repeat' (first
      | (refine g_exec ?_; first | (refine g_move ?_; refine x_moveO _ rfl ?_) | (refine g_assign ?_; refine x_assignO _ rfl ?_) | (refine g_bin ?_; first | (refine x_add rfl rfl aO ?_) | (refine x_mul rfl rfl aO ?_) | (refine x_bin _ rfl rfl rfl ?_) | (refine x_shr _ rfl rfl rfl ?_) | (refine x_strBin _ rfl rfl rfl ?_)) | (refine g_load ?_; first | (refine x_load_pc aA rfl ?_) | (refine x_load_oc _ aA rfl rfl aE rfl ?_) | (refine x_load_pa _ aA rfl aZ aL ?_) | (refine x_load_oa _ aA rfl rfl aE aZ aL ?_)) | (refine g_field ?_; first | (refine x_field_p _ aA rfl aL ?_) | (refine x_field_o _ aA rfl rfl (by simp only [lx, Nat.reduceAdd]; first | done | rfl) ?_)) | (refine g_index ?_; first | (refine x_index_l _ aA rfl rfl aO aA ?_) | (refine x_index_o _ aA rfl rfl rfl rfl aO aO (by first | (rw [Nat.zero_add, Int.toNat_natCast]) | (rw [Nat.zero_add]) | rfl) ?_)) | (refine g_call ?_; first | (refine x_len_l aA rfl ?_) | (refine x_len_o aA rfl rfl ?_) | (refine x_len_n aA rfl ?_) | (refine x_len_s aA (evO_ok rfl) ?_)) | (refine x_convert_i aA aA (evO_ok rfl) aO ?_) | (refine x_convert aA aA (evO_ok rfl) ?_) | (refine x_storeO _ _ _ rfl rfl aE (by first | assumption | (exact TAgg.size aA)) rfl rfl rfl aZ rfl aL (by first | (first | (simp only [lx, Nat.reduceAdd]; first | done | rfl) | fail) | rfl) ?_) | (refine x_nil_p rfl ?_) | (refine x_nil_o rfl rfl ?_) | (refine x_nil_f rfl ?_) | (refine x_nil (hK _ _ (.inl rfl) ?_); clear hK K) | (refine x_nil (hK _ _ (.inr (by kernel_rfl)) ?_); clear hK K))
      | (refine g_code ?_; first | (refine v_seq ?_) | (refine v_region (fun K hK => ?_)) | (refine v_block ?_) | (refine v_skip ?_) | (refine v_ret ?_) | (refine v_exit ?_) | (refine g_cond ?_; first | (refine v_cond_y rfl aD ?_) | (refine v_cond_n rfl aD ?_) | (refine v_condt rfl (fun h => ?_) (fun h => ?_) <;> (have h' := h; (try simp only [sx] at h')))))
      | (refine q_then ?_) | (refine q_then_r ?_) | (refine q_then_e ?_) | (refine q_blk_n ?_) | (refine q_blk_r ?_) | (refine q_blk_e ?_) | (refine q_blk_o rfl ?_) | (refine q_loop_r ?_) | (refine q_loop_e ?_) | (refine ret_n ?_))
    all_goals first
      | (exfalso; omega)
      | exact ret_iL rfl rfl ⟨⟨rfl, rfl, fun h => by cases h⟩, trivial⟩ rfl
  · refine ⟨nxX (nxS c 0), ⟨c.bs, c.pos + 1, nxS c 0⟩, ?_, ⟨rfl, by simp only; omega⟩, nxX_bnd _⟩
    refine contract_of hmix Try.func63 rfl (by kernel_rfl) (by kernel_rfl) (Nat.le_of_ble_eq_true rfl) (fun row h => by (simp only [List.mem_cons, List.not_mem_nil, or_false] at h; first | (subst h; (first | exact .inl rfl | exact .inr (fun e he u hu => by (simp only [List.mem_cons, List.not_mem_nil, or_false] at he; subst he; simp only [List.mem_cons, List.not_mem_nil, or_false] at hu; subst hu; rfl)))) | (rcases h with rfl | rfl <;> (first | exact .inl rfl | exact .inr (fun e he u hu => by (simp only [List.mem_cons, List.not_mem_nil, or_false] at he; subst he; simp only [List.mem_cons, List.not_mem_nil, or_false] at hu; subst hu; rfl)))) | (rcases h with rfl | rfl | rfl <;> (first | exact .inl rfl | exact .inr (fun e he u hu => by (simp only [List.mem_cons, List.not_mem_nil, or_false] at he; subst he; simp only [List.mem_cons, List.not_mem_nil, or_false] at hu; subst hu; rfl)))) | (rcases h with rfl | rfl | rfl | rfl <;> (first | exact .inl rfl | exact .inr (fun e he u hu => by (simp only [List.mem_cons, List.not_mem_nil, or_false] at he; subst he; simp only [List.mem_cons, List.not_mem_nil, or_false] at hu; subst hu; rfl)))))) ?_
    have hty_f63_1 := ty_f63_1
    have hty_c3 := ty_c3
    have hty_f63_0 := ty_f63_0
    have hty_c22 := ty_c22
    have hty_u22 := ty_u22
    have hty_s22 := ty_s22
    have hty_c5 := ty_c5
    have hty_u5 := ty_u5
    have hty_u3 := ty_u3
    have hty_t3 := ty_t3
    have hty_f63_2 := ty_f63_2
    have hty_c61 := ty_c61
    have hty_u61 := ty_u61
    have hty_t61 := ty_t61
    repeat' (first
      | (refine g_exec ?_; first | (refine g_move ?_; refine x_moveO _ rfl ?_) | (refine g_assign ?_; refine x_assignO _ rfl ?_) | (refine g_bin ?_; first | (refine x_add rfl rfl aO ?_) | (refine x_mul rfl rfl aO ?_) | (refine x_bin _ rfl rfl rfl ?_) | (refine x_shr _ rfl rfl rfl ?_) | (refine x_strBin _ rfl rfl rfl ?_)) | (refine g_load ?_; first | (refine x_load_pc aA rfl ?_) | (refine x_load_oc _ aA rfl rfl aE rfl ?_) | (refine x_load_pa _ aA rfl aZ aL ?_) | (refine x_load_oa _ aA rfl rfl aE aZ aL ?_)) | (refine g_field ?_; first | (refine x_field_p _ aA rfl aL ?_) | (refine x_field_o _ aA rfl rfl (by simp only [lx, Nat.reduceAdd]; first | done | rfl) ?_)) | (refine g_index ?_; first | (refine x_index_l _ aA rfl rfl aO aA ?_) | (refine x_index_o _ aA rfl rfl rfl rfl aO aO (by first | (rw [Nat.zero_add, Int.toNat_natCast]) | (rw [Nat.zero_add]) | rfl) ?_)) | (refine g_call ?_; first | (refine x_len_l aA rfl ?_) | (refine x_len_o aA rfl rfl ?_) | (refine x_len_n aA rfl ?_) | (refine x_len_s aA (evO_ok rfl) ?_)) | (refine x_convert_i aA aA (evO_ok rfl) aO ?_) | (refine x_convert aA aA (evO_ok rfl) ?_) | (refine x_storeO _ _ _ rfl rfl aE (by first | assumption | (exact TAgg.size aA)) rfl rfl rfl aZ rfl aL (by first | (first | (simp only [lx, Nat.reduceAdd]; first | done | rfl) | fail) | rfl) ?_) | (refine x_nil_p rfl ?_) | (refine x_nil_o rfl rfl ?_) | (refine x_nil_f rfl ?_) | (refine x_nil (hK _ _ (.inl rfl) ?_); clear hK K) | (refine x_nil (hK _ _ (.inr (by kernel_rfl)) ?_); clear hK K))
      | (refine g_code ?_; first | (refine v_seq ?_) | (refine v_region (fun K hK => ?_)) | (refine v_block ?_) | (refine v_skip ?_) | (refine v_ret ?_) | (refine v_exit ?_) | (refine g_cond ?_; first | (refine v_cond_y rfl aD ?_) | (refine v_cond_n rfl aD ?_) | (refine v_condt rfl (fun h => ?_) (fun h => ?_) <;> (have h' := h; (try simp only [sx] at h')))))
      | (refine q_then ?_) | (refine q_then_r ?_) | (refine q_then_e ?_) | (refine q_blk_n ?_) | (refine q_blk_r ?_) | (refine q_blk_e ?_) | (refine q_blk_o rfl ?_) | (refine q_loop_r ?_) | (refine q_loop_e ?_) | (refine ret_n ?_))
    all_goals first
      | (exfalso; omega)
      | exact ret_iL rfl rfl ⟨⟨rfl, rfl, fun h => by cases h⟩, trivial⟩ rfl
theorem k_pick (c : Cu) (n : Int) (hc : c.Ok) (hp : c.pos + 2 ≤ 1152921504606846976) (hn : n ≤ 1000000000) : ∃ (r : Int) (c' : Cu), Dr 43 [.int .i64 n] c (.int .i64 r) c' ∧ Aft c c' 2 ∧ 0 ≤ r ∧ (1 ≤ n → r < n) ∧ (n ≤ 1 → r = 0) := by
  by_cases h1 : n ≤ 1
  · refine ⟨0, c, ?_, (Aft.refl c).le aO, by omega, by omega, by omega⟩
    refine contract_of hmix Try.func43 rfl (by kernel_rfl) (by kernel_rfl) (Nat.le_of_ble_eq_true rfl) (fun row h => by (simp only [List.mem_cons, List.not_mem_nil, or_false] at h; first | (subst h; (first | exact .inl rfl | exact .inr (fun e he u hu => by (simp only [List.mem_cons, List.not_mem_nil, or_false] at he; subst he; simp only [List.mem_cons, List.not_mem_nil, or_false] at hu; subst hu; rfl)))) | (rcases h with rfl | rfl <;> (first | exact .inl rfl | exact .inr (fun e he u hu => by (simp only [List.mem_cons, List.not_mem_nil, or_false] at he; subst he; simp only [List.mem_cons, List.not_mem_nil, or_false] at hu; subst hu; rfl)))) | (rcases h with rfl | rfl | rfl <;> (first | exact .inl rfl | exact .inr (fun e he u hu => by (simp only [List.mem_cons, List.not_mem_nil, or_false] at he; subst he; simp only [List.mem_cons, List.not_mem_nil, or_false] at hu; subst hu; rfl)))) | (rcases h with rfl | rfl | rfl | rfl <;> (first | exact .inl rfl | exact .inr (fun e he u hu => by (simp only [List.mem_cons, List.not_mem_nil, or_false] at he; subst he; simp only [List.mem_cons, List.not_mem_nil, or_false] at hu; subst hu; rfl)))))) ?_
    repeat' (first
      | (refine g_exec ?_; first | (refine g_move ?_; refine x_moveO _ rfl ?_) | (refine g_assign ?_; refine x_assignO _ rfl ?_) | (refine g_bin ?_; first | (refine x_add rfl rfl aO ?_) | (refine x_mul rfl rfl aO ?_) | (refine x_rem rfl rfl aO ?_) | (refine x_remT rfl rfl aO ?_) | (refine x_bin _ rfl rfl rfl ?_) | (refine x_strBin _ rfl rfl rfl ?_)) | (refine x_nil (hK _ _ (.inl rfl) ?_); clear hK K) | (refine x_nil (hK _ _ (.inr (by kernel_rfl)) ?_); clear hK K))
      | (refine g_code ?_; first | (refine v_seq ?_) | (refine v_region (fun K hK => ?_)) | (refine v_block ?_) | (refine v_skip ?_) | (refine v_ret ?_) | (refine v_exit ?_) | (refine g_cond ?_; first | (refine v_cond_y rfl aD ?_) | (refine v_cond_n rfl aD ?_) | (refine v_condt rfl (fun h => ?_) (fun h => ?_) <;> (have h' := h; (try simp only [sx] at h')))))
      | (refine q_then ?_) | (refine q_then_r ?_) | (refine q_then_e ?_) | (refine q_blk_n ?_) | (refine q_blk_r ?_) | (refine q_blk_e ?_) | (refine q_blk_o rfl ?_) | (refine q_loop_r ?_) | (refine q_loop_e ?_) | (refine ret_n ?_))
    all_goals first
      | (exfalso; omega)
      | exact ret_iL rfl rfl ⟨⟨rfl, rfl, fun h => by cases h⟩, trivial⟩ rfl
  · obtain ⟨r1, c1, k1, a1, b1, b2⟩ := k_next c hc aO
    by_cases h2 : n > 200
    · obtain ⟨r2, c2, k2, a2, b3, b4⟩ := k_next c1 (a1.ok hc aO) (by have := a1.pos; omega)
      refine ⟨(r1 * 256 + r2) % n, c2, ?_, (a1.trans a2).le aO, Int.emod_nonneg _ aO, fun _ => Int.emod_lt_of_pos _ aO, fun h => by omega⟩
      refine contract_of hmix Try.func43 rfl (by kernel_rfl) (by kernel_rfl) (Nat.le_of_ble_eq_true rfl) (fun row h => by (simp only [List.mem_cons, List.not_mem_nil, or_false] at h; first | (subst h; (first | exact .inl rfl | exact .inr (fun e he u hu => by (simp only [List.mem_cons, List.not_mem_nil, or_false] at he; subst he; simp only [List.mem_cons, List.not_mem_nil, or_false] at hu; subst hu; rfl)))) | (rcases h with rfl | rfl <;> (first | exact .inl rfl | exact .inr (fun e he u hu => by (simp only [List.mem_cons, List.not_mem_nil, or_false] at he; subst he; simp only [List.mem_cons, List.not_mem_nil, or_false] at hu; subst hu; rfl)))) | (rcases h with rfl | rfl | rfl <;> (first | exact .inl rfl | exact .inr (fun e he u hu => by (simp only [List.mem_cons, List.not_mem_nil, or_false] at he; subst he; simp only [List.mem_cons, List.not_mem_nil, or_false] at hu; subst hu; rfl)))) | (rcases h with rfl | rfl | rfl | rfl <;> (first | exact .inl rfl | exact .inr (fun e he u hu => by (simp only [List.mem_cons, List.not_mem_nil, or_false] at he; subst he; simp only [List.mem_cons, List.not_mem_nil, or_false] at hu; subst hu; rfl)))))) ?_
      repeat' (first
      | (refine g_exec ?_; first | (refine g_move ?_; refine x_moveO _ rfl ?_) | (refine g_assign ?_; refine x_assignO _ rfl ?_) | (refine g_bin ?_; first | (refine x_add rfl rfl aO ?_) | (refine x_mul rfl rfl aO ?_) | (refine x_rem rfl rfl aO ?_) | (refine x_remT rfl rfl aO ?_) | (refine x_bin _ rfl rfl rfl ?_) | (refine x_strBin _ rfl rfl rfl ?_)) | (refine g_call ?_; first | (refine x_callL [(io, 0)] (k1) rfl rfl (by (repeat' (first | exact trivial | refine ⟨⟨_, rfl, ?_⟩, ?_⟩ | exact .inl ⟨rfl, .inl rfl⟩ | exact .inr ⟨rfl, rfl, rfl, rfl, rfl, fun e he u hu => by (simp only [List.mem_cons, List.not_mem_nil, or_false] at he; subst he; simp only [List.mem_cons, List.not_mem_nil, or_false] at hu; subst hu; rfl)⟩ | exact .inl ⟨rfl, .inr (fun e he => by (simp only [List.mem_cons, List.not_mem_nil, or_false] at he; subst he; rfl))⟩ | fail)); first | done | fail) rfl rfl aS rfl aH rfl ?_; simp only [cl]) | (refine x_callL [(io, 0)] (k2) rfl rfl (by (repeat' (first | exact trivial | refine ⟨⟨_, rfl, ?_⟩, ?_⟩ | exact .inl ⟨rfl, .inl rfl⟩ | exact .inr ⟨rfl, rfl, rfl, rfl, rfl, fun e he u hu => by (simp only [List.mem_cons, List.not_mem_nil, or_false] at he; subst he; simp only [List.mem_cons, List.not_mem_nil, or_false] at hu; subst hu; rfl)⟩ | exact .inl ⟨rfl, .inr (fun e he => by (simp only [List.mem_cons, List.not_mem_nil, or_false] at he; subst he; rfl))⟩ | fail)); first | done | fail) rfl rfl aS rfl aH rfl ?_; simp only [cl])) | (refine x_nil (hK _ _ (.inl rfl) ?_); clear hK K) | (refine x_nil (hK _ _ (.inr (by kernel_rfl)) ?_); clear hK K))
      | (refine g_code ?_; first | (refine v_seq ?_) | (refine v_region (fun K hK => ?_)) | (refine v_block ?_) | (refine v_skip ?_) | (refine v_ret ?_) | (refine v_exit ?_) | (refine g_cond ?_; first | (refine v_cond_y rfl aD ?_) | (refine v_cond_n rfl aD ?_) | (refine v_condt rfl (fun h => ?_) (fun h => ?_) <;> (have h' := h; (try simp only [sx] at h')))))
      | (refine q_then ?_) | (refine q_then_r ?_) | (refine q_then_e ?_) | (refine q_blk_n ?_) | (refine q_blk_r ?_) | (refine q_blk_e ?_) | (refine q_blk_o rfl ?_) | (refine q_loop_r ?_) | (refine q_loop_e ?_) | (refine ret_n ?_))
      all_goals first
        | (exfalso; omega)
        | exact ret_iL rfl rfl ⟨⟨rfl, rfl, fun h => by cases h⟩, trivial⟩ rfl
    · refine ⟨r1 % n, c1, ?_, a1.le aO, Int.emod_nonneg _ aO, fun _ => Int.emod_lt_of_pos _ aO, fun h => by omega⟩
      refine contract_of hmix Try.func43 rfl (by kernel_rfl) (by kernel_rfl) (Nat.le_of_ble_eq_true rfl) (fun row h => by (simp only [List.mem_cons, List.not_mem_nil, or_false] at h; first | (subst h; (first | exact .inl rfl | exact .inr (fun e he u hu => by (simp only [List.mem_cons, List.not_mem_nil, or_false] at he; subst he; simp only [List.mem_cons, List.not_mem_nil, or_false] at hu; subst hu; rfl)))) | (rcases h with rfl | rfl <;> (first | exact .inl rfl | exact .inr (fun e he u hu => by (simp only [List.mem_cons, List.not_mem_nil, or_false] at he; subst he; simp only [List.mem_cons, List.not_mem_nil, or_false] at hu; subst hu; rfl)))) | (rcases h with rfl | rfl | rfl <;> (first | exact .inl rfl | exact .inr (fun e he u hu => by (simp only [List.mem_cons, List.not_mem_nil, or_false] at he; subst he; simp only [List.mem_cons, List.not_mem_nil, or_false] at hu; subst hu; rfl)))) | (rcases h with rfl | rfl | rfl | rfl <;> (first | exact .inl rfl | exact .inr (fun e he u hu => by (simp only [List.mem_cons, List.not_mem_nil, or_false] at he; subst he; simp only [List.mem_cons, List.not_mem_nil, or_false] at hu; subst hu; rfl)))))) ?_
      repeat' (first
      | (refine g_exec ?_; first | (refine g_move ?_; refine x_moveO _ rfl ?_) | (refine g_assign ?_; refine x_assignO _ rfl ?_) | (refine g_bin ?_; first | (refine x_add rfl rfl aO ?_) | (refine x_mul rfl rfl aO ?_) | (refine x_rem rfl rfl aO ?_) | (refine x_remT rfl rfl aO ?_) | (refine x_bin _ rfl rfl rfl ?_) | (refine x_strBin _ rfl rfl rfl ?_)) | (refine g_call ?_; refine x_callL [(io, 0)] (k1) rfl rfl (by (repeat' (first | exact trivial | refine ⟨⟨_, rfl, ?_⟩, ?_⟩ | exact .inl ⟨rfl, .inl rfl⟩ | exact .inr ⟨rfl, rfl, rfl, rfl, rfl, fun e he u hu => by (simp only [List.mem_cons, List.not_mem_nil, or_false] at he; subst he; simp only [List.mem_cons, List.not_mem_nil, or_false] at hu; subst hu; rfl)⟩ | exact .inl ⟨rfl, .inr (fun e he => by (simp only [List.mem_cons, List.not_mem_nil, or_false] at he; subst he; rfl))⟩ | fail)); first | done | fail) rfl rfl aS rfl aH rfl ?_; simp only [cl]) | (refine x_nil (hK _ _ (.inl rfl) ?_); clear hK K) | (refine x_nil (hK _ _ (.inr (by kernel_rfl)) ?_); clear hK K))
      | (refine g_code ?_; first | (refine v_seq ?_) | (refine v_region (fun K hK => ?_)) | (refine v_block ?_) | (refine v_skip ?_) | (refine v_ret ?_) | (refine v_exit ?_) | (refine g_cond ?_; first | (refine v_cond_y rfl aD ?_) | (refine v_cond_n rfl aD ?_) | (refine v_condt rfl (fun h => ?_) (fun h => ?_) <;> (have h' := h; (try simp only [sx] at h')))))
      | (refine q_then ?_) | (refine q_then_r ?_) | (refine q_then_e ?_) | (refine q_blk_n ?_) | (refine q_blk_r ?_) | (refine q_blk_e ?_) | (refine q_blk_o rfl ?_) | (refine q_loop_r ?_) | (refine q_loop_e ?_) | (refine ret_n ?_))
      all_goals first
        | (exfalso; omega)
        | exact ret_iL rfl rfl ⟨⟨rfl, rfl, fun h => by cases h⟩, trivial⟩ rfl
theorem k_one (c : Cu) (n : Int) (hc : c.Ok) (hp : c.pos + 2 ≤ 1152921504606846976) (hn : n ≤ 1000000000) : ∃ (b : Bool) (c' : Cu), Dr 61 [.int .i64 n] c (.bool b) c' ∧ Aft c c' 2 := by
  obtain ⟨r, c1, k1, a1, b1, b2⟩ := k_pick c n hc hp hn
  refine ⟨r == 0, c1, ?_, a1⟩
  refine contract_of hmix Try.func61 rfl (by kernel_rfl) (by kernel_rfl) (Nat.le_of_ble_eq_true rfl) (fun row h => by (simp only [List.mem_cons, List.not_mem_nil, or_false] at h; first | (subst h; (first | exact .inl rfl | exact .inr (fun e he u hu => by (simp only [List.mem_cons, List.not_mem_nil, or_false] at he; subst he; simp only [List.mem_cons, List.not_mem_nil, or_false] at hu; subst hu; rfl)))) | (rcases h with rfl | rfl <;> (first | exact .inl rfl | exact .inr (fun e he u hu => by (simp only [List.mem_cons, List.not_mem_nil, or_false] at he; subst he; simp only [List.mem_cons, List.not_mem_nil, or_false] at hu; subst hu; rfl)))) | (rcases h with rfl | rfl | rfl <;> (first | exact .inl rfl | exact .inr (fun e he u hu => by (simp only [List.mem_cons, List.not_mem_nil, or_false] at he; subst he; simp only [List.mem_cons, List.not_mem_nil, or_false] at hu; subst hu; rfl)))) | (rcases h with rfl | rfl | rfl | rfl <;> (first | exact .inl rfl | exact .inr (fun e he u hu => by (simp only [List.mem_cons, List.not_mem_nil, or_false] at he; subst he; simp only [List.mem_cons, List.not_mem_nil, or_false] at hu; subst hu; rfl)))))) ?_
  repeat' (first
      | (refine g_exec ?_; first | (refine g_move ?_; refine x_moveO _ rfl ?_) | (refine g_assign ?_; refine x_assignO _ rfl ?_) | (refine g_bin ?_; first | (refine x_bin _ rfl rfl rfl ?_) | (refine x_boolEq aA rfl rfl ?_) | (refine x_strBin _ rfl rfl rfl ?_)) | (refine g_call ?_; refine x_callL [(io, 0)] (k1) rfl rfl (by (repeat' (first | exact trivial | refine ⟨⟨_, rfl, ?_⟩, ?_⟩ | exact .inl ⟨rfl, .inl rfl⟩ | exact .inr ⟨rfl, rfl, rfl, rfl, rfl, fun e he u hu => by (simp only [List.mem_cons, List.not_mem_nil, or_false] at he; subst he; simp only [List.mem_cons, List.not_mem_nil, or_false] at hu; subst hu; rfl)⟩ | exact .inl ⟨rfl, .inr (fun e he => by (simp only [List.mem_cons, List.not_mem_nil, or_false] at he; subst he; rfl))⟩ | fail)); first | done | fail) rfl rfl aS rfl aH rfl ?_; simp only [cl]) | (refine x_nil (hK _ _ (.inl rfl) ?_); clear hK K) | (refine x_nil (hK _ _ (.inr (by kernel_rfl)) ?_); clear hK K))
      | (refine g_code ?_; first | (refine v_seq ?_) | (refine v_region (fun K hK => ?_)) | (refine v_block ?_) | (refine v_skip ?_) | (refine v_ret ?_) | (refine v_exit ?_))
      | (refine q_then ?_) | (refine q_then_r ?_) | (refine q_then_e ?_) | (refine q_blk_n ?_) | (refine q_blk_r ?_) | (refine q_blk_e ?_) | (refine q_blk_o rfl ?_) | (refine q_loop_r ?_) | (refine q_loop_e ?_) | (refine ret_n ?_))
  all_goals exact ret_bL rfl rfl ⟨⟨rfl, rfl, fun h => by cases h⟩, trivial⟩ rfl
theorem k_among (c : Cu) (l : List Int) (hc : c.Ok) (hp : c.pos + 2 ≤ 1152921504606846976) (hl : 1 ≤ l.length ∧ l.length ≤ 1000000) : ∃ (x : Int) (c' : Cu), Dr 62 [.list 1 (ints l)] c (.int .i64 x) c' ∧ Aft c c' 2 ∧ x ∈ l := by
  obtain ⟨r, c1, k1, a1, b1, b2, b3⟩ := k_pick c l.length hc hp aO
  have b2 := b2 aO
  obtain ⟨x, hx⟩ := get_ex (show r.toNat < l.length by omega)
  have hy := ints_at hx
  have hl1 : (ints l).length = l.length := by simp
  rw [← hl1] at k1
  refine ⟨x, c1, ?_, a1, get_mem hx⟩
  refine contract_of hmix Try.func62 rfl (by kernel_rfl) (by kernel_rfl) (Nat.le_of_ble_eq_true rfl) (fun row h => by (simp only [List.mem_cons, List.not_mem_nil, or_false] at h; first | (subst h; (first | exact .inl rfl | exact .inr (fun e he u hu => by (simp only [List.mem_cons, List.not_mem_nil, or_false] at he; subst he; simp only [List.mem_cons, List.not_mem_nil, or_false] at hu; subst hu; rfl)))) | (rcases h with rfl | rfl <;> (first | exact .inl rfl | exact .inr (fun e he u hu => by (simp only [List.mem_cons, List.not_mem_nil, or_false] at he; subst he; simp only [List.mem_cons, List.not_mem_nil, or_false] at hu; subst hu; rfl)))) | (rcases h with rfl | rfl | rfl <;> (first | exact .inl rfl | exact .inr (fun e he u hu => by (simp only [List.mem_cons, List.not_mem_nil, or_false] at he; subst he; simp only [List.mem_cons, List.not_mem_nil, or_false] at hu; subst hu; rfl)))) | (rcases h with rfl | rfl | rfl | rfl <;> (first | exact .inl rfl | exact .inr (fun e he u hu => by (simp only [List.mem_cons, List.not_mem_nil, or_false] at he; subst he; simp only [List.mem_cons, List.not_mem_nil, or_false] at hu; subst hu; rfl)))))) ?_
  have hty_u27 := ty_u27
  have hty_s27 := ty_s27
  have hty_c3 := ty_c3
  repeat' (first
      | (refine g_exec ?_; first | (refine g_move ?_; refine x_moveO _ rfl ?_) | (refine g_assign ?_; refine x_assignO _ rfl ?_) | (refine g_load ?_; first | (refine x_load_pc aA rfl ?_) | (refine x_load_oc _ aA rfl rfl aE rfl ?_) | (refine x_load_pa _ aA rfl aZ aL ?_) | (refine x_load_oa _ aA rfl rfl aE aZ aL ?_)) | (refine g_index ?_; first | (refine x_index_l _ aA rfl rfl aO aA ?_) | (refine x_index_o _ aA rfl rfl rfl rfl aO aO (by first | (rw [Nat.zero_add, Int.toNat_natCast]) | (rw [Nat.zero_add]) | rfl) ?_)) | (refine g_call ?_; first | (refine x_callL [(io, 0)] (k1) rfl rfl (by (repeat' (first | exact trivial | refine ⟨⟨_, rfl, ?_⟩, ?_⟩ | exact .inl ⟨rfl, .inl rfl⟩ | exact .inr ⟨rfl, rfl, rfl, rfl, rfl, fun e he u hu => by (simp only [List.mem_cons, List.not_mem_nil, or_false] at he; subst he; simp only [List.mem_cons, List.not_mem_nil, or_false] at hu; subst hu; rfl)⟩ | exact .inl ⟨rfl, .inr (fun e he => by (simp only [List.mem_cons, List.not_mem_nil, or_false] at he; subst he; rfl))⟩ | fail)); first | done | fail) rfl rfl aS rfl aH rfl ?_; simp only [cl]) | (refine x_len_l aA rfl ?_) | (refine x_len_o aA rfl rfl ?_) | (refine x_len_n aA rfl ?_) | (refine x_len_s aA (evO_ok rfl) ?_)) | (refine x_nil (hK _ _ (.inl rfl) ?_); clear hK K) | (refine x_nil (hK _ _ (.inr (by kernel_rfl)) ?_); clear hK K))
      | (refine g_code ?_; first | (refine v_seq ?_) | (refine v_region (fun K hK => ?_)) | (refine v_block ?_) | (refine v_skip ?_) | (refine v_ret ?_) | (refine v_exit ?_))
      | (refine q_then ?_) | (refine q_then_r ?_) | (refine q_then_e ?_) | (refine q_blk_n ?_) | (refine q_blk_r ?_) | (refine q_blk_e ?_) | (refine q_blk_o rfl ?_) | (refine q_loop_r ?_) | (refine q_loop_e ?_) | (refine ret_n ?_))
  all_goals first
    | (exfalso; omega)
    | exact ret_iL rfl rfl ⟨⟨rfl, rfl, fun h => by cases h⟩, trivial⟩ rfl
@[reducible] def cu0 (code : List Int) : Cu := ⟨code, 0, 0⟩
structure CodeOk (code : List Int) : Prop where
  len : code.length ≤ 1099511627776
  byte : ∀ b ∈ code, 0 ≤ b ∧ b ≤ 255
theorem cu0_ok {code : List Int} (h : CodeOk code) : (cu0 code).Ok := ⟨h.byte, h.len, by simp⟩
end Go.Vs
set_option linter.unusedVariables false
set_option linter.unusedSimpArgs false
set_option maxRecDepth 100000
set_option maxHeartbeats 4000000
namespace Go.Vs
open Go.Proofs
attribute [local irreducible] exec vwp thenQ blkQ loopQ RetPost
structure Road where
  (a : Int)
  (b : Int)
  (minutes : Int)
  (closes : Int)
  deriving DecidableEq
@[reducible] def Road.pv (c : Road) : List PV := [.int .i64 c.a, .int .i64 c.b, .int .i64 c.minutes, .int .i64 c.closes]
theorem Road.at {xs : List Road} {i : Nat} {a : Road} (h : xs[i]? = some a) : (xs.map Road.pv)[i]? = some [.int .i64 a.a, .int .i64 a.b, .int .i64 a.minutes, .int .i64 a.closes] := by simp [h]
theorem Road.flat (xs : List Road) : ∀ e ∈ xs.map Road.pv, ∀ c ∈ e, c.flat = true := by
  intro e he c hc
  obtain ⟨a, _, rfl⟩ := List.mem_map.1 he
  simp only [Road.pv, List.mem_cons, List.not_mem_nil, or_false] at hc
  rcases hc with rfl | rfl | rfl | rfl <;> rfl
end Go.Vs
set_option linter.unusedVariables false
set_option linter.unusedSimpArgs false
set_option maxRecDepth 100000
set_option maxHeartbeats 4000000
namespace Go.Vs
open Go.Proofs
attribute [local irreducible] exec vwp thenQ blkQ loopQ RetPost
structure Group where
  (place : Int)
  (people : Int)
  (ready : Int)
  deriving DecidableEq
@[reducible] def Group.pv (c : Group) : List PV := [.int .i64 c.place, .int .i64 c.people, .int .i64 c.ready]
theorem Group.at {xs : List Group} {i : Nat} {a : Group} (h : xs[i]? = some a) : (xs.map Group.pv)[i]? = some [.int .i64 a.place, .int .i64 a.people, .int .i64 a.ready] := by simp [h]
theorem Group.flat (xs : List Group) : ∀ e ∈ xs.map Group.pv, ∀ c ∈ e, c.flat = true := by
  intro e he c hc
  obtain ⟨a, _, rfl⟩ := List.mem_map.1 he
  simp only [Group.pv, List.mem_cons, List.not_mem_nil, or_false] at hc
  rcases hc with rfl | rfl | rfl <;> rfl
end Go.Vs
set_option linter.unusedVariables false
set_option linter.unusedSimpArgs false
set_option maxRecDepth 100000
set_option maxHeartbeats 4000000
namespace Go.Vs
open Go.Proofs
attribute [local irreducible] exec vwp thenQ blkQ loopQ RetPost
structure Shelter where
  (place : Int)
  (room : Int)
  deriving DecidableEq
@[reducible] def Shelter.pv (c : Shelter) : List PV := [.int .i64 c.place, .int .i64 c.room]
theorem Shelter.at {xs : List Shelter} {i : Nat} {a : Shelter} (h : xs[i]? = some a) : (xs.map Shelter.pv)[i]? = some [.int .i64 a.place, .int .i64 a.room] := by simp [h]
theorem Shelter.flat (xs : List Shelter) : ∀ e ∈ xs.map Shelter.pv, ∀ c ∈ e, c.flat = true := by
  intro e he c hc
  obtain ⟨a, _, rfl⟩ := List.mem_map.1 he
  simp only [Shelter.pv, List.mem_cons, List.not_mem_nil, or_false] at hc
  rcases hc with rfl | rfl <;> rfl
end Go.Vs
set_option linter.unusedVariables false
set_option linter.unusedSimpArgs false
set_option maxRecDepth 100000
set_option maxHeartbeats 4000000
namespace Go.Vs
open Go.Proofs
attribute [local irreducible] exec vwp thenQ blkQ loopQ RetPost
theorem k_network (c : Cu) (hc : c.Ok) (hp : c.pos + 1000 ≤ 1152921504606846976) :
    ContractP Try.prog 39 true [.own (io, 0) 0 0] [cuRow c] (fun r' fin' => ∃ (n : Int) (rs : List Go.Vs.Road) (c' : Cu), (r' = .tuple [.int .i64 n, .olist 82 4 (rs.map Go.Vs.Road.pv)] ∧ fin' = [[c'.pv]]) ∧ Aft c c' 1000 ∧ (1 ≤ n ∧ n ≤ 8) ∧ rs.length ≤ 13) := by
  obtain ⟨p, c1, k1, a1, g0, g1, _⟩ := k_pick c 6 hc aO aO
  have g1 := g1 aO
  have o1 := a1.ok hc aO
  have p1 := a1.pos
  refine contract_of hmix Try.func39 rfl (by kernel_rfl) (by kernel_rfl) (Nat.le_of_ble_eq_true rfl) (fun row h => by (simp only [List.mem_cons, List.not_mem_nil, or_false] at h; first | (subst h; (first | exact .inl rfl | exact .inr (fun e he u hu => by (simp only [List.mem_cons, List.not_mem_nil, or_false] at he; subst he; simp only [List.mem_cons, List.not_mem_nil, or_false] at hu; subst hu; rfl)))) | (rcases h with rfl | rfl <;> (first | exact .inl rfl | exact .inr (fun e he u hu => by (simp only [List.mem_cons, List.not_mem_nil, or_false] at he; subst he; simp only [List.mem_cons, List.not_mem_nil, or_false] at hu; subst hu; rfl)))) | (rcases h with rfl | rfl | rfl <;> (first | exact .inl rfl | exact .inr (fun e he u hu => by (simp only [List.mem_cons, List.not_mem_nil, or_false] at he; subst he; simp only [List.mem_cons, List.not_mem_nil, or_false] at hu; subst hu; rfl)))) | (rcases h with rfl | rfl | rfl | rfl <;> (first | exact .inl rfl | exact .inr (fun e he u hu => by (simp only [List.mem_cons, List.not_mem_nil, or_false] at he; subst he; simp only [List.mem_cons, List.not_mem_nil, or_false] at hu; subst hu; rfl)))))) ?_
  have hty_s24 := ty_s24
  have hty_u24 := ty_u24
  have hty_s27 := ty_s27
  have hty_u27 := ty_u27
  have hty_st82 := ty_st82
  have hty_f82_0 := ty_f82_0
  have hty_c3 := ty_c3
  have hty_f82_1 := ty_f82_1
  have hty_t82 := ty_t82
  have hty_a82 := ty_a82
  repeat' (first
      | (refine g_exec ?_; first | (refine g_move ?_; refine x_moveO _ rfl ?_) | (refine g_assign ?_; refine x_assignO _ rfl ?_) | (refine g_bin ?_; first | (refine x_add rfl rfl aO ?_) | (refine x_bin _ rfl rfl rfl ?_) | (refine x_boolEq aA rfl rfl ?_) | (refine x_strBin _ rfl rfl rfl ?_)) | (refine g_un ?_; first | (refine x_not rfl ?_) | (refine x_neg rfl aO ?_)) | (refine g_load ?_; first | (refine x_load_pc aA rfl ?_) | (refine x_load_oc _ aA rfl rfl aE rfl ?_) | (refine x_load_pa _ aA rfl aZ aL ?_) | (refine x_load_oa _ aA rfl rfl aE aZ aL ?_)) | (refine g_field ?_; first | (refine x_field_p _ aA rfl aL ?_) | (refine x_field_o _ aA rfl rfl (by simp only [lx, Nat.reduceAdd]; first | done | rfl) ?_)) | (refine g_index ?_; first | (refine x_index_l _ aA rfl rfl aO aA ?_) | (refine x_index_o _ aA rfl rfl rfl rfl aO aO (by first | (rw [Nat.zero_add, Int.toNat_natCast]) | (rw [Nat.zero_add]) | rfl) ?_)) | (refine g_pick ?_; first | (refine x_pick_b rfl aD rfl ?_) | (refine x_pick_c rfl aD ?_) | (refine x_pick_a rfl aD ?_) | (refine x_pick_d rfl aD rfl ?_)) | (refine g_guard ?_; first | (refine x_gyes rfl rfl aD ?_) | (refine x_gno rfl rfl aD ?_) | (refine x_gun rfl rfl ?_) | (refine x_gsplit rfl rfl (fun h => ?_) (fun h => ?_) <;> (have h' := h; (try simp only [sx] at h')))) | (refine g_call ?_; first | (refine x_callL [(io, 0)] (k1) rfl rfl (by (repeat' (first | exact trivial | refine ⟨⟨_, rfl, ?_⟩, ?_⟩ | exact .inl ⟨rfl, .inl rfl⟩ | exact .inr ⟨rfl, rfl, rfl, rfl, rfl, fun e he u hu => by (simp only [List.mem_cons, List.not_mem_nil, or_false] at he; subst he; simp only [List.mem_cons, List.not_mem_nil, or_false] at hu; subst hu; rfl)⟩ | exact .inl ⟨rfl, .inr (fun e he => by (simp only [List.mem_cons, List.not_mem_nil, or_false] at he; subst he; rfl))⟩ | fail)); first | done | fail) rfl rfl aS rfl aH rfl ?_; simp only [cl]) | (refine x_len_l aA rfl ?_) | (refine x_len_o aA rfl rfl ?_) | (refine x_len_n aA rfl ?_) | (refine x_len_s aA (evO_ok rfl) ?_) | (refine x_appOO _ _ aA rfl (lookM (by rfl)) rfl (lookM (by rfl)) rfl aN ⟨rfl, rfl, by decide, by decide⟩ (by first | rfl | omega | (simp; done) | (simp; omega) | fail) ⟨by first | (simp only [List.length_cons, List.length_nil]; omega) | omega | fail, by decide⟩ rfl (by first | (first | (simp only [lx, Nat.reduceAdd]; first | done | rfl) | fail) | rfl) aP ?_) | (refine x_appCO _ _ aA rfl rfl (lookM (by rfl)) ⟨rfl, by decide⟩ aN (by first | exact Nat.succ_pos _ | omega | (simp; done)) ⟨by first | (simp only [List.length_cons, List.length_nil]; omega) | omega | fail, by decide⟩ rfl rfl aP ?_) | (refine x_appNO _ aA rfl rfl (lookM (by rfl)) ⟨rfl, by decide⟩ aN ⟨by first | (simp only [List.length_cons, List.length_nil]; omega) | omega | fail, by decide⟩ rfl aP ?_) | (refine x_app_ol _ aA rfl rfl rfl ⟨rfl, rfl, rfl, by decide, by decide⟩ (by first | rfl | (simp; done) | fail) ⟨by omega, by decide⟩ rfl aL (by first | (rw [Nat.zero_add]) | rfl) ?_)) | (refine x_buildSliceO aA rfl rfl rfl ?_) | (refine x_buildO _ _ aA rfl rfl (by simp [buildPV, PV.cells]; first | done | rfl) ?_) | (refine x_storeO _ _ _ rfl rfl aE (by first | assumption | (exact TAgg.size aA)) rfl rfl rfl aZ rfl aL (by first | (first | (simp only [lx, Nat.reduceAdd]; first | done | rfl) | fail) | rfl) ?_) | (refine x_nil (hK _ _ (.inl rfl) ?_); clear hK K) | (refine x_nil (hK _ _ (.inr (by kernel_rfl)) ?_); clear hK K))
      | (refine g_code ?_; first | (refine v_seq ?_) | (refine v_region (fun K hK => ?_)) | (refine v_block ?_) | (refine v_skip ?_) | (refine v_ret ?_) | (refine v_exit ?_) | (refine g_cond ?_; first | (refine v_cond_y rfl aD ?_) | (refine v_cond_n rfl aD ?_) | (refine v_condt rfl (fun h => ?_) (fun h => ?_) <;> (have h' := h; (try simp only [sx] at h')))))
      | (refine q_then ?_) | (refine q_then_r ?_) | (refine q_then_e ?_) | (refine q_blk_n ?_) | (refine q_blk_r ?_) | (refine q_blk_e ?_) | (refine q_blk_o rfl ?_) | (refine q_loop_r ?_) | (refine q_loop_e ?_) | (refine ret_n ?_))
  all_goals try (exfalso; omega)
  refine v_loopK [0, 4] [(io, 0), (1001, 0)] (fun q : Cu × List (List PV) × Nat × Nat => [(5, .osl (1001, 0) 0 q.2.2.1), (6, .int .i64 q.2.2.2)]) (fun q : Cu × List (List PV) × Nat × Nat => [((io, 0), some (cuRow q.1)), ((1001, 0), some ⟨82, 4, q.2.1, false⟩)]) (fun q : Cu × List (List PV) × Nat × Nat => Aft c1 q.1 (60 * q.2.2.2) ∧ (q.2.2.1 ≤ 12 ∧ (q.2.2.2 : Int) ≤ 2 + p) ∧ ∃ b : List Go.Vs.Road, q.2.1 = b.map Go.Vs.Road.pv ∧ b.length = q.2.2.1) (fun q : Cu × List (List PV) × Nat × Nat => (2 + p - q.2.2.2).toNat) ((c1, [], 0, 0)) rfl rfl (fun _ => rfl) (fun _ => rfl) rfl (by refine ⟨?_, ?_, rfl, rfl⟩ <;> (repeat' (first | exact trivial | exact ⟨rfl, rfl⟩ | exact rfl | exact ⟨sub_fn, refs_fn⟩ | refine ⟨⟨rfl, rfl⟩, ?_⟩ | refine ⟨⟨sub_fn, refs_fn⟩, ?_⟩ | refine ⟨⟨rfl, fun h => Bool.noConfusion h⟩, ?_⟩ | refine ⟨⟨rfl, fun h => ?_⟩, ?_⟩ | refine ⟨rfl, ?_⟩ | refine ⟨?_, ?_⟩ | fail))) ⟨Aft.refl c1, ⟨by simp, by simp only; omega⟩, [], rfl, rfl⟩ (fun q hq => ?_)
  obtain ⟨d, es, m, a⟩ := q
  obtain ⟨ad, hm, b, hes, hlen⟩ := hq
  simp only at ad hm hes hlen
  dsimp only
  have hel : es.length = m := by rw [hes, List.length_map, hlen]
  have hme := hel.symm
  have od := ad.ok o1 aO
  have pd := ad.pos
  by_cases hlt : (a : Int) < 2 + p
  · repeat' (first
      | (refine g_exec ?_; first | (refine g_move ?_; refine x_moveO _ rfl ?_) | (refine g_assign ?_; refine x_assignO _ rfl ?_) | (refine g_bin ?_; first | (refine x_add rfl rfl aO ?_) | (refine x_bin _ rfl rfl rfl ?_) | (refine x_boolEq aA rfl rfl ?_) | (refine x_strBin _ rfl rfl rfl ?_)) | (refine g_un ?_; first | (refine x_not rfl ?_) | (refine x_neg rfl aO ?_)) | (refine g_load ?_; first | (refine x_load_pc aA rfl ?_) | (refine x_load_oc _ aA rfl rfl aE rfl ?_) | (refine x_load_pa _ aA rfl aZ aL ?_) | (refine x_load_oa _ aA rfl rfl aE aZ aL ?_)) | (refine g_field ?_; first | (refine x_field_p _ aA rfl aL ?_) | (refine x_field_o _ aA rfl rfl (by simp only [lx, Nat.reduceAdd]; first | done | rfl) ?_)) | (refine g_index ?_; first | (refine x_index_l _ aA rfl rfl aO aA ?_) | (refine x_index_o _ aA rfl rfl rfl rfl aO aO (by first | (rw [Nat.zero_add, Int.toNat_natCast]) | (rw [Nat.zero_add]) | rfl) ?_)) | (refine g_pick ?_; first | (refine x_pick_b rfl aD rfl ?_) | (refine x_pick_c rfl aD ?_) | (refine x_pick_a rfl aD ?_) | (refine x_pick_d rfl aD rfl ?_)) | (refine g_guard ?_; first | (refine x_gyes rfl rfl aD ?_) | (refine x_gno rfl rfl aD ?_) | (refine x_gun rfl rfl ?_) | (refine x_gsplit rfl rfl (fun h => ?_) (fun h => ?_) <;> (have h' := h; (try simp only [sx] at h')))) | (refine g_call ?_; first | (refine x_len_l aA rfl ?_) | (refine x_len_o aA rfl rfl ?_) | (refine x_len_n aA rfl ?_) | (refine x_len_s aA (evO_ok rfl) ?_) | (refine x_appOO _ _ aA rfl (lookM (by rfl)) rfl (lookM (by rfl)) rfl aN ⟨rfl, rfl, by decide, by decide⟩ (by first | rfl | omega | (simp; done) | (simp; omega) | fail) ⟨by first | (simp only [List.length_cons, List.length_nil]; omega) | omega | fail, by decide⟩ rfl (by first | (first | (simp only [lx, Nat.reduceAdd]; first | done | rfl) | fail) | rfl) aP ?_) | (refine x_appCO _ _ aA rfl rfl (lookM (by rfl)) ⟨rfl, by decide⟩ aN (by first | exact Nat.succ_pos _ | omega | (simp; done)) ⟨by first | (simp only [List.length_cons, List.length_nil]; omega) | omega | fail, by decide⟩ rfl rfl aP ?_) | (refine x_appNO _ aA rfl rfl (lookM (by rfl)) ⟨rfl, by decide⟩ aN ⟨by first | (simp only [List.length_cons, List.length_nil]; omega) | omega | fail, by decide⟩ rfl aP ?_) | (refine x_app_ol _ aA rfl rfl rfl ⟨rfl, rfl, rfl, by decide, by decide⟩ (by first | rfl | (simp; done) | fail) ⟨by omega, by decide⟩ rfl aL (by first | (rw [Nat.zero_add]) | rfl) ?_)) | (refine x_buildSliceO aA rfl rfl rfl ?_) | (refine x_buildO _ _ aA rfl rfl (by simp [buildPV, PV.cells]; first | done | rfl) ?_) | (refine x_storeO _ _ _ rfl rfl aE (by first | assumption | (exact TAgg.size aA)) rfl rfl rfl aZ rfl aL (by first | (first | (simp only [lx, Nat.reduceAdd]; first | done | rfl) | fail) | rfl) ?_) | (refine x_nil (hK _ _ (.inl rfl) ?_); clear hK K) | (refine x_nil (hK _ _ (.inr (by kernel_rfl)) ?_); clear hK K))
      | (refine g_code ?_; first | (refine v_seq ?_) | (refine v_region (fun K hK => ?_)) | (refine v_block ?_) | (refine v_skip ?_) | (refine v_ret ?_) | (refine v_exit ?_) | (refine g_cond ?_; first | (refine v_cond_y rfl aD ?_) | (refine v_cond_n rfl aD ?_) | (refine v_condt rfl (fun h => ?_) (fun h => ?_) <;> (have h' := h; (try simp only [sx] at h')))))
      | (refine q_then ?_) | (refine q_then_r ?_) | (refine q_then_e ?_) | (refine q_blk_n ?_) | (refine q_blk_r ?_) | (refine q_blk_e ?_) | (refine q_blk_o rfl ?_) | (refine q_loop_r ?_) | (refine q_loop_e ?_) | (refine ret_n ?_))
    all_goals try (exfalso; omega)
    refine v_loopK [0, 4, 6] [(io, 0), (1001, 0)] (fun r : Cu × List (List PV) × Nat × Int => [(5, .osl (1001, 0) 0 r.2.2.1), (7, .int .i64 r.2.2.2)]) (fun r : Cu × List (List PV) × Nat × Int => [((io, 0), some (cuRow r.1)), ((1001, 0), some ⟨82, 4, r.2.1, false⟩)]) (fun r : Cu × List (List PV) × Nat × Int => Aft d r.1 (8 * (r.2.2.2 - (a + 1))) ∧ (r.2.2.1 ≤ 12 ∧ (a : Int) + 1 ≤ r.2.2.2 ∧ r.2.2.2 ≤ 2 + p) ∧ ∃ b : List Go.Vs.Road, r.2.1 = b.map Go.Vs.Road.pv ∧ b.length = r.2.2.1) (fun r : Cu × List (List PV) × Nat × Int => (2 + p - r.2.2.2).toNat) ((d, es, m, (a : Int) + 1)) rfl rfl (fun _ => rfl) (fun _ => rfl) rfl (by refine ⟨?_, ?_, rfl, rfl⟩ <;> (repeat' (first | exact trivial | exact ⟨rfl, rfl⟩ | exact rfl | exact ⟨sub_fn, refs_fn⟩ | refine ⟨⟨rfl, rfl⟩, ?_⟩ | refine ⟨⟨sub_fn, refs_fn⟩, ?_⟩ | refine ⟨⟨rfl, fun h => Bool.noConfusion h⟩, ?_⟩ | refine ⟨⟨rfl, fun h => ?_⟩, ?_⟩ | refine ⟨rfl, ?_⟩ | refine ⟨?_, ?_⟩ | fail))) ⟨(Aft.refl d).le (by simp only; omega), ⟨by simp only; omega, by simp only; omega, by simp only; omega⟩, b, hes, hlen⟩ (fun r hr => ?_)
    obtain ⟨d2, fs, m2, k⟩ := r
    obtain ⟨ad2, hm2, b2, hfs, hlen2⟩ := hr
    simp only at ad2 hm2 hfs hlen2
    dsimp only
    have hfl : fs.length = m2 := by rw [hfs, List.length_map, hlen2]
    have hmf := hfl.symm
    have od2 := ad2.ok od aO
    have pd2 := ad2.pos
    have go : ∀ (c0 : Cu) (l : Int), Aft d2 c0 l → 0 ≤ l → l ≤ 4 → ∃ (x y : Int) (c4 c5 : Cu), Dr 62 [.list 1 (ints [1, 5, 10, 20])] c0 (.int .i64 x) c4 ∧ Dr 62 [.list 1 (ints [20, 30, 60, 100, 999])] c4 (.int .i64 y) c5 ∧ Aft d2 c5 8 := fun c0 l h0 h1 h2 => by
      have o0 := h0.ok od2 aO
      have p0 := h0.pos
      obtain ⟨x, c4, k4, a4, _⟩ := k_among c0 [1, 5, 10, 20] o0 aO (by decide)
      have o4 := a4.ok o0 aO
      have p4 := a4.pos
      obtain ⟨y, c5, k5, a5, _⟩ := k_among c4 [20, 30, 60, 100, 999] o4 aO (by decide)
      exact ⟨x, y, c4, c5, k4, k5, ((h0.trans a4).trans a5).le aO⟩
    by_cases hlt2 : k < 2 + p
    · obtain ⟨y1, c2, k2, a2⟩ := k_one d2 2 od2 aO aO
      have o2 := a2.ok od2 aO
      have p2 := a2.pos
      cases y1
      · by_cases h0 : k = (a : Int) + 1
        · subst h0
          obtain ⟨y2, c3, k3, a3⟩ := k_one c2 4 o2 aO aO
          have aft3 := a2.trans a3
          cases y2
          · by_cases hfull : m2 < 12
            · obtain ⟨x, y, c4, c5, k4, k5, a5⟩ := go c3 _ aft3 aO aO
              repeat' (first
      | (refine g_exec ?_; first | (refine g_move ?_; refine x_moveO _ rfl ?_) | (refine g_assign ?_; refine x_assignO _ rfl ?_) | (refine g_bin ?_; first | (refine x_add rfl rfl aO ?_) | (refine x_bin _ rfl rfl rfl ?_) | (refine x_boolEq aA rfl rfl ?_) | (refine x_strBin _ rfl rfl rfl ?_)) | (refine g_un ?_; first | (refine x_not rfl ?_) | (refine x_neg rfl aO ?_)) | (refine g_load ?_; first | (refine x_load_pc aA rfl ?_) | (refine x_load_oc _ aA rfl rfl aE rfl ?_) | (refine x_load_pa _ aA rfl aZ aL ?_) | (refine x_load_oa _ aA rfl rfl aE aZ aL ?_)) | (refine g_field ?_; first | (refine x_field_p _ aA rfl aL ?_) | (refine x_field_o _ aA rfl rfl (by simp only [lx, Nat.reduceAdd]; first | done | rfl) ?_)) | (refine g_index ?_; first | (refine x_index_l _ aA rfl rfl aO aA ?_) | (refine x_index_o _ aA rfl rfl rfl rfl aO aO (by first | (rw [Nat.zero_add, Int.toNat_natCast]) | (rw [Nat.zero_add]) | rfl) ?_)) | (refine g_pick ?_; first | (refine x_pick_b rfl aD rfl ?_) | (refine x_pick_c rfl aD ?_) | (refine x_pick_a rfl aD ?_) | (refine x_pick_d rfl aD rfl ?_)) | (refine g_guard ?_; first | (refine x_gyes rfl rfl aD ?_) | (refine x_gno rfl rfl aD ?_) | (refine x_gun rfl rfl ?_) | (refine x_gsplit rfl rfl (fun h => ?_) (fun h => ?_) <;> (have h' := h; (try simp only [sx] at h')))) | (refine g_call ?_; first | (refine x_callL [(io, 0)] (k2) rfl rfl (by (repeat' (first | exact trivial | refine ⟨⟨_, rfl, ?_⟩, ?_⟩ | exact .inl ⟨rfl, .inl rfl⟩ | exact .inr ⟨rfl, rfl, rfl, rfl, rfl, fun e he u hu => by (simp only [List.mem_cons, List.not_mem_nil, or_false] at he; subst he; simp only [List.mem_cons, List.not_mem_nil, or_false] at hu; subst hu; rfl)⟩ | exact .inl ⟨rfl, .inr (fun e he => by (simp only [List.mem_cons, List.not_mem_nil, or_false] at he; subst he; rfl))⟩ | fail)); first | done | fail) rfl rfl aS rfl aH rfl ?_; simp only [cl]) | (refine x_callL [(io, 0)] (k3) rfl rfl (by (repeat' (first | exact trivial | refine ⟨⟨_, rfl, ?_⟩, ?_⟩ | exact .inl ⟨rfl, .inl rfl⟩ | exact .inr ⟨rfl, rfl, rfl, rfl, rfl, fun e he u hu => by (simp only [List.mem_cons, List.not_mem_nil, or_false] at he; subst he; simp only [List.mem_cons, List.not_mem_nil, or_false] at hu; subst hu; rfl)⟩ | exact .inl ⟨rfl, .inr (fun e he => by (simp only [List.mem_cons, List.not_mem_nil, or_false] at he; subst he; rfl))⟩ | fail)); first | done | fail) rfl rfl aS rfl aH rfl ?_; simp only [cl]) | (refine x_callL [(io, 0)] (k4) rfl rfl (by (repeat' (first | exact trivial | refine ⟨⟨_, rfl, ?_⟩, ?_⟩ | exact .inl ⟨rfl, .inl rfl⟩ | exact .inr ⟨rfl, rfl, rfl, rfl, rfl, fun e he u hu => by (simp only [List.mem_cons, List.not_mem_nil, or_false] at he; subst he; simp only [List.mem_cons, List.not_mem_nil, or_false] at hu; subst hu; rfl)⟩ | exact .inl ⟨rfl, .inr (fun e he => by (simp only [List.mem_cons, List.not_mem_nil, or_false] at he; subst he; rfl))⟩ | fail)); first | done | fail) rfl rfl aS rfl aH rfl ?_; simp only [cl]) | (refine x_callL [(io, 0)] (k5) rfl rfl (by (repeat' (first | exact trivial | refine ⟨⟨_, rfl, ?_⟩, ?_⟩ | exact .inl ⟨rfl, .inl rfl⟩ | exact .inr ⟨rfl, rfl, rfl, rfl, rfl, fun e he u hu => by (simp only [List.mem_cons, List.not_mem_nil, or_false] at he; subst he; simp only [List.mem_cons, List.not_mem_nil, or_false] at hu; subst hu; rfl)⟩ | exact .inl ⟨rfl, .inr (fun e he => by (simp only [List.mem_cons, List.not_mem_nil, or_false] at he; subst he; rfl))⟩ | fail)); first | done | fail) rfl rfl aS rfl aH rfl ?_; simp only [cl]) | (refine x_len_l aA rfl ?_) | (refine x_len_o aA rfl rfl ?_) | (refine x_len_n aA rfl ?_) | (refine x_len_s aA (evO_ok rfl) ?_) | (refine x_appOO _ _ aA rfl (lookM (by rfl)) rfl (lookM (by rfl)) rfl aN ⟨rfl, rfl, by decide, by decide⟩ (by first | rfl | omega | (simp; done) | (simp; omega) | fail) ⟨by first | (simp only [List.length_cons, List.length_nil]; omega) | omega | fail, by decide⟩ rfl (by first | (first | (simp only [lx, Nat.reduceAdd]; first | done | rfl) | fail) | rfl) aP ?_) | (refine x_appCO _ _ aA rfl rfl (lookM (by rfl)) ⟨rfl, by decide⟩ aN (by first | exact Nat.succ_pos _ | omega | (simp; done)) ⟨by first | (simp only [List.length_cons, List.length_nil]; omega) | omega | fail, by decide⟩ rfl rfl aP ?_) | (refine x_appNO _ aA rfl rfl (lookM (by rfl)) ⟨rfl, by decide⟩ aN ⟨by first | (simp only [List.length_cons, List.length_nil]; omega) | omega | fail, by decide⟩ rfl aP ?_) | (refine x_app_ol _ aA rfl rfl rfl ⟨rfl, rfl, rfl, by decide, by decide⟩ (by first | rfl | (simp; done) | fail) ⟨by omega, by decide⟩ rfl aL (by first | (rw [Nat.zero_add]) | rfl) ?_)) | (refine x_buildSliceO aA rfl rfl rfl ?_) | (refine x_buildO _ _ aA rfl rfl (by simp [buildPV, PV.cells]; first | done | rfl) ?_) | (refine x_storeO _ _ _ rfl rfl aE (by first | assumption | (exact TAgg.size aA)) rfl rfl rfl aZ rfl aL (by first | (first | (simp only [lx, Nat.reduceAdd]; first | done | rfl) | fail) | rfl) ?_) | (refine x_nil (hK _ _ (.inl rfl) ?_); clear hK K) | (refine x_nil (hK _ _ (.inr (by kernel_rfl)) ?_); clear hK K))
      | (refine g_code ?_; first | (refine v_seq ?_) | (refine v_region (fun K hK => ?_)) | (refine v_block ?_) | (refine v_skip ?_) | (refine v_ret ?_) | (refine v_exit ?_) | (refine g_cond ?_; first | (refine v_cond_y rfl aD ?_) | (refine v_cond_n rfl aD ?_) | (refine v_condt rfl (fun h => ?_) (fun h => ?_) <;> (have h' := h; (try simp only [sx] at h')))))
      | (refine q_then ?_) | (refine q_then_r ?_) | (refine q_then_e ?_) | (refine q_blk_n ?_) | (refine q_blk_r ?_) | (refine q_blk_e ?_) | (refine q_blk_o rfl ?_) | (refine q_loop_r ?_) | (refine q_loop_e ?_) | (refine ret_n ?_))
              all_goals try (exfalso; omega)
              all_goals (refine q_next (c5, fs ++ [[.int .i64 a, .int .i64 ((a : Int) + 1), .int .i64 x, .int .i64 y]], m2 + 1, (a : Int) + 1 + 1) rfl (by refine ⟨?_, ?_, rfl, rfl⟩ <;> (repeat' (first | exact trivial | exact ⟨rfl, rfl⟩ | exact rfl | exact ⟨sub_fn, refs_fn⟩ | refine ⟨⟨rfl, rfl⟩, ?_⟩ | refine ⟨⟨sub_fn, refs_fn⟩, ?_⟩ | refine ⟨⟨rfl, fun h => Bool.noConfusion h⟩, ?_⟩ | refine ⟨⟨rfl, fun h => ?_⟩, ?_⟩ | refine ⟨rfl, ?_⟩ | refine ⟨?_, ?_⟩ | fail))) ⟨(ad2.trans a5).le (by simp only; omega), by simp only; omega, b2 ++ [⟨a, (a : Int) + 1, x, y⟩], by simp [hfs], by simp [hlen2]⟩ (by simp only; omega))
            · repeat' (first
      | (refine g_exec ?_; first | (refine g_move ?_; refine x_moveO _ rfl ?_) | (refine g_assign ?_; refine x_assignO _ rfl ?_) | (refine g_bin ?_; first | (refine x_add rfl rfl aO ?_) | (refine x_bin _ rfl rfl rfl ?_) | (refine x_boolEq aA rfl rfl ?_) | (refine x_strBin _ rfl rfl rfl ?_)) | (refine g_un ?_; first | (refine x_not rfl ?_) | (refine x_neg rfl aO ?_)) | (refine g_load ?_; first | (refine x_load_pc aA rfl ?_) | (refine x_load_oc _ aA rfl rfl aE rfl ?_) | (refine x_load_pa _ aA rfl aZ aL ?_) | (refine x_load_oa _ aA rfl rfl aE aZ aL ?_)) | (refine g_field ?_; first | (refine x_field_p _ aA rfl aL ?_) | (refine x_field_o _ aA rfl rfl (by simp only [lx, Nat.reduceAdd]; first | done | rfl) ?_)) | (refine g_index ?_; first | (refine x_index_l _ aA rfl rfl aO aA ?_) | (refine x_index_o _ aA rfl rfl rfl rfl aO aO (by first | (rw [Nat.zero_add, Int.toNat_natCast]) | (rw [Nat.zero_add]) | rfl) ?_)) | (refine g_pick ?_; first | (refine x_pick_b rfl aD rfl ?_) | (refine x_pick_c rfl aD ?_) | (refine x_pick_a rfl aD ?_) | (refine x_pick_d rfl aD rfl ?_)) | (refine g_guard ?_; first | (refine x_gyes rfl rfl aD ?_) | (refine x_gno rfl rfl aD ?_) | (refine x_gun rfl rfl ?_) | (refine x_gsplit rfl rfl (fun h => ?_) (fun h => ?_) <;> (have h' := h; (try simp only [sx] at h')))) | (refine g_call ?_; first | (refine x_callL [(io, 0)] (k2) rfl rfl (by (repeat' (first | exact trivial | refine ⟨⟨_, rfl, ?_⟩, ?_⟩ | exact .inl ⟨rfl, .inl rfl⟩ | exact .inr ⟨rfl, rfl, rfl, rfl, rfl, fun e he u hu => by (simp only [List.mem_cons, List.not_mem_nil, or_false] at he; subst he; simp only [List.mem_cons, List.not_mem_nil, or_false] at hu; subst hu; rfl)⟩ | exact .inl ⟨rfl, .inr (fun e he => by (simp only [List.mem_cons, List.not_mem_nil, or_false] at he; subst he; rfl))⟩ | fail)); first | done | fail) rfl rfl aS rfl aH rfl ?_; simp only [cl]) | (refine x_callL [(io, 0)] (k3) rfl rfl (by (repeat' (first | exact trivial | refine ⟨⟨_, rfl, ?_⟩, ?_⟩ | exact .inl ⟨rfl, .inl rfl⟩ | exact .inr ⟨rfl, rfl, rfl, rfl, rfl, fun e he u hu => by (simp only [List.mem_cons, List.not_mem_nil, or_false] at he; subst he; simp only [List.mem_cons, List.not_mem_nil, or_false] at hu; subst hu; rfl)⟩ | exact .inl ⟨rfl, .inr (fun e he => by (simp only [List.mem_cons, List.not_mem_nil, or_false] at he; subst he; rfl))⟩ | fail)); first | done | fail) rfl rfl aS rfl aH rfl ?_; simp only [cl]) | (refine x_len_l aA rfl ?_) | (refine x_len_o aA rfl rfl ?_) | (refine x_len_n aA rfl ?_) | (refine x_len_s aA (evO_ok rfl) ?_) | (refine x_appOO _ _ aA rfl (lookM (by rfl)) rfl (lookM (by rfl)) rfl aN ⟨rfl, rfl, by decide, by decide⟩ (by first | rfl | omega | (simp; done) | (simp; omega) | fail) ⟨by first | (simp only [List.length_cons, List.length_nil]; omega) | omega | fail, by decide⟩ rfl (by first | (first | (simp only [lx, Nat.reduceAdd]; first | done | rfl) | fail) | rfl) aP ?_) | (refine x_appCO _ _ aA rfl rfl (lookM (by rfl)) ⟨rfl, by decide⟩ aN (by first | exact Nat.succ_pos _ | omega | (simp; done)) ⟨by first | (simp only [List.length_cons, List.length_nil]; omega) | omega | fail, by decide⟩ rfl rfl aP ?_) | (refine x_appNO _ aA rfl rfl (lookM (by rfl)) ⟨rfl, by decide⟩ aN ⟨by first | (simp only [List.length_cons, List.length_nil]; omega) | omega | fail, by decide⟩ rfl aP ?_) | (refine x_app_ol _ aA rfl rfl rfl ⟨rfl, rfl, rfl, by decide, by decide⟩ (by first | rfl | (simp; done) | fail) ⟨by omega, by decide⟩ rfl aL (by first | (rw [Nat.zero_add]) | rfl) ?_)) | (refine x_buildSliceO aA rfl rfl rfl ?_) | (refine x_buildO _ _ aA rfl rfl (by simp [buildPV, PV.cells]; first | done | rfl) ?_) | (refine x_storeO _ _ _ rfl rfl aE (by first | assumption | (exact TAgg.size aA)) rfl rfl rfl aZ rfl aL (by first | (first | (simp only [lx, Nat.reduceAdd]; first | done | rfl) | fail) | rfl) ?_) | (refine x_nil (hK _ _ (.inl rfl) ?_); clear hK K) | (refine x_nil (hK _ _ (.inr (by kernel_rfl)) ?_); clear hK K))
      | (refine g_code ?_; first | (refine v_seq ?_) | (refine v_region (fun K hK => ?_)) | (refine v_block ?_) | (refine v_skip ?_) | (refine v_ret ?_) | (refine v_exit ?_) | (refine g_cond ?_; first | (refine v_cond_y rfl aD ?_) | (refine v_cond_n rfl aD ?_) | (refine v_condt rfl (fun h => ?_) (fun h => ?_) <;> (have h' := h; (try simp only [sx] at h')))))
      | (refine q_then ?_) | (refine q_then_r ?_) | (refine q_then_e ?_) | (refine q_blk_n ?_) | (refine q_blk_r ?_) | (refine q_blk_e ?_) | (refine q_blk_o rfl ?_) | (refine q_loop_r ?_) | (refine q_loop_e ?_) | (refine ret_n ?_))
              all_goals try (exfalso; omega)
              all_goals (refine q_next (c3, fs, m2, (a : Int) + 1 + 1) rfl (by refine ⟨?_, ?_, rfl, rfl⟩ <;> (repeat' (first | exact trivial | exact ⟨rfl, rfl⟩ | exact rfl | exact ⟨sub_fn, refs_fn⟩ | refine ⟨⟨rfl, rfl⟩, ?_⟩ | refine ⟨⟨sub_fn, refs_fn⟩, ?_⟩ | refine ⟨⟨rfl, fun h => Bool.noConfusion h⟩, ?_⟩ | refine ⟨⟨rfl, fun h => ?_⟩, ?_⟩ | refine ⟨rfl, ?_⟩ | refine ⟨?_, ?_⟩ | fail))) ⟨(ad2.trans aft3).le (by simp only; omega), by simp only; omega, b2, hfs, hlen2⟩ (by simp only; omega))
          · repeat' (first
      | (refine g_exec ?_; first | (refine g_move ?_; refine x_moveO _ rfl ?_) | (refine g_assign ?_; refine x_assignO _ rfl ?_) | (refine g_bin ?_; first | (refine x_add rfl rfl aO ?_) | (refine x_bin _ rfl rfl rfl ?_) | (refine x_boolEq aA rfl rfl ?_) | (refine x_strBin _ rfl rfl rfl ?_)) | (refine g_un ?_; first | (refine x_not rfl ?_) | (refine x_neg rfl aO ?_)) | (refine g_load ?_; first | (refine x_load_pc aA rfl ?_) | (refine x_load_oc _ aA rfl rfl aE rfl ?_) | (refine x_load_pa _ aA rfl aZ aL ?_) | (refine x_load_oa _ aA rfl rfl aE aZ aL ?_)) | (refine g_field ?_; first | (refine x_field_p _ aA rfl aL ?_) | (refine x_field_o _ aA rfl rfl (by simp only [lx, Nat.reduceAdd]; first | done | rfl) ?_)) | (refine g_index ?_; first | (refine x_index_l _ aA rfl rfl aO aA ?_) | (refine x_index_o _ aA rfl rfl rfl rfl aO aO (by first | (rw [Nat.zero_add, Int.toNat_natCast]) | (rw [Nat.zero_add]) | rfl) ?_)) | (refine g_pick ?_; first | (refine x_pick_b rfl aD rfl ?_) | (refine x_pick_c rfl aD ?_) | (refine x_pick_a rfl aD ?_) | (refine x_pick_d rfl aD rfl ?_)) | (refine g_guard ?_; first | (refine x_gyes rfl rfl aD ?_) | (refine x_gno rfl rfl aD ?_) | (refine x_gun rfl rfl ?_) | (refine x_gsplit rfl rfl (fun h => ?_) (fun h => ?_) <;> (have h' := h; (try simp only [sx] at h')))) | (refine g_call ?_; first | (refine x_callL [(io, 0)] (k2) rfl rfl (by (repeat' (first | exact trivial | refine ⟨⟨_, rfl, ?_⟩, ?_⟩ | exact .inl ⟨rfl, .inl rfl⟩ | exact .inr ⟨rfl, rfl, rfl, rfl, rfl, fun e he u hu => by (simp only [List.mem_cons, List.not_mem_nil, or_false] at he; subst he; simp only [List.mem_cons, List.not_mem_nil, or_false] at hu; subst hu; rfl)⟩ | exact .inl ⟨rfl, .inr (fun e he => by (simp only [List.mem_cons, List.not_mem_nil, or_false] at he; subst he; rfl))⟩ | fail)); first | done | fail) rfl rfl aS rfl aH rfl ?_; simp only [cl]) | (refine x_callL [(io, 0)] (k3) rfl rfl (by (repeat' (first | exact trivial | refine ⟨⟨_, rfl, ?_⟩, ?_⟩ | exact .inl ⟨rfl, .inl rfl⟩ | exact .inr ⟨rfl, rfl, rfl, rfl, rfl, fun e he u hu => by (simp only [List.mem_cons, List.not_mem_nil, or_false] at he; subst he; simp only [List.mem_cons, List.not_mem_nil, or_false] at hu; subst hu; rfl)⟩ | exact .inl ⟨rfl, .inr (fun e he => by (simp only [List.mem_cons, List.not_mem_nil, or_false] at he; subst he; rfl))⟩ | fail)); first | done | fail) rfl rfl aS rfl aH rfl ?_; simp only [cl]) | (refine x_len_l aA rfl ?_) | (refine x_len_o aA rfl rfl ?_) | (refine x_len_n aA rfl ?_) | (refine x_len_s aA (evO_ok rfl) ?_) | (refine x_appOO _ _ aA rfl (lookM (by rfl)) rfl (lookM (by rfl)) rfl aN ⟨rfl, rfl, by decide, by decide⟩ (by first | rfl | omega | (simp; done) | (simp; omega) | fail) ⟨by first | (simp only [List.length_cons, List.length_nil]; omega) | omega | fail, by decide⟩ rfl (by first | (first | (simp only [lx, Nat.reduceAdd]; first | done | rfl) | fail) | rfl) aP ?_) | (refine x_appCO _ _ aA rfl rfl (lookM (by rfl)) ⟨rfl, by decide⟩ aN (by first | exact Nat.succ_pos _ | omega | (simp; done)) ⟨by first | (simp only [List.length_cons, List.length_nil]; omega) | omega | fail, by decide⟩ rfl rfl aP ?_) | (refine x_appNO _ aA rfl rfl (lookM (by rfl)) ⟨rfl, by decide⟩ aN ⟨by first | (simp only [List.length_cons, List.length_nil]; omega) | omega | fail, by decide⟩ rfl aP ?_) | (refine x_app_ol _ aA rfl rfl rfl ⟨rfl, rfl, rfl, by decide, by decide⟩ (by first | rfl | (simp; done) | fail) ⟨by omega, by decide⟩ rfl aL (by first | (rw [Nat.zero_add]) | rfl) ?_)) | (refine x_buildSliceO aA rfl rfl rfl ?_) | (refine x_buildO _ _ aA rfl rfl (by simp [buildPV, PV.cells]; first | done | rfl) ?_) | (refine x_storeO _ _ _ rfl rfl aE (by first | assumption | (exact TAgg.size aA)) rfl rfl rfl aZ rfl aL (by first | (first | (simp only [lx, Nat.reduceAdd]; first | done | rfl) | fail) | rfl) ?_) | (refine x_nil (hK _ _ (.inl rfl) ?_); clear hK K) | (refine x_nil (hK _ _ (.inr (by kernel_rfl)) ?_); clear hK K))
      | (refine g_code ?_; first | (refine v_seq ?_) | (refine v_region (fun K hK => ?_)) | (refine v_block ?_) | (refine v_skip ?_) | (refine v_ret ?_) | (refine v_exit ?_) | (refine g_cond ?_; first | (refine v_cond_y rfl aD ?_) | (refine v_cond_n rfl aD ?_) | (refine v_condt rfl (fun h => ?_) (fun h => ?_) <;> (have h' := h; (try simp only [sx] at h')))))
      | (refine q_then ?_) | (refine q_then_r ?_) | (refine q_then_e ?_) | (refine q_blk_n ?_) | (refine q_blk_r ?_) | (refine q_blk_e ?_) | (refine q_blk_o rfl ?_) | (refine q_loop_r ?_) | (refine q_loop_e ?_) | (refine ret_n ?_))
            all_goals try (exfalso; omega)
            all_goals (refine q_next (c3, fs, m2, (a : Int) + 1 + 1) rfl (by refine ⟨?_, ?_, rfl, rfl⟩ <;> (repeat' (first | exact trivial | exact ⟨rfl, rfl⟩ | exact rfl | exact ⟨sub_fn, refs_fn⟩ | refine ⟨⟨rfl, rfl⟩, ?_⟩ | refine ⟨⟨sub_fn, refs_fn⟩, ?_⟩ | refine ⟨⟨rfl, fun h => Bool.noConfusion h⟩, ?_⟩ | refine ⟨⟨rfl, fun h => ?_⟩, ?_⟩ | refine ⟨rfl, ?_⟩ | refine ⟨?_, ?_⟩ | fail))) ⟨(ad2.trans aft3).le (by simp only; omega), by simp only; omega, b2, hfs, hlen2⟩ (by simp only; omega))
        · repeat' (first
      | (refine g_exec ?_; first | (refine g_move ?_; refine x_moveO _ rfl ?_) | (refine g_assign ?_; refine x_assignO _ rfl ?_) | (refine g_bin ?_; first | (refine x_add rfl rfl aO ?_) | (refine x_bin _ rfl rfl rfl ?_) | (refine x_boolEq aA rfl rfl ?_) | (refine x_strBin _ rfl rfl rfl ?_)) | (refine g_un ?_; first | (refine x_not rfl ?_) | (refine x_neg rfl aO ?_)) | (refine g_load ?_; first | (refine x_load_pc aA rfl ?_) | (refine x_load_oc _ aA rfl rfl aE rfl ?_) | (refine x_load_pa _ aA rfl aZ aL ?_) | (refine x_load_oa _ aA rfl rfl aE aZ aL ?_)) | (refine g_field ?_; first | (refine x_field_p _ aA rfl aL ?_) | (refine x_field_o _ aA rfl rfl (by simp only [lx, Nat.reduceAdd]; first | done | rfl) ?_)) | (refine g_index ?_; first | (refine x_index_l _ aA rfl rfl aO aA ?_) | (refine x_index_o _ aA rfl rfl rfl rfl aO aO (by first | (rw [Nat.zero_add, Int.toNat_natCast]) | (rw [Nat.zero_add]) | rfl) ?_)) | (refine g_pick ?_; first | (refine x_pick_b rfl aD rfl ?_) | (refine x_pick_c rfl aD ?_) | (refine x_pick_a rfl aD ?_) | (refine x_pick_d rfl aD rfl ?_)) | (refine g_guard ?_; first | (refine x_gyes rfl rfl aD ?_) | (refine x_gno rfl rfl aD ?_) | (refine x_gun rfl rfl ?_) | (refine x_gsplit rfl rfl (fun h => ?_) (fun h => ?_) <;> (have h' := h; (try simp only [sx] at h')))) | (refine g_call ?_; first | (refine x_callL [(io, 0)] (k2) rfl rfl (by (repeat' (first | exact trivial | refine ⟨⟨_, rfl, ?_⟩, ?_⟩ | exact .inl ⟨rfl, .inl rfl⟩ | exact .inr ⟨rfl, rfl, rfl, rfl, rfl, fun e he u hu => by (simp only [List.mem_cons, List.not_mem_nil, or_false] at he; subst he; simp only [List.mem_cons, List.not_mem_nil, or_false] at hu; subst hu; rfl)⟩ | exact .inl ⟨rfl, .inr (fun e he => by (simp only [List.mem_cons, List.not_mem_nil, or_false] at he; subst he; rfl))⟩ | fail)); first | done | fail) rfl rfl aS rfl aH rfl ?_; simp only [cl]) | (refine x_len_l aA rfl ?_) | (refine x_len_o aA rfl rfl ?_) | (refine x_len_n aA rfl ?_) | (refine x_len_s aA (evO_ok rfl) ?_) | (refine x_appOO _ _ aA rfl (lookM (by rfl)) rfl (lookM (by rfl)) rfl aN ⟨rfl, rfl, by decide, by decide⟩ (by first | rfl | omega | (simp; done) | (simp; omega) | fail) ⟨by first | (simp only [List.length_cons, List.length_nil]; omega) | omega | fail, by decide⟩ rfl (by first | (first | (simp only [lx, Nat.reduceAdd]; first | done | rfl) | fail) | rfl) aP ?_) | (refine x_appCO _ _ aA rfl rfl (lookM (by rfl)) ⟨rfl, by decide⟩ aN (by first | exact Nat.succ_pos _ | omega | (simp; done)) ⟨by first | (simp only [List.length_cons, List.length_nil]; omega) | omega | fail, by decide⟩ rfl rfl aP ?_) | (refine x_appNO _ aA rfl rfl (lookM (by rfl)) ⟨rfl, by decide⟩ aN ⟨by first | (simp only [List.length_cons, List.length_nil]; omega) | omega | fail, by decide⟩ rfl aP ?_) | (refine x_app_ol _ aA rfl rfl rfl ⟨rfl, rfl, rfl, by decide, by decide⟩ (by first | rfl | (simp; done) | fail) ⟨by omega, by decide⟩ rfl aL (by first | (rw [Nat.zero_add]) | rfl) ?_)) | (refine x_buildSliceO aA rfl rfl rfl ?_) | (refine x_buildO _ _ aA rfl rfl (by simp [buildPV, PV.cells]; first | done | rfl) ?_) | (refine x_storeO _ _ _ rfl rfl aE (by first | assumption | (exact TAgg.size aA)) rfl rfl rfl aZ rfl aL (by first | (first | (simp only [lx, Nat.reduceAdd]; first | done | rfl) | fail) | rfl) ?_) | (refine x_nil (hK _ _ (.inl rfl) ?_); clear hK K) | (refine x_nil (hK _ _ (.inr (by kernel_rfl)) ?_); clear hK K))
      | (refine g_code ?_; first | (refine v_seq ?_) | (refine v_region (fun K hK => ?_)) | (refine v_block ?_) | (refine v_skip ?_) | (refine v_ret ?_) | (refine v_exit ?_) | (refine g_cond ?_; first | (refine v_cond_y rfl aD ?_) | (refine v_cond_n rfl aD ?_) | (refine v_condt rfl (fun h => ?_) (fun h => ?_) <;> (have h' := h; (try simp only [sx] at h')))))
      | (refine q_then ?_) | (refine q_then_r ?_) | (refine q_then_e ?_) | (refine q_blk_n ?_) | (refine q_blk_r ?_) | (refine q_blk_e ?_) | (refine q_blk_o rfl ?_) | (refine q_loop_r ?_) | (refine q_loop_e ?_) | (refine ret_n ?_))
          all_goals try (exfalso; omega)
          all_goals (refine q_next (c2, fs, m2, k + 1) rfl (by refine ⟨?_, ?_, rfl, rfl⟩ <;> (repeat' (first | exact trivial | exact ⟨rfl, rfl⟩ | exact rfl | exact ⟨sub_fn, refs_fn⟩ | refine ⟨⟨rfl, rfl⟩, ?_⟩ | refine ⟨⟨sub_fn, refs_fn⟩, ?_⟩ | refine ⟨⟨rfl, fun h => Bool.noConfusion h⟩, ?_⟩ | refine ⟨⟨rfl, fun h => ?_⟩, ?_⟩ | refine ⟨rfl, ?_⟩ | refine ⟨?_, ?_⟩ | fail))) ⟨(ad2.trans a2).le (by simp only; omega), by simp only; omega, b2, hfs, hlen2⟩ (by simp only; omega))
      · by_cases hfull : m2 < 12
        · obtain ⟨x, y, c4, c5, k4, k5, a5⟩ := go c2 _ a2 aO aO
          repeat' (first
      | (refine g_exec ?_; first | (refine g_move ?_; refine x_moveO _ rfl ?_) | (refine g_assign ?_; refine x_assignO _ rfl ?_) | (refine g_bin ?_; first | (refine x_add rfl rfl aO ?_) | (refine x_bin _ rfl rfl rfl ?_) | (refine x_boolEq aA rfl rfl ?_) | (refine x_strBin _ rfl rfl rfl ?_)) | (refine g_un ?_; first | (refine x_not rfl ?_) | (refine x_neg rfl aO ?_)) | (refine g_load ?_; first | (refine x_load_pc aA rfl ?_) | (refine x_load_oc _ aA rfl rfl aE rfl ?_) | (refine x_load_pa _ aA rfl aZ aL ?_) | (refine x_load_oa _ aA rfl rfl aE aZ aL ?_)) | (refine g_field ?_; first | (refine x_field_p _ aA rfl aL ?_) | (refine x_field_o _ aA rfl rfl (by simp only [lx, Nat.reduceAdd]; first | done | rfl) ?_)) | (refine g_index ?_; first | (refine x_index_l _ aA rfl rfl aO aA ?_) | (refine x_index_o _ aA rfl rfl rfl rfl aO aO (by first | (rw [Nat.zero_add, Int.toNat_natCast]) | (rw [Nat.zero_add]) | rfl) ?_)) | (refine g_pick ?_; first | (refine x_pick_b rfl aD rfl ?_) | (refine x_pick_c rfl aD ?_) | (refine x_pick_a rfl aD ?_) | (refine x_pick_d rfl aD rfl ?_)) | (refine g_guard ?_; first | (refine x_gyes rfl rfl aD ?_) | (refine x_gno rfl rfl aD ?_) | (refine x_gun rfl rfl ?_) | (refine x_gsplit rfl rfl (fun h => ?_) (fun h => ?_) <;> (have h' := h; (try simp only [sx] at h')))) | (refine g_call ?_; first | (refine x_callL [(io, 0)] (k2) rfl rfl (by (repeat' (first | exact trivial | refine ⟨⟨_, rfl, ?_⟩, ?_⟩ | exact .inl ⟨rfl, .inl rfl⟩ | exact .inr ⟨rfl, rfl, rfl, rfl, rfl, fun e he u hu => by (simp only [List.mem_cons, List.not_mem_nil, or_false] at he; subst he; simp only [List.mem_cons, List.not_mem_nil, or_false] at hu; subst hu; rfl)⟩ | exact .inl ⟨rfl, .inr (fun e he => by (simp only [List.mem_cons, List.not_mem_nil, or_false] at he; subst he; rfl))⟩ | fail)); first | done | fail) rfl rfl aS rfl aH rfl ?_; simp only [cl]) | (refine x_callL [(io, 0)] (k4) rfl rfl (by (repeat' (first | exact trivial | refine ⟨⟨_, rfl, ?_⟩, ?_⟩ | exact .inl ⟨rfl, .inl rfl⟩ | exact .inr ⟨rfl, rfl, rfl, rfl, rfl, fun e he u hu => by (simp only [List.mem_cons, List.not_mem_nil, or_false] at he; subst he; simp only [List.mem_cons, List.not_mem_nil, or_false] at hu; subst hu; rfl)⟩ | exact .inl ⟨rfl, .inr (fun e he => by (simp only [List.mem_cons, List.not_mem_nil, or_false] at he; subst he; rfl))⟩ | fail)); first | done | fail) rfl rfl aS rfl aH rfl ?_; simp only [cl]) | (refine x_callL [(io, 0)] (k5) rfl rfl (by (repeat' (first | exact trivial | refine ⟨⟨_, rfl, ?_⟩, ?_⟩ | exact .inl ⟨rfl, .inl rfl⟩ | exact .inr ⟨rfl, rfl, rfl, rfl, rfl, fun e he u hu => by (simp only [List.mem_cons, List.not_mem_nil, or_false] at he; subst he; simp only [List.mem_cons, List.not_mem_nil, or_false] at hu; subst hu; rfl)⟩ | exact .inl ⟨rfl, .inr (fun e he => by (simp only [List.mem_cons, List.not_mem_nil, or_false] at he; subst he; rfl))⟩ | fail)); first | done | fail) rfl rfl aS rfl aH rfl ?_; simp only [cl]) | (refine x_len_l aA rfl ?_) | (refine x_len_o aA rfl rfl ?_) | (refine x_len_n aA rfl ?_) | (refine x_len_s aA (evO_ok rfl) ?_) | (refine x_appOO _ _ aA rfl (lookM (by rfl)) rfl (lookM (by rfl)) rfl aN ⟨rfl, rfl, by decide, by decide⟩ (by first | rfl | omega | (simp; done) | (simp; omega) | fail) ⟨by first | (simp only [List.length_cons, List.length_nil]; omega) | omega | fail, by decide⟩ rfl (by first | (first | (simp only [lx, Nat.reduceAdd]; first | done | rfl) | fail) | rfl) aP ?_) | (refine x_appCO _ _ aA rfl rfl (lookM (by rfl)) ⟨rfl, by decide⟩ aN (by first | exact Nat.succ_pos _ | omega | (simp; done)) ⟨by first | (simp only [List.length_cons, List.length_nil]; omega) | omega | fail, by decide⟩ rfl rfl aP ?_) | (refine x_appNO _ aA rfl rfl (lookM (by rfl)) ⟨rfl, by decide⟩ aN ⟨by first | (simp only [List.length_cons, List.length_nil]; omega) | omega | fail, by decide⟩ rfl aP ?_) | (refine x_app_ol _ aA rfl rfl rfl ⟨rfl, rfl, rfl, by decide, by decide⟩ (by first | rfl | (simp; done) | fail) ⟨by omega, by decide⟩ rfl aL (by first | (rw [Nat.zero_add]) | rfl) ?_)) | (refine x_buildSliceO aA rfl rfl rfl ?_) | (refine x_buildO _ _ aA rfl rfl (by simp [buildPV, PV.cells]; first | done | rfl) ?_) | (refine x_storeO _ _ _ rfl rfl aE (by first | assumption | (exact TAgg.size aA)) rfl rfl rfl aZ rfl aL (by first | (first | (simp only [lx, Nat.reduceAdd]; first | done | rfl) | fail) | rfl) ?_) | (refine x_nil (hK _ _ (.inl rfl) ?_); clear hK K) | (refine x_nil (hK _ _ (.inr (by kernel_rfl)) ?_); clear hK K))
      | (refine g_code ?_; first | (refine v_seq ?_) | (refine v_region (fun K hK => ?_)) | (refine v_block ?_) | (refine v_skip ?_) | (refine v_ret ?_) | (refine v_exit ?_) | (refine g_cond ?_; first | (refine v_cond_y rfl aD ?_) | (refine v_cond_n rfl aD ?_) | (refine v_condt rfl (fun h => ?_) (fun h => ?_) <;> (have h' := h; (try simp only [sx] at h')))))
      | (refine q_then ?_) | (refine q_then_r ?_) | (refine q_then_e ?_) | (refine q_blk_n ?_) | (refine q_blk_r ?_) | (refine q_blk_e ?_) | (refine q_blk_o rfl ?_) | (refine q_loop_r ?_) | (refine q_loop_e ?_) | (refine ret_n ?_))
          all_goals try (exfalso; omega)
          all_goals (refine q_next (c5, fs ++ [[.int .i64 a, .int .i64 k, .int .i64 x, .int .i64 y]], m2 + 1, k + 1) rfl (by refine ⟨?_, ?_, rfl, rfl⟩ <;> (repeat' (first | exact trivial | exact ⟨rfl, rfl⟩ | exact rfl | exact ⟨sub_fn, refs_fn⟩ | refine ⟨⟨rfl, rfl⟩, ?_⟩ | refine ⟨⟨sub_fn, refs_fn⟩, ?_⟩ | refine ⟨⟨rfl, fun h => Bool.noConfusion h⟩, ?_⟩ | refine ⟨⟨rfl, fun h => ?_⟩, ?_⟩ | refine ⟨rfl, ?_⟩ | refine ⟨?_, ?_⟩ | fail))) ⟨(ad2.trans a5).le (by simp only; omega), by simp only; omega, b2 ++ [⟨a, k, x, y⟩], by simp [hfs], by simp [hlen2]⟩ (by simp only; omega))
        · repeat' (first
      | (refine g_exec ?_; first | (refine g_move ?_; refine x_moveO _ rfl ?_) | (refine g_assign ?_; refine x_assignO _ rfl ?_) | (refine g_bin ?_; first | (refine x_add rfl rfl aO ?_) | (refine x_bin _ rfl rfl rfl ?_) | (refine x_boolEq aA rfl rfl ?_) | (refine x_strBin _ rfl rfl rfl ?_)) | (refine g_un ?_; first | (refine x_not rfl ?_) | (refine x_neg rfl aO ?_)) | (refine g_load ?_; first | (refine x_load_pc aA rfl ?_) | (refine x_load_oc _ aA rfl rfl aE rfl ?_) | (refine x_load_pa _ aA rfl aZ aL ?_) | (refine x_load_oa _ aA rfl rfl aE aZ aL ?_)) | (refine g_field ?_; first | (refine x_field_p _ aA rfl aL ?_) | (refine x_field_o _ aA rfl rfl (by simp only [lx, Nat.reduceAdd]; first | done | rfl) ?_)) | (refine g_index ?_; first | (refine x_index_l _ aA rfl rfl aO aA ?_) | (refine x_index_o _ aA rfl rfl rfl rfl aO aO (by first | (rw [Nat.zero_add, Int.toNat_natCast]) | (rw [Nat.zero_add]) | rfl) ?_)) | (refine g_pick ?_; first | (refine x_pick_b rfl aD rfl ?_) | (refine x_pick_c rfl aD ?_) | (refine x_pick_a rfl aD ?_) | (refine x_pick_d rfl aD rfl ?_)) | (refine g_guard ?_; first | (refine x_gyes rfl rfl aD ?_) | (refine x_gno rfl rfl aD ?_) | (refine x_gun rfl rfl ?_) | (refine x_gsplit rfl rfl (fun h => ?_) (fun h => ?_) <;> (have h' := h; (try simp only [sx] at h')))) | (refine g_call ?_; first | (refine x_callL [(io, 0)] (k2) rfl rfl (by (repeat' (first | exact trivial | refine ⟨⟨_, rfl, ?_⟩, ?_⟩ | exact .inl ⟨rfl, .inl rfl⟩ | exact .inr ⟨rfl, rfl, rfl, rfl, rfl, fun e he u hu => by (simp only [List.mem_cons, List.not_mem_nil, or_false] at he; subst he; simp only [List.mem_cons, List.not_mem_nil, or_false] at hu; subst hu; rfl)⟩ | exact .inl ⟨rfl, .inr (fun e he => by (simp only [List.mem_cons, List.not_mem_nil, or_false] at he; subst he; rfl))⟩ | fail)); first | done | fail) rfl rfl aS rfl aH rfl ?_; simp only [cl]) | (refine x_len_l aA rfl ?_) | (refine x_len_o aA rfl rfl ?_) | (refine x_len_n aA rfl ?_) | (refine x_len_s aA (evO_ok rfl) ?_) | (refine x_appOO _ _ aA rfl (lookM (by rfl)) rfl (lookM (by rfl)) rfl aN ⟨rfl, rfl, by decide, by decide⟩ (by first | rfl | omega | (simp; done) | (simp; omega) | fail) ⟨by first | (simp only [List.length_cons, List.length_nil]; omega) | omega | fail, by decide⟩ rfl (by first | (first | (simp only [lx, Nat.reduceAdd]; first | done | rfl) | fail) | rfl) aP ?_) | (refine x_appCO _ _ aA rfl rfl (lookM (by rfl)) ⟨rfl, by decide⟩ aN (by first | exact Nat.succ_pos _ | omega | (simp; done)) ⟨by first | (simp only [List.length_cons, List.length_nil]; omega) | omega | fail, by decide⟩ rfl rfl aP ?_) | (refine x_appNO _ aA rfl rfl (lookM (by rfl)) ⟨rfl, by decide⟩ aN ⟨by first | (simp only [List.length_cons, List.length_nil]; omega) | omega | fail, by decide⟩ rfl aP ?_) | (refine x_app_ol _ aA rfl rfl rfl ⟨rfl, rfl, rfl, by decide, by decide⟩ (by first | rfl | (simp; done) | fail) ⟨by omega, by decide⟩ rfl aL (by first | (rw [Nat.zero_add]) | rfl) ?_)) | (refine x_buildSliceO aA rfl rfl rfl ?_) | (refine x_buildO _ _ aA rfl rfl (by simp [buildPV, PV.cells]; first | done | rfl) ?_) | (refine x_storeO _ _ _ rfl rfl aE (by first | assumption | (exact TAgg.size aA)) rfl rfl rfl aZ rfl aL (by first | (first | (simp only [lx, Nat.reduceAdd]; first | done | rfl) | fail) | rfl) ?_) | (refine x_nil (hK _ _ (.inl rfl) ?_); clear hK K) | (refine x_nil (hK _ _ (.inr (by kernel_rfl)) ?_); clear hK K))
      | (refine g_code ?_; first | (refine v_seq ?_) | (refine v_region (fun K hK => ?_)) | (refine v_block ?_) | (refine v_skip ?_) | (refine v_ret ?_) | (refine v_exit ?_) | (refine g_cond ?_; first | (refine v_cond_y rfl aD ?_) | (refine v_cond_n rfl aD ?_) | (refine v_condt rfl (fun h => ?_) (fun h => ?_) <;> (have h' := h; (try simp only [sx] at h')))))
      | (refine q_then ?_) | (refine q_then_r ?_) | (refine q_then_e ?_) | (refine q_blk_n ?_) | (refine q_blk_r ?_) | (refine q_blk_e ?_) | (refine q_blk_o rfl ?_) | (refine q_loop_r ?_) | (refine q_loop_e ?_) | (refine ret_n ?_))
          all_goals try (exfalso; omega)
          all_goals (refine q_next (c2, fs, m2, k + 1) rfl (by refine ⟨?_, ?_, rfl, rfl⟩ <;> (repeat' (first | exact trivial | exact ⟨rfl, rfl⟩ | exact rfl | exact ⟨sub_fn, refs_fn⟩ | refine ⟨⟨rfl, rfl⟩, ?_⟩ | refine ⟨⟨sub_fn, refs_fn⟩, ?_⟩ | refine ⟨⟨rfl, fun h => Bool.noConfusion h⟩, ?_⟩ | refine ⟨⟨rfl, fun h => ?_⟩, ?_⟩ | refine ⟨rfl, ?_⟩ | refine ⟨?_, ?_⟩ | fail))) ⟨(ad2.trans a2).le (by simp only; omega), by simp only; omega, b2, hfs, hlen2⟩ (by simp only; omega))
    · repeat' (first
      | (refine g_exec ?_; first | (refine g_move ?_; refine x_moveO _ rfl ?_) | (refine g_assign ?_; refine x_assignO _ rfl ?_) | (refine g_bin ?_; first | (refine x_add rfl rfl aO ?_) | (refine x_bin _ rfl rfl rfl ?_) | (refine x_boolEq aA rfl rfl ?_) | (refine x_strBin _ rfl rfl rfl ?_)) | (refine g_un ?_; first | (refine x_not rfl ?_) | (refine x_neg rfl aO ?_)) | (refine g_load ?_; first | (refine x_load_pc aA rfl ?_) | (refine x_load_oc _ aA rfl rfl aE rfl ?_) | (refine x_load_pa _ aA rfl aZ aL ?_) | (refine x_load_oa _ aA rfl rfl aE aZ aL ?_)) | (refine g_field ?_; first | (refine x_field_p _ aA rfl aL ?_) | (refine x_field_o _ aA rfl rfl (by simp only [lx, Nat.reduceAdd]; first | done | rfl) ?_)) | (refine g_index ?_; first | (refine x_index_l _ aA rfl rfl aO aA ?_) | (refine x_index_o _ aA rfl rfl rfl rfl aO aO (by first | (rw [Nat.zero_add, Int.toNat_natCast]) | (rw [Nat.zero_add]) | rfl) ?_)) | (refine g_pick ?_; first | (refine x_pick_b rfl aD rfl ?_) | (refine x_pick_c rfl aD ?_) | (refine x_pick_a rfl aD ?_) | (refine x_pick_d rfl aD rfl ?_)) | (refine g_guard ?_; first | (refine x_gyes rfl rfl aD ?_) | (refine x_gno rfl rfl aD ?_) | (refine x_gun rfl rfl ?_) | (refine x_gsplit rfl rfl (fun h => ?_) (fun h => ?_) <;> (have h' := h; (try simp only [sx] at h')))) | (refine g_call ?_; first | (refine x_len_l aA rfl ?_) | (refine x_len_o aA rfl rfl ?_) | (refine x_len_n aA rfl ?_) | (refine x_len_s aA (evO_ok rfl) ?_) | (refine x_appOO _ _ aA rfl (lookM (by rfl)) rfl (lookM (by rfl)) rfl aN ⟨rfl, rfl, by decide, by decide⟩ (by first | rfl | omega | (simp; done) | (simp; omega) | fail) ⟨by first | (simp only [List.length_cons, List.length_nil]; omega) | omega | fail, by decide⟩ rfl (by first | (first | (simp only [lx, Nat.reduceAdd]; first | done | rfl) | fail) | rfl) aP ?_) | (refine x_appCO _ _ aA rfl rfl (lookM (by rfl)) ⟨rfl, by decide⟩ aN (by first | exact Nat.succ_pos _ | omega | (simp; done)) ⟨by first | (simp only [List.length_cons, List.length_nil]; omega) | omega | fail, by decide⟩ rfl rfl aP ?_) | (refine x_appNO _ aA rfl rfl (lookM (by rfl)) ⟨rfl, by decide⟩ aN ⟨by first | (simp only [List.length_cons, List.length_nil]; omega) | omega | fail, by decide⟩ rfl aP ?_) | (refine x_app_ol _ aA rfl rfl rfl ⟨rfl, rfl, rfl, by decide, by decide⟩ (by first | rfl | (simp; done) | fail) ⟨by omega, by decide⟩ rfl aL (by first | (rw [Nat.zero_add]) | rfl) ?_)) | (refine x_buildSliceO aA rfl rfl rfl ?_) | (refine x_buildO _ _ aA rfl rfl (by simp [buildPV, PV.cells]; first | done | rfl) ?_) | (refine x_storeO _ _ _ rfl rfl aE (by first | assumption | (exact TAgg.size aA)) rfl rfl rfl aZ rfl aL (by first | (first | (simp only [lx, Nat.reduceAdd]; first | done | rfl) | fail) | rfl) ?_) | (refine x_nil (hK _ _ (.inl rfl) ?_); clear hK K) | (refine x_nil (hK _ _ (.inr (by kernel_rfl)) ?_); clear hK K))
      | (refine g_code ?_; first | (refine v_seq ?_) | (refine v_region (fun K hK => ?_)) | (refine v_block ?_) | (refine v_skip ?_) | (refine v_ret ?_) | (refine v_exit ?_) | (refine g_cond ?_; first | (refine v_cond_y rfl aD ?_) | (refine v_cond_n rfl aD ?_) | (refine v_condt rfl (fun h => ?_) (fun h => ?_) <;> (have h' := h; (try simp only [sx] at h')))))
      | (refine q_then ?_) | (refine q_then_r ?_) | (refine q_then_e ?_) | (refine q_blk_n ?_) | (refine q_blk_r ?_) | (refine q_blk_e ?_) | (refine q_blk_o rfl ?_) | (refine q_loop_r ?_) | (refine q_loop_e ?_) | (refine ret_n ?_))
      all_goals try (exfalso; omega)
      all_goals (refine q_next (d2, fs, m2, a + 1) rfl (by refine ⟨?_, ?_, rfl, rfl⟩ <;> (repeat' (first | exact trivial | exact ⟨rfl, rfl⟩ | exact rfl | exact ⟨sub_fn, refs_fn⟩ | refine ⟨⟨rfl, rfl⟩, ?_⟩ | refine ⟨⟨sub_fn, refs_fn⟩, ?_⟩ | refine ⟨⟨rfl, fun h => Bool.noConfusion h⟩, ?_⟩ | refine ⟨⟨rfl, fun h => ?_⟩, ?_⟩ | refine ⟨rfl, ?_⟩ | refine ⟨?_, ?_⟩ | fail))) ⟨(ad.trans ad2).le (by simp only; omega), by simp only; omega, b2, hfs, hlen2⟩ (by simp only; omega))
  · obtain ⟨r, c2, k2, a2, _⟩ := k_pick d 32 od aO aO
    have o2 := a2.ok od aO
    have p2 := a2.pos
    have aft2 := (a1.trans ad).trans a2
    by_cases e0 : r = 0
    · obtain ⟨x, c3, k3, a3, hx⟩ := k_among c2 [1, 8, 2 + p + 1] o2 aO (by simp)
      have hx2 : 1 ≤ x ∧ x ≤ 8 := by simp at hx; omega
      repeat' (first
      | (refine g_exec ?_; first | (refine g_move ?_; refine x_moveO _ rfl ?_) | (refine g_assign ?_; refine x_assignO _ rfl ?_) | (refine g_bin ?_; first | (refine x_add rfl rfl aO ?_) | (refine x_bin _ rfl rfl rfl ?_) | (refine x_boolEq aA rfl rfl ?_) | (refine x_strBin _ rfl rfl rfl ?_)) | (refine g_un ?_; first | (refine x_not rfl ?_) | (refine x_neg rfl aO ?_)) | (refine g_load ?_; first | (refine x_load_pc aA rfl ?_) | (refine x_load_oc _ aA rfl rfl aE rfl ?_) | (refine x_load_pa _ aA rfl aZ aL ?_) | (refine x_load_oa _ aA rfl rfl aE aZ aL ?_)) | (refine g_field ?_; first | (refine x_field_p _ aA rfl aL ?_) | (refine x_field_o _ aA rfl rfl (by simp only [lx, Nat.reduceAdd]; first | done | rfl) ?_)) | (refine g_index ?_; first | (refine x_index_l _ aA rfl rfl aO aA ?_) | (refine x_index_o _ aA rfl rfl rfl rfl aO aO (by first | (rw [Nat.zero_add, Int.toNat_natCast]) | (rw [Nat.zero_add]) | rfl) ?_)) | (refine g_pick ?_; first | (refine x_pick_b rfl aD rfl ?_) | (refine x_pick_c rfl aD ?_) | (refine x_pick_a rfl aD ?_) | (refine x_pick_d rfl aD rfl ?_)) | (refine g_guard ?_; first | (refine x_gyes rfl rfl aD ?_) | (refine x_gno rfl rfl aD ?_) | (refine x_gun rfl rfl ?_) | (refine x_gsplit rfl rfl (fun h => ?_) (fun h => ?_) <;> (have h' := h; (try simp only [sx] at h')))) | (refine g_call ?_; first | (refine x_callL [(io, 0)] (k2) rfl rfl (by (repeat' (first | exact trivial | refine ⟨⟨_, rfl, ?_⟩, ?_⟩ | exact .inl ⟨rfl, .inl rfl⟩ | exact .inr ⟨rfl, rfl, rfl, rfl, rfl, fun e he u hu => by (simp only [List.mem_cons, List.not_mem_nil, or_false] at he; subst he; simp only [List.mem_cons, List.not_mem_nil, or_false] at hu; subst hu; rfl)⟩ | exact .inl ⟨rfl, .inr (fun e he => by (simp only [List.mem_cons, List.not_mem_nil, or_false] at he; subst he; rfl))⟩ | fail)); first | done | fail) rfl rfl aS rfl aH rfl ?_; simp only [cl]) | (refine x_callL [(io, 0)] (k3) rfl rfl (by (repeat' (first | exact trivial | refine ⟨⟨_, rfl, ?_⟩, ?_⟩ | exact .inl ⟨rfl, .inl rfl⟩ | exact .inr ⟨rfl, rfl, rfl, rfl, rfl, fun e he u hu => by (simp only [List.mem_cons, List.not_mem_nil, or_false] at he; subst he; simp only [List.mem_cons, List.not_mem_nil, or_false] at hu; subst hu; rfl)⟩ | exact .inl ⟨rfl, .inr (fun e he => by (simp only [List.mem_cons, List.not_mem_nil, or_false] at he; subst he; rfl))⟩ | fail)); first | done | fail) rfl rfl aS rfl aH rfl ?_; simp only [cl]) | (refine x_len_l aA rfl ?_) | (refine x_len_o aA rfl rfl ?_) | (refine x_len_n aA rfl ?_) | (refine x_len_s aA (evO_ok rfl) ?_) | (refine x_appOO _ _ aA rfl (lookM (by rfl)) rfl (lookM (by rfl)) rfl aN ⟨rfl, rfl, by decide, by decide⟩ (by first | rfl | omega | (simp; done) | (simp; omega) | fail) ⟨by first | (simp only [List.length_cons, List.length_nil]; omega) | omega | fail, by decide⟩ rfl (by first | (first | (simp only [lx, Nat.reduceAdd]; first | done | rfl) | fail) | rfl) aP ?_) | (refine x_appCO _ _ aA rfl rfl (lookM (by rfl)) ⟨rfl, by decide⟩ aN (by first | exact Nat.succ_pos _ | omega | (simp; done)) ⟨by first | (simp only [List.length_cons, List.length_nil]; omega) | omega | fail, by decide⟩ rfl rfl aP ?_) | (refine x_appNO _ aA rfl rfl (lookM (by rfl)) ⟨rfl, by decide⟩ aN ⟨by first | (simp only [List.length_cons, List.length_nil]; omega) | omega | fail, by decide⟩ rfl aP ?_) | (refine x_app_ol _ aA rfl rfl rfl ⟨rfl, rfl, rfl, by decide, by decide⟩ (by first | rfl | (simp; done) | fail) ⟨by omega, by decide⟩ rfl aL (by first | (rw [Nat.zero_add]) | rfl) ?_)) | (refine x_buildSliceO aA rfl rfl rfl ?_) | (refine x_buildO _ _ aA rfl rfl (by simp [buildPV, PV.cells]; first | done | rfl) ?_) | (refine x_storeO _ _ _ rfl rfl aE (by first | assumption | (exact TAgg.size aA)) rfl rfl rfl aZ rfl aL (by first | (first | (simp only [lx, Nat.reduceAdd]; first | done | rfl) | fail) | rfl) ?_) | (refine x_nil (hK _ _ (.inl rfl) ?_); clear hK K) | (refine x_nil (hK _ _ (.inr (by kernel_rfl)) ?_); clear hK K))
      | (refine g_code ?_; first | (refine v_seq ?_) | (refine v_region (fun K hK => ?_)) | (refine v_block ?_) | (refine v_skip ?_) | (refine v_ret ?_) | (refine v_exit ?_) | (refine g_cond ?_; first | (refine v_cond_y rfl aD ?_) | (refine v_cond_n rfl aD ?_) | (refine v_condt rfl (fun h => ?_) (fun h => ?_) <;> (have h' := h; (try simp only [sx] at h')))))
      | (refine q_then ?_) | (refine q_then_r ?_) | (refine q_then_e ?_) | (refine q_blk_n ?_) | (refine q_blk_r ?_) | (refine q_blk_e ?_) | (refine q_blk_o rfl ?_) | (refine q_loop_r ?_) | (refine q_loop_e ?_) | (refine ret_n ?_))
      all_goals first
        | (exfalso; omega)
        | (refine RetPost.mono (fun r fin h => ⟨x, b, c3, h, (aft2.trans a3).le aO, hx2, by omega⟩) ?_
           (first | refine ret_TL rfl rfl rfl (by first | exact trivial | (repeat' (first | exact trivial | refine ⟨by assumption, ?_⟩))) (by repeat' (first | exact trivial | refine ⟨by simp, ?_⟩)) (by first | exact trivial | exact ⟨⟨rfl, rfl, fun h => by cases h⟩, trivial⟩) ?_ | refine ret_AL rfl rfl rfl (by first | exact trivial | (repeat' (first | exact trivial | refine ⟨by assumption, ?_⟩))) (by repeat' (first | exact trivial | refine ⟨by simp, ?_⟩)) (by first | exact trivial | exact ⟨⟨rfl, rfl, fun h => by cases h⟩, trivial⟩) ?_); (repeat' (first | exact et_end | exact el_end | refine et_int rfl ?_ ?_ | refine et_bool ?_ ?_ | refine et_str ?_ ?_ | refine et_lst rfl rfl ?_ ?_ | refine et_listA rfl (by rfl) (by decide) rfl rfl ?_ ?_ ?_ | refine et_nil ?_ ?_ | refine et_agg0 ?_ ?_ | refine et_agg ?_ ?_ | refine el_int rfl ?_ ?_ | refine el_bool ?_ ?_ | refine el_str ?_ ?_ | refine el_lst rfl rfl ?_ ?_ | refine el_listA rfl (by rfl) (by decide) rfl rfl ?_ ?_ ?_ | refine el_nil ?_ ?_)) <;> first | rfl | exact hes | (simp [hel]; done) | omega)
    · by_cases e1 : r = 1
      · repeat' (first
      | (refine g_exec ?_; first | (refine g_move ?_; refine x_moveO _ rfl ?_) | (refine g_assign ?_; refine x_assignO _ rfl ?_) | (refine g_bin ?_; first | (refine x_add rfl rfl aO ?_) | (refine x_bin _ rfl rfl rfl ?_) | (refine x_boolEq aA rfl rfl ?_) | (refine x_strBin _ rfl rfl rfl ?_)) | (refine g_un ?_; first | (refine x_not rfl ?_) | (refine x_neg rfl aO ?_)) | (refine g_load ?_; first | (refine x_load_pc aA rfl ?_) | (refine x_load_oc _ aA rfl rfl aE rfl ?_) | (refine x_load_pa _ aA rfl aZ aL ?_) | (refine x_load_oa _ aA rfl rfl aE aZ aL ?_)) | (refine g_field ?_; first | (refine x_field_p _ aA rfl aL ?_) | (refine x_field_o _ aA rfl rfl (by simp only [lx, Nat.reduceAdd]; first | done | rfl) ?_)) | (refine g_index ?_; first | (refine x_index_l _ aA rfl rfl aO aA ?_) | (refine x_index_o _ aA rfl rfl rfl rfl aO aO (by first | (rw [Nat.zero_add, Int.toNat_natCast]) | (rw [Nat.zero_add]) | rfl) ?_)) | (refine g_pick ?_; first | (refine x_pick_b rfl aD rfl ?_) | (refine x_pick_c rfl aD ?_) | (refine x_pick_a rfl aD ?_) | (refine x_pick_d rfl aD rfl ?_)) | (refine g_guard ?_; first | (refine x_gyes rfl rfl aD ?_) | (refine x_gno rfl rfl aD ?_) | (refine x_gun rfl rfl ?_) | (refine x_gsplit rfl rfl (fun h => ?_) (fun h => ?_) <;> (have h' := h; (try simp only [sx] at h')))) | (refine g_call ?_; first | (refine x_callL [(io, 0)] (k2) rfl rfl (by (repeat' (first | exact trivial | refine ⟨⟨_, rfl, ?_⟩, ?_⟩ | exact .inl ⟨rfl, .inl rfl⟩ | exact .inr ⟨rfl, rfl, rfl, rfl, rfl, fun e he u hu => by (simp only [List.mem_cons, List.not_mem_nil, or_false] at he; subst he; simp only [List.mem_cons, List.not_mem_nil, or_false] at hu; subst hu; rfl)⟩ | exact .inl ⟨rfl, .inr (fun e he => by (simp only [List.mem_cons, List.not_mem_nil, or_false] at he; subst he; rfl))⟩ | fail)); first | done | fail) rfl rfl aS rfl aH rfl ?_; simp only [cl]) | (refine x_len_l aA rfl ?_) | (refine x_len_o aA rfl rfl ?_) | (refine x_len_n aA rfl ?_) | (refine x_len_s aA (evO_ok rfl) ?_) | (refine x_appOO _ _ aA rfl (lookM (by rfl)) rfl (lookM (by rfl)) rfl aN ⟨rfl, rfl, by decide, by decide⟩ (by first | rfl | omega | (simp; done) | (simp; omega) | fail) ⟨by first | (simp only [List.length_cons, List.length_nil]; omega) | omega | fail, by decide⟩ rfl (by first | (first | (simp only [lx, Nat.reduceAdd]; first | done | rfl) | fail) | rfl) aP ?_) | (refine x_appCO _ _ aA rfl rfl (lookM (by rfl)) ⟨rfl, by decide⟩ aN (by first | exact Nat.succ_pos _ | omega | (simp; done)) ⟨by first | (simp only [List.length_cons, List.length_nil]; omega) | omega | fail, by decide⟩ rfl rfl aP ?_) | (refine x_appNO _ aA rfl rfl (lookM (by rfl)) ⟨rfl, by decide⟩ aN ⟨by first | (simp only [List.length_cons, List.length_nil]; omega) | omega | fail, by decide⟩ rfl aP ?_) | (refine x_app_ol _ aA rfl rfl rfl ⟨rfl, rfl, rfl, by decide, by decide⟩ (by first | rfl | (simp; done) | fail) ⟨by omega, by decide⟩ rfl aL (by first | (rw [Nat.zero_add]) | rfl) ?_)) | (refine x_buildSliceO aA rfl rfl rfl ?_) | (refine x_buildO _ _ aA rfl rfl (by simp [buildPV, PV.cells]; first | done | rfl) ?_) | (refine x_storeO _ _ _ rfl rfl aE (by first | assumption | (exact TAgg.size aA)) rfl rfl rfl aZ rfl aL (by first | (first | (simp only [lx, Nat.reduceAdd]; first | done | rfl) | fail) | rfl) ?_) | (refine x_nil (hK _ _ (.inl rfl) ?_); clear hK K) | (refine x_nil (hK _ _ (.inr (by kernel_rfl)) ?_); clear hK K))
      | (refine g_code ?_; first | (refine v_seq ?_) | (refine v_region (fun K hK => ?_)) | (refine v_block ?_) | (refine v_skip ?_) | (refine v_ret ?_) | (refine v_exit ?_) | (refine g_cond ?_; first | (refine v_cond_y rfl aD ?_) | (refine v_cond_n rfl aD ?_) | (refine v_condt rfl (fun h => ?_) (fun h => ?_) <;> (have h' := h; (try simp only [sx] at h')))))
      | (refine q_then ?_) | (refine q_then_r ?_) | (refine q_then_e ?_) | (refine q_blk_n ?_) | (refine q_blk_r ?_) | (refine q_blk_e ?_) | (refine q_blk_o rfl ?_) | (refine q_loop_r ?_) | (refine q_loop_e ?_) | (refine ret_n ?_))
        all_goals first
          | (exfalso; omega)
          | (refine RetPost.mono (fun r fin h => ⟨2 + p, b ++ [⟨0, 1, 5, 50⟩], c2, h, aft2.le aO, by omega, by simp; omega⟩) ?_
             (first | refine ret_TL rfl rfl rfl (by first | exact trivial | (repeat' (first | exact trivial | refine ⟨by assumption, ?_⟩))) (by repeat' (first | exact trivial | refine ⟨by simp, ?_⟩)) (by first | exact trivial | exact ⟨⟨rfl, rfl, fun h => by cases h⟩, trivial⟩) ?_ | refine ret_AL rfl rfl rfl (by first | exact trivial | (repeat' (first | exact trivial | refine ⟨by assumption, ?_⟩))) (by repeat' (first | exact trivial | refine ⟨by simp, ?_⟩)) (by first | exact trivial | exact ⟨⟨rfl, rfl, fun h => by cases h⟩, trivial⟩) ?_); (repeat' (first | exact et_end | exact el_end | refine et_int rfl ?_ ?_ | refine et_bool ?_ ?_ | refine et_str ?_ ?_ | refine et_lst rfl rfl ?_ ?_ | refine et_listA rfl (by rfl) (by decide) rfl rfl ?_ ?_ ?_ | refine et_nil ?_ ?_ | refine et_agg0 ?_ ?_ | refine et_agg ?_ ?_ | refine el_int rfl ?_ ?_ | refine el_bool ?_ ?_ | refine el_str ?_ ?_ | refine el_lst rfl rfl ?_ ?_ | refine el_listA rfl (by rfl) (by decide) rfl rfl ?_ ?_ ?_ | refine el_nil ?_ ?_)) <;> first | rfl | (simp [hes]; done) | (simp [hel]; done) | omega)
      · by_cases e2 : r = 2
        · by_cases h0 : 0 < m
          · obtain ⟨x, c3, k3, a3, _⟩ := k_among c2 [0, 100, 101] o2 aO (by decide)
            have o3 := a3.ok o2 aO
            have p3 := a3.pos
            obtain ⟨y, c4, k4, a4, _⟩ := k_among c3 [-1, 999, 1000] o3 aO (by decide)
            obtain ⟨w, hw⟩ := get_ex (show 0 < b.length by omega)
            have hw2 : es[0]? = some w.pv := by rw [hes]; exact Road.at hw
            have e : es.set 0 [.int .i64 w.a, .int .i64 w.b, .int .i64 x, .int .i64 y] = (b.set 0 ⟨w.a, w.b, x, y⟩).map Go.Vs.Road.pv := by rw [hes, List.map_set]
            repeat' (first
      | (refine g_exec ?_; first | (refine g_move ?_; refine x_moveO _ rfl ?_) | (refine g_assign ?_; refine x_assignO _ rfl ?_) | (refine g_bin ?_; first | (refine x_add rfl rfl aO ?_) | (refine x_bin _ rfl rfl rfl ?_) | (refine x_boolEq aA rfl rfl ?_) | (refine x_strBin _ rfl rfl rfl ?_)) | (refine g_un ?_; first | (refine x_not rfl ?_) | (refine x_neg rfl aO ?_)) | (refine g_load ?_; first | (refine x_load_pc aA rfl ?_) | (refine x_load_oc _ aA rfl rfl aE rfl ?_) | (refine x_load_pa _ aA rfl aZ aL ?_) | (refine x_load_oa _ aA rfl rfl aE aZ aL ?_)) | (refine g_field ?_; first | (refine x_field_p _ aA rfl aL ?_) | (refine x_field_o _ aA rfl rfl (by simp only [lx, Nat.reduceAdd]; first | done | rfl) ?_)) | (refine g_index ?_; first | (refine x_index_l _ aA rfl rfl aO aA ?_) | (refine x_index_o _ aA rfl rfl rfl rfl aO aO (by first | (rw [Nat.zero_add, Int.toNat_natCast]) | (rw [Nat.zero_add]) | rfl) ?_)) | (refine g_pick ?_; first | (refine x_pick_b rfl aD rfl ?_) | (refine x_pick_c rfl aD ?_) | (refine x_pick_a rfl aD ?_) | (refine x_pick_d rfl aD rfl ?_)) | (refine g_guard ?_; first | (refine x_gyes rfl rfl aD ?_) | (refine x_gno rfl rfl aD ?_) | (refine x_gun rfl rfl ?_) | (refine x_gsplit rfl rfl (fun h => ?_) (fun h => ?_) <;> (have h' := h; (try simp only [sx] at h')))) | (refine g_call ?_; first | (refine x_callL [(io, 0)] (k2) rfl rfl (by (repeat' (first | exact trivial | refine ⟨⟨_, rfl, ?_⟩, ?_⟩ | exact .inl ⟨rfl, .inl rfl⟩ | exact .inr ⟨rfl, rfl, rfl, rfl, rfl, fun e he u hu => by (simp only [List.mem_cons, List.not_mem_nil, or_false] at he; subst he; simp only [List.mem_cons, List.not_mem_nil, or_false] at hu; subst hu; rfl)⟩ | exact .inl ⟨rfl, .inr (fun e he => by (simp only [List.mem_cons, List.not_mem_nil, or_false] at he; subst he; rfl))⟩ | fail)); first | done | fail) rfl rfl aS rfl aH rfl ?_; simp only [cl]) | (refine x_callL [(io, 0)] (k3) rfl rfl (by (repeat' (first | exact trivial | refine ⟨⟨_, rfl, ?_⟩, ?_⟩ | exact .inl ⟨rfl, .inl rfl⟩ | exact .inr ⟨rfl, rfl, rfl, rfl, rfl, fun e he u hu => by (simp only [List.mem_cons, List.not_mem_nil, or_false] at he; subst he; simp only [List.mem_cons, List.not_mem_nil, or_false] at hu; subst hu; rfl)⟩ | exact .inl ⟨rfl, .inr (fun e he => by (simp only [List.mem_cons, List.not_mem_nil, or_false] at he; subst he; rfl))⟩ | fail)); first | done | fail) rfl rfl aS rfl aH rfl ?_; simp only [cl]) | (refine x_callL [(io, 0)] (k4) rfl rfl (by (repeat' (first | exact trivial | refine ⟨⟨_, rfl, ?_⟩, ?_⟩ | exact .inl ⟨rfl, .inl rfl⟩ | exact .inr ⟨rfl, rfl, rfl, rfl, rfl, fun e he u hu => by (simp only [List.mem_cons, List.not_mem_nil, or_false] at he; subst he; simp only [List.mem_cons, List.not_mem_nil, or_false] at hu; subst hu; rfl)⟩ | exact .inl ⟨rfl, .inr (fun e he => by (simp only [List.mem_cons, List.not_mem_nil, or_false] at he; subst he; rfl))⟩ | fail)); first | done | fail) rfl rfl aS rfl aH rfl ?_; simp only [cl]) | (refine x_len_l aA rfl ?_) | (refine x_len_o aA rfl rfl ?_) | (refine x_len_n aA rfl ?_) | (refine x_len_s aA (evO_ok rfl) ?_) | (refine x_appOO _ _ aA rfl (lookM (by rfl)) rfl (lookM (by rfl)) rfl aN ⟨rfl, rfl, by decide, by decide⟩ (by first | rfl | omega | (simp; done) | (simp; omega) | fail) ⟨by first | (simp only [List.length_cons, List.length_nil]; omega) | omega | fail, by decide⟩ rfl (by first | (first | (simp only [lx, Nat.reduceAdd]; first | done | rfl) | fail) | rfl) aP ?_) | (refine x_appCO _ _ aA rfl rfl (lookM (by rfl)) ⟨rfl, by decide⟩ aN (by first | exact Nat.succ_pos _ | omega | (simp; done)) ⟨by first | (simp only [List.length_cons, List.length_nil]; omega) | omega | fail, by decide⟩ rfl rfl aP ?_) | (refine x_appNO _ aA rfl rfl (lookM (by rfl)) ⟨rfl, by decide⟩ aN ⟨by first | (simp only [List.length_cons, List.length_nil]; omega) | omega | fail, by decide⟩ rfl aP ?_) | (refine x_app_ol _ aA rfl rfl rfl ⟨rfl, rfl, rfl, by decide, by decide⟩ (by first | rfl | (simp; done) | fail) ⟨by omega, by decide⟩ rfl aL (by first | (rw [Nat.zero_add]) | rfl) ?_)) | (refine x_buildSliceO aA rfl rfl rfl ?_) | (refine x_buildO _ _ aA rfl rfl (by simp [buildPV, PV.cells]; first | done | rfl) ?_) | (refine x_storeO _ _ _ rfl rfl aE (by first | assumption | (exact TAgg.size aA)) rfl rfl rfl aZ rfl aL (by first | (first | (simp only [lx, Nat.reduceAdd]; first | done | rfl) | fail) | rfl) ?_) | (refine x_nil (hK _ _ (.inl rfl) ?_); clear hK K) | (refine x_nil (hK _ _ (.inr (by kernel_rfl)) ?_); clear hK K))
      | (refine g_code ?_; first | (refine v_seq ?_) | (refine v_region (fun K hK => ?_)) | (refine v_block ?_) | (refine v_skip ?_) | (refine v_ret ?_) | (refine v_exit ?_) | (refine g_cond ?_; first | (refine v_cond_y rfl aD ?_) | (refine v_cond_n rfl aD ?_) | (refine v_condt rfl (fun h => ?_) (fun h => ?_) <;> (have h' := h; (try simp only [sx] at h')))))
      | (refine q_then ?_) | (refine q_then_r ?_) | (refine q_then_e ?_) | (refine q_blk_n ?_) | (refine q_blk_r ?_) | (refine q_blk_e ?_) | (refine q_blk_o rfl ?_) | (refine q_loop_r ?_) | (refine q_loop_e ?_) | (refine ret_n ?_))
            all_goals first
              | (exfalso; omega)
              | (refine RetPost.mono (fun r fin h => ⟨2 + p, b.set 0 ⟨w.a, w.b, x, y⟩, c4, h, ((aft2.trans a3).trans a4).le aO, by omega, by simp; omega⟩) ?_
                 (first | refine ret_TL rfl rfl rfl (by first | exact trivial | (repeat' (first | exact trivial | refine ⟨by assumption, ?_⟩))) (by repeat' (first | exact trivial | refine ⟨by simp, ?_⟩)) (by first | exact trivial | exact ⟨⟨rfl, rfl, fun h => by cases h⟩, trivial⟩) ?_ | refine ret_AL rfl rfl rfl (by first | exact trivial | (repeat' (first | exact trivial | refine ⟨by assumption, ?_⟩))) (by repeat' (first | exact trivial | refine ⟨by simp, ?_⟩)) (by first | exact trivial | exact ⟨⟨rfl, rfl, fun h => by cases h⟩, trivial⟩) ?_); (repeat' (first | exact et_end | exact el_end | refine et_int rfl ?_ ?_ | refine et_bool ?_ ?_ | refine et_str ?_ ?_ | refine et_lst rfl rfl ?_ ?_ | refine et_listA rfl (by rfl) (by decide) rfl rfl ?_ ?_ ?_ | refine et_nil ?_ ?_ | refine et_agg0 ?_ ?_ | refine et_agg ?_ ?_ | refine el_int rfl ?_ ?_ | refine el_bool ?_ ?_ | refine el_str ?_ ?_ | refine el_lst rfl rfl ?_ ?_ | refine el_listA rfl (by rfl) (by decide) rfl rfl ?_ ?_ ?_ | refine el_nil ?_ ?_)) <;> first | rfl | exact e | (simp [hel]; done) | omega)
          · repeat' (first
      | (refine g_exec ?_; first | (refine g_move ?_; refine x_moveO _ rfl ?_) | (refine g_assign ?_; refine x_assignO _ rfl ?_) | (refine g_bin ?_; first | (refine x_add rfl rfl aO ?_) | (refine x_bin _ rfl rfl rfl ?_) | (refine x_boolEq aA rfl rfl ?_) | (refine x_strBin _ rfl rfl rfl ?_)) | (refine g_un ?_; first | (refine x_not rfl ?_) | (refine x_neg rfl aO ?_)) | (refine g_load ?_; first | (refine x_load_pc aA rfl ?_) | (refine x_load_oc _ aA rfl rfl aE rfl ?_) | (refine x_load_pa _ aA rfl aZ aL ?_) | (refine x_load_oa _ aA rfl rfl aE aZ aL ?_)) | (refine g_field ?_; first | (refine x_field_p _ aA rfl aL ?_) | (refine x_field_o _ aA rfl rfl (by simp only [lx, Nat.reduceAdd]; first | done | rfl) ?_)) | (refine g_index ?_; first | (refine x_index_l _ aA rfl rfl aO aA ?_) | (refine x_index_o _ aA rfl rfl rfl rfl aO aO (by first | (rw [Nat.zero_add, Int.toNat_natCast]) | (rw [Nat.zero_add]) | rfl) ?_)) | (refine g_pick ?_; first | (refine x_pick_b rfl aD rfl ?_) | (refine x_pick_c rfl aD ?_) | (refine x_pick_a rfl aD ?_) | (refine x_pick_d rfl aD rfl ?_)) | (refine g_guard ?_; first | (refine x_gyes rfl rfl aD ?_) | (refine x_gno rfl rfl aD ?_) | (refine x_gun rfl rfl ?_) | (refine x_gsplit rfl rfl (fun h => ?_) (fun h => ?_) <;> (have h' := h; (try simp only [sx] at h')))) | (refine g_call ?_; first | (refine x_callL [(io, 0)] (k2) rfl rfl (by (repeat' (first | exact trivial | refine ⟨⟨_, rfl, ?_⟩, ?_⟩ | exact .inl ⟨rfl, .inl rfl⟩ | exact .inr ⟨rfl, rfl, rfl, rfl, rfl, fun e he u hu => by (simp only [List.mem_cons, List.not_mem_nil, or_false] at he; subst he; simp only [List.mem_cons, List.not_mem_nil, or_false] at hu; subst hu; rfl)⟩ | exact .inl ⟨rfl, .inr (fun e he => by (simp only [List.mem_cons, List.not_mem_nil, or_false] at he; subst he; rfl))⟩ | fail)); first | done | fail) rfl rfl aS rfl aH rfl ?_; simp only [cl]) | (refine x_len_l aA rfl ?_) | (refine x_len_o aA rfl rfl ?_) | (refine x_len_n aA rfl ?_) | (refine x_len_s aA (evO_ok rfl) ?_) | (refine x_appOO _ _ aA rfl (lookM (by rfl)) rfl (lookM (by rfl)) rfl aN ⟨rfl, rfl, by decide, by decide⟩ (by first | rfl | omega | (simp; done) | (simp; omega) | fail) ⟨by first | (simp only [List.length_cons, List.length_nil]; omega) | omega | fail, by decide⟩ rfl (by first | (first | (simp only [lx, Nat.reduceAdd]; first | done | rfl) | fail) | rfl) aP ?_) | (refine x_appCO _ _ aA rfl rfl (lookM (by rfl)) ⟨rfl, by decide⟩ aN (by first | exact Nat.succ_pos _ | omega | (simp; done)) ⟨by first | (simp only [List.length_cons, List.length_nil]; omega) | omega | fail, by decide⟩ rfl rfl aP ?_) | (refine x_appNO _ aA rfl rfl (lookM (by rfl)) ⟨rfl, by decide⟩ aN ⟨by first | (simp only [List.length_cons, List.length_nil]; omega) | omega | fail, by decide⟩ rfl aP ?_) | (refine x_app_ol _ aA rfl rfl rfl ⟨rfl, rfl, rfl, by decide, by decide⟩ (by first | rfl | (simp; done) | fail) ⟨by omega, by decide⟩ rfl aL (by first | (rw [Nat.zero_add]) | rfl) ?_)) | (refine x_buildSliceO aA rfl rfl rfl ?_) | (refine x_buildO _ _ aA rfl rfl (by simp [buildPV, PV.cells]; first | done | rfl) ?_) | (refine x_storeO _ _ _ rfl rfl aE (by first | assumption | (exact TAgg.size aA)) rfl rfl rfl aZ rfl aL (by first | (first | (simp only [lx, Nat.reduceAdd]; first | done | rfl) | fail) | rfl) ?_) | (refine x_nil (hK _ _ (.inl rfl) ?_); clear hK K) | (refine x_nil (hK _ _ (.inr (by kernel_rfl)) ?_); clear hK K))
      | (refine g_code ?_; first | (refine v_seq ?_) | (refine v_region (fun K hK => ?_)) | (refine v_block ?_) | (refine v_skip ?_) | (refine v_ret ?_) | (refine v_exit ?_) | (refine g_cond ?_; first | (refine v_cond_y rfl aD ?_) | (refine v_cond_n rfl aD ?_) | (refine v_condt rfl (fun h => ?_) (fun h => ?_) <;> (have h' := h; (try simp only [sx] at h')))))
      | (refine q_then ?_) | (refine q_then_r ?_) | (refine q_then_e ?_) | (refine q_blk_n ?_) | (refine q_blk_r ?_) | (refine q_blk_e ?_) | (refine q_blk_o rfl ?_) | (refine q_loop_r ?_) | (refine q_loop_e ?_) | (refine ret_n ?_))
            all_goals first
              | (exfalso; omega)
              | (refine RetPost.mono (fun r fin h => ⟨2 + p, b, c2, h, aft2.le aO, by omega, by omega⟩) ?_
                 (first | refine ret_TL rfl rfl rfl (by first | exact trivial | (repeat' (first | exact trivial | refine ⟨by assumption, ?_⟩))) (by repeat' (first | exact trivial | refine ⟨by simp, ?_⟩)) (by first | exact trivial | exact ⟨⟨rfl, rfl, fun h => by cases h⟩, trivial⟩) ?_ | refine ret_AL rfl rfl rfl (by first | exact trivial | (repeat' (first | exact trivial | refine ⟨by assumption, ?_⟩))) (by repeat' (first | exact trivial | refine ⟨by simp, ?_⟩)) (by first | exact trivial | exact ⟨⟨rfl, rfl, fun h => by cases h⟩, trivial⟩) ?_); (repeat' (first | exact et_end | exact el_end | refine et_int rfl ?_ ?_ | refine et_bool ?_ ?_ | refine et_str ?_ ?_ | refine et_lst rfl rfl ?_ ?_ | refine et_listA rfl (by rfl) (by decide) rfl rfl ?_ ?_ ?_ | refine et_nil ?_ ?_ | refine et_agg0 ?_ ?_ | refine et_agg ?_ ?_ | refine el_int rfl ?_ ?_ | refine el_bool ?_ ?_ | refine el_str ?_ ?_ | refine el_lst rfl rfl ?_ ?_ | refine el_listA rfl (by rfl) (by decide) rfl rfl ?_ ?_ ?_ | refine el_nil ?_ ?_)) <;> first | rfl | exact hes | (simp [hel]; done) | omega)
        · repeat' (first
      | (refine g_exec ?_; first | (refine g_move ?_; refine x_moveO _ rfl ?_) | (refine g_assign ?_; refine x_assignO _ rfl ?_) | (refine g_bin ?_; first | (refine x_add rfl rfl aO ?_) | (refine x_bin _ rfl rfl rfl ?_) | (refine x_boolEq aA rfl rfl ?_) | (refine x_strBin _ rfl rfl rfl ?_)) | (refine g_un ?_; first | (refine x_not rfl ?_) | (refine x_neg rfl aO ?_)) | (refine g_load ?_; first | (refine x_load_pc aA rfl ?_) | (refine x_load_oc _ aA rfl rfl aE rfl ?_) | (refine x_load_pa _ aA rfl aZ aL ?_) | (refine x_load_oa _ aA rfl rfl aE aZ aL ?_)) | (refine g_field ?_; first | (refine x_field_p _ aA rfl aL ?_) | (refine x_field_o _ aA rfl rfl (by simp only [lx, Nat.reduceAdd]; first | done | rfl) ?_)) | (refine g_index ?_; first | (refine x_index_l _ aA rfl rfl aO aA ?_) | (refine x_index_o _ aA rfl rfl rfl rfl aO aO (by first | (rw [Nat.zero_add, Int.toNat_natCast]) | (rw [Nat.zero_add]) | rfl) ?_)) | (refine g_pick ?_; first | (refine x_pick_b rfl aD rfl ?_) | (refine x_pick_c rfl aD ?_) | (refine x_pick_a rfl aD ?_) | (refine x_pick_d rfl aD rfl ?_)) | (refine g_guard ?_; first | (refine x_gyes rfl rfl aD ?_) | (refine x_gno rfl rfl aD ?_) | (refine x_gun rfl rfl ?_) | (refine x_gsplit rfl rfl (fun h => ?_) (fun h => ?_) <;> (have h' := h; (try simp only [sx] at h')))) | (refine g_call ?_; first | (refine x_callL [(io, 0)] (k2) rfl rfl (by (repeat' (first | exact trivial | refine ⟨⟨_, rfl, ?_⟩, ?_⟩ | exact .inl ⟨rfl, .inl rfl⟩ | exact .inr ⟨rfl, rfl, rfl, rfl, rfl, fun e he u hu => by (simp only [List.mem_cons, List.not_mem_nil, or_false] at he; subst he; simp only [List.mem_cons, List.not_mem_nil, or_false] at hu; subst hu; rfl)⟩ | exact .inl ⟨rfl, .inr (fun e he => by (simp only [List.mem_cons, List.not_mem_nil, or_false] at he; subst he; rfl))⟩ | fail)); first | done | fail) rfl rfl aS rfl aH rfl ?_; simp only [cl]) | (refine x_len_l aA rfl ?_) | (refine x_len_o aA rfl rfl ?_) | (refine x_len_n aA rfl ?_) | (refine x_len_s aA (evO_ok rfl) ?_) | (refine x_appOO _ _ aA rfl (lookM (by rfl)) rfl (lookM (by rfl)) rfl aN ⟨rfl, rfl, by decide, by decide⟩ (by first | rfl | omega | (simp; done) | (simp; omega) | fail) ⟨by first | (simp only [List.length_cons, List.length_nil]; omega) | omega | fail, by decide⟩ rfl (by first | (first | (simp only [lx, Nat.reduceAdd]; first | done | rfl) | fail) | rfl) aP ?_) | (refine x_appCO _ _ aA rfl rfl (lookM (by rfl)) ⟨rfl, by decide⟩ aN (by first | exact Nat.succ_pos _ | omega | (simp; done)) ⟨by first | (simp only [List.length_cons, List.length_nil]; omega) | omega | fail, by decide⟩ rfl rfl aP ?_) | (refine x_appNO _ aA rfl rfl (lookM (by rfl)) ⟨rfl, by decide⟩ aN ⟨by first | (simp only [List.length_cons, List.length_nil]; omega) | omega | fail, by decide⟩ rfl aP ?_) | (refine x_app_ol _ aA rfl rfl rfl ⟨rfl, rfl, rfl, by decide, by decide⟩ (by first | rfl | (simp; done) | fail) ⟨by omega, by decide⟩ rfl aL (by first | (rw [Nat.zero_add]) | rfl) ?_)) | (refine x_buildSliceO aA rfl rfl rfl ?_) | (refine x_buildO _ _ aA rfl rfl (by simp [buildPV, PV.cells]; first | done | rfl) ?_) | (refine x_storeO _ _ _ rfl rfl aE (by first | assumption | (exact TAgg.size aA)) rfl rfl rfl aZ rfl aL (by first | (first | (simp only [lx, Nat.reduceAdd]; first | done | rfl) | fail) | rfl) ?_) | (refine x_nil (hK _ _ (.inl rfl) ?_); clear hK K) | (refine x_nil (hK _ _ (.inr (by kernel_rfl)) ?_); clear hK K))
      | (refine g_code ?_; first | (refine v_seq ?_) | (refine v_region (fun K hK => ?_)) | (refine v_block ?_) | (refine v_skip ?_) | (refine v_ret ?_) | (refine v_exit ?_) | (refine g_cond ?_; first | (refine v_cond_y rfl aD ?_) | (refine v_cond_n rfl aD ?_) | (refine v_condt rfl (fun h => ?_) (fun h => ?_) <;> (have h' := h; (try simp only [sx] at h')))))
      | (refine q_then ?_) | (refine q_then_r ?_) | (refine q_then_e ?_) | (refine q_blk_n ?_) | (refine q_blk_r ?_) | (refine q_blk_e ?_) | (refine q_blk_o rfl ?_) | (refine q_loop_r ?_) | (refine q_loop_e ?_) | (refine ret_n ?_))
          all_goals first
            | (exfalso; omega)
            | (refine RetPost.mono (fun r fin h => ⟨2 + p, b, c2, h, aft2.le aO, by omega, by omega⟩) ?_
               (first | refine ret_TL rfl rfl rfl (by first | exact trivial | (repeat' (first | exact trivial | refine ⟨by assumption, ?_⟩))) (by repeat' (first | exact trivial | refine ⟨by simp, ?_⟩)) (by first | exact trivial | exact ⟨⟨rfl, rfl, fun h => by cases h⟩, trivial⟩) ?_ | refine ret_AL rfl rfl rfl (by first | exact trivial | (repeat' (first | exact trivial | refine ⟨by assumption, ?_⟩))) (by repeat' (first | exact trivial | refine ⟨by simp, ?_⟩)) (by first | exact trivial | exact ⟨⟨rfl, rfl, fun h => by cases h⟩, trivial⟩) ?_); (repeat' (first | exact et_end | exact el_end | refine et_int rfl ?_ ?_ | refine et_bool ?_ ?_ | refine et_str ?_ ?_ | refine et_lst rfl rfl ?_ ?_ | refine et_listA rfl (by rfl) (by decide) rfl rfl ?_ ?_ ?_ | refine et_nil ?_ ?_ | refine et_agg0 ?_ ?_ | refine et_agg ?_ ?_ | refine el_int rfl ?_ ?_ | refine el_bool ?_ ?_ | refine el_str ?_ ?_ | refine el_lst rfl rfl ?_ ?_ | refine el_listA rfl (by rfl) (by decide) rfl rfl ?_ ?_ ?_ | refine el_nil ?_ ?_)) <;> first | rfl | exact hes | (simp [hel]; done) | omega)
theorem k_networkZ (c : Cu) (hc : c.Ok) (hp : c.pos + 1000 ≤ 1152921504606846976) :
    ContractP Try.prog 39 true [.own (io, 0) 0 0] [cuRow c] (fun r' fin' => ∃ (n : Int) (rs : List Go.Vs.Road) (c' : Cu), (r' = .tuple [.int .i64 n, .list 4 (rs.map Go.Vs.Road.pv)] ∧ fin' = [[c'.pv]]) ∧ Aft c c' 1000 ∧ (1 ≤ n ∧ n ≤ 8) ∧ rs.length ≤ 13) := by
  refine ContractP.mono ?_ (ConL.frzP (k_network c hc hp) (by rintro r fin ⟨n, rs, c', ⟨rfl, rfl⟩, _⟩; rfl) (by intro row h; simp at h; subst h; rfl))
  rintro r fin ⟨r', rfl, n, rs, c', ⟨rfl, rfl⟩, h⟩
  exact ⟨n, rs, c', ⟨rfl, rfl⟩, h⟩
theorem k_groups (c : Cu) (n : Int) (hc : c.Ok) (hp : c.pos + 100 ≤ 1152921504606846976) (hn : 1 ≤ n ∧ n ≤ 8) :
    ContractP Try.prog 40 true [.own (io, 0) 0 0, .int .i64 n] [cuRow c] (fun r' fin' => ∃ (gs : List Go.Vs.Group) (c' : Cu), (r' = .olist 52 3 (gs.map Go.Vs.Group.pv) ∧ fin' = [[c'.pv]]) ∧ Aft c c' 100 ∧ 1 ≤ gs.length ∧ gs.length ≤ 5) := by
  obtain ⟨p, c1, k1, a1, g0, g1, _⟩ := k_pick c 4 hc aO aO
  have g1 := g1 aO
  have o1 := a1.ok hc aO
  have p1 := a1.pos
  refine contract_of hmix Try.func40 rfl (by kernel_rfl) (by kernel_rfl) (Nat.le_of_ble_eq_true rfl) (fun row h => by (simp only [List.mem_cons, List.not_mem_nil, or_false] at h; first | (subst h; (first | exact .inl rfl | exact .inr (fun e he u hu => by (simp only [List.mem_cons, List.not_mem_nil, or_false] at he; subst he; simp only [List.mem_cons, List.not_mem_nil, or_false] at hu; subst hu; rfl)))) | (rcases h with rfl | rfl <;> (first | exact .inl rfl | exact .inr (fun e he u hu => by (simp only [List.mem_cons, List.not_mem_nil, or_false] at he; subst he; simp only [List.mem_cons, List.not_mem_nil, or_false] at hu; subst hu; rfl)))) | (rcases h with rfl | rfl | rfl <;> (first | exact .inl rfl | exact .inr (fun e he u hu => by (simp only [List.mem_cons, List.not_mem_nil, or_false] at he; subst he; simp only [List.mem_cons, List.not_mem_nil, or_false] at hu; subst hu; rfl)))) | (rcases h with rfl | rfl | rfl | rfl <;> (first | exact .inl rfl | exact .inr (fun e he u hu => by (simp only [List.mem_cons, List.not_mem_nil, or_false] at he; subst he; simp only [List.mem_cons, List.not_mem_nil, or_false] at hu; subst hu; rfl)))))) ?_
  have hty_s25 := ty_s25
  have hty_s27 := ty_s27
  have hty_u27 := ty_u27
  have hty_st52 := ty_st52
  have hty_u25 := ty_u25
  have hty_t52 := ty_t52
  have hty_a52 := ty_a52
  repeat' (first
      | (refine g_exec ?_; first | (refine g_move ?_; refine x_moveO _ rfl ?_) | (refine g_assign ?_; refine x_assignO _ rfl ?_) | (refine g_bin ?_; first | (refine x_add rfl rfl aO ?_) | (refine x_sub rfl rfl aO ?_) | (refine x_bin _ rfl rfl rfl ?_) | (refine x_boolEq aA rfl rfl ?_) | (refine x_strBin _ rfl rfl rfl ?_)) | (refine g_index ?_; first | (refine x_index_l _ aA rfl rfl aO aA ?_) | (refine x_index_o _ aA rfl rfl rfl rfl aO aO (by first | (rw [Nat.zero_add, Int.toNat_natCast]) | (rw [Nat.zero_add]) | rfl) ?_)) | (refine g_call ?_; first | (refine x_callL [(io, 0)] (k1) rfl rfl (by (repeat' (first | exact trivial | refine ⟨⟨_, rfl, ?_⟩, ?_⟩ | exact .inl ⟨rfl, .inl rfl⟩ | exact .inr ⟨rfl, rfl, rfl, rfl, rfl, fun e he u hu => by (simp only [List.mem_cons, List.not_mem_nil, or_false] at he; subst he; simp only [List.mem_cons, List.not_mem_nil, or_false] at hu; subst hu; rfl)⟩ | exact .inl ⟨rfl, .inr (fun e he => by (simp only [List.mem_cons, List.not_mem_nil, or_false] at he; subst he; rfl))⟩ | fail)); first | done | fail) rfl rfl aS rfl aH rfl ?_; simp only [cl]) | (refine x_appOO _ _ aA rfl (lookM (by rfl)) rfl (lookM (by rfl)) rfl aN ⟨rfl, rfl, by decide, by decide⟩ (by first | rfl | omega | (simp; done) | (simp; omega) | fail) ⟨by first | (simp only [List.length_cons, List.length_nil]; omega) | omega | fail, by decide⟩ rfl (by first | (first | (simp only [lx, Nat.reduceAdd]; first | done | rfl) | fail) | rfl) aP ?_) | (refine x_appCO _ _ aA rfl rfl (lookM (by rfl)) ⟨rfl, by decide⟩ aN (by first | exact Nat.succ_pos _ | omega | (simp; done)) ⟨by first | (simp only [List.length_cons, List.length_nil]; omega) | omega | fail, by decide⟩ rfl rfl aP ?_) | (refine x_appNO _ aA rfl rfl (lookM (by rfl)) ⟨rfl, by decide⟩ aN ⟨by first | (simp only [List.length_cons, List.length_nil]; omega) | omega | fail, by decide⟩ rfl aP ?_) | (refine x_app_ol _ aA rfl rfl rfl ⟨rfl, rfl, rfl, by decide, by decide⟩ (by first | rfl | (simp; done) | fail) ⟨by omega, by decide⟩ rfl aL (by first | (rw [Nat.zero_add]) | rfl) ?_)) | (refine x_buildSliceO aA rfl rfl rfl ?_) | (refine x_buildO _ _ aA rfl rfl (by simp [buildPV, PV.cells]; first | done | rfl) ?_) | (refine x_storeO _ _ _ rfl rfl aE (by first | assumption | (exact TAgg.size aA)) rfl rfl rfl aZ rfl aL (by first | (first | (simp only [lx, Nat.reduceAdd]; first | done | rfl) | fail) | rfl) ?_) | (refine x_nil (hK _ _ (.inl rfl) ?_); clear hK K) | (refine x_nil (hK _ _ (.inr (by kernel_rfl)) ?_); clear hK K))
      | (refine g_code ?_; first | (refine v_seq ?_) | (refine v_region (fun K hK => ?_)) | (refine v_block ?_) | (refine v_skip ?_) | (refine v_ret ?_) | (refine v_exit ?_) | (refine g_cond ?_; first | (refine v_cond_y rfl aD ?_) | (refine v_cond_n rfl aD ?_) | (refine v_condt rfl (fun h => ?_) (fun h => ?_) <;> (have h' := h; (try simp only [sx] at h')))))
      | (refine q_then ?_) | (refine q_then_r ?_) | (refine q_then_e ?_) | (refine q_blk_n ?_) | (refine q_blk_r ?_) | (refine q_blk_e ?_) | (refine q_blk_o rfl ?_) | (refine q_loop_r ?_) | (refine q_loop_e ?_) | (refine ret_n ?_))
  all_goals try (exfalso; omega)
  refine v_loopK [0, 1] [(io, 0), (1001, 0)] (fun q : Cu × List (List PV) × Nat × Int => [(5, .osl (1001, 0) 0 q.2.2.1), (6, .int .i64 q.2.2.2)]) (fun q : Cu × List (List PV) × Nat × Int => [((io, 0), some (cuRow q.1)), ((1001, 0), some ⟨52, 3, q.2.1, false⟩)]) (fun q : Cu × List (List PV) × Nat × Int => Aft c1 q.1 (6 * q.2.2.1) ∧ ((q.2.2.1 : Int) ≤ 1 + p ∧ q.2.2.2 = 1 + p - q.2.2.1) ∧ ∃ b : List Go.Vs.Group, q.2.1 = b.map Go.Vs.Group.pv ∧ b.length = q.2.2.1) (fun q : Cu × List (List PV) × Nat × Int => q.2.2.2.toNat) ((c1, [], 0, 1 + p)) rfl rfl (fun _ => rfl) (fun _ => rfl) rfl (by refine ⟨?_, ?_, rfl, rfl⟩ <;> (repeat' (first | exact trivial | exact ⟨rfl, rfl⟩ | exact rfl | exact ⟨sub_fn, refs_fn⟩ | refine ⟨⟨rfl, rfl⟩, ?_⟩ | refine ⟨⟨sub_fn, refs_fn⟩, ?_⟩ | refine ⟨⟨rfl, fun h => Bool.noConfusion h⟩, ?_⟩ | refine ⟨⟨rfl, fun h => ?_⟩, ?_⟩ | refine ⟨rfl, ?_⟩ | refine ⟨?_, ?_⟩ | fail))) ⟨Aft.refl c1, ⟨by simp only; omega, by simp⟩, [], rfl, rfl⟩ (fun q hq => ?_)
  obtain ⟨d, es, m, v⟩ := q
  obtain ⟨ad, hm, b, hes, hlen⟩ := hq
  simp only at ad hm hes hlen
  dsimp only
  have hel : es.length = m := by rw [hes, List.length_map, hlen]
  have hme := hel.symm
  have od := ad.ok o1 aO
  have pd := ad.pos
  by_cases hlt : 0 < v
  · obtain ⟨x, c2, k2, a2, _⟩ := k_pick d n od aO aO
    have o2 := a2.ok od aO
    have p2 := a2.pos
    obtain ⟨y, c3, k3, a3, _⟩ := k_among c2 [1, 10, 20, 50, 100] o2 aO (by decide)
    have o3 := a3.ok o2 aO
    have p3 := a3.pos
    obtain ⟨w, c4, k4, a4, _⟩ := k_among c3 [0, 5, 10, 30] o3 aO (by decide)
    repeat' (first
      | (refine g_exec ?_; first | (refine g_move ?_; refine x_moveO _ rfl ?_) | (refine g_assign ?_; refine x_assignO _ rfl ?_) | (refine g_bin ?_; first | (refine x_add rfl rfl aO ?_) | (refine x_sub rfl rfl aO ?_) | (refine x_bin _ rfl rfl rfl ?_) | (refine x_boolEq aA rfl rfl ?_) | (refine x_strBin _ rfl rfl rfl ?_)) | (refine g_index ?_; first | (refine x_index_l _ aA rfl rfl aO aA ?_) | (refine x_index_o _ aA rfl rfl rfl rfl aO aO (by first | (rw [Nat.zero_add, Int.toNat_natCast]) | (rw [Nat.zero_add]) | rfl) ?_)) | (refine g_call ?_; first | (refine x_callL [(io, 0)] (k2) rfl rfl (by (repeat' (first | exact trivial | refine ⟨⟨_, rfl, ?_⟩, ?_⟩ | exact .inl ⟨rfl, .inl rfl⟩ | exact .inr ⟨rfl, rfl, rfl, rfl, rfl, fun e he u hu => by (simp only [List.mem_cons, List.not_mem_nil, or_false] at he; subst he; simp only [List.mem_cons, List.not_mem_nil, or_false] at hu; subst hu; rfl)⟩ | exact .inl ⟨rfl, .inr (fun e he => by (simp only [List.mem_cons, List.not_mem_nil, or_false] at he; subst he; rfl))⟩ | fail)); first | done | fail) rfl rfl aS rfl aH rfl ?_; simp only [cl]) | (refine x_callL [(io, 0)] (k3) rfl rfl (by (repeat' (first | exact trivial | refine ⟨⟨_, rfl, ?_⟩, ?_⟩ | exact .inl ⟨rfl, .inl rfl⟩ | exact .inr ⟨rfl, rfl, rfl, rfl, rfl, fun e he u hu => by (simp only [List.mem_cons, List.not_mem_nil, or_false] at he; subst he; simp only [List.mem_cons, List.not_mem_nil, or_false] at hu; subst hu; rfl)⟩ | exact .inl ⟨rfl, .inr (fun e he => by (simp only [List.mem_cons, List.not_mem_nil, or_false] at he; subst he; rfl))⟩ | fail)); first | done | fail) rfl rfl aS rfl aH rfl ?_; simp only [cl]) | (refine x_callL [(io, 0)] (k4) rfl rfl (by (repeat' (first | exact trivial | refine ⟨⟨_, rfl, ?_⟩, ?_⟩ | exact .inl ⟨rfl, .inl rfl⟩ | exact .inr ⟨rfl, rfl, rfl, rfl, rfl, fun e he u hu => by (simp only [List.mem_cons, List.not_mem_nil, or_false] at he; subst he; simp only [List.mem_cons, List.not_mem_nil, or_false] at hu; subst hu; rfl)⟩ | exact .inl ⟨rfl, .inr (fun e he => by (simp only [List.mem_cons, List.not_mem_nil, or_false] at he; subst he; rfl))⟩ | fail)); first | done | fail) rfl rfl aS rfl aH rfl ?_; simp only [cl]) | (refine x_appOO _ _ aA rfl (lookM (by rfl)) rfl (lookM (by rfl)) rfl aN ⟨rfl, rfl, by decide, by decide⟩ (by first | rfl | omega | (simp; done) | (simp; omega) | fail) ⟨by first | (simp only [List.length_cons, List.length_nil]; omega) | omega | fail, by decide⟩ rfl (by first | (first | (simp only [lx, Nat.reduceAdd]; first | done | rfl) | fail) | rfl) aP ?_) | (refine x_appCO _ _ aA rfl rfl (lookM (by rfl)) ⟨rfl, by decide⟩ aN (by first | exact Nat.succ_pos _ | omega | (simp; done)) ⟨by first | (simp only [List.length_cons, List.length_nil]; omega) | omega | fail, by decide⟩ rfl rfl aP ?_) | (refine x_appNO _ aA rfl rfl (lookM (by rfl)) ⟨rfl, by decide⟩ aN ⟨by first | (simp only [List.length_cons, List.length_nil]; omega) | omega | fail, by decide⟩ rfl aP ?_) | (refine x_app_ol _ aA rfl rfl rfl ⟨rfl, rfl, rfl, by decide, by decide⟩ (by first | rfl | (simp; done) | fail) ⟨by omega, by decide⟩ rfl aL (by first | (rw [Nat.zero_add]) | rfl) ?_)) | (refine x_buildSliceO aA rfl rfl rfl ?_) | (refine x_buildO _ _ aA rfl rfl (by simp [buildPV, PV.cells]; first | done | rfl) ?_) | (refine x_storeO _ _ _ rfl rfl aE (by first | assumption | (exact TAgg.size aA)) rfl rfl rfl aZ rfl aL (by first | (first | (simp only [lx, Nat.reduceAdd]; first | done | rfl) | fail) | rfl) ?_) | (refine x_nil (hK _ _ (.inl rfl) ?_); clear hK K) | (refine x_nil (hK _ _ (.inr (by kernel_rfl)) ?_); clear hK K))
      | (refine g_code ?_; first | (refine v_seq ?_) | (refine v_region (fun K hK => ?_)) | (refine v_block ?_) | (refine v_skip ?_) | (refine v_ret ?_) | (refine v_exit ?_) | (refine g_cond ?_; first | (refine v_cond_y rfl aD ?_) | (refine v_cond_n rfl aD ?_) | (refine v_condt rfl (fun h => ?_) (fun h => ?_) <;> (have h' := h; (try simp only [sx] at h')))))
      | (refine q_then ?_) | (refine q_then_r ?_) | (refine q_then_e ?_) | (refine q_blk_n ?_) | (refine q_blk_r ?_) | (refine q_blk_e ?_) | (refine q_blk_o rfl ?_) | (refine q_loop_r ?_) | (refine q_loop_e ?_) | (refine ret_n ?_))
    all_goals try (exfalso; omega)
    all_goals (refine q_next (c4, es ++ [[.int .i64 x, .int .i64 y, .int .i64 w]], m + 1, v - 1) rfl (by refine ⟨?_, ?_, rfl, rfl⟩ <;> (repeat' (first | exact trivial | exact ⟨rfl, rfl⟩ | exact rfl | exact ⟨sub_fn, refs_fn⟩ | refine ⟨⟨rfl, rfl⟩, ?_⟩ | refine ⟨⟨sub_fn, refs_fn⟩, ?_⟩ | refine ⟨⟨rfl, fun h => Bool.noConfusion h⟩, ?_⟩ | refine ⟨⟨rfl, fun h => ?_⟩, ?_⟩ | refine ⟨rfl, ?_⟩ | refine ⟨?_, ?_⟩ | fail))) ⟨(((ad.trans a2).trans a3).trans a4).le (by simp only; omega), by simp only; omega, b ++ [⟨x, y, w⟩], by simp [hes], by simp [hlen]⟩ (by simp only; omega))
  · obtain ⟨r, c2, k2, a2, _⟩ := k_pick d 32 od aO aO
    have o2 := a2.ok od aO
    have p2 := a2.pos
    have aft2 := (a1.trans ad).trans a2
    by_cases e0 : r = 0
    · obtain ⟨x, c3, k3, a3, _⟩ := k_among c2 [-1, n, 0] o2 aO (by simp)
      have o3 := a3.ok o2 aO
      have p3 := a3.pos
      obtain ⟨y, c4, k4, a4, _⟩ := k_among c3 [0, 100, 101] o3 aO (by decide)
      repeat' (first
      | (refine g_exec ?_; first | (refine g_move ?_; refine x_moveO _ rfl ?_) | (refine g_assign ?_; refine x_assignO _ rfl ?_) | (refine g_bin ?_; first | (refine x_add rfl rfl aO ?_) | (refine x_sub rfl rfl aO ?_) | (refine x_bin _ rfl rfl rfl ?_) | (refine x_boolEq aA rfl rfl ?_) | (refine x_strBin _ rfl rfl rfl ?_)) | (refine g_index ?_; first | (refine x_index_l _ aA rfl rfl aO aA ?_) | (refine x_index_o _ aA rfl rfl rfl rfl aO aO (by first | (rw [Nat.zero_add, Int.toNat_natCast]) | (rw [Nat.zero_add]) | rfl) ?_)) | (refine g_call ?_; first | (refine x_callL [(io, 0)] (k2) rfl rfl (by (repeat' (first | exact trivial | refine ⟨⟨_, rfl, ?_⟩, ?_⟩ | exact .inl ⟨rfl, .inl rfl⟩ | exact .inr ⟨rfl, rfl, rfl, rfl, rfl, fun e he u hu => by (simp only [List.mem_cons, List.not_mem_nil, or_false] at he; subst he; simp only [List.mem_cons, List.not_mem_nil, or_false] at hu; subst hu; rfl)⟩ | exact .inl ⟨rfl, .inr (fun e he => by (simp only [List.mem_cons, List.not_mem_nil, or_false] at he; subst he; rfl))⟩ | fail)); first | done | fail) rfl rfl aS rfl aH rfl ?_; simp only [cl]) | (refine x_callL [(io, 0)] (k3) rfl rfl (by (repeat' (first | exact trivial | refine ⟨⟨_, rfl, ?_⟩, ?_⟩ | exact .inl ⟨rfl, .inl rfl⟩ | exact .inr ⟨rfl, rfl, rfl, rfl, rfl, fun e he u hu => by (simp only [List.mem_cons, List.not_mem_nil, or_false] at he; subst he; simp only [List.mem_cons, List.not_mem_nil, or_false] at hu; subst hu; rfl)⟩ | exact .inl ⟨rfl, .inr (fun e he => by (simp only [List.mem_cons, List.not_mem_nil, or_false] at he; subst he; rfl))⟩ | fail)); first | done | fail) rfl rfl aS rfl aH rfl ?_; simp only [cl]) | (refine x_callL [(io, 0)] (k4) rfl rfl (by (repeat' (first | exact trivial | refine ⟨⟨_, rfl, ?_⟩, ?_⟩ | exact .inl ⟨rfl, .inl rfl⟩ | exact .inr ⟨rfl, rfl, rfl, rfl, rfl, fun e he u hu => by (simp only [List.mem_cons, List.not_mem_nil, or_false] at he; subst he; simp only [List.mem_cons, List.not_mem_nil, or_false] at hu; subst hu; rfl)⟩ | exact .inl ⟨rfl, .inr (fun e he => by (simp only [List.mem_cons, List.not_mem_nil, or_false] at he; subst he; rfl))⟩ | fail)); first | done | fail) rfl rfl aS rfl aH rfl ?_; simp only [cl]) | (refine x_appOO _ _ aA rfl (lookM (by rfl)) rfl (lookM (by rfl)) rfl aN ⟨rfl, rfl, by decide, by decide⟩ (by first | rfl | omega | (simp; done) | (simp; omega) | fail) ⟨by first | (simp only [List.length_cons, List.length_nil]; omega) | omega | fail, by decide⟩ rfl (by first | (first | (simp only [lx, Nat.reduceAdd]; first | done | rfl) | fail) | rfl) aP ?_) | (refine x_appCO _ _ aA rfl rfl (lookM (by rfl)) ⟨rfl, by decide⟩ aN (by first | exact Nat.succ_pos _ | omega | (simp; done)) ⟨by first | (simp only [List.length_cons, List.length_nil]; omega) | omega | fail, by decide⟩ rfl rfl aP ?_) | (refine x_appNO _ aA rfl rfl (lookM (by rfl)) ⟨rfl, by decide⟩ aN ⟨by first | (simp only [List.length_cons, List.length_nil]; omega) | omega | fail, by decide⟩ rfl aP ?_) | (refine x_app_ol _ aA rfl rfl rfl ⟨rfl, rfl, rfl, by decide, by decide⟩ (by first | rfl | (simp; done) | fail) ⟨by omega, by decide⟩ rfl aL (by first | (rw [Nat.zero_add]) | rfl) ?_)) | (refine x_buildSliceO aA rfl rfl rfl ?_) | (refine x_buildO _ _ aA rfl rfl (by simp [buildPV, PV.cells]; first | done | rfl) ?_) | (refine x_storeO _ _ _ rfl rfl aE (by first | assumption | (exact TAgg.size aA)) rfl rfl rfl aZ rfl aL (by first | (first | (simp only [lx, Nat.reduceAdd]; first | done | rfl) | fail) | rfl) ?_) | (refine x_nil (hK _ _ (.inl rfl) ?_); clear hK K) | (refine x_nil (hK _ _ (.inr (by kernel_rfl)) ?_); clear hK K))
      | (refine g_code ?_; first | (refine v_seq ?_) | (refine v_region (fun K hK => ?_)) | (refine v_block ?_) | (refine v_skip ?_) | (refine v_ret ?_) | (refine v_exit ?_) | (refine g_cond ?_; first | (refine v_cond_y rfl aD ?_) | (refine v_cond_n rfl aD ?_) | (refine v_condt rfl (fun h => ?_) (fun h => ?_) <;> (have h' := h; (try simp only [sx] at h')))))
      | (refine q_then ?_) | (refine q_then_r ?_) | (refine q_then_e ?_) | (refine q_blk_n ?_) | (refine q_blk_r ?_) | (refine q_blk_e ?_) | (refine q_blk_o rfl ?_) | (refine q_loop_r ?_) | (refine q_loop_e ?_) | (refine ret_n ?_))
      all_goals first
        | (exfalso; omega)
        | (refine RetPost.mono (fun r fin h => ⟨b ++ [⟨x, y, 5⟩], c4, h, ((aft2.trans a3).trans a4).le aO, by simp, by simp; omega⟩) ?_
           exact ret_lL rfl rfl rfl (by decide) ⟨⟨rfl, rfl, fun h => by cases h⟩, trivial⟩ rfl rfl (by simp [hel]) (by simp [hes]))
    · by_cases e1 : r = 1
      · obtain ⟨x, c3, k3, a3, _⟩ := k_among c2 [-1, 999, 1000] o2 aO (by decide)
        obtain ⟨w, hw⟩ := get_ex (show 0 < b.length by omega)
        have hw2 : es[0]? = some w.pv := by rw [hes]; exact Group.at hw
        have e : es.set 0 [.int .i64 0, .int .i64 5, .int .i64 x] = (b.set 0 ⟨0, 5, x⟩).map Go.Vs.Group.pv := by rw [hes, List.map_set]
        repeat' (first
      | (refine g_exec ?_; first | (refine g_move ?_; refine x_moveO _ rfl ?_) | (refine g_assign ?_; refine x_assignO _ rfl ?_) | (refine g_bin ?_; first | (refine x_add rfl rfl aO ?_) | (refine x_sub rfl rfl aO ?_) | (refine x_bin _ rfl rfl rfl ?_) | (refine x_boolEq aA rfl rfl ?_) | (refine x_strBin _ rfl rfl rfl ?_)) | (refine g_index ?_; first | (refine x_index_l _ aA rfl rfl aO aA ?_) | (refine x_index_o _ aA rfl rfl rfl rfl aO aO (by first | (rw [Nat.zero_add, Int.toNat_natCast]) | (rw [Nat.zero_add]) | rfl) ?_)) | (refine g_call ?_; first | (refine x_callL [(io, 0)] (k2) rfl rfl (by (repeat' (first | exact trivial | refine ⟨⟨_, rfl, ?_⟩, ?_⟩ | exact .inl ⟨rfl, .inl rfl⟩ | exact .inr ⟨rfl, rfl, rfl, rfl, rfl, fun e he u hu => by (simp only [List.mem_cons, List.not_mem_nil, or_false] at he; subst he; simp only [List.mem_cons, List.not_mem_nil, or_false] at hu; subst hu; rfl)⟩ | exact .inl ⟨rfl, .inr (fun e he => by (simp only [List.mem_cons, List.not_mem_nil, or_false] at he; subst he; rfl))⟩ | fail)); first | done | fail) rfl rfl aS rfl aH rfl ?_; simp only [cl]) | (refine x_callL [(io, 0)] (k3) rfl rfl (by (repeat' (first | exact trivial | refine ⟨⟨_, rfl, ?_⟩, ?_⟩ | exact .inl ⟨rfl, .inl rfl⟩ | exact .inr ⟨rfl, rfl, rfl, rfl, rfl, fun e he u hu => by (simp only [List.mem_cons, List.not_mem_nil, or_false] at he; subst he; simp only [List.mem_cons, List.not_mem_nil, or_false] at hu; subst hu; rfl)⟩ | exact .inl ⟨rfl, .inr (fun e he => by (simp only [List.mem_cons, List.not_mem_nil, or_false] at he; subst he; rfl))⟩ | fail)); first | done | fail) rfl rfl aS rfl aH rfl ?_; simp only [cl]) | (refine x_appOO _ _ aA rfl (lookM (by rfl)) rfl (lookM (by rfl)) rfl aN ⟨rfl, rfl, by decide, by decide⟩ (by first | rfl | omega | (simp; done) | (simp; omega) | fail) ⟨by first | (simp only [List.length_cons, List.length_nil]; omega) | omega | fail, by decide⟩ rfl (by first | (first | (simp only [lx, Nat.reduceAdd]; first | done | rfl) | fail) | rfl) aP ?_) | (refine x_appCO _ _ aA rfl rfl (lookM (by rfl)) ⟨rfl, by decide⟩ aN (by first | exact Nat.succ_pos _ | omega | (simp; done)) ⟨by first | (simp only [List.length_cons, List.length_nil]; omega) | omega | fail, by decide⟩ rfl rfl aP ?_) | (refine x_appNO _ aA rfl rfl (lookM (by rfl)) ⟨rfl, by decide⟩ aN ⟨by first | (simp only [List.length_cons, List.length_nil]; omega) | omega | fail, by decide⟩ rfl aP ?_) | (refine x_app_ol _ aA rfl rfl rfl ⟨rfl, rfl, rfl, by decide, by decide⟩ (by first | rfl | (simp; done) | fail) ⟨by omega, by decide⟩ rfl aL (by first | (rw [Nat.zero_add]) | rfl) ?_)) | (refine x_buildSliceO aA rfl rfl rfl ?_) | (refine x_buildO _ _ aA rfl rfl (by simp [buildPV, PV.cells]; first | done | rfl) ?_) | (refine x_storeO _ _ _ rfl rfl aE (by first | assumption | (exact TAgg.size aA)) rfl rfl rfl aZ rfl aL (by first | (first | (simp only [lx, Nat.reduceAdd]; first | done | rfl) | fail) | rfl) ?_) | (refine x_nil (hK _ _ (.inl rfl) ?_); clear hK K) | (refine x_nil (hK _ _ (.inr (by kernel_rfl)) ?_); clear hK K))
      | (refine g_code ?_; first | (refine v_seq ?_) | (refine v_region (fun K hK => ?_)) | (refine v_block ?_) | (refine v_skip ?_) | (refine v_ret ?_) | (refine v_exit ?_) | (refine g_cond ?_; first | (refine v_cond_y rfl aD ?_) | (refine v_cond_n rfl aD ?_) | (refine v_condt rfl (fun h => ?_) (fun h => ?_) <;> (have h' := h; (try simp only [sx] at h')))))
      | (refine q_then ?_) | (refine q_then_r ?_) | (refine q_then_e ?_) | (refine q_blk_n ?_) | (refine q_blk_r ?_) | (refine q_blk_e ?_) | (refine q_blk_o rfl ?_) | (refine q_loop_r ?_) | (refine q_loop_e ?_) | (refine ret_n ?_))
        all_goals first
          | (exfalso; omega)
          | (refine RetPost.mono (fun r fin h => ⟨b.set 0 ⟨0, 5, x⟩, c3, h, (aft2.trans a3).le aO, by simp; omega, by simp; omega⟩) ?_
             exact ret_lL rfl rfl rfl (by decide) ⟨⟨rfl, rfl, fun h => by cases h⟩, trivial⟩ rfl rfl (by simp [hel]) e)
      · repeat' (first
      | (refine g_exec ?_; first | (refine g_move ?_; refine x_moveO _ rfl ?_) | (refine g_assign ?_; refine x_assignO _ rfl ?_) | (refine g_bin ?_; first | (refine x_add rfl rfl aO ?_) | (refine x_sub rfl rfl aO ?_) | (refine x_bin _ rfl rfl rfl ?_) | (refine x_boolEq aA rfl rfl ?_) | (refine x_strBin _ rfl rfl rfl ?_)) | (refine g_index ?_; first | (refine x_index_l _ aA rfl rfl aO aA ?_) | (refine x_index_o _ aA rfl rfl rfl rfl aO aO (by first | (rw [Nat.zero_add, Int.toNat_natCast]) | (rw [Nat.zero_add]) | rfl) ?_)) | (refine g_call ?_; first | (refine x_callL [(io, 0)] (k2) rfl rfl (by (repeat' (first | exact trivial | refine ⟨⟨_, rfl, ?_⟩, ?_⟩ | exact .inl ⟨rfl, .inl rfl⟩ | exact .inr ⟨rfl, rfl, rfl, rfl, rfl, fun e he u hu => by (simp only [List.mem_cons, List.not_mem_nil, or_false] at he; subst he; simp only [List.mem_cons, List.not_mem_nil, or_false] at hu; subst hu; rfl)⟩ | exact .inl ⟨rfl, .inr (fun e he => by (simp only [List.mem_cons, List.not_mem_nil, or_false] at he; subst he; rfl))⟩ | fail)); first | done | fail) rfl rfl aS rfl aH rfl ?_; simp only [cl]) | (refine x_appOO _ _ aA rfl (lookM (by rfl)) rfl (lookM (by rfl)) rfl aN ⟨rfl, rfl, by decide, by decide⟩ (by first | rfl | omega | (simp; done) | (simp; omega) | fail) ⟨by first | (simp only [List.length_cons, List.length_nil]; omega) | omega | fail, by decide⟩ rfl (by first | (first | (simp only [lx, Nat.reduceAdd]; first | done | rfl) | fail) | rfl) aP ?_) | (refine x_appCO _ _ aA rfl rfl (lookM (by rfl)) ⟨rfl, by decide⟩ aN (by first | exact Nat.succ_pos _ | omega | (simp; done)) ⟨by first | (simp only [List.length_cons, List.length_nil]; omega) | omega | fail, by decide⟩ rfl rfl aP ?_) | (refine x_appNO _ aA rfl rfl (lookM (by rfl)) ⟨rfl, by decide⟩ aN ⟨by first | (simp only [List.length_cons, List.length_nil]; omega) | omega | fail, by decide⟩ rfl aP ?_) | (refine x_app_ol _ aA rfl rfl rfl ⟨rfl, rfl, rfl, by decide, by decide⟩ (by first | rfl | (simp; done) | fail) ⟨by omega, by decide⟩ rfl aL (by first | (rw [Nat.zero_add]) | rfl) ?_)) | (refine x_buildSliceO aA rfl rfl rfl ?_) | (refine x_buildO _ _ aA rfl rfl (by simp [buildPV, PV.cells]; first | done | rfl) ?_) | (refine x_storeO _ _ _ rfl rfl aE (by first | assumption | (exact TAgg.size aA)) rfl rfl rfl aZ rfl aL (by first | (first | (simp only [lx, Nat.reduceAdd]; first | done | rfl) | fail) | rfl) ?_) | (refine x_nil (hK _ _ (.inl rfl) ?_); clear hK K) | (refine x_nil (hK _ _ (.inr (by kernel_rfl)) ?_); clear hK K))
      | (refine g_code ?_; first | (refine v_seq ?_) | (refine v_region (fun K hK => ?_)) | (refine v_block ?_) | (refine v_skip ?_) | (refine v_ret ?_) | (refine v_exit ?_) | (refine g_cond ?_; first | (refine v_cond_y rfl aD ?_) | (refine v_cond_n rfl aD ?_) | (refine v_condt rfl (fun h => ?_) (fun h => ?_) <;> (have h' := h; (try simp only [sx] at h')))))
      | (refine q_then ?_) | (refine q_then_r ?_) | (refine q_then_e ?_) | (refine q_blk_n ?_) | (refine q_blk_r ?_) | (refine q_blk_e ?_) | (refine q_blk_o rfl ?_) | (refine q_loop_r ?_) | (refine q_loop_e ?_) | (refine ret_n ?_))
        all_goals first
          | (exfalso; omega)
          | (refine RetPost.mono (fun r fin h => ⟨b, c2, h, aft2.le aO, by omega, by omega⟩) ?_
             exact ret_lL rfl rfl rfl (by decide) ⟨⟨rfl, rfl, fun h => by cases h⟩, trivial⟩ rfl rfl hme hes)
theorem k_groupsZ (c : Cu) (n : Int) (hc : c.Ok) (hp : c.pos + 100 ≤ 1152921504606846976) (hn : 1 ≤ n ∧ n ≤ 8) :
    ContractP Try.prog 40 true [.own (io, 0) 0 0, .int .i64 n] [cuRow c] (fun r' fin' => ∃ (gs : List Go.Vs.Group) (c' : Cu), (r' = .list 3 (gs.map Go.Vs.Group.pv) ∧ fin' = [[c'.pv]]) ∧ Aft c c' 100 ∧ 1 ≤ gs.length ∧ gs.length ≤ 5) := by
  refine ContractP.mono ?_ (ConL.frzP (k_groups c n hc hp hn) (by rintro r fin ⟨rs, c', ⟨rfl, rfl⟩, _⟩; rfl) (by intro row h; simp at h; subst h; rfl))
  rintro r fin ⟨r', rfl, rs, c', ⟨rfl, rfl⟩, h⟩
  exact ⟨rs, c', ⟨rfl, rfl⟩, h⟩
theorem k_shelters (c : Cu) (n : Int) (hc : c.Ok) (hp : c.pos + 100 ≤ 1152921504606846976) (hn : 1 ≤ n ∧ n ≤ 8) :
    ContractP Try.prog 41 true [.own (io, 0) 0 0, .int .i64 n] [cuRow c] (fun r' fin' => ∃ (ss : List Go.Vs.Shelter) (c' : Cu), (r' = .olist 36 2 (ss.map Go.Vs.Shelter.pv) ∧ fin' = [[c'.pv]]) ∧ Aft c c' 100 ∧ ss.length ≤ 4) := by
  refine contract_of hmix Try.func41 rfl (by kernel_rfl) (by kernel_rfl) (Nat.le_of_ble_eq_true rfl) (fun row h => by (simp only [List.mem_cons, List.not_mem_nil, or_false] at h; first | (subst h; (first | exact .inl rfl | exact .inr (fun e he u hu => by (simp only [List.mem_cons, List.not_mem_nil, or_false] at he; subst he; simp only [List.mem_cons, List.not_mem_nil, or_false] at hu; subst hu; rfl)))) | (rcases h with rfl | rfl <;> (first | exact .inl rfl | exact .inr (fun e he u hu => by (simp only [List.mem_cons, List.not_mem_nil, or_false] at he; subst he; simp only [List.mem_cons, List.not_mem_nil, or_false] at hu; subst hu; rfl)))) | (rcases h with rfl | rfl | rfl <;> (first | exact .inl rfl | exact .inr (fun e he u hu => by (simp only [List.mem_cons, List.not_mem_nil, or_false] at he; subst he; simp only [List.mem_cons, List.not_mem_nil, or_false] at hu; subst hu; rfl)))) | (rcases h with rfl | rfl | rfl | rfl <;> (first | exact .inl rfl | exact .inr (fun e he u hu => by (simp only [List.mem_cons, List.not_mem_nil, or_false] at he; subst he; simp only [List.mem_cons, List.not_mem_nil, or_false] at hu; subst hu; rfl)))))) ?_
  have hty_s26 := ty_s26
  have hty_u26 := ty_u26
  have hty_s27 := ty_s27
  have hty_u27 := ty_u27
  have hty_st36 := ty_st36
  repeat' (first
      | (refine g_exec ?_; first | (refine g_move ?_; refine x_moveO _ rfl ?_) | (refine g_assign ?_; refine x_assignO _ rfl ?_) | (refine g_bin ?_; first | (refine x_add rfl rfl aO ?_) | (refine x_sub rfl rfl aO ?_) | (refine x_bin _ rfl rfl rfl ?_) | (refine x_boolEq aA rfl rfl ?_) | (refine x_strBin _ rfl rfl rfl ?_)) | (refine g_pick ?_; first | (refine x_pick_b rfl aD rfl ?_) | (refine x_pick_c rfl aD ?_) | (refine x_pick_a rfl aD ?_) | (refine x_pick_d rfl aD rfl ?_)) | (refine g_guard ?_; first | (refine x_gyes rfl rfl aD ?_) | (refine x_gno rfl rfl aD ?_) | (refine x_gun rfl rfl ?_) | (refine x_gsplit rfl rfl (fun h => ?_) (fun h => ?_) <;> (have h' := h; (try simp only [sx] at h')))) | (refine g_call ?_; first | (refine x_len_l aA rfl ?_) | (refine x_len_o aA rfl rfl ?_) | (refine x_len_n aA rfl ?_) | (refine x_len_s aA (evO_ok rfl) ?_) | (refine x_appOO _ _ aA rfl (lookM (by rfl)) rfl (lookM (by rfl)) rfl aN ⟨rfl, rfl, by decide, by decide⟩ (by first | rfl | omega | (simp; done) | (simp; omega) | fail) ⟨by first | (simp only [List.length_cons, List.length_nil]; omega) | omega | fail, by decide⟩ rfl (by first | (first | (simp only [lx, Nat.reduceAdd]; first | done | rfl) | fail) | rfl) aP ?_) | (refine x_appCO _ _ aA rfl rfl (lookM (by rfl)) ⟨rfl, by decide⟩ aN (by first | exact Nat.succ_pos _ | omega | (simp; done)) ⟨by first | (simp only [List.length_cons, List.length_nil]; omega) | omega | fail, by decide⟩ rfl rfl aP ?_) | (refine x_appNO _ aA rfl rfl (lookM (by rfl)) ⟨rfl, by decide⟩ aN ⟨by first | (simp only [List.length_cons, List.length_nil]; omega) | omega | fail, by decide⟩ rfl aP ?_) | (refine x_app_ol _ aA rfl rfl rfl ⟨rfl, rfl, rfl, by decide, by decide⟩ (by first | rfl | (simp; done) | fail) ⟨by omega, by decide⟩ rfl aL (by first | (rw [Nat.zero_add]) | rfl) ?_)) | (refine x_buildSliceO aA rfl rfl rfl ?_) | (refine x_buildO _ _ aA rfl rfl (by simp [buildPV, PV.cells]; first | done | rfl) ?_) | (refine x_nil (hK _ _ (.inl rfl) ?_); clear hK K) | (refine x_nil (hK _ _ (.inr (by kernel_rfl)) ?_); clear hK K))
      | (refine g_code ?_; first | (refine v_seq ?_) | (refine v_region (fun K hK => ?_)) | (refine v_block ?_) | (refine v_skip ?_) | (refine v_ret ?_) | (refine v_exit ?_) | (refine g_cond ?_; first | (refine v_cond_y rfl aD ?_) | (refine v_cond_n rfl aD ?_) | (refine v_condt rfl (fun h => ?_) (fun h => ?_) <;> (have h' := h; (try simp only [sx] at h')))))
      | (refine q_then ?_) | (refine q_then_r ?_) | (refine q_then_e ?_) | (refine q_blk_n ?_) | (refine q_blk_r ?_) | (refine q_blk_e ?_) | (refine q_blk_o rfl ?_) | (refine q_loop_r ?_) | (refine q_loop_e ?_) | (refine ret_n ?_))
  all_goals try (exfalso; omega)
  refine v_loopK [0, 1] [(io, 0), (1001, 0)] (fun q : Cu × List (List PV) × Nat × Nat => [(5, .osl (1001, 0) 0 q.2.2.1), (6, .int .i64 q.2.2.2)]) (fun q : Cu × List (List PV) × Nat × Nat => [((io, 0), some (cuRow q.1)), ((1001, 0), some ⟨36, 2, q.2.1, false⟩)]) (fun q : Cu × List (List PV) × Nat × Nat => Aft c q.1 (4 * q.2.2.2) ∧ ((q.2.2.2 : Int) ≤ n ∧ q.2.2.1 ≤ 3) ∧ ∃ b : List Go.Vs.Shelter, q.2.1 = b.map Go.Vs.Shelter.pv ∧ b.length = q.2.2.1) (fun q : Cu × List (List PV) × Nat × Nat => (n - q.2.2.2).toNat) ((c, [], 0, 0)) rfl rfl (fun _ => rfl) (fun _ => rfl) rfl (by refine ⟨?_, ?_, rfl, rfl⟩ <;> (repeat' (first | exact trivial | exact ⟨rfl, rfl⟩ | exact rfl | exact ⟨sub_fn, refs_fn⟩ | refine ⟨⟨rfl, rfl⟩, ?_⟩ | refine ⟨⟨sub_fn, refs_fn⟩, ?_⟩ | refine ⟨⟨rfl, fun h => Bool.noConfusion h⟩, ?_⟩ | refine ⟨⟨rfl, fun h => ?_⟩, ?_⟩ | refine ⟨rfl, ?_⟩ | refine ⟨?_, ?_⟩ | fail))) ⟨Aft.refl c, ⟨by simp only; omega, by simp⟩, [], rfl, rfl⟩ (fun q hq => ?_)
  obtain ⟨d, es, m, i⟩ := q
  obtain ⟨ad, hm, b, hes, hlen⟩ := hq
  simp only at ad hm hes hlen
  dsimp only
  have hel : es.length = m := by rw [hes, List.length_map, hlen]
  have hme := hel.symm
  have od := ad.ok hc aO
  have pd := ad.pos
  by_cases hlt : (i : Int) < n
  · obtain ⟨y, c2, k2, a2⟩ := k_one d 3 od aO aO
    have o2 := a2.ok od aO
    have p2 := a2.pos
    cases y
    · repeat' (first
      | (refine g_exec ?_; first | (refine g_move ?_; refine x_moveO _ rfl ?_) | (refine g_assign ?_; refine x_assignO _ rfl ?_) | (refine g_bin ?_; first | (refine x_add rfl rfl aO ?_) | (refine x_sub rfl rfl aO ?_) | (refine x_bin _ rfl rfl rfl ?_) | (refine x_boolEq aA rfl rfl ?_) | (refine x_strBin _ rfl rfl rfl ?_)) | (refine g_pick ?_; first | (refine x_pick_b rfl aD rfl ?_) | (refine x_pick_c rfl aD ?_) | (refine x_pick_a rfl aD ?_) | (refine x_pick_d rfl aD rfl ?_)) | (refine g_guard ?_; first | (refine x_gyes rfl rfl aD ?_) | (refine x_gno rfl rfl aD ?_) | (refine x_gun rfl rfl ?_) | (refine x_gsplit rfl rfl (fun h => ?_) (fun h => ?_) <;> (have h' := h; (try simp only [sx] at h')))) | (refine g_call ?_; first | (refine x_callL [(io, 0)] (k2) rfl rfl (by (repeat' (first | exact trivial | refine ⟨⟨_, rfl, ?_⟩, ?_⟩ | exact .inl ⟨rfl, .inl rfl⟩ | exact .inr ⟨rfl, rfl, rfl, rfl, rfl, fun e he u hu => by (simp only [List.mem_cons, List.not_mem_nil, or_false] at he; subst he; simp only [List.mem_cons, List.not_mem_nil, or_false] at hu; subst hu; rfl)⟩ | exact .inl ⟨rfl, .inr (fun e he => by (simp only [List.mem_cons, List.not_mem_nil, or_false] at he; subst he; rfl))⟩ | fail)); first | done | fail) rfl rfl aS rfl aH rfl ?_; simp only [cl]) | (refine x_len_l aA rfl ?_) | (refine x_len_o aA rfl rfl ?_) | (refine x_len_n aA rfl ?_) | (refine x_len_s aA (evO_ok rfl) ?_) | (refine x_appOO _ _ aA rfl (lookM (by rfl)) rfl (lookM (by rfl)) rfl aN ⟨rfl, rfl, by decide, by decide⟩ (by first | rfl | omega | (simp; done) | (simp; omega) | fail) ⟨by first | (simp only [List.length_cons, List.length_nil]; omega) | omega | fail, by decide⟩ rfl (by first | (first | (simp only [lx, Nat.reduceAdd]; first | done | rfl) | fail) | rfl) aP ?_) | (refine x_appCO _ _ aA rfl rfl (lookM (by rfl)) ⟨rfl, by decide⟩ aN (by first | exact Nat.succ_pos _ | omega | (simp; done)) ⟨by first | (simp only [List.length_cons, List.length_nil]; omega) | omega | fail, by decide⟩ rfl rfl aP ?_) | (refine x_appNO _ aA rfl rfl (lookM (by rfl)) ⟨rfl, by decide⟩ aN ⟨by first | (simp only [List.length_cons, List.length_nil]; omega) | omega | fail, by decide⟩ rfl aP ?_) | (refine x_app_ol _ aA rfl rfl rfl ⟨rfl, rfl, rfl, by decide, by decide⟩ (by first | rfl | (simp; done) | fail) ⟨by omega, by decide⟩ rfl aL (by first | (rw [Nat.zero_add]) | rfl) ?_)) | (refine x_buildSliceO aA rfl rfl rfl ?_) | (refine x_buildO _ _ aA rfl rfl (by simp [buildPV, PV.cells]; first | done | rfl) ?_) | (refine x_nil (hK _ _ (.inl rfl) ?_); clear hK K) | (refine x_nil (hK _ _ (.inr (by kernel_rfl)) ?_); clear hK K))
      | (refine g_code ?_; first | (refine v_seq ?_) | (refine v_region (fun K hK => ?_)) | (refine v_block ?_) | (refine v_skip ?_) | (refine v_ret ?_) | (refine v_exit ?_) | (refine g_cond ?_; first | (refine v_cond_y rfl aD ?_) | (refine v_cond_n rfl aD ?_) | (refine v_condt rfl (fun h => ?_) (fun h => ?_) <;> (have h' := h; (try simp only [sx] at h')))))
      | (refine q_then ?_) | (refine q_then_r ?_) | (refine q_then_e ?_) | (refine q_blk_n ?_) | (refine q_blk_r ?_) | (refine q_blk_e ?_) | (refine q_blk_o rfl ?_) | (refine q_loop_r ?_) | (refine q_loop_e ?_) | (refine ret_n ?_))
      all_goals try (exfalso; omega)
      all_goals (refine q_next (c2, es, m, i + 1) rfl (by refine ⟨?_, ?_, rfl, rfl⟩ <;> (repeat' (first | exact trivial | exact ⟨rfl, rfl⟩ | exact rfl | exact ⟨sub_fn, refs_fn⟩ | refine ⟨⟨rfl, rfl⟩, ?_⟩ | refine ⟨⟨sub_fn, refs_fn⟩, ?_⟩ | refine ⟨⟨rfl, fun h => Bool.noConfusion h⟩, ?_⟩ | refine ⟨⟨rfl, fun h => ?_⟩, ?_⟩ | refine ⟨rfl, ?_⟩ | refine ⟨?_, ?_⟩ | fail))) ⟨(ad.trans a2).le (by simp only; omega), by simp only; omega, b, hes, hlen⟩ (by simp only; omega))
    · by_cases h3 : m < 3
      · obtain ⟨x, c3, k3, a3, _⟩ := k_among c2 [0, 20, 60, 100, 400] o2 aO (by decide)
        repeat' (first
      | (refine g_exec ?_; first | (refine g_move ?_; refine x_moveO _ rfl ?_) | (refine g_assign ?_; refine x_assignO _ rfl ?_) | (refine g_bin ?_; first | (refine x_add rfl rfl aO ?_) | (refine x_sub rfl rfl aO ?_) | (refine x_bin _ rfl rfl rfl ?_) | (refine x_boolEq aA rfl rfl ?_) | (refine x_strBin _ rfl rfl rfl ?_)) | (refine g_pick ?_; first | (refine x_pick_b rfl aD rfl ?_) | (refine x_pick_c rfl aD ?_) | (refine x_pick_a rfl aD ?_) | (refine x_pick_d rfl aD rfl ?_)) | (refine g_guard ?_; first | (refine x_gyes rfl rfl aD ?_) | (refine x_gno rfl rfl aD ?_) | (refine x_gun rfl rfl ?_) | (refine x_gsplit rfl rfl (fun h => ?_) (fun h => ?_) <;> (have h' := h; (try simp only [sx] at h')))) | (refine g_call ?_; first | (refine x_callL [(io, 0)] (k2) rfl rfl (by (repeat' (first | exact trivial | refine ⟨⟨_, rfl, ?_⟩, ?_⟩ | exact .inl ⟨rfl, .inl rfl⟩ | exact .inr ⟨rfl, rfl, rfl, rfl, rfl, fun e he u hu => by (simp only [List.mem_cons, List.not_mem_nil, or_false] at he; subst he; simp only [List.mem_cons, List.not_mem_nil, or_false] at hu; subst hu; rfl)⟩ | exact .inl ⟨rfl, .inr (fun e he => by (simp only [List.mem_cons, List.not_mem_nil, or_false] at he; subst he; rfl))⟩ | fail)); first | done | fail) rfl rfl aS rfl aH rfl ?_; simp only [cl]) | (refine x_callL [(io, 0)] (k3) rfl rfl (by (repeat' (first | exact trivial | refine ⟨⟨_, rfl, ?_⟩, ?_⟩ | exact .inl ⟨rfl, .inl rfl⟩ | exact .inr ⟨rfl, rfl, rfl, rfl, rfl, fun e he u hu => by (simp only [List.mem_cons, List.not_mem_nil, or_false] at he; subst he; simp only [List.mem_cons, List.not_mem_nil, or_false] at hu; subst hu; rfl)⟩ | exact .inl ⟨rfl, .inr (fun e he => by (simp only [List.mem_cons, List.not_mem_nil, or_false] at he; subst he; rfl))⟩ | fail)); first | done | fail) rfl rfl aS rfl aH rfl ?_; simp only [cl]) | (refine x_len_l aA rfl ?_) | (refine x_len_o aA rfl rfl ?_) | (refine x_len_n aA rfl ?_) | (refine x_len_s aA (evO_ok rfl) ?_) | (refine x_appOO _ _ aA rfl (lookM (by rfl)) rfl (lookM (by rfl)) rfl aN ⟨rfl, rfl, by decide, by decide⟩ (by first | rfl | omega | (simp; done) | (simp; omega) | fail) ⟨by first | (simp only [List.length_cons, List.length_nil]; omega) | omega | fail, by decide⟩ rfl (by first | (first | (simp only [lx, Nat.reduceAdd]; first | done | rfl) | fail) | rfl) aP ?_) | (refine x_appCO _ _ aA rfl rfl (lookM (by rfl)) ⟨rfl, by decide⟩ aN (by first | exact Nat.succ_pos _ | omega | (simp; done)) ⟨by first | (simp only [List.length_cons, List.length_nil]; omega) | omega | fail, by decide⟩ rfl rfl aP ?_) | (refine x_appNO _ aA rfl rfl (lookM (by rfl)) ⟨rfl, by decide⟩ aN ⟨by first | (simp only [List.length_cons, List.length_nil]; omega) | omega | fail, by decide⟩ rfl aP ?_) | (refine x_app_ol _ aA rfl rfl rfl ⟨rfl, rfl, rfl, by decide, by decide⟩ (by first | rfl | (simp; done) | fail) ⟨by omega, by decide⟩ rfl aL (by first | (rw [Nat.zero_add]) | rfl) ?_)) | (refine x_buildSliceO aA rfl rfl rfl ?_) | (refine x_buildO _ _ aA rfl rfl (by simp [buildPV, PV.cells]; first | done | rfl) ?_) | (refine x_nil (hK _ _ (.inl rfl) ?_); clear hK K) | (refine x_nil (hK _ _ (.inr (by kernel_rfl)) ?_); clear hK K))
      | (refine g_code ?_; first | (refine v_seq ?_) | (refine v_region (fun K hK => ?_)) | (refine v_block ?_) | (refine v_skip ?_) | (refine v_ret ?_) | (refine v_exit ?_) | (refine g_cond ?_; first | (refine v_cond_y rfl aD ?_) | (refine v_cond_n rfl aD ?_) | (refine v_condt rfl (fun h => ?_) (fun h => ?_) <;> (have h' := h; (try simp only [sx] at h')))))
      | (refine q_then ?_) | (refine q_then_r ?_) | (refine q_then_e ?_) | (refine q_blk_n ?_) | (refine q_blk_r ?_) | (refine q_blk_e ?_) | (refine q_blk_o rfl ?_) | (refine q_loop_r ?_) | (refine q_loop_e ?_) | (refine ret_n ?_))
        all_goals try (exfalso; omega)
        all_goals (refine q_next (c3, es ++ [[.int .i64 (i : Int), .int .i64 x]], m + 1, i + 1) rfl (by refine ⟨?_, ?_, rfl, rfl⟩ <;> (repeat' (first | exact trivial | exact ⟨rfl, rfl⟩ | exact rfl | exact ⟨sub_fn, refs_fn⟩ | refine ⟨⟨rfl, rfl⟩, ?_⟩ | refine ⟨⟨sub_fn, refs_fn⟩, ?_⟩ | refine ⟨⟨rfl, fun h => Bool.noConfusion h⟩, ?_⟩ | refine ⟨⟨rfl, fun h => ?_⟩, ?_⟩ | refine ⟨rfl, ?_⟩ | refine ⟨?_, ?_⟩ | fail))) ⟨((ad.trans a2).trans a3).le (by simp only; omega), by simp only; omega, b ++ [⟨i, x⟩], by simp [hes], by simp [hlen]⟩ (by simp only; omega))
      · repeat' (first
      | (refine g_exec ?_; first | (refine g_move ?_; refine x_moveO _ rfl ?_) | (refine g_assign ?_; refine x_assignO _ rfl ?_) | (refine g_bin ?_; first | (refine x_add rfl rfl aO ?_) | (refine x_sub rfl rfl aO ?_) | (refine x_bin _ rfl rfl rfl ?_) | (refine x_boolEq aA rfl rfl ?_) | (refine x_strBin _ rfl rfl rfl ?_)) | (refine g_pick ?_; first | (refine x_pick_b rfl aD rfl ?_) | (refine x_pick_c rfl aD ?_) | (refine x_pick_a rfl aD ?_) | (refine x_pick_d rfl aD rfl ?_)) | (refine g_guard ?_; first | (refine x_gyes rfl rfl aD ?_) | (refine x_gno rfl rfl aD ?_) | (refine x_gun rfl rfl ?_) | (refine x_gsplit rfl rfl (fun h => ?_) (fun h => ?_) <;> (have h' := h; (try simp only [sx] at h')))) | (refine g_call ?_; first | (refine x_callL [(io, 0)] (k2) rfl rfl (by (repeat' (first | exact trivial | refine ⟨⟨_, rfl, ?_⟩, ?_⟩ | exact .inl ⟨rfl, .inl rfl⟩ | exact .inr ⟨rfl, rfl, rfl, rfl, rfl, fun e he u hu => by (simp only [List.mem_cons, List.not_mem_nil, or_false] at he; subst he; simp only [List.mem_cons, List.not_mem_nil, or_false] at hu; subst hu; rfl)⟩ | exact .inl ⟨rfl, .inr (fun e he => by (simp only [List.mem_cons, List.not_mem_nil, or_false] at he; subst he; rfl))⟩ | fail)); first | done | fail) rfl rfl aS rfl aH rfl ?_; simp only [cl]) | (refine x_len_l aA rfl ?_) | (refine x_len_o aA rfl rfl ?_) | (refine x_len_n aA rfl ?_) | (refine x_len_s aA (evO_ok rfl) ?_) | (refine x_appOO _ _ aA rfl (lookM (by rfl)) rfl (lookM (by rfl)) rfl aN ⟨rfl, rfl, by decide, by decide⟩ (by first | rfl | omega | (simp; done) | (simp; omega) | fail) ⟨by first | (simp only [List.length_cons, List.length_nil]; omega) | omega | fail, by decide⟩ rfl (by first | (first | (simp only [lx, Nat.reduceAdd]; first | done | rfl) | fail) | rfl) aP ?_) | (refine x_appCO _ _ aA rfl rfl (lookM (by rfl)) ⟨rfl, by decide⟩ aN (by first | exact Nat.succ_pos _ | omega | (simp; done)) ⟨by first | (simp only [List.length_cons, List.length_nil]; omega) | omega | fail, by decide⟩ rfl rfl aP ?_) | (refine x_appNO _ aA rfl rfl (lookM (by rfl)) ⟨rfl, by decide⟩ aN ⟨by first | (simp only [List.length_cons, List.length_nil]; omega) | omega | fail, by decide⟩ rfl aP ?_) | (refine x_app_ol _ aA rfl rfl rfl ⟨rfl, rfl, rfl, by decide, by decide⟩ (by first | rfl | (simp; done) | fail) ⟨by omega, by decide⟩ rfl aL (by first | (rw [Nat.zero_add]) | rfl) ?_)) | (refine x_buildSliceO aA rfl rfl rfl ?_) | (refine x_buildO _ _ aA rfl rfl (by simp [buildPV, PV.cells]; first | done | rfl) ?_) | (refine x_nil (hK _ _ (.inl rfl) ?_); clear hK K) | (refine x_nil (hK _ _ (.inr (by kernel_rfl)) ?_); clear hK K))
      | (refine g_code ?_; first | (refine v_seq ?_) | (refine v_region (fun K hK => ?_)) | (refine v_block ?_) | (refine v_skip ?_) | (refine v_ret ?_) | (refine v_exit ?_) | (refine g_cond ?_; first | (refine v_cond_y rfl aD ?_) | (refine v_cond_n rfl aD ?_) | (refine v_condt rfl (fun h => ?_) (fun h => ?_) <;> (have h' := h; (try simp only [sx] at h')))))
      | (refine q_then ?_) | (refine q_then_r ?_) | (refine q_then_e ?_) | (refine q_blk_n ?_) | (refine q_blk_r ?_) | (refine q_blk_e ?_) | (refine q_blk_o rfl ?_) | (refine q_loop_r ?_) | (refine q_loop_e ?_) | (refine ret_n ?_))
        all_goals try (exfalso; omega)
        all_goals (refine q_next (c2, es, m, i + 1) rfl (by refine ⟨?_, ?_, rfl, rfl⟩ <;> (repeat' (first | exact trivial | exact ⟨rfl, rfl⟩ | exact rfl | exact ⟨sub_fn, refs_fn⟩ | refine ⟨⟨rfl, rfl⟩, ?_⟩ | refine ⟨⟨sub_fn, refs_fn⟩, ?_⟩ | refine ⟨⟨rfl, fun h => Bool.noConfusion h⟩, ?_⟩ | refine ⟨⟨rfl, fun h => ?_⟩, ?_⟩ | refine ⟨rfl, ?_⟩ | refine ⟨?_, ?_⟩ | fail))) ⟨(ad.trans a2).le (by simp only; omega), by simp only; omega, b, hes, hlen⟩ (by simp only; omega))
  · have key : ∀ (c0 : Cu) (l : Int), Aft c c0 l → 0 ≤ l → l ≤ 40 → ∃ (y : Bool) (c1 : Cu), Dr 61 [.int .i64 32] c0 (.bool y) c1 ∧ Aft c c1 50 ∧ ∃ (x w : Int) (c2 c3 : Cu), Dr 62 [.list 1 (ints [-1, n, n - 1])] c1 (.int .i64 x) c2 ∧ Dr 62 [.list 1 (ints [-1, 400, 401])] c2 (.int .i64 w) c3 ∧ Aft c c3 60 := fun c0 l h0 h1 h2 => by
      have o0 := h0.ok hc aO
      have p0 := h0.pos
      obtain ⟨y, c1, k1, a1⟩ := k_one c0 32 o0 aO aO
      have o1 := a1.ok o0 aO
      have p1 := a1.pos
      obtain ⟨x, c2, k2, a2, _⟩ := k_among c1 [-1, n, n - 1] o1 aO (by simp)
      have o2 := a2.ok o1 aO
      have p2 := a2.pos
      obtain ⟨w, c3, k3, a3, _⟩ := k_among c2 [-1, 400, 401] o2 aO (by decide)
      exact ⟨y, c1, k1, (h0.trans a1).le aO, x, w, c2, c3, k2, k3, (((h0.trans a1).trans a2).trans a3).le aO⟩
    by_cases h0 : m = 0
    · obtain ⟨x0, c4, k4, a4, _⟩ := k_pick d n od aO aO
      obtain ⟨y, c1, k1, a1, x, w, c2, c3, k2, k3, a3⟩ := key c4 _ (ad.trans a4) aO aO
      cases y
      · repeat' (first
      | (refine g_exec ?_; first | (refine g_move ?_; refine x_moveO _ rfl ?_) | (refine g_assign ?_; refine x_assignO _ rfl ?_) | (refine g_bin ?_; first | (refine x_add rfl rfl aO ?_) | (refine x_sub rfl rfl aO ?_) | (refine x_bin _ rfl rfl rfl ?_) | (refine x_boolEq aA rfl rfl ?_) | (refine x_strBin _ rfl rfl rfl ?_)) | (refine g_pick ?_; first | (refine x_pick_b rfl aD rfl ?_) | (refine x_pick_c rfl aD ?_) | (refine x_pick_a rfl aD ?_) | (refine x_pick_d rfl aD rfl ?_)) | (refine g_guard ?_; first | (refine x_gyes rfl rfl aD ?_) | (refine x_gno rfl rfl aD ?_) | (refine x_gun rfl rfl ?_) | (refine x_gsplit rfl rfl (fun h => ?_) (fun h => ?_) <;> (have h' := h; (try simp only [sx] at h')))) | (refine g_call ?_; first | (refine x_callL [(io, 0)] (k4) rfl rfl (by (repeat' (first | exact trivial | refine ⟨⟨_, rfl, ?_⟩, ?_⟩ | exact .inl ⟨rfl, .inl rfl⟩ | exact .inr ⟨rfl, rfl, rfl, rfl, rfl, fun e he u hu => by (simp only [List.mem_cons, List.not_mem_nil, or_false] at he; subst he; simp only [List.mem_cons, List.not_mem_nil, or_false] at hu; subst hu; rfl)⟩ | exact .inl ⟨rfl, .inr (fun e he => by (simp only [List.mem_cons, List.not_mem_nil, or_false] at he; subst he; rfl))⟩ | fail)); first | done | fail) rfl rfl aS rfl aH rfl ?_; simp only [cl]) | (refine x_callL [(io, 0)] (k1) rfl rfl (by (repeat' (first | exact trivial | refine ⟨⟨_, rfl, ?_⟩, ?_⟩ | exact .inl ⟨rfl, .inl rfl⟩ | exact .inr ⟨rfl, rfl, rfl, rfl, rfl, fun e he u hu => by (simp only [List.mem_cons, List.not_mem_nil, or_false] at he; subst he; simp only [List.mem_cons, List.not_mem_nil, or_false] at hu; subst hu; rfl)⟩ | exact .inl ⟨rfl, .inr (fun e he => by (simp only [List.mem_cons, List.not_mem_nil, or_false] at he; subst he; rfl))⟩ | fail)); first | done | fail) rfl rfl aS rfl aH rfl ?_; simp only [cl]) | (refine x_len_l aA rfl ?_) | (refine x_len_o aA rfl rfl ?_) | (refine x_len_n aA rfl ?_) | (refine x_len_s aA (evO_ok rfl) ?_) | (refine x_appOO _ _ aA rfl (lookM (by rfl)) rfl (lookM (by rfl)) rfl aN ⟨rfl, rfl, by decide, by decide⟩ (by first | rfl | omega | (simp; done) | (simp; omega) | fail) ⟨by first | (simp only [List.length_cons, List.length_nil]; omega) | omega | fail, by decide⟩ rfl (by first | (first | (simp only [lx, Nat.reduceAdd]; first | done | rfl) | fail) | rfl) aP ?_) | (refine x_appCO _ _ aA rfl rfl (lookM (by rfl)) ⟨rfl, by decide⟩ aN (by first | exact Nat.succ_pos _ | omega | (simp; done)) ⟨by first | (simp only [List.length_cons, List.length_nil]; omega) | omega | fail, by decide⟩ rfl rfl aP ?_) | (refine x_appNO _ aA rfl rfl (lookM (by rfl)) ⟨rfl, by decide⟩ aN ⟨by first | (simp only [List.length_cons, List.length_nil]; omega) | omega | fail, by decide⟩ rfl aP ?_) | (refine x_app_ol _ aA rfl rfl rfl ⟨rfl, rfl, rfl, by decide, by decide⟩ (by first | rfl | (simp; done) | fail) ⟨by omega, by decide⟩ rfl aL (by first | (rw [Nat.zero_add]) | rfl) ?_)) | (refine x_buildSliceO aA rfl rfl rfl ?_) | (refine x_buildO _ _ aA rfl rfl (by simp [buildPV, PV.cells]; first | done | rfl) ?_) | (refine x_nil (hK _ _ (.inl rfl) ?_); clear hK K) | (refine x_nil (hK _ _ (.inr (by kernel_rfl)) ?_); clear hK K))
      | (refine g_code ?_; first | (refine v_seq ?_) | (refine v_region (fun K hK => ?_)) | (refine v_block ?_) | (refine v_skip ?_) | (refine v_ret ?_) | (refine v_exit ?_) | (refine g_cond ?_; first | (refine v_cond_y rfl aD ?_) | (refine v_cond_n rfl aD ?_) | (refine v_condt rfl (fun h => ?_) (fun h => ?_) <;> (have h' := h; (try simp only [sx] at h')))))
      | (refine q_then ?_) | (refine q_then_r ?_) | (refine q_then_e ?_) | (refine q_blk_n ?_) | (refine q_blk_r ?_) | (refine q_blk_e ?_) | (refine q_blk_o rfl ?_) | (refine q_loop_r ?_) | (refine q_loop_e ?_) | (refine ret_n ?_))
        all_goals first
          | (exfalso; omega)
          | (refine RetPost.mono (fun r fin h => ⟨b ++ [⟨x0, 100⟩], c1, h, a1.le aO, by simp; omega⟩) ?_
             exact ret_lL rfl rfl rfl (by decide) ⟨⟨rfl, rfl, fun h => by cases h⟩, trivial⟩ rfl rfl (by simp [hel]) (by simp [hes]))
      · repeat' (first
      | (refine g_exec ?_; first | (refine g_move ?_; refine x_moveO _ rfl ?_) | (refine g_assign ?_; refine x_assignO _ rfl ?_) | (refine g_bin ?_; first | (refine x_add rfl rfl aO ?_) | (refine x_sub rfl rfl aO ?_) | (refine x_bin _ rfl rfl rfl ?_) | (refine x_boolEq aA rfl rfl ?_) | (refine x_strBin _ rfl rfl rfl ?_)) | (refine g_pick ?_; first | (refine x_pick_b rfl aD rfl ?_) | (refine x_pick_c rfl aD ?_) | (refine x_pick_a rfl aD ?_) | (refine x_pick_d rfl aD rfl ?_)) | (refine g_guard ?_; first | (refine x_gyes rfl rfl aD ?_) | (refine x_gno rfl rfl aD ?_) | (refine x_gun rfl rfl ?_) | (refine x_gsplit rfl rfl (fun h => ?_) (fun h => ?_) <;> (have h' := h; (try simp only [sx] at h')))) | (refine g_call ?_; first | (refine x_callL [(io, 0)] (k4) rfl rfl (by (repeat' (first | exact trivial | refine ⟨⟨_, rfl, ?_⟩, ?_⟩ | exact .inl ⟨rfl, .inl rfl⟩ | exact .inr ⟨rfl, rfl, rfl, rfl, rfl, fun e he u hu => by (simp only [List.mem_cons, List.not_mem_nil, or_false] at he; subst he; simp only [List.mem_cons, List.not_mem_nil, or_false] at hu; subst hu; rfl)⟩ | exact .inl ⟨rfl, .inr (fun e he => by (simp only [List.mem_cons, List.not_mem_nil, or_false] at he; subst he; rfl))⟩ | fail)); first | done | fail) rfl rfl aS rfl aH rfl ?_; simp only [cl]) | (refine x_callL [(io, 0)] (k1) rfl rfl (by (repeat' (first | exact trivial | refine ⟨⟨_, rfl, ?_⟩, ?_⟩ | exact .inl ⟨rfl, .inl rfl⟩ | exact .inr ⟨rfl, rfl, rfl, rfl, rfl, fun e he u hu => by (simp only [List.mem_cons, List.not_mem_nil, or_false] at he; subst he; simp only [List.mem_cons, List.not_mem_nil, or_false] at hu; subst hu; rfl)⟩ | exact .inl ⟨rfl, .inr (fun e he => by (simp only [List.mem_cons, List.not_mem_nil, or_false] at he; subst he; rfl))⟩ | fail)); first | done | fail) rfl rfl aS rfl aH rfl ?_; simp only [cl]) | (refine x_callL [(io, 0)] (k2) rfl rfl (by (repeat' (first | exact trivial | refine ⟨⟨_, rfl, ?_⟩, ?_⟩ | exact .inl ⟨rfl, .inl rfl⟩ | exact .inr ⟨rfl, rfl, rfl, rfl, rfl, fun e he u hu => by (simp only [List.mem_cons, List.not_mem_nil, or_false] at he; subst he; simp only [List.mem_cons, List.not_mem_nil, or_false] at hu; subst hu; rfl)⟩ | exact .inl ⟨rfl, .inr (fun e he => by (simp only [List.mem_cons, List.not_mem_nil, or_false] at he; subst he; rfl))⟩ | fail)); first | done | fail) rfl rfl aS rfl aH rfl ?_; simp only [cl]) | (refine x_callL [(io, 0)] (k3) rfl rfl (by (repeat' (first | exact trivial | refine ⟨⟨_, rfl, ?_⟩, ?_⟩ | exact .inl ⟨rfl, .inl rfl⟩ | exact .inr ⟨rfl, rfl, rfl, rfl, rfl, fun e he u hu => by (simp only [List.mem_cons, List.not_mem_nil, or_false] at he; subst he; simp only [List.mem_cons, List.not_mem_nil, or_false] at hu; subst hu; rfl)⟩ | exact .inl ⟨rfl, .inr (fun e he => by (simp only [List.mem_cons, List.not_mem_nil, or_false] at he; subst he; rfl))⟩ | fail)); first | done | fail) rfl rfl aS rfl aH rfl ?_; simp only [cl]) | (refine x_len_l aA rfl ?_) | (refine x_len_o aA rfl rfl ?_) | (refine x_len_n aA rfl ?_) | (refine x_len_s aA (evO_ok rfl) ?_) | (refine x_appOO _ _ aA rfl (lookM (by rfl)) rfl (lookM (by rfl)) rfl aN ⟨rfl, rfl, by decide, by decide⟩ (by first | rfl | omega | (simp; done) | (simp; omega) | fail) ⟨by first | (simp only [List.length_cons, List.length_nil]; omega) | omega | fail, by decide⟩ rfl (by first | (first | (simp only [lx, Nat.reduceAdd]; first | done | rfl) | fail) | rfl) aP ?_) | (refine x_appCO _ _ aA rfl rfl (lookM (by rfl)) ⟨rfl, by decide⟩ aN (by first | exact Nat.succ_pos _ | omega | (simp; done)) ⟨by first | (simp only [List.length_cons, List.length_nil]; omega) | omega | fail, by decide⟩ rfl rfl aP ?_) | (refine x_appNO _ aA rfl rfl (lookM (by rfl)) ⟨rfl, by decide⟩ aN ⟨by first | (simp only [List.length_cons, List.length_nil]; omega) | omega | fail, by decide⟩ rfl aP ?_) | (refine x_app_ol _ aA rfl rfl rfl ⟨rfl, rfl, rfl, by decide, by decide⟩ (by first | rfl | (simp; done) | fail) ⟨by omega, by decide⟩ rfl aL (by first | (rw [Nat.zero_add]) | rfl) ?_)) | (refine x_buildSliceO aA rfl rfl rfl ?_) | (refine x_buildO _ _ aA rfl rfl (by simp [buildPV, PV.cells]; first | done | rfl) ?_) | (refine x_nil (hK _ _ (.inl rfl) ?_); clear hK K) | (refine x_nil (hK _ _ (.inr (by kernel_rfl)) ?_); clear hK K))
      | (refine g_code ?_; first | (refine v_seq ?_) | (refine v_region (fun K hK => ?_)) | (refine v_block ?_) | (refine v_skip ?_) | (refine v_ret ?_) | (refine v_exit ?_) | (refine g_cond ?_; first | (refine v_cond_y rfl aD ?_) | (refine v_cond_n rfl aD ?_) | (refine v_condt rfl (fun h => ?_) (fun h => ?_) <;> (have h' := h; (try simp only [sx] at h')))))
      | (refine q_then ?_) | (refine q_then_r ?_) | (refine q_then_e ?_) | (refine q_blk_n ?_) | (refine q_blk_r ?_) | (refine q_blk_e ?_) | (refine q_blk_o rfl ?_) | (refine q_loop_r ?_) | (refine q_loop_e ?_) | (refine ret_n ?_))
        all_goals first
          | (exfalso; omega)
          | (refine RetPost.mono (fun r fin h => ⟨b ++ [⟨x0, 100⟩] ++ [⟨x, w⟩], c3, h, a3.le aO, by simp; omega⟩) ?_
             exact ret_lL rfl rfl rfl (by decide) ⟨⟨rfl, rfl, fun h => by cases h⟩, trivial⟩ rfl rfl (by simp [hel]) (by simp [hes]))
    · obtain ⟨y, c1, k1, a1, x, w, c2, c3, k2, k3, a3⟩ := key d _ ad aO aO
      cases y
      · repeat' (first
      | (refine g_exec ?_; first | (refine g_move ?_; refine x_moveO _ rfl ?_) | (refine g_assign ?_; refine x_assignO _ rfl ?_) | (refine g_bin ?_; first | (refine x_add rfl rfl aO ?_) | (refine x_sub rfl rfl aO ?_) | (refine x_bin _ rfl rfl rfl ?_) | (refine x_boolEq aA rfl rfl ?_) | (refine x_strBin _ rfl rfl rfl ?_)) | (refine g_pick ?_; first | (refine x_pick_b rfl aD rfl ?_) | (refine x_pick_c rfl aD ?_) | (refine x_pick_a rfl aD ?_) | (refine x_pick_d rfl aD rfl ?_)) | (refine g_guard ?_; first | (refine x_gyes rfl rfl aD ?_) | (refine x_gno rfl rfl aD ?_) | (refine x_gun rfl rfl ?_) | (refine x_gsplit rfl rfl (fun h => ?_) (fun h => ?_) <;> (have h' := h; (try simp only [sx] at h')))) | (refine g_call ?_; first | (refine x_callL [(io, 0)] (k1) rfl rfl (by (repeat' (first | exact trivial | refine ⟨⟨_, rfl, ?_⟩, ?_⟩ | exact .inl ⟨rfl, .inl rfl⟩ | exact .inr ⟨rfl, rfl, rfl, rfl, rfl, fun e he u hu => by (simp only [List.mem_cons, List.not_mem_nil, or_false] at he; subst he; simp only [List.mem_cons, List.not_mem_nil, or_false] at hu; subst hu; rfl)⟩ | exact .inl ⟨rfl, .inr (fun e he => by (simp only [List.mem_cons, List.not_mem_nil, or_false] at he; subst he; rfl))⟩ | fail)); first | done | fail) rfl rfl aS rfl aH rfl ?_; simp only [cl]) | (refine x_len_l aA rfl ?_) | (refine x_len_o aA rfl rfl ?_) | (refine x_len_n aA rfl ?_) | (refine x_len_s aA (evO_ok rfl) ?_) | (refine x_appOO _ _ aA rfl (lookM (by rfl)) rfl (lookM (by rfl)) rfl aN ⟨rfl, rfl, by decide, by decide⟩ (by first | rfl | omega | (simp; done) | (simp; omega) | fail) ⟨by first | (simp only [List.length_cons, List.length_nil]; omega) | omega | fail, by decide⟩ rfl (by first | (first | (simp only [lx, Nat.reduceAdd]; first | done | rfl) | fail) | rfl) aP ?_) | (refine x_appCO _ _ aA rfl rfl (lookM (by rfl)) ⟨rfl, by decide⟩ aN (by first | exact Nat.succ_pos _ | omega | (simp; done)) ⟨by first | (simp only [List.length_cons, List.length_nil]; omega) | omega | fail, by decide⟩ rfl rfl aP ?_) | (refine x_appNO _ aA rfl rfl (lookM (by rfl)) ⟨rfl, by decide⟩ aN ⟨by first | (simp only [List.length_cons, List.length_nil]; omega) | omega | fail, by decide⟩ rfl aP ?_) | (refine x_app_ol _ aA rfl rfl rfl ⟨rfl, rfl, rfl, by decide, by decide⟩ (by first | rfl | (simp; done) | fail) ⟨by omega, by decide⟩ rfl aL (by first | (rw [Nat.zero_add]) | rfl) ?_)) | (refine x_buildSliceO aA rfl rfl rfl ?_) | (refine x_buildO _ _ aA rfl rfl (by simp [buildPV, PV.cells]; first | done | rfl) ?_) | (refine x_nil (hK _ _ (.inl rfl) ?_); clear hK K) | (refine x_nil (hK _ _ (.inr (by kernel_rfl)) ?_); clear hK K))
      | (refine g_code ?_; first | (refine v_seq ?_) | (refine v_region (fun K hK => ?_)) | (refine v_block ?_) | (refine v_skip ?_) | (refine v_ret ?_) | (refine v_exit ?_) | (refine g_cond ?_; first | (refine v_cond_y rfl aD ?_) | (refine v_cond_n rfl aD ?_) | (refine v_condt rfl (fun h => ?_) (fun h => ?_) <;> (have h' := h; (try simp only [sx] at h')))))
      | (refine q_then ?_) | (refine q_then_r ?_) | (refine q_then_e ?_) | (refine q_blk_n ?_) | (refine q_blk_r ?_) | (refine q_blk_e ?_) | (refine q_blk_o rfl ?_) | (refine q_loop_r ?_) | (refine q_loop_e ?_) | (refine ret_n ?_))
        all_goals first
          | (exfalso; omega)
          | (refine RetPost.mono (fun r fin h => ⟨b, c1, h, a1.le aO, by omega⟩) ?_
             exact ret_lL rfl rfl rfl (by decide) ⟨⟨rfl, rfl, fun h => by cases h⟩, trivial⟩ rfl rfl hme hes)
      · repeat' (first
      | (refine g_exec ?_; first | (refine g_move ?_; refine x_moveO _ rfl ?_) | (refine g_assign ?_; refine x_assignO _ rfl ?_) | (refine g_bin ?_; first | (refine x_add rfl rfl aO ?_) | (refine x_sub rfl rfl aO ?_) | (refine x_bin _ rfl rfl rfl ?_) | (refine x_boolEq aA rfl rfl ?_) | (refine x_strBin _ rfl rfl rfl ?_)) | (refine g_pick ?_; first | (refine x_pick_b rfl aD rfl ?_) | (refine x_pick_c rfl aD ?_) | (refine x_pick_a rfl aD ?_) | (refine x_pick_d rfl aD rfl ?_)) | (refine g_guard ?_; first | (refine x_gyes rfl rfl aD ?_) | (refine x_gno rfl rfl aD ?_) | (refine x_gun rfl rfl ?_) | (refine x_gsplit rfl rfl (fun h => ?_) (fun h => ?_) <;> (have h' := h; (try simp only [sx] at h')))) | (refine g_call ?_; first | (refine x_callL [(io, 0)] (k1) rfl rfl (by (repeat' (first | exact trivial | refine ⟨⟨_, rfl, ?_⟩, ?_⟩ | exact .inl ⟨rfl, .inl rfl⟩ | exact .inr ⟨rfl, rfl, rfl, rfl, rfl, fun e he u hu => by (simp only [List.mem_cons, List.not_mem_nil, or_false] at he; subst he; simp only [List.mem_cons, List.not_mem_nil, or_false] at hu; subst hu; rfl)⟩ | exact .inl ⟨rfl, .inr (fun e he => by (simp only [List.mem_cons, List.not_mem_nil, or_false] at he; subst he; rfl))⟩ | fail)); first | done | fail) rfl rfl aS rfl aH rfl ?_; simp only [cl]) | (refine x_callL [(io, 0)] (k2) rfl rfl (by (repeat' (first | exact trivial | refine ⟨⟨_, rfl, ?_⟩, ?_⟩ | exact .inl ⟨rfl, .inl rfl⟩ | exact .inr ⟨rfl, rfl, rfl, rfl, rfl, fun e he u hu => by (simp only [List.mem_cons, List.not_mem_nil, or_false] at he; subst he; simp only [List.mem_cons, List.not_mem_nil, or_false] at hu; subst hu; rfl)⟩ | exact .inl ⟨rfl, .inr (fun e he => by (simp only [List.mem_cons, List.not_mem_nil, or_false] at he; subst he; rfl))⟩ | fail)); first | done | fail) rfl rfl aS rfl aH rfl ?_; simp only [cl]) | (refine x_callL [(io, 0)] (k3) rfl rfl (by (repeat' (first | exact trivial | refine ⟨⟨_, rfl, ?_⟩, ?_⟩ | exact .inl ⟨rfl, .inl rfl⟩ | exact .inr ⟨rfl, rfl, rfl, rfl, rfl, fun e he u hu => by (simp only [List.mem_cons, List.not_mem_nil, or_false] at he; subst he; simp only [List.mem_cons, List.not_mem_nil, or_false] at hu; subst hu; rfl)⟩ | exact .inl ⟨rfl, .inr (fun e he => by (simp only [List.mem_cons, List.not_mem_nil, or_false] at he; subst he; rfl))⟩ | fail)); first | done | fail) rfl rfl aS rfl aH rfl ?_; simp only [cl]) | (refine x_len_l aA rfl ?_) | (refine x_len_o aA rfl rfl ?_) | (refine x_len_n aA rfl ?_) | (refine x_len_s aA (evO_ok rfl) ?_) | (refine x_appOO _ _ aA rfl (lookM (by rfl)) rfl (lookM (by rfl)) rfl aN ⟨rfl, rfl, by decide, by decide⟩ (by first | rfl | omega | (simp; done) | (simp; omega) | fail) ⟨by first | (simp only [List.length_cons, List.length_nil]; omega) | omega | fail, by decide⟩ rfl (by first | (first | (simp only [lx, Nat.reduceAdd]; first | done | rfl) | fail) | rfl) aP ?_) | (refine x_appCO _ _ aA rfl rfl (lookM (by rfl)) ⟨rfl, by decide⟩ aN (by first | exact Nat.succ_pos _ | omega | (simp; done)) ⟨by first | (simp only [List.length_cons, List.length_nil]; omega) | omega | fail, by decide⟩ rfl rfl aP ?_) | (refine x_appNO _ aA rfl rfl (lookM (by rfl)) ⟨rfl, by decide⟩ aN ⟨by first | (simp only [List.length_cons, List.length_nil]; omega) | omega | fail, by decide⟩ rfl aP ?_) | (refine x_app_ol _ aA rfl rfl rfl ⟨rfl, rfl, rfl, by decide, by decide⟩ (by first | rfl | (simp; done) | fail) ⟨by omega, by decide⟩ rfl aL (by first | (rw [Nat.zero_add]) | rfl) ?_)) | (refine x_buildSliceO aA rfl rfl rfl ?_) | (refine x_buildO _ _ aA rfl rfl (by simp [buildPV, PV.cells]; first | done | rfl) ?_) | (refine x_nil (hK _ _ (.inl rfl) ?_); clear hK K) | (refine x_nil (hK _ _ (.inr (by kernel_rfl)) ?_); clear hK K))
      | (refine g_code ?_; first | (refine v_seq ?_) | (refine v_region (fun K hK => ?_)) | (refine v_block ?_) | (refine v_skip ?_) | (refine v_ret ?_) | (refine v_exit ?_) | (refine g_cond ?_; first | (refine v_cond_y rfl aD ?_) | (refine v_cond_n rfl aD ?_) | (refine v_condt rfl (fun h => ?_) (fun h => ?_) <;> (have h' := h; (try simp only [sx] at h')))))
      | (refine q_then ?_) | (refine q_then_r ?_) | (refine q_then_e ?_) | (refine q_blk_n ?_) | (refine q_blk_r ?_) | (refine q_blk_e ?_) | (refine q_blk_o rfl ?_) | (refine q_loop_r ?_) | (refine q_loop_e ?_) | (refine ret_n ?_))
        all_goals first
          | (exfalso; omega)
          | (refine RetPost.mono (fun r fin h => ⟨b ++ [⟨x, w⟩], c3, h, a3.le aO, by simp; omega⟩) ?_
             exact ret_lL rfl rfl rfl (by decide) ⟨⟨rfl, rfl, fun h => by cases h⟩, trivial⟩ rfl rfl (by simp [hel]) (by simp [hes]))
theorem k_sheltersZ (c : Cu) (n : Int) (hc : c.Ok) (hp : c.pos + 100 ≤ 1152921504606846976) (hn : 1 ≤ n ∧ n ≤ 8) :
    ContractP Try.prog 41 true [.own (io, 0) 0 0, .int .i64 n] [cuRow c] (fun r' fin' => ∃ (ss : List Go.Vs.Shelter) (c' : Cu), (r' = .list 2 (ss.map Go.Vs.Shelter.pv) ∧ fin' = [[c'.pv]]) ∧ Aft c c' 100 ∧ ss.length ≤ 4) := by
  refine ContractP.mono ?_ (ConL.frzP (k_shelters c n hc hp hn) (by rintro r fin ⟨rs, c', ⟨rfl, rfl⟩, _⟩; rfl) (by intro row h; simp at h; subst h; rfl))
  rintro r fin ⟨r', rfl, rs, c', ⟨rfl, rfl⟩, h⟩
  exact ⟨rs, c', ⟨rfl, rfl⟩, h⟩
theorem k_roadMinute (c : Cu) (hc : c.Ok) (hp : c.pos + 10 ≤ 1152921504606846976) : ∃ (r : Int) (c' : Cu), Dr 42 [] c (.int .i64 r) c' ∧ Aft c c' 10 ∧ -1 ≤ r ∧ r ≤ 1000 := by
  obtain ⟨y, c1, k1, a1⟩ := k_one c 20 hc aO aO
  have o1 := a1.ok hc aO
  have p1 := a1.pos
  cases y
  · obtain ⟨x, c2, k2, a2, hx⟩ := k_among c1 [0, 0, 5, 10, 20, 25, 40, 80] o1 aO (by decide)
    refine ⟨x, c2, ?_, (a1.trans a2).le aO, by simp at hx; omega, by simp at hx; omega⟩
    refine contract_of hmix Try.func42 rfl (by kernel_rfl) (by kernel_rfl) (Nat.le_of_ble_eq_true rfl) (fun row h => by (simp only [List.mem_cons, List.not_mem_nil, or_false] at h; first | (subst h; (first | exact .inl rfl | exact .inr (fun e he u hu => by (simp only [List.mem_cons, List.not_mem_nil, or_false] at he; subst he; simp only [List.mem_cons, List.not_mem_nil, or_false] at hu; subst hu; rfl)))) | (rcases h with rfl | rfl <;> (first | exact .inl rfl | exact .inr (fun e he u hu => by (simp only [List.mem_cons, List.not_mem_nil, or_false] at he; subst he; simp only [List.mem_cons, List.not_mem_nil, or_false] at hu; subst hu; rfl)))) | (rcases h with rfl | rfl | rfl <;> (first | exact .inl rfl | exact .inr (fun e he u hu => by (simp only [List.mem_cons, List.not_mem_nil, or_false] at he; subst he; simp only [List.mem_cons, List.not_mem_nil, or_false] at hu; subst hu; rfl)))) | (rcases h with rfl | rfl | rfl | rfl <;> (first | exact .inl rfl | exact .inr (fun e he u hu => by (simp only [List.mem_cons, List.not_mem_nil, or_false] at he; subst he; simp only [List.mem_cons, List.not_mem_nil, or_false] at hu; subst hu; rfl)))))) ?_
    have hty_s27 := ty_s27
    have hty_u27 := ty_u27
    repeat' (first
      | (refine g_exec ?_; first | (refine g_move ?_; refine x_moveO _ rfl ?_) | (refine g_assign ?_; refine x_assignO _ rfl ?_) | (refine g_call ?_; first | (refine x_callL [(io, 0)] (k1) rfl rfl (by (repeat' (first | exact trivial | refine ⟨⟨_, rfl, ?_⟩, ?_⟩ | exact .inl ⟨rfl, .inl rfl⟩ | exact .inr ⟨rfl, rfl, rfl, rfl, rfl, fun e he u hu => by (simp only [List.mem_cons, List.not_mem_nil, or_false] at he; subst he; simp only [List.mem_cons, List.not_mem_nil, or_false] at hu; subst hu; rfl)⟩ | exact .inl ⟨rfl, .inr (fun e he => by (simp only [List.mem_cons, List.not_mem_nil, or_false] at he; subst he; rfl))⟩ | fail)); first | done | fail) rfl rfl aS rfl aH rfl ?_; simp only [cl]) | (refine x_callL [(io, 0)] (k2) rfl rfl (by (repeat' (first | exact trivial | refine ⟨⟨_, rfl, ?_⟩, ?_⟩ | exact .inl ⟨rfl, .inl rfl⟩ | exact .inr ⟨rfl, rfl, rfl, rfl, rfl, fun e he u hu => by (simp only [List.mem_cons, List.not_mem_nil, or_false] at he; subst he; simp only [List.mem_cons, List.not_mem_nil, or_false] at hu; subst hu; rfl)⟩ | exact .inl ⟨rfl, .inr (fun e he => by (simp only [List.mem_cons, List.not_mem_nil, or_false] at he; subst he; rfl))⟩ | fail)); first | done | fail) rfl rfl aS rfl aH rfl ?_; simp only [cl])) | (refine x_buildSliceO aA rfl rfl rfl ?_) | (refine x_nil (hK _ _ (.inl rfl) ?_); clear hK K) | (refine x_nil (hK _ _ (.inr (by kernel_rfl)) ?_); clear hK K))
      | (refine g_code ?_; first | (refine v_seq ?_) | (refine v_region (fun K hK => ?_)) | (refine v_block ?_) | (refine v_skip ?_) | (refine v_ret ?_) | (refine v_exit ?_) | (refine g_cond ?_; first | (refine v_cond_y rfl aD ?_) | (refine v_cond_n rfl aD ?_) | (refine v_condt rfl (fun h => ?_) (fun h => ?_) <;> (have h' := h; (try simp only [sx] at h')))))
      | (refine q_then ?_) | (refine q_then_r ?_) | (refine q_then_e ?_) | (refine q_blk_n ?_) | (refine q_blk_r ?_) | (refine q_blk_e ?_) | (refine q_blk_o rfl ?_) | (refine q_loop_r ?_) | (refine q_loop_e ?_) | (refine ret_n ?_))
    all_goals exact ret_iL rfl rfl ⟨⟨rfl, rfl, fun h => by cases h⟩, trivial⟩ rfl
  · obtain ⟨x, c2, k2, a2, hx⟩ := k_among c1 [-1, 999, 1000] o1 aO (by decide)
    refine ⟨x, c2, ?_, (a1.trans a2).le aO, by simp at hx; omega, by simp at hx; omega⟩
    refine contract_of hmix Try.func42 rfl (by kernel_rfl) (by kernel_rfl) (Nat.le_of_ble_eq_true rfl) (fun row h => by (simp only [List.mem_cons, List.not_mem_nil, or_false] at h; first | (subst h; (first | exact .inl rfl | exact .inr (fun e he u hu => by (simp only [List.mem_cons, List.not_mem_nil, or_false] at he; subst he; simp only [List.mem_cons, List.not_mem_nil, or_false] at hu; subst hu; rfl)))) | (rcases h with rfl | rfl <;> (first | exact .inl rfl | exact .inr (fun e he u hu => by (simp only [List.mem_cons, List.not_mem_nil, or_false] at he; subst he; simp only [List.mem_cons, List.not_mem_nil, or_false] at hu; subst hu; rfl)))) | (rcases h with rfl | rfl | rfl <;> (first | exact .inl rfl | exact .inr (fun e he u hu => by (simp only [List.mem_cons, List.not_mem_nil, or_false] at he; subst he; simp only [List.mem_cons, List.not_mem_nil, or_false] at hu; subst hu; rfl)))) | (rcases h with rfl | rfl | rfl | rfl <;> (first | exact .inl rfl | exact .inr (fun e he u hu => by (simp only [List.mem_cons, List.not_mem_nil, or_false] at he; subst he; simp only [List.mem_cons, List.not_mem_nil, or_false] at hu; subst hu; rfl)))))) ?_
    have hty_s27 := ty_s27
    have hty_u27 := ty_u27
    repeat' (first
      | (refine g_exec ?_; first | (refine g_move ?_; refine x_moveO _ rfl ?_) | (refine g_assign ?_; refine x_assignO _ rfl ?_) | (refine g_call ?_; first | (refine x_callL [(io, 0)] (k1) rfl rfl (by (repeat' (first | exact trivial | refine ⟨⟨_, rfl, ?_⟩, ?_⟩ | exact .inl ⟨rfl, .inl rfl⟩ | exact .inr ⟨rfl, rfl, rfl, rfl, rfl, fun e he u hu => by (simp only [List.mem_cons, List.not_mem_nil, or_false] at he; subst he; simp only [List.mem_cons, List.not_mem_nil, or_false] at hu; subst hu; rfl)⟩ | exact .inl ⟨rfl, .inr (fun e he => by (simp only [List.mem_cons, List.not_mem_nil, or_false] at he; subst he; rfl))⟩ | fail)); first | done | fail) rfl rfl aS rfl aH rfl ?_; simp only [cl]) | (refine x_callL [(io, 0)] (k2) rfl rfl (by (repeat' (first | exact trivial | refine ⟨⟨_, rfl, ?_⟩, ?_⟩ | exact .inl ⟨rfl, .inl rfl⟩ | exact .inr ⟨rfl, rfl, rfl, rfl, rfl, fun e he u hu => by (simp only [List.mem_cons, List.not_mem_nil, or_false] at he; subst he; simp only [List.mem_cons, List.not_mem_nil, or_false] at hu; subst hu; rfl)⟩ | exact .inl ⟨rfl, .inr (fun e he => by (simp only [List.mem_cons, List.not_mem_nil, or_false] at he; subst he; rfl))⟩ | fail)); first | done | fail) rfl rfl aS rfl aH rfl ?_; simp only [cl])) | (refine x_buildSliceO aA rfl rfl rfl ?_) | (refine x_nil (hK _ _ (.inl rfl) ?_); clear hK K) | (refine x_nil (hK _ _ (.inr (by kernel_rfl)) ?_); clear hK K))
      | (refine g_code ?_; first | (refine v_seq ?_) | (refine v_region (fun K hK => ?_)) | (refine v_block ?_) | (refine v_skip ?_) | (refine v_ret ?_) | (refine v_exit ?_) | (refine g_cond ?_; first | (refine v_cond_y rfl aD ?_) | (refine v_cond_n rfl aD ?_) | (refine v_condt rfl (fun h => ?_) (fun h => ?_) <;> (have h' := h; (try simp only [sx] at h')))))
      | (refine q_then ?_) | (refine q_then_r ?_) | (refine q_then_e ?_) | (refine q_blk_n ?_) | (refine q_blk_r ?_) | (refine q_blk_e ?_) | (refine q_blk_o rfl ?_) | (refine q_loop_r ?_) | (refine q_loop_e ?_) | (refine ret_n ?_))
    all_goals exact ret_iL rfl rfl ⟨⟨rfl, rfl, fun h => by cases h⟩, trivial⟩ rfl
end Go.Vs
set_option linter.unusedVariables false
set_option linter.unusedSimpArgs false
set_option maxRecDepth 100000
set_option maxHeartbeats 4000000
namespace Go.Vs
open Go.Proofs
attribute [local irreducible] exec vwp thenQ blkQ loopQ RetPost
theorem k_IndexFuncGroup (xs : List Group) (g : FuncId) (ca : List (List PV)) (p : Group → Bool) (hg : ∀ a ∈ xs, Con Try.prog g (.agg a.pv :: ca.map PV.ptr) (.bool (p a))) (hn : xs.length ≤ 1099511627776) :
    Con Try.prog 76 [.list 3 (xs.map Group.pv), .fn g [] (ca.map PV.ptr)] (.int .i64 (idx p xs)) := by
  intro al
  refine contract_of hmix Try.func76 rfl (by kernel_rfl) (by kernel_rfl) (Nat.le_of_ble_eq_true rfl) (fun row h => by cases h) ?_
  have hty_u25 := ty_u25
  have hty_s25 := ty_s25
  have hty_a52 := ty_a52
  have hl1 : (xs.map Group.pv).length = xs.length := by simp
  repeat' (first
      | (refine g_exec ?_; first | (refine g_move ?_; refine x_moveO _ rfl ?_) | (refine g_assign ?_; refine x_assignO _ rfl ?_) | (refine g_bin ?_; first | (refine x_add rfl rfl aO ?_) | (refine x_bin _ rfl rfl rfl ?_) | (refine x_strBin _ rfl rfl rfl ?_)) | (refine g_load ?_; first | (refine x_load_pc aA rfl ?_) | (refine x_load_oc _ aA rfl rfl aE rfl ?_) | (refine x_load_pa _ aA rfl aZ aL ?_) | (refine x_load_oa _ aA rfl rfl aE aZ aL ?_)) | (refine g_index ?_; first | (refine x_index_l _ aA rfl rfl aO aA ?_) | (refine x_index_o _ aA rfl rfl rfl rfl aO aO (by first | (rw [Nat.zero_add, Int.toNat_natCast]) | (rw [Nat.zero_add]) | rfl) ?_)) | (refine g_call ?_; first | (refine x_len_l aA rfl ?_) | (refine x_len_o aA rfl rfl ?_) | (refine x_len_n aA rfl ?_) | (refine x_len_s aA (evO_ok rfl) ?_)) | (refine x_nil (hK _ _ (.inl rfl) ?_); clear hK K) | (refine x_nil (hK _ _ (.inr (by kernel_rfl)) ?_); clear hK K))
      | (refine g_code ?_; first | (refine v_seq ?_) | (refine v_region (fun K hK => ?_)) | (refine v_block ?_) | (refine v_skip ?_) | (refine v_ret ?_) | (refine v_exit ?_) | (refine g_cond ?_; first | (refine v_cond_y rfl aD ?_) | (refine v_cond_n rfl aD ?_) | (refine v_condt rfl (fun h => ?_) (fun h => ?_) <;> (have h' := h; (try simp only [sx] at h')))))
      | (refine q_then ?_) | (refine q_then_r ?_) | (refine q_then_e ?_) | (refine q_blk_n ?_) | (refine q_blk_r ?_) | (refine q_blk_e ?_) | (refine q_blk_o rfl ?_) | (refine q_loop_r ?_) | (refine q_loop_e ?_) | (refine ret_n ?_))
  refine v_loopK [0, 1, 7] [] (fun i : Nat => [(8, .int .i64 i)]) (fun i : Nat => []) (fun i : Nat => i ≤ xs.length ∧ ∀ j, j < i → ∀ c, xs[j]? = some c → p c = false) (fun i : Nat => xs.length - i) (0) rfl rfl (fun _ => rfl) (fun _ => rfl) rfl (by refine ⟨?_, ?_, rfl, rfl⟩ <;> (repeat' (first | exact trivial | exact ⟨rfl, rfl⟩ | exact rfl | exact ⟨sub_fn, refs_fn⟩ | refine ⟨⟨rfl, rfl⟩, ?_⟩ | refine ⟨⟨sub_fn, refs_fn⟩, ?_⟩ | refine ⟨⟨rfl, fun h => Bool.noConfusion h⟩, ?_⟩ | refine ⟨⟨rfl, fun h => ?_⟩, ?_⟩ | refine ⟨rfl, ?_⟩ | refine ⟨?_, ?_⟩ | fail))) ⟨by omega, fun j hj => by omega⟩ (fun i hi => ?_)
  obtain ⟨hi1, hi2⟩ := hi
  rcases Nat.lt_or_ge i xs.length with hlt | hge
  · obtain ⟨a, hga⟩ := get_ex hlt
    have hx := Group.at hga
    have kg := hg a (get_mem hga)
    repeat' (first
      | (refine g_exec ?_; first | (refine g_move ?_; refine x_moveO _ rfl ?_) | (refine g_assign ?_; refine x_assignO _ rfl ?_) | (refine g_bin ?_; first | (refine x_add rfl rfl aO ?_) | (refine x_bin _ rfl rfl rfl ?_) | (refine x_strBin _ rfl rfl rfl ?_)) | (refine g_load ?_; first | (refine x_load_pc aA rfl ?_) | (refine x_load_oc _ aA rfl rfl aE rfl ?_) | (refine x_load_pa _ aA rfl aZ aL ?_) | (refine x_load_oa _ aA rfl rfl aE aZ aL ?_)) | (refine g_index ?_; first | (refine x_index_l _ aA rfl rfl aO aA ?_) | (refine x_index_o _ aA rfl rfl rfl rfl aO aO (by first | (rw [Nat.zero_add, Int.toNat_natCast]) | (rw [Nat.zero_add]) | rfl) ?_)) | (refine g_call ?_; first | (refine x_callG true (kg) rfl rfl rfl aS rfl aH ?_; simp only [cl]) | (refine x_call [] _ (kg) rfl rfl aS rfl aH ?_; simp only [cl]) | (refine x_len_l aA rfl ?_) | (refine x_len_o aA rfl rfl ?_) | (refine x_len_n aA rfl ?_) | (refine x_len_s aA (evO_ok rfl) ?_)) | (refine x_nil (hK _ _ (.inl rfl) ?_); clear hK K) | (refine x_nil (hK _ _ (.inr (by kernel_rfl)) ?_); clear hK K))
      | (refine g_code ?_; first | (refine v_seq ?_) | (refine v_region (fun K hK => ?_)) | (refine v_block ?_) | (refine v_skip ?_) | (refine v_ret ?_) | (refine v_exit ?_) | (refine g_cond ?_; first | (refine v_cond_y rfl aD ?_) | (refine v_cond_n rfl aD ?_) | (refine v_condt rfl (fun h => ?_) (fun h => ?_) <;> (have h' := h; (try simp only [sx] at h')))))
      | (refine q_then ?_) | (refine q_then_r ?_) | (refine q_then_e ?_) | (refine q_blk_n ?_) | (refine q_blk_r ?_) | (refine q_blk_e ?_) | (refine q_blk_o rfl ?_) | (refine q_loop_r ?_) | (refine q_loop_e ?_) | (refine ret_n ?_))
    · exact ret_int rfl (lookE_ok rfl) (idx_some hi2 hga aA).symm
    · refine q_next (i + 1) rfl (by refine ⟨?_, ?_, rfl, rfl⟩ <;> (repeat' (first | exact trivial | exact ⟨rfl, rfl⟩ | exact rfl | exact ⟨sub_fn, refs_fn⟩ | refine ⟨⟨rfl, rfl⟩, ?_⟩ | refine ⟨⟨sub_fn, refs_fn⟩, ?_⟩ | refine ⟨⟨rfl, fun h => Bool.noConfusion h⟩, ?_⟩ | refine ⟨⟨rfl, fun h => ?_⟩, ?_⟩ | refine ⟨rfl, ?_⟩ | refine ⟨?_, ?_⟩ | fail))) ⟨by omega, idx_step hi2 hga (by simpa using h)⟩ aO
  · repeat' (first
      | (refine g_exec ?_; first | (refine g_move ?_; refine x_moveO _ rfl ?_) | (refine g_assign ?_; refine x_assignO _ rfl ?_) | (refine g_bin ?_; first | (refine x_add rfl rfl aO ?_) | (refine x_bin _ rfl rfl rfl ?_) | (refine x_strBin _ rfl rfl rfl ?_)) | (refine g_load ?_; first | (refine x_load_pc aA rfl ?_) | (refine x_load_oc _ aA rfl rfl aE rfl ?_) | (refine x_load_pa _ aA rfl aZ aL ?_) | (refine x_load_oa _ aA rfl rfl aE aZ aL ?_)) | (refine g_index ?_; first | (refine x_index_l _ aA rfl rfl aO aA ?_) | (refine x_index_o _ aA rfl rfl rfl rfl aO aO (by first | (rw [Nat.zero_add, Int.toNat_natCast]) | (rw [Nat.zero_add]) | rfl) ?_)) | (refine g_call ?_; first | (refine x_len_l aA rfl ?_) | (refine x_len_o aA rfl rfl ?_) | (refine x_len_n aA rfl ?_) | (refine x_len_s aA (evO_ok rfl) ?_)) | (refine x_nil (hK _ _ (.inl rfl) ?_); clear hK K) | (refine x_nil (hK _ _ (.inr (by kernel_rfl)) ?_); clear hK K))
      | (refine g_code ?_; first | (refine v_seq ?_) | (refine v_region (fun K hK => ?_)) | (refine v_block ?_) | (refine v_skip ?_) | (refine v_ret ?_) | (refine v_exit ?_) | (refine g_cond ?_; first | (refine v_cond_y rfl aD ?_) | (refine v_cond_n rfl aD ?_) | (refine v_condt rfl (fun h => ?_) (fun h => ?_) <;> (have h' := h; (try simp only [sx] at h')))))
      | (refine q_then ?_) | (refine q_then_r ?_) | (refine q_then_e ?_) | (refine q_blk_n ?_) | (refine q_blk_r ?_) | (refine q_blk_e ?_) | (refine q_blk_o rfl ?_) | (refine q_loop_r ?_) | (refine q_loop_e ?_) | (refine ret_n ?_))
    exact ret_int rfl (lookE_ok rfl) (idx_none fun j hj => hi2 j aO).symm
theorem k_ContainsFuncGroup (xs : List Group) (g : FuncId) (ca : List (List PV)) (p : Group → Bool) (hg : ∀ a ∈ xs, Con Try.prog g (.agg a.pv :: ca.map PV.ptr) (.bool (p a))) (hn : xs.length ≤ 1099511627776) :
    Con Try.prog 64 [.list 3 (xs.map Group.pv), .fn g [] (ca.map PV.ptr)] (.bool (xs.any p)) := by
  intro al
  refine contract_of hmix Try.func64 rfl (by kernel_rfl) (by kernel_rfl) (Nat.le_of_ble_eq_true rfl) (fun row h => by cases h) ?_
  have hty_u25 := ty_u25
  have hty_s25 := ty_s25
  repeat' (first
      | (refine g_exec ?_; first | (refine g_move ?_; refine x_moveO _ rfl ?_) | (refine g_assign ?_; refine x_assignO _ rfl ?_) | (refine g_bin ?_; refine x_bin _ rfl rfl rfl ?_) | (refine g_call ?_; refine x_callG false (k_IndexFuncGroup xs g ca p hg hn) rfl rfl rfl aS rfl aH ?_; simp only [cl]) | (refine x_nil (hK _ _ (.inl rfl) ?_); clear hK K) | (refine x_nil (hK _ _ (.inr (by kernel_rfl)) ?_); clear hK K))
      | (refine g_code ?_; first | (refine v_seq ?_) | (refine v_region (fun K hK => ?_)) | (refine v_block ?_) | (refine v_skip ?_) | (refine v_ret ?_) | (refine v_exit ?_))
      | (refine q_then ?_) | (refine q_then_r ?_) | (refine q_then_e ?_) | (refine q_blk_n ?_) | (refine q_blk_r ?_) | (refine q_blk_e ?_) | (refine q_blk_o rfl ?_) | (refine q_loop_r ?_) | (refine q_loop_e ?_) | (refine ret_n ?_))
  refine ret_bool rfl (lookE_ok rfl) ?_
  rw [← idx_any]
theorem k_all1Group (a : Group) (g : FuncId) (ca : List (List PV)) (b : Bool) (hg : Con Try.prog g (.agg a.pv :: ca.map PV.ptr) (.bool b)) :
    Con Try.prog 65 [.agg a.pv, .ptr [.fn g [] (ca.map PV.ptr)]] (.bool (!b)) := by
  intro al
  refine contract_of hmix Try.func65 rfl (by kernel_rfl) (by kernel_rfl) (Nat.le_of_ble_eq_true rfl) (fun row h => by cases h) ?_
  have hty_c70 := ty_c70
  have hty_a52 := ty_a52
  have kg := hg
  repeat' (first
      | (refine g_exec ?_; first | (refine g_assign ?_; refine x_assignO _ rfl ?_) | (refine g_un ?_; first | (refine x_not rfl ?_) | (refine x_neg rfl aO ?_)) | (refine g_load ?_; first | (refine x_load_pc aA rfl ?_) | (refine x_load_oc _ aA rfl rfl aE rfl ?_) | (refine x_load_pa _ aA rfl aZ aL ?_) | (refine x_load_oa _ aA rfl rfl aE aZ aL ?_)) | (refine g_call ?_; first | (refine x_callG true (kg) rfl rfl rfl aS rfl aH ?_; simp only [cl]) | (refine x_call [] _ (kg) rfl rfl aS rfl aH ?_; simp only [cl])) | (refine x_boxO _ _ rfl rfl rfl rfl ?_) | (refine x_nil (hK _ _ (.inl rfl) ?_); clear hK K) | (refine x_nil (hK _ _ (.inr (by kernel_rfl)) ?_); clear hK K))
      | (refine g_code ?_; first | (refine v_seq ?_) | (refine v_region (fun K hK => ?_)) | (refine v_block ?_) | (refine v_skip ?_) | (refine v_ret ?_) | (refine v_exit ?_))
      | (refine q_then ?_) | (refine q_then_r ?_) | (refine q_then_e ?_) | (refine q_blk_n ?_) | (refine q_blk_r ?_) | (refine q_blk_e ?_) | (refine q_blk_o rfl ?_) | (refine q_loop_r ?_) | (refine q_loop_e ?_) | (refine ret_n ?_))
  exact ret_bool rfl (lookE_ok rfl) rfl
theorem k_allGroup (xs : List Group) (g : FuncId) (ca : List (List PV)) (p : Group → Bool) (hg : ∀ a ∈ xs, Con Try.prog g (.agg a.pv :: ca.map PV.ptr) (.bool (p a))) (hn : xs.length ≤ 1099511627776) :
    Con Try.prog 48 [.list 3 (xs.map Group.pv), .fn g [] (ca.map PV.ptr)] (.bool (xs.all p)) := by
  intro al
  refine contract_of hmix Try.func48 rfl (by kernel_rfl) (by kernel_rfl) (Nat.le_of_ble_eq_true rfl) (fun row h => by cases h) ?_
  have hty_u25 := ty_u25
  have hty_s25 := ty_s25
  repeat' (first
      | (refine g_exec ?_; first | (refine g_move ?_; refine x_moveO _ rfl ?_) | (refine g_assign ?_; refine x_assignO _ rfl ?_) | (refine g_un ?_; first | (refine x_not rfl ?_) | (refine x_neg rfl aO ?_)) | (refine g_call ?_; refine x_callG true (k_ContainsFuncGroup xs 65 [[.fn g [] (ca.map PV.ptr)]] (fun a => !p a) (fun a ha => k_all1Group a g ca (p a) (hg a ha)) hn) rfl rfl rfl aS rfl aH ?_; simp only [cl]) | (refine x_boxO _ _ rfl rfl rfl rfl ?_) | (refine x_mkfn _ _ rfl rfl ?_) | (refine x_nil (hK _ _ (.inl rfl) ?_); clear hK K) | (refine x_nil (hK _ _ (.inr (by kernel_rfl)) ?_); clear hK K))
      | (refine g_code ?_; first | (refine v_seq ?_) | (refine v_region (fun K hK => ?_)) | (refine v_block ?_) | (refine v_skip ?_) | (refine v_ret ?_) | (refine v_exit ?_))
      | (refine q_then ?_) | (refine q_then_r ?_) | (refine q_then_e ?_) | (refine q_blk_n ?_) | (refine q_blk_r ?_) | (refine q_blk_e ?_) | (refine q_blk_o rfl ?_) | (refine q_loop_r ?_) | (refine q_loop_e ?_) | (refine ret_n ?_))
  refine ret_bool rfl (lookE_ok rfl) ?_
  rw [List.all_eq_not_any_not]
end Go.Vs
