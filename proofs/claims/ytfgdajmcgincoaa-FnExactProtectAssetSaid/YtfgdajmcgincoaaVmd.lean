/- RISK: scenes in which an asset no longer burns, made as a step of a law; marks held. -/
import Derived.Test.YtfgdajmcgincoaaVau
import Derived.Test.YtfgdajmcgincoaaVmc
import Derived.Test.YtfgdajmcgincoaaVm9
set_option linter.unusedVariables false
set_option linter.unusedSimpArgs false
set_option linter.unusedSectionVars false
set_option maxRecDepth 100000
set_option maxHeartbeats 4000000
set_option pp.deepTerms false
set_option pp.deepTerms.threshold 4
set_option format.width 220
namespace Go.Vs
open Go.Proofs
attribute [local irreducible] exec vwp thenQ blkQ loopQ RetPost

theorem con_heldSceneS (xs : List Scene) (k : Int) (hn : xs.length ≤ 1099511627776) (hb : ∀ s ∈ xs, s.burned.length ≤ 1099511627776) (hk : 0 ≤ k ∧ k + szS xs ≤ 1099511627776) : Con Try.prog 26 [.list 2 ((mS k xs).map Scene.pv), .int .i64 k] (.int .i64 (k + szS xs)) := by
  intro al
  refine contract_of hmix Try.func26 rfl (by kernel_rfl) (by kernel_rfl) (Nat.le_of_ble_eq_true rfl) (fun row h => by cases h) ?_
  have hty_u31 := ty_u31
  have hty_s31 := ty_s31
  have hty_f57_0 := ty_f57_0
  have hty_c3 := ty_c3
  have hty_f57_1 := ty_f57_1
  have hty_c40 := ty_c40
  have hty_u40 := ty_u40
  have hty_s40 := ty_s40
  have hl1 : ((mS k xs).map Scene.pv).length = xs.length := by simp [mS_len]
  repeat' (first
      | (refine g_exec ?_; first | (refine g_move ?_; refine x_moveO _ rfl ?_) | (refine g_assign ?_; refine x_assignO _ rfl ?_) | (refine g_bin ?_; first | (refine x_add rfl rfl aO ?_) | (refine x_bin _ rfl rfl rfl ?_) | (refine x_boolNe aA rfl rfl ?_) | (refine x_strBin _ rfl rfl rfl ?_)) | (refine g_load ?_; first | (refine x_load_pc aA rfl ?_) | (refine x_load_oc _ aA rfl rfl aE rfl ?_) | (refine x_load_pa _ aA rfl aZ aL ?_) | (refine x_load_oa _ aA rfl rfl aE aZ aL ?_)) | (refine g_field ?_; first | (refine x_field_p _ aA rfl aL ?_) | (refine x_field_o _ aA rfl rfl (by simp only [lx, Nat.reduceAdd]; first | done | rfl) ?_)) | (refine g_index ?_; first | (refine x_index_l _ aA rfl rfl aO aA ?_) | (refine x_index_o _ aA rfl rfl rfl rfl aO aO (by first | (rw [Nat.zero_add, Int.toNat_natCast]) | (rw [Nat.zero_add]) | rfl) ?_)) | (refine g_call ?_; first | (refine x_len_l aA rfl ?_) | (refine x_len_o aA rfl rfl ?_) | (refine x_len_n aA rfl ?_) | (refine x_len_s aA (evO_ok rfl) ?_)) | (refine x_nil (hK _ _ (.inl rfl) ?_); clear hK K) | (refine x_nil (hK _ _ (.inr (by kernel_rfl)) ?_); clear hK K))
      | (refine g_code ?_; first | (refine v_seq ?_) | (refine v_region (fun K hK => ?_)) | (refine v_block ?_) | (refine v_skip ?_) | (refine v_ret ?_) | (refine v_exit ?_) | (refine g_cond ?_; first | (refine v_cond_y rfl aD ?_) | (refine v_cond_n rfl aD ?_) | (refine v_condt rfl (fun h => ?_) (fun h => ?_) <;> (have h' := h; (try simp only [sx] at h')))))
      | (refine q_then ?_) | (refine q_then_r ?_) | (refine q_then_e ?_) | (refine q_blk_n ?_) | (refine q_blk_r ?_) | (refine q_blk_e ?_) | (refine q_blk_o rfl ?_) | (refine q_loop_r ?_) | (refine q_loop_e ?_) | (refine ret_n ?_))
  refine v_loopK [0] [] (fun p : Nat × Int => [(1, .int .i64 p.2), (5, .int .i64 p.1)]) (fun p : Nat × Int => []) (fun p : Nat × Int => p.1 ≤ xs.length ∧ p.2 = k + szS (xs.take p.1)) (fun p : Nat × Int => xs.length - p.1) ((0, k)) rfl rfl (fun _ => rfl) (fun _ => rfl) rfl (by refine ⟨?_, ?_, rfl, rfl⟩ <;> (repeat' (first | exact trivial | exact ⟨rfl, rfl⟩ | exact rfl | exact ⟨sub_fn, refs_fn⟩ | refine ⟨⟨rfl, rfl⟩, ?_⟩ | refine ⟨⟨sub_fn, refs_fn⟩, ?_⟩ | refine ⟨⟨rfl, fun h => Bool.noConfusion h⟩, ?_⟩ | refine ⟨⟨rfl, fun h => ?_⟩, ?_⟩ | refine ⟨rfl, ?_⟩ | refine ⟨?_, ?_⟩ | fail))) ⟨by simp, by simp [szS, sumBy]⟩ (fun p hp => ?_)
  obtain ⟨i, kq⟩ := p
  obtain ⟨hi1, hi2⟩ := hp
  simp only at hi1 hi2
  rcases Nat.lt_or_ge i xs.length with hlt | hge
  · obtain ⟨a, hga⟩ := get_ex hlt
    have hba := hb a (get_mem hga)
    have hsp := szS_drop xs i
    have hn1 := szS_nonneg (xs.take i)
    have hn2 : (1 : Int) + a.burned.length ≤ szS (xs.drop i) := by
      have : xs.drop i = a :: xs.drop (i + 1) := by
        obtain ⟨h1, h2⟩ := List.getElem?_eq_some_iff.1 hga
        rw [List.drop_eq_getElem_cons h1, h2]
      rw [this, szS_cons]
      have := szS_nonneg (xs.drop (i + 1))
      omega
    have hx := Scene.at (mS_at (k := k) hga)
    simp only at hx
    rw [← hi2] at hx
    have hh := con_heldIntS (kq + 1) a.burned.length hba aO
    dsimp only
    repeat' (first
      | (refine g_exec ?_; first | (refine g_move ?_; refine x_moveO _ rfl ?_) | (refine g_assign ?_; refine x_assignO _ rfl ?_) | (refine g_bin ?_; first | (refine x_add rfl rfl aO ?_) | (refine x_bin _ rfl rfl rfl ?_) | (refine x_boolNe aA rfl rfl ?_) | (refine x_strBin _ rfl rfl rfl ?_)) | (refine g_load ?_; first | (refine x_load_pc aA rfl ?_) | (refine x_load_oc _ aA rfl rfl aE rfl ?_) | (refine x_load_pa _ aA rfl aZ aL ?_) | (refine x_load_oa _ aA rfl rfl aE aZ aL ?_)) | (refine g_field ?_; first | (refine x_field_p _ aA rfl aL ?_) | (refine x_field_o _ aA rfl rfl (by simp only [lx, Nat.reduceAdd]; first | done | rfl) ?_)) | (refine g_index ?_; first | (refine x_index_l _ aA rfl rfl aO aA ?_) | (refine x_index_o _ aA rfl rfl rfl rfl aO aO (by first | (rw [Nat.zero_add, Int.toNat_natCast]) | (rw [Nat.zero_add]) | rfl) ?_)) | (refine g_call ?_; first | (refine x_callG true (hh) rfl rfl rfl aS rfl aH ?_; simp only [cl]) | (refine x_len_l aA rfl ?_) | (refine x_len_o aA rfl rfl ?_) | (refine x_len_n aA rfl ?_) | (refine x_len_s aA (evO_ok rfl) ?_)) | (refine x_nil (hK _ _ (.inl rfl) ?_); clear hK K) | (refine x_nil (hK _ _ (.inr (by kernel_rfl)) ?_); clear hK K))
      | (refine g_code ?_; first | (refine v_seq ?_) | (refine v_region (fun K hK => ?_)) | (refine v_block ?_) | (refine v_skip ?_) | (refine v_ret ?_) | (refine v_exit ?_) | (refine g_cond ?_; first | (refine v_cond_y rfl aD ?_) | (refine v_cond_n rfl aD ?_) | (refine v_condt rfl (fun h => ?_) (fun h => ?_) <;> (have h' := h; (try simp only [sx] at h')))))
      | (refine q_then ?_) | (refine q_then_r ?_) | (refine q_then_e ?_) | (refine q_blk_n ?_) | (refine q_blk_r ?_) | (refine q_blk_e ?_) | (refine q_blk_o rfl ?_) | (refine q_loop_r ?_) | (refine q_loop_e ?_) | (refine ret_n ?_))
    all_goals first | (exfalso; first | omega | simp_all; done) | skip
    refine q_next (i + 1, kq + 1 + a.burned.length) rfl (by refine ⟨?_, ?_, rfl, rfl⟩ <;> (repeat' (first | exact trivial | exact ⟨rfl, rfl⟩ | exact rfl | exact ⟨sub_fn, refs_fn⟩ | refine ⟨⟨rfl, rfl⟩, ?_⟩ | refine ⟨⟨sub_fn, refs_fn⟩, ?_⟩ | refine ⟨⟨rfl, fun h => Bool.noConfusion h⟩, ?_⟩ | refine ⟨⟨rfl, fun h => ?_⟩, ?_⟩ | refine ⟨rfl, ?_⟩ | refine ⟨?_, ?_⟩ | fail))) ⟨by simp only; omega, by simp only; rw [szS_take hga]; omega⟩ (by simp only; omega)
  · repeat' (first
      | (refine g_exec ?_; first | (refine g_move ?_; refine x_moveO _ rfl ?_) | (refine g_assign ?_; refine x_assignO _ rfl ?_) | (refine g_bin ?_; first | (refine x_add rfl rfl aO ?_) | (refine x_bin _ rfl rfl rfl ?_) | (refine x_boolNe aA rfl rfl ?_) | (refine x_strBin _ rfl rfl rfl ?_)) | (refine g_load ?_; first | (refine x_load_pc aA rfl ?_) | (refine x_load_oc _ aA rfl rfl aE rfl ?_) | (refine x_load_pa _ aA rfl aZ aL ?_) | (refine x_load_oa _ aA rfl rfl aE aZ aL ?_)) | (refine g_field ?_; first | (refine x_field_p _ aA rfl aL ?_) | (refine x_field_o _ aA rfl rfl (by simp only [lx, Nat.reduceAdd]; first | done | rfl) ?_)) | (refine g_index ?_; first | (refine x_index_l _ aA rfl rfl aO aA ?_) | (refine x_index_o _ aA rfl rfl rfl rfl aO aO (by first | (rw [Nat.zero_add, Int.toNat_natCast]) | (rw [Nat.zero_add]) | rfl) ?_)) | (refine g_call ?_; first | (refine x_len_l aA rfl ?_) | (refine x_len_o aA rfl rfl ?_) | (refine x_len_n aA rfl ?_) | (refine x_len_s aA (evO_ok rfl) ?_)) | (refine x_nil (hK _ _ (.inl rfl) ?_); clear hK K) | (refine x_nil (hK _ _ (.inr (by kernel_rfl)) ?_); clear hK K))
      | (refine g_code ?_; first | (refine v_seq ?_) | (refine v_region (fun K hK => ?_)) | (refine v_block ?_) | (refine v_skip ?_) | (refine v_ret ?_) | (refine v_exit ?_) | (refine g_cond ?_; first | (refine v_cond_y rfl aD ?_) | (refine v_cond_n rfl aD ?_) | (refine v_condt rfl (fun h => ?_) (fun h => ?_) <;> (have h' := h; (try simp only [sx] at h')))))
      | (refine q_then ?_) | (refine q_then_r ?_) | (refine q_then_e ?_) | (refine q_blk_n ?_) | (refine q_blk_r ?_) | (refine q_blk_e ?_) | (refine q_blk_o rfl ?_) | (refine q_loop_r ?_) | (refine q_loop_e ?_) | (refine ret_n ?_))
    exact ret_int rfl (lookE_ok rfl) (by rw [hi2, List.take_of_length_le aO])

section
variable [fl : Inhabited FlrT]
/-- The program's ProtectAsset, called by a law. -/
theorem big_newP {o : Oper} {c : Call} {f : Operand} {fi ca : List PV} {env : List (Nat × PV)} {mem : List (Id × Option Row)} {d : Nat} {rd : List Id} (xs : List Asset) (ys : List Scene) (n : Int) (z : Sz xs ys) (ps : List (Int × List (List PV))) (qx : Plc) (qsx : List Plc) (tx : Nat)
    (ho : o.op = .call c) (hcal : c.callee = .value f) (hev : ev (getE env) f = .fn 25 fi ca) (hdst : o.dst = some d)
    (hsnap : AllR (SnapD 6 (getM mem) [] rd) (fi ++ c.args.toList.map (ev (getE env)) ++ ca) [.list 4 (xs.map Asset.pv), .list 2 (ys.map Scene.pv), .int .i64 n]) (hd0 : d ≠ io) (htx : getE env tx = .sem (Tree 57 3 ps qx qsx)) (env' : Nat → List (Nat × PV))
    (henv : ∀ m, allL (fun p : Nat × PV => getE env p.1 = p.2 ∨ ∃ y k, getE env p.1 = .sem (Old k y) ∧ p.2 = .sem (Old (min k m) y)) (env' m)) :
    BigStep Try.prog o ⟨env, mem⟩ fun st' => ∃ q qs m, qs.length = (prL xs ys n).length ∧ Apart (q :: qs) ∧ (∀ q' ∈ q :: qs, ∀ b, inQ q' b → flN ≤ b ∧ m ≤ b ∧ ∀ q2 ∈ qx :: qsx, ¬ inQ q2 b) ∧
      st' = ⟨(d, .tuple [.sem (Tree 57 3 ((prL xs ys n).map spn) q qs), .bool (decide (ChOk xs ys n))]) :: env' m, mem⟩ := by
  rintro G w0 X N a w K Q hd hF ⟨ρ, hW, hdef, hs, hV⟩ hK
  have hf := rep_ev hV f
  rw [show ev (St.V ⟨env, mem⟩) f = .fn 25 fi ca from hev] at hf
  obtain ⟨vfi, vca, hfv, c1, c2⟩ := rep_fn.1 hf
  have hargs := (c1.append (comps_map hV c.args)).append c2
  have hrun : (execOp a.eval o).run Try.prog w = .ok (.enter 25 (vfi ++ c.args.map a.eval ++ vca)) w := by
    simp only [execOp, ho, resolve, hcal, hfv, Deferred.ofValue, Sem.run_bind, Sem.run_pure, Result.andThen_ok, invoke, callFunc, run_program, (show Try.prog.funcs[(25 : Nat)]? = some _ from Try.func25)]
    rfl
  unfold Oper.wp
  rw [hrun]
  show Calls Try.prog 25 _ w _
  have hnone : ∀ id r, ioMem [] id ≠ some (some r) := by
    intro id r h
    simp [ioMem] at h
  have hS : ∀ b, Stab G ρ (getM mem) w b → Stab (fun _ => True) (fun _ => none) (ioMem []) w b := fun b h => ⟨h.1, fun id r z h1 => absurd h1 (hnone id r), trivial⟩
  have hW' : WRel (fun _ => True) (fun _ => none) w [] (ioMem []) w :=
    ⟨fun id id' r r' b z z' h => absurd h (hnone id r), fun id r h => absurd h (hnone id r), fun id r h => absurd h (hnone id r), ⟨rfl, rfl, rfl, Nat.le_refl _, fun _ _ _ => rfl, fun b cur ty fr h => ⟨cur, h, rfl⟩⟩,
      fun b h => trivial, hW.tab.mono fun b h => ⟨hS b h, rfl⟩⟩
  have hF' : FlOk (fl := ⟨⟨w.heap.size, fun _ => False⟩⟩) w [] := ⟨Nat.le_refl _, fun _ h => h.elim, fun b z h => by simp at h⟩
  have hcomps : Comps (fun _ => none) w (Stab (fun _ => True) (fun _ => none) (ioMem []) w) (ioMem []) (vfi ++ c.args.map a.eval ++ vca) [.list 4 (xs.map Asset.pv), .list 2 (ys.map Scene.pv), .int .i64 n] :=
    comps_snap (snap_sound hW hS (fun id _ r b z h1 h2 => ⟨hW.lt h1 h2, fun id r z h1 => absurd h1 (hnone id r), trivial⟩) 6 [] (ioMem []) (fun _ => none) (fun k id hk => by simp at hk)) hsnap hargs
  refine (new_Protect (fl := ⟨⟨w.heap.size, fun _ => False⟩⟩) xs ys n z hF' hW' hcomps).mono ?_
  rintro e w' ⟨v, r, fin, rfl, ⟨qs, hql, hap, hfr, rfl⟩, hfin, _, hret⟩
  have hfin : fin = [] := List.eq_nil_of_length_eq_zero hfin
  subst hfin
  obtain ⟨ρ2, hR⟩ := hret d hd0
  have hrel := hR.rel
  have hval := hR.val
  have hth : thaw d (.tuple [.olist 57 2 (rowQ 3 ((prL xs ys n).map spn) qs), .bool (decide (ChOk xs ys n))]) = (.tuple [.osl (d, 0) 0 (rowQ 3 ((prL xs ys n).map spn) qs).length, .bool (decide (ChOk xs ys n))], [((d, 0), some ⟨57, 2, rowQ 3 ((prL xs ys n).map spn) qs, false⟩)]) := rfl
  rw [hth] at hrel hval
  have hkeep := hrel.keep
  have hM2 : ((ioMem (withEs [] [])).upds [((d, 0), some (⟨57, 2, rowQ 3 ((prL xs ys n).map spn) qs, false⟩ : Row))]) (d, 0) = some (some ⟨57, 2, rowQ 3 ((prL xs ys n).map spn) qs, false⟩) := by simp [Mem.upds, Mem.set]
  have hrow := hrel.row (d, 0) _ hM2
  have hnew := hrel.new (d, 0) _ hM2
  rw [if_neg hd0] at hnew
  have hnq : ∀ b, inQ (ρ2 (d, 0)) b → w.heap.size ≤ b := by
    rintro b ⟨z, hz⟩
    rcases hnew b z hz with h | ⟨z', h⟩
    · exact h
    · simp at h
  obtain ⟨cs, rfl, hcs, hcv⟩ := rep_tuple.1 hval
  obtain ⟨va, ha1, ha2⟩ := hcv 0 _ rfl
  obtain ⟨vb, hb1, hb2⟩ := hcv 1 _ rfl
  have hosl := (rep_osl (r := ⟨57, 2, rowQ 3 ((prL xs ys n).map spn) qs, false⟩) (by simp [Mem.upds, Mem.set])).1 ha2
  have hlen : (rowQ 3 ((prL xs ys n).map spn) qs).length = (prL xs ys n).length := by rw [rowQ_len (by simp; omega)]; simp
  have hin : ∀ (i : Nat) qi b, qs[i]? = some qi → inQ qi b → Stab (fun _ => True) ρ2 ((ioMem (withEs [] [])).upds [((d, 0), some (⟨57, 2, rowQ 3 ((prL xs ys n).map spn) qs, false⟩ : Row))]) w' b := by
    intro i qi b hi hb'
    have hlt := (List.getElem?_eq_some_iff.1 hi).1
    obtain ⟨s, hs⟩ := get_ex (show i < (prL xs ys n).length by omega)
    have hat := rowQ_at (TI := 3) (ps := (prL xs ys n).map spn) (p := spn s) (by simp [hs]) hi
    cases hρ : ρ2 (d, 0) with
    | none =>
      rw [hρ] at hrow
      have : rowQ 3 ((prL xs ys n).map spn) qs = [] := hrow.1
      rw [this] at hat
      simp at hat
    | some bz =>
      obtain ⟨b0, z⟩ := bz
      rw [hρ] at hrow
      obtain ⟨cur, C, g1, g2, g3, g4, g5, g6⟩ := hrow
      obtain ⟨c, c1, c2, c3⟩ := (g6 i _ hat).2 1 _ rfl
      exact (rep_LP.1 c3).1 b hb'
  have htree : Tree 57 3 ((prL xs ys n).map spn) (ρ2 (d, 0)) qs (fun b => w.heap.size ≤ b ∧ b < w'.heap.size) w' va := by
    refine ⟨fun b hb => ⟨hnq b hb, rowOk_lt hrow hb⟩, hosl, rowQ_cong hrow (fun _ _ => rfl) fun q' hq' b hb hs => ⟨rfl, hs.1, fun id r z h => by simp [noMem] at h, hfr q' hq' b hb, hs.1⟩, by simp; omega⟩
  obtain ⟨T, W'⟩ := keep_trans hkeep hW
  have hfl : ∀ q' ∈ ρ2 (d, 0) :: qs, ∀ b, inQ q' b → w.heap.size ≤ b := by
    intro q' hq' b hb
    exact (htree.inB q' hq' b hb).1.1
  have h0w : w0.heap.size ≤ w.heap.size := hW.keep.size
  have hxt := hV tx
  simp only [St.V] at hxt
  rw [htx] at hxt
  have hxT := rep_Tree.1 hxt
  have hbase : ∀ t, Rep ρ w' (Stab G ρ (getM mem) w') (getM mem) (a.tmps.getD t undef) (getE (env' w.heap.size) t) := by
    intro t
    rcases getE_mem (l := env' w.heap.size) (t := t) with h | h
    · rw [h]; exact rep_any
    · have h3 := hV t
      simp only [St.V] at h3
      rcases allL_mem (henv w.heap.size) _ h with h1 | ⟨y, k, h1, h2⟩
      · simp only at h1
        rw [h1] at h3
        exact T.rep h3
      · simp only at h1 h2
        rw [h1] at h3
        rw [h2]
        obtain ⟨g0, B, g1, g2⟩ := rep_sem.1 h3
        refine rep_sem.2 ⟨g0, B, fun b hb => (T.stab b (g1 b hb)).1, fun w2 ha => ?_⟩
        obtain ⟨k1, k2, k3⟩ := g2 w2 fun b hb => (ha b hb).trans (T.stab b (g1 b hb)).2
        exact ⟨fun b hb => Nat.lt_min.2 ⟨k1 b hb, (g1 b hb).1⟩, k2, k3⟩
  have hpr := put_rel (V := getE (env' w.heap.size)) (d := some d) (x := .tuple [.sem (Tree 57 3 ((prL xs ys n).map spn) (ρ2 (d, 0)) qs), .bool (decide (ChOk xs ys n))]) (v := .tuple cs) (fun t e => hd t (by rw [hdst]; exact e)) hdef hs hbase (Trans.refl _ _ _ _) W'
    (rep_tuple.2 ⟨cs, rfl, hcs, fun j u hu => by
      match j, hu with
      | 0, hu =>
        simp at hu
        subst hu
        exact ⟨va, ha1, rep_Tree.2 (htree.at (fun b hb => ⟨rfl, rowOk_lt hrow hb, fun id r z h h2 => by have := hW.lt h h2; have := hnq b hb; omega, hW.good b (.inl (Nat.le_trans h0w (hnq b hb)))⟩)
          fun q' hq' b hb => ⟨rfl, (htree.inB q' (List.mem_cons_of_mem _ hq') b hb).2, fun id r z h h2 => by have := hW.lt h h2; have := hfl q' (List.mem_cons_of_mem _ hq') b hb; omega, hW.good b (.inl (Nat.le_trans h0w (hfl q' (List.mem_cons_of_mem _ hq') b hb)))⟩)⟩
      | 1, hu =>
        simp at hu
        subst hu
        exact ⟨vb, hb1, rep_bool.2 (rep_bool.1 hb2)⟩
      | j + 2, hu => simp at hu⟩)
  show K (a.put o.dst (.tuple cs)) w'
  refine hK _ _ w' ⟨ρ2 (d, 0), qs, w.heap.size, hql, ?_, fun q' hq' b hb => ⟨Nat.le_trans hF.1 (Nat.le_trans h0w (hfl q' hq' b hb)), hfl q' hq' b hb, fun q2 hq2 hin2 => ?_⟩, rfl⟩ ?_
  · intro i j qi qj b hi hj h1 h2
    cases i with
    | zero =>
      cases j with
      | zero => rfl
      | succ j =>
        simp at hi hj
        subst hi
        obtain ⟨z, hz⟩ := h1
        exact absurd hz ((hin j qj b hj h2).2.1 (d, 0) _ z hM2)
    | succ i =>
      cases j with
      | zero =>
        simp at hi hj
        subst hj
        obtain ⟨z, hz⟩ := h2
        exact absurd hz ((hin i qi b hi h1).2.1 (d, 0) _ z hM2)
      | succ j => exact congrArg (· + 1) (hap i j qi qj b (by simpa using hi) (by simpa using hj) h1 h2)
  · have h5 := (hxT.inB q2 hq2 b hin2).2
    have h6 := hfl q' hq' b hb
    omega
  · rw [hdst]
    have e : St.V ⟨(d, .tuple [.sem (Tree 57 3 ((prL xs ys n).map spn) (ρ2 (d, 0)) qs), .bool (decide (ChOk xs ys n))]) :: env' w.heap.size, mem⟩ = putV (getE (env' w.heap.size)) (some d) (.tuple [.sem (Tree 57 3 ((prL xs ys n).map spn) (ρ2 (d, 0)) qs), .bool (decide (ChOk xs ys n))]) := getE_put _ (some d) _
    rw [e]
    exact hpr
section
variable {ops : Array Oper} {rest : List Oper} {env : List (Nat × PV)} {mem : List (Id × Option Row)} {tr : List (List Id × List Id)} {K : St → List (List Id × List Id) → Prop}
  {d : Nat} {ty : TypeId} {pos : String} {af : Array Edge}
theorem x_newP {f : Operand} {args : List Operand} {ats : Array TypeId} {fi ca xs' : List PV} {rd : List Id} (env' : Nat → List (Nat × PV)) (xs : List Asset) (ys : List Scene) (n : Int) (z : Sz xs ys) (ps : List (Int × List (List PV))) (qx : Plc) (qsx : List Plc) (tx : Nat)
    (hf : ev (getE env) f = .fn 25 fi ca) (hxs : fi ++ args.map (ev (getE env)) ++ ca = xs') (hrd : rdL (rdO true 6 mem) xs' [.list 4 (xs.map Asset.pv), .list 2 (ys.map Scene.pv), .int .i64 n] [] = some rd)
    (hsnap : AllR (SnapD 6 (getM mem) [] rd) xs' [.list 4 (xs.map Asset.pv), .list 2 (ys.map Scene.pv), .int .i64 n]) (hd0 : Nat.beq d io = false) (htx : getE env tx = .sem (Tree 57 3 ps qx qsx))
    (henv : ∀ m, allL (fun p : Nat × PV => getE env p.1 = p.2 ∨ ∃ y k, getE env p.1 = .sem (Old k y) ∧ p.2 = .sem (Old (min k m) y)) (env' m))
    (hk : ∀ q qs m, qs.length = (prL xs ys n).length → Apart (q :: qs) → (∀ q' ∈ q :: qs, ∀ b, inQ q' b → flN ≤ b ∧ m ≤ b ∧ ∀ q2 ∈ qx :: qsx, ¬ inQ q2 b) →
      exec Try.prog ops false rest ⟨(d, .tuple [.sem (Tree 57 3 ((prL xs ys n).map spn) q qs), .bool (decide (ChOk xs ys n))]) :: env' m, mem⟩ (([], []) :: tr) K) :
    exec Try.prog ops false (⟨some d, .call ⟨.value f, args.toArray, ats⟩, ty, pos, af, none⟩ :: rest) ⟨env, mem⟩ tr K := by
  subst hxs
  exact x_big _ rfl (big_newP xs ys n z ps qx qsx tx rfl rfl hf rfl (by simpa using hsnap) (fun e => by rw [e] at hd0; simp at hd0) htx env' henv) rfl fun st' ⟨q, qs, m, h1, h2, h3, e⟩ => by rw [e]; exact hk q qs m h1 h2 h3
end
end
end Go.Vs
