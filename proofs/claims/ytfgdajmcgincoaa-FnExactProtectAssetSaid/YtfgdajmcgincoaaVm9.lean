/- RISK: a law's list of scenes, made and marked, as steps of the law. -/
import Derived.Test.YtfgdajmcgincoaaVau
import Derived.Test.YtfgdajmcgincoaaVm8
set_option linter.unusedVariables false
set_option linter.unusedSimpArgs false
set_option linter.unusedSectionVars false
set_option maxRecDepth 100000
set_option maxHeartbeats 4000000
namespace Go.Vs
open Go.Proofs
attribute [local irreducible] exec vwp thenQ blkQ loopQ RetPost

section
variable [fl : Inhabited FlrT]
/-- A law's list of scenes is made. -/
theorem big_newS {o : Oper} {c : Call} {f : Operand} {fi ca : List PV} {env : List (Nat × PV)} {mem : List (Id × Option Row)} {d : Nat} (xs : List Scene) (hn : xs.length ≤ 1099511627776) (hb : ∀ s ∈ xs, s.burned.length ≤ 1099511627776)
    (ho : o.op = .call c) (hcal : c.callee = .value f) (hev : ev (getE env) f = .fn 10 fi ca) (hdst : o.dst = some d) (hxs : fi ++ c.args.toList.map (ev (getE env)) ++ ca = [.list 2 (xs.map Scene.pv)]) (hd0 : d ≠ io) (env' : Nat → List (Nat × PV))
    (henv : ∀ n, allL (fun p : Nat × PV => getE env p.1 = p.2 ∨ ∃ sz es, getE env p.1 = .list sz es ∧ p.2 = .sem (Old n (.list sz es))) (env' n)) :
    BigStep Try.prog o ⟨env, mem⟩ fun st' => ∃ q qs n, qs.length = xs.length ∧ Apart (q :: qs) ∧ (∀ q' ∈ q :: qs, ∀ b, inQ q' b → flN ≤ b ∧ n ≤ b) ∧ st' = ⟨(d, .sem (Tree 57 3 (xs.map spn) q qs)) :: env' n, mem⟩ := by
  rintro G w0 X N a w K Q hd hF ⟨ρ, hW, hdef, hs, hV⟩ hK
  have hf := rep_ev hV f
  rw [show ev (St.V ⟨env, mem⟩) f = .fn 10 fi ca from hev] at hf
  obtain ⟨vfi, vca, hfv, c1, c2⟩ := rep_fn.1 hf
  have hargs := (c1.append (comps_map hV c.args)).append c2
  rw [show fi ++ c.args.toList.map (ev (St.V ⟨env, mem⟩)) ++ ca = _ from hxs] at hargs
  have hrun : (execOp a.eval o).run Try.prog w = .ok (.enter 10 (vfi ++ c.args.map a.eval ++ vca)) w := by
    simp only [execOp, ho, resolve, hcal, hfv, Deferred.ofValue, Sem.run_bind, Sem.run_pure, Result.andThen_ok, invoke, callFunc, run_program, (show Try.prog.funcs[(10 : Nat)]? = some _ from Try.func10)]
    rfl
  unfold Oper.wp
  rw [hrun]
  show Calls Try.prog 10 _ w _
  have hnone : ∀ id r, ioMem [] id ≠ some (some r) := by
    intro id r h
    simp [ioMem] at h
  let G' : Nat → Prop := fun b => Stab G ρ (getM mem) w b ∨ w.heap.size ≤ b
  have hS : ∀ b, Stab G ρ (getM mem) w b → Stab G' (fun _ => none) (ioMem []) w b := fun b h => ⟨h.1, fun id r z h1 => absurd h1 (hnone id r), .inl h⟩
  have hW' : WRel G' (fun _ => none) w [] (ioMem []) w :=
    ⟨fun id id' r r' b z z' h => absurd h (hnone id r), fun id r h => absurd h (hnone id r), fun id r h => absurd h (hnone id r), ⟨rfl, rfl, rfl, Nat.le_refl _, fun _ _ _ => rfl, fun b cur ty fr h => ⟨cur, h, rfl⟩⟩,
      fun b h => h.elim .inr (fun ⟨z, h⟩ => by simp at h), hW.tab.mono fun b h => ⟨hS b h, rfl⟩⟩
  have hF' : FlOk (fl := ⟨⟨w.heap.size, fun _ => False⟩⟩) w [] := ⟨Nat.le_refl _, fun _ h => h.elim, fun b z h => by simp at h⟩
  obtain ⟨v0, h1, h2⟩ := hargs.2 0 _ rfl
  have hlist : Rep (fun _ => none) w (Stab G' (fun _ => none) (ioMem []) w) (ioMem []) v0 (.list 2 (xs.map Scene.pv)) := by
    have h2 : Rep ρ w (Stab G ρ (getM mem) w) noMem v0 (.list 2 (xs.map Scene.pv)) := rep_list.2 (rep_list.1 h2)
    have h3 : Rep (fun _ => none) w (Stab G' (fun _ => none) (ioMem []) w) noMem v0 (.list 2 (xs.map Scene.pv)) := h2.pureMono fun b hb => ⟨hS b hb, rfl⟩
    exact rep_list.2 (rep_list.1 h3)
  refine (new_toSceneS (fl := ⟨⟨w.heap.size, fun _ => False⟩⟩) xs hn hb hF' hW' ⟨hargs.1, fun j u hu => ?_⟩).mono ?_
  · match j, hu with
    | 0, hu => simp at hu; subst hu; exact ⟨v0, h1, hlist⟩
    | j + 1, hu => simp at hu
  rintro e w' ⟨v, r, fin, rfl, ⟨qs, hql, hap, hfr, rfl⟩, hfin, _, hret⟩
  have hfin : fin = [] := List.eq_nil_of_length_eq_zero hfin
  subst hfin
  obtain ⟨ρ2, hR⟩ := hret d hd0
  have hrel := hR.rel
  have hval := hR.val
  have hth : thaw d (.olist 57 2 (rowQ 3 (xs.map spn) qs)) = (.osl (d, 0) 0 (rowQ 3 (xs.map spn) qs).length, [((d, 0), some ⟨57, 2, rowQ 3 (xs.map spn) qs, false⟩)]) := rfl
  rw [hth] at hrel hval
  have hkeep := hrel.keep
  have hM2 : ((ioMem (withEs [] [])).upds [((d, 0), some (⟨57, 2, rowQ 3 (xs.map spn) qs, false⟩ : Row))]) (d, 0) = some (some ⟨57, 2, rowQ 3 (xs.map spn) qs, false⟩) := by simp [Mem.upds, Mem.set]
  have hrow := hrel.row (d, 0) _ hM2
  have hnew := hrel.new (d, 0) _ hM2
  rw [if_neg hd0] at hnew
  have hnq : ∀ b, inQ (ρ2 (d, 0)) b → w.heap.size ≤ b := by
    rintro b ⟨z, hz⟩
    rcases hnew b z hz with h | ⟨z', h⟩
    · exact h
    · simp at h
  have hosl := (rep_osl (r := ⟨57, 2, rowQ 3 (xs.map spn) qs, false⟩) (by simp [Mem.upds, Mem.set])).1 hval
  have hlen : (rowQ 3 (xs.map spn) qs).length = xs.length := by rw [rowQ_len (by simp; omega)]; simp
  have hin : ∀ (i : Nat) qi b, qs[i]? = some qi → inQ qi b → Stab G' ρ2 ((ioMem (withEs [] [])).upds [((d, 0), some (⟨57, 2, rowQ 3 (xs.map spn) qs, false⟩ : Row))]) w' b := by
    intro i qi b hi hb'
    have hlt := (List.getElem?_eq_some_iff.1 hi).1
    obtain ⟨s, hs⟩ := get_ex (show i < xs.length by omega)
    have hat := rowQ_at (TI := 3) (ps := xs.map spn) (p := spn s) (by simp [hs]) hi
    cases hρ : ρ2 (d, 0) with
    | none =>
      rw [hρ] at hrow
      have : rowQ 3 (xs.map spn) qs = [] := hrow.1
      rw [this] at hat
      simp at hat
    | some bz =>
      obtain ⟨b0, z⟩ := bz
      rw [hρ] at hrow
      obtain ⟨cur, C, g1, g2, g3, g4, g5, g6⟩ := hrow
      obtain ⟨c, c1, c2, c3⟩ := (g6 i _ hat).2 1 _ rfl
      exact (rep_LP.1 c3).1 b hb'
  have htree : Tree 57 3 (xs.map spn) (ρ2 (d, 0)) qs (fun b => w.heap.size ≤ b ∧ b < w'.heap.size) w' v := by
    refine ⟨fun b hb => ⟨hnq b hb, rowOk_lt hrow hb⟩, hosl, rowQ_cong hrow (fun _ _ => rfl) fun q' hq' b hb hs => ⟨rfl, hs.1, fun id r z h => by simp [noMem] at h, hfr q' hq' b hb, hs.1⟩, by simp; omega⟩
  obtain ⟨T, W'⟩ := keep_trans hkeep hW
  have hfl : ∀ q' ∈ ρ2 (d, 0) :: qs, ∀ b, inQ q' b → w.heap.size ≤ b := by
    intro q' hq' b hb
    exact (htree.inB q' hq' b hb).1.1
  have h0w : w0.heap.size ≤ w.heap.size := hW.keep.size
  have hbase : ∀ t, Rep ρ w' (Stab G ρ (getM mem) w') (getM mem) (a.tmps.getD t undef) (getE (env' w.heap.size) t) := by
    intro t
    rcases getE_mem (l := env' w.heap.size) (t := t) with h | h
    · rw [h]; exact rep_any
    · have h3 := hV t
      simp only [St.V] at h3
      rcases allL_mem (henv w.heap.size) _ h with h1 | ⟨sz, es, h1, h2⟩
      · simp only at h1
        rw [h1] at h3
        exact T.rep h3
      · simp only at h1 h2
        rw [h1] at h3
        rw [h2]
        refine rep_sem.2 ⟨?_, fun b => Stab G ρ (getM mem) w b, fun b hb => (T.stab b hb).1, fun w2 ha => ⟨fun b hb => hb.1, ?_, (show Rep ρ w (Stab G ρ (getM mem) w) noMem _ (.list sz es) from rep_list.2 (rep_list.1 h3)).pureMono fun b hb => ⟨hb, (ha b hb).trans (T.stab b hb).2⟩⟩⟩
        · obtain ⟨a, cap, e, _⟩ := rep_list.1 h3; rw [e]; rfl
        · obtain ⟨a, cap, e, _⟩ := rep_list.1 h3; rw [e]; rfl
  have hpr := put_rel (V := getE (env' w.heap.size)) (d := some d) (x := .sem (Tree 57 3 (xs.map spn) (ρ2 (d, 0)) qs)) (v := v) (fun t e => hd t (by rw [hdst]; exact e)) hdef hs hbase (Trans.refl _ _ _ _) W'
    (rep_Tree.2 (htree.at (fun b hb => ⟨rfl, rowOk_lt hrow hb, fun id r z h h2 => by have := hW.lt h h2; have := hnq b hb; omega, hW.good b (.inl (Nat.le_trans h0w (hnq b hb)))⟩)
      fun q' hq' b hb => ⟨rfl, (htree.inB q' (List.mem_cons_of_mem _ hq') b hb).2, fun id r z h h2 => by have := hW.lt h h2; have := hfl q' (List.mem_cons_of_mem _ hq') b hb; omega, hW.good b (.inl (Nat.le_trans h0w (hfl q' (List.mem_cons_of_mem _ hq') b hb)))⟩))
  show K (a.put o.dst v) w'
  refine hK _ _ w' ⟨ρ2 (d, 0), qs, w.heap.size, hql, ?_, fun q' hq' b hb => ⟨Nat.le_trans hF.1 (Nat.le_trans h0w (hfl q' hq' b hb)), hfl q' hq' b hb⟩, rfl⟩ ?_
  · intro i j qi qj b hi hj h1 h2
    cases i with
    | zero =>
      cases j with
      | zero => rfl
      | succ j =>
        simp at hi hj
        subst hi
        obtain ⟨z, hz⟩ := h1
        exact absurd hz ((hin j qj b hj h2).2.1 (d, 0) _ z hM2)
    | succ i =>
      cases j with
      | zero =>
        simp at hi hj
        subst hj
        obtain ⟨z, hz⟩ := h2
        exact absurd hz ((hin i qi b hi h1).2.1 (d, 0) _ z hM2)
      | succ j => exact congrArg (· + 1) (hap i j qi qj b (by simpa using hi) (by simpa using hj) h1 h2)
  · rw [hdst]
    have e : St.V ⟨(d, .sem (Tree 57 3 (xs.map spn) (ρ2 (d, 0)) qs)) :: env' w.heap.size, mem⟩ = putV (getE (env' w.heap.size)) (some d) (.sem (Tree 57 3 (xs.map spn) (ρ2 (d, 0)) qs)) := getE_put _ (some d) _
    rw [e]
    exact hpr
/-- A law's list of scenes is marked. -/
theorem big_markS {o : Oper} {c : Call} {f : Operand} {fi ca : List PV} {env env' : List (Nat × PV)} {mem mem' : List (Id × Option Row)} {d : Nat} (xs : List Scene) (q : Plc) (qs : List Plc) (k : Int) (hn : xs.length ≤ 1099511627776) (hb : ∀ s ∈ xs, s.burned.length ≤ 1099511627776)
    (hk : 0 ≤ k ∧ k + szS xs ≤ 1099511627776) (ha : Apart (q :: qs)) (hw : ∀ q' ∈ q :: qs, ∀ b, inQ q' b → flW b ∧ flN ≤ b)
    (ho : o.op = .call c) (hcal : c.callee = .value f) (hev : ev (getE env) f = .fn 16 fi ca) (hdst : o.dst = some d) (hxs : fi ++ c.args.toList.map (ev (getE env)) ++ ca = [.sem (Tree 57 3 (xs.map spn) q qs), .int .i64 k])
    (henv : allL (fun p : Nat × PV => (getE env p.1 = p.2 ∧ Lasts mem' (fun b => ∃ q' ∈ q :: qs, inQ q' b) p.2) ∨ (getE env p.1 = .sem (Tree 57 3 (xs.map spn) q qs) ∧ p.2 = .sem (Tree 57 3 ((mS k xs).map spn) q qs))) env')
    (hmem : allL (fun p : Id × Option Row => getM mem p.1 = some p.2 ∧ ∀ r, p.2 = some r → r.bx = false ∧ flatE r.es) mem') :
    BigStep Try.prog o ⟨env, mem⟩ fun st' => st' = ⟨(d, .int .i64 (k + szS xs)) :: env', mem'⟩ := by
  have hmm : ∀ id r', getM mem' id = some (some r') → getM mem id = some (some r') ∧ r'.bx = false ∧ flatE r'.es := by
    intro id r' h
    obtain ⟨h1, h2⟩ := allL_mem hmem _ (getM_mem h)
    exact ⟨h1, h2 r' rfl⟩
  refine big_write ho hcal hev hdst hxs ⟨_, Try.func16, by kernel_rfl, rfl⟩ rfl (fun b => ∃ q' ∈ q :: qs, inQ q' b) (fun x y => x = .sem (Tree 57 3 (xs.map spn) q qs) ∧ y = .sem (Tree 57 3 ((mS k xs).map spn) q qs)) henv (fun id r' h => ⟨_, (hmm id r' h).1⟩) ?_
  intro G ρ w0 w X cargs hF hW hc
  obtain ⟨v0, h1, h2⟩ := hc.2 0 _ rfl
  obtain ⟨v1, h3, h4⟩ := hc.2 1 _ rfl
  have hT := rep_Tree.1 h2
  have hql : qs.length = xs.length := by simpa using hT.2.2.2
  have hlen : (rowQ 3 (xs.map spn) qs).length = xs.length := by rw [rowQ_len (by simp; omega)]; simp
  have hlen2 : (rowQ 3 ((mS k xs).map spn) qs).length = xs.length := by rw [rowQ_len (by simp [mS_len]; omega)]; simp [mS_len]
  obtain ⟨hp, hp1, _⟩ := hW.tab
  have hap : Apart qs := fun i j qi qj b hi hj g1 g2 => by
    have := ha (i + 1) (j + 1) qi qj b (by simpa using hi) (by simpa using hj) g1 g2
    omega
  have hq0 : ∀ q' ∈ qs, ∀ b, inQ q' b → ¬ inQ q b := by
    intro q' hq' b g1 g2
    obtain ⟨j, hj⟩ := List.mem_iff_getElem?.1 hq'
    have := ha 0 (j + 1) q q' b rfl (by simpa using hj) g2 g1
    omega
  have hrow : RowOk (fun _ => True) (fun _ => q) w (ioMem [⟨57, 2, rowQ 3 (xs.map spn) qs, false⟩]) ⟨57, 2, rowQ 3 (xs.map spn) qs, false⟩ q :=
    rowQ_cong hT.2.2.1 (fun _ _ => rfl) fun q' hq' b hb hs => ⟨rfl, hs.1, fun id r z _ h => hq0 q' hq' b hb ⟨z, h⟩, trivial⟩
  have hM0 : ioMem [(⟨57, 2, rowQ 3 (xs.map spn) qs, false⟩ : Row)] (io, 0) = some (some ⟨57, 2, rowQ 3 (xs.map spn) qs, false⟩) := rfl
  have hF' : FlOk (fl := ⟨⟨0, fun b => ∃ q' ∈ qs, inQ q' b⟩⟩) w (q :: qs) := ⟨Nat.zero_le _, fun b ⟨q', hq', z, hz⟩ => .inr ⟨z, by rw [← hz]; exact List.mem_cons_of_mem _ hq'⟩, fun _ _ _ => Nat.zero_le _⟩
  refine (mark_sceneS (fl := ⟨⟨0, fun b => ∃ q' ∈ qs, inQ q' b⟩⟩) xs qs k hn hb hk hql hap (fun q' hq' b hb => ⟨⟨q', hq', hb⟩, Nat.zero_le _⟩) hF' (wrel_one hrow ⟨hp, hp1⟩ rfl) ⟨hc.1, fun j u hu => ?_⟩).mono ?_
  · match j, hu with
    | 0, hu => simp at hu; subst hu; exact ⟨v0, h1, (rep_osl hM0).2 (by have := hT.2.1; rw [hlen] at this; exact this)⟩
    | 1, hu => simp at hu; subst hu; exact ⟨v1, h3, rep_int.2 (rep_int.1 h4)⟩
    | j + 2, hu => simp at hu
  rintro e w' ⟨v, r, fin, rfl, ⟨rfl, rfl⟩, _, _, hret⟩
  obtain ⟨ρ2, hR⟩ := hret 0 (by decide)
  obtain ⟨rfl, hkeep, _, hr2⟩ := ret_one hR
  have hSt : ∀ q' ∈ q :: qs, ∀ b, inQ q' b → Stab G ρ (getM mem) w b := fun q' hq' b hb => (hT.inB q' hq' b hb).1
  have hst' : ∀ b, Stab G ρ (getM mem) w b → Stab G ρ (getM mem') w' b := fun b h => stab_after hkeep.size (fun id r h => ⟨_, (hmm id r h).1⟩) h
  refine ⟨rfl, q :: qs, hkeep, fun b z hz => ?_, ?_, fun id r' h => ?_⟩
  · have hin : inQ (some (b, z)) b := ⟨z, rfl⟩
    exact ⟨hSt _ hz b hin, (hw _ hz b hin).1, (hw _ hz b hin).2, _, hz, hin⟩
  · rintro x y ⟨rfl, rfl⟩ c hcx
    have hTc := rep_Tree.1 hcx
    have ho := hTc.2.1
    refine rep_Tree.2 ⟨fun b hb => hst' b (hTc.1 b hb), ?_, rowQ_cong hr2 (fun _ _ => rfl) fun q' hq' b hb hs => ⟨rfl, hs.1, fun id r z h => by simp [noMem] at h, hst' b (hSt q' (List.mem_cons_of_mem _ hq') b hb)⟩, by simp [mS_len]; omega⟩
    rw [hlen2]
    rw [hlen] at ho
    cases q with
    | none => exact ho
    | some bz =>
      obtain ⟨b, z⟩ := bz
      obtain ⟨ad, cap, k1, k2, k3, k4, k5⟩ := ho
      refine ⟨ad, cap, k1, by rw [hlen2]; rw [hlen] at k2; exact k2, k3, k4, fun hc => ?_⟩
      obtain ⟨a1, cur, a2, a3⟩ := k5 hc
      obtain ⟨cur', b1, b2⟩ := hkeep.shape b cur _ _ a2
      exact ⟨a1, cur', b1, b2.trans a3⟩
  · obtain ⟨g1, g2, g3⟩ := hmm id r' h
    exact ⟨r', g1, g2, g2, rfl, rfl, rfl, fun i e' hi => ⟨e', hi, rfl, fun j u' hu => ⟨u', hu, fun c hc => rep_flat (g3 e' (List.mem_of_getElem? hi) u' (List.mem_of_getElem? hu)) hc⟩⟩⟩

section
variable {ops : Array Oper} {rest : List Oper} {env : List (Nat × PV)} {mem : List (Id × Option Row)} {tr : List (List Id × List Id)} {K : St → List (List Id × List Id) → Prop}
  {d : Nat} {ty : TypeId} {pos : String} {af : Array Edge}
theorem x_newS {f : Operand} {args : List Operand} {ats : Array TypeId} {fi ca : List PV} (env' : Nat → List (Nat × PV)) (xs : List Scene) (hn : xs.length ≤ 1099511627776) (hb : ∀ s ∈ xs, s.burned.length ≤ 1099511627776)
    (hf : ev (getE env) f = .fn 10 fi ca) (hxs : fi ++ args.map (ev (getE env)) ++ ca = [.list 2 (xs.map Scene.pv)]) (hd0 : Nat.beq d io = false)
    (henv : ∀ n, allL (fun p : Nat × PV => getE env p.1 = p.2 ∨ ∃ sz es, getE env p.1 = .list sz es ∧ p.2 = .sem (Old n (.list sz es))) (env' n))
    (hk : ∀ q qs n, qs.length = xs.length → Apart (q :: qs) → (∀ q' ∈ q :: qs, ∀ b, inQ q' b → flN ≤ b ∧ n ≤ b) → exec Try.prog ops false rest ⟨(d, .sem (Tree 57 3 (xs.map spn) q qs)) :: env' n, mem⟩ (([], []) :: tr) K) :
    exec Try.prog ops false (⟨some d, .call ⟨.value f, args.toArray, ats⟩, ty, pos, af, none⟩ :: rest) ⟨env, mem⟩ tr K :=
  x_big _ rfl (big_newS xs hn hb rfl rfl hf rfl (by simpa using hxs) (fun e => by rw [e] at hd0; simp at hd0) env' henv) rfl fun st' ⟨q, qs, n, h1, h2, h3, e⟩ => by rw [e]; exact hk q qs n h1 h2 h3
theorem semTo_TreeS {xs : List Scene} {q : Plc} {qs : List Plc} : SemTo (Tree 57 3 (xs.map spn) q qs) (.list 2 (xs.map Scene.pv)) := by
  have := semTo_Tree (TS := 57) (TI := 3) (ps := xs.map spn) (q := q) (qs := qs)
  rw [List.map_map] at this
  exact this
theorem x_markS {f : Operand} {args : List Operand} {ats : Array TypeId} {fi ca : List PV} (env' : List (Nat × PV)) (mem' : List (Id × Option Row)) (xs : List Scene) (q : Plc) (qs : List Plc) (k : Int) (hn : xs.length ≤ 1099511627776) (hb : ∀ s ∈ xs, s.burned.length ≤ 1099511627776)
    (hk : 0 ≤ k ∧ k + szS xs ≤ 1099511627776) (ha : Apart (q :: qs)) (hw : ∀ q' ∈ q :: qs, ∀ b, inQ q' b → flW b ∧ flN ≤ b)
    (hf : ev (getE env) f = .fn 16 fi ca) (hxs : fi ++ args.map (ev (getE env)) ++ ca = [.sem (Tree 57 3 (xs.map spn) q qs), .int .i64 k])
    (henv : allL (fun p : Nat × PV => (getE env p.1 = p.2 ∧ Lasts mem' (fun b => ∃ q' ∈ q :: qs, inQ q' b) p.2) ∨ (getE env p.1 = .sem (Tree 57 3 (xs.map spn) q qs) ∧ p.2 = .sem (Tree 57 3 ((mS k xs).map spn) q qs))) env')
    (hmem : allL (fun p : Id × Option Row => getM mem p.1 = some p.2 ∧ ∀ r, p.2 = some r → r.bx = false ∧ flatE r.es) mem')
    (hk : exec Try.prog ops false rest ⟨(d, .int .i64 (k + szS xs)) :: env', mem'⟩ (([], []) :: tr) K) :
    exec Try.prog ops false (⟨some d, .call ⟨.value f, args.toArray, ats⟩, ty, pos, af, none⟩ :: rest) ⟨env, mem⟩ tr K :=
  x_big _ rfl (big_markS xs q qs k hn hb ‹_› ha hw rfl rfl hf rfl (by simpa using hxs) henv hmem) rfl fun st' e => by rw [e]; exact hk
end
end
end Go.Vs
