/- Parts of a proof: what its last text mentions. -/
import Derived.Test.YtaoadjbjpagdoaaCxg
set_option linter.unusedVariables false
set_option linter.unusedSimpArgs false
set_option linter.unusedSectionVars false
set_option maxRecDepth 100000
set_option maxHeartbeats 4000000
namespace Go.Vs
open Go.Proofs
attribute [local irreducible] exec vwp thenQ blkQ loopQ RetPost
theorem rowM_cong {TS TI : TypeId} {qs : List Plc} {Mx : Mtx} {q : Plc} {G G' : Nat → Prop} {ρ ρ' : Id → Option (Nat × Nat)} {M M' : Mem} {w : World} (h : RowOk G ρ w M ⟨TS, 1, rowM TI qs Mx, false⟩ q) (hqs : ∀ q' ∈ qs, ∀ b, inQ q' b → Stab G ρ M w b → Stab G' ρ' M' w b) :
    RowOk G' ρ' w M' ⟨TS, 1, rowM TI qs Mx, false⟩ q := by
  cases q with
  | none => exact h
  | some bz =>
    obtain ⟨b, z⟩ := bz
    obtain ⟨cur, C, g1, g2, g3, g4, g5, g6⟩ := h
    refine ⟨cur, C, g1, g2, g3, g4, g5, fun i e hi => ⟨(g6 i e hi).1, fun j u hu => ?_⟩⟩
    obtain ⟨c, c1, c2, c3⟩ := (g6 i e hi).2 j u hu
    refine ⟨c, c1, c2, ?_⟩
    obtain ⟨q', r, hq', hr, rfl⟩ := rowM_inv hi
    match j, hu with
    | 0, hu =>
      simp at hu
      subst hu
      have h5 := rep_LP.1 c3
      exact rep_LP.2 (h5.cong (fun _ _ => rfl) fun b hb => hqs q' (List.mem_of_getElem? hq') b hb (h5.1 b hb))
    | j + 1, hu => simp at hu
theorem ret_oneB {al : Bool} {w w' : World} {row : Row} {q : Plc} {qs : List Plc} {v : Value} {k' : Bool} {es' : List (List PV)} {ρ' : Id → Option (Nat × Nat)} (h : RetOk (fun _ => True) al w (q :: qs) w' v (.bool k') [row] [es'] 0 ρ') :
    v = .bool k' ∧ Keep w (q :: qs) w' ∧ ρ' (io, 0) = q ∧ RowOk (fun _ => True) ρ' w' (ioMem [{ row with es := es' }]) { row with es := es' } q := by
  have hth : thaw 0 (.bool k') = (.bool k', []) := rfl
  have hrel := h.rel
  have hval := h.val
  rw [hth] at hrel hval
  simp only [Mem.upds, withEs] at hrel hval
  have hM : ioMem [{ row with es := es' }] (io, 0) = some (some { row with es := es' }) := rfl
  have hn := hrel.new (io, 0) _ hM
  rw [if_pos rfl] at hn
  have hq : ρ' (io, 0) = q := by
    have : (q :: qs)[(0 : Nat)]? = some q := rfl
    rw [show ((io, 0) : Id).2 = 0 from rfl, this] at hn
    exact (Option.some.inj hn).symm
  have hr := hrel.row (io, 0) _ hM
  rw [hq] at hr
  exact ⟨rep_bool.1 hval, hrel.keep, hq, hr⟩
section
variable [fl : Inhabited FlrT]
theorem big_caps {o : Oper} {c : Call} {f : Operand} {fi ca : List PV} {env : List (Nat × PV)} {mem : List (Id × Option Row)} {d : Nat} (hok : ∀ (w0 : World) X, FlOk w0 X → ∀ b, (w0.heap.size ≤ b ∨ ∃ z, some (b, z) ∈ X) → flW b) (t : Terrain) (xs ys : List Int) (hg : GoodT t) (hx : CelT t xs) (hy : CelT t ys) (hxl : xs.length ≤ 1000000) (hyl : ys.length ≤ 1000000) (N : Nat) (hN : N = 2 * t.burn.length + 2)
    (ho : o.op = .call c) (hcal : c.callee = .value f) (hev : ev (getE env) f = .fn 96 fi ca) (hdst : o.dst = some d) (hxs : fi ++ c.args.toList.map (ev (getE env)) ++ ca = [.agg t.pv, .list 1 (ints xs), .list 1 (ints ys)]) (hd0 : d ≠ io) :
    BigStep Try.prog o ⟨env, mem⟩ fun st' => ∃ qs, qs.length = N ∧ Apt qs ∧ (∀ q ∈ qs, ∀ b, inQ q b → flN ≤ b ∧ flW b) ∧ st' = ⟨[(d, .osl (d, 0) 0 N)], [((d, 0), some ⟨24, 1, rowM 3 qs (capM t xs ys N t.burn.length), false⟩)]⟩ := by
  rintro G w0 X NN a w K Q hd hF ⟨ρ, hW, hdef, hs, hV⟩ hK
  have hf := rep_ev hV f
  rw [show ev (St.V ⟨env, mem⟩) f = .fn 96 fi ca from hev] at hf
  obtain ⟨vfi, vca, hfv, c1, c2⟩ := rep_fn.1 hf
  have hargs := (c1.append (comps_map hV c.args)).append c2
  rw [show fi ++ c.args.toList.map (ev (St.V ⟨env, mem⟩)) ++ ca = _ from hxs] at hargs
  have hrun : (execOp a.eval o).run Try.prog w = .ok (.enter 96 (vfi ++ c.args.map a.eval ++ vca)) w := by
    simp only [execOp, ho, resolve, hcal, hfv, Deferred.ofValue, Sem.run_bind, Sem.run_pure, Result.andThen_ok, invoke, callFunc, run_program, (show Try.prog.funcs[(96 : Nat)]? = some _ from Try.func96)]
    rfl
  unfold Oper.wp
  rw [hrun]
  show Calls Try.prog 96 _ w _
  have hnone : ∀ id r, ioMem [] id ≠ some (some r) := by
    intro id r h
    simp [ioMem] at h
  let G' : Nat → Prop := fun b => Stab G ρ (getM mem) w b ∨ w.heap.size ≤ b
  have hS : ∀ b, Stab G ρ (getM mem) w b → Stab G' (fun _ => none) (ioMem []) w b := fun b h => ⟨h.1, fun id r z h1 => absurd h1 (hnone id r), .inl h⟩
  have hW' : WRel G' (fun _ => none) w [] (ioMem []) w :=
    ⟨fun id id' r r' b z z' h => absurd h (hnone id r), fun id r h => absurd h (hnone id r), fun id r h => absurd h (hnone id r), ⟨rfl, rfl, rfl, Nat.le_refl _, fun _ _ _ => rfl, fun b cur ty fr h => ⟨cur, h, rfl⟩⟩,
      fun b h => h.elim .inr (fun ⟨z, h⟩ => by simp at h), hW.tab.mono fun b h => ⟨hS b h, rfl⟩⟩
  let fl' : Inhabited FlrT := ⟨⟨w.heap.size, fun b => w.heap.size ≤ b, fun w0 X => ∀ b, (w0.heap.size ≤ b ∨ ∃ z, some (b, z) ∈ X) → w.heap.size ≤ b⟩⟩
  have hF' : FlOk (fl := fl') w [] := ⟨Nat.le_refl _, fun b h => .inl h, fun b z h => by simp at h, fun b h => h.elim id fun ⟨z, h⟩ => by simp at h⟩
  have hold : ∀ (v : Value) (l : List Int), Rep ρ w (Stab G ρ (getM mem) w) (getM mem) v (.list 1 (ints l)) → Rep (fun _ => none) w (Stab G' (fun _ => none) (ioMem []) w) (ioMem []) v (OldL (fl := fl') l) := by
    intro v l h
    have h2 : Rep ρ w (Stab G ρ (getM mem) w) noMem v (.list 1 (ints l)) := rep_list.2 (rep_list.1 h)
    have h1 : v.oneCell' = true := by obtain ⟨a, cap, e, _⟩ := rep_list.1 h; rw [e]; rfl
    exact rep_sem.2 ⟨h1, fun b => Stab G ρ (getM mem) w b, hS, fun w2 ha => ⟨fun b hb => hb.1, h1, h2.pureMono fun b hb => ⟨hb, ha b hb⟩⟩⟩
  obtain ⟨v0, a1, b1⟩ := hargs.2 0 _ rfl
  obtain ⟨v1, a2, b2⟩ := hargs.2 1 _ rfl
  obtain ⟨v2, a3, b3⟩ := hargs.2 2 _ rfl
  have hagg : Rep (fun _ => none) w (Stab G' (fun _ => none) (ioMem []) w) (ioMem []) v0 (.agg [.int .i64 t.width, .int .i64 t.height, OldL (fl := fl') t.burn]) := by
    obtain ⟨cs, h1, h2, h3⟩ := rep_agg.1 b1
    refine rep_agg.2 ⟨cs, h1, h2, fun j u hu => ?_⟩
    match j, hu with
    | 0, hu => simp at hu; subst hu; obtain ⟨c, k1, k2⟩ := h3 0 _ rfl; exact ⟨c, k1, rep_int.2 (rep_int.1 k2)⟩
    | 1, hu => simp at hu; subst hu; obtain ⟨c, k1, k2⟩ := h3 1 _ rfl; exact ⟨c, k1, rep_int.2 (rep_int.1 k2)⟩
    | 2, hu => simp at hu; subst hu; obtain ⟨c, k1, k2⟩ := h3 2 _ rfl; exact ⟨c, k1, hold c _ k2⟩
    | j + 3, hu => simp at hu
  refine (new_l9Caps (fl := fl') (fun w0 X h => h.2.2.2) t xs ys hg hx hy hxl hyl N hN hF' hW' ⟨hargs.1, fun j u hu => ?_⟩).mono ?_
  · match j, hu with
    | 0, hu => simp at hu; subst hu; exact ⟨v0, a1, hagg⟩
    | 1, hu => simp at hu; subst hu; exact ⟨v1, a2, hold v1 _ b2⟩
    | 2, hu => simp at hu; subst hu; exact ⟨v2, a3, hold v2 _ b3⟩
    | j + 3, hu => simp at hu
  rintro e w' ⟨v, r, fin, rfl, ⟨qs, hql, hap, hfr, rfl⟩, hfin, _, hret⟩
  have hfin : fin = [] := List.eq_nil_of_length_eq_zero hfin
  subst hfin
  obtain ⟨ρ2, hR⟩ := hret d hd0
  have hrel := hR.rel
  have hval := hR.val
  have hth : thaw d (.olist 24 1 (rowM 3 qs (capM t xs ys N t.burn.length))) = (.osl (d, 0) 0 (rowM 3 qs (capM t xs ys N t.burn.length)).length, [((d, 0), some ⟨24, 1, rowM 3 qs (capM t xs ys N t.burn.length), false⟩)]) := rfl
  rw [hth] at hrel hval
  have hkeep := hrel.keep
  have hZ := capM_zo (xs := xs) (ys := ys) hN t.burn.length (Nat.le_refl _)
  have hlen : (rowM 3 qs (capM t xs ys N t.burn.length)).length = N := by rw [rowM_len (by rw [hql, hZ.1]), hZ.1]
  generalize hrw : (⟨24, 1, rowM 3 qs (capM t xs ys N t.burn.length), false⟩ : Row) = row at *
  have hM2 : ((ioMem (withEs [] [])).upds [((d, 0), some row)]) (d, 0) = some (some row) := by simp [Mem.upds, Mem.set]
  have hrow := hrel.row (d, 0) _ hM2
  have hnew := hrel.new (d, 0) _ hM2
  rw [if_neg hd0] at hnew
  have hnq : ∀ b z, ρ2 (d, 0) = some (b, z) → w.heap.size ≤ b := by
    intro b z hz
    rcases hnew b z hz with h | ⟨z', h⟩
    · exact h
    · simp at h
  have hosl := (rep_osl (r := row) (by simp [Mem.upds, Mem.set])).1 hval
  obtain ⟨T, W'⟩ := keep_trans hkeep hW
  have h0w : w0.heap.size ≤ w.heap.size := hW.keep.size
  have hid : ∀ id r, getM [((d, 0), some row)] id = some (some r) → id = (d, 0) ∧ r = row := by
    intro id r h
    have := getM_mem h
    simp at this
    exact this
  have hMn : getM [((d, 0), some row)] (d, 0) = some (some row) := by simp [getM]
  have hW2 : WRel G ρ2 w0 X (getM [((d, 0), some row)]) w' := by
    refine ⟨fun i1 i2 r1 r2 b z1 z2 h1 h2 _ _ => by rw [(hid i1 r1 h1).1, (hid i2 r2 h2).1], fun id r h => ?_, fun id r h => ?_, W'.keep, hW.good, ?_⟩
    · obtain ⟨rfl, rfl⟩ := hid id r h
      rw [← hrw] at hrow ⊢
      refine rowM_cong hrow fun q' hq' b hb hst => ⟨hst.1, fun id r z h1 h2 => ?_, hW.good b (.inl (Nat.le_trans h0w (hfr q' hq' b hb).1))⟩
      obtain ⟨rfl, _⟩ := hid id r (by rw [← hrw]; exact h1)
      exact hst.2.1 (d, 0) _ z (by rw [← hrw] at hM2; exact hM2) h2
    · obtain ⟨rfl, rfl⟩ := hid id r h
      rw [if_neg hd0]
      exact fun b z hz => .inl (Nat.le_trans h0w (hnq b z hz))
    · obtain ⟨hp, h1, _⟩ := hW.tab
      exact ⟨hp, h1, fun g hg => by cases hg⟩
  have hpr := put_rel (V := getE []) (d := some d) (x := .osl (d, 0) 0 N) (v := v) (fun t e => hd t (by rw [hdst]; exact e)) hdef hs (fun t => rep_any) (Trans.refl _ _ _ _) hW2 ((rep_osl hMn).2 (by rw [hlen] at hosl; exact hosl))
  show K (a.put o.dst v) w'
  refine hK _ _ w' ⟨qs, hql, hap, fun q hq b hb => ?_, by rw [hrw]⟩ ?_
  · have hge : w0.heap.size ≤ b := Nat.le_trans h0w (hfr q hq b hb).1
    exact ⟨Nat.le_trans hF.1 hge, hok w0 X hF b (.inl hge)⟩
  · rw [hdst]
    have e : St.V ⟨[(d, .osl (d, 0) 0 N)], [((d, 0), some row)]⟩ = putV (getE []) (some d) (.osl (d, 0) 0 N) := getE_put [] (some d) _
    rw [e]
    exact hpr
theorem big_push {o : Oper} {c : Call} {f : Operand} {fi ca : List PV} {env env' : List (Nat × PV)} {mem : List (Id × Option Row)} {d : Nat} {id : Id} (hok : ∀ (w0 : World) X, FlOk w0 X → ∀ b, (w0.heap.size ≤ b ∨ ∃ z, some (b, z) ∈ X) → flW b) (n : Nat) (hn : 2 ≤ n) (hn2 : n ≤ 1000) (M : Mtx) (hD : Dim n M) (hD2 : canP M n = true → Dim n (pshM M n)) (qs : List Plc) (hl : qs.length = n) (hA : Apt qs) (hw : ∀ x ∈ qs, ∀ b, inQ x b → flN ≤ b ∧ flW b)
    (ho : o.op = .call c) (hcal : c.callee = .value f) (hev : ev (getE env) f = .fn 97 fi ca) (hdst : o.dst = some d) (hxs : fi ++ c.args.toList.map (ev (getE env)) ++ ca = [.osl id 0 n]) (hid0 : id.1 ≠ io)
    (hm : getM mem id = some (some ⟨24, 1, rowM 3 qs M, false⟩)) (henv : allL (fun p : Nat × PV => getE env p.1 = p.2 ∧ (p.2.flat = true ∨ p.2 = .osl id 0 n)) env') :
    BigStep Try.prog o ⟨env, mem⟩ fun st' => ∃ ps, ps.length = n ∧ Apt ps ∧ (∀ x ∈ ps, ∀ b, inQ x b → flN ≤ b ∧ flW b) ∧ st' = ⟨(d, .bool (canP M n)) :: env', [(id, some ⟨24, 1, rowM 3 ps (if canP M n = true then pshM M n else M), false⟩)]⟩ := by
  rintro G w0 X NN a w K Q hd hF ⟨ρ, hW, hdef, hs, hV⟩ hK
  have hf := rep_ev hV f
  rw [show ev (St.V ⟨env, mem⟩) f = .fn 97 fi ca from hev] at hf
  obtain ⟨vfi, vca, hfv, c1, c2⟩ := rep_fn.1 hf
  have hargs := (c1.append (comps_map hV c.args)).append c2
  rw [show fi ++ c.args.toList.map (ev (St.V ⟨env, mem⟩)) ++ ca = _ from hxs] at hargs
  have hrun : (execOp a.eval o).run Try.prog w = .ok (.enter 97 (vfi ++ c.args.map a.eval ++ vca)) w := by
    simp only [execOp, ho, resolve, hcal, hfv, Deferred.ofValue, Sem.run_bind, Sem.run_pure, Result.andThen_ok, invoke, callFunc, run_program, (show Try.prog.funcs[(97 : Nat)]? = some _ from Try.func97)]
    rfl
  unfold Oper.wp
  rw [hrun]
  show Calls Try.prog 97 _ w _
  have hm : St.M ⟨env, mem⟩ id = some (some ⟨24, 1, rowM 3 qs M, false⟩) := hm
  have hrow := hW.row id _ hm
  have hnew := hW.new id _ hm
  rw [if_neg hid0] at hnew
  have hlM : (rowM 3 qs M).length = n := by rw [rowM_len (by rw [hl, hD.1]), hD.1]
  generalize hq0 : ρ id = q0 at *
  have hr1 : RowOk (fun _ => True) (fun _ => q0) w (ioMem [⟨24, 1, rowM 3 qs M, false⟩]) ⟨24, 1, rowM 3 qs M, false⟩ q0 :=
    rowM_cong hrow fun q' hq' b hb hst => ⟨hst.1, fun id' r' z _ h2 => hst.2.1 id _ z hm (by rw [hq0]; exact h2), trivial⟩
  have htab : ∃ hp, TabOk hp := let ⟨hp, h1, _⟩ := hW.tab; ⟨hp, h1⟩
  have hM0 : ioMem [(⟨24, 1, rowM 3 qs M, false⟩ : Row)] (io, 0) = some (some ⟨24, 1, rowM 3 qs M, false⟩) := rfl
  let fl' : Inhabited FlrT := ⟨⟨0, fun b => w.heap.size ≤ b ∨ ∃ z, some (b, z) ∈ q0 :: qs, fun w0 X => ∀ b, (w0.heap.size ≤ b ∨ ∃ z, some (b, z) ∈ X) → (w.heap.size ≤ b ∨ ∃ z, some (b, z) ∈ q0 :: qs)⟩⟩
  have hF' : FlOk (fl := fl') w (q0 :: qs) := ⟨Nat.zero_le _, fun b h => h, fun b z h => Nat.zero_le _, fun b h => h⟩
  obtain ⟨v0, a1, b1⟩ := hargs.2 0 _ rfl
  have ho1 := (rep_osl hm).1 b1
  rw [hq0] at ho1
  have hall : ∀ b, (w.heap.size ≤ b ∨ ∃ z, some (b, z) ∈ q0 :: qs) → w0.heap.size ≤ b ∨ ∃ z, some (b, z) ∈ X := by
    rintro b (h | ⟨z, h⟩)
    · exact .inl (Nat.le_trans hW.keep.size h)
    · rcases List.mem_cons.1 h with h | h
      · exact hnew b z h.symm
      · exact hF.2.1 b (hw _ h b ⟨z, rfl⟩).2
  refine (wr_l9Push (fl := fl') (fun w0 X h => h.2.2.2) n hn hn2 M hD qs hl hA (fun x hx b ⟨z, hz⟩ => ⟨Nat.zero_le _, .inr ⟨z, by rw [← hz]; exact List.mem_cons_of_mem _ hx⟩⟩) hF' (wrel_one hr1 htab rfl) ⟨hargs.1, fun j u hu => ?_⟩).mono ?_
  · match j, hu with
    | 0, hu => simp at hu; subst hu; exact ⟨v0, a1, (rep_osl hM0).2 ho1⟩
    | j + 1, hu => simp at hu
  rintro e w' ⟨v, r, fin, rfl, ⟨ps, p1, p2, p3, rfl, rfl⟩, _, _, hret⟩
  obtain ⟨ρ2, hR⟩ := hret 0 (by decide)
  obtain ⟨rfl, hk, hq2, hr2⟩ := ret_oneB hR
  have hD3 : Dim n (if canP M n = true then pshM M n else M) := by
    split
    · rename_i h; exact hD2 h
    · exact hD
  generalize (if canP M n = true then pshM M n else M) = M2 at *
  have hlM2 : (rowM 3 ps M2).length = n := by rw [rowM_len (by rw [p1, hD3.1]), hD3.1]
  generalize hrw : (⟨24, 1, rowM 3 ps M2, false⟩ : Row) = row at *
  have hid : ∀ id' r, getM [(id, some row)] id' = some (some r) → id' = id ∧ r = row := by
    intro id' r h
    have := getM_mem h
    simp at this
    exact this
  have hMn : getM [(id, some row)] id = some (some row) := by simp [getM]
  have hk0 := hW.keep
  have hW2 : WRel G ρ w0 X (getM [(id, some row)]) w' := by
    refine ⟨fun i1 i2 r1 r2 b z1 z2 h1 h2 _ _ => by rw [(hid i1 r1 h1).1, (hid i2 r2 h2).1], fun id' r h => ?_, fun id' r h => ?_, ⟨hk.os.trans hk0.os, hk.tape.trans hk0.tape, hk.output.trans hk0.output, Nat.le_trans hk0.size hk.size, fun b hb hn => ?_, fun b cur ty fr h => ?_⟩, hW.good, ?_⟩
    · obtain ⟨rfl, rfl⟩ := hid id' r h
      rw [hq0, ← hrw]
      rw [← hrw] at hr2
      refine rowM_cong hr2 fun q' hq' b hb hst => ⟨hst.1, fun id2 r z h1 h2 => ?_, hW.good b (hall b (p3 q' hq' b hb).2)⟩
      obtain ⟨rfl, _⟩ := hid id2 r (by rw [← hrw]; exact h1)
      rw [hq0] at h2
      exact hst.2.1 (io, 0) _ z rfl (by rw [hq2]; exact h2)
    · obtain ⟨rfl, rfl⟩ := hid id' r h
      rw [if_neg hid0, hq0]
      exact hnew
    · rw [hk.block b (Nat.lt_of_lt_of_le hb hk0.size) fun z hz => ?_, hk0.block b hb hn]
      rcases hall b (.inr ⟨z, hz⟩) with h | ⟨z', h⟩
      · omega
      · exact hn z' h
    · obtain ⟨c1, h1, h2⟩ := hk0.shape b cur ty fr h
      obtain ⟨c2, h3, h4⟩ := hk.shape b c1 ty fr h1
      exact ⟨c2, h3, h4.trans h2⟩
    · obtain ⟨hp, h1, _⟩ := hW.tab
      exact ⟨hp, h1, fun g hg => by cases hg⟩
  have hoslW : ∀ v, OslOk w ⟨24, 1, rowM 3 qs M, false⟩ v 0 n q0 → OslOk w' row v 0 n q0 := by
    intro v h
    rw [← hrw]
    cases q0 with
    | none => exact h
    | some bz =>
      obtain ⟨b, z⟩ := bz
      obtain ⟨ad, cap, k1, k2, k3, k4, k5⟩ := h
      refine ⟨ad, cap, k1, by simp only [hlM2]; simp only [hlM] at k2; exact k2, k3, k4, fun hc => ?_⟩
      obtain ⟨g1, cur, g2, g3⟩ := k5 hc
      obtain ⟨cur', h1, h2⟩ := hk.shape b cur _ _ g2
      exact ⟨g1, cur', h1, h2.trans g3⟩
  have hbase : ∀ t, Rep ρ w' (Stab G ρ (getM [(id, some row)]) w') (getM [(id, some row)]) (a.tmps.getD t undef) (getE env' t) := by
    intro t
    rcases getE_mem (l := env') (t := t) with h | h
    · rw [h]; exact rep_any
    · have h3 := hV t
      simp only [St.V] at h3
      obtain ⟨h1, h2⟩ := allL_mem henv _ h
      simp only at h1 h2
      rw [h1] at h3
      rcases h2 with h2 | h2
      · exact rep_flat h2 h3
      · rw [h2] at h3 ⊢
        have h4 := (rep_osl hm).1 h3
        rw [hq0] at h4
        refine (rep_osl hMn).2 ?_
        rw [hq0]
        exact hoslW _ h4
  have hpr := put_rel (V := getE env') (d := some d) (x := .bool (canP M n)) (v := .bool (canP M n)) (fun t e => hd t (by rw [hdst]; exact e)) hdef hs hbase (Trans.refl _ _ _ _) hW2 (rep_bool.2 rfl)
  show K (a.put o.dst _) w'
  refine hK _ _ w' ⟨ps, p1, p2, fun x hx b hb => ?_, by rw [hrw]⟩ ?_
  · have hx1 := hall b (p3 x hx b hb).2
    refine ⟨?_, hok w0 X hF b hx1⟩
    rcases hx1 with h | ⟨z, h⟩
    · exact Nat.le_trans hF.1 h
    · exact hF.2.2.1 b z h
  · rw [hdst]
    have e : St.V ⟨(d, .bool (canP M n)) :: env', [(id, some row)]⟩ = putV (getE env') (some d) (.bool (canP M n)) := getE_put env' (some d) _
    rw [e]
    exact hpr
end
end Go.Vs
set_option linter.unusedVariables false
set_option linter.unusedSimpArgs false
namespace Go.Vs
def ContractR (P : Program) (f : FuncId) (args : List PV) (ios mvs : List Row) (r : PV) (ios' mvs' : List Row) : Prop :=
  Callable P f ∧ ∀ (G : Nat → Prop) (w : World) (X : List (Option (Nat × Nat))) (ρ : Id → Option (Nat × Nat)) (cargs : Array Value),
    WRel G ρ w X (memS ios mvs) w → Comps ρ w (Stab G ρ (memS ios mvs) w) (memS ios mvs) cargs args →
    Calls P f cargs w fun e w' => ∃ v ρ', e = .returned v ∧ WRel G ρ' w X (memS ios' mvs') w' ∧ Rep ρ' w' (Stab G ρ' (memS ios' mvs') w') (memS ios' mvs') v r
section
variable {P : Program} {G G' : Nat → Prop} {ρ ρ' : Id → Option (Nat × Nat)} {w0 w : World} {X : List (Option (Nat × Nat))} {M M' : Mem}
theorem callR_sound (hW : WRel G ρ w0 X M w) {f : FuncId} {cargs : Array Value} {xs ys : List PV} {d : Nat} {ids mids rd : List Id} {ios mvs ios' mvs' : List Row} {r : PV}
    (hc : Comps ρ w (Stab G ρ M w) M cargs xs) (ok : CallOkS M d xs ys ids mids rd ios mvs ios' mvs') (hC : ContractR P f ys ios mvs r ios' mvs') (hrr : refsD 5 (namesS ios.length mvs.length) r = true) :
    Calls P f cargs w fun e w' => ∃ v ρ2, e = .returned v ∧ Trans G ρ M w ρ2 (M.upds (upsS d ids mids rd ios' mvs')) w' ∧
      WRel G ρ2 w0 X (M.upds (upsS d ids mids rd ios' mvs')) w' ∧ Rep ρ2 w' (Stab G ρ2 (M.upds (upsS d ids mids rd ios' mvs')) w') (M.upds (upsS d ids mids rd ios' mvs')) v (subD 5 (outS ids d) r) := by
  have hnd := List.nodup_append.1 ok.nodup
  have hdis : ∀ id, id ∈ ids → id ∉ mids := fun id h1 h2 => hnd.2.2 id h1 id h2 rfl
  have liveI : ∀ (k : Nat) id, ids[k]? = some id → ∃ row, ios[k]? = some row ∧ M id = some (some (sbr (inS ids mids) row)) ∧ refsR (namesS ios.length mvs.length) row := fun k id hk => by
    have hlt : k < ios.length := by rw [← ok.len]; exact (List.getElem?_eq_some_iff.1 hk).1
    exact ⟨_, List.getElem?_eq_getElem hlt, ok.lent k id _ hk (List.getElem?_eq_getElem hlt)⟩
  have liveM : ∀ (k : Nat) id, mids[k]? = some id → ∃ row, mvs[k]? = some row ∧ M id = some (some (sbr (inS ids mids) row)) ∧ row.bx = false ∧ id.1 ≠ io := fun k id hk => by
    have hlt : k < mvs.length := by rw [← ok.lem]; exact (List.getElem?_eq_some_iff.1 hk).1
    exact ⟨_, List.getElem?_eq_getElem hlt, ok.lemt k id _ hk (List.getElem?_eq_getElem hlt)⟩
  have liveA : ∀ id, id ∈ ids ∨ id ∈ mids → ∃ r0, M id = some (some r0) := by
    rintro id (h | h)
    · obtain ⟨k, hk⟩ := List.getElem?_of_mem h
      obtain ⟨row, _, h2, _⟩ := liveI k id hk
      exact ⟨_, h2⟩
    · obtain ⟨k, hk⟩ := List.getElem?_of_mem h
      obtain ⟨row, _, h2, _⟩ := liveM k id hk
      exact ⟨_, h2⟩
  have nd : ∀ id x, M id = some x → id.1 ≠ d := fun id x h e => by
    rw [show id = (d, id.2) from by rw [← e], ok.free] at h
    cases h
  have hin1 : ∀ (k : Nat) id, ids[k]? = some id → inS ids mids (io, k) = id := fun k id hk => by simp [inS, hk]
  have hin2 : ∀ (k : Nat) id, mids[k]? = some id → inS ids mids (mv, k) = id := fun k id hk => by simp [inS, hk, mv_io]
  have hout1 : ∀ (k : Nat) id, ids[k]? = some id → outS ids d (io, k) = id := fun k id hk => by simp [outS, hk]
  have hout2 : ∀ k : Nat, outS ids d (mv, k) = (d, k) := fun k => by simp [outS, mv_io]
  obtain ⟨T1, W1⟩ : Trans G ρ M w ρ (M.upds (deadS rd)) w ∧ WRel G ρ w0 X (M.upds (deadS rd)) w := freeze_all hW rd (fun id hid => (ok.given id hid).2) ok.rnodup
  let ρc : Id → Option (Nat × Nat) := fun id => if id.1 = io ∨ id.1 = mv then ρ (inS ids mids id) else none
  let Xc : List (Option (Nat × Nat)) := ids.map ρ ++ mids.map ρ
  let Gc : Nat → Prop := fun b => Stab G ρ (M.upds (deadS rd)) w b ∨ w.heap.size ≤ b ∨ ∃ z, some (b, z) ∈ Xc
  have hρ1 : ∀ (k : Nat) id, ids[k]? = some id → ρc (io, k) = ρ id := fun k id hk => by simp only [ρc, true_or, if_true, hin1 k id hk]
  have hρ2 : ∀ (k : Nat) id, mids[k]? = some id → ρc (mv, k) = ρ id := fun k id hk => by simp only [ρc, or_true, if_true, hin2 k id hk]
  have hmem : ∀ id row, memS ios mvs id = some (some row) → (id = (io, id.2) ∧ ios[id.2]? = some row ∧ ∃ id', ids[id.2]? = some id') ∨ (id = (mv, id.2) ∧ mvs[id.2]? = some row ∧ ∃ id', mids[id.2]? = some id') := by
    intro id row h
    simp only [memS] at h
    split at h
    · rename_i h1
      obtain ⟨row', g1, g2⟩ := Option.map_eq_some_iff.1 h
      injection g2 with g2
      subst g2
      have hlt : id.2 < ids.length := by rw [ok.len]; exact (List.getElem?_eq_some_iff.1 g1).1
      exact .inl ⟨by rw [← h1], g1, _, List.getElem?_eq_getElem hlt⟩
    · split at h
      · rename_i h1
        obtain ⟨row', g1, g2⟩ := Option.map_eq_some_iff.1 h
        injection g2 with g2
        subst g2
        have hlt : id.2 < mids.length := by rw [ok.lem]; exact (List.getElem?_eq_some_iff.1 g1).1
        exact .inr ⟨by rw [← h1], g1, _, List.getElem?_eq_getElem hlt⟩
      · cases h
  have hlive : ∀ id row, memS ios mvs id = some (some row) → ∃ id', inS ids mids id = id' ∧ M id' = some (some (sbr (inS ids mids) row)) ∧ ρc id = ρ id' ∧ (id' ∈ ids ∨ id' ∈ mids) ∧ refsR (namesS ios.length mvs.length) row := by
    intro id row h
    rcases hmem id row h with ⟨e, h1, id', h2⟩ | ⟨e, h1, id', h2⟩
    · obtain ⟨g1, g2⟩ := ok.lent id.2 id' row h2 h1
      exact ⟨id', by rw [e]; exact hin1 _ _ h2, g1, by rw [e]; exact hρ1 _ _ h2, .inl (List.mem_of_getElem? h2), g2⟩
    · obtain ⟨g1, g2, g3⟩ := ok.lemt id.2 id' row h2 h1
      exact ⟨id', by rw [e]; exact hin2 _ _ h2, g1, by rw [e]; exact hρ2 _ _ h2, .inr (List.mem_of_getElem? h2), fun hb => by rw [g2] at hb; cases hb⟩
  have hinj : ∀ i1 r1 i2 r2, memS ios mvs i1 = some (some r1) → memS ios mvs i2 = some (some r2) → inS ids mids i1 = inS ids mids i2 → i1 = i2 := by
    intro i1 r1 i2 r2 h1 h2 he
    rcases hmem i1 r1 h1 with ⟨e1, _, j1, k1⟩ | ⟨e1, _, j1, k1⟩ <;> rcases hmem i2 r2 h2 with ⟨e2, _, j2, k2⟩ | ⟨e2, _, j2, k2⟩ <;> rw [e1, e2] at he
    · rw [hin1 _ _ k1, hin1 _ _ k2] at he
      subst he
      rw [e1, e2, nodup_inj ids _ _ _ hnd.1 k1 k2]
    · rw [hin1 _ _ k1, hin2 _ _ k2] at he
      subst he
      exact absurd (List.mem_of_getElem? k2) (hdis _ (List.mem_of_getElem? k1))
    · rw [hin2 _ _ k1, hin1 _ _ k2] at he
      subst he
      exact absurd (List.mem_of_getElem? k1) (hdis _ (List.mem_of_getElem? k2))
    · rw [hin2 _ _ k1, hin2 _ _ k2] at he
      subst he
      rw [e1, e2, nodup_inj mids _ _ _ hnd.2.1 k1 k2]
  have hXc : ∀ b z, some (b, z) ∈ Xc → ∃ id, (id ∈ ids ∨ id ∈ mids) ∧ ρ id = some (b, z) := by
    intro b z h
    rcases List.mem_append.1 h with h | h
    · obtain ⟨id, h1, h2⟩ := List.mem_map.1 h; exact ⟨id, .inl h1, h2⟩
    · obtain ⟨id, h1, h2⟩ := List.mem_map.1 h; exact ⟨id, .inr h1, h2⟩
  have hS : ∀ b, Stab G ρ M w b → Stab Gc ρc (memS ios mvs) w b := by
    intro b hb
    refine ⟨hb.1, fun id row z hl => ?_, .inl (T1.stab b hb).1⟩
    obtain ⟨id', _, g1, g2, _⟩ := hlive id row hl
    rw [g2]
    exact hb.2.1 id' _ z g1
  have hId : ∀ id ∈ rd, ∀ r b z, M id = some (some r) → ρ id = some (b, z) → Stab Gc ρc (memS ios mvs) w b := by
    intro id hid r b z hM hρ
    refine ⟨hW.lt hM hρ, fun id2 row z2 hl hh => ?_, .inl ⟨hW.lt hM hρ, fun id2 r2 z2 hl hh => ?_, ?_⟩⟩
    · obtain ⟨id', _, g1, g2, g3, _⟩ := hlive id2 row hl
      rw [g2] at hh
      have := hW.inj id id' r _ b z z2 hM g1 hρ hh
      subst this
      rcases g3 with g3 | g3
      · exact (ok.apart id hid).1 g3
      · exact (ok.apart id hid).2 g3
    · by_cases hin : id2 ∈ rd
      · rw [deadS_at M hin] at hl; cases hl
      · rw [deadS_other M hin] at hl
        have := hW.inj id id2 r r2 b z z2 hM hl hρ hh
        exact hin (by rw [← this]; exact hid)
    · have := hW.new id r hM
      rw [if_neg (ok.given id hid).1] at this
      exact hW.good b (this b z hρ)
  have hMin : ∀ id, ((namesS ios.length mvs.length).any fun k => Nat.beq k.1 id.1 && Nat.beq k.2 id.2) = true → ∃ r r', M (inS ids mids id) = some (some r) ∧ memS ios mvs id = some (some r') ∧ r'.sz = r.sz ∧ r'.ty = r.ty ∧ r'.es.length = r.es.length ∧ ρc id = ρ (inS ids mids id) := by
    intro id hid
    have hx : ∃ row, memS ios mvs id = some (some row) := by
      rcases namesS_any hid with ⟨h1, h2⟩ | ⟨h1, h2⟩
      · rw [h1]; exact ⟨ios[id.2], by simp only [memS, if_true, List.getElem?_eq_getElem h2, Option.map_some]⟩
      · rw [h1]; exact ⟨mvs[id.2], by simp only [memS, mv_io, if_false, if_true, List.getElem?_eq_getElem h2, Option.map_some]⟩
    obtain ⟨row, hrow⟩ := hx
    obtain ⟨id', g0, g1, g2, _⟩ := hlive id row hrow
    exact ⟨sbr (inS ids mids) row, row, by rw [g0]; exact g1, hrow, rfl, rfl, (sbr_len _ _).symm, by rw [g0]; exact g2⟩
  have hentry : WRel Gc ρc w Xc (memS ios mvs) w := by
    refine ⟨?_, ?_, ?_, ⟨rfl, rfl, rfl, Nat.le_refl _, fun _ _ _ => rfl, fun b cur ty fr h => ⟨cur, h, rfl⟩⟩, fun b hb => .inr hb, hW.tab.mono fun b hb => ⟨hS b hb, rfl⟩⟩
    · intro i1 i2 r1 r2 b z1 z2 h1 h2 k1 k2
      obtain ⟨j1, e1, m1, p1, _⟩ := hlive i1 r1 h1
      obtain ⟨j2, e2, m2, p2, _⟩ := hlive i2 r2 h2
      rw [p1] at k1
      rw [p2] at k2
      have := hW.inj j1 j2 _ _ b z1 z2 m1 m2 k1 k2
      exact hinj i1 r1 i2 r2 h1 h2 (by rw [e1, e2, this])
    · intro id row hl
      obtain ⟨id', e1, m1, p1, _, href⟩ := hlive id row hl
      rw [p1]
      exact (rowOk_ren (namesS ios.length mvs.length) hMin href).1 hS (hW.row id' _ m1)
    · intro id row hl
      rcases hmem id row hl with ⟨e, h1, id', h2⟩ | ⟨e, h1, id', h2⟩
      · rw [e, if_pos rfl]
        have hlt : id.2 < (ids.map ρ).length := by rw [List.length_map]; exact (List.getElem?_eq_some_iff.1 h2).1
        show (ids.map ρ ++ mids.map ρ)[id.2]? = _
        rw [List.getElem?_append_left hlt, List.getElem?_map, h2, hρ1 _ _ h2]
        rfl
      · rw [e, if_neg mv_io]
        intro b z hb
        rw [hρ2 _ _ h2] at hb
        exact .inr ⟨z, List.mem_append_right _ (List.mem_map.2 ⟨id', List.mem_of_getElem? h2, hb⟩)⟩
  have hargs : Comps ρc w (Stab Gc ρc (memS ios mvs) w) (memS ios mvs) cargs ys :=
    comps_snap (snap_sound hW hS hId 6 ids (memS ios mvs) ρc (fun k id hk => by
      obtain ⟨row, h1, h2, h3⟩ := liveI k id hk
      exact ⟨_, row, h2, by simp only [memS, if_true, h1, Option.map_some], rfl, rfl, (sbr_len _ _).symm, hρ1 k id hk⟩)) ok.snap hc
  refine (hC.2 Gc w Xc ρc cargs hentry hargs).mono ?_
  rintro e w' ⟨v, ρ', rfl, hR, hv⟩
  have hkeep := hR.keep
  let ρ2 : Id → Option (Nat × Nat) := fun id => if id.1 = d then ρ' (mv, id.2) else ρ id
  let M2 : Mem := M.upds (upsS d ids mids rd ios' mvs')
  show ∃ v_1 ρ2, Ending.returned v = Ending.returned v_1 ∧ Trans G ρ M w ρ2 M2 w' ∧ WRel G ρ2 w0 X M2 w' ∧ Rep ρ2 w' (Stab G ρ2 M2 w') M2 v_1 (subD 5 (outS ids d) r)
  have hM2 : M2 = ((((M.upds (deadS rd)).upds (deadS mids)).upds (backS (outS ids d) ids ios')).upds (newS d (outS ids d) 0 mvs')) := by simp only [M2, upsS, upds_append]
  have m2d : ∀ k : Nat, M2 (d, k) = (mvs'[k]?).map fun row => some (sbr (outS ids d) row) := by
    intro k
    rw [hM2, newS_at _ mvs' 0 k, if_pos (Nat.zero_le _), Nat.sub_zero]
    cases mvs'[k]? with
    | some row => rfl
    | none =>
      show (((M.upds (deadS rd)).upds (deadS mids)).upds (backS (outS ids d) ids ios')) (d, k) = none
      have no : ∀ id, id ∈ ids ∨ id ∈ mids ∨ id ∈ rd → id ≠ (d, k) := fun id h e => by
        subst e
        have : ∃ r0, M (d, k) = some (some r0) := by
          rcases h with h | h | h
          · exact liveA _ (.inl h)
          · exact liveA _ (.inr h)
          · exact (ok.given _ h).2
        obtain ⟨r0, h0⟩ := this
        rw [ok.free] at h0; cases h0
      rw [upds_other _ _ _ (fun p hp e => no _ (.inl (backS_fst p hp)) e), deadS_other _ (fun h => no _ (.inr (.inl h)) rfl), deadS_other _ (fun h => no _ (.inr (.inr h)) rfl)]
      exact ok.free k
  have m2n : ∀ id, id.1 ≠ d → M2 id = (((M.upds (deadS rd)).upds (deadS mids)).upds (backS (outS ids d) ids ios')) id := fun id h => by
    rw [hM2, upds_other _ _ id (fun p hp e => h (by rw [← e]; exact newS_fst p hp))]
  have m2i : ∀ (k : Nat) id, ids[k]? = some id → ∃ row', ios'[k]? = some row' ∧ M2 id = some (some (sbr (outS ids d) row')) ∧ id.1 ≠ d := by
    intro k id hk
    have hlt : k < ios'.length := by rw [ok.len', ← ok.len]; exact (List.getElem?_eq_some_iff.1 hk).1
    obtain ⟨row, _, h2, _⟩ := liveI k id hk
    have hne := nd id _ h2
    refine ⟨_, List.getElem?_eq_getElem hlt, ?_, hne⟩
    rw [m2n id hne]
    exact backS_at _ ids ios' k id _ hnd.1 hk (List.getElem?_eq_getElem hlt)
  have m2m : ∀ id, id ∈ mids → M2 id = some none := by
    intro id h
    obtain ⟨r0, h0⟩ := liveA id (.inr h)
    rw [m2n id (nd id _ h0), upds_other _ _ _ (fun p hp e => hdis id (by rw [← e]; exact backS_fst p hp) h)]
    exact deadS_at _ h
  have m2r : ∀ id, id ∈ rd → M2 id = some none := by
    intro id h
    obtain ⟨r0, h0⟩ := (ok.given id h).2
    rw [m2n id (nd id _ h0), upds_other _ _ _ (fun p hp e => (ok.apart id h).1 (by rw [← e]; exact backS_fst p hp)), deadS_other _ (ok.apart id h).2]
    exact deadS_at _ h
  have m2o : ∀ id, id.1 ≠ d → id ∉ ids → id ∉ mids → id ∉ rd → M2 id = M id := by
    intro id h1 h2 h3 h4
    rw [m2n id h1, upds_other _ _ _ (fun p hp e => h2 (by rw [← e]; exact backS_fst p hp)), deadS_other _ h3, deadS_other _ h4]
  have old : ∀ id r2, id.1 ≠ d → M2 id = some (some r2) → id ∉ mids ∧ id ∉ rd ∧ (∃ r0, M id = some (some r0)) ∧ (id ∉ ids → M id = some (some r2)) := by
    intro id r2 h1 h2
    have n1 : id ∉ mids := fun h => by rw [m2m id h] at h2; cases h2
    have n2 : id ∉ rd := fun h => by rw [m2r id h] at h2; cases h2
    refine ⟨n1, n2, ?_, fun h => by rw [m2o id h1 h n1 n2] at h2; exact h2⟩
    by_cases h : id ∈ ids
    · exact liveA id (.inl h)
    · rw [m2o id h1 h n1 n2] at h2; exact ⟨_, h2⟩
  have outI : ∀ (k : Nat) row, ios'[k]? = some row → memS ios' mvs' (io, k) = some (some row) := fun k row h => by simp only [memS, if_true, h, Option.map_some]
  have outM : ∀ (k : Nat) row, mvs'[k]? = some row → memS ios' mvs' (mv, k) = some (some row) := fun k row h => by simp only [memS, mv_io, if_false, if_true, h, Option.map_some]
  have ρio : ∀ (k : Nat) id, ids[k]? = some id → ρ' (io, k) = ρ id := by
    intro k id hk
    obtain ⟨row', h1, _⟩ := m2i k id hk
    have := hR.new (io, k) _ (outI k row' h1)
    rw [if_pos rfl] at this
    have hlt : k < (ids.map ρ).length := by rw [List.length_map]; exact (List.getElem?_eq_some_iff.1 hk).1
    rw [show Xc[k]? = some (ρ id) from by show (ids.map ρ ++ mids.map ρ)[k]? = _; rw [List.getElem?_append_left hlt, List.getElem?_map, hk]; rfl] at this
    injection this with this
    exact this.symm
  have newM : ∀ (k : Nat) row b z, mvs'[k]? = some row → ρ' (mv, k) = some (b, z) → w.heap.size ≤ b ∨ ∃ id ∈ mids, ∃ z', ρ id = some (b, z') := by
    intro k row b z h1 hb
    have := hR.new (mv, k) _ (outM k row h1)
    rw [if_neg mv_io] at this
    rcases this b z hb with h2 | ⟨z', h2⟩
    · exact .inl h2
    · obtain ⟨id, hid | hid, he⟩ := hXc b z' h2
      · exfalso
        obtain ⟨k2, hk2⟩ := List.getElem?_of_mem hid
        obtain ⟨row', g1, _⟩ := m2i k2 id hk2
        have := hR.inj (mv, k) (io, k2) _ _ b z z' (outM k row h1) (outI k2 row' g1) hb (by rw [ρio k2 id hk2]; exact he)
        exact mv_io (congrArg Prod.fst this)
      · exact .inr ⟨id, hid, z', he⟩
  have same : ∀ b, b < w.heap.size → (∀ id, id ∈ ids ∨ id ∈ mids → ∀ z, ρ id ≠ some (b, z)) → w'.heap[b]? = w.heap[b]? := fun b hb h =>
    hkeep.block b hb fun z hm => by
      obtain ⟨id, h1, h2⟩ := hXc b z hm
      exact h id h1 z h2
  have ρ2o : ∀ id, id.1 ≠ d → ρ2 id = ρ id := fun id h => by simp only [ρ2, h, if_false]
  have ρ2d : ∀ k : Nat, ρ2 (d, k) = ρ' (mv, k) := fun k => by simp only [ρ2, if_true]
  have dcase : ∀ id r2, id.1 = d → M2 id = some (some r2) → ∃ row, mvs'[id.2]? = some row ∧ r2 = sbr (outS ids d) row := by
    intro id r2 h1 h2
    rw [show id = (d, id.2) from by rw [← h1], m2d] at h2
    obtain ⟨row, g1, g2⟩ := Option.map_eq_some_iff.1 h2
    injection g2 with g2
    exact ⟨row, g1, g2.symm⟩
  have stab2 : ∀ b, Stab Gc ρ' (memS ios' mvs') w' b → Stab G ρ2 M2 w' b := by
    intro b hb
    refine ⟨hb.1, fun id r2 z hl hh => ?_, ?_⟩
    · by_cases hit : id.1 = d
      · obtain ⟨row, h1, _⟩ := dcase id r2 hit hl
        rw [show id = (d, id.2) from by rw [← hit], ρ2d] at hh
        exact hb.2.1 (mv, id.2) row z (outM _ _ h1) hh
      · rw [ρ2o id hit] at hh
        obtain ⟨n1, n2, ⟨r0, h0⟩, n3⟩ := old id r2 hit hl
        by_cases hi : id ∈ ids
        · obtain ⟨k, hk⟩ := List.getElem?_of_mem hi
          obtain ⟨row', g1, _⟩ := m2i k id hk
          exact hb.2.1 (io, k) _ z (outI k row' g1) (by rw [ρio k id hk]; exact hh)
        · rcases hb.2.2 with hG | hG | ⟨z', hG⟩
          · exact hG.2.1 id r2 z (by rw [deadS_other M n2]; exact n3 hi) hh
          · have := hW.lt h0 hh; omega
          · obtain ⟨id', h1, h2⟩ := hXc b z' hG
            obtain ⟨r1, h3⟩ := liveA id' h1
            have := hW.inj id id' r0 r1 b z z' h0 h3 hh h2
            subst this
            rcases h1 with h1 | h1
            · exact hi h1
            · exact n1 h1
    · rcases hb.2.2 with hG | hG | ⟨z, hG⟩
      · exact hG.2.2
      · exact hW.good b (.inl (Nat.le_trans hW.keep.size hG))
      · obtain ⟨id', h1, h2⟩ := hXc b z hG
        obtain ⟨r1, h3⟩ := liveA id' h1
        have := hW.new id' r1 h3
        split at this
        · exact hW.good b (.inr ⟨z, by rw [← h2]; exact List.mem_of_getElem? this⟩)
        · exact hW.good b (this b z h2)
  have stab1 : ∀ b, Stab G ρ M w b → Stab G ρ2 M2 w' b ∧ w'.heap[b]? = w.heap[b]? := by
    intro b hb
    refine ⟨⟨Nat.lt_of_lt_of_le hb.1 hkeep.size, fun id r2 z hl hh => ?_, hb.2.2⟩, same b hb.1 fun id hid z => ?_⟩
    · by_cases hit : id.1 = d
      · obtain ⟨row, h1, _⟩ := dcase id r2 hit hl
        rw [show id = (d, id.2) from by rw [← hit], ρ2d] at hh
        rcases newM _ _ _ _ h1 hh with h2 | ⟨id', h2, z', h3⟩
        · have := hb.1; omega
        · obtain ⟨r1, h4⟩ := liveA id' (.inr h2)
          exact hb.2.1 id' r1 z' h4 h3
      · rw [ρ2o id hit] at hh
        obtain ⟨_, _, ⟨r0, h0⟩, _⟩ := old id r2 hit hl
        exact hb.2.1 id r0 z h0 hh
    · obtain ⟨r1, h4⟩ := liveA id hid
      exact hb.2.1 id r1 z h4
  have T2 : Trans G ρ M w ρ2 M2 w' := by
    refine ⟨stab1, fun id => ?_⟩
    cases hMi : M id with
    | none => trivial
    | some o =>
      have hit := nd id _ hMi
      by_cases hi : id ∈ ids
      · obtain ⟨k, hk⟩ := List.getElem?_of_mem hi
        obtain ⟨row, g1, g2, _⟩ := liveI k id hk
        obtain ⟨row', g3, g4, _⟩ := m2i k id hk
        obtain ⟨s1, s2, s3, s4, s5⟩ := ok.shape k row row' g1 g3
        rw [hMi] at g2
        injection g2 with g2
        subst g2
        refine .inr ⟨sbr (outS ids d) row', g4, s1, s2, by rw [sbr_len, sbr_len, s3]; exact Nat.le_refl _, ρ2o id hit, fun b z hb cur hcur => ?_⟩
        exact hkeep.shape b cur _ (0, 0) hcur
      · cases o with
        | none =>
          show M2 id = some none
          by_cases h1 : id ∈ mids
          · exact m2m id h1
          · by_cases h2 : id ∈ rd
            · exact m2r id h2
            · rw [m2o id hit hi h1 h2]; exact hMi
        | some r0 =>
          show M2 id = some none ∨ _
          by_cases h1 : id ∈ mids
          · exact .inl (m2m id h1)
          · by_cases h2 : id ∈ rd
            · exact .inl (m2r id h2)
            · refine .inr ⟨r0, by rw [m2o id hit hi h1 h2]; exact hMi, rfl, rfl, Nat.le_refl _, ρ2o id hit, fun b z hb cur hcur => hkeep.shape b cur _ (0, 0) hcur⟩
  have hMout : ∀ id, ((namesS ios.length mvs.length).any fun k => Nat.beq k.1 id.1 && Nat.beq k.2 id.2) = true → ∃ r r', M2 (outS ids d id) = some (some r) ∧ memS ios' mvs' id = some (some r') ∧ r'.sz = r.sz ∧ r'.ty = r.ty ∧ r'.es.length = r.es.length ∧ ρ' id = ρ2 (outS ids d id) := by
    intro id hid
    rcases namesS_any hid with ⟨h1, h2⟩ | ⟨h1, h2⟩
    · have hlt : id.2 < ids.length := by rw [ok.len]; exact h2
      have hk := List.getElem?_eq_getElem hlt
      obtain ⟨row', g1, g2, g3⟩ := m2i _ _ hk
      rw [h1]
      exact ⟨sbr (outS ids d) row', row', by rw [hout1 _ _ hk]; exact g2, outI _ _ g1, rfl, rfl, (sbr_len _ _).symm, by rw [hout1 _ _ hk, ρ2o _ g3]; exact ρio _ _ hk⟩
    · have hlt : id.2 < mvs'.length := by rw [ok.lem']; exact h2
      have hk := List.getElem?_eq_getElem hlt
      rw [h1]
      exact ⟨sbr (outS ids d) mvs'[id.2], mvs'[id.2], by rw [hout2, m2d, hk]; rfl, outM _ _ hk, rfl, rfl, (sbr_len _ _).symm, by rw [hout2, ρ2d]⟩
  refine ⟨v, ρ2, rfl, T2, ⟨?_, ?_, ?_, ?_, hW.good, hW.tab.mono T2.stab⟩, ?_⟩
  · intro i1 i2 r1 r2 b z1 z2 h1 h2 k1 k2
    have cross : ∀ i1 i2 r1 r2 z1 z2, i1.1 = d → i2.1 ≠ d → M2 i1 = some (some r1) → M2 i2 = some (some r2) → ρ2 i1 = some (b, z1) → ρ2 i2 = some (b, z2) → False := by
      intro i1 i2 r1 r2 z1 z2 e1 e2 h1 h2 k1 k2
      obtain ⟨row, g1, _⟩ := dcase i1 r1 e1 h1
      rw [show i1 = (d, i1.2) from by rw [← e1], ρ2d] at k1
      rw [ρ2o i2 e2] at k2
      obtain ⟨n1, _, ⟨r0, h0⟩, _⟩ := old i2 r2 e2 h2
      rcases newM _ _ _ _ g1 k1 with h3 | ⟨id', h3, z', h4⟩
      · have := hW.lt h0 k2; omega
      · obtain ⟨r3, h5⟩ := liveA id' (.inr h3)
        have := hW.inj i2 id' r0 r3 b z2 z' h0 h5 k2 h4
        exact n1 (by rw [this]; exact h3)
    by_cases e1 : i1.1 = d <;> by_cases e2 : i2.1 = d
    · obtain ⟨row1, g1, _⟩ := dcase i1 r1 e1 h1
      obtain ⟨row2, g2, _⟩ := dcase i2 r2 e2 h2
      rw [show i1 = (d, i1.2) from by rw [← e1], ρ2d] at k1
      rw [show i2 = (d, i2.2) from by rw [← e2], ρ2d] at k2
      have := hR.inj (mv, i1.2) (mv, i2.2) _ _ b z1 z2 (outM _ _ g1) (outM _ _ g2) k1 k2
      exact Prod.ext (e1.trans e2.symm) (Prod.mk.inj this).2
    · exact (cross i1 i2 r1 r2 z1 z2 e1 e2 h1 h2 k1 k2).elim
    · exact (cross i2 i1 r2 r1 z2 z1 e2 e1 h2 h1 k2 k1).elim
    · rw [ρ2o _ e1] at k1
      rw [ρ2o _ e2] at k2
      obtain ⟨_, _, ⟨q1, h3⟩, _⟩ := old i1 r1 e1 h1
      obtain ⟨_, _, ⟨q2, h4⟩, _⟩ := old i2 r2 e2 h2
      exact hW.inj i1 i2 q1 q2 b z1 z2 h3 h4 k1 k2
  · intro id r2 hl
    by_cases hit : id.1 = d
    · obtain ⟨row, h1, rfl⟩ := dcase id r2 hit hl
      rw [show id = (d, id.2) from by rw [← hit], ρ2d]
      have hb := ok.shapm row (List.mem_of_getElem? h1)
      exact (rowOk_ren (namesS ios.length mvs.length) hMout (fun h => by rw [hb] at h; cases h)).2 stab2 (hR.row (mv, id.2) row (outM _ _ h1))
    · rw [ρ2o id hit]
      by_cases hi : id ∈ ids
      · obtain ⟨k, hk⟩ := List.getElem?_of_mem hi
        obtain ⟨row, g1, g2, _⟩ := liveI k id hk
        obtain ⟨row', g3, g4, _⟩ := m2i k id hk
        rw [hl] at g4
        injection g4 with g4
        injection g4 with g4
        subst g4
        have := hR.row (io, k) row' (outI k row' g3)
        rw [ρio k id hk] at this
        exact (rowOk_ren (namesS ios.length mvs.length) hMout (ok.shape k row row' g1 g3).2.2.2.2).2 stab2 this
      · obtain ⟨n1, n2, ⟨r0, h0⟩, n3⟩ := old id r2 hit hl
        refine (hW.row id r2 (n3 hi)).mono T2 fun b z hb => ?_
        refine same b (hW.lt h0 hb) fun id2 hid2 z2 hh => ?_
        obtain ⟨r3, h3⟩ := liveA id2 hid2
        have := hW.inj id id2 r0 r3 b z z2 h0 h3 hb hh
        subst this
        rcases hid2 with h | h
        · exact hi h
        · exact n1 h
  · intro id r2 hl
    by_cases hit : id.1 = d
    · rw [if_neg (by rw [hit]; exact ok.dio)]
      intro b z hb
      obtain ⟨row, h1, _⟩ := dcase id r2 hit hl
      rw [show id = (d, id.2) from by rw [← hit], ρ2d] at hb
      rcases newM _ _ _ _ h1 hb with h2 | ⟨id', h2, z', h3⟩
      · exact .inl (Nat.le_trans hW.keep.size h2)
      · obtain ⟨k, hk⟩ := List.getElem?_of_mem h2
        obtain ⟨row0, _, h4, _, h5⟩ := liveM k id' hk
        have := hW.new id' _ h4
        rw [if_neg h5] at this
        exact this b z' h3
    · obtain ⟨_, _, ⟨r0, h0⟩, _⟩ := old id r2 hit hl
      rw [ρ2o id hit]
      exact hW.new id r0 h0
  · refine ⟨hkeep.os.trans hW.keep.os, hkeep.tape.trans hW.keep.tape, hkeep.output.trans hW.keep.output, Nat.le_trans hW.keep.size hkeep.size, fun b hb hX => ?_, fun b cur ty fr hb => ?_⟩
    · refine (same b (Nat.lt_of_lt_of_le hb hW.keep.size) fun id hid z hh => ?_).trans (hW.keep.block b hb hX)
      obtain ⟨r3, h3⟩ := liveA id hid
      have := hW.new id r3 h3
      split at this
      · exact hX z (by rw [← hh]; exact List.mem_of_getElem? this)
      · rcases this b z hh with h1 | ⟨z', h1⟩
        · omega
        · exact hX z' h1
    · obtain ⟨c1, k1, k2⟩ := hW.keep.shape b cur ty fr hb
      obtain ⟨c2, k3, k4⟩ := hkeep.shape b c1 ty fr k1
      exact ⟨c2, k3, k4.trans k2⟩
  · exact (rep_ren (namesS ios.length mvs.length) hMout 5 r v hrr).2 stab2 hv
end
section
variable [fl : Inhabited FlrT]
variable {P : Program} {draw : Bool} {ops : Array Oper} {rest : List Oper} {env : List (Nat × PV)} {mem : List (Id × Option Row)} {tr : List (List Id × List Id)} {K : St → List (List Id × List Id) → Prop}
  {d : Nat} {ty : TypeId} {pos : String} {af : Array Edge}
theorem sem_callR {o : Oper} {V : Nat → PV} {M : Mem} {c : Call} {f : Operand} {g : FuncId} {fi ca ys : List PV} {r : PV} {ids mids rd : List Id} {ios mvs ios' mvs' : List Row} (ho : o.op = .call c) (hd : o.dst = some d) (hcal : c.callee = .value f) (hev : ev V f = .fn g fi ca)
    (hC : ContractR P g ys ios mvs r ios' mvs') (hrr : refsD 5 (namesS ios.length mvs.length) r = true) (hok : CallOkS M d (fi ++ c.args.toList.map (ev V) ++ ca) ys ids mids rd ios mvs ios' mvs') :
    SemStep P o V M ⟨subD 5 (outS ids d) r, upsS d ids mids rd ios' mvs', (d, 0) :: (ids ++ (mids ++ rd))⟩ := by
  intro V' M' hV' hM' G w0 X N a w K Q hdN _ hR hK
  obtain ⟨ρ, hW, hdef, hs, hV⟩ := hR
  have hop : o.op.operands = c.operands := by rw [ho]; rfl
  have hev' : ev V' f = .fn g fi ca := by rw [hV' f (by rw [hop]; simp [Call.operands, hcal])]; exact hev
  have hargsE : c.args.toList.map (ev V') = c.args.toList.map (ev V) := List.map_congr_left fun y hy => hV' y (by rw [hop]; simp [Call.operands]; exact .inr (Array.mem_toList_iff.1 hy))
  have hok' : CallOkS M' d (fi ++ c.args.toList.map (ev V') ++ ca) ys ids mids rd ios mvs ios' mvs' := by
    rw [hargsE]
    refine hok.congr fun id hid => hM' id (List.mem_map.2 ?_)
    rcases hid with h | h | h | h
    · exact ⟨(d, 0), by simp, h.symm⟩
    · exact ⟨id, List.mem_append_left _ (List.mem_cons_of_mem _ (List.mem_append_left _ h)), rfl⟩
    · exact ⟨id, List.mem_append_left _ (List.mem_cons_of_mem _ (List.mem_append_right _ (List.mem_append_left _ h))), rfl⟩
    · exact ⟨id, List.mem_append_left _ (List.mem_cons_of_mem _ (List.mem_append_right _ (List.mem_append_right _ h))), rfl⟩
  have hf := rep_ev hV f
  rw [hev'] at hf
  obtain ⟨vfi, vca, hfv, c1, c2⟩ := rep_fn.1 hf
  have hargs := (c1.append (comps_map hV c.args)).append c2
  obtain ⟨fn, hfn, hname, hbody⟩ := hC.1
  have hrun : (execOp a.eval o).run P w = .ok (.enter g (vfi ++ c.args.map a.eval ++ vca)) w := by
    simp only [execOp, ho, resolve, hcal, hfv, Deferred.ofValue, Sem.run_bind, Sem.run_pure, Result.andThen_ok, invoke, callFunc, run_program, hfn, hname, hbody, Bool.false_eq_true, if_false]
  unfold Oper.wp
  rw [hrun]
  show Calls P g _ w _
  refine (callR_sound hW hargs hok' hC hrr).mono ?_
  rintro e w' ⟨v, ρ2, rfl, T, W, hx⟩
  exact hK _ _ (put_rel hdN hdef hs hV T W hx)
theorem x_callMr {f : Operand} {args : List Operand} {ats : Array TypeId} {g : FuncId} {fi ca xs ys : List PV} {r v : PV} (ids mids : List Id) {rd : List Id} {ios mvs ios' mvs' : List Row} {up : List (Id × Option Row)}
    (hC : ContractR P g ys ios mvs r ios' mvs') (hf : ev (getE env) f = .fn g fi ca)
    (hxs : fi ++ args.map (ev (getE env)) ++ ca = xs) (hlent : lentS mem (inB ids mids) (namesS ios.length mvs.length) ids ios) (hlemt : lentM mem (inB ids mids) mids mvs) (hrd : rdL (rdO true 6 mem) xs ys [] = some rd)
    (hnd : (nodupB (ids ++ mids) && nodupB rd && rd.all (fun id => !(hasId ids id) && !(hasId mids id) && !Nat.beq id.1 io && (match getM mem id with | some (some _) => true | _ => false))) = true)
    (hsnap : AllR (SnapD 6 (getM mem) ids rd) xs ys) (hfree : freeB mem d = true) (hshape : shapeS (namesS ios.length mvs.length) ios ios') (hlen : Nat.beq mvs'.length mvs.length = true) (hup : upsO d ids mids rd ios' mvs' = some up) (hrr : refsD 5 (namesS ios.length mvs.length) r = true) (hv : subO 5 (outB ids d) r = some v)
    (hk : exec P ops draw rest ⟨(d, v) :: env, up ++ mem⟩ (((d, 0) :: (ids ++ (mids ++ rd)), up.map (·.1)) :: tr) K) :
    exec P ops draw (⟨some d, .call ⟨.value f, args.toArray, ats⟩, ty, pos, af, none⟩ :: rest) ⟨env, mem⟩ tr K := by
  obtain ⟨hu1, hu2⟩ := upsO_ok hup
  obtain ⟨l1, l2⟩ := lentS_ok hlent
  obtain ⟨m1, m2⟩ := lentM_ok hlemt
  obtain ⟨s1, s2⟩ := shapeS_ok hshape
  rw [inB_eq] at l2 m2
  simp only [Bool.and_eq_true] at hnd
  obtain ⟨⟨hn1, hn2⟩, hn3⟩ := hnd
  have hn3 := List.all_eq_true.1 hn3
  obtain ⟨f1, f2⟩ := freeB_ok hfree
  subst hxs
  refine x_sem ⟨v, up, (d, 0) :: (ids ++ (mids ++ rd))⟩ rfl ?_ hk
  rw [← hu1]
  rw [outB_eq] at hv
  rw [← subO_ok 5 _ _ _ hv]
  refine sem_callR (c := ⟨.value f, args.toArray, ats⟩) rfl rfl rfl hf hC hrr ⟨f1, f2, by simpa using hsnap, l1, m1, s1, Nat.eq_of_beq_eq_true hlen, nodupB_ok hn1, l2, m2, fun id hid => ⟨fun hm => ?_, fun hm => ?_⟩, fun id hid => ⟨fun e => ?_, ?_⟩, nodupB_ok hn2, s2, hu2⟩
  · have := hn3 id hid
    simp only [Bool.and_eq_true, Bool.not_eq_true'] at this
    rw [hasId_iff.2 hm] at this
    exact absurd this.1.1.1 (by simp)
  · have := hn3 id hid
    simp only [Bool.and_eq_true, Bool.not_eq_true'] at this
    rw [hasId_iff.2 hm] at this
    exact absurd this.1.1.2 (by simp)
  · have := hn3 id hid
    simp only [Bool.and_eq_true, Bool.not_eq_true'] at this
    have h2 := this.1.2
    rw [e] at h2
    simp at h2
  · have := hn3 id hid
    simp only [Bool.and_eq_true, Bool.not_eq_true'] at this
    have h2 := this.2
    split at h2
    · exact ⟨_, by assumption⟩
    · cases h2
end
def RetPostR (P : Program) (fn : Func) (r : PV) (ios' mvs' : List Row) (e : Exit) (st : St) : Prop :=
  (e = .ret ∨ e = .normal) ∧ ∃ t, fn.results = #[.tmp t] ∧ Ent st ⟨[(t, r)], ioEnv 0 ios' ++ mvEnv 0 mvs'⟩
theorem getE_one (t : Nat) (r : PV) : getE [(t, r)] t = r := by
  show cond (Nat.beq t t) r _ = r
  rw [Nat.beq_refl]
  rfl
theorem contract_ofR {P : Program} {f : FuncId} {fn : Func} {c : Code} {args : List PV} {ios mvs ios' mvs' : List Row} {r : PV} (hm : P.follows .mixedOrders = true) (hf : P.funcs[f]? = some fn) (hb : fn.body = some c)
    (hname : (fn.name == "runtime.NumGoroutine") = false) (hok : codeOk fn.ntmps c = true) (hargs : args.length ≤ fn.ntmps)
    (h : vwp P c ⟨argsEnv 0 args, ioEnv 0 ios ++ mvEnv 0 mvs⟩ (RetPostR P fn r ios' mvs')) : ContractR P f args ios mvs r ios' mvs' := by
  refine ⟨⟨fn, hf, hname, by rw [hb]; rfl⟩, fun G w X ρ cargs hW hC => ?_⟩
  refine calls_of_wp hf hb ?_
  have hM : (⟨argsEnv 0 args, ioEnv 0 ios ++ mvEnv 0 mvs⟩ : St).M = memS ios mvs := memS_eq ios mvs
  have hR : RelF G w X fn.ntmps (⟨argsEnv 0 args, ioEnv 0 ios ++ mvEnv 0 mvs⟩ : St).V (⟨argsEnv 0 args, ioEnv 0 ios ++ mvEnv 0 mvs⟩ : St).M { tmps := cargs ++ Array.replicate (fn.ntmps - cargs.size) undef, defers := [] } w := by
    rw [hM]
    refine ⟨ρ, hW, rfl, by simp [hC.1]; omega, fun t => ?_⟩
    show Rep ρ w _ _ _ (getE (argsEnv 0 args) t)
    rw [getE_args, if_pos (Nat.zero_le _), Nat.sub_zero]
    cases ht : args[t]? with
    | none => exact rep_any
    | some x =>
      obtain ⟨v, h1, h2⟩ := hC.2 t x ht
      have hlt := (Array.getElem?_eq_some_iff.1 h1).1
      have : (cargs ++ Array.replicate (fn.ntmps - cargs.size) undef).getD t undef = v := by
        rw [Array.getD_eq_getD_getElem?, Array.getElem?_append_left hlt, h1]
        rfl
      rw [this]
      exact h2
  refine wp_mono (vwp_sound (flOk0 _ _) hm c _ _ _ w hok h hR) ?_
  rintro e a' w' ⟨st', ⟨he, t, hres, hent⟩, hR'⟩
  obtain ⟨ρ1, hW1, hdef, hs, hV⟩ := hR'
  obtain ⟨ρ2, hW2, _, _, hV2⟩ := hent G w X _ a' w' ⟨ρ1, hW1, hdef, hs, hV⟩
  have hM2 : (⟨[(t, r)], ioEnv 0 ios' ++ mvEnv 0 mvs'⟩ : St).M = memS ios' mvs' := memS_eq ios' mvs'
  obtain ⟨v, hrun, hv⟩ := res_sound (st := ⟨[(t, r)], ioEnv 0 ios' ++ mvEnv 0 mvs'⟩) hW2 hV2 (xs := [r]) (by rw [hres]; exact ⟨getE_one t r, trivial⟩)
  rw [hM2] at hW2 hv
  have goal : ∃ v', (results fn a'.tmps).run P w' = .ok v' w' ∧ ∃ v ρ', Ending.returned v' = .returned v ∧ WRel G ρ' w X (memS ios' mvs') w' ∧ Rep ρ' w' (Stab G ρ' (memS ios' mvs') w') (memS ios' mvs') v r :=
    ⟨v, hrun, v, ρ2, rfl, hW2, hv⟩
  rcases he with rfl | rfl
  · exact ⟨hdef, goal⟩
  · exact ⟨hdef, goal⟩
theorem ret_R {P : Program} {st : St} {fn : Func} {r : PV} {ios' mvs' : List Row} {e : Exit} {ren : List (Id × Id)} {t : Nat} (he : e = .ret ∨ e = .normal) (hr : fn.results = #[.tmp t]) (hren : renA st [(t, r)] (ioEnv 0 ios' ++ mvEnv 0 mvs') = some ren) (hw : WeakerR (oldOf ren) st ⟨[(t, r)], ioEnv 0 ios' ++ mvEnv 0 mvs'⟩) :
    RetPostR P fn r ios' mvs' e st := ⟨he, t, hr, hw.ent⟩
end Go.Vs
set_option linter.unusedVariables false
set_option linter.unusedSimpArgs false
set_option maxRecDepth 100000
set_option maxHeartbeats 4000000
namespace Go.Vs
open Go.Proofs
attribute [local irreducible] exec vwp thenQ blkQ loopQ RetPost RetPostR
theorem k_l1PutS (l : List Int) (n : Int) (m : Nat) (hm : l.length = m) (hn : m ≤ 1000000) (h : l[kPut l n]? = some n) : ContractR Try.prog 44 [.osl (io, 0) 0 m, .int .i64 n] [⟨3, 1, ints l, false⟩] [] (.osl (io, 0) 0 m) [⟨3, 1, ints l, false⟩] [] := by
  refine contract_ofR hmix Try.func44 rfl (by kernel_rfl) (by kernel_rfl) (Nat.le_of_ble_eq_true rfl) ?_
  have hty_u24 := ty_u24
  have hty_s24 := ty_s24
  have hty_c3 := ty_c3
  have hl1 : (ints l).length = l.length := by simp
  repeat' (first | (refine pA (k := ?_)) | (refine g_exec ?_; first | (refine g_guard ?_; refine x_gsplit rfl rfl (fun h => ?_) (fun h => ?_) <;> (have h' := h; try simp only [sx] at h')) | (refine x_nil (hK _ _ aI ?_); clear hK K)) | (refine v_region (fun K hK => ?_)) | (refine v_condt rfl (fun h => ?_) (fun h => ?_) <;> (have h' := h; try simp only [sx] at h')))
  refine v_loopK [0, 1] [] (fun k : Nat => [(5, .int .i64 k)]) (fun k : Nat => []) (fun k : Nat => k ≤ l.length ∧ ∀ (j : Nat) x, j < k → l[j]? = some x → x < n) (fun k : Nat => l.length - k) (0) rfl rfl (fun _ => rfl) (fun _ => rfl) rfl (by refine ⟨?_, ?_, rfl, rfl⟩ <;> (repeat' (first | exact trivial | exact ⟨rfl, rfl⟩ | exact rfl | exact ⟨sub_fn, refs_fn⟩ | refine ⟨⟨rfl, rfl⟩, ?_⟩ | refine ⟨⟨sub_fn, refs_fn⟩, ?_⟩ | refine ⟨⟨rfl, fun h => Bool.noConfusion h⟩, ?_⟩ | refine ⟨⟨rfl, fun h => ?_⟩, ?_⟩ | refine ⟨rfl, ?_⟩ | refine ⟨?_, ?_⟩ | fail))) ⟨by omega, fun j x hj => by omega⟩ (fun k hk => ?_)
  obtain ⟨hk1, hk2⟩ := hk
  rcases Nat.lt_or_ge k l.length with hlt | hge
  · obtain ⟨a, ha⟩ := get_ex hlt
    have hx := ints_at ha
    by_cases hb : a < n
    · repeat' (first | (refine pA (k := ?_)) | (refine g_exec ?_; first | (refine g_guard ?_; refine x_gsplit rfl rfl (fun h => ?_) (fun h => ?_) <;> (have h' := h; try simp only [sx] at h')) | (refine x_nil (hK _ _ aI ?_); clear hK K)) | (refine v_region (fun K hK => ?_)) | (refine v_condt rfl (fun h => ?_) (fun h => ?_) <;> (have h' := h; try simp only [sx] at h')))
      all_goals try (exfalso; omega)
      refine q_next (k + 1) rfl (by refine ⟨?_, ?_, rfl, rfl⟩ <;> (repeat' (first | exact trivial | exact ⟨rfl, rfl⟩ | exact rfl | exact ⟨sub_fn, refs_fn⟩ | refine ⟨⟨rfl, rfl⟩, ?_⟩ | refine ⟨⟨sub_fn, refs_fn⟩, ?_⟩ | refine ⟨⟨rfl, fun h => Bool.noConfusion h⟩, ?_⟩ | refine ⟨⟨rfl, fun h => ?_⟩, ?_⟩ | refine ⟨rfl, ?_⟩ | refine ⟨?_, ?_⟩ | fail))) ⟨by omega, fun j x hj hxx => ?_⟩ aO
      rcases Nat.lt_or_ge j k with h1 | h1
      · exact hk2 j x h1 hxx
      · have : j = k := by omega
        subst this
        rw [ha] at hxx
        injection hxx with hxx
        omega
    · have e : kPut l n = k := kPut_is hk1 hk2 fun x hx => by rw [ha] at hx; injection hx with hx; omega
      rw [e, ha] at h
      injection h with heq
      repeat' (first | (refine pA (k := ?_)) | (refine g_exec ?_; first | (refine g_guard ?_; refine x_gsplit rfl rfl (fun h => ?_) (fun h => ?_) <;> (have h' := h; try simp only [sx] at h')) | (refine x_nil (hK _ _ aI ?_); clear hK K)) | (refine v_region (fun K hK => ?_)) | (refine v_condt rfl (fun h => ?_) (fun h => ?_) <;> (have h' := h; try simp only [sx] at h')))
      all_goals first
        | (exfalso; omega)
        | refine ret_R (by first | exact .inl rfl | exact .inr rfl) rfl rfl (by refine ⟨?_, ?_⟩ <;> (repeat' (first | exact trivial | exact ⟨rfl, rfl⟩ | exact rfl | exact ⟨sub_fn, refs_fn⟩ | refine ⟨⟨rfl, rfl⟩, ?_⟩ | refine ⟨⟨sub_fn, refs_fn⟩, ?_⟩ | refine ⟨⟨rfl, fun h => Bool.noConfusion h⟩, ?_⟩ | refine ⟨⟨rfl, fun h => ?_⟩, ?_⟩ | refine ⟨rfl, ?_⟩ | refine ⟨?_, ?_⟩ | fail)))
  · have : k = l.length := by omega
    subst this
    have e : kPut l n = l.length := kPut_is hk1 hk2 fun x hx => by have := get_lt hx; omega
    rw [e] at h
    have := get_lt h
    omega
theorem k_l1PutN (l : List Int) (n : Int) (hn : l.length ≤ 1000000) (h : l[kPut l n]? ≠ some n) : Con Try.prog 44 [.list 1 (ints l), .int .i64 n] (.olist 3 1 (ints (put l n))) := by
  intro al
  refine contract_of hmix Try.func44 rfl (by kernel_rfl) (by kernel_rfl) (Nat.le_of_ble_eq_true rfl) (fun row h => by cases h) ?_
  have hty_u24 := ty_u24
  have hty_s24 := ty_s24
  have hty_c3 := ty_c3
  have hl1 : (ints l).length = l.length := by simp
  repeat' (first | (refine pA (k := ?_)) | (refine g_exec ?_; first | (refine g_guard ?_; refine x_gsplit rfl rfl (fun h => ?_) (fun h => ?_) <;> (have h' := h; try simp only [sx] at h')) | (refine x_nil (hK _ _ aI ?_); clear hK K)) | (refine v_region (fun K hK => ?_)) | (refine v_condt rfl (fun h => ?_) (fun h => ?_) <;> (have h' := h; try simp only [sx] at h')))
  refine v_loopK [0, 1] [] (fun k : Nat => [(5, .int .i64 k)]) (fun k : Nat => []) (fun k : Nat => k ≤ l.length ∧ ∀ (j : Nat) x, j < k → l[j]? = some x → x < n) (fun k : Nat => l.length - k) (0) rfl rfl (fun _ => rfl) (fun _ => rfl) rfl (by refine ⟨?_, ?_, rfl, rfl⟩ <;> (repeat' (first | exact trivial | exact ⟨rfl, rfl⟩ | exact rfl | exact ⟨sub_fn, refs_fn⟩ | refine ⟨⟨rfl, rfl⟩, ?_⟩ | refine ⟨⟨sub_fn, refs_fn⟩, ?_⟩ | refine ⟨⟨rfl, fun h => Bool.noConfusion h⟩, ?_⟩ | refine ⟨⟨rfl, fun h => ?_⟩, ?_⟩ | refine ⟨rfl, ?_⟩ | refine ⟨?_, ?_⟩ | fail))) ⟨by omega, fun j x hj => by omega⟩ (fun k hk => ?_)
  obtain ⟨hk1, hk2⟩ := hk
  have hs1 : ((ints l).take ((k : Nat) : Int).toNat).drop (((0 : Nat) : Int)).toNat = (ints l).take k := by simp
  have hs2 : ((ints l).take (((ints l).length : Nat) : Int).toNat).drop ((k : Nat) : Int).toNat = (ints l).drop k := by rw [Int.toNat_natCast, Int.toNat_natCast, List.take_length]
  have hs3 : ((ints l).take k).length = k := by rw [List.length_take]; omega
  have hs4 : ((ints l).drop k).length = l.length - k := by rw [List.length_drop]; omega
  rcases Nat.lt_or_ge k l.length with hlt | hge
  · obtain ⟨a, ha⟩ := get_ex hlt
    have hx := ints_at ha
    by_cases hb : a < n
    · repeat' (first | (refine pA (k := ?_)) | (refine g_exec ?_; first | (refine g_guard ?_; refine x_gsplit rfl rfl (fun h => ?_) (fun h => ?_) <;> (have h' := h; try simp only [sx] at h')) | (refine x_nil (hK _ _ aI ?_); clear hK K)) | (refine v_region (fun K hK => ?_)) | (refine v_condt rfl (fun h => ?_) (fun h => ?_) <;> (have h' := h; try simp only [sx] at h')))
      all_goals try (exfalso; omega)
      refine q_next (k + 1) rfl (by refine ⟨?_, ?_, rfl, rfl⟩ <;> (repeat' (first | exact trivial | exact ⟨rfl, rfl⟩ | exact rfl | exact ⟨sub_fn, refs_fn⟩ | refine ⟨⟨rfl, rfl⟩, ?_⟩ | refine ⟨⟨sub_fn, refs_fn⟩, ?_⟩ | refine ⟨⟨rfl, fun h => Bool.noConfusion h⟩, ?_⟩ | refine ⟨⟨rfl, fun h => ?_⟩, ?_⟩ | refine ⟨rfl, ?_⟩ | refine ⟨?_, ?_⟩ | fail))) ⟨by omega, fun j x hj hxx => ?_⟩ aO
      rcases Nat.lt_or_ge j k with h1 | h1
      · exact hk2 j x h1 hxx
      · have : j = k := by omega
        subst this
        rw [ha] at hxx
        injection hxx with hxx
        omega
    · have e : kPut l n = k := kPut_is hk1 hk2 fun x hx => by rw [ha] at hx; injection hx with hx; omega
      have heq : a ≠ n := fun hh => h (by rw [e, ha, hh])
      have e2 : put l n = l.take k ++ (n :: l.drop k) := by unfold put; rw [e, if_neg (by rw [ha]; intro h; injection h with h; exact heq h)]
      have e3 : ints (put l n) = ((ints l).take k ++ [[.int .i64 n]]) ++ (ints l).drop k := by rw [e2]; simp [ints, List.map_take, List.map_drop]
      have hfl : ∀ e ∈ ((ints l).take k ++ [[.int .i64 n]]) ++ (ints l).drop k, ∀ c ∈ e, c.flat = true := by rw [← e3]; exact ints_flat _
      rw [e3]
      repeat' (first | (refine pA (k := ?_)) | (refine g_exec ?_; first | (refine g_guard ?_; refine x_gsplit rfl rfl (fun h => ?_) (fun h => ?_) <;> (have h' := h; try simp only [sx] at h')) | (refine x_nil (hK _ _ aI ?_); clear hK K)) | (refine v_region (fun K hK => ?_)) | (refine v_condt rfl (fun h => ?_) (fun h => ?_) <;> (have h' := h; try simp only [sx] at h')))
      all_goals first
        | (exfalso; omega)
        | (refine ret_list rfl (lookE_ok rfl) rfl ?_ ?_ hfl rfl <;> first | decide | (simp; done) | (simp; omega))
  · have e : kPut l n = l.length := by
      have : k = l.length := by omega
      subst this
      exact kPut_is hk1 hk2 fun x hx => by have := get_lt hx; omega
    have e2 : put l n = l.take l.length ++ (n :: l.drop l.length) := by unfold put; rw [e, if_neg (by rw [List.getElem?_eq_none (Nat.le_refl _)]; intro h; cases h)]
    have e3 : ints (put l n) = ((ints l).take l.length ++ [[.int .i64 n]]) ++ (ints l).drop l.length := by rw [e2]; simp only [ints, List.map_append, List.map_cons, List.map_take, List.map_drop, List.append_assoc, List.cons_append, List.nil_append]
    have hk3 : k = l.length := by omega
    subst hk3
    have hfl : ∀ e ∈ ((ints l).take l.length ++ [[.int .i64 n]]) ++ (ints l).drop l.length, ∀ c ∈ e, c.flat = true := by rw [← e3]; exact ints_flat _
    rw [e3]
    repeat' (first | (refine pA (k := ?_)) | (refine g_exec ?_; first | (refine g_guard ?_; refine x_gsplit rfl rfl (fun h => ?_) (fun h => ?_) <;> (have h' := h; try simp only [sx] at h')) | (refine x_nil (hK _ _ aI ?_); clear hK K)) | (refine v_region (fun K hK => ?_)) | (refine v_condt rfl (fun h => ?_) (fun h => ?_) <;> (have h' := h; try simp only [sx] at h')))
    all_goals first
      | (exfalso; omega)
      | (refine ret_list rfl (lookE_ok rfl) rfl ?_ ?_ hfl rfl <;> first | decide | (simp; done) | (simp; omega))
end Go.Vs
set_option linter.unusedVariables false
set_option linter.unusedSimpArgs false
set_option maxRecDepth 100000
set_option maxHeartbeats 4000000
namespace Go.Vs
open Go.Proofs
attribute [local irreducible] exec vwp thenQ blkQ loopQ RetPost RetPostR
theorem k_l2Clear (t : Terrain) (xs : List Int) (hg : GoodT t) (hx : CelT t xs) (hxl : xs.length ≤ 1000000) : Con Try.prog 102 [.agg t.pv, .list 1 (ints xs)] (.agg [.int .i64 t.width, .int .i64 t.height, .olist 3 1 (ints (clrB t.burn xs))]) := by
  intro al
  refine contract_of hmix Try.func102 rfl (by kernel_rfl) (by kernel_rfl) (Nat.le_of_ble_eq_true rfl) (fun row h => by cases h) ?_
  have hty_a26 := ty_a26
  have hty_z26 := ty_z26
  have hty_f26_0 := ty_f26_0
  have hty_c3 := ty_c3
  have hty_f26_1 := ty_f26_1
  have hty_f26_2 := ty_f26_2
  have hty_c24 := ty_c24
  have hty_u24 := ty_u24
  have hty_s24 := ty_s24
  have hty_st26 := ty_st26
  have hty_t26 := ty_t26
  have hty_t3 := ty_t3
  have hl1 : (ints xs).length = xs.length := by simp
  have hlen := goodT_len hg
  repeat' (first | (refine pA (k := ?_)) | (refine g_exec ?_; first | (refine g_call ?_; refine x_callG true (k_l1OwnF t.burn aO) rfl rfl rfl aS rfl aH ?_; simp only [cl]) | (refine x_nil (hK _ _ aI ?_); clear hK K)) | (refine v_region (fun K hK => ?_)) | (refine v_condt rfl (fun h => ?_) (fun h => ?_) <;> (have h' := h; try simp only [sx] at h')))
  refine v_loopK [1, 4, 5] [(5, 0), (1001, 0)] (fun q : Nat × List (List PV) => [(6, .int .i64 q.1)]) (fun q : Nat × List (List PV) => [((5, 0), some ⟨26, 3, [[.int .i64 t.width, .int .i64 t.height, .osl (1001, 0) 0 t.burn.length]], true⟩), ((1001, 0), some ⟨3, 1, q.2, false⟩)]) (fun q : Nat × List (List PV) => q.1 ≤ xs.length ∧ q.2 = ints (clrB t.burn (xs.take q.1))) (fun q : Nat × List (List PV) => xs.length - q.1) ((0, ints t.burn)) rfl rfl (fun _ => rfl) (fun _ => rfl) rfl (by refine ⟨?_, ?_, rfl, rfl⟩ <;> (repeat' (first | exact trivial | exact ⟨rfl, rfl⟩ | exact rfl | exact ⟨sub_fn, refs_fn⟩ | refine ⟨⟨rfl, rfl⟩, ?_⟩ | refine ⟨⟨sub_fn, refs_fn⟩, ?_⟩ | refine ⟨⟨rfl, fun h => Bool.noConfusion h⟩, ?_⟩ | refine ⟨⟨rfl, fun h => ?_⟩, ?_⟩ | refine ⟨rfl, ?_⟩ | refine ⟨?_, ?_⟩ | fail))) ⟨by simp, by simp [clrB]⟩ (fun q hq => ?_)
  obtain ⟨i, es⟩ := q
  obtain ⟨hi1, hi2⟩ := hq
  simp only at hi1 hi2
  have hel : es.length = (ints t.burn).length := by rw [hi2, ints_len, ints_len, clrB_len]
  have hbl : (ints t.burn).length = t.burn.length := by simp
  dsimp only
  rcases Nat.lt_or_ge i xs.length with hlt | hge
  · obtain ⟨a, hga⟩ := get_ex hlt
    have hga' := ints_at hga
    have hcc := hx.at hga
    unfold IsCell at hcc
    obtain ⟨y, hy⟩ := get_ex (show a.toNat < (clrB t.burn (xs.take i)).length by rw [clrB_len]; omega)
    have hy2 := ints_at hy
    rw [← hi2] at hy2
    have e := ints_setF (clrB t.burn (xs.take i)) a.toNat 0
    repeat' (first | (refine pA (k := ?_)) | (refine g_exec ?_; refine x_nil (hK _ _ aI ?_); clear hK K) | (refine v_region (fun K hK => ?_)) | (refine v_condt rfl (fun h => ?_) (fun h => ?_) <;> (have h' := h; try simp only [sx] at h')))
    all_goals try (exfalso; omega)
    all_goals (refine q_next (i + 1, es.set a.toNat [.int .i64 0]) rfl (by refine ⟨?_, ?_, rfl, rfl⟩ <;> (repeat' (first | exact trivial | exact ⟨rfl, rfl⟩ | exact rfl | exact ⟨sub_fn, refs_fn⟩ | refine ⟨⟨rfl, rfl⟩, ?_⟩ | refine ⟨⟨sub_fn, refs_fn⟩, ?_⟩ | refine ⟨⟨rfl, fun h => Bool.noConfusion h⟩, ?_⟩ | refine ⟨⟨rfl, fun h => ?_⟩, ?_⟩ | refine ⟨rfl, ?_⟩ | refine ⟨?_, ?_⟩ | fail))) ⟨by simp only; omega, by simp only; rw [hi2, e, take_succ hga, clrB_snoc]⟩ (by simp only; omega))
  · rw [take_all hge] at hi2
    subst hi2
    repeat' (first | (refine pA (k := ?_)) | (refine g_exec ?_; refine x_nil (hK _ _ aI ?_); clear hK K) | (refine v_region (fun K hK => ?_)) | (refine v_condt rfl (fun h => ?_) (fun h => ?_) <;> (have h' := h; try simp only [sx] at h')))
    (first | refine ret_T rfl rfl rfl (by first | exact trivial | (repeat' (first | exact trivial | refine ⟨by assumption, ?_⟩))) (by repeat' (first | exact trivial | refine ⟨by simp, ?_⟩)) ?_ | refine ret_A rfl rfl rfl (by first | exact trivial | (repeat' (first | exact trivial | refine ⟨by assumption, ?_⟩))) (by repeat' (first | exact trivial | refine ⟨by simp, ?_⟩)) ?_); (repeat' (first | exact et_end | exact el_end | refine et_int rfl ?_ ?_ | refine et_bool ?_ ?_ | refine et_str ?_ ?_ | refine et_list (by rfl) (by decide) rfl rfl ?_ ?_ ?_ ?_ | refine et_nil ?_ ?_ | refine et_agg ?_ ?_ | refine el_int rfl ?_ ?_ | refine el_bool ?_ ?_ | refine el_str ?_ ?_ | refine el_list (by rfl) (by decide) rfl rfl ?_ ?_ ?_ ?_ | refine el_nil ?_ ?_)) <;> first | rfl | exact ints_flat _ | (simp [clrB_len]; done)
def rst (t : Terrain) (s : List Int × List Int) : List Int × List Int :=
  match s.2 with
  | [] => s
  | c :: r => if burnAt t c = 0 ∨ c ∈ s.1 then (s.1, r) else (put s.1 c, r ++ nears t c)
def rcF (t : Terrain) (xs : List Int) : Nat → List Int × List Int
  | 0 => ([], xs)
  | k + 1 => rst t (rcF t xs k)
def msn (t : Terrain) (l : List Int) : Nat := ((List.range t.burn.length).filter fun i : Nat => decide ((i : Int) ∉ l)).length
def rms (t : Terrain) (s : List Int × List Int) : Nat := 30 * msn t s.1 + s.2.length
theorem filter_lt {α : Type} {p q : α → Bool} (hpq : ∀ x, q x = true → p x = true) : ∀ {l : List α} {a : α}, a ∈ l → p a = true → q a = false → (l.filter q).length < (l.filter p).length
  | [], a, h, _, _ => by cases h
  | x :: l, a, h, hp, hq => by
    have hle : ∀ l : List α, (l.filter q).length ≤ (l.filter p).length := by
      intro l
      induction l with
      | nil => simp
      | cons y l ih =>
        simp only [List.filter_cons]
        cases hy : q y with
        | true => rw [hpq y hy]; simp; exact ih
        | false => cases p y <;> simp <;> omega
    rcases List.mem_cons.1 h with rfl | h
    · simp only [List.filter_cons, hp, hq]
      have := hle l
      simp
      omega
    · have := filter_lt hpq h hp hq
      simp only [List.filter_cons]
      cases hy : q x with
      | true => rw [hpq x hy]; simp; exact this
      | false => cases p x <;> simp <;> omega
theorem msn_put {t : Terrain} {l : List Int} {c : Int} (hc : IsCell t c) (h : c ∉ l) : msn t (put l c) < msn t l := by
  unfold msn
  refine filter_lt (a := c.toNat) (fun x hx => ?_) ?_ ?_ ?_
  · simp only [decide_eq_true_iff, put_mem, not_or] at hx ⊢
    exact hx.1
  · have := hc
    unfold IsCell at this
    simp
    omega
  · have : ((c.toNat : Nat) : Int) = c := by have := hc.1; omega
    rw [this]
    simpa using h
  · have : ((c.toNat : Nat) : Int) = c := by have := hc.1; omega
    rw [this]
    simp [put_mem]
theorem msn_nil (t : Terrain) : msn t [] ≤ t.burn.length := by
  unfold msn
  have := List.length_filter_le (fun i : Nat => decide ((i : Int) ∉ ([] : List Int))) (List.range t.burn.length)
  simpa using this
structure RcF (t : Terrain) (s : List Int × List Int) : Prop where
  out : CelT t s.1
  nx : CelT t s.2
  len : s.1.length + msn t s.1 ≤ 25
  rm : rms t s ≤ 1000755
theorem rst_rch {t : Terrain} (hg : GoodT t) {s : List Int × List Int} (h : RcF t s) (hne : s.2 ≠ []) : RcF t (rst t s) ∧ rms t (rst t s) < rms t s := by
  obtain ⟨o, nx⟩ := s
  cases nx with
  | nil => exact absurd rfl hne
  | cons c r =>
    have hc : IsCell t c := h.nx c List.mem_cons_self
    have hr : CelT t r := fun y hy => h.nx y (List.mem_cons_of_mem _ hy)
    have hm := h.rm
    unfold rst
    simp only
    split
    · have hlt : rms t (o, r) < rms t (o, c :: r) := by simp [rms]
      exact ⟨⟨h.out, hr, h.len, by omega⟩, hlt⟩
    · rename_i hn
      have hni : c ∉ o := fun hh => hn (.inr hh)
      have h1 := msn_put hc hni
      have h2 := put_len o c
      have h3 := nears_len t c
      have h4 := goodT_len hg
      have h5 := h.len
      simp only at h5
      have hlt : rms t (put o c, r ++ nears t c) < rms t (o, c :: r) := by simp only [rms, List.length_append, List.length_cons]; omega
      refine ⟨⟨fun y hy => ?_, fun y hy => ?_, by simp only; omega, by omega⟩, hlt⟩
      · rcases put_mem.1 hy with g | g
        · exact h.out y g
        · rw [g]; exact hc
      · rcases List.mem_append.1 hy with g | g
        · exact hr y g
        · exact (nears_mem.1 g).1
theorem k_l2Reach (t : Terrain) (xs : List Int) (hg : GoodT t) (hx : CelT t xs) (hxl : xs.length ≤ 1000000) : ∃ out, CelT t out ∧ out.length ≤ 25 ∧ Con Try.prog 101 [.agg t.pv, .list 1 (ints xs)] (.olist 3 1 (ints out)) := by
  have hlen := goodT_len hg
  have h0 : RcF t (rcF t xs 0) := ⟨fun y hy => by simp [rcF] at hy, hx, by have := msn_nil t; simp [rcF]; omega, by have := msn_nil t; simp [rcF, rms]; omega⟩
  have key : ∀ m k, rms t (rcF t xs k) ≤ m → RcF t (rcF t xs k) → ∃ N, k ≤ N ∧ (rcF t xs N).2 = [] ∧ ∀ j, k ≤ j → j < N → RcF t (rcF t xs j) ∧ (rcF t xs j).2 ≠ [] := by
    intro m
    induction m with
    | zero =>
      intro k hk h
      refine ⟨k, Nat.le_refl _, ?_, fun j h1 h2 => by omega⟩
      apply List.eq_nil_of_length_eq_zero
      unfold rms at hk
      omega
    | succ m ih =>
      intro k hk h
      by_cases he : (rcF t xs k).2 = []
      · exact ⟨k, Nat.le_refl _, he, fun j h1 h2 => by omega⟩
      · obtain ⟨h1, h2⟩ := rst_rch hg h he
        obtain ⟨N, g1, g2, g3⟩ := ih (k + 1) (by show rms t (rst t _) ≤ m; omega) h1
        refine ⟨N, by omega, g2, fun j h3 h4 => ?_⟩
        by_cases hj : j = k
        · subst hj; exact ⟨h, he⟩
        · exact g3 j aO h4
  obtain ⟨N, _, hN, hall⟩ := key _ 0 (Nat.le_refl _) h0
  have hR : ∀ j, j ≤ N → RcF t (rcF t xs j) := by
    intro j hj
    cases j with
    | zero => exact h0
    | succ j => exact (rst_rch hg (hall j aO aO).1 (hall j aO aO).2).1
  refine ⟨(rcF t xs N).1, (hR N (Nat.le_refl _)).out, by have := (hR N (Nat.le_refl _)).len; omega, ?_⟩
  intro al
  refine contract_of hmix Try.func101 rfl (by kernel_rfl) (by kernel_rfl) (Nat.le_of_ble_eq_true rfl) (fun row h => by cases h) ?_
  have hty_s24 := ty_s24
  have hty_u24 := ty_u24
  have hty_c3 := ty_c3
  have hty_f26_2 := ty_f26_2
  have hty_c24 := ty_c24
  have hty_a26 := ty_a26
  have hl1 : (ints xs).length = xs.length := by simp
  have hl2 : (ints t.burn).length = t.burn.length := by simp
  repeat' (first | (refine pA (k := ?_)) | (refine g_exec ?_; first | (refine g_call ?_; refine x_callG true (k_l1OwnF xs hxl) rfl rfl rfl aS rfl aH ?_; simp only [cl]) | (refine g_guard ?_; refine x_gsplit rfl rfl (fun h => ?_) (fun h => ?_) <;> (have h' := h; try simp only [sx] at h')) | (refine x_nil (hK _ _ aI ?_); clear hK K)) | (refine v_region (fun K hK => ?_)) | (refine v_condt rfl (fun h => ?_) (fun h => ?_) <;> (have h' := h; try simp only [sx] at h')))
  refine v_loopK [2] [] (fun q : Nat × List Int × Nat × Nat × List (List PV) × Nat => [(5, .osl (1001, 0) 0 q.2.2.1), (6, .osl (1002, 0) q.2.2.2.1 q.2.2.2.2.2)]) (fun q : Nat × List Int × Nat × Nat × List (List PV) × Nat => [((1001, 0), some ⟨3, 1, ints q.2.1, false⟩), ((1002, 0), some ⟨3, 1, q.2.2.2.2.1, false⟩)]) (fun q : Nat × List Int × Nat × Nat × List (List PV) × Nat => q.1 ≤ N ∧ q.2.1 = (rcF t xs q.1).1 ∧ (ints q.2.1).length = q.2.2.1 ∧ q.2.2.2.2.1.drop q.2.2.2.1 = ints (rcF t xs q.1).2 ∧ q.2.2.2.2.1.length = q.2.2.2.1 + q.2.2.2.2.2) (fun q : Nat × List Int × Nat × Nat × List (List PV) × Nat => N - q.1) ((0, [], 0, 0, ints xs, (ints xs).length)) rfl rfl (fun _ => rfl) (fun _ => rfl) rfl (by refine ⟨?_, ?_, rfl, rfl⟩ <;> (repeat' (first | exact trivial | exact ⟨rfl, rfl⟩ | exact rfl | exact ⟨sub_fn, refs_fn⟩ | refine ⟨⟨rfl, rfl⟩, ?_⟩ | refine ⟨⟨sub_fn, refs_fn⟩, ?_⟩ | refine ⟨⟨rfl, fun h => Bool.noConfusion h⟩, ?_⟩ | refine ⟨⟨rfl, fun h => ?_⟩, ?_⟩ | refine ⟨rfl, ?_⟩ | refine ⟨?_, ?_⟩ | fail))) ⟨by simp, rfl, rfl, rfl, by simp⟩ (fun q hq => ?_)
  obtain ⟨k, out, ol, o, R, m⟩ := q
  obtain ⟨h1, h2, h3, h4, h5⟩ := hq
  simp only at h1 h2 h3 h4 h5
  have hlu := h3.symm
  have hml : m = (rcF t xs k).2.length := by
    have := congrArg List.length h4
    rw [List.length_drop, ints_len] at this
    omega
  dsimp only
  rcases Nat.lt_or_ge k N with hlt | hge
  · obtain ⟨hRk, hne⟩ := hall k aO hlt
    have hsk : rcF t xs (k + 1) = rst t (rcF t xs k) := rfl
    generalize rcF t xs k = s at *
    obtain ⟨o', nx⟩ := s
    simp only at h2 h4 hml hne
    subst h2
    cases nx with
    | nil => exact absurd rfl hne
    | cons c r =>
      simp only [List.length_cons] at hml
      have hc : IsCell t c := hRk.nx c List.mem_cons_self
      have hcc := hc
      unfold IsCell at hcc
      have hb := ints_at (burn_at hc)
      have hR0 : R[o + Int.toNat 0]? = some [.int .i64 c] := by
        have := congrArg (fun l => l[0]?) h4
        simp only [List.getElem?_drop] at this
        rw [show o + Int.toNat 0 = o + 0 from rfl, this]
        rfl
      have hdr : R.drop (o + 1) = ints r := by
        have := congrArg List.tail h4
        rw [List.tail_drop] at this
        rw [this]
        rfl
      have hol := hRk.len
      simp only at hol
      have hrm := hRk.rm
      simp only [rms, List.length_cons] at hrm
      by_cases hb0 : burnAt t c = 0
      · have hst : rst t (out, c :: r) = (out, r) := by unfold rst; simp only; rw [if_pos (.inl hb0)]
        repeat' (first | (refine pA (k := ?_)) | (refine g_exec ?_; first | (refine g_call ?_; refine x_callG true (k_l1Has out c aO) rfl rfl rfl aS rfl aH ?_; simp only [cl]) | (refine g_guard ?_; refine x_gsplit rfl rfl (fun h => ?_) (fun h => ?_) <;> (have h' := h; try simp only [sx] at h')) | (refine x_nil (hK _ _ aI ?_); clear hK K)) | (refine v_region (fun K hK => ?_)) | (refine v_condt rfl (fun h => ?_) (fun h => ?_) <;> (have h' := h; try simp only [sx] at h')))
        all_goals first
          | (exfalso; omega)
          | (refine q_next (k + 1, out, ol, o + 1, R, m - 1) rfl (by refine ⟨?_, ?_, rfl, rfl⟩ <;> (repeat' (first | exact trivial | exact ⟨rfl, rfl⟩ | exact rfl | exact ⟨sub_fn, refs_fn⟩ | refine ⟨⟨rfl, rfl⟩, ?_⟩ | refine ⟨⟨sub_fn, refs_fn⟩, ?_⟩ | refine ⟨⟨rfl, fun h => Bool.noConfusion h⟩, ?_⟩ | refine ⟨⟨rfl, fun h => ?_⟩, ?_⟩ | refine ⟨rfl, ?_⟩ | refine ⟨?_, ?_⟩ | fail))) ⟨by simp only; omega, by simp only; rw [hsk, hst], h3, by simp only; rw [hsk, hst, hdr], by simp only; omega⟩ (by simp only; omega))
      · by_cases hin : c ∈ out
        · have hst : rst t (out, c :: r) = (out, r) := by unfold rst; simp only; rw [if_pos (.inr hin)]
          repeat' (first | (refine pA (k := ?_)) | (refine g_exec ?_; first | (refine g_call ?_; refine x_callG true (k_l1Has out c aO) rfl rfl rfl aS rfl aH ?_; simp only [cl]) | (refine g_guard ?_; refine x_gsplit rfl rfl (fun h => ?_) (fun h => ?_) <;> (have h' := h; try simp only [sx] at h')) | (refine x_nil (hK _ _ aI ?_); clear hK K)) | (refine v_region (fun K hK => ?_)) | (refine v_condt rfl (fun h => ?_) (fun h => ?_) <;> (have h' := h; try simp only [sx] at h')))
          all_goals first
            | (exfalso; omega)
            | (exact absurd hin aA)
            | (refine q_next (k + 1, out, ol, o + 1, R, m - 1) rfl (by refine ⟨?_, ?_, rfl, rfl⟩ <;> (repeat' (first | exact trivial | exact ⟨rfl, rfl⟩ | exact rfl | exact ⟨sub_fn, refs_fn⟩ | refine ⟨⟨rfl, rfl⟩, ?_⟩ | refine ⟨⟨sub_fn, refs_fn⟩, ?_⟩ | refine ⟨⟨rfl, fun h => Bool.noConfusion h⟩, ?_⟩ | refine ⟨⟨rfl, fun h => ?_⟩, ?_⟩ | refine ⟨rfl, ?_⟩ | refine ⟨?_, ?_⟩ | fail))) ⟨by simp only; omega, by simp only; rw [hsk, hst], h3, by simp only; rw [hsk, hst, hdr], by simp only; omega⟩ (by simp only; omega))
        · have hst : rst t (out, c :: r) = (put out c, r ++ nears t c) := by unfold rst; simp only; rw [if_neg (fun h => h.elim hb0 hin)]
          have hpn : out[kPut out c]? ≠ some c := fun h => hin (get_mem h)
          have hnl := nears_len t c
          have hnl2 : (ints (nears t c)).length = (nears t c).length := by simp
          repeat' (first | (refine pA (k := ?_)) | (refine g_exec ?_; first | (refine g_call ?_; first | (refine x_callG true (k_l1Has out c aO) rfl rfl rfl aS rfl aH ?_; simp only [cl]) | (refine x_callG true (k_l1PutN out c aO hpn) rfl rfl rfl aS rfl aH ?_; simp only [cl]) | (refine x_callG true (k_l2Near t c hg hc) rfl rfl rfl aS rfl aH ?_; simp only [cl])) | (refine g_guard ?_; refine x_gsplit rfl rfl (fun h => ?_) (fun h => ?_) <;> (have h' := h; try simp only [sx] at h')) | (refine x_nil (hK _ _ aI ?_); clear hK K)) | (refine v_region (fun K hK => ?_)) | (refine v_condt rfl (fun h => ?_) (fun h => ?_) <;> (have h' := h; try simp only [sx] at h')))
          all_goals first
            | (exfalso; omega)
            | (exact absurd aA hin)
            | (refine q_next (k + 1, put out c, (ints (put out c)).length, 0, R.drop (o + 1) ++ ints (nears t c), m - 1 + (ints (nears t c)).length) rfl (by refine ⟨?_, ?_, rfl, rfl⟩ <;> (repeat' (first | exact trivial | exact ⟨rfl, rfl⟩ | exact rfl | exact ⟨sub_fn, refs_fn⟩ | refine ⟨⟨rfl, rfl⟩, ?_⟩ | refine ⟨⟨sub_fn, refs_fn⟩, ?_⟩ | refine ⟨⟨rfl, fun h => Bool.noConfusion h⟩, ?_⟩ | refine ⟨⟨rfl, fun h => ?_⟩, ?_⟩ | refine ⟨rfl, ?_⟩ | refine ⟨?_, ?_⟩ | fail))) ⟨by simp only; omega, by simp only; rw [hsk, hst], rfl, by simp only [List.drop_zero]; rw [hsk, hst, hdr]; simp [ints], by simp only [List.length_append, List.length_drop]; omega⟩ (by simp only; omega))
  · have hkN : k = N := by omega
    subst hkN
    rw [hN] at h4 hml
    simp at hml
    subst hml
    repeat' (first | (refine pA (k := ?_)) | (refine g_exec ?_; first | (refine g_guard ?_; refine x_gsplit rfl rfl (fun h => ?_) (fun h => ?_) <;> (have h' := h; try simp only [sx] at h')) | (refine x_nil (hK _ _ aI ?_); clear hK K)) | (refine v_region (fun K hK => ?_)) | (refine v_condt rfl (fun h => ?_) (fun h => ?_) <;> (have h' := h; try simp only [sx] at h')))
    all_goals first
      | (exfalso; omega)
      | exact ret_list rfl (lookE_ok (by rfl)) (by rfl) (by decide) hlu (ints_flat _) (by rw [h2])
end Go.Vs
