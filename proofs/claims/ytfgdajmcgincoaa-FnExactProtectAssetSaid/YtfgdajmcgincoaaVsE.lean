/- VALUE SEMANTICS: Go values as pure values; what the operations, calls and loops of the model do to them. Nothing here names a program. -/
import Derived.Test.YtfgdajmcgincoaaVsC
/- VALUE SEMANTICS, 38: results of functions that were lent rows, of any shape; the same handed over as lists that are only read; sequences of states. -/
set_option linter.unusedVariables false
set_option linter.unusedSimpArgs false
set_option linter.unusedSectionVars false
namespace Go.Vs
section
variable [fl : Inhabited FlrT]
section
variable {P : Program} {G : Nat → Prop} {ρ : Id → Option (Nat × Nat)} {w0 w : World} {X : List (Option (Nat × Nat))} {M N : Mem} {v : Value}
theorem frzL_repN {t : Nat} {xs : List PV} {k : Nat} (hW : WRel G ρ w0 X M w) (hM : ∀ p ∈ (thawL t k xs).2.2, M p.1 = some p.2) (ht : t ≠ io) (hc : xs.all clean1 = true)
    (hsub : ∀ b, Stab G ρ M w b → Stab G ρ N w b) (hoff : ∀ id r, N id = some (some r) → M id = some (some r) ∧ id.1 ≠ t) {cs : Array Value} (h : Comps ρ w (Stab G ρ M w) M cs (thawL t k xs).2.1) : Comps ρ w (Stab G ρ N w) noMem cs (xs.map frz1) := by
  obtain ⟨hl, hat⟩ := thawL_at t xs k
  refine ⟨by rw [h.1, hl, List.length_map], fun j u hu => ?_⟩
  rw [List.getElem?_map] at hu
  cases hx : xs[j]? with
  | none => rw [hx] at hu; cases hu
  | some x =>
    rw [hx] at hu
    injection hu with hu
    subst hu
    obtain ⟨y, h1, h2⟩ := hat j x hx
    obtain ⟨c, h3, h4⟩ := h.2 j y h1
    refine ⟨c, h3, ?_⟩
    rcases h2 with ⟨ty, sz, es, k', rfl, rfl, hm⟩ | ⟨rfl, he⟩
    · exact osl_given hW (hM _ hm) ht hsub (fun id r h => ⟨(hoff id r h).1, fun e => (hoff id r h).2 (by rw [e])⟩) h4
    · rw [he]
      exact rep_clean1 hsub (List.all_eq_true.1 hc _ (List.mem_of_getElem? hx)) he h4
theorem frz2_repN {t : Nat} {x : PV} {k : Nat} (hW : WRel G ρ w0 X M w) (hM : ∀ p ∈ (thaw1 t k x).2.2, M p.1 = some p.2) (ht : t ≠ io) (hc : clean2 x = true)
    (hsub : ∀ b, Stab G ρ M w b → Stab G ρ N w b) (hoff : ∀ id r, N id = some (some r) → M id = some (some r) ∧ id.1 ≠ t) (h : Rep ρ w (Stab G ρ M w) M v (thaw1 t k x).2.1) : Rep ρ w (Stab G ρ N w) noMem v (frz2 x) := by
  cases x with
  | agg cs =>
    simp only [thaw1] at h hM
    obtain ⟨a, rfl, hcs⟩ := rep_agg.1 h
    exact rep_agg.2 ⟨a, rfl, frzL_repN hW hM ht hc hsub hoff hcs⟩
  | olist ty sz es => exact osl_given hW (hM ((t, k), some ⟨ty, sz, es, false⟩) (by simp [thaw1])) ht hsub (fun id r h => ⟨(hoff id r h).1, fun e => (hoff id r h).2 (by rw [e])⟩) h
  | any => exact rep_any
  | int _ _ => exact rep_clean1 hsub rfl rfl h
  | bool _ => exact rep_clean1 hsub rfl rfl h
  | str _ => exact rep_clean1 hsub rfl rfl h
  | nil => exact rep_clean1 hsub rfl rfl h
  | list _ _ => exact rep_clean1 hsub rfl rfl h
  | ptr _ => exact rep_clean1 hsub rfl rfl h
  | own _ _ _ => cases hc
  | clist _ _ => cases hc
  | osl _ _ _ => cases hc
  | tuple _ => cases hc
  | fn _ _ _ => cases hc
  | sem _ => cases hc
/-- A contract with lent rows whose result is handed over as lists that are only read. -/
theorem ConL.frz {g : FuncId} {ys : List PV} {ios : List Row} {r : PV} {fin : List (List (List PV))} (h : ContractP P g true ys ios fun r' fin' => r' = r ∧ fin' = fin) (hc : clean r = true) (hbx : ∀ row ∈ ios, row.bx = false) :
    ContractP P g true ys ios fun r' fin' => r' = Go.Vs.frz r ∧ fin' = fin := by
  refine ⟨h.1, fun G w X ρ cargs hW hX hC => ?_⟩
  obtain ⟨cb, h2⟩ := h
  refine (h2 G w X ρ cargs hW hX hC).mono fun e w' => ?_
  rintro ⟨v, r', fin', rfl, ⟨rfl, rfl⟩, hl, hf, hR⟩
  refine ⟨v, Go.Vs.frz r', fin', rfl, ⟨rfl, rfl⟩, hl, hf, fun t ht => ?_⟩
  obtain ⟨ρ', hR⟩ := hR t ht
  refine ⟨ρ', ?_⟩
  have hrel := hR.rel
  have hval := hR.val
  have hN : ∀ id r, ioMem (withEs ios fin') id = some (some r) → ((ioMem (withEs ios fin')).upds (thaw t r').2) id = some (some r) ∧ id.1 ≠ t := by
    intro id r h
    have hio : id.1 = io := by
      simp only [ioMem] at h
      split at h
      · assumption
      · cases h
    have hne : id.1 ≠ t := by rw [hio]; exact fun e => ht e.symm
    exact ⟨by rw [upds_other _ _ id fun p hp e => hne (by rw [← e]; exact thaw_fst t r' p hp)]; exact h, hne⟩
  have hsub : ∀ b, Stab G ρ' ((ioMem (withEs ios fin')).upds (thaw t r').2) w' b → Stab G ρ' (ioMem (withEs ios fin')) w' b := fun b hb => ⟨hb.1, fun id r z h => hb.2.1 id r z (hN id r h).1, hb.2.2⟩
  have hkeys : ∀ p ∈ (thaw t r').2, noMem.upds (thaw t r').2 p.1 = some p.2 := fun p hp => by
    refine looks_upds _ ?_ p hp
    cases r' with
    | tuple vs => exact (thawT_keys t vs 0).2.2
    | _ => exact (thaw1_keys t 0 _).2.2
  have hat : ∀ p ∈ (thaw t r').2, ((ioMem (withEs ios fin')).upds (thaw t r').2) p.1 = some p.2 := fun p hp => by
    rcases upds_or (ioMem (withEs ios fin')) (thaw t r').2 p.1 with ⟨h1, _⟩ | ⟨_, h2⟩
    · rw [h1]; exact hkeys p hp
    · rw [hkeys p hp] at h2; cases h2
  have hmle : MLe ρ' w' (noMem.upds (thaw t r').2) ρ' w' ((ioMem (withEs ios fin')).upds (thaw t r').2) := fun id => by
    cases hMi : noMem.upds (thaw t r').2 id with
    | none => trivial
    | some o =>
      have e := hat (id, o) (upds_find hMi)
      cases o with
      | none => exact e
      | some row => exact .inr ⟨row, e, rfl, rfl, Nat.le_refl _, rfl, fun b z hb cur hcur => ⟨cur, hcur, rfl⟩⟩
  have hv : Rep ρ' w' (Stab G ρ' ((ioMem (withEs ios fin')).upds (thaw t r').2) w') ((ioMem (withEs ios fin')).upds (thaw t r').2) v (thaw t r').1 := hval.mono (fun b hb => ⟨hb.1, rfl⟩) hmle
  have key : Rep ρ' w' (Stab G ρ' (ioMem (withEs ios fin')) w') noMem v (Go.Vs.frz r') := by
    have one : ∀ x : PV, (∀ p ∈ (thaw1 t 0 x).2.2, ((ioMem (withEs ios fin')).upds (thaw t r').2) p.1 = some p.2) → clean2 x = true → Rep ρ' w' (Stab G ρ' ((ioMem (withEs ios fin')).upds (thaw t r').2) w') ((ioMem (withEs ios fin')).upds (thaw t r').2) v (thaw1 t 0 x).2.1 → Rep ρ' w' (Stab G ρ' (ioMem (withEs ios fin')) w') noMem v (frz2 x) :=
      fun x h1 h2 h3 => frz2_repN hrel h1 ht h2 hsub hN h3
    cases r' with
    | tuple vs =>
      simp only [thaw] at hv hrel hsub hN hat
      obtain ⟨a, rfl, hcs⟩ := rep_tuple.1 hv
      obtain ⟨k1, k2⟩ := thawT_at t vs 0
      refine rep_tuple.2 ⟨a, rfl, by rw [hcs.1, k1, List.length_map], fun j u hu => ?_⟩
      rw [List.getElem?_map] at hu
      cases hx : vs[j]? with
      | none => rw [hx] at hu; cases hu
      | some x =>
        rw [hx] at hu
        injection hu with hu
        subst hu
        obtain ⟨k', g1, g2⟩ := k2 j x hx
        obtain ⟨c, m1, m2⟩ := hcs.2 j _ g1
        exact ⟨c, m1, frz2_repN hrel (fun p hp => hat p (g2 p hp)) ht (List.all_eq_true.1 hc _ (List.mem_of_getElem? hx)) hsub hN m2⟩
    | agg cs => exact one (.agg cs) hat hc hv
    | olist ty sz es => exact one (.olist ty sz es) hat hc hv
    | any => exact rep_any
    | int _ _ => exact rep_clean1 hsub rfl rfl hv
    | bool _ => exact rep_clean1 hsub rfl rfl hv
    | str _ => exact rep_clean1 hsub rfl rfl hv
    | nil => exact rep_clean1 hsub rfl rfl hv
    | list _ _ => exact rep_clean1 hsub rfl rfl hv
    | ptr _ => exact rep_clean1 hsub rfl rfl hv
    | own _ _ _ => cases hc
    | clist _ _ => cases hc
    | osl _ _ _ => cases hc
    | fn _ _ _ => cases hc
    | sem _ => cases hc
  have hbx' : ∀ id r, ioMem (withEs ios fin') id = some (some r) → r.bx = false := by
    intro id r h
    simp only [ioMem] at h
    split at h
    · rw [withEs_at ios fin' _ hl] at h
      cases hk : ios[id.2]? with
      | none => rw [hk] at h; simp at h
      | some row0 =>
        cases hk2 : fin'[id.2]? with
        | none => rw [hk, hk2] at h; simp at h
        | some es =>
          rw [hk, hk2] at h
          simp at h
          rw [← h]
          exact hbx row0 (List.mem_of_getElem? hk)
    · cases h
  have hnew : WRel G ρ' w X (ioMem (withEs ios fin')) w' := by
    refine ⟨fun id id' r r' b z z' h1 h2 => hrel.inj id id' r r' b z z' (hN id r h1).1 (hN id' r' h2).1, fun id r h => ?_, fun id r h => hrel.new id r (hN id r h).1, hrel.keep, hrel.good, hrel.tab.mono fun b hb => ⟨hsub b hb, rfl⟩⟩
    have hr := hrel.row id r (hN id r h).1
    have hb := hbx' id r h
    cases hρ : ρ' id with
    | none => rw [hρ] at hr; exact hr
    | some bz =>
      obtain ⟨b, z⟩ := bz
      rw [hρ] at hr
      obtain ⟨cur, C, g1, g2, g3, g4, g5, g6⟩ := hr
      refine ⟨cur, C, g1, g2, g3, g4, g5, fun i e hi => ⟨(g6 i e hi).1, fun j u hu => ?_⟩⟩
      obtain ⟨c, k1, k2, k3⟩ := (g6 i e hi).2 j u hu
      rw [hb] at k3 ⊢
      exact ⟨c, k1, k2, k3.pureMono fun b hb => ⟨hsub b hb, rfl⟩⟩
  refine ⟨?_, ?_, ?_⟩
  · rw [thaw_frz]; exact hnew
  · intro id row b z h1
    rw [thaw_frz] at h1
    cases h1
  · rw [thaw_frz]
    exact key.mono (fun b hb => ⟨⟨hb, fun h => by cases h⟩, rfl⟩) (MLe.refl _ _ _)
end

section
variable {P : Program} {st : St} {al : Bool} {xs ys : List PV} {u u1 : List (Option Id)}
theorem et_lst {sz sz' : Nat} {es es' : List (List PV)} (ha : al = true) (hz : sz = sz') (h : es = es') (ht : ExpT al st xs ys u) : ExpT al st (.list sz es :: xs) (.list sz' es' :: ys) u := ⟨[], u, ⟨ha, hz, h, rfl⟩, ht, rfl⟩
theorem el_lst {sz sz' : Nat} {es es' : List (List PV)} (ha : al = true) (hz : sz = sz') (h : es = es') (ht : ExpL al st xs ys u) : ExpL al st (.list sz es :: xs) (.list sz' es' :: ys) u := ⟨[], u, ⟨ha, hz, h, rfl⟩, ht, rfl⟩
theorem et_listA {id : Id} {T T' sz sz' n : Nat} {es es' : List (List PV)} (ha : al = true) (hm : getM st.mem id = some (some ⟨T, sz, es, false⟩)) (hio : id.1 ≠ io) (hT : T = T') (hz : sz = sz') (hn : n = es.length) (hes : es = es')
    (ht : ExpT al st xs ys u) : ExpT al st (.osl id 0 n :: xs) (.olist T' sz' es' :: ys) (some id :: u) := by
  subst hT hz hes hn
  exact ⟨[some id], u, ⟨rfl, hio, rfl, .inl ha, hm, rfl⟩, ht, rfl⟩
theorem el_listA {id : Id} {T T' sz sz' n : Nat} {es es' : List (List PV)} (ha : al = true) (hm : getM st.mem id = some (some ⟨T, sz, es, false⟩)) (hio : id.1 ≠ io) (hT : T = T') (hz : sz = sz') (hn : n = es.length) (hes : es = es')
    (ht : ExpL al st xs ys u) : ExpL al st (.osl id 0 n :: xs) (.olist T' sz' es' :: ys) (some id :: u) := by
  subst hT hz hes hn
  exact ⟨[some id], u, ⟨rfl, hio, rfl, .inl ha, hm, rfl⟩, ht, rfl⟩
variable {rows : List Row} {fin : List (List (List PV))} {e : Exit}
/-- The end of a function that was lent rows: several results, a struct, one list, one value. -/
theorem ret_TL {fn : Func} {x y : PV} {rs : List ResultVar} (hrs : fn.results.toList = rs) (hr : resO st rs = some (x :: y :: xs)) (hu : uT (x :: y :: xs) = some u) (hc : cellsT P rs (x :: y :: xs)) (ha : apartIds u) (hf : finsL st.mem 0 rows fin) (he : ExpT al st (x :: y :: xs) ys u) :
    RetPost P fn al rows (fun r' fin' => r' = .tuple ys ∧ fin' = fin) .ret st := ret_ofL (.inl rfl) (x :: y :: xs) u (by rw [hrs]; exact resO_ok hr hc) he ha hf
theorem ret_AL {fn : Func} {cs ds : List PV} {rs : List ResultVar} (hrs : fn.results.toList = rs) (hr : resO st rs = some [.agg cs]) (hu : uO cs = some u) (hc : cellsT P rs [.agg cs]) (ha : apartIds u) (hf : finsL st.mem 0 rows fin) (he : ExpL al st cs ds u) :
    RetPost P fn al rows (fun r' fin' => r' = .agg ds ∧ fin' = fin) .ret st := ret_ofL (.inl rfl) [.agg cs] u (by rw [hrs]; exact resO_ok hr hc) he ha hf
theorem ret_lL {fn : Func} {t T T' sz sz' n : Nat} {id : Id} {es es' : List (List PV)} (hr : fn.results = #[.tmp t]) (hv : lookE st.env t = some (.osl id 0 n)) (hm : getM st.mem id = some (some ⟨T, sz, es, false⟩)) (hio : id.1 ≠ io) (hf : finsL st.mem 0 rows fin) (hT : T = T') (hz : sz = sz') (hn : n = es.length) (hes : es = es') :
    RetPost P fn true rows (fun r' fin' => r' = .olist T' sz' es' ∧ fin' = fin) .ret st := by
  subst hT hz hes hn
  exact ret_ofL (.inl rfl) [.osl id 0 es.length] [some id] (by rw [hr]; exact ⟨lookE_ok hv, trivial⟩) ⟨rfl, hio, rfl, .inl rfl, hm, rfl⟩ ⟨by simp, trivial⟩ hf
theorem ret_iL {fn : Func} {t : Nat} {k : IntKind} {n n' : Int} (hr : fn.results = #[.tmp t]) (hv : lookE st.env t = some (.int k n)) (hf : finsL st.mem 0 rows fin) (hn : n = n') : RetPost P fn al rows (fun r' fin' => r' = .int k n' ∧ fin' = fin) .ret st := by
  subst hn
  exact ret_ofL (.inl rfl) [.int k n] [] (by rw [hr]; exact ⟨lookE_ok hv, trivial⟩) ⟨rfl, rfl, rfl⟩ trivial hf
theorem ret_bL {fn : Func} {t : Nat} {n n' : Bool} (hr : fn.results = #[.tmp t]) (hv : lookE st.env t = some (.bool n)) (hf : finsL st.mem 0 rows fin) (hn : n = n') : RetPost P fn al rows (fun r' fin' => r' = .bool n' ∧ fin' = fin) .ret st := by
  subst hn
  exact ret_ofL (.inl rfl) [.bool n] [] (by rw [hr]; exact ⟨lookE_ok hv, trivial⟩) ⟨rfl, rfl⟩ trivial hf
theorem ret_sL {fn : Func} {t : Nat} {n n' : ByteArray} (hr : fn.results = #[.tmp t]) (hv : lookE st.env t = some (.str n)) (hf : finsL st.mem 0 rows fin) (hn : n = n') : RetPost P fn al rows (fun r' fin' => r' = .str n' ∧ fin' = fin) .ret st := by
  subst hn
  exact ret_ofL (.inl rfl) [.str n] [] (by rw [hr]; exact ⟨lookE_ok hv, trivial⟩) ⟨rfl, rfl⟩ trivial hf
end
/-- A sequence of states, one step after the other. -/
theorem seq_ex {S : Type} {Q : Nat → S → Prop} {R : Nat → S → S → Prop} (s0 : S) (h0 : Q 0 s0) (h : ∀ i s, Q i s → ∃ s', R i s s' ∧ Q (i + 1) s') : ∃ f : Nat → S, f 0 = s0 ∧ ∀ i, Q i (f i) ∧ R i (f i) (f (i + 1)) := by
  classical
  let g : (i : Nat) → {s : S // Q i s} := fun i => Nat.rec ⟨s0, h0⟩ (fun i s => ⟨Classical.choose (h i s.1 s.2), (Classical.choose_spec (h i s.1 s.2)).2⟩) i
  refine ⟨fun i => (g i).1, rfl, fun i => ⟨(g i).2, ?_⟩⟩
  exact (Classical.choose_spec (h i (g i).1 (g i).2)).1
/- A slice that is nil, as an own row of no elements: from now on it may be appended to in loops. -/
def nilTo (id : Id) : List PV → Option (List PV)
  | [] => none
  | .nil :: r => some (.osl id 0 0 :: r)
  | x :: r => match nilTo id r with
    | some l => some (x :: l)
    | none => none
theorem nilTo_at {id : Id} : ∀ {cs cs' : List PV}, nilTo id cs = some cs' → cs'.length = cs.length ∧ ∀ (j : Nat) u', cs'[j]? = some u' → ∃ u, cs[j]? = some u ∧ (u' = u ∨ (u = .nil ∧ u' = .osl id 0 0))
  | [], cs', h => by cases h
  | x :: r, cs', h => by
    by_cases hx : x = .nil
    · subst hx
      simp only [nilTo, Option.some.injEq] at h
      subst h
      refine ⟨rfl, fun j u' hu => ?_⟩
      cases j with
      | zero => simp at hu; subst hu; exact ⟨.nil, rfl, .inr ⟨rfl, rfl⟩⟩
      | succ j => exact ⟨u', by simpa using hu, .inl rfl⟩
    · have h2 : ∃ l, nilTo id r = some l ∧ cs' = x :: l := by
        cases hr : nilTo id r with
        | none => cases x <;> simp [nilTo, hr] at h hx
        | some l => cases x <;> simp [nilTo, hr] at h hx <;> exact ⟨l, rfl, h.symm⟩
      obtain ⟨l, h3, rfl⟩ := h2
      obtain ⟨g1, g2⟩ := nilTo_at h3
      refine ⟨by simp [g1], fun j u' hu => ?_⟩
      cases j with
      | zero => simp at hu; subst hu; exact ⟨x, rfl, .inl rfl⟩
      | succ j => obtain ⟨u, k1, k2⟩ := g2 j u' (by simpa using hu); exact ⟨u, by simpa using k1, k2⟩
section
variable {P : Program}
theorem ent_virt {st : St} {t : Nat} {id : Id} (T sz : Nat) {cs cs' : List PV} (hv : getE st.env t = .agg cs) (hcs : nilTo id cs = some cs') (hfree : getM st.mem id = none) (hio : id.1 ≠ io) :
    Ent st ⟨(t, .agg cs') :: st.env, (id, some ⟨T, sz, [], false⟩) :: st.mem⟩ := by
  intro G w0 X N a w ⟨ρ, hW, hd, hs, hV⟩
  obtain ⟨T1, W1⟩ := hW.virt hfree hio T sz
  have hst : St.M ⟨(t, .agg cs') :: st.env, (id, some ⟨T, sz, [], false⟩) :: st.mem⟩ = st.M.set id (some ⟨T, sz, [], false⟩) := by
    show getM ((id, some ⟨T, sz, [], false⟩) :: st.mem) = _
    rw [show ((id, some (⟨T, sz, [], false⟩ : Row)) :: st.mem) = [(id, some ⟨T, sz, [], false⟩)] ++ st.mem from rfl, getM_app]
    rfl
  refine ⟨_, by rw [hst]; exact W1, hd, hs, fun s => ?_⟩
  rw [hst]
  show Rep _ w _ _ _ (getE ((t, .agg cs') :: st.env) s)
  rw [getE_cons]
  by_cases he : t = s
  · subst he
    rw [if_pos rfl]
    have h1 := T1.rep (hV t)
    rw [show st.V t = getE st.env t from rfl, hv] at h1
    obtain ⟨av, e1, hc⟩ := rep_agg.1 h1
    obtain ⟨g1, g2⟩ := nilTo_at hcs
    refine rep_agg.2 ⟨av, e1, by rw [hc.1, g1], fun j u' hu => ?_⟩
    obtain ⟨u, k1, k2⟩ := g2 j u' hu
    obtain ⟨cv, m1, m2⟩ := hc.2 j u k1
    refine ⟨cv, m1, ?_⟩
    rcases k2 with rfl | ⟨rfl, rfl⟩
    · exact m2
    · exact (rep_osl (r := ⟨T, sz, [], false⟩) (by simp [Mem.set])).2 (by rw [show setAt ρ id none id = none by simp [setAt]]; exact ⟨rep_nil.1 m2, rfl, rfl⟩)
  · rw [if_neg he]
    exact T1.rep (hV s)
theorem q_thenV {st : St} {Q : Exit → St → Prop} {y : Code} (t : Nat) (id : Id) (T sz : Nat) {cs cs' : List PV} (hv : lookE st.env t = some (.agg cs)) (hcs : nilTo id cs = some cs') (hfree : getM st.mem id = none) (hio : Nat.beq id.1 io = false)
    (h : vwp P y ⟨(t, .agg cs') :: st.env, (id, some ⟨T, sz, [], false⟩) :: st.mem⟩ Q) : thenQ P y Q .normal st :=
  ⟨_, ent_virt T sz (lookE_ok hv) hcs hfree (fun e => by rw [e] at hio; simp at hio), h⟩
/-- The same for a slice that is nil in a box. -/
theorem ent_virtB {st : St} (bid id : Id) (T sz : Nat) {T0 s0 : Nat} {cs cs' : List PV} (hm : getM st.mem bid = some (some ⟨T0, s0, [cs], true⟩)) (hcs : nilTo id cs = some cs') (hfree : getM st.mem id = none) (hio : id.1 ≠ io) :
    Ent st ⟨st.env, (bid, some ⟨T0, s0, [cs'], true⟩) :: (id, some ⟨T, sz, [], false⟩) :: st.mem⟩ := by
  intro G w0 X N a w ⟨ρ, hW, hd, hs, hV⟩
  obtain ⟨T1, W1⟩ := hW.virt hfree hio T sz
  have hne : bid ≠ id := fun e => by rw [e, hfree] at hm; cases hm
  have hM1b : (st.M.set id (some ⟨T, sz, [], false⟩)) bid = some (some ⟨T0, s0, [cs], true⟩) := by simp [Mem.set, hne]; exact hm
  have hM1i : (st.M.set id (some ⟨T, sz, [], false⟩)) id = some (some ⟨T, sz, [], false⟩) := by simp [Mem.set]
  have hst : St.M ⟨st.env, (bid, some ⟨T0, s0, [cs'], true⟩) :: (id, some ⟨T, sz, [], false⟩) :: st.mem⟩ = (st.M.set id (some ⟨T, sz, [], false⟩)).set bid (some ⟨T0, s0, [cs'], true⟩) := by
    show getM ((bid, some ⟨T0, s0, [cs'], true⟩) :: (id, some ⟨T, sz, [], false⟩) :: st.mem) = _
    rw [show ((bid, some (⟨T0, s0, [cs'], true⟩ : Row)) :: (id, some (⟨T, sz, [], false⟩ : Row)) :: st.mem) = [(bid, some ⟨T0, s0, [cs'], true⟩), (id, some ⟨T, sz, [], false⟩)] ++ st.mem from rfl, getM_app]
    rfl
  generalize hM1 : st.M.set id (some ⟨T, sz, [], false⟩) = M1 at *
  generalize hρ1 : setAt ρ id none = ρ1 at *
  have hlive : ∀ i r, (M1.set bid (some ⟨T0, s0, [cs'], true⟩)) i = some (some r) → (i = bid ∧ r = ⟨T0, s0, [cs'], true⟩) ∨ (i ≠ bid ∧ M1 i = some (some r)) := by
    intro i r h
    by_cases he : i = bid
    · subst he
      simp only [Mem.set, if_true, Option.some.injEq] at h
      exact .inl ⟨rfl, h.symm⟩
    · simp only [Mem.set, he, if_false] at h
      exact .inr ⟨he, h⟩
  have hold : ∀ i r, (M1.set bid (some ⟨T0, s0, [cs'], true⟩)) i = some (some r) → ∃ r0, M1 i = some (some r0) := fun i r h => by
    rcases hlive i r h with ⟨rfl, _⟩ | ⟨_, h2⟩
    · exact ⟨_, hM1b⟩
    · exact ⟨_, h2⟩
  have T2 : Trans G ρ1 M1 w ρ1 (M1.set bid (some ⟨T0, s0, [cs'], true⟩)) w := by
    refine ⟨fun b hb => ⟨⟨hb.1, fun i r z h => ?_, hb.2.2⟩, rfl⟩, fun i => ?_⟩
    · obtain ⟨r0, h0⟩ := hold i r h
      exact hb.2.1 i r0 z h0
    · cases hi : M1 i with
      | none => trivial
      | some o =>
        by_cases he : i = bid
        · subst he
          rw [hM1b] at hi
          injection hi with hi
          subst hi
          exact .inr ⟨⟨T0, s0, [cs'], true⟩, by simp [Mem.set], rfl, rfl, Nat.le_refl _, rfl, fun b z hb cur hcur => ⟨cur, hcur, rfl⟩⟩
        · cases o with
          | none => simp [Mem.set, he, hi]
          | some r0 => exact .inr ⟨r0, by simp [Mem.set, he, hi], rfl, rfl, Nat.le_refl _, rfl, fun b z hb cur hcur => ⟨cur, hcur, rfl⟩⟩
  obtain ⟨g1, g2⟩ := nilTo_at hcs
  have hvirt : (M1.set bid (some ⟨T0, s0, [cs'], true⟩)) id = some (some ⟨T, sz, [], false⟩) := by simp [Mem.set, Ne.symm hne, hM1i]
  have hρi : ρ1 id = none := by rw [← hρ1]; simp [setAt]
  have W2 : WRel G ρ1 w0 X (M1.set bid (some ⟨T0, s0, [cs'], true⟩)) w := by
    refine ⟨fun i1 i2 r1 r2 b z1 z2 h1 h2 => ?_, fun i r h => ?_, fun i r h => ?_, W1.keep, W1.good, W1.tab.mono fun b hb => ⟨⟨hb.1, fun i r z h => let ⟨q, k⟩ := hold i r h; hb.2.1 i q z k, hb.2.2⟩, rfl⟩⟩
    · obtain ⟨q1, k1⟩ := hold i1 r1 h1
      obtain ⟨q2, k2⟩ := hold i2 r2 h2
      exact W1.inj i1 i2 q1 q2 b z1 z2 k1 k2
    · rcases hlive i r h with ⟨rfl, rfl⟩ | ⟨he, h2⟩
      · have hr := W1.row i _ hM1b
        cases hb : ρ1 i with
        | none => rw [hb] at hr; have := hr.2; cases this
        | some bz =>
          obtain ⟨b, z⟩ := bz
          rw [hb] at hr
          obtain ⟨cur, C, k1, k2, k3, k4, k5, k6⟩ := hr
          refine ⟨cur, C, k1, k2, k3, k4, k5, fun j e hj => ?_⟩
          cases j with
          | succ j => simp at hj
          | zero =>
            simp only [List.getElem?_cons_zero, Option.some.injEq] at hj
            subst hj
            obtain ⟨m1, m2⟩ := k6 0 cs rfl
            refine ⟨by rw [g1]; exact m1, fun j u' hu => ?_⟩
            obtain ⟨u, n1, n2⟩ := g2 j u' hu
            obtain ⟨c, p1, p2, p3⟩ := m2 j u n1
            refine ⟨c, p1, p2, ?_⟩
            simp only [if_true] at p3 ⊢
            rcases n2 with rfl | ⟨rfl, rfl⟩
            · exact T2.rep p3
            · exact (rep_osl (r := ⟨T, sz, [], false⟩) hvirt).2 (by rw [hρi]; exact ⟨rep_nil.1 p3, rfl, rfl⟩)
      · exact (W1.row i r h2).mono T2 fun b z _ => rfl
    · obtain ⟨r0, h0⟩ := hold i r h
      exact W1.new i r0 h0
  exact ⟨ρ1, by rw [hst]; exact W2, hd, hs, fun s => by rw [hst]; exact T2.rep (T1.rep (hV s))⟩
theorem q_thenW {st : St} {Q : Exit → St → Prop} {y : Code} (bid id : Id) (T sz : Nat) {T0 s0 : Nat} {cs cs' : List PV} (hm : getM st.mem bid = some (some ⟨T0, s0, [cs], true⟩)) (hcs : nilTo id cs = some cs') (hfree : getM st.mem id = none) (hio : Nat.beq id.1 io = false)
    (h : vwp P y ⟨st.env, (bid, some ⟨T0, s0, [cs'], true⟩) :: (id, some ⟨T, sz, [], false⟩) :: st.mem⟩ Q) : thenQ P y Q .normal st :=
  ⟨_, ent_virtB bid id T sz hm hcs hfree (fun e => by rw [e] at hio; simp at hio), h⟩
end
end
end Go.Vs

/- VALUE SEMANTICS, 39: calls and ends of functions whose results are known by a property alone (what a draw brings). -/
set_option linter.unusedVariables false
set_option linter.unusedSimpArgs false
set_option linter.unusedSectionVars false
namespace Go.Vs
section
variable [fl : Inhabited FlrT]
section
variable {P : Program} {ops : Array Oper} {rest : List Oper} {env : List (Nat × PV)} {mem : List (Id × Option Row)} {tr : List (List Id × List Id)} {K : St → List (List Id × List Id) → Prop}
  {d : Nat} {ty : TypeId} {pos : String} {af : Array Edge}
/-- A call that is lent rows, in a region of one order, where what comes back is known by a property. -/
theorem x_callLP {f : Operand} {args : List Operand} {ats : Array TypeId} {g : FuncId} {fi ca xs ys : List PV} {Post : PV → List (List (List PV)) → Prop} (ids : List Id) {rd : List Id} {ios : List Row}
    (hC : ContractP P g true ys ios Post) (hf : ev (getE env) f = .fn g fi ca)
    (hxs : fi ++ args.map (ev (getE env)) ++ ca = xs) (hlend : lendR mem ids ids ios) (hrd : rdL (rdO true 6 mem) xs ys [] = some rd)
    (hnd : (nodupB ids && nodupB rd && rd.all (fun id => !(hasId ids id) && !Nat.beq id.1 io && (match getM mem id with | some (some _) => true | _ => false))) = true)
    (hsnap : AllR (SnapD 6 (getM mem) ids rd) xs ys) (hfree : freeB mem d = true)
    (hk : ∀ r fin, Post r fin → ∃ v up mem', thaw d r = (v, up) ∧ rowsNewL mem ids ios fin = some mem' ∧
      exec P ops false rest ⟨(d, v) :: env, (up ++ (mem' ++ (rd.map fun id : Id => (id, (none : Option Row))))) ++ mem⟩ (([], []) :: tr) K) :
    exec P ops false (⟨some d, .call ⟨.value f, args.toArray, ats⟩, ty, pos, af, none⟩ :: rest) ⟨env, mem⟩ tr K := by
  obtain ⟨hl, hr⟩ := lendR_ok hlend
  simp only [Bool.and_eq_true] at hnd
  obtain ⟨⟨hn1, hn2⟩, hn3⟩ := hnd
  have hn3 := List.all_eq_true.1 hn3
  obtain ⟨h1, h2⟩ := freeB_ok hfree
  subst hxs
  refine .inr ⟨by simp [wantedPV], .inr ⟨d, true, true, ids, rd, ios, Post, ⟨⟨.value f, args.toArray, ats⟩, f, g, fi, ca, ys, rfl, rfl, hf, fun t ht => by injection ht with ht; exact ht.symm, hC,
    ⟨h1, h2, by simpa using hsnap, hl, nodupB_ok hn1, hr, fun id hid hm => ?_, .inl ⟨rfl, fun id hid => ?_, nodupB_ok hn2⟩⟩⟩, .inl ⟨rfl, fun r fin hp _ => ?_⟩⟩⟩
  · have := hn3 id hid
    simp only [Bool.and_eq_true, Bool.not_eq_true'] at this
    rw [hasId_iff.2 hm] at this
    exact absurd this.1.1 (by simp)
  · have := hn3 id hid
    simp only [Bool.and_eq_true, Bool.not_eq_true'] at this
    refine ⟨fun e => by have h2 := this.1.2; rw [e] at h2; simp at h2, ?_⟩
    have h2 := this.2
    split at h2
    · exact ⟨_, by assumption⟩
    · cases h2
  · obtain ⟨v, up, mem', hth, hnew, hk⟩ := hk r fin hp
    have hups : callUps (St.M ⟨env, mem⟩) d ids rd true r (backF (St.M ⟨env, mem⟩) ids ios fin) = up ++ (mem' ++ rd.map fun id => (id, none)) := by
      show callUps (getM mem) d ids rd true r (backF (getM mem) ids ios fin) = _
      simp only [callUps, hth, frzUps, rowsNewL_ok hnew]
      simp
    rw [hups, show (thaw d r).1 = v by rw [hth]]
    exact hk
end
theorem RetPost.mono {P : Program} {fn : Func} {al : Bool} {ios : List Row} {Post Post' : PV → List (List (List PV)) → Prop} {e : Exit} {st : St} (hp : ∀ r fin, Post r fin → Post' r fin) (h : RetPost P fn al ios Post e st) : RetPost P fn al ios Post' e st := by
  obtain ⟨h0, xs, r, u, fin, h1, h2, h3, h4, h5⟩ := h
  exact ⟨h0, xs, r, u, fin, h1, h2, h3, hp _ _ h4, h5⟩
theorem ContractP.mono {P : Program} {g : FuncId} {al : Bool} {ys : List PV} {ios : List Row} {Post Post' : PV → List (List (List PV)) → Prop} (hp : ∀ r fin, Post r fin → Post' r fin) (h : ContractP P g al ys ios Post) : ContractP P g al ys ios Post' := by
  refine ⟨h.1, fun G w X ρ cargs hW hX hC => (h.2 G w X ρ cargs hW hX hC).mono fun e w' => ?_⟩
  rintro ⟨v, r', fin', rfl, hP, hl, hf, hR⟩
  exact ⟨v, r', fin', rfl, hp _ _ hP, hl, hf, hR⟩
section
variable {P : Program} {G : Nat → Prop} {ρ : Id → Option (Nat × Nat)} {w0 w : World} {X : List (Option (Nat × Nat))} {M N : Mem} {v : Value}
theorem ConL.frzP {g : FuncId} {ys : List PV} {ios : List Row} {Post : PV → List (List (List PV)) → Prop} (h : ContractP P g true ys ios Post) (hcl : ∀ r fin, Post r fin → clean r = true) (hbx : ∀ row ∈ ios, row.bx = false) :
    ContractP P g true ys ios fun r' fin' => ∃ r, r' = Go.Vs.frz r ∧ Post r fin' := by
  refine ⟨h.1, fun G w X ρ cargs hW hX hC => ?_⟩
  obtain ⟨cb, h2⟩ := h
  refine (h2 G w X ρ cargs hW hX hC).mono fun e w' => ?_
  rintro ⟨v, r', fin', rfl, hP0, hl, hf, hR⟩
  have hc := hcl _ _ hP0
  refine ⟨v, Go.Vs.frz r', fin', rfl, ⟨r', rfl, hP0⟩, hl, hf, fun t ht => ?_⟩
  obtain ⟨ρ', hR⟩ := hR t ht
  refine ⟨ρ', ?_⟩
  have hrel := hR.rel
  have hval := hR.val
  have hN : ∀ id r, ioMem (withEs ios fin') id = some (some r) → ((ioMem (withEs ios fin')).upds (thaw t r').2) id = some (some r) ∧ id.1 ≠ t := by
    intro id r h
    have hio : id.1 = io := by
      simp only [ioMem] at h
      split at h
      · assumption
      · cases h
    have hne : id.1 ≠ t := by rw [hio]; exact fun e => ht e.symm
    exact ⟨by rw [upds_other _ _ id fun p hp e => hne (by rw [← e]; exact thaw_fst t r' p hp)]; exact h, hne⟩
  have hsub : ∀ b, Stab G ρ' ((ioMem (withEs ios fin')).upds (thaw t r').2) w' b → Stab G ρ' (ioMem (withEs ios fin')) w' b := fun b hb => ⟨hb.1, fun id r z h => hb.2.1 id r z (hN id r h).1, hb.2.2⟩
  have hkeys : ∀ p ∈ (thaw t r').2, noMem.upds (thaw t r').2 p.1 = some p.2 := fun p hp => by
    refine looks_upds _ ?_ p hp
    cases r' with
    | tuple vs => exact (thawT_keys t vs 0).2.2
    | _ => exact (thaw1_keys t 0 _).2.2
  have hat : ∀ p ∈ (thaw t r').2, ((ioMem (withEs ios fin')).upds (thaw t r').2) p.1 = some p.2 := fun p hp => by
    rcases upds_or (ioMem (withEs ios fin')) (thaw t r').2 p.1 with ⟨h1, _⟩ | ⟨_, h2⟩
    · rw [h1]; exact hkeys p hp
    · rw [hkeys p hp] at h2; cases h2
  have hmle : MLe ρ' w' (noMem.upds (thaw t r').2) ρ' w' ((ioMem (withEs ios fin')).upds (thaw t r').2) := fun id => by
    cases hMi : noMem.upds (thaw t r').2 id with
    | none => trivial
    | some o =>
      have e := hat (id, o) (upds_find hMi)
      cases o with
      | none => exact e
      | some row => exact .inr ⟨row, e, rfl, rfl, Nat.le_refl _, rfl, fun b z hb cur hcur => ⟨cur, hcur, rfl⟩⟩
  have hv : Rep ρ' w' (Stab G ρ' ((ioMem (withEs ios fin')).upds (thaw t r').2) w') ((ioMem (withEs ios fin')).upds (thaw t r').2) v (thaw t r').1 := hval.mono (fun b hb => ⟨hb.1, rfl⟩) hmle
  have key : Rep ρ' w' (Stab G ρ' (ioMem (withEs ios fin')) w') noMem v (Go.Vs.frz r') := by
    have one : ∀ x : PV, (∀ p ∈ (thaw1 t 0 x).2.2, ((ioMem (withEs ios fin')).upds (thaw t r').2) p.1 = some p.2) → clean2 x = true → Rep ρ' w' (Stab G ρ' ((ioMem (withEs ios fin')).upds (thaw t r').2) w') ((ioMem (withEs ios fin')).upds (thaw t r').2) v (thaw1 t 0 x).2.1 → Rep ρ' w' (Stab G ρ' (ioMem (withEs ios fin')) w') noMem v (frz2 x) :=
      fun x h1 h2 h3 => frz2_repN hrel h1 ht h2 hsub hN h3
    cases r' with
    | tuple vs =>
      simp only [thaw] at hv hrel hsub hN hat
      obtain ⟨a, rfl, hcs⟩ := rep_tuple.1 hv
      obtain ⟨k1, k2⟩ := thawT_at t vs 0
      refine rep_tuple.2 ⟨a, rfl, by rw [hcs.1, k1, List.length_map], fun j u hu => ?_⟩
      rw [List.getElem?_map] at hu
      cases hx : vs[j]? with
      | none => rw [hx] at hu; cases hu
      | some x =>
        rw [hx] at hu
        injection hu with hu
        subst hu
        obtain ⟨k', g1, g2⟩ := k2 j x hx
        obtain ⟨c, m1, m2⟩ := hcs.2 j _ g1
        exact ⟨c, m1, frz2_repN hrel (fun p hp => hat p (g2 p hp)) ht (List.all_eq_true.1 hc _ (List.mem_of_getElem? hx)) hsub hN m2⟩
    | agg cs => exact one (.agg cs) hat hc hv
    | olist ty sz es => exact one (.olist ty sz es) hat hc hv
    | any => exact rep_any
    | int _ _ => exact rep_clean1 hsub rfl rfl hv
    | bool _ => exact rep_clean1 hsub rfl rfl hv
    | str _ => exact rep_clean1 hsub rfl rfl hv
    | nil => exact rep_clean1 hsub rfl rfl hv
    | list _ _ => exact rep_clean1 hsub rfl rfl hv
    | ptr _ => exact rep_clean1 hsub rfl rfl hv
    | own _ _ _ => cases hc
    | clist _ _ => cases hc
    | osl _ _ _ => cases hc
    | fn _ _ _ => cases hc
    | sem _ => cases hc
  have hbx' : ∀ id r, ioMem (withEs ios fin') id = some (some r) → r.bx = false := by
    intro id r h
    simp only [ioMem] at h
    split at h
    · rw [withEs_at ios fin' _ hl] at h
      cases hk : ios[id.2]? with
      | none => rw [hk] at h; simp at h
      | some row0 =>
        cases hk2 : fin'[id.2]? with
        | none => rw [hk, hk2] at h; simp at h
        | some es =>
          rw [hk, hk2] at h
          simp at h
          rw [← h]
          exact hbx row0 (List.mem_of_getElem? hk)
    · cases h
  have hnew : WRel G ρ' w X (ioMem (withEs ios fin')) w' := by
    refine ⟨fun id id' r r' b z z' h1 h2 => hrel.inj id id' r r' b z z' (hN id r h1).1 (hN id' r' h2).1, fun id r h => ?_, fun id r h => hrel.new id r (hN id r h).1, hrel.keep, hrel.good, hrel.tab.mono fun b hb => ⟨hsub b hb, rfl⟩⟩
    have hr := hrel.row id r (hN id r h).1
    have hb := hbx' id r h
    cases hρ : ρ' id with
    | none => rw [hρ] at hr; exact hr
    | some bz =>
      obtain ⟨b, z⟩ := bz
      rw [hρ] at hr
      obtain ⟨cur, C, g1, g2, g3, g4, g5, g6⟩ := hr
      refine ⟨cur, C, g1, g2, g3, g4, g5, fun i e hi => ⟨(g6 i e hi).1, fun j u hu => ?_⟩⟩
      obtain ⟨c, k1, k2, k3⟩ := (g6 i e hi).2 j u hu
      rw [hb] at k3 ⊢
      exact ⟨c, k1, k2, k3.pureMono fun b hb => ⟨hsub b hb, rfl⟩⟩
  refine ⟨?_, ?_, ?_⟩
  · rw [thaw_frz]; exact hnew
  · intro id row b z h1
    rw [thaw_frz] at h1
    cases h1
  · rw [thaw_frz]
    exact key.mono (fun b hb => ⟨⟨hb, fun h => by cases h⟩, rfl⟩) (MLe.refl _ _ _)
end
/-- Nil slices within a row's elements, read as empty lists. -/
def NilL (es es' : List (List PV)) : Prop := es'.length = es.length ∧ ∀ (i : Nat) e', es'[i]? = some e' → ∃ e, es[i]? = some e ∧ e'.length = e.length ∧ ∀ (j : Nat) u', e'[j]? = some u' → ∃ u, e[j]? = some u ∧ (u' = u ∨ (u = .nil ∧ ∃ z, u' = .list z []))
theorem nilL_last {es : List (List PV)} {e e' : List PV} (hl : e'.length = e.length) (h : ∀ (j : Nat) u', e'[j]? = some u' → ∃ u, e[j]? = some u ∧ (u' = u ∨ (u = .nil ∧ ∃ z, u' = .list z []))) : NilL (es ++ [e]) (es ++ [e']) := by
  refine ⟨by simp, fun i x hx => ?_⟩
  rcases Nat.lt_or_ge i es.length with h1 | h1
  · rw [List.getElem?_append_left h1] at hx
    exact ⟨x, by rw [List.getElem?_append_left h1]; exact hx, rfl, fun j u hu => ⟨u, hu, .inl rfl⟩⟩
  · rw [List.getElem?_append_right h1] at hx
    have h2 : i - es.length = 0 := by
      rcases Nat.eq_zero_or_pos (i - es.length) with h2 | h2
      · exact h2
      · rw [List.getElem?_eq_none (by simp; omega)] at hx; cases hx
    rw [h2] at hx
    simp at hx
    subst hx
    exact ⟨e, by rw [List.getElem?_append_right h1, h2]; rfl, hl, h⟩
theorem ent_nilL {st : St} (id : Id) {T sz : Nat} {es es' : List (List PV)} (hm : getM st.mem id = some (some ⟨T, sz, es, false⟩)) (hn : NilL es es') : Ent st ⟨st.env, (id, some ⟨T, sz, es', false⟩) :: st.mem⟩ := by
  intro G w0 X N a w ⟨ρ, hW, hd, hs, hV⟩
  obtain ⟨hlen, hel⟩ := hn
  have hst : St.M ⟨st.env, (id, some ⟨T, sz, es', false⟩) :: st.mem⟩ = st.M.set id (some ⟨T, sz, es', false⟩) := by
    show getM ((id, some ⟨T, sz, es', false⟩) :: st.mem) = _
    rw [show ((id, some (⟨T, sz, es', false⟩ : Row)) :: st.mem) = [(id, some ⟨T, sz, es', false⟩)] ++ st.mem from rfl, getM_app]
    rfl
  have hM1b : st.M id = some (some ⟨T, sz, es, false⟩) := hm
  generalize hM1 : st.M = M1 at *
  have hlive : ∀ i r, (M1.set id (some ⟨T, sz, es', false⟩)) i = some (some r) → (i = id ∧ r = ⟨T, sz, es', false⟩) ∨ (i ≠ id ∧ M1 i = some (some r)) := by
    intro i r h
    by_cases he : i = id
    · subst he
      simp only [Mem.set, if_true, Option.some.injEq] at h
      exact .inl ⟨rfl, h.symm⟩
    · simp only [Mem.set, he, if_false] at h
      exact .inr ⟨he, h⟩
  have hold : ∀ i r, (M1.set id (some ⟨T, sz, es', false⟩)) i = some (some r) → ∃ r0, M1 i = some (some r0) := fun i r h => by
    rcases hlive i r h with ⟨rfl, _⟩ | ⟨_, h2⟩
    · exact ⟨_, hM1b⟩
    · exact ⟨_, h2⟩
  have T2 : Trans G ρ M1 w ρ (M1.set id (some ⟨T, sz, es', false⟩)) w := by
    refine ⟨fun b hb => ⟨⟨hb.1, fun i r z h => ?_, hb.2.2⟩, rfl⟩, fun i => ?_⟩
    · obtain ⟨r0, h0⟩ := hold i r h
      exact hb.2.1 i r0 z h0
    · cases hi : M1 i with
      | none => trivial
      | some o =>
        by_cases he : i = id
        · subst he
          rw [hM1b] at hi
          injection hi with hi
          subst hi
          exact .inr ⟨⟨T, sz, es', false⟩, by simp [Mem.set], rfl, rfl, by simp [hlen], rfl, fun b z hb cur hcur => ⟨cur, hcur, rfl⟩⟩
        · cases o with
          | none => simp [Mem.set, he, hi]
          | some r0 => exact .inr ⟨r0, by simp [Mem.set, he, hi], rfl, rfl, Nat.le_refl _, rfl, fun b z hb cur hcur => ⟨cur, hcur, rfl⟩⟩
  have W2 : WRel G ρ w0 X (M1.set id (some ⟨T, sz, es', false⟩)) w := by
    refine ⟨fun i1 i2 r1 r2 b z1 z2 h1 h2 => ?_, fun i r h => ?_, fun i r h => ?_, hW.keep, hW.good, hW.tab.mono fun b hb => ⟨⟨hb.1, fun i r z h => let ⟨q, k⟩ := hold i r h; hb.2.1 i q z k, hb.2.2⟩, rfl⟩⟩
    · obtain ⟨q1, k1⟩ := hold i1 r1 h1
      obtain ⟨q2, k2⟩ := hold i2 r2 h2
      exact hW.inj i1 i2 q1 q2 b z1 z2 k1 k2
    · rcases hlive i r h with ⟨rfl, rfl⟩ | ⟨he, h2⟩
      · have hr := hW.row i _ hM1b
        cases hb : ρ i with
        | none =>
          rw [hb] at hr
          have h0 : es = [] := hr.1
          have h1 : es' = [] := by
            rw [h0] at hlen
            exact List.length_eq_zero_iff.1 hlen
          exact ⟨h1, rfl⟩
        | some bz =>
          obtain ⟨b, z⟩ := bz
          rw [hb] at hr
          obtain ⟨cur, C, k1, k2, k3, k4, k5, k6⟩ := hr
          refine ⟨cur, C, k1, k2, by simp only [hlen] at *; exact k3, by simp only [hlen] at *; exact k4, by simp only [hlen] at *; exact k5, fun j e hj => ?_⟩
          obtain ⟨e0, n0, n1, n2⟩ := hel j e hj
          obtain ⟨m1, m2⟩ := k6 j e0 n0
          refine ⟨by rw [n1]; exact m1, fun q u' hu => ?_⟩
          obtain ⟨u, n3, n4⟩ := n2 q u' hu
          obtain ⟨c, p1, p2, p3⟩ := m2 q u n3
          refine ⟨c, p1, p2, ?_⟩
          rcases n4 with rfl | ⟨rfl, z', rfl⟩
          · exact T2.repB p3
          · exact rep_list.2 ⟨none, 0, by simpa using rep_nil.1 p3, Nat.le_refl _, fun h => absurd rfl h⟩
      · exact (hW.row i r h2).mono T2 fun b z _ => rfl
    · obtain ⟨r0, h0⟩ := hold i r h
      exact hW.new i r0 h0
  exact ⟨ρ, by rw [hst]; exact W2, hd, hs, fun s => by rw [hst]; exact T2.rep (hV s)⟩
theorem loopQ_ent {I : St → Prop} {m : St → Nat} {n : Nat} {Q : Exit → St → Prop} {st st' : St} (h : Ent st st') (hq : loopQ I m n Q .normal st') : loopQ I m n Q .normal st := by
  obtain ⟨st3, h1, h2, h3⟩ := hq
  exact ⟨st3, h.trans h1, h2, h3⟩
end
end Go.Vs
