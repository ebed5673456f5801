/- VALUE SEMANTICS, 17: whatever order the region draws. -/
import Derived.Test.YthjlolbooehhcaaVs16
set_option linter.unusedVariables false
set_option linter.unusedSimpArgs false
namespace Go.Vs
section
variable {P : Program} {G : Nat → Prop} {w0 : World} {X : List (Option (Nat × Nat))} {N : Nat} {ops : Array Oper}

def Closed (ops : Array Oper) (listed : Array Bool) : Prop := ∀ k o, listed.getD k false = true → ops[k]? = some o → ∀ e ∈ o.after, Region.binds .any e = true → listed.getD e.on false = true

theorem mem_ready {listed : Array Bool} {i : Nat} (h : i ∈ Region.ready .any ops listed) : i < ops.size ∧ listed.getD i true = false ∧ ∃ o, ops[i]? = some o ∧ ∀ e ∈ o.after, Region.binds .any e = true → listed.getD e.on false = true := by
  unfold Region.ready at h
  obtain ⟨h1, h2⟩ := List.mem_filter.1 h
  have hlt := List.mem_range.1 h1
  simp only [Bool.and_eq_true, Bool.not_eq_true'] at h2
  refine ⟨hlt, h2.1, ops[i], Array.getElem?_eq_getElem hlt, fun e he hb => ?_⟩
  have h3 := h2.2
  rw [Array.getElem?_eq_getElem hlt] at h3
  simp only [Option.map_some, Option.getD_some] at h3
  have := (Array.all_eq_true_iff_forall_mem.1 h3) e he
  simpa [hb] using this
theorem ready_of {listed : Array Bool} {i : Nat} {o : Oper} (hi : ops[i]? = some o) (hl : listed.getD i true = false) (h : ∀ e ∈ o.after, Region.binds .any e = true → listed.getD e.on false = true) : i ∈ Region.ready .any ops listed := by
  unfold Region.ready
  have hlt := (Array.getElem?_eq_some_iff.1 hi).1
  refine List.mem_filter.2 ⟨List.mem_range.2 hlt, ?_⟩
  simp only [hl, Bool.not_false, Bool.true_and, hi, Option.map_some, Option.getD_some]
  exact Array.all_eq_true_iff_forall_mem.2 fun e he => by
    cases hb : Region.binds .any e with
    | false => simp [hb]
    | true => simp [hb, h e he hb]

theorem filt_le {p q : Nat → Bool} : ∀ (l : List Nat), (∀ k, q k = true → p k = true) → (l.filter q).length ≤ (l.filter p).length
  | [], _ => by simp
  | k :: l, h => by
    have ih := filt_le l h
    simp only [List.filter_cons]
    cases hq : q k
    · cases p k
      · exact ih
      · simp only [Bool.false_eq_true, if_false, if_true, List.length_cons]; omega
    · rw [h k hq]
      simp only [if_true, List.length_cons]; omega
theorem filt_lt {p q : Nat → Bool} : ∀ (l : List Nat), (∀ k, q k = true → p k = true) → ∀ i, i ∈ l → p i = true → q i = false → (l.filter q).length < (l.filter p).length
  | [], _, i, h, _, _ => by cases h
  | k :: l, h, i, hm, hp, hq => by
    simp only [List.filter_cons]
    rcases List.mem_cons.1 hm with rfl | hm
    · have ih := filt_le l h
      rw [hp, hq]
      simp only [Bool.false_eq_true, if_false, if_true, List.length_cons]; omega
    · have ih := filt_lt l h i hm hp hq
      cases hqk : q k
      · cases p k
        · exact ih
        · simp only [Bool.false_eq_true, if_false, if_true, List.length_cons]; omega
      · rw [h k hqk]
        simp only [if_true, List.length_cons]; omega

theorem any_order {Q : Exit → Act → World → Prop} {es : List SE} {V0 : Nat → PV} {M0 : Mem} (hd : ∀ o ∈ ops.toList, ∀ t, o.dst = some t → t < N) (hsteps : StepsOk P ops ops.toList es V0 M0) (hlen : es.length = ops.toList.length)
    (hord : orderOk ops (es.map fun e => (e.1.rd, e.2)) = true) (htext : ∀ (j : Nat) o, ops[j]? = some o → ∀ e ∈ o.after, Region.binds .any e = true → e.on < j)
    (hQ : ∀ a w, RelF G w0 X N (runV (fun _ => true) ops.toList es 0 V0) (runM (fun _ => true) es 0 M0) a w → Q .normal a w) :
    ∀ (fuel : Nat) (listed : Array Bool) (a : Act) (w : World), listed.size = ops.size → ((List.range ops.size).filter fun i => !listed.getD i false).length ≤ fuel → Closed ops listed →
      RelF G w0 X N (runV (fun i => listed.getD i false) ops.toList es 0 V0) (runM (fun i => listed.getD i false) es 0 M0) a w → wpAny P .any ops Q fuel listed a w := by
  have least : ∀ listed : Array Bool, listed.size = ops.size → Region.ready .any ops listed = [] → ∀ i, i < ops.size → listed.getD i false = true := by
    intro listed hsz hr i
    induction i using Nat.strongRecOn with
    | _ i ih =>
      intro hi
      cases hl : listed.getD i false with
      | true => rfl
      | false =>
        exfalso
        have hop := Array.getElem?_eq_getElem hi
        have : i ∈ Region.ready .any ops listed := ready_of hop (by
            rw [Array.getD_eq_getD_getElem?, Array.getElem?_eq_getElem (by omega)] at hl ⊢
            simpa using hl) fun e he hb => ih e.on (htext i _ hop e he hb) (Nat.lt_trans (htext i _ hop e he hb) hi)
        rw [hr] at this
        cases this
  have done : ∀ (listed : Array Bool) (a : Act) (w : World), listed.size = ops.size → (∀ i, i < ops.size → listed.getD i false = true) →
      RelF G w0 X N (runV (fun i => listed.getD i false) ops.toList es 0 V0) (runM (fun i => listed.getD i false) es 0 M0) a w → Q .normal a w := by
    intro listed a w hsz hall hR
    refine hQ a w ?_
    have e1 : runV (fun i => listed.getD i false) ops.toList es 0 V0 = runV (fun _ => true) ops.toList es 0 V0 := by
      funext s
      refine runV_agree _ _ _ _ _ (fun i o ho _ => ?_) rfl
      have := (List.getElem?_eq_some_iff.1 ho).1
      simpa using hall i (by simpa using this)
    have e2 : runM (fun i => listed.getD i false) es 0 M0 = runM (fun _ => true) es 0 M0 := by
      funext id
      refine runM_agree _ _ _ _ (fun i o ho _ => ?_) rfl
      have := (List.getElem?_eq_some_iff.1 ho).1
      simpa using hall i (by rw [hlen] at this; simpa using this)
    rw [← e1, ← e2]
    exact hR
  intro fuel
  induction fuel with
  | zero =>
    intro listed a w hsz hcnt hcl hR
    have hall : ∀ i, i < ops.size → listed.getD i false = true := by
      intro i hi
      cases hl : listed.getD i false with
      | true => rfl
      | false =>
        have hm : i ∈ (List.range ops.size).filter fun i => !listed.getD i false := List.mem_filter.2 ⟨List.mem_range.2 hi, by rw [hl]; rfl⟩
        rw [List.eq_nil_of_length_eq_zero (Nat.le_zero.1 hcnt)] at hm
        cases hm
    refine ⟨?_, done listed a w hsz hall hR⟩
    apply List.eq_nil_iff_forall_not_mem.2
    intro i hi
    obtain ⟨h1, h2, _⟩ := mem_ready hi
    have := hall i h1
    rw [Array.getD_eq_getD_getElem?, Array.getElem?_eq_getElem (by omega)] at this h2
    simp at this h2
    rw [this] at h2
    cases h2
  | succ fuel ih =>
    intro listed a w hsz hcnt hcl hR
    refine ⟨fun hr => done listed a w hsz (least listed hsz hr) hR, fun i hi => ?_⟩
    obtain ⟨hilt, hil, o, hio, hie⟩ := mem_ready hi
    have hil' : listed.getD i false = false := by
      rw [Array.getD_eq_getD_getElem?, Array.getElem?_eq_getElem (by omega)] at hil ⊢
      simpa using hil
    have hiol : ops.toList[i]? = some o := by simpa using hio
    obtain ⟨e, hei, hstep, hnV, hnM⟩ := step_at ops.toList es 0 i V0 M0 o hsteps hiol
    simp only [Nat.zero_add] at hstep hnV hnM
    have hti : (es.map fun e => (e.1.rd, e.2))[i]? = some (e.1.rd, e.2) := by simp [hei]
    -- who clashes with the operation is where the text has it
    have before : ∀ k ok ek, ops[k]? = some ok → es[k]? = some ek → k < i → clash ops ok o (ek.1.rd, ek.2) (e.1.rd, e.2) = true → listed.getD k false = true := by
      intro k ok ek hk hek hlt hc
      have hn := order_need hord hlt hk hio (ti := (ek.1.rd, ek.2)) (by simp [hek]) hti hc
      exact hn (fun k => listed.getD k false = true) (fun k o h1 h2 e h3 h4 => hcl k o h1 h2 e h3 h4) fun o' ho' e he hb => by
        rw [hio] at ho'; injection ho' with ho'; subst ho'; exact hie e he hb
    have behind : ∀ k ok ek, ops[k]? = some ok → es[k]? = some ek → i < k → clash ops o ok (e.1.rd, e.2) (ek.1.rd, ek.2) = true → listed.getD k false = false := by
      intro k ok ek hk hek hlt hc
      cases hlk : listed.getD k false with
      | false => rfl
      | true =>
        have hn := order_need hord hlt hio hk hti (tj := (ek.1.rd, ek.2)) (by simp [hek]) hc
        have := hn (fun k => listed.getD k false = true) (fun k o h1 h2 e h3 h4 => hcl k o h1 h2 e h3 h4) fun o' ho' e he hb => by
          rw [hk] at ho'; injection ho' with ho'; subst ho'; exact hcl k _ hlk hk e he hb
        rw [hil'] at this
        cases this
    have other : ∀ (k : Nat) ok, ops.toList[k]? = some ok → ∃ ek, es[k]? = some ek ∧ ops[k]? = some ok ∧ StepOk P ops ok (runV (fun i => decide (i < k)) ops.toList es 0 V0) (runM (fun i => decide (i < k)) es 0 M0) ek.1 ek.2 := by
      intro k ok hk
      obtain ⟨ek, h1, h2, _⟩ := step_at ops.toList es 0 k V0 M0 ok hsteps hk
      simp only [Nat.zero_add] at h2
      exact ⟨ek, h1, by simpa using hk, h2⟩
    have upsub : ∀ {o' : Oper} {V M} {e' : SE}, StepOk P ops o' V M e'.1 e'.2 → ∀ id, id ∈ e'.1.ups.map (·.1) → id ∈ e'.2 := by
      intro o' V M e' h id hid
      rcases h with ⟨_, h1, _⟩ | ⟨_, ⟨_, h2⟩ | ⟨_, _, _, _, _, _, _, _, _, _, _, _, h2⟩⟩
      · rw [h1] at hid; simp at hid
      · rw [h2]; exact hid
      · rw [h2]; exact List.mem_cons_of_mem _ hid
    -- the places that it looks at
    have agreeV : ∀ s, (s ∈ o.looksAt ops ∨ o.dst = some s) → ∀ k ok, ops.toList[k]? = some ok → k ≠ i → ok.dst = some s → listed.getD k false = decide (k < i) := by
      intro s hs k ok hk hne hdk
      obtain ⟨ek, hek, hk', _⟩ := other k ok hk
      rcases Nat.lt_or_gt_of_ne hne with hlt | hgt
      · rw [decide_eq_true hlt]
        refine before k ok ek hk' hek hlt ?_
        unfold clash
        rw [hdk]
        rcases hs with hs | hs
        · simp [hs]
        · simp [hs]
      · rw [decide_eq_false (by omega)]
        refine behind k ok ek hk' hek hgt ?_
        unfold clash
        rw [hdk]
        rcases hs with hs | hs
        · simp [hs]
        · rw [hs]; simp
    have agreeM : ∀ id : Id, id.1 ∈ (e.1.rd ++ e.2).map (·.1) → ∀ (k : Nat) ek, es[k]? = some ek → k ≠ i → id ∈ ek.1.ups.map (·.1) → listed.getD k false = decide (k < i) := by
      intro id hid k ek hek hne hm
      have hkl : k < ops.toList.length := by rw [← hlen]; exact (List.getElem?_eq_some_iff.1 hek).1
      obtain ⟨ek', hek', hk', hst⟩ := other k _ (List.getElem?_eq_getElem hkl)
      rw [hek] at hek'
      injection hek' with hek'
      subst hek'
      have hw : id.1 ∈ sites ek.2 := List.mem_map.2 ⟨id, upsub hst id hm, rfl⟩
      have hid' : id.1 ∈ sites e.1.rd ∨ id.1 ∈ sites e.2 := by
        obtain ⟨q, hq, hqe⟩ := List.mem_map.1 hid
        rcases List.mem_append.1 hq with h | h
        · exact .inl (List.mem_map.2 ⟨q, h, hqe⟩)
        · exact .inr (List.mem_map.2 ⟨q, h, hqe⟩)
      rcases Nat.lt_or_gt_of_ne hne with hlt | hgt
      · rw [decide_eq_true hlt]
        refine before k _ ek hk' hek hlt ?_
        unfold clash
        have : (sites ek.2).any (fun s => (sites e.1.rd).contains s || (sites e.2).contains s) = true := List.any_eq_true.2 ⟨id.1, hw, by rcases hid' with h | h <;> simp [h]⟩
        exact Bool.or_eq_true_iff.2 (.inl (Bool.or_eq_true_iff.2 (.inr this)))
      · rw [decide_eq_false (by omega)]
        refine behind k _ ek hk' hek hgt ?_
        unfold clash
        rcases hid' with h | h
        · have : (sites ek.2).any (fun s => (sites e.1.rd).contains s) = true := List.any_eq_true.2 ⟨id.1, hw, by simp [h]⟩
          exact Bool.or_eq_true_iff.2 (.inr this)
        · have : (sites e.2).any (fun s => (sites ek.1.rd).contains s || (sites ek.2).contains s) = true := List.any_eq_true.2 ⟨id.1, h, by simp [hw]⟩
          exact Bool.or_eq_true_iff.2 (.inl (Bool.or_eq_true_iff.2 (.inr this)))
    have hVs : ∀ s ∈ o.looksAt ops, runV (fun i => listed.getD i false) ops.toList es 0 V0 s = runV (fun k => decide (k < i)) ops.toList es 0 V0 s := by
      intro s hs
      refine runV_agree _ _ _ _ _ (fun k ok hk hdk => ?_) rfl
      rw [Nat.zero_add]
      by_cases hki : k = i
      · subst hki; rw [hil']; simp
      · exact agreeV s (.inl hs) k ok hk hki hdk
    have hMs : ∀ id : Id, id.1 ∈ (e.1.rd ++ e.2).map (·.1) → runM (fun i => listed.getD i false) es 0 M0 id = runM (fun k => decide (k < i)) es 0 M0 id := by
      intro id hid
      refine runM_agree _ _ _ _ (fun k ek hek hm => ?_) rfl
      rw [Nat.zero_add]
      by_cases hki : k = i
      · subst hki; rw [hil']; simp
      · exact agreeM id hid k ek hek hki hm
    have hstep' := stepOk_congr hVs hMs hstep
    -- the state behind it
    have hset : ∀ k, (listed.setIfInBounds i true).getD k false = if k = i then true else listed.getD k false := by
      intro k
      rw [Array.getD_eq_getD_getElem?, Array.getD_eq_getD_getElem?]
      by_cases hki : k = i
      · subst hki
        rw [Array.getElem?_setIfInBounds_self_of_lt (by omega)]
        simp
      · rw [Array.getElem?_setIfInBounds_ne (Ne.symm hki), if_neg hki]
    have eV : runV (fun k => (listed.setIfInBounds i true).getD k false) ops.toList es 0 V0 = putV (runV (fun k => listed.getD k false) ops.toList es 0 V0) o.dst e.1.x := by
      funext s
      by_cases hds : o.dst = some s
      · have h1 : runV (fun k => (listed.setIfInBounds i true).getD k false) ops.toList es 0 V0 s = runV (fun k => decide (k < i + 1)) ops.toList es 0 V0 s := by
          refine runV_agree _ _ _ _ _ (fun k ok hk hdk => ?_) rfl
          rw [Nat.zero_add, hset]
          by_cases hki : k = i
          · rw [if_pos hki, hki]; simp
          · rw [if_neg hki, agreeV s (.inr hds) k ok hk hki hdk]
            by_cases h : k < i
            · simp [h]; omega
            · simp [h]; omega
        rw [h1, hnV s, hds]
        simp [putV]
      · have h1 : runV (fun k => (listed.setIfInBounds i true).getD k false) ops.toList es 0 V0 s = runV (fun k => listed.getD k false) ops.toList es 0 V0 s := by
          refine runV_agree _ _ _ _ _ (fun k ok hk hdk => ?_) rfl
          rw [Nat.zero_add, hset, if_neg]
          intro hki
          rw [hki, hiol] at hk
          injection hk with hk
          subst hk
          exact hds hdk
        rw [h1]
        cases hdd : o.dst with
        | none => rfl
        | some t => simp only [putV]; rw [if_neg (fun e => hds (by rw [hdd, e]))]
    have eM : runM (fun k => (listed.setIfInBounds i true).getD k false) es 0 M0 = (runM (fun k => listed.getD k false) es 0 M0).upds e.1.ups := by
      funext id
      by_cases hm : id ∈ e.1.ups.map (·.1)
      · have hid : id.1 ∈ (e.1.rd ++ e.2).map (·.1) := List.mem_map.2 ⟨id, List.mem_append_right _ (upsub hstep id hm), rfl⟩
        have h1 : runM (fun k => (listed.setIfInBounds i true).getD k false) es 0 M0 id = runM (fun k => decide (k < i + 1)) es 0 M0 id := by
          refine runM_agree _ _ _ _ (fun k ek hek hmk => ?_) rfl
          rw [Nat.zero_add, hset]
          by_cases hki : k = i
          · rw [if_pos hki, hki]; simp
          · rw [if_neg hki, agreeM id hid k ek hek hki hmk]
            by_cases h : k < i
            · simp [h]; omega
            · simp [h]; omega
        rw [h1, hnM id]
        exact upds_same hm
      · rw [upds_out hm]
        refine runM_agree _ _ _ _ (fun k ek hek hmk => ?_) rfl
        rw [Nat.zero_add, hset, if_neg]
        intro hki
        rw [hki, hei] at hek
        injection hek with hek
        subst hek
        exact hm hmk
    have hcl' : Closed ops (listed.setIfInBounds i true) := by
      intro k ok hk hok e' he' hb
      rw [hset] at hk ⊢
      split
      · rfl
      · split at hk
        · rename_i hki
          rw [hki, hio] at hok
          injection hok with hok
          subst hok
          exact hie e' he' hb
        · exact hcl k ok hk hok e' he' hb
    have hcnt' : ((List.range ops.size).filter fun k => !(listed.setIfInBounds i true).getD k false).length ≤ fuel := by
      have hlt := filt_lt (p := fun k => !listed.getD k false) (q := fun k => !(listed.setIfInBounds i true).getD k false) (List.range ops.size) (fun k hk => by
        simp only [hset] at hk
        by_cases hki : k = i
        · simp [hki] at hk
        · simpa [hki] using hk) i (List.mem_range.2 hilt) (by simp [hil']) (by simp only [hset]; simp)
      omega
    have next : ∀ a' w', RelF G w0 X N (putV (runV (fun k => listed.getD k false) ops.toList es 0 V0) o.dst e.1.x) ((runM (fun k => listed.getD k false) es 0 M0).upds e.1.ups) a' w' → wpAny P .any ops Q fuel (listed.setIfInBounds i true) a' w' := by
      intro a' w' hR'
      exact ih _ a' w' (by simpa using hsz) hcnt' hcl' (by rw [eV, eM]; exact hR')
    obtain ⟨ρ, hW, hdef, hs, hV⟩ := hR
    have hd0 : ∀ t, o.dst = some t → t < N := hd o (List.mem_of_getElem? hiol)
    have hVe : ∀ t, ∃ ρ S, Rep ρ w S (runM (fun k => listed.getD k false) es 0 M0) (a.tmps.getD t undef) (runV (fun k => listed.getD k false) ops.toList es 0 V0 t) := fun t => ⟨_, _, hV t⟩
    unfold wpOp
    simp only [hio]
    rcases hstep' with ⟨hw, he, _⟩ | ⟨hw, ⟨hst, _⟩ | ⟨t, al, fz, ids, rd, ios, Post, r, fin, hcall, huniq, he, _⟩⟩
    · rw [wanted_sound hVe hw]
      simp only [Bool.false_eq_true, if_false]
      refine next _ _ ?_
      rw [he]
      exact put_rel hd0 hdef hs hV (Trans.refl _ _ _ _) hW rep_undef
    · rw [wanted_sound hVe hw]
      simp only [if_true]
      exact .inl (wp_of_res hd0 hdef hs hV (op_sound hW hV hst) next)
    · rw [wanted_sound hVe hw]
      simp only [if_true]
      refine .inl (wp_of_call hd0 hdef hs hW hV hcall fun r' fin' a' w' hp hfl hR' => next a' w' ?_)
      obtain ⟨rfl, rfl⟩ := huniq r' fin' hp
      rw [he]
      exact hR'

theorem trans_drew (ρ : Id → Option (Nat × Nat)) (M : Mem) (w : World) : Trans G ρ M w ρ M { w with drawn := w.drawn + 1 } :=
  ⟨fun b hb => ⟨hb, rfl⟩, fun id => by
    cases hM : M id with
    | none => trivial
    | some o =>
      cases o with
      | none => exact rfl
      | some r => exact .inr ⟨r, rfl, rfl, rfl, Nat.le_refl _, rfl, fun b _ _ cur hc => ⟨cur, hc, rfl⟩⟩⟩
theorem wrel_drew {ρ : Id → Option (Nat × Nat)} {M : Mem} {w : World} (h : WRel G ρ w0 X M w) : WRel G ρ w0 X M { w with drawn := w.drawn + 1 } :=
  ⟨h.inj, fun id r hM => (h.row id r hM).mono (trans_drew ρ M w) fun _ _ _ => rfl, h.new, ⟨h.keep.os, h.keep.tape, h.keep.output, h.keep.size, h.keep.block, h.keep.shape⟩, h.good⟩

def textOk (ops : Array Oper) : Bool := ops.toList.zipIdx.all fun (o, j) => o.after.toList.all fun e => !Region.binds .any e || decide (e.on < j)

theorem draw_sound {Q : Exit → Act → World → Prop} {id : Nat} {st : St} {K : St → List (List Id × List Id) → Prop} {a : Act} {w : World} (hm : P.follows .mixedOrders = true) (hd : ∀ o ∈ ops.toList, ∀ t, o.dst = some t → t < N)
    (htext : textOk ops = true) (h : exec P ops true ops.toList st [] K) (hK : ∀ st' tr, K st' tr → orderOk ops tr.reverse = true ∧ ∀ a w, RelF G w0 X N st'.V st'.M a w → Q .normal a w) (hR : RelF G w0 X N st.V st.M a w) :
    (Code.region id ops true).wp P Q a w := by
  obtain ⟨es, st', hlen, hsteps, hk, eV, eM⟩ := exec_steps ops.toList st [] h
  obtain ⟨hord, hQ⟩ := hK _ _ hk
  simp only [List.append_nil, List.reverse_reverse] at hord
  refine wp_region_any hm ?_
  have htx : ∀ (j : Nat) o, ops[j]? = some o → ∀ e ∈ o.after, Region.binds .any e = true → e.on < j := by
    intro j o hj e he hb
    have h1 := List.all_eq_true.1 htext (o, j) (by
      rw [List.mem_zipIdx_iff_getElem?]
      simpa using hj)
    have h2 := List.all_eq_true.1 h1 e (Array.mem_toList_iff.2 he)
    simpa [hb] using h2
  obtain ⟨ρ, hW, hdef, hs, hV⟩ := hR
  refine any_order hd hsteps hlen hord htx (fun a w hR => hQ a w (by rw [eV, eM]; exact hR)) ops.size _ a _ (by simp) ?_ ?_ ?_
  · exact Nat.le_trans (List.length_filter_le _ _) (by simp)
  · intro k o hk
    rw [Array.getD_eq_getD_getElem?, Array.getElem?_replicate] at hk
    split at hk <;> simp at hk
  · have hf : ∀ i, (Array.replicate ops.size false).getD i false = false := fun i => by
      rw [Array.getD_eq_getD_getElem?, Array.getElem?_replicate]; split <;> rfl
    rw [runV_none _ _ _ _ (fun i _ => hf _), runM_none _ _ _ (fun i _ => hf _)]
    exact ⟨ρ, wrel_drew hW, hdef, hs, fun t => (trans_drew ρ st.M w).rep (hV t)⟩
end
end Go.Vs
