/- VALUE SEMANTICS, 18: code. -/
import Derived.Test.YthjlolbooehhcaaVs17
set_option linter.unusedVariables false
set_option linter.unusedSimpArgs false
namespace Go.Vs

def allL {α : Type} (p : α → Prop) : List α → Prop
  | [] => True
  | x :: r => p x ∧ allL p r
theorem allL_mem {α : Type} {p : α → Prop} : ∀ {l : List α}, allL p l → ∀ x ∈ l, p x
  | y :: l, h, x, hx => by
    rcases List.mem_cons.1 hx with rfl | hx
    · exact h.1
    · exact allL_mem h.2 x hx

/-- The state st' knows no more than st. -/
def Weaker (st st' : St) : Prop :=
  allL (fun p : Nat × PV => getE st.env p.1 = p.2 ∧ refsD 5 (st'.mem.map (·.1)) p.2 = true) st'.env ∧
  allL (fun q : Id × Option Row => getM st.mem q.1 = some q.2 ∧ (match q.2 with
    | some r => r.bx = true → allL (fun e => allL (fun u => refsD 5 (st'.mem.map (·.1)) u = true) e) r.es
    | none => True)) st'.mem

/-- Whatever st says of a frame and a world, st' says of them too. -/
def Ent (st st' : St) : Prop := ∀ (G : Nat → Prop) (w0 : World) (X : List (Option (Nat × Nat))) (N : Nat) (a : Act) (w : World), RelF G w0 X N st.V st.M a w → RelF G w0 X N st'.V st'.M a w
theorem Ent.refl (st : St) : Ent st st := fun _ _ _ _ _ _ h => h
theorem Ent.trans {s1 s2 s3 : St} (h : Ent s1 s2) (g : Ent s2 s3) : Ent s1 s3 := fun G w0 X N a w k => g G w0 X N a w (h G w0 X N a w k)

def vwp (P : Program) : Code → St → (Exit → St → Prop) → Prop
  | .skip, st, Q => Q .normal st
  | .region _ ops draw, st, Q => exec P ops draw ops.toList st [] (fun st' tr => (draw = false ∨ orderOk ops tr.reverse = true) ∧ Q .normal st')
  | .seq x y, st, Q => vwp P x st (fun e st' => match e with
      | .normal => ∃ st2, Ent st' st2 ∧ vwp P y st2 Q
      | e => Q e st')
  | .cond c x y, st, Q => ∃ b, ev st.V c = .bool b ∧ (b = true → vwp P x st Q) ∧ (b = false → vwp P y st Q)
  | .block id x, st, Q => vwp P x st (fun e st' => match e with
      | .exit id' => if id' = id then Q .normal st' else Q (.exit id') st'
      | e => Q e st')
  | .loop x, st, Q => ∃ (I : St → Prop) (m : St → Nat) (st0 : St), Ent st st0 ∧ I st0 ∧ ∀ st', I st' → vwp P x st' (fun e st'' => match e with
      | .normal => ∃ st3, Ent st'' st3 ∧ I st3 ∧ m st3 < m st'
      | e => Q e st'')
  | .exit id, st, Q => Q (.exit id) st
  | .ret, st, Q => Q .ret st
  | _, _, _ => False

/-- Slots within the frame; the text's order is one of the orders. -/
def codeOk (N : Nat) : Code → Bool
  | .region _ ops draw => (ops.toList.all fun o => match o.dst with | some t => Nat.blt t N | none => true) && (!draw || textOk ops)
  | .seq x y => codeOk N x && codeOk N y
  | .cond _ x y => codeOk N x && codeOk N y
  | .block _ x => codeOk N x
  | .loop x => codeOk N x
  | .skip | .exit _ | .ret => true
  | _ => false

section
variable {G : Nat → Prop} {w0 : World} {X : List (Option (Nat × Nat))} {N : Nat}

theorem rep_refs {ρ : Id → Option (Nat × Nat)} {w : World} {S S' : Nat → Prop} {M M' : Mem} (ids : List Id) (hS : ∀ b, S b → S' b) (hM : ∀ id, (ids.any fun k => Nat.beq k.1 id.1 && Nat.beq k.2 id.2) = true → M' id = M id) :
    ∀ (d : Nat) (x : PV) (v : Value), refsD d ids x = true → Rep ρ w S M v x → Rep ρ w S' M' v x
  | 0, _, _, h, _ => by cases h
  | d + 1, x, v, h, hx => by
    have comps : ∀ (xs : List PV) (cs : Array Value), xs.all (refsD d ids) = true → Comps ρ w S M cs xs → Comps ρ w S' M' cs xs := fun xs cs ha hc =>
      ⟨hc.1, fun j u hu => let ⟨c, h1, h2⟩ := hc.2 j u hu; ⟨c, h1, rep_refs ids hS hM d u c (List.all_eq_true.1 ha u (List.mem_of_getElem? hu)) h2⟩⟩
    cases x <;> simp only [refsD] at h
    case any => exact rep_any
    case int => exact rep_int.2 (rep_int.1 hx)
    case bool => exact rep_bool.2 (rep_bool.1 hx)
    case str => exact rep_str.2 (rep_str.1 hx)
    case nil => exact rep_nil.2 (rep_nil.1 hx)
    case olist => exact absurd hx rep_olist
    case agg xs => obtain ⟨cs, rfl, hc⟩ := rep_agg.1 hx; exact rep_agg.2 ⟨cs, rfl, comps xs cs h hc⟩
    case tuple xs => obtain ⟨cs, rfl, hc⟩ := rep_tuple.1 hx; exact rep_tuple.2 ⟨cs, rfl, comps xs cs h hc⟩
    case fn f a b =>
      obtain ⟨p, q, rfl, h1, h2⟩ := rep_fn.1 hx
      rw [Bool.and_eq_true] at h
      exact rep_fn.2 ⟨p, q, rfl, comps _ _ h.1 h1, comps _ _ h.2 h2⟩
    case list sz es =>
      obtain ⟨a, cap, e, hc, hh⟩ := rep_list.1 hx
      exact rep_list.2 ⟨a, cap, e, hc, fun hne => let ⟨ad, h1, h2, h3⟩ := hh hne; ⟨ad, h1, hS _ h2, fun i el hi => ⟨(h3 i el hi).1, fun j u hu => let ⟨c, g1, g2, g3⟩ := (h3 i el hi).2 j u hu; ⟨c, g1, g2, g3.pureMono fun b hb => ⟨hS b hb, rfl⟩⟩⟩⟩⟩
    case ptr cs =>
      obtain ⟨ad, e, h1, hc⟩ := rep_ptr.1 hx
      exact rep_ptr.2 ⟨ad, e, hS _ h1, fun j u hu => let ⟨c, g1, g2, g3⟩ := hc j u hu; ⟨c, g1, g2, g3.pureMono fun b hb => ⟨hS b hb, rfl⟩⟩⟩
    case own id i off =>
      intro d'
      have := hx d'
      cases d' with
      | zero => trivial
      | succ d' => simp only [RepD, hM id h] at this ⊢; exact this
    case osl id o n =>
      intro d'
      have := hx d'
      cases d' with
      | zero => trivial
      | succ d' => simp only [RepD, hM id h] at this ⊢; exact this

theorem getM_mem : ∀ {l : List (Id × Option Row)} {id : Id} {x : Option Row}, getM l id = some x → (id, x) ∈ l
  | (k, y) :: l, id, x, h => by
    simp only [getM] at h
    cases hb : (Nat.beq k.1 id.1 && Nat.beq k.2 id.2) with
    | false => rw [hb] at h; exact List.mem_cons_of_mem _ (getM_mem h)
    | true =>
      rw [hb] at h
      injection h with h
      rw [Bool.and_eq_true] at hb
      have h1 := Nat.eq_of_beq_eq_true hb.1
      have h2 := Nat.eq_of_beq_eq_true hb.2
      have : k = id := Prod.ext h1 h2
      rw [this, h]
      exact List.mem_cons_self
theorem getM_any : ∀ {l : List (Id × Option Row)} {id : Id}, ((l.map (·.1)).any fun k => Nat.beq k.1 id.1 && Nat.beq k.2 id.2) = true → ∃ x, getM l id = some x
  | (k, y) :: l, id, h => by
    simp only [List.map_cons, List.any_cons, Bool.or_eq_true] at h
    simp only [getM]
    cases hb : (Nat.beq k.1 id.1 && Nat.beq k.2 id.2) with
    | false => rw [hb] at h; exact getM_any (h.resolve_left (by simp))
    | true => exact ⟨y, rfl⟩
theorem getE_mem : ∀ {l : List (Nat × PV)} {t : Nat}, getE l t = .any ∨ (t, getE l t) ∈ l
  | [], _ => .inl rfl
  | (k, y) :: l, t => by
    simp only [getE]
    cases hb : Nat.beq k t with
    | false => rcases getE_mem (l := l) (t := t) with h | h
               · exact .inl h
               · exact .inr (List.mem_cons_of_mem _ h)
    | true => have := Nat.eq_of_beq_eq_true hb; subst this; exact .inr List.mem_cons_self

theorem weaker_sound {st st' : St} (h : Weaker st st') {a : Act} {w : World} (hR : RelF G w0 X N st.V st.M a w) : RelF G w0 X N st'.V st'.M a w := by
  obtain ⟨ρ, hW, hdef, hs, hV⟩ := hR
  have hsub : ∀ id x, st'.M id = some x → st.M id = some x := fun id x hx => (allL_mem h.2 _ (getM_mem hx)).1
  have hany : ∀ id, ((st'.mem.map (·.1)).any fun k => Nat.beq k.1 id.1 && Nat.beq k.2 id.2) = true → st'.M id = st.M id := fun id hid => by
    obtain ⟨x, hx⟩ := getM_any hid
    exact hx.trans (hsub id x hx).symm
  have hS : ∀ b, Stab G ρ st.M w b → Stab G ρ st'.M w b := fun b hb => ⟨hb.1, fun id r z hl => hb.2.1 id r z (hsub id _ hl), hb.2.2⟩
  refine ⟨ρ, ⟨?_, ?_, ?_, hW.keep, hW.good⟩, hdef, hs, fun t => ?_⟩
  · intro i1 i2 r1 r2 b z1 z2 h1 h2
    exact hW.inj i1 i2 r1 r2 b z1 z2 (hsub _ _ h1) (hsub _ _ h2)
  · intro id r hl
    have hr := hW.row id r (hsub _ _ hl)
    cases hb : ρ id with
    | none => rw [hb] at hr; exact hr
    | some bz =>
      obtain ⟨b, z⟩ := bz
      rw [hb] at hr
      obtain ⟨cur, C, g1, g2, g3, g4, g5, g6⟩ := hr
      refine ⟨cur, C, g1, g2, g3, g4, g5, fun i e hi => ⟨(g6 i e hi).1, fun j u hu => ?_⟩⟩
      obtain ⟨c, k1, k2, k3⟩ := (g6 i e hi).2 j u hu
      refine ⟨c, k1, k2, ?_⟩
      cases hbx : r.bx with
      | false => rw [hbx] at k3; exact k3.pureMono fun b hb => ⟨hS b hb, rfl⟩
      | true =>
        rw [hbx] at k3
        have h3 := (allL_mem h.2 _ (getM_mem hl)).2
        simp only at h3
        exact rep_refs _ hS hany 5 u c (allL_mem (allL_mem (h3 hbx) e (List.mem_of_getElem? hi)) u (List.mem_of_getElem? hu)) k3
  · intro id r hl
    exact hW.new id r (hsub _ _ hl)
  · rcases getE_mem (l := st'.env) (t := t) with he | he
    · show Rep ρ w _ _ _ (getE st'.env t)
      rw [he]; exact rep_any
    · obtain ⟨h1, h2⟩ := allL_mem h.1 _ he
      have := hV t
      show Rep ρ w _ _ _ (getE st'.env t)
      simp only at h1 h2
      rw [show st.V t = getE st'.env t from h1] at this
      exact rep_refs _ hS hany 5 _ _ h2 this

theorem Weaker.ent {st st' : St} (h : Weaker st st') : Ent st st' := fun _ _ _ _ _ _ hR => weaker_sound h hR

theorem exists_least (p : Nat → Prop) : (∃ n, p n) → ∃ n, p n ∧ ∀ m, p m → n ≤ m := by
  rintro ⟨n, hn⟩
  induction n using Nat.strongRecOn with
  | _ n ih =>
    by_cases h : ∃ m, m < n ∧ p m
    · obtain ⟨m, h1, h2⟩ := h
      exact ih m h1 h2
    · exact ⟨n, hn, fun m hm => Nat.le_of_not_lt fun hlt => h ⟨m, hlt, hm⟩⟩

theorem vwp_sound {P : Program} (hm : P.follows .mixedOrders = true) : ∀ (c : Code) (st : St) (Q : Exit → St → Prop) (a : Act) (w : World), codeOk N c = true → vwp P c st Q → RelF G w0 X N st.V st.M a w →
    c.wp P (fun e a' w' => ∃ st', Q e st' ∧ RelF G w0 X N st'.V st'.M a' w') a w
  | .skip, st, Q, a, w, _, h, hR => wp_skip ⟨st, h, hR⟩
  | .exit id, st, Q, a, w, _, h, hR => wp_exit ⟨st, h, hR⟩
  | .ret, st, Q, a, w, _, h, hR => wp_ret ⟨st, h, hR⟩
  | .region id ops draw, st, Q, a, w, hok, h, hR => by
    simp only [codeOk, Bool.and_eq_true] at hok
    have hd : ∀ o ∈ ops.toList, ∀ t, o.dst = some t → t < N := by
      intro o ho t ht
      have := List.all_eq_true.1 hok.1 o ho
      rw [ht] at this
      simpa using this
    cases draw with
    | false => exact wp_region_list (exec_sound (fun st' tr a w hk hR => ⟨st', hk.2, hR⟩) ops.toList st [] a w hd h hR)
    | true =>
      refine draw_sound hm hd (by simpa using hok.2) h (fun st' tr hk => ⟨?_, fun a w hR => ⟨st', hk.2, hR⟩⟩) hR
      rcases hk.1 with h | h
      · cases h
      · exact h
  | .seq x y, st, Q, a, w, hok, h, hR => by
    simp only [codeOk, Bool.and_eq_true] at hok
    refine wp_seq (wp_mono (vwp_sound hm x st _ a w hok.1 h hR) ?_)
    rintro e a' w' ⟨st', hq, hR'⟩
    cases e with
    | normal =>
      obtain ⟨st2, h2, hq⟩ := hq
      exact vwp_sound hm y st2 Q a' w' hok.2 hq (h2 _ _ _ _ _ _ hR')
    | _ => exact ⟨st', hq, hR'⟩
  | .cond c x y, st, Q, a, w, hok, h, hR => by
    simp only [codeOk, Bool.and_eq_true] at hok
    obtain ⟨b, hb, h1, h2⟩ := h
    obtain ⟨ρ, hW, hdef, hs, hV⟩ := hR
    have hc := rep_ev hV c
    rw [hb] at hc
    refine wp_cond_split (rep_bool.1 hc) (fun hbt => ?_) (fun hbf => ?_)
    · exact vwp_sound hm x st Q a w hok.1 (h1 hbt) ⟨ρ, hW, hdef, hs, hV⟩
    · exact vwp_sound hm y st Q a w hok.2 (h2 hbf) ⟨ρ, hW, hdef, hs, hV⟩
  | .block id x, st, Q, a, w, hok, h, hR => by
    refine wp_block (wp_mono (vwp_sound hm x st _ a w hok h hR) ?_)
    rintro e a' w' ⟨st', hq, hR'⟩
    cases e with
    | exit id' =>
      simp only [Exit.inBlock]
      split
      · rename_i hid
        simp only [hid, if_true] at hq
        exact ⟨st', hq, hR'⟩
      · rename_i hid
        simp only [hid, if_false] at hq
        exact ⟨st', hq, hR'⟩
    | _ => exact ⟨st', hq, hR'⟩
  | .loop x, st, Q, a, w, hok, h, hR => by
    obtain ⟨I, m, st0, hw0, hI, hround⟩ := h
    let p : Act → World → Nat → Prop := fun a w n => ∃ st, I st ∧ RelF G w0 X N st.V st.M a w ∧ m st = n
    let μ : Act → World → Nat := fun a w => by
      classical
      exact if h : ∃ n, p a w n then Classical.choose (exists_least _ h) else 0
    have hμ : ∀ a w, (∃ n, p a w n) → p a w (μ a w) ∧ ∀ n, p a w n → μ a w ≤ n := by
      intro a w h
      have := Classical.choose_spec (exists_least _ h)
      have e : μ a w = Classical.choose (exists_least _ h) := by simp only [μ]; rw [dif_pos h]
      rw [e]
      exact this
    refine wp_loop (fun a w => ∃ n, p a w n) μ ⟨m st0, st0, hI, hw0 _ _ _ _ _ _ hR, rfl⟩ ?_
    intro a' w' hp
    obtain ⟨⟨st', hI', hR', hm'⟩, _⟩ := hμ a' w' hp
    refine wp_mono (vwp_sound hm x st' _ a' w' hok (hround st' hI') hR') ?_
    rintro e a2 w2 ⟨st2, hq, hR2⟩
    cases e with
    | normal =>
      obtain ⟨st3, h3, hI3, hlt⟩ := hq
      have hp2 : p a2 w2 (m st3) := ⟨st3, hI3, h3 _ _ _ _ _ _ hR2, rfl⟩
      exact ⟨⟨_, hp2⟩, Nat.lt_of_le_of_lt ((hμ a2 w2 ⟨_, hp2⟩).2 _ hp2) (by rw [← hm']; exact hlt)⟩
    | _ => exact ⟨st2, hq, hR2⟩
  | .rangeFunc _ _ _ _, _, _, _, _, hok, _, _ => by cases hok
  | .scope _, _, _, _, _, hok, _, _ => by cases hok
  | .label _, _, _, _, _, hok, _, _ => by cases hok
  | .goto _, _, _, _, _, hok, _, _ => by cases hok
  | .refuse _, _, _, _, _, hok, _, _ => by cases hok
end
end Go.Vs
