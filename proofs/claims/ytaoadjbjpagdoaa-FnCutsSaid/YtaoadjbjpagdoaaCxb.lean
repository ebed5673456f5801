/- Parts of a proof: what its last text mentions. -/
import Derived.Test.YtaoadjbjpagdoaaCxa
set_option linter.unusedVariables false
set_option linter.unusedSimpArgs false
set_option linter.unusedSectionVars false
namespace Go.Vs
structure FlrT where
  n : Nat
  wr : Nat → Prop
  ok : World → List (Option (Nat × Nat)) → Prop
instance flr0 : Inhabited FlrT := ⟨⟨0, fun _ => False, fun _ _ => True⟩⟩
def flN [fl : Inhabited FlrT] : Nat := fl.default.n
def flW [fl : Inhabited FlrT] : Nat → Prop := fl.default.wr
def FlOk [fl : Inhabited FlrT] (w0 : World) (X : List (Option (Nat × Nat))) : Prop := flN ≤ w0.heap.size ∧ (∀ b, flW b → w0.heap.size ≤ b ∨ ∃ z, some (b, z) ∈ X) ∧ (∀ b z, some (b, z) ∈ X → flN ≤ b) ∧ fl.default.ok w0 X
theorem flOk0 (w0 : World) (X : List (Option (Nat × Nat))) : FlOk (fl := flr0) w0 X := ⟨Nat.zero_le _, fun _ h => h.elim, fun _ _ _ => Nat.zero_le _, trivial⟩
section
variable [fl : Inhabited FlrT]
structure St where
  env : List (Nat × PV)
  mem : List (Id × Option Row)
def getE : List (Nat × PV) → Nat → PV
  | [], _ => .any
  | (k, x) :: r, t => cond (Nat.beq k t) x (getE r t)
def getM : List (Id × Option Row) → Mem
  | [], _ => none
  | (k, x) :: r, id => cond (Nat.beq k.1 id.1 && Nat.beq k.2 id.2) (some x) (getM r id)
abbrev St.V (st : St) : Nat → PV := getE st.env
abbrev St.M (st : St) : Mem := getM st.mem
def putE (env : List (Nat × PV)) (d : Option Tmp) (x : PV) : List (Nat × PV) := match d with
  | some t => (t, x) :: env
  | none => env
def St.app (st : St) (d : Option Tmp) (f : Eff) : St := ⟨putE st.env d f.x, f.ups ++ st.mem⟩
theorem nbeq_false {a b : Nat} (h : a ≠ b) : Nat.beq a b = false := by
  cases hb : Nat.beq a b with
  | false => rfl
  | true => exact absurd (Nat.eq_of_beq_eq_true hb) h
theorem getM_app (ups mem : List (Id × Option Row)) : getM (ups ++ mem) = (getM mem).upds ups := by
  induction ups with
  | nil => rfl
  | cons p r ih =>
    funext id
    obtain ⟨k, x⟩ := p
    simp only [List.cons_append, getM, Mem.upds, Mem.set, ← ih]
    by_cases h : id = k
    · subst h; simp
    · rw [if_neg h]
      have : (Nat.beq k.1 id.1 && Nat.beq k.2 id.2) = false := by
        rw [Bool.and_eq_false_iff]
        by_cases h1 : k.1 = id.1
        · right
          exact nbeq_false fun h2 => h (Prod.ext h1.symm h2.symm)
        · left; exact nbeq_false h1
      rw [this]; rfl
def wantedPV (ops : Array Oper) (V : Nat → PV) (o : Oper) : Option Bool :=
  match o.guard with
  | none => some true
  | some (j, b) => match (ops[j]?).bind (·.dst) with
    | none => none
    | some d => match V d with
      | .bool b' => some (b' == b)
      | .tuple [] => some false
      | _ => none
def callee (c : Call) (V : Nat → PV) : PV := match c.callee with
  | .value f => ev V f
  | _ => .any
structure CallTo (P : Program) (o : Oper) (V : Nat → PV) (M : Mem) (t : Nat) (al fz : Bool) (ids rd : List Id) (ios : List Row) (Post : PV → List (List (List PV)) → Prop) : Prop where
  ok : ∃ c f g fi ca ys, o.op = .call c ∧ c.callee = .value f ∧ ev V f = .fn g fi ca ∧ (∀ d, o.dst = some d → d = t) ∧ ContractP P g al ys ios Post ∧ CallOk M t (fi ++ c.args.toList.map (ev V) ++ ca) al fz ys ids rd ios
def RelF (G : Nat → Prop) (w0 : World) (X : List (Option (Nat × Nat))) (N : Nat) (V : Nat → PV) (M : Mem) (a : Act) (w : World) : Prop :=
  ∃ ρ, WRel G ρ w0 X M w ∧ a.defers = [] ∧ a.tmps.size = N ∧ ∀ t, Rep ρ w (Stab G ρ M w) M (a.tmps.getD t undef) (V t)
def putV (V : Nat → PV) (d : Option Tmp) (x : PV) : Nat → PV := match d with
  | some t => fun s => if s = t then x else V s
  | none => V
def SemStep (P : Program) (o : Oper) (V : Nat → PV) (M : Mem) (f : Eff) : Prop :=
  ∀ (V' : Nat → PV) (M' : Mem), (∀ x ∈ o.op.operands, ev V' x = ev V x) → (∀ id : Id, id.1 ∈ (f.rd ++ f.ups.map (·.1)).map (·.1) → M' id = M id) →
    ∀ (G : Nat → Prop) (w0 : World) (X : List (Option (Nat × Nat))) (N : Nat) (a : Act) (w : World) (K : Act → World → Prop) (Q : Exit → Act → World → Prop), (∀ t, o.dst = some t → t < N) → FlOk w0 X → RelF G w0 X N V' M' a w →
      (∀ a' w', RelF G w0 X N (putV V' o.dst f.x) (M'.upds f.ups) a' w' → K a' w') → o.wp P a w K Q
def Step (P : Program) (o : Oper) (V : Nat → PV) (M : Mem) (f : Eff) : Prop := OpStep P o.dst o.op V M f ∨ SemStep P o V M f
def BigStep (P : Program) (o : Oper) (st : St) (Φ : St → Prop) : Prop :=
  ∀ (G : Nat → Prop) (w0 : World) (X : List (Option (Nat × Nat))) (N : Nat) (a : Act) (w : World) (K : Act → World → Prop) (Q : Exit → Act → World → Prop), (∀ t, o.dst = some t → t < N) → FlOk w0 X → RelF G w0 X N st.V st.M a w →
    (∀ st' a' w', Φ st' → RelF G w0 X N st'.V st'.M a' w' → K a' w') → o.wp P a w K Q
def exec (P : Program) (ops : Array Oper) (draw : Bool) : List Oper → St → List (List Id × List Id) → (St → List (List Id × List Id) → Prop) → Prop
  | [], st, tr, K => K st tr
  | o :: rest, st, tr, K =>
    ((wantedPV ops st.V o = some false ∧ exec P ops draw rest (st.app o.dst ⟨.tuple [], [], []⟩) (([], []) :: tr) K) ∨
      (wantedPV ops st.V o = some true ∧ draw = false ∧ ∃ Φ, BigStep P o st Φ ∧ ∀ st', Φ st' → exec P ops draw rest st' (([], []) :: tr) K)) ∨
    (wantedPV ops st.V o = some true ∧
      ((∃ f, Step P o st.V st.M f ∧ exec P ops draw rest (st.app o.dst f) ((f.rd, f.ups.map (·.1)) :: tr) K) ∨
       (∃ t al fz ids rd ios Post, CallTo P o st.V st.M t al fz ids rd ios Post ∧
          ((draw = false ∧ ∀ r fin, Post r fin → fin.length = ios.length → exec P ops draw rest (st.app o.dst ⟨(thaw t r).1, callUps st.M t ids rd fz r (backF st.M ids ios fin), rd⟩) (([], []) :: tr) K) ∨
           (∃ r fin, (∀ r' fin', Post r' fin' → r' = r ∧ fin' = fin) ∧
              exec P ops draw rest (st.app o.dst ⟨(thaw t r).1, callUps st.M t ids rd fz r (backF st.M ids ios fin), ids ++ rd⟩) ((ids ++ rd, (t, 0) :: (callUps st.M t ids rd fz r (backF st.M ids ios fin)).map (·.1)) :: tr) K)))))
theorem getE_put (env : List (Nat × PV)) (d : Option Tmp) (x : PV) : getE (putE env d x) = putV (getE env) d x := by
  cases d with
  | none => rfl
  | some t =>
    funext s
    simp only [putE, getE, putV]
    by_cases h : s = t
    · subst h; simp
    · rw [if_neg h]
      have : Nat.beq t s = false := nbeq_false (Ne.symm h)
      rw [this]; rfl
theorem app_V (st : St) (d : Option Tmp) (f : Eff) : (st.app d f).V = putV st.V d f.x := getE_put _ _ _
theorem app_M (st : St) (d : Option Tmp) (f : Eff) : (st.app d f).M = st.M.upds f.ups := getM_app _ _
section
variable {P : Program} {G : Nat → Prop} {w0 : World} {X : List (Option (Nat × Nat))} {N : Nat} {V : Nat → PV} {M : Mem} {a : Act} {w : World} {ops : Array Oper}
theorem rep_undef {ρ : Id → Option (Nat × Nat)} {S : Nat → Prop} : Rep ρ w S M undef (.tuple []) := rep_tuple.2 ⟨#[], rfl, rfl, fun j u h => by simp at h⟩
theorem put_rel {ρ ρ' : Id → Option (Nat × Nat)} {w' : World} {M' : Mem} {d : Option Tmp} {v : Value} {x : PV} (hd : ∀ t, d = some t → t < N) (hdef : a.defers = []) (hs : a.tmps.size = N)
    (hV : ∀ t, Rep ρ w (Stab G ρ M w) M (a.tmps.getD t undef) (V t)) (T : Trans G ρ M w ρ' M' w') (W : WRel G ρ' w0 X M' w') (hx : Rep ρ' w' (Stab G ρ' M' w') M' v x) : RelF G w0 X N (putV V d x) M' (a.put d v) w' := by
  refine ⟨ρ', W, ?_, ?_, fun t => ?_⟩
  · cases d <;> exact hdef
  · cases d with
    | none => exact hs
    | some t => simpa [Act.put] using hs
  · cases d with
    | none => exact T.rep (hV t)
    | some s =>
      have hlt := hd s rfl
      simp only [putV, Act.put]
      by_cases h : t = s
      · subst h
        have hlt' : t < a.tmps.size := Nat.lt_of_lt_of_eq hlt hs.symm
        rw [if_pos rfl, Array.getD_eq_getD_getElem?, Array.getElem?_setIfInBounds_self_of_lt hlt']
        exact hx
      · rw [if_neg h, Array.getD_eq_getD_getElem?, Array.getElem?_setIfInBounds_ne (Ne.symm h), ← Array.getD_eq_getD_getElem?]
        exact T.rep (hV t)
theorem wanted_sound {b : Bool} (hV : ∀ t, ∃ ρ S, Rep ρ w S M (a.tmps.getD t undef) (V t)) {o : Oper} (h : wantedPV ops V o = some b) : Region.wanted o (yielded ops a.tmps) = b := by
  unfold wantedPV at h
  unfold Region.wanted
  split at h
  · rename_i hg
    injection h with h
    simp [hg, h]
  · rename_i j want hg
    rw [hg]
    split at h
    · cases h
    · rename_i d hd
      obtain ⟨ρ, S, hr⟩ := hV d
      simp only [yielded, hd, Option.bind_some]
      split at h
      · rename_i b' hb
        injection h with h
        rw [hb] at hr
        have hr := rep_bool.1 hr
        rw [Array.getD_eq_getD_getElem?] at hr
        cases ht : a.tmps[d]? with
        | none => rw [ht] at hr; simp [undef] at hr
        | some v => rw [ht] at hr; simp at hr; subst hr; simp [← h]
      · rename_i hb
        injection h with h
        rw [hb] at hr
        obtain ⟨cs, hr, _⟩ := rep_tuple.1 hr
        rw [Array.getD_eq_getD_getElem?] at hr
        cases ht : a.tmps[d]? with
        | none => simp [← h]
        | some v => rw [ht] at hr; simp at hr; subst hr; simp [← h]
      · cases h
theorem wp_of_res {ρ : Id → Option (Nat × Nat)} {o : Oper} {f : Eff} {K : Act → World → Prop} {Q : Exit → Act → World → Prop} (hd : ∀ t, o.dst = some t → t < N) (hdef : a.defers = []) (hs : a.tmps.size = N)
    (hV : ∀ t, Rep ρ w (Stab G ρ M w) M (a.tmps.getD t undef) (V t)) (h : OpRes P a o G ρ w0 X M w f) (hK : ∀ a' w', RelF G w0 X N (putV V o.dst f.x) (M.upds f.ups) a' w' → K a' w') : o.wp P a w K Q := by
  obtain ⟨ρ', w', v, hrun, T, W, hx⟩ := h
  have := put_rel (N := N) hd hdef hs hV T W hx
  unfold Oper.wp
  rcases hrun with hrun | ⟨hrun, hv⟩
  · rw [hrun]; exact hK _ _ this
  · rw [hrun]; subst hv; exact hK _ _ this
theorem wp_of_call {ρ : Id → Option (Nat × Nat)} {o : Oper} {K : Act → World → Prop} {Q : Exit → Act → World → Prop} {t : Nat} {al fz : Bool} {ids rd : List Id} {ios : List Row} {Post : PV → List (List (List PV)) → Prop}
    (hd : ∀ t, o.dst = some t → t < N) (hdef : a.defers = []) (hs : a.tmps.size = N) (hW : WRel G ρ w0 X M w)
    (hV : ∀ t, Rep ρ w (Stab G ρ M w) M (a.tmps.getD t undef) (V t)) (h : CallTo P o V M t al fz ids rd ios Post)
    (hK : ∀ r fin a' w', Post r fin → fin.length = ios.length → RelF G w0 X N (putV V o.dst (thaw t r).1) (M.upds (callUps M t ids rd fz r (backF M ids ios fin))) a' w' → K a' w') : o.wp P a w K Q := by
  obtain ⟨c, f, g, fi, ca, ys, ho, hcal, hev, hdt, hC, hok⟩ := h.ok
  have hf := rep_ev hV f
  rw [hev] at hf
  obtain ⟨vfi, vca, hfv, c1, c2⟩ := rep_fn.1 hf
  have hargs := (c1.append (comps_map hV c.args)).append c2
  obtain ⟨fn, hfn, hname, hbody⟩ := hC.1
  have hrun : (execOp a.eval o).run P w = .ok (.enter g (vfi ++ c.args.map a.eval ++ vca)) w := by
    simp only [execOp, ho, resolve, hcal, hfv, Deferred.ofValue, Sem.run_bind, Sem.run_pure, Result.andThen_ok, invoke, callFunc, run_program, hfn, hname, hbody, Bool.false_eq_true, if_false]
  unfold Oper.wp
  rw [hrun]
  show Calls P g _ w _
  refine (call_sound hW hargs hok hC).mono ?_
  rintro e w' ⟨v, r, fin, ρ2, rfl, hp, hfl, T, W, hx⟩
  exact hK r fin _ _ hp hfl (put_rel hd hdef hs hV T W hx)
theorem exec_sound {draw : Bool} {Q : Exit → Act → World → Prop} {K : St → List (List Id × List Id) → Prop} (hF : FlOk w0 X) (hK : ∀ st tr a w, K st tr → RelF G w0 X N st.V st.M a w → Q .normal a w) :
    ∀ (l : List Oper) (st : St) (tr : List (List Id × List Id)) (a : Act) (w : World), (∀ o ∈ l, ∀ t, o.dst = some t → t < N) → exec P ops draw l st tr K → RelF G w0 X N st.V st.M a w → wpList P ops Q l a w := by
  intro l
  induction l with
  | nil => intro st tr a w _ h hR; exact hK st tr a w h hR
  | cons o rest ih =>
    intro st tr a w hd h hR
    obtain ⟨ρ, hW, hdef, hs, hV⟩ := hR
    have hd0 : ∀ t, o.dst = some t → t < N := hd o (by simp)
    have hd1 : ∀ o' ∈ rest, ∀ t, o'.dst = some t → t < N := fun o' h => hd o' (by simp [h])
    have hVe : ∀ t, ∃ ρ S, Rep ρ w S st.M (a.tmps.getD t undef) (st.V t) := fun t => ⟨_, _, hV t⟩
    rcases h with (⟨hw, h⟩ | ⟨hw, _, Φ, hbig, h⟩) | ⟨hw, ⟨f, hstep, h⟩ | ⟨t, al, fz, ids, rd, ios, Post, hcall, h⟩⟩
    · have hw' := wanted_sound hVe hw
      simp only [wpList, hw']
      refine ih _ _ _ _ hd1 h ?_
      rw [app_V, app_M]
      exact put_rel hd0 hdef hs hV (Trans.refl _ _ _ _) hW rep_undef
    · have hw' := wanted_sound hVe hw
      simp only [wpList, hw', if_true]
      exact .inl (hbig G w0 X N a w _ _ hd0 hF ⟨ρ, hW, hdef, hs, hV⟩ fun st' a' w' hp hR' => ih _ _ _ _ hd1 (h st' hp) hR')
    · have hw' := wanted_sound hVe hw
      simp only [wpList, hw', if_true]
      rcases hstep with hstep | hstep
      · refine .inl (wp_of_res hd0 hdef hs hV (op_sound hW hV hstep) fun a' w' hR' => ih _ _ _ _ hd1 h ?_)
        rw [app_V, app_M]
        exact hR'
      · refine .inl (hstep st.V st.M (fun _ _ => rfl) (fun _ _ => rfl) G w0 X N a w _ _ hd0 hF ⟨ρ, hW, hdef, hs, hV⟩ fun a' w' hR' => ih _ _ _ _ hd1 h ?_)
        rw [app_V, app_M]
        exact hR'
    · have hw' := wanted_sound hVe hw
      simp only [wpList, hw', if_true]
      refine .inl (wp_of_call hd0 hdef hs hW hV hcall fun r fin a' w' hp hfl hR' => ?_)
      rcases h with ⟨_, h⟩ | ⟨r', fin', huniq, h⟩
      · refine ih _ _ _ _ hd1 (h r fin hp hfl) ?_
        rw [app_V, app_M]
        exact hR'
      · obtain ⟨rfl, rfl⟩ := huniq r fin hp
        refine ih _ _ _ _ hd1 h ?_
        rw [app_V, app_M]
        exact hR'
end
end
end Go.Vs
set_option linter.unusedVariables false
set_option linter.unusedSimpArgs false
set_option linter.unusedSectionVars false
namespace Go.Vs
section
variable [fl : Inhabited FlrT]
def StepOk (P : Program) (ops : Array Oper) (o : Oper) (V : Nat → PV) (M : Mem) (e : Eff) (wr : List Id) : Prop :=
  (wantedPV ops V o = some false ∧ e = ⟨.tuple [], [], []⟩ ∧ wr = []) ∨
  (wantedPV ops V o = some true ∧ ((Step P o V M e ∧ wr = e.ups.map (·.1)) ∨
    ∃ t al fz ids rd ios Post r fin, CallTo P o V M t al fz ids rd ios Post ∧ (∀ r' fin', Post r' fin' → r' = r ∧ fin' = fin) ∧
      e = ⟨(thaw t r).1, callUps M t ids rd fz r (backF M ids ios fin), ids ++ rd⟩ ∧ wr = (t, 0) :: e.ups.map (·.1)))
section
variable {P : Program} {ops : Array Oper} {o : Oper} {V V' : Nat → PV} {M M' : Mem} {f : Eff}
theorem bound_congr {x : Option Operand} {d n : Nat} (h : ∀ y ∈ x.toArray, ev V' y = ev V y) (hb : bound V x d n) : bound V' x d n := by
  cases x with
  | none => exact hb
  | some y => obtain ⟨k, e⟩ := hb; exact ⟨k, (h y (by simp)).trans e⟩
theorem rids_own {u : PV} {id : Id} {i off : Nat} (h : u = .own id i off) : ∀ l, u ∈ l → id ∈ rids l := by
  intro l
  induction l with
  | nil => intro h; simp at h
  | cons x l ih =>
    intro hm
    rcases List.mem_cons.1 hm with rfl | hm
    · subst h; simp [rids]
    · have := ih hm
      cases x <;> simp [rids, this]
theorem rids_osl {u : PV} {id : Id} {i off : Nat} (h : u = .osl id i off) : ∀ l, u ∈ l → id ∈ rids l := by
  intro l
  induction l with
  | nil => intro h; simp at h
  | cons x l ih =>
    intro hm
    rcases List.mem_cons.1 hm with rfl | hm
    · subst h; simp [rids]
    · have := ih hm
      cases x <;> simp [rids, this]
theorem rids_mono : ∀ (l l2 : List PV), (∀ u ∈ l, u ∈ l2) → ∀ id ∈ rids l, id ∈ rids l2 := by
  intro l l2 hl id hid
  induction l with
  | nil => simp [rids] at hid
  | cons x l ih =>
    have hl' : ∀ u ∈ l, u ∈ l2 := fun u hu => hl u (by simp [hu])
    have hx := hl x (by simp)
    cases x
    case own i k o =>
      simp only [rids] at hid
      rcases List.mem_cons.1 hid with h | h
      · rw [h]; exact rids_own rfl l2 hx
      · exact ih hl' h
    case osl i k o =>
      simp only [rids] at hid
      rcases List.mem_cons.1 hid with h | h
      · rw [h]; exact rids_osl rfl l2 hx
      · exact ih hl' h
    all_goals
      simp only [rids] at hid
      exact ih hl' hid
theorem live_congr {l : List PV} (hM : ∀ id ∈ rids l, M' id = M id) (h : ∀ u ∈ l, live M u) : ∀ u ∈ l, live M' u := by
  intro u hu
  have := h u hu
  cases hux : u <;> rw [hux] at this <;> try trivial
  case own id i off => obtain ⟨r, hr⟩ := this; exact ⟨r, (hM id (rids_own hux l hu)).trans hr⟩
  case osl id i off => obtain ⟨r, hr⟩ := this; exact ⟨r, (hM id (rids_osl hux l hu)).trans hr⟩
theorem opStep_congr {d : Option Tmp} {op : Op} (hV : ∀ x ∈ op.operands, ev V' x = ev V x) (hM : ∀ id ∈ f.rd ++ f.ups.map (·.1), M' id = M id) (h : OpStep P d op V M f) : OpStep P d op V' M' f := by
  cases op <;> simp only [OpStep] at h ⊢ <;> simp only [Op.operands] at hV
  case move x => rw [hV x (by simp)]; exact h
  case assign x => rw [hV x (by simp)]; exact h
  case pick c a b => rw [hV c (by simp), hV a (by simp), hV b (by simp)]; exact h
  case nilCheck x =>
    rw [hV x (by simp)]
    rcases h with h | ⟨id, i, off, r, e, hm, rfl⟩ | h
    · exact .inl h
    · exact .inr (.inl ⟨id, i, off, r, e, (hM id (by simp)).trans hm, rfl⟩)
    · exact .inr (.inr h)
  case extract x i => rw [hV x (by simp)]; exact h
  case binOp o T x y yT => rw [hV x (by simp), hV y (by simp)]; exact h
  case unOp u T x => rw [hV x (by simp)]; exact h
  case convert s t x =>
    rw [hV x (by simp)]
    rcases h with h | ⟨id, o, n, r, bs, e, h1, h2, h3, h4, hm, h5, h6, h7, h8, rfl⟩
    · exact .inl h
    · exact .inr ⟨id, o, n, r, bs, e, h1, h2, h3, h4, (hM id (by simp)).trans hm, h5, h6, h7, h8, rfl⟩
  case box T x =>
    rw [hV x (by simp)]
    obtain ⟨t, h1, h2, h3, h4, h5, h6, h7, rfl⟩ := h
    exact ⟨t, h1, h2, (hM _ (by simp)).trans h3, h4, h5, h6, live_congr (fun id hid => hM id (by simp [hid])) h7, rfl⟩
  case alloc T =>
    obtain ⟨t, cs, h1, h2, h3, h4, h5, h6, h7, rfl⟩ := h
    exact ⟨t, cs, h1, h2, (hM _ (by simp)).trans h3, h4, h5, h6, h7, rfl⟩
  case build T ps =>
    obtain ⟨places, zs, cs, h1, h2, h3, rfl⟩ := h
    have he : ∀ p ∈ ps.toList, ev V' p.2 = ev V p.2 := fun p hp => hV p.2 (by simp; exact ⟨p.1, Array.mem_toList_iff.1 hp⟩)
    have e1 : (ps.toList.map fun p => (p.1, ev V' p.2)) = ps.toList.map fun p => (p.1, ev V p.2) := List.map_congr_left fun p hp => by rw [he p hp]
    have e2 : (ps.toList.flatMap fun p => (ev V' p.2).cells) = ps.toList.flatMap fun p => (ev V p.2).cells := by
      have : ∀ l : List (Nat × Operand), (∀ p ∈ l, ev V' p.2 = ev V p.2) → (l.flatMap fun p => (ev V' p.2).cells) = l.flatMap fun p => (ev V p.2).cells := by
        intro l
        induction l with
        | nil => intro _; rfl
        | cons q l ih => intro hq; simp only [List.flatMap_cons]; rw [hq q (by simp), ih fun p hp => hq p (by simp [hp])]
      exact this _ he
    refine ⟨places, zs, cs, fun p hp => ?_, h2, by rw [e1]; exact h3, by rw [e2]⟩
    rw [he p hp]
    refine ⟨(h1 p hp).1, live_congr (fun id hid => hM id (List.mem_append_left _ ?_)) (h1 p hp).2⟩
    exact rids_mono _ _ (fun u hu => List.mem_flatMap.2 ⟨p, hp, hu⟩) id hid
  case buildSlice T n ps =>
    obtain ⟨t, e, sz, by_, h1, h2, h3, h4, h5, h6, h7, h8, h9⟩ := h
    have he : ∀ p ∈ ps.toList, ev V' p.2 = ev V p.2 := fun p hp => hV p.2 (by simp; exact ⟨p.1, Array.mem_toList_iff.1 hp⟩)
    have e1 : (ps.toList.map fun p => (ev V' p.2).cells) = ps.toList.map fun p => (ev V p.2).cells := List.map_congr_left fun p hp => by rw [he p hp]
    have hu : (t, 0) ∈ f.rd ++ f.ups.map (·.1) := by rcases h9 with rfl | rfl <;> simp
    exact ⟨t, e, sz, by_, h1, h2, (hM _ hu).trans h3, h4, h5, h6, h7, fun p hp => by rw [he p hp]; exact h8 p hp, by rw [e1]; exact h9⟩
  case load T x =>
    rw [hV x (by simp)]
    rcases h with ⟨hT, h | ⟨id, i, off, r, e, u, h1, h2, h3, h4, rfl⟩⟩ | ⟨k, hT, h | ⟨id, i, off, r, e, h1, h2, h3, h4, rfl⟩⟩
    · exact .inl ⟨hT, .inl h⟩
    · exact .inl ⟨hT, .inr ⟨id, i, off, r, e, u, h1, (hM id (by simp)).trans h2, h3, h4, rfl⟩⟩
    · exact .inr ⟨k, hT, .inl h⟩
    · exact .inr ⟨k, hT, .inr ⟨id, i, off, r, e, h1, (hM id (by simp)).trans h2, h3, h4, rfl⟩⟩
  case store T x y =>
    rw [hV x (by simp), hV y (by simp)]
    obtain ⟨id, i, off, r, e, k, h1, h2, h3, h4, h5, h6, h7, h8, h9, rfl⟩ := h
    exact ⟨id, i, off, r, e, k, h1, (hM id (by simp)).trans h2, h3, h4, h5, h6, h7, live_congr (fun id hid => hM id (by simp [hid])) h8, h9, rfl⟩
  case fieldAddr T x i =>
    rw [hV x (by simp)]
    obtain ⟨off, hT, h | ⟨id, k, o, r, h1, h2, rfl⟩⟩ := h
    · exact ⟨off, hT, .inl h⟩
    · exact ⟨off, hT, .inr ⟨id, k, o, r, h1, (hM id (by simp)).trans h2, rfl⟩⟩
  case indexAddr T x ix =>
    rw [hV x (by simp), hV ix (by simp)]
    obtain ⟨e, sz, by_, k, n, hT, h1, h2, h | ⟨id, o, m, r, h3, h4, h5, h6, rfl⟩⟩ := h
    · exact ⟨e, sz, by_, k, n, hT, h1, h2, .inl h⟩
    · exact ⟨e, sz, by_, k, n, hT, h1, h2, .inr ⟨id, o, m, r, h3, (hM id (by simp)).trans h4, h5, h6, rfl⟩⟩
  case index T x ix => rw [hV x (by simp), hV ix (by simp)]; exact h
  case slice T x lo hi mx =>
    rw [hV x (by simp)]
    obtain ⟨rfl, l, hh, h1, h2, h⟩ := h
    have hlo : bound V' lo 0 l := bound_congr (fun y hy => hV y (by simp at hy ⊢; simp [hy])) h1
    have hhi : ∀ d, bound V hi d hh → bound V' hi d hh := fun d h => bound_congr (fun y hy => hV y (by simp at hy ⊢; simp [hy])) h
    refine ⟨rfl, l, hh, hlo, h2, ?_⟩
    rcases h with ⟨e, sz, by_, es, hT, h3, h4, h5, rfl⟩ | ⟨e, sz, by_, id, o, n, r, hT, h3, h4, h5, h6, h7, rfl⟩ | ⟨hT, s, h3, h4, h5, rfl⟩
    · exact .inl ⟨e, sz, by_, es, hT, h3, hhi _ h4, h5, rfl⟩
    · exact .inr (.inl ⟨e, sz, by_, id, o, n, r, hT, h3, (hM id (by simp)).trans h4, h5, hhi _ h6, h7, rfl⟩)
    · exact .inr (.inr ⟨hT, s, h3, hhi _ h4, h5, rfl⟩)
  case makeFunc fn fi ca =>
    obtain ⟨g, rfl, rfl⟩ := h
    refine ⟨g, rfl, ?_⟩
    rw [List.map_congr_left (f := ev V) (g := ev V') (l := fi.toList) fun x hx => (hV x (by simp at hx ⊢; simp [hx])).symm,
      List.map_congr_left (f := ev V) (g := ev V') (l := ca.toList) fun x hx => (hV x (by simp at hx ⊢; simp [hx])).symm]
  case makeSlice T l c =>
    rw [hV l (by simp), hV c (by simp)]
    obtain ⟨t, e, sz, by_, zs, k, k', n, h1, h2, h3, h4, h5, h6, h7, h8, h9, h10, h11, rfl⟩ := h
    exact ⟨t, e, sz, by_, zs, k, k', n, h1, h2, (hM _ (by simp)).trans h3, h4, h5, h6, h7, h8, h9, h10, h11, rfl⟩
  case call c =>
    have hVa : ∀ x, x ∈ c.args → ev V' x = ev V x := fun x hx => hV x (by simp [Call.operands]; exact .inr hx)
    unfold CallStep at h ⊢
    split at h <;> rename_i hb
    · obtain ⟨x, T, n, rd, e1, e2, rfl, h⟩ := h
      have hx := hVa x (by rw [e1]; simp)
      refine ⟨x, T, n, rd, e1, e2, rfl, ?_⟩
      rw [hx]
      rcases h with ⟨e, hT, h | ⟨id, o, r, h1, h2, rfl⟩ | h⟩ | h
      · exact .inl ⟨e, hT, .inl h⟩
      · exact .inl ⟨e, hT, .inr (.inl ⟨id, o, r, h1, (hM id (by simp)).trans h2, rfl⟩)⟩
      · exact .inl ⟨e, hT, .inr (.inr h)⟩
      · exact .inr h
    · obtain ⟨s, x, T, t, e, sz, by_, news, rd, e1, e2, h1, h2, h3, h4, h5, h6, h7⟩ := h
      have hs := hVa s (by rw [e1]; simp)
      have hx := hVa x (by rw [e1]; simp)
      have src : (∀ id ∈ rd, M' id = M id) → SrcStep M' (ev V x) sz news rd := by
        intro hrd
        rcases h6 with h | ⟨id, o, n, r, q1, q2, q3, q4, q5, rfl⟩ | h
        · exact .inl h
        · exact .inr (.inl ⟨id, o, n, r, q1, (hrd id (by simp)).trans q2, q3, q4, q5, rfl⟩)
        · exact .inr (.inr h)
      rcases h7 with ⟨q1, q2, q3, rfl⟩ | ⟨id, o, n, r, q1, q2, q3, q4, q5, q6, q7, q8, q9, rfl⟩
      · refine ⟨s, x, T, t, e, sz, by_, news, rd, e1, e2, h1, h2, (hM _ (by simp)).trans h3, h4, h5, ?_, ?_⟩
        · rw [hx]; exact src fun id hid => hM id (by simp [hid])
        · rw [hs]; exact .inl ⟨q1, q2, q3, rfl⟩
      · refine ⟨s, x, T, t, e, sz, by_, news, rd, e1, e2, h1, h2, (hM _ (by simp)).trans h3, h4, h5, ?_, ?_⟩
        · rw [hx]; exact src fun id hid => hM id (by simp [hid])
        · rw [hs]; exact .inr ⟨id, o, n, r, q1, (hM id (by simp)).trans q2, q3, q4, q5, q6, q7, q8, q9, rfl⟩
    · obtain ⟨x, y, k, m, n, e1, h1, h2, rfl⟩ := h
      exact ⟨x, y, k, m, n, e1, (hVa x (by rw [e1]; simp)).trans h1, (hVa y (by rw [e1]; simp)).trans h2, rfl⟩
    · obtain ⟨x, y, k, m, n, e1, h1, h2, rfl⟩ := h
      exact ⟨x, y, k, m, n, e1, (hVa x (by rw [e1]; simp)).trans h1, (hVa y (by rw [e1]; simp)).trans h2, rfl⟩
    · exact h
theorem snapD_congr : ∀ (d : Nat) (ids rd : List Id) (x y : PV), (∀ id ∈ rd, M' id = M id) → SnapD d M ids rd x y → SnapD d M' ids rd x y
  | 0, _, _, _, _, _, h => h
  | d + 1, ids, rd, x, y, hM, h => by
    have all : ∀ (ids : List Id) (xs ys : List PV), AllR (SnapD d M ids rd) xs ys → AllR (SnapD d M' ids rd) xs ys := by
      intro ids xs
      induction xs with
      | nil => intro ys h; cases ys <;> exact h
      | cons x xs ih => intro ys h; cases ys with
        | nil => exact h
        | cons y ys => exact ⟨snapD_congr d ids rd x y hM h.1, ih ys h.2⟩
    by_cases hin : ∃ p, x = .sem p
    · obtain ⟨p, rfl⟩ := hin
      simp only [SnapD] at h ⊢
      exact h
    have hni : ∀ p, x ≠ .sem p := fun p e => hin ⟨p, e⟩
    cases x <;> cases y <;> (try exact absurd rfl (hni _)) <;> simp only [SnapD] at h ⊢ <;> try exact h
    · exact all ids _ _ h
    · exact ⟨h.1, all ids _ _ h.2.1, all ids _ _ h.2.2⟩
    · obtain ⟨h1, r, e, h2, h3, h4⟩ := h
      exact ⟨h1, r, e, (hM _ h1).trans h2, h3, all [] _ _ h4⟩
    · obtain ⟨h1, r, h2, h3⟩ := h
      exact ⟨h1, r, (hM _ h1).trans h2, h3⟩
theorem ioUps_congr : ∀ (ids : List Id) (fin : List (List (List PV))), (∀ id ∈ ids, M' id = M id) → ioUps M' ids fin = ioUps M ids fin
  | [], _, _ => by simp [ioUps]
  | id :: ids, [], _ => by simp [ioUps]
  | id :: ids, e :: es, h => by
    simp only [ioUps]
    rw [h id (by simp), ioUps_congr ids es fun i hi => h i (by simp [hi])]
theorem backF_congr : ∀ (ids : List Id) (ios : List Row) (fin : List (List (List PV))), (∀ id ∈ ids, M' id = M id) → backF M' ids ios fin = backF M ids ios fin
  | id :: ids, row :: rs, f :: fs, h => by
    simp only [backF]
    rw [h id (by simp), backF_congr ids rs fs fun i hi => h i (by simp [hi])]
  | [], _, _, _ => by simp [backF]
  | _ :: _, [], _, _ => by simp [backF]
  | _ :: _, _ :: _, [], _ => by simp [backF]
theorem stepOk_congr {e : Eff} {wr : List Id} (hV : ∀ s ∈ o.looksAt ops, V' s = V s) (hM : ∀ id : Id, id.1 ∈ (e.rd ++ wr).map (·.1) → M' id = M id) (h : StepOk P ops o V M e wr) : StepOk P ops o V' M' e wr := by
  have hev : ∀ x ∈ o.op.operands, ev V' x = ev V x := by
    intro x hx
    cases x with
    | tmp t => exact hV t (List.mem_append_left _ (List.mem_filterMap.2 ⟨.tmp t, Array.mem_toList_iff.2 hx, rfl⟩))
    | _ => rfl
  have hw : wantedPV ops V' o = wantedPV ops V o := by
    unfold wantedPV
    cases hg : o.guard with
    | none => rfl
    | some jb =>
      obtain ⟨j, b⟩ := jb
      simp only
      cases hd : (ops[j]?).bind (·.dst) with
      | none => rfl
      | some d => simp only [hV d (List.mem_append_right _ (by simp [hg, hd]))]
  have hM' : ∀ id, id ∈ e.rd ∨ id ∈ wr → M' id = M id := fun id h => hM id (List.mem_map.2 ⟨id, List.mem_append.2 h, rfl⟩)
  unfold StepOk at h ⊢
  rw [hw]
  rcases h with h | ⟨h1, ⟨h2, rfl⟩ | ⟨t, al, fz, ids, rd, ios, Post, r, fin, ⟨c, x, g, fi, ca, ys, q1, q2, q3, q4, q5, q6⟩, huniq, rfl, rfl⟩⟩
  · exact .inl h
  · rcases h2 with h2 | h2
    · exact .inr ⟨h1, .inl ⟨.inl (opStep_congr hev (fun id hid => hM' id (List.mem_append.1 hid)) h2), rfl⟩⟩
    · exact .inr ⟨h1, .inl ⟨.inr fun V2 M2 g1 g2 => h2 V2 M2 (fun x hx => (g1 x hx).trans (hev x hx)) (fun id hid => (g2 id hid).trans (hM id hid)), rfl⟩⟩
  · have hids : ∀ id ∈ ids, M' id = M id := fun id hid => hM' id (.inl (List.mem_append_left _ hid))
    have hrd : ∀ id ∈ rd, M' id = M id := fun id hid => hM' id (.inl (List.mem_append_right _ hid))
    have hop : o.op.operands = c.operands := by rw [q1]; rfl
    have hargs : c.args.toList.map (ev V') = c.args.toList.map (ev V) := List.map_congr_left fun y hy => hev y (by rw [hop]; simp [Call.operands]; exact .inr (Array.mem_toList_iff.1 hy))
    have hallc : ∀ xs ys, AllR (SnapD 6 M ids rd) xs ys → AllR (SnapD 6 M' ids rd) xs ys := by
      intro xs
      induction xs with
      | nil => intro ys h; cases ys <;> exact h
      | cons x xs ih => intro ys h; cases ys with
        | nil => exact h
        | cons y ys => exact ⟨snapD_congr 6 ids rd x y hrd h.1, ih ys h.2⟩
    have hups : callUps M' t ids rd fz r (backF M' ids ios fin) = callUps M t ids rd fz r (backF M ids ios fin) := by rw [backF_congr ids ios fin hids]; simp only [callUps, ioUps_congr ids _ hids]
    refine .inr ⟨h1, .inr ⟨t, al, fz, ids, rd, ios, Post, r, fin, ⟨c, x, g, fi, ca, ys, q1, q2, ?_, q4, q5, ?_⟩, huniq, by rw [hups], rfl⟩⟩
    · rw [hev x (by rw [hop]; simp [Call.operands, q2])]; exact q3
    · refine ⟨q6.tio, fun k => ?_, by rw [hargs]; exact hallc _ _ q6.snap, q6.len, q6.nodup, fun k id row h3 h4 => ?_, q6.apart, ?_⟩
      · rw [hM (t, k) (List.mem_map.2 ⟨(t, 0), by simp, rfl⟩)]; exact q6.free k
      · obtain ⟨r0, g1, g2⟩ := q6.lent k id row h3 h4
        exact ⟨r0, (hids id (List.mem_of_getElem? h3)).trans g1, g2⟩
      · rcases q6.mode with ⟨m1, m2, m3⟩ | m
        · exact .inl ⟨m1, fun id hid => let ⟨a1, r0, a2⟩ := m2 id hid; ⟨a1, r0, (hrd id hid).trans a2⟩, m3⟩
        · exact .inr m
end
end
end Go.Vs
set_option linter.unusedVariables false
set_option linter.unusedSimpArgs false
set_option linter.unusedSectionVars false
namespace Go.Vs
section
variable [fl : Inhabited FlrT]
def sites (l : List Id) : List Nat := l.map (·.1)
def clash (ops : Array Oper) (oi oj : Oper) (ti tj : List Id × List Id) : Bool :=
  (match oi.dst with
    | some d => (oj.looksAt ops).contains d || oj.dst == some d
    | none => false) ||
  (match oj.dst with
    | some d => (oi.looksAt ops).contains d
    | none => false) ||
  (sites ti.2).any (fun s => (sites tj.1).contains s || (sites tj.2).contains s) || (sites tj.2).any (fun s => (sites ti.1).contains s)
def maskOf (acc : List Nat) (o : Oper) : Nat := o.after.toList.foldl (fun m e => if Region.binds .any e then m ||| (2 ^ e.on ||| acc.getD e.on 0) else m) 0
def masks : List Oper → List Nat → List Nat
  | [], acc => acc
  | o :: r, acc => masks r (acc ++ [maskOf acc o])
def orderOk (ops : Array Oper) (tr : List (List Id × List Id)) : Bool :=
  (List.range ops.size).all fun j => (List.range j).all fun i =>
    match ops[i]?, ops[j]?, tr[i]?, tr[j]? with
    | some oi, some oj, some ti, some tj => !clash ops oi oj ti tj || ((masks ops.toList []).getD j 0).testBit i
    | _, _, _, _ => false
def Need (ops : Array Oper) (i j : Nat) : Prop :=
  ∀ S : Nat → Prop, (∀ k o, S k → ops[k]? = some o → ∀ e ∈ o.after, Region.binds .any e = true → S e.on) → (∀ o, ops[j]? = some o → ∀ e ∈ o.after, Region.binds .any e = true → S e.on) → S i
theorem foldl_bit (acc : List Nat) (i : Nat) : ∀ (l : List Edge) (m : Nat), (l.foldl (fun m e => if Region.binds .any e then m ||| (2 ^ e.on ||| acc.getD e.on 0) else m) m).testBit i = true →
    m.testBit i = true ∨ ∃ e ∈ l, Region.binds .any e = true ∧ (i = e.on ∨ (acc.getD e.on 0).testBit i = true)
  | [], m, h => .inl h
  | e :: l, m, h => by
    simp only [List.foldl_cons] at h
    rcases foldl_bit acc i l _ h with h | ⟨e', he', hb⟩
    · split at h
      · rename_i hb
        rw [Nat.testBit_or, Nat.testBit_or, Bool.or_eq_true, Bool.or_eq_true] at h
        rcases h with h | h | h
        · exact .inl h
        · refine .inr ⟨e, by simp, hb, .inl ?_⟩
          rw [Nat.testBit_two_pow] at h
          exact (of_decide_eq_true h).symm
        · exact .inr ⟨e, by simp, hb, .inr h⟩
      · exact .inl h
    · exact .inr ⟨e', by simp [he'], hb⟩
theorem masks_need (ops : Array Oper) : ∀ (l : List Oper) (acc : List Nat), (∀ j, l[j]? = ops[acc.length + j]?) → (∀ (j i : Nat) m, acc[j]? = some m → m.testBit i = true → Need ops i j) →
    ∀ (j i : Nat) m, (masks l acc)[j]? = some m → m.testBit i = true → Need ops i j
  | [], acc, _, h => h
  | o :: r, acc, hl, h => by
    refine masks_need ops r (acc ++ [maskOf acc o]) (fun j => ?_) fun j i m hj hb => ?_
    · have := hl (j + 1)
      simp only [List.length_append, List.length_cons, List.length_nil]
      rw [show acc.length + (0 + 1) + j = acc.length + (j + 1) from by omega, ← this]
      rfl
    · rw [List.getElem?_append] at hj
      split at hj
      · exact h j i m hj hb
      · rename_i hge
        have hj0 : j - acc.length = 0 := by
          rcases Nat.eq_zero_or_pos (j - acc.length) with h0 | h0
          · exact h0
          · rw [List.getElem?_eq_none (by simp; omega)] at hj; cases hj
        rw [hj0] at hj
        simp at hj
        subst hj
        have hje : j = acc.length := by omega
        subst hje
        have hop : ops[acc.length]? = some o := by have := hl 0; simpa using this.symm
        rcases foldl_bit acc i o.after.toList 0 hb with h0 | ⟨e, he, hbe, h1⟩
        · simp at h0
        · intro S hS hSj
          have hSe := hSj o hop e (Array.mem_toList_iff.1 he) hbe
          rcases h1 with rfl | h1
          · exact hSe
          · rw [List.getD_eq_getElem?_getD] at h1
            cases hm : acc[e.on]? with
            | none => rw [hm] at h1; simp at h1
            | some m' =>
              rw [hm] at h1
              exact h e.on i m' hm (by simpa using h1) S hS fun o' ho' e' he' hb' => hS e.on o' hSe ho' e' he' hb'
theorem order_need {ops : Array Oper} {tr : List (List Id × List Id)} (h : orderOk ops tr = true) {i j : Nat} {oi oj : Oper} {ti tj : List Id × List Id} (hij : i < j) (hi : ops[i]? = some oi) (hj : ops[j]? = some oj)
    (hti : tr[i]? = some ti) (htj : tr[j]? = some tj) (hc : clash ops oi oj ti tj = true) : Need ops i j := by
  have hjl := (Array.getElem?_eq_some_iff.1 hj).1
  have h1 := List.all_eq_true.1 (List.all_eq_true.1 h j (List.mem_range.2 hjl)) i (List.mem_range.2 hij)
  simp only [hi, hj, hti, htj, hc, Bool.not_true, Bool.false_or] at h1
  rw [List.getD_eq_getElem?_getD] at h1
  cases hm : (masks ops.toList [])[j]? with
  | none => rw [hm] at h1; simp at h1
  | some m => rw [hm] at h1; exact masks_need ops ops.toList [] (by simp) (by simp) j i m hm (by simpa using h1)
abbrev SE := Eff × List Id
def StepsOk (P : Program) (ops : Array Oper) : List Oper → List SE → (Nat → PV) → Mem → Prop
  | [], [], _, _ => True
  | o :: os, e :: es, V, M => StepOk P ops o V M e.1 e.2 ∧ StepsOk P ops os es (putV V o.dst e.1.x) (M.upds e.1.ups)
  | _, _, _, _ => False
def runV (E : Nat → Bool) : List Oper → List SE → Nat → (Nat → PV) → Nat → PV
  | o :: os, e :: es, k, V => runV E os es (k + 1) (cond (E k) (putV V o.dst e.1.x) V)
  | _, _, _, V => V
def runM (E : Nat → Bool) : List SE → Nat → Mem → Mem
  | e :: es, k, M => runM E es (k + 1) (cond (E k) (M.upds e.1.ups) M)
  | _, _, M => M
theorem exec_steps {P : Program} {ops : Array Oper} {K : St → List (List Id × List Id) → Prop} : ∀ (l : List Oper) (st : St) (tr : List (List Id × List Id)), exec P ops true l st tr K →
    ∃ (es : List SE) (st' : St), es.length = l.length ∧ StepsOk P ops l es st.V st.M ∧ K st' ((es.map fun e => (e.1.rd, e.2)).reverse ++ tr) ∧ st'.V = runV (fun _ => true) l es 0 st.V ∧ st'.M = runM (fun _ => true) es 0 st.M := by
  have kV : ∀ (l : List Oper) (es : List SE) (k : Nat) (V : Nat → PV), runV (fun _ => true) l es k V = runV (fun _ => true) l es (k + 1) V := by
    intro l
    induction l with
    | nil => intro es k V; cases es <;> rfl
    | cons o l ih => intro es k V; cases es with
      | nil => rfl
      | cons e es => simp only [runV]; exact ih es (k + 1) _
  have kM : ∀ (es : List SE) (k : Nat) (M : Mem), runM (fun _ => true) es k M = runM (fun _ => true) es (k + 1) M := by
    intro es
    induction es with
    | nil => intro k M; rfl
    | cons e es ih => intro k M; simp only [runM]; exact ih (k + 1) _
  intro l
  induction l with
  | nil => intro st tr h; exact ⟨[], st, rfl, trivial, h, rfl, rfl⟩
  | cons o rest ih =>
    intro st tr h
    have go : ∀ (e : Eff) (wr : List Id), StepOk P ops o st.V st.M e wr → exec P ops true rest (st.app o.dst e) ((e.rd, wr) :: tr) K →
        ∃ (es : List SE) (st' : St), es.length = (o :: rest).length ∧ StepsOk P ops (o :: rest) es st.V st.M ∧ K st' ((es.map fun e => (e.1.rd, e.2)).reverse ++ tr) ∧ st'.V = runV (fun _ => true) (o :: rest) es 0 st.V ∧ st'.M = runM (fun _ => true) es 0 st.M := by
      intro e wr hs he
      obtain ⟨es, st', h1, h2, h3, h4, h5⟩ := ih _ _ he
      rw [app_V, app_M] at h2
      rw [app_V] at h4
      rw [app_M] at h5
      refine ⟨(e, wr) :: es, st', by simp [h1], ⟨hs, h2⟩, by simpa using h3, ?_, ?_⟩
      · rw [h4]; simp only [runV, cond_true]; exact kV _ _ _ _
      · rw [h5]; simp only [runM, cond_true]; exact kM _ _ _
    rcases h with (⟨hw, h⟩ | ⟨_, hd, _⟩) | ⟨hw, ⟨f, hstep, h⟩ | ⟨t, al, fz, ids, rd, ios, Post, hcall, ⟨hd, _⟩ | ⟨r, fin, huniq, h⟩⟩⟩
    · exact go _ _ (.inl ⟨hw, rfl, rfl⟩) h
    · cases hd
    · exact go _ _ (.inr ⟨hw, .inl ⟨hstep, rfl⟩⟩) h
    · cases hd
    · exact go _ _ (.inr ⟨hw, .inr ⟨t, al, fz, ids, rd, ios, Post, r, fin, hcall, huniq, rfl, rfl⟩⟩) h
theorem runV_agree {E F : Nat → Bool} {s : Nat} : ∀ (os : List Oper) (es : List SE) (k : Nat) (V V' : Nat → PV), (∀ i o, os[i]? = some o → o.dst = some s → E (k + i) = F (k + i)) → V s = V' s → runV E os es k V s = runV F os es k V' s
  | [], es, k, V, V', _, h => by cases es <;> simpa [runV] using h
  | o :: os, [], k, V, V', _, h => by simpa [runV] using h
  | o :: os, e :: es, k, V, V', hE, h => by
    simp only [runV]
    refine runV_agree os es (k + 1) _ _ (fun i o' ho' hd => ?_) ?_
    · have := hE (i + 1) o' (by simpa using ho') hd
      rw [show k + 1 + i = k + (i + 1) from by omega]; exact this
    · by_cases hd : o.dst = some s
      · have h0 := hE 0 o rfl hd
        rw [Nat.add_zero] at h0
        rw [← h0]
        cases E k
        · exact h
        · simp [putV, hd]
      · have : ∀ (W : Nat → PV), putV W o.dst e.1.x s = W s := by
          intro W
          cases hdd : o.dst with
          | none => rfl
          | some t => simp only [putV]; rw [if_neg (fun e => hd (by rw [hdd, e]))]
        cases E k <;> cases F k <;> simp only [cond_true, cond_false, this, h]
theorem upds_same {M M' : Mem} {l : List (Id × Option Row)} {id : Id} (h : id ∈ l.map (·.1)) : M.upds l id = M'.upds l id := by
  obtain ⟨p, hp, he⟩ := List.mem_map.1 h
  rw [(upds_some (M := M) l id ⟨p, hp, he⟩).1, (upds_some (M := M') l id ⟨p, hp, he⟩).1]
theorem upds_out {M : Mem} {l : List (Id × Option Row)} {id : Id} (h : id ∉ l.map (·.1)) : M.upds l id = M id :=
  upds_other M l id fun p hp e => h (List.mem_map.2 ⟨p, hp, e⟩)
theorem runM_agree {E F : Nat → Bool} {id : Id} : ∀ (es : List SE) (k : Nat) (M M' : Mem), (∀ (i : Nat) e, es[i]? = some e → id ∈ e.1.ups.map (·.1) → E (k + i) = F (k + i)) → M id = M' id → runM E es k M id = runM F es k M' id
  | [], k, M, M', _, h => by simpa [runM] using h
  | e :: es, k, M, M', hE, h => by
    simp only [runM]
    refine runM_agree es (k + 1) _ _ (fun i e' he' hd => ?_) ?_
    · have := hE (i + 1) e' (by simpa using he') hd
      rw [show k + 1 + i = k + (i + 1) from by omega]; exact this
    · by_cases hd : id ∈ e.1.ups.map (·.1)
      · have h0 := hE 0 e rfl hd
        rw [Nat.add_zero] at h0
        rw [← h0]
        cases E k
        · exact h
        · exact upds_same hd
      · cases E k <;> cases F k <;> simp only [cond_true, cond_false, upds_out hd, h]
theorem runV_none {E : Nat → Bool} : ∀ (os : List Oper) (es : List SE) (k : Nat) (V : Nat → PV), (∀ i, i < os.length → E (k + i) = false) → runV E os es k V = V
  | [], es, k, V, _ => by cases es <;> rfl
  | o :: os, [], k, V, _ => rfl
  | o :: os, e :: es, k, V, h => by
    simp only [runV]
    have h0 := h 0 (by simp)
    rw [Nat.add_zero] at h0
    rw [h0]
    exact runV_none os es (k + 1) V fun i hi => by rw [show k + 1 + i = k + (i + 1) from by omega]; exact h (i + 1) (by simpa using hi)
theorem runM_none {E : Nat → Bool} : ∀ (es : List SE) (k : Nat) (M : Mem), (∀ i, i < es.length → E (k + i) = false) → runM E es k M = M
  | [], k, M, _ => rfl
  | e :: es, k, M, h => by
    simp only [runM]
    have h0 := h 0 (by simp)
    rw [Nat.add_zero] at h0
    rw [h0]
    exact runM_none es (k + 1) M fun i hi => by rw [show k + 1 + i = k + (i + 1) from by omega]; exact h (i + 1) (by simpa using hi)
theorem step_at {P : Program} {ops : Array Oper} : ∀ (l : List Oper) (es : List SE) (k j : Nat) (V : Nat → PV) (M : Mem) (o : Oper), StepsOk P ops l es V M → l[j]? = some o →
    ∃ e, es[j]? = some e ∧ StepOk P ops o (runV (fun i => decide (i < k + j)) l es k V) (runM (fun i => decide (i < k + j)) es k M) e.1 e.2 ∧
      (∀ s, runV (fun i => decide (i < k + j + 1)) l es k V s = putV (runV (fun i => decide (i < k + j)) l es k V) o.dst e.1.x s) ∧
      (∀ id, runM (fun i => decide (i < k + j + 1)) es k M id = (runM (fun i => decide (i < k + j)) es k M).upds e.1.ups id)
  | [], es, k, j, V, M, o, _, hj => by simp at hj
  | x :: l, [], k, j, V, M, o, h, _ => h.elim
  | x :: l, e :: es, k, 0, V, M, o, h, hj => by
    simp at hj
    subst hj
    refine ⟨e, rfl, ?_, fun s => ?_, fun id => ?_⟩
    · rw [runV_none _ _ _ _ (fun i _ => by simp), runM_none _ _ _ (fun i _ => by simp)]
      exact h.1
    · rw [runV_none (E := fun i => decide (i < k + 0)) _ _ _ _ (fun i _ => by simp)]
      simp only [runV]
      rw [runV_none _ _ _ _ (fun i _ => by simp)]
      simp
    · rw [runM_none (E := fun i => decide (i < k + 0)) _ _ _ (fun i _ => by simp)]
      simp only [runM]
      rw [runM_none _ _ _ (fun i _ => by simp)]
      simp
  | x :: l, e :: es, k, j + 1, V, M, o, h, hj => by
    obtain ⟨e', h1, h2, h3, h4⟩ := step_at l es (k + 1) j _ _ o h.2 (by simpa using hj)
    have hk : ∀ n, k + 1 + n = k + (n + 1) := fun n => by omega
    simp only [hk] at h2 h3 h4
    refine ⟨e', by simpa using h1, ?_, ?_, ?_⟩
    · simp only [runV, runM]
      have : decide (k < k + (j + 1)) = true := by simp
      rw [this]
      exact h2
    · intro s
      simp only [runV]
      have e1 : decide (k < k + (j + 1) + 1) = true := decide_eq_true (by omega)
      have e2 : decide (k < k + (j + 1)) = true := by simp
      rw [e1, e2]
      exact h3 s
    · intro id
      simp only [runM]
      have e1 : decide (k < k + (j + 1) + 1) = true := decide_eq_true (by omega)
      have e2 : decide (k < k + (j + 1)) = true := by simp
      rw [e1, e2]
      exact h4 id
end
end Go.Vs
set_option linter.unusedVariables false
set_option linter.unusedSimpArgs false
set_option linter.unusedSectionVars false
namespace Go.Vs
section
variable [fl : Inhabited FlrT]
section
variable {P : Program} {G : Nat → Prop} {w0 : World} {X : List (Option (Nat × Nat))} {N : Nat} {ops : Array Oper}
def Closed (ops : Array Oper) (listed : Array Bool) : Prop := ∀ k o, listed.getD k false = true → ops[k]? = some o → ∀ e ∈ o.after, Region.binds .any e = true → listed.getD e.on false = true
theorem mem_ready {listed : Array Bool} {i : Nat} (h : i ∈ Region.ready .any ops listed) : i < ops.size ∧ listed.getD i true = false ∧ ∃ o, ops[i]? = some o ∧ ∀ e ∈ o.after, Region.binds .any e = true → listed.getD e.on false = true := by
  unfold Region.ready at h
  obtain ⟨h1, h2⟩ := List.mem_filter.1 h
  have hlt := List.mem_range.1 h1
  simp only [Bool.and_eq_true, Bool.not_eq_true'] at h2
  refine ⟨hlt, h2.1, ops[i], Array.getElem?_eq_getElem hlt, fun e he hb => ?_⟩
  have h3 := h2.2
  rw [Array.getElem?_eq_getElem hlt] at h3
  simp only [Option.map_some, Option.getD_some] at h3
  have := (Array.all_eq_true_iff_forall_mem.1 h3) e he
  simpa [hb] using this
theorem ready_of {listed : Array Bool} {i : Nat} {o : Oper} (hi : ops[i]? = some o) (hl : listed.getD i true = false) (h : ∀ e ∈ o.after, Region.binds .any e = true → listed.getD e.on false = true) : i ∈ Region.ready .any ops listed := by
  unfold Region.ready
  have hlt := (Array.getElem?_eq_some_iff.1 hi).1
  refine List.mem_filter.2 ⟨List.mem_range.2 hlt, ?_⟩
  simp only [hl, Bool.not_false, Bool.true_and, hi, Option.map_some, Option.getD_some]
  exact Array.all_eq_true_iff_forall_mem.2 fun e he => by
    cases hb : Region.binds .any e with
    | false => simp [hb]
    | true => simp [hb, h e he hb]
theorem filt_le {p q : Nat → Bool} : ∀ (l : List Nat), (∀ k, q k = true → p k = true) → (l.filter q).length ≤ (l.filter p).length
  | [], _ => by simp
  | k :: l, h => by
    have ih := filt_le l h
    simp only [List.filter_cons]
    cases hq : q k
    · cases p k
      · exact ih
      · simp only [Bool.false_eq_true, if_false, if_true, List.length_cons]; omega
    · rw [h k hq]
      simp only [if_true, List.length_cons]; omega
theorem filt_lt {p q : Nat → Bool} : ∀ (l : List Nat), (∀ k, q k = true → p k = true) → ∀ i, i ∈ l → p i = true → q i = false → (l.filter q).length < (l.filter p).length
  | [], _, i, h, _, _ => by cases h
  | k :: l, h, i, hm, hp, hq => by
    simp only [List.filter_cons]
    rcases List.mem_cons.1 hm with rfl | hm
    · have ih := filt_le l h
      rw [hp, hq]
      simp only [Bool.false_eq_true, if_false, if_true, List.length_cons]; omega
    · have ih := filt_lt l h i hm hp hq
      cases hqk : q k
      · cases p k
        · exact ih
        · simp only [Bool.false_eq_true, if_false, if_true, List.length_cons]; omega
      · rw [h k hqk]
        simp only [if_true, List.length_cons]; omega
theorem any_order {Q : Exit → Act → World → Prop} {es : List SE} {V0 : Nat → PV} {M0 : Mem} (hF : FlOk w0 X) (hd : ∀ o ∈ ops.toList, ∀ t, o.dst = some t → t < N) (hsteps : StepsOk P ops ops.toList es V0 M0) (hlen : es.length = ops.toList.length)
    (hord : orderOk ops (es.map fun e => (e.1.rd, e.2)) = true) (htext : ∀ (j : Nat) o, ops[j]? = some o → ∀ e ∈ o.after, Region.binds .any e = true → e.on < j)
    (hQ : ∀ a w, RelF G w0 X N (runV (fun _ => true) ops.toList es 0 V0) (runM (fun _ => true) es 0 M0) a w → Q .normal a w) :
    ∀ (fuel : Nat) (listed : Array Bool) (a : Act) (w : World), listed.size = ops.size → ((List.range ops.size).filter fun i => !listed.getD i false).length ≤ fuel → Closed ops listed →
      RelF G w0 X N (runV (fun i => listed.getD i false) ops.toList es 0 V0) (runM (fun i => listed.getD i false) es 0 M0) a w → wpAny P .any ops Q fuel listed a w := by
  have least : ∀ listed : Array Bool, listed.size = ops.size → Region.ready .any ops listed = [] → ∀ i, i < ops.size → listed.getD i false = true := by
    intro listed hsz hr i
    induction i using Nat.strongRecOn with
    | _ i ih =>
      intro hi
      cases hl : listed.getD i false with
      | true => rfl
      | false =>
        exfalso
        have hop := Array.getElem?_eq_getElem hi
        have : i ∈ Region.ready .any ops listed := ready_of hop (by
            rw [Array.getD_eq_getD_getElem?, Array.getElem?_eq_getElem (by omega)] at hl ⊢
            simpa using hl) fun e he hb => ih e.on (htext i _ hop e he hb) (Nat.lt_trans (htext i _ hop e he hb) hi)
        rw [hr] at this
        cases this
  have done : ∀ (listed : Array Bool) (a : Act) (w : World), listed.size = ops.size → (∀ i, i < ops.size → listed.getD i false = true) →
      RelF G w0 X N (runV (fun i => listed.getD i false) ops.toList es 0 V0) (runM (fun i => listed.getD i false) es 0 M0) a w → Q .normal a w := by
    intro listed a w hsz hall hR
    refine hQ a w ?_
    have e1 : runV (fun i => listed.getD i false) ops.toList es 0 V0 = runV (fun _ => true) ops.toList es 0 V0 := by
      funext s
      refine runV_agree _ _ _ _ _ (fun i o ho _ => ?_) rfl
      have := (List.getElem?_eq_some_iff.1 ho).1
      simpa using hall i (by simpa using this)
    have e2 : runM (fun i => listed.getD i false) es 0 M0 = runM (fun _ => true) es 0 M0 := by
      funext id
      refine runM_agree _ _ _ _ (fun i o ho _ => ?_) rfl
      have := (List.getElem?_eq_some_iff.1 ho).1
      simpa using hall i (by rw [hlen] at this; simpa using this)
    rw [← e1, ← e2]
    exact hR
  intro fuel
  induction fuel with
  | zero =>
    intro listed a w hsz hcnt hcl hR
    have hall : ∀ i, i < ops.size → listed.getD i false = true := by
      intro i hi
      cases hl : listed.getD i false with
      | true => rfl
      | false =>
        have hm : i ∈ (List.range ops.size).filter fun i => !listed.getD i false := List.mem_filter.2 ⟨List.mem_range.2 hi, by rw [hl]; rfl⟩
        rw [List.eq_nil_of_length_eq_zero (Nat.le_zero.1 hcnt)] at hm
        cases hm
    refine ⟨?_, done listed a w hsz hall hR⟩
    apply List.eq_nil_iff_forall_not_mem.2
    intro i hi
    obtain ⟨h1, h2, _⟩ := mem_ready hi
    have := hall i h1
    rw [Array.getD_eq_getD_getElem?, Array.getElem?_eq_getElem (by omega)] at this h2
    simp at this h2
    rw [this] at h2
    cases h2
  | succ fuel ih =>
    intro listed a w hsz hcnt hcl hR
    refine ⟨fun hr => done listed a w hsz (least listed hsz hr) hR, fun i hi => ?_⟩
    obtain ⟨hilt, hil, o, hio, hie⟩ := mem_ready hi
    have hil' : listed.getD i false = false := by
      rw [Array.getD_eq_getD_getElem?, Array.getElem?_eq_getElem (by omega)] at hil ⊢
      simpa using hil
    have hiol : ops.toList[i]? = some o := by simpa using hio
    obtain ⟨e, hei, hstep, hnV, hnM⟩ := step_at ops.toList es 0 i V0 M0 o hsteps hiol
    simp only [Nat.zero_add] at hstep hnV hnM
    have hti : (es.map fun e => (e.1.rd, e.2))[i]? = some (e.1.rd, e.2) := by simp [hei]
    have before : ∀ k ok ek, ops[k]? = some ok → es[k]? = some ek → k < i → clash ops ok o (ek.1.rd, ek.2) (e.1.rd, e.2) = true → listed.getD k false = true := by
      intro k ok ek hk hek hlt hc
      have hn := order_need hord hlt hk hio (ti := (ek.1.rd, ek.2)) (by simp [hek]) hti hc
      exact hn (fun k => listed.getD k false = true) (fun k o h1 h2 e h3 h4 => hcl k o h1 h2 e h3 h4) fun o' ho' e he hb => by
        rw [hio] at ho'; injection ho' with ho'; subst ho'; exact hie e he hb
    have behind : ∀ k ok ek, ops[k]? = some ok → es[k]? = some ek → i < k → clash ops o ok (e.1.rd, e.2) (ek.1.rd, ek.2) = true → listed.getD k false = false := by
      intro k ok ek hk hek hlt hc
      cases hlk : listed.getD k false with
      | false => rfl
      | true =>
        have hn := order_need hord hlt hio hk hti (tj := (ek.1.rd, ek.2)) (by simp [hek]) hc
        have := hn (fun k => listed.getD k false = true) (fun k o h1 h2 e h3 h4 => hcl k o h1 h2 e h3 h4) fun o' ho' e he hb => by
          rw [hk] at ho'; injection ho' with ho'; subst ho'; exact hcl k _ hlk hk e he hb
        rw [hil'] at this
        cases this
    have other : ∀ (k : Nat) ok, ops.toList[k]? = some ok → ∃ ek, es[k]? = some ek ∧ ops[k]? = some ok ∧ StepOk P ops ok (runV (fun i => decide (i < k)) ops.toList es 0 V0) (runM (fun i => decide (i < k)) es 0 M0) ek.1 ek.2 := by
      intro k ok hk
      obtain ⟨ek, h1, h2, _⟩ := step_at ops.toList es 0 k V0 M0 ok hsteps hk
      simp only [Nat.zero_add] at h2
      exact ⟨ek, h1, by simpa using hk, h2⟩
    have upsub : ∀ {o' : Oper} {V M} {e' : SE}, StepOk P ops o' V M e'.1 e'.2 → ∀ id, id ∈ e'.1.ups.map (·.1) → id ∈ e'.2 := by
      intro o' V M e' h id hid
      rcases h with ⟨_, h1, _⟩ | ⟨_, ⟨_, h2⟩ | ⟨_, _, _, _, _, _, _, _, _, _, _, _, h2⟩⟩
      · rw [h1] at hid; simp at hid
      · rw [h2]; exact hid
      · rw [h2]; exact List.mem_cons_of_mem _ hid
    have agreeV : ∀ s, (s ∈ o.looksAt ops ∨ o.dst = some s) → ∀ k ok, ops.toList[k]? = some ok → k ≠ i → ok.dst = some s → listed.getD k false = decide (k < i) := by
      intro s hs k ok hk hne hdk
      obtain ⟨ek, hek, hk', _⟩ := other k ok hk
      rcases Nat.lt_or_gt_of_ne hne with hlt | hgt
      · rw [decide_eq_true hlt]
        refine before k ok ek hk' hek hlt ?_
        unfold clash
        rw [hdk]
        rcases hs with hs | hs
        · simp [hs]
        · simp [hs]
      · rw [decide_eq_false (by omega)]
        refine behind k ok ek hk' hek hgt ?_
        unfold clash
        rw [hdk]
        rcases hs with hs | hs
        · simp [hs]
        · rw [hs]; simp
    have agreeM : ∀ id : Id, id.1 ∈ (e.1.rd ++ e.2).map (·.1) → ∀ (k : Nat) ek, es[k]? = some ek → k ≠ i → id ∈ ek.1.ups.map (·.1) → listed.getD k false = decide (k < i) := by
      intro id hid k ek hek hne hm
      have hkl : k < ops.toList.length := by rw [← hlen]; exact (List.getElem?_eq_some_iff.1 hek).1
      obtain ⟨ek', hek', hk', hst⟩ := other k _ (List.getElem?_eq_getElem hkl)
      rw [hek] at hek'
      injection hek' with hek'
      subst hek'
      have hw : id.1 ∈ sites ek.2 := List.mem_map.2 ⟨id, upsub hst id hm, rfl⟩
      have hid' : id.1 ∈ sites e.1.rd ∨ id.1 ∈ sites e.2 := by
        obtain ⟨q, hq, hqe⟩ := List.mem_map.1 hid
        rcases List.mem_append.1 hq with h | h
        · exact .inl (List.mem_map.2 ⟨q, h, hqe⟩)
        · exact .inr (List.mem_map.2 ⟨q, h, hqe⟩)
      rcases Nat.lt_or_gt_of_ne hne with hlt | hgt
      · rw [decide_eq_true hlt]
        refine before k _ ek hk' hek hlt ?_
        unfold clash
        have : (sites ek.2).any (fun s => (sites e.1.rd).contains s || (sites e.2).contains s) = true := List.any_eq_true.2 ⟨id.1, hw, by rcases hid' with h | h <;> simp [h]⟩
        exact Bool.or_eq_true_iff.2 (.inl (Bool.or_eq_true_iff.2 (.inr this)))
      · rw [decide_eq_false (by omega)]
        refine behind k _ ek hk' hek hgt ?_
        unfold clash
        rcases hid' with h | h
        · have : (sites ek.2).any (fun s => (sites e.1.rd).contains s) = true := List.any_eq_true.2 ⟨id.1, hw, by simp [h]⟩
          exact Bool.or_eq_true_iff.2 (.inr this)
        · have : (sites e.2).any (fun s => (sites ek.1.rd).contains s || (sites ek.2).contains s) = true := List.any_eq_true.2 ⟨id.1, h, by simp [hw]⟩
          exact Bool.or_eq_true_iff.2 (.inl (Bool.or_eq_true_iff.2 (.inr this)))
    have hVs : ∀ s ∈ o.looksAt ops, runV (fun i => listed.getD i false) ops.toList es 0 V0 s = runV (fun k => decide (k < i)) ops.toList es 0 V0 s := by
      intro s hs
      refine runV_agree _ _ _ _ _ (fun k ok hk hdk => ?_) rfl
      rw [Nat.zero_add]
      by_cases hki : k = i
      · subst hki; rw [hil']; simp
      · exact agreeV s (.inl hs) k ok hk hki hdk
    have hMs : ∀ id : Id, id.1 ∈ (e.1.rd ++ e.2).map (·.1) → runM (fun i => listed.getD i false) es 0 M0 id = runM (fun k => decide (k < i)) es 0 M0 id := by
      intro id hid
      refine runM_agree _ _ _ _ (fun k ek hek hm => ?_) rfl
      rw [Nat.zero_add]
      by_cases hki : k = i
      · subst hki; rw [hil']; simp
      · exact agreeM id hid k ek hek hki hm
    have hstep' := stepOk_congr hVs hMs hstep
    have hset : ∀ k, (listed.setIfInBounds i true).getD k false = if k = i then true else listed.getD k false := by
      intro k
      rw [Array.getD_eq_getD_getElem?, Array.getD_eq_getD_getElem?]
      by_cases hki : k = i
      · subst hki
        rw [Array.getElem?_setIfInBounds_self_of_lt (by omega)]
        simp
      · rw [Array.getElem?_setIfInBounds_ne (Ne.symm hki), if_neg hki]
    have eV : runV (fun k => (listed.setIfInBounds i true).getD k false) ops.toList es 0 V0 = putV (runV (fun k => listed.getD k false) ops.toList es 0 V0) o.dst e.1.x := by
      funext s
      by_cases hds : o.dst = some s
      · have h1 : runV (fun k => (listed.setIfInBounds i true).getD k false) ops.toList es 0 V0 s = runV (fun k => decide (k < i + 1)) ops.toList es 0 V0 s := by
          refine runV_agree _ _ _ _ _ (fun k ok hk hdk => ?_) rfl
          rw [Nat.zero_add, hset]
          by_cases hki : k = i
          · rw [if_pos hki, hki]; simp
          · rw [if_neg hki, agreeV s (.inr hds) k ok hk hki hdk]
            by_cases h : k < i
            · simp [h]; omega
            · simp [h]; omega
        rw [h1, hnV s, hds]
        simp [putV]
      · have h1 : runV (fun k => (listed.setIfInBounds i true).getD k false) ops.toList es 0 V0 s = runV (fun k => listed.getD k false) ops.toList es 0 V0 s := by
          refine runV_agree _ _ _ _ _ (fun k ok hk hdk => ?_) rfl
          rw [Nat.zero_add, hset, if_neg]
          intro hki
          rw [hki, hiol] at hk
          injection hk with hk
          subst hk
          exact hds hdk
        rw [h1]
        cases hdd : o.dst with
        | none => rfl
        | some t => simp only [putV]; rw [if_neg (fun e => hds (by rw [hdd, e]))]
    have eM : runM (fun k => (listed.setIfInBounds i true).getD k false) es 0 M0 = (runM (fun k => listed.getD k false) es 0 M0).upds e.1.ups := by
      funext id
      by_cases hm : id ∈ e.1.ups.map (·.1)
      · have hid : id.1 ∈ (e.1.rd ++ e.2).map (·.1) := List.mem_map.2 ⟨id, List.mem_append_right _ (upsub hstep id hm), rfl⟩
        have h1 : runM (fun k => (listed.setIfInBounds i true).getD k false) es 0 M0 id = runM (fun k => decide (k < i + 1)) es 0 M0 id := by
          refine runM_agree _ _ _ _ (fun k ek hek hmk => ?_) rfl
          rw [Nat.zero_add, hset]
          by_cases hki : k = i
          · rw [if_pos hki, hki]; simp
          · rw [if_neg hki, agreeM id hid k ek hek hki hmk]
            by_cases h : k < i
            · simp [h]; omega
            · simp [h]; omega
        rw [h1, hnM id]
        exact upds_same hm
      · rw [upds_out hm]
        refine runM_agree _ _ _ _ (fun k ek hek hmk => ?_) rfl
        rw [Nat.zero_add, hset, if_neg]
        intro hki
        rw [hki, hei] at hek
        injection hek with hek
        subst hek
        exact hm hmk
    have hcl' : Closed ops (listed.setIfInBounds i true) := by
      intro k ok hk hok e' he' hb
      rw [hset] at hk ⊢
      split
      · rfl
      · split at hk
        · rename_i hki
          rw [hki, hio] at hok
          injection hok with hok
          subst hok
          exact hie e' he' hb
        · exact hcl k ok hk hok e' he' hb
    have hcnt' : ((List.range ops.size).filter fun k => !(listed.setIfInBounds i true).getD k false).length ≤ fuel := by
      have hlt := filt_lt (p := fun k => !listed.getD k false) (q := fun k => !(listed.setIfInBounds i true).getD k false) (List.range ops.size) (fun k hk => by
        simp only [hset] at hk
        by_cases hki : k = i
        · simp [hki] at hk
        · simpa [hki] using hk) i (List.mem_range.2 hilt) (by simp [hil']) (by simp only [hset]; simp)
      omega
    have next : ∀ a' w', RelF G w0 X N (putV (runV (fun k => listed.getD k false) ops.toList es 0 V0) o.dst e.1.x) ((runM (fun k => listed.getD k false) es 0 M0).upds e.1.ups) a' w' → wpAny P .any ops Q fuel (listed.setIfInBounds i true) a' w' := by
      intro a' w' hR'
      exact ih _ a' w' (by simpa using hsz) hcnt' hcl' (by rw [eV, eM]; exact hR')
    obtain ⟨ρ, hW, hdef, hs, hV⟩ := hR
    have hd0 : ∀ t, o.dst = some t → t < N := hd o (List.mem_of_getElem? hiol)
    have hVe : ∀ t, ∃ ρ S, Rep ρ w S (runM (fun k => listed.getD k false) es 0 M0) (a.tmps.getD t undef) (runV (fun k => listed.getD k false) ops.toList es 0 V0 t) := fun t => ⟨_, _, hV t⟩
    unfold wpOp
    simp only [hio]
    rcases hstep' with ⟨hw, he, _⟩ | ⟨hw, ⟨hst, _⟩ | ⟨t, al, fz, ids, rd, ios, Post, r, fin, hcall, huniq, he, _⟩⟩
    · rw [wanted_sound hVe hw]
      simp only [Bool.false_eq_true, if_false]
      refine next _ _ ?_
      rw [he]
      exact put_rel hd0 hdef hs hV (Trans.refl _ _ _ _) hW rep_undef
    · rw [wanted_sound hVe hw]
      simp only [if_true]
      rcases hst with hst | hst
      · exact .inl (wp_of_res hd0 hdef hs hV (op_sound hW hV hst) next)
      · exact .inl (hst _ _ (fun _ _ => rfl) (fun _ _ => rfl) G w0 X N a w _ _ hd0 hF ⟨ρ, hW, hdef, hs, hV⟩ next)
    · rw [wanted_sound hVe hw]
      simp only [if_true]
      refine .inl (wp_of_call hd0 hdef hs hW hV hcall fun r' fin' a' w' hp hfl hR' => next a' w' ?_)
      obtain ⟨rfl, rfl⟩ := huniq r' fin' hp
      rw [he]
      exact hR'
theorem trans_drew (ρ : Id → Option (Nat × Nat)) (M : Mem) (w : World) : Trans G ρ M w ρ M { w with drawn := w.drawn + 1 } :=
  ⟨fun b hb => ⟨hb, rfl⟩, fun id => by
    cases hM : M id with
    | none => trivial
    | some o =>
      cases o with
      | none => exact rfl
      | some r => exact .inr ⟨r, rfl, rfl, rfl, Nat.le_refl _, rfl, fun b _ _ cur hc => ⟨cur, hc, rfl⟩⟩⟩
theorem wrel_drew {ρ : Id → Option (Nat × Nat)} {M : Mem} {w : World} (h : WRel G ρ w0 X M w) : WRel G ρ w0 X M { w with drawn := w.drawn + 1 } :=
  ⟨h.inj, fun id r hM => (h.row id r hM).mono (trans_drew ρ M w) fun _ _ _ => rfl, h.new, ⟨h.keep.os, h.keep.tape, h.keep.output, h.keep.size, h.keep.block, h.keep.shape⟩, h.good, h.tab.mono (trans_drew ρ M w).stab⟩
def textOk (ops : Array Oper) : Bool := ops.toList.zipIdx.all fun (o, j) => o.after.toList.all fun e => !Region.binds .any e || decide (e.on < j)
theorem draw_sound {Q : Exit → Act → World → Prop} {id : Nat} {st : St} {K : St → List (List Id × List Id) → Prop} {a : Act} {w : World} (hF : FlOk w0 X) (hm : P.follows .mixedOrders = true) (hd : ∀ o ∈ ops.toList, ∀ t, o.dst = some t → t < N)
    (htext : textOk ops = true) (h : exec P ops true ops.toList st [] K) (hK : ∀ st' tr, K st' tr → orderOk ops tr.reverse = true ∧ ∀ a w, RelF G w0 X N st'.V st'.M a w → Q .normal a w) (hR : RelF G w0 X N st.V st.M a w) :
    (Code.region id ops true).wp P Q a w := by
  obtain ⟨es, st', hlen, hsteps, hk, eV, eM⟩ := exec_steps ops.toList st [] h
  obtain ⟨hord, hQ⟩ := hK _ _ hk
  simp only [List.append_nil, List.reverse_reverse] at hord
  refine wp_region_any hm ?_
  have htx : ∀ (j : Nat) o, ops[j]? = some o → ∀ e ∈ o.after, Region.binds .any e = true → e.on < j := by
    intro j o hj e he hb
    have h1 := List.all_eq_true.1 htext (o, j) (by
      rw [List.mem_zipIdx_iff_getElem?]
      simpa using hj)
    have h2 := List.all_eq_true.1 h1 e (Array.mem_toList_iff.2 he)
    simpa [hb] using h2
  obtain ⟨ρ, hW, hdef, hs, hV⟩ := hR
  refine any_order hF hd hsteps hlen hord htx (fun a w hR => hQ a w (by rw [eV, eM]; exact hR)) ops.size _ a _ (by simp) ?_ ?_ ?_
  · exact Nat.le_trans (List.length_filter_le _ _) (by simp)
  · intro k o hk
    rw [Array.getD_eq_getD_getElem?, Array.getElem?_replicate] at hk
    split at hk <;> simp at hk
  · have hf : ∀ i, (Array.replicate ops.size false).getD i false = false := fun i => by
      rw [Array.getD_eq_getD_getElem?, Array.getElem?_replicate]; split <;> rfl
    rw [runV_none _ _ _ _ (fun i _ => hf _), runM_none _ _ _ (fun i _ => hf _)]
    exact ⟨ρ, wrel_drew hW, hdef, hs, fun t => (trans_drew ρ st.M w).rep (hV t)⟩
end
end
end Go.Vs
set_option linter.unusedVariables false
set_option linter.unusedSimpArgs false
set_option linter.unusedSectionVars false
namespace Go.Vs
section
variable [fl : Inhabited FlrT]
def allL {α : Type} (p : α → Prop) : List α → Prop
  | [] => True
  | x :: r => p x ∧ allL p r
theorem allL_mem {α : Type} {p : α → Prop} : ∀ {l : List α}, allL p l → ∀ x ∈ l, p x
  | y :: l, h, x, hx => by
    rcases List.mem_cons.1 hx with rfl | hx
    · exact h.1
    · exact allL_mem h.2 x hx
def Weaker (st st' : St) : Prop :=
  allL (fun p : Nat × PV => getE st.env p.1 = p.2 ∧ refsD 5 (st'.mem.map (·.1)) p.2 = true) st'.env ∧
  allL (fun q : Id × Option Row => getM st.mem q.1 = some q.2 ∧ (match q.2 with
    | some r => r.bx = true → allL (fun e => allL (fun u => refsD 5 (st'.mem.map (·.1)) u = true) e) r.es
    | none => True)) st'.mem
def Ent (st st' : St) : Prop := ∀ (G : Nat → Prop) (w0 : World) (X : List (Option (Nat × Nat))) (N : Nat) (a : Act) (w : World), RelF G w0 X N st.V st.M a w → RelF G w0 X N st'.V st'.M a w
theorem Ent.refl (st : St) : Ent st st := fun _ _ _ _ _ _ h => h
theorem Ent.trans {s1 s2 s3 : St} (h : Ent s1 s2) (g : Ent s2 s3) : Ent s1 s3 := fun G w0 X N a w k => g G w0 X N a w (h G w0 X N a w k)
def vwp (P : Program) : Code → St → (Exit → St → Prop) → Prop
  | .skip, st, Q => Q .normal st
  | .region _ ops draw, st, Q => exec P ops draw ops.toList st [] (fun st' tr => (draw = false ∨ orderOk ops tr.reverse = true) ∧ Q .normal st')
  | .seq x y, st, Q => vwp P x st (fun e st' => match e with
      | .normal => ∃ st2, Ent st' st2 ∧ vwp P y st2 Q
      | e => Q e st')
  | .cond c x y, st, Q => ∃ b, ev st.V c = .bool b ∧ (b = true → vwp P x st Q) ∧ (b = false → vwp P y st Q)
  | .block id x, st, Q => vwp P x st (fun e st' => match e with
      | .exit id' => if id' = id then Q .normal st' else Q (.exit id') st'
      | e => Q e st')
  | .loop x, st, Q => ∃ (I : St → Prop) (m : St → Nat) (st0 : St), Ent st st0 ∧ I st0 ∧ ∀ st', I st' → vwp P x st' (fun e st'' => match e with
      | .normal => ∃ st3, Ent st'' st3 ∧ I st3 ∧ m st3 < m st'
      | e => Q e st'')
  | .exit id, st, Q => Q (.exit id) st
  | .ret, st, Q => Q .ret st
  | _, _, _ => False
def codeOk (N : Nat) : Code → Bool
  | .region _ ops draw => (ops.toList.all fun o => match o.dst with | some t => Nat.blt t N | none => true) && (!draw || textOk ops)
  | .seq x y => codeOk N x && codeOk N y
  | .cond _ x y => codeOk N x && codeOk N y
  | .block _ x => codeOk N x
  | .loop x => codeOk N x
  | .skip | .exit _ | .ret => true
  | _ => false
section
variable {G : Nat → Prop} {w0 : World} {X : List (Option (Nat × Nat))} {N : Nat}
theorem rep_refs {ρ : Id → Option (Nat × Nat)} {w : World} {S S' : Nat → Prop} {M M' : Mem} (ids : List Id) (hS : ∀ b, S b → S' b) (hM : ∀ id, (ids.any fun k => Nat.beq k.1 id.1 && Nat.beq k.2 id.2) = true → M' id = M id) :
    ∀ (d : Nat) (x : PV) (v : Value), refsD d ids x = true → Rep ρ w S M v x → Rep ρ w S' M' v x
  | 0, _, _, h, _ => by cases h
  | d + 1, x, v, h, hx => by
    have comps : ∀ (xs : List PV) (cs : Array Value), xs.all (refsD d ids) = true → Comps ρ w S M cs xs → Comps ρ w S' M' cs xs := fun xs cs ha hc =>
      ⟨hc.1, fun j u hu => let ⟨c, h1, h2⟩ := hc.2 j u hu; ⟨c, h1, rep_refs ids hS hM d u c (List.all_eq_true.1 ha u (List.mem_of_getElem? hu)) h2⟩⟩
    cases x <;> simp only [refsD] at h
    case any => exact rep_any
    case int => exact rep_int.2 (rep_int.1 hx)
    case bool => exact rep_bool.2 (rep_bool.1 hx)
    case str => exact rep_str.2 (rep_str.1 hx)
    case nil => exact rep_nil.2 (rep_nil.1 hx)
    case olist => exact absurd hx rep_olist
    case sem p => exact let ⟨h0, B, h1, h2⟩ := rep_sem.1 hx; rep_sem.2 ⟨h0, B, fun b hb => hS b (h1 b hb), h2⟩
    case clist sz es =>
      obtain ⟨hcap, hx⟩ := rep_clist.1 hx
      obtain ⟨a, cap, e, hc, hh⟩ := rep_list.1 hx
      exact rep_clist.2 ⟨hcap, rep_list.2 ⟨a, cap, e, hc, fun hne => let ⟨ad, h1, h2, h3⟩ := hh hne; ⟨ad, h1, hS _ h2, fun i el hi => ⟨(h3 i el hi).1, fun j u hu => let ⟨c, g1, g2, g3⟩ := (h3 i el hi).2 j u hu; ⟨c, g1, g2, g3.pureMono fun b hb => ⟨hS b hb, rfl⟩⟩⟩⟩⟩⟩
    case agg xs => obtain ⟨cs, rfl, hc⟩ := rep_agg.1 hx; exact rep_agg.2 ⟨cs, rfl, comps xs cs h hc⟩
    case tuple xs => obtain ⟨cs, rfl, hc⟩ := rep_tuple.1 hx; exact rep_tuple.2 ⟨cs, rfl, comps xs cs h hc⟩
    case fn f a b =>
      obtain ⟨p, q, rfl, h1, h2⟩ := rep_fn.1 hx
      rw [Bool.and_eq_true] at h
      exact rep_fn.2 ⟨p, q, rfl, comps _ _ h.1 h1, comps _ _ h.2 h2⟩
    case list sz es =>
      obtain ⟨a, cap, e, hc, hh⟩ := rep_list.1 hx
      exact rep_list.2 ⟨a, cap, e, hc, fun hne => let ⟨ad, h1, h2, h3⟩ := hh hne; ⟨ad, h1, hS _ h2, fun i el hi => ⟨(h3 i el hi).1, fun j u hu => let ⟨c, g1, g2, g3⟩ := (h3 i el hi).2 j u hu; ⟨c, g1, g2, g3.pureMono fun b hb => ⟨hS b hb, rfl⟩⟩⟩⟩⟩
    case ptr cs =>
      obtain ⟨ad, e, h1, hc⟩ := rep_ptr.1 hx
      exact rep_ptr.2 ⟨ad, e, hS _ h1, fun j u hu => let ⟨c, g1, g2, g3⟩ := hc j u hu; ⟨c, g1, g2, g3.pureMono fun b hb => ⟨hS b hb, rfl⟩⟩⟩
    case own id i off =>
      intro d'
      have := hx d'
      cases d' with
      | zero => trivial
      | succ d' => simp only [RepD, hM id h] at this ⊢; exact this
    case osl id o n =>
      intro d'
      have := hx d'
      cases d' with
      | zero => trivial
      | succ d' => simp only [RepD, hM id h] at this ⊢; exact this
theorem getM_mem : ∀ {l : List (Id × Option Row)} {id : Id} {x : Option Row}, getM l id = some x → (id, x) ∈ l
  | (k, y) :: l, id, x, h => by
    simp only [getM] at h
    cases hb : (Nat.beq k.1 id.1 && Nat.beq k.2 id.2) with
    | false => rw [hb] at h; exact List.mem_cons_of_mem _ (getM_mem h)
    | true =>
      rw [hb] at h
      injection h with h
      rw [Bool.and_eq_true] at hb
      have h1 := Nat.eq_of_beq_eq_true hb.1
      have h2 := Nat.eq_of_beq_eq_true hb.2
      have : k = id := Prod.ext h1 h2
      rw [this, h]
      exact List.mem_cons_self
theorem getM_any : ∀ {l : List (Id × Option Row)} {id : Id}, ((l.map (·.1)).any fun k => Nat.beq k.1 id.1 && Nat.beq k.2 id.2) = true → ∃ x, getM l id = some x
  | (k, y) :: l, id, h => by
    simp only [List.map_cons, List.any_cons, Bool.or_eq_true] at h
    simp only [getM]
    cases hb : (Nat.beq k.1 id.1 && Nat.beq k.2 id.2) with
    | false => rw [hb] at h; exact getM_any (h.resolve_left (by simp))
    | true => exact ⟨y, rfl⟩
theorem getE_mem : ∀ {l : List (Nat × PV)} {t : Nat}, getE l t = .any ∨ (t, getE l t) ∈ l
  | [], _ => .inl rfl
  | (k, y) :: l, t => by
    simp only [getE]
    cases hb : Nat.beq k t with
    | false => rcases getE_mem (l := l) (t := t) with h | h
               · exact .inl h
               · exact .inr (List.mem_cons_of_mem _ h)
    | true => have := Nat.eq_of_beq_eq_true hb; subst this; exact .inr List.mem_cons_self
theorem weaker_sound {st st' : St} (h : Weaker st st') {a : Act} {w : World} (hR : RelF G w0 X N st.V st.M a w) : RelF G w0 X N st'.V st'.M a w := by
  obtain ⟨ρ, hW, hdef, hs, hV⟩ := hR
  have hsub : ∀ id x, st'.M id = some x → st.M id = some x := fun id x hx => (allL_mem h.2 _ (getM_mem hx)).1
  have hany : ∀ id, ((st'.mem.map (·.1)).any fun k => Nat.beq k.1 id.1 && Nat.beq k.2 id.2) = true → st'.M id = st.M id := fun id hid => by
    obtain ⟨x, hx⟩ := getM_any hid
    exact hx.trans (hsub id x hx).symm
  have hS : ∀ b, Stab G ρ st.M w b → Stab G ρ st'.M w b := fun b hb => ⟨hb.1, fun id r z hl => hb.2.1 id r z (hsub id _ hl), hb.2.2⟩
  refine ⟨ρ, ⟨?_, ?_, ?_, hW.keep, hW.good, hW.tab.mono fun b hb => ⟨hS b hb, rfl⟩⟩, hdef, hs, fun t => ?_⟩
  · intro i1 i2 r1 r2 b z1 z2 h1 h2
    exact hW.inj i1 i2 r1 r2 b z1 z2 (hsub _ _ h1) (hsub _ _ h2)
  · intro id r hl
    have hr := hW.row id r (hsub _ _ hl)
    cases hb : ρ id with
    | none => rw [hb] at hr; exact hr
    | some bz =>
      obtain ⟨b, z⟩ := bz
      rw [hb] at hr
      obtain ⟨cur, C, g1, g2, g3, g4, g5, g6⟩ := hr
      refine ⟨cur, C, g1, g2, g3, g4, g5, fun i e hi => ⟨(g6 i e hi).1, fun j u hu => ?_⟩⟩
      obtain ⟨c, k1, k2, k3⟩ := (g6 i e hi).2 j u hu
      refine ⟨c, k1, k2, ?_⟩
      cases hbx : r.bx with
      | false => rw [hbx] at k3; exact k3.pureMono fun b hb => ⟨hS b hb, rfl⟩
      | true =>
        rw [hbx] at k3
        have h3 := (allL_mem h.2 _ (getM_mem hl)).2
        simp only at h3
        exact rep_refs _ hS hany 5 u c (allL_mem (allL_mem (h3 hbx) e (List.mem_of_getElem? hi)) u (List.mem_of_getElem? hu)) k3
  · intro id r hl
    exact hW.new id r (hsub _ _ hl)
  · rcases getE_mem (l := st'.env) (t := t) with he | he
    · show Rep ρ w _ _ _ (getE st'.env t)
      rw [he]; exact rep_any
    · obtain ⟨h1, h2⟩ := allL_mem h.1 _ he
      have := hV t
      show Rep ρ w _ _ _ (getE st'.env t)
      simp only at h1 h2
      rw [show st.V t = getE st'.env t from h1] at this
      exact rep_refs _ hS hany 5 _ _ h2 this
theorem Weaker.ent {st st' : St} (h : Weaker st st') : Ent st st' := fun _ _ _ _ _ _ hR => weaker_sound h hR
theorem exists_least (p : Nat → Prop) : (∃ n, p n) → ∃ n, p n ∧ ∀ m, p m → n ≤ m := by
  rintro ⟨n, hn⟩
  induction n using Nat.strongRecOn with
  | _ n ih =>
    by_cases h : ∃ m, m < n ∧ p m
    · obtain ⟨m, h1, h2⟩ := h
      exact ih m h1 h2
    · exact ⟨n, hn, fun m hm => Nat.le_of_not_lt fun hlt => h ⟨m, hlt, hm⟩⟩
theorem vwp_sound {P : Program} (hF : FlOk w0 X) (hm : P.follows .mixedOrders = true) : ∀ (c : Code) (st : St) (Q : Exit → St → Prop) (a : Act) (w : World), codeOk N c = true → vwp P c st Q → RelF G w0 X N st.V st.M a w →
    c.wp P (fun e a' w' => ∃ st', Q e st' ∧ RelF G w0 X N st'.V st'.M a' w') a w
  | .skip, st, Q, a, w, _, h, hR => wp_skip ⟨st, h, hR⟩
  | .exit id, st, Q, a, w, _, h, hR => wp_exit ⟨st, h, hR⟩
  | .ret, st, Q, a, w, _, h, hR => wp_ret ⟨st, h, hR⟩
  | .region id ops draw, st, Q, a, w, hok, h, hR => by
    simp only [codeOk, Bool.and_eq_true] at hok
    have hd : ∀ o ∈ ops.toList, ∀ t, o.dst = some t → t < N := by
      intro o ho t ht
      have := List.all_eq_true.1 hok.1 o ho
      rw [ht] at this
      simpa using this
    cases draw with
    | false => exact wp_region_list (exec_sound hF (fun st' tr a w hk hR => ⟨st', hk.2, hR⟩) ops.toList st [] a w hd h hR)
    | true =>
      refine draw_sound hF hm hd (by simpa using hok.2) h (fun st' tr hk => ⟨?_, fun a w hR => ⟨st', hk.2, hR⟩⟩) hR
      rcases hk.1 with h | h
      · cases h
      · exact h
  | .seq x y, st, Q, a, w, hok, h, hR => by
    simp only [codeOk, Bool.and_eq_true] at hok
    refine wp_seq (wp_mono (vwp_sound hF hm x st _ a w hok.1 h hR) ?_)
    rintro e a' w' ⟨st', hq, hR'⟩
    cases e with
    | normal =>
      obtain ⟨st2, h2, hq⟩ := hq
      exact vwp_sound hF hm y st2 Q a' w' hok.2 hq (h2 _ _ _ _ _ _ hR')
    | _ => exact ⟨st', hq, hR'⟩
  | .cond c x y, st, Q, a, w, hok, h, hR => by
    simp only [codeOk, Bool.and_eq_true] at hok
    obtain ⟨b, hb, h1, h2⟩ := h
    obtain ⟨ρ, hW, hdef, hs, hV⟩ := hR
    have hc := rep_ev hV c
    rw [hb] at hc
    refine wp_cond_split (rep_bool.1 hc) (fun hbt => ?_) (fun hbf => ?_)
    · exact vwp_sound hF hm x st Q a w hok.1 (h1 hbt) ⟨ρ, hW, hdef, hs, hV⟩
    · exact vwp_sound hF hm y st Q a w hok.2 (h2 hbf) ⟨ρ, hW, hdef, hs, hV⟩
  | .block id x, st, Q, a, w, hok, h, hR => by
    refine wp_block (wp_mono (vwp_sound hF hm x st _ a w hok h hR) ?_)
    rintro e a' w' ⟨st', hq, hR'⟩
    cases e with
    | exit id' =>
      simp only [Exit.inBlock]
      split
      · rename_i hid
        simp only [hid, if_true] at hq
        exact ⟨st', hq, hR'⟩
      · rename_i hid
        simp only [hid, if_false] at hq
        exact ⟨st', hq, hR'⟩
    | _ => exact ⟨st', hq, hR'⟩
  | .loop x, st, Q, a, w, hok, h, hR => by
    obtain ⟨I, m, st0, hw0, hI, hround⟩ := h
    let p : Act → World → Nat → Prop := fun a w n => ∃ st, I st ∧ RelF G w0 X N st.V st.M a w ∧ m st = n
    let μ : Act → World → Nat := fun a w => by
      classical
      exact if h : ∃ n, p a w n then Classical.choose (exists_least _ h) else 0
    have hμ : ∀ a w, (∃ n, p a w n) → p a w (μ a w) ∧ ∀ n, p a w n → μ a w ≤ n := by
      intro a w h
      have := Classical.choose_spec (exists_least _ h)
      have e : μ a w = Classical.choose (exists_least _ h) := by simp only [μ]; rw [dif_pos h]
      rw [e]
      exact this
    refine wp_loop (fun a w => ∃ n, p a w n) μ ⟨m st0, st0, hI, hw0 _ _ _ _ _ _ hR, rfl⟩ ?_
    intro a' w' hp
    obtain ⟨⟨st', hI', hR', hm'⟩, _⟩ := hμ a' w' hp
    refine wp_mono (vwp_sound hF hm x st' _ a' w' hok (hround st' hI') hR') ?_
    rintro e a2 w2 ⟨st2, hq, hR2⟩
    cases e with
    | normal =>
      obtain ⟨st3, h3, hI3, hlt⟩ := hq
      have hp2 : p a2 w2 (m st3) := ⟨st3, hI3, h3 _ _ _ _ _ _ hR2, rfl⟩
      exact ⟨⟨_, hp2⟩, Nat.lt_of_le_of_lt ((hμ a2 w2 ⟨_, hp2⟩).2 _ hp2) (by rw [← hm']; exact hlt)⟩
    | _ => exact ⟨st2, hq, hR2⟩
  | .rangeFunc _ _ _ _, _, _, _, _, hok, _, _ => by cases hok
  | .scope _, _, _, _, _, hok, _, _ => by cases hok
  | .label _, _, _, _, _, hok, _, _ => by cases hok
  | .goto _, _, _, _, _, hok, _, _ => by cases hok
  | .refuse _, _, _, _, _, hok, _, _ => by cases hok
end
end
end Go.Vs
set_option linter.unusedVariables false
set_option linter.unusedSimpArgs false
namespace Go.Vs
def argsEnv : Nat → List PV → List (Nat × PV)
  | _, [] => []
  | k, x :: r => (k, x) :: argsEnv (k + 1) r
def ioEnv : Nat → List Row → List (Id × Option Row)
  | _, [] => []
  | k, x :: r => ((io, k), some x) :: ioEnv (k + 1) r
def PV.flat : PV → Bool
  | .int _ _ | .bool _ | .str _ => true
  | _ => false
def ResIs (P : Program) (st : St) (rv : ResultVar) (x : PV) : Prop :=
  match rv with
  | .tmp t => getE st.env t = x
  | .cell t T => ∃ id row k, getE st.env t = .own id 0 0 ∧ getM st.mem id = some (some row) ∧ row.es[0]? = some x.cells ∧ x = .agg x.cells ∧ x.cells.length = k ∧ TAgg P T k
def AllRes (P : Program) (st : St) : List ResultVar → List PV → Prop
  | [], [] => True
  | r :: rs, x :: xs => ResIs P st r x ∧ AllRes P st rs xs
  | _, _ => False
def tup : List PV → PV
  | [x] => x
  | xs => .tuple xs
def Exp1 (al : Bool) (st : St) (x y : PV) (u : List (Option Id)) : Prop :=
  match x, y with
  | .int k n, .int k' n' => k = k' ∧ n = n' ∧ u = []
  | .bool b, .bool b' => b = b' ∧ u = []
  | .str s, .str s' => s = s' ∧ u = []
  | .nil, .olist _ _ es => es = [] ∧ u = [none]
  | .osl id o n, .olist ty sz es => o = 0 ∧ id.1 ≠ io ∧ n = es.length ∧ (al = true ∨ ∀ e ∈ es, ∀ c ∈ e, c.flat = true) ∧ getM st.mem id = some (some ⟨ty, sz, es, false⟩) ∧ u = [some id]
  | .list sz es, .list sz' es' => al = true ∧ sz = sz' ∧ es = es' ∧ u = []
  | .ptr cs, .ptr cs' => al = true ∧ cs = cs' ∧ u = []
  | .any, .any => u = []
  | _, _ => False
def ExpL (al : Bool) (st : St) : List PV → List PV → List (Option Id) → Prop
  | [], [], u => u = []
  | x :: xs, y :: ys, u => ∃ u1 u2, Exp1 al st x y u1 ∧ ExpL al st xs ys u2 ∧ u = u1 ++ u2
  | _, _, _ => False
def Exp2 (al : Bool) (st : St) (x y : PV) (u : List (Option Id)) : Prop :=
  match x, y with
  | .agg xs, .agg ys => ExpL al st xs ys u
  | x, y => Exp1 al st x y u
def ExpT (al : Bool) (st : St) : List PV → List PV → List (Option Id) → Prop
  | [], [], u => u = []
  | x :: xs, y :: ys, u => ∃ u1 u2, Exp2 al st x y u1 ∧ ExpT al st xs ys u2 ∧ u = u1 ++ u2
  | _, _, _ => False
def Exp (al : Bool) (st : St) (x y : PV) (u : List (Option Id)) : Prop :=
  match x, y with
  | .tuple xs, .tuple ys => ExpT al st xs ys u
  | x, y => Exp2 al st x y u
def apartIds : List (Option Id) → Prop
  | [] => True
  | none :: r => apartIds r
  | some id :: r => some id ∉ r ∧ apartIds r
def RetPost (P : Program) (fn : Func) (al : Bool) (ios : List Row) (Post : PV → List (List (List PV)) → Prop) (e : Exit) (st : St) : Prop :=
  (e = .ret ∨ e = .normal) ∧ ∃ xs r u fin, AllRes P st fn.results.toList xs ∧ Exp al st (tup xs) r u ∧ apartIds u ∧ Post r fin ∧ fin.length = ios.length ∧
    ∀ (k : Nat) row, ios[k]? = some row → ∃ es, fin[k]? = some es ∧ es.length = row.es.length ∧ getM st.mem (io, k) = some (some { row with es := es }) ∧ (row.bx = true → es = row.es)
section
variable {P : Program} {G : Nat → Prop} {w0 w : World} {X : List (Option (Nat × Nat))} {N : Nat} {ρ : Id → Option (Nat × Nat)} {st : St} {al : Bool}
def exRho (t : Nat) (u : List (Option Id)) (ρ : Id → Option (Nat × Nat)) : Id → Option (Nat × Nat) := fun id => if id.1 = t then (u[id.2]?).bind fun o => o.bind ρ else ρ id
def RowsAre (st : St) (al : Bool) (t k0 : Nat) (u : List (Option Id)) (l : List (Id × Option Row)) : Prop :=
  ∀ p ∈ l, ∃ k row, p = ((t, k0 + k), some row) ∧ row.bx = false ∧ ((u[k]? = some none ∧ row.es = []) ∨
    ∃ id, u[k]? = some (some id) ∧ id.1 ≠ io ∧ getM st.mem id = some (some row) ∧ (al = true ∨ ∀ e ∈ row.es, ∀ c ∈ e, c.flat = true))
theorem exp1_thaw {x y : PV} {u : List (Option Id)} (t k : Nat) (h : Exp1 al st x y u) : RowsAre st al t k u (thaw1 t k y).2.2 ∧ (thaw1 t k y).1 = k + u.length ∧
    (∀ y', (thawL t k (y :: y')).1 = (thawL t (k + u.length) y').1 ∧ (thawL t k (y :: y')).2.1 = (thaw1 t k y).2.1 :: (thawL t (k + u.length) y').2.1 ∧ (thawL t k (y :: y')).2.2 = (thaw1 t k y).2.2 ++ (thawL t (k + u.length) y').2.2) := by
  cases x <;> cases y <;> simp only [Exp1] at h
  case nil.olist ty sz es =>
    obtain ⟨rfl, rfl⟩ := h
    refine ⟨fun p hp => ?_, rfl, fun y' => ⟨rfl, rfl, rfl⟩⟩
    simp [thaw1] at hp
    subst hp
    exact ⟨0, _, rfl, rfl, .inl ⟨rfl, rfl⟩⟩
  case osl.olist id o n ty sz es =>
    obtain ⟨rfl, h1, rfl, h2, h3, rfl⟩ := h
    refine ⟨fun p hp => ?_, rfl, fun y' => ⟨rfl, rfl, rfl⟩⟩
    simp [thaw1] at hp
    subst hp
    exact ⟨0, _, rfl, rfl, .inr ⟨id, rfl, h1, h3, h2⟩⟩
  all_goals
    first
      | (obtain ⟨_, _, _, rfl⟩ := h
         exact ⟨fun p hp => by simp [thaw1] at hp, rfl, fun y' => ⟨rfl, rfl, rfl⟩⟩)
      | (obtain ⟨_, _, rfl⟩ := h
         exact ⟨fun p hp => by simp [thaw1] at hp, rfl, fun y' => ⟨rfl, rfl, rfl⟩⟩)
      | (obtain ⟨_, rfl⟩ := h
         exact ⟨fun p hp => by simp [thaw1] at hp, rfl, fun y' => ⟨rfl, rfl, rfl⟩⟩)
      | (subst h
         exact ⟨fun p hp => by simp [thaw1] at hp, rfl, fun y' => ⟨rfl, rfl, rfl⟩⟩)
theorem rowsAre_app {t k0 : Nat} {u1 u2 : List (Option Id)} {l1 l2 : List (Id × Option Row)} (h1 : RowsAre st al t k0 u1 l1) (h2 : RowsAre st al t (k0 + u1.length) u2 l2) : RowsAre st al t k0 (u1 ++ u2) (l1 ++ l2) := by
  intro p hp
  rcases List.mem_append.1 hp with hp | hp
  · obtain ⟨k, row, rfl, hb, h⟩ := h1 p hp
    have hk : ∀ v, u1[k]? = some v → (u1 ++ u2)[k]? = some v := fun v hv => by rw [List.getElem?_append_left (List.getElem?_eq_some_iff.1 hv).1]; exact hv
    refine ⟨k, row, rfl, hb, ?_⟩
    rcases h with ⟨h, he⟩ | ⟨id, h, hr⟩
    · exact .inl ⟨hk _ h, he⟩
    · exact .inr ⟨id, hk _ h, hr⟩
  · obtain ⟨k, row, rfl, hb, h⟩ := h2 p hp
    have hk : (u1 ++ u2)[u1.length + k]? = u2[k]? := by rw [List.getElem?_append_right (by omega)]; congr 1; omega
    refine ⟨u1.length + k, row, by rw [Nat.add_assoc], hb, ?_⟩
    rw [hk]
    exact h
theorem expL_thaw (t : Nat) : ∀ (xs ys : List PV) (k : Nat) (u : List (Option Id)), ExpL al st xs ys u → RowsAre st al t k u (thawL t k ys).2.2 ∧ (thawL t k ys).1 = k + u.length
  | [], [], k, u, h => by subst h; exact ⟨fun p hp => by simp [thawL] at hp, rfl⟩
  | x :: xs, y :: ys, k, u, h => by
    obtain ⟨u1, u2, h1, h2, rfl⟩ := h
    obtain ⟨g1, g2, g3⟩ := exp1_thaw t k h1
    obtain ⟨g4, g5⟩ := expL_thaw t xs ys (k + u1.length) u2 h2
    obtain ⟨g6, _, g7⟩ := g3 ys
    rw [g6, g7]
    exact ⟨rowsAre_app g1 g4, by rw [g5, List.length_append]; omega⟩
theorem exp2_thaw (t k : Nat) {x y : PV} {u : List (Option Id)} (h : Exp2 al st x y u) : RowsAre st al t k u (thaw1 t k y).2.2 ∧ (thaw1 t k y).1 = k + u.length := by
  cases x
  case agg xs =>
    cases y
    case agg ys => simp only [Exp2] at h; exact expL_thaw t xs ys k u h
    all_goals simp only [Exp2, Exp1] at h
  all_goals
    simp only [Exp2] at h
    exact ⟨(exp1_thaw t k h).1, (exp1_thaw t k h).2.1⟩
theorem expT_thaw (t : Nat) : ∀ (xs ys : List PV) (k : Nat) (u : List (Option Id)), ExpT al st xs ys u → RowsAre st al t k u (thawT t k ys).2.2 ∧ (thawT t k ys).1 = k + u.length
  | [], [], k, u, h => by subst h; exact ⟨fun p hp => by simp [thawT] at hp, rfl⟩
  | x :: xs, y :: ys, k, u, h => by
    obtain ⟨u1, u2, h1, h2, rfl⟩ := h
    obtain ⟨g1, g2⟩ := exp2_thaw t k h1
    obtain ⟨g4, g5⟩ := expT_thaw t xs ys (k + u1.length) u2 h2
    simp only [thawT]
    rw [g2]
    exact ⟨rowsAre_app g1 g4, by rw [g5, List.length_append]; omega⟩
theorem exp_thaw (t : Nat) {x y : PV} {u : List (Option Id)} (h : Exp al st x y u) : RowsAre st al t 0 u (thaw t y).2 := by
  cases x
  case tuple xs =>
    cases y
    case tuple ys => simp only [Exp] at h; exact (expT_thaw t xs ys 0 u h).1
    all_goals simp only [Exp, Exp2, Exp1] at h
  all_goals
    cases y
    case tuple ys => simp only [Exp, Exp2, Exp1] at h
    all_goals
      simp only [Exp] at h
      exact (exp2_thaw t 0 h).1
theorem upds_find : ∀ {l : List (Id × Option Row)} {id : Id} {x : Option Row}, noMem.upds l id = some x → (id, x) ∈ l
  | p :: l, id, x, h => by
    simp only [Mem.upds, Mem.set] at h
    split at h
    · rename_i he
      have h' : p.2 = x := Option.some.inj h
      subst h'
      subst he
      exact List.mem_cons_self
    · exact List.mem_cons_of_mem _ (upds_find h)
theorem apart_inj : ∀ {u : List (Option Id)} {i j : Nat} {id : Id}, apartIds u → u[i]? = some (some id) → u[j]? = some (some id) → i = j
  | [], i, j, id, _, h, _ => by simp at h
  | x :: u, i, j, id, ha, h1, h2 => by
    have hu : apartIds u := by cases x with | none => exact ha | some _ => exact ha.2
    cases i with
    | zero =>
      cases j with
      | zero => rfl
      | succ j =>
        simp at h1 h2
        subst h1
        exact absurd (List.mem_of_getElem? h2) ha.1
    | succ i =>
      cases j with
      | zero =>
        simp at h1 h2
        subst h2
        exact absurd (List.mem_of_getElem? h1) ha.1
      | succ j =>
        have := apart_inj (i := i) (j := j) (id := id) hu (by simpa using h1) (by simpa using h2)
        rw [this]
theorem exp1_rep {S' : Nat → Prop} {L : List (Id × Option Row)} {t k : Nat} {u u1 : List (Option Id)} {x y : PV} {v : Value} (hL : RowsAre st al t 0 u L) (hsub : ∀ p ∈ (thaw1 t k y).2.2, p ∈ L)
    (hu : ∀ (j : Nat) o, u1[j]? = some o → u[k + j]? = some o) (hS : al = true → ∀ b, Stab G ρ st.M w b → S' b) (h : Exp1 al st x y u1) (hx : Rep ρ w (Stab G ρ st.M w) st.M v x) :
    Rep (exRho t u ρ) w S' (noMem.upds L) v (thaw1 t k y).2.1 := by
  have find : ∀ row0, ((t, k), some row0) ∈ L → ∃ row, noMem.upds L (t, k) = some (some row) ∧ ((u[k]? = some none ∧ row.es = []) ∨ ∃ id, u[k]? = some (some id) ∧ id.1 ≠ io ∧ getM st.mem id = some (some row)) := by
    intro row0 hm
    obtain ⟨_, q, hq⟩ := upds_some (M := noMem) L (t, k) ⟨_, hm, rfl⟩
    obtain ⟨k', row, he, _, h⟩ := hL _ (upds_find hq)
    simp only [Prod.mk.injEq, true_and, Nat.zero_add] at he
    obtain ⟨rfl, rfl⟩ := he
    refine ⟨row, hq, ?_⟩
    rcases h with h | ⟨id, h1, h2, h3, _⟩
    · exact .inl h
    · exact .inr ⟨id, h1, h2, h3⟩
  cases x <;> cases y <;> simp only [Exp1] at h
  case any.any => exact rep_any
  case int.int => obtain ⟨rfl, rfl, _⟩ := h; exact rep_int.2 (rep_int.1 hx)
  case bool.bool => obtain ⟨rfl, _⟩ := h; exact rep_bool.2 (rep_bool.1 hx)
  case str.str => obtain ⟨rfl, _⟩ := h; exact rep_str.2 (rep_str.1 hx)
  case nil.olist ty sz es =>
    obtain ⟨rfl, rfl⟩ := h
    obtain ⟨row, h1, h2⟩ := find ⟨ty, sz, [], false⟩ (hsub _ (by simp [thaw1]))
    have hk := hu 0 none rfl
    rw [Nat.add_zero] at hk
    refine (rep_osl h1).2 ?_
    simp only [exRho, if_true, hk, Option.bind_some, Option.bind_none]
    exact ⟨rep_nil.1 hx, rfl, rfl⟩
  case osl.olist id o n ty sz es =>
    obtain ⟨rfl, hid, rfl, _, hM, rfl⟩ := h
    obtain ⟨row, h1, h2⟩ := find ⟨ty, sz, es, false⟩ (hsub _ (by simp [thaw1]))
    have hk := hu 0 (some id) rfl
    rw [Nat.add_zero] at hk
    have hrow : row = ⟨ty, sz, es, false⟩ := by
      rcases h2 with ⟨h2, _⟩ | ⟨id', h2, _, h3⟩
      · rw [hk] at h2; cases h2
      · rw [hk] at h2
        injection h2 with h2
        injection h2 with h2
        subst h2
        rw [hM] at h3
        injection h3 with h3
        injection h3 with h3
        exact h3.symm
    subst hrow
    refine (rep_osl h1).2 ?_
    have := (rep_osl (M := st.M) hM).1 hx
    simp only [exRho, if_true, hk, Option.bind_some]
    exact this
  case list.list =>
    obtain ⟨ha, rfl, rfl, _⟩ := h
    obtain ⟨a, cap, e, hc, hh⟩ := rep_list.1 hx
    exact rep_list.2 ⟨a, cap, e, hc, fun hne => let ⟨ad, h1, h2, h3⟩ := hh hne; ⟨ad, h1, hS ha _ h2, fun i el hi => ⟨(h3 i el hi).1, (h3 i el hi).2.mono (by rw [add_block]; exact h2) fun b hb => ⟨hS ha b hb, rfl⟩⟩⟩⟩
  case ptr.ptr =>
    obtain ⟨ha, rfl, _⟩ := h
    obtain ⟨ad, e, h1, h2⟩ := rep_ptr.1 hx
    exact rep_ptr.2 ⟨ad, e, hS ha _ h1, h2.mono h1 fun b hb => ⟨hS ha b hb, rfl⟩⟩
theorem expL_rep {S' : Nat → Prop} {L : List (Id × Option Row)} {t : Nat} {u : List (Option Id)} (hL : RowsAre st al t 0 u L) (hS : al = true → ∀ b, Stab G ρ st.M w b → S' b) : ∀ (xs ys : List PV) (k : Nat) (u1 : List (Option Id)),
    (∀ p ∈ (thawL t k ys).2.2, p ∈ L) → (∀ (j : Nat) o, u1[j]? = some o → u[k + j]? = some o) → ExpL al st xs ys u1 → xs.length = (thawL t k ys).2.1.length ∧
    ∀ (j : Nat) x v, xs[j]? = some x → Rep ρ w (Stab G ρ st.M w) st.M v x → ∃ y, (thawL t k ys).2.1[j]? = some y ∧ Rep (exRho t u ρ) w S' (noMem.upds L) v y
  | [], [], k, u1, _, _, _ => ⟨rfl, fun j x v h => by simp at h⟩
  | x :: xs, y :: ys, k, u1, hsub, hu, h => by
    obtain ⟨v1, v2, h1, h2, rfl⟩ := h
    obtain ⟨_, _, g3⟩ := exp1_thaw t k h1
    obtain ⟨g6, g7, g8⟩ := g3 ys
    rw [g8] at hsub
    rw [g7]
    obtain ⟨i1, i2⟩ := expL_rep hL hS xs ys (k + v1.length) v2 (fun p hp => hsub p (List.mem_append_right _ hp)) (fun j o hj => by
      rw [Nat.add_assoc]
      exact hu _ o (by rw [List.getElem?_append_right (by omega)]; rw [← hj]; congr 1; omega)) h2
    refine ⟨by simp [i1], fun j z v hz hv => ?_⟩
    cases j with
    | zero =>
      simp at hz
      subst hz
      exact ⟨_, rfl, exp1_rep hL (fun p hp => hsub p (List.mem_append_left _ hp)) (fun j o hj => hu j o (by rw [List.getElem?_append_left (List.getElem?_eq_some_iff.1 hj).1]; exact hj)) hS h1 hv⟩
    | succ j => exact i2 j z v (by simpa using hz) hv
theorem comps_of_exp {S' : Nat → Prop} {M' : Mem} {ρ' : Id → Option (Nat × Nat)} {xs ys : List PV} {cs : Array Value} (hl : xs.length = ys.length)
    (h : ∀ (j : Nat) x v, xs[j]? = some x → Rep ρ w (Stab G ρ st.M w) st.M v x → ∃ y, ys[j]? = some y ∧ Rep ρ' w S' M' v y) (hc : Comps ρ w (Stab G ρ st.M w) st.M cs xs) : Comps ρ' w S' M' cs ys := by
  refine ⟨hc.1.trans hl, fun j y hy => ?_⟩
  have hj : j < xs.length := by rw [hl]; exact (List.getElem?_eq_some_iff.1 hy).1
  obtain ⟨c, h1, h2⟩ := hc.2 j xs[j] (List.getElem?_eq_getElem hj)
  obtain ⟨y', h3, h4⟩ := h j xs[j] c (List.getElem?_eq_getElem hj) h2
  rw [hy] at h3
  injection h3 with h3
  subst h3
  exact ⟨c, h1, h4⟩
theorem exp2_rep {S' : Nat → Prop} {L : List (Id × Option Row)} {t k : Nat} {u u1 : List (Option Id)} {x y : PV} {v : Value} (hL : RowsAre st al t 0 u L) (hsub : ∀ p ∈ (thaw1 t k y).2.2, p ∈ L)
    (hu : ∀ (j : Nat) o, u1[j]? = some o → u[k + j]? = some o) (hS : al = true → ∀ b, Stab G ρ st.M w b → S' b) (h : Exp2 al st x y u1) (hx : Rep ρ w (Stab G ρ st.M w) st.M v x) :
    Rep (exRho t u ρ) w S' (noMem.upds L) v (thaw1 t k y).2.1 := by
  cases x
  case agg xs =>
    cases y
    case agg ys =>
      simp only [Exp2] at h
      obtain ⟨cs, rfl, hc⟩ := rep_agg.1 hx
      obtain ⟨g1, g2⟩ := expL_rep hL hS xs ys k u1 hsub hu h
      exact rep_agg.2 ⟨cs, rfl, comps_of_exp g1 g2 hc⟩
    all_goals simp only [Exp2, Exp1] at h
  all_goals
    simp only [Exp2] at h
    exact exp1_rep hL hsub hu hS h hx
theorem expT_rep {S' : Nat → Prop} {L : List (Id × Option Row)} {t : Nat} {u : List (Option Id)} (hL : RowsAre st al t 0 u L) (hS : al = true → ∀ b, Stab G ρ st.M w b → S' b) : ∀ (xs ys : List PV) (k : Nat) (u1 : List (Option Id)),
    (∀ p ∈ (thawT t k ys).2.2, p ∈ L) → (∀ (j : Nat) o, u1[j]? = some o → u[k + j]? = some o) → ExpT al st xs ys u1 → xs.length = (thawT t k ys).2.1.length ∧
    ∀ (j : Nat) x v, xs[j]? = some x → Rep ρ w (Stab G ρ st.M w) st.M v x → ∃ y, (thawT t k ys).2.1[j]? = some y ∧ Rep (exRho t u ρ) w S' (noMem.upds L) v y
  | [], [], k, u1, _, _, _ => ⟨rfl, fun j x v h => by simp at h⟩
  | x :: xs, y :: ys, k, u1, hsub, hu, h => by
    obtain ⟨v1, v2, h1, h2, rfl⟩ := h
    obtain ⟨_, g2⟩ := exp2_thaw t k h1
    simp only [thawT] at hsub ⊢
    rw [g2] at hsub ⊢
    obtain ⟨i1, i2⟩ := expT_rep hL hS xs ys (k + v1.length) v2 (fun p hp => hsub p (List.mem_append_right _ hp)) (fun j o hj => by
      rw [Nat.add_assoc]
      exact hu _ o (by rw [List.getElem?_append_right (by omega)]; rw [← hj]; congr 1; omega)) h2
    refine ⟨by simp [i1], fun j z v hz hv => ?_⟩
    cases j with
    | zero =>
      simp at hz
      subst hz
      exact ⟨_, rfl, exp2_rep hL (fun p hp => hsub p (List.mem_append_left _ hp)) (fun j o hj => hu j o (by rw [List.getElem?_append_left (List.getElem?_eq_some_iff.1 hj).1]; exact hj)) hS h1 hv⟩
    | succ j => exact i2 j z v (by simpa using hz) hv
theorem exp_rep {S' : Nat → Prop} {t : Nat} {u : List (Option Id)} {x y : PV} {v : Value} (hS : al = true → ∀ b, Stab G ρ st.M w b → S' b) (h : Exp al st x y u) (hx : Rep ρ w (Stab G ρ st.M w) st.M v x) :
    Rep (exRho t u ρ) w S' (noMem.upds (thaw t y).2) v (thaw t y).1 := by
  have hL := exp_thaw t h
  have huu : ∀ (j : Nat) o, u[j]? = some o → u[0 + j]? = some o := fun j o hj => by rw [Nat.zero_add]; exact hj
  cases x
  case tuple xs =>
    cases y
    case tuple ys =>
      simp only [Exp] at h
      obtain ⟨cs, rfl, hc⟩ := rep_tuple.1 hx
      obtain ⟨g1, g2⟩ := expT_rep hL hS xs ys 0 u (fun p hp => hp) huu h
      exact rep_tuple.2 ⟨cs, rfl, comps_of_exp g1 g2 hc⟩
    all_goals simp only [Exp, Exp2, Exp1] at h
  all_goals
    cases y
    case tuple ys => simp only [Exp, Exp2, Exp1] at h
    all_goals
      simp only [Exp] at h
      exact exp2_rep hL (fun p hp => hp) huu hS h hx
end
end Go.Vs
set_option linter.unusedVariables false
set_option linter.unusedSimpArgs false
namespace Go.Vs
section
variable {P : Program} {G : Nat → Prop} {w0 w : World} {X : List (Option (Nat × Nat))} {N : Nat} {ρ : Id → Option (Nat × Nat)} {st : St} {al : Bool}
theorem getE_args : ∀ (xs : List PV) (k t : Nat), getE (argsEnv k xs) t = if k ≤ t then (xs[t - k]?).getD .any else .any
  | [], k, t => by simp [argsEnv, getE]
  | x :: xs, k, t => by
    simp only [argsEnv, getE]
    by_cases h : k = t
    · subst h
      have : Nat.beq k k = true := by simp
      rw [this]
      simp
    · rw [nbeq_false h]
      simp only [cond_false]
      rw [getE_args xs (k + 1) t]
      by_cases h1 : k ≤ t
      · rw [if_pos h1, if_pos (by omega)]
        have : t - k = (t - (k + 1)) + 1 := by omega
        rw [this, List.getElem?_cons_succ]
      · rw [if_neg h1, if_neg (by omega)]
theorem getM_io : ∀ (ios : List Row) (k : Nat) (id : Id), getM (ioEnv k ios) id = if id.1 = io ∧ k ≤ id.2 then (ios[id.2 - k]?).map some else none
  | [], k, id => by simp [ioEnv, getM]
  | x :: ios, k, id => by
    simp only [ioEnv, getM]
    by_cases h1 : io = id.1
    · by_cases h2 : k = id.2
      · have : (Nat.beq io id.1 && Nat.beq k id.2) = true := by rw [h1, h2]; simp
        rw [this]
        simp [h1, h2]
      · have : (Nat.beq io id.1 && Nat.beq k id.2) = false := by rw [nbeq_false h2]; simp
        rw [this]
        simp only [cond_false]
        rw [getM_io ios (k + 1) id]
        by_cases h3 : k ≤ id.2
        · rw [if_pos (⟨h1.symm, by omega⟩ : id.1 = io ∧ k + 1 ≤ id.2), if_pos (⟨h1.symm, h3⟩ : id.1 = io ∧ k ≤ id.2)]
          have : id.2 - k = (id.2 - (k + 1)) + 1 := by omega
          rw [this, List.getElem?_cons_succ]
        · rw [if_neg (fun h : id.1 = io ∧ k + 1 ≤ id.2 => h3 (by have := h.2; omega)), if_neg (fun h : id.1 = io ∧ k ≤ id.2 => h3 h.2)]
    · have : (Nat.beq io id.1 && Nat.beq k id.2) = false := by rw [nbeq_false h1]; simp
      rw [this]
      simp only [cond_false]
      rw [getM_io ios (k + 1) id, if_neg (fun h => h1 h.1.symm), if_neg (fun h => h1 h.1.symm)]
theorem ioEnv_mem (ios : List Row) : getM (ioEnv 0 ios) = ioMem ios := by
  funext id
  rw [getM_io, ioMem]
  simp
theorem rep_flat {ρ ρ' : Id → Option (Nat × Nat)} {w w' : World} {S S' : Nat → Prop} {M M' : Mem} {v : Value} {x : PV} (hf : x.flat = true) (h : Rep ρ w S M v x) : Rep ρ' w' S' M' v x := by
  cases x <;> simp [PV.flat] at hf
  case int => exact rep_int.2 (rep_int.1 h)
  case bool => exact rep_bool.2 (rep_bool.1 h)
  case str => exact rep_str.2 (rep_str.1 h)
def resVal (tmps : Array Value) : ResultVar → Sem Value
  | .tmp t => Pure.pure (tmps.getD t undef)
  | .cell a' t => do loadVar t (← asAddr (tmps.getD a' undef))
theorem results_eq (fn : Func) (tmps : Array Value) : results fn tmps = (do let vs ← fn.results.mapM (resVal tmps); Pure.pure (if h : vs.size = 1 then vs[0] else .tuple vs)) := rfl
theorem res_sound {a : Act} {fn : Func} (hW : WRel G ρ w0 X st.M w) (hV : ∀ t, Rep ρ w (Stab G ρ st.M w) st.M (a.tmps.getD t undef) (st.V t)) {xs : List PV} (h : AllRes P st fn.results.toList xs) :
    ∃ v, (results fn a.tmps).run P w = .ok v w ∧ Rep ρ w (Stab G ρ st.M w) st.M v (tup xs) := by
  have key : ∀ (l : List ResultVar) (xs : List PV), AllRes P st l xs → ∃ vs : List Value, vs.length = xs.length ∧ (l.mapM (resVal a.tmps)).run P w = .ok vs w ∧ Comps ρ w (Stab G ρ st.M w) st.M vs.toArray xs := by
    intro l
    induction l with
    | nil =>
      intro xs h
      cases xs with
      | nil => exact ⟨[], rfl, rfl, rfl, fun j u hu => by simp at hu⟩
      | cons x xs => exact h.elim
    | cons r l ih =>
      intro xs h
      cases xs with
      | nil => exact h.elim
      | cons x xs =>
        obtain ⟨h1, h2⟩ := h
        obtain ⟨vs, g1, g2, g3⟩ := ih xs h2
        have hr : ∃ v, (resVal a.tmps r).run P w = .ok v w ∧ Rep ρ w (Stab G ρ st.M w) st.M v x := by
          cases r with
          | tmp t =>
            refine ⟨_, rfl, ?_⟩
            have := hV t
            rw [show st.V t = x from h1] at this
            exact this
          | cell t T =>
            obtain ⟨id, row, k, e1, e2, e3, e4, e5, e6⟩ := h1
            have hx := hV t
            rw [show st.V t = .own id 0 0 from e1] at hx
            obtain ⟨b, z, cur, hρ, ex, q1, q2, q3, q4, q5, _⟩ := own_cells hW (M := st.M) e2 e3 hx
            obtain ⟨ll, hl, hn⟩ := exists_cells (fun j => cur[z + 0 * row.sz + j]?) k (fun j hj => by
              obtain ⟨c, h1, _⟩ := q5 j x.cells[j] (List.getElem?_eq_getElem (by omega))
              exact ⟨c, h1⟩)
            have c2 : ∀ (j : Nat) v, ll[j]? = some v → w.cell? ((⟨b, z + 0 * row.sz + 0, none⟩ : Addr).add j) = some v := fun j v hj => by
              have : j < k := by rw [← hl]; exact (List.getElem?_eq_some_iff.1 hj).1
              rw [add_off, cell_of_row w b _ cur row.ty (0, 0) q1, ← hj, ← hn j this, Nat.add_zero]
            refine ⟨.agg ll.toArray, ?_, ?_⟩
            · simp only [resVal, Sem.run_bind, ex, asAddr, Sem.run_pure, Result.andThen_ok]
              exact run_loadVar_agg e6 ll hl c2
            · rw [e4]
              refine rep_agg.2 ⟨_, rfl, by simp [hl, e5], fun j u hu => ?_⟩
              have hj : j < k := by rw [← e5]; exact (List.getElem?_eq_some_iff.1 hu).1
              obtain ⟨c, k1, k2, k3⟩ := q5 j u hu
              exact ⟨c, by rw [List.getElem?_toArray, ← hn j hj]; exact k1, repB_M k3⟩
        obtain ⟨v, e1, e2⟩ := hr
        refine ⟨v :: vs, by simp [g1], ?_, ?_⟩
        · simp only [List.mapM_cons, Sem.run_bind, Sem.run_pure]
          rw [e1]
          simp only [Result.andThen_ok]
          rw [g2]
          rfl
        · refine ⟨by simp [g1], fun j u hu => ?_⟩
          cases j with
          | zero => simp at hu; subst hu; exact ⟨v, rfl, e2⟩
          | succ j =>
            obtain ⟨c, k1, k2⟩ := g3.2 j u (by simpa using hu)
            exact ⟨c, by simpa using k1, k2⟩
  obtain ⟨vs, g1, g2, g3⟩ := key fn.results.toList xs h
  have hrun : (results fn a.tmps).run P w = .ok (if h : vs.toArray.size = 1 then vs.toArray[0] else .tuple vs.toArray) w := by
    rw [results_eq, Array.mapM_eq_mapM_toList]
    simp only [Sem.run_bind, Sem.run_map, g2, Result.andThen_ok, Sem.run_pure]
  refine ⟨_, hrun, ?_⟩
  match xs, vs, g1, g3 with
  | [x], [v], _, g3 =>
    obtain ⟨c, h1, h2⟩ := g3.2 0 x rfl
    simp at h1
    subst h1
    exact h2
  | [], [], _, g3 => exact rep_tuple.2 ⟨_, rfl, g3⟩
  | x :: y :: xs, v :: v2 :: vs, _, g3 => exact rep_tuple.2 ⟨_, by simp, g3⟩
theorem subD_id : ∀ (d : Nat) (x : PV), subD d (fun i => i) x = x
  | 0, _ => rfl
  | d + 1, x => by
    have hl : ∀ l : List PV, l.map (subD d fun i => i) = l := fun l => by
      rw [List.map_congr_left (g := id) fun y _ => subD_id d y]
      simp
    cases x <;> simp only [subD, hl]
theorem contract_at [fl : Inhabited FlrT] {f : FuncId} {fn : Func} {c : Code} {args : List PV} {ios : List Row} {Post : PV → List (List (List PV)) → Prop} (hm : P.follows .mixedOrders = true) (hf : P.funcs[f]? = some fn) (hb : fn.body = some c)
    (hok : codeOk fn.ntmps c = true) (hargs : args.length ≤ fn.ntmps) (hios : ∀ row ∈ ios, row.bx = false ∨ ∀ e ∈ row.es, ∀ u ∈ e, refsD 5 (ioIds ios.length) u = true)
    (h : vwp P c ⟨argsEnv 0 args, ioEnv 0 ios⟩ (RetPost P fn al ios Post)) {G : Nat → Prop} {w : World} {X : List (Option (Nat × Nat))} {ρ : Id → Option (Nat × Nat)} {cargs : Array Value} (hF : FlOk w X)
    (hW : WRel G ρ w X (ioMem ios) w) (hC : Comps ρ w (Stab G ρ (ioMem ios) w) (ioMem ios) cargs args) :
    Calls P f cargs w fun e w' => ∃ v r fin, e = .returned v ∧ Post r fin ∧ fin.length = ios.length ∧ (∀ (k : Nat) row f, ios[k]? = some row → fin[k]? = some f → f.length = row.es.length ∧ (row.bx = true → f = row.es)) ∧
      ∀ t, t ≠ io → ∃ ρ', RetOk G al w X w' v r ios fin t ρ' := by
  refine calls_of_wp hf hb ?_
  have hM : (⟨argsEnv 0 args, ioEnv 0 ios⟩ : St).M = ioMem ios := ioEnv_mem ios
  have hR : RelF G w X fn.ntmps (⟨argsEnv 0 args, ioEnv 0 ios⟩ : St).V (⟨argsEnv 0 args, ioEnv 0 ios⟩ : St).M { tmps := cargs ++ Array.replicate (fn.ntmps - cargs.size) undef, defers := [] } w := by
    rw [hM]
    refine ⟨ρ, hW, rfl, by simp [hC.1]; omega, fun t => ?_⟩
    show Rep ρ w _ _ _ (getE (argsEnv 0 args) t)
    rw [getE_args, if_pos (Nat.zero_le _), Nat.sub_zero]
    cases ht : args[t]? with
    | none => exact rep_any
    | some x =>
      obtain ⟨v, h1, h2⟩ := hC.2 t x ht
      have hlt := (Array.getElem?_eq_some_iff.1 h1).1
      have : (cargs ++ Array.replicate (fn.ntmps - cargs.size) undef).getD t undef = v := by
        rw [Array.getD_eq_getD_getElem?, Array.getElem?_append_left hlt, h1]
        rfl
      rw [this]
      exact h2
  refine wp_mono (vwp_sound hF hm c _ _ _ w hok h hR) ?_
  rintro e a' w' ⟨st', ⟨he, xs, r, u, fin, hres, hexp, hap, hPost, hfl, hfin⟩, ρ1, hW1, hdef, hs, hV⟩
  obtain ⟨v, hrun, hv⟩ := res_sound hW1 hV hres
  have goal : ∃ v', (results fn a'.tmps).run P w' = .ok v' w' ∧ ∃ v r fin, Ending.returned v' = .returned v ∧ Post r fin ∧ fin.length = ios.length ∧ (∀ (k : Nat) row f, ios[k]? = some row → fin[k]? = some f → f.length = row.es.length ∧ (row.bx = true → f = row.es)) ∧
      ∀ t, t ≠ io → ∃ ρ', RetOk G al w X w' v r ios fin t ρ' := by
    refine ⟨v, hrun, v, r, fin, rfl, hPost, hfl, fun k row f hk hf => ?_, fun t ht => ⟨exRho t u ρ1, ?_⟩⟩
    · obtain ⟨es, h1, h2, _, h3⟩ := hfin k row hk
      rw [hf] at h1
      injection h1 with h1
      rw [h1]; exact ⟨h2, h3⟩
    · have hrows := exp_thaw t hexp
      have retT : ∀ id row, (ioMem (withEs ios fin)).upds (thaw t r).2 id = some (some row) → id.1 = t → noMem.upds (thaw t r).2 id = some (some row) := by
        intro id row hl hid
        rcases upds_or (ioMem (withEs ios fin)) (thaw t r).2 id with ⟨h1, _⟩ | ⟨h1, _⟩
        · rw [← h1]; exact hl
        · rw [h1] at hl
          simp only [ioMem] at hl
          rw [if_neg (by rw [hid]; exact ht)] at hl
          cases hl
      have retI : ∀ id row, (ioMem (withEs ios fin)).upds (thaw t r).2 id = some (some row) → id.1 ≠ t → id.1 = io ∧ st'.M id = some (some row) := by
        intro id row hl hid
        rw [upds_other _ _ id fun p hp e => hid (by rw [← e]; exact thaw_fst t r p hp)] at hl
        simp only [ioMem] at hl
        split at hl
        · rename_i hio
          refine ⟨hio, ?_⟩
          rw [withEs_at ios fin _ hfl] at hl
          cases hk : ios[id.2]? with
          | none => rw [hk] at hl; simp at hl
          | some row0 =>
            obtain ⟨es, g1, g2, g3, _⟩ := hfin id.2 row0 hk
            rw [hk, g1] at hl
            simp at hl
            rw [← hl]
            have : id = (io, id.2) := by rw [← hio]
            rw [this]
            exact g3
        · cases hl
      have found : ∀ id row, noMem.upds (thaw t r).2 id = some (some row) → row.bx = false ∧ ((exRho t u ρ1 id = none ∧ row.es = []) ∨ ∃ id', u[id.2]? = some (some id') ∧ exRho t u ρ1 id = ρ1 id' ∧ id'.1 ≠ io ∧ st'.M id' = some (some row) ∧
          (al = true ∨ ∀ e ∈ row.es, ∀ c ∈ e, c.flat = true)) := by
        intro id row hl
        obtain ⟨k, row', he, hbx, h1⟩ := hrows _ (upds_find hl)
        simp only [Prod.mk.injEq, Nat.zero_add, Option.some.injEq] at he
        obtain ⟨rfl, rfl⟩ := he
        refine ⟨hbx, ?_⟩
        rcases h1 with ⟨h1, h2⟩ | ⟨id', h1, h2, h3, h4⟩
        · exact .inl ⟨by simp [exRho, h1], h2⟩
        · exact .inr ⟨id', h1, by simp [exRho, h1], h2, h3, h4⟩
      have hpre : ∀ id row b z, (ioMem (withEs ios fin)).upds (thaw t r).2 id = some (some row) → exRho t u ρ1 id = some (b, z) → ∃ id', st'.M id' = some (some row) ∧ ρ1 id' = some (b, z) ∧ ((id.1 = t ∧ u[id.2]? = some (some id') ∧ id'.1 ≠ io) ∨ (id.1 = io ∧ id' = id)) := by
        intro id row b z hl hb
        by_cases hid : id.1 = t
        · rcases (found id row (retT id row hl hid)).2 with ⟨h1, _⟩ | ⟨id', h1, h2, h3, h4, _⟩
          · rw [h1] at hb; cases hb
          · exact ⟨id', h4, by rw [← h2]; exact hb, .inl ⟨hid, h1, h3⟩⟩
        · obtain ⟨h1, h2⟩ := retI id row hl hid
          simp only [exRho, hid, if_false] at hb
          exact ⟨id, h2, hb, .inr ⟨h1, rfl⟩⟩
      have hS : ∀ b, Stab G ρ1 st'.M w' b → Stab G (exRho t u ρ1) ((ioMem (withEs ios fin)).upds (thaw t r).2) w' b := by
        intro b hb
        refine ⟨hb.1, fun id row z hl hh => ?_, hb.2.2⟩
        obtain ⟨id', h1, h2, _⟩ := hpre id row b z hl hh
        exact hb.2.1 id' row z h1 h2
      refine ⟨⟨?_, ?_, ?_, hW1.keep, hW1.good, hW1.tab.mono fun b hb => ⟨hS b hb, rfl⟩⟩, ?_, ?_⟩
      · intro i1 i2 r1 r2 b z1 z2 h1 h2 k1 k2
        obtain ⟨j1, m1, n1, o1⟩ := hpre i1 r1 b z1 h1 k1
        obtain ⟨j2, m2, n2, o2⟩ := hpre i2 r2 b z2 h2 k2
        have hj := hW1.inj j1 j2 r1 r2 b z1 z2 m1 m2 n1 n2
        subst hj
        rcases o1 with ⟨a1, a2, a3⟩ | ⟨a1, a2⟩ <;> rcases o2 with ⟨b1, b2, b3⟩ | ⟨b1, b2⟩
        · have := apart_inj hap a2 b2
          exact Prod.ext (a1.trans b1.symm) this
        · rw [b2] at a3; exact absurd b1 a3
        · rw [a2] at b3; exact absurd a1 b3
        · rw [← a2, ← b2]
      · intro id row hl
        by_cases hid : id.1 = t
        · obtain ⟨hbx, h⟩ := found id row (retT id row hl hid)
          rcases h with ⟨h1, h2⟩ | ⟨id', h1, h2, h3, h4, _⟩
          · rw [h1]; exact ⟨h2, hbx⟩
          · rw [h2]
            have hr := hW1.row id' row h4
            cases hb : ρ1 id' with
            | none => rw [hb] at hr; exact hr
            | some bz =>
              obtain ⟨b, z⟩ := bz
              rw [hb] at hr
              obtain ⟨cur, C, g1, g2, g3, g4, g5, g6⟩ := hr
              refine ⟨cur, C, g1, g2, g3, g4, g5, fun i e hi => ⟨(g6 i e hi).1, fun j x hx => ?_⟩⟩
              obtain ⟨c, k1, k2, k3⟩ := (g6 i e hi).2 j x hx
              rw [hbx] at k3 ⊢
              exact ⟨c, k1, k2, k3.pureMono fun b hb => ⟨hS b hb, rfl⟩⟩
        · obtain ⟨hio, h2⟩ := retI id row hl hid
          simp only [exRho, hid, if_false]
          have hmx : ∀ id1, ((ioIds ios.length).any fun k => Nat.beq k.1 id1.1 && Nat.beq k.2 id1.2) = true → ∃ q q', st'.M ((fun i => i) id1) = some (some q) ∧ ((ioMem (withEs ios fin)).upds (thaw t r).2) id1 = some (some q') ∧ q'.sz = q.sz ∧ q'.ty = q.ty ∧ q'.es.length = q.es.length ∧
              (exRho t u ρ1) id1 = ρ1 ((fun i => i) id1) := by
            intro id1 hid1
            obtain ⟨e1, e2⟩ := ioIds_any hid1
            obtain ⟨i1, i2⟩ := id1
            simp only at e2
            obtain rfl : i1 = io := congrArg Prod.fst e1
            obtain ⟨q0, hk⟩ : ∃ q0, ios[i2]? = some q0 := ⟨_, List.getElem?_eq_getElem e2⟩
            obtain ⟨es, g1, g2, g3, _⟩ := hfin i2 q0 hk
            refine ⟨{ q0 with es := es }, { q0 with es := es }, g3, ?_, rfl, rfl, rfl, ?_⟩
            · rw [upds_other _ _ _ fun p hp e => ht (by rw [← thaw_fst t r p hp, e])]
              simp [ioMem, withEs_at ios fin _ hfl, hk, g1]
            · have : io ≠ t := fun e => ht e.symm
              simp only [exRho, this, if_false]
          have hbx : row.bx = false ∨ ∀ e ∈ row.es, ∀ u ∈ e, refsD 5 (ioIds ios.length) u = true := by
            rw [upds_other _ _ id fun p hp e => hid (by rw [← e]; exact thaw_fst t r p hp)] at hl
            simp only [ioMem, hio, if_true] at hl
            rw [withEs_at ios fin _ hfl] at hl
            cases hk : ios[id.2]? with
            | none => rw [hk] at hl; simp at hl
            | some row0 =>
              obtain ⟨es, g1, _, _, g4⟩ := hfin id.2 row0 hk
              rw [hk, g1] at hl
              simp at hl
              rw [← hl]
              rcases hios row0 (List.mem_of_getElem? hk) with h | h
              · exact .inl h
              · cases hb0 : row0.bx
                · exact .inl rfl
                · rw [g4 hb0]; exact .inr h
          have hr := hW1.row id row h2
          cases hb : ρ1 id with
          | none => rw [hb] at hr; exact hr
          | some bz =>
            obtain ⟨b, z⟩ := bz
            rw [hb] at hr
            obtain ⟨cur, C, g1, g2, g3, g4, g5, g6⟩ := hr
            refine ⟨cur, C, g1, g2, g3, g4, g5, fun i e hi => ⟨(g6 i e hi).1, fun j x hx => ?_⟩⟩
            obtain ⟨c, k1, k2, k3⟩ := (g6 i e hi).2 j x hx
            refine ⟨c, k1, k2, ?_⟩
            cases hrb : row.bx
            · rw [hrb] at k3
              exact k3.pureMono fun b hb => ⟨hS b hb, rfl⟩
            · rw [hrb] at k3
              rcases hbx with h | h
              · rw [hrb] at h; cases h
              · have k4 : Rep ρ1 w' (Stab G ρ1 st'.M w') st'.M c (subD 5 (fun i => i) x) := by rw [subD_id]; exact k3
                exact (rep_ren (ioIds ios.length) hmx 5 x c (h e (List.mem_of_getElem? hi) x (List.mem_of_getElem? hx))).1 hS k4
      · intro id row hl
        by_cases hid : id.1 = t
        · rw [if_neg (by rw [hid]; exact ht)]
          intro b z hb
          obtain ⟨id', h1, h2, h3⟩ := hpre id row b z hl hb
          rcases h3 with ⟨_, _, h3⟩ | ⟨h3, _⟩
          · have := hW1.new id' row h1
            rw [if_neg h3] at this
            exact this b z h2
          · rw [hid] at h3; exact absurd h3 ht
        · obtain ⟨hio, h2⟩ := retI id row hl hid
          simp only [exRho, hid, if_false]
          exact hW1.new id row h2
      · intro id row b z hl hb
        obtain ⟨hbx, h⟩ := found id row hl
        refine ⟨hbx, ?_⟩
        rcases h with ⟨h1, _⟩ | ⟨id', h1, h2, h3, h4, h5⟩
        · rw [h1] at hb; cases hb
        · rw [h2] at hb
          have hr := hW1.row id' row h4
          rw [hb] at hr
          obtain ⟨cur, C, g1, g2, g3, g4, g5, g6⟩ := hr
          refine ⟨cur, g1, fun i e hi j x hx => ?_⟩
          obtain ⟨c, k1, k2, k3⟩ := (g6 i e hi).2 j x hx
          rw [hbx] at k3
          refine ⟨c, k1, ?_⟩
          rcases h5 with h5 | h5
          · exact k3.pureMono fun b hb => ⟨⟨hS b hb, fun h => by rw [h5] at h; cases h⟩, rfl⟩
          · exact rep_flat (h5 e (List.mem_of_getElem? hi) x (List.mem_of_getElem? hx)) k3
      · exact exp_rep (fun ha b hb => ⟨hS b hb, fun h => by rw [ha] at h; cases h⟩) hexp hv
  rcases he with rfl | rfl
  · exact ⟨hdef, goal⟩
  · exact ⟨hdef, goal⟩
theorem contract_of {f : FuncId} {fn : Func} {c : Code} {args : List PV} {ios : List Row} {Post : PV → List (List (List PV)) → Prop} (hm : P.follows .mixedOrders = true) (hf : P.funcs[f]? = some fn) (hb : fn.body = some c)
    (hname : (fn.name == "runtime.NumGoroutine") = false) (hok : codeOk fn.ntmps c = true) (hargs : args.length ≤ fn.ntmps) (hios : ∀ row ∈ ios, row.bx = false ∨ ∀ e ∈ row.es, ∀ u ∈ e, refsD 5 (ioIds ios.length) u = true)
    (h : vwp P c ⟨argsEnv 0 args, ioEnv 0 ios⟩ (RetPost P fn al ios Post)) : ContractP P f al args ios Post :=
  ⟨⟨fn, hf, hname, by rw [hb]; rfl⟩, fun G w X ρ cargs hW _ hC => contract_at (fl := flr0) hm hf hb hok hargs hios h (flOk0 _ _) hW hC⟩
end
end Go.Vs
