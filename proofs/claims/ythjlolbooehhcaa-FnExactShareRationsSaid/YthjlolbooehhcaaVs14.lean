/- VALUE SEMANTICS, 14: abstract states; operations one after the other. -/
import Derived.Test.YthjlolbooehhcaaVs13
set_option linter.unusedVariables false
set_option linter.unusedSimpArgs false
namespace Go.Vs

structure St where
  env : List (Nat × PV)
  mem : List (Id × Option Row)

def getE : List (Nat × PV) → Nat → PV
  | [], _ => .any
  | (k, x) :: r, t => cond (Nat.beq k t) x (getE r t)
def getM : List (Id × Option Row) → Mem
  | [], _ => none
  | (k, x) :: r, id => cond (Nat.beq k.1 id.1 && Nat.beq k.2 id.2) (some x) (getM r id)
abbrev St.V (st : St) : Nat → PV := getE st.env
abbrev St.M (st : St) : Mem := getM st.mem

def putE (env : List (Nat × PV)) (d : Option Tmp) (x : PV) : List (Nat × PV) := match d with
  | some t => (t, x) :: env
  | none => env
def St.app (st : St) (d : Option Tmp) (f : Eff) : St := ⟨putE st.env d f.x, f.ups ++ st.mem⟩

theorem nbeq_false {a b : Nat} (h : a ≠ b) : Nat.beq a b = false := by
  cases hb : Nat.beq a b with
  | false => rfl
  | true => exact absurd (Nat.eq_of_beq_eq_true hb) h

theorem getM_app (ups mem : List (Id × Option Row)) : getM (ups ++ mem) = (getM mem).upds ups := by
  induction ups with
  | nil => rfl
  | cons p r ih =>
    funext id
    obtain ⟨k, x⟩ := p
    simp only [List.cons_append, getM, Mem.upds, Mem.set, ← ih]
    by_cases h : id = k
    · subst h; simp
    · rw [if_neg h]
      have : (Nat.beq k.1 id.1 && Nat.beq k.2 id.2) = false := by
        rw [Bool.and_eq_false_iff]
        by_cases h1 : k.1 = id.1
        · right
          exact nbeq_false fun h2 => h (Prod.ext h1.symm h2.symm)
        · left; exact nbeq_false h1
      rw [this]; rfl

/-- Is the operation carried out? An operation that was passed over leaves the empty tuple. -/
def wantedPV (ops : Array Oper) (V : Nat → PV) (o : Oper) : Option Bool :=
  match o.guard with
  | none => some true
  | some (j, b) => match (ops[j]?).bind (·.dst) with
    | none => none
    | some d => match V d with
      | .bool b' => some (b' == b)
      | .tuple [] => some false
      | _ => none

def callee (c : Call) (V : Nat → PV) : PV := match c.callee with
  | .value f => ev V f
  | _ => .any

/-- A call of a Go function by its contract. -/
structure CallTo (P : Program) (o : Oper) (V : Nat → PV) (M : Mem) (t : Nat) (al fz : Bool) (ids rd : List Id) (ios : List Row) (Post : PV → List (List (List PV)) → Prop) : Prop where
  ok : ∃ c f g fi ca ys, o.op = .call c ∧ c.callee = .value f ∧ ev V f = .fn g fi ca ∧ (∀ d, o.dst = some d → d = t) ∧ ContractP P g al ys ios Post ∧ CallOk M t (fi ++ c.args.toList.map (ev V) ++ ca) al fz ys ids rd ios

def exec (P : Program) (ops : Array Oper) (draw : Bool) : List Oper → St → List (List Id × List Id) → (St → List (List Id × List Id) → Prop) → Prop
  | [], st, tr, K => K st tr
  | o :: rest, st, tr, K =>
    (wantedPV ops st.V o = some false ∧ exec P ops draw rest (st.app o.dst ⟨.tuple [], [], []⟩) (([], []) :: tr) K) ∨
    (wantedPV ops st.V o = some true ∧
      ((∃ f, OpStep P o.dst o.op st.V st.M f ∧ exec P ops draw rest (st.app o.dst f) ((f.rd, f.ups.map (·.1)) :: tr) K) ∨
       (∃ t al fz ids rd ios Post, CallTo P o st.V st.M t al fz ids rd ios Post ∧
          ((draw = false ∧ ∀ r fin, Post r fin → fin.length = ios.length → exec P ops draw rest (st.app o.dst ⟨(thaw t r).1, callUps st.M t ids rd fz r (backF st.M ids ios fin), rd⟩) (([], []) :: tr) K) ∨
           (∃ r fin, (∀ r' fin', Post r' fin' → r' = r ∧ fin' = fin) ∧
              exec P ops draw rest (st.app o.dst ⟨(thaw t r).1, callUps st.M t ids rd fz r (backF st.M ids ios fin), ids ++ rd⟩) ((ids ++ rd, (t, 0) :: (callUps st.M t ids rd fz r (backF st.M ids ios fin)).map (·.1)) :: tr) K)))))

/-- The abstract state is one of the frame's and the world's. -/
def RelF (G : Nat → Prop) (w0 : World) (X : List (Option (Nat × Nat))) (N : Nat) (V : Nat → PV) (M : Mem) (a : Act) (w : World) : Prop :=
  ∃ ρ, WRel G ρ w0 X M w ∧ a.defers = [] ∧ a.tmps.size = N ∧ ∀ t, Rep ρ w (Stab G ρ M w) M (a.tmps.getD t undef) (V t)
def putV (V : Nat → PV) (d : Option Tmp) (x : PV) : Nat → PV := match d with
  | some t => fun s => if s = t then x else V s
  | none => V

theorem getE_put (env : List (Nat × PV)) (d : Option Tmp) (x : PV) : getE (putE env d x) = putV (getE env) d x := by
  cases d with
  | none => rfl
  | some t =>
    funext s
    simp only [putE, getE, putV]
    by_cases h : s = t
    · subst h; simp
    · rw [if_neg h]
      have : Nat.beq t s = false := nbeq_false (Ne.symm h)
      rw [this]; rfl
theorem app_V (st : St) (d : Option Tmp) (f : Eff) : (st.app d f).V = putV st.V d f.x := getE_put _ _ _
theorem app_M (st : St) (d : Option Tmp) (f : Eff) : (st.app d f).M = st.M.upds f.ups := getM_app _ _

section
variable {P : Program} {G : Nat → Prop} {w0 : World} {X : List (Option (Nat × Nat))} {N : Nat} {V : Nat → PV} {M : Mem} {a : Act} {w : World} {ops : Array Oper}

theorem rep_undef {ρ : Id → Option (Nat × Nat)} {S : Nat → Prop} : Rep ρ w S M undef (.tuple []) := rep_tuple.2 ⟨#[], rfl, rfl, fun j u h => by simp at h⟩

theorem put_rel {ρ ρ' : Id → Option (Nat × Nat)} {w' : World} {M' : Mem} {d : Option Tmp} {v : Value} {x : PV} (hd : ∀ t, d = some t → t < N) (hdef : a.defers = []) (hs : a.tmps.size = N)
    (hV : ∀ t, Rep ρ w (Stab G ρ M w) M (a.tmps.getD t undef) (V t)) (T : Trans G ρ M w ρ' M' w') (W : WRel G ρ' w0 X M' w') (hx : Rep ρ' w' (Stab G ρ' M' w') M' v x) : RelF G w0 X N (putV V d x) M' (a.put d v) w' := by
  refine ⟨ρ', W, ?_, ?_, fun t => ?_⟩
  · cases d <;> exact hdef
  · cases d with
    | none => exact hs
    | some t => simpa [Act.put] using hs
  · cases d with
    | none => exact T.rep (hV t)
    | some s =>
      have hlt := hd s rfl
      simp only [putV, Act.put]
      by_cases h : t = s
      · subst h
        have hlt' : t < a.tmps.size := Nat.lt_of_lt_of_eq hlt hs.symm
        rw [if_pos rfl, Array.getD_eq_getD_getElem?, Array.getElem?_setIfInBounds_self_of_lt hlt']
        exact hx
      · rw [if_neg h, Array.getD_eq_getD_getElem?, Array.getElem?_setIfInBounds_ne (Ne.symm h), ← Array.getD_eq_getD_getElem?]
        exact T.rep (hV t)

theorem wanted_sound {b : Bool} (hV : ∀ t, ∃ ρ S, Rep ρ w S M (a.tmps.getD t undef) (V t)) {o : Oper} (h : wantedPV ops V o = some b) : Region.wanted o (yielded ops a.tmps) = b := by
  unfold wantedPV at h
  unfold Region.wanted
  split at h
  · rename_i hg
    injection h with h
    simp [hg, h]
  · rename_i j want hg
    rw [hg]
    split at h
    · cases h
    · rename_i d hd
      obtain ⟨ρ, S, hr⟩ := hV d
      simp only [yielded, hd, Option.bind_some]
      split at h
      · rename_i b' hb
        injection h with h
        rw [hb] at hr
        have hr := rep_bool.1 hr
        rw [Array.getD_eq_getD_getElem?] at hr
        cases ht : a.tmps[d]? with
        | none => rw [ht] at hr; simp [undef] at hr
        | some v => rw [ht] at hr; simp at hr; subst hr; simp [← h]
      · rename_i hb
        injection h with h
        rw [hb] at hr
        obtain ⟨cs, hr, _⟩ := rep_tuple.1 hr
        rw [Array.getD_eq_getD_getElem?] at hr
        cases ht : a.tmps[d]? with
        | none => simp [← h]
        | some v => rw [ht] at hr; simp at hr; subst hr; simp [← h]
      · cases h

theorem wp_of_res {ρ : Id → Option (Nat × Nat)} {o : Oper} {f : Eff} {K : Act → World → Prop} {Q : Exit → Act → World → Prop} (hd : ∀ t, o.dst = some t → t < N) (hdef : a.defers = []) (hs : a.tmps.size = N)
    (hV : ∀ t, Rep ρ w (Stab G ρ M w) M (a.tmps.getD t undef) (V t)) (h : OpRes P a o G ρ w0 X M w f) (hK : ∀ a' w', RelF G w0 X N (putV V o.dst f.x) (M.upds f.ups) a' w' → K a' w') : o.wp P a w K Q := by
  obtain ⟨ρ', w', v, hrun, T, W, hx⟩ := h
  have := put_rel (N := N) hd hdef hs hV T W hx
  unfold Oper.wp
  rcases hrun with hrun | ⟨hrun, hv⟩
  · rw [hrun]; exact hK _ _ this
  · rw [hrun]; subst hv; exact hK _ _ this

theorem wp_of_call {ρ : Id → Option (Nat × Nat)} {o : Oper} {K : Act → World → Prop} {Q : Exit → Act → World → Prop} {t : Nat} {al fz : Bool} {ids rd : List Id} {ios : List Row} {Post : PV → List (List (List PV)) → Prop}
    (hd : ∀ t, o.dst = some t → t < N) (hdef : a.defers = []) (hs : a.tmps.size = N) (hW : WRel G ρ w0 X M w)
    (hV : ∀ t, Rep ρ w (Stab G ρ M w) M (a.tmps.getD t undef) (V t)) (h : CallTo P o V M t al fz ids rd ios Post)
    (hK : ∀ r fin a' w', Post r fin → fin.length = ios.length → RelF G w0 X N (putV V o.dst (thaw t r).1) (M.upds (callUps M t ids rd fz r (backF M ids ios fin))) a' w' → K a' w') : o.wp P a w K Q := by
  obtain ⟨c, f, g, fi, ca, ys, ho, hcal, hev, hdt, hC, hok⟩ := h.ok
  have hf := rep_ev hV f
  rw [hev] at hf
  obtain ⟨vfi, vca, hfv, c1, c2⟩ := rep_fn.1 hf
  have hargs := (c1.append (comps_map hV c.args)).append c2
  obtain ⟨fn, hfn, hname, hbody⟩ := hC.1
  have hrun : (execOp a.eval o).run P w = .ok (.enter g (vfi ++ c.args.map a.eval ++ vca)) w := by
    simp only [execOp, ho, resolve, hcal, hfv, Deferred.ofValue, Sem.run_bind, Sem.run_pure, Result.andThen_ok, invoke, callFunc, run_program, hfn, hname, hbody, Bool.false_eq_true, if_false]
  unfold Oper.wp
  rw [hrun]
  show Calls P g _ w _
  refine (call_sound hW hargs hok hC).mono ?_
  rintro e w' ⟨v, r, fin, ρ2, rfl, hp, hfl, T, W, hx⟩
  exact hK r fin _ _ hp hfl (put_rel hd hdef hs hV T W hx)

theorem exec_sound {draw : Bool} {Q : Exit → Act → World → Prop} {K : St → List (List Id × List Id) → Prop} (hK : ∀ st tr a w, K st tr → RelF G w0 X N st.V st.M a w → Q .normal a w) :
    ∀ (l : List Oper) (st : St) (tr : List (List Id × List Id)) (a : Act) (w : World), (∀ o ∈ l, ∀ t, o.dst = some t → t < N) → exec P ops draw l st tr K → RelF G w0 X N st.V st.M a w → wpList P ops Q l a w := by
  intro l
  induction l with
  | nil => intro st tr a w _ h hR; exact hK st tr a w h hR
  | cons o rest ih =>
    intro st tr a w hd h hR
    obtain ⟨ρ, hW, hdef, hs, hV⟩ := hR
    have hd0 : ∀ t, o.dst = some t → t < N := hd o (by simp)
    have hd1 : ∀ o' ∈ rest, ∀ t, o'.dst = some t → t < N := fun o' h => hd o' (by simp [h])
    have hVe : ∀ t, ∃ ρ S, Rep ρ w S st.M (a.tmps.getD t undef) (st.V t) := fun t => ⟨_, _, hV t⟩
    rcases h with ⟨hw, h⟩ | ⟨hw, ⟨f, hstep, h⟩ | ⟨t, al, fz, ids, rd, ios, Post, hcall, h⟩⟩
    · have hw' := wanted_sound hVe hw
      simp only [wpList, hw']
      refine ih _ _ _ _ hd1 h ?_
      rw [app_V, app_M]
      exact put_rel hd0 hdef hs hV (Trans.refl _ _ _ _) hW rep_undef
    · have hw' := wanted_sound hVe hw
      simp only [wpList, hw', if_true]
      refine .inl (wp_of_res hd0 hdef hs hV (op_sound hW hV hstep) fun a' w' hR' => ih _ _ _ _ hd1 h ?_)
      rw [app_V, app_M]
      exact hR'
    · have hw' := wanted_sound hVe hw
      simp only [wpList, hw', if_true]
      refine .inl (wp_of_call hd0 hdef hs hW hV hcall fun r fin a' w' hp hfl hR' => ?_)
      rcases h with ⟨_, h⟩ | ⟨r', fin', huniq, h⟩
      · refine ih _ _ _ _ hd1 (h r fin hp hfl) ?_
        rw [app_V, app_M]
        exact hR'
      · obtain ⟨rfl, rfl⟩ := huniq r fin hp
        refine ih _ _ _ _ hd1 h ?_
        rw [app_V, app_M]
        exact hR'
end
end Go.Vs
