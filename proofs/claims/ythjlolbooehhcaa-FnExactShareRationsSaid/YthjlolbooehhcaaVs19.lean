/- VALUE SEMANTICS, 19: the contract of a function out of its code. -/
import Derived.Test.YthjlolbooehhcaaVs18
set_option linter.unusedVariables false
set_option linter.unusedSimpArgs false
namespace Go.Vs

def argsEnv : Nat → List PV → List (Nat × PV)
  | _, [] => []
  | k, x :: r => (k, x) :: argsEnv (k + 1) r
def ioEnv : Nat → List Row → List (Id × Option Row)
  | _, [] => []
  | k, x :: r => ((io, k), some x) :: ioEnv (k + 1) r

def PV.flat : PV → Bool
  | .int _ _ | .bool _ | .str _ => true
  | _ => false

/-- A result variable. -/
def ResIs (P : Program) (st : St) (rv : ResultVar) (x : PV) : Prop :=
  match rv with
  | .tmp t => getE st.env t = x
  | .cell t T => ∃ id row k, getE st.env t = .own id 0 0 ∧ getM st.mem id = some (some row) ∧ row.es[0]? = some x.cells ∧ x = .agg x.cells ∧ x.cells.length = k ∧ TAgg P T k
def AllRes (P : Program) (st : St) : List ResultVar → List PV → Prop
  | [], [] => True
  | r :: rs, x :: xs => ResIs P st r x ∧ AllRes P st rs xs
  | _, _ => False
def tup : List PV → PV
  | [x] => x
  | xs => .tuple xs

/-- What of an own value is handed out: an own row whole, as a list of the caller's. -/
def Exp1 (al : Bool) (st : St) (x y : PV) (u : List (Option Id)) : Prop :=
  match x, y with
  | .int k n, .int k' n' => k = k' ∧ n = n' ∧ u = []
  | .bool b, .bool b' => b = b' ∧ u = []
  | .str s, .str s' => s = s' ∧ u = []
  | .nil, .olist _ _ es => es = [] ∧ u = [none]
  | .osl id o n, .olist ty sz es => o = 0 ∧ id.1 ≠ io ∧ n = es.length ∧ (al = true ∨ ∀ e ∈ es, ∀ c ∈ e, c.flat = true) ∧ getM st.mem id = some (some ⟨ty, sz, es, false⟩) ∧ u = [some id]
  | .list sz es, .list sz' es' => al = true ∧ sz = sz' ∧ es = es' ∧ u = []
  | .ptr cs, .ptr cs' => al = true ∧ cs = cs' ∧ u = []
  | .any, .any => u = []
  | _, _ => False
def ExpL (al : Bool) (st : St) : List PV → List PV → List (Option Id) → Prop
  | [], [], u => u = []
  | x :: xs, y :: ys, u => ∃ u1 u2, Exp1 al st x y u1 ∧ ExpL al st xs ys u2 ∧ u = u1 ++ u2
  | _, _, _ => False
def Exp2 (al : Bool) (st : St) (x y : PV) (u : List (Option Id)) : Prop :=
  match x, y with
  | .agg xs, .agg ys => ExpL al st xs ys u
  | x, y => Exp1 al st x y u
def ExpT (al : Bool) (st : St) : List PV → List PV → List (Option Id) → Prop
  | [], [], u => u = []
  | x :: xs, y :: ys, u => ∃ u1 u2, Exp2 al st x y u1 ∧ ExpT al st xs ys u2 ∧ u = u1 ++ u2
  | _, _, _ => False
def Exp (al : Bool) (st : St) (x y : PV) (u : List (Option Id)) : Prop :=
  match x, y with
  | .tuple xs, .tuple ys => ExpT al st xs ys u
  | x, y => Exp2 al st x y u

def apartIds : List (Option Id) → Prop
  | [] => True
  | none :: r => apartIds r
  | some id :: r => some id ∉ r ∧ apartIds r

def RetPost (P : Program) (fn : Func) (al : Bool) (ios : List Row) (Post : PV → List (List (List PV)) → Prop) (e : Exit) (st : St) : Prop :=
  (e = .ret ∨ e = .normal) ∧ ∃ xs r u fin, AllRes P st fn.results.toList xs ∧ Exp al st (tup xs) r u ∧ apartIds u ∧ Post r fin ∧ fin.length = ios.length ∧
    ∀ (k : Nat) row, ios[k]? = some row → ∃ es, fin[k]? = some es ∧ es.length = row.es.length ∧ getM st.mem (io, k) = some (some { row with es := es }) ∧ (row.bx = true → es = row.es)

section
variable {P : Program} {G : Nat → Prop} {w0 w : World} {X : List (Option (Nat × Nat))} {N : Nat} {ρ : Id → Option (Nat × Nat)} {st : St} {al : Bool}

/-- k-th own row of the result. -/
def exRho (t : Nat) (u : List (Option Id)) (ρ : Id → Option (Nat × Nat)) : Id → Option (Nat × Nat) := fun id => if id.1 = t then (u[id.2]?).bind fun o => o.bind ρ else ρ id

/-- The rows of the result: the thawed ones are the ones that were handed out. -/
def RowsAre (st : St) (al : Bool) (t k0 : Nat) (u : List (Option Id)) (l : List (Id × Option Row)) : Prop :=
  ∀ p ∈ l, ∃ k row, p = ((t, k0 + k), some row) ∧ row.bx = false ∧ ((u[k]? = some none ∧ row.es = []) ∨
    ∃ id, u[k]? = some (some id) ∧ id.1 ≠ io ∧ getM st.mem id = some (some row) ∧ (al = true ∨ ∀ e ∈ row.es, ∀ c ∈ e, c.flat = true))

theorem exp1_thaw {x y : PV} {u : List (Option Id)} (t k : Nat) (h : Exp1 al st x y u) : RowsAre st al t k u (thaw1 t k y).2.2 ∧ (thaw1 t k y).1 = k + u.length ∧
    (∀ y', (thawL t k (y :: y')).1 = (thawL t (k + u.length) y').1 ∧ (thawL t k (y :: y')).2.1 = (thaw1 t k y).2.1 :: (thawL t (k + u.length) y').2.1 ∧ (thawL t k (y :: y')).2.2 = (thaw1 t k y).2.2 ++ (thawL t (k + u.length) y').2.2) := by
  cases x <;> cases y <;> simp only [Exp1] at h
  case nil.olist ty sz es =>
    obtain ⟨rfl, rfl⟩ := h
    refine ⟨fun p hp => ?_, rfl, fun y' => ⟨rfl, rfl, rfl⟩⟩
    simp [thaw1] at hp
    subst hp
    exact ⟨0, _, rfl, rfl, .inl ⟨rfl, rfl⟩⟩
  case osl.olist id o n ty sz es =>
    obtain ⟨rfl, h1, rfl, h2, h3, rfl⟩ := h
    refine ⟨fun p hp => ?_, rfl, fun y' => ⟨rfl, rfl, rfl⟩⟩
    simp [thaw1] at hp
    subst hp
    exact ⟨0, _, rfl, rfl, .inr ⟨id, rfl, h1, h3, h2⟩⟩
  all_goals
    first
      | (obtain ⟨_, _, _, rfl⟩ := h
         exact ⟨fun p hp => by simp [thaw1] at hp, rfl, fun y' => ⟨rfl, rfl, rfl⟩⟩)
      | (obtain ⟨_, _, rfl⟩ := h
         exact ⟨fun p hp => by simp [thaw1] at hp, rfl, fun y' => ⟨rfl, rfl, rfl⟩⟩)
      | (obtain ⟨_, rfl⟩ := h
         exact ⟨fun p hp => by simp [thaw1] at hp, rfl, fun y' => ⟨rfl, rfl, rfl⟩⟩)
      | (subst h
         exact ⟨fun p hp => by simp [thaw1] at hp, rfl, fun y' => ⟨rfl, rfl, rfl⟩⟩)

theorem rowsAre_app {t k0 : Nat} {u1 u2 : List (Option Id)} {l1 l2 : List (Id × Option Row)} (h1 : RowsAre st al t k0 u1 l1) (h2 : RowsAre st al t (k0 + u1.length) u2 l2) : RowsAre st al t k0 (u1 ++ u2) (l1 ++ l2) := by
  intro p hp
  rcases List.mem_append.1 hp with hp | hp
  · obtain ⟨k, row, rfl, hb, h⟩ := h1 p hp
    have hk : ∀ v, u1[k]? = some v → (u1 ++ u2)[k]? = some v := fun v hv => by rw [List.getElem?_append_left (List.getElem?_eq_some_iff.1 hv).1]; exact hv
    refine ⟨k, row, rfl, hb, ?_⟩
    rcases h with ⟨h, he⟩ | ⟨id, h, hr⟩
    · exact .inl ⟨hk _ h, he⟩
    · exact .inr ⟨id, hk _ h, hr⟩
  · obtain ⟨k, row, rfl, hb, h⟩ := h2 p hp
    have hk : (u1 ++ u2)[u1.length + k]? = u2[k]? := by rw [List.getElem?_append_right (by omega)]; congr 1; omega
    refine ⟨u1.length + k, row, by rw [Nat.add_assoc], hb, ?_⟩
    rw [hk]
    exact h

theorem expL_thaw (t : Nat) : ∀ (xs ys : List PV) (k : Nat) (u : List (Option Id)), ExpL al st xs ys u → RowsAre st al t k u (thawL t k ys).2.2 ∧ (thawL t k ys).1 = k + u.length
  | [], [], k, u, h => by subst h; exact ⟨fun p hp => by simp [thawL] at hp, rfl⟩
  | x :: xs, y :: ys, k, u, h => by
    obtain ⟨u1, u2, h1, h2, rfl⟩ := h
    obtain ⟨g1, g2, g3⟩ := exp1_thaw t k h1
    obtain ⟨g4, g5⟩ := expL_thaw t xs ys (k + u1.length) u2 h2
    obtain ⟨g6, _, g7⟩ := g3 ys
    rw [g6, g7]
    exact ⟨rowsAre_app g1 g4, by rw [g5, List.length_append]; omega⟩
theorem exp2_thaw (t k : Nat) {x y : PV} {u : List (Option Id)} (h : Exp2 al st x y u) : RowsAre st al t k u (thaw1 t k y).2.2 ∧ (thaw1 t k y).1 = k + u.length := by
  cases x
  case agg xs =>
    cases y
    case agg ys => simp only [Exp2] at h; exact expL_thaw t xs ys k u h
    all_goals simp only [Exp2, Exp1] at h
  all_goals
    simp only [Exp2] at h
    exact ⟨(exp1_thaw t k h).1, (exp1_thaw t k h).2.1⟩
theorem expT_thaw (t : Nat) : ∀ (xs ys : List PV) (k : Nat) (u : List (Option Id)), ExpT al st xs ys u → RowsAre st al t k u (thawT t k ys).2.2 ∧ (thawT t k ys).1 = k + u.length
  | [], [], k, u, h => by subst h; exact ⟨fun p hp => by simp [thawT] at hp, rfl⟩
  | x :: xs, y :: ys, k, u, h => by
    obtain ⟨u1, u2, h1, h2, rfl⟩ := h
    obtain ⟨g1, g2⟩ := exp2_thaw t k h1
    obtain ⟨g4, g5⟩ := expT_thaw t xs ys (k + u1.length) u2 h2
    simp only [thawT]
    rw [g2]
    exact ⟨rowsAre_app g1 g4, by rw [g5, List.length_append]; omega⟩
theorem exp_thaw (t : Nat) {x y : PV} {u : List (Option Id)} (h : Exp al st x y u) : RowsAre st al t 0 u (thaw t y).2 := by
  cases x
  case tuple xs =>
    cases y
    case tuple ys => simp only [Exp] at h; exact (expT_thaw t xs ys 0 u h).1
    all_goals simp only [Exp, Exp2, Exp1] at h
  all_goals
    cases y
    case tuple ys => simp only [Exp, Exp2, Exp1] at h
    all_goals
      simp only [Exp] at h
      exact (exp2_thaw t 0 h).1

theorem upds_find : ∀ {l : List (Id × Option Row)} {id : Id} {x : Option Row}, noMem.upds l id = some x → (id, x) ∈ l
  | p :: l, id, x, h => by
    simp only [Mem.upds, Mem.set] at h
    split at h
    · rename_i he
      have h' : p.2 = x := Option.some.inj h
      subst h'
      subst he
      exact List.mem_cons_self
    · exact List.mem_cons_of_mem _ (upds_find h)

theorem apart_inj : ∀ {u : List (Option Id)} {i j : Nat} {id : Id}, apartIds u → u[i]? = some (some id) → u[j]? = some (some id) → i = j
  | [], i, j, id, _, h, _ => by simp at h
  | x :: u, i, j, id, ha, h1, h2 => by
    have hu : apartIds u := by cases x with | none => exact ha | some _ => exact ha.2
    cases i with
    | zero =>
      cases j with
      | zero => rfl
      | succ j =>
        simp at h1 h2
        subst h1
        exact absurd (List.mem_of_getElem? h2) ha.1
    | succ i =>
      cases j with
      | zero =>
        simp at h1 h2
        subst h2
        exact absurd (List.mem_of_getElem? h1) ha.1
      | succ j =>
        have := apart_inj (i := i) (j := j) (id := id) hu (by simpa using h1) (by simpa using h2)
        rw [this]

theorem exp1_rep {S' : Nat → Prop} {L : List (Id × Option Row)} {t k : Nat} {u u1 : List (Option Id)} {x y : PV} {v : Value} (hL : RowsAre st al t 0 u L) (hsub : ∀ p ∈ (thaw1 t k y).2.2, p ∈ L)
    (hu : ∀ (j : Nat) o, u1[j]? = some o → u[k + j]? = some o) (hS : al = true → ∀ b, Stab G ρ st.M w b → S' b) (h : Exp1 al st x y u1) (hx : Rep ρ w (Stab G ρ st.M w) st.M v x) :
    Rep (exRho t u ρ) w S' (noMem.upds L) v (thaw1 t k y).2.1 := by
  have find : ∀ row0, ((t, k), some row0) ∈ L → ∃ row, noMem.upds L (t, k) = some (some row) ∧ ((u[k]? = some none ∧ row.es = []) ∨ ∃ id, u[k]? = some (some id) ∧ id.1 ≠ io ∧ getM st.mem id = some (some row)) := by
    intro row0 hm
    obtain ⟨_, q, hq⟩ := upds_some (M := noMem) L (t, k) ⟨_, hm, rfl⟩
    obtain ⟨k', row, he, _, h⟩ := hL _ (upds_find hq)
    simp only [Prod.mk.injEq, true_and, Nat.zero_add] at he
    obtain ⟨rfl, rfl⟩ := he
    refine ⟨row, hq, ?_⟩
    rcases h with h | ⟨id, h1, h2, h3, _⟩
    · exact .inl h
    · exact .inr ⟨id, h1, h2, h3⟩
  cases x <;> cases y <;> simp only [Exp1] at h
  case any.any => exact rep_any
  case int.int => obtain ⟨rfl, rfl, _⟩ := h; exact rep_int.2 (rep_int.1 hx)
  case bool.bool => obtain ⟨rfl, _⟩ := h; exact rep_bool.2 (rep_bool.1 hx)
  case str.str => obtain ⟨rfl, _⟩ := h; exact rep_str.2 (rep_str.1 hx)
  case nil.olist ty sz es =>
    obtain ⟨rfl, rfl⟩ := h
    obtain ⟨row, h1, h2⟩ := find ⟨ty, sz, [], false⟩ (hsub _ (by simp [thaw1]))
    have hk := hu 0 none rfl
    rw [Nat.add_zero] at hk
    refine (rep_osl h1).2 ?_
    simp only [exRho, if_true, hk, Option.bind_some, Option.bind_none]
    exact ⟨rep_nil.1 hx, rfl, rfl⟩
  case osl.olist id o n ty sz es =>
    obtain ⟨rfl, hid, rfl, _, hM, rfl⟩ := h
    obtain ⟨row, h1, h2⟩ := find ⟨ty, sz, es, false⟩ (hsub _ (by simp [thaw1]))
    have hk := hu 0 (some id) rfl
    rw [Nat.add_zero] at hk
    have hrow : row = ⟨ty, sz, es, false⟩ := by
      rcases h2 with ⟨h2, _⟩ | ⟨id', h2, _, h3⟩
      · rw [hk] at h2; cases h2
      · rw [hk] at h2
        injection h2 with h2
        injection h2 with h2
        subst h2
        rw [hM] at h3
        injection h3 with h3
        injection h3 with h3
        exact h3.symm
    subst hrow
    refine (rep_osl h1).2 ?_
    have := (rep_osl (M := st.M) hM).1 hx
    simp only [exRho, if_true, hk, Option.bind_some]
    exact this
  case list.list =>
    obtain ⟨ha, rfl, rfl, _⟩ := h
    obtain ⟨a, cap, e, hc, hh⟩ := rep_list.1 hx
    exact rep_list.2 ⟨a, cap, e, hc, fun hne => let ⟨ad, h1, h2, h3⟩ := hh hne; ⟨ad, h1, hS ha _ h2, fun i el hi => ⟨(h3 i el hi).1, (h3 i el hi).2.mono (by rw [add_block]; exact h2) fun b hb => ⟨hS ha b hb, rfl⟩⟩⟩⟩
  case ptr.ptr =>
    obtain ⟨ha, rfl, _⟩ := h
    obtain ⟨ad, e, h1, h2⟩ := rep_ptr.1 hx
    exact rep_ptr.2 ⟨ad, e, hS ha _ h1, h2.mono h1 fun b hb => ⟨hS ha b hb, rfl⟩⟩

theorem expL_rep {S' : Nat → Prop} {L : List (Id × Option Row)} {t : Nat} {u : List (Option Id)} (hL : RowsAre st al t 0 u L) (hS : al = true → ∀ b, Stab G ρ st.M w b → S' b) : ∀ (xs ys : List PV) (k : Nat) (u1 : List (Option Id)),
    (∀ p ∈ (thawL t k ys).2.2, p ∈ L) → (∀ (j : Nat) o, u1[j]? = some o → u[k + j]? = some o) → ExpL al st xs ys u1 → xs.length = (thawL t k ys).2.1.length ∧
    ∀ (j : Nat) x v, xs[j]? = some x → Rep ρ w (Stab G ρ st.M w) st.M v x → ∃ y, (thawL t k ys).2.1[j]? = some y ∧ Rep (exRho t u ρ) w S' (noMem.upds L) v y
  | [], [], k, u1, _, _, _ => ⟨rfl, fun j x v h => by simp at h⟩
  | x :: xs, y :: ys, k, u1, hsub, hu, h => by
    obtain ⟨v1, v2, h1, h2, rfl⟩ := h
    obtain ⟨_, _, g3⟩ := exp1_thaw t k h1
    obtain ⟨g6, g7, g8⟩ := g3 ys
    rw [g8] at hsub
    rw [g7]
    obtain ⟨i1, i2⟩ := expL_rep hL hS xs ys (k + v1.length) v2 (fun p hp => hsub p (List.mem_append_right _ hp)) (fun j o hj => by
      rw [Nat.add_assoc]
      exact hu _ o (by rw [List.getElem?_append_right (by omega)]; rw [← hj]; congr 1; omega)) h2
    refine ⟨by simp [i1], fun j z v hz hv => ?_⟩
    cases j with
    | zero =>
      simp at hz
      subst hz
      exact ⟨_, rfl, exp1_rep hL (fun p hp => hsub p (List.mem_append_left _ hp)) (fun j o hj => hu j o (by rw [List.getElem?_append_left (List.getElem?_eq_some_iff.1 hj).1]; exact hj)) hS h1 hv⟩
    | succ j => exact i2 j z v (by simpa using hz) hv

theorem comps_of_exp {S' : Nat → Prop} {M' : Mem} {ρ' : Id → Option (Nat × Nat)} {xs ys : List PV} {cs : Array Value} (hl : xs.length = ys.length)
    (h : ∀ (j : Nat) x v, xs[j]? = some x → Rep ρ w (Stab G ρ st.M w) st.M v x → ∃ y, ys[j]? = some y ∧ Rep ρ' w S' M' v y) (hc : Comps ρ w (Stab G ρ st.M w) st.M cs xs) : Comps ρ' w S' M' cs ys := by
  refine ⟨hc.1.trans hl, fun j y hy => ?_⟩
  have hj : j < xs.length := by rw [hl]; exact (List.getElem?_eq_some_iff.1 hy).1
  obtain ⟨c, h1, h2⟩ := hc.2 j xs[j] (List.getElem?_eq_getElem hj)
  obtain ⟨y', h3, h4⟩ := h j xs[j] c (List.getElem?_eq_getElem hj) h2
  rw [hy] at h3
  injection h3 with h3
  subst h3
  exact ⟨c, h1, h4⟩

theorem exp2_rep {S' : Nat → Prop} {L : List (Id × Option Row)} {t k : Nat} {u u1 : List (Option Id)} {x y : PV} {v : Value} (hL : RowsAre st al t 0 u L) (hsub : ∀ p ∈ (thaw1 t k y).2.2, p ∈ L)
    (hu : ∀ (j : Nat) o, u1[j]? = some o → u[k + j]? = some o) (hS : al = true → ∀ b, Stab G ρ st.M w b → S' b) (h : Exp2 al st x y u1) (hx : Rep ρ w (Stab G ρ st.M w) st.M v x) :
    Rep (exRho t u ρ) w S' (noMem.upds L) v (thaw1 t k y).2.1 := by
  cases x
  case agg xs =>
    cases y
    case agg ys =>
      simp only [Exp2] at h
      obtain ⟨cs, rfl, hc⟩ := rep_agg.1 hx
      obtain ⟨g1, g2⟩ := expL_rep hL hS xs ys k u1 hsub hu h
      exact rep_agg.2 ⟨cs, rfl, comps_of_exp g1 g2 hc⟩
    all_goals simp only [Exp2, Exp1] at h
  all_goals
    simp only [Exp2] at h
    exact exp1_rep hL hsub hu hS h hx

theorem expT_rep {S' : Nat → Prop} {L : List (Id × Option Row)} {t : Nat} {u : List (Option Id)} (hL : RowsAre st al t 0 u L) (hS : al = true → ∀ b, Stab G ρ st.M w b → S' b) : ∀ (xs ys : List PV) (k : Nat) (u1 : List (Option Id)),
    (∀ p ∈ (thawT t k ys).2.2, p ∈ L) → (∀ (j : Nat) o, u1[j]? = some o → u[k + j]? = some o) → ExpT al st xs ys u1 → xs.length = (thawT t k ys).2.1.length ∧
    ∀ (j : Nat) x v, xs[j]? = some x → Rep ρ w (Stab G ρ st.M w) st.M v x → ∃ y, (thawT t k ys).2.1[j]? = some y ∧ Rep (exRho t u ρ) w S' (noMem.upds L) v y
  | [], [], k, u1, _, _, _ => ⟨rfl, fun j x v h => by simp at h⟩
  | x :: xs, y :: ys, k, u1, hsub, hu, h => by
    obtain ⟨v1, v2, h1, h2, rfl⟩ := h
    obtain ⟨_, g2⟩ := exp2_thaw t k h1
    simp only [thawT] at hsub ⊢
    rw [g2] at hsub ⊢
    obtain ⟨i1, i2⟩ := expT_rep hL hS xs ys (k + v1.length) v2 (fun p hp => hsub p (List.mem_append_right _ hp)) (fun j o hj => by
      rw [Nat.add_assoc]
      exact hu _ o (by rw [List.getElem?_append_right (by omega)]; rw [← hj]; congr 1; omega)) h2
    refine ⟨by simp [i1], fun j z v hz hv => ?_⟩
    cases j with
    | zero =>
      simp at hz
      subst hz
      exact ⟨_, rfl, exp2_rep hL (fun p hp => hsub p (List.mem_append_left _ hp)) (fun j o hj => hu j o (by rw [List.getElem?_append_left (List.getElem?_eq_some_iff.1 hj).1]; exact hj)) hS h1 hv⟩
    | succ j => exact i2 j z v (by simpa using hz) hv

theorem exp_rep {S' : Nat → Prop} {t : Nat} {u : List (Option Id)} {x y : PV} {v : Value} (hS : al = true → ∀ b, Stab G ρ st.M w b → S' b) (h : Exp al st x y u) (hx : Rep ρ w (Stab G ρ st.M w) st.M v x) :
    Rep (exRho t u ρ) w S' (noMem.upds (thaw t y).2) v (thaw t y).1 := by
  have hL := exp_thaw t h
  have huu : ∀ (j : Nat) o, u[j]? = some o → u[0 + j]? = some o := fun j o hj => by rw [Nat.zero_add]; exact hj
  cases x
  case tuple xs =>
    cases y
    case tuple ys =>
      simp only [Exp] at h
      obtain ⟨cs, rfl, hc⟩ := rep_tuple.1 hx
      obtain ⟨g1, g2⟩ := expT_rep hL hS xs ys 0 u (fun p hp => hp) huu h
      exact rep_tuple.2 ⟨cs, rfl, comps_of_exp g1 g2 hc⟩
    all_goals simp only [Exp, Exp2, Exp1] at h
  all_goals
    cases y
    case tuple ys => simp only [Exp, Exp2, Exp1] at h
    all_goals
      simp only [Exp] at h
      exact exp2_rep hL (fun p hp => hp) huu hS h hx
end
end Go.Vs
