/- VALUE SEMANTICS, 26: own rows under other names; results of any number of parts; a call's rows found by looking. -/
import Derived.Test.YthjlolbooehhcaaVs24
set_option linter.unusedVariables false
set_option linter.unusedSimpArgs false
namespace Go.Vs

def idEq (a b : Id) : Bool := Nat.beq a.1 b.1 && Nat.beq a.2 b.2
theorem idEq_iff {a b : Id} : idEq a b = true ↔ a = b := by
  unfold idEq
  rw [Bool.and_eq_true]
  constructor
  · rintro ⟨h1, h2⟩
    exact Prod.ext (Nat.eq_of_beq_eq_true h1) (Nat.eq_of_beq_eq_true h2)
  · rintro rfl
    exact ⟨Nat.beq_refl _, Nat.beq_refl _⟩
/-- A list of names: the new one, the old one. -/
def oldOf : List (Id × Id) → Id → Id
  | [], id => id
  | (a, b) :: r, id => cond (idEq a id) b (oldOf r id)
def subRow (f : Id → Id) : Option Row → Option Row
  | none => none
  | some r => some ⟨r.ty, r.sz, cond r.bx (r.es.map (·.map (subD 5 f))) r.es, r.bx⟩
def injB (f : Id → Id) (l : List Id) : Bool := l.all fun a => l.all fun b => !(idEq (f a) (f b)) || idEq a b
def ioB (f : Id → Id) (l : List Id) : Bool := l.all fun a => (!Nat.beq a.1 io && !Nat.beq (f a).1 io) || idEq (f a) a

def WeakerR (f : Id → Id) (st st' : St) : Prop :=
  allL (fun p : Nat × PV => getE st.env p.1 = subD 5 f p.2 ∧ refsD 5 (st'.mem.map (·.1)) p.2 = true) st'.env ∧
  allL (fun q : Id × Option Row => getM st.mem (f q.1) = some (subRow f q.2) ∧ (match q.2 with
    | some r => r.bx = true → allL (fun e => allL (fun u => refsD 5 (st'.mem.map (·.1)) u = true) e) r.es
    | none => True)) st'.mem ∧ injB f (st'.mem.map (·.1)) = true ∧ ioB f (st'.mem.map (·.1)) = true

section
variable {G : Nat → Prop} {w0 : World} {X : List (Option (Nat × Nat))} {N : Nat}
theorem rep_sub {f : Id → Id} {ρ : Id → Option (Nat × Nat)} {w : World} {S S' : Nat → Prop} {M M' : Mem} (ids : List Id) (hS : ∀ b, S b → S' b)
    (hM : ∀ id, (ids.any fun k => Nat.beq k.1 id.1 && Nat.beq k.2 id.2) = true → ∃ x, M' id = some x ∧ M (f id) = some (subRow f x)) :
    ∀ (d : Nat) (x : PV) (v : Value), refsD d ids x = true → Rep ρ w S M v (subD d f x) → Rep (fun id => ρ (f id)) w S' M' v x
  | 0, _, _, h, _ => by cases h
  | d + 1, x, v, h, hx => by
    have comps : ∀ (xs : List PV) (cs : Array Value), xs.all (refsD d ids) = true → Comps ρ w S M cs (xs.map (subD d f)) → Comps (fun id => ρ (f id)) w S' M' cs xs := fun xs cs ha hc =>
      ⟨by rw [hc.1, List.length_map], fun j u hu => by
        obtain ⟨c, h1, h2⟩ := hc.2 j (subD d f u) (by rw [List.getElem?_map, hu]; rfl)
        exact ⟨c, h1, rep_sub ids hS hM d u c (List.all_eq_true.1 ha u (List.mem_of_getElem? hu)) h2⟩⟩
    cases x <;> simp only [refsD] at h <;> simp only [subD] at hx
    case any => exact rep_any
    case int => exact rep_int.2 (rep_int.1 hx)
    case bool => exact rep_bool.2 (rep_bool.1 hx)
    case str => exact rep_str.2 (rep_str.1 hx)
    case nil => exact rep_nil.2 (rep_nil.1 hx)
    case olist => exact absurd hx rep_olist
    case agg xs => obtain ⟨cs, rfl, hc⟩ := rep_agg.1 hx; exact rep_agg.2 ⟨cs, rfl, comps xs cs h hc⟩
    case tuple xs => obtain ⟨cs, rfl, hc⟩ := rep_tuple.1 hx; exact rep_tuple.2 ⟨cs, rfl, comps xs cs h hc⟩
    case fn g a b =>
      obtain ⟨p, q, rfl, h1, h2⟩ := rep_fn.1 hx
      rw [Bool.and_eq_true] at h
      exact rep_fn.2 ⟨p, q, rfl, comps _ _ h.1 h1, comps _ _ h.2 h2⟩
    case list sz es =>
      obtain ⟨a, cap, e, hc, hh⟩ := rep_list.1 hx
      exact rep_list.2 ⟨a, cap, e, hc, fun hne => let ⟨ad, h1, h2, h3⟩ := hh hne; ⟨ad, h1, hS _ h2, fun i el hi => ⟨(h3 i el hi).1, fun j u hu => let ⟨c, g1, g2, g3⟩ := (h3 i el hi).2 j u hu; ⟨c, g1, g2, g3.pureMono fun b hb => ⟨hS b hb, rfl⟩⟩⟩⟩⟩
    case ptr cs =>
      obtain ⟨ad, e, h1, hc⟩ := rep_ptr.1 hx
      exact rep_ptr.2 ⟨ad, e, hS _ h1, fun j u hu => let ⟨c, g1, g2, g3⟩ := hc j u hu; ⟨c, g1, g2, g3.pureMono fun b hb => ⟨hS b hb, rfl⟩⟩⟩
    case own id i off =>
      obtain ⟨x, hx1, hx2⟩ := hM id h
      intro d'
      have := hx d'
      cases d' with
      | zero => trivial
      | succ d' =>
        simp only [RepD, hx1, hx2] at this ⊢
        cases x with
        | none => trivial
        | some r => simp only [subRow] at this ⊢; cases hρ : ρ (f id) with
          | none => simp only [OwnOk, hρ] at this
          | some bz => simp only [OwnOk, hρ] at this ⊢; exact this
    case osl id o n =>
      obtain ⟨x, hx1, hx2⟩ := hM id h
      intro d'
      have := hx d'
      cases d' with
      | zero => trivial
      | succ d' =>
        simp only [RepD, hx1, hx2] at this ⊢
        cases x with
        | none => trivial
        | some r =>
          simp only [subRow] at this ⊢
          have hl : (cond r.bx (r.es.map (·.map (subD 5 f))) r.es).length = r.es.length := by cases r.bx <;> simp
          cases hρ : ρ (f id) with
          | none => simp only [OslOk, hρ] at this ⊢; exact this
          | some bz => simp only [OslOk, hρ, hl] at this ⊢; exact this
theorem WeakerR.ent {f : Id → Id} {st st' : St} (h : WeakerR f st st') : Ent st st' := by
  intro G w0 X N a w hR
  obtain ⟨ρ, hW, hdef, hs, hV⟩ := hR
  obtain ⟨hE, hM, hinj, hio⟩ := h
  have hany : ∀ id, ((st'.mem.map (·.1)).any fun k => Nat.beq k.1 id.1 && Nat.beq k.2 id.2) = true → ∃ x, st'.M id = some x ∧ st.M (f id) = some (subRow f x) := fun id hid => by
    obtain ⟨x, hx⟩ := getM_any hid
    exact ⟨x, hx, (allL_mem hM _ (getM_mem hx)).1⟩
  have hmem : ∀ {id x}, st'.M id = some x → id ∈ st'.mem.map (·.1) := fun hx => List.mem_map.2 ⟨_, getM_mem hx, rfl⟩
  have hlive : ∀ {id r}, st'.M id = some (some r) → st.M (f id) = some (subRow f (some r)) := fun hx => (allL_mem hM _ (getM_mem hx)).1
  have hfi : ∀ {a b x y}, st'.M a = some x → st'.M b = some y → f a = f b → a = b := fun {a b x y} ha hb he => by
    have h1 := List.all_eq_true.1 (List.all_eq_true.1 hinj a (hmem ha)) b (hmem hb)
    rw [Bool.or_eq_true] at h1
    rcases h1 with h1 | h1
    · rw [idEq_iff.2 he] at h1; cases h1
    · exact idEq_iff.1 h1
  have hfio : ∀ {a x}, st'.M a = some x → (a.1 ≠ io ∧ (f a).1 ≠ io) ∨ f a = a := fun {a x} ha => by
    have h1 := List.all_eq_true.1 hio a (hmem ha)
    rw [Bool.or_eq_true, Bool.and_eq_true] at h1
    rcases h1 with ⟨h1, h2⟩ | h1
    · refine .inl ⟨fun e => ?_, fun e => ?_⟩
      · rw [e] at h1; simp at h1
      · rw [e] at h2; simp at h2
    · exact .inr (idEq_iff.1 h1)
  have hS : ∀ b, Stab G ρ st.M w b → Stab G (fun id => ρ (f id)) st'.M w b := fun b hb => ⟨hb.1, fun id r z hl => hb.2.1 (f id) _ z (hlive hl), hb.2.2⟩
  refine ⟨fun id => ρ (f id), ⟨?_, ?_, ?_, hW.keep, hW.good⟩, hdef, hs, fun t => ?_⟩
  · intro i1 i2 r1 r2 b z1 z2 h1 h2 k1 k2
    exact hfi h1 h2 (hW.inj _ _ _ _ b z1 z2 (hlive h1) (hlive h2) k1 k2)
  · intro id r hl
    have hr := hW.row _ _ (hlive hl)
    show RowOk G _ w _ r (ρ (f id))
    cases hb : ρ (f id) with
    | none =>
      rw [hb] at hr
      obtain ⟨h1, h2⟩ := hr
      simp only at h1 h2
      refine ⟨?_, h2⟩
      rw [h2] at h1
      exact h1
    | some bz =>
      obtain ⟨b, z⟩ := bz
      rw [hb] at hr
      obtain ⟨cur, C, g1, g2, g3, g4, g5, g6⟩ := hr
      have hlen : (cond r.bx (r.es.map (·.map (subD 5 f))) r.es).length = r.es.length := by cases r.bx <;> simp
      simp only [hlen] at g1 g2 g4 g5 g6
      refine ⟨cur, C, g1, g2, g3, g4, g5, fun i e hi => ?_⟩
      cases hbx : r.bx with
      | false =>
        simp only [hbx, cond_false] at g6
        refine ⟨(g6 i e hi).1, fun j u hu => ?_⟩
        obtain ⟨c, k1, k2, k3⟩ := (g6 i e hi).2 j u hu
        simp only [Bool.false_eq_true, if_false] at k3 ⊢
        exact ⟨c, k1, k2, k3.pureMono fun b hb => ⟨hS b hb, rfl⟩⟩
      | true =>
        simp only [hbx, cond_true] at g6
        obtain ⟨q1, q2⟩ := g6 i (e.map (subD 5 f)) (by rw [List.getElem?_map, hi]; rfl)
        refine ⟨by rw [← q1, List.length_map], fun j u hu => ?_⟩
        obtain ⟨c, k1, k2, k3⟩ := q2 j (subD 5 f u) (by rw [List.getElem?_map, hu]; rfl)
        simp only [if_true] at k3 ⊢
        have h3 := (allL_mem hM _ (getM_mem hl)).2
        simp only at h3
        exact ⟨c, k1, k2, rep_sub _ hS hany 5 u c (allL_mem (allL_mem (h3 hbx) e (List.mem_of_getElem? hi)) u (List.mem_of_getElem? hu)) k3⟩
  · intro id r hl
    have hn := hW.new _ _ (hlive hl)
    show if id.1 = io then X[id.2]? = some (ρ (f id)) else ∀ b z, ρ (f id) = some (b, z) → w0.heap.size ≤ b
    rcases hfio hl with ⟨h1, h2⟩ | h1
    · rw [if_neg h2] at hn
      rw [if_neg h1]
      exact hn
    · rw [h1] at hn ⊢
      exact hn
  · show Rep _ w _ _ _ (getE st'.env t)
    rcases getE_mem (l := st'.env) (t := t) with he | he
    · rw [he]; exact rep_any
    · obtain ⟨h1, h2⟩ := allL_mem hE _ he
      have := hV t
      simp only at h1 h2
      rw [show st.V t = subD 5 f (getE st'.env t) from h1] at this
      exact rep_sub _ hS hany 5 _ _ h2 this
end
/-- The new names and the old ones, by looking. -/
def renO (env : List (Nat × PV)) : List (Nat × PV) → List (Id × Id) → Option (List (Id × Id))
  | [], acc => some acc
  | (t, .osl a _ _) :: r, acc => match getE env t with
    | .osl b _ _ => renO env r ((a, b) :: acc)
    | _ => none
  | (t, .own a _ _) :: r, acc => match getE env t with
    | .own b _ _ => renO env r ((a, b) :: acc)
    | _ => none
  | _ :: r, acc => renO env r acc
section
variable {P : Program} {st : St} {Q : Exit → St → Prop} {x y z : Code}
theorem v_loopR {α : Type} (mk : α → St) (R : α → Prop) (m : α → Nat) (a0 : α) {ren : List (Id × Id)} (hren : renO st.env (mk a0).env [] = some ren) (hw : WeakerR (oldOf ren) st (mk a0)) (hR : R a0)
    (h : ∀ a, R a → vwp P x (mk a) (loopQ (fun s => ∃ a', s = mk a' ∧ R a' ∧ m a' < m a) (fun _ => 0) 1 Q)) : vwp P (.loop x) st Q := v_loopE mk R m a0 hw.ent hR h
theorem q_loopR {α : Type} {mk : α → St} {R : α → Prop} {m : α → Nat} {n : Nat} (a : α) {ren : List (Id × Id)} (hren : renO st.env (mk a).env [] = some ren) (hw : WeakerR (oldOf ren) st (mk a)) (hR : R a) (hm : m a < n) :
    loopQ (fun s => ∃ a', s = mk a' ∧ R a' ∧ m a' < n) (fun _ => 0) 1 Q .normal st := q_loopE a hw.ent hR hm
end

/- Results of any number of parts. -/
section
variable {P : Program} {st : St} {al : Bool} {xs ys : List PV} {u u1 : List (Option Id)}
def resO (st : St) : List ResultVar → Option (List PV)
  | [] => some []
  | .tmp t :: r => match lookE st.env t, resO st r with
    | some v, some vs => some (v :: vs)
    | _, _ => none
  | .cell t _ :: r => match lookE st.env t, resO st r with
    | some (.own id 0 0), some vs => match getM st.mem id with
      | some (some row) => match row.es[0]? with
        | some cs => some (.agg cs :: vs)
        | none => none
      | _ => none
    | _, _ => none
def cellsT (P : Program) : List ResultVar → List PV → Prop
  | .cell _ T :: r, x :: xs => TAgg P T x.cells.length ∧ cellsT P r xs
  | .tmp _ :: r, _ :: xs => cellsT P r xs
  | _, _ => True
theorem resO_ok : ∀ {rs : List ResultVar} {xs : List PV}, resO st rs = some xs → cellsT P rs xs → AllRes P st rs xs
  | [], xs, h, _ => by cases h; trivial
  | .tmp t :: r, xs, h, hc => by
    simp only [resO] at h
    cases h1 : lookE st.env t with
    | none => rw [h1] at h; cases h
    | some v =>
      cases h2 : resO st r with
      | none => rw [h1, h2] at h; cases h
      | some vs =>
        rw [h1, h2] at h
        cases h
        exact ⟨lookE_ok h1, resO_ok h2 hc⟩
  | .cell t T :: r, xs, h, hc => by
    simp only [resO] at h
    split at h
    · rename_i id vs h1 h2
      split at h
      · rename_i row h3
        split at h
        · rename_i cs h4
          cases h
          exact ⟨⟨id, row, _, lookE_ok h1, h3, h4, rfl, rfl, hc.1⟩, resO_ok h2 hc.2⟩
        · cases h
      · cases h
    · cases h
theorem et_end : ExpT al st [] [] [] := rfl
theorem et_int {k k' : IntKind} {n n' : Int} (hk : k = k') (h : n = n') (ht : ExpT al st xs ys u) : ExpT al st (.int k n :: xs) (.int k' n' :: ys) u := ⟨[], u, ⟨hk, h, rfl⟩, ht, rfl⟩
theorem et_bool {n n' : Bool} (h : n = n') (ht : ExpT al st xs ys u) : ExpT al st (.bool n :: xs) (.bool n' :: ys) u := ⟨[], u, ⟨h, rfl⟩, ht, rfl⟩
theorem et_str {n n' : ByteArray} (h : n = n') (ht : ExpT al st xs ys u) : ExpT al st (.str n :: xs) (.str n' :: ys) u := ⟨[], u, ⟨h, rfl⟩, ht, rfl⟩
theorem et_nil {T sz : Nat} {es : List (List PV)} (h : es = []) (ht : ExpT al st xs ys u) : ExpT al st (.nil :: xs) (.olist T sz es :: ys) (none :: u) := ⟨[none], u, ⟨h, rfl⟩, ht, rfl⟩
theorem et_list {id : Id} {T T' sz sz' n : Nat} {es es' : List (List PV)} (hm : getM st.mem id = some (some ⟨T, sz, es, false⟩)) (hio : id.1 ≠ io) (hT : T = T') (hz : sz = sz') (hn : n = es.length) (hf : ∀ e ∈ es, ∀ c ∈ e, c.flat = true) (hes : es = es')
    (ht : ExpT al st xs ys u) : ExpT al st (.osl id 0 n :: xs) (.olist T' sz' es' :: ys) (some id :: u) := by
  subst hT hz hes hn
  exact ⟨[some id], u, ⟨rfl, hio, rfl, .inr hf, hm, rfl⟩, ht, rfl⟩
theorem et_agg {cs ds : List PV} (h : ExpL al st cs ds u1) (ht : ExpT al st xs ys u) : ExpT al st (.agg cs :: xs) (.agg ds :: ys) (u1 ++ u) := ⟨u1, u, h, ht, rfl⟩
theorem el_end : ExpL al st [] [] [] := rfl
theorem el_int {k k' : IntKind} {n n' : Int} (hk : k = k') (h : n = n') (ht : ExpL al st xs ys u) : ExpL al st (.int k n :: xs) (.int k' n' :: ys) u := ⟨[], u, ⟨hk, h, rfl⟩, ht, rfl⟩
theorem el_bool {n n' : Bool} (h : n = n') (ht : ExpL al st xs ys u) : ExpL al st (.bool n :: xs) (.bool n' :: ys) u := ⟨[], u, ⟨h, rfl⟩, ht, rfl⟩
theorem el_str {n n' : ByteArray} (h : n = n') (ht : ExpL al st xs ys u) : ExpL al st (.str n :: xs) (.str n' :: ys) u := ⟨[], u, ⟨h, rfl⟩, ht, rfl⟩
theorem el_nil {T sz : Nat} {es : List (List PV)} (h : es = []) (ht : ExpL al st xs ys u) : ExpL al st (.nil :: xs) (.olist T sz es :: ys) (none :: u) := ⟨[none], u, ⟨h, rfl⟩, ht, rfl⟩
theorem el_list {id : Id} {T T' sz sz' n : Nat} {es es' : List (List PV)} (hm : getM st.mem id = some (some ⟨T, sz, es, false⟩)) (hio : id.1 ≠ io) (hT : T = T') (hz : sz = sz') (hn : n = es.length) (hf : ∀ e ∈ es, ∀ c ∈ e, c.flat = true) (hes : es = es')
    (ht : ExpL al st xs ys u) : ExpL al st (.osl id 0 n :: xs) (.olist T' sz' es' :: ys) (some id :: u) := by
  subst hT hz hes hn
  exact ⟨[some id], u, ⟨rfl, hio, rfl, .inr hf, hm, rfl⟩, ht, rfl⟩
theorem ret_t {fn : Func} {x y : PV} {rs : List ResultVar} (hrs : fn.results.toList = rs) (hr : resO st rs = some (x :: y :: xs)) (hc : cellsT P rs (x :: y :: xs)) (he : ExpT al st (x :: y :: xs) ys u) (ha : apartIds u) :
    RetPost P fn al [] (Ret (.tuple ys)) .ret st := ret_of (x :: y :: xs) u (by rw [hrs]; exact resO_ok hr hc) he ha
theorem ret_agg {fn : Func} {cs ds : List PV} {rs : List ResultVar} (hrs : fn.results.toList = rs) (hr : resO st rs = some [.agg cs]) (hc : cellsT P rs [.agg cs]) (he : ExpL al st cs ds u) (ha : apartIds u) : RetPost P fn al [] (Ret (.agg ds)) .ret st :=
  ret_of [.agg cs] u (by rw [hrs]; exact resO_ok hr hc) he ha
theorem ret_nil {fn : Func} {t : Nat} {T sz : Nat} {es : List (List PV)} (hr : fn.results = #[.tmp t]) (hv : lookE st.env t = some .nil) (h : es = []) : RetPost P fn al [] (Ret (.olist T sz es)) .ret st :=
  ret_of [.nil] [none] (by rw [hr]; exact ⟨lookE_ok hv, trivial⟩) ⟨h, rfl⟩ trivial
end

/- A call: the own rows that it reads. -/
def rdL (f : PV → PV → List Id → Option (List Id)) : List PV → List PV → List Id → Option (List Id)
  | x :: xs, y :: ys, acc => match f x y acc with
    | some acc' => rdL f xs ys acc'
    | none => none
  | _, _, acc => some acc
def rdO (fnb : Bool) : Nat → List (Id × Option Row) → PV → PV → List Id → Option (List Id)
  | 0, _, _, _, _ => none
  | d + 1, mem, x, y, acc => match x, y with
    | .osl id _ _, .list _ _ => some (id :: acc)
    | .own id i off, .ptr cs => match getM mem id with
      | some (some r) => match r.es[i]? with
        | some e => rdL (rdO false d mem) (e.drop off) cs (id :: acc)
        | none => none
      | _ => none
    | .agg xs, .agg ys => rdL (rdO fnb d mem) xs ys acc
    | .fn _ a b, .fn _ a' b' => cond fnb (match rdL (rdO fnb d mem) a a' acc with
      | some acc' => rdL (rdO fnb d mem) b b' acc'
      | none => none) (some acc)
    | _, _ => some acc
section
variable {P : Program} {ops : Array Oper} {draw : Bool} {rest : List Oper} {env : List (Nat × PV)} {mem : List (Id × Option Row)} {tr : List (List Id × List Id)} {K : St → List (List Id × List Id) → Prop}
  {d : Nat} {ty : TypeId} {pos : String} {af : Array Edge} {x y c : Operand} {T yT : TypeId}
theorem x_callG (fnb : Bool) {f : Operand} {args : List Operand} {ats : Array TypeId} {g : FuncId} {fi ca xs ys : List PV} {r v : PV} {mem' : List (Id × Option Row)} {rd : List Id} (hC : Con P g ys r) (hf : ev (getE env) f = .fn g fi ca)
    (hxs : fi ++ args.map (ev (getE env)) ++ ca = xs) (hrd : rdL (rdO fnb 6 mem) xs ys [] = some rd) (hsnap : AllR (SnapD 6 (getM mem) [] rd) xs ys) (hfree : freeB mem d = true) (hth : thaw d r = (v, mem'))
    (hk : exec P ops draw rest ⟨(d, v) :: env, mem' ++ mem⟩ ((rd, (d, 0) :: mem'.map (·.1)) :: tr) K) : exec P ops draw (⟨some d, .call ⟨.value f, args.toArray, ats⟩, ty, pos, af, none⟩ :: rest) ⟨env, mem⟩ tr K :=
  x_call rd v hC hf hxs hsnap hfree hth hk
end
end Go.Vs
