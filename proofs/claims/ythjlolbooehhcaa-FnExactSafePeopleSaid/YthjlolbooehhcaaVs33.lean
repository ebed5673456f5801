/- VALUE SEMANTICS, 33: own rows that are given up: results read as lists; a state in which a row is only read from now on. -/
import Derived.Test.YthjlolbooehhcaaVs32
set_option linter.unusedVariables false
set_option linter.unusedSimpArgs false
namespace Go.Vs

def frz1 : PV → PV
  | .olist _ sz es => .list sz es
  | x => x
def frz2 : PV → PV
  | .agg cs => .agg (cs.map frz1)
  | x => frz1 x
def frz : PV → PV
  | .tuple vs => .tuple (vs.map frz2)
  | x => frz2 x
def clean1 : PV → Bool
  | .own _ _ _ | .osl _ _ _ | .agg _ | .tuple _ | .fn _ _ _ => false
  | _ => true
def clean2 : PV → Bool
  | .agg cs => cs.all clean1
  | x => clean1 x
def clean : PV → Bool
  | .tuple vs => vs.all clean2
  | x => clean2 x

theorem thawL_frz (t : Nat) : ∀ (xs : List PV) (k : Nat), thawL t k (xs.map frz1) = (k, xs.map frz1, [])
  | [], k => rfl
  | x :: r, k => by
    have h := thawL_frz t r k
    cases x <;> simp only [List.map_cons, frz1, thawL, h]
theorem thaw1_frz (t k : Nat) (x : PV) : thaw1 t k (frz2 x) = (k, frz2 x, []) := by
  cases x <;> simp only [frz2, frz1, thaw1, thawL_frz]
theorem thawT_frz (t : Nat) : ∀ (xs : List PV) (k : Nat), thawT t k (xs.map frz2) = (k, xs.map frz2, [])
  | [], k => rfl
  | x :: r, k => by
    simp only [List.map_cons, thawT, thaw1_frz, thawT_frz t r k, List.nil_append]
theorem thaw_frz (t : Nat) (x : PV) : thaw t (frz x) = (frz x, []) := by
  have h : ∀ y : PV, (∀ vs, frz2 y ≠ .tuple vs) → thaw t (frz2 y) = (frz2 y, []) := by
    intro y hy
    have h1 := thaw1_frz t 0 y
    unfold thaw
    split
    · rename_i vs he; exact absurd he (hy vs)
    · simp only [h1]
  cases x with
  | tuple vs => simp only [frz, thaw, thawT_frz]
  | agg cs => exact h (.agg cs) (fun vs => by simp [frz2])
  | olist ty sz es => exact h (.olist ty sz es) (fun vs => by simp [frz2, frz1])
  | any => exact h .any (fun vs => by simp [frz2, frz1])
  | int k n => exact h (.int k n) (fun vs => by simp [frz2, frz1])
  | bool b => exact h (.bool b) (fun vs => by simp [frz2, frz1])
  | str s => exact h (.str s) (fun vs => by simp [frz2, frz1])
  | nil => exact h .nil (fun vs => by simp [frz2, frz1])
  | fn f a b => exact h (.fn f a b) (fun vs => by simp [frz2, frz1])
  | list sz es => exact h (.list sz es) (fun vs => by simp [frz2, frz1])
  | ptr cs => exact h (.ptr cs) (fun vs => by simp [frz2, frz1])
  | own id i off => exact h (.own id i off) (fun vs => by simp [frz2, frz1])
  | osl id o n => exact h (.osl id o n) (fun vs => by simp [frz2, frz1])

/- The rows of a result have names of their own. -/
theorem thawL_keys (t : Nat) : ∀ (xs : List PV) (k : Nat), k ≤ (thawL t k xs).1 ∧ (∀ p ∈ (thawL t k xs).2.2, k ≤ p.1.2 ∧ p.1.2 < (thawL t k xs).1) ∧ ((thawL t k xs).2.2.map (·.1)).Nodup
  | [], k => ⟨Nat.le_refl _, by simp [thawL], by simp [thawL]⟩
  | x :: r, k => by
    have h := thawL_keys t r k
    have h1 := thawL_keys t r (k + 1)
    cases x <;> simp only [thawL] <;> first
      | exact h
      | (refine ⟨by omega, fun p hp => ?_, ?_⟩
         · rcases List.mem_cons.1 hp with rfl | hp
           · exact ⟨Nat.le_refl _, h1.1⟩
           · have := h1.2.1 p hp; omega
         · rw [List.map_cons, List.nodup_cons]
           refine ⟨fun hm => ?_, h1.2.2⟩
           obtain ⟨p, hp, e⟩ := List.mem_map.1 hm
           have := (h1.2.1 p hp).1
           rw [e] at this
           simp only at this
           omega)
theorem thaw1_keys (t k : Nat) (x : PV) : k ≤ (thaw1 t k x).1 ∧ (∀ p ∈ (thaw1 t k x).2.2, k ≤ p.1.2 ∧ p.1.2 < (thaw1 t k x).1) ∧ ((thaw1 t k x).2.2.map (·.1)).Nodup := by
  cases x <;> simp only [thaw1] <;> first
    | exact thawL_keys t _ k
    | (refine ⟨by omega, fun p hp => ?_, by simp⟩
       simp only [List.mem_cons, List.not_mem_nil, or_false] at hp
       subst hp
       exact ⟨Nat.le_refl _, Nat.lt_succ_self _⟩)
    | exact ⟨Nat.le_refl _, fun p hp => by simp at hp, by simp⟩
theorem thawT_keys (t : Nat) : ∀ (xs : List PV) (k : Nat), k ≤ (thawT t k xs).1 ∧ (∀ p ∈ (thawT t k xs).2.2, k ≤ p.1.2 ∧ p.1.2 < (thawT t k xs).1) ∧ ((thawT t k xs).2.2.map (·.1)).Nodup
  | [], k => ⟨Nat.le_refl _, by simp [thawT], by simp [thawT]⟩
  | x :: r, k => by
    have h1 := thaw1_keys t k x
    have h2 := thawT_keys t r (thaw1 t k x).1
    simp only [thawT]
    refine ⟨by omega, fun p hp => ?_, ?_⟩
    · rcases List.mem_append.1 hp with hp | hp
      · have := h1.2.1 p hp; omega
      · have := h2.2.1 p hp; omega
    · rw [List.map_append, List.nodup_append]
      refine ⟨h1.2.2, h2.2.2, fun a ha b hb e => ?_⟩
      obtain ⟨p, hp, rfl⟩ := List.mem_map.1 ha
      obtain ⟨q, hq, rfl⟩ := List.mem_map.1 hb
      have g1 := h1.2.1 p hp
      have g2 := h2.2.1 q hq
      rw [e] at g1
      omega
theorem looks_upds : ∀ (l : List (Id × Option Row)), (l.map (·.1)).Nodup → ∀ p ∈ l, noMem.upds l p.1 = some p.2
  | [], _, p, hp => by simp at hp
  | q :: l, hn, p, hp => by
    rw [List.map_cons, List.nodup_cons] at hn
    simp only [Mem.upds, Mem.set]
    rcases List.mem_cons.1 hp with rfl | hp
    · simp
    · rw [if_neg (fun e => hn.1 (by rw [← e]; exact List.mem_map_of_mem hp))]
      exact looks_upds l hn.2 p hp

theorem thawL_at (t : Nat) : ∀ (xs : List PV) (k : Nat), (thawL t k xs).2.1.length = xs.length ∧ ∀ (j : Nat) x, xs[j]? = some x → ∃ y, (thawL t k xs).2.1[j]? = some y ∧
    ((∃ ty sz es k', x = .olist ty sz es ∧ y = .osl (t, k') 0 es.length ∧ ((t, k'), some ⟨ty, sz, es, false⟩) ∈ (thawL t k xs).2.2) ∨ (y = x ∧ frz1 x = x))
  | [], k => ⟨rfl, fun j x h => by simp at h⟩
  | z :: r, k => by
    have h0 := thawL_at t r k
    have h1 := thawL_at t r (k + 1)
    cases z <;> simp only [thawL] <;> first
      | (refine ⟨by simp [h0.1], fun j x hx => ?_⟩
         cases j with
         | zero => simp at hx; subst hx; exact ⟨_, rfl, .inr ⟨rfl, rfl⟩⟩
         | succ j => exact h0.2 j x (by simpa using hx))
      | (refine ⟨by simp [h1.1], fun j x hx => ?_⟩
         cases j with
         | zero => simp at hx; subst hx; exact ⟨_, rfl, .inl ⟨_, _, _, _, rfl, rfl, by simp⟩⟩
         | succ j =>
           obtain ⟨y, g1, g2⟩ := h1.2 j x (by simpa using hx)
           refine ⟨y, by simpa using g1, ?_⟩
           rcases g2 with ⟨ty, sz, es, k', e1, e2, e3⟩ | g2
           · exact .inl ⟨ty, sz, es, k', e1, e2, by simp [e3]⟩
           · exact .inr g2)
theorem thawT_at (t : Nat) : ∀ (xs : List PV) (k : Nat), (thawT t k xs).2.1.length = xs.length ∧ ∀ (j : Nat) x, xs[j]? = some x → ∃ k', (thawT t k xs).2.1[j]? = some (thaw1 t k' x).2.1 ∧ ∀ p ∈ (thaw1 t k' x).2.2, p ∈ (thawT t k xs).2.2
  | [], k => ⟨rfl, fun j x h => by simp at h⟩
  | z :: r, k => by
    have h1 := thawT_at t r (thaw1 t k z).1
    simp only [thawT]
    refine ⟨by simp [h1.1], fun j x hx => ?_⟩
    cases j with
    | zero => simp at hx; subst hx; exact ⟨k, rfl, fun p hp => List.mem_append_left _ hp⟩
    | succ j =>
      obtain ⟨k', g1, g2⟩ := h1.2 j x (by simpa using hx)
      exact ⟨k', by simpa using g1, fun p hp => List.mem_append_right _ (g2 p hp)⟩

section
variable {P : Program} {G : Nat → Prop} {ρ : Id → Option (Nat × Nat)} {w0 w : World} {X : List (Option (Nat × Nat))} {M M' : Mem} {v : Value}

/-- An own slice, read as a list, where its row is no longer own. -/
theorem osl_given (hW : WRel G ρ w0 X M w) {id : Id} {ty : TypeId} {sz : Nat} {es : List (List PV)} (hM : M id = some (some ⟨ty, sz, es, false⟩)) (hio : id.1 ≠ io)
    (hsub : ∀ b, Stab G ρ M w b → Stab G ρ M' w b) (hoff : ∀ id' r, M' id' = some (some r) → M id' = some (some r) ∧ id' ≠ id) {N : Mem}
    (h : Rep ρ w (Stab G ρ M w) M v (.osl id 0 es.length)) : Rep ρ w (Stab G ρ M' w) N v (.list sz es) := by
  obtain ⟨a, cap, rfl, h1, h2, h3⟩ := osl_cells hW hM rfl h
  refine rep_list.2 ⟨a, cap, rfl, h1, fun hne => ?_⟩
  obtain ⟨b, z, hρ, rfl, g⟩ := h3 (List.length_pos_iff.2 hne)
  refine ⟨_, rfl, ⟨hW.lt hM hρ, fun id' r z' hM' hρ' => ?_, ?_⟩, fun i e hi => ?_⟩
  · obtain ⟨g1, g2⟩ := hoff id' r hM'
    exact g2 (hW.inj _ _ _ _ _ _ _ g1 hM hρ' hρ)
  · have := hW.new id _ hM
    rw [if_neg hio] at this
    exact hW.good b (this b z hρ)
  · have hi' : ((es.drop 0).take es.length)[i]? = some e := by rw [List.drop_zero, List.take_length]; exact hi
    obtain ⟨k1, k2⟩ := g i e hi'
    refine ⟨k1, fun j u hu => ?_⟩
    obtain ⟨c, m1, m2, m3⟩ := k2 j u hu
    exact ⟨c, m1, m2, m3.pureMono fun b hb => ⟨hsub b hb, rfl⟩⟩
theorem rep_clean1 {x : PV} {S S' : Nat → Prop} (hS : ∀ b, S b → S' b) (hc : clean1 x = true) (he : frz1 x = x) (h : Rep ρ w S M v x) : Rep ρ w S' M' v x := by
  cases x <;> simp [clean1] at hc <;> first
    | exact rep_any
    | exact (rep_pure (M' := noMem) (ρ' := ρ) h rfl).pureMono fun b hb => ⟨hS b hb, rfl⟩
    | (simp [frz1] at he; done)

theorem frzL_rep {t : Nat} {xs : List PV} {k : Nat} (hW : WRel G ρ w0 X M w) (hM : ∀ p ∈ (thawL t k xs).2.2, M p.1 = some p.2) (ht : t ≠ io) (hc : xs.all clean1 = true)
    (hsub : ∀ b, Stab G ρ M w b → Stab G ρ noMem w b) {cs : Array Value} (h : Comps ρ w (Stab G ρ M w) M cs (thawL t k xs).2.1) : Comps ρ w (Stab G ρ noMem w) noMem cs (xs.map frz1) := by
  obtain ⟨hl, hat⟩ := thawL_at t xs k
  refine ⟨by rw [h.1, hl, List.length_map], fun j u hu => ?_⟩
  rw [List.getElem?_map] at hu
  cases hx : xs[j]? with
  | none => rw [hx] at hu; cases hu
  | some x =>
    rw [hx] at hu
    injection hu with hu
    subst hu
    obtain ⟨y, h1, h2⟩ := hat j x hx
    obtain ⟨c, h3, h4⟩ := h.2 j y h1
    refine ⟨c, h3, ?_⟩
    rcases h2 with ⟨ty, sz, es, k', rfl, rfl, hm⟩ | ⟨rfl, he⟩
    · exact osl_given hW (hM _ hm) ht hsub (fun _ _ h => by cases h) h4
    · rw [he]
      exact rep_clean1 hsub (List.all_eq_true.1 hc _ (List.mem_of_getElem? hx)) he h4
theorem frz2_rep {t : Nat} {x : PV} {k : Nat} (hW : WRel G ρ w0 X M w) (hM : ∀ p ∈ (thaw1 t k x).2.2, M p.1 = some p.2) (ht : t ≠ io) (hc : clean2 x = true)
    (hsub : ∀ b, Stab G ρ M w b → Stab G ρ noMem w b) (h : Rep ρ w (Stab G ρ M w) M v (thaw1 t k x).2.1) : Rep ρ w (Stab G ρ noMem w) noMem v (frz2 x) := by
  cases x with
  | agg cs =>
    simp only [thaw1] at h hM
    obtain ⟨a, rfl, hcs⟩ := rep_agg.1 h
    exact rep_agg.2 ⟨a, rfl, frzL_rep hW hM ht hc hsub hcs⟩
  | olist ty sz es => exact osl_given hW (hM ((t, k), some ⟨ty, sz, es, false⟩) (by simp [thaw1])) ht hsub (fun _ _ h => by cases h) h
  | any => exact rep_any
  | int _ _ => exact rep_clean1 hsub rfl rfl h
  | bool _ => exact rep_clean1 hsub rfl rfl h
  | str _ => exact rep_clean1 hsub rfl rfl h
  | nil => exact rep_clean1 hsub rfl rfl h
  | list _ _ => exact rep_clean1 hsub rfl rfl h
  | ptr _ => exact rep_clean1 hsub rfl rfl h
  | own _ _ _ => cases hc
  | osl _ _ _ => cases hc
  | tuple _ => cases hc
  | fn _ _ _ => cases hc

/-- A contract whose result is handed over as lists that are only read. -/
theorem ConA.frz {g : FuncId} {ys : List PV} {r : PV} (h : ConA P g ys r) (hc : clean r = true) : ConA P g ys (frz r) := by
  refine ⟨h.1, fun G w X ρ cargs hW hX hC => ?_⟩
  obtain ⟨cb, h2⟩ := h
  refine (h2 G w X ρ cargs hW hX hC).mono fun e w' => ?_
  rintro ⟨v, r', fin, rfl, ⟨rfl, rfl⟩, hl, hf, hR⟩
  refine ⟨v, Go.Vs.frz r', [], rfl, ⟨rfl, rfl⟩, hl, hf, fun t ht => ?_⟩
  obtain ⟨ρ', hR⟩ := hR t ht
  refine ⟨ρ', ?_⟩
  have hio : ioMem (withEs [] ([] : List (List (List PV)))) = noMem := by funext id; simp [ioMem, noMem, withEs]
  have hrel := hR.rel
  rw [hio] at hrel
  have hval := hR.val
  rw [hio] at hval
  have hsub : ∀ b, Stab G ρ' (noMem.upds (thaw t r').2) w' b → Stab G ρ' noMem w' b := fun b hb => ⟨hb.1, fun id r z h => by simp [noMem] at h, hb.2.2⟩
  have hv : Rep ρ' w' (Stab G ρ' (noMem.upds (thaw t r').2) w') (noMem.upds (thaw t r').2) v (thaw t r').1 := hval.mono (fun b hb => ⟨hb.1, rfl⟩) (MLe.refl _ _ _)
  have key : Rep ρ' w' (Stab G ρ' noMem w') noMem v (Go.Vs.frz r') := by
    have one : ∀ x : PV, (∀ p ∈ (thaw1 t 0 x).2.2, (noMem.upds (thaw t r').2) p.1 = some p.2) → clean2 x = true → Rep ρ' w' (Stab G ρ' (noMem.upds (thaw t r').2) w') (noMem.upds (thaw t r').2) v (thaw1 t 0 x).2.1 → Rep ρ' w' (Stab G ρ' noMem w') noMem v (frz2 x) :=
      fun x h1 h2 h3 => frz2_rep hrel h1 ht h2 hsub h3
    cases r' with
    | tuple vs =>
      simp only [thaw] at hv hrel hsub
      obtain ⟨a, rfl, hcs⟩ := rep_tuple.1 hv
      obtain ⟨k1, k2⟩ := thawT_at t vs 0
      refine rep_tuple.2 ⟨a, rfl, by rw [hcs.1, k1, List.length_map], fun j u hu => ?_⟩
      rw [List.getElem?_map] at hu
      cases hx : vs[j]? with
      | none => rw [hx] at hu; cases hu
      | some x =>
        rw [hx] at hu
        injection hu with hu
        subst hu
        obtain ⟨k', g1, g2⟩ := k2 j x hx
        obtain ⟨c, m1, m2⟩ := hcs.2 j _ g1
        refine ⟨c, m1, frz2_rep hrel (fun p hp => looks_upds _ (thawT_keys t vs 0).2.2 p (g2 p hp)) ht (List.all_eq_true.1 hc _ (List.mem_of_getElem? hx)) hsub m2⟩
    | agg cs => exact one (.agg cs) (fun p hp => looks_upds _ (thaw1_keys t 0 _).2.2 p hp) hc hv
    | olist ty sz es => exact one (.olist ty sz es) (fun p hp => looks_upds _ (thaw1_keys t 0 _).2.2 p hp) hc hv
    | any => exact rep_any
    | int _ _ => exact rep_clean1 hsub rfl rfl hv
    | bool _ => exact rep_clean1 hsub rfl rfl hv
    | str _ => exact rep_clean1 hsub rfl rfl hv
    | nil => exact rep_clean1 hsub rfl rfl hv
    | list _ _ => exact rep_clean1 hsub rfl rfl hv
    | ptr _ => exact rep_clean1 hsub rfl rfl hv
    | own _ _ _ => cases hc
    | osl _ _ _ => cases hc
    | fn _ _ _ => cases hc
  have hnew : WRel G ρ' w X noMem w' := ⟨fun id id' r r' b z z' h => by simp [noMem] at h, fun id r h => by simp [noMem] at h, fun id r h => by simp [noMem] at h, hrel.keep, hrel.good⟩
  refine ⟨?_, ?_, ?_⟩
  · rw [hio, thaw_frz]; exact hnew
  · intro id row b z h1
    rw [thaw_frz] at h1
    cases h1
  · rw [hio, thaw_frz]
    exact key.mono (fun b hb => ⟨⟨hb, fun h => by cases h⟩, rfl⟩) (MLe.refl _ _ _)

/-- From now on a row is only read. -/
theorem ent_freeze {st : St} {id : Id} {t : Nat} {T : TypeId} {sz n : Nat} {es : List (List PV)} (hv : getE st.env t = .osl id 0 n) (hm : getM st.mem id = some (some ⟨T, sz, es, false⟩)) (hn : n = es.length) (hio : id.1 ≠ io) :
    Ent st ⟨(t, .list sz es) :: st.env, (id, none) :: st.mem⟩ := by
  intro G w0 X N a w ⟨ρ, hW, hd, hs, hV⟩
  subst hn
  have hM : st.M id = some (some ⟨T, sz, es, false⟩) := hm
  obtain ⟨T1, W1⟩ := hW.dead hM
  have hst : St.M ⟨(t, .list sz es) :: st.env, (id, none) :: st.mem⟩ = st.M.set id none := by
    funext id'
    show getM ((id, none) :: st.mem) id' = _
    have := getM_app [(id, none)] st.mem
    rw [show ((id, none) :: st.mem) = [(id, none)] ++ st.mem from rfl, this]
    rfl
  refine ⟨ρ, by rw [hst]; exact W1, hd, hs, fun s => ?_⟩
  rw [hst]
  show Rep ρ w _ _ _ (getE ((t, .list sz es) :: st.env) s)
  rw [getE_cons]
  by_cases he : t = s
  · subst he
    rw [if_pos rfl]
    have h1 := hV t
    rw [show st.V t = getE st.env t from rfl, hv] at h1
    refine osl_given (M' := st.M.set id none) hW hM hio (fun b hb => (T1.stab b hb).1) (fun id' r h => ?_) h1
    simp only [Mem.set] at h
    split at h
    · cases h
    · rename_i hne
      exact ⟨h, hne⟩
  · rw [if_neg he]
    exact T1.rep (hV s)
theorem q_thenF {st : St} {Q : Exit → St → Prop} {y : Code} {id : Id} (t : Nat) {T : TypeId} {sz n : Nat} {es : List (List PV)} (hv : lookE st.env t = some (.osl id 0 n)) (hm : getM st.mem id = some (some ⟨T, sz, es, false⟩)) (hn : n = es.length)
    (hio : Nat.beq id.1 io = false) (h : vwp P y ⟨(t, .list sz es) :: st.env, (id, none) :: st.mem⟩ Q) : thenQ P y Q .normal st :=
  ⟨_, ent_freeze (lookE_ok hv) hm hn (fun e => by rw [e] at hio; simp at hio), h⟩
theorem ret_listA {st : St} {fn : Func} {t : Nat} {T : TypeId} {id : Id} {sz n : Nat} {es es' : List (List PV)} (hr : fn.results = #[.tmp t]) (hv : getE st.env t = .osl id 0 n) (hm : getM st.mem id = some (some ⟨T, sz, es, false⟩)) (hio : id.1 ≠ io)
    (hn : n = es.length) (hes : es = es') : RetPost P fn true [] (Ret (.olist T sz es')) .ret st := by
  subst hes
  subst hn
  exact ret_of [.osl id 0 es.length] [some id] (by rw [hr]; exact ⟨hv, trivial⟩) ⟨rfl, hio, rfl, .inl rfl, hm, rfl⟩ ⟨by simp, trivial⟩
end
end Go.Vs
