/- VALUE SEMANTICS, 16: a region that draws its order: the order of the text serves, if whatever clashes is ordered. -/
import Derived.Test.YthjlolbooehhcaaVs15
set_option linter.unusedVariables false
set_option linter.unusedSimpArgs false
namespace Go.Vs

def sites (l : List Id) : List Nat := l.map (·.1)
def clash (ops : Array Oper) (oi oj : Oper) (ti tj : List Id × List Id) : Bool :=
  (match oi.dst with
    | some d => (oj.looksAt ops).contains d || oj.dst == some d
    | none => false) ||
  (match oj.dst with
    | some d => (oi.looksAt ops).contains d
    | none => false) ||
  (sites ti.2).any (fun s => (sites tj.1).contains s || (sites tj.2).contains s) || (sites tj.2).any (fun s => (sites ti.1).contains s)
def maskOf (acc : List Nat) (o : Oper) : Nat := o.after.toList.foldl (fun m e => if Region.binds .any e then m ||| (2 ^ e.on ||| acc.getD e.on 0) else m) 0
def masks : List Oper → List Nat → List Nat
  | [], acc => acc
  | o :: r, acc => masks r (acc ++ [maskOf acc o])
def orderOk (ops : Array Oper) (tr : List (List Id × List Id)) : Bool :=
  (List.range ops.size).all fun j => (List.range j).all fun i =>
    match ops[i]?, ops[j]?, tr[i]?, tr[j]? with
    | some oi, some oj, some ti, some tj => !clash ops oi oj ti tj || ((masks ops.toList []).getD j 0).testBit i
    | _, _, _, _ => false

def Need (ops : Array Oper) (i j : Nat) : Prop :=
  ∀ S : Nat → Prop, (∀ k o, S k → ops[k]? = some o → ∀ e ∈ o.after, Region.binds .any e = true → S e.on) → (∀ o, ops[j]? = some o → ∀ e ∈ o.after, Region.binds .any e = true → S e.on) → S i

theorem foldl_bit (acc : List Nat) (i : Nat) : ∀ (l : List Edge) (m : Nat), (l.foldl (fun m e => if Region.binds .any e then m ||| (2 ^ e.on ||| acc.getD e.on 0) else m) m).testBit i = true →
    m.testBit i = true ∨ ∃ e ∈ l, Region.binds .any e = true ∧ (i = e.on ∨ (acc.getD e.on 0).testBit i = true)
  | [], m, h => .inl h
  | e :: l, m, h => by
    simp only [List.foldl_cons] at h
    rcases foldl_bit acc i l _ h with h | ⟨e', he', hb⟩
    · split at h
      · rename_i hb
        rw [Nat.testBit_or, Nat.testBit_or, Bool.or_eq_true, Bool.or_eq_true] at h
        rcases h with h | h | h
        · exact .inl h
        · refine .inr ⟨e, by simp, hb, .inl ?_⟩
          rw [Nat.testBit_two_pow] at h
          exact (of_decide_eq_true h).symm
        · exact .inr ⟨e, by simp, hb, .inr h⟩
      · exact .inl h
    · exact .inr ⟨e', by simp [he'], hb⟩

theorem masks_need (ops : Array Oper) : ∀ (l : List Oper) (acc : List Nat), (∀ j, l[j]? = ops[acc.length + j]?) → (∀ (j i : Nat) m, acc[j]? = some m → m.testBit i = true → Need ops i j) →
    ∀ (j i : Nat) m, (masks l acc)[j]? = some m → m.testBit i = true → Need ops i j
  | [], acc, _, h => h
  | o :: r, acc, hl, h => by
    refine masks_need ops r (acc ++ [maskOf acc o]) (fun j => ?_) fun j i m hj hb => ?_
    · have := hl (j + 1)
      simp only [List.length_append, List.length_cons, List.length_nil]
      rw [show acc.length + (0 + 1) + j = acc.length + (j + 1) from by omega, ← this]
      rfl
    · rw [List.getElem?_append] at hj
      split at hj
      · exact h j i m hj hb
      · rename_i hge
        have hj0 : j - acc.length = 0 := by
          rcases Nat.eq_zero_or_pos (j - acc.length) with h0 | h0
          · exact h0
          · rw [List.getElem?_eq_none (by simp; omega)] at hj; cases hj
        rw [hj0] at hj
        simp at hj
        subst hj
        have hje : j = acc.length := by omega
        subst hje
        have hop : ops[acc.length]? = some o := by have := hl 0; simpa using this.symm
        rcases foldl_bit acc i o.after.toList 0 hb with h0 | ⟨e, he, hbe, h1⟩
        · simp at h0
        · intro S hS hSj
          have hSe := hSj o hop e (Array.mem_toList_iff.1 he) hbe
          rcases h1 with rfl | h1
          · exact hSe
          · rw [List.getD_eq_getElem?_getD] at h1
            cases hm : acc[e.on]? with
            | none => rw [hm] at h1; simp at h1
            | some m' =>
              rw [hm] at h1
              exact h e.on i m' hm (by simpa using h1) S hS fun o' ho' e' he' hb' => hS e.on o' hSe ho' e' he' hb'

theorem order_need {ops : Array Oper} {tr : List (List Id × List Id)} (h : orderOk ops tr = true) {i j : Nat} {oi oj : Oper} {ti tj : List Id × List Id} (hij : i < j) (hi : ops[i]? = some oi) (hj : ops[j]? = some oj)
    (hti : tr[i]? = some ti) (htj : tr[j]? = some tj) (hc : clash ops oi oj ti tj = true) : Need ops i j := by
  have hjl := (Array.getElem?_eq_some_iff.1 hj).1
  have h1 := List.all_eq_true.1 (List.all_eq_true.1 h j (List.mem_range.2 hjl)) i (List.mem_range.2 hij)
  simp only [hi, hj, hti, htj, hc, Bool.not_true, Bool.false_or] at h1
  rw [List.getD_eq_getElem?_getD] at h1
  cases hm : (masks ops.toList [])[j]? with
  | none => rw [hm] at h1; simp at h1
  | some m => rw [hm] at h1; exact masks_need ops ops.toList [] (by simp) (by simp) j i m hm (by simpa using h1)

/- The steps of the text. -/
abbrev SE := Eff × List Id
def StepsOk (P : Program) (ops : Array Oper) : List Oper → List SE → (Nat → PV) → Mem → Prop
  | [], [], _, _ => True
  | o :: os, e :: es, V, M => StepOk P ops o V M e.1 e.2 ∧ StepsOk P ops os es (putV V o.dst e.1.x) (M.upds e.1.ups)
  | _, _, _, _ => False
def runV (E : Nat → Bool) : List Oper → List SE → Nat → (Nat → PV) → Nat → PV
  | o :: os, e :: es, k, V => runV E os es (k + 1) (cond (E k) (putV V o.dst e.1.x) V)
  | _, _, _, V => V
def runM (E : Nat → Bool) : List SE → Nat → Mem → Mem
  | e :: es, k, M => runM E es (k + 1) (cond (E k) (M.upds e.1.ups) M)
  | _, _, M => M

theorem exec_steps {P : Program} {ops : Array Oper} {K : St → List (List Id × List Id) → Prop} : ∀ (l : List Oper) (st : St) (tr : List (List Id × List Id)), exec P ops true l st tr K →
    ∃ (es : List SE) (st' : St), es.length = l.length ∧ StepsOk P ops l es st.V st.M ∧ K st' ((es.map fun e => (e.1.rd, e.2)).reverse ++ tr) ∧ st'.V = runV (fun _ => true) l es 0 st.V ∧ st'.M = runM (fun _ => true) es 0 st.M := by
  have kV : ∀ (l : List Oper) (es : List SE) (k : Nat) (V : Nat → PV), runV (fun _ => true) l es k V = runV (fun _ => true) l es (k + 1) V := by
    intro l
    induction l with
    | nil => intro es k V; cases es <;> rfl
    | cons o l ih => intro es k V; cases es with
      | nil => rfl
      | cons e es => simp only [runV]; exact ih es (k + 1) _
  have kM : ∀ (es : List SE) (k : Nat) (M : Mem), runM (fun _ => true) es k M = runM (fun _ => true) es (k + 1) M := by
    intro es
    induction es with
    | nil => intro k M; rfl
    | cons e es ih => intro k M; simp only [runM]; exact ih (k + 1) _
  intro l
  induction l with
  | nil => intro st tr h; exact ⟨[], st, rfl, trivial, h, rfl, rfl⟩
  | cons o rest ih =>
    intro st tr h
    have go : ∀ (e : Eff) (wr : List Id), StepOk P ops o st.V st.M e wr → exec P ops true rest (st.app o.dst e) ((e.rd, wr) :: tr) K →
        ∃ (es : List SE) (st' : St), es.length = (o :: rest).length ∧ StepsOk P ops (o :: rest) es st.V st.M ∧ K st' ((es.map fun e => (e.1.rd, e.2)).reverse ++ tr) ∧ st'.V = runV (fun _ => true) (o :: rest) es 0 st.V ∧ st'.M = runM (fun _ => true) es 0 st.M := by
      intro e wr hs he
      obtain ⟨es, st', h1, h2, h3, h4, h5⟩ := ih _ _ he
      rw [app_V, app_M] at h2
      rw [app_V] at h4
      rw [app_M] at h5
      refine ⟨(e, wr) :: es, st', by simp [h1], ⟨hs, h2⟩, by simpa using h3, ?_, ?_⟩
      · rw [h4]; simp only [runV, cond_true]; exact kV _ _ _ _
      · rw [h5]; simp only [runM, cond_true]; exact kM _ _ _
    rcases h with ⟨hw, h⟩ | ⟨hw, ⟨f, hstep, h⟩ | ⟨t, al, fz, ids, rd, ios, Post, hcall, ⟨hd, _⟩ | ⟨r, fin, huniq, h⟩⟩⟩
    · exact go _ _ (.inl ⟨hw, rfl, rfl⟩) h
    · exact go _ _ (.inr ⟨hw, .inl ⟨hstep, rfl⟩⟩) h
    · cases hd
    · exact go _ _ (.inr ⟨hw, .inr ⟨t, al, fz, ids, rd, ios, Post, r, fin, hcall, huniq, rfl, rfl⟩⟩) h

theorem runV_agree {E F : Nat → Bool} {s : Nat} : ∀ (os : List Oper) (es : List SE) (k : Nat) (V V' : Nat → PV), (∀ i o, os[i]? = some o → o.dst = some s → E (k + i) = F (k + i)) → V s = V' s → runV E os es k V s = runV F os es k V' s
  | [], es, k, V, V', _, h => by cases es <;> simpa [runV] using h
  | o :: os, [], k, V, V', _, h => by simpa [runV] using h
  | o :: os, e :: es, k, V, V', hE, h => by
    simp only [runV]
    refine runV_agree os es (k + 1) _ _ (fun i o' ho' hd => ?_) ?_
    · have := hE (i + 1) o' (by simpa using ho') hd
      rw [show k + 1 + i = k + (i + 1) from by omega]; exact this
    · by_cases hd : o.dst = some s
      · have h0 := hE 0 o rfl hd
        rw [Nat.add_zero] at h0
        rw [← h0]
        cases E k
        · exact h
        · simp [putV, hd]
      · have : ∀ (W : Nat → PV), putV W o.dst e.1.x s = W s := by
          intro W
          cases hdd : o.dst with
          | none => rfl
          | some t => simp only [putV]; rw [if_neg (fun e => hd (by rw [hdd, e]))]
        cases E k <;> cases F k <;> simp only [cond_true, cond_false, this, h]
theorem upds_pt {M M' : Mem} {l : List (Id × Option Row)} {id : Id} (h : M id = M' id) : M.upds l id = M'.upds l id := by
  rcases upds_or M l id with ⟨h1, _⟩ | ⟨h1, h2⟩
  · rcases upds_or M' l id with ⟨h3, _⟩ | ⟨h3, h4⟩
    · rw [h1, h3]
    · rename_i h0; obtain ⟨x, hx⟩ := h0; rw [h4] at hx; cases hx
  · rcases upds_or M' l id with ⟨h3, x, hx⟩ | ⟨h3, h4⟩
    · rw [h2] at hx; cases hx
    · rw [h1, h3, h]
theorem upds_same {M M' : Mem} {l : List (Id × Option Row)} {id : Id} (h : id ∈ l.map (·.1)) : M.upds l id = M'.upds l id := by
  obtain ⟨p, hp, he⟩ := List.mem_map.1 h
  rw [(upds_some (M := M) l id ⟨p, hp, he⟩).1, (upds_some (M := M') l id ⟨p, hp, he⟩).1]
theorem upds_out {M : Mem} {l : List (Id × Option Row)} {id : Id} (h : id ∉ l.map (·.1)) : M.upds l id = M id :=
  upds_other M l id fun p hp e => h (List.mem_map.2 ⟨p, hp, e⟩)
theorem runM_agree {E F : Nat → Bool} {id : Id} : ∀ (es : List SE) (k : Nat) (M M' : Mem), (∀ (i : Nat) e, es[i]? = some e → id ∈ e.1.ups.map (·.1) → E (k + i) = F (k + i)) → M id = M' id → runM E es k M id = runM F es k M' id
  | [], k, M, M', _, h => by simpa [runM] using h
  | e :: es, k, M, M', hE, h => by
    simp only [runM]
    refine runM_agree es (k + 1) _ _ (fun i e' he' hd => ?_) ?_
    · have := hE (i + 1) e' (by simpa using he') hd
      rw [show k + 1 + i = k + (i + 1) from by omega]; exact this
    · by_cases hd : id ∈ e.1.ups.map (·.1)
      · have h0 := hE 0 e rfl hd
        rw [Nat.add_zero] at h0
        rw [← h0]
        cases E k
        · exact h
        · exact upds_same hd
      · cases E k <;> cases F k <;> simp only [cond_true, cond_false, upds_out hd, h]

theorem runV_none {E : Nat → Bool} : ∀ (os : List Oper) (es : List SE) (k : Nat) (V : Nat → PV), (∀ i, i < os.length → E (k + i) = false) → runV E os es k V = V
  | [], es, k, V, _ => by cases es <;> rfl
  | o :: os, [], k, V, _ => rfl
  | o :: os, e :: es, k, V, h => by
    simp only [runV]
    have h0 := h 0 (by simp)
    rw [Nat.add_zero] at h0
    rw [h0]
    exact runV_none os es (k + 1) V fun i hi => by rw [show k + 1 + i = k + (i + 1) from by omega]; exact h (i + 1) (by simpa using hi)
theorem runM_none {E : Nat → Bool} : ∀ (es : List SE) (k : Nat) (M : Mem), (∀ i, i < es.length → E (k + i) = false) → runM E es k M = M
  | [], k, M, _ => rfl
  | e :: es, k, M, h => by
    simp only [runM]
    have h0 := h 0 (by simp)
    rw [Nat.add_zero] at h0
    rw [h0]
    exact runM_none es (k + 1) M fun i hi => by rw [show k + 1 + i = k + (i + 1) from by omega]; exact h (i + 1) (by simpa using hi)

/-- The step at its place in the text. -/
theorem step_at {P : Program} {ops : Array Oper} : ∀ (l : List Oper) (es : List SE) (k j : Nat) (V : Nat → PV) (M : Mem) (o : Oper), StepsOk P ops l es V M → l[j]? = some o →
    ∃ e, es[j]? = some e ∧ StepOk P ops o (runV (fun i => decide (i < k + j)) l es k V) (runM (fun i => decide (i < k + j)) es k M) e.1 e.2 ∧
      (∀ s, runV (fun i => decide (i < k + j + 1)) l es k V s = putV (runV (fun i => decide (i < k + j)) l es k V) o.dst e.1.x s) ∧
      (∀ id, runM (fun i => decide (i < k + j + 1)) es k M id = (runM (fun i => decide (i < k + j)) es k M).upds e.1.ups id)
  | [], es, k, j, V, M, o, _, hj => by simp at hj
  | x :: l, [], k, j, V, M, o, h, _ => h.elim
  | x :: l, e :: es, k, 0, V, M, o, h, hj => by
    simp at hj
    subst hj
    refine ⟨e, rfl, ?_, fun s => ?_, fun id => ?_⟩
    · rw [runV_none _ _ _ _ (fun i _ => by simp), runM_none _ _ _ (fun i _ => by simp)]
      exact h.1
    · rw [runV_none (E := fun i => decide (i < k + 0)) _ _ _ _ (fun i _ => by simp)]
      simp only [runV]
      rw [runV_none _ _ _ _ (fun i _ => by simp)]
      simp
    · rw [runM_none (E := fun i => decide (i < k + 0)) _ _ _ (fun i _ => by simp)]
      simp only [runM]
      rw [runM_none _ _ _ (fun i _ => by simp)]
      simp
  | x :: l, e :: es, k, j + 1, V, M, o, h, hj => by
    obtain ⟨e', h1, h2, h3, h4⟩ := step_at l es (k + 1) j _ _ o h.2 (by simpa using hj)
    have hk : ∀ n, k + 1 + n = k + (n + 1) := fun n => by omega
    simp only [hk] at h2 h3 h4
    refine ⟨e', by simpa using h1, ?_, ?_, ?_⟩
    · simp only [runV, runM]
      have : decide (k < k + (j + 1)) = true := by simp
      rw [this]
      exact h2
    · intro s
      simp only [runV]
      have e1 : decide (k < k + (j + 1) + 1) = true := decide_eq_true (by omega)
      have e2 : decide (k < k + (j + 1)) = true := by simp
      rw [e1, e2]
      exact h3 s
    · intro id
      simp only [runM]
      have e1 : decide (k < k + (j + 1) + 1) = true := decide_eq_true (by omega)
      have e2 : decide (k < k + (j + 1)) = true := by simp
      rw [e1, e2]
      exact h4 id
end Go.Vs
