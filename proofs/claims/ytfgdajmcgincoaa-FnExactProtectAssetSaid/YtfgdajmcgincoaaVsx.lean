/- VALUE SEMANTICS: slices of numbers known by where they lie, lists of them, and what is written through them. Nothing here names a program. -/
import Derived.Test.YtfgdajmcgincoaaVsC
import Derived.Test.YtfgdajmcgincoaaVsD
set_option linter.unusedVariables false
set_option linter.unusedSimpArgs false
set_option linter.unusedSectionVars false
namespace Go.Vs

abbrev Plc := Option (Nat × Nat)
def inQ (q : Plc) (b : Nat) : Prop := ∃ z, q = some (b, z)
def flatE (es : List (List PV)) : Prop := ∀ e ∈ es, ∀ c ∈ e, c.flat = true

theorem oslOk_cong {w w' : World} {r : Row} {v : Value} {o n : Nat} {q : Plc} (h : OslOk w r v o n q) (hb : ∀ b, inQ q b → w'.heap[b]? = w.heap[b]?) : OslOk w' r v o n q := by
  cases q with
  | none => exact h
  | some bz =>
    obtain ⟨b, z⟩ := bz
    obtain ⟨ad, cap, h1, h2, h3, h4, h5⟩ := h
    exact ⟨ad, cap, h1, h2, h3, h4, fun hc => by rw [hb b ⟨z, rfl⟩]; exact h5 hc⟩
theorem rowFlat_cong {G G' : Nat → Prop} {ρ ρ' : Id → Option (Nat × Nat)} {M M' : Mem} {w w' : World} {r : Row} {q : Plc} (hf : flatE r.es) (h : RowOk G ρ w M r q) (hb : ∀ b, inQ q b → w'.heap[b]? = w.heap[b]?) : RowOk G' ρ' w' M' r q := by
  cases q with
  | none => exact h
  | some bz =>
    obtain ⟨b, z⟩ := bz
    obtain ⟨cur, C, h1, h2, h3, h4, h5, h6⟩ := h
    exact ⟨cur, C, by rw [hb b ⟨z, rfl⟩]; exact h1, h2, h3, h4, h5, fun i e hi => ⟨(h6 i e hi).1, fun j u hu => let ⟨c, g1, g2, g3⟩ := (h6 i e hi).2 j u hu; ⟨c, g1, g2, rep_flat (hf e (List.mem_of_getElem? hi) u (List.mem_of_getElem? hu)) g3⟩⟩⟩
theorem rowOk_lt {G : Nat → Prop} {ρ : Id → Option (Nat × Nat)} {M : Mem} {w : World} {r : Row} {q : Plc} (h : RowOk G ρ w M r q) {b : Nat} (hq : inQ q b) : b < w.heap.size := by
  obtain ⟨z, rfl⟩ := hq
  exact RowOk.lt h

/-- A slice of a block 'q' of its own, that holds 'es'. -/
def LP (q : Plc) (T : TypeId) (es : List (List PV)) (B : Nat → Prop) (w : World) (v : Value) : Prop :=
  (∀ b, inQ q b → B b) ∧ OslOk w ⟨T, 1, es, false⟩ v 0 es.length q ∧ RowOk (fun _ => False) (fun _ => none) w noMem ⟨T, 1, es, false⟩ q ∧ flatE es
section
variable {q : Plc} {T : TypeId} {es : List (List PV)} {B B' : Nat → Prop} {w w' : World} {v : Value}
theorem LP.cong (h : LP q T es B w v) (hb : ∀ b, inQ q b → w'.heap[b]? = w.heap[b]?) (hB : ∀ b, inQ q b → B' b) : LP q T es B' w' v :=
  ⟨hB, oslOk_cong h.2.1 hb, rowFlat_cong h.2.2.2 h.2.2.1 hb, h.2.2.2⟩
theorem LP.lt (h : LP q T es B w v) {b : Nat} (hq : inQ q b) : b < w.heap.size := rowOk_lt h.2.2.1 hq
theorem oslOk_one {r : Row} {o n : Nat} (h : OslOk w r v o n q) : v.oneCell' = true := by
  cases q with
  | none => obtain ⟨rfl, _⟩ := h; rfl
  | some bz => obtain ⟨ad, cap, rfl, _⟩ := h; rfl
theorem LP.one (h : LP q T es B w v) : v.oneCell' = true := oslOk_one h.2.1
theorem rep_LP {ρ : Id → Option (Nat × Nat)} {S : Nat → Prop} {M : Mem} : Rep ρ w S M v (.sem (LP q T es)) ↔ LP q T es S w v := by
  constructor
  · intro h
    obtain ⟨_, B, hB, h⟩ := rep_sem.1 h
    have := h w fun _ _ => rfl
    exact this.cong (fun _ _ => rfl) fun b hb => hB b (this.1 b hb)
  · intro h
    exact rep_sem.2 ⟨h.one, inQ q, h.1, fun w' ha => h.cong ha fun _ h => h⟩
/-- A row of its own read as a list. -/
theorem list_of_row {G : Nat → Prop} {ρ : Id → Option (Nat × Nat)} {r : Row} {ys : List (List PV)} (h1 : OslOk w r v 0 r.es.length q) (h2 : RowOk G ρ w noMem r q) (hq : ∀ b, inQ q b → B b) (hl : ys.length = r.es.length)
    (hc : ∀ (i : Nat) e e', r.es[i]? = some e → ys[i]? = some e' → e'.length = e.length ∧ ∀ (j : Nat) u', e'[j]? = some u' → ∃ u, e[j]? = some u ∧ ∀ c, Rep ρ w (Stab G ρ noMem w) noMem c u → Rep (fun _ => none) w B noMem c u') :
    Rep (fun _ => none) w B noMem v (.list r.sz ys) := by
  cases q with
  | none =>
    obtain ⟨rfl, _, h0⟩ := h1
    exact rep_list.2 ⟨none, 0, by rw [hl, h0], by omega, fun hne => absurd (List.eq_nil_of_length_eq_zero (hl.trans h0)) hne⟩
  | some bz =>
    obtain ⟨b, z⟩ := bz
    obtain ⟨ad, cap, rfl, k2, k3, k4, k5⟩ := h1
    obtain ⟨cur, C, g1, g2, g3, g4, g5, g6⟩ := h2
    refine rep_list.2 ⟨some ad, cap, by rw [hl], by omega, fun hne => ⟨ad, rfl, ?_, fun i e' hi => ?_⟩⟩
    · have hp : 0 < cap := by
        have : 0 < ys.length := List.length_pos_iff.2 hne
        omega
      obtain ⟨rfl, _⟩ := k5 hp
      exact hq b ⟨z, rfl⟩
    · have hp : 0 < cap := by
        have : 0 < ys.length := List.length_pos_iff.2 hne
        omega
      obtain ⟨rfl, _⟩ := k5 hp
      have hlt : i < r.es.length := by rw [← hl]; exact (List.getElem?_eq_some_iff.1 hi).1
      have hi0 := List.getElem?_eq_getElem hlt
      obtain ⟨e1, e2⟩ := hc i _ e' hi0 hi
      refine ⟨e1.trans (g6 i _ hi0).1, fun j u' hu' => ?_⟩
      obtain ⟨u, hu, hr⟩ := e2 j u' hu'
      obtain ⟨c, c1, c2, c3⟩ := (g6 i _ hi0).2 j u hu
      refine ⟨c, ?_, c2, hr c (by cases hb : r.bx <;> simpa [hb] using c3)⟩
      rw [add_off, add_off, cell_of_row w b _ cur r.ty (0, 0) g1, ← c1]
      congr 1; omega
theorem semTo_LP : SemTo (LP q T es) (.list 1 es) := by
  intro w B v h0 h
  have h := h w fun _ _ => rfl
  exact list_of_row (r := ⟨T, 1, es, false⟩) h.2.1 h.2.2.1 h.1 rfl fun i e e' h1 h2 => by
    simp only at h1
    rw [h1] at h2
    injection h2 with h2
    subst h2
    exact ⟨rfl, fun j u' hu => ⟨u', hu, fun c hc => rep_flat (h.2.2.2 e (List.mem_of_getElem? h1) u' (List.mem_of_getElem? hu)) hc⟩⟩
end

/-- Lists of such slices, each with a number before it. -/
def rowQ (TI : TypeId) (ps : List (Int × List (List PV))) (qs : List Plc) : List (List PV) := List.zipWith (fun p q => [.int .i64 p.1, .sem (LP q TI p.2)]) ps qs
def Tree (TS TI : TypeId) (ps : List (Int × List (List PV))) (q : Plc) (qs : List Plc) (B : Nat → Prop) (w : World) (v : Value) : Prop :=
  (∀ b, inQ q b → B b) ∧ OslOk w ⟨TS, 2, rowQ TI ps qs, false⟩ v 0 (rowQ TI ps qs).length q ∧ RowOk B (fun _ => none) w noMem ⟨TS, 2, rowQ TI ps qs, false⟩ q ∧ qs.length = ps.length
section
variable {TS TI : TypeId} {ps : List (Int × List (List PV))} {q : Plc} {qs : List Plc} {B B' : Nat → Prop} {w w' : World} {v : Value}
theorem rowQ_at {i : Nat} {p : Int × List (List PV)} {q : Plc} (hp : ps[i]? = some p) (hq : qs[i]? = some q) : (rowQ TI ps qs)[i]? = some [.int .i64 p.1, .sem (LP q TI p.2)] := by simp [rowQ, List.getElem?_zipWith, hp, hq]
theorem rowQ_len (h : qs.length = ps.length) : (rowQ TI ps qs).length = ps.length := by simp [rowQ, h]
theorem Tree.cong (h : Tree TS TI ps q qs B w v) (hb : ∀ b, B b → w'.heap[b]? = w.heap[b]?) : Tree TS TI ps q qs B w' v := by
  refine ⟨h.1, oslOk_cong h.2.1 fun b hq => hb b (h.1 b hq), h.2.2.1.mono ⟨fun b hS => ⟨⟨(Array.getElem?_eq_some_iff.1 ((hb b hS.2.2).trans (Array.getElem?_eq_getElem hS.1))).1, hS.2.1, hS.2.2⟩, hb b hS.2.2⟩, MLe.noMem⟩ fun b z e => hb b (h.1 b ⟨z, e⟩), h.2.2.2⟩
/-- Where its slices lie. -/
theorem Tree.inner (h : Tree TS TI ps q qs B w v) {i : Nat} {p : Int × List (List PV)} {qi : Plc} (hp : ps[i]? = some p) (hq : qs[i]? = some qi) : ∀ b, inQ qi b → B b ∧ b < w.heap.size := by
  intro b hb
  have hr := h.2.2.1
  have hat := rowQ_at (TI := TI) hp hq
  cases q with
  | none =>
    have : rowQ TI ps qs = [] := hr.1
    rw [this] at hat
    simp at hat
  | some bz =>
    obtain ⟨b0, z⟩ := bz
    obtain ⟨cur, C, g1, g2, g3, g4, g5, g6⟩ := hr
    obtain ⟨c, c1, c2, c3⟩ := (g6 i _ hat).2 1 _ rfl
    have := rep_LP.1 c3
    exact ⟨(this.1 b hb).2.2, this.lt hb⟩
theorem rowQ_inv {i : Nat} {e : List PV} (h : (rowQ TI ps qs)[i]? = some e) : ∃ p q, ps[i]? = some p ∧ qs[i]? = some q ∧ e = [.int .i64 p.1, .sem (LP q TI p.2)] := by
  simp only [rowQ, List.getElem?_zipWith] at h
  cases hp : ps[i]? with
  | none => simp [hp] at h
  | some p =>
    cases hq : qs[i]? with
    | none => simp [hp, hq] at h
    | some q => simp [hp, hq] at h; exact ⟨p, q, rfl, rfl, h.symm⟩
/-- Rows of such slices, elsewhere. -/
theorem rowQ_cong {G G' : Nat → Prop} {ρ ρ' : Id → Option (Nat × Nat)} {M M' : Mem} (h : RowOk G ρ w M ⟨TS, 2, rowQ TI ps qs, false⟩ q) (hq : ∀ b, inQ q b → w'.heap[b]? = w.heap[b]?) (hqs : ∀ q' ∈ qs, ∀ b, inQ q' b → Stab G ρ M w b → w'.heap[b]? = w.heap[b]? ∧ Stab G' ρ' M' w' b) :
    RowOk G' ρ' w' M' ⟨TS, 2, rowQ TI ps qs, false⟩ q := by
  cases q with
  | none => exact h
  | some bz =>
    obtain ⟨b, z⟩ := bz
    obtain ⟨cur, C, g1, g2, g3, g4, g5, g6⟩ := h
    refine ⟨cur, C, by rw [hq b ⟨z, rfl⟩]; exact g1, g2, g3, g4, g5, fun i e hi => ⟨(g6 i e hi).1, fun j u hu => ?_⟩⟩
    obtain ⟨c, c1, c2, c3⟩ := (g6 i e hi).2 j u hu
    refine ⟨c, c1, c2, ?_⟩
    obtain ⟨p, q', hp, hq', rfl⟩ := rowQ_inv hi
    match j, hu with
    | 0, hu => simp at hu; subst hu; exact rep_flat rfl c3
    | 1, hu =>
      simp at hu
      subst hu
      have h5 := rep_LP.1 c3
      exact rep_LP.2 (h5.cong (fun b hb => (hqs q' (List.mem_of_getElem? hq') b hb (h5.1 b hb)).1) fun b hb => (hqs q' (List.mem_of_getElem? hq') b hb (h5.1 b hb)).2)
    | j + 2, hu => simp at hu
theorem Tree.at (h : Tree TS TI ps q qs B w v) (hq : ∀ b, inQ q b → w'.heap[b]? = w.heap[b]? ∧ B' b) (hqs : ∀ q' ∈ qs, ∀ b, inQ q' b → w'.heap[b]? = w.heap[b]? ∧ B' b) : Tree TS TI ps q qs B' w' v :=
  ⟨fun b hb => (hq b hb).2, oslOk_cong h.2.1 fun b hb => (hq b hb).1, rowQ_cong h.2.2.1 (fun b hb => (hq b hb).1) fun q' hq' b hb hs => ⟨(hqs q' hq' b hb).1, (Array.getElem?_eq_some_iff.1 (((hqs q' hq' b hb).1).trans (Array.getElem?_eq_getElem hs.1))).1, hs.2.1, (hqs q' hq' b hb).2⟩, h.2.2.2⟩
theorem Tree.inB (h : Tree TS TI ps q qs B w v) : ∀ q' ∈ q :: qs, ∀ b, inQ q' b → B b ∧ b < w.heap.size := by
  intro q' hq' b hb
  rcases List.mem_cons.1 hq' with rfl | hq'
  · exact ⟨h.1 b hb, rowOk_lt h.2.2.1 hb⟩
  · obtain ⟨i, hi⟩ := List.mem_iff_getElem?.1 hq'
    have hlt := (List.getElem?_eq_some_iff.1 hi).1
    exact h.inner (List.getElem?_eq_getElem (show i < ps.length by rw [← h.2.2.2]; exact hlt)) hi b hb
theorem Tree.one (h : Tree TS TI ps q qs B w v) : v.oneCell' = true := oslOk_one h.2.1
theorem rep_Tree {ρ : Id → Option (Nat × Nat)} {S : Nat → Prop} {M : Mem} : Rep ρ w S M v (.sem (Tree TS TI ps q qs)) ↔ Tree TS TI ps q qs S w v := by
  constructor
  · intro h
    obtain ⟨_, B, hB, h⟩ := rep_sem.1 h
    have h := h w fun _ _ => rfl
    exact h.at (fun b hb => ⟨rfl, hB b (h.1 b hb)⟩) fun q' hq' b hb => ⟨rfl, hB b (h.inB q' (List.mem_cons_of_mem _ hq') b hb).1⟩
  · intro h
    exact rep_sem.2 ⟨h.one, fun b => ∃ q' ∈ q :: qs, inQ q' b, fun b ⟨q', hq', hb⟩ => (h.inB q' hq' b hb).1, fun w2 ha => h.at (fun b hb => ⟨ha b ⟨q, List.mem_cons_self, hb⟩, q, List.mem_cons_self, hb⟩) fun q' hq' b hb => ⟨ha b ⟨q', List.mem_cons_of_mem _ hq', hb⟩, q', List.mem_cons_of_mem _ hq', hb⟩⟩
theorem semTo_Tree : SemTo (Tree TS TI ps q qs) (.list 2 (ps.map fun p => [.int .i64 p.1, .list 1 p.2])) := by
  intro w B v h0 h
  have h := h w fun _ _ => rfl
  exact list_of_row (r := ⟨TS, 2, rowQ TI ps qs, false⟩) h.2.1 h.2.2.1 h.1 (by simp only [rowQ_len h.2.2.2, List.length_map]) fun i e e' h1 h2 => by
    obtain ⟨p, q', hp, hq', rfl⟩ := rowQ_inv h1
    simp [hp] at h2
    subst h2
    refine ⟨rfl, fun j u' hu => ?_⟩
    match j, hu with
    | 0, hu => simp at hu; subst hu; exact ⟨_, rfl, fun c hc => rep_flat rfl hc⟩
    | 1, hu =>
      simp at hu
      subst hu
      refine ⟨_, rfl, fun c hc => ?_⟩
      have h5 := rep_LP.1 hc
      exact semTo_LP w B c h5.one fun w2 ha => h5.cong (fun b hb => ha b (h5.1 b hb).2.2) fun b hb => (h5.1 b hb).2.2
    | j + 2, hu => simp at hu
end

section
variable [fl : Inhabited FlrT]
/-- Whatever st says of a frame and a world, one of the states 'Φ' says of them too. -/
def EntN (st : St) (Φ : St → Prop) : Prop := ∀ (G : Nat → Prop) (w0 : World) (X : List (Option (Nat × Nat))) (N : Nat) (a : Act) (w : World), FlOk w0 X → RelF G w0 X N st.V st.M a w → ∃ st', Φ st' ∧ RelF G w0 X N st'.V st'.M a w
theorem big_call {P : Program} {o : Oper} {st : St} {t : Nat} {al fz : Bool} {ids rd : List Id} {ios : List Row} {Post : PV → List (List (List PV)) → Prop} {Φ : St → Prop} (h : CallTo P o st.V st.M t al fz ids rd ios Post)
    (hΦ : ∀ r fin, Post r fin → fin.length = ios.length → EntN (st.app o.dst ⟨(thaw t r).1, callUps st.M t ids rd fz r (backF st.M ids ios fin), rd⟩) Φ) : BigStep P o st Φ := by
  rintro G w0 X N a w K Q hd hF ⟨ρ, hW, hdef, hs, hV⟩ hK
  refine wp_of_call hd hdef hs hW hV h fun r fin a' w' hp hfl hR => ?_
  obtain ⟨st', h1, h2⟩ := hΦ r fin hp hfl G w0 X N a' w' hF (by rw [app_V, app_M]; exact hR)
  exact hK st' a' w' h1 h2

/-- A block that a call has made: nothing else that is known lies there. -/
def NewQ (mem : List (Id × Option Row)) (q : Plc) : Prop :=
  (∀ b, inQ q b → flN ≤ b) ∧ ∀ id row, getM mem id = some (some row) → ∀ e ∈ row.es, ∀ q' T' es', PV.sem (LP q' T' es') ∈ e → ∀ b, inQ q b → ¬ inQ q' b

theorem absorb {env : List (Nat × PV)} {mem : List (Id × Option Row)} {d : Nat} {id : Id} {T : TypeId} {es : List (List PV)} {u : PV} (hid : id.1 ≠ io) (hM : getM mem id = some (some ⟨T, 1, es, false⟩)) (hf : flatE es) (hu : u.flat = true) :
    EntN ⟨(d, .agg [u, .osl id 0 es.length]) :: env, mem⟩ fun st' => ∃ q, NewQ mem q ∧ st' = ⟨(d, .agg [u, .sem (LP q T es)]) :: env, (id, none) :: mem⟩ := by
  rintro G w0 X N a w hF ⟨ρ, hW, hdef, hs, hV⟩
  have hM' : (⟨(d, .agg [u, .osl id 0 es.length]) :: env, mem⟩ : St).M id = some (some ⟨T, 1, es, false⟩) := hM
  have hrow := hW.row id _ hM'
  have hnew := hW.new id _ hM'
  rw [if_neg hid] at hnew
  obtain ⟨Tr, W⟩ := hW.dead hM'
  have hMs : (⟨(d, .agg [u, .sem (LP (ρ id) T es)]) :: env, (id, none) :: mem⟩ : St).M = Mem.set (getM mem) id none := getM_app [(id, none)] mem
  refine ⟨_, ⟨ρ id, ⟨?_, ?_⟩, rfl⟩, ρ, by rw [hMs]; exact W, hdef, hs, fun t => ?_⟩
  · rintro b ⟨z, hz⟩
    rcases hnew b z hz with h | ⟨z', h⟩
    · exact Nat.le_trans hF.1 h
    · exact hF.2.2 b z' h
  · rintro id' row hM2 e he q' T' es' hc b ⟨z, hz⟩ hq'
    have hr := hW.row id' row hM2
    obtain ⟨i, hi⟩ := List.mem_iff_getElem?.1 he
    obtain ⟨j, hj⟩ := List.mem_iff_getElem?.1 hc
    cases hb : ρ id' with
    | none => rw [hb] at hr; rw [hr.1] at he; cases he
    | some bz =>
      obtain ⟨b0, z0⟩ := bz
      rw [hb] at hr
      obtain ⟨cur, C, g1, g2, g3, g4, g5, g6⟩ := hr
      obtain ⟨c, c1, c2, c3⟩ := (g6 i e hi).2 j _ hj
      have := (rep_LP.1 c3).1 b hq'
      exact this.2.1 id _ z hM' hz
  · show Rep ρ w _ _ _ (getE ((d, .agg [u, .sem (LP (ρ id) T es)]) :: env) t)
    rw [hMs]
    have ht := hV t
    simp only [St.V, getE] at ht ⊢
    cases hb : Nat.beq d t with
    | false => rw [hb] at ht; exact Tr.rep ht
    | true =>
      rw [hb] at ht
      simp only [cond_true] at ht ⊢
      obtain ⟨cs, h1, h2, h3⟩ := rep_agg.1 ht
      refine rep_agg.2 ⟨cs, h1, h2, fun j x hx => ?_⟩
      match j, hx with
      | 0, hx =>
        simp at hx
        subst hx
        obtain ⟨c, k1, k2⟩ := h3 0 u rfl
        exact ⟨c, k1, rep_flat hu k2⟩
      | 1, hx =>
        simp at hx
        subst hx
        obtain ⟨c, k1, k2⟩ := h3 1 _ rfl
        refine ⟨c, k1, rep_LP.2 ⟨?_, (rep_osl hM').1 k2, rowFlat_cong hf hrow fun _ _ => rfl, hf⟩⟩
        rintro b ⟨z, hz⟩
        refine ⟨hW.lt hM' hz, fun id' r' z' h1 h2 => ?_, hW.good b (hnew b z hz)⟩
        have hne : id' ≠ id := fun e => by rw [e] at h1; simp [Mem.set] at h1
        simp only [Mem.set, if_neg hne] at h1
        exact hne (hW.inj id' id r' _ b z' z h1 hM' h2 hz)
      | j + 2, hx => simp at hx

theorem keep_trans {G : Nat → Prop} {ρ : Id → Option (Nat × Nat)} {w0 w w' : World} {X : List (Option (Nat × Nat))} {M : Mem} (hk : Keep w [] w') (hW : WRel G ρ w0 X M w) : Trans G ρ M w ρ M w' ∧ WRel G ρ w0 X M w' := by
  have hb : ∀ b, b < w.heap.size → w'.heap[b]? = w.heap[b]? := fun b h => hk.block b h fun z hz => by simp at hz
  have T : Trans G ρ M w ρ M w' := by
    refine ⟨fun b h => ⟨⟨Nat.lt_of_lt_of_le h.1 hk.size, h.2.1, h.2.2⟩, hb b h.1⟩, fun id => ?_⟩
    cases hM : M id with
    | none => trivial
    | some o =>
      cases o with
      | none => rfl
      | some r => exact .inr ⟨r, rfl, rfl, rfl, Nat.le_refl _, rfl, fun b z hρ cur hc => ⟨cur, by rw [hb b (hW.lt hM hρ)]; exact hc, rfl⟩⟩
  have hk0 := hW.keep
  refine ⟨T, hW.inj, fun id r h => (hW.row id r h).mono T fun b z e => hb b (hW.lt h e), hW.new, ⟨hk.os.trans hk0.os, hk.tape.trans hk0.tape, hk.output.trans hk0.output, Nat.le_trans hk0.size hk.size, fun b h hn => (hb b (Nat.lt_of_lt_of_le h hk0.size)).trans (hk0.block b h hn), fun b cur ty fr h => ?_⟩, hW.good, hW.tab.mono T.stab⟩
  obtain ⟨c1, h1, h2⟩ := hk0.shape b cur ty fr h
  obtain ⟨c2, h3, h4⟩ := hk.shape b c1 ty fr h1
  exact ⟨c2, h3, h4.trans h2⟩

/-- What was known when 'n' blocks lay there. -/
def Old (n : Nat) (x : PV) (B : Nat → Prop) (w : World) (v : Value) : Prop := (∀ b, B b → b < n) ∧ v.oneCell' = true ∧ Rep (fun _ => none) w B noMem v x
theorem semTo_Old {n : Nat} {x : PV} : SemTo (Old n x) x := fun w B v _ h => (h w fun _ _ => rfl).2.2

theorem stab_after {G : Nat → Prop} {ρ : Id → Option (Nat × Nat)} {M M' : Mem} {w w' : World} (hs : w.heap.size ≤ w'.heap.size) (hM : ∀ id r', M' id = some (some r') → ∃ r, M id = some (some r)) {b : Nat} (h : Stab G ρ M w b) : Stab G ρ M' w' b :=
  ⟨Nat.lt_of_lt_of_le h.1 hs, fun id r' z h1 => let ⟨r, h2⟩ := hM id r' h1; h.2.1 id r z h2, h.2.2⟩
/-- Behind a call that wrote into blocks 'XX', none of them a row of its own. -/
theorem rel_after {G : Nat → Prop} {ρ : Id → Option (Nat × Nat)} {w0 w w' : World} {X XX : List (Option (Nat × Nat))} {M M' : Mem} (hF : FlOk w0 X) (hW : WRel G ρ w0 X M w) (hk : Keep w XX w') (ht : tabG = [])
    (hX : ∀ b z, some (b, z) ∈ XX → Stab G ρ M w b ∧ flW b)
    (hM : ∀ id r', M' id = some (some r') → ∃ r, M id = some (some r) ∧ r.bx = false ∧ r'.bx = false ∧ r'.ty = r.ty ∧ r'.sz = r.sz ∧ r'.es.length = r.es.length ∧ ∀ (i : Nat) e', r'.es[i]? = some e' → ∃ e, r.es[i]? = some e ∧ e'.length = e.length ∧
      ∀ (j : Nat) u', e'[j]? = some u' → ∃ u, e[j]? = some u ∧ ∀ c, Rep ρ w (Stab G ρ M w) noMem c u → Rep ρ w' (Stab G ρ M' w') noMem c u') :
    WRel G ρ w0 X M' w' ∧ ∀ id r' v o n S S', M' id = some (some r') → Rep ρ w S M v (.osl id o n) → Rep ρ w' S' M' v (.osl id o n) := by
  have hM0 : ∀ id r', M' id = some (some r') → ∃ r, M id = some (some r) := fun id r' h => let ⟨r, h1, _⟩ := hM id r' h; ⟨r, h1⟩
  have hsame : ∀ id r b z, M id = some (some r) → ρ id = some (b, z) → w'.heap[b]? = w.heap[b]? := fun id r b z h1 h2 =>
    hk.block b (hW.lt h1 h2) fun z' hz => (hX b z' hz).1.2.1 id r z h1 h2
  refine ⟨⟨?_, ?_, ?_, ?_, hW.good, ?_⟩, ?_⟩
  · intro i1 i2 r1 r2 b z1 z2 h1 h2 k1 k2
    obtain ⟨_, m1⟩ := hM0 i1 r1 h1
    obtain ⟨_, m2⟩ := hM0 i2 r2 h2
    exact hW.inj i1 i2 _ _ b z1 z2 m1 m2 k1 k2
  · intro id r' h
    obtain ⟨r, h1, hb, hb', hty, hsz, hlen, hc⟩ := hM id r' h
    have hr := hW.row id r h1
    cases hq : ρ id with
    | none =>
      rw [hq] at hr
      refine ⟨List.eq_nil_of_length_eq_zero (by rw [hlen, hr.1]; rfl), hb'⟩
    | some bz =>
      obtain ⟨b, z⟩ := bz
      rw [hq] at hr
      obtain ⟨cur, C, g1, g2, g3, g4, g5, g6⟩ := hr
      refine ⟨cur, C, by rw [hsame id r b z h1 hq, hty]; exact g1, by rw [hsz]; exact g2, g3, by rw [hlen]; exact g4, by rw [hsz]; exact g5, fun i e' hi => ?_⟩
      obtain ⟨e, e1, e2, e3⟩ := hc i e' hi
      refine ⟨by rw [e2, hsz]; exact (g6 i e e1).1, fun j u' hu => ?_⟩
      obtain ⟨u, u1, u2⟩ := e3 j u' hu
      obtain ⟨c, c1, c2, c3⟩ := (g6 i e e1).2 j u u1
      rw [hb] at c3
      exact ⟨c, by rw [hsz]; exact c1, c2, by rw [hb']; exact u2 c c3⟩
  · intro id r' h
    obtain ⟨r, h1⟩ := hM0 id r' h
    exact hW.new id r h1
  · have hk0 := hW.keep
    refine ⟨hk.os.trans hk0.os, hk.tape.trans hk0.tape, hk.output.trans hk0.output, Nat.le_trans hk0.size hk.size, fun b hb hn => ?_, fun b cur ty fr h => ?_⟩
    · rw [hk.block b (Nat.lt_of_lt_of_le hb hk0.size) fun z hz => ?_, hk0.block b hb hn]
      rcases hF.2.1 b (hX b z hz).2 with h | ⟨z', h⟩
      · omega
      · exact hn z' h
    · obtain ⟨c1, h1, h2⟩ := hk0.shape b cur ty fr h
      obtain ⟨c2, h3, h4⟩ := hk.shape b c1 ty fr h1
      exact ⟨c2, h3, h4.trans h2⟩
  · obtain ⟨hp, h1, _⟩ := hW.tab
    exact ⟨hp, h1, fun g hg => by rw [ht] at hg; cases hg⟩
  · intro id r' v o n S S' h hv
    obtain ⟨r, h1, hb, hb', hty, hsz, hlen, _⟩ := hM id r' h
    have := (rep_osl h1).1 hv
    refine (rep_osl h).2 ?_
    cases hq : ρ id with
    | none => rw [hq] at this; exact this
    | some bz =>
      obtain ⟨b, z⟩ := bz
      rw [hq] at this
      obtain ⟨ad, cap, k1, k2, k3, k4, k5⟩ := this
      exact ⟨ad, cap, k1, by rw [hlen]; exact k2, k3, k4, fun hc => by rw [hsz, hty, hsame id r b z h1 hq]; exact k5 hc⟩

theorem allL_imp {α : Type} {p p' : α → Prop} (h : ∀ x, p x → p' x) : ∀ {l : List α}, allL p l → allL p' l
  | [], _ => trivial
  | x :: r, hl => ⟨h x hl.1, allL_imp h hl.2⟩
/-- What outlasts writing into slices whose places are known. -/
def Lasts (mem' : List (Id × Option Row)) (W : Nat → Prop) (x : PV) : Prop := x.flat = true ∨ (∃ id o n, x = .osl id o n ∧ ∃ r, getM mem' id = some (some r)) ∨ (∃ n y, x = .sem (Old n y) ∧ ∀ b, W b → n ≤ b) ∨
  ∃ TS TI ps q qs, x = .sem (Tree TS TI ps q qs) ∧ ∀ q' ∈ q :: qs, ∀ b, inQ q' b → ¬ W b
theorem rep_old_after {n : Nat} {y : PV} {ρ ρ' : Id → Option (Nat × Nat)} {M M' : Mem} {S S' : Nat → Prop} {w w' : World} {v : Value} (h : Rep ρ w S M v (.sem (Old n y))) (hS : ∀ b, S b → b < n → S' b ∧ w'.heap[b]? = w.heap[b]?) : Rep ρ' w' S' M' v (.sem (Old n y)) := by
  obtain ⟨h0, B, h1, h2⟩ := rep_sem.1 h
  have h3 := h2 w fun _ _ => rfl
  refine rep_sem.2 ⟨h0, B, fun b hb => (hS b (h1 b hb) (h3.1 b hb)).1, fun w2 ha => h2 w2 fun b hb => (ha b hb).trans (hS b (h1 b hb) (h3.1 b hb)).2⟩

/-- A call that writes into slices known by their places. -/
theorem big_write {P : Program} {o : Oper} {c : Call} {f : Operand} {g : FuncId} {fi ca xs : List PV} {env env' : List (Nat × PV)} {mem mem' : List (Id × Option Row)} {d : Nat} {k' : Int} (ho : o.op = .call c) (hcal : c.callee = .value f) (hev : ev (getE env) f = .fn g fi ca) (hdst : o.dst = some d)
    (hxs : fi ++ c.args.toList.map (ev (getE env)) ++ ca = xs) (hcb : Callable P g) (ht : tabG = []) (W : Nat → Prop) (Bec : PV → PV → Prop)
    (henv : allL (fun p : Nat × PV => (getE env p.1 = p.2 ∧ Lasts mem' W p.2) ∨ Bec (getE env p.1) p.2) env')
    (hM0 : ∀ id r', getM mem' id = some (some r') → ∃ r, getM mem id = some (some r))
    (hcall : ∀ (G : Nat → Prop) (ρ : Id → Option (Nat × Nat)) (w0 w : World) (X : List (Option (Nat × Nat))) (cargs : Array Value), FlOk w0 X → WRel G ρ w0 X (getM mem) w → Comps ρ w (Stab G ρ (getM mem) w) (getM mem) cargs xs →
      Calls P g cargs w fun e w' => e = .returned (.int .i64 k') ∧ ∃ XX, Keep w XX w' ∧ (∀ b z, some (b, z) ∈ XX → Stab G ρ (getM mem) w b ∧ flW b ∧ flN ≤ b ∧ W b) ∧
        (∀ x y, Bec x y → ∀ c, Rep ρ w (Stab G ρ (getM mem) w) (getM mem) c x → Rep ρ w' (Stab G ρ (getM mem') w') (getM mem') c y) ∧
        ∀ id r', getM mem' id = some (some r') → ∃ r, getM mem id = some (some r) ∧ r.bx = false ∧ r'.bx = false ∧ r'.ty = r.ty ∧ r'.sz = r.sz ∧ r'.es.length = r.es.length ∧ ∀ (i : Nat) e', r'.es[i]? = some e' → ∃ e, r.es[i]? = some e ∧ e'.length = e.length ∧
          ∀ (j : Nat) u', e'[j]? = some u' → ∃ u, e[j]? = some u ∧ ∀ c, Rep ρ w (Stab G ρ (getM mem) w) noMem c u → Rep ρ w' (Stab G ρ (getM mem') w') noMem c u') :
    BigStep P o ⟨env, mem⟩ fun st' => st' = ⟨(d, .int .i64 k') :: env', mem'⟩ := by
  rintro G w0 X N a w K Q hd hF ⟨ρ, hW, hdef, hs, hV⟩ hK
  have hf := rep_ev hV f
  rw [show ev (St.V ⟨env, mem⟩) f = .fn g fi ca from hev] at hf
  obtain ⟨vfi, vca, hfv, c1, c2⟩ := rep_fn.1 hf
  have hargs := (c1.append (comps_map hV c.args)).append c2
  rw [show fi ++ c.args.toList.map (ev (St.V ⟨env, mem⟩)) ++ ca = xs from hxs] at hargs
  obtain ⟨fn, hfn, hname, hbody⟩ := hcb
  have hrun : (execOp a.eval o).run P w = .ok (.enter g (vfi ++ c.args.map a.eval ++ vca)) w := by
    simp only [execOp, ho, resolve, hcal, hfv, Deferred.ofValue, Sem.run_bind, Sem.run_pure, Result.andThen_ok, invoke, callFunc, run_program, hfn, hname, hbody, Bool.false_eq_true, if_false]
  unfold Oper.wp
  rw [hrun]
  show Calls P g _ w _
  refine (hcall G ρ w0 w X _ hF hW hargs).mono ?_
  rintro e w' ⟨rfl, XX, hk, hX, hBec, hM⟩
  obtain ⟨W', hosl⟩ := rel_after hF hW hk ht (fun b z hz => ⟨(hX b z hz).1, (hX b z hz).2.1⟩) hM
  have hbase : ∀ t, Rep ρ w' (Stab G ρ (getM mem') w') (getM mem') (a.tmps.getD t undef) (getE env' t) := by
    intro t
    rcases getE_mem (l := env') (t := t) with h | h
    · rw [h]; exact rep_any
    · have h3 := hV t
      simp only [St.V] at h3
      rcases allL_mem henv _ h with ⟨h1, h2⟩ | h2
      rotate_left
      · exact hBec _ _ h2 _ h3
      simp only at h1 h2
      rw [h1] at h3
      rcases h2 with h2 | ⟨id, o, n, h2, r, h4⟩ | ⟨n, y, h2, h4⟩ | ⟨TS, TI, ps, q, qs, h2, h4⟩
      · exact rep_flat h2 h3
      · rw [h2] at h3 ⊢
        exact hosl id r _ o n _ _ h4 h3
      · rw [h2] at h3 ⊢
        exact rep_old_after h3 fun b hb hn => ⟨stab_after hk.size hM0 hb, hk.block b hb.1 fun z hz => by have := h4 b (hX b z hz).2.2.2; omega⟩
      · rw [h2] at h3 ⊢
        have h5 := rep_Tree.1 h3
        have h6 : ∀ q' ∈ q :: qs, ∀ b, inQ q' b → w'.heap[b]? = w.heap[b]? ∧ Stab G ρ (getM mem') w' b := fun q' hq' b hb => ⟨hk.block b (h5.inB q' hq' b hb).2 fun z hz => h4 q' hq' b hb (hX b z hz).2.2.2, stab_after hk.size hM0 (h5.inB q' hq' b hb).1⟩
        exact rep_Tree.2 (h5.at (h6 q List.mem_cons_self) fun q' hq' => h6 q' (List.mem_cons_of_mem _ hq'))
  have := put_rel (V := getE env') (d := some d) (x := .int .i64 k') (v := .int .i64 k') (fun t e => hd t (by rw [hdst]; exact e)) hdef hs hbase (Trans.refl G ρ _ w') W' (rep_int.2 rfl)
  refine hK _ _ w' rfl ?_
  rw [hdst]
  have e : St.V ⟨(d, .int .i64 k') :: env', mem'⟩ = putV (getE env') (some d) (.int .i64 k') := getE_put env' (some d) _
  rw [e]
  exact this

/-- One row lent, known by its place. -/
theorem wrel_one {w : World} {row : Row} {q : Plc} {qs : List Plc} (hr : RowOk (fun _ => True) (fun _ => q) w (ioMem [row]) row q) (htab : ∃ hp, TabOk hp) (ht : tabG = []) : WRel (fun _ => True) (fun _ => q) w (q :: qs) (ioMem [row]) w := by
  have hid : ∀ id r, ioMem [row] id = some (some r) → id = (io, 0) ∧ r = row := by
    intro id r h
    simp only [ioMem] at h
    split at h
    · rename_i h1
      obtain ⟨i1, i2⟩ := id
      simp only at h1 h
      cases i2 with
      | zero => simp at h; exact ⟨by rw [h1], h.symm⟩
      | succ n => simp at h
    · cases h
  refine ⟨?_, ?_, ?_, ⟨rfl, rfl, rfl, Nat.le_refl _, fun _ _ _ => rfl, fun b cur ty fr h => ⟨cur, h, rfl⟩⟩, fun _ _ => trivial, ?_⟩
  · intro i1 i2 r1 r2 b z1 z2 h1 h2 _ _
    rw [(hid i1 r1 h1).1, (hid i2 r2 h2).1]
  · intro id r h
    rw [(hid id r h).2]
    exact hr
  · intro id r h
    rw [if_pos (by rw [(hid id r h).1]), (hid id r h).1]
    rfl
  · obtain ⟨hp, h⟩ := htab
    exact ⟨hp, h, fun g hg => by rw [ht] at hg; cases hg⟩
/-- The row that a call gives back, where it lies. -/
theorem ret_one {al : Bool} {w w' : World} {row : Row} {q : Plc} {qs : List Plc} {v : Value} {k' : Int} {es' : List (List PV)} {ρ' : Id → Option (Nat × Nat)} (h : RetOk (fun _ => True) al w (q :: qs) w' v (.int .i64 k') [row] [es'] 0 ρ') :
    v = .int .i64 k' ∧ Keep w (q :: qs) w' ∧ ρ' (io, 0) = q ∧ RowOk (fun _ => True) ρ' w' (ioMem [{ row with es := es' }]) { row with es := es' } q := by
  have hth : thaw 0 (.int .i64 k') = (.int .i64 k', []) := rfl
  have hrel := h.rel
  have hval := h.val
  rw [hth] at hrel hval
  simp only [Mem.upds, withEs] at hrel hval
  have hM : ioMem [{ row with es := es' }] (io, 0) = some (some { row with es := es' }) := rfl
  have hn := hrel.new (io, 0) _ hM
  rw [if_pos rfl] at hn
  have hq : ρ' (io, 0) = q := by
    have : (q :: qs)[(0 : Nat)]? = some q := rfl
    rw [show ((io, 0) : Id).2 = 0 from rfl, this] at hn
    exact (Option.some.inj hn).symm
  have hr := hrel.row (io, 0) _ hM
  rw [hq] at hr
  exact ⟨rep_int.1 hval, hrel.keep, hq, hr⟩

/-- What becomes of a cell when 'es' at 'q' becomes 'es2'. -/
def Upd (q : Plc) (T : TypeId) (es es2 : List (List PV)) (u u' : PV) : Prop :=
  (u' = u ∧ (u.flat = true ∨ ∃ q' T' es3, u = .sem (LP q' T' es3) ∧ ∀ b, inQ q b → ¬ inQ q' b)) ∨ (u = .sem (LP q T es) ∧ u' = .sem (LP q T es2))
section
variable {P : Program} {ops : Array Oper} {draw : Bool} {rest : List Oper} {env : List (Nat × PV)} {mem : List (Id × Option Row)} {tr : List (List Id × List Id)} {K : St → List (List Id × List Id) → Prop}
  {d : Nat} {ty : TypeId} {pos : String} {af : Array Edge} {x y c : Operand} {T yT : TypeId}
/-- A call that makes a slice of its own, whose place is known by a name from here on. -/
theorem x_newA {f : Operand} {args : List Operand} {ats : Array TypeId} {g : FuncId} {fi ca xs ys : List PV} {u : PV} {es : List (List PV)} (hC : Con P g ys (.agg [u, .olist T 1 es])) (hu : u.flat = true) (hfl : flatE es) (hf : ev (getE env) f = .fn g fi ca)
    (hxs : fi ++ args.map (ev (getE env)) ++ ca = xs) (hsnap : AllR (SnapD 6 (getM mem) [] []) xs ys) (hfree : freeB mem d = true)
    (hk : ∀ q, NewQ (((d, 0), some ⟨T, 1, es, false⟩) :: mem) q → exec P ops false rest ⟨(d, .agg [u, .sem (LP q T es)]) :: env, ((d, 0), none) :: ((d, 0), some ⟨T, 1, es, false⟩) :: mem⟩ (([], []) :: tr) K) :
    exec P ops false (⟨some d, .call ⟨.value f, args.toArray, ats⟩, ty, pos, af, none⟩ :: rest) ⟨env, mem⟩ tr K := by
  obtain ⟨h1, h2⟩ := freeB_ok hfree
  subst hxs
  have hth : thaw d (.agg [u, .olist T 1 es]) = (.agg [u, .osl (d, 0) 0 es.length], [((d, 0), some ⟨T, 1, es, false⟩)]) := by
    cases u <;> simp [PV.flat] at hu <;> rfl
  refine x_big (fun st' => ∃ q, NewQ (((d, 0), some ⟨T, 1, es, false⟩) :: mem) q ∧ st' = ⟨(d, .agg [u, .sem (LP q T es)]) :: env, ((d, 0), none) :: ((d, 0), some ⟨T, 1, es, false⟩) :: mem⟩) rfl
    (big_call (t := d) (al := false) (fz := false) (ids := []) (rd := []) (ios := []) (Post := Ret (.agg [u, .olist T 1 es])) ⟨⟨.value f, args.toArray, ats⟩, f, g, fi, ca, ys, rfl, rfl, hf, fun t ht => by injection ht with ht; exact ht.symm, hC false,
      ⟨h1, h2, by simpa using hsnap, rfl, List.nodup_nil, fun k id row h => by simp at h, fun id _ h => by simp at h, .inr ⟨rfl, rfl, rfl⟩⟩⟩ ?_) rfl ?_
  · rintro r fin ⟨rfl, rfl⟩ _
    have hups : callUps (St.M ⟨env, mem⟩) d [] [] false (.agg [u, .olist T 1 es]) (backF (St.M ⟨env, mem⟩) [] [] []) = [((d, 0), some ⟨T, 1, es, false⟩)] := by simp [callUps, ioUps, frzUps, hth]
    rw [hups, hth]
    exact absorb (id := (d, 0)) h1 (by simp [getM]) hfl hu
  · rintro st' ⟨q, hq, rfl⟩
    exact hk q hq
/-- A call that writes into one slice whose place is known. -/
theorem x_wr1 {f : Operand} {args : List Operand} {ats : Array TypeId} {g : FuncId} {fi ca : List PV} {q : Plc} {es es2 rows : List (List PV)} {k k' : Int} {id : Id} {TS sz : Nat} (env' : List (Nat × PV)) (rows' : List (List PV))
    (hC : ContractP P g true [.osl (io, 0) 0 es.length, .int .i64 k] [⟨T, 1, es, false⟩] (fun r' fin' => r' = .int .i64 k' ∧ fin' = [es2])) (hl : es2.length = es.length) (hfl : flatE es2) (hf : ev (getE env) f = .fn g fi ca)
    (hxs : fi ++ args.map (ev (getE env)) ++ ca = [.sem (LP q T es), .int .i64 k]) (ht : tabG = []) (hw : ∀ b, inQ q b → flW b ∧ flN ≤ b) (hm : getM mem id = some (some ⟨TS, sz, rows, false⟩)) (hlr : rows'.length = rows.length)
    (hrows : ∀ (i : Nat) e', rows'[i]? = some e' → ∃ e, rows[i]? = some e ∧ e'.length = e.length ∧ ∀ (j : Nat) u', e'[j]? = some u' → ∃ u, e[j]? = some u ∧ Upd q T es es2 u u')
    (henv : allL (fun p : Nat × PV => getE env p.1 = p.2 ∧ Lasts [(id, some ⟨TS, sz, rows', false⟩)] (inQ q) p.2) env')
    (hk : exec P ops false rest ⟨(d, .int .i64 k') :: env', [(id, some ⟨TS, sz, rows', false⟩)]⟩ (([], []) :: tr) K) :
    exec P ops false (⟨some d, .call ⟨.value f, args.toArray, ats⟩, ty, pos, af, none⟩ :: rest) ⟨env, mem⟩ tr K := by
  have hid : ∀ id' r', getM [(id, some (⟨TS, sz, rows', false⟩ : Row))] id' = some (some r') → id' = id ∧ r' = ⟨TS, sz, rows', false⟩ := by
    intro id' r' h
    have := getM_mem h
    simp at this
    exact this
  refine x_big _ rfl (big_write (env' := env') (mem' := [(id, some ⟨TS, sz, rows', false⟩)]) (k' := k') rfl rfl hf rfl (by simpa using hxs) hC.1 ht (inQ q) (fun _ _ => False) (allL_imp (fun p h => .inl h) henv) (fun id' r' h => by rw [(hid id' r' h).1]; exact ⟨_, hm⟩) ?_) rfl (fun st' e => by rw [e]; exact hk)
  intro G ρ w0 w X cargs hF hW hc
  obtain ⟨v0, h1, h2⟩ := hc.2 0 _ rfl
  obtain ⟨v1, h3, h4⟩ := hc.2 1 _ rfl
  have hLP := rep_LP.1 h2
  obtain ⟨hp, hp1, _⟩ := hW.tab
  have hrow : RowOk (fun _ => True) (fun _ => q) w (ioMem [⟨T, 1, es, false⟩]) ⟨T, 1, es, false⟩ q := rowFlat_cong hLP.2.2.2 hLP.2.2.1 fun _ _ => rfl
  have hM0 : ioMem [(⟨T, 1, es, false⟩ : Row)] (io, 0) = some (some ⟨T, 1, es, false⟩) := rfl
  refine (hC.2 _ w [q] _ cargs (wrel_one hrow ⟨hp, hp1⟩ ht) rfl ⟨hc.1, fun j u hu => ?_⟩).mono ?_
  · match j, hu with
    | 0, hu => simp at hu; subst hu; exact ⟨v0, h1, (rep_osl hM0).2 hLP.2.1⟩
    | 1, hu => simp at hu; subst hu; exact ⟨v1, h3, rep_int.2 (rep_int.1 h4)⟩
    | j + 2, hu => simp at hu
  rintro e w' ⟨v, r, fin, rfl, ⟨rfl, rfl⟩, _, _, hret⟩
  obtain ⟨ρ2, hR⟩ := hret 0 (by decide)
  obtain ⟨rfl, hkeep, _, hr2⟩ := ret_one hR
  refine ⟨rfl, [q], hkeep, fun b z hz => ?_, fun _ _ h => h.elim, fun id' r' h => ?_⟩
  · have : inQ q b := ⟨z, (List.mem_singleton.1 hz).symm⟩
    exact ⟨hLP.1 b this, (hw b this).1, (hw b this).2, this⟩
  · obtain ⟨rfl, rfl⟩ := hid id' r' h
    have hst : ∀ b, Stab G ρ (getM mem) w b → Stab G ρ (getM [(id', some (⟨TS, sz, rows', false⟩ : Row))]) w' b := fun b hb => stab_after hkeep.size (fun i r h => by rw [(hid i r h).1]; exact ⟨_, hm⟩) hb
    refine ⟨_, hm, rfl, rfl, rfl, rfl, hlr, fun i e' hi => ?_⟩
    obtain ⟨e, e1, e2, e3⟩ := hrows i e' hi
    refine ⟨e, e1, e2, fun j u' hu => ?_⟩
    obtain ⟨u, u1, u2⟩ := e3 j u' hu
    refine ⟨u, u1, fun c hc => ?_⟩
    rcases u2 with ⟨rfl, hfl | ⟨q', T', es3, rfl, hd⟩⟩ | ⟨rfl, rfl⟩
    · exact rep_flat hfl hc
    · have h5 := rep_LP.1 hc
      exact rep_LP.2 (h5.cong (fun b hb => hkeep.block b (h5.lt hb) fun z hz => hd b ⟨z, (List.mem_singleton.1 hz).symm⟩ hb) fun b hb => hst b (h5.1 b hb))
    · have h5 := rep_LP.1 hc
      refine rep_LP.2 ⟨fun b hb => hst b (h5.1 b hb), ?_, rowFlat_cong hfl hr2 fun _ _ => rfl, hfl⟩
      have h6 := h5.2.1
      cases q with
      | none => exact ⟨h6.1, rfl, by rw [hl]; exact h6.2.2⟩
      | some bz =>
        obtain ⟨b, z⟩ := bz
        obtain ⟨ad, cap, k1, k2, k3, k4, k5⟩ := h6
        refine ⟨ad, cap, by rw [hl]; exact k1, Nat.le_of_eq (Nat.zero_add _), by rw [hl]; exact k3, k4, fun hc => ?_⟩
        obtain ⟨a1, cur, a2, a3⟩ := k5 hc
        obtain ⟨cur', b1, b2⟩ := hkeep.shape b cur T _ a2
        exact ⟨a1, cur', b1, b2.trans a3⟩
end
end
end Go.Vs
