/- VALUE SEMANTICS, 15: an operation does not see what it does not touch. -/
import Derived.Test.YthjlolbooehhcaaVs14
set_option linter.unusedVariables false
set_option linter.unusedSimpArgs false
namespace Go.Vs

def StepOk (P : Program) (ops : Array Oper) (o : Oper) (V : Nat → PV) (M : Mem) (e : Eff) (wr : List Id) : Prop :=
  (wantedPV ops V o = some false ∧ e = ⟨.tuple [], [], []⟩ ∧ wr = []) ∨
  (wantedPV ops V o = some true ∧ ((OpStep P o.dst o.op V M e ∧ wr = e.ups.map (·.1)) ∨
    ∃ t al fz ids rd ios Post r fin, CallTo P o V M t al fz ids rd ios Post ∧ (∀ r' fin', Post r' fin' → r' = r ∧ fin' = fin) ∧
      e = ⟨(thaw t r).1, callUps M t ids rd fz r (backF M ids ios fin), ids ++ rd⟩ ∧ wr = (t, 0) :: e.ups.map (·.1)))

section
variable {P : Program} {ops : Array Oper} {o : Oper} {V V' : Nat → PV} {M M' : Mem} {f : Eff}

theorem bound_congr {x : Option Operand} {d n : Nat} (h : ∀ y ∈ x.toArray, ev V' y = ev V y) (hb : bound V x d n) : bound V' x d n := by
  cases x with
  | none => exact hb
  | some y => obtain ⟨k, e⟩ := hb; exact ⟨k, (h y (by simp)).trans e⟩

theorem rids_own {u : PV} {id : Id} {i off : Nat} (h : u = .own id i off) : ∀ l, u ∈ l → id ∈ rids l := by
  intro l
  induction l with
  | nil => intro h; simp at h
  | cons x l ih =>
    intro hm
    rcases List.mem_cons.1 hm with rfl | hm
    · subst h; simp [rids]
    · have := ih hm
      cases x <;> simp [rids, this]
theorem rids_osl {u : PV} {id : Id} {i off : Nat} (h : u = .osl id i off) : ∀ l, u ∈ l → id ∈ rids l := by
  intro l
  induction l with
  | nil => intro h; simp at h
  | cons x l ih =>
    intro hm
    rcases List.mem_cons.1 hm with rfl | hm
    · subst h; simp [rids]
    · have := ih hm
      cases x <;> simp [rids, this]
theorem rids_mono : ∀ (l l2 : List PV), (∀ u ∈ l, u ∈ l2) → ∀ id ∈ rids l, id ∈ rids l2 := by
  intro l l2 hl id hid
  induction l with
  | nil => simp [rids] at hid
  | cons x l ih =>
    have hl' : ∀ u ∈ l, u ∈ l2 := fun u hu => hl u (by simp [hu])
    have hx := hl x (by simp)
    cases x
    case own i k o =>
      simp only [rids] at hid
      rcases List.mem_cons.1 hid with h | h
      · rw [h]; exact rids_own rfl l2 hx
      · exact ih hl' h
    case osl i k o =>
      simp only [rids] at hid
      rcases List.mem_cons.1 hid with h | h
      · rw [h]; exact rids_osl rfl l2 hx
      · exact ih hl' h
    all_goals
      simp only [rids] at hid
      exact ih hl' hid
theorem live_congr {l : List PV} (hM : ∀ id ∈ rids l, M' id = M id) (h : ∀ u ∈ l, live M u) : ∀ u ∈ l, live M' u := by
  intro u hu
  have := h u hu
  cases hux : u <;> rw [hux] at this <;> try trivial
  case own id i off => obtain ⟨r, hr⟩ := this; exact ⟨r, (hM id (rids_own hux l hu)).trans hr⟩
  case osl id i off => obtain ⟨r, hr⟩ := this; exact ⟨r, (hM id (rids_osl hux l hu)).trans hr⟩

theorem opStep_congr {d : Option Tmp} {op : Op} (hV : ∀ x ∈ op.operands, ev V' x = ev V x) (hM : ∀ id ∈ f.rd ++ f.ups.map (·.1), M' id = M id) (h : OpStep P d op V M f) : OpStep P d op V' M' f := by
  cases op <;> simp only [OpStep] at h ⊢ <;> simp only [Op.operands] at hV
  case move x => rw [hV x (by simp)]; exact h
  case assign x => rw [hV x (by simp)]; exact h
  case pick c a b => rw [hV c (by simp), hV a (by simp), hV b (by simp)]; exact h
  case nilCheck x =>
    rw [hV x (by simp)]
    rcases h with h | ⟨id, i, off, r, e, hm, rfl⟩ | h
    · exact .inl h
    · exact .inr (.inl ⟨id, i, off, r, e, (hM id (by simp)).trans hm, rfl⟩)
    · exact .inr (.inr h)
  case extract x i => rw [hV x (by simp)]; exact h
  case binOp o T x y yT => rw [hV x (by simp), hV y (by simp)]; exact h
  case unOp u T x => rw [hV x (by simp)]; exact h
  case convert s t x => rw [hV x (by simp)]; exact h
  case box T x =>
    rw [hV x (by simp)]
    obtain ⟨t, h1, h2, h3, h4, h5, h6, h7, rfl⟩ := h
    exact ⟨t, h1, h2, (hM _ (by simp)).trans h3, h4, h5, h6, live_congr (fun id hid => hM id (by simp [hid])) h7, rfl⟩
  case alloc T =>
    obtain ⟨t, cs, h1, h2, h3, h4, h5, h6, h7, rfl⟩ := h
    exact ⟨t, cs, h1, h2, (hM _ (by simp)).trans h3, h4, h5, h6, h7, rfl⟩
  case build T ps =>
    obtain ⟨places, zs, cs, h1, h2, h3, rfl⟩ := h
    have he : ∀ p ∈ ps.toList, ev V' p.2 = ev V p.2 := fun p hp => hV p.2 (by simp; exact ⟨p.1, Array.mem_toList_iff.1 hp⟩)
    have e1 : (ps.toList.map fun p => (p.1, ev V' p.2)) = ps.toList.map fun p => (p.1, ev V p.2) := List.map_congr_left fun p hp => by rw [he p hp]
    have e2 : (ps.toList.flatMap fun p => (ev V' p.2).cells) = ps.toList.flatMap fun p => (ev V p.2).cells := by
      have : ∀ l : List (Nat × Operand), (∀ p ∈ l, ev V' p.2 = ev V p.2) → (l.flatMap fun p => (ev V' p.2).cells) = l.flatMap fun p => (ev V p.2).cells := by
        intro l
        induction l with
        | nil => intro _; rfl
        | cons q l ih => intro hq; simp only [List.flatMap_cons]; rw [hq q (by simp), ih fun p hp => hq p (by simp [hp])]
      exact this _ he
    refine ⟨places, zs, cs, fun p hp => ?_, h2, by rw [e1]; exact h3, by rw [e2]⟩
    rw [he p hp]
    refine ⟨(h1 p hp).1, live_congr (fun id hid => hM id (List.mem_append_left _ ?_)) (h1 p hp).2⟩
    exact rids_mono _ _ (fun u hu => List.mem_flatMap.2 ⟨p, hp, hu⟩) id hid
  case buildSlice T n ps =>
    obtain ⟨t, e, sz, by_, h1, h2, h3, h4, h5, h6, h7, h8, rfl⟩ := h
    have he : ∀ p ∈ ps.toList, ev V' p.2 = ev V p.2 := fun p hp => hV p.2 (by simp; exact ⟨p.1, Array.mem_toList_iff.1 hp⟩)
    refine ⟨t, e, sz, by_, h1, h2, (hM _ (by simp)).trans h3, h4, h5, h6, h7, fun p hp => by rw [he p hp]; exact h8 p hp, ?_⟩
    congr 5
    exact List.map_congr_left fun p hp => by rw [he p hp]
  case load T x =>
    rw [hV x (by simp)]
    rcases h with ⟨hT, h | ⟨id, i, off, r, e, u, h1, h2, h3, h4, rfl⟩⟩ | ⟨k, hT, h | ⟨id, i, off, r, e, h1, h2, h3, h4, rfl⟩⟩
    · exact .inl ⟨hT, .inl h⟩
    · exact .inl ⟨hT, .inr ⟨id, i, off, r, e, u, h1, (hM id (by simp)).trans h2, h3, h4, rfl⟩⟩
    · exact .inr ⟨k, hT, .inl h⟩
    · exact .inr ⟨k, hT, .inr ⟨id, i, off, r, e, h1, (hM id (by simp)).trans h2, h3, h4, rfl⟩⟩
  case store T x y =>
    rw [hV x (by simp), hV y (by simp)]
    obtain ⟨id, i, off, r, e, k, h1, h2, h3, h4, h5, h6, h7, h8, h9, rfl⟩ := h
    exact ⟨id, i, off, r, e, k, h1, (hM id (by simp)).trans h2, h3, h4, h5, h6, h7, live_congr (fun id hid => hM id (by simp [hid])) h8, h9, rfl⟩
  case fieldAddr T x i =>
    rw [hV x (by simp)]
    obtain ⟨off, hT, h | ⟨id, k, o, r, h1, h2, rfl⟩⟩ := h
    · exact ⟨off, hT, .inl h⟩
    · exact ⟨off, hT, .inr ⟨id, k, o, r, h1, (hM id (by simp)).trans h2, rfl⟩⟩
  case indexAddr T x ix =>
    rw [hV x (by simp), hV ix (by simp)]
    obtain ⟨e, sz, by_, k, n, hT, h1, h2, h | ⟨id, o, m, r, h3, h4, h5, h6, rfl⟩⟩ := h
    · exact ⟨e, sz, by_, k, n, hT, h1, h2, .inl h⟩
    · exact ⟨e, sz, by_, k, n, hT, h1, h2, .inr ⟨id, o, m, r, h3, (hM id (by simp)).trans h4, h5, h6, rfl⟩⟩
  case index T x ix => rw [hV x (by simp), hV ix (by simp)]; exact h
  case slice T x lo hi mx =>
    rw [hV x (by simp)]
    obtain ⟨rfl, l, hh, h1, h2, h⟩ := h
    have hlo : bound V' lo 0 l := bound_congr (fun y hy => hV y (by simp at hy ⊢; simp [hy])) h1
    have hhi : ∀ d, bound V hi d hh → bound V' hi d hh := fun d h => bound_congr (fun y hy => hV y (by simp at hy ⊢; simp [hy])) h
    refine ⟨rfl, l, hh, hlo, h2, ?_⟩
    rcases h with ⟨e, sz, by_, es, hT, h3, h4, h5, rfl⟩ | ⟨e, sz, by_, id, o, n, r, hT, h3, h4, h5, h6, h7, rfl⟩ | ⟨hT, s, h3, h4, h5, rfl⟩
    · exact .inl ⟨e, sz, by_, es, hT, h3, hhi _ h4, h5, rfl⟩
    · exact .inr (.inl ⟨e, sz, by_, id, o, n, r, hT, h3, (hM id (by simp)).trans h4, h5, hhi _ h6, h7, rfl⟩)
    · exact .inr (.inr ⟨hT, s, h3, hhi _ h4, h5, rfl⟩)
  case makeFunc fn fi ca =>
    obtain ⟨g, rfl, rfl⟩ := h
    refine ⟨g, rfl, ?_⟩
    rw [List.map_congr_left (f := ev V) (g := ev V') (l := fi.toList) fun x hx => (hV x (by simp at hx ⊢; simp [hx])).symm,
      List.map_congr_left (f := ev V) (g := ev V') (l := ca.toList) fun x hx => (hV x (by simp at hx ⊢; simp [hx])).symm]
  case makeSlice T l c =>
    rw [hV l (by simp), hV c (by simp)]
    obtain ⟨t, e, sz, by_, zs, k, k', n, h1, h2, h3, h4, h5, h6, h7, h8, h9, h10, h11, rfl⟩ := h
    exact ⟨t, e, sz, by_, zs, k, k', n, h1, h2, (hM _ (by simp)).trans h3, h4, h5, h6, h7, h8, h9, h10, h11, rfl⟩
  case call c =>
    have hVa : ∀ x, x ∈ c.args → ev V' x = ev V x := fun x hx => hV x (by simp [Call.operands]; exact .inr hx)
    unfold CallStep at h ⊢
    split at h <;> rename_i hb
    · obtain ⟨x, T, n, rd, e1, e2, rfl, h⟩ := h
      have hx := hVa x (by rw [e1]; simp)
      refine ⟨x, T, n, rd, e1, e2, rfl, ?_⟩
      rw [hx]
      rcases h with ⟨e, hT, h | ⟨id, o, r, h1, h2, rfl⟩ | h⟩ | h
      · exact .inl ⟨e, hT, .inl h⟩
      · exact .inl ⟨e, hT, .inr (.inl ⟨id, o, r, h1, (hM id (by simp)).trans h2, rfl⟩)⟩
      · exact .inl ⟨e, hT, .inr (.inr h)⟩
      · exact .inr h
    · obtain ⟨s, x, T, t, e, sz, by_, news, rd, e1, e2, h1, h2, h3, h4, h5, h6, h7⟩ := h
      have hs := hVa s (by rw [e1]; simp)
      have hx := hVa x (by rw [e1]; simp)
      have src : (∀ id ∈ rd, M' id = M id) → SrcStep M' (ev V x) sz news rd := by
        intro hrd
        rcases h6 with h | ⟨id, o, n, r, q1, q2, q3, q4, q5, rfl⟩ | h
        · exact .inl h
        · exact .inr (.inl ⟨id, o, n, r, q1, (hrd id (by simp)).trans q2, q3, q4, q5, rfl⟩)
        · exact .inr (.inr h)
      rcases h7 with ⟨q1, q2, q3, rfl⟩ | ⟨id, o, n, r, q1, q2, q3, q4, q5, q6, q7, q8, q9, rfl⟩
      · refine ⟨s, x, T, t, e, sz, by_, news, rd, e1, e2, h1, h2, (hM _ (by simp)).trans h3, h4, h5, ?_, ?_⟩
        · rw [hx]; exact src fun id hid => hM id (by simp [hid])
        · rw [hs]; exact .inl ⟨q1, q2, q3, rfl⟩
      · refine ⟨s, x, T, t, e, sz, by_, news, rd, e1, e2, h1, h2, (hM _ (by simp)).trans h3, h4, h5, ?_, ?_⟩
        · rw [hx]; exact src fun id hid => hM id (by simp [hid])
        · rw [hs]; exact .inr ⟨id, o, n, r, q1, (hM id (by simp)).trans q2, q3, q4, q5, q6, q7, q8, q9, rfl⟩
    · obtain ⟨x, y, k, m, n, e1, h1, h2, rfl⟩ := h
      exact ⟨x, y, k, m, n, e1, (hVa x (by rw [e1]; simp)).trans h1, (hVa y (by rw [e1]; simp)).trans h2, rfl⟩
    · obtain ⟨x, y, k, m, n, e1, h1, h2, rfl⟩ := h
      exact ⟨x, y, k, m, n, e1, (hVa x (by rw [e1]; simp)).trans h1, (hVa y (by rw [e1]; simp)).trans h2, rfl⟩
    · exact h

theorem snapD_congr : ∀ (d : Nat) (ids rd : List Id) (x y : PV), (∀ id ∈ rd, M' id = M id) → SnapD d M ids rd x y → SnapD d M' ids rd x y
  | 0, _, _, _, _, _, h => h
  | d + 1, ids, rd, x, y, hM, h => by
    have all : ∀ (ids : List Id) (xs ys : List PV), AllR (SnapD d M ids rd) xs ys → AllR (SnapD d M' ids rd) xs ys := by
      intro ids xs
      induction xs with
      | nil => intro ys h; cases ys <;> exact h
      | cons x xs ih => intro ys h; cases ys with
        | nil => exact h
        | cons y ys => exact ⟨snapD_congr d ids rd x y hM h.1, ih ys h.2⟩
    cases x <;> cases y <;> simp only [SnapD] at h ⊢ <;> try exact h
    · exact all ids _ _ h
    · exact ⟨h.1, all ids _ _ h.2.1, all ids _ _ h.2.2⟩
    · obtain ⟨h1, r, e, h2, h3, h4⟩ := h
      exact ⟨h1, r, e, (hM _ h1).trans h2, h3, all [] _ _ h4⟩
    · obtain ⟨h1, r, h2, h3⟩ := h
      exact ⟨h1, r, (hM _ h1).trans h2, h3⟩

theorem ioUps_congr : ∀ (ids : List Id) (fin : List (List (List PV))), (∀ id ∈ ids, M' id = M id) → ioUps M' ids fin = ioUps M ids fin
  | [], _, _ => by simp [ioUps]
  | id :: ids, [], _ => by simp [ioUps]
  | id :: ids, e :: es, h => by
    simp only [ioUps]
    rw [h id (by simp), ioUps_congr ids es fun i hi => h i (by simp [hi])]

theorem backF_congr : ∀ (ids : List Id) (ios : List Row) (fin : List (List (List PV))), (∀ id ∈ ids, M' id = M id) → backF M' ids ios fin = backF M ids ios fin
  | id :: ids, row :: rs, f :: fs, h => by
    simp only [backF]
    rw [h id (by simp), backF_congr ids rs fs fun i hi => h i (by simp [hi])]
  | [], _, _, _ => by simp [backF]
  | _ :: _, [], _, _ => by simp [backF]
  | _ :: _, _ :: _, [], _ => by simp [backF]
theorem stepOk_congr {e : Eff} {wr : List Id} (hV : ∀ s ∈ o.looksAt ops, V' s = V s) (hM : ∀ id : Id, id.1 ∈ (e.rd ++ wr).map (·.1) → M' id = M id) (h : StepOk P ops o V M e wr) : StepOk P ops o V' M' e wr := by
  have hev : ∀ x ∈ o.op.operands, ev V' x = ev V x := by
    intro x hx
    cases x with
    | tmp t => exact hV t (List.mem_append_left _ (List.mem_filterMap.2 ⟨.tmp t, Array.mem_toList_iff.2 hx, rfl⟩))
    | _ => rfl
  have hw : wantedPV ops V' o = wantedPV ops V o := by
    unfold wantedPV
    cases hg : o.guard with
    | none => rfl
    | some jb =>
      obtain ⟨j, b⟩ := jb
      simp only
      cases hd : (ops[j]?).bind (·.dst) with
      | none => rfl
      | some d => simp only [hV d (List.mem_append_right _ (by simp [hg, hd]))]
  have hM' : ∀ id, id ∈ e.rd ∨ id ∈ wr → M' id = M id := fun id h => hM id (List.mem_map.2 ⟨id, List.mem_append.2 h, rfl⟩)
  unfold StepOk at h ⊢
  rw [hw]
  rcases h with h | ⟨h1, ⟨h2, rfl⟩ | ⟨t, al, fz, ids, rd, ios, Post, r, fin, ⟨c, x, g, fi, ca, ys, q1, q2, q3, q4, q5, q6⟩, huniq, rfl, rfl⟩⟩
  · exact .inl h
  · exact .inr ⟨h1, .inl ⟨opStep_congr hev (fun id hid => hM' id (List.mem_append.1 hid)) h2, rfl⟩⟩
  · have hids : ∀ id ∈ ids, M' id = M id := fun id hid => hM' id (.inl (List.mem_append_left _ hid))
    have hrd : ∀ id ∈ rd, M' id = M id := fun id hid => hM' id (.inl (List.mem_append_right _ hid))
    have hop : o.op.operands = c.operands := by rw [q1]; rfl
    have hargs : c.args.toList.map (ev V') = c.args.toList.map (ev V) := List.map_congr_left fun y hy => hev y (by rw [hop]; simp [Call.operands]; exact .inr (Array.mem_toList_iff.1 hy))
    have hallc : ∀ xs ys, AllR (SnapD 6 M ids rd) xs ys → AllR (SnapD 6 M' ids rd) xs ys := by
      intro xs
      induction xs with
      | nil => intro ys h; cases ys <;> exact h
      | cons x xs ih => intro ys h; cases ys with
        | nil => exact h
        | cons y ys => exact ⟨snapD_congr 6 ids rd x y hrd h.1, ih ys h.2⟩
    have hups : callUps M' t ids rd fz r (backF M' ids ios fin) = callUps M t ids rd fz r (backF M ids ios fin) := by rw [backF_congr ids ios fin hids]; simp only [callUps, ioUps_congr ids _ hids]
    refine .inr ⟨h1, .inr ⟨t, al, fz, ids, rd, ios, Post, r, fin, ⟨c, x, g, fi, ca, ys, q1, q2, ?_, q4, q5, ?_⟩, huniq, by rw [hups], rfl⟩⟩
    · rw [hev x (by rw [hop]; simp [Call.operands, q2])]; exact q3
    · refine ⟨q6.tio, fun k => ?_, by rw [hargs]; exact hallc _ _ q6.snap, q6.len, q6.nodup, fun k id row h3 h4 => ?_, q6.apart, ?_⟩
      · rw [hM (t, k) (List.mem_map.2 ⟨(t, 0), by simp, rfl⟩)]; exact q6.free k
      · obtain ⟨r0, g1, g2⟩ := q6.lent k id row h3 h4
        exact ⟨r0, (hids id (List.mem_of_getElem? h3)).trans g1, g2⟩
      · rcases q6.mode with ⟨m1, m2, m3⟩ | m
        · exact .inl ⟨m1, fun id hid => let ⟨a1, r0, a2⟩ := m2 id hid; ⟨a1, r0, (hrd id hid).trans a2⟩, m3⟩
        · exact .inr m
end
end Go.Vs
