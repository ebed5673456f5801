/- VALUE SEMANTICS, 13: a call by contract. -/
import Derived.Test.YtfkhcoipoooccaaVs12
set_option linter.unusedVariables false
set_option linter.unusedSimpArgs false
namespace Go.Vs

def ioUps (M : Mem) : List Id → List (List (List PV)) → List (Id × Option Row)
  | id :: ids, e :: es => (match M id with | some (some r) => [(id, some { r with es := e })] | _ => []) ++ ioUps M ids es
  | _, _ => []
def frzUps (fz : Bool) (rd : List Id) : List (Id × Option Row) := if fz then rd.map fun id => (id, none) else []
def callUps (M : Mem) (t : Nat) (ids rd : List Id) (fz : Bool) (r : PV) (fin : List (List (List PV))) : List (Id × Option Row) :=
  (thaw t r).2 ++ (ioUps M ids fin ++ frzUps fz rd)

structure CallOk (M : Mem) (t : Nat) (xs : List PV) (al fz : Bool) (ys : List PV) (ids rd : List Id) (ios : List Row) : Prop where
  tio : t ≠ io
  free : ∀ k, M (t, k) = none
  snap : AllR (SnapD 6 M ids rd) xs ys
  len : ids.length = ios.length
  nodup : ids.Nodup
  lent : ∀ (k : Nat) id row, ids[k]? = some id → ios[k]? = some row → ∃ r, M id = some (some r) ∧ row = { r with bx := false } ∧ (r.bx = false ∨ ∀ e ∈ r.es, e.all PV.pure1 = true)
  apart : ∀ id ∈ rd, id ∉ ids
  mode : (fz = true ∧ (∀ id ∈ rd, id.1 ≠ io ∧ ∃ r, M id = some (some r)) ∧ rd.Nodup) ∨ (fz = false ∧ al = false ∧ ids = [])

theorem upds_append (M : Mem) (a b : List (Id × Option Row)) : M.upds (a ++ b) = (M.upds b).upds a := by
  induction a with
  | nil => rfl
  | cons p r ih => simp only [List.cons_append, Mem.upds, ih]
theorem upds_other (M : Mem) : ∀ (l : List (Id × Option Row)) (id : Id), (∀ p ∈ l, p.1 ≠ id) → M.upds l id = M id
  | [], _, _ => rfl
  | p :: l, id, h => by
    simp only [Mem.upds, Mem.set]
    rw [if_neg (fun e => h p (by simp) e.symm)]
    exact upds_other M l id fun q hq => h q (by simp [hq])
theorem upds_some {M : Mem} : ∀ (l : List (Id × Option Row)) (id : Id), (∃ p ∈ l, p.1 = id) → M.upds l id = noMem.upds l id ∧ ∃ x, noMem.upds l id = some x
  | [], _, h => by simp at h
  | p :: l, id, h => by
    simp only [Mem.upds, Mem.set]
    by_cases he : id = p.1
    · simp [he]
    · rw [if_neg he, if_neg he]
      exact upds_some l id (by
        obtain ⟨q, hq, e⟩ := h
        rcases List.mem_cons.1 hq with rfl | hq
        · exact absurd e.symm he
        · exact ⟨q, hq, e⟩)
theorem upds_or (M : Mem) (l : List (Id × Option Row)) (id : Id) : (M.upds l id = noMem.upds l id ∧ ∃ x, noMem.upds l id = some x) ∨ (M.upds l id = M id ∧ noMem.upds l id = none) := by
  by_cases h : ∃ p ∈ l, p.1 = id
  · exact .inl (upds_some l id h)
  · have h' : ∀ p ∈ l, p.1 ≠ id := fun p hp e => h ⟨p, hp, e⟩
    exact .inr ⟨upds_other M l id h', upds_other noMem l id h'⟩

theorem thawL_fst (t : Nat) : ∀ (xs : List PV) (k : Nat), ∀ p ∈ (thawL t k xs).2.2, p.1.1 = t
  | [], k, p, h => by simp [thawL] at h
  | x :: r, k, p, h => by
    cases x <;> simp only [thawL] at h <;> first
      | exact thawL_fst t r _ p h
      | (rcases List.mem_cons.1 h with rfl | h
         · rfl
         · exact thawL_fst t r _ p h)
theorem thaw1_fst (t k : Nat) (x : PV) : ∀ p ∈ (thaw1 t k x).2.2, p.1.1 = t := by
  intro p h
  cases x <;> simp only [thaw1] at h <;> first
    | (simp at h; done)
    | exact thawL_fst t _ _ p h
    | (simp at h; subst h; rfl)
theorem thawT_fst (t : Nat) : ∀ (xs : List PV) (k : Nat), ∀ p ∈ (thawT t k xs).2.2, p.1.1 = t
  | [], k, p, h => by simp [thawT] at h
  | x :: r, k, p, h => by
    simp only [thawT] at h
    rcases List.mem_append.1 h with h | h
    · exact thaw1_fst t k x p h
    · exact thawT_fst t r _ p h
theorem thaw_fst (t : Nat) (x : PV) : ∀ p ∈ (thaw t x).2, p.1.1 = t := by
  intro p h
  cases x <;> simp only [thaw] at h <;> first
    | exact thawT_fst t _ _ p h
    | exact thaw1_fst t 0 _ p h
theorem thaw_none {t : Nat} {x : PV} {id : Id} (h : id.1 ≠ t) : noMem.upds (thaw t x).2 id = none :=
  upds_other noMem _ _ fun p hp e => h (by rw [← e]; exact thaw_fst t x p hp)

theorem ioUps_fst (M : Mem) : ∀ (ids : List Id) (fin : List (List (List PV))), ∀ p ∈ ioUps M ids fin, p.1 ∈ ids
  | [], fin, p, h => by simp [ioUps] at h
  | id :: ids, [], p, h => by simp [ioUps] at h
  | id :: ids, e :: es, p, h => by
    simp only [ioUps] at h
    rcases List.mem_append.1 h with h | h
    · split at h
      · simp at h; subst h; simp
      · simp at h
    · exact List.mem_cons_of_mem _ (ioUps_fst M ids es p h)
theorem ioUps_at (N M : Mem) : ∀ (ids : List Id) (fin : List (List (List PV))) (k : Nat) id r e, ids.Nodup → ids[k]? = some id → M id = some (some r) → fin[k]? = some e → N.upds (ioUps M ids fin) id = some (some { r with es := e })
  | [], fin, k, id, r, e, _, h, _, _ => by simp at h
  | i :: ids, [], k, id, r, e, _, _, _, h => by simp at h
  | i :: ids, f :: fin, k, id, r, e, hn, h, hM, hf => by
    simp only [ioUps]
    rw [upds_append]
    cases k with
    | zero =>
      simp at h hf
      subst h hf
      rw [hM]
      simp [Mem.upds, Mem.set]
    | succ k =>
      simp at h hf
      have hne : id ≠ i := fun he => (List.nodup_cons.1 hn).1 (by rw [← he]; exact List.mem_of_getElem? h)
      rw [upds_other _ _ id (by
        intro p hp
        split at hp
        · simp at hp; subst hp; exact fun e => hne e.symm
        · simp at hp)]
      exact ioUps_at N M ids fin k id r e (List.nodup_cons.1 hn).2 h hM hf
theorem withEs_at : ∀ (ios : List Row) (fin : List (List (List PV))) (k : Nat), fin.length = ios.length → (withEs ios fin)[k]? = (ios[k]?).bind fun row => (fin[k]?).map fun e => { row with es := e }
  | [], [], k, _ => by simp [withEs]
  | r :: rs, e :: es, k, h => by
    cases k with
    | zero => simp [withEs]
    | succ k => simpa [withEs] using withEs_at rs es k (by simpa using h)
  | [], _ :: _, k, h => by simp at h
  | _ :: _, [], k, h => by simp at h

theorem nodup_inj : ∀ (l : List Id) (i j : Nat) (x : Id), l.Nodup → l[i]? = some x → l[j]? = some x → i = j
  | [], i, j, x, _, h, _ => by simp at h
  | y :: l, i, j, x, hn, h1, h2 => by
    have hn' := List.nodup_cons.1 hn
    cases i with
    | zero =>
      cases j with
      | zero => rfl
      | succ j =>
        simp at h1 h2
        exact absurd (List.mem_of_getElem? h2) (by rw [← h1]; exact hn'.1)
    | succ i =>
      cases j with
      | zero =>
        simp at h1 h2
        exact absurd (List.mem_of_getElem? h1) (by rw [← h2]; exact hn'.1)
      | succ j => rw [nodup_inj l i j x hn'.2 (by simpa using h1) (by simpa using h2)]

section
variable {P : Program} {G : Nat → Prop} {ρ : Id → Option (Nat × Nat)} {w0 w : World} {X : List (Option (Nat × Nat))} {M : Mem}

theorem freeze_all (hW : WRel G ρ w0 X M w) : ∀ (rd : List Id), (∀ id ∈ rd, ∃ r, M id = some (some r)) → rd.Nodup → Trans G ρ M w ρ (M.upds (rd.map fun id => (id, none))) w ∧ WRel G ρ w0 X (M.upds (rd.map fun id => (id, none))) w
  | [], _, _ => ⟨Trans.refl _ _ _ _, hW⟩
  | id :: rd, h, hn => by
    obtain ⟨T, W⟩ := freeze_all hW rd (fun i hi => h i (by simp [hi])) (List.nodup_cons.1 hn).2
    obtain ⟨r, hr⟩ := h id (by simp)
    have hlive : M.upds (rd.map fun id => (id, none)) id = some (some r) := by
      rw [upds_other _ _ id (by
        intro p hp
        obtain ⟨i, hi, rfl⟩ := List.mem_map.1 hp
        exact fun e => (List.nodup_cons.1 hn).1 (by rw [← e]; exact hi))]
      exact hr
    obtain ⟨T2, W2⟩ := W.dead hlive
    exact ⟨T.trans T2, W2⟩

theorem call_sound (hW : WRel G ρ w0 X M w) {f : FuncId} {cargs : Array Value} {xs ys : List PV} {t : Nat} {al fz : Bool} {ids rd : List Id} {ios : List Row} {Post : PV → List (List (List PV)) → Prop}
    (hc : Comps ρ w (Stab G ρ M w) M cargs xs) (ok : CallOk M t xs al fz ys ids rd ios) (hC : ContractP P f al ys ios Post) :
    Calls P f cargs w fun e w' => ∃ v r fin ρ2, e = .returned v ∧ Post r fin ∧ fin.length = ios.length ∧ Trans G ρ M w ρ2 (M.upds (callUps M t ids rd fz r fin)) w' ∧
      WRel G ρ2 w0 X (M.upds (callUps M t ids rd fz r fin)) w' ∧ Rep ρ2 w' (Stab G ρ2 (M.upds (callUps M t ids rd fz r fin)) w') (M.upds (callUps M t ids rd fz r fin)) v (thaw t r).1 := by
  have hidl : ∀ (k : Nat) id, ids[k]? = some id → ∃ r row, M id = some (some r) ∧ ios[k]? = some row ∧ row = { r with bx := false } ∧ (r.bx = false ∨ ∀ e ∈ r.es, e.all PV.pure1 = true) := by
    intro k id hk
    have hlt : k < ios.length := by rw [← ok.len]; exact (List.getElem?_eq_some_iff.1 hk).1
    obtain ⟨r, h1, h2, h3⟩ := ok.lent k id ios[k] hk (List.getElem?_eq_getElem hlt)
    exact ⟨r, _, h1, List.getElem?_eq_getElem hlt, h2, h3⟩
  have hrdl : ∀ id ∈ rd, fz = true → id.1 ≠ io ∧ ∃ r, M id = some (some r) := by
    intro id hid hfz
    rcases ok.mode with ⟨_, h, _⟩ | ⟨h, _⟩
    · exact h id hid
    · rw [hfz] at h; cases h
  -- the rows that are given up
  obtain ⟨T1, W1⟩ : Trans G ρ M w ρ (M.upds (frzUps fz rd)) w ∧ WRel G ρ w0 X (M.upds (frzUps fz rd)) w := by
    rcases ok.mode with ⟨rfl, h, hn⟩ | ⟨rfl, _⟩
    · exact freeze_all hW rd (fun id hid => (h id hid).2) hn
    · exact ⟨Trans.refl _ _ _ _, hW⟩
  have hM1 : ∀ id, M.upds (frzUps fz rd) id = (if fz = true ∧ id ∈ rd then some none else M id) := by
    intro id
    cases fz with
    | false => simp [frzUps, Mem.upds]
    | true =>
      simp only [frzUps, if_true, true_and]
      by_cases hid : id ∈ rd
      · rw [if_pos hid]
        have : ∀ l : List Id, id ∈ l → M.upds (l.map fun id => (id, none)) id = some none := by
          intro l
          induction l with
          | nil => intro h; simp at h
          | cons i l ih =>
            intro h
            simp only [List.map_cons, Mem.upds, Mem.set]
            by_cases he : id = i
            · simp [he]
            · rw [if_neg he]
              exact ih (by rcases List.mem_cons.1 h with h | h; exact absurd h he; exact h)
        exact this rd hid
      · rw [if_neg hid]
        exact upds_other _ _ id fun p hp e => hid (by obtain ⟨i, hi, rfl⟩ := List.mem_map.1 hp; rw [← e]; exact hi)
  let ρio : Id → Option (Nat × Nat) := fun id => if id.1 = io then (ids[id.2]?).bind ρ else none
  let G' : Nat → Prop := fun b => fz = false ∨ Stab G ρ (M.upds (frzUps fz rd)) w b ∨ w.heap.size ≤ b
  have hρio : ∀ (k : Nat) id, ids[k]? = some id → ρio (io, k) = ρ id := fun k id hk => by simp [ρio, hk]
  have hiolive : ∀ id row, ioMem ios id = some (some row) → ∃ id' r, id = (io, id.2) ∧ ids[id.2]? = some id' ∧ M id' = some (some r) ∧ row = { r with bx := false } ∧ (r.bx = false ∨ ∀ e ∈ r.es, e.all PV.pure1 = true) ∧ ρio id = ρ id' := by
    intro id row h
    simp only [ioMem] at h
    split at h
    · rename_i hid
      obtain ⟨row', h1, h2⟩ := Option.map_eq_some_iff.1 h
      injection h2 with h2
      subst h2
      have hlt : id.2 < ids.length := by rw [ok.len]; exact (List.getElem?_eq_some_iff.1 h1).1
      obtain ⟨r, g1, g2, g3⟩ := ok.lent id.2 ids[id.2] row' (List.getElem?_eq_getElem hlt) h1
      have hid' : id = (io, id.2) := by rw [← hid]
      exact ⟨_, r, hid', List.getElem?_eq_getElem hlt, g1, g2, g3, (congrArg ρio hid').trans (hρio _ _ (List.getElem?_eq_getElem hlt))⟩
    · cases h
  have hS : ∀ b, Stab G ρ M w b → Stab G' ρio (ioMem ios) w b := by
    intro b hb
    refine ⟨hb.1, fun id row z hl => ?_, .inr (.inl (T1.stab b hb).1)⟩
    obtain ⟨id', r, _, _, g1, _, _, g2⟩ := hiolive id row hl
    rw [g2]
    exact hb.2.1 id' r z g1
  have hId : ∀ id ∈ rd, ∀ r b z, M id = some (some r) → ρ id = some (b, z) → Stab G' ρio (ioMem ios) w b := by
    intro id hid r b z hM hρ
    refine ⟨hW.lt hM hρ, fun id2 row z2 hl hh => ?_, ?_⟩
    · obtain ⟨id', r', _, hk, g1, _, _, g2⟩ := hiolive id2 row hl
      rw [g2] at hh
      have := hW.inj id id' r r' b z z2 hM g1 hρ hh
      exact ok.apart id hid (by rw [this]; exact List.mem_of_getElem? hk)
    · by_cases hfz : fz = true
      · refine .inr (.inl ⟨hW.lt hM hρ, fun id2 r2 z2 hl hh => ?_, ?_⟩)
        · rw [hM1] at hl
          split at hl
          · cases hl
          · rename_i hne
            have := hW.inj id id2 r r2 b z z2 hM hl hρ hh
            exact hne ⟨hfz, by rw [← this]; exact hid⟩
        · have := hW.new id r hM
          rw [if_neg (hrdl id hid hfz).1] at this
          exact hW.good b (this b z hρ)
      · exact .inl (by simpa using hfz)
  have hentry : WRel G' ρio w (ids.map ρ) (ioMem ios) w := by
    refine ⟨?_, ?_, ?_, ⟨rfl, rfl, rfl, Nat.le_refl _, fun _ _ _ => rfl, fun b cur ty fr h => ⟨cur, h, rfl⟩⟩, fun b hb => .inr (.inr hb)⟩
    · intro i1 i2 r1 r2 b z1 z2 h1 h2 k1 k2
      obtain ⟨j1, q1, e1, l1, m1, _, _, p1⟩ := hiolive i1 r1 h1
      obtain ⟨j2, q2, e2, l2, m2, _, _, p2⟩ := hiolive i2 r2 h2
      rw [p1] at k1
      rw [p2] at k2
      have := hW.inj j1 j2 q1 q2 b z1 z2 m1 m2 k1 k2
      subst this
      have h12 : i1.2 = i2.2 := by
        exact nodup_inj ids _ _ _ ok.nodup l1 l2
      rw [e1, e2, h12]
    · intro id row hl
      obtain ⟨id', r, e1, l1, m1, rfl, hp, p1⟩ := hiolive id row hl
      rw [p1]
      have hr := hW.row id' r m1
      cases hb : ρ id' with
      | none => rw [hb] at hr; exact ⟨hr.1, rfl⟩
      | some bz =>
        obtain ⟨b, z⟩ := bz
        rw [hb] at hr
        obtain ⟨cur, C, g1, g2, g3, g4, g5, g6⟩ := hr
        refine ⟨cur, C, g1, g2, g3, g4, g5, fun i e hi => ⟨(g6 i e hi).1, fun j u hu => ?_⟩⟩
        obtain ⟨c, k1, k2, k3⟩ := (g6 i e hi).2 j u hu
        refine ⟨c, k1, k2, ?_⟩
        have : Rep ρ w (Stab G ρ M w) noMem c u := by
          rcases hp with hp | hp
          · rw [hp] at k3; exact k3
          · exact rep_pure (repB_M k3) (List.all_eq_true.1 (hp e (List.mem_of_getElem? hi)) u (List.mem_of_getElem? hu))
        exact this.pureMono fun b hb => ⟨hS b hb, rfl⟩
    · intro id row hl
      obtain ⟨id', r, e1, l1, m1, _, _, p1⟩ := hiolive id row hl
      rw [if_pos (by rw [e1])]
      rw [List.getElem?_map, l1, p1]
      rfl
  have hargs : Comps ρio w (Stab G' ρio (ioMem ios) w) (ioMem ios) cargs ys :=
    comps_snap (snap_sound hW hS hId 6 ids (ioMem ios) ρio (fun k id hk => by
      obtain ⟨r, row, h1, h2, h3, _⟩ := hidl k id hk
      exact ⟨r, row, h1, by simp [ioMem, h2], by rw [h3], by rw [h3], by rw [h3], hρio k id hk⟩)) ok.snap hc
  refine (hC.2 G' w (ids.map ρ) ρio cargs hentry (by simp [ok.len]) hargs).mono ?_
  rintro e w' ⟨v, r, fin, rfl, hPost, hfl, hfel, hret⟩
  obtain ⟨ρ', hR⟩ := hret t ok.tio
  have hkeep := hR.rel.keep
  let ρ2 : Id → Option (Nat × Nat) := fun id => if id.1 = t then ρ' id else ρ id
  -- the new memory, case by case
  have hM2 : M.upds (callUps M t ids rd fz r fin) = ((M.upds (frzUps fz rd)).upds (ioUps M ids fin)).upds (thaw t r).2 := by
    simp only [callUps, upds_append]
  have m2t : ∀ id, id.1 = t → M.upds (callUps M t ids rd fz r fin) id = noMem.upds (thaw t r).2 id := by
    intro id hid
    rw [hM2]
    rcases upds_or ((M.upds (frzUps fz rd)).upds (ioUps M ids fin)) (thaw t r).2 id with ⟨h, _⟩ | ⟨h, h2⟩
    · exact h
    · rw [h, h2, upds_other _ _ id, hM1, if_neg, show id = (t, id.2) from by rw [← hid]]
      · exact ok.free _
      · rintro ⟨hfz, hm⟩
        obtain ⟨_, r0, h0⟩ := hrdl id hm hfz
        rw [show id = (t, id.2) from by rw [← hid], ok.free] at h0
        cases h0
      · intro p hp he
        have := ioUps_fst M ids fin p hp
        rw [he] at this
        obtain ⟨k, hk⟩ := List.getElem?_of_mem this
        obtain ⟨r0, _, h0, _⟩ := hidl k id hk
        rw [show id = (t, id.2) from by rw [← hid], ok.free] at h0
        cases h0
  have m2io : ∀ (k : Nat) id, ids[k]? = some id → ∃ r0 e, M id = some (some r0) ∧ fin[k]? = some e ∧ e.length = r0.es.length ∧ id.1 ≠ t ∧ M.upds (callUps M t ids rd fz r fin) id = some (some { r0 with es := e }) ∧
      (ioMem (withEs ios fin)).upds (thaw t r).2 (io, k) = some (some { r0 with es := e, bx := false }) ∧ (r0.bx = false ∨ ∀ e ∈ r0.es, e.all PV.pure1 = true) := by
    intro k id hk
    obtain ⟨r0, row, h1, h2, h3, h4⟩ := hidl k id hk
    have hlt : k < fin.length := by rw [hfl]; exact (List.getElem?_eq_some_iff.1 h2).1
    have hf : fin[k]? = some fin[k] := List.getElem?_eq_getElem hlt
    have hit : id.1 ≠ t := by
      intro he
      rw [show id = (t, id.2) from by rw [← he], ok.free] at h1
      cases h1
    refine ⟨r0, fin[k], h1, hf, by rw [hfel k row fin[k] h2 hf, h3], hit, ?_, ?_, h4⟩
    · rw [hM2, upds_other _ (thaw t r).2 id (fun p hp he => hit (by rw [← he]; exact thaw_fst t r p hp))]
      exact ioUps_at _ M ids fin k id r0 fin[k] ok.nodup hk h1 hf
    · rw [upds_other _ (thaw t r).2 _ (fun p hp he => ok.tio (by rw [← thaw_fst t r p hp, he]))]
      simp [ioMem, withEs_at ios fin k hfl, h2, hf, h3]
  have m2old : ∀ id, id.1 ≠ t → id ∉ ids → M.upds (callUps M t ids rd fz r fin) id = (if fz = true ∧ id ∈ rd then some none else M id) := by
    intro id hit hni
    rw [hM2, upds_other _ (thaw t r).2 id (fun p hp he => hit (by rw [← he]; exact thaw_fst t r p hp)), upds_other _ _ id (fun p hp he => hni (by rw [← he]; exact ioUps_fst M ids fin p hp)), hM1]
  have old : ∀ id r2, id.1 ≠ t → M.upds (callUps M t ids rd fz r fin) id = some (some r2) → ∃ r0, M id = some (some r0) ∧ (id ∉ ids → r2 = r0 ∧ (M.upds (frzUps fz rd)) id = some (some r0)) := by
    intro id r2 hit h
    by_cases hi : id ∈ ids
    · obtain ⟨k, hk⟩ := List.getElem?_of_mem hi
      obtain ⟨r0, _, h0, _⟩ := hidl k id hk
      exact ⟨r0, h0, fun hn => absurd hi hn⟩
    · rw [m2old id hit hi] at h
      split at h
      · cases h
      · rename_i hne
        exact ⟨r2, h, fun _ => ⟨rfl, by rw [hM1, if_neg hne]; exact h⟩⟩
  have retT : ∀ id row, id.1 = t → noMem.upds (thaw t r).2 id = some (some row) → (ioMem (withEs ios fin)).upds (thaw t r).2 id = some (some row) := by
    intro id row hid h
    rcases upds_or (ioMem (withEs ios fin)) (thaw t r).2 id with ⟨h1, _⟩ | ⟨_, h2⟩
    · rw [h1]; exact h
    · rw [h2] at h; cases h
  have newT : ∀ id row b z, id.1 = t → noMem.upds (thaw t r).2 id = some (some row) → ρ' id = some (b, z) → w.heap.size ≤ b := by
    intro id row b z hid h hb
    have := hR.rel.new id row (retT id row hid h)
    rw [if_neg (by rw [hid]; exact ok.tio)] at this
    exact this b z hb
  have hXc : ∀ b, (∀ id ∈ ids, ∀ z, ρ id ≠ some (b, z)) → ∀ z, some (b, z) ∉ ids.map ρ := by
    intro b h z hm
    obtain ⟨id, hid, he⟩ := List.mem_map.1 hm
    exact h id hid z he
  have same : ∀ b, b < w.heap.size → (∀ id ∈ ids, ∀ z, ρ id ≠ some (b, z)) → w'.heap[b]? = w.heap[b]? := fun b hb h => hkeep.block b hb (hXc b h)
  have ρio' : ∀ (k : Nat) id, ids[k]? = some id → ρ' (io, k) = ρ id := by
    intro k id hk
    obtain ⟨r0, e, _, _, _, _, _, h7, _⟩ := m2io k id hk
    have := hR.rel.new (io, k) _ h7
    rw [if_pos rfl, List.getElem?_map, hk] at this
    injection this with this
    exact this.symm
  -- what is stable behind the call
  have stab2 : ∀ b, Stab G' ρ' ((ioMem (withEs ios fin)).upds (thaw t r).2) w' b → (fz = true ∨ w.heap.size ≤ b) → Stab G ρ2 (M.upds (callUps M t ids rd fz r fin)) w' b := by
    intro b hb hmode
    have hG : Stab G ρ (M.upds (frzUps fz rd)) w b ∨ w.heap.size ≤ b := by
      rcases hmode with hm | hm
      · rcases hb.2.2 with h | h
        · rw [hm] at h; cases h
        · exact h
      · exact .inr hm
    refine ⟨hb.1, fun id r2 z hl hh => ?_, ?_⟩
    · by_cases hit : id.1 = t
      · simp only [ρ2, hit, if_true] at hh
        rw [m2t id hit] at hl
        exact hb.2.1 id r2 z (retT id r2 hit hl) hh
      · simp only [ρ2, hit, if_false] at hh
        by_cases hi : id ∈ ids
        · obtain ⟨k, hk⟩ := List.getElem?_of_mem hi
          obtain ⟨r0, e, _, _, _, _, _, h7, _⟩ := m2io k id hk
          exact hb.2.1 (io, k) _ z h7 (by rw [ρio' k id hk]; exact hh)
        · obtain ⟨r0, h0, h1⟩ := old id r2 hit hl
          rcases hG with hG | hG
          · exact hG.2.1 id r0 z (h1 hi).2 hh
          · have := hW.lt h0 hh
            omega
    · rcases hG with hG | hG
      · exact hG.2.2
      · exact hW.good b (Nat.le_trans hW.keep.size hG)
  have stab1 : ∀ b, Stab G ρ M w b → Stab G ρ2 (M.upds (callUps M t ids rd fz r fin)) w' b ∧ w'.heap[b]? = w.heap[b]? := by
    intro b hb
    have hids : ∀ id ∈ ids, ∀ z, ρ id ≠ some (b, z) := fun id hid z => by
      obtain ⟨k, hk⟩ := List.getElem?_of_mem hid
      obtain ⟨r0, _, h0, _⟩ := hidl k id hk
      exact hb.2.1 id r0 z h0
    refine ⟨⟨Nat.lt_of_lt_of_le hb.1 hkeep.size, fun id r2 z hl hh => ?_, hb.2.2⟩, same b hb.1 hids⟩
    by_cases hit : id.1 = t
    · simp only [ρ2, hit, if_true] at hh
      rw [m2t id hit] at hl
      have := newT id r2 b z hit hl hh
      have := hb.1
      omega
    · simp only [ρ2, hit, if_false] at hh
      obtain ⟨r0, h0, _⟩ := old id r2 hit hl
      exact hb.2.1 id r0 z h0 hh
  have T2 : Trans G ρ M w ρ2 (M.upds (callUps M t ids rd fz r fin)) w' := by
    refine ⟨stab1, fun id => ?_⟩
    cases hMi : M id with
    | none => trivial
    | some o =>
      have hit : id.1 ≠ t := by
        intro he
        rw [show id = (t, id.2) from by rw [← he], ok.free] at hMi
        cases hMi
      by_cases hi : id ∈ ids
      · obtain ⟨k, hk⟩ := List.getElem?_of_mem hi
        obtain ⟨r0, e, h0, h1, h2, _, h5, _, _⟩ := m2io k id hk
        rw [h0] at hMi
        injection hMi with hMi
        subst hMi
        refine .inr ⟨{ r0 with es := e }, h5, rfl, rfl, Nat.le_of_eq h2.symm, by simp [ρ2, hit], fun b z hb cur hcur => ?_⟩
        exact hkeep.shape b cur r0.ty (0, 0) hcur
      · cases o with
        | none =>
          show M.upds (callUps M t ids rd fz r fin) id = some none
          rw [m2old id hit hi, hMi]
          simp
        | some r0 =>
          show M.upds (callUps M t ids rd fz r fin) id = some none ∨ _
          rw [m2old id hit hi, hMi]
          split
          · exact .inl rfl
          · exact .inr ⟨r0, rfl, rfl, rfl, Nat.le_refl _, by simp [ρ2, hit], fun b z hb cur hcur => hkeep.shape b cur r0.ty (0, 0) hcur⟩
  have hmodeR : ∀ b, RetS G' al ρ' w ((ioMem (withEs ios fin)).upds (thaw t r).2) w' b → Stab G ρ2 (M.upds (callUps M t ids rd fz r fin)) w' b := by
    intro b hb
    refine stab2 b hb.1 ?_
    rcases ok.mode with ⟨h, _⟩ | ⟨_, h, _⟩
    · exact .inl h
    · exact .inr (hb.2 h)
  refine ⟨v, r, fin, ρ2, rfl, hPost, hfl, T2, ⟨?_, ?_, ?_, ?_, hW.good⟩, ?_⟩
  · intro i1 i2 r1 r2 b z1 z2 h1 h2 k1 k2
    by_cases e1 : i1.1 = t <;> by_cases e2 : i2.1 = t
    · simp only [ρ2, e1, e2, if_true] at k1 k2
      rw [m2t _ e1] at h1
      rw [m2t _ e2] at h2
      exact hR.rel.inj i1 i2 r1 r2 b z1 z2 (retT _ _ e1 h1) (retT _ _ e2 h2) k1 k2
    · exfalso
      simp only [ρ2, e1, e2, if_true, if_false] at k1 k2
      rw [m2t _ e1] at h1
      obtain ⟨r0, h0, _⟩ := old i2 r2 e2 h2
      have := newT i1 r1 b z1 e1 h1 k1
      have := hW.lt h0 k2
      omega
    · exfalso
      simp only [ρ2, e1, e2, if_true, if_false] at k1 k2
      rw [m2t _ e2] at h2
      obtain ⟨r0, h0, _⟩ := old i1 r1 e1 h1
      have := newT i2 r2 b z2 e2 h2 k2
      have := hW.lt h0 k1
      omega
    · simp only [ρ2, e1, e2, if_false] at k1 k2
      obtain ⟨q1, h3, _⟩ := old i1 r1 e1 h1
      obtain ⟨q2, h4, _⟩ := old i2 r2 e2 h2
      exact hW.inj i1 i2 q1 q2 b z1 z2 h3 h4 k1 k2
  · intro id r2 hl
    by_cases hit : id.1 = t
    · rw [m2t id hit] at hl
      simp only [ρ2, hit, if_true]
      have hrow := hR.rel.row id r2 (retT id r2 hit hl)
      cases hb : ρ' id with
      | none => rw [hb] at hrow; exact hrow
      | some bz =>
        obtain ⟨b, z⟩ := bz
        rw [hb] at hrow
        obtain ⟨cur, C, g1, g2, g3, g4, g5, g6⟩ := hrow
        obtain ⟨hbx, cur2, q1, q2⟩ := hR.rows id r2 b z hl hb
        rw [g1] at q1
        injection q1 with q1
        injection q1 with q1
        subst q1
        refine ⟨cur, C, g1, g2, g3, g4, g5, fun i e hi => ⟨(g6 i e hi).1, fun j u hu => ?_⟩⟩
        obtain ⟨c, k1, k2, _⟩ := (g6 i e hi).2 j u hu
        obtain ⟨c', k3, k4⟩ := q2 i e hi j u hu
        rw [k1] at k3
        injection k3 with k3
        subst k3
        refine ⟨c, k1, k2, ?_⟩
        rw [hbx]
        exact k4.pureMono fun b hb => ⟨hmodeR b hb, rfl⟩
    · simp only [ρ2, hit, if_false]
      by_cases hi : id ∈ ids
      · obtain ⟨k, hk⟩ := List.getElem?_of_mem hi
        obtain ⟨r0, e, h0, h1, h2, _, h5, h6, h7⟩ := m2io k id hk
        rw [h5] at hl
        injection hl with hl
        injection hl with hl
        subst hl
        have hrow := hR.rel.row (io, k) _ h6
        rw [ρio' k id hk] at hrow
        have hfz : fz = true := by
          rcases ok.mode with ⟨h, _⟩ | ⟨_, _, h⟩
          · exact h
          · rw [h] at hi; cases hi
        cases hb : ρ id with
        | none =>
          rw [hb] at hrow
          have hr0 := hW.row id r0 h0
          rw [hb] at hr0
          exact ⟨hrow.1, hr0.2⟩
        | some bz =>
          obtain ⟨b, z⟩ := bz
          rw [hb] at hrow
          obtain ⟨cur, C, g1, g2, g3, g4, g5, g6⟩ := hrow
          refine ⟨cur, C, g1, g2, g3, g4, g5, fun i e' hi' => ⟨(g6 i e' hi').1, fun j u hu => ?_⟩⟩
          obtain ⟨c, k1, k2, k3⟩ := (g6 i e' hi').2 j u hu
          refine ⟨c, k1, k2, ?_⟩
          have k4 : Rep ρ' w' (Stab G' ρ' ((ioMem (withEs ios fin)).upds (thaw t r).2) w') noMem c u := k3
          have k5 : Rep ρ2 w' (Stab G ρ2 (M.upds (callUps M t ids rd fz r fin)) w') noMem c u := k4.pureMono fun b hb => ⟨stab2 b hb (.inl hfz), rfl⟩
          cases r0.bx
          · exact k5
          · exact k5.pureMono fun b hb => ⟨hb, rfl⟩
      · obtain ⟨r0, h0, h1⟩ := old id r2 hit hl
        obtain ⟨rfl, _⟩ := h1 hi
        refine (hW.row id r2 h0).mono T2 fun b z hb => ?_
        refine same b (hW.lt h0 hb) fun id2 hid2 z2 hh => ?_
        obtain ⟨k, hk⟩ := List.getElem?_of_mem hid2
        obtain ⟨r3, _, h3, _⟩ := hidl k id2 hk
        exact hi (by rw [hW.inj id id2 r2 r3 b z z2 h0 h3 hb hh]; exact hid2)
  · intro id r2 hl
    by_cases hit : id.1 = t
    · rw [if_neg (by rw [hit]; exact ok.tio)]
      intro b z hb
      simp only [ρ2, hit, if_true] at hb
      rw [m2t id hit] at hl
      exact Nat.le_trans hW.keep.size (newT id r2 b z hit hl hb)
    · obtain ⟨r0, h0, _⟩ := old id r2 hit hl
      simp only [ρ2, hit, if_false]
      exact hW.new id r0 h0
  · refine ⟨hkeep.os.trans hW.keep.os, hkeep.tape.trans hW.keep.tape, hkeep.output.trans hW.keep.output, Nat.le_trans hW.keep.size hkeep.size, fun b hb hX => ?_, fun b cur ty fr hb => ?_⟩
    · refine (same b (Nat.lt_of_lt_of_le hb hW.keep.size) fun id hid z hh => ?_).trans (hW.keep.block b hb hX)
      obtain ⟨k, hk⟩ := List.getElem?_of_mem hid
      obtain ⟨r3, _, h3, _⟩ := hidl k id hk
      have := hW.new id r3 h3
      split at this
      · exact hX z (by rw [← hh]; exact List.mem_of_getElem? this)
      · have := this b z hh
        omega
    · obtain ⟨c1, k1, k2⟩ := hW.keep.shape b cur ty fr hb
      obtain ⟨c2, k3, k4⟩ := hkeep.shape b c1 ty fr k1
      exact ⟨c2, k3, k4.trans k2⟩
  · refine hR.val.mono (fun b hb => ⟨hmodeR b hb, rfl⟩) fun id => ?_
    cases hMi : noMem.upds (thaw t r).2 id with
    | none => trivial
    | some o =>
      have hit : id.1 = t := by
        by_cases h : id.1 = t
        · exact h
        · rw [thaw_none h] at hMi; cases hMi
      cases o with
      | none => show M.upds (callUps M t ids rd fz r fin) id = some none; rw [m2t id hit, hMi]
      | some row => exact .inr ⟨row, by rw [m2t id hit, hMi], rfl, rfl, Nat.le_refl _, by simp [ρ2, hit], fun b z hb cur hcur => ⟨cur, hcur, rfl⟩⟩
end
end Go.Vs
