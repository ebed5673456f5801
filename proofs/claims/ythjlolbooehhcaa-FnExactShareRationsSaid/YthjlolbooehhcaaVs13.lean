/- VALUE SEMANTICS, 13: a call by contract. -/
import Derived.Test.YthjlolbooehhcaaVs12
set_option linter.unusedVariables false
set_option linter.unusedSimpArgs false
namespace Go.Vs

def ioUps (M : Mem) : List Id → List (List (List PV)) → List (Id × Option Row)
  | id :: ids, e :: es => (match M id with | some (some r) => [(id, some { r with es := e })] | _ => []) ++ ioUps M ids es
  | _, _ => []
def frzUps (fz : Bool) (rd : List Id) : List (Id × Option Row) := if fz then rd.map fun id => (id, none) else []
def callUps (M : Mem) (t : Nat) (ids rd : List Id) (fz : Bool) (r : PV) (fin : List (List (List PV))) : List (Id × Option Row) :=
  (thaw t r).2 ++ (ioUps M ids fin ++ frzUps fz rd)

/-- A lent row's name is that of the caller's row. -/
def toIds (ids : List Id) : Id → Id := fun id => if id.1 = io then (ids[id.2]?).getD id else id
def ioIds (n : Nat) : List Id := (List.range n).map fun k => (io, k)
/-- What a callee is lent: a row of pure cells, or a box that is only read and leads to what else is lent. -/
def Lend (ids : List Id) (r row : Row) : Prop :=
  (row = { r with bx := false } ∧ (r.bx = false ∨ ∀ e ∈ r.es, e.all PV.pure1 = true)) ∨
  (r.bx = true ∧ row.bx = true ∧ row.ty = r.ty ∧ row.sz = r.sz ∧ r.es = row.es.map (fun e => e.map (subD 5 (toIds ids))) ∧ ∀ e ∈ row.es, ∀ u ∈ e, refsD 5 (ioIds ids.length) u = true)
theorem Lend.facts {ids : List Id} {r row : Row} (h : Lend ids r row) : row.sz = r.sz ∧ row.ty = r.ty ∧ row.es.length = r.es.length := by
  rcases h with ⟨rfl, _⟩ | ⟨_, _, h1, h2, h3, _⟩
  · exact ⟨rfl, rfl, rfl⟩
  · exact ⟨h2, h1, by rw [h3, List.length_map]⟩
/-- What the lent rows hold behind a call, under the caller's names. -/
def backF (M : Mem) : List Id → List Row → List (List (List PV)) → List (List (List PV))
  | id :: ids, row :: rs, f :: fs => (cond row.bx (match M id with | some (some r) => r.es | _ => f) f) :: backF M ids rs fs
  | _, _, _ => []
theorem backF_at (M : Mem) : ∀ (ids : List Id) (ios : List Row) (fin : List (List (List PV))) (k : Nat) id row e, ids[k]? = some id → ios[k]? = some row → fin[k]? = some e →
    (backF M ids ios fin)[k]? = some (cond row.bx (match M id with | some (some r) => r.es | _ => e) e)
  | i :: ids, r :: rs, f :: fs, k, id, row, e, h1, h2, h3 => by
    cases k with
    | zero =>
      simp only [List.getElem?_cons_zero, Option.some.injEq] at h1 h2 h3
      subst h1; subst h2; subst h3
      rfl
    | succ k =>
      simp only [List.getElem?_cons_succ] at h1 h2 h3
      exact backF_at M ids rs fs k id row e h1 h2 h3
  | [], _, _, k, _, _, _, h1, _, _ => by simp at h1
  | _ :: _, [], _, k, _, _, _, _, h2, _ => by simp at h2
  | _ :: _, _ :: _, [], k, _, _, _, _, _, h3 => by simp at h3
theorem backF_flat (M N : Mem) : ∀ (ids : List Id) (ios : List Row) (fin : List (List (List PV))), ids.length = ios.length → (∀ row ∈ ios, row.bx = false) → ioUps N ids (backF M ids ios fin) = ioUps N ids fin
  | i :: ids, r :: rs, f :: fs, hl, h => by
    simp only [backF, ioUps]
    rw [backF_flat M N ids rs fs (by simpa using hl) (fun row hr => h row (by simp [hr])), h r (by simp)]
    rfl
  | [], [], _, _, _ => by simp [ioUps]
  | [], _ :: _, _, hl, _ => by simp at hl
  | _ :: _, [], _, hl, _ => by simp at hl
  | _ :: _, _ :: _, [], _, _ => by simp [ioUps, backF]
theorem ioIds_any {n : Nat} {id : Id} (h : ((ioIds n).any fun k => Nat.beq k.1 id.1 && Nat.beq k.2 id.2) = true) : id = (io, id.2) ∧ id.2 < n := by
  obtain ⟨k, hk, he⟩ := List.any_eq_true.1 h
  obtain ⟨j, hj, rfl⟩ := List.mem_map.1 hk
  rw [Bool.and_eq_true] at he
  have h1 := Nat.eq_of_beq_eq_true he.1
  have h2 := Nat.eq_of_beq_eq_true he.2
  simp only at h1 h2
  subst h2
  exact ⟨Prod.ext h1.symm rfl, List.mem_range.1 hj⟩
theorem ownOk_same {r r' : Row} {v : Value} {i off : Nat} {ob : Option (Nat × Nat)} (h : r'.sz = r.sz) : OwnOk r v i off ob ↔ OwnOk r' v i off ob := by
  cases ob with
  | none => exact Iff.rfl
  | some bz => obtain ⟨b, z⟩ := bz; simp only [OwnOk, h]
theorem oslOk_same {w : World} {r r' : Row} {v : Value} {o n : Nat} {ob : Option (Nat × Nat)} (h1 : r'.sz = r.sz) (h2 : r'.ty = r.ty) (h3 : r'.es.length = r.es.length) : OslOk w r v o n ob ↔ OslOk w r' v o n ob := by
  cases ob with
  | none => exact Iff.rfl
  | some bz => obtain ⟨b, z⟩ := bz; simp only [OslOk, h1, h2, h3]
/-- Values under other names of own rows. -/
theorem rep_ren {f : Id → Id} {ρ ρ' : Id → Option (Nat × Nat)} {w : World} {S S' : Nat → Prop} {M M' : Mem} (ids : List Id)
    (hM : ∀ id, (ids.any fun k => Nat.beq k.1 id.1 && Nat.beq k.2 id.2) = true → ∃ r r', M (f id) = some (some r) ∧ M' id = some (some r') ∧ r'.sz = r.sz ∧ r'.ty = r.ty ∧ r'.es.length = r.es.length ∧ ρ' id = ρ (f id)) :
    ∀ (d : Nat) (x : PV) (v : Value), refsD d ids x = true → ((∀ b, S b → S' b) → Rep ρ w S M v (subD d f x) → Rep ρ' w S' M' v x) ∧ ((∀ b, S' b → S b) → Rep ρ' w S' M' v x → Rep ρ w S M v (subD d f x))
  | 0, _, _, h => by cases h
  | d + 1, x, v, h => by
    have comps : ∀ (xs : List PV) (cs : Array Value), xs.all (refsD d ids) = true → ((∀ b, S b → S' b) → Comps ρ w S M cs (xs.map (subD d f)) → Comps ρ' w S' M' cs xs) ∧ ((∀ b, S' b → S b) → Comps ρ' w S' M' cs xs → Comps ρ w S M cs (xs.map (subD d f))) := fun xs cs ha =>
      ⟨fun hS hc => ⟨by rw [hc.1, List.length_map], fun j u hu => by
        obtain ⟨c, h1, h2⟩ := hc.2 j (subD d f u) (by rw [List.getElem?_map, hu]; rfl)
        exact ⟨c, h1, (rep_ren ids hM d u c (List.all_eq_true.1 ha u (List.mem_of_getElem? hu))).1 hS h2⟩⟩,
       fun hS hc => ⟨by rw [hc.1, List.length_map], fun j u hu => by
        rw [List.getElem?_map] at hu
        obtain ⟨u', hu', rfl⟩ := Option.map_eq_some_iff.1 hu
        obtain ⟨c, h1, h2⟩ := hc.2 j u' hu'
        exact ⟨c, h1, (rep_ren ids hM d u' c (List.all_eq_true.1 ha u' (List.mem_of_getElem? hu'))).2 hS h2⟩⟩⟩
    cases x <;> simp only [refsD] at h <;> simp only [subD]
    case any => exact ⟨fun _ _ => rep_any, fun _ _ => rep_any⟩
    case int => exact ⟨fun _ hx => rep_int.2 (rep_int.1 hx), fun _ hx => rep_int.2 (rep_int.1 hx)⟩
    case bool => exact ⟨fun _ hx => rep_bool.2 (rep_bool.1 hx), fun _ hx => rep_bool.2 (rep_bool.1 hx)⟩
    case str => exact ⟨fun _ hx => rep_str.2 (rep_str.1 hx), fun _ hx => rep_str.2 (rep_str.1 hx)⟩
    case nil => exact ⟨fun _ hx => rep_nil.2 (rep_nil.1 hx), fun _ hx => rep_nil.2 (rep_nil.1 hx)⟩
    case olist => exact ⟨fun _ hx => absurd hx rep_olist, fun _ hx => absurd hx rep_olist⟩
    case agg xs =>
      refine ⟨fun hS hx => ?_, fun hS hx => ?_⟩
      · obtain ⟨cs, rfl, hc⟩ := rep_agg.1 hx; exact rep_agg.2 ⟨cs, rfl, (comps xs cs h).1 hS hc⟩
      · obtain ⟨cs, rfl, hc⟩ := rep_agg.1 hx; exact rep_agg.2 ⟨cs, rfl, (comps xs cs h).2 hS hc⟩
    case tuple xs =>
      refine ⟨fun hS hx => ?_, fun hS hx => ?_⟩
      · obtain ⟨cs, rfl, hc⟩ := rep_tuple.1 hx; exact rep_tuple.2 ⟨cs, rfl, (comps xs cs h).1 hS hc⟩
      · obtain ⟨cs, rfl, hc⟩ := rep_tuple.1 hx; exact rep_tuple.2 ⟨cs, rfl, (comps xs cs h).2 hS hc⟩
    case fn g a b =>
      rw [Bool.and_eq_true] at h
      refine ⟨fun hS hx => ?_, fun hS hx => ?_⟩
      · obtain ⟨p, q, rfl, h1, h2⟩ := rep_fn.1 hx; exact rep_fn.2 ⟨p, q, rfl, (comps _ _ h.1).1 hS h1, (comps _ _ h.2).1 hS h2⟩
      · obtain ⟨p, q, rfl, h1, h2⟩ := rep_fn.1 hx; exact rep_fn.2 ⟨p, q, rfl, (comps _ _ h.1).2 hS h1, (comps _ _ h.2).2 hS h2⟩
    case list sz es =>
      have key : ∀ {ρ ρ' : Id → Option (Nat × Nat)} {S S' : Nat → Prop} {M M' : Mem}, (∀ b, S b → S' b) → Rep ρ w S M v (.list sz es) → Rep ρ' w S' M' v (.list sz es) := fun {ρ ρ' S S' M M'} hS hx => by
        obtain ⟨a, cap, e, hc, hh⟩ := rep_list.1 hx
        exact rep_list.2 ⟨a, cap, e, hc, fun hne => let ⟨ad, h1, h2, h3⟩ := hh hne; ⟨ad, h1, hS _ h2, fun i el hi => ⟨(h3 i el hi).1, fun j u hu => let ⟨c, g1, g2, g3⟩ := (h3 i el hi).2 j u hu; ⟨c, g1, g2, g3.pureMono fun b hb => ⟨hS b hb, rfl⟩⟩⟩⟩⟩
      exact ⟨fun hS hx => key hS hx, fun hS hx => key hS hx⟩
    case ptr cs =>
      have key : ∀ {ρ ρ' : Id → Option (Nat × Nat)} {S S' : Nat → Prop} {M M' : Mem}, (∀ b, S b → S' b) → Rep ρ w S M v (.ptr cs) → Rep ρ' w S' M' v (.ptr cs) := fun {ρ ρ' S S' M M'} hS hx => by
        obtain ⟨ad, e, h1, hc⟩ := rep_ptr.1 hx
        exact rep_ptr.2 ⟨ad, e, hS _ h1, fun j u hu => let ⟨c, g1, g2, g3⟩ := hc j u hu; ⟨c, g1, g2, g3.pureMono fun b hb => ⟨hS b hb, rfl⟩⟩⟩
      exact ⟨fun hS hx => key hS hx, fun hS hx => key hS hx⟩
    case own id i off =>
      obtain ⟨r, r', h1, h2, h3, h4, h5, h6⟩ := hM id h
      exact ⟨fun _ hx => (rep_own h2).2 (by rw [h6]; exact (ownOk_same h3).1 ((rep_own h1).1 hx)), fun _ hx => (rep_own h1).2 (by rw [← h6]; exact (ownOk_same h3).2 ((rep_own h2).1 hx))⟩
    case osl id o n =>
      obtain ⟨r, r', h1, h2, h3, h4, h5, h6⟩ := hM id h
      exact ⟨fun _ hx => (rep_osl h2).2 (by rw [h6]; exact (oslOk_same h3 h4 h5).1 ((rep_osl h1).1 hx)), fun _ hx => (rep_osl h1).2 (by rw [← h6]; exact (oslOk_same h3 h4 h5).2 ((rep_osl h2).1 hx))⟩

structure CallOk (M : Mem) (t : Nat) (xs : List PV) (al fz : Bool) (ys : List PV) (ids rd : List Id) (ios : List Row) : Prop where
  tio : t ≠ io
  free : ∀ k, M (t, k) = none
  snap : AllR (SnapD 6 M ids rd) xs ys
  len : ids.length = ios.length
  nodup : ids.Nodup
  lent : ∀ (k : Nat) id row, ids[k]? = some id → ios[k]? = some row → ∃ r, M id = some (some r) ∧ Lend ids r row
  apart : ∀ id ∈ rd, id ∉ ids
  mode : (fz = true ∧ (∀ id ∈ rd, id.1 ≠ io ∧ ∃ r, M id = some (some r)) ∧ rd.Nodup) ∨ (fz = false ∧ al = false ∧ ids = [])

theorem upds_append (M : Mem) (a b : List (Id × Option Row)) : M.upds (a ++ b) = (M.upds b).upds a := by
  induction a with
  | nil => rfl
  | cons p r ih => simp only [List.cons_append, Mem.upds, ih]
theorem upds_other (M : Mem) : ∀ (l : List (Id × Option Row)) (id : Id), (∀ p ∈ l, p.1 ≠ id) → M.upds l id = M id
  | [], _, _ => rfl
  | p :: l, id, h => by
    simp only [Mem.upds, Mem.set]
    rw [if_neg (fun e => h p (by simp) e.symm)]
    exact upds_other M l id fun q hq => h q (by simp [hq])
theorem upds_some {M : Mem} : ∀ (l : List (Id × Option Row)) (id : Id), (∃ p ∈ l, p.1 = id) → M.upds l id = noMem.upds l id ∧ ∃ x, noMem.upds l id = some x
  | [], _, h => by simp at h
  | p :: l, id, h => by
    simp only [Mem.upds, Mem.set]
    by_cases he : id = p.1
    · simp [he]
    · rw [if_neg he, if_neg he]
      exact upds_some l id (by
        obtain ⟨q, hq, e⟩ := h
        rcases List.mem_cons.1 hq with rfl | hq
        · exact absurd e.symm he
        · exact ⟨q, hq, e⟩)
theorem upds_or (M : Mem) (l : List (Id × Option Row)) (id : Id) : (M.upds l id = noMem.upds l id ∧ ∃ x, noMem.upds l id = some x) ∨ (M.upds l id = M id ∧ noMem.upds l id = none) := by
  by_cases h : ∃ p ∈ l, p.1 = id
  · exact .inl (upds_some l id h)
  · have h' : ∀ p ∈ l, p.1 ≠ id := fun p hp e => h ⟨p, hp, e⟩
    exact .inr ⟨upds_other M l id h', upds_other noMem l id h'⟩

theorem thawL_fst (t : Nat) : ∀ (xs : List PV) (k : Nat), ∀ p ∈ (thawL t k xs).2.2, p.1.1 = t
  | [], k, p, h => by simp [thawL] at h
  | x :: r, k, p, h => by
    cases x <;> simp only [thawL] at h <;> first
      | exact thawL_fst t r _ p h
      | (rcases List.mem_cons.1 h with rfl | h
         · rfl
         · exact thawL_fst t r _ p h)
theorem thaw1_fst (t k : Nat) (x : PV) : ∀ p ∈ (thaw1 t k x).2.2, p.1.1 = t := by
  intro p h
  cases x <;> simp only [thaw1] at h <;> first
    | (simp at h; done)
    | exact thawL_fst t _ _ p h
    | (simp at h; subst h; rfl)
theorem thawT_fst (t : Nat) : ∀ (xs : List PV) (k : Nat), ∀ p ∈ (thawT t k xs).2.2, p.1.1 = t
  | [], k, p, h => by simp [thawT] at h
  | x :: r, k, p, h => by
    simp only [thawT] at h
    rcases List.mem_append.1 h with h | h
    · exact thaw1_fst t k x p h
    · exact thawT_fst t r _ p h
theorem thaw_fst (t : Nat) (x : PV) : ∀ p ∈ (thaw t x).2, p.1.1 = t := by
  intro p h
  cases x <;> simp only [thaw] at h <;> first
    | exact thawT_fst t _ _ p h
    | exact thaw1_fst t 0 _ p h
theorem thaw_none {t : Nat} {x : PV} {id : Id} (h : id.1 ≠ t) : noMem.upds (thaw t x).2 id = none :=
  upds_other noMem _ _ fun p hp e => h (by rw [← e]; exact thaw_fst t x p hp)

theorem ioUps_fst (M : Mem) : ∀ (ids : List Id) (fin : List (List (List PV))), ∀ p ∈ ioUps M ids fin, p.1 ∈ ids
  | [], fin, p, h => by simp [ioUps] at h
  | id :: ids, [], p, h => by simp [ioUps] at h
  | id :: ids, e :: es, p, h => by
    simp only [ioUps] at h
    rcases List.mem_append.1 h with h | h
    · split at h
      · simp at h; subst h; simp
      · simp at h
    · exact List.mem_cons_of_mem _ (ioUps_fst M ids es p h)
theorem ioUps_at (N M : Mem) : ∀ (ids : List Id) (fin : List (List (List PV))) (k : Nat) id r e, ids.Nodup → ids[k]? = some id → M id = some (some r) → fin[k]? = some e → N.upds (ioUps M ids fin) id = some (some { r with es := e })
  | [], fin, k, id, r, e, _, h, _, _ => by simp at h
  | i :: ids, [], k, id, r, e, _, _, _, h => by simp at h
  | i :: ids, f :: fin, k, id, r, e, hn, h, hM, hf => by
    simp only [ioUps]
    rw [upds_append]
    cases k with
    | zero =>
      simp at h hf
      subst h hf
      rw [hM]
      simp [Mem.upds, Mem.set]
    | succ k =>
      simp at h hf
      have hne : id ≠ i := fun he => (List.nodup_cons.1 hn).1 (by rw [← he]; exact List.mem_of_getElem? h)
      rw [upds_other _ _ id (by
        intro p hp
        split at hp
        · simp at hp; subst hp; exact fun e => hne e.symm
        · simp at hp)]
      exact ioUps_at N M ids fin k id r e (List.nodup_cons.1 hn).2 h hM hf
theorem withEs_at : ∀ (ios : List Row) (fin : List (List (List PV))) (k : Nat), fin.length = ios.length → (withEs ios fin)[k]? = (ios[k]?).bind fun row => (fin[k]?).map fun e => { row with es := e }
  | [], [], k, _ => by simp [withEs]
  | r :: rs, e :: es, k, h => by
    cases k with
    | zero => simp [withEs]
    | succ k => simpa [withEs] using withEs_at rs es k (by simpa using h)
  | [], _ :: _, k, h => by simp at h
  | _ :: _, [], k, h => by simp at h

theorem nodup_inj : ∀ (l : List Id) (i j : Nat) (x : Id), l.Nodup → l[i]? = some x → l[j]? = some x → i = j
  | [], i, j, x, _, h, _ => by simp at h
  | y :: l, i, j, x, hn, h1, h2 => by
    have hn' := List.nodup_cons.1 hn
    cases i with
    | zero =>
      cases j with
      | zero => rfl
      | succ j =>
        simp at h1 h2
        exact absurd (List.mem_of_getElem? h2) (by rw [← h1]; exact hn'.1)
    | succ i =>
      cases j with
      | zero =>
        simp at h1 h2
        exact absurd (List.mem_of_getElem? h1) (by rw [← h2]; exact hn'.1)
      | succ j => rw [nodup_inj l i j x hn'.2 (by simpa using h1) (by simpa using h2)]

section
variable {P : Program} {G : Nat → Prop} {ρ : Id → Option (Nat × Nat)} {w0 w : World} {X : List (Option (Nat × Nat))} {M : Mem}

theorem freeze_all (hW : WRel G ρ w0 X M w) : ∀ (rd : List Id), (∀ id ∈ rd, ∃ r, M id = some (some r)) → rd.Nodup → Trans G ρ M w ρ (M.upds (rd.map fun id => (id, none))) w ∧ WRel G ρ w0 X (M.upds (rd.map fun id => (id, none))) w
  | [], _, _ => ⟨Trans.refl _ _ _ _, hW⟩
  | id :: rd, h, hn => by
    obtain ⟨T, W⟩ := freeze_all hW rd (fun i hi => h i (by simp [hi])) (List.nodup_cons.1 hn).2
    obtain ⟨r, hr⟩ := h id (by simp)
    have hlive : M.upds (rd.map fun id => (id, none)) id = some (some r) := by
      rw [upds_other _ _ id (by
        intro p hp
        obtain ⟨i, hi, rfl⟩ := List.mem_map.1 hp
        exact fun e => (List.nodup_cons.1 hn).1 (by rw [← e]; exact hi))]
      exact hr
    obtain ⟨T2, W2⟩ := W.dead hlive
    exact ⟨T.trans T2, W2⟩

theorem call_sound (hW : WRel G ρ w0 X M w) {f : FuncId} {cargs : Array Value} {xs ys : List PV} {t : Nat} {al fz : Bool} {ids rd : List Id} {ios : List Row} {Post : PV → List (List (List PV)) → Prop}
    (hc : Comps ρ w (Stab G ρ M w) M cargs xs) (ok : CallOk M t xs al fz ys ids rd ios) (hC : ContractP P f al ys ios Post) :
    Calls P f cargs w fun e w' => ∃ v r fin ρ2, e = .returned v ∧ Post r fin ∧ fin.length = ios.length ∧ Trans G ρ M w ρ2 (M.upds (callUps M t ids rd fz r (backF M ids ios fin))) w' ∧
      WRel G ρ2 w0 X (M.upds (callUps M t ids rd fz r (backF M ids ios fin))) w' ∧ Rep ρ2 w' (Stab G ρ2 (M.upds (callUps M t ids rd fz r (backF M ids ios fin))) w') (M.upds (callUps M t ids rd fz r (backF M ids ios fin))) v (thaw t r).1 := by
  have hidl : ∀ (k : Nat) id, ids[k]? = some id → ∃ r row, M id = some (some r) ∧ ios[k]? = some row ∧ Lend ids r row := by
    intro k id hk
    have hlt : k < ios.length := by rw [← ok.len]; exact (List.getElem?_eq_some_iff.1 hk).1
    obtain ⟨r, h1, h2⟩ := ok.lent k id ios[k] hk (List.getElem?_eq_getElem hlt)
    exact ⟨r, _, h1, List.getElem?_eq_getElem hlt, h2⟩
  have hrdl : ∀ id ∈ rd, fz = true → id.1 ≠ io ∧ ∃ r, M id = some (some r) := by
    intro id hid hfz
    rcases ok.mode with ⟨_, h, _⟩ | ⟨h, _⟩
    · exact h id hid
    · rw [hfz] at h; cases h
  -- the rows that are given up
  obtain ⟨T1, W1⟩ : Trans G ρ M w ρ (M.upds (frzUps fz rd)) w ∧ WRel G ρ w0 X (M.upds (frzUps fz rd)) w := by
    rcases ok.mode with ⟨rfl, h, hn⟩ | ⟨rfl, _⟩
    · exact freeze_all hW rd (fun id hid => (h id hid).2) hn
    · exact ⟨Trans.refl _ _ _ _, hW⟩
  have hM1 : ∀ id, M.upds (frzUps fz rd) id = (if fz = true ∧ id ∈ rd then some none else M id) := by
    intro id
    cases fz with
    | false => simp [frzUps, Mem.upds]
    | true =>
      simp only [frzUps, if_true, true_and]
      by_cases hid : id ∈ rd
      · rw [if_pos hid]
        have : ∀ l : List Id, id ∈ l → M.upds (l.map fun id => (id, none)) id = some none := by
          intro l
          induction l with
          | nil => intro h; simp at h
          | cons i l ih =>
            intro h
            simp only [List.map_cons, Mem.upds, Mem.set]
            by_cases he : id = i
            · simp [he]
            · rw [if_neg he]
              exact ih (by rcases List.mem_cons.1 h with h | h; exact absurd h he; exact h)
        exact this rd hid
      · rw [if_neg hid]
        exact upds_other _ _ id fun p hp e => hid (by obtain ⟨i, hi, rfl⟩ := List.mem_map.1 hp; rw [← e]; exact hi)
  let ρio : Id → Option (Nat × Nat) := fun id => if id.1 = io then (ids[id.2]?).bind ρ else none
  let G' : Nat → Prop := fun b => fz = false ∨ Stab G ρ (M.upds (frzUps fz rd)) w b ∨ w.heap.size ≤ b
  have hρio : ∀ (k : Nat) id, ids[k]? = some id → ρio (io, k) = ρ id := fun k id hk => by simp [ρio, hk]
  have hiolive : ∀ id row, ioMem ios id = some (some row) → ∃ id' r, id = (io, id.2) ∧ ids[id.2]? = some id' ∧ M id' = some (some r) ∧ Lend ids r row ∧ ρio id = ρ id' := by
    intro id row h
    simp only [ioMem] at h
    split at h
    · rename_i hid
      obtain ⟨row', h1, h2⟩ := Option.map_eq_some_iff.1 h
      injection h2 with h2
      subst h2
      have hlt : id.2 < ids.length := by rw [ok.len]; exact (List.getElem?_eq_some_iff.1 h1).1
      obtain ⟨r, g1, g2⟩ := ok.lent id.2 ids[id.2] row' (List.getElem?_eq_getElem hlt) h1
      have hid' : id = (io, id.2) := by rw [← hid]
      exact ⟨_, r, hid', List.getElem?_eq_getElem hlt, g1, g2, (congrArg ρio hid').trans (hρio _ _ (List.getElem?_eq_getElem hlt))⟩
    · cases h
  have hS : ∀ b, Stab G ρ M w b → Stab G' ρio (ioMem ios) w b := by
    intro b hb
    refine ⟨hb.1, fun id row z hl => ?_, .inr (.inl (T1.stab b hb).1)⟩
    obtain ⟨id', r, _, _, g1, _, g2⟩ := hiolive id row hl
    rw [g2]
    exact hb.2.1 id' r z g1
  have hId : ∀ id ∈ rd, ∀ r b z, M id = some (some r) → ρ id = some (b, z) → Stab G' ρio (ioMem ios) w b := by
    intro id hid r b z hM hρ
    refine ⟨hW.lt hM hρ, fun id2 row z2 hl hh => ?_, ?_⟩
    · obtain ⟨id', r', _, hk, g1, _, g2⟩ := hiolive id2 row hl
      rw [g2] at hh
      have := hW.inj id id' r r' b z z2 hM g1 hρ hh
      exact ok.apart id hid (by rw [this]; exact List.mem_of_getElem? hk)
    · by_cases hfz : fz = true
      · refine .inr (.inl ⟨hW.lt hM hρ, fun id2 r2 z2 hl hh => ?_, ?_⟩)
        · rw [hM1] at hl
          split at hl
          · cases hl
          · rename_i hne
            have := hW.inj id id2 r r2 b z z2 hM hl hρ hh
            exact hne ⟨hfz, by rw [← this]; exact hid⟩
        · have := hW.new id r hM
          rw [if_neg (hrdl id hid hfz).1] at this
          exact hW.good b (this b z hρ)
      · exact .inl (by simpa using hfz)
  have hto : ∀ (k : Nat) id, ids[k]? = some id → toIds ids (io, k) = id := fun k id hk => by simp [toIds, hk]
  have hMio : ∀ id, ((ioIds ids.length).any fun k => Nat.beq k.1 id.1 && Nat.beq k.2 id.2) = true → ∃ r r', M (toIds ids id) = some (some r) ∧ ioMem ios id = some (some r') ∧ r'.sz = r.sz ∧ r'.ty = r.ty ∧ r'.es.length = r.es.length ∧ ρio id = ρ (toIds ids id) := by
    intro id hid
    obtain ⟨h1, h2⟩ := ioIds_any hid
    have hk := List.getElem?_eq_getElem h2
    obtain ⟨r, row, m1, m2, m3⟩ := hidl id.2 _ hk
    have hf := m3.facts
    rw [h1]
    refine ⟨r, row, by rw [hto _ _ hk]; exact m1, by simp [ioMem, m2], hf.1, hf.2.1, hf.2.2, by rw [hto _ _ hk]; exact hρio _ _ hk⟩
  have hentry : WRel G' ρio w (ids.map ρ) (ioMem ios) w := by
    refine ⟨?_, ?_, ?_, ⟨rfl, rfl, rfl, Nat.le_refl _, fun _ _ _ => rfl, fun b cur ty fr h => ⟨cur, h, rfl⟩⟩, fun b hb => .inr (.inr hb)⟩
    · intro i1 i2 r1 r2 b z1 z2 h1 h2 k1 k2
      obtain ⟨j1, q1, e1, l1, m1, _, p1⟩ := hiolive i1 r1 h1
      obtain ⟨j2, q2, e2, l2, m2, _, p2⟩ := hiolive i2 r2 h2
      rw [p1] at k1
      rw [p2] at k2
      have := hW.inj j1 j2 q1 q2 b z1 z2 m1 m2 k1 k2
      subst this
      have h12 : i1.2 = i2.2 := by
        exact nodup_inj ids _ _ _ ok.nodup l1 l2
      rw [e1, e2, h12]
    · intro id row hl
      obtain ⟨id', r, e1, l1, m1, hLd, p1⟩ := hiolive id row hl
      rw [p1]
      have hr := hW.row id' r m1
      rcases hLd with ⟨rfl, hp⟩ | ⟨hb1, hb2, hb3, hb4, hb5, hb6⟩
      · cases hb : ρ id' with
        | none => rw [hb] at hr; exact ⟨hr.1, rfl⟩
        | some bz =>
          obtain ⟨b, z⟩ := bz
          rw [hb] at hr
          obtain ⟨cur, C, g1, g2, g3, g4, g5, g6⟩ := hr
          refine ⟨cur, C, g1, g2, g3, g4, g5, fun i e hi => ⟨(g6 i e hi).1, fun j u hu => ?_⟩⟩
          obtain ⟨c, k1, k2, k3⟩ := (g6 i e hi).2 j u hu
          refine ⟨c, k1, k2, ?_⟩
          have : Rep ρ w (Stab G ρ M w) noMem c u := by
            rcases hp with hp | hp
            · rw [hp] at k3; exact k3
            · exact rep_pure (repB_M k3) (List.all_eq_true.1 (hp e (List.mem_of_getElem? hi)) u (List.mem_of_getElem? hu))
          exact this.pureMono fun b hb => ⟨hS b hb, rfl⟩
      · cases hb : ρ id' with
        | none => rw [hb] at hr; rw [hr.2] at hb1; cases hb1
        | some bz =>
          obtain ⟨b, z⟩ := bz
          rw [hb] at hr
          obtain ⟨cur, C, g1, g2, g3, g4, g5, g6⟩ := hr
          refine ⟨cur, C, by rw [hb3]; exact g1, by rw [hb4]; exact g2, g3, by rw [hb5, List.length_map] at g4; exact g4, by rw [hb4]; exact g5, fun i e hi => ?_⟩
          obtain ⟨q1, q2⟩ := g6 i (e.map (subD 5 (toIds ids))) (by rw [hb5, List.getElem?_map, hi]; rfl)
          refine ⟨by rw [List.length_map] at q1; rw [hb4]; exact q1, fun j u hu => ?_⟩
          obtain ⟨c, k1, k2, k3⟩ := q2 j (subD 5 (toIds ids) u) (by rw [List.getElem?_map, hu]; rfl)
          rw [hb1] at k3
          refine ⟨c, by rw [hb4]; exact k1, k2, ?_⟩
          rw [hb2]
          exact (rep_ren (ioIds ids.length) hMio 5 u c (hb6 e (List.mem_of_getElem? hi) u (List.mem_of_getElem? hu))).1 hS k3
    · intro id row hl
      obtain ⟨id', r, e1, l1, m1, _, p1⟩ := hiolive id row hl
      rw [if_pos (by rw [e1])]
      rw [List.getElem?_map, l1, p1]
      rfl
  have hargs : Comps ρio w (Stab G' ρio (ioMem ios) w) (ioMem ios) cargs ys :=
    comps_snap (snap_sound hW hS hId 6 ids (ioMem ios) ρio (fun k id hk => by
      obtain ⟨r, row, h1, h2, h3⟩ := hidl k id hk
      have hf := h3.facts
      exact ⟨r, row, h1, by simp [ioMem, h2], hf.1, hf.2.1, hf.2.2, hρio k id hk⟩)) ok.snap hc
  refine (hC.2 G' w (ids.map ρ) ρio cargs hentry (by simp [ok.len]) hargs).mono ?_
  rintro e w' ⟨v, r, fin, rfl, hPost, hfl, hfel, hret⟩
  obtain ⟨ρ', hR⟩ := hret t ok.tio
  have hkeep := hR.rel.keep
  let ρ2 : Id → Option (Nat × Nat) := fun id => if id.1 = t then ρ' id else ρ id
  -- the new memory, case by case
  have hM2 : M.upds (callUps M t ids rd fz r (backF M ids ios fin)) = ((M.upds (frzUps fz rd)).upds (ioUps M ids (backF M ids ios fin))).upds (thaw t r).2 := by
    simp only [callUps, upds_append]
  have m2t : ∀ id, id.1 = t → M.upds (callUps M t ids rd fz r (backF M ids ios fin)) id = noMem.upds (thaw t r).2 id := by
    intro id hid
    rw [hM2]
    rcases upds_or ((M.upds (frzUps fz rd)).upds (ioUps M ids (backF M ids ios fin))) (thaw t r).2 id with ⟨h, _⟩ | ⟨h, h2⟩
    · exact h
    · rw [h, h2, upds_other _ _ id, hM1, if_neg, show id = (t, id.2) from by rw [← hid]]
      · exact ok.free _
      · rintro ⟨hfz, hm⟩
        obtain ⟨_, r0, h0⟩ := hrdl id hm hfz
        rw [show id = (t, id.2) from by rw [← hid], ok.free] at h0
        cases h0
      · intro p hp he
        have := ioUps_fst M ids (backF M ids ios fin) p hp
        rw [he] at this
        obtain ⟨k, hk⟩ := List.getElem?_of_mem this
        obtain ⟨r0, _, h0, _⟩ := hidl k id hk
        rw [show id = (t, id.2) from by rw [← hid], ok.free] at h0
        cases h0
  have m2io : ∀ (k : Nat) id, ids[k]? = some id → ∃ r0 row e e2, M id = some (some r0) ∧ ios[k]? = some row ∧ Lend ids r0 row ∧ e.length = row.es.length ∧ e2.length = r0.es.length ∧ id.1 ≠ t ∧
      M.upds (callUps M t ids rd fz r (backF M ids ios fin)) id = some (some { r0 with es := e2 }) ∧
      (ioMem (withEs ios fin)).upds (thaw t r).2 (io, k) = some (some { row with es := e }) ∧ (row.bx = false → e2 = e) ∧ (row.bx = true → e = row.es ∧ e2 = r0.es) := by
    intro k id hk
    obtain ⟨r0, row, h1, h2, h3⟩ := hidl k id hk
    have hlt : k < fin.length := by rw [hfl]; exact (List.getElem?_eq_some_iff.1 h2).1
    have hf : fin[k]? = some fin[k] := List.getElem?_eq_getElem hlt
    have hit : id.1 ≠ t := by
      intro he
      rw [show id = (t, id.2) from by rw [← he], ok.free] at h1
      cases h1
    obtain ⟨hel, hbxr⟩ := hfel k row fin[k] h2 hf
    have hback := backF_at M ids ios fin k id row fin[k] hk h2 hf
    rw [h1] at hback
    simp only at hback
    refine ⟨r0, row, fin[k], cond row.bx r0.es fin[k], h1, h2, h3, hel, ?_, hit, ?_, ?_, fun h => by rw [h]; rfl, fun h => ⟨hbxr h, by rw [h]; rfl⟩⟩
    · cases hb : row.bx
      · simp only [cond_false]; rw [hel, h3.facts.2.2]
      · rfl
    · rw [hM2, upds_other _ (thaw t r).2 id (fun p hp he => hit (by rw [← he]; exact thaw_fst t r p hp))]
      exact ioUps_at _ M ids (backF M ids ios fin) k id r0 _ ok.nodup hk h1 hback
    · rw [upds_other _ (thaw t r).2 _ (fun p hp he => ok.tio (by rw [← thaw_fst t r p hp, he]))]
      simp [ioMem, withEs_at ios fin k hfl, h2, hf]
  have m2old : ∀ id, id.1 ≠ t → id ∉ ids → M.upds (callUps M t ids rd fz r (backF M ids ios fin)) id = (if fz = true ∧ id ∈ rd then some none else M id) := by
    intro id hit hni
    rw [hM2, upds_other _ (thaw t r).2 id (fun p hp he => hit (by rw [← he]; exact thaw_fst t r p hp)), upds_other _ _ id (fun p hp he => hni (by rw [← he]; exact ioUps_fst M ids (backF M ids ios fin) p hp)), hM1]
  have old : ∀ id r2, id.1 ≠ t → M.upds (callUps M t ids rd fz r (backF M ids ios fin)) id = some (some r2) → ∃ r0, M id = some (some r0) ∧ (id ∉ ids → r2 = r0 ∧ (M.upds (frzUps fz rd)) id = some (some r0)) := by
    intro id r2 hit h
    by_cases hi : id ∈ ids
    · obtain ⟨k, hk⟩ := List.getElem?_of_mem hi
      obtain ⟨r0, _, h0, _⟩ := hidl k id hk
      exact ⟨r0, h0, fun hn => absurd hi hn⟩
    · rw [m2old id hit hi] at h
      split at h
      · cases h
      · rename_i hne
        exact ⟨r2, h, fun _ => ⟨rfl, by rw [hM1, if_neg hne]; exact h⟩⟩
  have retT : ∀ id row, id.1 = t → noMem.upds (thaw t r).2 id = some (some row) → (ioMem (withEs ios fin)).upds (thaw t r).2 id = some (some row) := by
    intro id row hid h
    rcases upds_or (ioMem (withEs ios fin)) (thaw t r).2 id with ⟨h1, _⟩ | ⟨_, h2⟩
    · rw [h1]; exact h
    · rw [h2] at h; cases h
  have newT : ∀ id row b z, id.1 = t → noMem.upds (thaw t r).2 id = some (some row) → ρ' id = some (b, z) → w.heap.size ≤ b := by
    intro id row b z hid h hb
    have := hR.rel.new id row (retT id row hid h)
    rw [if_neg (by rw [hid]; exact ok.tio)] at this
    exact this b z hb
  have hXc : ∀ b, (∀ id ∈ ids, ∀ z, ρ id ≠ some (b, z)) → ∀ z, some (b, z) ∉ ids.map ρ := by
    intro b h z hm
    obtain ⟨id, hid, he⟩ := List.mem_map.1 hm
    exact h id hid z he
  have same : ∀ b, b < w.heap.size → (∀ id ∈ ids, ∀ z, ρ id ≠ some (b, z)) → w'.heap[b]? = w.heap[b]? := fun b hb h => hkeep.block b hb (hXc b h)
  have ρio' : ∀ (k : Nat) id, ids[k]? = some id → ρ' (io, k) = ρ id := by
    intro k id hk
    obtain ⟨r0, row, e, e2, _, _, _, _, _, _, _, h7, _⟩ := m2io k id hk
    have := hR.rel.new (io, k) _ h7
    rw [if_pos rfl, List.getElem?_map, hk] at this
    injection this with this
    exact this.symm
  -- what is stable behind the call
  have stab2 : ∀ b, Stab G' ρ' ((ioMem (withEs ios fin)).upds (thaw t r).2) w' b → (fz = true ∨ w.heap.size ≤ b) → Stab G ρ2 (M.upds (callUps M t ids rd fz r (backF M ids ios fin))) w' b := by
    intro b hb hmode
    have hG : Stab G ρ (M.upds (frzUps fz rd)) w b ∨ w.heap.size ≤ b := by
      rcases hmode with hm | hm
      · rcases hb.2.2 with h | h
        · rw [hm] at h; cases h
        · exact h
      · exact .inr hm
    refine ⟨hb.1, fun id r2 z hl hh => ?_, ?_⟩
    · by_cases hit : id.1 = t
      · simp only [ρ2, hit, if_true] at hh
        rw [m2t id hit] at hl
        exact hb.2.1 id r2 z (retT id r2 hit hl) hh
      · simp only [ρ2, hit, if_false] at hh
        by_cases hi : id ∈ ids
        · obtain ⟨k, hk⟩ := List.getElem?_of_mem hi
          obtain ⟨r0, row, e, e2, _, _, _, _, _, _, _, h7, _⟩ := m2io k id hk
          exact hb.2.1 (io, k) _ z h7 (by rw [ρio' k id hk]; exact hh)
        · obtain ⟨r0, h0, h1⟩ := old id r2 hit hl
          rcases hG with hG | hG
          · exact hG.2.1 id r0 z (h1 hi).2 hh
          · have := hW.lt h0 hh
            omega
    · rcases hG with hG | hG
      · exact hG.2.2
      · exact hW.good b (Nat.le_trans hW.keep.size hG)
  have stab1 : ∀ b, Stab G ρ M w b → Stab G ρ2 (M.upds (callUps M t ids rd fz r (backF M ids ios fin))) w' b ∧ w'.heap[b]? = w.heap[b]? := by
    intro b hb
    have hids : ∀ id ∈ ids, ∀ z, ρ id ≠ some (b, z) := fun id hid z => by
      obtain ⟨k, hk⟩ := List.getElem?_of_mem hid
      obtain ⟨r0, _, h0, _⟩ := hidl k id hk
      exact hb.2.1 id r0 z h0
    refine ⟨⟨Nat.lt_of_lt_of_le hb.1 hkeep.size, fun id r2 z hl hh => ?_, hb.2.2⟩, same b hb.1 hids⟩
    by_cases hit : id.1 = t
    · simp only [ρ2, hit, if_true] at hh
      rw [m2t id hit] at hl
      have := newT id r2 b z hit hl hh
      have := hb.1
      omega
    · simp only [ρ2, hit, if_false] at hh
      obtain ⟨r0, h0, _⟩ := old id r2 hit hl
      exact hb.2.1 id r0 z h0 hh
  have T2 : Trans G ρ M w ρ2 (M.upds (callUps M t ids rd fz r (backF M ids ios fin))) w' := by
    refine ⟨stab1, fun id => ?_⟩
    cases hMi : M id with
    | none => trivial
    | some o =>
      have hit : id.1 ≠ t := by
        intro he
        rw [show id = (t, id.2) from by rw [← he], ok.free] at hMi
        cases hMi
      by_cases hi : id ∈ ids
      · obtain ⟨k, hk⟩ := List.getElem?_of_mem hi
        obtain ⟨r0, row, _, e, h0, _, _, _, h2, _, h5, _⟩ := m2io k id hk
        rw [h0] at hMi
        injection hMi with hMi
        subst hMi
        refine .inr ⟨{ r0 with es := e }, h5, rfl, rfl, Nat.le_of_eq h2.symm, by simp [ρ2, hit], fun b z hb cur hcur => ?_⟩
        exact hkeep.shape b cur r0.ty (0, 0) hcur
      · cases o with
        | none =>
          show M.upds (callUps M t ids rd fz r (backF M ids ios fin)) id = some none
          rw [m2old id hit hi, hMi]
          simp
        | some r0 =>
          show M.upds (callUps M t ids rd fz r (backF M ids ios fin)) id = some none ∨ _
          rw [m2old id hit hi, hMi]
          split
          · exact .inl rfl
          · exact .inr ⟨r0, rfl, rfl, rfl, Nat.le_refl _, by simp [ρ2, hit], fun b z hb cur hcur => hkeep.shape b cur r0.ty (0, 0) hcur⟩
  have hmodeR : ∀ b, RetS G' al ρ' w ((ioMem (withEs ios fin)).upds (thaw t r).2) w' b → Stab G ρ2 (M.upds (callUps M t ids rd fz r (backF M ids ios fin))) w' b := by
    intro b hb
    refine stab2 b hb.1 ?_
    rcases ok.mode with ⟨h, _⟩ | ⟨_, h, _⟩
    · exact .inl h
    · exact .inr (hb.2 h)
  refine ⟨v, r, fin, ρ2, rfl, hPost, hfl, T2, ⟨?_, ?_, ?_, ?_, hW.good⟩, ?_⟩
  · intro i1 i2 r1 r2 b z1 z2 h1 h2 k1 k2
    by_cases e1 : i1.1 = t <;> by_cases e2 : i2.1 = t
    · simp only [ρ2, e1, e2, if_true] at k1 k2
      rw [m2t _ e1] at h1
      rw [m2t _ e2] at h2
      exact hR.rel.inj i1 i2 r1 r2 b z1 z2 (retT _ _ e1 h1) (retT _ _ e2 h2) k1 k2
    · exfalso
      simp only [ρ2, e1, e2, if_true, if_false] at k1 k2
      rw [m2t _ e1] at h1
      obtain ⟨r0, h0, _⟩ := old i2 r2 e2 h2
      have := newT i1 r1 b z1 e1 h1 k1
      have := hW.lt h0 k2
      omega
    · exfalso
      simp only [ρ2, e1, e2, if_true, if_false] at k1 k2
      rw [m2t _ e2] at h2
      obtain ⟨r0, h0, _⟩ := old i1 r1 e1 h1
      have := newT i2 r2 b z2 e2 h2 k2
      have := hW.lt h0 k1
      omega
    · simp only [ρ2, e1, e2, if_false] at k1 k2
      obtain ⟨q1, h3, _⟩ := old i1 r1 e1 h1
      obtain ⟨q2, h4, _⟩ := old i2 r2 e2 h2
      exact hW.inj i1 i2 q1 q2 b z1 z2 h3 h4 k1 k2
  · intro id r2 hl
    by_cases hit : id.1 = t
    · rw [m2t id hit] at hl
      simp only [ρ2, hit, if_true]
      have hrow := hR.rel.row id r2 (retT id r2 hit hl)
      cases hb : ρ' id with
      | none => rw [hb] at hrow; exact hrow
      | some bz =>
        obtain ⟨b, z⟩ := bz
        rw [hb] at hrow
        obtain ⟨cur, C, g1, g2, g3, g4, g5, g6⟩ := hrow
        obtain ⟨hbx, cur2, q1, q2⟩ := hR.rows id r2 b z hl hb
        rw [g1] at q1
        injection q1 with q1
        injection q1 with q1
        subst q1
        refine ⟨cur, C, g1, g2, g3, g4, g5, fun i e hi => ⟨(g6 i e hi).1, fun j u hu => ?_⟩⟩
        obtain ⟨c, k1, k2, _⟩ := (g6 i e hi).2 j u hu
        obtain ⟨c', k3, k4⟩ := q2 i e hi j u hu
        rw [k1] at k3
        injection k3 with k3
        subst k3
        refine ⟨c, k1, k2, ?_⟩
        rw [hbx]
        exact k4.pureMono fun b hb => ⟨hmodeR b hb, rfl⟩
    · simp only [ρ2, hit, if_false]
      by_cases hi : id ∈ ids
      · obtain ⟨k, hk⟩ := List.getElem?_of_mem hi
        obtain ⟨r0, row, e, e2, h0, h1, hLd, hel, he2, _, h5, h6, hbf, hbt⟩ := m2io k id hk
        rw [h5] at hl
        injection hl with hl
        injection hl with hl
        subst hl
        have hrow := hR.rel.row (io, k) _ h6
        rw [ρio' k id hk] at hrow
        have hfz : fz = true := by
          rcases ok.mode with ⟨h, _⟩ | ⟨_, _, h⟩
          · exact h
          · rw [h] at hi; cases hi
        rcases hLd with ⟨hrw, hp⟩ | ⟨hb1, hb2, hb3, hb4, hb5, hb6⟩
        · have hb0 : row.bx = false := by rw [hrw]
          have := hbf hb0
          subst this
          cases hb : ρ id with
          | none =>
            rw [hb] at hrow
            have hr0 := hW.row id r0 h0
            rw [hb] at hr0
            exact ⟨hrow.1, hr0.2⟩
          | some bz =>
            obtain ⟨b, z⟩ := bz
            rw [hb] at hrow
            obtain ⟨cur, C, g1, g2, g3, g4, g5, g6⟩ := hrow
            rw [hrw] at g1 g2 g5 g6
            refine ⟨cur, C, g1, g2, g3, g4, g5, fun i e' hi' => ⟨(g6 i e' hi').1, fun j u hu => ?_⟩⟩
            obtain ⟨c, k1, k2, k3⟩ := (g6 i e' hi').2 j u hu
            refine ⟨c, k1, k2, ?_⟩
            have k4 : Rep ρ' w' (Stab G' ρ' ((ioMem (withEs ios fin)).upds (thaw t r).2) w') noMem c u := k3
            have k5 : Rep ρ2 w' (Stab G ρ2 (M.upds (callUps M t ids rd fz r (backF M ids ios fin))) w') noMem c u := k4.pureMono fun b hb => ⟨stab2 b hb (.inl hfz), rfl⟩
            cases r0.bx
            · exact k5
            · exact k5.pureMono fun b hb => ⟨hb, rfl⟩
        · obtain ⟨hee, hee2⟩ := hbt hb2
          subst hee
          subst hee2
          have hMx : ∀ id, ((ioIds ids.length).any fun k => Nat.beq k.1 id.1 && Nat.beq k.2 id.2) = true → ∃ r1 r1', (M.upds (callUps M t ids rd fz r (backF M ids ios fin))) (toIds ids id) = some (some r1) ∧
              ((ioMem (withEs ios fin)).upds (thaw t r).2) id = some (some r1') ∧ r1'.sz = r1.sz ∧ r1'.ty = r1.ty ∧ r1'.es.length = r1.es.length ∧ ρ' id = ρ2 (toIds ids id) := by
            intro id1 hid1
            obtain ⟨g1, g2⟩ := ioIds_any hid1
            have hk1 := List.getElem?_eq_getElem g2
            obtain ⟨q0, qr, qe, qe2, n0, n1, nL, n2, n3, nt, n4, n5, _⟩ := m2io id1.2 _ hk1
            have hf := nL.facts
            rw [g1]
            refine ⟨{ q0 with es := qe2 }, { qr with es := qe }, by rw [hto _ _ hk1]; exact n4, n5, hf.1, hf.2.1, by rw [n2, n3]; exact hf.2.2, ?_⟩
            rw [hto _ _ hk1, ρio' _ _ hk1]
            simp only [ρ2, nt, if_false]
          cases hb : ρ id with
          | none =>
            have hr0 := hW.row id r0 h0
            rw [hb] at hr0
            rw [hr0.2] at hb1
            cases hb1
          | some bz =>
            obtain ⟨b, z⟩ := bz
            rw [hb] at hrow
            obtain ⟨cur, C, g1, g2, g3, g4, g5, g6⟩ := hrow
            simp only at g1 g2 g4 g5 g6
            rw [hb3] at g1
            rw [hb4] at g2 g5
            refine ⟨cur, C, g1, g2, g3, by rw [hb5, List.length_map]; exact g4, g5, fun i e' hi' => ?_⟩
            simp only at hi' ⊢
            rw [hb5, List.getElem?_map] at hi'
            obtain ⟨e0, he0, rfl⟩ := Option.map_eq_some_iff.1 hi'
            obtain ⟨q1, q2⟩ := g6 i e0 he0
            refine ⟨by rw [List.length_map, q1, hb4], fun j u hu => ?_⟩
            rw [List.getElem?_map] at hu
            obtain ⟨u0, hu0, rfl⟩ := Option.map_eq_some_iff.1 hu
            obtain ⟨c, k1, k2, k3⟩ := q2 j u0 hu0
            rw [hb4] at k1
            rw [hb2] at k3
            refine ⟨c, k1, k2, ?_⟩
            rw [hb1]
            exact (rep_ren (ioIds ids.length) hMx 5 u0 c (hb6 e0 (List.mem_of_getElem? he0) u0 (List.mem_of_getElem? hu0))).2 (fun b hb => stab2 b hb (.inl hfz)) k3
      · obtain ⟨r0, h0, h1⟩ := old id r2 hit hl
        obtain ⟨rfl, _⟩ := h1 hi
        refine (hW.row id r2 h0).mono T2 fun b z hb => ?_
        refine same b (hW.lt h0 hb) fun id2 hid2 z2 hh => ?_
        obtain ⟨k, hk⟩ := List.getElem?_of_mem hid2
        obtain ⟨r3, _, h3, _⟩ := hidl k id2 hk
        exact hi (by rw [hW.inj id id2 r2 r3 b z z2 h0 h3 hb hh]; exact hid2)
  · intro id r2 hl
    by_cases hit : id.1 = t
    · rw [if_neg (by rw [hit]; exact ok.tio)]
      intro b z hb
      simp only [ρ2, hit, if_true] at hb
      rw [m2t id hit] at hl
      exact Nat.le_trans hW.keep.size (newT id r2 b z hit hl hb)
    · obtain ⟨r0, h0, _⟩ := old id r2 hit hl
      simp only [ρ2, hit, if_false]
      exact hW.new id r0 h0
  · refine ⟨hkeep.os.trans hW.keep.os, hkeep.tape.trans hW.keep.tape, hkeep.output.trans hW.keep.output, Nat.le_trans hW.keep.size hkeep.size, fun b hb hX => ?_, fun b cur ty fr hb => ?_⟩
    · refine (same b (Nat.lt_of_lt_of_le hb hW.keep.size) fun id hid z hh => ?_).trans (hW.keep.block b hb hX)
      obtain ⟨k, hk⟩ := List.getElem?_of_mem hid
      obtain ⟨r3, _, h3, _⟩ := hidl k id hk
      have := hW.new id r3 h3
      split at this
      · exact hX z (by rw [← hh]; exact List.mem_of_getElem? this)
      · have := this b z hh
        omega
    · obtain ⟨c1, k1, k2⟩ := hW.keep.shape b cur ty fr hb
      obtain ⟨c2, k3, k4⟩ := hkeep.shape b c1 ty fr k1
      exact ⟨c2, k3, k4.trans k2⟩
  · refine hR.val.mono (fun b hb => ⟨hmodeR b hb, rfl⟩) fun id => ?_
    cases hMi : noMem.upds (thaw t r).2 id with
    | none => trivial
    | some o =>
      have hit : id.1 = t := by
        by_cases h : id.1 = t
        · exact h
        · rw [thaw_none h] at hMi; cases hMi
      cases o with
      | none => show M.upds (callUps M t ids rd fz r (backF M ids ios fin)) id = some none; rw [m2t id hit, hMi]
      | some row => exact .inr ⟨row, by rw [m2t id hit, hMi], rfl, rfl, Nat.le_refl _, by simp [ρ2, hit], fun b z hb cur hcur => ⟨cur, hcur, rfl⟩⟩
end
end Go.Vs
