/- VALUE SEMANTICS, 20: the contract of a function out of its code. -/
import Derived.Test.YthjlolbooehhcaaVs19
set_option linter.unusedVariables false
set_option linter.unusedSimpArgs false
namespace Go.Vs
section
variable {P : Program} {G : Nat → Prop} {w0 w : World} {X : List (Option (Nat × Nat))} {N : Nat} {ρ : Id → Option (Nat × Nat)} {st : St} {al : Bool}

theorem getE_args : ∀ (xs : List PV) (k t : Nat), getE (argsEnv k xs) t = if k ≤ t then (xs[t - k]?).getD .any else .any
  | [], k, t => by simp [argsEnv, getE]
  | x :: xs, k, t => by
    simp only [argsEnv, getE]
    by_cases h : k = t
    · subst h
      have : Nat.beq k k = true := by simp
      rw [this]
      simp
    · rw [nbeq_false h]
      simp only [cond_false]
      rw [getE_args xs (k + 1) t]
      by_cases h1 : k ≤ t
      · rw [if_pos h1, if_pos (by omega)]
        have : t - k = (t - (k + 1)) + 1 := by omega
        rw [this, List.getElem?_cons_succ]
      · rw [if_neg h1, if_neg (by omega)]
theorem getM_io : ∀ (ios : List Row) (k : Nat) (id : Id), getM (ioEnv k ios) id = if id.1 = io ∧ k ≤ id.2 then (ios[id.2 - k]?).map some else none
  | [], k, id => by simp [ioEnv, getM]
  | x :: ios, k, id => by
    simp only [ioEnv, getM]
    by_cases h1 : io = id.1
    · by_cases h2 : k = id.2
      · have : (Nat.beq io id.1 && Nat.beq k id.2) = true := by rw [h1, h2]; simp
        rw [this]
        simp [h1, h2]
      · have : (Nat.beq io id.1 && Nat.beq k id.2) = false := by rw [nbeq_false h2]; simp
        rw [this]
        simp only [cond_false]
        rw [getM_io ios (k + 1) id]
        by_cases h3 : k ≤ id.2
        · rw [if_pos (⟨h1.symm, by omega⟩ : id.1 = io ∧ k + 1 ≤ id.2), if_pos (⟨h1.symm, h3⟩ : id.1 = io ∧ k ≤ id.2)]
          have : id.2 - k = (id.2 - (k + 1)) + 1 := by omega
          rw [this, List.getElem?_cons_succ]
        · rw [if_neg (fun h : id.1 = io ∧ k + 1 ≤ id.2 => h3 (by have := h.2; omega)), if_neg (fun h : id.1 = io ∧ k ≤ id.2 => h3 h.2)]
    · have : (Nat.beq io id.1 && Nat.beq k id.2) = false := by rw [nbeq_false h1]; simp
      rw [this]
      simp only [cond_false]
      rw [getM_io ios (k + 1) id, if_neg (fun h => h1 h.1.symm), if_neg (fun h => h1 h.1.symm)]
theorem ioEnv_mem (ios : List Row) : getM (ioEnv 0 ios) = ioMem ios := by
  funext id
  rw [getM_io, ioMem]
  simp

theorem rep_flat {ρ ρ' : Id → Option (Nat × Nat)} {w w' : World} {S S' : Nat → Prop} {M M' : Mem} {v : Value} {x : PV} (hf : x.flat = true) (h : Rep ρ w S M v x) : Rep ρ' w' S' M' v x := by
  cases x <;> simp [PV.flat] at hf
  case int => exact rep_int.2 (rep_int.1 h)
  case bool => exact rep_bool.2 (rep_bool.1 h)
  case str => exact rep_str.2 (rep_str.1 h)

def resVal (tmps : Array Value) : ResultVar → Sem Value
  | .tmp t => Pure.pure (tmps.getD t undef)
  | .cell a' t => do loadVar t (← asAddr (tmps.getD a' undef))
theorem results_eq (fn : Func) (tmps : Array Value) : results fn tmps = (do let vs ← fn.results.mapM (resVal tmps); Pure.pure (if h : vs.size = 1 then vs[0] else .tuple vs)) := rfl

theorem res_sound {a : Act} {fn : Func} (hW : WRel G ρ w0 X st.M w) (hV : ∀ t, Rep ρ w (Stab G ρ st.M w) st.M (a.tmps.getD t undef) (st.V t)) {xs : List PV} (h : AllRes P st fn.results.toList xs) :
    ∃ v, (results fn a.tmps).run P w = .ok v w ∧ Rep ρ w (Stab G ρ st.M w) st.M v (tup xs) := by
  have key : ∀ (l : List ResultVar) (xs : List PV), AllRes P st l xs → ∃ vs : List Value, vs.length = xs.length ∧ (l.mapM (resVal a.tmps)).run P w = .ok vs w ∧ Comps ρ w (Stab G ρ st.M w) st.M vs.toArray xs := by
    intro l
    induction l with
    | nil =>
      intro xs h
      cases xs with
      | nil => exact ⟨[], rfl, rfl, rfl, fun j u hu => by simp at hu⟩
      | cons x xs => exact h.elim
    | cons r l ih =>
      intro xs h
      cases xs with
      | nil => exact h.elim
      | cons x xs =>
        obtain ⟨h1, h2⟩ := h
        obtain ⟨vs, g1, g2, g3⟩ := ih xs h2
        have hr : ∃ v, (resVal a.tmps r).run P w = .ok v w ∧ Rep ρ w (Stab G ρ st.M w) st.M v x := by
          cases r with
          | tmp t =>
            refine ⟨_, rfl, ?_⟩
            have := hV t
            rw [show st.V t = x from h1] at this
            exact this
          | cell t T =>
            obtain ⟨id, row, k, e1, e2, e3, e4, e5, e6⟩ := h1
            have hx := hV t
            rw [show st.V t = .own id 0 0 from e1] at hx
            obtain ⟨b, z, cur, hρ, ex, q1, q2, q3, q4, q5, _⟩ := own_cells hW (M := st.M) e2 e3 hx
            obtain ⟨ll, hl, hn⟩ := exists_cells (fun j => cur[z + 0 * row.sz + j]?) k (fun j hj => by
              obtain ⟨c, h1, _⟩ := q5 j x.cells[j] (List.getElem?_eq_getElem (by omega))
              exact ⟨c, h1⟩)
            have c2 : ∀ (j : Nat) v, ll[j]? = some v → w.cell? ((⟨b, z + 0 * row.sz + 0, none⟩ : Addr).add j) = some v := fun j v hj => by
              have : j < k := by rw [← hl]; exact (List.getElem?_eq_some_iff.1 hj).1
              rw [add_off, cell_of_row w b _ cur row.ty (0, 0) q1, ← hj, ← hn j this, Nat.add_zero]
            refine ⟨.agg ll.toArray, ?_, ?_⟩
            · simp only [resVal, Sem.run_bind, ex, asAddr, Sem.run_pure, Result.andThen_ok]
              exact run_loadVar_agg e6 ll hl c2
            · rw [e4]
              refine rep_agg.2 ⟨_, rfl, by simp [hl, e5], fun j u hu => ?_⟩
              have hj : j < k := by rw [← e5]; exact (List.getElem?_eq_some_iff.1 hu).1
              obtain ⟨c, k1, k2, k3⟩ := q5 j u hu
              exact ⟨c, by rw [List.getElem?_toArray, ← hn j hj]; exact k1, repB_M k3⟩
        obtain ⟨v, e1, e2⟩ := hr
        refine ⟨v :: vs, by simp [g1], ?_, ?_⟩
        · simp only [List.mapM_cons, Sem.run_bind, Sem.run_pure]
          rw [e1]
          simp only [Result.andThen_ok]
          rw [g2]
          rfl
        · refine ⟨by simp [g1], fun j u hu => ?_⟩
          cases j with
          | zero => simp at hu; subst hu; exact ⟨v, rfl, e2⟩
          | succ j =>
            obtain ⟨c, k1, k2⟩ := g3.2 j u (by simpa using hu)
            exact ⟨c, by simpa using k1, k2⟩
  obtain ⟨vs, g1, g2, g3⟩ := key fn.results.toList xs h
  have hrun : (results fn a.tmps).run P w = .ok (if h : vs.toArray.size = 1 then vs.toArray[0] else .tuple vs.toArray) w := by
    rw [results_eq, Array.mapM_eq_mapM_toList]
    simp only [Sem.run_bind, Sem.run_map, g2, Result.andThen_ok, Sem.run_pure]
  refine ⟨_, hrun, ?_⟩
  match xs, vs, g1, g3 with
  | [x], [v], _, g3 =>
    obtain ⟨c, h1, h2⟩ := g3.2 0 x rfl
    simp at h1
    subst h1
    exact h2
  | [], [], _, g3 => exact rep_tuple.2 ⟨_, rfl, g3⟩
  | x :: y :: xs, v :: v2 :: vs, _, g3 => exact rep_tuple.2 ⟨_, by simp, g3⟩

/-- A function's contract, out of its code. -/
theorem subD_id : ∀ (d : Nat) (x : PV), subD d (fun i => i) x = x
  | 0, _ => rfl
  | d + 1, x => by
    have hl : ∀ l : List PV, l.map (subD d fun i => i) = l := fun l => by
      rw [List.map_congr_left (g := id) fun y _ => subD_id d y]
      simp
    cases x <;> simp only [subD, hl]
theorem contract_of {f : FuncId} {fn : Func} {c : Code} {args : List PV} {ios : List Row} {Post : PV → List (List (List PV)) → Prop} (hm : P.follows .mixedOrders = true) (hf : P.funcs[f]? = some fn) (hb : fn.body = some c)
    (hname : (fn.name == "runtime.NumGoroutine") = false) (hok : codeOk fn.ntmps c = true) (hargs : args.length ≤ fn.ntmps) (hios : ∀ row ∈ ios, row.bx = false ∨ ∀ e ∈ row.es, ∀ u ∈ e, refsD 5 (ioIds ios.length) u = true)
    (h : vwp P c ⟨argsEnv 0 args, ioEnv 0 ios⟩ (RetPost P fn al ios Post)) : ContractP P f al args ios Post := by
  refine ⟨⟨fn, hf, hname, by rw [hb]; rfl⟩, fun G w X ρ cargs hW hX hC => ?_⟩
  refine calls_of_wp hf hb ?_
  have hM : (⟨argsEnv 0 args, ioEnv 0 ios⟩ : St).M = ioMem ios := ioEnv_mem ios
  have hR : RelF G w X fn.ntmps (⟨argsEnv 0 args, ioEnv 0 ios⟩ : St).V (⟨argsEnv 0 args, ioEnv 0 ios⟩ : St).M { tmps := cargs ++ Array.replicate (fn.ntmps - cargs.size) undef, defers := [] } w := by
    rw [hM]
    refine ⟨ρ, hW, rfl, by simp [hC.1]; omega, fun t => ?_⟩
    show Rep ρ w _ _ _ (getE (argsEnv 0 args) t)
    rw [getE_args, if_pos (Nat.zero_le _), Nat.sub_zero]
    cases ht : args[t]? with
    | none => exact rep_any
    | some x =>
      obtain ⟨v, h1, h2⟩ := hC.2 t x ht
      have hlt := (Array.getElem?_eq_some_iff.1 h1).1
      have : (cargs ++ Array.replicate (fn.ntmps - cargs.size) undef).getD t undef = v := by
        rw [Array.getD_eq_getD_getElem?, Array.getElem?_append_left hlt, h1]
        rfl
      rw [this]
      exact h2
  refine wp_mono (vwp_sound hm c _ _ _ w hok h hR) ?_
  rintro e a' w' ⟨st', ⟨he, xs, r, u, fin, hres, hexp, hap, hPost, hfl, hfin⟩, ρ1, hW1, hdef, hs, hV⟩
  obtain ⟨v, hrun, hv⟩ := res_sound hW1 hV hres
  have goal : ∃ v', (results fn a'.tmps).run P w' = .ok v' w' ∧ ∃ v r fin, Ending.returned v' = .returned v ∧ Post r fin ∧ fin.length = ios.length ∧ (∀ (k : Nat) row f, ios[k]? = some row → fin[k]? = some f → f.length = row.es.length ∧ (row.bx = true → f = row.es)) ∧
      ∀ t, t ≠ io → ∃ ρ', RetOk G al w X w' v r ios fin t ρ' := by
    refine ⟨v, hrun, v, r, fin, rfl, hPost, hfl, fun k row f hk hf => ?_, fun t ht => ⟨exRho t u ρ1, ?_⟩⟩
    · obtain ⟨es, h1, h2, _, h3⟩ := hfin k row hk
      rw [hf] at h1
      injection h1 with h1
      rw [h1]; exact ⟨h2, h3⟩
    · have hrows := exp_thaw t hexp
      have retT : ∀ id row, (ioMem (withEs ios fin)).upds (thaw t r).2 id = some (some row) → id.1 = t → noMem.upds (thaw t r).2 id = some (some row) := by
        intro id row hl hid
        rcases upds_or (ioMem (withEs ios fin)) (thaw t r).2 id with ⟨h1, _⟩ | ⟨h1, _⟩
        · rw [← h1]; exact hl
        · rw [h1] at hl
          simp only [ioMem] at hl
          rw [if_neg (by rw [hid]; exact ht)] at hl
          cases hl
      have retI : ∀ id row, (ioMem (withEs ios fin)).upds (thaw t r).2 id = some (some row) → id.1 ≠ t → id.1 = io ∧ st'.M id = some (some row) := by
        intro id row hl hid
        rw [upds_other _ _ id fun p hp e => hid (by rw [← e]; exact thaw_fst t r p hp)] at hl
        simp only [ioMem] at hl
        split at hl
        · rename_i hio
          refine ⟨hio, ?_⟩
          rw [withEs_at ios fin _ hfl] at hl
          cases hk : ios[id.2]? with
          | none => rw [hk] at hl; simp at hl
          | some row0 =>
            obtain ⟨es, g1, g2, g3, _⟩ := hfin id.2 row0 hk
            rw [hk, g1] at hl
            simp at hl
            rw [← hl]
            have : id = (io, id.2) := by rw [← hio]
            rw [this]
            exact g3
        · cases hl
      have found : ∀ id row, noMem.upds (thaw t r).2 id = some (some row) → row.bx = false ∧ ((exRho t u ρ1 id = none ∧ row.es = []) ∨ ∃ id', u[id.2]? = some (some id') ∧ exRho t u ρ1 id = ρ1 id' ∧ id'.1 ≠ io ∧ st'.M id' = some (some row) ∧
          (al = true ∨ ∀ e ∈ row.es, ∀ c ∈ e, c.flat = true)) := by
        intro id row hl
        obtain ⟨k, row', he, hbx, h1⟩ := hrows _ (upds_find hl)
        simp only [Prod.mk.injEq, Nat.zero_add, Option.some.injEq] at he
        obtain ⟨rfl, rfl⟩ := he
        refine ⟨hbx, ?_⟩
        rcases h1 with ⟨h1, h2⟩ | ⟨id', h1, h2, h3, h4⟩
        · exact .inl ⟨by simp [exRho, h1], h2⟩
        · exact .inr ⟨id', h1, by simp [exRho, h1], h2, h3, h4⟩
      have hpre : ∀ id row b z, (ioMem (withEs ios fin)).upds (thaw t r).2 id = some (some row) → exRho t u ρ1 id = some (b, z) → ∃ id', st'.M id' = some (some row) ∧ ρ1 id' = some (b, z) ∧ ((id.1 = t ∧ u[id.2]? = some (some id') ∧ id'.1 ≠ io) ∨ (id.1 = io ∧ id' = id)) := by
        intro id row b z hl hb
        by_cases hid : id.1 = t
        · rcases (found id row (retT id row hl hid)).2 with ⟨h1, _⟩ | ⟨id', h1, h2, h3, h4, _⟩
          · rw [h1] at hb; cases hb
          · exact ⟨id', h4, by rw [← h2]; exact hb, .inl ⟨hid, h1, h3⟩⟩
        · obtain ⟨h1, h2⟩ := retI id row hl hid
          simp only [exRho, hid, if_false] at hb
          exact ⟨id, h2, hb, .inr ⟨h1, rfl⟩⟩
      have hS : ∀ b, Stab G ρ1 st'.M w' b → Stab G (exRho t u ρ1) ((ioMem (withEs ios fin)).upds (thaw t r).2) w' b := by
        intro b hb
        refine ⟨hb.1, fun id row z hl hh => ?_, hb.2.2⟩
        obtain ⟨id', h1, h2, _⟩ := hpre id row b z hl hh
        exact hb.2.1 id' row z h1 h2
      refine ⟨⟨?_, ?_, ?_, hW1.keep, hW1.good⟩, ?_, ?_⟩
      · intro i1 i2 r1 r2 b z1 z2 h1 h2 k1 k2
        obtain ⟨j1, m1, n1, o1⟩ := hpre i1 r1 b z1 h1 k1
        obtain ⟨j2, m2, n2, o2⟩ := hpre i2 r2 b z2 h2 k2
        have hj := hW1.inj j1 j2 r1 r2 b z1 z2 m1 m2 n1 n2
        subst hj
        rcases o1 with ⟨a1, a2, a3⟩ | ⟨a1, a2⟩ <;> rcases o2 with ⟨b1, b2, b3⟩ | ⟨b1, b2⟩
        · have := apart_inj hap a2 b2
          exact Prod.ext (a1.trans b1.symm) this
        · rw [b2] at a3; exact absurd b1 a3
        · rw [a2] at b3; exact absurd a1 b3
        · rw [← a2, ← b2]
      · intro id row hl
        by_cases hid : id.1 = t
        · obtain ⟨hbx, h⟩ := found id row (retT id row hl hid)
          rcases h with ⟨h1, h2⟩ | ⟨id', h1, h2, h3, h4, _⟩
          · rw [h1]; exact ⟨h2, hbx⟩
          · rw [h2]
            have hr := hW1.row id' row h4
            cases hb : ρ1 id' with
            | none => rw [hb] at hr; exact hr
            | some bz =>
              obtain ⟨b, z⟩ := bz
              rw [hb] at hr
              obtain ⟨cur, C, g1, g2, g3, g4, g5, g6⟩ := hr
              refine ⟨cur, C, g1, g2, g3, g4, g5, fun i e hi => ⟨(g6 i e hi).1, fun j x hx => ?_⟩⟩
              obtain ⟨c, k1, k2, k3⟩ := (g6 i e hi).2 j x hx
              rw [hbx] at k3 ⊢
              exact ⟨c, k1, k2, k3.pureMono fun b hb => ⟨hS b hb, rfl⟩⟩
        · obtain ⟨hio, h2⟩ := retI id row hl hid
          simp only [exRho, hid, if_false]
          have hmx : ∀ id1, ((ioIds ios.length).any fun k => Nat.beq k.1 id1.1 && Nat.beq k.2 id1.2) = true → ∃ q q', st'.M ((fun i => i) id1) = some (some q) ∧ ((ioMem (withEs ios fin)).upds (thaw t r).2) id1 = some (some q') ∧ q'.sz = q.sz ∧ q'.ty = q.ty ∧ q'.es.length = q.es.length ∧
              (exRho t u ρ1) id1 = ρ1 ((fun i => i) id1) := by
            intro id1 hid1
            obtain ⟨e1, e2⟩ := ioIds_any hid1
            obtain ⟨i1, i2⟩ := id1
            simp only at e2
            obtain rfl : i1 = io := congrArg Prod.fst e1
            obtain ⟨q0, hk⟩ : ∃ q0, ios[i2]? = some q0 := ⟨_, List.getElem?_eq_getElem e2⟩
            obtain ⟨es, g1, g2, g3, _⟩ := hfin i2 q0 hk
            refine ⟨{ q0 with es := es }, { q0 with es := es }, g3, ?_, rfl, rfl, rfl, ?_⟩
            · rw [upds_other _ _ _ fun p hp e => ht (by rw [← thaw_fst t r p hp, e])]
              simp [ioMem, withEs_at ios fin _ hfl, hk, g1]
            · have : io ≠ t := fun e => ht e.symm
              simp only [exRho, this, if_false]
          have hbx : row.bx = false ∨ ∀ e ∈ row.es, ∀ u ∈ e, refsD 5 (ioIds ios.length) u = true := by
            rw [upds_other _ _ id fun p hp e => hid (by rw [← e]; exact thaw_fst t r p hp)] at hl
            simp only [ioMem, hio, if_true] at hl
            rw [withEs_at ios fin _ hfl] at hl
            cases hk : ios[id.2]? with
            | none => rw [hk] at hl; simp at hl
            | some row0 =>
              obtain ⟨es, g1, _, _, g4⟩ := hfin id.2 row0 hk
              rw [hk, g1] at hl
              simp at hl
              rw [← hl]
              rcases hios row0 (List.mem_of_getElem? hk) with h | h
              · exact .inl h
              · cases hb0 : row0.bx
                · exact .inl rfl
                · rw [g4 hb0]; exact .inr h
          have hr := hW1.row id row h2
          cases hb : ρ1 id with
          | none => rw [hb] at hr; exact hr
          | some bz =>
            obtain ⟨b, z⟩ := bz
            rw [hb] at hr
            obtain ⟨cur, C, g1, g2, g3, g4, g5, g6⟩ := hr
            refine ⟨cur, C, g1, g2, g3, g4, g5, fun i e hi => ⟨(g6 i e hi).1, fun j x hx => ?_⟩⟩
            obtain ⟨c, k1, k2, k3⟩ := (g6 i e hi).2 j x hx
            refine ⟨c, k1, k2, ?_⟩
            cases hrb : row.bx
            · rw [hrb] at k3
              exact k3.pureMono fun b hb => ⟨hS b hb, rfl⟩
            · rw [hrb] at k3
              rcases hbx with h | h
              · rw [hrb] at h; cases h
              · have k4 : Rep ρ1 w' (Stab G ρ1 st'.M w') st'.M c (subD 5 (fun i => i) x) := by rw [subD_id]; exact k3
                exact (rep_ren (ioIds ios.length) hmx 5 x c (h e (List.mem_of_getElem? hi) x (List.mem_of_getElem? hx))).1 hS k4
      · intro id row hl
        by_cases hid : id.1 = t
        · rw [if_neg (by rw [hid]; exact ht)]
          intro b z hb
          obtain ⟨id', h1, h2, h3⟩ := hpre id row b z hl hb
          rcases h3 with ⟨_, _, h3⟩ | ⟨h3, _⟩
          · have := hW1.new id' row h1
            rw [if_neg h3] at this
            exact this b z h2
          · rw [hid] at h3; exact absurd h3 ht
        · obtain ⟨hio, h2⟩ := retI id row hl hid
          simp only [exRho, hid, if_false]
          exact hW1.new id row h2
      · intro id row b z hl hb
        obtain ⟨hbx, h⟩ := found id row hl
        refine ⟨hbx, ?_⟩
        rcases h with ⟨h1, _⟩ | ⟨id', h1, h2, h3, h4, h5⟩
        · rw [h1] at hb; cases hb
        · rw [h2] at hb
          have hr := hW1.row id' row h4
          rw [hb] at hr
          obtain ⟨cur, C, g1, g2, g3, g4, g5, g6⟩ := hr
          refine ⟨cur, g1, fun i e hi j x hx => ?_⟩
          obtain ⟨c, k1, k2, k3⟩ := (g6 i e hi).2 j x hx
          rw [hbx] at k3
          refine ⟨c, k1, ?_⟩
          rcases h5 with h5 | h5
          · exact k3.pureMono fun b hb => ⟨⟨hS b hb, fun h => by rw [h5] at h; cases h⟩, rfl⟩
          · exact rep_flat (h5 e (List.mem_of_getElem? hi) x (List.mem_of_getElem? hx)) k3
      · exact exp_rep (fun ha b hb => ⟨hS b hb, fun h => by rw [ha] at h; cases h⟩) hexp hv
  rcases he with rfl | rfl
  · exact ⟨hdef, goal⟩
  · exact ⟨hdef, goal⟩
end
end Go.Vs
