/- VALUE SEMANTICS, 34: calls that are lent rows and boxes that lead to them; results of functions that were lent them. -/
import Derived.Test.YthjlolbooehhcaaVs33
set_option linter.unusedVariables false
set_option linter.unusedSimpArgs false
namespace Go.Vs
section
variable {P : Program} {draw : Bool} {ops : Array Oper} {rest : List Oper} {env : List (Nat × PV)} {mem : List (Id × Option Row)} {tr : List (List Id × List Id)} {K : St → List (List Id × List Id) → Prop}
  {d : Nat} {ty : TypeId} {pos : String} {af : Array Edge}
/-- One by one, what is lent. -/
def lendR (mem : List (Id × Option Row)) (ids0 : List Id) : List Id → List Row → Prop
  | [], [] => True
  | id :: ids, row :: rs => (∃ r, getM mem id = some (some r) ∧ Lend ids0 r row) ∧ lendR mem ids0 ids rs
  | _, _ => False
theorem lendR_ok {ids0 : List Id} : ∀ {ids : List Id} {ios : List Row}, lendR mem ids0 ids ios → ids.length = ios.length ∧ ∀ (k : Nat) id row, ids[k]? = some id → ios[k]? = some row → ∃ r, getM mem id = some (some r) ∧ Lend ids0 r row
  | [], [], _ => ⟨rfl, fun k id row h => by simp at h⟩
  | i :: ids, r :: rs, h => by
    obtain ⟨g1, g2⟩ := lendR_ok h.2
    refine ⟨by simp [g1], fun k id row hk hr => ?_⟩
    cases k with
    | zero =>
      simp only [List.getElem?_cons_zero, Option.some.injEq] at hk hr
      subst hk; subst hr
      exact h.1
    | succ k => exact g2 k id row (by simpa using hk) (by simpa using hr)
  | [], _ :: _, h => h.elim
  | _ :: _, [], h => h.elim
def rowsNewL (mem : List (Id × Option Row)) : List Id → List Row → List (List (List PV)) → Option (List (Id × Option Row))
  | [], _, _ => some []
  | id :: ids, ⟨_, _, _, bx⟩ :: rs, f :: fs => match bx, getM mem id, rowsNewL mem ids rs fs with
    | true, some (some ⟨a, b, c, e⟩), some l => some ((id, some ⟨a, b, c, e⟩) :: l)
    | false, some (some ⟨a, b, _, e⟩), some l => some ((id, some ⟨a, b, f, e⟩) :: l)
    | _, _, _ => none
  | _ :: _, _, _ => none
theorem rowsNewL_ok : ∀ {ids : List Id} {ios : List Row} {fin : List (List (List PV))} {mem' : List (Id × Option Row)}, rowsNewL mem ids ios fin = some mem' → ioUps (getM mem) ids (backF (getM mem) ids ios fin) = mem'
  | [], _, _, _, h => by
    simp only [rowsNewL, Option.some.injEq] at h
    subst h
    simp [ioUps]
  | id :: ids, ⟨t, z, es, bx⟩ :: rs, f :: fs, mem', h => by
    simp only [rowsNewL] at h
    split at h
    · rename_i a b c e l h1 h2
      cases h
      simp only [backF, ioUps, h1, rowsNewL_ok h2]
      rfl
    · rename_i a b c e l h1 h2
      cases h
      simp only [backF, ioUps, h1, rowsNewL_ok h2]
      rfl
    · cases h
  | _ :: _, [], _, _, h => by simp [rowsNewL] at h
  | _ :: _, _ :: _, [], _, h => by simp [rowsNewL] at h
/-- A call that is lent rows and boxes, and gives up the rows that it reads. -/
theorem x_callL {f : Operand} {args : List Operand} {ats : Array TypeId} {g : FuncId} {fi ca xs ys : List PV} {r v : PV} (ids : List Id) {rd : List Id} {ios : List Row} {fin : List (List (List PV))} {mem' up : List (Id × Option Row)}
    (hC : ContractP P g true ys ios fun r' fin' => r' = r ∧ fin' = fin) (hf : ev (getE env) f = .fn g fi ca)
    (hxs : fi ++ args.map (ev (getE env)) ++ ca = xs) (hlend : lendR mem ids ids ios) (hrd : rdL (rdO true 6 mem) xs ys [] = some rd)
    (hnd : (nodupB ids && nodupB rd && rd.all (fun id => !(hasId ids id) && !Nat.beq id.1 io && (match getM mem id with | some (some _) => true | _ => false))) = true)
    (hsnap : AllR (SnapD 6 (getM mem) ids rd) xs ys) (hfree : freeB mem d = true) (hth : thaw d r = (v, up)) (hnew : rowsNewL mem ids ios fin = some mem')
    (hk : exec P ops draw rest ⟨(d, v) :: env, (up ++ (mem' ++ (rd.map fun id : Id => (id, (none : Option Row))))) ++ mem⟩ ((ids ++ rd, (d, 0) :: (up ++ (mem' ++ (rd.map fun id : Id => (id, (none : Option Row))))).map (·.1)) :: tr) K) :
    exec P ops draw (⟨some d, .call ⟨.value f, args.toArray, ats⟩, ty, pos, af, none⟩ :: rest) ⟨env, mem⟩ tr K := by
  obtain ⟨hl, hr⟩ := lendR_ok hlend
  simp only [Bool.and_eq_true] at hnd
  obtain ⟨⟨hn1, hn2⟩, hn3⟩ := hnd
  have hn3 := List.all_eq_true.1 hn3
  refine x_callLend ids rd v hC hf hxs hsnap hfree hl (nodupB_ok hn1) hr (fun id hid hm => ?_) ⟨fun id hid => ?_, nodupB_ok hn2⟩ (by rw [hth]) (mem' := up ++ (mem' ++ rd.map fun id => (id, none))) ?_ hk
  · have := hn3 id hid
    simp only [Bool.and_eq_true, Bool.not_eq_true'] at this
    rw [hasId_iff.2 hm] at this
    exact absurd this.1.1 (by simp)
  · have := hn3 id hid
    simp only [Bool.and_eq_true, Bool.not_eq_true'] at this
    refine ⟨fun e => by have h2 := this.1.2; rw [e] at h2; simp at h2, ?_⟩
    have h2 := this.2
    split at h2
    · exact ⟨_, by assumption⟩
    · cases h2
  · simp only [callUps, hth, frzUps, rowsNewL_ok hnew]
    simp
end
section
variable {P : Program} {st : St}
def finsL (mem : List (Id × Option Row)) : Nat → List Row → List (List (List PV)) → Prop
  | _, [], [] => True
  | k, r :: rs, f :: fs => (f.length = r.es.length ∧ getM mem (io, k) = some (some { r with es := f }) ∧ (r.bx = true → f = r.es)) ∧ finsL mem (k + 1) rs fs
  | _, _, _ => False
theorem finsL_ok {mem : List (Id × Option Row)} : ∀ {rs : List Row} {fs : List (List (List PV))} {k0 : Nat}, finsL mem k0 rs fs → fs.length = rs.length ∧
    ∀ (k : Nat) row, rs[k]? = some row → ∃ es, fs[k]? = some es ∧ es.length = row.es.length ∧ getM mem (io, k0 + k) = some (some { row with es := es }) ∧ (row.bx = true → es = row.es)
  | [], [], _, _ => ⟨rfl, fun k row h => by simp at h⟩
  | r :: rs, f :: fs, k0, h => by
    obtain ⟨⟨h1, h2, h4⟩, h3⟩ := h
    obtain ⟨g1, g2⟩ := finsL_ok h3
    refine ⟨by simp [g1], fun k row hk => ?_⟩
    cases k with
    | zero =>
      simp only [List.getElem?_cons_zero, Option.some.injEq] at hk
      subst hk
      exact ⟨f, rfl, h1, h2, h4⟩
    | succ k =>
      obtain ⟨es, k1, k2, k3, k4⟩ := g2 k row (by simpa using hk)
      exact ⟨es, by simpa using k1, k2, by rw [show k0 + (k + 1) = k0 + 1 + k by omega]; exact k3, k4⟩
  | [], _ :: _, _, h => h.elim
  | _ :: _, [], _, h => h.elim
theorem ret_ofL {fn : Func} {al : Bool} {r : PV} {rows : List Row} {fin : List (List (List PV))} {e : Exit} (he0 : e = .ret ∨ e = .normal) (xs : List PV) (u : List (Option Id)) (hres : AllRes P st fn.results.toList xs) (he : Exp al st (tup xs) r u) (ha : apartIds u)
    (hf : finsL st.mem 0 rows fin) : RetPost P fn al rows (fun r' fin' => r' = r ∧ fin' = fin) e st := by
  obtain ⟨h1, h2⟩ := finsL_ok hf
  refine ⟨he0, xs, r, u, fin, hres, he, ha, ⟨rfl, rfl⟩, h1, fun j row h => ?_⟩
  obtain ⟨es, g1, g2, g3, g4⟩ := h2 j row h
  exact ⟨es, g1, g2, by rw [Nat.zero_add] at g3; exact g3, g4⟩
theorem ret_noneL {fn : Func} {al : Bool} {rows : List Row} {fin : List (List (List PV))} {e : Exit} (he : e = .ret ∨ e = .normal) (hr : fn.results = #[]) (hf : finsL st.mem 0 rows fin) :
    RetPost P fn al rows (fun r' fin' => r' = .tuple [] ∧ fin' = fin) e st :=
  ret_ofL he [] [] (by rw [hr]; exact trivial) rfl trivial hf
theorem ret_boolL {fn : Func} {al : Bool} {rows : List Row} {fin : List (List (List PV))} {e : Exit} {t : Nat} {b b' : Bool} (he : e = .ret ∨ e = .normal) (hr : fn.results = #[.tmp t]) (hv : getE st.env t = .bool b) (hb : b = b') (hf : finsL st.mem 0 rows fin) :
    RetPost P fn al rows (fun r' fin' => r' = .bool b' ∧ fin' = fin) e st :=
  ret_ofL he [.bool b] [] (by rw [hr]; exact ⟨hv, trivial⟩) ⟨hb, rfl⟩ trivial hf
end
end Go.Vs
