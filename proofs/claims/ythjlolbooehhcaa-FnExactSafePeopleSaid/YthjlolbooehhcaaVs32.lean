/- VALUE SEMANTICS, 32: truncated division; calls that are lent boxes and read others; functions without results. -/
import Derived.Test.YthjlolbooehhcaaVs31
set_option linter.unusedVariables false
set_option linter.unusedSimpArgs false
namespace Go.Vs
section
variable {P : Program} {ops : Array Oper} {draw : Bool} {rest : List Oper} {env : List (Nat × PV)} {mem : List (Id × Option Row)} {tr : List (List Id × List Id)} {K : St → List (List Id × List Id) → Prop}
  {d : Nat} {ty : TypeId} {pos : String} {af : Array Edge} {x y c : Operand} {T yT : TypeId}
theorem tdiv_bound {m n : Int} (h : -9223372036854775808 < m ∧ m ≤ 9223372036854775807) : -9223372036854775808 ≤ m.tdiv n ∧ m.tdiv n ≤ 9223372036854775807 := by
  have := Int.natAbs_tdiv_le_natAbs m n
  omega
theorem x_quoT {m n : Int} (hx : ev (getE env) x = .int .i64 m) (hy : ev (getE env) y = .int .i64 n) (hb : n ≠ 0 ∧ -9223372036854775808 < m ∧ m ≤ 9223372036854775807)
    (hk : exec P ops draw rest ⟨(d, .int .i64 (m.tdiv n)) :: env, mem⟩ (([], []) :: tr) K) : exec P ops draw (⟨some d, .binOp .quo T x y yT, ty, pos, af, none⟩ :: rest) ⟨env, mem⟩ tr K :=
  x_bin _ hx hy (by
    simp only [intBin, if_neg hb.1]
    rw [wrap_in (tdiv_bound hb.2)]) hk
theorem x_remT {m n : Int} (hx : ev (getE env) x = .int .i64 m) (hy : ev (getE env) y = .int .i64 n) (hb : n ≠ 0)
    (hk : exec P ops draw rest ⟨(d, .int .i64 (m.tmod n)) :: env, mem⟩ (([], []) :: tr) K) : exec P ops draw (⟨some d, .binOp .rem T x y yT, ty, pos, af, none⟩ :: rest) ⟨env, mem⟩ tr K :=
  x_bin _ hx hy (by simp only [intBin, if_neg hb]) hk
/-- The own rows that are lent: those that the callee names by 'io'. -/
def lendL (f : PV → PV → Option (List Id)) : List PV → List PV → Option (List Id)
  | x :: xs, y :: ys => match f x y, lendL f xs ys with
    | some a, some b => appO a b
    | _, _ => none
  | _, _ => some []
def lendO : Nat → PV → PV → Option (List Id)
  | 0, _, _ => none
  | d + 1, x, y => match x, y with
    | .osl id _ _, .osl q _ _ => cond (Nat.beq q.1 io) (some [id]) (some [])
    | .own id _ _, .own q _ _ => cond (Nat.beq q.1 io) (some [id]) (some [])
    | .agg xs, .agg ys => lendL (lendO d) xs ys
    | .fn _ a b, .fn _ a' b' => match lendL (lendO d) a a', lendL (lendO d) b b' with
      | some p, some q => appO p q
      | _, _ => none
    | _, _ => some []
def rowsB (mem : List (Id × Option Row)) : List Id → Option (List Row)
  | [] => some []
  | id :: r => match getM mem id, rowsB mem r with
    | some (some ⟨a, b, c, e⟩), some l => cond (!e || c.all fun el => el.all PV.pure1) (some (⟨a, b, c, false⟩ :: l)) none
    | _, _ => none
def rowsNewB (mem : List (Id × Option Row)) : List Id → List (List (List PV)) → Option (List (Id × Option Row))
  | [], [] => some []
  | id :: r, es :: fs => match getM mem id, rowsNewB mem r fs with
    | some (some ⟨a, b, _, e⟩), some l => some ((id, some ⟨a, b, es, e⟩) :: l)
    | _, _ => none
  | _, _ => none
theorem rowsB_ok : ∀ {ids : List Id} {ios : List Row}, rowsB mem ids = some ios → ids.length = ios.length ∧ ∀ (k : Nat) id row, ids[k]? = some id → ios[k]? = some row →
    ∃ r, getM mem id = some (some r) ∧ row = { r with bx := false } ∧ (r.bx = false ∨ ∀ e ∈ r.es, e.all PV.pure1 = true)
  | [], ios, h => by cases h; exact ⟨rfl, fun k id row h => by simp at h⟩
  | a :: r, ios, h => by
    simp only [rowsB] at h
    split at h
    · rename_i t s c e l h1 h2
      cases hb : (!e || c.all fun el => el.all PV.pure1) with
      | false => rw [hb] at h; cases h
      | true =>
        rw [hb] at h
        cases h
        obtain ⟨g1, g2⟩ := rowsB_ok h2
        refine ⟨by simp [g1], fun k id row hk hr => ?_⟩
        cases k with
        | zero =>
          simp only [List.getElem?_cons_zero, Option.some.injEq] at hk hr
          subst hk hr
          refine ⟨_, h1, rfl, ?_⟩
          cases e with
          | false => exact .inl rfl
          | true => exact .inr fun el hel => List.all_eq_true.1 (show (c.all fun el => el.all PV.pure1) = true from hb) el hel
        | succ k => exact g2 k id row (by simpa using hk) (by simpa using hr)
    · cases h
theorem rowsNewB_ok : ∀ {ids : List Id} {fin : List (List (List PV))} {mem' : List (Id × Option Row)}, rowsNewB mem ids fin = some mem' → ioUps (getM mem) ids fin = mem'
  | [], [], mem', h => by cases h; rfl
  | id :: r, es :: fs, mem', h => by
    simp only [rowsNewB] at h
    split at h
    · rename_i a b _ e l h1 h2
      cases h
      simp only [ioUps, h1, rowsNewB_ok h2]
      rfl
    · cases h
  | [], _ :: _, _, h => by cases h
  | _ :: _, [], _, h => by cases h
/-- A call that is lent own rows and gives up those that it reads. -/
theorem x_callB {f : Operand} {args : List Operand} {ats : Array TypeId} {g : FuncId} {fi ca xs ys : List PV} {r : PV} {ids rd : List Id} {ios ios' : List Row} {fin : List (List (List PV))} {mem' : List (Id × Option Row)}
    (hC : ContractP P g true ys ios fun r' fin' => r' = r ∧ fin' = fin) (hf : ev (getE env) f = .fn g fi ca)
    (hxs : fi ++ args.map (ev (getE env)) ++ ca = xs) (hids : lendL (lendO 6) xs ys = some ids) (hios : rowsB mem ids = some ios') (hsame : ios' = ios) (hrd : rdL (rdO true 6 mem) xs ys [] = some rd)
    (hnd : (nodupB ids && nodupB rd && rd.all (fun id => !(hasId ids id) && !Nat.beq id.1 io && (match getM mem id with | some (some _) => true | _ => false))) = true)
    (hsnap : AllR (SnapD 6 (getM mem) ids rd) xs ys) (hfree : freeB mem d = true) (hth : thaw d r = (r, [])) (hnew : rowsNewB mem ids fin = some mem')
    (hk : exec P ops draw rest ⟨(d, r) :: env, mem' ++ (rd.map fun id : Id => (id, (none : Option Row))) ++ mem⟩ ((ids ++ rd, (d, 0) :: (mem' ++ (rd.map fun id : Id => (id, (none : Option Row)))).map (·.1)) :: tr) K) :
    exec P ops draw (⟨some d, .call ⟨.value f, args.toArray, ats⟩, ty, pos, af, none⟩ :: rest) ⟨env, mem⟩ tr K := by
  subst hsame
  obtain ⟨hl, hr⟩ := rowsB_ok hios
  simp only [Bool.and_eq_true] at hnd
  obtain ⟨⟨hn1, hn2⟩, hn3⟩ := hnd
  have hn3 := List.all_eq_true.1 hn3
  refine x_callIO ids rd r hC hf hxs hsnap hfree hl (nodupB_ok hn1) hr (fun id hid hm => ?_) ⟨fun id hid => ?_, nodupB_ok hn2⟩ (by rw [hth]) (mem' := mem' ++ rd.map fun id => (id, none)) ?_ hk
  · have := hn3 id hid
    simp only [Bool.and_eq_true, Bool.not_eq_true'] at this
    rw [hasId_iff.2 hm] at this
    exact absurd this.1.1 (by simp)
  · have := hn3 id hid
    simp only [Bool.and_eq_true, Bool.not_eq_true'] at this
    refine ⟨fun e => by have h2 := this.1.2; rw [e] at h2; simp at h2, ?_⟩
    have h2 := this.2
    split at h2
    · exact ⟨_, by assumption⟩
    · cases h2
  · simp only [callUps, hth, frzUps, rowsNewB_ok hnew]
    simp
end
section
variable {P : Program} {st : St}
/-- A function without results. -/
theorem ret_none {fn : Func} {al : Bool} {rows : List Row} {fin : List (List (List PV))} {e : Exit} (he : e = .ret ∨ e = .normal) (hr : fn.results = #[]) (hf : finsOk st.mem 0 rows fin) (hbx : (rows.all fun r => !r.bx) = true := by rfl) :
    RetPost P fn al rows (fun r' fin' => r' = .tuple [] ∧ fin' = fin) e st := by
  obtain ⟨h1, h2⟩ := fins_ok hbx hf
  refine ⟨he, [], .tuple [], [], fin, by rw [hr]; exact trivial, rfl, trivial, ⟨rfl, rfl⟩, h1, fun j row h => ?_⟩
  obtain ⟨es, g1, g2, g3, g4⟩ := h2 j row h
  exact ⟨es, g1, g2, by rw [Nat.zero_add] at g3; exact g3, g4⟩
end
end Go.Vs
