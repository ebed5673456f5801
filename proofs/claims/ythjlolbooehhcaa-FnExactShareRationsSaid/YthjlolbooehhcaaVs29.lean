/- VALUE SEMANTICS, 29: calls that are lent rows, found by looking; calls whose results may share what was handed over. -/
import Derived.Test.YthjlolbooehhcaaVs28
set_option linter.unusedVariables false
set_option linter.unusedSimpArgs false
namespace Go.Vs
section
variable {P : Program} {ops : Array Oper} {draw : Bool} {rest : List Oper} {env : List (Nat × PV)} {mem : List (Id × Option Row)} {tr : List (List Id × List Id)} {K : St → List (List Id × List Id) → Prop}
  {d : Nat} {ty : TypeId} {pos : String} {af : Array Edge} {x y c : Operand} {T yT : TypeId}
/-- The own slices that a list of values names, in order. -/
def sliceIds : List PV → Option (List Id)
  | [] => some []
  | .osl id _ _ :: r => match sliceIds r with
    | some l => some (id :: l)
    | none => none
  | _ :: r => sliceIds r
def argIds : List PV → Option (List Id)
  | [] => some []
  | .osl id _ _ :: r => match argIds r with
    | some l => some (id :: l)
    | none => none
  | .agg cs :: r => match sliceIds cs, argIds r with
    | some a, some b => appO a b
    | _, _ => none
  | _ :: r => argIds r
def rowsAt (mem : List (Id × Option Row)) : List Id → Option (List Row)
  | [] => some []
  | id :: r => match getM mem id, rowsAt mem r with
    | some (some ⟨a, b, c, false⟩), some l => some (⟨a, b, c, false⟩ :: l)
    | _, _ => none
def rowsNew (mem : List (Id × Option Row)) : List Id → List (List (List PV)) → Option (List (Id × Option Row))
  | [], [] => some []
  | id :: r, es :: fs => match getM mem id, rowsNew mem r fs with
    | some (some ⟨a, b, _, false⟩), some l => some ((id, some ⟨a, b, es, false⟩) :: l)
    | _, _ => none
  | _, _ => none
def nodupB : List Id → Bool
  | [] => true
  | a :: r => !(hasId r a) && nodupB r
theorem hasId_iff {l : List Id} {id : Id} : hasId l id = true ↔ id ∈ l := by
  induction l with
  | nil => simp [hasId]
  | cons a r ih =>
    simp only [hasId, List.mem_cons]
    cases h : idEq a id with
    | true => rw [idEq_iff] at h; simp [h]
    | false =>
      simp only [cond_false, ih]
      constructor
      · exact .inr
      · rintro (rfl | h2)
        · rw [idEq_iff.2 rfl] at h; cases h
        · exact h2
theorem nodupB_ok : ∀ {l : List Id}, nodupB l = true → l.Nodup
  | [], _ => List.nodup_nil
  | a :: r, h => by
    simp only [nodupB, Bool.and_eq_true, Bool.not_eq_true'] at h
    refine List.nodup_cons.2 ⟨fun hm => ?_, nodupB_ok h.2⟩
    rw [hasId_iff.2 hm] at h
    cases h.1
theorem rowsAt_ok : ∀ {ids : List Id} {ios : List Row}, rowsAt mem ids = some ios → ids.length = ios.length ∧ ∀ (k : Nat) id row, ids[k]? = some id → ios[k]? = some row → getM mem id = some (some row) ∧ row.bx = false
  | [], ios, h => by cases h; exact ⟨rfl, fun k id row h => by simp at h⟩
  | a :: r, ios, h => by
    simp only [rowsAt] at h
    split at h
    · rename_i l h1 h2
      cases h
      obtain ⟨g1, g2⟩ := rowsAt_ok h2
      refine ⟨by simp [g1], fun k id row hk hr => ?_⟩
      cases k with
      | zero =>
        simp only [List.getElem?_cons_zero, Option.some.injEq] at hk hr
        subst hk hr
        exact ⟨h1, rfl⟩
      | succ k => exact g2 k id row (by simpa using hk) (by simpa using hr)
    · cases h
theorem rowsNew_ok : ∀ {ids : List Id} {fin : List (List (List PV))} {mem' : List (Id × Option Row)}, rowsNew mem ids fin = some mem' → ioUps (getM mem) ids fin = mem'
  | [], [], mem', h => by cases h; rfl
  | id :: r, es :: fs, mem', h => by
    simp only [rowsNew] at h
    split at h
    · rename_i a b _ l h1 h2
      cases h
      simp only [ioUps, h1, rowsNew_ok h2]
      rfl
    · cases h
  | [], _ :: _, _, h => by cases h
  | _ :: _, [], _, h => by cases h
/-- A call that is lent the own slices of its arguments and gives back one cell. -/
theorem x_callM {f : Operand} {args : List Operand} {ats : Array TypeId} {g : FuncId} {fi ca xs ys : List PV} {r : PV} {ids : List Id} {ios ios' : List Row} {fin : List (List (List PV))} {mem' : List (Id × Option Row)}
    (hC : ContractP P g true ys ios fun r' fin' => r' = r ∧ fin' = fin) (hf : ev (getE env) f = .fn g fi ca)
    (hxs : fi ++ args.map (ev (getE env)) ++ ca = xs) (hids : argIds xs = some ids) (hios : rowsAt mem ids = some ios') (hsame : ios' = ios) (hnd : nodupB ids = true) (hsnap : AllR (SnapD 6 (getM mem) ids []) xs ys) (hfree : freeB mem d = true)
    (hth : thaw d r = (r, [])) (hnew : rowsNew mem ids fin = some mem')
    (hk : exec P ops draw rest ⟨(d, r) :: env, mem' ++ mem⟩ ((ids, (d, 0) :: mem'.map (·.1)) :: tr) K) : exec P ops draw (⟨some d, .call ⟨.value f, args.toArray, ats⟩, ty, pos, af, none⟩ :: rest) ⟨env, mem⟩ tr K := by
  subst hsame
  obtain ⟨hl, hr⟩ := rowsAt_ok hios
  refine x_callIO ids [] r hC hf hxs hsnap hfree hl (nodupB_ok hnd) (fun k id row h1 h2 => ?_) (fun id h => absurd h (by simp)) ⟨fun id h => absurd h (by simp), by simp⟩ (by rw [hth]) (mem' := mem') ?_ (by rw [List.append_nil]; exact hk)
  · obtain ⟨g1, g2⟩ := hr k id row h1 h2
    exact ⟨row, g1, by cases row; simp only at g2; subst g2; rfl, .inl g2⟩
  · simp only [callUps, hth, frzUps, rowsNew_ok hnew]
    simp
/-- A contract whose result may share what was handed over. -/
def ConA (P : Program) (g : FuncId) (ys : List PV) (r : PV) : Prop := ContractP P g true ys [] (Ret r)
theorem Con.a {g : FuncId} {ys : List PV} {r : PV} (h : Con P g ys r) : ConA P g ys r := h true
/-- A call whose result may share what was handed over: the own rows that it reads are given up. -/
theorem x_callA {f : Operand} {args : List Operand} {ats : Array TypeId} {g : FuncId} {fi ca xs ys : List PV} {r v : PV} {rd : List Id} {mem' : List (Id × Option Row)} (fnb : Bool) (hC : ConA P g ys r) (hf : ev (getE env) f = .fn g fi ca)
    (hxs : fi ++ args.map (ev (getE env)) ++ ca = xs) (hrd : rdL (rdO fnb 6 mem) xs ys [] = some rd) (hnd : nodupB rd = true) (hlive : (rd.all fun id => !Nat.beq id.1 io && (match getM mem id with | some (some _) => true | _ => false)) = true)
    (hsnap : AllR (SnapD 6 (getM mem) [] rd) xs ys) (hfree : freeB mem d = true) (hth : thaw d r = (v, mem'))
    (hk : exec P ops draw rest ⟨(d, v) :: env, mem' ++ (rd.map fun id : Id => (id, (none : Option Row))) ++ mem⟩ ((rd, (d, 0) :: (mem' ++ (rd.map fun id : Id => (id, (none : Option Row)))).map (·.1)) :: tr) K) : exec P ops draw (⟨some d, .call ⟨.value f, args.toArray, ats⟩, ty, pos, af, none⟩ :: rest) ⟨env, mem⟩ tr K := by
  refine x_callIO (ios := []) (fin := []) [] rd v (r := r) ?_ hf hxs hsnap hfree rfl List.nodup_nil (fun k id row h => by simp at h) (fun id _ h => by simp at h) ⟨fun id hid => ?_, nodupB_ok hnd⟩ (by rw [hth]) ?_ hk
  · exact hC
  · have := List.all_eq_true.1 hlive id hid
    rw [Bool.and_eq_true] at this
    refine ⟨fun e => by rw [e] at this; simp at this, ?_⟩
    have h2 := this.2
    split at h2
    · exact ⟨_, by assumption⟩
    · cases h2
  · simp [callUps, hth, frzUps, ioUps]
end
end Go.Vs
