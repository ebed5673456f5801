/- VALUE SEMANTICS: structs of three numbers compared as a whole. -/
import Derived.Test.YtnmkdilnblfdnaaGreatDoorVsC
import Derived.Laws.StructEq
import Derived.ChangeKeysEq
set_option linter.unusedVariables false
set_option linter.unusedSimpArgs false
namespace Go.Vs
def IntF (P : Program) (f : Field) (k : Nat) : Prop := f.offset = k ∧ f.name ≠ "_" ∧ P.plainKey f.type = true ∧ P.underlying f.type = some (.int .i64)
def Int3 (P : Program) (T : TypeId) : Prop := ∃ f0 f1 f2 : Field, P.underlying T = some (.struct #[f0, f1, f2]) ∧ IntF P f0 0 ∧ IntF P f1 1 ∧ IntF P f2 2 ∧ P.stoodInHeld T = false ∧ P.eqGuardType P.depth T = false
theorem run_ne3 {P : Program} {T : TypeId} (h : Int3 P T) (w : World) (a0 a1 a2 b0 b1 b2 : Int) :
    (binOp .neq T (.agg #[.int .i64 a0, .int .i64 a1, .int .i64 a2]) (.agg #[.int .i64 b0, .int .i64 b1, .int .i64 b2])).run P w = .ok (.bool (!((a0 == b0) && ((a1 == b1) && (a2 == b2))))) w := by
  obtain ⟨f0, f1, f2, hu, ⟨o0, n0, p0, u0⟩, ⟨o1, n1, p1, u1⟩, ⟨o2, n2, p2, u2⟩, hh, hg⟩ := h
  have hf : P.fieldsOf T = #[f0, f1, f2] := by simp [Program.fieldsOf, hu]
  rw [run_neq_struct w T, run_equalIn_struct w 9999 T _ _ (by rw [hf]; exact hu) hh, hf]
  have g0 : ∀ x0 x1 x2 : Int, (part f0.type #[.int .i64 x0, .int .i64 x1, .int .i64 x2] f0.offset).run P w = .ok (.int .i64 x0) w := fun x0 x1 x2 => run_part_plain (P := P) w p0 (by rw [o0]; rfl)
  have g1 : ∀ x0 x1 x2 : Int, (part f1.type #[.int .i64 x0, .int .i64 x1, .int .i64 x2] f1.offset).run P w = .ok (.int .i64 x1) w := fun x0 x1 x2 => run_part_plain (P := P) w p1 (by rw [o1]; rfl)
  have g2 : ∀ x0 x1 x2 : Int, (part f2.type #[.int .i64 x0, .int .i64 x1, .int .i64 x2] f2.offset).run P w = .ok (.int .i64 x2) w := fun x0 x1 x2 => run_part_plain (P := P) w p2 (by rw [o2]; rfl)
  have e0 : ∀ (t : TypeId), P.underlying t = some (.int .i64) → ∀ a b : Int, (Op.equalIn 9999 t (.int .i64 a) (.int .i64 b)).run P w = .ok (a == b) w := fun t ht a b => run_equalIn_int (P := P) w 9998 t .i64 .i64 a b ht
  simp only [Op.eqFields, n0, n1, n2, ne_eq, not_false_eq_true, if_true, Sem.run_bind, g0, g1, g2, Result.andThen_ok, e0 _ u0, e0 _ u1, e0 _ u2]
  cases h0 : (a0 == b0) <;> cases h1 : (a1 == b1) <;> cases h2 : (a2 == b2) <;> simp [g1, g2, e0 _ u1, e0 _ u2, h1, h2, n1, n2, Op.eqFields]
section
variable {P : Program} {ops : Array Oper} {draw : Bool} {rest : List Oper} {env : List (Nat × PV)} {mem : List (Id × Option Row)} {tr : List (List Id × List Id)} {K : St → List (List Id × List Id) → Prop}
  {d : Nat} {ty : TypeId} {pos : String} {af : Array Edge} {x y : Operand} {T yT : TypeId}
theorem rep_int3 {ρ : Id → Option (Nat × Nat)} {w : World} {S : Nat → Prop} {M : Mem} {v : Value} {a b c : Int} (h : Rep ρ w S M v (.agg [.int .i64 a, .int .i64 b, .int .i64 c])) : v = .agg #[.int .i64 a, .int .i64 b, .int .i64 c] := by
  obtain ⟨cs, rfl, hs, hc⟩ := rep_agg.1 h
  obtain ⟨c0, e0, r0⟩ := hc 0 _ rfl
  obtain ⟨c1, e1, r1⟩ := hc 1 _ rfl
  obtain ⟨c2, e2, r2⟩ := hc 2 _ rfl
  rw [rep_int.1 r0] at e0
  rw [rep_int.1 r1] at e1
  rw [rep_int.1 r2] at e2
  congr 1
  apply Array.ext
  · simpa using hs
  · intro i h1 h2
    have h3 : i < 3 := by simpa using h2
    match i, h3 with
    | 0, _ => obtain ⟨_, e⟩ := Array.getElem?_eq_some_iff.1 e0; simpa using e
    | 1, _ => obtain ⟨_, e⟩ := Array.getElem?_eq_some_iff.1 e1; simpa using e
    | 2, _ => obtain ⟨_, e⟩ := Array.getElem?_eq_some_iff.1 e2; simpa using e
theorem x_aggNe {a0 a1 a2 b0 b1 b2 : Int} (hT : Int3 P T) (hx : ev (getE env) x = .agg [.int .i64 a0, .int .i64 a1, .int .i64 a2]) (hy : ev (getE env) y = .agg [.int .i64 b0, .int .i64 b1, .int .i64 b2])
    (hk : exec P ops draw rest ⟨(d, .bool (!((a0 == b0) && ((a1 == b1) && (a2 == b2))))) :: env, mem⟩ (([], []) :: tr) K) : exec P ops draw (⟨some d, .binOp .neq T x y yT, ty, pos, af, none⟩ :: rest) ⟨env, mem⟩ tr K := by
  refine x_sem ⟨.bool (!((a0 == b0) && ((a1 == b1) && (a2 == b2)))), [], []⟩ rfl ?_ hk
  refine sem_of_res fun V' M' hV' hM' G ρ w0 X a w hW hV => ?_
  have h1 := rep_ev hV x
  have h2 := rep_ev hV y
  rw [hV' x (by simp [Op.operands])] at h1
  rw [hV' y (by simp [Op.operands])] at h2
  have e1 := rep_int3 (by rw [← hx]; exact h1)
  have e2 := rep_int3 (by rw [← hy]; exact h2)
  refine OpRes.quiet hW (v := .bool (!((a0 == b0) && ((a1 == b1) && (a2 == b2))))) ?_ (rep_bool.2 rfl)
  obtain ⟨f0, f1, f2, hu, q0, q1, q2, hh, hg⟩ := id hT
  simp only [execOp, e1, e2, Sem.run_bind, run_eqGuard_agg w .neq T x y _ _ hg, Result.andThen_ok, run_ne3 hT w, Sem.run_pure]
end
end Go.Vs
