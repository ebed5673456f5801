/- VALUE SEMANTICS, 31: results of functions that were lent rows. -/
import Derived.Test.YthjlolbooehhcaaVs29
set_option linter.unusedVariables false
set_option linter.unusedSimpArgs false
namespace Go.Vs
section
variable {P : Program} {st : St}
def finsOk (mem : List (Id × Option Row)) : Nat → List Row → List (List (List PV)) → Prop
  | _, [], [] => True
  | k, r :: rs, f :: fs => f.length = r.es.length ∧ getM mem (io, k) = some (some { r with es := f }) ∧ finsOk mem (k + 1) rs fs
  | _, _, _ => False
theorem fins_ok {mem : List (Id × Option Row)} : ∀ {rs : List Row} {fs : List (List (List PV))} {k0 : Nat}, (rs.all fun r => !r.bx) = true → finsOk mem k0 rs fs → fs.length = rs.length ∧
    ∀ (k : Nat) row, rs[k]? = some row → ∃ es, fs[k]? = some es ∧ es.length = row.es.length ∧ getM mem (io, k0 + k) = some (some { row with es := es }) ∧ (row.bx = true → es = row.es)
  | [], [], _, _, _ => ⟨rfl, fun k row h => by simp at h⟩
  | r :: rs, f :: fs, k0, hbx, h => by
    rw [List.all_cons, Bool.and_eq_true] at hbx
    obtain ⟨h1, h2, h3⟩ := h
    obtain ⟨g1, g2⟩ := fins_ok hbx.2 h3
    refine ⟨by simp [g1], fun k row hk => ?_⟩
    cases k with
    | zero =>
      simp only [List.getElem?_cons_zero, Option.some.injEq] at hk
      subst hk
      exact ⟨f, rfl, h1, h2, fun h => by have := hbx.1; rw [h] at this; cases this⟩
    | succ k =>
      obtain ⟨es, k1, k2, k3, k4⟩ := g2 k row (by simpa using hk)
      exact ⟨es, by simpa using k1, k2, by rw [show k0 + (k + 1) = k0 + 1 + k by omega]; exact k3, k4⟩
  | [], _ :: _, _, _, h => h.elim
  | _ :: _, [], _, _, h => h.elim
theorem ret_ios {fn : Func} {al : Bool} {t : Nat} {k : IntKind} {b b' : Int} {rows : List Row} {fin : List (List (List PV))} (hr : fn.results = #[.tmp t]) (hv : getE st.env t = .int k b) (hb : b = b') (hf : finsOk st.mem 0 rows fin) (hbx : (rows.all fun r => !r.bx) = true := by rfl) :
    RetPost P fn al rows (fun r' fin' => r' = .int k b' ∧ fin' = fin) .ret st := by
  subst hb
  obtain ⟨h1, h2⟩ := fins_ok hbx hf
  refine ⟨.inl rfl, [.int k b], .int k b, [], fin, by rw [hr]; exact ⟨hv, trivial⟩, ⟨rfl, rfl, rfl⟩, trivial, ⟨rfl, rfl⟩, h1, fun j row h => ?_⟩
  obtain ⟨es, g1, g2, g3, g4⟩ := h2 j row h
  exact ⟨es, g1, g2, by rw [Nat.zero_add] at g3; exact g3, g4⟩
end
end Go.Vs
