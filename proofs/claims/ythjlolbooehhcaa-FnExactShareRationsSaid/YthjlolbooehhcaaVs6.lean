/- VALUE SEMANTICS, 6: the model's operation does what the step on pure values says. -/
import Derived.Test.YthjlolbooehhcaaVs5
set_option linter.unusedVariables false
set_option linter.unusedSimpArgs false
namespace Go.Vs
section
variable {P : Program} {a : Act} {o : Oper} {G : Nat → Prop} {ρ : Id → Option (Nat × Nat)} {w0 : World} {X : List (Option (Nat × Nat))} {M : Mem} {w : World} {V : Nat → PV}

theorem OpRes.quiet (hW : WRel G ρ w0 X M w) {x : PV} {rd : List Id} {v : Value} (hrun : (execOp a.eval o).run P w = .ok (.value v) w) (hr : Rep ρ w (Stab G ρ M w) M v x) : OpRes P a o G ρ w0 X M w ⟨x, [], rd⟩ :=
  ⟨ρ, w, v, .inl hrun, Trans.refl _ _ _ _, hW, hr⟩

theorem rep_ev (hV : ∀ t, Rep ρ w (Stab G ρ M w) M (a.tmps.getD t undef) (V t)) (x : Operand) : Rep ρ w (Stab G ρ M w) M (a.eval x) (ev V x) := by
  cases x with
  | tmp t => exact hV t
  | const v => exact rep_ofConst
  | func f => exact rep_fn.2 ⟨#[], #[], rfl, ⟨rfl, fun j u hu => by simp at hu⟩, ⟨rfl, fun j u hu => by simp at hu⟩⟩
  | global g => exact rep_any

theorem comps_map (hV : ∀ t, Rep ρ w (Stab G ρ M w) M (a.tmps.getD t undef) (V t)) (xs : Array Operand) : Comps ρ w (Stab G ρ M w) M (xs.map a.eval) (xs.toList.map (ev V)) := by
  refine ⟨by simp, fun j u hu => ?_⟩
  rw [List.getElem?_map, Option.map_eq_some_iff] at hu
  obtain ⟨x, hx, rfl⟩ := hu
  exact ⟨a.eval x, by rw [Array.getElem?_map]; rw [Array.getElem?_toList] at hx; simp [hx], rep_ev hV x⟩

theorem cells_take {ad : Addr} {S : Nat → Prop} {us : List PV} (hc : Cells ρ w S ad us) (k : Nat) (hk : k ≤ us.length) :
    ∃ cs : List Value, cs.length = k ∧ (∀ (j : Nat) v, cs[j]? = some v → w.cell? (ad.add j) = some v) ∧ Comps ρ w S M cs.toArray (us.take k) := by
  obtain ⟨l, hl, hn⟩ := exists_cells (fun j => w.cell? (ad.add j)) k (fun j hj => by
    obtain ⟨c, h1, _⟩ := hc j us[j] (List.getElem?_eq_getElem (by omega))
    exact ⟨c, h1⟩)
  refine ⟨l, hl, fun j v hj => ?_, ⟨by simp [hl, hk], fun j u hu => ?_⟩⟩
  · have : j < k := by rw [← hl]; exact (List.getElem?_eq_some_iff.1 hj).1
    exact (hn j this).trans hj
  · rw [List.getElem?_take] at hu
    split at hu
    · rename_i hj
      obtain ⟨c, h1, h2, h3⟩ := hc j u hu
      refine ⟨c, ?_, h3.pureMono fun b hb => ⟨hb, rfl⟩⟩
      rw [List.getElem?_toArray, ← hn j hj]
      exact h1
    · cases hu

/-- The cells of an own row's element. -/
theorem own_cells (hW : WRel G ρ w0 X M w) {id : Id} {i off : Nat} {r : Row} {e : List PV} {v : Value} (hM : M id = some (some r)) (he : r.es[i]? = some e) (h : Rep ρ w (Stab G ρ M w) M v (.own id i off)) :
    ∃ b z cur, ρ id = some (b, z) ∧ v = .pointer (some ⟨b, z + i * r.sz + off, none⟩) ∧ w.heap[b]? = some (.cells cur r.ty (0, 0)) ∧ e.length = r.sz ∧ z + i * r.sz + r.sz ≤ cur.size ∧ 0 < r.sz ∧
      (∀ (j : Nat) u, e[j]? = some u → ∃ c, cur[z + i * r.sz + j]? = some c ∧ c.oneCell' = true ∧ Rep ρ w (Stab G ρ M w) (if r.bx then M else noMem) c u) ∧
      (∀ (i' : Nat) e', r.es[i']? = some e' → e'.length = r.sz ∧ ∀ (j : Nat) u, e'[j]? = some u → ∃ c, cur[z + i' * r.sz + j]? = some c ∧ c.oneCell' = true ∧ Rep ρ w (Stab G ρ M w) (if r.bx then M else noMem) c u) := by
  have h1 := (rep_own hM).1 h
  have hr := hW.row id r hM
  cases hρ : ρ id with
  | none => simp [OwnOk, hρ] at h1
  | some bz =>
    obtain ⟨b, z⟩ := bz
    simp only [OwnOk, hρ] at h1
    rw [hρ] at hr
    obtain ⟨cur, C, g1, g2, g3, g4, g5, g6⟩ := hr
    have hi : i < r.es.length := (List.getElem?_eq_some_iff.1 he).1
    have hle : (i + 1) * r.sz ≤ C * r.sz := Nat.mul_le_mul_right _ (by omega)
    rw [Nat.add_mul] at hle
    exact ⟨b, z, cur, rfl, h1, g1, (g6 i e he).1, by omega, g5, (g6 i e he).2, g6⟩
theorem repB_M {v : Value} {x : PV} {b : Bool} (h : Rep ρ w (Stab G ρ M w) (if b then M else noMem) v x) : Rep ρ w (Stab G ρ M w) M v x := by
  cases b
  · exact h.pureMono fun b hb => ⟨hb, rfl⟩
  · exact h

theorem run_eql_bool {T : TypeId} (hT : P.underlying T = some .bool) (b c : Bool) : (binOp .eql T (.bool b) (.bool c)).run P w = .ok (.bool (b == c)) w := by
  simp only [binOp, Sem.run_bind, run_equal_bool w T b c hT, Result.andThen_ok, Sem.run_pure]
theorem run_neq_bool {T : TypeId} (hT : P.underlying T = some .bool) (b c : Bool) : (binOp .neq T (.bool b) (.bool c)).run P w = .ok (.bool (!(b == c))) w := by
  simp only [binOp, Sem.run_bind, run_equal_bool w T b c hT, Result.andThen_ok, Sem.run_pure]

theorem step_bin (hW : WRel G ρ w0 X M w) (hV : ∀ t, Rep ρ w (Stab G ρ M w) M (a.tmps.getD t undef) (V t)) {op : BinOp} {T yT : TypeId} {x y : Operand} (ho : o.op = .binOp op T x y yT) {r : PV}
    (h : BinOk P T op (ev V x) (ev V y) r) : OpRes P a o G ρ w0 X M w ⟨r, [], []⟩ := by
  have hx := rep_ev hV x
  have hy := rep_ev hV y
  revert h hx hy
  cases ev V x <;> cases ev V y <;> intro h hx hy <;> simp only [BinOk] at h <;> try exact h.elim
  case int.int k m k' n =>
    have ex := rep_int.1 hx
    have ey := rep_int.1 hy
    obtain ⟨hk, hr⟩ := h
    by_cases hsh : op = .shr
    · subst hsh
      simp only [intBin] at hr
      split at hr
      · cases hr
      · rename_i hn
        injection hr with hr
        subst hr
        refine OpRes.quiet hW (v := .int k (m.fdiv (2 ^ min n.toNat k.bits))) ?_ (rep_int.2 rfl)
        simp [execOp, ho, ex, ey, eqGuard_at_int, binOp, Op.shift, hn]
    · have hkk : k = k' := by rcases hk with hk | hk; exact hk; exact absurd hk hsh
      subst hkk
      cases op <;> simp only [intBin] at hr <;> (try cases hr) <;> (try (exact absurd rfl hsh)) <;>
        first
          | (refine OpRes.quiet hW (v := .int k _) ?_ (rep_int.2 rfl); simp [execOp, ho, ex, ey, eqGuard_at_int, binOp, Op.intArith, Op.intBits]; done)
          | (refine OpRes.quiet hW (v := .bool _) ?_ (rep_bool.2 rfl); simp [execOp, ho, ex, ey, eqGuard_at_int, binOp, Op.intCmp]; done)
          | (split at hr
             · cases hr
             · rename_i hn
               injection hr with hr
               subst hr
               refine OpRes.quiet hW (v := .int k _) ?_ (rep_int.2 rfl)
               simp [execOp, ho, ex, ey, eqGuard_at_int, binOp, Op.intDiv, hn])
  case bool.bool b c =>
    have ex := rep_bool.1 hx
    have ey := rep_bool.1 hy
    obtain ⟨hT, ⟨rfl, rfl⟩ | ⟨rfl, rfl⟩⟩ := h
    · refine OpRes.quiet hW (v := .bool (b == c)) ?_ (rep_bool.2 rfl)
      simp only [execOp, ho, ex, ey, eqGuard_at_bool, Sem.run_bind, Sem.run_pure, Result.andThen_ok, run_eql_bool hT]
    · refine OpRes.quiet hW (v := .bool (!(b == c))) ?_ (rep_bool.2 rfl)
      simp only [execOp, ho, ex, ey, eqGuard_at_bool, Sem.run_bind, Sem.run_pure, Result.andThen_ok, run_neq_bool hT]
  case str.str s t =>
    have ex := rep_str.1 hx
    have ey := rep_str.1 hy
    cases op <;> simp only [strBin] at h <;> (try cases h)
    case add =>
      split at h
      · rename_i hs
        injection h with h
        subst h
        refine OpRes.quiet hW (v := .string (s ++ t)) ?_ (rep_str.2 rfl)
        have : ¬ ((9223372036854775807 : Int) < (s.size : Int) + (t.size : Int)) := by omega
        simp [execOp, ho, ex, ey, eqGuard_at_string, binOp, Op.stringOp, this]
      · cases h
    all_goals
      refine OpRes.quiet hW (v := .bool _) ?_ (rep_bool.2 rfl)
      simp [execOp, ho, ex, ey, eqGuard_at_string, binOp, Op.stringOp]

theorem run_indexAt {T e : TypeId} {sz by_ : Nat} (hT : TSlice P T e sz by_) (ad : Addr) (len cap : Nat) (k : IntKind) (n : Int) (h0 : 0 ≤ n) (hn : n < len) :
    (Instr.indexAt T (.slice (some ad) len cap) (.int k n)).run P w = .ok (.pointer (some (ad.add (n.toNat * sz)))) w := by
  obtain ⟨ht, i, hi, hs, _⟩ := hT
  simp [Instr.indexAt, asIntOf, run_underlying ht, h0, hn, sizeOf, typeInfo, hi, hs]
theorem run_fieldAt {T : TypeId} {f off : Nat} (hT : TField P T f off) (ad : Addr) : (Instr.fieldAt T (.pointer (some ad)) f).run P w = .ok (.pointer (some (ad.add off))) w := by
  obtain ⟨fs, fd, i, ht, hf, ho, hi, hs⟩ := hT
  simp [Instr.fieldAt, run_underlying ht, hf, Instr.sureAddr, fieldPlace, sizeOf, typeInfo, hi, hs, ho]
end
end Go.Vs
