/- VALUE SEMANTICS, 8: the last operations; every step is sound. -/
import Derived.Test.YthjlolbooehhcaaVs7
set_option linter.unusedVariables false
set_option linter.unusedSimpArgs false
namespace Go.Vs
section
variable {P : Program} {a : Act} {o : Oper} {G : Nat → Prop} {ρ : Id → Option (Nat × Nat)} {w0 : World} {X : List (Option (Nat × Nat))} {M : Mem} {w : World} {V : Nat → PV} {f : Eff}

theorem step_fieldAddr (hW : WRel G ρ w0 X M w) (hV : ∀ t, Rep ρ w (Stab G ρ M w) M (a.tmps.getD t undef) (V t)) {T : TypeId} {x : Operand} {i : Nat} (ho : o.op = .fieldAddr T x i)
    (h : OpStep P o.dst (.fieldAddr T x i) V M f) : OpRes P a o G ρ w0 X M w f := by
  have hx := rep_ev hV x
  obtain ⟨off, hT, ⟨us, e, rfl⟩ | ⟨id, k, off0, r, e, hM, rfl⟩⟩ := h
  · rw [e] at hx
    obtain ⟨ad, ex, hS, hc⟩ := rep_ptr.1 hx
    refine OpRes.quiet hW (v := .pointer (some (ad.add off))) ?_ (rep_ptr.2 ⟨_, rfl, by rw [add_block]; exact hS, fun j u hu => ?_⟩)
    · simp only [execOp, ho, ex, Sem.run_bind, Sem.run_pure, run_fieldAt hT ad, Result.andThen_ok]
    · rw [List.getElem?_drop] at hu
      rw [add_add]
      exact hc _ u hu
  · rw [e] at hx
    have h1 := (rep_own hM).1 hx
    cases hρ : ρ id with
    | none => simp [OwnOk, hρ] at h1
    | some bz =>
      obtain ⟨b, z⟩ := bz
      simp only [OwnOk, hρ] at h1
      refine OpRes.quiet hW (v := .pointer (some ((⟨b, z + k * r.sz + off0, none⟩ : Addr).add off))) ?_ ((rep_own hM).2 ?_)
      · simp only [execOp, ho, h1, Sem.run_bind, Sem.run_pure, run_fieldAt hT, Result.andThen_ok]
      · simp only [OwnOk, hρ, add_off, Nat.add_assoc]

theorem step_indexAddr (hW : WRel G ρ w0 X M w) (hV : ∀ t, Rep ρ w (Stab G ρ M w) M (a.tmps.getD t undef) (V t)) {T : TypeId} {x ix : Operand} (ho : o.op = .indexAddr T x ix)
    (h : OpStep P o.dst (.indexAddr T x ix) V M f) : OpRes P a o G ρ w0 X M w f := by
  have hx := rep_ev hV x
  have hix := rep_ev hV ix
  obtain ⟨e, sz, by_, k, n, hT, eix, h0, ⟨es, el, ex, hel, rfl⟩ | ⟨id, off, m, r, ex, hM, hsz, hlt, rfl⟩⟩ := h
  · rw [ex] at hx
    rw [eix] at hix
    have hix := rep_int.1 hix
    obtain ⟨ad0, cap, hxv, hcap, hh⟩ := rep_list.1 hx
    have hlt := (List.getElem?_eq_some_iff.1 hel).1
    obtain ⟨ad, rfl, hS, hc⟩ := hh (fun e => by rw [e] at hlt; simp at hlt)
    refine OpRes.quiet hW (v := .pointer (some (ad.add (n.toNat * sz)))) ?_ (rep_ptr.2 ⟨_, rfl, by rw [add_block]; exact hS, (hc _ _ hel).2⟩)
    simp only [execOp, ho, hxv, hix, Sem.run_bind, Sem.run_pure, run_indexAt hT ad es.length cap k n h0 (by omega), Result.andThen_ok]
  · rw [ex] at hx
    rw [eix] at hix
    have hix := rep_int.1 hix
    have h1 := (rep_osl hM).1 hx
    cases hρ : ρ id with
    | none => simp only [OslOk, hρ] at h1; omega
    | some bz =>
      obtain ⟨b, z⟩ := bz
      simp only [OslOk, hρ] at h1
      obtain ⟨ad, cap, hxv, g1, g2, g3, g4⟩ := h1
      obtain ⟨rfl, _⟩ := g4 (by omega)
      refine OpRes.quiet hW (v := .pointer (some ((⟨b, z + off * r.sz, none⟩ : Addr).add (n.toNat * sz)))) ?_ ((rep_own hM).2 ?_)
      · simp only [execOp, ho, hxv, hix, Sem.run_bind, Sem.run_pure, run_indexAt hT _ m cap k n h0 (by omega), Result.andThen_ok]
      · simp only [OwnOk, hρ, add_off, hsz, Nat.add_mul, Nat.add_zero, Nat.add_assoc]

theorem step_index (hW : WRel G ρ w0 X M w) (hV : ∀ t, Rep ρ w (Stab G ρ M w) M (a.tmps.getD t undef) (V t)) {T : TypeId} {x ix : Operand} (ho : o.op = .index T x ix)
    (h : OpStep P o.dst (.index T x ix) V M f) : OpRes P a o G ρ w0 X M w f := by
  have hx := rep_ev hV x
  have hix := rep_ev hV ix
  obtain ⟨hT, s, k, n, b, ex, eix, h0, hb, rfl⟩ := h
  rw [ex] at hx
  rw [eix] at hix
  refine OpRes.quiet hW (v := .int .u8 b.toNat) ?_ (rep_int.2 rfl)
  simp [execOp, ho, rep_str.1 hx, rep_int.1 hix, Instr.index, asIntOf, run_underlying hT, h0, hb]

/-- A slice's bounds, as the model takes them. -/
theorem run_bounds (isS : Bool) (hV : ∀ t, Rep ρ w (Stab G ρ M w) M (a.tmps.getD t undef) (V t)) (len cap : Nat) (lo hi : Option Operand) (l h : Nat) (hl : bound V lo 0 l) (hh : bound V hi len h) (hlh : l ≤ h) (hc : h ≤ cap) :
    (Instr.sliceBounds isS len cap (lo.map a.eval) (hi.map a.eval) none).run P w = .ok (l, h, cap) w := by
  have hb : ∀ (x : Operand) (y n : Nat) (code : BoundsCode), (∃ k, ev V x = .int k (n : Int)) → n ≤ y → (Instr.sliceBound (a.eval x) y code).run P w = .ok n w := by
    intro x y n code ⟨k, ex⟩ hn
    have hx := rep_ev hV x
    rw [ex] at hx
    simp [Instr.sliceBound, rep_int.1 hx, asIntOf, hn]
  cases lo with
  | none =>
    simp only [bound] at hl
    subst hl
    cases hi with
    | none => simp only [bound] at hh; subst hh; simp [Instr.sliceBounds]
    | some y => simp [Instr.sliceBounds, hb y cap h _ hh hc]
  | some x =>
    cases hi with
    | none => simp only [bound] at hh; subst hh; simp [Instr.sliceBounds, hb x _ l _ hl hlh]
    | some y => simp [Instr.sliceBounds, hb y cap h _ hh hc, hb x _ l _ hl hlh]

theorem step_slice (hW : WRel G ρ w0 X M w) (hV : ∀ t, Rep ρ w (Stab G ρ M w) M (a.tmps.getD t undef) (V t)) {T : TypeId} {x : Operand} {lo hi mx : Option Operand} (ho : o.op = .slice T x lo hi mx)
    (h : OpStep P o.dst (.slice T x lo hi mx) V M f) : OpRes P a o G ρ w0 X M w f := by
  have hx := rep_ev hV x
  obtain ⟨rfl, l, h, hl, hlh, ⟨e, sz, by_, es, hT, ex, hh, hle, rfl⟩ | ⟨e, sz, by_, id, off, n, r, hT, ex, hM, hsz, hh, hle, rfl⟩ | ⟨hT, s, ex, hh, hle, rfl⟩⟩ := h
  · rw [ex] at hx
    obtain ⟨ad0, cap, hxv, hcap, hc⟩ := rep_list.1 hx
    obtain ⟨ht, i, hi', hs, _⟩ := hT
    have hb := run_bounds (P := P) true hV es.length cap lo hi l h hl hh hlh (by omega)
    have hlen : ((es.take h).drop l).length = h - l := by simp; omega
    refine OpRes.quiet hW (v := .slice (if cap = l then ad0 else ad0.map (·.add (l * sz))) (h - l) (cap - l)) ?_ (rep_list.2 ⟨_, cap - l, by rw [hlen], by omega, fun hne => ?_⟩)
    · simp only [execOp, ho, hxv, Instr.sliceAt, Instr.slice, Sem.run_bind, run_underlying ht, Result.andThen_ok, hb, sizeOf, typeInfo, run_program, hi', hs, Sem.run_pure, Option.map_none]
    · have hlt : l < h := by
        rcases Nat.lt_or_ge l h with h' | h'
        · exact h'
        · exact absurd (List.eq_nil_of_length_eq_zero (by rw [hlen]; omega)) hne
      obtain ⟨ad, rfl, hS, hcc⟩ := hc (fun e => by rw [e] at hle; simp at hle; omega)
      rw [if_neg (by omega)]
      refine ⟨_, rfl, by rw [add_block]; exact hS, fun i e hi => ?_⟩
      rw [List.getElem?_drop, List.getElem?_take] at hi
      split at hi
      · obtain ⟨m1, m2⟩ := hcc _ _ hi
        rw [add_add, ← Nat.add_mul]
        exact ⟨m1, m2⟩
      · cases hi
  · rw [ex] at hx
    obtain ⟨ht, i, hi', hs, _⟩ := hT
    have h1 := (rep_osl hM).1 hx
    cases hρ : ρ id with
    | none =>
      simp only [OslOk, hρ] at h1
      obtain ⟨hxv, rfl, rfl⟩ := h1
      have hb := run_bounds (P := P) true hV 0 0 lo hi l h hl hh hlh (by omega)
      have : l = 0 := by omega
      subst this
      have : h = 0 := by omega
      subst this
      refine OpRes.quiet hW (v := .slice none 0 0) ?_ ((rep_osl hM).2 (by simp [OslOk, hρ]))
      simp only [execOp, ho, hxv, Instr.sliceAt, Instr.slice, Sem.run_bind, run_underlying ht, Result.andThen_ok, hb, sizeOf, typeInfo, run_program, hi', hs, Sem.run_pure, Option.map_none]
      rfl
    | some bz =>
      obtain ⟨b, z⟩ := bz
      simp only [OslOk, hρ] at h1
      obtain ⟨ad, cap, hxv, g1, g2, g3, g4⟩ := h1
      have hb := run_bounds (P := P) true hV n cap lo hi l h hl hh hlh (by omega)
      refine OpRes.quiet hW (v := .slice (if cap = l then some ad else (some ad).map (·.add (l * sz))) (h - l) (cap - l)) ?_ ((rep_osl hM).2 ?_)
      · simp only [execOp, ho, hxv, Instr.sliceAt, Instr.slice, Sem.run_bind, run_underlying ht, Result.andThen_ok, hb, sizeOf, typeInfo, run_program, hi', hs, Sem.run_pure, Option.map_none]
      · simp only [OslOk, hρ]
        by_cases hcl : cap = l
        · rw [if_pos hcl]
          exact ⟨ad, cap - l, rfl, by omega, by omega, by omega, fun hp => absurd hp (by omega)⟩
        · rw [if_neg hcl]
          obtain ⟨rfl, cur, q1, q2⟩ := g4 (by omega)
          refine ⟨_, cap - l, rfl, by omega, by omega, by omega, fun _ => ⟨by show (⟨b, z + off * r.sz, none⟩ : Addr).add (l * sz) = _; rw [add_off, hsz, Nat.add_mul, Nat.add_assoc], cur, q1, ?_⟩⟩
          rw [q2]
          congr 2
          omega
  · rw [ex] at hx
    have hb := run_bounds (P := P) false hV s.size s.size lo hi l h hl hh hlh (by omega)
    refine OpRes.quiet hW (v := .string (s.extract l h)) ?_ (rep_str.2 rfl)
    simp only [execOp, ho, rep_str.1 hx, Instr.sliceAt, Instr.slice, Sem.run_bind, run_underlying hT, Result.andThen_ok, hb, Sem.run_pure, Option.map_none, Option.isSome_none]
    simp [hb]
end
end Go.Vs
