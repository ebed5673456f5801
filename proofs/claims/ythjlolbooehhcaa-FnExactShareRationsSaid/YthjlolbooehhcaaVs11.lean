/- VALUE SEMANTICS, 11: make, builtins; every step is sound. -/
import Derived.Test.YthjlolbooehhcaaVs10
set_option linter.unusedVariables false
set_option linter.unusedSimpArgs false
namespace Go.Vs
section
variable {P : Program} {a : Act} {o : Oper} {G : Nat → Prop} {ρ : Id → Option (Nat × Nat)} {w0 : World} {X : List (Option (Nat × Nat))} {M : Mem} {w : World} {V : Nat → PV} {f : Eff}

theorem step_makeSlice (hW : WRel G ρ w0 X M w) (hV : ∀ t, Rep ρ w (Stab G ρ M w) M (a.tmps.getD t undef) (V t)) {T : TypeId} {l c : Operand} (ho : o.op = .makeSlice T l c)
    (h : OpStep P o.dst (.makeSlice T l c) V M f) : OpRes P a o G ρ w0 X M w f := by
  obtain ⟨t, e, sz, by_, zs, k, k', n, _, hio, hid, hT, hZ, hpure, hsz, el, ec, hby, hmax, rfl⟩ := h
  obtain ⟨ht, i, hi, hs, hb, z, hz, hzs⟩ := hT
  obtain ⟨i', z', hi', hz', rfl⟩ := hZ
  rw [hi] at hi'
  injection hi' with hi'
  subst hi'
  rw [hz] at hz'
  injection hz' with hz'
  subst hz'
  have hl := rep_ev hV l
  have hc := rep_ev hV c
  rw [el] at hl
  rw [ec] at hc
  have hmx : (n : Int) ≤ 9223372036854775807 := by unfold maxLen at hmax; omega
  have hby' : (i.bytes : Int) * (n : Int) ≤ 281474976710656 := by
    have : ((by_ * n : Nat) : Int) ≤ 281474976710656 := by omega
    rw [hb]; rwa [Int.natCast_mul] at this
  have hrun := run_make (P := P) w T e i z ht hi hz k k' n n (by omega) (Int.le_refl _) hby' hmx
  simp only [Int.toNat_natCast, hs] at hrun
  obtain ⟨T1, W1⟩ := hW.newRow (id := (t, 0)) hid hio ⟨e, sz, List.replicate n (z.cells.toList.map ofConst), false⟩ (w.alloc (.cells (madeCells z.cells (n * sz)) e)) (madeCells z.cells (n * sz)) n rfl rfl rfl rfl
    (size_madeCells _ _) hmax (by simp) hsz (fun i' el' hi' => by
      rw [List.getElem?_replicate] at hi'
      split at hi'
      · rename_i hin
        injection hi' with hi'
        subst hi'
        refine ⟨by simp [hzs], fun j u hu => ?_⟩
        have hj : j < sz := by have := (List.getElem?_eq_some_iff.1 hu).1; simpa [hzs] using this
        rw [List.getElem?_map, Option.map_eq_some_iff] at hu
        obtain ⟨v, hv, rfl⟩ := hu
        have hvm := List.all_eq_true.1 hpure _ (List.mem_map_of_mem (List.mem_of_getElem? hv))
        have hlt : i' * sz + j < n * sz := by
          have : (i' + 1) * sz ≤ n * sz := Nat.mul_le_mul_right _ hin
          rw [Nat.add_mul] at this; omega
        refine ⟨v, ?_, ofConst_one hvm, rep_pure (ρ := ρ) (M := M) rep_ofConst hvm⟩
        rw [Array.getElem?_toList] at hv
        have hmod : (i' * sz + j) % z.cells.size = j := by rw [hzs, Nat.mul_comm, Nat.mul_add_mod, Nat.mod_eq_of_lt hj]
        have hrg : (Array.range (n * sz))[i' * sz + j]? = some (i' * sz + j) := by simp [hlt]
        have hbang : z.cells[j]! = v := by rw [getElem!_def, hv]
        simp only [madeCells, Nat.zero_add, Array.getElem?_map, hrg, Option.map_some, hmod, hbang]
      · cases hi')
  refine ⟨_, _, .slice (some ⟨w.heap.size, 0, none⟩) n n, .inl ?_, T1, W1, (rep_osl (r := ⟨e, sz, List.replicate n (z.cells.toList.map ofConst), false⟩) (by simp [Mem.upds, Mem.set])).2 ?_⟩
  · simp only [execOp, ho, rep_int.1 hl, rep_int.1 hc, Sem.run_bind, hrun, Result.andThen_ok, Sem.run_pure]
  · simp only [setAt, if_true]
    exact ⟨_, n, rfl, by simp, Nat.le_refl _, hmax, fun _ => ⟨by simp, _, heap_alloc_new w _, by simp [size_madeCells]⟩⟩

theorem step_makeFunc (hW : WRel G ρ w0 X M w) (hV : ∀ t, Rep ρ w (Stab G ρ M w) M (a.tmps.getD t undef) (V t)) {fn : Fn} {fi ca : Array Operand} (ho : o.op = .makeFunc fn fi ca)
    (h : OpStep P o.dst (.makeFunc fn fi ca) V M f) : OpRes P a o G ρ w0 X M w f := by
  obtain ⟨g, rfl, rfl⟩ := h
  refine OpRes.quiet hW (v := .func (.func g) (fi.map a.eval) (ca.map a.eval)) ?_ (rep_fn.2 ⟨_, _, rfl, comps_map hV fi, comps_map hV ca⟩)
  simp [execOp, ho, Instr.makeFunc]

theorem src_step (hW : WRel G ρ w0 X M w) {v : Value} {x : PV} {sz : Nat} {news : List (List PV)} {rd : List Id} (hsz : 0 < sz) (h : SrcStep M x sz news rd) (hx : Rep ρ w (Stab G ρ M w) M v x) : Src ρ w (Stab G ρ M w) v sz news := by
  rcases h with ⟨rfl, _⟩ | ⟨id, o, n, r, rfl, hM, hb, rfl, rfl, _⟩ | ⟨rfl, rfl, _⟩
  · exact src_list hsz hx
  · exact (src_osl hW hM hb hsz hx).1
  · exact src_nil hx

theorem step_call (hW : WRel G ρ w0 X M w) (hV : ∀ t, Rep ρ w (Stab G ρ M w) M (a.tmps.getD t undef) (V t)) {c : Call} (ho : o.op = .call c)
    (h : CallStep P o.dst c V M f) : OpRes P a o G ρ w0 X M w f := by
  have hres : ∀ (b : Builtin) (v : Value) (w' : World), c.callee = .builtin b → (builtin b c.argTypes o.type (c.args.map fun | .const _ => true | _ => false) (c.args.map a.eval)).run P w = .ok (.value v) w' →
      (execOp a.eval o).run P w = .ok (.value v) w' := by
    intro b v w' hb hrun
    simp only [execOp, ho, resolve, hb, Sem.run_bind, Sem.run_pure, Result.andThen_ok, invoke]
    exact hrun
  unfold CallStep at h
  split at h
  · rename_i hb
    obtain ⟨x, T, n, rd, ea, eT, rfl, ⟨e, hT, hh⟩ | ⟨hT, s, ex, hn⟩⟩ := h
    · have hx := rep_ev hV x
      have : ∃ b cc, a.eval x = .slice b n cc := by
        rcases hh with ⟨sz, es, ex, rfl⟩ | ⟨id, of, r, ex, hM, _⟩ | ⟨ex, rfl⟩
        · rw [ex] at hx
          obtain ⟨b, cc, h1, _⟩ := rep_list.1 hx
          exact ⟨b, cc, h1⟩
        · rw [ex] at hx
          have h1 := (rep_osl hM).1 hx
          cases hρ : ρ id with
          | none => simp only [OslOk, hρ] at h1; exact ⟨none, 0, by rw [h1.1, h1.2.2]⟩
          | some bz =>
            obtain ⟨b, z⟩ := bz
            simp only [OslOk, hρ] at h1
            obtain ⟨ad, cap, h2, _⟩ := h1
            exact ⟨some ad, cap, h2⟩
        · rw [ex] at hx
          exact ⟨none, 0, rep_nil.1 hx⟩
      obtain ⟨b, cc, hv⟩ := this
      refine OpRes.quiet hW (v := .int .i64 n) (hres _ _ _ hb ?_) (rep_int.2 rfl)
      simp [builtin, Builtin.len_, ea, eT, hv, run_underlying hT, goInt]
    · have hx := rep_ev hV x
      rw [ex] at hx
      refine OpRes.quiet hW (v := .int .i64 n) (hres _ _ _ hb ?_) (rep_int.2 rfl)
      simp [builtin, Builtin.len_, ea, eT, rep_str.1 hx, run_underlying hT, goInt, hn]
  · rename_i hb
    obtain ⟨s, x, T, t, e, sz, by_, news, rd, ea, eT, _, hio, hid, hT, hsz, hsrc, hh⟩ := h
    have hs := rep_ev hV s
    have hx := src_step hW hsz hsrc (rep_ev hV x)
    rcases hh with ⟨es, h63, hby, rfl⟩ | ⟨id, of, n, r, es, hM, hbx, rfl, rfl, hidio, hon, h63, hby, rfl⟩
    · rw [es] at hs
      obtain ⟨ρ', w', v', e1, e2, e3, e4⟩ := append_nil hT hsz hW hx (id' := (t, 0)) hid hio o.type h63 hby
      refine ⟨ρ', w', v', .inl (hres _ _ _ hb ?_), e2, e3, e4⟩
      simp only [builtin, ea, eT, List.map_toArray, List.map_cons, List.map_nil, rep_nil.1 hs, Sem.run_bind, e1, Result.andThen_ok, Sem.run_pure]
    · rw [es] at hs
      obtain ⟨ρ', w', v', e1, e2, e3, e4⟩ := append_own hW hM hbx hT hsz hidio hs hon hx (id' := (t, 0)) hid hio o.type h63 hby
      refine ⟨ρ', w', v', .inl (hres _ _ _ hb ?_), e2, e3, e4⟩
      simp only [builtin, ea, eT, List.map_toArray, List.map_cons, List.map_nil, Sem.run_bind, e1, Result.andThen_ok, Sem.run_pure]
  · rename_i hb
    obtain ⟨x, y, k, m, n, ea, ex, ey, rfl⟩ := h
    have hx := rep_ev hV x
    have hy := rep_ev hV y
    rw [ex] at hx
    rw [ey] at hy
    refine OpRes.quiet hW (v := .int k _) (hres _ _ _ hb ?_) (rep_int.2 rfl)
    simp only [builtin, ea, List.map_toArray, List.map_cons, List.map_nil, rep_int.1 hx, rep_int.1 hy, Sem.run_bind, run_max_int2, Result.andThen_ok, Sem.run_pure]
  · rename_i hb
    obtain ⟨x, y, k, m, n, ea, ex, ey, rfl⟩ := h
    have hx := rep_ev hV x
    have hy := rep_ev hV y
    rw [ex] at hx
    rw [ey] at hy
    refine OpRes.quiet hW (v := .int k _) (hres _ _ _ hb ?_) (rep_int.2 rfl)
    simp only [builtin, ea, List.map_toArray, List.map_cons, List.map_nil, rep_int.1 hx, rep_int.1 hy, Sem.run_bind, run_min_int2, Result.andThen_ok, Sem.run_pure]
  · exact h.elim

theorem op_sound (hW : WRel G ρ w0 X M w) (hV : ∀ t, Rep ρ w (Stab G ρ M w) M (a.tmps.getD t undef) (V t)) (h : OpStep P o.dst o.op V M f) : OpRes P a o G ρ w0 X M w f := by
  cases ho : o.op <;> rw [ho] at h
  case move x => subst h; exact OpRes.quiet hW (by simp [execOp, ho]) (rep_ev hV x)
  case assign x => subst h; exact OpRes.quiet hW (by simp [execOp, ho]) (rep_ev hV x)
  case pick c x y =>
    obtain ⟨t, ec, rfl⟩ := h
    have hc := rep_ev hV c
    rw [ec] at hc
    refine OpRes.quiet hW (v := if t then a.eval x else a.eval y) (by simp [execOp, ho, rep_bool.1 hc, asBool]) ?_
    cases t
    · exact rep_ev hV y
    · exact rep_ev hV x
  case nilCheck x =>
    have hx := rep_ev hV x
    rcases h with ⟨us, e, rfl⟩ | ⟨id, i, off, r, e, hM, rfl⟩ | ⟨g, p, q, e, rfl⟩
    · rw [e] at hx
      obtain ⟨ad, ex, _⟩ := rep_ptr.1 hx
      exact OpRes.quiet hW (v := a.eval x) (by simp [execOp, ho, ex]) hx
    · rw [e] at hx
      have h1 := (rep_own hM).1 hx
      cases hρ : ρ id with
      | none => simp [OwnOk, hρ] at h1
      | some bz =>
        obtain ⟨b, z⟩ := bz
        simp only [OwnOk, hρ] at h1
        exact OpRes.quiet hW (v := a.eval x) (by simp [execOp, ho, h1]) hx
    · rw [e] at hx
      obtain ⟨p', q', ex, _⟩ := rep_fn.1 hx
      exact OpRes.quiet hW (v := a.eval x) (by simp [execOp, ho, ex]) hx
  case extract x i =>
    obtain ⟨vs, u, e, hu, rfl⟩ := h
    have hx := rep_ev hV x
    rw [e] at hx
    obtain ⟨cs, ex, hc⟩ := rep_tuple.1 hx
    obtain ⟨c, h1, h2⟩ := hc.2 i u hu
    exact OpRes.quiet hW (v := c) (by simp [execOp, ho, ex, Instr.extract, h1]) h2
  case binOp op T x y yT => obtain ⟨r, hr, rfl⟩ := h; exact step_bin hW hV ho hr
  case unOp u T x =>
    have hx := rep_ev hV x
    rcases h with ⟨b, rfl, e, rfl⟩ | ⟨k, n, rfl, e, rfl⟩
    · rw [e] at hx
      exact OpRes.quiet hW (v := .bool (!b)) (by simp [execOp, ho, rep_bool.1 hx, Op.unary]) (rep_bool.2 rfl)
    · rw [e] at hx
      exact OpRes.quiet hW (v := .int k (k.wrap (0 - n))) (by simp [execOp, ho, rep_int.1 hx, Op.unary, Op.intArith]) (rep_int.2 rfl)
  case convert s d x =>
    obtain ⟨k, k', n, ds, hs, hd, e, rfl⟩ := h
    have hx := rep_ev hV x
    rw [e] at hx
    exact OpRes.quiet hW (v := .int k (k.wrap n)) (by simp [execOp, ho, rep_int.1 hx, convert, run_underlying hs, run_underlying hd, Conv.intToInt]) (rep_int.2 rfl)
  case box T x => exact step_box hW hV ho h
  case alloc T => exact step_alloc hW ho h
  case build T ps => exact step_build hW hV ho h
  case buildSlice T n ps => exact step_buildSlice hW hV ho h
  case load T x => exact step_load hW hV ho h
  case store T x y => exact step_store hW hV ho h
  case fieldAddr T x i => exact step_fieldAddr hW hV ho h
  case indexAddr T x i => exact step_indexAddr hW hV ho h
  case index T x i => exact step_index hW hV ho h
  case slice T x lo hi mx => exact step_slice hW hV ho h
  case makeFunc fn fi ca => exact step_makeFunc hW hV ho h
  case makeSlice T l c => exact step_makeSlice hW hV ho h
  case call c => exact step_call hW hV ho h
  all_goals exact h.elim
end
end Go.Vs
