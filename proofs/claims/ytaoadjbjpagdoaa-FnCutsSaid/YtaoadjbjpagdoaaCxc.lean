/- Parts of a proof: what its last text mentions. -/
import Derived.Test.YtaoadjbjpagdoaaCxb
set_option linter.unusedVariables false
set_option linter.unusedSimpArgs false
set_option linter.unusedSectionVars false
namespace Go.Vs
section
variable [fl : Inhabited FlrT]
section
variable {P : Program} {ops : Array Oper} {draw : Bool} {rest : List Oper} {env : List (Nat × PV)} {mem : List (Id × Option Row)} {tr : List (List Id × List Id)} {K : St → List (List Id × List Id) → Prop}
  {d : Nat} {ty : TypeId} {pos : String} {af : Array Edge} {x y c : Operand} {T yT : TypeId}
theorem x_nil {st : St} (h : K st tr) : exec P ops draw [] st tr K := h
theorem x_op {o : Oper} {st : St} (f : Eff) (hg : o.guard = none) (h : OpStep P o.dst o.op st.V st.M f) (hk : exec P ops draw rest (st.app o.dst f) ((f.rd, f.ups.map (·.1)) :: tr) K) : exec P ops draw (o :: rest) st tr K :=
  .inr ⟨by simp [wantedPV, hg], .inl ⟨f, .inl h, hk⟩⟩
theorem x_sem {o : Oper} {st : St} (f : Eff) (hg : o.guard = none) (h : SemStep P o st.V st.M f) (hk : exec P ops draw rest (st.app o.dst f) ((f.rd, f.ups.map (·.1)) :: tr) K) : exec P ops draw (o :: rest) st tr K :=
  .inr ⟨by simp [wantedPV, hg], .inl ⟨f, .inr h, hk⟩⟩
theorem x_big {o : Oper} {st : St} (Φ : St → Prop) (hg : o.guard = none) (h : BigStep P o st Φ) (hd : draw = false) (hk : ∀ st', Φ st' → exec P ops draw rest st' (([], []) :: tr) K) : exec P ops draw (o :: rest) st tr K :=
  .inl (.inr ⟨by simp [wantedPV, hg], hd, Φ, h, hk⟩)
theorem x_guard {st : St} {dst : Option Tmp} {op : Op} {j : Nat} {b : Bool} {s : Nat} (hs : (ops[j]?).bind (·.dst) = some s) {b' : Bool} (hv : getE st.env s = .bool b') (hb : b' = b)
    (hk : exec P ops draw (⟨dst, op, ty, pos, af, none⟩ :: rest) st tr K) : exec P ops draw (⟨dst, op, ty, pos, af, some (j, b)⟩ :: rest) st tr K := by
  have hw : wantedPV ops st.V (⟨dst, op, ty, pos, af, some (j, b)⟩ : Oper) = some true := by simp [wantedPV, hs, hv, hb]
  rcases hk with (⟨h, _⟩ | ⟨_, hd, Φ, hb, h⟩) | ⟨_, h⟩
  · simp [wantedPV] at h
  · exact .inl (.inr ⟨hw, hd, Φ, hb, h⟩)
  · exact .inr ⟨hw, by
      rcases h with h | ⟨t, al, fz, ids, rd, ios, Post, hc, h⟩
      · exact .inl h
      · exact .inr ⟨t, al, fz, ids, rd, ios, Post, ⟨hc.ok⟩, h⟩⟩
theorem x_skip {st : St} {dst : Option Tmp} {op : Op} {j : Nat} {b b' : Bool} {s : Nat} (hs : (ops[j]?).bind (·.dst) = some s) (hv : getE st.env s = .bool b') (hb : b' = !b)
    (hk : exec P ops draw rest ⟨putE st.env dst (.tuple []), st.mem⟩ (([], []) :: tr) K) : exec P ops draw (⟨dst, op, ty, pos, af, some (j, b)⟩ :: rest) st tr K :=
  .inl (.inl ⟨by cases b <;> simp [wantedPV, hs, hv, hb], hk⟩)
theorem x_skip_u {st : St} {dst : Option Tmp} {op : Op} {j : Nat} {b : Bool} {s : Nat} (hs : (ops[j]?).bind (·.dst) = some s) (hv : getE st.env s = .tuple [])
    (hk : exec P ops draw rest ⟨putE st.env dst (.tuple []), st.mem⟩ (([], []) :: tr) K) : exec P ops draw (⟨dst, op, ty, pos, af, some (j, b)⟩ :: rest) st tr K :=
  .inl (.inl ⟨by simp [wantedPV, hs, hv], hk⟩)
theorem x_move (v : PV) (hv : ev (getE env) x = v) (hk : exec P ops draw rest ⟨(d, v) :: env, mem⟩ (([], []) :: tr) K) : exec P ops draw (⟨some d, .move x, ty, pos, af, none⟩ :: rest) ⟨env, mem⟩ tr K :=
  x_op ⟨v, [], []⟩ rfl (by rw [← hv]; rfl) hk
theorem x_assign (v : PV) (hv : ev (getE env) x = v) (hk : exec P ops draw rest ⟨(d, v) :: env, mem⟩ (([], []) :: tr) K) : exec P ops draw (⟨some d, .assign x, ty, pos, af, none⟩ :: rest) ⟨env, mem⟩ tr K :=
  x_op ⟨v, [], []⟩ rfl (by rw [← hv]; rfl) hk
theorem x_pick_t {a b : Operand} {t : Bool} (v : PV) (hc : ev (getE env) c = .bool t) (ht : t = true) (hv : ev (getE env) a = v) (hk : exec P ops draw rest ⟨(d, v) :: env, mem⟩ (([], []) :: tr) K) :
    exec P ops draw (⟨some d, .pick c a b, ty, pos, af, none⟩ :: rest) ⟨env, mem⟩ tr K :=
  x_op ⟨v, [], []⟩ rfl ⟨true, by rw [← ht]; exact hc, by rw [← hv]; rfl⟩ hk
theorem x_pick_f {a b : Operand} {t : Bool} (v : PV) (hc : ev (getE env) c = .bool t) (ht : t = false) (hv : ev (getE env) b = v) (hk : exec P ops draw rest ⟨(d, v) :: env, mem⟩ (([], []) :: tr) K) :
    exec P ops draw (⟨some d, .pick c a b, ty, pos, af, none⟩ :: rest) ⟨env, mem⟩ tr K :=
  x_op ⟨v, [], []⟩ rfl ⟨false, by rw [← ht]; exact hc, by rw [← hv]; rfl⟩ hk
theorem x_nil_p {us : List PV} (h : ev (getE env) x = .ptr us) (hk : exec P ops draw rest ⟨(d, .ptr us) :: env, mem⟩ (([], []) :: tr) K) : exec P ops draw (⟨some d, .nilCheck x, ty, pos, af, none⟩ :: rest) ⟨env, mem⟩ tr K :=
  x_op ⟨.ptr us, [], []⟩ rfl (.inl ⟨us, h, rfl⟩) hk
theorem x_nil_o {id : Id} {i off : Nat} {r : Row} (h : ev (getE env) x = .own id i off) (hm : getM mem id = some (some r)) (hk : exec P ops draw rest ⟨(d, .own id i off) :: env, mem⟩ (([id], []) :: tr) K) :
    exec P ops draw (⟨some d, .nilCheck x, ty, pos, af, none⟩ :: rest) ⟨env, mem⟩ tr K :=
  x_op ⟨.own id i off, [], [id]⟩ rfl (.inr (.inl ⟨id, i, off, r, h, hm, rfl⟩)) hk
theorem x_nil_f {g : FuncId} {a b : List PV} (h : ev (getE env) x = .fn g a b) (hk : exec P ops draw rest ⟨(d, .fn g a b) :: env, mem⟩ (([], []) :: tr) K) : exec P ops draw (⟨some d, .nilCheck x, ty, pos, af, none⟩ :: rest) ⟨env, mem⟩ tr K :=
  x_op ⟨.fn g a b, [], []⟩ rfl (.inr (.inr ⟨g, a, b, h, rfl⟩)) hk
theorem x_extract {i : Nat} {vs : List PV} (u : PV) (h : ev (getE env) x = .tuple vs) (hu : vs[i]? = some u) (hk : exec P ops draw rest ⟨(d, u) :: env, mem⟩ (([], []) :: tr) K) :
    exec P ops draw (⟨some d, .extract x i, ty, pos, af, none⟩ :: rest) ⟨env, mem⟩ tr K :=
  x_op ⟨u, [], []⟩ rfl ⟨vs, u, h, hu, rfl⟩ hk
theorem x_bin {op : BinOp} {k : IntKind} {m n : Int} (r : PV) (hx : ev (getE env) x = .int k m) (hy : ev (getE env) y = .int k n) (hr : intBin op k m n = some r)
    (hk : exec P ops draw rest ⟨(d, r) :: env, mem⟩ (([], []) :: tr) K) : exec P ops draw (⟨some d, .binOp op T x y yT, ty, pos, af, none⟩ :: rest) ⟨env, mem⟩ tr K :=
  x_op ⟨r, [], []⟩ rfl ⟨r, by simp only [BinOk, hx, hy]; exact ⟨.inl trivial, hr⟩, rfl⟩ hk
theorem x_shr {k k' : IntKind} {m n : Int} (r : PV) (hx : ev (getE env) x = .int k m) (hy : ev (getE env) y = .int k' n) (hr : intBin .shr k m n = some r)
    (hk : exec P ops draw rest ⟨(d, r) :: env, mem⟩ (([], []) :: tr) K) : exec P ops draw (⟨some d, .binOp .shr T x y yT, ty, pos, af, none⟩ :: rest) ⟨env, mem⟩ tr K :=
  x_op ⟨r, [], []⟩ rfl ⟨r, by simp only [BinOk, hx, hy]; exact ⟨.inr trivial, hr⟩, rfl⟩ hk
theorem wrap_in {n : Int} (h : -9223372036854775808 ≤ n ∧ n ≤ 9223372036854775807) : IntKind.i64.wrap n = n := by rw [IntKind.wrap_i64]; omega
theorem x_add {m n : Int} (hx : ev (getE env) x = .int .i64 m) (hy : ev (getE env) y = .int .i64 n) (hb : -9223372036854775808 ≤ m + n ∧ m + n ≤ 9223372036854775807)
    (hk : exec P ops draw rest ⟨(d, .int .i64 (m + n)) :: env, mem⟩ (([], []) :: tr) K) : exec P ops draw (⟨some d, .binOp .add T x y yT, ty, pos, af, none⟩ :: rest) ⟨env, mem⟩ tr K :=
  x_bin _ hx hy (by simp only [intBin, wrap_in hb]) hk
theorem x_sub {m n : Int} (hx : ev (getE env) x = .int .i64 m) (hy : ev (getE env) y = .int .i64 n) (hb : -9223372036854775808 ≤ m - n ∧ m - n ≤ 9223372036854775807)
    (hk : exec P ops draw rest ⟨(d, .int .i64 (m - n)) :: env, mem⟩ (([], []) :: tr) K) : exec P ops draw (⟨some d, .binOp .sub T x y yT, ty, pos, af, none⟩ :: rest) ⟨env, mem⟩ tr K :=
  x_bin _ hx hy (by simp only [intBin, wrap_in hb]) hk
theorem x_mul {m n : Int} (hx : ev (getE env) x = .int .i64 m) (hy : ev (getE env) y = .int .i64 n) (hb : -9223372036854775808 ≤ m * n ∧ m * n ≤ 9223372036854775807)
    (hk : exec P ops draw rest ⟨(d, .int .i64 (m * n)) :: env, mem⟩ (([], []) :: tr) K) : exec P ops draw (⟨some d, .binOp .mul T x y yT, ty, pos, af, none⟩ :: rest) ⟨env, mem⟩ tr K :=
  x_bin _ hx hy (by simp only [intBin, wrap_in hb]) hk
theorem x_quo {m n : Int} (hx : ev (getE env) x = .int .i64 m) (hy : ev (getE env) y = .int .i64 n) (hb : 0 ≤ m ∧ m ≤ 9223372036854775807 ∧ 1 ≤ n)
    (hk : exec P ops draw rest ⟨(d, .int .i64 (m / n)) :: env, mem⟩ (([], []) :: tr) K) : exec P ops draw (⟨some d, .binOp .quo T x y yT, ty, pos, af, none⟩ :: rest) ⟨env, mem⟩ tr K :=
  x_bin _ hx hy (by
    have h0 : n ≠ 0 := by omega
    have h1 : m.tdiv n = m / n := Int.tdiv_eq_ediv_of_nonneg hb.1
    have h2 : m / n ≤ m := Int.ediv_le_self _ hb.1
    have h3 : 0 ≤ m / n := Int.ediv_nonneg hb.1 (by omega)
    simp only [intBin, if_neg h0, h1]
    rw [wrap_in (by omega)]) hk
theorem x_rem {m n : Int} (hx : ev (getE env) x = .int .i64 m) (hy : ev (getE env) y = .int .i64 n) (hb : 0 ≤ m ∧ 1 ≤ n)
    (hk : exec P ops draw rest ⟨(d, .int .i64 (m % n)) :: env, mem⟩ (([], []) :: tr) K) : exec P ops draw (⟨some d, .binOp .rem T x y yT, ty, pos, af, none⟩ :: rest) ⟨env, mem⟩ tr K :=
  x_bin _ hx hy (by
    have h0 : n ≠ 0 := by omega
    simp only [intBin, if_neg h0, Int.tmod_eq_emod_of_nonneg hb.1]) hk
theorem x_boolEq {m n : Bool} (hT : P.underlying T = some .bool) (hx : ev (getE env) x = .bool m) (hy : ev (getE env) y = .bool n)
    (hk : exec P ops draw rest ⟨(d, .bool (m == n)) :: env, mem⟩ (([], []) :: tr) K) : exec P ops draw (⟨some d, .binOp .eql T x y yT, ty, pos, af, none⟩ :: rest) ⟨env, mem⟩ tr K :=
  x_op ⟨.bool (m == n), [], []⟩ rfl ⟨_, by simp only [BinOk, hx, hy]; exact ⟨hT, .inl ⟨trivial, trivial⟩⟩, rfl⟩ hk
theorem x_boolNe {m n : Bool} (hT : P.underlying T = some .bool) (hx : ev (getE env) x = .bool m) (hy : ev (getE env) y = .bool n)
    (hk : exec P ops draw rest ⟨(d, .bool (!(m == n))) :: env, mem⟩ (([], []) :: tr) K) : exec P ops draw (⟨some d, .binOp .neq T x y yT, ty, pos, af, none⟩ :: rest) ⟨env, mem⟩ tr K :=
  x_op ⟨.bool (!(m == n)), [], []⟩ rfl ⟨_, by simp only [BinOk, hx, hy]; exact ⟨hT, .inr ⟨trivial, trivial⟩⟩, rfl⟩ hk
theorem x_strBin {op : BinOp} {m n : ByteArray} (r : PV) (hx : ev (getE env) x = .str m) (hy : ev (getE env) y = .str n) (hr : strBin op m n = some r)
    (hk : exec P ops draw rest ⟨(d, r) :: env, mem⟩ (([], []) :: tr) K) : exec P ops draw (⟨some d, .binOp op T x y yT, ty, pos, af, none⟩ :: rest) ⟨env, mem⟩ tr K :=
  x_op ⟨r, [], []⟩ rfl ⟨r, by simp only [BinOk, hx, hy]; exact hr, rfl⟩ hk
theorem x_not {b : Bool} (h : ev (getE env) x = .bool b) (hk : exec P ops draw rest ⟨(d, .bool (!b)) :: env, mem⟩ (([], []) :: tr) K) : exec P ops draw (⟨some d, .unOp .not T x, ty, pos, af, none⟩ :: rest) ⟨env, mem⟩ tr K :=
  x_op ⟨.bool (!b), [], []⟩ rfl (.inl ⟨b, rfl, h, rfl⟩) hk
theorem x_neg {n : Int} (h : ev (getE env) x = .int .i64 n) (hb : -9223372036854775808 < n ∧ n ≤ 9223372036854775807) (hk : exec P ops draw rest ⟨(d, .int .i64 (-n)) :: env, mem⟩ (([], []) :: tr) K) :
    exec P ops draw (⟨some d, .unOp .neg T x, ty, pos, af, none⟩ :: rest) ⟨env, mem⟩ tr K :=
  x_op ⟨.int .i64 (-n), [], []⟩ rfl (.inr ⟨.i64, n, rfl, h, by rw [wrap_in (by omega)]; simp⟩) hk
theorem x_convert {k k' : IntKind} {n : Int} {S : TypeId} {ds : TypeDesc} (hs : P.underlying S = some ds) (hd : P.underlying T = some (.int k)) (h : ev (getE env) x = .int k' n)
    (hk : exec P ops draw rest ⟨(d, .int k (k.wrap n)) :: env, mem⟩ (([], []) :: tr) K) : exec P ops draw (⟨some d, .convert S T x, ty, pos, af, none⟩ :: rest) ⟨env, mem⟩ tr K :=
  x_op ⟨.int k (k.wrap n), [], []⟩ rfl (.inl ⟨k, k', n, ds, hs, hd, h, rfl⟩) hk
theorem x_convert_i {k' : IntKind} {n : Int} {S : TypeId} {ds : TypeDesc} (hs : P.underlying S = some ds) (hd : P.underlying T = some (.int .i64)) (h : ev (getE env) x = .int k' n) (hb : -9223372036854775808 ≤ n ∧ n ≤ 9223372036854775807)
    (hk : exec P ops draw rest ⟨(d, .int .i64 n) :: env, mem⟩ (([], []) :: tr) K) : exec P ops draw (⟨some d, .convert S T x, ty, pos, af, none⟩ :: rest) ⟨env, mem⟩ tr K :=
  x_op ⟨.int .i64 n, [], []⟩ rfl (.inl ⟨.i64, k', n, ds, hs, hd, h, by rw [wrap_in hb]⟩) hk
def liveB (mem : List (Id × Option Row)) : PV → Bool
  | .own id _ _ => match getM mem id with | some (some _) => true | _ => false
  | .osl id _ _ => match getM mem id with | some (some _) => true | _ => false
  | _ => true
theorem liveB_ok {u : PV} (h : liveB mem u = true) : live (getM mem) u := by
  cases u <;> try trivial
  case own id i off =>
    simp only [liveB] at h
    cases hm : getM mem id with
    | none => rw [hm] at h; cases h
    | some o => cases o with
      | none => rw [hm] at h; cases h
      | some r => exact ⟨r, hm⟩
  case osl id i off =>
    simp only [liveB] at h
    cases hm : getM mem id with
    | none => rw [hm] at h; cases h
    | some o => cases o with
      | none => rw [hm] at h; cases h
      | some r => exact ⟨r, hm⟩
def boxOk (mem : List (Id × Option Row)) (d : Nat) (cs : List PV) : Bool :=
  (match getM mem (d, 0) with | none => true | _ => false) && !cs.isEmpty && Nat.ble cs.length 1000 && cs.all PV.one && cs.all (liveB mem) && !Nat.beq d io
theorem boxOk_ok {cs : List PV} (h : boxOk mem d cs = true) : d ≠ io ∧ getM mem (d, 0) = none ∧ cs ≠ [] ∧ cs.length ≤ maxLen ∧ cs.all PV.one = true ∧ ∀ u ∈ cs, live (getM mem) u := by
  simp only [boxOk, Bool.and_eq_true] at h
  obtain ⟨⟨⟨⟨⟨h1, h2⟩, h3⟩, h4⟩, h5⟩, h6⟩ := h
  refine ⟨fun e => ?_, ?_, (fun e => by rw [e] at h2; cases h2), ?_, h4, fun u hu => liveB_ok (List.all_eq_true.1 h5 u hu)⟩
  · rw [e] at h6; simp at h6
  · cases hm : getM mem (d, 0) with
    | none => rfl
    | some o => rw [hm] at h1; cases h1
  · have := Nat.le_of_ble_eq_true h3; unfold maxLen; omega
theorem x_box (cs : List PV) (hc : (ev (getE env) x).cells = cs) (hok : boxOk mem d cs = true)
    (hk : exec P ops draw rest ⟨(d, .own (d, 0) 0 0) :: env, ((d, 0), some ⟨T, cs.length, [cs], true⟩) :: mem⟩ ((rids cs, [(d, 0)]) :: tr) K) : exec P ops draw (⟨some d, .box T x, ty, pos, af, none⟩ :: rest) ⟨env, mem⟩ tr K := by
  obtain ⟨h1, h2, h3, h4, h5, h6⟩ := boxOk_ok hok
  subst hc
  exact x_op ⟨.own (d, 0) 0 0, [((d, 0), some ⟨T, _, [(ev (getE env) x).cells], true⟩)], rids (ev (getE env) x).cells⟩ rfl ⟨d, rfl, h1, h2, h3, h4, h5, h6, rfl⟩ hk
def allocOk (mem : List (Id × Option Row)) (d : Nat) (cs : List PV) : Bool :=
  (match getM mem (d, 0) with | none => true | _ => false) && !cs.isEmpty && Nat.ble cs.length 1000 && cs.all PV.pure1 && !Nat.beq d io
theorem x_alloc (cs : List PV) (hz : TZero P T cs) (hok : allocOk mem d cs = true)
    (hk : exec P ops draw rest ⟨(d, .own (d, 0) 0 0) :: env, ((d, 0), some ⟨T, cs.length, [cs], true⟩) :: mem⟩ (([], [(d, 0)]) :: tr) K) : exec P ops draw (⟨some d, .alloc T, ty, pos, af, none⟩ :: rest) ⟨env, mem⟩ tr K := by
  simp only [allocOk, Bool.and_eq_true] at hok
  obtain ⟨⟨⟨⟨h1, h2⟩, h3⟩, h4⟩, h6⟩ := hok
  refine x_op ⟨.own (d, 0) 0 0, [((d, 0), some ⟨T, cs.length, [cs], true⟩)], []⟩ rfl ⟨d, cs, rfl, fun e => ?_, ?_, hz, (fun e => by rw [e] at h2; cases h2), ?_, h4, rfl⟩ hk
  · rw [e] at h6; simp at h6
  · show getM mem (d, 0) = none
    cases hm : getM mem (d, 0) with
    | none => rfl
    | some o => rw [hm] at h1; cases h1
  · have := Nat.le_of_ble_eq_true h3; unfold maxLen; omega
theorem x_build {parts : List (Nat × Operand)} {places : List (Nat × Nat)} {zs : List PV} (cs : List PV) (hT : TStruct P T places zs)
    (hone : (parts.all fun p => (ev (getE env) p.2).cells.all PV.one && (ev (getE env) p.2).cells.all (liveB mem)) = true)
    (hb : buildPV places zs (parts.map fun p => (p.1, ev (getE env) p.2)) = some cs)
    (hk : exec P ops draw rest ⟨(d, .agg cs) :: env, mem⟩ ((rids (parts.flatMap fun p => (ev (getE env) p.2).cells), []) :: tr) K) : exec P ops draw (⟨some d, .build T parts.toArray, ty, pos, af, none⟩ :: rest) ⟨env, mem⟩ tr K :=
  x_op ⟨.agg cs, [], rids (parts.flatMap fun p => (ev (getE env) p.2).cells)⟩ rfl ⟨places, zs, cs, fun p hp => by
    have := List.all_eq_true.1 hone p (by simpa using hp)
    rw [Bool.and_eq_true] at this
    exact ⟨this.1, fun u hu => liveB_ok (List.all_eq_true.1 this.2 u hu)⟩, hT, by simpa using hb, by simp⟩ (by simpa [St.app, putE] using hk)
theorem x_buildSlice {parts : List (Nat × Operand)} {n e sz by_ : Nat} (es : List (List PV)) (hT : TSlice P T e sz by_) (hes : (parts.map fun p => (ev (getE env) p.2).cells) = es)
    (hok : ((match getM mem (d, 0) with | none => true | _ => false) && Nat.ble 1 sz && Nat.ble (n * sz) 16777216 && (parts.map (·.1) == List.range n) && (es.all fun c => Nat.beq c.length sz && c.all PV.pure1) && !Nat.beq d io) = true)
    (hk : exec P ops draw rest ⟨(d, .osl (d, 0) 0 n) :: env, ((d, 0), some ⟨e, sz, es, false⟩) :: mem⟩ (([], [(d, 0)]) :: tr) K) : exec P ops draw (⟨some d, .buildSlice T n parts.toArray, ty, pos, af, none⟩ :: rest) ⟨env, mem⟩ tr K := by
  simp only [Bool.and_eq_true] at hok
  obtain ⟨⟨⟨⟨⟨h1, h2⟩, h3⟩, h4⟩, h5⟩, h6⟩ := hok
  subst hes
  refine x_op ⟨.osl (d, 0) 0 n, [((d, 0), some ⟨e, sz, parts.toArray.toList.map fun p => (ev (getE env) p.2).cells, false⟩)], []⟩ rfl ⟨d, e, sz, by_, rfl, fun he => ?_, ?_, hT, Nat.le_of_ble_eq_true h2, Nat.le_of_ble_eq_true h3, ?_, fun p hp => ?_, .inl rfl⟩ ?_
  · rw [he] at h6; simp at h6
  · show getM mem (d, 0) = none
    cases hm : getM mem (d, 0) with
    | none => rfl
    | some o => rw [hm] at h1; cases h1
  · simpa using h4
  · have := List.all_eq_true.1 h5 _ (List.mem_map_of_mem (f := fun p : Nat × Operand => (ev (getE env) p.2).cells) (by simpa using hp))
    rw [Bool.and_eq_true] at this
    exact ⟨Nat.eq_of_beq_eq_true this.1, this.2⟩
  · simpa [St.app, putE] using hk
theorem x_buildSliceLe {parts : List (Nat × Operand)} {n e sz by_ : Nat} (es : List (List PV)) (hT : TSlice P T e sz by_) (hes : (parts.map fun p => (ev (getE env) p.2).cells) = es)
    (hok : ((match getM mem (d, 0) with | none => true | _ => false) && Nat.ble 1 sz && Nat.ble (n * sz) 16777216 && (parts.map (·.1) == List.range n) && (es.all fun c => Nat.beq c.length sz && c.all PV.pure1) && !Nat.beq d io) = true)
    (hk : exec P ops draw rest ⟨(d, .list sz es) :: env, ((d, 0), none) :: mem⟩ (([], [(d, 0)]) :: tr) K) : exec P ops draw (⟨some d, .buildSlice T n parts.toArray, ty, pos, af, none⟩ :: rest) ⟨env, mem⟩ tr K := by
  simp only [Bool.and_eq_true] at hok
  obtain ⟨⟨⟨⟨⟨h1, h2⟩, h3⟩, h4⟩, h5⟩, h6⟩ := hok
  subst hes
  refine x_op ⟨.list sz (parts.toArray.toList.map fun p => (ev (getE env) p.2).cells), [((d, 0), none)], []⟩ rfl ⟨d, e, sz, by_, rfl, fun he => ?_, ?_, hT, Nat.le_of_ble_eq_true h2, Nat.le_of_ble_eq_true h3, ?_, fun p hp => ?_, .inr rfl⟩ ?_
  · rw [he] at h6; simp at h6
  · show getM mem (d, 0) = none
    cases hm : getM mem (d, 0) with
    | none => rfl
    | some o => rw [hm] at h1; cases h1
  · simpa using h4
  · have := List.all_eq_true.1 h5 _ (List.mem_map_of_mem (f := fun p : Nat × Operand => (ev (getE env) p.2).cells) (by simpa using hp))
    rw [Bool.and_eq_true] at this
    exact ⟨Nat.eq_of_beq_eq_true this.1, this.2⟩
  · simpa [St.app, putE] using hk
theorem x_load_pc {u : PV} {us : List PV} (hT : TCell P T) (h : ev (getE env) x = .ptr (u :: us)) (hk : exec P ops draw rest ⟨(d, u) :: env, mem⟩ (([], []) :: tr) K) :
    exec P ops draw (⟨some d, .load T x, ty, pos, af, none⟩ :: rest) ⟨env, mem⟩ tr K :=
  x_op ⟨u, [], []⟩ rfl (.inl ⟨hT, .inl ⟨u, us, h, rfl⟩⟩) hk
theorem x_load_oc {id : Id} {i off : Nat} {r : Row} {e : List PV} (u : PV) (hT : TCell P T) (h : ev (getE env) x = .own id i off) (hm : getM mem id = some (some r)) (he : r.es[i]? = some e) (hu : e[off]? = some u)
    (hk : exec P ops draw rest ⟨(d, u) :: env, mem⟩ (([id], []) :: tr) K) : exec P ops draw (⟨some d, .load T x, ty, pos, af, none⟩ :: rest) ⟨env, mem⟩ tr K :=
  x_op ⟨u, [], [id]⟩ rfl (.inl ⟨hT, .inr ⟨id, i, off, r, e, u, h, hm, he, hu, rfl⟩⟩) hk
theorem x_load_pa {k : Nat} {us : List PV} (cs : List PV) (hT : TAgg P T k) (h : ev (getE env) x = .ptr us) (hl : k ≤ us.length) (hc : us.take k = cs) (hk : exec P ops draw rest ⟨(d, .agg cs) :: env, mem⟩ (([], []) :: tr) K) :
    exec P ops draw (⟨some d, .load T x, ty, pos, af, none⟩ :: rest) ⟨env, mem⟩ tr K :=
  x_op ⟨.agg cs, [], []⟩ rfl (.inr ⟨k, hT, .inl ⟨us, h, hl, by rw [hc]⟩⟩) hk
theorem x_load_oa {k : Nat} {id : Id} {i off : Nat} {r : Row} {e : List PV} (cs : List PV) (hT : TAgg P T k) (h : ev (getE env) x = .own id i off) (hm : getM mem id = some (some r)) (he : r.es[i]? = some e) (hl : off + k ≤ e.length)
    (hc : (e.drop off).take k = cs) (hk : exec P ops draw rest ⟨(d, .agg cs) :: env, mem⟩ (([id], []) :: tr) K) : exec P ops draw (⟨some d, .load T x, ty, pos, af, none⟩ :: rest) ⟨env, mem⟩ tr K :=
  x_op ⟨.agg cs, [], [id]⟩ rfl (.inr ⟨k, hT, .inr ⟨id, i, off, r, e, h, hm, he, hl, by rw [hc]⟩⟩) hk
theorem x_field_p {i off : Nat} {us : List PV} (vs : List PV) (hT : TField P T i off) (h : ev (getE env) x = .ptr us) (hv : us.drop off = vs) (hk : exec P ops draw rest ⟨(d, .ptr vs) :: env, mem⟩ (([], []) :: tr) K) :
    exec P ops draw (⟨some d, .fieldAddr T x i, ty, pos, af, none⟩ :: rest) ⟨env, mem⟩ tr K :=
  x_op ⟨.ptr vs, [], []⟩ rfl ⟨off, hT, .inl ⟨us, h, by rw [hv]⟩⟩ hk
theorem x_field_o {i off : Nat} {id : Id} {k o : Nat} {r : Row} (o' : Nat) (hT : TField P T i off) (h : ev (getE env) x = .own id k o) (hm : getM mem id = some (some r)) (ho : Nat.add o off = o')
    (hk : exec P ops draw rest ⟨(d, .own id k o') :: env, mem⟩ (([id], []) :: tr) K) : exec P ops draw (⟨some d, .fieldAddr T x i, ty, pos, af, none⟩ :: rest) ⟨env, mem⟩ tr K :=
  x_op ⟨.own id k o', [], [id]⟩ rfl ⟨off, hT, .inr ⟨id, k, o, r, h, hm, by rw [← ho]; rfl⟩⟩ hk
theorem x_index_l {ix : Operand} {e sz by_ : Nat} {k : IntKind} {n : Int} {es : List (List PV)} (el : List PV) (hT : TSlice P T e sz by_) (h : ev (getE env) x = .list sz es) (hi : ev (getE env) ix = .int k n)
    (h0 : 0 ≤ n) (hel : es[n.toNat]? = some el) (hk : exec P ops draw rest ⟨(d, .ptr el) :: env, mem⟩ (([], []) :: tr) K) : exec P ops draw (⟨some d, .indexAddr T x ix, ty, pos, af, none⟩ :: rest) ⟨env, mem⟩ tr K :=
  x_op ⟨.ptr el, [], []⟩ rfl ⟨e, sz, by_, k, n, hT, hi, h0, .inl ⟨es, el, h, hel, rfl⟩⟩ hk
theorem x_index_o {ix : Operand} {e sz by_ o m : Nat} {k : IntKind} {n : Int} {id : Id} {r : Row} (i' : Nat) (hT : TSlice P T e sz by_) (h : ev (getE env) x = .osl id o m) (hi : ev (getE env) ix = .int k n)
    (hm : getM mem id = some (some r)) (hz : r.sz = sz) (h0 : 0 ≤ n) (hlt : n.toNat < m) (he : o + n.toNat = i') (hk : exec P ops draw rest ⟨(d, .own id i' 0) :: env, mem⟩ (([id], []) :: tr) K) :
    exec P ops draw (⟨some d, .indexAddr T x ix, ty, pos, af, none⟩ :: rest) ⟨env, mem⟩ tr K :=
  x_op ⟨.own id i' 0, [], [id]⟩ rfl ⟨e, sz, by_, k, n, hT, hi, h0, .inr ⟨id, o, m, r, h, hm, hz, hlt, by rw [he]⟩⟩ hk
theorem x_index_s {ix : Operand} {k : IntKind} {n : Int} {s : ByteArray} (b : UInt8) (hT : P.underlying T = some .string) (h : ev (getE env) x = .str s) (hi : ev (getE env) ix = .int k n) (h0 : 0 ≤ n) (hb : s[n.toNat]? = some b)
    (hk : exec P ops draw rest ⟨(d, .int .u8 b.toNat) :: env, mem⟩ (([], []) :: tr) K) : exec P ops draw (⟨some d, .index T x ix, ty, pos, af, none⟩ :: rest) ⟨env, mem⟩ tr K :=
  x_op ⟨.int .u8 b.toNat, [], []⟩ rfl ⟨hT, s, k, n, b, h, hi, h0, hb, rfl⟩ hk
theorem x_store {id : Id} {i off k : Nat} {r : Row} {e : List PV} (cs : List PV) (es' : List (List PV)) (h : ev (getE env) x = .own id i off) (hm : getM mem id = some (some r)) (he : r.es[i]? = some e) (hT : TSize P T k)
    (hc : (ev (getE env) y).cells = cs) (hl : Nat.beq cs.length k = true) (hfit : off + k ≤ e.length) (hone : (cs.all PV.one && cs.all (liveB mem) && (r.bx || cs.all PV.pure1)) = true)
    (hes : r.es.set i (e.take off ++ cs ++ e.drop (off + k)) = es')
    (hk : exec P ops draw rest ⟨env, (id, some ⟨r.ty, r.sz, es', r.bx⟩) :: mem⟩ ((id :: rids cs, [id]) :: tr) K) : exec P ops draw (⟨none, .store T x y, ty, pos, af, none⟩ :: rest) ⟨env, mem⟩ tr K := by
  simp only [Bool.and_eq_true, Bool.or_eq_true] at hone
  subst hc
  subst hes
  have hk' := Nat.eq_of_beq_eq_true hl
  exact x_op ⟨.any, [(id, some { r with es := r.es.set i (e.take off ++ (ev (getE env) y).cells ++ e.drop (off + k)) })], id :: rids (ev (getE env) y).cells⟩ rfl
    ⟨id, i, off, r, e, k, h, hm, he, hT, hk', hfit, hone.1.1, fun u hu => liveB_ok (List.all_eq_true.1 hone.1.2 u hu), hone.2, rfl⟩ hk
theorem x_mkfn {g : FuncId} {fi ca : List Operand} (a b : List PV) (ha : fi.map (ev (getE env)) = a) (hb : ca.map (ev (getE env)) = b) (hk : exec P ops draw rest ⟨(d, .fn g a b) :: env, mem⟩ (([], []) :: tr) K) :
    exec P ops draw (⟨some d, .makeFunc (.func g) fi.toArray ca.toArray, ty, pos, af, none⟩ :: rest) ⟨env, mem⟩ tr K :=
  x_op ⟨.fn g a b, [], []⟩ rfl ⟨g, rfl, by simp [ha, hb]⟩ hk
theorem x_len_l {sz e : Nat} {es : List (List PV)} (hT : P.underlying T = some (.slice e)) (h : ev (getE env) x = .list sz es) (hk : exec P ops draw rest ⟨(d, .int .i64 es.length) :: env, mem⟩ (([], []) :: tr) K) :
    exec P ops draw (⟨some d, .call ⟨.builtin .len, #[x], #[T]⟩, ty, pos, af, none⟩ :: rest) ⟨env, mem⟩ tr K :=
  x_op ⟨.int .i64 es.length, [], []⟩ rfl ⟨x, T, es.length, [], rfl, rfl, rfl, .inl ⟨e, hT, .inl ⟨sz, es, h, rfl⟩⟩⟩ hk
theorem x_len_o {e o n : Nat} {id : Id} {r : Row} (hT : P.underlying T = some (.slice e)) (h : ev (getE env) x = .osl id o n) (hm : getM mem id = some (some r)) (hk : exec P ops draw rest ⟨(d, .int .i64 n) :: env, mem⟩ (([id], []) :: tr) K) :
    exec P ops draw (⟨some d, .call ⟨.builtin .len, #[x], #[T]⟩, ty, pos, af, none⟩ :: rest) ⟨env, mem⟩ tr K :=
  x_op ⟨.int .i64 n, [], [id]⟩ rfl ⟨x, T, n, [id], rfl, rfl, rfl, .inl ⟨e, hT, .inr (.inl ⟨id, o, r, h, hm, rfl⟩)⟩⟩ hk
theorem x_len_n {e : Nat} (hT : P.underlying T = some (.slice e)) (h : ev (getE env) x = .nil) (hk : exec P ops draw rest ⟨(d, .int .i64 0) :: env, mem⟩ (([], []) :: tr) K) :
    exec P ops draw (⟨some d, .call ⟨.builtin .len, #[x], #[T]⟩, ty, pos, af, none⟩ :: rest) ⟨env, mem⟩ tr K :=
  x_op ⟨.int .i64 0, [], []⟩ rfl ⟨x, T, 0, [], rfl, rfl, rfl, .inl ⟨e, hT, .inr (.inr ⟨h, rfl⟩)⟩⟩ hk
theorem x_len_s {s : ByteArray} (hT : P.underlying T = some .string) (h : ev (getE env) x = .str s) (hk : exec P ops draw rest ⟨(d, .int .i64 s.size) :: env, mem⟩ (([], []) :: tr) K) :
    exec P ops draw (⟨some d, .call ⟨.builtin .len, #[x], #[T]⟩, ty, pos, af, none⟩ :: rest) ⟨env, mem⟩ tr K :=
  x_op ⟨.int .i64 s.size, [], []⟩ rfl ⟨x, T, s.size, [], rfl, rfl, rfl, .inr ⟨hT, s, h, rfl⟩⟩ hk
theorem x_max {k : IntKind} {m n : Int} (hx : ev (getE env) x = .int k m) (hy : ev (getE env) y = .int k n) {ts : Array TypeId} (hk : exec P ops draw rest ⟨(d, .int k (max m n)) :: env, mem⟩ (([], []) :: tr) K) :
    exec P ops draw (⟨some d, .call ⟨.builtin .max, #[x, y], ts⟩, ty, pos, af, none⟩ :: rest) ⟨env, mem⟩ tr K :=
  x_op ⟨.int k (max m n), [], []⟩ rfl ⟨x, y, k, m, n, rfl, hx, hy, by congr 2; rw [Int.max_def]; split <;> split <;> omega⟩ hk
theorem x_min {k : IntKind} {m n : Int} (hx : ev (getE env) x = .int k m) (hy : ev (getE env) y = .int k n) {ts : Array TypeId} (hk : exec P ops draw rest ⟨(d, .int k (min m n)) :: env, mem⟩ (([], []) :: tr) K) :
    exec P ops draw (⟨some d, .call ⟨.builtin .min, #[x, y], ts⟩, ty, pos, af, none⟩ :: rest) ⟨env, mem⟩ tr K :=
  x_op ⟨.int k (min m n), [], []⟩ rfl ⟨x, y, k, m, n, rfl, hx, hy, by congr 2; rw [Int.min_def]; split <;> split <;> omega⟩ hk
end
end
end Go.Vs
set_option linter.unusedVariables false
set_option linter.unusedSimpArgs false
set_option linter.unusedSectionVars false
namespace Go.Vs
section
variable [fl : Inhabited FlrT]
section
variable {P : Program} {ops : Array Oper} {draw : Bool} {rest : List Oper} {env : List (Nat × PV)} {mem : List (Id × Option Row)} {tr : List (List Id × List Id)} {K : St → List (List Id × List Id) → Prop}
  {d : Nat} {ty : TypeId} {pos : String} {af : Array Edge} {x y c : Operand} {T yT : TypeId}
theorem getE_cons (k : Nat) (v : PV) (r : List (Nat × PV)) (t : Nat) : getE ((k, v) :: r) t = if k = t then v else getE r t := by
  simp only [getE]
  by_cases h : k = t
  · subst h; simp
  · rw [nbeq_false h, if_neg h]; rfl
def newB (mem : List (Id × Option Row)) (d : Nat) : Bool := (match getM mem (d, 0) with | none => true | _ => false) && !Nat.beq d io
theorem newB_ok (h : newB mem d = true) : d ≠ io ∧ getM mem (d, 0) = none := by
  simp only [newB, Bool.and_eq_true] at h
  refine ⟨fun e => by rw [e] at h; simp at h, ?_⟩
  cases hm : getM mem (d, 0) with
  | none => rfl
  | some o => rw [hm] at h; cases h.1
theorem x_app_ol {e sz by_ o n : Nat} {id : Id} {r : Row} {news : List (List PV)} (es' : List (List PV)) (hT : TSlice P T e sz by_) (hs : ev (getE env) x = .osl id o n) (hm : getM mem id = some (some r)) (hx : ev (getE env) y = .list sz news)
    (hr : r.bx = false ∧ r.ty = e ∧ r.sz = sz ∧ id.1 ≠ io ∧ 0 < sz) (hon : r.es.length = o + n) (hb : n + news.length ≤ 1099511627776 ∧ by_ ≤ 100) (hn : newB mem d = true) (hes : r.es.drop o ++ news = es') {n' : Nat} (hn' : n + news.length = n')
    (hk : exec P ops draw rest ⟨(d, .osl (d, 0) 0 n') :: env, ((d, 0), some ⟨e, sz, es', false⟩) :: (id, none) :: mem⟩ (([id], [(d, 0), id]) :: tr) K) :
    exec P ops draw (⟨some d, .call ⟨.builtin .append, #[x, y], #[T, T]⟩, ty, pos, af, none⟩ :: rest) ⟨env, mem⟩ tr K := by
  obtain ⟨h1, h2⟩ := newB_ok hn
  subst hes
  subst hn'
  refine x_op ⟨.osl (d, 0) 0 (n + news.length), [((d, 0), some ⟨e, sz, r.es.drop o ++ news, false⟩), (id, none)], [id]⟩ rfl
    ⟨x, y, T, d, e, sz, by_, news, [], rfl, rfl, rfl, h1, h2, hT, hr.2.2.2.2, .inl ⟨hx, rfl⟩, .inr ⟨id, o, n, r, hs, hm, hr.1, hr.2.1, hr.2.2.1, hr.2.2.2.1, hon, by unfold maxLen; omega, ?_, rfl⟩⟩ hk
  have : (n + news.length) * by_ ≤ 1099511627776 * 100 := Nat.mul_le_mul hb.1 hb.2
  omega
theorem x_app_oo {e sz by_ o n o2 m : Nat} {id id2 : Id} {r r2 : Row} (es' news : List (List PV)) (hT : TSlice P T e sz by_) (hs : ev (getE env) x = .osl id o n) (hm : getM mem id = some (some r)) (hx : ev (getE env) y = .osl id2 o2 m)
    (hm2 : getM mem id2 = some (some r2)) (hr2 : r2.bx = false ∧ r2.sz = sz) (hnews : (r2.es.drop o2).take m = news)
    (hr : r.bx = false ∧ r.ty = e ∧ r.sz = sz ∧ id.1 ≠ io ∧ 0 < sz) (hon : r.es.length = o + n) (hb : n + news.length ≤ 1099511627776 ∧ by_ ≤ 100) (hn : newB mem d = true) (hes : r.es.drop o ++ news = es') {n' : Nat} (hn' : n + news.length = n')
    (hk : exec P ops draw rest ⟨(d, .osl (d, 0) 0 n') :: env, ((d, 0), some ⟨e, sz, es', false⟩) :: (id, none) :: mem⟩ (([id, id2], [(d, 0), id]) :: tr) K) :
    exec P ops draw (⟨some d, .call ⟨.builtin .append, #[x, y], #[T, T]⟩, ty, pos, af, none⟩ :: rest) ⟨env, mem⟩ tr K := by
  obtain ⟨h1, h2⟩ := newB_ok hn
  subst hes
  subst hn'
  refine x_op ⟨.osl (d, 0) 0 (n + news.length), [((d, 0), some ⟨e, sz, r.es.drop o ++ news, false⟩), (id, none)], [id, id2]⟩ rfl
    ⟨x, y, T, d, e, sz, by_, news, [id2], rfl, rfl, rfl, h1, h2, hT, hr.2.2.2.2, .inr (.inl ⟨id2, o2, m, r2, hx, hm2, hr2.1, hr2.2, hnews.symm, rfl⟩), .inr ⟨id, o, n, r, hs, hm, hr.1, hr.2.1, hr.2.2.1, hr.2.2.2.1, hon, by unfold maxLen; omega, ?_, rfl⟩⟩ hk
  have : (n + news.length) * by_ ≤ 1099511627776 * 100 := Nat.mul_le_mul hb.1 hb.2
  omega
theorem x_app_no {e sz by_ o2 m : Nat} {id2 : Id} {r2 : Row} (news : List (List PV)) (hT : TSlice P T e sz by_) (hs : ev (getE env) x = .nil) (hx : ev (getE env) y = .osl id2 o2 m)
    (hm2 : getM mem id2 = some (some r2)) (hr2 : r2.bx = false ∧ r2.sz = sz ∧ 0 < sz) (hnews : (r2.es.drop o2).take m = news)
    (hb : news.length ≤ 1099511627776 ∧ by_ ≤ 100) (hn : newB mem d = true) {n' : Nat} (hn' : news.length = n')
    (hk : exec P ops draw rest ⟨(d, .osl (d, 0) 0 n') :: env, ((d, 0), some ⟨e, sz, news, false⟩) :: mem⟩ (([id2], [(d, 0)]) :: tr) K) :
    exec P ops draw (⟨some d, .call ⟨.builtin .append, #[x, y], #[T, T]⟩, ty, pos, af, none⟩ :: rest) ⟨env, mem⟩ tr K := by
  obtain ⟨h1, h2⟩ := newB_ok hn
  subst hn'
  refine x_op ⟨.osl (d, 0) 0 news.length, [((d, 0), some ⟨e, sz, news, false⟩)], [id2]⟩ rfl
    ⟨x, y, T, d, e, sz, by_, news, [id2], rfl, rfl, rfl, h1, h2, hT, hr2.2.2, .inr (.inl ⟨id2, o2, m, r2, hx, hm2, hr2.1, hr2.2.1, hnews.symm, rfl⟩), .inl ⟨hs, by unfold maxLen; omega, ?_, rfl⟩⟩ hk
  have : news.length * by_ ≤ 1099511627776 * 100 := Nat.mul_le_mul hb.1 hb.2
  omega
theorem x_slice_l {e sz by_ : Nat} {es : List (List PV)} {lo hi : Option Operand} {l h : Nat} (es' : List (List PV)) (hT : TSlice P T e sz by_) (hx : ev (getE env) x = .list sz es) (hl : bound (getE env) lo 0 l) (hh : bound (getE env) hi es.length h)
    (hb : l ≤ h ∧ h ≤ es.length) (hes : (es.take h).drop l = es') (hk : exec P ops draw rest ⟨(d, .list sz es') :: env, mem⟩ (([], []) :: tr) K) : exec P ops draw (⟨some d, .slice T x lo hi none, ty, pos, af, none⟩ :: rest) ⟨env, mem⟩ tr K :=
  x_op ⟨.list sz es', [], []⟩ rfl ⟨rfl, l, h, hl, hb.1, .inl ⟨e, sz, by_, es, hT, hx, hh, hb.2, by rw [hes]⟩⟩ hk
theorem x_slice_o {e sz by_ o n : Nat} {id : Id} {r : Row} {lo hi : Option Operand} {l h : Nat} (o' n' : Nat) (hT : TSlice P T e sz by_) (hx : ev (getE env) x = .osl id o n) (hm : getM mem id = some (some r)) (hz : r.sz = sz) (hl : bound (getE env) lo 0 l)
    (hh : bound (getE env) hi n h) (hb : l ≤ h ∧ h ≤ n) (ho : o + l = o') (hn : h - l = n') (hk : exec P ops draw rest ⟨(d, .osl id o' n') :: env, mem⟩ (([id], []) :: tr) K) :
    exec P ops draw (⟨some d, .slice T x lo hi none, ty, pos, af, none⟩ :: rest) ⟨env, mem⟩ tr K :=
  x_op ⟨.osl id o' n', [], [id]⟩ rfl ⟨rfl, l, h, hl, hb.1, .inr (.inl ⟨e, sz, by_, id, o, n, r, hT, hx, hm, hz, hh, hb.2, by rw [← ho, ← hn]⟩)⟩ hk
theorem x_slice_s {s : ByteArray} {lo hi : Option Operand} {l h : Nat} (hT : P.underlying T = some .string) (hx : ev (getE env) x = .str s) (hl : bound (getE env) lo 0 l) (hh : bound (getE env) hi s.size h)
    (hb : l ≤ h ∧ h ≤ s.size) (hk : exec P ops draw rest ⟨(d, .str (s.extract l h)) :: env, mem⟩ (([], []) :: tr) K) : exec P ops draw (⟨some d, .slice T x lo hi none, ty, pos, af, none⟩ :: rest) ⟨env, mem⟩ tr K :=
  x_op ⟨.str (s.extract l h), [], []⟩ rfl ⟨rfl, l, h, hl, hb.1, .inr (.inr ⟨hT, s, hx, hh, hb.2, rfl⟩)⟩ hk
theorem x_make {e sz by_ : Nat} {zs : List PV} {k k' : IntKind} {n : Nat} (hT : TSlice P T e sz by_) (hZ : TZero P e zs) (hz : (zs.all PV.pure1 && Nat.ble 1 sz) = true) (hl : ev (getE env) x = .int k (n : Int)) (hc : ev (getE env) y = .int k' (n : Int))
    (hb : n ≤ 1099511627776 ∧ by_ ≤ 100) (hn : newB mem d = true) (hk : exec P ops draw rest ⟨(d, .osl (d, 0) 0 n) :: env, ((d, 0), some ⟨e, sz, List.replicate n zs, false⟩) :: mem⟩ (([], [(d, 0)]) :: tr) K) :
    exec P ops draw (⟨some d, .makeSlice T x y, ty, pos, af, none⟩ :: rest) ⟨env, mem⟩ tr K := by
  obtain ⟨h1, h2⟩ := newB_ok hn
  rw [Bool.and_eq_true] at hz
  refine x_op ⟨.osl (d, 0) 0 n, [((d, 0), some ⟨e, sz, List.replicate n zs, false⟩)], []⟩ rfl ⟨d, e, sz, by_, zs, k, k', n, rfl, h1, h2, hT, hZ, hz.1, Nat.le_of_ble_eq_true hz.2, hl, hc, ?_, by unfold maxLen; omega, rfl⟩ hk
  have : by_ * n ≤ 100 * 1099511627776 := Nat.mul_le_mul hb.2 hb.1
  omega
def Ret (r : PV) : PV → List (List (List PV)) → Prop := fun r' fin => r' = r ∧ fin = []
def Con (P : Program) (g : FuncId) (ys : List PV) (r : PV) : Prop := ∀ al, ContractP P g al ys [] (Ret r)
def freeB (mem : List (Id × Option Row)) (d : Nat) : Bool := (mem.all fun p => !Nat.beq p.1.1 d) && !Nat.beq d io
theorem freeB_ok (h : freeB mem d = true) : d ≠ io ∧ ∀ k, getM mem (d, k) = none := by
  simp only [freeB, Bool.and_eq_true] at h
  refine ⟨fun e => by rw [e] at h; simp at h, fun k => ?_⟩
  cases hm : getM mem (d, k) with
  | none => rfl
  | some o =>
    have := List.all_eq_true.1 h.1 _ (getM_mem hm)
    simp at this
theorem x_call {f : Operand} {args : List Operand} {ats : Array TypeId} {g : FuncId} {fi ca xs ys : List PV} {r : PV} {mem' : List (Id × Option Row)} (rd : List Id) (v : PV) (hC : Con P g ys r) (hf : ev (getE env) f = .fn g fi ca)
    (hxs : fi ++ args.map (ev (getE env)) ++ ca = xs) (hsnap : AllR (SnapD 6 (getM mem) [] rd) xs ys) (hfree : freeB mem d = true) (hth : thaw d r = (v, mem'))
    (hk : exec P ops draw rest ⟨(d, v) :: env, mem' ++ mem⟩ ((rd, (d, 0) :: mem'.map (·.1)) :: tr) K) : exec P ops draw (⟨some d, .call ⟨.value f, args.toArray, ats⟩, ty, pos, af, none⟩ :: rest) ⟨env, mem⟩ tr K := by
  obtain ⟨h1, h2⟩ := freeB_ok hfree
  subst hxs
  have hups : callUps (St.M ⟨env, mem⟩) d [] rd false r (backF (St.M ⟨env, mem⟩) [] [] []) = mem' := by simp [callUps, ioUps, frzUps, hth]
  refine .inr ⟨by simp [wantedPV], .inr ⟨d, false, false, [], rd, [], Ret r, ⟨⟨.value f, args.toArray, ats⟩, f, g, fi, ca, ys, rfl, rfl, hf, fun t ht => by injection ht with ht; exact ht.symm, hC false,
    ⟨h1, h2, by simpa using hsnap, rfl, List.nodup_nil, fun k id row h => by simp at h, fun id _ h => by simp at h, .inr ⟨rfl, rfl, rfl⟩⟩⟩, .inr ⟨r, [], fun r' fin' h => h, ?_⟩⟩⟩
  rw [hups]
  have : (thaw d r).1 = v := by rw [hth]
  rw [this]
  exact hk
theorem x_callLend {f : Operand} {args : List Operand} {ats : Array TypeId} {g : FuncId} {fi ca xs ys : List PV} {r : PV} {fin : List (List (List PV))} {ios : List Row} {mem' : List (Id × Option Row)} (ids rd : List Id) (v : PV)
    (hC : ContractP P g true ys ios fun r' fin' => r' = r ∧ fin' = fin) (hf : ev (getE env) f = .fn g fi ca)
    (hxs : fi ++ args.map (ev (getE env)) ++ ca = xs) (hsnap : AllR (SnapD 6 (getM mem) ids rd) xs ys) (hfree : freeB mem d = true) (hlen : ids.length = ios.length) (hnd : ids.Nodup)
    (hlent : ∀ (k : Nat) id row, ids[k]? = some id → ios[k]? = some row → ∃ r, getM mem id = some (some r) ∧ Lend ids r row)
    (hap : ∀ id ∈ rd, id ∉ ids) (hrd : (∀ id ∈ rd, id.1 ≠ io ∧ ∃ r, getM mem id = some (some r)) ∧ rd.Nodup) (hth : (thaw d r).1 = v) (hups : callUps (getM mem) d ids rd true r (backF (getM mem) ids ios fin) = mem')
    (hk : exec P ops draw rest ⟨(d, v) :: env, mem' ++ mem⟩ ((ids ++ rd, (d, 0) :: mem'.map (·.1)) :: tr) K) : exec P ops draw (⟨some d, .call ⟨.value f, args.toArray, ats⟩, ty, pos, af, none⟩ :: rest) ⟨env, mem⟩ tr K := by
  obtain ⟨h1, h2⟩ := freeB_ok hfree
  subst hxs
  refine .inr ⟨by simp [wantedPV], .inr ⟨d, true, true, ids, rd, ios, _, ⟨⟨.value f, args.toArray, ats⟩, f, g, fi, ca, ys, rfl, rfl, hf, fun t ht => by injection ht with ht; exact ht.symm, hC,
    ⟨h1, h2, by simpa using hsnap, hlen, hnd, hlent, hap, .inl ⟨rfl, hrd.1, hrd.2⟩⟩⟩, .inr ⟨r, fin, fun r' fin' h => h, ?_⟩⟩⟩
  rw [show callUps (St.M ⟨env, mem⟩) d ids rd true r (backF (St.M ⟨env, mem⟩) ids ios fin) = mem' from hups, hth]
  exact hk
theorem x_callIO {f : Operand} {args : List Operand} {ats : Array TypeId} {g : FuncId} {fi ca xs ys : List PV} {r : PV} {fin : List (List (List PV))} {ios : List Row} {mem' : List (Id × Option Row)} (ids rd : List Id) (v : PV)
    (hC : ContractP P g true ys ios fun r' fin' => r' = r ∧ fin' = fin) (hf : ev (getE env) f = .fn g fi ca)
    (hxs : fi ++ args.map (ev (getE env)) ++ ca = xs) (hsnap : AllR (SnapD 6 (getM mem) ids rd) xs ys) (hfree : freeB mem d = true) (hlen : ids.length = ios.length) (hnd : ids.Nodup)
    (hlent : ∀ (k : Nat) id row, ids[k]? = some id → ios[k]? = some row → ∃ r, getM mem id = some (some r) ∧ row = { r with bx := false } ∧ (r.bx = false ∨ ∀ e ∈ r.es, e.all PV.pure1 = true))
    (hap : ∀ id ∈ rd, id ∉ ids) (hrd : (∀ id ∈ rd, id.1 ≠ io ∧ ∃ r, getM mem id = some (some r)) ∧ rd.Nodup) (hth : (thaw d r).1 = v) (hups : callUps (getM mem) d ids rd true r fin = mem')
    (hk : exec P ops draw rest ⟨(d, v) :: env, mem' ++ mem⟩ ((ids ++ rd, (d, 0) :: mem'.map (·.1)) :: tr) K) : exec P ops draw (⟨some d, .call ⟨.value f, args.toArray, ats⟩, ty, pos, af, none⟩ :: rest) ⟨env, mem⟩ tr K := by
  have hbx : ∀ row ∈ ios, row.bx = false := fun row hr => by
    obtain ⟨k, hk⟩ := List.getElem?_of_mem hr
    have hlt : k < ids.length := by rw [hlen]; exact (List.getElem?_eq_some_iff.1 hk).1
    obtain ⟨r, _, h2, _⟩ := hlent k ids[k] row (List.getElem?_eq_getElem hlt) hk
    rw [h2]
  refine x_callLend ids rd v hC hf hxs hsnap hfree hlen hnd (fun k id row h1 h2 => ?_) hap hrd hth (mem' := mem') ?_ hk
  · obtain ⟨r, g1, g2⟩ := hlent k id row h1 h2
    exact ⟨r, g1, .inl g2⟩
  · rw [← hups]
    simp only [callUps, backF_flat (getM mem) (getM mem) ids ios fin hlen hbx]
end
def thenQ (P : Program) (y : Code) (Q : Exit → St → Prop) : Exit → St → Prop
  | .normal, st => ∃ st2, Ent st st2 ∧ vwp P y st2 Q
  | e, st => Q e st
def blkQ (id : Nat) (Q : Exit → St → Prop) : Exit → St → Prop
  | .exit id', st => if id' = id then Q .normal st else Q (.exit id') st
  | e, st => Q e st
def loopQ (I : St → Prop) (m : St → Nat) (n : Nat) (Q : Exit → St → Prop) : Exit → St → Prop
  | .normal, st => ∃ st3, Ent st st3 ∧ I st3 ∧ m st3 < n
  | e, st => Q e st
section
variable {P : Program} {st : St} {Q : Exit → St → Prop} {x y z : Code}
theorem vwp_ext {Q Q' : Exit → St → Prop} (h : ∀ e st, Q e st = Q' e st) : Q = Q' := by funext e st; exact h e st
theorem v_seq (h : vwp P x st (thenQ P y Q)) : vwp P (.seq x y) st Q := by
  have : thenQ P y Q = (fun e st' => match e with | .normal => ∃ st2, Ent st' st2 ∧ vwp P y st2 Q | e => Q e st') := vwp_ext fun e st => by cases e <;> rfl
  rw [this] at h
  exact h
theorem v_skip (h : Q .normal st) : vwp P .skip st Q := h
theorem v_ret (h : Q .ret st) : vwp P .ret st Q := h
theorem v_exit {id : Nat} (h : Q (.exit id) st) : vwp P (.exit id) st Q := h
theorem v_block {id : Nat} (h : vwp P x st (blkQ id Q)) : vwp P (.block id x) st Q := by
  have : blkQ id Q = (fun e st' => match e with | .exit id' => if id' = id then Q .normal st' else Q (.exit id') st' | e => Q e st') := vwp_ext fun e st => by cases e <;> rfl
  rw [this] at h
  exact h
theorem v_cond {c : Operand} {b : Bool} (hb : ev (getE st.env) c = .bool b) (h1 : b = true → vwp P x st Q) (h2 : b = false → vwp P y st Q) : vwp P (.cond c x y) st Q := ⟨b, hb, h1, h2⟩
theorem v_region {id : Nat} {l : List Oper} {draw : Bool} (h : ∀ K : St → List (List Id × List Id) → Prop, (∀ st' tr, (draw = false ∨ orderOk l.toArray tr.reverse = true) → Q .normal st' → K st' tr) → exec P l.toArray draw l st [] K) :
    vwp P (.region id l.toArray draw) st Q := h _ fun st' tr h1 h2 => ⟨h1, h2⟩
theorem v_loop (I : St → Prop) (m : St → Nat) (st0 : St) (hw : Ent st st0) (hI : I st0) (h : ∀ st', I st' → vwp P x st' (loopQ I m (m st') Q)) : vwp P (.loop x) st Q := by
  refine ⟨I, m, st0, hw, hI, fun st' hI' => ?_⟩
  have := h st' hI'
  have e : loopQ I m (m st') Q = (fun e st'' => match e with | .normal => ∃ st3, Ent st'' st3 ∧ I st3 ∧ m st3 < m st' | e => Q e st'') := vwp_ext fun e st => by cases e <;> rfl
  rw [e] at this
  exact this
theorem v_loopE {α : Type} (mk : α → St) (R : α → Prop) (m : α → Nat) (a0 : α) (hw : Ent st (mk a0)) (hR : R a0)
    (h : ∀ a, R a → vwp P x (mk a) (loopQ (fun s => ∃ a', s = mk a' ∧ R a' ∧ m a' < m a) (fun _ => 0) 1 Q)) : vwp P (.loop x) st Q := by
  have key : ∀ n a, m a = n → R a → ∀ st, Ent st (mk a) → vwp P (.loop x) st Q := by
    intro n a hn hRa st hwa
    classical
    refine v_loop (fun s => ∃ a, s = mk a ∧ R a) (fun s => if h : ∃ a, s = mk a ∧ R a then
        Classical.choose (exists_least (fun n => ∃ a, s = mk a ∧ R a ∧ m a = n) (let ⟨a, h1, h2⟩ := h; ⟨m a, a, h1, h2, rfl⟩)) else 0) (mk a) hwa ⟨a, rfl, hRa⟩ ?_
    intro s hs
    have hex : ∃ n, ∃ a, s = mk a ∧ R a ∧ m a = n := let ⟨a, h1, h2⟩ := hs; ⟨m a, a, h1, h2, rfl⟩
    have hsp := Classical.choose_spec (exists_least _ hex)
    obtain ⟨a1, hs1, hR1, hm1⟩ := hsp.1
    have hv := h a1 hR1
    rw [← hs1] at hv
    rw [dif_pos hs]
    have mono : ∀ (c : Code) (s : St) (Q1 Q2 : Exit → St → Prop), (∀ e s, Q1 e s → Q2 e s) → vwp P c s Q1 → vwp P c s Q2 := by
      have emono : ∀ (ops : Array Oper) (draw : Bool) (l : List Oper) (s : St) (tr : List (List Id × List Id)) (K1 K2 : St → List (List Id × List Id) → Prop), (∀ s tr, K1 s tr → K2 s tr) → exec P ops draw l s tr K1 → exec P ops draw l s tr K2 := by
        intro ops draw l
        induction l with
        | nil => intro s tr K1 K2 hK h; exact hK _ _ h
        | cons o l ih =>
          intro s tr K1 K2 hK h
          rcases h with (⟨hw, h⟩ | ⟨hw, hd, Φ, hb, h⟩) | ⟨hw, ⟨f, hs, h⟩ | ⟨t, al, fz, ids, rd, ios, Post, hc, ⟨hd, h⟩ | ⟨r, fin, hu, h⟩⟩⟩
          · exact .inl (.inl ⟨hw, ih _ _ _ _ hK h⟩)
          · exact .inl (.inr ⟨hw, hd, Φ, hb, fun st' hp => ih _ _ _ _ hK (h st' hp)⟩)
          · exact .inr ⟨hw, .inl ⟨f, hs, ih _ _ _ _ hK h⟩⟩
          · exact .inr ⟨hw, .inr ⟨t, al, fz, ids, rd, ios, Post, hc, .inl ⟨hd, fun r fin hp hl => ih _ _ _ _ hK (h r fin hp hl)⟩⟩⟩
          · exact .inr ⟨hw, .inr ⟨t, al, fz, ids, rd, ios, Post, hc, .inr ⟨r, fin, hu, ih _ _ _ _ hK h⟩⟩⟩
      intro c
      induction c with
      | skip => intro s Q1 Q2 hQ h; exact hQ _ _ h
      | ret => intro s Q1 Q2 hQ h; exact hQ _ _ h
      | exit id => intro s Q1 Q2 hQ h; exact hQ _ _ h
      | region id ops draw => intro s Q1 Q2 hQ h; exact emono ops draw _ _ _ _ _ (fun s tr h => ⟨h.1, hQ _ _ h.2⟩) h
      | seq x y ihx ihy =>
        intro s Q1 Q2 hQ h
        refine ihx s _ _ ?_ h
        intro e s he
        cases e with
        | normal => obtain ⟨s2, hs2, he⟩ := he; exact ⟨s2, hs2, ihy s2 _ _ hQ he⟩
        | _ => exact hQ _ _ he
      | cond c x y ihx ihy => intro s Q1 Q2 hQ h; obtain ⟨b, h0, h1, h2⟩ := h; exact ⟨b, h0, fun hb => ihx s _ _ hQ (h1 hb), fun hb => ihy s _ _ hQ (h2 hb)⟩
      | block id x ihx =>
        intro s Q1 Q2 hQ h
        refine ihx s _ _ ?_ h
        intro e s he
        cases e with
        | exit id' =>
          simp only at he ⊢
          split
          · rename_i hid; rw [if_pos hid] at he; exact hQ _ _ he
          · rename_i hid; rw [if_neg hid] at he; exact hQ _ _ he
        | _ => exact hQ _ _ he
      | loop x ihx =>
        intro s Q1 Q2 hQ h
        obtain ⟨I, m, s0, h0, h1, h2⟩ := h
        refine ⟨I, m, s0, h0, h1, fun s' hs' => ihx s' _ _ ?_ (h2 s' hs')⟩
        intro e s he
        cases e with
        | normal => exact he
        | _ => exact hQ _ _ he
      | _ => intro s Q1 Q2 hQ h; exact h.elim
    refine mono x s _ _ ?_ hv
    intro e s' he
    cases e with
    | normal =>
      obtain ⟨s3, hw3, ⟨a', rfl, hR', hlt⟩, _⟩ := he
      refine ⟨mk a', hw3, ⟨a', rfl, hR'⟩, ?_⟩
      have hex' : ∃ a, mk a' = mk a ∧ R a := ⟨a', rfl, hR'⟩
      show (if h : ∃ a, mk a' = mk a ∧ R a then Classical.choose _ else 0) < _
      rw [dif_pos hex']
      have := (Classical.choose_spec (exists_least (fun n => ∃ a, mk a' = mk a ∧ R a ∧ m a = n) (let ⟨a, h1, h2⟩ := hex'; ⟨m a, a, h1, h2, rfl⟩))).2 (m a') ⟨a', rfl, hR', rfl⟩
      refine Nat.lt_of_le_of_lt this ?_
      rw [hm1] at hlt
      exact hlt
    | _ => exact he
  exact key _ a0 rfl hR st hw
theorem q_then (h : vwp P y st Q) : thenQ P y Q .normal st := ⟨st, Ent.refl st, h⟩
theorem q_then_r (h : Q .ret st) : thenQ P y Q .ret st := h
theorem q_then_e {id : Nat} (h : Q (.exit id) st) : thenQ P y Q (.exit id) st := h
theorem q_blk_n {id : Nat} (h : Q .normal st) : blkQ id Q .normal st := h
theorem q_blk_r {id : Nat} (h : Q .ret st) : blkQ id Q .ret st := h
theorem q_blk_e {id : Nat} (h : Q .normal st) : blkQ id Q (.exit id) st := by simp only [blkQ, if_true]; exact h
theorem q_blk_o {id id' : Nat} (hne : Nat.beq id' id = false) (h : Q (.exit id') st) : blkQ id Q (.exit id') st := by
  have : id' ≠ id := fun e => by rw [e] at hne; simp at hne
  simp only [blkQ, this, if_false]; exact h
theorem q_loop_r {I : St → Prop} {m : St → Nat} {n : Nat} (h : Q .ret st) : loopQ I m n Q .ret st := h
theorem q_loop_e {I : St → Prop} {m : St → Nat} {n id : Nat} (h : Q (.exit id) st) : loopQ I m n Q (.exit id) st := h
theorem q_loopE {α : Type} {mk : α → St} {R : α → Prop} {m : α → Nat} {n : Nat} (a : α) (hw : Ent st (mk a)) (hR : R a) (hm : m a < n) : loopQ (fun s => ∃ a', s = mk a' ∧ R a' ∧ m a' < n) (fun _ => 0) 1 Q .normal st :=
  ⟨mk a, hw, ⟨a, rfl, hR, hm⟩, by simp⟩
theorem ret_of {fn : Func} {al : Bool} {r : PV} (xs : List PV) (u : List (Option Id)) (hres : AllRes P st fn.results.toList xs) (he : Exp al st (tup xs) r u) (ha : apartIds u) : RetPost P fn al [] (Ret r) .ret st :=
  ⟨.inl rfl, xs, r, u, [], hres, he, ha, ⟨rfl, rfl⟩, rfl, fun k row h => by simp at h⟩
theorem ret_n {fn : Func} {al : Bool} {r : PV} (h : RetPost P fn al [] (Ret r) .ret st) : RetPost P fn al [] (Ret r) .normal st := ⟨.inr rfl, h.2⟩
theorem ret_bool {fn : Func} {al : Bool} {t : Nat} {b b' : Bool} (hr : fn.results = #[.tmp t]) (hv : getE st.env t = .bool b) (hb : b = b') : RetPost P fn al [] (Ret (.bool b')) .ret st :=
  ret_of [.bool b] [] (by rw [hr]; exact ⟨hv, trivial⟩) ⟨hb, rfl⟩ trivial
theorem ret_int {fn : Func} {al : Bool} {t : Nat} {k : IntKind} {b b' : Int} (hr : fn.results = #[.tmp t]) (hv : getE st.env t = .int k b) (hb : b = b') : RetPost P fn al [] (Ret (.int k b')) .ret st :=
  ret_of [.int k b] [] (by rw [hr]; exact ⟨hv, trivial⟩) ⟨rfl, hb, rfl⟩ trivial
end
end
end Go.Vs
set_option linter.unusedVariables false
set_option linter.unusedSimpArgs false
namespace Go.Vs
variable {P : Program} {T : TypeId}
def tCell (P : Program) (T : TypeId) : Bool := match P.underlying T with | some (.struct _) => false | some (.array _ _) => false | some _ => true | none => false
theorem tcell (h : tCell P T = true) : TCell P T := by
  unfold tCell at h
  cases hu : P.underlying T with
  | none => rw [hu] at h; cases h
  | some ds => exact ⟨ds, hu, (fun fs e => by subst e; rw [hu] at h; cases h), (fun n e e' => by subst e'; rw [hu] at h; cases h)⟩
def tSize (P : Program) (T : TypeId) (k : Nat) : Bool := match P.info? T with | some i => Nat.beq i.size k | none => false
theorem tsize {k : Nat} (h : tSize P T k = true) : TSize P T k := by
  unfold tSize at h
  cases hu : P.info? T with
  | none => rw [hu] at h; cases h
  | some i => rw [hu] at h; exact ⟨i, hu, Nat.eq_of_beq_eq_true h⟩
def tAgg (P : Program) (T : TypeId) (k : Nat) : Bool := (match P.underlying T with | some (.struct _) => true | _ => false) && tSize P T k
theorem tagg {k : Nat} (h : tAgg P T k = true) : TAgg P T k := by
  unfold tAgg at h
  rw [Bool.and_eq_true] at h
  refine ⟨?_, tsize h.2⟩
  cases hu : P.underlying T with
  | none => rw [hu] at h; exact absurd h.1 (by simp)
  | some ds => cases ds <;> first | exact ⟨_, rfl⟩ | (rw [hu] at h; exact absurd h.1 (by simp))
def tSlice (P : Program) (T e : TypeId) (sz by_ : Nat) : Bool :=
  (match P.underlying T with | some (.slice e') => Nat.beq e' e | _ => false) && (match P.info? e with | some i => Nat.beq i.size sz && Nat.beq i.bytes by_ && (match i.zero with | some z => Nat.beq z.cells.size sz | none => false) | none => false)
theorem tslice {e : TypeId} {sz by_ : Nat} (h : tSlice P T e sz by_ = true) : TSlice P T e sz by_ := by
  unfold tSlice at h
  rw [Bool.and_eq_true] at h
  refine ⟨?_, ?_⟩
  · cases hu : P.underlying T with
    | none => rw [hu] at h; exact absurd h.1 (by simp)
    | some ds => cases ds <;> first | (rw [hu] at h; rw [Nat.eq_of_beq_eq_true h.1]; done) | (rw [hu] at h; exact absurd h.1 (by simp))
  · cases hi : P.info? e with
    | none => rw [hi] at h; exact absurd h.2 (by simp)
    | some i =>
      rw [hi] at h
      have h2 := h.2
      simp only [Bool.and_eq_true] at h2
      refine ⟨i, rfl, Nat.eq_of_beq_eq_true h2.1.1, Nat.eq_of_beq_eq_true h2.1.2, ?_⟩
      cases hz : i.zero with
      | none => rw [hz] at h2; exact absurd h2.2 (by simp)
      | some z => rw [hz] at h2; exact ⟨z, rfl, Nat.eq_of_beq_eq_true h2.2⟩
def tField (P : Program) (T : TypeId) (f off : Nat) : Bool :=
  match P.underlying T with | some (.struct fs) => (match fs[f]? with | some fd => Nat.beq fd.offset off && (match P.info? fd.type with | some i => !Nat.beq i.size 0 | none => false) | none => false) | _ => false
theorem tfield {f off : Nat} (h : tField P T f off = true) : TField P T f off := by
  unfold tField at h
  cases hu : P.underlying T with
  | none => rw [hu] at h; cases h
  | some ds =>
    cases ds <;> try (rw [hu] at h; cases h; done)
    rename_i fs
    rw [hu] at h
    cases hf : fs[f]? with
    | none => simp only [hf] at h; cases h
    | some fd =>
      simp only [hf, Bool.and_eq_true] at h
      cases hi : P.info? fd.type with
      | none => rw [hi] at h; exact absurd h.2 (by simp)
      | some i =>
        rw [hi] at h
        refine ⟨fs, fd, i, hu, hf, Nat.eq_of_beq_eq_true h.1, hi, fun e => ?_⟩
        have h2 := h.2
        simp only [e] at h2
        exact absurd h2 (by decide)
theorem tzero {cs : List PV} (z : Value) (h : (P.info? T).bind (·.zero) = some z) (hz : z.cells.toList.map ofConst = cs) : TZero P T cs := by
  cases hi : P.info? T with
  | none => rw [hi] at h; cases h
  | some i => rw [hi] at h; exact ⟨i, z, hi, h, hz.symm⟩
def tStruct (P : Program) (T : TypeId) (places : List (Nat × Nat)) : Bool :=
  match P.underlying T with
  | some (.struct fs) => Nat.beq places.length fs.size && (List.range fs.size).all fun j => match fs[j]?, places[j]? with
    | some fd, some (off, k) => Nat.beq fd.offset off && tSize P fd.type k
    | _, _ => false
  | _ => false
theorem tstruct {places : List (Nat × Nat)} {zs : List PV} (h : tStruct P T places = true) (hz : TZero P T zs) : TStruct P T places zs := by
  unfold tStruct at h
  cases hu : P.underlying T with
  | none => rw [hu] at h; cases h
  | some ds =>
    cases ds <;> try (rw [hu] at h; cases h; done)
    rename_i fs
    rw [hu] at h
    simp only [Bool.and_eq_true] at h
    refine ⟨fs, hu, Nat.eq_of_beq_eq_true h.1, fun j fd hj => ?_, hz⟩
    have hlt : j < fs.size := by
      rcases Nat.lt_or_ge j fs.size with h' | h'
      · exact h'
      · rw [Array.getElem?_eq_none h'] at hj; cases hj
    have := List.all_eq_true.1 h.2 j (List.mem_range.2 hlt)
    rw [hj] at this
    cases hp : places[j]? with
    | none => rw [hp] at this; cases this
    | some p =>
      obtain ⟨off, k⟩ := p
      rw [hp] at this
      simp only [Bool.and_eq_true] at this
      exact ⟨k, by rw [Nat.eq_of_beq_eq_true this.1], tsize this.2⟩
end Go.Vs
set_option linter.unusedVariables false
set_option linter.unusedSimpArgs false
set_option linter.unusedSectionVars false
namespace Go.Vs
section
variable [fl : Inhabited FlrT]
section
variable {P : Program} {ops : Array Oper} {draw : Bool} {rest : List Oper} {env : List (Nat × PV)} {mem : List (Id × Option Row)} {tr : List (List Id × List Id)} {K : St → List (List Id × List Id) → Prop}
  {d : Nat} {ty : TypeId} {pos : String} {af : Array Edge} {x y c : Operand} {T yT : TypeId}
def lookE : List (Nat × PV) → Nat → Option PV
  | [], _ => none
  | (k, x) :: r, t => cond (Nat.beq k t) (some x) (lookE r t)
theorem lookE_ok {v : PV} : ∀ {env : List (Nat × PV)} {t : Nat}, lookE env t = some v → getE env t = v
  | [], _, h => by cases h
  | (k, x) :: r, t, h => by
    simp only [lookE] at h
    simp only [getE]
    cases hk : Nat.beq k t with
    | true => rw [hk] at h; injection h
    | false => rw [hk] at h; exact lookE_ok h
def constO : Value → Option PV
  | .int k n => some (.int k n)
  | .bool b => some (.bool b)
  | .string s => some (.str s)
  | .slice none 0 0 => some .nil
  | _ => none
theorem constO_ok {c : Value} {v : PV} (h : constO c = some v) : ofConst c = v := by
  unfold constO at h
  split at h <;> first | (cases h; rfl) | cases h
def evO (env : List (Nat × PV)) : Operand → Option PV
  | .tmp t => lookE env t
  | .const c => constO c
  | .func g => some (.fn g [] [])
  | _ => none
theorem evO_ok {v : PV} (h : evO env x = some v) : ev (getE env) x = v := by
  cases x with
  | tmp t => exact lookE_ok h
  | const c => exact constO_ok h
  | func g => cases h; rfl
  | global _ => cases h
def cellsO : PV → Option (List PV)
  | .agg cs => some cs
  | .int k n => some [.int k n]
  | .bool b => some [.bool b]
  | .str s => some [.str s]
  | .list a b => some [.list a b]
  | .ptr a => some [.ptr a]
  | .own a b c => some [.own a b c]
  | .osl a b c => some [.osl a b c]
  | .fn a b c => some [.fn a b c]
  | .nil => some [.nil]
  | .sem p => some [.sem p]
  | _ => none
theorem cellsO_ok {v : PV} {cs : List PV} (h : cellsO v = some cs) : v.cells = cs := by
  cases v <;> first | (cases h; rfl) | cases h
theorem x_moveO (v : PV) (hv : evO env x = some v) (hk : exec P ops draw rest ⟨(d, v) :: env, mem⟩ (([], []) :: tr) K) : exec P ops draw (⟨some d, .move x, ty, pos, af, none⟩ :: rest) ⟨env, mem⟩ tr K :=
  x_move v (evO_ok hv) hk
theorem x_assignO (v : PV) (hv : evO env x = some v) (hk : exec P ops draw rest ⟨(d, v) :: env, mem⟩ (([], []) :: tr) K) : exec P ops draw (⟨some d, .assign x, ty, pos, af, none⟩ :: rest) ⟨env, mem⟩ tr K :=
  x_assign v (evO_ok hv) hk
theorem x_boxO (v : PV) (cs : List PV) (hv : evO env x = some v) (hc : cellsO v = some cs) (hok : boxOk mem d cs = true) {n : Nat} (hn : cs.length = n)
    (hk : exec P ops draw rest ⟨(d, .own (d, 0) 0 0) :: env, ((d, 0), some ⟨T, n, [cs], true⟩) :: mem⟩ ((rids cs, [(d, 0)]) :: tr) K) : exec P ops draw (⟨some d, .box T x, ty, pos, af, none⟩ :: rest) ⟨env, mem⟩ tr K := by
  subst hn
  exact x_box cs (by rw [evO_ok hv]; exact cellsO_ok hc) hok hk
theorem x_storeO {id : Id} {i off k : Nat} {T' : TypeId} {sz' : Nat} {es0 : List (List PV)} {bx' : Bool} {e : List PV} (v : PV) (cs : List PV) (e' : List PV) (h : ev (getE env) x = .own id i off) (hm : getM mem id = some (some ⟨T', sz', es0, bx'⟩)) (he : es0[i]? = some e) (hT : TSize P T k)
    (hv : evO env y = some v) (hc : cellsO v = some cs) (hl : Nat.beq cs.length k = true) (hfit : off + k ≤ e.length) (hone : (cs.all PV.one && cs.all (liveB mem) && (bx' || cs.all PV.pure1)) = true)
    (he' : e.take off ++ cs ++ e.drop (off + k) = e') {es' : List (List PV)} (hes : es0.set i e' = es')
    (hk : exec P ops draw rest ⟨env, (id, some ⟨T', sz', es', bx'⟩) :: mem⟩ ((id :: rids cs, [id]) :: tr) K) : exec P ops draw (⟨none, .store T x y, ty, pos, af, none⟩ :: rest) ⟨env, mem⟩ tr K :=
  x_store (r := ⟨T', sz', es0, bx'⟩) cs es' h hm he hT (by rw [evO_ok hv]; exact cellsO_ok hc) hl hfit hone (by rw [he']; exact hes) hk
def partsO (env : List (Nat × PV)) : List (Nat × Operand) → Option (List (Nat × PV))
  | [] => some []
  | (i, x) :: r => match evO env x, partsO env r with
    | some v, some vs => some ((i, v) :: vs)
    | _, _ => none
theorem partsO_ok : ∀ {parts : List (Nat × Operand)} {ps : List (Nat × PV)}, partsO env parts = some ps → parts.map (fun p => (p.1, ev (getE env) p.2)) = ps
  | [], ps, h => by cases h; rfl
  | (i, x) :: r, ps, h => by
    simp only [partsO] at h
    cases hx : evO env x with
    | none => rw [hx] at h; cases h
    | some v =>
      cases hr : partsO env r with
      | none => rw [hx, hr] at h; cases h
      | some vs =>
        rw [hx, hr] at h
        cases h
        rw [List.map_cons, partsO_ok hr, evO_ok hx]
theorem x_buildO {parts : List (Nat × Operand)} {places : List (Nat × Nat)} {zs : List PV} (ps : List (Nat × PV)) (cs : List PV) (hT : TStruct P T places zs) (hps : partsO env parts = some ps)
    (hone : (ps.all fun p => p.2.cells.all PV.one && p.2.cells.all (liveB mem)) = true) (hb : buildPV places zs ps = some cs)
    (hk : exec P ops draw rest ⟨(d, .agg cs) :: env, mem⟩ ((rids (ps.flatMap fun p => p.2.cells), []) :: tr) K) : exec P ops draw (⟨some d, .build T parts.toArray, ty, pos, af, none⟩ :: rest) ⟨env, mem⟩ tr K := by
  have h := partsO_ok hps
  subst h
  refine x_build cs hT ?_ hb ?_
  · rw [List.all_map] at hone
    exact hone
  · rw [List.flatMap_map] at hk
    exact hk
theorem x_pick_b {t u : Nat} {b b' : Bool} {a : Operand} (hc : lookE env t = some (.bool b)) (ht : b = true) (hv : lookE env u = some (.bool b')) (hk : exec P ops draw rest ⟨(d, .bool b') :: env, mem⟩ (([], []) :: tr) K) :
    exec P ops draw (⟨some d, .pick (.tmp t) (.tmp u) a, ty, pos, af, none⟩ :: rest) ⟨env, mem⟩ tr K := x_pick_t _ (lookE_ok hc) ht (lookE_ok hv) hk
theorem x_pick_c {t : Nat} {b b' : Bool} {a : Operand} (hc : lookE env t = some (.bool b)) (ht : b = false) (hk : exec P ops draw rest ⟨(d, .bool b') :: env, mem⟩ (([], []) :: tr) K) :
    exec P ops draw (⟨some d, .pick (.tmp t) a (.const (.bool b')), ty, pos, af, none⟩ :: rest) ⟨env, mem⟩ tr K := x_pick_f _ (lookE_ok hc) ht rfl hk
theorem x_pick_a {t : Nat} {b b' : Bool} {a : Operand} (hc : lookE env t = some (.bool b)) (ht : b = true) (hk : exec P ops draw rest ⟨(d, .bool b') :: env, mem⟩ (([], []) :: tr) K) :
    exec P ops draw (⟨some d, .pick (.tmp t) (.const (.bool b')) a, ty, pos, af, none⟩ :: rest) ⟨env, mem⟩ tr K := x_pick_t _ (lookE_ok hc) ht rfl hk
theorem x_pick_d {t u : Nat} {b b' : Bool} {a : Operand} (hc : lookE env t = some (.bool b)) (ht : b = false) (hv : lookE env u = some (.bool b')) (hk : exec P ops draw rest ⟨(d, .bool b') :: env, mem⟩ (([], []) :: tr) K) :
    exec P ops draw (⟨some d, .pick (.tmp t) a (.tmp u), ty, pos, af, none⟩ :: rest) ⟨env, mem⟩ tr K := x_pick_f _ (lookE_ok hc) ht (lookE_ok hv) hk
theorem x_gsplit {dst : Option Tmp} {op : Op} {j : Nat} {b b' : Bool} {s : Nat} (hs : (ops[j]?).bind (·.dst) = some s) (hv : lookE env s = some (.bool b'))
    (h1 : b' = b → exec P ops draw (⟨dst, op, ty, pos, af, none⟩ :: rest) ⟨env, mem⟩ tr K) (h2 : b' = (!b) → exec P ops draw rest ⟨putE env dst (.tuple []), mem⟩ (([], []) :: tr) K) :
    exec P ops draw (⟨dst, op, ty, pos, af, some (j, b)⟩ :: rest) ⟨env, mem⟩ tr K := by
  by_cases hb : b' = b
  · exact x_guard hs (lookE_ok hv) hb (h1 hb)
  · have hb' : b' = (!b) := by cases b <;> cases b' <;> simp_all
    exact x_skip (st := ⟨env, mem⟩) hs (lookE_ok hv) hb' (h2 hb')
theorem x_gyes {dst : Option Tmp} {op : Op} {j : Nat} {b b' : Bool} {s : Nat} (hs : (ops[j]?).bind (·.dst) = some s) (hv : lookE env s = some (.bool b')) (hb : b' = b)
    (h1 : exec P ops draw (⟨dst, op, ty, pos, af, none⟩ :: rest) ⟨env, mem⟩ tr K) : exec P ops draw (⟨dst, op, ty, pos, af, some (j, b)⟩ :: rest) ⟨env, mem⟩ tr K := x_guard hs (lookE_ok hv) hb h1
theorem x_gno {dst : Nat} {op : Op} {j : Nat} {b b' : Bool} {s : Nat} (hs : (ops[j]?).bind (·.dst) = some s) (hv : lookE env s = some (.bool b')) (hb : b' = !b)
    (h2 : exec P ops draw rest ⟨(dst, .tuple []) :: env, mem⟩ (([], []) :: tr) K) : exec P ops draw (⟨some dst, op, ty, pos, af, some (j, b)⟩ :: rest) ⟨env, mem⟩ tr K := x_skip (st := ⟨env, mem⟩) hs (lookE_ok hv) hb h2
theorem x_gun {dst : Nat} {op : Op} {j : Nat} {b : Bool} {s : Nat} (hs : (ops[j]?).bind (·.dst) = some s) (hv : lookE env s = some (.tuple []))
    (h2 : exec P ops draw rest ⟨(dst, .tuple []) :: env, mem⟩ (([], []) :: tr) K) : exec P ops draw (⟨some dst, op, ty, pos, af, some (j, b)⟩ :: rest) ⟨env, mem⟩ tr K := x_skip_u (st := ⟨env, mem⟩) hs (lookE_ok hv) h2
theorem g_move {dst : Option Tmp} {st : St} (h : exec P ops draw (⟨dst, .move x, ty, pos, af, none⟩ :: rest) st tr K) : exec P ops draw (⟨dst, .move x, ty, pos, af, none⟩ :: rest) st tr K := h
theorem g_assign {dst : Option Tmp} {st : St} (h : exec P ops draw (⟨dst, .assign x, ty, pos, af, none⟩ :: rest) st tr K) : exec P ops draw (⟨dst, .assign x, ty, pos, af, none⟩ :: rest) st tr K := h
theorem g_bin {dst : Option Tmp} {bo : BinOp} {st : St} (h : exec P ops draw (⟨dst, .binOp bo T x y yT, ty, pos, af, none⟩ :: rest) st tr K) : exec P ops draw (⟨dst, .binOp bo T x y yT, ty, pos, af, none⟩ :: rest) st tr K := h
theorem g_un {dst : Option Tmp} {uo : UnOp} {st : St} (h : exec P ops draw (⟨dst, .unOp uo T x, ty, pos, af, none⟩ :: rest) st tr K) : exec P ops draw (⟨dst, .unOp uo T x, ty, pos, af, none⟩ :: rest) st tr K := h
theorem g_load {dst : Option Tmp} {st : St} (h : exec P ops draw (⟨dst, .load T x, ty, pos, af, none⟩ :: rest) st tr K) : exec P ops draw (⟨dst, .load T x, ty, pos, af, none⟩ :: rest) st tr K := h
theorem g_field {dst : Option Tmp} {fi : Nat} {st : St} (h : exec P ops draw (⟨dst, .fieldAddr T x fi, ty, pos, af, none⟩ :: rest) st tr K) : exec P ops draw (⟨dst, .fieldAddr T x fi, ty, pos, af, none⟩ :: rest) st tr K := h
theorem g_index {dst : Option Tmp} {st : St} (h : exec P ops draw (⟨dst, .indexAddr T x y, ty, pos, af, none⟩ :: rest) st tr K) : exec P ops draw (⟨dst, .indexAddr T x y, ty, pos, af, none⟩ :: rest) st tr K := h
theorem g_pick {dst : Option Tmp} {st : St} (h : exec P ops draw (⟨dst, .pick c x y, ty, pos, af, none⟩ :: rest) st tr K) : exec P ops draw (⟨dst, .pick c x y, ty, pos, af, none⟩ :: rest) st tr K := h
theorem g_call {dst : Option Tmp} {cl : Call} {st : St} (h : exec P ops draw (⟨dst, .call cl, ty, pos, af, none⟩ :: rest) st tr K) : exec P ops draw (⟨dst, .call cl, ty, pos, af, none⟩ :: rest) st tr K := h
theorem g_guard {o : Op} {dst : Option Tmp} {j : Nat} {b : Bool} {st : St} (h : exec P ops draw (⟨dst, o, ty, pos, af, some (j, b)⟩ :: rest) st tr K) : exec P ops draw (⟨dst, o, ty, pos, af, some (j, b)⟩ :: rest) st tr K := h
theorem g_exec {l : List Oper} {st : St} (h : exec P ops draw l st tr K) : exec P ops draw l st tr K := h
end
section
variable {P : Program} {st : St} {Q : Exit → St → Prop} {x y z : Code}
theorem v_condt {t : Nat} {b : Bool} (hb : lookE st.env t = some (.bool b)) (h1 : b = true → vwp P x st Q) (h2 : b = false → vwp P y st Q) : vwp P (.cond (.tmp t) x y) st Q := v_cond (lookE_ok hb) h1 h2
theorem g_code (h : vwp P x st Q) : vwp P x st Q := h
theorem g_cond {c : Operand} (h : vwp P (.cond c x y) st Q) : vwp P (.cond c x y) st Q := h
theorem v_cond_y {t : Nat} {b : Bool} (hb : lookE st.env t = some (.bool b)) (ht : b = true) (h1 : vwp P x st Q) : vwp P (.cond (.tmp t) x y) st Q := v_cond (lookE_ok hb) (fun _ => h1) (fun h => by rw [ht] at h; cases h)
theorem v_cond_n {t : Nat} {b : Bool} (hb : lookE st.env t = some (.bool b)) (ht : b = false) (h1 : vwp P y st Q) : vwp P (.cond (.tmp t) x y) st Q := v_cond (lookE_ok hb) (fun h => by rw [ht] at h; cases h) (fun _ => h1)
end
section
variable {P : Program} {st : St}
theorem getSelf {es : List (List PV)} {i : Nat} {v : List PV} (h : i < es.length) : (es.set i v)[i]? = some v := List.getElem?_set_self h
theorem getNe {es : List (List PV)} {i k : Nat} {v e : List PV} (h : i ≠ k) (he : es[k]? = some e) : (es.set i v)[k]? = some e := by rw [List.getElem?_set_ne h]; exact he
theorem takeAll {es : List (List PV)} {n : Nat} (h : n = es.length) : es = (es.drop 0).take n := by rw [h, List.drop_zero, List.take_length]
theorem ret_list {fn : Func} {al : Bool} {t : Nat} {T : TypeId} {id : Id} {sz n : Nat} {es es' : List (List PV)} (hr : fn.results = #[.tmp t]) (hv : getE st.env t = .osl id 0 n) (hm : getM st.mem id = some (some ⟨T, sz, es, false⟩)) (hio : id.1 ≠ io)
    (hn : n = es.length) (hf : ∀ e ∈ es, ∀ c ∈ e, c.flat = true) (hes : es = es') : RetPost P fn al [] (Ret (.olist T sz es')) .ret st := by
  subst hes
  subst hn
  exact ret_of [.osl id 0 es.length] [some id] (by rw [hr]; exact ⟨hv, trivial⟩) ⟨rfl, hio, rfl, .inr hf, hm, rfl⟩ ⟨by simp, trivial⟩
end
end
end Go.Vs
set_option linter.unusedVariables false
set_option linter.unusedSimpArgs false
set_option linter.unusedSectionVars false
namespace Go.Vs
section
variable [fl : Inhabited FlrT]
def idEq (a b : Id) : Bool := Nat.beq a.1 b.1 && Nat.beq a.2 b.2
theorem idEq_iff {a b : Id} : idEq a b = true ↔ a = b := by
  unfold idEq
  rw [Bool.and_eq_true]
  constructor
  · rintro ⟨h1, h2⟩
    exact Prod.ext (Nat.eq_of_beq_eq_true h1) (Nat.eq_of_beq_eq_true h2)
  · rintro rfl
    exact ⟨Nat.beq_refl _, Nat.beq_refl _⟩
def oldOf : List (Id × Id) → Id → Id
  | [], id => id
  | (a, b) :: r, id => cond (idEq a id) b (oldOf r id)
def subRow (f : Id → Id) : Option Row → Option Row
  | none => none
  | some r => some ⟨r.ty, r.sz, cond r.bx (r.es.map (·.map (subD 5 f))) r.es, r.bx⟩
def injB (f : Id → Id) (l : List Id) : Bool := l.all fun a => l.all fun b => !(idEq (f a) (f b)) || idEq a b
def ioB (f : Id → Id) (l : List Id) : Bool := l.all fun a => (!Nat.beq a.1 io && !Nat.beq (f a).1 io) || idEq (f a) a
def WeakerR (f : Id → Id) (st st' : St) : Prop :=
  allL (fun p : Nat × PV => getE st.env p.1 = subD 5 f p.2 ∧ refsD 5 (st'.mem.map (·.1)) p.2 = true) st'.env ∧
  allL (fun q : Id × Option Row => getM st.mem (f q.1) = some (subRow f q.2) ∧ (match q.2 with
    | some r => r.bx = true → allL (fun e => allL (fun u => refsD 5 (st'.mem.map (·.1)) u = true) e) r.es
    | none => True)) st'.mem ∧ injB f (st'.mem.map (·.1)) = true ∧ ioB f (st'.mem.map (·.1)) = true
section
variable {G : Nat → Prop} {w0 : World} {X : List (Option (Nat × Nat))} {N : Nat}
theorem rep_sub {f : Id → Id} {ρ : Id → Option (Nat × Nat)} {w : World} {S S' : Nat → Prop} {M M' : Mem} (ids : List Id) (hS : ∀ b, S b → S' b)
    (hM : ∀ id, (ids.any fun k => Nat.beq k.1 id.1 && Nat.beq k.2 id.2) = true → ∃ x, M' id = some x ∧ M (f id) = some (subRow f x)) :
    ∀ (d : Nat) (x : PV) (v : Value), refsD d ids x = true → Rep ρ w S M v (subD d f x) → Rep (fun id => ρ (f id)) w S' M' v x
  | 0, _, _, h, _ => by cases h
  | d + 1, x, v, h, hx => by
    have comps : ∀ (xs : List PV) (cs : Array Value), xs.all (refsD d ids) = true → Comps ρ w S M cs (xs.map (subD d f)) → Comps (fun id => ρ (f id)) w S' M' cs xs := fun xs cs ha hc =>
      ⟨by rw [hc.1, List.length_map], fun j u hu => by
        obtain ⟨c, h1, h2⟩ := hc.2 j (subD d f u) (by rw [List.getElem?_map, hu]; rfl)
        exact ⟨c, h1, rep_sub ids hS hM d u c (List.all_eq_true.1 ha u (List.mem_of_getElem? hu)) h2⟩⟩
    cases x <;> simp only [refsD] at h <;> simp only [subD] at hx
    case any => exact rep_any
    case int => exact rep_int.2 (rep_int.1 hx)
    case bool => exact rep_bool.2 (rep_bool.1 hx)
    case str => exact rep_str.2 (rep_str.1 hx)
    case nil => exact rep_nil.2 (rep_nil.1 hx)
    case olist => exact absurd hx rep_olist
    case sem p => exact let ⟨h0, B, h1, h2⟩ := rep_sem.1 hx; rep_sem.2 ⟨h0, B, fun b hb => hS b (h1 b hb), h2⟩
    case clist sz es =>
      obtain ⟨hcap, hx⟩ := rep_clist.1 hx
      obtain ⟨a, cap, e, hc, hh⟩ := rep_list.1 hx
      exact rep_clist.2 ⟨hcap, rep_list.2 ⟨a, cap, e, hc, fun hne => let ⟨ad, h1, h2, h3⟩ := hh hne; ⟨ad, h1, hS _ h2, fun i el hi => ⟨(h3 i el hi).1, fun j u hu => let ⟨c, g1, g2, g3⟩ := (h3 i el hi).2 j u hu; ⟨c, g1, g2, g3.pureMono fun b hb => ⟨hS b hb, rfl⟩⟩⟩⟩⟩⟩
    case agg xs => obtain ⟨cs, rfl, hc⟩ := rep_agg.1 hx; exact rep_agg.2 ⟨cs, rfl, comps xs cs h hc⟩
    case tuple xs => obtain ⟨cs, rfl, hc⟩ := rep_tuple.1 hx; exact rep_tuple.2 ⟨cs, rfl, comps xs cs h hc⟩
    case fn g a b =>
      obtain ⟨p, q, rfl, h1, h2⟩ := rep_fn.1 hx
      rw [Bool.and_eq_true] at h
      exact rep_fn.2 ⟨p, q, rfl, comps _ _ h.1 h1, comps _ _ h.2 h2⟩
    case list sz es =>
      obtain ⟨a, cap, e, hc, hh⟩ := rep_list.1 hx
      exact rep_list.2 ⟨a, cap, e, hc, fun hne => let ⟨ad, h1, h2, h3⟩ := hh hne; ⟨ad, h1, hS _ h2, fun i el hi => ⟨(h3 i el hi).1, fun j u hu => let ⟨c, g1, g2, g3⟩ := (h3 i el hi).2 j u hu; ⟨c, g1, g2, g3.pureMono fun b hb => ⟨hS b hb, rfl⟩⟩⟩⟩⟩
    case ptr cs =>
      obtain ⟨ad, e, h1, hc⟩ := rep_ptr.1 hx
      exact rep_ptr.2 ⟨ad, e, hS _ h1, fun j u hu => let ⟨c, g1, g2, g3⟩ := hc j u hu; ⟨c, g1, g2, g3.pureMono fun b hb => ⟨hS b hb, rfl⟩⟩⟩
    case own id i off =>
      obtain ⟨x, hx1, hx2⟩ := hM id h
      intro d'
      have := hx d'
      cases d' with
      | zero => trivial
      | succ d' =>
        simp only [RepD, hx1, hx2] at this ⊢
        cases x with
        | none => trivial
        | some r => simp only [subRow] at this ⊢; cases hρ : ρ (f id) with
          | none => simp only [OwnOk, hρ] at this
          | some bz => simp only [OwnOk, hρ] at this ⊢; exact this
    case osl id o n =>
      obtain ⟨x, hx1, hx2⟩ := hM id h
      intro d'
      have := hx d'
      cases d' with
      | zero => trivial
      | succ d' =>
        simp only [RepD, hx1, hx2] at this ⊢
        cases x with
        | none => trivial
        | some r =>
          simp only [subRow] at this ⊢
          have hl : (cond r.bx (r.es.map (·.map (subD 5 f))) r.es).length = r.es.length := by cases r.bx <;> simp
          cases hρ : ρ (f id) with
          | none => simp only [OslOk, hρ] at this ⊢; exact this
          | some bz => simp only [OslOk, hρ, hl] at this ⊢; exact this
theorem WeakerR.ent {f : Id → Id} {st st' : St} (h : WeakerR f st st') : Ent st st' := by
  intro G w0 X N a w hR
  obtain ⟨ρ, hW, hdef, hs, hV⟩ := hR
  obtain ⟨hE, hM, hinj, hio⟩ := h
  have hany : ∀ id, ((st'.mem.map (·.1)).any fun k => Nat.beq k.1 id.1 && Nat.beq k.2 id.2) = true → ∃ x, st'.M id = some x ∧ st.M (f id) = some (subRow f x) := fun id hid => by
    obtain ⟨x, hx⟩ := getM_any hid
    exact ⟨x, hx, (allL_mem hM _ (getM_mem hx)).1⟩
  have hmem : ∀ {id x}, st'.M id = some x → id ∈ st'.mem.map (·.1) := fun hx => List.mem_map.2 ⟨_, getM_mem hx, rfl⟩
  have hlive : ∀ {id r}, st'.M id = some (some r) → st.M (f id) = some (subRow f (some r)) := fun hx => (allL_mem hM _ (getM_mem hx)).1
  have hfi : ∀ {a b x y}, st'.M a = some x → st'.M b = some y → f a = f b → a = b := fun {a b x y} ha hb he => by
    have h1 := List.all_eq_true.1 (List.all_eq_true.1 hinj a (hmem ha)) b (hmem hb)
    rw [Bool.or_eq_true] at h1
    rcases h1 with h1 | h1
    · rw [idEq_iff.2 he] at h1; cases h1
    · exact idEq_iff.1 h1
  have hfio : ∀ {a x}, st'.M a = some x → (a.1 ≠ io ∧ (f a).1 ≠ io) ∨ f a = a := fun {a x} ha => by
    have h1 := List.all_eq_true.1 hio a (hmem ha)
    rw [Bool.or_eq_true, Bool.and_eq_true] at h1
    rcases h1 with ⟨h1, h2⟩ | h1
    · refine .inl ⟨fun e => ?_, fun e => ?_⟩
      · rw [e] at h1; simp at h1
      · rw [e] at h2; simp at h2
    · exact .inr (idEq_iff.1 h1)
  have hS : ∀ b, Stab G ρ st.M w b → Stab G (fun id => ρ (f id)) st'.M w b := fun b hb => ⟨hb.1, fun id r z hl => hb.2.1 (f id) _ z (hlive hl), hb.2.2⟩
  refine ⟨fun id => ρ (f id), ⟨?_, ?_, ?_, hW.keep, hW.good, hW.tab.mono fun b hb => ⟨hS b hb, rfl⟩⟩, hdef, hs, fun t => ?_⟩
  · intro i1 i2 r1 r2 b z1 z2 h1 h2 k1 k2
    exact hfi h1 h2 (hW.inj _ _ _ _ b z1 z2 (hlive h1) (hlive h2) k1 k2)
  · intro id r hl
    have hr := hW.row _ _ (hlive hl)
    show RowOk G _ w _ r (ρ (f id))
    cases hb : ρ (f id) with
    | none =>
      rw [hb] at hr
      obtain ⟨h1, h2⟩ := hr
      simp only at h1 h2
      refine ⟨?_, h2⟩
      rw [h2] at h1
      exact h1
    | some bz =>
      obtain ⟨b, z⟩ := bz
      rw [hb] at hr
      obtain ⟨cur, C, g1, g2, g3, g4, g5, g6⟩ := hr
      have hlen : (cond r.bx (r.es.map (·.map (subD 5 f))) r.es).length = r.es.length := by cases r.bx <;> simp
      simp only [hlen] at g1 g2 g4 g5 g6
      refine ⟨cur, C, g1, g2, g3, g4, g5, fun i e hi => ?_⟩
      cases hbx : r.bx with
      | false =>
        simp only [hbx, cond_false] at g6
        refine ⟨(g6 i e hi).1, fun j u hu => ?_⟩
        obtain ⟨c, k1, k2, k3⟩ := (g6 i e hi).2 j u hu
        simp only [Bool.false_eq_true, if_false] at k3 ⊢
        exact ⟨c, k1, k2, k3.pureMono fun b hb => ⟨hS b hb, rfl⟩⟩
      | true =>
        simp only [hbx, cond_true] at g6
        obtain ⟨q1, q2⟩ := g6 i (e.map (subD 5 f)) (by rw [List.getElem?_map, hi]; rfl)
        refine ⟨by rw [← q1, List.length_map], fun j u hu => ?_⟩
        obtain ⟨c, k1, k2, k3⟩ := q2 j (subD 5 f u) (by rw [List.getElem?_map, hu]; rfl)
        simp only [if_true] at k3 ⊢
        have h3 := (allL_mem hM _ (getM_mem hl)).2
        simp only at h3
        exact ⟨c, k1, k2, rep_sub _ hS hany 5 u c (allL_mem (allL_mem (h3 hbx) e (List.mem_of_getElem? hi)) u (List.mem_of_getElem? hu)) k3⟩
  · intro id r hl
    have hn := hW.new _ _ (hlive hl)
    show if id.1 = io then X[id.2]? = some (ρ (f id)) else ∀ b z, ρ (f id) = some (b, z) → w0.heap.size ≤ b ∨ ∃ z', some (b, z') ∈ X
    rcases hfio hl with ⟨h1, h2⟩ | h1
    · rw [if_neg h2] at hn
      rw [if_neg h1]
      exact hn
    · rw [h1] at hn ⊢
      exact hn
  · show Rep _ w _ _ _ (getE st'.env t)
    rcases getE_mem (l := st'.env) (t := t) with he | he
    · rw [he]; exact rep_any
    · obtain ⟨h1, h2⟩ := allL_mem hE _ he
      have := hV t
      simp only at h1 h2
      rw [show st.V t = subD 5 f (getE st'.env t) from h1] at this
      exact rep_sub _ hS hany 5 _ _ h2 this
end
section
variable {P : Program} {st : St} {Q : Exit → St → Prop} {x y z : Code}
end
section
variable {P : Program} {st : St} {al : Bool} {xs ys : List PV} {u u1 : List (Option Id)}
def resO (st : St) : List ResultVar → Option (List PV)
  | [] => some []
  | .tmp t :: r => match lookE st.env t, resO st r with
    | some v, some vs => some (v :: vs)
    | _, _ => none
  | .cell t _ :: r => match lookE st.env t, resO st r with
    | some (.own id 0 0), some vs => match getM st.mem id with
      | some (some row) => match row.es[0]? with
        | some cs => some (.agg cs :: vs)
        | none => none
      | _ => none
    | _, _ => none
def cellsT (P : Program) : List ResultVar → List PV → Prop
  | .cell _ T :: r, x :: xs => TAgg P T x.cells.length ∧ cellsT P r xs
  | .tmp _ :: r, _ :: xs => cellsT P r xs
  | _, _ => True
theorem resO_ok : ∀ {rs : List ResultVar} {xs : List PV}, resO st rs = some xs → cellsT P rs xs → AllRes P st rs xs
  | [], xs, h, _ => by cases h; trivial
  | .tmp t :: r, xs, h, hc => by
    simp only [resO] at h
    cases h1 : lookE st.env t with
    | none => rw [h1] at h; cases h
    | some v =>
      cases h2 : resO st r with
      | none => rw [h1, h2] at h; cases h
      | some vs =>
        rw [h1, h2] at h
        cases h
        exact ⟨lookE_ok h1, resO_ok h2 hc⟩
  | .cell t T :: r, xs, h, hc => by
    simp only [resO] at h
    split at h
    · rename_i id vs h1 h2
      split at h
      · rename_i row h3
        split at h
        · rename_i cs h4
          cases h
          exact ⟨⟨id, row, _, lookE_ok h1, h3, h4, rfl, rfl, hc.1⟩, resO_ok h2 hc.2⟩
        · cases h
      · cases h
    · cases h
theorem et_end : ExpT al st [] [] [] := rfl
theorem et_int {k k' : IntKind} {n n' : Int} (hk : k = k') (h : n = n') (ht : ExpT al st xs ys u) : ExpT al st (.int k n :: xs) (.int k' n' :: ys) u := ⟨[], u, ⟨hk, h, rfl⟩, ht, rfl⟩
theorem et_bool {n n' : Bool} (h : n = n') (ht : ExpT al st xs ys u) : ExpT al st (.bool n :: xs) (.bool n' :: ys) u := ⟨[], u, ⟨h, rfl⟩, ht, rfl⟩
theorem et_str {n n' : ByteArray} (h : n = n') (ht : ExpT al st xs ys u) : ExpT al st (.str n :: xs) (.str n' :: ys) u := ⟨[], u, ⟨h, rfl⟩, ht, rfl⟩
theorem et_nil {T sz : Nat} {es : List (List PV)} (h : es = []) (ht : ExpT al st xs ys u) : ExpT al st (.nil :: xs) (.olist T sz es :: ys) (none :: u) := ⟨[none], u, ⟨h, rfl⟩, ht, rfl⟩
theorem et_list {id : Id} {T T' sz sz' n : Nat} {es es' : List (List PV)} (hm : getM st.mem id = some (some ⟨T, sz, es, false⟩)) (hio : id.1 ≠ io) (hT : T = T') (hz : sz = sz') (hn : n = es.length) (hf : ∀ e ∈ es, ∀ c ∈ e, c.flat = true) (hes : es = es')
    (ht : ExpT al st xs ys u) : ExpT al st (.osl id 0 n :: xs) (.olist T' sz' es' :: ys) (some id :: u) := by
  subst hT hz hes hn
  exact ⟨[some id], u, ⟨rfl, hio, rfl, .inr hf, hm, rfl⟩, ht, rfl⟩
theorem et_agg {cs ds : List PV} (h : ExpL al st cs ds u1) (ht : ExpT al st xs ys u) : ExpT al st (.agg cs :: xs) (.agg ds :: ys) (u1 ++ u) := ⟨u1, u, h, ht, rfl⟩
theorem el_end : ExpL al st [] [] [] := rfl
theorem el_int {k k' : IntKind} {n n' : Int} (hk : k = k') (h : n = n') (ht : ExpL al st xs ys u) : ExpL al st (.int k n :: xs) (.int k' n' :: ys) u := ⟨[], u, ⟨hk, h, rfl⟩, ht, rfl⟩
theorem el_bool {n n' : Bool} (h : n = n') (ht : ExpL al st xs ys u) : ExpL al st (.bool n :: xs) (.bool n' :: ys) u := ⟨[], u, ⟨h, rfl⟩, ht, rfl⟩
theorem el_str {n n' : ByteArray} (h : n = n') (ht : ExpL al st xs ys u) : ExpL al st (.str n :: xs) (.str n' :: ys) u := ⟨[], u, ⟨h, rfl⟩, ht, rfl⟩
theorem el_nil {T sz : Nat} {es : List (List PV)} (h : es = []) (ht : ExpL al st xs ys u) : ExpL al st (.nil :: xs) (.olist T sz es :: ys) (none :: u) := ⟨[none], u, ⟨h, rfl⟩, ht, rfl⟩
theorem el_list {id : Id} {T T' sz sz' n : Nat} {es es' : List (List PV)} (hm : getM st.mem id = some (some ⟨T, sz, es, false⟩)) (hio : id.1 ≠ io) (hT : T = T') (hz : sz = sz') (hn : n = es.length) (hf : ∀ e ∈ es, ∀ c ∈ e, c.flat = true) (hes : es = es')
    (ht : ExpL al st xs ys u) : ExpL al st (.osl id 0 n :: xs) (.olist T' sz' es' :: ys) (some id :: u) := by
  subst hT hz hes hn
  exact ⟨[some id], u, ⟨rfl, hio, rfl, .inr hf, hm, rfl⟩, ht, rfl⟩
theorem ret_t {fn : Func} {x y : PV} {rs : List ResultVar} (hrs : fn.results.toList = rs) (hr : resO st rs = some (x :: y :: xs)) (hc : cellsT P rs (x :: y :: xs)) (he : ExpT al st (x :: y :: xs) ys u) (ha : apartIds u) :
    RetPost P fn al [] (Ret (.tuple ys)) .ret st := ret_of (x :: y :: xs) u (by rw [hrs]; exact resO_ok hr hc) he ha
theorem ret_agg {fn : Func} {cs ds : List PV} {rs : List ResultVar} (hrs : fn.results.toList = rs) (hr : resO st rs = some [.agg cs]) (hc : cellsT P rs [.agg cs]) (he : ExpL al st cs ds u) (ha : apartIds u) : RetPost P fn al [] (Ret (.agg ds)) .ret st :=
  ret_of [.agg cs] u (by rw [hrs]; exact resO_ok hr hc) he ha
end
def rdL (f : PV → PV → List Id → Option (List Id)) : List PV → List PV → List Id → Option (List Id)
  | x :: xs, y :: ys, acc => match f x y acc with
    | some acc' => rdL f xs ys acc'
    | none => none
  | _, _, acc => some acc
def rdO (fnb : Bool) : Nat → List (Id × Option Row) → PV → PV → List Id → Option (List Id)
  | 0, _, _, _, _ => none
  | d + 1, mem, x, y, acc => match x, y with
    | .osl id _ _, .list _ _ => some (id :: acc)
    | .own id i off, .ptr cs => match getM mem id with
      | some (some r) => match r.es[i]? with
        | some e => rdL (rdO false d mem) (e.drop off) cs (id :: acc)
        | none => none
      | _ => none
    | .agg xs, .agg ys => rdL (rdO fnb d mem) xs ys acc
    | .fn _ a b, .fn _ a' b' => cond fnb (match rdL (rdO fnb d mem) a a' acc with
      | some acc' => rdL (rdO fnb d mem) b b' acc'
      | none => none) (some acc)
    | _, _ => some acc
section
variable {P : Program} {ops : Array Oper} {draw : Bool} {rest : List Oper} {env : List (Nat × PV)} {mem : List (Id × Option Row)} {tr : List (List Id × List Id)} {K : St → List (List Id × List Id) → Prop}
  {d : Nat} {ty : TypeId} {pos : String} {af : Array Edge} {x y c : Operand} {T yT : TypeId}
theorem x_callG (fnb : Bool) {f : Operand} {args : List Operand} {ats : Array TypeId} {g : FuncId} {fi ca xs ys : List PV} {r v : PV} {mem' : List (Id × Option Row)} {rd : List Id} (hC : Con P g ys r) (hf : ev (getE env) f = .fn g fi ca)
    (hxs : fi ++ args.map (ev (getE env)) ++ ca = xs) (hrd : rdL (rdO fnb 6 mem) xs ys [] = some rd) (hsnap : AllR (SnapD 6 (getM mem) [] rd) xs ys) (hfree : freeB mem d = true) (hth : thaw d r = (v, mem'))
    (hk : exec P ops draw rest ⟨(d, v) :: env, mem' ++ mem⟩ ((rd, (d, 0) :: mem'.map (·.1)) :: tr) K) : exec P ops draw (⟨some d, .call ⟨.value f, args.toArray, ats⟩, ty, pos, af, none⟩ :: rest) ⟨env, mem⟩ tr K :=
  x_call rd v hC hf hxs hsnap hfree hth hk
end
end
end Go.Vs
set_option linter.unusedVariables false
set_option linter.unusedSimpArgs false
set_option linter.unusedSectionVars false
namespace Go.Vs
section
variable [fl : Inhabited FlrT]
def keepO (env : List (Nat × PV)) : List Nat → Option (List (Nat × PV))
  | [] => some []
  | t :: r => match lookE env t, keepO env r with
    | some v, some l => some ((t, v) :: l)
    | none, some l => some l
    | _, none => none
def hasId (l : List Id) (id : Id) : Bool := match l with
  | [] => false
  | a :: r => cond (idEq a id) true (hasId r id)
def idsL (f : PV → List Id → Option (List Id)) : List PV → List Id → Option (List Id)
  | [], acc => some acc
  | x :: xs, acc => match f x acc with
    | some acc' => idsL f xs acc'
    | none => none
def idsO : Nat → List (Id × Option Row) → List Id → PV → List Id → Option (List Id)
  | 0, _, _, _, _ => none
  | d + 1, mem, no, x, acc => match x with
    | .osl id _ _ => cond (hasId no id) (some acc) (cond (hasId acc id) (some acc) (some (id :: acc)))
    | .own id _ _ => cond (hasId no id) (some acc) (cond (hasId acc id) (some acc) (match getM mem id with
      | some (some ⟨_, _, [e], true⟩) => idsL (idsO d mem no) e (id :: acc)
      | _ => some (id :: acc)))
    | .agg xs => idsL (idsO d mem no) xs acc
    | .tuple xs => idsL (idsO d mem no) xs acc
    | _ => some acc
def idsE (mem : List (Id × Option Row)) (no : List Id) : List (Nat × PV) → List Id → Option (List Id)
  | [], acc => some acc
  | (_, x) :: r, acc => match idsO 6 mem no x acc with
    | some acc' => idsE mem no r acc'
    | none => none
def rowsO (mem : List (Id × Option Row)) : List Id → Option (List (Id × Option Row))
  | [] => some []
  | id :: r => match getM mem id, rowsO mem r with
    | some (some ⟨a, b, c, e⟩), some l => some ((id, some ⟨a, b, c, e⟩) :: l)
    | some none, some l => some ((id, none) :: l)
    | _, _ => none
def keepM (mem : List (Id × Option Row)) (no : List Id) (env : List (Nat × PV)) : Option (List (Id × Option Row)) := match idsE mem no env [] with
  | some ids => rowsO mem ids
  | none => none
def appO {α : Type} : List α → List α → Option (List α)
  | [], ys => some ys
  | x :: xs, ys => match appO xs ys with
    | some r => some (x :: r)
    | none => none
def renL (f : PV → PV → List (Id × Id) → Option (List (Id × Id))) : List PV → List PV → List (Id × Id) → Option (List (Id × Id))
  | x :: xs, y :: ys, acc => match f x y acc with
    | some acc' => renL f xs ys acc'
    | none => none
  | _, _, acc => some acc
def renP : Nat → PV → PV → List (Id × Id) → Option (List (Id × Id))
  | 0, _, _, _ => none
  | d + 1, x, y, acc => match x with
    | .osl a _ _ => match y with
      | .osl b _ _ => cond (idEq a b) (some acc) (some ((a, b) :: acc))
      | _ => none
    | .own a _ _ => match y with
      | .own b _ _ => cond (idEq a b) (some acc) (some ((a, b) :: acc))
      | _ => none
    | .agg xs => match y with
      | .agg ys => renL (renP d) xs ys acc
      | _ => some acc
    | _ => some acc
def renE (env : List (Nat × PV)) : List (Nat × PV) → List (Id × Id) → Option (List (Id × Id))
  | [], acc => some acc
  | (t, .osl a _ _) :: r, acc => match lookE env t with
    | some (.osl b _ _) => cond (idEq a b) (renE env r acc) (renE env r ((a, b) :: acc))
    | _ => none
  | (t, .own a _ _) :: r, acc => match lookE env t with
    | some (.own b _ _) => cond (idEq a b) (renE env r acc) (renE env r ((a, b) :: acc))
    | _ => none
  | (_, .int _ _) :: r, acc => renE env r acc
  | (_, .bool _) :: r, acc => renE env r acc
  | (_, .str _) :: r, acc => renE env r acc
  | (_, .list _ _) :: r, acc => renE env r acc
  | (t, .agg xs) :: r, acc => match lookE env t with
    | some (.agg ys) => match renL (renP 5) xs ys acc with
      | some acc' => renE env r acc'
      | none => none
    | _ => renE env r acc
  | (_, .fn _ _ _) :: r, acc => renE env r acc
  | (_, .ptr _) :: r, acc => renE env r acc
  | (_, .nil) :: r, acc => renE env r acc
  | (_, .sem _) :: r, acc => renE env r acc
  | _ :: _, _ => none
def renM (mem : List (Id × Option Row)) : List (Id × Option Row) → List (Id × Id) → Option (List (Id × Id))
  | [], acc => some acc
  | (id, some row) :: r, acc => cond row.bx (match row.es with
      | [e] => (match getM mem (oldOf acc id) with
        | some (some row') => (match row'.es with
          | [e'] => (match renL (renP 5) e e' acc with
            | some acc' => renM mem r acc'
            | none => none)
          | _ => renM mem r acc)
        | _ => renM mem r acc)
      | _ => renM mem r acc) (renM mem r acc)
  | (_, none) :: r, acc => renM mem r acc
def renA (st : St) (full : List (Nat × PV)) (fullM : List (Id × Option Row)) : Option (List (Id × Id)) := match renE st.env full [] with
  | some acc => renM st.mem fullM acc
  | none => none
theorem refs_ptrs (d : Nat) (ids : List Id) : ∀ (l : List (List PV)), (l.map PV.ptr).all (refsD (d + 1) ids) = true
  | [] => rfl
  | _ :: l => by rw [List.map_cons, List.all_cons, refs_ptrs d ids l]; rfl
theorem refs_fn {d : Nat} {ids : List Id} {g : FuncId} {l : List (List PV)} : refsD (d + 2) ids (.fn g [] (l.map PV.ptr)) = true := by
  simp only [refsD, List.all_nil, Bool.true_and]
  exact refs_ptrs d ids l
theorem sub_ptrs (d : Nat) (f : Id → Id) : ∀ (l : List (List PV)), (l.map PV.ptr).map (subD (d + 1) f) = l.map PV.ptr
  | [] => rfl
  | _ :: l => by rw [List.map_cons, List.map_cons, sub_ptrs d f l]; rfl
theorem sub_fn {d : Nat} {f : Id → Id} {g : FuncId} {l : List (List PV)} : PV.fn g [] (l.map PV.ptr) = subD (d + 2) f (.fn g [] (l.map PV.ptr)) := by
  show _ = PV.fn g [] ((l.map PV.ptr).map (subD (d + 1) f))
  rw [sub_ptrs]
section
variable {P : Program} {st : St} {Q : Exit → St → Prop} {x y z : Code}
theorem v_loopK {α : Type} (live : List Nat) (no : List Id) (var : α → List (Nat × PV)) (memv : α → List (Id × Option Row)) (R : α → Prop) (m : α → Nat) (a0 : α)
    {kept : List (Nat × PV)} {keptM : List (Id × Option Row)} {full : α → List (Nat × PV)} {fullM : α → List (Id × Option Row)} {ren : List (Id × Id)}
    (hk : keepO st.env live = some kept) (hkm : keepM st.mem no kept = some keptM) (hf : ∀ a, appO (var a) kept = some (full a)) (hfm : ∀ a, appO (memv a) keptM = some (fullM a))
    (hren : renA st (full a0) (fullM a0) = some ren) (hw : WeakerR (oldOf ren) st ⟨full a0, fullM a0⟩) (hR : R a0)
    (h : ∀ a, R a → vwp P x ⟨full a, fullM a⟩ (loopQ (fun s => ∃ a', s = ⟨full a', fullM a'⟩ ∧ R a' ∧ m a' < m a) (fun _ => 0) 1 Q)) : vwp P (.loop x) st Q :=
  v_loopE (fun a => ⟨full a, fullM a⟩) R m a0 hw.ent hR h
theorem q_next {α : Type} {full : α → List (Nat × PV)} {fullM : α → List (Id × Option Row)} {R : α → Prop} {m : α → Nat} {n : Nat} (a : α) {ren : List (Id × Id)} (hren : renA st (full a) (fullM a) = some ren) (hw : WeakerR (oldOf ren) st ⟨full a, fullM a⟩) (hR : R a) (hm : m a < n) :
    loopQ (fun s => ∃ a', s = ⟨full a', fullM a'⟩ ∧ R a' ∧ m a' < n) (fun _ => 0) 1 Q .normal st := q_loopE (mk := fun a => ⟨full a, fullM a⟩) a hw.ent hR hm
end
end
end Go.Vs
set_option linter.unusedVariables false
set_option linter.unusedSimpArgs false
set_option linter.unusedSectionVars false
namespace Go.Vs
section
variable [fl : Inhabited FlrT]
section
variable {P : Program} {ops : Array Oper} {draw : Bool} {rest : List Oper} {env : List (Nat × PV)} {mem : List (Id × Option Row)} {tr : List (List Id × List Id)} {K : St → List (List Id × List Id) → Prop}
  {d : Nat} {ty : TypeId} {pos : String} {af : Array Edge} {x y c : Operand} {T yT : TypeId}
def cellsP : List (Nat × PV) → Option (List (List PV))
  | [] => some []
  | (_, v) :: r => match cellsO v, cellsP r with
    | some c, some l => some (c :: l)
    | _, _ => none
theorem cellsP_ok : ∀ {ps : List (Nat × PV)} {es : List (List PV)}, cellsP ps = some es → ps.map (fun p => p.2.cells) = es
  | [], es, h => by cases h; rfl
  | (i, v) :: r, es, h => by
    simp only [cellsP] at h
    cases h1 : cellsO v with
    | none => rw [h1] at h; cases h
    | some c =>
      cases h2 : cellsP r with
      | none => rw [h1, h2] at h; cases h
      | some l =>
        rw [h1, h2] at h
        cases h
        rw [List.map_cons, cellsP_ok h2, cellsO_ok h1]
theorem x_buildSliceO {parts : List (Nat × Operand)} {n e sz by_ : Nat} {ps : List (Nat × PV)} {es : List (List PV)} (hT : TSlice P T e sz by_) (hps : partsO env parts = some ps) (hes : cellsP ps = some es)
    (hok : ((match getM mem (d, 0) with | none => true | _ => false) && Nat.ble 1 sz && Nat.ble (n * sz) 16777216 && (parts.map (·.1) == List.range n) && (es.all fun c => Nat.beq c.length sz && c.all PV.pure1) && !Nat.beq d io) = true)
    (hk : exec P ops draw rest ⟨(d, .osl (d, 0) 0 n) :: env, ((d, 0), some ⟨e, sz, es, false⟩) :: mem⟩ (([], [(d, 0)]) :: tr) K) : exec P ops draw (⟨some d, .buildSlice T n parts.toArray, ty, pos, af, none⟩ :: rest) ⟨env, mem⟩ tr K := by
  refine x_buildSlice es hT ?_ hok hk
  rw [← cellsP_ok hes, ← partsO_ok hps, List.map_map]
  rfl
theorem x_buildSliceL {parts : List (Nat × Operand)} {n e sz by_ : Nat} {ps : List (Nat × PV)} {es : List (List PV)} (hT : TSlice P T e sz by_) (hps : partsO env parts = some ps) (hes : cellsP ps = some es)
    (hok : ((match getM mem (d, 0) with | none => true | _ => false) && Nat.ble 1 sz && Nat.ble (n * sz) 16777216 && (parts.map (·.1) == List.range n) && (es.all fun c => Nat.beq c.length sz && c.all PV.pure1) && !Nat.beq d io) = true)
    (hk : exec P ops draw rest ⟨(d, .list sz es) :: env, ((d, 0), none) :: mem⟩ (([], [(d, 0)]) :: tr) K) : exec P ops draw (⟨some d, .buildSlice T n parts.toArray, ty, pos, af, none⟩ :: rest) ⟨env, mem⟩ tr K := by
  refine x_buildSliceLe es hT ?_ hok hk
  rw [← cellsP_ok hes, ← partsO_ok hps, List.map_map]
  rfl
theorem lookM {id : Id} {T' sz' : Nat} {es : List (List PV)} {bx : Bool} (h : getM mem id = some (some ⟨T', sz', es, bx⟩)) : getM mem id = some (some ⟨T', sz', es, bx⟩) := h
theorem x_appOO {e sz by_ o n o2 m t2 z2 t1 z1 : Nat} {id id2 : Id} {es1 es2 : List (List PV)} (es' news : List (List PV)) (hT : TSlice P T e sz by_) (hs : evO env x = some (.osl id o n)) (hm : getM mem id = some (some ⟨t1, z1, es1, false⟩)) (hx : evO env y = some (.osl id2 o2 m))
    (hm2 : getM mem id2 = some (some ⟨t2, z2, es2, false⟩)) (hz2 : z2 = sz) (hnews : (es2.drop o2).take m = news)
    (hr : t1 = e ∧ z1 = sz ∧ id.1 ≠ io ∧ 0 < sz) (hon : es1.length = o + n) (hb : n + news.length ≤ 1099511627776 ∧ by_ ≤ 100) (hn : newB mem d = true) (hes : es1.drop o ++ news = es') {n' : Nat} (hn' : n + news.length = n')
    (hk : exec P ops draw rest ⟨(d, .osl (d, 0) 0 n') :: env, ((d, 0), some ⟨e, sz, es', false⟩) :: (id, none) :: mem⟩ (([id, id2], [(d, 0), id]) :: tr) K) :
    exec P ops draw (⟨some d, .call ⟨.builtin .append, #[x, y], #[T, T]⟩, ty, pos, af, none⟩ :: rest) ⟨env, mem⟩ tr K :=
  x_app_oo es' news hT (evO_ok hs) hm (evO_ok hx) hm2 ⟨rfl, hz2⟩ hnews ⟨rfl, hr.1, hr.2.1, hr.2.2.1, hr.2.2.2⟩ hon hb hn hes hn' hk
theorem x_appNO {e sz by_ o2 m t2 z2 : Nat} {id2 : Id} {es2 : List (List PV)} (news : List (List PV)) (hT : TSlice P T e sz by_) (hs : evO env x = some .nil) (hx : evO env y = some (.osl id2 o2 m))
    (hm2 : getM mem id2 = some (some ⟨t2, z2, es2, false⟩)) (hz2 : z2 = sz ∧ 0 < sz) (hnews : (es2.drop o2).take m = news)
    (hb : news.length ≤ 1099511627776 ∧ by_ ≤ 100) (hn : newB mem d = true) {n' : Nat} (hn' : news.length = n')
    (hk : exec P ops draw rest ⟨(d, .osl (d, 0) 0 n') :: env, ((d, 0), some ⟨e, sz, news, false⟩) :: mem⟩ (([id2], [(d, 0)]) :: tr) K) :
    exec P ops draw (⟨some d, .call ⟨.builtin .append, #[x, y], #[T, T]⟩, ty, pos, af, none⟩ :: rest) ⟨env, mem⟩ tr K :=
  x_app_no news hT (evO_ok hs) (evO_ok hx) hm2 ⟨rfl, hz2.1, hz2.2⟩ hnews hb hn hn' hk
def boundO (env : List (Nat × PV)) (dflt : Int) : Option Operand → Option Int
  | none => some dflt
  | some x => match evO env x with
    | some (.int _ m) => some m
    | _ => none
theorem boundO_ok {dflt : Nat} {o : Option Operand} {m : Int} (h : boundO env dflt o = some m) (h0 : 0 ≤ m) : bound (getE env) o dflt m.toNat := by
  cases o with
  | none => simp only [boundO, Option.some.injEq] at h; subst h; simp [bound]
  | some x =>
    simp only [boundO] at h
    cases hx : evO env x with
    | none => rw [hx] at h; cases h
    | some v =>
      rw [hx] at h
      cases v <;> simp only [Option.some.injEq] at h <;> try cases h
      rename_i k
      exact ⟨k, by rw [evO_ok hx]; congr 1; omega⟩
theorem x_sliceL {e sz by_ : Nat} {es : List (List PV)} {lo hi : Option Operand} {l h : Int} (es' : List (List PV)) (hT : TSlice P T e sz by_) (hx : evO env x = some (.list sz es)) (hl : boundO env (0 : Nat) lo = some l) (hh : boundO env (es.length : Nat) hi = some h)
    (hb : 0 ≤ l ∧ l ≤ h ∧ h ≤ es.length) (hes : (es.take h.toNat).drop l.toNat = es') (hk : exec P ops draw rest ⟨(d, .list sz es') :: env, mem⟩ (([], []) :: tr) K) : exec P ops draw (⟨some d, .slice T x lo hi none, ty, pos, af, none⟩ :: rest) ⟨env, mem⟩ tr K :=
  x_slice_l es' hT (evO_ok hx) (boundO_ok hl hb.1) (boundO_ok hh (by omega)) ⟨by omega, by omega⟩ hes hk
theorem x_sliceO {e sz by_ o n t1 z1 : Nat} {id : Id} {es1 : List (List PV)} {bx : Bool} {lo hi : Option Operand} {l h : Int} (o' n' : Nat) (hT : TSlice P T e sz by_) (hx : evO env x = some (.osl id o n)) (hm : getM mem id = some (some ⟨t1, z1, es1, bx⟩)) (hz : z1 = sz)
    (hl : boundO env (0 : Nat) lo = some l) (hh : boundO env (n : Nat) hi = some h) (hb : 0 ≤ l ∧ l ≤ h ∧ h ≤ n) (ho : o + l.toNat = o') (hn : h.toNat - l.toNat = n') (hk : exec P ops draw rest ⟨(d, .osl id o' n') :: env, mem⟩ (([id], []) :: tr) K) :
    exec P ops draw (⟨some d, .slice T x lo hi none, ty, pos, af, none⟩ :: rest) ⟨env, mem⟩ tr K :=
  x_slice_o o' n' hT (evO_ok hx) hm hz (boundO_ok hl hb.1) (boundO_ok hh (by omega)) ⟨by omega, by omega⟩ ho hn hk
theorem x_sliceS {s s' : ByteArray} {lo hi : Option Operand} {l h : Int} (hT : P.underlying T = some .string) (hx : evO env x = some (.str s)) (hl : boundO env (0 : Nat) lo = some l) (hh : boundO env (s.size : Nat) hi = some h)
    (hb : 0 ≤ l ∧ l ≤ h ∧ h ≤ s.size) (hs : s.extract l.toNat h.toNat = s') (hk : exec P ops draw rest ⟨(d, .str s') :: env, mem⟩ (([], []) :: tr) K) : exec P ops draw (⟨some d, .slice T x lo hi none, ty, pos, af, none⟩ :: rest) ⟨env, mem⟩ tr K := by
  subst hs
  exact x_slice_s hT (evO_ok hx) (boundO_ok hl hb.1) (boundO_ok hh (by omega)) ⟨by omega, by omega⟩ hk
theorem g_slice {dst : Option Tmp} {lo hi : Option Operand} {st : St} (h : exec P ops draw (⟨dst, .slice T x lo hi none, ty, pos, af, none⟩ :: rest) st tr K) : exec P ops draw (⟨dst, .slice T x lo hi none, ty, pos, af, none⟩ :: rest) st tr K := h
end
def uO : List PV → Option (List (Option Id))
  | [] => some []
  | .osl id _ _ :: r => match uO r with
    | some l => some (some id :: l)
    | none => none
  | .nil :: r => match uO r with
    | some l => some (none :: l)
    | none => none
  | _ :: r => uO r
def uT : List PV → Option (List (Option Id))
  | [] => some []
  | .agg cs :: r => match uO cs, uT r with
    | some a, some b => appO a b
    | _, _ => none
  | .osl id _ _ :: r => match uT r with
    | some l => some (some id :: l)
    | none => none
  | .nil :: r => match uT r with
    | some l => some (none :: l)
    | none => none
  | _ :: r => uT r
section
variable {P : Program} {st : St} {al : Bool} {xs ys : List PV} {u u1 : List (Option Id)}
theorem ret_T {fn : Func} {x y : PV} {rs : List ResultVar} (hrs : fn.results.toList = rs) (hr : resO st rs = some (x :: y :: xs)) (hu : uT (x :: y :: xs) = some u) (hc : cellsT P rs (x :: y :: xs)) (ha : apartIds u) (he : ExpT al st (x :: y :: xs) ys u) :
    RetPost P fn al [] (Ret (.tuple ys)) .ret st := ret_t hrs hr hc he ha
theorem ret_A {fn : Func} {cs ds : List PV} {rs : List ResultVar} (hrs : fn.results.toList = rs) (hr : resO st rs = some [.agg cs]) (hu : uO cs = some u) (hc : cellsT P rs [.agg cs]) (ha : apartIds u) (he : ExpL al st cs ds u) : RetPost P fn al [] (Ret (.agg ds)) .ret st :=
  ret_agg hrs hr hc he ha
end
end
end Go.Vs
namespace Go.Vs
section
variable [fl : Inhabited FlrT]
theorem sx : (∀ (p : Prop) [Decidable p], (decide p = true) = p) ∧ (∀ (p : Prop) [Decidable p], (decide p = false) = ¬p) ∧ (∀ (α : Type) [BEq α] [LawfulBEq α] (a b : α), (a == b) = true ↔ a = b) ∧
    (∀ (α : Type) [BEq α] [LawfulBEq α] (a b : α), (a != b) = true ↔ a ≠ b) ∧ (∀ (α : Type) (a b : α), (a ≠ b) = ¬(a = b)) ∧ (∀ b : Bool, ((!b) = true) = (b = false)) ∧ (∀ (α : Type) [BEq α] [LawfulBEq α] (a b : α), (a == b) = false ↔ a ≠ b) ∧
    (∀ (α : Type) [BEq α] [LawfulBEq α] (a b : α), (a != b) = false ↔ a = b) ∧ (∀ b : Bool, ((!b) = false) = (b = true)) ∧ (∀ a b : Bool, ((a && b) = true) = (a = true ∧ b = true)) ∧ (∀ a b : Bool, ((a || b) = true) = (a = true ∨ b = true)) ∧
    (∀ a b : Bool, (a && b) = false ↔ a = false ∨ b = false) ∧ (∀ a b : Bool, (a || b) = false ↔ a = false ∧ b = false) ∧ ((!true) = false) ∧ ((!false) = true) ∧ ((true = false) = False) ∧ ((false = true) = False) ∧
    (∀ (p : Prop) [Decidable p], (¬¬p) ↔ p) := by
  refine ⟨?_, ?_, ?_, ?_, ?_, ?_, ?_, ?_, ?_, ?_, ?_, ?_, ?_, rfl, rfl, ?_, ?_, ?_⟩
  · intro p _; exact decide_eq_true_eq
  · intro p _; exact propext decide_eq_false_iff_not
  · intro α _ _ a b; exact beq_iff_eq
  · intro α _ _ a b; exact bne_iff_ne
  · intro α a b; rfl
  · intro b; cases b <;> simp
  · intro α _ _ a b; exact beq_eq_false_iff_ne
  · intro α _ _ a b; exact bne_eq_false_iff_eq
  · intro b; cases b <;> simp
  · intro a b; exact Bool.and_eq_true a b
  · intro a b; exact Bool.or_eq_true a b
  · intro a b; exact Bool.and_eq_false_iff
  · intro a b; exact Bool.or_eq_false_iff
  · simp
  · simp
  · intro p _; exact Decidable.not_not
theorem lx : (∀ m n : Nat, Nat.add m n = m + n) ∧ (∀ n : Nat, 0 + n = n) ∧ (∀ n : Nat, n + 0 = n) ∧ (∀ (α : Type) (i : Nat) (a : α) (l : List α), (a :: l).take (i + 1) = a :: l.take i) ∧ (∀ (α : Type) (i : Nat) (a : α) (l : List α), (a :: l).drop (i + 1) = l.drop i) ∧
    (∀ (α : Type) (l : List α), l.take 0 = []) ∧ (∀ (α : Type) (l : List α), l.drop 0 = l) ∧ (∀ (α : Type) (i : Nat), ([] : List α).take i = []) ∧ (∀ (α : Type) (i : Nat), ([] : List α).drop i = []) ∧ (∀ (α : Type) (a : α) (l m : List α), (a :: l) ++ m = a :: (l ++ m)) ∧
    (∀ (α : Type) (l : List α), [] ++ l = l) ∧ (∀ (α : Type) (l : List α), l ++ [] = l) ∧ (∀ (α : Type) (a b : α) (l : List α), (a :: l).set 0 b = b :: l) ∧ (∀ (α : Type) (i : Nat) (a b : α) (l : List α), (a :: l).set (i + 1) b = a :: l.set i b) ∧
    (∀ (α : Type) (i : Nat) (a b : α) (l : List α), (l.set i a).set i b = l.set i b) := by
  refine ⟨fun _ _ => rfl, fun n => Nat.zero_add n, fun _ => rfl, fun _ _ _ _ => rfl, fun _ _ _ _ => rfl, fun _ _ => rfl, fun _ _ => rfl, fun _ _ => List.take_nil, fun _ _ => List.drop_nil, fun _ _ _ _ => rfl, fun _ _ => rfl, fun _ l => List.append_nil l, fun _ _ _ _ => rfl, fun _ _ _ _ _ => rfl, fun _ _ _ _ _ => by simp⟩
section
variable {mem : List (Id × Option Row)} {ids rd : List Id} {d : Nat} {id : Id}
theorem sn_all {n T sz : Nat} {es : List (List PV)} (h : hasId rd id = true) (hm : getM mem id = some (some ⟨T, sz, es, false⟩)) (hn : n = es.length) : SnapD (d + 1) (getM mem) ids rd (.osl id 0 n) (.list sz es) :=
  ⟨by
    clear hm hn
    induction rd with
    | nil => cases h
    | cons a r ih =>
      simp only [hasId] at h
      cases he : idEq a id with
      | true => rw [idEq_iff.1 he]; exact List.mem_cons_self
      | false => rw [he] at h; exact List.mem_cons_of_mem _ (ih h), _, hm, rfl, rfl, takeAll hn⟩
theorem has_mem : ∀ {rd : List Id}, hasId rd id = true → id ∈ rd
  | a :: r, h => by
    simp only [hasId] at h
    cases he : idEq a id with
    | true => rw [idEq_iff.1 he]; exact List.mem_cons_self
    | false => rw [he] at h; exact List.mem_cons_of_mem _ (has_mem h)
theorem sn_part {o n T sz : Nat} {es es' : List (List PV)} (h : hasId rd id = true) (hm : getM mem id = some (some ⟨T, sz, es, false⟩)) (hn : es' = (es.drop o).take n) : SnapD (d + 1) (getM mem) ids rd (.osl id o n) (.list sz es') :=
  ⟨has_mem h, _, hm, rfl, rfl, hn⟩
theorem sn_own {i off T sz : Nat} {bx : Bool} {es : List (List PV)} {e cs : List PV} (h : hasId rd id = true) (hm : getM mem id = some (some ⟨T, sz, es, bx⟩)) (he : es[i]? = some e) (hs : AllR (SnapD d (getM mem) [] rd) (e.drop off) cs) : SnapD (d + 1) (getM mem) ids rd (.own id i off) (.ptr cs) :=
  ⟨has_mem h, _, _, hm, he, hs⟩
end
end
end Go.Vs
set_option linter.unusedVariables false
set_option linter.unusedSimpArgs false
set_option linter.unusedSectionVars false
namespace Go.Vs
section
variable [fl : Inhabited FlrT]
section
variable {P : Program} {ops : Array Oper} {draw : Bool} {rest : List Oper} {env : List (Nat × PV)} {mem : List (Id × Option Row)} {tr : List (List Id × List Id)} {K : St → List (List Id × List Id) → Prop}
  {d : Nat} {ty : TypeId} {pos : String} {af : Array Edge} {x y c : Operand} {T yT : TypeId}
def nodupB : List Id → Bool
  | [] => true
  | a :: r => !(hasId r a) && nodupB r
theorem hasId_iff {l : List Id} {id : Id} : hasId l id = true ↔ id ∈ l := by
  induction l with
  | nil => simp [hasId]
  | cons a r ih =>
    simp only [hasId, List.mem_cons]
    cases h : idEq a id with
    | true => rw [idEq_iff] at h; simp [h]
    | false =>
      simp only [cond_false, ih]
      constructor
      · exact .inr
      · rintro (rfl | h2)
        · rw [idEq_iff.2 rfl] at h; cases h
        · exact h2
theorem nodupB_ok : ∀ {l : List Id}, nodupB l = true → l.Nodup
  | [], _ => List.nodup_nil
  | a :: r, h => by
    simp only [nodupB, Bool.and_eq_true, Bool.not_eq_true'] at h
    refine List.nodup_cons.2 ⟨fun hm => ?_, nodupB_ok h.2⟩
    rw [hasId_iff.2 hm] at h
    cases h.1
def ConA (P : Program) (g : FuncId) (ys : List PV) (r : PV) : Prop := ContractP P g true ys [] (Ret r)
theorem Con.a {g : FuncId} {ys : List PV} {r : PV} (h : Con P g ys r) : ConA P g ys r := h true
theorem x_callA {f : Operand} {args : List Operand} {ats : Array TypeId} {g : FuncId} {fi ca xs ys : List PV} {r v : PV} {rd : List Id} {mem' : List (Id × Option Row)} (fnb : Bool) (hC : ConA P g ys r) (hf : ev (getE env) f = .fn g fi ca)
    (hxs : fi ++ args.map (ev (getE env)) ++ ca = xs) (hrd : rdL (rdO fnb 6 mem) xs ys [] = some rd) (hnd : nodupB rd = true) (hlive : (rd.all fun id => !Nat.beq id.1 io && (match getM mem id with | some (some _) => true | _ => false)) = true)
    (hsnap : AllR (SnapD 6 (getM mem) [] rd) xs ys) (hfree : freeB mem d = true) (hth : thaw d r = (v, mem'))
    (hk : exec P ops draw rest ⟨(d, v) :: env, mem' ++ (rd.map fun id : Id => (id, (none : Option Row))) ++ mem⟩ ((rd, (d, 0) :: (mem' ++ (rd.map fun id : Id => (id, (none : Option Row)))).map (·.1)) :: tr) K) : exec P ops draw (⟨some d, .call ⟨.value f, args.toArray, ats⟩, ty, pos, af, none⟩ :: rest) ⟨env, mem⟩ tr K := by
  refine x_callIO (ios := []) (fin := []) [] rd v (r := r) ?_ hf hxs hsnap hfree rfl List.nodup_nil (fun k id row h => by simp at h) (fun id _ h => by simp at h) ⟨fun id hid => ?_, nodupB_ok hnd⟩ (by rw [hth]) ?_ hk
  · exact hC
  · have := List.all_eq_true.1 hlive id hid
    rw [Bool.and_eq_true] at this
    refine ⟨fun e => by rw [e] at this; simp at this, ?_⟩
    have h2 := this.2
    split at h2
    · exact ⟨_, by assumption⟩
    · cases h2
  · simp [callUps, hth, frzUps, ioUps]
end
end
end Go.Vs
set_option linter.unusedVariables false
set_option linter.unusedSimpArgs false
namespace Go.Vs
section
variable {P : Program} {st : St}
end
end Go.Vs
set_option linter.unusedVariables false
set_option linter.unusedSimpArgs false
set_option linter.unusedSectionVars false
namespace Go.Vs
section
variable [fl : Inhabited FlrT]
section
variable {P : Program} {ops : Array Oper} {draw : Bool} {rest : List Oper} {env : List (Nat × PV)} {mem : List (Id × Option Row)} {tr : List (List Id × List Id)} {K : St → List (List Id × List Id) → Prop}
  {d : Nat} {ty : TypeId} {pos : String} {af : Array Edge} {x y c : Operand} {T yT : TypeId}
theorem tdiv_bound {m n : Int} (h : -9223372036854775808 < m ∧ m ≤ 9223372036854775807) : -9223372036854775808 ≤ m.tdiv n ∧ m.tdiv n ≤ 9223372036854775807 := by
  have := Int.natAbs_tdiv_le_natAbs m n
  omega
theorem x_quoT {m n : Int} (hx : ev (getE env) x = .int .i64 m) (hy : ev (getE env) y = .int .i64 n) (hb : n ≠ 0 ∧ -9223372036854775808 < m ∧ m ≤ 9223372036854775807)
    (hk : exec P ops draw rest ⟨(d, .int .i64 (m.tdiv n)) :: env, mem⟩ (([], []) :: tr) K) : exec P ops draw (⟨some d, .binOp .quo T x y yT, ty, pos, af, none⟩ :: rest) ⟨env, mem⟩ tr K :=
  x_bin _ hx hy (by
    simp only [intBin, if_neg hb.1]
    rw [wrap_in (tdiv_bound hb.2)]) hk
theorem x_remT {m n : Int} (hx : ev (getE env) x = .int .i64 m) (hy : ev (getE env) y = .int .i64 n) (hb : n ≠ 0)
    (hk : exec P ops draw rest ⟨(d, .int .i64 (m.tmod n)) :: env, mem⟩ (([], []) :: tr) K) : exec P ops draw (⟨some d, .binOp .rem T x y yT, ty, pos, af, none⟩ :: rest) ⟨env, mem⟩ tr K :=
  x_bin _ hx hy (by simp only [intBin, if_neg hb]) hk
end
section
variable {P : Program} {st : St}
end
end
end Go.Vs
set_option linter.unusedVariables false
set_option linter.unusedSimpArgs false
set_option linter.unusedSectionVars false
namespace Go.Vs
section
variable [fl : Inhabited FlrT]
def frz1 : PV → PV
  | .olist _ sz es => .list sz es
  | x => x
def frz2 : PV → PV
  | .agg cs => .agg (cs.map frz1)
  | x => frz1 x
def frz : PV → PV
  | .tuple vs => .tuple (vs.map frz2)
  | x => frz2 x
def clean1 : PV → Bool
  | .own _ _ _ | .osl _ _ _ | .agg _ | .tuple _ | .fn _ _ _ | .clist _ _ | .sem _ => false
  | _ => true
def clean2 : PV → Bool
  | .agg cs => cs.all clean1
  | x => clean1 x
def clean : PV → Bool
  | .tuple vs => vs.all clean2
  | x => clean2 x
theorem thawL_frz (t : Nat) : ∀ (xs : List PV) (k : Nat), thawL t k (xs.map frz1) = (k, xs.map frz1, [])
  | [], k => rfl
  | x :: r, k => by
    have h := thawL_frz t r k
    cases x <;> simp only [List.map_cons, frz1, thawL, h]
theorem thaw1_frz (t k : Nat) (x : PV) : thaw1 t k (frz2 x) = (k, frz2 x, []) := by
  cases x <;> simp only [frz2, frz1, thaw1, thawL_frz]
theorem thawT_frz (t : Nat) : ∀ (xs : List PV) (k : Nat), thawT t k (xs.map frz2) = (k, xs.map frz2, [])
  | [], k => rfl
  | x :: r, k => by
    simp only [List.map_cons, thawT, thaw1_frz, thawT_frz t r k, List.nil_append]
theorem thaw_frz (t : Nat) (x : PV) : thaw t (frz x) = (frz x, []) := by
  have h : ∀ y : PV, (∀ vs, frz2 y ≠ .tuple vs) → thaw t (frz2 y) = (frz2 y, []) := by
    intro y hy
    have h1 := thaw1_frz t 0 y
    unfold thaw
    split
    · rename_i vs he; exact absurd he (hy vs)
    · simp only [h1]
  cases x with
  | tuple vs => simp only [frz, thaw, thawT_frz]
  | agg cs => exact h (.agg cs) (fun vs => by simp [frz2])
  | olist ty sz es => exact h (.olist ty sz es) (fun vs => by simp [frz2, frz1])
  | any => exact h .any (fun vs => by simp [frz2, frz1])
  | int k n => exact h (.int k n) (fun vs => by simp [frz2, frz1])
  | bool b => exact h (.bool b) (fun vs => by simp [frz2, frz1])
  | str s => exact h (.str s) (fun vs => by simp [frz2, frz1])
  | nil => exact h .nil (fun vs => by simp [frz2, frz1])
  | fn f a b => exact h (.fn f a b) (fun vs => by simp [frz2, frz1])
  | list sz es => exact h (.list sz es) (fun vs => by simp [frz2, frz1])
  | ptr cs => exact h (.ptr cs) (fun vs => by simp [frz2, frz1])
  | own id i off => exact h (.own id i off) (fun vs => by simp [frz2, frz1])
  | osl id o n => exact h (.osl id o n) (fun vs => by simp [frz2, frz1])
  | clist sz es => exact h (.clist sz es) (fun vs => by simp [frz2, frz1])
  | sem p => exact h (.sem p) (fun vs => by simp [frz2, frz1])
theorem thawL_keys (t : Nat) : ∀ (xs : List PV) (k : Nat), k ≤ (thawL t k xs).1 ∧ (∀ p ∈ (thawL t k xs).2.2, k ≤ p.1.2 ∧ p.1.2 < (thawL t k xs).1) ∧ ((thawL t k xs).2.2.map (·.1)).Nodup
  | [], k => ⟨Nat.le_refl _, by simp [thawL], by simp [thawL]⟩
  | x :: r, k => by
    have h := thawL_keys t r k
    have h1 := thawL_keys t r (k + 1)
    cases x <;> simp only [thawL] <;> first
      | exact h
      | (refine ⟨by omega, fun p hp => ?_, ?_⟩
         · rcases List.mem_cons.1 hp with rfl | hp
           · exact ⟨Nat.le_refl _, h1.1⟩
           · have := h1.2.1 p hp; omega
         · rw [List.map_cons, List.nodup_cons]
           refine ⟨fun hm => ?_, h1.2.2⟩
           obtain ⟨p, hp, e⟩ := List.mem_map.1 hm
           have := (h1.2.1 p hp).1
           rw [e] at this
           simp only at this
           omega)
theorem thaw1_keys (t k : Nat) (x : PV) : k ≤ (thaw1 t k x).1 ∧ (∀ p ∈ (thaw1 t k x).2.2, k ≤ p.1.2 ∧ p.1.2 < (thaw1 t k x).1) ∧ ((thaw1 t k x).2.2.map (·.1)).Nodup := by
  cases x <;> simp only [thaw1] <;> first
    | exact thawL_keys t _ k
    | (refine ⟨by omega, fun p hp => ?_, by simp⟩
       simp only [List.mem_cons, List.not_mem_nil, or_false] at hp
       subst hp
       exact ⟨Nat.le_refl _, Nat.lt_succ_self _⟩)
    | exact ⟨Nat.le_refl _, fun p hp => by simp at hp, by simp⟩
theorem thawT_keys (t : Nat) : ∀ (xs : List PV) (k : Nat), k ≤ (thawT t k xs).1 ∧ (∀ p ∈ (thawT t k xs).2.2, k ≤ p.1.2 ∧ p.1.2 < (thawT t k xs).1) ∧ ((thawT t k xs).2.2.map (·.1)).Nodup
  | [], k => ⟨Nat.le_refl _, by simp [thawT], by simp [thawT]⟩
  | x :: r, k => by
    have h1 := thaw1_keys t k x
    have h2 := thawT_keys t r (thaw1 t k x).1
    simp only [thawT]
    refine ⟨by omega, fun p hp => ?_, ?_⟩
    · rcases List.mem_append.1 hp with hp | hp
      · have := h1.2.1 p hp; omega
      · have := h2.2.1 p hp; omega
    · rw [List.map_append, List.nodup_append]
      refine ⟨h1.2.2, h2.2.2, fun a ha b hb e => ?_⟩
      obtain ⟨p, hp, rfl⟩ := List.mem_map.1 ha
      obtain ⟨q, hq, rfl⟩ := List.mem_map.1 hb
      have g1 := h1.2.1 p hp
      have g2 := h2.2.1 q hq
      rw [e] at g1
      omega
theorem looks_upds : ∀ (l : List (Id × Option Row)), (l.map (·.1)).Nodup → ∀ p ∈ l, noMem.upds l p.1 = some p.2
  | [], _, p, hp => by simp at hp
  | q :: l, hn, p, hp => by
    rw [List.map_cons, List.nodup_cons] at hn
    simp only [Mem.upds, Mem.set]
    rcases List.mem_cons.1 hp with rfl | hp
    · simp
    · rw [if_neg (fun e => hn.1 (by rw [← e]; exact List.mem_map_of_mem hp))]
      exact looks_upds l hn.2 p hp
theorem thawL_at (t : Nat) : ∀ (xs : List PV) (k : Nat), (thawL t k xs).2.1.length = xs.length ∧ ∀ (j : Nat) x, xs[j]? = some x → ∃ y, (thawL t k xs).2.1[j]? = some y ∧
    ((∃ ty sz es k', x = .olist ty sz es ∧ y = .osl (t, k') 0 es.length ∧ ((t, k'), some ⟨ty, sz, es, false⟩) ∈ (thawL t k xs).2.2) ∨ (y = x ∧ frz1 x = x))
  | [], k => ⟨rfl, fun j x h => by simp at h⟩
  | z :: r, k => by
    have h0 := thawL_at t r k
    have h1 := thawL_at t r (k + 1)
    cases z <;> simp only [thawL] <;> first
      | (refine ⟨by simp [h0.1], fun j x hx => ?_⟩
         cases j with
         | zero => simp at hx; subst hx; exact ⟨_, rfl, .inr ⟨rfl, rfl⟩⟩
         | succ j => exact h0.2 j x (by simpa using hx))
      | (refine ⟨by simp [h1.1], fun j x hx => ?_⟩
         cases j with
         | zero => simp at hx; subst hx; exact ⟨_, rfl, .inl ⟨_, _, _, _, rfl, rfl, by simp⟩⟩
         | succ j =>
           obtain ⟨y, g1, g2⟩ := h1.2 j x (by simpa using hx)
           refine ⟨y, by simpa using g1, ?_⟩
           rcases g2 with ⟨ty, sz, es, k', e1, e2, e3⟩ | g2
           · exact .inl ⟨ty, sz, es, k', e1, e2, by simp [e3]⟩
           · exact .inr g2)
theorem thawT_at (t : Nat) : ∀ (xs : List PV) (k : Nat), (thawT t k xs).2.1.length = xs.length ∧ ∀ (j : Nat) x, xs[j]? = some x → ∃ k', (thawT t k xs).2.1[j]? = some (thaw1 t k' x).2.1 ∧ ∀ p ∈ (thaw1 t k' x).2.2, p ∈ (thawT t k xs).2.2
  | [], k => ⟨rfl, fun j x h => by simp at h⟩
  | z :: r, k => by
    have h1 := thawT_at t r (thaw1 t k z).1
    simp only [thawT]
    refine ⟨by simp [h1.1], fun j x hx => ?_⟩
    cases j with
    | zero => simp at hx; subst hx; exact ⟨k, rfl, fun p hp => List.mem_append_left _ hp⟩
    | succ j =>
      obtain ⟨k', g1, g2⟩ := h1.2 j x (by simpa using hx)
      exact ⟨k', by simpa using g1, fun p hp => List.mem_append_right _ (g2 p hp)⟩
section
variable {P : Program} {G : Nat → Prop} {ρ : Id → Option (Nat × Nat)} {w0 w : World} {X : List (Option (Nat × Nat))} {M M' : Mem} {v : Value}
theorem osl_given (hW : WRel G ρ w0 X M w) {id : Id} {ty : TypeId} {sz : Nat} {es : List (List PV)} (hM : M id = some (some ⟨ty, sz, es, false⟩)) (hio : id.1 ≠ io)
    (hsub : ∀ b, Stab G ρ M w b → Stab G ρ M' w b) (hoff : ∀ id' r, M' id' = some (some r) → M id' = some (some r) ∧ id' ≠ id) {N : Mem}
    (h : Rep ρ w (Stab G ρ M w) M v (.osl id 0 es.length)) : Rep ρ w (Stab G ρ M' w) N v (.list sz es) := by
  obtain ⟨a, cap, rfl, h1, h2, h3⟩ := osl_cells hW hM rfl h
  refine rep_list.2 ⟨a, cap, rfl, h1, fun hne => ?_⟩
  obtain ⟨b, z, hρ, rfl, g⟩ := h3 (List.length_pos_iff.2 hne)
  refine ⟨_, rfl, ⟨hW.lt hM hρ, fun id' r z' hM' hρ' => ?_, ?_⟩, fun i e hi => ?_⟩
  · obtain ⟨g1, g2⟩ := hoff id' r hM'
    exact g2 (hW.inj _ _ _ _ _ _ _ g1 hM hρ' hρ)
  · have := hW.new id _ hM
    rw [if_neg hio] at this
    exact hW.good b (this b z hρ)
  · have hi' : ((es.drop 0).take es.length)[i]? = some e := by rw [List.drop_zero, List.take_length]; exact hi
    obtain ⟨k1, k2⟩ := g i e hi'
    refine ⟨k1, fun j u hu => ?_⟩
    obtain ⟨c, m1, m2, m3⟩ := k2 j u hu
    exact ⟨c, m1, m2, m3.pureMono fun b hb => ⟨hsub b hb, rfl⟩⟩
theorem rep_clean1 {x : PV} {S S' : Nat → Prop} (hS : ∀ b, S b → S' b) (hc : clean1 x = true) (he : frz1 x = x) (h : Rep ρ w S M v x) : Rep ρ w S' M' v x := by
  cases x <;> simp [clean1] at hc <;> first
    | exact rep_any
    | exact (rep_pure (M' := noMem) (ρ' := ρ) h rfl).pureMono fun b hb => ⟨hS b hb, rfl⟩
    | (simp [frz1] at he; done)
theorem frzL_rep {t : Nat} {xs : List PV} {k : Nat} (hW : WRel G ρ w0 X M w) (hM : ∀ p ∈ (thawL t k xs).2.2, M p.1 = some p.2) (ht : t ≠ io) (hc : xs.all clean1 = true)
    (hsub : ∀ b, Stab G ρ M w b → Stab G ρ noMem w b) {cs : Array Value} (h : Comps ρ w (Stab G ρ M w) M cs (thawL t k xs).2.1) : Comps ρ w (Stab G ρ noMem w) noMem cs (xs.map frz1) := by
  obtain ⟨hl, hat⟩ := thawL_at t xs k
  refine ⟨by rw [h.1, hl, List.length_map], fun j u hu => ?_⟩
  rw [List.getElem?_map] at hu
  cases hx : xs[j]? with
  | none => rw [hx] at hu; cases hu
  | some x =>
    rw [hx] at hu
    injection hu with hu
    subst hu
    obtain ⟨y, h1, h2⟩ := hat j x hx
    obtain ⟨c, h3, h4⟩ := h.2 j y h1
    refine ⟨c, h3, ?_⟩
    rcases h2 with ⟨ty, sz, es, k', rfl, rfl, hm⟩ | ⟨rfl, he⟩
    · exact osl_given hW (hM _ hm) ht hsub (fun _ _ h => by cases h) h4
    · rw [he]
      exact rep_clean1 hsub (List.all_eq_true.1 hc _ (List.mem_of_getElem? hx)) he h4
theorem frz2_rep {t : Nat} {x : PV} {k : Nat} (hW : WRel G ρ w0 X M w) (hM : ∀ p ∈ (thaw1 t k x).2.2, M p.1 = some p.2) (ht : t ≠ io) (hc : clean2 x = true)
    (hsub : ∀ b, Stab G ρ M w b → Stab G ρ noMem w b) (h : Rep ρ w (Stab G ρ M w) M v (thaw1 t k x).2.1) : Rep ρ w (Stab G ρ noMem w) noMem v (frz2 x) := by
  cases x with
  | agg cs =>
    simp only [thaw1] at h hM
    obtain ⟨a, rfl, hcs⟩ := rep_agg.1 h
    exact rep_agg.2 ⟨a, rfl, frzL_rep hW hM ht hc hsub hcs⟩
  | olist ty sz es => exact osl_given hW (hM ((t, k), some ⟨ty, sz, es, false⟩) (by simp [thaw1])) ht hsub (fun _ _ h => by cases h) h
  | any => exact rep_any
  | int _ _ => exact rep_clean1 hsub rfl rfl h
  | bool _ => exact rep_clean1 hsub rfl rfl h
  | str _ => exact rep_clean1 hsub rfl rfl h
  | nil => exact rep_clean1 hsub rfl rfl h
  | list _ _ => exact rep_clean1 hsub rfl rfl h
  | ptr _ => exact rep_clean1 hsub rfl rfl h
  | own _ _ _ => cases hc
  | clist _ _ => cases hc
  | osl _ _ _ => cases hc
  | tuple _ => cases hc
  | fn _ _ _ => cases hc
  | sem _ => cases hc
theorem ConA.frz {g : FuncId} {ys : List PV} {r : PV} (h : ConA P g ys r) (hc : clean r = true) : ConA P g ys (frz r) := by
  refine ⟨h.1, fun G w X ρ cargs hW hX hC => ?_⟩
  obtain ⟨cb, h2⟩ := h
  refine (h2 G w X ρ cargs hW hX hC).mono fun e w' => ?_
  rintro ⟨v, r', fin, rfl, ⟨rfl, rfl⟩, hl, hf, hR⟩
  refine ⟨v, Go.Vs.frz r', [], rfl, ⟨rfl, rfl⟩, hl, hf, fun t ht => ?_⟩
  obtain ⟨ρ', hR⟩ := hR t ht
  refine ⟨ρ', ?_⟩
  have hio : ioMem (withEs [] ([] : List (List (List PV)))) = noMem := by funext id; simp [ioMem, noMem, withEs]
  have hrel := hR.rel
  rw [hio] at hrel
  have hval := hR.val
  rw [hio] at hval
  have hsub : ∀ b, Stab G ρ' (noMem.upds (thaw t r').2) w' b → Stab G ρ' noMem w' b := fun b hb => ⟨hb.1, fun id r z h => by simp [noMem] at h, hb.2.2⟩
  have hv : Rep ρ' w' (Stab G ρ' (noMem.upds (thaw t r').2) w') (noMem.upds (thaw t r').2) v (thaw t r').1 := hval.mono (fun b hb => ⟨hb.1, rfl⟩) (MLe.refl _ _ _)
  have key : Rep ρ' w' (Stab G ρ' noMem w') noMem v (Go.Vs.frz r') := by
    have one : ∀ x : PV, (∀ p ∈ (thaw1 t 0 x).2.2, (noMem.upds (thaw t r').2) p.1 = some p.2) → clean2 x = true → Rep ρ' w' (Stab G ρ' (noMem.upds (thaw t r').2) w') (noMem.upds (thaw t r').2) v (thaw1 t 0 x).2.1 → Rep ρ' w' (Stab G ρ' noMem w') noMem v (frz2 x) :=
      fun x h1 h2 h3 => frz2_rep hrel h1 ht h2 hsub h3
    cases r' with
    | tuple vs =>
      simp only [thaw] at hv hrel hsub
      obtain ⟨a, rfl, hcs⟩ := rep_tuple.1 hv
      obtain ⟨k1, k2⟩ := thawT_at t vs 0
      refine rep_tuple.2 ⟨a, rfl, by rw [hcs.1, k1, List.length_map], fun j u hu => ?_⟩
      rw [List.getElem?_map] at hu
      cases hx : vs[j]? with
      | none => rw [hx] at hu; cases hu
      | some x =>
        rw [hx] at hu
        injection hu with hu
        subst hu
        obtain ⟨k', g1, g2⟩ := k2 j x hx
        obtain ⟨c, m1, m2⟩ := hcs.2 j _ g1
        refine ⟨c, m1, frz2_rep hrel (fun p hp => looks_upds _ (thawT_keys t vs 0).2.2 p (g2 p hp)) ht (List.all_eq_true.1 hc _ (List.mem_of_getElem? hx)) hsub m2⟩
    | agg cs => exact one (.agg cs) (fun p hp => looks_upds _ (thaw1_keys t 0 _).2.2 p hp) hc hv
    | olist ty sz es => exact one (.olist ty sz es) (fun p hp => looks_upds _ (thaw1_keys t 0 _).2.2 p hp) hc hv
    | any => exact rep_any
    | int _ _ => exact rep_clean1 hsub rfl rfl hv
    | bool _ => exact rep_clean1 hsub rfl rfl hv
    | str _ => exact rep_clean1 hsub rfl rfl hv
    | nil => exact rep_clean1 hsub rfl rfl hv
    | list _ _ => exact rep_clean1 hsub rfl rfl hv
    | ptr _ => exact rep_clean1 hsub rfl rfl hv
    | own _ _ _ => cases hc
    | clist _ _ => cases hc
    | osl _ _ _ => cases hc
    | fn _ _ _ => cases hc
    | sem _ => cases hc
  have hnew : WRel G ρ' w X noMem w' := ⟨fun id id' r r' b z z' h => by simp [noMem] at h, fun id r h => by simp [noMem] at h, fun id r h => by simp [noMem] at h, hrel.keep, hrel.good, hrel.tab.noMem⟩
  refine ⟨?_, ?_, ?_⟩
  · rw [hio, thaw_frz]; exact hnew
  · intro id row b z h1
    rw [thaw_frz] at h1
    cases h1
  · rw [hio, thaw_frz]
    exact key.mono (fun b hb => ⟨⟨hb, fun h => by cases h⟩, rfl⟩) (MLe.refl _ _ _)
theorem ent_freeze {st : St} {id : Id} {t : Nat} {T : TypeId} {sz n : Nat} {es : List (List PV)} (hv : getE st.env t = .osl id 0 n) (hm : getM st.mem id = some (some ⟨T, sz, es, false⟩)) (hn : n = es.length) (hio : id.1 ≠ io) :
    Ent st ⟨(t, .list sz es) :: st.env, (id, none) :: st.mem⟩ := by
  intro G w0 X N a w ⟨ρ, hW, hd, hs, hV⟩
  subst hn
  have hM : st.M id = some (some ⟨T, sz, es, false⟩) := hm
  obtain ⟨T1, W1⟩ := hW.dead hM
  have hst : St.M ⟨(t, .list sz es) :: st.env, (id, none) :: st.mem⟩ = st.M.set id none := by
    funext id'
    show getM ((id, none) :: st.mem) id' = _
    have := getM_app [(id, none)] st.mem
    rw [show ((id, none) :: st.mem) = [(id, none)] ++ st.mem from rfl, this]
    rfl
  refine ⟨ρ, by rw [hst]; exact W1, hd, hs, fun s => ?_⟩
  rw [hst]
  show Rep ρ w _ _ _ (getE ((t, .list sz es) :: st.env) s)
  rw [getE_cons]
  by_cases he : t = s
  · subst he
    rw [if_pos rfl]
    have h1 := hV t
    rw [show st.V t = getE st.env t from rfl, hv] at h1
    refine osl_given (M' := st.M.set id none) hW hM hio (fun b hb => (T1.stab b hb).1) (fun id' r h => ?_) h1
    simp only [Mem.set] at h
    split at h
    · cases h
    · rename_i hne
      exact ⟨h, hne⟩
  · rw [if_neg he]
    exact T1.rep (hV s)
theorem q_thenF {st : St} {Q : Exit → St → Prop} {y : Code} {id : Id} (t : Nat) {T : TypeId} {sz n : Nat} {es : List (List PV)} (hv : lookE st.env t = some (.osl id 0 n)) (hm : getM st.mem id = some (some ⟨T, sz, es, false⟩)) (hn : n = es.length)
    (hio : Nat.beq id.1 io = false) (h : vwp P y ⟨(t, .list sz es) :: st.env, (id, none) :: st.mem⟩ Q) : thenQ P y Q .normal st :=
  ⟨_, ent_freeze (lookE_ok hv) hm hn (fun e => by rw [e] at hio; simp at hio), h⟩
theorem ret_listA {st : St} {fn : Func} {t : Nat} {T : TypeId} {id : Id} {sz n : Nat} {es es' : List (List PV)} (hr : fn.results = #[.tmp t]) (hv : getE st.env t = .osl id 0 n) (hm : getM st.mem id = some (some ⟨T, sz, es, false⟩)) (hio : id.1 ≠ io)
    (hn : n = es.length) (hes : es = es') : RetPost P fn true [] (Ret (.olist T sz es')) .ret st := by
  subst hes
  subst hn
  exact ret_of [.osl id 0 es.length] [some id] (by rw [hr]; exact ⟨hv, trivial⟩) ⟨rfl, hio, rfl, .inl rfl, hm, rfl⟩ ⟨by simp, trivial⟩
end
end
end Go.Vs
set_option linter.unusedVariables false
set_option linter.unusedSimpArgs false
set_option linter.unusedSectionVars false
namespace Go.Vs
section
variable [fl : Inhabited FlrT]
section
variable {P : Program} {draw : Bool} {ops : Array Oper} {rest : List Oper} {env : List (Nat × PV)} {mem : List (Id × Option Row)} {tr : List (List Id × List Id)} {K : St → List (List Id × List Id) → Prop}
  {d : Nat} {ty : TypeId} {pos : String} {af : Array Edge}
def lendR (mem : List (Id × Option Row)) (ids0 : List Id) : List Id → List Row → Prop
  | [], [] => True
  | id :: ids, row :: rs => (∃ r, getM mem id = some (some r) ∧ Lend ids0 r row) ∧ lendR mem ids0 ids rs
  | _, _ => False
theorem lendR_ok {ids0 : List Id} : ∀ {ids : List Id} {ios : List Row}, lendR mem ids0 ids ios → ids.length = ios.length ∧ ∀ (k : Nat) id row, ids[k]? = some id → ios[k]? = some row → ∃ r, getM mem id = some (some r) ∧ Lend ids0 r row
  | [], [], _ => ⟨rfl, fun k id row h => by simp at h⟩
  | i :: ids, r :: rs, h => by
    obtain ⟨g1, g2⟩ := lendR_ok h.2
    refine ⟨by simp [g1], fun k id row hk hr => ?_⟩
    cases k with
    | zero =>
      simp only [List.getElem?_cons_zero, Option.some.injEq] at hk hr
      subst hk; subst hr
      exact h.1
    | succ k => exact g2 k id row (by simpa using hk) (by simpa using hr)
  | [], _ :: _, h => h.elim
  | _ :: _, [], h => h.elim
def rowsNewL (mem : List (Id × Option Row)) : List Id → List Row → List (List (List PV)) → Option (List (Id × Option Row))
  | [], _, _ => some []
  | id :: ids, ⟨_, _, _, bx⟩ :: rs, f :: fs => match bx, getM mem id, rowsNewL mem ids rs fs with
    | true, some (some ⟨a, b, c, e⟩), some l => some ((id, some ⟨a, b, c, e⟩) :: l)
    | false, some (some ⟨a, b, _, e⟩), some l => some ((id, some ⟨a, b, f, e⟩) :: l)
    | _, _, _ => none
  | _ :: _, _, _ => none
theorem rowsNewL_ok : ∀ {ids : List Id} {ios : List Row} {fin : List (List (List PV))} {mem' : List (Id × Option Row)}, rowsNewL mem ids ios fin = some mem' → ioUps (getM mem) ids (backF (getM mem) ids ios fin) = mem'
  | [], _, _, _, h => by
    simp only [rowsNewL, Option.some.injEq] at h
    subst h
    simp [ioUps]
  | id :: ids, ⟨t, z, es, bx⟩ :: rs, f :: fs, mem', h => by
    simp only [rowsNewL] at h
    split at h
    · rename_i a b c e l h1 h2
      cases h
      simp only [backF, ioUps, h1, rowsNewL_ok h2]
      rfl
    · rename_i a b c e l h1 h2
      cases h
      simp only [backF, ioUps, h1, rowsNewL_ok h2]
      rfl
    · cases h
  | _ :: _, [], _, _, h => by simp [rowsNewL] at h
  | _ :: _, _ :: _, [], _, h => by simp [rowsNewL] at h
theorem x_callL {f : Operand} {args : List Operand} {ats : Array TypeId} {g : FuncId} {fi ca xs ys : List PV} {r v : PV} (ids : List Id) {rd : List Id} {ios : List Row} {fin : List (List (List PV))} {mem' up : List (Id × Option Row)}
    (hC : ContractP P g true ys ios fun r' fin' => r' = r ∧ fin' = fin) (hf : ev (getE env) f = .fn g fi ca)
    (hxs : fi ++ args.map (ev (getE env)) ++ ca = xs) (hlend : lendR mem ids ids ios) (hrd : rdL (rdO true 6 mem) xs ys [] = some rd)
    (hnd : (nodupB ids && nodupB rd && rd.all (fun id => !(hasId ids id) && !Nat.beq id.1 io && (match getM mem id with | some (some _) => true | _ => false))) = true)
    (hsnap : AllR (SnapD 6 (getM mem) ids rd) xs ys) (hfree : freeB mem d = true) (hth : thaw d r = (v, up)) (hnew : rowsNewL mem ids ios fin = some mem')
    (hk : exec P ops draw rest ⟨(d, v) :: env, (up ++ (mem' ++ (rd.map fun id : Id => (id, (none : Option Row))))) ++ mem⟩ ((ids ++ rd, (d, 0) :: (up ++ (mem' ++ (rd.map fun id : Id => (id, (none : Option Row))))).map (·.1)) :: tr) K) :
    exec P ops draw (⟨some d, .call ⟨.value f, args.toArray, ats⟩, ty, pos, af, none⟩ :: rest) ⟨env, mem⟩ tr K := by
  obtain ⟨hl, hr⟩ := lendR_ok hlend
  simp only [Bool.and_eq_true] at hnd
  obtain ⟨⟨hn1, hn2⟩, hn3⟩ := hnd
  have hn3 := List.all_eq_true.1 hn3
  refine x_callLend ids rd v hC hf hxs hsnap hfree hl (nodupB_ok hn1) hr (fun id hid hm => ?_) ⟨fun id hid => ?_, nodupB_ok hn2⟩ (by rw [hth]) (mem' := up ++ (mem' ++ rd.map fun id => (id, none))) ?_ hk
  · have := hn3 id hid
    simp only [Bool.and_eq_true, Bool.not_eq_true'] at this
    rw [hasId_iff.2 hm] at this
    exact absurd this.1.1 (by simp)
  · have := hn3 id hid
    simp only [Bool.and_eq_true, Bool.not_eq_true'] at this
    refine ⟨fun e => by have h2 := this.1.2; rw [e] at h2; simp at h2, ?_⟩
    have h2 := this.2
    split at h2
    · exact ⟨_, by assumption⟩
    · cases h2
  · simp only [callUps, hth, frzUps, rowsNewL_ok hnew]
    simp
end
section
variable {P : Program} {st : St}
def finsL (mem : List (Id × Option Row)) : Nat → List Row → List (List (List PV)) → Prop
  | _, [], [] => True
  | k, r :: rs, f :: fs => (f.length = r.es.length ∧ getM mem (io, k) = some (some { r with es := f }) ∧ (r.bx = true → f = r.es)) ∧ finsL mem (k + 1) rs fs
  | _, _, _ => False
theorem finsL_ok {mem : List (Id × Option Row)} : ∀ {rs : List Row} {fs : List (List (List PV))} {k0 : Nat}, finsL mem k0 rs fs → fs.length = rs.length ∧
    ∀ (k : Nat) row, rs[k]? = some row → ∃ es, fs[k]? = some es ∧ es.length = row.es.length ∧ getM mem (io, k0 + k) = some (some { row with es := es }) ∧ (row.bx = true → es = row.es)
  | [], [], _, _ => ⟨rfl, fun k row h => by simp at h⟩
  | r :: rs, f :: fs, k0, h => by
    obtain ⟨⟨h1, h2, h4⟩, h3⟩ := h
    obtain ⟨g1, g2⟩ := finsL_ok h3
    refine ⟨by simp [g1], fun k row hk => ?_⟩
    cases k with
    | zero =>
      simp only [List.getElem?_cons_zero, Option.some.injEq] at hk
      subst hk
      exact ⟨f, rfl, h1, h2, h4⟩
    | succ k =>
      obtain ⟨es, k1, k2, k3, k4⟩ := g2 k row (by simpa using hk)
      exact ⟨es, by simpa using k1, k2, by rw [show k0 + (k + 1) = k0 + 1 + k by omega]; exact k3, k4⟩
  | [], _ :: _, _, h => h.elim
  | _ :: _, [], _, h => h.elim
theorem ret_ofL {fn : Func} {al : Bool} {r : PV} {rows : List Row} {fin : List (List (List PV))} {e : Exit} (he0 : e = .ret ∨ e = .normal) (xs : List PV) (u : List (Option Id)) (hres : AllRes P st fn.results.toList xs) (he : Exp al st (tup xs) r u) (ha : apartIds u)
    (hf : finsL st.mem 0 rows fin) : RetPost P fn al rows (fun r' fin' => r' = r ∧ fin' = fin) e st := by
  obtain ⟨h1, h2⟩ := finsL_ok hf
  refine ⟨he0, xs, r, u, fin, hres, he, ha, ⟨rfl, rfl⟩, h1, fun j row h => ?_⟩
  obtain ⟨es, g1, g2, g3, g4⟩ := h2 j row h
  exact ⟨es, g1, g2, by rw [Nat.zero_add] at g3; exact g3, g4⟩
theorem ret_boolL {fn : Func} {al : Bool} {rows : List Row} {fin : List (List (List PV))} {e : Exit} {t : Nat} {b b' : Bool} (he : e = .ret ∨ e = .normal) (hr : fn.results = #[.tmp t]) (hv : getE st.env t = .bool b) (hb : b = b') (hf : finsL st.mem 0 rows fin) :
    RetPost P fn al rows (fun r' fin' => r' = .bool b' ∧ fin' = fin) e st :=
  ret_ofL he [.bool b] [] (by rw [hr]; exact ⟨hv, trivial⟩) ⟨hb, rfl⟩ trivial hf
end
end
end Go.Vs
set_option linter.unusedVariables false
set_option linter.unusedSimpArgs false
namespace Go.Vs
def mv : Nat := 1000005
def memS (ios mvs : List Row) : Mem := fun id => if id.1 = io then (ios[id.2]?).map some else if id.1 = mv then (mvs[id.2]?).map some else none
def namesS (n m : Nat) : List Id := ((List.range n).map fun k => (io, k)) ++ ((List.range m).map fun k => (mv, k))
def sbr (f : Id → Id) (r : Row) : Row := ⟨r.ty, r.sz, cond r.bx (r.es.map (·.map (subD 5 f))) r.es, r.bx⟩
def inS (ids mids : List Id) : Id → Id := fun id => if id.1 = io then (ids[id.2]?).getD id else if id.1 = mv then (mids[id.2]?).getD id else id
def outS (ids : List Id) (d : Nat) : Id → Id := fun id => if id.1 = io then (ids[id.2]?).getD id else if id.1 = mv then (d, id.2) else id
def refsR (names : List Id) (r : Row) : Prop := r.bx = true → ∀ e ∈ r.es, ∀ u ∈ e, refsD 5 names u = true
structure CallOkS (M : Mem) (d : Nat) (xs ys : List PV) (ids mids rd : List Id) (ios mvs ios' mvs' : List Row) : Prop where
  dio : d ≠ io
  free : ∀ k, M (d, k) = none
  snap : AllR (SnapD 6 M ids rd) xs ys
  len : ids.length = ios.length
  lem : mids.length = mvs.length
  len' : ios'.length = ios.length
  lem' : mvs'.length = mvs.length
  nodup : (ids ++ mids).Nodup
  lent : ∀ (k : Nat) id row, ids[k]? = some id → ios[k]? = some row → M id = some (some (sbr (inS ids mids) row)) ∧ refsR (namesS ios.length mvs.length) row
  lemt : ∀ (k : Nat) id row, mids[k]? = some id → mvs[k]? = some row → M id = some (some (sbr (inS ids mids) row)) ∧ row.bx = false ∧ id.1 ≠ io
  apart : ∀ id ∈ rd, id ∉ ids ∧ id ∉ mids
  given : ∀ id ∈ rd, id.1 ≠ io ∧ ∃ r, M id = some (some r)
  rnodup : rd.Nodup
  shape : ∀ (k : Nat) row row', ios[k]? = some row → ios'[k]? = some row' → row'.sz = row.sz ∧ row'.ty = row.ty ∧ row'.es.length = row.es.length ∧ row'.bx = row.bx ∧ refsR (namesS ios.length mvs.length) row'
  shapm : ∀ row ∈ mvs', row.bx = false
def newS (d : Nat) (f : Id → Id) : Nat → List Row → List (Id × Option Row)
  | _, [] => []
  | k, r :: rs => ((d, k), some (sbr f r)) :: newS d f (k + 1) rs
def backS (f : Id → Id) : List Id → List Row → List (Id × Option Row)
  | id :: ids, r :: rs => (id, some (sbr f r)) :: backS f ids rs
  | _, _ => []
def deadS (l : List Id) : List (Id × Option Row) := l.map fun id => (id, none)
def upsS (d : Nat) (ids mids rd : List Id) (ios' mvs' : List Row) : List (Id × Option Row) :=
  newS d (outS ids d) 0 mvs' ++ (backS (outS ids d) ids ios' ++ (deadS mids ++ deadS rd))
theorem newS_fst {d : Nat} {f : Id → Id} : ∀ {rs : List Row} {k : Nat}, ∀ p ∈ newS d f k rs, p.1.1 = d
  | [], k, p, h => by cases h
  | r :: rs, k, p, h => by
    rcases List.mem_cons.1 h with rfl | h
    · rfl
    · exact newS_fst p h
theorem newS_at {d : Nat} {f : Id → Id} (N : Mem) : ∀ (rs : List Row) (k0 k : Nat), N.upds (newS d f k0 rs) (d, k) = if k0 ≤ k then (match rs[k - k0]? with | some r => some (some (sbr f r)) | none => N (d, k)) else N (d, k)
  | [], k0, k => by simp [newS, Mem.upds]
  | r :: rs, k0, k => by
    simp only [newS, Mem.upds, Mem.set]
    by_cases h : k = k0
    · subst h
      simp
    · rw [if_neg (fun e => h (congrArg Prod.snd e)), newS_at N rs (k0 + 1) k]
      by_cases h2 : k0 ≤ k
      · rw [if_pos h2, if_pos (by omega), show k - k0 = (k - (k0 + 1)) + 1 by omega, List.getElem?_cons_succ]
      · rw [if_neg h2, if_neg (by omega)]
theorem backS_fst {f : Id → Id} : ∀ {ids : List Id} {rs : List Row}, ∀ p ∈ backS f ids rs, p.1 ∈ ids
  | [], rs, p, h => by cases rs <;> cases h
  | id :: ids, [], p, h => by cases h
  | id :: ids, r :: rs, p, h => by
    rcases List.mem_cons.1 h with rfl | h
    · exact List.mem_cons_self
    · exact List.mem_cons_of_mem _ (backS_fst p h)
theorem backS_at {f : Id → Id} (N : Mem) : ∀ (ids : List Id) (rs : List Row) (k : Nat) id r, ids.Nodup → ids[k]? = some id → rs[k]? = some r → N.upds (backS f ids rs) id = some (some (sbr f r))
  | [], rs, k, id, r, _, h, _ => by simp at h
  | i :: ids, [], k, id, r, _, _, h => by simp at h
  | i :: ids, r0 :: rs, k, id, r, hn, h1, h2 => by
    rw [List.nodup_cons] at hn
    simp only [backS, Mem.upds, Mem.set]
    cases k with
    | zero =>
      simp only [List.getElem?_cons_zero, Option.some.injEq] at h1 h2
      subst h1; subst h2
      simp
    | succ k =>
      rw [List.getElem?_cons_succ] at h1 h2
      rw [if_neg (fun e => hn.1 (by rw [← e]; exact List.mem_of_getElem? h1))]
      exact backS_at N ids rs k id r hn.2 h1 h2
theorem deadS_at (N : Mem) {id : Id} : ∀ {l : List Id}, id ∈ l → N.upds (deadS l) id = some none
  | [], h => by cases h
  | i :: l, h => by
    simp only [deadS, List.map_cons, Mem.upds, Mem.set]
    by_cases he : id = i
    · simp [he]
    · rw [if_neg he]
      exact deadS_at N (by rcases List.mem_cons.1 h with h | h; exact absurd h he; exact h)
theorem deadS_other (N : Mem) {id : Id} {l : List Id} (h : id ∉ l) : N.upds (deadS l) id = N id :=
  upds_other N _ id fun p hp e => h (by obtain ⟨i, hi, rfl⟩ := List.mem_map.1 hp; rw [← e]; exact hi)
theorem namesS_any {n m : Nat} {id : Id} (h : ((namesS n m).any fun k => Nat.beq k.1 id.1 && Nat.beq k.2 id.2) = true) : (id = (io, id.2) ∧ id.2 < n) ∨ (id = (mv, id.2) ∧ id.2 < m) := by
  obtain ⟨k, hk, he⟩ := List.any_eq_true.1 h
  rw [Bool.and_eq_true] at he
  have h1 := Nat.eq_of_beq_eq_true he.1
  have h2 := Nat.eq_of_beq_eq_true he.2
  rcases List.mem_append.1 hk with hk | hk
  · obtain ⟨j, hj, rfl⟩ := List.mem_map.1 hk
    simp only at h1 h2
    exact .inl ⟨Prod.ext h1.symm rfl, by rw [← h2]; exact List.mem_range.1 hj⟩
  · obtain ⟨j, hj, rfl⟩ := List.mem_map.1 hk
    simp only at h1 h2
    exact .inr ⟨Prod.ext h1.symm rfl, by rw [← h2]; exact List.mem_range.1 hj⟩
theorem sbr_len (f : Id → Id) (r : Row) : (sbr f r).es.length = r.es.length := by
  unfold sbr
  cases r.bx <;> simp
theorem mv_io : mv ≠ io := by decide
section
variable {P : Program} {G G' : Nat → Prop} {ρ ρ' : Id → Option (Nat × Nat)} {w0 w : World} {X : List (Option (Nat × Nat))} {M M' : Mem}
theorem rowOk_ren {f : Id → Id} (names : List Id)
    (hM : ∀ id, (names.any fun k => Nat.beq k.1 id.1 && Nat.beq k.2 id.2) = true → ∃ r r', M (f id) = some (some r) ∧ M' id = some (some r') ∧ r'.sz = r.sz ∧ r'.ty = r.ty ∧ r'.es.length = r.es.length ∧ ρ' id = ρ (f id))
    {row : Row} {ob : Option (Nat × Nat)} (href : refsR names row) :
    ((∀ b, Stab G ρ M w b → Stab G' ρ' M' w b) → RowOk G ρ w M (sbr f row) ob → RowOk G' ρ' w M' row ob) ∧
    ((∀ b, Stab G' ρ' M' w b → Stab G ρ M w b) → RowOk G' ρ' w M' row ob → RowOk G ρ w M (sbr f row) ob) := by
  cases hb : row.bx with
  | false =>
    have e : sbr f row = row := by
      obtain ⟨a, b, c, e⟩ := row
      simp only at hb
      subst hb
      rfl
    rw [e]
    have key : ∀ {G G' : Nat → Prop} {ρ ρ' : Id → Option (Nat × Nat)} {M M' : Mem}, (∀ b, Stab G ρ M w b → Stab G' ρ' M' w b) → RowOk G ρ w M row ob → RowOk G' ρ' w M' row ob := by
      intro G G' ρ ρ' M M' hS h
      cases ob with
      | none => exact h
      | some bz =>
        obtain ⟨b, z⟩ := bz
        obtain ⟨cur, C, g1, g2, g3, g4, g5, g6⟩ := h
        refine ⟨cur, C, g1, g2, g3, g4, g5, fun i e hi => ⟨(g6 i e hi).1, fun j u hu => ?_⟩⟩
        obtain ⟨c, k1, k2, k3⟩ := (g6 i e hi).2 j u hu
        rw [hb] at k3 ⊢
        exact ⟨c, k1, k2, k3.pureMono fun b hb => ⟨hS b hb, rfl⟩⟩
    exact ⟨key, key⟩
  | true =>
    have hr := href hb
    have e1 : (sbr f row).es = row.es.map (·.map (subD 5 f)) := by simp only [sbr, hb, cond_true]
    have e2 : (sbr f row).bx = true := hb
    cases ob with
    | none => exact ⟨fun _ h => (by have := h.2; rw [e2] at this; cases this), fun _ h => (by have := h.2; rw [hb] at this; cases this)⟩
    | some bz =>
      obtain ⟨b, z⟩ := bz
      constructor
      · rintro hS ⟨cur, C, g1, g2, g3, g4, g5, g6⟩
        refine ⟨cur, C, g1, g2, g3, by rw [sbr_len] at g4; exact g4, g5, fun i e hi => ?_⟩
        obtain ⟨q1, q2⟩ := g6 i (e.map (subD 5 f)) (by rw [e1, List.getElem?_map, hi]; rfl)
        refine ⟨by rw [List.length_map] at q1; exact q1, fun j u hu => ?_⟩
        obtain ⟨c, k1, k2, k3⟩ := q2 j (subD 5 f u) (by rw [List.getElem?_map, hu]; rfl)
        rw [e2] at k3
        rw [hb]
        exact ⟨c, k1, k2, (rep_ren names hM 5 u c (hr e (List.mem_of_getElem? hi) u (List.mem_of_getElem? hu))).1 hS k3⟩
      · rintro hS ⟨cur, C, g1, g2, g3, g4, g5, g6⟩
        refine ⟨cur, C, g1, g2, g3, by rw [sbr_len]; exact g4, g5, fun i e hi => ?_⟩
        rw [e1, List.getElem?_map] at hi
        obtain ⟨e0, he0, rfl⟩ := Option.map_eq_some_iff.1 hi
        obtain ⟨q1, q2⟩ := g6 i e0 he0
        refine ⟨by rw [List.length_map]; exact q1, fun j u hu => ?_⟩
        rw [List.getElem?_map] at hu
        obtain ⟨u0, hu0, rfl⟩ := Option.map_eq_some_iff.1 hu
        obtain ⟨c, k1, k2, k3⟩ := q2 j u0 hu0
        rw [hb] at k3
        rw [e2]
        exact ⟨c, k1, k2, (rep_ren names hM 5 u0 c (hr e0 (List.mem_of_getElem? he0) u0 (List.mem_of_getElem? hu0))).2 hS k3⟩
end
end Go.Vs
set_option linter.unusedVariables false
set_option linter.unusedSimpArgs false
namespace Go.Vs
def subLO (f : PV → Option PV) : List PV → Option (List PV)
  | [] => some []
  | x :: xs => match f x, subLO f xs with
    | some y, some ys => some (y :: ys)
    | _, _ => none
def subO : Nat → (Id → Id) → PV → Option PV
  | 0, _, x => some x
  | d + 1, f, x => match x with
    | .own id i off => match f id with
      | (a, b) => some (.own (a, b) i off)
    | .osl id o n => match f id with
      | (a, b) => some (.osl (a, b) o n)
    | .agg xs => match subLO (subO d f) xs with
      | some ys => some (.agg ys)
      | none => none
    | .tuple xs => match subLO (subO d f) xs with
      | some ys => some (.tuple ys)
      | none => none
    | .fn g a b => match subLO (subO d f) a, subLO (subO d f) b with
      | some a', some b' => some (.fn g a' b')
      | _, _ => none
    | .int k n => some (.int k n)
    | .bool b => some (.bool b)
    | .str s => some (.str s)
    | .list sz es => some (.list sz es)
    | .ptr cs => some (.ptr cs)
    | .nil => some .nil
    | x => some x
theorem subLO_ok {f : PV → Option PV} {g : PV → PV} (h : ∀ x y, f x = some y → g x = y) : ∀ {xs ys : List PV}, subLO f xs = some ys → xs.map g = ys
  | [], ys, e => by cases e; rfl
  | x :: xs, ys, e => by
    simp only [subLO] at e
    split at e
    · rename_i y ys' h1 h2
      cases e
      rw [List.map_cons, h _ _ h1, subLO_ok h h2]
    · cases e
theorem subO_ok : ∀ (d : Nat) (f : Id → Id) (x y : PV), subO d f x = some y → subD d f x = y
  | 0, f, x, y, h => by cases h; rfl
  | d + 1, f, x, y, h => by
    cases x <;> simp only [subO] at h <;> simp only [subD]
    case agg xs => split at h <;> cases h; rename_i h1; rw [subLO_ok (subO_ok d f) h1]
    case tuple xs => split at h <;> cases h; rename_i h1; rw [subLO_ok (subO_ok d f) h1]
    case fn g a b => split at h <;> cases h; rename_i h1 h2; rw [subLO_ok (subO_ok d f) h1, subLO_ok (subO_ok d f) h2]
    all_goals (cases h; rfl)
def subEO (f : Id → Id) : List (List PV) → Option (List (List PV))
  | [] => some []
  | e :: es => match subLO (subO 5 f) e, subEO f es with
    | some a, some b => some (a :: b)
    | _, _ => none
theorem subEO_ok {f : Id → Id} : ∀ {es fs : List (List PV)}, subEO f es = some fs → es.map (·.map (subD 5 f)) = fs
  | [], fs, h => by cases h; rfl
  | e :: es, fs, h => by
    simp only [subEO] at h
    split at h
    · rename_i a b h1 h2
      cases h
      rw [List.map_cons, subEO_ok h2, subLO_ok (subO_ok 5 f) h1]
    · cases h
def sbrO (f : Id → Id) : Row → Option Row
  | ⟨a, b, c, true⟩ => match subEO f c with
    | some c' => some ⟨a, b, c', true⟩
    | none => none
  | ⟨a, b, c, false⟩ => some ⟨a, b, c, false⟩
theorem sbrO_ok {f : Id → Id} {r r' : Row} (h : sbrO f r = some r') : sbr f r = r' := by
  obtain ⟨a, b, c, e⟩ := r
  cases e with
  | false => cases h; rfl
  | true =>
    simp only [sbrO] at h
    split at h
    · rename_i c' h1
      cases h
      simp only [sbr, cond_true, subEO_ok h1]
    · cases h
def nameI (l : List Id) (k : Nat) (dflt : Id) : Id := match l, k with
  | a :: _, 0 => a
  | _ :: r, k + 1 => nameI r k dflt
  | [], _ => dflt
def inB (ids mids : List Id) : Id → Id := fun id => cond (Nat.beq id.1 io) (nameI ids id.2 id) (cond (Nat.beq id.1 mv) (nameI mids id.2 id) id)
def outB (ids : List Id) (d : Nat) : Id → Id := fun id => cond (Nat.beq id.1 io) (nameI ids id.2 id) (cond (Nat.beq id.1 mv) (d, id.2) id)
theorem nameI_eq : ∀ (l : List Id) (k : Nat) (x : Id), nameI l k x = (l[k]?).getD x
  | [], k, x => by cases k <;> rfl
  | a :: l, 0, x => rfl
  | a :: l, k + 1, x => by rw [nameI, nameI_eq l k x, List.getElem?_cons_succ]
theorem inB_eq (ids mids : List Id) : inB ids mids = inS ids mids := by
  funext id
  simp only [inB, inS, nameI_eq]
  by_cases h1 : id.1 = io
  · rw [h1, Nat.beq_refl]; rfl
  · rw [nbeq_false h1, if_neg h1]
    by_cases h2 : id.1 = mv
    · rw [h2, Nat.beq_refl]; rfl
    · rw [nbeq_false h2, if_neg h2]; rfl
theorem outB_eq (ids : List Id) (d : Nat) : outB ids d = outS ids d := by
  funext id
  simp only [outB, outS, nameI_eq]
  by_cases h1 : id.1 = io
  · rw [h1, Nat.beq_refl]; rfl
  · rw [nbeq_false h1, if_neg h1]
    by_cases h2 : id.1 = mv
    · rw [h2, Nat.beq_refl]; rfl
    · rw [nbeq_false h2, if_neg h2]; rfl
def refsRB (names : List Id) (r : Row) : Bool := match r with
  | ⟨_, _, es, true⟩ => es.all fun e => e.all (refsD 5 names)
  | ⟨_, _, _, false⟩ => true
theorem refsRB_ok {names : List Id} {r : Row} (h : refsRB names r = true) : refsR names r := by
  obtain ⟨a, b, c, e⟩ := r
  intro hb e' he u hu
  simp only at hb
  subst hb
  exact List.all_eq_true.1 (List.all_eq_true.1 h e' he) u hu
def lentS (mem : List (Id × Option Row)) (f : Id → Id) (names : List Id) : List Id → List Row → Prop
  | [], [] => True
  | id :: ids, r :: rs => ((∃ q, sbrO f r = some q ∧ getM mem id = some (some q)) ∧ refsRB names r = true) ∧ lentS mem f names ids rs
  | _, _ => False
def lentM (mem : List (Id × Option Row)) (f : Id → Id) : List Id → List Row → Prop
  | [], [] => True
  | id :: ids, ⟨a, b, c, false⟩ :: rs => (getM mem id = some (some ⟨a, b, c, false⟩) ∧ Nat.beq id.1 io = false) ∧ lentM mem f ids rs
  | _, _ => False
def shapeS (names : List Id) : List Row → List Row → Prop
  | [], [] => True
  | r :: rs, r' :: rs' => (r'.sz = r.sz ∧ r'.ty = r.ty ∧ r'.es.length = r.es.length ∧ r'.bx = r.bx ∧ refsRB names r' = true) ∧ shapeS names rs rs'
  | _, _ => False
theorem lentS_ok {mem : List (Id × Option Row)} {f : Id → Id} {names : List Id} : ∀ {ids : List Id} {rs : List Row}, lentS mem f names ids rs → ids.length = rs.length ∧
    ∀ (k : Nat) id row, ids[k]? = some id → rs[k]? = some row → getM mem id = some (some (sbr f row)) ∧ refsR names row
  | [], [], _ => ⟨rfl, fun k id row h => by simp at h⟩
  | i :: ids, r :: rs, h => by
    obtain ⟨g1, g2⟩ := lentS_ok h.2
    refine ⟨by simp [g1], fun k id row h1 h2 => ?_⟩
    cases k with
    | zero =>
      simp only [List.getElem?_cons_zero, Option.some.injEq] at h1 h2
      subst h1; subst h2
      obtain ⟨⟨q, k1, k2⟩, k3⟩ := h.1
      exact ⟨by rw [sbrO_ok k1]; exact k2, refsRB_ok k3⟩
    | succ k => exact g2 k id row (by simpa using h1) (by simpa using h2)
  | [], _ :: _, h => h.elim
  | _ :: _, [], h => h.elim
theorem lentM_ok {mem : List (Id × Option Row)} {f : Id → Id} : ∀ {ids : List Id} {rs : List Row}, lentM mem f ids rs → ids.length = rs.length ∧
    ∀ (k : Nat) id row, ids[k]? = some id → rs[k]? = some row → getM mem id = some (some (sbr f row)) ∧ row.bx = false ∧ id.1 ≠ io
  | [], [], _ => ⟨rfl, fun k id row h => by simp at h⟩
  | i :: ids, ⟨a, b, c, false⟩ :: rs, h => by
    obtain ⟨g1, g2⟩ := lentM_ok h.2
    refine ⟨by simp [g1], fun k id row h1 h2 => ?_⟩
    cases k with
    | zero =>
      simp only [List.getElem?_cons_zero, Option.some.injEq] at h1 h2
      subst h1; subst h2
      exact ⟨h.1.1, rfl, fun e => by have := h.1.2; rw [e] at this; simp at this⟩
    | succ k => exact g2 k id row (by simpa using h1) (by simpa using h2)
  | _ :: _, ⟨_, _, _, true⟩ :: _, h => h.elim
  | [], _ :: _, h => h.elim
  | _ :: _, [], h => h.elim
theorem shapeS_ok {names : List Id} : ∀ {rs rs' : List Row}, shapeS names rs rs' → rs'.length = rs.length ∧
    ∀ (k : Nat) row row', rs[k]? = some row → rs'[k]? = some row' → row'.sz = row.sz ∧ row'.ty = row.ty ∧ row'.es.length = row.es.length ∧ row'.bx = row.bx ∧ refsR names row'
  | [], [], _ => ⟨rfl, fun k id row h => by simp at h⟩
  | r :: rs, r' :: rs', h => by
    obtain ⟨g1, g2⟩ := shapeS_ok h.2
    refine ⟨by simp [g1], fun k row row' h1 h2 => ?_⟩
    cases k with
    | zero =>
      simp only [List.getElem?_cons_zero, Option.some.injEq] at h1 h2
      subst h1; subst h2
      obtain ⟨k1, k2, k3, k4, k5⟩ := h.1
      exact ⟨k1, k2, k3, k4, refsRB_ok k5⟩
    | succ k => exact g2 k row row' (by simpa using h1) (by simpa using h2)
  | [], _ :: _, h => h.elim
  | _ :: _, [], h => h.elim
def newO (d : Nat) : Nat → List Row → Option (List (Id × Option Row))
  | _, [] => some []
  | k, ⟨a, b, c, false⟩ :: rs => match newO d (k + 1) rs with
    | some l => some (((d, k), some ⟨a, b, c, false⟩) :: l)
    | none => none
  | _, _ => none
def backO (f : Id → Id) : List Id → List Row → Option (List (Id × Option Row))
  | id :: ids, r :: rs => match sbrO f r, backO f ids rs with
    | some q, some l => some ((id, some q) :: l)
    | _, _ => none
  | [], [] => some []
  | _, _ => none
def deadO : List Id → Option (List (Id × Option Row))
  | [] => some []
  | id :: ids => match deadO ids with
    | some l => some ((id, none) :: l)
    | none => none
def upsO (d : Nat) (ids mids rd : List Id) (ios' mvs' : List Row) : Option (List (Id × Option Row)) := match newO d 0 mvs', backO (outB ids d) ids ios', deadO mids, deadO rd with
  | some a, some b, some c, some e => match appO c e with
    | some ce => match appO b ce with
      | some bce => appO a bce
      | none => none
    | none => none
  | _, _, _, _ => none
theorem appO_ok2 {α : Type} : ∀ {xs ys r : List α}, appO xs ys = some r → xs ++ ys = r
  | [], ys, r, h => by cases h; rfl
  | x :: xs, ys, r, h => by
    simp only [appO] at h
    split at h
    · rename_i l h1; cases h; rw [List.cons_append, appO_ok2 h1]
    · cases h
theorem newO_ok {d : Nat} {f : Id → Id} : ∀ {rs : List Row} {k : Nat} {l}, newO d k rs = some l → newS d f k rs = l ∧ ∀ row ∈ rs, row.bx = false
  | [], k, l, h => by cases h; exact ⟨rfl, fun _ h => by cases h⟩
  | ⟨a, b, c, false⟩ :: rs, k, l, h => by
    simp only [newO] at h
    split at h
    · rename_i l' h1
      cases h
      obtain ⟨g1, g2⟩ := newO_ok (f := f) h1
      refine ⟨by simp only [newS, g1]; rfl, fun row hr => ?_⟩
      rcases List.mem_cons.1 hr with rfl | hr
      · rfl
      · exact g2 row hr
    · cases h
  | ⟨a, b, c, true⟩ :: rs, k, l, h => by simp [newO] at h
theorem backO_ok {f : Id → Id} : ∀ {ids : List Id} {rs : List Row} {l}, backO f ids rs = some l → backS f ids rs = l
  | id :: ids, r :: rs, l, h => by
    simp only [backO] at h
    split at h
    · rename_i q l' h1 h2
      cases h
      simp only [backS, sbrO_ok h1, backO_ok h2]
    · cases h
  | [], [], l, h => by cases h; rfl
  | [], _ :: _, l, h => by simp [backO] at h
  | _ :: _, [], l, h => by simp [backO] at h
theorem deadO_ok : ∀ {ids : List Id} {l}, deadO ids = some l → deadS ids = l
  | [], l, h => by cases h; rfl
  | id :: ids, l, h => by
    simp only [deadO] at h
    split at h
    · rename_i l' h1; cases h; simp only [deadS, List.map_cons]; exact congrArg _ (deadO_ok h1)
    · cases h
theorem upsO_ok {d : Nat} {ids mids rd : List Id} {ios' mvs' : List Row} {l} (h : upsO d ids mids rd ios' mvs' = some l) : upsS d ids mids rd ios' mvs' = l ∧ ∀ row ∈ mvs', row.bx = false := by
  unfold upsO at h
  split at h
  · rename_i a b c e h1 h2 h3 h4
    split at h
    · rename_i ce h5
      split at h
      · rename_i bce h6
        obtain ⟨g1, g2⟩ := newO_ok (f := outS ids d) h1
        refine ⟨?_, g2⟩
        rw [outB_eq] at h2
        rw [upsS, g1, backO_ok h2, deadO_ok h3, deadO_ok h4, appO_ok2 h5, appO_ok2 h6, appO_ok2 h]
      · cases h
    · cases h
  · cases h
section
variable [fl : Inhabited FlrT]
variable {P : Program} {draw : Bool} {ops : Array Oper} {rest : List Oper} {env : List (Nat × PV)} {mem : List (Id × Option Row)} {tr : List (List Id × List Id)} {K : St → List (List Id × List Id) → Prop}
  {d : Nat} {ty : TypeId} {pos : String} {af : Array Edge}
theorem CallOkS.congr {M M' : Mem} {xs ys : List PV} {ids mids rd : List Id} {ios mvs ios' mvs' : List Row} (h : CallOkS M d xs ys ids mids rd ios mvs ios' mvs')
    (hM : ∀ id : Id, id.1 = d ∨ id ∈ ids ∨ id ∈ mids ∨ id ∈ rd → M' id = M id) : CallOkS M' d xs ys ids mids rd ios mvs ios' mvs' := by
  refine { h with free := fun k => ?_, snap := ?_, lent := fun k id row h1 h2 => ?_, lemt := fun k id row h1 h2 => ?_, given := fun id hid => ?_ }
  · rw [hM _ (.inl rfl)]; exact h.free k
  · have key : ∀ xs ys, AllR (SnapD 6 M ids rd) xs ys → AllR (SnapD 6 M' ids rd) xs ys := by
      intro xs
      induction xs with
      | nil => intro ys h; cases ys <;> exact h
      | cons x xs ih => intro ys h; cases ys with
        | nil => exact h
        | cons y ys => exact ⟨snapD_congr 6 ids rd x y (fun id hid => hM id (.inr (.inr (.inr hid)))) h.1, ih ys h.2⟩
    exact key xs ys h.snap
  · rw [hM id (.inr (.inl (List.mem_of_getElem? h1)))]; exact h.lent k id row h1 h2
  · rw [hM id (.inr (.inr (.inl (List.mem_of_getElem? h1))))]; exact h.lemt k id row h1 h2
  · rw [hM id (.inr (.inr (.inr hid)))]; exact h.given id hid
end
def mvEnv : Nat → List Row → List (Id × Option Row)
  | _, [] => []
  | k, x :: r => ((mv, k), some x) :: mvEnv (k + 1) r
theorem getM_mv : ∀ (rs : List Row) (k : Nat) (id : Id), getM (mvEnv k rs) id = if id.1 = mv ∧ k ≤ id.2 then (rs[id.2 - k]?).map some else none
  | [], k, id => by simp [mvEnv, getM]
  | x :: rs, k, id => by
    simp only [mvEnv, getM]
    by_cases h1 : mv = id.1
    · by_cases h2 : k = id.2
      · have : (Nat.beq mv id.1 && Nat.beq k id.2) = true := by rw [← h1, ← h2]; simp
        rw [this, if_pos ⟨h1.symm, by omega⟩, show id.2 - k = 0 by omega]
        rfl
      · have : (Nat.beq mv id.1 && Nat.beq k id.2) = false := by rw [nbeq_false h2]; simp
        rw [this, cond_false, getM_mv rs (k + 1) id]
        by_cases h3 : k + 1 ≤ id.2
        · rw [if_pos ⟨h1.symm, h3⟩, if_pos ⟨h1.symm, by omega⟩, show id.2 - k = (id.2 - (k + 1)) + 1 by omega, List.getElem?_cons_succ]
        · rw [if_neg (fun h => h3 h.2), if_neg (fun h => h3 (by omega))]
    · have : (Nat.beq mv id.1 && Nat.beq k id.2) = false := by rw [nbeq_false h1]; simp
      rw [this, cond_false, getM_mv rs (k + 1) id, if_neg (fun h => h1 h.1.symm), if_neg (fun h => h1 h.1.symm)]
theorem memS_eq (ios mvs : List Row) : getM (ioEnv 0 ios ++ mvEnv 0 mvs) = memS ios mvs := by
  funext id
  rw [getM_app]
  have h1 := getM_io ios 0 id
  have h2 := getM_mv mvs 0 id
  simp only [Nat.zero_le, and_true, Nat.sub_zero] at h1 h2
  have hno : noMem.upds (ioEnv 0 ios) id = getM (ioEnv 0 ios) id := by
    have := congrFun (getM_app (ioEnv 0 ios) []) id
    rw [List.append_nil] at this
    exact this.symm
  rcases upds_or (getM (mvEnv 0 mvs)) (ioEnv 0 ios) id with ⟨g1, x, g2⟩ | ⟨g1, g2⟩
  · rw [g1, hno, h1]
    rw [hno, h1] at g2
    split at g2
    · rename_i hio
      simp only [memS, hio, if_true]
    · cases g2
  · rw [g1, h2]
    rw [hno, h1] at g2
    simp only [memS]
    by_cases hio : id.1 = io
    · rw [if_pos hio] at g2
      rw [if_pos hio, g2, if_neg (by rw [hio]; exact fun e => mv_io e.symm)]
    · rw [if_neg hio]
section
variable {P : Program} {st : St} {fn : Func} {ios' mvs' : List Row} {e : Exit}
end
end Go.Vs
set_option linter.unusedVariables false
set_option linter.unusedSimpArgs false
set_option linter.unusedSectionVars false
namespace Go.Vs
section
variable [fl : Inhabited FlrT]
def TZeroF (P : Program) (T : TypeId) : Prop := ∃ i z, P.info? T = some i ∧ i.zero = some z ∧ z.cells.size = 1 ∧ ∀ c ∈ z.cells.toList, c.oneCell' = true
section
variable {P : Program} {G : Nat → Prop} {ρ : Id → Option (Nat × Nat)} {w0 w : World} {X : List (Option (Nat × Nat))} {M : Mem}
theorem append_cap {T e : TypeId} {sz by_ : Nat} (hT : TSlice P T e sz by_) (hsz : 0 < sz) (hW : WRel G ρ w0 X M w) {sv xv : Value} {es news : List (List PV)} (hs : Rep ρ w (Stab G ρ M w) M sv (.clist sz es)) (hx : Src ρ w (Stab G ρ M w) xv sz news)
    (hpos : 0 < news.length) {id' : Id} (hid' : M id' = none) (hio' : id'.1 ≠ io) (ty : TypeId) (h63 : es.length + news.length ≤ maxLen) (hby : (es.length + news.length) * by_ ≤ 140737488355328) :
    ∃ ρ' w' v', (Builtin.append_ #[T, T] ty #[sv, xv]).run P w = .ok v' w' ∧ Trans G ρ M w ρ' (M.set id' (some ⟨e, sz, es ++ news, false⟩)) w' ∧
      WRel G ρ' w0 X (M.set id' (some ⟨e, sz, es ++ news, false⟩)) w' ∧ Rep ρ' w' (Stab G ρ' (M.set id' (some ⟨e, sz, es ++ news, false⟩)) w') (M.set id' (some ⟨e, sz, es ++ news, false⟩)) v' (.osl id' 0 (es.length + news.length)) := by
  obtain ⟨⟨a0, hsv⟩, hsl⟩ := rep_clist.1 hs
  have hsrc := src_list hsz hsl
  by_cases hnil : a0 = none ∧ es = []
  · obtain ⟨rfl, rfl⟩ := hnil
    rw [hsv]
    obtain ⟨ρ', w', v', e1, e2, e3, e4⟩ := append_nil hT hsz hW hx hid' hio' ty (by simpa using h63) (by simpa using hby)
    exact ⟨ρ', w', v', e1, by simpa using e2, by simpa using e3, by simpa using e4⟩
  · obtain ⟨ht, i, hi, hsize, hbytes, zv, hz, hzs⟩ := hT
    obtain ⟨sa, sc, olds, he, hsc, hol, hocell, hoone, horep⟩ := hsrc
    rw [hsv] at he
    injection he with he1 he2 he3
    subst he1
    obtain ⟨a, c, cells, rfl, hc, hl, hcell, hone, hrep⟩ := hx
    have hcp : 0 < cells.length := by rw [hl]; exact Nat.mul_pos hpos hsz
    obtain ⟨xa, rfl, _⟩ := hcell 0 cells[0] (List.getElem?_eq_getElem hcp)
    have hcell' : ∀ (j : Nat) u, cells[j]? = some u → w.cell? (xa.add j) = some u := fun j u hu => by
      obtain ⟨ad', e1, e2⟩ := hcell j u hu
      injection e1 with e1
      subst e1
      exact e2
    have hAd : ∃ ad, a0 = some ad := by
      cases a0 with
      | some ad => exact ⟨ad, rfl⟩
      | none =>
        exfalso
        have hne : es ≠ [] := fun e => hnil ⟨rfl, e⟩
        have : 0 < olds.length := by rw [hol]; exact Nat.mul_pos (List.length_pos_iff.2 hne) hsz
        obtain ⟨ad, e1, _⟩ := hocell 0 olds[0] (List.getElem?_eq_getElem this)
        cases e1
    obtain ⟨ad, rfl⟩ := hAd
    have hocell' : ∀ (j : Nat) u, olds[j]? = some u → w.cell? (ad.add j) = some u := fun j u hu => by
      obtain ⟨ad', e1, e2⟩ := hocell j u hu
      injection e1 with e1
      subst e1
      exact e2
    have hm : ((es.length + news.length : Nat) : Int) ≤ 9223372036854775807 := by unfold maxLen at h63; omega
    have hrun := run_append_grow (P := P) w T ty e i zv ht hi hz ad es.length es.length olds (by rw [hol, hsize]) hocell' xa news.length c cells (by rw [hl, hsize]) hcell' (by omega) hm
      (growslice_fits (by omega) (by rw [hbytes]; exact hby))
    have hge := grownCap_ge w (es.length + news.length) es.length e
    have hmx := grownCap_le_maxLen w (es.length + news.length) es.length e h63
    have hcsz : (olds.toArray ++ cells.toArray ++ Builtin.zeroCells zv.cells (grownCap w (es.length + news.length) es.length e - (es.length + news.length))).size = grownCap w (es.length + news.length) es.length e * sz := by
      simp only [Array.size_append, List.size_toArray, size_zeroCells, hzs, hol, hl, ← Nat.add_mul]; congr 1; omega
    have key : ∀ (i : Nat) el, (es ++ news)[i]? = some el → el.length = sz ∧ ∀ (j : Nat) u, el[j]? = some u →
        ∃ c, (olds.toArray ++ cells.toArray ++ Builtin.zeroCells zv.cells (grownCap w (es.length + news.length) es.length e - (es.length + news.length)))[i * sz + j]? = some c ∧ c.oneCell' = true ∧
          Rep ρ w (Stab G ρ M w) (if false = true then M else noMem) c u := by
      intro i el hi
      rw [list_two_at] at hi
      have hall : ∀ (k : Nat) cv, (olds ++ cells)[k]? = some cv → (olds.toArray ++ cells.toArray ++ Builtin.zeroCells zv.cells (grownCap w (es.length + news.length) es.length e - (es.length + news.length)))[k]? = some cv := by
        intro k cv hk
        have hlt := (List.getElem?_eq_some_iff.1 hk).1
        rw [Array.getElem?_append_left (by simpa using hlt)]
        simpa using hk
      split at hi
      · rename_i hin
        obtain ⟨m1, m2⟩ := horep i el hi
        refine ⟨m1, fun j u hu => ?_⟩
        obtain ⟨cv, n1, n3⟩ := m2 j u hu
        have hlt := (List.getElem?_eq_some_iff.1 n1).1
        exact ⟨cv, hall _ _ (by rw [List.getElem?_append_left hlt]; exact n1), hoone _ (List.mem_of_getElem? n1), by simpa using n3⟩
      · rename_i hin
        obtain ⟨m1, m2⟩ := hrep _ _ hi
        refine ⟨m1, fun j u hu => ?_⟩
        obtain ⟨cv, n1, n3⟩ := m2 j u hu
        have hsplit : i * sz = es.length * sz + (i - es.length) * sz := by rw [← Nat.add_mul]; congr 1; omega
        refine ⟨cv, hall _ _ ?_, hone _ (List.mem_of_getElem? n1), by simpa using n3⟩
        rw [List.getElem?_append_right (by omega), ← n1]
        congr 1
        omega
    obtain ⟨T, W⟩ := hW.newRow (id := id') hid' hio' ⟨e, sz, es ++ news, false⟩
      (cur := olds.toArray ++ cells.toArray ++ Builtin.zeroCells zv.cells (grownCap w (es.length + news.length) es.length e - (es.length + news.length))) (C := grownCap w (es.length + news.length) es.length e)
      (w' := w.drew.alloc (.cells (olds.toArray ++ cells.toArray ++ Builtin.zeroCells zv.cells (grownCap w (es.length + news.length) es.length e - (es.length + news.length))) e)) rfl rfl rfl rfl
      hcsz hmx (by simp; omega) hsz key
    refine ⟨_, _, _, by rw [hsv]; exact hrun, T, W, (rep_osl (r := ⟨e, sz, es ++ news, false⟩) (by simp [Mem.set])).2 ?_⟩
    simp only [setAt, if_true]
    refine ⟨_, _, rfl, by simp, hge, hmx, fun _ => ⟨by simp, _, heap_alloc_new w.drew _, ?_⟩⟩
    rw [hcsz]
    simp
theorem sem_of_res {o : Oper} {V : Nat → PV} {M : Mem} {f : Eff}
    (h : ∀ (V' : Nat → PV) (M' : Mem), (∀ x ∈ o.op.operands, ev V' x = ev V x) → (∀ id : Id, id.1 ∈ (f.rd ++ f.ups.map (·.1)).map (·.1) → M' id = M id) →
      ∀ (G : Nat → Prop) (ρ : Id → Option (Nat × Nat)) (w0 : World) (X : List (Option (Nat × Nat))) (a : Act) (w : World), WRel G ρ w0 X M' w → (∀ t, Rep ρ w (Stab G ρ M' w) M' (a.tmps.getD t undef) (V' t)) → OpRes P a o G ρ w0 X M' w f) : SemStep P o V M f := by
  intro V' M' hV' hM' G w0 X N a w K Q hdN _ ⟨ρ, hW, hdef, hs, hV⟩ hK
  exact wp_of_res hdN hdef hs hV (h V' M' hV' hM' G ρ w0 X a w hW hV) hK
end
section
variable {P : Program} {ops : Array Oper} {draw : Bool} {rest : List Oper} {env : List (Nat × PV)} {mem : List (Id × Option Row)} {tr : List (List Id × List Id)} {K : St → List (List Id × List Id) → Prop}
  {d : Nat} {ty : TypeId} {pos : String} {af : Array Edge} {x y c : Operand} {T yT : TypeId}
theorem x_slice3 {e sz by_ : Nat} {es : List (List PV)} {hi mx : Operand} {h : Int} (es' : List (List PV)) (hT : TSlice P T e sz by_) (hx : evO env x = some (.list sz es)) (hh : boundO env (0 : Nat) (some hi) = some h) (hm : boundO env (0 : Nat) (some mx) = some h)
    (hb : 0 ≤ h ∧ h ≤ es.length) (hes : es.take h.toNat = es') (hk : exec P ops draw rest ⟨(d, .clist sz es') :: env, mem⟩ (([], []) :: tr) K) : exec P ops draw (⟨some d, .slice T x none (some hi) (some mx), ty, pos, af, none⟩ :: rest) ⟨env, mem⟩ tr K := by
  subst hes
  obtain ⟨n, rfl⟩ : ∃ n : Nat, h = (n : Int) := ⟨h.toNat, by omega⟩
  rw [Int.toNat_natCast] at hk
  have hh' := boundO_ok hh hb.1
  have hm' := boundO_ok hm hb.1
  rw [Int.toNat_natCast] at hh' hm'
  have hx' := evO_ok hx
  refine x_sem ⟨.clist sz (es.take n), [], []⟩ rfl (sem_of_res fun V' M' hV' _ G ρ w0 X a w hW hV => ?_) hk
  have e1 : ev V' x = .list sz es := by rw [hV' x (by simp [Op.operands])]; exact hx'
  obtain ⟨k1, g1⟩ : ∃ k, ev V' hi = .int k (n : Int) := by rw [hV' hi (by simp [Op.operands])]; exact hh'
  obtain ⟨k2, g2⟩ : ∃ k, ev V' mx = .int k (n : Int) := by rw [hV' mx (by simp [Op.operands])]; exact hm'
  have r1 := rep_ev hV x
  rw [e1] at r1
  obtain ⟨ad0, cap, hxv, hcap, hc⟩ := rep_list.1 r1
  obtain ⟨ht, i, hi', hs, _⟩ := hT
  have q1 := rep_ev hV hi
  rw [g1] at q1
  have q2 := rep_ev hV mx
  rw [g2] at q2
  have hlen : (es.take n).length = n := by rw [List.length_take]; omega
  have hsb : ∀ (y : Nat) (code : BoundsCode), n ≤ y → (Instr.sliceBound (.int k1 (n : Int)) y code).run P w = .ok n w := fun y code hy => by simp [Instr.sliceBound, asIntOf, hy]
  have hsb2 : ∀ (y : Nat) (code : BoundsCode), n ≤ y → (Instr.sliceBound (.int k2 (n : Int)) y code).run P w = .ok n w := fun y code hy => by simp [Instr.sliceBound, asIntOf, hy]
  have hbd : (Instr.sliceBounds true es.length cap none (some (.int k1 (n : Int))) (some (.int k2 (n : Int)))).run P w = .ok (0, n, n) w := by
    simp [Instr.sliceBounds, hsb2 cap _ (by omega), hsb n _ (Nat.le_refl _)]
  refine OpRes.quiet hW (v := .slice (if n = 0 then ad0 else ad0.map (·.add (0 * sz))) (n - 0) (n - 0)) ?_ (rep_clist.2 ⟨⟨_, by rw [hlen]; rfl⟩, rep_list.2 ⟨_, n, by rw [hlen]; rfl, by rw [hlen]; exact Nat.le_refl _, fun hne => ?_⟩⟩)
  · simp only [execOp, hxv, Instr.sliceAt, Instr.slice, Sem.run_bind, run_underlying ht, Result.andThen_ok, rep_int.1 q1, rep_int.1 q2, Option.map_none, Option.map_some, hbd, sizeOf, typeInfo, run_program, hi', hs, Sem.run_pure]
  · have hne' : es ≠ [] := fun e => hne (by rw [e]; simp)
    obtain ⟨ad, rfl, hS, hcc⟩ := hc hne'
    have h0 : n ≠ 0 := fun e => hne (by rw [e]; simp)
    rw [if_neg h0]
    refine ⟨_, rfl, by rw [add_block]; exact hS, fun i e hi => ?_⟩
    rw [List.getElem?_take] at hi
    split at hi
    · obtain ⟨m1, m2⟩ := hcc _ _ hi
      rw [add_add, Nat.zero_mul, Nat.zero_add]
      exact ⟨m1, m2⟩
    · cases hi
theorem x_appCO {e sz by_ o2 m t2 z2 : Nat} {id2 : Id} {es1 es2 : List (List PV)} (es' news : List (List PV)) (hT : TSlice P T e sz by_) (hs : evO env x = some (.clist sz es1)) (hx : evO env y = some (.osl id2 o2 m))
    (hm2 : getM mem id2 = some (some ⟨t2, z2, es2, false⟩)) (hz2 : z2 = sz ∧ 0 < sz) (hnews : (es2.drop o2).take m = news) (hpos : 0 < news.length)
    (hb : es1.length + news.length ≤ 1099511627776 ∧ by_ ≤ 100) (hn : newB mem d = true) (hes : es1 ++ news = es') {n' : Nat} (hn' : es1.length + news.length = n')
    (hk : exec P ops draw rest ⟨(d, .osl (d, 0) 0 n') :: env, ((d, 0), some ⟨e, sz, es', false⟩) :: mem⟩ (([id2], [(d, 0)]) :: tr) K) :
    exec P ops draw (⟨some d, .call ⟨.builtin .append, #[x, y], #[T, T]⟩, ty, pos, af, none⟩ :: rest) ⟨env, mem⟩ tr K := by
  subst hes; subst hn'
  obtain ⟨hz2, hsz⟩ := hz2
  subst hz2
  have hs' := evO_ok hs
  have hx' := evO_ok hx
  obtain ⟨hdio, hnew⟩ := newB_ok hn
  refine x_sem ⟨.osl (d, 0) 0 (es1.length + news.length), [((d, 0), some ⟨e, z2, es1 ++ news, false⟩)], [id2]⟩ rfl (sem_of_res fun V' M' hV' hM' G ρ w0 X a w hW hV => ?_) hk
  have e1 : ev V' x = .clist z2 es1 := by rw [hV' x (by simp [Op.operands, Call.operands])]; exact hs'
  have e2 : ev V' y = .osl id2 o2 m := by rw [hV' y (by simp [Op.operands, Call.operands])]; exact hx'
  have g1 : M' id2 = some (some ⟨t2, z2, es2, false⟩) := by rw [hM' id2 (by simp)]; exact hm2
  have g2 : M' (d, 0) = none := by rw [hM' (d, 0) (by simp)]; exact hnew
  have r1 := rep_ev hV x
  rw [e1] at r1
  have r2 := rep_ev hV y
  rw [e2] at r2
  have hsrc := (src_osl hW g1 rfl hsz r2).1
  rw [show ((⟨t2, z2, es2, false⟩ : Row).es.drop o2).take m = news from hnews] at hsrc
  have hby : (es1.length + news.length) * by_ ≤ 140737488355328 := by
    have : (es1.length + news.length) * by_ ≤ 1099511627776 * 100 := Nat.mul_le_mul hb.1 hb.2
    omega
  obtain ⟨ρ', w', v', h1, h2, h3, h4⟩ := append_cap (P := P) hT hsz hW r1 hsrc hpos (id' := (d, 0)) g2 hdio ty (by unfold maxLen; omega) hby
  refine ⟨ρ', w', v', .inl ?_, h2, h3, h4⟩
  simp only [execOp, resolve, Sem.run_bind, Sem.run_pure, Result.andThen_ok, invoke, builtin, List.map_toArray, List.map_cons, List.map_nil, h1]
theorem x_allocF (hz : TZeroF P T) (hn : newB mem d = true)
    (hk : exec P ops draw rest ⟨(d, .own (d, 0) 0 0) :: env, ((d, 0), some ⟨T, 1, [[.any]], true⟩) :: mem⟩ (([], [(d, 0)]) :: tr) K) : exec P ops draw (⟨some d, .alloc T, ty, pos, af, none⟩ :: rest) ⟨env, mem⟩ tr K := by
  obtain ⟨hdio, hnew⟩ := newB_ok hn
  obtain ⟨i, z, hi, hz, hs, hone⟩ := hz
  refine x_sem ⟨.own (d, 0) 0 0, [((d, 0), some ⟨T, 1, [[.any]], true⟩)], []⟩ rfl (sem_of_res fun V' M' hV' hM' G ρ w0 X a w hW hV => ?_) hk
  have g2 : M' (d, 0) = none := by rw [hM' (d, 0) (by simp)]; exact hnew
  have hc : Comps ρ w (Stab G ρ M' w) M' z.cells [.any] := by
    refine ⟨hs, fun j u hu => ?_⟩
    cases j with
    | zero =>
      simp at hu
      subst hu
      exact ⟨z.cells[0], Array.getElem?_eq_getElem (by omega), rep_any⟩
    | succ j => simp at hu
  obtain ⟨ρ', h1, h2, h3⟩ := newBox hW (t := d) g2 hdio T hc hone (by simp) (by unfold maxLen; simp)
  refine ⟨ρ', _, _, .inl ?_, h1, h2, h3⟩
  simp [execOp, Instr.alloc, zeroValue, typeInfo, hi, hz, newVar, newRow]
end
end
end Go.Vs
