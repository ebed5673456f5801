/- VALUE SEMANTICS, 21: rules, one for each operation and shape of its operands; side goals of the form 'lookup = pattern' close by rfl. -/
import Derived.Test.YthjlolbooehhcaaVs20
set_option linter.unusedVariables false
set_option linter.unusedSimpArgs false
namespace Go.Vs
section
variable {P : Program} {ops : Array Oper} {draw : Bool} {rest : List Oper} {env : List (Nat × PV)} {mem : List (Id × Option Row)} {tr : List (List Id × List Id)} {K : St → List (List Id × List Id) → Prop}
  {d : Nat} {ty : TypeId} {pos : String} {af : Array Edge} {x y c : Operand} {T yT : TypeId}

theorem x_nil {st : St} (h : K st tr) : exec P ops draw [] st tr K := h

theorem x_op {o : Oper} {st : St} (f : Eff) (hg : o.guard = none) (h : OpStep P o.dst o.op st.V st.M f) (hk : exec P ops draw rest (st.app o.dst f) ((f.rd, f.ups.map (·.1)) :: tr) K) : exec P ops draw (o :: rest) st tr K :=
  .inr ⟨by simp [wantedPV, hg], .inl ⟨f, h, hk⟩⟩

/- guards -/
theorem x_guard {st : St} {dst : Option Tmp} {op : Op} {j : Nat} {b : Bool} {s : Nat} (hs : (ops[j]?).bind (·.dst) = some s) {b' : Bool} (hv : getE st.env s = .bool b') (hb : b' = b)
    (hk : exec P ops draw (⟨dst, op, ty, pos, af, none⟩ :: rest) st tr K) : exec P ops draw (⟨dst, op, ty, pos, af, some (j, b)⟩ :: rest) st tr K := by
  have hw : wantedPV ops st.V (⟨dst, op, ty, pos, af, some (j, b)⟩ : Oper) = some true := by simp [wantedPV, hs, hv, hb]
  rcases hk with ⟨h, _⟩ | ⟨_, h⟩
  · simp [wantedPV] at h
  · exact .inr ⟨hw, by
      rcases h with h | ⟨t, al, fz, ids, rd, ios, Post, hc, h⟩
      · exact .inl h
      · exact .inr ⟨t, al, fz, ids, rd, ios, Post, ⟨hc.ok⟩, h⟩⟩
theorem x_skip {st : St} {dst : Option Tmp} {op : Op} {j : Nat} {b b' : Bool} {s : Nat} (hs : (ops[j]?).bind (·.dst) = some s) (hv : getE st.env s = .bool b') (hb : b' = !b)
    (hk : exec P ops draw rest ⟨putE st.env dst (.tuple []), st.mem⟩ (([], []) :: tr) K) : exec P ops draw (⟨dst, op, ty, pos, af, some (j, b)⟩ :: rest) st tr K :=
  .inl ⟨by cases b <;> simp [wantedPV, hs, hv, hb], hk⟩
theorem x_skip_u {st : St} {dst : Option Tmp} {op : Op} {j : Nat} {b : Bool} {s : Nat} (hs : (ops[j]?).bind (·.dst) = some s) (hv : getE st.env s = .tuple [])
    (hk : exec P ops draw rest ⟨putE st.env dst (.tuple []), st.mem⟩ (([], []) :: tr) K) : exec P ops draw (⟨dst, op, ty, pos, af, some (j, b)⟩ :: rest) st tr K :=
  .inl ⟨by simp [wantedPV, hs, hv], hk⟩
theorem x_split {l : List Oper} {s : Nat} {b : Bool} (hv : getE env s = .bool b) (h1 : b = true → exec P ops draw l ⟨env, mem⟩ tr K) (h2 : b = false → exec P ops draw l ⟨env, mem⟩ tr K) : exec P ops draw l ⟨env, mem⟩ tr K := by
  cases b
  · exact h2 rfl
  · exact h1 rfl

/- a value under the name of its shape -/
theorem x_move (v : PV) (hv : ev (getE env) x = v) (hk : exec P ops draw rest ⟨(d, v) :: env, mem⟩ (([], []) :: tr) K) : exec P ops draw (⟨some d, .move x, ty, pos, af, none⟩ :: rest) ⟨env, mem⟩ tr K :=
  x_op ⟨v, [], []⟩ rfl (by rw [← hv]; rfl) hk
theorem x_assign (v : PV) (hv : ev (getE env) x = v) (hk : exec P ops draw rest ⟨(d, v) :: env, mem⟩ (([], []) :: tr) K) : exec P ops draw (⟨some d, .assign x, ty, pos, af, none⟩ :: rest) ⟨env, mem⟩ tr K :=
  x_op ⟨v, [], []⟩ rfl (by rw [← hv]; rfl) hk
theorem x_pick_t {a b : Operand} {t : Bool} (v : PV) (hc : ev (getE env) c = .bool t) (ht : t = true) (hv : ev (getE env) a = v) (hk : exec P ops draw rest ⟨(d, v) :: env, mem⟩ (([], []) :: tr) K) :
    exec P ops draw (⟨some d, .pick c a b, ty, pos, af, none⟩ :: rest) ⟨env, mem⟩ tr K :=
  x_op ⟨v, [], []⟩ rfl ⟨true, by rw [← ht]; exact hc, by rw [← hv]; rfl⟩ hk
theorem x_pick_f {a b : Operand} {t : Bool} (v : PV) (hc : ev (getE env) c = .bool t) (ht : t = false) (hv : ev (getE env) b = v) (hk : exec P ops draw rest ⟨(d, v) :: env, mem⟩ (([], []) :: tr) K) :
    exec P ops draw (⟨some d, .pick c a b, ty, pos, af, none⟩ :: rest) ⟨env, mem⟩ tr K :=
  x_op ⟨v, [], []⟩ rfl ⟨false, by rw [← ht]; exact hc, by rw [← hv]; rfl⟩ hk
theorem x_nil_p {us : List PV} (h : ev (getE env) x = .ptr us) (hk : exec P ops draw rest ⟨(d, .ptr us) :: env, mem⟩ (([], []) :: tr) K) : exec P ops draw (⟨some d, .nilCheck x, ty, pos, af, none⟩ :: rest) ⟨env, mem⟩ tr K :=
  x_op ⟨.ptr us, [], []⟩ rfl (.inl ⟨us, h, rfl⟩) hk
theorem x_nil_o {id : Id} {i off : Nat} {r : Row} (h : ev (getE env) x = .own id i off) (hm : getM mem id = some (some r)) (hk : exec P ops draw rest ⟨(d, .own id i off) :: env, mem⟩ (([id], []) :: tr) K) :
    exec P ops draw (⟨some d, .nilCheck x, ty, pos, af, none⟩ :: rest) ⟨env, mem⟩ tr K :=
  x_op ⟨.own id i off, [], [id]⟩ rfl (.inr (.inl ⟨id, i, off, r, h, hm, rfl⟩)) hk
theorem x_nil_f {g : FuncId} {a b : List PV} (h : ev (getE env) x = .fn g a b) (hk : exec P ops draw rest ⟨(d, .fn g a b) :: env, mem⟩ (([], []) :: tr) K) : exec P ops draw (⟨some d, .nilCheck x, ty, pos, af, none⟩ :: rest) ⟨env, mem⟩ tr K :=
  x_op ⟨.fn g a b, [], []⟩ rfl (.inr (.inr ⟨g, a, b, h, rfl⟩)) hk
theorem x_extract {i : Nat} {vs : List PV} (u : PV) (h : ev (getE env) x = .tuple vs) (hu : vs[i]? = some u) (hk : exec P ops draw rest ⟨(d, u) :: env, mem⟩ (([], []) :: tr) K) :
    exec P ops draw (⟨some d, .extract x i, ty, pos, af, none⟩ :: rest) ⟨env, mem⟩ tr K :=
  x_op ⟨u, [], []⟩ rfl ⟨vs, u, h, hu, rfl⟩ hk
theorem x_bin {op : BinOp} {k : IntKind} {m n : Int} (r : PV) (hx : ev (getE env) x = .int k m) (hy : ev (getE env) y = .int k n) (hr : intBin op k m n = some r)
    (hk : exec P ops draw rest ⟨(d, r) :: env, mem⟩ (([], []) :: tr) K) : exec P ops draw (⟨some d, .binOp op T x y yT, ty, pos, af, none⟩ :: rest) ⟨env, mem⟩ tr K :=
  x_op ⟨r, [], []⟩ rfl ⟨r, by simp only [BinOk, hx, hy]; exact ⟨.inl trivial, hr⟩, rfl⟩ hk
theorem x_shr {k k' : IntKind} {m n : Int} (r : PV) (hx : ev (getE env) x = .int k m) (hy : ev (getE env) y = .int k' n) (hr : intBin .shr k m n = some r)
    (hk : exec P ops draw rest ⟨(d, r) :: env, mem⟩ (([], []) :: tr) K) : exec P ops draw (⟨some d, .binOp .shr T x y yT, ty, pos, af, none⟩ :: rest) ⟨env, mem⟩ tr K :=
  x_op ⟨r, [], []⟩ rfl ⟨r, by simp only [BinOk, hx, hy]; exact ⟨.inr trivial, hr⟩, rfl⟩ hk
theorem wrap_in {n : Int} (h : -9223372036854775808 ≤ n ∧ n ≤ 9223372036854775807) : IntKind.i64.wrap n = n := by rw [IntKind.wrap_i64]; omega
theorem x_add {m n : Int} (hx : ev (getE env) x = .int .i64 m) (hy : ev (getE env) y = .int .i64 n) (hb : -9223372036854775808 ≤ m + n ∧ m + n ≤ 9223372036854775807)
    (hk : exec P ops draw rest ⟨(d, .int .i64 (m + n)) :: env, mem⟩ (([], []) :: tr) K) : exec P ops draw (⟨some d, .binOp .add T x y yT, ty, pos, af, none⟩ :: rest) ⟨env, mem⟩ tr K :=
  x_bin _ hx hy (by simp only [intBin, wrap_in hb]) hk
theorem x_sub {m n : Int} (hx : ev (getE env) x = .int .i64 m) (hy : ev (getE env) y = .int .i64 n) (hb : -9223372036854775808 ≤ m - n ∧ m - n ≤ 9223372036854775807)
    (hk : exec P ops draw rest ⟨(d, .int .i64 (m - n)) :: env, mem⟩ (([], []) :: tr) K) : exec P ops draw (⟨some d, .binOp .sub T x y yT, ty, pos, af, none⟩ :: rest) ⟨env, mem⟩ tr K :=
  x_bin _ hx hy (by simp only [intBin, wrap_in hb]) hk
theorem x_mul {m n : Int} (hx : ev (getE env) x = .int .i64 m) (hy : ev (getE env) y = .int .i64 n) (hb : -9223372036854775808 ≤ m * n ∧ m * n ≤ 9223372036854775807)
    (hk : exec P ops draw rest ⟨(d, .int .i64 (m * n)) :: env, mem⟩ (([], []) :: tr) K) : exec P ops draw (⟨some d, .binOp .mul T x y yT, ty, pos, af, none⟩ :: rest) ⟨env, mem⟩ tr K :=
  x_bin _ hx hy (by simp only [intBin, wrap_in hb]) hk
theorem x_quo {m n : Int} (hx : ev (getE env) x = .int .i64 m) (hy : ev (getE env) y = .int .i64 n) (hb : 0 ≤ m ∧ m ≤ 9223372036854775807 ∧ 1 ≤ n)
    (hk : exec P ops draw rest ⟨(d, .int .i64 (m / n)) :: env, mem⟩ (([], []) :: tr) K) : exec P ops draw (⟨some d, .binOp .quo T x y yT, ty, pos, af, none⟩ :: rest) ⟨env, mem⟩ tr K :=
  x_bin _ hx hy (by
    have h0 : n ≠ 0 := by omega
    have h1 : m.tdiv n = m / n := Int.tdiv_eq_ediv_of_nonneg hb.1
    have h2 : m / n ≤ m := Int.ediv_le_self _ hb.1
    have h3 : 0 ≤ m / n := Int.ediv_nonneg hb.1 (by omega)
    simp only [intBin, if_neg h0, h1]
    rw [wrap_in (by omega)]) hk
theorem x_rem {m n : Int} (hx : ev (getE env) x = .int .i64 m) (hy : ev (getE env) y = .int .i64 n) (hb : 0 ≤ m ∧ 1 ≤ n)
    (hk : exec P ops draw rest ⟨(d, .int .i64 (m % n)) :: env, mem⟩ (([], []) :: tr) K) : exec P ops draw (⟨some d, .binOp .rem T x y yT, ty, pos, af, none⟩ :: rest) ⟨env, mem⟩ tr K :=
  x_bin _ hx hy (by
    have h0 : n ≠ 0 := by omega
    simp only [intBin, if_neg h0, Int.tmod_eq_emod_of_nonneg hb.1]) hk
theorem x_boolEq {m n : Bool} (hT : P.underlying T = some .bool) (hx : ev (getE env) x = .bool m) (hy : ev (getE env) y = .bool n)
    (hk : exec P ops draw rest ⟨(d, .bool (m == n)) :: env, mem⟩ (([], []) :: tr) K) : exec P ops draw (⟨some d, .binOp .eql T x y yT, ty, pos, af, none⟩ :: rest) ⟨env, mem⟩ tr K :=
  x_op ⟨.bool (m == n), [], []⟩ rfl ⟨_, by simp only [BinOk, hx, hy]; exact ⟨hT, .inl ⟨trivial, trivial⟩⟩, rfl⟩ hk
theorem x_boolNe {m n : Bool} (hT : P.underlying T = some .bool) (hx : ev (getE env) x = .bool m) (hy : ev (getE env) y = .bool n)
    (hk : exec P ops draw rest ⟨(d, .bool (!(m == n))) :: env, mem⟩ (([], []) :: tr) K) : exec P ops draw (⟨some d, .binOp .neq T x y yT, ty, pos, af, none⟩ :: rest) ⟨env, mem⟩ tr K :=
  x_op ⟨.bool (!(m == n)), [], []⟩ rfl ⟨_, by simp only [BinOk, hx, hy]; exact ⟨hT, .inr ⟨trivial, trivial⟩⟩, rfl⟩ hk
theorem x_strBin {op : BinOp} {m n : ByteArray} (r : PV) (hx : ev (getE env) x = .str m) (hy : ev (getE env) y = .str n) (hr : strBin op m n = some r)
    (hk : exec P ops draw rest ⟨(d, r) :: env, mem⟩ (([], []) :: tr) K) : exec P ops draw (⟨some d, .binOp op T x y yT, ty, pos, af, none⟩ :: rest) ⟨env, mem⟩ tr K :=
  x_op ⟨r, [], []⟩ rfl ⟨r, by simp only [BinOk, hx, hy]; exact hr, rfl⟩ hk
theorem x_not {b : Bool} (h : ev (getE env) x = .bool b) (hk : exec P ops draw rest ⟨(d, .bool (!b)) :: env, mem⟩ (([], []) :: tr) K) : exec P ops draw (⟨some d, .unOp .not T x, ty, pos, af, none⟩ :: rest) ⟨env, mem⟩ tr K :=
  x_op ⟨.bool (!b), [], []⟩ rfl (.inl ⟨b, rfl, h, rfl⟩) hk
theorem x_neg {n : Int} (h : ev (getE env) x = .int .i64 n) (hb : -9223372036854775808 < n ∧ n ≤ 9223372036854775807) (hk : exec P ops draw rest ⟨(d, .int .i64 (-n)) :: env, mem⟩ (([], []) :: tr) K) :
    exec P ops draw (⟨some d, .unOp .neg T x, ty, pos, af, none⟩ :: rest) ⟨env, mem⟩ tr K :=
  x_op ⟨.int .i64 (-n), [], []⟩ rfl (.inr ⟨.i64, n, rfl, h, by rw [wrap_in (by omega)]; simp⟩) hk
theorem x_convert {k k' : IntKind} {n : Int} {S : TypeId} {ds : TypeDesc} (hs : P.underlying S = some ds) (hd : P.underlying T = some (.int k)) (h : ev (getE env) x = .int k' n)
    (hk : exec P ops draw rest ⟨(d, .int k (k.wrap n)) :: env, mem⟩ (([], []) :: tr) K) : exec P ops draw (⟨some d, .convert S T x, ty, pos, af, none⟩ :: rest) ⟨env, mem⟩ tr K :=
  x_op ⟨.int k (k.wrap n), [], []⟩ rfl ⟨k, k', n, ds, hs, hd, h, rfl⟩ hk
theorem x_convert_i {k' : IntKind} {n : Int} {S : TypeId} {ds : TypeDesc} (hs : P.underlying S = some ds) (hd : P.underlying T = some (.int .i64)) (h : ev (getE env) x = .int k' n) (hb : -9223372036854775808 ≤ n ∧ n ≤ 9223372036854775807)
    (hk : exec P ops draw rest ⟨(d, .int .i64 n) :: env, mem⟩ (([], []) :: tr) K) : exec P ops draw (⟨some d, .convert S T x, ty, pos, af, none⟩ :: rest) ⟨env, mem⟩ tr K :=
  x_op ⟨.int .i64 n, [], []⟩ rfl ⟨.i64, k', n, ds, hs, hd, h, by rw [wrap_in hb]⟩ hk

def liveB (mem : List (Id × Option Row)) : PV → Bool
  | .own id _ _ => match getM mem id with | some (some _) => true | _ => false
  | .osl id _ _ => match getM mem id with | some (some _) => true | _ => false
  | _ => true
theorem liveB_ok {u : PV} (h : liveB mem u = true) : live (getM mem) u := by
  cases u <;> try trivial
  case own id i off =>
    simp only [liveB] at h
    cases hm : getM mem id with
    | none => rw [hm] at h; cases h
    | some o => cases o with
      | none => rw [hm] at h; cases h
      | some r => exact ⟨r, hm⟩
  case osl id i off =>
    simp only [liveB] at h
    cases hm : getM mem id with
    | none => rw [hm] at h; cases h
    | some o => cases o with
      | none => rw [hm] at h; cases h
      | some r => exact ⟨r, hm⟩
def boxOk (mem : List (Id × Option Row)) (d : Nat) (cs : List PV) : Bool :=
  (match getM mem (d, 0) with | none => true | _ => false) && !cs.isEmpty && Nat.ble cs.length 1000 && cs.all PV.one && cs.all (liveB mem) && !Nat.beq d io
theorem boxOk_ok {cs : List PV} (h : boxOk mem d cs = true) : d ≠ io ∧ getM mem (d, 0) = none ∧ cs ≠ [] ∧ cs.length ≤ maxLen ∧ cs.all PV.one = true ∧ ∀ u ∈ cs, live (getM mem) u := by
  simp only [boxOk, Bool.and_eq_true] at h
  obtain ⟨⟨⟨⟨⟨h1, h2⟩, h3⟩, h4⟩, h5⟩, h6⟩ := h
  refine ⟨fun e => ?_, ?_, (fun e => by rw [e] at h2; cases h2), ?_, h4, fun u hu => liveB_ok (List.all_eq_true.1 h5 u hu)⟩
  · rw [e] at h6; simp at h6
  · cases hm : getM mem (d, 0) with
    | none => rfl
    | some o => rw [hm] at h1; cases h1
  · have := Nat.le_of_ble_eq_true h3; unfold maxLen; omega
theorem x_box (cs : List PV) (hc : (ev (getE env) x).cells = cs) (hok : boxOk mem d cs = true)
    (hk : exec P ops draw rest ⟨(d, .own (d, 0) 0 0) :: env, ((d, 0), some ⟨T, cs.length, [cs], true⟩) :: mem⟩ ((rids cs, [(d, 0)]) :: tr) K) : exec P ops draw (⟨some d, .box T x, ty, pos, af, none⟩ :: rest) ⟨env, mem⟩ tr K := by
  obtain ⟨h1, h2, h3, h4, h5, h6⟩ := boxOk_ok hok
  subst hc
  exact x_op ⟨.own (d, 0) 0 0, [((d, 0), some ⟨T, _, [(ev (getE env) x).cells], true⟩)], rids (ev (getE env) x).cells⟩ rfl ⟨d, rfl, h1, h2, h3, h4, h5, h6, rfl⟩ hk
def allocOk (mem : List (Id × Option Row)) (d : Nat) (cs : List PV) : Bool :=
  (match getM mem (d, 0) with | none => true | _ => false) && !cs.isEmpty && Nat.ble cs.length 1000 && cs.all PV.pure1 && !Nat.beq d io
theorem x_alloc (cs : List PV) (hz : TZero P T cs) (hok : allocOk mem d cs = true)
    (hk : exec P ops draw rest ⟨(d, .own (d, 0) 0 0) :: env, ((d, 0), some ⟨T, cs.length, [cs], true⟩) :: mem⟩ (([], [(d, 0)]) :: tr) K) : exec P ops draw (⟨some d, .alloc T, ty, pos, af, none⟩ :: rest) ⟨env, mem⟩ tr K := by
  simp only [allocOk, Bool.and_eq_true] at hok
  obtain ⟨⟨⟨⟨h1, h2⟩, h3⟩, h4⟩, h6⟩ := hok
  refine x_op ⟨.own (d, 0) 0 0, [((d, 0), some ⟨T, cs.length, [cs], true⟩)], []⟩ rfl ⟨d, cs, rfl, fun e => ?_, ?_, hz, (fun e => by rw [e] at h2; cases h2), ?_, h4, rfl⟩ hk
  · rw [e] at h6; simp at h6
  · show getM mem (d, 0) = none
    cases hm : getM mem (d, 0) with
    | none => rfl
    | some o => rw [hm] at h1; cases h1
  · have := Nat.le_of_ble_eq_true h3; unfold maxLen; omega
theorem x_build {parts : List (Nat × Operand)} {places : List (Nat × Nat)} {zs : List PV} (cs : List PV) (hT : TStruct P T places zs)
    (hone : (parts.all fun p => (ev (getE env) p.2).cells.all PV.one && (ev (getE env) p.2).cells.all (liveB mem)) = true)
    (hb : buildPV places zs (parts.map fun p => (p.1, ev (getE env) p.2)) = some cs)
    (hk : exec P ops draw rest ⟨(d, .agg cs) :: env, mem⟩ ((rids (parts.flatMap fun p => (ev (getE env) p.2).cells), []) :: tr) K) : exec P ops draw (⟨some d, .build T parts.toArray, ty, pos, af, none⟩ :: rest) ⟨env, mem⟩ tr K :=
  x_op ⟨.agg cs, [], rids (parts.flatMap fun p => (ev (getE env) p.2).cells)⟩ rfl ⟨places, zs, cs, fun p hp => by
    have := List.all_eq_true.1 hone p (by simpa using hp)
    rw [Bool.and_eq_true] at this
    exact ⟨this.1, fun u hu => liveB_ok (List.all_eq_true.1 this.2 u hu)⟩, hT, by simpa using hb, by simp⟩ (by simpa [St.app, putE] using hk)
theorem x_buildSlice {parts : List (Nat × Operand)} {n e sz by_ : Nat} (es : List (List PV)) (hT : TSlice P T e sz by_) (hes : (parts.map fun p => (ev (getE env) p.2).cells) = es)
    (hok : ((match getM mem (d, 0) with | none => true | _ => false) && Nat.ble 1 sz && Nat.ble (n * sz) 16777216 && (parts.map (·.1) == List.range n) && (es.all fun c => Nat.beq c.length sz && c.all PV.pure1) && !Nat.beq d io) = true)
    (hk : exec P ops draw rest ⟨(d, .osl (d, 0) 0 n) :: env, ((d, 0), some ⟨e, sz, es, false⟩) :: mem⟩ (([], [(d, 0)]) :: tr) K) : exec P ops draw (⟨some d, .buildSlice T n parts.toArray, ty, pos, af, none⟩ :: rest) ⟨env, mem⟩ tr K := by
  simp only [Bool.and_eq_true] at hok
  obtain ⟨⟨⟨⟨⟨h1, h2⟩, h3⟩, h4⟩, h5⟩, h6⟩ := hok
  subst hes
  refine x_op ⟨.osl (d, 0) 0 n, [((d, 0), some ⟨e, sz, parts.toArray.toList.map fun p => (ev (getE env) p.2).cells, false⟩)], []⟩ rfl ⟨d, e, sz, by_, rfl, fun he => ?_, ?_, hT, Nat.le_of_ble_eq_true h2, Nat.le_of_ble_eq_true h3, ?_, fun p hp => ?_, rfl⟩ ?_
  · rw [he] at h6; simp at h6
  · show getM mem (d, 0) = none
    cases hm : getM mem (d, 0) with
    | none => rfl
    | some o => rw [hm] at h1; cases h1
  · simpa using h4
  · have := List.all_eq_true.1 h5 _ (List.mem_map_of_mem (f := fun p : Nat × Operand => (ev (getE env) p.2).cells) (by simpa using hp))
    rw [Bool.and_eq_true] at this
    exact ⟨Nat.eq_of_beq_eq_true this.1, this.2⟩
  · simpa [St.app, putE] using hk
theorem x_load_pc {u : PV} {us : List PV} (hT : TCell P T) (h : ev (getE env) x = .ptr (u :: us)) (hk : exec P ops draw rest ⟨(d, u) :: env, mem⟩ (([], []) :: tr) K) :
    exec P ops draw (⟨some d, .load T x, ty, pos, af, none⟩ :: rest) ⟨env, mem⟩ tr K :=
  x_op ⟨u, [], []⟩ rfl (.inl ⟨hT, .inl ⟨u, us, h, rfl⟩⟩) hk
theorem x_load_oc {id : Id} {i off : Nat} {r : Row} {e : List PV} (u : PV) (hT : TCell P T) (h : ev (getE env) x = .own id i off) (hm : getM mem id = some (some r)) (he : r.es[i]? = some e) (hu : e[off]? = some u)
    (hk : exec P ops draw rest ⟨(d, u) :: env, mem⟩ (([id], []) :: tr) K) : exec P ops draw (⟨some d, .load T x, ty, pos, af, none⟩ :: rest) ⟨env, mem⟩ tr K :=
  x_op ⟨u, [], [id]⟩ rfl (.inl ⟨hT, .inr ⟨id, i, off, r, e, u, h, hm, he, hu, rfl⟩⟩) hk
theorem x_load_pa {k : Nat} {us : List PV} (cs : List PV) (hT : TAgg P T k) (h : ev (getE env) x = .ptr us) (hl : k ≤ us.length) (hc : us.take k = cs) (hk : exec P ops draw rest ⟨(d, .agg cs) :: env, mem⟩ (([], []) :: tr) K) :
    exec P ops draw (⟨some d, .load T x, ty, pos, af, none⟩ :: rest) ⟨env, mem⟩ tr K :=
  x_op ⟨.agg cs, [], []⟩ rfl (.inr ⟨k, hT, .inl ⟨us, h, hl, by rw [hc]⟩⟩) hk
theorem x_load_oa {k : Nat} {id : Id} {i off : Nat} {r : Row} {e : List PV} (cs : List PV) (hT : TAgg P T k) (h : ev (getE env) x = .own id i off) (hm : getM mem id = some (some r)) (he : r.es[i]? = some e) (hl : off + k ≤ e.length)
    (hc : (e.drop off).take k = cs) (hk : exec P ops draw rest ⟨(d, .agg cs) :: env, mem⟩ (([id], []) :: tr) K) : exec P ops draw (⟨some d, .load T x, ty, pos, af, none⟩ :: rest) ⟨env, mem⟩ tr K :=
  x_op ⟨.agg cs, [], [id]⟩ rfl (.inr ⟨k, hT, .inr ⟨id, i, off, r, e, h, hm, he, hl, by rw [hc]⟩⟩) hk
theorem x_field_p {i off : Nat} {us : List PV} (vs : List PV) (hT : TField P T i off) (h : ev (getE env) x = .ptr us) (hv : us.drop off = vs) (hk : exec P ops draw rest ⟨(d, .ptr vs) :: env, mem⟩ (([], []) :: tr) K) :
    exec P ops draw (⟨some d, .fieldAddr T x i, ty, pos, af, none⟩ :: rest) ⟨env, mem⟩ tr K :=
  x_op ⟨.ptr vs, [], []⟩ rfl ⟨off, hT, .inl ⟨us, h, by rw [hv]⟩⟩ hk
theorem x_field_o {i off : Nat} {id : Id} {k o : Nat} {r : Row} (o' : Nat) (hT : TField P T i off) (h : ev (getE env) x = .own id k o) (hm : getM mem id = some (some r)) (ho : Nat.add o off = o')
    (hk : exec P ops draw rest ⟨(d, .own id k o') :: env, mem⟩ (([id], []) :: tr) K) : exec P ops draw (⟨some d, .fieldAddr T x i, ty, pos, af, none⟩ :: rest) ⟨env, mem⟩ tr K :=
  x_op ⟨.own id k o', [], [id]⟩ rfl ⟨off, hT, .inr ⟨id, k, o, r, h, hm, by rw [← ho]; rfl⟩⟩ hk
theorem x_index_l {ix : Operand} {e sz by_ : Nat} {k : IntKind} {n : Int} {es : List (List PV)} (el : List PV) (hT : TSlice P T e sz by_) (h : ev (getE env) x = .list sz es) (hi : ev (getE env) ix = .int k n)
    (h0 : 0 ≤ n) (hel : es[n.toNat]? = some el) (hk : exec P ops draw rest ⟨(d, .ptr el) :: env, mem⟩ (([], []) :: tr) K) : exec P ops draw (⟨some d, .indexAddr T x ix, ty, pos, af, none⟩ :: rest) ⟨env, mem⟩ tr K :=
  x_op ⟨.ptr el, [], []⟩ rfl ⟨e, sz, by_, k, n, hT, hi, h0, .inl ⟨es, el, h, hel, rfl⟩⟩ hk
theorem x_index_o {ix : Operand} {e sz by_ o m : Nat} {k : IntKind} {n : Int} {id : Id} {r : Row} (i' : Nat) (hT : TSlice P T e sz by_) (h : ev (getE env) x = .osl id o m) (hi : ev (getE env) ix = .int k n)
    (hm : getM mem id = some (some r)) (hz : r.sz = sz) (h0 : 0 ≤ n) (hlt : n.toNat < m) (he : o + n.toNat = i') (hk : exec P ops draw rest ⟨(d, .own id i' 0) :: env, mem⟩ (([id], []) :: tr) K) :
    exec P ops draw (⟨some d, .indexAddr T x ix, ty, pos, af, none⟩ :: rest) ⟨env, mem⟩ tr K :=
  x_op ⟨.own id i' 0, [], [id]⟩ rfl ⟨e, sz, by_, k, n, hT, hi, h0, .inr ⟨id, o, m, r, h, hm, hz, hlt, by rw [he]⟩⟩ hk
theorem x_index_s {ix : Operand} {k : IntKind} {n : Int} {s : ByteArray} (b : UInt8) (hT : P.underlying T = some .string) (h : ev (getE env) x = .str s) (hi : ev (getE env) ix = .int k n) (h0 : 0 ≤ n) (hb : s[n.toNat]? = some b)
    (hk : exec P ops draw rest ⟨(d, .int .u8 b.toNat) :: env, mem⟩ (([], []) :: tr) K) : exec P ops draw (⟨some d, .index T x ix, ty, pos, af, none⟩ :: rest) ⟨env, mem⟩ tr K :=
  x_op ⟨.int .u8 b.toNat, [], []⟩ rfl ⟨hT, s, k, n, b, h, hi, h0, hb, rfl⟩ hk
theorem x_store {id : Id} {i off k : Nat} {r : Row} {e : List PV} (cs : List PV) (es' : List (List PV)) (h : ev (getE env) x = .own id i off) (hm : getM mem id = some (some r)) (he : r.es[i]? = some e) (hT : TSize P T k)
    (hc : (ev (getE env) y).cells = cs) (hl : Nat.beq cs.length k = true) (hfit : off + k ≤ e.length) (hone : (cs.all PV.one && cs.all (liveB mem) && (r.bx || cs.all PV.pure1)) = true)
    (hes : r.es.set i (e.take off ++ cs ++ e.drop (off + k)) = es')
    (hk : exec P ops draw rest ⟨env, (id, some ⟨r.ty, r.sz, es', r.bx⟩) :: mem⟩ ((id :: rids cs, [id]) :: tr) K) : exec P ops draw (⟨none, .store T x y, ty, pos, af, none⟩ :: rest) ⟨env, mem⟩ tr K := by
  simp only [Bool.and_eq_true, Bool.or_eq_true] at hone
  subst hc
  subst hes
  have hk' := Nat.eq_of_beq_eq_true hl
  exact x_op ⟨.any, [(id, some { r with es := r.es.set i (e.take off ++ (ev (getE env) y).cells ++ e.drop (off + k)) })], id :: rids (ev (getE env) y).cells⟩ rfl
    ⟨id, i, off, r, e, k, h, hm, he, hT, hk', hfit, hone.1.1, fun u hu => liveB_ok (List.all_eq_true.1 hone.1.2 u hu), hone.2, rfl⟩ hk
theorem x_mkfn {g : FuncId} {fi ca : List Operand} (a b : List PV) (ha : fi.map (ev (getE env)) = a) (hb : ca.map (ev (getE env)) = b) (hk : exec P ops draw rest ⟨(d, .fn g a b) :: env, mem⟩ (([], []) :: tr) K) :
    exec P ops draw (⟨some d, .makeFunc (.func g) fi.toArray ca.toArray, ty, pos, af, none⟩ :: rest) ⟨env, mem⟩ tr K :=
  x_op ⟨.fn g a b, [], []⟩ rfl ⟨g, rfl, by simp [ha, hb]⟩ hk
theorem x_len_l {sz e : Nat} {es : List (List PV)} (hT : P.underlying T = some (.slice e)) (h : ev (getE env) x = .list sz es) (hk : exec P ops draw rest ⟨(d, .int .i64 es.length) :: env, mem⟩ (([], []) :: tr) K) :
    exec P ops draw (⟨some d, .call ⟨.builtin .len, #[x], #[T]⟩, ty, pos, af, none⟩ :: rest) ⟨env, mem⟩ tr K :=
  x_op ⟨.int .i64 es.length, [], []⟩ rfl ⟨x, T, es.length, [], rfl, rfl, rfl, .inl ⟨e, hT, .inl ⟨sz, es, h, rfl⟩⟩⟩ hk
theorem x_len_o {e o n : Nat} {id : Id} {r : Row} (hT : P.underlying T = some (.slice e)) (h : ev (getE env) x = .osl id o n) (hm : getM mem id = some (some r)) (hk : exec P ops draw rest ⟨(d, .int .i64 n) :: env, mem⟩ (([id], []) :: tr) K) :
    exec P ops draw (⟨some d, .call ⟨.builtin .len, #[x], #[T]⟩, ty, pos, af, none⟩ :: rest) ⟨env, mem⟩ tr K :=
  x_op ⟨.int .i64 n, [], [id]⟩ rfl ⟨x, T, n, [id], rfl, rfl, rfl, .inl ⟨e, hT, .inr (.inl ⟨id, o, r, h, hm, rfl⟩)⟩⟩ hk
theorem x_len_n {e : Nat} (hT : P.underlying T = some (.slice e)) (h : ev (getE env) x = .nil) (hk : exec P ops draw rest ⟨(d, .int .i64 0) :: env, mem⟩ (([], []) :: tr) K) :
    exec P ops draw (⟨some d, .call ⟨.builtin .len, #[x], #[T]⟩, ty, pos, af, none⟩ :: rest) ⟨env, mem⟩ tr K :=
  x_op ⟨.int .i64 0, [], []⟩ rfl ⟨x, T, 0, [], rfl, rfl, rfl, .inl ⟨e, hT, .inr (.inr ⟨h, rfl⟩)⟩⟩ hk
theorem x_len_s {s : ByteArray} (hT : P.underlying T = some .string) (h : ev (getE env) x = .str s) (hk : exec P ops draw rest ⟨(d, .int .i64 s.size) :: env, mem⟩ (([], []) :: tr) K) :
    exec P ops draw (⟨some d, .call ⟨.builtin .len, #[x], #[T]⟩, ty, pos, af, none⟩ :: rest) ⟨env, mem⟩ tr K :=
  x_op ⟨.int .i64 s.size, [], []⟩ rfl ⟨x, T, s.size, [], rfl, rfl, rfl, .inr ⟨hT, s, h, rfl⟩⟩ hk
theorem x_max {k : IntKind} {m n : Int} (hx : ev (getE env) x = .int k m) (hy : ev (getE env) y = .int k n) {ts : Array TypeId} (hk : exec P ops draw rest ⟨(d, .int k (max m n)) :: env, mem⟩ (([], []) :: tr) K) :
    exec P ops draw (⟨some d, .call ⟨.builtin .max, #[x, y], ts⟩, ty, pos, af, none⟩ :: rest) ⟨env, mem⟩ tr K :=
  x_op ⟨.int k (max m n), [], []⟩ rfl ⟨x, y, k, m, n, rfl, hx, hy, by congr 2; rw [Int.max_def]; split <;> split <;> omega⟩ hk
theorem x_min {k : IntKind} {m n : Int} (hx : ev (getE env) x = .int k m) (hy : ev (getE env) y = .int k n) {ts : Array TypeId} (hk : exec P ops draw rest ⟨(d, .int k (min m n)) :: env, mem⟩ (([], []) :: tr) K) :
    exec P ops draw (⟨some d, .call ⟨.builtin .min, #[x, y], ts⟩, ty, pos, af, none⟩ :: rest) ⟨env, mem⟩ tr K :=
  x_op ⟨.int k (min m n), [], []⟩ rfl ⟨x, y, k, m, n, rfl, hx, hy, by congr 2; rw [Int.min_def]; split <;> split <;> omega⟩ hk
end
end Go.Vs
