/- VALUE SEMANTICS, 22: rules for append, cuts, make, calls; rules for code. -/
import Derived.Test.YthjlolbooehhcaaVs21
set_option linter.unusedVariables false
set_option linter.unusedSimpArgs false
namespace Go.Vs
section
variable {P : Program} {ops : Array Oper} {draw : Bool} {rest : List Oper} {env : List (Nat × PV)} {mem : List (Id × Option Row)} {tr : List (List Id × List Id)} {K : St → List (List Id × List Id) → Prop}
  {d : Nat} {ty : TypeId} {pos : String} {af : Array Edge} {x y c : Operand} {T yT : TypeId}

theorem getE_cons (k : Nat) (v : PV) (r : List (Nat × PV)) (t : Nat) : getE ((k, v) :: r) t = if k = t then v else getE r t := by
  simp only [getE]
  by_cases h : k = t
  · subst h; simp
  · rw [nbeq_false h, if_neg h]; rfl
theorem ev_tmp (V : Nat → PV) (t : Nat) : ev V (.tmp t) = V t := rfl
theorem ev_const (V : Nat → PV) (v : Value) : ev V (.const v) = ofConst v := rfl
theorem ev_func (V : Nat → PV) (f : FuncId) : ev V (.func f) = .fn f [] [] := rfl

def newB (mem : List (Id × Option Row)) (d : Nat) : Bool := (match getM mem (d, 0) with | none => true | _ => false) && !Nat.beq d io
theorem newB_ok (h : newB mem d = true) : d ≠ io ∧ getM mem (d, 0) = none := by
  simp only [newB, Bool.and_eq_true] at h
  refine ⟨fun e => by rw [e] at h; simp at h, ?_⟩
  cases hm : getM mem (d, 0) with
  | none => rfl
  | some o => rw [hm] at h; cases h.1

/- append: to a row of the call's own (s = x, what is added = y) -/
theorem x_app_ol {e sz by_ o n : Nat} {id : Id} {r : Row} {news : List (List PV)} (es' : List (List PV)) (hT : TSlice P T e sz by_) (hs : ev (getE env) x = .osl id o n) (hm : getM mem id = some (some r)) (hx : ev (getE env) y = .list sz news)
    (hr : r.bx = false ∧ r.ty = e ∧ r.sz = sz ∧ id.1 ≠ io ∧ 0 < sz) (hon : r.es.length = o + n) (hb : n + news.length ≤ 1099511627776 ∧ by_ ≤ 100) (hn : newB mem d = true) (hes : r.es.drop o ++ news = es') {n' : Nat} (hn' : n + news.length = n')
    (hk : exec P ops draw rest ⟨(d, .osl (d, 0) 0 n') :: env, ((d, 0), some ⟨e, sz, es', false⟩) :: (id, none) :: mem⟩ (([id], [(d, 0), id]) :: tr) K) :
    exec P ops draw (⟨some d, .call ⟨.builtin .append, #[x, y], #[T, T]⟩, ty, pos, af, none⟩ :: rest) ⟨env, mem⟩ tr K := by
  obtain ⟨h1, h2⟩ := newB_ok hn
  subst hes
  subst hn'
  refine x_op ⟨.osl (d, 0) 0 (n + news.length), [((d, 0), some ⟨e, sz, r.es.drop o ++ news, false⟩), (id, none)], [id]⟩ rfl
    ⟨x, y, T, d, e, sz, by_, news, [], rfl, rfl, rfl, h1, h2, hT, hr.2.2.2.2, .inl ⟨hx, rfl⟩, .inr ⟨id, o, n, r, hs, hm, hr.1, hr.2.1, hr.2.2.1, hr.2.2.2.1, hon, by unfold maxLen; omega, ?_, rfl⟩⟩ hk
  have : (n + news.length) * by_ ≤ 1099511627776 * 100 := Nat.mul_le_mul hb.1 hb.2
  omega
theorem x_app_oo {e sz by_ o n o2 m : Nat} {id id2 : Id} {r r2 : Row} (es' news : List (List PV)) (hT : TSlice P T e sz by_) (hs : ev (getE env) x = .osl id o n) (hm : getM mem id = some (some r)) (hx : ev (getE env) y = .osl id2 o2 m)
    (hm2 : getM mem id2 = some (some r2)) (hr2 : r2.bx = false ∧ r2.sz = sz) (hnews : (r2.es.drop o2).take m = news)
    (hr : r.bx = false ∧ r.ty = e ∧ r.sz = sz ∧ id.1 ≠ io ∧ 0 < sz) (hon : r.es.length = o + n) (hb : n + news.length ≤ 1099511627776 ∧ by_ ≤ 100) (hn : newB mem d = true) (hes : r.es.drop o ++ news = es') {n' : Nat} (hn' : n + news.length = n')
    (hk : exec P ops draw rest ⟨(d, .osl (d, 0) 0 n') :: env, ((d, 0), some ⟨e, sz, es', false⟩) :: (id, none) :: mem⟩ (([id, id2], [(d, 0), id]) :: tr) K) :
    exec P ops draw (⟨some d, .call ⟨.builtin .append, #[x, y], #[T, T]⟩, ty, pos, af, none⟩ :: rest) ⟨env, mem⟩ tr K := by
  obtain ⟨h1, h2⟩ := newB_ok hn
  subst hes
  subst hn'
  refine x_op ⟨.osl (d, 0) 0 (n + news.length), [((d, 0), some ⟨e, sz, r.es.drop o ++ news, false⟩), (id, none)], [id, id2]⟩ rfl
    ⟨x, y, T, d, e, sz, by_, news, [id2], rfl, rfl, rfl, h1, h2, hT, hr.2.2.2.2, .inr (.inl ⟨id2, o2, m, r2, hx, hm2, hr2.1, hr2.2, hnews.symm, rfl⟩), .inr ⟨id, o, n, r, hs, hm, hr.1, hr.2.1, hr.2.2.1, hr.2.2.2.1, hon, by unfold maxLen; omega, ?_, rfl⟩⟩ hk
  have : (n + news.length) * by_ ≤ 1099511627776 * 100 := Nat.mul_le_mul hb.1 hb.2
  omega
theorem x_app_no {e sz by_ o2 m : Nat} {id2 : Id} {r2 : Row} (news : List (List PV)) (hT : TSlice P T e sz by_) (hs : ev (getE env) x = .nil) (hx : ev (getE env) y = .osl id2 o2 m)
    (hm2 : getM mem id2 = some (some r2)) (hr2 : r2.bx = false ∧ r2.sz = sz ∧ 0 < sz) (hnews : (r2.es.drop o2).take m = news)
    (hb : news.length ≤ 1099511627776 ∧ by_ ≤ 100) (hn : newB mem d = true) {n' : Nat} (hn' : news.length = n')
    (hk : exec P ops draw rest ⟨(d, .osl (d, 0) 0 n') :: env, ((d, 0), some ⟨e, sz, news, false⟩) :: mem⟩ (([id2], [(d, 0)]) :: tr) K) :
    exec P ops draw (⟨some d, .call ⟨.builtin .append, #[x, y], #[T, T]⟩, ty, pos, af, none⟩ :: rest) ⟨env, mem⟩ tr K := by
  obtain ⟨h1, h2⟩ := newB_ok hn
  subst hn'
  refine x_op ⟨.osl (d, 0) 0 news.length, [((d, 0), some ⟨e, sz, news, false⟩)], [id2]⟩ rfl
    ⟨x, y, T, d, e, sz, by_, news, [id2], rfl, rfl, rfl, h1, h2, hT, hr2.2.2, .inr (.inl ⟨id2, o2, m, r2, hx, hm2, hr2.1, hr2.2.1, hnews.symm, rfl⟩), .inl ⟨hs, by unfold maxLen; omega, ?_, rfl⟩⟩ hk
  have : news.length * by_ ≤ 1099511627776 * 100 := Nat.mul_le_mul hb.1 hb.2
  omega

theorem x_slice_l {e sz by_ : Nat} {es : List (List PV)} {lo hi : Option Operand} {l h : Nat} (es' : List (List PV)) (hT : TSlice P T e sz by_) (hx : ev (getE env) x = .list sz es) (hl : bound (getE env) lo 0 l) (hh : bound (getE env) hi es.length h)
    (hb : l ≤ h ∧ h ≤ es.length) (hes : (es.take h).drop l = es') (hk : exec P ops draw rest ⟨(d, .list sz es') :: env, mem⟩ (([], []) :: tr) K) : exec P ops draw (⟨some d, .slice T x lo hi none, ty, pos, af, none⟩ :: rest) ⟨env, mem⟩ tr K :=
  x_op ⟨.list sz es', [], []⟩ rfl ⟨rfl, l, h, hl, hb.1, .inl ⟨e, sz, by_, es, hT, hx, hh, hb.2, by rw [hes]⟩⟩ hk
theorem x_slice_o {e sz by_ o n : Nat} {id : Id} {r : Row} {lo hi : Option Operand} {l h : Nat} (o' n' : Nat) (hT : TSlice P T e sz by_) (hx : ev (getE env) x = .osl id o n) (hm : getM mem id = some (some r)) (hz : r.sz = sz) (hl : bound (getE env) lo 0 l)
    (hh : bound (getE env) hi n h) (hb : l ≤ h ∧ h ≤ n) (ho : o + l = o') (hn : h - l = n') (hk : exec P ops draw rest ⟨(d, .osl id o' n') :: env, mem⟩ (([id], []) :: tr) K) :
    exec P ops draw (⟨some d, .slice T x lo hi none, ty, pos, af, none⟩ :: rest) ⟨env, mem⟩ tr K :=
  x_op ⟨.osl id o' n', [], [id]⟩ rfl ⟨rfl, l, h, hl, hb.1, .inr (.inl ⟨e, sz, by_, id, o, n, r, hT, hx, hm, hz, hh, hb.2, by rw [← ho, ← hn]⟩)⟩ hk
theorem x_slice_s {s : ByteArray} {lo hi : Option Operand} {l h : Nat} (hT : P.underlying T = some .string) (hx : ev (getE env) x = .str s) (hl : bound (getE env) lo 0 l) (hh : bound (getE env) hi s.size h)
    (hb : l ≤ h ∧ h ≤ s.size) (hk : exec P ops draw rest ⟨(d, .str (s.extract l h)) :: env, mem⟩ (([], []) :: tr) K) : exec P ops draw (⟨some d, .slice T x lo hi none, ty, pos, af, none⟩ :: rest) ⟨env, mem⟩ tr K :=
  x_op ⟨.str (s.extract l h), [], []⟩ rfl ⟨rfl, l, h, hl, hb.1, .inr (.inr ⟨hT, s, hx, hh, hb.2, rfl⟩)⟩ hk
theorem x_make {e sz by_ : Nat} {zs : List PV} {k k' : IntKind} {n : Nat} (hT : TSlice P T e sz by_) (hZ : TZero P e zs) (hz : (zs.all PV.pure1 && Nat.ble 1 sz) = true) (hl : ev (getE env) x = .int k (n : Int)) (hc : ev (getE env) y = .int k' (n : Int))
    (hb : n ≤ 1099511627776 ∧ by_ ≤ 100) (hn : newB mem d = true) (hk : exec P ops draw rest ⟨(d, .osl (d, 0) 0 n) :: env, ((d, 0), some ⟨e, sz, List.replicate n zs, false⟩) :: mem⟩ (([], [(d, 0)]) :: tr) K) :
    exec P ops draw (⟨some d, .makeSlice T x y, ty, pos, af, none⟩ :: rest) ⟨env, mem⟩ tr K := by
  obtain ⟨h1, h2⟩ := newB_ok hn
  rw [Bool.and_eq_true] at hz
  refine x_op ⟨.osl (d, 0) 0 n, [((d, 0), some ⟨e, sz, List.replicate n zs, false⟩)], []⟩ rfl ⟨d, e, sz, by_, zs, k, k', n, rfl, h1, h2, hT, hZ, hz.1, Nat.le_of_ble_eq_true hz.2, hl, hc, ?_, by unfold maxLen; omega, rfl⟩ hk
  have : by_ * n ≤ 100 * 1099511627776 := Nat.mul_le_mul hb.2 hb.1
  omega

/- calls -/
def Ret (r : PV) : PV → List (List (List PV)) → Prop := fun r' fin => r' = r ∧ fin = []
def Con (P : Program) (g : FuncId) (ys : List PV) (r : PV) : Prop := ∀ al, ContractP P g al ys [] (Ret r)
def freeB (mem : List (Id × Option Row)) (d : Nat) : Bool := (mem.all fun p => !Nat.beq p.1.1 d) && !Nat.beq d io
theorem freeB_ok (h : freeB mem d = true) : d ≠ io ∧ ∀ k, getM mem (d, k) = none := by
  simp only [freeB, Bool.and_eq_true] at h
  refine ⟨fun e => by rw [e] at h; simp at h, fun k => ?_⟩
  cases hm : getM mem (d, k) with
  | none => rfl
  | some o =>
    have := List.all_eq_true.1 h.1 _ (getM_mem hm)
    simp at this
/-- A call of a function that lends nothing; own rows named in rd are read as lists. -/
theorem x_call {f : Operand} {args : List Operand} {ats : Array TypeId} {g : FuncId} {fi ca xs ys : List PV} {r : PV} {mem' : List (Id × Option Row)} (rd : List Id) (v : PV) (hC : Con P g ys r) (hf : ev (getE env) f = .fn g fi ca)
    (hxs : fi ++ args.map (ev (getE env)) ++ ca = xs) (hsnap : AllR (SnapD 6 (getM mem) [] rd) xs ys) (hfree : freeB mem d = true) (hth : thaw d r = (v, mem'))
    (hk : exec P ops draw rest ⟨(d, v) :: env, mem' ++ mem⟩ ((rd, (d, 0) :: mem'.map (·.1)) :: tr) K) : exec P ops draw (⟨some d, .call ⟨.value f, args.toArray, ats⟩, ty, pos, af, none⟩ :: rest) ⟨env, mem⟩ tr K := by
  obtain ⟨h1, h2⟩ := freeB_ok hfree
  subst hxs
  have hups : callUps (St.M ⟨env, mem⟩) d [] rd false r (backF (St.M ⟨env, mem⟩) [] [] []) = mem' := by simp [callUps, ioUps, frzUps, hth]
  refine .inr ⟨by simp [wantedPV], .inr ⟨d, false, false, [], rd, [], Ret r, ⟨⟨.value f, args.toArray, ats⟩, f, g, fi, ca, ys, rfl, rfl, hf, fun t ht => by injection ht with ht; exact ht.symm, hC false,
    ⟨h1, h2, by simpa using hsnap, rfl, List.nodup_nil, fun k id row h => by simp at h, fun id _ h => by simp at h, .inr ⟨rfl, rfl, rfl⟩⟩⟩, .inr ⟨r, [], fun r' fin' h => h, ?_⟩⟩⟩
  rw [hups]
  have : (thaw d r).1 = v := by rw [hth]
  rw [this]
  exact hk
/-- The same where the result may be any that meets a condition; in a region of one order. -/
theorem x_callP {f : Operand} {args : List Operand} {ats : Array TypeId} {g : FuncId} {fi ca xs ys : List PV} {Post : PV → List (List (List PV)) → Prop} (rd : List Id) (hC : ContractP P g false ys [] Post) (hf : ev (getE env) f = .fn g fi ca)
    (hxs : fi ++ args.map (ev (getE env)) ++ ca = xs) (hsnap : AllR (SnapD 6 (getM mem) [] rd) xs ys) (hfree : freeB mem d = true)
    (hk : ∀ r, Post r [] → exec P ops false rest ⟨(d, (thaw d r).1) :: env, (thaw d r).2 ++ mem⟩ (([], []) :: tr) K) : exec P ops false (⟨some d, .call ⟨.value f, args.toArray, ats⟩, ty, pos, af, none⟩ :: rest) ⟨env, mem⟩ tr K := by
  obtain ⟨h1, h2⟩ := freeB_ok hfree
  subst hxs
  refine .inr ⟨by simp [wantedPV], .inr ⟨d, false, false, [], rd, [], Post, ⟨⟨.value f, args.toArray, ats⟩, f, g, fi, ca, ys, rfl, rfl, hf, fun t ht => by injection ht with ht; exact ht.symm, hC,
    ⟨h1, h2, by simpa using hsnap, rfl, List.nodup_nil, fun k id row h => by simp at h, fun id _ h => by simp at h, .inr ⟨rfl, rfl, rfl⟩⟩⟩, .inl ⟨rfl, fun r fin hp hl => ?_⟩⟩⟩
  have hfin : fin = [] := List.eq_nil_of_length_eq_zero hl
  subst hfin
  have hups : callUps (St.M ⟨env, mem⟩) d [] rd false r (backF (St.M ⟨env, mem⟩) [] [] []) = (thaw d r).2 := by simp [callUps, ioUps, frzUps]
  rw [hups]
  exact hk r hp
/-- A call that is lent own rows 'ids' (written by the callee); own rows in rd are given up. -/
theorem x_callLend {f : Operand} {args : List Operand} {ats : Array TypeId} {g : FuncId} {fi ca xs ys : List PV} {r : PV} {fin : List (List (List PV))} {ios : List Row} {mem' : List (Id × Option Row)} (ids rd : List Id) (v : PV)
    (hC : ContractP P g true ys ios fun r' fin' => r' = r ∧ fin' = fin) (hf : ev (getE env) f = .fn g fi ca)
    (hxs : fi ++ args.map (ev (getE env)) ++ ca = xs) (hsnap : AllR (SnapD 6 (getM mem) ids rd) xs ys) (hfree : freeB mem d = true) (hlen : ids.length = ios.length) (hnd : ids.Nodup)
    (hlent : ∀ (k : Nat) id row, ids[k]? = some id → ios[k]? = some row → ∃ r, getM mem id = some (some r) ∧ Lend ids r row)
    (hap : ∀ id ∈ rd, id ∉ ids) (hrd : (∀ id ∈ rd, id.1 ≠ io ∧ ∃ r, getM mem id = some (some r)) ∧ rd.Nodup) (hth : (thaw d r).1 = v) (hups : callUps (getM mem) d ids rd true r (backF (getM mem) ids ios fin) = mem')
    (hk : exec P ops draw rest ⟨(d, v) :: env, mem' ++ mem⟩ ((ids ++ rd, (d, 0) :: mem'.map (·.1)) :: tr) K) : exec P ops draw (⟨some d, .call ⟨.value f, args.toArray, ats⟩, ty, pos, af, none⟩ :: rest) ⟨env, mem⟩ tr K := by
  obtain ⟨h1, h2⟩ := freeB_ok hfree
  subst hxs
  refine .inr ⟨by simp [wantedPV], .inr ⟨d, true, true, ids, rd, ios, _, ⟨⟨.value f, args.toArray, ats⟩, f, g, fi, ca, ys, rfl, rfl, hf, fun t ht => by injection ht with ht; exact ht.symm, hC,
    ⟨h1, h2, by simpa using hsnap, hlen, hnd, hlent, hap, .inl ⟨rfl, hrd.1, hrd.2⟩⟩⟩, .inr ⟨r, fin, fun r' fin' h => h, ?_⟩⟩⟩
  rw [show callUps (St.M ⟨env, mem⟩) d ids rd true r (backF (St.M ⟨env, mem⟩) ids ios fin) = mem' from hups, hth]
  exact hk
theorem x_callIO {f : Operand} {args : List Operand} {ats : Array TypeId} {g : FuncId} {fi ca xs ys : List PV} {r : PV} {fin : List (List (List PV))} {ios : List Row} {mem' : List (Id × Option Row)} (ids rd : List Id) (v : PV)
    (hC : ContractP P g true ys ios fun r' fin' => r' = r ∧ fin' = fin) (hf : ev (getE env) f = .fn g fi ca)
    (hxs : fi ++ args.map (ev (getE env)) ++ ca = xs) (hsnap : AllR (SnapD 6 (getM mem) ids rd) xs ys) (hfree : freeB mem d = true) (hlen : ids.length = ios.length) (hnd : ids.Nodup)
    (hlent : ∀ (k : Nat) id row, ids[k]? = some id → ios[k]? = some row → ∃ r, getM mem id = some (some r) ∧ row = { r with bx := false } ∧ (r.bx = false ∨ ∀ e ∈ r.es, e.all PV.pure1 = true))
    (hap : ∀ id ∈ rd, id ∉ ids) (hrd : (∀ id ∈ rd, id.1 ≠ io ∧ ∃ r, getM mem id = some (some r)) ∧ rd.Nodup) (hth : (thaw d r).1 = v) (hups : callUps (getM mem) d ids rd true r fin = mem')
    (hk : exec P ops draw rest ⟨(d, v) :: env, mem' ++ mem⟩ ((ids ++ rd, (d, 0) :: mem'.map (·.1)) :: tr) K) : exec P ops draw (⟨some d, .call ⟨.value f, args.toArray, ats⟩, ty, pos, af, none⟩ :: rest) ⟨env, mem⟩ tr K := by
  have hbx : ∀ row ∈ ios, row.bx = false := fun row hr => by
    obtain ⟨k, hk⟩ := List.getElem?_of_mem hr
    have hlt : k < ids.length := by rw [hlen]; exact (List.getElem?_eq_some_iff.1 hk).1
    obtain ⟨r, _, h2, _⟩ := hlent k ids[k] row (List.getElem?_eq_getElem hlt) hk
    rw [h2]
  refine x_callLend ids rd v hC hf hxs hsnap hfree hlen hnd (fun k id row h1 h2 => ?_) hap hrd hth (mem' := mem') ?_ hk
  · obtain ⟨r, g1, g2⟩ := hlent k id row h1 h2
    exact ⟨r, g1, .inl g2⟩
  · rw [← hups]
    simp only [callUps, backF_flat (getM mem) (getM mem) ids ios fin hlen hbx]
end

/- code -/
def thenQ (P : Program) (y : Code) (Q : Exit → St → Prop) : Exit → St → Prop
  | .normal, st => ∃ st2, Ent st st2 ∧ vwp P y st2 Q
  | e, st => Q e st
def blkQ (id : Nat) (Q : Exit → St → Prop) : Exit → St → Prop
  | .exit id', st => if id' = id then Q .normal st else Q (.exit id') st
  | e, st => Q e st
def loopQ (I : St → Prop) (m : St → Nat) (n : Nat) (Q : Exit → St → Prop) : Exit → St → Prop
  | .normal, st => ∃ st3, Ent st st3 ∧ I st3 ∧ m st3 < n
  | e, st => Q e st
section
variable {P : Program} {st : St} {Q : Exit → St → Prop} {x y z : Code}
theorem vwp_ext {Q Q' : Exit → St → Prop} (h : ∀ e st, Q e st = Q' e st) : Q = Q' := by funext e st; exact h e st
theorem v_seq (h : vwp P x st (thenQ P y Q)) : vwp P (.seq x y) st Q := by
  have : thenQ P y Q = (fun e st' => match e with | .normal => ∃ st2, Ent st' st2 ∧ vwp P y st2 Q | e => Q e st') := vwp_ext fun e st => by cases e <;> rfl
  rw [this] at h
  exact h
theorem v_skip (h : Q .normal st) : vwp P .skip st Q := h
theorem v_ret (h : Q .ret st) : vwp P .ret st Q := h
theorem v_exit {id : Nat} (h : Q (.exit id) st) : vwp P (.exit id) st Q := h
theorem v_block {id : Nat} (h : vwp P x st (blkQ id Q)) : vwp P (.block id x) st Q := by
  have : blkQ id Q = (fun e st' => match e with | .exit id' => if id' = id then Q .normal st' else Q (.exit id') st' | e => Q e st') := vwp_ext fun e st => by cases e <;> rfl
  rw [this] at h
  exact h
theorem v_cond {c : Operand} {b : Bool} (hb : ev (getE st.env) c = .bool b) (h1 : b = true → vwp P x st Q) (h2 : b = false → vwp P y st Q) : vwp P (.cond c x y) st Q := ⟨b, hb, h1, h2⟩
theorem v_region {id : Nat} {l : List Oper} {draw : Bool} (h : ∀ K : St → List (List Id × List Id) → Prop, (∀ st' tr, (draw = false ∨ orderOk l.toArray tr.reverse = true) → Q .normal st' → K st' tr) → exec P l.toArray draw l st [] K) :
    vwp P (.region id l.toArray draw) st Q := h _ fun st' tr h1 h2 => ⟨h1, h2⟩
theorem v_loop (I : St → Prop) (m : St → Nat) (st0 : St) (hw : Ent st st0) (hI : I st0) (h : ∀ st', I st' → vwp P x st' (loopQ I m (m st') Q)) : vwp P (.loop x) st Q := by
  refine ⟨I, m, st0, hw, hI, fun st' hI' => ?_⟩
  have := h st' hI'
  have e : loopQ I m (m st') Q = (fun e st'' => match e with | .normal => ∃ st3, Ent st'' st3 ∧ I st3 ∧ m st3 < m st' | e => Q e st'') := vwp_ext fun e st => by cases e <;> rfl
  rw [e] at this
  exact this
/-- A loop whose states are 'mk a' for parameters a that meet R. -/
theorem v_loopE {α : Type} (mk : α → St) (R : α → Prop) (m : α → Nat) (a0 : α) (hw : Ent st (mk a0)) (hR : R a0)
    (h : ∀ a, R a → vwp P x (mk a) (loopQ (fun s => ∃ a', s = mk a' ∧ R a' ∧ m a' < m a) (fun _ => 0) 1 Q)) : vwp P (.loop x) st Q := by
  have key : ∀ n a, m a = n → R a → ∀ st, Ent st (mk a) → vwp P (.loop x) st Q := by
    intro n a hn hRa st hwa
    classical
    refine v_loop (fun s => ∃ a, s = mk a ∧ R a) (fun s => if h : ∃ a, s = mk a ∧ R a then
        Classical.choose (exists_least (fun n => ∃ a, s = mk a ∧ R a ∧ m a = n) (let ⟨a, h1, h2⟩ := h; ⟨m a, a, h1, h2, rfl⟩)) else 0) (mk a) hwa ⟨a, rfl, hRa⟩ ?_
    intro s hs
    have hex : ∃ n, ∃ a, s = mk a ∧ R a ∧ m a = n := let ⟨a, h1, h2⟩ := hs; ⟨m a, a, h1, h2, rfl⟩
    have hsp := Classical.choose_spec (exists_least _ hex)
    obtain ⟨a1, hs1, hR1, hm1⟩ := hsp.1
    have hv := h a1 hR1
    rw [← hs1] at hv
    rw [dif_pos hs]
    have mono : ∀ (c : Code) (s : St) (Q1 Q2 : Exit → St → Prop), (∀ e s, Q1 e s → Q2 e s) → vwp P c s Q1 → vwp P c s Q2 := by
      have emono : ∀ (ops : Array Oper) (draw : Bool) (l : List Oper) (s : St) (tr : List (List Id × List Id)) (K1 K2 : St → List (List Id × List Id) → Prop), (∀ s tr, K1 s tr → K2 s tr) → exec P ops draw l s tr K1 → exec P ops draw l s tr K2 := by
        intro ops draw l
        induction l with
        | nil => intro s tr K1 K2 hK h; exact hK _ _ h
        | cons o l ih =>
          intro s tr K1 K2 hK h
          rcases h with ⟨hw, h⟩ | ⟨hw, ⟨f, hs, h⟩ | ⟨t, al, fz, ids, rd, ios, Post, hc, ⟨hd, h⟩ | ⟨r, fin, hu, h⟩⟩⟩
          · exact .inl ⟨hw, ih _ _ _ _ hK h⟩
          · exact .inr ⟨hw, .inl ⟨f, hs, ih _ _ _ _ hK h⟩⟩
          · exact .inr ⟨hw, .inr ⟨t, al, fz, ids, rd, ios, Post, hc, .inl ⟨hd, fun r fin hp hl => ih _ _ _ _ hK (h r fin hp hl)⟩⟩⟩
          · exact .inr ⟨hw, .inr ⟨t, al, fz, ids, rd, ios, Post, hc, .inr ⟨r, fin, hu, ih _ _ _ _ hK h⟩⟩⟩
      intro c
      induction c with
      | skip => intro s Q1 Q2 hQ h; exact hQ _ _ h
      | ret => intro s Q1 Q2 hQ h; exact hQ _ _ h
      | exit id => intro s Q1 Q2 hQ h; exact hQ _ _ h
      | region id ops draw => intro s Q1 Q2 hQ h; exact emono ops draw _ _ _ _ _ (fun s tr h => ⟨h.1, hQ _ _ h.2⟩) h
      | seq x y ihx ihy =>
        intro s Q1 Q2 hQ h
        refine ihx s _ _ ?_ h
        intro e s he
        cases e with
        | normal => obtain ⟨s2, hs2, he⟩ := he; exact ⟨s2, hs2, ihy s2 _ _ hQ he⟩
        | _ => exact hQ _ _ he
      | cond c x y ihx ihy => intro s Q1 Q2 hQ h; obtain ⟨b, h0, h1, h2⟩ := h; exact ⟨b, h0, fun hb => ihx s _ _ hQ (h1 hb), fun hb => ihy s _ _ hQ (h2 hb)⟩
      | block id x ihx =>
        intro s Q1 Q2 hQ h
        refine ihx s _ _ ?_ h
        intro e s he
        cases e with
        | exit id' =>
          simp only at he ⊢
          split
          · rename_i hid; rw [if_pos hid] at he; exact hQ _ _ he
          · rename_i hid; rw [if_neg hid] at he; exact hQ _ _ he
        | _ => exact hQ _ _ he
      | loop x ihx =>
        intro s Q1 Q2 hQ h
        obtain ⟨I, m, s0, h0, h1, h2⟩ := h
        refine ⟨I, m, s0, h0, h1, fun s' hs' => ihx s' _ _ ?_ (h2 s' hs')⟩
        intro e s he
        cases e with
        | normal => exact he
        | _ => exact hQ _ _ he
      | _ => intro s Q1 Q2 hQ h; exact h.elim
    refine mono x s _ _ ?_ hv
    intro e s' he
    cases e with
    | normal =>
      obtain ⟨s3, hw3, ⟨a', rfl, hR', hlt⟩, _⟩ := he
      refine ⟨mk a', hw3, ⟨a', rfl, hR'⟩, ?_⟩
      have hex' : ∃ a, mk a' = mk a ∧ R a := ⟨a', rfl, hR'⟩
      show (if h : ∃ a, mk a' = mk a ∧ R a then Classical.choose _ else 0) < _
      rw [dif_pos hex']
      have := (Classical.choose_spec (exists_least (fun n => ∃ a, mk a' = mk a ∧ R a ∧ m a = n) (let ⟨a, h1, h2⟩ := hex'; ⟨m a, a, h1, h2, rfl⟩))).2 (m a') ⟨a', rfl, hR', rfl⟩
      refine Nat.lt_of_le_of_lt this ?_
      rw [hm1] at hlt
      exact hlt
    | _ => exact he
  exact key _ a0 rfl hR st hw

theorem v_loopA {α : Type} (mk : α → St) (R : α → Prop) (m : α → Nat) (a0 : α) (hw : Weaker st (mk a0)) (hR : R a0)
    (h : ∀ a, R a → vwp P x (mk a) (loopQ (fun s => ∃ a', s = mk a' ∧ R a' ∧ m a' < m a) (fun _ => 0) 1 Q)) : vwp P (.loop x) st Q := v_loopE mk R m a0 hw.ent hR h
theorem q_then (h : vwp P y st Q) : thenQ P y Q .normal st := ⟨st, Ent.refl st, h⟩
theorem q_thenE {st2 : St} (he : Ent st st2) (h : vwp P y st2 Q) : thenQ P y Q .normal st := ⟨st2, he, h⟩
theorem q_then_r (h : Q .ret st) : thenQ P y Q .ret st := h
theorem q_then_e {id : Nat} (h : Q (.exit id) st) : thenQ P y Q (.exit id) st := h
theorem q_blk_n {id : Nat} (h : Q .normal st) : blkQ id Q .normal st := h
theorem q_blk_r {id : Nat} (h : Q .ret st) : blkQ id Q .ret st := h
theorem q_blk_e {id : Nat} (h : Q .normal st) : blkQ id Q (.exit id) st := by simp only [blkQ, if_true]; exact h
theorem q_blk_o {id id' : Nat} (hne : Nat.beq id' id = false) (h : Q (.exit id') st) : blkQ id Q (.exit id') st := by
  have : id' ≠ id := fun e => by rw [e] at hne; simp at hne
  simp only [blkQ, this, if_false]; exact h
theorem q_loop_r {I : St → Prop} {m : St → Nat} {n : Nat} (h : Q .ret st) : loopQ I m n Q .ret st := h
theorem q_loop_e {I : St → Prop} {m : St → Nat} {n id : Nat} (h : Q (.exit id) st) : loopQ I m n Q (.exit id) st := h
theorem q_loopA {α : Type} {mk : α → St} {R : α → Prop} {m : α → Nat} {n : Nat} (a : α) (hw : Weaker st (mk a)) (hR : R a) (hm : m a < n) : loopQ (fun s => ∃ a', s = mk a' ∧ R a' ∧ m a' < n) (fun _ => 0) 1 Q .normal st :=
  ⟨mk a, hw.ent, ⟨a, rfl, hR, hm⟩, by simp⟩
theorem q_loopE {α : Type} {mk : α → St} {R : α → Prop} {m : α → Nat} {n : Nat} (a : α) (hw : Ent st (mk a)) (hR : R a) (hm : m a < n) : loopQ (fun s => ∃ a', s = mk a' ∧ R a' ∧ m a' < n) (fun _ => 0) 1 Q .normal st :=
  ⟨mk a, hw, ⟨a, rfl, hR, hm⟩, by simp⟩

/- results -/
theorem ret_of {fn : Func} {al : Bool} {r : PV} (xs : List PV) (u : List (Option Id)) (hres : AllRes P st fn.results.toList xs) (he : Exp al st (tup xs) r u) (ha : apartIds u) : RetPost P fn al [] (Ret r) .ret st :=
  ⟨.inl rfl, xs, r, u, [], hres, he, ha, ⟨rfl, rfl⟩, rfl, fun k row h => by simp at h⟩
theorem ret_n {fn : Func} {al : Bool} {r : PV} (h : RetPost P fn al [] (Ret r) .ret st) : RetPost P fn al [] (Ret r) .normal st := ⟨.inr rfl, h.2⟩
theorem ret_bool {fn : Func} {al : Bool} {t : Nat} {b b' : Bool} (hr : fn.results = #[.tmp t]) (hv : getE st.env t = .bool b) (hb : b = b') : RetPost P fn al [] (Ret (.bool b')) .ret st :=
  ret_of [.bool b] [] (by rw [hr]; exact ⟨hv, trivial⟩) ⟨hb, rfl⟩ trivial
theorem ret_int {fn : Func} {al : Bool} {t : Nat} {k : IntKind} {b b' : Int} (hr : fn.results = #[.tmp t]) (hv : getE st.env t = .int k b) (hb : b = b') : RetPost P fn al [] (Ret (.int k b')) .ret st :=
  ret_of [.int k b] [] (by rw [hr]; exact ⟨hv, trivial⟩) ⟨rfl, hb, rfl⟩ trivial
end
end Go.Vs
