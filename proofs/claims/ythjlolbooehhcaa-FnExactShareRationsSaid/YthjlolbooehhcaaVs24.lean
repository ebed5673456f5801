/- VALUE SEMANTICS, 24: rules whose values are found by looking up. -/
import Derived.Test.YthjlolbooehhcaaVs23
set_option linter.unusedVariables false
set_option linter.unusedSimpArgs false
namespace Go.Vs
section
variable {P : Program} {ops : Array Oper} {draw : Bool} {rest : List Oper} {env : List (Nat × PV)} {mem : List (Id × Option Row)} {tr : List (List Id × List Id)} {K : St → List (List Id × List Id) → Prop}
  {d : Nat} {ty : TypeId} {pos : String} {af : Array Edge} {x y c : Operand} {T yT : TypeId}

def lookE : List (Nat × PV) → Nat → Option PV
  | [], _ => none
  | (k, x) :: r, t => cond (Nat.beq k t) (some x) (lookE r t)
theorem lookE_ok {v : PV} : ∀ {env : List (Nat × PV)} {t : Nat}, lookE env t = some v → getE env t = v
  | [], _, h => by cases h
  | (k, x) :: r, t, h => by
    simp only [lookE] at h
    simp only [getE]
    cases hk : Nat.beq k t with
    | true => rw [hk] at h; injection h
    | false => rw [hk] at h; exact lookE_ok h
def constO : Value → Option PV
  | .int k n => some (.int k n)
  | .bool b => some (.bool b)
  | .string s => some (.str s)
  | .slice none 0 0 => some .nil
  | _ => none
theorem constO_ok {c : Value} {v : PV} (h : constO c = some v) : ofConst c = v := by
  unfold constO at h
  split at h <;> first | (cases h; rfl) | cases h
def evO (env : List (Nat × PV)) : Operand → Option PV
  | .tmp t => lookE env t
  | .const c => constO c
  | .func g => some (.fn g [] [])
  | _ => none
theorem evO_ok {v : PV} (h : evO env x = some v) : ev (getE env) x = v := by
  cases x with
  | tmp t => exact lookE_ok h
  | const c => exact constO_ok h
  | func g => cases h; rfl
  | global _ => cases h
def cellsO : PV → Option (List PV)
  | .agg cs => some cs
  | .int k n => some [.int k n]
  | .bool b => some [.bool b]
  | .str s => some [.str s]
  | .list a b => some [.list a b]
  | .ptr a => some [.ptr a]
  | .own a b c => some [.own a b c]
  | .osl a b c => some [.osl a b c]
  | .fn a b c => some [.fn a b c]
  | .nil => some [.nil]
  | _ => none
theorem cellsO_ok {v : PV} {cs : List PV} (h : cellsO v = some cs) : v.cells = cs := by
  cases v <;> first | (cases h; rfl) | cases h
theorem x_moveO (v : PV) (hv : evO env x = some v) (hk : exec P ops draw rest ⟨(d, v) :: env, mem⟩ (([], []) :: tr) K) : exec P ops draw (⟨some d, .move x, ty, pos, af, none⟩ :: rest) ⟨env, mem⟩ tr K :=
  x_move v (evO_ok hv) hk
theorem x_assignO (v : PV) (hv : evO env x = some v) (hk : exec P ops draw rest ⟨(d, v) :: env, mem⟩ (([], []) :: tr) K) : exec P ops draw (⟨some d, .assign x, ty, pos, af, none⟩ :: rest) ⟨env, mem⟩ tr K :=
  x_assign v (evO_ok hv) hk
theorem x_boxO (v : PV) (cs : List PV) (hv : evO env x = some v) (hc : cellsO v = some cs) (hok : boxOk mem d cs = true) {n : Nat} (hn : cs.length = n)
    (hk : exec P ops draw rest ⟨(d, .own (d, 0) 0 0) :: env, ((d, 0), some ⟨T, n, [cs], true⟩) :: mem⟩ ((rids cs, [(d, 0)]) :: tr) K) : exec P ops draw (⟨some d, .box T x, ty, pos, af, none⟩ :: rest) ⟨env, mem⟩ tr K := by
  subst hn
  exact x_box cs (by rw [evO_ok hv]; exact cellsO_ok hc) hok hk
theorem x_storeO {id : Id} {i off k : Nat} {T' : TypeId} {sz' : Nat} {es0 : List (List PV)} {bx' : Bool} {e : List PV} (v : PV) (cs : List PV) (e' : List PV) (h : ev (getE env) x = .own id i off) (hm : getM mem id = some (some ⟨T', sz', es0, bx'⟩)) (he : es0[i]? = some e) (hT : TSize P T k)
    (hv : evO env y = some v) (hc : cellsO v = some cs) (hl : Nat.beq cs.length k = true) (hfit : off + k ≤ e.length) (hone : (cs.all PV.one && cs.all (liveB mem) && (bx' || cs.all PV.pure1)) = true)
    (he' : e.take off ++ cs ++ e.drop (off + k) = e') {es' : List (List PV)} (hes : es0.set i e' = es')
    (hk : exec P ops draw rest ⟨env, (id, some ⟨T', sz', es', bx'⟩) :: mem⟩ ((id :: rids cs, [id]) :: tr) K) : exec P ops draw (⟨none, .store T x y, ty, pos, af, none⟩ :: rest) ⟨env, mem⟩ tr K :=
  x_store (r := ⟨T', sz', es0, bx'⟩) cs es' h hm he hT (by rw [evO_ok hv]; exact cellsO_ok hc) hl hfit hone (by rw [he']; exact hes) hk
def partsO (env : List (Nat × PV)) : List (Nat × Operand) → Option (List (Nat × PV))
  | [] => some []
  | (i, x) :: r => match evO env x, partsO env r with
    | some v, some vs => some ((i, v) :: vs)
    | _, _ => none
theorem partsO_ok : ∀ {parts : List (Nat × Operand)} {ps : List (Nat × PV)}, partsO env parts = some ps → parts.map (fun p => (p.1, ev (getE env) p.2)) = ps
  | [], ps, h => by cases h; rfl
  | (i, x) :: r, ps, h => by
    simp only [partsO] at h
    cases hx : evO env x with
    | none => rw [hx] at h; cases h
    | some v =>
      cases hr : partsO env r with
      | none => rw [hx, hr] at h; cases h
      | some vs =>
        rw [hx, hr] at h
        cases h
        rw [List.map_cons, partsO_ok hr, evO_ok hx]
theorem x_buildO {parts : List (Nat × Operand)} {places : List (Nat × Nat)} {zs : List PV} (ps : List (Nat × PV)) (cs : List PV) (hT : TStruct P T places zs) (hps : partsO env parts = some ps)
    (hone : (ps.all fun p => p.2.cells.all PV.one && p.2.cells.all (liveB mem)) = true) (hb : buildPV places zs ps = some cs)
    (hk : exec P ops draw rest ⟨(d, .agg cs) :: env, mem⟩ ((rids (ps.flatMap fun p => p.2.cells), []) :: tr) K) : exec P ops draw (⟨some d, .build T parts.toArray, ty, pos, af, none⟩ :: rest) ⟨env, mem⟩ tr K := by
  have h := partsO_ok hps
  subst h
  refine x_build cs hT ?_ hb ?_
  · rw [List.all_map] at hone
    exact hone
  · rw [List.flatMap_map] at hk
    exact hk
theorem x_pick_tt {t u : Nat} {b : Operand} (v : PV) (hc : lookE env t = some (.bool true)) (hv : lookE env u = some v) (hk : exec P ops draw rest ⟨(d, v) :: env, mem⟩ (([], []) :: tr) K) :
    exec P ops draw (⟨some d, .pick (.tmp t) (.tmp u) b, ty, pos, af, none⟩ :: rest) ⟨env, mem⟩ tr K := x_pick_t v (lookE_ok hc) rfl (lookE_ok hv) hk
theorem x_pick_b {t u : Nat} {b b' : Bool} {a : Operand} (hc : lookE env t = some (.bool b)) (ht : b = true) (hv : lookE env u = some (.bool b')) (hk : exec P ops draw rest ⟨(d, .bool b') :: env, mem⟩ (([], []) :: tr) K) :
    exec P ops draw (⟨some d, .pick (.tmp t) (.tmp u) a, ty, pos, af, none⟩ :: rest) ⟨env, mem⟩ tr K := x_pick_t _ (lookE_ok hc) ht (lookE_ok hv) hk
theorem x_pick_c {t : Nat} {b b' : Bool} {a : Operand} (hc : lookE env t = some (.bool b)) (ht : b = false) (hk : exec P ops draw rest ⟨(d, .bool b') :: env, mem⟩ (([], []) :: tr) K) :
    exec P ops draw (⟨some d, .pick (.tmp t) a (.const (.bool b')), ty, pos, af, none⟩ :: rest) ⟨env, mem⟩ tr K := x_pick_f _ (lookE_ok hc) ht rfl hk
theorem x_pick_a {t : Nat} {b b' : Bool} {a : Operand} (hc : lookE env t = some (.bool b)) (ht : b = true) (hk : exec P ops draw rest ⟨(d, .bool b') :: env, mem⟩ (([], []) :: tr) K) :
    exec P ops draw (⟨some d, .pick (.tmp t) (.const (.bool b')) a, ty, pos, af, none⟩ :: rest) ⟨env, mem⟩ tr K := x_pick_t _ (lookE_ok hc) ht rfl hk
theorem x_pick_d {t u : Nat} {b b' : Bool} {a : Operand} (hc : lookE env t = some (.bool b)) (ht : b = false) (hv : lookE env u = some (.bool b')) (hk : exec P ops draw rest ⟨(d, .bool b') :: env, mem⟩ (([], []) :: tr) K) :
    exec P ops draw (⟨some d, .pick (.tmp t) a (.tmp u), ty, pos, af, none⟩ :: rest) ⟨env, mem⟩ tr K := x_pick_f _ (lookE_ok hc) ht (lookE_ok hv) hk
theorem x_gsplit {dst : Option Tmp} {op : Op} {j : Nat} {b b' : Bool} {s : Nat} (hs : (ops[j]?).bind (·.dst) = some s) (hv : lookE env s = some (.bool b'))
    (h1 : b' = b → exec P ops draw (⟨dst, op, ty, pos, af, none⟩ :: rest) ⟨env, mem⟩ tr K) (h2 : b' = (!b) → exec P ops draw rest ⟨putE env dst (.tuple []), mem⟩ (([], []) :: tr) K) :
    exec P ops draw (⟨dst, op, ty, pos, af, some (j, b)⟩ :: rest) ⟨env, mem⟩ tr K := by
  by_cases hb : b' = b
  · exact x_guard hs (lookE_ok hv) hb (h1 hb)
  · have hb' : b' = (!b) := by cases b <;> cases b' <;> simp_all
    exact x_skip (st := ⟨env, mem⟩) hs (lookE_ok hv) hb' (h2 hb')
theorem x_gyes {dst : Option Tmp} {op : Op} {j : Nat} {b b' : Bool} {s : Nat} (hs : (ops[j]?).bind (·.dst) = some s) (hv : lookE env s = some (.bool b')) (hb : b' = b)
    (h1 : exec P ops draw (⟨dst, op, ty, pos, af, none⟩ :: rest) ⟨env, mem⟩ tr K) : exec P ops draw (⟨dst, op, ty, pos, af, some (j, b)⟩ :: rest) ⟨env, mem⟩ tr K := x_guard hs (lookE_ok hv) hb h1
theorem x_gno {dst : Nat} {op : Op} {j : Nat} {b b' : Bool} {s : Nat} (hs : (ops[j]?).bind (·.dst) = some s) (hv : lookE env s = some (.bool b')) (hb : b' = !b)
    (h2 : exec P ops draw rest ⟨(dst, .tuple []) :: env, mem⟩ (([], []) :: tr) K) : exec P ops draw (⟨some dst, op, ty, pos, af, some (j, b)⟩ :: rest) ⟨env, mem⟩ tr K := x_skip (st := ⟨env, mem⟩) hs (lookE_ok hv) hb h2
theorem x_gun {dst : Nat} {op : Op} {j : Nat} {b : Bool} {s : Nat} (hs : (ops[j]?).bind (·.dst) = some s) (hv : lookE env s = some (.tuple []))
    (h2 : exec P ops draw rest ⟨(dst, .tuple []) :: env, mem⟩ (([], []) :: tr) K) : exec P ops draw (⟨some dst, op, ty, pos, af, some (j, b)⟩ :: rest) ⟨env, mem⟩ tr K := x_skip_u (st := ⟨env, mem⟩) hs (lookE_ok hv) h2
/- calls by the shape of the result -/
theorem x_callS {f : Operand} {args : List Operand} {ats : Array TypeId} {g : FuncId} {fi ca xs ys : List PV} {r : PV} (rd : List Id) (hC : Con P g ys r) (hf : ev (getE env) f = .fn g fi ca)
    (hxs : fi ++ args.map (ev (getE env)) ++ ca = xs) (hsnap : AllR (SnapD 6 (getM mem) [] rd) xs ys) (hfree : freeB mem d = true) (hth : thaw d r = (r, []))
    (hk : exec P ops draw rest ⟨(d, r) :: env, mem⟩ ((rd, [(d, 0)]) :: tr) K) : exec P ops draw (⟨some d, .call ⟨.value f, args.toArray, ats⟩, ty, pos, af, none⟩ :: rest) ⟨env, mem⟩ tr K :=
  x_call rd r hC hf hxs hsnap hfree hth hk
theorem x_callO {f : Operand} {args : List Operand} {ats : Array TypeId} {g : FuncId} {fi ca xs ys : List PV} {T' : TypeId} {sz : Nat} {es : List (List PV)} (rd : List Id) (hC : Con P g ys (.olist T' sz es)) (hf : ev (getE env) f = .fn g fi ca)
    (hxs : fi ++ args.map (ev (getE env)) ++ ca = xs) (hsnap : AllR (SnapD 6 (getM mem) [] rd) xs ys) (hfree : freeB mem d = true) {n : Nat} (hn : es.length = n)
    (hk : exec P ops draw rest ⟨(d, .osl (d, 0) 0 n) :: env, ((d, 0), some ⟨T', sz, es, false⟩) :: mem⟩ ((rd, [(d, 0), (d, 0)]) :: tr) K) : exec P ops draw (⟨some d, .call ⟨.value f, args.toArray, ats⟩, ty, pos, af, none⟩ :: rest) ⟨env, mem⟩ tr K := by
  subst hn
  exact x_call rd _ hC hf hxs hsnap hfree rfl hk
/-- A call that gives back a list and a bool. -/
theorem x_callLB {f : Operand} {args : List Operand} {ats : Array TypeId} {g : FuncId} {fi ca xs ys : List PV} {T' : TypeId} {sz : Nat} {es : List (List PV)} {b : Bool} (rd : List Id) (hC : Con P g ys (.tuple [.olist T' sz es, .bool b])) (hf : ev (getE env) f = .fn g fi ca)
    (hxs : fi ++ args.map (ev (getE env)) ++ ca = xs) (hsnap : AllR (SnapD 6 (getM mem) [] rd) xs ys) (hfree : freeB mem d = true) {n : Nat} (hn : es.length = n)
    (hk : exec P ops draw rest ⟨(d, .tuple [.osl (d, 0) 0 n, .bool b]) :: env, ((d, 0), some ⟨T', sz, es, false⟩) :: mem⟩ ((rd, [(d, 0), (d, 0)]) :: tr) K) : exec P ops draw (⟨some d, .call ⟨.value f, args.toArray, ats⟩, ty, pos, af, none⟩ :: rest) ⟨env, mem⟩ tr K := by
  subst hn
  exact x_call rd _ hC hf hxs hsnap hfree rfl hk
/-- A call that is lent one own row and gives back a number. -/
theorem x_callIO1 {f : Operand} {args : List Operand} {ats : Array TypeId} {g : FuncId} {fi ca xs ys : List PV} {k : IntKind} {q : Int} {T' : TypeId} {sz : Nat} {es es' : List (List PV)} (id : Id)
    (hC : ContractP P g true ys [⟨T', sz, es, false⟩] fun r' fin' => r' = .int k q ∧ fin' = [es']) (hf : ev (getE env) f = .fn g fi ca)
    (hxs : fi ++ args.map (ev (getE env)) ++ ca = xs) (hm : getM mem id = some (some ⟨T', sz, es, false⟩)) (hsnap : AllR (SnapD 6 (getM mem) [id] []) xs ys) (hfree : freeB mem d = true)
    (hk : exec P ops draw rest ⟨(d, .int k q) :: env, (id, some ⟨T', sz, es', false⟩) :: mem⟩ (([id], [(d, 0), id]) :: tr) K) : exec P ops draw (⟨some d, .call ⟨.value f, args.toArray, ats⟩, ty, pos, af, none⟩ :: rest) ⟨env, mem⟩ tr K := by
  refine x_callIO [id] [] (.int k q) hC hf hxs hsnap hfree rfl (by simp) ?_ (fun id h => absurd h (by simp)) ⟨fun id h => absurd h (by simp), by simp⟩ rfl (mem' := [(id, some ⟨T', sz, es', false⟩)]) ?_ hk
  · intro j id' row h1 h2
    cases j with
    | zero =>
      simp only [List.getElem?_cons_zero, Option.some.injEq] at h1 h2
      subst h1 h2
      exact ⟨_, hm, rfl, .inl rfl⟩
    | succ j => simp at h1
  · simp [callUps, ioUps, frzUps, hm, thaw, thaw1]
/-- In a region of one order, where what comes back is known by a property. -/
theorem x_callQ {f : Operand} {args : List Operand} {ats : Array TypeId} {g : FuncId} {fi ca xs ys : List PV} {R : PV → Prop} (rd : List Id) (hC : ContractP P g false ys [] fun r _ => R r) (hf : ev (getE env) f = .fn g fi ca)
    (hxs : fi ++ args.map (ev (getE env)) ++ ca = xs) (hsnap : AllR (SnapD 6 (getM mem) [] rd) xs ys) (hfree : freeB mem d = true)
    (hk : ∀ r, R r → exec P ops false rest ⟨(d, (thaw d r).1) :: env, (thaw d r).2 ++ mem⟩ (([], []) :: tr) K) : exec P ops false (⟨some d, .call ⟨.value f, args.toArray, ats⟩, ty, pos, af, none⟩ :: rest) ⟨env, mem⟩ tr K :=
  x_callP rd hC hf hxs hsnap hfree hk
/- gates: the kind of the next operation -/
theorem g_move {dst : Option Tmp} {st : St} (h : exec P ops draw (⟨dst, .move x, ty, pos, af, none⟩ :: rest) st tr K) : exec P ops draw (⟨dst, .move x, ty, pos, af, none⟩ :: rest) st tr K := h
theorem g_assign {dst : Option Tmp} {st : St} (h : exec P ops draw (⟨dst, .assign x, ty, pos, af, none⟩ :: rest) st tr K) : exec P ops draw (⟨dst, .assign x, ty, pos, af, none⟩ :: rest) st tr K := h
theorem g_bin {dst : Option Tmp} {bo : BinOp} {st : St} (h : exec P ops draw (⟨dst, .binOp bo T x y yT, ty, pos, af, none⟩ :: rest) st tr K) : exec P ops draw (⟨dst, .binOp bo T x y yT, ty, pos, af, none⟩ :: rest) st tr K := h
theorem g_un {dst : Option Tmp} {uo : UnOp} {st : St} (h : exec P ops draw (⟨dst, .unOp uo T x, ty, pos, af, none⟩ :: rest) st tr K) : exec P ops draw (⟨dst, .unOp uo T x, ty, pos, af, none⟩ :: rest) st tr K := h
theorem g_load {dst : Option Tmp} {st : St} (h : exec P ops draw (⟨dst, .load T x, ty, pos, af, none⟩ :: rest) st tr K) : exec P ops draw (⟨dst, .load T x, ty, pos, af, none⟩ :: rest) st tr K := h
theorem g_field {dst : Option Tmp} {fi : Nat} {st : St} (h : exec P ops draw (⟨dst, .fieldAddr T x fi, ty, pos, af, none⟩ :: rest) st tr K) : exec P ops draw (⟨dst, .fieldAddr T x fi, ty, pos, af, none⟩ :: rest) st tr K := h
theorem g_index {dst : Option Tmp} {st : St} (h : exec P ops draw (⟨dst, .indexAddr T x y, ty, pos, af, none⟩ :: rest) st tr K) : exec P ops draw (⟨dst, .indexAddr T x y, ty, pos, af, none⟩ :: rest) st tr K := h
theorem g_pick {dst : Option Tmp} {st : St} (h : exec P ops draw (⟨dst, .pick c x y, ty, pos, af, none⟩ :: rest) st tr K) : exec P ops draw (⟨dst, .pick c x y, ty, pos, af, none⟩ :: rest) st tr K := h
theorem g_call {dst : Option Tmp} {cl : Call} {st : St} (h : exec P ops draw (⟨dst, .call cl, ty, pos, af, none⟩ :: rest) st tr K) : exec P ops draw (⟨dst, .call cl, ty, pos, af, none⟩ :: rest) st tr K := h
theorem g_guard {o : Op} {dst : Option Tmp} {j : Nat} {b : Bool} {st : St} (h : exec P ops draw (⟨dst, o, ty, pos, af, some (j, b)⟩ :: rest) st tr K) : exec P ops draw (⟨dst, o, ty, pos, af, some (j, b)⟩ :: rest) st tr K := h
theorem g_exec {l : List Oper} {st : St} (h : exec P ops draw l st tr K) : exec P ops draw l st tr K := h
end
section
variable {P : Program} {st : St} {Q : Exit → St → Prop} {x y z : Code}
theorem v_condt {t : Nat} {b : Bool} (hb : lookE st.env t = some (.bool b)) (h1 : b = true → vwp P x st Q) (h2 : b = false → vwp P y st Q) : vwp P (.cond (.tmp t) x y) st Q := v_cond (lookE_ok hb) h1 h2
theorem g_code (h : vwp P x st Q) : vwp P x st Q := h
theorem g_cond {c : Operand} (h : vwp P (.cond c x y) st Q) : vwp P (.cond c x y) st Q := h
theorem v_cond_y {t : Nat} {b : Bool} (hb : lookE st.env t = some (.bool b)) (ht : b = true) (h1 : vwp P x st Q) : vwp P (.cond (.tmp t) x y) st Q := v_cond (lookE_ok hb) (fun _ => h1) (fun h => by rw [ht] at h; cases h)
theorem v_cond_n {t : Nat} {b : Bool} (hb : lookE st.env t = some (.bool b)) (ht : b = false) (h1 : vwp P y st Q) : vwp P (.cond (.tmp t) x y) st Q := v_cond (lookE_ok hb) (fun h => by rw [ht] at h; cases h) (fun _ => h1)
end
section
variable {P : Program} {st : St}
theorem getSelf {es : List (List PV)} {i : Nat} {v : List PV} (h : i < es.length) : (es.set i v)[i]? = some v := List.getElem?_set_self h
theorem getNe {es : List (List PV)} {i k : Nat} {v e : List PV} (h : i ≠ k) (he : es[k]? = some e) : (es.set i v)[k]? = some e := by rw [List.getElem?_set_ne h]; exact he
theorem takeAll {es : List (List PV)} {n : Nat} (h : n = es.length) : es = (es.drop 0).take n := by rw [h, List.drop_zero, List.take_length]
theorem expL_flat {al : Bool} : ∀ {cs : List PV}, (cs.all fun c => match c with | .int _ _ => true | .bool _ => true | .str _ => true | _ => false) = true → ExpL al st cs cs []
  | [], _ => rfl
  | c :: cs, h => by
    simp only [List.all_cons, Bool.and_eq_true] at h
    refine ⟨[], [], ?_, expL_flat h.2, rfl⟩
    cases c <;> first | exact ⟨rfl, rfl, rfl⟩ | exact ⟨rfl, rfl⟩ | exact absurd h.1 (by simp)
theorem ret_cell {fn : Func} {al : Bool} {t : Nat} {T : TypeId} {id : Id} {row : Row} {cs cs' : List PV} (hr : fn.results = #[.cell t T]) (hT : TAgg P T cs.length) (hv : getE st.env t = .own id 0 0) (hm : getM st.mem id = some (some row)) (he : row.es[0]? = some cs)
    (hf : (cs.all fun c => match c with | .int _ _ => true | .bool _ => true | .str _ => true | _ => false) = true) (hcs : cs = cs') : RetPost P fn al [] (Ret (.agg cs')) .ret st := by
  subst hcs
  exact ret_of [.agg cs] [] (by rw [hr]; exact ⟨⟨id, row, cs.length, hv, hm, he, rfl, rfl, hT⟩, trivial⟩) (expL_flat hf) trivial
theorem ret_list {fn : Func} {al : Bool} {t : Nat} {T : TypeId} {id : Id} {sz n : Nat} {es es' : List (List PV)} (hr : fn.results = #[.tmp t]) (hv : getE st.env t = .osl id 0 n) (hm : getM st.mem id = some (some ⟨T, sz, es, false⟩)) (hio : id.1 ≠ io)
    (hn : n = es.length) (hf : ∀ e ∈ es, ∀ c ∈ e, c.flat = true) (hes : es = es') : RetPost P fn al [] (Ret (.olist T sz es')) .ret st := by
  subst hes
  subst hn
  exact ret_of [.osl id 0 es.length] [some id] (by rw [hr]; exact ⟨hv, trivial⟩) ⟨rfl, hio, rfl, .inr hf, hm, rfl⟩ ⟨by simp, trivial⟩
theorem ret_io {fn : Func} {al : Bool} {t : Nat} {k : IntKind} {b b' : Int} {row : Row} {es : List (List PV)} (hr : fn.results = #[.tmp t]) (hv : getE st.env t = .int k b) (hb : b = b') (hl : es.length = row.es.length)
    (hm : getM st.mem (io, 0) = some (some { row with es := es })) (hbx : row.bx = false := by rfl) : RetPost P fn al [row] (fun r' fin' => r' = .int k b' ∧ fin' = [es]) .ret st := by
  subst hb
  refine ⟨.inl rfl, [.int k b], .int k b, [], [es], by rw [hr]; exact ⟨hv, trivial⟩, ⟨rfl, rfl, rfl⟩, trivial, ⟨rfl, rfl⟩, rfl, fun j row' h => ?_⟩
  cases j with
  | zero =>
    simp only [List.getElem?_cons_zero, Option.some.injEq] at h
    subst h
    exact ⟨es, rfl, hl, hm, fun h => by rw [hbx] at h; cases h⟩
  | succ j => simp at h
theorem ret_lb {fn : Func} {al : Bool} {t u : Nat} {T : TypeId} {id : Id} {sz n : Nat} {es es' : List (List PV)} {b b' : Bool} (hr : fn.results = #[.tmp t, .tmp u]) (hv : getE st.env t = .osl id 0 n) (hm : getM st.mem id = some (some ⟨T, sz, es, false⟩)) (hio : id.1 ≠ io)
    (hu : getE st.env u = .bool b) (hn : n = es.length) (hf : ∀ e ∈ es, ∀ c ∈ e, c.flat = true) (hes : es = es') (hb : b = b') : RetPost P fn al [] (Ret (.tuple [.olist T sz es', .bool b'])) .ret st := by
  subst hes
  subst hn
  subst hb
  exact ret_of [.osl id 0 es.length, .bool b] [some id] (by rw [hr]; exact ⟨hv, hu, trivial⟩) ⟨[some id], [], ⟨rfl, hio, rfl, .inr hf, hm, rfl⟩, ⟨[], [], ⟨rfl, rfl⟩, rfl, rfl⟩, rfl⟩ ⟨by simp, trivial⟩
theorem ret_nb {fn : Func} {al : Bool} {t u : Nat} {T : TypeId} {sz : Nat} {b b' : Bool} (hr : fn.results = #[.tmp t, .tmp u]) (hv : getE st.env t = .nil) (hu : getE st.env u = .bool b) (hb : b = b') :
    RetPost P fn al [] (Ret (.tuple [.olist T sz [], .bool b'])) .ret st := by
  subst hb
  exact ret_of [.nil, .bool b] [none] (by rw [hr]; exact ⟨hv, hu, trivial⟩) ⟨[none], [], ⟨rfl, rfl⟩, ⟨[], [], ⟨rfl, rfl⟩, rfl, rfl⟩, rfl⟩ trivial
theorem ret_str {fn : Func} {al : Bool} {t : Nat} {b b' : ByteArray} (hr : fn.results = #[.tmp t]) (hv : getE st.env t = .str b) (hb : b = b') : RetPost P fn al [] (Ret (.str b')) .ret st :=
  ret_of [.str b] [] (by rw [hr]; exact ⟨hv, trivial⟩) ⟨hb, rfl⟩ trivial
end
end Go.Vs
