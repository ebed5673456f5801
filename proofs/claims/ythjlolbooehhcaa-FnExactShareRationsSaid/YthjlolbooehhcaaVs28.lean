/- VALUE SEMANTICS, 28: more rules whose values are found by looking: literals of slices, appends, cuts, conversions. -/
import Derived.Test.YthjlolbooehhcaaVs27
set_option linter.unusedVariables false
set_option linter.unusedSimpArgs false
namespace Go.Vs
section
variable {P : Program} {ops : Array Oper} {draw : Bool} {rest : List Oper} {env : List (Nat × PV)} {mem : List (Id × Option Row)} {tr : List (List Id × List Id)} {K : St → List (List Id × List Id) → Prop}
  {d : Nat} {ty : TypeId} {pos : String} {af : Array Edge} {x y c : Operand} {T yT : TypeId}

def cellsP : List (Nat × PV) → Option (List (List PV))
  | [] => some []
  | (_, v) :: r => match cellsO v, cellsP r with
    | some c, some l => some (c :: l)
    | _, _ => none
theorem cellsP_ok : ∀ {ps : List (Nat × PV)} {es : List (List PV)}, cellsP ps = some es → ps.map (fun p => p.2.cells) = es
  | [], es, h => by cases h; rfl
  | (i, v) :: r, es, h => by
    simp only [cellsP] at h
    cases h1 : cellsO v with
    | none => rw [h1] at h; cases h
    | some c =>
      cases h2 : cellsP r with
      | none => rw [h1, h2] at h; cases h
      | some l =>
        rw [h1, h2] at h
        cases h
        rw [List.map_cons, cellsP_ok h2, cellsO_ok h1]
theorem x_buildSliceO {parts : List (Nat × Operand)} {n e sz by_ : Nat} {ps : List (Nat × PV)} {es : List (List PV)} (hT : TSlice P T e sz by_) (hps : partsO env parts = some ps) (hes : cellsP ps = some es)
    (hok : ((match getM mem (d, 0) with | none => true | _ => false) && Nat.ble 1 sz && Nat.ble (n * sz) 16777216 && (parts.map (·.1) == List.range n) && (es.all fun c => Nat.beq c.length sz && c.all PV.pure1) && !Nat.beq d io) = true)
    (hk : exec P ops draw rest ⟨(d, .osl (d, 0) 0 n) :: env, ((d, 0), some ⟨e, sz, es, false⟩) :: mem⟩ (([], [(d, 0)]) :: tr) K) : exec P ops draw (⟨some d, .buildSlice T n parts.toArray, ty, pos, af, none⟩ :: rest) ⟨env, mem⟩ tr K := by
  refine x_buildSlice es hT ?_ hok hk
  rw [← cellsP_ok hes, ← partsO_ok hps, List.map_map]
  rfl
theorem lookM {id : Id} {T' sz' : Nat} {es : List (List PV)} {bx : Bool} (h : getM mem id = some (some ⟨T', sz', es, bx⟩)) : getM mem id = some (some ⟨T', sz', es, bx⟩) := h
theorem x_appOO {e sz by_ o n o2 m t2 z2 t1 z1 : Nat} {id id2 : Id} {es1 es2 : List (List PV)} (es' news : List (List PV)) (hT : TSlice P T e sz by_) (hs : evO env x = some (.osl id o n)) (hm : getM mem id = some (some ⟨t1, z1, es1, false⟩)) (hx : evO env y = some (.osl id2 o2 m))
    (hm2 : getM mem id2 = some (some ⟨t2, z2, es2, false⟩)) (hz2 : z2 = sz) (hnews : (es2.drop o2).take m = news)
    (hr : t1 = e ∧ z1 = sz ∧ id.1 ≠ io ∧ 0 < sz) (hon : es1.length = o + n) (hb : n + news.length ≤ 1099511627776 ∧ by_ ≤ 100) (hn : newB mem d = true) (hes : es1.drop o ++ news = es') {n' : Nat} (hn' : n + news.length = n')
    (hk : exec P ops draw rest ⟨(d, .osl (d, 0) 0 n') :: env, ((d, 0), some ⟨e, sz, es', false⟩) :: (id, none) :: mem⟩ (([id, id2], [(d, 0), id]) :: tr) K) :
    exec P ops draw (⟨some d, .call ⟨.builtin .append, #[x, y], #[T, T]⟩, ty, pos, af, none⟩ :: rest) ⟨env, mem⟩ tr K :=
  x_app_oo es' news hT (evO_ok hs) hm (evO_ok hx) hm2 ⟨rfl, hz2⟩ hnews ⟨rfl, hr.1, hr.2.1, hr.2.2.1, hr.2.2.2⟩ hon hb hn hes hn' hk
theorem x_appNO {e sz by_ o2 m t2 z2 : Nat} {id2 : Id} {es2 : List (List PV)} (news : List (List PV)) (hT : TSlice P T e sz by_) (hs : evO env x = some .nil) (hx : evO env y = some (.osl id2 o2 m))
    (hm2 : getM mem id2 = some (some ⟨t2, z2, es2, false⟩)) (hz2 : z2 = sz ∧ 0 < sz) (hnews : (es2.drop o2).take m = news)
    (hb : news.length ≤ 1099511627776 ∧ by_ ≤ 100) (hn : newB mem d = true) {n' : Nat} (hn' : news.length = n')
    (hk : exec P ops draw rest ⟨(d, .osl (d, 0) 0 n') :: env, ((d, 0), some ⟨e, sz, news, false⟩) :: mem⟩ (([id2], [(d, 0)]) :: tr) K) :
    exec P ops draw (⟨some d, .call ⟨.builtin .append, #[x, y], #[T, T]⟩, ty, pos, af, none⟩ :: rest) ⟨env, mem⟩ tr K :=
  x_app_no news hT (evO_ok hs) (evO_ok hx) hm2 ⟨rfl, hz2.1, hz2.2⟩ hnews hb hn hn' hk
/- cuts: bounds as integers -/
def boundO (env : List (Nat × PV)) (dflt : Int) : Option Operand → Option Int
  | none => some dflt
  | some x => match evO env x with
    | some (.int _ m) => some m
    | _ => none
theorem boundO_ok {dflt : Nat} {o : Option Operand} {m : Int} (h : boundO env dflt o = some m) (h0 : 0 ≤ m) : bound (getE env) o dflt m.toNat := by
  cases o with
  | none => simp only [boundO, Option.some.injEq] at h; subst h; simp [bound]
  | some x =>
    simp only [boundO] at h
    cases hx : evO env x with
    | none => rw [hx] at h; cases h
    | some v =>
      rw [hx] at h
      cases v <;> simp only [Option.some.injEq] at h <;> try cases h
      rename_i k
      exact ⟨k, by rw [evO_ok hx]; congr 1; omega⟩
theorem x_sliceL {e sz by_ : Nat} {es : List (List PV)} {lo hi : Option Operand} {l h : Int} (es' : List (List PV)) (hT : TSlice P T e sz by_) (hx : evO env x = some (.list sz es)) (hl : boundO env (0 : Nat) lo = some l) (hh : boundO env (es.length : Nat) hi = some h)
    (hb : 0 ≤ l ∧ l ≤ h ∧ h ≤ es.length) (hes : (es.take h.toNat).drop l.toNat = es') (hk : exec P ops draw rest ⟨(d, .list sz es') :: env, mem⟩ (([], []) :: tr) K) : exec P ops draw (⟨some d, .slice T x lo hi none, ty, pos, af, none⟩ :: rest) ⟨env, mem⟩ tr K :=
  x_slice_l es' hT (evO_ok hx) (boundO_ok hl hb.1) (boundO_ok hh (by omega)) ⟨by omega, by omega⟩ hes hk
theorem x_sliceO {e sz by_ o n t1 z1 : Nat} {id : Id} {es1 : List (List PV)} {bx : Bool} {lo hi : Option Operand} {l h : Int} (o' n' : Nat) (hT : TSlice P T e sz by_) (hx : evO env x = some (.osl id o n)) (hm : getM mem id = some (some ⟨t1, z1, es1, bx⟩)) (hz : z1 = sz)
    (hl : boundO env (0 : Nat) lo = some l) (hh : boundO env (n : Nat) hi = some h) (hb : 0 ≤ l ∧ l ≤ h ∧ h ≤ n) (ho : o + l.toNat = o') (hn : h.toNat - l.toNat = n') (hk : exec P ops draw rest ⟨(d, .osl id o' n') :: env, mem⟩ (([id], []) :: tr) K) :
    exec P ops draw (⟨some d, .slice T x lo hi none, ty, pos, af, none⟩ :: rest) ⟨env, mem⟩ tr K :=
  x_slice_o o' n' hT (evO_ok hx) hm hz (boundO_ok hl hb.1) (boundO_ok hh (by omega)) ⟨by omega, by omega⟩ ho hn hk
theorem x_sliceS {s s' : ByteArray} {lo hi : Option Operand} {l h : Int} (hT : P.underlying T = some .string) (hx : evO env x = some (.str s)) (hl : boundO env (0 : Nat) lo = some l) (hh : boundO env (s.size : Nat) hi = some h)
    (hb : 0 ≤ l ∧ l ≤ h ∧ h ≤ s.size) (hs : s.extract l.toNat h.toNat = s') (hk : exec P ops draw rest ⟨(d, .str s') :: env, mem⟩ (([], []) :: tr) K) : exec P ops draw (⟨some d, .slice T x lo hi none, ty, pos, af, none⟩ :: rest) ⟨env, mem⟩ tr K := by
  subst hs
  exact x_slice_s hT (evO_ok hx) (boundO_ok hl hb.1) (boundO_ok hh (by omega)) ⟨by omega, by omega⟩ hk
theorem g_slice {dst : Option Tmp} {lo hi : Option Operand} {st : St} (h : exec P ops draw (⟨dst, .slice T x lo hi none, ty, pos, af, none⟩ :: rest) st tr K) : exec P ops draw (⟨dst, .slice T x lo hi none, ty, pos, af, none⟩ :: rest) st tr K := h
end
/- The own rows that results hand out. -/
def uO : List PV → Option (List (Option Id))
  | [] => some []
  | .osl id _ _ :: r => match uO r with
    | some l => some (some id :: l)
    | none => none
  | .nil :: r => match uO r with
    | some l => some (none :: l)
    | none => none
  | _ :: r => uO r
def uT : List PV → Option (List (Option Id))
  | [] => some []
  | .agg cs :: r => match uO cs, uT r with
    | some a, some b => appO a b
    | _, _ => none
  | .osl id _ _ :: r => match uT r with
    | some l => some (some id :: l)
    | none => none
  | .nil :: r => match uT r with
    | some l => some (none :: l)
    | none => none
  | _ :: r => uT r
section
variable {P : Program} {st : St} {al : Bool} {xs ys : List PV} {u u1 : List (Option Id)}
theorem ret_T {fn : Func} {x y : PV} {rs : List ResultVar} (hrs : fn.results.toList = rs) (hr : resO st rs = some (x :: y :: xs)) (hu : uT (x :: y :: xs) = some u) (hc : cellsT P rs (x :: y :: xs)) (ha : apartIds u) (he : ExpT al st (x :: y :: xs) ys u) :
    RetPost P fn al [] (Ret (.tuple ys)) .ret st := ret_t hrs hr hc he ha
theorem ret_A {fn : Func} {cs ds : List PV} {rs : List ResultVar} (hrs : fn.results.toList = rs) (hr : resO st rs = some [.agg cs]) (hu : uO cs = some u) (hc : cellsT P rs [.agg cs]) (ha : apartIds u) (he : ExpL al st cs ds u) : RetPost P fn al [] (Ret (.agg ds)) .ret st :=
  ret_agg hrs hr hc he ha
end
end Go.Vs
namespace Go.Vs
/-- What turns truth values into truths. -/
theorem sx : (∀ (p : Prop) [Decidable p], (decide p = true) = p) ∧ (∀ (p : Prop) [Decidable p], (decide p = false) = ¬p) ∧ (∀ (α : Type) [BEq α] [LawfulBEq α] (a b : α), (a == b) = true ↔ a = b) ∧
    (∀ (α : Type) [BEq α] [LawfulBEq α] (a b : α), (a != b) = true ↔ a ≠ b) ∧ (∀ (α : Type) (a b : α), (a ≠ b) = ¬(a = b)) ∧ (∀ b : Bool, ((!b) = true) = (b = false)) ∧ (∀ (α : Type) [BEq α] [LawfulBEq α] (a b : α), (a == b) = false ↔ a ≠ b) ∧
    (∀ (α : Type) [BEq α] [LawfulBEq α] (a b : α), (a != b) = false ↔ a = b) ∧ (∀ b : Bool, ((!b) = false) = (b = true)) ∧ (∀ a b : Bool, ((a && b) = true) = (a = true ∧ b = true)) ∧ (∀ a b : Bool, ((a || b) = true) = (a = true ∨ b = true)) ∧
    (∀ a b : Bool, (a && b) = false ↔ a = false ∨ b = false) ∧ (∀ a b : Bool, (a || b) = false ↔ a = false ∧ b = false) ∧ ((!true) = false) ∧ ((!false) = true) ∧ ((true = false) = False) ∧ ((false = true) = False) ∧
    (∀ (p : Prop) [Decidable p], (¬¬p) ↔ p) := by
  refine ⟨?_, ?_, ?_, ?_, ?_, ?_, ?_, ?_, ?_, ?_, ?_, ?_, ?_, rfl, rfl, ?_, ?_, ?_⟩
  · intro p _; exact decide_eq_true_eq
  · intro p _; exact propext decide_eq_false_iff_not
  · intro α _ _ a b; exact beq_iff_eq
  · intro α _ _ a b; exact bne_iff_ne
  · intro α a b; rfl
  · intro b; cases b <;> simp
  · intro α _ _ a b; exact beq_eq_false_iff_ne
  · intro α _ _ a b; exact bne_eq_false_iff_eq
  · intro b; cases b <;> simp
  · intro a b; exact Bool.and_eq_true a b
  · intro a b; exact Bool.or_eq_true a b
  · intro a b; exact Bool.and_eq_false_iff
  · intro a b; exact Bool.or_eq_false_iff
  · simp
  · simp
  · intro p _; exact Decidable.not_not
/-- What makes concrete lists plain. -/
theorem lx : (∀ m n : Nat, Nat.add m n = m + n) ∧ (∀ n : Nat, 0 + n = n) ∧ (∀ n : Nat, n + 0 = n) ∧ (∀ (α : Type) (i : Nat) (a : α) (l : List α), (a :: l).take (i + 1) = a :: l.take i) ∧ (∀ (α : Type) (i : Nat) (a : α) (l : List α), (a :: l).drop (i + 1) = l.drop i) ∧
    (∀ (α : Type) (l : List α), l.take 0 = []) ∧ (∀ (α : Type) (l : List α), l.drop 0 = l) ∧ (∀ (α : Type) (i : Nat), ([] : List α).take i = []) ∧ (∀ (α : Type) (i : Nat), ([] : List α).drop i = []) ∧ (∀ (α : Type) (a : α) (l m : List α), (a :: l) ++ m = a :: (l ++ m)) ∧
    (∀ (α : Type) (l : List α), [] ++ l = l) ∧ (∀ (α : Type) (l : List α), l ++ [] = l) ∧ (∀ (α : Type) (a b : α) (l : List α), (a :: l).set 0 b = b :: l) ∧ (∀ (α : Type) (i : Nat) (a b : α) (l : List α), (a :: l).set (i + 1) b = a :: l.set i b) ∧
    (∀ (α : Type) (i : Nat) (a b : α) (l : List α), (l.set i a).set i b = l.set i b) := by
  refine ⟨fun _ _ => rfl, fun n => Nat.zero_add n, fun _ => rfl, fun _ _ _ _ => rfl, fun _ _ _ _ => rfl, fun _ _ => rfl, fun _ _ => rfl, fun _ _ => List.take_nil, fun _ _ => List.drop_nil, fun _ _ _ _ => rfl, fun _ _ => rfl, fun _ l => List.append_nil l, fun _ _ _ _ => rfl, fun _ _ _ _ _ => rfl, fun _ _ _ _ _ => by simp⟩
section
variable {mem : List (Id × Option Row)} {ids rd : List Id} {d : Nat} {id : Id}
theorem sn_all {n T sz : Nat} {es : List (List PV)} (h : hasId rd id = true) (hm : getM mem id = some (some ⟨T, sz, es, false⟩)) (hn : n = es.length) : SnapD (d + 1) (getM mem) ids rd (.osl id 0 n) (.list sz es) :=
  ⟨by
    clear hm hn
    induction rd with
    | nil => cases h
    | cons a r ih =>
      simp only [hasId] at h
      cases he : idEq a id with
      | true => rw [idEq_iff.1 he]; exact List.mem_cons_self
      | false => rw [he] at h; exact List.mem_cons_of_mem _ (ih h), _, hm, rfl, rfl, takeAll hn⟩
theorem has_mem : ∀ {rd : List Id}, hasId rd id = true → id ∈ rd
  | a :: r, h => by
    simp only [hasId] at h
    cases he : idEq a id with
    | true => rw [idEq_iff.1 he]; exact List.mem_cons_self
    | false => rw [he] at h; exact List.mem_cons_of_mem _ (has_mem h)
theorem sn_part {o n T sz : Nat} {es es' : List (List PV)} (h : hasId rd id = true) (hm : getM mem id = some (some ⟨T, sz, es, false⟩)) (hn : es' = (es.drop o).take n) : SnapD (d + 1) (getM mem) ids rd (.osl id o n) (.list sz es') :=
  ⟨has_mem h, _, hm, rfl, rfl, hn⟩
theorem sn_own {i off T sz : Nat} {bx : Bool} {es : List (List PV)} {e cs : List PV} (h : hasId rd id = true) (hm : getM mem id = some (some ⟨T, sz, es, bx⟩)) (he : es[i]? = some e) (hs : AllR (SnapD d (getM mem) [] rd) (e.drop off) cs) : SnapD (d + 1) (getM mem) ids rd (.own id i off) (.ptr cs) :=
  ⟨has_mem h, _, _, hm, he, hs⟩
end
end Go.Vs
