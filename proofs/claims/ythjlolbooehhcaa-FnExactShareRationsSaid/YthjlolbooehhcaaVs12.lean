/- VALUE SEMANTICS, 12: arguments handed over; contracts of functions. -/
import Derived.Test.YthjlolbooehhcaaVs11
set_option linter.unusedVariables false
set_option linter.unusedSimpArgs false
namespace Go.Vs

def ioMem (ios : List Row) : Mem := fun id => if id.1 = io then (ios[id.2]?).map some else none

/-- The own rows that a value names are there. -/
def refsD : Nat → List Id → PV → Bool
  | 0, _, _ => false
  | d + 1, ids, x => match x with
    | .own id _ _ => ids.any fun k => Nat.beq k.1 id.1 && Nat.beq k.2 id.2
    | .osl id _ _ => ids.any fun k => Nat.beq k.1 id.1 && Nat.beq k.2 id.2
    | .agg xs => xs.all (refsD d ids)
    | .tuple xs => xs.all (refsD d ids)
    | .fn _ a b => a.all (refsD d ids) && b.all (refsD d ids)
    | _ => true

/-- Own rows under their old names. -/
def subD : Nat → (Id → Id) → PV → PV
  | 0, _, x => x
  | d + 1, f, x => match x with
    | .own id i off => .own (f id) i off
    | .osl id o n => .osl (f id) o n
    | .agg xs => .agg (xs.map (subD d f))
    | .tuple xs => .tuple (xs.map (subD d f))
    | .fn g a b => .fn g (a.map (subD d f)) (b.map (subD d f))
    | x => x
def AllR (R : PV → PV → Prop) : List PV → List PV → Prop
  | [], [] => True
  | x :: xs, y :: ys => R x y ∧ AllR R xs ys
  | _, _ => False

/-- 'y' is what a callee may take 'x' for: own rows named in 'rd' read as lists, the rows 'ids' are lent. -/
def SnapD : Nat → Mem → List Id → List Id → PV → PV → Prop
  | 0, _, _, _, _, _ => False
  | d + 1, M, ids, rd, x, y => match x, y with
    | .any, .any => True
    | .int k n, .int k' n' => k = k' ∧ n = n'
    | .bool b, .bool b' => b = b'
    | .str s, .str s' => s = s'
    | .nil, .nil => True
    | .nil, .list _ es => es = []
    | .list sz es, .list sz' es' => es = es' ∧ (sz = sz' ∨ es = [])
    | .ptr cs, .ptr cs' => cs = cs'
    | .agg xs, .agg ys => AllR (SnapD d M ids rd) xs ys
    | .fn f a b, .fn f' a' b' => f = f' ∧ AllR (SnapD d M ids rd) a a' ∧ AllR (SnapD d M ids rd) b b'
    | .osl id o n, .list sz es => id ∈ rd ∧ ∃ r, M id = some (some r) ∧ r.bx = false ∧ r.sz = sz ∧ es = (r.es.drop o).take n
    | .own id i off, .ptr cs => id ∈ rd ∧ ∃ r e, M id = some (some r) ∧ r.es[i]? = some e ∧ AllR (SnapD d M [] rd) (e.drop off) cs
    | .osl id o n, .osl id' o' n' => id'.1 = io ∧ ids[id'.2]? = some id ∧ o = o' ∧ n = n'
    | .own id i off, .own id' i' off' => id'.1 = io ∧ ids[id'.2]? = some id ∧ i = i' ∧ off = off'
    | _, _ => False

section
variable {P : Program} {G : Nat → Prop} {ρ ρ' : Id → Option (Nat × Nat)} {w0 w : World} {X : List (Option (Nat × Nat))} {M M' : Mem} {S' : Nat → Prop}

theorem allR_comps {R : PV → PV → Prop} {S : Nat → Prop} (hR : ∀ x y v, R x y → Rep ρ w S M v x → Rep ρ' w S' M' v y) : ∀ (xs ys : List PV), AllR R xs ys → xs.length = ys.length ∧
    ∀ (j : Nat) y, ys[j]? = some y → ∃ x, xs[j]? = some x ∧ R x y
  | [], [], _ => ⟨rfl, fun j y h => by simp at h⟩
  | x :: xs, y :: ys, h => by
    obtain ⟨h1, h2⟩ := allR_comps hR xs ys h.2
    refine ⟨by simp [h1], fun j z hz => ?_⟩
    cases j with
    | zero => simp at hz; subst hz; exact ⟨x, rfl, h.1⟩
    | succ j => exact h2 j z (by simpa using hz)
  | [], _ :: _, h => h.elim
  | _ :: _, [], h => h.elim
theorem comps_snap {R : PV → PV → Prop} {S : Nat → Prop} (hR : ∀ x y v, R x y → Rep ρ w S M v x → Rep ρ' w S' M' v y) {xs ys : List PV} (h : AllR R xs ys) {cs : Array Value} (hc : Comps ρ w S M cs xs) : Comps ρ' w S' M' cs ys := by
  obtain ⟨h1, h2⟩ := allR_comps hR xs ys h
  refine ⟨hc.1.trans h1, fun j y hy => ?_⟩
  obtain ⟨x, hx, hr⟩ := h2 j y hy
  obtain ⟨c, k1, k2⟩ := hc.2 j x hx
  exact ⟨c, k1, hR _ _ _ hr k2⟩

theorem snap_sound (hW : WRel G ρ w0 X M w) (hS : ∀ b, Stab G ρ M w b → S' b) {rd : List Id} (hId : ∀ id ∈ rd, ∀ r b z, M id = some (some r) → ρ id = some (b, z) → S' b) :
    ∀ (d : Nat) (ids : List Id) (M' : Mem) (ρ' : Id → Option (Nat × Nat)), (∀ k id, ids[k]? = some id → ∃ r r', M id = some (some r) ∧ M' (io, k) = some (some r') ∧ r'.sz = r.sz ∧ r'.ty = r.ty ∧ r'.es.length = r.es.length ∧ ρ' (io, k) = ρ id) →
      ∀ x y v, SnapD d M ids rd x y → Rep ρ w (Stab G ρ M w) M v x → Rep ρ' w S' M' v y := by
  intro d
  induction d with
  | zero => intro _ _ _ _ x y v h; exact h.elim
  | succ d ih =>
    intro ids M' ρ' hio x y v h hx
    have hpure : ∀ {v x}, Rep ρ w (Stab G ρ M w) noMem v x → Rep ρ' w S' M' v x := fun h => h.pureMono fun b hb => ⟨hS b hb, rfl⟩
    cases x <;> cases y <;> simp only [SnapD] at h
    case any.any => exact rep_any
    case int.int => obtain ⟨rfl, rfl⟩ := h; exact rep_int.2 (rep_int.1 hx)
    case bool.bool => subst h; exact rep_bool.2 (rep_bool.1 hx)
    case str.str => subst h; exact rep_str.2 (rep_str.1 hx)
    case nil.nil => exact rep_nil.2 (rep_nil.1 hx)
    case nil.list =>
      subst h
      exact rep_list.2 ⟨none, 0, by simpa using rep_nil.1 hx, Nat.le_refl _, fun h => absurd rfl h⟩
    case agg.agg xs ys =>
      obtain ⟨cs, rfl, hc⟩ := rep_agg.1 hx
      exact rep_agg.2 ⟨cs, rfl, comps_snap (ih ids M' ρ' hio) h hc⟩
    case fn.fn =>
      obtain ⟨rfl, h1, h2⟩ := h
      obtain ⟨a, b, rfl, c1, c2⟩ := rep_fn.1 hx
      exact rep_fn.2 ⟨a, b, rfl, comps_snap (ih ids M' ρ' hio) h1 c1, comps_snap (ih ids M' ρ' hio) h2 c2⟩
    case list.list sz es sz' es' =>
      obtain ⟨rfl, h⟩ := h
      obtain ⟨a, cap, e, hcap, hc⟩ := rep_list.1 hx
      refine rep_list.2 ⟨a, cap, e, hcap, fun hne => ?_⟩
      rcases h with rfl | h
      · obtain ⟨ad, e1, e2, e3⟩ := hc hne
        exact ⟨ad, e1, hS _ e2, fun i el hi => ⟨(e3 i el hi).1, (e3 i el hi).2.mono (by rw [add_block]; exact e2) fun b hb => ⟨hS b hb, rfl⟩⟩⟩
      · exact absurd h hne
    case ptr.ptr =>
      subst h
      obtain ⟨ad, e, e2, e3⟩ := rep_ptr.1 hx
      exact rep_ptr.2 ⟨ad, e, hS _ e2, e3.mono e2 fun b hb => ⟨hS b hb, rfl⟩⟩
    case osl.list id o n sz es =>
      obtain ⟨hrd, r, hM, hb, rfl, rfl⟩ := h
      obtain ⟨a, cap, rfl, h1, h2, h3⟩ := osl_cells hW hM hb hx
      have hl : ((r.es.drop o).take n).length = n := by simp; omega
      refine rep_list.2 ⟨a, cap, by rw [hl], by omega, fun hne => ?_⟩
      have hn : 0 < n := by
        rcases Nat.eq_zero_or_pos n with h0 | h0
        · subst h0; simp at hne
        · exact h0
      obtain ⟨b, z, hρ, rfl, g⟩ := h3 hn
      have hSb := hId id hrd r b z hM hρ
      refine ⟨_, rfl, hSb, fun i el hi => ⟨(g i el hi).1, fun j u hu => ?_⟩⟩
      obtain ⟨c, k1, k2, k3⟩ := (g i el hi).2 j u hu
      exact ⟨c, k1, k2, k3.pureMono fun b hb => ⟨hS b hb, rfl⟩⟩
    case own.ptr id i off cs =>
      obtain ⟨hrd, r, e, hM, he, hall⟩ := h
      obtain ⟨b, z, cur, hρ, rfl, g1, g2, g3, g4, g5, _⟩ := own_cells hW hM he hx
      refine rep_ptr.2 ⟨_, rfl, hId id hrd r b z hM hρ, fun j u hu => ?_⟩
      obtain ⟨_, h2⟩ := allR_comps (ρ := ρ) (ρ' := ρ') (w := w) (M := M) (M' := noMem) (S := Stab G ρ M w) (S' := S') (ih [] noMem ρ' (fun k id hk => by simp at hk)) _ _ hall
      obtain ⟨x, hxj, hr⟩ := h2 j u hu
      rw [List.getElem?_drop] at hxj
      obtain ⟨c, k1, k2, k3⟩ := g5 _ x hxj
      refine ⟨c, ?_, k2, (ih [] noMem ρ (fun k id hk => by simp at hk) x u c hr (repB_M k3)).pureMono fun b hb => ⟨hb, rfl⟩⟩
      rw [add_off, cell_of_row w b _ cur r.ty (0, 0) g1, ← k1]
      congr 1; omega
    case osl.osl id o n id' o' n' =>
      obtain ⟨hid, hk, rfl, rfl⟩ := h
      obtain ⟨r, r', hM, hM', hsz, hty, hlen, hρ⟩ := hio _ _ hk
      have hid' : id' = (io, id'.2) := by rw [← hid]
      rw [hid']
      have h1 := (rep_osl hM).1 hx
      refine (rep_osl hM').2 ?_
      rw [hρ]
      cases hb : ρ id with
      | none => simpa [OslOk, hb] using h1
      | some bz =>
        obtain ⟨b, z⟩ := bz
        simp only [OslOk, hb] at h1 ⊢
        rw [hlen, hsz, hty]
        exact h1
    case own.own id i off id' i' off' =>
      obtain ⟨hid, hk, rfl, rfl⟩ := h
      obtain ⟨r, r', hM, hM', hsz, hty, hlen, hρ⟩ := hio _ _ hk
      have hid' : id' = (io, id'.2) := by rw [← hid]
      rw [hid']
      have h1 := (rep_own hM).1 hx
      refine (rep_own hM').2 ?_
      rw [hρ]
      cases hb : ρ id with
      | none => simp [OwnOk, hb] at h1
      | some bz =>
        obtain ⟨b, z⟩ := bz
        simp only [OwnOk, hb] at h1 ⊢
        rw [hsz]
        exact h1
end

/- Results: the own lists of a result become own rows of the caller. -/
def thawL (t : Nat) : Nat → List PV → Nat × List PV × List (Id × Option Row)
  | k, [] => (k, [], [])
  | k, .olist ty sz es :: r => let q := thawL t (k + 1) r; (q.1, .osl (t, k) 0 es.length :: q.2.1, ((t, k), some ⟨ty, sz, es, false⟩) :: q.2.2)
  | k, x :: r => let q := thawL t k r; (q.1, x :: q.2.1, q.2.2)
def thaw1 (t k : Nat) : PV → Nat × PV × List (Id × Option Row)
  | .olist ty sz es => (k + 1, .osl (t, k) 0 es.length, [((t, k), some ⟨ty, sz, es, false⟩)])
  | .agg cs => let q := thawL t k cs; (q.1, .agg q.2.1, q.2.2)
  | x => (k, x, [])
def thawT (t : Nat) : Nat → List PV → Nat × List PV × List (Id × Option Row)
  | k, [] => (k, [], [])
  | k, x :: r => let p := thaw1 t k x; let q := thawT t p.1 r; (q.1, p.2.1 :: q.2.1, p.2.2 ++ q.2.2)
def thaw (t : Nat) : PV → PV × List (Id × Option Row)
  | .tuple vs => let q := thawT t 0 vs; (.tuple q.2.1, q.2.2)
  | x => let q := thaw1 t 0 x; (q.2.1, q.2.2)

def withEs : List Row → List (List (List PV)) → List Row
  | r :: rs, e :: es => { r with es := e } :: withEs rs es
  | _, _ => []

def RetS (G : Nat → Prop) (al : Bool) (ρ : Id → Option (Nat × Nat)) (w0 : World) (M : Mem) (w' : World) (b : Nat) : Prop := Stab G ρ M w' b ∧ (al = false → w0.heap.size ≤ b)

structure RetOk (G : Nat → Prop) (al : Bool) (w0 : World) (X : List (Option (Nat × Nat))) (w' : World) (v : Value) (r : PV) (ios : List Row) (fin : List (List (List PV))) (t : Nat) (ρ : Id → Option (Nat × Nat)) : Prop where
  rel : WRel G ρ w0 X ((ioMem (withEs ios fin)).upds (thaw t r).2) w'
  rows : ∀ id row b z, noMem.upds (thaw t r).2 id = some (some row) → ρ id = some (b, z) → row.bx = false ∧ ∃ cur : Array Value, w'.heap[b]? = some (.cells cur row.ty (0, 0)) ∧
    ∀ (i : Nat) e, row.es[i]? = some e → ∀ (j : Nat) u, e[j]? = some u → ∃ c, cur[z + i * row.sz + j]? = some c ∧ Rep ρ w' (RetS G al ρ w0 ((ioMem (withEs ios fin)).upds (thaw t r).2) w') noMem c u
  val : Rep ρ w' (RetS G al ρ w0 ((ioMem (withEs ios fin)).upds (thaw t r).2) w') (noMem.upds (thaw t r).2) v (thaw t r).1

def Callable (P : Program) (f : FuncId) : Prop := ∃ fn, P.funcs[f]? = some fn ∧ (fn.name == "runtime.NumGoroutine") = false ∧ fn.body.isNone = false

/-- The contract of a function: called with arguments that represent 'args' (and the lent rows 'ios') it returns a value that represents some 'r', the lent rows hold 'fin', and 'Post r fin'. -/
def ContractP (P : Program) (f : FuncId) (al : Bool) (args : List PV) (ios : List Row) (Post : PV → List (List (List PV)) → Prop) : Prop :=
  Callable P f ∧ ∀ (G : Nat → Prop) (w : World) (X : List (Option (Nat × Nat))) (ρ : Id → Option (Nat × Nat)) (cargs : Array Value),
    WRel G ρ w X (ioMem ios) w → X.length = ios.length → Comps ρ w (Stab G ρ (ioMem ios) w) (ioMem ios) cargs args →
    Calls P f cargs w fun e w' => ∃ v r fin, e = .returned v ∧ Post r fin ∧ fin.length = ios.length ∧ (∀ (k : Nat) row f, ios[k]? = some row → fin[k]? = some f → f.length = row.es.length ∧ (row.bx = true → f = row.es)) ∧
      ∀ t, t ≠ io → ∃ ρ', RetOk G al w X w' v r ios fin t ρ'
end Go.Vs
