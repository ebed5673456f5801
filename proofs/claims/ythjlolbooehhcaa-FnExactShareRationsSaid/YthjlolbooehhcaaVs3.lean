/- VALUE SEMANTICS, 3: facts on types; what single operations do in a world that represents pure values. -/
import Derived.Test.YthjlolbooehhcaaVs2
set_option linter.unusedVariables false
set_option linter.unusedSimpArgs false
namespace Go.Vs

def TCell (P : Program) (T : TypeId) : Prop := ∃ ds, P.underlying T = some ds ∧ (∀ fs, ds ≠ .struct fs) ∧ (∀ n e, ds ≠ .array n e)
def TAgg (P : Program) (T : TypeId) (k : Nat) : Prop := (∃ fs, P.underlying T = some (.struct fs)) ∧ ∃ i, P.info? T = some i ∧ i.size = k
def TSlice (P : Program) (T e : TypeId) (sz by_ : Nat) : Prop := P.underlying T = some (.slice e) ∧ ∃ i, P.info? e = some i ∧ i.size = sz ∧ i.bytes = by_ ∧ ∃ z, i.zero = some z ∧ z.cells.size = sz
def TField (P : Program) (T : TypeId) (f off : Nat) : Prop := ∃ fs fd i, P.underlying T = some (.struct fs) ∧ fs[f]? = some fd ∧ fd.offset = off ∧ P.info? fd.type = some i ∧ i.size ≠ 0
def TSize (P : Program) (T : TypeId) (k : Nat) : Prop := ∃ i, P.info? T = some i ∧ i.size = k

def ofConst : Value → PV
  | .int k n => .int k n
  | .bool b => .bool b
  | .string s => .str s
  | .slice none 0 0 => .nil
  | _ => .any
def TZero (P : Program) (T : TypeId) (cs : List PV) : Prop := ∃ i z, P.info? T = some i ∧ i.zero = some z ∧ cs = z.cells.toList.map ofConst

def PV.cells : PV → List PV
  | .agg cs => cs
  | x => [x]
/-- A value of one cell whose shape is known. -/
def PV.one : PV → Bool
  | .int _ _ | .bool _ | .str _ | .nil | .fn _ _ _ | .list _ _ | .ptr _ | .own _ _ _ | .osl _ _ _ => true
  | _ => false
/-- ... that leads to no own row. -/
def PV.pure1 : PV → Bool
  | .int _ _ | .bool _ | .str _ | .nil | .list _ _ | .ptr _ => true
  | _ => false

section
variable {P : Program} {w : World}
theorem run_isAgg_cell {T : TypeId} (h : TCell P T) : (isAgg T).run P w = .ok false w := by
  obtain ⟨ds, h1, h2, h3⟩ := h
  simp only [isAgg, Sem.run_bind, run_underlying h1, Result.andThen_ok]
  cases ds <;> first | rfl | exact absurd rfl (h2 _) | exact absurd rfl (h3 _ _)
theorem run_isAgg_agg {T : TypeId} {k : Nat} (h : TAgg P T k) : (isAgg T).run P w = .ok true w := by
  obtain ⟨⟨fs, h1⟩, _⟩ := h
  simp [isAgg, run_underlying h1]
theorem run_size {T : TypeId} {k : Nat} (h : TSize P T k) : (sizeOf T).run P w = .ok k w := by
  obtain ⟨i, h1, h2⟩ := h
  simp [sizeOf, typeInfo, h1, h2]
theorem TAgg.size {T : TypeId} {k : Nat} (h : TAgg P T k) : TSize P T k := h.2
theorem TSlice.size {T e : TypeId} {sz b : Nat} (h : TSlice P T e sz b) : TSize P e sz := let ⟨_, i, h1, h2, _⟩ := h; ⟨i, h1, h2⟩
theorem run_loadVar_cell {T : TypeId} (h : TCell P T) {a : Addr} {c : Value} (hc : w.cell? a = some c) : (loadVar T a).run P w = .ok c w := by
  simp [loadVar, run_isAgg_cell h, hc]
theorem run_loadVar_agg {T : TypeId} {k : Nat} (h : TAgg P T k) {a : Addr} (cs : List Value) (hl : cs.length = k) (hc : ∀ (j : Nat) v, cs[j]? = some v → w.cell? (a.add j) = some v) :
    (loadVar T a).run P w = .ok (.agg cs.toArray) w := by
  have := run_loadCells_list (P := P) w a cs hc
  rw [hl] at this
  simp [loadVar, run_isAgg_agg h, run_size h.size, this]
theorem run_storeVar_at {T : TypeId} {v : Value} {k : Nat} (h : TSize P T k) (hk : v.cells.size = k) (g o : Nat) (t : TypeId) (cur : Array Value)
    (hg : w.heap[g]? = some (.cells cur t (0, 0))) (hfit : o + v.cells.size ≤ cur.size) (h1 : ∀ c ∈ v.cells.toList, c.oneCell' = true) :
    (storeVar T ⟨g, o, none⟩ v).run P w = .ok () (w.setRow g (cur.toList.take o ++ v.cells.toList ++ cur.toList.drop (o + v.cells.size)).toArray) := by
  have := run_storeCells_at P g o t v.cells.toList 0 cur w hg (by simpa using hfit) h1
  simp only [Nat.add_zero, Array.length_toList] at this
  simp [storeVar, run_size h, hk, this]

/-- A list of values from a function that may fail nowhere below n. -/
theorem exists_cells (f : Nat → Option Value) (n : Nat) (h : ∀ k, k < n → ∃ c, f k = some c) : ∃ l : List Value, l.length = n ∧ ∀ k, k < n → f k = l[k]? := by
  refine ⟨(List.range n).map fun k => (f k).getD undef, by simp, fun k hk => ?_⟩
  obtain ⟨c, hc⟩ := h k hk
  simp [hk, hc]
end

section
variable {G : Nat → Prop} {ρ : Id → Option (Nat × Nat)} {w : World} {S : Nat → Prop} {M : Mem} {v : Value}

theorem rep_ofConst : Rep ρ w S M v (ofConst v) := by
  unfold ofConst
  split
  · exact rep_int.2 rfl
  · exact rep_bool.2 rfl
  · exact rep_str.2 rfl
  · exact rep_nil.2 rfl
  · exact rep_any
theorem rep_one {x : PV} (h : Rep ρ w S M v x) (ho : x.one = true) (hd : ∀ id i off, x = .own id i off → ∃ r, M id = some (some r)) (he : ∀ id o n, x = .osl id o n → ∃ r, M id = some (some r)) : v.oneCell' = true := by
  cases x <;> simp [PV.one] at ho
  case int => rw [rep_int.1 h]; rfl
  case bool => rw [rep_bool.1 h]; rfl
  case str => rw [rep_str.1 h]; rfl
  case nil => rw [rep_nil.1 h]; rfl
  case fn => obtain ⟨a, b, rfl, _⟩ := rep_fn.1 h; rfl
  case list => obtain ⟨a, c, rfl, _⟩ := rep_list.1 h; rfl
  case ptr => obtain ⟨a, rfl, _⟩ := rep_ptr.1 h; rfl
  case own id i off =>
    obtain ⟨r, hr⟩ := hd _ _ _ rfl
    have := (rep_own hr).1 h
    cases hρ : ρ id with
    | none => simp [OwnOk, hρ] at this
    | some bz => obtain ⟨b, z⟩ := bz; simp only [OwnOk, hρ] at this; rw [this]; rfl
  case osl id o n =>
    obtain ⟨r, hr⟩ := he _ _ _ rfl
    have := (rep_osl hr).1 h
    cases hρ : ρ id with
    | none => simp only [OslOk, hρ] at this; rw [this.1]; rfl
    | some bz => obtain ⟨b, z⟩ := bz; simp only [OslOk, hρ] at this; obtain ⟨ad, cap, rfl, _⟩ := this; rfl
theorem rep_pure {ρ' : Id → Option (Nat × Nat)} {M' : Mem} {x : PV} (h : Rep ρ w S M v x) (ho : x.pure1 = true) : Rep ρ' w S M' v x := by
  cases x <;> simp [PV.pure1] at ho
  case int => exact rep_int.2 (rep_int.1 h)
  case bool => exact rep_bool.2 (rep_bool.1 h)
  case str => exact rep_str.2 (rep_str.1 h)
  case nil => exact rep_nil.2 (rep_nil.1 h)
  case list =>
    obtain ⟨a, cap, e, hc, hh⟩ := rep_list.1 h
    exact rep_list.2 ⟨a, cap, e, hc, fun hne => let ⟨ad, h1, h2, h3⟩ := hh hne; ⟨ad, h1, h2, fun i el hi => ⟨(h3 i el hi).1, fun j u hu => let ⟨c, g1, g2, g3⟩ := (h3 i el hi).2 j u hu; ⟨c, g1, g2, g3.pureMono fun b hb => ⟨hb, rfl⟩⟩⟩⟩⟩
  case ptr =>
    obtain ⟨ad, e, hS, hc⟩ := rep_ptr.1 h
    exact rep_ptr.2 ⟨ad, e, hS, fun j u hu => let ⟨c, g1, g2, g3⟩ := hc j u hu; ⟨c, g1, g2, g3.pureMono fun b hb => ⟨hb, rfl⟩⟩⟩
theorem pure1_one {x : PV} (h : x.pure1 = true) : x.one = true := by cases x <;> simp [PV.pure1] at h <;> rfl

/-- The cells of a value, each a cell's. -/
theorem rep_cells {x : PV} (h : Rep ρ w S M v x) (ho : x.cells.all PV.one = true) (hd : ∀ u ∈ x.cells, (∀ id i off, u = .own id i off → ∃ r, M id = some (some r)) ∧ (∀ id o n, u = .osl id o n → ∃ r, M id = some (some r))) :
    Comps ρ w S M v.cells x.cells ∧ ∀ c ∈ v.cells.toList, c.oneCell' = true := by
  have key : ∀ (cs : Array Value) (xs : List PV), Comps ρ w S M cs xs → xs.all PV.one = true → (∀ u ∈ xs, (∀ id i off, u = .own id i off → ∃ r, M id = some (some r)) ∧ (∀ id o n, u = .osl id o n → ∃ r, M id = some (some r))) →
      ∀ c ∈ cs.toList, c.oneCell' = true := by
    intro cs xs hc hall hdd c hm
    obtain ⟨j, hj⟩ := List.getElem?_of_mem hm
    have hjl : j < xs.length := by
      have := (List.getElem?_eq_some_iff.1 hj).1
      rw [← hc.1]; simpa using this
    obtain ⟨c', h1, h2⟩ := hc.2 j xs[j] (List.getElem?_eq_getElem hjl)
    have : c' = c := by
      rw [Array.getElem?_toList] at hj
      rw [hj] at h1
      injection h1 with h1
      exact h1.symm
    subst this
    have hmem : xs[j] ∈ xs := List.getElem_mem hjl
    exact rep_one h2 (List.all_eq_true.1 hall _ hmem) (hdd _ hmem).1 (hdd _ hmem).2
  have single : ∀ {x : PV} {v : Value}, Rep ρ w S M v x → Comps ρ w S M #[v] [x] := by
    intro x v h
    refine ⟨rfl, fun j u hu => ?_⟩
    cases j with
    | zero => simp at hu; subst hu; exact ⟨v, rfl, h⟩
    | succ j => simp at hu
  cases x
  case agg xs =>
    obtain ⟨cs, rfl, hc⟩ := rep_agg.1 h
    exact ⟨hc, key cs xs hc ho hd⟩
  all_goals
    simp only [PV.cells] at ho hd ⊢
    have h1 := rep_one h (by simpa using ho) (hd _ (by simp)).1 (hd _ (by simp)).2
    have hv : v.cells = #[v] := by cases v <;> first | rfl | simp [Value.oneCell'] at h1
    rw [hv]
    exact ⟨single h, key _ _ (single h) ho hd⟩

/-- What an append reads: the cells of a slice, flat. -/
def Src (ρ : Id → Option (Nat × Nat)) (w : World) (S : Nat → Prop) (v : Value) (sz : Nat) (es : List (List PV)) : Prop :=
  ∃ (a : Option Addr) (c : Nat) (news : List Value), v = .slice a es.length c ∧ es.length ≤ c ∧ news.length = es.length * sz ∧ (∀ (j : Nat) u, news[j]? = some u → ∃ ad, a = some ad ∧ w.cell? (ad.add j) = some u) ∧
    (∀ u ∈ news, u.oneCell' = true) ∧ ∀ (i : Nat) e, es[i]? = some e → e.length = sz ∧ ∀ (j : Nat) u, e[j]? = some u → ∃ c, news[i * sz + j]? = some c ∧ Rep ρ w S noMem c u

theorem src_of {sz : Nat} {es : List (List PV)} {a : Option Addr} {cap : Nat} (hcap : es.length ≤ cap) (hsz : 0 < sz)
    (h : es ≠ [] → ∃ ad, a = some ad ∧ ∀ (i : Nat) e, es[i]? = some e → e.length = sz ∧ Cells ρ w S (ad.add (i * sz)) e) : Src ρ w S (.slice a es.length cap) sz es := by
  by_cases hne : es = []
  · subst hne
    exact ⟨a, cap, [], rfl, hcap, by simp, by simp, by simp, by simp⟩
  · obtain ⟨ad, rfl, h1⟩ := h hne
    have hex : ∀ k, k < es.length * sz → ∃ e u c, es[k / sz]? = some e ∧ e[k % sz]? = some u ∧ w.cell? (ad.add k) = some c ∧ c.oneCell' = true ∧ Rep ρ w S noMem c u := by
      intro k hk
      have hi : k / sz < es.length := Nat.div_lt_of_lt_mul (by rw [Nat.mul_comm]; exact hk)
      have hg := List.getElem?_eq_getElem hi
      obtain ⟨g1, g2⟩ := h1 _ _ hg
      have hj : k % sz < (es[k / sz]).length := by rw [g1]; exact Nat.mod_lt _ hsz
      obtain ⟨c, c1, c2, c3⟩ := g2 _ _ (List.getElem?_eq_getElem hj)
      rw [add_add, Nat.mul_comm, Nat.div_add_mod] at c1
      exact ⟨_, _, c, hg, List.getElem?_eq_getElem hj, c1, c2, c3⟩
    obtain ⟨news, hl, hn⟩ := exists_cells (fun k => w.cell? (ad.add k)) (es.length * sz) (fun k hk => let ⟨_, _, c, _, _, h, _⟩ := hex k hk; ⟨c, h⟩)
    refine ⟨some ad, cap, news, rfl, hcap, hl, fun j u hu => ⟨ad, rfl, ?_⟩, fun u hu => ?_, fun i e hi => ⟨(h1 i e hi).1, fun j u hu => ?_⟩⟩
    · have hj : j < es.length * sz := by rw [← hl]; exact (List.getElem?_eq_some_iff.1 hu).1
      rw [hn j hj]; exact hu
    · obtain ⟨j, hj⟩ := List.getElem?_of_mem hu
      have hjl : j < es.length * sz := by rw [← hl]; exact (List.getElem?_eq_some_iff.1 hj).1
      obtain ⟨_, _, c, _, _, c1, c2, _⟩ := hex j hjl
      have := hn j hjl
      rw [c1, hj] at this
      injection this with this
      rw [← this]; exact c2
    · obtain ⟨c, c1, c2, c3⟩ := (h1 i e hi).2 j u hu
      refine ⟨c, ?_, c3⟩
      have hil : i < es.length := (List.getElem?_eq_some_iff.1 hi).1
      have hjl : j < sz := by rw [← (h1 i e hi).1]; exact (List.getElem?_eq_some_iff.1 hu).1
      have hk : i * sz + j < es.length * sz := by
        have : (i + 1) * sz ≤ es.length * sz := Nat.mul_le_mul_right _ hil
        rw [Nat.add_mul] at this; omega
      rw [← hn _ hk, ← add_add]; exact c1
theorem src_list {sz : Nat} {es : List (List PV)} (hsz : 0 < sz) (h : Rep ρ w S M v (.list sz es)) : Src ρ w S v sz es := by
  obtain ⟨a, cap, rfl, hcap, h1⟩ := rep_list.1 h
  exact src_of hcap hsz fun hne => let ⟨ad, e1, _, e3⟩ := h1 hne; ⟨ad, e1, e3⟩
theorem src_nil {sz : Nat} (h : Rep ρ w S M v .nil) : Src ρ w S v sz [] := by
  rw [rep_nil.1 h]
  exact ⟨none, 0, [], rfl, Nat.le_refl _, by simp, by simp, by simp, by simp⟩
end

section
variable {G : Nat → Prop} {ρ : Id → Option (Nat × Nat)} {w0 w : World} {X : List (Option (Nat × Nat))} {M : Mem} {v : Value}
/-- An own slice of pure rows as a list of cells. -/
theorem osl_cells (hW : WRel G ρ w0 X M w) {id : Id} {r : Row} {o n : Nat} (hM : M id = some (some r)) (hb : r.bx = false) (h : Rep ρ w (Stab G ρ M w) M v (.osl id o n)) :
    ∃ (a : Option Addr) (cap : Nat), v = .slice a n cap ∧ n ≤ cap ∧ o + n ≤ r.es.length ∧ (0 < n → ∃ b z, ρ id = some (b, z) ∧ a = some ⟨b, z + o * r.sz, none⟩ ∧
      ∀ (i : Nat) e, ((r.es.drop o).take n)[i]? = some e → e.length = r.sz ∧ Cells ρ w (Stab G ρ M w) ((⟨b, z + o * r.sz, none⟩ : Addr).add (i * r.sz)) e) := by
  have h1 := (rep_osl hM).1 h
  cases hρ : ρ id with
  | none =>
    simp only [OslOk, hρ] at h1
    obtain ⟨rfl, rfl, rfl⟩ := h1
    exact ⟨none, 0, rfl, Nat.le_refl _, by omega, fun h => absurd h (by omega)⟩
  | some bz =>
    obtain ⟨b, z⟩ := bz
    simp only [OslOk, hρ] at h1
    obtain ⟨ad, cap, rfl, h2, h3, h4, h5⟩ := h1
    refine ⟨some ad, cap, rfl, h3, h2, fun hn => ?_⟩
    obtain ⟨rfl, cur, hc, hcs⟩ := h5 (by omega)
    refine ⟨b, z, rfl, rfl, fun i e hi => ?_⟩
    have hr := hW.row id r hM
    rw [hρ] at hr
    obtain ⟨cur', C, g1, g2, g3, g4, g5, g6⟩ := hr
    rw [List.getElem?_take] at hi
    split at hi
    · rename_i hin
      rw [List.getElem?_drop] at hi
      obtain ⟨k1, k2⟩ := g6 _ _ hi
      refine ⟨k1, fun j u hu => ?_⟩
      obtain ⟨c, m1, m2, m3⟩ := k2 j u hu
      have hadd : ((⟨b, z + o * r.sz, none⟩ : Addr).add (i * r.sz)).add j = ⟨b, z + (o + i) * r.sz + j, none⟩ := by
        rw [add_add]
        unfold Addr.add
        split
        · rename_i h0
          have : i * r.sz = 0 := by omega
          have : j = 0 := by omega
          simp [Nat.add_mul, *]
        · simp [Nat.add_mul]; omega
      rw [hadd]
      refine ⟨c, ?_, m2, by simpa [hb] using m3⟩
      rw [cell_of_row w b _ cur' r.ty (0, 0) g1]
      exact m1
    · cases hi
theorem src_osl (hW : WRel G ρ w0 X M w) {id : Id} {r : Row} {o n : Nat} (hM : M id = some (some r)) (hb : r.bx = false) (hsz : 0 < r.sz) (h : Rep ρ w (Stab G ρ M w) M v (.osl id o n)) :
    Src ρ w (Stab G ρ M w) v r.sz ((r.es.drop o).take n) ∧ ((r.es.drop o).take n).length = n := by
  obtain ⟨a, cap, rfl, h1, h2, h3⟩ := osl_cells hW hM hb h
  have hl : ((r.es.drop o).take n).length = n := by simp; omega
  refine ⟨?_, hl⟩
  have := src_of (ρ := ρ) (w := w) (S := Stab G ρ M w) (sz := r.sz) (es := (r.es.drop o).take n) (a := a) (cap := cap) (by omega) hsz fun hne => by
    have : 0 < n := by
      rcases Nat.eq_zero_or_pos n with h0 | h0
      · subst h0; simp at hne
      · exact h0
    obtain ⟨b, z, _, rfl, g⟩ := h3 this
    exact ⟨_, rfl, g⟩
  rw [hl] at this
  exact this
end
end Go.Vs
