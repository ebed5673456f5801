/- Parts of a proof: what its last text mentions. -/
import Derived.Test.YtaoadjbjpagdoaaCxd
set_option linter.unusedVariables false
set_option linter.unusedSimpArgs false
set_option linter.unusedSectionVars false
namespace Go.Vs
def mixO (TI : TypeId) (qs : List Plc) (M : List (List Int)) : List (Nat × Id × Nat) → List (List PV)
  | [] => rowM TI qs M
  | (a, id, n) :: fs => (mixO TI qs M fs).set a [.osl id 0 n]
section
variable {TI : TypeId} {qs : List Plc} {M : List (List Int)}
theorem mixO_len (h : qs.length = M.length) : ∀ fs, (mixO TI qs M fs).length = M.length
  | [] => rowM_len h
  | (a, id, n) :: fs => by rw [mixO, List.length_set, mixO_len h fs]
theorem mixO_inv : ∀ {fs : List (Nat × Id × Nat)} {j : Nat} {e : List PV}, (mixO TI qs M fs)[j]? = some e → (∃ f ∈ fs, f.1 = j ∧ e = [.osl f.2.1 0 f.2.2]) ∨ ((∀ f ∈ fs, f.1 ≠ j) ∧ (rowM TI qs M)[j]? = some e)
  | [], j, e, h => .inr ⟨fun f hf => (by cases hf), h⟩
  | (a, id, n) :: fs, j, e, h => by
    rw [mixO] at h
    by_cases hj : a = j
    · subst hj
      have hlt := (List.getElem?_eq_some_iff.1 h).1
      rw [List.length_set] at hlt
      rw [List.getElem?_set_self hlt] at h
      injection h with h
      exact .inl ⟨_, List.mem_cons_self, rfl, h.symm⟩
    · rw [List.getElem?_set_ne hj] at h
      rcases mixO_inv h with ⟨f, hf, h1, h2⟩ | ⟨h1, h2⟩
      · exact .inl ⟨f, List.mem_cons_of_mem _ hf, h1, h2⟩
      · refine .inr ⟨fun f hf => ?_, h2⟩
        rcases List.mem_cons.1 hf with rfl | hf
        · exact hj
        · exact h1 f hf
theorem mixO_at : ∀ {fs : List (Nat × Id × Nat)} {j : Nat} {q : Plc} {r : List Int}, (∀ f ∈ fs, f.1 ≠ j) → qs[j]? = some q → M[j]? = some r → (mixO TI qs M fs)[j]? = some [.sem (LP q TI (ints r))]
  | [], j, q, r, _, hq, hr => rowM_at hq hr
  | (a, id, n) :: fs, j, q, r, h, hq, hr => by
    rw [mixO, List.getElem?_set_ne (h _ List.mem_cons_self)]
    exact mixO_at (fun f hf => h f (List.mem_cons_of_mem _ hf)) hq hr
theorem mixO_set : ∀ {fs : List (Nat × Id × Nat)} {a : Nat} {q : Plc} {r : List Int}, (∀ f ∈ fs, f.1 ≠ a) → (mixO TI qs M fs).set a [.sem (LP q TI (ints r))] = mixO TI (qs.set a q) (M.set a r) fs
  | [], a, q, r, _ => rowM_set
  | (c, id, n) :: fs, a, q, r, h => by
    rw [mixO, mixO, List.set_comm _ _ (h _ List.mem_cons_self), mixO_set fun f hf => h f (List.mem_cons_of_mem _ hf)]
theorem mixO_none {fs : List (Nat × Id × Nat)} {a : Nat} {id : Id} {n : Nat} (h : ∀ f ∈ fs, f.1 ≠ a) (hl : qs.length = M.length) : (mixO TI qs M fs).set a [.osl id 0 n] = mixO TI (qs.set a none) M ((a, id, n) :: fs) := by
  rw [mixO]
  rcases Nat.lt_or_ge a M.length with ha | ha
  · obtain ⟨r, hr⟩ := get_ex ha
    have : M.set a r = M := by
      refine List.ext_getElem? fun j => ?_
      by_cases hj : a = j
      · subst hj; rw [List.getElem?_set_self ha, hr]
      · rw [List.getElem?_set_ne hj]
    rw [show mixO TI (qs.set a none) M fs = mixO TI (qs.set a none) (M.set a r) fs by rw [this], ← mixO_set h, List.set_set]
  · rw [List.set_eq_of_length_le (by rw [mixO_len hl]; exact ha), List.set_eq_of_length_le (l := qs) (by omega), List.set_eq_of_length_le (by rw [mixO_len hl]; exact ha)]
end
section
variable [fl : Inhabited FlrT]
theorem ent_foc {env : List (Nat × PV)} {mem : List (Id × Option Row)} {id ida : Id} {TS TI : TypeId} {qs : List Plc} {M : List (List Int)} {fs : List (Nat × Id × Nat)} {bx : Bool} {a n : Nat} {q : Plc} {r : List Int} (env' : List (Nat × PV)) (memk : List (Id × Option Row))
    (hm : getM mem id = some (some ⟨TS, 1, mixO TI qs M fs, bx⟩)) (hbx : fs = [] ∨ bx = true) (hq : qs[a]? = some q) (hr : M[a]? = some r) (hn : r.length = n) (ha : ∀ f ∈ fs, f.1 ≠ a) (hl : qs.length = M.length) (hA : Apt qs)
    (hfree : getM mem ida = none) (hio : ida.1 ≠ io) (ht : tabG = []) (hw : ∀ b, inQ q b → flW b)
    (hfs : ∀ f ∈ fs, Stays (inQ q) ((ida, some ⟨TI, 1, ints r, false⟩) :: (id, some ⟨TS, 1, mixO TI (qs.set a none) M ((a, ida, n) :: fs), true⟩) :: memk) ida mem (.osl f.2.1 0 f.2.2))
    (hk : allL (fun p : Id × Option Row => getM mem p.1 = some p.2 ∧ p.1 ≠ id ∧ ∀ r, p.2 = some r → ∀ e ∈ r.es, ∀ u ∈ e, Calm (inQ q) u) memk)
    (henv : allL (fun p : Nat × PV => getE env p.1 = p.2 ∧ Stays (inQ q) ((ida, some ⟨TI, 1, ints r, false⟩) :: (id, some ⟨TS, 1, mixO TI (qs.set a none) M ((a, ida, n) :: fs), true⟩) :: memk) ida mem p.2) env') :
    EntN ⟨env, mem⟩ (· = ⟨env', (ida, some ⟨TI, 1, ints r, false⟩) :: (id, some ⟨TS, 1, mixO TI (qs.set a none) M ((a, ida, n) :: fs), true⟩) :: memk⟩) := by
  subst hn
  have e := mixO_none (TI := TI) (id := ida) (n := r.length) ha hl
  have el : (ints r).length = r.length := ints_len r
  rw [← e] at hfs henv ⊢
  rw [← el] at hfs henv ⊢
  refine ent_focus hm (mixO_at ha hq hr) hfree hio ht hw (fun j e' hj he' => ?_) hk henv
  rcases mixO_inv he' with ⟨f, hf, h1, h2⟩ | ⟨h1, h2⟩
  · refine .inr ⟨?_, _, h2, hfs f hf⟩
    rcases hbx with h | h
    · rw [h] at hf; cases hf
    · exact h
  · obtain ⟨q', r', g1, g2, g3⟩ := rowM_inv h2
    exact .inl ⟨q', TI, ints r', g3, fun b hb hb' => hj (hA j a q' q b g1 hq hb' hb)⟩
theorem ent_unf {env : List (Nat × PV)} {mem : List (Id × Option Row)} {id ida : Id} {TS TI : TypeId} {qs : List Plc} {M : List (List Int)} {fs : List (Nat × Id × Nat)} {a n : Nat} {r : List Int} {es : List (List PV)} (bx' : Bool) (env' : List (Nat × PV)) (memk : List (Id × Option Row))
    (hm : getM mem id = some (some ⟨TS, 1, mixO TI qs M ((a, ida, n) :: fs), true⟩)) (hbx : fs = [] ∨ bx' = true) (hq : qs[a]? = some none) (hma : getM mem ida = some (some ⟨TI, 1, es, false⟩)) (hes : es = ints r) (hn : r.length = n) (ha : ∀ f ∈ fs, f.1 ≠ a) (hl : qs.length = M.length) (hA : Apt qs) (hnon : ∀ f ∈ fs, qs[f.1]? = some none)
    (hio : ida.1 ≠ io) (hne : id ≠ ida) (ht : tabG = []) (hok : ∀ (w0 : World) X, FlOk w0 X → ∀ b, (w0.heap.size ≤ b ∨ ∃ z, some (b, z) ∈ X) → flW b)
    (hfs : ∀ q, ∀ f ∈ fs, Stays (fun _ => False) ((id, some ⟨TS, 1, mixO TI (qs.set a q) (M.set a r) fs, bx'⟩) :: memk) ida mem (.osl f.2.1 0 f.2.2))
    (hk : allL (fun p : Id × Option Row => getM mem p.1 = some p.2 ∧ p.1 ≠ id ∧ p.1 ≠ ida ∧ ∀ r, p.2 = some r → ∀ e ∈ r.es, ∀ u ∈ e, Calm (fun _ => False) u) memk)
    (henv : ∀ q, allL (fun p : Nat × PV => getE env p.1 = p.2 ∧ Stays (fun _ => False) ((id, some ⟨TS, 1, mixO TI (qs.set a q) (M.set a r) fs, bx'⟩) :: memk) ida mem p.2) env') :
    EntN ⟨env, mem⟩ fun st' => ∃ q, (∀ b, inQ q b → flN ≤ b ∧ flW b) ∧ Apt (qs.set a q) ∧ st' = ⟨env', (id, some ⟨TS, 1, mixO TI (qs.set a q) (M.set a r) fs, bx'⟩) :: memk⟩ := by
  subst hes
  subst hn
  have el : (ints r).length = r.length := ints_len r
  have hal : a < M.length := by rw [← hl]; exact (List.getElem?_eq_some_iff.1 hq).1
  have e : ∀ q, (mixO TI qs M ((a, ida, r.length) :: fs)).set a [.sem (LP q TI (ints r))] = mixO TI (qs.set a q) (M.set a r) fs := fun q => by rw [mixO, List.set_set, mixO_set ha]
  have hi : (mixO TI qs M ((a, ida, r.length) :: fs))[a]? = some [.osl ida 0 (ints r).length] := by rw [mixO, List.getElem?_set_self (by rw [mixO_len hl]; exact hal), el]
  have := ent_unfocus (env := env) (env' := env') bx' hm hi hma (ints_flat r) hio hne ht hok (fun q j e' hj he' => ?_) hk (fun q => by rw [e q]; exact henv q)
  · refine this.imp ?_
    rintro s ⟨q, h1, h2, rfl⟩
    refine ⟨q, h1, ?_, by rw [e q]⟩
    refine apt_set hA fun j q' hj hq' b hb => ?_
    have hjl : j < M.length := by rw [← hl]; exact (List.getElem?_eq_some_iff.1 hq').1
    obtain ⟨r', hr'⟩ := get_ex hjl
    by_cases hf : ∀ f ∈ ((a, ida, r.length) :: fs : List (Nat × Id × Nat)), f.1 ≠ j
    · exact h2 j q' TI (ints r') hj (mixO_at hf hq' hr') b hb
    · have : q' = none := by
        rcases Classical.not_forall.1 hf with ⟨f, hf⟩
        rcases Classical.not_forall.1 hf with ⟨hf, hf2⟩
        have hf2 := Classical.not_not.1 hf2
        rcases List.mem_cons.1 hf with rfl | hf
        · exact absurd hf2.symm hj
        · have := hnon f hf
          rw [hf2, hq'] at this
          injection this
      subst this
      rintro ⟨z, hz⟩
      cases hz
  · rcases mixO_inv he' with ⟨f, hf, h1, h2⟩ | ⟨h1, h2⟩
    · rcases List.mem_cons.1 hf with rfl | hf
      · exact absurd h1.symm hj
      · refine .inr ⟨?_, _, h2, by rw [e q]; exact hfs q f hf⟩
        rcases hbx with h | h
        · rw [h] at hf; cases hf
        · exact h
    · obtain ⟨q', r', g1, g2, g3⟩ := rowM_inv h2
      exact .inl ⟨q', TI, ints r', g3⟩
end
end Go.Vs
set_option linter.unusedVariables false
set_option linter.unusedSimpArgs false
namespace Go.Vs
abbrev Mtx := List (List Int)
def rw_ (M : Mtx) (a : Nat) : List Int := M.getD a []
def stpK (row : List Int) (a : Nat) (s : List Int × List Int) (b : Nat) : List Int × List Int :=
  if 0 < row.getD b 0 ∧ s.1.getD b 0 < 0 then (s.1.set b (a : Int), s.2 ++ [(b : Int)]) else s
def scan (row : List Int) (a : Nat) (s : List Int × List Int) : Nat → List Int × List Int
  | 0 => s
  | k + 1 => stpK row a (scan row a s k) k
def bst (M : Mtx) (n : Nat) (s : List Int × List Int) : List Int × List Int :=
  match s.2 with
  | [] => s
  | a :: r => scan (rw_ M a.toNat) a.toNat (s.1, r) n
def bf0 (n : Nat) : List Int × List Int := ((List.replicate n (-1)).set (n - 2) ((n - 2 : Nat) : Int), [((n - 2 : Nat) : Int)])
def bfs (M : Mtx) (n : Nat) : Nat → List Int × List Int
  | 0 => bf0 n
  | t + 1 => bst M n (bfs M n t)
def negs : List Int → Nat
  | [] => 0
  | x :: r => (if x < 0 then 1 else 0) + negs r
theorem getDk {α : Type} {l : List α} {i : Nat} {x d : α} (h : l[i]? = some x) : l.getD i d = x := by simp [List.getD_eq_getElem?_getD, h]
theorem getD_self {l : List Int} {i : Nat} {x : Int} (h : i < l.length) : (l.set i x).getD i 0 = x := getDk (by rw [List.getElem?_set_self h])
theorem getD_ne {l : List Int} {i j : Nat} {x : Int} (h : i ≠ j) : (l.set i x).getD j 0 = l.getD j 0 := by simp only [List.getD_eq_getElem?_getD]; rw [List.getElem?_set_ne h]
theorem negs_set : ∀ {l : List Int} {b : Nat} {x a : Int}, l[b]? = some x → x < 0 → 0 ≤ a → negs (l.set b a) + 1 = negs l
  | [], b, x, a, h, _, _ => by simp at h
  | y :: r, 0, x, a, h, hx, ha => by
    simp at h
    subst h
    simp only [List.set_cons_zero, negs]
    rw [if_neg aO, if_pos hx]
    omega
  | y :: r, b + 1, x, a, h, hx, ha => by
    have := negs_set (l := r) (b := b) (x := x) (a := a) (by simpa using h) hx ha
    simp only [List.set_cons_succ, negs]
    omega
theorem negs_rep : ∀ n, negs (List.replicate n (-1)) = n
  | 0 => rfl
  | n + 1 => by rw [List.replicate_succ]; simp only [negs]; rw [negs_rep n, if_pos aO]; omega
structure Bf (M : Mtx) (n : Nat) (L : List Nat) (h : Nat) (s : List Int × List Int) : Prop where
  len : s.1.length = n
  nx : s.2 = (L.drop h).map fun x : Nat => (x : Int)
  hl : h ≤ L.length
  nd : ∀ (i j x : Nat), L[i]? = some x → L[j]? = some x → i = j
  rg : ∀ x ∈ L, x < n
  vis : ∀ b, b < n → (0 ≤ s.1.getD b 0 ↔ b ∈ L)
  par : ∀ (i b : Nat), L[i + 1]? = some b → ∃ j a, j ≤ i ∧ L[j]? = some a ∧ s.1.getD b 0 = (a : Int) ∧ 0 < (rw_ M a).getD b 0
  hd : L[0]? = some (n - 2)
  cnt : L.length + negs s.1 = n
theorem Bf.stpK {M : Mtx} {n h g a b : Nat} {L : List Nat} {s : List Int × List Int} (H : Bf M n L h s) (hg : L[g]? = some a) (hb : b < n) :
    ∃ L', L'[g]? = some a ∧ Bf M n L' h (stpK (rw_ M a) a s b) := by
  unfold Go.Vs.stpK
  split
  · rename_i hc
    have hnb : b ∉ L := fun hm => by have := (H.vis b hb).2 hm; omega
    have hgl := get_lt hg
    have hbl : b < s.1.length := by rw [H.len]; exact hb
    refine ⟨L ++ [b], by rw [List.getElem?_append_left hgl]; exact hg, ?_⟩
    refine ⟨by simp [H.len], ?_, by have := H.hl; simp; omega, fun i j x hi hj => ?_, fun x hx => ?_, fun c hc' => ?_, fun i c hi => ?_, ?_, ?_⟩
    · rw [List.drop_append_of_le_length H.hl, List.map_append, ← H.nx]
      rfl
    · rcases Nat.lt_or_ge i L.length with li | li <;> rcases Nat.lt_or_ge j L.length with lj | lj
      · rw [List.getElem?_append_left li] at hi
        rw [List.getElem?_append_left lj] at hj
        exact H.nd i j x hi hj
      · rw [List.getElem?_append_left li] at hi
        rw [List.getElem?_append_right lj] at hj
        have := List.mem_of_getElem? hj
        simp at this
        rw [this] at hi
        exact absurd (get_mem hi) hnb
      · rw [List.getElem?_append_right li] at hi
        rw [List.getElem?_append_left lj] at hj
        have := List.mem_of_getElem? hi
        simp at this
        rw [this] at hj
        exact absurd (get_mem hj) hnb
      · have h1 := get_lt hi
        have h2 := get_lt hj
        simp at h1 h2
        omega
    · rcases List.mem_append.1 hx with h1 | h1
      · exact H.rg x h1
      · simp at h1; omega
    · by_cases hcb : b = c
      · subst hcb
        rw [getD_self hbl]
        simp
      · rw [getD_ne hcb, H.vis c hc']
        simp
        omega
    · rcases Nat.lt_or_ge (i + 1) L.length with li | li
      · rw [List.getElem?_append_left li] at hi
        obtain ⟨j, a', h1, h2, h3, h4⟩ := H.par i c hi
        have hcb : b ≠ c := fun e => hnb (by rw [e]; exact get_mem hi)
        refine ⟨j, a', h1, by rw [List.getElem?_append_left (get_lt h2)]; exact h2, by rw [getD_ne hcb]; exact h3, h4⟩
      · have h1 := get_lt hi
        simp at h1
        rw [List.getElem?_append_right li] at hi
        have := List.mem_of_getElem? hi
        simp at this
        subst this
        exact ⟨g, a, by omega, by rw [List.getElem?_append_left hgl]; exact hg, getD_self hbl, hc.1⟩
    · rw [List.getElem?_append_left (get_lt H.hd)]; exact H.hd
    · obtain ⟨x, hx⟩ := get_ex hbl
      have h1 := hc.2
      rw [getDk hx] at h1
      have := negs_set hx h1 (show (0 : Int) ≤ a by omega)
      have h2 := H.cnt
      simp only [List.length_append, List.length_cons, List.length_nil]
      omega
  · exact ⟨L, hg, H⟩
theorem Bf.scan {M : Mtx} {n h g a : Nat} {L : List Nat} {s : List Int × List Int} (H : Bf M n L h s) (hg : L[g]? = some a) : ∀ k, k ≤ n → ∃ L', L'[g]? = some a ∧ Bf M n L' h (scan (rw_ M a) a s k)
  | 0, _ => ⟨L, hg, H⟩
  | k + 1, hk => by
    obtain ⟨L1, h1, H1⟩ := Bf.scan H hg k aO
    exact H1.stpK h1 aO
theorem bf_init (M : Mtx) {n : Nat} (hn : 2 ≤ n) : Bf M n [n - 2] 0 (bf0 n) := by
  have hl : (List.replicate n (-1 : Int)).length = n := by simp
  have hg : (List.replicate n (-1 : Int))[n - 2]? = some (-1) := by rw [List.getElem?_replicate]; simp; omega
  refine ⟨by simp [bf0], by simp [bf0], by simp, fun i j x hi hj => ?_, fun x hx => ?_, fun b hb => ?_, fun i b hi => by simp at hi, rfl, ?_⟩
  · have h1 := get_lt hi
    have h2 := get_lt hj
    simp at h1 h2
    omega
  · simp at hx; omega
  · unfold bf0
    by_cases hb2 : n - 2 = b
    · subst hb2
      rw [getD_self (by rw [hl]; omega)]
      simp
    · rw [getD_ne hb2]
      rw [getDk (show (List.replicate n (-1 : Int))[b]? = some (-1) by rw [List.getElem?_replicate]; simp; omega)]
      simp
      omega
  · have := negs_set hg aO (show (0 : Int) ≤ ((n - 2 : Nat) : Int) by omega)
    rw [negs_rep] at this
    simp only [bf0, List.length_cons, List.length_nil]
    omega
theorem bst_nil {M : Mtx} {n : Nat} {s : List Int × List Int} (h : s.2 = []) : bst M n s = s := by unfold bst; rw [h]
theorem bst_cons {M : Mtx} {n a : Nat} {f r : List Int} : bst M n (f, (a : Int) :: r) = scan (rw_ M a) a (f, r) n := by simp [bst]
theorem Bf.pop {M : Mtx} {n h : Nat} {L : List Nat} {f : List Int} {x : Int} {r : List Int} (H : Bf M n L h (f, x :: r)) : ∃ a : Nat, x = (a : Int) ∧ L[h]? = some a ∧ Bf M n L (h + 1) (f, r) := by
  have hnx := H.nx
  simp only at hnx
  have hlt : h < L.length := by
    rcases Nat.lt_or_ge h L.length with h1 | h1
    · exact h1
    · rw [List.drop_eq_nil_of_le h1] at hnx; simp at hnx
  rw [List.drop_eq_getElem_cons hlt, List.map_cons] at hnx
  injection hnx with h1 h2
  exact ⟨L[h], h1, List.getElem?_eq_getElem hlt, ⟨H.len, h2, hlt, H.nd, H.rg, H.vis, H.par, H.hd, H.cnt⟩⟩
theorem bfs_bf (M : Mtx) {n : Nat} (hn : 2 ≤ n) : ∀ t, (∀ t', t' < t → (bfs M n t').2 ≠ []) → ∃ L, Bf M n L t (bfs M n t)
  | 0, _ => ⟨_, bf_init M hn⟩
  | t + 1, h => by
    obtain ⟨L, H⟩ := bfs_bf M hn t fun t' ht => h t' aO
    have hne := h t aO
    show ∃ L, Bf M n L (t + 1) (bst M n (bfs M n t))
    generalize bfs M n t = s at H hne
    obtain ⟨f, nx⟩ := s
    cases nx with
    | nil => exact absurd rfl hne
    | cons x r =>
      obtain ⟨a, rfl, h1, H1⟩ := H.pop
      rw [bst_cons]
      obtain ⟨L', _, H2⟩ := H1.scan h1 n (Nat.le_refl _)
      exact ⟨L', H2⟩
theorem bfs_fix {M : Mtx} {n t : Nat} (h : (bfs M n t).2 = []) : ∀ k, bfs M n (t + k) = bfs M n t
  | 0 => rfl
  | k + 1 => by show bst M n (bfs M n (t + k)) = _; rw [bfs_fix h k, bst_nil h]
def cameF (M : Mtx) (n : Nat) : List Int := (bfs M n (n + 1)).1
theorem bfs_last {M : Mtx} {n t : Nat} (hn : 2 ≤ n) (h : ∀ t', t' < t → (bfs M n t').2 ≠ []) (he : (bfs M n t).2 = []) : (bfs M n t).1 = cameF M n := by
  obtain ⟨L, H⟩ := bfs_bf M hn t h
  have h1 := H.hl
  have h2 := H.cnt
  have : n + 1 = t + (n + 1 - t) := by omega
  unfold cameF
  rw [this, bfs_fix he]
theorem came_bf (M : Mtx) {n : Nat} (hn : 2 ≤ n) : ∃ L h, Bf M n L h (cameF M n, []) := by
  by_cases hx : ∃ t, t ≤ n + 1 ∧ (bfs M n t).2 = []
  · obtain ⟨t, ht, he⟩ := hx
    obtain ⟨T, hT, hl⟩ : ∃ T, (T ≤ t ∧ (bfs M n T).2 = []) ∧ ∀ j, j < T → (bfs M n j).2 ≠ [] := by
      clear ht
      induction t using Nat.strongRecOn with
      | ind t ih =>
        by_cases hj : ∃ j, j < t ∧ (bfs M n j).2 = []
        · obtain ⟨j, hj1, hj2⟩ := hj
          obtain ⟨T, ⟨h1, h2⟩, h3⟩ := ih j hj1 hj2
          exact ⟨T, ⟨by omega, h2⟩, h3⟩
        · exact ⟨t, ⟨Nat.le_refl _, he⟩, fun j h1 h2 => hj ⟨j, h1, h2⟩⟩
    obtain ⟨L, H⟩ := bfs_bf M hn T hl
    refine ⟨L, T, ?_⟩
    rw [← bfs_last hn hl hT.2, ← hT.2]
    exact H
  · obtain ⟨L, H⟩ := bfs_bf M hn (n + 1) fun t' ht he => hx ⟨t', by omega, he⟩
    have h1 := H.hl
    have h2 := H.cnt
    omega
def psh1 (M : Mtx) (a b : Nat) : Mtx :=
  (M.set a ((rw_ M a).set b (IntKind.i64.wrap ((rw_ M a).getD b 0 - 1)))).set b ((rw_ M b).set a (IntKind.i64.wrap ((rw_ M b).getD a 0 + 1)))
def wst (f : List Int) (n : Nat) (s : Mtx × Nat) : Mtx × Nat := if s.2 = n - 2 then s else (psh1 s.1 (f.getD s.2 0).toNat s.2, (f.getD s.2 0).toNat)
def wlk (f : List Int) (n : Nat) : Nat → Mtx × Nat → Mtx × Nat
  | 0, s => s
  | t + 1, s => wlk f n t (wst f n s)
theorem wlk_succ (f : List Int) (n : Nat) : ∀ t s, wlk f n (t + 1) s = wst f n (wlk f n t s)
  | 0, s => rfl
  | t + 1, s => wlk_succ f n t (wst f n s)
theorem wlk_fix {f : List Int} {n : Nat} : ∀ {t : Nat} {s : Mtx × Nat} (k : Nat), (wlk f n t s).2 = n - 2 → wlk f n (t + k) s = wlk f n t s
  | t, s, 0, h => rfl
  | t, s, k + 1, h => by
    show wlk f n (t + k + 1) s = _
    rw [wlk_succ, wlk_fix k h]
    unfold wst
    rw [if_pos h]
def canP (M : Mtx) (n : Nat) : Bool := decide (0 ≤ (cameF M n).getD (n - 1) 0)
def pshM (M : Mtx) (n : Nat) : Mtx := (wlk (cameF M n) n n (M, n - 1)).1
def Dim (n : Nat) (M : Mtx) : Prop := M.length = n ∧ ∀ r ∈ M, r.length = n
theorem Dim.row {n a : Nat} {M : Mtx} (h : Dim n M) (ha : a < n) : M[a]? = some (rw_ M a) ∧ (rw_ M a).length = n := by
  obtain ⟨r, hr⟩ := get_ex (show a < M.length by rw [h.1]; exact ha)
  have : rw_ M a = r := getDk hr
  rw [this]
  exact ⟨hr, h.2 r (get_mem hr)⟩
theorem Dim.set {n a : Nat} {M : Mtx} (h : Dim n M) {r : List Int} (hr : r.length = n) : Dim n (M.set a r) :=
  ⟨by simp [h.1], fun x hx => by rcases List.mem_or_eq_of_mem_set hx with h1 | h1; exact h.2 x h1; rw [h1]; exact hr⟩
theorem rw_self {M : Mtx} {a : Nat} {r : List Int} (h : a < M.length) : rw_ (M.set a r) a = r := getDk (by rw [List.getElem?_set_self h])
theorem rw_ne {M : Mtx} {a c : Nat} {r : List Int} (h : a ≠ c) : rw_ (M.set a r) c = rw_ M c := by unfold rw_; simp only [List.getD_eq_getElem?_getD]; rw [List.getElem?_set_ne h]
theorem Dim.psh1 {n a b : Nat} {M : Mtx} (h : Dim n M) (ha : a < n) (hb : b < n) : Dim n (psh1 M a b) :=
  (h.set (by rw [List.length_set]; exact (h.row ha).2)).set (by rw [List.length_set]; exact (h.row hb).2)
theorem Bf.back {M : Mtx} {n h k b : Nat} {L : List Nat} {s : List Int × List Int} (H : Bf M n L h s) (hn : 2 ≤ n) (hk : L[k]? = some b) (hb : b ≠ n - 2) :
    ∃ j a, j < k ∧ L[j]? = some a ∧ s.1.getD b 0 = (a : Int) ∧ 0 < (rw_ M a).getD b 0 ∧ a < n ∧ b < n ∧ a ≠ b ∧ (a = n - 2 → j = 0) ∧ s.1[b]? = some (a : Int) := by
  cases k with
  | zero => rw [H.hd] at hk; injection hk with hk; exact absurd hk.symm hb
  | succ i =>
    obtain ⟨j, a, h1, h2, h3, h4⟩ := H.par i b hk
    have hbn := H.rg b (get_mem hk)
    refine ⟨j, a, by omega, h2, h3, h4, H.rg a (get_mem h2), hbn, fun e => ?_, fun e => ?_, ?_⟩
    · rw [e] at h2
      have := H.nd j (i + 1) b h2 hk
      omega
    · rw [e] at h2
      exact H.nd j 0 _ h2 H.hd
    · obtain ⟨x, hx⟩ := get_ex (show b < s.1.length by rw [H.len]; exact hbn)
      rw [getDk hx] at h3
      rw [hx, h3]
theorem walk_ex {M : Mtx} {n h : Nat} {L : List Nat} {f : List Int} (H : Bf M n L h (f, [])) (hn : 2 ≤ n) : ∀ (k b : Nat) (M' : Mtx), L[k]? = some b → 0 < k → Dim n M' → rw_ M' (n - 2) = rw_ M (n - 2) →
    ∃ t M'', t ≤ k ∧ wlk f n t (M', b) = (M'', n - 2) ∧ Dim n M'' ∧ ∃ b0, b0 < n ∧ 0 < (rw_ M (n - 2)).getD b0 0 ∧ rw_ M'' (n - 2) = (rw_ M (n - 2)).set b0 (IntKind.i64.wrap ((rw_ M (n - 2)).getD b0 0 - 1)) := by
  intro k
  induction k using Nat.strongRecOn with
  | ind k ih =>
    intro b M' hk hpos hD hrow
    have hb : b ≠ n - 2 := fun e => by rw [e] at hk; have := H.nd k 0 _ hk H.hd; omega
    obtain ⟨j, a, g1, g2, g3, g4, g5, g6, g7, g8, _⟩ := H.back hn hk hb
    simp only at g3
    have hw : wst f n (M', b) = (psh1 M' a b, a) := by
      unfold wst
      rw [if_neg hb, g3, Int.toNat_natCast]
    by_cases ha : a = n - 2
    · refine ⟨1, psh1 M' a b, by omega, ?_, hD.psh1 g5 g6, b, g6, by rw [← ha]; exact g4, ?_⟩
      · show wst f n (M', b) = _
        rw [hw, ha]
      · unfold psh1
        rw [ha]
        rw [rw_ne hb, rw_self (by rw [hD.1]; omega), hrow]
    · rcases Nat.eq_zero_or_pos j with hj | hj
      · subst hj
        rw [H.hd] at g2
        injection g2 with g2
        exact absurd g2.symm ha
      · have hr : rw_ (psh1 M' a b) (n - 2) = rw_ M (n - 2) := by
          unfold psh1
          rw [rw_ne hb, rw_ne ha, hrow]
        obtain ⟨t, M'', t1, t2, t3, t4⟩ := ih j g1 a (psh1 M' a b) g2 hj (hD.psh1 g5 g6) hr
        refine ⟨t + 1, M'', by omega, ?_, t3, t4⟩
        show wlk f n t (wst f n (M', b)) = _
        rw [hw, t2]
theorem push_ex {M : Mtx} {n : Nat} (hn : 2 ≤ n) (hD : Dim n M) (h : canP M n = true) : Dim n (pshM M n) ∧ ∃ b0, b0 < n ∧ 0 < (rw_ M (n - 2)).getD b0 0 ∧ rw_ (pshM M n) (n - 2) = (rw_ M (n - 2)).set b0 (IntKind.i64.wrap ((rw_ M (n - 2)).getD b0 0 - 1)) := by
  obtain ⟨L, h0, H⟩ := came_bf M hn
  have hv := (H.vis (n - 1) aO).1 (by simpa [canP] using h)
  obtain ⟨k, hk⟩ := List.mem_iff_getElem?.1 hv
  have hpos : 0 < k := by
    rcases Nat.eq_zero_or_pos k with h1 | h1
    · subst h1
      rw [H.hd] at hk
      injection hk with hk
      omega
    · exact h1
  obtain ⟨t, M'', t1, t2, t3, t4⟩ := walk_ex H hn k (n - 1) M hk hpos hD rfl
  have hkl := get_lt hk
  have hc := H.cnt
  have : pshM M n = M'' := by
    unfold pshM
    have e : n = t + (n - t) := by omega
    rw [show wlk (cameF M n) n n (M, n - 1) = wlk (cameF M n) n (t + (n - t)) (M, n - 1) by rw [← e]]
    rw [wlk_fix (n - t) (by rw [t2]), t2]
  rw [this]
  exact ⟨t3, t4⟩
def psum (l : List Int) : Int := l.foldr (· + ·) 0
theorem psum_set : ∀ {l : List Int} {b : Nat} {x y : Int}, l[b]? = some x → psum (l.set b y) = psum l - x + y
  | [], b, x, y, h => by simp at h
  | z :: r, 0, x, y, h => by simp at h; subst h; simp only [List.set_cons_zero, psum, List.foldr_cons]; omega
  | z :: r, b + 1, x, y, h => by
    have := psum_set (l := r) (b := b) (x := x) (y := y) (by simpa using h)
    simp only [psum] at this
    simp only [List.set_cons_succ, psum, List.foldr_cons, this]
    omega
theorem psum_ge : ∀ {l : List Int}, (∀ x ∈ l, 0 ≤ x ∧ x ≤ 1) → 0 ≤ psum l ∧ psum l ≤ l.length
  | [], _ => by simp [psum]
  | z :: r, h => by
    have h1 := psum_ge (l := r) fun x hx => h x (List.mem_cons_of_mem _ hx)
    have h2 := h z List.mem_cons_self
    simp only [psum, List.foldr_cons, List.length_cons] at h1 ⊢
    omega
def SrcM (n : Nat) (M : Mtx) : Prop := Dim n M ∧ ∀ x ∈ rw_ M (n - 2), 0 ≤ x ∧ x ≤ 1
theorem SrcM.push {M : Mtx} {n : Nat} (hn : 2 ≤ n) (h : SrcM n M) (hc : canP M n = true) : SrcM n (pshM M n) ∧ psum (rw_ (pshM M n) (n - 2)) = psum (rw_ M (n - 2)) - 1 := by
  obtain ⟨h1, b0, h2, h3, h4⟩ := push_ex hn h.1 hc
  obtain ⟨x, hx⟩ := get_ex (show b0 < (rw_ M (n - 2)).length by rw [(h.1.row (show n - 2 < n by omega)).2]; exact h2)
  rw [getDk hx] at h3 h4
  have hb := h.2 x (get_mem hx)
  have hw : IntKind.i64.wrap (x - 1) = x - 1 := wrap_in aO
  rw [hw] at h4
  refine ⟨⟨h1, fun y hy => ?_⟩, ?_⟩
  · rw [h4] at hy
    rcases List.mem_or_eq_of_mem_set hy with g | g
    · exact h.2 y g
    · omega
  · rw [h4, psum_set hx]
    omega
def wys (M : Mtx) (n : Nat) : Nat → Mtx
  | 0 => M
  | t + 1 => pshM (wys M n t) n
theorem wys_src {M : Mtx} {n : Nat} (hn : 2 ≤ n) (h : SrcM n M) : ∀ t, (∀ t', t' < t → canP (wys M n t') n = true) → SrcM n (wys M n t) ∧ psum (rw_ (wys M n t) (n - 2)) = psum (rw_ M (n - 2)) - t
  | 0, _ => ⟨h, by simp [wys]⟩
  | t + 1, hc => by
    obtain ⟨h1, h2⟩ := wys_src hn h t fun t' ht => hc t' aO
    obtain ⟨h3, h4⟩ := h1.push hn (hc t aO)
    exact ⟨h3, by show psum (rw_ (pshM (wys M n t) n) (n - 2)) = _; rw [h4, h2]; omega⟩
theorem wys_ex {M : Mtx} {n : Nat} (hn : 2 ≤ n) (h : SrcM n M) : ∃ N, N ≤ n ∧ canP (wys M n N) n = false ∧ ∀ t, t < N → canP (wys M n t) n = true := by
  by_cases hx : ∃ t, t ≤ n ∧ canP (wys M n t) n = false
  · obtain ⟨t, ht, he⟩ := hx
    induction t using Nat.strongRecOn with
    | ind t ih =>
      by_cases hj : ∃ j, j < t ∧ canP (wys M n j) n = false
      · obtain ⟨j, hj1, hj2⟩ := hj
        exact ih j hj1 aO hj2
      · refine ⟨t, ht, he, fun j h1 => ?_⟩
        cases hc : canP (wys M n j) n with
        | true => rfl
        | false => exact absurd ⟨j, h1, hc⟩ hj
  · obtain ⟨h1, h2⟩ := wys_src hn h (n + 1) fun t' ht => by
      cases hc : canP (wys M n t') n with
      | true => rfl
      | false => exact absurd ⟨t', by omega, hc⟩ hx
    have h3 := psum_ge h1.2
    have h4 := psum_ge h.2
    rw [(h.1.row (show n - 2 < n by omega)).2] at h4
    omega
end Go.Vs
set_option linter.unusedVariables false
set_option linter.unusedSimpArgs false
set_option maxRecDepth 100000
namespace Go.Vs
open Go.Proofs
theorem hmix : Try.prog.follows .mixedOrders = true := by kernel_rfl
theorem ty_c3 : TCell Try.prog 3 := tcell (by kernel_rfl)
theorem ty_u3 : Try.prog.underlying 3 = some (.int .i64) := Try.underlying3
theorem ty_t3 : TSize Try.prog 3 1 := tsize (by kernel_rfl)
theorem ty_z3 : TZero Try.prog 3 [.int .i64 0] := tzero (.int .i64 0) (by kernel_rfl) rfl
theorem ty_c4 : TCell Try.prog 4 := tcell (by kernel_rfl)
theorem ty_u4 : Try.prog.underlying 4 = some .bool := Try.underlying4
theorem ty_t4 : TSize Try.prog 4 1 := tsize (by kernel_rfl)
theorem ty_z4 : TZero Try.prog 4 [.bool false] := tzero (.bool false) (by kernel_rfl) rfl
theorem ty_c5 : TCell Try.prog 5 := tcell (by kernel_rfl)
theorem ty_u5 : Try.prog.underlying 5 = some (.int .u8) := Try.underlying5
theorem ty_c22 : TCell Try.prog 22 := tcell (by kernel_rfl)
theorem ty_u22 : Try.prog.underlying 22 = some (.slice 5) := Try.underlying22
theorem ty_s22 : TSlice Try.prog 22 5 1 1 := tslice (by kernel_rfl)
theorem ty_c24 : TCell Try.prog 24 := tcell (by kernel_rfl)
theorem ty_u24 : Try.prog.underlying 24 = some (.slice 3) := Try.underlying24
theorem ty_t24 : TSize Try.prog 24 1 := tsize (by kernel_rfl)
theorem ty_s24 : TSlice Try.prog 24 3 1 8 := tslice (by kernel_rfl)
theorem ty_t26 : TSize Try.prog 26 3 := tsize (by kernel_rfl)
theorem ty_z26 : TZero Try.prog 26 [.int .i64 0, .int .i64 0, .nil] := tzero (.agg #[.int .i64 0, .int .i64 0, .slice none 0 0]) (by kernel_rfl) rfl
theorem ty_a26 : TAgg Try.prog 26 3 := tagg (by kernel_rfl)
theorem ty_f26_0 : TField Try.prog 26 0 0 := tfield (by kernel_rfl)
theorem ty_f26_1 : TField Try.prog 26 1 1 := tfield (by kernel_rfl)
theorem ty_f26_2 : TField Try.prog 26 2 2 := tfield (by kernel_rfl)
theorem ty_st26 : TStruct Try.prog 26 [(0, 1), (1, 1), (2, 1)] [.int .i64 0, .int .i64 0, .nil] := tstruct (by kernel_rfl) ty_z26
theorem ty_u27 : Try.prog.underlying 27 = some (.slice 93) := Try.underlying27
theorem ty_s27 : TSlice Try.prog 27 93 2 16 := tslice (by kernel_rfl)
theorem ty_u30 : Try.prog.underlying 30 = some (.slice 38) := Try.underlying30
theorem ty_s30 : TSlice Try.prog 30 38 2 16 := tslice (by kernel_rfl)
theorem ty_t38 : TSize Try.prog 38 2 := tsize (by kernel_rfl)
theorem ty_z38 : TZero Try.prog 38 [.int .i64 0, .int .i64 0] := tzero (.agg #[.int .i64 0, .int .i64 0]) (by kernel_rfl) rfl
theorem ty_a38 : TAgg Try.prog 38 2 := tagg (by kernel_rfl)
theorem ty_f38_0 : TField Try.prog 38 0 0 := tfield (by kernel_rfl)
theorem ty_f38_1 : TField Try.prog 38 1 1 := tfield (by kernel_rfl)
theorem ty_st38 : TStruct Try.prog 38 [(0, 1), (1, 1)] [.int .i64 0, .int .i64 0] := tstruct (by kernel_rfl) ty_z38
theorem ty_c48 : TCell Try.prog 48 := tcell (by kernel_rfl)
theorem ty_u48 : Try.prog.underlying 48 = some (.int .u64) := Try.underlying48
theorem ty_t48 : TSize Try.prog 48 1 := tsize (by kernel_rfl)
theorem ty_z50 : TZero Try.prog 50 [.nil, .int .i64 0, .int .u64 0] := tzero (.agg #[.slice none 0 0, .int .i64 0, .int .u64 0]) (by kernel_rfl) rfl
theorem ty_f50_0 : TField Try.prog 50 0 0 := tfield (by kernel_rfl)
theorem ty_f50_1 : TField Try.prog 50 1 1 := tfield (by kernel_rfl)
theorem ty_f50_2 : TField Try.prog 50 2 2 := tfield (by kernel_rfl)
theorem ty_st50 : TStruct Try.prog 50 [(0, 1), (1, 1), (2, 1)] [.nil, .int .i64 0, .int .u64 0] := tstruct (by kernel_rfl) ty_z50
theorem ty_c53 : TCell Try.prog 53 := tcell (by kernel_rfl)
theorem ty_s76 : TSlice Try.prog 76 4 1 1 := tslice (by kernel_rfl)
theorem ty_t93 : TSize Try.prog 93 2 := tsize (by kernel_rfl)
theorem ty_z93 : TZero Try.prog 93 [.int .i64 0, .int .i64 0] := tzero (.agg #[.int .i64 0, .int .i64 0]) (by kernel_rfl) rfl
theorem ty_a93 : TAgg Try.prog 93 2 := tagg (by kernel_rfl)
theorem ty_f93_0 : TField Try.prog 93 0 0 := tfield (by kernel_rfl)
theorem ty_f93_1 : TField Try.prog 93 1 1 := tfield (by kernel_rfl)
theorem ty_st93 : TStruct Try.prog 93 [(0, 1), (1, 1)] [.int .i64 0, .int .i64 0] := tstruct (by kernel_rfl) ty_z93
theorem ty_u104 : Try.prog.underlying 104 = some (.slice 24) := Try.underlying104
theorem ty_s104 : TSlice Try.prog 104 24 1 24 := tslice (by kernel_rfl)
end Go.Vs
set_option linter.unusedVariables false
set_option linter.unusedSimpArgs false
set_option maxRecDepth 100000
set_option maxHeartbeats 4000000
namespace Go.Vs
open Go.Proofs
attribute [local irreducible] exec vwp thenQ blkQ loopQ RetPost
theorem k_l1In (x a b : Int) : Con Try.prog 60 [.int .i64 x, .int .i64 a, .int .i64 b] (.bool (decide (a ≤ x) && decide (x ≤ b))) := by
  intro al
  refine contract_of hmix Try.func60 rfl (by kernel_rfl) (by kernel_rfl) (Nat.le_of_ble_eq_true rfl) (fun row h => by cases h) ?_
  repeat' (first | (refine pA (k := ?_)) | (refine g_exec ?_; first | (refine g_guard ?_; refine x_gsplit rfl rfl (fun h => ?_) (fun h => ?_) <;> (have h' := h; try simp only [sx] at h')) | (refine x_nil (hK _ _ aI ?_); clear hK K)) | (refine v_region (fun K hK => ?_)))
  all_goals (refine ret_bool rfl (lookE_ok rfl) ?_; simp; omega)
theorem k_in (x a b : Int) : Con Try.prog 47 [.int .i64 x, .int .i64 a, .int .i64 b] (.bool (decide (a ≤ x) && decide (x ≤ b))) := by
  intro al
  refine contract_of hmix Try.func47 rfl (by kernel_rfl) (by kernel_rfl) (Nat.le_of_ble_eq_true rfl) (fun row h => by cases h) ?_
  repeat' (first | (refine pA (k := ?_)) | (refine g_exec ?_; first | (refine g_guard ?_; refine x_gsplit rfl rfl (fun h => ?_) (fun h => ?_) <;> (have h' := h; try simp only [sx] at h')) | (refine x_nil (hK _ _ aI ?_); clear hK K)) | (refine v_region (fun K hK => ?_)))
  all_goals (refine ret_bool rfl (lookE_ok rfl) ?_; simp; omega)
theorem k_l1Least (a b : Int) : Con Try.prog 85 [.int .i64 a, .int .i64 b] (.int .i64 (min a b)) := by
  intro al
  refine contract_of hmix Try.func85 rfl (by kernel_rfl) (by kernel_rfl) (Nat.le_of_ble_eq_true rfl) (fun row h => by cases h) ?_
  repeat' (first | (refine pA (k := ?_)) | (refine g_exec ?_; refine x_nil (hK _ _ aI ?_); clear hK K) | (refine v_region (fun K hK => ?_)) | (refine v_condt rfl (fun h => ?_) (fun h => ?_) <;> (have h' := h; try simp only [sx] at h')))
  all_goals (exact ret_int rfl (lookE_ok rfl) aO)
theorem k_l1Most (a b : Int) : Con Try.prog 84 [.int .i64 a, .int .i64 b] (.int .i64 (max a b)) := by
  intro al
  refine contract_of hmix Try.func84 rfl (by kernel_rfl) (by kernel_rfl) (Nat.le_of_ble_eq_true rfl) (fun row h => by cases h) ?_
  repeat' (first | (refine pA (k := ?_)) | (refine g_exec ?_; refine x_nil (hK _ _ aI ?_); clear hK K) | (refine v_region (fun K hK => ?_)) | (refine v_condt rfl (fun h => ?_) (fun h => ?_) <;> (have h' := h; try simp only [sx] at h')))
  all_goals (exact ret_int rfl (lookE_ok rfl) aO)
end Go.Vs
set_option linter.unusedVariables false
set_option linter.unusedSimpArgs false
set_option maxRecDepth 100000
set_option maxHeartbeats 4000000
namespace Go.Vs
open Go.Proofs
attribute [local irreducible] exec vwp thenQ blkQ loopQ RetPost
structure Terrain where
  (width height : Int)
  (burn : List Int)
  deriving DecidableEq
@[reducible] def Terrain.pv (t : Terrain) : List PV := [.int .i64 t.width, .int .i64 t.height, .list 1 (ints t.burn)]
end Go.Vs
set_option linter.unusedVariables false
set_option linter.unusedSimpArgs false
set_option maxRecDepth 100000
set_option maxHeartbeats 4000000
namespace Go.Vs
open Go.Proofs
attribute [local irreducible] exec vwp thenQ blkQ loopQ RetPost
theorem k_IndexFuncInt (xs : List Int) (g : FuncId) (ca : List (List PV)) (p : Int → Bool) (hg : ∀ a ∈ xs, Con Try.prog g (.int .i64 a :: ca.map PV.ptr) (.bool (p a))) (hn : xs.length ≤ 1099511627776) :
    Con Try.prog 88 [.list 1 (ints xs), .fn g [] (ca.map PV.ptr)] (.int .i64 (idx p xs)) := by
  intro al
  refine contract_of hmix Try.func88 rfl (by kernel_rfl) (by kernel_rfl) (Nat.le_of_ble_eq_true rfl) (fun row h => by cases h) ?_
  have hty_u24 := ty_u24
  have hty_s24 := ty_s24
  have hty_c3 := ty_c3
  have hl1 : (ints xs).length = xs.length := by simp
  repeat' (first | (refine pA (k := ?_)) | (refine g_exec ?_; refine x_nil (hK _ _ aI ?_); clear hK K) | (refine v_region (fun K hK => ?_)) | (refine v_condt rfl (fun h => ?_) (fun h => ?_) <;> (have h' := h; try simp only [sx] at h')))
  refine v_loopK [0, 1, 7] [] (fun i : Nat => [(8, .int .i64 i)]) (fun i : Nat => []) (fun i : Nat => i ≤ xs.length ∧ ∀ j, j < i → ∀ c, xs[j]? = some c → p c = false) (fun i : Nat => xs.length - i) (0) rfl rfl (fun _ => rfl) (fun _ => rfl) rfl (by refine ⟨?_, ?_, rfl, rfl⟩ <;> (repeat' (first | exact trivial | exact ⟨rfl, rfl⟩ | exact rfl | exact ⟨sub_fn, refs_fn⟩ | refine ⟨⟨rfl, rfl⟩, ?_⟩ | refine ⟨⟨sub_fn, refs_fn⟩, ?_⟩ | refine ⟨⟨rfl, fun h => Bool.noConfusion h⟩, ?_⟩ | refine ⟨⟨rfl, fun h => ?_⟩, ?_⟩ | refine ⟨rfl, ?_⟩ | refine ⟨?_, ?_⟩ | fail))) ⟨by omega, fun j hj => by omega⟩ (fun i hi => ?_)
  obtain ⟨hi1, hi2⟩ := hi
  rcases Nat.lt_or_ge i xs.length with hlt | hge
  · obtain ⟨a, hga⟩ := get_ex hlt
    have hx := ints_at hga
    have kg := hg a (get_mem hga)
    repeat' (first | (refine pA (k := ?_)) | (refine g_exec ?_; first | (refine g_call ?_; first | (refine x_callG true (kg) rfl rfl rfl aS rfl aH ?_; simp only [cl]) | (refine x_call [] _ (kg) rfl rfl aS rfl aH ?_; simp only [cl])) | (refine x_nil (hK _ _ aI ?_); clear hK K)) | (refine v_region (fun K hK => ?_)) | (refine v_condt rfl (fun h => ?_) (fun h => ?_) <;> (have h' := h; try simp only [sx] at h')))
    · exact ret_int rfl (lookE_ok rfl) (idx_some hi2 hga aA).symm
    · refine q_next (i + 1) rfl (by refine ⟨?_, ?_, rfl, rfl⟩ <;> (repeat' (first | exact trivial | exact ⟨rfl, rfl⟩ | exact rfl | exact ⟨sub_fn, refs_fn⟩ | refine ⟨⟨rfl, rfl⟩, ?_⟩ | refine ⟨⟨sub_fn, refs_fn⟩, ?_⟩ | refine ⟨⟨rfl, fun h => Bool.noConfusion h⟩, ?_⟩ | refine ⟨⟨rfl, fun h => ?_⟩, ?_⟩ | refine ⟨rfl, ?_⟩ | refine ⟨?_, ?_⟩ | fail))) ⟨by omega, idx_step hi2 hga (by simpa using h)⟩ aO
  · repeat' (first | (refine pA (k := ?_)) | (refine g_exec ?_; refine x_nil (hK _ _ aI ?_); clear hK K) | (refine v_region (fun K hK => ?_)) | (refine v_condt rfl (fun h => ?_) (fun h => ?_) <;> (have h' := h; try simp only [sx] at h')))
    exact ret_int rfl (lookE_ok rfl) (idx_none fun j hj => hi2 j aO).symm
theorem k_ContainsFuncInt (xs : List Int) (g : FuncId) (ca : List (List PV)) (p : Int → Bool) (hg : ∀ a ∈ xs, Con Try.prog g (.int .i64 a :: ca.map PV.ptr) (.bool (p a))) (hn : xs.length ≤ 1099511627776) :
    Con Try.prog 73 [.list 1 (ints xs), .fn g [] (ca.map PV.ptr)] (.bool (xs.any p)) := by
  intro al
  refine contract_of hmix Try.func73 rfl (by kernel_rfl) (by kernel_rfl) (Nat.le_of_ble_eq_true rfl) (fun row h => by cases h) ?_
  have hty_u24 := ty_u24
  have hty_s24 := ty_s24
  repeat' (first | (refine pA (k := ?_)) | (refine g_exec ?_; first | (refine g_call ?_; refine x_callG false (k_IndexFuncInt xs g ca p hg hn) rfl rfl rfl aS rfl aH ?_; simp only [cl]) | (refine x_nil (hK _ _ aI ?_); clear hK K)) | (refine v_region (fun K hK => ?_)))
  refine ret_bool rfl (lookE_ok rfl) ?_
  rw [← idx_any]
theorem k_all1Int (a : Int) (g : FuncId) (ca : List (List PV)) (b : Bool) (hg : Con Try.prog g (.int .i64 a :: ca.map PV.ptr) (.bool b)) :
    Con Try.prog 74 [.int .i64 a, .ptr [.fn g [] (ca.map PV.ptr)]] (.bool (!b)) := by
  intro al
  refine contract_of hmix Try.func74 rfl (by kernel_rfl) (by kernel_rfl) (Nat.le_of_ble_eq_true rfl) (fun row h => by cases h) ?_
  have hty_c53 := ty_c53
  have kg := hg
  repeat' (first | (refine pA (k := ?_)) | (refine g_exec ?_; first | (refine g_call ?_; first | (refine x_callG true (kg) rfl rfl rfl aS rfl aH ?_; simp only [cl]) | (refine x_call [] _ (kg) rfl rfl aS rfl aH ?_; simp only [cl])) | (refine x_nil (hK _ _ aI ?_); clear hK K)) | (refine v_region (fun K hK => ?_)))
  exact ret_bool rfl (lookE_ok rfl) rfl
theorem k_allInt (xs : List Int) (g : FuncId) (ca : List (List PV)) (p : Int → Bool) (hg : ∀ a ∈ xs, Con Try.prog g (.int .i64 a :: ca.map PV.ptr) (.bool (p a))) (hn : xs.length ≤ 1099511627776) :
    Con Try.prog 49 [.list 1 (ints xs), .fn g [] (ca.map PV.ptr)] (.bool (xs.all p)) := by
  intro al
  refine contract_of hmix Try.func49 rfl (by kernel_rfl) (by kernel_rfl) (Nat.le_of_ble_eq_true rfl) (fun row h => by cases h) ?_
  have hty_u24 := ty_u24
  have hty_s24 := ty_s24
  repeat' (first | (refine pA (k := ?_)) | (refine g_exec ?_; first | (refine g_call ?_; refine x_callG true (k_ContainsFuncInt xs 74 [[.fn g [] (ca.map PV.ptr)]] (fun a => !p a) (fun a ha => k_all1Int a g ca (p a) (hg a ha)) hn) rfl rfl rfl aS rfl aH ?_; simp only [cl]) | (refine x_nil (hK _ _ aI ?_); clear hK K)) | (refine v_region (fun K hK => ?_)))
  refine ret_bool rfl (lookE_ok rfl) ?_
  rw [List.all_eq_not_any_not]
end Go.Vs
set_option linter.unusedVariables false
set_option linter.unusedSimpArgs false
set_option maxRecDepth 100000
set_option maxHeartbeats 4000000
namespace Go.Vs
open Go.Proofs
attribute [local irreducible] exec vwp thenQ blkQ loopQ RetPost
theorem not_mem_of {xs : List Int} {n : Int} (h : ∀ y ∈ xs, y ≠ n) : n ∉ xs := fun hm => h n hm rfl
theorem k_l1Has (xs : List Int) (n : Int) (hn : xs.length ≤ 1099511627776) : Con Try.prog 63 [.list 1 (ints xs), .int .i64 n] (.bool (decide (n ∈ xs))) := by
  intro al
  refine contract_of hmix Try.func63 rfl (by kernel_rfl) (by kernel_rfl) (Nat.le_of_ble_eq_true rfl) (fun row h => by cases h) ?_
  have hty_u24 := ty_u24
  have hty_s24 := ty_s24
  have hty_c3 := ty_c3
  have hl1 : (ints xs).length = xs.length := by simp
  repeat' (first | (refine pA (k := ?_)) | (refine g_exec ?_; refine x_nil (hK _ _ aI ?_); clear hK K) | (refine v_region (fun K hK => ?_)) | (refine v_condt rfl (fun h => ?_) (fun h => ?_) <;> (have h' := h; try simp only [sx] at h')))
  refine v_loopK [0, 1] [] (fun i : Nat => [(5, .int .i64 i)]) (fun i : Nat => []) (fun i : Nat => i ≤ xs.length ∧ ∀ y ∈ xs.take i, y ≠ n) (fun i : Nat => xs.length - i) (0) rfl rfl (fun _ => rfl) (fun _ => rfl) rfl (by refine ⟨?_, ?_, rfl, rfl⟩ <;> (repeat' (first | exact trivial | exact ⟨rfl, rfl⟩ | exact rfl | exact ⟨sub_fn, refs_fn⟩ | refine ⟨⟨rfl, rfl⟩, ?_⟩ | refine ⟨⟨sub_fn, refs_fn⟩, ?_⟩ | refine ⟨⟨rfl, fun h => Bool.noConfusion h⟩, ?_⟩ | refine ⟨⟨rfl, fun h => ?_⟩, ?_⟩ | refine ⟨rfl, ?_⟩ | refine ⟨?_, ?_⟩ | fail))) ⟨by omega, fun y hy => by simp at hy⟩ (fun i hi => ?_)
  obtain ⟨hi1, hi2⟩ := hi
  rcases Nat.lt_or_ge i xs.length with hlt | hge
  · obtain ⟨a, hga⟩ := get_ex hlt
    have hx := ints_at hga
    repeat' (first | (refine pA (k := ?_)) | (refine g_exec ?_; refine x_nil (hK _ _ aI ?_); clear hK K) | (refine v_region (fun K hK => ?_)) | (refine v_condt rfl (fun h => ?_) (fun h => ?_) <;> (have h' := h; try simp only [sx] at h')))
    · refine ret_bool rfl (lookE_ok rfl) ?_
      have : n ∈ xs := by rw [← h']; exact get_mem hga
      simp [this]
    · refine q_next (i + 1) rfl (by refine ⟨?_, ?_, rfl, rfl⟩ <;> (repeat' (first | exact trivial | exact ⟨rfl, rfl⟩ | exact rfl | exact ⟨sub_fn, refs_fn⟩ | refine ⟨⟨rfl, rfl⟩, ?_⟩ | refine ⟨⟨sub_fn, refs_fn⟩, ?_⟩ | refine ⟨⟨rfl, fun h => Bool.noConfusion h⟩, ?_⟩ | refine ⟨⟨rfl, fun h => ?_⟩, ?_⟩ | refine ⟨rfl, ?_⟩ | refine ⟨?_, ?_⟩ | fail))) ⟨by omega, all_take_succ hga hi2 (by simpa using h')⟩ aO
  · repeat' (first | (refine pA (k := ?_)) | (refine g_exec ?_; refine x_nil (hK _ _ aI ?_); clear hK K) | (refine v_region (fun K hK => ?_)) | (refine v_condt rfl (fun h => ?_) (fun h => ?_) <;> (have h' := h; try simp only [sx] at h')))
    refine ret_bool rfl (lookE_ok rfl) ?_
    rw [take_all hge] at hi2
    simp [not_mem_of hi2]
def Up (l : List Int) (i : Nat) : Prop := ∀ j, j < i - 1 → l.getD j 0 < l.getD (j + 1) 0
def Rising (l : List Int) : Prop := Up l l.length
instance (l : List Int) (i : Nat) : Decidable (Up l i) := by unfold Up; infer_instance
instance (l : List Int) : Decidable (Rising l) := by unfold Rising; infer_instance
theorem getI {l : List Int} {i : Nat} {a : Int} (h : l[i]? = some a) : l.getD i 0 = a := by simp [List.getD_eq_getElem?_getD, h]
theorem up_step {l : List Int} {i : Nat} {a b : Int} (h : Up l i) (ha : l[i - 1]? = some a) (hb : l[i]? = some b) (hab : a < b) : Up l (i + 1) := fun j hj => by
  by_cases he : j + 1 = i
  · rw [he, getI hb, show j = i - 1 by omega, getI ha]; exact hab
  · exact h j aO
theorem not_rising {l : List Int} {i : Nat} {a b : Int} (h0 : 0 < i) (ha : l[i - 1]? = some a) (hb : l[i]? = some b) (hab : b ≤ a) : ¬ Rising l := fun h => by
  have := h (i - 1) (by have := get_lt hb; omega)
  rw [getI ha, show i - 1 + 1 = i by omega, getI hb] at this
  omega
theorem k_isRising (xs : List Int) (hn : xs.length ≤ 1099511627776) : Con Try.prog 48 [.list 1 (ints xs)] (.bool (decide (Rising xs))) := by
  intro al
  refine contract_of hmix Try.func48 rfl (by kernel_rfl) (by kernel_rfl) (Nat.le_of_ble_eq_true rfl) (fun row h => by cases h) ?_
  have hty_u24 := ty_u24
  have hty_s24 := ty_s24
  have hty_c3 := ty_c3
  have hl1 : (ints xs).length = xs.length := by simp
  repeat' (first | (refine pA (k := ?_)) | (refine g_exec ?_; refine x_nil (hK _ _ aI ?_); clear hK K) | (refine v_region (fun K hK => ?_)) | (refine v_condt rfl (fun h => ?_) (fun h => ?_) <;> (have h' := h; try simp only [sx] at h')))
  refine v_loopK [0] [] (fun i : Nat => [(3, .int .i64 i)]) (fun i : Nat => []) (fun i : Nat => (1 ≤ i ∧ i ≤ xs.length + 1) ∧ Up xs i) (fun i : Nat => xs.length + 1 - i) (1) rfl rfl (fun _ => rfl) (fun _ => rfl) rfl (by refine ⟨?_, ?_, rfl, rfl⟩ <;> (repeat' (first | exact trivial | exact ⟨rfl, rfl⟩ | exact rfl | exact ⟨sub_fn, refs_fn⟩ | refine ⟨⟨rfl, rfl⟩, ?_⟩ | refine ⟨⟨sub_fn, refs_fn⟩, ?_⟩ | refine ⟨⟨rfl, fun h => Bool.noConfusion h⟩, ?_⟩ | refine ⟨⟨rfl, fun h => ?_⟩, ?_⟩ | refine ⟨rfl, ?_⟩ | refine ⟨?_, ?_⟩ | fail))) ⟨by omega, fun j hj => by omega⟩ (fun i hi => ?_)
  obtain ⟨hi1, hi2⟩ := hi
  rcases Nat.lt_or_ge i xs.length with hlt | hge
  · obtain ⟨a, hga⟩ := get_ex hlt
    obtain ⟨b, hgb⟩ := get_ex (show i - 1 < xs.length by omega)
    have hx := ints_at hga
    have hy := ints_at hgb
    have e1 : ((i : Int) - 1).toNat = i - 1 := by omega
    rw [← e1] at hy
    repeat' (first | (refine pA (k := ?_)) | (refine g_exec ?_; refine x_nil (hK _ _ aI ?_); clear hK K) | (refine v_region (fun K hK => ?_)) | (refine v_condt rfl (fun h => ?_) (fun h => ?_) <;> (have h' := h; try simp only [sx] at h')))
    · exact ret_bool rfl (lookE_ok rfl) (by simp [not_rising aO hgb hga h'])
    · refine q_next (i + 1) rfl (by refine ⟨?_, ?_, rfl, rfl⟩ <;> (repeat' (first | exact trivial | exact ⟨rfl, rfl⟩ | exact rfl | exact ⟨sub_fn, refs_fn⟩ | refine ⟨⟨rfl, rfl⟩, ?_⟩ | refine ⟨⟨sub_fn, refs_fn⟩, ?_⟩ | refine ⟨⟨rfl, fun h => Bool.noConfusion h⟩, ?_⟩ | refine ⟨⟨rfl, fun h => ?_⟩, ?_⟩ | refine ⟨rfl, ?_⟩ | refine ⟨?_, ?_⟩ | fail))) ⟨by omega, up_step hi2 hgb hga aO⟩ aO
  · repeat' (first | (refine pA (k := ?_)) | (refine g_exec ?_; refine x_nil (hK _ _ aI ?_); clear hK K) | (refine v_region (fun K hK => ?_)) | (refine v_condt rfl (fun h => ?_) (fun h => ?_) <;> (have h' := h; try simp only [sx] at h')))
    exact ret_bool rfl (lookE_ok rfl) (by
      have : Rising xs := fun j hj => hi2 j aO
      simp [this])
theorem k_l1Rising (xs : List Int) (lo hi : Int) (hn : xs.length ≤ 1099511627776) : Con Try.prog 62 [.list 1 (ints xs), .int .i64 lo, .int .i64 hi] (.bool (decide ((∀ y ∈ xs, lo ≤ y ∧ y ≤ hi) ∧ Rising xs))) := by
  intro al
  refine contract_of hmix Try.func62 rfl (by kernel_rfl) (by kernel_rfl) (Nat.le_of_ble_eq_true rfl) (fun row h => by cases h) ?_
  have hty_u24 := ty_u24
  have hty_s24 := ty_s24
  have hty_c3 := ty_c3
  have hl1 : (ints xs).length = xs.length := by simp
  repeat' (first | (refine pA (k := ?_)) | (refine g_exec ?_; first | (refine g_guard ?_; refine x_gsplit rfl rfl (fun h => ?_) (fun h => ?_) <;> (have h' := h; try simp only [sx] at h')) | (refine x_nil (hK _ _ aI ?_); clear hK K)) | (refine v_region (fun K hK => ?_)) | (refine v_condt rfl (fun h => ?_) (fun h => ?_) <;> (have h' := h; try simp only [sx] at h')))
  refine v_loopK [0, 1, 2] [] (fun i : Nat => [(7, .int .i64 i)]) (fun i : Nat => []) (fun i : Nat => i ≤ xs.length ∧ (∀ y ∈ xs.take i, lo ≤ y ∧ y ≤ hi) ∧ Up xs i) (fun i : Nat => xs.length - i) (0) rfl rfl (fun _ => rfl) (fun _ => rfl) rfl (by refine ⟨?_, ?_, rfl, rfl⟩ <;> (repeat' (first | exact trivial | exact ⟨rfl, rfl⟩ | exact rfl | exact ⟨sub_fn, refs_fn⟩ | refine ⟨⟨rfl, rfl⟩, ?_⟩ | refine ⟨⟨sub_fn, refs_fn⟩, ?_⟩ | refine ⟨⟨rfl, fun h => Bool.noConfusion h⟩, ?_⟩ | refine ⟨⟨rfl, fun h => ?_⟩, ?_⟩ | refine ⟨rfl, ?_⟩ | refine ⟨?_, ?_⟩ | fail))) ⟨by omega, fun y hy => by simp at hy, fun j hj => by omega⟩ (fun i hi => ?_)
  obtain ⟨hi1, hi2, hi3⟩ := hi
  rcases Nat.lt_or_ge i xs.length with hlt | hge
  · obtain ⟨a, hga⟩ := get_ex hlt
    have hx := ints_at hga
    by_cases hi0 : 0 < i
    · obtain ⟨b, hgb⟩ := get_ex (show i - 1 < xs.length by omega)
      have hy := ints_at hgb
      have e1 : ((i : Int) - 1).toNat = i - 1 := by omega
      rw [← e1] at hy
      repeat' (first | (refine pA (k := ?_)) | (refine g_exec ?_; first | (refine g_call ?_; refine x_callG true (k_l1In _ _ _) rfl rfl rfl aS rfl aH ?_; simp only [cl]) | (refine g_guard ?_; refine x_gsplit rfl rfl (fun h => ?_) (fun h => ?_) <;> (have h' := h; try simp only [sx] at h')) | (refine x_nil (hK _ _ aI ?_); clear hK K)) | (refine v_region (fun K hK => ?_)) | (refine v_condt rfl (fun h => ?_) (fun h => ?_) <;> (have h' := h; try simp only [sx] at h')))
      all_goals first
        | (refine q_next (i + 1) rfl (by refine ⟨?_, ?_, rfl, rfl⟩ <;> (repeat' (first | exact trivial | exact ⟨rfl, rfl⟩ | exact rfl | exact ⟨sub_fn, refs_fn⟩ | refine ⟨⟨rfl, rfl⟩, ?_⟩ | refine ⟨⟨sub_fn, refs_fn⟩, ?_⟩ | refine ⟨⟨rfl, fun h => Bool.noConfusion h⟩, ?_⟩ | refine ⟨⟨rfl, fun h => ?_⟩, ?_⟩ | refine ⟨rfl, ?_⟩ | refine ⟨?_, ?_⟩ | fail))) ⟨by omega, all_take_succ hga hi2 aO, up_step hi3 hgb hga aO⟩ aO)
        | (refine ret_bool rfl (lookE_ok rfl) ?_
           have : ¬ ((∀ y ∈ xs, lo ≤ y ∧ y ≤ hi) ∧ Rising xs) := fun hk => by
             have k1 := hk.1 a (get_mem hga)
             first | omega | exact not_rising hi0 hgb hga aO hk.2
           simp only [this, decide_false])
    · have h1 : i = 0 := by omega
      repeat' (first | (refine pA (k := ?_)) | (refine g_exec ?_; first | (refine g_call ?_; refine x_callG true (k_l1In _ _ _) rfl rfl rfl aS rfl aH ?_; simp only [cl]) | (refine g_guard ?_; refine x_gsplit rfl rfl (fun h => ?_) (fun h => ?_) <;> (have h' := h; try simp only [sx] at h')) | (refine x_nil (hK _ _ aI ?_); clear hK K)) | (refine v_region (fun K hK => ?_)) | (refine v_condt rfl (fun h => ?_) (fun h => ?_) <;> (have h' := h; try simp only [sx] at h')))
      all_goals first
        | (refine q_next (i + 1) rfl (by refine ⟨?_, ?_, rfl, rfl⟩ <;> (repeat' (first | exact trivial | exact ⟨rfl, rfl⟩ | exact rfl | exact ⟨sub_fn, refs_fn⟩ | refine ⟨⟨rfl, rfl⟩, ?_⟩ | refine ⟨⟨sub_fn, refs_fn⟩, ?_⟩ | refine ⟨⟨rfl, fun h => Bool.noConfusion h⟩, ?_⟩ | refine ⟨⟨rfl, fun h => ?_⟩, ?_⟩ | refine ⟨rfl, ?_⟩ | refine ⟨?_, ?_⟩ | fail))) ⟨by omega, all_take_succ hga hi2 aO, fun j hj => by omega⟩ aO)
        | (refine ret_bool rfl (lookE_ok rfl) ?_
           have : ¬ ((∀ y ∈ xs, lo ≤ y ∧ y ≤ hi) ∧ Rising xs) := fun hk => by
             have k1 := hk.1 a (get_mem hga)
             omega
           simp only [this, decide_false])
  · repeat' (first | (refine pA (k := ?_)) | (refine g_exec ?_; first | (refine g_guard ?_; refine x_gsplit rfl rfl (fun h => ?_) (fun h => ?_) <;> (have h' := h; try simp only [sx] at h')) | (refine x_nil (hK _ _ aI ?_); clear hK K)) | (refine v_region (fun K hK => ?_)) | (refine v_condt rfl (fun h => ?_) (fun h => ?_) <;> (have h' := h; try simp only [sx] at h')))
    refine ret_bool rfl (lookE_ok rfl) ?_
    rw [take_all hge] at hi2
    have : (∀ y ∈ xs, lo ≤ y ∧ y ≤ hi) ∧ Rising xs := ⟨hi2, fun j hj => hi3 j aO⟩
    simp only [decide_eq_true this]
def amax (f : Nat → Int) : Nat → Nat
  | 0 => 0
  | n + 1 => if f n > f (amax f n) then n else amax f n
theorem amax_lt (f : Nat → Int) : ∀ n, 0 < n → amax f n < n
  | 0, h => by omega
  | 1, _ => by unfold amax; unfold amax; split <;> omega
  | n + 2, _ => by
    have := amax_lt f (n + 1) aO
    rw [amax]
    split <;> omega
theorem amax_one (f : Nat → Int) : amax f 1 = 0 := by unfold amax; unfold amax; split <;> rfl
end Go.Vs
set_option linter.unusedVariables false
set_option linter.unusedSimpArgs false
set_option maxRecDepth 100000
set_option maxHeartbeats 4000000
namespace Go.Vs
open Go.Proofs
attribute [local irreducible] exec vwp thenQ blkQ loopQ RetPost
def Dims (t : Terrain) : Prop := (1 ≤ t.width ∧ t.width ≤ 5) ∧ (1 ≤ t.height ∧ t.height ≤ 5)
instance (t : Terrain) : Decidable (Dims t) := by unfold Dims; infer_instance
def GoodT (t : Terrain) : Prop := Dims t ∧ (t.burn.length : Int) = t.width * t.height ∧ ∀ b ∈ t.burn, 0 ≤ b ∧ b ≤ 20
instance (t : Terrain) : Decidable (GoodT t) := by unfold GoodT; infer_instance
theorem dims_area {t : Terrain} (h : Dims t) : 1 ≤ t.width * t.height ∧ t.width * t.height ≤ 25 := by
  have h1 : 1 * 1 ≤ t.width * t.height := Int.mul_le_mul h.1.1 h.2.1 aO (by have := h.1; omega)
  have h2 : t.width * t.height ≤ 5 * 5 := Int.mul_le_mul h.1.2 h.2.2 (by have := h.2; omega) aO
  omega
theorem goodT_len {t : Terrain} (h : GoodT t) : 1 ≤ t.burn.length ∧ t.burn.length ≤ 25 := by
  have := dims_area h.1
  have := h.2.1
  omega
theorem k_l2Good (t : Terrain) (hn : t.burn.length ≤ 1099511627776) : Con Try.prog 61 [.agg t.pv] (.bool (decide (GoodT t))) := by
  intro al
  refine contract_of hmix Try.func61 rfl (by kernel_rfl) (by kernel_rfl) (Nat.le_of_ble_eq_true rfl) (fun row h => by cases h) ?_
  have hty_f26_0 := ty_f26_0
  have hty_c3 := ty_c3
  have hty_f26_1 := ty_f26_1
  have hty_f26_2 := ty_f26_2
  have hty_c24 := ty_c24
  have hty_u24 := ty_u24
  have hty_s24 := ty_s24
  have hl : (ints t.burn).length = t.burn.length := by simp
  by_cases hd : Dims t
  · have ha := dims_area hd
    have hd' := hd
    unfold Dims at hd'
    by_cases hs : (t.burn.length : Int) = t.width * t.height
    · repeat' (first | (refine pA (k := ?_)) | (refine g_exec ?_; first | (refine g_call ?_; refine x_callG true (k_l1In _ _ _) rfl rfl rfl aS rfl aH ?_; simp only [cl]) | (refine g_guard ?_; refine x_gsplit rfl rfl (fun h => ?_) (fun h => ?_) <;> (have h' := h; try simp only [sx] at h')) | (refine x_nil (hK _ _ aI ?_); clear hK K)) | (refine v_region (fun K hK => ?_)) | (refine v_condt rfl (fun h => ?_) (fun h => ?_) <;> (have h' := h; try simp only [sx] at h')))
      refine v_loopK [1] [] (fun i : Nat => [(3, .int .i64 i)]) (fun i : Nat => []) (fun i : Nat => i ≤ t.burn.length ∧ ∀ b ∈ t.burn.take i, 0 ≤ b ∧ b ≤ 20) (fun i : Nat => t.burn.length - i) (0) rfl rfl (fun _ => rfl) (fun _ => rfl) rfl (by refine ⟨?_, ?_, rfl, rfl⟩ <;> (repeat' (first | exact trivial | exact ⟨rfl, rfl⟩ | exact rfl | exact ⟨sub_fn, refs_fn⟩ | refine ⟨⟨rfl, rfl⟩, ?_⟩ | refine ⟨⟨sub_fn, refs_fn⟩, ?_⟩ | refine ⟨⟨rfl, fun h => Bool.noConfusion h⟩, ?_⟩ | refine ⟨⟨rfl, fun h => ?_⟩, ?_⟩ | refine ⟨rfl, ?_⟩ | refine ⟨?_, ?_⟩ | fail))) ⟨by omega, fun b hb => by simp at hb⟩ (fun i hi => ?_)
      obtain ⟨h1, h2⟩ := hi
      rcases Nat.lt_or_ge i t.burn.length with hlt | hge
      · obtain ⟨a, hga⟩ := get_ex hlt
        have hx := ints_at hga
        repeat' (first | (refine pA (k := ?_)) | (refine g_exec ?_; first | (refine g_call ?_; refine x_callG true (k_l1In _ _ _) rfl rfl rfl aS rfl aH ?_; simp only [cl]) | (refine g_guard ?_; refine x_gsplit rfl rfl (fun h => ?_) (fun h => ?_) <;> (have h' := h; try simp only [sx] at h')) | (refine x_nil (hK _ _ aI ?_); clear hK K)) | (refine v_region (fun K hK => ?_)) | (refine v_condt rfl (fun h => ?_) (fun h => ?_) <;> (have h' := h; try simp only [sx] at h')))
        all_goals first
          | (refine q_next (i + 1) rfl (by refine ⟨?_, ?_, rfl, rfl⟩ <;> (repeat' (first | exact trivial | exact ⟨rfl, rfl⟩ | exact rfl | exact ⟨sub_fn, refs_fn⟩ | refine ⟨⟨rfl, rfl⟩, ?_⟩ | refine ⟨⟨sub_fn, refs_fn⟩, ?_⟩ | refine ⟨⟨rfl, fun h => Bool.noConfusion h⟩, ?_⟩ | refine ⟨⟨rfl, fun h => ?_⟩, ?_⟩ | refine ⟨rfl, ?_⟩ | refine ⟨?_, ?_⟩ | fail))) ⟨by omega, all_take_succ hga h2 aO⟩ aO)
          | (refine ret_bool rfl (lookE_ok rfl) ?_
             have : ¬ GoodT t := fun h => by have := h.2.2 a (get_mem hga); omega
             simp [this])
      · repeat' (first | (refine pA (k := ?_)) | (refine g_exec ?_; first | (refine g_guard ?_; refine x_gsplit rfl rfl (fun h => ?_) (fun h => ?_) <;> (have h' := h; try simp only [sx] at h')) | (refine x_nil (hK _ _ aI ?_); clear hK K)) | (refine v_region (fun K hK => ?_)) | (refine v_condt rfl (fun h => ?_) (fun h => ?_) <;> (have h' := h; try simp only [sx] at h')))
        refine ret_bool rfl (lookE_ok rfl) ?_
        have : GoodT t := ⟨hd, hs, by rw [take_all aO] at h2; exact h2⟩
        simp [this]
    · repeat' (first | (refine pA (k := ?_)) | (refine g_exec ?_; first | (refine g_call ?_; refine x_callG true (k_l1In _ _ _) rfl rfl rfl aS rfl aH ?_; simp only [cl]) | (refine g_guard ?_; refine x_gsplit rfl rfl (fun h => ?_) (fun h => ?_) <;> (have h' := h; try simp only [sx] at h')) | (refine x_nil (hK _ _ aI ?_); clear hK K)) | (refine v_region (fun K hK => ?_)) | (refine v_condt rfl (fun h => ?_) (fun h => ?_) <;> (have h' := h; try simp only [sx] at h')))
      refine ret_bool rfl (lookE_ok rfl) ?_
      have : ¬ GoodT t := fun h => hs h.2.1
      simp [this]
  · have hng : ¬ GoodT t := fun h => hd h.1
    rw [show decide (GoodT t) = false from by simp [hng]]
    unfold Dims at hd
    repeat' (first | (refine pA (k := ?_)) | (refine g_exec ?_; first | (refine g_call ?_; refine x_callG true (k_l1In _ _ _) rfl rfl rfl aS rfl aH ?_; simp only [cl]) | (refine g_guard ?_; refine x_gsplit rfl rfl (fun h => ?_) (fun h => ?_) <;> (have h' := h; try simp only [sx] at h')) | (refine x_nil (hK _ _ aI ?_); clear hK K)) | (refine v_region (fun K hK => ?_)) | (refine v_condt rfl (fun h => ?_) (fun h => ?_) <;> (have h' := h; try simp only [sx] at h')))
    all_goals first
      | (exfalso; omega)
      | exact ret_bool rfl (lookE_ok rfl) rfl
theorem k_IsTerrain1 (b : Int) : Con Try.prog 72 [.int .i64 b] (.bool (decide (0 ≤ b) && decide (b ≤ 20))) := by
  intro al
  refine contract_of hmix Try.func72 rfl (by kernel_rfl) (by kernel_rfl) (Nat.le_of_ble_eq_true rfl) (fun row h => by cases h) ?_
  repeat' (first | (refine pA (k := ?_)) | (refine g_exec ?_; first | (refine g_call ?_; refine x_callG true (k_in _ _ _) rfl rfl rfl aS rfl aH ?_; simp only [cl]) | (refine x_nil (hK _ _ aI ?_); clear hK K)) | (refine v_region (fun K hK => ?_)))
  exact ret_bool rfl (lookE_ok rfl) rfl
theorem k_IsTerrain (t : Terrain) (hn : t.burn.length ≤ 1099511627776) : Con Try.prog 45 [.agg t.pv] (.bool (decide (GoodT t))) := by
  intro al
  refine contract_of hmix Try.func45 rfl (by kernel_rfl) (by kernel_rfl) (Nat.le_of_ble_eq_true rfl) (fun row h => by cases h) ?_
  have hty_f26_0 := ty_f26_0
  have hty_c3 := ty_c3
  have hty_f26_1 := ty_f26_1
  have hty_f26_2 := ty_f26_2
  have hty_c24 := ty_c24
  have hty_u24 := ty_u24
  have hty_s24 := ty_s24
  have hl : (ints t.burn).length = t.burn.length := by simp
  have kA := k_allInt t.burn 72 [] (fun b => decide (0 ≤ b) && decide (b ≤ 20)) (fun b _ => k_IsTerrain1 b) hn
  have h5 : (t.burn.all fun b => decide (0 ≤ b) && decide (b ≤ 20)) = true ↔ ∀ b ∈ t.burn, 0 ≤ b ∧ b ≤ 20 := by simp
  by_cases hd : Dims t
  · have ha := dims_area hd
    have hd' := hd
    unfold Dims at hd'
    by_cases hs : (t.burn.length : Int) = t.width * t.height
    · repeat' (first | (refine pA (k := ?_)) | (refine g_exec ?_; first | (refine g_call ?_; first | (refine x_callG true (k_in _ _ _) rfl rfl rfl aS rfl aH ?_; simp only [cl]) | (refine x_callG true (kA) rfl rfl rfl aS rfl aH ?_; simp only [cl])) | (refine g_guard ?_; refine x_gsplit rfl rfl (fun h => ?_) (fun h => ?_) <;> (have h' := h; try simp only [sx] at h')) | (refine x_nil (hK _ _ aI ?_); clear hK K)) | (refine v_region (fun K hK => ?_)))
      refine ret_bool rfl (lookE_ok rfl) ?_
      rw [Bool.eq_iff_iff, h5]
      simp only [decide_eq_true_eq]
      exact ⟨fun h => ⟨hd, hs, h⟩, fun h => h.2.2⟩
    · repeat' (first | (refine pA (k := ?_)) | (refine g_exec ?_; first | (refine g_call ?_; first | (refine x_callG true (k_in _ _ _) rfl rfl rfl aS rfl aH ?_; simp only [cl]) | (refine x_callG true (kA) rfl rfl rfl aS rfl aH ?_; simp only [cl])) | (refine g_guard ?_; refine x_gsplit rfl rfl (fun h => ?_) (fun h => ?_) <;> (have h' := h; try simp only [sx] at h')) | (refine x_nil (hK _ _ aI ?_); clear hK K)) | (refine v_region (fun K hK => ?_)))
      refine ret_bool rfl (lookE_ok rfl) ?_
      have : ¬ GoodT t := fun h => hs h.2.1
      simp [this]
      try omega
  · have hng : ¬ GoodT t := fun h => hd h.1
    rw [show decide (GoodT t) = false from by simp [hng]]
    unfold Dims at hd
    repeat' (first | (refine pA (k := ?_)) | (refine g_exec ?_; first | (refine g_call ?_; first | (refine x_callG true (k_in _ _ _) rfl rfl rfl aS rfl aH ?_; simp only [cl]) | (refine x_callG true (kA) rfl rfl rfl aS rfl aH ?_; simp only [cl])) | (refine g_guard ?_; refine x_gsplit rfl rfl (fun h => ?_) (fun h => ?_) <;> (have h' := h; try simp only [sx] at h')) | (refine x_nil (hK _ _ aI ?_); clear hK K)) | (refine v_region (fun K hK => ?_)))
    all_goals first
      | (exfalso; omega)
      | exact ret_bool rfl (lookE_ok rfl) rfl
      | (refine ret_bool rfl (lookE_ok rfl) ?_; simp; omega)
theorem k_isCell (t : Terrain) (c : Int) (hn : t.burn.length ≤ 1099511627776) : Con Try.prog 50 [.agg t.pv, .int .i64 c] (.bool (decide (0 ≤ c ∧ c < t.burn.length))) := by
  intro al
  refine contract_of hmix Try.func50 rfl (by kernel_rfl) (by kernel_rfl) (Nat.le_of_ble_eq_true rfl) (fun row h => by cases h) ?_
  have hty_f26_2 := ty_f26_2
  have hty_c24 := ty_c24
  have hty_u24 := ty_u24
  have hty_s24 := ty_s24
  have hl1 : (ints t.burn).length = t.burn.length := by simp
  repeat' (first | (refine pA (k := ?_)) | (refine g_exec ?_; first | (refine g_call ?_; refine x_callG true (k_in _ _ _) rfl rfl rfl aS rfl aH ?_; simp only [cl]) | (refine x_nil (hK _ _ aI ?_); clear hK K)) | (refine v_region (fun K hK => ?_)))
  refine ret_bool rfl (lookE_ok rfl) ?_
  rw [Bool.eq_iff_iff]
  simp only [sx]
  omega
theorem k_all1IntT (a : Int) (g : FuncId) (t : Terrain) (b : Bool) (hg : Con Try.prog g [.agg t.pv, .int .i64 a] (.bool b)) :
    Con Try.prog 74 [.int .i64 a, .ptr [.fn g [.agg t.pv] []]] (.bool (!b)) := by
  intro al
  refine contract_of hmix Try.func74 rfl (by kernel_rfl) (by kernel_rfl) (Nat.le_of_ble_eq_true rfl) (fun row h => by cases h) ?_
  have hty_c53 := ty_c53
  repeat' (first | (refine pA (k := ?_)) | (refine g_exec ?_; first | (refine g_call ?_; refine x_callG true (hg) rfl rfl rfl aS rfl aH ?_; simp only [cl]) | (refine x_nil (hK _ _ aI ?_); clear hK K)) | (refine v_region (fun K hK => ?_)))
  exact ret_bool rfl (lookE_ok rfl) rfl
theorem k_allIntT (xs : List Int) (g : FuncId) (t : Terrain) (p : Int → Bool) (hg : ∀ a ∈ xs, Con Try.prog g [.agg t.pv, .int .i64 a] (.bool (p a))) (hn : xs.length ≤ 1099511627776) :
    Con Try.prog 49 [.list 1 (ints xs), .fn g [.agg t.pv] []] (.bool (xs.all p)) := by
  intro al
  refine contract_of hmix Try.func49 rfl (by kernel_rfl) (by kernel_rfl) (Nat.le_of_ble_eq_true rfl) (fun row h => by cases h) ?_
  have hty_u24 := ty_u24
  have hty_s24 := ty_s24
  repeat' (first | (refine pA (k := ?_)) | (refine g_exec ?_; first | (refine g_call ?_; refine x_callG true (k_ContainsFuncInt xs 74 [[.fn g [.agg t.pv] []]] (fun a => !p a) (fun a ha => k_all1IntT a g t (p a) (hg a ha)) hn) rfl rfl rfl aS rfl aH ?_; simp only [cl]) | (refine x_nil (hK _ _ aI ?_); clear hK K)) | (refine v_region (fun K hK => ?_)))
  refine ret_bool rfl (lookE_ok rfl) ?_
  rw [List.all_eq_not_any_not]
theorem k_column (t : Terrain) (c : Int) (hw : 1 ≤ t.width) (hc : 0 ≤ c ∧ c ≤ 1000) : Con Try.prog 79 [.agg t.pv, .int .i64 c] (.int .i64 (c % t.width)) := by
  intro al
  refine contract_of hmix Try.func79 rfl (by kernel_rfl) (by kernel_rfl) (Nat.le_of_ble_eq_true rfl) (fun row h => by cases h) ?_
  have hty_f26_0 := ty_f26_0
  have hty_c3 := ty_c3
  repeat' (first | (refine pA (k := ?_)) | (refine g_exec ?_; refine x_nil (hK _ _ aI ?_); clear hK K) | (refine v_region (fun K hK => ?_)))
  exact ret_int rfl (lookE_ok rfl) rfl
theorem k_row (t : Terrain) (c : Int) (hw : 1 ≤ t.width) (hc : 0 ≤ c ∧ c ≤ 1000) : Con Try.prog 80 [.agg t.pv, .int .i64 c] (.int .i64 (c / t.width)) := by
  intro al
  refine contract_of hmix Try.func80 rfl (by kernel_rfl) (by kernel_rfl) (Nat.le_of_ble_eq_true rfl) (fun row h => by cases h) ?_
  have hty_f26_0 := ty_f26_0
  have hty_c3 := ty_c3
  repeat' (first | (refine pA (k := ?_)) | (refine g_exec ?_; refine x_nil (hK _ _ aI ?_); clear hK K) | (refine v_region (fun K hK => ?_)))
  exact ret_int rfl (lookE_ok rfl) rfl
theorem k_l2Set (t : Terrain) (xs : List Int) (hn : t.burn.length ≤ 1099511627776) (hm : xs.length ≤ 1099511627776) : Con Try.prog 27 [.agg t.pv, .list 1 (ints xs)] (.bool (decide (GoodT t ∧ (∀ y ∈ xs, 0 ≤ y ∧ y < t.burn.length) ∧ Rising xs))) := by
  intro al
  refine contract_of hmix Try.func27 rfl (by kernel_rfl) (by kernel_rfl) (Nat.le_of_ble_eq_true rfl) (fun row h => by cases h) ?_
  have hty_a26 := ty_a26
  have hty_f26_2 := ty_f26_2
  have hty_c24 := ty_c24
  have hty_u24 := ty_u24
  have hty_s24 := ty_s24
  have hl1 : (ints t.burn).length = t.burn.length := by simp
  have e : (∀ y ∈ xs, 0 ≤ y ∧ y ≤ ((ints t.burn).length : Int) - 1) ↔ ∀ y ∈ xs, 0 ≤ y ∧ y < t.burn.length := by
    rw [hl1]
    constructor <;> intro h y hy <;> have := h y hy <;> omega
  repeat' (first | (refine pA (k := ?_)) | (refine g_exec ?_; first | (refine g_call ?_; first | (refine x_callG true (k_l2Good t hn) rfl rfl rfl aS rfl aH ?_; simp only [cl]) | (refine x_callG true (k_l1Rising xs 0 (((ints t.burn).length : Int) - 1) hm) rfl rfl rfl aS rfl aH ?_; simp only [cl])) | (refine g_guard ?_; refine x_gsplit rfl rfl (fun h => ?_) (fun h => ?_) <;> (have h' := h; try simp only [sx] at h')) | (refine x_nil (hK _ _ aI ?_); clear hK K)) | (refine v_region (fun K hK => ?_)))
  all_goals
    (refine ret_bool rfl (lookE_ok rfl) ?_; rw [Bool.eq_iff_iff]; try simp only [sx] at *)
    first
      | (rw [e]; constructor
         · intro hq; exact ⟨by assumption, hq⟩
         · intro hq; exact hq.2)
      | (constructor <;> intro hq <;> first | contradiction | exact absurd hq.1 aA)
def cellsL (n : Nat) (p : Nat → Bool) : List Int := ((List.range n).filter p).map fun c : Nat => (c : Int)
theorem cellsL_len (n : Nat) (p : Nat → Bool) : (cellsL n p).length ≤ n := by
  simp only [cellsL, List.length_map]
  have := List.length_filter_le p (List.range n)
  simpa using this
theorem cellsL_mem {n : Nat} {p : Nat → Bool} {c : Int} : c ∈ cellsL n p ↔ ∃ i : Nat, i < n ∧ p i = true ∧ c = i := by
  simp only [cellsL, List.mem_map, List.mem_filter, List.mem_range]
  constructor
  · rintro ⟨i, ⟨h1, h2⟩, rfl⟩; exact ⟨i, h1, h2, rfl⟩
  · rintro ⟨i, h1, h2, rfl⟩; exact ⟨i, ⟨h1, h2⟩, rfl⟩
theorem cellsL_succ (n : Nat) (p : Nat → Bool) : cellsL (n + 1) p = cellsL n p ++ (if p n = true then [(n : Int)] else []) := by
  simp only [cellsL, List.range_succ, List.filter_append, List.map_append]
  by_cases h : p n = true <;> simp [h]
theorem cellsL_t {n : Nat} {p : Nat → Bool} (h : p n = true) : cellsL (n + 1) p = cellsL n p ++ [(n : Int)] := by rw [cellsL_succ, if_pos h]
theorem cellsL_f {n : Nat} {p : Nat → Bool} (h : p n = false) : cellsL (n + 1) p = cellsL n p := by rw [cellsL_succ, if_neg (by simp [h]), List.append_nil]
theorem k_cellsThat (t : Terrain) (g : FuncId) (ca : List (List PV)) (p : Nat → Bool) (hg : ∀ c : Nat, c < t.burn.length → Con Try.prog g (.int .i64 c :: ca.map PV.ptr) (.bool (p c))) (hn : t.burn.length ≤ 1099511627776) :
    Con Try.prog 75 [.agg t.pv, .fn g [] (ca.map PV.ptr)] (.olist 3 1 (ints (cellsL t.burn.length p))) := by
  intro al
  refine contract_of hmix Try.func75 rfl (by kernel_rfl) (by kernel_rfl) (Nat.le_of_ble_eq_true rfl) (fun row h => by cases h) ?_
  have hty_s24 := ty_s24
  have hty_f26_2 := ty_f26_2
  have hty_c24 := ty_c24
  have hty_u24 := ty_u24
  have hl1 : (ints t.burn).length = t.burn.length := by simp
  repeat' (first | (refine pA (k := ?_)) | (refine g_exec ?_; refine x_nil (hK _ _ aI ?_); clear hK K) | (refine v_region (fun K hK => ?_)) | (refine v_condt rfl (fun h => ?_) (fun h => ?_) <;> (have h' := h; try simp only [sx] at h')))
  refine v_loopK [1, 10] [] (fun q : Nat × Nat × List (List PV) => [(5, .osl (1001, 0) 0 q.2.1), (11, .int .i64 q.1)]) (fun q : Nat × Nat × List (List PV) => [((1001, 0), some ⟨3, 1, q.2.2, false⟩)]) (fun q : Nat × Nat × List (List PV) => q.1 ≤ t.burn.length ∧ q.2.2 = ints (cellsL q.1 p) ∧ q.2.2.length = q.2.1) (fun q : Nat × Nat × List (List PV) => t.burn.length - q.1) ((0, 0, [])) rfl rfl (fun _ => rfl) (fun _ => rfl) rfl (by refine ⟨?_, ?_, rfl, rfl⟩ <;> (repeat' (first | exact trivial | exact ⟨rfl, rfl⟩ | exact rfl | exact ⟨sub_fn, refs_fn⟩ | refine ⟨⟨rfl, rfl⟩, ?_⟩ | refine ⟨⟨sub_fn, refs_fn⟩, ?_⟩ | refine ⟨⟨rfl, fun h => Bool.noConfusion h⟩, ?_⟩ | refine ⟨⟨rfl, fun h => ?_⟩, ?_⟩ | refine ⟨rfl, ?_⟩ | refine ⟨?_, ?_⟩ | fail))) ⟨by simp, by simp [cellsL], rfl⟩ (fun q hq => ?_)
  obtain ⟨i, m, es⟩ := q
  obtain ⟨hi1, hi2, hl⟩ := hq
  simp only at hi1 hi2 hl
  have hle : es.length ≤ i := by rw [hi2, ints_len]; exact cellsL_len i p
  dsimp only
  rcases Nat.lt_or_ge i t.burn.length with hlt | hge
  · have kg := hg i hlt
    repeat' (first | (refine pA (k := ?_)) | (refine g_exec ?_; first | (refine g_call ?_; first | (refine x_callG true (kg) rfl rfl rfl aS rfl aH ?_; simp only [cl]) | (refine x_call [] _ (kg) rfl rfl aS rfl aH ?_; simp only [cl])) | (refine x_nil (hK _ _ aI ?_); clear hK K)) | (refine v_region (fun K hK => ?_)) | (refine v_condt rfl (fun h => ?_) (fun h => ?_) <;> (have h' := h; try simp only [sx] at h')))
    · refine q_next (i + 1, m + 1, es ++ [[.int .i64 i]]) rfl (by refine ⟨?_, ?_, rfl, rfl⟩ <;> (repeat' (first | exact trivial | exact ⟨rfl, rfl⟩ | exact rfl | exact ⟨sub_fn, refs_fn⟩ | refine ⟨⟨rfl, rfl⟩, ?_⟩ | refine ⟨⟨sub_fn, refs_fn⟩, ?_⟩ | refine ⟨⟨rfl, fun h => Bool.noConfusion h⟩, ?_⟩ | refine ⟨⟨rfl, fun h => ?_⟩, ?_⟩ | refine ⟨rfl, ?_⟩ | refine ⟨?_, ?_⟩ | fail))) ⟨by simp only; omega, ?_, by simp [hl]⟩ (by simp only; omega)
      simp only [cellsL_t (show p i = true by assumption), ints_snoc, hi2]
    · refine q_next (i + 1, m, es) rfl (by refine ⟨?_, ?_, rfl, rfl⟩ <;> (repeat' (first | exact trivial | exact ⟨rfl, rfl⟩ | exact rfl | exact ⟨sub_fn, refs_fn⟩ | refine ⟨⟨rfl, rfl⟩, ?_⟩ | refine ⟨⟨sub_fn, refs_fn⟩, ?_⟩ | refine ⟨⟨rfl, fun h => Bool.noConfusion h⟩, ?_⟩ | refine ⟨⟨rfl, fun h => ?_⟩, ?_⟩ | refine ⟨rfl, ?_⟩ | refine ⟨?_, ?_⟩ | fail))) ⟨by simp only; omega, ?_, hl⟩ (by simp only; omega)
      simp only [cellsL_f (show p i = false by assumption), hi2]
  · have : i = t.burn.length := by omega
    subst this
    repeat' (first | (refine pA (k := ?_)) | (refine g_exec ?_; refine x_nil (hK _ _ aI ?_); clear hK K) | (refine v_region (fun K hK => ?_)) | (refine v_condt rfl (fun h => ?_) (fun h => ?_) <;> (have h' := h; try simp only [sx] at h')))
    exact ret_list rfl (lookE_ok (by rfl)) (by rfl) (by decide) hl.symm (by rw [hi2]; exact ints_flat _) hi2
end Go.Vs
set_option linter.unusedVariables false
set_option linter.unusedSimpArgs false
set_option maxRecDepth 100000
set_option maxHeartbeats 4000000
namespace Go.Vs
open Go.Proofs
attribute [local irreducible] exec vwp thenQ blkQ loopQ RetPost
theorem k_l4Tick (x : Int) : Con Try.prog 38 [.int .i64 x] (.bool (decide (0 ≤ x) && decide (x ≤ 9999))) := by
  intro al
  refine contract_of hmix Try.func38 rfl (by kernel_rfl) (by kernel_rfl) (Nat.le_of_ble_eq_true rfl) (fun row h => by cases h) ?_
  repeat' (first | (refine pA (k := ?_)) | (refine g_exec ?_; first | (refine g_call ?_; refine x_callG true (k_l1In _ _ _) rfl rfl rfl aS rfl aH ?_; simp only [cl]) | (refine x_nil (hK _ _ aI ?_); clear hK K)) | (refine v_region (fun K hK => ?_)))
  exact ret_bool rfl (lookE_ok rfl) rfl
theorem k_isTick (x : Int) : Con Try.prog 36 [.int .i64 x] (.bool (decide (0 ≤ x) && decide (x ≤ 9999))) := by
  intro al
  refine contract_of hmix Try.func36 rfl (by kernel_rfl) (by kernel_rfl) (Nat.le_of_ble_eq_true rfl) (fun row h => by cases h) ?_
  repeat' (first | (refine pA (k := ?_)) | (refine g_exec ?_; first | (refine g_call ?_; refine x_callG true (k_in _ _ _) rfl rfl rfl aS rfl aH ?_; simp only [cl]) | (refine x_nil (hK _ _ aI ?_); clear hK K)) | (refine v_region (fun K hK => ?_)))
  exact ret_bool rfl (lookE_ok rfl) rfl
def IsCell (t : Terrain) (c : Int) : Prop := 0 ≤ c ∧ c < t.burn.length
instance (t : Terrain) (c : Int) : Decidable (IsCell t c) := by unfold IsCell; infer_instance
@[reducible] def colOf (t : Terrain) (c : Int) : Int := c % t.width
@[reducible] def rowOf (t : Terrain) (c : Int) : Int := c / t.width
theorem cell_place {t : Terrain} (hg : GoodT t) {c : Int} (hc : IsCell t c) : (0 ≤ colOf t c ∧ colOf t c < t.width) ∧ (0 ≤ rowOf t c ∧ rowOf t c < t.height) ∧ rowOf t c * t.width + colOf t c = c := by
  have hw := hg.1.1
  have ha := hg.2.1
  have h1 := hc.2
  refine ⟨⟨Int.emod_nonneg _ aO, Int.emod_lt_of_pos _ aO⟩, ⟨Int.ediv_nonneg hc.1 aO, Int.ediv_lt_of_lt_mul aO ?_⟩, ?_⟩
  · rw [Int.mul_comm]; omega
  · show c / t.width * t.width + c % t.width = c
    rw [Int.emod_def, Int.mul_comm]; omega
@[reducible] def absI (x : Int) : Int := max x (-x)
@[reducible] def apart (t : Terrain) (a b : Int) : Int := max (absI (colOf t a - colOf t b)) (absI (rowOf t a - rowOf t b))
theorem apart_comm (t : Terrain) (a b : Int) : apart t a b = apart t b a := by simp only [apart, absI]; omega
@[reducible] def burnAt (t : Terrain) (c : Int) : Int := t.burn.getD c.toNat 0
theorem burn_at {t : Terrain} {c : Int} (hc : IsCell t c) : t.burn[c.toNat]? = some (burnAt t c) := by
  obtain ⟨a, ha⟩ := get_ex (show c.toNat < t.burn.length by have := hc; unfold IsCell at this; omega)
  rw [ha, burnAt, getI ha]
theorem burn_bound {t : Terrain} (hg : GoodT t) {c : Int} (hc : IsCell t c) : 0 ≤ burnAt t c ∧ burnAt t c ≤ 20 := hg.2.2 _ (get_mem (burn_at hc))
@[reducible] def nearP (t : Terrain) (c : Int) (i : Nat) : Bool := decide (apart t c i = 1)
def nears (t : Terrain) (c : Int) : List Int := cellsL t.burn.length (nearP t c)
theorem nears_mem {t : Terrain} {c x : Int} : x ∈ nears t c ↔ IsCell t x ∧ apart t c x = 1 := by
  rw [nears, cellsL_mem]
  constructor
  · rintro ⟨i, h1, h2, rfl⟩
    exact ⟨⟨by omega, by omega⟩, by simpa [nearP] using h2⟩
  · rintro ⟨⟨h1, h2⟩, h3⟩
    refine ⟨x.toNat, by omega, ?_, by omega⟩
    have : ((x.toNat : Nat) : Int) = x := by omega
    simp only [nearP, this, h3, decide_true]
theorem nears_len (t : Terrain) (c : Int) : (nears t c).length ≤ t.burn.length := cellsL_len _ _
theorem k_l2Apart (t : Terrain) (a b : Int) (hg : GoodT t) (ha : IsCell t a) (hb : IsCell t b) : Con Try.prog 81 [.agg t.pv, .int .i64 a, .int .i64 b] (.int .i64 (apart t a b)) := by
  intro al
  refine contract_of hmix Try.func81 rfl (by kernel_rfl) (by kernel_rfl) (Nat.le_of_ble_eq_true rfl) (fun row h => by cases h) ?_
  have hty_f26_0 := ty_f26_0
  have hty_c3 := ty_c3
  have hd := hg.1
  unfold Dims at hd
  have p1 := cell_place hg ha
  have p2 := cell_place hg hb
  dsimp only [colOf, rowOf] at p1 p2
  have hca := ha
  have hcb := hb
  unfold IsCell at hca hcb
  have hl := goodT_len hg
  repeat' (first | (refine pA (k := ?_)) | (refine g_exec ?_; first | (refine g_call ?_; refine x_callG true (k_l1Most _ _) rfl rfl rfl aS rfl aH ?_; simp only [cl]) | (refine x_nil (hK _ _ aI ?_); clear hK K)) | (refine v_region (fun K hK => ?_)))
  exact ret_int rfl (lookE_ok rfl) rfl
theorem k_l2Near (t : Terrain) (c : Int) (hg : GoodT t) (hc : IsCell t c) : Con Try.prog 64 [.agg t.pv, .int .i64 c] (.olist 3 1 (ints (nears t c))) := by
  intro al
  refine contract_of hmix Try.func64 rfl (by kernel_rfl) (by kernel_rfl) (Nat.le_of_ble_eq_true rfl) (fun row h => by cases h) ?_
  have hty_s24 := ty_s24
  have hty_f26_2 := ty_f26_2
  have hty_c24 := ty_c24
  have hty_u24 := ty_u24
  have hty_a26 := ty_a26
  have hl1 : (ints t.burn).length = t.burn.length := by simp
  have hlen := goodT_len hg
  repeat' (first | (refine pA (k := ?_)) | (refine g_exec ?_; refine x_nil (hK _ _ aI ?_); clear hK K) | (refine v_region (fun K hK => ?_)) | (refine v_condt rfl (fun h => ?_) (fun h => ?_) <;> (have h' := h; try simp only [sx] at h')))
  refine v_loopK [1, 2] [] (fun q : Nat × Nat × List (List PV) => [(5, .osl (1001, 0) 0 q.2.1), (6, .int .i64 q.1)]) (fun q : Nat × Nat × List (List PV) => [((1001, 0), some ⟨3, 1, q.2.2, false⟩)]) (fun q : Nat × Nat × List (List PV) => q.1 ≤ t.burn.length ∧ q.2.2 = ints (cellsL q.1 (nearP t c)) ∧ q.2.2.length = q.2.1) (fun q : Nat × Nat × List (List PV) => t.burn.length - q.1) ((0, 0, [])) rfl rfl (fun _ => rfl) (fun _ => rfl) rfl (by refine ⟨?_, ?_, rfl, rfl⟩ <;> (repeat' (first | exact trivial | exact ⟨rfl, rfl⟩ | exact rfl | exact ⟨sub_fn, refs_fn⟩ | refine ⟨⟨rfl, rfl⟩, ?_⟩ | refine ⟨⟨sub_fn, refs_fn⟩, ?_⟩ | refine ⟨⟨rfl, fun h => Bool.noConfusion h⟩, ?_⟩ | refine ⟨⟨rfl, fun h => ?_⟩, ?_⟩ | refine ⟨rfl, ?_⟩ | refine ⟨?_, ?_⟩ | fail))) ⟨by simp, by simp [cellsL], rfl⟩ (fun q hq => ?_)
  obtain ⟨i, m, es⟩ := q
  obtain ⟨hi1, hi2, hl⟩ := hq
  simp only at hi1 hi2 hl
  have hle : es.length ≤ i := by rw [hi2, ints_len]; exact cellsL_len i _
  dsimp only
  rcases Nat.lt_or_ge i t.burn.length with hlt | hge
  · have kA := k_l2Apart t c i hg hc ⟨by omega, by omega⟩
    repeat' (first | (refine pA (k := ?_)) | (refine g_exec ?_; first | (refine g_call ?_; refine x_callG true (kA) rfl rfl rfl aS rfl aH ?_; simp only [cl]) | (refine x_nil (hK _ _ aI ?_); clear hK K)) | (refine v_region (fun K hK => ?_)) | (refine v_condt rfl (fun h => ?_) (fun h => ?_) <;> (have h' := h; try simp only [sx] at h')))
    · refine q_next (i + 1, m + 1, es ++ [[.int .i64 i]]) rfl (by refine ⟨?_, ?_, rfl, rfl⟩ <;> (repeat' (first | exact trivial | exact ⟨rfl, rfl⟩ | exact rfl | exact ⟨sub_fn, refs_fn⟩ | refine ⟨⟨rfl, rfl⟩, ?_⟩ | refine ⟨⟨sub_fn, refs_fn⟩, ?_⟩ | refine ⟨⟨rfl, fun h => Bool.noConfusion h⟩, ?_⟩ | refine ⟨⟨rfl, fun h => ?_⟩, ?_⟩ | refine ⟨rfl, ?_⟩ | refine ⟨?_, ?_⟩ | fail))) ⟨by simp only; omega, ?_, by simp [hl]⟩ (by simp only; omega)
      simp only [cellsL_t (show nearP t c i = true by assumption), ints_snoc, hi2]
    · refine q_next (i + 1, m, es) rfl (by refine ⟨?_, ?_, rfl, rfl⟩ <;> (repeat' (first | exact trivial | exact ⟨rfl, rfl⟩ | exact rfl | exact ⟨sub_fn, refs_fn⟩ | refine ⟨⟨rfl, rfl⟩, ?_⟩ | refine ⟨⟨sub_fn, refs_fn⟩, ?_⟩ | refine ⟨⟨rfl, fun h => Bool.noConfusion h⟩, ?_⟩ | refine ⟨⟨rfl, fun h => ?_⟩, ?_⟩ | refine ⟨rfl, ?_⟩ | refine ⟨?_, ?_⟩ | fail))) ⟨by simp only; omega, ?_, hl⟩ (by simp only; omega)
      simp only [cellsL_f (show nearP t c i = false by assumption), hi2]
  · have : i = t.burn.length := by omega
    subst this
    repeat' (first | (refine pA (k := ?_)) | (refine g_exec ?_; refine x_nil (hK _ _ aI ?_); clear hK K) | (refine v_region (fun K hK => ?_)) | (refine v_condt rfl (fun h => ?_) (fun h => ?_) <;> (have h' := h; try simp only [sx] at h')))
    exact ret_list rfl (lookE_ok (by rfl)) (by rfl) (by decide) hl.symm (by rw [hi2]; exact ints_flat _) hi2
theorem k_distance (a b : Int) (ha : -1000 ≤ a ∧ a ≤ 1000) (hb : -1000 ≤ b ∧ b ≤ 1000) : Con Try.prog 89 [.int .i64 a, .int .i64 b] (.int .i64 (absI (a - b))) := by
  intro al
  refine contract_of hmix Try.func89 rfl (by kernel_rfl) (by kernel_rfl) (Nat.le_of_ble_eq_true rfl) (fun row h => by cases h) ?_
  repeat' (first | (refine pA (k := ?_)) | (refine g_exec ?_; refine x_nil (hK _ _ aI ?_); clear hK K) | (refine v_region (fun K hK => ?_)))
  exact ret_int rfl (lookE_ok rfl) (by simp only [absI]; omega)
theorem k_apart (t : Terrain) (a b : Int) (hg : GoodT t) (ha : IsCell t a) (hb : IsCell t b) : Con Try.prog 77 [.agg t.pv, .int .i64 a, .int .i64 b] (.int .i64 (apart t a b)) := by
  intro al
  refine contract_of hmix Try.func77 rfl (by kernel_rfl) (by kernel_rfl) (Nat.le_of_ble_eq_true rfl) (fun row h => by cases h) ?_
  have hty_a26 := ty_a26
  have hd := hg.1
  unfold Dims at hd
  have p1 := cell_place hg ha
  have p2 := cell_place hg hb
  dsimp only [colOf, rowOf] at p1 p2
  have hca := ha
  have hcb := hb
  unfold IsCell at hca hcb
  have hl := goodT_len hg
  repeat' (first | (refine pA (k := ?_)) | (refine g_exec ?_; first | (refine g_call ?_; first | (refine x_callG true (k_column t a hd.1.1 aO) rfl rfl rfl aS rfl aH ?_; simp only [cl]) | (refine x_callG true (k_column t b hd.1.1 aO) rfl rfl rfl aS rfl aH ?_; simp only [cl]) | (refine x_callG true (k_row t a hd.1.1 aO) rfl rfl rfl aS rfl aH ?_; simp only [cl]) | (refine x_callG true (k_row t b hd.1.1 aO) rfl rfl rfl aS rfl aH ?_; simp only [cl]) | (refine x_callG true (k_distance (a % t.width) (b % t.width) aO aO) rfl rfl rfl aS rfl aH ?_; simp only [cl]) | (refine x_callG true (k_distance (a / t.width) (b / t.width) aO aO) rfl rfl rfl aS rfl aH ?_; simp only [cl])) | (refine x_nil (hK _ _ aI ?_); clear hK K)) | (refine v_region (fun K hK => ?_)))
  exact ret_int rfl (lookE_ok rfl) rfl
theorem k_neighbors1 (t : Terrain) (c x : Int) (hg : GoodT t) (hc : IsCell t c) (hx : IsCell t x) : Con Try.prog 76 [.int .i64 x, .ptr t.pv, .ptr [.int .i64 c]] (.bool (decide (apart t c x = 1))) := by
  intro al
  refine contract_of hmix Try.func76 rfl (by kernel_rfl) (by kernel_rfl) (Nat.le_of_ble_eq_true rfl) (fun row h => by cases h) ?_
  have hty_a26 := ty_a26
  have hty_c3 := ty_c3
  have k := k_apart t x c hg hx hc
  rw [apart_comm] at k
  repeat' (first | (refine pA (k := ?_)) | (refine g_exec ?_; first | (refine g_call ?_; refine x_callG true (k) rfl rfl rfl aS rfl aH ?_; simp only [cl]) | (refine x_nil (hK _ _ aI ?_); clear hK K)) | (refine v_region (fun K hK => ?_)))
  exact ret_bool rfl (lookE_ok rfl) rfl
theorem k_neighbors (t : Terrain) (c : Int) (hg : GoodT t) (hc : IsCell t c) : Con Try.prog 53 [.agg t.pv, .int .i64 c] (.olist 3 1 (ints (nears t c))) := by
  intro al
  refine contract_of hmix Try.func53 rfl (by kernel_rfl) (by kernel_rfl) (Nat.le_of_ble_eq_true rfl) (fun row h => by cases h) ?_
  have hty_a26 := ty_a26
  have hlen := goodT_len hg
  repeat' (first | (refine pA (k := ?_)) | (refine g_exec ?_; first | (refine g_call ?_; refine x_callG true (k_cellsThat t 76 [t.pv, [.int .i64 c]] (nearP t c) (fun x h => k_neighbors1 t c x hg hc ⟨by omega, by omega⟩) aO) rfl rfl rfl aS rfl aH ?_; simp only [cl]) | (refine x_nil (hK _ _ aI ?_); clear hK K)) | (refine v_region (fun K hK => ?_)))
  exact ret_list rfl (lookE_ok (by rfl)) (by rfl) (by decide) rfl (ints_flat _) rfl
theorem k_burns (t : Terrain) (c : Int) (hg : GoodT t) (hc : IsCell t c) : Con Try.prog 52 [.agg t.pv, .int .i64 c] (.bool (decide (0 < burnAt t c))) := by
  intro al
  refine contract_of hmix Try.func52 rfl (by kernel_rfl) (by kernel_rfl) (Nat.le_of_ble_eq_true rfl) (fun row h => by cases h) ?_
  have hty_f26_2 := ty_f26_2
  have hty_c24 := ty_c24
  have hty_s24 := ty_s24
  have hty_c3 := ty_c3
  have hl1 : (ints t.burn).length = t.burn.length := by simp
  have hx := ints_at (burn_at hc)
  have hcc := hc
  unfold IsCell at hcc
  repeat' (first | (refine pA (k := ?_)) | (refine g_exec ?_; refine x_nil (hK _ _ aI ?_); clear hK K) | (refine v_region (fun K hK => ?_)))
  exact ret_bool rfl (lookE_ok rfl) rfl
end Go.Vs
