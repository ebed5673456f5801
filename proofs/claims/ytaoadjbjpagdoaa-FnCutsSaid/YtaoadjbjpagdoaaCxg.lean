/- Parts of a proof: what its last text mentions. -/
import Derived.Test.YtaoadjbjpagdoaaCxf
set_option linter.unusedVariables false
set_option linter.unusedSimpArgs false
set_option linter.unusedSectionVars false
set_option maxRecDepth 100000
set_option maxHeartbeats 4000000
namespace Go.Vs
open Go.Proofs
attribute [local irreducible] exec vwp thenQ blkQ loopQ RetPost
def Zr (N : Nat) (r : List Int) : Prop := r.length = N ∧ ∀ x ∈ r, 0 ≤ x ∧ x ≤ 1
theorem Zr.set {N k : Nat} {r : List Int} (h : Zr N r) : Zr N (r.set k 1) := ⟨by rw [List.length_set]; exact h.1, fun x hx => by rcases List.mem_or_eq_of_mem_set hx with g | g; exact h.2 x g; omega⟩
def Zo (N : Nat) (M : Mtx) : Prop := M.length = N ∧ ∀ r ∈ M, Zr N r
theorem Zo.row {N a : Nat} {M : Mtx} (h : Zo N M) (ha : a < N) : Zr N (rw_ M a) ∧ M[a]? = some (rw_ M a) := by
  obtain ⟨r, hr⟩ := get_ex (show a < M.length by rw [h.1]; exact ha)
  have : rw_ M a = r := getDk hr
  rw [this]
  exact ⟨h.2 r (get_mem hr), hr⟩
theorem Zo.set {N a : Nat} {M : Mtx} {r : List Int} (h : Zo N M) (hr : Zr N r) : Zo N (M.set a r) := ⟨by rw [List.length_set]; exact h.1, fun x hx => by rcases List.mem_or_eq_of_mem_set hx with g | g; exact h.2 x g; rw [g]; exact hr⟩
theorem Zo.src {N : Nat} {M : Mtx} (h : Zo N M) (hN : 2 ≤ N) : SrcM N M := ⟨⟨h.1, fun r hr => (h.2 r hr).1⟩, (h.row (show N - 2 < N by omega)).1.2⟩
theorem zo_zero (N : Nat) : Zo N (List.replicate N (List.replicate N 0)) := ⟨by simp, fun r hr => by
  rw [List.eq_of_mem_replicate hr]
  exact ⟨by simp, fun x hx => by rw [List.eq_of_mem_replicate hx]; omega⟩⟩
section
variable (t : Terrain) (xs ys : List Int)
def capN (l : List Int) (r : List Int) : List Int := l.foldl (fun r c => if freB t xs ys c = true then r.set (2 * c).toNat 1 else r) r
def capA1 (M : Mtx) (i : Nat) : List Int := (rw_ M (2 * i)).set (2 * i + 1) 1
def capC1 (M : Mtx) (i : Nat) : List Int := if tchB t i xs = true then (rw_ M (2 * t.burn.length)).set (2 * i) 1 else rw_ M (2 * t.burn.length)
def capB0 (M : Mtx) (i : Nat) : List Int := if tchB t i ys = true then (rw_ M (2 * i + 1)).set (2 * t.burn.length + 1) 1 else rw_ M (2 * i + 1)
def capX (M : Mtx) (i : Nat) : Mtx := if freB t xs ys i = true then ((M.set (2 * t.burn.length) (capC1 t xs M i)).set (2 * i + 1) (capN t xs ys (nears t i) (capB0 t ys M i))).set (2 * i) (capA1 M i) else M
def capM (N : Nat) : Nat → Mtx
  | 0 => List.replicate N (List.replicate N 0)
  | k + 1 => capX t xs ys (capM N k) k
end
section
variable {t : Terrain} {xs ys : List Int} {N : Nat} {M : Mtx}
theorem capN_snoc (l : List Int) (c : Int) (r : List Int) : capN t xs ys (l ++ [c]) r = if freB t xs ys c = true then (capN t xs ys l r).set (2 * c).toNat 1 else capN t xs ys l r := by simp [capN]
theorem capN_zr {r : List Int} (h : Zr N r) : ∀ l, Zr N (capN t xs ys l r) := by
  intro l
  unfold capN
  induction l generalizing r with
  | nil => exact h
  | cons c l ih =>
    simp only [List.foldl_cons]
    split
    · exact ih h.set
    · exact ih h
theorem capX_zo (h : Zo N M) (hN : N = 2 * t.burn.length + 2) {i : Nat} (hi : i < t.burn.length) : Zo N (capX t xs ys M i) := by
  unfold capX
  split
  · refine ((h.set ?_).set (capN_zr ?_ _)).set (h.row aO).1.set
    · unfold capC1; split
      · exact (h.row aO).1.set
      · exact (h.row aO).1
    · unfold capB0; split
      · exact (h.row aO).1.set
      · exact (h.row aO).1
  · exact h
theorem capM_zo (hN : N = 2 * t.burn.length + 2) : ∀ i, i ≤ t.burn.length → Zo N (capM t xs ys N i)
  | 0, _ => zo_zero N
  | i + 1, hi => capX_zo (capM_zo hN i aO) hN aO
end
abbrev OldL [fl : Inhabited FlrT] (l : List Int) : PV := .sem (Old flN (.list 1 (ints l)))
theorem calm_old [fl : Inhabited FlrT] {W : Nat → Prop} (h : ∀ b, W b → flN ≤ b) (l : List Int) : Calm W (OldL l) := .inr ⟨_, _, rfl, h⟩
theorem calm_ints {W : Nat → Prop} (r : List Int) : ∀ e ∈ ints r, ∀ u ∈ e, Calm W u := fun e he u hu => .inl (ints_flat r e he u hu)
theorem calm_box [fl : Inhabited FlrT] {W : Nat → Prop} (h : ∀ b, W b → flN ≤ b) (t : Terrain) : ∀ e ∈ [[PV.int .i64 t.width, .int .i64 t.height, OldL t.burn]], ∀ u ∈ e, Calm W u := by
  intro e he u hu
  simp only [List.mem_cons, List.not_mem_nil, or_false] at he
  subst he
  simp only [List.mem_cons, List.not_mem_nil, or_false] at hu
  rcases hu with rfl | rfl | rfl
  · exact .inl rfl
  · exact .inl rfl
  · exact calm_old h _
theorem idne {a b : Id} (h : (Nat.beq a.1 b.1 && Nat.beq a.2 b.2) = false) : a ≠ b := fun e => by subst e; simp at h
theorem st_own {W : Nat → Prop} {mem mem' : List (Id × Option Row)} {ida id0 : Id} {r : Row} {i o : Nat} (h : getM mem id0 = some (some r)) (h' : getM mem' id0 = some (some r)) (hne : id0 ≠ ida) : Stays W mem' ida mem (.own id0 i o) := .inr ⟨_, _, _, r, r, .inr ⟨rfl, rfl⟩, hne, h, h', rfl, rfl, rfl⟩
theorem st_osl {W : Nat → Prop} {mem mem' : List (Id × Option Row)} {ida id0 : Id} {r r' : Row} {o n : Nat} (h : getM mem id0 = some (some r)) (h' : getM mem' id0 = some (some r')) (hne : id0 ≠ ida) (h1 : r'.ty = r.ty) (h2 : r'.sz = r.sz) (h3 : r'.es.length = r.es.length) : Stays W mem' ida mem (.osl id0 o n) := .inr ⟨_, _, _, r, r', .inl rfl, hne, h, h', h1, h2, h3⟩
section
variable [fl : Inhabited FlrT]
@[reducible] def boxC (t : Terrain) : Row := ⟨26, 3, [[.int .i64 t.width, .int .i64 t.height, OldL t.burn]], true⟩
@[reducible] def EC (t : Terrain) (xs ys : List Int) (N k : Nat) : List (Nat × PV) := [(1, OldL xs), (2, OldL ys), (3, .own (3, 0) 0 0), (7, .int .i64 ((ints t.burn).length : Nat)), (8, .osl (1001, 0) 0 N), (10, .int .i64 (k : Nat))]
theorem env_EC {W : Nat → Prop} {env : List (Nat × PV)} {mem mem' : List (Id × Option Row)} {ida : Id} {t : Terrain} {xs ys : List Int} {N k : Nat} {r r' : Row} (hW : ∀ b, W b → flN ≤ b) (hE : ∀ p ∈ EC t xs ys N k, getE env p.1 = p.2)
    (hb : getM mem (3, 0) = some (some (boxC t))) (hb' : getM mem' (3, 0) = some (some (boxC t))) (hne : ida ≠ (3, 0)) (hne1 : ida ≠ (1001, 0)) (hm : getM mem (1001, 0) = some (some r)) (hm' : getM mem' (1001, 0) = some (some r')) (h1 : r'.ty = r.ty) (h2 : r'.sz = r.sz) (h3 : r'.es.length = r.es.length) :
    allL (fun p : Nat × PV => getE env p.1 = p.2 ∧ Stays W mem' ida mem p.2) (EC t xs ys N k) :=
  ⟨⟨hE _ (by simp), .inl (calm_old hW _)⟩, ⟨hE _ (by simp), .inl (calm_old hW _)⟩, ⟨hE (3, _) (by simp), st_own hb hb' hne.symm⟩, ⟨hE (7, _) (by simp), .inl (.inl rfl)⟩, ⟨hE (8, _) (by simp), st_osl hm hm' hne1.symm h1 h2 h3⟩, ⟨hE (10, _) (by simp), .inl (.inl rfl)⟩, trivial⟩
theorem foc3 {env : List (Nat × PV)} {mem : List (Id × Option Row)} {t : Terrain} {xs ys : List Int} {N k a b c : Nat} {qs : List Plc} {M : Mtx} (hE : ∀ p ∈ EC t xs ys N k, getE env p.1 = p.2) (hb : getM mem (3, 0) = some (some (boxC t)))
    (hm : getM mem (1001, 0) = some (some ⟨24, 1, rowM 3 qs M, false⟩)) (f2 : getM mem (1002, 0) = none) (f3 : getM mem (1003, 0) = none) (f4 : getM mem (1004, 0) = none)
    (hD : Dim N M) (hl : qs.length = N) (hA : Apt qs) (hw : ∀ x ∈ qs, ∀ b, inQ x b → flN ≤ b ∧ flW b) (ha : a < N) (hbN : b < N) (hc : c < N) (hab : a ≠ b) (hac : a ≠ c) (hbc : b ≠ c) :
    EntN ⟨env, mem⟩ (· = ⟨EC t xs ys N k, ((1004, 0), some ⟨3, 1, ints (rw_ M c), false⟩) :: ((1001, 0), some ⟨24, 1, mixO 3 (((qs.set a none).set b none).set c none) M [(c, (1004, 0), N), (b, (1003, 0), N), (a, (1002, 0), N)], true⟩) ::
      [((1003, 0), some ⟨3, 1, ints (rw_ M b), false⟩), ((1002, 0), some ⟨3, 1, ints (rw_ M a), false⟩), ((3, 0), some (boxC t))]⟩) := by
  obtain ⟨qa, hqa⟩ := get_ex (show a < qs.length by omega)
  obtain ⟨qb, hqb⟩ := get_ex (show b < qs.length by omega)
  obtain ⟨qc, hqc⟩ := get_ex (show c < qs.length by omega)
  have hwa := hw qa (get_mem hqa)
  have hwb := hw qb (get_mem hqb)
  have hwc := hw qc (get_mem hqc)
  have hlM := hD.1
  have fla : ∀ b, inQ qa b → flN ≤ b := fun b h => (hwa b h).1
  have flb : ∀ b, inQ qb b → flN ≤ b := fun b h => (hwb b h).1
  have flc : ∀ b, inQ qc b → flN ≤ b := fun b h => (hwc b h).1
  refine (ent_foc (id := (1001, 0)) (ida := (1002, 0)) (fs := []) (a := a) (n := N) (q := qa) (r := rw_ M a) (EC t xs ys N k) [((3, 0), some (boxC t))] hm (.inl rfl) hqa (hD.row ha).1 (hD.row ha).2 (fun f hf => by cases hf) aO hA f2 (by first | decide | exact idne rfl) rfl (fun b h => (hwa b h).2) (fun f hf => by cases hf)
    ⟨⟨hb, idne rfl, fun r h => by cases h; exact calm_box fla t⟩, trivial⟩ (env_EC fla hE hb rfl (by first | decide | exact idne rfl) (by first | decide | exact idne rfl) hm rfl (by rfl) (by rfl) (by simp only [mixO_len (show (qs.set a none).length = M.length by simp; omega)]; rw [rowM_len aO]))).bind (fun s hs => ?_)
  subst hs
  refine (ent_foc (id := (1001, 0)) (ida := (1003, 0)) (fs := [(a, (1002, 0), N)]) (a := b) (n := N) (q := qb) (r := rw_ M b) (EC t xs ys N k) [((1002, 0), some ⟨3, 1, ints (rw_ M a), false⟩), ((3, 0), some (boxC t))] rfl (.inr rfl) (by rw [List.getElem?_set_ne hab]; exact hqb) (hD.row hbN).1 (hD.row hbN).2
    (fun f hf => by simp at hf; subst hf; exact hab) (by simp; omega) (apt_none hA) rfl (by first | decide | exact idne rfl) rfl (fun b h => (hwb b h).2) (fun f hf => by simp at hf; subst hf; exact st_osl rfl rfl (by first | decide | exact idne rfl) rfl rfl rfl)
    ⟨⟨rfl, idne rfl, fun r h => by cases h; exact calm_ints _⟩, ⟨rfl, idne rfl, fun r h => by cases h; exact calm_box flb t⟩, trivial⟩ (env_EC flb (fun p hp => by simp only [List.mem_cons, List.not_mem_nil, or_false] at hp; rcases hp with rfl | rfl | rfl | rfl | rfl | rfl <;> rfl) rfl rfl (by first | decide | exact idne rfl) (by first | decide | exact idne rfl) rfl rfl (by rfl) (by rfl) (by simp only [mixO_len (show (qs.set a none).length = M.length by simp; omega), mixO_len (show ((qs.set a none).set b none).length = M.length by simp; omega)]))).bind (fun s hs => ?_)
  subst hs
  exact ent_foc (id := (1001, 0)) (ida := (1004, 0)) (fs := [(b, (1003, 0), N), (a, (1002, 0), N)]) (a := c) (n := N) (q := qc) (r := rw_ M c) (EC t xs ys N k) [((1003, 0), some ⟨3, 1, ints (rw_ M b), false⟩), ((1002, 0), some ⟨3, 1, ints (rw_ M a), false⟩), ((3, 0), some (boxC t))] rfl (.inr rfl)
    (by rw [List.getElem?_set_ne hbc, List.getElem?_set_ne hac]; exact hqc) (hD.row hc).1 (hD.row hc).2 (fun f hf => by simp at hf; rcases hf with rfl | rfl; exact hbc; exact hac) (by simp; omega) (apt_none (apt_none hA)) rfl (by first | decide | exact idne rfl) rfl (fun b h => (hwc b h).2) (fun f hf => by simp at hf; rcases hf with rfl | rfl <;> exact st_osl rfl rfl (by first | decide | exact idne rfl) rfl rfl rfl)
    ⟨⟨rfl, idne rfl, fun r h => by cases h; exact calm_ints _⟩, ⟨rfl, idne rfl, fun r h => by cases h; exact calm_ints _⟩, ⟨rfl, idne rfl, fun r h => by cases h; exact calm_box flc t⟩, trivial⟩ (env_EC flc (fun p hp => by simp only [List.mem_cons, List.not_mem_nil, or_false] at hp; rcases hp with rfl | rfl | rfl | rfl | rfl | rfl <;> rfl) rfl rfl (by first | decide | exact idne rfl) (by first | decide | exact idne rfl) rfl rfl (by rfl) (by rfl) (by simp only [mixO_len (show ((qs.set a none).set b none).length = M.length by simp; omega), mixO_len (show (((qs.set a none).set b none).set c none).length = M.length by simp; omega)]))
theorem unf3 (hok : ∀ (w0 : World) X, FlOk w0 X → ∀ b, (w0.heap.size ≤ b ∨ ∃ z, some (b, z) ∈ X) → flW b) {env : List (Nat × PV)} {mem : List (Id × Option Row)} {t : Terrain} {xs ys : List Int} {N k a b c : Nat} {qs : List Plc} {M : Mtx} {ra rb rc : List Int} {ea eb ec : List (List PV)} (hE : ∀ p ∈ EC t xs ys N k, getE env p.1 = p.2) (hb : getM mem (3, 0) = some (some (boxC t)))
    (hm : getM mem (1001, 0) = some (some ⟨24, 1, mixO 3 (((qs.set a none).set b none).set c none) M [(c, (1004, 0), N), (b, (1003, 0), N), (a, (1002, 0), N)], true⟩))
    (m2 : getM mem (1002, 0) = some (some ⟨3, 1, ea, false⟩)) (m3 : getM mem (1003, 0) = some (some ⟨3, 1, eb, false⟩)) (m4 : getM mem (1004, 0) = some (some ⟨3, 1, ec, false⟩)) (ea' : ea = ints ra) (eb' : eb = ints rb) (ec' : ec = ints rc) (la : ra.length = N) (lb : rb.length = N) (lc : rc.length = N)
    (hlM : M.length = N) (hl : qs.length = N) (hA : Apt qs) (hw : ∀ x ∈ qs, ∀ b, inQ x b → flN ≤ b ∧ flW b) (ha : a < N) (hbN : b < N) (hc : c < N) (hab : a ≠ b) (hac : a ≠ c) (hbc : b ≠ c) :
    EntN ⟨env, mem⟩ fun st' => ∃ ps, ps.length = N ∧ Apt ps ∧ (∀ x ∈ ps, ∀ b, inQ x b → flN ≤ b ∧ flW b) ∧ st' = ⟨EC t xs ys N k, ((1001, 0), some ⟨24, 1, rowM 3 ps (((M.set c rc).set b rb).set a ra), false⟩) :: [((3, 0), some (boxC t))]⟩ := by
  subst ea'
  subst eb'
  subst ec'
  have noW : ∀ b, (fun _ : Nat => False) b → flN ≤ b := fun b h => h.elim
  have hA3 : Apt (((qs.set a none).set b none).set c none) := apt_none (apt_none (apt_none hA))
  have hl3 : (((qs.set a none).set b none).set c none).length = N := by simp [hl]
  have q3a : (((qs.set a none).set b none).set c none)[a]? = some none := by rw [List.getElem?_set_ne hac.symm, List.getElem?_set_ne hab.symm, List.getElem?_set_self aO]
  have q3b : (((qs.set a none).set b none).set c none)[b]? = some none := by rw [List.getElem?_set_ne hbc.symm, List.getElem?_set_self (by simp; omega)]
  have q3c : (((qs.set a none).set b none).set c none)[c]? = some none := by rw [List.getElem?_set_self (by simp; omega)]
  have hw3 : ∀ x ∈ ((qs.set a none).set b none).set c none, ∀ b, inQ x b → flN ≤ b ∧ flW b := by
    intro x hx b hb
    rcases List.mem_or_eq_of_mem_set hx with h | h
    · rcases List.mem_or_eq_of_mem_set h with h | h
      · rcases List.mem_or_eq_of_mem_set h with h | h
        · exact hw x h b hb
        · subst h; obtain ⟨z, hz⟩ := hb; cases hz
      · subst h; obtain ⟨z, hz⟩ := hb; cases hz
    · subst h; obtain ⟨z, hz⟩ := hb; cases hz
  generalize ((qs.set a none).set b none).set c none = P at *
  refine (ent_unf (id := (1001, 0)) (ida := (1004, 0)) (fs := [(b, (1003, 0), N), (a, (1002, 0), N)]) (r := rc) true (EC t xs ys N k) [((1003, 0), some ⟨3, 1, ints rb, false⟩), ((1002, 0), some ⟨3, 1, ints ra, false⟩), ((3, 0), some (boxC t))] hm (.inr rfl) q3c m4 rfl lc
    (fun f hf => by simp at hf; rcases hf with rfl | rfl; exact hbc; exact hac) aO hA3 (fun f hf => by simp at hf; rcases hf with rfl | rfl; exact q3b; exact q3a) (by first | decide | exact idne rfl) (by first | decide | exact idne rfl) rfl hok (fun q f hf => by simp at hf; rcases hf with rfl | rfl; exact st_osl m3 rfl (by first | decide | exact idne rfl) rfl rfl rfl; exact st_osl m2 rfl (by first | decide | exact idne rfl) rfl rfl rfl)
    ⟨⟨m3, idne rfl, idne rfl, fun r h => by cases h; exact calm_ints _⟩, ⟨m2, idne rfl, idne rfl, fun r h => by cases h; exact calm_ints _⟩, ⟨hb, idne rfl, idne rfl, fun r h => by cases h; exact calm_box noW t⟩, trivial⟩
    (fun q => env_EC noW hE hb rfl (by first | decide | exact idne rfl) (by first | decide | exact idne rfl) hm rfl (by rfl) (by rfl) (by simp only [mixO_len (show P.length = M.length by omega), mixO_len (show (P.set c q).length = (M.set c rc).length by simp; omega), List.length_set]))).bind (fun s hs => ?_)
  obtain ⟨q1, w1, A1, rfl⟩ := hs
  refine (ent_unf (id := (1001, 0)) (ida := (1003, 0)) (fs := [(a, (1002, 0), N)]) (r := rb) true (EC t xs ys N k) [((1002, 0), some ⟨3, 1, ints ra, false⟩), ((3, 0), some (boxC t))] rfl (.inr rfl) (by rw [List.getElem?_set_ne hbc.symm]; exact q3b) rfl rfl lb
    (fun f hf => by simp at hf; subst hf; exact hab) (by simp; omega) A1 (fun f hf => by simp at hf; subst hf; simp only; rw [List.getElem?_set_ne hac.symm]; exact q3a) (by first | decide | exact idne rfl) (by first | decide | exact idne rfl) rfl hok (fun q f hf => by simp at hf; subst hf; exact st_osl rfl rfl (by first | decide | exact idne rfl) rfl rfl rfl)
    ⟨⟨rfl, idne rfl, idne rfl, fun r h => by cases h; exact calm_ints _⟩, ⟨rfl, idne rfl, idne rfl, fun r h => by cases h; exact calm_box noW t⟩, trivial⟩
    (fun q => env_EC noW (fun p hp => by simp only [List.mem_cons, List.not_mem_nil, or_false] at hp; rcases hp with rfl | rfl | rfl | rfl | rfl | rfl <;> rfl) rfl rfl (by first | decide | exact idne rfl) (by first | decide | exact idne rfl) rfl rfl (by rfl) (by rfl) (by simp only [mixO_len (show (P.set c q1).length = (M.set c rc).length by simp; omega), mixO_len (show ((P.set c q1).set b q).length = ((M.set c rc).set b rb).length by simp; omega), List.length_set]))).bind (fun s hs => ?_)
  obtain ⟨q2, w2, A2, rfl⟩ := hs
  refine (ent_unf (id := (1001, 0)) (ida := (1002, 0)) (fs := []) (r := ra) false (EC t xs ys N k) [((3, 0), some (boxC t))] rfl (.inl rfl) (by rw [List.getElem?_set_ne hab.symm, List.getElem?_set_ne hac.symm]; exact q3a) rfl rfl la
    (fun f hf => by cases hf) (by simp; omega) A2 (fun f hf => by cases hf) (by first | decide | exact idne rfl) (by first | decide | exact idne rfl) rfl hok (fun q f hf => by cases hf) ⟨⟨rfl, idne rfl, idne rfl, fun r h => by cases h; exact calm_box noW t⟩, trivial⟩
    (fun q => env_EC noW (fun p hp => by simp only [List.mem_cons, List.not_mem_nil, or_false] at hp; rcases hp with rfl | rfl | rfl | rfl | rfl | rfl <;> rfl) rfl rfl (by first | decide | exact idne rfl) (by first | decide | exact idne rfl) rfl rfl (by rfl) (by rfl) (by simp only [mixO_len (show ((P.set c q1).set b q2).length = ((M.set c rc).set b rb).length by simp; omega), mixO_len (show (((P.set c q1).set b q2).set a q).length = (((M.set c rc).set b rb).set a ra).length by simp; omega), List.length_set]))).imp (fun s hs => ?_)
  obtain ⟨q3, w3, A3, rfl⟩ := hs
  refine ⟨((P.set c q1).set b q2).set a q3, by simp [hl3], A3, fun x hx b hb => ?_, rfl⟩
  rcases List.mem_or_eq_of_mem_set hx with h | h
  · rcases List.mem_or_eq_of_mem_set h with h | h
    · rcases List.mem_or_eq_of_mem_set h with h | h
      · exact hw3 x h b hb
      · subst h; exact w1 b hb
    · subst h; exact w2 b hb
  · subst h; exact w3 b hb
end
theorem allL_of {α : Type} {p : α → Prop} : ∀ {l : List α}, (∀ x ∈ l, p x) → allL p l
  | [], _ => trivial
  | x :: l, h => ⟨h x List.mem_cons_self, allL_of fun y hy => h y (List.mem_cons_of_mem _ hy)⟩
theorem mix_refs {TI : TypeId} {qs : List Plc} {M : Mtx} {fs : List (Nat × Id × Nat)} {ids : List Id} (h : ∀ f ∈ fs, refsD 5 ids (.osl f.2.1 0 f.2.2) = true) : allL (fun e => allL (fun u => refsD 5 ids u = true) e) (mixO TI qs M fs) := by
  refine allL_of fun e he => allL_of fun u hu => ?_
  obtain ⟨j, hj⟩ := List.mem_iff_getElem?.1 he
  rcases mixO_inv hj with ⟨f, hf, _, rfl⟩ | ⟨_, hj⟩
  · simp only [List.mem_cons, List.not_mem_nil, or_false] at hu
    subst hu
    exact h f hf
  · obtain ⟨q, r, _, _, rfl⟩ := rowM_inv hj
    simp only [List.mem_cons, List.not_mem_nil, or_false] at hu
    subst hu
    rfl
theorem new_l9Caps [fl : Inhabited FlrT] (hok : ∀ (w0 : World) X, FlOk w0 X → ∀ b, (w0.heap.size ≤ b ∨ ∃ z, some (b, z) ∈ X) → flW b) (t : Terrain) (xs ys : List Int) (hg : GoodT t) (hx : CelT t xs) (hy : CelT t ys) (hxl : xs.length ≤ 1000000) (hyl : ys.length ≤ 1000000) (N : Nat) (hN : N = 2 * t.burn.length + 2)
    {G : Nat → Prop} {w : World} {X : List (Option (Nat × Nat))} {ρ : Id → Option (Nat × Nat)} {cargs : Array Value}
    (hF : FlOk w X) (hW : WRel G ρ w X (ioMem []) w) (hC : Comps ρ w (Stab G ρ (ioMem []) w) (ioMem []) cargs [.agg [.int .i64 t.width, .int .i64 t.height, OldL t.burn], OldL xs, OldL ys]) :
    Calls Try.prog 96 cargs w fun e w' => ∃ v r fin, e = .returned v ∧ (∃ qs, qs.length = N ∧ Apt qs ∧ (∀ q ∈ qs, ∀ b, inQ q b → flN ≤ b ∧ flW b) ∧ r = .olist 24 1 (rowM 3 qs (capM t xs ys N t.burn.length))) ∧ fin.length = ([] : List Row).length ∧
      (∀ (k : Nat) row f, ([] : List Row)[k]? = some row → fin[k]? = some f → f.length = row.es.length ∧ (row.bx = true → f = row.es)) ∧ ∀ t, t ≠ io → ∃ ρ', RetOk G true w X w' v r [] fin t ρ' := by
  refine contract_at hmix Try.func96 rfl (by kernel_rfl) (Nat.le_of_ble_eq_true rfl) (fun row h => by cases h) ?_ hF hW hC
  have hty_f26_2 := ty_f26_2
  have hty_c24 := ty_c24
  have hty_u24 := ty_u24
  have hty_s24 := ty_s24
  have hty_s104 := ty_s104
  have hty_z3 := ty_z3
  have hty_u104 := ty_u104
  have hty_a26 := ty_a26
  have hty_t3 := ty_t3
  have hty_c3 := ty_c3
  have hl2 : (ints t.burn).length = t.burn.length := by simp
  have hlen := goodT_len hg
  have hrep : List.replicate N [PV.int .i64 0] = ints (List.replicate N 0) := by simp [ints]
  repeat' (first | (refine g_exec ?_; refine g_load ?_; refine x_load_sem _ aA rfl rfl aE rfl (by first | exact semTo_Old | exact semTo_LP) ?_) | (refine pA (k := ?_)) | (refine g_exec ?_; refine x_nil (hK _ _ aI ?_); clear hK K) | (refine v_region (fun K hK => ?_)) | (refine v_condt rfl (fun h => ?_) (fun h => ?_) <;> (have h' := h; try simp only [sx] at h')))
  refine v_loopK [1, 2, 3, 7] [] (fun q : Nat × List Plc × List (List PV) => [(8, .osl (1001, 0) 0 q.1), (9, .int .i64 q.1)]) (fun q : Nat × List Plc × List (List PV) => [((1001, 0), some ⟨24, 1, q.2.2, false⟩)]) (fun q : Nat × List Plc × List (List PV) => q.1 ≤ N ∧ q.2.1.length = q.1 ∧ q.2.2 = rowM 3 q.2.1 (List.replicate q.1 (List.replicate N 0)) ∧ Apt q.2.1 ∧ ∀ x ∈ q.2.1, ∀ b, inQ x b → flN ≤ b ∧ flW b) (fun q : Nat × List Plc × List (List PV) => N - q.1) ((0, [], [])) rfl rfl (fun _ => rfl) (fun _ => rfl) rfl (by refine ⟨?_, ?_, rfl, rfl⟩ <;> (repeat' (first | exact trivial | exact ⟨rfl, rfl⟩ | exact rfl | exact ⟨sub_fn, refs_fn⟩ | refine ⟨⟨rfl, rfl⟩, ?_⟩ | refine ⟨⟨sub_fn, refs_fn⟩, ?_⟩ | refine ⟨⟨rfl, fun h => Bool.noConfusion h⟩, ?_⟩ | refine ⟨⟨rfl, fun h => ?_⟩, ?_⟩ | refine ⟨rfl, ?_⟩ | refine ⟨?_, ?_⟩ | fail))) ⟨by simp, rfl, rfl, apt_nil, fun x hx => by cases hx⟩ (fun q hq => ?_)
  obtain ⟨i, qs, es⟩ := q
  obtain ⟨h1, h2, h3, h4, h5⟩ := hq
  simp only at h1 h2 h3 h4 h5
  have hel : es.length = i := by rw [h3, rowM_len (by simp [h2])]; simp
  dsimp only
  rcases Nat.lt_or_ge i N with hlt | hge
  · repeat' (first | (refine g_exec ?_; first | (refine g_load ?_; refine x_load_sem _ aA rfl rfl aE rfl (by first | exact semTo_Old | exact semTo_LP) ?_) | (refine x_makeQ (n := N) aO aO hrep aA aA rfl rfl rfl aO rfl hok (fun q_ hq_ hw_ => ?_))) | (refine pA (k := ?_)) | (refine g_exec ?_; refine x_nil (hK _ _ aI ?_); clear hK K) | (refine v_region (fun K hK => ?_)) | (refine v_condt rfl (fun h => ?_) (fun h => ?_) <;> (have h' := h; try simp only [sx] at h')))
    all_goals try (exfalso; omega)
    have hap : ∀ q' ∈ qs, ∀ b, inQ q_ b → ¬ inQ q' b := by
      intro q' hq' b hb
      obtain ⟨j, hj⟩ := List.mem_iff_getElem?.1 hq'
      have hjl := get_lt hj
      have he : es[j]? = some [.sem (LP q' 3 (ints (List.replicate N 0)))] := by
        rw [h3]
        exact rowM_at hj (by rw [List.getElem?_replicate]; simp; omega)
      exact hq_.2 (1001, 0) _ rfl _ (get_mem he) q' _ _ List.mem_cons_self b hb
    refine q_next (i + 1, qs ++ [q_], es ++ [[.sem (LP q_ 3 (ints (List.replicate N 0)))]]) rfl (by refine ⟨?_, ?_, rfl, rfl⟩ <;> (repeat' (first | exact trivial | exact ⟨rfl, rfl⟩ | exact rfl | exact ⟨sub_fn, refs_fn⟩ | refine ⟨⟨rfl, rfl⟩, ?_⟩ | refine ⟨⟨sub_fn, refs_fn⟩, ?_⟩ | refine ⟨⟨rfl, fun h => Bool.noConfusion h⟩, ?_⟩ | refine ⟨⟨rfl, fun h => ?_⟩, ?_⟩ | refine ⟨rfl, ?_⟩ | refine ⟨?_, ?_⟩ | fail))) ⟨by simp only; omega, by simp [h2], ?_, apt_snoc h4 hap, fun x hx b hb => ?_⟩ (by simp only; omega)
    · simp only
      rw [h3, rowM_snoc (by simp [h2]), List.replicate_succ']
    · rcases List.mem_append.1 hx with h | h
      · exact h5 x h b hb
      · simp at h
        subst h
        exact ⟨hq_.1 b hb, hw_ b hb⟩
  have hiN : i = N := by omega
  subst hiN
  subst h3
  repeat' (first | (refine g_exec ?_; refine g_load ?_; refine x_load_sem _ aA rfl rfl aE rfl (by first | exact semTo_Old | exact semTo_LP) ?_) | (refine pA (k := ?_)) | (refine g_exec ?_; refine x_nil (hK _ _ aI ?_); clear hK K) | (refine v_region (fun K hK => ?_)) | (refine v_condt rfl (fun h => ?_) (fun h => ?_) <;> (have h' := h; try simp only [sx] at h')))
  all_goals try (exfalso; omega)
  refine v_loopK [1, 2, 3, 7, 8] [(1001, 0)] (fun q : Nat × List Plc => [(10, .int .i64 q.1)]) (fun q : Nat × List Plc => [((1001, 0), some ⟨24, 1, rowM 3 q.2 (capM t xs ys i q.1), false⟩)]) (fun q : Nat × List Plc => q.1 ≤ t.burn.length ∧ q.2.length = i ∧ Apt q.2 ∧ ∀ x ∈ q.2, ∀ b, inQ x b → flN ≤ b ∧ flW b) (fun q : Nat × List Plc => t.burn.length - q.1) ((0, qs)) rfl rfl (fun _ => rfl) (fun _ => rfl) rfl (by refine ⟨?_, ?_, rfl, rfl⟩ <;> (repeat' (first | exact trivial | exact ⟨rfl, rfl⟩ | exact rfl | exact ⟨sub_fn, refs_fn⟩ | refine ⟨⟨rfl, rfl⟩, ?_⟩ | refine ⟨⟨sub_fn, refs_fn⟩, ?_⟩ | refine ⟨⟨rfl, fun h => Bool.noConfusion h⟩, ?_⟩ | refine ⟨⟨rfl, fun h => ?_⟩, ?_⟩ | refine ⟨rfl, ?_⟩ | refine ⟨?_, ?_⟩ | fail))) ⟨by simp, h2, h4, h5⟩ (fun q hq => ?_)
  clear h2 h4 h5 hel h1 hge
  obtain ⟨k, ps⟩ := q
  obtain ⟨g1, g2, g3, g4⟩ := hq
  simp only at g1 g2 g3 g4
  dsimp only
  rcases Nat.lt_or_ge k t.burn.length with hlt | hge
  · have hca : IsCell t (k : Int) := ⟨by omega, by omega⟩
    have kF := k_l9Free t xs ys k hg hca hxl hyl
    cases hf : freB t xs ys k with
    | false =>
      rw [hf] at kF
      have hX : capM t xs ys i (k + 1) = capM t xs ys i k := by show capX t xs ys _ k = _; unfold capX; rw [hf]; rfl
      repeat' (first | (refine g_exec ?_; refine g_load ?_; refine x_load_sem _ aA rfl rfl aE rfl (by first | exact semTo_Old | exact semTo_LP) ?_) | (refine pA (k := ?_)) | (refine g_exec ?_; first | (refine g_call ?_; refine x_callG true (kF) rfl rfl rfl (by (repeat' (first | exact semTo_Old | exact semTo_TreeS | exact trivial | exact rfl | exact allR_ptrs _ | exact .inl rfl | exact sn_all rfl rfl rfl | exact sn_all rfl rfl (by first | omega | (simp; done) | fail) | exact sn_part rfl rfl (by first | (simp; done) | exact (takeAll aA).symm | exact (takeAll (by first | (simp; done) | omega | fail)).symm | (first | (simp only [lx, Nat.reduceAdd]; first | done | rfl) | fail) | fail) | refine sn_own rfl rfl rfl ?_ | exact List.length_map .. | refine ⟨?_, ?_⟩)); first | done | fail) rfl aH ?_; simp only [cl]) | (refine x_nil (hK _ _ aI ?_); clear hK K)) | (refine v_region (fun K hK => ?_)) | (refine v_condt rfl (fun h => ?_) (fun h => ?_) <;> (have h' := h; try simp only [sx] at h')))
      all_goals first
        | (exfalso; omega)
        | (rw [← hX]; refine q_next (k + 1, ps) rfl (by refine ⟨?_, ?_, rfl, rfl⟩ <;> (repeat' (first | exact trivial | exact ⟨rfl, rfl⟩ | exact rfl | exact ⟨sub_fn, refs_fn⟩ | refine ⟨⟨rfl, rfl⟩, ?_⟩ | refine ⟨⟨sub_fn, refs_fn⟩, ?_⟩ | refine ⟨⟨rfl, fun h => Bool.noConfusion h⟩, ?_⟩ | refine ⟨⟨rfl, fun h => ?_⟩, ?_⟩ | refine ⟨rfl, ?_⟩ | refine ⟨?_, ?_⟩ | fail))) ⟨by simp only; omega, g2, g3, g4⟩ (by simp only; omega))
    | true =>
      rw [hf] at kF
      have hZ := capM_zo (xs := xs) (ys := ys) hN k g1
      generalize hM : capM t xs ys i k = M at *
      repeat' (first | (refine g_exec ?_; refine g_load ?_; refine x_load_sem _ aA rfl rfl aE rfl (by first | exact semTo_Old | exact semTo_LP) ?_) | (refine pB (k := ?_)) | (refine v_seqN 11 rfl ?_) | (refine g_exec ?_; first | (refine g_call ?_; refine x_callG true (kF) rfl rfl rfl (by (repeat' (first | exact semTo_Old | exact semTo_TreeS | exact trivial | exact rfl | exact allR_ptrs _ | exact .inl rfl | exact sn_all rfl rfl rfl | exact sn_all rfl rfl (by first | omega | (simp; done) | fail) | exact sn_part rfl rfl (by first | (simp; done) | exact (takeAll aA).symm | exact (takeAll (by first | (simp; done) | omega | fail)).symm | (first | (simp only [lx, Nat.reduceAdd]; first | done | rfl) | fail) | fail) | refine sn_own rfl rfl rfl ?_ | exact List.length_map .. | refine ⟨?_, ?_⟩)); first | done | fail) rfl aH ?_; simp only [cl]) | (refine x_nil (hK _ _ aI ?_); clear hK K)) | (refine v_region (fun K hK => ?_)) | (refine v_condt rfl (fun h => ?_) (fun h => ?_) <;> (have h' := h; try simp only [sx] at h')))
      all_goals try (exfalso; omega)
      have hD : Dim i M := ⟨hZ.1, fun r hr => (hZ.2 r hr).1⟩
      refine v_seqE _ (foc3 (t := t) (xs := xs) (ys := ys) (N := i) (k := k) (a := 2 * k) (b := 2 * k + 1) (c := 2 * t.burn.length) (qs := ps) (M := M) (fun p hp => by simp only [List.mem_cons, List.not_mem_nil, or_false] at hp; rcases hp with rfl | rfl | rfl | rfl | rfl | rfl <;> rfl) rfl rfl rfl rfl rfl hD g2 g3 g4 aO aO aO aO aO aO) rfl (fun s hs => ?_)
      subst hs
      obtain ⟨ya, hya⟩ := get_ex (show 2 * k + 1 < (rw_ M (2 * k)).length by rw [(hD.row (show 2 * k < i by omega)).2]; omega)
      obtain ⟨yc, hyc⟩ := get_ex (show 2 * k < (rw_ M (2 * t.burn.length)).length by rw [(hD.row (show 2 * t.burn.length < i by omega)).2]; omega)
      obtain ⟨yb, hyb⟩ := get_ex (show 2 * t.burn.length + 1 < (rw_ M (2 * k + 1)).length by rw [(hD.row (show 2 * k + 1 < i by omega)).2]; omega)
      have sA := ints_at hya
      have sC := ints_at hyc
      have sB := ints_at hyb
      have iA : (2 * (k : Int)).toNat = 2 * k := by omega
      have iB : (2 * (k : Int) + 1).toNat = 2 * k + 1 := by omega
      have iC : (2 * (((ints t.burn).length : Nat) : Int)).toNat = 2 * t.burn.length := by omega
      have iD : (2 * (((ints t.burn).length : Nat) : Int) + 1).toNat = 2 * t.burn.length + 1 := by omega
      have eA : (ints (rw_ M (2 * k))).set (2 * (k : Int) + 1).toNat [.int .i64 1] = ints (capA1 M k) := by rw [iB, ints_setF]; rfl
      have lA : (capA1 M k).length = i := by unfold capA1; rw [List.length_set, (hD.row (show 2 * k < i by omega)).2]
      have lC : (capC1 t xs M k).length = i := by unfold capC1; split <;> simp [(hD.row (show 2 * t.burn.length < i by omega)).2]
      have lB0 : (capB0 t ys M k).length = i := by unfold capB0; split <;> simp [(hD.row (show 2 * k + 1 < i by omega)).2]
      have lB : ∀ l, (capN t xs ys l (capB0 t ys M k)).length = i := by
        intro l
        rw [← lB0]
        generalize capB0 t ys M k = r
        unfold capN
        induction l generalizing r with
        | nil => rfl
        | cons c l ih => simp only [List.foldl_cons]; rw [ih]; split <;> simp
      rw [← iB] at sA
      rw [← iA] at sC
      rw [← iD] at sB
      have kT1 := k_l9Touch t k xs hg hca hxl
      have kT2 := k_l9Touch t k ys hg hca hyl
      have kNr := k_l2Near t k hg hca
      have hX : capM t xs ys i (k + 1) = ((M.set (2 * t.burn.length) (capC1 t xs M k)).set (2 * k + 1) (capN t xs ys (nears t k) (capB0 t ys M k))).set (2 * k) (capA1 M k) := by
        show capX t xs ys (capM t xs ys i k) k = _
        rw [hM]
        unfold capX
        rw [if_pos hf]
      have oA : ∀ P, P.length = i → (mixO 3 P M [(2 * t.burn.length, (1004, 0), i), (2 * k + 1, (1003, 0), i), (2 * k, (1002, 0), i)])[(2 * (k : Int)).toNat]? = some [.osl (1002, 0) 0 i] := by
        intro P hP
        have hl0 : (rowM 3 P M).length = i := by rw [rowM_len (by rw [hP, hD.1])]; exact hD.1
        simp only [mixO, iA]
        rw [List.getElem?_set_ne aO, List.getElem?_set_ne aO, List.getElem?_set_self aO]
      have oB : ∀ P, P.length = i → (mixO 3 P M [(2 * t.burn.length, (1004, 0), i), (2 * k + 1, (1003, 0), i), (2 * k, (1002, 0), i)])[(2 * (k : Int) + 1).toNat]? = some [.osl (1003, 0) 0 i] := by
        intro P hP
        have hl0 : (rowM 3 P M).length = i := by rw [rowM_len (by rw [hP, hD.1])]; exact hD.1
        simp only [mixO, iB]
        rw [List.getElem?_set_ne aO, List.getElem?_set_self (by simp; omega)]
      have oC : ∀ P, P.length = i → (mixO 3 P M [(2 * t.burn.length, (1004, 0), i), (2 * k + 1, (1003, 0), i), (2 * k, (1002, 0), i)])[(2 * (((ints t.burn).length : Nat) : Int)).toNat]? = some [.osl (1004, 0) 0 i] := by
        intro P hP
        have hl0 : (rowM 3 P M).length = i := by rw [rowM_len (by rw [hP, hD.1])]; exact hD.1
        simp only [mixO, iC]
        rw [List.getElem?_set_self (by simp; omega)]
      have oA := oA (((ps.set (2 * k) none).set (2 * k + 1) none).set (2 * t.burn.length) none) (by simp [g2])
      have oB := oB (((ps.set (2 * k) none).set (2 * k + 1) none).set (2 * t.burn.length) none) (by simp [g2])
      have oC := oC (((ps.set (2 * k) none).set (2 * k + 1) none).set (2 * t.burn.length) none) (by simp [g2])
      have eC : (if tchB t k xs = true then (ints (rw_ M (2 * t.burn.length))).set (2 * (k : Int)).toNat [.int .i64 1] else ints (rw_ M (2 * t.burn.length))) = ints (capC1 t xs M k) := by
        unfold capC1
        split
        · rw [iA, ints_setF]
        · rfl
      have eB : (if tchB t k ys = true then (ints (rw_ M (2 * k + 1))).set (2 * (((ints t.burn).length : Nat) : Int) + 1).toNat [.int .i64 1] else ints (rw_ M (2 * k + 1))) = ints (capB0 t ys M k) := by
        unfold capB0
        split
        · rw [iD, ints_setF]
        · rfl
      have hnl : (ints (nears t k)).length = (nears t k).length := by simp
      have hnl2 := nears_len t k
      repeat' (first | (refine g_exec ?_; refine g_load ?_; refine x_load_sem _ aA rfl rfl aE rfl (by first | exact semTo_Old | exact semTo_LP) ?_) | (refine pB (k := ?_)) | (refine v_seqN 3000012 rfl ?_) | (refine g_exec ?_; refine x_nil (hK _ _ aI ?_); clear hK K) | (refine v_region (fun K hK => ?_)) | (refine v_condt rfl (fun h => ?_) (fun h => ?_) <;> (have h' := h; try simp only [sx] at h')))
      all_goals try (exfalso; omega)
      refine v_cutE (fun _ : Unit => (⟨EC t xs ys i k, [((1004, 0), some ⟨3, 1, ints (capC1 t xs M k), false⟩), ((1003, 0), some ⟨3, 1, ints (rw_ M (2 * k + 1)), false⟩), ((1002, 0), some ⟨3, 1, ints (capA1 M k), false⟩), ((1001, 0), some ⟨24, 1, mixO 3 (((ps.set (2 * k) none).set (2 * k + 1) none).set (2 * t.burn.length) none) M [(2 * t.burn.length, (1004, 0), i), (2 * k + 1, (1003, 0), i), (2 * k, (1002, 0), i)], true⟩), ((3, 0), some (boxC t))]⟩ : St)) (fun _ => True) ?_ (fun _ _ => ?_)
      · clear eB
        generalize h1 : tchB t k xs = b1 at kT1 eC
        cases b1 <;> simp only [Bool.false_eq_true, if_false, if_true] at eC
        all_goals
          repeat' (first | (refine g_exec ?_; refine g_load ?_; refine x_load_sem _ aA rfl rfl aE rfl (by first | exact semTo_Old | exact semTo_LP) ?_) | (refine pA (k := ?_)) | (refine g_exec ?_; first | (refine g_call ?_; refine x_callG true (kT1) rfl rfl rfl (by (repeat' (first | exact semTo_Old | exact semTo_TreeS | exact trivial | exact rfl | exact allR_ptrs _ | exact .inl rfl | exact sn_all rfl rfl rfl | exact sn_all rfl rfl (by first | omega | (simp; done) | fail) | exact sn_part rfl rfl (by first | (simp; done) | exact (takeAll aA).symm | exact (takeAll (by first | (simp; done) | omega | fail)).symm | (first | (simp only [lx, Nat.reduceAdd]; first | done | rfl) | fail) | fail) | refine sn_own rfl rfl rfl ?_ | exact List.length_map .. | refine ⟨?_, ?_⟩)); first | done | fail) rfl aH ?_; simp only [cl]) | (refine x_nil (hK _ _ aI ?_); clear hK K)) | (refine v_region (fun K hK => ?_)) | (refine v_condt rfl (fun h => ?_) (fun h => ?_) <;> (have h' := h; try simp only [sx] at h')))
          all_goals first
            | (exfalso; omega)
            | (refine q_loopE () (Weaker.ent ?_) trivial (by decide)
               refine ⟨?_, ?_⟩ <;> (repeat' (first | exact trivial | exact ⟨rfl, rfl⟩ | refine ⟨⟨rfl, rfl⟩, ?_⟩ | refine ⟨⟨rfl, fun h => Bool.noConfusion h⟩, ?_⟩ | refine ⟨⟨rfl, fun _ => mix_refs (fun f hf => by simp only [List.mem_cons, List.not_mem_nil, or_false] at hf; rcases hf with rfl | rfl | rfl <;> rfl)⟩, ?_⟩ | refine ⟨⟨rfl, fun _ => ⟨⟨rfl, rfl, rfl, trivial⟩, trivial⟩⟩, ?_⟩ | refine ⟨⟨congrArg (fun es => some (some (Row.mk 3 1 es false))) eA, fun h => Bool.noConfusion h⟩, ?_⟩ | refine ⟨⟨congrArg (fun es => some (some (Row.mk 3 1 es false))) eB, fun h => Bool.noConfusion h⟩, ?_⟩ | refine ⟨⟨congrArg (fun es => some (some (Row.mk 3 1 es false))) eC, fun h => Bool.noConfusion h⟩, ?_⟩ | refine ⟨⟨congrArg (fun es => some (some (Row.mk 3 1 es false))) eN, fun h => Bool.noConfusion h⟩, ?_⟩ | fail)))
      clear eC kT1 sC
      refine v_cutE (fun _ : Unit => (⟨EC t xs ys i k, [((1004, 0), some ⟨3, 1, ints (capC1 t xs M k), false⟩), ((1003, 0), some ⟨3, 1, ints (capB0 t ys M k), false⟩), ((1002, 0), some ⟨3, 1, ints (capA1 M k), false⟩), ((1001, 0), some ⟨24, 1, mixO 3 (((ps.set (2 * k) none).set (2 * k + 1) none).set (2 * t.burn.length) none) M [(2 * t.burn.length, (1004, 0), i), (2 * k + 1, (1003, 0), i), (2 * k, (1002, 0), i)], true⟩), ((3, 0), some (boxC t))]⟩ : St)) (fun _ => True) ?_ (fun _ _ => ?_)
      · generalize h2 : tchB t k ys = b2 at kT2 eB
        cases b2 <;> simp only [Bool.false_eq_true, if_false, if_true] at eB
        all_goals
          repeat' (first | (refine g_exec ?_; refine g_load ?_; refine x_load_sem _ aA rfl rfl aE rfl (by first | exact semTo_Old | exact semTo_LP) ?_) | (refine pA (k := ?_)) | (refine g_exec ?_; first | (refine g_call ?_; refine x_callG true (kT2) rfl rfl rfl (by (repeat' (first | exact semTo_Old | exact semTo_TreeS | exact trivial | exact rfl | exact allR_ptrs _ | exact .inl rfl | exact sn_all rfl rfl rfl | exact sn_all rfl rfl (by first | omega | (simp; done) | fail) | exact sn_part rfl rfl (by first | (simp; done) | exact (takeAll aA).symm | exact (takeAll (by first | (simp; done) | omega | fail)).symm | (first | (simp only [lx, Nat.reduceAdd]; first | done | rfl) | fail) | fail) | refine sn_own rfl rfl rfl ?_ | exact List.length_map .. | refine ⟨?_, ?_⟩)); first | done | fail) rfl aH ?_; simp only [cl]) | (refine x_nil (hK _ _ aI ?_); clear hK K)) | (refine v_region (fun K hK => ?_)) | (refine v_condt rfl (fun h => ?_) (fun h => ?_) <;> (have h' := h; try simp only [sx] at h')))
          all_goals first
            | (exfalso; omega)
            | (refine q_loopE () (Weaker.ent ?_) trivial (by decide)
               refine ⟨?_, ?_⟩ <;> (repeat' (first | exact trivial | exact ⟨rfl, rfl⟩ | refine ⟨⟨rfl, rfl⟩, ?_⟩ | refine ⟨⟨rfl, fun h => Bool.noConfusion h⟩, ?_⟩ | refine ⟨⟨rfl, fun _ => mix_refs (fun f hf => by simp only [List.mem_cons, List.not_mem_nil, or_false] at hf; rcases hf with rfl | rfl | rfl <;> rfl)⟩, ?_⟩ | refine ⟨⟨rfl, fun _ => ⟨⟨rfl, rfl, rfl, trivial⟩, trivial⟩⟩, ?_⟩ | refine ⟨⟨congrArg (fun es => some (some (Row.mk 3 1 es false))) eA, fun h => Bool.noConfusion h⟩, ?_⟩ | refine ⟨⟨congrArg (fun es => some (some (Row.mk 3 1 es false))) eB, fun h => Bool.noConfusion h⟩, ?_⟩ | refine ⟨⟨congrArg (fun es => some (some (Row.mk 3 1 es false))) eC, fun h => Bool.noConfusion h⟩, ?_⟩ | refine ⟨⟨congrArg (fun es => some (some (Row.mk 3 1 es false))) eN, fun h => Bool.noConfusion h⟩, ?_⟩ | fail)))
      clear eB kT2 sB eA sA
      repeat' (first | (refine g_exec ?_; refine g_load ?_; refine x_load_sem _ aA rfl rfl aE rfl (by first | exact semTo_Old | exact semTo_LP) ?_) | (refine pA (k := ?_)) | (refine g_exec ?_; first | (refine g_call ?_; refine x_callG true (kNr) rfl rfl rfl (by (repeat' (first | exact semTo_Old | exact semTo_TreeS | exact trivial | exact rfl | exact allR_ptrs _ | exact .inl rfl | exact sn_all rfl rfl rfl | exact sn_all rfl rfl (by first | omega | (simp; done) | fail) | exact sn_part rfl rfl (by first | (simp; done) | exact (takeAll aA).symm | exact (takeAll (by first | (simp; done) | omega | fail)).symm | (first | (simp only [lx, Nat.reduceAdd]; first | done | rfl) | fail) | fail) | refine sn_own rfl rfl rfl ?_ | exact List.length_map .. | refine ⟨?_, ?_⟩)); first | done | fail) rfl aH ?_; simp only [cl]) | (refine x_nil (hK _ _ aI ?_); clear hK K)) | (refine v_region (fun K hK => ?_)) | (refine v_condt rfl (fun h => ?_) (fun h => ?_) <;> (have h' := h; try simp only [sx] at h')))
      all_goals try (exfalso; omega)
      refine v_loopE (fun q : Nat => (⟨[(12, .int .i64 (q : Nat)), (11, .osl (79, 0) 0 (ints (nears t k)).length), (1, OldL xs), (2, OldL ys), (3, .own (3, 0) 0 0), (7, .int .i64 ((ints t.burn).length : Nat)), (8, .osl (1001, 0) 0 i), (10, .int .i64 (k : Nat))],
        [((1003, 0), some ⟨3, 1, ints (capN t xs ys ((nears t k).take q) (capB0 t ys M k)), false⟩), ((79, 0), some ⟨3, 1, ints (nears t k), false⟩), ((1004, 0), some ⟨3, 1, ints (capC1 t xs M k), false⟩), ((1002, 0), some ⟨3, 1, ints (capA1 M k), false⟩),
          ((1001, 0), some ⟨24, 1, mixO 3 (((ps.set (2 * k) none).set (2 * k + 1) none).set (2 * t.burn.length) none) M [(2 * t.burn.length, (1004, 0), i), (2 * k + 1, (1003, 0), i), (2 * k, (1002, 0), i)], true⟩), ((3, 0), some (boxC t))]⟩ : St)) (fun q => q ≤ (nears t k).length) (fun q => (nears t k).length - q) 0 (Weaker.ent ?_) (Nat.zero_le _) (fun q hq => ?_)
      · refine ⟨?_, ?_⟩ <;> (repeat' (first | exact trivial | exact ⟨rfl, rfl⟩ | refine ⟨⟨rfl, rfl⟩, ?_⟩ | refine ⟨⟨rfl, fun h => Bool.noConfusion h⟩, ?_⟩ | refine ⟨⟨rfl, fun _ => mix_refs (fun f hf => by simp only [List.mem_cons, List.not_mem_nil, or_false] at hf; rcases hf with rfl | rfl | rfl <;> rfl)⟩, ?_⟩ | refine ⟨⟨rfl, fun _ => ⟨⟨rfl, rfl, rfl, trivial⟩, trivial⟩⟩, ?_⟩ | refine ⟨⟨congrArg (fun es => some (some (Row.mk 3 1 es false))) eA, fun h => Bool.noConfusion h⟩, ?_⟩ | refine ⟨⟨congrArg (fun es => some (some (Row.mk 3 1 es false))) eB, fun h => Bool.noConfusion h⟩, ?_⟩ | refine ⟨⟨congrArg (fun es => some (some (Row.mk 3 1 es false))) eC, fun h => Bool.noConfusion h⟩, ?_⟩ | refine ⟨⟨congrArg (fun es => some (some (Row.mk 3 1 es false))) eN, fun h => Bool.noConfusion h⟩, ?_⟩ | fail))
      rcases Nat.lt_or_ge q (nears t k).length with hql | hqg
      · obtain ⟨c, hgc⟩ := get_ex hql
        have hxc := ints_at hgc
        have hcc := (nears_mem.1 (get_mem hgc)).1
        have hcc2 := hcc
        unfold IsCell at hcc2
        have kG := k_l9Free t xs ys c hg hcc hxl hyl
        obtain ⟨y, hy⟩ := get_ex (show (2 * c).toNat < (capN t xs ys ((nears t k).take q) (capB0 t ys M k)).length by rw [lB]; omega)
        have sY := ints_at hy
        cases hfc : freB t xs ys c with
        | false =>
          rw [hfc] at kG
          have eN : ints (capN t xs ys ((nears t k).take q) (capB0 t ys M k)) = ints (capN t xs ys ((nears t k).take (q + 1)) (capB0 t ys M k)) := by rw [take_succ hgc, capN_snoc, if_neg (by rw [hfc]; exact Bool.false_ne_true)]
          repeat' (first | (refine g_exec ?_; refine g_load ?_; refine x_load_sem _ aA rfl rfl aE rfl (by first | exact semTo_Old | exact semTo_LP) ?_) | (refine pA (k := ?_)) | (refine g_exec ?_; first | (refine g_call ?_; refine x_callG true (kG) rfl rfl rfl (by (repeat' (first | exact semTo_Old | exact semTo_TreeS | exact trivial | exact rfl | exact allR_ptrs _ | exact .inl rfl | exact sn_all rfl rfl rfl | exact sn_all rfl rfl (by first | omega | (simp; done) | fail) | exact sn_part rfl rfl (by first | (simp; done) | exact (takeAll aA).symm | exact (takeAll (by first | (simp; done) | omega | fail)).symm | (first | (simp only [lx, Nat.reduceAdd]; first | done | rfl) | fail) | fail) | refine sn_own rfl rfl rfl ?_ | exact List.length_map .. | refine ⟨?_, ?_⟩)); first | done | fail) rfl aH ?_; simp only [cl]) | (refine x_nil (hK _ _ aI ?_); clear hK K)) | (refine v_region (fun K hK => ?_)) | (refine v_condt rfl (fun h => ?_) (fun h => ?_) <;> (have h' := h; try simp only [sx] at h')))
          all_goals first
            | (exfalso; omega)
            | (refine q_loopE (q + 1) (Weaker.ent ?_) aO aO
               refine ⟨?_, ?_⟩ <;> (repeat' (first | exact trivial | exact ⟨rfl, rfl⟩ | refine ⟨⟨rfl, rfl⟩, ?_⟩ | refine ⟨⟨rfl, fun h => Bool.noConfusion h⟩, ?_⟩ | refine ⟨⟨rfl, fun _ => mix_refs (fun f hf => by simp only [List.mem_cons, List.not_mem_nil, or_false] at hf; rcases hf with rfl | rfl | rfl <;> rfl)⟩, ?_⟩ | refine ⟨⟨rfl, fun _ => ⟨⟨rfl, rfl, rfl, trivial⟩, trivial⟩⟩, ?_⟩ | refine ⟨⟨congrArg (fun es => some (some (Row.mk 3 1 es false))) eA, fun h => Bool.noConfusion h⟩, ?_⟩ | refine ⟨⟨congrArg (fun es => some (some (Row.mk 3 1 es false))) eB, fun h => Bool.noConfusion h⟩, ?_⟩ | refine ⟨⟨congrArg (fun es => some (some (Row.mk 3 1 es false))) eC, fun h => Bool.noConfusion h⟩, ?_⟩ | refine ⟨⟨congrArg (fun es => some (some (Row.mk 3 1 es false))) eN, fun h => Bool.noConfusion h⟩, ?_⟩ | fail)))
        | true =>
          rw [hfc] at kG
          have eN : (ints (capN t xs ys ((nears t k).take q) (capB0 t ys M k))).set (2 * c).toNat [.int .i64 1] = ints (capN t xs ys ((nears t k).take (q + 1)) (capB0 t ys M k)) := by rw [take_succ hgc, capN_snoc, if_pos hfc, ints_setF]
          repeat' (first | (refine g_exec ?_; refine g_load ?_; refine x_load_sem _ aA rfl rfl aE rfl (by first | exact semTo_Old | exact semTo_LP) ?_) | (refine pA (k := ?_)) | (refine g_exec ?_; first | (refine g_call ?_; refine x_callG true (kG) rfl rfl rfl (by (repeat' (first | exact semTo_Old | exact semTo_TreeS | exact trivial | exact rfl | exact allR_ptrs _ | exact .inl rfl | exact sn_all rfl rfl rfl | exact sn_all rfl rfl (by first | omega | (simp; done) | fail) | exact sn_part rfl rfl (by first | (simp; done) | exact (takeAll aA).symm | exact (takeAll (by first | (simp; done) | omega | fail)).symm | (first | (simp only [lx, Nat.reduceAdd]; first | done | rfl) | fail) | fail) | refine sn_own rfl rfl rfl ?_ | exact List.length_map .. | refine ⟨?_, ?_⟩)); first | done | fail) rfl aH ?_; simp only [cl]) | (refine x_nil (hK _ _ aI ?_); clear hK K)) | (refine v_region (fun K hK => ?_)) | (refine v_condt rfl (fun h => ?_) (fun h => ?_) <;> (have h' := h; try simp only [sx] at h')))
          all_goals first
            | (exfalso; omega)
            | (refine q_loopE (q + 1) (Weaker.ent ?_) aO aO
               refine ⟨?_, ?_⟩ <;> (repeat' (first | exact trivial | exact ⟨rfl, rfl⟩ | refine ⟨⟨rfl, rfl⟩, ?_⟩ | refine ⟨⟨rfl, fun h => Bool.noConfusion h⟩, ?_⟩ | refine ⟨⟨rfl, fun _ => mix_refs (fun f hf => by simp only [List.mem_cons, List.not_mem_nil, or_false] at hf; rcases hf with rfl | rfl | rfl <;> rfl)⟩, ?_⟩ | refine ⟨⟨rfl, fun _ => ⟨⟨rfl, rfl, rfl, trivial⟩, trivial⟩⟩, ?_⟩ | refine ⟨⟨congrArg (fun es => some (some (Row.mk 3 1 es false))) eA, fun h => Bool.noConfusion h⟩, ?_⟩ | refine ⟨⟨congrArg (fun es => some (some (Row.mk 3 1 es false))) eB, fun h => Bool.noConfusion h⟩, ?_⟩ | refine ⟨⟨congrArg (fun es => some (some (Row.mk 3 1 es false))) eC, fun h => Bool.noConfusion h⟩, ?_⟩ | refine ⟨⟨congrArg (fun es => some (some (Row.mk 3 1 es false))) eN, fun h => Bool.noConfusion h⟩, ?_⟩ | fail)))
      · have hqe : q = (nears t k).length := by omega
        subst hqe
        repeat' (first | (refine g_exec ?_; refine g_load ?_; refine x_load_sem _ aA rfl rfl aE rfl (by first | exact semTo_Old | exact semTo_LP) ?_) | (refine pB (k := ?_)) | (refine v_seqN 9 rfl ?_) | (refine g_exec ?_; refine x_nil (hK _ _ aI ?_); clear hK K) | (refine v_regionN 9 rfl (fun K hK => ?_)) | (refine v_condt rfl (fun h => ?_) (fun h => ?_) <;> (have h' := h; try simp only [sx] at h')))
        all_goals try (exfalso; omega)
        refine v_regE _ (unf3 hok (t := t) (xs := xs) (ys := ys) (N := i) (k := k) (a := 2 * k) (b := 2 * k + 1) (c := 2 * t.burn.length) (qs := ps) (M := M) (ra := capA1 M k) (rb := capN t xs ys ((nears t k).take (nears t k).length) (capB0 t ys M k)) (rc := capC1 t xs M k) (fun p hp => by simp only [List.mem_cons, List.not_mem_nil, or_false] at hp; rcases hp with rfl | rfl | rfl | rfl | rfl | rfl <;> rfl) rfl rfl rfl rfl rfl rfl rfl rfl lA (lB _) lC hD.1 g2 g3 g4 aO aO aO aO aO aO) rfl (fun s hs => ?_)
        obtain ⟨ps', p1, p2, p3, rfl⟩ := hs
        rw [List.take_length, ← hX]
        repeat' (first | (refine g_exec ?_; refine g_load ?_; refine x_load_sem _ aA rfl rfl aE rfl (by first | exact semTo_Old | exact semTo_LP) ?_) | (refine pA (k := ?_)) | (refine g_exec ?_; refine x_nil (hK _ _ aI ?_); clear hK K) | (refine v_region (fun K hK => ?_)) | (refine v_condt rfl (fun h => ?_) (fun h => ?_) <;> (have h' := h; try simp only [sx] at h')))
        refine q_next (k + 1, ps') rfl (by refine ⟨?_, ?_, rfl, rfl⟩ <;> (repeat' (first | exact trivial | exact ⟨rfl, rfl⟩ | exact rfl | exact ⟨sub_fn, refs_fn⟩ | refine ⟨⟨rfl, rfl⟩, ?_⟩ | refine ⟨⟨sub_fn, refs_fn⟩, ?_⟩ | refine ⟨⟨rfl, fun h => Bool.noConfusion h⟩, ?_⟩ | refine ⟨⟨rfl, fun h => ?_⟩, ?_⟩ | refine ⟨rfl, ?_⟩ | refine ⟨?_, ?_⟩ | fail))) ⟨by simp only; omega, p1, p2, p3⟩ (by simp only; omega)
  · have hke : k = t.burn.length := by omega
    subst hke
    have hZ := capM_zo (xs := xs) (ys := ys) hN t.burn.length (Nat.le_refl _)
    repeat' (first | (refine g_exec ?_; refine g_load ?_; refine x_load_sem _ aA rfl rfl aE rfl (by first | exact semTo_Old | exact semTo_LP) ?_) | (refine pA (k := ?_)) | (refine g_exec ?_; refine x_nil (hK _ _ aI ?_); clear hK K) | (refine v_region (fun K hK => ?_)) | (refine v_condt rfl (fun h => ?_) (fun h => ?_) <;> (have h' := h; try simp only [sx] at h')))
    exact RetPost.mono (fun r fin h => ⟨ps, g2, g3, g4, h.1⟩) (ret_listA rfl (lookE_ok (by rfl)) (by rfl) (by decide) (by rw [rowM_len (by rw [g2, hZ.1]), hZ.1]) rfl)
end Go.Vs
set_option linter.unusedVariables false
set_option linter.unusedSimpArgs false
set_option linter.unusedSectionVars false
set_option maxRecDepth 100000
set_option maxHeartbeats 4000000
namespace Go.Vs
open Go.Proofs
attribute [local irreducible] exec vwp thenQ blkQ loopQ RetPost
section
variable [fl : Inhabited FlrT]
@[reducible] def EP (n : Nat) (b : Int) : List (Nat × PV) := [(0, .osl (io, 0) 0 n), (3, .int .i64 (n : Nat)), (4, .osl (1001, 0) 0 n), (9, .int .i64 b)]
@[reducible] def rowF (f : List Int) : Row := ⟨3, 1, ints f, false⟩
theorem env_EP {W : Nat → Prop} {env : List (Nat × PV)} {mem mem' : List (Id × Option Row)} {ida : Id} {n : Nat} {b : Int} {f : List Int} {r r' : Row} (hE : ∀ p ∈ EP n b, getE env p.1 = p.2)
    (hb : getM mem (1001, 0) = some (some (rowF f))) (hb' : getM mem' (1001, 0) = some (some (rowF f))) (hne : ida ≠ (1001, 0)) (hne1 : ida ≠ (io, 0)) (hm : getM mem (io, 0) = some (some r)) (hm' : getM mem' (io, 0) = some (some r')) (h1 : r'.ty = r.ty) (h2 : r'.sz = r.sz) (h3 : r'.es.length = r.es.length) :
    allL (fun p : Nat × PV => getE env p.1 = p.2 ∧ Stays W mem' ida mem p.2) (EP n b) :=
  ⟨⟨hE (0, _) (by simp), st_osl hm hm' hne1.symm h1 h2 h3⟩, ⟨hE (3, _) (by simp), .inl (.inl rfl)⟩, ⟨hE (4, _) (by simp), st_osl hb hb' hne.symm rfl rfl rfl⟩, ⟨hE (9, _) (by simp), .inl (.inl rfl)⟩, trivial⟩
theorem foc2 {env : List (Nat × PV)} {mem : List (Id × Option Row)} {n a b : Nat} {x : Int} {f : List Int} {qs : List Plc} {M : Mtx} (hE : ∀ p ∈ EP n x, getE env p.1 = p.2) (hb : getM mem (1001, 0) = some (some (rowF f)))
    (hm : getM mem (io, 0) = some (some ⟨24, 1, rowM 3 qs M, false⟩)) (f2 : getM mem (1003, 0) = none) (f3 : getM mem (1004, 0) = none)
    (hD : Dim n M) (hl : qs.length = n) (hA : Apt qs) (hw : ∀ x ∈ qs, ∀ b, inQ x b → flN ≤ b ∧ flW b) (ha : a < n) (hbN : b < n) (hab : a ≠ b) :
    EntN ⟨env, mem⟩ (· = ⟨EP n x, ((1004, 0), some ⟨3, 1, ints (rw_ M b), false⟩) :: ((io, 0), some ⟨24, 1, mixO 3 ((qs.set a none).set b none) M [(b, (1004, 0), n), (a, (1003, 0), n)], true⟩) ::
      [((1003, 0), some ⟨3, 1, ints (rw_ M a), false⟩), ((1001, 0), some (rowF f))]⟩) := by
  obtain ⟨qa, hqa⟩ := get_ex (show a < qs.length by omega)
  obtain ⟨qb, hqb⟩ := get_ex (show b < qs.length by omega)
  have hwa := hw qa (get_mem hqa)
  have hwb := hw qb (get_mem hqb)
  have hlM := hD.1
  refine (ent_foc (id := (io, 0)) (ida := (1003, 0)) (fs := []) (a := a) (n := n) (q := qa) (r := rw_ M a) (EP n x) [((1001, 0), some (rowF f))] hm (.inl rfl) hqa (hD.row ha).1 (hD.row ha).2 (fun f hf => by cases hf) aO hA f2 (by decide) rfl (fun b h => (hwa b h).2) (fun f hf => by cases hf)
    ⟨⟨hb, idne rfl, fun r h => by cases h; exact calm_ints _⟩, trivial⟩ (env_EP hE hb rfl (idne rfl) (idne rfl) hm rfl (by rfl) (by rfl) (by simp only [mixO_len (show (qs.set a none).length = M.length by simp; omega)]; rw [rowM_len aO]))).bind (fun s hs => ?_)
  subst hs
  exact ent_foc (id := (io, 0)) (ida := (1004, 0)) (fs := [(a, (1003, 0), n)]) (a := b) (n := n) (q := qb) (r := rw_ M b) (EP n x) [((1003, 0), some ⟨3, 1, ints (rw_ M a), false⟩), ((1001, 0), some (rowF f))] rfl (.inr rfl) (by rw [List.getElem?_set_ne hab]; exact hqb) (hD.row hbN).1 (hD.row hbN).2
    (fun f hf => by simp at hf; subst hf; exact hab) (by simp; omega) (apt_none hA) rfl (by decide) rfl (fun b h => (hwb b h).2) (fun f hf => by simp at hf; subst hf; exact st_osl rfl rfl (idne rfl) rfl rfl rfl)
    ⟨⟨rfl, idne rfl, fun r h => by cases h; exact calm_ints _⟩, ⟨rfl, idne rfl, fun r h => by cases h; exact calm_ints _⟩, trivial⟩ (env_EP (fun p hp => by simp only [List.mem_cons, List.not_mem_nil, or_false] at hp; rcases hp with rfl | rfl | rfl | rfl <;> rfl) rfl rfl (idne rfl) (idne rfl) rfl rfl (by rfl) (by rfl) (by simp only [mixO_len (show (qs.set a none).length = M.length by simp; omega), mixO_len (show ((qs.set a none).set b none).length = M.length by simp; omega)]))
theorem unf2 (hok : ∀ (w0 : World) X, FlOk w0 X → ∀ b, (w0.heap.size ≤ b ∨ ∃ z, some (b, z) ∈ X) → flW b) {env : List (Nat × PV)} {mem : List (Id × Option Row)} {n a b : Nat} {x : Int} {f : List Int} {qs : List Plc} {M : Mtx} {ra rb : List Int} {ea eb : List (List PV)} (hE : ∀ p ∈ EP n x, getE env p.1 = p.2) (hb : getM mem (1001, 0) = some (some (rowF f)))
    (hm : getM mem (io, 0) = some (some ⟨24, 1, mixO 3 ((qs.set a none).set b none) M [(b, (1004, 0), n), (a, (1003, 0), n)], true⟩))
    (m2 : getM mem (1003, 0) = some (some ⟨3, 1, ea, false⟩)) (m3 : getM mem (1004, 0) = some (some ⟨3, 1, eb, false⟩)) (ea' : ea = ints ra) (eb' : eb = ints rb) (la : ra.length = n) (lb : rb.length = n)
    (hlM : M.length = n) (hl : qs.length = n) (hA : Apt qs) (hw : ∀ x ∈ qs, ∀ b, inQ x b → flN ≤ b ∧ flW b) (ha : a < n) (hbN : b < n) (hab : a ≠ b) :
    EntN ⟨env, mem⟩ fun st' => ∃ ps, ps.length = n ∧ Apt ps ∧ (∀ x ∈ ps, ∀ b, inQ x b → flN ≤ b ∧ flW b) ∧ st' = ⟨EP n x, ((io, 0), some ⟨24, 1, rowM 3 ps ((M.set b rb).set a ra), false⟩) :: [((1001, 0), some (rowF f))]⟩ := by
  subst ea'
  subst eb'
  have hA3 : Apt ((qs.set a none).set b none) := apt_none (apt_none hA)
  have hl3 : ((qs.set a none).set b none).length = n := by simp [hl]
  have q3a : ((qs.set a none).set b none)[a]? = some none := by rw [List.getElem?_set_ne hab.symm, List.getElem?_set_self aO]
  have q3b : ((qs.set a none).set b none)[b]? = some none := by rw [List.getElem?_set_self (by simp; omega)]
  have hw3 : ∀ x ∈ (qs.set a none).set b none, ∀ b, inQ x b → flN ≤ b ∧ flW b := by
    intro x hx b hb
    rcases List.mem_or_eq_of_mem_set hx with h | h
    · rcases List.mem_or_eq_of_mem_set h with h | h
      · exact hw x h b hb
      · subst h; obtain ⟨z, hz⟩ := hb; cases hz
    · subst h; obtain ⟨z, hz⟩ := hb; cases hz
  generalize (qs.set a none).set b none = P at *
  refine (ent_unf (id := (io, 0)) (ida := (1004, 0)) (fs := [(a, (1003, 0), n)]) (r := rb) true (EP n x) [((1003, 0), some ⟨3, 1, ints ra, false⟩), ((1001, 0), some (rowF f))] hm (.inr rfl) q3b m3 rfl lb
    (fun f hf => by simp at hf; subst hf; exact hab) aO hA3 (fun f hf => by simp at hf; subst hf; exact q3a) (by decide) (idne rfl) rfl hok (fun q f hf => by simp at hf; subst hf; exact st_osl m2 rfl (idne rfl) rfl rfl rfl)
    ⟨⟨m2, idne rfl, idne rfl, fun r h => by cases h; exact calm_ints _⟩, ⟨hb, idne rfl, idne rfl, fun r h => by cases h; exact calm_ints _⟩, trivial⟩
    (fun q => env_EP hE hb rfl (idne rfl) (idne rfl) hm rfl (by rfl) (by rfl) (by simp only [mixO_len (show P.length = M.length by omega), mixO_len (show (P.set b q).length = (M.set b rb).length by simp; omega), List.length_set]))).bind (fun s hs => ?_)
  obtain ⟨q1, w1, A1, rfl⟩ := hs
  refine (ent_unf (id := (io, 0)) (ida := (1003, 0)) (fs := []) (r := ra) false (EP n x) [((1001, 0), some (rowF f))] rfl (.inl rfl) (by rw [List.getElem?_set_ne hab.symm]; exact q3a) rfl rfl la
    (fun f hf => by cases hf) (by simp; omega) A1 (fun f hf => by cases hf) (by decide) (idne rfl) rfl hok (fun q f hf => by cases hf) ⟨⟨rfl, idne rfl, idne rfl, fun r h => by cases h; exact calm_ints _⟩, trivial⟩
    (fun q => env_EP (fun p hp => by simp only [List.mem_cons, List.not_mem_nil, or_false] at hp; rcases hp with rfl | rfl | rfl | rfl <;> rfl) rfl rfl (idne rfl) (idne rfl) rfl rfl (by rfl) (by rfl) (by simp only [mixO_len (show (P.set b q1).length = (M.set b rb).length by simp; omega), mixO_len (show ((P.set b q1).set a q).length = ((M.set b rb).set a ra).length by simp; omega), List.length_set]))).imp (fun s hs => ?_)
  obtain ⟨q3, w3, A3, rfl⟩ := hs
  refine ⟨(P.set b q1).set a q3, by simp [hl3], A3, fun x hx b hb => ?_, rfl⟩
  rcases List.mem_or_eq_of_mem_set hx with h | h
  · rcases List.mem_or_eq_of_mem_set h with h | h
    · exact hw3 x h b hb
    · subst h; exact w1 b hb
  · subst h; exact w3 b hb
end
theorem wr_l9Push [fl : Inhabited FlrT] (hok : ∀ (w0 : World) X, FlOk w0 X → ∀ b, (w0.heap.size ≤ b ∨ ∃ z, some (b, z) ∈ X) → flW b) (n : Nat) (hn : 2 ≤ n) (hn2 : n ≤ 1000) (M : Mtx) (hD : Dim n M) (qs : List Plc) (hl : qs.length = n) (hA : Apt qs) (hw : ∀ x ∈ qs, ∀ b, inQ x b → flN ≤ b ∧ flW b)
    {G : Nat → Prop} {w : World} {X : List (Option (Nat × Nat))} {ρ : Id → Option (Nat × Nat)} {cargs : Array Value}
    (hF : FlOk w X) (hW : WRel G ρ w X (ioMem [⟨24, 1, rowM 3 qs M, false⟩]) w) (hC : Comps ρ w (Stab G ρ (ioMem [⟨24, 1, rowM 3 qs M, false⟩]) w) (ioMem [⟨24, 1, rowM 3 qs M, false⟩]) cargs [.osl (io, 0) 0 n]) :
    Calls Try.prog 97 cargs w fun e w' => ∃ v r fin, e = .returned v ∧ (∃ ps, ps.length = n ∧ Apt ps ∧ (∀ x ∈ ps, ∀ b, inQ x b → flN ≤ b ∧ flW b) ∧ r = .bool (canP M n) ∧ fin = [rowM 3 ps (if canP M n = true then pshM M n else M)]) ∧ fin.length = [(⟨24, 1, rowM 3 qs M, false⟩ : Row)].length ∧
      (∀ (k : Nat) row f, [(⟨24, 1, rowM 3 qs M, false⟩ : Row)][k]? = some row → fin[k]? = some f → f.length = row.es.length ∧ (row.bx = true → f = row.es)) ∧ ∀ t, t ≠ io → ∃ ρ', RetOk G true w X w' v r [⟨24, 1, rowM 3 qs M, false⟩] fin t ρ' := by
  refine contract_at hmix Try.func97 rfl (by kernel_rfl) (Nat.le_of_ble_eq_true rfl) (fun row h => by simp at h; subst h; exact .inl rfl) ?_ hF hW hC
  have hty_u104 := ty_u104
  have hty_s104 := ty_s104
  have hty_s24 := ty_s24
  have hty_u24 := ty_u24
  have hty_t3 := ty_t3
  have hty_c3 := ty_c3
  have hty_c24 := ty_c24
  have hlM : M.length = n := hD.1
  have hrl : (rowM 3 qs M).length = n := by rw [rowM_len aO]; exact hD.1
  repeat' (first | (refine g_exec ?_; refine g_load ?_; refine x_load_sem _ aA rfl rfl aE rfl (by first | exact semTo_Old | exact semTo_LP) ?_) | (refine pA (k := ?_)) | (refine g_exec ?_; first | (refine g_guard ?_; refine x_gsplit rfl rfl (fun h => ?_) (fun h => ?_) <;> (have h' := h; try simp only [sx] at h')) | (refine x_nil (hK _ _ aI ?_); clear hK K)) | (refine v_region (fun K hK => ?_)) | (refine v_condt rfl (fun h => ?_) (fun h => ?_) <;> (have h' := h; try simp only [sx] at h')))
  refine v_loopK [0, 3] [] (fun q : Nat × List (List PV) => [(4, .osl (1001, 0) 0 q.1), (5, .int .i64 q.1)]) (fun q : Nat × List (List PV) => [((1001, 0), some ⟨3, 1, q.2, false⟩)]) (fun q : Nat × List (List PV) => q.1 ≤ n ∧ q.2 = ints (List.replicate q.1 (-1))) (fun q : Nat × List (List PV) => n - q.1) ((0, [])) rfl rfl (fun _ => rfl) (fun _ => rfl) rfl (by refine ⟨?_, ?_, rfl, rfl⟩ <;> (repeat' (first | exact trivial | exact ⟨rfl, rfl⟩ | exact rfl | exact ⟨sub_fn, refs_fn⟩ | refine ⟨⟨rfl, rfl⟩, ?_⟩ | refine ⟨⟨sub_fn, refs_fn⟩, ?_⟩ | refine ⟨⟨rfl, fun h => Bool.noConfusion h⟩, ?_⟩ | refine ⟨⟨rfl, fun h => ?_⟩, ?_⟩ | refine ⟨rfl, ?_⟩ | refine ⟨?_, ?_⟩ | fail))) ⟨by simp, rfl⟩ (fun q hq => ?_)
  obtain ⟨i, es⟩ := q
  obtain ⟨h1, h2⟩ := hq
  simp only at h1 h2
  have hel : es.length = i := by rw [h2, ints_len, List.length_replicate]
  dsimp only
  rcases Nat.lt_or_ge i n with hlt | hge
  · repeat' (first | (refine g_exec ?_; refine g_load ?_; refine x_load_sem _ aA rfl rfl aE rfl (by first | exact semTo_Old | exact semTo_LP) ?_) | (refine pA (k := ?_)) | (refine g_exec ?_; first | (refine g_guard ?_; refine x_gsplit rfl rfl (fun h => ?_) (fun h => ?_) <;> (have h' := h; try simp only [sx] at h')) | (refine x_nil (hK _ _ aI ?_); clear hK K)) | (refine v_region (fun K hK => ?_)) | (refine v_condt rfl (fun h => ?_) (fun h => ?_) <;> (have h' := h; try simp only [sx] at h')))
    all_goals try (exfalso; omega)
    all_goals (refine q_next (i + 1, es ++ [[.int .i64 (-1)]]) rfl (by refine ⟨?_, ?_, rfl, rfl⟩ <;> (repeat' (first | exact trivial | exact ⟨rfl, rfl⟩ | exact rfl | exact ⟨sub_fn, refs_fn⟩ | refine ⟨⟨rfl, rfl⟩, ?_⟩ | refine ⟨⟨sub_fn, refs_fn⟩, ?_⟩ | refine ⟨⟨rfl, fun h => Bool.noConfusion h⟩, ?_⟩ | refine ⟨⟨rfl, fun h => ?_⟩, ?_⟩ | refine ⟨rfl, ?_⟩ | refine ⟨?_, ?_⟩ | fail))) ⟨by simp only; omega, by simp only; rw [h2, List.replicate_succ', ints_snoc]⟩ (by simp only; omega))
  have hin : i = n := by omega
  subst hin
  have e2 : ((i : Int) - 2) = ((i - 2 : Nat) : Int) := by omega
  have e2t : ((i : Int) - 2).toNat = i - 2 := by omega
  have s0 : es[((i : Int) - 2).toNat]? = some [.int .i64 (-1)] := by
    rw [h2, e2t]
    exact ints_at (by rw [List.getElem?_replicate]; simp; omega)
  repeat' (first | (refine g_exec ?_; refine g_load ?_; refine x_load_sem _ aA rfl rfl aE rfl (by first | exact semTo_Old | exact semTo_LP) ?_) | (refine pA (k := ?_)) | (refine g_exec ?_; first | (refine g_guard ?_; refine x_gsplit rfl rfl (fun h => ?_) (fun h => ?_) <;> (have h' := h; try simp only [sx] at h')) | (refine x_nil (hK _ _ aI ?_); clear hK K)) | (refine v_region (fun K hK => ?_)) | (refine v_condt rfl (fun h => ?_) (fun h => ?_) <;> (have h' := h; try simp only [sx] at h')))
  all_goals try (exfalso; omega)
  refine v_loopK [0, 3, 4] [(1001, 0), (1002, 0)] (fun q : Nat × List (List PV) × Nat × List (List PV) × Nat => [(6, .osl (1002, 0) q.2.2.1 q.2.2.2.2)]) (fun q : Nat × List (List PV) × Nat × List (List PV) × Nat => [((1001, 0), some ⟨3, 1, q.2.1, false⟩), ((1002, 0), some ⟨3, 1, q.2.2.2.1, false⟩)]) (fun q : Nat × List (List PV) × Nat × List (List PV) × Nat => q.1 ≤ i ∧ (∀ t', t' < q.1 → (bfs M i t').2 ≠ []) ∧ q.2.1 = ints (bfs M i q.1).1 ∧ q.2.2.2.1.drop q.2.2.1 = ints (bfs M i q.1).2 ∧ q.2.2.2.1.length = q.2.2.1 + q.2.2.2.2) (fun q : Nat × List (List PV) × Nat × List (List PV) × Nat => i + 1 - q.1) ((0, es.set ((i : Int) - 2).toNat [.int .i64 ((i : Int) - 2)], 0, [[.int .i64 ((i : Int) - 2)]], 1)) rfl rfl (fun _ => rfl) (fun _ => rfl) rfl (by refine ⟨?_, ?_, rfl, rfl⟩ <;> (repeat' (first | exact trivial | exact ⟨rfl, rfl⟩ | exact rfl | exact ⟨sub_fn, refs_fn⟩ | refine ⟨⟨rfl, rfl⟩, ?_⟩ | refine ⟨⟨sub_fn, refs_fn⟩, ?_⟩ | refine ⟨⟨rfl, fun h => Bool.noConfusion h⟩, ?_⟩ | refine ⟨⟨rfl, fun h => ?_⟩, ?_⟩ | refine ⟨rfl, ?_⟩ | refine ⟨?_, ?_⟩ | fail))) ⟨by simp, fun t' h => by simp at h, by simp only [bfs, bf0]; rw [h2, e2t, ints_setF, e2], by simp only [bfs, bf0, List.drop_zero]; rw [e2]; rfl, rfl⟩ (fun q hq => ?_)
  clear s0
  obtain ⟨t, fE, o, R, m⟩ := q
  obtain ⟨g1, g2, g3, g4, g5⟩ := hq
  simp only at g1 g2 g3 g4 g5
  obtain ⟨L, H⟩ := bfs_bf M hn t g2
  have hst : bfs M i (t + 1) = bst M i (bfs M i t) := rfl
  have hml : m = (bfs M i t).2.length := by
    have := congrArg List.length g4
    rw [List.length_drop, ints_len] at this
    omega
  have hfl : fE.length = i := by rw [g3, ints_len, H.len]
  dsimp only
  by_cases hne : (bfs M i t).2 = []
  · have hm0 : m = 0 := by rw [hml, hne]; rfl
    subst hm0
    have hF1 := bfs_last hn g2 hne
    have hfF : fE = ints (cameF M i) := by rw [g3, hF1]
    obtain ⟨L', h', H'⟩ := came_bf M hn
    have hlF : (cameF M i).length = i := H'.len
    have e1t : ((i : Int) - 1).toNat = i - 1 := by omega
    obtain ⟨z, hz⟩ := get_ex (show i - 1 < (cameF M i).length by omega)
    have sz := ints_at hz
    rw [← hfF, ← e1t] at sz
    have hcan : canP M i = decide (0 ≤ z) := by unfold canP; rw [getDk hz]
    clear g3
    subst hfF
    by_cases hz0 : z < 0
    · have hcf : canP M i = false := by rw [hcan]; exact decide_eq_false aO
      repeat' (first | (refine g_exec ?_; refine g_load ?_; refine x_load_sem _ aA rfl rfl aE rfl (by first | exact semTo_Old | exact semTo_LP) ?_) | (refine pA (k := ?_)) | (refine g_exec ?_; first | (refine g_guard ?_; refine x_gsplit rfl rfl (fun h => ?_) (fun h => ?_) <;> (have h' := h; try simp only [sx] at h')) | (refine x_nil (hK _ _ aI ?_); clear hK K)) | (refine v_region (fun K hK => ?_)) | (refine v_condt rfl (fun h => ?_) (fun h => ?_) <;> (have h' := h; try simp only [sx] at h')))
      all_goals first
        | (exfalso; omega)
        | exact RetPost.mono (fun r fin h => ⟨qs, hl, hA, hw, by rw [hcf]; exact h.1, by rw [if_neg (by rw [hcf]; exact Bool.false_ne_true)]; exact h.2⟩) (ret_boolL (fin := [rowM 3 qs M]) (by first | exact .inl rfl | exact .inr rfl) rfl (lookE_ok rfl) rfl ⟨⟨rfl, rfl, fun h => by cases h⟩, trivial⟩)
    · have hct : canP M i = true := by rw [hcan]; exact decide_eq_true aO
      have hv := (H'.vis (i - 1) aO).1 (by simpa [canP] using hct)
      obtain ⟨k0, hk0⟩ := List.mem_iff_getElem?.1 hv
      have hk0l := get_lt hk0
      have hcn := H'.cnt
      repeat' (first | (refine g_exec ?_; refine g_load ?_; refine x_load_sem _ aA rfl rfl aE rfl (by first | exact semTo_Old | exact semTo_LP) ?_) | (refine pA (k := ?_)) | (refine g_exec ?_; first | (refine g_guard ?_; refine x_gsplit rfl rfl (fun h => ?_) (fun h => ?_) <;> (have h' := h; try simp only [sx] at h')) | (refine x_nil (hK _ _ aI ?_); clear hK K)) | (refine v_region (fun K hK => ?_)) | (refine v_condt rfl (fun h => ?_) (fun h => ?_) <;> (have h' := h; try simp only [sx] at h')))
      all_goals try (exfalso; omega)
      refine v_loopK [0, 3, 4] [(io, 0)] (fun q : Nat × Nat × Int × List Plc => [(9, .int .i64 q.2.2.1)]) (fun q : Nat × Nat × Int × List Plc => [((io, 0), some ⟨24, 1, rowM 3 q.2.2.2 (wlk (cameF M i) i q.1 (M, i - 1)).1, false⟩)]) (fun q : Nat × Nat × Int × List Plc => q.1 + q.2.1 ≤ i ∧ L'[q.2.1]? = some (wlk (cameF M i) i q.1 (M, i - 1)).2 ∧ q.2.2.1 = ((wlk (cameF M i) i q.1 (M, i - 1)).2 : Nat) ∧ Dim i (wlk (cameF M i) i q.1 (M, i - 1)).1 ∧ q.2.2.2.length = i ∧ Apt q.2.2.2 ∧ ∀ x ∈ q.2.2.2, ∀ b, inQ x b → flN ≤ b ∧ flW b) (fun q : Nat × Nat × Int × List Plc => q.2.1) ((0, k0, (i : Int) - 1, qs)) rfl rfl (fun _ => rfl) (fun _ => rfl) rfl (by refine ⟨?_, ?_, rfl, rfl⟩ <;> (repeat' (first | exact trivial | exact ⟨rfl, rfl⟩ | exact rfl | exact ⟨sub_fn, refs_fn⟩ | refine ⟨⟨rfl, rfl⟩, ?_⟩ | refine ⟨⟨sub_fn, refs_fn⟩, ?_⟩ | refine ⟨⟨rfl, fun h => Bool.noConfusion h⟩, ?_⟩ | refine ⟨⟨rfl, fun h => ?_⟩, ?_⟩ | refine ⟨rfl, ?_⟩ | refine ⟨?_, ?_⟩ | fail))) ⟨by simp only; omega, hk0, by simp only [wlk]; omega, hD, hl, hA, hw⟩ (fun q hq => ?_)
      obtain ⟨tt, k, b', ps⟩ := q
      obtain ⟨w1, w2, w3, w4, w5, w6, w7⟩ := hq
      simp only at w1 w2 w3 w4 w5 w6 w7
      have hnx : wlk (cameF M i) i (tt + 1) (M, i - 1) = wst (cameF M i) i (wlk (cameF M i) i tt (M, i - 1)) := wlk_succ _ _ _ _
      have hfx : (wlk (cameF M i) i tt (M, i - 1)).2 = i - 2 → pshM M i = (wlk (cameF M i) i tt (M, i - 1)).1 := by
        intro h
        unfold pshM
        have e : i = tt + (i - tt) := by omega
        rw [show wlk (cameF M i) i i (M, i - 1) = wlk (cameF M i) i (tt + (i - tt)) (M, i - 1) by rw [← e]]
        rw [wlk_fix (i - tt) h]
      generalize wlk (cameF M i) i tt (M, i - 1) = S at *
      obtain ⟨M', b⟩ := S
      simp only at w2 w3 w4 hfx
      subst w3
      dsimp only
      by_cases hb2 : b = i - 2
      · have hps := hfx hb2
        repeat' (first | (refine g_exec ?_; refine g_load ?_; refine x_load_sem _ aA rfl rfl aE rfl (by first | exact semTo_Old | exact semTo_LP) ?_) | (refine pA (k := ?_)) | (refine g_exec ?_; first | (refine g_guard ?_; refine x_gsplit rfl rfl (fun h => ?_) (fun h => ?_) <;> (have h' := h; try simp only [sx] at h')) | (refine x_nil (hK _ _ aI ?_); clear hK K)) | (refine v_region (fun K hK => ?_)) | (refine v_condt rfl (fun h => ?_) (fun h => ?_) <;> (have h' := h; try simp only [sx] at h')))
        all_goals first
          | (exfalso; omega)
          | exact RetPost.mono (fun r fin h => ⟨ps, w5, w6, w7, by rw [hct]; exact h.1, by rw [if_pos hct, hps]; exact h.2⟩) (ret_boolL (fin := [rowM 3 ps M']) (by first | exact .inl rfl | exact .inr rfl) rfl (lookE_ok rfl) rfl ⟨⟨by show (rowM _ _ _).length = (rowM _ _ _).length; rw [rowM_len (by rw [w5, w4.1]), w4.1, hrl], rfl, fun h => by cases h⟩, trivial⟩)
      · obtain ⟨j, a, c1, c2, c3, c4, c5, c6, c7, c8, c9⟩ := H'.back hn w2 hb2
        simp only at c3 c9
        have sF := ints_at c9
        have hwst : wst (cameF M i) i (M', b) = (psh1 M' a b, a) := by unfold wst; rw [if_neg hb2, c3, Int.toNat_natCast]
        repeat' (first | (refine g_exec ?_; refine g_load ?_; refine x_load_sem _ aA rfl rfl aE rfl (by first | exact semTo_Old | exact semTo_LP) ?_) | (refine pB (k := ?_)) | (refine v_seqN 23 rfl ?_) | (refine g_exec ?_; first | (refine g_guard ?_; refine x_gsplit rfl rfl (fun h => ?_) (fun h => ?_) <;> (have h' := h; try simp only [sx] at h')) | (refine x_nil (hK _ _ aI ?_); clear hK K)) | (refine v_region (fun K hK => ?_)) | (refine v_condt rfl (fun h => ?_) (fun h => ?_) <;> (have h' := h; try simp only [sx] at h')))
        all_goals try (exfalso; omega)
        refine v_seqE _ (foc2 (n := i) (a := a) (b := b) (x := (b : Nat)) (f := cameF M i) (qs := ps) (M := M') (fun p hp => by simp only [List.mem_cons, List.not_mem_nil, or_false] at hp; rcases hp with rfl | rfl | rfl | rfl <;> rfl) rfl rfl rfl rfl w4 w5 w6 w7 c5 c6 c7) rfl (fun s hs => ?_)
        subst hs
        obtain ⟨x, hx⟩ := get_ex (show b < (rw_ M' a).length by rw [(w4.row c5).2]; exact c6)
        obtain ⟨y, hy⟩ := get_ex (show a < (rw_ M' b).length by rw [(w4.row c6).2]; exact c5)
        have sx_ := ints_at hx
        have sy_ := ints_at hy
        have hl0 : (rowM 3 ((ps.set a none).set b none) M').length = i := by rw [rowM_len (by simp [w5, w4.1]), w4.1]
        have oa : (mixO 3 ((ps.set a none).set b none) M' [(b, (1004, 0), i), (a, (1003, 0), i)])[a]? = some [.osl (1003, 0) 0 i] := by
          simp only [mixO]
          rw [List.getElem?_set_ne c7.symm, List.getElem?_set_self aO]
        have ob : (mixO 3 ((ps.set a none).set b none) M' [(b, (1004, 0), i), (a, (1003, 0), i)])[b]? = some [.osl (1004, 0) 0 i] := by
          simp only [mixO]
          rw [List.getElem?_set_self (by simp; omega)]
        repeat' (first | (refine g_exec ?_; refine g_load ?_; refine x_load_sem _ aA rfl rfl aE rfl (by first | exact semTo_Old | exact semTo_LP) ?_) | (refine pB (k := ?_)) | (refine v_seqN 22 rfl ?_) | (refine g_exec ?_; first | (refine g_guard ?_; refine x_gsplit rfl rfl (fun h => ?_) (fun h => ?_) <;> (have h' := h; try simp only [sx] at h')) | (refine x_nil (hK _ _ aI ?_); clear hK K)) | (refine v_regionN 22 rfl (fun K hK => ?_)) | (refine v_condt rfl (fun h => ?_) (fun h => ?_) <;> (have h' := h; try simp only [sx] at h')))
        all_goals try (exfalso; omega)
        refine v_regE _ (unf2 hok (n := i) (a := a) (b := b) (x := (b : Nat)) (f := cameF M i) (qs := ps) (M := M') (ra := (rw_ M' a).set b (IntKind.i64.wrap (x - 1))) (rb := (rw_ M' b).set a (IntKind.i64.wrap (y + 1))) (fun p hp => by simp only [List.mem_cons, List.not_mem_nil, or_false] at hp; rcases hp with rfl | rfl | rfl | rfl <;> rfl) rfl rfl rfl rfl (ints_setF _ _ _) (ints_setF _ _ _) (by rw [List.length_set, (w4.row c5).2]) (by rw [List.length_set, (w4.row c6).2]) w4.1 w5 w6 w7 c5 c6 c7) rfl (fun s hs => ?_)
        obtain ⟨ps', p1, p2, p3, rfl⟩ := hs
        have hps : (M'.set b ((rw_ M' b).set a (IntKind.i64.wrap (y + 1)))).set a ((rw_ M' a).set b (IntKind.i64.wrap (x - 1))) = (wlk (cameF M i) i (tt + 1) (M, i - 1)).1 := by
          rw [hnx, hwst]
          unfold psh1
          rw [getDk hx, getDk hy, List.set_comm _ _ c7]
        rw [hps]
        repeat' (first | (refine g_exec ?_; refine g_load ?_; refine x_load_sem _ aA rfl rfl aE rfl (by first | exact semTo_Old | exact semTo_LP) ?_) | (refine pA (k := ?_)) | (refine g_exec ?_; first | (refine g_guard ?_; refine x_gsplit rfl rfl (fun h => ?_) (fun h => ?_) <;> (have h' := h; try simp only [sx] at h')) | (refine x_nil (hK _ _ aI ?_); clear hK K)) | (refine v_region (fun K hK => ?_)) | (refine v_condt rfl (fun h => ?_) (fun h => ?_) <;> (have h' := h; try simp only [sx] at h')))
        all_goals try (exfalso; omega)
        all_goals (refine q_next (tt + 1, j, (a : Nat), ps') rfl (by refine ⟨?_, ?_, rfl, rfl⟩ <;> (repeat' (first | exact trivial | exact ⟨rfl, rfl⟩ | exact rfl | exact ⟨sub_fn, refs_fn⟩ | refine ⟨⟨rfl, rfl⟩, ?_⟩ | refine ⟨⟨sub_fn, refs_fn⟩, ?_⟩ | refine ⟨⟨rfl, fun h => Bool.noConfusion h⟩, ?_⟩ | refine ⟨⟨rfl, fun h => ?_⟩, ?_⟩ | refine ⟨rfl, ?_⟩ | refine ⟨?_, ?_⟩ | fail))) ⟨by simp only; omega, by simp only; rw [hnx, hwst]; exact c2, by simp only; rw [hnx, hwst], by simp only; rw [hnx, hwst]; exact w4.psh1 c5 c6, p1, p2, p3⟩ (by simp only; omega))
  · generalize hs : bfs M i t = s at *
    obtain ⟨f, nx⟩ := s
    simp only at g3 g4 hml hne
    cases nx with
    | nil => exact absurd rfl hne
    | cons x r =>
      obtain ⟨a, rfl, hLt, H1⟩ := H.pop
      have han : a < i := H.rg a (get_mem hLt)
      have hla := H.hl
      have hca := H.cnt
      have htl := get_lt hLt
      rw [bst_cons] at hst
      simp only [List.length_cons] at hml
      have hR0 : R[o + Int.toNat 0]? = some [.int .i64 (a : Nat)] := by
        have := congrArg (fun l => l[0]?) g4
        simp only [List.getElem?_drop] at this
        rw [show o + Int.toNat 0 = o + 0 from rfl, this]
        rfl
      have hdr : R.drop (o + 1) = ints r := by
        have := congrArg List.tail g4
        rw [List.tail_drop] at this
        rw [this]
        rfl
      repeat' (first | (refine g_exec ?_; refine g_load ?_; refine x_load_sem _ aA rfl rfl aE rfl (by first | exact semTo_Old | exact semTo_LP) ?_) | (refine pA (k := ?_)) | (refine g_exec ?_; first | (refine g_guard ?_; refine x_gsplit rfl rfl (fun h => ?_) (fun h => ?_) <;> (have h' := h; try simp only [sx] at h')) | (refine x_nil (hK _ _ aI ?_); clear hK K)) | (refine v_region (fun K hK => ?_)) | (refine v_condt rfl (fun h => ?_) (fun h => ?_) <;> (have h' := h; try simp only [sx] at h')))
      all_goals try (exfalso; omega)
      refine v_loopK [0, 3, 4, 7] [(1001, 0), (1002, 0)] (fun q : Nat × List (List PV) × Nat × List (List PV) × Nat => [(6, .osl (1002, 0) q.2.2.1 q.2.2.2.2), (8, .int .i64 q.1)]) (fun q : Nat × List (List PV) × Nat × List (List PV) × Nat => [((1001, 0), some ⟨3, 1, q.2.1, false⟩), ((1002, 0), some ⟨3, 1, q.2.2.2.1, false⟩)]) (fun q : Nat × List (List PV) × Nat × List (List PV) × Nat => q.1 ≤ i ∧ q.2.1 = ints (scan (rw_ M a) a (f, r) q.1).1 ∧ q.2.2.2.1.drop q.2.2.1 = ints (scan (rw_ M a) a (f, r) q.1).2 ∧ q.2.2.2.1.length = q.2.2.1 + q.2.2.2.2) (fun q : Nat × List (List PV) × Nat × List (List PV) × Nat => i - q.1) ((0, fE, o + 1, R, m - 1)) rfl rfl (fun _ => rfl) (fun _ => rfl) rfl (by refine ⟨?_, ?_, rfl, rfl⟩ <;> (repeat' (first | exact trivial | exact ⟨rfl, rfl⟩ | exact rfl | exact ⟨sub_fn, refs_fn⟩ | refine ⟨⟨rfl, rfl⟩, ?_⟩ | refine ⟨⟨sub_fn, refs_fn⟩, ?_⟩ | refine ⟨⟨rfl, fun h => Bool.noConfusion h⟩, ?_⟩ | refine ⟨⟨rfl, fun h => ?_⟩, ?_⟩ | refine ⟨rfl, ?_⟩ | refine ⟨?_, ?_⟩ | fail))) ⟨by simp, g3, hdr, by simp only; omega⟩ (fun q hq => ?_)
      obtain ⟨b, fE2, o2, R2, m2⟩ := q
      obtain ⟨d1, d2, d3, d4⟩ := hq
      simp only at d1 d2 d3 d4
      obtain ⟨L2, hL2, H2⟩ := H1.scan hLt b d1
      have hsc : scan (rw_ M a) a (f, r) (b + 1) = stpK (rw_ M a) a (scan (rw_ M a) a (f, r) b) b := rfl
      have hm2 : m2 = (scan (rw_ M a) a (f, r) b).2.length := by
        have := congrArg List.length d3
        rw [List.length_drop, ints_len] at this
        omega
      have hm2n : m2 ≤ i := by
        have h1 := H2.cnt
        have h2 := congrArg List.length H2.nx
        rw [List.length_map, List.length_drop] at h2
        omega
      have hfl2 : fE2.length = i := by rw [d2, ints_len, H2.len]
      dsimp only
      rcases Nat.lt_or_ge b i with hbl | hbg
      · obtain ⟨q, hq⟩ := get_ex (show a < qs.length by omega)
        have hrow := rowM_at (TI := 3) hq (hD.row han).1
        obtain ⟨x, hx⟩ := get_ex (show b < (rw_ M a).length by rw [(hD.row han).2]; exact hbl)
        have sX := ints_at hx
        have gx := getDk (d := (0 : Int)) hx
        have hlr : (ints (rw_ M a)).length = i := by rw [ints_len, (hD.row han).2]
        obtain ⟨y, hy⟩ := get_ex (show b < (scan (rw_ M a) a (f, r) b).1.length by rw [H2.len]; exact hbl)
        have sY := ints_at hy
        have gy := getDk (d := (0 : Int)) hy
        rw [← d2] at sY
        generalize scan (rw_ M a) a (f, r) b = s2 at *
        obtain ⟨f2, nx2⟩ := s2
        simp only at d2 d3 hm2 gy hy
        by_cases hc : 0 < x ∧ y < 0
        · have hst2 : scan (rw_ M a) a (f, r) (b + 1) = (f2.set b (a : Nat), nx2 ++ [((b : Nat) : Int)]) := by
            rw [hsc]
            unfold stpK
            rw [if_pos (by rw [gx]; simp only; rw [gy]; exact hc)]
          repeat' (first | (refine g_exec ?_; refine g_load ?_; refine x_load_sem _ aA rfl rfl aE rfl (by first | exact semTo_Old | exact semTo_LP) ?_) | (refine pA (k := ?_)) | (refine g_exec ?_; first | (refine g_guard ?_; refine x_gsplit rfl rfl (fun h => ?_) (fun h => ?_) <;> (have h' := h; try simp only [sx] at h')) | (refine x_nil (hK _ _ aI ?_); clear hK K)) | (refine v_region (fun K hK => ?_)) | (refine v_condt rfl (fun h => ?_) (fun h => ?_) <;> (have h' := h; try simp only [sx] at h')))
          all_goals first
            | (exfalso; omega)
            | (refine q_next (b + 1, fE2.set b [.int .i64 (a : Nat)], 0, R2.drop o2 ++ [[.int .i64 (b : Nat)]], m2 + 1) rfl (by refine ⟨?_, ?_, rfl, rfl⟩ <;> (repeat' (first | exact trivial | exact ⟨rfl, rfl⟩ | exact rfl | exact ⟨sub_fn, refs_fn⟩ | refine ⟨⟨rfl, rfl⟩, ?_⟩ | refine ⟨⟨sub_fn, refs_fn⟩, ?_⟩ | refine ⟨⟨rfl, fun h => Bool.noConfusion h⟩, ?_⟩ | refine ⟨⟨rfl, fun h => ?_⟩, ?_⟩ | refine ⟨rfl, ?_⟩ | refine ⟨?_, ?_⟩ | fail))) ⟨by simp only; omega, by simp only; rw [hst2, d2, ints_setF], by simp only [List.drop_zero]; rw [hst2, d3, ints_snoc], by simp only [List.length_append, List.length_drop, List.length_cons, List.length_nil]; omega⟩ (by simp only; omega))
        · have hst2 : scan (rw_ M a) a (f, r) (b + 1) = (f2, nx2) := by
            rw [hsc]
            unfold stpK
            rw [if_neg (by rw [gx]; simp only; rw [gy]; exact hc)]
          repeat' (first | (refine g_exec ?_; refine g_load ?_; refine x_load_sem _ aA rfl rfl aE rfl (by first | exact semTo_Old | exact semTo_LP) ?_) | (refine pA (k := ?_)) | (refine g_exec ?_; first | (refine g_guard ?_; refine x_gsplit rfl rfl (fun h => ?_) (fun h => ?_) <;> (have h' := h; try simp only [sx] at h')) | (refine x_nil (hK _ _ aI ?_); clear hK K)) | (refine v_region (fun K hK => ?_)) | (refine v_condt rfl (fun h => ?_) (fun h => ?_) <;> (have h' := h; try simp only [sx] at h')))
          all_goals first
            | (exfalso; omega)
            | (refine q_next (b + 1, fE2, o2, R2, m2) rfl (by refine ⟨?_, ?_, rfl, rfl⟩ <;> (repeat' (first | exact trivial | exact ⟨rfl, rfl⟩ | exact rfl | exact ⟨sub_fn, refs_fn⟩ | refine ⟨⟨rfl, rfl⟩, ?_⟩ | refine ⟨⟨sub_fn, refs_fn⟩, ?_⟩ | refine ⟨⟨rfl, fun h => Bool.noConfusion h⟩, ?_⟩ | refine ⟨⟨rfl, fun h => ?_⟩, ?_⟩ | refine ⟨rfl, ?_⟩ | refine ⟨?_, ?_⟩ | fail))) ⟨by simp only; omega, by simp only; rw [hst2, d2], by simp only; rw [hst2, d3], d4⟩ (by simp only; omega))
      · have hbi : b = i := by omega
        subst hbi
        repeat' (first | (refine g_exec ?_; refine g_load ?_; refine x_load_sem _ aA rfl rfl aE rfl (by first | exact semTo_Old | exact semTo_LP) ?_) | (refine pA (k := ?_)) | (refine g_exec ?_; first | (refine g_guard ?_; refine x_gsplit rfl rfl (fun h => ?_) (fun h => ?_) <;> (have h' := h; try simp only [sx] at h')) | (refine x_nil (hK _ _ aI ?_); clear hK K)) | (refine v_region (fun K hK => ?_)) | (refine v_condt rfl (fun h => ?_) (fun h => ?_) <;> (have h' := h; try simp only [sx] at h')))
        all_goals try (exfalso; omega)
        all_goals (refine q_next (t + 1, fE2, o2, R2, m2) rfl (by refine ⟨?_, ?_, rfl, rfl⟩ <;> (repeat' (first | exact trivial | exact ⟨rfl, rfl⟩ | exact rfl | exact ⟨sub_fn, refs_fn⟩ | refine ⟨⟨rfl, rfl⟩, ?_⟩ | refine ⟨⟨sub_fn, refs_fn⟩, ?_⟩ | refine ⟨⟨rfl, fun h => Bool.noConfusion h⟩, ?_⟩ | refine ⟨⟨rfl, fun h => ?_⟩, ?_⟩ | refine ⟨rfl, ?_⟩ | refine ⟨?_, ?_⟩ | fail))) ⟨by simp only; omega, fun t' ht => ?_, by simp only; rw [hst, d2], by simp only; rw [hst, d3], d4⟩ (by simp only; omega))
        rcases Nat.lt_or_ge t' t with h1 | h1
        · exact g2 t' h1
        · have : t' = t := by omega
          subst this
          rw [hs]
          exact hne
end Go.Vs
