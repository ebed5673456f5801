/- EVACUATION: departures, the plain law; no program in sight. -/
import Derived.Test.YthjlolbooehhcaaVau
import Derived.Test.YthjlolbooehhcaaEw1
import Derived.Test.YthjlolbooehhcaaVd2
set_option linter.unusedVariables false
set_option linter.unusedSimpArgs false
set_option maxRecDepth 100000
set_option maxHeartbeats 4000000
namespace Go.Vs
open Go.Proofs

def IsPl (n p : Int) : Prop := 0 ≤ p ∧ p < n
@[reducible] def ride (r : Road) (v : Int) : Int := min v r.closes - r.minutes
def Leg (rs : List Road) (r : Road) (a b : Int) : Prop := r ∈ rs ∧ ((a = r.a ∧ b = r.b) ∨ (a = r.b ∧ b = r.a))
inductive Dch (rs : List Road) (to : Int) : Int → Int → Prop
  | to : Dch rs to to 999
  | leg {r : Road} {a b v : Int} : Dch rs to b v → Leg rs r a b → 0 ≤ ride r v → Dch rs to a (ride r v)
structure DPre (n : Int) (rs : List Road) (to : Int) (D : List Int) : Prop where
  len : D.length = n.toNat
  beg : 999 ≤ tv D to
  low : ∀ p, IsPl n p → -1 ≤ tv D p
  att : ∀ p, IsPl n p → tv D p ≠ -1 → Dch rs to p (tv D p)
def DClo (rs : List Road) (D : List Int) : Prop := ∀ r a b, Leg rs r a b → 0 ≤ tv D b → ride r (tv D b) ≤ tv D a
structure IsDep (n : Int) (rs : List Road) (to : Int) (D : List Int) : Prop where
  pre : DPre n rs to D
  clo : DClo rs D
section
variable {n to : Int} {rs : List Road}
theorem leg_facts (hg : GoodN n rs) {r : Road} {a b : Int} (h : Leg rs r a b) : IsPl n a ∧ IsPl n b ∧ a ≠ b ∧ (1 ≤ r.minutes ∧ r.minutes ≤ 100) ∧ 0 ≤ r.closes ∧ r.closes ≤ 999 := by
  have h1 := hg.one r h.1
  unfold OneR at h1
  unfold IsPl
  rcases h.2 with ⟨rfl, rfl⟩ | ⟨rfl, rfl⟩ <;> omega
theorem dch_facts (hg : GoodN n rs) (hto : IsPl n to) {p v : Int} (h : Dch rs to p v) : IsPl n p ∧ 0 ≤ v ∧ v ≤ 999 := by
  induction h with
  | to => exact ⟨hto, by omega, by omega⟩
  | @leg r a b v hd hl h0 ih =>
    have := leg_facts hg hl
    exact ⟨this.1, h0, by simp only [ride]; omega⟩
theorem ride_mono (r : Road) {v w : Int} (h : v ≤ w) : ride r v ≤ ride r w := by simp only [ride]; omega
theorem dep_ge {D : List Int} (hD : IsDep n rs to D) (hg : GoodN n rs) (hto : IsPl n to) {p v : Int} (h : Dch rs to p v) : v ≤ tv D p := by
  induction h with
  | to => exact hD.pre.beg
  | @leg r a b v hd hl h0 ih =>
    have h1 := dch_facts hg hto hd
    exact Int.le_trans (ride_mono r ih) (hD.clo r a b hl aO)
theorem dep_unique {D D' : List Int} (hg : GoodN n rs) (hto : IsPl n to) (h : IsDep n rs to D) (h' : DPre n rs to D') (hge : ∀ p, IsPl n p → tv D p ≤ tv D' p) : D = D' := by
  refine tv_ext h.pre.len h'.len fun p h1 h2 => Int.le_antisymm (hge p ⟨h1, h2⟩) ?_
  by_cases he : tv D' p = -1
  · rw [he]; exact h.pre.low p ⟨h1, h2⟩
  · exact dep_ge h hg hto (h'.att p ⟨h1, h2⟩ he)
theorem dep_ge_pre {D D' : List Int} (hg : GoodN n rs) (hto : IsPl n to) (h : DPre n rs to D) (h' : IsDep n rs to D') : ∀ p, IsPl n p → tv D p ≤ tv D' p := fun p hp => by
  by_cases he : tv D p = -1
  · rw [he]; exact h'.pre.low p hp
  · exact dep_ge h' hg hto (h.att p hp he)
/- How far the work has come. -/
def sumD (D : List Int) : Int := sumBy (fun v => v + 1) D
theorem DPre.hi {D : List Int} (h : DPre n rs to D) (hg : GoodN n rs) (hto : IsPl n to) {p : Int} (hp : IsPl n p) : tv D p ≤ 999 := by
  by_cases he : tv D p = -1
  · omega
  · exact (dch_facts hg hto (h.att p hp he)).2.2
theorem sumD_bnd {D : List Int} (h : DPre n rs to D) (hg : GoodN n rs) (hto : IsPl n to) : 0 ≤ sumD D ∧ sumD D ≤ 7000 := by
  have hn := hg.2.1
  have hl := h.len
  have := sumBy_bound (fun v => v + 1) 1000 D (fun y hy => by
    obtain ⟨i, hi⟩ := List.getElem?_of_mem hy
    have hlt := get_lt hi
    have hp : IsPl n (i : Int) := ⟨by omega, by omega⟩
    have e := tv_at (T := D) (c := (i : Int)) (by rw [Int.toNat_natCast]; exact hlt)
    rw [Int.toNat_natCast, hi] at e
    injection e with e
    have h1 := h.low _ hp
    have h2 := h.hi hg hto hp
    rw [e]
    constructor <;> omega)
  unfold sumD
  omega
theorem DPre.relax {D : List Int} (h : DPre n rs to D) (hg : GoodN n rs) (hto : IsPl n to) {r : Road} {a b : Int} (hl : Leg rs r a b) (hb : 0 ≤ tv D b) (hx : tv D a < ride r (tv D b)) :
    DPre n rs to (D.set a.toNat (ride r (tv D b))) ∧ sumD D < sumD (D.set a.toNat (ride r (tv D b))) := by
  have hf := leg_facts hg hl
  have ha := hf.1
  have hla := h.low a ha
  have hal : a.toNat < D.length := by have := h.len; unfold IsPl at ha; omega
  have hset := tv_set (ride r (tv D b)) hal
  have hcell : ∀ y, IsPl n y → (y.toNat = a.toNat ↔ y = a) := fun y hy => by
    have h1 := hy.1
    have h2 := ha.1
    omega
  have hd := h.att b hf.2.1 aO
  refine ⟨⟨by rw [List.length_set]; exact h.len, ?_, fun p hp => ?_, fun p hp hne => ?_⟩, ?_⟩
  · rw [hset]
    have := h.beg
    split
    · rename_i e
      have := (hcell to hto).1 e
      subst this
      omega
    · exact this
  · rw [hset]
    have := h.low p hp
    split <;> omega
  · rw [hset] at hne ⊢
    split
    · rename_i e
      have := (hcell p hp).1 e
      subst this
      exact .leg hd hl aO
    · rename_i e
      rw [if_neg e] at hne
      exact h.att p hp hne
  · rw [sumD, sumD, sumBy_set _ _ (tv_at hal)]
    omega
theorem dep_ex (hg : GoodN n rs) (hto : IsPl n to) : ∀ (k : Nat) (D : List Int), DPre n rs to D → 7000 - sumD D ≤ k → ∃ T, IsDep n rs to T := by
  intro k
  induction k with
  | zero =>
    intro D h hk
    refine ⟨D, h, fun r a b hl hb => Int.not_lt.1 fun hlt => ?_⟩
    have h1 := h.relax hg hto hl hb hlt
    have h2 := sumD_bnd h1.1 hg hto
    omega
  | succ k ih =>
    intro D h hk
    by_cases hc : ∃ r a b, Leg rs r a b ∧ 0 ≤ tv D b ∧ tv D a < ride r (tv D b)
    · obtain ⟨r, a, b, hl, hb, hlt⟩ := hc
      have h1 := h.relax hg hto hl hb hlt
      exact ih _ h1.1 aO
    · exact ⟨D, h, fun r a b hl hb => Int.not_lt.1 fun hlt => hc ⟨r, a, b, hl, hb, hlt⟩⟩
def dIni (n to : Int) : List Int := (List.replicate n.toNat (-1)).set to.toNat 999
theorem dIni_pre (hto : IsPl n to) : DPre n rs to (dIni n to) := by
  have hlt : to.toNat < (List.replicate n.toNat (-1 : Int)).length := by rw [List.length_replicate]; unfold IsPl at hto; omega
  have hset := tv_set (999 : Int) hlt
  have hrep : ∀ p, tv (List.replicate n.toNat (-1 : Int)) p = -1 := fun p => by
    unfold tv
    rw [List.getD_eq_getElem?_getD, List.getElem?_replicate]
    split <;> rfl
  refine ⟨by simp [dIni], ?_, fun p hp => ?_, fun p hp hne => ?_⟩
  · unfold dIni; rw [hset, if_pos rfl]; omega
  · unfold dIni; rw [hset, hrep]; split <;> omega
  · unfold dIni at hne ⊢
    rw [hset, hrep] at hne ⊢
    split
    · rename_i e
      have : p = to := by unfold IsPl at hto hp; omega
      subst this
      exact .to
    · rename_i e
      rw [if_neg e] at hne
      exact absurd rfl hne
end
/-- The last departures. -/
noncomputable def dep (n : Int) (rs : List Road) (to : Int) : List Int := Classical.epsilon fun T => IsDep n rs to T
section
variable {n to : Int} {rs : List Road}
theorem dep_is (hg : GoodN n rs) (hto : IsPl n to) : IsDep n rs to (dep n rs to) := by
  refine Classical.epsilon_spec (p := fun T => IsDep n rs to T) ?_
  have h := dIni_pre (rs := rs) hto
  have hb := sumD_bnd h hg hto
  exact dep_ex hg hto 7000 _ h aO
theorem dep_eq (hg : GoodN n rs) (hto : IsPl n to) {D : List Int} (h : IsDep n rs to D) : D = dep n rs to :=
  dep_unique hg hto h (dep_is hg hto).pre (dep_ge_pre hg hto h.pre (dep_is hg hto))
theorem dep_bnd (hg : GoodN n rs) (hto : IsPl n to) {p : Int} (hp : IsPl n p) : -1 ≤ tv (dep n rs to) p ∧ tv (dep n rs to) p ≤ 999 :=
  ⟨(dep_is hg hto).pre.low p hp, (dep_is hg hto).pre.hi hg hto hp⟩
/- Rounds. -/
abbrev LegT := Road × Int × Int
def relx (D : List Int) (l : LegT) : List Int := if 0 ≤ tv D l.2.2 then D.set l.2.1.toNat (max (tv D l.2.1) (ride l.1 (tv D l.2.2))) else D
def legsL (rs : List Road) : List LegT := rs.flatMap fun r => [(r, r.a, r.b), (r, r.b, r.a)]
theorem legsL_mem {l : LegT} : l ∈ legsL rs ↔ Leg rs l.1 l.2.1 l.2.2 := by
  unfold legsL Leg
  rw [List.mem_flatMap]
  constructor
  · rintro ⟨r, hr, hl⟩
    simp only [List.mem_cons, List.not_mem_nil, or_false] at hl
    rcases hl with rfl | rfl
    · exact ⟨hr, .inl ⟨rfl, rfl⟩⟩
    · exact ⟨hr, .inr ⟨rfl, rfl⟩⟩
  · rintro ⟨hr, h⟩
    obtain ⟨r, a, b⟩ := l
    refine ⟨r, hr, ?_⟩
    simp only at h
    rcases h with ⟨rfl, rfl⟩ | ⟨rfl, rfl⟩ <;> simp
theorem relx_len (D : List Int) (l : LegT) : (relx D l).length = D.length := by unfold relx; split <;> simp
theorem relx_pre {D : List Int} {l : LegT} (h : DPre n rs to D) (hg : GoodN n rs) (hto : IsPl n to) (hl : Leg rs l.1 l.2.1 l.2.2) : DPre n rs to (relx D l) := by
  unfold relx
  split
  · rename_i hb
    by_cases hx : tv D l.2.1 < ride l.1 (tv D l.2.2)
    · rw [Int.max_eq_right aO]
      exact (h.relax hg hto hl hb hx).1
    · rw [Int.max_eq_left aO]
      have hf := leg_facts hg hl
      have e := tv_at (T := D) (c := l.2.1) (by have := h.len; have := hf.1; unfold IsPl at this; omega)
      have : D.set l.2.1.toNat (tv D l.2.1) = D := by
        refine List.ext_getElem? fun j => ?_
        rw [List.getElem?_set]
        split
        · rename_i hj
          subst hj
          rw [e, if_pos (get_lt e)]
        · rfl
      rw [this]
      exact h
  · exact h
theorem relx_mono {D : List Int} {l : LegT} (hlt : l.2.1.toNat < D.length) (p : Int) : tv D p ≤ tv (relx D l) p := by
  unfold relx
  split
  · rw [tv_set _ hlt]
    split
    · rename_i e
      have : tv D p = tv D l.2.1 := by unfold tv; rw [e]
      omega
    · exact Int.le_refl _
  · exact Int.le_refl _
theorem relx_cov {D : List Int} {l : LegT} (hlt : l.2.1.toNat < D.length) (h0 : 0 ≤ tv D l.2.2) : ride l.1 (tv D l.2.2) ≤ tv (relx D l) l.2.1 := by
  unfold relx
  rw [if_pos h0, tv_set _ hlt, if_pos rfl]
  omega
theorem fold_len (L : List LegT) : ∀ D : List Int, (L.foldl relx D).length = D.length := by
  induction L with
  | nil => intro D; rfl
  | cons l L ih => intro D; rw [List.foldl_cons, ih, relx_len]
theorem fold_pre (hg : GoodN n rs) (hto : IsPl n to) : ∀ (L : List LegT) (D : List Int), (∀ l ∈ L, Leg rs l.1 l.2.1 l.2.2) → DPre n rs to D → DPre n rs to (L.foldl relx D)
  | [], D, _, h => h
  | l :: L, D, hL, h => fold_pre hg hto L _ (fun x hx => hL x (List.mem_cons_of_mem _ hx)) (relx_pre h hg hto (hL l List.mem_cons_self))
theorem fold_mono : ∀ (L : List LegT) (D : List Int), (∀ l ∈ L, l.2.1.toNat < D.length) → ∀ p, tv D p ≤ tv (L.foldl relx D) p
  | [], D, _, p => Int.le_refl _
  | l :: L, D, hL, p => Int.le_trans (relx_mono (hL l List.mem_cons_self) p) (fold_mono L (relx D l) (fun x hx => by rw [relx_len]; exact hL x (List.mem_cons_of_mem _ hx)) p)
theorem fold_cov {x : LegT} : ∀ (L : List LegT) (D : List Int), (∀ l ∈ L, l.2.1.toNat < D.length) → x ∈ L → 0 ≤ tv D x.2.2 → ride x.1 (tv D x.2.2) ≤ tv (L.foldl relx D) x.2.1
  | [], D, _, h, _ => by simp at h
  | l :: L, D, hL, h, h0 => by
    have hL' : ∀ y ∈ L, y.2.1.toNat < (relx D l).length := fun y hy => by rw [relx_len]; exact hL y (List.mem_cons_of_mem _ hy)
    have hm := relx_mono (hL l List.mem_cons_self)
    rcases List.mem_cons.1 h with rfl | h
    · exact Int.le_trans (relx_cov (hL x List.mem_cons_self) h0) (fold_mono L _ hL' _)
    · exact Int.le_trans (ride_mono x.1 (hm x.2.2)) (fold_cov L _ hL' h (Int.le_trans h0 (hm x.2.2)))
def rnds (rs : List Road) : Nat → List Int → List Int
  | 0, D => D
  | k + 1, D => (legsL rs).foldl relx (rnds rs k D)
theorem rnds_len (k : Nat) (D : List Int) : (rnds rs k D).length = D.length := by
  induction k with
  | zero => rfl
  | succ k ih => rw [rnds, fold_len, ih]
theorem rnds_pre (hg : GoodN n rs) (hto : IsPl n to) (k : Nat) : DPre n rs to (rnds rs k (dIni n to)) := by
  induction k with
  | zero => exact dIni_pre hto
  | succ k ih => exact fold_pre hg hto _ _ (fun l hl => legsL_mem.1 hl) ih
def rk (n : Int) (T : List Int) (p : Int) : Nat := (List.range n.toNat).countP fun q : Nat => decide (tv T p < tv T (q : Int))
theorem rk_lt {T : List Int} {p q : Int} (hq : IsPl n q) (h : tv T p < tv T q) : rk n T q < rk n T p := by
  unfold IsPl at hq
  refine count_lt (y := q.toNat) (fun x hx => ?_) (List.mem_range.2 aO) ?_ ?_
  · simp only [decide_eq_true_eq] at hx ⊢; omega
  · rw [show ((q.toNat : Nat) : Int) = q by omega]; simp only [decide_eq_true_eq]; exact h
  · rw [show ((q.toNat : Nat) : Int) = q by omega]; simp
theorem rk_bnd {T : List Int} {p : Int} (hp : IsPl n p) : rk n T p < n.toNat := by
  unfold IsPl at hp
  have : rk n T p < (List.range n.toNat).countP fun _ => true := by
    refine count_lt (y := p.toNat) (fun x hx => rfl) (List.mem_range.2 aO) rfl ?_
    rw [show ((p.toNat : Nat) : Int) = p by omega]; simp
  rw [List.countP_true, List.length_range] at this
  exact this
theorem dep_cases {T : List Int} (hT : IsDep n rs to T) (hg : GoodN n rs) (hto : IsPl n to) {p : Int} (hp : IsPl n p) :
    tv T p = -1 ∨ (p = to ∧ tv T p = 999) ∨ ∃ r q, Leg rs r p q ∧ 0 ≤ tv T q ∧ tv T p ≤ ride r (tv T q) ∧ tv T p < tv T q ∧ IsPl n q := by
  by_cases he : tv T p = -1
  · exact .inl he
  · right
    have h := hT.pre.att p hp he
    generalize hv : tv T p = v at h
    cases h with
    | to => exact .inl ⟨rfl, rfl⟩
    | @leg r _ q w hd hl h0 =>
      right
      have h1 := dep_ge hT hg hto hd
      have h2 := dch_facts hg hto hd
      have h3 := leg_facts hg hl
      exact ⟨r, q, hl, by omega, ride_mono r h1, by simp only [ride]; omega, h2.1⟩
theorem rnds_ge (hg : GoodN n rs) (hto : IsPl n to) {T : List Int} (hT : IsDep n rs to T) : ∀ (k : Nat) (p : Int), IsPl n p → rk n T p ≤ k → tv T p ≤ tv (rnds rs k (dIni n to)) p := by
  intro k
  induction k with
  | zero =>
    intro p hp hk
    have hpre := rnds_pre hg hto 0
    rcases dep_cases hT hg hto hp with h | ⟨rfl, h⟩ | ⟨r, q, hl, h0, h1, h2, hq⟩
    · rw [h]; exact hpre.low p hp
    · rw [h]; exact hpre.beg
    · have := rk_lt hq h2; omega
  | succ k ih =>
    intro p hp hk
    have hpre := rnds_pre hg hto (k + 1)
    rcases dep_cases hT hg hto hp with h | ⟨rfl, h⟩ | ⟨r, q, hl, h0, h1, h2, hq⟩
    · rw [h]; exact hpre.low p hp
    · rw [h]; exact hpre.beg
    · have h3 := rk_lt hq h2
      have h4 := ih q hq aO
      have hlen := (rnds_pre (rs := rs) hg hto k).len
      have h5 := fold_cov (x := (r, p, q)) (legsL rs) (rnds rs k (dIni n to)) (fun l hl' => by
        have := (leg_facts hg (legsL_mem.1 hl')).1
        unfold IsPl at this
        omega) (legsL_mem.2 hl) (by simp only; omega)
      have h6 := ride_mono r h4
      simp only [rnds] at h5 ⊢
      omega
theorem rnds_dep (hg : GoodN n rs) (hto : IsPl n to) : rnds rs n.toNat (dIni n to) = dep n rs to := by
  have hT := dep_is hg hto
  refine (dep_unique hg hto hT (rnds_pre hg hto _) fun p hp => rnds_ge hg hto hT _ p hp ?_).symm
  have := rk_bnd (T := dep n rs to) hp
  omega
end
end Go.Vs
