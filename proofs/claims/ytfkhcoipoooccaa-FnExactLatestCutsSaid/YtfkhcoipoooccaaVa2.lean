/- SPREAD: arrivals, the plain law: what any way of finding them must come to; no program in sight. -/
import Derived.Test.YtfkhcoipoooccaaVa1
set_option linter.unusedVariables false
set_option linter.unusedSimpArgs false
set_option maxRecDepth 100000
set_option maxHeartbeats 4000000
namespace Go.Vs
open Go.Proofs

structure Blz where
  (t : Terrain)
  (ps : List Phase)
  (src : List Int)
  (st : Int)
def GoodB (b : Blz) : Prop := (GoodT b.t ∧ (∀ s ∈ b.src, IsCell b.t s) ∧ Rising b.src) ∧ GoodP b.ps ∧ 0 ≤ b.st ∧ b.st ≤ 1000
instance (b : Blz) : Decidable (GoodB b) := by unfold GoodB; infer_instance
def hop (b : Blz) (a c v : Int) : Int := dn (spF b.ps) v (wkF b.t a c)
def Edge (b : Blz) (a c : Int) : Prop := IsCell b.t a ∧ IsCell b.t c ∧ apart b.t a c = 1 ∧ 0 < burnAt b.t c
def Lit (b : Blz) (s : Int) : Prop := IsCell b.t s ∧ 0 < burnAt b.t s ∧ s ∈ b.src
inductive Rch (b : Blz) : Int → Int → Prop
  | lit {s : Int} : Lit b s → Rch b s b.st
  | hop {a c v : Int} : Rch b a v → Edge b a c → Rch b c (hop b a c v)
def tv (T : List Int) (c : Int) : Int := T.getD c.toNat (-1)
structure Pre (b : Blz) (T : List Int) : Prop where
  len : T.length = b.t.burn.length
  lit : ∀ s, Lit b s → tv T s ≠ -1 ∧ tv T s ≤ b.st
  att : ∀ c, IsCell b.t c → tv T c ≠ -1 → Rch b c (tv T c)
def Clsd (b : Blz) (T : List Int) (a : Int) : Prop := tv T a ≠ -1 → ∀ c, Edge b a c → tv T c ≠ -1 ∧ tv T c ≤ hop b a c (tv T a)
structure IsArr (b : Blz) (T : List Int) : Prop where
  pre : Pre b T
  clo : ∀ a, IsCell b.t a → Clsd b T a
theorem tv_at {T : List Int} {c : Int} (h : c.toNat < T.length) : T[c.toNat]? = some (tv T c) := by
  obtain ⟨a, ha⟩ := get_ex h
  rw [ha, tv]
  simp [List.getD_eq_getElem?_getD, ha]
theorem tv_set {T : List Int} {i : Nat} (x : Int) (h : i < T.length) (c : Int) : tv (T.set i x) c = if c.toNat = i then x else tv T c := by
  unfold tv
  rw [List.getD_eq_getElem?_getD, List.getD_eq_getElem?_getD, List.getElem?_set]
  by_cases he : i = c.toNat
  · simp [he, he ▸ h]
  · simp [he, Ne.symm he]
section
variable {b : Blz}
theorem GoodB.sp (h : GoodB b) : ∀ t, 0 ≤ t → 1 ≤ spF b.ps t := fun t ht => (sp_bounds h.2.1 ht).1
theorem wk_bnd (h : GoodB b) {a c : Int} (ha : IsCell b.t a) (hc : IsCell b.t c) : 0 ≤ wkF b.t a c ∧ wkF b.t a c ≤ 120 ∧ (0 < burnAt b.t a → 4 ≤ wkF b.t a c ∨ burnAt b.t c = 0) := by
  have h1 := burn_bound h.1.1 ha
  have h2 := burn_bound h.1.1 hc
  simp only [wkF]
  split <;> omega
theorem rch_facts (h : GoodB b) {c v : Int} (hr : Rch b c v) : b.st ≤ v ∧ 0 < burnAt b.t c ∧ IsCell b.t c := by
  induction hr with
  | lit hs => exact ⟨Int.le_refl _, hs.2.1, hs.1⟩
  | @hop a c v hr he ih =>
    have hst := h.2.2
    have := dn_ge h.sp _ v (wkF b.t a c) rfl (by omega)
    exact ⟨by unfold hop; omega, he.2.2.2, he.2.1⟩
theorem hop_bnd (h : GoodB b) {a c v : Int} (hv : 0 ≤ v) (he : Edge b a c) (ha : 0 < burnAt b.t a) : v < hop b a c v ∧ hop b a c v ≤ v + 120 := by
  have hw := wk_bnd h he.1 he.2.1
  have := dn_ge h.sp _ v (wkF b.t a c) rfl hv
  have hb := he.2.2.2
  unfold hop
  rcases hw.2.2 ha with h1 | h1 <;> omega
theorem hop_mono (h : GoodB b) {a c v v' : Int} (hv : 0 ≤ v) (hvv : v ≤ v') : hop b a c v ≤ hop b a c v' := dn_mono h.sp hv hvv
theorem arr_le (h : GoodB b) {T : List Int} (hT : IsArr b T) {c v : Int} (hr : Rch b c v) : tv T c ≠ -1 ∧ tv T c ≤ v := by
  have hst := h.2.2
  induction hr with
  | lit hs => exact hT.pre.lit _ hs
  | @hop a c v hr he ih =>
    have h1 := hT.clo a he.1 ih.1 c he
    have h2 := rch_facts h (hT.pre.att a he.1 ih.1)
    have := hop_mono h (a := a) (c := c) (show 0 ≤ tv T a by omega) ih.2
    exact ⟨h1.1, by omega⟩
theorem arr_unique (h : GoodB b) {T T' : List Int} (hT : IsArr b T) (hT' : IsArr b T') : T = T' := by
  have key : ∀ {T T' : List Int}, IsArr b T → IsArr b T' → ∀ c, IsCell b.t c → tv T c ≠ -1 → tv T' c ≠ -1 ∧ tv T' c ≤ tv T c := fun h1 h2 c hc hne => arr_le h h2 (h1.pre.att c hc hne)
  refine List.ext_getElem? fun j => ?_
  by_cases hj : j < b.t.burn.length
  · have hc : IsCell b.t (j : Int) := ⟨by omega, by omega⟩
    have e1 := tv_at (T := T) (c := (j : Int)) (by rw [Int.toNat_natCast, hT.pre.len]; exact hj)
    have e2 := tv_at (T := T') (c := (j : Int)) (by rw [Int.toNat_natCast, hT'.pre.len]; exact hj)
    rw [Int.toNat_natCast] at e1 e2
    rw [e1, e2]
    congr 1
    by_cases h1 : tv T j = -1
    · by_cases h2 : tv T' j = -1
      · rw [h1, h2]
      · exact absurd h1 (key hT' hT j hc h2).1
    · have g1 := key hT hT' j hc h1
      have g2 := key hT' hT j hc g1.1
      omega
  · rw [List.getElem?_eq_none (by rw [hT.pre.len]; omega), List.getElem?_eq_none (by rw [hT'.pre.len]; omega)]
end
/-- The arrivals. -/
noncomputable def arr (b : Blz) : List Int := Classical.epsilon fun T => IsArr b T
theorem arr_is {b : Blz} {T : List Int} (h : IsArr b T) : IsArr b (arr b) := Classical.epsilon_spec (p := fun T => IsArr b T) ⟨T, h⟩
theorem arr_eq {b : Blz} (hb : GoodB b) {T : List Int} (h : IsArr b T) : T = arr b := arr_unique hb h (arr_is h)
/- How far the work has come. -/
theorem sumBy_set {α : Type} (g : α → Int) {l : List α} : ∀ {i : Nat} {a : α} (x : α), l[i]? = some a → sumBy g (l.set i x) = sumBy g l - g a + g x := by
  induction l with
  | nil => intro i a x h; simp at h
  | cons y l ih =>
    intro i a x h
    cases i with
    | zero =>
      simp only [List.getElem?_cons_zero, Option.some.injEq] at h
      subst h
      rw [List.set_cons_zero, sumBy_cons, sumBy_cons]
      omega
    | succ i =>
      rw [List.set_cons_succ, sumBy_cons, sumBy_cons, ih x (by simpa using h)]
      omega
@[reducible] def gfin (v : Int) : Int := if v = -1 then 0 else 1
@[reducible] def gval (v : Int) : Int := if v = -1 then 9000 else v
def cntF (T : List Int) : Int := sumBy gfin T
def valF (T : List Int) : Int := sumBy gval T
theorem cntF_bnd (T : List Int) : 0 ≤ cntF T ∧ cntF T ≤ T.length := by
  have := sumBy_bound gfin 1 T fun y _ => by simp only [gfin]; split <;> omega
  unfold cntF; omega
structure Mid (b : Blz) (T : List Int) : Prop where
  pre : Pre b T
  bnd : ∀ c, IsCell b.t c → tv T c ≤ b.st + 120 * cntF T
section
variable {b : Blz} {T : List Int}
theorem Mid.le (h : Mid b T) (hb : GoodB b) {c : Int} (hc : IsCell b.t c) : tv T c ≤ 4000 := by
  have h1 := h.bnd c hc
  have h2 := (cntF_bnd T).2
  have h3 := goodT_len hb.1.1
  have h4 := h.pre.len
  have h5 := hb.2.2
  omega
theorem Mid.ge (h : Mid b T) (hb : GoodB b) {c : Int} (hc : IsCell b.t c) (hne : tv T c ≠ -1) : 0 ≤ tv T c ∧ 0 < burnAt b.t c := by
  have h1 := rch_facts hb (h.pre.att c hc hne)
  have h5 := hb.2.2
  exact ⟨by omega, h1.2.1⟩
theorem cell_inT {c : Int} (h : T.length = b.t.burn.length) (hc : IsCell b.t c) : c.toNat < T.length := by
  have := hc; unfold IsCell at this; omega
theorem Mid.val (h : Mid b T) (hb : GoodB b) : 0 ≤ valF T := by
  have h5 := hb.2.2
  unfold valF
  have := sumBy_take_le gval T (fun y hy => by
    obtain ⟨i, hi⟩ := List.getElem?_of_mem hy
    have hlt := get_lt hi
    have hlen := h.pre.len
    have hc : IsCell b.t (i : Int) := ⟨by omega, by omega⟩
    have e := tv_at (T := T) (c := (i : Int)) (by rw [Int.toNat_natCast]; exact hlt)
    rw [Int.toNat_natCast, hi] at e
    injection e with e
    simp only [gval]
    split
    · omega
    · rename_i hne
      rw [e] at hne ⊢
      exact (h.ge hb hc hne).1) T.length
  rw [List.take_length] at this
  omega
/-- A cell is told an earlier tick. -/
theorem Mid.relax (h : Mid b T) (hb : GoodB b) {a c : Int} (he : Edge b a c) (ha : tv T a ≠ -1) (hx : tv T c = -1 ∨ hop b a c (tv T a) < tv T c) :
    Mid b (T.set c.toNat (hop b a c (tv T a))) ∧ valF (T.set c.toNat (hop b a c (tv T a))) < valF T := by
  have g1 := h.ge hb he.1 ha
  have g2 := hop_bnd hb g1.1 he g1.2
  have g3 := h.le hb he.1
  have hcl := cell_inT h.pre.len he.2.1
  have hst := hb.2.2
  have hat := tv_at hcl
  have hcnt : cntF (T.set c.toNat (hop b a c (tv T a))) = cntF T - gfin (tv T c) + 1 := by
    rw [cntF, sumBy_set gfin _ hat, cntF]
    simp only [gfin]
    rw [if_neg (show ¬ hop b a c (tv T a) = -1 by omega)]
  have hset := tv_set (hop b a c (tv T a)) hcl
  have hcell : ∀ y, IsCell b.t y → (y.toNat = c.toNat ↔ y = c) := fun y hy => by
    have h1 := hy.1
    have h2 := he.2.1.1
    omega
  refine ⟨⟨⟨by rw [List.length_set]; exact h.pre.len, fun s hs => ?_, fun y hy hne => ?_⟩, fun y hy => ?_⟩, ?_⟩
  · rw [hset]
    have hl := h.pre.lit s hs
    split
    · rename_i e
      have := (hcell s hs.1).1 e
      subst this
      rcases hx with hx | hx
      · exact absurd hx hl.1
      · omega
    · exact hl
  · rw [hset] at hne ⊢
    split
    · rename_i e
      have := (hcell y hy).1 e
      subst this
      exact .hop (h.pre.att a he.1 ha) he
    · rename_i e
      rw [if_neg e] at hne
      exact h.pre.att y hy hne
  · rw [hset, hcnt]
    have hbc := h.bnd c he.2.1
    have hba := h.bnd a he.1
    have hby := h.bnd y hy
    simp only [gfin]
    split
    · split
      · omega
      · rename_i hne
        rcases hx with hx | hx
        · exact absurd hx hne
        · omega
    · split <;> omega
  · rw [valF, sumBy_set gval _ hat, valF]
    simp only [gval]
    rw [if_neg (show ¬ hop b a c (tv T a) = -1 by omega)]
    split
    · omega
    · rename_i hne
      rcases hx with hx | hx
      · exact absurd hx hne
      · omega
/-- Where fire begins. -/
@[reducible] def iniV (b : Blz) (i : Nat) : Int := if 0 < burnAt b.t i ∧ (i : Int) ∈ b.src then b.st else -1
def iniL (b : Blz) : List Int := (List.range b.t.burn.length).map (iniV b)
theorem iniL_len (b : Blz) : (iniL b).length = b.t.burn.length := by simp [iniL]
theorem ini_tv {c : Int} (hc : IsCell b.t c) : tv (iniL b) c = if 0 < burnAt b.t c ∧ c ∈ b.src then b.st else -1 := by
  have h1 := hc; unfold IsCell at h1
  have e : ((c.toNat : Nat) : Int) = c := by omega
  have h2 : c.toNat < b.t.burn.length := by omega
  unfold tv iniL
  rw [List.getD_eq_getElem?_getD, List.getElem?_map, List.getElem?_range h2]
  simp only [Option.map_some, Option.getD_some, iniV, e]
theorem ini_mid (hb : GoodB b) : Mid b (iniL b) := by
  have hst := hb.2.2
  refine ⟨⟨iniL_len b, fun s hs => ?_, fun c hc hne => ?_⟩, fun c hc => ?_⟩
  · rw [ini_tv hs.1, if_pos ⟨hs.2.1, hs.2.2⟩]; omega
  · rw [ini_tv hc] at hne ⊢
    split
    · rename_i h; exact .lit ⟨hc, h.1, h.2⟩
    · rename_i h; rw [if_neg h] at hne; exact absurd rfl hne
  · have := cntF_bnd (iniL b)
    rw [ini_tv hc]
    split <;> omega
end
end Go.Vs
