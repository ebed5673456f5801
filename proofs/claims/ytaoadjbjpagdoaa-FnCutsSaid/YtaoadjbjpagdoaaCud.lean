/- Parts of a proof: what its last text mentions. -/
import Derived.Test.YtaoadjbjpagdoaaCuc
set_option linter.unusedVariables false
set_option linter.unusedSimpArgs false
namespace Go.Vs
abbrev Mtx := List (List Int)
def rw_ (M : Mtx) (a : Nat) : List Int := M.getD a []
def stpK (row : List Int) (a : Nat) (s : List Int × List Int) (b : Nat) : List Int × List Int :=
  if 0 < row.getD b 0 ∧ s.1.getD b 0 < 0 then (s.1.set b (a : Int), s.2 ++ [(b : Int)]) else s
def scan (row : List Int) (a : Nat) (s : List Int × List Int) : Nat → List Int × List Int
  | 0 => s
  | k + 1 => stpK row a (scan row a s k) k
def bst (M : Mtx) (n : Nat) (s : List Int × List Int) : List Int × List Int :=
  match s.2 with
  | [] => s
  | a :: r => scan (rw_ M a.toNat) a.toNat (s.1, r) n
def bf0 (n : Nat) : List Int × List Int := ((List.replicate n (-1)).set (n - 2) ((n - 2 : Nat) : Int), [((n - 2 : Nat) : Int)])
def bfs (M : Mtx) (n : Nat) : Nat → List Int × List Int
  | 0 => bf0 n
  | t + 1 => bst M n (bfs M n t)
def negs : List Int → Nat
  | [] => 0
  | x :: r => (if x < 0 then 1 else 0) + negs r
theorem getDk {α : Type} {l : List α} {i : Nat} {x d : α} (h : l[i]? = some x) : l.getD i d = x := by simp [List.getD_eq_getElem?_getD, h]
theorem getD_self {l : List Int} {i : Nat} {x : Int} (h : i < l.length) : (l.set i x).getD i 0 = x := getDk (by rw [List.getElem?_set_self h])
theorem getD_ne {l : List Int} {i j : Nat} {x : Int} (h : i ≠ j) : (l.set i x).getD j 0 = l.getD j 0 := by simp only [List.getD_eq_getElem?_getD]; rw [List.getElem?_set_ne h]
theorem negs_set : ∀ {l : List Int} {b : Nat} {x a : Int}, l[b]? = some x → x < 0 → 0 ≤ a → negs (l.set b a) + 1 = negs l
  | [], b, x, a, h, _, _ => by simp at h
  | y :: r, 0, x, a, h, hx, ha => by
    simp at h
    subst h
    simp only [List.set_cons_zero, negs]
    rw [if_neg aO, if_pos hx]
    omega
  | y :: r, b + 1, x, a, h, hx, ha => by
    have := negs_set (l := r) (b := b) (x := x) (a := a) (by simpa using h) hx ha
    simp only [List.set_cons_succ, negs]
    omega
theorem negs_rep : ∀ n, negs (List.replicate n (-1)) = n
  | 0 => rfl
  | n + 1 => by rw [List.replicate_succ]; simp only [negs]; rw [negs_rep n, if_pos aO]; omega
structure Bf (M : Mtx) (n : Nat) (L : List Nat) (h : Nat) (s : List Int × List Int) : Prop where
  len : s.1.length = n
  nx : s.2 = (L.drop h).map fun x : Nat => (x : Int)
  hl : h ≤ L.length
  nd : ∀ (i j x : Nat), L[i]? = some x → L[j]? = some x → i = j
  rg : ∀ x ∈ L, x < n
  vis : ∀ b, b < n → (0 ≤ s.1.getD b 0 ↔ b ∈ L)
  par : ∀ (i b : Nat), L[i + 1]? = some b → ∃ j a, j ≤ i ∧ L[j]? = some a ∧ s.1.getD b 0 = (a : Int) ∧ 0 < (rw_ M a).getD b 0
  hd : L[0]? = some (n - 2)
  cnt : L.length + negs s.1 = n
theorem Bf.stpK {M : Mtx} {n h g a b : Nat} {L : List Nat} {s : List Int × List Int} (H : Bf M n L h s) (hg : L[g]? = some a) (hb : b < n) :
    ∃ L', L'[g]? = some a ∧ Bf M n L' h (stpK (rw_ M a) a s b) := by
  unfold Go.Vs.stpK
  split
  · rename_i hc
    have hnb : b ∉ L := fun hm => by have := (H.vis b hb).2 hm; omega
    have hgl := get_lt hg
    have hbl : b < s.1.length := by rw [H.len]; exact hb
    refine ⟨L ++ [b], by rw [List.getElem?_append_left hgl]; exact hg, ?_⟩
    refine ⟨by simp [H.len], ?_, by have := H.hl; simp; omega, fun i j x hi hj => ?_, fun x hx => ?_, fun c hc' => ?_, fun i c hi => ?_, ?_, ?_⟩
    · rw [List.drop_append_of_le_length H.hl, List.map_append, ← H.nx]
      rfl
    · rcases Nat.lt_or_ge i L.length with li | li <;> rcases Nat.lt_or_ge j L.length with lj | lj
      · rw [List.getElem?_append_left li] at hi
        rw [List.getElem?_append_left lj] at hj
        exact H.nd i j x hi hj
      · rw [List.getElem?_append_left li] at hi
        rw [List.getElem?_append_right lj] at hj
        have := List.mem_of_getElem? hj
        simp at this
        rw [this] at hi
        exact absurd (get_mem hi) hnb
      · rw [List.getElem?_append_right li] at hi
        rw [List.getElem?_append_left lj] at hj
        have := List.mem_of_getElem? hi
        simp at this
        rw [this] at hj
        exact absurd (get_mem hj) hnb
      · have h1 := get_lt hi
        have h2 := get_lt hj
        simp at h1 h2
        omega
    · rcases List.mem_append.1 hx with h1 | h1
      · exact H.rg x h1
      · simp at h1; omega
    · by_cases hcb : b = c
      · subst hcb
        rw [getD_self hbl]
        simp
      · rw [getD_ne hcb, H.vis c hc']
        simp
        omega
    · rcases Nat.lt_or_ge (i + 1) L.length with li | li
      · rw [List.getElem?_append_left li] at hi
        obtain ⟨j, a', h1, h2, h3, h4⟩ := H.par i c hi
        have hcb : b ≠ c := fun e => hnb (by rw [e]; exact get_mem hi)
        refine ⟨j, a', h1, by rw [List.getElem?_append_left (get_lt h2)]; exact h2, by rw [getD_ne hcb]; exact h3, h4⟩
      · have h1 := get_lt hi
        simp at h1
        rw [List.getElem?_append_right li] at hi
        have := List.mem_of_getElem? hi
        simp at this
        subst this
        exact ⟨g, a, by omega, by rw [List.getElem?_append_left hgl]; exact hg, getD_self hbl, hc.1⟩
    · rw [List.getElem?_append_left (get_lt H.hd)]; exact H.hd
    · obtain ⟨x, hx⟩ := get_ex hbl
      have h1 := hc.2
      rw [getDk hx] at h1
      have := negs_set hx h1 (show (0 : Int) ≤ a by omega)
      have h2 := H.cnt
      simp only [List.length_append, List.length_cons, List.length_nil]
      omega
  · exact ⟨L, hg, H⟩
theorem Bf.scan {M : Mtx} {n h g a : Nat} {L : List Nat} {s : List Int × List Int} (H : Bf M n L h s) (hg : L[g]? = some a) : ∀ k, k ≤ n → ∃ L', L'[g]? = some a ∧ Bf M n L' h (scan (rw_ M a) a s k)
  | 0, _ => ⟨L, hg, H⟩
  | k + 1, hk => by
    obtain ⟨L1, h1, H1⟩ := Bf.scan H hg k aO
    exact H1.stpK h1 aO
theorem bf_init (M : Mtx) {n : Nat} (hn : 2 ≤ n) : Bf M n [n - 2] 0 (bf0 n) := by
  have hl : (List.replicate n (-1 : Int)).length = n := by simp
  have hg : (List.replicate n (-1 : Int))[n - 2]? = some (-1) := by rw [List.getElem?_replicate]; simp; omega
  refine ⟨by simp [bf0], by simp [bf0], by simp, fun i j x hi hj => ?_, fun x hx => ?_, fun b hb => ?_, fun i b hi => by simp at hi, rfl, ?_⟩
  · have h1 := get_lt hi
    have h2 := get_lt hj
    simp at h1 h2
    omega
  · simp at hx; omega
  · unfold bf0
    by_cases hb2 : n - 2 = b
    · subst hb2
      rw [getD_self (by rw [hl]; omega)]
      simp
    · rw [getD_ne hb2]
      rw [getDk (show (List.replicate n (-1 : Int))[b]? = some (-1) by rw [List.getElem?_replicate]; simp; omega)]
      simp
      omega
  · have := negs_set hg aO (show (0 : Int) ≤ ((n - 2 : Nat) : Int) by omega)
    rw [negs_rep] at this
    simp only [bf0, List.length_cons, List.length_nil]
    omega
theorem bst_nil {M : Mtx} {n : Nat} {s : List Int × List Int} (h : s.2 = []) : bst M n s = s := by unfold bst; rw [h]
theorem bst_cons {M : Mtx} {n a : Nat} {f r : List Int} : bst M n (f, (a : Int) :: r) = scan (rw_ M a) a (f, r) n := by simp [bst]
theorem Bf.pop {M : Mtx} {n h : Nat} {L : List Nat} {f : List Int} {x : Int} {r : List Int} (H : Bf M n L h (f, x :: r)) : ∃ a : Nat, x = (a : Int) ∧ L[h]? = some a ∧ Bf M n L (h + 1) (f, r) := by
  have hnx := H.nx
  simp only at hnx
  have hlt : h < L.length := by
    rcases Nat.lt_or_ge h L.length with h1 | h1
    · exact h1
    · rw [List.drop_eq_nil_of_le h1] at hnx; simp at hnx
  rw [List.drop_eq_getElem_cons hlt, List.map_cons] at hnx
  injection hnx with h1 h2
  exact ⟨L[h], h1, List.getElem?_eq_getElem hlt, ⟨H.len, h2, hlt, H.nd, H.rg, H.vis, H.par, H.hd, H.cnt⟩⟩
theorem bfs_bf (M : Mtx) {n : Nat} (hn : 2 ≤ n) : ∀ t, (∀ t', t' < t → (bfs M n t').2 ≠ []) → ∃ L, Bf M n L t (bfs M n t)
  | 0, _ => ⟨_, bf_init M hn⟩
  | t + 1, h => by
    obtain ⟨L, H⟩ := bfs_bf M hn t fun t' ht => h t' aO
    have hne := h t aO
    show ∃ L, Bf M n L (t + 1) (bst M n (bfs M n t))
    generalize bfs M n t = s at H hne
    obtain ⟨f, nx⟩ := s
    cases nx with
    | nil => exact absurd rfl hne
    | cons x r =>
      obtain ⟨a, rfl, h1, H1⟩ := H.pop
      rw [bst_cons]
      obtain ⟨L', _, H2⟩ := H1.scan h1 n (Nat.le_refl _)
      exact ⟨L', H2⟩
theorem bfs_fix {M : Mtx} {n t : Nat} (h : (bfs M n t).2 = []) : ∀ k, bfs M n (t + k) = bfs M n t
  | 0 => rfl
  | k + 1 => by show bst M n (bfs M n (t + k)) = _; rw [bfs_fix h k, bst_nil h]
def cameF (M : Mtx) (n : Nat) : List Int := (bfs M n (n + 1)).1
theorem bfs_last {M : Mtx} {n t : Nat} (hn : 2 ≤ n) (h : ∀ t', t' < t → (bfs M n t').2 ≠ []) (he : (bfs M n t).2 = []) : (bfs M n t).1 = cameF M n := by
  obtain ⟨L, H⟩ := bfs_bf M hn t h
  have h1 := H.hl
  have h2 := H.cnt
  have : n + 1 = t + (n + 1 - t) := by omega
  unfold cameF
  rw [this, bfs_fix he]
theorem came_bf (M : Mtx) {n : Nat} (hn : 2 ≤ n) : ∃ L h, Bf M n L h (cameF M n, []) := by
  by_cases hx : ∃ t, t ≤ n + 1 ∧ (bfs M n t).2 = []
  · obtain ⟨t, ht, he⟩ := hx
    obtain ⟨T, hT, hl⟩ : ∃ T, (T ≤ t ∧ (bfs M n T).2 = []) ∧ ∀ j, j < T → (bfs M n j).2 ≠ [] := by
      clear ht
      induction t using Nat.strongRecOn with
      | ind t ih =>
        by_cases hj : ∃ j, j < t ∧ (bfs M n j).2 = []
        · obtain ⟨j, hj1, hj2⟩ := hj
          obtain ⟨T, ⟨h1, h2⟩, h3⟩ := ih j hj1 hj2
          exact ⟨T, ⟨by omega, h2⟩, h3⟩
        · exact ⟨t, ⟨Nat.le_refl _, he⟩, fun j h1 h2 => hj ⟨j, h1, h2⟩⟩
    obtain ⟨L, H⟩ := bfs_bf M hn T hl
    refine ⟨L, T, ?_⟩
    rw [← bfs_last hn hl hT.2, ← hT.2]
    exact H
  · obtain ⟨L, H⟩ := bfs_bf M hn (n + 1) fun t' ht he => hx ⟨t', by omega, he⟩
    have h1 := H.hl
    have h2 := H.cnt
    omega
def psh1 (M : Mtx) (a b : Nat) : Mtx :=
  (M.set a ((rw_ M a).set b (IntKind.i64.wrap ((rw_ M a).getD b 0 - 1)))).set b ((rw_ M b).set a (IntKind.i64.wrap ((rw_ M b).getD a 0 + 1)))
def wst (f : List Int) (n : Nat) (s : Mtx × Nat) : Mtx × Nat := if s.2 = n - 2 then s else (psh1 s.1 (f.getD s.2 0).toNat s.2, (f.getD s.2 0).toNat)
def wlk (f : List Int) (n : Nat) : Nat → Mtx × Nat → Mtx × Nat
  | 0, s => s
  | t + 1, s => wlk f n t (wst f n s)
theorem wlk_succ (f : List Int) (n : Nat) : ∀ t s, wlk f n (t + 1) s = wst f n (wlk f n t s)
  | 0, s => rfl
  | t + 1, s => wlk_succ f n t (wst f n s)
theorem wlk_fix {f : List Int} {n : Nat} : ∀ {t : Nat} {s : Mtx × Nat} (k : Nat), (wlk f n t s).2 = n - 2 → wlk f n (t + k) s = wlk f n t s
  | t, s, 0, h => rfl
  | t, s, k + 1, h => by
    show wlk f n (t + k + 1) s = _
    rw [wlk_succ, wlk_fix k h]
    unfold wst
    rw [if_pos h]
def canP (M : Mtx) (n : Nat) : Bool := decide (0 ≤ (cameF M n).getD (n - 1) 0)
def pshM (M : Mtx) (n : Nat) : Mtx := (wlk (cameF M n) n n (M, n - 1)).1
def Dim (n : Nat) (M : Mtx) : Prop := M.length = n ∧ ∀ r ∈ M, r.length = n
theorem Dim.row {n a : Nat} {M : Mtx} (h : Dim n M) (ha : a < n) : M[a]? = some (rw_ M a) ∧ (rw_ M a).length = n := by
  obtain ⟨r, hr⟩ := get_ex (show a < M.length by rw [h.1]; exact ha)
  have : rw_ M a = r := getDk hr
  rw [this]
  exact ⟨hr, h.2 r (get_mem hr)⟩
theorem Dim.set {n a : Nat} {M : Mtx} (h : Dim n M) {r : List Int} (hr : r.length = n) : Dim n (M.set a r) :=
  ⟨by simp [h.1], fun x hx => by rcases List.mem_or_eq_of_mem_set hx with h1 | h1; exact h.2 x h1; rw [h1]; exact hr⟩
theorem rw_self {M : Mtx} {a : Nat} {r : List Int} (h : a < M.length) : rw_ (M.set a r) a = r := getDk (by rw [List.getElem?_set_self h])
theorem rw_ne {M : Mtx} {a c : Nat} {r : List Int} (h : a ≠ c) : rw_ (M.set a r) c = rw_ M c := by unfold rw_; simp only [List.getD_eq_getElem?_getD]; rw [List.getElem?_set_ne h]
theorem Dim.psh1 {n a b : Nat} {M : Mtx} (h : Dim n M) (ha : a < n) (hb : b < n) : Dim n (psh1 M a b) :=
  (h.set (by rw [List.length_set]; exact (h.row ha).2)).set (by rw [List.length_set]; exact (h.row hb).2)
theorem Bf.back {M : Mtx} {n h k b : Nat} {L : List Nat} {s : List Int × List Int} (H : Bf M n L h s) (hn : 2 ≤ n) (hk : L[k]? = some b) (hb : b ≠ n - 2) :
    ∃ j a, j < k ∧ L[j]? = some a ∧ s.1.getD b 0 = (a : Int) ∧ 0 < (rw_ M a).getD b 0 ∧ a < n ∧ b < n ∧ a ≠ b ∧ (a = n - 2 → j = 0) ∧ s.1[b]? = some (a : Int) := by
  cases k with
  | zero => rw [H.hd] at hk; injection hk with hk; exact absurd hk.symm hb
  | succ i =>
    obtain ⟨j, a, h1, h2, h3, h4⟩ := H.par i b hk
    have hbn := H.rg b (get_mem hk)
    refine ⟨j, a, by omega, h2, h3, h4, H.rg a (get_mem h2), hbn, fun e => ?_, fun e => ?_, ?_⟩
    · rw [e] at h2
      have := H.nd j (i + 1) b h2 hk
      omega
    · rw [e] at h2
      exact H.nd j 0 _ h2 H.hd
    · obtain ⟨x, hx⟩ := get_ex (show b < s.1.length by rw [H.len]; exact hbn)
      rw [getDk hx] at h3
      rw [hx, h3]
theorem walk_ex {M : Mtx} {n h : Nat} {L : List Nat} {f : List Int} (H : Bf M n L h (f, [])) (hn : 2 ≤ n) : ∀ (k b : Nat) (M' : Mtx), L[k]? = some b → 0 < k → Dim n M' → rw_ M' (n - 2) = rw_ M (n - 2) →
    ∃ t M'', t ≤ k ∧ wlk f n t (M', b) = (M'', n - 2) ∧ Dim n M'' ∧ ∃ b0, b0 < n ∧ 0 < (rw_ M (n - 2)).getD b0 0 ∧ rw_ M'' (n - 2) = (rw_ M (n - 2)).set b0 (IntKind.i64.wrap ((rw_ M (n - 2)).getD b0 0 - 1)) := by
  intro k
  induction k using Nat.strongRecOn with
  | ind k ih =>
    intro b M' hk hpos hD hrow
    have hb : b ≠ n - 2 := fun e => by rw [e] at hk; have := H.nd k 0 _ hk H.hd; omega
    obtain ⟨j, a, g1, g2, g3, g4, g5, g6, g7, g8, _⟩ := H.back hn hk hb
    simp only at g3
    have hw : wst f n (M', b) = (psh1 M' a b, a) := by
      unfold wst
      rw [if_neg hb, g3, Int.toNat_natCast]
    by_cases ha : a = n - 2
    · refine ⟨1, psh1 M' a b, by omega, ?_, hD.psh1 g5 g6, b, g6, by rw [← ha]; exact g4, ?_⟩
      · show wst f n (M', b) = _
        rw [hw, ha]
      · unfold psh1
        rw [ha]
        rw [rw_ne hb, rw_self (by rw [hD.1]; omega), hrow]
    · rcases Nat.eq_zero_or_pos j with hj | hj
      · subst hj
        rw [H.hd] at g2
        injection g2 with g2
        exact absurd g2.symm ha
      · have hr : rw_ (psh1 M' a b) (n - 2) = rw_ M (n - 2) := by
          unfold psh1
          rw [rw_ne hb, rw_ne ha, hrow]
        obtain ⟨t, M'', t1, t2, t3, t4⟩ := ih j g1 a (psh1 M' a b) g2 hj (hD.psh1 g5 g6) hr
        refine ⟨t + 1, M'', by omega, ?_, t3, t4⟩
        show wlk f n t (wst f n (M', b)) = _
        rw [hw, t2]
theorem push_ex {M : Mtx} {n : Nat} (hn : 2 ≤ n) (hD : Dim n M) (h : canP M n = true) : Dim n (pshM M n) ∧ ∃ b0, b0 < n ∧ 0 < (rw_ M (n - 2)).getD b0 0 ∧ rw_ (pshM M n) (n - 2) = (rw_ M (n - 2)).set b0 (IntKind.i64.wrap ((rw_ M (n - 2)).getD b0 0 - 1)) := by
  obtain ⟨L, h0, H⟩ := came_bf M hn
  have hv := (H.vis (n - 1) aO).1 (by simpa [canP] using h)
  obtain ⟨k, hk⟩ := List.mem_iff_getElem?.1 hv
  have hpos : 0 < k := by
    rcases Nat.eq_zero_or_pos k with h1 | h1
    · subst h1
      rw [H.hd] at hk
      injection hk with hk
      omega
    · exact h1
  obtain ⟨t, M'', t1, t2, t3, t4⟩ := walk_ex H hn k (n - 1) M hk hpos hD rfl
  have hkl := get_lt hk
  have hc := H.cnt
  have : pshM M n = M'' := by
    unfold pshM
    have e : n = t + (n - t) := by omega
    rw [show wlk (cameF M n) n n (M, n - 1) = wlk (cameF M n) n (t + (n - t)) (M, n - 1) by rw [← e]]
    rw [wlk_fix (n - t) (by rw [t2]), t2]
  rw [this]
  exact ⟨t3, t4⟩
def psum (l : List Int) : Int := l.foldr (· + ·) 0
theorem psum_set : ∀ {l : List Int} {b : Nat} {x y : Int}, l[b]? = some x → psum (l.set b y) = psum l - x + y
  | [], b, x, y, h => by simp at h
  | z :: r, 0, x, y, h => by simp at h; subst h; simp only [List.set_cons_zero, psum, List.foldr_cons]; omega
  | z :: r, b + 1, x, y, h => by
    have := psum_set (l := r) (b := b) (x := x) (y := y) (by simpa using h)
    simp only [psum] at this
    simp only [List.set_cons_succ, psum, List.foldr_cons, this]
    omega
theorem psum_ge : ∀ {l : List Int}, (∀ x ∈ l, 0 ≤ x ∧ x ≤ 1) → 0 ≤ psum l ∧ psum l ≤ l.length
  | [], _ => by simp [psum]
  | z :: r, h => by
    have h1 := psum_ge (l := r) fun x hx => h x (List.mem_cons_of_mem _ hx)
    have h2 := h z List.mem_cons_self
    simp only [psum, List.foldr_cons, List.length_cons] at h1 ⊢
    omega
def SrcM (n : Nat) (M : Mtx) : Prop := Dim n M ∧ ∀ x ∈ rw_ M (n - 2), 0 ≤ x ∧ x ≤ 1
theorem SrcM.push {M : Mtx} {n : Nat} (hn : 2 ≤ n) (h : SrcM n M) (hc : canP M n = true) : SrcM n (pshM M n) ∧ psum (rw_ (pshM M n) (n - 2)) = psum (rw_ M (n - 2)) - 1 := by
  obtain ⟨h1, b0, h2, h3, h4⟩ := push_ex hn h.1 hc
  obtain ⟨x, hx⟩ := get_ex (show b0 < (rw_ M (n - 2)).length by rw [(h.1.row (show n - 2 < n by omega)).2]; exact h2)
  rw [getDk hx] at h3 h4
  have hb := h.2 x (get_mem hx)
  have hw : IntKind.i64.wrap (x - 1) = x - 1 := wrap_in aO
  rw [hw] at h4
  refine ⟨⟨h1, fun y hy => ?_⟩, ?_⟩
  · rw [h4] at hy
    rcases List.mem_or_eq_of_mem_set hy with g | g
    · exact h.2 y g
    · omega
  · rw [h4, psum_set hx]
    omega
def wys (M : Mtx) (n : Nat) : Nat → Mtx
  | 0 => M
  | t + 1 => pshM (wys M n t) n
theorem wys_src {M : Mtx} {n : Nat} (hn : 2 ≤ n) (h : SrcM n M) : ∀ t, (∀ t', t' < t → canP (wys M n t') n = true) → SrcM n (wys M n t) ∧ psum (rw_ (wys M n t) (n - 2)) = psum (rw_ M (n - 2)) - t
  | 0, _ => ⟨h, by simp [wys]⟩
  | t + 1, hc => by
    obtain ⟨h1, h2⟩ := wys_src hn h t fun t' ht => hc t' aO
    obtain ⟨h3, h4⟩ := h1.push hn (hc t aO)
    exact ⟨h3, by show psum (rw_ (pshM (wys M n t) n) (n - 2)) = _; rw [h4, h2]; omega⟩
theorem wys_ex {M : Mtx} {n : Nat} (hn : 2 ≤ n) (h : SrcM n M) : ∃ N, N ≤ n ∧ canP (wys M n N) n = false ∧ ∀ t, t < N → canP (wys M n t) n = true := by
  by_cases hx : ∃ t, t ≤ n ∧ canP (wys M n t) n = false
  · obtain ⟨t, ht, he⟩ := hx
    induction t using Nat.strongRecOn with
    | ind t ih =>
      by_cases hj : ∃ j, j < t ∧ canP (wys M n j) n = false
      · obtain ⟨j, hj1, hj2⟩ := hj
        exact ih j hj1 aO hj2
      · refine ⟨t, ht, he, fun j h1 => ?_⟩
        cases hc : canP (wys M n j) n with
        | true => rfl
        | false => exact absurd ⟨j, h1, hc⟩ hj
  · obtain ⟨h1, h2⟩ := wys_src hn h (n + 1) fun t' ht => by
      cases hc : canP (wys M n t') n with
      | true => rfl
      | false => exact absurd ⟨t', by omega, hc⟩ hx
    have h3 := psum_ge h1.2
    have h4 := psum_ge h.2
    rw [(h.1.row (show n - 2 < n by omega)).2] at h4
    omega
end Go.Vs
set_option linter.unusedVariables false
set_option linter.unusedSimpArgs false
set_option maxRecDepth 100000
namespace Go.Vs
open Go.Proofs
theorem hmix : Try.prog.follows .mixedOrders = true := by kernel_rfl
theorem ty_c3 : TCell Try.prog 3 := tcell (by kernel_rfl)
theorem ty_u3 : Try.prog.underlying 3 = some (.int .i64) := Try.underlying3
theorem ty_t3 : TSize Try.prog 3 1 := tsize (by kernel_rfl)
theorem ty_z3 : TZero Try.prog 3 [.int .i64 0] := tzero (.int .i64 0) (by kernel_rfl) rfl
theorem ty_c4 : TCell Try.prog 4 := tcell (by kernel_rfl)
theorem ty_u4 : Try.prog.underlying 4 = some .bool := Try.underlying4
theorem ty_t4 : TSize Try.prog 4 1 := tsize (by kernel_rfl)
theorem ty_z4 : TZero Try.prog 4 [.bool false] := tzero (.bool false) (by kernel_rfl) rfl
theorem ty_c5 : TCell Try.prog 5 := tcell (by kernel_rfl)
theorem ty_u5 : Try.prog.underlying 5 = some (.int .u8) := Try.underlying5
theorem ty_c22 : TCell Try.prog 22 := tcell (by kernel_rfl)
theorem ty_u22 : Try.prog.underlying 22 = some (.slice 5) := Try.underlying22
theorem ty_s22 : TSlice Try.prog 22 5 1 1 := tslice (by kernel_rfl)
theorem ty_c24 : TCell Try.prog 24 := tcell (by kernel_rfl)
theorem ty_u24 : Try.prog.underlying 24 = some (.slice 3) := Try.underlying24
theorem ty_t24 : TSize Try.prog 24 1 := tsize (by kernel_rfl)
theorem ty_s24 : TSlice Try.prog 24 3 1 8 := tslice (by kernel_rfl)
theorem ty_t26 : TSize Try.prog 26 3 := tsize (by kernel_rfl)
theorem ty_z26 : TZero Try.prog 26 [.int .i64 0, .int .i64 0, .nil] := tzero (.agg #[.int .i64 0, .int .i64 0, .slice none 0 0]) (by kernel_rfl) rfl
theorem ty_a26 : TAgg Try.prog 26 3 := tagg (by kernel_rfl)
theorem ty_f26_0 : TField Try.prog 26 0 0 := tfield (by kernel_rfl)
theorem ty_f26_1 : TField Try.prog 26 1 1 := tfield (by kernel_rfl)
theorem ty_f26_2 : TField Try.prog 26 2 2 := tfield (by kernel_rfl)
theorem ty_st26 : TStruct Try.prog 26 [(0, 1), (1, 1), (2, 1)] [.int .i64 0, .int .i64 0, .nil] := tstruct (by kernel_rfl) ty_z26
theorem ty_u27 : Try.prog.underlying 27 = some (.slice 93) := Try.underlying27
theorem ty_s27 : TSlice Try.prog 27 93 2 16 := tslice (by kernel_rfl)
theorem ty_u30 : Try.prog.underlying 30 = some (.slice 38) := Try.underlying30
theorem ty_s30 : TSlice Try.prog 30 38 2 16 := tslice (by kernel_rfl)
theorem ty_t38 : TSize Try.prog 38 2 := tsize (by kernel_rfl)
theorem ty_z38 : TZero Try.prog 38 [.int .i64 0, .int .i64 0] := tzero (.agg #[.int .i64 0, .int .i64 0]) (by kernel_rfl) rfl
theorem ty_a38 : TAgg Try.prog 38 2 := tagg (by kernel_rfl)
theorem ty_f38_0 : TField Try.prog 38 0 0 := tfield (by kernel_rfl)
theorem ty_f38_1 : TField Try.prog 38 1 1 := tfield (by kernel_rfl)
theorem ty_st38 : TStruct Try.prog 38 [(0, 1), (1, 1)] [.int .i64 0, .int .i64 0] := tstruct (by kernel_rfl) ty_z38
theorem ty_c48 : TCell Try.prog 48 := tcell (by kernel_rfl)
theorem ty_u48 : Try.prog.underlying 48 = some (.int .u64) := Try.underlying48
theorem ty_t48 : TSize Try.prog 48 1 := tsize (by kernel_rfl)
theorem ty_z50 : TZero Try.prog 50 [.nil, .int .i64 0, .int .u64 0] := tzero (.agg #[.slice none 0 0, .int .i64 0, .int .u64 0]) (by kernel_rfl) rfl
theorem ty_f50_0 : TField Try.prog 50 0 0 := tfield (by kernel_rfl)
theorem ty_f50_1 : TField Try.prog 50 1 1 := tfield (by kernel_rfl)
theorem ty_f50_2 : TField Try.prog 50 2 2 := tfield (by kernel_rfl)
theorem ty_st50 : TStruct Try.prog 50 [(0, 1), (1, 1), (2, 1)] [.nil, .int .i64 0, .int .u64 0] := tstruct (by kernel_rfl) ty_z50
theorem ty_c53 : TCell Try.prog 53 := tcell (by kernel_rfl)
theorem ty_s76 : TSlice Try.prog 76 4 1 1 := tslice (by kernel_rfl)
theorem ty_t93 : TSize Try.prog 93 2 := tsize (by kernel_rfl)
theorem ty_z93 : TZero Try.prog 93 [.int .i64 0, .int .i64 0] := tzero (.agg #[.int .i64 0, .int .i64 0]) (by kernel_rfl) rfl
theorem ty_a93 : TAgg Try.prog 93 2 := tagg (by kernel_rfl)
theorem ty_f93_0 : TField Try.prog 93 0 0 := tfield (by kernel_rfl)
theorem ty_f93_1 : TField Try.prog 93 1 1 := tfield (by kernel_rfl)
theorem ty_st93 : TStruct Try.prog 93 [(0, 1), (1, 1)] [.int .i64 0, .int .i64 0] := tstruct (by kernel_rfl) ty_z93
theorem ty_u104 : Try.prog.underlying 104 = some (.slice 24) := Try.underlying104
theorem ty_s104 : TSlice Try.prog 104 24 1 24 := tslice (by kernel_rfl)
end Go.Vs
set_option linter.unusedVariables false
set_option linter.unusedSimpArgs false
set_option maxRecDepth 100000
set_option maxHeartbeats 4000000
namespace Go.Vs
open Go.Proofs
attribute [local irreducible] exec vwp thenQ blkQ loopQ RetPost
theorem k_l1In (x a b : Int) : Con Try.prog 60 [.int .i64 x, .int .i64 a, .int .i64 b] (.bool (decide (a ≤ x) && decide (x ≤ b))) := by
  intro al
  refine contract_of hmix Try.func60 rfl (by kernel_rfl) (by kernel_rfl) (Nat.le_of_ble_eq_true rfl) (fun row h => by cases h) ?_
  repeat' (first | (refine pA (k := ?_)) | (refine g_exec ?_; first | (refine g_guard ?_; refine x_gsplit rfl rfl (fun h => ?_) (fun h => ?_) <;> (have h' := h; try simp only [sx] at h')) | (refine x_nil (hK _ _ aI ?_); clear hK K)) | (refine v_region (fun K hK => ?_)))
  all_goals (refine ret_bool rfl (lookE_ok rfl) ?_; simp; omega)
theorem k_in (x a b : Int) : Con Try.prog 47 [.int .i64 x, .int .i64 a, .int .i64 b] (.bool (decide (a ≤ x) && decide (x ≤ b))) := by
  intro al
  refine contract_of hmix Try.func47 rfl (by kernel_rfl) (by kernel_rfl) (Nat.le_of_ble_eq_true rfl) (fun row h => by cases h) ?_
  repeat' (first | (refine pA (k := ?_)) | (refine g_exec ?_; first | (refine g_guard ?_; refine x_gsplit rfl rfl (fun h => ?_) (fun h => ?_) <;> (have h' := h; try simp only [sx] at h')) | (refine x_nil (hK _ _ aI ?_); clear hK K)) | (refine v_region (fun K hK => ?_)))
  all_goals (refine ret_bool rfl (lookE_ok rfl) ?_; simp; omega)
theorem k_l1Least (a b : Int) : Con Try.prog 85 [.int .i64 a, .int .i64 b] (.int .i64 (min a b)) := by
  intro al
  refine contract_of hmix Try.func85 rfl (by kernel_rfl) (by kernel_rfl) (Nat.le_of_ble_eq_true rfl) (fun row h => by cases h) ?_
  repeat' (first | (refine pA (k := ?_)) | (refine g_exec ?_; refine x_nil (hK _ _ aI ?_); clear hK K) | (refine v_region (fun K hK => ?_)) | (refine v_condt rfl (fun h => ?_) (fun h => ?_) <;> (have h' := h; try simp only [sx] at h')))
  all_goals (exact ret_int rfl (lookE_ok rfl) aO)
theorem k_l1Most (a b : Int) : Con Try.prog 84 [.int .i64 a, .int .i64 b] (.int .i64 (max a b)) := by
  intro al
  refine contract_of hmix Try.func84 rfl (by kernel_rfl) (by kernel_rfl) (Nat.le_of_ble_eq_true rfl) (fun row h => by cases h) ?_
  repeat' (first | (refine pA (k := ?_)) | (refine g_exec ?_; refine x_nil (hK _ _ aI ?_); clear hK K) | (refine v_region (fun K hK => ?_)) | (refine v_condt rfl (fun h => ?_) (fun h => ?_) <;> (have h' := h; try simp only [sx] at h')))
  all_goals (exact ret_int rfl (lookE_ok rfl) aO)
end Go.Vs
set_option linter.unusedVariables false
set_option linter.unusedSimpArgs false
set_option maxRecDepth 100000
set_option maxHeartbeats 4000000
namespace Go.Vs
open Go.Proofs
attribute [local irreducible] exec vwp thenQ blkQ loopQ RetPost
structure Terrain where
  (width height : Int)
  (burn : List Int)
  deriving DecidableEq
@[reducible] def Terrain.pv (t : Terrain) : List PV := [.int .i64 t.width, .int .i64 t.height, .list 1 (ints t.burn)]
end Go.Vs
set_option linter.unusedVariables false
set_option linter.unusedSimpArgs false
set_option maxRecDepth 100000
set_option maxHeartbeats 4000000
namespace Go.Vs
open Go.Proofs
attribute [local irreducible] exec vwp thenQ blkQ loopQ RetPost
theorem k_IndexFuncInt (xs : List Int) (g : FuncId) (ca : List (List PV)) (p : Int → Bool) (hg : ∀ a ∈ xs, Con Try.prog g (.int .i64 a :: ca.map PV.ptr) (.bool (p a))) (hn : xs.length ≤ 1099511627776) :
    Con Try.prog 88 [.list 1 (ints xs), .fn g [] (ca.map PV.ptr)] (.int .i64 (idx p xs)) := by
  intro al
  refine contract_of hmix Try.func88 rfl (by kernel_rfl) (by kernel_rfl) (Nat.le_of_ble_eq_true rfl) (fun row h => by cases h) ?_
  have hty_u24 := ty_u24
  have hty_s24 := ty_s24
  have hty_c3 := ty_c3
  have hl1 : (ints xs).length = xs.length := by simp
  repeat' (first | (refine pA (k := ?_)) | (refine g_exec ?_; refine x_nil (hK _ _ aI ?_); clear hK K) | (refine v_region (fun K hK => ?_)) | (refine v_condt rfl (fun h => ?_) (fun h => ?_) <;> (have h' := h; try simp only [sx] at h')))
  refine v_loopK [0, 1, 7] [] (fun i : Nat => [(8, .int .i64 i)]) (fun i : Nat => []) (fun i : Nat => i ≤ xs.length ∧ ∀ j, j < i → ∀ c, xs[j]? = some c → p c = false) (fun i : Nat => xs.length - i) (0) rfl rfl (fun _ => rfl) (fun _ => rfl) rfl (by refine ⟨?_, ?_, rfl, rfl⟩ <;> (repeat' (first | exact trivial | exact ⟨rfl, rfl⟩ | exact rfl | exact ⟨sub_fn, refs_fn⟩ | refine ⟨⟨rfl, rfl⟩, ?_⟩ | refine ⟨⟨sub_fn, refs_fn⟩, ?_⟩ | refine ⟨⟨rfl, fun h => Bool.noConfusion h⟩, ?_⟩ | refine ⟨⟨rfl, fun h => ?_⟩, ?_⟩ | refine ⟨rfl, ?_⟩ | refine ⟨?_, ?_⟩ | fail))) ⟨by omega, fun j hj => by omega⟩ (fun i hi => ?_)
  obtain ⟨hi1, hi2⟩ := hi
  rcases Nat.lt_or_ge i xs.length with hlt | hge
  · obtain ⟨a, hga⟩ := get_ex hlt
    have hx := ints_at hga
    have kg := hg a (get_mem hga)
    repeat' (first | (refine pA (k := ?_)) | (refine g_exec ?_; first | (refine g_call ?_; first | (refine x_callG true (kg) rfl rfl rfl aS rfl aH ?_; simp only [cl]) | (refine x_call [] _ (kg) rfl rfl aS rfl aH ?_; simp only [cl])) | (refine x_nil (hK _ _ aI ?_); clear hK K)) | (refine v_region (fun K hK => ?_)) | (refine v_condt rfl (fun h => ?_) (fun h => ?_) <;> (have h' := h; try simp only [sx] at h')))
    · exact ret_int rfl (lookE_ok rfl) (idx_some hi2 hga aA).symm
    · refine q_next (i + 1) rfl (by refine ⟨?_, ?_, rfl, rfl⟩ <;> (repeat' (first | exact trivial | exact ⟨rfl, rfl⟩ | exact rfl | exact ⟨sub_fn, refs_fn⟩ | refine ⟨⟨rfl, rfl⟩, ?_⟩ | refine ⟨⟨sub_fn, refs_fn⟩, ?_⟩ | refine ⟨⟨rfl, fun h => Bool.noConfusion h⟩, ?_⟩ | refine ⟨⟨rfl, fun h => ?_⟩, ?_⟩ | refine ⟨rfl, ?_⟩ | refine ⟨?_, ?_⟩ | fail))) ⟨by omega, idx_step hi2 hga (by simpa using h)⟩ aO
  · repeat' (first | (refine pA (k := ?_)) | (refine g_exec ?_; refine x_nil (hK _ _ aI ?_); clear hK K) | (refine v_region (fun K hK => ?_)) | (refine v_condt rfl (fun h => ?_) (fun h => ?_) <;> (have h' := h; try simp only [sx] at h')))
    exact ret_int rfl (lookE_ok rfl) (idx_none fun j hj => hi2 j aO).symm
theorem k_ContainsFuncInt (xs : List Int) (g : FuncId) (ca : List (List PV)) (p : Int → Bool) (hg : ∀ a ∈ xs, Con Try.prog g (.int .i64 a :: ca.map PV.ptr) (.bool (p a))) (hn : xs.length ≤ 1099511627776) :
    Con Try.prog 73 [.list 1 (ints xs), .fn g [] (ca.map PV.ptr)] (.bool (xs.any p)) := by
  intro al
  refine contract_of hmix Try.func73 rfl (by kernel_rfl) (by kernel_rfl) (Nat.le_of_ble_eq_true rfl) (fun row h => by cases h) ?_
  have hty_u24 := ty_u24
  have hty_s24 := ty_s24
  repeat' (first | (refine pA (k := ?_)) | (refine g_exec ?_; first | (refine g_call ?_; refine x_callG false (k_IndexFuncInt xs g ca p hg hn) rfl rfl rfl aS rfl aH ?_; simp only [cl]) | (refine x_nil (hK _ _ aI ?_); clear hK K)) | (refine v_region (fun K hK => ?_)))
  refine ret_bool rfl (lookE_ok rfl) ?_
  rw [← idx_any]
theorem k_all1Int (a : Int) (g : FuncId) (ca : List (List PV)) (b : Bool) (hg : Con Try.prog g (.int .i64 a :: ca.map PV.ptr) (.bool b)) :
    Con Try.prog 74 [.int .i64 a, .ptr [.fn g [] (ca.map PV.ptr)]] (.bool (!b)) := by
  intro al
  refine contract_of hmix Try.func74 rfl (by kernel_rfl) (by kernel_rfl) (Nat.le_of_ble_eq_true rfl) (fun row h => by cases h) ?_
  have hty_c53 := ty_c53
  have kg := hg
  repeat' (first | (refine pA (k := ?_)) | (refine g_exec ?_; first | (refine g_call ?_; first | (refine x_callG true (kg) rfl rfl rfl aS rfl aH ?_; simp only [cl]) | (refine x_call [] _ (kg) rfl rfl aS rfl aH ?_; simp only [cl])) | (refine x_nil (hK _ _ aI ?_); clear hK K)) | (refine v_region (fun K hK => ?_)))
  exact ret_bool rfl (lookE_ok rfl) rfl
theorem k_allInt (xs : List Int) (g : FuncId) (ca : List (List PV)) (p : Int → Bool) (hg : ∀ a ∈ xs, Con Try.prog g (.int .i64 a :: ca.map PV.ptr) (.bool (p a))) (hn : xs.length ≤ 1099511627776) :
    Con Try.prog 49 [.list 1 (ints xs), .fn g [] (ca.map PV.ptr)] (.bool (xs.all p)) := by
  intro al
  refine contract_of hmix Try.func49 rfl (by kernel_rfl) (by kernel_rfl) (Nat.le_of_ble_eq_true rfl) (fun row h => by cases h) ?_
  have hty_u24 := ty_u24
  have hty_s24 := ty_s24
  repeat' (first | (refine pA (k := ?_)) | (refine g_exec ?_; first | (refine g_call ?_; refine x_callG true (k_ContainsFuncInt xs 74 [[.fn g [] (ca.map PV.ptr)]] (fun a => !p a) (fun a ha => k_all1Int a g ca (p a) (hg a ha)) hn) rfl rfl rfl aS rfl aH ?_; simp only [cl]) | (refine x_nil (hK _ _ aI ?_); clear hK K)) | (refine v_region (fun K hK => ?_)))
  refine ret_bool rfl (lookE_ok rfl) ?_
  rw [List.all_eq_not_any_not]
end Go.Vs
set_option linter.unusedVariables false
set_option linter.unusedSimpArgs false
set_option maxRecDepth 100000
set_option maxHeartbeats 4000000
namespace Go.Vs
open Go.Proofs
attribute [local irreducible] exec vwp thenQ blkQ loopQ RetPost
theorem not_mem_of {xs : List Int} {n : Int} (h : ∀ y ∈ xs, y ≠ n) : n ∉ xs := fun hm => h n hm rfl
theorem k_l1Has (xs : List Int) (n : Int) (hn : xs.length ≤ 1099511627776) : Con Try.prog 63 [.list 1 (ints xs), .int .i64 n] (.bool (decide (n ∈ xs))) := by
  intro al
  refine contract_of hmix Try.func63 rfl (by kernel_rfl) (by kernel_rfl) (Nat.le_of_ble_eq_true rfl) (fun row h => by cases h) ?_
  have hty_u24 := ty_u24
  have hty_s24 := ty_s24
  have hty_c3 := ty_c3
  have hl1 : (ints xs).length = xs.length := by simp
  repeat' (first | (refine pA (k := ?_)) | (refine g_exec ?_; refine x_nil (hK _ _ aI ?_); clear hK K) | (refine v_region (fun K hK => ?_)) | (refine v_condt rfl (fun h => ?_) (fun h => ?_) <;> (have h' := h; try simp only [sx] at h')))
  refine v_loopK [0, 1] [] (fun i : Nat => [(5, .int .i64 i)]) (fun i : Nat => []) (fun i : Nat => i ≤ xs.length ∧ ∀ y ∈ xs.take i, y ≠ n) (fun i : Nat => xs.length - i) (0) rfl rfl (fun _ => rfl) (fun _ => rfl) rfl (by refine ⟨?_, ?_, rfl, rfl⟩ <;> (repeat' (first | exact trivial | exact ⟨rfl, rfl⟩ | exact rfl | exact ⟨sub_fn, refs_fn⟩ | refine ⟨⟨rfl, rfl⟩, ?_⟩ | refine ⟨⟨sub_fn, refs_fn⟩, ?_⟩ | refine ⟨⟨rfl, fun h => Bool.noConfusion h⟩, ?_⟩ | refine ⟨⟨rfl, fun h => ?_⟩, ?_⟩ | refine ⟨rfl, ?_⟩ | refine ⟨?_, ?_⟩ | fail))) ⟨by omega, fun y hy => by simp at hy⟩ (fun i hi => ?_)
  obtain ⟨hi1, hi2⟩ := hi
  rcases Nat.lt_or_ge i xs.length with hlt | hge
  · obtain ⟨a, hga⟩ := get_ex hlt
    have hx := ints_at hga
    repeat' (first | (refine pA (k := ?_)) | (refine g_exec ?_; refine x_nil (hK _ _ aI ?_); clear hK K) | (refine v_region (fun K hK => ?_)) | (refine v_condt rfl (fun h => ?_) (fun h => ?_) <;> (have h' := h; try simp only [sx] at h')))
    · refine ret_bool rfl (lookE_ok rfl) ?_
      have : n ∈ xs := by rw [← h']; exact get_mem hga
      simp [this]
    · refine q_next (i + 1) rfl (by refine ⟨?_, ?_, rfl, rfl⟩ <;> (repeat' (first | exact trivial | exact ⟨rfl, rfl⟩ | exact rfl | exact ⟨sub_fn, refs_fn⟩ | refine ⟨⟨rfl, rfl⟩, ?_⟩ | refine ⟨⟨sub_fn, refs_fn⟩, ?_⟩ | refine ⟨⟨rfl, fun h => Bool.noConfusion h⟩, ?_⟩ | refine ⟨⟨rfl, fun h => ?_⟩, ?_⟩ | refine ⟨rfl, ?_⟩ | refine ⟨?_, ?_⟩ | fail))) ⟨by omega, all_take_succ hga hi2 (by simpa using h')⟩ aO
  · repeat' (first | (refine pA (k := ?_)) | (refine g_exec ?_; refine x_nil (hK _ _ aI ?_); clear hK K) | (refine v_region (fun K hK => ?_)) | (refine v_condt rfl (fun h => ?_) (fun h => ?_) <;> (have h' := h; try simp only [sx] at h')))
    refine ret_bool rfl (lookE_ok rfl) ?_
    rw [take_all hge] at hi2
    simp [not_mem_of hi2]
def Up (l : List Int) (i : Nat) : Prop := ∀ j, j < i - 1 → l.getD j 0 < l.getD (j + 1) 0
def Rising (l : List Int) : Prop := Up l l.length
instance (l : List Int) (i : Nat) : Decidable (Up l i) := by unfold Up; infer_instance
instance (l : List Int) : Decidable (Rising l) := by unfold Rising; infer_instance
theorem getI {l : List Int} {i : Nat} {a : Int} (h : l[i]? = some a) : l.getD i 0 = a := by simp [List.getD_eq_getElem?_getD, h]
theorem up_step {l : List Int} {i : Nat} {a b : Int} (h : Up l i) (ha : l[i - 1]? = some a) (hb : l[i]? = some b) (hab : a < b) : Up l (i + 1) := fun j hj => by
  by_cases he : j + 1 = i
  · rw [he, getI hb, show j = i - 1 by omega, getI ha]; exact hab
  · exact h j aO
theorem not_rising {l : List Int} {i : Nat} {a b : Int} (h0 : 0 < i) (ha : l[i - 1]? = some a) (hb : l[i]? = some b) (hab : b ≤ a) : ¬ Rising l := fun h => by
  have := h (i - 1) (by have := get_lt hb; omega)
  rw [getI ha, show i - 1 + 1 = i by omega, getI hb] at this
  omega
theorem k_isRising (xs : List Int) (hn : xs.length ≤ 1099511627776) : Con Try.prog 48 [.list 1 (ints xs)] (.bool (decide (Rising xs))) := by
  intro al
  refine contract_of hmix Try.func48 rfl (by kernel_rfl) (by kernel_rfl) (Nat.le_of_ble_eq_true rfl) (fun row h => by cases h) ?_
  have hty_u24 := ty_u24
  have hty_s24 := ty_s24
  have hty_c3 := ty_c3
  have hl1 : (ints xs).length = xs.length := by simp
  repeat' (first | (refine pA (k := ?_)) | (refine g_exec ?_; refine x_nil (hK _ _ aI ?_); clear hK K) | (refine v_region (fun K hK => ?_)) | (refine v_condt rfl (fun h => ?_) (fun h => ?_) <;> (have h' := h; try simp only [sx] at h')))
  refine v_loopK [0] [] (fun i : Nat => [(3, .int .i64 i)]) (fun i : Nat => []) (fun i : Nat => (1 ≤ i ∧ i ≤ xs.length + 1) ∧ Up xs i) (fun i : Nat => xs.length + 1 - i) (1) rfl rfl (fun _ => rfl) (fun _ => rfl) rfl (by refine ⟨?_, ?_, rfl, rfl⟩ <;> (repeat' (first | exact trivial | exact ⟨rfl, rfl⟩ | exact rfl | exact ⟨sub_fn, refs_fn⟩ | refine ⟨⟨rfl, rfl⟩, ?_⟩ | refine ⟨⟨sub_fn, refs_fn⟩, ?_⟩ | refine ⟨⟨rfl, fun h => Bool.noConfusion h⟩, ?_⟩ | refine ⟨⟨rfl, fun h => ?_⟩, ?_⟩ | refine ⟨rfl, ?_⟩ | refine ⟨?_, ?_⟩ | fail))) ⟨by omega, fun j hj => by omega⟩ (fun i hi => ?_)
  obtain ⟨hi1, hi2⟩ := hi
  rcases Nat.lt_or_ge i xs.length with hlt | hge
  · obtain ⟨a, hga⟩ := get_ex hlt
    obtain ⟨b, hgb⟩ := get_ex (show i - 1 < xs.length by omega)
    have hx := ints_at hga
    have hy := ints_at hgb
    have e1 : ((i : Int) - 1).toNat = i - 1 := by omega
    rw [← e1] at hy
    repeat' (first | (refine pA (k := ?_)) | (refine g_exec ?_; refine x_nil (hK _ _ aI ?_); clear hK K) | (refine v_region (fun K hK => ?_)) | (refine v_condt rfl (fun h => ?_) (fun h => ?_) <;> (have h' := h; try simp only [sx] at h')))
    · exact ret_bool rfl (lookE_ok rfl) (by simp [not_rising aO hgb hga h'])
    · refine q_next (i + 1) rfl (by refine ⟨?_, ?_, rfl, rfl⟩ <;> (repeat' (first | exact trivial | exact ⟨rfl, rfl⟩ | exact rfl | exact ⟨sub_fn, refs_fn⟩ | refine ⟨⟨rfl, rfl⟩, ?_⟩ | refine ⟨⟨sub_fn, refs_fn⟩, ?_⟩ | refine ⟨⟨rfl, fun h => Bool.noConfusion h⟩, ?_⟩ | refine ⟨⟨rfl, fun h => ?_⟩, ?_⟩ | refine ⟨rfl, ?_⟩ | refine ⟨?_, ?_⟩ | fail))) ⟨by omega, up_step hi2 hgb hga aO⟩ aO
  · repeat' (first | (refine pA (k := ?_)) | (refine g_exec ?_; refine x_nil (hK _ _ aI ?_); clear hK K) | (refine v_region (fun K hK => ?_)) | (refine v_condt rfl (fun h => ?_) (fun h => ?_) <;> (have h' := h; try simp only [sx] at h')))
    exact ret_bool rfl (lookE_ok rfl) (by
      have : Rising xs := fun j hj => hi2 j aO
      simp [this])
theorem k_l1Rising (xs : List Int) (lo hi : Int) (hn : xs.length ≤ 1099511627776) : Con Try.prog 62 [.list 1 (ints xs), .int .i64 lo, .int .i64 hi] (.bool (decide ((∀ y ∈ xs, lo ≤ y ∧ y ≤ hi) ∧ Rising xs))) := by
  intro al
  refine contract_of hmix Try.func62 rfl (by kernel_rfl) (by kernel_rfl) (Nat.le_of_ble_eq_true rfl) (fun row h => by cases h) ?_
  have hty_u24 := ty_u24
  have hty_s24 := ty_s24
  have hty_c3 := ty_c3
  have hl1 : (ints xs).length = xs.length := by simp
  repeat' (first | (refine pA (k := ?_)) | (refine g_exec ?_; first | (refine g_guard ?_; refine x_gsplit rfl rfl (fun h => ?_) (fun h => ?_) <;> (have h' := h; try simp only [sx] at h')) | (refine x_nil (hK _ _ aI ?_); clear hK K)) | (refine v_region (fun K hK => ?_)) | (refine v_condt rfl (fun h => ?_) (fun h => ?_) <;> (have h' := h; try simp only [sx] at h')))
  refine v_loopK [0, 1, 2] [] (fun i : Nat => [(7, .int .i64 i)]) (fun i : Nat => []) (fun i : Nat => i ≤ xs.length ∧ (∀ y ∈ xs.take i, lo ≤ y ∧ y ≤ hi) ∧ Up xs i) (fun i : Nat => xs.length - i) (0) rfl rfl (fun _ => rfl) (fun _ => rfl) rfl (by refine ⟨?_, ?_, rfl, rfl⟩ <;> (repeat' (first | exact trivial | exact ⟨rfl, rfl⟩ | exact rfl | exact ⟨sub_fn, refs_fn⟩ | refine ⟨⟨rfl, rfl⟩, ?_⟩ | refine ⟨⟨sub_fn, refs_fn⟩, ?_⟩ | refine ⟨⟨rfl, fun h => Bool.noConfusion h⟩, ?_⟩ | refine ⟨⟨rfl, fun h => ?_⟩, ?_⟩ | refine ⟨rfl, ?_⟩ | refine ⟨?_, ?_⟩ | fail))) ⟨by omega, fun y hy => by simp at hy, fun j hj => by omega⟩ (fun i hi => ?_)
  obtain ⟨hi1, hi2, hi3⟩ := hi
  rcases Nat.lt_or_ge i xs.length with hlt | hge
  · obtain ⟨a, hga⟩ := get_ex hlt
    have hx := ints_at hga
    by_cases hi0 : 0 < i
    · obtain ⟨b, hgb⟩ := get_ex (show i - 1 < xs.length by omega)
      have hy := ints_at hgb
      have e1 : ((i : Int) - 1).toNat = i - 1 := by omega
      rw [← e1] at hy
      repeat' (first | (refine pA (k := ?_)) | (refine g_exec ?_; first | (refine g_call ?_; refine x_callG true (k_l1In _ _ _) rfl rfl rfl aS rfl aH ?_; simp only [cl]) | (refine g_guard ?_; refine x_gsplit rfl rfl (fun h => ?_) (fun h => ?_) <;> (have h' := h; try simp only [sx] at h')) | (refine x_nil (hK _ _ aI ?_); clear hK K)) | (refine v_region (fun K hK => ?_)) | (refine v_condt rfl (fun h => ?_) (fun h => ?_) <;> (have h' := h; try simp only [sx] at h')))
      all_goals first
        | (refine q_next (i + 1) rfl (by refine ⟨?_, ?_, rfl, rfl⟩ <;> (repeat' (first | exact trivial | exact ⟨rfl, rfl⟩ | exact rfl | exact ⟨sub_fn, refs_fn⟩ | refine ⟨⟨rfl, rfl⟩, ?_⟩ | refine ⟨⟨sub_fn, refs_fn⟩, ?_⟩ | refine ⟨⟨rfl, fun h => Bool.noConfusion h⟩, ?_⟩ | refine ⟨⟨rfl, fun h => ?_⟩, ?_⟩ | refine ⟨rfl, ?_⟩ | refine ⟨?_, ?_⟩ | fail))) ⟨by omega, all_take_succ hga hi2 aO, up_step hi3 hgb hga aO⟩ aO)
        | (refine ret_bool rfl (lookE_ok rfl) ?_
           have : ¬ ((∀ y ∈ xs, lo ≤ y ∧ y ≤ hi) ∧ Rising xs) := fun hk => by
             have k1 := hk.1 a (get_mem hga)
             first | omega | exact not_rising hi0 hgb hga aO hk.2
           simp only [this, decide_false])
    · have h1 : i = 0 := by omega
      repeat' (first | (refine pA (k := ?_)) | (refine g_exec ?_; first | (refine g_call ?_; refine x_callG true (k_l1In _ _ _) rfl rfl rfl aS rfl aH ?_; simp only [cl]) | (refine g_guard ?_; refine x_gsplit rfl rfl (fun h => ?_) (fun h => ?_) <;> (have h' := h; try simp only [sx] at h')) | (refine x_nil (hK _ _ aI ?_); clear hK K)) | (refine v_region (fun K hK => ?_)) | (refine v_condt rfl (fun h => ?_) (fun h => ?_) <;> (have h' := h; try simp only [sx] at h')))
      all_goals first
        | (refine q_next (i + 1) rfl (by refine ⟨?_, ?_, rfl, rfl⟩ <;> (repeat' (first | exact trivial | exact ⟨rfl, rfl⟩ | exact rfl | exact ⟨sub_fn, refs_fn⟩ | refine ⟨⟨rfl, rfl⟩, ?_⟩ | refine ⟨⟨sub_fn, refs_fn⟩, ?_⟩ | refine ⟨⟨rfl, fun h => Bool.noConfusion h⟩, ?_⟩ | refine ⟨⟨rfl, fun h => ?_⟩, ?_⟩ | refine ⟨rfl, ?_⟩ | refine ⟨?_, ?_⟩ | fail))) ⟨by omega, all_take_succ hga hi2 aO, fun j hj => by omega⟩ aO)
        | (refine ret_bool rfl (lookE_ok rfl) ?_
           have : ¬ ((∀ y ∈ xs, lo ≤ y ∧ y ≤ hi) ∧ Rising xs) := fun hk => by
             have k1 := hk.1 a (get_mem hga)
             omega
           simp only [this, decide_false])
  · repeat' (first | (refine pA (k := ?_)) | (refine g_exec ?_; first | (refine g_guard ?_; refine x_gsplit rfl rfl (fun h => ?_) (fun h => ?_) <;> (have h' := h; try simp only [sx] at h')) | (refine x_nil (hK _ _ aI ?_); clear hK K)) | (refine v_region (fun K hK => ?_)) | (refine v_condt rfl (fun h => ?_) (fun h => ?_) <;> (have h' := h; try simp only [sx] at h')))
    refine ret_bool rfl (lookE_ok rfl) ?_
    rw [take_all hge] at hi2
    have : (∀ y ∈ xs, lo ≤ y ∧ y ≤ hi) ∧ Rising xs := ⟨hi2, fun j hj => hi3 j aO⟩
    simp only [decide_eq_true this]
def amax (f : Nat → Int) : Nat → Nat
  | 0 => 0
  | n + 1 => if f n > f (amax f n) then n else amax f n
theorem amax_lt (f : Nat → Int) : ∀ n, 0 < n → amax f n < n
  | 0, h => by omega
  | 1, _ => by unfold amax; unfold amax; split <;> omega
  | n + 2, _ => by
    have := amax_lt f (n + 1) aO
    rw [amax]
    split <;> omega
theorem amax_one (f : Nat → Int) : amax f 1 = 0 := by unfold amax; unfold amax; split <;> rfl
end Go.Vs
set_option linter.unusedVariables false
set_option linter.unusedSimpArgs false
set_option maxRecDepth 100000
set_option maxHeartbeats 4000000
namespace Go.Vs
open Go.Proofs
attribute [local irreducible] exec vwp thenQ blkQ loopQ RetPost
def Dims (t : Terrain) : Prop := (1 ≤ t.width ∧ t.width ≤ 5) ∧ (1 ≤ t.height ∧ t.height ≤ 5)
instance (t : Terrain) : Decidable (Dims t) := by unfold Dims; infer_instance
def GoodT (t : Terrain) : Prop := Dims t ∧ (t.burn.length : Int) = t.width * t.height ∧ ∀ b ∈ t.burn, 0 ≤ b ∧ b ≤ 20
instance (t : Terrain) : Decidable (GoodT t) := by unfold GoodT; infer_instance
theorem dims_area {t : Terrain} (h : Dims t) : 1 ≤ t.width * t.height ∧ t.width * t.height ≤ 25 := by
  have h1 : 1 * 1 ≤ t.width * t.height := Int.mul_le_mul h.1.1 h.2.1 aO (by have := h.1; omega)
  have h2 : t.width * t.height ≤ 5 * 5 := Int.mul_le_mul h.1.2 h.2.2 (by have := h.2; omega) aO
  omega
theorem goodT_len {t : Terrain} (h : GoodT t) : 1 ≤ t.burn.length ∧ t.burn.length ≤ 25 := by
  have := dims_area h.1
  have := h.2.1
  omega
theorem k_l2Good (t : Terrain) (hn : t.burn.length ≤ 1099511627776) : Con Try.prog 61 [.agg t.pv] (.bool (decide (GoodT t))) := by
  intro al
  refine contract_of hmix Try.func61 rfl (by kernel_rfl) (by kernel_rfl) (Nat.le_of_ble_eq_true rfl) (fun row h => by cases h) ?_
  have hty_f26_0 := ty_f26_0
  have hty_c3 := ty_c3
  have hty_f26_1 := ty_f26_1
  have hty_f26_2 := ty_f26_2
  have hty_c24 := ty_c24
  have hty_u24 := ty_u24
  have hty_s24 := ty_s24
  have hl : (ints t.burn).length = t.burn.length := by simp
  by_cases hd : Dims t
  · have ha := dims_area hd
    have hd' := hd
    unfold Dims at hd'
    by_cases hs : (t.burn.length : Int) = t.width * t.height
    · repeat' (first | (refine pA (k := ?_)) | (refine g_exec ?_; first | (refine g_call ?_; refine x_callG true (k_l1In _ _ _) rfl rfl rfl aS rfl aH ?_; simp only [cl]) | (refine g_guard ?_; refine x_gsplit rfl rfl (fun h => ?_) (fun h => ?_) <;> (have h' := h; try simp only [sx] at h')) | (refine x_nil (hK _ _ aI ?_); clear hK K)) | (refine v_region (fun K hK => ?_)) | (refine v_condt rfl (fun h => ?_) (fun h => ?_) <;> (have h' := h; try simp only [sx] at h')))
      refine v_loopK [1] [] (fun i : Nat => [(3, .int .i64 i)]) (fun i : Nat => []) (fun i : Nat => i ≤ t.burn.length ∧ ∀ b ∈ t.burn.take i, 0 ≤ b ∧ b ≤ 20) (fun i : Nat => t.burn.length - i) (0) rfl rfl (fun _ => rfl) (fun _ => rfl) rfl (by refine ⟨?_, ?_, rfl, rfl⟩ <;> (repeat' (first | exact trivial | exact ⟨rfl, rfl⟩ | exact rfl | exact ⟨sub_fn, refs_fn⟩ | refine ⟨⟨rfl, rfl⟩, ?_⟩ | refine ⟨⟨sub_fn, refs_fn⟩, ?_⟩ | refine ⟨⟨rfl, fun h => Bool.noConfusion h⟩, ?_⟩ | refine ⟨⟨rfl, fun h => ?_⟩, ?_⟩ | refine ⟨rfl, ?_⟩ | refine ⟨?_, ?_⟩ | fail))) ⟨by omega, fun b hb => by simp at hb⟩ (fun i hi => ?_)
      obtain ⟨h1, h2⟩ := hi
      rcases Nat.lt_or_ge i t.burn.length with hlt | hge
      · obtain ⟨a, hga⟩ := get_ex hlt
        have hx := ints_at hga
        repeat' (first | (refine pA (k := ?_)) | (refine g_exec ?_; first | (refine g_call ?_; refine x_callG true (k_l1In _ _ _) rfl rfl rfl aS rfl aH ?_; simp only [cl]) | (refine g_guard ?_; refine x_gsplit rfl rfl (fun h => ?_) (fun h => ?_) <;> (have h' := h; try simp only [sx] at h')) | (refine x_nil (hK _ _ aI ?_); clear hK K)) | (refine v_region (fun K hK => ?_)) | (refine v_condt rfl (fun h => ?_) (fun h => ?_) <;> (have h' := h; try simp only [sx] at h')))
        all_goals first
          | (refine q_next (i + 1) rfl (by refine ⟨?_, ?_, rfl, rfl⟩ <;> (repeat' (first | exact trivial | exact ⟨rfl, rfl⟩ | exact rfl | exact ⟨sub_fn, refs_fn⟩ | refine ⟨⟨rfl, rfl⟩, ?_⟩ | refine ⟨⟨sub_fn, refs_fn⟩, ?_⟩ | refine ⟨⟨rfl, fun h => Bool.noConfusion h⟩, ?_⟩ | refine ⟨⟨rfl, fun h => ?_⟩, ?_⟩ | refine ⟨rfl, ?_⟩ | refine ⟨?_, ?_⟩ | fail))) ⟨by omega, all_take_succ hga h2 aO⟩ aO)
          | (refine ret_bool rfl (lookE_ok rfl) ?_
             have : ¬ GoodT t := fun h => by have := h.2.2 a (get_mem hga); omega
             simp [this])
      · repeat' (first | (refine pA (k := ?_)) | (refine g_exec ?_; first | (refine g_guard ?_; refine x_gsplit rfl rfl (fun h => ?_) (fun h => ?_) <;> (have h' := h; try simp only [sx] at h')) | (refine x_nil (hK _ _ aI ?_); clear hK K)) | (refine v_region (fun K hK => ?_)) | (refine v_condt rfl (fun h => ?_) (fun h => ?_) <;> (have h' := h; try simp only [sx] at h')))
        refine ret_bool rfl (lookE_ok rfl) ?_
        have : GoodT t := ⟨hd, hs, by rw [take_all aO] at h2; exact h2⟩
        simp [this]
    · repeat' (first | (refine pA (k := ?_)) | (refine g_exec ?_; first | (refine g_call ?_; refine x_callG true (k_l1In _ _ _) rfl rfl rfl aS rfl aH ?_; simp only [cl]) | (refine g_guard ?_; refine x_gsplit rfl rfl (fun h => ?_) (fun h => ?_) <;> (have h' := h; try simp only [sx] at h')) | (refine x_nil (hK _ _ aI ?_); clear hK K)) | (refine v_region (fun K hK => ?_)) | (refine v_condt rfl (fun h => ?_) (fun h => ?_) <;> (have h' := h; try simp only [sx] at h')))
      refine ret_bool rfl (lookE_ok rfl) ?_
      have : ¬ GoodT t := fun h => hs h.2.1
      simp [this]
  · have hng : ¬ GoodT t := fun h => hd h.1
    rw [show decide (GoodT t) = false from by simp [hng]]
    unfold Dims at hd
    repeat' (first | (refine pA (k := ?_)) | (refine g_exec ?_; first | (refine g_call ?_; refine x_callG true (k_l1In _ _ _) rfl rfl rfl aS rfl aH ?_; simp only [cl]) | (refine g_guard ?_; refine x_gsplit rfl rfl (fun h => ?_) (fun h => ?_) <;> (have h' := h; try simp only [sx] at h')) | (refine x_nil (hK _ _ aI ?_); clear hK K)) | (refine v_region (fun K hK => ?_)) | (refine v_condt rfl (fun h => ?_) (fun h => ?_) <;> (have h' := h; try simp only [sx] at h')))
    all_goals first
      | (exfalso; omega)
      | exact ret_bool rfl (lookE_ok rfl) rfl
theorem k_IsTerrain1 (b : Int) : Con Try.prog 72 [.int .i64 b] (.bool (decide (0 ≤ b) && decide (b ≤ 20))) := by
  intro al
  refine contract_of hmix Try.func72 rfl (by kernel_rfl) (by kernel_rfl) (Nat.le_of_ble_eq_true rfl) (fun row h => by cases h) ?_
  repeat' (first | (refine pA (k := ?_)) | (refine g_exec ?_; first | (refine g_call ?_; refine x_callG true (k_in _ _ _) rfl rfl rfl aS rfl aH ?_; simp only [cl]) | (refine x_nil (hK _ _ aI ?_); clear hK K)) | (refine v_region (fun K hK => ?_)))
  exact ret_bool rfl (lookE_ok rfl) rfl
theorem k_IsTerrain (t : Terrain) (hn : t.burn.length ≤ 1099511627776) : Con Try.prog 45 [.agg t.pv] (.bool (decide (GoodT t))) := by
  intro al
  refine contract_of hmix Try.func45 rfl (by kernel_rfl) (by kernel_rfl) (Nat.le_of_ble_eq_true rfl) (fun row h => by cases h) ?_
  have hty_f26_0 := ty_f26_0
  have hty_c3 := ty_c3
  have hty_f26_1 := ty_f26_1
  have hty_f26_2 := ty_f26_2
  have hty_c24 := ty_c24
  have hty_u24 := ty_u24
  have hty_s24 := ty_s24
  have hl : (ints t.burn).length = t.burn.length := by simp
  have kA := k_allInt t.burn 72 [] (fun b => decide (0 ≤ b) && decide (b ≤ 20)) (fun b _ => k_IsTerrain1 b) hn
  have h5 : (t.burn.all fun b => decide (0 ≤ b) && decide (b ≤ 20)) = true ↔ ∀ b ∈ t.burn, 0 ≤ b ∧ b ≤ 20 := by simp
  by_cases hd : Dims t
  · have ha := dims_area hd
    have hd' := hd
    unfold Dims at hd'
    by_cases hs : (t.burn.length : Int) = t.width * t.height
    · repeat' (first | (refine pA (k := ?_)) | (refine g_exec ?_; first | (refine g_call ?_; first | (refine x_callG true (k_in _ _ _) rfl rfl rfl aS rfl aH ?_; simp only [cl]) | (refine x_callG true (kA) rfl rfl rfl aS rfl aH ?_; simp only [cl])) | (refine g_guard ?_; refine x_gsplit rfl rfl (fun h => ?_) (fun h => ?_) <;> (have h' := h; try simp only [sx] at h')) | (refine x_nil (hK _ _ aI ?_); clear hK K)) | (refine v_region (fun K hK => ?_)))
      refine ret_bool rfl (lookE_ok rfl) ?_
      rw [Bool.eq_iff_iff, h5]
      simp only [decide_eq_true_eq]
      exact ⟨fun h => ⟨hd, hs, h⟩, fun h => h.2.2⟩
    · repeat' (first | (refine pA (k := ?_)) | (refine g_exec ?_; first | (refine g_call ?_; first | (refine x_callG true (k_in _ _ _) rfl rfl rfl aS rfl aH ?_; simp only [cl]) | (refine x_callG true (kA) rfl rfl rfl aS rfl aH ?_; simp only [cl])) | (refine g_guard ?_; refine x_gsplit rfl rfl (fun h => ?_) (fun h => ?_) <;> (have h' := h; try simp only [sx] at h')) | (refine x_nil (hK _ _ aI ?_); clear hK K)) | (refine v_region (fun K hK => ?_)))
      refine ret_bool rfl (lookE_ok rfl) ?_
      have : ¬ GoodT t := fun h => hs h.2.1
      simp [this]
      try omega
  · have hng : ¬ GoodT t := fun h => hd h.1
    rw [show decide (GoodT t) = false from by simp [hng]]
    unfold Dims at hd
    repeat' (first | (refine pA (k := ?_)) | (refine g_exec ?_; first | (refine g_call ?_; first | (refine x_callG true (k_in _ _ _) rfl rfl rfl aS rfl aH ?_; simp only [cl]) | (refine x_callG true (kA) rfl rfl rfl aS rfl aH ?_; simp only [cl])) | (refine g_guard ?_; refine x_gsplit rfl rfl (fun h => ?_) (fun h => ?_) <;> (have h' := h; try simp only [sx] at h')) | (refine x_nil (hK _ _ aI ?_); clear hK K)) | (refine v_region (fun K hK => ?_)))
    all_goals first
      | (exfalso; omega)
      | exact ret_bool rfl (lookE_ok rfl) rfl
      | (refine ret_bool rfl (lookE_ok rfl) ?_; simp; omega)
theorem k_isCell (t : Terrain) (c : Int) (hn : t.burn.length ≤ 1099511627776) : Con Try.prog 50 [.agg t.pv, .int .i64 c] (.bool (decide (0 ≤ c ∧ c < t.burn.length))) := by
  intro al
  refine contract_of hmix Try.func50 rfl (by kernel_rfl) (by kernel_rfl) (Nat.le_of_ble_eq_true rfl) (fun row h => by cases h) ?_
  have hty_f26_2 := ty_f26_2
  have hty_c24 := ty_c24
  have hty_u24 := ty_u24
  have hty_s24 := ty_s24
  have hl1 : (ints t.burn).length = t.burn.length := by simp
  repeat' (first | (refine pA (k := ?_)) | (refine g_exec ?_; first | (refine g_call ?_; refine x_callG true (k_in _ _ _) rfl rfl rfl aS rfl aH ?_; simp only [cl]) | (refine x_nil (hK _ _ aI ?_); clear hK K)) | (refine v_region (fun K hK => ?_)))
  refine ret_bool rfl (lookE_ok rfl) ?_
  rw [Bool.eq_iff_iff]
  simp only [sx]
  omega
theorem k_all1IntT (a : Int) (g : FuncId) (t : Terrain) (b : Bool) (hg : Con Try.prog g [.agg t.pv, .int .i64 a] (.bool b)) :
    Con Try.prog 74 [.int .i64 a, .ptr [.fn g [.agg t.pv] []]] (.bool (!b)) := by
  intro al
  refine contract_of hmix Try.func74 rfl (by kernel_rfl) (by kernel_rfl) (Nat.le_of_ble_eq_true rfl) (fun row h => by cases h) ?_
  have hty_c53 := ty_c53
  repeat' (first | (refine pA (k := ?_)) | (refine g_exec ?_; first | (refine g_call ?_; refine x_callG true (hg) rfl rfl rfl aS rfl aH ?_; simp only [cl]) | (refine x_nil (hK _ _ aI ?_); clear hK K)) | (refine v_region (fun K hK => ?_)))
  exact ret_bool rfl (lookE_ok rfl) rfl
theorem k_allIntT (xs : List Int) (g : FuncId) (t : Terrain) (p : Int → Bool) (hg : ∀ a ∈ xs, Con Try.prog g [.agg t.pv, .int .i64 a] (.bool (p a))) (hn : xs.length ≤ 1099511627776) :
    Con Try.prog 49 [.list 1 (ints xs), .fn g [.agg t.pv] []] (.bool (xs.all p)) := by
  intro al
  refine contract_of hmix Try.func49 rfl (by kernel_rfl) (by kernel_rfl) (Nat.le_of_ble_eq_true rfl) (fun row h => by cases h) ?_
  have hty_u24 := ty_u24
  have hty_s24 := ty_s24
  repeat' (first | (refine pA (k := ?_)) | (refine g_exec ?_; first | (refine g_call ?_; refine x_callG true (k_ContainsFuncInt xs 74 [[.fn g [.agg t.pv] []]] (fun a => !p a) (fun a ha => k_all1IntT a g t (p a) (hg a ha)) hn) rfl rfl rfl aS rfl aH ?_; simp only [cl]) | (refine x_nil (hK _ _ aI ?_); clear hK K)) | (refine v_region (fun K hK => ?_)))
  refine ret_bool rfl (lookE_ok rfl) ?_
  rw [List.all_eq_not_any_not]
theorem k_column (t : Terrain) (c : Int) (hw : 1 ≤ t.width) (hc : 0 ≤ c ∧ c ≤ 1000) : Con Try.prog 79 [.agg t.pv, .int .i64 c] (.int .i64 (c % t.width)) := by
  intro al
  refine contract_of hmix Try.func79 rfl (by kernel_rfl) (by kernel_rfl) (Nat.le_of_ble_eq_true rfl) (fun row h => by cases h) ?_
  have hty_f26_0 := ty_f26_0
  have hty_c3 := ty_c3
  repeat' (first | (refine pA (k := ?_)) | (refine g_exec ?_; refine x_nil (hK _ _ aI ?_); clear hK K) | (refine v_region (fun K hK => ?_)))
  exact ret_int rfl (lookE_ok rfl) rfl
theorem k_row (t : Terrain) (c : Int) (hw : 1 ≤ t.width) (hc : 0 ≤ c ∧ c ≤ 1000) : Con Try.prog 80 [.agg t.pv, .int .i64 c] (.int .i64 (c / t.width)) := by
  intro al
  refine contract_of hmix Try.func80 rfl (by kernel_rfl) (by kernel_rfl) (Nat.le_of_ble_eq_true rfl) (fun row h => by cases h) ?_
  have hty_f26_0 := ty_f26_0
  have hty_c3 := ty_c3
  repeat' (first | (refine pA (k := ?_)) | (refine g_exec ?_; refine x_nil (hK _ _ aI ?_); clear hK K) | (refine v_region (fun K hK => ?_)))
  exact ret_int rfl (lookE_ok rfl) rfl
theorem k_l2Set (t : Terrain) (xs : List Int) (hn : t.burn.length ≤ 1099511627776) (hm : xs.length ≤ 1099511627776) : Con Try.prog 27 [.agg t.pv, .list 1 (ints xs)] (.bool (decide (GoodT t ∧ (∀ y ∈ xs, 0 ≤ y ∧ y < t.burn.length) ∧ Rising xs))) := by
  intro al
  refine contract_of hmix Try.func27 rfl (by kernel_rfl) (by kernel_rfl) (Nat.le_of_ble_eq_true rfl) (fun row h => by cases h) ?_
  have hty_a26 := ty_a26
  have hty_f26_2 := ty_f26_2
  have hty_c24 := ty_c24
  have hty_u24 := ty_u24
  have hty_s24 := ty_s24
  have hl1 : (ints t.burn).length = t.burn.length := by simp
  have e : (∀ y ∈ xs, 0 ≤ y ∧ y ≤ ((ints t.burn).length : Int) - 1) ↔ ∀ y ∈ xs, 0 ≤ y ∧ y < t.burn.length := by
    rw [hl1]
    constructor <;> intro h y hy <;> have := h y hy <;> omega
  repeat' (first | (refine pA (k := ?_)) | (refine g_exec ?_; first | (refine g_call ?_; first | (refine x_callG true (k_l2Good t hn) rfl rfl rfl aS rfl aH ?_; simp only [cl]) | (refine x_callG true (k_l1Rising xs 0 (((ints t.burn).length : Int) - 1) hm) rfl rfl rfl aS rfl aH ?_; simp only [cl])) | (refine g_guard ?_; refine x_gsplit rfl rfl (fun h => ?_) (fun h => ?_) <;> (have h' := h; try simp only [sx] at h')) | (refine x_nil (hK _ _ aI ?_); clear hK K)) | (refine v_region (fun K hK => ?_)))
  all_goals
    (refine ret_bool rfl (lookE_ok rfl) ?_; rw [Bool.eq_iff_iff]; try simp only [sx] at *)
    first
      | (rw [e]; constructor
         · intro hq; exact ⟨by assumption, hq⟩
         · intro hq; exact hq.2)
      | (constructor <;> intro hq <;> first | contradiction | exact absurd hq.1 aA)
def cellsL (n : Nat) (p : Nat → Bool) : List Int := ((List.range n).filter p).map fun c : Nat => (c : Int)
theorem cellsL_len (n : Nat) (p : Nat → Bool) : (cellsL n p).length ≤ n := by
  simp only [cellsL, List.length_map]
  have := List.length_filter_le p (List.range n)
  simpa using this
theorem cellsL_mem {n : Nat} {p : Nat → Bool} {c : Int} : c ∈ cellsL n p ↔ ∃ i : Nat, i < n ∧ p i = true ∧ c = i := by
  simp only [cellsL, List.mem_map, List.mem_filter, List.mem_range]
  constructor
  · rintro ⟨i, ⟨h1, h2⟩, rfl⟩; exact ⟨i, h1, h2, rfl⟩
  · rintro ⟨i, h1, h2, rfl⟩; exact ⟨i, ⟨h1, h2⟩, rfl⟩
theorem cellsL_succ (n : Nat) (p : Nat → Bool) : cellsL (n + 1) p = cellsL n p ++ (if p n = true then [(n : Int)] else []) := by
  simp only [cellsL, List.range_succ, List.filter_append, List.map_append]
  by_cases h : p n = true <;> simp [h]
theorem cellsL_t {n : Nat} {p : Nat → Bool} (h : p n = true) : cellsL (n + 1) p = cellsL n p ++ [(n : Int)] := by rw [cellsL_succ, if_pos h]
theorem cellsL_f {n : Nat} {p : Nat → Bool} (h : p n = false) : cellsL (n + 1) p = cellsL n p := by rw [cellsL_succ, if_neg (by simp [h]), List.append_nil]
theorem k_cellsThat (t : Terrain) (g : FuncId) (ca : List (List PV)) (p : Nat → Bool) (hg : ∀ c : Nat, c < t.burn.length → Con Try.prog g (.int .i64 c :: ca.map PV.ptr) (.bool (p c))) (hn : t.burn.length ≤ 1099511627776) :
    Con Try.prog 75 [.agg t.pv, .fn g [] (ca.map PV.ptr)] (.olist 3 1 (ints (cellsL t.burn.length p))) := by
  intro al
  refine contract_of hmix Try.func75 rfl (by kernel_rfl) (by kernel_rfl) (Nat.le_of_ble_eq_true rfl) (fun row h => by cases h) ?_
  have hty_s24 := ty_s24
  have hty_f26_2 := ty_f26_2
  have hty_c24 := ty_c24
  have hty_u24 := ty_u24
  have hl1 : (ints t.burn).length = t.burn.length := by simp
  repeat' (first | (refine pA (k := ?_)) | (refine g_exec ?_; refine x_nil (hK _ _ aI ?_); clear hK K) | (refine v_region (fun K hK => ?_)) | (refine v_condt rfl (fun h => ?_) (fun h => ?_) <;> (have h' := h; try simp only [sx] at h')))
  refine v_loopK [1, 10] [] (fun q : Nat × Nat × List (List PV) => [(5, .osl (1001, 0) 0 q.2.1), (11, .int .i64 q.1)]) (fun q : Nat × Nat × List (List PV) => [((1001, 0), some ⟨3, 1, q.2.2, false⟩)]) (fun q : Nat × Nat × List (List PV) => q.1 ≤ t.burn.length ∧ q.2.2 = ints (cellsL q.1 p) ∧ q.2.2.length = q.2.1) (fun q : Nat × Nat × List (List PV) => t.burn.length - q.1) ((0, 0, [])) rfl rfl (fun _ => rfl) (fun _ => rfl) rfl (by refine ⟨?_, ?_, rfl, rfl⟩ <;> (repeat' (first | exact trivial | exact ⟨rfl, rfl⟩ | exact rfl | exact ⟨sub_fn, refs_fn⟩ | refine ⟨⟨rfl, rfl⟩, ?_⟩ | refine ⟨⟨sub_fn, refs_fn⟩, ?_⟩ | refine ⟨⟨rfl, fun h => Bool.noConfusion h⟩, ?_⟩ | refine ⟨⟨rfl, fun h => ?_⟩, ?_⟩ | refine ⟨rfl, ?_⟩ | refine ⟨?_, ?_⟩ | fail))) ⟨by simp, by simp [cellsL], rfl⟩ (fun q hq => ?_)
  obtain ⟨i, m, es⟩ := q
  obtain ⟨hi1, hi2, hl⟩ := hq
  simp only at hi1 hi2 hl
  have hle : es.length ≤ i := by rw [hi2, ints_len]; exact cellsL_len i p
  dsimp only
  rcases Nat.lt_or_ge i t.burn.length with hlt | hge
  · have kg := hg i hlt
    repeat' (first | (refine pA (k := ?_)) | (refine g_exec ?_; first | (refine g_call ?_; first | (refine x_callG true (kg) rfl rfl rfl aS rfl aH ?_; simp only [cl]) | (refine x_call [] _ (kg) rfl rfl aS rfl aH ?_; simp only [cl])) | (refine x_nil (hK _ _ aI ?_); clear hK K)) | (refine v_region (fun K hK => ?_)) | (refine v_condt rfl (fun h => ?_) (fun h => ?_) <;> (have h' := h; try simp only [sx] at h')))
    · refine q_next (i + 1, m + 1, es ++ [[.int .i64 i]]) rfl (by refine ⟨?_, ?_, rfl, rfl⟩ <;> (repeat' (first | exact trivial | exact ⟨rfl, rfl⟩ | exact rfl | exact ⟨sub_fn, refs_fn⟩ | refine ⟨⟨rfl, rfl⟩, ?_⟩ | refine ⟨⟨sub_fn, refs_fn⟩, ?_⟩ | refine ⟨⟨rfl, fun h => Bool.noConfusion h⟩, ?_⟩ | refine ⟨⟨rfl, fun h => ?_⟩, ?_⟩ | refine ⟨rfl, ?_⟩ | refine ⟨?_, ?_⟩ | fail))) ⟨by simp only; omega, ?_, by simp [hl]⟩ (by simp only; omega)
      simp only [cellsL_t (show p i = true by assumption), ints_snoc, hi2]
    · refine q_next (i + 1, m, es) rfl (by refine ⟨?_, ?_, rfl, rfl⟩ <;> (repeat' (first | exact trivial | exact ⟨rfl, rfl⟩ | exact rfl | exact ⟨sub_fn, refs_fn⟩ | refine ⟨⟨rfl, rfl⟩, ?_⟩ | refine ⟨⟨sub_fn, refs_fn⟩, ?_⟩ | refine ⟨⟨rfl, fun h => Bool.noConfusion h⟩, ?_⟩ | refine ⟨⟨rfl, fun h => ?_⟩, ?_⟩ | refine ⟨rfl, ?_⟩ | refine ⟨?_, ?_⟩ | fail))) ⟨by simp only; omega, ?_, hl⟩ (by simp only; omega)
      simp only [cellsL_f (show p i = false by assumption), hi2]
  · have : i = t.burn.length := by omega
    subst this
    repeat' (first | (refine pA (k := ?_)) | (refine g_exec ?_; refine x_nil (hK _ _ aI ?_); clear hK K) | (refine v_region (fun K hK => ?_)) | (refine v_condt rfl (fun h => ?_) (fun h => ?_) <;> (have h' := h; try simp only [sx] at h')))
    exact ret_list rfl (lookE_ok (by rfl)) (by rfl) (by decide) hl.symm (by rw [hi2]; exact ints_flat _) hi2
end Go.Vs
set_option linter.unusedVariables false
set_option linter.unusedSimpArgs false
set_option maxRecDepth 100000
set_option maxHeartbeats 4000000
namespace Go.Vs
open Go.Proofs
attribute [local irreducible] exec vwp thenQ blkQ loopQ RetPost
theorem k_l4Tick (x : Int) : Con Try.prog 38 [.int .i64 x] (.bool (decide (0 ≤ x) && decide (x ≤ 9999))) := by
  intro al
  refine contract_of hmix Try.func38 rfl (by kernel_rfl) (by kernel_rfl) (Nat.le_of_ble_eq_true rfl) (fun row h => by cases h) ?_
  repeat' (first | (refine pA (k := ?_)) | (refine g_exec ?_; first | (refine g_call ?_; refine x_callG true (k_l1In _ _ _) rfl rfl rfl aS rfl aH ?_; simp only [cl]) | (refine x_nil (hK _ _ aI ?_); clear hK K)) | (refine v_region (fun K hK => ?_)))
  exact ret_bool rfl (lookE_ok rfl) rfl
theorem k_isTick (x : Int) : Con Try.prog 36 [.int .i64 x] (.bool (decide (0 ≤ x) && decide (x ≤ 9999))) := by
  intro al
  refine contract_of hmix Try.func36 rfl (by kernel_rfl) (by kernel_rfl) (Nat.le_of_ble_eq_true rfl) (fun row h => by cases h) ?_
  repeat' (first | (refine pA (k := ?_)) | (refine g_exec ?_; first | (refine g_call ?_; refine x_callG true (k_in _ _ _) rfl rfl rfl aS rfl aH ?_; simp only [cl]) | (refine x_nil (hK _ _ aI ?_); clear hK K)) | (refine v_region (fun K hK => ?_)))
  exact ret_bool rfl (lookE_ok rfl) rfl
def IsCell (t : Terrain) (c : Int) : Prop := 0 ≤ c ∧ c < t.burn.length
instance (t : Terrain) (c : Int) : Decidable (IsCell t c) := by unfold IsCell; infer_instance
@[reducible] def colOf (t : Terrain) (c : Int) : Int := c % t.width
@[reducible] def rowOf (t : Terrain) (c : Int) : Int := c / t.width
theorem cell_place {t : Terrain} (hg : GoodT t) {c : Int} (hc : IsCell t c) : (0 ≤ colOf t c ∧ colOf t c < t.width) ∧ (0 ≤ rowOf t c ∧ rowOf t c < t.height) ∧ rowOf t c * t.width + colOf t c = c := by
  have hw := hg.1.1
  have ha := hg.2.1
  have h1 := hc.2
  refine ⟨⟨Int.emod_nonneg _ aO, Int.emod_lt_of_pos _ aO⟩, ⟨Int.ediv_nonneg hc.1 aO, Int.ediv_lt_of_lt_mul aO ?_⟩, ?_⟩
  · rw [Int.mul_comm]; omega
  · show c / t.width * t.width + c % t.width = c
    rw [Int.emod_def, Int.mul_comm]; omega
@[reducible] def absI (x : Int) : Int := max x (-x)
@[reducible] def apart (t : Terrain) (a b : Int) : Int := max (absI (colOf t a - colOf t b)) (absI (rowOf t a - rowOf t b))
theorem apart_comm (t : Terrain) (a b : Int) : apart t a b = apart t b a := by simp only [apart, absI]; omega
@[reducible] def burnAt (t : Terrain) (c : Int) : Int := t.burn.getD c.toNat 0
theorem burn_at {t : Terrain} {c : Int} (hc : IsCell t c) : t.burn[c.toNat]? = some (burnAt t c) := by
  obtain ⟨a, ha⟩ := get_ex (show c.toNat < t.burn.length by have := hc; unfold IsCell at this; omega)
  rw [ha, burnAt, getI ha]
theorem burn_bound {t : Terrain} (hg : GoodT t) {c : Int} (hc : IsCell t c) : 0 ≤ burnAt t c ∧ burnAt t c ≤ 20 := hg.2.2 _ (get_mem (burn_at hc))
@[reducible] def nearP (t : Terrain) (c : Int) (i : Nat) : Bool := decide (apart t c i = 1)
def nears (t : Terrain) (c : Int) : List Int := cellsL t.burn.length (nearP t c)
theorem nears_mem {t : Terrain} {c x : Int} : x ∈ nears t c ↔ IsCell t x ∧ apart t c x = 1 := by
  rw [nears, cellsL_mem]
  constructor
  · rintro ⟨i, h1, h2, rfl⟩
    exact ⟨⟨by omega, by omega⟩, by simpa [nearP] using h2⟩
  · rintro ⟨⟨h1, h2⟩, h3⟩
    refine ⟨x.toNat, by omega, ?_, by omega⟩
    have : ((x.toNat : Nat) : Int) = x := by omega
    simp only [nearP, this, h3, decide_true]
theorem nears_len (t : Terrain) (c : Int) : (nears t c).length ≤ t.burn.length := cellsL_len _ _
theorem k_l2Apart (t : Terrain) (a b : Int) (hg : GoodT t) (ha : IsCell t a) (hb : IsCell t b) : Con Try.prog 81 [.agg t.pv, .int .i64 a, .int .i64 b] (.int .i64 (apart t a b)) := by
  intro al
  refine contract_of hmix Try.func81 rfl (by kernel_rfl) (by kernel_rfl) (Nat.le_of_ble_eq_true rfl) (fun row h => by cases h) ?_
  have hty_f26_0 := ty_f26_0
  have hty_c3 := ty_c3
  have hd := hg.1
  unfold Dims at hd
  have p1 := cell_place hg ha
  have p2 := cell_place hg hb
  dsimp only [colOf, rowOf] at p1 p2
  have hca := ha
  have hcb := hb
  unfold IsCell at hca hcb
  have hl := goodT_len hg
  repeat' (first | (refine pA (k := ?_)) | (refine g_exec ?_; first | (refine g_call ?_; refine x_callG true (k_l1Most _ _) rfl rfl rfl aS rfl aH ?_; simp only [cl]) | (refine x_nil (hK _ _ aI ?_); clear hK K)) | (refine v_region (fun K hK => ?_)))
  exact ret_int rfl (lookE_ok rfl) rfl
theorem k_l2Near (t : Terrain) (c : Int) (hg : GoodT t) (hc : IsCell t c) : Con Try.prog 64 [.agg t.pv, .int .i64 c] (.olist 3 1 (ints (nears t c))) := by
  intro al
  refine contract_of hmix Try.func64 rfl (by kernel_rfl) (by kernel_rfl) (Nat.le_of_ble_eq_true rfl) (fun row h => by cases h) ?_
  have hty_s24 := ty_s24
  have hty_f26_2 := ty_f26_2
  have hty_c24 := ty_c24
  have hty_u24 := ty_u24
  have hty_a26 := ty_a26
  have hl1 : (ints t.burn).length = t.burn.length := by simp
  have hlen := goodT_len hg
  repeat' (first | (refine pA (k := ?_)) | (refine g_exec ?_; refine x_nil (hK _ _ aI ?_); clear hK K) | (refine v_region (fun K hK => ?_)) | (refine v_condt rfl (fun h => ?_) (fun h => ?_) <;> (have h' := h; try simp only [sx] at h')))
  refine v_loopK [1, 2] [] (fun q : Nat × Nat × List (List PV) => [(5, .osl (1001, 0) 0 q.2.1), (6, .int .i64 q.1)]) (fun q : Nat × Nat × List (List PV) => [((1001, 0), some ⟨3, 1, q.2.2, false⟩)]) (fun q : Nat × Nat × List (List PV) => q.1 ≤ t.burn.length ∧ q.2.2 = ints (cellsL q.1 (nearP t c)) ∧ q.2.2.length = q.2.1) (fun q : Nat × Nat × List (List PV) => t.burn.length - q.1) ((0, 0, [])) rfl rfl (fun _ => rfl) (fun _ => rfl) rfl (by refine ⟨?_, ?_, rfl, rfl⟩ <;> (repeat' (first | exact trivial | exact ⟨rfl, rfl⟩ | exact rfl | exact ⟨sub_fn, refs_fn⟩ | refine ⟨⟨rfl, rfl⟩, ?_⟩ | refine ⟨⟨sub_fn, refs_fn⟩, ?_⟩ | refine ⟨⟨rfl, fun h => Bool.noConfusion h⟩, ?_⟩ | refine ⟨⟨rfl, fun h => ?_⟩, ?_⟩ | refine ⟨rfl, ?_⟩ | refine ⟨?_, ?_⟩ | fail))) ⟨by simp, by simp [cellsL], rfl⟩ (fun q hq => ?_)
  obtain ⟨i, m, es⟩ := q
  obtain ⟨hi1, hi2, hl⟩ := hq
  simp only at hi1 hi2 hl
  have hle : es.length ≤ i := by rw [hi2, ints_len]; exact cellsL_len i _
  dsimp only
  rcases Nat.lt_or_ge i t.burn.length with hlt | hge
  · have kA := k_l2Apart t c i hg hc ⟨by omega, by omega⟩
    repeat' (first | (refine pA (k := ?_)) | (refine g_exec ?_; first | (refine g_call ?_; refine x_callG true (kA) rfl rfl rfl aS rfl aH ?_; simp only [cl]) | (refine x_nil (hK _ _ aI ?_); clear hK K)) | (refine v_region (fun K hK => ?_)) | (refine v_condt rfl (fun h => ?_) (fun h => ?_) <;> (have h' := h; try simp only [sx] at h')))
    · refine q_next (i + 1, m + 1, es ++ [[.int .i64 i]]) rfl (by refine ⟨?_, ?_, rfl, rfl⟩ <;> (repeat' (first | exact trivial | exact ⟨rfl, rfl⟩ | exact rfl | exact ⟨sub_fn, refs_fn⟩ | refine ⟨⟨rfl, rfl⟩, ?_⟩ | refine ⟨⟨sub_fn, refs_fn⟩, ?_⟩ | refine ⟨⟨rfl, fun h => Bool.noConfusion h⟩, ?_⟩ | refine ⟨⟨rfl, fun h => ?_⟩, ?_⟩ | refine ⟨rfl, ?_⟩ | refine ⟨?_, ?_⟩ | fail))) ⟨by simp only; omega, ?_, by simp [hl]⟩ (by simp only; omega)
      simp only [cellsL_t (show nearP t c i = true by assumption), ints_snoc, hi2]
    · refine q_next (i + 1, m, es) rfl (by refine ⟨?_, ?_, rfl, rfl⟩ <;> (repeat' (first | exact trivial | exact ⟨rfl, rfl⟩ | exact rfl | exact ⟨sub_fn, refs_fn⟩ | refine ⟨⟨rfl, rfl⟩, ?_⟩ | refine ⟨⟨sub_fn, refs_fn⟩, ?_⟩ | refine ⟨⟨rfl, fun h => Bool.noConfusion h⟩, ?_⟩ | refine ⟨⟨rfl, fun h => ?_⟩, ?_⟩ | refine ⟨rfl, ?_⟩ | refine ⟨?_, ?_⟩ | fail))) ⟨by simp only; omega, ?_, hl⟩ (by simp only; omega)
      simp only [cellsL_f (show nearP t c i = false by assumption), hi2]
  · have : i = t.burn.length := by omega
    subst this
    repeat' (first | (refine pA (k := ?_)) | (refine g_exec ?_; refine x_nil (hK _ _ aI ?_); clear hK K) | (refine v_region (fun K hK => ?_)) | (refine v_condt rfl (fun h => ?_) (fun h => ?_) <;> (have h' := h; try simp only [sx] at h')))
    exact ret_list rfl (lookE_ok (by rfl)) (by rfl) (by decide) hl.symm (by rw [hi2]; exact ints_flat _) hi2
theorem k_distance (a b : Int) (ha : -1000 ≤ a ∧ a ≤ 1000) (hb : -1000 ≤ b ∧ b ≤ 1000) : Con Try.prog 89 [.int .i64 a, .int .i64 b] (.int .i64 (absI (a - b))) := by
  intro al
  refine contract_of hmix Try.func89 rfl (by kernel_rfl) (by kernel_rfl) (Nat.le_of_ble_eq_true rfl) (fun row h => by cases h) ?_
  repeat' (first | (refine pA (k := ?_)) | (refine g_exec ?_; refine x_nil (hK _ _ aI ?_); clear hK K) | (refine v_region (fun K hK => ?_)))
  exact ret_int rfl (lookE_ok rfl) (by simp only [absI]; omega)
theorem k_apart (t : Terrain) (a b : Int) (hg : GoodT t) (ha : IsCell t a) (hb : IsCell t b) : Con Try.prog 77 [.agg t.pv, .int .i64 a, .int .i64 b] (.int .i64 (apart t a b)) := by
  intro al
  refine contract_of hmix Try.func77 rfl (by kernel_rfl) (by kernel_rfl) (Nat.le_of_ble_eq_true rfl) (fun row h => by cases h) ?_
  have hty_a26 := ty_a26
  have hd := hg.1
  unfold Dims at hd
  have p1 := cell_place hg ha
  have p2 := cell_place hg hb
  dsimp only [colOf, rowOf] at p1 p2
  have hca := ha
  have hcb := hb
  unfold IsCell at hca hcb
  have hl := goodT_len hg
  repeat' (first | (refine pA (k := ?_)) | (refine g_exec ?_; first | (refine g_call ?_; first | (refine x_callG true (k_column t a hd.1.1 aO) rfl rfl rfl aS rfl aH ?_; simp only [cl]) | (refine x_callG true (k_column t b hd.1.1 aO) rfl rfl rfl aS rfl aH ?_; simp only [cl]) | (refine x_callG true (k_row t a hd.1.1 aO) rfl rfl rfl aS rfl aH ?_; simp only [cl]) | (refine x_callG true (k_row t b hd.1.1 aO) rfl rfl rfl aS rfl aH ?_; simp only [cl]) | (refine x_callG true (k_distance (a % t.width) (b % t.width) aO aO) rfl rfl rfl aS rfl aH ?_; simp only [cl]) | (refine x_callG true (k_distance (a / t.width) (b / t.width) aO aO) rfl rfl rfl aS rfl aH ?_; simp only [cl])) | (refine x_nil (hK _ _ aI ?_); clear hK K)) | (refine v_region (fun K hK => ?_)))
  exact ret_int rfl (lookE_ok rfl) rfl
theorem k_neighbors1 (t : Terrain) (c x : Int) (hg : GoodT t) (hc : IsCell t c) (hx : IsCell t x) : Con Try.prog 76 [.int .i64 x, .ptr t.pv, .ptr [.int .i64 c]] (.bool (decide (apart t c x = 1))) := by
  intro al
  refine contract_of hmix Try.func76 rfl (by kernel_rfl) (by kernel_rfl) (Nat.le_of_ble_eq_true rfl) (fun row h => by cases h) ?_
  have hty_a26 := ty_a26
  have hty_c3 := ty_c3
  have k := k_apart t x c hg hx hc
  rw [apart_comm] at k
  repeat' (first | (refine pA (k := ?_)) | (refine g_exec ?_; first | (refine g_call ?_; refine x_callG true (k) rfl rfl rfl aS rfl aH ?_; simp only [cl]) | (refine x_nil (hK _ _ aI ?_); clear hK K)) | (refine v_region (fun K hK => ?_)))
  exact ret_bool rfl (lookE_ok rfl) rfl
theorem k_neighbors (t : Terrain) (c : Int) (hg : GoodT t) (hc : IsCell t c) : Con Try.prog 53 [.agg t.pv, .int .i64 c] (.olist 3 1 (ints (nears t c))) := by
  intro al
  refine contract_of hmix Try.func53 rfl (by kernel_rfl) (by kernel_rfl) (Nat.le_of_ble_eq_true rfl) (fun row h => by cases h) ?_
  have hty_a26 := ty_a26
  have hlen := goodT_len hg
  repeat' (first | (refine pA (k := ?_)) | (refine g_exec ?_; first | (refine g_call ?_; refine x_callG true (k_cellsThat t 76 [t.pv, [.int .i64 c]] (nearP t c) (fun x h => k_neighbors1 t c x hg hc ⟨by omega, by omega⟩) aO) rfl rfl rfl aS rfl aH ?_; simp only [cl]) | (refine x_nil (hK _ _ aI ?_); clear hK K)) | (refine v_region (fun K hK => ?_)))
  exact ret_list rfl (lookE_ok (by rfl)) (by rfl) (by decide) rfl (ints_flat _) rfl
theorem k_burns (t : Terrain) (c : Int) (hg : GoodT t) (hc : IsCell t c) : Con Try.prog 52 [.agg t.pv, .int .i64 c] (.bool (decide (0 < burnAt t c))) := by
  intro al
  refine contract_of hmix Try.func52 rfl (by kernel_rfl) (by kernel_rfl) (Nat.le_of_ble_eq_true rfl) (fun row h => by cases h) ?_
  have hty_f26_2 := ty_f26_2
  have hty_c24 := ty_c24
  have hty_s24 := ty_s24
  have hty_c3 := ty_c3
  have hl1 : (ints t.burn).length = t.burn.length := by simp
  have hx := ints_at (burn_at hc)
  have hcc := hc
  unfold IsCell at hcc
  repeat' (first | (refine pA (k := ?_)) | (refine g_exec ?_; refine x_nil (hK _ _ aI ?_); clear hK K) | (refine v_region (fun K hK => ?_)))
  exact ret_bool rfl (lookE_ok rfl) rfl
end Go.Vs
set_option linter.unusedVariables false
set_option linter.unusedSimpArgs false
set_option linter.unusedSectionVars false
namespace Go.Vs
section
variable [fl : Inhabited FlrT]
section
variable {P : Program} {G : Nat → Prop} {ρ : Id → Option (Nat × Nat)} {w0 w : World} {X : List (Option (Nat × Nat))} {M N : Mem} {v : Value}
theorem frzL_repN {t : Nat} {xs : List PV} {k : Nat} (hW : WRel G ρ w0 X M w) (hM : ∀ p ∈ (thawL t k xs).2.2, M p.1 = some p.2) (ht : t ≠ io) (hc : xs.all clean1 = true)
    (hsub : ∀ b, Stab G ρ M w b → Stab G ρ N w b) (hoff : ∀ id r, N id = some (some r) → M id = some (some r) ∧ id.1 ≠ t) {cs : Array Value} (h : Comps ρ w (Stab G ρ M w) M cs (thawL t k xs).2.1) : Comps ρ w (Stab G ρ N w) noMem cs (xs.map frz1) := by
  obtain ⟨hl, hat⟩ := thawL_at t xs k
  refine ⟨by rw [h.1, hl, List.length_map], fun j u hu => ?_⟩
  rw [List.getElem?_map] at hu
  cases hx : xs[j]? with
  | none => rw [hx] at hu; cases hu
  | some x =>
    rw [hx] at hu
    injection hu with hu
    subst hu
    obtain ⟨y, h1, h2⟩ := hat j x hx
    obtain ⟨c, h3, h4⟩ := h.2 j y h1
    refine ⟨c, h3, ?_⟩
    rcases h2 with ⟨ty, sz, es, k', rfl, rfl, hm⟩ | ⟨rfl, he⟩
    · exact osl_given hW (hM _ hm) ht hsub (fun id r h => ⟨(hoff id r h).1, fun e => (hoff id r h).2 (by rw [e])⟩) h4
    · rw [he]
      exact rep_clean1 hsub (List.all_eq_true.1 hc _ (List.mem_of_getElem? hx)) he h4
theorem frz2_repN {t : Nat} {x : PV} {k : Nat} (hW : WRel G ρ w0 X M w) (hM : ∀ p ∈ (thaw1 t k x).2.2, M p.1 = some p.2) (ht : t ≠ io) (hc : clean2 x = true)
    (hsub : ∀ b, Stab G ρ M w b → Stab G ρ N w b) (hoff : ∀ id r, N id = some (some r) → M id = some (some r) ∧ id.1 ≠ t) (h : Rep ρ w (Stab G ρ M w) M v (thaw1 t k x).2.1) : Rep ρ w (Stab G ρ N w) noMem v (frz2 x) := by
  cases x with
  | agg cs =>
    simp only [thaw1] at h hM
    obtain ⟨a, rfl, hcs⟩ := rep_agg.1 h
    exact rep_agg.2 ⟨a, rfl, frzL_repN hW hM ht hc hsub hoff hcs⟩
  | olist ty sz es => exact osl_given hW (hM ((t, k), some ⟨ty, sz, es, false⟩) (by simp [thaw1])) ht hsub (fun id r h => ⟨(hoff id r h).1, fun e => (hoff id r h).2 (by rw [e])⟩) h
  | any => exact rep_any
  | int _ _ => exact rep_clean1 hsub rfl rfl h
  | bool _ => exact rep_clean1 hsub rfl rfl h
  | str _ => exact rep_clean1 hsub rfl rfl h
  | nil => exact rep_clean1 hsub rfl rfl h
  | list _ _ => exact rep_clean1 hsub rfl rfl h
  | ptr _ => exact rep_clean1 hsub rfl rfl h
  | own _ _ _ => cases hc
  | clist _ _ => cases hc
  | osl _ _ _ => cases hc
  | tuple _ => cases hc
  | fn _ _ _ => cases hc
  | sem _ => cases hc
theorem ConL.frz {g : FuncId} {ys : List PV} {ios : List Row} {r : PV} {fin : List (List (List PV))} (h : ContractP P g true ys ios fun r' fin' => r' = r ∧ fin' = fin) (hc : clean r = true) (hbx : ∀ row ∈ ios, row.bx = false) :
    ContractP P g true ys ios fun r' fin' => r' = Go.Vs.frz r ∧ fin' = fin := by
  refine ⟨h.1, fun G w X ρ cargs hW hX hC => ?_⟩
  obtain ⟨cb, h2⟩ := h
  refine (h2 G w X ρ cargs hW hX hC).mono fun e w' => ?_
  rintro ⟨v, r', fin', rfl, ⟨rfl, rfl⟩, hl, hf, hR⟩
  refine ⟨v, Go.Vs.frz r', fin', rfl, ⟨rfl, rfl⟩, hl, hf, fun t ht => ?_⟩
  obtain ⟨ρ', hR⟩ := hR t ht
  refine ⟨ρ', ?_⟩
  have hrel := hR.rel
  have hval := hR.val
  have hN : ∀ id r, ioMem (withEs ios fin') id = some (some r) → ((ioMem (withEs ios fin')).upds (thaw t r').2) id = some (some r) ∧ id.1 ≠ t := by
    intro id r h
    have hio : id.1 = io := by
      simp only [ioMem] at h
      split at h
      · assumption
      · cases h
    have hne : id.1 ≠ t := by rw [hio]; exact fun e => ht e.symm
    exact ⟨by rw [upds_other _ _ id fun p hp e => hne (by rw [← e]; exact thaw_fst t r' p hp)]; exact h, hne⟩
  have hsub : ∀ b, Stab G ρ' ((ioMem (withEs ios fin')).upds (thaw t r').2) w' b → Stab G ρ' (ioMem (withEs ios fin')) w' b := fun b hb => ⟨hb.1, fun id r z h => hb.2.1 id r z (hN id r h).1, hb.2.2⟩
  have hkeys : ∀ p ∈ (thaw t r').2, noMem.upds (thaw t r').2 p.1 = some p.2 := fun p hp => by
    refine looks_upds _ ?_ p hp
    cases r' with
    | tuple vs => exact (thawT_keys t vs 0).2.2
    | _ => exact (thaw1_keys t 0 _).2.2
  have hat : ∀ p ∈ (thaw t r').2, ((ioMem (withEs ios fin')).upds (thaw t r').2) p.1 = some p.2 := fun p hp => by
    rcases upds_or (ioMem (withEs ios fin')) (thaw t r').2 p.1 with ⟨h1, _⟩ | ⟨_, h2⟩
    · rw [h1]; exact hkeys p hp
    · rw [hkeys p hp] at h2; cases h2
  have hmle : MLe ρ' w' (noMem.upds (thaw t r').2) ρ' w' ((ioMem (withEs ios fin')).upds (thaw t r').2) := fun id => by
    cases hMi : noMem.upds (thaw t r').2 id with
    | none => trivial
    | some o =>
      have e := hat (id, o) (upds_find hMi)
      cases o with
      | none => exact e
      | some row => exact .inr ⟨row, e, rfl, rfl, Nat.le_refl _, rfl, fun b z hb cur hcur => ⟨cur, hcur, rfl⟩⟩
  have hv : Rep ρ' w' (Stab G ρ' ((ioMem (withEs ios fin')).upds (thaw t r').2) w') ((ioMem (withEs ios fin')).upds (thaw t r').2) v (thaw t r').1 := hval.mono (fun b hb => ⟨hb.1, rfl⟩) hmle
  have key : Rep ρ' w' (Stab G ρ' (ioMem (withEs ios fin')) w') noMem v (Go.Vs.frz r') := by
    have one : ∀ x : PV, (∀ p ∈ (thaw1 t 0 x).2.2, ((ioMem (withEs ios fin')).upds (thaw t r').2) p.1 = some p.2) → clean2 x = true → Rep ρ' w' (Stab G ρ' ((ioMem (withEs ios fin')).upds (thaw t r').2) w') ((ioMem (withEs ios fin')).upds (thaw t r').2) v (thaw1 t 0 x).2.1 → Rep ρ' w' (Stab G ρ' (ioMem (withEs ios fin')) w') noMem v (frz2 x) :=
      fun x h1 h2 h3 => frz2_repN hrel h1 ht h2 hsub hN h3
    cases r' with
    | tuple vs =>
      simp only [thaw] at hv hrel hsub hN hat
      obtain ⟨a, rfl, hcs⟩ := rep_tuple.1 hv
      obtain ⟨k1, k2⟩ := thawT_at t vs 0
      refine rep_tuple.2 ⟨a, rfl, by rw [hcs.1, k1, List.length_map], fun j u hu => ?_⟩
      rw [List.getElem?_map] at hu
      cases hx : vs[j]? with
      | none => rw [hx] at hu; cases hu
      | some x =>
        rw [hx] at hu
        injection hu with hu
        subst hu
        obtain ⟨k', g1, g2⟩ := k2 j x hx
        obtain ⟨c, m1, m2⟩ := hcs.2 j _ g1
        exact ⟨c, m1, frz2_repN hrel (fun p hp => hat p (g2 p hp)) ht (List.all_eq_true.1 hc _ (List.mem_of_getElem? hx)) hsub hN m2⟩
    | agg cs => exact one (.agg cs) hat hc hv
    | olist ty sz es => exact one (.olist ty sz es) hat hc hv
    | any => exact rep_any
    | int _ _ => exact rep_clean1 hsub rfl rfl hv
    | bool _ => exact rep_clean1 hsub rfl rfl hv
    | str _ => exact rep_clean1 hsub rfl rfl hv
    | nil => exact rep_clean1 hsub rfl rfl hv
    | list _ _ => exact rep_clean1 hsub rfl rfl hv
    | ptr _ => exact rep_clean1 hsub rfl rfl hv
    | own _ _ _ => cases hc
    | clist _ _ => cases hc
    | osl _ _ _ => cases hc
    | fn _ _ _ => cases hc
    | sem _ => cases hc
  have hbx' : ∀ id r, ioMem (withEs ios fin') id = some (some r) → r.bx = false := by
    intro id r h
    simp only [ioMem] at h
    split at h
    · rw [withEs_at ios fin' _ hl] at h
      cases hk : ios[id.2]? with
      | none => rw [hk] at h; simp at h
      | some row0 =>
        cases hk2 : fin'[id.2]? with
        | none => rw [hk, hk2] at h; simp at h
        | some es =>
          rw [hk, hk2] at h
          simp at h
          rw [← h]
          exact hbx row0 (List.mem_of_getElem? hk)
    · cases h
  have hnew : WRel G ρ' w X (ioMem (withEs ios fin')) w' := by
    refine ⟨fun id id' r r' b z z' h1 h2 => hrel.inj id id' r r' b z z' (hN id r h1).1 (hN id' r' h2).1, fun id r h => ?_, fun id r h => hrel.new id r (hN id r h).1, hrel.keep, hrel.good, hrel.tab.mono fun b hb => ⟨hsub b hb, rfl⟩⟩
    have hr := hrel.row id r (hN id r h).1
    have hb := hbx' id r h
    cases hρ : ρ' id with
    | none => rw [hρ] at hr; exact hr
    | some bz =>
      obtain ⟨b, z⟩ := bz
      rw [hρ] at hr
      obtain ⟨cur, C, g1, g2, g3, g4, g5, g6⟩ := hr
      refine ⟨cur, C, g1, g2, g3, g4, g5, fun i e hi => ⟨(g6 i e hi).1, fun j u hu => ?_⟩⟩
      obtain ⟨c, k1, k2, k3⟩ := (g6 i e hi).2 j u hu
      rw [hb] at k3 ⊢
      exact ⟨c, k1, k2, k3.pureMono fun b hb => ⟨hsub b hb, rfl⟩⟩
  refine ⟨?_, ?_, ?_⟩
  · rw [thaw_frz]; exact hnew
  · intro id row b z h1
    rw [thaw_frz] at h1
    cases h1
  · rw [thaw_frz]
    exact key.mono (fun b hb => ⟨⟨hb, fun h => by cases h⟩, rfl⟩) (MLe.refl _ _ _)
end
section
variable {P : Program} {st : St} {al : Bool} {xs ys : List PV} {u u1 : List (Option Id)}
theorem et_lst {sz sz' : Nat} {es es' : List (List PV)} (ha : al = true) (hz : sz = sz') (h : es = es') (ht : ExpT al st xs ys u) : ExpT al st (.list sz es :: xs) (.list sz' es' :: ys) u := ⟨[], u, ⟨ha, hz, h, rfl⟩, ht, rfl⟩
theorem el_lst {sz sz' : Nat} {es es' : List (List PV)} (ha : al = true) (hz : sz = sz') (h : es = es') (ht : ExpL al st xs ys u) : ExpL al st (.list sz es :: xs) (.list sz' es' :: ys) u := ⟨[], u, ⟨ha, hz, h, rfl⟩, ht, rfl⟩
theorem et_listA {id : Id} {T T' sz sz' n : Nat} {es es' : List (List PV)} (ha : al = true) (hm : getM st.mem id = some (some ⟨T, sz, es, false⟩)) (hio : id.1 ≠ io) (hT : T = T') (hz : sz = sz') (hn : n = es.length) (hes : es = es')
    (ht : ExpT al st xs ys u) : ExpT al st (.osl id 0 n :: xs) (.olist T' sz' es' :: ys) (some id :: u) := by
  subst hT hz hes hn
  exact ⟨[some id], u, ⟨rfl, hio, rfl, .inl ha, hm, rfl⟩, ht, rfl⟩
theorem el_listA {id : Id} {T T' sz sz' n : Nat} {es es' : List (List PV)} (ha : al = true) (hm : getM st.mem id = some (some ⟨T, sz, es, false⟩)) (hio : id.1 ≠ io) (hT : T = T') (hz : sz = sz') (hn : n = es.length) (hes : es = es')
    (ht : ExpL al st xs ys u) : ExpL al st (.osl id 0 n :: xs) (.olist T' sz' es' :: ys) (some id :: u) := by
  subst hT hz hes hn
  exact ⟨[some id], u, ⟨rfl, hio, rfl, .inl ha, hm, rfl⟩, ht, rfl⟩
variable {rows : List Row} {fin : List (List (List PV))} {e : Exit}
theorem ret_TL {fn : Func} {x y : PV} {rs : List ResultVar} (hrs : fn.results.toList = rs) (hr : resO st rs = some (x :: y :: xs)) (hu : uT (x :: y :: xs) = some u) (hc : cellsT P rs (x :: y :: xs)) (ha : apartIds u) (hf : finsL st.mem 0 rows fin) (he : ExpT al st (x :: y :: xs) ys u) :
    RetPost P fn al rows (fun r' fin' => r' = .tuple ys ∧ fin' = fin) .ret st := ret_ofL (.inl rfl) (x :: y :: xs) u (by rw [hrs]; exact resO_ok hr hc) he ha hf
theorem ret_AL {fn : Func} {cs ds : List PV} {rs : List ResultVar} (hrs : fn.results.toList = rs) (hr : resO st rs = some [.agg cs]) (hu : uO cs = some u) (hc : cellsT P rs [.agg cs]) (ha : apartIds u) (hf : finsL st.mem 0 rows fin) (he : ExpL al st cs ds u) :
    RetPost P fn al rows (fun r' fin' => r' = .agg ds ∧ fin' = fin) .ret st := ret_ofL (.inl rfl) [.agg cs] u (by rw [hrs]; exact resO_ok hr hc) he ha hf
theorem ret_lL {fn : Func} {t T T' sz sz' n : Nat} {id : Id} {es es' : List (List PV)} (hr : fn.results = #[.tmp t]) (hv : lookE st.env t = some (.osl id 0 n)) (hm : getM st.mem id = some (some ⟨T, sz, es, false⟩)) (hio : id.1 ≠ io) (hf : finsL st.mem 0 rows fin) (hT : T = T') (hz : sz = sz') (hn : n = es.length) (hes : es = es') :
    RetPost P fn true rows (fun r' fin' => r' = .olist T' sz' es' ∧ fin' = fin) .ret st := by
  subst hT hz hes hn
  exact ret_ofL (.inl rfl) [.osl id 0 es.length] [some id] (by rw [hr]; exact ⟨lookE_ok hv, trivial⟩) ⟨rfl, hio, rfl, .inl rfl, hm, rfl⟩ ⟨by simp, trivial⟩ hf
theorem ret_iL {fn : Func} {t : Nat} {k : IntKind} {n n' : Int} (hr : fn.results = #[.tmp t]) (hv : lookE st.env t = some (.int k n)) (hf : finsL st.mem 0 rows fin) (hn : n = n') : RetPost P fn al rows (fun r' fin' => r' = .int k n' ∧ fin' = fin) .ret st := by
  subst hn
  exact ret_ofL (.inl rfl) [.int k n] [] (by rw [hr]; exact ⟨lookE_ok hv, trivial⟩) ⟨rfl, rfl, rfl⟩ trivial hf
theorem ret_bL {fn : Func} {t : Nat} {n n' : Bool} (hr : fn.results = #[.tmp t]) (hv : lookE st.env t = some (.bool n)) (hf : finsL st.mem 0 rows fin) (hn : n = n') : RetPost P fn al rows (fun r' fin' => r' = .bool n' ∧ fin' = fin) .ret st := by
  subst hn
  exact ret_ofL (.inl rfl) [.bool n] [] (by rw [hr]; exact ⟨lookE_ok hv, trivial⟩) ⟨rfl, rfl⟩ trivial hf
end
theorem seq_ex {S : Type} {Q : Nat → S → Prop} {R : Nat → S → S → Prop} (s0 : S) (h0 : Q 0 s0) (h : ∀ i s, Q i s → ∃ s', R i s s' ∧ Q (i + 1) s') : ∃ f : Nat → S, f 0 = s0 ∧ ∀ i, Q i (f i) ∧ R i (f i) (f (i + 1)) := by
  classical
  let g : (i : Nat) → {s : S // Q i s} := fun i => Nat.rec ⟨s0, h0⟩ (fun i s => ⟨Classical.choose (h i s.1 s.2), (Classical.choose_spec (h i s.1 s.2)).2⟩) i
  refine ⟨fun i => (g i).1, rfl, fun i => ⟨(g i).2, ?_⟩⟩
  exact (Classical.choose_spec (h i (g i).1 (g i).2)).1
section
variable {P : Program}
end
end
end Go.Vs
set_option linter.unusedVariables false
set_option linter.unusedSimpArgs false
set_option linter.unusedSectionVars false
namespace Go.Vs
section
variable [fl : Inhabited FlrT]
section
variable {P : Program} {ops : Array Oper} {rest : List Oper} {env : List (Nat × PV)} {mem : List (Id × Option Row)} {tr : List (List Id × List Id)} {K : St → List (List Id × List Id) → Prop}
  {d : Nat} {ty : TypeId} {pos : String} {af : Array Edge}
theorem x_callLP {f : Operand} {args : List Operand} {ats : Array TypeId} {g : FuncId} {fi ca xs ys : List PV} {Post : PV → List (List (List PV)) → Prop} (ids : List Id) {rd : List Id} {ios : List Row}
    (hC : ContractP P g true ys ios Post) (hf : ev (getE env) f = .fn g fi ca)
    (hxs : fi ++ args.map (ev (getE env)) ++ ca = xs) (hlend : lendR mem ids ids ios) (hrd : rdL (rdO true 6 mem) xs ys [] = some rd)
    (hnd : (nodupB ids && nodupB rd && rd.all (fun id => !(hasId ids id) && !Nat.beq id.1 io && (match getM mem id with | some (some _) => true | _ => false))) = true)
    (hsnap : AllR (SnapD 6 (getM mem) ids rd) xs ys) (hfree : freeB mem d = true)
    (hk : ∀ r fin, Post r fin → ∃ v up mem', thaw d r = (v, up) ∧ rowsNewL mem ids ios fin = some mem' ∧
      exec P ops false rest ⟨(d, v) :: env, (up ++ (mem' ++ (rd.map fun id : Id => (id, (none : Option Row))))) ++ mem⟩ (([], []) :: tr) K) :
    exec P ops false (⟨some d, .call ⟨.value f, args.toArray, ats⟩, ty, pos, af, none⟩ :: rest) ⟨env, mem⟩ tr K := by
  obtain ⟨hl, hr⟩ := lendR_ok hlend
  simp only [Bool.and_eq_true] at hnd
  obtain ⟨⟨hn1, hn2⟩, hn3⟩ := hnd
  have hn3 := List.all_eq_true.1 hn3
  obtain ⟨h1, h2⟩ := freeB_ok hfree
  subst hxs
  refine .inr ⟨by simp [wantedPV], .inr ⟨d, true, true, ids, rd, ios, Post, ⟨⟨.value f, args.toArray, ats⟩, f, g, fi, ca, ys, rfl, rfl, hf, fun t ht => by injection ht with ht; exact ht.symm, hC,
    ⟨h1, h2, by simpa using hsnap, hl, nodupB_ok hn1, hr, fun id hid hm => ?_, .inl ⟨rfl, fun id hid => ?_, nodupB_ok hn2⟩⟩⟩, .inl ⟨rfl, fun r fin hp _ => ?_⟩⟩⟩
  · have := hn3 id hid
    simp only [Bool.and_eq_true, Bool.not_eq_true'] at this
    rw [hasId_iff.2 hm] at this
    exact absurd this.1.1 (by simp)
  · have := hn3 id hid
    simp only [Bool.and_eq_true, Bool.not_eq_true'] at this
    refine ⟨fun e => by have h2 := this.1.2; rw [e] at h2; simp at h2, ?_⟩
    have h2 := this.2
    split at h2
    · exact ⟨_, by assumption⟩
    · cases h2
  · obtain ⟨v, up, mem', hth, hnew, hk⟩ := hk r fin hp
    have hups : callUps (St.M ⟨env, mem⟩) d ids rd true r (backF (St.M ⟨env, mem⟩) ids ios fin) = up ++ (mem' ++ rd.map fun id => (id, none)) := by
      show callUps (getM mem) d ids rd true r (backF (getM mem) ids ios fin) = _
      simp only [callUps, hth, frzUps, rowsNewL_ok hnew]
      simp
    rw [hups, show (thaw d r).1 = v by rw [hth]]
    exact hk
end
theorem RetPost.mono {P : Program} {fn : Func} {al : Bool} {ios : List Row} {Post Post' : PV → List (List (List PV)) → Prop} {e : Exit} {st : St} (hp : ∀ r fin, Post r fin → Post' r fin) (h : RetPost P fn al ios Post e st) : RetPost P fn al ios Post' e st := by
  obtain ⟨h0, xs, r, u, fin, h1, h2, h3, h4, h5⟩ := h
  exact ⟨h0, xs, r, u, fin, h1, h2, h3, hp _ _ h4, h5⟩
theorem ContractP.mono {P : Program} {g : FuncId} {al : Bool} {ys : List PV} {ios : List Row} {Post Post' : PV → List (List (List PV)) → Prop} (hp : ∀ r fin, Post r fin → Post' r fin) (h : ContractP P g al ys ios Post) : ContractP P g al ys ios Post' := by
  refine ⟨h.1, fun G w X ρ cargs hW hX hC => (h.2 G w X ρ cargs hW hX hC).mono fun e w' => ?_⟩
  rintro ⟨v, r', fin', rfl, hP, hl, hf, hR⟩
  exact ⟨v, r', fin', rfl, hp _ _ hP, hl, hf, hR⟩
section
variable {P : Program} {G : Nat → Prop} {ρ : Id → Option (Nat × Nat)} {w0 w : World} {X : List (Option (Nat × Nat))} {M N : Mem} {v : Value}
theorem ConL.frzP {g : FuncId} {ys : List PV} {ios : List Row} {Post : PV → List (List (List PV)) → Prop} (h : ContractP P g true ys ios Post) (hcl : ∀ r fin, Post r fin → clean r = true) (hbx : ∀ row ∈ ios, row.bx = false) :
    ContractP P g true ys ios fun r' fin' => ∃ r, r' = Go.Vs.frz r ∧ Post r fin' := by
  refine ⟨h.1, fun G w X ρ cargs hW hX hC => ?_⟩
  obtain ⟨cb, h2⟩ := h
  refine (h2 G w X ρ cargs hW hX hC).mono fun e w' => ?_
  rintro ⟨v, r', fin', rfl, hP0, hl, hf, hR⟩
  have hc := hcl _ _ hP0
  refine ⟨v, Go.Vs.frz r', fin', rfl, ⟨r', rfl, hP0⟩, hl, hf, fun t ht => ?_⟩
  obtain ⟨ρ', hR⟩ := hR t ht
  refine ⟨ρ', ?_⟩
  have hrel := hR.rel
  have hval := hR.val
  have hN : ∀ id r, ioMem (withEs ios fin') id = some (some r) → ((ioMem (withEs ios fin')).upds (thaw t r').2) id = some (some r) ∧ id.1 ≠ t := by
    intro id r h
    have hio : id.1 = io := by
      simp only [ioMem] at h
      split at h
      · assumption
      · cases h
    have hne : id.1 ≠ t := by rw [hio]; exact fun e => ht e.symm
    exact ⟨by rw [upds_other _ _ id fun p hp e => hne (by rw [← e]; exact thaw_fst t r' p hp)]; exact h, hne⟩
  have hsub : ∀ b, Stab G ρ' ((ioMem (withEs ios fin')).upds (thaw t r').2) w' b → Stab G ρ' (ioMem (withEs ios fin')) w' b := fun b hb => ⟨hb.1, fun id r z h => hb.2.1 id r z (hN id r h).1, hb.2.2⟩
  have hkeys : ∀ p ∈ (thaw t r').2, noMem.upds (thaw t r').2 p.1 = some p.2 := fun p hp => by
    refine looks_upds _ ?_ p hp
    cases r' with
    | tuple vs => exact (thawT_keys t vs 0).2.2
    | _ => exact (thaw1_keys t 0 _).2.2
  have hat : ∀ p ∈ (thaw t r').2, ((ioMem (withEs ios fin')).upds (thaw t r').2) p.1 = some p.2 := fun p hp => by
    rcases upds_or (ioMem (withEs ios fin')) (thaw t r').2 p.1 with ⟨h1, _⟩ | ⟨_, h2⟩
    · rw [h1]; exact hkeys p hp
    · rw [hkeys p hp] at h2; cases h2
  have hmle : MLe ρ' w' (noMem.upds (thaw t r').2) ρ' w' ((ioMem (withEs ios fin')).upds (thaw t r').2) := fun id => by
    cases hMi : noMem.upds (thaw t r').2 id with
    | none => trivial
    | some o =>
      have e := hat (id, o) (upds_find hMi)
      cases o with
      | none => exact e
      | some row => exact .inr ⟨row, e, rfl, rfl, Nat.le_refl _, rfl, fun b z hb cur hcur => ⟨cur, hcur, rfl⟩⟩
  have hv : Rep ρ' w' (Stab G ρ' ((ioMem (withEs ios fin')).upds (thaw t r').2) w') ((ioMem (withEs ios fin')).upds (thaw t r').2) v (thaw t r').1 := hval.mono (fun b hb => ⟨hb.1, rfl⟩) hmle
  have key : Rep ρ' w' (Stab G ρ' (ioMem (withEs ios fin')) w') noMem v (Go.Vs.frz r') := by
    have one : ∀ x : PV, (∀ p ∈ (thaw1 t 0 x).2.2, ((ioMem (withEs ios fin')).upds (thaw t r').2) p.1 = some p.2) → clean2 x = true → Rep ρ' w' (Stab G ρ' ((ioMem (withEs ios fin')).upds (thaw t r').2) w') ((ioMem (withEs ios fin')).upds (thaw t r').2) v (thaw1 t 0 x).2.1 → Rep ρ' w' (Stab G ρ' (ioMem (withEs ios fin')) w') noMem v (frz2 x) :=
      fun x h1 h2 h3 => frz2_repN hrel h1 ht h2 hsub hN h3
    cases r' with
    | tuple vs =>
      simp only [thaw] at hv hrel hsub hN hat
      obtain ⟨a, rfl, hcs⟩ := rep_tuple.1 hv
      obtain ⟨k1, k2⟩ := thawT_at t vs 0
      refine rep_tuple.2 ⟨a, rfl, by rw [hcs.1, k1, List.length_map], fun j u hu => ?_⟩
      rw [List.getElem?_map] at hu
      cases hx : vs[j]? with
      | none => rw [hx] at hu; cases hu
      | some x =>
        rw [hx] at hu
        injection hu with hu
        subst hu
        obtain ⟨k', g1, g2⟩ := k2 j x hx
        obtain ⟨c, m1, m2⟩ := hcs.2 j _ g1
        exact ⟨c, m1, frz2_repN hrel (fun p hp => hat p (g2 p hp)) ht (List.all_eq_true.1 hc _ (List.mem_of_getElem? hx)) hsub hN m2⟩
    | agg cs => exact one (.agg cs) hat hc hv
    | olist ty sz es => exact one (.olist ty sz es) hat hc hv
    | any => exact rep_any
    | int _ _ => exact rep_clean1 hsub rfl rfl hv
    | bool _ => exact rep_clean1 hsub rfl rfl hv
    | str _ => exact rep_clean1 hsub rfl rfl hv
    | nil => exact rep_clean1 hsub rfl rfl hv
    | list _ _ => exact rep_clean1 hsub rfl rfl hv
    | ptr _ => exact rep_clean1 hsub rfl rfl hv
    | own _ _ _ => cases hc
    | clist _ _ => cases hc
    | osl _ _ _ => cases hc
    | fn _ _ _ => cases hc
    | sem _ => cases hc
  have hbx' : ∀ id r, ioMem (withEs ios fin') id = some (some r) → r.bx = false := by
    intro id r h
    simp only [ioMem] at h
    split at h
    · rw [withEs_at ios fin' _ hl] at h
      cases hk : ios[id.2]? with
      | none => rw [hk] at h; simp at h
      | some row0 =>
        cases hk2 : fin'[id.2]? with
        | none => rw [hk, hk2] at h; simp at h
        | some es =>
          rw [hk, hk2] at h
          simp at h
          rw [← h]
          exact hbx row0 (List.mem_of_getElem? hk)
    · cases h
  have hnew : WRel G ρ' w X (ioMem (withEs ios fin')) w' := by
    refine ⟨fun id id' r r' b z z' h1 h2 => hrel.inj id id' r r' b z z' (hN id r h1).1 (hN id' r' h2).1, fun id r h => ?_, fun id r h => hrel.new id r (hN id r h).1, hrel.keep, hrel.good, hrel.tab.mono fun b hb => ⟨hsub b hb, rfl⟩⟩
    have hr := hrel.row id r (hN id r h).1
    have hb := hbx' id r h
    cases hρ : ρ' id with
    | none => rw [hρ] at hr; exact hr
    | some bz =>
      obtain ⟨b, z⟩ := bz
      rw [hρ] at hr
      obtain ⟨cur, C, g1, g2, g3, g4, g5, g6⟩ := hr
      refine ⟨cur, C, g1, g2, g3, g4, g5, fun i e hi => ⟨(g6 i e hi).1, fun j u hu => ?_⟩⟩
      obtain ⟨c, k1, k2, k3⟩ := (g6 i e hi).2 j u hu
      rw [hb] at k3 ⊢
      exact ⟨c, k1, k2, k3.pureMono fun b hb => ⟨hsub b hb, rfl⟩⟩
  refine ⟨?_, ?_, ?_⟩
  · rw [thaw_frz]; exact hnew
  · intro id row b z h1
    rw [thaw_frz] at h1
    cases h1
  · rw [thaw_frz]
    exact key.mono (fun b hb => ⟨⟨hb, fun h => by cases h⟩, rfl⟩) (MLe.refl _ _ _)
end
end
end Go.Vs
set_option linter.unusedVariables false
set_option linter.unusedSimpArgs false
set_option maxRecDepth 100000
set_option maxHeartbeats 4000000
namespace Go.Vs
open Go.Proofs
attribute [local irreducible] exec vwp thenQ blkQ loopQ RetPost
def kPut (l : List Int) (n : Int) : Nat := (l.takeWhile fun x => decide (x < n)).length
def put (l : List Int) (n : Int) : List Int := if l[kPut l n]? = some n then l else l.take (kPut l n) ++ (n :: l.drop (kPut l n))
theorem kPut_is : ∀ {l : List Int} {n : Int} {k : Nat}, k ≤ l.length → (∀ (j : Nat) x, j < k → l[j]? = some x → x < n) → (∀ x, l[k]? = some x → ¬ x < n) → kPut l n = k
  | [], n, k, hk, _, _ => by simp at hk; subst hk; rfl
  | a :: l, n, k, hk, h1, h2 => by
    unfold kPut
    cases k with
    | zero =>
      have := h2 a rfl
      rw [List.takeWhile_cons_of_neg (by simpa using this)]
      rfl
    | succ k =>
      have h0 := h1 0 a aO rfl
      rw [List.takeWhile_cons_of_pos (by simpa using h0), List.length_cons]
      have := kPut_is (l := l) (n := n) (k := k) (by simpa using hk) (fun j x hj hx => h1 (j + 1) x aO (by simpa using hx)) (fun x hx => h2 x (by simpa using hx))
      unfold kPut at this
      rw [this]
theorem kPut_le (l : List Int) (n : Int) : kPut l n ≤ l.length := (List.takeWhile_prefix _).length_le
theorem put_len (l : List Int) (n : Int) : (put l n).length ≤ l.length + 1 := by
  have := kPut_le l n
  unfold put
  split
  · omega
  · simp; omega
theorem put_mem {l : List Int} {n y : Int} : y ∈ put l n ↔ y ∈ l ∨ y = n := by
  unfold put
  split
  · rename_i h
    exact ⟨.inl, fun h2 => by rcases h2 with h2 | rfl; exact h2; exact get_mem h⟩
  · have : y ∈ l ↔ y ∈ l.take (kPut l n) ∨ y ∈ l.drop (kPut l n) := by rw [← List.mem_append, List.take_append_drop]
    simp only [List.mem_append, List.mem_cons, this]
    constructor
    · rintro (h | h | h)
      · exact .inl (.inl h)
      · exact .inr h
      · exact .inl (.inr h)
    · rintro ((h | h) | h)
      · exact .inl h
      · exact .inr (.inr h)
      · exact .inr (.inl h)
theorem ret_lst {st : St} {fn : Func} {t sz : Nat} {es es' : List (List PV)} (hr : fn.results = #[.tmp t]) (h1 : getE st.env t = .list sz es) (he : es = es') : RetPost Try.prog fn true [] (Ret (.list sz es')) .ret st := by
  subst he
  exact ret_of [.list sz es] [] (by rw [hr]; exact ⟨h1, trivial⟩) ⟨rfl, rfl, rfl, rfl⟩ trivial
theorem ret_lstb {st : St} {fn : Func} {t1 t2 sz : Nat} {es es' : List (List PV)} {b b' : Bool} (hr : fn.results = #[.tmp t1, .tmp t2]) (h1 : getE st.env t1 = .list sz es) (h2 : getE st.env t2 = .bool b) (he : es = es') (hb : b = b') :
    RetPost Try.prog fn true [] (Ret (.tuple [.list sz es', .bool b'])) .ret st := by
  subst he
  subst hb
  exact ret_of [.list sz es, .bool b] [] (by rw [hr]; exact ⟨h1, h2, trivial⟩) ⟨[], [], ⟨rfl, rfl, rfl, rfl⟩, ⟨[], [], ⟨rfl, rfl⟩, rfl, rfl⟩, rfl⟩ trivial
theorem k_l1Put (l : List Int) (n : Int) (hn : l.length ≤ 1000000) : ConA Try.prog 44 [.list 1 (ints l), .int .i64 n] (.list 1 (ints (put l n))) := by
  refine contract_of hmix Try.func44 rfl (by kernel_rfl) (by kernel_rfl) (Nat.le_of_ble_eq_true rfl) (fun row h => by cases h) ?_
  have hty_u24 := ty_u24
  have hty_s24 := ty_s24
  have hty_c3 := ty_c3
  have hl1 : (ints l).length = l.length := by simp
  repeat' (first | (refine pA (k := ?_)) | (refine g_exec ?_; first | (refine g_guard ?_; refine x_gsplit rfl rfl (fun h => ?_) (fun h => ?_) <;> (have h' := h; try simp only [sx] at h')) | (refine x_nil (hK _ _ aI ?_); clear hK K)) | (refine v_region (fun K hK => ?_)) | (refine v_condt rfl (fun h => ?_) (fun h => ?_) <;> (have h' := h; try simp only [sx] at h')))
  refine v_loopK [0, 1] [] (fun k : Nat => [(5, .int .i64 k)]) (fun k : Nat => []) (fun k : Nat => k ≤ l.length ∧ ∀ (j : Nat) x, j < k → l[j]? = some x → x < n) (fun k : Nat => l.length - k) (0) rfl rfl (fun _ => rfl) (fun _ => rfl) rfl (by refine ⟨?_, ?_, rfl, rfl⟩ <;> (repeat' (first | exact trivial | exact ⟨rfl, rfl⟩ | exact rfl | exact ⟨sub_fn, refs_fn⟩ | refine ⟨⟨rfl, rfl⟩, ?_⟩ | refine ⟨⟨sub_fn, refs_fn⟩, ?_⟩ | refine ⟨⟨rfl, fun h => Bool.noConfusion h⟩, ?_⟩ | refine ⟨⟨rfl, fun h => ?_⟩, ?_⟩ | refine ⟨rfl, ?_⟩ | refine ⟨?_, ?_⟩ | fail))) ⟨by omega, fun j x hj => by omega⟩ (fun k hk => ?_)
  obtain ⟨hk1, hk2⟩ := hk
  have hs1 : ((ints l).take ((k : Nat) : Int).toNat).drop (((0 : Nat) : Int)).toNat = (ints l).take k := by simp
  have hs2 : ((ints l).take (((ints l).length : Nat) : Int).toNat).drop ((k : Nat) : Int).toNat = (ints l).drop k := by rw [Int.toNat_natCast, Int.toNat_natCast, List.take_length]
  have hs3 : ((ints l).take k).length = k := by rw [List.length_take]; omega
  have hs4 : ((ints l).drop k).length = l.length - k := by rw [List.length_drop]; omega
  rcases Nat.lt_or_ge k l.length with hlt | hge
  · obtain ⟨a, ha⟩ := get_ex hlt
    have hx := ints_at ha
    by_cases hb : a < n
    · repeat' (first | (refine pA (k := ?_)) | (refine g_exec ?_; first | (refine g_guard ?_; refine x_gsplit rfl rfl (fun h => ?_) (fun h => ?_) <;> (have h' := h; try simp only [sx] at h')) | (refine x_nil (hK _ _ aI ?_); clear hK K)) | (refine v_region (fun K hK => ?_)) | (refine v_condt rfl (fun h => ?_) (fun h => ?_) <;> (have h' := h; try simp only [sx] at h')))
      all_goals try (exfalso; omega)
      refine q_next (k + 1) rfl (by refine ⟨?_, ?_, rfl, rfl⟩ <;> (repeat' (first | exact trivial | exact ⟨rfl, rfl⟩ | exact rfl | exact ⟨sub_fn, refs_fn⟩ | refine ⟨⟨rfl, rfl⟩, ?_⟩ | refine ⟨⟨sub_fn, refs_fn⟩, ?_⟩ | refine ⟨⟨rfl, fun h => Bool.noConfusion h⟩, ?_⟩ | refine ⟨⟨rfl, fun h => ?_⟩, ?_⟩ | refine ⟨rfl, ?_⟩ | refine ⟨?_, ?_⟩ | fail))) ⟨by omega, fun j x hj hxx => ?_⟩ aO
      rcases Nat.lt_or_ge j k with h1 | h1
      · exact hk2 j x h1 hxx
      · have : j = k := by omega
        subst this
        rw [ha] at hxx
        injection hxx with hxx
        omega
    · have e : kPut l n = k := kPut_is hk1 hk2 fun x hx => by rw [ha] at hx; injection hx with hx; omega
      by_cases heq : a = n
      · have e2 : put l n = l := by unfold put; rw [e, if_pos (by rw [ha, heq])]
        rw [e2]
        repeat' (first | (refine pA (k := ?_)) | (refine g_exec ?_; first | (refine g_guard ?_; refine x_gsplit rfl rfl (fun h => ?_) (fun h => ?_) <;> (have h' := h; try simp only [sx] at h')) | (refine x_nil (hK _ _ aI ?_); clear hK K)) | (refine v_region (fun K hK => ?_)) | (refine v_condt rfl (fun h => ?_) (fun h => ?_) <;> (have h' := h; try simp only [sx] at h')))
        all_goals first
          | (exfalso; omega)
          | exact ret_lst rfl (lookE_ok rfl) rfl
      · have e2 : put l n = l.take k ++ (n :: l.drop k) := by unfold put; rw [e, if_neg (by rw [ha]; intro h; injection h with h; exact heq h)]
        have e3 : ints (put l n) = ((ints l).take k ++ [[.int .i64 n]]) ++ (ints l).drop k := by rw [e2]; simp [ints, List.map_take, List.map_drop]
        rw [e3]
        repeat' (first | (refine q_thenF 4 rfl rfl (by first | rfl | omega | (simp; done) | (simp; omega) | fail) rfl ?_) | (refine pA (k := ?_)) | (refine g_exec ?_; first | (refine g_guard ?_; refine x_gsplit rfl rfl (fun h => ?_) (fun h => ?_) <;> (have h' := h; try simp only [sx] at h')) | (refine x_nil (hK _ _ aI ?_); clear hK K)) | (refine v_region (fun K hK => ?_)) | (refine v_condt rfl (fun h => ?_) (fun h => ?_) <;> (have h' := h; try simp only [sx] at h')))
        all_goals first
          | (exfalso; omega)
          | (refine ret_lst rfl (lookE_ok rfl) ?_ <;> simp)
  · have e : kPut l n = l.length := by
      have : k = l.length := by omega
      subst this
      exact kPut_is hk1 hk2 fun x hx => by have := get_lt hx; omega
    have e2 : put l n = l.take l.length ++ (n :: l.drop l.length) := by unfold put; rw [e, if_neg (by rw [List.getElem?_eq_none (Nat.le_refl _)]; intro h; cases h)]
    have e3 : ints (put l n) = ((ints l).take l.length ++ [[.int .i64 n]]) ++ (ints l).drop l.length := by rw [e2]; simp only [ints, List.map_append, List.map_cons, List.map_take, List.map_drop, List.append_assoc, List.cons_append, List.nil_append]
    have hk3 : k = l.length := by omega
    subst hk3
    rw [e3]
    repeat' (first | (refine q_thenF 4 rfl rfl (by first | rfl | omega | (simp; done) | (simp; omega) | fail) rfl ?_) | (refine pA (k := ?_)) | (refine g_exec ?_; first | (refine g_guard ?_; refine x_gsplit rfl rfl (fun h => ?_) (fun h => ?_) <;> (have h' := h; try simp only [sx] at h')) | (refine x_nil (hK _ _ aI ?_); clear hK K)) | (refine v_region (fun K hK => ?_)) | (refine v_condt rfl (fun h => ?_) (fun h => ?_) <;> (have h' := h; try simp only [sx] at h')))
    all_goals first
      | (exfalso; omega)
      | (refine ret_lst rfl (lookE_ok rfl) ?_ <;> simp)
end Go.Vs
set_option linter.unusedVariables false
set_option linter.unusedSimpArgs false
namespace Go.Vs
theorem ConF.frz {P : Program} {g : FuncId} {ys : List PV} {ty : TypeId} {sz : Nat} {es : List (List PV)} (h : ContractP P g false ys [] (Ret (.olist ty sz es))) (hfl : ∀ e ∈ es, ∀ c ∈ e, c.flat = true) : ContractP P g false ys [] (Ret (.list sz es)) := by
  refine ⟨h.1, fun G w X ρ cargs hW hX hC => ?_⟩
  obtain ⟨cb, h2⟩ := h
  refine (h2 G w X ρ cargs hW hX hC).mono fun e w' => ?_
  rintro ⟨v, r', fin, rfl, ⟨rfl, rfl⟩, hl, hf, hR⟩
  refine ⟨v, .list sz es, [], rfl, ⟨rfl, rfl⟩, hl, hf, fun t ht => ?_⟩
  obtain ⟨ρ', hR⟩ := hR t ht
  refine ⟨ρ', ?_⟩
  have hio : ioMem (withEs [] ([] : List (List (List PV)))) = noMem := by funext id; simp [ioMem, noMem, withEs]
  have hX0 : X = [] := List.length_eq_zero_iff.1 hX
  have hrel := hR.rel
  rw [hio] at hrel
  have hval := hR.val
  rw [hio] at hval
  have hM : (noMem.upds (thaw t (.olist ty sz es)).2) (t, 0) = some (some ⟨ty, sz, es, false⟩) := looks_upds _ (thaw1_keys t 0 (.olist ty sz es)).2.2 ((t, 0), some ⟨ty, sz, es, false⟩) (by simp [thaw1])
  have hv : Rep ρ' w' (Stab G ρ' (noMem.upds (thaw t (.olist ty sz es)).2) w') (noMem.upds (thaw t (.olist ty sz es)).2) v (.osl (t, 0) 0 es.length) := hval.mono (fun b hb => ⟨hb.1, rfl⟩) (MLe.refl _ _ _)
  have hnew : WRel G ρ' w X noMem w' := ⟨fun id id' r r' b z z' h => by simp [noMem] at h, fun id r h => by simp [noMem] at h, fun id r h => by simp [noMem] at h, hrel.keep, hrel.good, hrel.tab.noMem⟩
  have key : Rep ρ' w' (RetS G false ρ' w noMem w') noMem v (.list sz es) := by
    obtain ⟨a, cap, rfl, h1, h2, h3⟩ := osl_cells hrel hM rfl hv
    refine rep_list.2 ⟨a, cap, rfl, h1, fun hne => ?_⟩
    obtain ⟨b, z, hρ, rfl, g⟩ := h3 (List.length_pos_iff.2 hne)
    have hb := hrel.new (t, 0) _ hM
    rw [if_neg ht] at hb
    have hb2 := hb b z hρ
    have hfresh : w.heap.size ≤ b := by
      rcases hb2 with h | ⟨z', h⟩
      · exact h
      · rw [hX0] at h; cases h
    refine ⟨_, rfl, ⟨⟨hrel.lt hM hρ, fun id' r z' hM' => by simp [noMem] at hM', hrel.good b hb2⟩, fun _ => hfresh⟩, fun i e hi => ?_⟩
    have hi' : ((es.drop 0).take es.length)[i]? = some e := by rw [List.drop_zero, List.take_length]; exact hi
    obtain ⟨k1, k2⟩ := g i e hi'
    refine ⟨k1, fun j u hu => ?_⟩
    obtain ⟨c, m1, m2, m3⟩ := k2 j u hu
    exact ⟨c, m1, m2, rep_flat (hfl e (List.mem_of_getElem? hi) u (List.mem_of_getElem? hu)) m3⟩
  refine ⟨?_, ?_, ?_⟩
  · rw [hio]; exact hnew
  · intro id row b z h1
    cases h1
  · rw [hio]; exact key
end Go.Vs
set_option linter.unusedVariables false
set_option linter.unusedSimpArgs false
set_option maxRecDepth 100000
set_option maxHeartbeats 4000000
namespace Go.Vs
open Go.Proofs
attribute [local irreducible] exec vwp thenQ blkQ loopQ RetPost
def CelT (t : Terrain) (xs : List Int) : Prop := ∀ y ∈ xs, IsCell t y
theorem CelT.at {t : Terrain} {xs : List Int} (h : CelT t xs) {i : Nat} {a : Int} (hi : xs[i]? = some a) : IsCell t a := h a (get_mem hi)
theorem any_step {p : Int → Bool} {xs : List Int} {i : Nat} {a : Int} (h : ∀ y ∈ xs.take i, p y = false) (ha : xs[i]? = some a) (hp : p a = false) : ∀ y ∈ xs.take (i + 1), p y = false := all_take_succ ha h hp
theorem any_yes {p : Int → Bool} {xs : List Int} {i : Nat} {a : Int} (ha : xs[i]? = some a) (hp : p a = true) : xs.any p = true := List.any_eq_true.2 ⟨a, get_mem ha, hp⟩
theorem any_no {p : Int → Bool} {xs : List Int} {i : Nat} (h : ∀ y ∈ xs.take i, p y = false) (hi : xs.length ≤ i) : xs.any p = false := by
  rw [take_all hi] at h
  exact List.any_eq_false.2 fun y hy => by rw [h y hy]; exact Bool.false_ne_true
def metB (xs ys : List Int) : Bool := xs.any fun x => decide (x ∈ ys)
theorem k_l9Meet (xs ys : List Int) (hx : xs.length ≤ 1000000) (hy : ys.length ≤ 1000000) : Con Try.prog 94 [.list 1 (ints xs), .list 1 (ints ys)] (.bool (metB xs ys)) := by
  intro al
  refine contract_of hmix Try.func94 rfl (by kernel_rfl) (by kernel_rfl) (Nat.le_of_ble_eq_true rfl) (fun row h => by cases h) ?_
  have hty_u24 := ty_u24
  have hty_s24 := ty_s24
  have hty_c3 := ty_c3
  have hl1 : (ints xs).length = xs.length := by simp
  repeat' (first | (refine pA (k := ?_)) | (refine g_exec ?_; refine x_nil (hK _ _ aI ?_); clear hK K) | (refine v_region (fun K hK => ?_)) | (refine v_condt rfl (fun h => ?_) (fun h => ?_) <;> (have h' := h; try simp only [sx] at h')))
  refine v_loopK [0, 1] [] (fun i : Nat => [(5, .int .i64 i)]) (fun i : Nat => []) (fun i : Nat => i ≤ xs.length ∧ ∀ y ∈ xs.take i, decide (y ∈ ys) = false) (fun i : Nat => xs.length - i) (0) rfl rfl (fun _ => rfl) (fun _ => rfl) rfl (by refine ⟨?_, ?_, rfl, rfl⟩ <;> (repeat' (first | exact trivial | exact ⟨rfl, rfl⟩ | exact rfl | exact ⟨sub_fn, refs_fn⟩ | refine ⟨⟨rfl, rfl⟩, ?_⟩ | refine ⟨⟨sub_fn, refs_fn⟩, ?_⟩ | refine ⟨⟨rfl, fun h => Bool.noConfusion h⟩, ?_⟩ | refine ⟨⟨rfl, fun h => ?_⟩, ?_⟩ | refine ⟨rfl, ?_⟩ | refine ⟨?_, ?_⟩ | fail))) ⟨by omega, fun y hy => by simp at hy⟩ (fun i hi => ?_)
  obtain ⟨hi1, hi2⟩ := hi
  rcases Nat.lt_or_ge i xs.length with hlt | hge
  · obtain ⟨a, hga⟩ := get_ex hlt
    have hg := ints_at hga
    by_cases hin : a ∈ ys
    · repeat' (first | (refine pA (k := ?_)) | (refine g_exec ?_; first | (refine g_call ?_; refine x_callG true (k_l1Has ys a aO) rfl rfl rfl aS rfl aH ?_; simp only [cl]) | (refine x_nil (hK _ _ aI ?_); clear hK K)) | (refine v_region (fun K hK => ?_)) | (refine v_condt rfl (fun h => ?_) (fun h => ?_) <;> (have h' := h; try simp only [sx] at h')))
      all_goals first
        | (exfalso; simp_all; done)
        | exact ret_bool rfl (lookE_ok rfl) (any_yes hga (by simpa using hin)).symm
    · repeat' (first | (refine pA (k := ?_)) | (refine g_exec ?_; first | (refine g_call ?_; refine x_callG true (k_l1Has ys a aO) rfl rfl rfl aS rfl aH ?_; simp only [cl]) | (refine x_nil (hK _ _ aI ?_); clear hK K)) | (refine v_region (fun K hK => ?_)) | (refine v_condt rfl (fun h => ?_) (fun h => ?_) <;> (have h' := h; try simp only [sx] at h')))
      all_goals first
        | (exfalso; simp_all; done)
        | (refine q_next (i + 1) rfl (by refine ⟨?_, ?_, rfl, rfl⟩ <;> (repeat' (first | exact trivial | exact ⟨rfl, rfl⟩ | exact rfl | exact ⟨sub_fn, refs_fn⟩ | refine ⟨⟨rfl, rfl⟩, ?_⟩ | refine ⟨⟨sub_fn, refs_fn⟩, ?_⟩ | refine ⟨⟨rfl, fun h => Bool.noConfusion h⟩, ?_⟩ | refine ⟨⟨rfl, fun h => ?_⟩, ?_⟩ | refine ⟨rfl, ?_⟩ | refine ⟨?_, ?_⟩ | fail))) ⟨by omega, any_step hi2 hga (by simpa using hin)⟩ aO)
  · repeat' (first | (refine pA (k := ?_)) | (refine g_exec ?_; refine x_nil (hK _ _ aI ?_); clear hK K) | (refine v_region (fun K hK => ?_)) | (refine v_condt rfl (fun h => ?_) (fun h => ?_) <;> (have h' := h; try simp only [sx] at h')))
    exact ret_bool rfl (lookE_ok rfl) (any_no hi2 hge).symm
def AskL (t : Terrain) (xs ys : List Int) : Prop := GoodT t ∧ (∀ y ∈ xs, 0 ≤ y ∧ y < t.burn.length) ∧ Rising xs ∧ (∀ y ∈ ys, 0 ≤ y ∧ y < t.burn.length) ∧ Rising ys ∧ metB xs ys = false
instance (t : Terrain) (xs ys : List Int) : Decidable (AskL t xs ys) := by unfold AskL; infer_instance
theorem k_l9Asked (t : Terrain) (xs ys : List Int) (hn : t.burn.length ≤ 1099511627776) (hx : xs.length ≤ 1000000) (hy : ys.length ≤ 1000000) : Con Try.prog 90 [.agg t.pv, .list 1 (ints xs), .list 1 (ints ys)] (.bool (decide (AskL t xs ys))) := by
  intro al
  refine contract_of hmix Try.func90 rfl (by kernel_rfl) (by kernel_rfl) (Nat.le_of_ble_eq_true rfl) (fun row h => by cases h) ?_
  have hty_a26 := ty_a26
  have hty_u24 := ty_u24
  have hty_s24 := ty_s24
  repeat' (first | (refine pA (k := ?_)) | (refine g_exec ?_; first | (refine g_call ?_; first | (refine x_callG true (k_l2Set t xs hn aO) rfl rfl rfl aS rfl aH ?_; simp only [cl]) | (refine x_callG true (k_l2Set t ys hn aO) rfl rfl rfl aS rfl aH ?_; simp only [cl]) | (refine x_callG true (k_l9Meet xs ys hx hy) rfl rfl rfl aS rfl aH ?_; simp only [cl])) | (refine g_guard ?_; refine x_gsplit rfl rfl (fun h => ?_) (fun h => ?_) <;> (have h' := h; try simp only [sx] at h')) | (refine x_nil (hK _ _ aI ?_); clear hK K)) | (refine v_region (fun K hK => ?_)))
  all_goals
    refine ret_bool rfl (lookE_ok rfl) ?_
    first
      | (symm; rw [decide_eq_false_iff_not]; intro hA; exact h' ⟨hA.1, hA.2.1, hA.2.2.1⟩)
      | (symm; rw [decide_eq_false_iff_not]; intro hA; exact h' ⟨hA.1, hA.2.2.2.1, hA.2.2.2.2.1⟩)
      | (rw [Bool.eq_iff_iff]; unfold AskL; simp_all; done)
def tchB (t : Terrain) (c : Int) (xs : List Int) : Bool := (nears t c).any fun x => decide (0 < burnAt t x) && decide (x ∈ xs)
theorem k_l9Touch (t : Terrain) (c : Int) (xs : List Int) (hg : GoodT t) (hc : IsCell t c) (hx : xs.length ≤ 1000000) : Con Try.prog 95 [.agg t.pv, .int .i64 c, .list 1 (ints xs)] (.bool (tchB t c xs)) := by
  intro al
  refine contract_of hmix Try.func95 rfl (by kernel_rfl) (by kernel_rfl) (Nat.le_of_ble_eq_true rfl) (fun row h => by cases h) ?_
  have hty_a26 := ty_a26
  have hty_u24 := ty_u24
  have hty_s24 := ty_s24
  have hty_f26_2 := ty_f26_2
  have hty_c24 := ty_c24
  have hty_c3 := ty_c3
  have hl1 : (ints (nears t c)).length = (nears t c).length := by simp
  have hl2 : (ints t.burn).length = t.burn.length := by simp
  have hlen := goodT_len hg
  have hnl := nears_len t c
  repeat' (first | (refine pA (k := ?_)) | (refine g_exec ?_; first | (refine g_call ?_; refine x_callG true (k_l2Near t c hg hc) rfl rfl rfl aS rfl aH ?_; simp only [cl]) | (refine g_guard ?_; refine x_gsplit rfl rfl (fun h => ?_) (fun h => ?_) <;> (have h' := h; try simp only [sx] at h')) | (refine x_nil (hK _ _ aI ?_); clear hK K)) | (refine v_region (fun K hK => ?_)) | (refine v_condt rfl (fun h => ?_) (fun h => ?_) <;> (have h' := h; try simp only [sx] at h')))
  refine v_loopK [2, 3, 7] [] (fun i : Nat => [(8, .int .i64 i)]) (fun i : Nat => []) (fun i : Nat => i ≤ (nears t c).length ∧ ∀ y ∈ (nears t c).take i, (decide (0 < burnAt t y) && decide (y ∈ xs)) = false) (fun i : Nat => (nears t c).length - i) (0) rfl rfl (fun _ => rfl) (fun _ => rfl) rfl (by refine ⟨?_, ?_, rfl, rfl⟩ <;> (repeat' (first | exact trivial | exact ⟨rfl, rfl⟩ | exact rfl | exact ⟨sub_fn, refs_fn⟩ | refine ⟨⟨rfl, rfl⟩, ?_⟩ | refine ⟨⟨sub_fn, refs_fn⟩, ?_⟩ | refine ⟨⟨rfl, fun h => Bool.noConfusion h⟩, ?_⟩ | refine ⟨⟨rfl, fun h => ?_⟩, ?_⟩ | refine ⟨rfl, ?_⟩ | refine ⟨?_, ?_⟩ | fail))) ⟨by omega, fun y hy => by simp at hy⟩ (fun i hi => ?_)
  obtain ⟨hi1, hi2⟩ := hi
  rcases Nat.lt_or_ge i (nears t c).length with hlt | hge
  · obtain ⟨a, hga⟩ := get_ex hlt
    have hg' := ints_at hga
    have hca := (nears_mem.1 (get_mem hga)).1
    have hcc := hca
    unfold IsCell at hcc
    have hb := ints_at (burn_at hca)
    by_cases hin : 0 < burnAt t a ∧ a ∈ xs
    · repeat' (first | (refine pA (k := ?_)) | (refine g_exec ?_; first | (refine g_call ?_; refine x_callG true (k_l1Has xs a aO) rfl rfl rfl aS rfl aH ?_; simp only [cl]) | (refine g_guard ?_; refine x_gsplit rfl rfl (fun h => ?_) (fun h => ?_) <;> (have h' := h; try simp only [sx] at h')) | (refine x_nil (hK _ _ aI ?_); clear hK K)) | (refine v_region (fun K hK => ?_)) | (refine v_condt rfl (fun h => ?_) (fun h => ?_) <;> (have h' := h; try simp only [sx] at h')))
      all_goals first
        | exact absurd hin.1 aA | exact absurd hin.2 aA | exact absurd ⟨by assumption, by assumption⟩ hin
        | exact ret_bool rfl (lookE_ok rfl) (any_yes hga (by rw [Bool.and_eq_true, decide_eq_true_iff, decide_eq_true_iff]; exact hin)).symm
    · repeat' (first | (refine pA (k := ?_)) | (refine g_exec ?_; first | (refine g_call ?_; refine x_callG true (k_l1Has xs a aO) rfl rfl rfl aS rfl aH ?_; simp only [cl]) | (refine g_guard ?_; refine x_gsplit rfl rfl (fun h => ?_) (fun h => ?_) <;> (have h' := h; try simp only [sx] at h')) | (refine x_nil (hK _ _ aI ?_); clear hK K)) | (refine v_region (fun K hK => ?_)) | (refine v_condt rfl (fun h => ?_) (fun h => ?_) <;> (have h' := h; try simp only [sx] at h')))
      all_goals first
        | exact absurd hin.1 aA | exact absurd hin.2 aA | exact absurd ⟨by assumption, by assumption⟩ hin
        | (refine q_next (i + 1) rfl (by refine ⟨?_, ?_, rfl, rfl⟩ <;> (repeat' (first | exact trivial | exact ⟨rfl, rfl⟩ | exact rfl | exact ⟨sub_fn, refs_fn⟩ | refine ⟨⟨rfl, rfl⟩, ?_⟩ | refine ⟨⟨sub_fn, refs_fn⟩, ?_⟩ | refine ⟨⟨rfl, fun h => Bool.noConfusion h⟩, ?_⟩ | refine ⟨⟨rfl, fun h => ?_⟩, ?_⟩ | refine ⟨rfl, ?_⟩ | refine ⟨?_, ?_⟩ | fail))) ⟨by omega, any_step hi2 hga (by rw [← Bool.not_eq_true, Bool.and_eq_true, decide_eq_true_iff, decide_eq_true_iff]; exact hin)⟩ aO)
  · repeat' (first | (refine pA (k := ?_)) | (refine g_exec ?_; first | (refine g_guard ?_; refine x_gsplit rfl rfl (fun h => ?_) (fun h => ?_) <;> (have h' := h; try simp only [sx] at h')) | (refine x_nil (hK _ _ aI ?_); clear hK K)) | (refine v_region (fun K hK => ?_)) | (refine v_condt rfl (fun h => ?_) (fun h => ?_) <;> (have h' := h; try simp only [sx] at h')))
    exact ret_bool rfl (lookE_ok rfl) (any_no hi2 hge).symm
def opnB (t : Terrain) (xs ys : List Int) : Bool := xs.any fun x => decide (0 < burnAt t x) && tchB t x ys
theorem k_l9Open (t : Terrain) (xs ys : List Int) (hg : GoodT t) (hx : CelT t xs) (hxl : xs.length ≤ 1000000) (hyl : ys.length ≤ 1000000) : Con Try.prog 91 [.agg t.pv, .list 1 (ints xs), .list 1 (ints ys)] (.bool (opnB t xs ys)) := by
  intro al
  refine contract_of hmix Try.func91 rfl (by kernel_rfl) (by kernel_rfl) (Nat.le_of_ble_eq_true rfl) (fun row h => by cases h) ?_
  have hty_u24 := ty_u24
  have hty_s24 := ty_s24
  have hty_f26_2 := ty_f26_2
  have hty_c24 := ty_c24
  have hty_c3 := ty_c3
  have hty_a26 := ty_a26
  have hl1 : (ints xs).length = xs.length := by simp
  have hl2 : (ints t.burn).length = t.burn.length := by simp
  have hlen := goodT_len hg
  repeat' (first | (refine pA (k := ?_)) | (refine g_exec ?_; first | (refine g_guard ?_; refine x_gsplit rfl rfl (fun h => ?_) (fun h => ?_) <;> (have h' := h; try simp only [sx] at h')) | (refine x_nil (hK _ _ aI ?_); clear hK K)) | (refine v_region (fun K hK => ?_)) | (refine v_condt rfl (fun h => ?_) (fun h => ?_) <;> (have h' := h; try simp only [sx] at h')))
  refine v_loopK [1, 2, 3] [] (fun i : Nat => [(7, .int .i64 i)]) (fun i : Nat => []) (fun i : Nat => i ≤ xs.length ∧ ∀ y ∈ xs.take i, (decide (0 < burnAt t y) && tchB t y ys) = false) (fun i : Nat => xs.length - i) (0) rfl rfl (fun _ => rfl) (fun _ => rfl) rfl (by refine ⟨?_, ?_, rfl, rfl⟩ <;> (repeat' (first | exact trivial | exact ⟨rfl, rfl⟩ | exact rfl | exact ⟨sub_fn, refs_fn⟩ | refine ⟨⟨rfl, rfl⟩, ?_⟩ | refine ⟨⟨sub_fn, refs_fn⟩, ?_⟩ | refine ⟨⟨rfl, fun h => Bool.noConfusion h⟩, ?_⟩ | refine ⟨⟨rfl, fun h => ?_⟩, ?_⟩ | refine ⟨rfl, ?_⟩ | refine ⟨?_, ?_⟩ | fail))) ⟨by omega, fun y hy => by simp at hy⟩ (fun i hi => ?_)
  obtain ⟨hi1, hi2⟩ := hi
  rcases Nat.lt_or_ge i xs.length with hlt | hge
  · obtain ⟨a, hga⟩ := get_ex hlt
    have hg' := ints_at hga
    have hca := hx.at hga
    have hcc := hca
    unfold IsCell at hcc
    have hb := ints_at (burn_at hca)
    by_cases hin : 0 < burnAt t a ∧ tchB t a ys = true
    · repeat' (first | (refine pA (k := ?_)) | (refine g_exec ?_; first | (refine g_call ?_; refine x_callG true (k_l9Touch t a ys hg hca hyl) rfl rfl rfl aS rfl aH ?_; simp only [cl]) | (refine g_guard ?_; refine x_gsplit rfl rfl (fun h => ?_) (fun h => ?_) <;> (have h' := h; try simp only [sx] at h')) | (refine x_nil (hK _ _ aI ?_); clear hK K)) | (refine v_region (fun K hK => ?_)) | (refine v_condt rfl (fun h => ?_) (fun h => ?_) <;> (have h' := h; try simp only [sx] at h')))
      all_goals first
        | exact absurd hin.1 aA | exact absurd hin.2 aA | exact absurd ⟨by assumption, by assumption⟩ hin | (exact absurd (hin.2.symm.trans (show tchB t a ys = false by assumption)) (by decide))
        | exact ret_bool rfl (lookE_ok rfl) (any_yes hga (by rw [Bool.and_eq_true, decide_eq_true_iff]; exact hin)).symm
    · repeat' (first | (refine pA (k := ?_)) | (refine g_exec ?_; first | (refine g_call ?_; refine x_callG true (k_l9Touch t a ys hg hca hyl) rfl rfl rfl aS rfl aH ?_; simp only [cl]) | (refine g_guard ?_; refine x_gsplit rfl rfl (fun h => ?_) (fun h => ?_) <;> (have h' := h; try simp only [sx] at h')) | (refine x_nil (hK _ _ aI ?_); clear hK K)) | (refine v_region (fun K hK => ?_)) | (refine v_condt rfl (fun h => ?_) (fun h => ?_) <;> (have h' := h; try simp only [sx] at h')))
      all_goals first
        | exact absurd hin.1 aA | exact absurd hin.2 aA | exact absurd ⟨by assumption, by assumption⟩ hin | (exact absurd (hin.2.symm.trans (show tchB t a ys = false by assumption)) (by decide))
        | (refine q_next (i + 1) rfl (by refine ⟨?_, ?_, rfl, rfl⟩ <;> (repeat' (first | exact trivial | exact ⟨rfl, rfl⟩ | exact rfl | exact ⟨sub_fn, refs_fn⟩ | refine ⟨⟨rfl, rfl⟩, ?_⟩ | refine ⟨⟨sub_fn, refs_fn⟩, ?_⟩ | refine ⟨⟨rfl, fun h => Bool.noConfusion h⟩, ?_⟩ | refine ⟨⟨rfl, fun h => ?_⟩, ?_⟩ | refine ⟨rfl, ?_⟩ | refine ⟨?_, ?_⟩ | fail))) ⟨by omega, any_step hi2 hga (by rw [← Bool.not_eq_true, Bool.and_eq_true, decide_eq_true_iff]; exact hin)⟩ aO)
  · repeat' (first | (refine pA (k := ?_)) | (refine g_exec ?_; first | (refine g_guard ?_; refine x_gsplit rfl rfl (fun h => ?_) (fun h => ?_) <;> (have h' := h; try simp only [sx] at h')) | (refine x_nil (hK _ _ aI ?_); clear hK K)) | (refine v_region (fun K hK => ?_)) | (refine v_condt rfl (fun h => ?_) (fun h => ?_) <;> (have h' := h; try simp only [sx] at h')))
    exact ret_bool rfl (lookE_ok rfl) (any_no hi2 hge).symm
def freB (t : Terrain) (xs ys : List Int) (c : Int) : Bool := decide (0 < burnAt t c ∧ c ∉ xs ∧ c ∉ ys)
theorem k_l9Free (t : Terrain) (xs ys : List Int) (c : Int) (hg : GoodT t) (hc : IsCell t c) (hxl : xs.length ≤ 1000000) (hyl : ys.length ≤ 1000000) : Con Try.prog 99 [.agg t.pv, .list 1 (ints xs), .list 1 (ints ys), .int .i64 c] (.bool (freB t xs ys c)) := by
  intro al
  refine contract_of hmix Try.func99 rfl (by kernel_rfl) (by kernel_rfl) (Nat.le_of_ble_eq_true rfl) (fun row h => by cases h) ?_
  have hty_f26_2 := ty_f26_2
  have hty_c24 := ty_c24
  have hty_s24 := ty_s24
  have hty_c3 := ty_c3
  have hty_u24 := ty_u24
  have hl2 : (ints t.burn).length = t.burn.length := by simp
  have hlen := goodT_len hg
  have hcc := hc
  unfold IsCell at hcc
  have hb := ints_at (burn_at hc)
  repeat' (first | (refine pA (k := ?_)) | (refine g_exec ?_; first | (refine g_call ?_; first | (refine x_callG true (k_l1Has xs c aO) rfl rfl rfl aS rfl aH ?_; simp only [cl]) | (refine x_callG true (k_l1Has ys c aO) rfl rfl rfl aS rfl aH ?_; simp only [cl])) | (refine g_guard ?_; refine x_gsplit rfl rfl (fun h => ?_) (fun h => ?_) <;> (have h' := h; try simp only [sx] at h')) | (refine x_nil (hK _ _ aI ?_); clear hK K)) | (refine v_region (fun K hK => ?_)))
  all_goals
    refine ret_bool rfl (lookE_ok rfl) ?_
    unfold freB
    symm
    first
      | (rw [decide_eq_false_iff_not]; intro hA; first | exact absurd hA.1 aA | exact absurd aA hA.2.1 | exact absurd aA hA.2.2 | fail)
      | (simp_all; done)
      | (simp only [Bool.not_eq_true', decide_eq_false_iff_not, Bool.not_eq_false', decide_eq_true_iff] at *; first | exact decide_eq_true ⟨by assumption, by assumption, by assumption⟩ | (rw [decide_eq_false_iff_not]; intro hA; first | exact absurd hA.1 aA | exact absurd aA hA.2.1 | exact absurd aA hA.2.2))
theorem k_l1OwnF (l : List Int) (hn : l.length ≤ 1000000) : Con Try.prog 100 [.list 1 (ints l)] (.olist 3 1 (ints l)) := by
  intro al
  refine contract_of hmix Try.func100 rfl (by kernel_rfl) (by kernel_rfl) (Nat.le_of_ble_eq_true rfl) (fun row h => by cases h) ?_
  have hty_s24 := ty_s24
  have hty_u24 := ty_u24
  have hl1 : (ints l).length = l.length := by simp
  repeat' (first | (refine pA (k := ?_)) | (refine g_exec ?_; refine x_nil (hK _ _ aI ?_); clear hK K) | (refine v_region (fun K hK => ?_)))
  exact ret_list rfl (lookE_ok (by rfl)) (by rfl) (by decide) (by simp) (ints_flat _) rfl
def clrB (b : List Int) : List Int → List Int
  | [] => b
  | c :: r => clrB (b.set c.toNat 0) r
def clrT (t : Terrain) (xs : List Int) : Terrain := ⟨t.width, t.height, clrB t.burn xs⟩
theorem clrB_len : ∀ (xs b : List Int), (clrB b xs).length = b.length
  | [], _ => rfl
  | c :: r, b => by rw [clrB, clrB_len, List.length_set]
theorem clrB_snoc : ∀ (xs b : List Int) (c : Int), clrB b (xs ++ [c]) = (clrB b xs).set c.toNat 0
  | [], _, _ => rfl
  | x :: r, b, c => by rw [List.cons_append, clrB, clrB, clrB_snoc r]
theorem clrB_mem : ∀ (xs b : List Int) (y : Int), y ∈ clrB b xs → y ∈ b ∨ y = 0
  | [], _, _, h => .inl h
  | c :: r, b, y, h => by
    rcases clrB_mem r _ y h with h1 | h1
    · rcases List.mem_or_eq_of_mem_set h1 with h2 | h2
      · exact .inl h2
      · exact .inr h2
    · exact .inr h1
theorem clrT_good {t : Terrain} (hg : GoodT t) (xs : List Int) : GoodT (clrT t xs) :=
  ⟨hg.1, by show ((clrB t.burn xs).length : Int) = _; rw [clrB_len]; exact hg.2.1, fun b hb => by rcases clrB_mem xs t.burn b hb with h | h; exact hg.2.2 b h; omega⟩
theorem clrT_cell {t : Terrain} {xs : List Int} {c : Int} (h : IsCell t c) : IsCell (clrT t xs) c := ⟨h.1, by show c < ((clrB t.burn xs).length : Int); rw [clrB_len]; exact h.2⟩
theorem ints_setF (l : List Int) (k : Nat) (x : Int) : (ints l).set k [.int .i64 x] = ints (l.set k x) := by simp [ints, List.map_set]
end Go.Vs
set_option linter.unusedVariables false
set_option linter.unusedSimpArgs false
set_option linter.unusedSectionVars false
set_option maxRecDepth 100000
set_option maxHeartbeats 4000000
namespace Go.Vs
open Go.Proofs
attribute [local irreducible] exec vwp thenQ blkQ loopQ RetPost
def Zr (N : Nat) (r : List Int) : Prop := r.length = N ∧ ∀ x ∈ r, 0 ≤ x ∧ x ≤ 1
theorem Zr.set {N k : Nat} {r : List Int} (h : Zr N r) : Zr N (r.set k 1) := ⟨by rw [List.length_set]; exact h.1, fun x hx => by rcases List.mem_or_eq_of_mem_set hx with g | g; exact h.2 x g; omega⟩
def Zo (N : Nat) (M : Mtx) : Prop := M.length = N ∧ ∀ r ∈ M, Zr N r
theorem Zo.row {N a : Nat} {M : Mtx} (h : Zo N M) (ha : a < N) : Zr N (rw_ M a) ∧ M[a]? = some (rw_ M a) := by
  obtain ⟨r, hr⟩ := get_ex (show a < M.length by rw [h.1]; exact ha)
  have : rw_ M a = r := getDk hr
  rw [this]
  exact ⟨h.2 r (get_mem hr), hr⟩
theorem Zo.set {N a : Nat} {M : Mtx} {r : List Int} (h : Zo N M) (hr : Zr N r) : Zo N (M.set a r) := ⟨by rw [List.length_set]; exact h.1, fun x hx => by rcases List.mem_or_eq_of_mem_set hx with g | g; exact h.2 x g; rw [g]; exact hr⟩
theorem Zo.src {N : Nat} {M : Mtx} (h : Zo N M) (hN : 2 ≤ N) : SrcM N M := ⟨⟨h.1, fun r hr => (h.2 r hr).1⟩, (h.row (show N - 2 < N by omega)).1.2⟩
theorem zo_zero (N : Nat) : Zo N (List.replicate N (List.replicate N 0)) := ⟨by simp, fun r hr => by
  rw [List.eq_of_mem_replicate hr]
  exact ⟨by simp, fun x hx => by rw [List.eq_of_mem_replicate hx]; omega⟩⟩
section
variable (t : Terrain) (xs ys : List Int)
def capN (l : List Int) (r : List Int) : List Int := l.foldl (fun r c => if freB t xs ys c = true then r.set (2 * c).toNat 1 else r) r
def capA1 (M : Mtx) (i : Nat) : List Int := (rw_ M (2 * i)).set (2 * i + 1) 1
def capC1 (M : Mtx) (i : Nat) : List Int := if tchB t i xs = true then (rw_ M (2 * t.burn.length)).set (2 * i) 1 else rw_ M (2 * t.burn.length)
def capB0 (M : Mtx) (i : Nat) : List Int := if tchB t i ys = true then (rw_ M (2 * i + 1)).set (2 * t.burn.length + 1) 1 else rw_ M (2 * i + 1)
def capX (M : Mtx) (i : Nat) : Mtx := if freB t xs ys i = true then ((M.set (2 * t.burn.length) (capC1 t xs M i)).set (2 * i + 1) (capN t xs ys (nears t i) (capB0 t ys M i))).set (2 * i) (capA1 M i) else M
def capM (N : Nat) : Nat → Mtx
  | 0 => List.replicate N (List.replicate N 0)
  | k + 1 => capX t xs ys (capM N k) k
end
section
variable {t : Terrain} {xs ys : List Int} {N : Nat} {M : Mtx}
theorem capN_snoc (l : List Int) (c : Int) (r : List Int) : capN t xs ys (l ++ [c]) r = if freB t xs ys c = true then (capN t xs ys l r).set (2 * c).toNat 1 else capN t xs ys l r := by simp [capN]
theorem capN_zr {r : List Int} (h : Zr N r) : ∀ l, Zr N (capN t xs ys l r) := by
  intro l
  unfold capN
  induction l generalizing r with
  | nil => exact h
  | cons c l ih =>
    simp only [List.foldl_cons]
    split
    · exact ih h.set
    · exact ih h
theorem capX_zo (h : Zo N M) (hN : N = 2 * t.burn.length + 2) {i : Nat} (hi : i < t.burn.length) : Zo N (capX t xs ys M i) := by
  unfold capX
  split
  · refine ((h.set ?_).set (capN_zr ?_ _)).set (h.row aO).1.set
    · unfold capC1; split
      · exact (h.row aO).1.set
      · exact (h.row aO).1
    · unfold capB0; split
      · exact (h.row aO).1.set
      · exact (h.row aO).1
  · exact h
theorem capM_zo (hN : N = 2 * t.burn.length + 2) : ∀ i, i ≤ t.burn.length → Zo N (capM t xs ys N i)
  | 0, _ => zo_zero N
  | i + 1, hi => capX_zo (capM_zo hN i aO) hN aO
end
abbrev OldL [fl : Inhabited FlrT] (l : List Int) : PV := .sem (Old flN (.list 1 (ints l)))
theorem calm_old [fl : Inhabited FlrT] {W : Nat → Prop} (h : ∀ b, W b → flN ≤ b) (l : List Int) : Calm W (OldL l) := .inr ⟨_, _, rfl, h⟩
theorem calm_ints {W : Nat → Prop} (r : List Int) : ∀ e ∈ ints r, ∀ u ∈ e, Calm W u := fun e he u hu => .inl (ints_flat r e he u hu)
theorem calm_box [fl : Inhabited FlrT] {W : Nat → Prop} (h : ∀ b, W b → flN ≤ b) (t : Terrain) : ∀ e ∈ [[PV.int .i64 t.width, .int .i64 t.height, OldL t.burn]], ∀ u ∈ e, Calm W u := by
  intro e he u hu
  simp only [List.mem_cons, List.not_mem_nil, or_false] at he
  subst he
  simp only [List.mem_cons, List.not_mem_nil, or_false] at hu
  rcases hu with rfl | rfl | rfl
  · exact .inl rfl
  · exact .inl rfl
  · exact calm_old h _
theorem idne {a b : Id} (h : (Nat.beq a.1 b.1 && Nat.beq a.2 b.2) = false) : a ≠ b := fun e => by subst e; simp at h
theorem st_own {W : Nat → Prop} {mem mem' : List (Id × Option Row)} {ida id0 : Id} {r : Row} {i o : Nat} (h : getM mem id0 = some (some r)) (h' : getM mem' id0 = some (some r)) (hne : id0 ≠ ida) : Stays W mem' ida mem (.own id0 i o) := .inr ⟨_, _, _, r, r, .inr ⟨rfl, rfl⟩, hne, h, h', rfl, rfl, rfl⟩
theorem st_osl {W : Nat → Prop} {mem mem' : List (Id × Option Row)} {ida id0 : Id} {r r' : Row} {o n : Nat} (h : getM mem id0 = some (some r)) (h' : getM mem' id0 = some (some r')) (hne : id0 ≠ ida) (h1 : r'.ty = r.ty) (h2 : r'.sz = r.sz) (h3 : r'.es.length = r.es.length) : Stays W mem' ida mem (.osl id0 o n) := .inr ⟨_, _, _, r, r', .inl rfl, hne, h, h', h1, h2, h3⟩
section
variable [fl : Inhabited FlrT]
@[reducible] def boxC (t : Terrain) : Row := ⟨26, 3, [[.int .i64 t.width, .int .i64 t.height, OldL t.burn]], true⟩
@[reducible] def EC (t : Terrain) (xs ys : List Int) (N k : Nat) : List (Nat × PV) := [(1, OldL xs), (2, OldL ys), (3, .own (3, 0) 0 0), (7, .int .i64 ((ints t.burn).length : Nat)), (8, .osl (1001, 0) 0 N), (10, .int .i64 (k : Nat))]
theorem env_EC {W : Nat → Prop} {env : List (Nat × PV)} {mem mem' : List (Id × Option Row)} {ida : Id} {t : Terrain} {xs ys : List Int} {N k : Nat} {r r' : Row} (hW : ∀ b, W b → flN ≤ b) (hE : ∀ p ∈ EC t xs ys N k, getE env p.1 = p.2)
    (hb : getM mem (3, 0) = some (some (boxC t))) (hb' : getM mem' (3, 0) = some (some (boxC t))) (hne : ida ≠ (3, 0)) (hne1 : ida ≠ (1001, 0)) (hm : getM mem (1001, 0) = some (some r)) (hm' : getM mem' (1001, 0) = some (some r')) (h1 : r'.ty = r.ty) (h2 : r'.sz = r.sz) (h3 : r'.es.length = r.es.length) :
    allL (fun p : Nat × PV => getE env p.1 = p.2 ∧ Stays W mem' ida mem p.2) (EC t xs ys N k) :=
  ⟨⟨hE _ (by simp), .inl (calm_old hW _)⟩, ⟨hE _ (by simp), .inl (calm_old hW _)⟩, ⟨hE (3, _) (by simp), st_own hb hb' hne.symm⟩, ⟨hE (7, _) (by simp), .inl (.inl rfl)⟩, ⟨hE (8, _) (by simp), st_osl hm hm' hne1.symm h1 h2 h3⟩, ⟨hE (10, _) (by simp), .inl (.inl rfl)⟩, trivial⟩
theorem foc3 {env : List (Nat × PV)} {mem : List (Id × Option Row)} {t : Terrain} {xs ys : List Int} {N k a b c : Nat} {qs : List Plc} {M : Mtx} (hE : ∀ p ∈ EC t xs ys N k, getE env p.1 = p.2) (hb : getM mem (3, 0) = some (some (boxC t)))
    (hm : getM mem (1001, 0) = some (some ⟨24, 1, rowM 3 qs M, false⟩)) (f2 : getM mem (1002, 0) = none) (f3 : getM mem (1003, 0) = none) (f4 : getM mem (1004, 0) = none)
    (hD : Dim N M) (hl : qs.length = N) (hA : Apt qs) (hw : ∀ x ∈ qs, ∀ b, inQ x b → flN ≤ b ∧ flW b) (ha : a < N) (hbN : b < N) (hc : c < N) (hab : a ≠ b) (hac : a ≠ c) (hbc : b ≠ c) :
    EntN ⟨env, mem⟩ (· = ⟨EC t xs ys N k, ((1004, 0), some ⟨3, 1, ints (rw_ M c), false⟩) :: ((1001, 0), some ⟨24, 1, mixO 3 (((qs.set a none).set b none).set c none) M [(c, (1004, 0), N), (b, (1003, 0), N), (a, (1002, 0), N)], true⟩) ::
      [((1003, 0), some ⟨3, 1, ints (rw_ M b), false⟩), ((1002, 0), some ⟨3, 1, ints (rw_ M a), false⟩), ((3, 0), some (boxC t))]⟩) := by
  obtain ⟨qa, hqa⟩ := get_ex (show a < qs.length by omega)
  obtain ⟨qb, hqb⟩ := get_ex (show b < qs.length by omega)
  obtain ⟨qc, hqc⟩ := get_ex (show c < qs.length by omega)
  have hwa := hw qa (get_mem hqa)
  have hwb := hw qb (get_mem hqb)
  have hwc := hw qc (get_mem hqc)
  have hlM := hD.1
  have fla : ∀ b, inQ qa b → flN ≤ b := fun b h => (hwa b h).1
  have flb : ∀ b, inQ qb b → flN ≤ b := fun b h => (hwb b h).1
  have flc : ∀ b, inQ qc b → flN ≤ b := fun b h => (hwc b h).1
  refine (ent_foc (id := (1001, 0)) (ida := (1002, 0)) (fs := []) (a := a) (n := N) (q := qa) (r := rw_ M a) (EC t xs ys N k) [((3, 0), some (boxC t))] hm (.inl rfl) hqa (hD.row ha).1 (hD.row ha).2 (fun f hf => by cases hf) aO hA f2 (by first | decide | exact idne rfl) rfl (fun b h => (hwa b h).2) (fun f hf => by cases hf)
    ⟨⟨hb, idne rfl, fun r h => by cases h; exact calm_box fla t⟩, trivial⟩ (env_EC fla hE hb rfl (by first | decide | exact idne rfl) (by first | decide | exact idne rfl) hm rfl (by rfl) (by rfl) (by simp only [mixO_len (show (qs.set a none).length = M.length by simp; omega)]; rw [rowM_len aO]))).bind (fun s hs => ?_)
  subst hs
  refine (ent_foc (id := (1001, 0)) (ida := (1003, 0)) (fs := [(a, (1002, 0), N)]) (a := b) (n := N) (q := qb) (r := rw_ M b) (EC t xs ys N k) [((1002, 0), some ⟨3, 1, ints (rw_ M a), false⟩), ((3, 0), some (boxC t))] rfl (.inr rfl) (by rw [List.getElem?_set_ne hab]; exact hqb) (hD.row hbN).1 (hD.row hbN).2
    (fun f hf => by simp at hf; subst hf; exact hab) (by simp; omega) (apt_none hA) rfl (by first | decide | exact idne rfl) rfl (fun b h => (hwb b h).2) (fun f hf => by simp at hf; subst hf; exact st_osl rfl rfl (by first | decide | exact idne rfl) rfl rfl rfl)
    ⟨⟨rfl, idne rfl, fun r h => by cases h; exact calm_ints _⟩, ⟨rfl, idne rfl, fun r h => by cases h; exact calm_box flb t⟩, trivial⟩ (env_EC flb (fun p hp => by simp only [List.mem_cons, List.not_mem_nil, or_false] at hp; rcases hp with rfl | rfl | rfl | rfl | rfl | rfl <;> rfl) rfl rfl (by first | decide | exact idne rfl) (by first | decide | exact idne rfl) rfl rfl (by rfl) (by rfl) (by simp only [mixO_len (show (qs.set a none).length = M.length by simp; omega), mixO_len (show ((qs.set a none).set b none).length = M.length by simp; omega)]))).bind (fun s hs => ?_)
  subst hs
  exact ent_foc (id := (1001, 0)) (ida := (1004, 0)) (fs := [(b, (1003, 0), N), (a, (1002, 0), N)]) (a := c) (n := N) (q := qc) (r := rw_ M c) (EC t xs ys N k) [((1003, 0), some ⟨3, 1, ints (rw_ M b), false⟩), ((1002, 0), some ⟨3, 1, ints (rw_ M a), false⟩), ((3, 0), some (boxC t))] rfl (.inr rfl)
    (by rw [List.getElem?_set_ne hbc, List.getElem?_set_ne hac]; exact hqc) (hD.row hc).1 (hD.row hc).2 (fun f hf => by simp at hf; rcases hf with rfl | rfl; exact hbc; exact hac) (by simp; omega) (apt_none (apt_none hA)) rfl (by first | decide | exact idne rfl) rfl (fun b h => (hwc b h).2) (fun f hf => by simp at hf; rcases hf with rfl | rfl <;> exact st_osl rfl rfl (by first | decide | exact idne rfl) rfl rfl rfl)
    ⟨⟨rfl, idne rfl, fun r h => by cases h; exact calm_ints _⟩, ⟨rfl, idne rfl, fun r h => by cases h; exact calm_ints _⟩, ⟨rfl, idne rfl, fun r h => by cases h; exact calm_box flc t⟩, trivial⟩ (env_EC flc (fun p hp => by simp only [List.mem_cons, List.not_mem_nil, or_false] at hp; rcases hp with rfl | rfl | rfl | rfl | rfl | rfl <;> rfl) rfl rfl (by first | decide | exact idne rfl) (by first | decide | exact idne rfl) rfl rfl (by rfl) (by rfl) (by simp only [mixO_len (show ((qs.set a none).set b none).length = M.length by simp; omega), mixO_len (show (((qs.set a none).set b none).set c none).length = M.length by simp; omega)]))
theorem unf3 (hok : ∀ (w0 : World) X, FlOk w0 X → ∀ b, (w0.heap.size ≤ b ∨ ∃ z, some (b, z) ∈ X) → flW b) {env : List (Nat × PV)} {mem : List (Id × Option Row)} {t : Terrain} {xs ys : List Int} {N k a b c : Nat} {qs : List Plc} {M : Mtx} {ra rb rc : List Int} {ea eb ec : List (List PV)} (hE : ∀ p ∈ EC t xs ys N k, getE env p.1 = p.2) (hb : getM mem (3, 0) = some (some (boxC t)))
    (hm : getM mem (1001, 0) = some (some ⟨24, 1, mixO 3 (((qs.set a none).set b none).set c none) M [(c, (1004, 0), N), (b, (1003, 0), N), (a, (1002, 0), N)], true⟩))
    (m2 : getM mem (1002, 0) = some (some ⟨3, 1, ea, false⟩)) (m3 : getM mem (1003, 0) = some (some ⟨3, 1, eb, false⟩)) (m4 : getM mem (1004, 0) = some (some ⟨3, 1, ec, false⟩)) (ea' : ea = ints ra) (eb' : eb = ints rb) (ec' : ec = ints rc) (la : ra.length = N) (lb : rb.length = N) (lc : rc.length = N)
    (hlM : M.length = N) (hl : qs.length = N) (hA : Apt qs) (hw : ∀ x ∈ qs, ∀ b, inQ x b → flN ≤ b ∧ flW b) (ha : a < N) (hbN : b < N) (hc : c < N) (hab : a ≠ b) (hac : a ≠ c) (hbc : b ≠ c) :
    EntN ⟨env, mem⟩ fun st' => ∃ ps, ps.length = N ∧ Apt ps ∧ (∀ x ∈ ps, ∀ b, inQ x b → flN ≤ b ∧ flW b) ∧ st' = ⟨EC t xs ys N k, ((1001, 0), some ⟨24, 1, rowM 3 ps (((M.set c rc).set b rb).set a ra), false⟩) :: [((3, 0), some (boxC t))]⟩ := by
  subst ea'
  subst eb'
  subst ec'
  have noW : ∀ b, (fun _ : Nat => False) b → flN ≤ b := fun b h => h.elim
  have hA3 : Apt (((qs.set a none).set b none).set c none) := apt_none (apt_none (apt_none hA))
  have hl3 : (((qs.set a none).set b none).set c none).length = N := by simp [hl]
  have q3a : (((qs.set a none).set b none).set c none)[a]? = some none := by rw [List.getElem?_set_ne hac.symm, List.getElem?_set_ne hab.symm, List.getElem?_set_self aO]
  have q3b : (((qs.set a none).set b none).set c none)[b]? = some none := by rw [List.getElem?_set_ne hbc.symm, List.getElem?_set_self (by simp; omega)]
  have q3c : (((qs.set a none).set b none).set c none)[c]? = some none := by rw [List.getElem?_set_self (by simp; omega)]
  have hw3 : ∀ x ∈ ((qs.set a none).set b none).set c none, ∀ b, inQ x b → flN ≤ b ∧ flW b := by
    intro x hx b hb
    rcases List.mem_or_eq_of_mem_set hx with h | h
    · rcases List.mem_or_eq_of_mem_set h with h | h
      · rcases List.mem_or_eq_of_mem_set h with h | h
        · exact hw x h b hb
        · subst h; obtain ⟨z, hz⟩ := hb; cases hz
      · subst h; obtain ⟨z, hz⟩ := hb; cases hz
    · subst h; obtain ⟨z, hz⟩ := hb; cases hz
  generalize ((qs.set a none).set b none).set c none = P at *
  refine (ent_unf (id := (1001, 0)) (ida := (1004, 0)) (fs := [(b, (1003, 0), N), (a, (1002, 0), N)]) (r := rc) true (EC t xs ys N k) [((1003, 0), some ⟨3, 1, ints rb, false⟩), ((1002, 0), some ⟨3, 1, ints ra, false⟩), ((3, 0), some (boxC t))] hm (.inr rfl) q3c m4 rfl lc
    (fun f hf => by simp at hf; rcases hf with rfl | rfl; exact hbc; exact hac) aO hA3 (fun f hf => by simp at hf; rcases hf with rfl | rfl; exact q3b; exact q3a) (by first | decide | exact idne rfl) (by first | decide | exact idne rfl) rfl hok (fun q f hf => by simp at hf; rcases hf with rfl | rfl; exact st_osl m3 rfl (by first | decide | exact idne rfl) rfl rfl rfl; exact st_osl m2 rfl (by first | decide | exact idne rfl) rfl rfl rfl)
    ⟨⟨m3, idne rfl, idne rfl, fun r h => by cases h; exact calm_ints _⟩, ⟨m2, idne rfl, idne rfl, fun r h => by cases h; exact calm_ints _⟩, ⟨hb, idne rfl, idne rfl, fun r h => by cases h; exact calm_box noW t⟩, trivial⟩
    (fun q => env_EC noW hE hb rfl (by first | decide | exact idne rfl) (by first | decide | exact idne rfl) hm rfl (by rfl) (by rfl) (by simp only [mixO_len (show P.length = M.length by omega), mixO_len (show (P.set c q).length = (M.set c rc).length by simp; omega), List.length_set]))).bind (fun s hs => ?_)
  obtain ⟨q1, w1, A1, rfl⟩ := hs
  refine (ent_unf (id := (1001, 0)) (ida := (1003, 0)) (fs := [(a, (1002, 0), N)]) (r := rb) true (EC t xs ys N k) [((1002, 0), some ⟨3, 1, ints ra, false⟩), ((3, 0), some (boxC t))] rfl (.inr rfl) (by rw [List.getElem?_set_ne hbc.symm]; exact q3b) rfl rfl lb
    (fun f hf => by simp at hf; subst hf; exact hab) (by simp; omega) A1 (fun f hf => by simp at hf; subst hf; simp only; rw [List.getElem?_set_ne hac.symm]; exact q3a) (by first | decide | exact idne rfl) (by first | decide | exact idne rfl) rfl hok (fun q f hf => by simp at hf; subst hf; exact st_osl rfl rfl (by first | decide | exact idne rfl) rfl rfl rfl)
    ⟨⟨rfl, idne rfl, idne rfl, fun r h => by cases h; exact calm_ints _⟩, ⟨rfl, idne rfl, idne rfl, fun r h => by cases h; exact calm_box noW t⟩, trivial⟩
    (fun q => env_EC noW (fun p hp => by simp only [List.mem_cons, List.not_mem_nil, or_false] at hp; rcases hp with rfl | rfl | rfl | rfl | rfl | rfl <;> rfl) rfl rfl (by first | decide | exact idne rfl) (by first | decide | exact idne rfl) rfl rfl (by rfl) (by rfl) (by simp only [mixO_len (show (P.set c q1).length = (M.set c rc).length by simp; omega), mixO_len (show ((P.set c q1).set b q).length = ((M.set c rc).set b rb).length by simp; omega), List.length_set]))).bind (fun s hs => ?_)
  obtain ⟨q2, w2, A2, rfl⟩ := hs
  refine (ent_unf (id := (1001, 0)) (ida := (1002, 0)) (fs := []) (r := ra) false (EC t xs ys N k) [((3, 0), some (boxC t))] rfl (.inl rfl) (by rw [List.getElem?_set_ne hab.symm, List.getElem?_set_ne hac.symm]; exact q3a) rfl rfl la
    (fun f hf => by cases hf) (by simp; omega) A2 (fun f hf => by cases hf) (by first | decide | exact idne rfl) (by first | decide | exact idne rfl) rfl hok (fun q f hf => by cases hf) ⟨⟨rfl, idne rfl, idne rfl, fun r h => by cases h; exact calm_box noW t⟩, trivial⟩
    (fun q => env_EC noW (fun p hp => by simp only [List.mem_cons, List.not_mem_nil, or_false] at hp; rcases hp with rfl | rfl | rfl | rfl | rfl | rfl <;> rfl) rfl rfl (by first | decide | exact idne rfl) (by first | decide | exact idne rfl) rfl rfl (by rfl) (by rfl) (by simp only [mixO_len (show ((P.set c q1).set b q2).length = ((M.set c rc).set b rb).length by simp; omega), mixO_len (show (((P.set c q1).set b q2).set a q).length = (((M.set c rc).set b rb).set a ra).length by simp; omega), List.length_set]))).imp (fun s hs => ?_)
  obtain ⟨q3, w3, A3, rfl⟩ := hs
  refine ⟨((P.set c q1).set b q2).set a q3, by simp [hl3], A3, fun x hx b hb => ?_, rfl⟩
  rcases List.mem_or_eq_of_mem_set hx with h | h
  · rcases List.mem_or_eq_of_mem_set h with h | h
    · rcases List.mem_or_eq_of_mem_set h with h | h
      · exact hw3 x h b hb
      · subst h; exact w1 b hb
    · subst h; exact w2 b hb
  · subst h; exact w3 b hb
end
theorem allL_of {α : Type} {p : α → Prop} : ∀ {l : List α}, (∀ x ∈ l, p x) → allL p l
  | [], _ => trivial
  | x :: l, h => ⟨h x List.mem_cons_self, allL_of fun y hy => h y (List.mem_cons_of_mem _ hy)⟩
theorem mix_refs {TI : TypeId} {qs : List Plc} {M : Mtx} {fs : List (Nat × Id × Nat)} {ids : List Id} (h : ∀ f ∈ fs, refsD 5 ids (.osl f.2.1 0 f.2.2) = true) : allL (fun e => allL (fun u => refsD 5 ids u = true) e) (mixO TI qs M fs) := by
  refine allL_of fun e he => allL_of fun u hu => ?_
  obtain ⟨j, hj⟩ := List.mem_iff_getElem?.1 he
  rcases mixO_inv hj with ⟨f, hf, _, rfl⟩ | ⟨_, hj⟩
  · simp only [List.mem_cons, List.not_mem_nil, or_false] at hu
    subst hu
    exact h f hf
  · obtain ⟨q, r, _, _, rfl⟩ := rowM_inv hj
    simp only [List.mem_cons, List.not_mem_nil, or_false] at hu
    subst hu
    rfl
theorem new_l9Caps [fl : Inhabited FlrT] (hok : ∀ (w0 : World) X, FlOk w0 X → ∀ b, (w0.heap.size ≤ b ∨ ∃ z, some (b, z) ∈ X) → flW b) (t : Terrain) (xs ys : List Int) (hg : GoodT t) (hx : CelT t xs) (hy : CelT t ys) (hxl : xs.length ≤ 1000000) (hyl : ys.length ≤ 1000000) (N : Nat) (hN : N = 2 * t.burn.length + 2)
    {G : Nat → Prop} {w : World} {X : List (Option (Nat × Nat))} {ρ : Id → Option (Nat × Nat)} {cargs : Array Value}
    (hF : FlOk w X) (hW : WRel G ρ w X (ioMem []) w) (hC : Comps ρ w (Stab G ρ (ioMem []) w) (ioMem []) cargs [.agg [.int .i64 t.width, .int .i64 t.height, OldL t.burn], OldL xs, OldL ys]) :
    Calls Try.prog 96 cargs w fun e w' => ∃ v r fin, e = .returned v ∧ (∃ qs, qs.length = N ∧ Apt qs ∧ (∀ q ∈ qs, ∀ b, inQ q b → flN ≤ b ∧ flW b) ∧ r = .olist 24 1 (rowM 3 qs (capM t xs ys N t.burn.length))) ∧ fin.length = ([] : List Row).length ∧
      (∀ (k : Nat) row f, ([] : List Row)[k]? = some row → fin[k]? = some f → f.length = row.es.length ∧ (row.bx = true → f = row.es)) ∧ ∀ t, t ≠ io → ∃ ρ', RetOk G true w X w' v r [] fin t ρ' := by
  refine contract_at hmix Try.func96 rfl (by kernel_rfl) (Nat.le_of_ble_eq_true rfl) (fun row h => by cases h) ?_ hF hW hC
  have hty_f26_2 := ty_f26_2
  have hty_c24 := ty_c24
  have hty_u24 := ty_u24
  have hty_s24 := ty_s24
  have hty_s104 := ty_s104
  have hty_z3 := ty_z3
  have hty_u104 := ty_u104
  have hty_a26 := ty_a26
  have hty_t3 := ty_t3
  have hty_c3 := ty_c3
  have hl2 : (ints t.burn).length = t.burn.length := by simp
  have hlen := goodT_len hg
  have hrep : List.replicate N [PV.int .i64 0] = ints (List.replicate N 0) := by simp [ints]
  repeat' (first | (refine g_exec ?_; refine g_load ?_; refine x_load_sem _ aA rfl rfl aE rfl (by first | exact semTo_Old | exact semTo_LP) ?_) | (refine pA (k := ?_)) | (refine g_exec ?_; refine x_nil (hK _ _ aI ?_); clear hK K) | (refine v_region (fun K hK => ?_)) | (refine v_condt rfl (fun h => ?_) (fun h => ?_) <;> (have h' := h; try simp only [sx] at h')))
  refine v_loopK [1, 2, 3, 7] [] (fun q : Nat × List Plc × List (List PV) => [(8, .osl (1001, 0) 0 q.1), (9, .int .i64 q.1)]) (fun q : Nat × List Plc × List (List PV) => [((1001, 0), some ⟨24, 1, q.2.2, false⟩)]) (fun q : Nat × List Plc × List (List PV) => q.1 ≤ N ∧ q.2.1.length = q.1 ∧ q.2.2 = rowM 3 q.2.1 (List.replicate q.1 (List.replicate N 0)) ∧ Apt q.2.1 ∧ ∀ x ∈ q.2.1, ∀ b, inQ x b → flN ≤ b ∧ flW b) (fun q : Nat × List Plc × List (List PV) => N - q.1) ((0, [], [])) rfl rfl (fun _ => rfl) (fun _ => rfl) rfl (by refine ⟨?_, ?_, rfl, rfl⟩ <;> (repeat' (first | exact trivial | exact ⟨rfl, rfl⟩ | exact rfl | exact ⟨sub_fn, refs_fn⟩ | refine ⟨⟨rfl, rfl⟩, ?_⟩ | refine ⟨⟨sub_fn, refs_fn⟩, ?_⟩ | refine ⟨⟨rfl, fun h => Bool.noConfusion h⟩, ?_⟩ | refine ⟨⟨rfl, fun h => ?_⟩, ?_⟩ | refine ⟨rfl, ?_⟩ | refine ⟨?_, ?_⟩ | fail))) ⟨by simp, rfl, rfl, apt_nil, fun x hx => by cases hx⟩ (fun q hq => ?_)
  obtain ⟨i, qs, es⟩ := q
  obtain ⟨h1, h2, h3, h4, h5⟩ := hq
  simp only at h1 h2 h3 h4 h5
  have hel : es.length = i := by rw [h3, rowM_len (by simp [h2])]; simp
  dsimp only
  rcases Nat.lt_or_ge i N with hlt | hge
  · repeat' (first | (refine g_exec ?_; first | (refine g_load ?_; refine x_load_sem _ aA rfl rfl aE rfl (by first | exact semTo_Old | exact semTo_LP) ?_) | (refine x_makeQ (n := N) aO aO hrep aA aA rfl rfl rfl aO rfl hok (fun q_ hq_ hw_ => ?_))) | (refine pA (k := ?_)) | (refine g_exec ?_; refine x_nil (hK _ _ aI ?_); clear hK K) | (refine v_region (fun K hK => ?_)) | (refine v_condt rfl (fun h => ?_) (fun h => ?_) <;> (have h' := h; try simp only [sx] at h')))
    all_goals try (exfalso; omega)
    have hap : ∀ q' ∈ qs, ∀ b, inQ q_ b → ¬ inQ q' b := by
      intro q' hq' b hb
      obtain ⟨j, hj⟩ := List.mem_iff_getElem?.1 hq'
      have hjl := get_lt hj
      have he : es[j]? = some [.sem (LP q' 3 (ints (List.replicate N 0)))] := by
        rw [h3]
        exact rowM_at hj (by rw [List.getElem?_replicate]; simp; omega)
      exact hq_.2 (1001, 0) _ rfl _ (get_mem he) q' _ _ List.mem_cons_self b hb
    refine q_next (i + 1, qs ++ [q_], es ++ [[.sem (LP q_ 3 (ints (List.replicate N 0)))]]) rfl (by refine ⟨?_, ?_, rfl, rfl⟩ <;> (repeat' (first | exact trivial | exact ⟨rfl, rfl⟩ | exact rfl | exact ⟨sub_fn, refs_fn⟩ | refine ⟨⟨rfl, rfl⟩, ?_⟩ | refine ⟨⟨sub_fn, refs_fn⟩, ?_⟩ | refine ⟨⟨rfl, fun h => Bool.noConfusion h⟩, ?_⟩ | refine ⟨⟨rfl, fun h => ?_⟩, ?_⟩ | refine ⟨rfl, ?_⟩ | refine ⟨?_, ?_⟩ | fail))) ⟨by simp only; omega, by simp [h2], ?_, apt_snoc h4 hap, fun x hx b hb => ?_⟩ (by simp only; omega)
    · simp only
      rw [h3, rowM_snoc (by simp [h2]), List.replicate_succ']
    · rcases List.mem_append.1 hx with h | h
      · exact h5 x h b hb
      · simp at h
        subst h
        exact ⟨hq_.1 b hb, hw_ b hb⟩
  have hiN : i = N := by omega
  subst hiN
  subst h3
  repeat' (first | (refine g_exec ?_; refine g_load ?_; refine x_load_sem _ aA rfl rfl aE rfl (by first | exact semTo_Old | exact semTo_LP) ?_) | (refine pA (k := ?_)) | (refine g_exec ?_; refine x_nil (hK _ _ aI ?_); clear hK K) | (refine v_region (fun K hK => ?_)) | (refine v_condt rfl (fun h => ?_) (fun h => ?_) <;> (have h' := h; try simp only [sx] at h')))
  all_goals try (exfalso; omega)
  refine v_loopK [1, 2, 3, 7, 8] [(1001, 0)] (fun q : Nat × List Plc => [(10, .int .i64 q.1)]) (fun q : Nat × List Plc => [((1001, 0), some ⟨24, 1, rowM 3 q.2 (capM t xs ys i q.1), false⟩)]) (fun q : Nat × List Plc => q.1 ≤ t.burn.length ∧ q.2.length = i ∧ Apt q.2 ∧ ∀ x ∈ q.2, ∀ b, inQ x b → flN ≤ b ∧ flW b) (fun q : Nat × List Plc => t.burn.length - q.1) ((0, qs)) rfl rfl (fun _ => rfl) (fun _ => rfl) rfl (by refine ⟨?_, ?_, rfl, rfl⟩ <;> (repeat' (first | exact trivial | exact ⟨rfl, rfl⟩ | exact rfl | exact ⟨sub_fn, refs_fn⟩ | refine ⟨⟨rfl, rfl⟩, ?_⟩ | refine ⟨⟨sub_fn, refs_fn⟩, ?_⟩ | refine ⟨⟨rfl, fun h => Bool.noConfusion h⟩, ?_⟩ | refine ⟨⟨rfl, fun h => ?_⟩, ?_⟩ | refine ⟨rfl, ?_⟩ | refine ⟨?_, ?_⟩ | fail))) ⟨by simp, h2, h4, h5⟩ (fun q hq => ?_)
  clear h2 h4 h5 hel h1 hge
  obtain ⟨k, ps⟩ := q
  obtain ⟨g1, g2, g3, g4⟩ := hq
  simp only at g1 g2 g3 g4
  dsimp only
  rcases Nat.lt_or_ge k t.burn.length with hlt | hge
  · have hca : IsCell t (k : Int) := ⟨by omega, by omega⟩
    have kF := k_l9Free t xs ys k hg hca hxl hyl
    cases hf : freB t xs ys k with
    | false =>
      rw [hf] at kF
      have hX : capM t xs ys i (k + 1) = capM t xs ys i k := by show capX t xs ys _ k = _; unfold capX; rw [hf]; rfl
      repeat' (first | (refine g_exec ?_; refine g_load ?_; refine x_load_sem _ aA rfl rfl aE rfl (by first | exact semTo_Old | exact semTo_LP) ?_) | (refine pA (k := ?_)) | (refine g_exec ?_; first | (refine g_call ?_; refine x_callG true (kF) rfl rfl rfl (by (repeat' (first | exact semTo_Old | exact semTo_TreeS | exact trivial | exact rfl | exact allR_ptrs _ | exact .inl rfl | exact sn_all rfl rfl rfl | exact sn_all rfl rfl (by first | omega | (simp; done) | fail) | exact sn_part rfl rfl (by first | (simp; done) | exact (takeAll aA).symm | exact (takeAll (by first | (simp; done) | omega | fail)).symm | (first | (simp only [lx, Nat.reduceAdd]; first | done | rfl) | fail) | fail) | refine sn_own rfl rfl rfl ?_ | exact List.length_map .. | refine ⟨?_, ?_⟩)); first | done | fail) rfl aH ?_; simp only [cl]) | (refine x_nil (hK _ _ aI ?_); clear hK K)) | (refine v_region (fun K hK => ?_)) | (refine v_condt rfl (fun h => ?_) (fun h => ?_) <;> (have h' := h; try simp only [sx] at h')))
      all_goals first
        | (exfalso; omega)
        | (rw [← hX]; refine q_next (k + 1, ps) rfl (by refine ⟨?_, ?_, rfl, rfl⟩ <;> (repeat' (first | exact trivial | exact ⟨rfl, rfl⟩ | exact rfl | exact ⟨sub_fn, refs_fn⟩ | refine ⟨⟨rfl, rfl⟩, ?_⟩ | refine ⟨⟨sub_fn, refs_fn⟩, ?_⟩ | refine ⟨⟨rfl, fun h => Bool.noConfusion h⟩, ?_⟩ | refine ⟨⟨rfl, fun h => ?_⟩, ?_⟩ | refine ⟨rfl, ?_⟩ | refine ⟨?_, ?_⟩ | fail))) ⟨by simp only; omega, g2, g3, g4⟩ (by simp only; omega))
    | true =>
      rw [hf] at kF
      have hZ := capM_zo (xs := xs) (ys := ys) hN k g1
      generalize hM : capM t xs ys i k = M at *
      repeat' (first | (refine g_exec ?_; refine g_load ?_; refine x_load_sem _ aA rfl rfl aE rfl (by first | exact semTo_Old | exact semTo_LP) ?_) | (refine pB (k := ?_)) | (refine v_seqN 11 rfl ?_) | (refine g_exec ?_; first | (refine g_call ?_; refine x_callG true (kF) rfl rfl rfl (by (repeat' (first | exact semTo_Old | exact semTo_TreeS | exact trivial | exact rfl | exact allR_ptrs _ | exact .inl rfl | exact sn_all rfl rfl rfl | exact sn_all rfl rfl (by first | omega | (simp; done) | fail) | exact sn_part rfl rfl (by first | (simp; done) | exact (takeAll aA).symm | exact (takeAll (by first | (simp; done) | omega | fail)).symm | (first | (simp only [lx, Nat.reduceAdd]; first | done | rfl) | fail) | fail) | refine sn_own rfl rfl rfl ?_ | exact List.length_map .. | refine ⟨?_, ?_⟩)); first | done | fail) rfl aH ?_; simp only [cl]) | (refine x_nil (hK _ _ aI ?_); clear hK K)) | (refine v_region (fun K hK => ?_)) | (refine v_condt rfl (fun h => ?_) (fun h => ?_) <;> (have h' := h; try simp only [sx] at h')))
      all_goals try (exfalso; omega)
      have hD : Dim i M := ⟨hZ.1, fun r hr => (hZ.2 r hr).1⟩
      refine v_seqE _ (foc3 (t := t) (xs := xs) (ys := ys) (N := i) (k := k) (a := 2 * k) (b := 2 * k + 1) (c := 2 * t.burn.length) (qs := ps) (M := M) (fun p hp => by simp only [List.mem_cons, List.not_mem_nil, or_false] at hp; rcases hp with rfl | rfl | rfl | rfl | rfl | rfl <;> rfl) rfl rfl rfl rfl rfl hD g2 g3 g4 aO aO aO aO aO aO) rfl (fun s hs => ?_)
      subst hs
      obtain ⟨ya, hya⟩ := get_ex (show 2 * k + 1 < (rw_ M (2 * k)).length by rw [(hD.row (show 2 * k < i by omega)).2]; omega)
      obtain ⟨yc, hyc⟩ := get_ex (show 2 * k < (rw_ M (2 * t.burn.length)).length by rw [(hD.row (show 2 * t.burn.length < i by omega)).2]; omega)
      obtain ⟨yb, hyb⟩ := get_ex (show 2 * t.burn.length + 1 < (rw_ M (2 * k + 1)).length by rw [(hD.row (show 2 * k + 1 < i by omega)).2]; omega)
      have sA := ints_at hya
      have sC := ints_at hyc
      have sB := ints_at hyb
      have iA : (2 * (k : Int)).toNat = 2 * k := by omega
      have iB : (2 * (k : Int) + 1).toNat = 2 * k + 1 := by omega
      have iC : (2 * (((ints t.burn).length : Nat) : Int)).toNat = 2 * t.burn.length := by omega
      have iD : (2 * (((ints t.burn).length : Nat) : Int) + 1).toNat = 2 * t.burn.length + 1 := by omega
      have eA : (ints (rw_ M (2 * k))).set (2 * (k : Int) + 1).toNat [.int .i64 1] = ints (capA1 M k) := by rw [iB, ints_setF]; rfl
      have lA : (capA1 M k).length = i := by unfold capA1; rw [List.length_set, (hD.row (show 2 * k < i by omega)).2]
      have lC : (capC1 t xs M k).length = i := by unfold capC1; split <;> simp [(hD.row (show 2 * t.burn.length < i by omega)).2]
      have lB0 : (capB0 t ys M k).length = i := by unfold capB0; split <;> simp [(hD.row (show 2 * k + 1 < i by omega)).2]
      have lB : ∀ l, (capN t xs ys l (capB0 t ys M k)).length = i := by
        intro l
        rw [← lB0]
        generalize capB0 t ys M k = r
        unfold capN
        induction l generalizing r with
        | nil => rfl
        | cons c l ih => simp only [List.foldl_cons]; rw [ih]; split <;> simp
      rw [← iB] at sA
      rw [← iA] at sC
      rw [← iD] at sB
      have kT1 := k_l9Touch t k xs hg hca hxl
      have kT2 := k_l9Touch t k ys hg hca hyl
      have kNr := k_l2Near t k hg hca
      have hX : capM t xs ys i (k + 1) = ((M.set (2 * t.burn.length) (capC1 t xs M k)).set (2 * k + 1) (capN t xs ys (nears t k) (capB0 t ys M k))).set (2 * k) (capA1 M k) := by
        show capX t xs ys (capM t xs ys i k) k = _
        rw [hM]
        unfold capX
        rw [if_pos hf]
      have oA : ∀ P, P.length = i → (mixO 3 P M [(2 * t.burn.length, (1004, 0), i), (2 * k + 1, (1003, 0), i), (2 * k, (1002, 0), i)])[(2 * (k : Int)).toNat]? = some [.osl (1002, 0) 0 i] := by
        intro P hP
        have hl0 : (rowM 3 P M).length = i := by rw [rowM_len (by rw [hP, hD.1])]; exact hD.1
        simp only [mixO, iA]
        rw [List.getElem?_set_ne aO, List.getElem?_set_ne aO, List.getElem?_set_self aO]
      have oB : ∀ P, P.length = i → (mixO 3 P M [(2 * t.burn.length, (1004, 0), i), (2 * k + 1, (1003, 0), i), (2 * k, (1002, 0), i)])[(2 * (k : Int) + 1).toNat]? = some [.osl (1003, 0) 0 i] := by
        intro P hP
        have hl0 : (rowM 3 P M).length = i := by rw [rowM_len (by rw [hP, hD.1])]; exact hD.1
        simp only [mixO, iB]
        rw [List.getElem?_set_ne aO, List.getElem?_set_self (by simp; omega)]
      have oC : ∀ P, P.length = i → (mixO 3 P M [(2 * t.burn.length, (1004, 0), i), (2 * k + 1, (1003, 0), i), (2 * k, (1002, 0), i)])[(2 * (((ints t.burn).length : Nat) : Int)).toNat]? = some [.osl (1004, 0) 0 i] := by
        intro P hP
        have hl0 : (rowM 3 P M).length = i := by rw [rowM_len (by rw [hP, hD.1])]; exact hD.1
        simp only [mixO, iC]
        rw [List.getElem?_set_self (by simp; omega)]
      have oA := oA (((ps.set (2 * k) none).set (2 * k + 1) none).set (2 * t.burn.length) none) (by simp [g2])
      have oB := oB (((ps.set (2 * k) none).set (2 * k + 1) none).set (2 * t.burn.length) none) (by simp [g2])
      have oC := oC (((ps.set (2 * k) none).set (2 * k + 1) none).set (2 * t.burn.length) none) (by simp [g2])
      have eC : (if tchB t k xs = true then (ints (rw_ M (2 * t.burn.length))).set (2 * (k : Int)).toNat [.int .i64 1] else ints (rw_ M (2 * t.burn.length))) = ints (capC1 t xs M k) := by
        unfold capC1
        split
        · rw [iA, ints_setF]
        · rfl
      have eB : (if tchB t k ys = true then (ints (rw_ M (2 * k + 1))).set (2 * (((ints t.burn).length : Nat) : Int) + 1).toNat [.int .i64 1] else ints (rw_ M (2 * k + 1))) = ints (capB0 t ys M k) := by
        unfold capB0
        split
        · rw [iD, ints_setF]
        · rfl
      have hnl : (ints (nears t k)).length = (nears t k).length := by simp
      have hnl2 := nears_len t k
      repeat' (first | (refine g_exec ?_; refine g_load ?_; refine x_load_sem _ aA rfl rfl aE rfl (by first | exact semTo_Old | exact semTo_LP) ?_) | (refine pB (k := ?_)) | (refine v_seqN 3000012 rfl ?_) | (refine g_exec ?_; refine x_nil (hK _ _ aI ?_); clear hK K) | (refine v_region (fun K hK => ?_)) | (refine v_condt rfl (fun h => ?_) (fun h => ?_) <;> (have h' := h; try simp only [sx] at h')))
      all_goals try (exfalso; omega)
      refine v_cutE (fun _ : Unit => (⟨EC t xs ys i k, [((1004, 0), some ⟨3, 1, ints (capC1 t xs M k), false⟩), ((1003, 0), some ⟨3, 1, ints (rw_ M (2 * k + 1)), false⟩), ((1002, 0), some ⟨3, 1, ints (capA1 M k), false⟩), ((1001, 0), some ⟨24, 1, mixO 3 (((ps.set (2 * k) none).set (2 * k + 1) none).set (2 * t.burn.length) none) M [(2 * t.burn.length, (1004, 0), i), (2 * k + 1, (1003, 0), i), (2 * k, (1002, 0), i)], true⟩), ((3, 0), some (boxC t))]⟩ : St)) (fun _ => True) ?_ (fun _ _ => ?_)
      · clear eB
        generalize h1 : tchB t k xs = b1 at kT1 eC
        cases b1 <;> simp only [Bool.false_eq_true, if_false, if_true] at eC
        all_goals
          repeat' (first | (refine g_exec ?_; refine g_load ?_; refine x_load_sem _ aA rfl rfl aE rfl (by first | exact semTo_Old | exact semTo_LP) ?_) | (refine pA (k := ?_)) | (refine g_exec ?_; first | (refine g_call ?_; refine x_callG true (kT1) rfl rfl rfl (by (repeat' (first | exact semTo_Old | exact semTo_TreeS | exact trivial | exact rfl | exact allR_ptrs _ | exact .inl rfl | exact sn_all rfl rfl rfl | exact sn_all rfl rfl (by first | omega | (simp; done) | fail) | exact sn_part rfl rfl (by first | (simp; done) | exact (takeAll aA).symm | exact (takeAll (by first | (simp; done) | omega | fail)).symm | (first | (simp only [lx, Nat.reduceAdd]; first | done | rfl) | fail) | fail) | refine sn_own rfl rfl rfl ?_ | exact List.length_map .. | refine ⟨?_, ?_⟩)); first | done | fail) rfl aH ?_; simp only [cl]) | (refine x_nil (hK _ _ aI ?_); clear hK K)) | (refine v_region (fun K hK => ?_)) | (refine v_condt rfl (fun h => ?_) (fun h => ?_) <;> (have h' := h; try simp only [sx] at h')))
          all_goals first
            | (exfalso; omega)
            | (refine q_loopE () (Weaker.ent ?_) trivial (by decide)
               refine ⟨?_, ?_⟩ <;> (repeat' (first | exact trivial | exact ⟨rfl, rfl⟩ | refine ⟨⟨rfl, rfl⟩, ?_⟩ | refine ⟨⟨rfl, fun h => Bool.noConfusion h⟩, ?_⟩ | refine ⟨⟨rfl, fun _ => mix_refs (fun f hf => by simp only [List.mem_cons, List.not_mem_nil, or_false] at hf; rcases hf with rfl | rfl | rfl <;> rfl)⟩, ?_⟩ | refine ⟨⟨rfl, fun _ => ⟨⟨rfl, rfl, rfl, trivial⟩, trivial⟩⟩, ?_⟩ | refine ⟨⟨congrArg (fun es => some (some (Row.mk 3 1 es false))) eA, fun h => Bool.noConfusion h⟩, ?_⟩ | refine ⟨⟨congrArg (fun es => some (some (Row.mk 3 1 es false))) eB, fun h => Bool.noConfusion h⟩, ?_⟩ | refine ⟨⟨congrArg (fun es => some (some (Row.mk 3 1 es false))) eC, fun h => Bool.noConfusion h⟩, ?_⟩ | refine ⟨⟨congrArg (fun es => some (some (Row.mk 3 1 es false))) eN, fun h => Bool.noConfusion h⟩, ?_⟩ | fail)))
      clear eC kT1 sC
      refine v_cutE (fun _ : Unit => (⟨EC t xs ys i k, [((1004, 0), some ⟨3, 1, ints (capC1 t xs M k), false⟩), ((1003, 0), some ⟨3, 1, ints (capB0 t ys M k), false⟩), ((1002, 0), some ⟨3, 1, ints (capA1 M k), false⟩), ((1001, 0), some ⟨24, 1, mixO 3 (((ps.set (2 * k) none).set (2 * k + 1) none).set (2 * t.burn.length) none) M [(2 * t.burn.length, (1004, 0), i), (2 * k + 1, (1003, 0), i), (2 * k, (1002, 0), i)], true⟩), ((3, 0), some (boxC t))]⟩ : St)) (fun _ => True) ?_ (fun _ _ => ?_)
      · generalize h2 : tchB t k ys = b2 at kT2 eB
        cases b2 <;> simp only [Bool.false_eq_true, if_false, if_true] at eB
        all_goals
          repeat' (first | (refine g_exec ?_; refine g_load ?_; refine x_load_sem _ aA rfl rfl aE rfl (by first | exact semTo_Old | exact semTo_LP) ?_) | (refine pA (k := ?_)) | (refine g_exec ?_; first | (refine g_call ?_; refine x_callG true (kT2) rfl rfl rfl (by (repeat' (first | exact semTo_Old | exact semTo_TreeS | exact trivial | exact rfl | exact allR_ptrs _ | exact .inl rfl | exact sn_all rfl rfl rfl | exact sn_all rfl rfl (by first | omega | (simp; done) | fail) | exact sn_part rfl rfl (by first | (simp; done) | exact (takeAll aA).symm | exact (takeAll (by first | (simp; done) | omega | fail)).symm | (first | (simp only [lx, Nat.reduceAdd]; first | done | rfl) | fail) | fail) | refine sn_own rfl rfl rfl ?_ | exact List.length_map .. | refine ⟨?_, ?_⟩)); first | done | fail) rfl aH ?_; simp only [cl]) | (refine x_nil (hK _ _ aI ?_); clear hK K)) | (refine v_region (fun K hK => ?_)) | (refine v_condt rfl (fun h => ?_) (fun h => ?_) <;> (have h' := h; try simp only [sx] at h')))
          all_goals first
            | (exfalso; omega)
            | (refine q_loopE () (Weaker.ent ?_) trivial (by decide)
               refine ⟨?_, ?_⟩ <;> (repeat' (first | exact trivial | exact ⟨rfl, rfl⟩ | refine ⟨⟨rfl, rfl⟩, ?_⟩ | refine ⟨⟨rfl, fun h => Bool.noConfusion h⟩, ?_⟩ | refine ⟨⟨rfl, fun _ => mix_refs (fun f hf => by simp only [List.mem_cons, List.not_mem_nil, or_false] at hf; rcases hf with rfl | rfl | rfl <;> rfl)⟩, ?_⟩ | refine ⟨⟨rfl, fun _ => ⟨⟨rfl, rfl, rfl, trivial⟩, trivial⟩⟩, ?_⟩ | refine ⟨⟨congrArg (fun es => some (some (Row.mk 3 1 es false))) eA, fun h => Bool.noConfusion h⟩, ?_⟩ | refine ⟨⟨congrArg (fun es => some (some (Row.mk 3 1 es false))) eB, fun h => Bool.noConfusion h⟩, ?_⟩ | refine ⟨⟨congrArg (fun es => some (some (Row.mk 3 1 es false))) eC, fun h => Bool.noConfusion h⟩, ?_⟩ | refine ⟨⟨congrArg (fun es => some (some (Row.mk 3 1 es false))) eN, fun h => Bool.noConfusion h⟩, ?_⟩ | fail)))
      clear eB kT2 sB eA sA
      repeat' (first | (refine g_exec ?_; refine g_load ?_; refine x_load_sem _ aA rfl rfl aE rfl (by first | exact semTo_Old | exact semTo_LP) ?_) | (refine pA (k := ?_)) | (refine g_exec ?_; first | (refine g_call ?_; refine x_callG true (kNr) rfl rfl rfl (by (repeat' (first | exact semTo_Old | exact semTo_TreeS | exact trivial | exact rfl | exact allR_ptrs _ | exact .inl rfl | exact sn_all rfl rfl rfl | exact sn_all rfl rfl (by first | omega | (simp; done) | fail) | exact sn_part rfl rfl (by first | (simp; done) | exact (takeAll aA).symm | exact (takeAll (by first | (simp; done) | omega | fail)).symm | (first | (simp only [lx, Nat.reduceAdd]; first | done | rfl) | fail) | fail) | refine sn_own rfl rfl rfl ?_ | exact List.length_map .. | refine ⟨?_, ?_⟩)); first | done | fail) rfl aH ?_; simp only [cl]) | (refine x_nil (hK _ _ aI ?_); clear hK K)) | (refine v_region (fun K hK => ?_)) | (refine v_condt rfl (fun h => ?_) (fun h => ?_) <;> (have h' := h; try simp only [sx] at h')))
      all_goals try (exfalso; omega)
      refine v_loopE (fun q : Nat => (⟨[(12, .int .i64 (q : Nat)), (11, .osl (79, 0) 0 (ints (nears t k)).length), (1, OldL xs), (2, OldL ys), (3, .own (3, 0) 0 0), (7, .int .i64 ((ints t.burn).length : Nat)), (8, .osl (1001, 0) 0 i), (10, .int .i64 (k : Nat))],
        [((1003, 0), some ⟨3, 1, ints (capN t xs ys ((nears t k).take q) (capB0 t ys M k)), false⟩), ((79, 0), some ⟨3, 1, ints (nears t k), false⟩), ((1004, 0), some ⟨3, 1, ints (capC1 t xs M k), false⟩), ((1002, 0), some ⟨3, 1, ints (capA1 M k), false⟩),
          ((1001, 0), some ⟨24, 1, mixO 3 (((ps.set (2 * k) none).set (2 * k + 1) none).set (2 * t.burn.length) none) M [(2 * t.burn.length, (1004, 0), i), (2 * k + 1, (1003, 0), i), (2 * k, (1002, 0), i)], true⟩), ((3, 0), some (boxC t))]⟩ : St)) (fun q => q ≤ (nears t k).length) (fun q => (nears t k).length - q) 0 (Weaker.ent ?_) (Nat.zero_le _) (fun q hq => ?_)
      · refine ⟨?_, ?_⟩ <;> (repeat' (first | exact trivial | exact ⟨rfl, rfl⟩ | refine ⟨⟨rfl, rfl⟩, ?_⟩ | refine ⟨⟨rfl, fun h => Bool.noConfusion h⟩, ?_⟩ | refine ⟨⟨rfl, fun _ => mix_refs (fun f hf => by simp only [List.mem_cons, List.not_mem_nil, or_false] at hf; rcases hf with rfl | rfl | rfl <;> rfl)⟩, ?_⟩ | refine ⟨⟨rfl, fun _ => ⟨⟨rfl, rfl, rfl, trivial⟩, trivial⟩⟩, ?_⟩ | refine ⟨⟨congrArg (fun es => some (some (Row.mk 3 1 es false))) eA, fun h => Bool.noConfusion h⟩, ?_⟩ | refine ⟨⟨congrArg (fun es => some (some (Row.mk 3 1 es false))) eB, fun h => Bool.noConfusion h⟩, ?_⟩ | refine ⟨⟨congrArg (fun es => some (some (Row.mk 3 1 es false))) eC, fun h => Bool.noConfusion h⟩, ?_⟩ | refine ⟨⟨congrArg (fun es => some (some (Row.mk 3 1 es false))) eN, fun h => Bool.noConfusion h⟩, ?_⟩ | fail))
      rcases Nat.lt_or_ge q (nears t k).length with hql | hqg
      · obtain ⟨c, hgc⟩ := get_ex hql
        have hxc := ints_at hgc
        have hcc := (nears_mem.1 (get_mem hgc)).1
        have hcc2 := hcc
        unfold IsCell at hcc2
        have kG := k_l9Free t xs ys c hg hcc hxl hyl
        obtain ⟨y, hy⟩ := get_ex (show (2 * c).toNat < (capN t xs ys ((nears t k).take q) (capB0 t ys M k)).length by rw [lB]; omega)
        have sY := ints_at hy
        cases hfc : freB t xs ys c with
        | false =>
          rw [hfc] at kG
          have eN : ints (capN t xs ys ((nears t k).take q) (capB0 t ys M k)) = ints (capN t xs ys ((nears t k).take (q + 1)) (capB0 t ys M k)) := by rw [take_succ hgc, capN_snoc, if_neg (by rw [hfc]; exact Bool.false_ne_true)]
          repeat' (first | (refine g_exec ?_; refine g_load ?_; refine x_load_sem _ aA rfl rfl aE rfl (by first | exact semTo_Old | exact semTo_LP) ?_) | (refine pA (k := ?_)) | (refine g_exec ?_; first | (refine g_call ?_; refine x_callG true (kG) rfl rfl rfl (by (repeat' (first | exact semTo_Old | exact semTo_TreeS | exact trivial | exact rfl | exact allR_ptrs _ | exact .inl rfl | exact sn_all rfl rfl rfl | exact sn_all rfl rfl (by first | omega | (simp; done) | fail) | exact sn_part rfl rfl (by first | (simp; done) | exact (takeAll aA).symm | exact (takeAll (by first | (simp; done) | omega | fail)).symm | (first | (simp only [lx, Nat.reduceAdd]; first | done | rfl) | fail) | fail) | refine sn_own rfl rfl rfl ?_ | exact List.length_map .. | refine ⟨?_, ?_⟩)); first | done | fail) rfl aH ?_; simp only [cl]) | (refine x_nil (hK _ _ aI ?_); clear hK K)) | (refine v_region (fun K hK => ?_)) | (refine v_condt rfl (fun h => ?_) (fun h => ?_) <;> (have h' := h; try simp only [sx] at h')))
          all_goals first
            | (exfalso; omega)
            | (refine q_loopE (q + 1) (Weaker.ent ?_) aO aO
               refine ⟨?_, ?_⟩ <;> (repeat' (first | exact trivial | exact ⟨rfl, rfl⟩ | refine ⟨⟨rfl, rfl⟩, ?_⟩ | refine ⟨⟨rfl, fun h => Bool.noConfusion h⟩, ?_⟩ | refine ⟨⟨rfl, fun _ => mix_refs (fun f hf => by simp only [List.mem_cons, List.not_mem_nil, or_false] at hf; rcases hf with rfl | rfl | rfl <;> rfl)⟩, ?_⟩ | refine ⟨⟨rfl, fun _ => ⟨⟨rfl, rfl, rfl, trivial⟩, trivial⟩⟩, ?_⟩ | refine ⟨⟨congrArg (fun es => some (some (Row.mk 3 1 es false))) eA, fun h => Bool.noConfusion h⟩, ?_⟩ | refine ⟨⟨congrArg (fun es => some (some (Row.mk 3 1 es false))) eB, fun h => Bool.noConfusion h⟩, ?_⟩ | refine ⟨⟨congrArg (fun es => some (some (Row.mk 3 1 es false))) eC, fun h => Bool.noConfusion h⟩, ?_⟩ | refine ⟨⟨congrArg (fun es => some (some (Row.mk 3 1 es false))) eN, fun h => Bool.noConfusion h⟩, ?_⟩ | fail)))
        | true =>
          rw [hfc] at kG
          have eN : (ints (capN t xs ys ((nears t k).take q) (capB0 t ys M k))).set (2 * c).toNat [.int .i64 1] = ints (capN t xs ys ((nears t k).take (q + 1)) (capB0 t ys M k)) := by rw [take_succ hgc, capN_snoc, if_pos hfc, ints_setF]
          repeat' (first | (refine g_exec ?_; refine g_load ?_; refine x_load_sem _ aA rfl rfl aE rfl (by first | exact semTo_Old | exact semTo_LP) ?_) | (refine pA (k := ?_)) | (refine g_exec ?_; first | (refine g_call ?_; refine x_callG true (kG) rfl rfl rfl (by (repeat' (first | exact semTo_Old | exact semTo_TreeS | exact trivial | exact rfl | exact allR_ptrs _ | exact .inl rfl | exact sn_all rfl rfl rfl | exact sn_all rfl rfl (by first | omega | (simp; done) | fail) | exact sn_part rfl rfl (by first | (simp; done) | exact (takeAll aA).symm | exact (takeAll (by first | (simp; done) | omega | fail)).symm | (first | (simp only [lx, Nat.reduceAdd]; first | done | rfl) | fail) | fail) | refine sn_own rfl rfl rfl ?_ | exact List.length_map .. | refine ⟨?_, ?_⟩)); first | done | fail) rfl aH ?_; simp only [cl]) | (refine x_nil (hK _ _ aI ?_); clear hK K)) | (refine v_region (fun K hK => ?_)) | (refine v_condt rfl (fun h => ?_) (fun h => ?_) <;> (have h' := h; try simp only [sx] at h')))
          all_goals first
            | (exfalso; omega)
            | (refine q_loopE (q + 1) (Weaker.ent ?_) aO aO
               refine ⟨?_, ?_⟩ <;> (repeat' (first | exact trivial | exact ⟨rfl, rfl⟩ | refine ⟨⟨rfl, rfl⟩, ?_⟩ | refine ⟨⟨rfl, fun h => Bool.noConfusion h⟩, ?_⟩ | refine ⟨⟨rfl, fun _ => mix_refs (fun f hf => by simp only [List.mem_cons, List.not_mem_nil, or_false] at hf; rcases hf with rfl | rfl | rfl <;> rfl)⟩, ?_⟩ | refine ⟨⟨rfl, fun _ => ⟨⟨rfl, rfl, rfl, trivial⟩, trivial⟩⟩, ?_⟩ | refine ⟨⟨congrArg (fun es => some (some (Row.mk 3 1 es false))) eA, fun h => Bool.noConfusion h⟩, ?_⟩ | refine ⟨⟨congrArg (fun es => some (some (Row.mk 3 1 es false))) eB, fun h => Bool.noConfusion h⟩, ?_⟩ | refine ⟨⟨congrArg (fun es => some (some (Row.mk 3 1 es false))) eC, fun h => Bool.noConfusion h⟩, ?_⟩ | refine ⟨⟨congrArg (fun es => some (some (Row.mk 3 1 es false))) eN, fun h => Bool.noConfusion h⟩, ?_⟩ | fail)))
      · have hqe : q = (nears t k).length := by omega
        subst hqe
        repeat' (first | (refine g_exec ?_; refine g_load ?_; refine x_load_sem _ aA rfl rfl aE rfl (by first | exact semTo_Old | exact semTo_LP) ?_) | (refine pB (k := ?_)) | (refine v_seqN 9 rfl ?_) | (refine g_exec ?_; refine x_nil (hK _ _ aI ?_); clear hK K) | (refine v_regionN 9 rfl (fun K hK => ?_)) | (refine v_condt rfl (fun h => ?_) (fun h => ?_) <;> (have h' := h; try simp only [sx] at h')))
        all_goals try (exfalso; omega)
        refine v_regE _ (unf3 hok (t := t) (xs := xs) (ys := ys) (N := i) (k := k) (a := 2 * k) (b := 2 * k + 1) (c := 2 * t.burn.length) (qs := ps) (M := M) (ra := capA1 M k) (rb := capN t xs ys ((nears t k).take (nears t k).length) (capB0 t ys M k)) (rc := capC1 t xs M k) (fun p hp => by simp only [List.mem_cons, List.not_mem_nil, or_false] at hp; rcases hp with rfl | rfl | rfl | rfl | rfl | rfl <;> rfl) rfl rfl rfl rfl rfl rfl rfl rfl lA (lB _) lC hD.1 g2 g3 g4 aO aO aO aO aO aO) rfl (fun s hs => ?_)
        obtain ⟨ps', p1, p2, p3, rfl⟩ := hs
        rw [List.take_length, ← hX]
        repeat' (first | (refine g_exec ?_; refine g_load ?_; refine x_load_sem _ aA rfl rfl aE rfl (by first | exact semTo_Old | exact semTo_LP) ?_) | (refine pA (k := ?_)) | (refine g_exec ?_; refine x_nil (hK _ _ aI ?_); clear hK K) | (refine v_region (fun K hK => ?_)) | (refine v_condt rfl (fun h => ?_) (fun h => ?_) <;> (have h' := h; try simp only [sx] at h')))
        refine q_next (k + 1, ps') rfl (by refine ⟨?_, ?_, rfl, rfl⟩ <;> (repeat' (first | exact trivial | exact ⟨rfl, rfl⟩ | exact rfl | exact ⟨sub_fn, refs_fn⟩ | refine ⟨⟨rfl, rfl⟩, ?_⟩ | refine ⟨⟨sub_fn, refs_fn⟩, ?_⟩ | refine ⟨⟨rfl, fun h => Bool.noConfusion h⟩, ?_⟩ | refine ⟨⟨rfl, fun h => ?_⟩, ?_⟩ | refine ⟨rfl, ?_⟩ | refine ⟨?_, ?_⟩ | fail))) ⟨by simp only; omega, p1, p2, p3⟩ (by simp only; omega)
  · have hke : k = t.burn.length := by omega
    subst hke
    have hZ := capM_zo (xs := xs) (ys := ys) hN t.burn.length (Nat.le_refl _)
    repeat' (first | (refine g_exec ?_; refine g_load ?_; refine x_load_sem _ aA rfl rfl aE rfl (by first | exact semTo_Old | exact semTo_LP) ?_) | (refine pA (k := ?_)) | (refine g_exec ?_; refine x_nil (hK _ _ aI ?_); clear hK K) | (refine v_region (fun K hK => ?_)) | (refine v_condt rfl (fun h => ?_) (fun h => ?_) <;> (have h' := h; try simp only [sx] at h')))
    exact RetPost.mono (fun r fin h => ⟨ps, g2, g3, g4, h.1⟩) (ret_listA rfl (lookE_ok (by rfl)) (by rfl) (by decide) (by rw [rowM_len (by rw [g2, hZ.1]), hZ.1]) rfl)
end Go.Vs
set_option linter.unusedVariables false
set_option linter.unusedSimpArgs false
set_option linter.unusedSectionVars false
set_option maxRecDepth 100000
set_option maxHeartbeats 4000000
namespace Go.Vs
open Go.Proofs
attribute [local irreducible] exec vwp thenQ blkQ loopQ RetPost
section
variable [fl : Inhabited FlrT]
@[reducible] def EP (n : Nat) (b : Int) : List (Nat × PV) := [(0, .osl (io, 0) 0 n), (3, .int .i64 (n : Nat)), (4, .osl (1001, 0) 0 n), (9, .int .i64 b)]
@[reducible] def rowF (f : List Int) : Row := ⟨3, 1, ints f, false⟩
theorem env_EP {W : Nat → Prop} {env : List (Nat × PV)} {mem mem' : List (Id × Option Row)} {ida : Id} {n : Nat} {b : Int} {f : List Int} {r r' : Row} (hE : ∀ p ∈ EP n b, getE env p.1 = p.2)
    (hb : getM mem (1001, 0) = some (some (rowF f))) (hb' : getM mem' (1001, 0) = some (some (rowF f))) (hne : ida ≠ (1001, 0)) (hne1 : ida ≠ (io, 0)) (hm : getM mem (io, 0) = some (some r)) (hm' : getM mem' (io, 0) = some (some r')) (h1 : r'.ty = r.ty) (h2 : r'.sz = r.sz) (h3 : r'.es.length = r.es.length) :
    allL (fun p : Nat × PV => getE env p.1 = p.2 ∧ Stays W mem' ida mem p.2) (EP n b) :=
  ⟨⟨hE (0, _) (by simp), st_osl hm hm' hne1.symm h1 h2 h3⟩, ⟨hE (3, _) (by simp), .inl (.inl rfl)⟩, ⟨hE (4, _) (by simp), st_osl hb hb' hne.symm rfl rfl rfl⟩, ⟨hE (9, _) (by simp), .inl (.inl rfl)⟩, trivial⟩
theorem foc2 {env : List (Nat × PV)} {mem : List (Id × Option Row)} {n a b : Nat} {x : Int} {f : List Int} {qs : List Plc} {M : Mtx} (hE : ∀ p ∈ EP n x, getE env p.1 = p.2) (hb : getM mem (1001, 0) = some (some (rowF f)))
    (hm : getM mem (io, 0) = some (some ⟨24, 1, rowM 3 qs M, false⟩)) (f2 : getM mem (1003, 0) = none) (f3 : getM mem (1004, 0) = none)
    (hD : Dim n M) (hl : qs.length = n) (hA : Apt qs) (hw : ∀ x ∈ qs, ∀ b, inQ x b → flN ≤ b ∧ flW b) (ha : a < n) (hbN : b < n) (hab : a ≠ b) :
    EntN ⟨env, mem⟩ (· = ⟨EP n x, ((1004, 0), some ⟨3, 1, ints (rw_ M b), false⟩) :: ((io, 0), some ⟨24, 1, mixO 3 ((qs.set a none).set b none) M [(b, (1004, 0), n), (a, (1003, 0), n)], true⟩) ::
      [((1003, 0), some ⟨3, 1, ints (rw_ M a), false⟩), ((1001, 0), some (rowF f))]⟩) := by
  obtain ⟨qa, hqa⟩ := get_ex (show a < qs.length by omega)
  obtain ⟨qb, hqb⟩ := get_ex (show b < qs.length by omega)
  have hwa := hw qa (get_mem hqa)
  have hwb := hw qb (get_mem hqb)
  have hlM := hD.1
  refine (ent_foc (id := (io, 0)) (ida := (1003, 0)) (fs := []) (a := a) (n := n) (q := qa) (r := rw_ M a) (EP n x) [((1001, 0), some (rowF f))] hm (.inl rfl) hqa (hD.row ha).1 (hD.row ha).2 (fun f hf => by cases hf) aO hA f2 (by decide) rfl (fun b h => (hwa b h).2) (fun f hf => by cases hf)
    ⟨⟨hb, idne rfl, fun r h => by cases h; exact calm_ints _⟩, trivial⟩ (env_EP hE hb rfl (idne rfl) (idne rfl) hm rfl (by rfl) (by rfl) (by simp only [mixO_len (show (qs.set a none).length = M.length by simp; omega)]; rw [rowM_len aO]))).bind (fun s hs => ?_)
  subst hs
  exact ent_foc (id := (io, 0)) (ida := (1004, 0)) (fs := [(a, (1003, 0), n)]) (a := b) (n := n) (q := qb) (r := rw_ M b) (EP n x) [((1003, 0), some ⟨3, 1, ints (rw_ M a), false⟩), ((1001, 0), some (rowF f))] rfl (.inr rfl) (by rw [List.getElem?_set_ne hab]; exact hqb) (hD.row hbN).1 (hD.row hbN).2
    (fun f hf => by simp at hf; subst hf; exact hab) (by simp; omega) (apt_none hA) rfl (by decide) rfl (fun b h => (hwb b h).2) (fun f hf => by simp at hf; subst hf; exact st_osl rfl rfl (idne rfl) rfl rfl rfl)
    ⟨⟨rfl, idne rfl, fun r h => by cases h; exact calm_ints _⟩, ⟨rfl, idne rfl, fun r h => by cases h; exact calm_ints _⟩, trivial⟩ (env_EP (fun p hp => by simp only [List.mem_cons, List.not_mem_nil, or_false] at hp; rcases hp with rfl | rfl | rfl | rfl <;> rfl) rfl rfl (idne rfl) (idne rfl) rfl rfl (by rfl) (by rfl) (by simp only [mixO_len (show (qs.set a none).length = M.length by simp; omega), mixO_len (show ((qs.set a none).set b none).length = M.length by simp; omega)]))
theorem unf2 (hok : ∀ (w0 : World) X, FlOk w0 X → ∀ b, (w0.heap.size ≤ b ∨ ∃ z, some (b, z) ∈ X) → flW b) {env : List (Nat × PV)} {mem : List (Id × Option Row)} {n a b : Nat} {x : Int} {f : List Int} {qs : List Plc} {M : Mtx} {ra rb : List Int} {ea eb : List (List PV)} (hE : ∀ p ∈ EP n x, getE env p.1 = p.2) (hb : getM mem (1001, 0) = some (some (rowF f)))
    (hm : getM mem (io, 0) = some (some ⟨24, 1, mixO 3 ((qs.set a none).set b none) M [(b, (1004, 0), n), (a, (1003, 0), n)], true⟩))
    (m2 : getM mem (1003, 0) = some (some ⟨3, 1, ea, false⟩)) (m3 : getM mem (1004, 0) = some (some ⟨3, 1, eb, false⟩)) (ea' : ea = ints ra) (eb' : eb = ints rb) (la : ra.length = n) (lb : rb.length = n)
    (hlM : M.length = n) (hl : qs.length = n) (hA : Apt qs) (hw : ∀ x ∈ qs, ∀ b, inQ x b → flN ≤ b ∧ flW b) (ha : a < n) (hbN : b < n) (hab : a ≠ b) :
    EntN ⟨env, mem⟩ fun st' => ∃ ps, ps.length = n ∧ Apt ps ∧ (∀ x ∈ ps, ∀ b, inQ x b → flN ≤ b ∧ flW b) ∧ st' = ⟨EP n x, ((io, 0), some ⟨24, 1, rowM 3 ps ((M.set b rb).set a ra), false⟩) :: [((1001, 0), some (rowF f))]⟩ := by
  subst ea'
  subst eb'
  have hA3 : Apt ((qs.set a none).set b none) := apt_none (apt_none hA)
  have hl3 : ((qs.set a none).set b none).length = n := by simp [hl]
  have q3a : ((qs.set a none).set b none)[a]? = some none := by rw [List.getElem?_set_ne hab.symm, List.getElem?_set_self aO]
  have q3b : ((qs.set a none).set b none)[b]? = some none := by rw [List.getElem?_set_self (by simp; omega)]
  have hw3 : ∀ x ∈ (qs.set a none).set b none, ∀ b, inQ x b → flN ≤ b ∧ flW b := by
    intro x hx b hb
    rcases List.mem_or_eq_of_mem_set hx with h | h
    · rcases List.mem_or_eq_of_mem_set h with h | h
      · exact hw x h b hb
      · subst h; obtain ⟨z, hz⟩ := hb; cases hz
    · subst h; obtain ⟨z, hz⟩ := hb; cases hz
  generalize (qs.set a none).set b none = P at *
  refine (ent_unf (id := (io, 0)) (ida := (1004, 0)) (fs := [(a, (1003, 0), n)]) (r := rb) true (EP n x) [((1003, 0), some ⟨3, 1, ints ra, false⟩), ((1001, 0), some (rowF f))] hm (.inr rfl) q3b m3 rfl lb
    (fun f hf => by simp at hf; subst hf; exact hab) aO hA3 (fun f hf => by simp at hf; subst hf; exact q3a) (by decide) (idne rfl) rfl hok (fun q f hf => by simp at hf; subst hf; exact st_osl m2 rfl (idne rfl) rfl rfl rfl)
    ⟨⟨m2, idne rfl, idne rfl, fun r h => by cases h; exact calm_ints _⟩, ⟨hb, idne rfl, idne rfl, fun r h => by cases h; exact calm_ints _⟩, trivial⟩
    (fun q => env_EP hE hb rfl (idne rfl) (idne rfl) hm rfl (by rfl) (by rfl) (by simp only [mixO_len (show P.length = M.length by omega), mixO_len (show (P.set b q).length = (M.set b rb).length by simp; omega), List.length_set]))).bind (fun s hs => ?_)
  obtain ⟨q1, w1, A1, rfl⟩ := hs
  refine (ent_unf (id := (io, 0)) (ida := (1003, 0)) (fs := []) (r := ra) false (EP n x) [((1001, 0), some (rowF f))] rfl (.inl rfl) (by rw [List.getElem?_set_ne hab.symm]; exact q3a) rfl rfl la
    (fun f hf => by cases hf) (by simp; omega) A1 (fun f hf => by cases hf) (by decide) (idne rfl) rfl hok (fun q f hf => by cases hf) ⟨⟨rfl, idne rfl, idne rfl, fun r h => by cases h; exact calm_ints _⟩, trivial⟩
    (fun q => env_EP (fun p hp => by simp only [List.mem_cons, List.not_mem_nil, or_false] at hp; rcases hp with rfl | rfl | rfl | rfl <;> rfl) rfl rfl (idne rfl) (idne rfl) rfl rfl (by rfl) (by rfl) (by simp only [mixO_len (show (P.set b q1).length = (M.set b rb).length by simp; omega), mixO_len (show ((P.set b q1).set a q).length = ((M.set b rb).set a ra).length by simp; omega), List.length_set]))).imp (fun s hs => ?_)
  obtain ⟨q3, w3, A3, rfl⟩ := hs
  refine ⟨(P.set b q1).set a q3, by simp [hl3], A3, fun x hx b hb => ?_, rfl⟩
  rcases List.mem_or_eq_of_mem_set hx with h | h
  · rcases List.mem_or_eq_of_mem_set h with h | h
    · exact hw3 x h b hb
    · subst h; exact w1 b hb
  · subst h; exact w3 b hb
end
theorem wr_l9Push [fl : Inhabited FlrT] (hok : ∀ (w0 : World) X, FlOk w0 X → ∀ b, (w0.heap.size ≤ b ∨ ∃ z, some (b, z) ∈ X) → flW b) (n : Nat) (hn : 2 ≤ n) (hn2 : n ≤ 1000) (M : Mtx) (hD : Dim n M) (qs : List Plc) (hl : qs.length = n) (hA : Apt qs) (hw : ∀ x ∈ qs, ∀ b, inQ x b → flN ≤ b ∧ flW b)
    {G : Nat → Prop} {w : World} {X : List (Option (Nat × Nat))} {ρ : Id → Option (Nat × Nat)} {cargs : Array Value}
    (hF : FlOk w X) (hW : WRel G ρ w X (ioMem [⟨24, 1, rowM 3 qs M, false⟩]) w) (hC : Comps ρ w (Stab G ρ (ioMem [⟨24, 1, rowM 3 qs M, false⟩]) w) (ioMem [⟨24, 1, rowM 3 qs M, false⟩]) cargs [.osl (io, 0) 0 n]) :
    Calls Try.prog 97 cargs w fun e w' => ∃ v r fin, e = .returned v ∧ (∃ ps, ps.length = n ∧ Apt ps ∧ (∀ x ∈ ps, ∀ b, inQ x b → flN ≤ b ∧ flW b) ∧ r = .bool (canP M n) ∧ fin = [rowM 3 ps (if canP M n = true then pshM M n else M)]) ∧ fin.length = [(⟨24, 1, rowM 3 qs M, false⟩ : Row)].length ∧
      (∀ (k : Nat) row f, [(⟨24, 1, rowM 3 qs M, false⟩ : Row)][k]? = some row → fin[k]? = some f → f.length = row.es.length ∧ (row.bx = true → f = row.es)) ∧ ∀ t, t ≠ io → ∃ ρ', RetOk G true w X w' v r [⟨24, 1, rowM 3 qs M, false⟩] fin t ρ' := by
  refine contract_at hmix Try.func97 rfl (by kernel_rfl) (Nat.le_of_ble_eq_true rfl) (fun row h => by simp at h; subst h; exact .inl rfl) ?_ hF hW hC
  have hty_u104 := ty_u104
  have hty_s104 := ty_s104
  have hty_s24 := ty_s24
  have hty_u24 := ty_u24
  have hty_t3 := ty_t3
  have hty_c3 := ty_c3
  have hty_c24 := ty_c24
  have hlM : M.length = n := hD.1
  have hrl : (rowM 3 qs M).length = n := by rw [rowM_len aO]; exact hD.1
  repeat' (first | (refine g_exec ?_; refine g_load ?_; refine x_load_sem _ aA rfl rfl aE rfl (by first | exact semTo_Old | exact semTo_LP) ?_) | (refine pA (k := ?_)) | (refine g_exec ?_; first | (refine g_guard ?_; refine x_gsplit rfl rfl (fun h => ?_) (fun h => ?_) <;> (have h' := h; try simp only [sx] at h')) | (refine x_nil (hK _ _ aI ?_); clear hK K)) | (refine v_region (fun K hK => ?_)) | (refine v_condt rfl (fun h => ?_) (fun h => ?_) <;> (have h' := h; try simp only [sx] at h')))
  refine v_loopK [0, 3] [] (fun q : Nat × List (List PV) => [(4, .osl (1001, 0) 0 q.1), (5, .int .i64 q.1)]) (fun q : Nat × List (List PV) => [((1001, 0), some ⟨3, 1, q.2, false⟩)]) (fun q : Nat × List (List PV) => q.1 ≤ n ∧ q.2 = ints (List.replicate q.1 (-1))) (fun q : Nat × List (List PV) => n - q.1) ((0, [])) rfl rfl (fun _ => rfl) (fun _ => rfl) rfl (by refine ⟨?_, ?_, rfl, rfl⟩ <;> (repeat' (first | exact trivial | exact ⟨rfl, rfl⟩ | exact rfl | exact ⟨sub_fn, refs_fn⟩ | refine ⟨⟨rfl, rfl⟩, ?_⟩ | refine ⟨⟨sub_fn, refs_fn⟩, ?_⟩ | refine ⟨⟨rfl, fun h => Bool.noConfusion h⟩, ?_⟩ | refine ⟨⟨rfl, fun h => ?_⟩, ?_⟩ | refine ⟨rfl, ?_⟩ | refine ⟨?_, ?_⟩ | fail))) ⟨by simp, rfl⟩ (fun q hq => ?_)
  obtain ⟨i, es⟩ := q
  obtain ⟨h1, h2⟩ := hq
  simp only at h1 h2
  have hel : es.length = i := by rw [h2, ints_len, List.length_replicate]
  dsimp only
  rcases Nat.lt_or_ge i n with hlt | hge
  · repeat' (first | (refine g_exec ?_; refine g_load ?_; refine x_load_sem _ aA rfl rfl aE rfl (by first | exact semTo_Old | exact semTo_LP) ?_) | (refine pA (k := ?_)) | (refine g_exec ?_; first | (refine g_guard ?_; refine x_gsplit rfl rfl (fun h => ?_) (fun h => ?_) <;> (have h' := h; try simp only [sx] at h')) | (refine x_nil (hK _ _ aI ?_); clear hK K)) | (refine v_region (fun K hK => ?_)) | (refine v_condt rfl (fun h => ?_) (fun h => ?_) <;> (have h' := h; try simp only [sx] at h')))
    all_goals try (exfalso; omega)
    all_goals (refine q_next (i + 1, es ++ [[.int .i64 (-1)]]) rfl (by refine ⟨?_, ?_, rfl, rfl⟩ <;> (repeat' (first | exact trivial | exact ⟨rfl, rfl⟩ | exact rfl | exact ⟨sub_fn, refs_fn⟩ | refine ⟨⟨rfl, rfl⟩, ?_⟩ | refine ⟨⟨sub_fn, refs_fn⟩, ?_⟩ | refine ⟨⟨rfl, fun h => Bool.noConfusion h⟩, ?_⟩ | refine ⟨⟨rfl, fun h => ?_⟩, ?_⟩ | refine ⟨rfl, ?_⟩ | refine ⟨?_, ?_⟩ | fail))) ⟨by simp only; omega, by simp only; rw [h2, List.replicate_succ', ints_snoc]⟩ (by simp only; omega))
  have hin : i = n := by omega
  subst hin
  have e2 : ((i : Int) - 2) = ((i - 2 : Nat) : Int) := by omega
  have e2t : ((i : Int) - 2).toNat = i - 2 := by omega
  have s0 : es[((i : Int) - 2).toNat]? = some [.int .i64 (-1)] := by
    rw [h2, e2t]
    exact ints_at (by rw [List.getElem?_replicate]; simp; omega)
  repeat' (first | (refine g_exec ?_; refine g_load ?_; refine x_load_sem _ aA rfl rfl aE rfl (by first | exact semTo_Old | exact semTo_LP) ?_) | (refine pA (k := ?_)) | (refine g_exec ?_; first | (refine g_guard ?_; refine x_gsplit rfl rfl (fun h => ?_) (fun h => ?_) <;> (have h' := h; try simp only [sx] at h')) | (refine x_nil (hK _ _ aI ?_); clear hK K)) | (refine v_region (fun K hK => ?_)) | (refine v_condt rfl (fun h => ?_) (fun h => ?_) <;> (have h' := h; try simp only [sx] at h')))
  all_goals try (exfalso; omega)
  refine v_loopK [0, 3, 4] [(1001, 0), (1002, 0)] (fun q : Nat × List (List PV) × Nat × List (List PV) × Nat => [(6, .osl (1002, 0) q.2.2.1 q.2.2.2.2)]) (fun q : Nat × List (List PV) × Nat × List (List PV) × Nat => [((1001, 0), some ⟨3, 1, q.2.1, false⟩), ((1002, 0), some ⟨3, 1, q.2.2.2.1, false⟩)]) (fun q : Nat × List (List PV) × Nat × List (List PV) × Nat => q.1 ≤ i ∧ (∀ t', t' < q.1 → (bfs M i t').2 ≠ []) ∧ q.2.1 = ints (bfs M i q.1).1 ∧ q.2.2.2.1.drop q.2.2.1 = ints (bfs M i q.1).2 ∧ q.2.2.2.1.length = q.2.2.1 + q.2.2.2.2) (fun q : Nat × List (List PV) × Nat × List (List PV) × Nat => i + 1 - q.1) ((0, es.set ((i : Int) - 2).toNat [.int .i64 ((i : Int) - 2)], 0, [[.int .i64 ((i : Int) - 2)]], 1)) rfl rfl (fun _ => rfl) (fun _ => rfl) rfl (by refine ⟨?_, ?_, rfl, rfl⟩ <;> (repeat' (first | exact trivial | exact ⟨rfl, rfl⟩ | exact rfl | exact ⟨sub_fn, refs_fn⟩ | refine ⟨⟨rfl, rfl⟩, ?_⟩ | refine ⟨⟨sub_fn, refs_fn⟩, ?_⟩ | refine ⟨⟨rfl, fun h => Bool.noConfusion h⟩, ?_⟩ | refine ⟨⟨rfl, fun h => ?_⟩, ?_⟩ | refine ⟨rfl, ?_⟩ | refine ⟨?_, ?_⟩ | fail))) ⟨by simp, fun t' h => by simp at h, by simp only [bfs, bf0]; rw [h2, e2t, ints_setF, e2], by simp only [bfs, bf0, List.drop_zero]; rw [e2]; rfl, rfl⟩ (fun q hq => ?_)
  clear s0
  obtain ⟨t, fE, o, R, m⟩ := q
  obtain ⟨g1, g2, g3, g4, g5⟩ := hq
  simp only at g1 g2 g3 g4 g5
  obtain ⟨L, H⟩ := bfs_bf M hn t g2
  have hst : bfs M i (t + 1) = bst M i (bfs M i t) := rfl
  have hml : m = (bfs M i t).2.length := by
    have := congrArg List.length g4
    rw [List.length_drop, ints_len] at this
    omega
  have hfl : fE.length = i := by rw [g3, ints_len, H.len]
  dsimp only
  by_cases hne : (bfs M i t).2 = []
  · have hm0 : m = 0 := by rw [hml, hne]; rfl
    subst hm0
    have hF1 := bfs_last hn g2 hne
    have hfF : fE = ints (cameF M i) := by rw [g3, hF1]
    obtain ⟨L', h', H'⟩ := came_bf M hn
    have hlF : (cameF M i).length = i := H'.len
    have e1t : ((i : Int) - 1).toNat = i - 1 := by omega
    obtain ⟨z, hz⟩ := get_ex (show i - 1 < (cameF M i).length by omega)
    have sz := ints_at hz
    rw [← hfF, ← e1t] at sz
    have hcan : canP M i = decide (0 ≤ z) := by unfold canP; rw [getDk hz]
    clear g3
    subst hfF
    by_cases hz0 : z < 0
    · have hcf : canP M i = false := by rw [hcan]; exact decide_eq_false aO
      repeat' (first | (refine g_exec ?_; refine g_load ?_; refine x_load_sem _ aA rfl rfl aE rfl (by first | exact semTo_Old | exact semTo_LP) ?_) | (refine pA (k := ?_)) | (refine g_exec ?_; first | (refine g_guard ?_; refine x_gsplit rfl rfl (fun h => ?_) (fun h => ?_) <;> (have h' := h; try simp only [sx] at h')) | (refine x_nil (hK _ _ aI ?_); clear hK K)) | (refine v_region (fun K hK => ?_)) | (refine v_condt rfl (fun h => ?_) (fun h => ?_) <;> (have h' := h; try simp only [sx] at h')))
      all_goals first
        | (exfalso; omega)
        | exact RetPost.mono (fun r fin h => ⟨qs, hl, hA, hw, by rw [hcf]; exact h.1, by rw [if_neg (by rw [hcf]; exact Bool.false_ne_true)]; exact h.2⟩) (ret_boolL (fin := [rowM 3 qs M]) (by first | exact .inl rfl | exact .inr rfl) rfl (lookE_ok rfl) rfl ⟨⟨rfl, rfl, fun h => by cases h⟩, trivial⟩)
    · have hct : canP M i = true := by rw [hcan]; exact decide_eq_true aO
      have hv := (H'.vis (i - 1) aO).1 (by simpa [canP] using hct)
      obtain ⟨k0, hk0⟩ := List.mem_iff_getElem?.1 hv
      have hk0l := get_lt hk0
      have hcn := H'.cnt
      repeat' (first | (refine g_exec ?_; refine g_load ?_; refine x_load_sem _ aA rfl rfl aE rfl (by first | exact semTo_Old | exact semTo_LP) ?_) | (refine pA (k := ?_)) | (refine g_exec ?_; first | (refine g_guard ?_; refine x_gsplit rfl rfl (fun h => ?_) (fun h => ?_) <;> (have h' := h; try simp only [sx] at h')) | (refine x_nil (hK _ _ aI ?_); clear hK K)) | (refine v_region (fun K hK => ?_)) | (refine v_condt rfl (fun h => ?_) (fun h => ?_) <;> (have h' := h; try simp only [sx] at h')))
      all_goals try (exfalso; omega)
      refine v_loopK [0, 3, 4] [(io, 0)] (fun q : Nat × Nat × Int × List Plc => [(9, .int .i64 q.2.2.1)]) (fun q : Nat × Nat × Int × List Plc => [((io, 0), some ⟨24, 1, rowM 3 q.2.2.2 (wlk (cameF M i) i q.1 (M, i - 1)).1, false⟩)]) (fun q : Nat × Nat × Int × List Plc => q.1 + q.2.1 ≤ i ∧ L'[q.2.1]? = some (wlk (cameF M i) i q.1 (M, i - 1)).2 ∧ q.2.2.1 = ((wlk (cameF M i) i q.1 (M, i - 1)).2 : Nat) ∧ Dim i (wlk (cameF M i) i q.1 (M, i - 1)).1 ∧ q.2.2.2.length = i ∧ Apt q.2.2.2 ∧ ∀ x ∈ q.2.2.2, ∀ b, inQ x b → flN ≤ b ∧ flW b) (fun q : Nat × Nat × Int × List Plc => q.2.1) ((0, k0, (i : Int) - 1, qs)) rfl rfl (fun _ => rfl) (fun _ => rfl) rfl (by refine ⟨?_, ?_, rfl, rfl⟩ <;> (repeat' (first | exact trivial | exact ⟨rfl, rfl⟩ | exact rfl | exact ⟨sub_fn, refs_fn⟩ | refine ⟨⟨rfl, rfl⟩, ?_⟩ | refine ⟨⟨sub_fn, refs_fn⟩, ?_⟩ | refine ⟨⟨rfl, fun h => Bool.noConfusion h⟩, ?_⟩ | refine ⟨⟨rfl, fun h => ?_⟩, ?_⟩ | refine ⟨rfl, ?_⟩ | refine ⟨?_, ?_⟩ | fail))) ⟨by simp only; omega, hk0, by simp only [wlk]; omega, hD, hl, hA, hw⟩ (fun q hq => ?_)
      obtain ⟨tt, k, b', ps⟩ := q
      obtain ⟨w1, w2, w3, w4, w5, w6, w7⟩ := hq
      simp only at w1 w2 w3 w4 w5 w6 w7
      have hnx : wlk (cameF M i) i (tt + 1) (M, i - 1) = wst (cameF M i) i (wlk (cameF M i) i tt (M, i - 1)) := wlk_succ _ _ _ _
      have hfx : (wlk (cameF M i) i tt (M, i - 1)).2 = i - 2 → pshM M i = (wlk (cameF M i) i tt (M, i - 1)).1 := by
        intro h
        unfold pshM
        have e : i = tt + (i - tt) := by omega
        rw [show wlk (cameF M i) i i (M, i - 1) = wlk (cameF M i) i (tt + (i - tt)) (M, i - 1) by rw [← e]]
        rw [wlk_fix (i - tt) h]
      generalize wlk (cameF M i) i tt (M, i - 1) = S at *
      obtain ⟨M', b⟩ := S
      simp only at w2 w3 w4 hfx
      subst w3
      dsimp only
      by_cases hb2 : b = i - 2
      · have hps := hfx hb2
        repeat' (first | (refine g_exec ?_; refine g_load ?_; refine x_load_sem _ aA rfl rfl aE rfl (by first | exact semTo_Old | exact semTo_LP) ?_) | (refine pA (k := ?_)) | (refine g_exec ?_; first | (refine g_guard ?_; refine x_gsplit rfl rfl (fun h => ?_) (fun h => ?_) <;> (have h' := h; try simp only [sx] at h')) | (refine x_nil (hK _ _ aI ?_); clear hK K)) | (refine v_region (fun K hK => ?_)) | (refine v_condt rfl (fun h => ?_) (fun h => ?_) <;> (have h' := h; try simp only [sx] at h')))
        all_goals first
          | (exfalso; omega)
          | exact RetPost.mono (fun r fin h => ⟨ps, w5, w6, w7, by rw [hct]; exact h.1, by rw [if_pos hct, hps]; exact h.2⟩) (ret_boolL (fin := [rowM 3 ps M']) (by first | exact .inl rfl | exact .inr rfl) rfl (lookE_ok rfl) rfl ⟨⟨by show (rowM _ _ _).length = (rowM _ _ _).length; rw [rowM_len (by rw [w5, w4.1]), w4.1, hrl], rfl, fun h => by cases h⟩, trivial⟩)
      · obtain ⟨j, a, c1, c2, c3, c4, c5, c6, c7, c8, c9⟩ := H'.back hn w2 hb2
        simp only at c3 c9
        have sF := ints_at c9
        have hwst : wst (cameF M i) i (M', b) = (psh1 M' a b, a) := by unfold wst; rw [if_neg hb2, c3, Int.toNat_natCast]
        repeat' (first | (refine g_exec ?_; refine g_load ?_; refine x_load_sem _ aA rfl rfl aE rfl (by first | exact semTo_Old | exact semTo_LP) ?_) | (refine pB (k := ?_)) | (refine v_seqN 23 rfl ?_) | (refine g_exec ?_; first | (refine g_guard ?_; refine x_gsplit rfl rfl (fun h => ?_) (fun h => ?_) <;> (have h' := h; try simp only [sx] at h')) | (refine x_nil (hK _ _ aI ?_); clear hK K)) | (refine v_region (fun K hK => ?_)) | (refine v_condt rfl (fun h => ?_) (fun h => ?_) <;> (have h' := h; try simp only [sx] at h')))
        all_goals try (exfalso; omega)
        refine v_seqE _ (foc2 (n := i) (a := a) (b := b) (x := (b : Nat)) (f := cameF M i) (qs := ps) (M := M') (fun p hp => by simp only [List.mem_cons, List.not_mem_nil, or_false] at hp; rcases hp with rfl | rfl | rfl | rfl <;> rfl) rfl rfl rfl rfl w4 w5 w6 w7 c5 c6 c7) rfl (fun s hs => ?_)
        subst hs
        obtain ⟨x, hx⟩ := get_ex (show b < (rw_ M' a).length by rw [(w4.row c5).2]; exact c6)
        obtain ⟨y, hy⟩ := get_ex (show a < (rw_ M' b).length by rw [(w4.row c6).2]; exact c5)
        have sx_ := ints_at hx
        have sy_ := ints_at hy
        have hl0 : (rowM 3 ((ps.set a none).set b none) M').length = i := by rw [rowM_len (by simp [w5, w4.1]), w4.1]
        have oa : (mixO 3 ((ps.set a none).set b none) M' [(b, (1004, 0), i), (a, (1003, 0), i)])[a]? = some [.osl (1003, 0) 0 i] := by
          simp only [mixO]
          rw [List.getElem?_set_ne c7.symm, List.getElem?_set_self aO]
        have ob : (mixO 3 ((ps.set a none).set b none) M' [(b, (1004, 0), i), (a, (1003, 0), i)])[b]? = some [.osl (1004, 0) 0 i] := by
          simp only [mixO]
          rw [List.getElem?_set_self (by simp; omega)]
        repeat' (first | (refine g_exec ?_; refine g_load ?_; refine x_load_sem _ aA rfl rfl aE rfl (by first | exact semTo_Old | exact semTo_LP) ?_) | (refine pB (k := ?_)) | (refine v_seqN 22 rfl ?_) | (refine g_exec ?_; first | (refine g_guard ?_; refine x_gsplit rfl rfl (fun h => ?_) (fun h => ?_) <;> (have h' := h; try simp only [sx] at h')) | (refine x_nil (hK _ _ aI ?_); clear hK K)) | (refine v_regionN 22 rfl (fun K hK => ?_)) | (refine v_condt rfl (fun h => ?_) (fun h => ?_) <;> (have h' := h; try simp only [sx] at h')))
        all_goals try (exfalso; omega)
        refine v_regE _ (unf2 hok (n := i) (a := a) (b := b) (x := (b : Nat)) (f := cameF M i) (qs := ps) (M := M') (ra := (rw_ M' a).set b (IntKind.i64.wrap (x - 1))) (rb := (rw_ M' b).set a (IntKind.i64.wrap (y + 1))) (fun p hp => by simp only [List.mem_cons, List.not_mem_nil, or_false] at hp; rcases hp with rfl | rfl | rfl | rfl <;> rfl) rfl rfl rfl rfl (ints_setF _ _ _) (ints_setF _ _ _) (by rw [List.length_set, (w4.row c5).2]) (by rw [List.length_set, (w4.row c6).2]) w4.1 w5 w6 w7 c5 c6 c7) rfl (fun s hs => ?_)
        obtain ⟨ps', p1, p2, p3, rfl⟩ := hs
        have hps : (M'.set b ((rw_ M' b).set a (IntKind.i64.wrap (y + 1)))).set a ((rw_ M' a).set b (IntKind.i64.wrap (x - 1))) = (wlk (cameF M i) i (tt + 1) (M, i - 1)).1 := by
          rw [hnx, hwst]
          unfold psh1
          rw [getDk hx, getDk hy, List.set_comm _ _ c7]
        rw [hps]
        repeat' (first | (refine g_exec ?_; refine g_load ?_; refine x_load_sem _ aA rfl rfl aE rfl (by first | exact semTo_Old | exact semTo_LP) ?_) | (refine pA (k := ?_)) | (refine g_exec ?_; first | (refine g_guard ?_; refine x_gsplit rfl rfl (fun h => ?_) (fun h => ?_) <;> (have h' := h; try simp only [sx] at h')) | (refine x_nil (hK _ _ aI ?_); clear hK K)) | (refine v_region (fun K hK => ?_)) | (refine v_condt rfl (fun h => ?_) (fun h => ?_) <;> (have h' := h; try simp only [sx] at h')))
        all_goals try (exfalso; omega)
        all_goals (refine q_next (tt + 1, j, (a : Nat), ps') rfl (by refine ⟨?_, ?_, rfl, rfl⟩ <;> (repeat' (first | exact trivial | exact ⟨rfl, rfl⟩ | exact rfl | exact ⟨sub_fn, refs_fn⟩ | refine ⟨⟨rfl, rfl⟩, ?_⟩ | refine ⟨⟨sub_fn, refs_fn⟩, ?_⟩ | refine ⟨⟨rfl, fun h => Bool.noConfusion h⟩, ?_⟩ | refine ⟨⟨rfl, fun h => ?_⟩, ?_⟩ | refine ⟨rfl, ?_⟩ | refine ⟨?_, ?_⟩ | fail))) ⟨by simp only; omega, by simp only; rw [hnx, hwst]; exact c2, by simp only; rw [hnx, hwst], by simp only; rw [hnx, hwst]; exact w4.psh1 c5 c6, p1, p2, p3⟩ (by simp only; omega))
  · generalize hs : bfs M i t = s at *
    obtain ⟨f, nx⟩ := s
    simp only at g3 g4 hml hne
    cases nx with
    | nil => exact absurd rfl hne
    | cons x r =>
      obtain ⟨a, rfl, hLt, H1⟩ := H.pop
      have han : a < i := H.rg a (get_mem hLt)
      have hla := H.hl
      have hca := H.cnt
      have htl := get_lt hLt
      rw [bst_cons] at hst
      simp only [List.length_cons] at hml
      have hR0 : R[o + Int.toNat 0]? = some [.int .i64 (a : Nat)] := by
        have := congrArg (fun l => l[0]?) g4
        simp only [List.getElem?_drop] at this
        rw [show o + Int.toNat 0 = o + 0 from rfl, this]
        rfl
      have hdr : R.drop (o + 1) = ints r := by
        have := congrArg List.tail g4
        rw [List.tail_drop] at this
        rw [this]
        rfl
      repeat' (first | (refine g_exec ?_; refine g_load ?_; refine x_load_sem _ aA rfl rfl aE rfl (by first | exact semTo_Old | exact semTo_LP) ?_) | (refine pA (k := ?_)) | (refine g_exec ?_; first | (refine g_guard ?_; refine x_gsplit rfl rfl (fun h => ?_) (fun h => ?_) <;> (have h' := h; try simp only [sx] at h')) | (refine x_nil (hK _ _ aI ?_); clear hK K)) | (refine v_region (fun K hK => ?_)) | (refine v_condt rfl (fun h => ?_) (fun h => ?_) <;> (have h' := h; try simp only [sx] at h')))
      all_goals try (exfalso; omega)
      refine v_loopK [0, 3, 4, 7] [(1001, 0), (1002, 0)] (fun q : Nat × List (List PV) × Nat × List (List PV) × Nat => [(6, .osl (1002, 0) q.2.2.1 q.2.2.2.2), (8, .int .i64 q.1)]) (fun q : Nat × List (List PV) × Nat × List (List PV) × Nat => [((1001, 0), some ⟨3, 1, q.2.1, false⟩), ((1002, 0), some ⟨3, 1, q.2.2.2.1, false⟩)]) (fun q : Nat × List (List PV) × Nat × List (List PV) × Nat => q.1 ≤ i ∧ q.2.1 = ints (scan (rw_ M a) a (f, r) q.1).1 ∧ q.2.2.2.1.drop q.2.2.1 = ints (scan (rw_ M a) a (f, r) q.1).2 ∧ q.2.2.2.1.length = q.2.2.1 + q.2.2.2.2) (fun q : Nat × List (List PV) × Nat × List (List PV) × Nat => i - q.1) ((0, fE, o + 1, R, m - 1)) rfl rfl (fun _ => rfl) (fun _ => rfl) rfl (by refine ⟨?_, ?_, rfl, rfl⟩ <;> (repeat' (first | exact trivial | exact ⟨rfl, rfl⟩ | exact rfl | exact ⟨sub_fn, refs_fn⟩ | refine ⟨⟨rfl, rfl⟩, ?_⟩ | refine ⟨⟨sub_fn, refs_fn⟩, ?_⟩ | refine ⟨⟨rfl, fun h => Bool.noConfusion h⟩, ?_⟩ | refine ⟨⟨rfl, fun h => ?_⟩, ?_⟩ | refine ⟨rfl, ?_⟩ | refine ⟨?_, ?_⟩ | fail))) ⟨by simp, g3, hdr, by simp only; omega⟩ (fun q hq => ?_)
      obtain ⟨b, fE2, o2, R2, m2⟩ := q
      obtain ⟨d1, d2, d3, d4⟩ := hq
      simp only at d1 d2 d3 d4
      obtain ⟨L2, hL2, H2⟩ := H1.scan hLt b d1
      have hsc : scan (rw_ M a) a (f, r) (b + 1) = stpK (rw_ M a) a (scan (rw_ M a) a (f, r) b) b := rfl
      have hm2 : m2 = (scan (rw_ M a) a (f, r) b).2.length := by
        have := congrArg List.length d3
        rw [List.length_drop, ints_len] at this
        omega
      have hm2n : m2 ≤ i := by
        have h1 := H2.cnt
        have h2 := congrArg List.length H2.nx
        rw [List.length_map, List.length_drop] at h2
        omega
      have hfl2 : fE2.length = i := by rw [d2, ints_len, H2.len]
      dsimp only
      rcases Nat.lt_or_ge b i with hbl | hbg
      · obtain ⟨q, hq⟩ := get_ex (show a < qs.length by omega)
        have hrow := rowM_at (TI := 3) hq (hD.row han).1
        obtain ⟨x, hx⟩ := get_ex (show b < (rw_ M a).length by rw [(hD.row han).2]; exact hbl)
        have sX := ints_at hx
        have gx := getDk (d := (0 : Int)) hx
        have hlr : (ints (rw_ M a)).length = i := by rw [ints_len, (hD.row han).2]
        obtain ⟨y, hy⟩ := get_ex (show b < (scan (rw_ M a) a (f, r) b).1.length by rw [H2.len]; exact hbl)
        have sY := ints_at hy
        have gy := getDk (d := (0 : Int)) hy
        rw [← d2] at sY
        generalize scan (rw_ M a) a (f, r) b = s2 at *
        obtain ⟨f2, nx2⟩ := s2
        simp only at d2 d3 hm2 gy hy
        by_cases hc : 0 < x ∧ y < 0
        · have hst2 : scan (rw_ M a) a (f, r) (b + 1) = (f2.set b (a : Nat), nx2 ++ [((b : Nat) : Int)]) := by
            rw [hsc]
            unfold stpK
            rw [if_pos (by rw [gx]; simp only; rw [gy]; exact hc)]
          repeat' (first | (refine g_exec ?_; refine g_load ?_; refine x_load_sem _ aA rfl rfl aE rfl (by first | exact semTo_Old | exact semTo_LP) ?_) | (refine pA (k := ?_)) | (refine g_exec ?_; first | (refine g_guard ?_; refine x_gsplit rfl rfl (fun h => ?_) (fun h => ?_) <;> (have h' := h; try simp only [sx] at h')) | (refine x_nil (hK _ _ aI ?_); clear hK K)) | (refine v_region (fun K hK => ?_)) | (refine v_condt rfl (fun h => ?_) (fun h => ?_) <;> (have h' := h; try simp only [sx] at h')))
          all_goals first
            | (exfalso; omega)
            | (refine q_next (b + 1, fE2.set b [.int .i64 (a : Nat)], 0, R2.drop o2 ++ [[.int .i64 (b : Nat)]], m2 + 1) rfl (by refine ⟨?_, ?_, rfl, rfl⟩ <;> (repeat' (first | exact trivial | exact ⟨rfl, rfl⟩ | exact rfl | exact ⟨sub_fn, refs_fn⟩ | refine ⟨⟨rfl, rfl⟩, ?_⟩ | refine ⟨⟨sub_fn, refs_fn⟩, ?_⟩ | refine ⟨⟨rfl, fun h => Bool.noConfusion h⟩, ?_⟩ | refine ⟨⟨rfl, fun h => ?_⟩, ?_⟩ | refine ⟨rfl, ?_⟩ | refine ⟨?_, ?_⟩ | fail))) ⟨by simp only; omega, by simp only; rw [hst2, d2, ints_setF], by simp only [List.drop_zero]; rw [hst2, d3, ints_snoc], by simp only [List.length_append, List.length_drop, List.length_cons, List.length_nil]; omega⟩ (by simp only; omega))
        · have hst2 : scan (rw_ M a) a (f, r) (b + 1) = (f2, nx2) := by
            rw [hsc]
            unfold stpK
            rw [if_neg (by rw [gx]; simp only; rw [gy]; exact hc)]
          repeat' (first | (refine g_exec ?_; refine g_load ?_; refine x_load_sem _ aA rfl rfl aE rfl (by first | exact semTo_Old | exact semTo_LP) ?_) | (refine pA (k := ?_)) | (refine g_exec ?_; first | (refine g_guard ?_; refine x_gsplit rfl rfl (fun h => ?_) (fun h => ?_) <;> (have h' := h; try simp only [sx] at h')) | (refine x_nil (hK _ _ aI ?_); clear hK K)) | (refine v_region (fun K hK => ?_)) | (refine v_condt rfl (fun h => ?_) (fun h => ?_) <;> (have h' := h; try simp only [sx] at h')))
          all_goals first
            | (exfalso; omega)
            | (refine q_next (b + 1, fE2, o2, R2, m2) rfl (by refine ⟨?_, ?_, rfl, rfl⟩ <;> (repeat' (first | exact trivial | exact ⟨rfl, rfl⟩ | exact rfl | exact ⟨sub_fn, refs_fn⟩ | refine ⟨⟨rfl, rfl⟩, ?_⟩ | refine ⟨⟨sub_fn, refs_fn⟩, ?_⟩ | refine ⟨⟨rfl, fun h => Bool.noConfusion h⟩, ?_⟩ | refine ⟨⟨rfl, fun h => ?_⟩, ?_⟩ | refine ⟨rfl, ?_⟩ | refine ⟨?_, ?_⟩ | fail))) ⟨by simp only; omega, by simp only; rw [hst2, d2], by simp only; rw [hst2, d3], d4⟩ (by simp only; omega))
      · have hbi : b = i := by omega
        subst hbi
        repeat' (first | (refine g_exec ?_; refine g_load ?_; refine x_load_sem _ aA rfl rfl aE rfl (by first | exact semTo_Old | exact semTo_LP) ?_) | (refine pA (k := ?_)) | (refine g_exec ?_; first | (refine g_guard ?_; refine x_gsplit rfl rfl (fun h => ?_) (fun h => ?_) <;> (have h' := h; try simp only [sx] at h')) | (refine x_nil (hK _ _ aI ?_); clear hK K)) | (refine v_region (fun K hK => ?_)) | (refine v_condt rfl (fun h => ?_) (fun h => ?_) <;> (have h' := h; try simp only [sx] at h')))
        all_goals try (exfalso; omega)
        all_goals (refine q_next (t + 1, fE2, o2, R2, m2) rfl (by refine ⟨?_, ?_, rfl, rfl⟩ <;> (repeat' (first | exact trivial | exact ⟨rfl, rfl⟩ | exact rfl | exact ⟨sub_fn, refs_fn⟩ | refine ⟨⟨rfl, rfl⟩, ?_⟩ | refine ⟨⟨sub_fn, refs_fn⟩, ?_⟩ | refine ⟨⟨rfl, fun h => Bool.noConfusion h⟩, ?_⟩ | refine ⟨⟨rfl, fun h => ?_⟩, ?_⟩ | refine ⟨rfl, ?_⟩ | refine ⟨?_, ?_⟩ | fail))) ⟨by simp only; omega, fun t' ht => ?_, by simp only; rw [hst, d2], by simp only; rw [hst, d3], d4⟩ (by simp only; omega))
        rcases Nat.lt_or_ge t' t with h1 | h1
        · exact g2 t' h1
        · have : t' = t := by omega
          subst this
          rw [hs]
          exact hne
end Go.Vs
set_option linter.unusedVariables false
set_option linter.unusedSimpArgs false
set_option linter.unusedSectionVars false
set_option maxRecDepth 100000
set_option maxHeartbeats 4000000
namespace Go.Vs
open Go.Proofs
attribute [local irreducible] exec vwp thenQ blkQ loopQ RetPost
theorem rowM_cong {TS TI : TypeId} {qs : List Plc} {Mx : Mtx} {q : Plc} {G G' : Nat → Prop} {ρ ρ' : Id → Option (Nat × Nat)} {M M' : Mem} {w : World} (h : RowOk G ρ w M ⟨TS, 1, rowM TI qs Mx, false⟩ q) (hqs : ∀ q' ∈ qs, ∀ b, inQ q' b → Stab G ρ M w b → Stab G' ρ' M' w b) :
    RowOk G' ρ' w M' ⟨TS, 1, rowM TI qs Mx, false⟩ q := by
  cases q with
  | none => exact h
  | some bz =>
    obtain ⟨b, z⟩ := bz
    obtain ⟨cur, C, g1, g2, g3, g4, g5, g6⟩ := h
    refine ⟨cur, C, g1, g2, g3, g4, g5, fun i e hi => ⟨(g6 i e hi).1, fun j u hu => ?_⟩⟩
    obtain ⟨c, c1, c2, c3⟩ := (g6 i e hi).2 j u hu
    refine ⟨c, c1, c2, ?_⟩
    obtain ⟨q', r, hq', hr, rfl⟩ := rowM_inv hi
    match j, hu with
    | 0, hu =>
      simp at hu
      subst hu
      have h5 := rep_LP.1 c3
      exact rep_LP.2 (h5.cong (fun _ _ => rfl) fun b hb => hqs q' (List.mem_of_getElem? hq') b hb (h5.1 b hb))
    | j + 1, hu => simp at hu
theorem ret_oneB {al : Bool} {w w' : World} {row : Row} {q : Plc} {qs : List Plc} {v : Value} {k' : Bool} {es' : List (List PV)} {ρ' : Id → Option (Nat × Nat)} (h : RetOk (fun _ => True) al w (q :: qs) w' v (.bool k') [row] [es'] 0 ρ') :
    v = .bool k' ∧ Keep w (q :: qs) w' ∧ ρ' (io, 0) = q ∧ RowOk (fun _ => True) ρ' w' (ioMem [{ row with es := es' }]) { row with es := es' } q := by
  have hth : thaw 0 (.bool k') = (.bool k', []) := rfl
  have hrel := h.rel
  have hval := h.val
  rw [hth] at hrel hval
  simp only [Mem.upds, withEs] at hrel hval
  have hM : ioMem [{ row with es := es' }] (io, 0) = some (some { row with es := es' }) := rfl
  have hn := hrel.new (io, 0) _ hM
  rw [if_pos rfl] at hn
  have hq : ρ' (io, 0) = q := by
    have : (q :: qs)[(0 : Nat)]? = some q := rfl
    rw [show ((io, 0) : Id).2 = 0 from rfl, this] at hn
    exact (Option.some.inj hn).symm
  have hr := hrel.row (io, 0) _ hM
  rw [hq] at hr
  exact ⟨rep_bool.1 hval, hrel.keep, hq, hr⟩
section
variable [fl : Inhabited FlrT]
theorem big_caps {o : Oper} {c : Call} {f : Operand} {fi ca : List PV} {env : List (Nat × PV)} {mem : List (Id × Option Row)} {d : Nat} (hok : ∀ (w0 : World) X, FlOk w0 X → ∀ b, (w0.heap.size ≤ b ∨ ∃ z, some (b, z) ∈ X) → flW b) (t : Terrain) (xs ys : List Int) (hg : GoodT t) (hx : CelT t xs) (hy : CelT t ys) (hxl : xs.length ≤ 1000000) (hyl : ys.length ≤ 1000000) (N : Nat) (hN : N = 2 * t.burn.length + 2)
    (ho : o.op = .call c) (hcal : c.callee = .value f) (hev : ev (getE env) f = .fn 96 fi ca) (hdst : o.dst = some d) (hxs : fi ++ c.args.toList.map (ev (getE env)) ++ ca = [.agg t.pv, .list 1 (ints xs), .list 1 (ints ys)]) (hd0 : d ≠ io) :
    BigStep Try.prog o ⟨env, mem⟩ fun st' => ∃ qs, qs.length = N ∧ Apt qs ∧ (∀ q ∈ qs, ∀ b, inQ q b → flN ≤ b ∧ flW b) ∧ st' = ⟨[(d, .osl (d, 0) 0 N)], [((d, 0), some ⟨24, 1, rowM 3 qs (capM t xs ys N t.burn.length), false⟩)]⟩ := by
  rintro G w0 X NN a w K Q hd hF ⟨ρ, hW, hdef, hs, hV⟩ hK
  have hf := rep_ev hV f
  rw [show ev (St.V ⟨env, mem⟩) f = .fn 96 fi ca from hev] at hf
  obtain ⟨vfi, vca, hfv, c1, c2⟩ := rep_fn.1 hf
  have hargs := (c1.append (comps_map hV c.args)).append c2
  rw [show fi ++ c.args.toList.map (ev (St.V ⟨env, mem⟩)) ++ ca = _ from hxs] at hargs
  have hrun : (execOp a.eval o).run Try.prog w = .ok (.enter 96 (vfi ++ c.args.map a.eval ++ vca)) w := by
    simp only [execOp, ho, resolve, hcal, hfv, Deferred.ofValue, Sem.run_bind, Sem.run_pure, Result.andThen_ok, invoke, callFunc, run_program, (show Try.prog.funcs[(96 : Nat)]? = some _ from Try.func96)]
    rfl
  unfold Oper.wp
  rw [hrun]
  show Calls Try.prog 96 _ w _
  have hnone : ∀ id r, ioMem [] id ≠ some (some r) := by
    intro id r h
    simp [ioMem] at h
  let G' : Nat → Prop := fun b => Stab G ρ (getM mem) w b ∨ w.heap.size ≤ b
  have hS : ∀ b, Stab G ρ (getM mem) w b → Stab G' (fun _ => none) (ioMem []) w b := fun b h => ⟨h.1, fun id r z h1 => absurd h1 (hnone id r), .inl h⟩
  have hW' : WRel G' (fun _ => none) w [] (ioMem []) w :=
    ⟨fun id id' r r' b z z' h => absurd h (hnone id r), fun id r h => absurd h (hnone id r), fun id r h => absurd h (hnone id r), ⟨rfl, rfl, rfl, Nat.le_refl _, fun _ _ _ => rfl, fun b cur ty fr h => ⟨cur, h, rfl⟩⟩,
      fun b h => h.elim .inr (fun ⟨z, h⟩ => by simp at h), hW.tab.mono fun b h => ⟨hS b h, rfl⟩⟩
  let fl' : Inhabited FlrT := ⟨⟨w.heap.size, fun b => w.heap.size ≤ b, fun w0 X => ∀ b, (w0.heap.size ≤ b ∨ ∃ z, some (b, z) ∈ X) → w.heap.size ≤ b⟩⟩
  have hF' : FlOk (fl := fl') w [] := ⟨Nat.le_refl _, fun b h => .inl h, fun b z h => by simp at h, fun b h => h.elim id fun ⟨z, h⟩ => by simp at h⟩
  have hold : ∀ (v : Value) (l : List Int), Rep ρ w (Stab G ρ (getM mem) w) (getM mem) v (.list 1 (ints l)) → Rep (fun _ => none) w (Stab G' (fun _ => none) (ioMem []) w) (ioMem []) v (OldL (fl := fl') l) := by
    intro v l h
    have h2 : Rep ρ w (Stab G ρ (getM mem) w) noMem v (.list 1 (ints l)) := rep_list.2 (rep_list.1 h)
    have h1 : v.oneCell' = true := by obtain ⟨a, cap, e, _⟩ := rep_list.1 h; rw [e]; rfl
    exact rep_sem.2 ⟨h1, fun b => Stab G ρ (getM mem) w b, hS, fun w2 ha => ⟨fun b hb => hb.1, h1, h2.pureMono fun b hb => ⟨hb, ha b hb⟩⟩⟩
  obtain ⟨v0, a1, b1⟩ := hargs.2 0 _ rfl
  obtain ⟨v1, a2, b2⟩ := hargs.2 1 _ rfl
  obtain ⟨v2, a3, b3⟩ := hargs.2 2 _ rfl
  have hagg : Rep (fun _ => none) w (Stab G' (fun _ => none) (ioMem []) w) (ioMem []) v0 (.agg [.int .i64 t.width, .int .i64 t.height, OldL (fl := fl') t.burn]) := by
    obtain ⟨cs, h1, h2, h3⟩ := rep_agg.1 b1
    refine rep_agg.2 ⟨cs, h1, h2, fun j u hu => ?_⟩
    match j, hu with
    | 0, hu => simp at hu; subst hu; obtain ⟨c, k1, k2⟩ := h3 0 _ rfl; exact ⟨c, k1, rep_int.2 (rep_int.1 k2)⟩
    | 1, hu => simp at hu; subst hu; obtain ⟨c, k1, k2⟩ := h3 1 _ rfl; exact ⟨c, k1, rep_int.2 (rep_int.1 k2)⟩
    | 2, hu => simp at hu; subst hu; obtain ⟨c, k1, k2⟩ := h3 2 _ rfl; exact ⟨c, k1, hold c _ k2⟩
    | j + 3, hu => simp at hu
  refine (new_l9Caps (fl := fl') (fun w0 X h => h.2.2.2) t xs ys hg hx hy hxl hyl N hN hF' hW' ⟨hargs.1, fun j u hu => ?_⟩).mono ?_
  · match j, hu with
    | 0, hu => simp at hu; subst hu; exact ⟨v0, a1, hagg⟩
    | 1, hu => simp at hu; subst hu; exact ⟨v1, a2, hold v1 _ b2⟩
    | 2, hu => simp at hu; subst hu; exact ⟨v2, a3, hold v2 _ b3⟩
    | j + 3, hu => simp at hu
  rintro e w' ⟨v, r, fin, rfl, ⟨qs, hql, hap, hfr, rfl⟩, hfin, _, hret⟩
  have hfin : fin = [] := List.eq_nil_of_length_eq_zero hfin
  subst hfin
  obtain ⟨ρ2, hR⟩ := hret d hd0
  have hrel := hR.rel
  have hval := hR.val
  have hth : thaw d (.olist 24 1 (rowM 3 qs (capM t xs ys N t.burn.length))) = (.osl (d, 0) 0 (rowM 3 qs (capM t xs ys N t.burn.length)).length, [((d, 0), some ⟨24, 1, rowM 3 qs (capM t xs ys N t.burn.length), false⟩)]) := rfl
  rw [hth] at hrel hval
  have hkeep := hrel.keep
  have hZ := capM_zo (xs := xs) (ys := ys) hN t.burn.length (Nat.le_refl _)
  have hlen : (rowM 3 qs (capM t xs ys N t.burn.length)).length = N := by rw [rowM_len (by rw [hql, hZ.1]), hZ.1]
  generalize hrw : (⟨24, 1, rowM 3 qs (capM t xs ys N t.burn.length), false⟩ : Row) = row at *
  have hM2 : ((ioMem (withEs [] [])).upds [((d, 0), some row)]) (d, 0) = some (some row) := by simp [Mem.upds, Mem.set]
  have hrow := hrel.row (d, 0) _ hM2
  have hnew := hrel.new (d, 0) _ hM2
  rw [if_neg hd0] at hnew
  have hnq : ∀ b z, ρ2 (d, 0) = some (b, z) → w.heap.size ≤ b := by
    intro b z hz
    rcases hnew b z hz with h | ⟨z', h⟩
    · exact h
    · simp at h
  have hosl := (rep_osl (r := row) (by simp [Mem.upds, Mem.set])).1 hval
  obtain ⟨T, W'⟩ := keep_trans hkeep hW
  have h0w : w0.heap.size ≤ w.heap.size := hW.keep.size
  have hid : ∀ id r, getM [((d, 0), some row)] id = some (some r) → id = (d, 0) ∧ r = row := by
    intro id r h
    have := getM_mem h
    simp at this
    exact this
  have hMn : getM [((d, 0), some row)] (d, 0) = some (some row) := by simp [getM]
  have hW2 : WRel G ρ2 w0 X (getM [((d, 0), some row)]) w' := by
    refine ⟨fun i1 i2 r1 r2 b z1 z2 h1 h2 _ _ => by rw [(hid i1 r1 h1).1, (hid i2 r2 h2).1], fun id r h => ?_, fun id r h => ?_, W'.keep, hW.good, ?_⟩
    · obtain ⟨rfl, rfl⟩ := hid id r h
      rw [← hrw] at hrow ⊢
      refine rowM_cong hrow fun q' hq' b hb hst => ⟨hst.1, fun id r z h1 h2 => ?_, hW.good b (.inl (Nat.le_trans h0w (hfr q' hq' b hb).1))⟩
      obtain ⟨rfl, _⟩ := hid id r (by rw [← hrw]; exact h1)
      exact hst.2.1 (d, 0) _ z (by rw [← hrw] at hM2; exact hM2) h2
    · obtain ⟨rfl, rfl⟩ := hid id r h
      rw [if_neg hd0]
      exact fun b z hz => .inl (Nat.le_trans h0w (hnq b z hz))
    · obtain ⟨hp, h1, _⟩ := hW.tab
      exact ⟨hp, h1, fun g hg => by cases hg⟩
  have hpr := put_rel (V := getE []) (d := some d) (x := .osl (d, 0) 0 N) (v := v) (fun t e => hd t (by rw [hdst]; exact e)) hdef hs (fun t => rep_any) (Trans.refl _ _ _ _) hW2 ((rep_osl hMn).2 (by rw [hlen] at hosl; exact hosl))
  show K (a.put o.dst v) w'
  refine hK _ _ w' ⟨qs, hql, hap, fun q hq b hb => ?_, by rw [hrw]⟩ ?_
  · have hge : w0.heap.size ≤ b := Nat.le_trans h0w (hfr q hq b hb).1
    exact ⟨Nat.le_trans hF.1 hge, hok w0 X hF b (.inl hge)⟩
  · rw [hdst]
    have e : St.V ⟨[(d, .osl (d, 0) 0 N)], [((d, 0), some row)]⟩ = putV (getE []) (some d) (.osl (d, 0) 0 N) := getE_put [] (some d) _
    rw [e]
    exact hpr
theorem big_push {o : Oper} {c : Call} {f : Operand} {fi ca : List PV} {env env' : List (Nat × PV)} {mem : List (Id × Option Row)} {d : Nat} {id : Id} (hok : ∀ (w0 : World) X, FlOk w0 X → ∀ b, (w0.heap.size ≤ b ∨ ∃ z, some (b, z) ∈ X) → flW b) (n : Nat) (hn : 2 ≤ n) (hn2 : n ≤ 1000) (M : Mtx) (hD : Dim n M) (hD2 : canP M n = true → Dim n (pshM M n)) (qs : List Plc) (hl : qs.length = n) (hA : Apt qs) (hw : ∀ x ∈ qs, ∀ b, inQ x b → flN ≤ b ∧ flW b)
    (ho : o.op = .call c) (hcal : c.callee = .value f) (hev : ev (getE env) f = .fn 97 fi ca) (hdst : o.dst = some d) (hxs : fi ++ c.args.toList.map (ev (getE env)) ++ ca = [.osl id 0 n]) (hid0 : id.1 ≠ io)
    (hm : getM mem id = some (some ⟨24, 1, rowM 3 qs M, false⟩)) (henv : allL (fun p : Nat × PV => getE env p.1 = p.2 ∧ (p.2.flat = true ∨ p.2 = .osl id 0 n)) env') :
    BigStep Try.prog o ⟨env, mem⟩ fun st' => ∃ ps, ps.length = n ∧ Apt ps ∧ (∀ x ∈ ps, ∀ b, inQ x b → flN ≤ b ∧ flW b) ∧ st' = ⟨(d, .bool (canP M n)) :: env', [(id, some ⟨24, 1, rowM 3 ps (if canP M n = true then pshM M n else M), false⟩)]⟩ := by
  rintro G w0 X NN a w K Q hd hF ⟨ρ, hW, hdef, hs, hV⟩ hK
  have hf := rep_ev hV f
  rw [show ev (St.V ⟨env, mem⟩) f = .fn 97 fi ca from hev] at hf
  obtain ⟨vfi, vca, hfv, c1, c2⟩ := rep_fn.1 hf
  have hargs := (c1.append (comps_map hV c.args)).append c2
  rw [show fi ++ c.args.toList.map (ev (St.V ⟨env, mem⟩)) ++ ca = _ from hxs] at hargs
  have hrun : (execOp a.eval o).run Try.prog w = .ok (.enter 97 (vfi ++ c.args.map a.eval ++ vca)) w := by
    simp only [execOp, ho, resolve, hcal, hfv, Deferred.ofValue, Sem.run_bind, Sem.run_pure, Result.andThen_ok, invoke, callFunc, run_program, (show Try.prog.funcs[(97 : Nat)]? = some _ from Try.func97)]
    rfl
  unfold Oper.wp
  rw [hrun]
  show Calls Try.prog 97 _ w _
  have hm : St.M ⟨env, mem⟩ id = some (some ⟨24, 1, rowM 3 qs M, false⟩) := hm
  have hrow := hW.row id _ hm
  have hnew := hW.new id _ hm
  rw [if_neg hid0] at hnew
  have hlM : (rowM 3 qs M).length = n := by rw [rowM_len (by rw [hl, hD.1]), hD.1]
  generalize hq0 : ρ id = q0 at *
  have hr1 : RowOk (fun _ => True) (fun _ => q0) w (ioMem [⟨24, 1, rowM 3 qs M, false⟩]) ⟨24, 1, rowM 3 qs M, false⟩ q0 :=
    rowM_cong hrow fun q' hq' b hb hst => ⟨hst.1, fun id' r' z _ h2 => hst.2.1 id _ z hm (by rw [hq0]; exact h2), trivial⟩
  have htab : ∃ hp, TabOk hp := let ⟨hp, h1, _⟩ := hW.tab; ⟨hp, h1⟩
  have hM0 : ioMem [(⟨24, 1, rowM 3 qs M, false⟩ : Row)] (io, 0) = some (some ⟨24, 1, rowM 3 qs M, false⟩) := rfl
  let fl' : Inhabited FlrT := ⟨⟨0, fun b => w.heap.size ≤ b ∨ ∃ z, some (b, z) ∈ q0 :: qs, fun w0 X => ∀ b, (w0.heap.size ≤ b ∨ ∃ z, some (b, z) ∈ X) → (w.heap.size ≤ b ∨ ∃ z, some (b, z) ∈ q0 :: qs)⟩⟩
  have hF' : FlOk (fl := fl') w (q0 :: qs) := ⟨Nat.zero_le _, fun b h => h, fun b z h => Nat.zero_le _, fun b h => h⟩
  obtain ⟨v0, a1, b1⟩ := hargs.2 0 _ rfl
  have ho1 := (rep_osl hm).1 b1
  rw [hq0] at ho1
  have hall : ∀ b, (w.heap.size ≤ b ∨ ∃ z, some (b, z) ∈ q0 :: qs) → w0.heap.size ≤ b ∨ ∃ z, some (b, z) ∈ X := by
    rintro b (h | ⟨z, h⟩)
    · exact .inl (Nat.le_trans hW.keep.size h)
    · rcases List.mem_cons.1 h with h | h
      · exact hnew b z h.symm
      · exact hF.2.1 b (hw _ h b ⟨z, rfl⟩).2
  refine (wr_l9Push (fl := fl') (fun w0 X h => h.2.2.2) n hn hn2 M hD qs hl hA (fun x hx b ⟨z, hz⟩ => ⟨Nat.zero_le _, .inr ⟨z, by rw [← hz]; exact List.mem_cons_of_mem _ hx⟩⟩) hF' (wrel_one hr1 htab rfl) ⟨hargs.1, fun j u hu => ?_⟩).mono ?_
  · match j, hu with
    | 0, hu => simp at hu; subst hu; exact ⟨v0, a1, (rep_osl hM0).2 ho1⟩
    | j + 1, hu => simp at hu
  rintro e w' ⟨v, r, fin, rfl, ⟨ps, p1, p2, p3, rfl, rfl⟩, _, _, hret⟩
  obtain ⟨ρ2, hR⟩ := hret 0 (by decide)
  obtain ⟨rfl, hk, hq2, hr2⟩ := ret_oneB hR
  have hD3 : Dim n (if canP M n = true then pshM M n else M) := by
    split
    · rename_i h; exact hD2 h
    · exact hD
  generalize (if canP M n = true then pshM M n else M) = M2 at *
  have hlM2 : (rowM 3 ps M2).length = n := by rw [rowM_len (by rw [p1, hD3.1]), hD3.1]
  generalize hrw : (⟨24, 1, rowM 3 ps M2, false⟩ : Row) = row at *
  have hid : ∀ id' r, getM [(id, some row)] id' = some (some r) → id' = id ∧ r = row := by
    intro id' r h
    have := getM_mem h
    simp at this
    exact this
  have hMn : getM [(id, some row)] id = some (some row) := by simp [getM]
  have hk0 := hW.keep
  have hW2 : WRel G ρ w0 X (getM [(id, some row)]) w' := by
    refine ⟨fun i1 i2 r1 r2 b z1 z2 h1 h2 _ _ => by rw [(hid i1 r1 h1).1, (hid i2 r2 h2).1], fun id' r h => ?_, fun id' r h => ?_, ⟨hk.os.trans hk0.os, hk.tape.trans hk0.tape, hk.output.trans hk0.output, Nat.le_trans hk0.size hk.size, fun b hb hn => ?_, fun b cur ty fr h => ?_⟩, hW.good, ?_⟩
    · obtain ⟨rfl, rfl⟩ := hid id' r h
      rw [hq0, ← hrw]
      rw [← hrw] at hr2
      refine rowM_cong hr2 fun q' hq' b hb hst => ⟨hst.1, fun id2 r z h1 h2 => ?_, hW.good b (hall b (p3 q' hq' b hb).2)⟩
      obtain ⟨rfl, _⟩ := hid id2 r (by rw [← hrw]; exact h1)
      rw [hq0] at h2
      exact hst.2.1 (io, 0) _ z rfl (by rw [hq2]; exact h2)
    · obtain ⟨rfl, rfl⟩ := hid id' r h
      rw [if_neg hid0, hq0]
      exact hnew
    · rw [hk.block b (Nat.lt_of_lt_of_le hb hk0.size) fun z hz => ?_, hk0.block b hb hn]
      rcases hall b (.inr ⟨z, hz⟩) with h | ⟨z', h⟩
      · omega
      · exact hn z' h
    · obtain ⟨c1, h1, h2⟩ := hk0.shape b cur ty fr h
      obtain ⟨c2, h3, h4⟩ := hk.shape b c1 ty fr h1
      exact ⟨c2, h3, h4.trans h2⟩
    · obtain ⟨hp, h1, _⟩ := hW.tab
      exact ⟨hp, h1, fun g hg => by cases hg⟩
  have hoslW : ∀ v, OslOk w ⟨24, 1, rowM 3 qs M, false⟩ v 0 n q0 → OslOk w' row v 0 n q0 := by
    intro v h
    rw [← hrw]
    cases q0 with
    | none => exact h
    | some bz =>
      obtain ⟨b, z⟩ := bz
      obtain ⟨ad, cap, k1, k2, k3, k4, k5⟩ := h
      refine ⟨ad, cap, k1, by simp only [hlM2]; simp only [hlM] at k2; exact k2, k3, k4, fun hc => ?_⟩
      obtain ⟨g1, cur, g2, g3⟩ := k5 hc
      obtain ⟨cur', h1, h2⟩ := hk.shape b cur _ _ g2
      exact ⟨g1, cur', h1, h2.trans g3⟩
  have hbase : ∀ t, Rep ρ w' (Stab G ρ (getM [(id, some row)]) w') (getM [(id, some row)]) (a.tmps.getD t undef) (getE env' t) := by
    intro t
    rcases getE_mem (l := env') (t := t) with h | h
    · rw [h]; exact rep_any
    · have h3 := hV t
      simp only [St.V] at h3
      obtain ⟨h1, h2⟩ := allL_mem henv _ h
      simp only at h1 h2
      rw [h1] at h3
      rcases h2 with h2 | h2
      · exact rep_flat h2 h3
      · rw [h2] at h3 ⊢
        have h4 := (rep_osl hm).1 h3
        rw [hq0] at h4
        refine (rep_osl hMn).2 ?_
        rw [hq0]
        exact hoslW _ h4
  have hpr := put_rel (V := getE env') (d := some d) (x := .bool (canP M n)) (v := .bool (canP M n)) (fun t e => hd t (by rw [hdst]; exact e)) hdef hs hbase (Trans.refl _ _ _ _) hW2 (rep_bool.2 rfl)
  show K (a.put o.dst _) w'
  refine hK _ _ w' ⟨ps, p1, p2, fun x hx b hb => ?_, by rw [hrw]⟩ ?_
  · have hx1 := hall b (p3 x hx b hb).2
    refine ⟨?_, hok w0 X hF b hx1⟩
    rcases hx1 with h | ⟨z, h⟩
    · exact Nat.le_trans hF.1 h
    · exact hF.2.2.1 b z h
  · rw [hdst]
    have e : St.V ⟨(d, .bool (canP M n)) :: env', [(id, some row)]⟩ = putV (getE env') (some d) (.bool (canP M n)) := getE_put env' (some d) _
    rw [e]
    exact hpr
end
end Go.Vs
set_option linter.unusedVariables false
set_option linter.unusedSimpArgs false
namespace Go.Vs
def ContractR (P : Program) (f : FuncId) (args : List PV) (ios mvs : List Row) (r : PV) (ios' mvs' : List Row) : Prop :=
  Callable P f ∧ ∀ (G : Nat → Prop) (w : World) (X : List (Option (Nat × Nat))) (ρ : Id → Option (Nat × Nat)) (cargs : Array Value),
    WRel G ρ w X (memS ios mvs) w → Comps ρ w (Stab G ρ (memS ios mvs) w) (memS ios mvs) cargs args →
    Calls P f cargs w fun e w' => ∃ v ρ', e = .returned v ∧ WRel G ρ' w X (memS ios' mvs') w' ∧ Rep ρ' w' (Stab G ρ' (memS ios' mvs') w') (memS ios' mvs') v r
section
variable {P : Program} {G G' : Nat → Prop} {ρ ρ' : Id → Option (Nat × Nat)} {w0 w : World} {X : List (Option (Nat × Nat))} {M M' : Mem}
theorem callR_sound (hW : WRel G ρ w0 X M w) {f : FuncId} {cargs : Array Value} {xs ys : List PV} {d : Nat} {ids mids rd : List Id} {ios mvs ios' mvs' : List Row} {r : PV}
    (hc : Comps ρ w (Stab G ρ M w) M cargs xs) (ok : CallOkS M d xs ys ids mids rd ios mvs ios' mvs') (hC : ContractR P f ys ios mvs r ios' mvs') (hrr : refsD 5 (namesS ios.length mvs.length) r = true) :
    Calls P f cargs w fun e w' => ∃ v ρ2, e = .returned v ∧ Trans G ρ M w ρ2 (M.upds (upsS d ids mids rd ios' mvs')) w' ∧
      WRel G ρ2 w0 X (M.upds (upsS d ids mids rd ios' mvs')) w' ∧ Rep ρ2 w' (Stab G ρ2 (M.upds (upsS d ids mids rd ios' mvs')) w') (M.upds (upsS d ids mids rd ios' mvs')) v (subD 5 (outS ids d) r) := by
  have hnd := List.nodup_append.1 ok.nodup
  have hdis : ∀ id, id ∈ ids → id ∉ mids := fun id h1 h2 => hnd.2.2 id h1 id h2 rfl
  have liveI : ∀ (k : Nat) id, ids[k]? = some id → ∃ row, ios[k]? = some row ∧ M id = some (some (sbr (inS ids mids) row)) ∧ refsR (namesS ios.length mvs.length) row := fun k id hk => by
    have hlt : k < ios.length := by rw [← ok.len]; exact (List.getElem?_eq_some_iff.1 hk).1
    exact ⟨_, List.getElem?_eq_getElem hlt, ok.lent k id _ hk (List.getElem?_eq_getElem hlt)⟩
  have liveM : ∀ (k : Nat) id, mids[k]? = some id → ∃ row, mvs[k]? = some row ∧ M id = some (some (sbr (inS ids mids) row)) ∧ row.bx = false ∧ id.1 ≠ io := fun k id hk => by
    have hlt : k < mvs.length := by rw [← ok.lem]; exact (List.getElem?_eq_some_iff.1 hk).1
    exact ⟨_, List.getElem?_eq_getElem hlt, ok.lemt k id _ hk (List.getElem?_eq_getElem hlt)⟩
  have liveA : ∀ id, id ∈ ids ∨ id ∈ mids → ∃ r0, M id = some (some r0) := by
    rintro id (h | h)
    · obtain ⟨k, hk⟩ := List.getElem?_of_mem h
      obtain ⟨row, _, h2, _⟩ := liveI k id hk
      exact ⟨_, h2⟩
    · obtain ⟨k, hk⟩ := List.getElem?_of_mem h
      obtain ⟨row, _, h2, _⟩ := liveM k id hk
      exact ⟨_, h2⟩
  have nd : ∀ id x, M id = some x → id.1 ≠ d := fun id x h e => by
    rw [show id = (d, id.2) from by rw [← e], ok.free] at h
    cases h
  have hin1 : ∀ (k : Nat) id, ids[k]? = some id → inS ids mids (io, k) = id := fun k id hk => by simp [inS, hk]
  have hin2 : ∀ (k : Nat) id, mids[k]? = some id → inS ids mids (mv, k) = id := fun k id hk => by simp [inS, hk, mv_io]
  have hout1 : ∀ (k : Nat) id, ids[k]? = some id → outS ids d (io, k) = id := fun k id hk => by simp [outS, hk]
  have hout2 : ∀ k : Nat, outS ids d (mv, k) = (d, k) := fun k => by simp [outS, mv_io]
  obtain ⟨T1, W1⟩ : Trans G ρ M w ρ (M.upds (deadS rd)) w ∧ WRel G ρ w0 X (M.upds (deadS rd)) w := freeze_all hW rd (fun id hid => (ok.given id hid).2) ok.rnodup
  let ρc : Id → Option (Nat × Nat) := fun id => if id.1 = io ∨ id.1 = mv then ρ (inS ids mids id) else none
  let Xc : List (Option (Nat × Nat)) := ids.map ρ ++ mids.map ρ
  let Gc : Nat → Prop := fun b => Stab G ρ (M.upds (deadS rd)) w b ∨ w.heap.size ≤ b ∨ ∃ z, some (b, z) ∈ Xc
  have hρ1 : ∀ (k : Nat) id, ids[k]? = some id → ρc (io, k) = ρ id := fun k id hk => by simp only [ρc, true_or, if_true, hin1 k id hk]
  have hρ2 : ∀ (k : Nat) id, mids[k]? = some id → ρc (mv, k) = ρ id := fun k id hk => by simp only [ρc, or_true, if_true, hin2 k id hk]
  have hmem : ∀ id row, memS ios mvs id = some (some row) → (id = (io, id.2) ∧ ios[id.2]? = some row ∧ ∃ id', ids[id.2]? = some id') ∨ (id = (mv, id.2) ∧ mvs[id.2]? = some row ∧ ∃ id', mids[id.2]? = some id') := by
    intro id row h
    simp only [memS] at h
    split at h
    · rename_i h1
      obtain ⟨row', g1, g2⟩ := Option.map_eq_some_iff.1 h
      injection g2 with g2
      subst g2
      have hlt : id.2 < ids.length := by rw [ok.len]; exact (List.getElem?_eq_some_iff.1 g1).1
      exact .inl ⟨by rw [← h1], g1, _, List.getElem?_eq_getElem hlt⟩
    · split at h
      · rename_i h1
        obtain ⟨row', g1, g2⟩ := Option.map_eq_some_iff.1 h
        injection g2 with g2
        subst g2
        have hlt : id.2 < mids.length := by rw [ok.lem]; exact (List.getElem?_eq_some_iff.1 g1).1
        exact .inr ⟨by rw [← h1], g1, _, List.getElem?_eq_getElem hlt⟩
      · cases h
  have hlive : ∀ id row, memS ios mvs id = some (some row) → ∃ id', inS ids mids id = id' ∧ M id' = some (some (sbr (inS ids mids) row)) ∧ ρc id = ρ id' ∧ (id' ∈ ids ∨ id' ∈ mids) ∧ refsR (namesS ios.length mvs.length) row := by
    intro id row h
    rcases hmem id row h with ⟨e, h1, id', h2⟩ | ⟨e, h1, id', h2⟩
    · obtain ⟨g1, g2⟩ := ok.lent id.2 id' row h2 h1
      exact ⟨id', by rw [e]; exact hin1 _ _ h2, g1, by rw [e]; exact hρ1 _ _ h2, .inl (List.mem_of_getElem? h2), g2⟩
    · obtain ⟨g1, g2, g3⟩ := ok.lemt id.2 id' row h2 h1
      exact ⟨id', by rw [e]; exact hin2 _ _ h2, g1, by rw [e]; exact hρ2 _ _ h2, .inr (List.mem_of_getElem? h2), fun hb => by rw [g2] at hb; cases hb⟩
  have hinj : ∀ i1 r1 i2 r2, memS ios mvs i1 = some (some r1) → memS ios mvs i2 = some (some r2) → inS ids mids i1 = inS ids mids i2 → i1 = i2 := by
    intro i1 r1 i2 r2 h1 h2 he
    rcases hmem i1 r1 h1 with ⟨e1, _, j1, k1⟩ | ⟨e1, _, j1, k1⟩ <;> rcases hmem i2 r2 h2 with ⟨e2, _, j2, k2⟩ | ⟨e2, _, j2, k2⟩ <;> rw [e1, e2] at he
    · rw [hin1 _ _ k1, hin1 _ _ k2] at he
      subst he
      rw [e1, e2, nodup_inj ids _ _ _ hnd.1 k1 k2]
    · rw [hin1 _ _ k1, hin2 _ _ k2] at he
      subst he
      exact absurd (List.mem_of_getElem? k2) (hdis _ (List.mem_of_getElem? k1))
    · rw [hin2 _ _ k1, hin1 _ _ k2] at he
      subst he
      exact absurd (List.mem_of_getElem? k1) (hdis _ (List.mem_of_getElem? k2))
    · rw [hin2 _ _ k1, hin2 _ _ k2] at he
      subst he
      rw [e1, e2, nodup_inj mids _ _ _ hnd.2.1 k1 k2]
  have hXc : ∀ b z, some (b, z) ∈ Xc → ∃ id, (id ∈ ids ∨ id ∈ mids) ∧ ρ id = some (b, z) := by
    intro b z h
    rcases List.mem_append.1 h with h | h
    · obtain ⟨id, h1, h2⟩ := List.mem_map.1 h; exact ⟨id, .inl h1, h2⟩
    · obtain ⟨id, h1, h2⟩ := List.mem_map.1 h; exact ⟨id, .inr h1, h2⟩
  have hS : ∀ b, Stab G ρ M w b → Stab Gc ρc (memS ios mvs) w b := by
    intro b hb
    refine ⟨hb.1, fun id row z hl => ?_, .inl (T1.stab b hb).1⟩
    obtain ⟨id', _, g1, g2, _⟩ := hlive id row hl
    rw [g2]
    exact hb.2.1 id' _ z g1
  have hId : ∀ id ∈ rd, ∀ r b z, M id = some (some r) → ρ id = some (b, z) → Stab Gc ρc (memS ios mvs) w b := by
    intro id hid r b z hM hρ
    refine ⟨hW.lt hM hρ, fun id2 row z2 hl hh => ?_, .inl ⟨hW.lt hM hρ, fun id2 r2 z2 hl hh => ?_, ?_⟩⟩
    · obtain ⟨id', _, g1, g2, g3, _⟩ := hlive id2 row hl
      rw [g2] at hh
      have := hW.inj id id' r _ b z z2 hM g1 hρ hh
      subst this
      rcases g3 with g3 | g3
      · exact (ok.apart id hid).1 g3
      · exact (ok.apart id hid).2 g3
    · by_cases hin : id2 ∈ rd
      · rw [deadS_at M hin] at hl; cases hl
      · rw [deadS_other M hin] at hl
        have := hW.inj id id2 r r2 b z z2 hM hl hρ hh
        exact hin (by rw [← this]; exact hid)
    · have := hW.new id r hM
      rw [if_neg (ok.given id hid).1] at this
      exact hW.good b (this b z hρ)
  have hMin : ∀ id, ((namesS ios.length mvs.length).any fun k => Nat.beq k.1 id.1 && Nat.beq k.2 id.2) = true → ∃ r r', M (inS ids mids id) = some (some r) ∧ memS ios mvs id = some (some r') ∧ r'.sz = r.sz ∧ r'.ty = r.ty ∧ r'.es.length = r.es.length ∧ ρc id = ρ (inS ids mids id) := by
    intro id hid
    have hx : ∃ row, memS ios mvs id = some (some row) := by
      rcases namesS_any hid with ⟨h1, h2⟩ | ⟨h1, h2⟩
      · rw [h1]; exact ⟨ios[id.2], by simp only [memS, if_true, List.getElem?_eq_getElem h2, Option.map_some]⟩
      · rw [h1]; exact ⟨mvs[id.2], by simp only [memS, mv_io, if_false, if_true, List.getElem?_eq_getElem h2, Option.map_some]⟩
    obtain ⟨row, hrow⟩ := hx
    obtain ⟨id', g0, g1, g2, _⟩ := hlive id row hrow
    exact ⟨sbr (inS ids mids) row, row, by rw [g0]; exact g1, hrow, rfl, rfl, (sbr_len _ _).symm, by rw [g0]; exact g2⟩
  have hentry : WRel Gc ρc w Xc (memS ios mvs) w := by
    refine ⟨?_, ?_, ?_, ⟨rfl, rfl, rfl, Nat.le_refl _, fun _ _ _ => rfl, fun b cur ty fr h => ⟨cur, h, rfl⟩⟩, fun b hb => .inr hb, hW.tab.mono fun b hb => ⟨hS b hb, rfl⟩⟩
    · intro i1 i2 r1 r2 b z1 z2 h1 h2 k1 k2
      obtain ⟨j1, e1, m1, p1, _⟩ := hlive i1 r1 h1
      obtain ⟨j2, e2, m2, p2, _⟩ := hlive i2 r2 h2
      rw [p1] at k1
      rw [p2] at k2
      have := hW.inj j1 j2 _ _ b z1 z2 m1 m2 k1 k2
      exact hinj i1 r1 i2 r2 h1 h2 (by rw [e1, e2, this])
    · intro id row hl
      obtain ⟨id', e1, m1, p1, _, href⟩ := hlive id row hl
      rw [p1]
      exact (rowOk_ren (namesS ios.length mvs.length) hMin href).1 hS (hW.row id' _ m1)
    · intro id row hl
      rcases hmem id row hl with ⟨e, h1, id', h2⟩ | ⟨e, h1, id', h2⟩
      · rw [e, if_pos rfl]
        have hlt : id.2 < (ids.map ρ).length := by rw [List.length_map]; exact (List.getElem?_eq_some_iff.1 h2).1
        show (ids.map ρ ++ mids.map ρ)[id.2]? = _
        rw [List.getElem?_append_left hlt, List.getElem?_map, h2, hρ1 _ _ h2]
        rfl
      · rw [e, if_neg mv_io]
        intro b z hb
        rw [hρ2 _ _ h2] at hb
        exact .inr ⟨z, List.mem_append_right _ (List.mem_map.2 ⟨id', List.mem_of_getElem? h2, hb⟩)⟩
  have hargs : Comps ρc w (Stab Gc ρc (memS ios mvs) w) (memS ios mvs) cargs ys :=
    comps_snap (snap_sound hW hS hId 6 ids (memS ios mvs) ρc (fun k id hk => by
      obtain ⟨row, h1, h2, h3⟩ := liveI k id hk
      exact ⟨_, row, h2, by simp only [memS, if_true, h1, Option.map_some], rfl, rfl, (sbr_len _ _).symm, hρ1 k id hk⟩)) ok.snap hc
  refine (hC.2 Gc w Xc ρc cargs hentry hargs).mono ?_
  rintro e w' ⟨v, ρ', rfl, hR, hv⟩
  have hkeep := hR.keep
  let ρ2 : Id → Option (Nat × Nat) := fun id => if id.1 = d then ρ' (mv, id.2) else ρ id
  let M2 : Mem := M.upds (upsS d ids mids rd ios' mvs')
  show ∃ v_1 ρ2, Ending.returned v = Ending.returned v_1 ∧ Trans G ρ M w ρ2 M2 w' ∧ WRel G ρ2 w0 X M2 w' ∧ Rep ρ2 w' (Stab G ρ2 M2 w') M2 v_1 (subD 5 (outS ids d) r)
  have hM2 : M2 = ((((M.upds (deadS rd)).upds (deadS mids)).upds (backS (outS ids d) ids ios')).upds (newS d (outS ids d) 0 mvs')) := by simp only [M2, upsS, upds_append]
  have m2d : ∀ k : Nat, M2 (d, k) = (mvs'[k]?).map fun row => some (sbr (outS ids d) row) := by
    intro k
    rw [hM2, newS_at _ mvs' 0 k, if_pos (Nat.zero_le _), Nat.sub_zero]
    cases mvs'[k]? with
    | some row => rfl
    | none =>
      show (((M.upds (deadS rd)).upds (deadS mids)).upds (backS (outS ids d) ids ios')) (d, k) = none
      have no : ∀ id, id ∈ ids ∨ id ∈ mids ∨ id ∈ rd → id ≠ (d, k) := fun id h e => by
        subst e
        have : ∃ r0, M (d, k) = some (some r0) := by
          rcases h with h | h | h
          · exact liveA _ (.inl h)
          · exact liveA _ (.inr h)
          · exact (ok.given _ h).2
        obtain ⟨r0, h0⟩ := this
        rw [ok.free] at h0; cases h0
      rw [upds_other _ _ _ (fun p hp e => no _ (.inl (backS_fst p hp)) e), deadS_other _ (fun h => no _ (.inr (.inl h)) rfl), deadS_other _ (fun h => no _ (.inr (.inr h)) rfl)]
      exact ok.free k
  have m2n : ∀ id, id.1 ≠ d → M2 id = (((M.upds (deadS rd)).upds (deadS mids)).upds (backS (outS ids d) ids ios')) id := fun id h => by
    rw [hM2, upds_other _ _ id (fun p hp e => h (by rw [← e]; exact newS_fst p hp))]
  have m2i : ∀ (k : Nat) id, ids[k]? = some id → ∃ row', ios'[k]? = some row' ∧ M2 id = some (some (sbr (outS ids d) row')) ∧ id.1 ≠ d := by
    intro k id hk
    have hlt : k < ios'.length := by rw [ok.len', ← ok.len]; exact (List.getElem?_eq_some_iff.1 hk).1
    obtain ⟨row, _, h2, _⟩ := liveI k id hk
    have hne := nd id _ h2
    refine ⟨_, List.getElem?_eq_getElem hlt, ?_, hne⟩
    rw [m2n id hne]
    exact backS_at _ ids ios' k id _ hnd.1 hk (List.getElem?_eq_getElem hlt)
  have m2m : ∀ id, id ∈ mids → M2 id = some none := by
    intro id h
    obtain ⟨r0, h0⟩ := liveA id (.inr h)
    rw [m2n id (nd id _ h0), upds_other _ _ _ (fun p hp e => hdis id (by rw [← e]; exact backS_fst p hp) h)]
    exact deadS_at _ h
  have m2r : ∀ id, id ∈ rd → M2 id = some none := by
    intro id h
    obtain ⟨r0, h0⟩ := (ok.given id h).2
    rw [m2n id (nd id _ h0), upds_other _ _ _ (fun p hp e => (ok.apart id h).1 (by rw [← e]; exact backS_fst p hp)), deadS_other _ (ok.apart id h).2]
    exact deadS_at _ h
  have m2o : ∀ id, id.1 ≠ d → id ∉ ids → id ∉ mids → id ∉ rd → M2 id = M id := by
    intro id h1 h2 h3 h4
    rw [m2n id h1, upds_other _ _ _ (fun p hp e => h2 (by rw [← e]; exact backS_fst p hp)), deadS_other _ h3, deadS_other _ h4]
  have old : ∀ id r2, id.1 ≠ d → M2 id = some (some r2) → id ∉ mids ∧ id ∉ rd ∧ (∃ r0, M id = some (some r0)) ∧ (id ∉ ids → M id = some (some r2)) := by
    intro id r2 h1 h2
    have n1 : id ∉ mids := fun h => by rw [m2m id h] at h2; cases h2
    have n2 : id ∉ rd := fun h => by rw [m2r id h] at h2; cases h2
    refine ⟨n1, n2, ?_, fun h => by rw [m2o id h1 h n1 n2] at h2; exact h2⟩
    by_cases h : id ∈ ids
    · exact liveA id (.inl h)
    · rw [m2o id h1 h n1 n2] at h2; exact ⟨_, h2⟩
  have outI : ∀ (k : Nat) row, ios'[k]? = some row → memS ios' mvs' (io, k) = some (some row) := fun k row h => by simp only [memS, if_true, h, Option.map_some]
  have outM : ∀ (k : Nat) row, mvs'[k]? = some row → memS ios' mvs' (mv, k) = some (some row) := fun k row h => by simp only [memS, mv_io, if_false, if_true, h, Option.map_some]
  have ρio : ∀ (k : Nat) id, ids[k]? = some id → ρ' (io, k) = ρ id := by
    intro k id hk
    obtain ⟨row', h1, _⟩ := m2i k id hk
    have := hR.new (io, k) _ (outI k row' h1)
    rw [if_pos rfl] at this
    have hlt : k < (ids.map ρ).length := by rw [List.length_map]; exact (List.getElem?_eq_some_iff.1 hk).1
    rw [show Xc[k]? = some (ρ id) from by show (ids.map ρ ++ mids.map ρ)[k]? = _; rw [List.getElem?_append_left hlt, List.getElem?_map, hk]; rfl] at this
    injection this with this
    exact this.symm
  have newM : ∀ (k : Nat) row b z, mvs'[k]? = some row → ρ' (mv, k) = some (b, z) → w.heap.size ≤ b ∨ ∃ id ∈ mids, ∃ z', ρ id = some (b, z') := by
    intro k row b z h1 hb
    have := hR.new (mv, k) _ (outM k row h1)
    rw [if_neg mv_io] at this
    rcases this b z hb with h2 | ⟨z', h2⟩
    · exact .inl h2
    · obtain ⟨id, hid | hid, he⟩ := hXc b z' h2
      · exfalso
        obtain ⟨k2, hk2⟩ := List.getElem?_of_mem hid
        obtain ⟨row', g1, _⟩ := m2i k2 id hk2
        have := hR.inj (mv, k) (io, k2) _ _ b z z' (outM k row h1) (outI k2 row' g1) hb (by rw [ρio k2 id hk2]; exact he)
        exact mv_io (congrArg Prod.fst this)
      · exact .inr ⟨id, hid, z', he⟩
  have same : ∀ b, b < w.heap.size → (∀ id, id ∈ ids ∨ id ∈ mids → ∀ z, ρ id ≠ some (b, z)) → w'.heap[b]? = w.heap[b]? := fun b hb h =>
    hkeep.block b hb fun z hm => by
      obtain ⟨id, h1, h2⟩ := hXc b z hm
      exact h id h1 z h2
  have ρ2o : ∀ id, id.1 ≠ d → ρ2 id = ρ id := fun id h => by simp only [ρ2, h, if_false]
  have ρ2d : ∀ k : Nat, ρ2 (d, k) = ρ' (mv, k) := fun k => by simp only [ρ2, if_true]
  have dcase : ∀ id r2, id.1 = d → M2 id = some (some r2) → ∃ row, mvs'[id.2]? = some row ∧ r2 = sbr (outS ids d) row := by
    intro id r2 h1 h2
    rw [show id = (d, id.2) from by rw [← h1], m2d] at h2
    obtain ⟨row, g1, g2⟩ := Option.map_eq_some_iff.1 h2
    injection g2 with g2
    exact ⟨row, g1, g2.symm⟩
  have stab2 : ∀ b, Stab Gc ρ' (memS ios' mvs') w' b → Stab G ρ2 M2 w' b := by
    intro b hb
    refine ⟨hb.1, fun id r2 z hl hh => ?_, ?_⟩
    · by_cases hit : id.1 = d
      · obtain ⟨row, h1, _⟩ := dcase id r2 hit hl
        rw [show id = (d, id.2) from by rw [← hit], ρ2d] at hh
        exact hb.2.1 (mv, id.2) row z (outM _ _ h1) hh
      · rw [ρ2o id hit] at hh
        obtain ⟨n1, n2, ⟨r0, h0⟩, n3⟩ := old id r2 hit hl
        by_cases hi : id ∈ ids
        · obtain ⟨k, hk⟩ := List.getElem?_of_mem hi
          obtain ⟨row', g1, _⟩ := m2i k id hk
          exact hb.2.1 (io, k) _ z (outI k row' g1) (by rw [ρio k id hk]; exact hh)
        · rcases hb.2.2 with hG | hG | ⟨z', hG⟩
          · exact hG.2.1 id r2 z (by rw [deadS_other M n2]; exact n3 hi) hh
          · have := hW.lt h0 hh; omega
          · obtain ⟨id', h1, h2⟩ := hXc b z' hG
            obtain ⟨r1, h3⟩ := liveA id' h1
            have := hW.inj id id' r0 r1 b z z' h0 h3 hh h2
            subst this
            rcases h1 with h1 | h1
            · exact hi h1
            · exact n1 h1
    · rcases hb.2.2 with hG | hG | ⟨z, hG⟩
      · exact hG.2.2
      · exact hW.good b (.inl (Nat.le_trans hW.keep.size hG))
      · obtain ⟨id', h1, h2⟩ := hXc b z hG
        obtain ⟨r1, h3⟩ := liveA id' h1
        have := hW.new id' r1 h3
        split at this
        · exact hW.good b (.inr ⟨z, by rw [← h2]; exact List.mem_of_getElem? this⟩)
        · exact hW.good b (this b z h2)
  have stab1 : ∀ b, Stab G ρ M w b → Stab G ρ2 M2 w' b ∧ w'.heap[b]? = w.heap[b]? := by
    intro b hb
    refine ⟨⟨Nat.lt_of_lt_of_le hb.1 hkeep.size, fun id r2 z hl hh => ?_, hb.2.2⟩, same b hb.1 fun id hid z => ?_⟩
    · by_cases hit : id.1 = d
      · obtain ⟨row, h1, _⟩ := dcase id r2 hit hl
        rw [show id = (d, id.2) from by rw [← hit], ρ2d] at hh
        rcases newM _ _ _ _ h1 hh with h2 | ⟨id', h2, z', h3⟩
        · have := hb.1; omega
        · obtain ⟨r1, h4⟩ := liveA id' (.inr h2)
          exact hb.2.1 id' r1 z' h4 h3
      · rw [ρ2o id hit] at hh
        obtain ⟨_, _, ⟨r0, h0⟩, _⟩ := old id r2 hit hl
        exact hb.2.1 id r0 z h0 hh
    · obtain ⟨r1, h4⟩ := liveA id hid
      exact hb.2.1 id r1 z h4
  have T2 : Trans G ρ M w ρ2 M2 w' := by
    refine ⟨stab1, fun id => ?_⟩
    cases hMi : M id with
    | none => trivial
    | some o =>
      have hit := nd id _ hMi
      by_cases hi : id ∈ ids
      · obtain ⟨k, hk⟩ := List.getElem?_of_mem hi
        obtain ⟨row, g1, g2, _⟩ := liveI k id hk
        obtain ⟨row', g3, g4, _⟩ := m2i k id hk
        obtain ⟨s1, s2, s3, s4, s5⟩ := ok.shape k row row' g1 g3
        rw [hMi] at g2
        injection g2 with g2
        subst g2
        refine .inr ⟨sbr (outS ids d) row', g4, s1, s2, by rw [sbr_len, sbr_len, s3]; exact Nat.le_refl _, ρ2o id hit, fun b z hb cur hcur => ?_⟩
        exact hkeep.shape b cur _ (0, 0) hcur
      · cases o with
        | none =>
          show M2 id = some none
          by_cases h1 : id ∈ mids
          · exact m2m id h1
          · by_cases h2 : id ∈ rd
            · exact m2r id h2
            · rw [m2o id hit hi h1 h2]; exact hMi
        | some r0 =>
          show M2 id = some none ∨ _
          by_cases h1 : id ∈ mids
          · exact .inl (m2m id h1)
          · by_cases h2 : id ∈ rd
            · exact .inl (m2r id h2)
            · refine .inr ⟨r0, by rw [m2o id hit hi h1 h2]; exact hMi, rfl, rfl, Nat.le_refl _, ρ2o id hit, fun b z hb cur hcur => hkeep.shape b cur _ (0, 0) hcur⟩
  have hMout : ∀ id, ((namesS ios.length mvs.length).any fun k => Nat.beq k.1 id.1 && Nat.beq k.2 id.2) = true → ∃ r r', M2 (outS ids d id) = some (some r) ∧ memS ios' mvs' id = some (some r') ∧ r'.sz = r.sz ∧ r'.ty = r.ty ∧ r'.es.length = r.es.length ∧ ρ' id = ρ2 (outS ids d id) := by
    intro id hid
    rcases namesS_any hid with ⟨h1, h2⟩ | ⟨h1, h2⟩
    · have hlt : id.2 < ids.length := by rw [ok.len]; exact h2
      have hk := List.getElem?_eq_getElem hlt
      obtain ⟨row', g1, g2, g3⟩ := m2i _ _ hk
      rw [h1]
      exact ⟨sbr (outS ids d) row', row', by rw [hout1 _ _ hk]; exact g2, outI _ _ g1, rfl, rfl, (sbr_len _ _).symm, by rw [hout1 _ _ hk, ρ2o _ g3]; exact ρio _ _ hk⟩
    · have hlt : id.2 < mvs'.length := by rw [ok.lem']; exact h2
      have hk := List.getElem?_eq_getElem hlt
      rw [h1]
      exact ⟨sbr (outS ids d) mvs'[id.2], mvs'[id.2], by rw [hout2, m2d, hk]; rfl, outM _ _ hk, rfl, rfl, (sbr_len _ _).symm, by rw [hout2, ρ2d]⟩
  refine ⟨v, ρ2, rfl, T2, ⟨?_, ?_, ?_, ?_, hW.good, hW.tab.mono T2.stab⟩, ?_⟩
  · intro i1 i2 r1 r2 b z1 z2 h1 h2 k1 k2
    have cross : ∀ i1 i2 r1 r2 z1 z2, i1.1 = d → i2.1 ≠ d → M2 i1 = some (some r1) → M2 i2 = some (some r2) → ρ2 i1 = some (b, z1) → ρ2 i2 = some (b, z2) → False := by
      intro i1 i2 r1 r2 z1 z2 e1 e2 h1 h2 k1 k2
      obtain ⟨row, g1, _⟩ := dcase i1 r1 e1 h1
      rw [show i1 = (d, i1.2) from by rw [← e1], ρ2d] at k1
      rw [ρ2o i2 e2] at k2
      obtain ⟨n1, _, ⟨r0, h0⟩, _⟩ := old i2 r2 e2 h2
      rcases newM _ _ _ _ g1 k1 with h3 | ⟨id', h3, z', h4⟩
      · have := hW.lt h0 k2; omega
      · obtain ⟨r3, h5⟩ := liveA id' (.inr h3)
        have := hW.inj i2 id' r0 r3 b z2 z' h0 h5 k2 h4
        exact n1 (by rw [this]; exact h3)
    by_cases e1 : i1.1 = d <;> by_cases e2 : i2.1 = d
    · obtain ⟨row1, g1, _⟩ := dcase i1 r1 e1 h1
      obtain ⟨row2, g2, _⟩ := dcase i2 r2 e2 h2
      rw [show i1 = (d, i1.2) from by rw [← e1], ρ2d] at k1
      rw [show i2 = (d, i2.2) from by rw [← e2], ρ2d] at k2
      have := hR.inj (mv, i1.2) (mv, i2.2) _ _ b z1 z2 (outM _ _ g1) (outM _ _ g2) k1 k2
      exact Prod.ext (e1.trans e2.symm) (Prod.mk.inj this).2
    · exact (cross i1 i2 r1 r2 z1 z2 e1 e2 h1 h2 k1 k2).elim
    · exact (cross i2 i1 r2 r1 z2 z1 e2 e1 h2 h1 k2 k1).elim
    · rw [ρ2o _ e1] at k1
      rw [ρ2o _ e2] at k2
      obtain ⟨_, _, ⟨q1, h3⟩, _⟩ := old i1 r1 e1 h1
      obtain ⟨_, _, ⟨q2, h4⟩, _⟩ := old i2 r2 e2 h2
      exact hW.inj i1 i2 q1 q2 b z1 z2 h3 h4 k1 k2
  · intro id r2 hl
    by_cases hit : id.1 = d
    · obtain ⟨row, h1, rfl⟩ := dcase id r2 hit hl
      rw [show id = (d, id.2) from by rw [← hit], ρ2d]
      have hb := ok.shapm row (List.mem_of_getElem? h1)
      exact (rowOk_ren (namesS ios.length mvs.length) hMout (fun h => by rw [hb] at h; cases h)).2 stab2 (hR.row (mv, id.2) row (outM _ _ h1))
    · rw [ρ2o id hit]
      by_cases hi : id ∈ ids
      · obtain ⟨k, hk⟩ := List.getElem?_of_mem hi
        obtain ⟨row, g1, g2, _⟩ := liveI k id hk
        obtain ⟨row', g3, g4, _⟩ := m2i k id hk
        rw [hl] at g4
        injection g4 with g4
        injection g4 with g4
        subst g4
        have := hR.row (io, k) row' (outI k row' g3)
        rw [ρio k id hk] at this
        exact (rowOk_ren (namesS ios.length mvs.length) hMout (ok.shape k row row' g1 g3).2.2.2.2).2 stab2 this
      · obtain ⟨n1, n2, ⟨r0, h0⟩, n3⟩ := old id r2 hit hl
        refine (hW.row id r2 (n3 hi)).mono T2 fun b z hb => ?_
        refine same b (hW.lt h0 hb) fun id2 hid2 z2 hh => ?_
        obtain ⟨r3, h3⟩ := liveA id2 hid2
        have := hW.inj id id2 r0 r3 b z z2 h0 h3 hb hh
        subst this
        rcases hid2 with h | h
        · exact hi h
        · exact n1 h
  · intro id r2 hl
    by_cases hit : id.1 = d
    · rw [if_neg (by rw [hit]; exact ok.dio)]
      intro b z hb
      obtain ⟨row, h1, _⟩ := dcase id r2 hit hl
      rw [show id = (d, id.2) from by rw [← hit], ρ2d] at hb
      rcases newM _ _ _ _ h1 hb with h2 | ⟨id', h2, z', h3⟩
      · exact .inl (Nat.le_trans hW.keep.size h2)
      · obtain ⟨k, hk⟩ := List.getElem?_of_mem h2
        obtain ⟨row0, _, h4, _, h5⟩ := liveM k id' hk
        have := hW.new id' _ h4
        rw [if_neg h5] at this
        exact this b z' h3
    · obtain ⟨_, _, ⟨r0, h0⟩, _⟩ := old id r2 hit hl
      rw [ρ2o id hit]
      exact hW.new id r0 h0
  · refine ⟨hkeep.os.trans hW.keep.os, hkeep.tape.trans hW.keep.tape, hkeep.output.trans hW.keep.output, Nat.le_trans hW.keep.size hkeep.size, fun b hb hX => ?_, fun b cur ty fr hb => ?_⟩
    · refine (same b (Nat.lt_of_lt_of_le hb hW.keep.size) fun id hid z hh => ?_).trans (hW.keep.block b hb hX)
      obtain ⟨r3, h3⟩ := liveA id hid
      have := hW.new id r3 h3
      split at this
      · exact hX z (by rw [← hh]; exact List.mem_of_getElem? this)
      · rcases this b z hh with h1 | ⟨z', h1⟩
        · omega
        · exact hX z' h1
    · obtain ⟨c1, k1, k2⟩ := hW.keep.shape b cur ty fr hb
      obtain ⟨c2, k3, k4⟩ := hkeep.shape b c1 ty fr k1
      exact ⟨c2, k3, k4.trans k2⟩
  · exact (rep_ren (namesS ios.length mvs.length) hMout 5 r v hrr).2 stab2 hv
end
section
variable [fl : Inhabited FlrT]
variable {P : Program} {draw : Bool} {ops : Array Oper} {rest : List Oper} {env : List (Nat × PV)} {mem : List (Id × Option Row)} {tr : List (List Id × List Id)} {K : St → List (List Id × List Id) → Prop}
  {d : Nat} {ty : TypeId} {pos : String} {af : Array Edge}
theorem sem_callR {o : Oper} {V : Nat → PV} {M : Mem} {c : Call} {f : Operand} {g : FuncId} {fi ca ys : List PV} {r : PV} {ids mids rd : List Id} {ios mvs ios' mvs' : List Row} (ho : o.op = .call c) (hd : o.dst = some d) (hcal : c.callee = .value f) (hev : ev V f = .fn g fi ca)
    (hC : ContractR P g ys ios mvs r ios' mvs') (hrr : refsD 5 (namesS ios.length mvs.length) r = true) (hok : CallOkS M d (fi ++ c.args.toList.map (ev V) ++ ca) ys ids mids rd ios mvs ios' mvs') :
    SemStep P o V M ⟨subD 5 (outS ids d) r, upsS d ids mids rd ios' mvs', (d, 0) :: (ids ++ (mids ++ rd))⟩ := by
  intro V' M' hV' hM' G w0 X N a w K Q hdN _ hR hK
  obtain ⟨ρ, hW, hdef, hs, hV⟩ := hR
  have hop : o.op.operands = c.operands := by rw [ho]; rfl
  have hev' : ev V' f = .fn g fi ca := by rw [hV' f (by rw [hop]; simp [Call.operands, hcal])]; exact hev
  have hargsE : c.args.toList.map (ev V') = c.args.toList.map (ev V) := List.map_congr_left fun y hy => hV' y (by rw [hop]; simp [Call.operands]; exact .inr (Array.mem_toList_iff.1 hy))
  have hok' : CallOkS M' d (fi ++ c.args.toList.map (ev V') ++ ca) ys ids mids rd ios mvs ios' mvs' := by
    rw [hargsE]
    refine hok.congr fun id hid => hM' id (List.mem_map.2 ?_)
    rcases hid with h | h | h | h
    · exact ⟨(d, 0), by simp, h.symm⟩
    · exact ⟨id, List.mem_append_left _ (List.mem_cons_of_mem _ (List.mem_append_left _ h)), rfl⟩
    · exact ⟨id, List.mem_append_left _ (List.mem_cons_of_mem _ (List.mem_append_right _ (List.mem_append_left _ h))), rfl⟩
    · exact ⟨id, List.mem_append_left _ (List.mem_cons_of_mem _ (List.mem_append_right _ (List.mem_append_right _ h))), rfl⟩
  have hf := rep_ev hV f
  rw [hev'] at hf
  obtain ⟨vfi, vca, hfv, c1, c2⟩ := rep_fn.1 hf
  have hargs := (c1.append (comps_map hV c.args)).append c2
  obtain ⟨fn, hfn, hname, hbody⟩ := hC.1
  have hrun : (execOp a.eval o).run P w = .ok (.enter g (vfi ++ c.args.map a.eval ++ vca)) w := by
    simp only [execOp, ho, resolve, hcal, hfv, Deferred.ofValue, Sem.run_bind, Sem.run_pure, Result.andThen_ok, invoke, callFunc, run_program, hfn, hname, hbody, Bool.false_eq_true, if_false]
  unfold Oper.wp
  rw [hrun]
  show Calls P g _ w _
  refine (callR_sound hW hargs hok' hC hrr).mono ?_
  rintro e w' ⟨v, ρ2, rfl, T, W, hx⟩
  exact hK _ _ (put_rel hdN hdef hs hV T W hx)
theorem x_callMr {f : Operand} {args : List Operand} {ats : Array TypeId} {g : FuncId} {fi ca xs ys : List PV} {r v : PV} (ids mids : List Id) {rd : List Id} {ios mvs ios' mvs' : List Row} {up : List (Id × Option Row)}
    (hC : ContractR P g ys ios mvs r ios' mvs') (hf : ev (getE env) f = .fn g fi ca)
    (hxs : fi ++ args.map (ev (getE env)) ++ ca = xs) (hlent : lentS mem (inB ids mids) (namesS ios.length mvs.length) ids ios) (hlemt : lentM mem (inB ids mids) mids mvs) (hrd : rdL (rdO true 6 mem) xs ys [] = some rd)
    (hnd : (nodupB (ids ++ mids) && nodupB rd && rd.all (fun id => !(hasId ids id) && !(hasId mids id) && !Nat.beq id.1 io && (match getM mem id with | some (some _) => true | _ => false))) = true)
    (hsnap : AllR (SnapD 6 (getM mem) ids rd) xs ys) (hfree : freeB mem d = true) (hshape : shapeS (namesS ios.length mvs.length) ios ios') (hlen : Nat.beq mvs'.length mvs.length = true) (hup : upsO d ids mids rd ios' mvs' = some up) (hrr : refsD 5 (namesS ios.length mvs.length) r = true) (hv : subO 5 (outB ids d) r = some v)
    (hk : exec P ops draw rest ⟨(d, v) :: env, up ++ mem⟩ (((d, 0) :: (ids ++ (mids ++ rd)), up.map (·.1)) :: tr) K) :
    exec P ops draw (⟨some d, .call ⟨.value f, args.toArray, ats⟩, ty, pos, af, none⟩ :: rest) ⟨env, mem⟩ tr K := by
  obtain ⟨hu1, hu2⟩ := upsO_ok hup
  obtain ⟨l1, l2⟩ := lentS_ok hlent
  obtain ⟨m1, m2⟩ := lentM_ok hlemt
  obtain ⟨s1, s2⟩ := shapeS_ok hshape
  rw [inB_eq] at l2 m2
  simp only [Bool.and_eq_true] at hnd
  obtain ⟨⟨hn1, hn2⟩, hn3⟩ := hnd
  have hn3 := List.all_eq_true.1 hn3
  obtain ⟨f1, f2⟩ := freeB_ok hfree
  subst hxs
  refine x_sem ⟨v, up, (d, 0) :: (ids ++ (mids ++ rd))⟩ rfl ?_ hk
  rw [← hu1]
  rw [outB_eq] at hv
  rw [← subO_ok 5 _ _ _ hv]
  refine sem_callR (c := ⟨.value f, args.toArray, ats⟩) rfl rfl rfl hf hC hrr ⟨f1, f2, by simpa using hsnap, l1, m1, s1, Nat.eq_of_beq_eq_true hlen, nodupB_ok hn1, l2, m2, fun id hid => ⟨fun hm => ?_, fun hm => ?_⟩, fun id hid => ⟨fun e => ?_, ?_⟩, nodupB_ok hn2, s2, hu2⟩
  · have := hn3 id hid
    simp only [Bool.and_eq_true, Bool.not_eq_true'] at this
    rw [hasId_iff.2 hm] at this
    exact absurd this.1.1.1 (by simp)
  · have := hn3 id hid
    simp only [Bool.and_eq_true, Bool.not_eq_true'] at this
    rw [hasId_iff.2 hm] at this
    exact absurd this.1.1.2 (by simp)
  · have := hn3 id hid
    simp only [Bool.and_eq_true, Bool.not_eq_true'] at this
    have h2 := this.1.2
    rw [e] at h2
    simp at h2
  · have := hn3 id hid
    simp only [Bool.and_eq_true, Bool.not_eq_true'] at this
    have h2 := this.2
    split at h2
    · exact ⟨_, by assumption⟩
    · cases h2
end
def RetPostR (P : Program) (fn : Func) (r : PV) (ios' mvs' : List Row) (e : Exit) (st : St) : Prop :=
  (e = .ret ∨ e = .normal) ∧ ∃ t, fn.results = #[.tmp t] ∧ Ent st ⟨[(t, r)], ioEnv 0 ios' ++ mvEnv 0 mvs'⟩
theorem getE_one (t : Nat) (r : PV) : getE [(t, r)] t = r := by
  show cond (Nat.beq t t) r _ = r
  rw [Nat.beq_refl]
  rfl
theorem contract_ofR {P : Program} {f : FuncId} {fn : Func} {c : Code} {args : List PV} {ios mvs ios' mvs' : List Row} {r : PV} (hm : P.follows .mixedOrders = true) (hf : P.funcs[f]? = some fn) (hb : fn.body = some c)
    (hname : (fn.name == "runtime.NumGoroutine") = false) (hok : codeOk fn.ntmps c = true) (hargs : args.length ≤ fn.ntmps)
    (h : vwp P c ⟨argsEnv 0 args, ioEnv 0 ios ++ mvEnv 0 mvs⟩ (RetPostR P fn r ios' mvs')) : ContractR P f args ios mvs r ios' mvs' := by
  refine ⟨⟨fn, hf, hname, by rw [hb]; rfl⟩, fun G w X ρ cargs hW hC => ?_⟩
  refine calls_of_wp hf hb ?_
  have hM : (⟨argsEnv 0 args, ioEnv 0 ios ++ mvEnv 0 mvs⟩ : St).M = memS ios mvs := memS_eq ios mvs
  have hR : RelF G w X fn.ntmps (⟨argsEnv 0 args, ioEnv 0 ios ++ mvEnv 0 mvs⟩ : St).V (⟨argsEnv 0 args, ioEnv 0 ios ++ mvEnv 0 mvs⟩ : St).M { tmps := cargs ++ Array.replicate (fn.ntmps - cargs.size) undef, defers := [] } w := by
    rw [hM]
    refine ⟨ρ, hW, rfl, by simp [hC.1]; omega, fun t => ?_⟩
    show Rep ρ w _ _ _ (getE (argsEnv 0 args) t)
    rw [getE_args, if_pos (Nat.zero_le _), Nat.sub_zero]
    cases ht : args[t]? with
    | none => exact rep_any
    | some x =>
      obtain ⟨v, h1, h2⟩ := hC.2 t x ht
      have hlt := (Array.getElem?_eq_some_iff.1 h1).1
      have : (cargs ++ Array.replicate (fn.ntmps - cargs.size) undef).getD t undef = v := by
        rw [Array.getD_eq_getD_getElem?, Array.getElem?_append_left hlt, h1]
        rfl
      rw [this]
      exact h2
  refine wp_mono (vwp_sound (flOk0 _ _) hm c _ _ _ w hok h hR) ?_
  rintro e a' w' ⟨st', ⟨he, t, hres, hent⟩, hR'⟩
  obtain ⟨ρ1, hW1, hdef, hs, hV⟩ := hR'
  obtain ⟨ρ2, hW2, _, _, hV2⟩ := hent G w X _ a' w' ⟨ρ1, hW1, hdef, hs, hV⟩
  have hM2 : (⟨[(t, r)], ioEnv 0 ios' ++ mvEnv 0 mvs'⟩ : St).M = memS ios' mvs' := memS_eq ios' mvs'
  obtain ⟨v, hrun, hv⟩ := res_sound (st := ⟨[(t, r)], ioEnv 0 ios' ++ mvEnv 0 mvs'⟩) hW2 hV2 (xs := [r]) (by rw [hres]; exact ⟨getE_one t r, trivial⟩)
  rw [hM2] at hW2 hv
  have goal : ∃ v', (results fn a'.tmps).run P w' = .ok v' w' ∧ ∃ v ρ', Ending.returned v' = .returned v ∧ WRel G ρ' w X (memS ios' mvs') w' ∧ Rep ρ' w' (Stab G ρ' (memS ios' mvs') w') (memS ios' mvs') v r :=
    ⟨v, hrun, v, ρ2, rfl, hW2, hv⟩
  rcases he with rfl | rfl
  · exact ⟨hdef, goal⟩
  · exact ⟨hdef, goal⟩
theorem ret_R {P : Program} {st : St} {fn : Func} {r : PV} {ios' mvs' : List Row} {e : Exit} {ren : List (Id × Id)} {t : Nat} (he : e = .ret ∨ e = .normal) (hr : fn.results = #[.tmp t]) (hren : renA st [(t, r)] (ioEnv 0 ios' ++ mvEnv 0 mvs') = some ren) (hw : WeakerR (oldOf ren) st ⟨[(t, r)], ioEnv 0 ios' ++ mvEnv 0 mvs'⟩) :
    RetPostR P fn r ios' mvs' e st := ⟨he, t, hr, hw.ent⟩
end Go.Vs
set_option linter.unusedVariables false
set_option linter.unusedSimpArgs false
set_option maxRecDepth 100000
set_option maxHeartbeats 4000000
namespace Go.Vs
open Go.Proofs
attribute [local irreducible] exec vwp thenQ blkQ loopQ RetPost RetPostR
theorem k_l1PutS (l : List Int) (n : Int) (m : Nat) (hm : l.length = m) (hn : m ≤ 1000000) (h : l[kPut l n]? = some n) : ContractR Try.prog 44 [.osl (io, 0) 0 m, .int .i64 n] [⟨3, 1, ints l, false⟩] [] (.osl (io, 0) 0 m) [⟨3, 1, ints l, false⟩] [] := by
  refine contract_ofR hmix Try.func44 rfl (by kernel_rfl) (by kernel_rfl) (Nat.le_of_ble_eq_true rfl) ?_
  have hty_u24 := ty_u24
  have hty_s24 := ty_s24
  have hty_c3 := ty_c3
  have hl1 : (ints l).length = l.length := by simp
  repeat' (first | (refine pA (k := ?_)) | (refine g_exec ?_; first | (refine g_guard ?_; refine x_gsplit rfl rfl (fun h => ?_) (fun h => ?_) <;> (have h' := h; try simp only [sx] at h')) | (refine x_nil (hK _ _ aI ?_); clear hK K)) | (refine v_region (fun K hK => ?_)) | (refine v_condt rfl (fun h => ?_) (fun h => ?_) <;> (have h' := h; try simp only [sx] at h')))
  refine v_loopK [0, 1] [] (fun k : Nat => [(5, .int .i64 k)]) (fun k : Nat => []) (fun k : Nat => k ≤ l.length ∧ ∀ (j : Nat) x, j < k → l[j]? = some x → x < n) (fun k : Nat => l.length - k) (0) rfl rfl (fun _ => rfl) (fun _ => rfl) rfl (by refine ⟨?_, ?_, rfl, rfl⟩ <;> (repeat' (first | exact trivial | exact ⟨rfl, rfl⟩ | exact rfl | exact ⟨sub_fn, refs_fn⟩ | refine ⟨⟨rfl, rfl⟩, ?_⟩ | refine ⟨⟨sub_fn, refs_fn⟩, ?_⟩ | refine ⟨⟨rfl, fun h => Bool.noConfusion h⟩, ?_⟩ | refine ⟨⟨rfl, fun h => ?_⟩, ?_⟩ | refine ⟨rfl, ?_⟩ | refine ⟨?_, ?_⟩ | fail))) ⟨by omega, fun j x hj => by omega⟩ (fun k hk => ?_)
  obtain ⟨hk1, hk2⟩ := hk
  rcases Nat.lt_or_ge k l.length with hlt | hge
  · obtain ⟨a, ha⟩ := get_ex hlt
    have hx := ints_at ha
    by_cases hb : a < n
    · repeat' (first | (refine pA (k := ?_)) | (refine g_exec ?_; first | (refine g_guard ?_; refine x_gsplit rfl rfl (fun h => ?_) (fun h => ?_) <;> (have h' := h; try simp only [sx] at h')) | (refine x_nil (hK _ _ aI ?_); clear hK K)) | (refine v_region (fun K hK => ?_)) | (refine v_condt rfl (fun h => ?_) (fun h => ?_) <;> (have h' := h; try simp only [sx] at h')))
      all_goals try (exfalso; omega)
      refine q_next (k + 1) rfl (by refine ⟨?_, ?_, rfl, rfl⟩ <;> (repeat' (first | exact trivial | exact ⟨rfl, rfl⟩ | exact rfl | exact ⟨sub_fn, refs_fn⟩ | refine ⟨⟨rfl, rfl⟩, ?_⟩ | refine ⟨⟨sub_fn, refs_fn⟩, ?_⟩ | refine ⟨⟨rfl, fun h => Bool.noConfusion h⟩, ?_⟩ | refine ⟨⟨rfl, fun h => ?_⟩, ?_⟩ | refine ⟨rfl, ?_⟩ | refine ⟨?_, ?_⟩ | fail))) ⟨by omega, fun j x hj hxx => ?_⟩ aO
      rcases Nat.lt_or_ge j k with h1 | h1
      · exact hk2 j x h1 hxx
      · have : j = k := by omega
        subst this
        rw [ha] at hxx
        injection hxx with hxx
        omega
    · have e : kPut l n = k := kPut_is hk1 hk2 fun x hx => by rw [ha] at hx; injection hx with hx; omega
      rw [e, ha] at h
      injection h with heq
      repeat' (first | (refine pA (k := ?_)) | (refine g_exec ?_; first | (refine g_guard ?_; refine x_gsplit rfl rfl (fun h => ?_) (fun h => ?_) <;> (have h' := h; try simp only [sx] at h')) | (refine x_nil (hK _ _ aI ?_); clear hK K)) | (refine v_region (fun K hK => ?_)) | (refine v_condt rfl (fun h => ?_) (fun h => ?_) <;> (have h' := h; try simp only [sx] at h')))
      all_goals first
        | (exfalso; omega)
        | refine ret_R (by first | exact .inl rfl | exact .inr rfl) rfl rfl (by refine ⟨?_, ?_⟩ <;> (repeat' (first | exact trivial | exact ⟨rfl, rfl⟩ | exact rfl | exact ⟨sub_fn, refs_fn⟩ | refine ⟨⟨rfl, rfl⟩, ?_⟩ | refine ⟨⟨sub_fn, refs_fn⟩, ?_⟩ | refine ⟨⟨rfl, fun h => Bool.noConfusion h⟩, ?_⟩ | refine ⟨⟨rfl, fun h => ?_⟩, ?_⟩ | refine ⟨rfl, ?_⟩ | refine ⟨?_, ?_⟩ | fail)))
  · have : k = l.length := by omega
    subst this
    have e : kPut l n = l.length := kPut_is hk1 hk2 fun x hx => by have := get_lt hx; omega
    rw [e] at h
    have := get_lt h
    omega
theorem k_l1PutN (l : List Int) (n : Int) (hn : l.length ≤ 1000000) (h : l[kPut l n]? ≠ some n) : Con Try.prog 44 [.list 1 (ints l), .int .i64 n] (.olist 3 1 (ints (put l n))) := by
  intro al
  refine contract_of hmix Try.func44 rfl (by kernel_rfl) (by kernel_rfl) (Nat.le_of_ble_eq_true rfl) (fun row h => by cases h) ?_
  have hty_u24 := ty_u24
  have hty_s24 := ty_s24
  have hty_c3 := ty_c3
  have hl1 : (ints l).length = l.length := by simp
  repeat' (first | (refine pA (k := ?_)) | (refine g_exec ?_; first | (refine g_guard ?_; refine x_gsplit rfl rfl (fun h => ?_) (fun h => ?_) <;> (have h' := h; try simp only [sx] at h')) | (refine x_nil (hK _ _ aI ?_); clear hK K)) | (refine v_region (fun K hK => ?_)) | (refine v_condt rfl (fun h => ?_) (fun h => ?_) <;> (have h' := h; try simp only [sx] at h')))
  refine v_loopK [0, 1] [] (fun k : Nat => [(5, .int .i64 k)]) (fun k : Nat => []) (fun k : Nat => k ≤ l.length ∧ ∀ (j : Nat) x, j < k → l[j]? = some x → x < n) (fun k : Nat => l.length - k) (0) rfl rfl (fun _ => rfl) (fun _ => rfl) rfl (by refine ⟨?_, ?_, rfl, rfl⟩ <;> (repeat' (first | exact trivial | exact ⟨rfl, rfl⟩ | exact rfl | exact ⟨sub_fn, refs_fn⟩ | refine ⟨⟨rfl, rfl⟩, ?_⟩ | refine ⟨⟨sub_fn, refs_fn⟩, ?_⟩ | refine ⟨⟨rfl, fun h => Bool.noConfusion h⟩, ?_⟩ | refine ⟨⟨rfl, fun h => ?_⟩, ?_⟩ | refine ⟨rfl, ?_⟩ | refine ⟨?_, ?_⟩ | fail))) ⟨by omega, fun j x hj => by omega⟩ (fun k hk => ?_)
  obtain ⟨hk1, hk2⟩ := hk
  have hs1 : ((ints l).take ((k : Nat) : Int).toNat).drop (((0 : Nat) : Int)).toNat = (ints l).take k := by simp
  have hs2 : ((ints l).take (((ints l).length : Nat) : Int).toNat).drop ((k : Nat) : Int).toNat = (ints l).drop k := by rw [Int.toNat_natCast, Int.toNat_natCast, List.take_length]
  have hs3 : ((ints l).take k).length = k := by rw [List.length_take]; omega
  have hs4 : ((ints l).drop k).length = l.length - k := by rw [List.length_drop]; omega
  rcases Nat.lt_or_ge k l.length with hlt | hge
  · obtain ⟨a, ha⟩ := get_ex hlt
    have hx := ints_at ha
    by_cases hb : a < n
    · repeat' (first | (refine pA (k := ?_)) | (refine g_exec ?_; first | (refine g_guard ?_; refine x_gsplit rfl rfl (fun h => ?_) (fun h => ?_) <;> (have h' := h; try simp only [sx] at h')) | (refine x_nil (hK _ _ aI ?_); clear hK K)) | (refine v_region (fun K hK => ?_)) | (refine v_condt rfl (fun h => ?_) (fun h => ?_) <;> (have h' := h; try simp only [sx] at h')))
      all_goals try (exfalso; omega)
      refine q_next (k + 1) rfl (by refine ⟨?_, ?_, rfl, rfl⟩ <;> (repeat' (first | exact trivial | exact ⟨rfl, rfl⟩ | exact rfl | exact ⟨sub_fn, refs_fn⟩ | refine ⟨⟨rfl, rfl⟩, ?_⟩ | refine ⟨⟨sub_fn, refs_fn⟩, ?_⟩ | refine ⟨⟨rfl, fun h => Bool.noConfusion h⟩, ?_⟩ | refine ⟨⟨rfl, fun h => ?_⟩, ?_⟩ | refine ⟨rfl, ?_⟩ | refine ⟨?_, ?_⟩ | fail))) ⟨by omega, fun j x hj hxx => ?_⟩ aO
      rcases Nat.lt_or_ge j k with h1 | h1
      · exact hk2 j x h1 hxx
      · have : j = k := by omega
        subst this
        rw [ha] at hxx
        injection hxx with hxx
        omega
    · have e : kPut l n = k := kPut_is hk1 hk2 fun x hx => by rw [ha] at hx; injection hx with hx; omega
      have heq : a ≠ n := fun hh => h (by rw [e, ha, hh])
      have e2 : put l n = l.take k ++ (n :: l.drop k) := by unfold put; rw [e, if_neg (by rw [ha]; intro h; injection h with h; exact heq h)]
      have e3 : ints (put l n) = ((ints l).take k ++ [[.int .i64 n]]) ++ (ints l).drop k := by rw [e2]; simp [ints, List.map_take, List.map_drop]
      have hfl : ∀ e ∈ ((ints l).take k ++ [[.int .i64 n]]) ++ (ints l).drop k, ∀ c ∈ e, c.flat = true := by rw [← e3]; exact ints_flat _
      rw [e3]
      repeat' (first | (refine pA (k := ?_)) | (refine g_exec ?_; first | (refine g_guard ?_; refine x_gsplit rfl rfl (fun h => ?_) (fun h => ?_) <;> (have h' := h; try simp only [sx] at h')) | (refine x_nil (hK _ _ aI ?_); clear hK K)) | (refine v_region (fun K hK => ?_)) | (refine v_condt rfl (fun h => ?_) (fun h => ?_) <;> (have h' := h; try simp only [sx] at h')))
      all_goals first
        | (exfalso; omega)
        | (refine ret_list rfl (lookE_ok rfl) rfl ?_ ?_ hfl rfl <;> first | decide | (simp; done) | (simp; omega))
  · have e : kPut l n = l.length := by
      have : k = l.length := by omega
      subst this
      exact kPut_is hk1 hk2 fun x hx => by have := get_lt hx; omega
    have e2 : put l n = l.take l.length ++ (n :: l.drop l.length) := by unfold put; rw [e, if_neg (by rw [List.getElem?_eq_none (Nat.le_refl _)]; intro h; cases h)]
    have e3 : ints (put l n) = ((ints l).take l.length ++ [[.int .i64 n]]) ++ (ints l).drop l.length := by rw [e2]; simp only [ints, List.map_append, List.map_cons, List.map_take, List.map_drop, List.append_assoc, List.cons_append, List.nil_append]
    have hk3 : k = l.length := by omega
    subst hk3
    have hfl : ∀ e ∈ ((ints l).take l.length ++ [[.int .i64 n]]) ++ (ints l).drop l.length, ∀ c ∈ e, c.flat = true := by rw [← e3]; exact ints_flat _
    rw [e3]
    repeat' (first | (refine pA (k := ?_)) | (refine g_exec ?_; first | (refine g_guard ?_; refine x_gsplit rfl rfl (fun h => ?_) (fun h => ?_) <;> (have h' := h; try simp only [sx] at h')) | (refine x_nil (hK _ _ aI ?_); clear hK K)) | (refine v_region (fun K hK => ?_)) | (refine v_condt rfl (fun h => ?_) (fun h => ?_) <;> (have h' := h; try simp only [sx] at h')))
    all_goals first
      | (exfalso; omega)
      | (refine ret_list rfl (lookE_ok rfl) rfl ?_ ?_ hfl rfl <;> first | decide | (simp; done) | (simp; omega))
end Go.Vs
